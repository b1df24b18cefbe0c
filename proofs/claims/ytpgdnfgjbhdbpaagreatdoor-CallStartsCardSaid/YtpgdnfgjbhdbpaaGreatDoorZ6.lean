/-
  Texts that were built apart, put behind one another (6 of 6): NW NX.
  Conditions: none.
-/
import Derived.Test.YtpgdnfgjbhdbpaaGreatDoorZ5
/-
  Which calls may be, are the same, and the frames in which they begin: the law.
  Conditions: none.
-/
namespace Go.Proofs.YtpgdnfgjbhdbpaaGreatDoor
open Go Go.RowKit SL
set_option maxRecDepth 8000
set_option maxHeartbeats 4000000
set_option linter.unusedSimpArgs false
set_option linter.unusedVariables false
attribute [local irreducible] SL.CW SL.LW SL.DW Calls SL.Ret SL.RetG SL.beginQ SL.roundQ SL.rangeQ SL.inQ SL.RW SL.AnyW SL.thenQ SL.thenC SL.thenW SL.blkQ SL.finQ SL.ValP SL.NewP SL.SetP SL.CallP SL.Rd SL.Wr SL.Known
theorem CallStarts_walk (v0 : Value) (l0 : List (ClV × ClL)) (v1 : Value) (l1 : List UInt8) (w : World) (hr0 : ClsAt w v0 l0) (hr1 : RowAt w 1 v1 l1.length (ucs l1)) : Calls Tryz.prog 4 #[v0, v1] w (Ret w (.bool true)) := by
  obtain ⟨p0, c0, rfl, hc0, hm0⟩ := hr0.row.form
  obtain ⟨p1, c1, rfl, hc1, hm1⟩ := id hr1.form
  simp only [maxLen] at hm0 hm1
  have hpl := row_few hr1 (k := 300) rfl
  obtain ⟨pl, hple⟩ : ∃ pl, l1.take 300 = pl := ⟨_, rfl⟩
  have hpl3 : pl.length ≤ 300 := by rw [← hple, List.length_take]; omega
  rw [hple] at hpl
  clear hple
  refine enter (args := [_, _]) _ [] [] Tryz.func4 rfl Tryz.ntmps4 rfl (by simp) .nil ?_
  (refine sRz ?_; refine vAz ?_; refine nNz ?_; refine CW.seq ?_; refine sRz ?_; apply LW.callE; rfl; rfl; infer_instance; exact ArgsOk.nil; intro w _; exact lwakes_calls w; refine lvz (.notT rfl (by with_reducible rfl)) ?_; refine nNz ?_; refine cFz ?_; refine CW.skip ?_; refine thenN ?_; refine sRz ?_; refine vMz ?_; refine vMz ?_; refine lvz (.lenR rfl inferInstance rfl) ?_; refine lvz (.minZL rfl rfl (by decide)) ?_; refine lvz (.cutTo inferInstance inferInstance rfl rfl (by omega)) ?_; refine vAz ?_; refine nNz ?_; refine CW.seq ?_; refine sRz ?_; refine vMz ?_; refine lvz (.lenR rfl inferInstance rfl) ?_; refine vMz ?_; refine nNz ?_; refine CW.block ?_)
  refine CW.loop (fun m : Nat => ([(24, .int .i64 (m : Int)), (23, .int .i64 (l0.length : Int)), (22, .slice p0 l0.length c0), (1, .slice p1 (min l1.length 300) c1), (0, .slice p0 l0.length c0)], []))
    (fun m => m ≤ l0.length ∧ m ≤ 8) (fun m => l0.length - m) 0 ⟨Nat.zero_le _, Nat.zero_le _⟩ ⟨rfl, rfl, rfl, rfl, rfl, trivial⟩ (List.Sublist.refl _) ?_
  rintro m ⟨hml, hm8⟩
  dsimp only
  rcases Nat.lt_or_ge m l0.length with hlt | hge
  · obtain ⟨bb, off, c', cs, E, fr, heq, hb', hx⟩ := hr0.row.pos (by omega)
    cases heq
    have hrd : Rd Tryz.prog 33 (.cells cs E fr) (off + m * 15) (.agg (cla l0[m].1)) := Rd.elemA (g := clp) (l := l0) (a := l0[m]) hx (clp_len l0) (List.getElem?_eq_getElem hlt)
    have hrd0 : Rd Tryz.prog 33 (.cells cs E fr) (off + 0 * 15) (.agg (cla l0[0].1)) := Rd.elemA (g := clp) (l := l0) (a := l0[0]) hx (clp_len l0) (List.getElem?_eq_getElem (by omega))
    obtain ⟨hu, hun⟩ := hr0.at_ l0[m] (List.getElem_mem hlt)
    obtain ⟨hv, hvn⟩ := hr0.at_ l0[0] (List.getElem_mem (by omega))
    generalize l0[m] = u at hrd hu hun
    generalize l0[0] = v at hrd0 hv hvn
    obtain ⟨x, X⟩ := u
    obtain ⟨z, Z⟩ := v
    dsimp only at hrd hu hun hrd0 hv hvn
    have hcx := hu.cells
    have hiX : (fewC X).il.length ≤ 100000 := by show (X.il.take 1100).length ≤ _; rw [List.length_take]; omega
    have hcX : (fewC X).cl.length ≤ 100000 := by show (X.cl.take 300).length ≤ _; rw [List.length_take]; omega
    rcases Nat.lt_or_ge m 8 with h8 | h8
    · have hcy := hcx
      have hcz := hcx
      (refine sRz ?_; refine lvz (.lssT rfl rfl (by omega)) ?_; refine nNz ?_; refine CW.seq ?_; refine cTz ?_; refine CW.skip ?_; refine thenN ?_; refine CW.seq ?_; refine CW.block ?_; refine sRz ?_; refine vMz ?_; refine lvz (.indexAddrS rfl rfl rfl (by omega)) ?_; apply LW.load; rfl; rfl; exact Known.ext (by assumption) (by simp); assumption; apply LW.allocA; rfl; intro _; refine vAz ?_; apply LW.store; rfl; rfl; apply SetAt.head; apply cl_wrW; rfl; exact hcx; refine nNz ?_; refine CW.seq ?_; refine sRz ?_; refine vMz ?_; refine lvz (.eqF rfl rfl (by omega)) ?_; refine nNz ?_; refine cFz ?_; refine CW.skip ?_; refine thenN ?_; refine CW.seq ?_)
      rename_i b6
      apply CW.pre
      (refine AnyW.anyM [(1, CalledR x X), (5, CalledR z Z)] 8 mixed (by decide +kernel) ?_)
      ((try simp only [tsOf_cons, tsOf_nil, tsOf_app]); apply DW.loadO; rfl; rfl; rfl; exact WantT.none; rfl; apply TRead.head; exact ancB_nil; exact cl_rdW)
      refine DW.manyW (vs' := [x.inp, x.code]) rfl rfl rfl (by (exact WantT.none)) rfl inferInstance (by (exact .cons rfl .nil)) hu.blocks (.ext hu.i rfl (.ext hu.c rfl .nil)) (fun w hb _ => called_calls x X w (hu.bel hb)) ?_
      rintro v1 g1 hv1
      obtain ⟨y, rfl, hy, hyx⟩ := hv1.like
      ((try simp only [tsOf_cons, tsOf_nil, tsOf_app]); refine dvz (.move rfl) ?_; refine dvz (.indexAddrSL rfl rfl (by decide) (by omega)) ?_; apply DW.loadX; rfl; rfl; rfl; exact WantT.none; rfl; assumption; simp; assumption)
      refine DW.manyW (vs' := [z.inp, z.code]) rfl rfl rfl (by (exact WantT.none)) rfl inferInstance (by (exact .cons rfl .nil)) hv.blocks (.ext hv.i rfl (.ext hv.c rfl .nil)) (fun w hb _ => called_calls z Z w (hv.bel hb)) ?_
      rintro v2 g2 hv2
      obtain ⟨t, rfl, ht, htz⟩ := hv2.like
      clear hcy hcz
      have hcy := hy.cells
      have hcz := ht.cells
      have hyn := hyx.num hun
      have htn := htz.num hvn
      obtain ⟨us1, hbl1, hin1, hrows1⟩ := hy.lie
      obtain ⟨us2, hbl2, hin2, hrows2⟩ := ht.lie
      ((try simp only [tsOf_cons, tsOf_nil, tsOf_app]); apply DW.allocA; rfl; rfl; rfl; exact WantT.none; intro _; apply DW.allocA; rfl; rfl; rfl; exact WantT.none; intro _; apply DW.nil; simp only [fsOf_cons, fsOf_nil, fsOf_app, fsOf_tsOf, fsOf_new, fsOf_tag, fsOf_mark])
      rename_i b7 b8
      have hCk0 : ∀ w', (∀ q ∈ g1, w'.heap[q.1]? = some q.2) → Calls Tryz.prog 19 #[clv y] w' (Ret w' (.int .i64 (if okC y (fewC X) then 0 else 250))) := fun w' h => callCheck_calls y (fewC X) w' (hy.us h)
      have hRt0 : ∀ w', (∀ q ∈ us1, w'.heap[q.1]? = some q.2) → Calls Tryz.prog 20 #[clv y] w' (Ret w' (.bool (decide (okC y (fewC X))))) := fun w' h => callRight_calls y (fewC X) hyn.n hyn.pl w' (hrows1 w' h)
      have hbl12 : [clv y, clv t].flatMap (blocksN 4) = (us1 ++ us2).map (·.1) := by
        rw [List.flatMap_cons, List.flatMap_cons, hbl1, hbl2, List.map_append]
        simp
      have hS1 : ∀ w', (∀ q ∈ us1 ++ us2, w'.heap[q.1]? = some q.2) → Calls Tryz.prog 21 #[clv y, clv t] w' (Ret w' (.bool (decide (sameC y (fewC X) t (fewC Z))))) := fun w' h => cSame_calls y t (fewC X) (fewC Z) hyn.val htn.val w' (hrows1 w' fun q hq => h q (List.mem_append_left _ hq)) (hrows2 w' fun q hq => h q (List.mem_append_right _ hq))
      have hS2 : ∀ w', (∀ q ∈ us1 ++ us2, w'.heap[q.1]? = some q.2) → Calls Tryz.prog 17 #[clv y, clv t] w' (Ret w' (.bool (decide (sameC y (fewC X) t (fewC Z))))) := fun w' h => rcSame_calls y t (fewC X) (fewC Z) hyn.val htn.val w' (hrows1 w' fun q hq => h q (List.mem_append_left _ hq)) (hrows2 w' fun q hq => h q (List.mem_append_right _ hq))
      by_cases hok : okC y (fewC X)
      · have hChk := hCk0
        rw [if_pos hok] at hChk
        rw [decide_eq_true hok] at hRt0
        clear hCk0
        by_cases hsm : sameC y (fewC X) t (fewC Z)
        · rw [decide_eq_true hsm] at hS1 hS2
          (apply LW.store; rfl; rfl; apply SetAt.tail; apply SetAt.head; apply cl_wrW; rfl; exact hcy; apply LW.store; rfl; rfl; apply SetAt.head; apply cl_wrW; rfl; exact hcz; refine nNz ?_; refine CW.seq ?_; refine sRz ?_; refine ldz rfl (.tail .head) cl_rdW ?_; apply LW.callE; rfl; rfl; infer_instance; exact .cons rfl .nil; intro w _; rename_i hst; (exact hChk w (st_ou hst (by (repeat (first | exact List.Sublist.refl _ | exact List.sublist_append_left _ _ | apply List.Sublist.cons | apply List.sublist_append_of_sublist_right))))); refine vAz ?_; refine nNz ?_; refine CW.seq ?_)
          apply CW.pre
          (refine AnyW.anyM [(25, CalledR x X)] 26 mixed (by decide +kernel) ?_)
          ((try simp only [tsOf_cons, tsOf_nil, tsOf_app]); refine dvz (.move rfl) ?_; refine dvz (.eqT rfl rfl (by omega)) ?_; apply DW.loadO; rfl; rfl; rfl; exact WantT.none; rfl; apply TRead.tail; apply TRead.head; exact ancB_nil; exact cl_rdW)
          refine DW.callA us1 rfl rfl rfl (by (exact WantT.none)) rfl inferInstance (by (exact .cons rfl .nil)) (by rw [List.flatMap_cons, hbl1]; exact List.append_nil _) (fun p hp => AncT.lie (by (refine AncT.cons ?_ ?_; exact ancB_nil; refine AncT.cons ?_ ?_; exact ancB_nil; refine AncT.app ?_ ?_; exact AncT.tsOf; refine AncT.app ?_ ?_; exact AncT.tsOf; refine AncT.cons ?_ ?_; exact ancB_nil; exact AncT.nil)) (by have hp := hin1 p hp; simp [fsOf, tsOf, tsNew, tsTag, markAll, Function.comp_def, hp])) (fun w _ hu => hRt0 w hu) ?_
          (try simp only [markAll_cons, markAll_app, markAll_tsOf, markAll_tag, markAll_new, markAll_nil])
          ((try simp only [tsOf_cons, tsOf_nil, tsOf_app]); refine dvz (.boolNeF rfl rfl (by with_reducible rfl)) ?_; refine dvz (.move rfl) ?_; refine dwz (.move rfl) ?_; refine dwz (.neF rfl rfl (by omega)) ?_; refine dwz (.move rfl) ?_; refine dSz ?_; refine dSz ?_; refine dwz (.pickF' rfl (by with_reducible rfl) rfl) ?_; refine dvz (.pickF' rfl (by with_reducible rfl) rfl) ?_; refine dvz (.move rfl) ?_; apply DW.loadO; rfl; rfl; rfl; apply wantYes; rfl; rfl; (with_reducible rfl); rfl; apply TRead.tail; apply TRead.head; exact ancB_nil; exact cl_rdW; apply DW.loadO; rfl; rfl; rfl; apply wantYes; rfl; rfl; (with_reducible rfl); rfl; apply TRead.head; exact ancB_nil; exact cl_rdW)
          refine DW.callA (us1 ++ us2) rfl rfl rfl (by (apply wantYes; rfl; rfl; (with_reducible rfl))) rfl inferInstance (by (exact .cons rfl (.cons rfl .nil))) hbl12 (fun p hp => AncT.lie (by (refine AncT.cons ?_ ?_; exact ancB_nil; refine AncT.cons ?_ ?_; exact ancB_nil; refine AncT.app ?_ ?_; refine AncT.tag ?_; exact ancB_nil; refine AncT.app ?_ ?_; refine AncT.tag ?_; exact ancB_nil; refine AncT.cons ?_ ?_; exact ancB_nil; exact AncT.nil)) (by rcases List.mem_append.1 hp with hp | hp; · { have hp := hin1 p hp; simp [fsOf, tsOf, tsNew, tsTag, markAll, Function.comp_def, hp] }; · { have hp := hin2 p hp; simp [fsOf, tsOf, tsNew, tsTag, markAll, Function.comp_def, hp] })) (fun w _ hu => hS1 w hu) ?_
          (try simp only [markAll_cons, markAll_app, markAll_tsOf, markAll_tag, markAll_new, markAll_nil])
          ((try simp only [tsOf_cons, tsOf_nil, tsOf_app]); apply DW.loadO; rfl; rfl; rfl; apply wantYes; rfl; rfl; (with_reducible rfl); rfl; apply TRead.tail; apply TRead.head; exact ancB_nil; exact cl_rdW; apply DW.loadO; rfl; rfl; rfl; apply wantYes; rfl; rfl; (with_reducible rfl); rfl; apply TRead.head; exact ancB_nil; exact cl_rdW)
          refine DW.callA (us1 ++ us2) rfl rfl rfl (by (apply wantYes; rfl; rfl; (with_reducible rfl))) rfl inferInstance (by (exact .cons rfl (.cons rfl .nil))) hbl12 (fun p hp => AncT.lie (by (refine AncT.cons ?_ ?_; exact ancB_nil; refine AncT.cons ?_ ?_; exact ancB_nil; refine AncT.app ?_ ?_; refine AncT.tag ?_; exact ancB_nil; refine AncT.app ?_ ?_; refine AncT.tag ?_; exact ancB_nil; refine AncT.cons ?_ ?_; exact ancB_nil; exact AncT.nil)) (by rcases List.mem_append.1 hp with hp | hp; · { have hp := hin1 p hp; simp [fsOf, tsOf, tsNew, tsTag, markAll, Function.comp_def, hp] }; · { have hp := hin2 p hp; simp [fsOf, tsOf, tsNew, tsTag, markAll, Function.comp_def, hp] })) (fun w _ hu => hS2 w hu) ?_
          (try simp only [markAll_cons, markAll_app, markAll_tsOf, markAll_tag, markAll_new, markAll_nil])
          ((try simp only [tsOf_cons, tsOf_nil, tsOf_app]); refine dwz (.boolNeF rfl rfl (by with_reducible rfl)) ?_; refine dvz (.pickF' rfl (by with_reducible rfl) rfl) ?_; refine dvz (.move rfl) ?_; apply DW.loadO; rfl; rfl; rfl; apply wantYes; rfl; rfl; (with_reducible rfl); rfl; apply TRead.tail; apply TRead.head; exact ancB_nil; exact cl_rdW; apply DW.loadO; rfl; rfl; rfl; apply wantYes; rfl; rfl; (with_reducible rfl); rfl; apply TRead.tail; apply TRead.tail; apply TRead.app; apply TRead.app; apply TRead.head; exact ancB_nil; exact cl_rdW)
          refine DW.manyW (vs' := [x.inp, x.code]) rfl rfl rfl (by (apply wantYes; rfl; rfl; (with_reducible rfl))) rfl inferInstance (by (exact .cons rfl .nil)) hu.blocks (.ext hu.i rfl (.ext hu.c rfl .nil)) (fun w hb _ => called_calls x X w (hu.bel hb)) ?_
          rintro v3 g3 hv3
          obtain ⟨y3, rfl, hy3, hyx3⟩ := hv3.like
          ((try simp only [tsOf_cons, tsOf_nil, tsOf_app]); apply DW.nil; simp only [fsOf_cons, fsOf_nil, fsOf_app, fsOf_tsOf, fsOf_new, fsOf_tag, fsOf_mark])
          have hS3 : ∀ w', (∀ q ∈ g1, w'.heap[q.1]? = some q.2) → (∀ q ∈ g3, w'.heap[q.1]? = some q.2) → Calls Tryz.prog 21 #[clv y, clv y3] w' (Ret w' (.bool true)) := fun w' h h3 => by
            have h := cSame_calls y y3 (fewC X) (fewC X) hyn.val (hyx3.num hun).val w' (hy.us h) (hy3.us h3)
            rwa [decide_eq_true (hyx.same hyx3)] at h
          (refine gTz ?_; apply LW.callE; rfl; rfl; infer_instance; exact .cons rfl (.cons rfl .nil); intro w _; rename_i hst; (exact hS3 w (st_ou hst (by (repeat (first | exact List.Sublist.refl _ | exact List.sublist_append_left _ _ | apply List.Sublist.cons | apply List.sublist_append_of_sublist_right)))) (st_ou hst (by (repeat (first | exact List.Sublist.refl _ | exact List.sublist_append_left _ _ | apply List.Sublist.cons | apply List.sublist_append_of_sublist_right))))); refine gTz ?_; refine lvz (.notT rfl (by with_reducible rfl)) ?_; refine pFz ?_; refine nNz ?_; refine cFz ?_; refine CW.skip ?_; refine thenN ?_; refine sRz ?_; refine vMz ?_)
          refine LW.callR rfl rfl inferInstance (by (exact .cons rfl .nil)) (fun w hst => SK.Clone_calls pl _ w (hpl.st hst) (by omega)) ?_
          rintro bv gb hb
          (refine vAz ?_; refine nSz ?_; refine ldz rfl (.app (.app (.tail .head))) cl_rdW ?_; refine vMz ?_)
          refine LW.callR rfl rfl inferInstance (by (exact .cons rfl (.cons rfl .nil))) (fun w hst => Start_calls y (fewC X) pl hiX hcX (by omega) bv w (hb.us (st_ou hst (by (exact List.sublist_append_left _ _))) (List.Sublist.refl _)) (hy.us (st_ou hst (by (apply List.sublist_append_of_sublist_right; apply List.sublist_append_of_sublist_right; apply List.Sublist.cons; apply List.Sublist.cons; apply List.sublist_append_of_sublist_right; exact List.sublist_append_left _ _))))) ?_
          rintro v4 gf hS4
          rcases hS4 with ⟨ho, a, b, c, d, e, rfl, hF⟩ | ⟨ho, rfl, hgf⟩
          · have hsl := hF.sl
            have hsl2 := hsl
            (refine vMz ?_; refine vEz ?_; refine vEz ?_; apply LW.allocA; rfl; intro _; apply LW.store; rfl; rfl; apply SetAt.head; apply fr_wrW; rfl; exact hsl; refine vAz ?_; refine nSz ?_; refine ldz rfl (.tail (.app (.app (.app (.tail (.tail (.app (.app .head)))))))) cl_rdW ?_)
            refine LW.callR rfl rfl inferInstance (by (exact .cons rfl .nil)) (fun w hst => called_calls x X w (hu.bel hst.bel)) ?_
            rintro v5 g5 hv5
            obtain ⟨y5, rfl, hy5, hyx5⟩ := hv5.like
            (refine vMz ?_)
            refine LW.callR rfl rfl inferInstance (by (exact .cons rfl (.cons rfl .nil))) (fun w hst => rStart_calls y5 (fewC X) pl hiX (hyx5.num hun).n (hyx5.num hun).pl _ w (hpl.st hst) (hy5.us (st_ou hst (by (exact List.sublist_append_left _ _))))) ?_
            rintro v6 g6 hS6
            rcases StaR.like hyx hyx5 hS6 with ⟨_, a2, b2, c2, d2, e2, rfl, hF2⟩ | ⟨hn, _⟩
            · clear hsl2
              have hsl2 := hF2.sl
              have hRS : ∀ w', (∀ q ∈ gf, w'.heap[q.1]? = some q.2) → (∀ q ∈ g6, w'.heap[q.1]? = some q.2) → Calls Tryz.prog 15 #[frv (staF y a b c d e), frv (staF y a2 b2 c2 d2 e2)] w' (Ret w' (.bool true)) := fun w' h h2 => by
                have h := rfSame_calls _ _ _ _ (staF_num hyn) (staF_num hyn) w' (hF.us h) (hF2.us h2)
                rwa [decide_eq_true staF_same] at h
              (refine vMz ?_; refine vEz ?_; refine vEz ?_; apply LW.allocA; rfl; intro _; apply LW.store; rfl; rfl; apply SetAt.head; apply fr_wrW; rfl; exact hsl2; refine vAz ?_; refine nNz ?_; refine CW.seq ?_; refine sRz ?_; refine vMz ?_; refine vMz ?_; refine lvz (.eqT rfl rfl (by omega)) ?_; refine lvz (.boolNeF rfl rfl (by with_reducible rfl)) ?_; refine vMz ?_; refine gTz ?_; refine vMz ?_; refine gTz ?_; refine lvz (.notT rfl (by with_reducible rfl)) ?_; refine gTz ?_; refine vMz ?_; refine gFz ?_; refine gFz ?_; refine gTz ?_; refine pFz ?_; refine pFz ?_; refine vMz ?_; refine gTz ?_; refine ldz rfl (.tail (.app (.app .head))) fr_rdW ?_; refine gTz ?_; refine ldz rfl .head fr_rdW ?_; refine gTz ?_; apply LW.callE; rfl; rfl; infer_instance; exact .cons rfl (.cons rfl .nil); intro w _; rename_i hst; (exact hRS w (st_ou hst (by (repeat (first | exact List.Sublist.refl _ | exact List.sublist_append_left _ _ | apply List.Sublist.cons | apply List.sublist_append_of_sublist_right)))) (st_ou hst (by (repeat (first | exact List.Sublist.refl _ | exact List.sublist_append_left _ _ | apply List.Sublist.cons | apply List.sublist_append_of_sublist_right))))); refine gTz ?_; refine lvz (.notT rfl (by with_reducible rfl)) ?_; refine pFz ?_; refine nNz ?_; refine cFz ?_; refine CW.skip ?_; refine thenN ?_; refine sRz ?_; refine ldz rfl (.tail (.app (.app .head))) fr_rdW ?_; apply LW.v0; rfl; rfl; apply ValP.buildT; infer_instance; infer_instance; exact PartsOk.nil; rfl; simp only [fillP, wrCells, Value.cells, List.getElem?_cons_zero, List.getElem?_cons_succ, List.toList_toArray, List.setIfInBounds_toArray, List.set_cons_succ, List.set_cons_zero, Nat.reduceAdd, Nat.zero_add]; rfl)
              refine LW.callSt (K := fun v fs' => v = .tuple #[] ∧ fs' = gb ++ ([(b7, .cells (cla y) 33 (0, 0))] ++ (g1 ++ [(b6, .cells (cla x) 33 (0, 0))]))) rfl rfl inferInstance (by (exact .cons rfl (.cons rfl .nil))) (fun w hst => ?_) ?_
              · refine Calls.mono (spoil_calls _ _ _ _ zeroC ⟨[], []⟩ gf [] (gb ++ ([(b7, .cells (cla y) 33 (0, 0))] ++ (g1 ++ [(b6, .cells (cla x) 33 (0, 0))]))) hF zeroC_o w (SubP.st ?_ hst)) fun x w' ⟨fs', ⟨h1, h2⟩, hst⟩ => ⟨_, _, h1, ⟨rfl, h2⟩, hst⟩
                exact subp_ix [[_], g6, g5, [_], gf, gb, g3, [_], [_], g2, g1, []] (xs := [4, 11, 5, 8, 10]) (ys := [0, 1, 2, 3, 4, 5, 6, 7, 8, 9, 10, 11]) [_] rfl
              rintro _ _ ⟨rfl, rfl⟩
              (refine nNz ?_; refine CW.seq ?_)
              apply CW.pre
              (refine AnyW.anyM [(2, CalledR x X)] 8 mixed (by decide +kernel) ?_)
              ((try simp only [tsOf_cons, tsOf_nil, tsOf_app]); apply DW.loadO; rfl; rfl; rfl; exact WantT.none; rfl; apply TRead.app; apply TRead.head; exact ancB_nil; exact cl_rdW; apply DW.loadO; rfl; rfl; rfl; exact WantT.none; rfl; apply TRead.app; apply TRead.tail; apply TRead.app; apply TRead.app; apply TRead.head; exact ancB_nil; exact cl_rdW)
              refine DW.manyW (vs' := [x.inp, x.code]) rfl rfl rfl (by (exact WantT.none)) rfl inferInstance (by (exact .cons rfl .nil)) hu.blocks (.ext hu.i rfl (.ext hu.c rfl .nil)) (fun w hb _ => called_calls x X w (hu.bel hb)) ?_
              rintro v7 g7 hv7
              obtain ⟨y7, rfl, hy7, hyx7⟩ := hv7.like
              obtain ⟨us7, hbl7, hin7, hrows7⟩ := hy7.lie
              ((try simp only [tsOf_cons, tsOf_nil, tsOf_app]))
              refine DW.callA (us1 ++ us7) (v := .bool true) rfl rfl rfl (by (exact WantT.none)) rfl inferInstance (by (exact .cons rfl (.cons rfl .nil))) (by rw [List.flatMap_cons, List.flatMap_cons, hbl1, hbl7, List.map_append]; simp) (fun p hp => AncT.lie (by (refine AncT.app ?_ ?_; refine AncT.new ?_; kernel_rfl; refine AncT.app ?_ ?_; exact AncT.tsOf; refine AncT.cons ?_ ?_; exact ancB_nil; refine AncT.app ?_ ?_; exact AncT.nil; refine AncT.app ?_ ?_; exact AncT.tsOf; refine AncT.cons ?_ ?_; exact ancB_nil; exact AncT.nil)) (by rcases List.mem_append.1 hp with hp | hp; · { have hp := hin1 p hp; simp [fsOf, tsOf, tsNew, tsTag, markAll, Function.comp_def, hp] }; · { have hp := hin7 p hp; simp [fsOf, tsOf, tsNew, tsTag, markAll, Function.comp_def, hp] })) (fun w _ hu => ?_) ?_
              · have h := rcSame_calls y y7 (fewC X) (fewC X) hyn.val (hyx7.num hun).val w (hrows1 w fun q hq => hu q (List.mem_append_left _ hq)) (hrows7 w fun q hq => hu q (List.mem_append_right _ hq))
                rw [decide_eq_true (hyx.same hyx7)] at h
                exact h
              (try simp only [markAll_cons, markAll_app, markAll_tsOf, markAll_tag, markAll_new, markAll_nil])
              ((try simp only [tsOf_cons, tsOf_nil, tsOf_app]); refine dvz (.notT rfl (by with_reducible rfl)) ?_; refine dvz (.move rfl) ?_; refine dwz (.move rfl) ?_; refine dwz (.move rfl) ?_; apply DW.nil; simp only [fsOf_cons, fsOf_nil, fsOf_app, fsOf_tsOf, fsOf_new, fsOf_tag, fsOf_mark])
              have hS5 : ∀ w', (∀ q ∈ g1, w'.heap[q.1]? = some q.2) → (∀ q ∈ g7, w'.heap[q.1]? = some q.2) → Calls Tryz.prog 17 #[clv y, clv y7] w' (Ret w' (.bool true)) := fun w' h h3 => by
                have h := rcSame_calls y y7 (fewC X) (fewC X) hyn.val (hyx7.num hun).val w' (hy.us h) (hy7.us h3)
                rwa [decide_eq_true (hyx.same hyx7)] at h
              have hEq : ∀ w', RowAt w' 1 (.slice p1 (min l1.length 300) c1) pl.length (ucs pl) → (∀ q ∈ gb, w'.heap[q.1]? = some q.2) → Calls Tryz.prog 18 #[bv, .slice p1 (min l1.length 300) c1] w' (Ret w' (.bool true)) := fun w' h h3 => by
                have h := sEqB_calls pl pl _ _ w' (hb.us h3 (List.Sublist.refl _)) h
                rwa [decide_eq_true rfl] at h
              (refine gTz ?_; apply LW.callE; rfl; rfl; infer_instance; exact .cons rfl (.cons rfl .nil); intro w _; rename_i hst; (exact hEq w (hpl.st hst) (st_ou hst (by (repeat (first | exact List.Sublist.refl _ | exact List.sublist_append_left _ _ | apply List.Sublist.cons | apply List.sublist_append_of_sublist_right))))); refine gTz ?_; refine lvz (.notT rfl (by with_reducible rfl)) ?_; refine pFz ?_; refine nNz ?_; refine cFz ?_; refine CW.skip ?_; refine blkN ?_; refine thenN ?_; refine CW.region ?_; refine lvz (.addZL rfl rfl (by decide) (by omega)) ?_; refine vMz ?_; apply LW.nil)
              apply thenX
              exact ⟨rfl, m + 1, ⟨hlt, h8⟩, by omega, ⟨rfl, rfl, rfl, rfl, rfl, trivial⟩, List.nil_sublist _⟩
            · exact absurd ho hn
          · have hF : FrO zeroF zeroL gf := hgf ▸ zero_frO
            clear hgf
            have hsl := hF.sl
            have hsl2 := hsl
            (refine vMz ?_; refine vEz ?_; refine vEz ?_; apply LW.allocA; rfl; intro _; apply LW.store; rfl; rfl; apply SetAt.head; apply fr_wrW; rfl; exact hsl; refine vAz ?_; refine nSz ?_; refine ldz rfl (.tail (.app (.app (.app (.tail (.tail (.app (.app .head)))))))) cl_rdW ?_)
            refine LW.callR rfl rfl inferInstance (by (exact .cons rfl .nil)) (fun w hst => called_calls x X w (hu.bel hst.bel)) ?_
            rintro v5 g5 hv5
            obtain ⟨y5, rfl, hy5, hyx5⟩ := hv5.like
            (refine vMz ?_)
            refine LW.callR rfl rfl inferInstance (by (exact .cons rfl (.cons rfl .nil))) (fun w hst => rStart_calls y5 (fewC X) pl hiX (hyx5.num hun).n (hyx5.num hun).pl _ w (hpl.st hst) (hy5.us (st_ou hst (by (exact List.sublist_append_left _ _))))) ?_
            rintro v6 g6 hS6
            rcases StaR.like hyx hyx5 hS6 with ⟨hn, _⟩ | ⟨_, rfl, hg6⟩
            · exact absurd hn ho
            · have hF2 : FrO zeroF zeroL g6 := hg6 ▸ zero_frO
              clear hg6
              have hRS : ∀ w', (∀ q ∈ gf, w'.heap[q.1]? = some q.2) → (∀ q ∈ g6, w'.heap[q.1]? = some q.2) → Calls Tryz.prog 15 #[frv zeroF, frv zeroF] w' (Ret w' (.bool true)) := fun w' h h2 => by
                have h := rfSame_calls _ _ _ _ zeroF_num zeroF_num w' (hF.us h) (hF2.us h2)
                rwa [decide_eq_true ⟨rfl, rfl, rfl, rfl, rfl, rfl, rfl, rfl, rfl, rfl, rfl⟩] at h
              (refine vMz ?_; refine vEz ?_; refine vEz ?_; apply LW.allocA; rfl; intro _; apply LW.store; rfl; rfl; apply SetAt.head; apply fr_wrW; rfl; exact hsl; refine vAz ?_; refine nNz ?_; refine CW.seq ?_; refine sRz ?_; refine vMz ?_; refine vMz ?_; refine lvz (.eqF rfl rfl (by omega)) ?_; refine lvz (.boolNeF rfl rfl (by with_reducible rfl)) ?_; refine vMz ?_; refine gTz ?_; refine vMz ?_; refine gTz ?_; refine lvz (.notF rfl (by with_reducible rfl)) ?_; refine gTz ?_; refine vMz ?_; refine gTz ?_; refine vMz ?_; refine gTz ?_; refine lvz (.neF rfl rfl (by omega)) ?_; refine gTz ?_; refine pTz ?_; refine pFz ?_; refine vMz ?_; refine gTz ?_; refine ldz rfl (.tail (.app (.app .head))) fr_rdW ?_; refine gTz ?_; refine ldz rfl .head fr_rdW ?_; refine gTz ?_; apply LW.callE; rfl; rfl; infer_instance; exact .cons rfl (.cons rfl .nil); intro w _; rename_i hst; (exact hRS w (st_ou hst (by (repeat (first | exact List.Sublist.refl _ | exact List.sublist_append_left _ _ | apply List.Sublist.cons | apply List.sublist_append_of_sublist_right)))) (st_ou hst (by (repeat (first | exact List.Sublist.refl _ | exact List.sublist_append_left _ _ | apply List.Sublist.cons | apply List.sublist_append_of_sublist_right))))); refine gTz ?_; refine lvz (.notT rfl (by with_reducible rfl)) ?_; refine pFz ?_; refine nNz ?_; refine cFz ?_; refine CW.skip ?_; refine thenN ?_; refine sRz ?_; refine ldz rfl (.tail (.app (.app .head))) fr_rdW ?_; apply LW.v0; rfl; rfl; apply ValP.buildT; infer_instance; infer_instance; exact PartsOk.nil; rfl; simp only [fillP, wrCells, Value.cells, List.getElem?_cons_zero, List.getElem?_cons_succ, List.toList_toArray, List.setIfInBounds_toArray, List.set_cons_succ, List.set_cons_zero, Nat.reduceAdd, Nat.zero_add]; rfl)
              refine LW.callSt (K := fun v fs' => v = .tuple #[] ∧ fs' = gb ++ ([(b7, .cells (cla y) 33 (0, 0))] ++ (g1 ++ [(b6, .cells (cla x) 33 (0, 0))]))) rfl rfl inferInstance (by (exact .cons rfl (.cons rfl .nil))) (fun w hst => ?_) ?_
              · refine Calls.mono (spoil_calls _ _ _ _ zeroC ⟨[], []⟩ gf [] (gb ++ ([(b7, .cells (cla y) 33 (0, 0))] ++ (g1 ++ [(b6, .cells (cla x) 33 (0, 0))]))) hF zeroC_o w (SubP.st ?_ hst)) fun x w' ⟨fs', ⟨h1, h2⟩, hst⟩ => ⟨_, _, h1, ⟨rfl, h2⟩, hst⟩
                exact subp_ix [[_], g6, g5, [_], gf, gb, g3, [_], [_], g2, g1, []] (xs := [4, 11, 5, 8, 10]) (ys := [0, 1, 2, 3, 4, 5, 6, 7, 8, 9, 10, 11]) [_] rfl
              rintro _ _ ⟨rfl, rfl⟩
              (refine nNz ?_; refine CW.seq ?_)
              apply CW.pre
              (refine AnyW.anyM [(2, CalledR x X)] 8 mixed (by decide +kernel) ?_)
              ((try simp only [tsOf_cons, tsOf_nil, tsOf_app]); apply DW.loadO; rfl; rfl; rfl; exact WantT.none; rfl; apply TRead.app; apply TRead.head; exact ancB_nil; exact cl_rdW; apply DW.loadO; rfl; rfl; rfl; exact WantT.none; rfl; apply TRead.app; apply TRead.tail; apply TRead.app; apply TRead.app; apply TRead.head; exact ancB_nil; exact cl_rdW)
              refine DW.manyW (vs' := [x.inp, x.code]) rfl rfl rfl (by (exact WantT.none)) rfl inferInstance (by (exact .cons rfl .nil)) hu.blocks (.ext hu.i rfl (.ext hu.c rfl .nil)) (fun w hb _ => called_calls x X w (hu.bel hb)) ?_
              rintro v7 g7 hv7
              obtain ⟨y7, rfl, hy7, hyx7⟩ := hv7.like
              obtain ⟨us7, hbl7, hin7, hrows7⟩ := hy7.lie
              ((try simp only [tsOf_cons, tsOf_nil, tsOf_app]))
              refine DW.callA (us1 ++ us7) (v := .bool true) rfl rfl rfl (by (exact WantT.none)) rfl inferInstance (by (exact .cons rfl (.cons rfl .nil))) (by rw [List.flatMap_cons, List.flatMap_cons, hbl1, hbl7, List.map_append]; simp) (fun p hp => AncT.lie (by (refine AncT.app ?_ ?_; refine AncT.new ?_; kernel_rfl; refine AncT.app ?_ ?_; exact AncT.tsOf; refine AncT.cons ?_ ?_; exact ancB_nil; refine AncT.app ?_ ?_; exact AncT.nil; refine AncT.app ?_ ?_; exact AncT.tsOf; refine AncT.cons ?_ ?_; exact ancB_nil; exact AncT.nil)) (by rcases List.mem_append.1 hp with hp | hp; · { have hp := hin1 p hp; simp [fsOf, tsOf, tsNew, tsTag, markAll, Function.comp_def, hp] }; · { have hp := hin7 p hp; simp [fsOf, tsOf, tsNew, tsTag, markAll, Function.comp_def, hp] })) (fun w _ hu => ?_) ?_
              · have h := rcSame_calls y y7 (fewC X) (fewC X) hyn.val (hyx7.num hun).val w (hrows1 w fun q hq => hu q (List.mem_append_left _ hq)) (hrows7 w fun q hq => hu q (List.mem_append_right _ hq))
                rw [decide_eq_true (hyx.same hyx7)] at h
                exact h
              (try simp only [markAll_cons, markAll_app, markAll_tsOf, markAll_tag, markAll_new, markAll_nil])
              ((try simp only [tsOf_cons, tsOf_nil, tsOf_app]); refine dvz (.notT rfl (by with_reducible rfl)) ?_; refine dvz (.move rfl) ?_; refine dwz (.move rfl) ?_; refine dwz (.move rfl) ?_; apply DW.nil; simp only [fsOf_cons, fsOf_nil, fsOf_app, fsOf_tsOf, fsOf_new, fsOf_tag, fsOf_mark])
              have hS5 : ∀ w', (∀ q ∈ g1, w'.heap[q.1]? = some q.2) → (∀ q ∈ g7, w'.heap[q.1]? = some q.2) → Calls Tryz.prog 17 #[clv y, clv y7] w' (Ret w' (.bool true)) := fun w' h h3 => by
                have h := rcSame_calls y y7 (fewC X) (fewC X) hyn.val (hyx7.num hun).val w' (hy.us h) (hy7.us h3)
                rwa [decide_eq_true (hyx.same hyx7)] at h
              have hEq : ∀ w', RowAt w' 1 (.slice p1 (min l1.length 300) c1) pl.length (ucs pl) → (∀ q ∈ gb, w'.heap[q.1]? = some q.2) → Calls Tryz.prog 18 #[bv, .slice p1 (min l1.length 300) c1] w' (Ret w' (.bool true)) := fun w' h h3 => by
                have h := sEqB_calls pl pl _ _ w' (hb.us h3 (List.Sublist.refl _)) h
                rwa [decide_eq_true rfl] at h
              (refine gTz ?_; apply LW.callE; rfl; rfl; infer_instance; exact .cons rfl (.cons rfl .nil); intro w _; rename_i hst; (exact hEq w (hpl.st hst) (st_ou hst (by (repeat (first | exact List.Sublist.refl _ | exact List.sublist_append_left _ _ | apply List.Sublist.cons | apply List.sublist_append_of_sublist_right))))); refine gTz ?_; refine lvz (.notT rfl (by with_reducible rfl)) ?_; refine pFz ?_; refine nNz ?_; refine cFz ?_; refine CW.skip ?_; refine blkN ?_; refine thenN ?_; refine CW.region ?_; refine lvz (.addZL rfl rfl (by decide) (by omega)) ?_; refine vMz ?_; apply LW.nil)
              apply thenX
              exact ⟨rfl, m + 1, ⟨hlt, h8⟩, by omega, ⟨rfl, rfl, rfl, rfl, rfl, trivial⟩, List.nil_sublist _⟩

        · rw [decide_eq_false hsm] at hS1 hS2
          (apply LW.store; rfl; rfl; apply SetAt.tail; apply SetAt.head; apply cl_wrW; rfl; exact hcy; apply LW.store; rfl; rfl; apply SetAt.head; apply cl_wrW; rfl; exact hcz; refine nNz ?_; refine CW.seq ?_; refine sRz ?_; refine ldz rfl (.tail .head) cl_rdW ?_; apply LW.callE; rfl; rfl; infer_instance; exact .cons rfl .nil; intro w _; rename_i hst; (exact hChk w (st_ou hst (by (repeat (first | exact List.Sublist.refl _ | exact List.sublist_append_left _ _ | apply List.Sublist.cons | apply List.sublist_append_of_sublist_right))))); refine vAz ?_; refine nNz ?_; refine CW.seq ?_)
          apply CW.pre
          (refine AnyW.anyM [(25, CalledR x X)] 26 mixed (by decide +kernel) ?_)
          ((try simp only [tsOf_cons, tsOf_nil, tsOf_app]); refine dvz (.move rfl) ?_; refine dvz (.eqT rfl rfl (by omega)) ?_; apply DW.loadO; rfl; rfl; rfl; exact WantT.none; rfl; apply TRead.tail; apply TRead.head; exact ancB_nil; exact cl_rdW)
          refine DW.callA us1 rfl rfl rfl (by (exact WantT.none)) rfl inferInstance (by (exact .cons rfl .nil)) (by rw [List.flatMap_cons, hbl1]; exact List.append_nil _) (fun p hp => AncT.lie (by (refine AncT.cons ?_ ?_; exact ancB_nil; refine AncT.cons ?_ ?_; exact ancB_nil; refine AncT.app ?_ ?_; exact AncT.tsOf; refine AncT.app ?_ ?_; exact AncT.tsOf; refine AncT.cons ?_ ?_; exact ancB_nil; exact AncT.nil)) (by have hp := hin1 p hp; simp [fsOf, tsOf, tsNew, tsTag, markAll, Function.comp_def, hp])) (fun w _ hu => hRt0 w hu) ?_
          (try simp only [markAll_cons, markAll_app, markAll_tsOf, markAll_tag, markAll_new, markAll_nil])
          ((try simp only [tsOf_cons, tsOf_nil, tsOf_app]); refine dvz (.boolNeF rfl rfl (by with_reducible rfl)) ?_; refine dvz (.move rfl) ?_; refine dwz (.move rfl) ?_; refine dwz (.neF rfl rfl (by omega)) ?_; refine dwz (.move rfl) ?_; refine dSz ?_; refine dSz ?_; refine dwz (.pickF' rfl (by with_reducible rfl) rfl) ?_; refine dvz (.pickF' rfl (by with_reducible rfl) rfl) ?_; refine dvz (.move rfl) ?_; apply DW.loadO; rfl; rfl; rfl; apply wantYes; rfl; rfl; (with_reducible rfl); rfl; apply TRead.tail; apply TRead.head; exact ancB_nil; exact cl_rdW; apply DW.loadO; rfl; rfl; rfl; apply wantYes; rfl; rfl; (with_reducible rfl); rfl; apply TRead.head; exact ancB_nil; exact cl_rdW)
          refine DW.callA (us1 ++ us2) rfl rfl rfl (by (apply wantYes; rfl; rfl; (with_reducible rfl))) rfl inferInstance (by (exact .cons rfl (.cons rfl .nil))) hbl12 (fun p hp => AncT.lie (by (refine AncT.cons ?_ ?_; exact ancB_nil; refine AncT.cons ?_ ?_; exact ancB_nil; refine AncT.app ?_ ?_; refine AncT.tag ?_; exact ancB_nil; refine AncT.app ?_ ?_; refine AncT.tag ?_; exact ancB_nil; refine AncT.cons ?_ ?_; exact ancB_nil; exact AncT.nil)) (by rcases List.mem_append.1 hp with hp | hp; · { have hp := hin1 p hp; simp [fsOf, tsOf, tsNew, tsTag, markAll, Function.comp_def, hp] }; · { have hp := hin2 p hp; simp [fsOf, tsOf, tsNew, tsTag, markAll, Function.comp_def, hp] })) (fun w _ hu => hS1 w hu) ?_
          (try simp only [markAll_cons, markAll_app, markAll_tsOf, markAll_tag, markAll_new, markAll_nil])
          ((try simp only [tsOf_cons, tsOf_nil, tsOf_app]); apply DW.loadO; rfl; rfl; rfl; apply wantYes; rfl; rfl; (with_reducible rfl); rfl; apply TRead.tail; apply TRead.head; exact ancB_nil; exact cl_rdW; apply DW.loadO; rfl; rfl; rfl; apply wantYes; rfl; rfl; (with_reducible rfl); rfl; apply TRead.head; exact ancB_nil; exact cl_rdW)
          refine DW.callA (us1 ++ us2) rfl rfl rfl (by (apply wantYes; rfl; rfl; (with_reducible rfl))) rfl inferInstance (by (exact .cons rfl (.cons rfl .nil))) hbl12 (fun p hp => AncT.lie (by (refine AncT.cons ?_ ?_; exact ancB_nil; refine AncT.cons ?_ ?_; exact ancB_nil; refine AncT.app ?_ ?_; refine AncT.tag ?_; exact ancB_nil; refine AncT.app ?_ ?_; refine AncT.tag ?_; exact ancB_nil; refine AncT.cons ?_ ?_; exact ancB_nil; exact AncT.nil)) (by rcases List.mem_append.1 hp with hp | hp; · { have hp := hin1 p hp; simp [fsOf, tsOf, tsNew, tsTag, markAll, Function.comp_def, hp] }; · { have hp := hin2 p hp; simp [fsOf, tsOf, tsNew, tsTag, markAll, Function.comp_def, hp] })) (fun w _ hu => hS2 w hu) ?_
          (try simp only [markAll_cons, markAll_app, markAll_tsOf, markAll_tag, markAll_new, markAll_nil])
          ((try simp only [tsOf_cons, tsOf_nil, tsOf_app]); refine dwz (.boolNeF rfl rfl (by with_reducible rfl)) ?_; refine dvz (.pickF' rfl (by with_reducible rfl) rfl) ?_; refine dvz (.move rfl) ?_; apply DW.loadO; rfl; rfl; rfl; apply wantYes; rfl; rfl; (with_reducible rfl); rfl; apply TRead.tail; apply TRead.head; exact ancB_nil; exact cl_rdW; apply DW.loadO; rfl; rfl; rfl; apply wantYes; rfl; rfl; (with_reducible rfl); rfl; apply TRead.tail; apply TRead.tail; apply TRead.app; apply TRead.app; apply TRead.head; exact ancB_nil; exact cl_rdW)
          refine DW.manyW (vs' := [x.inp, x.code]) rfl rfl rfl (by (apply wantYes; rfl; rfl; (with_reducible rfl))) rfl inferInstance (by (exact .cons rfl .nil)) hu.blocks (.ext hu.i rfl (.ext hu.c rfl .nil)) (fun w hb _ => called_calls x X w (hu.bel hb)) ?_
          rintro v3 g3 hv3
          obtain ⟨y3, rfl, hy3, hyx3⟩ := hv3.like
          ((try simp only [tsOf_cons, tsOf_nil, tsOf_app]); apply DW.nil; simp only [fsOf_cons, fsOf_nil, fsOf_app, fsOf_tsOf, fsOf_new, fsOf_tag, fsOf_mark])
          have hS3 : ∀ w', (∀ q ∈ g1, w'.heap[q.1]? = some q.2) → (∀ q ∈ g3, w'.heap[q.1]? = some q.2) → Calls Tryz.prog 21 #[clv y, clv y3] w' (Ret w' (.bool true)) := fun w' h h3 => by
            have h := cSame_calls y y3 (fewC X) (fewC X) hyn.val (hyx3.num hun).val w' (hy.us h) (hy3.us h3)
            rwa [decide_eq_true (hyx.same hyx3)] at h
          (refine gTz ?_; apply LW.callE; rfl; rfl; infer_instance; exact .cons rfl (.cons rfl .nil); intro w _; rename_i hst; (exact hS3 w (st_ou hst (by (repeat (first | exact List.Sublist.refl _ | exact List.sublist_append_left _ _ | apply List.Sublist.cons | apply List.sublist_append_of_sublist_right)))) (st_ou hst (by (repeat (first | exact List.Sublist.refl _ | exact List.sublist_append_left _ _ | apply List.Sublist.cons | apply List.sublist_append_of_sublist_right))))); refine gTz ?_; refine lvz (.notT rfl (by with_reducible rfl)) ?_; refine pFz ?_; refine nNz ?_; refine cFz ?_; refine CW.skip ?_; refine thenN ?_; refine sRz ?_; refine vMz ?_)
          refine LW.callR rfl rfl inferInstance (by (exact .cons rfl .nil)) (fun w hst => SK.Clone_calls pl _ w (hpl.st hst) (by omega)) ?_
          rintro bv gb hb
          (refine vAz ?_; refine nSz ?_; refine ldz rfl (.app (.app (.tail .head))) cl_rdW ?_; refine vMz ?_)
          refine LW.callR rfl rfl inferInstance (by (exact .cons rfl (.cons rfl .nil))) (fun w hst => Start_calls y (fewC X) pl hiX hcX (by omega) bv w (hb.us (st_ou hst (by (exact List.sublist_append_left _ _))) (List.Sublist.refl _)) (hy.us (st_ou hst (by (apply List.sublist_append_of_sublist_right; apply List.sublist_append_of_sublist_right; apply List.Sublist.cons; apply List.Sublist.cons; apply List.sublist_append_of_sublist_right; exact List.sublist_append_left _ _))))) ?_
          rintro v4 gf hS4
          rcases hS4 with ⟨ho, a, b, c, d, e, rfl, hF⟩ | ⟨ho, rfl, hgf⟩
          · have hsl := hF.sl
            have hsl2 := hsl
            (refine vMz ?_; refine vEz ?_; refine vEz ?_; apply LW.allocA; rfl; intro _; apply LW.store; rfl; rfl; apply SetAt.head; apply fr_wrW; rfl; exact hsl; refine vAz ?_; refine nSz ?_; refine ldz rfl (.tail (.app (.app (.app (.tail (.tail (.app (.app .head)))))))) cl_rdW ?_)
            refine LW.callR rfl rfl inferInstance (by (exact .cons rfl .nil)) (fun w hst => called_calls x X w (hu.bel hst.bel)) ?_
            rintro v5 g5 hv5
            obtain ⟨y5, rfl, hy5, hyx5⟩ := hv5.like
            (refine vMz ?_)
            refine LW.callR rfl rfl inferInstance (by (exact .cons rfl (.cons rfl .nil))) (fun w hst => rStart_calls y5 (fewC X) pl hiX (hyx5.num hun).n (hyx5.num hun).pl _ w (hpl.st hst) (hy5.us (st_ou hst (by (exact List.sublist_append_left _ _))))) ?_
            rintro v6 g6 hS6
            rcases StaR.like hyx hyx5 hS6 with ⟨_, a2, b2, c2, d2, e2, rfl, hF2⟩ | ⟨hn, _⟩
            · clear hsl2
              have hsl2 := hF2.sl
              have hRS : ∀ w', (∀ q ∈ gf, w'.heap[q.1]? = some q.2) → (∀ q ∈ g6, w'.heap[q.1]? = some q.2) → Calls Tryz.prog 15 #[frv (staF y a b c d e), frv (staF y a2 b2 c2 d2 e2)] w' (Ret w' (.bool true)) := fun w' h h2 => by
                have h := rfSame_calls _ _ _ _ (staF_num hyn) (staF_num hyn) w' (hF.us h) (hF2.us h2)
                rwa [decide_eq_true staF_same] at h
              (refine vMz ?_; refine vEz ?_; refine vEz ?_; apply LW.allocA; rfl; intro _; apply LW.store; rfl; rfl; apply SetAt.head; apply fr_wrW; rfl; exact hsl2; refine vAz ?_; refine nNz ?_; refine CW.seq ?_; refine sRz ?_; refine vMz ?_; refine vMz ?_; refine lvz (.eqT rfl rfl (by omega)) ?_; refine lvz (.boolNeF rfl rfl (by with_reducible rfl)) ?_; refine vMz ?_; refine gTz ?_; refine vMz ?_; refine gTz ?_; refine lvz (.notT rfl (by with_reducible rfl)) ?_; refine gTz ?_; refine vMz ?_; refine gFz ?_; refine gFz ?_; refine gTz ?_; refine pFz ?_; refine pFz ?_; refine vMz ?_; refine gTz ?_; refine ldz rfl (.tail (.app (.app .head))) fr_rdW ?_; refine gTz ?_; refine ldz rfl .head fr_rdW ?_; refine gTz ?_; apply LW.callE; rfl; rfl; infer_instance; exact .cons rfl (.cons rfl .nil); intro w _; rename_i hst; (exact hRS w (st_ou hst (by (repeat (first | exact List.Sublist.refl _ | exact List.sublist_append_left _ _ | apply List.Sublist.cons | apply List.sublist_append_of_sublist_right)))) (st_ou hst (by (repeat (first | exact List.Sublist.refl _ | exact List.sublist_append_left _ _ | apply List.Sublist.cons | apply List.sublist_append_of_sublist_right))))); refine gTz ?_; refine lvz (.notT rfl (by with_reducible rfl)) ?_; refine pFz ?_; refine nNz ?_; refine cFz ?_; refine CW.skip ?_; refine thenN ?_; refine sRz ?_; refine ldz rfl (.tail (.app (.app .head))) fr_rdW ?_; apply LW.v0; rfl; rfl; apply ValP.buildT; infer_instance; infer_instance; exact PartsOk.nil; rfl; simp only [fillP, wrCells, Value.cells, List.getElem?_cons_zero, List.getElem?_cons_succ, List.toList_toArray, List.setIfInBounds_toArray, List.set_cons_succ, List.set_cons_zero, Nat.reduceAdd, Nat.zero_add]; rfl)
              refine LW.callSt (K := fun v fs' => v = .tuple #[] ∧ fs' = gb ++ ([(b7, .cells (cla y) 33 (0, 0))] ++ (g1 ++ [(b6, .cells (cla x) 33 (0, 0))]))) rfl rfl inferInstance (by (exact .cons rfl (.cons rfl .nil))) (fun w hst => ?_) ?_
              · refine Calls.mono (spoil_calls _ _ _ _ zeroC ⟨[], []⟩ gf [] (gb ++ ([(b7, .cells (cla y) 33 (0, 0))] ++ (g1 ++ [(b6, .cells (cla x) 33 (0, 0))]))) hF zeroC_o w (SubP.st ?_ hst)) fun x w' ⟨fs', ⟨h1, h2⟩, hst⟩ => ⟨_, _, h1, ⟨rfl, h2⟩, hst⟩
                exact subp_ix [[_], g6, g5, [_], gf, gb, g3, [_], [_], g2, g1, []] (xs := [4, 11, 5, 8, 10]) (ys := [0, 1, 2, 3, 4, 5, 6, 7, 8, 9, 10, 11]) [_] rfl
              rintro _ _ ⟨rfl, rfl⟩
              (refine nNz ?_; refine CW.seq ?_)
              apply CW.pre
              (refine AnyW.anyM [(2, CalledR x X)] 8 mixed (by decide +kernel) ?_)
              ((try simp only [tsOf_cons, tsOf_nil, tsOf_app]); apply DW.loadO; rfl; rfl; rfl; exact WantT.none; rfl; apply TRead.app; apply TRead.head; exact ancB_nil; exact cl_rdW; apply DW.loadO; rfl; rfl; rfl; exact WantT.none; rfl; apply TRead.app; apply TRead.tail; apply TRead.app; apply TRead.app; apply TRead.head; exact ancB_nil; exact cl_rdW)
              refine DW.manyW (vs' := [x.inp, x.code]) rfl rfl rfl (by (exact WantT.none)) rfl inferInstance (by (exact .cons rfl .nil)) hu.blocks (.ext hu.i rfl (.ext hu.c rfl .nil)) (fun w hb _ => called_calls x X w (hu.bel hb)) ?_
              rintro v7 g7 hv7
              obtain ⟨y7, rfl, hy7, hyx7⟩ := hv7.like
              obtain ⟨us7, hbl7, hin7, hrows7⟩ := hy7.lie
              ((try simp only [tsOf_cons, tsOf_nil, tsOf_app]))
              refine DW.callA (us1 ++ us7) (v := .bool true) rfl rfl rfl (by (exact WantT.none)) rfl inferInstance (by (exact .cons rfl (.cons rfl .nil))) (by rw [List.flatMap_cons, List.flatMap_cons, hbl1, hbl7, List.map_append]; simp) (fun p hp => AncT.lie (by (refine AncT.app ?_ ?_; refine AncT.new ?_; kernel_rfl; refine AncT.app ?_ ?_; exact AncT.tsOf; refine AncT.cons ?_ ?_; exact ancB_nil; refine AncT.app ?_ ?_; exact AncT.nil; refine AncT.app ?_ ?_; exact AncT.tsOf; refine AncT.cons ?_ ?_; exact ancB_nil; exact AncT.nil)) (by rcases List.mem_append.1 hp with hp | hp; · { have hp := hin1 p hp; simp [fsOf, tsOf, tsNew, tsTag, markAll, Function.comp_def, hp] }; · { have hp := hin7 p hp; simp [fsOf, tsOf, tsNew, tsTag, markAll, Function.comp_def, hp] })) (fun w _ hu => ?_) ?_
              · have h := rcSame_calls y y7 (fewC X) (fewC X) hyn.val (hyx7.num hun).val w (hrows1 w fun q hq => hu q (List.mem_append_left _ hq)) (hrows7 w fun q hq => hu q (List.mem_append_right _ hq))
                rw [decide_eq_true (hyx.same hyx7)] at h
                exact h
              (try simp only [markAll_cons, markAll_app, markAll_tsOf, markAll_tag, markAll_new, markAll_nil])
              ((try simp only [tsOf_cons, tsOf_nil, tsOf_app]); refine dvz (.notT rfl (by with_reducible rfl)) ?_; refine dvz (.move rfl) ?_; refine dwz (.move rfl) ?_; refine dwz (.move rfl) ?_; apply DW.nil; simp only [fsOf_cons, fsOf_nil, fsOf_app, fsOf_tsOf, fsOf_new, fsOf_tag, fsOf_mark])
              have hS5 : ∀ w', (∀ q ∈ g1, w'.heap[q.1]? = some q.2) → (∀ q ∈ g7, w'.heap[q.1]? = some q.2) → Calls Tryz.prog 17 #[clv y, clv y7] w' (Ret w' (.bool true)) := fun w' h h3 => by
                have h := rcSame_calls y y7 (fewC X) (fewC X) hyn.val (hyx7.num hun).val w' (hy.us h) (hy7.us h3)
                rwa [decide_eq_true (hyx.same hyx7)] at h
              have hEq : ∀ w', RowAt w' 1 (.slice p1 (min l1.length 300) c1) pl.length (ucs pl) → (∀ q ∈ gb, w'.heap[q.1]? = some q.2) → Calls Tryz.prog 18 #[bv, .slice p1 (min l1.length 300) c1] w' (Ret w' (.bool true)) := fun w' h h3 => by
                have h := sEqB_calls pl pl _ _ w' (hb.us h3 (List.Sublist.refl _)) h
                rwa [decide_eq_true rfl] at h
              (refine gTz ?_; apply LW.callE; rfl; rfl; infer_instance; exact .cons rfl (.cons rfl .nil); intro w _; rename_i hst; (exact hEq w (hpl.st hst) (st_ou hst (by (repeat (first | exact List.Sublist.refl _ | exact List.sublist_append_left _ _ | apply List.Sublist.cons | apply List.sublist_append_of_sublist_right))))); refine gTz ?_; refine lvz (.notT rfl (by with_reducible rfl)) ?_; refine pFz ?_; refine nNz ?_; refine cFz ?_; refine CW.skip ?_; refine blkN ?_; refine thenN ?_; refine CW.region ?_; refine lvz (.addZL rfl rfl (by decide) (by omega)) ?_; refine vMz ?_; apply LW.nil)
              apply thenX
              exact ⟨rfl, m + 1, ⟨hlt, h8⟩, by omega, ⟨rfl, rfl, rfl, rfl, rfl, trivial⟩, List.nil_sublist _⟩
            · exact absurd ho hn
          · have hF : FrO zeroF zeroL gf := hgf ▸ zero_frO
            clear hgf
            have hsl := hF.sl
            have hsl2 := hsl
            (refine vMz ?_; refine vEz ?_; refine vEz ?_; apply LW.allocA; rfl; intro _; apply LW.store; rfl; rfl; apply SetAt.head; apply fr_wrW; rfl; exact hsl; refine vAz ?_; refine nSz ?_; refine ldz rfl (.tail (.app (.app (.app (.tail (.tail (.app (.app .head)))))))) cl_rdW ?_)
            refine LW.callR rfl rfl inferInstance (by (exact .cons rfl .nil)) (fun w hst => called_calls x X w (hu.bel hst.bel)) ?_
            rintro v5 g5 hv5
            obtain ⟨y5, rfl, hy5, hyx5⟩ := hv5.like
            (refine vMz ?_)
            refine LW.callR rfl rfl inferInstance (by (exact .cons rfl (.cons rfl .nil))) (fun w hst => rStart_calls y5 (fewC X) pl hiX (hyx5.num hun).n (hyx5.num hun).pl _ w (hpl.st hst) (hy5.us (st_ou hst (by (exact List.sublist_append_left _ _))))) ?_
            rintro v6 g6 hS6
            rcases StaR.like hyx hyx5 hS6 with ⟨hn, _⟩ | ⟨_, rfl, hg6⟩
            · exact absurd hn ho
            · have hF2 : FrO zeroF zeroL g6 := hg6 ▸ zero_frO
              clear hg6
              have hRS : ∀ w', (∀ q ∈ gf, w'.heap[q.1]? = some q.2) → (∀ q ∈ g6, w'.heap[q.1]? = some q.2) → Calls Tryz.prog 15 #[frv zeroF, frv zeroF] w' (Ret w' (.bool true)) := fun w' h h2 => by
                have h := rfSame_calls _ _ _ _ zeroF_num zeroF_num w' (hF.us h) (hF2.us h2)
                rwa [decide_eq_true ⟨rfl, rfl, rfl, rfl, rfl, rfl, rfl, rfl, rfl, rfl, rfl⟩] at h
              (refine vMz ?_; refine vEz ?_; refine vEz ?_; apply LW.allocA; rfl; intro _; apply LW.store; rfl; rfl; apply SetAt.head; apply fr_wrW; rfl; exact hsl; refine vAz ?_; refine nNz ?_; refine CW.seq ?_; refine sRz ?_; refine vMz ?_; refine vMz ?_; refine lvz (.eqF rfl rfl (by omega)) ?_; refine lvz (.boolNeF rfl rfl (by with_reducible rfl)) ?_; refine vMz ?_; refine gTz ?_; refine vMz ?_; refine gTz ?_; refine lvz (.notF rfl (by with_reducible rfl)) ?_; refine gTz ?_; refine vMz ?_; refine gTz ?_; refine vMz ?_; refine gTz ?_; refine lvz (.neF rfl rfl (by omega)) ?_; refine gTz ?_; refine pTz ?_; refine pFz ?_; refine vMz ?_; refine gTz ?_; refine ldz rfl (.tail (.app (.app .head))) fr_rdW ?_; refine gTz ?_; refine ldz rfl .head fr_rdW ?_; refine gTz ?_; apply LW.callE; rfl; rfl; infer_instance; exact .cons rfl (.cons rfl .nil); intro w _; rename_i hst; (exact hRS w (st_ou hst (by (repeat (first | exact List.Sublist.refl _ | exact List.sublist_append_left _ _ | apply List.Sublist.cons | apply List.sublist_append_of_sublist_right)))) (st_ou hst (by (repeat (first | exact List.Sublist.refl _ | exact List.sublist_append_left _ _ | apply List.Sublist.cons | apply List.sublist_append_of_sublist_right))))); refine gTz ?_; refine lvz (.notT rfl (by with_reducible rfl)) ?_; refine pFz ?_; refine nNz ?_; refine cFz ?_; refine CW.skip ?_; refine thenN ?_; refine sRz ?_; refine ldz rfl (.tail (.app (.app .head))) fr_rdW ?_; apply LW.v0; rfl; rfl; apply ValP.buildT; infer_instance; infer_instance; exact PartsOk.nil; rfl; simp only [fillP, wrCells, Value.cells, List.getElem?_cons_zero, List.getElem?_cons_succ, List.toList_toArray, List.setIfInBounds_toArray, List.set_cons_succ, List.set_cons_zero, Nat.reduceAdd, Nat.zero_add]; rfl)
              refine LW.callSt (K := fun v fs' => v = .tuple #[] ∧ fs' = gb ++ ([(b7, .cells (cla y) 33 (0, 0))] ++ (g1 ++ [(b6, .cells (cla x) 33 (0, 0))]))) rfl rfl inferInstance (by (exact .cons rfl (.cons rfl .nil))) (fun w hst => ?_) ?_
              · refine Calls.mono (spoil_calls _ _ _ _ zeroC ⟨[], []⟩ gf [] (gb ++ ([(b7, .cells (cla y) 33 (0, 0))] ++ (g1 ++ [(b6, .cells (cla x) 33 (0, 0))]))) hF zeroC_o w (SubP.st ?_ hst)) fun x w' ⟨fs', ⟨h1, h2⟩, hst⟩ => ⟨_, _, h1, ⟨rfl, h2⟩, hst⟩
                exact subp_ix [[_], g6, g5, [_], gf, gb, g3, [_], [_], g2, g1, []] (xs := [4, 11, 5, 8, 10]) (ys := [0, 1, 2, 3, 4, 5, 6, 7, 8, 9, 10, 11]) [_] rfl
              rintro _ _ ⟨rfl, rfl⟩
              (refine nNz ?_; refine CW.seq ?_)
              apply CW.pre
              (refine AnyW.anyM [(2, CalledR x X)] 8 mixed (by decide +kernel) ?_)
              ((try simp only [tsOf_cons, tsOf_nil, tsOf_app]); apply DW.loadO; rfl; rfl; rfl; exact WantT.none; rfl; apply TRead.app; apply TRead.head; exact ancB_nil; exact cl_rdW; apply DW.loadO; rfl; rfl; rfl; exact WantT.none; rfl; apply TRead.app; apply TRead.tail; apply TRead.app; apply TRead.app; apply TRead.head; exact ancB_nil; exact cl_rdW)
              refine DW.manyW (vs' := [x.inp, x.code]) rfl rfl rfl (by (exact WantT.none)) rfl inferInstance (by (exact .cons rfl .nil)) hu.blocks (.ext hu.i rfl (.ext hu.c rfl .nil)) (fun w hb _ => called_calls x X w (hu.bel hb)) ?_
              rintro v7 g7 hv7
              obtain ⟨y7, rfl, hy7, hyx7⟩ := hv7.like
              obtain ⟨us7, hbl7, hin7, hrows7⟩ := hy7.lie
              ((try simp only [tsOf_cons, tsOf_nil, tsOf_app]))
              refine DW.callA (us1 ++ us7) (v := .bool true) rfl rfl rfl (by (exact WantT.none)) rfl inferInstance (by (exact .cons rfl (.cons rfl .nil))) (by rw [List.flatMap_cons, List.flatMap_cons, hbl1, hbl7, List.map_append]; simp) (fun p hp => AncT.lie (by (refine AncT.app ?_ ?_; refine AncT.new ?_; kernel_rfl; refine AncT.app ?_ ?_; exact AncT.tsOf; refine AncT.cons ?_ ?_; exact ancB_nil; refine AncT.app ?_ ?_; exact AncT.nil; refine AncT.app ?_ ?_; exact AncT.tsOf; refine AncT.cons ?_ ?_; exact ancB_nil; exact AncT.nil)) (by rcases List.mem_append.1 hp with hp | hp; · { have hp := hin1 p hp; simp [fsOf, tsOf, tsNew, tsTag, markAll, Function.comp_def, hp] }; · { have hp := hin7 p hp; simp [fsOf, tsOf, tsNew, tsTag, markAll, Function.comp_def, hp] })) (fun w _ hu => ?_) ?_
              · have h := rcSame_calls y y7 (fewC X) (fewC X) hyn.val (hyx7.num hun).val w (hrows1 w fun q hq => hu q (List.mem_append_left _ hq)) (hrows7 w fun q hq => hu q (List.mem_append_right _ hq))
                rw [decide_eq_true (hyx.same hyx7)] at h
                exact h
              (try simp only [markAll_cons, markAll_app, markAll_tsOf, markAll_tag, markAll_new, markAll_nil])
              ((try simp only [tsOf_cons, tsOf_nil, tsOf_app]); refine dvz (.notT rfl (by with_reducible rfl)) ?_; refine dvz (.move rfl) ?_; refine dwz (.move rfl) ?_; refine dwz (.move rfl) ?_; apply DW.nil; simp only [fsOf_cons, fsOf_nil, fsOf_app, fsOf_tsOf, fsOf_new, fsOf_tag, fsOf_mark])
              have hS5 : ∀ w', (∀ q ∈ g1, w'.heap[q.1]? = some q.2) → (∀ q ∈ g7, w'.heap[q.1]? = some q.2) → Calls Tryz.prog 17 #[clv y, clv y7] w' (Ret w' (.bool true)) := fun w' h h3 => by
                have h := rcSame_calls y y7 (fewC X) (fewC X) hyn.val (hyx7.num hun).val w' (hy.us h) (hy7.us h3)
                rwa [decide_eq_true (hyx.same hyx7)] at h
              have hEq : ∀ w', RowAt w' 1 (.slice p1 (min l1.length 300) c1) pl.length (ucs pl) → (∀ q ∈ gb, w'.heap[q.1]? = some q.2) → Calls Tryz.prog 18 #[bv, .slice p1 (min l1.length 300) c1] w' (Ret w' (.bool true)) := fun w' h h3 => by
                have h := sEqB_calls pl pl _ _ w' (hb.us h3 (List.Sublist.refl _)) h
                rwa [decide_eq_true rfl] at h
              (refine gTz ?_; apply LW.callE; rfl; rfl; infer_instance; exact .cons rfl (.cons rfl .nil); intro w _; rename_i hst; (exact hEq w (hpl.st hst) (st_ou hst (by (repeat (first | exact List.Sublist.refl _ | exact List.sublist_append_left _ _ | apply List.Sublist.cons | apply List.sublist_append_of_sublist_right))))); refine gTz ?_; refine lvz (.notT rfl (by with_reducible rfl)) ?_; refine pFz ?_; refine nNz ?_; refine cFz ?_; refine CW.skip ?_; refine blkN ?_; refine thenN ?_; refine CW.region ?_; refine lvz (.addZL rfl rfl (by decide) (by omega)) ?_; refine vMz ?_; apply LW.nil)
              apply thenX
              exact ⟨rfl, m + 1, ⟨hlt, h8⟩, by omega, ⟨rfl, rfl, rfl, rfl, rfl, trivial⟩, List.nil_sublist _⟩
      · have hChk := hCk0
        rw [if_neg hok] at hChk
        rw [decide_eq_false hok] at hRt0
        clear hCk0
        by_cases hsm : sameC y (fewC X) t (fewC Z)
        · rw [decide_eq_true hsm] at hS1 hS2
          (apply LW.store; rfl; rfl; apply SetAt.tail; apply SetAt.head; apply cl_wrW; rfl; exact hcy; apply LW.store; rfl; rfl; apply SetAt.head; apply cl_wrW; rfl; exact hcz; refine nNz ?_; refine CW.seq ?_; refine sRz ?_; refine ldz rfl (.tail .head) cl_rdW ?_; apply LW.callE; rfl; rfl; infer_instance; exact .cons rfl .nil; intro w _; rename_i hst; (exact hChk w (st_ou hst (by (repeat (first | exact List.Sublist.refl _ | exact List.sublist_append_left _ _ | apply List.Sublist.cons | apply List.sublist_append_of_sublist_right))))); refine vAz ?_; refine nNz ?_; refine CW.seq ?_)
          apply CW.pre
          (refine AnyW.anyM [(25, CalledR x X)] 26 mixed (by decide +kernel) ?_)
          ((try simp only [tsOf_cons, tsOf_nil, tsOf_app]); refine dvz (.move rfl) ?_; refine dvz (.eqF rfl rfl (by omega)) ?_; apply DW.loadO; rfl; rfl; rfl; exact WantT.none; rfl; apply TRead.tail; apply TRead.head; exact ancB_nil; exact cl_rdW)
          refine DW.callA us1 rfl rfl rfl (by (exact WantT.none)) rfl inferInstance (by (exact .cons rfl .nil)) (by rw [List.flatMap_cons, hbl1]; exact List.append_nil _) (fun p hp => AncT.lie (by (refine AncT.cons ?_ ?_; exact ancB_nil; refine AncT.cons ?_ ?_; exact ancB_nil; refine AncT.app ?_ ?_; exact AncT.tsOf; refine AncT.app ?_ ?_; exact AncT.tsOf; refine AncT.cons ?_ ?_; exact ancB_nil; exact AncT.nil)) (by have hp := hin1 p hp; simp [fsOf, tsOf, tsNew, tsTag, markAll, Function.comp_def, hp])) (fun w _ hu => hRt0 w hu) ?_
          (try simp only [markAll_cons, markAll_app, markAll_tsOf, markAll_tag, markAll_new, markAll_nil])
          ((try simp only [tsOf_cons, tsOf_nil, tsOf_app]); refine dvz (.boolNeF rfl rfl (by with_reducible rfl)) ?_; refine dvz (.move rfl) ?_; refine dwz (.move rfl) ?_; refine dwz (.neT rfl rfl (by omega)) ?_; refine dwz (.move rfl) ?_; refine dwz (.move rfl) ?_; refine dwz (.neF rfl rfl (by omega)) ?_; refine dwz (.pickT' rfl (by with_reducible rfl) rfl) ?_; refine dvz (.pickF' rfl (by with_reducible rfl) rfl) ?_; refine dvz (.move rfl) ?_; apply DW.loadO; rfl; rfl; rfl; apply wantYes; rfl; rfl; (with_reducible rfl); rfl; apply TRead.tail; apply TRead.head; exact ancB_nil; exact cl_rdW; apply DW.loadO; rfl; rfl; rfl; apply wantYes; rfl; rfl; (with_reducible rfl); rfl; apply TRead.head; exact ancB_nil; exact cl_rdW)
          refine DW.callA (us1 ++ us2) rfl rfl rfl (by (apply wantYes; rfl; rfl; (with_reducible rfl))) rfl inferInstance (by (exact .cons rfl (.cons rfl .nil))) hbl12 (fun p hp => AncT.lie (by (refine AncT.cons ?_ ?_; exact ancB_nil; refine AncT.cons ?_ ?_; exact ancB_nil; refine AncT.app ?_ ?_; refine AncT.tag ?_; exact ancB_nil; refine AncT.app ?_ ?_; refine AncT.tag ?_; exact ancB_nil; refine AncT.cons ?_ ?_; exact ancB_nil; exact AncT.nil)) (by rcases List.mem_append.1 hp with hp | hp; · { have hp := hin1 p hp; simp [fsOf, tsOf, tsNew, tsTag, markAll, Function.comp_def, hp] }; · { have hp := hin2 p hp; simp [fsOf, tsOf, tsNew, tsTag, markAll, Function.comp_def, hp] })) (fun w _ hu => hS1 w hu) ?_
          (try simp only [markAll_cons, markAll_app, markAll_tsOf, markAll_tag, markAll_new, markAll_nil])
          ((try simp only [tsOf_cons, tsOf_nil, tsOf_app]); apply DW.loadO; rfl; rfl; rfl; apply wantYes; rfl; rfl; (with_reducible rfl); rfl; apply TRead.tail; apply TRead.head; exact ancB_nil; exact cl_rdW; apply DW.loadO; rfl; rfl; rfl; apply wantYes; rfl; rfl; (with_reducible rfl); rfl; apply TRead.head; exact ancB_nil; exact cl_rdW)
          refine DW.callA (us1 ++ us2) rfl rfl rfl (by (apply wantYes; rfl; rfl; (with_reducible rfl))) rfl inferInstance (by (exact .cons rfl (.cons rfl .nil))) hbl12 (fun p hp => AncT.lie (by (refine AncT.cons ?_ ?_; exact ancB_nil; refine AncT.cons ?_ ?_; exact ancB_nil; refine AncT.app ?_ ?_; refine AncT.tag ?_; exact ancB_nil; refine AncT.app ?_ ?_; refine AncT.tag ?_; exact ancB_nil; refine AncT.cons ?_ ?_; exact ancB_nil; exact AncT.nil)) (by rcases List.mem_append.1 hp with hp | hp; · { have hp := hin1 p hp; simp [fsOf, tsOf, tsNew, tsTag, markAll, Function.comp_def, hp] }; · { have hp := hin2 p hp; simp [fsOf, tsOf, tsNew, tsTag, markAll, Function.comp_def, hp] })) (fun w _ hu => hS2 w hu) ?_
          (try simp only [markAll_cons, markAll_app, markAll_tsOf, markAll_tag, markAll_new, markAll_nil])
          ((try simp only [tsOf_cons, tsOf_nil, tsOf_app]); refine dwz (.boolNeF rfl rfl (by with_reducible rfl)) ?_; refine dvz (.pickF' rfl (by with_reducible rfl) rfl) ?_; refine dvz (.move rfl) ?_; apply DW.loadO; rfl; rfl; rfl; apply wantYes; rfl; rfl; (with_reducible rfl); rfl; apply TRead.tail; apply TRead.head; exact ancB_nil; exact cl_rdW; apply DW.loadO; rfl; rfl; rfl; apply wantYes; rfl; rfl; (with_reducible rfl); rfl; apply TRead.tail; apply TRead.tail; apply TRead.app; apply TRead.app; apply TRead.head; exact ancB_nil; exact cl_rdW)
          refine DW.manyW (vs' := [x.inp, x.code]) rfl rfl rfl (by (apply wantYes; rfl; rfl; (with_reducible rfl))) rfl inferInstance (by (exact .cons rfl .nil)) hu.blocks (.ext hu.i rfl (.ext hu.c rfl .nil)) (fun w hb _ => called_calls x X w (hu.bel hb)) ?_
          rintro v3 g3 hv3
          obtain ⟨y3, rfl, hy3, hyx3⟩ := hv3.like
          ((try simp only [tsOf_cons, tsOf_nil, tsOf_app]); apply DW.nil; simp only [fsOf_cons, fsOf_nil, fsOf_app, fsOf_tsOf, fsOf_new, fsOf_tag, fsOf_mark])
          have hS3 : ∀ w', (∀ q ∈ g1, w'.heap[q.1]? = some q.2) → (∀ q ∈ g3, w'.heap[q.1]? = some q.2) → Calls Tryz.prog 21 #[clv y, clv y3] w' (Ret w' (.bool true)) := fun w' h h3 => by
            have h := cSame_calls y y3 (fewC X) (fewC X) hyn.val (hyx3.num hun).val w' (hy.us h) (hy3.us h3)
            rwa [decide_eq_true (hyx.same hyx3)] at h
          (refine gTz ?_; apply LW.callE; rfl; rfl; infer_instance; exact .cons rfl (.cons rfl .nil); intro w _; rename_i hst; (exact hS3 w (st_ou hst (by (repeat (first | exact List.Sublist.refl _ | exact List.sublist_append_left _ _ | apply List.Sublist.cons | apply List.sublist_append_of_sublist_right)))) (st_ou hst (by (repeat (first | exact List.Sublist.refl _ | exact List.sublist_append_left _ _ | apply List.Sublist.cons | apply List.sublist_append_of_sublist_right))))); refine gTz ?_; refine lvz (.notT rfl (by with_reducible rfl)) ?_; refine pFz ?_; refine nNz ?_; refine cFz ?_; refine CW.skip ?_; refine thenN ?_; refine sRz ?_; refine vMz ?_)
          refine LW.callR rfl rfl inferInstance (by (exact .cons rfl .nil)) (fun w hst => SK.Clone_calls pl _ w (hpl.st hst) (by omega)) ?_
          rintro bv gb hb
          (refine vAz ?_; refine nSz ?_; refine ldz rfl (.app (.app (.tail .head))) cl_rdW ?_; refine vMz ?_)
          refine LW.callR rfl rfl inferInstance (by (exact .cons rfl (.cons rfl .nil))) (fun w hst => Start_calls y (fewC X) pl hiX hcX (by omega) bv w (hb.us (st_ou hst (by (exact List.sublist_append_left _ _))) (List.Sublist.refl _)) (hy.us (st_ou hst (by (apply List.sublist_append_of_sublist_right; apply List.sublist_append_of_sublist_right; apply List.Sublist.cons; apply List.Sublist.cons; apply List.sublist_append_of_sublist_right; exact List.sublist_append_left _ _))))) ?_
          rintro v4 gf hS4
          rcases hS4 with ⟨ho, a, b, c, d, e, rfl, hF⟩ | ⟨ho, rfl, hgf⟩
          · have hsl := hF.sl
            have hsl2 := hsl
            (refine vMz ?_; refine vEz ?_; refine vEz ?_; apply LW.allocA; rfl; intro _; apply LW.store; rfl; rfl; apply SetAt.head; apply fr_wrW; rfl; exact hsl; refine vAz ?_; refine nSz ?_; refine ldz rfl (.tail (.app (.app (.app (.tail (.tail (.app (.app .head)))))))) cl_rdW ?_)
            refine LW.callR rfl rfl inferInstance (by (exact .cons rfl .nil)) (fun w hst => called_calls x X w (hu.bel hst.bel)) ?_
            rintro v5 g5 hv5
            obtain ⟨y5, rfl, hy5, hyx5⟩ := hv5.like
            (refine vMz ?_)
            refine LW.callR rfl rfl inferInstance (by (exact .cons rfl (.cons rfl .nil))) (fun w hst => rStart_calls y5 (fewC X) pl hiX (hyx5.num hun).n (hyx5.num hun).pl _ w (hpl.st hst) (hy5.us (st_ou hst (by (exact List.sublist_append_left _ _))))) ?_
            rintro v6 g6 hS6
            rcases StaR.like hyx hyx5 hS6 with ⟨_, a2, b2, c2, d2, e2, rfl, hF2⟩ | ⟨hn, _⟩
            · clear hsl2
              have hsl2 := hF2.sl
              have hRS : ∀ w', (∀ q ∈ gf, w'.heap[q.1]? = some q.2) → (∀ q ∈ g6, w'.heap[q.1]? = some q.2) → Calls Tryz.prog 15 #[frv (staF y a b c d e), frv (staF y a2 b2 c2 d2 e2)] w' (Ret w' (.bool true)) := fun w' h h2 => by
                have h := rfSame_calls _ _ _ _ (staF_num hyn) (staF_num hyn) w' (hF.us h) (hF2.us h2)
                rwa [decide_eq_true staF_same] at h
              (refine vMz ?_; refine vEz ?_; refine vEz ?_; apply LW.allocA; rfl; intro _; apply LW.store; rfl; rfl; apply SetAt.head; apply fr_wrW; rfl; exact hsl2; refine vAz ?_; refine nNz ?_; refine CW.seq ?_; refine sRz ?_; refine vMz ?_; refine vMz ?_; refine lvz (.eqT rfl rfl (by omega)) ?_; refine lvz (.boolNeF rfl rfl (by with_reducible rfl)) ?_; refine vMz ?_; refine gTz ?_; refine vMz ?_; refine gTz ?_; refine lvz (.notT rfl (by with_reducible rfl)) ?_; refine gTz ?_; refine vMz ?_; refine gFz ?_; refine gFz ?_; refine gTz ?_; refine pFz ?_; refine pFz ?_; refine vMz ?_; refine gTz ?_; refine ldz rfl (.tail (.app (.app .head))) fr_rdW ?_; refine gTz ?_; refine ldz rfl .head fr_rdW ?_; refine gTz ?_; apply LW.callE; rfl; rfl; infer_instance; exact .cons rfl (.cons rfl .nil); intro w _; rename_i hst; (exact hRS w (st_ou hst (by (repeat (first | exact List.Sublist.refl _ | exact List.sublist_append_left _ _ | apply List.Sublist.cons | apply List.sublist_append_of_sublist_right)))) (st_ou hst (by (repeat (first | exact List.Sublist.refl _ | exact List.sublist_append_left _ _ | apply List.Sublist.cons | apply List.sublist_append_of_sublist_right))))); refine gTz ?_; refine lvz (.notT rfl (by with_reducible rfl)) ?_; refine pFz ?_; refine nNz ?_; refine cFz ?_; refine CW.skip ?_; refine thenN ?_; refine sRz ?_; refine ldz rfl (.tail (.app (.app .head))) fr_rdW ?_; apply LW.v0; rfl; rfl; apply ValP.buildT; infer_instance; infer_instance; exact PartsOk.nil; rfl; simp only [fillP, wrCells, Value.cells, List.getElem?_cons_zero, List.getElem?_cons_succ, List.toList_toArray, List.setIfInBounds_toArray, List.set_cons_succ, List.set_cons_zero, Nat.reduceAdd, Nat.zero_add]; rfl)
              refine LW.callSt (K := fun v fs' => v = .tuple #[] ∧ fs' = gb ++ ([(b7, .cells (cla y) 33 (0, 0))] ++ (g1 ++ [(b6, .cells (cla x) 33 (0, 0))]))) rfl rfl inferInstance (by (exact .cons rfl (.cons rfl .nil))) (fun w hst => ?_) ?_
              · refine Calls.mono (spoil_calls _ _ _ _ zeroC ⟨[], []⟩ gf [] (gb ++ ([(b7, .cells (cla y) 33 (0, 0))] ++ (g1 ++ [(b6, .cells (cla x) 33 (0, 0))]))) hF zeroC_o w (SubP.st ?_ hst)) fun x w' ⟨fs', ⟨h1, h2⟩, hst⟩ => ⟨_, _, h1, ⟨rfl, h2⟩, hst⟩
                exact subp_ix [[_], g6, g5, [_], gf, gb, g3, [_], [_], g2, g1, []] (xs := [4, 11, 5, 8, 10]) (ys := [0, 1, 2, 3, 4, 5, 6, 7, 8, 9, 10, 11]) [_] rfl
              rintro _ _ ⟨rfl, rfl⟩
              (refine nNz ?_; refine CW.seq ?_)
              apply CW.pre
              (refine AnyW.anyM [(2, CalledR x X)] 8 mixed (by decide +kernel) ?_)
              ((try simp only [tsOf_cons, tsOf_nil, tsOf_app]); apply DW.loadO; rfl; rfl; rfl; exact WantT.none; rfl; apply TRead.app; apply TRead.head; exact ancB_nil; exact cl_rdW; apply DW.loadO; rfl; rfl; rfl; exact WantT.none; rfl; apply TRead.app; apply TRead.tail; apply TRead.app; apply TRead.app; apply TRead.head; exact ancB_nil; exact cl_rdW)
              refine DW.manyW (vs' := [x.inp, x.code]) rfl rfl rfl (by (exact WantT.none)) rfl inferInstance (by (exact .cons rfl .nil)) hu.blocks (.ext hu.i rfl (.ext hu.c rfl .nil)) (fun w hb _ => called_calls x X w (hu.bel hb)) ?_
              rintro v7 g7 hv7
              obtain ⟨y7, rfl, hy7, hyx7⟩ := hv7.like
              obtain ⟨us7, hbl7, hin7, hrows7⟩ := hy7.lie
              ((try simp only [tsOf_cons, tsOf_nil, tsOf_app]))
              refine DW.callA (us1 ++ us7) (v := .bool true) rfl rfl rfl (by (exact WantT.none)) rfl inferInstance (by (exact .cons rfl (.cons rfl .nil))) (by rw [List.flatMap_cons, List.flatMap_cons, hbl1, hbl7, List.map_append]; simp) (fun p hp => AncT.lie (by (refine AncT.app ?_ ?_; refine AncT.new ?_; kernel_rfl; refine AncT.app ?_ ?_; exact AncT.tsOf; refine AncT.cons ?_ ?_; exact ancB_nil; refine AncT.app ?_ ?_; exact AncT.nil; refine AncT.app ?_ ?_; exact AncT.tsOf; refine AncT.cons ?_ ?_; exact ancB_nil; exact AncT.nil)) (by rcases List.mem_append.1 hp with hp | hp; · { have hp := hin1 p hp; simp [fsOf, tsOf, tsNew, tsTag, markAll, Function.comp_def, hp] }; · { have hp := hin7 p hp; simp [fsOf, tsOf, tsNew, tsTag, markAll, Function.comp_def, hp] })) (fun w _ hu => ?_) ?_
              · have h := rcSame_calls y y7 (fewC X) (fewC X) hyn.val (hyx7.num hun).val w (hrows1 w fun q hq => hu q (List.mem_append_left _ hq)) (hrows7 w fun q hq => hu q (List.mem_append_right _ hq))
                rw [decide_eq_true (hyx.same hyx7)] at h
                exact h
              (try simp only [markAll_cons, markAll_app, markAll_tsOf, markAll_tag, markAll_new, markAll_nil])
              ((try simp only [tsOf_cons, tsOf_nil, tsOf_app]); refine dvz (.notT rfl (by with_reducible rfl)) ?_; refine dvz (.move rfl) ?_; refine dwz (.move rfl) ?_; refine dwz (.move rfl) ?_; apply DW.nil; simp only [fsOf_cons, fsOf_nil, fsOf_app, fsOf_tsOf, fsOf_new, fsOf_tag, fsOf_mark])
              have hS5 : ∀ w', (∀ q ∈ g1, w'.heap[q.1]? = some q.2) → (∀ q ∈ g7, w'.heap[q.1]? = some q.2) → Calls Tryz.prog 17 #[clv y, clv y7] w' (Ret w' (.bool true)) := fun w' h h3 => by
                have h := rcSame_calls y y7 (fewC X) (fewC X) hyn.val (hyx7.num hun).val w' (hy.us h) (hy7.us h3)
                rwa [decide_eq_true (hyx.same hyx7)] at h
              have hEq : ∀ w', RowAt w' 1 (.slice p1 (min l1.length 300) c1) pl.length (ucs pl) → (∀ q ∈ gb, w'.heap[q.1]? = some q.2) → Calls Tryz.prog 18 #[bv, .slice p1 (min l1.length 300) c1] w' (Ret w' (.bool true)) := fun w' h h3 => by
                have h := sEqB_calls pl pl _ _ w' (hb.us h3 (List.Sublist.refl _)) h
                rwa [decide_eq_true rfl] at h
              (refine gTz ?_; apply LW.callE; rfl; rfl; infer_instance; exact .cons rfl (.cons rfl .nil); intro w _; rename_i hst; (exact hEq w (hpl.st hst) (st_ou hst (by (repeat (first | exact List.Sublist.refl _ | exact List.sublist_append_left _ _ | apply List.Sublist.cons | apply List.sublist_append_of_sublist_right))))); refine gTz ?_; refine lvz (.notT rfl (by with_reducible rfl)) ?_; refine pFz ?_; refine nNz ?_; refine cFz ?_; refine CW.skip ?_; refine blkN ?_; refine thenN ?_; refine CW.region ?_; refine lvz (.addZL rfl rfl (by decide) (by omega)) ?_; refine vMz ?_; apply LW.nil)
              apply thenX
              exact ⟨rfl, m + 1, ⟨hlt, h8⟩, by omega, ⟨rfl, rfl, rfl, rfl, rfl, trivial⟩, List.nil_sublist _⟩
            · exact absurd ho hn
          · have hF : FrO zeroF zeroL gf := hgf ▸ zero_frO
            clear hgf
            have hsl := hF.sl
            have hsl2 := hsl
            (refine vMz ?_; refine vEz ?_; refine vEz ?_; apply LW.allocA; rfl; intro _; apply LW.store; rfl; rfl; apply SetAt.head; apply fr_wrW; rfl; exact hsl; refine vAz ?_; refine nSz ?_; refine ldz rfl (.tail (.app (.app (.app (.tail (.tail (.app (.app .head)))))))) cl_rdW ?_)
            refine LW.callR rfl rfl inferInstance (by (exact .cons rfl .nil)) (fun w hst => called_calls x X w (hu.bel hst.bel)) ?_
            rintro v5 g5 hv5
            obtain ⟨y5, rfl, hy5, hyx5⟩ := hv5.like
            (refine vMz ?_)
            refine LW.callR rfl rfl inferInstance (by (exact .cons rfl (.cons rfl .nil))) (fun w hst => rStart_calls y5 (fewC X) pl hiX (hyx5.num hun).n (hyx5.num hun).pl _ w (hpl.st hst) (hy5.us (st_ou hst (by (exact List.sublist_append_left _ _))))) ?_
            rintro v6 g6 hS6
            rcases StaR.like hyx hyx5 hS6 with ⟨hn, _⟩ | ⟨_, rfl, hg6⟩
            · exact absurd hn ho
            · have hF2 : FrO zeroF zeroL g6 := hg6 ▸ zero_frO
              clear hg6
              have hRS : ∀ w', (∀ q ∈ gf, w'.heap[q.1]? = some q.2) → (∀ q ∈ g6, w'.heap[q.1]? = some q.2) → Calls Tryz.prog 15 #[frv zeroF, frv zeroF] w' (Ret w' (.bool true)) := fun w' h h2 => by
                have h := rfSame_calls _ _ _ _ zeroF_num zeroF_num w' (hF.us h) (hF2.us h2)
                rwa [decide_eq_true ⟨rfl, rfl, rfl, rfl, rfl, rfl, rfl, rfl, rfl, rfl, rfl⟩] at h
              (refine vMz ?_; refine vEz ?_; refine vEz ?_; apply LW.allocA; rfl; intro _; apply LW.store; rfl; rfl; apply SetAt.head; apply fr_wrW; rfl; exact hsl; refine vAz ?_; refine nNz ?_; refine CW.seq ?_; refine sRz ?_; refine vMz ?_; refine vMz ?_; refine lvz (.eqF rfl rfl (by omega)) ?_; refine lvz (.boolNeF rfl rfl (by with_reducible rfl)) ?_; refine vMz ?_; refine gTz ?_; refine vMz ?_; refine gTz ?_; refine lvz (.notF rfl (by with_reducible rfl)) ?_; refine gTz ?_; refine vMz ?_; refine gTz ?_; refine vMz ?_; refine gTz ?_; refine lvz (.neF rfl rfl (by omega)) ?_; refine gTz ?_; refine pTz ?_; refine pFz ?_; refine vMz ?_; refine gTz ?_; refine ldz rfl (.tail (.app (.app .head))) fr_rdW ?_; refine gTz ?_; refine ldz rfl .head fr_rdW ?_; refine gTz ?_; apply LW.callE; rfl; rfl; infer_instance; exact .cons rfl (.cons rfl .nil); intro w _; rename_i hst; (exact hRS w (st_ou hst (by (repeat (first | exact List.Sublist.refl _ | exact List.sublist_append_left _ _ | apply List.Sublist.cons | apply List.sublist_append_of_sublist_right)))) (st_ou hst (by (repeat (first | exact List.Sublist.refl _ | exact List.sublist_append_left _ _ | apply List.Sublist.cons | apply List.sublist_append_of_sublist_right))))); refine gTz ?_; refine lvz (.notT rfl (by with_reducible rfl)) ?_; refine pFz ?_; refine nNz ?_; refine cFz ?_; refine CW.skip ?_; refine thenN ?_; refine sRz ?_; refine ldz rfl (.tail (.app (.app .head))) fr_rdW ?_; apply LW.v0; rfl; rfl; apply ValP.buildT; infer_instance; infer_instance; exact PartsOk.nil; rfl; simp only [fillP, wrCells, Value.cells, List.getElem?_cons_zero, List.getElem?_cons_succ, List.toList_toArray, List.setIfInBounds_toArray, List.set_cons_succ, List.set_cons_zero, Nat.reduceAdd, Nat.zero_add]; rfl)
              refine LW.callSt (K := fun v fs' => v = .tuple #[] ∧ fs' = gb ++ ([(b7, .cells (cla y) 33 (0, 0))] ++ (g1 ++ [(b6, .cells (cla x) 33 (0, 0))]))) rfl rfl inferInstance (by (exact .cons rfl (.cons rfl .nil))) (fun w hst => ?_) ?_
              · refine Calls.mono (spoil_calls _ _ _ _ zeroC ⟨[], []⟩ gf [] (gb ++ ([(b7, .cells (cla y) 33 (0, 0))] ++ (g1 ++ [(b6, .cells (cla x) 33 (0, 0))]))) hF zeroC_o w (SubP.st ?_ hst)) fun x w' ⟨fs', ⟨h1, h2⟩, hst⟩ => ⟨_, _, h1, ⟨rfl, h2⟩, hst⟩
                exact subp_ix [[_], g6, g5, [_], gf, gb, g3, [_], [_], g2, g1, []] (xs := [4, 11, 5, 8, 10]) (ys := [0, 1, 2, 3, 4, 5, 6, 7, 8, 9, 10, 11]) [_] rfl
              rintro _ _ ⟨rfl, rfl⟩
              (refine nNz ?_; refine CW.seq ?_)
              apply CW.pre
              (refine AnyW.anyM [(2, CalledR x X)] 8 mixed (by decide +kernel) ?_)
              ((try simp only [tsOf_cons, tsOf_nil, tsOf_app]); apply DW.loadO; rfl; rfl; rfl; exact WantT.none; rfl; apply TRead.app; apply TRead.head; exact ancB_nil; exact cl_rdW; apply DW.loadO; rfl; rfl; rfl; exact WantT.none; rfl; apply TRead.app; apply TRead.tail; apply TRead.app; apply TRead.app; apply TRead.head; exact ancB_nil; exact cl_rdW)
              refine DW.manyW (vs' := [x.inp, x.code]) rfl rfl rfl (by (exact WantT.none)) rfl inferInstance (by (exact .cons rfl .nil)) hu.blocks (.ext hu.i rfl (.ext hu.c rfl .nil)) (fun w hb _ => called_calls x X w (hu.bel hb)) ?_
              rintro v7 g7 hv7
              obtain ⟨y7, rfl, hy7, hyx7⟩ := hv7.like
              obtain ⟨us7, hbl7, hin7, hrows7⟩ := hy7.lie
              ((try simp only [tsOf_cons, tsOf_nil, tsOf_app]))
              refine DW.callA (us1 ++ us7) (v := .bool true) rfl rfl rfl (by (exact WantT.none)) rfl inferInstance (by (exact .cons rfl (.cons rfl .nil))) (by rw [List.flatMap_cons, List.flatMap_cons, hbl1, hbl7, List.map_append]; simp) (fun p hp => AncT.lie (by (refine AncT.app ?_ ?_; refine AncT.new ?_; kernel_rfl; refine AncT.app ?_ ?_; exact AncT.tsOf; refine AncT.cons ?_ ?_; exact ancB_nil; refine AncT.app ?_ ?_; exact AncT.nil; refine AncT.app ?_ ?_; exact AncT.tsOf; refine AncT.cons ?_ ?_; exact ancB_nil; exact AncT.nil)) (by rcases List.mem_append.1 hp with hp | hp; · { have hp := hin1 p hp; simp [fsOf, tsOf, tsNew, tsTag, markAll, Function.comp_def, hp] }; · { have hp := hin7 p hp; simp [fsOf, tsOf, tsNew, tsTag, markAll, Function.comp_def, hp] })) (fun w _ hu => ?_) ?_
              · have h := rcSame_calls y y7 (fewC X) (fewC X) hyn.val (hyx7.num hun).val w (hrows1 w fun q hq => hu q (List.mem_append_left _ hq)) (hrows7 w fun q hq => hu q (List.mem_append_right _ hq))
                rw [decide_eq_true (hyx.same hyx7)] at h
                exact h
              (try simp only [markAll_cons, markAll_app, markAll_tsOf, markAll_tag, markAll_new, markAll_nil])
              ((try simp only [tsOf_cons, tsOf_nil, tsOf_app]); refine dvz (.notT rfl (by with_reducible rfl)) ?_; refine dvz (.move rfl) ?_; refine dwz (.move rfl) ?_; refine dwz (.move rfl) ?_; apply DW.nil; simp only [fsOf_cons, fsOf_nil, fsOf_app, fsOf_tsOf, fsOf_new, fsOf_tag, fsOf_mark])
              have hS5 : ∀ w', (∀ q ∈ g1, w'.heap[q.1]? = some q.2) → (∀ q ∈ g7, w'.heap[q.1]? = some q.2) → Calls Tryz.prog 17 #[clv y, clv y7] w' (Ret w' (.bool true)) := fun w' h h3 => by
                have h := rcSame_calls y y7 (fewC X) (fewC X) hyn.val (hyx7.num hun).val w' (hy.us h) (hy7.us h3)
                rwa [decide_eq_true (hyx.same hyx7)] at h
              have hEq : ∀ w', RowAt w' 1 (.slice p1 (min l1.length 300) c1) pl.length (ucs pl) → (∀ q ∈ gb, w'.heap[q.1]? = some q.2) → Calls Tryz.prog 18 #[bv, .slice p1 (min l1.length 300) c1] w' (Ret w' (.bool true)) := fun w' h h3 => by
                have h := sEqB_calls pl pl _ _ w' (hb.us h3 (List.Sublist.refl _)) h
                rwa [decide_eq_true rfl] at h
              (refine gTz ?_; apply LW.callE; rfl; rfl; infer_instance; exact .cons rfl (.cons rfl .nil); intro w _; rename_i hst; (exact hEq w (hpl.st hst) (st_ou hst (by (repeat (first | exact List.Sublist.refl _ | exact List.sublist_append_left _ _ | apply List.Sublist.cons | apply List.sublist_append_of_sublist_right))))); refine gTz ?_; refine lvz (.notT rfl (by with_reducible rfl)) ?_; refine pFz ?_; refine nNz ?_; refine cFz ?_; refine CW.skip ?_; refine blkN ?_; refine thenN ?_; refine CW.region ?_; refine lvz (.addZL rfl rfl (by decide) (by omega)) ?_; refine vMz ?_; apply LW.nil)
              apply thenX
              exact ⟨rfl, m + 1, ⟨hlt, h8⟩, by omega, ⟨rfl, rfl, rfl, rfl, rfl, trivial⟩, List.nil_sublist _⟩
        · rw [decide_eq_false hsm] at hS1 hS2
          (apply LW.store; rfl; rfl; apply SetAt.tail; apply SetAt.head; apply cl_wrW; rfl; exact hcy; apply LW.store; rfl; rfl; apply SetAt.head; apply cl_wrW; rfl; exact hcz; refine nNz ?_; refine CW.seq ?_; refine sRz ?_; refine ldz rfl (.tail .head) cl_rdW ?_; apply LW.callE; rfl; rfl; infer_instance; exact .cons rfl .nil; intro w _; rename_i hst; (exact hChk w (st_ou hst (by (repeat (first | exact List.Sublist.refl _ | exact List.sublist_append_left _ _ | apply List.Sublist.cons | apply List.sublist_append_of_sublist_right))))); refine vAz ?_; refine nNz ?_; refine CW.seq ?_)
          apply CW.pre
          (refine AnyW.anyM [(25, CalledR x X)] 26 mixed (by decide +kernel) ?_)
          ((try simp only [tsOf_cons, tsOf_nil, tsOf_app]); refine dvz (.move rfl) ?_; refine dvz (.eqF rfl rfl (by omega)) ?_; apply DW.loadO; rfl; rfl; rfl; exact WantT.none; rfl; apply TRead.tail; apply TRead.head; exact ancB_nil; exact cl_rdW)
          refine DW.callA us1 rfl rfl rfl (by (exact WantT.none)) rfl inferInstance (by (exact .cons rfl .nil)) (by rw [List.flatMap_cons, hbl1]; exact List.append_nil _) (fun p hp => AncT.lie (by (refine AncT.cons ?_ ?_; exact ancB_nil; refine AncT.cons ?_ ?_; exact ancB_nil; refine AncT.app ?_ ?_; exact AncT.tsOf; refine AncT.app ?_ ?_; exact AncT.tsOf; refine AncT.cons ?_ ?_; exact ancB_nil; exact AncT.nil)) (by have hp := hin1 p hp; simp [fsOf, tsOf, tsNew, tsTag, markAll, Function.comp_def, hp])) (fun w _ hu => hRt0 w hu) ?_
          (try simp only [markAll_cons, markAll_app, markAll_tsOf, markAll_tag, markAll_new, markAll_nil])
          ((try simp only [tsOf_cons, tsOf_nil, tsOf_app]); refine dvz (.boolNeF rfl rfl (by with_reducible rfl)) ?_; refine dvz (.move rfl) ?_; refine dwz (.move rfl) ?_; refine dwz (.neT rfl rfl (by omega)) ?_; refine dwz (.move rfl) ?_; refine dwz (.move rfl) ?_; refine dwz (.neF rfl rfl (by omega)) ?_; refine dwz (.pickT' rfl (by with_reducible rfl) rfl) ?_; refine dvz (.pickF' rfl (by with_reducible rfl) rfl) ?_; refine dvz (.move rfl) ?_; apply DW.loadO; rfl; rfl; rfl; apply wantYes; rfl; rfl; (with_reducible rfl); rfl; apply TRead.tail; apply TRead.head; exact ancB_nil; exact cl_rdW; apply DW.loadO; rfl; rfl; rfl; apply wantYes; rfl; rfl; (with_reducible rfl); rfl; apply TRead.head; exact ancB_nil; exact cl_rdW)
          refine DW.callA (us1 ++ us2) rfl rfl rfl (by (apply wantYes; rfl; rfl; (with_reducible rfl))) rfl inferInstance (by (exact .cons rfl (.cons rfl .nil))) hbl12 (fun p hp => AncT.lie (by (refine AncT.cons ?_ ?_; exact ancB_nil; refine AncT.cons ?_ ?_; exact ancB_nil; refine AncT.app ?_ ?_; refine AncT.tag ?_; exact ancB_nil; refine AncT.app ?_ ?_; refine AncT.tag ?_; exact ancB_nil; refine AncT.cons ?_ ?_; exact ancB_nil; exact AncT.nil)) (by rcases List.mem_append.1 hp with hp | hp; · { have hp := hin1 p hp; simp [fsOf, tsOf, tsNew, tsTag, markAll, Function.comp_def, hp] }; · { have hp := hin2 p hp; simp [fsOf, tsOf, tsNew, tsTag, markAll, Function.comp_def, hp] })) (fun w _ hu => hS1 w hu) ?_
          (try simp only [markAll_cons, markAll_app, markAll_tsOf, markAll_tag, markAll_new, markAll_nil])
          ((try simp only [tsOf_cons, tsOf_nil, tsOf_app]); apply DW.loadO; rfl; rfl; rfl; apply wantYes; rfl; rfl; (with_reducible rfl); rfl; apply TRead.tail; apply TRead.head; exact ancB_nil; exact cl_rdW; apply DW.loadO; rfl; rfl; rfl; apply wantYes; rfl; rfl; (with_reducible rfl); rfl; apply TRead.head; exact ancB_nil; exact cl_rdW)
          refine DW.callA (us1 ++ us2) rfl rfl rfl (by (apply wantYes; rfl; rfl; (with_reducible rfl))) rfl inferInstance (by (exact .cons rfl (.cons rfl .nil))) hbl12 (fun p hp => AncT.lie (by (refine AncT.cons ?_ ?_; exact ancB_nil; refine AncT.cons ?_ ?_; exact ancB_nil; refine AncT.app ?_ ?_; refine AncT.tag ?_; exact ancB_nil; refine AncT.app ?_ ?_; refine AncT.tag ?_; exact ancB_nil; refine AncT.cons ?_ ?_; exact ancB_nil; exact AncT.nil)) (by rcases List.mem_append.1 hp with hp | hp; · { have hp := hin1 p hp; simp [fsOf, tsOf, tsNew, tsTag, markAll, Function.comp_def, hp] }; · { have hp := hin2 p hp; simp [fsOf, tsOf, tsNew, tsTag, markAll, Function.comp_def, hp] })) (fun w _ hu => hS2 w hu) ?_
          (try simp only [markAll_cons, markAll_app, markAll_tsOf, markAll_tag, markAll_new, markAll_nil])
          ((try simp only [tsOf_cons, tsOf_nil, tsOf_app]); refine dwz (.boolNeF rfl rfl (by with_reducible rfl)) ?_; refine dvz (.pickF' rfl (by with_reducible rfl) rfl) ?_; refine dvz (.move rfl) ?_; apply DW.loadO; rfl; rfl; rfl; apply wantYes; rfl; rfl; (with_reducible rfl); rfl; apply TRead.tail; apply TRead.head; exact ancB_nil; exact cl_rdW; apply DW.loadO; rfl; rfl; rfl; apply wantYes; rfl; rfl; (with_reducible rfl); rfl; apply TRead.tail; apply TRead.tail; apply TRead.app; apply TRead.app; apply TRead.head; exact ancB_nil; exact cl_rdW)
          refine DW.manyW (vs' := [x.inp, x.code]) rfl rfl rfl (by (apply wantYes; rfl; rfl; (with_reducible rfl))) rfl inferInstance (by (exact .cons rfl .nil)) hu.blocks (.ext hu.i rfl (.ext hu.c rfl .nil)) (fun w hb _ => called_calls x X w (hu.bel hb)) ?_
          rintro v3 g3 hv3
          obtain ⟨y3, rfl, hy3, hyx3⟩ := hv3.like
          ((try simp only [tsOf_cons, tsOf_nil, tsOf_app]); apply DW.nil; simp only [fsOf_cons, fsOf_nil, fsOf_app, fsOf_tsOf, fsOf_new, fsOf_tag, fsOf_mark])
          have hS3 : ∀ w', (∀ q ∈ g1, w'.heap[q.1]? = some q.2) → (∀ q ∈ g3, w'.heap[q.1]? = some q.2) → Calls Tryz.prog 21 #[clv y, clv y3] w' (Ret w' (.bool true)) := fun w' h h3 => by
            have h := cSame_calls y y3 (fewC X) (fewC X) hyn.val (hyx3.num hun).val w' (hy.us h) (hy3.us h3)
            rwa [decide_eq_true (hyx.same hyx3)] at h
          (refine gTz ?_; apply LW.callE; rfl; rfl; infer_instance; exact .cons rfl (.cons rfl .nil); intro w _; rename_i hst; (exact hS3 w (st_ou hst (by (repeat (first | exact List.Sublist.refl _ | exact List.sublist_append_left _ _ | apply List.Sublist.cons | apply List.sublist_append_of_sublist_right)))) (st_ou hst (by (repeat (first | exact List.Sublist.refl _ | exact List.sublist_append_left _ _ | apply List.Sublist.cons | apply List.sublist_append_of_sublist_right))))); refine gTz ?_; refine lvz (.notT rfl (by with_reducible rfl)) ?_; refine pFz ?_; refine nNz ?_; refine cFz ?_; refine CW.skip ?_; refine thenN ?_; refine sRz ?_; refine vMz ?_)
          refine LW.callR rfl rfl inferInstance (by (exact .cons rfl .nil)) (fun w hst => SK.Clone_calls pl _ w (hpl.st hst) (by omega)) ?_
          rintro bv gb hb
          (refine vAz ?_; refine nSz ?_; refine ldz rfl (.app (.app (.tail .head))) cl_rdW ?_; refine vMz ?_)
          refine LW.callR rfl rfl inferInstance (by (exact .cons rfl (.cons rfl .nil))) (fun w hst => Start_calls y (fewC X) pl hiX hcX (by omega) bv w (hb.us (st_ou hst (by (exact List.sublist_append_left _ _))) (List.Sublist.refl _)) (hy.us (st_ou hst (by (apply List.sublist_append_of_sublist_right; apply List.sublist_append_of_sublist_right; apply List.Sublist.cons; apply List.Sublist.cons; apply List.sublist_append_of_sublist_right; exact List.sublist_append_left _ _))))) ?_
          rintro v4 gf hS4
          rcases hS4 with ⟨ho, a, b, c, d, e, rfl, hF⟩ | ⟨ho, rfl, hgf⟩
          · have hsl := hF.sl
            have hsl2 := hsl
            (refine vMz ?_; refine vEz ?_; refine vEz ?_; apply LW.allocA; rfl; intro _; apply LW.store; rfl; rfl; apply SetAt.head; apply fr_wrW; rfl; exact hsl; refine vAz ?_; refine nSz ?_; refine ldz rfl (.tail (.app (.app (.app (.tail (.tail (.app (.app .head)))))))) cl_rdW ?_)
            refine LW.callR rfl rfl inferInstance (by (exact .cons rfl .nil)) (fun w hst => called_calls x X w (hu.bel hst.bel)) ?_
            rintro v5 g5 hv5
            obtain ⟨y5, rfl, hy5, hyx5⟩ := hv5.like
            (refine vMz ?_)
            refine LW.callR rfl rfl inferInstance (by (exact .cons rfl (.cons rfl .nil))) (fun w hst => rStart_calls y5 (fewC X) pl hiX (hyx5.num hun).n (hyx5.num hun).pl _ w (hpl.st hst) (hy5.us (st_ou hst (by (exact List.sublist_append_left _ _))))) ?_
            rintro v6 g6 hS6
            rcases StaR.like hyx hyx5 hS6 with ⟨_, a2, b2, c2, d2, e2, rfl, hF2⟩ | ⟨hn, _⟩
            · clear hsl2
              have hsl2 := hF2.sl
              have hRS : ∀ w', (∀ q ∈ gf, w'.heap[q.1]? = some q.2) → (∀ q ∈ g6, w'.heap[q.1]? = some q.2) → Calls Tryz.prog 15 #[frv (staF y a b c d e), frv (staF y a2 b2 c2 d2 e2)] w' (Ret w' (.bool true)) := fun w' h h2 => by
                have h := rfSame_calls _ _ _ _ (staF_num hyn) (staF_num hyn) w' (hF.us h) (hF2.us h2)
                rwa [decide_eq_true staF_same] at h
              (refine vMz ?_; refine vEz ?_; refine vEz ?_; apply LW.allocA; rfl; intro _; apply LW.store; rfl; rfl; apply SetAt.head; apply fr_wrW; rfl; exact hsl2; refine vAz ?_; refine nNz ?_; refine CW.seq ?_; refine sRz ?_; refine vMz ?_; refine vMz ?_; refine lvz (.eqT rfl rfl (by omega)) ?_; refine lvz (.boolNeF rfl rfl (by with_reducible rfl)) ?_; refine vMz ?_; refine gTz ?_; refine vMz ?_; refine gTz ?_; refine lvz (.notT rfl (by with_reducible rfl)) ?_; refine gTz ?_; refine vMz ?_; refine gFz ?_; refine gFz ?_; refine gTz ?_; refine pFz ?_; refine pFz ?_; refine vMz ?_; refine gTz ?_; refine ldz rfl (.tail (.app (.app .head))) fr_rdW ?_; refine gTz ?_; refine ldz rfl .head fr_rdW ?_; refine gTz ?_; apply LW.callE; rfl; rfl; infer_instance; exact .cons rfl (.cons rfl .nil); intro w _; rename_i hst; (exact hRS w (st_ou hst (by (repeat (first | exact List.Sublist.refl _ | exact List.sublist_append_left _ _ | apply List.Sublist.cons | apply List.sublist_append_of_sublist_right)))) (st_ou hst (by (repeat (first | exact List.Sublist.refl _ | exact List.sublist_append_left _ _ | apply List.Sublist.cons | apply List.sublist_append_of_sublist_right))))); refine gTz ?_; refine lvz (.notT rfl (by with_reducible rfl)) ?_; refine pFz ?_; refine nNz ?_; refine cFz ?_; refine CW.skip ?_; refine thenN ?_; refine sRz ?_; refine ldz rfl (.tail (.app (.app .head))) fr_rdW ?_; apply LW.v0; rfl; rfl; apply ValP.buildT; infer_instance; infer_instance; exact PartsOk.nil; rfl; simp only [fillP, wrCells, Value.cells, List.getElem?_cons_zero, List.getElem?_cons_succ, List.toList_toArray, List.setIfInBounds_toArray, List.set_cons_succ, List.set_cons_zero, Nat.reduceAdd, Nat.zero_add]; rfl)
              refine LW.callSt (K := fun v fs' => v = .tuple #[] ∧ fs' = gb ++ ([(b7, .cells (cla y) 33 (0, 0))] ++ (g1 ++ [(b6, .cells (cla x) 33 (0, 0))]))) rfl rfl inferInstance (by (exact .cons rfl (.cons rfl .nil))) (fun w hst => ?_) ?_
              · refine Calls.mono (spoil_calls _ _ _ _ zeroC ⟨[], []⟩ gf [] (gb ++ ([(b7, .cells (cla y) 33 (0, 0))] ++ (g1 ++ [(b6, .cells (cla x) 33 (0, 0))]))) hF zeroC_o w (SubP.st ?_ hst)) fun x w' ⟨fs', ⟨h1, h2⟩, hst⟩ => ⟨_, _, h1, ⟨rfl, h2⟩, hst⟩
                exact subp_ix [[_], g6, g5, [_], gf, gb, g3, [_], [_], g2, g1, []] (xs := [4, 11, 5, 8, 10]) (ys := [0, 1, 2, 3, 4, 5, 6, 7, 8, 9, 10, 11]) [_] rfl
              rintro _ _ ⟨rfl, rfl⟩
              (refine nNz ?_; refine CW.seq ?_)
              apply CW.pre
              (refine AnyW.anyM [(2, CalledR x X)] 8 mixed (by decide +kernel) ?_)
              ((try simp only [tsOf_cons, tsOf_nil, tsOf_app]); apply DW.loadO; rfl; rfl; rfl; exact WantT.none; rfl; apply TRead.app; apply TRead.head; exact ancB_nil; exact cl_rdW; apply DW.loadO; rfl; rfl; rfl; exact WantT.none; rfl; apply TRead.app; apply TRead.tail; apply TRead.app; apply TRead.app; apply TRead.head; exact ancB_nil; exact cl_rdW)
              refine DW.manyW (vs' := [x.inp, x.code]) rfl rfl rfl (by (exact WantT.none)) rfl inferInstance (by (exact .cons rfl .nil)) hu.blocks (.ext hu.i rfl (.ext hu.c rfl .nil)) (fun w hb _ => called_calls x X w (hu.bel hb)) ?_
              rintro v7 g7 hv7
              obtain ⟨y7, rfl, hy7, hyx7⟩ := hv7.like
              obtain ⟨us7, hbl7, hin7, hrows7⟩ := hy7.lie
              ((try simp only [tsOf_cons, tsOf_nil, tsOf_app]))
              refine DW.callA (us1 ++ us7) (v := .bool true) rfl rfl rfl (by (exact WantT.none)) rfl inferInstance (by (exact .cons rfl (.cons rfl .nil))) (by rw [List.flatMap_cons, List.flatMap_cons, hbl1, hbl7, List.map_append]; simp) (fun p hp => AncT.lie (by (refine AncT.app ?_ ?_; refine AncT.new ?_; kernel_rfl; refine AncT.app ?_ ?_; exact AncT.tsOf; refine AncT.cons ?_ ?_; exact ancB_nil; refine AncT.app ?_ ?_; exact AncT.nil; refine AncT.app ?_ ?_; exact AncT.tsOf; refine AncT.cons ?_ ?_; exact ancB_nil; exact AncT.nil)) (by rcases List.mem_append.1 hp with hp | hp; · { have hp := hin1 p hp; simp [fsOf, tsOf, tsNew, tsTag, markAll, Function.comp_def, hp] }; · { have hp := hin7 p hp; simp [fsOf, tsOf, tsNew, tsTag, markAll, Function.comp_def, hp] })) (fun w _ hu => ?_) ?_
              · have h := rcSame_calls y y7 (fewC X) (fewC X) hyn.val (hyx7.num hun).val w (hrows1 w fun q hq => hu q (List.mem_append_left _ hq)) (hrows7 w fun q hq => hu q (List.mem_append_right _ hq))
                rw [decide_eq_true (hyx.same hyx7)] at h
                exact h
              (try simp only [markAll_cons, markAll_app, markAll_tsOf, markAll_tag, markAll_new, markAll_nil])
              ((try simp only [tsOf_cons, tsOf_nil, tsOf_app]); refine dvz (.notT rfl (by with_reducible rfl)) ?_; refine dvz (.move rfl) ?_; refine dwz (.move rfl) ?_; refine dwz (.move rfl) ?_; apply DW.nil; simp only [fsOf_cons, fsOf_nil, fsOf_app, fsOf_tsOf, fsOf_new, fsOf_tag, fsOf_mark])
              have hS5 : ∀ w', (∀ q ∈ g1, w'.heap[q.1]? = some q.2) → (∀ q ∈ g7, w'.heap[q.1]? = some q.2) → Calls Tryz.prog 17 #[clv y, clv y7] w' (Ret w' (.bool true)) := fun w' h h3 => by
                have h := rcSame_calls y y7 (fewC X) (fewC X) hyn.val (hyx7.num hun).val w' (hy.us h) (hy7.us h3)
                rwa [decide_eq_true (hyx.same hyx7)] at h
              have hEq : ∀ w', RowAt w' 1 (.slice p1 (min l1.length 300) c1) pl.length (ucs pl) → (∀ q ∈ gb, w'.heap[q.1]? = some q.2) → Calls Tryz.prog 18 #[bv, .slice p1 (min l1.length 300) c1] w' (Ret w' (.bool true)) := fun w' h h3 => by
                have h := sEqB_calls pl pl _ _ w' (hb.us h3 (List.Sublist.refl _)) h
                rwa [decide_eq_true rfl] at h
              (refine gTz ?_; apply LW.callE; rfl; rfl; infer_instance; exact .cons rfl (.cons rfl .nil); intro w _; rename_i hst; (exact hEq w (hpl.st hst) (st_ou hst (by (repeat (first | exact List.Sublist.refl _ | exact List.sublist_append_left _ _ | apply List.Sublist.cons | apply List.sublist_append_of_sublist_right))))); refine gTz ?_; refine lvz (.notT rfl (by with_reducible rfl)) ?_; refine pFz ?_; refine nNz ?_; refine cFz ?_; refine CW.skip ?_; refine blkN ?_; refine thenN ?_; refine CW.region ?_; refine lvz (.addZL rfl rfl (by decide) (by omega)) ?_; refine vMz ?_; apply LW.nil)
              apply thenX
              exact ⟨rfl, m + 1, ⟨hlt, h8⟩, by omega, ⟨rfl, rfl, rfl, rfl, rfl, trivial⟩, List.nil_sublist _⟩
            · exact absurd ho hn
          · have hF : FrO zeroF zeroL gf := hgf ▸ zero_frO
            clear hgf
            have hsl := hF.sl
            have hsl2 := hsl
            (refine vMz ?_; refine vEz ?_; refine vEz ?_; apply LW.allocA; rfl; intro _; apply LW.store; rfl; rfl; apply SetAt.head; apply fr_wrW; rfl; exact hsl; refine vAz ?_; refine nSz ?_; refine ldz rfl (.tail (.app (.app (.app (.tail (.tail (.app (.app .head)))))))) cl_rdW ?_)
            refine LW.callR rfl rfl inferInstance (by (exact .cons rfl .nil)) (fun w hst => called_calls x X w (hu.bel hst.bel)) ?_
            rintro v5 g5 hv5
            obtain ⟨y5, rfl, hy5, hyx5⟩ := hv5.like
            (refine vMz ?_)
            refine LW.callR rfl rfl inferInstance (by (exact .cons rfl (.cons rfl .nil))) (fun w hst => rStart_calls y5 (fewC X) pl hiX (hyx5.num hun).n (hyx5.num hun).pl _ w (hpl.st hst) (hy5.us (st_ou hst (by (exact List.sublist_append_left _ _))))) ?_
            rintro v6 g6 hS6
            rcases StaR.like hyx hyx5 hS6 with ⟨hn, _⟩ | ⟨_, rfl, hg6⟩
            · exact absurd hn ho
            · have hF2 : FrO zeroF zeroL g6 := hg6 ▸ zero_frO
              clear hg6
              have hRS : ∀ w', (∀ q ∈ gf, w'.heap[q.1]? = some q.2) → (∀ q ∈ g6, w'.heap[q.1]? = some q.2) → Calls Tryz.prog 15 #[frv zeroF, frv zeroF] w' (Ret w' (.bool true)) := fun w' h h2 => by
                have h := rfSame_calls _ _ _ _ zeroF_num zeroF_num w' (hF.us h) (hF2.us h2)
                rwa [decide_eq_true ⟨rfl, rfl, rfl, rfl, rfl, rfl, rfl, rfl, rfl, rfl, rfl⟩] at h
              (refine vMz ?_; refine vEz ?_; refine vEz ?_; apply LW.allocA; rfl; intro _; apply LW.store; rfl; rfl; apply SetAt.head; apply fr_wrW; rfl; exact hsl; refine vAz ?_; refine nNz ?_; refine CW.seq ?_; refine sRz ?_; refine vMz ?_; refine vMz ?_; refine lvz (.eqF rfl rfl (by omega)) ?_; refine lvz (.boolNeF rfl rfl (by with_reducible rfl)) ?_; refine vMz ?_; refine gTz ?_; refine vMz ?_; refine gTz ?_; refine lvz (.notF rfl (by with_reducible rfl)) ?_; refine gTz ?_; refine vMz ?_; refine gTz ?_; refine vMz ?_; refine gTz ?_; refine lvz (.neF rfl rfl (by omega)) ?_; refine gTz ?_; refine pTz ?_; refine pFz ?_; refine vMz ?_; refine gTz ?_; refine ldz rfl (.tail (.app (.app .head))) fr_rdW ?_; refine gTz ?_; refine ldz rfl .head fr_rdW ?_; refine gTz ?_; apply LW.callE; rfl; rfl; infer_instance; exact .cons rfl (.cons rfl .nil); intro w _; rename_i hst; (exact hRS w (st_ou hst (by (repeat (first | exact List.Sublist.refl _ | exact List.sublist_append_left _ _ | apply List.Sublist.cons | apply List.sublist_append_of_sublist_right)))) (st_ou hst (by (repeat (first | exact List.Sublist.refl _ | exact List.sublist_append_left _ _ | apply List.Sublist.cons | apply List.sublist_append_of_sublist_right))))); refine gTz ?_; refine lvz (.notT rfl (by with_reducible rfl)) ?_; refine pFz ?_; refine nNz ?_; refine cFz ?_; refine CW.skip ?_; refine thenN ?_; refine sRz ?_; refine ldz rfl (.tail (.app (.app .head))) fr_rdW ?_; apply LW.v0; rfl; rfl; apply ValP.buildT; infer_instance; infer_instance; exact PartsOk.nil; rfl; simp only [fillP, wrCells, Value.cells, List.getElem?_cons_zero, List.getElem?_cons_succ, List.toList_toArray, List.setIfInBounds_toArray, List.set_cons_succ, List.set_cons_zero, Nat.reduceAdd, Nat.zero_add]; rfl)
              refine LW.callSt (K := fun v fs' => v = .tuple #[] ∧ fs' = gb ++ ([(b7, .cells (cla y) 33 (0, 0))] ++ (g1 ++ [(b6, .cells (cla x) 33 (0, 0))]))) rfl rfl inferInstance (by (exact .cons rfl (.cons rfl .nil))) (fun w hst => ?_) ?_
              · refine Calls.mono (spoil_calls _ _ _ _ zeroC ⟨[], []⟩ gf [] (gb ++ ([(b7, .cells (cla y) 33 (0, 0))] ++ (g1 ++ [(b6, .cells (cla x) 33 (0, 0))]))) hF zeroC_o w (SubP.st ?_ hst)) fun x w' ⟨fs', ⟨h1, h2⟩, hst⟩ => ⟨_, _, h1, ⟨rfl, h2⟩, hst⟩
                exact subp_ix [[_], g6, g5, [_], gf, gb, g3, [_], [_], g2, g1, []] (xs := [4, 11, 5, 8, 10]) (ys := [0, 1, 2, 3, 4, 5, 6, 7, 8, 9, 10, 11]) [_] rfl
              rintro _ _ ⟨rfl, rfl⟩
              (refine nNz ?_; refine CW.seq ?_)
              apply CW.pre
              (refine AnyW.anyM [(2, CalledR x X)] 8 mixed (by decide +kernel) ?_)
              ((try simp only [tsOf_cons, tsOf_nil, tsOf_app]); apply DW.loadO; rfl; rfl; rfl; exact WantT.none; rfl; apply TRead.app; apply TRead.head; exact ancB_nil; exact cl_rdW; apply DW.loadO; rfl; rfl; rfl; exact WantT.none; rfl; apply TRead.app; apply TRead.tail; apply TRead.app; apply TRead.app; apply TRead.head; exact ancB_nil; exact cl_rdW)
              refine DW.manyW (vs' := [x.inp, x.code]) rfl rfl rfl (by (exact WantT.none)) rfl inferInstance (by (exact .cons rfl .nil)) hu.blocks (.ext hu.i rfl (.ext hu.c rfl .nil)) (fun w hb _ => called_calls x X w (hu.bel hb)) ?_
              rintro v7 g7 hv7
              obtain ⟨y7, rfl, hy7, hyx7⟩ := hv7.like
              obtain ⟨us7, hbl7, hin7, hrows7⟩ := hy7.lie
              ((try simp only [tsOf_cons, tsOf_nil, tsOf_app]))
              refine DW.callA (us1 ++ us7) (v := .bool true) rfl rfl rfl (by (exact WantT.none)) rfl inferInstance (by (exact .cons rfl (.cons rfl .nil))) (by rw [List.flatMap_cons, List.flatMap_cons, hbl1, hbl7, List.map_append]; simp) (fun p hp => AncT.lie (by (refine AncT.app ?_ ?_; refine AncT.new ?_; kernel_rfl; refine AncT.app ?_ ?_; exact AncT.tsOf; refine AncT.cons ?_ ?_; exact ancB_nil; refine AncT.app ?_ ?_; exact AncT.nil; refine AncT.app ?_ ?_; exact AncT.tsOf; refine AncT.cons ?_ ?_; exact ancB_nil; exact AncT.nil)) (by rcases List.mem_append.1 hp with hp | hp; · { have hp := hin1 p hp; simp [fsOf, tsOf, tsNew, tsTag, markAll, Function.comp_def, hp] }; · { have hp := hin7 p hp; simp [fsOf, tsOf, tsNew, tsTag, markAll, Function.comp_def, hp] })) (fun w _ hu => ?_) ?_
              · have h := rcSame_calls y y7 (fewC X) (fewC X) hyn.val (hyx7.num hun).val w (hrows1 w fun q hq => hu q (List.mem_append_left _ hq)) (hrows7 w fun q hq => hu q (List.mem_append_right _ hq))
                rw [decide_eq_true (hyx.same hyx7)] at h
                exact h
              (try simp only [markAll_cons, markAll_app, markAll_tsOf, markAll_tag, markAll_new, markAll_nil])
              ((try simp only [tsOf_cons, tsOf_nil, tsOf_app]); refine dvz (.notT rfl (by with_reducible rfl)) ?_; refine dvz (.move rfl) ?_; refine dwz (.move rfl) ?_; refine dwz (.move rfl) ?_; apply DW.nil; simp only [fsOf_cons, fsOf_nil, fsOf_app, fsOf_tsOf, fsOf_new, fsOf_tag, fsOf_mark])
              have hS5 : ∀ w', (∀ q ∈ g1, w'.heap[q.1]? = some q.2) → (∀ q ∈ g7, w'.heap[q.1]? = some q.2) → Calls Tryz.prog 17 #[clv y, clv y7] w' (Ret w' (.bool true)) := fun w' h h3 => by
                have h := rcSame_calls y y7 (fewC X) (fewC X) hyn.val (hyx7.num hun).val w' (hy.us h) (hy7.us h3)
                rwa [decide_eq_true (hyx.same hyx7)] at h
              have hEq : ∀ w', RowAt w' 1 (.slice p1 (min l1.length 300) c1) pl.length (ucs pl) → (∀ q ∈ gb, w'.heap[q.1]? = some q.2) → Calls Tryz.prog 18 #[bv, .slice p1 (min l1.length 300) c1] w' (Ret w' (.bool true)) := fun w' h h3 => by
                have h := sEqB_calls pl pl _ _ w' (hb.us h3 (List.Sublist.refl _)) h
                rwa [decide_eq_true rfl] at h
              (refine gTz ?_; apply LW.callE; rfl; rfl; infer_instance; exact .cons rfl (.cons rfl .nil); intro w _; rename_i hst; (exact hEq w (hpl.st hst) (st_ou hst (by (repeat (first | exact List.Sublist.refl _ | exact List.sublist_append_left _ _ | apply List.Sublist.cons | apply List.sublist_append_of_sublist_right))))); refine gTz ?_; refine lvz (.notT rfl (by with_reducible rfl)) ?_; refine pFz ?_; refine nNz ?_; refine cFz ?_; refine CW.skip ?_; refine blkN ?_; refine thenN ?_; refine CW.region ?_; refine lvz (.addZL rfl rfl (by decide) (by omega)) ?_; refine vMz ?_; apply LW.nil)
              apply thenX
              exact ⟨rfl, m + 1, ⟨hlt, h8⟩, by omega, ⟨rfl, rfl, rfl, rfl, rfl, trivial⟩, List.nil_sublist _⟩
    · obtain rfl : m = 8 := by omega
      have hcy := hcx
      have hcz := hcx
      (refine sRz ?_; refine lvz (.lssT rfl rfl (by omega)) ?_; refine nNz ?_; refine CW.seq ?_; refine cTz ?_; refine CW.skip ?_; refine thenN ?_; refine CW.seq ?_; refine CW.block ?_; refine sRz ?_; refine vMz ?_; refine lvz (.indexAddrSL rfl rfl (by decide) (by omega)) ?_; apply LW.load; rfl; rfl; exact Known.ext (by assumption) (by simp); assumption; apply LW.allocA; rfl; intro _; refine vAz ?_; apply LW.store; rfl; rfl; apply SetAt.head; apply cl_wrW; rfl; exact hcx; refine nNz ?_; refine CW.seq ?_; refine sRz ?_; refine vMz ?_; refine lvz (.eqT rfl rfl (by omega)) ?_; refine nNz ?_; refine cTz ?_; refine CW.exit ?_; refine thenE ?_; refine blkO rfl ?_; refine thenE ?_; refine thenE ?_; refine blkE rfl ?_; refine thenN ?_; refine sRz ?_; refine vAz ?_; refine nNz ?_; refine CW.ret ?_)
      (apply finR; exact .inl rfl; rfl; rfl; rfl; apply ResL.cons; exact Res.tmp rfl; exact ResL.nil)
      rfl
  · (refine sRz ?_; refine lvz (.lssF rfl rfl (by omega)) ?_; refine nNz ?_; refine CW.seq ?_; refine cFz ?_; refine CW.exit ?_; refine thenE ?_; refine thenE ?_; refine blkE rfl ?_; refine thenN ?_; refine sRz ?_; refine vAz ?_; refine nNz ?_; refine CW.ret ?_)
    (apply finR; exact .inl rfl; rfl; rfl; rfl; apply ResL.cons; exact Res.tmp rfl; exact ResL.nil)
    rfl
end Go.Proofs.YtpgdnfgjbhdbpaaGreatDoor

/-
  Arguments of the laws on calls, opened.
  Conditions: none.
-/
namespace Go.Proofs.YtpgdnfgjbhdbpaaGreatDoor
open Go Go.RowKit SL
open Go.ChangeShapes Go.WideShapes
set_option linter.unusedVariables false
section op
variable {w : World}
theorem pair_is {f r : Ty} {cs : List Value} (h : (Ty.pair f r).is w cs) : ∃ a b, cs = a ++ b ∧ f.is w a ∧ r.is w b := ⟨_, _, (List.take_append_drop _ cs).symm, h.1, h.2⟩
theorem is_u64 {cs : List Value} (h : (Ty.int .u64).is w cs) : ∃ n : Nat, n < 18446744073709551616 ∧ cs = [.int .u64 (n : Int)] := by
  obtain ⟨n, rfl, hn⟩ := h
  obtain ⟨k, rfl, hk⟩ := wf_u64 hn
  exact ⟨k, hk, rfl⟩
theorem is_byte {cs : List Value} (h : (Ty.int .u8).is w cs) : ∃ n : Nat, cs = [.int .u8 (n : Int)] := by
  obtain ⟨u, _, rfl⟩ := is_u8 h
  exact ⟨u.toNat, rfl⟩
def tyBs : Ty := .sl (.int .u8)
def tyCl : Ty := .pair (.int .u8) (.pair (.int .u64) (.pair (.int .u64) (.pair (.int .u64) (.pair .word (.pair .bool (.pair (.int .u64) (.pair tyBs (.pair tyBs (.pair (.int .u64) (.pair (.int .u64) (.pair .bool .unit)))))))))))
theorem is_cl {cs : List Value} (h : tyCl.is w cs) : ∃ p : ClV × ClL, (ClRows w p.1 p.2 ∧ ClNum p.1) ∧ cs = clp p := by
  obtain ⟨_, _, rfl, h0, h⟩ := pair_is h
  obtain ⟨_, _, rfl, h1, h⟩ := pair_is h
  obtain ⟨_, _, rfl, h2, h⟩ := pair_is h
  obtain ⟨_, _, rfl, h3, h⟩ := pair_is h
  obtain ⟨_, _, rfl, h4, h⟩ := pair_is h
  obtain ⟨_, _, rfl, h5, h⟩ := pair_is h
  obtain ⟨_, _, rfl, h6, h⟩ := pair_is h
  obtain ⟨_, _, rfl, h7, h⟩ := pair_is h
  obtain ⟨_, _, rfl, h8, h⟩ := pair_is h
  obtain ⟨_, _, rfl, h9, h⟩ := pair_is h
  obtain ⟨_, _, rfl, ha, h⟩ := pair_is h
  obtain ⟨_, _, rfl, hb, h⟩ := pair_is h
  obtain rfl : _ = [] := h
  obtain ⟨n0, rfl⟩ := is_byte h0
  obtain ⟨n1, b1, rfl⟩ := is_u64 h1
  obtain ⟨n2, b2, rfl⟩ := is_u64 h2
  obtain ⟨n3, b3, rfl⟩ := is_u64 h3
  obtain ⟨n4, b4, rfl⟩ := is_word h4
  obtain ⟨f5, rfl⟩ := h5
  obtain ⟨n6, b6, rfl⟩ := is_u64 h6
  obtain ⟨⟨v7, l7⟩, b7, rfl⟩ := is_bytes h7
  obtain ⟨⟨v8, l8⟩, b8, rfl⟩ := is_bytes h8
  obtain ⟨n9, b9, rfl⟩ := is_u64 h9
  obtain ⟨na, ba, rfl⟩ := is_u64 ha
  obtain ⟨fb, rfl⟩ := hb
  exact ⟨(⟨n0, n1, n2, n3, n4, f5, n6, v7, v8, n9, na, fb⟩, ⟨l7, l8⟩), ⟨⟨b7, b8⟩, ⟨b4, ba, b9, b6, b2, b3⟩⟩, rfl⟩
end op
end Go.Proofs.YtpgdnfgjbhdbpaaGreatDoor
