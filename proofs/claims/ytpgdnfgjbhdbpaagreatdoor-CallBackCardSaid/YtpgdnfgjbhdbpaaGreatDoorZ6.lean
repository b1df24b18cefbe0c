/-
  Texts that were built apart, put behind one another (6 of 6): ON NX NZ OL.
  Conditions: none.
-/
import Derived.Test.YtpgdnfgjbhdbpaaGreatDoorZ5
import Derived.Test.YtpgdnfgjbhdbpaaGreatDoorRows
import Derived.LaidMore
import Derived.Lib.LaidTab
import Derived.Lib.LaidU8
/-
  Behind the end of what was begun nothing has changed but what the answer, the word and the gas say: the law.
  Conditions: none.
-/
namespace Go.Proofs.YtpgdnfgjbhdbpaaGreatDoor
open Go Go.RowKit SL
open SK (TurnAt NumAt)
theorem kn_mem {C : Cu} {fs gs : Fs} {b : Nat} {o : Obj} (hm : (b, o) ∈ gs) (hs : gs.Sublist fs) : Known C fs (b, o) := .inl (hs.subset hm)
set_option maxRecDepth 8000
set_option maxHeartbeats 4000000
set_option linter.unusedSimpArgs false
set_option linter.unusedVariables false
attribute [local irreducible] SL.CW SL.LW SL.DW Calls SL.Ret SL.RetG SL.beginQ SL.roundQ SL.rangeQ SL.inQ SL.RW SL.AnyW SL.thenQ SL.thenC SL.thenW SL.blkQ SL.finQ SL.ValP SL.NewP SL.SetP SL.CallP SL.Rd SL.Wr SL.Known
theorem whoC_dst (f : FrV) (op : Nat) (ws : List Nat) : (whoC f op ws).dst < 18446744073709551616 := by
  unfold whoC
  split <;> exact Nat.mod_lt _ (by decide)
section ir
attribute [local irreducible] createdA whoC lentG callV creV keepV reachG
theorem creC_dst {f : FrV} {L L' : FrL} {A : AkV} {ws : List Nat} {g : Nat} {M : ClL} {c : ClV} (h : beginA f L A ws = some (g, L', M, c)) : c.dst < 18446744073709551616 := by
  unfold beginA at h
  split at h
  · split at h
    · unfold beginX at h
      cases hR1 : reachG f.gas L (wordI ws 1) (wordI ws 2) with
      | none => rw [hR1] at h; cases h
      | some x =>
        obtain ⟨g1, L1⟩ := x
        rw [hR1] at h
        dsimp only at h
        generalize (L1.ms.drop (wordI ws 1)).take (wordI ws 2) = l at h
        have hc := createdA_lt f.self (ws.getD 3 0) l
        generalize createdA f.self (ws.getD 3 0) l = cr at h hc
        split at h
        · cases h
          exact hc
        · cases h
    · cases hG : beginG f L A ws with
      | none => rw [hG] at h; cases h
      | some x =>
        obtain ⟨g0, L0, l0, c0⟩ := x
        rw [hG] at h
        cases h
        unfold beginG at hG
        dsimp only at hG
        have hw := whoC_dst f A.op ws
        generalize whoC f A.op ws = c1 at hG hw
        cases hR1 : reachG f.gas L (wordI ws (shq A.op).2.2.2.1) (wordI ws ((shq A.op).2.2.2.1 + 1)) with
        | none => rw [hR1] at hG; cases hG
        | some x =>
          obtain ⟨g1, L1⟩ := x
          rw [hR1] at hG
          dsimp only at hG
          cases hR2 : reachG g1 L1 (wordI ws (shq A.op).2.2.2.2.1) (wordI ws ((shq A.op).2.2.2.2.1 + 1)) with
          | none => rw [hR2] at hG; cases hG
          | some y =>
            obtain ⟨g2, L2⟩ := y
            rw [hR2] at hG
            dsimp only at hG
            split at hG
            · cases hG
              exact hw
            · cases hG
  · cases h
end ir
theorem SL.CW.loopF {C : Cu} {c : Code} {Q : Post} {e : Env} {fs : Fs} {α : Type} (st : α → Env) (inv : α → Prop) (μ : α → Nat) (x0 : α) (h0 : inv x0) (he : e.le (st x0))
    (round : ∀ x, inv x → CW C c (thenQ (fun ds e fs' => ds = C.ds ∧ ∃ x', inv x' ∧ μ x' < μ x ∧ e.le (st x') ∧ List.Sublist fs fs') Q) (st x) fs) : CW C (.loop c) Q e fs :=
  CW.loop (fun x => (st x, fs)) inv μ x0 h0 he (List.Sublist.refl _) round
theorem ov_wr1 {P : Program} {T E : TypeId} {ok : Bool} {left x : Nat} {out z : Value} [InfoI P T 1 z] : Wr P T (.cells (ova ok left out) E (0, 0)) (0 + 1) (.int .u64 (x : Int)) (.cells (ova ok x out) E (0, 0)) := Wr.cells (n := 1) (z := z) rfl rfl (by show 0 + 1 + 1 ≤ 3; omega) rfl
theorem CallBack_walk (x : FrV) (X : FrL) (a : AkA) (o : OvV) (hxn : FrNum x X) (hol : o.left < 18446744073709551616) (w : World) (hx : FrRows w x X) (ha : AkAt w a) (ho : RowAt w 1 o.out o.l.length (ucs o.l)) (hL : TurnAt w ∧ NumAt w) : Calls Tryz.prog 6 #[frv x, .agg (aska a.kind a.op a.ws a.dt), .agg (ova o.ok o.left o.out)] w (Ret w (.bool true)) := by
  obtain ⟨dl, hdt⟩ := ha.dt
  obtain ⟨ok, left, out, lo⟩ := o
  dsimp only at ho hol
  obtain ⟨po, co, rfl, hco, hmo⟩ := id ho.form
  simp only [maxLen] at hmo
  have hfo := row_few ho (k := 1024) rfl
  have hlp3 : (lo.take 1024).length ≤ 1024 := by rw [List.length_take]; omega
  refine enter (args := [_, _, _]) _ [] [] Tryz.func6 rfl Tryz.ntmps6 rfl (by simp) .nil ?_
  (refine sRz ?_; apply LW.boxA; rfl; rfl; intro _; apply LW.boxA; rfl; rfl; intro _; apply LW.boxA; rfl; rfl; intro _; refine vAz ?_; refine nNz ?_; refine CW.seq ?_; refine sRz ?_; apply LW.callE; rfl; rfl; infer_instance; exact ArgsOk.nil; intro w _; exact lwakes_calls w; refine lvz (.notT rfl (by with_reducible rfl)) ?_; refine nNz ?_; refine cFz ?_; refine CW.skip ?_; refine thenN ?_; refine CW.seq ?_)
  apply CW.pre
  (refine AnyW.anyM [(1, FairR x X), (3, AskedR a)] 6 mixed (by decide +kernel) ?_)
  ((try simp only [tsOf_cons, tsOf_nil, tsOf_app]); apply DW.loadO; rfl; rfl; rfl; exact WantT.none; rfl; apply TRead.tail; apply TRead.tail; apply TRead.head; exact ancB_nil; exact fr_rdW)
  refine DW.manyW (vs' := [x.code, x.stk, x.mem, x.inp, x.back]) rfl rfl rfl (by (exact WantT.none)) rfl inferInstance (by (exact .cons rfl .nil)) hx.blocks (.ext hx.c rfl (.ext hx.s rfl (.ext hx.m rfl (.ext hx.i rfl (.ext hx.b rfl .nil))))) (fun w hb _ => fair_calls x X w (hx.bel hb)) ?_
  rintro v3 g1 hv3
  obtain ⟨y1, rfl, hy1, hxy1⟩ := hv3.like
  ((try simp only [tsOf_cons, tsOf_nil, tsOf_app]); apply DW.loadO; rfl; rfl; rfl; exact WantT.none; rfl; apply TRead.app; apply TRead.tail; apply TRead.head; exact ancB_nil; exact ask_rdW)
  refine DW.manyW (vs' := [a.ws, a.dt]) rfl rfl rfl (by (exact WantT.none)) rfl inferInstance (by (exact .cons rfl .nil)) (ask_blocks ha) (.ext ha.row rfl (.ext hdt rfl .nil)) (fun w hb _ => asked_calls a w (ha.bel hb)) ?_
  rintro v4 g2 ⟨u, rfl, hu⟩
  have hu' := hu
  unfold wM at hu'
  obtain ⟨q2, k2, rfl⟩ := id hu'.form
  ((try simp only [tsOf_cons, tsOf_nil, tsOf_app]); apply DW.allocA; rfl; rfl; rfl; exact WantT.none; intro _; apply DW.allocA; rfl; rfl; rfl; exact WantT.none; intro _; apply DW.nil; simp only [fsOf_cons, fsOf_nil, fsOf_app, fsOf_tsOf, fsOf_new, fsOf_tag, fsOf_mark])
  have hs1 := hy1.sl
  have hyn1 := hxy1.num (fewF_num hxn)
  have hlt : ∀ x ∈ a.l.take 9, x < M256 := fun x hx => ha.lt x (List.mem_of_mem_take hx)
  (apply LW.store; rfl; rfl; apply SetAt.tail; apply SetAt.head; apply fr_wrW; rfl; exact hs1; apply LW.store; rfl; rfl; apply SetAt.head; apply ask_wrW; rfl; exact ⟨_, _, _, rfl⟩; exact ⟨_, _, _, rfl⟩; refine nSz ?_; refine ldz rfl (.tail .head) fr_rdW ?_; refine ldz rfl .head ask_rdW ?_; refine vFz ?_; refine ldz rfl (.tail (.tail (.app (.app .head)))) ov_rd0 ?_; apply LW.v0; rfl; rfl; apply ValP.buildT; infer_instance; infer_instance; apply PartsOk.cons; rfl; exact PartsOk.nil; rfl; simp only [fillP, wrCells, Value.cells, List.getElem?_cons_zero, List.getElem?_cons_succ, List.toList_toArray, List.setIfInBounds_toArray, List.set_cons_succ, List.set_cons_zero, Nat.reduceAdd, Nat.zero_add]; rfl)
  refine LW.callR rfl rfl inferInstance (by (exact .cons rfl (.cons rfl (.cons rfl .nil)))) (fun w' hst => Begin_calls y1 (fewF X) ⟨a.kind, a.op, .slice q2 (a.l.take 9).length k2, .slice none 0 0, ok, false, false⟩ (a.l.take 9) hlt ⟨_, _, _, rfl⟩ hyn1.self w' (hy1.us (st_ou hst (by (apply List.Sublist.cons; apply List.Sublist.cons; apply List.sublist_append_of_sublist_right; exact List.sublist_append_left _ _)))) (wM_at hu (st_ou hst (by (apply List.Sublist.cons; apply List.Sublist.cons; exact List.sublist_append_left _ _)))) (hL.1.st ⟨hst.bel, (fun p h => by cases h), .nil⟩) (hL.2.st ⟨hst.bel, (fun p h => by cases h), .nil⟩)) ?_
  rintro v5 g5 hB
  cases hR : beginA y1 (fewF X) ⟨a.kind, a.op, .slice q2 (a.l.take 9).length k2, .slice none 0 0, ok, false, false⟩ (a.l.take 9) with
  | none =>
    rw [hR] at hB
    obtain ⟨rfl, rfl⟩ := hB
    have hsl := zero_sl
    have hcy := zeroC_o.cells
    (refine vMz ?_; refine vEz ?_; refine vEz ?_; refine vEz ?_; apply LW.allocA; rfl; intro _; apply LW.allocA; rfl; intro _; apply LW.store; rfl; rfl; apply SetAt.tail; apply SetAt.head; apply fr_wrW; rfl; exact hsl; apply LW.store; rfl; rfl; apply SetAt.head; apply cl_wrW; rfl; exact hcy; refine vAz ?_; refine nNz ?_; refine CW.seq ?_; refine sRz ?_; refine vMz ?_; refine lvz (.notF rfl (by with_reducible rfl)) ?_; refine nNz ?_; refine cTz ?_; refine sRz ?_; refine vAz ?_; refine nNz ?_; refine CW.ret ?_; refine thenR ?_)
    (apply finR; exact .inl rfl; rfl; rfl; rfl; apply ResL.cons; exact Res.tmp rfl; exact ResL.nil)
    rfl
  | some r =>
    obtain ⟨g, L', M, c⟩ := r
    have hP := beginA_P hR
    have hBM := beginA_M hR
    have hdst := creC_dst hR
    rw [hR] at hB
    obtain ⟨cc, s, m, ii, b, iv, kv, ga, gb, rfl, rfl, hfr, hcl⟩ := hB
    obtain ⟨code, pc, stk, mem, gas, self, frm, val, inp, back, stat⟩ := y1
    obtain ⟨cop, cdst, cself, cfrm, cval, cmv, cgas, cinp, ccode, cpl, cn, cstat⟩ := c
    obtain ⟨z0, z3⟩ : ∃ z0, bM L'.ms m z0 := by
      obtain ⟨_, _, _, _, _, _, _, _, h3, _, _⟩ := id hfr
      exact ⟨_, h3⟩
    unfold bM at z3
    obtain ⟨pm, km, rfl⟩ := id z3.form
    obtain ⟨f1, f2, f3, f4, f5, hpf, r1, r2, r3, r4, r5⟩ := id hy1
    unfold bM at r1 r3 r4 r5
    unfold wM at r2
    dsimp only at r1 r2 r3 r4 r5
    obtain ⟨pa, ka, rfl⟩ := id r1.form
    obtain ⟨pb, kb, rfl⟩ := id r2.form
    obtain ⟨pd, kd, rfl⟩ := id r3.form
    obtain ⟨pe, ke, rfl⟩ := id r4.form
    obtain ⟨pf, kf, rfl⟩ := id r5.form
    have hg0 : gas < 18446744073709551616 := hyn1.gas
    have hcg : cgas ≤ 20000 := hP.cl.2.1.1
    have hsl : FrSl ⟨cc, pc, s, .slice pm L'.ms.length km, g, self, frm, val, ii, b, stat⟩ := hfr.sl
    have hcy : (cla ⟨cop, cdst, cself, cfrm, cval, cmv, cgas, iv, kv, cpl, cn, cstat⟩).toList.all Value.oneCell' = true := hcl.cells
    change LW _ _ _ _ ((30, .tuple #[frv ⟨cc, pc, s, .slice pm L'.ms.length km, g, self, frm, val, ii, b, stat⟩, clv ⟨cop, cdst, cself, cfrm, cval, cmv, cgas, iv, kv, cpl, cn, cstat⟩, .bool true]) :: _) _
    rw [List.append_assoc ga gb]
    (refine vMz ?_; refine vEz ?_; refine vEz ?_; refine vEz ?_; apply LW.allocA; rfl; intro _; apply LW.allocA; rfl; intro _; apply LW.store; rfl; rfl; apply SetAt.tail; apply SetAt.head; apply fr_wrW; rfl; exact hsl; apply LW.store; rfl; rfl; apply SetAt.head; apply cl_wrW; rfl; exact hcy; refine vAz ?_; refine nNz ?_; refine CW.seq ?_; refine sRz ?_; refine vMz ?_; refine lvz (.notT rfl (by with_reducible rfl)) ?_; refine nNz ?_; refine cFz ?_; refine CW.skip ?_; refine thenN ?_; refine CW.seq ?_)
    apply CW.pre
    (refine AnyW.anyM [(13, bM (lo.take 1024))] 15 mixed (by decide +kernel) ?_)
    ((try simp only [tsOf_cons, tsOf_nil, tsOf_app]); refine dvz (.fieldAddr rfl rfl) ?_; apply DW.loadO; rfl; rfl; rfl; exact WantT.none; rfl; apply TRead.tail; apply TRead.tail; apply TRead.app; apply TRead.app; apply TRead.tail; apply TRead.tail; apply TRead.app; apply TRead.app; apply TRead.head; exact ancB_nil; exact ov_rd1; refine dvz (.fieldAddr rfl rfl) ?_; apply DW.loadO; rfl; rfl; rfl; exact WantT.none; rfl; apply TRead.head; exact ancB_nil; exact cl_rd9; refine dvz (.addNL rfl rfl (by decide)) ?_; refine dvz (.remN rfl rfl (by omega)) ?_; refine dvz (.fieldAddr rfl rfl) ?_; apply DW.loadO; rfl; rfl; rfl; exact WantT.none; rfl; apply TRead.tail; apply TRead.tail; apply TRead.app; apply TRead.app; apply TRead.tail; apply TRead.tail; apply TRead.app; apply TRead.app; apply TRead.head; exact ancB_nil; exact ov_rd2; refine dvz (.fieldAddr rfl rfl) ?_; apply DW.loadO; rfl; rfl; rfl; exact WantT.none; rfl; apply TRead.tail; apply TRead.tail; apply TRead.app; apply TRead.app; apply TRead.tail; apply TRead.tail; apply TRead.app; apply TRead.app; apply TRead.head; exact ancB_nil; exact ov_rd2; refine dvz (.lenR rfl inferInstance rfl) ?_; refine dvz (.minZL rfl rfl (by decide)) ?_; refine dvz (.cutTo inferInstance inferInstance rfl rfl (by omega)) ?_)
    (apply DW.manyV; rfl; rfl; rfl; exact WantT.none; rfl; infer_instance; exact .cons rfl .nil; apply RdV.ext; assumption; rfl; exact RdV.nil; intro w _ _)
    exact SK.Clone_calls _ _ w (hfo.bel (by assumption)) (by omega)
    intro v1 go1 ho1
    have ho1' := ho1
    unfold bM at ho1'
    obtain ⟨qo, ko, rfl⟩ := id ho1'.form
    ((try simp only [tsOf_cons, tsOf_nil, tsOf_app]); refine dvz (.fieldAddr rfl rfl) ?_; apply DW.nil; simp only [fsOf_cons, fsOf_nil, fsOf_app, fsOf_tsOf, fsOf_new, fsOf_tag, fsOf_mark])
    (apply LW.store; rfl; rfl; apply SetAt.app; apply SetAt.tail; apply SetAt.tail; apply SetAt.app; apply SetAt.app; apply SetAt.tail; apply SetAt.tail; apply SetAt.app; apply SetAt.app; apply SetAt.head; apply ov_wr1 (z := .int .u64 0); refine vFz ?_; refine LW.store rfl rfl (.app (.tail (.tail (.app (.app (.tail (.tail (.app (.app .head))))))))) ov_wr2 ?_; refine nSz ?_; refine ldz rfl (.app (.tail .head)) fr_rdW ?_; refine ldz rfl (.app .head) cl_rdW ?_; refine ldz rfl (.app (.tail (.tail (.app (.app (.tail (.tail (.app (.app .head))))))))) (Rd.whole rfl) ?_)
    obtain ⟨lf, hlf⟩ : ∃ lf, left % ((cgas + 1) % 18446744073709551616) = lf := ⟨_, rfl⟩
    have hlfc : lf ≤ cgas := by
      have h5 : (cgas + 1) % 18446744073709551616 = cgas + 1 := Nat.mod_eq_of_lt (by omega)
      rw [h5] at hlf
      have h6 := Nat.mod_lt left (show 0 < cgas + 1 by omega)
      omega
    rw [hlf]
    obtain ⟨lp, hlp⟩ : ∃ lp, lo.take 1024 = lp := ⟨_, rfl⟩
    rw [hlp] at ho1 ho1' hlp3 ⊢
    have hE := begun_ends (cc := cc) (s := s) (m := .slice pm L'.ms.length km) (i := ii) (b := b) (iv := iv) (kv := kv) hP hBM hlfc hlp3
    refine LW.callR rfl rfl inferInstance (by (exact .cons rfl (.cons rfl (.cons rfl .nil)))) (fun w hst => callEnd_calls ⟨cc, pc, s, .slice pm L'.ms.length km, g, self, frm, val, ii, b, stat⟩ L' ⟨cop, cdst, cself, cfrm, cval, cmv, cgas, iv, kv, cpl, cn, cstat⟩ M ok lf lp hdst (by omega) _ w (hfr.us (st_ou hst (by (apply List.sublist_append_of_sublist_right; apply List.Sublist.cons; apply List.Sublist.cons; exact List.sublist_append_left _ _)))) (hcl.us (st_ou hst (by (apply List.sublist_append_of_sublist_right; apply List.Sublist.cons; apply List.Sublist.cons; apply List.sublist_append_of_sublist_right; exact List.sublist_append_left _ _)))) (bM_at ho1 (st_ou hst (by (exact List.sublist_append_left _ _))))) ?_
    rintro v6 gh hE6
    rcases hE6 with ⟨hokE, c9, s9, m9, i9, b9, rfl, hF⟩ | ⟨hnE, rfl, hgf⟩
    · have h64 := hE.1 hokE
      obtain ⟨En, hEn⟩ : ∃ En, endL L' ⟨cop, cdst, cself, cfrm, cval, cmv, cgas, iv, kv, cpl, cn, cstat⟩ ok lp = En := ⟨_, rfl⟩
      have hokF : okF ⟨c9, pc, s9, m9, g + lf, self, frm, val, i9, b9, stat⟩ En := by
        rw [← hEn]
        exact begun_ended hP hBM hlfc hlp3 h64
      have hEw : En.ws = (fewF X).ws ++ [laidW ⟨cop, cdst, cself, cfrm, cval, cmv, cgas, iv, kv, cpl, cn, cstat⟩ ok] := by
        rw [← hEn]
        show L'.ws ++ _ = _
        rw [hBM.ws]
      have hEm : En.ms = overL L'.ms cpl (lp.take cn) := by rw [← hEn]; rfl
      have hEc : En.cl = (fewF X).cl := by rw [← hEn]; exact hBM.cl
      have hEi : En.il = (fewF X).il := by rw [← hEn]; exact hBM.il
      have hEl : En.ws.length = (fewF X).ws.length + 1 := by rw [hEw, List.length_append]; rfl
      rw [hEn] at hF
      clear hEn
      replace hF : FrO ⟨c9, pc, s9, m9, g + lf, self, frm, val, i9, b9, stat⟩ En gh := hF
      have hsl2 : FrSl ⟨c9, pc, s9, m9, g + lf, self, frm, val, i9, b9, stat⟩ := hF.sl
      obtain ⟨e1, e2, e3, e4, e5, hpe, t1, t2, t3, t4, t5⟩ := id hF
      unfold bM at t1 t3 t4 t5
      unfold wM at t2
      change IsRow _ 1 c9 _ _ _ at t1
      change IsRow _ 4 s9 _ _ _ at t2
      change IsRow _ 1 m9 _ _ _ at t3
      change IsRow _ 1 i9 _ _ _ at t4
      change IsRow _ 1 b9 _ _ _ at t5
      obtain ⟨ua, va, rfl⟩ := id t1.form
      obtain ⟨ub, vb, rfl⟩ := id t2.form
      obtain ⟨ud, vd, rfl⟩ := id t3.form
      obtain ⟨ue, ve, rfl⟩ := id t4.form
      obtain ⟨uf, vf, rfl⟩ := id t5.form
      obtain ⟨gS, curS, rfl, rfl, hS1, hS2, hS3, hS4⟩ := t2.pos (by omega)
      have hmS : (gS, Obj.cells curS 29 (0, 0)) ∈ gh := hpe.subset (by simp)
      have hrdS : Rd Tryz.prog 29 (.cells curS 29 (0, 0)) (0 + (fewF X).ws.length * 4) (wv (En.ws.getD (fewF X).ws.length 0)) := word_rd (by rw [List.drop_zero]; exact hS4) _ (by omega)
      rw [show En.ws.getD (fewF X).ws.length 0 = laidW ⟨cop, cdst, cself, cfrm, cval, cmv, cgas, iv, kv, cpl, cn, cstat⟩ ok by rw [hEw]; simp] at hrdS
      obtain ⟨W, hW⟩ : ∃ W, laidW ⟨cop, cdst, cself, cfrm, cval, cmv, cgas, iv, kv, cpl, cn, cstat⟩ ok = W := ⟨_, rfl⟩
      rw [hW] at hrdS
      have hWl : W < M256 := by
        rw [← hW]
        unfold laidW
        split
        · decide
        · split
          · exact Nat.lt_trans hdst (by decide)
          · decide
      have hFc : ∀ w', (∀ q ∈ gh, w'.heap[q.1]? = some q.2) → Calls Tryz.prog 31 #[frv ⟨.slice ua En.cl.length va, pc, .slice (some ⟨gS, 0, none⟩) En.ws.length vb, .slice ud En.ms.length vd, g + lf, self, frm, val, .slice ue En.il.length ve, .slice uf En.bl.length vf, stat⟩] w' (Ret w' (.int .i64 0)) := fun w' h => by
        have h := fCheck_calls _ _ w' (FrO.us hF h)
        rwa [if_pos hokF] at h
      have hEqW : ∀ w', (∀ q ∈ gh, w'.heap[q.1]? = some q.2) → (∀ q ∈ g1, w'.heap[q.1]? = some q.2) → Calls Tryz.prog 30 #[.slice (some ⟨gS, 0, none⟩) (fewF X).ws.length vb, .slice pb (fewF X).ws.length kb] w' (Ret w' (.bool true)) := fun w' h h1 => by
        have h2 := (FrO.us hF h).s.take (k := (fewF X).ws.length) (by omega)
        rw [wcs_take, hEw, List.take_left] at h2
        have h := sEqW_calls (fewF X).ws (fewF X).ws hyn1.ws hyn1.ws _ _ w' h2 (FrO.us hy1 h1).s
        rwa [decide_eq_true rfl] at h
      have hgle : g + lf ≤ gas := by have := hP.all; dsimp only at this; omega
      change LW _ _ _ _ ((56, .tuple #[frv ⟨.slice ua En.cl.length va, pc, .slice (some ⟨gS, 0, none⟩) En.ws.length vb, .slice ud En.ms.length vd, g + lf, self, frm, val, .slice ue En.il.length ve, .slice uf En.bl.length vf, stat⟩, .bool true]) :: _) _
      (refine vMz ?_; refine vEz ?_; refine vEz ?_; apply LW.allocA; rfl; intro _; apply LW.store; rfl; rfl; apply SetAt.head; apply fr_wrW; rfl; exact hsl2; refine vAz ?_; refine nNz ?_; refine CW.seq ?_; refine sRz ?_; refine vMz ?_; refine lvz (.notT rfl (by with_reducible rfl)) ?_; refine nNz ?_; refine cFz ?_; refine CW.skip ?_; refine thenN ?_; refine sRz ?_; refine vFz ?_; refine vFz ?_; refine ldz rfl (.tail (.app (.app (.tail (.tail (.app (.app (.tail .head)))))))) fr_rd2s ?_; refine lvz (.lenR rfl inferInstance rfl) ?_; refine vAz ?_; refine nNz ?_; refine CW.seq ?_; refine CW.seq ?_; refine CW.quiet rfl mixed (by decide +kernel) ?_; apply QW.load; rfl; exact WantT.none; rfl; apply Known.at; apply FsAt.head; exact fr_rdW; apply QW.callE; rfl; exact WantT.none; rfl; infer_instance; exact .cons rfl .nil; intro w _; rename_i hst; (exact hFc w (st_ou hst (by (repeat (first | exact List.Sublist.refl _ | exact List.sublist_append_left _ _ | apply List.Sublist.cons | apply List.sublist_append_of_sublist_right))))); apply QW.v0; rfl; exact WantT.none; apply ValP.neF; rfl; rfl; omega; apply QW.v0; rfl; exact WantT.none; apply ValP.move; rfl; apply QW.v0; rfl; apply wantYes; rfl; rfl; (with_reducible rfl); apply ValP.fieldAddr; rfl; rfl; apply QW.load; rfl; apply wantYes; rfl; rfl; (with_reducible rfl); rfl; apply Known.at; apply FsAt.head; exact fr_rd4; apply QW.v0; rfl; apply wantYes; rfl; rfl; (with_reducible rfl); apply ValP.fieldAddr; rfl; rfl; apply QW.load; rfl; apply wantYes; rfl; rfl; (with_reducible rfl); rfl; apply Known.at; apply FsAt.tail; apply FsAt.app; apply FsAt.app; apply FsAt.tail; apply FsAt.tail; apply FsAt.app; apply FsAt.app; apply FsAt.tail; apply FsAt.head; exact fr_rd4; apply QW.v0; rfl; apply wantYes; rfl; rfl; (with_reducible rfl); apply ValP.gtrF; rfl; rfl; omega; apply QW.v0; rfl; exact WantT.none; apply ValP.pickF'; rfl; (with_reducible rfl); rfl; apply QW.v0; rfl; exact WantT.none; apply ValP.move; rfl; apply QW.v0; rfl; apply wantYes; rfl; rfl; (with_reducible rfl); apply ValP.fieldAddr; rfl; rfl; apply QW.v0; rfl; apply wantYes; rfl; rfl; (with_reducible rfl); apply ValP.fieldAddr; rfl; rfl; apply QW.load; rfl; apply wantYes; rfl; rfl; (with_reducible rfl); rfl; apply Known.at; apply FsAt.head; exact fr_rd2s; apply QW.v0; rfl; apply wantYes; rfl; rfl; (with_reducible rfl); apply ValP.lenR; rfl; infer_instance; rfl; apply QW.v0; rfl; apply wantYes; rfl; rfl; (with_reducible rfl); apply ValP.move; rfl; apply QW.v0; rfl; apply wantYes; rfl; rfl; (with_reducible rfl); apply ValP.addZL; rfl; rfl; decide; omega; apply QW.v0; rfl; apply wantYes; rfl; rfl; (with_reducible rfl); apply ValP.neF; rfl; rfl; omega; apply QW.v0; rfl; exact WantT.none; apply ValP.pickF'; rfl; (with_reducible rfl); rfl; apply QW.v0; rfl; exact WantT.none; apply ValP.move; rfl; apply QW.v0; rfl; apply wantYes; rfl; rfl; (with_reducible rfl); apply ValP.fieldAddr; rfl; rfl; apply QW.v0; rfl; apply wantYes; rfl; rfl; (with_reducible rfl); apply ValP.fieldAddr; rfl; rfl; apply QW.load; rfl; apply wantYes; rfl; rfl; (with_reducible rfl); rfl; apply Known.at; apply FsAt.head; exact fr_rd2s; apply QW.v0; rfl; apply wantYes; rfl; rfl; (with_reducible rfl); apply ValP.move; rfl; apply QW.v0; rfl; apply wantYes; rfl; rfl; (with_reducible rfl); apply ValP.cutTo; infer_instance; infer_instance; rfl; rfl; omega; apply QW.v0; rfl; apply wantYes; rfl; rfl; (with_reducible rfl); apply ValP.fieldAddr; rfl; rfl; apply QW.v0; rfl; apply wantYes; rfl; rfl; (with_reducible rfl); apply ValP.fieldAddr; rfl; rfl; apply QW.load; rfl; apply wantYes; rfl; rfl; (with_reducible rfl); rfl; apply Known.at; apply FsAt.tail; apply FsAt.app; apply FsAt.app; apply FsAt.tail; apply FsAt.tail; apply FsAt.app; apply FsAt.app; apply FsAt.tail; apply FsAt.head; exact fr_rd2s; apply QW.callE; rfl; apply wantYes; rfl; rfl; (with_reducible rfl); rfl; infer_instance; exact .cons rfl (.cons rfl .nil); intro w _; rename_i hst; (exact hEqW w (st_ou hst (by (repeat (first | exact List.Sublist.refl _ | exact List.sublist_append_left _ _ | apply List.Sublist.cons | apply List.sublist_append_of_sublist_right)))) (st_ou hst (by (repeat (first | exact List.Sublist.refl _ | exact List.sublist_append_left _ _ | apply List.Sublist.cons | apply List.sublist_append_of_sublist_right))))); apply QW.v0; rfl; apply wantYes; rfl; rfl; (with_reducible rfl); apply ValP.notT; rfl; (with_reducible rfl); apply QW.v0; rfl; exact WantT.none; apply ValP.pickF'; rfl; (with_reducible rfl); rfl; refine QW.nil ?_; refine thenN ?_; refine cFz ?_; refine CW.skip ?_; refine thenN ?_; refine sRz ?_; refine vFz ?_; refine vFz ?_; refine ldz rfl .head fr_rd2s ?_; refine vMz ?_; refine lvz (.indexAddrS rfl rfl rfl (by omega)) ?_; apply LW.load; rfl; rfl; (exact kn_mem hmS (by (repeat (first | exact List.Sublist.refl _ | exact List.sublist_append_left _ _ | apply List.Sublist.cons | apply List.sublist_append_of_sublist_right)))); assumption; apply LW.v0; rfl; rfl; exact ValP.buildW0; refine lvz (.neW rfl rfl (by assumption) (by omega)) ?_; refine vAz ?_; refine nNz ?_; refine CW.seq ?_; refine sRz ?_; refine vMz ?_; refine vMz ?_)
      rename_i b3 b4 b5 b7 b8 bb9 b10 b12
      refine LW.joinF 22 ((132, .bool false) :: [(13, .int .i64 ((fewF X).ws.length : Int)), (5, .pointer (some ⟨b5, 0, none⟩)), (7, .pointer (some ⟨b7, 0, none⟩)), (8, .pointer (some ⟨b8, 0, none⟩)), (9, .pointer (some ⟨bb9, 0, none⟩)), (10, .pointer (some ⟨b10, 0, none⟩)), (12, .pointer (some ⟨b12, 0, none⟩))]) ?_ ?_
      rotate_left
      · by_cases hW0 : W = 0
        · rw [show decide (W = 0) = true from decide_eq_true hW0]
          cases ok with
          | false =>
            ((iterate 3 refine gFrz ?_); apply LW.v0; rfl; rfl; apply ValP.pickF'; rfl; simp only [Bool.not_true, Bool.not_false]; rfl; refine vMz ?_; refine gTz ?_; refine vMz ?_; refine gTz ?_; apply LW.v0; rfl; rfl; apply ValP.notF; rfl; simp only [Bool.not_true, Bool.not_false]; refine gTz ?_; refine vMz ?_; refine gTz ?_; refine vFz ?_; refine gTz ?_; refine ldz rfl (.tail (.app (.app (.tail (.tail (.app (.app (.tail (.tail (.app (.app .head))))))))))) ov_rd0 ?_; refine gTz ?_; refine pTz ?_; refine gTz ?_; refine vMz ?_; (iterate 4 refine gFz ?_); (iterate 3 refine gUz ?_); refine gFz ?_; refine gTz ?_; refine pFz ?_; refine pFz ?_; apply LW.nil)
            exact joinI ⟨rfl, rfl, rfl, rfl, rfl, rfl, rfl, rfl, trivial⟩ (List.Sublist.refl _)
          | true =>
            have hW5 : cop = 245 ∧ cdst = 0 := by
              rw [hW0] at hW
              unfold laidW at hW
              rw [if_neg (by decide)] at hW
              dsimp only at hW
              split at hW
              · exact ⟨by assumption, hW⟩
              · cases hW
            have h45 : a.op = 245 := hP.op.symm.trans hW5.1
            have hd0 := hW5.2
            ((iterate 3 refine gFrz ?_); apply LW.v0; rfl; rfl; apply ValP.pickF'; rfl; simp only [Bool.not_true, Bool.not_false]; rfl; refine vMz ?_; refine gTz ?_; refine vMz ?_; refine gTz ?_; apply LW.v0; rfl; rfl; apply ValP.notF; rfl; simp only [Bool.not_true, Bool.not_false]; refine gTz ?_; refine vMz ?_; refine gTz ?_; refine vFz ?_; refine gTz ?_; refine ldz rfl (.tail (.app (.app (.tail (.tail (.app (.app (.tail (.tail (.app (.app .head))))))))))) ov_rd0 ?_; refine gTz ?_; refine pTz ?_; refine gTz ?_; refine vMz ?_; refine gTz ?_; refine vFz ?_; refine gTz ?_; refine ldz rfl (.tail (.app (.app (.tail (.tail (.app (.app .head))))))) ask_rd1 ?_; refine gTz ?_; refine lvz (.neF rfl rfl (by omega)) ?_; refine gTz ?_; refine vMz ?_; refine gTz ?_; refine vFz ?_; refine gTz ?_; refine ldz rfl (.tail (.app (.app .head))) cl_rd1 ?_; refine gTz ?_; refine lvz (.neF rfl rfl (by omega)) ?_; refine gTz ?_; refine pFz ?_; refine gTz ?_; refine pTz ?_; refine pFz ?_; apply LW.nil)
            exact joinI ⟨rfl, rfl, rfl, rfl, rfl, rfl, rfl, rfl, trivial⟩ (List.Sublist.refl _)
        · rw [show decide (W = 0) = false from decide_eq_false hW0]
          cases ok with
          | false => exact absurd (show W = 0 by rw [← hW]; rfl) hW0
          | true =>
            (refine gTsz ?_; refine vFz ?_; refine gTsz ?_; refine ldz rfl (.tail (.app (.app (.tail (.tail (.app (.app (.tail (.tail (.app (.app .head))))))))))) ov_rd0 ?_; refine gTsz ?_; refine lvz (.notT rfl (by with_reducible rfl)) ?_; apply LW.v0; rfl; rfl; apply ValP.pickT'; rfl; simp only [Bool.not_true, Bool.not_false]; rfl; refine vMz ?_; refine gTz ?_; refine vMz ?_; refine gTz ?_; apply LW.v0; rfl; rfl; apply ValP.notT; rfl; simp only [Bool.not_true, Bool.not_false]; refine gTz ?_; refine vMz ?_; refine gFz ?_; refine gFz ?_; refine gTz ?_; refine pFz ?_; refine gTz ?_; refine vMz ?_; (iterate 4 refine gFz ?_); (iterate 3 refine gUz ?_); refine gFz ?_; refine gTz ?_; refine pFz ?_; refine pFz ?_; apply LW.nil)
            exact joinI ⟨rfl, rfl, rfl, rfl, rfl, rfl, rfl, rfl, trivial⟩ (List.Sublist.refl _)
      simp only [List.drop_succ_cons, List.drop_zero]
      have hmsx : ∃ kz, L'.ms = (fewF X).ms ++ List.replicate kz 0 := hBM.ms
      obtain ⟨kz, hkz⟩ := hmsx
      have hkl : L'.ms.length = (fewF X).ms.length + kz := by rw [hkz, List.length_append, List.length_replicate]
      have hat : cpl + cn ≤ L'.ms.length := hBM.at_
      have hXl : cpl + (lp.take cn).length ≤ L'.ms.length := by rw [List.length_take]; omega
      have hEl2 : En.ms.length = L'.ms.length := by rw [hEm]; exact over_len hXl
      have hE24 : En.ms.length ≤ 1024 := hokF.2.2.2.1.2.1
      have hcn : cn ≤ 1024 := hP.cl.2.2.1.1
      have hSm : ∀ w', (∀ q ∈ gh, w'.heap[q.1]? = some q.2) → (∀ q ∈ g1, w'.heap[q.1]? = some q.2) → Calls Tryz.prog 32 #[frv ⟨.slice ua En.cl.length va, pc, .slice pb (fewF X).ws.length kb, .slice pd (fewF X).ms.length kd, gas, self, frm, val, .slice ue En.il.length ve, .slice pf (fewF X).bl.length kf, stat⟩, frv ⟨.slice pa (fewF X).cl.length ka, pc, .slice pb (fewF X).ws.length kb, .slice pd (fewF X).ms.length kd, gas, self, frm, val, .slice pe (fewF X).il.length ke, .slice pf (fewF X).bl.length kf, stat⟩] w' (Ret w' (.bool true)) := fun w' h h1 => by
        have hr := FrO.us hF h
        have hr1 := FrO.us hy1 h1
        have hn : FrNum ⟨.slice ua En.cl.length va, pc, .slice pb (fewF X).ws.length kb, .slice pd (fewF X).ms.length kd, gas, self, frm, val, .slice ue En.il.length ve, .slice pf (fewF X).bl.length kf, stat⟩ ⟨En.cl, (fewF X).ws, (fewF X).ms, En.il, (fewF X).bl⟩ := ⟨hyn1.gas, hyn1.self, hyn1.frm, hyn1.val, hyn1.ws⟩
        have h := fSame_calls ⟨.slice ua En.cl.length va, pc, .slice pb (fewF X).ws.length kb, .slice pd (fewF X).ms.length kd, gas, self, frm, val, .slice ue En.il.length ve, .slice pf (fewF X).bl.length kf, stat⟩ _ ⟨En.cl, (fewF X).ws, (fewF X).ms, En.il, (fewF X).bl⟩ (fewF X) hn hyn1 w' ⟨hr.c, hr1.s, hr1.m, hr.i, hr1.b⟩ hr1
        rwa [decide_eq_true ⟨rfl, rfl, rfl, rfl, rfl, rfl, hEc, hEi, rfl, rfl, rfl⟩] at h
      (refine nNz ?_; refine cFz ?_; refine CW.skip ?_; refine thenN ?_; refine CW.seq ?_; refine sRz ?_; refine vFz ?_; refine vFz ?_; refine ldz rfl .head fr_rd3 ?_; refine lvz (.lenR rfl inferInstance rfl) ?_; refine vMz ?_; refine nNz ?_; refine CW.block ?_)
      refine CW.loopF (fun k : Nat => [(137, .int .i64 (k : Int)), (136, .int .i64 (En.ms.length : Int)), (135, .slice ud En.ms.length vd), (5, .pointer (some ⟨b5, 0, none⟩)), (7, .pointer (some ⟨b7, 0, none⟩)), (8, .pointer (some ⟨b8, 0, none⟩)), (9, .pointer (some ⟨bb9, 0, none⟩)), (10, .pointer (some ⟨b10, 0, none⟩)), (12, .pointer (some ⟨b12, 0, none⟩))])
        (fun k => k ≤ En.ms.length) (fun k => En.ms.length - k) 0 (Nat.zero_le _) ⟨rfl, rfl, rfl, rfl, rfl, rfl, rfl, rfl, rfl, trivial⟩ ?_
      intro k hk
      dsimp only at hk ⊢
      rcases Nat.lt_or_ge k En.ms.length with hlt2 | hge
      · obtain ⟨gM, curM, rfl, he3, hM1, hM2, hM3, hM4⟩ := t3.pos (by omega)
        have hmM : (gM, Obj.cells curM 5 (0, 0)) ∈ gh := hpe.subset (by rw [he3]; simp)
        obtain ⟨bk, hbk⟩ : ∃ bk, En.ms[k]? = some bk := ⟨_, List.getElem?_eq_getElem hlt2⟩
        have hrdM : Rd Tryz.prog 5 (.cells curM 5 (0, 0)) (0 + k * 1) (.int .u8 (bk.toNat : Int)) := Rd.elem1 (by rw [List.drop_zero]; exact hM4) (ucs_one _) hbk rfl
        by_cases hA : cpl ≤ k ∧ k - cpl < cn ∧ k - cpl < lp.length
        · obtain ⟨gO, curO, rfl, hgo, hO1, hO2, hO3, hO4⟩ := ho1'.pos (by omega)
          have hmO : (gO, Obj.cells curO 5 (0, 0)) ∈ go1 := by rw [hgo]; simp
          have hlk : lp[k - cpl]? = some bk := by
            have h5 := overL_in (ms := L'.ms) (X := lp.take cn) (p := cpl) (k := k - cpl) hXl (by rw [List.length_take]; omega)
            rw [← hEm, show cpl + (k - cpl) = k by omega, hbk, List.getElem?_take_of_lt hA.2.1] at h5
            exact h5.symm
          have hrdO : Rd Tryz.prog 5 (.cells curO 5 (0, 0)) (0 + (k - cpl) * 1) (.int .u8 (bk.toNat : Int)) := Rd.elem1 (by rw [List.drop_zero]; exact hO4) (ucs_one _) hlk rfl
          (refine sRz ?_; refine lvz (.lssT rfl rfl (by omega)) ?_; refine nNz ?_; refine CW.seq ?_; refine cTz ?_; refine CW.skip ?_; refine thenN ?_; refine CW.seq ?_; refine CW.block ?_; refine sRz ?_; refine vMz ?_; refine lvz (.indexAddrS rfl rfl rfl (by omega)) ?_; apply LW.load; rfl; rfl; (exact kn_mem hmM (by (repeat (first | exact List.Sublist.refl _ | exact List.sublist_append_left _ _ | apply List.Sublist.cons | apply List.sublist_append_of_sublist_right)))); assumption; refine vAz ?_; refine vAz ?_; refine nSz ?_; refine vMz ?_; refine lvz (.convN rfl (by omega) (by omega)) ?_; refine vFz ?_; refine ldz rfl (.tail (.app (.app .head))) cl_rd12 ?_; refine lvz (.subN rfl rfl (by omega) (by omega)) ?_; refine vAz ?_; refine nNz ?_; refine CW.block ?_; refine sRz ?_; refine vMz ?_; refine lvz (.convN rfl (by omega) (by omega)) ?_; refine vFz ?_; refine ldz rfl (.tail (.app (.app .head))) cl_rd12 ?_; refine lvz (.geqT rfl rfl (by omega)) ?_; refine vMz ?_; refine gTz ?_; refine vMz ?_; refine gTz ?_; refine vFz ?_; refine gTz ?_; refine ldz rfl (.tail (.app (.app .head))) cl_rd13 ?_; refine gTz ?_; refine lvz (.lssT rfl rfl (by omega)) ?_; refine pTz ?_; refine vMz ?_; refine gTz ?_; refine vMz ?_; refine gTz ?_; refine vFz ?_; refine gTz ?_; refine ldz rfl (.tail (.app (.app (.tail (.tail (.app (.app (.tail (.tail (.app (.app .head))))))))))) ov_rd2 ?_; refine gTz ?_; refine lvz (.lenR rfl inferInstance rfl) ?_; refine gTz ?_; refine lvz (.convN rfl (by omega) (by omega)) ?_; refine gTz ?_; refine lvz (.lssT rfl rfl (by omega)) ?_; refine pTz ?_; refine vAz ?_; refine nNz ?_; refine cTz ?_; refine sRz ?_; refine vMz ?_; refine vFz ?_; refine ldz rfl (.tail (.app (.app (.tail (.tail (.app (.app (.tail (.tail (.app (.app .head))))))))))) ov_rd2 ?_; refine vMz ?_; refine lvz (.indexAddrS rfl rfl rfl (by omega)) ?_; apply LW.load; rfl; rfl; (exact kn_mem hmO (by (repeat (first | exact List.Sublist.refl _ | exact List.sublist_append_left _ _ | apply List.Sublist.cons | apply List.sublist_append_of_sublist_right)))); assumption; refine lvz (.neF rfl rfl (by omega)) ?_; refine nNz ?_; refine cFz ?_; refine CW.skip ?_; refine blkN ?_; refine blkN ?_; refine thenN ?_; refine CW.region ?_; refine lvz (.addZL rfl rfl (by decide) (by omega)) ?_; refine vMz ?_; apply LW.nil)
          apply thenX
          exact ⟨rfl, k + 1, hlt2, by omega, ⟨rfl, rfl, rfl, rfl, rfl, rfl, rfl, rfl, rfl, trivial⟩, List.Sublist.refl _⟩
        · have hout : L'.ms[k]? = some bk := by
            rw [← hbk, hEm]
            exact (overL_out hXl (by rw [List.length_take]; omega)).symm
          have hway : k < cpl ∨ (cpl ≤ k ∧ ¬ k - cpl < cn) ∨ (cpl ≤ k ∧ k - cpl < cn ∧ ¬ k - cpl < lp.length) := by omega
          by_cases hB2 : k < (fewF X).ms.length
          · obtain ⟨gF, curF, rfl, hf3, hF1, hF2, hF3, hF4⟩ := r3.pos (by omega)
            have hmF : (gF, Obj.cells curF 5 (0, 0)) ∈ g1 := hpf.subset (by rw [hf3]; simp)
            have hXk : (fewF X).ms[k]? = some bk := by rw [hkz, List.getElem?_append_left hB2] at hout; exact hout
            have hrdF : Rd Tryz.prog 5 (.cells curF 5 (0, 0)) (0 + k * 1) (.int .u8 (bk.toNat : Int)) := Rd.elem1 (by rw [List.drop_zero]; exact hF4) (ucs_one _) hXk rfl
            rcases hway with hw1 | ⟨hw1, hw2⟩ | ⟨hw1, hw2, hw3⟩
            · (refine sRz ?_; refine lvz (.lssT rfl rfl (by omega)) ?_; refine nNz ?_; refine CW.seq ?_; refine cTz ?_; refine CW.skip ?_; refine thenN ?_; refine CW.seq ?_; refine CW.block ?_; refine sRz ?_; refine vMz ?_; refine lvz (.indexAddrS rfl rfl rfl (by omega)) ?_; apply LW.load; rfl; rfl; (exact kn_mem hmM (by (repeat (first | exact List.Sublist.refl _ | exact List.sublist_append_left _ _ | apply List.Sublist.cons | apply List.sublist_append_of_sublist_right)))); assumption; refine vAz ?_; refine vAz ?_; refine nSz ?_; refine vMz ?_; refine lvz (.convN rfl (by omega) (by omega)) ?_; refine vFz ?_; refine ldz rfl (.tail (.app (.app .head))) cl_rd12 ?_; apply LW.v0; rfl; rfl; apply ValP.subU; rfl; rfl; refine vAz ?_; refine nNz ?_; refine CW.block ?_; refine sRz ?_; refine vMz ?_; refine lvz (.convN rfl (by omega) (by omega)) ?_; refine vFz ?_; refine ldz rfl (.tail (.app (.app .head))) cl_rd12 ?_; refine lvz (.geqF rfl rfl (by omega)) ?_; refine vMz ?_; (iterate 4 refine gFz ?_); refine pFz ?_; refine vMz ?_; (iterate 6 refine gFz ?_); refine pFz ?_; refine vAz ?_; refine nNz ?_; refine cFz ?_; refine sRz ?_; refine vMz ?_; refine vFz ?_; refine vFz ?_; refine ldz rfl (.tail (.app (.app (.tail (.tail (.app (.app (.tail .head)))))))) fr_rd3 ?_; refine lvz (.lenR rfl inferInstance rfl) ?_; refine lvz (.lssT rfl rfl (by omega)) ?_; refine vAz ?_; refine nNz ?_; refine cTz ?_; refine sRz ?_; refine vMz ?_; refine vFz ?_; refine vFz ?_; refine ldz rfl (.tail (.app (.app (.tail (.tail (.app (.app (.tail .head)))))))) fr_rd3 ?_; refine vMz ?_; refine lvz (.indexAddrS rfl rfl rfl (by omega)) ?_; apply LW.load; rfl; rfl; (exact kn_mem hmF (by (repeat (first | exact List.Sublist.refl _ | exact List.sublist_append_left _ _ | apply List.Sublist.cons | apply List.sublist_append_of_sublist_right)))); assumption; refine lvz (.neF rfl rfl (by omega)) ?_; refine nNz ?_; refine cFz ?_; refine CW.skip ?_; refine blkN ?_; refine blkN ?_; refine thenN ?_; refine CW.region ?_; refine lvz (.addZL rfl rfl (by decide) (by omega)) ?_; refine vMz ?_; apply LW.nil)
              apply thenX
              exact ⟨rfl, k + 1, hlt2, by omega, ⟨rfl, rfl, rfl, rfl, rfl, rfl, rfl, rfl, rfl, trivial⟩, List.Sublist.refl _⟩
            · (refine sRz ?_; refine lvz (.lssT rfl rfl (by omega)) ?_; refine nNz ?_; refine CW.seq ?_; refine cTz ?_; refine CW.skip ?_; refine thenN ?_; refine CW.seq ?_; refine CW.block ?_; refine sRz ?_; refine vMz ?_; refine lvz (.indexAddrS rfl rfl rfl (by omega)) ?_; apply LW.load; rfl; rfl; (exact kn_mem hmM (by (repeat (first | exact List.Sublist.refl _ | exact List.sublist_append_left _ _ | apply List.Sublist.cons | apply List.sublist_append_of_sublist_right)))); assumption; refine vAz ?_; refine vAz ?_; refine nSz ?_; refine vMz ?_; refine lvz (.convN rfl (by omega) (by omega)) ?_; refine vFz ?_; refine ldz rfl (.tail (.app (.app .head))) cl_rd12 ?_; refine lvz (.subN rfl rfl (by omega) (by omega)) ?_; refine vAz ?_; refine nNz ?_; refine CW.block ?_; refine sRz ?_; refine vMz ?_; refine lvz (.convN rfl (by omega) (by omega)) ?_; refine vFz ?_; refine ldz rfl (.tail (.app (.app .head))) cl_rd12 ?_; refine lvz (.geqT rfl rfl (by omega)) ?_; refine vMz ?_; refine gTz ?_; refine vMz ?_; refine gTz ?_; refine vFz ?_; refine gTz ?_; refine ldz rfl (.tail (.app (.app .head))) cl_rd13 ?_; refine gTz ?_; refine lvz (.lssF rfl rfl (by omega)) ?_; refine pTz ?_; refine vMz ?_; (iterate 6 refine gFz ?_); refine pFz ?_; refine vAz ?_; refine nNz ?_; refine cFz ?_; refine sRz ?_; refine vMz ?_; refine vFz ?_; refine vFz ?_; refine ldz rfl (.tail (.app (.app (.tail (.tail (.app (.app (.tail .head)))))))) fr_rd3 ?_; refine lvz (.lenR rfl inferInstance rfl) ?_; refine lvz (.lssT rfl rfl (by omega)) ?_; refine vAz ?_; refine nNz ?_; refine cTz ?_; refine sRz ?_; refine vMz ?_; refine vFz ?_; refine vFz ?_; refine ldz rfl (.tail (.app (.app (.tail (.tail (.app (.app (.tail .head)))))))) fr_rd3 ?_; refine vMz ?_; refine lvz (.indexAddrS rfl rfl rfl (by omega)) ?_; apply LW.load; rfl; rfl; (exact kn_mem hmF (by (repeat (first | exact List.Sublist.refl _ | exact List.sublist_append_left _ _ | apply List.Sublist.cons | apply List.sublist_append_of_sublist_right)))); assumption; refine lvz (.neF rfl rfl (by omega)) ?_; refine nNz ?_; refine cFz ?_; refine CW.skip ?_; refine blkN ?_; refine blkN ?_; refine thenN ?_; refine CW.region ?_; refine lvz (.addZL rfl rfl (by decide) (by omega)) ?_; refine vMz ?_; apply LW.nil)
              apply thenX
              exact ⟨rfl, k + 1, hlt2, by omega, ⟨rfl, rfl, rfl, rfl, rfl, rfl, rfl, rfl, rfl, trivial⟩, List.Sublist.refl _⟩
            · (refine sRz ?_; refine lvz (.lssT rfl rfl (by omega)) ?_; refine nNz ?_; refine CW.seq ?_; refine cTz ?_; refine CW.skip ?_; refine thenN ?_; refine CW.seq ?_; refine CW.block ?_; refine sRz ?_; refine vMz ?_; refine lvz (.indexAddrS rfl rfl rfl (by omega)) ?_; apply LW.load; rfl; rfl; (exact kn_mem hmM (by (repeat (first | exact List.Sublist.refl _ | exact List.sublist_append_left _ _ | apply List.Sublist.cons | apply List.sublist_append_of_sublist_right)))); assumption; refine vAz ?_; refine vAz ?_; refine nSz ?_; refine vMz ?_; refine lvz (.convN rfl (by omega) (by omega)) ?_; refine vFz ?_; refine ldz rfl (.tail (.app (.app .head))) cl_rd12 ?_; refine lvz (.subN rfl rfl (by omega) (by omega)) ?_; refine vAz ?_; refine nNz ?_; refine CW.block ?_; refine sRz ?_; refine vMz ?_; refine lvz (.convN rfl (by omega) (by omega)) ?_; refine vFz ?_; refine ldz rfl (.tail (.app (.app .head))) cl_rd12 ?_; refine lvz (.geqT rfl rfl (by omega)) ?_; refine vMz ?_; refine gTz ?_; refine vMz ?_; refine gTz ?_; refine vFz ?_; refine gTz ?_; refine ldz rfl (.tail (.app (.app .head))) cl_rd13 ?_; refine gTz ?_; refine lvz (.lssT rfl rfl (by omega)) ?_; refine pTz ?_; refine vMz ?_; refine gTz ?_; refine vMz ?_; refine gTz ?_; refine vFz ?_; refine gTz ?_; refine ldz rfl (.tail (.app (.app (.tail (.tail (.app (.app (.tail (.tail (.app (.app .head))))))))))) ov_rd2 ?_; refine gTz ?_; refine lvz (.lenR rfl inferInstance rfl) ?_; refine gTz ?_; refine lvz (.convN rfl (by omega) (by omega)) ?_; refine gTz ?_; refine lvz (.lssF rfl rfl (by omega)) ?_; refine pTz ?_; refine vAz ?_; refine nNz ?_; refine cFz ?_; refine sRz ?_; refine vMz ?_; refine vFz ?_; refine vFz ?_; refine ldz rfl (.tail (.app (.app (.tail (.tail (.app (.app (.tail .head)))))))) fr_rd3 ?_; refine lvz (.lenR rfl inferInstance rfl) ?_; refine lvz (.lssT rfl rfl (by omega)) ?_; refine vAz ?_; refine nNz ?_; refine cTz ?_; refine sRz ?_; refine vMz ?_; refine vFz ?_; refine vFz ?_; refine ldz rfl (.tail (.app (.app (.tail (.tail (.app (.app (.tail .head)))))))) fr_rd3 ?_; refine vMz ?_; refine lvz (.indexAddrS rfl rfl rfl (by omega)) ?_; apply LW.load; rfl; rfl; (exact kn_mem hmF (by (repeat (first | exact List.Sublist.refl _ | exact List.sublist_append_left _ _ | apply List.Sublist.cons | apply List.sublist_append_of_sublist_right)))); assumption; refine lvz (.neF rfl rfl (by omega)) ?_; refine nNz ?_; refine cFz ?_; refine CW.skip ?_; refine blkN ?_; refine blkN ?_; refine thenN ?_; refine CW.region ?_; refine lvz (.addZL rfl rfl (by decide) (by omega)) ?_; refine vMz ?_; apply LW.nil)
              apply thenX
              exact ⟨rfl, k + 1, hlt2, by omega, ⟨rfl, rfl, rfl, rfl, rfl, rfl, rfl, rfl, rfl, trivial⟩, List.Sublist.refl _⟩
          · have hb0 : bk = 0 := by
              rw [hkz, List.getElem?_append_right (by omega), List.getElem?_replicate] at hout
              split at hout
              · exact (Option.some.inj hout).symm
              · cases hout
            subst hb0
            have hz0 : ((0 : UInt8).toNat : Int) = 0 := rfl
            rcases hway with hw1 | ⟨hw1, hw2⟩ | ⟨hw1, hw2, hw3⟩
            · (refine sRz ?_; refine lvz (.lssT rfl rfl (by omega)) ?_; refine nNz ?_; refine CW.seq ?_; refine cTz ?_; refine CW.skip ?_; refine thenN ?_; refine CW.seq ?_; refine CW.block ?_; refine sRz ?_; refine vMz ?_; refine lvz (.indexAddrS rfl rfl rfl (by omega)) ?_; apply LW.load; rfl; rfl; (exact kn_mem hmM (by (repeat (first | exact List.Sublist.refl _ | exact List.sublist_append_left _ _ | apply List.Sublist.cons | apply List.sublist_append_of_sublist_right)))); assumption; refine vAz ?_; refine vAz ?_; refine nSz ?_; refine vMz ?_; refine lvz (.convN rfl (by omega) (by omega)) ?_; refine vFz ?_; refine ldz rfl (.tail (.app (.app .head))) cl_rd12 ?_; apply LW.v0; rfl; rfl; apply ValP.subU; rfl; rfl; refine vAz ?_; refine nNz ?_; refine CW.block ?_; refine sRz ?_; refine vMz ?_; refine lvz (.convN rfl (by omega) (by omega)) ?_; refine vFz ?_; refine ldz rfl (.tail (.app (.app .head))) cl_rd12 ?_; refine lvz (.geqF rfl rfl (by omega)) ?_; refine vMz ?_; (iterate 4 refine gFz ?_); refine pFz ?_; refine vMz ?_; (iterate 6 refine gFz ?_); refine pFz ?_; refine vAz ?_; refine nNz ?_; refine cFz ?_; refine sRz ?_; refine vMz ?_; refine vFz ?_; refine vFz ?_; refine ldz rfl (.tail (.app (.app (.tail (.tail (.app (.app (.tail .head)))))))) fr_rd3 ?_; refine lvz (.lenR rfl inferInstance rfl) ?_; refine lvz (.lssF rfl rfl (by omega)) ?_; refine vAz ?_; refine nNz ?_; refine cFz ?_; refine sRz ?_; refine vMz ?_; refine lvz (.neF rfl rfl (by omega)) ?_; refine vAz ?_; refine nNz ?_; refine cFz ?_; refine CW.skip ?_; refine blkN ?_; refine blkN ?_; refine thenN ?_; refine CW.region ?_; refine lvz (.addZL rfl rfl (by decide) (by omega)) ?_; refine vMz ?_; apply LW.nil)
              apply thenX
              exact ⟨rfl, k + 1, hlt2, by omega, ⟨rfl, rfl, rfl, rfl, rfl, rfl, rfl, rfl, rfl, trivial⟩, List.Sublist.refl _⟩
            · (refine sRz ?_; refine lvz (.lssT rfl rfl (by omega)) ?_; refine nNz ?_; refine CW.seq ?_; refine cTz ?_; refine CW.skip ?_; refine thenN ?_; refine CW.seq ?_; refine CW.block ?_; refine sRz ?_; refine vMz ?_; refine lvz (.indexAddrS rfl rfl rfl (by omega)) ?_; apply LW.load; rfl; rfl; (exact kn_mem hmM (by (repeat (first | exact List.Sublist.refl _ | exact List.sublist_append_left _ _ | apply List.Sublist.cons | apply List.sublist_append_of_sublist_right)))); assumption; refine vAz ?_; refine vAz ?_; refine nSz ?_; refine vMz ?_; refine lvz (.convN rfl (by omega) (by omega)) ?_; refine vFz ?_; refine ldz rfl (.tail (.app (.app .head))) cl_rd12 ?_; refine lvz (.subN rfl rfl (by omega) (by omega)) ?_; refine vAz ?_; refine nNz ?_; refine CW.block ?_; refine sRz ?_; refine vMz ?_; refine lvz (.convN rfl (by omega) (by omega)) ?_; refine vFz ?_; refine ldz rfl (.tail (.app (.app .head))) cl_rd12 ?_; refine lvz (.geqT rfl rfl (by omega)) ?_; refine vMz ?_; refine gTz ?_; refine vMz ?_; refine gTz ?_; refine vFz ?_; refine gTz ?_; refine ldz rfl (.tail (.app (.app .head))) cl_rd13 ?_; refine gTz ?_; refine lvz (.lssF rfl rfl (by omega)) ?_; refine pTz ?_; refine vMz ?_; (iterate 6 refine gFz ?_); refine pFz ?_; refine vAz ?_; refine nNz ?_; refine cFz ?_; refine sRz ?_; refine vMz ?_; refine vFz ?_; refine vFz ?_; refine ldz rfl (.tail (.app (.app (.tail (.tail (.app (.app (.tail .head)))))))) fr_rd3 ?_; refine lvz (.lenR rfl inferInstance rfl) ?_; refine lvz (.lssF rfl rfl (by omega)) ?_; refine vAz ?_; refine nNz ?_; refine cFz ?_; refine sRz ?_; refine vMz ?_; refine lvz (.neF rfl rfl (by omega)) ?_; refine vAz ?_; refine nNz ?_; refine cFz ?_; refine CW.skip ?_; refine blkN ?_; refine blkN ?_; refine thenN ?_; refine CW.region ?_; refine lvz (.addZL rfl rfl (by decide) (by omega)) ?_; refine vMz ?_; apply LW.nil)
              apply thenX
              exact ⟨rfl, k + 1, hlt2, by omega, ⟨rfl, rfl, rfl, rfl, rfl, rfl, rfl, rfl, rfl, trivial⟩, List.Sublist.refl _⟩
            · (refine sRz ?_; refine lvz (.lssT rfl rfl (by omega)) ?_; refine nNz ?_; refine CW.seq ?_; refine cTz ?_; refine CW.skip ?_; refine thenN ?_; refine CW.seq ?_; refine CW.block ?_; refine sRz ?_; refine vMz ?_; refine lvz (.indexAddrS rfl rfl rfl (by omega)) ?_; apply LW.load; rfl; rfl; (exact kn_mem hmM (by (repeat (first | exact List.Sublist.refl _ | exact List.sublist_append_left _ _ | apply List.Sublist.cons | apply List.sublist_append_of_sublist_right)))); assumption; refine vAz ?_; refine vAz ?_; refine nSz ?_; refine vMz ?_; refine lvz (.convN rfl (by omega) (by omega)) ?_; refine vFz ?_; refine ldz rfl (.tail (.app (.app .head))) cl_rd12 ?_; refine lvz (.subN rfl rfl (by omega) (by omega)) ?_; refine vAz ?_; refine nNz ?_; refine CW.block ?_; refine sRz ?_; refine vMz ?_; refine lvz (.convN rfl (by omega) (by omega)) ?_; refine vFz ?_; refine ldz rfl (.tail (.app (.app .head))) cl_rd12 ?_; refine lvz (.geqT rfl rfl (by omega)) ?_; refine vMz ?_; refine gTz ?_; refine vMz ?_; refine gTz ?_; refine vFz ?_; refine gTz ?_; refine ldz rfl (.tail (.app (.app .head))) cl_rd13 ?_; refine gTz ?_; refine lvz (.lssT rfl rfl (by omega)) ?_; refine pTz ?_; refine vMz ?_; refine gTz ?_; refine vMz ?_; refine gTz ?_; refine vFz ?_; refine gTz ?_; refine ldz rfl (.tail (.app (.app (.tail (.tail (.app (.app (.tail (.tail (.app (.app .head))))))))))) ov_rd2 ?_; refine gTz ?_; refine lvz (.lenR rfl inferInstance rfl) ?_; refine gTz ?_; refine lvz (.convN rfl (by omega) (by omega)) ?_; refine gTz ?_; refine lvz (.lssF rfl rfl (by omega)) ?_; refine pTz ?_; refine vAz ?_; refine nNz ?_; refine cFz ?_; refine sRz ?_; refine vMz ?_; refine vFz ?_; refine vFz ?_; refine ldz rfl (.tail (.app (.app (.tail (.tail (.app (.app (.tail .head)))))))) fr_rd3 ?_; refine lvz (.lenR rfl inferInstance rfl) ?_; refine lvz (.lssF rfl rfl (by omega)) ?_; refine vAz ?_; refine nNz ?_; refine cFz ?_; refine sRz ?_; refine vMz ?_; refine lvz (.neF rfl rfl (by omega)) ?_; refine vAz ?_; refine nNz ?_; refine cFz ?_; refine CW.skip ?_; refine blkN ?_; refine blkN ?_; refine thenN ?_; refine CW.region ?_; refine lvz (.addZL rfl rfl (by decide) (by omega)) ?_; refine vMz ?_; apply LW.nil)
              apply thenX
              exact ⟨rfl, k + 1, hlt2, by omega, ⟨rfl, rfl, rfl, rfl, rfl, rfl, rfl, rfl, rfl, trivial⟩, List.Sublist.refl _⟩
      · obtain rfl : k = En.ms.length := by omega
        (refine sRz ?_; refine lvz (.lssF rfl rfl (by omega)) ?_; refine nNz ?_; refine CW.seq ?_; refine cFz ?_; refine CW.exit ?_; refine thenE ?_; refine thenE ?_; refine blkE rfl ?_; refine thenN ?_; refine CW.seq ?_; apply CW.pre; refine AnyW.any 10 mixed (by decide +kernel) ?_; (try simp only [tsOf_cons, tsOf_nil, tsOf_app]); refine dvz (.fieldAddr rfl rfl) ?_; apply DW.loadO; rfl; rfl; rfl; exact WantT.none; rfl; apply TRead.tail; apply TRead.app; apply TRead.app; apply TRead.tail; apply TRead.tail; apply TRead.app; apply TRead.app; apply TRead.tail; apply TRead.head; exact ancB_nil; exact fr_rd2; refine dvz (.fieldAddr rfl rfl) ?_; apply DW.loadO; rfl; rfl; rfl; exact WantT.none; rfl; apply TRead.tail; apply TRead.app; apply TRead.app; apply TRead.tail; apply TRead.tail; apply TRead.app; apply TRead.app; apply TRead.tail; apply TRead.head; exact ancB_nil; exact fr_rd4; refine dvz (.fieldAddr rfl rfl) ?_; apply DW.loadO; rfl; rfl; rfl; exact WantT.none; rfl; apply TRead.tail; apply TRead.app; apply TRead.app; apply TRead.tail; apply TRead.tail; apply TRead.app; apply TRead.app; apply TRead.tail; apply TRead.head; exact ancB_nil; exact fr_rd12; refine dvz (.fieldAddr rfl rfl) ?_; apply DW.store; rfl; rfl; exact WantT.none; rfl; rfl; apply TSet.head; exact ancB_nil; exact ancB_nil; exact fr_wr23; refine dvz (.fieldAddr rfl rfl) ?_; apply DW.store; rfl; rfl; exact WantT.none; rfl; rfl; apply TSet.head; kernel_rfl; kernel_rfl; apply fr_wr4 (z := .int .u64 0); apply DW.nil; simp only [fsOf_cons, fsOf_nil, fsOf_app, fsOf_tsOf, fsOf_new, fsOf_tag, fsOf_mark]; refine vFz ?_; refine LW.store rfl rfl .head fr_wr12 ?_; refine nSz ?_; refine ldz rfl .head fr_rdW ?_; refine ldz rfl (.tail (.app (.app (.tail (.tail (.app (.app (.tail .head)))))))) fr_rdW ?_; apply LW.callE; rfl; rfl; infer_instance; exact .cons rfl (.cons rfl .nil); intro w _; rename_i hst; (exact hSm w (st_ou hst (by (repeat (first | exact List.Sublist.refl _ | exact List.sublist_append_left _ _ | apply List.Sublist.cons | apply List.sublist_append_of_sublist_right)))) (st_ou hst (by (repeat (first | exact List.Sublist.refl _ | exact List.sublist_append_left _ _ | apply List.Sublist.cons | apply List.sublist_append_of_sublist_right))))); refine vMz ?_; refine gTz ?_; refine vFz ?_; refine gTz ?_; refine vFz ?_; refine gTz ?_; refine ldz rfl (.tail (.app (.app (.tail .head)))) fr_rd3 ?_; refine gTz ?_; refine lvz (.lenR rfl inferInstance rfl) ?_; refine gTz ?_; refine vFz ?_; refine gTz ?_; refine vFz ?_; refine gTz ?_; refine ldz rfl (.tail (.app (.app (.tail (.tail (.app (.app (.tail .head)))))))) fr_rd3 ?_; refine gTz ?_; refine lvz (.lenR rfl inferInstance rfl) ?_; refine gTz ?_; refine lvz (.geqT rfl rfl (by omega)) ?_; refine pTz ?_; refine vAz ?_; refine nNz ?_; refine CW.ret ?_)
        (apply finR; exact .inl rfl; rfl; rfl; rfl; apply ResL.cons; exact Res.tmp rfl; exact ResL.nil)
        rfl
    · have hge := hBM.ok.2.2.2.1.1
      have h64 : ¬ (fewF X).ws.length < 64 := fun h => hnE (hE.2 h)
      have hsl2 := zero_sl
      (refine vMz ?_; refine vEz ?_; refine vEz ?_; apply LW.allocA; rfl; intro _; apply LW.store; rfl; rfl; apply SetAt.head; apply fr_wrW; rfl; exact hsl2; refine vAz ?_; refine nNz ?_; refine CW.seq ?_; refine sRz ?_; refine vMz ?_; refine lvz (.notF rfl (by with_reducible rfl)) ?_; refine nNz ?_; refine cTz ?_; refine sRz ?_; refine vFz ?_; refine vFz ?_; refine ldz rfl (.tail (.app (.app (.tail (.tail (.app (.app (.tail .head)))))))) fr_rd2s ?_; refine lvz (.lenR rfl inferInstance rfl) ?_; refine lvz (.eqT rfl rfl (by omega)) ?_; refine vAz ?_; refine nNz ?_; refine CW.ret ?_; refine thenR ?_)
      (apply finR; exact .inl rfl; rfl; rfl; rfl; apply ResL.cons; exact Res.tmp rfl; exact ResL.nil)
      rfl
end Go.Proofs.YtpgdnfgjbhdbpaaGreatDoor

/-
  Arguments of the laws on calls, opened.
  Conditions: none.
-/
namespace Go.Proofs.YtpgdnfgjbhdbpaaGreatDoor
open Go Go.RowKit SL
open Go.ChangeShapes Go.WideShapes
set_option linter.unusedVariables false
section op
variable {w : World}
theorem pair_is {f r : Ty} {cs : List Value} (h : (Ty.pair f r).is w cs) : ∃ a b, cs = a ++ b ∧ f.is w a ∧ r.is w b := ⟨_, _, (List.take_append_drop _ cs).symm, h.1, h.2⟩
theorem is_u64 {cs : List Value} (h : (Ty.int .u64).is w cs) : ∃ n : Nat, n < 18446744073709551616 ∧ cs = [.int .u64 (n : Int)] := by
  obtain ⟨n, rfl, hn⟩ := h
  obtain ⟨k, rfl, hk⟩ := wf_u64 hn
  exact ⟨k, hk, rfl⟩
theorem is_byte {cs : List Value} (h : (Ty.int .u8).is w cs) : ∃ n : Nat, cs = [.int .u8 (n : Int)] := by
  obtain ⟨u, _, rfl⟩ := is_u8 h
  exact ⟨u.toNat, rfl⟩
def tyBs : Ty := .sl (.int .u8)
end op
end Go.Proofs.YtpgdnfgjbhdbpaaGreatDoor

/-
  Arguments of the laws on frames, calls and their ends, opened.
  Conditions: none.
-/
namespace Go.Proofs.YtpgdnfgjbhdbpaaGreatDoor
open Go Go.RowKit SL
open Go.ChangeShapes Go.WideShapes
set_option linter.unusedVariables false
section op
variable {H : Type} {enc : TypeId × Value → H} {P : Program} {w W : World} {held : Bool} {r : Reach} {base : Nat} {T E : TypeId} {v : Value} {d : DataW H} {ps : List MemPlace}
def aggB (P : Program) (T : TypeId) : Bool := match P.underlying T with | some (.struct _) | some (.array _ _) => true | _ => false
/-- An argument that is a struct, or an array. -/
theorem open_agg {α : Type} {g : α → List Value} {Q : α → Prop} {e : Ty} (hs : aggB P T = true) (hT : e.ok P (.inl T) = true) (he : ∀ cs', e.is w cs' → ∃ x, Q x ∧ cs' = g x)
    (hv : Value.okWide P W r base T v) (h : DataW.Trod enc P w 0 (fun _ => true) held T v d ps) : ∃ x : α, Q x ∧ v = .agg (g x).toArray := by
  obtain ⟨cs, rfl⟩ : ∃ cs, v = .agg cs := by
    unfold aggB at hs
    unfold Value.okWide at hv
    split at hs
    · rename_i fs hu
      simp only [hu] at hv
      obtain ⟨cs, h1, _⟩ := hv
      exact ⟨cs, h1⟩
    · rename_i n e hu
      simp only [hu] at hv
      obtain ⟨cs, h1, _⟩ := hv
      exact ⟨cs, h1⟩
    · cases hs
  obtain ⟨x, hx, he2⟩ := he _ (open_one hT h)
  exact ⟨x, hx, congrArg Value.agg (Array.toList_inj.1 he2)⟩
theorem is_wrow {cs : List Value} (h : (Ty.sl .word).is w cs) : ∃ x : Value × List Nat, (RowAt w 4 x.1 x.2.length (wcs x.2) ∧ ∀ u ∈ x.2, u < M256) ∧ cs = [x.1] := by
  obtain ⟨v, l, h1, h2, h3⟩ := sl_rows (g := fun u : Nat => (wc u).toList) (Q := fun u => u < M256) (sz := 4) rfl (by decide) (fun _ h => is_word h) h
  exact ⟨(v, l), ⟨h3, fun u hu => (h2 u hu).1⟩, h1⟩
theorem is_i64 {cs : List Value} (h : (Ty.int .i64).is w cs) : ∃ n : Int, cs = [.int .i64 n] := by
  obtain ⟨n, rfl, _⟩ := h
  exact ⟨n, rfl⟩
def tySc : Ty := .pair (.sl .word) (.pair tyBs .unit)
def tyFr : Ty := .pair tyBs (.pair (.int .i64) (.pair tySc (.pair (.int .u64) (.pair (.int .u64) (.pair (.int .u64) (.pair .word (.pair tyBs (.pair tyBs (.pair .bool .unit)))))))))
theorem is_fr {cs : List Value} (h : tyFr.is w cs) : ∃ p : FrV × FrL, (FrRows w p.1 p.2 ∧ FrNum p.1 p.2) ∧ cs = frc p.1 := by
  obtain ⟨_, _, rfl, h0, h⟩ := pair_is h
  obtain ⟨_, _, rfl, h1, h⟩ := pair_is h
  obtain ⟨_, _, rfl, h2, h⟩ := pair_is h
  obtain ⟨_, _, rfl, h3, h⟩ := pair_is h
  obtain ⟨_, _, rfl, h4, h⟩ := pair_is h
  obtain ⟨_, _, rfl, h5, h⟩ := pair_is h
  obtain ⟨_, _, rfl, h6, h⟩ := pair_is h
  obtain ⟨_, _, rfl, h7, h⟩ := pair_is h
  obtain ⟨_, _, rfl, h8, h⟩ := pair_is h
  obtain ⟨_, _, rfl, h9, h⟩ := pair_is h
  obtain rfl : _ = [] := h
  obtain ⟨_, _, rfl, ha, h2⟩ := pair_is h2
  obtain ⟨_, _, rfl, hb, h2⟩ := pair_is h2
  obtain rfl : _ = [] := h2
  obtain ⟨⟨v0, l0⟩, b0, rfl⟩ := is_bytes h0
  obtain ⟨n1, rfl⟩ := is_i64 h1
  obtain ⟨⟨va, la⟩, ⟨ba, ca⟩, rfl⟩ := is_wrow ha
  obtain ⟨⟨vb, lb⟩, bb, rfl⟩ := is_bytes hb
  obtain ⟨n3, b3, rfl⟩ := is_u64 h3
  obtain ⟨n4, b4, rfl⟩ := is_u64 h4
  obtain ⟨n5, b5, rfl⟩ := is_u64 h5
  obtain ⟨n6, b6, rfl⟩ := is_word h6
  obtain ⟨⟨v7, l7⟩, b7, rfl⟩ := is_bytes h7
  obtain ⟨⟨v8, l8⟩, b8, rfl⟩ := is_bytes h8
  obtain ⟨f9, rfl⟩ := h9
  exact ⟨(⟨v0, n1, va, vb, n3, n4, n5, n6, v7, v8, f9⟩, ⟨l0, la, lb, l7, l8⟩), ⟨⟨b0, ba, bb, b7, b8⟩, ⟨b3, b4, b5, b6, ca⟩⟩, rfl⟩
def tyOv : Ty := .pair .bool (.pair (.int .u64) (.pair tyBs .unit))
theorem is_ov {cs : List Value} (h : tyOv.is w cs) : ∃ x : OvV, (RowAt w 1 x.out x.l.length (ucs x.l) ∧ x.left < 18446744073709551616) ∧ cs = ovp x := by
  obtain ⟨_, _, rfl, h0, h⟩ := pair_is h
  obtain ⟨_, _, rfl, h1, h⟩ := pair_is h
  obtain ⟨_, _, rfl, h2, h⟩ := pair_is h
  obtain rfl : _ = [] := h
  obtain ⟨f0, rfl⟩ := h0
  obtain ⟨n1, b1, rfl⟩ := is_u64 h1
  obtain ⟨⟨v2, l2⟩, b2, rfl⟩ := is_bytes h2
  exact ⟨⟨f0, n1, v2, l2⟩, ⟨b2, b1⟩, rfl⟩
end op
end Go.Proofs.YtpgdnfgjbhdbpaaGreatDoor

/-
  What is asked for, opened; what is laid, as the contracts of digests ask for it.
  Conditions: none.
-/
namespace Go.Proofs.YtpgdnfgjbhdbpaaGreatDoor
open Go Go.RowKit SL
open Go.ChangeShapes Go.WideShapes
set_option linter.unusedVariables false
section op
variable {w : World}
def tyAk : Ty := .pair (.int .i64) (.pair (.int .u8) (.pair (.sl .word) (.pair tyBs .unit)))
theorem is_ak {cs : List Value} (h : tyAk.is w cs) : ∃ a : AkA, AkAt w a ∧ cs = akp a := by
  obtain ⟨_, _, rfl, h0, h⟩ := pair_is h
  obtain ⟨_, _, rfl, h1, h⟩ := pair_is h
  obtain ⟨_, _, rfl, h2, h⟩ := pair_is h
  obtain ⟨_, _, rfl, h3, h⟩ := pair_is h
  obtain rfl : _ = [] := h
  obtain ⟨n0, rfl⟩ := is_i64 h0
  obtain ⟨n1, rfl⟩ := is_byte h1
  obtain ⟨⟨v2, l2⟩, ⟨b2, c2⟩, rfl⟩ := is_wrow h2
  obtain ⟨⟨v3, l3⟩, b3, rfl⟩ := is_bytes h3
  exact ⟨⟨n0, n1, v2, l2, v3⟩, ⟨b2, ⟨l3, b3⟩, c2⟩, rfl⟩
end op
theorem var_heap {P : Program} {w : World} {n : String} {g : Nat} {cs : Array Value} (hg : P.globalNamed n = some g) (h : w.var? P n = some cs) : ∃ E fr, w.heap[g]? = some (.cells cs E fr) := by
  unfold World.var? at h
  rw [hg] at h
  simp only [Option.bind_some] at h
  split at h
  · rename_i cs' E fr hh
    cases h
    exact ⟨E, fr, hh⟩
  · cases h
theorem tab_at {P : Program} {W : World} {l : List (String × DataW Unit)} {n : String} {g T E m : Nat} {k : IntKind} {zs : List Int} (h : laidMet P l W) (hm : (n, Lib.tabData k zs) ∈ l) (hg : P.globalNamed n = some g) (hT : (P.globals[g]?).map (·.type) = some T) (hu : P.underlying T = some (.array m E)) (he : P.underlying E = some (.int k)) (hce : P.cellsOf E = 1) (hct : P.cellsOf T = m) :
    ∃ E' fr, W.heap[g]? = some (.cells (zs.map fun z => Value.int k z).toArray E' fr) := by
  obtain ⟨g', t', cs, fuel, p, h1, h2, h3, h4⟩ := Lib.laidMet.reads h hm
  obtain rfl : g = g' := Option.some.inj (hg.symm.trans h1)
  obtain rfl : T = t' := Option.some.inj (hT.symm.trans h2)
  have hc := Lib.cells_of_tab hu he hce hct h4
  obtain ⟨E', fr, hh⟩ := var_heap hg h3
  refine ⟨E', fr, ?_⟩
  rw [hh, ← hc]
theorem laid_at {l : List (String × DataW Unit)} {W : World} (h : laidMetH Tryz.prog l W) (h0 : (l.all fun x => x.2.handleName?.isNone) = true) (h1 : ("sheafer/sponge.turns", Lib.tabData .i64 (SK.turnL.map fun (n : Nat) => (n : Int))) ∈ l) (h2 : ("sheafer/sponge.numbers", Lib.tabData .u64 (SK.numL.map fun (n : Nat) => (n : Int))) ∈ l) : SK.TurnAt W ∧ SK.NumAt W := by
  rw [MakeChecks.laidMetH_plain _ _ _ h0] at h
  exact ⟨tab_at (T := 199) (E := 3) (m := 25) h h1 (by kernel_rfl) (by kernel_rfl) (by kernel_rfl) (by kernel_rfl) (by kernel_rfl) (by kernel_rfl), tab_at (T := 174) (E := 26) (m := 24) h h2 (by kernel_rfl) (by kernel_rfl) (by kernel_rfl) (by kernel_rfl) (by kernel_rfl) (by kernel_rfl)⟩
theorem laid_back {W : World} (h : laidMetH Tryz.prog Rows.callBackRow.laid W) : SK.TurnAt W ∧ SK.NumAt W := laid_at h (by kernel_rfl) (List.Mem.tail _ (List.Mem.tail _ (List.Mem.tail _ (List.Mem.head _)))) (List.Mem.tail _ (List.Mem.tail _ (List.Mem.tail _ (List.Mem.tail _ (List.Mem.head _)))))
end Go.Proofs.YtpgdnfgjbhdbpaaGreatDoor
