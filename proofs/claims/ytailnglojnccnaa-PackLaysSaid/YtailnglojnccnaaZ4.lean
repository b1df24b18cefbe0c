/-
  Texts that were built apart, put behind one another (4 of 4): PD PE Smk PF PG.
  Conditions: none.
-/
import Derived.Test.YtailnglojnccnaaZ3
/-
  Contracts of the pack's references: tails, the bytes of parts.
  Conditions: none.
-/
namespace Go.Proofs.Ytailnglojnccnaa
open Go Go.RowKit SL
set_option maxRecDepth 8000
set_option maxHeartbeats 4000000
set_option linter.unusedSimpArgs false
set_option linter.unusedVariables false
attribute [local irreducible] SL.CW SL.LW SL.DW Calls SL.Ret SL.RetG SL.beginQ SL.roundQ SL.rangeQ SL.inQ SL.RW SL.AnyW SL.thenQ SL.thenC SL.thenW SL.blkQ SL.finQ SL.ValP SL.NewP SL.SetP SL.CallP SL.Rd SL.Wr SL.Known
theorem ucs_snoc0 (l : List UInt8) (k : Nat) : ucs (l ++ List.replicate k 0) ++ [Value.int .u8 0] = ucs (l ++ List.replicate (k + 1) 0) := by
  rw [List.replicate_succ', ← List.append_assoc, ucs_app (l ++ _)]; rfl
theorem rTail_calls (l : List UInt8) (v : Value) (w : World) (hv : RowAt w 1 v l.length (ucs l)) (hl : l.length ≤ 100000) : Calls Try.prog 28 #[v] w (RetG w [] fun v' gs => IsRow 5 1 v' (tlB l).length (ucs (tlB l)) gs) := by
  obtain ⟨p, c, rfl, hc, hm⟩ := hv.form
  simp only [maxLen] at hm
  have hw1 := whl_le l.length
  have hw2 := whl_lt l.length
  have hw3 := whl_mod l.length
  refine enter (args := [_]) _ [] [] Try.func28 rfl Try.ntmps28 rfl (by simp) .nil ?_
  (refine CW.seq ?_; refine CW.region ?_; apply LW.v0; rfl; rfl; apply ValP.assign; rfl; apply LW.nil; refine thenN ?_; refine CW.seq ?_; refine CW.region ?_; apply LW.v0; rfl; rfl; apply ValP.move; rfl; apply LW.v0; rfl; rfl; apply ValP.lenR; rfl; infer_instance; rfl; apply LW.v0; rfl; rfl; apply ValP.convN; rfl; omega; omega; apply LW.v0; rfl; rfl; apply ValP.buildW1; rfl; omega)
  refine LW.callR rfl rfl inferInstance (by (apply ArgsOk.cons; rfl; exact ArgsOk.nil)) (fun w hst => rBytes_calls l.length (by simp only [M256]; omega) w) ?_
  intro v1 seg1 hrow1
  (apply LW.v0; rfl; rfl; apply ValP.move; rfl)
  refine LW.appendAny (n := 32) (m := l.length) (news := ucs l) rfl rfl inferInstance inferInstance inferInstance rfl rfl rfl (by (exact AtSeg.head)) hrow1 (fun w hs => hv.st hs) (ucs_cells _) (by simp only [maxLen]; omega) (by omega) ?_
  intro v2 seg2 hrow2
  refine ⟨_, (by (exact AtSeg.head)), ?_⟩
  rw [← ucs_app] at hrow2
  (apply LW.v0; rfl; rfl; apply ValP.assign; rfl; apply LW.nil; refine thenN ?_; refine CW.seq ?_; refine CW.block ?_)
  refine CW.loop (fun x : FX => ([(3, x.ov)], x.seg ++ []))
    (fun x => x.k ≤ whl l.length - l.length ∧ IsRow 5 1 x.ov (32 + l.length + x.k) (ucs ((beb 32 l.length ++ l) ++ List.replicate x.k 0)) x.seg) (fun x => whl l.length - l.length - x.k) ⟨0, v2, seg2⟩
    ⟨Nat.zero_le _, by rw [List.replicate_zero, List.append_nil]; exact hrow2⟩ ⟨rfl, trivial⟩ (List.Sublist.refl _) ?_
  rintro ⟨k, ov, seg⟩ ⟨hk, hO⟩
  dsimp only at hk hO ⊢
  obtain ⟨po, co, rfl⟩ := hO.form
  rcases Nat.lt_or_ge k (whl l.length - l.length) with hlt | hge
  · have hpos : 0 < (32 + l.length + k) % 32 := by omega
    (refine CW.seq ?_; refine CW.seq ?_; refine CW.region ?_; apply LW.v0; rfl; rfl; apply ValP.move; rfl; apply LW.v0; rfl; rfl; apply ValP.lenR; rfl; infer_instance; rfl; apply LW.v0; rfl; rfl; apply ValP.remZL; rfl; rfl; decide; omega; apply LW.v0; rfl; rfl; apply ValP.gtrT; rfl; rfl; omega; apply LW.nil; refine thenN ?_; apply CW.condT; rfl; (with_reducible rfl); refine CW.skip ?_; refine thenN ?_; refine CW.block ?_; refine CW.region ?_; apply LW.v0; rfl; rfl; apply ValP.move; rfl; apply LW.lay1; rfl; infer_instance; infer_instance; rfl; rfl; rfl; rfl; rfl; rfl; intro _)
    refine LW.append (n := 32 + l.length + k) (m := 1) (news := [.int .u8 0]) rfl rfl inferInstance inferInstance inferInstance rfl rfl rfl (by (apply AtSeg.cons; exact AtSeg.head)) hO (by (apply Known.at; apply FsAt.head)) rfl rfl rfl (by omega) (by simp only [maxLen]; omega) (by omega) ?_
    intro ov' seg' hO'
    refine ⟨_, (by (apply AtSeg.cons; exact AtSeg.head)), ?_⟩
    rw [ucs_snoc0] at hO'
    (apply LW.v0; rfl; rfl; apply ValP.assign; rfl; apply LW.nil; refine blkN ?_)
    apply thenX
    refine ⟨rfl, ⟨k + 1, ov', seg'⟩, ⟨hlt, hO'⟩, by show _ - (k + 1) < _ - k; omega, ⟨rfl, trivial⟩, by dsimp only; (apply List.Sublist.cons; exact List.Sublist.refl _)⟩
  · obtain rfl : k = whl l.length - l.length := by omega
    have hz : (32 + l.length + (whl l.length - l.length)) % 32 = 0 := by omega
    (refine CW.seq ?_; refine CW.seq ?_; refine CW.region ?_; apply LW.v0; rfl; rfl; apply ValP.move; rfl; apply LW.v0; rfl; rfl; apply ValP.lenR; rfl; infer_instance; rfl; apply LW.v0; rfl; rfl; apply ValP.remZL; rfl; rfl; decide; omega; apply LW.v0; rfl; rfl; apply ValP.gtrF; rfl; rfl; omega; apply LW.nil; refine thenN ?_; apply CW.condF; rfl; (with_reducible rfl); refine CW.exit ?_; refine thenE ?_; refine thenE ?_; refine blkE rfl ?_; refine thenN ?_; refine CW.seq ?_; refine CW.region ?_; apply LW.v0; rfl; rfl; apply ValP.move; rfl; apply LW.v0; rfl; rfl; apply ValP.assign; rfl; apply LW.nil; refine thenN ?_; refine CW.ret ?_)
    refine fin (vs := [.slice po _ co]) seg (.inl rfl) rfl rfl (by (apply ResL.cons; exact Res.tmp rfl; exact ResL.nil)) (List.sublist_append_left _ _) ?_
    rw [tlB_len, tlB, ← List.append_assoc, show 32 + whl l.length = 32 + l.length + (whl l.length - l.length) by omega]
    exact hO
structure HX where
  k : Nat
  hv : Value
  segH : Fs
  tv : Value
  segT : Fs
theorem rBytesL_calls (l : List PartV) (v : Value) (w : World) (hv : PartsAt w v l) (hsm : small200 l) : Calls Try.prog 23 #[v] w (RetG w [] fun v' gs => IsRow 5 1 v' (layF l).length (ucs (layF l)) gs) := by
  obtain ⟨p, c, rfl, hc, hm⟩ := hv.row.form
  simp only [maxLen] at hm
  have hl16 := hsm.1
  refine enter (args := [_]) _ [] [] Try.func23 rfl Try.ntmps23 rfl (by simp) .nil ?_
  (refine CW.seq ?_; refine CW.region ?_; apply LW.v0; rfl; rfl; apply ValP.assign; rfl; apply LW.nil; refine thenN ?_; refine CW.seq ?_; refine CW.region ?_; apply LW.v0; rfl; rfl; apply ValP.assign; rfl; apply LW.v0; rfl; rfl; apply ValP.assign; rfl; apply LW.nil; refine thenN ?_; refine CW.seq ?_; refine CW.seq ?_; refine CW.region ?_; apply LW.v0; rfl; rfl; apply ValP.move; rfl; apply LW.v0; rfl; rfl; apply ValP.lenR; rfl; infer_instance; rfl; apply LW.v0; rfl; rfl; apply ValP.move; rfl; apply LW.nil; refine thenN ?_; refine CW.block ?_)
  refine CW.loop (fun x : HX => ([(9, .int .i64 (x.k : Int)), (8, .int .i64 (l.length : Int)), (7, .slice p l.length c), (0, .slice p l.length c), (3, x.hv), (4, x.tv)], x.segH ++ (x.segT ++ [])))
    (fun x => x.k ≤ l.length ∧ IsRow 5 1 x.hv (32 * x.k) (ucs (hdK l x.k)) x.segH ∧ IsRow 5 1 x.tv (behK l x.k).length (ucs (behK l x.k)) x.segT) (fun x => l.length - x.k) ⟨0, .slice none 0 0, [], .slice none 0 0, []⟩
    ⟨Nat.zero_le _, by rw [hdK_zero]; exact .nil, by rw [behK_zero]; exact .nil⟩ ⟨rfl, rfl, rfl, rfl, rfl, rfl, trivial⟩ (List.Sublist.refl _) ?_
  rintro ⟨k, hv1, segH, tv, segT⟩ ⟨hk, hH, hT⟩
  dsimp only at hk hH hT ⊢
  obtain ⟨ph, ch, rfl⟩ := hH.form
  obtain ⟨pT, cT, rfl⟩ := hT.form
  have hbl := beh_len hsm k
  rcases Nat.lt_or_ge k l.length with hlt | hge
  · obtain ⟨b, off, c', cs, E, fr, heq, hb, hrd0⟩ := part_rd hv k hlt
    cases heq
    have hrd : Rd Try.prog 39 (.cells cs E fr) (off + k * 6) (.agg (psa l[k])) := hrd0
    clear hrd0
    have ho := hv.one _ (List.getElem_mem hlt)
    have hdv := hv.data _ (List.getElem_mem hlt)
    have hwd := hv.small _ (List.getElem_mem hlt)
    have hpt := pt_eq hlt
    have hd200 := hsm.2 k
    have hal : atF l k ≤ 100000 := by unfold atF; omega
    have hat : 32 * l.length + (behK l k).length = atF l k := rfl
    rw [hpt] at hd200
    obtain ⟨P, hP⟩ : ∃ P, l[k] = P := ⟨_, rfl⟩
    rw [hP] at hrd ho hdv hwd hd200 hpt
    obtain ⟨q, cq, hq, hcq, _⟩ := hdv.form
    have hr2 : ∀ {E fr} , Rd Try.prog 25 (.cells (psa P) E fr) 5 (.slice q P.db.length cq) := fun {E fr} => by rw [← hq]; exact ps_rd2
    rw [hq] at hdv
    cases hlg : P.lg with
    | false =>
      have hr0 : ∀ {E fr} , Rd Try.prog 4 (.cells (psa P) E fr) 0 (.bool false) := fun {E fr} => by rw [← hlg]; exact ps_rd0
      have hlg' : (pt l k).lg = false := by rw [hpt]; exact hlg
      have hh1 := hdK_short hlg'
      have hb1 := behK_short hlg'
      rw [hpt] at hh1
      (refine CW.seq ?_; refine CW.region ?_; apply LW.v0; rfl; rfl; apply ValP.lssT; rfl; rfl; omega; apply LW.nil; refine thenN ?_; refine CW.seq ?_; apply CW.condT; rfl; (with_reducible rfl); refine CW.skip ?_; refine thenN ?_; refine CW.seq ?_; refine CW.block ?_; refine CW.seq ?_; refine CW.region ?_; apply LW.v0; rfl; rfl; apply ValP.indexAddrS; rfl; rfl; rfl; omega; apply LW.load; rfl; rfl; exact Known.ext (by assumption) (by simp); assumption; apply LW.allocA; rfl; intro _; apply LW.store; rfl; rfl; apply SetAt.head; apply ps_wrW; rfl; assumption; apply LW.nil; refine thenN ?_; refine CW.seq ?_; refine CW.seq ?_; refine CW.region ?_; apply LW.v0; rfl; rfl; apply ValP.fieldAddr; rfl; rfl; apply LW.load; rfl; rfl; apply Known.at; apply FsAt.head; exact hr0; apply LW.v0; rfl; rfl; apply ValP.notF; rfl; (with_reducible rfl); apply LW.nil; refine thenN ?_; apply CW.condT; rfl; (with_reducible rfl); refine CW.seq ?_; refine CW.region ?_; apply LW.v0; rfl; rfl; apply ValP.move; rfl; apply LW.v0; rfl; rfl; apply ValP.fieldAddr; rfl; rfl; apply LW.load; rfl; rfl; apply Known.at; apply FsAt.head; exact ps_rd1)
      refine LW.callR rfl rfl inferInstance (by (apply ArgsOk.cons; rfl; exact ArgsOk.nil)) (fun w hst => rBytes_calls P.wd hwd w) ?_
      intro v1 seg1 hrow1
      skip
      refine LW.appendAny (n := 32 * k) (m := 32) (news := ucs (beb 32 P.wd)) rfl rfl inferInstance inferInstance inferInstance rfl rfl rfl (by (apply AtSeg.app; apply AtSeg.cons; exact AtSeg.head)) hH (fun w hst => hrow1.atSeg (by (exact AtSeg.head)) hst) (ucs_cells _) (by simp only [maxLen]; omega) (by omega) ?_
      intro v2 seg2 hrow2
      refine ⟨_, (by (apply AtSeg.app; apply AtSeg.cons; exact AtSeg.head)), ?_⟩
      rw [← ucs_app, ← hh1] at hrow2
      (apply LW.v0; rfl; rfl; apply ValP.assign; rfl; apply LW.nil; refine thenN ?_; refine CW.exit ?_; refine thenE ?_; refine blkE rfl ?_; refine thenN ?_; refine CW.region ?_; apply LW.v0; rfl; rfl; apply ValP.addZL; rfl; rfl; decide; omega; apply LW.v0; rfl; rfl; apply ValP.move; rfl; apply LW.nil)
      apply thenX
      refine ⟨rfl, ⟨k + 1, v2, seg2, .slice pT (behK l k).length cT, segT⟩, ⟨hlt, hrow2, by dsimp only; rw [hb1]; exact hT⟩, by show l.length - (k + 1) < l.length - k; omega, ⟨rfl, rfl, rfl, rfl, rfl, rfl, trivial⟩, by dsimp only; (apply List.sublist_append_of_sublist_right; apply List.Sublist.cons; exact List.Sublist.refl _)⟩
    | true =>
      have hr0 : ∀ {E fr} , Rd Try.prog 4 (.cells (psa P) E fr) 0 (.bool true) := fun {E fr} => by rw [← hlg]; exact ps_rd0
      have hlg' : (pt l k).lg = true := by rw [hpt]; exact hlg
      have hh1 := hdK_long hlg'
      have hb1 := behK_long hlg'
      rw [hpt] at hb1
      (refine CW.seq ?_; refine CW.region ?_; apply LW.v0; rfl; rfl; apply ValP.lssT; rfl; rfl; omega; apply LW.nil; refine thenN ?_; refine CW.seq ?_; apply CW.condT; rfl; (with_reducible rfl); refine CW.skip ?_; refine thenN ?_; refine CW.seq ?_; refine CW.block ?_; refine CW.seq ?_; refine CW.region ?_; apply LW.v0; rfl; rfl; apply ValP.indexAddrS; rfl; rfl; rfl; omega; apply LW.load; rfl; rfl; exact Known.ext (by assumption) (by simp); assumption; apply LW.allocA; rfl; intro _; apply LW.store; rfl; rfl; apply SetAt.head; apply ps_wrW; rfl; assumption; apply LW.nil; refine thenN ?_; refine CW.seq ?_; refine CW.seq ?_; refine CW.region ?_; apply LW.v0; rfl; rfl; apply ValP.fieldAddr; rfl; rfl; apply LW.load; rfl; rfl; apply Known.at; apply FsAt.head; exact hr0; apply LW.v0; rfl; rfl; apply ValP.notT; rfl; (with_reducible rfl); apply LW.nil; refine thenN ?_; apply CW.condF; rfl; (with_reducible rfl); refine CW.skip ?_; refine thenN ?_; refine CW.seq ?_; refine CW.region ?_; apply LW.v0; rfl; rfl; apply ValP.move; rfl; apply LW.v0; rfl; rfl; apply ValP.move; rfl; apply LW.v0; rfl; rfl; apply ValP.lenR; rfl; infer_instance; rfl; apply LW.v0; rfl; rfl; apply ValP.mulZK; rfl; rfl; decide; omega; apply LW.v0; rfl; rfl; apply ValP.move; rfl; apply LW.v0; rfl; rfl; apply ValP.lenR; rfl; infer_instance; rfl; apply LW.v0; rfl; rfl; apply ValP.addZ; rfl; rfl; omega; apply LW.v0; rfl; rfl; apply ValP.convN; rfl; omega; omega; apply LW.v0; rfl; rfl; apply ValP.buildW1; rfl; omega)
      rw [hat]
      refine LW.callR rfl rfl inferInstance (by (apply ArgsOk.cons; rfl; exact ArgsOk.nil)) (fun w hst => rBytes_calls (atF l k) (by simp only [M256]; omega) w) ?_
      intro v1 seg1 hrow1
      skip
      refine LW.appendAny (n := 32 * k) (m := 32) (news := ucs (beb 32 (atF l k))) rfl rfl inferInstance inferInstance inferInstance rfl rfl rfl (by (apply AtSeg.app; apply AtSeg.cons; exact AtSeg.head)) hH (fun w hst => hrow1.atSeg (by (exact AtSeg.head)) hst) (ucs_cells _) (by simp only [maxLen]; omega) (by omega) ?_
      intro v2 seg2 hrow2
      refine ⟨_, (by (apply AtSeg.app; apply AtSeg.cons; exact AtSeg.head)), ?_⟩
      rw [← ucs_app, ← hh1] at hrow2
      (apply LW.v0; rfl; rfl; apply ValP.assign; rfl; apply LW.nil; refine thenN ?_; refine CW.region ?_; apply LW.v0; rfl; rfl; apply ValP.move; rfl; apply LW.v0; rfl; rfl; apply ValP.fieldAddr; rfl; rfl; apply LW.load; rfl; rfl; apply Known.at; apply FsAt.app; apply FsAt.head; exact hr2)
      refine LW.callR rfl rfl inferInstance (by (apply ArgsOk.cons; rfl; exact ArgsOk.nil)) (fun w hst => rTail_calls P.db _ w (hdv.st hst) (by omega)) ?_
      intro v3 seg3 hrow3
      have htl := tlB_len P.db
      have hwt := whl_lt P.db.length
      skip
      refine LW.appendAny (n := (behK l k).length) (m := (tlB P.db).length) (news := ucs (tlB P.db)) rfl rfl inferInstance inferInstance inferInstance rfl rfl rfl (by (apply AtSeg.app; apply AtSeg.app; apply AtSeg.cons; apply AtSeg.app; exact AtSeg.head)) hT (fun w hst => hrow3.atSeg (by (exact AtSeg.head)) hst) (ucs_cells _) (by simp only [maxLen]; omega) (by omega) ?_
      intro v4 seg4 hrow4
      refine ⟨_, (by (apply AtSeg.app; apply AtSeg.app; apply AtSeg.cons; apply AtSeg.app; exact AtSeg.head)), ?_⟩
      rw [← ucs_app, ← List.length_append, ← hb1] at hrow4
      (apply LW.v0; rfl; rfl; apply ValP.assign; rfl; apply LW.nil; refine blkN ?_; refine thenN ?_; refine CW.region ?_; apply LW.v0; rfl; rfl; apply ValP.addZL; rfl; rfl; decide; omega; apply LW.v0; rfl; rfl; apply ValP.move; rfl; apply LW.nil)
      apply thenX
      refine ⟨rfl, ⟨k + 1, v2, seg2, v4, seg4⟩, ⟨hlt, hrow2, hrow4⟩, by show l.length - (k + 1) < l.length - k; omega, ⟨rfl, rfl, rfl, rfl, rfl, rfl, trivial⟩, by dsimp only; (apply List.sublist_append_of_sublist_right; apply List.sublist_append_of_sublist_right; apply List.Sublist.cons; exact List.Sublist.refl _)⟩
  · obtain rfl : k = l.length := by omega
    (refine CW.seq ?_; refine CW.region ?_; apply LW.v0; rfl; rfl; apply ValP.lssF; rfl; rfl; omega; apply LW.nil; refine thenN ?_; refine CW.seq ?_; apply CW.condF; rfl; (with_reducible rfl); refine CW.exit ?_; refine thenE ?_; refine thenE ?_; refine blkE rfl ?_; refine thenN ?_; refine CW.seq ?_; refine CW.region ?_; apply LW.v0; rfl; rfl; apply ValP.move; rfl; apply LW.v0; rfl; rfl; apply ValP.move; rfl)
    refine LW.appendAny (n := 32 * l.length) (m := (behK l l.length).length) (news := ucs (behK l l.length)) rfl rfl inferInstance inferInstance inferInstance rfl rfl rfl (by (exact AtSeg.head)) hH (fun w hst => hT.atSeg (by (apply AtSeg.app; exact AtSeg.head)) hst) (ucs_cells _) (by simp only [maxLen]; omega) (by omega) ?_
    intro v2 seg2 hrow2
    refine ⟨_, (by (exact AtSeg.head)), ?_⟩
    (apply LW.v0; rfl; rfl; apply ValP.assign; rfl; apply LW.nil; refine thenN ?_; refine CW.ret ?_)
    refine fin (vs := [v2]) seg2 (.inl rfl) rfl rfl (by (apply ResL.cons; exact Res.tmp rfl; exact ResL.nil)) (List.sublist_append_left _ _) ?_
    rw [layF, ucs_app, List.length_append, hdK_len]
    exact hrow2
end Go.Proofs.Ytailnglojnccnaa

/-
  The pack in plain words: parts and their bytes lead back to one another.
  Conditions: none.
-/
namespace Go.Proofs.Ytailnglojnccnaa
open Go Go.RowKit SL
/-! ### Bytes of a word -/
theorem beb_bev (l : List UInt8) : beb l.length (bev l) = l := by
  obtain ⟨n, hn⟩ : ∃ n, n = l.length := ⟨_, rfl⟩
  induction n generalizing l with
  | zero => rw [List.length_eq_zero_iff.1 hn.symm]; rfl
  | succ n ih =>
    rcases List.eq_nil_or_concat l with rfl | ⟨r, u, rfl⟩
    · cases hn
    · rw [List.concat_eq_append] at hn ⊢
      have hr : n = r.length := by simpa using hn
      have h := ih r hr
      have hu := u.toNat_lt
      rw [bev_snoc, List.length_append, List.length_singleton]
      unfold beb at h ⊢
      rw [List.range_succ, List.map_append]
      congr 1
      · refine Eq.trans ?_ h
        apply List.map_congr_left
        intro i hi
        rw [List.mem_range] at hi
        congr 1
        rw [show r.length + 1 - 1 - i = (r.length - 1 - i) + 1 by omega, Nat.pow_succ', ← Nat.div_div_eq_div_mul]
        congr 1; omega
      · simp only [List.map_cons, List.map_nil, Nat.add_sub_cancel, Nat.sub_self, Nat.pow_zero, Nat.div_one]
        congr 1
        apply UInt8.toNat_inj.1
        rw [UInt8.toNat_ofNat']
        show (256 * bev r + u.toNat) % 256 = u.toNat
        omega
theorem beb_bev32 {l : List UInt8} (h : l.length = 32) : beb 32 (bev l) = l := by
  have := beb_bev l
  rwa [h] at this
/-! ### Only what the parts say matters -/
abbrev PD := Bool × Nat × List UInt8
def toP (d : PD) : PartV := ⟨d.1, d.2.1, .slice none 0 0, d.2.2⟩
theorem dat_toP (d : PD) : dat (toP d) = d := rfl
theorem pt_dat {l m : List PartV} (h : l.map dat = m.map dat) (k : Nat) : dat (pt l k) = dat (pt m k) := by
  have hk : (l.map dat)[k]? = (m.map dat)[k]? := by rw [h]
  rw [List.getElem?_map, List.getElem?_map] at hk
  unfold pt
  rw [List.getD_eq_getElem?_getD, List.getD_eq_getElem?_getD]
  cases h1 : l[k]? with
  | none => cases h2 : m[k]? with
    | none => rfl
    | some q => rw [h1, h2] at hk; cases hk
  | some p => cases h2 : m[k]? with
    | none => rw [h1, h2] at hk; cases hk
    | some q => rw [h1, h2] at hk; exact Option.some.inj hk
theorem dat_len {l m : List PartV} (h : l.map dat = m.map dat) : l.length = m.length := by simpa using congrArg List.length h
theorem beh_dat {l m : List PartV} (h : l.map dat = m.map dat) (k : Nat) : behK l k = behK m k := by
  induction k with
  | zero => rw [behK_zero, behK_zero]
  | succ k ih =>
    have hp := pt_dat h k
    have h1 : (pt l k).lg = (pt m k).lg := congrArg (·.1) hp
    have h3 : (pt l k).db = (pt m k).db := congrArg (·.2.2) hp
    cases hl : (pt l k).lg with
    | true => rw [behK_long hl, behK_long (h1 ▸ hl), ih, h3]
    | false => rw [behK_short hl, behK_short (h1 ▸ hl), ih]
theorem at_dat {l m : List PartV} (h : l.map dat = m.map dat) (k : Nat) : atF l k = atF m k := by rw [atF, atF, beh_dat h, dat_len h]
theorem hd_dat {l m : List PartV} (h : l.map dat = m.map dat) (k : Nat) : hdK l k = hdK m k := by
  induction k with
  | zero => rw [hdK_zero, hdK_zero]
  | succ k ih =>
    have hp := pt_dat h k
    have h1 : (pt l k).lg = (pt m k).lg := congrArg (·.1) hp
    have h2 : (pt l k).wd = (pt m k).wd := congrArg (·.2.1) hp
    cases hl : (pt l k).lg with
    | true => rw [hdK_long hl, hdK_long (h1 ▸ hl), ih, at_dat h]
    | false => rw [hdK_short hl, hdK_short (h1 ▸ hl), ih, h2]
theorem lay_dat {l m : List PartV} (h : l.map dat = m.map dat) : layF l = layF m := by rw [layF, layF, hd_dat h, beh_dat h, dat_len h]
theorem right_dat {p q : PartV} (h : dat p = dat q) : rightP p = rightP q := by
  have h1 : p.lg = q.lg := congrArg (·.1) h
  have h2 : p.wd = q.wd := congrArg (·.2.1) h
  have h3 : p.db = q.db := congrArg (·.2.2) h
  rw [rightP, rightP, h1, h2, h3]
theorem ok_dat : ∀ {l m : List PartV}, l.map dat = m.map dat → okP l = okP m
  | [], [], _ => rfl
  | [], _ :: _, h => by cases h
  | _ :: _, [], h => by cases h
  | a :: l, b :: m, h => by
    rw [List.map_cons, List.map_cons] at h
    injection h with h1 h2
    have ih := ok_dat h2
    unfold okP at ih ⊢
    rw [List.all_cons, List.all_cons, ih, right_dat h1]
theorem chk_dat {l m : List PartV} (h : l.map dat = m.map dat) : chkP l = chkP m := by rw [chkP, chkP, ok_dat h, dat_len h]
theorem fm_dat {l m : List PartV} (h : l.map dat = m.map dat) : fmP l = fmP m := by
  have h1 : ∀ l : List PartV, fmP l = (l.map dat).map (·.1) := fun l => by simp [fmP, dat]
  rw [h1, h1, h]
theorem same_dat : ∀ (l m : List PartV), sameL l m = true ↔ l.map dat = m.map dat
  | [], [] => by simp [sameL]
  | [], _ :: _ => by simp [sameL]
  | _ :: _, [] => by simp [sameL]
  | a :: l, b :: m => by
    rw [sameL, Bool.and_eq_true, same_dat l m, List.map_cons, List.map_cons, List.cons.injEq, sameP]
    simp [dat]
/-! ### What is laid is read -/
theorem tk_app {x r : List UInt8} {n : Nat} (h : x.length = n) : tkBad false (x ++ r) n = false ∧ tkB false (x ++ r) n = x ∧ tkL false (x ++ r) n = r := by
  have h1 : tkBad false (x ++ r) n = false := by simp [tkBad]; omega
  exact ⟨h1, by rw [tkB_ok h1, ← h, List.take_left], by rw [tkL_ok h1, ← h, List.drop_left]⟩
theorem hd_pre (l : List PartV) (k d : Nat) : ∃ r, hdK l (k + d) = hdK l k ++ r := by
  induction d with
  | zero => exact ⟨[], (List.append_nil _).symm⟩
  | succ d ih =>
    obtain ⟨r, hr⟩ := ih
    rw [← Nat.add_assoc]
    cases h : (pt l (k + d)).lg with
    | true => exact ⟨_, by rw [hdK_long h, hr, List.append_assoc]⟩
    | false => exact ⟨_, by rw [hdK_short h, hr, List.append_assoc]⟩
theorem beh_pre (l : List PartV) (k d : Nat) : ∃ r, behK l (k + d) = behK l k ++ r := by
  induction d with
  | zero => exact ⟨[], (List.append_nil _).symm⟩
  | succ d ih =>
    obtain ⟨r, hr⟩ := ih
    rw [← Nat.add_assoc]
    cases h : (pt l (k + d)).lg with
    | true => exact ⟨_, by rw [behK_long h, hr, List.append_assoc]⟩
    | false => exact ⟨r, by rw [behK_short h, hr]⟩
theorem nz_zeros (n : Nat) : nz (List.replicate n 0) = false := by
  rw [nz, List.any_eq_false]
  intro u hu
  obtain rfl := List.eq_of_mem_replicate hu
  simp
/-- What is left behind a Long part that is laid. -/
theorem lgS_laid {a : Nat} {r db r' : List UInt8} (ha : a < M256) (hd : db.length ≤ 200) :
    lgS ⟨beb 32 a ++ r, false, tlB db ++ r', false, a⟩ = ⟨r, false, r', false, a + (32 + whl db.length)⟩ ∧ ∀ v, lgR ⟨beb 32 a ++ r, false, tlB db ++ r', false, a⟩ v = byP v db := by
  have e : tlB db ++ r' = beb 32 db.length ++ (db ++ (List.replicate (whl db.length - db.length) 0 ++ r')) := by simp [tlB, List.append_assoc]
  rw [e]
  obtain ⟨h1, h2, h3⟩ := tk_app (x := beb 32 a) (r := r) (beb_len 32 a)
  obtain ⟨g1, g2, g3⟩ := tk_app (x := beb 32 db.length) (r := db ++ (List.replicate (whl db.length - db.length) 0 ++ r')) (beb_len 32 _)
  obtain ⟨k1, k2, k3⟩ := tk_app (x := db) (r := List.replicate (whl db.length - db.length) 0 ++ r') rfl
  obtain ⟨m1, m2, m3⟩ := tk_app (x := List.replicate (whl db.length - db.length) (0 : UInt8)) (r := r') (n := whl db.length - db.length) (by simp)
  obtain ⟨s, hs⟩ : ∃ s : RS, s = ⟨beb 32 a ++ r, false, beb 32 db.length ++ (db ++ (List.replicate (whl db.length - db.length) 0 ++ r')), false, a⟩ := ⟨_, rfl⟩
  rw [← hs]
  have q1 : hd32 s = a := by rw [hs]; show bev (tkB false _ 32) = a; rw [h2, bev_back a ha]
  have q2 : lgN s = db.length := by rw [hs]; show bev (tkB false _ 32) = _; rw [g2, bev_back _ (by simp only [M256]; omega)]
  have q3 : lgB1 s = false := by rw [hs]; exact g1
  have q4 : lgT1 s = db ++ (List.replicate (whl db.length - db.length) 0 ++ r') := by rw [hs]; exact g3
  have q5 : lgD s = db := by rw [lgD, q2, q3, q4]; exact k2
  have q6 : lgB2 s = false := by rw [lgB2, q2, q3, q4]; exact k1
  have q7 : lgT2 s = List.replicate (whl db.length - db.length) 0 ++ r' := by rw [lgT2, q2, q3, q4]; exact k3
  have q8 : lgP s = List.replicate (whl db.length - db.length) 0 := by rw [lgP, q2, q6, q7]; exact m2
  have q9 : lgB3 s = false := by rw [lgB3, q2, q6, q7]; exact m1
  have q10 : lgT3 s = r' := by rw [lgT3, q2, q6, q7]; exact m3
  have q11 : lgOk s = true := by rw [lgOk, q1, q2]; exact decide_eq_true ⟨by rw [hs], hd⟩
  refine ⟨?_, fun v => ?_⟩
  · rw [lgS, if_pos q11, q8, q9, q10, q2, nz_zeros, Bool.or_false, hs]
    show RS.mk (tkL false _ 32) (tkBad false _ 32) _ _ _ = _
    rw [h1, h3]
  · rw [lgR, if_pos q11, q5]
theorem fm_get (l : List PartV) (k : Nat) : (fmP l).getD k false = (pt l k).lg := by
  rw [fmP, pt, List.getD_eq_getElem?_getD, List.getD_eq_getElem?_getD, List.getElem?_map]
  cases l[k]? <;> rfl
theorem rs_laid {l : List PartV} (h : chkP l = 0) (hs : ∀ p ∈ l, p.wd < M256) (k : Nat) (hk : k ≤ l.length) :
    ∃ hr tr, hdK l l.length = hdK l k ++ hr ∧ behK l l.length = behK l k ++ tr ∧ rsK (layF l) (fmP l) k = ⟨hr, false, tr, false, atF l k⟩ ∧ rdK (layF l) (fmP l) k = (l.take k).map dat := by
  have hsm := right_small h
  have hfl : (fmP l).length = l.length := by simp [fmP]
  have hhd : (hdK l l.length).length = 32 * l.length := hdK_len l l.length
  induction k with
  | zero =>
    refine ⟨hdK l l.length, behK l l.length, by rw [hdK_zero]; rfl, by rw [behK_zero]; rfl, ?_, rfl⟩
    rw [rsK_zero, hfl, layF, ← hhd, List.take_left, List.drop_left, atF_zero, hhd]
  | succ k ih =>
    obtain ⟨hr, tr, h1, h2, h3, h4⟩ := ih (by omega)
    have hlt : k < l.length := by omega
    have hpt := pt_eq hlt
    have hwd : (pt l k).wd < M256 := by rw [hpt]; exact hs _ (List.getElem_mem hlt)
    have hd := hsm.2 k
    have hbl := beh_len hsm k
    have hat : atF l k < M256 := by unfold atF; simp only [M256]; have := hsm.1; omega
    obtain ⟨hr', h1'⟩ := hd_pre l (k + 1) (l.length - (k + 1))
    obtain ⟨tr', h2'⟩ := beh_pre l (k + 1) (l.length - (k + 1))
    rw [show k + 1 + (l.length - (k + 1)) = l.length by omega] at h1' h2'
    have hfm := fm_get l k
    have htk : (l.take (k + 1)).map dat = (l.take k).map dat ++ [dat (pt l k)] := by rw [List.take_succ_eq_append_getElem hlt, List.map_append, hpt]; rfl
    refine ⟨hr', tr', h1', h2', ?_⟩
    cases hlg : (pt l k).lg with
    | true =>
      rw [hlg] at hfm
      have e1 : hr = beb 32 (atF l k) ++ hr' := by
        rw [h1, hdK_long hlg, List.append_assoc] at h1'
        exact List.append_cancel_left h1'
      have e2 : tr = tlB (pt l k).db ++ tr' := by
        rw [h2, behK_long hlg, List.append_assoc] at h2'
        exact List.append_cancel_left h2'
      obtain ⟨g1, g2⟩ := lgS_laid (a := atF l k) (r := hr') (db := (pt l k).db) (r' := tr') hat hd
      rw [← e1, ← e2] at g1 g2
      refine ⟨by rw [rsK_long hfm, h3, g1, atF_long hlg], ?_⟩
      rw [rdK_succ, h4, htk, rdP, if_pos hfm, h3, g2]
      have hwd0 : (pt l k).wd = 0 := by
        have hr := (ok_iff l).1 (by
          unfold chkP at h
          split at h
          · cases h
          · split at h
            · assumption
            · cases h) k hlt
        rw [← hpt, rightP_long hlg] at hr
        simp only [Bool.and_eq_true, decide_eq_true_eq] at hr
        exact hr.1
      simp only [dat, byP, hlg, hwd0]
    | false =>
      rw [hlg] at hfm
      have e1 : hr = beb 32 (pt l k).wd ++ hr' := by
        rw [h1, hdK_short hlg, List.append_assoc] at h1'
        exact List.append_cancel_left h1'
      have e2 : tr = tr' := by
        rw [h2, behK_short hlg] at h2'
        exact List.append_cancel_left h2'
      obtain ⟨g1, g2, g3⟩ := tk_app (x := beb 32 (pt l k).wd) (r := hr') (beb_len 32 _)
      rw [← e1] at g1 g2 g3
      refine ⟨by rw [rsK_short hfm, h3, shS, atF_short hlg, ← e2]; show RS.mk (tkL false hr 32) (tkBad false hr 32) _ _ _ = _; rw [g1, g3], ?_⟩
      rw [rdK_succ, h4, htk, rdP, if_neg (by rw [hfm]; simp), h3]
      have hdb : (pt l k).db = [] := by
        have hr := (ok_iff l).1 (by
          unfold chkP at h
          split at h
          · cases h
          · split at h
            · assumption
            · cases h) k hlt
        rw [← hpt, rightP_short hlg] at hr
        exact List.length_eq_zero_iff.1 (of_decide_eq_true hr)
      show _ ++ [dat (ofP (bev (tkB false hr 32)))] = _
      rw [g2, bev_back _ hwd]
      simp only [dat, ofP, hlg, hdb]
/-- What is laid is read. -/
theorem read_laid {l : List PartV} (h : chkP l = 0) (hs : ∀ p ∈ l, p.wd < M256) : rdE (layF l) (fmP l) = 0 ∧ rdK (layF l) (fmP l) (fmP l).length = l.map dat := by
  have hfl : (fmP l).length = l.length := by simp [fmP]
  obtain ⟨hr, tr, h1, h2, h3, h4⟩ := rs_laid h hs l.length (Nat.le_refl _)
  have e2 : tr = [] := List.append_cancel_left («as» := behK l l.length) (by rw [List.append_nil]; exact h2.symm)
  have hsm := right_small h
  rw [hfl]
  refine ⟨?_, by rw [h4, List.take_length]⟩
  rw [rdE, hfl, if_neg (by have := hsm.1; omega), if_neg (by rw [layF_len, atF]; omega), h3, e2]
  rfl
/-! ### What is read is laid -/
/-- The parts that are read. -/
def rdL (b : List UInt8) (fm : List Bool) : List PartV := (rdK b fm fm.length).map toP
theorem rdL_len (b : List UInt8) (fm : List Bool) : (rdL b fm).length = fm.length := by simp [rdL, rdK]
theorem rdL_dat (b : List UInt8) (fm : List Bool) : (rdL b fm).map dat = rdK b fm fm.length := by
  rw [rdL, List.map_map]
  exact (List.map_congr_left (fun d _ => dat_toP d)).trans (List.map_id _)
theorem rdL_pt {b : List UInt8} {fm : List Bool} {k : Nat} (h : k < fm.length) : pt (rdL b fm) k = toP (rdP b fm k) := by
  rw [pt_eq (by rw [rdL_len]; exact h)]
  simp [rdL, rdK]
theorem tk_not {bad : Bool} {l : List UInt8} {n : Nat} (h : tkBad bad l n = false) : bad = false ∧ n ≤ l.length ∧ l = l.take n ++ l.drop n := by
  rw [tkBad, Bool.or_eq_false_iff] at h
  exact ⟨h.1, by have := of_decide_eq_false h.2; omega, (List.take_append_drop n l).symm⟩
theorem nz_none : ∀ {l : List UInt8}, nz l = false → l = List.replicate l.length 0
  | [], _ => rfl
  | u :: l, h => by
    rw [nz, List.any_cons, Bool.or_eq_false_iff] at h
    have h1 : u.toNat = 0 := by simpa using h.1
    have h2 : u = 0 := UInt8.toNat_inj.1 h1
    rw [List.length_cons, List.replicate_succ, h2]
    congr 1
    exact nz_none h.2
theorem rd_lg (b : List UInt8) (fm : List Bool) (k : Nat) (h : fm.getD k false = false) : (rdP b fm k).1 = false := by
  rw [rdP, if_neg (by rw [h]; simp)]; rfl
theorem rs_read {b : List UInt8} {fm : List Bool} (k : Nat) (hk : k ≤ fm.length) (h1 : (rsK b fm k).hb = false) (h2 : (rsK b fm k).tb = false) :
    b.take (32 * fm.length) = hdK (rdL b fm) k ++ (rsK b fm k).hl ∧ b.drop (32 * fm.length) = behK (rdL b fm) k ++ (rsK b fm k).tl ∧ (rsK b fm k).pl = atF (rdL b fm) k ∧ ∀ j, j < k → rightP (pt (rdL b fm) j) = true ∧ (pt (rdL b fm) j).wd < M256 ∧ (pt (rdL b fm) j).lg = fm.getD j false := by
  induction k with
  | zero =>
    rw [rsK_zero, hdK_zero, behK_zero, atF_zero, rdL_len]
    exact ⟨rfl, rfl, rfl, fun j hj => by omega⟩
  | succ k ih =>
    have hlt : k < fm.length := by omega
    have hpt := rdL_pt (b := b) hlt
    cases hg : fm.getD k false with
    | false =>
      rw [rsK_short hg] at h1 h2 ⊢
      obtain ⟨t1, t2, t3⟩ := tk_not (show tkBad (rsK b fm k).hb (rsK b fm k).hl 32 = false from h1)
      obtain ⟨i1, i2, i3, i4⟩ := ih (by omega) t1 h2
      have hp : pt (rdL b fm) k = ⟨false, hd32 (rsK b fm k), .slice none 0 0, []⟩ := by rw [hpt, rdP, if_neg (by rw [hg]; simp)]; rfl
      have hlg : (pt (rdL b fm) k).lg = false := by rw [hp]
      have hhd : beb 32 (pt (rdL b fm) k).wd = (rsK b fm k).hl.take 32 := by
        rw [hp]; show beb 32 (bev (tkB _ _ 32)) = _
        rw [tkB_ok h1, beb_bev32 (by rw [List.length_take]; omega)]
      refine ⟨?_, by rw [behK_short hlg]; exact i2, by rw [atF_short hlg]; exact i3, fun j hj => ?_⟩
      · rw [hdK_short hlg, hhd, List.append_assoc, i1]
        show _ = _ ++ (_ ++ tkL _ _ 32)
        rw [tkL_ok h1, List.take_append_drop]
      · rcases Nat.lt_or_ge j k with hj2 | hj2
        · exact i4 j hj2
        · obtain rfl : j = k := by omega
          rw [hp]
          exact ⟨rfl, bev_m256 (tkB_len _ _ _), hg.symm⟩
    | true =>
      rw [rsK_long hg] at h1 h2 ⊢
      obtain ⟨s, hs⟩ : ∃ s, rsK b fm k = s := ⟨_, rfl⟩
      rw [hs] at h1 h2 ih ⊢
      cases hok : lgOk s with
      | false => rw [lgS, if_neg (by rw [hok]; simp)] at h1; cases h1
      | true =>
        rw [lgS, if_pos hok] at h1 h2 ⊢
        dsimp only at h1 h2 ⊢
        rw [Bool.or_eq_false_iff] at h1
        obtain ⟨h1, hz⟩ := h1
        obtain ⟨t1, t2, t3⟩ := tk_not h1
        have hB3 : tkBad (lgB2 s) (lgT2 s) (whl (lgN s) - lgN s) = false := h2
        obtain ⟨u1, u2, u3⟩ := tk_not hB3
        have hB2 : tkBad (lgB1 s) (lgT1 s) (lgN s) = false := u1
        obtain ⟨v1, v2, v3⟩ := tk_not hB2
        have hB1 : tkBad s.tb s.tl 32 = false := v1
        obtain ⟨w1, w2, w3⟩ := tk_not hB1
        obtain ⟨i1, i2, i3, i4⟩ := ih (by omega) t1 w1
        obtain ⟨o1, o2⟩ := of_decide_eq_true hok
        have hp : pt (rdL b fm) k = ⟨true, 0, .slice none 0 0, lgD s⟩ := by rw [hpt, rdP, if_pos hg, hs, lgR, if_pos hok]; rfl
        have hlg : (pt (rdL b fm) k).lg = true := by rw [hp]
        have hlD : (lgD s).length = lgN s := by rw [lgD, tkB_ok hB2, List.length_take]; omega
        have hhd : beb 32 (atF (rdL b fm) k) = s.hl.take 32 := by
          rw [← i3, ← o1, hd32, tkB_ok h1, beb_bev32 (by rw [List.length_take]; omega)]
        have hzz : lgP s = List.replicate (whl (lgN s) - lgN s) 0 := by
          have := nz_none hz
          rwa [show (lgP s).length = whl (lgN s) - lgN s by rw [lgP, tkB_ok hB3, List.length_take]; omega] at this
        refine ⟨?_, ?_, ?_, fun j hj => ?_⟩
        · rw [hdK_long hlg, hhd, List.append_assoc, tkL_ok h1, List.take_append_drop]; exact i1
        · rw [behK_long hlg, hp, List.append_assoc, i2]
          congr 1
          show s.tl = tlB (lgD s) ++ lgT3 s
          rw [tlB, hlD, ← hzz, List.append_assoc, List.append_assoc]
          rw [show beb 32 (lgN s) = s.tl.take 32 by rw [lgN, tkB_ok hB1, beb_bev32 (by rw [List.length_take]; omega)]]
          rw [lgP, lgT3, tkB_ok hB3, tkL_ok hB3, List.take_append_drop, lgD, lgT2, tkB_ok hB2, tkL_ok hB2, List.take_append_drop, lgT1, tkL_ok hB1, List.take_append_drop]
        · rw [atF_long hlg, hp, i3]
          show _ + (32 + whl (lgN s)) = _ + (32 + whl (lgD s).length)
          rw [hlD]
        · rcases Nat.lt_or_ge j k with hj2 | hj2
          · exact i4 j hj2
          · obtain rfl : j = k := by omega
            rw [hp]
            refine ⟨?_, by show 0 < M256; decide, hg.symm⟩
            rw [rightP_long rfl]
            show (decide (0 = 0) && decide ((lgD s).length ≤ 200)) = true
            rw [hlD, decide_eq_true o2]; rfl
/-- What is read is laid. -/
theorem laid_read {b : List UInt8} {fm : List Bool} (h : rdE b fm = 0) : layF (rdL b fm) = b ∧ chkP (rdL b fm) = 0 ∧ fmP (rdL b fm) = fm ∧ ∀ p ∈ rdL b fm, p.wd < M256 := by
  unfold rdE at h
  split at h
  · cases h
  · split at h
    · cases h
    · split at h
      · cases h
      · rename_i h16 hlen hbad
        simp only [Bool.not_eq_true, rsBad, Bool.or_eq_false_iff, decide_eq_false_iff_not, Nat.not_lt, Nat.le_zero] at hbad
        obtain ⟨⟨b1, b2⟩, b3⟩ := hbad
        obtain ⟨i1, i2, i3, i4⟩ := rs_read fm.length (Nat.le_refl _) b1 b2
        have hl := rdL_len b fm
        have e : (rsK b fm fm.length).tl = [] := List.length_eq_zero_iff.1 b3
        rw [e, List.append_nil] at i2
        have e2 : (rsK b fm fm.length).hl = [] := by
          have := congrArg List.length i1
          rw [List.length_append, hdK_len, List.length_take] at this
          exact List.length_eq_zero_iff.1 (by omega)
        rw [e2, List.append_nil] at i1
        refine ⟨by rw [layF, hl, ← i1, ← i2, List.take_append_drop], ?_, ?_, ?_⟩
        · have hok : okP (rdL b fm) = true := (ok_iff _).2 fun j hj => by
            have := (i4 j (by rw [hl] at hj; exact hj)).1
            rwa [pt_eq hj] at this
          rw [chkP, if_neg (by omega), hok]; rfl
        · refine List.ext_getElem (by simp [fmP, hl]) fun j g1 g2 => ?_
          have := (i4 j g2).2.2
          rw [pt_eq (by rw [hl]; exact g2)] at this
          simpa [fmP, g2] using this
        · intro p hp
          obtain ⟨j, hj, rfl⟩ := List.getElem_of_mem hp
          have := (i4 j (by rw [hl] at hj; exact hj)).2.1
          rwa [pt_eq hj] at this
end Go.Proofs.Ytailnglojnccnaa

/-
  A SMALL LOGIC OVER THE KIT's WALK, PART MK: cuts with two bounds.
  Conditions: none; over any program.
-/
namespace Go.Proofs.Ytailnglojnccnaa
open Go Go.RowKit
namespace SL
section cut
variable {P : Program} {e : Env} {T E : TypeId} {x lo hi : Operand} {p : Option Addr} {n c : Nat}
/-- x[i:j] -/
theorem ValP.cutMid {il ik : IntKind} {i j sz : Nat} {z : Value} (hU : UnI P T (.slice E)) (hI : InfoI P E sz z) (hx : e.ev x = some (.slice p n c)) (hl : e.ev lo = some (.int il (i : Int))) (hh : e.ev hi = some (.int ik (j : Int))) (hij : i ≤ j) (hj : j ≤ c) : ValP P e [] (.slice T x (some lo) (some hi) none) (cutAt p i j c sz) := fun ρ w hρ _ d t pos af g => by
  have hu : P.underlying T = some (.slice E) := hU.un
  have h1 := run_slice_lh (P := P) w T p n c (elem_un hu) il ik (i : Int) (j : Int) (by omega) (by omega) (by omega)
  rw [elem_eq hu, run_size] at h1
  have h2 : (Instr.sliceAt T (.slice p n c) (some (.int il (i : Int))) (some (.int ik (j : Int))) none).run P w = .ok (cutAt p i j c sz) w := by
    rw [run_sliceAt_slice (w := w) T _ _ _ _ (elem_un hu), h1]
    simp only [Result.andThen_ok, sliced, Int.toNat_natCast, cutAt]
  simp [execOp, hρ x _ hx, hρ lo _ hl, hρ hi _ hh, h2]
end cut
theorem RowAt.mid {w : World} {sz n c i j : Nat} {p : Option Addr} {xs : List Value} (h : RowAt w sz (.slice p n c) n xs) (hij : i ≤ j) (hj : j ≤ n) : RowAt w sz (cutAt p i j c sz) (j - i) ((xs.drop (i * sz)).take ((j - i) * sz)) := by
  have := (h.take hj).drop hij
  rwa [List.drop_take, ← Nat.sub_mul] at this
theorem RowAt.midU {w : World} {c i j : Nat} {p : Option Addr} {l : List UInt8} (h : RowAt w 1 (.slice p l.length c) l.length (ucs l)) (hij : i ≤ j) (hj : j ≤ l.length) : RowAt w 1 (cutAt p i j c 1) ((l.drop i).take (j - i)).length (ucs ((l.drop i).take (j - i))) := by
  have := h.mid hij hj
  rw [ucs_drop, ucs_take] at this
  rwa [show ((l.drop i).take (j - i)).length = j - i by rw [List.length_take, List.length_drop]; omega]
section xb
variable {P : Program} {e : Env} {T ty : TypeId} {x y : Operand} {m n : Nat}
theorem ValP.xorBL (hx : e.ev x = some (.int .u8 (m : Int))) (hy : e.ev y = some (.int .u8 (OfNat.ofNat n))) (_ : n = n) (hm : m < 256) (hn : (OfNat.ofNat n : Nat) < 256) : ValP P e [] (.binOp .xor T x y ty) (.int .u8 ((m ^^^ (OfNat.ofNat n : Nat) : Nat) : Int)) :=
  .bin hx hy (fun w => guard_int w) fun w => by
    have h : m ^^^ (OfNat.ofNat n : Nat) < 256 := Nat.xor_lt_two_pow (n := 8) hm hn
    have hb : bits .xor .u8 (m : Int) ((OfNat.ofNat n : Nat) : Int) = ((m ^^^ (OfNat.ofNat n : Nat) : Nat) : Int) := by
      show IntKind.u8.wrap (((BitVec.ofInt 8 (m : Int) ^^^ BitVec.ofInt 8 ((OfNat.ofNat n : Nat) : Int)).toNat : Nat) : Int) = _
      rw [BitVec.toNat_xor, ofInt8 m hm, ofInt8 _ hn, wrapB]
      omega
    rw [binOp_xor, intBits_xor]
    exact congrArg (fun z => (Result.ok (Value.int .u8 z) w)) hb
theorem ValP.xorB (hx : e.ev x = some (.int .u8 (m : Int))) (hy : e.ev y = some (.int .u8 (n : Int))) (hm : m < 256) (hn : n < 256) : ValP P e [] (.binOp .xor T x y ty) (.int .u8 ((m ^^^ n : Nat) : Int)) :=
  .bin hx hy (fun w => guard_int w) fun w => by
    have h : m ^^^ n < 256 := Nat.xor_lt_two_pow (n := 8) hm hn
    have hb : bits .xor .u8 (m : Int) (n : Int) = ((m ^^^ n : Nat) : Int) := by
      show IntKind.u8.wrap (((BitVec.ofInt 8 (m : Int) ^^^ BitVec.ofInt 8 (n : Int)).toNat : Nat) : Int) = _
      rw [BitVec.toNat_xor, ofInt8 m hm, ofInt8 n hn, wrapB]
      omega
    rw [binOp_xor, intBits_xor, hb]; rfl
theorem ValP.shlB {s : Nat} {ik : IntKind} (hx : e.ev x = some (.int .u8 (m : Int))) (hy : e.ev y = some (.int ik (s : Int))) (hs : s ≤ 8) : ValP P e [] (.binOp .shl T x y ty) (.int .u8 ((m * 2 ^ s % 256 : Nat) : Int)) :=
  .bin hx hy (fun w => guard_int w) fun w => by
    rw [binOp_shl, shift_shl .u8 ik _ _ (by omega) (by simp [IntKind.bits]; omega), wrapB]
    simp
theorem ValP.shlBK {s : Nat} {ik : IntKind} (hx : e.ev x = some (.int .u8 (OfNat.ofNat m))) (hy : e.ev y = some (.int ik (s : Int))) (_ : m = m) (hs : s ≤ 8) : ValP P e [] (.binOp .shl T x y ty) (.int .u8 (((OfNat.ofNat m : Nat) * 2 ^ s % 256 : Nat) : Int)) := .shlB (m := OfNat.ofNat m) hx hy hs
end xb
end SL
end Go.Proofs.Ytailnglojnccnaa

/-
  The document's parts of bytes.
  Conditions: none.
-/
namespace Go.Proofs.Ytailnglojnccnaa
open Go Go.RowKit SL
set_option maxRecDepth 8000
set_option maxHeartbeats 4000000
set_option linter.unusedSimpArgs false
set_option linter.unusedVariables false
attribute [local irreducible] SL.CW SL.LW SL.DW Calls SL.Ret SL.RetG SL.beginQ SL.roundQ SL.rangeQ SL.inQ SL.RW SL.AnyW SL.thenQ SL.thenC SL.thenW SL.blkQ SL.finQ SL.ValP SL.NewP SL.SetP SL.CallP SL.Rd SL.Wr SL.Known
theorem take_beb (a : Nat) (X : List UInt8) : (beb 32 a ++ X).take 32 = beb 32 a := by
  have := List.take_left (l₁ := beb 32 a) (l₂ := X)
  rwa [beb_len] at this
theorem drop_beb (a : Nat) (X : List UInt8) : (beb 32 a ++ X).drop 32 = X := by
  have := List.drop_left (l₁ := beb 32 a) (l₂ := X)
  rwa [beb_len] at this
/-- Parts of this form whose bytes these are. -/
structure Cand (b : List UInt8) (fm : List Bool) (l : List PartV) : Prop where
  form : fmP l = fm
  ok : chkP l = 0
  lay : layF l = b
  small : ∀ p ∈ l, p.wd < M256
theorem cand_rd {b : List UInt8} {fm : List Bool} (h : rdE b fm = 0) : Cand b fm (rdL b fm) := by
  obtain ⟨h1, h2, h3, h4⟩ := laid_read h
  exact ⟨h3, h2, h1, h4⟩
theorem Cand.read {b : List UInt8} {fm : List Bool} {l : List PartV} (h : Cand b fm l) : rdE b fm = 0 ∧ rdK b fm fm.length = l.map dat := by
  have := read_laid h.ok h.small
  rwa [h.lay, h.form] at this
theorem Cand.len {b : List UInt8} {fm : List Bool} {l : List PartV} (h : Cand b fm l) : l.length = fm.length := by rw [← h.form]; simp [fmP]
theorem Cand.right {b : List UInt8} {fm : List Bool} {l : List PartV} (h : Cand b fm l) {k : Nat} (hk : k < l.length) : rightP (pt l k) = true := by
  have hc := h.ok
  rw [pt_eq hk]
  refine (ok_iff l).1 ?_ k hk
  unfold chkP at hc
  split at hc
  · cases hc
  · split at hc
    · assumption
    · cases hc
theorem Cand.blen {b : List UInt8} {fm : List Bool} {l : List PartV} (h : Cand b fm l) : b.length = atF l l.length := by rw [← h.lay, layF_len]
theorem cand_split {b : List UInt8} {fm : List Bool} {l : List PartV} (h : Cand b fm l) {k : Nat} (hk : k < l.length) :
    ∃ hr tr, b = hdK l (k + 1) ++ hr ∧ b.drop (32 * l.length) = behK l (k + 1) ++ tr := by
  obtain ⟨hr, h1⟩ := hd_pre l (k + 1) (l.length - (k + 1))
  obtain ⟨tr, h2⟩ := beh_pre l (k + 1) (l.length - (k + 1))
  rw [show k + 1 + (l.length - (k + 1)) = l.length by omega] at h1 h2
  refine ⟨hr ++ behK l l.length, tr, ?_, ?_⟩
  · rw [← h.lay, layF, h1, List.append_assoc]
  · rw [← h.lay, layF, ← hdK_len l l.length, List.drop_left, h2]
theorem cand_head {b : List UInt8} {fm : List Bool} {l : List PartV} (h : Cand b fm l) {k : Nat} (hk : k < l.length) :
    bev ((b.drop (32 * k)).take 32) = if (pt l k).lg then atF l k else (pt l k).wd := by
  obtain ⟨hr, tr, h1, -⟩ := cand_split h hk
  have hwd : (pt l k).wd < M256 := by rw [pt_eq hk]; exact h.small _ (List.getElem_mem hk)
  have hsm := right_small h.ok
  have hbl := beh_len hsm k
  have hat : atF l k < M256 := by unfold atF; simp only [M256]; have := hsm.1; omega
  cases hlg : (pt l k).lg with
  | true =>
    rw [hdK_long hlg, List.append_assoc] at h1
    rw [h1, ← hdK_len l k, List.drop_left, take_beb, bev_back _ hat]; rfl
  | false =>
    rw [hdK_short hlg, List.append_assoc] at h1
    rw [h1, ← hdK_len l k, List.drop_left, take_beb, bev_back _ hwd]; rfl
theorem cand_short {b : List UInt8} {fm : List Bool} {l : List PartV} (h : Cand b fm l) {k : Nat} (hk : k < l.length) (hlg : (pt l k).lg = false) :
    dat (pt l k) = (false, bev ((b.drop (32 * k)).take 32), []) := by
  have hr := h.right hk
  rw [rightP_short hlg] at hr
  rw [cand_head h hk, hlg, dat, hlg, List.length_eq_zero_iff.1 (of_decide_eq_true hr)]; rfl
theorem cand_long {b : List UInt8} {fm : List Bool} {l : List PartV} (h : Cand b fm l) {k : Nat} (hk : k < l.length) (hlg : (pt l k).lg = true) :
    bev ((b.drop (32 * k)).take 32) = atF l k ∧ atF l k + 32 ≤ b.length ∧ bev ((b.drop (atF l k)).take 32) = (pt l k).db.length ∧ (pt l k).db.length ≤ 200 ∧ atF l k + 32 + (pt l k).db.length ≤ b.length ∧
      dat (pt l k) = (true, 0, (b.drop (atF l k + 32)).take (pt l k).db.length) := by
  obtain ⟨hr, tr, -, h2⟩ := cand_split h hk
  have hsm := right_small h.ok
  have hd := hsm.2 k
  have hrt := h.right hk
  rw [rightP_long hlg] at hrt
  simp only [Bool.and_eq_true, decide_eq_true_eq] at hrt
  have hwl := whl_le (pt l k).db.length
  have hbl : (b.drop (32 * l.length)).length = _ := congrArg List.length h2
  rw [List.length_drop, List.length_append, behK_long hlg, List.length_append, tlB_len] at hbl
  have hge : 32 * l.length ≤ b.length := by rw [h.blen, atF]; omega
  have hdr : b.drop (atF l k) = tlB (pt l k).db ++ tr := by
    rw [atF, ← List.drop_drop, h2, behK_long hlg, List.append_assoc, List.drop_left]
  have hat : atF l k = 32 * l.length + (behK l k).length := rfl
  refine ⟨by rw [cand_head h hk, hlg]; rfl, by omega, ?_, hd, by omega, ?_⟩
  · rw [hdr, tlB, List.append_assoc]
    rw [take_beb, bev_back _ (by simp only [M256]; omega)]
  · rw [← List.drop_drop, hdr, tlB, List.append_assoc, List.append_assoc]
    rw [drop_beb, List.take_left, dat, hlg, hrt.1]
theorem Cand.lg {b : List UInt8} {fm : List Bool} {l : List PartV} (h : Cand b fm l) (k : Nat) : (pt l k).lg = fm.getD k false := by rw [← h.form, fm_get]
theorem Cand.take {b : List UInt8} {fm : List Bool} {l : List PartV} (h : Cand b fm l) {k : Nat} (hk : k < fm.length) : (l.take (k + 1)).map dat = (l.take k).map dat ++ [dat (pt l k)] := by
  have hk' : k < l.length := by rw [h.len]; exact hk
  rw [List.take_succ_eq_append_getElem hk', List.map_append, pt_eq hk']; rfl
structure VX where
  k : Nat
  ov : Value
  segO : Fs
  ps : List PartV
  gsD : Fs
  pl : Nat
/-- What the document's Read hands back. -/
def RReadR (b : List UInt8) (fm : List Bool) (v : Value) (gs : Fs) : Prop :=
  ∃ ov, v = .tuple #[ov, .bool (decide (rdE b fm = 0))] ∧ (rdE b fm = 0 → ∃ ps, ps.map dat = rdK b fm fm.length ∧ PartsGs ps ov gs) ∧ (rdE b fm ≠ 0 → ov = .slice none 0 0)
theorem rReadL_calls (b : List UInt8) (fm : List Bool) (bv fv : Value) (w : World) (hb : RowAt w 1 bv b.length (ucs b)) (hf : RowAt w 1 fv fm.length (bls fm)) (h16 : fm.length ≤ 16) (hbl : b.length ≤ 100000) :
    Calls Try.prog 11 #[bv, fv] w (RetG w [] (RReadR b fm)) := by
  obtain ⟨p, c, rfl, hc, hm⟩ := hb.form
  obtain ⟨q, d, rfl, hd, hn⟩ := hf.form
  simp only [maxLen] at hm hn
  rcases Nat.lt_or_ge b.length (32 * fm.length) with hlen | hlen
  · have hE : rdE b fm ≠ 0 := by rw [rdE, if_neg (by omega), if_pos hlen]; decide
    refine enter (args := [_, _]) _ [] [] Try.func11 rfl Try.ntmps11 rfl (by simp) .nil ?_
    (refine CW.seq ?_; refine CW.region ?_; apply LW.v0; rfl; rfl; apply ValP.assign; rfl; apply LW.v0; rfl; rfl; apply ValP.assign; rfl; apply LW.nil; refine thenN ?_; refine CW.seq ?_; refine CW.seq ?_; refine CW.region ?_; apply LW.v0; rfl; rfl; apply ValP.move; rfl; apply LW.v0; rfl; rfl; apply ValP.lenR; rfl; infer_instance; rfl; apply LW.v0; rfl; rfl; apply ValP.move; rfl; apply LW.v0; rfl; rfl; apply ValP.lenR; rfl; infer_instance; rfl; apply LW.v0; rfl; rfl; apply ValP.mulZK; rfl; rfl; decide; omega; apply LW.v0; rfl; rfl; apply ValP.lssT; rfl; rfl; omega; apply LW.nil; refine thenN ?_; apply CW.condT; rfl; (with_reducible rfl); refine CW.seq ?_; refine CW.region ?_; apply LW.v0; rfl; rfl; apply ValP.assign; rfl; apply LW.v0; rfl; rfl; apply ValP.assign; rfl; apply LW.nil; refine thenN ?_; refine CW.ret ?_; refine thenR ?_)
    refine fin (vs := [.slice none 0 0, .bool false]) [] (.inl rfl) rfl rfl (by (apply ResL.cons; exact Res.tmp rfl; apply ResL.cons; exact Res.tmp rfl; exact ResL.nil)) (List.nil_sublist _) ⟨.slice none 0 0, ?_, fun h => absurd h hE, fun _ => rfl⟩
    rw [decide_eq_false hE]; rfl
  · refine enter (args := [_, _]) _ [] [] Try.func11 rfl Try.ntmps11 rfl (by simp) .nil ?_
    (refine CW.seq ?_; refine CW.region ?_; apply LW.v0; rfl; rfl; apply ValP.assign; rfl; apply LW.v0; rfl; rfl; apply ValP.assign; rfl; apply LW.nil; refine thenN ?_; refine CW.seq ?_; refine CW.seq ?_; refine CW.region ?_; apply LW.v0; rfl; rfl; apply ValP.move; rfl; apply LW.v0; rfl; rfl; apply ValP.lenR; rfl; infer_instance; rfl; apply LW.v0; rfl; rfl; apply ValP.move; rfl; apply LW.v0; rfl; rfl; apply ValP.lenR; rfl; infer_instance; rfl; apply LW.v0; rfl; rfl; apply ValP.mulZK; rfl; rfl; decide; omega; apply LW.v0; rfl; rfl; apply ValP.lssF; rfl; rfl; omega; apply LW.nil; refine thenN ?_; apply CW.condF; rfl; (with_reducible rfl); refine CW.skip ?_; refine thenN ?_; refine CW.seq ?_; refine CW.region ?_; apply LW.v0; rfl; rfl; apply ValP.assign; rfl; apply LW.nil; refine thenN ?_; refine CW.seq ?_; refine CW.region ?_; apply LW.v0; rfl; rfl; apply ValP.move; rfl; apply LW.v0; rfl; rfl; apply ValP.lenR; rfl; infer_instance; rfl; apply LW.v0; rfl; rfl; apply ValP.mulZK; rfl; rfl; decide; omega; apply LW.v0; rfl; rfl; apply ValP.assign; rfl; apply LW.nil; refine thenN ?_; refine CW.seq ?_; refine CW.seq ?_; refine CW.region ?_; apply LW.v0; rfl; rfl; apply ValP.move; rfl; apply LW.v0; rfl; rfl; apply ValP.lenR; rfl; infer_instance; rfl; apply LW.v0; rfl; rfl; apply ValP.move; rfl; apply LW.nil; refine thenN ?_; refine CW.block ?_)
    refine CW.loop (fun x : VX => ([(23, .int .i64 (x.k : Int)), (22, .int .i64 (fm.length : Int)), (21, .slice q fm.length d), (7, .int .i64 (x.pl : Int)), (6, x.ov), (0, .slice p b.length c), (1, .slice q fm.length d)], x.gsD ++ (x.segO ++ [])))
      (fun x => x.k ≤ fm.length ∧ IsRow 39 6 x.ov x.k (x.ps.flatMap psc) x.segO ∧ DatAt x.gsD x.ps ∧ (∀ p ∈ x.ps, p.wd < M256 ∧ rightP p = true) ∧ fmP x.ps = fm.take x.k ∧ x.pl ≤ 32 * fm.length + 300 * x.k ∧ (∀ l0, Cand b fm l0 → x.ps.map dat = (l0.take x.k).map dat ∧ x.pl = atF l0 x.k))
      (fun x => fm.length - x.k) ⟨0, .slice none 0 0, [], [], [], 32 * fm.length⟩
      ⟨Nat.zero_le _, .nil, DatAt.nil, (fun _ h => by cases h), rfl, Nat.le_refl _, fun l0 h => ⟨rfl, by rw [atF_zero, h.len]⟩⟩ ⟨rfl, rfl, rfl, rfl, rfl, rfl, rfl, trivial⟩ (List.Sublist.refl _) ?_
    rintro ⟨k, ov, segO, ps, gsD, pl⟩ ⟨hk, hO, hD, hps, hfm, hpl, hcand⟩
    dsimp only at hk hO hD hps hfm hpl hcand ⊢
    obtain ⟨po, co, rfl⟩ := hO.form
    have hlk : ps.length = k := by have := congrArg List.length hfm; rw [fmP, List.length_map, List.length_take] at this; omega
    rcases Nat.lt_or_ge k fm.length with hlt | hge
    · obtain ⟨b0, off, c', cs, E, fr, heq, hb0, hx⟩ := hf.pos (by omega)
      cases heq
      have hgd : fm.getD k false = fm[k] := by simp [hlt]
      have hrd : Rd Try.prog 4 (.cells cs E fr) (off + k * 1) (.bool fm[k]) := Rd.elem1 hx (bls_one fm) (List.getElem?_eq_getElem hlt) rfl
      have hm1 := hb.midU (i := 32 * k) (j := 32 * k + 32) (by omega) (by omega)
      rw [show 32 * k + 32 - 32 * k = 32 by omega] at hm1
      have hH := bev_m256 (l := (b.drop (32 * k)).take 32) (by rw [List.length_take]; omega)
      have hRd : ∀ w' {fs}, St w [] fs w' → Calls Try.prog 26 #[cutAt p (32 * k) (32 * k + 32) c 1] w' (Ret w' (wv (bev ((b.drop (32 * k)).take 32)))) := fun w' fs hst => rRead_calls _ _ w' (hm1.st hst) (by rw [List.length_take]; omega)
      obtain ⟨H, hHd⟩ : ∃ H, bev ((b.drop (32 * k)).take 32) = H := ⟨_, rfl⟩
      rw [hHd] at hRd hH
      have htf : fm.take (k + 1) = fm.take k ++ [fm[k]] := List.take_succ_eq_append_getElem hlt
      cases hfk : fm[k] with
      | false =>
        rw [hfk] at hrd hgd htf
        (refine CW.seq ?_; refine CW.region ?_; apply LW.v0; rfl; rfl; apply ValP.lssT; rfl; rfl; omega; apply LW.nil; refine thenN ?_; refine CW.seq ?_; apply CW.condT; rfl; (with_reducible rfl); refine CW.skip ?_; refine thenN ?_; refine CW.seq ?_; refine CW.block ?_; refine CW.seq ?_; refine CW.region ?_; apply LW.v0; rfl; rfl; apply ValP.move; rfl; apply LW.v0; rfl; rfl; apply ValP.indexAddrS; rfl; rfl; rfl; omega; apply LW.load; rfl; rfl; exact Known.ext (by assumption) (by simp); assumption; apply LW.v0; rfl; rfl; apply ValP.assign; rfl; apply LW.v0; rfl; rfl; apply ValP.assign; rfl; apply LW.nil; refine thenN ?_; refine CW.seq ?_; refine CW.region ?_; apply LW.v0; rfl; rfl; apply ValP.move; rfl; apply LW.v0; rfl; rfl; apply ValP.move; rfl; apply LW.v0; rfl; rfl; apply ValP.mulZK; rfl; rfl; decide; omega; apply LW.v0; rfl; rfl; apply ValP.move; rfl; apply LW.v0; rfl; rfl; apply ValP.mulZK; rfl; rfl; decide; omega; apply LW.v0; rfl; rfl; apply ValP.addZL; rfl; rfl; decide; omega; apply LW.v0; rfl; rfl; apply ValP.cutMid; infer_instance; infer_instance; rfl; rfl; rfl; omega; omega; apply LW.callE; rfl; rfl; infer_instance; apply ArgsOk.cons; rfl; exact ArgsOk.nil; intro w _; exact hRd w (by assumption); apply LW.allocW; rfl; intro _; apply LW.store; rfl; rfl; apply SetAt.head; apply Wr.whole; rfl; rfl; rfl; apply LW.nil; refine thenN ?_; refine CW.seq ?_; refine CW.seq ?_; refine CW.region ?_; apply LW.v0; rfl; rfl; apply ValP.move; rfl; apply LW.v0; rfl; rfl; apply ValP.notF; rfl; (with_reducible rfl); apply LW.nil; refine thenN ?_; apply CW.condT; rfl; (with_reducible rfl); refine CW.seq ?_; refine CW.region ?_; apply LW.v0; rfl; rfl; apply ValP.move; rfl; apply LW.load; rfl; rfl; apply Known.at; apply FsAt.head; exact Rd.whole rfl; apply LW.v0; rfl; rfl; apply ValP.buildT; infer_instance; infer_instance; apply PartsOk.cons; rfl; exact PartsOk.nil; rfl; simp only [fillP, wrCells, Value.cells, List.getElem?_cons_zero, List.getElem?_cons_succ, List.toList_toArray, List.setIfInBounds_toArray, List.set_cons_succ, List.set_cons_zero, Nat.reduceAdd, Nat.zero_add]; rfl; apply LW.layA; rfl; infer_instance; infer_instance; rfl; rfl; rfl; rfl; rfl; intro _)
        refine LW.append (n := k) (m := 1) (news := psc (ofP H)) rfl rfl inferInstance inferInstance inferInstance rfl rfl rfl (by (apply AtSeg.cons; apply AtSeg.cons; apply AtSeg.app; exact AtSeg.head)) hO (by (apply Known.at; apply FsAt.head)) rfl rfl (psc_one rfl) (by omega) (by simp only [maxLen]; omega) (by omega) ?_
        intro ov' segO' hO'
        refine ⟨_, (by (apply AtSeg.cons; apply AtSeg.cons; apply AtSeg.app; exact AtSeg.head)), ?_⟩
        (apply LW.v0; rfl; rfl; apply ValP.assign; rfl; apply LW.nil; refine thenN ?_; refine CW.exit ?_; refine thenE ?_; refine blkE rfl ?_; refine thenN ?_; refine CW.region ?_; apply LW.v0; rfl; rfl; apply ValP.addZL; rfl; rfl; decide; omega; apply LW.v0; rfl; rfl; apply ValP.move; rfl; apply LW.nil)
        apply thenX
        refine ⟨rfl, ⟨k + 1, ov', segO', ps ++ [ofP H], gsD, pl⟩, ⟨hlt, ?_, ?_, ?_, ?_, ?_, ?_⟩, by show fm.length - (k + 1) < fm.length - k; omega, ⟨rfl, rfl, rfl, rfl, rfl, rfl, rfl, trivial⟩, ?_⟩
        · dsimp only; rw [flat_snoc]; exact hO'
        · exact hD.app (hs := []) (qs := [ofP H]) (fun w' _ q hq => by
            obtain rfl : q = ofP H := by simpa using hq
            exact RowAt.nil)
        · intro p hp
          rcases List.mem_append.1 hp with hp | hp
          · exact hps p hp
          · obtain rfl : p = ofP H := by simpa using hp
            exact ⟨hH, rfl⟩
        · dsimp only; rw [htf, ← hfm, fmP, List.map_append]; rfl
        · dsimp only; omega
        · intro l0 h0
          obtain ⟨c1, c2⟩ := hcand l0 h0
          have hlg := (h0.lg k).trans hgd
          dsimp only
          rw [List.map_append, c1, h0.take hlt, cand_short h0 (by rw [h0.len]; exact hlt) hlg, hHd]
          exact ⟨rfl, by rw [atF_short hlg]; exact c2⟩
        · dsimp only; (apply List.Sublist.cons; apply List.Sublist.cons; exact List.Sublist.refl _)
      | true =>
        rw [hfk] at hrd hgd htf
        by_cases hHp : H = pl
        · rcases Nat.lt_or_ge b.length (pl + 32) with hbp | hbp
          · have hE : rdE b fm ≠ 0 := fun h => by
              have hc := cand_rd h
              have hk' : k < (rdL b fm).length := by rw [hc.len]; exact hlt
              have h1 := cand_long hc hk' ((hc.lg k).trans hgd)
              have h2 := (hcand _ hc).2
              omega
            have hpM : pl < M256 := by simp only [M256]; omega
            (refine CW.seq ?_; refine CW.region ?_; apply LW.v0; rfl; rfl; apply ValP.lssT; rfl; rfl; omega; apply LW.nil; refine thenN ?_; refine CW.seq ?_; apply CW.condT; rfl; (with_reducible rfl); refine CW.skip ?_; refine thenN ?_; refine CW.seq ?_; refine CW.block ?_; refine CW.seq ?_; refine CW.region ?_; apply LW.v0; rfl; rfl; apply ValP.move; rfl; apply LW.v0; rfl; rfl; apply ValP.indexAddrS; rfl; rfl; rfl; omega; apply LW.load; rfl; rfl; exact Known.ext (by assumption) (by simp); assumption; apply LW.v0; rfl; rfl; apply ValP.assign; rfl; apply LW.v0; rfl; rfl; apply ValP.assign; rfl; apply LW.nil; refine thenN ?_; refine CW.seq ?_; refine CW.region ?_; apply LW.v0; rfl; rfl; apply ValP.move; rfl; apply LW.v0; rfl; rfl; apply ValP.move; rfl; apply LW.v0; rfl; rfl; apply ValP.mulZK; rfl; rfl; decide; omega; apply LW.v0; rfl; rfl; apply ValP.move; rfl; apply LW.v0; rfl; rfl; apply ValP.mulZK; rfl; rfl; decide; omega; apply LW.v0; rfl; rfl; apply ValP.addZL; rfl; rfl; decide; omega; apply LW.v0; rfl; rfl; apply ValP.cutMid; infer_instance; infer_instance; rfl; rfl; rfl; omega; omega; apply LW.callE; rfl; rfl; infer_instance; apply ArgsOk.cons; rfl; exact ArgsOk.nil; intro w _; exact hRd w (by assumption); apply LW.allocW; rfl; intro _; apply LW.store; rfl; rfl; apply SetAt.head; apply Wr.whole; rfl; rfl; rfl; apply LW.nil; refine thenN ?_; refine CW.seq ?_; refine CW.seq ?_; refine CW.region ?_; apply LW.v0; rfl; rfl; apply ValP.move; rfl; apply LW.v0; rfl; rfl; apply ValP.notT; rfl; (with_reducible rfl); apply LW.nil; refine thenN ?_; apply CW.condF; rfl; (with_reducible rfl); refine CW.skip ?_; refine thenN ?_; refine CW.seq ?_; refine CW.seq ?_; refine CW.region ?_; apply LW.load; rfl; rfl; apply Known.at; apply FsAt.head; exact Rd.whole rfl; apply LW.v0; rfl; rfl; apply ValP.move; rfl; apply LW.v0; rfl; rfl; apply ValP.convN; rfl; omega; omega; apply LW.v0; rfl; rfl; apply ValP.buildW1; rfl; omega; apply LW.v0; rfl; rfl; apply ValP.neWF; rfl; rfl; assumption; apply LW.v0; rfl; rfl; apply ValP.move; rfl; apply LW.guardT'; rfl; rfl; (with_reducible rfl); apply LW.v0; rfl; rfl; apply ValP.move; rfl; apply LW.guardT'; rfl; rfl; (with_reducible rfl); apply LW.v0; rfl; rfl; apply ValP.lenR; rfl; infer_instance; rfl; apply LW.guardT'; rfl; rfl; (with_reducible rfl); apply LW.v0; rfl; rfl; apply ValP.move; rfl; apply LW.guardT'; rfl; rfl; (with_reducible rfl); apply LW.v0; rfl; rfl; apply ValP.addZL; rfl; rfl; decide; omega; apply LW.guardT'; rfl; rfl; (with_reducible rfl); apply LW.v0; rfl; rfl; apply ValP.lssT; rfl; rfl; omega; apply LW.v0; rfl; rfl; apply ValP.pickF'; rfl; (with_reducible rfl); rfl; apply LW.nil; refine thenN ?_; apply CW.condT; rfl; (with_reducible rfl); refine CW.seq ?_; refine CW.region ?_; apply LW.v0; rfl; rfl; apply ValP.assign; rfl; apply LW.v0; rfl; rfl; apply ValP.assign; rfl; apply LW.nil; refine thenN ?_; refine CW.ret ?_; refine thenR ?_; refine blkR ?_; refine thenR ?_; refine thenR ?_; refine blkR ?_; refine thenR ?_)
            refine fin (vs := [.slice none 0 0, .bool false]) [] (.inl rfl) rfl rfl (by (apply ResL.cons; exact Res.tmp rfl; apply ResL.cons; exact Res.tmp rfl; exact ResL.nil)) (List.nil_sublist _) ⟨.slice none 0 0, ?_, fun h => absurd h hE, fun _ => rfl⟩
            rw [decide_eq_false hE]; rfl
          · have hm2 := hb.midU (i := pl) (j := pl + 32) (by omega) (by omega)
            rw [show pl + 32 - pl = 32 by omega] at hm2
            have hN := bev_m256 (l := (b.drop pl).take 32) (by rw [List.length_take]; omega)
            have hRd2 : ∀ w' {fs}, St w [] fs w' → Calls Try.prog 26 #[cutAt p pl (pl + 32) c 1] w' (Ret w' (wv (bev ((b.drop pl).take 32)))) := fun w' fs hst => rRead_calls _ _ w' (hm2.st hst) (by rw [List.length_take]; omega)
            obtain ⟨N, hNd⟩ : ∃ N, bev ((b.drop pl).take 32) = N := ⟨_, rfl⟩
            rw [hNd] at hRd2 hN
            have hpM : pl < M256 := by simp only [M256]; omega
            have hCm0 := prCmp_calls N 200 hN (by decide)
            rcases Nat.lt_or_ge 200 N with hN2 | hN2
            · rw [if_neg (by omega), if_pos hN2] at hCm0
              have hCm := hCm0
              have hE : rdE b fm ≠ 0 := fun h => by
                have hc := cand_rd h
                have hk' : k < (rdL b fm).length := by rw [hc.len]; exact hlt
                obtain ⟨-, -, h3, h4, -⟩ := cand_long hc hk' ((hc.lg k).trans hgd)
                have h2 := (hcand _ hc).2
                rw [← h2, hNd] at h3
                omega
              (refine CW.seq ?_; refine CW.region ?_; apply LW.v0; rfl; rfl; apply ValP.lssT; rfl; rfl; omega; apply LW.nil; refine thenN ?_; refine CW.seq ?_; apply CW.condT; rfl; (with_reducible rfl); refine CW.skip ?_; refine thenN ?_; refine CW.seq ?_; refine CW.block ?_; refine CW.seq ?_; refine CW.region ?_; apply LW.v0; rfl; rfl; apply ValP.move; rfl; apply LW.v0; rfl; rfl; apply ValP.indexAddrS; rfl; rfl; rfl; omega; apply LW.load; rfl; rfl; exact Known.ext (by assumption) (by simp); assumption; apply LW.v0; rfl; rfl; apply ValP.assign; rfl; apply LW.v0; rfl; rfl; apply ValP.assign; rfl; apply LW.nil; refine thenN ?_; refine CW.seq ?_; refine CW.region ?_; apply LW.v0; rfl; rfl; apply ValP.move; rfl; apply LW.v0; rfl; rfl; apply ValP.move; rfl; apply LW.v0; rfl; rfl; apply ValP.mulZK; rfl; rfl; decide; omega; apply LW.v0; rfl; rfl; apply ValP.move; rfl; apply LW.v0; rfl; rfl; apply ValP.mulZK; rfl; rfl; decide; omega; apply LW.v0; rfl; rfl; apply ValP.addZL; rfl; rfl; decide; omega; apply LW.v0; rfl; rfl; apply ValP.cutMid; infer_instance; infer_instance; rfl; rfl; rfl; omega; omega; apply LW.callE; rfl; rfl; infer_instance; apply ArgsOk.cons; rfl; exact ArgsOk.nil; intro w _; exact hRd w (by assumption); apply LW.allocW; rfl; intro _; apply LW.store; rfl; rfl; apply SetAt.head; apply Wr.whole; rfl; rfl; rfl; apply LW.nil; refine thenN ?_; refine CW.seq ?_; refine CW.seq ?_; refine CW.region ?_; apply LW.v0; rfl; rfl; apply ValP.move; rfl; apply LW.v0; rfl; rfl; apply ValP.notT; rfl; (with_reducible rfl); apply LW.nil; refine thenN ?_; apply CW.condF; rfl; (with_reducible rfl); refine CW.skip ?_; refine thenN ?_; refine CW.seq ?_; refine CW.seq ?_; refine CW.region ?_; apply LW.load; rfl; rfl; apply Known.at; apply FsAt.head; exact Rd.whole rfl; apply LW.v0; rfl; rfl; apply ValP.move; rfl; apply LW.v0; rfl; rfl; apply ValP.convN; rfl; omega; omega; apply LW.v0; rfl; rfl; apply ValP.buildW1; rfl; omega; apply LW.v0; rfl; rfl; apply ValP.neWF; rfl; rfl; assumption; apply LW.v0; rfl; rfl; apply ValP.move; rfl; apply LW.guardT'; rfl; rfl; (with_reducible rfl); apply LW.v0; rfl; rfl; apply ValP.move; rfl; apply LW.guardT'; rfl; rfl; (with_reducible rfl); apply LW.v0; rfl; rfl; apply ValP.lenR; rfl; infer_instance; rfl; apply LW.guardT'; rfl; rfl; (with_reducible rfl); apply LW.v0; rfl; rfl; apply ValP.move; rfl; apply LW.guardT'; rfl; rfl; (with_reducible rfl); apply LW.v0; rfl; rfl; apply ValP.addZL; rfl; rfl; decide; omega; apply LW.guardT'; rfl; rfl; (with_reducible rfl); apply LW.v0; rfl; rfl; apply ValP.lssF; rfl; rfl; omega; apply LW.v0; rfl; rfl; apply ValP.pickF'; rfl; (with_reducible rfl); rfl; apply LW.nil; refine thenN ?_; apply CW.condF; rfl; (with_reducible rfl); refine CW.skip ?_; refine thenN ?_; refine CW.seq ?_; refine CW.region ?_; apply LW.v0; rfl; rfl; apply ValP.move; rfl; apply LW.v0; rfl; rfl; apply ValP.move; rfl; apply LW.v0; rfl; rfl; apply ValP.move; rfl; apply LW.v0; rfl; rfl; apply ValP.addZL; rfl; rfl; decide; omega; apply LW.v0; rfl; rfl; apply ValP.cutMid; infer_instance; infer_instance; rfl; rfl; rfl; omega; omega; apply LW.callE; rfl; rfl; infer_instance; apply ArgsOk.cons; rfl; exact ArgsOk.nil; intro w _; exact hRd2 w (by assumption); apply LW.allocW; rfl; intro _; apply LW.store; rfl; rfl; apply SetAt.head; apply Wr.whole; rfl; rfl; rfl; apply LW.nil; refine thenN ?_; refine CW.seq ?_; refine CW.seq ?_; refine CW.region ?_; apply LW.load; rfl; rfl; apply Known.at; apply FsAt.head; exact Rd.whole rfl; apply LW.v0; rfl; rfl; apply ValP.buildW1L; rfl; decide; rfl; apply LW.callE; rfl; rfl; infer_instance; apply ArgsOk.cons; rfl; apply ArgsOk.cons; rfl; exact ArgsOk.nil; intro w _; exact hCm w; apply LW.v0; rfl; rfl; apply ValP.gtrT; rfl; rfl; omega; apply LW.v0; rfl; rfl; apply ValP.move; rfl; apply LW.guardF'; rfl; rfl; simp only [Bool.not_true, Bool.not_false]; rfl; apply LW.guardF'; rfl; rfl; simp only [Bool.not_true, Bool.not_false]; rfl; apply LW.guardF'; rfl; rfl; simp only [Bool.not_true, Bool.not_false]; rfl; apply LW.guardF'; rfl; rfl; simp only [Bool.not_true, Bool.not_false]; rfl; apply LW.guardF'; rfl; rfl; simp only [Bool.not_true, Bool.not_false]; rfl; apply LW.guardF'; rfl; rfl; simp only [Bool.not_true, Bool.not_false]; rfl; apply LW.guardF'; rfl; rfl; simp only [Bool.not_true, Bool.not_false]; rfl; apply LW.guardF'; rfl; rfl; simp only [Bool.not_true, Bool.not_false]; rfl; apply LW.guardF'; rfl; rfl; simp only [Bool.not_true, Bool.not_false]; rfl; apply LW.v0; rfl; rfl; apply ValP.pickT'; rfl; (with_reducible rfl); rfl; apply LW.nil; refine thenN ?_; apply CW.condT; rfl; (with_reducible rfl); refine CW.seq ?_; refine CW.region ?_; apply LW.v0; rfl; rfl; apply ValP.assign; rfl; apply LW.v0; rfl; rfl; apply ValP.assign; rfl; apply LW.nil; refine thenN ?_; refine CW.ret ?_; refine thenR ?_; refine blkR ?_; refine thenR ?_; refine thenR ?_; refine blkR ?_; refine thenR ?_)
              refine fin (vs := [.slice none 0 0, .bool false]) [] (.inl rfl) rfl rfl (by (apply ResL.cons; exact Res.tmp rfl; apply ResL.cons; exact Res.tmp rfl; exact ResL.nil)) (List.nil_sublist _) ⟨.slice none 0 0, ?_, fun h => absurd h hE, fun _ => rfl⟩
              rw [decide_eq_false hE]; rfl
            · obtain ⟨V, hV⟩ : ∃ V : Int, (if N < 200 then -1 else if 200 < N then 1 else 0) = V := ⟨_, rfl⟩
              have hV0 : V ≤ 0 := by rw [← hV, if_neg (show ¬ 200 < N by omega)]; split <;> decide
              rw [hV] at hCm0
              have hCm := hCm0
              have hr0 : ∀ {E fr}, Rd Try.prog 35 (.cells (wc N) E fr) (0 + 0 * 1) (.int .u64 (N : Int)) := fun {E fr} => by
                have := limb_rd N 0 (by decide) (E := E) (fr := fr)
                rwa [show limb N 0 = N by unfold limb; omega] at this
              rcases Nat.lt_or_ge b.length (pl + 32 + N) with hbN | hbN
              · have hE : rdE b fm ≠ 0 := fun h => by
                  have hc := cand_rd h
                  have hk' : k < (rdL b fm).length := by rw [hc.len]; exact hlt
                  obtain ⟨-, -, h3, h4, h5, -⟩ := cand_long hc hk' ((hc.lg k).trans hgd)
                  have h2 := (hcand _ hc).2
                  rw [← h2, hNd] at h3
                  omega
                (refine CW.seq ?_; refine CW.region ?_; apply LW.v0; rfl; rfl; apply ValP.lssT; rfl; rfl; omega; apply LW.nil; refine thenN ?_; refine CW.seq ?_; apply CW.condT; rfl; (with_reducible rfl); refine CW.skip ?_; refine thenN ?_; refine CW.seq ?_; refine CW.block ?_; refine CW.seq ?_; refine CW.region ?_; apply LW.v0; rfl; rfl; apply ValP.move; rfl; apply LW.v0; rfl; rfl; apply ValP.indexAddrS; rfl; rfl; rfl; omega; apply LW.load; rfl; rfl; exact Known.ext (by assumption) (by simp); assumption; apply LW.v0; rfl; rfl; apply ValP.assign; rfl; apply LW.v0; rfl; rfl; apply ValP.assign; rfl; apply LW.nil; refine thenN ?_; refine CW.seq ?_; refine CW.region ?_; apply LW.v0; rfl; rfl; apply ValP.move; rfl; apply LW.v0; rfl; rfl; apply ValP.move; rfl; apply LW.v0; rfl; rfl; apply ValP.mulZK; rfl; rfl; decide; omega; apply LW.v0; rfl; rfl; apply ValP.move; rfl; apply LW.v0; rfl; rfl; apply ValP.mulZK; rfl; rfl; decide; omega; apply LW.v0; rfl; rfl; apply ValP.addZL; rfl; rfl; decide; omega; apply LW.v0; rfl; rfl; apply ValP.cutMid; infer_instance; infer_instance; rfl; rfl; rfl; omega; omega; apply LW.callE; rfl; rfl; infer_instance; apply ArgsOk.cons; rfl; exact ArgsOk.nil; intro w _; exact hRd w (by assumption); apply LW.allocW; rfl; intro _; apply LW.store; rfl; rfl; apply SetAt.head; apply Wr.whole; rfl; rfl; rfl; apply LW.nil; refine thenN ?_; refine CW.seq ?_; refine CW.seq ?_; refine CW.region ?_; apply LW.v0; rfl; rfl; apply ValP.move; rfl; apply LW.v0; rfl; rfl; apply ValP.notT; rfl; (with_reducible rfl); apply LW.nil; refine thenN ?_; apply CW.condF; rfl; (with_reducible rfl); refine CW.skip ?_; refine thenN ?_; refine CW.seq ?_; refine CW.seq ?_; refine CW.region ?_; apply LW.load; rfl; rfl; apply Known.at; apply FsAt.head; exact Rd.whole rfl; apply LW.v0; rfl; rfl; apply ValP.move; rfl; apply LW.v0; rfl; rfl; apply ValP.convN; rfl; omega; omega; apply LW.v0; rfl; rfl; apply ValP.buildW1; rfl; omega; apply LW.v0; rfl; rfl; apply ValP.neWF; rfl; rfl; assumption; apply LW.v0; rfl; rfl; apply ValP.move; rfl; apply LW.guardT'; rfl; rfl; (with_reducible rfl); apply LW.v0; rfl; rfl; apply ValP.move; rfl; apply LW.guardT'; rfl; rfl; (with_reducible rfl); apply LW.v0; rfl; rfl; apply ValP.lenR; rfl; infer_instance; rfl; apply LW.guardT'; rfl; rfl; (with_reducible rfl); apply LW.v0; rfl; rfl; apply ValP.move; rfl; apply LW.guardT'; rfl; rfl; (with_reducible rfl); apply LW.v0; rfl; rfl; apply ValP.addZL; rfl; rfl; decide; omega; apply LW.guardT'; rfl; rfl; (with_reducible rfl); apply LW.v0; rfl; rfl; apply ValP.lssF; rfl; rfl; omega; apply LW.v0; rfl; rfl; apply ValP.pickF'; rfl; (with_reducible rfl); rfl; apply LW.nil; refine thenN ?_; apply CW.condF; rfl; (with_reducible rfl); refine CW.skip ?_; refine thenN ?_; refine CW.seq ?_; refine CW.region ?_; apply LW.v0; rfl; rfl; apply ValP.move; rfl; apply LW.v0; rfl; rfl; apply ValP.move; rfl; apply LW.v0; rfl; rfl; apply ValP.move; rfl; apply LW.v0; rfl; rfl; apply ValP.addZL; rfl; rfl; decide; omega; apply LW.v0; rfl; rfl; apply ValP.cutMid; infer_instance; infer_instance; rfl; rfl; rfl; omega; omega; apply LW.callE; rfl; rfl; infer_instance; apply ArgsOk.cons; rfl; exact ArgsOk.nil; intro w _; exact hRd2 w (by assumption); apply LW.allocW; rfl; intro _; apply LW.store; rfl; rfl; apply SetAt.head; apply Wr.whole; rfl; rfl; rfl; apply LW.nil; refine thenN ?_; refine CW.seq ?_; refine CW.seq ?_; refine CW.region ?_; apply LW.load; rfl; rfl; apply Known.at; apply FsAt.head; exact Rd.whole rfl; apply LW.v0; rfl; rfl; apply ValP.buildW1L; rfl; decide; rfl; apply LW.callE; rfl; rfl; infer_instance; apply ArgsOk.cons; rfl; apply ArgsOk.cons; rfl; exact ArgsOk.nil; intro w _; exact hCm w; apply LW.v0; rfl; rfl; apply ValP.gtrF; rfl; rfl; omega; apply LW.v0; rfl; rfl; apply ValP.move; rfl; apply LW.guardT'; rfl; rfl; (with_reducible rfl); apply LW.v0; rfl; rfl; apply ValP.move; rfl; apply LW.guardT'; rfl; rfl; (with_reducible rfl); apply LW.v0; rfl; rfl; apply ValP.lenR; rfl; infer_instance; rfl; apply LW.guardT'; rfl; rfl; (with_reducible rfl); apply LW.v0; rfl; rfl; apply ValP.move; rfl; apply LW.guardT'; rfl; rfl; (with_reducible rfl); apply LW.v0; rfl; rfl; apply ValP.addZL; rfl; rfl; decide; omega; apply LW.guardT'; rfl; rfl; (with_reducible rfl); apply LW.v0; rfl; rfl; apply ValP.indexAddrL; rfl; rfl; rfl; apply LW.guardT'; rfl; rfl; (with_reducible rfl); apply LW.load; rfl; rfl; apply Known.at; apply FsAt.head; exact Rd.one' rfl; apply LW.guardT'; rfl; rfl; (with_reducible rfl); apply LW.v0; rfl; rfl; apply ValP.convI; rfl; omega; omega; apply LW.guardT'; rfl; rfl; (with_reducible rfl); apply LW.v0; rfl; rfl; apply ValP.addZ; rfl; rfl; omega; apply LW.guardT'; rfl; rfl; (with_reducible rfl); apply LW.v0; rfl; rfl; apply ValP.lssT; rfl; rfl; omega; apply LW.v0; rfl; rfl; apply ValP.pickF'; rfl; (with_reducible rfl); rfl; apply LW.nil; refine thenN ?_; apply CW.condT; rfl; (with_reducible rfl); refine CW.seq ?_; refine CW.region ?_; apply LW.v0; rfl; rfl; apply ValP.assign; rfl; apply LW.v0; rfl; rfl; apply ValP.assign; rfl; apply LW.nil; refine thenN ?_; refine CW.ret ?_; refine thenR ?_; refine blkR ?_; refine thenR ?_; refine thenR ?_; refine blkR ?_; refine thenR ?_)
                refine fin (vs := [.slice none 0 0, .bool false]) [] (.inl rfl) rfl rfl (by (apply ResL.cons; exact Res.tmp rfl; apply ResL.cons; exact Res.tmp rfl; exact ResL.nil)) (List.nil_sublist _) ⟨.slice none 0 0, ?_, fun h => absurd h hE, fun _ => rfl⟩
                rw [decide_eq_false hE]; rfl
              · have hm3 := hb.midU (i := pl + 32) (j := pl + 32 + N % 18446744073709551616) (by omega) (by omega)
                have hX : (b.drop (pl + 32)).take (pl + 32 + N % 18446744073709551616 - (pl + 32)) = (b.drop (pl + 32)).take N := by congr 1; omega
                rw [hX] at hm3
                obtain ⟨X, hXd⟩ : ∃ X, (b.drop (pl + 32)).take N = X := ⟨_, rfl⟩
                have hXl : X.length = N := by rw [← hXd, List.length_take, List.length_drop]; omega
                rw [hXd] at hm3
                (refine CW.seq ?_; refine CW.region ?_; apply LW.v0; rfl; rfl; apply ValP.lssT; rfl; rfl; omega; apply LW.nil; refine thenN ?_; refine CW.seq ?_; apply CW.condT; rfl; (with_reducible rfl); refine CW.skip ?_; refine thenN ?_; refine CW.seq ?_; refine CW.block ?_; refine CW.seq ?_; refine CW.region ?_; apply LW.v0; rfl; rfl; apply ValP.move; rfl; apply LW.v0; rfl; rfl; apply ValP.indexAddrS; rfl; rfl; rfl; omega; apply LW.load; rfl; rfl; exact Known.ext (by assumption) (by simp); assumption; apply LW.v0; rfl; rfl; apply ValP.assign; rfl; apply LW.v0; rfl; rfl; apply ValP.assign; rfl; apply LW.nil; refine thenN ?_; refine CW.seq ?_; refine CW.region ?_; apply LW.v0; rfl; rfl; apply ValP.move; rfl; apply LW.v0; rfl; rfl; apply ValP.move; rfl; apply LW.v0; rfl; rfl; apply ValP.mulZK; rfl; rfl; decide; omega; apply LW.v0; rfl; rfl; apply ValP.move; rfl; apply LW.v0; rfl; rfl; apply ValP.mulZK; rfl; rfl; decide; omega; apply LW.v0; rfl; rfl; apply ValP.addZL; rfl; rfl; decide; omega; apply LW.v0; rfl; rfl; apply ValP.cutMid; infer_instance; infer_instance; rfl; rfl; rfl; omega; omega; apply LW.callE; rfl; rfl; infer_instance; apply ArgsOk.cons; rfl; exact ArgsOk.nil; intro w _; exact hRd w (by assumption); apply LW.allocW; rfl; intro _; apply LW.store; rfl; rfl; apply SetAt.head; apply Wr.whole; rfl; rfl; rfl; apply LW.nil; refine thenN ?_; refine CW.seq ?_; refine CW.seq ?_; refine CW.region ?_; apply LW.v0; rfl; rfl; apply ValP.move; rfl; apply LW.v0; rfl; rfl; apply ValP.notT; rfl; (with_reducible rfl); apply LW.nil; refine thenN ?_; apply CW.condF; rfl; (with_reducible rfl); refine CW.skip ?_; refine thenN ?_; refine CW.seq ?_; refine CW.seq ?_; refine CW.region ?_; apply LW.load; rfl; rfl; apply Known.at; apply FsAt.head; exact Rd.whole rfl; apply LW.v0; rfl; rfl; apply ValP.move; rfl; apply LW.v0; rfl; rfl; apply ValP.convN; rfl; omega; omega; apply LW.v0; rfl; rfl; apply ValP.buildW1; rfl; omega; apply LW.v0; rfl; rfl; apply ValP.neWF; rfl; rfl; assumption; apply LW.v0; rfl; rfl; apply ValP.move; rfl; apply LW.guardT'; rfl; rfl; (with_reducible rfl); apply LW.v0; rfl; rfl; apply ValP.move; rfl; apply LW.guardT'; rfl; rfl; (with_reducible rfl); apply LW.v0; rfl; rfl; apply ValP.lenR; rfl; infer_instance; rfl; apply LW.guardT'; rfl; rfl; (with_reducible rfl); apply LW.v0; rfl; rfl; apply ValP.move; rfl; apply LW.guardT'; rfl; rfl; (with_reducible rfl); apply LW.v0; rfl; rfl; apply ValP.addZL; rfl; rfl; decide; omega; apply LW.guardT'; rfl; rfl; (with_reducible rfl); apply LW.v0; rfl; rfl; apply ValP.lssF; rfl; rfl; omega; apply LW.v0; rfl; rfl; apply ValP.pickF'; rfl; (with_reducible rfl); rfl; apply LW.nil; refine thenN ?_; apply CW.condF; rfl; (with_reducible rfl); refine CW.skip ?_; refine thenN ?_; refine CW.seq ?_; refine CW.region ?_; apply LW.v0; rfl; rfl; apply ValP.move; rfl; apply LW.v0; rfl; rfl; apply ValP.move; rfl; apply LW.v0; rfl; rfl; apply ValP.move; rfl; apply LW.v0; rfl; rfl; apply ValP.addZL; rfl; rfl; decide; omega; apply LW.v0; rfl; rfl; apply ValP.cutMid; infer_instance; infer_instance; rfl; rfl; rfl; omega; omega; apply LW.callE; rfl; rfl; infer_instance; apply ArgsOk.cons; rfl; exact ArgsOk.nil; intro w _; exact hRd2 w (by assumption); apply LW.allocW; rfl; intro _; apply LW.store; rfl; rfl; apply SetAt.head; apply Wr.whole; rfl; rfl; rfl; apply LW.nil; refine thenN ?_; refine CW.seq ?_; refine CW.seq ?_; refine CW.region ?_; apply LW.load; rfl; rfl; apply Known.at; apply FsAt.head; exact Rd.whole rfl; apply LW.v0; rfl; rfl; apply ValP.buildW1L; rfl; decide; rfl; apply LW.callE; rfl; rfl; infer_instance; apply ArgsOk.cons; rfl; apply ArgsOk.cons; rfl; exact ArgsOk.nil; intro w _; exact hCm w; apply LW.v0; rfl; rfl; apply ValP.gtrF; rfl; rfl; omega; apply LW.v0; rfl; rfl; apply ValP.move; rfl; apply LW.guardT'; rfl; rfl; (with_reducible rfl); apply LW.v0; rfl; rfl; apply ValP.move; rfl; apply LW.guardT'; rfl; rfl; (with_reducible rfl); apply LW.v0; rfl; rfl; apply ValP.lenR; rfl; infer_instance; rfl; apply LW.guardT'; rfl; rfl; (with_reducible rfl); apply LW.v0; rfl; rfl; apply ValP.move; rfl; apply LW.guardT'; rfl; rfl; (with_reducible rfl); apply LW.v0; rfl; rfl; apply ValP.addZL; rfl; rfl; decide; omega; apply LW.guardT'; rfl; rfl; (with_reducible rfl); apply LW.v0; rfl; rfl; apply ValP.indexAddrL; rfl; rfl; rfl; apply LW.guardT'; rfl; rfl; (with_reducible rfl); apply LW.load; rfl; rfl; apply Known.at; apply FsAt.head; exact Rd.one' rfl; apply LW.guardT'; rfl; rfl; (with_reducible rfl); apply LW.v0; rfl; rfl; apply ValP.convI; rfl; omega; omega; apply LW.guardT'; rfl; rfl; (with_reducible rfl); apply LW.v0; rfl; rfl; apply ValP.addZ; rfl; rfl; omega; apply LW.guardT'; rfl; rfl; (with_reducible rfl); apply LW.v0; rfl; rfl; apply ValP.lssF; rfl; rfl; omega; apply LW.v0; rfl; rfl; apply ValP.pickF'; rfl; (with_reducible rfl); rfl; apply LW.nil; refine thenN ?_; apply CW.condF; rfl; (with_reducible rfl); refine CW.skip ?_; refine thenN ?_; refine CW.seq ?_; refine CW.region ?_; apply LW.v0; rfl; rfl; apply ValP.move; rfl)
                refine LW.lay0 rfl inferInstance inferInstance fun v0 seg0 hrow0 => ?_
                (apply LW.v0; rfl; rfl; apply ValP.move; rfl; apply LW.v0; rfl; rfl; apply ValP.move; rfl; apply LW.v0; rfl; rfl; apply ValP.addZL; rfl; rfl; decide; omega; apply LW.v0; rfl; rfl; apply ValP.move; rfl; apply LW.v0; rfl; rfl; apply ValP.addZL; rfl; rfl; decide; omega; apply LW.v0; rfl; rfl; apply ValP.indexAddrL; rfl; rfl; rfl; apply LW.load; rfl; rfl; apply Known.at; apply FsAt.app; apply FsAt.head; exact Rd.one' rfl; apply LW.v0; rfl; rfl; apply ValP.convI; rfl; omega; omega; apply LW.v0; rfl; rfl; apply ValP.addZ; rfl; rfl; omega; apply LW.v0; rfl; rfl; apply ValP.cutMid; infer_instance; infer_instance; rfl; rfl; rfl; omega; omega)
                refine LW.appendAny (n := 0) (m := X.length) (news := ucs X) rfl rfl inferInstance inferInstance inferInstance rfl rfl rfl (by (exact AtSeg.head)) hrow0 (fun w hs => hm3.st hs) (ucs_cells _) (by simp only [maxLen]; omega) (by omega) ?_
                intro vd segD hrowD
                refine ⟨_, (by (exact AtSeg.head)), ?_⟩
                simp only [List.nil_append, Nat.zero_add] at hrowD
                obtain ⟨pd, cd, rfl⟩ := hrowD.form
                obtain ⟨P, hP⟩ : ∃ P, byP (.slice pd X.length cd) X = P := ⟨_, rfl⟩
                have hP1 : P.dv.oneCell' = true := by rw [← hP]; rfl
                (apply LW.v0; rfl; rfl; apply ValP.buildT; infer_instance; infer_instance; apply PartsOk.cons; rfl; apply PartsOk.cons; rfl; exact PartsOk.nil; rfl; simp only [fillP, wrCells, Value.cells, List.getElem?_cons_zero, List.getElem?_cons_succ, List.toList_toArray, List.setIfInBounds_toArray, List.set_cons_succ, List.set_cons_zero, Nat.reduceAdd, Nat.zero_add]; rfl; apply LW.layA; rfl; infer_instance; infer_instance; rfl; rfl; rfl; rfl; rfl; intro _)
                rename_i b90
                refine LW.append (n := k) (m := 1) (news := psc P) rfl rfl inferInstance inferInstance inferInstance rfl rfl rfl (by (apply AtSeg.cons; apply AtSeg.app; apply AtSeg.cons; apply AtSeg.cons; apply AtSeg.app; exact AtSeg.head)) hO (by (apply Known.at; apply FsAt.head)) (by rw [← hP]; simp [psc, byP, wc]) rfl (psc_one hP1) (by omega) (by simp only [maxLen]; omega) (by omega) ?_
                intro ov' segO' hO'
                refine ⟨_, (by (apply AtSeg.cons; apply AtSeg.app; apply AtSeg.cons; apply AtSeg.cons; apply AtSeg.app; exact AtSeg.head)), ?_⟩
                obtain ⟨po', co', rfl⟩ := hO'.form
                obtain ⟨gO, curO, rfl, rfl, hn1, hm1', hs1, ht1⟩ := hO'.pos (by omega)
                have hlf : (ps.flatMap psc).length = k * 6 := by have := hO.len; exact this
                have hrdv : Rd Try.prog 25 (.cells curO 39 (0, 0)) (0 + k * 6 + 5) (.slice pd X.length cd) := Rd.one (by
                  have h1 : (curO.toList.take ((k + 1) * 6))[k * 6 + 5]? = (ps.flatMap psc ++ psc P)[k * 6 + 5]? := by rw [ht1]
                  rw [List.getElem?_take, if_pos (by omega), List.getElem?_append_right (by omega), hlf, Nat.add_sub_cancel_left] at h1
                  rw [← Array.getElem?_toList, Nat.zero_add, h1, ← hP]
                  rfl)
                (apply LW.v0; rfl; rfl; apply ValP.assign; rfl; apply LW.nil; refine thenN ?_; refine CW.region ?_; apply LW.v0; rfl; rfl; apply ValP.move; rfl; apply LW.v0; rfl; rfl; apply ValP.move; rfl; apply LW.v0; rfl; rfl; apply ValP.move; rfl; apply LW.v0; rfl; rfl; apply ValP.indexAddrS; rfl; rfl; rfl; omega; apply LW.v0; rfl; rfl; apply ValP.fieldAddr; rfl; rfl; apply LW.load; rfl; rfl; apply Known.at; apply FsAt.tail; apply FsAt.app; apply FsAt.tail; apply FsAt.tail; apply FsAt.app; apply FsAt.head; assumption)
                refine LW.callR rfl rfl inferInstance (by (apply ArgsOk.cons; rfl; exact ArgsOk.nil)) (fun w hst => rTail_calls X _ w (hrowD.atSeg (by (apply AtSeg.cons; exact AtSeg.head)) hst) (by omega)) ?_
                intro v3 seg3 hrow3
                have htl := tlB_len X
                have hwt := whl_lt X.length
                obtain ⟨p3, c3, rfl⟩ := hrow3.form
                (apply LW.v0; rfl; rfl; apply ValP.lenR; rfl; infer_instance; rfl; apply LW.v0; rfl; rfl; apply ValP.addZ; rfl; rfl; omega; apply LW.v0; rfl; rfl; apply ValP.assign; rfl; apply LW.nil; refine blkN ?_; refine thenN ?_; refine CW.region ?_; apply LW.v0; rfl; rfl; apply ValP.addZL; rfl; rfl; decide; omega; apply LW.v0; rfl; rfl; apply ValP.move; rfl; apply LW.nil)
                apply thenX
                refine ⟨rfl, ⟨k + 1, .slice (some ⟨gO, 0, none⟩) (k + 1) co', [(gO, .cells curO 39 (0, 0))], ps ++ [P], segD ++ gsD, pl + (tlB X).length⟩, ⟨hlt, ?_, ?_, ?_, ?_, ?_, ?_⟩, by show fm.length - (k + 1) < fm.length - k; omega, ⟨rfl, rfl, rfl, rfl, rfl, rfl, rfl, trivial⟩, ?_⟩
                · dsimp only; rw [flat_snoc]; exact hO'
                · exact hD.app (row_is hrowD (by rw [← hP]; rfl) (by rw [← hP]; rfl) rfl)
                · intro p hp
                  rcases List.mem_append.1 hp with hp | hp
                  · exact hps p hp
                  · obtain rfl : p = P := by simpa using hp
                    rw [← hP]
                    refine ⟨by show 0 < M256; decide, ?_⟩
                    rw [rightP_long rfl]
                    show (decide (0 = 0) && decide (X.length ≤ 200)) = true
                    rw [decide_eq_true (show X.length ≤ 200 by omega)]; rfl
                · dsimp only; rw [htf, ← hfm, fmP, List.map_append, ← hP]; rfl
                · dsimp only; omega
                · intro l0 h0
                  obtain ⟨c1, c2⟩ := hcand l0 h0
                  have hk' : k < l0.length := by rw [h0.len]; exact hlt
                  have hlg := (h0.lg k).trans hgd
                  obtain ⟨-, -, h3, h4, h5, h6⟩ := cand_long h0 hk' hlg
                  rw [← c2, hNd] at h3
                  rw [← c2, ← h3, hXd] at h6
                  dsimp only
                  rw [List.map_append, c1, h0.take hlt, h6, ← hP, atF_long hlg, ← c2, ← h3, htl, hXl]
                  exact ⟨rfl, rfl⟩
                · dsimp only
                  rw [List.append_assoc]
                  (apply List.sublist_append_of_sublist_right; apply List.Sublist.cons; apply List.Sublist.append_left; apply List.Sublist.cons; apply List.Sublist.cons; exact List.Sublist.refl _)
        · have hE : rdE b fm ≠ 0 := fun h => by
            have hc := cand_rd h
            have hk' : k < (rdL b fm).length := by rw [hc.len]; exact hlt
            have h1 := cand_long hc hk' ((hc.lg k).trans hgd)
            have h2 := (hcand _ hc).2
            omega
          have hpM : pl < M256 := by simp only [M256]; omega
          (refine CW.seq ?_; refine CW.region ?_; apply LW.v0; rfl; rfl; apply ValP.lssT; rfl; rfl; omega; apply LW.nil; refine thenN ?_; refine CW.seq ?_; apply CW.condT; rfl; (with_reducible rfl); refine CW.skip ?_; refine thenN ?_; refine CW.seq ?_; refine CW.block ?_; refine CW.seq ?_; refine CW.region ?_; apply LW.v0; rfl; rfl; apply ValP.move; rfl; apply LW.v0; rfl; rfl; apply ValP.indexAddrS; rfl; rfl; rfl; omega; apply LW.load; rfl; rfl; exact Known.ext (by assumption) (by simp); assumption; apply LW.v0; rfl; rfl; apply ValP.assign; rfl; apply LW.v0; rfl; rfl; apply ValP.assign; rfl; apply LW.nil; refine thenN ?_; refine CW.seq ?_; refine CW.region ?_; apply LW.v0; rfl; rfl; apply ValP.move; rfl; apply LW.v0; rfl; rfl; apply ValP.move; rfl; apply LW.v0; rfl; rfl; apply ValP.mulZK; rfl; rfl; decide; omega; apply LW.v0; rfl; rfl; apply ValP.move; rfl; apply LW.v0; rfl; rfl; apply ValP.mulZK; rfl; rfl; decide; omega; apply LW.v0; rfl; rfl; apply ValP.addZL; rfl; rfl; decide; omega; apply LW.v0; rfl; rfl; apply ValP.cutMid; infer_instance; infer_instance; rfl; rfl; rfl; omega; omega; apply LW.callE; rfl; rfl; infer_instance; apply ArgsOk.cons; rfl; exact ArgsOk.nil; intro w _; exact hRd w (by assumption); apply LW.allocW; rfl; intro _; apply LW.store; rfl; rfl; apply SetAt.head; apply Wr.whole; rfl; rfl; rfl; apply LW.nil; refine thenN ?_; refine CW.seq ?_; refine CW.seq ?_; refine CW.region ?_; apply LW.v0; rfl; rfl; apply ValP.move; rfl; apply LW.v0; rfl; rfl; apply ValP.notT; rfl; (with_reducible rfl); apply LW.nil; refine thenN ?_; apply CW.condF; rfl; (with_reducible rfl); refine CW.skip ?_; refine thenN ?_; refine CW.seq ?_; refine CW.seq ?_; refine CW.region ?_; apply LW.load; rfl; rfl; apply Known.at; apply FsAt.head; exact Rd.whole rfl; apply LW.v0; rfl; rfl; apply ValP.move; rfl; apply LW.v0; rfl; rfl; apply ValP.convN; rfl; omega; omega; apply LW.v0; rfl; rfl; apply ValP.buildW1; rfl; omega; apply LW.v0; rfl; rfl; apply ValP.neWT; rfl; rfl; assumption; assumption; assumption; apply LW.v0; rfl; rfl; apply ValP.move; rfl; apply LW.guardF'; rfl; rfl; simp only [Bool.not_true, Bool.not_false]; rfl; apply LW.guardF'; rfl; rfl; simp only [Bool.not_true, Bool.not_false]; rfl; apply LW.guardF'; rfl; rfl; simp only [Bool.not_true, Bool.not_false]; rfl; apply LW.guardF'; rfl; rfl; simp only [Bool.not_true, Bool.not_false]; rfl; apply LW.guardF'; rfl; rfl; simp only [Bool.not_true, Bool.not_false]; rfl; apply LW.v0; rfl; rfl; apply ValP.pickT'; rfl; (with_reducible rfl); rfl; apply LW.nil; refine thenN ?_; apply CW.condT; rfl; (with_reducible rfl); refine CW.seq ?_; refine CW.region ?_; apply LW.v0; rfl; rfl; apply ValP.assign; rfl; apply LW.v0; rfl; rfl; apply ValP.assign; rfl; apply LW.nil; refine thenN ?_; refine CW.ret ?_; refine thenR ?_; refine blkR ?_; refine thenR ?_; refine thenR ?_; refine blkR ?_; refine thenR ?_)
          refine fin (vs := [.slice none 0 0, .bool false]) [] (.inl rfl) rfl rfl (by (apply ResL.cons; exact Res.tmp rfl; apply ResL.cons; exact Res.tmp rfl; exact ResL.nil)) (List.nil_sublist _) ⟨.slice none 0 0, ?_, fun h => absurd h hE, fun _ => rfl⟩
          rw [decide_eq_false hE]; rfl
    · obtain rfl : k = fm.length := by omega
      have hps' : okP ps = true := by rw [okP, List.all_eq_true]; exact fun x hx => (hps x hx).2
      have hck : chkP ps = 0 := by rw [chkP, if_neg (by omega), hps']; rfl
      have hsm := right_small hck
      have hPG : PartsGs ps (.slice po fm.length co) (gsD ++ segO) := ⟨gsD, segO, rfl, by rw [hlk]; exact hO, hD, fun p hp => (hps p hp).1⟩
      rw [List.take_length] at hfm
      (refine CW.seq ?_; refine CW.region ?_; apply LW.v0; rfl; rfl; apply ValP.lssF; rfl; rfl; omega; apply LW.nil; refine thenN ?_; refine CW.seq ?_; apply CW.condF; rfl; (with_reducible rfl); refine CW.exit ?_; refine thenE ?_; refine thenE ?_; refine blkE rfl ?_; refine thenN ?_; refine CW.seq ?_; refine CW.seq ?_; refine CW.region ?_; apply LW.v0; rfl; rfl; apply ValP.move; rfl)
      refine LW.callR rfl rfl inferInstance (by (apply ArgsOk.cons; rfl; exact ArgsOk.nil)) (fun w hst => rBytesL_calls ps _ w (hPG.at (st_us hst (by rw [List.append_nil]; exact List.Sublist.refl _))) hsm) ?_
      intro v1 seg1 hrow1
      obtain ⟨p1, c1, rfl⟩ := hrow1.form
      by_cases heq : layF ps = b
      · have hc : Cand b fm ps := ⟨hfm, hck, heq, fun p hp => (hps p hp).1⟩
        obtain ⟨hE, hK⟩ := hc.read
        have hS : ∀ w' {fs}, St w [] fs w' → RowAt w' 1 (.slice p1 (layF ps).length c1) (layF ps).length (ucs (layF ps)) → Calls Try.prog 29 #[.slice p1 (layF ps).length c1, .slice p b.length c] w' (Ret w' (.bool true)) := fun w' fs hst hr => by
          have := rSameB_calls (layF ps) b _ _ w' hr (hb.st hst)
          rwa [decide_eq_true heq] at this
        (apply LW.v0; rfl; rfl; apply ValP.move; rfl; apply LW.callE; rfl; rfl; infer_instance; apply ArgsOk.cons; rfl; apply ArgsOk.cons; rfl; exact ArgsOk.nil; intro w _; rename_i hst; (exact hS w hst (hrow1.atSeg (by (repeat (first | exact AtSeg.head | exact atSeg_one | apply AtSeg.cons | apply AtSeg.app))) hst)); apply LW.v0; rfl; rfl; apply ValP.notT; rfl; (with_reducible rfl); apply LW.nil; refine thenN ?_; apply CW.condF; rfl; (with_reducible rfl); refine CW.skip ?_; refine thenN ?_; refine CW.seq ?_; refine CW.region ?_; apply LW.v0; rfl; rfl; apply ValP.move; rfl; apply LW.v0; rfl; rfl; apply ValP.assign; rfl; apply LW.v0; rfl; rfl; apply ValP.assign; rfl; apply LW.nil; refine thenN ?_; refine CW.ret ?_)
        refine fin (vs := [.slice po fm.length co, .bool true]) (gsD ++ segO) (.inl rfl) rfl rfl (by (apply ResL.cons; exact Res.tmp rfl; apply ResL.cons; exact Res.tmp rfl; exact ResL.nil)) ?_ ⟨.slice po fm.length co, by rw [decide_eq_true hE]; rfl, fun _ => ⟨ps, hK.symm, hPG⟩, fun h => absurd hE h⟩
        exact List.sublist_append_of_sublist_right (List.Sublist.append_left (List.sublist_append_left _ _) _)
      · have hE : rdE b fm ≠ 0 := fun h => by
          have hc := cand_rd h
          have h1 := (hcand _ hc).1
          rw [← hc.len, List.take_length] at h1
          exact heq ((lay_dat h1).trans hc.lay)
        have hS : ∀ w' {fs}, St w [] fs w' → RowAt w' 1 (.slice p1 (layF ps).length c1) (layF ps).length (ucs (layF ps)) → Calls Try.prog 29 #[.slice p1 (layF ps).length c1, .slice p b.length c] w' (Ret w' (.bool false)) := fun w' fs hst hr => by
          have := rSameB_calls (layF ps) b _ _ w' hr (hb.st hst)
          rwa [decide_eq_false heq] at this
        (apply LW.v0; rfl; rfl; apply ValP.move; rfl; apply LW.callE; rfl; rfl; infer_instance; apply ArgsOk.cons; rfl; apply ArgsOk.cons; rfl; exact ArgsOk.nil; intro w _; rename_i hst; (exact hS w hst (hrow1.atSeg (by (repeat (first | exact AtSeg.head | exact atSeg_one | apply AtSeg.cons | apply AtSeg.app))) hst)); apply LW.v0; rfl; rfl; apply ValP.notF; rfl; (with_reducible rfl); apply LW.nil; refine thenN ?_; apply CW.condT; rfl; (with_reducible rfl); refine CW.seq ?_; refine CW.region ?_; apply LW.v0; rfl; rfl; apply ValP.assign; rfl; apply LW.v0; rfl; rfl; apply ValP.assign; rfl; apply LW.nil; refine thenN ?_; refine CW.ret ?_; refine thenR ?_)
        refine fin (vs := [.slice none 0 0, .bool false]) [] (.inl rfl) rfl rfl (by (apply ResL.cons; exact Res.tmp rfl; apply ResL.cons; exact Res.tmp rfl; exact ResL.nil)) (List.nil_sublist _) ⟨.slice none 0 0, ?_, fun h => absurd h hE, fun _ => rfl⟩
        rw [decide_eq_false hE]; rfl
end Go.Proofs.Ytailnglojnccnaa

/-
  The pack: arguments that are parts; which parts may be, are the same, and their bytes.
  Conditions: none.
-/
namespace Go.Proofs.Ytailnglojnccnaa
open Go Go.RowKit SL
set_option maxRecDepth 8000
set_option maxHeartbeats 4000000
set_option linter.unusedSimpArgs false
set_option linter.unusedVariables false
attribute [local irreducible] SL.CW SL.LW SL.DW Calls SL.Ret SL.RetG SL.beginQ SL.roundQ SL.rangeQ SL.inQ SL.RW SL.AnyW SL.thenQ SL.thenC SL.thenW SL.blkQ SL.finQ SL.ValP SL.NewP SL.SetP SL.CallP SL.Rd SL.Wr SL.Known
/-! ### Arguments -/
def tyPart : Ty := .pair .bool (.pair .word (.pair (.sl (.int .u8)) .unit))
theorem is_part {w : World} {cs : List Value} (h : tyPart.is w cs) : ∃ x : PartV, (x.wd < M256 ∧ RowAt w 1 x.dv x.db.length (ucs x.db)) ∧ cs = psc x := by
  obtain ⟨⟨k, h1⟩, h2, h3, h4⟩ := h
  obtain ⟨a, ha, ea⟩ := is_word h2
  obtain ⟨⟨v, l⟩, hr, eb⟩ := is_bytes h3
  refine ⟨⟨k, a, v, l⟩, ⟨ha, hr⟩, ?_⟩
  simp only [Ty.word, Ty.cells, Nat.mul_one] at h1 ea eb
  have h4' : (((cs.drop 1).drop 4).drop 1) = [] := h4
  have e1 := List.take_append_drop 1 cs
  have e2 := List.take_append_drop 4 (cs.drop 1)
  have e3 := List.take_append_drop 1 ((cs.drop 1).drop 4)
  rw [h1] at e1
  rw [ea] at e2
  rw [eb, h4'] at e3
  exact e1.symm.trans (by rw [← e2, ← e3]; simp [psc])
theorem is_parts {w : World} {cs : List Value} (h : (Ty.sl tyPart).is w cs) : ∃ x : Value × List PartV, PartsAt w x.1 x.2 ∧ cs = [x.1] := by
  obtain ⟨v, l, h1, h2, h3⟩ := sl_rows (g := psc) (Q := fun x : PartV => x.wd < M256 ∧ RowAt w 1 x.dv x.db.length (ucs x.db)) (sz := 6) rfl (by decide) (fun _ h => is_part h) h
  exact ⟨(v, l), ⟨h3, fun p hp => (h2 p hp).1.1, fun p hp => (h2 p hp).1.2⟩, h1⟩
theorem is_bool1 {w : World} {cs : List Value} (h : Ty.bool.is w cs) : ∃ b : Bool, True ∧ cs = [Value.bool b] := by
  obtain ⟨b, h⟩ := h; exact ⟨b, trivial, h⟩
theorem PartsAt.bel {w0 w : World} {v : Value} {l : List PartV} (h : PartsAt w0 v l) (hb : Bel w0.heap.size [] w0 w) : PartsAt w v l :=
  ⟨h.row.bel hb, h.small, fun p hp => (h.data p hp).bel hb⟩
/-- The cells of rows of parts. -/
def pcsV (l : List (Value × List PartV)) : List Value := l.flatMap fun x => [x.1]
theorem fewD_ok {l : List PartV} {ps qs : List PartV} (h : ps.map dat = fewD l) (k : qs.map dat = fewD l) : sameL ps qs = true := (same_dat ps qs).2 (h.trans k.symm)
theorem few17 {l : List PartV} {ps : List PartV} (h : ps.map dat = fewD l) : ps.length ≤ 17 := by
  have := congrArg List.length h
  rw [List.length_map, fewD_len] at this
  omega
/-! ### PackLays -/
def fewM (l : List PartV) (v : Value) (gs : Fs) : Prop := ∃ ps, ps.map dat = fewD l ∧ PartsGs ps v gs
theorem PackLays_walk (v0 : Value) (l0 : List (Value × List PartV)) (w : World) (hr0 : RowAt w 1 v0 l0.length (pcsV l0)) (hrr0 : ∀ x ∈ l0, PartsAt w x.1 x.2) :
    Calls Try.prog 7 #[v0] w (Ret w (.bool true)) := by
  obtain ⟨p0, c0, rfl, hc0, hm0⟩ := hr0.form
  simp only [maxLen] at hm0
  have hWk := wakes_calls
  refine enter (args := [_]) _ [] [] Try.func7 rfl Try.ntmps7 rfl (by simp) .nil ?_
  (refine CW.seq ?_; refine CW.region ?_; apply LW.v0; rfl; rfl; apply ValP.assign; rfl; apply LW.nil; refine thenN ?_; refine CW.seq ?_; refine CW.seq ?_; refine CW.region ?_; apply LW.callE; rfl; rfl; infer_instance; exact ArgsOk.nil; intro w _; exact hWk w; apply LW.v0; rfl; rfl; apply ValP.notT; rfl; (with_reducible rfl); apply LW.nil; refine thenN ?_; apply CW.condF; rfl; (with_reducible rfl); refine CW.skip ?_; refine thenN ?_; refine CW.seq ?_; refine CW.seq ?_; refine CW.region ?_; apply LW.v0; rfl; rfl; apply ValP.move; rfl; apply LW.v0; rfl; rfl; apply ValP.lenR; rfl; infer_instance; rfl; apply LW.v0; rfl; rfl; apply ValP.move; rfl; apply LW.nil; refine thenN ?_; refine CW.block ?_)
  refine CW.loop (fun m : Nat => ([(14, .int .i64 (m : Int)), (13, .int .i64 (l0.length : Int)), (12, .slice p0 l0.length c0), (0, .slice p0 l0.length c0)], []))
    (fun m => m ≤ l0.length ∧ m ≤ 8) (fun m => l0.length - m) 0 ⟨Nat.zero_le _, Nat.zero_le _⟩ ⟨rfl, rfl, rfl, rfl, trivial⟩ (List.Sublist.refl _) ?_
  rintro m ⟨hml, hm8⟩
  dsimp only
  rcases Nat.lt_or_ge m l0.length with hlt | hge
  · obtain ⟨b, off, c', cs, E, fr, heq, hb, hx⟩ := hr0.pos (by omega)
    cases heq
    have hrd : Rd Try.prog 26 (.cells cs E fr) (off + m * 1) l0[m].1 := Rd.elem1 (g := fun x : Value × List PartV => [x.1]) (l := l0) (a := l0[m]) hx (fun _ _ => rfl) (List.getElem?_eq_getElem hlt) rfl
    have hrd0 : Rd Try.prog 26 (.cells cs E fr) (off + 0 * 1) l0[0].1 := Rd.elem1 (g := fun x : Value × List PartV => [x.1]) (l := l0) (a := l0[0]) hx (fun _ _ => rfl) (List.getElem?_eq_getElem (by omega)) rfl
    have hrx := hrr0 l0[m] (List.getElem_mem hlt)
    have hry := hrr0 l0[0] (List.getElem_mem (by omega))
    obtain ⟨xx, hxx⟩ : ∃ xx, l0[m] = xx := ⟨_, rfl⟩
    obtain ⟨yy, hyy⟩ : ∃ yy, l0[0] = yy := ⟨_, rfl⟩
    rw [hxx] at hrd hrx
    rw [hyy] at hrd0 hry
    obtain ⟨vx, lx⟩ := xx
    obtain ⟨vy, ly⟩ := yy
    dsimp only at hrd hrx hrd0 hry
    have hrxr := hrx.row
    have hryr := hry.row
    rcases Nat.lt_or_ge m 8 with h8 | h8
    · (refine CW.seq ?_; refine CW.region ?_; apply LW.v0; rfl; rfl; apply ValP.lssT; rfl; rfl; omega; apply LW.nil; refine thenN ?_; refine CW.seq ?_; apply CW.condT; rfl; (with_reducible rfl); refine CW.skip ?_; refine thenN ?_; refine CW.seq ?_; refine CW.block ?_; refine CW.seq ?_; refine CW.region ?_; apply LW.v0; rfl; rfl; apply ValP.move; rfl; apply LW.v0; rfl; rfl; apply ValP.indexAddrS; rfl; rfl; rfl; omega; apply LW.load; rfl; rfl; exact Known.ext (by assumption) (by simp); assumption; apply LW.v0; rfl; rfl; apply ValP.assign; rfl; apply LW.v0; rfl; rfl; apply ValP.assign; rfl; apply LW.nil; refine thenN ?_; refine CW.seq ?_; refine CW.seq ?_; refine CW.region ?_; apply LW.v0; rfl; rfl; apply ValP.move; rfl; apply LW.v0; rfl; rfl; apply ValP.eqF; rfl; rfl; omega; apply LW.nil; refine thenN ?_; apply CW.condF; rfl; (with_reducible rfl); refine CW.skip ?_; refine thenN ?_; refine CW.seq ?_)
      apply CW.pre
      (refine AnyW.anyM [(1, fewM lx)] 5 mixed (by decide +kernel) ?_)
      ((try simp only [tsOf_cons, tsOf_nil, tsOf_app]); apply DW.v0; rfl; rfl; rfl; exact WantT.none; rfl; apply ValP.move; rfl)
      (apply DW.manyV; rfl; rfl; rfl; exact WantT.none; rfl; infer_instance; apply ArgsOk.cons; rfl; exact ArgsOk.nil; apply RdV.ext; assumption; rfl; exact RdV.nil; intro w _ _)
      exact few_calls lx vx w (hrx.bel (by assumption))
      rintro va ga ⟨pA, hA, hpA⟩
      ((try simp only [tsOf_cons, tsOf_nil, tsOf_app]); apply DW.v0; rfl; rfl; rfl; exact WantT.none; rfl; apply ValP.move; rfl; apply DW.v0; rfl; rfl; rfl; exact WantT.none; rfl; apply ValP.indexAddrSL; rfl; rfl; decide; omega; apply DW.loadX; rfl; rfl; rfl; exact WantT.none; rfl; assumption; simp; assumption; apply DW.nil; simp only [fsOf_cons, fsOf_nil, fsOf_app, fsOf_tsOf, fsOf_new, fsOf_tag])
      have hF : ∀ w' {fs}, St w [] fs w' → Calls Try.prog 16 #[vx] w' (RetG w' [] (fewM lx)) := fun w' fs hst => few_calls lx vx w' (hrx.st hst)
      refine LW.callR rfl rfl inferInstance (by (apply ArgsOk.cons; rfl; exact ArgsOk.nil)) (fun w hst => few_calls ly vy w (hry.st hst)) ?_
      rintro vb gb ⟨pB, hB, hpB⟩
      have hErr := fun w h => rError_calls pA va w h
      have hChk := fun w h => Check_calls pA va w h
      have hSam := fun w h k => Same_calls pA pB va vb w h k
      have hRSm := fun w h k => rSame_calls pA pB va vb w h k
      have hSiz := fun w h => Size_calls pA va w h
      (apply LW.v0; rfl; rfl; apply ValP.assign; rfl; apply LW.v0; rfl; rfl; apply ValP.assign; rfl; apply LW.nil; refine thenN ?_; refine CW.seq ?_; refine CW.region ?_; apply LW.v0; rfl; rfl; apply ValP.move; rfl; apply LW.callE; rfl; rfl; infer_instance; apply ArgsOk.cons; rfl; exact ArgsOk.nil; intro w _; rename_i hst; (exact hErr w (hpA.at (st_us hst (by (repeat (first | exact List.Sublist.refl _ | exact List.sublist_append_left _ _ | apply List.Sublist.cons | apply List.sublist_append_of_sublist_right)))))); apply LW.v0; rfl; rfl; apply ValP.assign; rfl; apply LW.nil; refine thenN ?_; refine CW.seq ?_; refine CW.region ?_; apply LW.v0; rfl; rfl; apply ValP.move; rfl)
      refine LW.callR rfl rfl inferInstance (by (apply ArgsOk.cons; rfl; exact ArgsOk.nil)) (fun w hst => Lay_calls pA va w (hpA.at (st_us hst (by (apply List.sublist_append_of_sublist_right; exact List.sublist_append_left _ _))))) ?_
      rintro v5 gs5 ⟨bv, rfl, hrow5⟩
      (apply LW.v0; rfl; rfl; apply ValP.move; rfl; apply LW.v0; rfl; rfl; apply ValP.extractN; rfl; rfl; apply LW.v0; rfl; rfl; apply ValP.extractN; rfl; rfl; apply LW.v0; rfl; rfl; apply ValP.assign; rfl; apply LW.v0; rfl; rfl; apply ValP.assign; rfl; apply LW.nil; refine thenN ?_; refine CW.seq ?_; refine CW.seq ?_; refine CW.region ?_; apply LW.v0; rfl; rfl; apply ValP.move; rfl; apply LW.callE; rfl; rfl; infer_instance; apply ArgsOk.cons; rfl; exact ArgsOk.nil; intro w _; rename_i hst; (exact hChk w (hpA.at (st_us hst (by (repeat (first | exact List.Sublist.refl _ | exact List.sublist_append_left _ _ | apply List.Sublist.cons | apply List.sublist_append_of_sublist_right)))))); apply LW.v0; rfl; rfl; apply ValP.move; rfl; apply LW.v0; rfl; rfl; apply ValP.neF; rfl; rfl; omega; apply LW.v0; rfl; rfl; apply ValP.move; rfl; apply LW.guardT'; rfl; rfl; (with_reducible rfl); apply LW.v0; rfl; rfl; apply ValP.move; rfl; apply LW.guardT'; rfl; rfl; (with_reducible rfl); apply LW.v0; rfl; rfl; apply ValP.move; rfl; apply LW.guardT'; rfl; rfl; (with_reducible rfl); apply LW.v0; rfl; rfl; apply ValP.neF; rfl; rfl; omega; apply LW.v0; rfl; rfl; apply ValP.pickF'; rfl; (with_reducible rfl); rfl; apply LW.v0; rfl; rfl; apply ValP.move; rfl; apply LW.guardT'; rfl; rfl; (with_reducible rfl); apply LW.v0; rfl; rfl; apply ValP.move; rfl; apply LW.guardT'; rfl; rfl; (with_reducible rfl); apply LW.v0; rfl; rfl; apply ValP.move; rfl; apply LW.guardT'; rfl; rfl; (with_reducible rfl); apply LW.callE; rfl; rfl; infer_instance; apply ArgsOk.cons; rfl; apply ArgsOk.cons; rfl; exact ArgsOk.nil; intro w _; rename_i hst; (exact hSam w (hpA.at (st_us hst (by (repeat (first | exact List.Sublist.refl _ | exact List.sublist_append_left _ _ | apply List.Sublist.cons | apply List.sublist_append_of_sublist_right))))) (hpB.at (st_us hst (by (repeat (first | exact List.Sublist.refl _ | exact List.sublist_append_left _ _ | apply List.Sublist.cons | apply List.sublist_append_of_sublist_right)))))); apply LW.guardT'; rfl; rfl; (with_reducible rfl); apply LW.v0; rfl; rfl; apply ValP.move; rfl; apply LW.guardT'; rfl; rfl; (with_reducible rfl); apply LW.v0; rfl; rfl; apply ValP.move; rfl; apply LW.guardT'; rfl; rfl; (with_reducible rfl); apply LW.callE; rfl; rfl; infer_instance; apply ArgsOk.cons; rfl; apply ArgsOk.cons; rfl; exact ArgsOk.nil; intro w _; rename_i hst; (exact hRSm w (hpA.at (st_us hst (by (repeat (first | exact List.Sublist.refl _ | exact List.sublist_append_left _ _ | apply List.Sublist.cons | apply List.sublist_append_of_sublist_right))))) (hpB.at (st_us hst (by (repeat (first | exact List.Sublist.refl _ | exact List.sublist_append_left _ _ | apply List.Sublist.cons | apply List.sublist_append_of_sublist_right)))))); apply LW.guardT'; rfl; rfl; (with_reducible rfl); apply LW.v0; rfl; rfl; apply ValP.boolNeF; rfl; rfl; (with_reducible rfl); apply LW.v0; rfl; rfl; apply ValP.pickF'; rfl; (with_reducible rfl); rfl; apply LW.v0; rfl; rfl; apply ValP.move; rfl; apply LW.guardT'; rfl; rfl; (with_reducible rfl); apply LW.v0; rfl; rfl; apply ValP.move; rfl; apply LW.guardT'; rfl; rfl; (with_reducible rfl); apply LW.v0; rfl; rfl; apply ValP.move; rfl; apply LW.guardT'; rfl; rfl; (with_reducible rfl))
      refine LW.callR rfl rfl inferInstance (by (apply ArgsOk.cons; rfl; exact ArgsOk.nil)) (fun w hst => hF w hst) ?_
      rintro vc gc ⟨pC, hC, hpC⟩
      have hSmC : ∀ w, PartsAt w va pA → PartsAt w vc pC → Calls Try.prog 18 #[va, vc] w (Ret w (.bool true)) := fun w h k => by
        have := Same_calls pA pC va vc w h k
        rwa [fewD_ok hA hC] at this
      (apply LW.guardT'; rfl; rfl; (with_reducible rfl); apply LW.callE; rfl; rfl; infer_instance; apply ArgsOk.cons; rfl; apply ArgsOk.cons; rfl; exact ArgsOk.nil; intro w _; rename_i hst; (exact hSmC w (hpA.at (st_us hst (by (repeat (first | exact List.Sublist.refl _ | exact List.sublist_append_left _ _ | apply List.Sublist.cons | apply List.sublist_append_of_sublist_right))))) (hpC.at (st_us hst (by (repeat (first | exact List.Sublist.refl _ | exact List.sublist_append_left _ _ | apply List.Sublist.cons | apply List.sublist_append_of_sublist_right)))))); apply LW.guardT'; rfl; rfl; (with_reducible rfl); apply LW.v0; rfl; rfl; apply ValP.notT; rfl; (with_reducible rfl); apply LW.v0; rfl; rfl; apply ValP.pickF'; rfl; (with_reducible rfl); rfl; apply LW.v0; rfl; rfl; apply ValP.move; rfl; apply LW.guardT'; rfl; rfl; (with_reducible rfl); apply LW.v0; rfl; rfl; apply ValP.move; rfl; apply LW.guardT'; rfl; rfl; (with_reducible rfl); apply LW.v0; rfl; rfl; apply ValP.move; rfl; apply LW.guardT'; rfl; rfl; (with_reducible rfl))
      refine LW.callR rfl rfl inferInstance (by (apply ArgsOk.cons; rfl; exact ArgsOk.nil)) (fun w hst => hF w hst) ?_
      rintro vd gd ⟨pD, hD, hpD⟩
      have hRmC : ∀ w, PartsAt w va pA → PartsAt w vd pD → Calls Try.prog 12 #[va, vd] w (Ret w (.bool true)) := fun w h k => by
        have := rSame_calls pA pD va vd w h k
        rwa [fewD_ok hA hD] at this
      by_cases hck : chkP pA = 0
      · rw [hck, if_pos rfl, if_pos rfl] at hrow5
        have hsz : sizeF pA = (layF pA).length := if_pos hck
        rw [hsz] at hSiz
        obtain ⟨p5, c5, rfl⟩ := hrow5.form
        have hEq : ∀ w u n, RowAt w 1 u n (ucs (layF pA)) → RowAt w 1 (.slice p5 (layF pA).length c5) (layF pA).length (ucs (layF pA)) → Calls Try.prog 15 #[.slice p5 (layF pA).length c5, u] w (Ret w (.bool true)) := fun w u n h k => by
          have := Equal_calls _ u (layF pA) (layF pA) _ _ w k h
          rwa [decide_eq_true rfl] at this
        (apply LW.guardT'; rfl; rfl; (with_reducible rfl); apply LW.callE; rfl; rfl; infer_instance; apply ArgsOk.cons; rfl; apply ArgsOk.cons; rfl; exact ArgsOk.nil; intro w _; rename_i hst; (exact hRmC w (hpA.at (st_us hst (by (repeat (first | exact List.Sublist.refl _ | exact List.sublist_append_left _ _ | apply List.Sublist.cons | apply List.sublist_append_of_sublist_right))))) (hpD.at (st_us hst (by (repeat (first | exact List.Sublist.refl _ | exact List.sublist_append_left _ _ | apply List.Sublist.cons | apply List.sublist_append_of_sublist_right)))))); apply LW.guardT'; rfl; rfl; (with_reducible rfl); apply LW.v0; rfl; rfl; apply ValP.notT; rfl; (with_reducible rfl); apply LW.v0; rfl; rfl; apply ValP.pickF'; rfl; (with_reducible rfl); rfl; apply LW.nil; refine thenN ?_; apply CW.condF; rfl; (with_reducible rfl); refine CW.skip ?_; refine thenN ?_; refine CW.seq ?_; refine CW.seq ?_; refine CW.region ?_; apply LW.v0; rfl; rfl; apply ValP.move; rfl; apply LW.v0; rfl; rfl; apply ValP.neF; rfl; rfl; omega; apply LW.nil; refine thenN ?_; apply CW.condF; rfl; (with_reducible rfl); refine CW.skip ?_; refine thenN ?_; refine CW.seq ?_; refine CW.region ?_; apply LW.v0; rfl; rfl; apply ValP.move; rfl; apply LW.v0; rfl; rfl; apply ValP.move; rfl)
        refine LW.callR rfl rfl inferInstance (by (apply ArgsOk.cons; rfl; exact ArgsOk.nil)) (fun w hst => rBytesL_calls pA va w (hpA.at (st_us hst (by (apply List.sublist_append_of_sublist_right; apply List.sublist_append_of_sublist_right; apply List.sublist_append_of_sublist_right; apply List.sublist_append_of_sublist_right; exact List.sublist_append_left _ _)))) (right_small hck)) ?_
        intro v7 gs7 hrow7
        (apply LW.callE; rfl; rfl; infer_instance; apply ArgsOk.cons; rfl; apply ArgsOk.cons; rfl; exact ArgsOk.nil; intro w _; rename_i hst; (exact hEq w _ _ (hrow7.us (st_us hst (by (repeat (first | exact List.Sublist.refl _ | exact List.sublist_append_left _ _ | apply List.Sublist.cons | apply List.sublist_append_of_sublist_right)))) (List.Sublist.refl _)) (hrow5.us (st_us hst (by (repeat (first | exact List.Sublist.refl _ | exact List.sublist_append_left _ _ | apply List.Sublist.cons | apply List.sublist_append_of_sublist_right)))) (List.Sublist.refl _))); apply LW.v0; rfl; rfl; apply ValP.notT; rfl; (with_reducible rfl); apply LW.v0; rfl; rfl; apply ValP.move; rfl; apply LW.guardT'; rfl; rfl; (with_reducible rfl); apply LW.v0; rfl; rfl; apply ValP.move; rfl; apply LW.guardT'; rfl; rfl; (with_reducible rfl); apply LW.callE; rfl; rfl; infer_instance; apply ArgsOk.cons; rfl; exact ArgsOk.nil; intro w _; rename_i hst; (exact hSiz w (hpA.at (st_us hst (by (repeat (first | exact List.Sublist.refl _ | exact List.sublist_append_left _ _ | apply List.Sublist.cons | apply List.sublist_append_of_sublist_right)))))); apply LW.guardT'; rfl; rfl; (with_reducible rfl); apply LW.v0; rfl; rfl; apply ValP.move; rfl; apply LW.guardT'; rfl; rfl; (with_reducible rfl); apply LW.v0; rfl; rfl; apply ValP.lenR; rfl; infer_instance; rfl; apply LW.guardT'; rfl; rfl; (with_reducible rfl); apply LW.v0; rfl; rfl; apply ValP.neF; rfl; rfl; omega; apply LW.v0; rfl; rfl; apply ValP.pickF'; rfl; (with_reducible rfl); rfl; apply LW.nil; refine thenN ?_; apply CW.condF; rfl; (with_reducible rfl); refine CW.skip ?_; refine blkN ?_; refine thenN ?_; refine CW.region ?_; apply LW.v0; rfl; rfl; apply ValP.addZL; rfl; rfl; decide; omega; apply LW.v0; rfl; rfl; apply ValP.move; rfl; apply LW.nil)
        apply thenX
        exact ⟨rfl, m + 1, ⟨hlt, h8⟩, by omega, ⟨rfl, rfl, rfl, rfl, trivial⟩, List.nil_sublist _⟩
      · rw [if_neg hck, if_neg hck] at hrow5
        have hsz : sizeF pA = 0 := if_neg hck
        rw [hsz] at hSiz
        obtain ⟨p5, c5, rfl⟩ := hrow5.form
        (apply LW.guardT'; rfl; rfl; (with_reducible rfl); apply LW.callE; rfl; rfl; infer_instance; apply ArgsOk.cons; rfl; apply ArgsOk.cons; rfl; exact ArgsOk.nil; intro w _; rename_i hst; (exact hRmC w (hpA.at (st_us hst (by (repeat (first | exact List.Sublist.refl _ | exact List.sublist_append_left _ _ | apply List.Sublist.cons | apply List.sublist_append_of_sublist_right))))) (hpD.at (st_us hst (by (repeat (first | exact List.Sublist.refl _ | exact List.sublist_append_left _ _ | apply List.Sublist.cons | apply List.sublist_append_of_sublist_right)))))); apply LW.guardT'; rfl; rfl; (with_reducible rfl); apply LW.v0; rfl; rfl; apply ValP.notT; rfl; (with_reducible rfl); apply LW.v0; rfl; rfl; apply ValP.pickF'; rfl; (with_reducible rfl); rfl; apply LW.nil; refine thenN ?_; apply CW.condF; rfl; (with_reducible rfl); refine CW.skip ?_; refine thenN ?_; refine CW.seq ?_; refine CW.seq ?_; refine CW.region ?_; apply LW.v0; rfl; rfl; apply ValP.move; rfl; apply LW.v0; rfl; rfl; apply ValP.neT; rfl; rfl; omega; apply LW.nil; refine thenN ?_; apply CW.condT; rfl; (with_reducible rfl); refine CW.seq ?_; refine CW.seq ?_; refine CW.region ?_; apply LW.v0; rfl; rfl; apply ValP.move; rfl; apply LW.v0; rfl; rfl; apply ValP.lenR; rfl; infer_instance; rfl; apply LW.v0; rfl; rfl; apply ValP.neF; rfl; rfl; omega; apply LW.v0; rfl; rfl; apply ValP.move; rfl; apply LW.guardT'; rfl; rfl; (with_reducible rfl); apply LW.v0; rfl; rfl; apply ValP.move; rfl; apply LW.guardT'; rfl; rfl; (with_reducible rfl); apply LW.callE; rfl; rfl; infer_instance; apply ArgsOk.cons; rfl; exact ArgsOk.nil; intro w _; rename_i hst; (exact hSiz w (hpA.at (st_us hst (by (repeat (first | exact List.Sublist.refl _ | exact List.sublist_append_left _ _ | apply List.Sublist.cons | apply List.sublist_append_of_sublist_right)))))); apply LW.guardT'; rfl; rfl; (with_reducible rfl); apply LW.v0; rfl; rfl; apply ValP.neF; rfl; rfl; omega; apply LW.v0; rfl; rfl; apply ValP.pickF'; rfl; (with_reducible rfl); rfl; apply LW.nil; refine thenN ?_; apply CW.condF; rfl; (with_reducible rfl); refine CW.skip ?_; refine thenN ?_; refine CW.exit ?_; refine thenE ?_; refine blkE rfl ?_; refine thenN ?_; refine CW.region ?_; apply LW.v0; rfl; rfl; apply ValP.addZL; rfl; rfl; decide; omega; apply LW.v0; rfl; rfl; apply ValP.move; rfl; apply LW.nil)
        apply thenX
        exact ⟨rfl, m + 1, ⟨hlt, h8⟩, by omega, ⟨rfl, rfl, rfl, rfl, trivial⟩, List.nil_sublist _⟩
    · obtain rfl : m = 8 := by omega
      (refine CW.seq ?_; refine CW.region ?_; apply LW.v0; rfl; rfl; apply ValP.lssT; rfl; rfl; omega; apply LW.nil; refine thenN ?_; refine CW.seq ?_; apply CW.condT; rfl; (with_reducible rfl); refine CW.skip ?_; refine thenN ?_; refine CW.seq ?_; refine CW.block ?_; refine CW.seq ?_; refine CW.region ?_; apply LW.v0; rfl; rfl; apply ValP.move; rfl; apply LW.v0; rfl; rfl; apply ValP.indexAddrSL; rfl; rfl; decide; omega; apply LW.load; rfl; rfl; exact Known.ext (by assumption) (by simp); assumption; apply LW.v0; rfl; rfl; apply ValP.assign; rfl; apply LW.v0; rfl; rfl; apply ValP.assign; rfl; apply LW.nil; refine thenN ?_; refine CW.seq ?_; refine CW.seq ?_; refine CW.region ?_; apply LW.v0; rfl; rfl; apply ValP.move; rfl; apply LW.v0; rfl; rfl; apply ValP.eqT; rfl; rfl; omega; apply LW.nil; refine thenN ?_; apply CW.condT; rfl; (with_reducible rfl); refine CW.exit ?_; refine thenE ?_; refine blkO rfl ?_; refine thenE ?_; refine thenE ?_; refine blkE rfl ?_; refine thenN ?_; refine CW.seq ?_; refine CW.region ?_; apply LW.v0; rfl; rfl; apply ValP.assign; rfl; apply LW.nil; refine thenN ?_; refine CW.ret ?_)
      (apply finR; exact .inl rfl; rfl; rfl; rfl; apply ResL.cons; exact Res.tmp rfl; exact ResL.nil)
      rfl
  · (refine CW.seq ?_; refine CW.region ?_; apply LW.v0; rfl; rfl; apply ValP.lssF; rfl; rfl; omega; apply LW.nil; refine thenN ?_; refine CW.seq ?_; apply CW.condF; rfl; (with_reducible rfl); refine CW.exit ?_; refine thenE ?_; refine thenE ?_; refine blkE rfl ?_; refine thenN ?_; refine CW.seq ?_; refine CW.region ?_; apply LW.v0; rfl; rfl; apply ValP.assign; rfl; apply LW.nil; refine thenN ?_; refine CW.ret ?_)
    (apply finR; exact .inl rfl; rfl; rfl; rfl; apply ResL.cons; exact Res.tmp rfl; exact ResL.nil)
    rfl
end Go.Proofs.Ytailnglojnccnaa
