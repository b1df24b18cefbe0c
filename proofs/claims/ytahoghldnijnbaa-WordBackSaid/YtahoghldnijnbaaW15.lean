/-
  The sum of many: the law.
  Conditions: none.
-/
import Derived.Test.YtahoghldnijnbaaW14
import Derived.Test.YtahoghldnijnbaaSlq
namespace Go.Proofs.Ytahoghldnijnbaa
open Go Go.RowKit SL
set_option maxRecDepth 8000
set_option maxHeartbeats 4000000
set_option linter.unusedSimpArgs false
set_option linter.unusedVariables false
attribute [local irreducible] SL.CW SL.LW SL.DW Calls SL.Ret SL.RetG SL.beginQ SL.roundQ SL.rangeQ SL.inQ SL.RW SL.AnyW SL.thenQ SL.thenC SL.thenW SL.blkQ SL.finQ SL.ValP SL.NewP SL.SetP SL.CallP SL.Rd SL.Wr SL.Known
theorem wcs_take (l : List Nat) (k : Nat) : (wcs l).take (k * 4) = wcs (l.take k) := by
  induction l generalizing k with
  | nil => simp [wcs]
  | cons a l ih =>
    cases k with
    | zero => simp [wcs]
    | succ k =>
      have := ih k
      simp only [wcs, List.flatMap_cons, List.take_succ_cons] at *
      rw [← this, show (k + 1) * 4 = (wc a).toList.length + k * 4 by show (k + 1) * 4 = 4 + k * 4; omega, List.take_length_add_append]
theorem wcs_drop (l : List Nat) (k : Nat) : (wcs l).drop (k * 4) = wcs (l.drop k) := by
  induction l generalizing k with
  | nil => simp [wcs]
  | cons a l ih =>
    cases k with
    | zero => simp [wcs]
    | succ k =>
      have := ih k
      simp only [wcs, List.flatMap_cons, List.drop_succ_cons] at *
      rw [← this, show (k + 1) * 4 = (wc a).toList.length + k * 4 by show (k + 1) * 4 = 4 + k * 4; omega, List.drop_length_add_append]
theorem wcs_cells (l : List Nat) : ∀ u ∈ wcs l, u.oneCell' = true := fun u hu => by
  obtain ⟨a, _, hb⟩ := List.mem_flatMap.1 hu
  simp only [wc, List.mem_cons, List.not_mem_nil, or_false] at hb
  rcases hb with rfl | rfl | rfl | rfl <;> rfl
/-- The first k backwards, the others as they were. -/
def half (l : List Nat) (k : Nat) : List Nat := l.reverse.take k ++ l.drop k
theorem half_len (l : List Nat) (k : Nat) (h : k ≤ l.length) : (half l k).length = l.length := by simp [half]; omega
theorem half_step (l : List Nat) (k : Nat) (h : k < l.length) : wcs ((half l k).take k) ++ (wc l[l.length - 1 - k]).toList ++ wcs ((half l k).drop (k + 1)) = wcs (half l (k + 1)) := by
  have h1 : (l.reverse.take k).length = k := by simp; omega
  have e1 : (half l k).take k = l.reverse.take k := by unfold half; rw [List.take_append_of_le_length (by omega), List.take_of_length_le (by omega)]
  have e2 : (half l k).drop (k + 1) = l.drop (k + 1) := by
    unfold half
    rw [List.drop_append, h1, List.drop_eq_nil_of_le (by omega), List.nil_append, List.drop_drop]
    congr 1; omega
  have hr : k < l.reverse.length := by simpa using h
  rw [e1, e2, show (wc l[l.length - 1 - k]).toList = wcs [l[l.length - 1 - k]] by simp [wcs], ← wcs_app, ← wcs_app]
  unfold half
  rw [List.take_succ_eq_append_getElem hr, List.getElem_reverse]
structure RW1 where
  m : Nat
  seg : Fs
theorem WordMany_walk (v : Value) (l : List Nat) (n : Int) (hl : ∀ a ∈ l, a < M256) (hn : (Lit.int .i64 n).wf = true) (w : World) (hv : RowAt w 4 v l.length (wcs l)) : Calls Try.prog 5 #[v, .int .i64 n] w (Ret w (.bool true)) := by
  obtain ⟨p, c, rfl, hc, hm⟩ := hv.form
  simp only [maxLen] at hm
  obtain ⟨L, hL⟩ : ∃ L, L = l.take 12 := ⟨_, rfl⟩
  have hLl : L.length = min l.length 12 := by rw [hL, List.length_take]; omega
  have hLw : ∀ a ∈ L, a < M256 := fun a ha => hl a (List.mem_of_mem_take (hL ▸ ha))
  have hv2 : RowAt w 4 (.slice p (min l.length 12) c) L.length (wcs L) := by
    have := hv.take (k := min l.length 12) (by omega)
    rw [wcs_take] at this
    rw [hLl, hL, show l.take 12 = l.take (min l.length 12) by rw [Nat.min_comm, ← List.take_take, List.take_length]]
    exact this
  refine enter (args := [_, _]) _ [] [] Try.func5 rfl Try.ntmps5 rfl (by simp) .nil ?_
  (refine CW.seq ?_; refine CW.region ?_; apply LW.v0; rfl; rfl; apply ValP.assign; rfl; apply LW.nil; refine thenN ?_; refine CW.seq ?_; refine CW.seq ?_; refine CW.region ?_; apply LW.callE; rfl; rfl; infer_instance; exact ArgsOk.nil; intro w _; exact wakes_calls w; apply LW.v0; rfl; rfl; apply ValP.notT; rfl; (with_reducible rfl); apply LW.nil; refine thenN ?_; apply CW.condF; rfl; (with_reducible rfl); refine CW.skip ?_; refine thenN ?_; refine CW.seq ?_; refine CW.region ?_; apply LW.v0; rfl; rfl; apply ValP.move; rfl; apply LW.v0; rfl; rfl; apply ValP.move; rfl; apply LW.v0; rfl; rfl; apply ValP.lenR; rfl; infer_instance; rfl; apply LW.v0; rfl; rfl; apply ValP.minZL; rfl; rfl; decide; apply LW.v0; rfl; rfl; apply ValP.cutTo; infer_instance; infer_instance; rfl; rfl; omega; apply LW.v0; rfl; rfl; apply ValP.assign; rfl; apply LW.nil; refine thenN ?_; refine CW.seq ?_; refine CW.region ?_; apply LW.v0; rfl; rfl; apply ValP.move; rfl; apply LW.callE; rfl; rfl; infer_instance; apply ArgsOk.cons; rfl; exact ArgsOk.nil; intro w _; exact Sum_calls _ _ hLw w (hv2.st (by assumption)); apply LW.v0; rfl; rfl; apply ValP.move; rfl; apply LW.v0; rfl; rfl; apply ValP.extractN; rfl; rfl; apply LW.v0; rfl; rfl; apply ValP.extractN; rfl; rfl; apply LW.allocW; rfl; intro _; apply LW.store; rfl; rfl; apply SetAt.head; apply Wr.whole; rfl; rfl; rfl; apply LW.v0; rfl; rfl; apply ValP.assign; rfl; apply LW.nil; refine thenN ?_; refine CW.seq ?_; refine CW.region ?_)
  apply LW.lay0
  rfl
  infer_instance
  infer_instance
  intro v0 seg0 hrow0
  obtain ⟨p0, c0, rfl⟩ := hrow0.form
  (apply LW.v0; rfl; rfl; apply ValP.move; rfl)
  (apply LW.appendAny; (case hrow => assumption); rfl; rfl; infer_instance; infer_instance; infer_instance; rfl; rfl; rfl; exact AtSeg.head)
  · exact fun w hs => hv2.st hs
  · exact wcs_cells L
  · simp only [maxLen]; omega
  · omega
  intro v1 seg1 hrow1
  obtain ⟨p1, c1, rfl⟩ := hrow1.form
  refine ⟨_, (by (exact AtSeg.head)), ?_⟩
  simp only [List.nil_append, Nat.zero_add] at hrow1 ⊢
  (apply LW.v0; rfl; rfl; apply ValP.assign; rfl; apply LW.nil; refine thenN ?_; refine CW.seq ?_; refine CW.seq ?_; refine CW.region ?_; apply LW.v0; rfl; rfl; apply ValP.move; rfl; apply LW.v0; rfl; rfl; apply ValP.lenR; rfl; infer_instance; rfl; apply LW.v0; rfl; rfl; apply ValP.move; rfl; apply LW.nil; refine thenN ?_; refine CW.block ?_)
  rename_i bs
  rw [← hLl]
  rw [← hLl] at hv2
  refine CW.loop (fun x : RW1 => ([(35, .int .i64 (x.m : Int)), (34, .int .i64 (L.length : Int)), (7, .slice p1 L.length c1), (6, .bool (decide (M256 ≤ L.sum))), (5, .pointer (some ⟨bs, 0, none⟩)), (0, .slice p L.length c), (1, .int .i64 n)], x.seg ++ [(bs, .cells (wc (L.sum % M256)) 24 (0, 0))]))
    (fun x => x.m ≤ L.length ∧ IsRow 24 4 (.slice p1 L.length c1) L.length (wcs (half L x.m)) x.seg) (fun x => L.length - x.m) ⟨0, seg1⟩ ⟨Nat.zero_le _, by simpa [half] using hrow1⟩ ⟨rfl, rfl, rfl, rfl, rfl, rfl, rfl, trivial⟩ (List.Sublist.refl _) ?_
  rintro ⟨m, seg⟩ ⟨hml, hrow⟩
  dsimp only at hml hrow ⊢
  rcases Nat.lt_or_ge m L.length with hlt | hge
  · obtain ⟨b, off, c', cs, E, fr, heq, hb, hx⟩ := hv2.pos (by omega)
    cases heq
    obtain ⟨g, cur, rfl, rfl, hc1, hmx, hsz, ht⟩ := hrow.pos (by omega)
    have hrd : Rd Try.prog 24 (.cells cs E fr) (off + (L.length - 1 - m) * 4) (wv L[L.length - 1 - m]) := Rd.elemA (g := fun a => (wc a).toList) (l := L) (a := L[L.length - 1 - m]) hx (wcs_len L) (List.getElem?_eq_getElem (by omega))
    obtain ⟨a, ha⟩ : ∃ a, a = L[L.length - 1 - m] := ⟨_, rfl⟩
    rw [← ha] at hrd
    obtain ⟨w1, w2⟩ := wr_take (i := m) (vs := (wc a).toList) ht rfl hlt (by omega)
    have hW : Wr Try.prog 24 (.cells cur 24 (0, 0)) (0 + m * 4) (wv a) (.cells (wrCells cur (m * 4) (wc a).toList) 24 (0, 0)) := Wr.cells rfl rfl (by rw [hsz]; show 0 + m * 4 + 4 ≤ c1 * 4; omega) (by rw [Nat.zero_add]; rfl)
    (refine CW.seq ?_; refine CW.region ?_; apply LW.v0; rfl; rfl; apply ValP.lssT; rfl; rfl; omega; apply LW.nil; refine thenN ?_; refine CW.seq ?_; apply CW.condT; rfl; (with_reducible rfl); refine CW.skip ?_; refine thenN ?_; refine CW.seq ?_; refine CW.block ?_; refine CW.seq ?_; refine CW.region ?_; apply LW.v0; rfl; rfl; apply ValP.move; rfl; apply LW.v0; rfl; rfl; apply ValP.assign; rfl; apply LW.nil; refine thenN ?_; refine CW.region ?_; apply LW.v0; rfl; rfl; apply ValP.move; rfl; apply LW.v0; rfl; rfl; apply ValP.move; rfl; apply LW.v0; rfl; rfl; apply ValP.move; rfl; apply LW.v0; rfl; rfl; apply ValP.move; rfl; apply LW.v0; rfl; rfl; apply ValP.lenR; rfl; infer_instance; rfl; apply LW.v0; rfl; rfl; apply ValP.subZL; rfl; rfl; decide; omega; omega; apply LW.v0; rfl; rfl; apply ValP.move; rfl; apply LW.v0; rfl; rfl; apply ValP.subZ; rfl; rfl; omega; omega; apply LW.v0; rfl; rfl; apply ValP.indexAddrS; rfl; rfl; rfl; omega; apply LW.load; rfl; rfl; exact Known.ext (by assumption) (by simp); assumption; apply LW.v0; rfl; rfl; apply ValP.indexAddrS; rfl; rfl; rfl; omega; apply LW.store; rfl; rfl; apply SetAt.head; assumption; apply LW.nil; refine blkN ?_; refine thenN ?_; refine CW.region ?_; apply LW.v0; rfl; rfl; apply ValP.addZL; rfl; rfl; decide; omega; apply LW.v0; rfl; rfl; apply ValP.move; rfl; apply LW.nil)
    apply thenX
    refine ⟨rfl, ⟨m + 1, [(g, .cells (wrCells cur (m * 4) (wc a).toList) 24 (0, 0))]⟩, ⟨hlt, .own hc1 hmx (by rw [w2, hsz]) ?_ ?_⟩, by show L.length - (m + 1) < L.length - m; omega, ⟨rfl, rfl, rfl, rfl, rfl, rfl, rfl, trivial⟩, by (exact List.Sublist.refl _)⟩
    · rw [w1, wcs_take, wcs_drop, ha, half_step L m hlt]
    · have := half_len L (m + 1) hlt
      rw [show (wcs (half L (m + 1))).length = (half L (m + 1)).length * 4 from flat_len (wcs_len _), this]
  · obtain rfl : m = L.length := by omega
    have hrev : half L L.length = L.reverse := by unfold half; rw [List.drop_length, List.append_nil, List.take_of_length_le (by simp)]
    rw [hrev] at hrow
    have hRw : ∀ a ∈ L.reverse, a < M256 := fun a ha => hLw a (by simpa using ha)
    have hback : ∀ w' fs pre post, St w [] fs w' → AtSeg fs pre seg post → RowAt w' 4 (.slice p1 L.length c1) L.reverse.length (wcs L.reverse) := fun w' fs pre post hs h => by rw [List.length_reverse]; exact hrow.atSeg h hs
    have hsum : L.reverse.sum = L.sum := List.sum_reverse _
    have hq1 : L.sum % M256 = L.reverse.sum % M256 := by rw [hsum]
    have hq2 : decide (M256 ≤ L.sum) = decide (M256 ≤ L.reverse.sum) := by rw [hsum]
    obtain ⟨k, hk⟩ : ∃ k, k = (n % 18446744073709551616).toNat % (L.length + 1) := ⟨_, rfl⟩
    have hkl : k ≤ L.length := by rw [hk]; exact Nat.le_of_lt_succ (Nat.mod_lt _ (Nat.succ_pos _))
    have hA : RowAt w 4 (.slice p k c) (L.take k).length (wcs (L.take k)) := by
      have := hv2.take hkl
      rw [wcs_take] at this
      rwa [List.length_take, Nat.min_eq_left hkl]
    have hB : RowAt w 4 (cutAt p k L.length c 4) (L.drop k).length (wcs (L.drop k)) := by
      have := hv2.drop hkl
      rw [wcs_drop] at this
      rwa [List.length_drop]
    have hAw : ∀ a ∈ L.take k, a < M256 := fun a ha => hLw a (List.mem_of_mem_take ha)
    have hBw : ∀ a ∈ L.drop k, a < M256 := fun a ha => hLw a (List.mem_of_mem_drop ha)
    have hAB : (L.take k).sum + (L.drop k).sum = L.sum := by rw [← List.sum_append, List.take_append_drop]
    generalize hA0 : (L.take k).sum = A at hAB
    generalize hB0 : (L.drop k).sum = B at hAB
    obtain ⟨xA, hxA⟩ : ∃ x, x = decide (M256 ≤ A) := ⟨_, rfl⟩
    obtain ⟨xB, hxB⟩ : ∃ x, x = decide (M256 ≤ B) := ⟨_, rfl⟩
    have cA : ∀ w' fs, St w [] fs w' → Calls Try.prog 25 #[.slice p k c] w' (Ret w' (.tuple #[wv (A % M256), .bool xA])) := fun w' fs hs => by
      rw [hxA, ← hA0]; exact Sum_calls _ _ hAw w' (hA.st hs)
    have cB : ∀ w' fs, St w [] fs w' → Calls Try.prog 25 #[cutAt p k L.length c 4] w' (Ret w' (.tuple #[wv (B % M256), .bool xB])) := fun w' fs hs => by
      rw [hxB, ← hB0]; exact Sum_calls _ _ hBw w' (hB.st hs)
    have ht1 : (A % M256 + B % M256) % M256 = L.sum % M256 := by rw [← Nat.add_mod, hAB]
    have hAm : A % M256 < M256 := Nat.mod_lt _ (by decide)
    have hBm : B % M256 < M256 := Nat.mod_lt _ (by decide)
    have hck : k ≤ c := by omega
    (refine CW.seq ?_; refine CW.region ?_; apply LW.v0; rfl; rfl; apply ValP.lssF; rfl; rfl; omega; apply LW.nil; refine thenN ?_; refine CW.seq ?_; apply CW.condF; rfl; (with_reducible rfl); refine CW.exit ?_; refine thenE ?_; refine thenE ?_; refine blkE rfl ?_; refine thenN ?_; refine CW.seq ?_; refine CW.region ?_; apply LW.v0; rfl; rfl; apply ValP.move; rfl; apply LW.callE; rfl; rfl; infer_instance; apply ArgsOk.cons; rfl; exact ArgsOk.nil; intro w _; (exact Sum_calls _ _ hRw w (hback _ _ _ _ (by assumption) (by (repeat (first | exact AtSeg.head | apply AtSeg.cons | apply AtSeg.app))))); apply LW.v0; rfl; rfl; apply ValP.move; rfl; apply LW.v0; rfl; rfl; apply ValP.extractN; rfl; rfl; apply LW.v0; rfl; rfl; apply ValP.extractN; rfl; rfl; apply LW.allocW; rfl; intro _; apply LW.store; rfl; rfl; apply SetAt.head; apply Wr.whole; rfl; rfl; rfl; apply LW.v0; rfl; rfl; apply ValP.assign; rfl; apply LW.nil; refine thenN ?_; refine CW.seq ?_; refine CW.seq ?_; refine CW.region ?_; apply LW.load; rfl; rfl; apply Known.at; apply FsAt.tail; apply FsAt.app; apply FsAt.head; exact Rd.whole rfl; apply LW.load; rfl; rfl; apply Known.at; apply FsAt.head; exact Rd.whole rfl; apply LW.v0; rfl; rfl; apply ValP.neWF; rfl; rfl; assumption; apply LW.v0; rfl; rfl; apply ValP.move; rfl; apply LW.guardT'; rfl; rfl; (with_reducible rfl); apply LW.v0; rfl; rfl; apply ValP.move; rfl; apply LW.guardT'; rfl; rfl; (with_reducible rfl); apply LW.v0; rfl; rfl; apply ValP.move; rfl; apply LW.guardT'; rfl; rfl; (with_reducible rfl); apply LW.v0; rfl; rfl; apply ValP.boolNeF; rfl; rfl; assumption; apply LW.v0; rfl; rfl; apply ValP.pickF'; rfl; (with_reducible rfl); rfl; apply LW.nil; refine thenN ?_; apply CW.condF; rfl; (with_reducible rfl); refine CW.skip ?_; refine thenN ?_; refine CW.seq ?_; refine CW.region ?_; apply LW.v0; rfl; rfl; apply ValP.move; rfl; apply LW.v0; rfl; rfl; apply ValP.convU; rfl; apply LW.v0; rfl; rfl; apply ValP.move; rfl; apply LW.v0; rfl; rfl; apply ValP.lenR; rfl; infer_instance; rfl; apply LW.v0; rfl; rfl; apply ValP.addZL; rfl; rfl; decide; omega; apply LW.v0; rfl; rfl; apply ValP.convN; rfl; omega; omega; apply LW.v0; rfl; rfl; apply ValP.remN; rfl; rfl; omega; apply LW.v0; rfl; rfl; apply ValP.convI; rfl; omega; omega; apply LW.v0; rfl; rfl; apply ValP.assign; rfl; apply LW.nil; refine thenN ?_; refine CW.seq ?_; refine CW.region ?_; apply LW.v0; rfl; rfl; apply ValP.move; rfl; apply LW.v0; rfl; rfl; apply ValP.move; rfl; apply LW.v0; rfl; rfl; apply ValP.cutTo; infer_instance; infer_instance; rfl; rfl; omega)
    rw [← hk]
    cases xA
    · have h1 : A < M256 := by simpa using hxA.symm
      cases xB
      · have h2 : B < M256 := by simpa using hxB.symm
        have hz : decide (M256 ≤ L.sum) = decide (M256 ≤ A % M256 + B % M256) := by rw [Nat.mod_eq_of_lt h1, Nat.mod_eq_of_lt h2, hAB]
        (apply LW.callE; rfl; rfl; infer_instance; apply ArgsOk.cons; rfl; exact ArgsOk.nil; intro w _; exact cA w _ (by assumption); apply LW.v0; rfl; rfl; apply ValP.move; rfl; apply LW.v0; rfl; rfl; apply ValP.extractN; rfl; rfl; apply LW.v0; rfl; rfl; apply ValP.extractN; rfl; rfl; apply LW.allocW; rfl; intro _; apply LW.store; rfl; rfl; apply SetAt.head; apply Wr.whole; rfl; rfl; rfl; apply LW.v0; rfl; rfl; apply ValP.assign; rfl; apply LW.nil; refine thenN ?_; refine CW.seq ?_; refine CW.region ?_; apply LW.v0; rfl; rfl; apply ValP.move; rfl; apply LW.v0; rfl; rfl; apply ValP.move; rfl; apply LW.v0; rfl; rfl; apply ValP.cutFrom; infer_instance; infer_instance; rfl; rfl; omega; apply LW.callE; rfl; rfl; infer_instance; apply ArgsOk.cons; rfl; exact ArgsOk.nil; intro w _; exact cB w _ (by assumption); apply LW.v0; rfl; rfl; apply ValP.move; rfl; apply LW.v0; rfl; rfl; apply ValP.extractN; rfl; rfl; apply LW.v0; rfl; rfl; apply ValP.extractN; rfl; rfl; apply LW.allocW; rfl; intro _; apply LW.store; rfl; rfl; apply SetAt.head; apply Wr.whole; rfl; rfl; rfl; apply LW.v0; rfl; rfl; apply ValP.assign; rfl; apply LW.nil; refine thenN ?_; refine CW.seq ?_; refine CW.region ?_; apply LW.load; rfl; rfl; apply Known.at; apply FsAt.tail; apply FsAt.head; exact Rd.whole rfl; apply LW.load; rfl; rfl; apply Known.at; apply FsAt.head; exact Rd.whole rfl; apply LW.callE; rfl; rfl; infer_instance; apply ArgsOk.cons; rfl; apply ArgsOk.cons; rfl; exact ArgsOk.nil; intro w _; refine Add_calls _ _ ?_ ?_ w; assumption; assumption; apply LW.v0; rfl; rfl; apply ValP.move; rfl; apply LW.v0; rfl; rfl; apply ValP.extractN; rfl; rfl; apply LW.v0; rfl; rfl; apply ValP.extractN; rfl; rfl; apply LW.allocW; rfl; intro _; apply LW.store; rfl; rfl; apply SetAt.head; apply Wr.whole; rfl; rfl; rfl; apply LW.v0; rfl; rfl; apply ValP.assign; rfl; apply LW.nil; refine thenN ?_; refine CW.seq ?_; refine CW.region ?_; apply LW.load; rfl; rfl; apply Known.at; apply FsAt.head; exact Rd.whole rfl; apply LW.load; rfl; rfl; apply Known.at; apply FsAt.tail; apply FsAt.tail; apply FsAt.tail; apply FsAt.tail; apply FsAt.app; apply FsAt.head; exact Rd.whole rfl; apply LW.v0; rfl; rfl; apply ValP.eqWT; rfl; rfl; assumption; apply LW.v0; rfl; rfl; apply ValP.move; rfl; apply LW.guardT'; rfl; rfl; (with_reducible rfl); apply LW.v0; rfl; rfl; apply ValP.move; rfl; apply LW.guardT'; rfl; rfl; (with_reducible rfl); apply LW.v0; rfl; rfl; apply ValP.move; rfl; apply LW.guardT'; rfl; rfl; (with_reducible rfl); apply LW.v0; rfl; rfl; apply ValP.move; rfl; apply LW.guardT'; rfl; rfl; (with_reducible rfl); apply LW.v0; rfl; rfl; apply ValP.move; rfl; apply LW.guardT'; rfl; rfl; (with_reducible rfl); apply LW.v0; rfl; rfl; apply ValP.pickF'; rfl; (with_reducible rfl); rfl; apply LW.guardT'; rfl; rfl; (with_reducible rfl); apply LW.v0; rfl; rfl; apply ValP.move; rfl; apply LW.guardT'; rfl; rfl; (with_reducible rfl); apply LW.v0; rfl; rfl; apply ValP.move; rfl; apply LW.guardT'; rfl; rfl; (with_reducible rfl); apply LW.v0; rfl; rfl; apply ValP.pickF'; rfl; (with_reducible rfl); rfl; apply LW.guardT'; rfl; rfl; (with_reducible rfl); apply LW.v0; rfl; rfl; apply ValP.boolEqT; rfl; rfl; assumption; apply LW.v0; rfl; rfl; apply ValP.pickT'; rfl; (with_reducible rfl); rfl; apply LW.v0; rfl; rfl; apply ValP.assign; rfl; apply LW.nil; refine thenN ?_; refine CW.ret ?_)
        (apply finR; exact .inl rfl; rfl; rfl; rfl; apply ResL.cons; exact Res.tmp rfl; exact ResL.nil)
        rfl
      · have h2 : M256 ≤ B := by simpa using hxB.symm
        have hz : decide (M256 ≤ L.sum) = true := decide_eq_true (by omega)
        (apply LW.callE; rfl; rfl; infer_instance; apply ArgsOk.cons; rfl; exact ArgsOk.nil; intro w _; exact cA w _ (by assumption); apply LW.v0; rfl; rfl; apply ValP.move; rfl; apply LW.v0; rfl; rfl; apply ValP.extractN; rfl; rfl; apply LW.v0; rfl; rfl; apply ValP.extractN; rfl; rfl; apply LW.allocW; rfl; intro _; apply LW.store; rfl; rfl; apply SetAt.head; apply Wr.whole; rfl; rfl; rfl; apply LW.v0; rfl; rfl; apply ValP.assign; rfl; apply LW.nil; refine thenN ?_; refine CW.seq ?_; refine CW.region ?_; apply LW.v0; rfl; rfl; apply ValP.move; rfl; apply LW.v0; rfl; rfl; apply ValP.move; rfl; apply LW.v0; rfl; rfl; apply ValP.cutFrom; infer_instance; infer_instance; rfl; rfl; omega; apply LW.callE; rfl; rfl; infer_instance; apply ArgsOk.cons; rfl; exact ArgsOk.nil; intro w _; exact cB w _ (by assumption); apply LW.v0; rfl; rfl; apply ValP.move; rfl; apply LW.v0; rfl; rfl; apply ValP.extractN; rfl; rfl; apply LW.v0; rfl; rfl; apply ValP.extractN; rfl; rfl; apply LW.allocW; rfl; intro _; apply LW.store; rfl; rfl; apply SetAt.head; apply Wr.whole; rfl; rfl; rfl; apply LW.v0; rfl; rfl; apply ValP.assign; rfl; apply LW.nil; refine thenN ?_; refine CW.seq ?_; refine CW.region ?_; apply LW.load; rfl; rfl; apply Known.at; apply FsAt.tail; apply FsAt.head; exact Rd.whole rfl; apply LW.load; rfl; rfl; apply Known.at; apply FsAt.head; exact Rd.whole rfl; apply LW.callE; rfl; rfl; infer_instance; apply ArgsOk.cons; rfl; apply ArgsOk.cons; rfl; exact ArgsOk.nil; intro w _; refine Add_calls _ _ ?_ ?_ w; assumption; assumption; apply LW.v0; rfl; rfl; apply ValP.move; rfl; apply LW.v0; rfl; rfl; apply ValP.extractN; rfl; rfl; apply LW.v0; rfl; rfl; apply ValP.extractN; rfl; rfl; apply LW.allocW; rfl; intro _; apply LW.store; rfl; rfl; apply SetAt.head; apply Wr.whole; rfl; rfl; rfl; apply LW.v0; rfl; rfl; apply ValP.assign; rfl; apply LW.nil; refine thenN ?_; refine CW.seq ?_; refine CW.region ?_; apply LW.load; rfl; rfl; apply Known.at; apply FsAt.head; exact Rd.whole rfl; apply LW.load; rfl; rfl; apply Known.at; apply FsAt.tail; apply FsAt.tail; apply FsAt.tail; apply FsAt.tail; apply FsAt.app; apply FsAt.head; exact Rd.whole rfl; apply LW.v0; rfl; rfl; apply ValP.eqWT; rfl; rfl; assumption; apply LW.v0; rfl; rfl; apply ValP.move; rfl; apply LW.guardT'; rfl; rfl; (with_reducible rfl); apply LW.v0; rfl; rfl; apply ValP.move; rfl; apply LW.guardT'; rfl; rfl; (with_reducible rfl); apply LW.v0; rfl; rfl; apply ValP.move; rfl; apply LW.guardT'; rfl; rfl; (with_reducible rfl); apply LW.v0; rfl; rfl; apply ValP.move; rfl; apply LW.guardT'; rfl; rfl; (with_reducible rfl); apply LW.v0; rfl; rfl; apply ValP.move; rfl; apply LW.guardT'; rfl; rfl; (with_reducible rfl); apply LW.v0; rfl; rfl; apply ValP.pickF'; rfl; (with_reducible rfl); rfl; apply LW.guardT'; rfl; rfl; (with_reducible rfl); apply LW.v0; rfl; rfl; apply ValP.move; rfl; apply LW.guardF'; rfl; rfl; simp only [Bool.not_true, Bool.not_false]; rfl; apply LW.guardT'; rfl; rfl; (with_reducible rfl); apply LW.v0; rfl; rfl; apply ValP.pickT'; rfl; (with_reducible rfl); rfl; apply LW.guardT'; rfl; rfl; (with_reducible rfl); apply LW.v0; rfl; rfl; apply ValP.boolEqT; rfl; rfl; assumption; apply LW.v0; rfl; rfl; apply ValP.pickT'; rfl; (with_reducible rfl); rfl; apply LW.v0; rfl; rfl; apply ValP.assign; rfl; apply LW.nil; refine thenN ?_; refine CW.ret ?_)
        (apply finR; exact .inl rfl; rfl; rfl; rfl; apply ResL.cons; exact Res.tmp rfl; exact ResL.nil)
        rfl
    · have h1 : M256 ≤ A := by simpa using hxA.symm
      have hz : decide (M256 ≤ L.sum) = true := decide_eq_true (by omega)
      (apply LW.callE; rfl; rfl; infer_instance; apply ArgsOk.cons; rfl; exact ArgsOk.nil; intro w _; exact cA w _ (by assumption); apply LW.v0; rfl; rfl; apply ValP.move; rfl; apply LW.v0; rfl; rfl; apply ValP.extractN; rfl; rfl; apply LW.v0; rfl; rfl; apply ValP.extractN; rfl; rfl; apply LW.allocW; rfl; intro _; apply LW.store; rfl; rfl; apply SetAt.head; apply Wr.whole; rfl; rfl; rfl; apply LW.v0; rfl; rfl; apply ValP.assign; rfl; apply LW.nil; refine thenN ?_; refine CW.seq ?_; refine CW.region ?_; apply LW.v0; rfl; rfl; apply ValP.move; rfl; apply LW.v0; rfl; rfl; apply ValP.move; rfl; apply LW.v0; rfl; rfl; apply ValP.cutFrom; infer_instance; infer_instance; rfl; rfl; omega; apply LW.callE; rfl; rfl; infer_instance; apply ArgsOk.cons; rfl; exact ArgsOk.nil; intro w _; exact cB w _ (by assumption); apply LW.v0; rfl; rfl; apply ValP.move; rfl; apply LW.v0; rfl; rfl; apply ValP.extractN; rfl; rfl; apply LW.v0; rfl; rfl; apply ValP.extractN; rfl; rfl; apply LW.allocW; rfl; intro _; apply LW.store; rfl; rfl; apply SetAt.head; apply Wr.whole; rfl; rfl; rfl; apply LW.v0; rfl; rfl; apply ValP.assign; rfl; apply LW.nil; refine thenN ?_; refine CW.seq ?_; refine CW.region ?_; apply LW.load; rfl; rfl; apply Known.at; apply FsAt.tail; apply FsAt.head; exact Rd.whole rfl; apply LW.load; rfl; rfl; apply Known.at; apply FsAt.head; exact Rd.whole rfl; apply LW.callE; rfl; rfl; infer_instance; apply ArgsOk.cons; rfl; apply ArgsOk.cons; rfl; exact ArgsOk.nil; intro w _; refine Add_calls _ _ ?_ ?_ w; assumption; assumption; apply LW.v0; rfl; rfl; apply ValP.move; rfl; apply LW.v0; rfl; rfl; apply ValP.extractN; rfl; rfl; apply LW.v0; rfl; rfl; apply ValP.extractN; rfl; rfl; apply LW.allocW; rfl; intro _; apply LW.store; rfl; rfl; apply SetAt.head; apply Wr.whole; rfl; rfl; rfl; apply LW.v0; rfl; rfl; apply ValP.assign; rfl; apply LW.nil; refine thenN ?_; refine CW.seq ?_; refine CW.region ?_; apply LW.load; rfl; rfl; apply Known.at; apply FsAt.head; exact Rd.whole rfl; apply LW.load; rfl; rfl; apply Known.at; apply FsAt.tail; apply FsAt.tail; apply FsAt.tail; apply FsAt.tail; apply FsAt.app; apply FsAt.head; exact Rd.whole rfl; apply LW.v0; rfl; rfl; apply ValP.eqWT; rfl; rfl; assumption; apply LW.v0; rfl; rfl; apply ValP.move; rfl; apply LW.guardT'; rfl; rfl; (with_reducible rfl); apply LW.v0; rfl; rfl; apply ValP.move; rfl; apply LW.guardT'; rfl; rfl; (with_reducible rfl); apply LW.v0; rfl; rfl; apply ValP.move; rfl; apply LW.guardT'; rfl; rfl; (with_reducible rfl); apply LW.v0; rfl; rfl; apply ValP.move; rfl; apply LW.guardF'; rfl; rfl; simp only [Bool.not_true, Bool.not_false]; rfl; apply LW.guardT'; rfl; rfl; (with_reducible rfl); apply LW.v0; rfl; rfl; apply ValP.pickT'; rfl; (with_reducible rfl); rfl; apply LW.guardT'; rfl; rfl; (with_reducible rfl); apply LW.v0; rfl; rfl; apply ValP.move; rfl; apply LW.guardF'; rfl; rfl; simp only [Bool.not_true, Bool.not_false]; rfl; apply LW.guardT'; rfl; rfl; (with_reducible rfl); apply LW.v0; rfl; rfl; apply ValP.pickT'; rfl; (with_reducible rfl); rfl; apply LW.guardT'; rfl; rfl; (with_reducible rfl); apply LW.v0; rfl; rfl; apply ValP.boolEqT; rfl; rfl; assumption; apply LW.v0; rfl; rfl; apply ValP.pickT'; rfl; (with_reducible rfl); rfl; apply LW.v0; rfl; rfl; apply ValP.assign; rfl; apply LW.nil; refine thenN ?_; refine CW.ret ?_)
      (apply finR; exact .inl rfl; rfl; rfl; rfl; apply ResL.cons; exact Res.tmp rfl; exact ResL.nil)
      rfl
end Go.Proofs.Ytahoghldnijnbaa
