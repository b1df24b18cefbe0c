/-
  Texts that were built apart, put behind one another (6 of 6): CK.
  Conditions: none.
-/
import Derived.Test.YtbhicncgjplnoaaDoorP5
/-
  Each place is read once: plain, and the walk.
  Conditions: none.
-/
namespace Go.Proofs.YtbhicncgjplnoaaDoor
open Go Go.RowKit SL
set_option maxRecDepth 8000
set_option maxHeartbeats 4000000
set_option linter.unusedSimpArgs false
set_option linter.unusedVariables false
attribute [local irreducible] SL.CW SL.LW SL.DW Calls SL.Ret SL.RetG SL.beginQ SL.roundQ SL.rangeQ SL.inQ SL.RW SL.AnyW SL.thenQ SL.thenC SL.thenW SL.blkQ SL.finQ SL.ValP SL.NewP SL.SetP SL.CallP SL.Rd SL.Wr SL.Known
attribute [local irreducible] opOf named parseU szOf
/-! ### Plain: places and data -/
theorem places_gen (n : Nat) : ∀ (bs : List UInt8) (p : Nat), bs.length ≤ n → (segsAt p bs).map (·.1) = (List.range' p bs.length).filter fun i => (segsAt p bs).any fun s => decide (s.1 = i) := by
  induction n with
  | zero =>
    intro bs p h
    rw [List.eq_nil_of_length_eq_zero (show bs.length = 0 by omega), segsAt_nil]; rfl
  | succ n ih =>
    intro bs p h
    cases bs with
    | nil => rw [segsAt_nil]; rfl
    | cons b r =>
      obtain ⟨z, hz⟩ : ∃ z, szOf b.toNat = z := ⟨_, rfl⟩
      have IH := ih (r.drop z) (p + 1 + z) (by simp at h ⊢; omega)
      have hge : ∀ s ∈ segsAt (p + 1 + z) (r.drop z), p + 1 + z ≤ s.1 := segsAt_ge _ _ _ (Nat.le_refl _)
      rw [segsAt_cons, hz, List.map_cons, IH, List.length_cons, List.range'_succ, List.filter_cons, List.any_cons, show decide (p = p) = true from decide_eq_true rfl, Bool.true_or, if_pos rfl]
      congr 1
      have hlow : ∀ i, p < i → i < p + 1 + z → (((p, b, r.take z) :: segsAt (p + 1 + z) (r.drop z)).any fun s => decide (s.1 = i)) = false := fun i h1 h2 => by
        refine List.any_eq_false.2 fun s hs => ?_
        rcases List.mem_cons.1 hs with rfl | hs
        · simp; omega
        · have := hge s hs; simp; omega
      have hhigh : ∀ i, p + 1 + z ≤ i → (((p, b, r.take z) :: segsAt (p + 1 + z) (r.drop z)).any fun s => decide (s.1 = i)) = ((segsAt (p + 1 + z) (r.drop z)).any fun s => decide (s.1 = i)) := fun i h1 => by
        rw [List.any_cons, show decide (p = i) = false from decide_eq_false (by omega), Bool.false_or]
      rcases Nat.lt_or_ge r.length z with h1 | h1
      · rw [List.drop_eq_nil_of_le (by omega)] at hlow ⊢
        symm
        exact List.filter_eq_nil_iff.2 fun i hi => by
          have := List.mem_range'_1.1 hi
          rw [hlow i (by omega) (by omega)]; decide
      · rw [List.length_drop, show r.length = z + (r.length - z) by omega, ← List.range'_append_1, List.filter_append, show z + (r.length - z) - z = r.length - z by omega]
        have hA : ((List.range' (p + 1) z).filter fun i => ((p, b, r.take z) :: segsAt (p + 1 + z) (r.drop z)).any fun s => decide (s.1 = i)) = [] := List.filter_eq_nil_iff.2 fun i hi => by
          have := List.mem_range'_1.1 hi
          rw [hlow i (by omega) (by omega)]; decide
        rw [hA, List.nil_append]
        exact List.filter_congr fun i hi => (hhigh i (List.mem_range'_1.1 hi).1).symm
theorem cover_gen (n : Nat) : ∀ (bs : List UInt8) (p : Nat), bs.length ≤ n → ∀ i, p ≤ i → i < p + bs.length → ∃ s ∈ segsAt p bs, s.1 ≤ i ∧ i ≤ s.1 + szOf s.2.1.toNat := by
  induction n with
  | zero => intro bs p h i h1 h2; omega
  | succ n ih =>
    intro bs p h i h1 h2
    cases bs with
    | nil => simp at h2; omega
    | cons b r =>
      rw [segsAt_cons]
      obtain ⟨z, hz⟩ : ∃ z, szOf b.toNat = z := ⟨_, rfl⟩
      rw [hz]
      rw [List.length_cons] at h h2
      rcases Nat.lt_or_ge i (p + 1 + z) with hi | hi
      · exact ⟨_, List.mem_cons_self, h1, by dsimp only; omega⟩
      · obtain ⟨s, hs, h3, h4⟩ := ih (r.drop z) (p + 1 + z) (by rw [List.length_drop]; omega) i hi (by rw [List.length_drop]; omega)
        exact ⟨s, List.mem_cons_of_mem _ hs, h3, h4⟩
theorem apart_gen (n : Nat) : ∀ (bs : List UInt8) (p : Nat), bs.length ≤ n → ∀ s ∈ segsAt p bs, ∀ s' ∈ segsAt p bs, s.1 < s'.1 → s.1 + szOf s.2.1.toNat < s'.1 := by
  induction n with
  | zero =>
    intro bs p h s hs
    rw [List.eq_nil_of_length_eq_zero (show bs.length = 0 by omega), segsAt_nil] at hs
    cases hs
  | succ n ih =>
    intro bs p h s hs s' hs' hlt
    cases bs with
    | nil => rw [segsAt_nil] at hs; cases hs
    | cons b r =>
      rw [segsAt_cons] at hs hs'
      obtain ⟨z, hz⟩ : ∃ z, szOf b.toNat = z := ⟨_, rfl⟩
      rw [hz] at hs hs'
      have hge : ∀ s ∈ segsAt (p + 1 + z) (r.drop z), p + 1 + z ≤ s.1 := segsAt_ge _ _ _ (Nat.le_refl _)
      rcases List.mem_cons.1 hs with rfl | hs
      · rcases List.mem_cons.1 hs' with rfl | hs'
        · omega
        · have := hge s' hs'; dsimp only; omega
      · rcases List.mem_cons.1 hs' with rfl | hs'
        · have := hge s hs; dsimp only at hlt; omega
        · exact ih (r.drop z) (p + 1 + z) (by simp at h ⊢; omega) s hs s' hs' hlt
theorem seg_at {bs : List UInt8} {k : Nat} (h : readB bs (k : Int) = true) : ∃ s ∈ segsAt 0 bs, s.1 = k ∧ s.2.1 = bs.getD k 0 := by
  obtain ⟨s, hs, he⟩ := readB_mem h
  have := (segs_byte _ bs 0 (Nat.le_refl _) s hs).1
  rw [Nat.sub_zero, he] at this
  exact ⟨s, hs, he, this.symm⟩
/-- Is place i data of an operation that is read ahead of place k? -/
def cov (bs : List UInt8) (k i : Nat) : Bool := (List.range k).any fun p => readB bs (p : Int) && decide (p < i ∧ i ≤ p + szOf (bs.getD p 0).toNat)
theorem cov_self {bs : List UInt8} {k : Nat} (hk : k < bs.length) : cov bs k k = !readB bs (k : Int) := by
  cases hr : readB bs (k : Int) with
  | true =>
    refine List.any_eq_false.2 fun p hp => ?_
    have hpk := List.mem_range.1 hp
    cases hrp : readB bs (p : Int) with
    | false => simp
    | true =>
      obtain ⟨s, hs, h1, h2⟩ := seg_at hrp
      obtain ⟨s', hs', h3, h4⟩ := seg_at hr
      have := apart_gen _ bs 0 (Nat.le_refl _) s hs s' hs' (by omega)
      rw [h1, h2, h3] at this
      rw [Bool.true_and, decide_eq_false (by omega)]; decide
  | false =>
    obtain ⟨s, hs, h1, h2⟩ := cover_gen _ bs 0 (Nat.le_refl _) k (Nat.zero_le _) (by omega)
    have hrs := mem_readB hs
    have hne : s.1 ≠ k := fun e => by rw [e, hr] at hrs; cases hrs
    have hb := (segs_byte _ bs 0 (Nat.le_refl _) s hs).1
    rw [Nat.sub_zero] at hb
    refine List.any_eq_true.2 ⟨s.1, List.mem_range.2 (by omega), ?_⟩
    rw [hrs, hb, Bool.true_and]
    exact decide_eq_true ⟨by omega, h2⟩
theorem cov_zero (bs : List UInt8) (i : Nat) : cov bs 0 i = false := rfl
theorem cov_no {bs : List UInt8} {k : Nat} (h : readB bs (k : Int) = false) (i : Nat) : cov bs (k + 1) i = cov bs k i := by
  unfold cov; rw [List.range_succ, List.any_append]; simp [h]
theorem cov_yes {bs : List UInt8} {k : Nat} (h : readB bs (k : Int) = true) (i : Nat) : cov bs (k + 1) i = (cov bs k i || decide (k < i ∧ i ≤ k + szOf (bs.getD k 0).toNat)) := by
  unfold cov; rw [List.range_succ, List.any_append, List.any_cons, h]; simp
/-- What is marked: data of what is read ahead of place k, and the m places behind it. -/
def mkL (bs : List UInt8) (k m : Nat) : List Bool := (List.range bs.length).map fun i => cov bs k i || decide (k < i ∧ i ≤ k + m)
theorem mkL_len (bs : List UInt8) (k m : Nat) : (mkL bs k m).length = bs.length := by simp [mkL]
theorem mkL_get (bs : List UInt8) (k m i : Nat) (h : i < bs.length) : (mkL bs k m)[i]? = some (cov bs k i || decide (k < i ∧ i ≤ k + m)) := by
  unfold mkL; rw [List.getElem?_map, List.getElem?_range h]; rfl
theorem mkL_ext {bs : List UInt8} {L : List Bool} {k m : Nat} (hl : L.length = bs.length) (h : ∀ i, i < bs.length → L[i]? = some (cov bs k i || decide (k < i ∧ i ≤ k + m))) : L = mkL bs k m := by
  refine List.ext_getElem? fun i => ?_
  rcases Nat.lt_or_ge i bs.length with hi | hi
  · rw [h i hi, mkL_get bs k m i hi]
  · rw [List.getElem?_eq_none (by omega), List.getElem?_eq_none (by rw [mkL_len]; omega)]
theorem mkL_zero (bs : List UInt8) : List.replicate bs.length false = mkL bs 0 0 := mkL_ext (by simp) fun i hi => by
  rw [List.getElem?_replicate, if_pos hi, cov_zero, decide_eq_false (by omega)]; rfl
theorem mkL_no {bs : List UInt8} {k : Nat} (h : readB bs (k : Int) = false) : mkL bs k 0 = mkL bs (k + 1) 0 := mkL_ext (mkL_len _ _ _) fun i hi => by
  rw [mkL_get bs k 0 i hi, cov_no h, decide_eq_false (by omega), decide_eq_false (by omega)]
theorem mkL_yes {bs : List UInt8} {k : Nat} (h : readB bs (k : Int) = true) : mkL bs k (szOf (bs.getD k 0).toNat) = mkL bs (k + 1) 0 := mkL_ext (mkL_len _ _ _) fun i hi => by
  rw [mkL_get _ _ _ i hi, cov_yes h, show decide (k + 1 < i ∧ i ≤ k + 1 + 0) = false from decide_eq_false (by omega), Bool.or_false]
theorem mkL_set {bs : List UInt8} {k m : Nat} (h : k + 1 + m < bs.length) : (mkL bs k m).set (k + 1 + m) true = mkL bs k (m + 1) := mkL_ext (by rw [List.length_set, mkL_len]) fun i hi => by
  rw [List.getElem?_set]
  split
  · rename_i he
    rw [if_pos (by rw [mkL_len]; exact h)]
    subst he
    rw [decide_eq_true (by omega), Bool.or_true]
  · rename_i he
    rw [mkL_get bs k m i hi]
    congr 2
    exact decide_eq_decide.2 (by omega)
theorem mkL_end {bs : List UInt8} {k m : Nat} (h : bs.length ≤ k + 1 + m) : mkL bs k m = mkL bs k (m + 1) := mkL_ext (mkL_len _ _ _) fun i hi => by
  rw [mkL_get bs k m i hi]
  congr 2
  exact decide_eq_decide.2 (by omega)
/-! ### Plain: how many -/
def opsN (bs : List UInt8) (k : Nat) : Nat := ((List.range k).filter fun i : Nat => readB bs (i : Int)).length
theorem opsN_no {bs : List UInt8} {k : Nat} (h : readB bs (k : Int) = false) : opsN bs (k + 1) = opsN bs k := by
  unfold opsN; rw [List.range_succ, List.filter_append]; simp [h]
theorem opsN_yes {bs : List UInt8} {k : Nat} (h : readB bs (k : Int) = true) : opsN bs (k + 1) = opsN bs k + 1 := by
  unfold opsN; rw [List.range_succ, List.filter_append]; simp [h]
theorem opsN_le (bs : List UInt8) (k : Nat) : opsN bs k ≤ k := by
  have := List.length_filter_le (fun i : Nat => readB bs (i : Int)) (List.range k)
  rw [List.length_range] at this
  exact this
theorem opsN_len (bs : List UInt8) : opsN bs bs.length = (segsAt 0 bs).length := by
  have h := congrArg List.length (places_gen _ bs 0 (Nat.le_refl _))
  rw [List.length_map] at h
  rw [h]
  unfold opsN
  rw [List.range_eq_range']
  congr 1
  refine List.filter_congr fun i _ => ?_
  unfold readB
  congr 1
  funext s
  exact decide_eq_decide.2 (by omega)
def isOpW (w : List UInt8) : Bool := (named w).isSome || decide (w.take 1 = [46])
def wcount (W : List (List UInt8)) : Nat := (W.filter isOpW).length
theorem wcount_app (a b : List (List UInt8)) : wcount (a ++ b) = wcount a + wcount b := by unfold wcount; rw [List.filter_append, List.length_append]
theorem hxs_dot (d : List UInt8) : (hxs d).take 1 ≠ [46] := by
  cases d with
  | nil => decide
  | cons b r =>
    have hb := b.toNat_lt
    have e : hxs (b :: r) = hexd (b.toNat / 16) :: hexd (b.toNat % 16) :: hxs r := rfl
    rw [e, List.take_succ_cons, List.take_zero]
    intro h
    injection h with h1 h2
    exact (hexd_ne _ (by omega)).2 h1
theorem wcount_of (u : UInt8) (d : List UInt8) : wcount (wordsOf u d) = 1 := by
  have hu := u.toNat_lt
  unfold wordsOf
  cases ho : opOf u.toNat with
  | none =>
    dsimp only
    have : isOpW (46 :: hx2 u) = true := by unfold isOpW; rw [show (46 :: hx2 u).take 1 = [46] from rfl, decide_eq_true rfl, Bool.or_true]
    unfold wcount
    rw [List.filter_cons, this]; rfl
  | some y =>
    dsimp only
    have h1 : isOpW y.nm = true := by unfold isOpW; rw [named_nm hu ho]; rfl
    have h2 : isOpW (hxs d) = false := by unfold isOpW; rw [named_hxs, decide_eq_false (hxs_dot d)]; rfl
    unfold wcount
    split
    · rw [List.filter_cons, h1, List.filter_cons, h2]; rfl
    · rw [List.filter_cons, h1]; rfl
theorem wcount_segs : ∀ L : List (Nat × UInt8 × List UInt8), wcount (wordsS L) = L.length
  | [] => rfl
  | (p, u, d) :: L => by rw [wordsS_cons, wcount_app, wcount_of, wcount_segs L, List.length_cons]; omega
theorem once_eq (bs : List UInt8) : wcount (wordsL bs) = opsN bs bs.length := by rw [opsN_len]; exact wcount_segs _
theorem text_nil {bs : List UInt8} (h : textL bs = []) : bs = [] := by
  have := wordsT_text bs
  rw [h] at this
  have h2 : wordsL bs = [] := this.symm
  have h3 := once_eq bs
  rw [h2, opsN_len] at h3
  cases bs with
  | nil => rfl
  | cons b r => rw [segsAt_cons] at h3; cases h3
/-! ### The walk -/
attribute [local irreducible] textL
def bls1 (l : List Bool) : List Value := l.flatMap fun b => [Value.bool b]
theorem bls1_map (l : List Bool) : bls1 l = l.map Value.bool := by
  induction l with
  | nil => rfl
  | cons a l ih => simp [bls1] at *; exact ih
theorem bls1_one (l : List Bool) : ∀ b ∈ l, ([Value.bool b] : List Value).length = 1 := fun _ _ => rfl
def bla (l : List Bool) : Array Value := (bls1 l).toArray
theorem bla_size (l : List Bool) : (bla l).size = l.length := by simp [bla, bls1_map]
theorem bla_set (l : List Bool) (i : Nat) (b : Bool) : wrCells (bla l) i [Value.bool b] = bla (l.set i b) := by
  apply Array.toList_inj.1
  simp [wrCells, bla, bls1_map, List.map_set]
theorem rd_bla {P : Program} {T : TypeId} {l : List Bool} {k : Nat} {b : Bool} {E : TypeId} {fr : Nat × Nat} [AgI P T false] (h : l[k]? = some b) : Rd P T (.cells (bla l) E fr) (0 + k * 1) (.bool b) :=
  Rd.elem1 (m := l.length) (off := 0) (by rw [List.drop_zero]; exact List.take_of_length_le (by simp [bla, bls1_map])) (bls1_one l) h rfl
theorem wr_bla {P : Program} {T : TypeId} {z : Value} {l : List Bool} {k : Nat} {b : Bool} {E : TypeId} [InfoI P T 1 z] (h : k < l.length) : Wr P T (.cells (bla l) E (0, 0)) (0 + k * 1) (.bool b) (.cells (bla (l.set k b)) E (0, 0)) :=
  Wr.cells rfl rfl (by rw [bla_size]; show 0 + k * 1 + 1 ≤ l.length; omega) (by rw [← bla_set, Nat.zero_add, Nat.mul_one]; rfl)
structure IX where
  i : Nat
theorem CodeOnce_walk (v : Value) (bs : List UInt8) (w : World) (hv : RowAt w 1 v bs.length (ucs bs)) : Calls Tryd.prog 8 #[v] w (Ret w (.bool true)) := by
  have hT0 : ∀ w' {fs}, St w [] fs w' → Calls Tryd.prog 15 #[v] w' (Ret w' (TextV bs)) := fun w' fs hst => Text_calls bs v w' (hv.st hst)
  have hJ0 : ∀ (k : Nat), k < 300 → ∀ w' {fs}, St w [] fs w' → Calls Tryd.prog 23 #[v, .int .u64 (k : Int)] w' (Ret w' (.bool (jumpC bs k))) := fun k hk w' fs hst => Jump_calls bs k (by omega) v w' (hv.st hst)
  obtain ⟨p0, c0, rfl, hc0, hm0⟩ := hv.form
  refine enter (args := [_]) _ [] [] Tryd.func8 rfl Tryd.ntmps8 rfl (by simp) .nil ?_
  rcases Nat.lt_or_ge 200 bs.length with hgt | hle
  · (refine CW.seq ?_; refine CW.region ?_; apply LW.v0; rfl; rfl; apply ValP.assign; rfl; apply LW.nil; refine thenN ?_; refine CW.seq ?_; refine CW.seq ?_; refine CW.region ?_; apply LW.callE; rfl; rfl; infer_instance; exact ArgsOk.nil; intro w _; exact wakes_calls w; apply LW.v0; rfl; rfl; apply ValP.notT; rfl; (with_reducible rfl); apply LW.nil; refine thenN ?_; apply CW.condF; rfl; (with_reducible rfl); refine CW.skip ?_; refine thenN ?_; refine CW.seq ?_; refine CW.seq ?_; refine CW.region ?_; apply LW.v0; rfl; rfl; apply ValP.move; rfl; apply LW.v0; rfl; rfl; apply ValP.lenR; rfl; infer_instance; rfl; apply LW.v0; rfl; rfl; apply ValP.gtrT; rfl; rfl; omega; apply LW.nil; refine thenN ?_; apply CW.condT; rfl; (with_reducible rfl); refine CW.seq ?_; refine CW.region ?_; apply LW.v0; rfl; rfl; apply ValP.assign; rfl; apply LW.nil; refine thenN ?_; refine CW.ret ?_; refine thenR ?_)
    (apply finR; exact .inl rfl; rfl; rfl; rfl; apply ResL.cons; exact Res.tmp rfl; exact ResL.nil)
    rfl
  have hjq : ∀ k, k < bs.length → jumpC bs k = hitB bs k := fun k hk => by rw [jump_eq bs hle]; unfold rJumpC; rw [decide_eq_true hk, Bool.true_and]
  have htl := textL_len bs
  have hsp := wordsT_text bs
  have htn := @text_nil bs
  have honce := once_eq bs
  have hwc : (wordsL bs).length ≤ 3000 := by
    have h := segs_sum _ bs 0 (Nat.le_refl _)
    have : (wordsL bs).length ≤ lenS (wordsL bs) := by
      have key : ∀ l : List (List UInt8), l.length ≤ lenS l := fun l => by
        induction l with
        | nil => exact Nat.le_refl _
        | cons y r ih => simp only [lenS, List.map_cons, List.sum_cons, List.length_cons] at *; omega
      exact key _
    unfold wordsL at *
    omega
  (refine CW.seq ?_; refine CW.region ?_; apply LW.v0; rfl; rfl; apply ValP.assign; rfl; apply LW.nil; refine thenN ?_; refine CW.seq ?_; refine CW.seq ?_; refine CW.region ?_; apply LW.callE; rfl; rfl; infer_instance; exact ArgsOk.nil; intro w _; exact wakes_calls w; apply LW.v0; rfl; rfl; apply ValP.notT; rfl; (with_reducible rfl); apply LW.nil; refine thenN ?_; apply CW.condF; rfl; (with_reducible rfl); refine CW.skip ?_; refine thenN ?_; refine CW.seq ?_; refine CW.seq ?_; refine CW.region ?_; apply LW.v0; rfl; rfl; apply ValP.move; rfl; apply LW.v0; rfl; rfl; apply ValP.lenR; rfl; infer_instance; rfl; apply LW.v0; rfl; rfl; apply ValP.gtrF; rfl; rfl; omega; apply LW.nil; refine thenN ?_; apply CW.condF; rfl; (with_reducible rfl); refine CW.skip ?_; refine thenN ?_; refine CW.seq ?_; refine CW.region ?_; apply LW.v0; rfl; rfl; apply ValP.move; rfl; apply LW.v0; rfl; rfl; apply ValP.lenR; rfl; infer_instance; rfl)
  refine LW.makeOwn rfl inferInstance inferInstance inferInstance rfl rfl (by omega) (by simp only [maxLen]; omega) fun g => ?_
  rw [show (List.replicate bs.length (Value.bool false)).toArray = bla (mkL bs 0 0) by rw [← mkL_zero, bla, bls1_map, List.map_replicate]]
  (apply LW.v0; rfl; rfl; apply ValP.assign; rfl; apply LW.nil; refine thenN ?_; refine CW.seq ?_; refine CW.region ?_; apply LW.v0; rfl; rfl; apply ValP.assign; rfl; apply LW.nil; refine thenN ?_; refine CW.seq ?_; refine CW.seq ?_; refine CW.region ?_; apply LW.v0; rfl; rfl; apply ValP.move; rfl; apply LW.v0; rfl; rfl; apply ValP.lenR; rfl; infer_instance; rfl; apply LW.v0; rfl; rfl; apply ValP.move; rfl; apply LW.nil; refine thenN ?_; refine CW.block ?_)
  refine CW.loop (fun k : Nat => ([(0, .slice p0 bs.length c0), (3, .slice (some ⟨g, 0, none⟩) bs.length bs.length), (4, .int .i64 (opsN bs k : Int)), (26, .int .i64 (bs.length : Int)), (27, .int .i64 (k : Int))], [(g, .cells (bla (mkL bs k 0)) 4 (0, 0))]))
    (fun k => k ≤ bs.length) (fun k => bs.length - k) 0 (Nat.zero_le _) ⟨rfl, rfl, rfl, rfl, rfl, trivial⟩ (List.Sublist.refl _) ?_
  intro k hk
  dsimp only
  have hol := opsN_le bs k
  rcases Nat.lt_or_ge k bs.length with hlt | hge
  · obtain ⟨bb, off, c', cs, E, fr, heq, hbk, hx⟩ := hv.pos (by omega)
    cases heq
    obtain ⟨u, hu⟩ : ∃ u, bs.getD k 0 = u := ⟨_, rfl⟩
    have hrdB : Rd Tryd.prog 5 (.cells cs E fr) (off + k * 1) (.int .u8 (u.toNat : Int)) := Rd.elem1 hx (ucs_one bs) (List.getElem?_eq_getElem hlt) (by rw [← hu]; simp [hlt])
    have hub : u.toNat < 256 := u.toNat_lt
    have hcv := mkL_get bs k 0 k hlt
    rw [cov_self hlt, decide_eq_false (by omega), Bool.or_false] at hcv
    have hrdM := rd_bla (P := Tryd.prog) (T := 4) (E := 4) (fr := (0, 0)) hcv
    have hJk := hJ0 k (by omega)
    rw [hjq k hlt] at hJk
    unfold hitB at hJk
    rw [hu] at hJk
    cases hr : readB bs (k : Int) with
    | false =>
      rw [hr] at hrdM hJk
      rw [Bool.and_false] at hJk
      have hJp := hJk
      have hmn := mkL_no hr
      have hon := opsN_no hr
      (refine CW.seq ?_; refine CW.region ?_; apply LW.v0; rfl; rfl; apply ValP.lssT; rfl; rfl; omega; apply LW.nil; refine thenN ?_; refine CW.seq ?_; apply CW.condT; rfl; (with_reducible rfl); refine CW.skip ?_; refine thenN ?_; refine CW.seq ?_; refine CW.block ?_; refine CW.seq ?_; refine CW.region ?_; apply LW.v0; rfl; rfl; apply ValP.move; rfl; apply LW.v0; rfl; rfl; apply ValP.assign; rfl; apply LW.nil; refine thenN ?_; refine CW.seq ?_; refine CW.seq ?_; refine CW.region ?_; apply LW.v0; rfl; rfl; apply ValP.move; rfl; apply LW.v0; rfl; rfl; apply ValP.move; rfl; apply LW.v0; rfl; rfl; apply ValP.indexAddrS; rfl; rfl; rfl; omega; apply LW.load; rfl; rfl; apply Known.at; apply FsAt.head; assumption; apply LW.nil; refine thenN ?_; apply CW.condT; rfl; simp only [Bool.not_true, Bool.not_false]; refine CW.seq ?_; refine CW.seq ?_; refine CW.region ?_; apply LW.v0; rfl; rfl; apply ValP.move; rfl; apply LW.v0; rfl; rfl; apply ValP.move; rfl)
      refine LW.callR rfl rfl inferInstance (by (apply ArgsOk.cons; rfl; apply ArgsOk.cons; rfl; exact ArgsOk.nil)) (fun w' hst => Data_calls bs (k : Int) _ w' (hv.st hst)) ?_
      intro v1 g1 h1
      rw [show dataC bs (k : Int) = [] from (if_pos hle).trans (dataL_none hr)] at h1
      obtain ⟨q1, d1, rfl⟩ := h1.form
      have hl1 : ([] : List UInt8).length = 0 := rfl
      rw [hl1]
      (apply LW.v0; rfl; rfl; apply ValP.lenR; rfl; infer_instance; rfl; apply LW.v0; rfl; rfl; apply ValP.neF; rfl; rfl; omega; apply LW.v0; rfl; rfl; apply ValP.move; rfl; apply LW.guardT'; rfl; rfl; (with_reducible rfl); apply LW.v0; rfl; rfl; apply ValP.move; rfl; apply LW.guardT'; rfl; rfl; (with_reducible rfl); apply LW.v0; rfl; rfl; apply ValP.move; rfl; apply LW.guardT'; rfl; rfl; (with_reducible rfl); apply LW.v0; rfl; rfl; apply ValP.convN; rfl; omega; omega; apply LW.guardT'; rfl; rfl; (with_reducible rfl); apply LW.callE; rfl; rfl; infer_instance; apply ArgsOk.cons; rfl; apply ArgsOk.cons; rfl; exact ArgsOk.nil; intro w _; exact hJp w (by assumption); apply LW.v0; rfl; rfl; apply ValP.pickF'; rfl; (with_reducible rfl); rfl; apply LW.nil; refine thenN ?_; apply CW.condF; rfl; (with_reducible rfl); refine CW.skip ?_; refine thenN ?_; refine CW.exit ?_; refine thenE ?_; refine blkE rfl ?_; refine thenN ?_; refine CW.region ?_; apply LW.v0; rfl; rfl; apply ValP.addZL; rfl; rfl; decide; omega; apply LW.v0; rfl; rfl; apply ValP.move; rfl; apply LW.nil)
      apply thenX
      exact ⟨rfl, k + 1, hlt, by omega, ⟨rfl, rfl, by rw [hon]; rfl, rfl, rfl, trivial⟩, by rw [← hmn]; (apply List.sublist_append_of_sublist_right; exact List.Sublist.refl _)⟩
    | true =>
      rw [hr] at hrdM hJk
      rw [Bool.and_true] at hJk
      have hmy := mkL_yes hr
      have hoy := opsN_yes hr
      rw [hu] at hmy
      have hdl : dataC bs (k : Int) = datF bs k (szOf u.toNat) := by rw [show dataC bs (k : Int) = dataL bs k from if_pos hle, dataL_some hr, hu]
      have hO0 := Of_op_calls u.toNat hub
      have hzl := szOf_le u.toNat
      have hfl := datF_len bs k (szOf u.toNat)
      cases ho : opOf u.toNat with
      | none =>
        have hzd : zeroOp.dt = 0 := rfl
        have hz := szOf_none ho
        rw [ho] at hO0
        have hOf : ∀ w, Calls Tryd.prog 11 #[.int .u8 (u.toNat : Int)] w (Ret w (.tuple #[.agg (opc zeroOp), .int .i64 4])) := hO0
        obtain ⟨z, hze⟩ : ∃ z, szOf u.toNat = z := ⟨_, rfl⟩
        rw [hze] at hz hzl hfl hdl hmy
        by_cases h91 : u.toNat = 91
        · rw [decide_eq_true h91] at hJk
          have hJp := hJk
          (refine CW.seq ?_; refine CW.region ?_; apply LW.v0; rfl; rfl; apply ValP.lssT; rfl; rfl; omega; apply LW.nil; refine thenN ?_; refine CW.seq ?_; apply CW.condT; rfl; (with_reducible rfl); refine CW.skip ?_; refine thenN ?_; refine CW.seq ?_; refine CW.block ?_; refine CW.seq ?_; refine CW.region ?_; apply LW.v0; rfl; rfl; apply ValP.move; rfl; apply LW.v0; rfl; rfl; apply ValP.assign; rfl; apply LW.nil; refine thenN ?_; refine CW.seq ?_; refine CW.seq ?_; refine CW.region ?_; apply LW.v0; rfl; rfl; apply ValP.move; rfl; apply LW.v0; rfl; rfl; apply ValP.move; rfl; apply LW.v0; rfl; rfl; apply ValP.indexAddrS; rfl; rfl; rfl; omega; apply LW.load; rfl; rfl; apply Known.at; apply FsAt.head; assumption; apply LW.nil; refine thenN ?_; apply CW.condF; rfl; simp only [Bool.not_true, Bool.not_false]; refine CW.skip ?_; refine thenN ?_; refine CW.seq ?_; refine CW.region ?_; apply LW.v0; rfl; rfl; apply ValP.move; rfl; apply LW.v0; rfl; rfl; apply ValP.addZL; rfl; rfl; decide; omega; apply LW.v0; rfl; rfl; apply ValP.assign; rfl; apply LW.nil; refine thenN ?_; refine CW.seq ?_; refine CW.region ?_; apply LW.v0; rfl; rfl; apply ValP.move; rfl; apply LW.v0; rfl; rfl; apply ValP.move; rfl)
          refine LW.callR rfl rfl inferInstance (by (apply ArgsOk.cons; rfl; apply ArgsOk.cons; rfl; exact ArgsOk.nil)) (fun w' hst => Data_calls bs (k : Int) _ w' (hv.st hst)) ?_
          intro v1 g1 h1
          rw [hdl] at h1
          obtain ⟨q1, d1, rfl⟩ := h1.form
          (apply LW.v0; rfl; rfl; apply ValP.assign; rfl; apply LW.nil; refine thenN ?_; refine CW.seq ?_; refine CW.region ?_; apply LW.v0; rfl; rfl; apply ValP.move; rfl; apply LW.v0; rfl; rfl; apply ValP.move; rfl; apply LW.v0; rfl; rfl; apply ValP.indexAddrS; rfl; rfl; rfl; omega; apply LW.load; rfl; rfl; exact Known.ext (by assumption) (by simp); assumption; apply LW.callE; rfl; rfl; infer_instance; apply ArgsOk.cons; rfl; exact ArgsOk.nil; intro w _; exact hOf w; apply LW.v0; rfl; rfl; apply ValP.move; rfl; apply LW.v0; rfl; rfl; apply ValP.extractN; rfl; rfl; apply LW.v0; rfl; rfl; apply ValP.extractN; rfl; rfl; apply LW.allocA; rfl; intro _; apply LW.store; rfl; rfl; apply SetAt.head; apply Wr.whole; rfl; rfl; rfl; apply LW.v0; rfl; rfl; apply ValP.assign; rfl; apply LW.nil; refine thenN ?_; refine CW.seq ?_; refine CW.seq ?_; refine CW.quiet rfl mixed (by decide +kernel) ?_; apply QW.v0; rfl; exact WantT.none; apply ValP.move; rfl; apply QW.v0; rfl; exact WantT.none; apply ValP.eqF; rfl; rfl; omega; apply QW.v0; rfl; exact WantT.none; apply ValP.fieldAddr; rfl; rfl; apply QW.load; rfl; exact WantT.none; rfl; apply Known.at; apply FsAt.head; exact Rd.one' rfl; apply QW.v0; rfl; exact WantT.none; apply ValP.strNeF; rfl; rfl; decide; apply QW.v0; rfl; exact WantT.none; apply ValP.boolNeF; rfl; rfl; (with_reducible rfl); apply QW.v0; rfl; exact WantT.none; apply ValP.move; rfl; apply QW.v0; rfl; apply wantYes; rfl; rfl; (with_reducible rfl); apply ValP.move; rfl; apply QW.v0; rfl; apply wantYes; rfl; rfl; (with_reducible rfl); apply ValP.lenR; rfl; infer_instance; rfl; apply QW.v0; rfl; apply wantYes; rfl; rfl; (with_reducible rfl); apply ValP.fieldAddr; rfl; rfl; apply QW.load; rfl; apply wantYes; rfl; rfl; (with_reducible rfl); rfl; apply Known.at; apply FsAt.head; exact Rd.one' rfl; apply QW.v0; rfl; apply wantYes; rfl; rfl; (with_reducible rfl); apply ValP.neF; rfl; rfl; omega; apply QW.v0; rfl; exact WantT.none; apply ValP.pickF'; rfl; (with_reducible rfl); rfl; apply QW.v0; rfl; exact WantT.none; apply ValP.move; rfl; apply QW.v0; rfl; apply wantYes; rfl; rfl; (with_reducible rfl); apply ValP.move; rfl; apply QW.v0; rfl; apply wantYes; rfl; rfl; (with_reducible rfl); apply ValP.move; rfl; apply QW.v0; rfl; apply wantYes; rfl; rfl; (with_reducible rfl); apply ValP.convN; rfl; omega; omega; apply QW.callE; rfl; apply wantYes; rfl; rfl; (with_reducible rfl); rfl; infer_instance; apply ArgsOk.cons; rfl; apply ArgsOk.cons; rfl; exact ArgsOk.nil; intro w _; exact hJp w (by assumption); apply QW.v0; rfl; apply wantYes; rfl; rfl; (with_reducible rfl); apply ValP.move; rfl; apply QW.v0; rfl; apply wantYes; rfl; rfl; (with_reducible rfl); apply ValP.move; rfl; apply QW.v0; rfl; apply wantYes; rfl; rfl; (with_reducible rfl); apply ValP.indexAddrS; rfl; rfl; rfl; omega; apply QW.load; rfl; apply wantYes; rfl; rfl; (with_reducible rfl); rfl; exact Known.ext (by assumption) (by simp); assumption; apply QW.v0; rfl; apply wantYes; rfl; rfl; (with_reducible rfl); apply ValP.eqT; rfl; rfl; omega; apply QW.v0; rfl; apply wantYes; rfl; rfl; (with_reducible rfl); apply ValP.boolNeF; rfl; rfl; (with_reducible rfl); apply QW.v0; rfl; exact WantT.none; apply ValP.pickF'; rfl; (with_reducible rfl); rfl; refine QW.nil ?_; refine thenN ?_; apply CW.condF; rfl; (with_reducible rfl); refine CW.skip ?_; refine thenN ?_; refine CW.seq ?_; refine CW.region ?_; apply LW.v0; rfl; rfl; apply ValP.move; rfl; apply LW.v0; rfl; rfl; apply ValP.lenR; rfl; infer_instance; rfl; apply LW.v0; rfl; rfl; apply ValP.move; rfl; apply LW.nil; refine thenN ?_; refine CW.block ?_)
          rw [hz] at hmy
          apply CW.rounds 1
          (apply RW.step; refine CW.seq ?_; refine CW.region ?_; apply LW.v0; rfl; rfl; apply ValP.lssF; rfl; rfl; omega; apply LW.nil; refine thenN ?_; refine CW.seq ?_; apply CW.condF; rfl; (with_reducible rfl); refine CW.exit ?_; refine thenE ?_; refine thenE ?_; refine blkE rfl ?_; refine blkN ?_; refine thenN ?_; refine CW.region ?_; apply LW.v0; rfl; rfl; apply ValP.addZL; rfl; rfl; decide; omega; apply LW.v0; rfl; rfl; apply ValP.move; rfl; apply LW.nil)
          apply thenX
          exact ⟨rfl, k + 1, hlt, by omega, ⟨rfl, rfl, by rw [hoy]; rfl, rfl, rfl, trivial⟩, by rw [← hmy]; (apply List.Sublist.cons; apply List.sublist_append_of_sublist_right; exact List.Sublist.refl _)⟩
        · rw [decide_eq_false h91] at hJk
          have hJp := hJk
          (refine CW.seq ?_; refine CW.region ?_; apply LW.v0; rfl; rfl; apply ValP.lssT; rfl; rfl; omega; apply LW.nil; refine thenN ?_; refine CW.seq ?_; apply CW.condT; rfl; (with_reducible rfl); refine CW.skip ?_; refine thenN ?_; refine CW.seq ?_; refine CW.block ?_; refine CW.seq ?_; refine CW.region ?_; apply LW.v0; rfl; rfl; apply ValP.move; rfl; apply LW.v0; rfl; rfl; apply ValP.assign; rfl; apply LW.nil; refine thenN ?_; refine CW.seq ?_; refine CW.seq ?_; refine CW.region ?_; apply LW.v0; rfl; rfl; apply ValP.move; rfl; apply LW.v0; rfl; rfl; apply ValP.move; rfl; apply LW.v0; rfl; rfl; apply ValP.indexAddrS; rfl; rfl; rfl; omega; apply LW.load; rfl; rfl; apply Known.at; apply FsAt.head; assumption; apply LW.nil; refine thenN ?_; apply CW.condF; rfl; simp only [Bool.not_true, Bool.not_false]; refine CW.skip ?_; refine thenN ?_; refine CW.seq ?_; refine CW.region ?_; apply LW.v0; rfl; rfl; apply ValP.move; rfl; apply LW.v0; rfl; rfl; apply ValP.addZL; rfl; rfl; decide; omega; apply LW.v0; rfl; rfl; apply ValP.assign; rfl; apply LW.nil; refine thenN ?_; refine CW.seq ?_; refine CW.region ?_; apply LW.v0; rfl; rfl; apply ValP.move; rfl; apply LW.v0; rfl; rfl; apply ValP.move; rfl)
          refine LW.callR rfl rfl inferInstance (by (apply ArgsOk.cons; rfl; apply ArgsOk.cons; rfl; exact ArgsOk.nil)) (fun w' hst => Data_calls bs (k : Int) _ w' (hv.st hst)) ?_
          intro v1 g1 h1
          rw [hdl] at h1
          obtain ⟨q1, d1, rfl⟩ := h1.form
          (apply LW.v0; rfl; rfl; apply ValP.assign; rfl; apply LW.nil; refine thenN ?_; refine CW.seq ?_; refine CW.region ?_; apply LW.v0; rfl; rfl; apply ValP.move; rfl; apply LW.v0; rfl; rfl; apply ValP.move; rfl; apply LW.v0; rfl; rfl; apply ValP.indexAddrS; rfl; rfl; rfl; omega; apply LW.load; rfl; rfl; exact Known.ext (by assumption) (by simp); assumption; apply LW.callE; rfl; rfl; infer_instance; apply ArgsOk.cons; rfl; exact ArgsOk.nil; intro w _; exact hOf w; apply LW.v0; rfl; rfl; apply ValP.move; rfl; apply LW.v0; rfl; rfl; apply ValP.extractN; rfl; rfl; apply LW.v0; rfl; rfl; apply ValP.extractN; rfl; rfl; apply LW.allocA; rfl; intro _; apply LW.store; rfl; rfl; apply SetAt.head; apply Wr.whole; rfl; rfl; rfl; apply LW.v0; rfl; rfl; apply ValP.assign; rfl; apply LW.nil; refine thenN ?_; refine CW.seq ?_; refine CW.seq ?_; refine CW.quiet rfl mixed (by decide +kernel) ?_; apply QW.v0; rfl; exact WantT.none; apply ValP.move; rfl; apply QW.v0; rfl; exact WantT.none; apply ValP.eqF; rfl; rfl; omega; apply QW.v0; rfl; exact WantT.none; apply ValP.fieldAddr; rfl; rfl; apply QW.load; rfl; exact WantT.none; rfl; apply Known.at; apply FsAt.head; exact Rd.one' rfl; apply QW.v0; rfl; exact WantT.none; apply ValP.strNeF; rfl; rfl; decide; apply QW.v0; rfl; exact WantT.none; apply ValP.boolNeF; rfl; rfl; (with_reducible rfl); apply QW.v0; rfl; exact WantT.none; apply ValP.move; rfl; apply QW.v0; rfl; apply wantYes; rfl; rfl; (with_reducible rfl); apply ValP.move; rfl; apply QW.v0; rfl; apply wantYes; rfl; rfl; (with_reducible rfl); apply ValP.lenR; rfl; infer_instance; rfl; apply QW.v0; rfl; apply wantYes; rfl; rfl; (with_reducible rfl); apply ValP.fieldAddr; rfl; rfl; apply QW.load; rfl; apply wantYes; rfl; rfl; (with_reducible rfl); rfl; apply Known.at; apply FsAt.head; exact Rd.one' rfl; apply QW.v0; rfl; apply wantYes; rfl; rfl; (with_reducible rfl); apply ValP.neF; rfl; rfl; omega; apply QW.v0; rfl; exact WantT.none; apply ValP.pickF'; rfl; (with_reducible rfl); rfl; apply QW.v0; rfl; exact WantT.none; apply ValP.move; rfl; apply QW.v0; rfl; apply wantYes; rfl; rfl; (with_reducible rfl); apply ValP.move; rfl; apply QW.v0; rfl; apply wantYes; rfl; rfl; (with_reducible rfl); apply ValP.move; rfl; apply QW.v0; rfl; apply wantYes; rfl; rfl; (with_reducible rfl); apply ValP.convN; rfl; omega; omega; apply QW.callE; rfl; apply wantYes; rfl; rfl; (with_reducible rfl); rfl; infer_instance; apply ArgsOk.cons; rfl; apply ArgsOk.cons; rfl; exact ArgsOk.nil; intro w _; exact hJp w (by assumption); apply QW.v0; rfl; apply wantYes; rfl; rfl; (with_reducible rfl); apply ValP.move; rfl; apply QW.v0; rfl; apply wantYes; rfl; rfl; (with_reducible rfl); apply ValP.move; rfl; apply QW.v0; rfl; apply wantYes; rfl; rfl; (with_reducible rfl); apply ValP.indexAddrS; rfl; rfl; rfl; omega; apply QW.load; rfl; apply wantYes; rfl; rfl; (with_reducible rfl); rfl; exact Known.ext (by assumption) (by simp); assumption; apply QW.v0; rfl; apply wantYes; rfl; rfl; (with_reducible rfl); apply ValP.eqF; rfl; rfl; omega; apply QW.v0; rfl; apply wantYes; rfl; rfl; (with_reducible rfl); apply ValP.boolNeF; rfl; rfl; (with_reducible rfl); apply QW.v0; rfl; exact WantT.none; apply ValP.pickF'; rfl; (with_reducible rfl); rfl; refine QW.nil ?_; refine thenN ?_; apply CW.condF; rfl; (with_reducible rfl); refine CW.skip ?_; refine thenN ?_; refine CW.seq ?_; refine CW.region ?_; apply LW.v0; rfl; rfl; apply ValP.move; rfl; apply LW.v0; rfl; rfl; apply ValP.lenR; rfl; infer_instance; rfl; apply LW.v0; rfl; rfl; apply ValP.move; rfl; apply LW.nil; refine thenN ?_; refine CW.block ?_)
          rw [hz] at hmy
          apply CW.rounds 1
          (apply RW.step; refine CW.seq ?_; refine CW.region ?_; apply LW.v0; rfl; rfl; apply ValP.lssF; rfl; rfl; omega; apply LW.nil; refine thenN ?_; refine CW.seq ?_; apply CW.condF; rfl; (with_reducible rfl); refine CW.exit ?_; refine thenE ?_; refine thenE ?_; refine blkE rfl ?_; refine blkN ?_; refine thenN ?_; refine CW.region ?_; apply LW.v0; rfl; rfl; apply ValP.addZL; rfl; rfl; decide; omega; apply LW.v0; rfl; rfl; apply ValP.move; rfl; apply LW.nil)
          apply thenX
          exact ⟨rfl, k + 1, hlt, by omega, ⟨rfl, rfl, by rw [hoy]; rfl, rfl, rfl, trivial⟩, by rw [← hmy]; (apply List.Sublist.cons; apply List.sublist_append_of_sublist_right; exact List.Sublist.refl _)⟩
      | some y =>
        have hz := szOf_some ho
        have hne := (opAt_nm_some hub ho).1
        have hne2 : (⟨y.nm.toArray⟩ : ByteArray) ≠ ⟨([] : List UInt8).toArray⟩ := sv_inj hne
        rw [ho] at hO0
        have hOf : ∀ w, Calls Tryd.prog 11 #[.int .u8 (u.toNat : Int)] w (Ret w (.tuple #[.agg (opc y), .int .i64 0])) := hO0
        obtain ⟨z, hze⟩ : ∃ z, szOf u.toNat = z := ⟨_, rfl⟩
        rw [hze] at hz hzl hfl hdl hmy
        by_cases h91 : u.toNat = 91
        · rw [decide_eq_true h91] at hJk
          have hJp := hJk
          (refine CW.seq ?_; refine CW.region ?_; apply LW.v0; rfl; rfl; apply ValP.lssT; rfl; rfl; omega; apply LW.nil; refine thenN ?_; refine CW.seq ?_; apply CW.condT; rfl; (with_reducible rfl); refine CW.skip ?_; refine thenN ?_; refine CW.seq ?_; refine CW.block ?_; refine CW.seq ?_; refine CW.region ?_; apply LW.v0; rfl; rfl; apply ValP.move; rfl; apply LW.v0; rfl; rfl; apply ValP.assign; rfl; apply LW.nil; refine thenN ?_; refine CW.seq ?_; refine CW.seq ?_; refine CW.region ?_; apply LW.v0; rfl; rfl; apply ValP.move; rfl; apply LW.v0; rfl; rfl; apply ValP.move; rfl; apply LW.v0; rfl; rfl; apply ValP.indexAddrS; rfl; rfl; rfl; omega; apply LW.load; rfl; rfl; apply Known.at; apply FsAt.head; assumption; apply LW.nil; refine thenN ?_; apply CW.condF; rfl; simp only [Bool.not_true, Bool.not_false]; refine CW.skip ?_; refine thenN ?_; refine CW.seq ?_; refine CW.region ?_; apply LW.v0; rfl; rfl; apply ValP.move; rfl; apply LW.v0; rfl; rfl; apply ValP.addZL; rfl; rfl; decide; omega; apply LW.v0; rfl; rfl; apply ValP.assign; rfl; apply LW.nil; refine thenN ?_; refine CW.seq ?_; refine CW.region ?_; apply LW.v0; rfl; rfl; apply ValP.move; rfl; apply LW.v0; rfl; rfl; apply ValP.move; rfl)
          refine LW.callR rfl rfl inferInstance (by (apply ArgsOk.cons; rfl; apply ArgsOk.cons; rfl; exact ArgsOk.nil)) (fun w' hst => Data_calls bs (k : Int) _ w' (hv.st hst)) ?_
          intro v1 g1 h1
          rw [hdl] at h1
          obtain ⟨q1, d1, rfl⟩ := h1.form
          (apply LW.v0; rfl; rfl; apply ValP.assign; rfl; apply LW.nil; refine thenN ?_; refine CW.seq ?_; refine CW.region ?_; apply LW.v0; rfl; rfl; apply ValP.move; rfl; apply LW.v0; rfl; rfl; apply ValP.move; rfl; apply LW.v0; rfl; rfl; apply ValP.indexAddrS; rfl; rfl; rfl; omega; apply LW.load; rfl; rfl; exact Known.ext (by assumption) (by simp); assumption; apply LW.callE; rfl; rfl; infer_instance; apply ArgsOk.cons; rfl; exact ArgsOk.nil; intro w _; exact hOf w; apply LW.v0; rfl; rfl; apply ValP.move; rfl; apply LW.v0; rfl; rfl; apply ValP.extractN; rfl; rfl; apply LW.v0; rfl; rfl; apply ValP.extractN; rfl; rfl; apply LW.allocA; rfl; intro _; apply LW.store; rfl; rfl; apply SetAt.head; apply Wr.whole; rfl; rfl; rfl; apply LW.v0; rfl; rfl; apply ValP.assign; rfl; apply LW.nil; refine thenN ?_; refine CW.seq ?_; refine CW.seq ?_; refine CW.quiet rfl mixed (by decide +kernel) ?_; apply QW.v0; rfl; exact WantT.none; apply ValP.move; rfl; apply QW.v0; rfl; exact WantT.none; apply ValP.eqT; rfl; rfl; omega; apply QW.v0; rfl; exact WantT.none; apply ValP.fieldAddr; rfl; rfl; apply QW.load; rfl; exact WantT.none; rfl; apply Known.at; apply FsAt.head; exact Rd.one' rfl; apply QW.v0; rfl; exact WantT.none; apply ValP.strNeT; rfl; rfl; assumption; apply QW.v0; rfl; exact WantT.none; apply ValP.boolNeF; rfl; rfl; (with_reducible rfl); apply QW.v0; rfl; exact WantT.none; apply ValP.move; rfl; apply QW.v0; rfl; apply wantYes; rfl; rfl; (with_reducible rfl); apply ValP.move; rfl; apply QW.v0; rfl; apply wantYes; rfl; rfl; (with_reducible rfl); apply ValP.lenR; rfl; infer_instance; rfl; apply QW.v0; rfl; apply wantYes; rfl; rfl; (with_reducible rfl); apply ValP.fieldAddr; rfl; rfl; apply QW.load; rfl; apply wantYes; rfl; rfl; (with_reducible rfl); rfl; apply Known.at; apply FsAt.head; exact Rd.one' rfl; apply QW.v0; rfl; apply wantYes; rfl; rfl; (with_reducible rfl); apply ValP.neF; rfl; rfl; omega; apply QW.v0; rfl; exact WantT.none; apply ValP.pickF'; rfl; (with_reducible rfl); rfl; apply QW.v0; rfl; exact WantT.none; apply ValP.move; rfl; apply QW.v0; rfl; apply wantYes; rfl; rfl; (with_reducible rfl); apply ValP.move; rfl; apply QW.v0; rfl; apply wantYes; rfl; rfl; (with_reducible rfl); apply ValP.move; rfl; apply QW.v0; rfl; apply wantYes; rfl; rfl; (with_reducible rfl); apply ValP.convN; rfl; omega; omega; apply QW.callE; rfl; apply wantYes; rfl; rfl; (with_reducible rfl); rfl; infer_instance; apply ArgsOk.cons; rfl; apply ArgsOk.cons; rfl; exact ArgsOk.nil; intro w _; exact hJp w (by assumption); apply QW.v0; rfl; apply wantYes; rfl; rfl; (with_reducible rfl); apply ValP.move; rfl; apply QW.v0; rfl; apply wantYes; rfl; rfl; (with_reducible rfl); apply ValP.move; rfl; apply QW.v0; rfl; apply wantYes; rfl; rfl; (with_reducible rfl); apply ValP.indexAddrS; rfl; rfl; rfl; omega; apply QW.load; rfl; apply wantYes; rfl; rfl; (with_reducible rfl); rfl; exact Known.ext (by assumption) (by simp); assumption; apply QW.v0; rfl; apply wantYes; rfl; rfl; (with_reducible rfl); apply ValP.eqT; rfl; rfl; omega; apply QW.v0; rfl; apply wantYes; rfl; rfl; (with_reducible rfl); apply ValP.boolNeF; rfl; rfl; (with_reducible rfl); apply QW.v0; rfl; exact WantT.none; apply ValP.pickF'; rfl; (with_reducible rfl); rfl; refine QW.nil ?_; refine thenN ?_; apply CW.condF; rfl; (with_reducible rfl); refine CW.skip ?_; refine thenN ?_; refine CW.seq ?_; refine CW.region ?_; apply LW.v0; rfl; rfl; apply ValP.move; rfl; apply LW.v0; rfl; rfl; apply ValP.lenR; rfl; infer_instance; rfl; apply LW.v0; rfl; rfl; apply ValP.move; rfl; apply LW.nil; refine thenN ?_; refine CW.block ?_)
          refine CW.loop (fun i : Nat => ([(0, .slice (some ⟨bb, off, none⟩) bs.length c0), (3, .slice (some ⟨g, 0, none⟩) bs.length bs.length), (4, .int .i64 ((opsN bs k + 1 : Nat) : Int)), (5, .int .i64 (k : Int)), (6, .slice q1 (datF bs k z).length d1), (26, .int .i64 (bs.length : Int)), (27, .int .i64 (k : Int)), (84, .int .i64 ((datF bs k z).length : Int)), (85, .int .i64 (i : Int))],
            g1 ++ [(g, .cells (bla (mkL bs k i)) 4 (0, 0))]))
            (fun i => i ≤ z) (fun i => z - i) 0 (Nat.zero_le _) ⟨rfl, rfl, rfl, rfl, rfl, rfl, rfl, rfl, rfl, trivial⟩ (by (apply List.Sublist.cons; exact List.Sublist.refl _)) ?_
          intro i hi
          dsimp only
          have hgi := datF_get bs k z i
          rcases Nat.lt_or_ge i z with hiz | hiz
          · rw [if_pos hiz] at hgi
            obtain ⟨gd, curd, rfl, rfl, hnd, hmd, hsd, htd⟩ := h1.pos (by omega)
            rcases Nat.lt_or_ge (k + 1 + i) bs.length with hin | hout
            · obtain ⟨y, hy⟩ : ∃ y, bs.getD (k + 1 + i) 0 = y := ⟨_, rfl⟩
              rw [hy] at hgi
              have hrdD : Rd Tryd.prog 5 (.cells curd 5 (0, 0)) (0 + i * 1) (.int .u8 (y.toNat : Int)) := Rd.elem1 (off := 0) (by rw [List.drop_zero]; exact htd) (ucs_one _) hgi rfl
              have hrd2 : Rd Tryd.prog 5 (.cells cs E fr) (off + (k + 1 + i) * 1) (.int .u8 (y.toNat : Int)) := Rd.elem1 hx (ucs_one bs) (List.getElem?_eq_getElem hin) (by rw [← hy]; simp [hin])
              have hW : Wr Tryd.prog 4 (.cells (bla (mkL bs k i)) 4 (0, 0)) (0 + (k + 1 + i) * 1) (.bool true) (.cells (bla (mkL bs k (i + 1))) 4 (0, 0)) := by
                have := wr_bla (P := Tryd.prog) (T := 4) (E := 4) (b := true) (show k + 1 + i < (mkL bs k i).length by rw [mkL_len]; exact hin)
                rw [mkL_set hin] at this
                exact this
              (refine CW.seq ?_; refine CW.region ?_; apply LW.v0; rfl; rfl; apply ValP.lssT; rfl; rfl; omega; apply LW.nil; refine thenN ?_; refine CW.seq ?_; apply CW.condT; rfl; (with_reducible rfl); refine CW.skip ?_; refine thenN ?_; refine CW.seq ?_; refine CW.block ?_; refine CW.seq ?_; refine CW.region ?_; apply LW.v0; rfl; rfl; apply ValP.move; rfl; apply LW.v0; rfl; rfl; apply ValP.assign; rfl; apply LW.nil; refine thenN ?_; refine CW.seq ?_; refine CW.region ?_; apply LW.v0; rfl; rfl; apply ValP.move; rfl; apply LW.v0; rfl; rfl; apply ValP.addZL; rfl; rfl; decide; omega; apply LW.v0; rfl; rfl; apply ValP.move; rfl; apply LW.v0; rfl; rfl; apply ValP.addZ; rfl; rfl; omega; apply LW.v0; rfl; rfl; apply ValP.move; rfl; apply LW.v0; rfl; rfl; apply ValP.lenR; rfl; infer_instance; rfl; apply LW.v0; rfl; rfl; apply ValP.lssT; rfl; rfl; omega; apply LW.nil; refine thenN ?_; apply CW.condT; rfl; (with_reducible rfl); refine CW.seq ?_; refine CW.region ?_; apply LW.v0; rfl; rfl; apply ValP.move; rfl; apply LW.v0; rfl; rfl; apply ValP.move; rfl; apply LW.v0; rfl; rfl; apply ValP.addZL; rfl; rfl; decide; omega; apply LW.v0; rfl; rfl; apply ValP.move; rfl; apply LW.v0; rfl; rfl; apply ValP.addZ; rfl; rfl; omega; apply LW.v0; rfl; rfl; apply ValP.indexAddrS; rfl; rfl; rfl; omega; apply LW.store; rfl; rfl; apply SetAt.tail; apply SetAt.head; assumption; apply LW.nil; refine thenN ?_; refine CW.seq ?_; refine CW.quiet rfl mixed (by decide +kernel) ?_; apply QW.v0; rfl; exact WantT.none; apply ValP.move; rfl; apply QW.v0; rfl; exact WantT.none; apply ValP.move; rfl; apply QW.v0; rfl; exact WantT.none; apply ValP.indexAddrS; rfl; rfl; rfl; omega; apply QW.load; rfl; exact WantT.none; rfl; apply Known.at; apply FsAt.head; assumption; apply QW.v0; rfl; exact WantT.none; apply ValP.move; rfl; apply QW.v0; rfl; exact WantT.none; apply ValP.move; rfl; apply QW.v0; rfl; exact WantT.none; apply ValP.addZL; rfl; rfl; decide; omega; apply QW.v0; rfl; exact WantT.none; apply ValP.move; rfl; apply QW.v0; rfl; exact WantT.none; apply ValP.addZ; rfl; rfl; omega; apply QW.v0; rfl; exact WantT.none; apply ValP.indexAddrS; rfl; rfl; rfl; omega; apply QW.load; rfl; exact WantT.none; rfl; exact Known.ext (by assumption) (by simp); assumption; apply QW.v0; rfl; exact WantT.none; apply ValP.neF; rfl; rfl; omega; refine QW.nil ?_; refine thenN ?_; apply CW.condF; rfl; (with_reducible rfl); refine CW.skip ?_; refine blkN ?_; refine thenN ?_; refine CW.region ?_; apply LW.v0; rfl; rfl; apply ValP.addZL; rfl; rfl; decide; omega; apply LW.v0; rfl; rfl; apply ValP.move; rfl; apply LW.nil)
              apply thenX
              exact ⟨rfl, i + 1, hiz, by omega, ⟨rfl, rfl, rfl, rfl, rfl, rfl, rfl, rfl, rfl, trivial⟩, by (exact List.Sublist.refl _)⟩
            · rw [show bs.getD (k + 1 + i) 0 = 0 by rw [List.getD_eq_getElem?_getD, List.getElem?_eq_none (by omega)]; rfl] at hgi
              have hrdD : Rd Tryd.prog 5 (.cells curd 5 (0, 0)) (0 + i * 1) (.int .u8 0) := Rd.elem1 (off := 0) (by rw [List.drop_zero]; exact htd) (ucs_one _) hgi rfl
              rw [mkL_end (bs := bs) (k := k) (m := i) (by omega)]
              (refine CW.seq ?_; refine CW.region ?_; apply LW.v0; rfl; rfl; apply ValP.lssT; rfl; rfl; omega; apply LW.nil; refine thenN ?_; refine CW.seq ?_; apply CW.condT; rfl; (with_reducible rfl); refine CW.skip ?_; refine thenN ?_; refine CW.seq ?_; refine CW.block ?_; refine CW.seq ?_; refine CW.region ?_; apply LW.v0; rfl; rfl; apply ValP.move; rfl; apply LW.v0; rfl; rfl; apply ValP.assign; rfl; apply LW.nil; refine thenN ?_; refine CW.seq ?_; refine CW.region ?_; apply LW.v0; rfl; rfl; apply ValP.move; rfl; apply LW.v0; rfl; rfl; apply ValP.addZL; rfl; rfl; decide; omega; apply LW.v0; rfl; rfl; apply ValP.move; rfl; apply LW.v0; rfl; rfl; apply ValP.addZ; rfl; rfl; omega; apply LW.v0; rfl; rfl; apply ValP.move; rfl; apply LW.v0; rfl; rfl; apply ValP.lenR; rfl; infer_instance; rfl; apply LW.v0; rfl; rfl; apply ValP.lssF; rfl; rfl; omega; apply LW.nil; refine thenN ?_; apply CW.condF; rfl; (with_reducible rfl); refine CW.seq ?_; refine CW.region ?_; apply LW.v0; rfl; rfl; apply ValP.move; rfl; apply LW.v0; rfl; rfl; apply ValP.move; rfl; apply LW.v0; rfl; rfl; apply ValP.indexAddrS; rfl; rfl; rfl; omega; apply LW.load; rfl; rfl; apply Known.at; apply FsAt.head; assumption; apply LW.v0; rfl; rfl; apply ValP.neF; rfl; rfl; omega; apply LW.nil; refine thenN ?_; apply CW.condF; rfl; (with_reducible rfl); refine CW.skip ?_; refine blkN ?_; refine thenN ?_; refine CW.region ?_; apply LW.v0; rfl; rfl; apply ValP.addZL; rfl; rfl; decide; omega; apply LW.v0; rfl; rfl; apply ValP.move; rfl; apply LW.nil)
              apply thenX
              exact ⟨rfl, i + 1, hiz, by omega, ⟨rfl, rfl, rfl, rfl, rfl, rfl, rfl, rfl, rfl, trivial⟩, by (exact List.Sublist.refl _)⟩
          · obtain rfl : i = z := by omega
            rw [hmy]
            (refine CW.seq ?_; refine CW.region ?_; apply LW.v0; rfl; rfl; apply ValP.lssF; rfl; rfl; omega; apply LW.nil; refine thenN ?_; refine CW.seq ?_; apply CW.condF; rfl; (with_reducible rfl); refine CW.exit ?_; refine thenE ?_; refine thenE ?_; refine blkE rfl ?_; refine blkN ?_; refine thenN ?_; refine CW.region ?_; apply LW.v0; rfl; rfl; apply ValP.addZL; rfl; rfl; decide; omega; apply LW.v0; rfl; rfl; apply ValP.move; rfl; apply LW.nil)
            apply thenX
            exact ⟨rfl, k + 1, hlt, by omega, ⟨rfl, rfl, by rw [hoy]; rfl, rfl, rfl, trivial⟩, by (apply List.sublist_append_of_sublist_right; exact List.Sublist.refl _)⟩
        · rw [decide_eq_false h91] at hJk
          have hJp := hJk
          (refine CW.seq ?_; refine CW.region ?_; apply LW.v0; rfl; rfl; apply ValP.lssT; rfl; rfl; omega; apply LW.nil; refine thenN ?_; refine CW.seq ?_; apply CW.condT; rfl; (with_reducible rfl); refine CW.skip ?_; refine thenN ?_; refine CW.seq ?_; refine CW.block ?_; refine CW.seq ?_; refine CW.region ?_; apply LW.v0; rfl; rfl; apply ValP.move; rfl; apply LW.v0; rfl; rfl; apply ValP.assign; rfl; apply LW.nil; refine thenN ?_; refine CW.seq ?_; refine CW.seq ?_; refine CW.region ?_; apply LW.v0; rfl; rfl; apply ValP.move; rfl; apply LW.v0; rfl; rfl; apply ValP.move; rfl; apply LW.v0; rfl; rfl; apply ValP.indexAddrS; rfl; rfl; rfl; omega; apply LW.load; rfl; rfl; apply Known.at; apply FsAt.head; assumption; apply LW.nil; refine thenN ?_; apply CW.condF; rfl; simp only [Bool.not_true, Bool.not_false]; refine CW.skip ?_; refine thenN ?_; refine CW.seq ?_; refine CW.region ?_; apply LW.v0; rfl; rfl; apply ValP.move; rfl; apply LW.v0; rfl; rfl; apply ValP.addZL; rfl; rfl; decide; omega; apply LW.v0; rfl; rfl; apply ValP.assign; rfl; apply LW.nil; refine thenN ?_; refine CW.seq ?_; refine CW.region ?_; apply LW.v0; rfl; rfl; apply ValP.move; rfl; apply LW.v0; rfl; rfl; apply ValP.move; rfl)
          refine LW.callR rfl rfl inferInstance (by (apply ArgsOk.cons; rfl; apply ArgsOk.cons; rfl; exact ArgsOk.nil)) (fun w' hst => Data_calls bs (k : Int) _ w' (hv.st hst)) ?_
          intro v1 g1 h1
          rw [hdl] at h1
          obtain ⟨q1, d1, rfl⟩ := h1.form
          (apply LW.v0; rfl; rfl; apply ValP.assign; rfl; apply LW.nil; refine thenN ?_; refine CW.seq ?_; refine CW.region ?_; apply LW.v0; rfl; rfl; apply ValP.move; rfl; apply LW.v0; rfl; rfl; apply ValP.move; rfl; apply LW.v0; rfl; rfl; apply ValP.indexAddrS; rfl; rfl; rfl; omega; apply LW.load; rfl; rfl; exact Known.ext (by assumption) (by simp); assumption; apply LW.callE; rfl; rfl; infer_instance; apply ArgsOk.cons; rfl; exact ArgsOk.nil; intro w _; exact hOf w; apply LW.v0; rfl; rfl; apply ValP.move; rfl; apply LW.v0; rfl; rfl; apply ValP.extractN; rfl; rfl; apply LW.v0; rfl; rfl; apply ValP.extractN; rfl; rfl; apply LW.allocA; rfl; intro _; apply LW.store; rfl; rfl; apply SetAt.head; apply Wr.whole; rfl; rfl; rfl; apply LW.v0; rfl; rfl; apply ValP.assign; rfl; apply LW.nil; refine thenN ?_; refine CW.seq ?_; refine CW.seq ?_; refine CW.quiet rfl mixed (by decide +kernel) ?_; apply QW.v0; rfl; exact WantT.none; apply ValP.move; rfl; apply QW.v0; rfl; exact WantT.none; apply ValP.eqT; rfl; rfl; omega; apply QW.v0; rfl; exact WantT.none; apply ValP.fieldAddr; rfl; rfl; apply QW.load; rfl; exact WantT.none; rfl; apply Known.at; apply FsAt.head; exact Rd.one' rfl; apply QW.v0; rfl; exact WantT.none; apply ValP.strNeT; rfl; rfl; assumption; apply QW.v0; rfl; exact WantT.none; apply ValP.boolNeF; rfl; rfl; (with_reducible rfl); apply QW.v0; rfl; exact WantT.none; apply ValP.move; rfl; apply QW.v0; rfl; apply wantYes; rfl; rfl; (with_reducible rfl); apply ValP.move; rfl; apply QW.v0; rfl; apply wantYes; rfl; rfl; (with_reducible rfl); apply ValP.lenR; rfl; infer_instance; rfl; apply QW.v0; rfl; apply wantYes; rfl; rfl; (with_reducible rfl); apply ValP.fieldAddr; rfl; rfl; apply QW.load; rfl; apply wantYes; rfl; rfl; (with_reducible rfl); rfl; apply Known.at; apply FsAt.head; exact Rd.one' rfl; apply QW.v0; rfl; apply wantYes; rfl; rfl; (with_reducible rfl); apply ValP.neF; rfl; rfl; omega; apply QW.v0; rfl; exact WantT.none; apply ValP.pickF'; rfl; (with_reducible rfl); rfl; apply QW.v0; rfl; exact WantT.none; apply ValP.move; rfl; apply QW.v0; rfl; apply wantYes; rfl; rfl; (with_reducible rfl); apply ValP.move; rfl; apply QW.v0; rfl; apply wantYes; rfl; rfl; (with_reducible rfl); apply ValP.move; rfl; apply QW.v0; rfl; apply wantYes; rfl; rfl; (with_reducible rfl); apply ValP.convN; rfl; omega; omega; apply QW.callE; rfl; apply wantYes; rfl; rfl; (with_reducible rfl); rfl; infer_instance; apply ArgsOk.cons; rfl; apply ArgsOk.cons; rfl; exact ArgsOk.nil; intro w _; exact hJp w (by assumption); apply QW.v0; rfl; apply wantYes; rfl; rfl; (with_reducible rfl); apply ValP.move; rfl; apply QW.v0; rfl; apply wantYes; rfl; rfl; (with_reducible rfl); apply ValP.move; rfl; apply QW.v0; rfl; apply wantYes; rfl; rfl; (with_reducible rfl); apply ValP.indexAddrS; rfl; rfl; rfl; omega; apply QW.load; rfl; apply wantYes; rfl; rfl; (with_reducible rfl); rfl; exact Known.ext (by assumption) (by simp); assumption; apply QW.v0; rfl; apply wantYes; rfl; rfl; (with_reducible rfl); apply ValP.eqF; rfl; rfl; omega; apply QW.v0; rfl; apply wantYes; rfl; rfl; (with_reducible rfl); apply ValP.boolNeF; rfl; rfl; (with_reducible rfl); apply QW.v0; rfl; exact WantT.none; apply ValP.pickF'; rfl; (with_reducible rfl); rfl; refine QW.nil ?_; refine thenN ?_; apply CW.condF; rfl; (with_reducible rfl); refine CW.skip ?_; refine thenN ?_; refine CW.seq ?_; refine CW.region ?_; apply LW.v0; rfl; rfl; apply ValP.move; rfl; apply LW.v0; rfl; rfl; apply ValP.lenR; rfl; infer_instance; rfl; apply LW.v0; rfl; rfl; apply ValP.move; rfl; apply LW.nil; refine thenN ?_; refine CW.block ?_)
          refine CW.loop (fun i : Nat => ([(0, .slice (some ⟨bb, off, none⟩) bs.length c0), (3, .slice (some ⟨g, 0, none⟩) bs.length bs.length), (4, .int .i64 ((opsN bs k + 1 : Nat) : Int)), (5, .int .i64 (k : Int)), (6, .slice q1 (datF bs k z).length d1), (26, .int .i64 (bs.length : Int)), (27, .int .i64 (k : Int)), (84, .int .i64 ((datF bs k z).length : Int)), (85, .int .i64 (i : Int))],
            g1 ++ [(g, .cells (bla (mkL bs k i)) 4 (0, 0))]))
            (fun i => i ≤ z) (fun i => z - i) 0 (Nat.zero_le _) ⟨rfl, rfl, rfl, rfl, rfl, rfl, rfl, rfl, rfl, trivial⟩ (by (apply List.Sublist.cons; exact List.Sublist.refl _)) ?_
          intro i hi
          dsimp only
          have hgi := datF_get bs k z i
          rcases Nat.lt_or_ge i z with hiz | hiz
          · rw [if_pos hiz] at hgi
            obtain ⟨gd, curd, rfl, rfl, hnd, hmd, hsd, htd⟩ := h1.pos (by omega)
            rcases Nat.lt_or_ge (k + 1 + i) bs.length with hin | hout
            · obtain ⟨y, hy⟩ : ∃ y, bs.getD (k + 1 + i) 0 = y := ⟨_, rfl⟩
              rw [hy] at hgi
              have hrdD : Rd Tryd.prog 5 (.cells curd 5 (0, 0)) (0 + i * 1) (.int .u8 (y.toNat : Int)) := Rd.elem1 (off := 0) (by rw [List.drop_zero]; exact htd) (ucs_one _) hgi rfl
              have hrd2 : Rd Tryd.prog 5 (.cells cs E fr) (off + (k + 1 + i) * 1) (.int .u8 (y.toNat : Int)) := Rd.elem1 hx (ucs_one bs) (List.getElem?_eq_getElem hin) (by rw [← hy]; simp [hin])
              have hW : Wr Tryd.prog 4 (.cells (bla (mkL bs k i)) 4 (0, 0)) (0 + (k + 1 + i) * 1) (.bool true) (.cells (bla (mkL bs k (i + 1))) 4 (0, 0)) := by
                have := wr_bla (P := Tryd.prog) (T := 4) (E := 4) (b := true) (show k + 1 + i < (mkL bs k i).length by rw [mkL_len]; exact hin)
                rw [mkL_set hin] at this
                exact this
              (refine CW.seq ?_; refine CW.region ?_; apply LW.v0; rfl; rfl; apply ValP.lssT; rfl; rfl; omega; apply LW.nil; refine thenN ?_; refine CW.seq ?_; apply CW.condT; rfl; (with_reducible rfl); refine CW.skip ?_; refine thenN ?_; refine CW.seq ?_; refine CW.block ?_; refine CW.seq ?_; refine CW.region ?_; apply LW.v0; rfl; rfl; apply ValP.move; rfl; apply LW.v0; rfl; rfl; apply ValP.assign; rfl; apply LW.nil; refine thenN ?_; refine CW.seq ?_; refine CW.region ?_; apply LW.v0; rfl; rfl; apply ValP.move; rfl; apply LW.v0; rfl; rfl; apply ValP.addZL; rfl; rfl; decide; omega; apply LW.v0; rfl; rfl; apply ValP.move; rfl; apply LW.v0; rfl; rfl; apply ValP.addZ; rfl; rfl; omega; apply LW.v0; rfl; rfl; apply ValP.move; rfl; apply LW.v0; rfl; rfl; apply ValP.lenR; rfl; infer_instance; rfl; apply LW.v0; rfl; rfl; apply ValP.lssT; rfl; rfl; omega; apply LW.nil; refine thenN ?_; apply CW.condT; rfl; (with_reducible rfl); refine CW.seq ?_; refine CW.region ?_; apply LW.v0; rfl; rfl; apply ValP.move; rfl; apply LW.v0; rfl; rfl; apply ValP.move; rfl; apply LW.v0; rfl; rfl; apply ValP.addZL; rfl; rfl; decide; omega; apply LW.v0; rfl; rfl; apply ValP.move; rfl; apply LW.v0; rfl; rfl; apply ValP.addZ; rfl; rfl; omega; apply LW.v0; rfl; rfl; apply ValP.indexAddrS; rfl; rfl; rfl; omega; apply LW.store; rfl; rfl; apply SetAt.tail; apply SetAt.head; assumption; apply LW.nil; refine thenN ?_; refine CW.seq ?_; refine CW.quiet rfl mixed (by decide +kernel) ?_; apply QW.v0; rfl; exact WantT.none; apply ValP.move; rfl; apply QW.v0; rfl; exact WantT.none; apply ValP.move; rfl; apply QW.v0; rfl; exact WantT.none; apply ValP.indexAddrS; rfl; rfl; rfl; omega; apply QW.load; rfl; exact WantT.none; rfl; apply Known.at; apply FsAt.head; assumption; apply QW.v0; rfl; exact WantT.none; apply ValP.move; rfl; apply QW.v0; rfl; exact WantT.none; apply ValP.move; rfl; apply QW.v0; rfl; exact WantT.none; apply ValP.addZL; rfl; rfl; decide; omega; apply QW.v0; rfl; exact WantT.none; apply ValP.move; rfl; apply QW.v0; rfl; exact WantT.none; apply ValP.addZ; rfl; rfl; omega; apply QW.v0; rfl; exact WantT.none; apply ValP.indexAddrS; rfl; rfl; rfl; omega; apply QW.load; rfl; exact WantT.none; rfl; exact Known.ext (by assumption) (by simp); assumption; apply QW.v0; rfl; exact WantT.none; apply ValP.neF; rfl; rfl; omega; refine QW.nil ?_; refine thenN ?_; apply CW.condF; rfl; (with_reducible rfl); refine CW.skip ?_; refine blkN ?_; refine thenN ?_; refine CW.region ?_; apply LW.v0; rfl; rfl; apply ValP.addZL; rfl; rfl; decide; omega; apply LW.v0; rfl; rfl; apply ValP.move; rfl; apply LW.nil)
              apply thenX
              exact ⟨rfl, i + 1, hiz, by omega, ⟨rfl, rfl, rfl, rfl, rfl, rfl, rfl, rfl, rfl, trivial⟩, by (exact List.Sublist.refl _)⟩
            · rw [show bs.getD (k + 1 + i) 0 = 0 by rw [List.getD_eq_getElem?_getD, List.getElem?_eq_none (by omega)]; rfl] at hgi
              have hrdD : Rd Tryd.prog 5 (.cells curd 5 (0, 0)) (0 + i * 1) (.int .u8 0) := Rd.elem1 (off := 0) (by rw [List.drop_zero]; exact htd) (ucs_one _) hgi rfl
              rw [mkL_end (bs := bs) (k := k) (m := i) (by omega)]
              (refine CW.seq ?_; refine CW.region ?_; apply LW.v0; rfl; rfl; apply ValP.lssT; rfl; rfl; omega; apply LW.nil; refine thenN ?_; refine CW.seq ?_; apply CW.condT; rfl; (with_reducible rfl); refine CW.skip ?_; refine thenN ?_; refine CW.seq ?_; refine CW.block ?_; refine CW.seq ?_; refine CW.region ?_; apply LW.v0; rfl; rfl; apply ValP.move; rfl; apply LW.v0; rfl; rfl; apply ValP.assign; rfl; apply LW.nil; refine thenN ?_; refine CW.seq ?_; refine CW.region ?_; apply LW.v0; rfl; rfl; apply ValP.move; rfl; apply LW.v0; rfl; rfl; apply ValP.addZL; rfl; rfl; decide; omega; apply LW.v0; rfl; rfl; apply ValP.move; rfl; apply LW.v0; rfl; rfl; apply ValP.addZ; rfl; rfl; omega; apply LW.v0; rfl; rfl; apply ValP.move; rfl; apply LW.v0; rfl; rfl; apply ValP.lenR; rfl; infer_instance; rfl; apply LW.v0; rfl; rfl; apply ValP.lssF; rfl; rfl; omega; apply LW.nil; refine thenN ?_; apply CW.condF; rfl; (with_reducible rfl); refine CW.seq ?_; refine CW.region ?_; apply LW.v0; rfl; rfl; apply ValP.move; rfl; apply LW.v0; rfl; rfl; apply ValP.move; rfl; apply LW.v0; rfl; rfl; apply ValP.indexAddrS; rfl; rfl; rfl; omega; apply LW.load; rfl; rfl; apply Known.at; apply FsAt.head; assumption; apply LW.v0; rfl; rfl; apply ValP.neF; rfl; rfl; omega; apply LW.nil; refine thenN ?_; apply CW.condF; rfl; (with_reducible rfl); refine CW.skip ?_; refine blkN ?_; refine thenN ?_; refine CW.region ?_; apply LW.v0; rfl; rfl; apply ValP.addZL; rfl; rfl; decide; omega; apply LW.v0; rfl; rfl; apply ValP.move; rfl; apply LW.nil)
              apply thenX
              exact ⟨rfl, i + 1, hiz, by omega, ⟨rfl, rfl, rfl, rfl, rfl, rfl, rfl, rfl, rfl, trivial⟩, by (exact List.Sublist.refl _)⟩
          · obtain rfl : i = z := by omega
            rw [hmy]
            (refine CW.seq ?_; refine CW.region ?_; apply LW.v0; rfl; rfl; apply ValP.lssF; rfl; rfl; omega; apply LW.nil; refine thenN ?_; refine CW.seq ?_; apply CW.condF; rfl; (with_reducible rfl); refine CW.exit ?_; refine thenE ?_; refine thenE ?_; refine blkE rfl ?_; refine blkN ?_; refine thenN ?_; refine CW.region ?_; apply LW.v0; rfl; rfl; apply ValP.addZL; rfl; rfl; decide; omega; apply LW.v0; rfl; rfl; apply ValP.move; rfl; apply LW.nil)
            apply thenX
            exact ⟨rfl, k + 1, hlt, by omega, ⟨rfl, rfl, by rw [hoy]; rfl, rfl, rfl, trivial⟩, by (apply List.sublist_append_of_sublist_right; exact List.Sublist.refl _)⟩
  · obtain rfl : k = bs.length := by omega
    rw [textV_ok hle] at hT0
    have hTx0 := hT0
    obtain ⟨T, hT⟩ : ∃ T, textL bs = T := ⟨_, rfl⟩
    rw [hT] at hTx0 hsp htn htl
    have hTx := hTx0
    by_cases hTn : T = []
    · have hse : (⟨T.toArray⟩ : ByteArray) = ⟨([] : List UInt8).toArray⟩ := by rw [hTn]
      have hb0 : bs.length = 0 := by rw [htn hTn]; rfl
      have hop0 : opsN bs bs.length = 0 := by have := opsN_le bs bs.length; omega
      rw [hop0]
      (refine CW.seq ?_; refine CW.region ?_; apply LW.v0; rfl; rfl; apply ValP.lssF; rfl; rfl; omega; apply LW.nil; refine thenN ?_; refine CW.seq ?_; apply CW.condF; rfl; (with_reducible rfl); refine CW.exit ?_; refine thenE ?_; refine thenE ?_; refine blkE rfl ?_; refine thenN ?_; refine CW.seq ?_; refine CW.region ?_; apply LW.v0; rfl; rfl; apply ValP.move; rfl; apply LW.callE; rfl; rfl; infer_instance; apply ArgsOk.cons; rfl; exact ArgsOk.nil; intro w _; exact hTx w (by assumption); apply LW.v0; rfl; rfl; apply ValP.move; rfl; apply LW.v0; rfl; rfl; apply ValP.extractN; rfl; rfl; apply LW.v0; rfl; rfl; apply ValP.extractN; rfl; rfl; apply LW.v0; rfl; rfl; apply ValP.assign; rfl; apply LW.v0; rfl; rfl; apply ValP.assign; rfl; apply LW.nil; refine thenN ?_; refine CW.seq ?_; refine CW.seq ?_; refine CW.region ?_; apply LW.v0; rfl; rfl; apply ValP.move; rfl; apply LW.v0; rfl; rfl; apply ValP.neF; rfl; rfl; omega; apply LW.nil; refine thenN ?_; apply CW.condF; rfl; (with_reducible rfl); refine CW.skip ?_; refine thenN ?_; refine CW.seq ?_; refine CW.seq ?_; refine CW.region ?_; apply LW.v0; rfl; rfl; apply ValP.move; rfl; apply LW.v0; rfl; rfl; apply ValP.strEqT; rfl; rfl; assumption; apply LW.nil; refine thenN ?_; apply CW.condT; rfl; (with_reducible rfl); refine CW.seq ?_; refine CW.region ?_; apply LW.v0; rfl; rfl; apply ValP.move; rfl; apply LW.v0; rfl; rfl; apply ValP.eqT; rfl; rfl; omega; apply LW.v0; rfl; rfl; apply ValP.assign; rfl; apply LW.nil; refine thenN ?_; refine CW.ret ?_; refine thenR ?_)
      (apply finR; exact .inl rfl; rfl; rfl; rfl; apply ResL.cons; exact Res.tmp rfl; exact ResL.nil)
      rfl
    · have hsn : (⟨T.toArray⟩ : ByteArray) ≠ ⟨([] : List UInt8).toArray⟩ := sv_inj hTn
      (refine CW.seq ?_; refine CW.region ?_; apply LW.v0; rfl; rfl; apply ValP.lssF; rfl; rfl; omega; apply LW.nil; refine thenN ?_; refine CW.seq ?_; apply CW.condF; rfl; (with_reducible rfl); refine CW.exit ?_; refine thenE ?_; refine thenE ?_; refine blkE rfl ?_; refine thenN ?_; refine CW.seq ?_; refine CW.region ?_; apply LW.v0; rfl; rfl; apply ValP.move; rfl; apply LW.callE; rfl; rfl; infer_instance; apply ArgsOk.cons; rfl; exact ArgsOk.nil; intro w _; exact hTx w (by assumption); apply LW.v0; rfl; rfl; apply ValP.move; rfl; apply LW.v0; rfl; rfl; apply ValP.extractN; rfl; rfl; apply LW.v0; rfl; rfl; apply ValP.extractN; rfl; rfl; apply LW.v0; rfl; rfl; apply ValP.assign; rfl; apply LW.v0; rfl; rfl; apply ValP.assign; rfl; apply LW.nil; refine thenN ?_; refine CW.seq ?_; refine CW.seq ?_; refine CW.region ?_; apply LW.v0; rfl; rfl; apply ValP.move; rfl; apply LW.v0; rfl; rfl; apply ValP.neF; rfl; rfl; omega; apply LW.nil; refine thenN ?_; apply CW.condF; rfl; (with_reducible rfl); refine CW.skip ?_; refine thenN ?_; refine CW.seq ?_; refine CW.seq ?_; refine CW.region ?_; apply LW.v0; rfl; rfl; apply ValP.move; rfl; apply LW.v0; rfl; rfl; apply ValP.strEqF; rfl; rfl; assumption; apply LW.nil; refine thenN ?_; apply CW.condF; rfl; (with_reducible rfl); refine CW.skip ?_; refine thenN ?_; refine CW.seq ?_; refine CW.region ?_; apply LW.v0; rfl; rfl; apply ValP.assign; rfl; apply LW.nil; refine thenN ?_; refine CW.seq ?_; refine CW.seq ?_; refine CW.region ?_; apply LW.v0; rfl; rfl; apply ValP.move; rfl)
      refine LW.callR rfl rfl inferInstance (by (apply ArgsOk.cons; rfl; apply ArgsOk.cons; rfl; exact ArgsOk.nil)) (fun w' hst => Split_calls T (by omega) w') ?_
      intro vS gsS hS
      unfold SplR at hS
      rw [show spl T = wordsL bs from (show wordsT T = spl T from if_neg hTn).symm.trans hsp] at hS
      obtain ⟨W, hWe⟩ : ∃ W, wordsL bs = W := ⟨_, rfl⟩
      rw [hWe] at hS honce
      have hWl : W.length ≤ 3000 := by rw [← hWe]; omega
      obtain ⟨pS, cS, rfl⟩ := hS.form
      obtain ⟨O, hO⟩ : ∃ O, opsN bs bs.length = O := ⟨_, rfl⟩
      rw [hO] at honce ⊢
      (apply LW.v0; rfl; rfl; apply ValP.lenR; rfl; infer_instance; rfl; apply LW.v0; rfl; rfl; apply ValP.move; rfl; apply LW.nil; refine thenN ?_; refine CW.block ?_)
      refine CW.loop (fun j : Nat => ([(4, .int .i64 (O : Int)), (12, .int .i64 (wcount (W.take j) : Int)), (132, .slice pS W.length cS), (133, .int .i64 (W.length : Int)), (134, .int .i64 (j : Int))], gsS ++ []))
        (fun j => j ≤ W.length) (fun j => W.length - j) 0 (Nat.zero_le _) ⟨rfl, rfl, rfl, rfl, rfl, trivial⟩ (by (apply List.Sublist.append_left; apply List.Sublist.cons; exact List.Sublist.refl _)) ?_
      intro j hj
      dsimp only
      have hwl : wcount (W.take j) ≤ j := by
        have := List.length_filter_le isOpW (W.take j)
        rw [List.length_take] at this
        unfold wcount
        omega
      rcases Nat.lt_or_ge j W.length with hjl | hjl
      · obtain ⟨gS, curS, rfl, rfl, hnS, hmS, hsS, htS⟩ := hS.pos (by omega)
        obtain ⟨s, hs⟩ : ∃ s, W[j] = s := ⟨_, rfl⟩
        have hrd : Rd Tryd.prog 9 (.cells curS 9 (0, 0)) (0 + j * 1) (sv s) := Rd.elem1 (off := 0) (g := fun x => [sv x]) (l := W) (by rw [List.drop_zero, htS, scs_flat]) (scs_one W) (List.getElem?_eq_getElem hjl) (by rw [hs])
        have hst : wcount (W.take (j + 1)) = wcount (W.take j) + wcount [s] := by rw [List.take_succ_eq_append_getElem hjl, wcount_app, hs]
        have hN := Named_calls s
        have hHs := Has_calls s
        cases hn : named s with
        | some y =>
          have hc1 : wcount [s] = 1 := by unfold wcount isOpW; simp [hn]
          rw [hn] at hN
          rw [hc1] at hst
          have hNm : ∀ w, Calls Tryd.prog 13 #[sv s] w (Ret w (.tuple #[.agg (opc y), .int .i64 0])) := hN
          (refine CW.seq ?_; refine CW.region ?_; apply LW.v0; rfl; rfl; apply ValP.lssT; rfl; rfl; omega; apply LW.nil; refine thenN ?_; refine CW.seq ?_; apply CW.condT; rfl; (with_reducible rfl); refine CW.skip ?_; refine thenN ?_; refine CW.seq ?_; refine CW.block ?_; refine CW.seq ?_; refine CW.region ?_; apply LW.v0; rfl; rfl; apply ValP.indexAddrS; rfl; rfl; rfl; omega; apply LW.load; rfl; rfl; apply Known.at; apply FsAt.head; assumption; apply LW.v0; rfl; rfl; apply ValP.assign; rfl; apply LW.nil; refine thenN ?_; refine CW.seq ?_; refine CW.region ?_; apply LW.v0; rfl; rfl; apply ValP.move; rfl; apply LW.callE; rfl; rfl; infer_instance; apply ArgsOk.cons; rfl; exact ArgsOk.nil; intro w _; exact hNm w; apply LW.v0; rfl; rfl; apply ValP.move; rfl; apply LW.v0; rfl; rfl; apply ValP.extractN; rfl; rfl; apply LW.v0; rfl; rfl; apply ValP.extractN; rfl; rfl; apply LW.allocA; rfl; intro _; apply LW.store; rfl; rfl; apply SetAt.head; apply Wr.whole; rfl; rfl; rfl; apply LW.v0; rfl; rfl; apply ValP.assign; rfl; apply LW.nil; refine thenN ?_; refine CW.seq ?_; refine CW.region ?_; apply LW.v0; rfl; rfl; apply ValP.move; rfl; apply LW.v0; rfl; rfl; apply ValP.eqT; rfl; rfl; omega; apply LW.v0; rfl; rfl; apply ValP.move; rfl; apply LW.guardF'; rfl; rfl; simp only [Bool.not_true, Bool.not_false]; rfl; apply LW.guardF'; rfl; rfl; simp only [Bool.not_true, Bool.not_false]; rfl; apply LW.v0; rfl; rfl; apply ValP.pickT'; rfl; (with_reducible rfl); rfl; apply LW.nil; refine thenN ?_; apply CW.condT; rfl; (with_reducible rfl); refine CW.region ?_; apply LW.v0; rfl; rfl; apply ValP.move; rfl; apply LW.v0; rfl; rfl; apply ValP.addZL; rfl; rfl; decide; omega; apply LW.v0; rfl; rfl; apply ValP.assign; rfl; apply LW.nil; refine blkN ?_; refine thenN ?_; refine CW.region ?_; apply LW.v0; rfl; rfl; apply ValP.addZL; rfl; rfl; decide; omega; apply LW.v0; rfl; rfl; apply ValP.move; rfl; apply LW.nil)
          apply thenX
          exact ⟨rfl, j + 1, hjl, by omega, ⟨rfl, by rw [hst]; rfl, rfl, rfl, rfl, trivial⟩, by (apply List.Sublist.cons; exact List.Sublist.refl _)⟩
        | none =>
          rw [hn] at hN
          have hNm : ∀ w, Calls Tryd.prog 13 #[sv s] w (Ret w (.tuple #[.agg (opc zeroOp), .int .i64 4])) := hN
          by_cases hdot : s.take 1 = [46]
          · have hc1 : wcount [s] = 1 := by unfold wcount isOpW; simp [hn, hdot]
            rw [decide_eq_true hdot] at hHs
            rw [hc1] at hst
            have hH := hHs
            (refine CW.seq ?_; refine CW.region ?_; apply LW.v0; rfl; rfl; apply ValP.lssT; rfl; rfl; omega; apply LW.nil; refine thenN ?_; refine CW.seq ?_; apply CW.condT; rfl; (with_reducible rfl); refine CW.skip ?_; refine thenN ?_; refine CW.seq ?_; refine CW.block ?_; refine CW.seq ?_; refine CW.region ?_; apply LW.v0; rfl; rfl; apply ValP.indexAddrS; rfl; rfl; rfl; omega; apply LW.load; rfl; rfl; apply Known.at; apply FsAt.head; assumption; apply LW.v0; rfl; rfl; apply ValP.assign; rfl; apply LW.nil; refine thenN ?_; refine CW.seq ?_; refine CW.region ?_; apply LW.v0; rfl; rfl; apply ValP.move; rfl; apply LW.callE; rfl; rfl; infer_instance; apply ArgsOk.cons; rfl; exact ArgsOk.nil; intro w _; exact hNm w; apply LW.v0; rfl; rfl; apply ValP.move; rfl; apply LW.v0; rfl; rfl; apply ValP.extractN; rfl; rfl; apply LW.v0; rfl; rfl; apply ValP.extractN; rfl; rfl; apply LW.allocA; rfl; intro _; apply LW.store; rfl; rfl; apply SetAt.head; apply Wr.whole; rfl; rfl; rfl; apply LW.v0; rfl; rfl; apply ValP.assign; rfl; apply LW.nil; refine thenN ?_; refine CW.seq ?_; refine CW.region ?_; apply LW.v0; rfl; rfl; apply ValP.move; rfl; apply LW.v0; rfl; rfl; apply ValP.eqF; rfl; rfl; omega; apply LW.v0; rfl; rfl; apply ValP.move; rfl; apply LW.guardT'; rfl; rfl; (with_reducible rfl); apply LW.v0; rfl; rfl; apply ValP.move; rfl; apply LW.guardT'; rfl; rfl; (with_reducible rfl); apply LW.callE; rfl; rfl; infer_instance; apply ArgsOk.cons; rfl; apply ArgsOk.cons; rfl; exact ArgsOk.nil; intro w _; exact hH w; apply LW.v0; rfl; rfl; apply ValP.pickF'; rfl; (with_reducible rfl); rfl; apply LW.nil; refine thenN ?_; apply CW.condT; rfl; (with_reducible rfl); refine CW.region ?_; apply LW.v0; rfl; rfl; apply ValP.move; rfl; apply LW.v0; rfl; rfl; apply ValP.addZL; rfl; rfl; decide; omega; apply LW.v0; rfl; rfl; apply ValP.assign; rfl; apply LW.nil; refine blkN ?_; refine thenN ?_; refine CW.region ?_; apply LW.v0; rfl; rfl; apply ValP.addZL; rfl; rfl; decide; omega; apply LW.v0; rfl; rfl; apply ValP.move; rfl; apply LW.nil)
            apply thenX
            exact ⟨rfl, j + 1, hjl, by omega, ⟨rfl, by rw [hst]; rfl, rfl, rfl, rfl, trivial⟩, by (apply List.Sublist.cons; exact List.Sublist.refl _)⟩
          · have hc1 : wcount [s] = 0 := by unfold wcount isOpW; simp [hn, hdot]
            rw [decide_eq_false hdot] at hHs
            rw [hc1] at hst
            have hH := hHs
            (refine CW.seq ?_; refine CW.region ?_; apply LW.v0; rfl; rfl; apply ValP.lssT; rfl; rfl; omega; apply LW.nil; refine thenN ?_; refine CW.seq ?_; apply CW.condT; rfl; (with_reducible rfl); refine CW.skip ?_; refine thenN ?_; refine CW.seq ?_; refine CW.block ?_; refine CW.seq ?_; refine CW.region ?_; apply LW.v0; rfl; rfl; apply ValP.indexAddrS; rfl; rfl; rfl; omega; apply LW.load; rfl; rfl; apply Known.at; apply FsAt.head; assumption; apply LW.v0; rfl; rfl; apply ValP.assign; rfl; apply LW.nil; refine thenN ?_; refine CW.seq ?_; refine CW.region ?_; apply LW.v0; rfl; rfl; apply ValP.move; rfl; apply LW.callE; rfl; rfl; infer_instance; apply ArgsOk.cons; rfl; exact ArgsOk.nil; intro w _; exact hNm w; apply LW.v0; rfl; rfl; apply ValP.move; rfl; apply LW.v0; rfl; rfl; apply ValP.extractN; rfl; rfl; apply LW.v0; rfl; rfl; apply ValP.extractN; rfl; rfl; apply LW.allocA; rfl; intro _; apply LW.store; rfl; rfl; apply SetAt.head; apply Wr.whole; rfl; rfl; rfl; apply LW.v0; rfl; rfl; apply ValP.assign; rfl; apply LW.nil; refine thenN ?_; refine CW.seq ?_; refine CW.region ?_; apply LW.v0; rfl; rfl; apply ValP.move; rfl; apply LW.v0; rfl; rfl; apply ValP.eqF; rfl; rfl; omega; apply LW.v0; rfl; rfl; apply ValP.move; rfl; apply LW.guardT'; rfl; rfl; (with_reducible rfl); apply LW.v0; rfl; rfl; apply ValP.move; rfl; apply LW.guardT'; rfl; rfl; (with_reducible rfl); apply LW.callE; rfl; rfl; infer_instance; apply ArgsOk.cons; rfl; apply ArgsOk.cons; rfl; exact ArgsOk.nil; intro w _; exact hH w; apply LW.v0; rfl; rfl; apply ValP.pickF'; rfl; (with_reducible rfl); rfl; apply LW.nil; refine thenN ?_; apply CW.condF; rfl; (with_reducible rfl); refine CW.skip ?_; refine blkN ?_; refine thenN ?_; refine CW.region ?_; apply LW.v0; rfl; rfl; apply ValP.addZL; rfl; rfl; decide; omega; apply LW.v0; rfl; rfl; apply ValP.move; rfl; apply LW.nil)
            apply thenX
            exact ⟨rfl, j + 1, hjl, by omega, ⟨rfl, by rw [hst]; rfl, rfl, rfl, rfl, trivial⟩, by (apply List.Sublist.cons; exact List.Sublist.refl _)⟩
      · obtain rfl : j = W.length := by omega
        rw [List.take_length, honce]
        (refine CW.seq ?_; refine CW.region ?_; apply LW.v0; rfl; rfl; apply ValP.lssF; rfl; rfl; omega; apply LW.nil; refine thenN ?_; refine CW.seq ?_; apply CW.condF; rfl; (with_reducible rfl); refine CW.exit ?_; refine thenE ?_; refine thenE ?_; refine blkE rfl ?_; refine thenN ?_; refine CW.seq ?_; refine CW.region ?_; apply LW.v0; rfl; rfl; apply ValP.move; rfl; apply LW.v0; rfl; rfl; apply ValP.move; rfl; apply LW.v0; rfl; rfl; apply ValP.eqT; rfl; rfl; omega; apply LW.v0; rfl; rfl; apply ValP.assign; rfl; apply LW.nil; refine thenN ?_; refine CW.ret ?_)
        (apply finR; exact .inl rfl; rfl; rfl; rfl; apply ResL.cons; exact Res.tmp rfl; exact ResL.nil)
        rfl
end Go.Proofs.YtbhicncgjplnoaaDoor
