/-
  Texts that were built apart, put behind one another (3 of 4): P3 P4 P5 P6 P7 P8 P9 PA PB PC.
  Conditions: none.
-/
import Derived.Test.YtailnglojnccnaaZ2
/-
  Contracts of the pack: which parts are the same.
  Conditions: none.
-/
namespace Go.Proofs.Ytailnglojnccnaa
open Go Go.RowKit SL
set_option maxRecDepth 8000
set_option maxHeartbeats 4000000
set_option linter.unusedSimpArgs false
set_option linter.unusedVariables false
attribute [local irreducible] SL.CW SL.LW SL.DW Calls SL.Ret SL.RetG SL.beginQ SL.roundQ SL.rangeQ SL.inQ SL.RW SL.AnyW SL.thenQ SL.thenC SL.thenW SL.blkQ SL.finQ SL.ValP SL.NewP SL.SetP SL.CallP SL.Rd SL.Wr SL.Known
/-- Are two rows of parts the same? -/
def sameL : List PartV → List PartV → Bool
  | [], [] => true
  | a :: l, b :: m => sameP a b && sameL l m
  | _, _ => false
theorem sameL_len : ∀ (l m : List PartV), l.length ≠ m.length → sameL l m = false
  | [], [], h => absurd rfl h
  | a :: l, b :: m, h => by
    rw [sameL, sameL_len l m (fun e => h (by simp [e])), Bool.and_false]
  | [], _ :: _, _ => rfl
  | _ :: _, [], _ => rfl
theorem first_other : ∀ (l m : List PartV), l.length = m.length → ∃ i, ∃ _ : i ≤ l.length, (∀ j (h : j < i) (h1 : j < l.length) (h2 : j < m.length), sameP l[j] m[j] = true) ∧ (∀ (h : i < l.length) (h2 : i < m.length), sameP l[i] m[i] = false) ∧ (sameL l m = true ↔ i = l.length)
  | [], [], _ => ⟨0, Nat.le_refl _, fun j h => by omega, fun h => by simp at h, by simp [sameL]⟩
  | [], _ :: _, h => by simp at h
  | _ :: _, [], h => by simp at h
  | a :: l, b :: m, hl => by
    cases ha : sameP a b with
    | false => exact ⟨0, Nat.zero_le _, fun j h => by omega, fun _ _ => by simpa using ha, by simp [sameL, ha]⟩
    | true =>
      obtain ⟨i, hi, h1, h2, h3⟩ := first_other l m (by simpa using hl)
      refine ⟨i + 1, by simpa using hi, fun j h => ?_, fun h h' => ?_, ?_⟩
      · cases j with
        | zero => exact fun _ _ => by simpa using ha
        | succ j => exact fun g1 g2 => by simpa using h1 j (by omega) (by simpa using g1) (by simpa using g2)
      · simpa using h2 (by simpa using h) (by simpa using h')
      · simp only [sameL, ha, Bool.true_and, List.length_cons, Nat.add_right_cancel_iff]
        exact h3
theorem EqualFunc_calls (l m : List PartV) (v u : Value) (w : World) (hv : PartsAt w v l) (hu : PartsAt w u m) : Calls Try.prog 36 #[v, u, .func (.func 37) #[] #[]] w (Ret w (.bool (sameL l m))) := by
  obtain ⟨p, c, rfl, hc, hm⟩ := hv.row.form
  obtain ⟨q, d, rfl, hd, hn⟩ := hu.row.form
  simp only [maxLen] at hm hn
  by_cases hll : l.length = m.length
  · obtain ⟨i, hi, hall, hbad, hiff⟩ := first_other l m hll
    have hS0 : ∀ j (h1 : j < l.length) (h2 : j < m.length) w' {fs}, St w [] fs w' → Calls Try.prog 37 #[.agg (psa l[j]), .agg (psa m[j])] w' (Ret w' (.bool (sameP l[j] m[j]))) := fun j h1 h2 w' fs hst => by
      have hv' := hv.st hst
      have hu' := hu.st hst
      exact Same1_calls _ _ w' (hv.small _ (List.getElem_mem h1)) (hu.small _ (List.getElem_mem h2)) (hv'.data _ (List.getElem_mem h1)) (hu'.data _ (List.getElem_mem h2))
    refine enter (args := [_, _, _]) _ [] [] Try.func36 rfl Try.ntmps36 rfl (by simp) .nil ?_
    (refine CW.seq ?_; refine CW.region ?_; apply LW.v0; rfl; rfl; apply ValP.assign; rfl; apply LW.nil; refine thenN ?_; refine CW.seq ?_; refine CW.seq ?_; refine CW.region ?_; apply LW.v0; rfl; rfl; apply ValP.move; rfl; apply LW.v0; rfl; rfl; apply ValP.lenR; rfl; infer_instance; rfl; apply LW.v0; rfl; rfl; apply ValP.move; rfl; apply LW.v0; rfl; rfl; apply ValP.lenR; rfl; infer_instance; rfl; apply LW.v0; rfl; rfl; apply ValP.neF; rfl; rfl; omega; apply LW.nil; refine thenN ?_; apply CW.condF; rfl; (with_reducible rfl); refine CW.skip ?_; refine thenN ?_; refine CW.seq ?_; refine CW.seq ?_; refine CW.region ?_; apply LW.v0; rfl; rfl; apply ValP.move; rfl; apply LW.v0; rfl; rfl; apply ValP.lenR; rfl; infer_instance; rfl; apply LW.v0; rfl; rfl; apply ValP.move; rfl; apply LW.nil; refine thenN ?_; refine CW.block ?_)
    refine CW.loop (fun k : Nat => ([(17, .int .i64 (k : Int)), (16, .int .i64 (l.length : Int)), (15, .slice p l.length c), (0, .slice p l.length c), (1, .slice q m.length d), (2, .func (.func 37) #[] #[])], []))
      (fun k => k ≤ i) (fun k => i - k) 0 (Nat.zero_le _) ⟨rfl, rfl, rfl, rfl, rfl, rfl, trivial⟩ (List.nil_sublist _) ?_
    intro k hki
    dsimp only at hki ⊢
    rcases Nat.lt_or_ge k l.length with hlt | hge
    · have hlt2 : k < m.length := by omega
      obtain ⟨b, off, c', cs, E, fr, heq, hb, hrd0⟩ := part_rd hv k hlt
      cases heq
      have hrd : Rd Try.prog 39 (.cells cs E fr) (off + k * 6) (.agg (psa l[k])) := hrd0
      obtain ⟨b', off', c'', cs', E', fr', heq, hb', hrd0'⟩ := part_rd hu k hlt2
      cases heq
      have hrd' : Rd Try.prog 39 (.cells cs' E' fr') (off' + k * 6) (.agg (psa m[k])) := hrd0'
      clear hrd0 hrd0'
      have ho1 := hv.one _ (List.getElem_mem hlt)
      have ho2 := hu.one _ (List.getElem_mem hlt2)
      rcases Nat.lt_or_ge k i with hki2 | hki2
      · have hC : ∀ w' {fs}, St w [] fs w' → Calls Try.prog 37 #[.agg (psa l[k]), .agg (psa m[k])] w' (Ret w' (.bool true)) := fun w' fs hst => by
          rw [← hall k hki2 hlt hlt2]; exact hS0 k hlt hlt2 w' hst
        (refine CW.seq ?_; refine CW.region ?_; apply LW.v0; rfl; rfl; apply ValP.lssT; rfl; rfl; omega; apply LW.nil; refine thenN ?_; refine CW.seq ?_; apply CW.condT; rfl; (with_reducible rfl); refine CW.skip ?_; refine thenN ?_; refine CW.seq ?_; refine CW.block ?_; refine CW.seq ?_; refine CW.region ?_; apply LW.v0; rfl; rfl; apply ValP.move; rfl; apply LW.v0; rfl; rfl; apply ValP.indexAddrS; rfl; rfl; rfl; omega; apply LW.load; rfl; rfl; exact Known.ext (by assumption) (by simp); assumption; apply LW.allocA; rfl; intro _; apply LW.v0; rfl; rfl; apply ValP.assign; rfl; apply LW.store; rfl; rfl; apply SetAt.head; apply ps_wrW; rfl; assumption; apply LW.nil; refine thenN ?_; refine CW.seq ?_; refine CW.region ?_; apply LW.v0; rfl; rfl; apply ValP.move; rfl; apply LW.v0; rfl; rfl; apply ValP.move; rfl; apply LW.v0; rfl; rfl; apply ValP.indexAddrS; rfl; rfl; rfl; omega; apply LW.load; rfl; rfl; exact Known.ext (by assumption) (by simp); assumption; apply LW.allocA; rfl; intro _; apply LW.store; rfl; rfl; apply SetAt.head; apply ps_wrW; rfl; assumption; apply LW.nil; refine thenN ?_; refine CW.seq ?_; refine CW.region ?_; apply LW.v0; rfl; rfl; apply ValP.move; rfl; apply LW.load; rfl; rfl; apply Known.at; apply FsAt.tail; apply FsAt.head; exact ps_rdW; apply LW.load; rfl; rfl; apply Known.at; apply FsAt.head; exact ps_rdW; apply LW.callE; rfl; rfl; infer_instance; apply ArgsOk.cons; rfl; apply ArgsOk.cons; rfl; exact ArgsOk.nil; intro w _; exact hC w (by assumption); apply LW.v0; rfl; rfl; apply ValP.notT; rfl; (with_reducible rfl); apply LW.nil; refine thenN ?_; apply CW.condF; rfl; (with_reducible rfl); refine CW.skip ?_; refine blkN ?_; refine thenN ?_; refine CW.region ?_; apply LW.v0; rfl; rfl; apply ValP.addZL; rfl; rfl; decide; omega; apply LW.v0; rfl; rfl; apply ValP.move; rfl; apply LW.nil)
        apply thenX
        exact ⟨rfl, k + 1, hki2, by omega, ⟨rfl, rfl, rfl, rfl, rfl, rfl, trivial⟩, List.nil_sublist _⟩
      · obtain rfl : k = i := by omega
        have hC : ∀ w' {fs}, St w [] fs w' → Calls Try.prog 37 #[.agg (psa l[k]), .agg (psa m[k])] w' (Ret w' (.bool false)) := fun w' fs hst => by
          rw [← hbad hlt hlt2]; exact hS0 k hlt hlt2 w' hst
        have hsl : sameL l m = false := by
          cases h5 : sameL l m with
          | false => rfl
          | true => exact absurd (hiff.1 h5) (by omega)
        rw [hsl]
        (refine CW.seq ?_; refine CW.region ?_; apply LW.v0; rfl; rfl; apply ValP.lssT; rfl; rfl; omega; apply LW.nil; refine thenN ?_; refine CW.seq ?_; apply CW.condT; rfl; (with_reducible rfl); refine CW.skip ?_; refine thenN ?_; refine CW.seq ?_; refine CW.block ?_; refine CW.seq ?_; refine CW.region ?_; apply LW.v0; rfl; rfl; apply ValP.move; rfl; apply LW.v0; rfl; rfl; apply ValP.indexAddrS; rfl; rfl; rfl; omega; apply LW.load; rfl; rfl; exact Known.ext (by assumption) (by simp); assumption; apply LW.allocA; rfl; intro _; apply LW.v0; rfl; rfl; apply ValP.assign; rfl; apply LW.store; rfl; rfl; apply SetAt.head; apply ps_wrW; rfl; assumption; apply LW.nil; refine thenN ?_; refine CW.seq ?_; refine CW.region ?_; apply LW.v0; rfl; rfl; apply ValP.move; rfl; apply LW.v0; rfl; rfl; apply ValP.move; rfl; apply LW.v0; rfl; rfl; apply ValP.indexAddrS; rfl; rfl; rfl; omega; apply LW.load; rfl; rfl; exact Known.ext (by assumption) (by simp); assumption; apply LW.allocA; rfl; intro _; apply LW.store; rfl; rfl; apply SetAt.head; apply ps_wrW; rfl; assumption; apply LW.nil; refine thenN ?_; refine CW.seq ?_; refine CW.region ?_; apply LW.v0; rfl; rfl; apply ValP.move; rfl; apply LW.load; rfl; rfl; apply Known.at; apply FsAt.tail; apply FsAt.head; exact ps_rdW; apply LW.load; rfl; rfl; apply Known.at; apply FsAt.head; exact ps_rdW; apply LW.callE; rfl; rfl; infer_instance; apply ArgsOk.cons; rfl; apply ArgsOk.cons; rfl; exact ArgsOk.nil; intro w _; exact hC w (by assumption); apply LW.v0; rfl; rfl; apply ValP.notF; rfl; (with_reducible rfl); apply LW.nil; refine thenN ?_; apply CW.condT; rfl; (with_reducible rfl); refine CW.seq ?_; refine CW.region ?_; apply LW.v0; rfl; rfl; apply ValP.assign; rfl; apply LW.nil; refine thenN ?_; refine CW.ret ?_; refine blkR ?_; refine thenR ?_; refine thenR ?_; refine blkR ?_; refine thenR ?_)
        (apply finR; exact .inl rfl; rfl; rfl; rfl; apply ResL.cons; exact Res.tmp rfl; exact ResL.nil)
        rfl
    · obtain rfl : k = i := by omega
      rw [hiff.2 (by omega)]
      (refine CW.seq ?_; refine CW.region ?_; apply LW.v0; rfl; rfl; apply ValP.lssF; rfl; rfl; omega; apply LW.nil; refine thenN ?_; refine CW.seq ?_; apply CW.condF; rfl; (with_reducible rfl); refine CW.exit ?_; refine thenE ?_; refine thenE ?_; refine blkE rfl ?_; refine thenN ?_; refine CW.seq ?_; refine CW.region ?_; apply LW.v0; rfl; rfl; apply ValP.assign; rfl; apply LW.nil; refine thenN ?_; refine CW.ret ?_)
      (apply finR; exact .inl rfl; rfl; rfl; rfl; apply ResL.cons; exact Res.tmp rfl; exact ResL.nil)
      rfl
  · rw [sameL_len l m hll]
    refine enter (args := [_, _, _]) _ [] [] Try.func36 rfl Try.ntmps36 rfl (by simp) .nil ?_
    (refine CW.seq ?_; refine CW.region ?_; apply LW.v0; rfl; rfl; apply ValP.assign; rfl; apply LW.nil; refine thenN ?_; refine CW.seq ?_; refine CW.seq ?_; refine CW.region ?_; apply LW.v0; rfl; rfl; apply ValP.move; rfl; apply LW.v0; rfl; rfl; apply ValP.lenR; rfl; infer_instance; rfl; apply LW.v0; rfl; rfl; apply ValP.move; rfl; apply LW.v0; rfl; rfl; apply ValP.lenR; rfl; infer_instance; rfl; apply LW.v0; rfl; rfl; apply ValP.neT; rfl; rfl; omega; apply LW.nil; refine thenN ?_; apply CW.condT; rfl; (with_reducible rfl); refine CW.seq ?_; refine CW.region ?_; apply LW.v0; rfl; rfl; apply ValP.assign; rfl; apply LW.nil; refine thenN ?_; refine CW.ret ?_; refine thenR ?_)
    (apply finR; exact .inl rfl; rfl; rfl; rfl; apply ResL.cons; exact Res.tmp rfl; exact ResL.nil)
    rfl
theorem Same_calls (l m : List PartV) (v u : Value) (w : World) (hv : PartsAt w v l) (hu : PartsAt w u m) : Calls Try.prog 18 #[v, u] w (Ret w (.bool (sameL l m))) := by
  have hC : ∀ w' {fs}, St w [] fs w' → Calls Try.prog 36 #[v, u, .func (.func 37) #[] #[]] w' (Ret w' (.bool (sameL l m))) := fun w' fs hst =>
    EqualFunc_calls l m v u w' (hv.st hst) (hu.st hst)
  refine enter (args := [_, _]) _ [] [] Try.func18 rfl Try.ntmps18 rfl (by simp) .nil ?_
  (refine CW.seq ?_; refine CW.region ?_; apply LW.v0; rfl; rfl; apply ValP.assign; rfl; apply LW.nil; refine thenN ?_; refine CW.seq ?_; refine CW.region ?_; apply LW.v0; rfl; rfl; apply ValP.move; rfl; apply LW.v0; rfl; rfl; apply ValP.move; rfl; apply LW.callE; rfl; rfl; infer_instance; apply ArgsOk.cons; rfl; apply ArgsOk.cons; rfl; apply ArgsOk.cons; rfl; exact ArgsOk.nil; intro w _; exact hC w (by assumption); apply LW.v0; rfl; rfl; apply ValP.assign; rfl; apply LW.nil; refine thenN ?_; refine CW.ret ?_)
  (apply finR; exact .inl rfl; rfl; rfl; rfl; apply ResL.cons; exact Res.tmp rfl; exact ResL.nil)
  rfl
end Go.Proofs.Ytailnglojnccnaa

/-
  Contracts of the pack: the bytes of parts.
  Conditions: none.
-/
namespace Go.Proofs.Ytailnglojnccnaa
open Go Go.RowKit SL
set_option maxRecDepth 8000
set_option maxHeartbeats 4000000
set_option linter.unusedSimpArgs false
set_option linter.unusedVariables false
attribute [local irreducible] SL.CW SL.LW SL.DW Calls SL.Ret SL.RetG SL.beginQ SL.roundQ SL.rangeQ SL.inQ SL.RW SL.AnyW SL.thenQ SL.thenC SL.thenW SL.blkQ SL.finQ SL.ValP SL.NewP SL.SetP SL.CallP SL.Rd SL.Wr SL.Known
/-! ### The layout -/
def p00 : PartV := ⟨false, 0, .slice none 0 0, []⟩
/-- The part at a place. -/
def pt (l : List PartV) (k : Nat) : PartV := l.getD k p00
theorem pt_eq {l : List PartV} {k : Nat} (h : k < l.length) : pt l k = l[k] := by simp [pt, h]
/-- A Long part's tail. -/
def tlB (b : List UInt8) : List UInt8 := beb 32 b.length ++ (b ++ List.replicate (whl b.length - b.length) 0)
theorem tlB_len (b : List UInt8) : (tlB b).length = 32 + whl b.length := by
  have := whl_le b.length
  simp [tlB, beb_len]; omega
/-- The tails of the first k parts. -/
def behK (l : List PartV) : Nat → List UInt8
  | 0 => []
  | k + 1 => behK l k ++ (if (pt l k).lg then tlB (pt l k).db else [])
/-- Where the tail of the k-th part begins. -/
def atF (l : List PartV) (k : Nat) : Nat := 32 * l.length + (behK l k).length
/-- The places of the first k parts' tails. -/
def plcK (l : List PartV) : Nat → List Nat
  | 0 => []
  | k + 1 => plcK l k ++ (if (pt l k).lg then [atF l k] else [])
/-- The heads of the first k parts. -/
def hdK (l : List PartV) : Nat → List UInt8
  | 0 => []
  | k + 1 => hdK l k ++ (if (pt l k).lg then beb 32 (atF l k) else beb 32 (pt l k).wd)
/-- The bytes of parts. -/
def layF (l : List PartV) : List UInt8 := hdK l l.length ++ behK l l.length
theorem behK_zero (l : List PartV) : behK l 0 = [] := rfl
theorem behK_long {l : List PartV} {k : Nat} (h : (pt l k).lg = true) : behK l (k + 1) = behK l k ++ tlB (pt l k).db := by rw [behK, if_pos h]
theorem behK_short {l : List PartV} {k : Nat} (h : (pt l k).lg = false) : behK l (k + 1) = behK l k := by rw [behK, if_neg (by simp [h]), List.append_nil]
theorem plcK_zero (l : List PartV) : plcK l 0 = [] := rfl
theorem plcK_long {l : List PartV} {k : Nat} (h : (pt l k).lg = true) : plcK l (k + 1) = plcK l k ++ [atF l k] := by rw [plcK, if_pos h]
theorem plcK_short {l : List PartV} {k : Nat} (h : (pt l k).lg = false) : plcK l (k + 1) = plcK l k := by rw [plcK, if_neg (by simp [h]), List.append_nil]
theorem hdK_zero (l : List PartV) : hdK l 0 = [] := rfl
theorem hdK_long {l : List PartV} {k : Nat} (h : (pt l k).lg = true) : hdK l (k + 1) = hdK l k ++ beb 32 (atF l k) := by rw [hdK, if_pos h]
theorem hdK_short {l : List PartV} {k : Nat} (h : (pt l k).lg = false) : hdK l (k + 1) = hdK l k ++ beb 32 (pt l k).wd := by rw [hdK, if_neg (by simp [h])]
theorem hdK_len (l : List PartV) (k : Nat) : (hdK l k).length = 32 * k := by
  induction k with
  | zero => rfl
  | succ k ih =>
    cases h : (pt l k).lg with
    | true => rw [hdK_long h, List.length_append, beb_len, ih]; omega
    | false => rw [hdK_short h, List.length_append, beb_len, ih]; omega
attribute [local irreducible] behK plcK hdK
theorem atF_zero (l : List PartV) : atF l 0 = 32 * l.length := by simp [atF, behK_zero]
theorem atF_long {l : List PartV} {k : Nat} (h : (pt l k).lg = true) : atF l (k + 1) = atF l k + (32 + whl (pt l k).db.length) := by
  rw [atF, behK_long h, List.length_append, tlB_len, ← Nat.add_assoc]; rfl
theorem atF_short {l : List PartV} {k : Nat} (h : (pt l k).lg = false) : atF l (k + 1) = atF l k := by rw [atF, behK_short h]; rfl
theorem plc_len (l : List PartV) (k : Nat) : (plcK l k).length ≤ k := by
  induction k with
  | zero => rw [plcK_zero]; exact Nat.le_refl _
  | succ k ih =>
    cases h : (pt l k).lg with
    | true => rw [plcK_long h]; simpa using ih
    | false => rw [plcK_short h]; omega
theorem plc_pre (l : List PartV) (k d : Nat) : ∃ r, plcK l (k + d) = plcK l k ++ r := by
  induction d with
  | zero => exact ⟨[], (List.append_nil _).symm⟩
  | succ d ih =>
    obtain ⟨r, hr⟩ := ih
    rw [← Nat.add_assoc]
    cases h : (pt l (k + d)).lg with
    | true => exact ⟨r ++ [atF l (k + d)], by rw [plcK_long h, hr, List.append_assoc]⟩
    | false => exact ⟨r, by rw [plcK_short h, hr]⟩
theorem plc_get {l : List PartV} {k : Nat} (hk : k < l.length) (h : (pt l k).lg = true) : (plcK l l.length)[(plcK l k).length]? = some (atF l k) ∧ (plcK l k).length < (plcK l l.length).length := by
  obtain ⟨r, hr⟩ := plc_pre l (k + 1) (l.length - (k + 1))
  rw [show k + 1 + (l.length - (k + 1)) = l.length by omega, plcK_long h] at hr
  rw [hr]
  simp
theorem beh_cells (b : List UInt8) (xs : List Value) : xs ++ ucs (beb 32 b.length) ++ ucs b ++ List.replicate (whl b.length - b.length) (Value.int .u8 0) = xs ++ ucs (tlB b) := by
  rw [tlB, ucs_app, ucs_app, ucs_zero]; simp only [List.append_assoc]
/-- Parts that are not great. -/
def small200 (l : List PartV) : Prop := l.length ≤ 16 ∧ ∀ k, (pt l k).db.length ≤ 200
theorem beh_len {l : List PartV} (h : small200 l) (k : Nat) : (behK l k).length ≤ 300 * k := by
  induction k with
  | zero => rw [behK_zero]; exact Nat.le_refl _
  | succ k ih =>
    cases hl : (pt l k).lg with
    | true =>
      rw [behK_long hl, List.length_append, tlB_len]
      have := h.2 k
      have := whl_lt (pt l k).db.length
      omega
    | false => rw [behK_short hl]; omega
theorem right_small {l : List PartV} (h : chkP l = 0) : small200 l := by
  unfold chkP at h
  split at h
  · cases h
  · split at h
    · rename_i h1 h2
      refine ⟨by omega, fun k => ?_⟩
      unfold pt
      rw [List.getD_eq_getElem?_getD]
      cases hk : l[k]? with
      | none => simp [p00]
      | some p =>
        simp only [Option.getD_some]
        have hm : p ∈ l := List.mem_of_getElem? hk
        have := List.all_eq_true.1 h2 p hm
        unfold rightP at this
        split at this
        · simp only [Bool.and_eq_true, decide_eq_true_eq] at this; exact this.2
        · simp only [decide_eq_true_eq] at this; omega
    · cases h
/-! ### Lay -/
theorem Lay_bad (l : List PartV) (v : Value) (w : World) (hv : PartsAt w v l) (h : chkP l ≠ 0) : Calls Try.prog 17 #[v] w (Ret w (.tuple #[.slice none 0 0, .int .i64 (chkP l)])) := by
  have hK : ∀ w' {fs}, St w [] fs w' → Calls Try.prog 21 #[v] w' (Ret w' (.int .i64 (chkP l))) := fun w' fs hst => Check_calls l v w' (hv.st hst)
  refine enter (args := [_]) _ [] [] Try.func17 rfl Try.ntmps17 rfl (by simp) .nil ?_
  (refine CW.seq ?_; refine CW.region ?_; apply LW.v0; rfl; rfl; apply ValP.assign; rfl; apply LW.v0; rfl; rfl; apply ValP.assign; rfl; apply LW.nil; refine thenN ?_; refine CW.seq ?_; refine CW.seq ?_; refine CW.region ?_; apply LW.v0; rfl; rfl; apply ValP.move; rfl; apply LW.callE; rfl; rfl; infer_instance; apply ArgsOk.cons; rfl; exact ArgsOk.nil; intro w _; exact hK w (by assumption); apply LW.v0; rfl; rfl; apply ValP.assign; rfl; apply LW.nil; refine thenN ?_; refine CW.seq ?_; refine CW.region ?_; apply LW.v0; rfl; rfl; apply ValP.move; rfl; apply LW.v0; rfl; rfl; apply ValP.neT; rfl; rfl; omega; apply LW.nil; refine thenN ?_; apply CW.condT; rfl; (with_reducible rfl); refine CW.seq ?_; refine CW.region ?_; apply LW.v0; rfl; rfl; apply ValP.move; rfl; apply LW.v0; rfl; rfl; apply ValP.assign; rfl; apply LW.v0; rfl; rfl; apply ValP.assign; rfl; apply LW.nil; refine thenN ?_; refine CW.ret ?_; refine thenR ?_)
  (apply finR; exact .inl rfl; rfl; rfl; rfl; apply ResL.cons; exact Res.tmp rfl; apply ResL.cons; exact Res.tmp rfl; exact ResL.nil)
  rfl
theorem IsRow.room {E : TypeId} {sz n : Nat} {v : Value} {xs : List Value} {seg : Fs} (h : IsRow E sz v n xs seg) : ∀ p c, v = .slice p n c → n ≤ c := by
  cases h with
  | nil => intro p c he; cases he; exact Nat.le_refl _
  | own h _ _ _ _ => intro p c he; cases he; exact h
structure LX where
  k : Nat
  ov : Value
  segO : Fs
  q : Option Addr
  c : Nat
structure TLX where
  m : Nat
  bv : Value
  segB : Fs
  pv : Value
  segP : Fs
theorem Lay_ok (l : List PartV) (v : Value) (w : World) (hv : PartsAt w v l) (h : chkP l = 0) : Calls Try.prog 17 #[v] w (RetG w [] (fun v' gs => ∃ bv, v' = .tuple #[bv, .int .i64 0] ∧ IsRow 5 1 bv (layF l).length (ucs (layF l)) gs)) := by
  have hK0 : ∀ w' {fs}, St w [] fs w' → Calls Try.prog 21 #[v] w' (Ret w' (.int .i64 (chkP l))) := fun w' fs hst => Check_calls l v w' (hv.st hst)
  rw [h] at hK0
  have hK := hK0
  obtain ⟨p, c, rfl, hc, hm⟩ := hv.row.form
  simp only [maxLen] at hm
  have hsm := right_small h
  have hl16 := hsm.1
  refine enter (args := [_]) _ [] [] Try.func17 rfl Try.ntmps17 rfl (by simp) .nil ?_
  (refine CW.seq ?_; refine CW.region ?_; apply LW.v0; rfl; rfl; apply ValP.assign; rfl; apply LW.v0; rfl; rfl; apply ValP.assign; rfl; apply LW.nil; refine thenN ?_; refine CW.seq ?_; refine CW.seq ?_; refine CW.region ?_; apply LW.v0; rfl; rfl; apply ValP.move; rfl; apply LW.callE; rfl; rfl; infer_instance; apply ArgsOk.cons; rfl; exact ArgsOk.nil; intro w _; exact hK w (by assumption); apply LW.v0; rfl; rfl; apply ValP.assign; rfl; apply LW.nil; refine thenN ?_; refine CW.seq ?_; refine CW.region ?_; apply LW.v0; rfl; rfl; apply ValP.move; rfl; apply LW.v0; rfl; rfl; apply ValP.neF; rfl; rfl; omega; apply LW.nil; refine thenN ?_; apply CW.condF; rfl; (with_reducible rfl); refine CW.skip ?_; refine thenN ?_; refine CW.seq ?_; refine CW.region ?_; apply LW.alloc1; rfl; rfl; intro _; apply LW.nil; refine thenN ?_; refine CW.seq ?_; refine CW.region ?_; apply LW.alloc1; rfl; rfl; intro _; apply LW.nil; refine thenN ?_; refine CW.seq ?_; refine CW.region ?_; apply LW.v0; rfl; rfl; apply ValP.move; rfl; apply LW.v0; rfl; rfl; apply ValP.makeFunc; exact ArgsOk.nil; apply ArgsOk.cons; rfl; apply ArgsOk.cons; rfl; exact ArgsOk.nil)
  rename_i b5 b6
  apply LW.inline
  rfl
  rfl
  infer_instance
  (apply ArgsOk.cons; rfl; apply ArgsOk.cons; rfl; exact ArgsOk.nil)
  rfl
  exact Try.func31
  rfl
  exact Try.ntmps31
  rfl
  (refine CW.seq ?_; refine CW.region ?_; apply LW.v0; rfl; rfl; apply ValP.move; rfl; apply LW.v0; rfl; rfl; apply ValP.lenR; rfl; infer_instance; rfl; apply LW.v0; rfl; rfl; apply ValP.mulZK; rfl; rfl; decide; omega; apply LW.v0; rfl; rfl; apply ValP.assign; rfl; apply LW.nil; refine thenN ?_; refine CW.seq ?_; refine CW.region ?_; apply LW.v0; rfl; rfl; apply ValP.move; rfl; apply LW.v0; rfl; rfl; apply ValP.lenR; rfl; infer_instance; rfl; apply LW.v0; rfl; rfl; apply ValP.move; rfl; apply LW.nil; refine thenN ?_; refine CW.block ?_)
  refine CW.loop (fun x : TLX => ([(12, .int .i64 (x.m : Int)), (11, .int .i64 (l.length : Int)), (10, .slice p l.length c), (4, .int .i64 (atF l x.m : Int)), (0, .slice p l.length c), (1, .func (.func 32) #[] #[.pointer (some ⟨b5, 0, none⟩), .pointer (some ⟨b6, 0, none⟩)])],
      x.segB ++ (x.segP ++ [(b6, .cells #[x.bv] 25 (0, 0)), (b5, .cells #[x.pv] 67 (0, 0))])))
    (fun x => x.m ≤ l.length ∧ IsRow 5 1 x.bv (behK l x.m).length (ucs (behK l x.m)) x.segB ∧ IsRow 3 1 x.pv (plcK l x.m).length (ics (plcK l x.m)) x.segP ∧ (x.bv = .slice none 0 0 ∨ 0 < (behK l x.m).length)) (fun x => l.length - x.m) ⟨0, .slice none 0 0, [], .slice none 0 0, []⟩
    ⟨Nat.zero_le _, by rw [behK_zero]; exact .nil, by rw [plcK_zero]; exact .nil, .inl rfl⟩ ⟨rfl, rfl, rfl, by rw [atF_zero]; rfl, rfl, rfl, trivial⟩ (List.Sublist.refl _) ?_
  rintro ⟨m, bv, segB, pv, segP⟩ ⟨hm2, hB, hP, h0⟩
  dsimp only at hm2 hB hP h0 ⊢
  obtain ⟨qb, cb, rfl⟩ := hB.form
  obtain ⟨qp, cp, rfl⟩ := hP.form
  rcases Nat.lt_or_ge m l.length with hlt | hge
  · obtain ⟨b, off, c', cs, E, fr, heq, hb, hrd0⟩ := part_rd hv m hlt
    cases heq
    have hrd : Rd Try.prog 39 (.cells cs E fr) (off + m * 6) (.agg (psa l[m])) := hrd0
    clear hrd0
    have ho := hv.one _ (List.getElem_mem hlt)
    have hdv := hv.data _ (List.getElem_mem hlt)
    have hpt := pt_eq hlt
    have hd200 := hsm.2 m
    have hbl := beh_len hsm m
    have hpl := plc_len l m
    have hwl := whl_le l[m].db.length
    have hwt := whl_lt l[m].db.length
    have hal : atF l m ≤ 100000 := by unfold atF; omega
    rw [hpt] at hd200
    obtain ⟨q, cq, hq, hcq, _⟩ := hdv.form
    have hr2 : ∀ {E fr} , Rd Try.prog 25 (.cells (psa l[m]) E fr) 5 (.slice q l[m].db.length cq) := fun {E fr} => by rw [← hq]; exact ps_rd2
    rw [hq] at hdv
    cases hlg : (pt l m).lg with
    | false =>
      have hlg' : l[m].lg = false := by rw [← hpt]; exact hlg
      have ha1 := atF_short hlg
      have hb1 := behK_short hlg
      have hp1 := plcK_short hlg
      have hr0 : ∀ {E fr} , Rd Try.prog 4 (.cells (psa l[m]) E fr) 0 (.bool false) := fun {E fr} => by rw [← hlg']; exact ps_rd0
      (refine CW.seq ?_; refine CW.region ?_; apply LW.v0; rfl; rfl; apply ValP.lssT; rfl; rfl; omega; apply LW.nil; refine thenN ?_; refine CW.seq ?_; apply CW.condT; rfl; (with_reducible rfl); refine CW.skip ?_; refine thenN ?_; refine CW.seq ?_; refine CW.block ?_; refine CW.seq ?_; refine CW.region ?_; apply LW.v0; rfl; rfl; apply ValP.indexAddrS; rfl; rfl; rfl; omega; apply LW.load; rfl; rfl; exact Known.ext (by assumption) (by simp); assumption; apply LW.allocA; rfl; intro _; apply LW.store; rfl; rfl; apply SetAt.head; apply ps_wrW; rfl; assumption; apply LW.nil; refine thenN ?_; refine CW.seq ?_; refine CW.region ?_; apply LW.v0; rfl; rfl; apply ValP.fieldAddr; rfl; rfl; apply LW.load; rfl; rfl; apply Known.at; apply FsAt.head; exact hr0; apply LW.nil; refine thenN ?_; apply CW.condF; rfl; (with_reducible rfl); refine CW.skip ?_; refine blkN ?_; refine thenN ?_; refine CW.region ?_; apply LW.v0; rfl; rfl; apply ValP.addZL; rfl; rfl; decide; omega; apply LW.v0; rfl; rfl; apply ValP.move; rfl; apply LW.nil)
      apply thenX
      refine ⟨rfl, ⟨m + 1, _, segB, _, segP⟩, ⟨hlt, by rw [hb1]; exact hB, by rw [hp1]; exact hP, by rw [hb1]; exact h0⟩, by show l.length - (m + 1) < l.length - m; omega, ⟨rfl, rfl, rfl, by rw [ha1]; rfl, rfl, rfl, trivial⟩, ?_⟩
      dsimp only
      exact List.Sublist.cons _ (List.Sublist.refl _)
    | true =>
      have hlg' : l[m].lg = true := by rw [← hpt]; exact hlg
      have ha1 := atF_long hlg
      have hb1 := behK_long hlg
      have hp1 := plcK_long hlg
      rw [hpt] at ha1 hb1
      have hr0 : ∀ {E fr} , Rd Try.prog 4 (.cells (psa l[m]) E fr) 0 (.bool true) := fun {E fr} => by rw [← hlg']; exact ps_rd0
      (refine CW.seq ?_; refine CW.region ?_; apply LW.v0; rfl; rfl; apply ValP.lssT; rfl; rfl; omega; apply LW.nil; refine thenN ?_; refine CW.seq ?_; apply CW.condT; rfl; (with_reducible rfl); refine CW.skip ?_; refine thenN ?_; refine CW.seq ?_; refine CW.block ?_; refine CW.seq ?_; refine CW.region ?_; apply LW.v0; rfl; rfl; apply ValP.indexAddrS; rfl; rfl; rfl; omega; apply LW.load; rfl; rfl; exact Known.ext (by assumption) (by simp); assumption; apply LW.allocA; rfl; intro _; apply LW.store; rfl; rfl; apply SetAt.head; apply ps_wrW; rfl; assumption; apply LW.nil; refine thenN ?_; refine CW.seq ?_; refine CW.region ?_; apply LW.v0; rfl; rfl; apply ValP.fieldAddr; rfl; rfl; apply LW.load; rfl; rfl; apply Known.at; apply FsAt.head; exact hr0; apply LW.nil; refine thenN ?_; apply CW.condT; rfl; (with_reducible rfl); refine CW.seq ?_; refine CW.region ?_; apply LW.v0; rfl; rfl; apply ValP.move; rfl; apply LW.v0; rfl; rfl; apply ValP.move; rfl; apply LW.v0; rfl; rfl; apply ValP.fieldAddr; rfl; rfl; apply LW.load; rfl; rfl; apply Known.at; apply FsAt.head; exact hr2)
      apply LW.inline
      rfl
      rfl
      infer_instance
      (apply ArgsOk.cons; rfl; apply ArgsOk.cons; rfl; exact ArgsOk.nil)
      rfl
      exact Try.func32
      rfl
      exact Try.ntmps32
      rfl
      (refine CW.seq ?_; refine CW.region ?_; apply LW.load; rfl; rfl; apply Known.at; apply FsAt.tail; apply FsAt.app; apply FsAt.app; apply FsAt.tail; apply FsAt.head; exact Rd.one' rfl; apply LW.v0; rfl; rfl; apply ValP.move; rfl; apply LW.lay1; rfl; infer_instance; infer_instance; rfl; rfl; rfl; rfl; rfl; rfl; intro _)
      (apply LW.append; rfl; rfl; infer_instance; infer_instance; infer_instance; rfl; rfl; rfl; (case hrow => assumption); apply AtSeg.cons; apply AtSeg.cons; apply AtSeg.app; exact AtSeg.head; apply Known.at; apply FsAt.head; rfl; rfl; rfl; omega; simp only [maxLen]; omega; omega; intro v' seg' hrow'; obtain ⟨p', c', rfl⟩ := hrow'.form; (refine ⟨_, (by (repeat (first | exact AtSeg.head | apply AtSeg.cons | apply AtSeg.app))), ?_⟩); (try simp only [List.cons_append, List.nil_append]))
      (apply LW.store; rfl; rfl; apply SetAt.tail; apply SetAt.tail; apply SetAt.app; apply SetAt.app; apply SetAt.tail; apply SetAt.head; apply Wr.cells; rfl; rfl; simp only [List.size_toArray, List.length_cons, List.length_nil]; omega; simp only [fillC, wc, wrCells, Value.cells, List.toList_toArray, List.setIfInBounds_toArray, List.set_cons_succ, List.set_cons_zero, Nat.reduceAdd, Nat.reduceMul, Nat.zero_add, Nat.mul_one]; rfl; apply LW.nil; refine thenN ?_; refine CW.seq ?_)
      apply CW.pre
      (refine AnyW.anyM [(3, fun v gs => IsRow 5 1 v 32 (ucs (beb 32 l[m].db.length)) gs), (4, fun v gs => IsRow 5 1 v ((behK l m).length + 32) (ucs (behK l m) ++ ucs (beb 32 l[m].db.length)) gs)] 6 mixed (by decide +kernel) ?_)
      ((try simp only [tsOf_cons, tsOf_nil, tsOf_app]); apply DW.loadO; rfl; rfl; rfl; exact WantT.none; rfl; apply TRead.tail; apply TRead.tail; apply TRead.app; apply TRead.app; apply TRead.head; exact ancB_nil; exact Rd.one' rfl; apply DW.v0; rfl; rfl; rfl; exact WantT.none; rfl; apply ValP.move; rfl; apply DW.v0; rfl; rfl; rfl; exact WantT.none; rfl; apply ValP.lenR; rfl; infer_instance; rfl)
      (apply DW.manyE; rfl; rfl; rfl; exact WantT.none; rfl; infer_instance; apply ArgsOk.cons; rfl; exact ArgsOk.nil; rfl; exact ReadAll.nil; intro w _ _)
      exact number_calls _ (by omega) w
      intro v1 gs1 hrow1
      obtain ⟨p1, c1, rfl⟩ := hrow1.form
      obtain ⟨g1, cur1, rfl, rfl, hn1, hm1, hs1, ht1⟩ := hrow1.pos (by decide)
      have hc1 : 0 < c1 := by omega
      ((try simp only [tsOf_cons, tsOf_nil, tsOf_app]))
      refine DW.appendV (news := ucs (beb 32 l[m].db.length)) rfl rfl rfl (by (exact WantT.none)) rfl inferInstance inferInstance inferInstance rfl rfl rfl hB h0 (by (apply TOut.cons; apply TOut.cons; apply TOut.cons; exact TOut.old)) (by (apply RdV.own; assumption; apply TRead.head; kernel_rfl; exact RdV.nil)) (fun w' hbel hus => RowAt.us hus hn1 hm1 ht1 (by rw [ucs_len, beb_len])) (ucs_cells _) (by simp only [maxLen]; omega) (by omega) ?_
      intro v2 seg2 hrow2
      obtain ⟨p2, c2, rfl⟩ := hrow2.form
      ((try simp only [tsOf_cons, tsOf_nil, tsOf_app]); apply DW.v0; rfl; rfl; rfl; exact WantT.none; rfl; apply ValP.move; rfl; apply DW.nil; simp only [fsOf_cons, fsOf_nil, fsOf_app, fsOf_tsOf, fsOf_new, fsOf_tag])
      (apply LW.appendAny; (case hrow => assumption); rfl; rfl; infer_instance; infer_instance; infer_instance; rfl; rfl; rfl; exact AtSeg.head)
      · exact fun w hs => hdv.st hs
      · exact ucs_cells _
      · simp only [maxLen]; omega
      · omega
      intro v3 seg3 hrow3
      refine ⟨_, (by (exact AtSeg.head)), ?_⟩
      obtain ⟨p3, c3, rfl⟩ := hrow3.form
      (apply LW.store; rfl; rfl; apply SetAt.app; apply SetAt.tail; apply SetAt.tail; apply SetAt.tail; apply SetAt.app; apply SetAt.head; apply Wr.cells; rfl; rfl; simp only [List.size_toArray, List.length_cons, List.length_nil]; omega; simp only [fillC, wc, wrCells, Value.cells, List.toList_toArray, List.setIfInBounds_toArray, List.set_cons_succ, List.set_cons_zero, Nat.reduceAdd, Nat.reduceMul, Nat.zero_add, Nat.mul_one]; rfl; apply LW.nil; refine thenN ?_; apply CW.pre; refine AnyW.any 7 mixed (by decide +kernel) ?_; (try simp only [tsOf_cons, tsOf_nil, tsOf_app]); apply DW.loadO; rfl; rfl; rfl; exact WantT.none; rfl; apply TRead.app; apply TRead.tail; apply TRead.tail; apply TRead.tail; apply TRead.app; apply TRead.head; exact ancB_nil; exact Rd.one' rfl; apply DW.v0; rfl; rfl; rfl; exact WantT.none; rfl; apply ValP.move; rfl; apply DW.v0; rfl; rfl; rfl; exact WantT.none; rfl; apply ValP.lenR; rfl; infer_instance; rfl; apply DW.callE; rfl; rfl; rfl; exact WantT.none; rfl; infer_instance; apply ArgsOk.cons; rfl; exact ArgsOk.nil; rfl; exact ReadAll.nil; intro w _ _; exact whole_calls _ (by omega) w; apply DW.v0; rfl; rfl; rfl; exact WantT.none; rfl; apply ValP.move; rfl; apply DW.v0; rfl; rfl; rfl; exact WantT.none; rfl; apply ValP.lenR; rfl; infer_instance; rfl; apply DW.v0; rfl; rfl; rfl; exact WantT.none; rfl; apply ValP.subZ; rfl; rfl; omega; omega; apply DW.nil; simp only [fsOf_cons, fsOf_nil, fsOf_app, fsOf_tsOf, fsOf_new, fsOf_tag])
      refine LW.appendZ (m := whl l[m].db.length - l[m].db.length) rfl rfl inferInstance inferInstance inferInstance inferInstance rfl rfl rfl rfl (by (exact AtSeg.head)) hrow3 (by simp only [maxLen]; omega) (by omega) ?_
      intro v4 seg4 hrow4
      refine ⟨_, (by (exact AtSeg.head)), ?_⟩
      obtain ⟨p4, c4, rfl⟩ := hrow4.form
      (apply LW.store; rfl; rfl; apply SetAt.app; apply SetAt.tail; apply SetAt.tail; apply SetAt.tail; apply SetAt.app; apply SetAt.head; apply Wr.cells; rfl; rfl; simp only [List.size_toArray, List.length_cons, List.length_nil]; omega; simp only [fillC, wc, wrCells, Value.cells, List.toList_toArray, List.setIfInBounds_toArray, List.set_cons_succ, List.set_cons_zero, Nat.reduceAdd, Nat.reduceMul, Nat.zero_add, Nat.mul_one]; rfl; apply LW.nil)
      apply inI
      (exact .inr rfl)
      (exact Shut.nil)
      rfl
      (exact ResL.nil)
      rfl
      (apply LW.nil; refine thenN ?_; refine CW.region ?_; apply LW.v0; rfl; rfl; apply ValP.move; rfl; apply LW.v0; rfl; rfl; apply ValP.fieldAddr; rfl; rfl; apply LW.load; rfl; rfl; apply Known.at; apply FsAt.app; apply FsAt.tail; apply FsAt.tail; apply FsAt.head; exact hr2; apply LW.v0; rfl; rfl; apply ValP.lenR; rfl; infer_instance; rfl; apply LW.callE; rfl; rfl; infer_instance; apply ArgsOk.cons; rfl; exact ArgsOk.nil; intro w _; exact whole_calls _ (by omega) w; apply LW.v0; rfl; rfl; apply ValP.addZK; rfl; rfl; decide; omega; apply LW.v0; rfl; rfl; apply ValP.addZ; rfl; rfl; omega; apply LW.v0; rfl; rfl; apply ValP.assign; rfl; apply LW.nil; refine blkN ?_; refine thenN ?_; refine CW.region ?_; apply LW.v0; rfl; rfl; apply ValP.addZL; rfl; rfl; decide; omega; apply LW.v0; rfl; rfl; apply ValP.move; rfl; apply LW.nil)
      apply thenX
      refine ⟨rfl, ⟨m + 1, .slice p4 ((behK l m).length + 32 + l[m].db.length + (whl l[m].db.length - l[m].db.length)) c4, seg4, .slice p' ((plcK l m).length + 1) c', seg'⟩, ⟨hlt, ?_, ?_, .inr ?_⟩, by show l.length - (m + 1) < l.length - m; omega, ⟨rfl, rfl, rfl, by rw [ha1]; rfl, rfl, rfl, trivial⟩, ?_⟩
      · dsimp only
        rw [hb1, ucs_app, ← beh_cells, List.length_append, tlB_len, show (behK l m).length + (32 + whl l[m].db.length) = (behK l m).length + 32 + l[m].db.length + (whl l[m].db.length - l[m].db.length) by omega]
        exact hrow4
      · dsimp only
        rw [hp1, List.length_append, ics_app]
        exact hrow'
      · dsimp only
        rw [hb1, List.length_append, tlB_len]; omega
      · (apply List.Sublist.append_left; apply List.Sublist.cons; apply List.Sublist.cons; apply List.Sublist.cons; exact List.Sublist.refl _)
  · obtain rfl : m = l.length := by omega
    (refine CW.seq ?_; refine CW.region ?_; apply LW.v0; rfl; rfl; apply ValP.lssF; rfl; rfl; omega; apply LW.nil; refine thenN ?_; refine CW.seq ?_; apply CW.condF; rfl; (with_reducible rfl); refine CW.exit ?_; refine thenE ?_; refine thenE ?_; refine blkE rfl ?_)
    apply inI
    (exact .inr rfl)
    (exact Shut.nil)
    rfl
    (exact ResL.nil)
    rfl
    (apply LW.nil; refine thenN ?_; refine CW.seq ?_; refine CW.region ?_; apply LW.v0; rfl; rfl; apply ValP.assign; rfl; apply LW.nil; refine thenN ?_; refine CW.seq ?_; refine CW.seq ?_; refine CW.region ?_; apply LW.v0; rfl; rfl; apply ValP.move; rfl; apply LW.v0; rfl; rfl; apply ValP.lenR; rfl; infer_instance; rfl; apply LW.v0; rfl; rfl; apply ValP.move; rfl; apply LW.nil; refine thenN ?_; refine CW.block ?_)
    refine CW.loop (fun x : LX => ([(20, .int .i64 (x.k : Int)), (19, .int .i64 (l.length : Int)), (18, .slice p l.length c), (7, x.ov), (6, .pointer (some ⟨b6, 0, none⟩)), (5, .pointer (some ⟨b5, 0, none⟩))],
        x.segO ++ (segB ++ (segP ++ [(b6, .cells #[.slice qb (behK l l.length).length cb] 25 (0, 0)), (b5, .cells #[.slice x.q ((plcK l l.length).length - (plcK l x.k).length) x.c] 67 (0, 0))]))))
      (fun x => x.k ≤ l.length ∧ IsRow 5 1 x.ov (32 * x.k) (ucs (hdK l x.k)) x.segO ∧ (x.ov = .slice none 0 0 ∨ 0 < 32 * x.k) ∧ (plcK l l.length).length - (plcK l x.k).length ≤ x.c ∧ (∀ g, qp = some ⟨g, 0, none⟩ → (plcK l x.k).length < (plcK l l.length).length → x.q = some ⟨g, (plcK l x.k).length, none⟩)) (fun x => l.length - x.k) ⟨0, .slice none 0 0, [], qp, cp⟩
      ⟨Nat.zero_le _, by rw [hdK_zero]; exact .nil, .inl rfl, ?_, fun g h1 h2 => by rw [plcK_zero]; exact h1⟩ ⟨rfl, rfl, rfl, rfl, rfl, rfl, trivial⟩ ?_ ?_
    · exact Nat.le_trans (Nat.sub_le _ _) (IsRow.room hP _ _ rfl)
    · dsimp only; rw [plcK_zero]; exact List.Sublist.refl _
    rintro ⟨k, ov, segO, q, c1⟩ ⟨hk2, hO, hO0, hc1, hq⟩
    dsimp only at hk2 hO hO0 hc1 hq ⊢
    obtain ⟨po, co, rfl⟩ := hO.form
    rcases Nat.lt_or_ge k l.length with hlt | hge
    · obtain ⟨b, off, c', cs, E, fr, heq, hb, hrd0⟩ := part_rd hv k hlt
      cases heq
      have hrd : Rd Try.prog 39 (.cells cs E fr) (off + k * 6) (.agg (psa l[k])) := hrd0
      clear hrd0
      have ho := hv.one _ (List.getElem_mem hlt)
      have hwd := hv.small _ (List.getElem_mem hlt)
      have hpt := pt_eq hlt
      have hbl := beh_len hsm k
      have hpl := plc_len l k
      have hal : atF l k ≤ 100000 := by unfold atF; omega
      have hr2 : True := trivial
      cases hlg : (pt l k).lg with
      | false =>
        have hlg' : l[k].lg = false := by rw [← hpt]; exact hlg
        have hb1 := hdK_short hlg
        have hp1 := plcK_short hlg
        rw [hpt] at hb1
        have hr0 : ∀ {E fr} , Rd Try.prog 4 (.cells (psa l[k]) E fr) 0 (.bool false) := fun {E fr} => by rw [← hlg']; exact ps_rd0
        (refine CW.seq ?_; refine CW.region ?_; apply LW.v0; rfl; rfl; apply ValP.lssT; rfl; rfl; omega; apply LW.nil; refine thenN ?_; refine CW.seq ?_; apply CW.condT; rfl; (with_reducible rfl); refine CW.skip ?_; refine thenN ?_; refine CW.seq ?_; refine CW.block ?_; refine CW.seq ?_; refine CW.region ?_; apply LW.v0; rfl; rfl; apply ValP.indexAddrS; rfl; rfl; rfl; omega; apply LW.load; rfl; rfl; exact Known.ext (by assumption) (by simp); assumption; apply LW.allocA; rfl; intro _; apply LW.store; rfl; rfl; apply SetAt.head; apply ps_wrW; rfl; assumption; apply LW.nil; refine thenN ?_; refine CW.seq ?_; refine CW.seq ?_; refine CW.region ?_; apply LW.v0; rfl; rfl; apply ValP.fieldAddr; rfl; rfl; apply LW.load; rfl; rfl; apply Known.at; apply FsAt.head; exact hr0; apply LW.v0; rfl; rfl; apply ValP.notF; rfl; (with_reducible rfl); apply LW.nil; refine thenN ?_; apply CW.condT; rfl; (with_reducible rfl); refine CW.seq ?_; refine CW.region ?_; apply LW.v0; rfl; rfl; apply ValP.move; rfl; apply LW.v0; rfl; rfl; apply ValP.fieldAddr; rfl; rfl; apply LW.load; rfl; rfl; apply Known.at; apply FsAt.head; exact ps_rd1)
        refine LW.callR rfl rfl inferInstance (by (apply ArgsOk.cons; rfl; exact ArgsOk.nil)) (fun w hst => Bytes_calls _ hwd w) ?_
        intro v1 gs1 hrow1
        skip
        refine LW.appendAny (m := 32) (news := ucs (beb 32 l[k].wd)) rfl rfl inferInstance inferInstance inferInstance rfl rfl rfl (by (apply AtSeg.app; apply AtSeg.cons; exact AtSeg.head)) hO (fun w' hst => hrow1.atSeg (by (exact AtSeg.head)) hst) (ucs_cells _) (by simp only [maxLen]; omega) (by omega) ?_
        intro v2 seg2 hrow2
        refine ⟨_, (by (apply AtSeg.app; apply AtSeg.cons; exact AtSeg.head)), ?_⟩
        (apply LW.v0; rfl; rfl; apply ValP.assign; rfl; apply LW.nil; refine thenN ?_; refine CW.exit ?_; refine thenE ?_; refine blkE rfl ?_; refine thenN ?_; refine CW.region ?_; apply LW.v0; rfl; rfl; apply ValP.addZL; rfl; rfl; decide; omega; apply LW.v0; rfl; rfl; apply ValP.move; rfl; apply LW.nil)
        apply thenX
        refine ⟨rfl, ⟨k + 1, v2, seg2, q, c1⟩, ⟨hlt, ?_, .inr (by show 0 < 32 * (k + 1); omega), by rw [hp1]; exact hc1, by rw [hp1]; exact hq⟩, by show l.length - (k + 1) < l.length - k; omega, ⟨rfl, rfl, rfl, rfl, rfl, rfl, trivial⟩, ?_⟩
        · dsimp only
          rw [hb1, ucs_app, Nat.mul_succ]
          exact hrow2
        · dsimp only
          rw [hp1]
          (apply List.sublist_append_of_sublist_right; apply List.Sublist.cons; exact List.Sublist.refl _)
      | true =>
        have hlg' : l[k].lg = true := by rw [← hpt]; exact hlg
        have hb1 := hdK_long hlg
        have hp1 := plcK_long hlg
        have hr0 : ∀ {E fr} , Rd Try.prog 4 (.cells (psa l[k]) E fr) 0 (.bool true) := fun {E fr} => by rw [← hlg']; exact ps_rd0
        obtain ⟨hg1, hg2⟩ := plc_get hlt hlg
        obtain ⟨g, cur, hqp, hsegP, hn1, hm1, hs1, ht1⟩ := hP.pos (by omega)
        have hq1 := hq g hqp hg2
        subst hq1
        subst hsegP
        have hrdp : Rd Try.prog 3 (.cells cur 3 (0, 0)) ((plcK l k).length + 0 * 1) (.int .i64 (atF l k : Int)) := by
          rw [show (plcK l k).length + 0 * 1 = 0 + (plcK l k).length * 1 by omega]
          exact Rd.elem1 (g := fun b : Nat => [Value.int .i64 (b : Int)]) (by rw [List.drop_zero]; exact ht1) (ics_len _) hg1 rfl
        have hcut : cutAt (some ⟨g, (plcK l k).length, none⟩) 1 ((plcK l l.length).length - (plcK l k).length) c1 1 = .slice (if c1 = 1 then some ⟨g, (plcK l k).length, none⟩ else some ⟨g, (plcK l k).length + 1, none⟩) ((plcK l l.length).length - ((plcK l k).length + 1)) (c1 - 1) := by
          unfold cutAt
          split <;> rfl
        (refine CW.seq ?_; refine CW.region ?_; apply LW.v0; rfl; rfl; apply ValP.lssT; rfl; rfl; omega; apply LW.nil; refine thenN ?_; refine CW.seq ?_; apply CW.condT; rfl; (with_reducible rfl); refine CW.skip ?_; refine thenN ?_; refine CW.seq ?_; refine CW.block ?_; refine CW.seq ?_; refine CW.region ?_; apply LW.v0; rfl; rfl; apply ValP.indexAddrS; rfl; rfl; rfl; omega; apply LW.load; rfl; rfl; exact Known.ext (by assumption) (by simp); assumption; apply LW.allocA; rfl; intro _; apply LW.store; rfl; rfl; apply SetAt.head; apply ps_wrW; rfl; assumption; apply LW.nil; refine thenN ?_; refine CW.seq ?_; refine CW.seq ?_; refine CW.region ?_; apply LW.v0; rfl; rfl; apply ValP.fieldAddr; rfl; rfl; apply LW.load; rfl; rfl; apply Known.at; apply FsAt.head; exact hr0; apply LW.v0; rfl; rfl; apply ValP.notT; rfl; (with_reducible rfl); apply LW.nil; refine thenN ?_; apply CW.condF; rfl; (with_reducible rfl); refine CW.skip ?_; refine thenN ?_)
        apply CW.pre
        (refine AnyW.anyM [(4, fun v gs => IsRow 5 1 v 32 (ucs (beb 32 (atF l k))) gs), (5, fun v gs => IsRow 5 1 v (32 * k + 32) (ucs (hdK l k) ++ ucs (beb 32 (atF l k))) gs)] 9 mixed (by decide +kernel) ?_)
        ((try simp only [tsOf_cons, tsOf_nil, tsOf_app]); apply DW.v0; rfl; rfl; rfl; exact WantT.none; rfl; apply ValP.move; rfl; apply DW.loadO; rfl; rfl; rfl; exact WantT.none; rfl; apply TRead.tail; apply TRead.app; apply TRead.app; apply TRead.tail; apply TRead.tail; apply TRead.head; exact ancB_nil; exact Rd.one' rfl; apply DW.v0; rfl; rfl; rfl; exact WantT.none; rfl; apply ValP.indexAddrSL; rfl; rfl; decide; omega; apply DW.loadO; rfl; rfl; rfl; exact WantT.none; rfl; apply TRead.tail; apply TRead.app; apply TRead.app; apply TRead.head; exact ancB_nil; assumption)
        (apply DW.manyE; rfl; rfl; rfl; exact WantT.none; rfl; infer_instance; apply ArgsOk.cons; rfl; exact ArgsOk.nil; rfl; exact ReadAll.nil; intro w _ _)
        exact number_calls _ (by omega) w
        intro v1 gs1 hrow1
        obtain ⟨p1, c3, rfl⟩ := hrow1.form
        obtain ⟨g1, cur1, rfl, rfl, hn3, hm3, hs3, ht3⟩ := hrow1.pos (by decide)
        have hc3 : 0 < c3 := by omega
        ((try simp only [tsOf_cons, tsOf_nil, tsOf_app]))
        refine DW.appendV (news := ucs (beb 32 (atF l k))) rfl rfl rfl (by (exact WantT.none)) rfl inferInstance inferInstance inferInstance rfl rfl rfl hO hO0 (by (apply TOut.cons; apply TOut.cons; exact TOut.old)) (by (apply RdV.own; assumption; apply TRead.head; kernel_rfl; exact RdV.nil)) (fun w' hbel hus => RowAt.us hus hn3 hm3 ht3 (by rw [ucs_len, beb_len])) (ucs_cells _) (by simp only [maxLen]; omega) (by omega) ?_
        intro v2 seg2 hrow2
        obtain ⟨p2, c4, rfl⟩ := hrow2.form
        ((try simp only [tsOf_cons, tsOf_nil, tsOf_app]); apply DW.loadO; rfl; rfl; rfl; exact WantT.none; rfl; apply TRead.app; apply TRead.tail; apply TRead.tail; apply TRead.app; apply TRead.tail; apply TRead.tail; apply TRead.head; exact ancB_nil; exact Rd.one' rfl; apply DW.v0; rfl; rfl; rfl; exact WantT.none; rfl; apply ValP.cutFromL; infer_instance; infer_instance; rfl; rfl; decide; omega; apply DW.v0; rfl; rfl; rfl; exact WantT.none; rfl; apply ValP.assign; rfl; apply DW.nil; simp only [fsOf_cons, fsOf_nil, fsOf_app, fsOf_tsOf, fsOf_new, fsOf_tag])
        rw [hcut]
        (apply LW.store; rfl; rfl; apply SetAt.app; apply SetAt.tail; apply SetAt.tail; apply SetAt.app; apply SetAt.tail; apply SetAt.tail; apply SetAt.head; apply Wr.cells; rfl; rfl; simp only [List.size_toArray, List.length_cons, List.length_nil]; omega; simp only [fillC, wc, wrCells, Value.cells, List.toList_toArray, List.setIfInBounds_toArray, List.set_cons_succ, List.set_cons_zero, Nat.reduceAdd, Nat.reduceMul, Nat.zero_add, Nat.mul_one]; rfl; apply LW.nil; refine blkN ?_; refine thenN ?_; refine CW.region ?_; apply LW.v0; rfl; rfl; apply ValP.addZL; rfl; rfl; decide; omega; apply LW.v0; rfl; rfl; apply ValP.move; rfl; apply LW.nil)
        apply thenX
        refine ⟨rfl, ⟨k + 1, .slice p2 (32 * k + 32) c4, seg2, (if c1 = 1 then some ⟨g, (plcK l k).length, none⟩ else some ⟨g, (plcK l k).length + 1, none⟩), c1 - 1⟩, ⟨hlt, ?_, .inr (by show 0 < 32 * (k + 1); omega), ?_, ?_⟩, by show l.length - (k + 1) < l.length - k; omega, ⟨rfl, rfl, rfl, rfl, rfl, rfl, trivial⟩, ?_⟩
        · dsimp only
          rw [hb1, ucs_app, Nat.mul_succ]
          exact hrow2
        · dsimp only
          rw [hp1, List.length_append, List.length_singleton]; omega
        rotate_left
        · dsimp only
          rw [hp1, List.length_append, List.length_singleton]
          (apply List.Sublist.append_left; apply List.Sublist.cons; apply List.Sublist.cons; exact List.Sublist.refl _)
        · intro g' h1 h2
          dsimp only at h2 ⊢
          rw [hqp] at h1
          cases h1
          rw [hp1, List.length_append, List.length_singleton] at h2 ⊢
          rw [if_neg (by omega)]
    · obtain rfl : k = l.length := by omega
      (refine CW.seq ?_; refine CW.region ?_; apply LW.v0; rfl; rfl; apply ValP.lssF; rfl; rfl; omega; apply LW.nil; refine thenN ?_; refine CW.seq ?_; apply CW.condF; rfl; (with_reducible rfl); refine CW.exit ?_; refine thenE ?_; refine thenE ?_; refine blkE rfl ?_; refine thenN ?_; refine CW.seq ?_; refine CW.region ?_; apply LW.v0; rfl; rfl; apply ValP.move; rfl; apply LW.load; rfl; rfl; apply Known.at; apply FsAt.app; apply FsAt.app; apply FsAt.app; apply FsAt.head; exact Rd.one' rfl)
      refine LW.appendAny (m := (behK l l.length).length) (news := ucs (behK l l.length)) rfl rfl inferInstance inferInstance inferInstance rfl rfl rfl (by (exact AtSeg.head)) hO (fun w' hst => hB.atSeg (by (apply AtSeg.app; exact AtSeg.head)) hst) (ucs_cells _) (by simp only [maxLen]; have := beh_len hsm l.length; omega) (by have := beh_len hsm l.length; omega) ?_
      intro v2 seg2 hrow2
      refine ⟨_, (by (exact AtSeg.head)), ?_⟩
      (apply LW.v0; rfl; rfl; apply ValP.assign; rfl; apply LW.v0; rfl; rfl; apply ValP.assign; rfl; apply LW.nil; refine thenN ?_; refine CW.ret ?_)
      refine fin (vs := [v2, .int .i64 0]) seg2 (.inl rfl) rfl rfl (by (apply ResL.cons; exact Res.tmp rfl; apply ResL.cons; exact Res.tmp rfl; exact ResL.nil)) ?_ ⟨v2, rfl, ?_⟩
      · exact List.sublist_append_left _ _
      · rw [layF, ucs_app, List.length_append, hdK_len]
        exact hrow2
end Go.Proofs.Ytailnglojnccnaa

/-
  Contracts of the pack: how many bytes parts have.
  Conditions: none.
-/
namespace Go.Proofs.Ytailnglojnccnaa
open Go Go.RowKit SL
set_option maxRecDepth 8000
set_option maxHeartbeats 4000000
set_option linter.unusedSimpArgs false
set_option linter.unusedVariables false
attribute [local irreducible] SL.CW SL.LW SL.DW Calls SL.Ret SL.RetG SL.beginQ SL.roundQ SL.rangeQ SL.inQ SL.RW SL.AnyW SL.thenQ SL.thenC SL.thenW SL.blkQ SL.finQ SL.ValP SL.NewP SL.SetP SL.CallP SL.Rd SL.Wr SL.Known
def sizeF (l : List PartV) : Nat := if chkP l = 0 then (layF l).length else 0
theorem layF_len (l : List PartV) : (layF l).length = atF l l.length := by rw [layF, List.length_append, hdK_len, atF]
theorem Size_calls (l : List PartV) (v : Value) (w : World) (hv : PartsAt w v l) : Calls Try.prog 22 #[v] w (Ret w (.int .i64 (sizeF l : Int))) := by
  have hK : ∀ w' {fs}, St w [] fs w' → Calls Try.prog 21 #[v] w' (Ret w' (.int .i64 (chkP l))) := fun w' fs hst => Check_calls l v w' (hv.st hst)
  by_cases h : chkP l = 0
  · rw [h] at hK
    rw [sizeF, if_pos h, layF_len]
    obtain ⟨p, c, rfl, hc, hm⟩ := hv.row.form
    simp only [maxLen] at hm
    have hsm := right_small h
    have hl16 := hsm.1
    refine enter (args := [_]) _ [] [] Try.func22 rfl Try.ntmps22 rfl (by simp) .nil ?_
    (refine CW.seq ?_; refine CW.region ?_; apply LW.v0; rfl; rfl; apply ValP.assign; rfl; apply LW.nil; refine thenN ?_; refine CW.seq ?_; refine CW.seq ?_; refine CW.region ?_; apply LW.v0; rfl; rfl; apply ValP.move; rfl; apply LW.callE; rfl; rfl; infer_instance; apply ArgsOk.cons; rfl; exact ArgsOk.nil; intro w _; exact hK w (by assumption); apply LW.v0; rfl; rfl; apply ValP.neF; rfl; rfl; omega; apply LW.nil; refine thenN ?_; apply CW.condF; rfl; (with_reducible rfl); refine CW.skip ?_; refine thenN ?_; refine CW.seq ?_; refine CW.region ?_; apply LW.v0; rfl; rfl; apply ValP.move; rfl; apply LW.v0; rfl; rfl; apply ValP.lenR; rfl; infer_instance; rfl; apply LW.v0; rfl; rfl; apply ValP.mulZK; rfl; rfl; decide; omega; apply LW.alloc1; rfl; rfl; intro _; apply LW.store; rfl; rfl; apply SetAt.head; apply Wr.cells; rfl; rfl; simp only [List.size_toArray, List.length_cons, List.length_nil]; omega; simp only [fillC, wc, wrCells, Value.cells, List.toList_toArray, List.setIfInBounds_toArray, List.set_cons_succ, List.set_cons_zero, Nat.reduceAdd, Nat.reduceMul, Nat.zero_add, Nat.mul_one]; rfl; apply LW.nil; refine thenN ?_; refine CW.seq ?_; refine CW.region ?_; apply LW.v0; rfl; rfl; apply ValP.move; rfl; apply LW.v0; rfl; rfl; apply ValP.makeFunc; exact ArgsOk.nil; apply ArgsOk.cons; rfl; exact ArgsOk.nil)
    rename_i bn
    apply LW.inline
    rfl
    rfl
    infer_instance
    (apply ArgsOk.cons; rfl; apply ArgsOk.cons; rfl; exact ArgsOk.nil)
    rfl
    exact Try.func31
    rfl
    exact Try.ntmps31
    rfl
    (refine CW.seq ?_; refine CW.region ?_; apply LW.v0; rfl; rfl; apply ValP.move; rfl; apply LW.v0; rfl; rfl; apply ValP.lenR; rfl; infer_instance; rfl; apply LW.v0; rfl; rfl; apply ValP.mulZK; rfl; rfl; decide; omega; apply LW.v0; rfl; rfl; apply ValP.assign; rfl; apply LW.nil; refine thenN ?_; refine CW.seq ?_; refine CW.region ?_; apply LW.v0; rfl; rfl; apply ValP.move; rfl; apply LW.v0; rfl; rfl; apply ValP.lenR; rfl; infer_instance; rfl; apply LW.v0; rfl; rfl; apply ValP.move; rfl; apply LW.nil; refine thenN ?_; refine CW.block ?_)
    refine CW.loop (fun m : Nat => ([(12, .int .i64 (m : Int)), (11, .int .i64 (l.length : Int)), (10, .slice p l.length c), (4, .int .i64 (atF l m : Int)), (0, .slice p l.length c), (1, .func (.func 41) #[] #[.pointer (some ⟨bn, 0, none⟩)])],
        [(bn, .cells #[.int .i64 (atF l m : Int)] 3 (0, 0))]))
      (fun m => m ≤ l.length) (fun m => l.length - m) 0 (Nat.zero_le _) ⟨rfl, rfl, rfl, by rw [atF_zero]; rfl, rfl, rfl, trivial⟩ (by dsimp only; rw [atF_zero]; exact List.Sublist.refl _) ?_
    intro m hm2
    dsimp only at hm2 ⊢
    rcases Nat.lt_or_ge m l.length with hlt | hge
    · obtain ⟨b, off, c', cs, E, fr, heq, hb, hrd0⟩ := part_rd hv m hlt
      cases heq
      have hrd : Rd Try.prog 39 (.cells cs E fr) (off + m * 6) (.agg (psa l[m])) := hrd0
      clear hrd0
      have ho := hv.one _ (List.getElem_mem hlt)
      have hdv := hv.data _ (List.getElem_mem hlt)
      have hpt := pt_eq hlt
      have hd200 := hsm.2 m
      have hbl := beh_len hsm m
      have hal : atF l m ≤ 100000 := by unfold atF; omega
      have hwl := whl_le l[m].db.length
      have hwt := whl_lt l[m].db.length
      rw [hpt] at hd200
      obtain ⟨q, cq, hq, hcq, _⟩ := hdv.form
      have hr2 : ∀ {E fr} , Rd Try.prog 25 (.cells (psa l[m]) E fr) 5 (.slice q l[m].db.length cq) := fun {E fr} => by rw [← hq]; exact ps_rd2
      cases hlg : (pt l m).lg with
      | false =>
        have hlg' : l[m].lg = false := by rw [← hpt]; exact hlg
        have ha1 := atF_short hlg
        have hr0 : ∀ {E fr} , Rd Try.prog 4 (.cells (psa l[m]) E fr) 0 (.bool false) := fun {E fr} => by rw [← hlg']; exact ps_rd0
        (refine CW.seq ?_; refine CW.region ?_; apply LW.v0; rfl; rfl; apply ValP.lssT; rfl; rfl; omega; apply LW.nil; refine thenN ?_; refine CW.seq ?_; apply CW.condT; rfl; (with_reducible rfl); refine CW.skip ?_; refine thenN ?_; refine CW.seq ?_; refine CW.block ?_; refine CW.seq ?_; refine CW.region ?_; apply LW.v0; rfl; rfl; apply ValP.indexAddrS; rfl; rfl; rfl; omega; apply LW.load; rfl; rfl; exact Known.ext (by assumption) (by simp); assumption; apply LW.allocA; rfl; intro _; apply LW.store; rfl; rfl; apply SetAt.head; apply ps_wrW; rfl; assumption; apply LW.nil; refine thenN ?_; refine CW.seq ?_; refine CW.region ?_; apply LW.v0; rfl; rfl; apply ValP.fieldAddr; rfl; rfl; apply LW.load; rfl; rfl; apply Known.at; apply FsAt.head; exact hr0; apply LW.nil; refine thenN ?_; apply CW.condF; rfl; (with_reducible rfl); refine CW.skip ?_; refine blkN ?_; refine thenN ?_; refine CW.region ?_; apply LW.v0; rfl; rfl; apply ValP.addZL; rfl; rfl; decide; omega; apply LW.v0; rfl; rfl; apply ValP.move; rfl; apply LW.nil)
        apply thenX
        refine ⟨rfl, m + 1, hlt, by omega, ⟨rfl, rfl, rfl, by rw [ha1]; rfl, rfl, rfl, trivial⟩, ?_⟩
        rw [ha1]
        (apply List.Sublist.cons; exact List.Sublist.refl _)
      | true =>
        have hlg' : l[m].lg = true := by rw [← hpt]; exact hlg
        have ha1 := atF_long hlg
        rw [hpt] at ha1
        have hr0 : ∀ {E fr} , Rd Try.prog 4 (.cells (psa l[m]) E fr) 0 (.bool true) := fun {E fr} => by rw [← hlg']; exact ps_rd0
        (refine CW.seq ?_; refine CW.region ?_; apply LW.v0; rfl; rfl; apply ValP.lssT; rfl; rfl; omega; apply LW.nil; refine thenN ?_; refine CW.seq ?_; apply CW.condT; rfl; (with_reducible rfl); refine CW.skip ?_; refine thenN ?_; refine CW.seq ?_; refine CW.block ?_; refine CW.seq ?_; refine CW.region ?_; apply LW.v0; rfl; rfl; apply ValP.indexAddrS; rfl; rfl; rfl; omega; apply LW.load; rfl; rfl; exact Known.ext (by assumption) (by simp); assumption; apply LW.allocA; rfl; intro _; apply LW.store; rfl; rfl; apply SetAt.head; apply ps_wrW; rfl; assumption; apply LW.nil; refine thenN ?_; refine CW.seq ?_; refine CW.region ?_; apply LW.v0; rfl; rfl; apply ValP.fieldAddr; rfl; rfl; apply LW.load; rfl; rfl; apply Known.at; apply FsAt.head; exact hr0; apply LW.nil; refine thenN ?_; apply CW.condT; rfl; (with_reducible rfl); refine CW.seq ?_; refine CW.region ?_; apply LW.v0; rfl; rfl; apply ValP.move; rfl; apply LW.v0; rfl; rfl; apply ValP.move; rfl; apply LW.v0; rfl; rfl; apply ValP.fieldAddr; rfl; rfl; apply LW.load; rfl; rfl; apply Known.at; apply FsAt.head; exact hr2)
        apply LW.inline
        rfl
        rfl
        infer_instance
        (apply ArgsOk.cons; rfl; apply ArgsOk.cons; rfl; exact ArgsOk.nil)
        rfl
        exact Try.func41
        rfl
        exact Try.ntmps41
        rfl
        (refine CW.region ?_; apply LW.v0; rfl; rfl; apply ValP.move; rfl; apply LW.v0; rfl; rfl; apply ValP.addZL; rfl; rfl; decide; omega; apply LW.v0; rfl; rfl; apply ValP.move; rfl; apply LW.v0; rfl; rfl; apply ValP.lenR; rfl; infer_instance; rfl; apply LW.callE; rfl; rfl; infer_instance; apply ArgsOk.cons; rfl; exact ArgsOk.nil; intro w _; exact whole_calls _ (by omega) w; apply LW.v0; rfl; rfl; apply ValP.addZ; rfl; rfl; omega; apply LW.store; rfl; rfl; apply SetAt.tail; apply SetAt.head; apply Wr.cells; rfl; rfl; simp only [List.size_toArray, List.length_cons, List.length_nil]; omega; simp only [fillC, wc, wrCells, Value.cells, List.toList_toArray, List.setIfInBounds_toArray, List.set_cons_succ, List.set_cons_zero, Nat.reduceAdd, Nat.reduceMul, Nat.zero_add, Nat.mul_one]; rfl; apply LW.nil)
        apply inI
        (exact .inr rfl)
        (exact Shut.nil)
        rfl
        (exact ResL.nil)
        rfl
        (apply LW.nil; refine thenN ?_; refine CW.region ?_; apply LW.v0; rfl; rfl; apply ValP.move; rfl; apply LW.v0; rfl; rfl; apply ValP.fieldAddr; rfl; rfl; apply LW.load; rfl; rfl; apply Known.at; apply FsAt.head; exact hr2; apply LW.v0; rfl; rfl; apply ValP.lenR; rfl; infer_instance; rfl; apply LW.callE; rfl; rfl; infer_instance; apply ArgsOk.cons; rfl; exact ArgsOk.nil; intro w _; exact whole_calls _ (by omega) w; apply LW.v0; rfl; rfl; apply ValP.addZK; rfl; rfl; decide; omega; apply LW.v0; rfl; rfl; apply ValP.addZ; rfl; rfl; omega; apply LW.v0; rfl; rfl; apply ValP.assign; rfl; apply LW.nil; refine blkN ?_; refine thenN ?_; refine CW.region ?_; apply LW.v0; rfl; rfl; apply ValP.addZL; rfl; rfl; decide; omega; apply LW.v0; rfl; rfl; apply ValP.move; rfl; apply LW.nil)
        apply thenX
        refine ⟨rfl, m + 1, hlt, by omega, ⟨rfl, rfl, rfl, by rw [ha1]; rfl, rfl, rfl, trivial⟩, ?_⟩
        rw [ha1, show atF l m + (32 + whl l[m].db.length) = atF l m + 32 + whl l[m].db.length by omega]
        (apply List.Sublist.cons; exact List.Sublist.refl _)
    · obtain rfl : m = l.length := by omega
      (refine CW.seq ?_; refine CW.region ?_; apply LW.v0; rfl; rfl; apply ValP.lssF; rfl; rfl; omega; apply LW.nil; refine thenN ?_; refine CW.seq ?_; apply CW.condF; rfl; (with_reducible rfl); refine CW.exit ?_; refine thenE ?_; refine thenE ?_; refine blkE rfl ?_)
      apply inI
      (exact .inr rfl)
      (exact Shut.nil)
      rfl
      (exact ResL.nil)
      rfl
      (apply LW.nil; refine thenN ?_; refine CW.seq ?_; refine CW.region ?_; apply LW.load; rfl; rfl; apply Known.at; apply FsAt.head; exact Rd.one' rfl; apply LW.v0; rfl; rfl; apply ValP.assign; rfl; apply LW.nil; refine thenN ?_; refine CW.ret ?_)
      (apply finR; exact .inl rfl; rfl; rfl; rfl; apply ResL.cons; exact Res.tmp rfl; exact ResL.nil)
      rfl
  · rw [sizeF, if_neg h]
    refine enter (args := [_]) _ [] [] Try.func22 rfl Try.ntmps22 rfl (by simp) .nil ?_
    (refine CW.seq ?_; refine CW.region ?_; apply LW.v0; rfl; rfl; apply ValP.assign; rfl; apply LW.nil; refine thenN ?_; refine CW.seq ?_; refine CW.seq ?_; refine CW.region ?_; apply LW.v0; rfl; rfl; apply ValP.move; rfl; apply LW.callE; rfl; rfl; infer_instance; apply ArgsOk.cons; rfl; exact ArgsOk.nil; intro w _; exact hK w (by assumption); apply LW.v0; rfl; rfl; apply ValP.neT; rfl; rfl; omega; apply LW.nil; refine thenN ?_; apply CW.condT; rfl; (with_reducible rfl); refine CW.seq ?_; refine CW.region ?_; apply LW.v0; rfl; rfl; apply ValP.assign; rfl; apply LW.nil; refine thenN ?_; refine CW.ret ?_; refine thenR ?_)
    (apply finR; exact .inl rfl; rfl; rfl; rfl; apply ResL.cons; exact Res.tmp rfl; exact ResL.nil)
    rfl
end Go.Proofs.Ytailnglojnccnaa

/-
  Contracts of the pack: what is left of bytes.
  Conditions: none.
-/
namespace Go.Proofs.Ytailnglojnccnaa
open Go Go.RowKit SL
set_option maxRecDepth 8000
set_option maxHeartbeats 4000000
set_option linter.unusedSimpArgs false
set_option linter.unusedVariables false
attribute [local irreducible] SL.CW SL.LW SL.DW Calls SL.Ret SL.RetG SL.beginQ SL.roundQ SL.rangeQ SL.inQ SL.RW SL.AnyW SL.thenQ SL.thenC SL.thenW SL.blkQ SL.finQ SL.ValP SL.NewP SL.SetP SL.CallP SL.Rd SL.Wr SL.Known
/-! ### Taking bytes -/
def tkBad (bad : Bool) (l : List UInt8) (n : Nat) : Bool := bad || decide (l.length < n)
def tkB (bad : Bool) (l : List UInt8) (n : Nat) : List UInt8 := if tkBad bad l n then [] else l.take n
def tkL (bad : Bool) (l : List UInt8) (n : Nat) : List UInt8 := if tkBad bad l n then l else l.drop n
theorem tkB_bad {bad : Bool} {l : List UInt8} {n : Nat} (h : tkBad bad l n = true) : tkB bad l n = [] := by rw [tkB, if_pos h]
theorem tkL_bad {bad : Bool} {l : List UInt8} {n : Nat} (h : tkBad bad l n = true) : tkL bad l n = l := by rw [tkL, if_pos h]
theorem tkB_ok {bad : Bool} {l : List UInt8} {n : Nat} (h : tkBad bad l n = false) : tkB bad l n = l.take n := by rw [tkB, if_neg (by simp [h])]
theorem tkL_ok {bad : Bool} {l : List UInt8} {n : Nat} (h : tkBad bad l n = false) : tkL bad l n = l.drop n := by rw [tkL, if_neg (by simp [h])]
theorem tkB_len (bad : Bool) (l : List UInt8) (n : Nat) : (tkB bad l n).length ≤ n := by
  cases h : tkBad bad l n with
  | true => rw [tkB_bad h]; exact Nat.zero_le _
  | false => rw [tkB_ok h, List.length_take]; exact Nat.min_le_left _ _
theorem cells_cut (p : Option Addr) (k n c sz : Nat) : (cutAt p k n c sz).cells = #[cutAt p k n c sz] := rfl
theorem row_taken {W : World} {l : List UInt8} {n : Nat} {p : Option Addr} {c : Nat} (h : RowAt W 1 (.slice p l.length c) l.length (ucs l)) (hn : n ≤ l.length) : RowAt W 1 (.slice p n c) (l.take n).length (ucs (l.take n)) := by
  have := h.take (k := n) hn
  rw [ucs_take] at this
  rwa [List.length_take, Nat.min_eq_left hn]
theorem row_left {W : World} {l : List UInt8} {n : Nat} {p : Option Addr} {c : Nat} (h : RowAt W 1 (.slice p l.length c) l.length (ucs l)) (hn : n ≤ l.length) : RowAt W 1 (cutAt p n l.length c 1) (l.drop n).length (ucs (l.drop n)) := by
  have := h.drop (k := n) hn
  rw [ucs_drop] at this
  rwa [List.length_drop]
theorem take_calls {W w0 : World} {S : List Nat} {b E : Nat} {lv : Value} {bad : Bool} {rs : List Value} {l : List UInt8} (hrow : RowAt W 1 lv l.length (ucs l)) (n : Nat) (hn : n ≤ 1000000000) (pre post : Fs) (w : World) (hs : St w0 S (pre ++ (b, .cells (lv :: .bool bad :: rs).toArray E (0, 0)) :: post) w) :
    Calls Try.prog 45 #[.pointer (some ⟨b, 0, none⟩), .int .i64 (n : Int)] w (fun x w' => ∃ v fs', x = .returned v ∧ (∃ lv', RowAt W 1 v (tkB bad l n).length (ucs (tkB bad l n)) ∧ RowAt W 1 lv' (tkL bad l n).length (ucs (tkL bad l n)) ∧ fs' = pre ++ (b, .cells (lv' :: .bool (tkBad bad l n) :: rs).toArray E (0, 0)) :: post) ∧ St w0 S fs' w') := by
  obtain ⟨p, c, rfl, hc, hm⟩ := hrow.form
  refine calls_inline (args := [_, _]) Try.func45 rfl Try.ntmps45 rfl ?_ hs
  cases bad with
  | true =>
    have hb : tkBad true l n = true := rfl
    rw [tkB_bad hb, tkL_bad hb, hb]
    (refine CW.seq ?_; refine CW.region ?_; apply LW.v0; rfl; rfl; apply ValP.assign; rfl; apply LW.nil; refine thenN ?_; refine CW.seq ?_; refine CW.seq ?_; refine CW.region ?_; apply LW.v0; rfl; rfl; apply ValP.move; rfl; apply LW.v0; rfl; rfl; apply ValP.nilCheck; rfl; apply LW.v0; rfl; rfl; apply ValP.fieldAddr; rfl; rfl; apply LW.load; rfl; rfl; apply Known.at; apply FsAt.app; apply FsAt.head; apply Rd.one'; rfl; apply LW.v0; rfl; rfl; apply ValP.move; rfl; apply LW.guardF'; rfl; rfl; simp only [Bool.not_true, Bool.not_false]; rfl; apply LW.guardF'; rfl; rfl; simp only [Bool.not_true, Bool.not_false]; rfl; apply LW.guardF'; rfl; rfl; simp only [Bool.not_true, Bool.not_false]; rfl; apply LW.guardF'; rfl; rfl; simp only [Bool.not_true, Bool.not_false]; rfl; apply LW.guardF'; rfl; rfl; simp only [Bool.not_true, Bool.not_false]; rfl; apply LW.guardF'; rfl; rfl; simp only [Bool.not_true, Bool.not_false]; rfl; apply LW.guardF'; rfl; rfl; simp only [Bool.not_true, Bool.not_false]; rfl; apply LW.v0; rfl; rfl; apply ValP.pickT'; rfl; (with_reducible rfl); rfl; apply LW.nil; refine thenN ?_; apply CW.condT; rfl; (with_reducible rfl); refine CW.seq ?_; refine CW.region ?_; apply LW.v0; rfl; rfl; apply ValP.move; rfl; apply LW.v0; rfl; rfl; apply ValP.nilCheck; rfl; apply LW.v0; rfl; rfl; apply ValP.fieldAddr; rfl; rfl; apply LW.store; rfl; rfl; apply SetAt.app; apply SetAt.head; apply Wr.cells; rfl; rfl; simp only [List.size_toArray, List.length_cons, List.length_nil]; omega; simp only [cells_cut, wrCells, List.setIfInBounds_toArray, List.set_cons_succ, List.set_cons_zero, Nat.reduceAdd, Nat.zero_add]; rfl; apply LW.nil; refine thenN ?_; refine CW.seq ?_; refine CW.region ?_; apply LW.v0; rfl; rfl; apply ValP.assign; rfl; apply LW.nil; refine thenN ?_; refine CW.ret ?_; refine thenR ?_)
    apply inI
    (exact .inl rfl)
    (exact Shut.nil)
    rfl
    (apply ResL.cons; exact Res.tmp rfl; exact ResL.nil)
    rfl
    exact ⟨_, RowAt.nil, hrow, rfl⟩
  | false =>
    rcases Nat.lt_or_ge l.length n with hlt | hge
    · have hb : tkBad false l n = true := by simp [tkBad, hlt]
      rw [tkB_bad hb, tkL_bad hb, hb]
      (refine CW.seq ?_; refine CW.region ?_; apply LW.v0; rfl; rfl; apply ValP.assign; rfl; apply LW.nil; refine thenN ?_; refine CW.seq ?_; refine CW.seq ?_; refine CW.region ?_; apply LW.v0; rfl; rfl; apply ValP.move; rfl; apply LW.v0; rfl; rfl; apply ValP.nilCheck; rfl; apply LW.v0; rfl; rfl; apply ValP.fieldAddr; rfl; rfl; apply LW.load; rfl; rfl; apply Known.at; apply FsAt.app; apply FsAt.head; apply Rd.one'; rfl; apply LW.v0; rfl; rfl; apply ValP.move; rfl; apply LW.guardT'; rfl; rfl; (with_reducible rfl); apply LW.v0; rfl; rfl; apply ValP.move; rfl; apply LW.guardT'; rfl; rfl; (with_reducible rfl); apply LW.v0; rfl; rfl; apply ValP.move; rfl; apply LW.guardT'; rfl; rfl; (with_reducible rfl); apply LW.v0; rfl; rfl; apply ValP.nilCheck; rfl; apply LW.guardT'; rfl; rfl; (with_reducible rfl); apply LW.v0; rfl; rfl; apply ValP.fieldAddr; rfl; rfl; apply LW.guardT'; rfl; rfl; (with_reducible rfl); apply LW.load; rfl; rfl; apply Known.at; apply FsAt.app; apply FsAt.head; apply Rd.one'; rfl; apply LW.guardT'; rfl; rfl; (with_reducible rfl); apply LW.v0; rfl; rfl; apply ValP.lenR; rfl; infer_instance; rfl; apply LW.guardT'; rfl; rfl; (with_reducible rfl); apply LW.v0; rfl; rfl; apply ValP.gtrT; rfl; rfl; omega; apply LW.v0; rfl; rfl; apply ValP.pickF'; rfl; (with_reducible rfl); rfl; apply LW.nil; refine thenN ?_; apply CW.condT; rfl; (with_reducible rfl); refine CW.seq ?_; refine CW.region ?_; apply LW.v0; rfl; rfl; apply ValP.move; rfl; apply LW.v0; rfl; rfl; apply ValP.nilCheck; rfl; apply LW.v0; rfl; rfl; apply ValP.fieldAddr; rfl; rfl; apply LW.store; rfl; rfl; apply SetAt.app; apply SetAt.head; apply Wr.cells; rfl; rfl; simp only [List.size_toArray, List.length_cons, List.length_nil]; omega; simp only [cells_cut, wrCells, List.setIfInBounds_toArray, List.set_cons_succ, List.set_cons_zero, Nat.reduceAdd, Nat.zero_add]; rfl; apply LW.nil; refine thenN ?_; refine CW.seq ?_; refine CW.region ?_; apply LW.v0; rfl; rfl; apply ValP.assign; rfl; apply LW.nil; refine thenN ?_; refine CW.ret ?_; refine thenR ?_)
      apply inI
      (exact .inl rfl)
      (exact Shut.nil)
      rfl
      (apply ResL.cons; exact Res.tmp rfl; exact ResL.nil)
      rfl
      exact ⟨_, RowAt.nil, hrow, rfl⟩
    · have hb : tkBad false l n = false := by simp [tkBad, hge]
      rw [tkB_ok hb, tkL_ok hb, hb]
      (refine CW.seq ?_; refine CW.region ?_; apply LW.v0; rfl; rfl; apply ValP.assign; rfl; apply LW.nil; refine thenN ?_; refine CW.seq ?_; refine CW.seq ?_; refine CW.region ?_; apply LW.v0; rfl; rfl; apply ValP.move; rfl; apply LW.v0; rfl; rfl; apply ValP.nilCheck; rfl; apply LW.v0; rfl; rfl; apply ValP.fieldAddr; rfl; rfl; apply LW.load; rfl; rfl; apply Known.at; apply FsAt.app; apply FsAt.head; apply Rd.one'; rfl; apply LW.v0; rfl; rfl; apply ValP.move; rfl; apply LW.guardT'; rfl; rfl; (with_reducible rfl); apply LW.v0; rfl; rfl; apply ValP.move; rfl; apply LW.guardT'; rfl; rfl; (with_reducible rfl); apply LW.v0; rfl; rfl; apply ValP.move; rfl; apply LW.guardT'; rfl; rfl; (with_reducible rfl); apply LW.v0; rfl; rfl; apply ValP.nilCheck; rfl; apply LW.guardT'; rfl; rfl; (with_reducible rfl); apply LW.v0; rfl; rfl; apply ValP.fieldAddr; rfl; rfl; apply LW.guardT'; rfl; rfl; (with_reducible rfl); apply LW.load; rfl; rfl; apply Known.at; apply FsAt.app; apply FsAt.head; apply Rd.one'; rfl; apply LW.guardT'; rfl; rfl; (with_reducible rfl); apply LW.v0; rfl; rfl; apply ValP.lenR; rfl; infer_instance; rfl; apply LW.guardT'; rfl; rfl; (with_reducible rfl); apply LW.v0; rfl; rfl; apply ValP.gtrF; rfl; rfl; omega; apply LW.v0; rfl; rfl; apply ValP.pickF'; rfl; (with_reducible rfl); rfl; apply LW.nil; refine thenN ?_; apply CW.condF; rfl; (with_reducible rfl); refine CW.skip ?_; refine thenN ?_; refine CW.seq ?_; refine CW.region ?_; apply LW.v0; rfl; rfl; apply ValP.move; rfl; apply LW.v0; rfl; rfl; apply ValP.nilCheck; rfl; apply LW.v0; rfl; rfl; apply ValP.fieldAddr; rfl; rfl; apply LW.load; rfl; rfl; apply Known.at; apply FsAt.app; apply FsAt.head; apply Rd.one'; rfl; apply LW.v0; rfl; rfl; apply ValP.move; rfl; apply LW.v0; rfl; rfl; apply ValP.cutTo; infer_instance; infer_instance; rfl; rfl; omega; apply LW.v0; rfl; rfl; apply ValP.assign; rfl; apply LW.nil; refine thenN ?_; refine CW.seq ?_; refine CW.region ?_; apply LW.v0; rfl; rfl; apply ValP.move; rfl; apply LW.v0; rfl; rfl; apply ValP.move; rfl; apply LW.v0; rfl; rfl; apply ValP.nilCheck; rfl; apply LW.v0; rfl; rfl; apply ValP.fieldAddr; rfl; rfl; apply LW.load; rfl; rfl; apply Known.at; apply FsAt.app; apply FsAt.head; apply Rd.one'; rfl; apply LW.v0; rfl; rfl; apply ValP.move; rfl; apply LW.v0; rfl; rfl; apply ValP.cutFrom; infer_instance; infer_instance; rfl; rfl; omega; apply LW.v0; rfl; rfl; apply ValP.nilCheck; rfl; apply LW.v0; rfl; rfl; apply ValP.fieldAddr; rfl; rfl; apply LW.store; rfl; rfl; apply SetAt.app; apply SetAt.head; apply Wr.cells; rfl; rfl; simp only [List.size_toArray, List.length_cons, List.length_nil]; omega; simp only [cells_cut, wrCells, List.setIfInBounds_toArray, List.set_cons_succ, List.set_cons_zero, Nat.reduceAdd, Nat.zero_add]; rfl; apply LW.nil; refine thenN ?_; refine CW.seq ?_; refine CW.region ?_; apply LW.v0; rfl; rfl; apply ValP.move; rfl; apply LW.v0; rfl; rfl; apply ValP.assign; rfl; apply LW.nil; refine thenN ?_; refine CW.ret ?_)
      apply inI
      (exact .inl rfl)
      (exact Shut.nil)
      rfl
      (apply ResL.cons; exact Res.tmp rfl; exact ResL.nil)
      rfl
      exact ⟨_, row_taken hrow hge, row_left hrow hge, rfl⟩
theorem calls_sub {P : Program} {f : FuncId} {args : Array Value} {w w0 : World} {S : List Nat} {K : Value → Fs → Prop} (h : Calls P f args w (fun x w' => ∃ v fs', x = .returned v ∧ (∃ fs2, List.Sublist fs2 fs' ∧ K v fs2) ∧ St w0 S fs' w')) :
    Calls P f args w (fun x w' => ∃ v fs', x = .returned v ∧ K v fs' ∧ St w0 S fs' w') :=
  Calls.mono h fun x w' ⟨v, fs', hx, ⟨fs2, hf, hK⟩, hs⟩ => ⟨v, fs2, hx, hK, hs.bel, fun p hp => hs.own p (hf.subset hp), hs.nd.sublist hf⟩
theorem atSeg_one {b : Nat} {o : Obj} {post : Fs} : AtSeg ((b, o) :: post) [] [(b, o)] post := AtSeg.head (seg := [(b, o)])
section lw
variable {w0 : World} {S : List Nat} {N : Nat} {ds : List Deferred} {r : Option Nat} {ops : Array Oper} {Q : Post} {rest : List Oper} {e : Env} {fs : Fs} {d : Nat} {t : TypeId} {pos : String} {af : Array Edge}
/-- A call of take. -/
theorem LW.takeR {fo : Operand} {args : Array Operand} {tys : Array TypeId} {W : World} {b E n : Nat} {lv : Value} {bad : Bool} {rs : List Value} {l : List UInt8} {pre post : Fs} (hd : Nat.blt d N = true) (hf : e.ev fo = some (.func (.func 45) #[] #[])) (ha : ArgsOk e args.toList [.pointer (some ⟨b, 0, none⟩), .int .i64 (n : Int)])
    (hrow : RowAt W 1 lv l.length (ucs l)) (hn : n ≤ 1000000000) (hseg : AtSeg fs pre [(b, .cells (lv :: .bool bad :: rs).toArray E (0, 0))] post)
    (k : ∀ v lv', RowAt W 1 v (tkB bad l n).length (ucs (tkB bad l n)) → RowAt W 1 lv' (tkL bad l n).length (ucs (tkL bad l n)) → ∃ fs', AtSeg fs' pre [(b, .cells (lv' :: .bool (tkBad bad l n) :: rs).toArray E (0, 0))] post ∧ LW ⟨Try.prog, w0, S, N, ds, r⟩ ops Q rest ((d, v) :: e) fs') :
    LW ⟨Try.prog, w0, S, N, ds, r⟩ ops Q (⟨some d, .call { callee := .value fo, args := args, argTypes := tys }, t, pos, af, none⟩ :: rest) e fs := by
  refine LW.callSt (C := ⟨Try.prog, w0, S, N, ds, r⟩) hd hf inferInstance ha (fun w hs => take_calls hrow n hn pre post w (by have h := hs; rw [hseg.eq] at h; exact h)) ?_
  rintro v fs' ⟨lv', h1, h2, rfl⟩
  obtain ⟨fs2, h3, h4⟩ := k v lv' h1 h2
  rw [h3.eq] at h4
  exact h4
end lw
theorem word_calls {w0 : World} {b E : Nat} {lv : Value} {bad : Bool} {rs : List Value} {l : List UInt8} (hrow : RowAt w0 1 lv l.length (ucs l)) (pre post : Fs) (w : World) (hs : St w0 [] (pre ++ (b, .cells (lv :: .bool bad :: rs).toArray E (0, 0)) :: post) w) :
    Calls Try.prog 43 #[.pointer (some ⟨b, 0, none⟩)] w (fun x w' => ∃ v fs', x = .returned v ∧ (v = wv (bev (tkB bad l 32)) ∧ ∃ lv', RowAt w0 1 lv' (tkL bad l 32).length (ucs (tkL bad l 32)) ∧ fs' = pre ++ (b, .cells (lv' :: .bool (tkBad bad l 32) :: rs).toArray E (0, 0)) :: post) ∧ St w0 [] fs' w') := by
  refine calls_sub ?_
  refine calls_inline (args := [_]) Try.func43 rfl Try.ntmps43 rfl ?_ hs
  (refine CW.seq ?_; refine CW.region ?_; apply LW.allocW; rfl; intro _; apply LW.nil; refine thenN ?_; refine CW.seq ?_; refine CW.region ?_; apply LW.v0; rfl; rfl; apply ValP.move; rfl)
  refine LW.takeR (n := 32) rfl rfl (by (apply ArgsOk.cons; rfl; apply ArgsOk.cons; rfl; exact ArgsOk.nil)) hrow (by omega) (by (apply AtSeg.cons; apply AtSeg.app; exact atSeg_one)) ?_
  intro v lv' hv hl
  refine ⟨_, (by (apply AtSeg.cons; apply AtSeg.app; exact AtSeg.head)), ?_⟩
  (apply LW.callE; rfl; rfl; infer_instance; apply ArgsOk.cons; rfl; exact ArgsOk.nil; intro w _; exact Read_calls v _ w (hv.st (by assumption)) (tkB_len _ _ _); apply LW.v0; rfl; rfl; apply ValP.move; rfl; apply LW.v0; rfl; rfl; apply ValP.extractN; rfl; rfl; apply LW.v0; rfl; rfl; apply ValP.extractN; rfl; rfl; apply LW.allocW; rfl; intro _; apply LW.store; rfl; rfl; apply SetAt.head; apply Wr.whole; rfl; rfl; rfl; apply LW.v0; rfl; rfl; apply ValP.assign; rfl; apply LW.nil; refine thenN ?_; refine CW.seq ?_; refine CW.region ?_; apply LW.load; rfl; rfl; apply Known.at; apply FsAt.head; exact Rd.whole rfl; apply LW.store; rfl; rfl; apply SetAt.tail; apply SetAt.head; apply Wr.whole; rfl; rfl; rfl; apply LW.nil; refine thenN ?_; refine CW.ret ?_)
  apply inI
  (exact .inl rfl)
  (exact Shut.nil)
  rfl
  (apply ResL.cons; apply Res.cell; rfl; apply Known.at; apply FsAt.tail; apply FsAt.head; exact Rd.whole rfl; exact ResL.nil)
  rfl
  exact ⟨_, List.Sublist.cons _ (List.Sublist.cons _ (List.Sublist.refl _)), rfl, _, hl, rfl⟩
/-- A call of word. -/
theorem LW.wordR {w0 : World} {N : Nat} {ds : List Deferred} {r : Option Nat} {ops : Array Oper} {Q : Post} {rest : List Oper} {e : Env} {fs : Fs} {d : Nat} {t : TypeId} {pos : String} {af : Array Edge} {fo : Operand} {args : Array Operand} {tys : Array TypeId} {b E : Nat} {lv : Value} {bad : Bool} {rs : List Value} {l : List UInt8} {pre post : Fs}
    (hd : Nat.blt d N = true) (hf : e.ev fo = some (.func (.func 43) #[] #[])) (ha : ArgsOk e args.toList [.pointer (some ⟨b, 0, none⟩)])
    (hrow : RowAt w0 1 lv l.length (ucs l)) (hseg : AtSeg fs pre [(b, .cells (lv :: .bool bad :: rs).toArray E (0, 0))] post)
    (k : ∀ lv', RowAt w0 1 lv' (tkL bad l 32).length (ucs (tkL bad l 32)) → ∃ fs', AtSeg fs' pre [(b, .cells (lv' :: .bool (tkBad bad l 32) :: rs).toArray E (0, 0))] post ∧ LW ⟨Try.prog, w0, [], N, ds, r⟩ ops Q rest ((d, wv (bev (tkB bad l 32))) :: e) fs') :
    LW ⟨Try.prog, w0, [], N, ds, r⟩ ops Q (⟨some d, .call { callee := .value fo, args := args, argTypes := tys }, t, pos, af, none⟩ :: rest) e fs := by
  refine LW.callSt (C := ⟨Try.prog, w0, [], N, ds, r⟩) hd hf inferInstance ha (fun w hs => word_calls hrow pre post w (by have h := hs; rw [hseg.eq] at h; exact h)) ?_
  rintro v fs' ⟨rfl, lv', h2, rfl⟩
  obtain ⟨fs2, h3, h4⟩ := k lv' h2
  rw [h3.eq] at h4
  exact h4
end Go.Proofs.Ytailnglojnccnaa

/-
  Contracts of the pack: parts read.
  Conditions: none.
-/
namespace Go.Proofs.Ytailnglojnccnaa
open Go Go.RowKit SL
set_option maxRecDepth 8000
set_option maxHeartbeats 4000000
set_option linter.unusedSimpArgs false
set_option linter.unusedVariables false
attribute [local irreducible] SL.CW SL.LW SL.DW Calls SL.Ret SL.RetG SL.beginQ SL.roundQ SL.rangeQ SL.inQ SL.RW SL.AnyW SL.thenQ SL.thenC SL.thenW SL.blkQ SL.finQ SL.ValP SL.NewP SL.SetP SL.CallP SL.Rd SL.Wr SL.Known
theorem bev_m256 {l : List UInt8} (h : l.length ≤ 32) : bev l < M256 :=
  Nat.lt_of_lt_of_le (bev_lt l) (show 2 ^ (8 * l.length) ≤ 2 ^ 256 from Nat.pow_le_pow_right (by decide) (by omega))
/-- What is left. -/
structure RS where
  hl : List UInt8
  hb : Bool
  tl : List UInt8
  tb : Bool
  pl : Nat
def hd32 (s : RS) : Nat := bev (tkB s.hb s.hl 32)
def lgN (s : RS) : Nat := bev (tkB s.tb s.tl 32)
def lgT1 (s : RS) : List UInt8 := tkL s.tb s.tl 32
def lgB1 (s : RS) : Bool := tkBad s.tb s.tl 32
def lgD (s : RS) : List UInt8 := tkB (lgB1 s) (lgT1 s) (lgN s)
def lgT2 (s : RS) : List UInt8 := tkL (lgB1 s) (lgT1 s) (lgN s)
def lgB2 (s : RS) : Bool := tkBad (lgB1 s) (lgT1 s) (lgN s)
def lgP (s : RS) : List UInt8 := tkB (lgB2 s) (lgT2 s) (whl (lgN s) - lgN s)
def lgT3 (s : RS) : List UInt8 := tkL (lgB2 s) (lgT2 s) (whl (lgN s) - lgN s)
def lgB3 (s : RS) : Bool := tkBad (lgB2 s) (lgT2 s) (whl (lgN s) - lgN s)
def nz (l : List UInt8) : Bool := l.any (fun u => decide (u.toNat ≠ 0))
def lgOk (s : RS) : Bool := decide (hd32 s = s.pl ∧ lgN s ≤ 200)
/-- What is left behind a Long part. -/
def lgS (s : RS) : RS := if lgOk s then ⟨tkL s.hb s.hl 32, tkBad s.hb s.hl 32 || nz (lgP s), lgT3 s, lgB3 s, s.pl + (32 + whl (lgN s))⟩ else ⟨tkL s.hb s.hl 32, true, lgT1 s, lgB1 s, s.pl⟩
/-- What is left behind a word. -/
def shS (s : RS) : RS := ⟨tkL s.hb s.hl 32, tkBad s.hb s.hl 32, s.tl, s.tb, s.pl⟩
def rcells (hv : Value) (hb : Bool) (bT pl : Nat) : List Value := [hv, .bool hb, .pointer (some ⟨bT, 0, none⟩), .int .i64 (pl : Int)]
def tcells (tv : Value) (tb : Bool) : List Value := [tv, .bool tb]
/-- The facts of a reader. -/
def rfs (bR bT : Nat) (hv tv : Value) (s : RS) : Fs := [(bR, .cells #[hv, .bool s.hb, .pointer (some ⟨bT, 0, none⟩), .int .i64 (s.pl : Int)] 61 (0, 0)), (bT, .cells #[tv, .bool s.tb] 58 (0, 0))]
theorem short_calls {w0 : World} {bR bT : Nat} {hv tv : Value} {s : RS} (hrow : RowAt w0 1 hv s.hl.length (ucs s.hl)) (pre post : Fs) (w : World) (hs : St w0 [] (pre ++ (rfs bR bT hv tv s ++ post)) w) :
    Calls Try.prog 24 #[.pointer (some ⟨bR, 0, none⟩)] w (fun x w' => ∃ v fs', x = .returned v ∧ (v = .agg (psa (ofP (hd32 s))) ∧ ∃ hv', RowAt w0 1 hv' (shS s).hl.length (ucs (shS s).hl) ∧ fs' = pre ++ (rfs bR bT hv' tv (shS s) ++ post)) ∧ St w0 [] fs' w') := by
  refine calls_sub ?_
  refine calls_inline (args := [_]) Try.func24 rfl Try.ntmps24 rfl ?_ hs
  simp only [rfs, List.cons_append, List.nil_append]
  (refine CW.seq ?_; refine CW.region ?_; apply LW.allocA; rfl; intro _; apply LW.nil; refine thenN ?_; refine CW.seq ?_; refine CW.region ?_; apply LW.v0; rfl; rfl; apply ValP.move; rfl; apply LW.v0; rfl; rfl; apply ValP.nilCheck; rfl; apply LW.v0; rfl; rfl; apply ValP.fieldAddr; rfl; rfl)
  refine LW.wordR rfl rfl (by (apply ArgsOk.cons; rfl; exact ArgsOk.nil)) hrow (by (apply AtSeg.cons; apply AtSeg.app; exact atSeg_one)) ?_
  intro lv' hl
  refine ⟨_, (by (apply AtSeg.cons; apply AtSeg.app; exact AtSeg.head)), ?_⟩
  simp only [List.cons_append, List.nil_append]
  (apply LW.callE; rfl; rfl; infer_instance; apply ArgsOk.cons; rfl; exact ArgsOk.nil; intro w _; exact pOf_calls _ (bev_m256 (tkB_len _ _ _)) w; apply LW.store; rfl; rfl; apply SetAt.head; apply Wr.whole; rfl; rfl; rfl; apply LW.nil; refine thenN ?_; refine CW.ret ?_)
  apply inI
  (exact .inl rfl)
  (exact Shut.nil)
  rfl
  (apply ResL.cons; apply Res.cell; rfl; apply Known.at; apply FsAt.head; exact Rd.whole rfl; exact ResL.nil)
  rfl
  exact ⟨_, List.Sublist.cons _ (List.Sublist.refl _), rfl, _, hl, rfl⟩
/-- What take hands back. -/
def takeM (W : World) (b E : Nat) (rs : List Value) (bad : Bool) (l : List UInt8) (n : Nat) (v : Value) (gs : Fs) : Prop :=
  ∃ lv', RowAt W 1 v (tkB bad l n).length (ucs (tkB bad l n)) ∧ RowAt W 1 lv' (tkL bad l n).length (ucs (tkL bad l n)) ∧ gs = [(b, .cells (lv' :: .bool (tkBad bad l n) :: rs).toArray E (0, 0))]
theorem take_ret {W : World} {b E : Nat} {lv : Value} {bad : Bool} {rs : List Value} {l : List UInt8} (hrow : RowAt W 1 lv l.length (ucs l)) (n : Nat) (hn : n ≤ 1000000000) (w : World) (hb : w.heap[b]? = some (.cells (lv :: .bool bad :: rs).toArray E (0, 0))) :
    Calls Try.prog 45 #[.pointer (some ⟨b, 0, none⟩), .int .i64 (n : Int)] w (RetG w [b] (takeM W b E rs bad l n)) := by
  refine Calls.mono (take_calls (w0 := w) (S := [b]) (E := E) (rs := rs) (bad := bad) hrow n hn [] [] w ⟨Bel.refl _ _ _, fun p hp => ?_, by simp⟩) fun x w' h => retG_of ?_
  · obtain rfl : p = _ := by simpa using hp
    exact ⟨.inr (by simp), hb⟩
  · exact h
/-- The part that is read. -/
def lgR (s : RS) (dv : Value) : PartV := if lgOk s then byP dv (lgD s) else p00
theorem long_calls {w0 : World} {bR bT : Nat} {hv tv : Value} {s : RS} (hrow : RowAt w0 1 hv s.hl.length (ucs s.hl)) (trow : RowAt w0 1 tv s.tl.length (ucs s.tl)) (hpl : s.pl ≤ 1000000) (pre post : Fs) (w : World) (hs : St w0 [] (pre ++ (rfs bR bT hv tv s ++ post)) w) :
    Calls Try.prog 25 #[.pointer (some ⟨bR, 0, none⟩)] w (fun x w' => ∃ v fs', x = .returned v ∧ (∃ dv seg hv' tv', v = .agg (psa (lgR s dv)) ∧ IsRow 5 1 (lgR s dv).dv (lgR s dv).db.length (ucs (lgR s dv).db) seg ∧ RowAt w0 1 hv' (lgS s).hl.length (ucs (lgS s).hl) ∧ RowAt w0 1 tv' (lgS s).tl.length (ucs (lgS s).tl) ∧ fs' = seg ++ (pre ++ (rfs bR bT hv' tv' (lgS s) ++ post))) ∧ St w0 [] fs' w') := by
  obtain ⟨h, hh⟩ : ∃ h, hd32 s = h := ⟨_, rfl⟩
  obtain ⟨n, hn⟩ : ∃ n, lgN s = n := ⟨_, rfl⟩
  have hlt : h < M256 := by rw [← hh]; exact bev_m256 (tkB_len _ _ _)
  have hnt : n < M256 := by rw [← hn]; exact bev_m256 (tkB_len _ _ _)
  have hA0 := Small_calls h hlt
  have hN0 := Small_calls n hnt
  have hwl := whl_le n
  have hwt := whl_lt n
  have hh' : bev (tkB s.hb s.hl 32) = h := hh
  have hn' : bev (tkB s.tb s.tl 32) = n := hn
  refine calls_sub ?_
  refine calls_inline (args := [_]) Try.func25 rfl Try.ntmps25 rfl ?_ hs
  simp only [rfs, List.cons_append, List.nil_append]
  rcases Nat.lt_or_ge h 18446744073709551616 with h64 | h64
  · rw [if_pos h64, decide_eq_true h64] at hA0
    have hA := hA0
    rcases Nat.lt_or_ge n 18446744073709551616 with n64 | n64
    · rw [if_pos n64, decide_eq_true n64] at hN0
      have hN := hN0
      by_cases hp : h = s.pl
      · rcases Nat.lt_or_ge 200 n with hn2 | hn2
        · (refine CW.seq ?_; refine CW.region ?_; apply LW.allocA; rfl; intro _; apply LW.nil; refine thenN ?_; refine CW.seq ?_; refine CW.region ?_; apply LW.v0; rfl; rfl; apply ValP.move; rfl; apply LW.v0; rfl; rfl; apply ValP.nilCheck; rfl; apply LW.v0; rfl; rfl; apply ValP.fieldAddr; rfl; rfl)
          rename_i b2
          refine LW.wordR rfl rfl (by (apply ArgsOk.cons; rfl; exact ArgsOk.nil)) hrow (by (apply AtSeg.cons; apply AtSeg.app; exact atSeg_one)) ?_
          intro lv1 hl1
          refine ⟨_, (by (apply AtSeg.cons; apply AtSeg.app; exact AtSeg.head)), ?_⟩
          simp only [List.cons_append, List.nil_append]
          rw [hh']
          (apply LW.callE; rfl; rfl; infer_instance; apply ArgsOk.cons; rfl; exact ArgsOk.nil; intro w _; exact hA w; apply LW.v0; rfl; rfl; apply ValP.move; rfl; apply LW.v0; rfl; rfl; apply ValP.extractN; rfl; rfl; apply LW.v0; rfl; rfl; apply ValP.extractN; rfl; rfl; apply LW.v0; rfl; rfl; apply ValP.assign; rfl; apply LW.v0; rfl; rfl; apply ValP.assign; rfl; apply LW.nil; refine thenN ?_; refine CW.seq ?_; refine CW.region ?_; apply LW.v0; rfl; rfl; apply ValP.move; rfl; apply LW.v0; rfl; rfl; apply ValP.nilCheck; rfl; apply LW.v0; rfl; rfl; apply ValP.fieldAddr; rfl; rfl; apply LW.load; rfl; rfl; apply Known.at; apply FsAt.tail; apply FsAt.app; apply FsAt.head; apply Rd.one'; rfl)
          refine LW.wordR rfl rfl (by (apply ArgsOk.cons; rfl; exact ArgsOk.nil)) trow (by (apply AtSeg.cons; apply AtSeg.app; apply AtSeg.cons; exact atSeg_one)) ?_
          intro lv2 hl2
          refine ⟨_, (by (apply AtSeg.cons; apply AtSeg.app; apply AtSeg.cons; exact AtSeg.head)), ?_⟩
          simp only [List.cons_append, List.nil_append]
          rw [hn']
          (apply LW.callE; rfl; rfl; infer_instance; apply ArgsOk.cons; rfl; exact ArgsOk.nil; intro w _; exact hN w; apply LW.v0; rfl; rfl; apply ValP.move; rfl; apply LW.v0; rfl; rfl; apply ValP.extractN; rfl; rfl; apply LW.v0; rfl; rfl; apply ValP.extractN; rfl; rfl; apply LW.v0; rfl; rfl; apply ValP.assign; rfl; apply LW.v0; rfl; rfl; apply ValP.assign; rfl; apply LW.nil; refine thenN ?_; refine CW.seq ?_; refine CW.seq ?_; refine CW.region ?_; apply LW.v0; rfl; rfl; apply ValP.move; rfl; apply LW.v0; rfl; rfl; apply ValP.notT; rfl; (with_reducible rfl); apply LW.v0; rfl; rfl; apply ValP.move; rfl; apply LW.guardT'; rfl; rfl; (with_reducible rfl); apply LW.v0; rfl; rfl; apply ValP.move; rfl; apply LW.guardT'; rfl; rfl; (with_reducible rfl); apply LW.v0; rfl; rfl; apply ValP.notT; rfl; (with_reducible rfl); apply LW.v0; rfl; rfl; apply ValP.pickF'; rfl; (with_reducible rfl); rfl; apply LW.v0; rfl; rfl; apply ValP.move; rfl; apply LW.guardT'; rfl; rfl; (with_reducible rfl); apply LW.v0; rfl; rfl; apply ValP.move; rfl; apply LW.guardT'; rfl; rfl; (with_reducible rfl); apply LW.v0; rfl; rfl; apply ValP.move; rfl; apply LW.guardT'; rfl; rfl; (with_reducible rfl); apply LW.v0; rfl; rfl; apply ValP.nilCheck; rfl; apply LW.guardT'; rfl; rfl; (with_reducible rfl); apply LW.v0; rfl; rfl; apply ValP.fieldAddr; rfl; rfl; apply LW.guardT'; rfl; rfl; (with_reducible rfl); apply LW.load; rfl; rfl; apply Known.at; apply FsAt.tail; apply FsAt.app; apply FsAt.head; apply Rd.one'; rfl; apply LW.guardT'; rfl; rfl; (with_reducible rfl); apply LW.v0; rfl; rfl; apply ValP.convN; rfl; omega; omega; apply LW.guardT'; rfl; rfl; (with_reducible rfl); apply LW.v0; rfl; rfl; apply ValP.neF; rfl; rfl; omega; apply LW.v0; rfl; rfl; apply ValP.pickF'; rfl; (with_reducible rfl); rfl; apply LW.v0; rfl; rfl; apply ValP.move; rfl; apply LW.guardT'; rfl; rfl; (with_reducible rfl); apply LW.v0; rfl; rfl; apply ValP.move; rfl; apply LW.guardT'; rfl; rfl; (with_reducible rfl); apply LW.v0; rfl; rfl; apply ValP.gtrT; rfl; rfl; omega; apply LW.v0; rfl; rfl; apply ValP.pickF'; rfl; (with_reducible rfl); rfl; apply LW.nil; refine thenN ?_; apply CW.condT; rfl; (with_reducible rfl); refine CW.seq ?_; refine CW.region ?_; apply LW.v0; rfl; rfl; apply ValP.move; rfl; apply LW.v0; rfl; rfl; apply ValP.nilCheck; rfl; apply LW.v0; rfl; rfl; apply ValP.fieldAddr; rfl; rfl; apply LW.v0; rfl; rfl; apply ValP.fieldAddr; rfl; rfl; apply LW.store; rfl; rfl; apply SetAt.tail; apply SetAt.app; apply SetAt.head; apply Wr.cells; rfl; rfl; simp only [List.size_toArray, List.length_cons, List.length_nil]; omega; simp only [fillC, wc, wrCells, Value.cells, List.toList_toArray, List.setIfInBounds_toArray, List.set_cons_succ, List.set_cons_zero, Nat.reduceAdd, Nat.reduceMul, Nat.zero_add, Nat.mul_one]; rfl; apply LW.nil; refine thenN ?_; refine CW.seq ?_; refine CW.region ?_; apply LW.v0; rfl; rfl; apply ValP.buildT; infer_instance; infer_instance; exact PartsOk.nil; rfl; simp only [fillP, wrCells, Value.cells, List.getElem?_cons_zero, List.getElem?_cons_succ, List.toList_toArray, List.setIfInBounds_toArray, List.set_cons_succ, List.set_cons_zero, Nat.reduceAdd, Nat.zero_add]; rfl; apply LW.store; rfl; rfl; apply SetAt.head; apply Wr.whole; rfl; rfl; rfl; apply LW.nil; refine thenN ?_; refine CW.ret ?_; refine thenR ?_)
          apply inI
          (exact .inl rfl)
          (exact Shut.nil)
          rfl
          (apply ResL.cons; apply Res.cell; rfl; apply Known.at; apply FsAt.head; exact Rd.whole rfl; exact ResL.nil)
          rfl
          subst hn
          subst hh
          have hok : lgOk s = false := decide_eq_false (fun h => by omega)
          rw [lgS, if_neg (by simp [hok])]
          refine ⟨_, ?_, .slice none 0 0, [], lv1, lv2, ?_, ?_, hl1, hl2, rfl⟩
          · exact List.Sublist.cons _ (List.Sublist.refl _)
          · rw [lgR, if_neg (by simp [hok])]; simp [tup, psa, psc, p00, wc]
          · rw [lgR, if_neg (by simp [hok])]; exact .nil
        · (refine CW.seq ?_; refine CW.region ?_; apply LW.allocA; rfl; intro _; apply LW.nil; refine thenN ?_; refine CW.seq ?_; refine CW.region ?_; apply LW.v0; rfl; rfl; apply ValP.move; rfl; apply LW.v0; rfl; rfl; apply ValP.nilCheck; rfl; apply LW.v0; rfl; rfl; apply ValP.fieldAddr; rfl; rfl)
          rename_i b2
          refine LW.wordR rfl rfl (by (apply ArgsOk.cons; rfl; exact ArgsOk.nil)) hrow (by (apply AtSeg.cons; apply AtSeg.app; exact atSeg_one)) ?_
          intro lv1 hl1
          refine ⟨_, (by (apply AtSeg.cons; apply AtSeg.app; exact AtSeg.head)), ?_⟩
          simp only [List.cons_append, List.nil_append]
          rw [hh']
          (apply LW.callE; rfl; rfl; infer_instance; apply ArgsOk.cons; rfl; exact ArgsOk.nil; intro w _; exact hA w; apply LW.v0; rfl; rfl; apply ValP.move; rfl; apply LW.v0; rfl; rfl; apply ValP.extractN; rfl; rfl; apply LW.v0; rfl; rfl; apply ValP.extractN; rfl; rfl; apply LW.v0; rfl; rfl; apply ValP.assign; rfl; apply LW.v0; rfl; rfl; apply ValP.assign; rfl; apply LW.nil; refine thenN ?_; refine CW.seq ?_; refine CW.region ?_; apply LW.v0; rfl; rfl; apply ValP.move; rfl; apply LW.v0; rfl; rfl; apply ValP.nilCheck; rfl; apply LW.v0; rfl; rfl; apply ValP.fieldAddr; rfl; rfl; apply LW.load; rfl; rfl; apply Known.at; apply FsAt.tail; apply FsAt.app; apply FsAt.head; apply Rd.one'; rfl)
          refine LW.wordR rfl rfl (by (apply ArgsOk.cons; rfl; exact ArgsOk.nil)) trow (by (apply AtSeg.cons; apply AtSeg.app; apply AtSeg.cons; exact atSeg_one)) ?_
          intro lv2 hl2
          refine ⟨_, (by (apply AtSeg.cons; apply AtSeg.app; apply AtSeg.cons; exact AtSeg.head)), ?_⟩
          simp only [List.cons_append, List.nil_append]
          rw [hn']
          (apply LW.callE; rfl; rfl; infer_instance; apply ArgsOk.cons; rfl; exact ArgsOk.nil; intro w _; exact hN w; apply LW.v0; rfl; rfl; apply ValP.move; rfl; apply LW.v0; rfl; rfl; apply ValP.extractN; rfl; rfl; apply LW.v0; rfl; rfl; apply ValP.extractN; rfl; rfl; apply LW.v0; rfl; rfl; apply ValP.assign; rfl; apply LW.v0; rfl; rfl; apply ValP.assign; rfl; apply LW.nil; refine thenN ?_; refine CW.seq ?_; refine CW.seq ?_; refine CW.region ?_; apply LW.v0; rfl; rfl; apply ValP.move; rfl; apply LW.v0; rfl; rfl; apply ValP.notT; rfl; (with_reducible rfl); apply LW.v0; rfl; rfl; apply ValP.move; rfl; apply LW.guardT'; rfl; rfl; (with_reducible rfl); apply LW.v0; rfl; rfl; apply ValP.move; rfl; apply LW.guardT'; rfl; rfl; (with_reducible rfl); apply LW.v0; rfl; rfl; apply ValP.notT; rfl; (with_reducible rfl); apply LW.v0; rfl; rfl; apply ValP.pickF'; rfl; (with_reducible rfl); rfl; apply LW.v0; rfl; rfl; apply ValP.move; rfl; apply LW.guardT'; rfl; rfl; (with_reducible rfl); apply LW.v0; rfl; rfl; apply ValP.move; rfl; apply LW.guardT'; rfl; rfl; (with_reducible rfl); apply LW.v0; rfl; rfl; apply ValP.move; rfl; apply LW.guardT'; rfl; rfl; (with_reducible rfl); apply LW.v0; rfl; rfl; apply ValP.nilCheck; rfl; apply LW.guardT'; rfl; rfl; (with_reducible rfl); apply LW.v0; rfl; rfl; apply ValP.fieldAddr; rfl; rfl; apply LW.guardT'; rfl; rfl; (with_reducible rfl); apply LW.load; rfl; rfl; apply Known.at; apply FsAt.tail; apply FsAt.app; apply FsAt.head; apply Rd.one'; rfl; apply LW.guardT'; rfl; rfl; (with_reducible rfl); apply LW.v0; rfl; rfl; apply ValP.convN; rfl; omega; omega; apply LW.guardT'; rfl; rfl; (with_reducible rfl); apply LW.v0; rfl; rfl; apply ValP.neF; rfl; rfl; omega; apply LW.v0; rfl; rfl; apply ValP.pickF'; rfl; (with_reducible rfl); rfl; apply LW.v0; rfl; rfl; apply ValP.move; rfl; apply LW.guardT'; rfl; rfl; (with_reducible rfl); apply LW.v0; rfl; rfl; apply ValP.move; rfl; apply LW.guardT'; rfl; rfl; (with_reducible rfl); apply LW.v0; rfl; rfl; apply ValP.gtrF; rfl; rfl; omega; apply LW.v0; rfl; rfl; apply ValP.pickF'; rfl; (with_reducible rfl); rfl; apply LW.nil; refine thenN ?_; apply CW.condF; rfl; (with_reducible rfl); refine CW.skip ?_; refine thenN ?_; refine CW.seq ?_; refine CW.region ?_; apply LW.v0; rfl; rfl; apply ValP.move; rfl; apply LW.v0; rfl; rfl; apply ValP.nilCheck; rfl; apply LW.v0; rfl; rfl; apply ValP.fieldAddr; rfl; rfl; apply LW.load; rfl; rfl; apply Known.at; apply FsAt.tail; apply FsAt.app; apply FsAt.head; apply Rd.one'; rfl; apply LW.v0; rfl; rfl; apply ValP.move; rfl; apply LW.v0; rfl; rfl; apply ValP.convI; rfl; omega; omega)
          refine LW.takeR (n := n) rfl rfl (by (apply ArgsOk.cons; rfl; apply ArgsOk.cons; rfl; exact ArgsOk.nil)) hl2 (by omega) (by (apply AtSeg.cons; apply AtSeg.app; apply AtSeg.cons; exact atSeg_one)) ?_
          intro v3 lv3 hv3 hl3
          refine ⟨_, (by (apply AtSeg.cons; apply AtSeg.app; apply AtSeg.cons; exact AtSeg.head)), ?_⟩
          simp only [List.cons_append, List.nil_append]
          refine LW.callR rfl rfl inferInstance (by (apply ArgsOk.cons; rfl; exact ArgsOk.nil)) (fun w hst => pBytes_calls _ v3 w (hv3.st hst) (Nat.le_trans (tkB_len _ _ _) (by omega))) ?_
          rintro v4 gs4 ⟨dv, rfl, hrow4⟩
          obtain ⟨pd, cd, rfl⟩ := hrow4.form
          (apply LW.allocA; rfl; intro _; apply LW.store; rfl; rfl; apply SetAt.head; apply Wr.whole; rfl; rfl; rfl; apply LW.nil; refine thenN ?_; refine CW.seq ?_; refine CW.seq ?_)
          rename_i b7
          apply CW.pre
          (refine AnyW.anyT [(10, takeM w0 bT 58 [] (tkBad (tkBad s.tb s.tl 32) (tkL s.tb s.tl 32) n) (tkL (tkBad s.tb s.tl 32) (tkL s.tb s.tl 32) n) (whl n - n), true)] 13 mixed (by decide +kernel) ?_)
          ((try simp only [tsOf_cons, tsOf_nil, tsOf_app]); apply DW.v0; rfl; rfl; rfl; exact WantT.none; rfl; apply ValP.move; rfl; apply DW.v0; rfl; rfl; rfl; exact WantT.none; rfl; apply ValP.nilCheck; rfl; apply DW.v0; rfl; rfl; rfl; exact WantT.none; rfl; apply ValP.fieldAddr; rfl; rfl; apply DW.loadO; rfl; rfl; rfl; exact WantT.none; rfl; apply TRead.tail; apply TRead.app; apply TRead.tail; apply TRead.app; apply TRead.head; exact ancB_nil; apply Rd.one'; rfl; apply DW.v0; rfl; rfl; rfl; exact WantT.none; rfl; apply ValP.move; rfl; apply DW.v0; rfl; rfl; rfl; exact WantT.none; rfl; apply ValP.convI; rfl; omega; omega; apply DW.callE; rfl; rfl; rfl; exact WantT.none; rfl; infer_instance; apply ArgsOk.cons; rfl; exact ArgsOk.nil; rfl; exact ReadAll.nil; intro w _ _; exact whole_calls _ (by omega) w; apply DW.v0; rfl; rfl; rfl; exact WantT.none; rfl; apply ValP.move; rfl; apply DW.v0; rfl; rfl; rfl; exact WantT.none; rfl; apply ValP.convI; rfl; omega; omega; apply DW.v0; rfl; rfl; rfl; exact WantT.none; rfl; apply ValP.subZ; rfl; rfl; omega; omega)
          refine DW.callMv (seg := [(bT, .cells #[lv3, .bool (tkBad (tkBad s.tb s.tl 32) (tkL s.tb s.tl 32) n)] 58 (0, 0))]) rfl rfl rfl (by (exact WantT.none)) rfl inferInstance (by (apply ArgsOk.cons; rfl; apply ArgsOk.cons; rfl; exact ArgsOk.nil)) ⟨rfl, rfl⟩ (by (apply TOut.cons; apply TOut.app; apply TOut.cons; apply TOut.app; apply TOut.cons; (refine TOut.one ?_ ?_ <;> (first | exact ancB_nil | kernel_rfl)))) (by (apply RdV.plain; rfl; exact RdV.nil)) (fun w' hbel hseg hnd hus => take_ret hl3 _ (by omega) w' (hseg _ (List.Mem.head _))) ?_ ?_
          · rintro v gs ⟨lv, _, _, rfl⟩ b hb; exact hb
          rintro v5 gs5 ⟨lv5, hv5, hl5, rfl⟩
          obtain ⟨p5, c5, rfl, _, _⟩ := hv5.form
          ((try simp only [tsOf_cons, tsOf_nil, tsOf_app]); apply DW.v0; rfl; rfl; rfl; exact WantT.none; rfl; apply ValP.lenR; rfl; infer_instance; rfl; apply DW.v0; rfl; rfl; rfl; exact WantT.none; rfl; apply ValP.move; rfl; apply DW.nil; simp only [fsOf_cons, fsOf_nil, fsOf_app, fsOf_tsOf, fsOf_new, fsOf_tag])
          simp only [List.cons_append, List.nil_append]
          refine LW.perm (ins_cons (ins_app (ins_cons (ins_app (ins_cons (List.Perm.refl _)))))).symm ?_
          (apply LW.nil; refine thenN ?_; refine CW.block ?_)
          obtain ⟨pad, hpad⟩ : ∃ pad, tkB (tkBad (tkBad s.tb s.tl 32) (tkL s.tb s.tl 32) n) (tkL (tkBad s.tb s.tl 32) (tkL s.tb s.tl 32) n) (whl n - n) = pad := ⟨_, rfl⟩
          have hpl2 : pad.length ≤ 32 := by rw [← hpad]; exact Nat.le_trans (tkB_len _ _ _) (by omega)
          rw [hpad] at hv5 ⊢
          refine CW.loop (fun j : Nat => ([(71, .int .i64 (j : Int)), (70, .int .i64 (pad.length : Int)), (69, .slice p5 pad.length c5), (0, .pointer (some ⟨bR, 0, none⟩)), (5, .int .u64 (n : Int)), (7, .pointer (some ⟨b7, 0, none⟩)), (2, .pointer (some ⟨b2, 0, none⟩))],
              (b7, .cells (psa (byP (.slice pd (tkB (tkBad s.tb s.tl 32) (tkL s.tb s.tl 32) n).length cd) (tkB (tkBad s.tb s.tl 32) (tkL s.tb s.tl 32) n))) 39 (0, 0)) :: (gs4 ++ (b2, .cells #[.bool false, .int .u64 0, .int .u64 0, .int .u64 0, .int .u64 0, .slice none 0 0] 39 (0, 0)) :: (pre ++ (bR, .cells #[lv1, .bool (tkBad s.hb s.hl 32 || nz (pad.take j)), .pointer (some ⟨bT, 0, none⟩), .int .i64 (s.pl : Int)] 61 (0, 0)) :: (bT, .cells #[lv5, .bool (tkBad (tkBad (tkBad s.tb s.tl 32) (tkL s.tb s.tl 32) n) (tkL (tkBad s.tb s.tl 32) (tkL s.tb s.tl 32) n) (whl n - n))] 58 (0, 0)) :: post))))
            (fun j => j ≤ pad.length) (fun j => pad.length - j) 0 (Nat.zero_le _) ⟨rfl, rfl, rfl, rfl, rfl, rfl, rfl, trivial⟩ (by rw [List.take_zero, show nz [] = false from rfl, Bool.or_false]; exact List.Sublist.refl _) ?_
          intro j hj
          dsimp only at hj ⊢
          rcases Nat.lt_or_ge j pad.length with hlt2 | hge
          · obtain ⟨b, off, c', cs, E, fr, heq, hb, hx⟩ := hv5.pos (by omega)
            cases heq
            obtain ⟨u, hu⟩ : ∃ u, u = pad[j] := ⟨_, rfl⟩
            have hrd : Rd Try.prog 5 (.cells cs E fr) (off + j * 1) (.int .u8 (u.toNat : Int)) := Rd.elem1 hx (ucs_one pad) (by rw [hu]; exact List.getElem?_eq_getElem hlt2) rfl
            have hnz : nz (pad.take (j + 1)) = (nz (pad.take j) || decide (u.toNat ≠ 0)) := by rw [List.take_succ_eq_append_getElem hlt2, nz, nz, List.any_append, hu]; simp
            obtain ⟨bd, hbd⟩ : ∃ bd, (tkBad s.hb s.hl 32 || nz (pad.take j)) = bd := ⟨_, rfl⟩
            rw [hbd]
            cases bd with
            | true =>
              (refine CW.seq ?_; refine CW.region ?_; apply LW.v0; rfl; rfl; apply ValP.lssT; rfl; rfl; omega; apply LW.nil; refine thenN ?_; refine CW.seq ?_; apply CW.condT; rfl; (with_reducible rfl); refine CW.skip ?_; refine thenN ?_; refine CW.seq ?_; refine CW.block ?_; refine CW.seq ?_; refine CW.region ?_; apply LW.v0; rfl; rfl; apply ValP.indexAddrS; rfl; rfl; rfl; omega; apply LW.load; rfl; rfl; exact Known.ext (by assumption) (by simp); assumption; apply LW.v0; rfl; rfl; apply ValP.assign; rfl; apply LW.nil; refine thenN ?_; refine CW.region ?_; apply LW.v0; rfl; rfl; apply ValP.move; rfl; apply LW.v0; rfl; rfl; apply ValP.move; rfl; apply LW.v0; rfl; rfl; apply ValP.nilCheck; rfl; apply LW.v0; rfl; rfl; apply ValP.fieldAddr; rfl; rfl; apply LW.v0; rfl; rfl; apply ValP.fieldAddr; rfl; rfl; apply LW.load; rfl; rfl; apply Known.at; apply FsAt.tail; apply FsAt.app; apply FsAt.tail; apply FsAt.app; apply FsAt.head; apply Rd.one'; rfl; apply LW.v0; rfl; rfl; apply ValP.move; rfl; apply LW.guardF'; rfl; rfl; simp only [Bool.not_true, Bool.not_false]; rfl; apply LW.guardF'; rfl; rfl; simp only [Bool.not_true, Bool.not_false]; rfl; apply LW.v0; rfl; rfl; apply ValP.pickT'; rfl; (with_reducible rfl); rfl; apply LW.v0; rfl; rfl; apply ValP.nilCheck; rfl; apply LW.v0; rfl; rfl; apply ValP.fieldAddr; rfl; rfl; apply LW.v0; rfl; rfl; apply ValP.fieldAddr; rfl; rfl; apply LW.store; rfl; rfl; apply SetAt.tail; apply SetAt.app; apply SetAt.tail; apply SetAt.app; apply SetAt.head; apply Wr.cells; rfl; rfl; simp only [List.size_toArray, List.length_cons, List.length_nil]; omega; simp only [fillC, wc, wrCells, Value.cells, List.toList_toArray, List.setIfInBounds_toArray, List.set_cons_succ, List.set_cons_zero, Nat.reduceAdd, Nat.reduceMul, Nat.zero_add, Nat.mul_one]; rfl; apply LW.nil; refine blkN ?_; refine thenN ?_; refine CW.region ?_; apply LW.v0; rfl; rfl; apply ValP.addZL; rfl; rfl; decide; omega; apply LW.v0; rfl; rfl; apply ValP.move; rfl; apply LW.nil)
              apply thenX
              refine ⟨rfl, j + 1, hlt2, by omega, ⟨rfl, rfl, rfl, rfl, rfl, rfl, rfl, trivial⟩, ?_⟩
              rw [hnz, ← Bool.or_assoc, hbd, Bool.true_or]
              exact List.Sublist.refl _
            | false =>
              by_cases h0 : u.toNat = 0
              · (refine CW.seq ?_; refine CW.region ?_; apply LW.v0; rfl; rfl; apply ValP.lssT; rfl; rfl; omega; apply LW.nil; refine thenN ?_; refine CW.seq ?_; apply CW.condT; rfl; (with_reducible rfl); refine CW.skip ?_; refine thenN ?_; refine CW.seq ?_; refine CW.block ?_; refine CW.seq ?_; refine CW.region ?_; apply LW.v0; rfl; rfl; apply ValP.indexAddrS; rfl; rfl; rfl; omega; apply LW.load; rfl; rfl; exact Known.ext (by assumption) (by simp); assumption; apply LW.v0; rfl; rfl; apply ValP.assign; rfl; apply LW.nil; refine thenN ?_; refine CW.region ?_; apply LW.v0; rfl; rfl; apply ValP.move; rfl; apply LW.v0; rfl; rfl; apply ValP.move; rfl; apply LW.v0; rfl; rfl; apply ValP.nilCheck; rfl; apply LW.v0; rfl; rfl; apply ValP.fieldAddr; rfl; rfl; apply LW.v0; rfl; rfl; apply ValP.fieldAddr; rfl; rfl; apply LW.load; rfl; rfl; apply Known.at; apply FsAt.tail; apply FsAt.app; apply FsAt.tail; apply FsAt.app; apply FsAt.head; apply Rd.one'; rfl; apply LW.v0; rfl; rfl; apply ValP.move; rfl; apply LW.guardT'; rfl; rfl; (with_reducible rfl); apply LW.v0; rfl; rfl; apply ValP.move; rfl; apply LW.guardT'; rfl; rfl; (with_reducible rfl); apply LW.v0; rfl; rfl; apply ValP.neF; rfl; rfl; omega; apply LW.v0; rfl; rfl; apply ValP.pickF'; rfl; (with_reducible rfl); rfl; apply LW.v0; rfl; rfl; apply ValP.nilCheck; rfl; apply LW.v0; rfl; rfl; apply ValP.fieldAddr; rfl; rfl; apply LW.v0; rfl; rfl; apply ValP.fieldAddr; rfl; rfl; apply LW.store; rfl; rfl; apply SetAt.tail; apply SetAt.app; apply SetAt.tail; apply SetAt.app; apply SetAt.head; apply Wr.cells; rfl; rfl; simp only [List.size_toArray, List.length_cons, List.length_nil]; omega; simp only [fillC, wc, wrCells, Value.cells, List.toList_toArray, List.setIfInBounds_toArray, List.set_cons_succ, List.set_cons_zero, Nat.reduceAdd, Nat.reduceMul, Nat.zero_add, Nat.mul_one]; rfl; apply LW.nil; refine blkN ?_; refine thenN ?_; refine CW.region ?_; apply LW.v0; rfl; rfl; apply ValP.addZL; rfl; rfl; decide; omega; apply LW.v0; rfl; rfl; apply ValP.move; rfl; apply LW.nil)
                apply thenX
                refine ⟨rfl, j + 1, hlt2, by omega, ⟨rfl, rfl, rfl, rfl, rfl, rfl, rfl, trivial⟩, ?_⟩
                rw [hnz, ← Bool.or_assoc, hbd, Bool.false_or, decide_eq_false (by simpa using h0)]
                exact List.Sublist.refl _
              · (refine CW.seq ?_; refine CW.region ?_; apply LW.v0; rfl; rfl; apply ValP.lssT; rfl; rfl; omega; apply LW.nil; refine thenN ?_; refine CW.seq ?_; apply CW.condT; rfl; (with_reducible rfl); refine CW.skip ?_; refine thenN ?_; refine CW.seq ?_; refine CW.block ?_; refine CW.seq ?_; refine CW.region ?_; apply LW.v0; rfl; rfl; apply ValP.indexAddrS; rfl; rfl; rfl; omega; apply LW.load; rfl; rfl; exact Known.ext (by assumption) (by simp); assumption; apply LW.v0; rfl; rfl; apply ValP.assign; rfl; apply LW.nil; refine thenN ?_; refine CW.region ?_; apply LW.v0; rfl; rfl; apply ValP.move; rfl; apply LW.v0; rfl; rfl; apply ValP.move; rfl; apply LW.v0; rfl; rfl; apply ValP.nilCheck; rfl; apply LW.v0; rfl; rfl; apply ValP.fieldAddr; rfl; rfl; apply LW.v0; rfl; rfl; apply ValP.fieldAddr; rfl; rfl; apply LW.load; rfl; rfl; apply Known.at; apply FsAt.tail; apply FsAt.app; apply FsAt.tail; apply FsAt.app; apply FsAt.head; apply Rd.one'; rfl; apply LW.v0; rfl; rfl; apply ValP.move; rfl; apply LW.guardT'; rfl; rfl; (with_reducible rfl); apply LW.v0; rfl; rfl; apply ValP.move; rfl; apply LW.guardT'; rfl; rfl; (with_reducible rfl); apply LW.v0; rfl; rfl; apply ValP.neT; rfl; rfl; omega; apply LW.v0; rfl; rfl; apply ValP.pickF'; rfl; (with_reducible rfl); rfl; apply LW.v0; rfl; rfl; apply ValP.nilCheck; rfl; apply LW.v0; rfl; rfl; apply ValP.fieldAddr; rfl; rfl; apply LW.v0; rfl; rfl; apply ValP.fieldAddr; rfl; rfl; apply LW.store; rfl; rfl; apply SetAt.tail; apply SetAt.app; apply SetAt.tail; apply SetAt.app; apply SetAt.head; apply Wr.cells; rfl; rfl; simp only [List.size_toArray, List.length_cons, List.length_nil]; omega; simp only [fillC, wc, wrCells, Value.cells, List.toList_toArray, List.setIfInBounds_toArray, List.set_cons_succ, List.set_cons_zero, Nat.reduceAdd, Nat.reduceMul, Nat.zero_add, Nat.mul_one]; rfl; apply LW.nil; refine blkN ?_; refine thenN ?_; refine CW.region ?_; apply LW.v0; rfl; rfl; apply ValP.addZL; rfl; rfl; decide; omega; apply LW.v0; rfl; rfl; apply ValP.move; rfl; apply LW.nil)
                apply thenX
                refine ⟨rfl, j + 1, hlt2, by omega, ⟨rfl, rfl, rfl, rfl, rfl, rfl, rfl, trivial⟩, ?_⟩
                rw [hnz, ← Bool.or_assoc, hbd, Bool.false_or, decide_eq_true h0]
                exact List.Sublist.refl _
          · obtain rfl : j = pad.length := by omega
            rw [List.take_length]
            (refine CW.seq ?_; refine CW.region ?_; apply LW.v0; rfl; rfl; apply ValP.lssF; rfl; rfl; omega; apply LW.nil; refine thenN ?_; refine CW.seq ?_; apply CW.condF; rfl; (with_reducible rfl); refine CW.exit ?_; refine thenE ?_; refine thenE ?_; refine blkE rfl ?_; refine thenN ?_; refine CW.seq ?_; apply CW.pre; refine AnyW.any 8 mixed (by decide +kernel) ?_; (try simp only [tsOf_cons, tsOf_nil, tsOf_app]); apply DW.v0; rfl; rfl; rfl; exact WantT.none; rfl; apply ValP.move; rfl; apply DW.v0; rfl; rfl; rfl; exact WantT.none; rfl; apply ValP.nilCheck; rfl; apply DW.v0; rfl; rfl; rfl; exact WantT.none; rfl; apply ValP.fieldAddr; rfl; rfl; apply DW.loadO; rfl; rfl; rfl; exact WantT.none; rfl; apply TRead.tail; apply TRead.app; apply TRead.tail; apply TRead.app; apply TRead.head; exact ancB_nil; apply Rd.one'; rfl; apply DW.v0; rfl; rfl; rfl; exact WantT.none; rfl; apply ValP.move; rfl; apply DW.v0; rfl; rfl; rfl; exact WantT.none; rfl; apply ValP.convI; rfl; omega; omega; apply DW.callE; rfl; rfl; rfl; exact WantT.none; rfl; infer_instance; apply ArgsOk.cons; rfl; exact ArgsOk.nil; rfl; exact ReadAll.nil; intro w _ _; exact whole_calls _ (by omega) w; apply DW.v0; rfl; rfl; rfl; exact WantT.none; rfl; apply ValP.addZK; rfl; rfl; decide; omega; apply DW.nil; simp only [fsOf_cons, fsOf_nil, fsOf_app, fsOf_tsOf, fsOf_new, fsOf_tag]; apply LW.v0; rfl; rfl; apply ValP.addZ; rfl; rfl; omega; apply LW.v0; rfl; rfl; apply ValP.nilCheck; rfl; apply LW.v0; rfl; rfl; apply ValP.fieldAddr; rfl; rfl; apply LW.store; rfl; rfl; apply SetAt.tail; apply SetAt.app; apply SetAt.tail; apply SetAt.app; apply SetAt.head; apply Wr.cells; rfl; rfl; simp only [List.size_toArray, List.length_cons, List.length_nil]; omega; simp only [fillC, wc, wrCells, Value.cells, List.toList_toArray, List.setIfInBounds_toArray, List.set_cons_succ, List.set_cons_zero, Nat.reduceAdd, Nat.reduceMul, Nat.zero_add, Nat.mul_one]; rfl; apply LW.nil; refine thenN ?_; refine CW.seq ?_; refine CW.region ?_; apply LW.load; rfl; rfl; apply Known.at; apply FsAt.head; exact Rd.whole rfl; apply LW.store; rfl; rfl; apply SetAt.tail; apply SetAt.app; apply SetAt.head; apply Wr.whole; rfl; rfl; rfl; apply LW.nil; refine thenN ?_; refine CW.ret ?_)
            apply inI
            (exact .inl rfl)
            (exact Shut.nil)
            rfl
            (apply ResL.cons; apply Res.cell; rfl; apply Known.at; apply FsAt.tail; apply FsAt.app; apply FsAt.head; exact Rd.whole rfl; exact ResL.nil)
            rfl
            subst hn
            subst hh
            subst hpad
            have hok : lgOk s = true := decide_eq_true ⟨hp, hn2⟩
            rw [lgS, if_pos hok]
            refine ⟨_, ?_, .slice pd (lgD s).length cd, gs4, lv1, lv5, ?_, ?_, hl1, hl5, rfl⟩
            · exact List.Sublist.cons _ (List.Sublist.append_left (List.Sublist.cons _ (List.Sublist.refl _)) _)
            · rw [lgR, if_pos hok]; rfl
            · rw [lgR, if_pos hok]; exact hrow4
      · (refine CW.seq ?_; refine CW.region ?_; apply LW.allocA; rfl; intro _; apply LW.nil; refine thenN ?_; refine CW.seq ?_; refine CW.region ?_; apply LW.v0; rfl; rfl; apply ValP.move; rfl; apply LW.v0; rfl; rfl; apply ValP.nilCheck; rfl; apply LW.v0; rfl; rfl; apply ValP.fieldAddr; rfl; rfl)
        rename_i b2
        refine LW.wordR rfl rfl (by (apply ArgsOk.cons; rfl; exact ArgsOk.nil)) hrow (by (apply AtSeg.cons; apply AtSeg.app; exact atSeg_one)) ?_
        intro lv1 hl1
        refine ⟨_, (by (apply AtSeg.cons; apply AtSeg.app; exact AtSeg.head)), ?_⟩
        simp only [List.cons_append, List.nil_append]
        rw [hh']
        (apply LW.callE; rfl; rfl; infer_instance; apply ArgsOk.cons; rfl; exact ArgsOk.nil; intro w _; exact hA w; apply LW.v0; rfl; rfl; apply ValP.move; rfl; apply LW.v0; rfl; rfl; apply ValP.extractN; rfl; rfl; apply LW.v0; rfl; rfl; apply ValP.extractN; rfl; rfl; apply LW.v0; rfl; rfl; apply ValP.assign; rfl; apply LW.v0; rfl; rfl; apply ValP.assign; rfl; apply LW.nil; refine thenN ?_; refine CW.seq ?_; refine CW.region ?_; apply LW.v0; rfl; rfl; apply ValP.move; rfl; apply LW.v0; rfl; rfl; apply ValP.nilCheck; rfl; apply LW.v0; rfl; rfl; apply ValP.fieldAddr; rfl; rfl; apply LW.load; rfl; rfl; apply Known.at; apply FsAt.tail; apply FsAt.app; apply FsAt.head; apply Rd.one'; rfl)
        refine LW.wordR rfl rfl (by (apply ArgsOk.cons; rfl; exact ArgsOk.nil)) trow (by (apply AtSeg.cons; apply AtSeg.app; apply AtSeg.cons; exact atSeg_one)) ?_
        intro lv2 hl2
        refine ⟨_, (by (apply AtSeg.cons; apply AtSeg.app; apply AtSeg.cons; exact AtSeg.head)), ?_⟩
        simp only [List.cons_append, List.nil_append]
        rw [hn']
        (apply LW.callE; rfl; rfl; infer_instance; apply ArgsOk.cons; rfl; exact ArgsOk.nil; intro w _; exact hN w; apply LW.v0; rfl; rfl; apply ValP.move; rfl; apply LW.v0; rfl; rfl; apply ValP.extractN; rfl; rfl; apply LW.v0; rfl; rfl; apply ValP.extractN; rfl; rfl; apply LW.v0; rfl; rfl; apply ValP.assign; rfl; apply LW.v0; rfl; rfl; apply ValP.assign; rfl; apply LW.nil; refine thenN ?_; refine CW.seq ?_; refine CW.seq ?_; refine CW.region ?_; apply LW.v0; rfl; rfl; apply ValP.move; rfl; apply LW.v0; rfl; rfl; apply ValP.notT; rfl; (with_reducible rfl); apply LW.v0; rfl; rfl; apply ValP.move; rfl; apply LW.guardT'; rfl; rfl; (with_reducible rfl); apply LW.v0; rfl; rfl; apply ValP.move; rfl; apply LW.guardT'; rfl; rfl; (with_reducible rfl); apply LW.v0; rfl; rfl; apply ValP.notT; rfl; (with_reducible rfl); apply LW.v0; rfl; rfl; apply ValP.pickF'; rfl; (with_reducible rfl); rfl; apply LW.v0; rfl; rfl; apply ValP.move; rfl; apply LW.guardT'; rfl; rfl; (with_reducible rfl); apply LW.v0; rfl; rfl; apply ValP.move; rfl; apply LW.guardT'; rfl; rfl; (with_reducible rfl); apply LW.v0; rfl; rfl; apply ValP.move; rfl; apply LW.guardT'; rfl; rfl; (with_reducible rfl); apply LW.v0; rfl; rfl; apply ValP.nilCheck; rfl; apply LW.guardT'; rfl; rfl; (with_reducible rfl); apply LW.v0; rfl; rfl; apply ValP.fieldAddr; rfl; rfl; apply LW.guardT'; rfl; rfl; (with_reducible rfl); apply LW.load; rfl; rfl; apply Known.at; apply FsAt.tail; apply FsAt.app; apply FsAt.head; apply Rd.one'; rfl; apply LW.guardT'; rfl; rfl; (with_reducible rfl); apply LW.v0; rfl; rfl; apply ValP.convN; rfl; omega; omega; apply LW.guardT'; rfl; rfl; (with_reducible rfl); apply LW.v0; rfl; rfl; apply ValP.neT; rfl; rfl; omega; apply LW.v0; rfl; rfl; apply ValP.pickF'; rfl; (with_reducible rfl); rfl; apply LW.v0; rfl; rfl; apply ValP.move; rfl; apply LW.guardF'; rfl; rfl; simp only [Bool.not_true, Bool.not_false]; rfl; apply LW.guardF'; rfl; rfl; simp only [Bool.not_true, Bool.not_false]; rfl; apply LW.v0; rfl; rfl; apply ValP.pickT'; rfl; (with_reducible rfl); rfl; apply LW.nil; refine thenN ?_; apply CW.condT; rfl; (with_reducible rfl); refine CW.seq ?_; refine CW.region ?_; apply LW.v0; rfl; rfl; apply ValP.move; rfl; apply LW.v0; rfl; rfl; apply ValP.nilCheck; rfl; apply LW.v0; rfl; rfl; apply ValP.fieldAddr; rfl; rfl; apply LW.v0; rfl; rfl; apply ValP.fieldAddr; rfl; rfl; apply LW.store; rfl; rfl; apply SetAt.tail; apply SetAt.app; apply SetAt.head; apply Wr.cells; rfl; rfl; simp only [List.size_toArray, List.length_cons, List.length_nil]; omega; simp only [fillC, wc, wrCells, Value.cells, List.toList_toArray, List.setIfInBounds_toArray, List.set_cons_succ, List.set_cons_zero, Nat.reduceAdd, Nat.reduceMul, Nat.zero_add, Nat.mul_one]; rfl; apply LW.nil; refine thenN ?_; refine CW.seq ?_; refine CW.region ?_; apply LW.v0; rfl; rfl; apply ValP.buildT; infer_instance; infer_instance; exact PartsOk.nil; rfl; simp only [fillP, wrCells, Value.cells, List.getElem?_cons_zero, List.getElem?_cons_succ, List.toList_toArray, List.setIfInBounds_toArray, List.set_cons_succ, List.set_cons_zero, Nat.reduceAdd, Nat.zero_add]; rfl; apply LW.store; rfl; rfl; apply SetAt.head; apply Wr.whole; rfl; rfl; rfl; apply LW.nil; refine thenN ?_; refine CW.ret ?_; refine thenR ?_)
        apply inI
        (exact .inl rfl)
        (exact Shut.nil)
        rfl
        (apply ResL.cons; apply Res.cell; rfl; apply Known.at; apply FsAt.head; exact Rd.whole rfl; exact ResL.nil)
        rfl
        subst hn
        subst hh
        have hok : lgOk s = false := decide_eq_false (fun h => by omega)
        rw [lgS, if_neg (by simp [hok])]
        refine ⟨_, ?_, .slice none 0 0, [], lv1, lv2, ?_, ?_, hl1, hl2, rfl⟩
        · exact List.Sublist.cons _ (List.Sublist.refl _)
        · rw [lgR, if_neg (by simp [hok])]; simp [tup, psa, psc, p00, wc]
        · rw [lgR, if_neg (by simp [hok])]; exact .nil
    · rw [if_neg (by omega), decide_eq_false (by omega)] at hN0
      have hN := hN0
      (refine CW.seq ?_; refine CW.region ?_; apply LW.allocA; rfl; intro _; apply LW.nil; refine thenN ?_; refine CW.seq ?_; refine CW.region ?_; apply LW.v0; rfl; rfl; apply ValP.move; rfl; apply LW.v0; rfl; rfl; apply ValP.nilCheck; rfl; apply LW.v0; rfl; rfl; apply ValP.fieldAddr; rfl; rfl)
      rename_i b2
      refine LW.wordR rfl rfl (by (apply ArgsOk.cons; rfl; exact ArgsOk.nil)) hrow (by (apply AtSeg.cons; apply AtSeg.app; exact atSeg_one)) ?_
      intro lv1 hl1
      refine ⟨_, (by (apply AtSeg.cons; apply AtSeg.app; exact AtSeg.head)), ?_⟩
      simp only [List.cons_append, List.nil_append]
      rw [hh']
      (apply LW.callE; rfl; rfl; infer_instance; apply ArgsOk.cons; rfl; exact ArgsOk.nil; intro w _; exact hA w; apply LW.v0; rfl; rfl; apply ValP.move; rfl; apply LW.v0; rfl; rfl; apply ValP.extractN; rfl; rfl; apply LW.v0; rfl; rfl; apply ValP.extractN; rfl; rfl; apply LW.v0; rfl; rfl; apply ValP.assign; rfl; apply LW.v0; rfl; rfl; apply ValP.assign; rfl; apply LW.nil; refine thenN ?_; refine CW.seq ?_; refine CW.region ?_; apply LW.v0; rfl; rfl; apply ValP.move; rfl; apply LW.v0; rfl; rfl; apply ValP.nilCheck; rfl; apply LW.v0; rfl; rfl; apply ValP.fieldAddr; rfl; rfl; apply LW.load; rfl; rfl; apply Known.at; apply FsAt.tail; apply FsAt.app; apply FsAt.head; apply Rd.one'; rfl)
      refine LW.wordR rfl rfl (by (apply ArgsOk.cons; rfl; exact ArgsOk.nil)) trow (by (apply AtSeg.cons; apply AtSeg.app; apply AtSeg.cons; exact atSeg_one)) ?_
      intro lv2 hl2
      refine ⟨_, (by (apply AtSeg.cons; apply AtSeg.app; apply AtSeg.cons; exact AtSeg.head)), ?_⟩
      simp only [List.cons_append, List.nil_append]
      rw [hn']
      (apply LW.callE; rfl; rfl; infer_instance; apply ArgsOk.cons; rfl; exact ArgsOk.nil; intro w _; exact hN w; apply LW.v0; rfl; rfl; apply ValP.move; rfl; apply LW.v0; rfl; rfl; apply ValP.extractN; rfl; rfl; apply LW.v0; rfl; rfl; apply ValP.extractN; rfl; rfl; apply LW.v0; rfl; rfl; apply ValP.assign; rfl; apply LW.v0; rfl; rfl; apply ValP.assign; rfl; apply LW.nil; refine thenN ?_; refine CW.seq ?_; refine CW.seq ?_; refine CW.region ?_; apply LW.v0; rfl; rfl; apply ValP.move; rfl; apply LW.v0; rfl; rfl; apply ValP.notT; rfl; (with_reducible rfl); apply LW.v0; rfl; rfl; apply ValP.move; rfl; apply LW.guardT'; rfl; rfl; (with_reducible rfl); apply LW.v0; rfl; rfl; apply ValP.move; rfl; apply LW.guardT'; rfl; rfl; (with_reducible rfl); apply LW.v0; rfl; rfl; apply ValP.notF; rfl; (with_reducible rfl); apply LW.v0; rfl; rfl; apply ValP.pickF'; rfl; (with_reducible rfl); rfl; apply LW.v0; rfl; rfl; apply ValP.move; rfl; apply LW.guardF'; rfl; rfl; simp only [Bool.not_true, Bool.not_false]; rfl; apply LW.guardF'; rfl; rfl; simp only [Bool.not_true, Bool.not_false]; rfl; apply LW.guardF'; rfl; rfl; simp only [Bool.not_true, Bool.not_false]; rfl; apply LW.guardF'; rfl; rfl; simp only [Bool.not_true, Bool.not_false]; rfl; apply LW.guardF'; rfl; rfl; simp only [Bool.not_true, Bool.not_false]; rfl; apply LW.guardF'; rfl; rfl; simp only [Bool.not_true, Bool.not_false]; rfl; apply LW.guardF'; rfl; rfl; simp only [Bool.not_true, Bool.not_false]; rfl; apply LW.v0; rfl; rfl; apply ValP.pickT'; rfl; (with_reducible rfl); rfl; apply LW.v0; rfl; rfl; apply ValP.move; rfl; apply LW.guardF'; rfl; rfl; simp only [Bool.not_true, Bool.not_false]; rfl; apply LW.guardF'; rfl; rfl; simp only [Bool.not_true, Bool.not_false]; rfl; apply LW.v0; rfl; rfl; apply ValP.pickT'; rfl; (with_reducible rfl); rfl; apply LW.nil; refine thenN ?_; apply CW.condT; rfl; (with_reducible rfl); refine CW.seq ?_; refine CW.region ?_; apply LW.v0; rfl; rfl; apply ValP.move; rfl; apply LW.v0; rfl; rfl; apply ValP.nilCheck; rfl; apply LW.v0; rfl; rfl; apply ValP.fieldAddr; rfl; rfl; apply LW.v0; rfl; rfl; apply ValP.fieldAddr; rfl; rfl; apply LW.store; rfl; rfl; apply SetAt.tail; apply SetAt.app; apply SetAt.head; apply Wr.cells; rfl; rfl; simp only [List.size_toArray, List.length_cons, List.length_nil]; omega; simp only [fillC, wc, wrCells, Value.cells, List.toList_toArray, List.setIfInBounds_toArray, List.set_cons_succ, List.set_cons_zero, Nat.reduceAdd, Nat.reduceMul, Nat.zero_add, Nat.mul_one]; rfl; apply LW.nil; refine thenN ?_; refine CW.seq ?_; refine CW.region ?_; apply LW.v0; rfl; rfl; apply ValP.buildT; infer_instance; infer_instance; exact PartsOk.nil; rfl; simp only [fillP, wrCells, Value.cells, List.getElem?_cons_zero, List.getElem?_cons_succ, List.toList_toArray, List.setIfInBounds_toArray, List.set_cons_succ, List.set_cons_zero, Nat.reduceAdd, Nat.zero_add]; rfl; apply LW.store; rfl; rfl; apply SetAt.head; apply Wr.whole; rfl; rfl; rfl; apply LW.nil; refine thenN ?_; refine CW.ret ?_; refine thenR ?_)
      apply inI
      (exact .inl rfl)
      (exact Shut.nil)
      rfl
      (apply ResL.cons; apply Res.cell; rfl; apply Known.at; apply FsAt.head; exact Rd.whole rfl; exact ResL.nil)
      rfl
      subst hn
      subst hh
      have hok : lgOk s = false := decide_eq_false (fun h => by omega)
      rw [lgS, if_neg (by simp [hok])]
      refine ⟨_, ?_, .slice none 0 0, [], lv1, lv2, ?_, ?_, hl1, hl2, rfl⟩
      · exact List.Sublist.cons _ (List.Sublist.refl _)
      · rw [lgR, if_neg (by simp [hok])]; simp [tup, psa, psc, p00, wc]
      · rw [lgR, if_neg (by simp [hok])]; exact .nil
  · rw [if_neg (by omega), decide_eq_false (by omega)] at hA0
    have hA := hA0
    rcases Nat.lt_or_ge n 18446744073709551616 with n64 | n64
    · rw [if_pos n64, decide_eq_true n64] at hN0
      have hN := hN0
      (refine CW.seq ?_; refine CW.region ?_; apply LW.allocA; rfl; intro _; apply LW.nil; refine thenN ?_; refine CW.seq ?_; refine CW.region ?_; apply LW.v0; rfl; rfl; apply ValP.move; rfl; apply LW.v0; rfl; rfl; apply ValP.nilCheck; rfl; apply LW.v0; rfl; rfl; apply ValP.fieldAddr; rfl; rfl)
      rename_i b2
      refine LW.wordR rfl rfl (by (apply ArgsOk.cons; rfl; exact ArgsOk.nil)) hrow (by (apply AtSeg.cons; apply AtSeg.app; exact atSeg_one)) ?_
      intro lv1 hl1
      refine ⟨_, (by (apply AtSeg.cons; apply AtSeg.app; exact AtSeg.head)), ?_⟩
      simp only [List.cons_append, List.nil_append]
      rw [hh']
      (apply LW.callE; rfl; rfl; infer_instance; apply ArgsOk.cons; rfl; exact ArgsOk.nil; intro w _; exact hA w; apply LW.v0; rfl; rfl; apply ValP.move; rfl; apply LW.v0; rfl; rfl; apply ValP.extractN; rfl; rfl; apply LW.v0; rfl; rfl; apply ValP.extractN; rfl; rfl; apply LW.v0; rfl; rfl; apply ValP.assign; rfl; apply LW.v0; rfl; rfl; apply ValP.assign; rfl; apply LW.nil; refine thenN ?_; refine CW.seq ?_; refine CW.region ?_; apply LW.v0; rfl; rfl; apply ValP.move; rfl; apply LW.v0; rfl; rfl; apply ValP.nilCheck; rfl; apply LW.v0; rfl; rfl; apply ValP.fieldAddr; rfl; rfl; apply LW.load; rfl; rfl; apply Known.at; apply FsAt.tail; apply FsAt.app; apply FsAt.head; apply Rd.one'; rfl)
      refine LW.wordR rfl rfl (by (apply ArgsOk.cons; rfl; exact ArgsOk.nil)) trow (by (apply AtSeg.cons; apply AtSeg.app; apply AtSeg.cons; exact atSeg_one)) ?_
      intro lv2 hl2
      refine ⟨_, (by (apply AtSeg.cons; apply AtSeg.app; apply AtSeg.cons; exact AtSeg.head)), ?_⟩
      simp only [List.cons_append, List.nil_append]
      rw [hn']
      (apply LW.callE; rfl; rfl; infer_instance; apply ArgsOk.cons; rfl; exact ArgsOk.nil; intro w _; exact hN w; apply LW.v0; rfl; rfl; apply ValP.move; rfl; apply LW.v0; rfl; rfl; apply ValP.extractN; rfl; rfl; apply LW.v0; rfl; rfl; apply ValP.extractN; rfl; rfl; apply LW.v0; rfl; rfl; apply ValP.assign; rfl; apply LW.v0; rfl; rfl; apply ValP.assign; rfl; apply LW.nil; refine thenN ?_; refine CW.seq ?_; refine CW.seq ?_; refine CW.region ?_; apply LW.v0; rfl; rfl; apply ValP.move; rfl; apply LW.v0; rfl; rfl; apply ValP.notF; rfl; (with_reducible rfl); apply LW.v0; rfl; rfl; apply ValP.move; rfl; apply LW.guardF'; rfl; rfl; simp only [Bool.not_true, Bool.not_false]; rfl; apply LW.guardF'; rfl; rfl; simp only [Bool.not_true, Bool.not_false]; rfl; apply LW.v0; rfl; rfl; apply ValP.pickT'; rfl; (with_reducible rfl); rfl; apply LW.v0; rfl; rfl; apply ValP.move; rfl; apply LW.guardF'; rfl; rfl; simp only [Bool.not_true, Bool.not_false]; rfl; apply LW.guardF'; rfl; rfl; simp only [Bool.not_true, Bool.not_false]; rfl; apply LW.guardF'; rfl; rfl; simp only [Bool.not_true, Bool.not_false]; rfl; apply LW.guardF'; rfl; rfl; simp only [Bool.not_true, Bool.not_false]; rfl; apply LW.guardF'; rfl; rfl; simp only [Bool.not_true, Bool.not_false]; rfl; apply LW.guardF'; rfl; rfl; simp only [Bool.not_true, Bool.not_false]; rfl; apply LW.guardF'; rfl; rfl; simp only [Bool.not_true, Bool.not_false]; rfl; apply LW.v0; rfl; rfl; apply ValP.pickT'; rfl; (with_reducible rfl); rfl; apply LW.v0; rfl; rfl; apply ValP.move; rfl; apply LW.guardF'; rfl; rfl; simp only [Bool.not_true, Bool.not_false]; rfl; apply LW.guardF'; rfl; rfl; simp only [Bool.not_true, Bool.not_false]; rfl; apply LW.v0; rfl; rfl; apply ValP.pickT'; rfl; (with_reducible rfl); rfl; apply LW.nil; refine thenN ?_; apply CW.condT; rfl; (with_reducible rfl); refine CW.seq ?_; refine CW.region ?_; apply LW.v0; rfl; rfl; apply ValP.move; rfl; apply LW.v0; rfl; rfl; apply ValP.nilCheck; rfl; apply LW.v0; rfl; rfl; apply ValP.fieldAddr; rfl; rfl; apply LW.v0; rfl; rfl; apply ValP.fieldAddr; rfl; rfl; apply LW.store; rfl; rfl; apply SetAt.tail; apply SetAt.app; apply SetAt.head; apply Wr.cells; rfl; rfl; simp only [List.size_toArray, List.length_cons, List.length_nil]; omega; simp only [fillC, wc, wrCells, Value.cells, List.toList_toArray, List.setIfInBounds_toArray, List.set_cons_succ, List.set_cons_zero, Nat.reduceAdd, Nat.reduceMul, Nat.zero_add, Nat.mul_one]; rfl; apply LW.nil; refine thenN ?_; refine CW.seq ?_; refine CW.region ?_; apply LW.v0; rfl; rfl; apply ValP.buildT; infer_instance; infer_instance; exact PartsOk.nil; rfl; simp only [fillP, wrCells, Value.cells, List.getElem?_cons_zero, List.getElem?_cons_succ, List.toList_toArray, List.setIfInBounds_toArray, List.set_cons_succ, List.set_cons_zero, Nat.reduceAdd, Nat.zero_add]; rfl; apply LW.store; rfl; rfl; apply SetAt.head; apply Wr.whole; rfl; rfl; rfl; apply LW.nil; refine thenN ?_; refine CW.ret ?_; refine thenR ?_)
      apply inI
      (exact .inl rfl)
      (exact Shut.nil)
      rfl
      (apply ResL.cons; apply Res.cell; rfl; apply Known.at; apply FsAt.head; exact Rd.whole rfl; exact ResL.nil)
      rfl
      subst hn
      subst hh
      have hok : lgOk s = false := decide_eq_false (fun h => by omega)
      rw [lgS, if_neg (by simp [hok])]
      refine ⟨_, ?_, .slice none 0 0, [], lv1, lv2, ?_, ?_, hl1, hl2, rfl⟩
      · exact List.Sublist.cons _ (List.Sublist.refl _)
      · rw [lgR, if_neg (by simp [hok])]; simp [tup, psa, psc, p00, wc]
      · rw [lgR, if_neg (by simp [hok])]; exact .nil
    · rw [if_neg (by omega), decide_eq_false (by omega)] at hN0
      have hN := hN0
      (refine CW.seq ?_; refine CW.region ?_; apply LW.allocA; rfl; intro _; apply LW.nil; refine thenN ?_; refine CW.seq ?_; refine CW.region ?_; apply LW.v0; rfl; rfl; apply ValP.move; rfl; apply LW.v0; rfl; rfl; apply ValP.nilCheck; rfl; apply LW.v0; rfl; rfl; apply ValP.fieldAddr; rfl; rfl)
      rename_i b2
      refine LW.wordR rfl rfl (by (apply ArgsOk.cons; rfl; exact ArgsOk.nil)) hrow (by (apply AtSeg.cons; apply AtSeg.app; exact atSeg_one)) ?_
      intro lv1 hl1
      refine ⟨_, (by (apply AtSeg.cons; apply AtSeg.app; exact AtSeg.head)), ?_⟩
      simp only [List.cons_append, List.nil_append]
      rw [hh']
      (apply LW.callE; rfl; rfl; infer_instance; apply ArgsOk.cons; rfl; exact ArgsOk.nil; intro w _; exact hA w; apply LW.v0; rfl; rfl; apply ValP.move; rfl; apply LW.v0; rfl; rfl; apply ValP.extractN; rfl; rfl; apply LW.v0; rfl; rfl; apply ValP.extractN; rfl; rfl; apply LW.v0; rfl; rfl; apply ValP.assign; rfl; apply LW.v0; rfl; rfl; apply ValP.assign; rfl; apply LW.nil; refine thenN ?_; refine CW.seq ?_; refine CW.region ?_; apply LW.v0; rfl; rfl; apply ValP.move; rfl; apply LW.v0; rfl; rfl; apply ValP.nilCheck; rfl; apply LW.v0; rfl; rfl; apply ValP.fieldAddr; rfl; rfl; apply LW.load; rfl; rfl; apply Known.at; apply FsAt.tail; apply FsAt.app; apply FsAt.head; apply Rd.one'; rfl)
      refine LW.wordR rfl rfl (by (apply ArgsOk.cons; rfl; exact ArgsOk.nil)) trow (by (apply AtSeg.cons; apply AtSeg.app; apply AtSeg.cons; exact atSeg_one)) ?_
      intro lv2 hl2
      refine ⟨_, (by (apply AtSeg.cons; apply AtSeg.app; apply AtSeg.cons; exact AtSeg.head)), ?_⟩
      simp only [List.cons_append, List.nil_append]
      rw [hn']
      (apply LW.callE; rfl; rfl; infer_instance; apply ArgsOk.cons; rfl; exact ArgsOk.nil; intro w _; exact hN w; apply LW.v0; rfl; rfl; apply ValP.move; rfl; apply LW.v0; rfl; rfl; apply ValP.extractN; rfl; rfl; apply LW.v0; rfl; rfl; apply ValP.extractN; rfl; rfl; apply LW.v0; rfl; rfl; apply ValP.assign; rfl; apply LW.v0; rfl; rfl; apply ValP.assign; rfl; apply LW.nil; refine thenN ?_; refine CW.seq ?_; refine CW.seq ?_; refine CW.region ?_; apply LW.v0; rfl; rfl; apply ValP.move; rfl; apply LW.v0; rfl; rfl; apply ValP.notF; rfl; (with_reducible rfl); apply LW.v0; rfl; rfl; apply ValP.move; rfl; apply LW.guardF'; rfl; rfl; simp only [Bool.not_true, Bool.not_false]; rfl; apply LW.guardF'; rfl; rfl; simp only [Bool.not_true, Bool.not_false]; rfl; apply LW.v0; rfl; rfl; apply ValP.pickT'; rfl; (with_reducible rfl); rfl; apply LW.v0; rfl; rfl; apply ValP.move; rfl; apply LW.guardF'; rfl; rfl; simp only [Bool.not_true, Bool.not_false]; rfl; apply LW.guardF'; rfl; rfl; simp only [Bool.not_true, Bool.not_false]; rfl; apply LW.guardF'; rfl; rfl; simp only [Bool.not_true, Bool.not_false]; rfl; apply LW.guardF'; rfl; rfl; simp only [Bool.not_true, Bool.not_false]; rfl; apply LW.guardF'; rfl; rfl; simp only [Bool.not_true, Bool.not_false]; rfl; apply LW.guardF'; rfl; rfl; simp only [Bool.not_true, Bool.not_false]; rfl; apply LW.guardF'; rfl; rfl; simp only [Bool.not_true, Bool.not_false]; rfl; apply LW.v0; rfl; rfl; apply ValP.pickT'; rfl; (with_reducible rfl); rfl; apply LW.v0; rfl; rfl; apply ValP.move; rfl; apply LW.guardF'; rfl; rfl; simp only [Bool.not_true, Bool.not_false]; rfl; apply LW.guardF'; rfl; rfl; simp only [Bool.not_true, Bool.not_false]; rfl; apply LW.v0; rfl; rfl; apply ValP.pickT'; rfl; (with_reducible rfl); rfl; apply LW.nil; refine thenN ?_; apply CW.condT; rfl; (with_reducible rfl); refine CW.seq ?_; refine CW.region ?_; apply LW.v0; rfl; rfl; apply ValP.move; rfl; apply LW.v0; rfl; rfl; apply ValP.nilCheck; rfl; apply LW.v0; rfl; rfl; apply ValP.fieldAddr; rfl; rfl; apply LW.v0; rfl; rfl; apply ValP.fieldAddr; rfl; rfl; apply LW.store; rfl; rfl; apply SetAt.tail; apply SetAt.app; apply SetAt.head; apply Wr.cells; rfl; rfl; simp only [List.size_toArray, List.length_cons, List.length_nil]; omega; simp only [fillC, wc, wrCells, Value.cells, List.toList_toArray, List.setIfInBounds_toArray, List.set_cons_succ, List.set_cons_zero, Nat.reduceAdd, Nat.reduceMul, Nat.zero_add, Nat.mul_one]; rfl; apply LW.nil; refine thenN ?_; refine CW.seq ?_; refine CW.region ?_; apply LW.v0; rfl; rfl; apply ValP.buildT; infer_instance; infer_instance; exact PartsOk.nil; rfl; simp only [fillP, wrCells, Value.cells, List.getElem?_cons_zero, List.getElem?_cons_succ, List.toList_toArray, List.setIfInBounds_toArray, List.set_cons_succ, List.set_cons_zero, Nat.reduceAdd, Nat.zero_add]; rfl; apply LW.store; rfl; rfl; apply SetAt.head; apply Wr.whole; rfl; rfl; rfl; apply LW.nil; refine thenN ?_; refine CW.ret ?_; refine thenR ?_)
      apply inI
      (exact .inl rfl)
      (exact Shut.nil)
      rfl
      (apply ResL.cons; apply Res.cell; rfl; apply Known.at; apply FsAt.head; exact Rd.whole rfl; exact ResL.nil)
      rfl
      subst hn
      subst hh
      have hok : lgOk s = false := decide_eq_false (fun h => by omega)
      rw [lgS, if_neg (by simp [hok])]
      refine ⟨_, ?_, .slice none 0 0, [], lv1, lv2, ?_, ?_, hl1, hl2, rfl⟩
      · exact List.Sublist.cons _ (List.Sublist.refl _)
      · rw [lgR, if_neg (by simp [hok])]; simp [tup, psa, psc, p00, wc]
      · rw [lgR, if_neg (by simp [hok])]; exact .nil
end Go.Proofs.Ytailnglojnccnaa

/-
  Contracts of the pack: parts of bytes.
  Conditions: none.
-/
namespace Go.Proofs.Ytailnglojnccnaa
open Go Go.RowKit SL
set_option maxRecDepth 8000
set_option maxHeartbeats 4000000
set_option linter.unusedSimpArgs false
set_option linter.unusedVariables false
attribute [local irreducible] SL.CW SL.LW SL.DW Calls SL.Ret SL.RetG SL.beginQ SL.roundQ SL.rangeQ SL.inQ SL.RW SL.AnyW SL.thenQ SL.thenC SL.thenW SL.blkQ SL.finQ SL.ValP SL.NewP SL.SetP SL.CallP SL.Rd SL.Wr SL.Known
/-- Truth values as cells. -/
def bls (l : List Bool) : List Value := l.flatMap fun b => [Value.bool b]
theorem bls_one (l : List Bool) : ∀ b ∈ l, ([Value.bool b] : List Value).length = 1 := fun _ _ => rfl
/-- What is left behind the first k parts. -/
def rsK (b : List UInt8) (fm : List Bool) : Nat → RS
  | 0 => ⟨b.take (32 * fm.length), false, b.drop (32 * fm.length), false, 32 * fm.length⟩
  | k + 1 => if fm.getD k false then lgS (rsK b fm k) else shS (rsK b fm k)
theorem rsK_zero (b : List UInt8) (fm : List Bool) : rsK b fm 0 = ⟨b.take (32 * fm.length), false, b.drop (32 * fm.length), false, 32 * fm.length⟩ := rfl
theorem rsK_long {b : List UInt8} {fm : List Bool} {k : Nat} (h : fm.getD k false = true) : rsK b fm (k + 1) = lgS (rsK b fm k) := by rw [rsK, if_pos h]
theorem rsK_short {b : List UInt8} {fm : List Bool} {k : Nat} (h : fm.getD k false = false) : rsK b fm (k + 1) = shS (rsK b fm k) := by rw [rsK, h]; rfl
attribute [local irreducible] rsK
/-- What a part says, but for its place in memory. -/
def dat (p : PartV) : Bool × Nat × List UInt8 := (p.lg, p.wd, p.db)
/-- The k-th part that is read. -/
def rdP (b : List UInt8) (fm : List Bool) (k : Nat) : Bool × Nat × List UInt8 :=
  if fm.getD k false then dat (lgR (rsK b fm k) (.slice none 0 0)) else dat (ofP (hd32 (rsK b fm k)))
/-- The first k parts that are read. -/
def rdK (b : List UInt8) (fm : List Bool) (k : Nat) : List (Bool × Nat × List UInt8) := (List.range k).map (rdP b fm)
theorem rdK_succ (b : List UInt8) (fm : List Bool) (k : Nat) : rdK b fm (k + 1) = rdK b fm k ++ [rdP b fm k] := by rw [rdK, List.range_succ, List.map_append]; rfl
theorem lgS_pl (s : RS) : (lgS s).pl ≤ s.pl + 300 := by
  unfold lgS
  split
  · rename_i h
    have := (of_decide_eq_true h).2
    have := whl_lt (lgN s)
    show s.pl + (32 + whl (lgN s)) ≤ _
    omega
  · exact Nat.le_add_right _ _
theorem rsK_pl (b : List UInt8) (fm : List Bool) (k : Nat) : (rsK b fm k).pl ≤ 32 * fm.length + 300 * k := by
  induction k with
  | zero => rw [rsK_zero]; exact Nat.le_refl _
  | succ k ih =>
    cases h : fm.getD k false with
    | true => rw [rsK_long h]; have := lgS_pl (rsK b fm k); omega
    | false => rw [rsK_short h]; show (rsK b fm k).pl ≤ _; omega
def rsBad (s : RS) : Bool := s.hb || s.tb || decide (0 < s.tl.length)
/-- Which errno Read hands back. -/
def rdE (b : List UInt8) (fm : List Bool) : Int := if 16 < fm.length then 3 else if b.length < 32 * fm.length then 141 else if rsBad (rsK b fm fm.length) then 141 else 0
/-- The parts' bytes lie where these facts say. -/
def DatAt (gs : Fs) (ps : List PartV) : Prop := ∀ w : World, (∀ q ∈ gs, w.heap[q.1]? = some q.2) → ∀ p ∈ ps, RowAt w 1 p.dv p.db.length (ucs p.db)
theorem DatAt.nil {gs : Fs} : DatAt gs [] := fun _ _ _ h => by cases h
theorem DatAt.app {gs hs : Fs} {ps qs : List PartV} (h : DatAt gs ps) (k : DatAt hs qs) : DatAt (hs ++ gs) (ps ++ qs) := fun w hw p hp => by
  rcases List.mem_append.1 hp with hp | hp
  · exact h w (fun q hq => hw q (List.mem_append_right _ hq)) p hp
  · exact k w (fun q hq => hw q (List.mem_append_left _ hq)) p hp
structure GX where
  k : Nat
  ov : Value
  segO : Fs
  ps : List PartV
  gsD : Fs
  hv : Value
  tv : Value
theorem cells_sl (p : Option Addr) (n c : Nat) : (Value.slice p n c).cells = #[.slice p n c] := rfl
theorem cells_ptr (p : Option Addr) : (Value.pointer p).cells = #[.pointer p] := rfl
theorem cells_int (k : IntKind) (n : Int) : (Value.int k n).cells = #[.int k n] := rfl
theorem cells_bool (b : Bool) : (Value.bool b).cells = #[.bool b] := rfl
theorem cells_agg (cs : Array Value) : (Value.agg cs).cells = cs := rfl
/-- Parts that lie where these facts say. -/
def PartsGs (ps : List PartV) (v : Value) (gs : Fs) : Prop := ∃ gsD segO, gs = gsD ++ segO ∧ IsRow 39 6 v ps.length (ps.flatMap psc) segO ∧ DatAt gsD ps ∧ ∀ p ∈ ps, p.wd < M256
theorem PartsGs.at {ps : List PartV} {v : Value} {gs : Fs} (h : PartsGs ps v gs) {w : World} (hw : ∀ q ∈ gs, w.heap[q.1]? = some q.2) : PartsAt w v ps := by
  obtain ⟨gsD, segO, rfl, hO, hD, hs⟩ := h
  exact ⟨hO.us (fun q hq => hw q (List.mem_append_right _ hq)) (List.Sublist.refl _), hs, fun p hp => hD w (fun q hq => hw q (List.mem_append_left _ hq)) p hp⟩
theorem psc_one {p : PartV} (h : p.dv.oneCell' = true) : (psc p).all Value.oneCell' = true := by
  simp only [psc, wc, List.cons_append, List.nil_append, List.all_cons, List.all_nil, h]; rfl
theorem flat_snoc {ps : List PartV} {p : PartV} : (ps ++ [p]).flatMap psc = ps.flatMap psc ++ psc p := by simp
/-- What Read hands back. -/
def ReadR (b : List UInt8) (fm : List Bool) (v : Value) (gs : Fs) : Prop :=
  ∃ ov, v = .tuple #[ov, .int .i64 (rdE b fm)] ∧ (rdE b fm = 0 → ∃ ps, ps.map dat = rdK b fm fm.length ∧ PartsGs ps ov gs) ∧ (rdE b fm ≠ 0 → ov = .slice none 0 0)
theorem row_is {E : TypeId} {n : Nat} {v : Value} {l : List UInt8} {seg : Fs} {p : PartV} (h : IsRow E 1 v n (ucs l) seg) (h1 : p.dv = v) (h2 : p.db = l) (h3 : l.length = n) : DatAt seg [p] := fun w hw q hq => by
  obtain rfl : q = p := by simpa using hq
  rw [h1, h2, h3]
  exact h.us hw (List.Sublist.refl _)
theorem dat_lgR (s : RS) (v u : Value) : dat (lgR s v) = dat (lgR s u) := by unfold lgR; split <;> rfl
theorem wd_lgR (s : RS) (v : Value) : (lgR s v).wd < M256 := by unfold lgR; split <;> exact (by decide : (0 : Nat) < M256)
theorem Read_ok (b : List UInt8) (fm : List Bool) (bv fv : Value) (w : World) (hb : RowAt w 1 bv b.length (ucs b)) (hf : RowAt w 1 fv fm.length (bls fm)) (h16 : fm.length ≤ 16) (hlen : 32 * fm.length ≤ b.length) :
    Calls Try.prog 10 #[bv, fv] w (RetG w [] (ReadR b fm)) := by
  obtain ⟨p, c, rfl, hc, hm⟩ := hb.form
  obtain ⟨q, d, rfl, hd, hn⟩ := hf.form
  simp only [maxLen] at hm hn
  refine enter (args := [_, _]) _ [] [] Try.func10 rfl Try.ntmps10 rfl (by simp) .nil ?_
  (refine CW.seq ?_; refine CW.region ?_; apply LW.v0; rfl; rfl; apply ValP.assign; rfl; apply LW.v0; rfl; rfl; apply ValP.assign; rfl; apply LW.nil; refine thenN ?_; refine CW.seq ?_; refine CW.region ?_; apply LW.v0; rfl; rfl; apply ValP.move; rfl; apply LW.v0; rfl; rfl; apply ValP.lenR; rfl; infer_instance; rfl; apply LW.v0; rfl; rfl; apply ValP.mulZK; rfl; rfl; decide; omega; apply LW.v0; rfl; rfl; apply ValP.assign; rfl; apply LW.nil; refine thenN ?_; refine CW.seq ?_; refine CW.block ?_; refine CW.seq ?_; refine CW.region ?_; apply LW.v0; rfl; rfl; apply ValP.move; rfl; apply LW.v0; rfl; rfl; apply ValP.lenR; rfl; infer_instance; rfl; apply LW.v0; rfl; rfl; apply ValP.gtrF; rfl; rfl; omega; apply LW.v0; rfl; rfl; apply ValP.assign; rfl; apply LW.nil; refine thenN ?_; apply CW.condF; rfl; (with_reducible rfl); refine CW.seq ?_; refine CW.region ?_; apply LW.v0; rfl; rfl; apply ValP.move; rfl; apply LW.v0; rfl; rfl; apply ValP.lenR; rfl; infer_instance; rfl; apply LW.v0; rfl; rfl; apply ValP.move; rfl; apply LW.v0; rfl; rfl; apply ValP.lssF; rfl; rfl; omega; apply LW.v0; rfl; rfl; apply ValP.assign; rfl; apply LW.nil; refine thenN ?_; apply CW.condF; rfl; (with_reducible rfl); refine CW.skip ?_; refine blkN ?_; refine thenN ?_; refine CW.seq ?_; apply CW.pre; refine AnyW.any 10 mixed (by decide +kernel) ?_; (try simp only [tsOf_cons, tsOf_nil, tsOf_app]); apply DW.v0; rfl; rfl; rfl; exact WantT.none; rfl; apply ValP.move; rfl; apply DW.v0; rfl; rfl; rfl; exact WantT.none; rfl; apply ValP.move; rfl; apply DW.v0; rfl; rfl; rfl; exact WantT.none; rfl; apply ValP.cutTo; infer_instance; infer_instance; rfl; rfl; omega; apply DW.v0; rfl; rfl; rfl; exact WantT.none; rfl; apply ValP.buildT; infer_instance; infer_instance; apply PartsOk.cons; rfl; exact PartsOk.nil; rfl; simp only [cells_cut, cells_sl, cells_ptr, cells_int, cells_bool, cells_agg, fillP, wrCells, List.getElem?_cons_zero, List.getElem?_cons_succ, List.toList_toArray, List.setIfInBounds_toArray, List.set_cons_succ, List.set_cons_zero, Nat.reduceAdd, Nat.zero_add]; rfl; apply DW.v0; rfl; rfl; rfl; exact WantT.none; rfl; apply ValP.move; rfl; apply DW.v0; rfl; rfl; rfl; exact WantT.none; rfl; apply ValP.move; rfl; apply DW.v0; rfl; rfl; rfl; exact WantT.none; rfl; apply ValP.cutFrom; infer_instance; infer_instance; rfl; rfl; omega; apply DW.v0; rfl; rfl; rfl; exact WantT.none; rfl; apply ValP.buildT; infer_instance; infer_instance; apply PartsOk.cons; rfl; exact PartsOk.nil; rfl; simp only [cells_cut, cells_sl, cells_ptr, cells_int, cells_bool, cells_agg, fillP, wrCells, List.getElem?_cons_zero, List.getElem?_cons_succ, List.toList_toArray, List.setIfInBounds_toArray, List.set_cons_succ, List.set_cons_zero, Nat.reduceAdd, Nat.zero_add]; rfl; apply DW.boxA; rfl; rfl; rfl; exact WantT.none; rfl; intro _; apply DW.v0; rfl; rfl; rfl; exact WantT.none; rfl; apply ValP.move; rfl; apply DW.nil; simp only [fsOf_cons, fsOf_nil, fsOf_app, fsOf_tsOf, fsOf_new]; apply LW.v0; rfl; rfl; apply ValP.buildT; infer_instance; infer_instance; apply PartsOk.cons; rfl; apply PartsOk.cons; rfl; apply PartsOk.cons; rfl; exact PartsOk.nil; rfl; simp only [cells_cut, cells_sl, cells_ptr, cells_int, cells_bool, cells_agg, fillP, wrCells, List.getElem?_cons_zero, List.getElem?_cons_succ, List.toList_toArray, List.setIfInBounds_toArray, List.set_cons_succ, List.set_cons_zero, Nat.reduceAdd, Nat.zero_add]; rfl; apply LW.boxA; rfl; rfl; intro _; apply LW.v0; rfl; rfl; apply ValP.assign; rfl; apply LW.nil; refine thenN ?_; refine CW.seq ?_; refine CW.region ?_; apply LW.makeMap; rfl; intro _; apply LW.v0; rfl; rfl; apply ValP.move; rfl; apply LW.v0; rfl; rfl; apply ValP.makeFunc; apply ArgsOk.cons; rfl; exact ArgsOk.nil; exact ArgsOk.nil)
  apply LW.mapIns
  infer_instance
  infer_instance
  rfl
  rfl
  rfl
  (apply SetAt.head)
  trivial
  rfl
  (apply LW.v0; rfl; rfl; apply ValP.move; rfl; apply LW.v0; rfl; rfl; apply ValP.makeFunc; apply ArgsOk.cons; rfl; exact ArgsOk.nil; exact ArgsOk.nil)
  apply LW.mapIns
  infer_instance
  infer_instance
  rfl
  rfl
  rfl
  (apply SetAt.head)
  trivial
  rfl
  (apply LW.v0; rfl; rfl; apply ValP.move; rfl; apply LW.v0; rfl; rfl; apply ValP.assign; rfl; apply LW.nil; refine thenN ?_; refine CW.seq ?_; refine CW.region ?_; apply LW.v0; rfl; rfl; apply ValP.assign; rfl; apply LW.nil; refine thenN ?_; refine CW.seq ?_; refine CW.seq ?_; refine CW.region ?_; apply LW.v0; rfl; rfl; apply ValP.move; rfl; apply LW.v0; rfl; rfl; apply ValP.lenR; rfl; infer_instance; rfl; apply LW.v0; rfl; rfl; apply ValP.move; rfl; apply LW.nil; refine thenN ?_; refine CW.block ?_)
  rename_i bT bR bM
  refine CW.loop (fun x : GX => ([(44, .int .i64 (x.k : Int)), (43, .int .i64 (fm.length : Int)), (42, .slice q fm.length d), (9, x.ov), (8, .map (some bM)), (7, .pointer (some ⟨bR, 0, none⟩))],
      x.gsD ++ (x.segO ++ ((bM, .map #[⟨.bool false, .func (.func 24) #[.pointer (some ⟨bR, 0, none⟩)] #[], 0⟩, ⟨.bool true, .func (.func 25) #[.pointer (some ⟨bR, 0, none⟩)] #[], 1⟩] 2) :: (rfs bR bT x.hv x.tv (rsK b fm x.k) ++ [])))))
    (fun x => x.k ≤ fm.length ∧ IsRow 39 6 x.ov x.k (x.ps.flatMap psc) x.segO ∧ DatAt x.gsD x.ps ∧ x.ps.map dat = rdK b fm x.k ∧ (∀ p ∈ x.ps, p.wd < M256) ∧ RowAt w 1 x.hv (rsK b fm x.k).hl.length (ucs (rsK b fm x.k).hl) ∧ RowAt w 1 x.tv (rsK b fm x.k).tl.length (ucs (rsK b fm x.k).tl))
    (fun x => fm.length - x.k) ⟨0, .slice none 0 0, [], [], [], .slice p (32 * fm.length) c, cutAt p (32 * fm.length) b.length c 1⟩
    ⟨Nat.zero_le _, .nil, DatAt.nil, rfl, (fun _ h => by cases h), (by rw [rsK_zero]; exact row_taken hb hlen), (by rw [rsK_zero]; exact row_left hb hlen)⟩ ⟨rfl, rfl, rfl, rfl, rfl, rfl, trivial⟩ (by dsimp only; rw [rsK_zero]; exact List.Sublist.refl _) ?_
  rintro ⟨k, ov, segO, ps, gsD, hv, tv⟩ ⟨hk, hO, hD, hps, hsm, hhv, htv⟩
  dsimp only at hk hO hD hps hsm hhv htv ⊢
  have hpl := rsK_pl b fm k
  obtain ⟨po, co, rfl⟩ := hO.form
  rcases Nat.lt_or_ge k fm.length with hlt | hge
  · obtain ⟨b0, off, c', cs, E, fr, heq, hb0, hx⟩ := hf.pos (by omega)
    cases heq
    have hgd : fm.getD k false = fm[k] := by simp [hlt]
    have hrd : Rd Try.prog 4 (.cells cs E fr) (off + k * 1) (.bool fm[k]) := Rd.elem1 hx (bls_one fm) (List.getElem?_eq_getElem hlt) rfl
    cases hfk : fm[k] with
    | false =>
      rw [hfk] at hrd hgd
      have hr1 := rsK_short (b := b) hgd
      (refine CW.seq ?_; refine CW.region ?_; apply LW.v0; rfl; rfl; apply ValP.lssT; rfl; rfl; omega; apply LW.nil; refine thenN ?_; refine CW.seq ?_; apply CW.condT; rfl; (with_reducible rfl); refine CW.skip ?_; refine thenN ?_; refine CW.seq ?_; refine CW.block ?_; refine CW.seq ?_; refine CW.region ?_; apply LW.v0; rfl; rfl; apply ValP.indexAddrS; rfl; rfl; rfl; omega; apply LW.load; rfl; rfl; exact Known.ext (by assumption) (by simp); assumption; apply LW.v0; rfl; rfl; apply ValP.assign; rfl; apply LW.nil; refine thenN ?_; refine CW.region ?_; apply LW.v0; rfl; rfl; apply ValP.move; rfl; apply LW.v0; rfl; rfl; apply ValP.move; rfl; apply LW.v0; rfl; rfl; apply ValP.move; rfl)
      apply LW.mapGet
      rfl
      infer_instance
      infer_instance
      infer_instance
      rfl
      rfl
      (apply Known.at; apply FsAt.app; apply FsAt.app; apply FsAt.head)
      trivial
      rfl
      rfl
      refine LW.callStF (aas := [_]) rfl rfl inferInstance .nil rfl (fun w' hs => short_calls (s := rsK b fm k) hhv (gsD ++ (segO ++ [(bM, _)])) [] w' (by rw [List.append_assoc, List.append_assoc]; exact hs)) ?_
      rintro v fs' ⟨rfl, hv', hhv', rfl⟩
      rw [List.append_assoc, List.append_assoc]
      simp only [List.cons_append, List.nil_append]
      obtain ⟨P, hP⟩ : ∃ P, ofP (hd32 (rsK b fm k)) = P := ⟨_, rfl⟩
      have hP1 : P.dv.oneCell' = true := by rw [← hP]; rfl
      rw [hP]
      (apply LW.layA; rfl; infer_instance; infer_instance; rfl; rfl; rfl; rfl; rfl; intro _)
      rename_i b9
      refine LW.append (n := k) (m := 1) (news := psc P) rfl rfl inferInstance inferInstance inferInstance rfl rfl rfl (by (apply AtSeg.cons; apply AtSeg.app; exact AtSeg.head)) hO (by (apply Known.at; apply FsAt.head)) rfl rfl (psc_one hP1) (by omega) (by simp only [maxLen]; omega) (by omega) ?_
      intro ov' segO' hO'
      refine ⟨_, (by (apply AtSeg.cons; apply AtSeg.app; exact AtSeg.head)), ?_⟩
      (apply LW.v0; rfl; rfl; apply ValP.assign; rfl; apply LW.nil; refine blkN ?_; refine thenN ?_; refine CW.region ?_; apply LW.v0; rfl; rfl; apply ValP.addZL; rfl; rfl; decide; omega; apply LW.v0; rfl; rfl; apply ValP.move; rfl; apply LW.nil)
      apply thenX
      refine ⟨rfl, ⟨k + 1, ov', segO', ps ++ [P], gsD, hv', tv⟩, ⟨hlt, ?_, ?_, ?_, ?_, ?_, ?_⟩, by show fm.length - (k + 1) < fm.length - k; omega, ⟨rfl, rfl, rfl, rfl, rfl, rfl, trivial⟩, ?_⟩
      · dsimp only; rw [flat_snoc]; exact hO'
      · have := hD.app (hs := []) (qs := [P]) (fun w' _ q hq => by
          obtain rfl : q = P := by simpa using hq
          rw [← hP]; exact RowAt.nil)
        exact this
      · dsimp only
        rw [List.map_append, hps, rdK_succ, rdP, if_neg (by simpa using hgd), hP]; rfl
      · intro p hp
        rcases List.mem_append.1 hp with hp | hp
        · exact hsm p hp
        · obtain rfl : p = P := by simpa using hp
          rw [← hP]; exact bev_m256 (tkB_len _ _ _)
      · dsimp only; rw [hr1]; exact hhv'
      · dsimp only; rw [hr1]; exact htv
      · dsimp only
        rw [hr1]
        exact List.Sublist.cons _ (List.Sublist.refl _)
    | true =>
      rw [hfk] at hrd hgd
      have hr1 := rsK_long (b := b) hgd
      (refine CW.seq ?_; refine CW.region ?_; apply LW.v0; rfl; rfl; apply ValP.lssT; rfl; rfl; omega; apply LW.nil; refine thenN ?_; refine CW.seq ?_; apply CW.condT; rfl; (with_reducible rfl); refine CW.skip ?_; refine thenN ?_; refine CW.seq ?_; refine CW.block ?_; refine CW.seq ?_; refine CW.region ?_; apply LW.v0; rfl; rfl; apply ValP.indexAddrS; rfl; rfl; rfl; omega; apply LW.load; rfl; rfl; exact Known.ext (by assumption) (by simp); assumption; apply LW.v0; rfl; rfl; apply ValP.assign; rfl; apply LW.nil; refine thenN ?_; refine CW.region ?_; apply LW.v0; rfl; rfl; apply ValP.move; rfl; apply LW.v0; rfl; rfl; apply ValP.move; rfl; apply LW.v0; rfl; rfl; apply ValP.move; rfl)
      apply LW.mapGet
      rfl
      infer_instance
      infer_instance
      infer_instance
      rfl
      rfl
      (apply Known.at; apply FsAt.app; apply FsAt.app; apply FsAt.head)
      trivial
      rfl
      rfl
      refine LW.callStF (aas := [_]) rfl rfl inferInstance .nil rfl (fun w' hs => long_calls (s := rsK b fm k) hhv htv (by omega) (gsD ++ (segO ++ [(bM, _)])) [] w' (by rw [List.append_assoc, List.append_assoc]; exact hs)) ?_
      rintro v fs' ⟨dv, segD, hv', tv', rfl, hseg, hhv', htv', rfl⟩
      rw [List.append_assoc, List.append_assoc]
      simp only [List.cons_append, List.nil_append]
      obtain ⟨P, hP⟩ : ∃ P, lgR (rsK b fm k) dv = P := ⟨_, rfl⟩
      rw [hP] at hseg ⊢
      have hP1 : P.dv.oneCell' = true := by obtain ⟨a1, a2, a3⟩ := hseg.form; rw [a3]; rfl
      (apply LW.layA; rfl; infer_instance; infer_instance; rfl; rfl; rfl; rfl; rfl; intro _)
      rename_i b9
      refine LW.append (n := k) (m := 1) (news := psc P) rfl rfl inferInstance inferInstance inferInstance rfl rfl rfl (by (apply AtSeg.cons; apply AtSeg.app; apply AtSeg.app; exact AtSeg.head)) hO (by (apply Known.at; apply FsAt.head)) rfl rfl (psc_one hP1) (by omega) (by simp only [maxLen]; omega) (by omega) ?_
      intro ov' segO' hO'
      refine ⟨_, (by (apply AtSeg.cons; apply AtSeg.app; apply AtSeg.app; exact AtSeg.head)), ?_⟩
      (apply LW.v0; rfl; rfl; apply ValP.assign; rfl; apply LW.nil; refine blkN ?_; refine thenN ?_; refine CW.region ?_; apply LW.v0; rfl; rfl; apply ValP.addZL; rfl; rfl; decide; omega; apply LW.v0; rfl; rfl; apply ValP.move; rfl; apply LW.nil)
      apply thenX
      refine ⟨rfl, ⟨k + 1, ov', segO', ps ++ [P], segD ++ gsD, hv', tv'⟩, ⟨hlt, ?_, ?_, ?_, ?_, ?_, ?_⟩, by show fm.length - (k + 1) < fm.length - k; omega, ⟨rfl, rfl, rfl, rfl, rfl, rfl, trivial⟩, ?_⟩
      · dsimp only; rw [flat_snoc]; exact hO'
      · exact hD.app (row_is hseg rfl rfl rfl)
      · dsimp only
        rw [List.map_append, hps, rdK_succ, rdP, if_pos hgd, dat_lgR _ _ dv, hP]; rfl
      · intro p hp
        rcases List.mem_append.1 hp with hp | hp
        · exact hsm p hp
        · obtain rfl : p = P := by simpa using hp
          rw [← hP]; exact wd_lgR _ _
      · dsimp only; rw [hr1]; exact hhv'
      · dsimp only; rw [hr1]; exact htv'
      · dsimp only
        rw [hr1, List.append_assoc]
        exact List.Sublist.cons _ (List.Sublist.refl _)
  · obtain rfl : k = fm.length := by omega
    simp only [rfs, List.cons_append, List.nil_append]
    obtain ⟨S, hS⟩ : ∃ S, rsK b fm fm.length = S := ⟨_, rfl⟩
    rw [hS] at htv ⊢
    obtain ⟨hl, hb1, tl, tb1, pl⟩ := S
    dsimp only at htv ⊢
    obtain ⟨pt1, ct1, rfl, _, htm⟩ := htv.form
    simp only [maxLen] at htm
    have hE : rdE b fm = if hb1 || tb1 || decide (0 < tl.length) then 141 else 0 := by rw [rdE, if_neg (by omega), if_neg (by omega), hS]; rfl
    cases hb1 with
    | true =>
      rw [if_pos (by rfl)] at hE
      (refine CW.seq ?_; refine CW.region ?_; apply LW.v0; rfl; rfl; apply ValP.lssF; rfl; rfl; omega; apply LW.nil; refine thenN ?_; refine CW.seq ?_; apply CW.condF; rfl; (with_reducible rfl); refine CW.exit ?_; refine thenE ?_; refine thenE ?_; refine blkE rfl ?_; refine thenN ?_; refine CW.seq ?_; refine CW.seq ?_; refine CW.region ?_; apply LW.v0; rfl; rfl; apply ValP.move; rfl; apply LW.v0; rfl; rfl; apply ValP.nilCheck; rfl; apply LW.v0; rfl; rfl; apply ValP.fieldAddr; rfl; rfl; apply LW.v0; rfl; rfl; apply ValP.fieldAddr; rfl; rfl; apply LW.load; rfl; rfl; apply Known.at; apply FsAt.app; apply FsAt.app; apply FsAt.tail; apply FsAt.head; exact Rd.one' rfl; apply LW.v0; rfl; rfl; apply ValP.move; rfl; apply LW.guardF'; rfl; rfl; simp only [Bool.not_true, Bool.not_false]; rfl; apply LW.guardF'; rfl; rfl; simp only [Bool.not_true, Bool.not_false]; rfl; apply LW.guardF'; rfl; rfl; simp only [Bool.not_true, Bool.not_false]; rfl; apply LW.guardF'; rfl; rfl; simp only [Bool.not_true, Bool.not_false]; rfl; apply LW.guardF'; rfl; rfl; simp only [Bool.not_true, Bool.not_false]; rfl; apply LW.guardF'; rfl; rfl; simp only [Bool.not_true, Bool.not_false]; rfl; apply LW.guardF'; rfl; rfl; simp only [Bool.not_true, Bool.not_false]; rfl; apply LW.v0; rfl; rfl; apply ValP.pickT'; rfl; (with_reducible rfl); rfl; apply LW.v0; rfl; rfl; apply ValP.move; rfl; apply LW.guardF'; rfl; rfl; simp only [Bool.not_true, Bool.not_false]; rfl; apply LW.guardF'; rfl; rfl; simp only [Bool.not_true, Bool.not_false]; rfl; apply LW.guardF'; rfl; rfl; simp only [Bool.not_true, Bool.not_false]; rfl; apply LW.guardF'; rfl; rfl; simp only [Bool.not_true, Bool.not_false]; rfl; apply LW.guardF'; rfl; rfl; simp only [Bool.not_true, Bool.not_false]; rfl; apply LW.guardF'; rfl; rfl; simp only [Bool.not_true, Bool.not_false]; rfl; apply LW.guardF'; rfl; rfl; simp only [Bool.not_true, Bool.not_false]; rfl; apply LW.guardF'; rfl; rfl; simp only [Bool.not_true, Bool.not_false]; rfl; apply LW.guardF'; rfl; rfl; simp only [Bool.not_true, Bool.not_false]; rfl; apply LW.v0; rfl; rfl; apply ValP.pickT'; rfl; (with_reducible rfl); rfl; apply LW.nil; refine thenN ?_; apply CW.condT; rfl; (with_reducible rfl); refine CW.seq ?_; refine CW.region ?_; apply LW.v0; rfl; rfl; apply ValP.assign; rfl; apply LW.v0; rfl; rfl; apply ValP.assign; rfl; apply LW.nil; refine thenN ?_; refine CW.ret ?_; refine thenR ?_)
      refine fin [] (.inl rfl) rfl rfl (by (apply ResL.cons; exact Res.tmp rfl; apply ResL.cons; exact Res.tmp rfl; exact ResL.nil)) (List.nil_sublist _) ⟨.slice none 0 0, by rw [hE]; rfl, fun h => ?_, fun _ => rfl⟩
      rw [hE] at h
      cases h
    | false =>
      cases tb1 with
      | true =>
        rw [if_pos (by rfl)] at hE
        (refine CW.seq ?_; refine CW.region ?_; apply LW.v0; rfl; rfl; apply ValP.lssF; rfl; rfl; omega; apply LW.nil; refine thenN ?_; refine CW.seq ?_; apply CW.condF; rfl; (with_reducible rfl); refine CW.exit ?_; refine thenE ?_; refine thenE ?_; refine blkE rfl ?_; refine thenN ?_; refine CW.seq ?_; refine CW.seq ?_; refine CW.region ?_; apply LW.v0; rfl; rfl; apply ValP.move; rfl; apply LW.v0; rfl; rfl; apply ValP.nilCheck; rfl; apply LW.v0; rfl; rfl; apply ValP.fieldAddr; rfl; rfl; apply LW.v0; rfl; rfl; apply ValP.fieldAddr; rfl; rfl; apply LW.load; rfl; rfl; apply Known.at; apply FsAt.app; apply FsAt.app; apply FsAt.tail; apply FsAt.head; exact Rd.one' rfl; apply LW.v0; rfl; rfl; apply ValP.move; rfl; apply LW.guardT'; rfl; rfl; (with_reducible rfl); apply LW.v0; rfl; rfl; apply ValP.move; rfl; apply LW.guardT'; rfl; rfl; (with_reducible rfl); apply LW.v0; rfl; rfl; apply ValP.nilCheck; rfl; apply LW.guardT'; rfl; rfl; (with_reducible rfl); apply LW.v0; rfl; rfl; apply ValP.fieldAddr; rfl; rfl; apply LW.guardT'; rfl; rfl; (with_reducible rfl); apply LW.load; rfl; rfl; apply Known.at; apply FsAt.app; apply FsAt.app; apply FsAt.tail; apply FsAt.head; exact Rd.one' rfl; apply LW.guardT'; rfl; rfl; (with_reducible rfl); apply LW.v0; rfl; rfl; apply ValP.nilCheck; rfl; apply LW.guardT'; rfl; rfl; (with_reducible rfl); apply LW.v0; rfl; rfl; apply ValP.fieldAddr; rfl; rfl; apply LW.guardT'; rfl; rfl; (with_reducible rfl); apply LW.load; rfl; rfl; apply Known.at; apply FsAt.app; apply FsAt.app; apply FsAt.tail; apply FsAt.tail; apply FsAt.head; exact Rd.one' rfl; apply LW.v0; rfl; rfl; apply ValP.pickF'; rfl; (with_reducible rfl); rfl; apply LW.v0; rfl; rfl; apply ValP.move; rfl; apply LW.guardF'; rfl; rfl; simp only [Bool.not_true, Bool.not_false]; rfl; apply LW.guardF'; rfl; rfl; simp only [Bool.not_true, Bool.not_false]; rfl; apply LW.guardF'; rfl; rfl; simp only [Bool.not_true, Bool.not_false]; rfl; apply LW.guardF'; rfl; rfl; simp only [Bool.not_true, Bool.not_false]; rfl; apply LW.guardF'; rfl; rfl; simp only [Bool.not_true, Bool.not_false]; rfl; apply LW.guardF'; rfl; rfl; simp only [Bool.not_true, Bool.not_false]; rfl; apply LW.guardF'; rfl; rfl; simp only [Bool.not_true, Bool.not_false]; rfl; apply LW.guardF'; rfl; rfl; simp only [Bool.not_true, Bool.not_false]; rfl; apply LW.guardF'; rfl; rfl; simp only [Bool.not_true, Bool.not_false]; rfl; apply LW.v0; rfl; rfl; apply ValP.pickT'; rfl; (with_reducible rfl); rfl; apply LW.nil; refine thenN ?_; apply CW.condT; rfl; (with_reducible rfl); refine CW.seq ?_; refine CW.region ?_; apply LW.v0; rfl; rfl; apply ValP.assign; rfl; apply LW.v0; rfl; rfl; apply ValP.assign; rfl; apply LW.nil; refine thenN ?_; refine CW.ret ?_; refine thenR ?_)
        refine fin [] (.inl rfl) rfl rfl (by (apply ResL.cons; exact Res.tmp rfl; apply ResL.cons; exact Res.tmp rfl; exact ResL.nil)) (List.nil_sublist _) ⟨.slice none 0 0, by rw [hE]; rfl, fun h => ?_, fun _ => rfl⟩
        rw [hE] at h
        cases h
      | false =>
        rcases Nat.eq_zero_or_pos tl.length with h0 | h0
        · rw [if_neg (by simp [h0])] at hE
          (refine CW.seq ?_; refine CW.region ?_; apply LW.v0; rfl; rfl; apply ValP.lssF; rfl; rfl; omega; apply LW.nil; refine thenN ?_; refine CW.seq ?_; apply CW.condF; rfl; (with_reducible rfl); refine CW.exit ?_; refine thenE ?_; refine thenE ?_; refine blkE rfl ?_; refine thenN ?_; refine CW.seq ?_; refine CW.seq ?_; refine CW.region ?_; apply LW.v0; rfl; rfl; apply ValP.move; rfl; apply LW.v0; rfl; rfl; apply ValP.nilCheck; rfl; apply LW.v0; rfl; rfl; apply ValP.fieldAddr; rfl; rfl; apply LW.v0; rfl; rfl; apply ValP.fieldAddr; rfl; rfl; apply LW.load; rfl; rfl; apply Known.at; apply FsAt.app; apply FsAt.app; apply FsAt.tail; apply FsAt.head; exact Rd.one' rfl; apply LW.v0; rfl; rfl; apply ValP.move; rfl; apply LW.guardT'; rfl; rfl; (with_reducible rfl); apply LW.v0; rfl; rfl; apply ValP.move; rfl; apply LW.guardT'; rfl; rfl; (with_reducible rfl); apply LW.v0; rfl; rfl; apply ValP.nilCheck; rfl; apply LW.guardT'; rfl; rfl; (with_reducible rfl); apply LW.v0; rfl; rfl; apply ValP.fieldAddr; rfl; rfl; apply LW.guardT'; rfl; rfl; (with_reducible rfl); apply LW.load; rfl; rfl; apply Known.at; apply FsAt.app; apply FsAt.app; apply FsAt.tail; apply FsAt.head; exact Rd.one' rfl; apply LW.guardT'; rfl; rfl; (with_reducible rfl); apply LW.v0; rfl; rfl; apply ValP.nilCheck; rfl; apply LW.guardT'; rfl; rfl; (with_reducible rfl); apply LW.v0; rfl; rfl; apply ValP.fieldAddr; rfl; rfl; apply LW.guardT'; rfl; rfl; (with_reducible rfl); apply LW.load; rfl; rfl; apply Known.at; apply FsAt.app; apply FsAt.app; apply FsAt.tail; apply FsAt.tail; apply FsAt.head; exact Rd.one' rfl; apply LW.v0; rfl; rfl; apply ValP.pickF'; rfl; (with_reducible rfl); rfl; apply LW.v0; rfl; rfl; apply ValP.move; rfl; apply LW.guardT'; rfl; rfl; (with_reducible rfl); apply LW.v0; rfl; rfl; apply ValP.move; rfl; apply LW.guardT'; rfl; rfl; (with_reducible rfl); apply LW.v0; rfl; rfl; apply ValP.nilCheck; rfl; apply LW.guardT'; rfl; rfl; (with_reducible rfl); apply LW.v0; rfl; rfl; apply ValP.fieldAddr; rfl; rfl; apply LW.guardT'; rfl; rfl; (with_reducible rfl); apply LW.load; rfl; rfl; apply Known.at; apply FsAt.app; apply FsAt.app; apply FsAt.tail; apply FsAt.head; exact Rd.one' rfl; apply LW.guardT'; rfl; rfl; (with_reducible rfl); apply LW.v0; rfl; rfl; apply ValP.nilCheck; rfl; apply LW.guardT'; rfl; rfl; (with_reducible rfl); apply LW.v0; rfl; rfl; apply ValP.fieldAddr; rfl; rfl; apply LW.guardT'; rfl; rfl; (with_reducible rfl); apply LW.load; rfl; rfl; apply Known.at; apply FsAt.app; apply FsAt.app; apply FsAt.tail; apply FsAt.tail; apply FsAt.head; exact Rd.one' rfl; apply LW.guardT'; rfl; rfl; (with_reducible rfl); apply LW.v0; rfl; rfl; apply ValP.lenR; rfl; infer_instance; rfl; apply LW.guardT'; rfl; rfl; (with_reducible rfl); apply LW.v0; rfl; rfl; apply ValP.gtrF; rfl; rfl; omega; apply LW.v0; rfl; rfl; apply ValP.pickF'; rfl; (with_reducible rfl); rfl; apply LW.nil; refine thenN ?_; apply CW.condF; rfl; (with_reducible rfl); refine CW.skip ?_; refine thenN ?_; refine CW.seq ?_; refine CW.region ?_; apply LW.v0; rfl; rfl; apply ValP.move; rfl; apply LW.v0; rfl; rfl; apply ValP.assign; rfl; apply LW.v0; rfl; rfl; apply ValP.assign; rfl; apply LW.nil; refine thenN ?_; refine CW.ret ?_)
          refine fin (vs := [.slice po fm.length co, .int .i64 0]) (gsD ++ segO) (.inl rfl) rfl rfl (by (apply ResL.cons; exact Res.tmp rfl; apply ResL.cons; exact Res.tmp rfl; exact ResL.nil)) ?_ ⟨.slice po fm.length co, by rw [hE]; rfl, fun _ => ⟨ps, hps, gsD, segO, rfl, ?_, hD, hsm⟩, fun h => absurd hE h⟩
          · exact List.Sublist.append_left (List.sublist_append_left _ _) _
          · have hl := congrArg List.length hps
            rw [List.length_map, rdK, List.length_map, List.length_range] at hl
            rw [hl]
            exact hO
        · rw [if_pos (by simp [h0])] at hE
          (refine CW.seq ?_; refine CW.region ?_; apply LW.v0; rfl; rfl; apply ValP.lssF; rfl; rfl; omega; apply LW.nil; refine thenN ?_; refine CW.seq ?_; apply CW.condF; rfl; (with_reducible rfl); refine CW.exit ?_; refine thenE ?_; refine thenE ?_; refine blkE rfl ?_; refine thenN ?_; refine CW.seq ?_; refine CW.seq ?_; refine CW.region ?_; apply LW.v0; rfl; rfl; apply ValP.move; rfl; apply LW.v0; rfl; rfl; apply ValP.nilCheck; rfl; apply LW.v0; rfl; rfl; apply ValP.fieldAddr; rfl; rfl; apply LW.v0; rfl; rfl; apply ValP.fieldAddr; rfl; rfl; apply LW.load; rfl; rfl; apply Known.at; apply FsAt.app; apply FsAt.app; apply FsAt.tail; apply FsAt.head; exact Rd.one' rfl; apply LW.v0; rfl; rfl; apply ValP.move; rfl; apply LW.guardT'; rfl; rfl; (with_reducible rfl); apply LW.v0; rfl; rfl; apply ValP.move; rfl; apply LW.guardT'; rfl; rfl; (with_reducible rfl); apply LW.v0; rfl; rfl; apply ValP.nilCheck; rfl; apply LW.guardT'; rfl; rfl; (with_reducible rfl); apply LW.v0; rfl; rfl; apply ValP.fieldAddr; rfl; rfl; apply LW.guardT'; rfl; rfl; (with_reducible rfl); apply LW.load; rfl; rfl; apply Known.at; apply FsAt.app; apply FsAt.app; apply FsAt.tail; apply FsAt.head; exact Rd.one' rfl; apply LW.guardT'; rfl; rfl; (with_reducible rfl); apply LW.v0; rfl; rfl; apply ValP.nilCheck; rfl; apply LW.guardT'; rfl; rfl; (with_reducible rfl); apply LW.v0; rfl; rfl; apply ValP.fieldAddr; rfl; rfl; apply LW.guardT'; rfl; rfl; (with_reducible rfl); apply LW.load; rfl; rfl; apply Known.at; apply FsAt.app; apply FsAt.app; apply FsAt.tail; apply FsAt.tail; apply FsAt.head; exact Rd.one' rfl; apply LW.v0; rfl; rfl; apply ValP.pickF'; rfl; (with_reducible rfl); rfl; apply LW.v0; rfl; rfl; apply ValP.move; rfl; apply LW.guardT'; rfl; rfl; (with_reducible rfl); apply LW.v0; rfl; rfl; apply ValP.move; rfl; apply LW.guardT'; rfl; rfl; (with_reducible rfl); apply LW.v0; rfl; rfl; apply ValP.nilCheck; rfl; apply LW.guardT'; rfl; rfl; (with_reducible rfl); apply LW.v0; rfl; rfl; apply ValP.fieldAddr; rfl; rfl; apply LW.guardT'; rfl; rfl; (with_reducible rfl); apply LW.load; rfl; rfl; apply Known.at; apply FsAt.app; apply FsAt.app; apply FsAt.tail; apply FsAt.head; exact Rd.one' rfl; apply LW.guardT'; rfl; rfl; (with_reducible rfl); apply LW.v0; rfl; rfl; apply ValP.nilCheck; rfl; apply LW.guardT'; rfl; rfl; (with_reducible rfl); apply LW.v0; rfl; rfl; apply ValP.fieldAddr; rfl; rfl; apply LW.guardT'; rfl; rfl; (with_reducible rfl); apply LW.load; rfl; rfl; apply Known.at; apply FsAt.app; apply FsAt.app; apply FsAt.tail; apply FsAt.tail; apply FsAt.head; exact Rd.one' rfl; apply LW.guardT'; rfl; rfl; (with_reducible rfl); apply LW.v0; rfl; rfl; apply ValP.lenR; rfl; infer_instance; rfl; apply LW.guardT'; rfl; rfl; (with_reducible rfl); apply LW.v0; rfl; rfl; apply ValP.gtrT; rfl; rfl; omega; apply LW.v0; rfl; rfl; apply ValP.pickF'; rfl; (with_reducible rfl); rfl; apply LW.nil; refine thenN ?_; apply CW.condT; rfl; (with_reducible rfl); refine CW.seq ?_; refine CW.region ?_; apply LW.v0; rfl; rfl; apply ValP.assign; rfl; apply LW.v0; rfl; rfl; apply ValP.assign; rfl; apply LW.nil; refine thenN ?_; refine CW.ret ?_; refine thenR ?_)
          refine fin [] (.inl rfl) rfl rfl (by (apply ResL.cons; exact Res.tmp rfl; apply ResL.cons; exact Res.tmp rfl; exact ResL.nil)) (List.nil_sublist _) ⟨.slice none 0 0, by rw [hE]; rfl, fun h => ?_, fun _ => rfl⟩
          rw [hE] at h
          cases h
theorem Read_less (b : List UInt8) (fm : List Bool) (bv fv : Value) (w : World) (hb : RowAt w 1 bv b.length (ucs b)) (hf : RowAt w 1 fv fm.length (bls fm)) (h16 : fm.length ≤ 16) (h : b.length < 32 * fm.length) :
    Calls Try.prog 10 #[bv, fv] w (RetG w [] (ReadR b fm)) := by
  obtain ⟨p, c, rfl, hc, hm⟩ := hb.form
  obtain ⟨q, d, rfl, hd, hn⟩ := hf.form
  simp only [maxLen] at hm hn
  have hE : rdE b fm = 141 := by rw [rdE, if_neg (by omega), if_pos (by omega)]
  refine enter (args := [_, _]) _ [] [] Try.func10 rfl Try.ntmps10 rfl (by simp) .nil ?_
  (refine CW.seq ?_; refine CW.region ?_; apply LW.v0; rfl; rfl; apply ValP.assign; rfl; apply LW.v0; rfl; rfl; apply ValP.assign; rfl; apply LW.nil; refine thenN ?_; refine CW.seq ?_; refine CW.region ?_; apply LW.v0; rfl; rfl; apply ValP.move; rfl; apply LW.v0; rfl; rfl; apply ValP.lenR; rfl; infer_instance; rfl; apply LW.v0; rfl; rfl; apply ValP.mulZK; rfl; rfl; decide; omega; apply LW.v0; rfl; rfl; apply ValP.assign; rfl; apply LW.nil; refine thenN ?_; refine CW.seq ?_; refine CW.block ?_; refine CW.seq ?_; refine CW.region ?_; apply LW.v0; rfl; rfl; apply ValP.move; rfl; apply LW.v0; rfl; rfl; apply ValP.lenR; rfl; infer_instance; rfl; apply LW.v0; rfl; rfl; apply ValP.gtrF; rfl; rfl; omega; apply LW.v0; rfl; rfl; apply ValP.assign; rfl; apply LW.nil; refine thenN ?_; apply CW.condF; rfl; (with_reducible rfl); refine CW.seq ?_; refine CW.region ?_; apply LW.v0; rfl; rfl; apply ValP.move; rfl; apply LW.v0; rfl; rfl; apply ValP.lenR; rfl; infer_instance; rfl; apply LW.v0; rfl; rfl; apply ValP.move; rfl; apply LW.v0; rfl; rfl; apply ValP.lssT; rfl; rfl; omega; apply LW.v0; rfl; rfl; apply ValP.assign; rfl; apply LW.nil; refine thenN ?_; apply CW.condT; rfl; (with_reducible rfl); refine CW.seq ?_; refine CW.region ?_; apply LW.v0; rfl; rfl; apply ValP.assign; rfl; apply LW.v0; rfl; rfl; apply ValP.assign; rfl; apply LW.nil; refine thenN ?_; refine CW.ret ?_; refine blkR ?_; refine thenR ?_)
  refine fin [] (.inl rfl) rfl rfl (by (apply ResL.cons; exact Res.tmp rfl; apply ResL.cons; exact Res.tmp rfl; exact ResL.nil)) (List.nil_sublist _) ⟨.slice none 0 0, by rw [hE]; rfl, fun h => ?_, fun _ => rfl⟩
  rw [hE] at h
  cases h
theorem mulWrap {P : Program} {T ty : TypeId} {e : Env} {x y : Operand} {a b : Int} (hx : e.ev x = some (.int .i64 a)) (hy : e.ev y = some (.int .i64 b)) : ValP P e [] (.binOp .mul T x y ty) (.int .i64 (IntKind.i64.wrap (a * b))) :=
  ValP.arW (c := a * b) hx hy (by simp [Op.intArith]) (by simp [binOp_mul])
theorem Read_many (b : List UInt8) (fm : List Bool) (bv fv : Value) (w : World) (hb : RowAt w 1 bv b.length (ucs b)) (hf : RowAt w 1 fv fm.length (bls fm)) (h16 : 16 < fm.length) :
    Calls Try.prog 10 #[bv, fv] w (RetG w [] (ReadR b fm)) := by
  obtain ⟨p, c, rfl, hc, hm⟩ := hb.form
  obtain ⟨q, d, rfl, hd, hn⟩ := hf.form
  simp only [maxLen] at hm hn
  have hE : rdE b fm = 3 := by rw [rdE, if_pos h16]
  refine enter (args := [_, _]) _ [] [] Try.func10 rfl Try.ntmps10 rfl (by simp) .nil ?_
  (refine CW.seq ?_; refine CW.region ?_; apply LW.v0; rfl; rfl; apply ValP.assign; rfl; apply LW.v0; rfl; rfl; apply ValP.assign; rfl; apply LW.nil; refine thenN ?_; refine CW.seq ?_; refine CW.region ?_; apply LW.v0; rfl; rfl; apply ValP.move; rfl; apply LW.v0; rfl; rfl; apply ValP.lenR; rfl; infer_instance; rfl; apply LW.v0; rfl; rfl; apply mulWrap; rfl; rfl; apply LW.v0; rfl; rfl; apply ValP.assign; rfl; apply LW.nil; refine thenN ?_; refine CW.seq ?_; refine CW.block ?_; refine CW.seq ?_; refine CW.region ?_; apply LW.v0; rfl; rfl; apply ValP.move; rfl; apply LW.v0; rfl; rfl; apply ValP.lenR; rfl; infer_instance; rfl; apply LW.v0; rfl; rfl; apply ValP.gtrT; rfl; rfl; omega; apply LW.v0; rfl; rfl; apply ValP.assign; rfl; apply LW.nil; refine thenN ?_; apply CW.condT; rfl; (with_reducible rfl); refine CW.seq ?_; refine CW.region ?_; apply LW.v0; rfl; rfl; apply ValP.assign; rfl; apply LW.v0; rfl; rfl; apply ValP.assign; rfl; apply LW.nil; refine thenN ?_; refine CW.ret ?_; refine blkR ?_; refine thenR ?_)
  refine fin [] (.inl rfl) rfl rfl (by (apply ResL.cons; exact Res.tmp rfl; apply ResL.cons; exact Res.tmp rfl; exact ResL.nil)) (List.nil_sublist _) ⟨.slice none 0 0, by rw [hE]; rfl, fun h => ?_, fun _ => rfl⟩
  rw [hE] at h
  cases h
theorem Read_pack (b : List UInt8) (fm : List Bool) (bv fv : Value) (w : World) (hb : RowAt w 1 bv b.length (ucs b)) (hf : RowAt w 1 fv fm.length (bls fm)) :
    Calls Try.prog 10 #[bv, fv] w (RetG w [] (ReadR b fm)) := by
  rcases Nat.lt_or_ge 16 fm.length with h16 | h16
  · exact Read_many b fm bv fv w hb hf h16
  · rcases Nat.lt_or_ge b.length (32 * fm.length) with h | h
    · exact Read_less b fm bv fv w hb hf h16 h
    · exact Read_ok b fm bv fv w hb hf h16 h
end Go.Proofs.Ytailnglojnccnaa

/-
  Contracts of the pack's laws: does the layer do anything?
  Conditions: none.
-/
namespace Go.Proofs.Ytailnglojnccnaa
open Go Go.RowKit SL
set_option maxRecDepth 8000
set_option maxHeartbeats 4000000
set_option linter.unusedSimpArgs false
set_option linter.unusedVariables false
attribute [local irreducible] SL.CW SL.LW SL.DW Calls SL.Ret SL.RetG SL.beginQ SL.roundQ SL.rangeQ SL.inQ SL.RW SL.AnyW SL.thenQ SL.thenC SL.thenW SL.blkQ SL.finQ SL.ValP SL.NewP SL.SetP SL.CallP SL.Rd SL.Wr SL.Known
theorem LW.st {C : Cu} {ops : Array Oper} {Q : Post} {l : List Oper} {e : Env} {fs : Fs} (h : ∀ w, St C.w0 C.S fs w → LW C ops Q l e fs) : LW C ops Q l e fs := by
  unfold SL.LW at h ⊢
  exact fun a w hs => h w hs.st a w hs
/-- Lay's bytes, whatever parts. -/
theorem Lay_calls (l : List PartV) (v : Value) (w : World) (hv : PartsAt w v l) : Calls Try.prog 17 #[v] w (RetG w [] (fun v' gs => ∃ bv, v' = .tuple #[bv, .int .i64 (chkP l)] ∧ IsRow 5 1 bv (if chkP l = 0 then (layF l).length else 0) (ucs (if chkP l = 0 then layF l else [])) gs)) := by
  by_cases h : chkP l = 0
  · have := Lay_ok l v w hv h
    rw [h, if_pos rfl, if_pos rfl]
    exact this
  · rw [if_neg h, if_neg h]
    refine Calls.mono (Lay_bad l v w hv h) fun x w' hr => ?_
    unfold SL.Ret at hr
    unfold SL.RetG
    exact ⟨_, [], hr.1, ⟨.slice none 0 0, rfl, .nil⟩, hr.2, (fun p hp => by cases hp), .nil⟩
/-- The bytes of one Long part. -/
def wkB : List UInt8 := beb 32 32 ++ tlB [1, 2, 3]
theorem layF_one (p : PartV) (h : p.lg = true) : layF [p] = beb 32 32 ++ tlB p.db := by
  have h0 : pt [p] 0 = p := rfl
  have hl : (pt [p] 0).lg = true := h
  rw [layF, show ([p] : List PartV).length = 0 + 1 from rfl, hdK_long hl, behK_long hl, hdK_zero, behK_zero, atF_zero, h0]
  rfl
theorem wk_len : wkB.length = 96 := by decide +kernel
theorem wk_31 : wkB[31]? = some 32 := by decide +kernel
theorem wk_63 : wkB[63]? = some 3 := by decide +kernel
theorem wk_T : rdE wkB [true] = 0 ∧ rdK wkB [true] 1 = [(true, 0, [1, 2, 3])] := by decide +kernel
theorem wk_F : rdE wkB [false] = 141 := by decide +kernel
theorem one_part {w : World} {b : Nat} {p : PartV} {E : TypeId} {fr : Nat × Nat} (hb : w.heap[b]? = some (.cells (psa p) E fr)) (hs : p.wd < M256) (hd : RowAt w 1 p.dv p.db.length (ucs p.db)) : PartsAt w (.slice (some ⟨b, 0, none⟩) 1 1) [p] := by
  refine ⟨row_cells hb (by simp [psa]) (by simp [psc, wc]) (by decide), fun q hq => ?_, fun q hq => ?_⟩
  · rw [List.mem_singleton.1 hq]; exact hs
  · rw [List.mem_singleton.1 hq]; exact hd
theorem one_bool {w : World} {b : Nat} {x : Bool} {E : TypeId} {fr : Nat × Nat} (hb : w.heap[b]? = some (.cells #[.bool x] E fr)) : RowAt w 1 (.slice (some ⟨b, 0, none⟩) 1 1) [x].length (bls [x]) :=
  row_cells hb rfl rfl (by decide)
theorem st_us {w0 w : World} {S : List Nat} {fs gs : Fs} (hs : St w0 S fs w) (h : List.Sublist gs fs) : ∀ q ∈ gs, w.heap[q.1]? = some q.2 := fun q hq => (hs.own q (h.subset hq)).2
theorem wakes_calls (w : World) : Calls Try.prog 9 #[] w (Ret w (.bool true)) := by
  refine enter (args := []) _ [] [] Try.func9 rfl Try.ntmps9 rfl (by simp) .nil ?_
  (refine CW.seq ?_; refine CW.region ?_; apply LW.v0; rfl; rfl; apply ValP.assign; rfl; apply LW.nil; refine thenN ?_; refine CW.seq ?_; refine CW.region ?_)
  refine LW.n0 rfl rfl (NewP.buildSN (vs := [(0, .int .u8 1), (1, .int .u8 2), (2, .int .u8 3)]) (c := #[.int .u8 1, .int .u8 2, .int .u8 3]) inferInstance inferInstance (by (apply PartsOk.cons; rfl; apply PartsOk.cons; rfl; apply PartsOk.cons; rfl; exact PartsOk.nil)) rfl rfl (by kernel_rfl) (by kernel_rfl)) fun g => ?_
  refine LW.callR rfl rfl inferInstance (by (apply ArgsOk.cons; rfl; exact ArgsOk.nil)) (fun w hst => pBytes_calls [1, 2, 3] _ w (row_cells (cs := #[.int .u8 1, .int .u8 2, .int .u8 3]) (hst.own (g, _) (List.Mem.head _)).2 rfl rfl (by decide)) (by decide)) ?_
  rintro v4 gs4 ⟨dv, rfl, hrow4⟩
  (apply LW.layA; rfl; infer_instance; infer_instance; rfl; rfl; rfl; rfl; rfl; intro _)
  rename_i b10
  refine LW.callR rfl rfl inferInstance (by (apply ArgsOk.cons; rfl; exact ArgsOk.nil)) (fun w hst => Lay_calls [byP dv [1, 2, 3]] _ w (one_part (hst.own (b10, _) (List.Mem.head _)).2 (by decide : (0 : Nat) < M256) (hrow4.us (st_us hst (by (apply List.Sublist.cons; exact List.sublist_append_left _ _))) (List.Sublist.refl _)))) ?_
  rintro v5 gs5 ⟨bv, rfl, hrow5⟩
  have hchk : chkP [byP dv [1, 2, 3]] = 0 := rfl
  rw [hchk] at hrow5 ⊢
  rw [if_pos rfl, if_pos rfl, layF_one _ rfl] at hrow5
  replace hrow5 : IsRow 5 1 bv wkB.length (ucs wkB) gs5 := hrow5
  (apply LW.v0; rfl; rfl; apply ValP.move; rfl; apply LW.v0; rfl; rfl; apply ValP.extractN; rfl; rfl; apply LW.v0; rfl; rfl; apply ValP.extractN; rfl; rfl; apply LW.v0; rfl; rfl; apply ValP.assign; rfl; apply LW.v0; rfl; rfl; apply ValP.assign; rfl; apply LW.nil; refine thenN ?_; refine CW.seq ?_; refine CW.region ?_; apply LW.v0; rfl; rfl; apply ValP.move; rfl; apply LW.lay1; rfl; infer_instance; infer_instance; rfl; rfl; rfl; rfl; rfl; rfl; intro _)
  rename_i b16
  refine LW.callR rfl rfl inferInstance (by (apply ArgsOk.cons; rfl; apply ArgsOk.cons; rfl; exact ArgsOk.nil)) (fun w hst => Read_pack wkB [true] _ _ w (hrow5.us (st_us hst (by (apply List.Sublist.cons; exact List.sublist_append_left _ _))) (List.Sublist.refl _)) (one_bool (hst.own (b16, _) (by (exact List.Mem.head _))).2)) ?_
  rintro v6 gs6 ⟨ov, rfl, hov, _⟩
  obtain ⟨hE, hK⟩ := wk_T
  obtain ⟨ps, hps, gsD, segO, rfl, hO, hD, _⟩ := hov hE
  rw [hE, List.append_assoc]
  clear hov
  (apply LW.v0; rfl; rfl; apply ValP.move; rfl; apply LW.v0; rfl; rfl; apply ValP.extractN; rfl; rfl; apply LW.v0; rfl; rfl; apply ValP.extractN; rfl; rfl; apply LW.v0; rfl; rfl; apply ValP.assign; rfl; apply LW.v0; rfl; rfl; apply ValP.assign; rfl; apply LW.nil; refine thenN ?_; refine CW.seq ?_; refine CW.region ?_; apply LW.v0; rfl; rfl; apply ValP.move; rfl; apply LW.lay1; rfl; infer_instance; infer_instance; rfl; rfl; rfl; rfl; rfl; rfl; intro _)
  rename_i b22
  refine LW.callR rfl rfl inferInstance (by (apply ArgsOk.cons; rfl; apply ArgsOk.cons; rfl; exact ArgsOk.nil)) (fun w hst => Read_pack wkB [false] _ _ w (hrow5.us (st_us hst (by (apply List.Sublist.cons; apply List.sublist_append_of_sublist_right; apply List.sublist_append_of_sublist_right; apply List.Sublist.cons; exact List.sublist_append_left _ _))) (List.Sublist.refl _)) (one_bool (hst.own (b22, _) (by (exact List.Mem.head _))).2)) ?_
  rintro v7 gs7 ⟨ov2, rfl, _, _⟩
  rw [wk_F]
  obtain ⟨p1, rfl, hp1⟩ : ∃ p1, ps = [p1] ∧ dat p1 = (true, 0, [1, 2, 3]) := by
    rw [show ([true] : List Bool).length = 1 from rfl, hK] at hps
    rcases ps with _ | ⟨p1, _ | ⟨p2, t⟩⟩
    · simp at hps
    · exact ⟨p1, rfl, by simpa using hps⟩
    · simp at hps
  have hdb : p1.db = [1, 2, 3] := congrArg (fun x => x.2.2) hp1
  refine LW.st fun w' hst => ?_
  obtain ⟨q1, cq, hq1, _, _⟩ := (hD w' (st_us hst (by (apply List.sublist_append_of_sublist_right; apply List.Sublist.cons; exact List.sublist_append_left _ _))) p1 (List.mem_singleton.2 rfl)).form
  clear hst w'
  rw [hdb] at hq1
  replace hO : IsRow 39 6 ov 1 (psc p1 ++ []) segO := hO
  obtain ⟨o1, oc, rfl⟩ := hO.form
  obtain ⟨g6, cur6, rfl, rfl, _, _, _, ht6⟩ := hO.pos (by decide)
  have hwl := wk_len
  obtain ⟨o5, oc5, rfl⟩ := hrow5.form
  obtain ⟨g5, cur5, rfl, rfl, _, _, _, ht5⟩ := hrow5.pos (by omega)
  have hr31 : Rd Try.prog 5 (.cells cur5 5 (0, 0)) (0 + 31 * 1) (.int .u8 32) := Rd.elem1 (by rw [List.drop_zero]; exact ht5) (ucs_one _) wk_31 rfl
  have hr63 : Rd Try.prog 5 (.cells cur5 5 (0, 0)) (0 + 63 * 1) (.int .u8 3) := Rd.elem1 (by rw [List.drop_zero]; exact ht5) (ucs_one _) wk_63 rfl
  have hrdv : Rd Try.prog 25 (.cells cur6 39 (0, 0)) (0 + 0 * 6 + 5) (.slice q1 3 cq) := Rd.one (by
    have h1 : (cur6.toList.take (1 * 6))[5]? = (psc p1 ++ [])[5]? := by rw [ht6]
    rw [List.getElem?_take, if_pos (by decide)] at h1
    rw [← Array.getElem?_toList, show 0 + 0 * 6 + 5 = 5 from rfl, h1]
    exact congrArg some hq1)
  simp only [List.cons_append, List.nil_append]
  (apply LW.v0; rfl; rfl; apply ValP.move; rfl; apply LW.v0; rfl; rfl; apply ValP.extractN; rfl; rfl; apply LW.v0; rfl; rfl; apply ValP.extractN; rfl; rfl; apply LW.v0; rfl; rfl; apply ValP.assign; rfl; apply LW.v0; rfl; rfl; apply ValP.assign; rfl; apply LW.nil; refine thenN ?_; refine CW.seq ?_; refine CW.region ?_; apply LW.v0; rfl; rfl; apply ValP.move; rfl; apply LW.v0; rfl; rfl; apply ValP.eqT; rfl; rfl; omega; apply LW.v0; rfl; rfl; apply ValP.move; rfl; apply LW.guardT'; rfl; rfl; (with_reducible rfl); apply LW.v0; rfl; rfl; apply ValP.move; rfl; apply LW.guardT'; rfl; rfl; (with_reducible rfl); apply LW.v0; rfl; rfl; apply ValP.eqT; rfl; rfl; omega; apply LW.v0; rfl; rfl; apply ValP.pickT'; rfl; (with_reducible rfl); rfl; apply LW.v0; rfl; rfl; apply ValP.move; rfl; apply LW.guardT'; rfl; rfl; (with_reducible rfl); apply LW.v0; rfl; rfl; apply ValP.move; rfl; apply LW.guardT'; rfl; rfl; (with_reducible rfl); apply LW.v0; rfl; rfl; apply ValP.eqT; rfl; rfl; omega; apply LW.v0; rfl; rfl; apply ValP.pickT'; rfl; (with_reducible rfl); rfl; apply LW.v0; rfl; rfl; apply ValP.move; rfl; apply LW.guardT'; rfl; rfl; (with_reducible rfl); apply LW.v0; rfl; rfl; apply ValP.move; rfl; apply LW.guardT'; rfl; rfl; (with_reducible rfl); apply LW.v0; rfl; rfl; apply ValP.lenR; rfl; infer_instance; rfl; apply LW.guardT'; rfl; rfl; (with_reducible rfl); apply LW.v0; rfl; rfl; apply ValP.eqT; rfl; rfl; omega; apply LW.v0; rfl; rfl; apply ValP.pickT'; rfl; (with_reducible rfl); rfl; apply LW.v0; rfl; rfl; apply ValP.move; rfl; apply LW.guardT'; rfl; rfl; (with_reducible rfl); apply LW.v0; rfl; rfl; apply ValP.move; rfl; apply LW.guardT'; rfl; rfl; (with_reducible rfl); apply LW.v0; rfl; rfl; apply ValP.indexAddrSL; rfl; rfl; decide; omega; apply LW.guardT'; rfl; rfl; (with_reducible rfl); apply LW.load; rfl; rfl; apply Known.at; apply FsAt.app; apply FsAt.tail; apply FsAt.app; apply FsAt.tail; apply FsAt.tail; apply FsAt.head; assumption; apply LW.guardT'; rfl; rfl; (with_reducible rfl); apply LW.v0; rfl; rfl; apply ValP.eqT; rfl; rfl; omega; apply LW.v0; rfl; rfl; apply ValP.pickT'; rfl; (with_reducible rfl); rfl; apply LW.v0; rfl; rfl; apply ValP.move; rfl; apply LW.guardT'; rfl; rfl; (with_reducible rfl); apply LW.v0; rfl; rfl; apply ValP.move; rfl; apply LW.guardT'; rfl; rfl; (with_reducible rfl); apply LW.v0; rfl; rfl; apply ValP.indexAddrSL; rfl; rfl; decide; omega; apply LW.guardT'; rfl; rfl; (with_reducible rfl); apply LW.load; rfl; rfl; apply Known.at; apply FsAt.app; apply FsAt.tail; apply FsAt.app; apply FsAt.tail; apply FsAt.tail; apply FsAt.head; assumption; apply LW.guardT'; rfl; rfl; (with_reducible rfl); apply LW.v0; rfl; rfl; apply ValP.eqT; rfl; rfl; omega; apply LW.v0; rfl; rfl; apply ValP.pickT'; rfl; (with_reducible rfl); rfl; apply LW.v0; rfl; rfl; apply ValP.move; rfl; apply LW.guardT'; rfl; rfl; (with_reducible rfl); apply LW.v0; rfl; rfl; apply ValP.move; rfl; apply LW.guardT'; rfl; rfl; (with_reducible rfl); apply LW.v0; rfl; rfl; apply ValP.lenR; rfl; infer_instance; rfl; apply LW.guardT'; rfl; rfl; (with_reducible rfl); apply LW.v0; rfl; rfl; apply ValP.eqT; rfl; rfl; omega; apply LW.v0; rfl; rfl; apply ValP.pickT'; rfl; (with_reducible rfl); rfl; apply LW.v0; rfl; rfl; apply ValP.move; rfl; apply LW.guardT'; rfl; rfl; (with_reducible rfl); apply LW.v0; rfl; rfl; apply ValP.move; rfl; apply LW.guardT'; rfl; rfl; (with_reducible rfl); apply LW.v0; rfl; rfl; apply ValP.indexAddrSL; rfl; rfl; decide; omega; apply LW.guardT'; rfl; rfl; (with_reducible rfl); apply LW.v0; rfl; rfl; apply ValP.fieldAddr; rfl; rfl; apply LW.guardT'; rfl; rfl; (with_reducible rfl); apply LW.load; rfl; rfl; apply Known.at; apply FsAt.app; apply FsAt.tail; apply FsAt.app; apply FsAt.head; assumption; apply LW.guardT'; rfl; rfl; (with_reducible rfl); apply LW.v0; rfl; rfl; apply ValP.lenR; rfl; infer_instance; rfl; apply LW.guardT'; rfl; rfl; (with_reducible rfl); apply LW.v0; rfl; rfl; apply ValP.eqT; rfl; rfl; omega; apply LW.v0; rfl; rfl; apply ValP.pickT'; rfl; (with_reducible rfl); rfl; apply LW.v0; rfl; rfl; apply ValP.assign; rfl; apply LW.nil; refine thenN ?_; refine CW.ret ?_)
  (apply finR; exact .inl rfl; rfl; rfl; rfl; apply ResL.cons; exact Res.tmp rfl; exact ResL.nil)
  rfl
end Go.Proofs.Ytailnglojnccnaa

/-
  Contracts of the pack's references: which bytes, and which parts, are the same.
  Conditions: none.
-/
namespace Go.Proofs.Ytailnglojnccnaa
open Go Go.RowKit SL
set_option maxRecDepth 8000
set_option maxHeartbeats 4000000
set_option linter.unusedSimpArgs false
set_option linter.unusedVariables false
attribute [local irreducible] SL.CW SL.LW SL.DW Calls SL.Ret SL.RetG SL.beginQ SL.roundQ SL.rangeQ SL.inQ SL.RW SL.AnyW SL.thenQ SL.thenC SL.thenW SL.blkQ SL.finQ SL.ValP SL.NewP SL.SetP SL.CallP SL.Rd SL.Wr SL.Known
theorem boolNeT' {P : Program} {T ty : TypeId} {e : Env} {x y : Operand} {a b : Bool} [UnI P T .bool] (hx : e.ev x = some (.bool a)) (hy : e.ev y = some (.bool b)) (h : a ≠ b) : ValP P e [] (.binOp .neq T x y ty) (.bool true) := by
  have := ValP.boolNe (P := P) (T := T) (ty := ty) hx hy; rwa [show (a != b) = true by simpa using h] at this
theorem rSameB_calls (a b : List UInt8) (va vb : Value) (w : World) (ha : RowAt w 1 va a.length (ucs a)) (hb : RowAt w 1 vb b.length (ucs b)) : Calls Try.prog 29 #[va, vb] w (Ret w (.bool (decide (a = b)))) := by
  obtain ⟨p, c, rfl, hc, hm⟩ := ha.form
  obtain ⟨q, d, rfl, hd, hn⟩ := hb.form
  simp only [maxLen] at hm hn
  by_cases hll : a.length = b.length
  · refine enter (args := [_, _]) _ [] [] Try.func29 rfl Try.ntmps29 rfl (by simp) .nil ?_
    (refine CW.seq ?_; refine CW.region ?_; apply LW.v0; rfl; rfl; apply ValP.assign; rfl; apply LW.nil; refine thenN ?_; refine CW.seq ?_; refine CW.seq ?_; refine CW.region ?_; apply LW.v0; rfl; rfl; apply ValP.move; rfl; apply LW.v0; rfl; rfl; apply ValP.lenR; rfl; infer_instance; rfl; apply LW.v0; rfl; rfl; apply ValP.move; rfl; apply LW.v0; rfl; rfl; apply ValP.lenR; rfl; infer_instance; rfl; apply LW.v0; rfl; rfl; apply ValP.neF; rfl; rfl; omega; apply LW.nil; refine thenN ?_; apply CW.condF; rfl; (with_reducible rfl); refine CW.skip ?_; refine thenN ?_; refine CW.seq ?_; refine CW.seq ?_; refine CW.region ?_; apply LW.v0; rfl; rfl; apply ValP.move; rfl; apply LW.v0; rfl; rfl; apply ValP.lenR; rfl; infer_instance; rfl; apply LW.v0; rfl; rfl; apply ValP.move; rfl; apply LW.nil; refine thenN ?_; refine CW.block ?_)
    refine CW.loop (fun k : Nat => ([(13, .int .i64 (k : Int)), (12, .int .i64 (a.length : Int)), (0, .slice p a.length c), (1, .slice q b.length d)], []))
      (fun k => k ≤ a.length ∧ a.take k = b.take k) (fun k => a.length - k) 0 ⟨Nat.zero_le _, rfl⟩ ⟨rfl, rfl, rfl, rfl, trivial⟩ (List.nil_sublist _) ?_
    rintro k ⟨hk, ht⟩
    dsimp only at hk ht ⊢
    rcases Nat.lt_or_ge k a.length with hlt | hge
    · have hlt2 : k < b.length := by omega
      obtain ⟨b1, off1, c', cs1, E1, fr1, heq, hb1, hx1⟩ := ha.pos (by omega)
      cases heq
      obtain ⟨b2, off2, c'', cs2, E2, fr2, heq, hb2, hx2⟩ := hb.pos (by omega)
      cases heq
      obtain ⟨u, hu⟩ : ∃ u, u = a[k] := ⟨_, rfl⟩
      obtain ⟨v, hv⟩ : ∃ v, v = b[k] := ⟨_, rfl⟩
      have hrd1 : Rd Try.prog 5 (.cells cs1 E1 fr1) (off1 + k * 1) (.int .u8 (u.toNat : Int)) := Rd.elem1 hx1 (ucs_one a) (by rw [hu]; exact List.getElem?_eq_getElem hlt) rfl
      have hrd2 : Rd Try.prog 5 (.cells cs2 E2 fr2) (off2 + k * 1) (.int .u8 (v.toNat : Int)) := Rd.elem1 hx2 (ucs_one b) (by rw [hv]; exact List.getElem?_eq_getElem hlt2) rfl
      by_cases huv : u = v
      · have hn : u.toNat = v.toNat := by rw [huv]
        (refine CW.seq ?_; refine CW.region ?_; apply LW.v0; rfl; rfl; apply ValP.lssT; rfl; rfl; omega; apply LW.nil; refine thenN ?_; refine CW.seq ?_; apply CW.condT; rfl; (with_reducible rfl); refine CW.skip ?_; refine thenN ?_; refine CW.seq ?_; refine CW.block ?_; refine CW.seq ?_; refine CW.region ?_; apply LW.v0; rfl; rfl; apply ValP.move; rfl; apply LW.v0; rfl; rfl; apply ValP.assign; rfl; apply LW.nil; refine thenN ?_; refine CW.seq ?_; apply CW.pre; refine AnyW.any 8 mixed (by decide +kernel) ?_; (try simp only [tsOf_cons, tsOf_nil, tsOf_app]); apply DW.v0; rfl; rfl; rfl; exact WantT.none; rfl; apply ValP.move; rfl; apply DW.v0; rfl; rfl; rfl; exact WantT.none; rfl; apply ValP.move; rfl; apply DW.v0; rfl; rfl; rfl; exact WantT.none; rfl; apply ValP.indexAddrS; rfl; rfl; rfl; omega; apply DW.loadX; rfl; rfl; rfl; exact WantT.none; rfl; assumption; simp; assumption; apply DW.v0; rfl; rfl; rfl; exact WantT.none; rfl; apply ValP.move; rfl; apply DW.v0; rfl; rfl; rfl; exact WantT.none; rfl; apply ValP.move; rfl; apply DW.v0; rfl; rfl; rfl; exact WantT.none; rfl; apply ValP.indexAddrS; rfl; rfl; rfl; omega; apply DW.loadX; rfl; rfl; rfl; exact WantT.none; rfl; assumption; simp; assumption; apply DW.nil; simp only [fsOf_cons, fsOf_nil, fsOf_app, fsOf_tsOf, fsOf_new]; apply LW.v0; rfl; rfl; apply ValP.neF; rfl; rfl; omega; apply LW.nil; refine thenN ?_; apply CW.condF; rfl; (with_reducible rfl); refine CW.skip ?_; refine blkN ?_; refine thenN ?_; refine CW.region ?_; apply LW.v0; rfl; rfl; apply ValP.addZL; rfl; rfl; decide; omega; apply LW.v0; rfl; rfl; apply ValP.move; rfl; apply LW.nil)
        apply thenX
        refine ⟨rfl, k + 1, ⟨hlt, ?_⟩, by omega, ⟨rfl, rfl, rfl, rfl, trivial⟩, List.nil_sublist _⟩
        rw [List.take_succ_eq_append_getElem hlt, List.take_succ_eq_append_getElem hlt2, ht, ← hu, ← hv, huv]
      · have hn : u.toNat ≠ v.toNat := fun h => huv (UInt8.toNat_inj.1 h)
        have hne : a ≠ b := fun h => huv (by rw [hu, hv]; congr 1)
        rw [decide_eq_false hne]
        (refine CW.seq ?_; refine CW.region ?_; apply LW.v0; rfl; rfl; apply ValP.lssT; rfl; rfl; omega; apply LW.nil; refine thenN ?_; refine CW.seq ?_; apply CW.condT; rfl; (with_reducible rfl); refine CW.skip ?_; refine thenN ?_; refine CW.seq ?_; refine CW.block ?_; refine CW.seq ?_; refine CW.region ?_; apply LW.v0; rfl; rfl; apply ValP.move; rfl; apply LW.v0; rfl; rfl; apply ValP.assign; rfl; apply LW.nil; refine thenN ?_; refine CW.seq ?_; apply CW.pre; refine AnyW.any 8 mixed (by decide +kernel) ?_; (try simp only [tsOf_cons, tsOf_nil, tsOf_app]); apply DW.v0; rfl; rfl; rfl; exact WantT.none; rfl; apply ValP.move; rfl; apply DW.v0; rfl; rfl; rfl; exact WantT.none; rfl; apply ValP.move; rfl; apply DW.v0; rfl; rfl; rfl; exact WantT.none; rfl; apply ValP.indexAddrS; rfl; rfl; rfl; omega; apply DW.loadX; rfl; rfl; rfl; exact WantT.none; rfl; assumption; simp; assumption; apply DW.v0; rfl; rfl; rfl; exact WantT.none; rfl; apply ValP.move; rfl; apply DW.v0; rfl; rfl; rfl; exact WantT.none; rfl; apply ValP.move; rfl; apply DW.v0; rfl; rfl; rfl; exact WantT.none; rfl; apply ValP.indexAddrS; rfl; rfl; rfl; omega; apply DW.loadX; rfl; rfl; rfl; exact WantT.none; rfl; assumption; simp; assumption; apply DW.nil; simp only [fsOf_cons, fsOf_nil, fsOf_app, fsOf_tsOf, fsOf_new]; apply LW.v0; rfl; rfl; apply ValP.neT; rfl; rfl; omega; apply LW.nil; refine thenN ?_; apply CW.condT; rfl; (with_reducible rfl); refine CW.seq ?_; refine CW.region ?_; apply LW.v0; rfl; rfl; apply ValP.assign; rfl; apply LW.nil; refine thenN ?_; refine CW.ret ?_; refine blkR ?_; refine thenR ?_; refine thenR ?_; refine blkR ?_; refine thenR ?_)
        (apply finR; exact .inl rfl; rfl; rfl; rfl; apply ResL.cons; exact Res.tmp rfl; exact ResL.nil)
        rfl
    · obtain rfl : k = a.length := by omega
      have he : a = b := by rwa [List.take_length, hll, List.take_length] at ht
      rw [decide_eq_true he]
      (refine CW.seq ?_; refine CW.region ?_; apply LW.v0; rfl; rfl; apply ValP.lssF; rfl; rfl; omega; apply LW.nil; refine thenN ?_; refine CW.seq ?_; apply CW.condF; rfl; (with_reducible rfl); refine CW.exit ?_; refine thenE ?_; refine thenE ?_; refine blkE rfl ?_; refine thenN ?_; refine CW.seq ?_; refine CW.region ?_; apply LW.v0; rfl; rfl; apply ValP.assign; rfl; apply LW.nil; refine thenN ?_; refine CW.ret ?_)
      (apply finR; exact .inl rfl; rfl; rfl; rfl; apply ResL.cons; exact Res.tmp rfl; exact ResL.nil)
      rfl
  · rw [decide_eq_false (fun h => hll (by rw [h]))]
    refine enter (args := [_, _]) _ [] [] Try.func29 rfl Try.ntmps29 rfl (by simp) .nil ?_
    (refine CW.seq ?_; refine CW.region ?_; apply LW.v0; rfl; rfl; apply ValP.assign; rfl; apply LW.nil; refine thenN ?_; refine CW.seq ?_; refine CW.seq ?_; refine CW.region ?_; apply LW.v0; rfl; rfl; apply ValP.move; rfl; apply LW.v0; rfl; rfl; apply ValP.lenR; rfl; infer_instance; rfl; apply LW.v0; rfl; rfl; apply ValP.move; rfl; apply LW.v0; rfl; rfl; apply ValP.lenR; rfl; infer_instance; rfl; apply LW.v0; rfl; rfl; apply ValP.neT; rfl; rfl; omega; apply LW.nil; refine thenN ?_; apply CW.condT; rfl; (with_reducible rfl); refine CW.seq ?_; refine CW.region ?_; apply LW.v0; rfl; rfl; apply ValP.assign; rfl; apply LW.nil; refine thenN ?_; refine CW.ret ?_; refine thenR ?_)
    (apply finR; exact .inl rfl; rfl; rfl; rfl; apply ResL.cons; exact Res.tmp rfl; exact ResL.nil)
    rfl
theorem sameL_iff : ∀ (l m : List PartV), sameL l m = true ↔ l.length = m.length ∧ ∀ j (h1 : j < l.length) (h2 : j < m.length), sameP l[j] m[j] = true
  | [], [] => by simp [sameL]
  | [], _ :: _ => by simp [sameL]
  | _ :: _, [] => by simp [sameL]
  | a :: l, b :: m => by
    rw [sameL, Bool.and_eq_true, sameL_iff l m]
    constructor
    · rintro ⟨h1, h2, h3⟩
      refine ⟨by simp [h2], fun j g1 g2 => ?_⟩
      cases j with
      | zero => exact h1
      | succ j => exact h3 j (by simpa using g1) (by simpa using g2)
    · rintro ⟨h2, h3⟩
      exact ⟨h3 0 (by simp) (by simp), by simpa using h2, fun j g1 g2 => h3 (j + 1) (by simpa using g1) (by simpa using g2)⟩
theorem part_rds {w : World} {v : Value} {l : List PartV} (h : PartsAt w v l) (i : Nat) (hi : i < l.length) : ∃ b off c cs E fr, v = .slice (some ⟨b, off, none⟩) l.length c ∧ w.heap[b]? = some (.cells cs E fr) ∧ Rd Try.prog 4 (.cells cs E fr) (off + i * 6 + 0) (.bool l[i].lg) ∧
    Rd Try.prog 37 (.cells cs E fr) (off + i * 6 + 1) (wv l[i].wd) ∧ Rd Try.prog 25 (.cells cs E fr) (off + i * 6 + 5) l[i].dv := by
  obtain ⟨b, off, c, cs, E, fr, heq, hb, hx⟩ := h.row.pos (by omega)
  have hi' : l[i]? = some l[i] := List.getElem?_eq_getElem hi
  refine ⟨b, off, c, cs, E, fr, heq, hb, Rd.one (by rw [Nat.add_zero]; exact cut_get hx (by have := flat_get (psc_len l) hi' (j := 0) (v := .bool l[i].lg) rfl; simpa using this)), ?_, Rd.one (by rw [Nat.add_assoc]; exact cut_get hx (flat_get (psc_len l) hi' (j := 5) rfl))⟩
  refine Rd.part (cs := (wc l[i].wd).toList) rfl fun j u hj => ?_
  rw [Nat.add_assoc, Nat.add_assoc]
  refine cut_get hx (flat_get (psc_len l) hi' (j := 1 + j) ?_)
  rw [psc, Nat.add_comm 1 j, List.getElem?_cons_succ, List.getElem?_append_left (List.getElem?_eq_some_iff.1 hj).1]
  exact hj
theorem rSame_calls (l m : List PartV) (v u : Value) (w : World) (hv : PartsAt w v l) (hu : PartsAt w u m) : Calls Try.prog 12 #[v, u] w (Ret w (.bool (sameL l m))) := by
  obtain ⟨p, c, rfl, hc, hm⟩ := hv.row.form
  obtain ⟨q, d, rfl, hd, hn⟩ := hu.row.form
  simp only [maxLen] at hm hn
  by_cases hll : l.length = m.length
  · refine enter (args := [_, _]) _ [] [] Try.func12 rfl Try.ntmps12 rfl (by simp) .nil ?_
    (refine CW.seq ?_; refine CW.region ?_; apply LW.v0; rfl; rfl; apply ValP.assign; rfl; apply LW.nil; refine thenN ?_; refine CW.seq ?_; refine CW.seq ?_; refine CW.region ?_; apply LW.v0; rfl; rfl; apply ValP.move; rfl; apply LW.v0; rfl; rfl; apply ValP.lenR; rfl; infer_instance; rfl; apply LW.v0; rfl; rfl; apply ValP.move; rfl; apply LW.v0; rfl; rfl; apply ValP.lenR; rfl; infer_instance; rfl; apply LW.v0; rfl; rfl; apply ValP.neF; rfl; rfl; omega; apply LW.nil; refine thenN ?_; apply CW.condF; rfl; (with_reducible rfl); refine CW.skip ?_; refine thenN ?_; refine CW.seq ?_; refine CW.seq ?_; refine CW.region ?_; apply LW.v0; rfl; rfl; apply ValP.move; rfl; apply LW.v0; rfl; rfl; apply ValP.lenR; rfl; infer_instance; rfl; apply LW.v0; rfl; rfl; apply ValP.move; rfl; apply LW.nil; refine thenN ?_; refine CW.block ?_)
    refine CW.loop (fun k : Nat => ([(13, .int .i64 (k : Int)), (12, .int .i64 (l.length : Int)), (0, .slice p l.length c), (1, .slice q m.length d)], []))
      (fun k => k ≤ l.length ∧ ∀ j (_ : j < k) (h1 : j < l.length) (h2 : j < m.length), sameP l[j] m[j] = true) (fun k => l.length - k) 0 ⟨Nat.zero_le _, fun j h => by omega⟩ ⟨rfl, rfl, rfl, rfl, trivial⟩ (List.nil_sublist _) ?_
    rintro k ⟨hk, ht⟩
    dsimp only at hk ht ⊢
    rcases Nat.lt_or_ge k l.length with hlt | hge
    · have hlt2 : k < m.length := by omega
      obtain ⟨b1, off1, c', cs1, E1, fr1, heq, hb1, hr10, hr11, hr12⟩ := part_rds hv k hlt
      cases heq
      obtain ⟨b2, off2, c'', cs2, E2, fr2, heq, hb2, hr20, hr21, hr22⟩ := part_rds hu k hlt2
      cases heq
      obtain ⟨P1, hP1⟩ : ∃ P1, l[k] = P1 := ⟨_, rfl⟩
      obtain ⟨P2, hP2⟩ : ∃ P2, m[k] = P2 := ⟨_, rfl⟩
      have hw1 := hv.small _ (List.getElem_mem hlt)
      have hw2 := hu.small _ (List.getElem_mem hlt2)
      have hd1 := hv.data _ (List.getElem_mem hlt)
      have hd2 := hu.data _ (List.getElem_mem hlt2)
      rw [hP1] at hr10 hr11 hr12 hw1 hd1
      rw [hP2] at hr20 hr21 hr22 hw2 hd2
      have hbad : sameP P1 P2 = false → sameL l m = false := fun h => by
        cases h5 : sameL l m with
        | false => rfl
        | true => have := ((sameL_iff l m).1 h5).2 k hlt hlt2; rw [hP1, hP2, h] at this; cases this
      by_cases h1 : P1.lg = P2.lg
      · by_cases h2 : P1.wd = P2.wd
        · by_cases h3 : P1.db = P2.db
          · have hE : ∀ w' {fs}, St w [] fs w' → Calls Try.prog 29 #[P1.dv, P2.dv] w' (Ret w' (.bool true)) := fun w' fs hst => by
              have := rSameB_calls P1.db P2.db _ _ w' (hd1.st hst) (hd2.st hst)
              rwa [decide_eq_true h3] at this
            (refine CW.seq ?_; refine CW.region ?_; apply LW.v0; rfl; rfl; apply ValP.lssT; rfl; rfl; omega; apply LW.nil; refine thenN ?_; refine CW.seq ?_; apply CW.condT; rfl; (with_reducible rfl); refine CW.skip ?_; refine thenN ?_; refine CW.seq ?_; refine CW.block ?_; refine CW.seq ?_; refine CW.region ?_; apply LW.v0; rfl; rfl; apply ValP.move; rfl; apply LW.v0; rfl; rfl; apply ValP.assign; rfl; apply LW.nil; refine thenN ?_; refine CW.seq ?_; apply CW.pre; refine AnyW.any 35 mixed (by decide +kernel) ?_; (try simp only [tsOf_cons, tsOf_nil, tsOf_app]); apply DW.v0; rfl; rfl; rfl; exact WantT.none; rfl; apply ValP.move; rfl; apply DW.v0; rfl; rfl; rfl; exact WantT.none; rfl; apply ValP.move; rfl; apply DW.v0; rfl; rfl; rfl; exact WantT.none; rfl; apply ValP.indexAddrS; rfl; rfl; rfl; omega; apply DW.v0; rfl; rfl; rfl; exact WantT.none; rfl; apply ValP.fieldAddr; rfl; rfl; apply DW.loadX; rfl; rfl; rfl; exact WantT.none; rfl; assumption; simp; assumption; apply DW.v0; rfl; rfl; rfl; exact WantT.none; rfl; apply ValP.move; rfl; apply DW.v0; rfl; rfl; rfl; exact WantT.none; rfl; apply ValP.move; rfl; apply DW.v0; rfl; rfl; rfl; exact WantT.none; rfl; apply ValP.indexAddrS; rfl; rfl; rfl; omega; apply DW.v0; rfl; rfl; rfl; exact WantT.none; rfl; apply ValP.fieldAddr; rfl; rfl; apply DW.loadX; rfl; rfl; rfl; exact WantT.none; rfl; assumption; simp; assumption; apply DW.v0; rfl; rfl; rfl; exact WantT.none; rfl; apply ValP.boolNeF; rfl; rfl; assumption; apply DW.v0; rfl; rfl; rfl; exact WantT.none; rfl; apply ValP.move; rfl; apply DW.v0; rfl; rfl; rfl; apply wantYes; rfl; rfl; (with_reducible rfl); rfl; apply ValP.move; rfl; apply DW.v0; rfl; rfl; rfl; apply wantYes; rfl; rfl; (with_reducible rfl); rfl; apply ValP.move; rfl; apply DW.v0; rfl; rfl; rfl; apply wantYes; rfl; rfl; (with_reducible rfl); rfl; apply ValP.indexAddrS; rfl; rfl; rfl; omega; apply DW.v0; rfl; rfl; rfl; apply wantYes; rfl; rfl; (with_reducible rfl); rfl; apply ValP.fieldAddr; rfl; rfl; apply DW.loadX; rfl; rfl; rfl; apply wantYes; rfl; rfl; (with_reducible rfl); rfl; assumption; simp; assumption; apply DW.v0; rfl; rfl; rfl; apply wantYes; rfl; rfl; (with_reducible rfl); rfl; apply ValP.move; rfl; apply DW.v0; rfl; rfl; rfl; apply wantYes; rfl; rfl; (with_reducible rfl); rfl; apply ValP.move; rfl; apply DW.v0; rfl; rfl; rfl; apply wantYes; rfl; rfl; (with_reducible rfl); rfl; apply ValP.indexAddrS; rfl; rfl; rfl; omega; apply DW.v0; rfl; rfl; rfl; apply wantYes; rfl; rfl; (with_reducible rfl); rfl; apply ValP.fieldAddr; rfl; rfl; apply DW.loadX; rfl; rfl; rfl; apply wantYes; rfl; rfl; (with_reducible rfl); rfl; assumption; simp; assumption; apply DW.v0; rfl; rfl; rfl; apply wantYes; rfl; rfl; (with_reducible rfl); rfl; apply ValP.neWF; rfl; rfl; assumption; apply DW.v0; rfl; rfl; rfl; exact WantT.none; rfl; apply ValP.pickF'; rfl; (with_reducible rfl); rfl; apply DW.v0; rfl; rfl; rfl; exact WantT.none; rfl; apply ValP.move; rfl; apply DW.v0; rfl; rfl; rfl; apply wantYes; rfl; rfl; (with_reducible rfl); rfl; apply ValP.move; rfl; apply DW.v0; rfl; rfl; rfl; apply wantYes; rfl; rfl; (with_reducible rfl); rfl; apply ValP.move; rfl; apply DW.v0; rfl; rfl; rfl; apply wantYes; rfl; rfl; (with_reducible rfl); rfl; apply ValP.indexAddrS; rfl; rfl; rfl; omega; apply DW.v0; rfl; rfl; rfl; apply wantYes; rfl; rfl; (with_reducible rfl); rfl; apply ValP.fieldAddr; rfl; rfl; apply DW.loadX; rfl; rfl; rfl; apply wantYes; rfl; rfl; (with_reducible rfl); rfl; assumption; simp; assumption; apply DW.v0; rfl; rfl; rfl; apply wantYes; rfl; rfl; (with_reducible rfl); rfl; apply ValP.move; rfl; apply DW.v0; rfl; rfl; rfl; apply wantYes; rfl; rfl; (with_reducible rfl); rfl; apply ValP.move; rfl; apply DW.v0; rfl; rfl; rfl; apply wantYes; rfl; rfl; (with_reducible rfl); rfl; apply ValP.indexAddrS; rfl; rfl; rfl; omega; apply DW.v0; rfl; rfl; rfl; apply wantYes; rfl; rfl; (with_reducible rfl); rfl; apply ValP.fieldAddr; rfl; rfl; apply DW.loadX; rfl; rfl; rfl; apply wantYes; rfl; rfl; (with_reducible rfl); rfl; assumption; simp; assumption; apply DW.nil; simp only [fsOf_cons, fsOf_nil, fsOf_app, fsOf_tsOf, fsOf_new]; apply LW.guardT'; rfl; rfl; (with_reducible rfl); apply LW.callE; rfl; rfl; infer_instance; apply ArgsOk.cons; rfl; apply ArgsOk.cons; rfl; exact ArgsOk.nil; intro w _; exact hE w (by assumption); apply LW.guardT'; rfl; rfl; (with_reducible rfl); apply LW.v0; rfl; rfl; apply ValP.notT; rfl; (with_reducible rfl); apply LW.v0; rfl; rfl; apply ValP.pickF'; rfl; (with_reducible rfl); rfl; apply LW.nil; refine thenN ?_; apply CW.condF; rfl; (with_reducible rfl); refine CW.skip ?_; refine blkN ?_; refine thenN ?_; refine CW.region ?_; apply LW.v0; rfl; rfl; apply ValP.addZL; rfl; rfl; decide; omega; apply LW.v0; rfl; rfl; apply ValP.move; rfl; apply LW.nil)
            apply thenX
            refine ⟨rfl, k + 1, ⟨hlt, fun j hj g1 g2 => ?_⟩, by omega, ⟨rfl, rfl, rfl, rfl, trivial⟩, List.nil_sublist _⟩
            rcases Nat.lt_or_ge j k with hjk | hjk
            · exact ht j hjk g1 g2
            · obtain rfl : j = k := by omega
              rw [hP1, hP2, sameP, decide_eq_true h1, decide_eq_true h2, decide_eq_true h3]; rfl
          · have hE : ∀ w' {fs}, St w [] fs w' → Calls Try.prog 29 #[P1.dv, P2.dv] w' (Ret w' (.bool false)) := fun w' fs hst => by
              have := rSameB_calls P1.db P2.db _ _ w' (hd1.st hst) (hd2.st hst)
              rwa [decide_eq_false h3] at this
            rw [hbad (by rw [sameP, decide_eq_false h3]; simp)]
            (refine CW.seq ?_; refine CW.region ?_; apply LW.v0; rfl; rfl; apply ValP.lssT; rfl; rfl; omega; apply LW.nil; refine thenN ?_; refine CW.seq ?_; apply CW.condT; rfl; (with_reducible rfl); refine CW.skip ?_; refine thenN ?_; refine CW.seq ?_; refine CW.block ?_; refine CW.seq ?_; refine CW.region ?_; apply LW.v0; rfl; rfl; apply ValP.move; rfl; apply LW.v0; rfl; rfl; apply ValP.assign; rfl; apply LW.nil; refine thenN ?_; refine CW.seq ?_; apply CW.pre; refine AnyW.any 35 mixed (by decide +kernel) ?_; (try simp only [tsOf_cons, tsOf_nil, tsOf_app]); apply DW.v0; rfl; rfl; rfl; exact WantT.none; rfl; apply ValP.move; rfl; apply DW.v0; rfl; rfl; rfl; exact WantT.none; rfl; apply ValP.move; rfl; apply DW.v0; rfl; rfl; rfl; exact WantT.none; rfl; apply ValP.indexAddrS; rfl; rfl; rfl; omega; apply DW.v0; rfl; rfl; rfl; exact WantT.none; rfl; apply ValP.fieldAddr; rfl; rfl; apply DW.loadX; rfl; rfl; rfl; exact WantT.none; rfl; assumption; simp; assumption; apply DW.v0; rfl; rfl; rfl; exact WantT.none; rfl; apply ValP.move; rfl; apply DW.v0; rfl; rfl; rfl; exact WantT.none; rfl; apply ValP.move; rfl; apply DW.v0; rfl; rfl; rfl; exact WantT.none; rfl; apply ValP.indexAddrS; rfl; rfl; rfl; omega; apply DW.v0; rfl; rfl; rfl; exact WantT.none; rfl; apply ValP.fieldAddr; rfl; rfl; apply DW.loadX; rfl; rfl; rfl; exact WantT.none; rfl; assumption; simp; assumption; apply DW.v0; rfl; rfl; rfl; exact WantT.none; rfl; apply ValP.boolNeF; rfl; rfl; assumption; apply DW.v0; rfl; rfl; rfl; exact WantT.none; rfl; apply ValP.move; rfl; apply DW.v0; rfl; rfl; rfl; apply wantYes; rfl; rfl; (with_reducible rfl); rfl; apply ValP.move; rfl; apply DW.v0; rfl; rfl; rfl; apply wantYes; rfl; rfl; (with_reducible rfl); rfl; apply ValP.move; rfl; apply DW.v0; rfl; rfl; rfl; apply wantYes; rfl; rfl; (with_reducible rfl); rfl; apply ValP.indexAddrS; rfl; rfl; rfl; omega; apply DW.v0; rfl; rfl; rfl; apply wantYes; rfl; rfl; (with_reducible rfl); rfl; apply ValP.fieldAddr; rfl; rfl; apply DW.loadX; rfl; rfl; rfl; apply wantYes; rfl; rfl; (with_reducible rfl); rfl; assumption; simp; assumption; apply DW.v0; rfl; rfl; rfl; apply wantYes; rfl; rfl; (with_reducible rfl); rfl; apply ValP.move; rfl; apply DW.v0; rfl; rfl; rfl; apply wantYes; rfl; rfl; (with_reducible rfl); rfl; apply ValP.move; rfl; apply DW.v0; rfl; rfl; rfl; apply wantYes; rfl; rfl; (with_reducible rfl); rfl; apply ValP.indexAddrS; rfl; rfl; rfl; omega; apply DW.v0; rfl; rfl; rfl; apply wantYes; rfl; rfl; (with_reducible rfl); rfl; apply ValP.fieldAddr; rfl; rfl; apply DW.loadX; rfl; rfl; rfl; apply wantYes; rfl; rfl; (with_reducible rfl); rfl; assumption; simp; assumption; apply DW.v0; rfl; rfl; rfl; apply wantYes; rfl; rfl; (with_reducible rfl); rfl; apply ValP.neWF; rfl; rfl; assumption; apply DW.v0; rfl; rfl; rfl; exact WantT.none; rfl; apply ValP.pickF'; rfl; (with_reducible rfl); rfl; apply DW.v0; rfl; rfl; rfl; exact WantT.none; rfl; apply ValP.move; rfl; apply DW.v0; rfl; rfl; rfl; apply wantYes; rfl; rfl; (with_reducible rfl); rfl; apply ValP.move; rfl; apply DW.v0; rfl; rfl; rfl; apply wantYes; rfl; rfl; (with_reducible rfl); rfl; apply ValP.move; rfl; apply DW.v0; rfl; rfl; rfl; apply wantYes; rfl; rfl; (with_reducible rfl); rfl; apply ValP.indexAddrS; rfl; rfl; rfl; omega; apply DW.v0; rfl; rfl; rfl; apply wantYes; rfl; rfl; (with_reducible rfl); rfl; apply ValP.fieldAddr; rfl; rfl; apply DW.loadX; rfl; rfl; rfl; apply wantYes; rfl; rfl; (with_reducible rfl); rfl; assumption; simp; assumption; apply DW.v0; rfl; rfl; rfl; apply wantYes; rfl; rfl; (with_reducible rfl); rfl; apply ValP.move; rfl; apply DW.v0; rfl; rfl; rfl; apply wantYes; rfl; rfl; (with_reducible rfl); rfl; apply ValP.move; rfl; apply DW.v0; rfl; rfl; rfl; apply wantYes; rfl; rfl; (with_reducible rfl); rfl; apply ValP.indexAddrS; rfl; rfl; rfl; omega; apply DW.v0; rfl; rfl; rfl; apply wantYes; rfl; rfl; (with_reducible rfl); rfl; apply ValP.fieldAddr; rfl; rfl; apply DW.loadX; rfl; rfl; rfl; apply wantYes; rfl; rfl; (with_reducible rfl); rfl; assumption; simp; assumption; apply DW.nil; simp only [fsOf_cons, fsOf_nil, fsOf_app, fsOf_tsOf, fsOf_new]; apply LW.guardT'; rfl; rfl; (with_reducible rfl); apply LW.callE; rfl; rfl; infer_instance; apply ArgsOk.cons; rfl; apply ArgsOk.cons; rfl; exact ArgsOk.nil; intro w _; exact hE w (by assumption); apply LW.guardT'; rfl; rfl; (with_reducible rfl); apply LW.v0; rfl; rfl; apply ValP.notF; rfl; (with_reducible rfl); apply LW.v0; rfl; rfl; apply ValP.pickF'; rfl; (with_reducible rfl); rfl; apply LW.nil; refine thenN ?_; apply CW.condT; rfl; (with_reducible rfl); refine CW.seq ?_; refine CW.region ?_; apply LW.v0; rfl; rfl; apply ValP.assign; rfl; apply LW.nil; refine thenN ?_; refine CW.ret ?_; refine blkR ?_; refine thenR ?_; refine thenR ?_; refine blkR ?_; refine thenR ?_)
            (apply finR; exact .inl rfl; rfl; rfl; rfl; apply ResL.cons; exact Res.tmp rfl; exact ResL.nil)
            rfl
        · rw [hbad (by rw [sameP, decide_eq_false h2]; simp)]
          (refine CW.seq ?_; refine CW.region ?_; apply LW.v0; rfl; rfl; apply ValP.lssT; rfl; rfl; omega; apply LW.nil; refine thenN ?_; refine CW.seq ?_; apply CW.condT; rfl; (with_reducible rfl); refine CW.skip ?_; refine thenN ?_; refine CW.seq ?_; refine CW.block ?_; refine CW.seq ?_; refine CW.region ?_; apply LW.v0; rfl; rfl; apply ValP.move; rfl; apply LW.v0; rfl; rfl; apply ValP.assign; rfl; apply LW.nil; refine thenN ?_; refine CW.seq ?_; apply CW.pre; refine AnyW.any 35 mixed (by decide +kernel) ?_; (try simp only [tsOf_cons, tsOf_nil, tsOf_app]); apply DW.v0; rfl; rfl; rfl; exact WantT.none; rfl; apply ValP.move; rfl; apply DW.v0; rfl; rfl; rfl; exact WantT.none; rfl; apply ValP.move; rfl; apply DW.v0; rfl; rfl; rfl; exact WantT.none; rfl; apply ValP.indexAddrS; rfl; rfl; rfl; omega; apply DW.v0; rfl; rfl; rfl; exact WantT.none; rfl; apply ValP.fieldAddr; rfl; rfl; apply DW.loadX; rfl; rfl; rfl; exact WantT.none; rfl; assumption; simp; assumption; apply DW.v0; rfl; rfl; rfl; exact WantT.none; rfl; apply ValP.move; rfl; apply DW.v0; rfl; rfl; rfl; exact WantT.none; rfl; apply ValP.move; rfl; apply DW.v0; rfl; rfl; rfl; exact WantT.none; rfl; apply ValP.indexAddrS; rfl; rfl; rfl; omega; apply DW.v0; rfl; rfl; rfl; exact WantT.none; rfl; apply ValP.fieldAddr; rfl; rfl; apply DW.loadX; rfl; rfl; rfl; exact WantT.none; rfl; assumption; simp; assumption; apply DW.v0; rfl; rfl; rfl; exact WantT.none; rfl; apply ValP.boolNeF; rfl; rfl; assumption; apply DW.v0; rfl; rfl; rfl; exact WantT.none; rfl; apply ValP.move; rfl; apply DW.v0; rfl; rfl; rfl; apply wantYes; rfl; rfl; (with_reducible rfl); rfl; apply ValP.move; rfl; apply DW.v0; rfl; rfl; rfl; apply wantYes; rfl; rfl; (with_reducible rfl); rfl; apply ValP.move; rfl; apply DW.v0; rfl; rfl; rfl; apply wantYes; rfl; rfl; (with_reducible rfl); rfl; apply ValP.indexAddrS; rfl; rfl; rfl; omega; apply DW.v0; rfl; rfl; rfl; apply wantYes; rfl; rfl; (with_reducible rfl); rfl; apply ValP.fieldAddr; rfl; rfl; apply DW.loadX; rfl; rfl; rfl; apply wantYes; rfl; rfl; (with_reducible rfl); rfl; assumption; simp; assumption; apply DW.v0; rfl; rfl; rfl; apply wantYes; rfl; rfl; (with_reducible rfl); rfl; apply ValP.move; rfl; apply DW.v0; rfl; rfl; rfl; apply wantYes; rfl; rfl; (with_reducible rfl); rfl; apply ValP.move; rfl; apply DW.v0; rfl; rfl; rfl; apply wantYes; rfl; rfl; (with_reducible rfl); rfl; apply ValP.indexAddrS; rfl; rfl; rfl; omega; apply DW.v0; rfl; rfl; rfl; apply wantYes; rfl; rfl; (with_reducible rfl); rfl; apply ValP.fieldAddr; rfl; rfl; apply DW.loadX; rfl; rfl; rfl; apply wantYes; rfl; rfl; (with_reducible rfl); rfl; assumption; simp; assumption; apply DW.v0; rfl; rfl; rfl; apply wantYes; rfl; rfl; (with_reducible rfl); rfl; apply ValP.neWT; rfl; rfl; assumption; assumption; assumption; apply DW.v0; rfl; rfl; rfl; exact WantT.none; rfl; apply ValP.pickF'; rfl; (with_reducible rfl); rfl; apply DW.v0; rfl; rfl; rfl; exact WantT.none; rfl; apply ValP.move; rfl; apply DW.skip'; rfl; rfl; rfl; rfl; simp only [Bool.not_true, Bool.not_false]; apply DW.skip'; rfl; rfl; rfl; rfl; simp only [Bool.not_true, Bool.not_false]; apply DW.skip'; rfl; rfl; rfl; rfl; simp only [Bool.not_true, Bool.not_false]; apply DW.skip'; rfl; rfl; rfl; rfl; simp only [Bool.not_true, Bool.not_false]; apply DW.skip'; rfl; rfl; rfl; rfl; simp only [Bool.not_true, Bool.not_false]; apply DW.skip'; rfl; rfl; rfl; rfl; simp only [Bool.not_true, Bool.not_false]; apply DW.skip'; rfl; rfl; rfl; rfl; simp only [Bool.not_true, Bool.not_false]; apply DW.skip'; rfl; rfl; rfl; rfl; simp only [Bool.not_true, Bool.not_false]; apply DW.skip'; rfl; rfl; rfl; rfl; simp only [Bool.not_true, Bool.not_false]; apply DW.skip'; rfl; rfl; rfl; rfl; simp only [Bool.not_true, Bool.not_false]; apply DW.nil; simp only [fsOf_cons, fsOf_nil, fsOf_app, fsOf_tsOf, fsOf_new]; apply LW.guardF'; rfl; rfl; simp only [Bool.not_true, Bool.not_false]; rfl; apply LW.guardF'; rfl; rfl; simp only [Bool.not_true, Bool.not_false]; rfl; apply LW.v0; rfl; rfl; apply ValP.pickT'; rfl; (with_reducible rfl); rfl; apply LW.nil; refine thenN ?_; apply CW.condT; rfl; (with_reducible rfl); refine CW.seq ?_; refine CW.region ?_; apply LW.v0; rfl; rfl; apply ValP.assign; rfl; apply LW.nil; refine thenN ?_; refine CW.ret ?_; refine blkR ?_; refine thenR ?_; refine thenR ?_; refine blkR ?_; refine thenR ?_)
          (apply finR; exact .inl rfl; rfl; rfl; rfl; apply ResL.cons; exact Res.tmp rfl; exact ResL.nil)
          rfl
      · rw [hbad (by rw [sameP, decide_eq_false h1]; simp)]
        (refine CW.seq ?_; refine CW.region ?_; apply LW.v0; rfl; rfl; apply ValP.lssT; rfl; rfl; omega; apply LW.nil; refine thenN ?_; refine CW.seq ?_; apply CW.condT; rfl; (with_reducible rfl); refine CW.skip ?_; refine thenN ?_; refine CW.seq ?_; refine CW.block ?_; refine CW.seq ?_; refine CW.region ?_; apply LW.v0; rfl; rfl; apply ValP.move; rfl; apply LW.v0; rfl; rfl; apply ValP.assign; rfl; apply LW.nil; refine thenN ?_; refine CW.seq ?_; apply CW.pre; refine AnyW.any 35 mixed (by decide +kernel) ?_; (try simp only [tsOf_cons, tsOf_nil, tsOf_app]); apply DW.v0; rfl; rfl; rfl; exact WantT.none; rfl; apply ValP.move; rfl; apply DW.v0; rfl; rfl; rfl; exact WantT.none; rfl; apply ValP.move; rfl; apply DW.v0; rfl; rfl; rfl; exact WantT.none; rfl; apply ValP.indexAddrS; rfl; rfl; rfl; omega; apply DW.v0; rfl; rfl; rfl; exact WantT.none; rfl; apply ValP.fieldAddr; rfl; rfl; apply DW.loadX; rfl; rfl; rfl; exact WantT.none; rfl; assumption; simp; assumption; apply DW.v0; rfl; rfl; rfl; exact WantT.none; rfl; apply ValP.move; rfl; apply DW.v0; rfl; rfl; rfl; exact WantT.none; rfl; apply ValP.move; rfl; apply DW.v0; rfl; rfl; rfl; exact WantT.none; rfl; apply ValP.indexAddrS; rfl; rfl; rfl; omega; apply DW.v0; rfl; rfl; rfl; exact WantT.none; rfl; apply ValP.fieldAddr; rfl; rfl; apply DW.loadX; rfl; rfl; rfl; exact WantT.none; rfl; assumption; simp; assumption; apply DW.v0; rfl; rfl; rfl; exact WantT.none; rfl; apply boolNeT'; rfl; rfl; assumption; apply DW.v0; rfl; rfl; rfl; exact WantT.none; rfl; apply ValP.move; rfl; apply DW.skip'; rfl; rfl; rfl; rfl; simp only [Bool.not_true, Bool.not_false]; apply DW.skip'; rfl; rfl; rfl; rfl; simp only [Bool.not_true, Bool.not_false]; apply DW.skip'; rfl; rfl; rfl; rfl; simp only [Bool.not_true, Bool.not_false]; apply DW.skip'; rfl; rfl; rfl; rfl; simp only [Bool.not_true, Bool.not_false]; apply DW.skip'; rfl; rfl; rfl; rfl; simp only [Bool.not_true, Bool.not_false]; apply DW.skip'; rfl; rfl; rfl; rfl; simp only [Bool.not_true, Bool.not_false]; apply DW.skip'; rfl; rfl; rfl; rfl; simp only [Bool.not_true, Bool.not_false]; apply DW.skip'; rfl; rfl; rfl; rfl; simp only [Bool.not_true, Bool.not_false]; apply DW.skip'; rfl; rfl; rfl; rfl; simp only [Bool.not_true, Bool.not_false]; apply DW.skip'; rfl; rfl; rfl; rfl; simp only [Bool.not_true, Bool.not_false]; apply DW.skip'; rfl; rfl; rfl; rfl; simp only [Bool.not_true, Bool.not_false]; apply DW.v0; rfl; rfl; rfl; exact WantT.none; rfl; apply ValP.pickT'; rfl; (with_reducible rfl); rfl; apply DW.v0; rfl; rfl; rfl; exact WantT.none; rfl; apply ValP.move; rfl; apply DW.skip'; rfl; rfl; rfl; rfl; simp only [Bool.not_true, Bool.not_false]; apply DW.skip'; rfl; rfl; rfl; rfl; simp only [Bool.not_true, Bool.not_false]; apply DW.skip'; rfl; rfl; rfl; rfl; simp only [Bool.not_true, Bool.not_false]; apply DW.skip'; rfl; rfl; rfl; rfl; simp only [Bool.not_true, Bool.not_false]; apply DW.skip'; rfl; rfl; rfl; rfl; simp only [Bool.not_true, Bool.not_false]; apply DW.skip'; rfl; rfl; rfl; rfl; simp only [Bool.not_true, Bool.not_false]; apply DW.skip'; rfl; rfl; rfl; rfl; simp only [Bool.not_true, Bool.not_false]; apply DW.skip'; rfl; rfl; rfl; rfl; simp only [Bool.not_true, Bool.not_false]; apply DW.skip'; rfl; rfl; rfl; rfl; simp only [Bool.not_true, Bool.not_false]; apply DW.skip'; rfl; rfl; rfl; rfl; simp only [Bool.not_true, Bool.not_false]; apply DW.nil; simp only [fsOf_cons, fsOf_nil, fsOf_app, fsOf_tsOf, fsOf_new]; apply LW.guardF'; rfl; rfl; simp only [Bool.not_true, Bool.not_false]; rfl; apply LW.guardF'; rfl; rfl; simp only [Bool.not_true, Bool.not_false]; rfl; apply LW.v0; rfl; rfl; apply ValP.pickT'; rfl; (with_reducible rfl); rfl; apply LW.nil; refine thenN ?_; apply CW.condT; rfl; (with_reducible rfl); refine CW.seq ?_; refine CW.region ?_; apply LW.v0; rfl; rfl; apply ValP.assign; rfl; apply LW.nil; refine thenN ?_; refine CW.ret ?_; refine blkR ?_; refine thenR ?_; refine thenR ?_; refine blkR ?_; refine thenR ?_)
        (apply finR; exact .inl rfl; rfl; rfl; rfl; apply ResL.cons; exact Res.tmp rfl; exact ResL.nil)
        rfl
    · obtain rfl : k = l.length := by omega
      rw [(sameL_iff l m).2 ⟨hll, fun j g1 g2 => ht j g1 g1 g2⟩]
      (refine CW.seq ?_; refine CW.region ?_; apply LW.v0; rfl; rfl; apply ValP.lssF; rfl; rfl; omega; apply LW.nil; refine thenN ?_; refine CW.seq ?_; apply CW.condF; rfl; (with_reducible rfl); refine CW.exit ?_; refine thenE ?_; refine thenE ?_; refine blkE rfl ?_; refine thenN ?_; refine CW.seq ?_; refine CW.region ?_; apply LW.v0; rfl; rfl; apply ValP.assign; rfl; apply LW.nil; refine thenN ?_; refine CW.ret ?_)
      (apply finR; exact .inl rfl; rfl; rfl; rfl; apply ResL.cons; exact Res.tmp rfl; exact ResL.nil)
      rfl
  · rw [sameL_len l m hll]
    refine enter (args := [_, _]) _ [] [] Try.func12 rfl Try.ntmps12 rfl (by simp) .nil ?_
    (refine CW.seq ?_; refine CW.region ?_; apply LW.v0; rfl; rfl; apply ValP.assign; rfl; apply LW.nil; refine thenN ?_; refine CW.seq ?_; refine CW.seq ?_; refine CW.region ?_; apply LW.v0; rfl; rfl; apply ValP.move; rfl; apply LW.v0; rfl; rfl; apply ValP.lenR; rfl; infer_instance; rfl; apply LW.v0; rfl; rfl; apply ValP.move; rfl; apply LW.v0; rfl; rfl; apply ValP.lenR; rfl; infer_instance; rfl; apply LW.v0; rfl; rfl; apply ValP.neT; rfl; rfl; omega; apply LW.nil; refine thenN ?_; apply CW.condT; rfl; (with_reducible rfl); refine CW.seq ?_; refine CW.region ?_; apply LW.v0; rfl; rfl; apply ValP.assign; rfl; apply LW.nil; refine thenN ?_; refine CW.ret ?_; refine thenR ?_)
    (apply finR; exact .inl rfl; rfl; rfl; rfl; apply ResL.cons; exact Res.tmp rfl; exact ResL.nil)
    rfl
end Go.Proofs.Ytailnglojnccnaa

/-
  Contracts of the pack's laws: forms, copies; which parts may be.
  Conditions: none.
-/
namespace Go.Proofs.Ytailnglojnccnaa
open Go Go.RowKit SL
set_option maxRecDepth 8000
set_option maxHeartbeats 4000000
set_option linter.unusedSimpArgs false
set_option linter.unusedVariables false
attribute [local irreducible] SL.CW SL.LW SL.DW Calls SL.Ret SL.RetG SL.beginQ SL.roundQ SL.rangeQ SL.inQ SL.RW SL.AnyW SL.thenQ SL.thenC SL.thenW SL.blkQ SL.finQ SL.ValP SL.NewP SL.SetP SL.CallP SL.Rd SL.Wr SL.Known
/-! ### form -/
structure FX where
  k : Nat
  ov : Value
  seg : Fs
theorem bls_cells (l : List Bool) : ∀ u ∈ bls l, u.oneCell' = true := fun u h => by
  simp only [bls, List.mem_flatMap, List.mem_singleton] at h
  obtain ⟨b, _, rfl⟩ := h; rfl
/-- Which parts are Long. -/
def fmP (l : List PartV) : List Bool := l.map (·.lg)
theorem formR_calls (l : List PartV) (v : Value) (w : World) (hv : RowAt w 6 v l.length (l.flatMap psc)) (ho1 : ∀ p ∈ l, p.dv.oneCell' = true) (hl : l.length ≤ 1000) : Calls Try.prog 19 #[v] w (RetG w [] fun v' gs => IsRow 4 1 v' l.length (bls (fmP l)) gs) := by
  obtain ⟨p, c, rfl, hc, hm⟩ := hv.form
  simp only [maxLen] at hm
  refine enter (args := [_]) _ [] [] Try.func19 rfl Try.ntmps19 rfl (by simp) .nil ?_
  (refine CW.seq ?_; refine CW.region ?_; apply LW.v0; rfl; rfl; apply ValP.assign; rfl; apply LW.nil; refine thenN ?_; refine CW.seq ?_; refine CW.region ?_; apply LW.v0; rfl; rfl; apply ValP.assign; rfl; apply LW.nil; refine thenN ?_; refine CW.seq ?_; refine CW.seq ?_; refine CW.region ?_; apply LW.v0; rfl; rfl; apply ValP.move; rfl; apply LW.v0; rfl; rfl; apply ValP.lenR; rfl; infer_instance; rfl; apply LW.v0; rfl; rfl; apply ValP.move; rfl; apply LW.nil; refine thenN ?_; refine CW.block ?_)
  refine CW.loop (fun x : FX => ([(8, .int .i64 (x.k : Int)), (7, .int .i64 (l.length : Int)), (6, .slice p l.length c), (3, x.ov)], x.seg ++ []))
    (fun x => x.k ≤ l.length ∧ IsRow 4 1 x.ov x.k (bls (fmP (l.take x.k))) x.seg) (fun x => l.length - x.k) ⟨0, .slice none 0 0, []⟩
    ⟨Nat.zero_le _, .nil⟩ ⟨rfl, rfl, rfl, rfl, trivial⟩ (List.Sublist.refl _) ?_
  rintro ⟨k, ov, seg⟩ ⟨hk, hO⟩
  dsimp only at hk hO ⊢
  obtain ⟨po, co, rfl⟩ := hO.form
  rcases Nat.lt_or_ge k l.length with hlt | hge
  · obtain ⟨b, off, c', cs, E, fr, heq, hb, hx0⟩ := hv.pos (by omega)
    cases heq
    have hrd : Rd Try.prog 39 (.cells cs E fr) (off + k * 6) (.agg (psa l[k])) := Rd.elemA (g := psc) (l := l) (a := l[k]) hx0 (psc_len l) (List.getElem?_eq_getElem hlt)
    have ho := ho1 _ (List.getElem_mem hlt)
    (refine CW.seq ?_; refine CW.region ?_; apply LW.v0; rfl; rfl; apply ValP.lssT; rfl; rfl; omega; apply LW.nil; refine thenN ?_; refine CW.seq ?_; apply CW.condT; rfl; (with_reducible rfl); refine CW.skip ?_; refine thenN ?_; refine CW.seq ?_; refine CW.block ?_; refine CW.seq ?_; refine CW.region ?_; apply LW.v0; rfl; rfl; apply ValP.indexAddrS; rfl; rfl; rfl; omega; apply LW.load; rfl; rfl; exact Known.ext (by assumption) (by simp); assumption; apply LW.allocA; rfl; intro _; apply LW.store; rfl; rfl; apply SetAt.head; apply ps_wrW; rfl; assumption; apply LW.nil; refine thenN ?_; refine CW.region ?_; apply LW.v0; rfl; rfl; apply ValP.move; rfl; apply LW.v0; rfl; rfl; apply ValP.fieldAddr; rfl; rfl; apply LW.load; rfl; rfl; apply Known.at; apply FsAt.head; exact ps_rd0; apply LW.lay1; rfl; infer_instance; infer_instance; rfl; rfl; rfl; rfl; rfl; rfl; intro _)
    refine LW.append (n := k) (m := 1) (news := [.bool l[k].lg]) rfl rfl inferInstance inferInstance inferInstance rfl rfl rfl (by (apply AtSeg.cons; apply AtSeg.cons; exact AtSeg.head)) hO (by (apply Known.at; apply FsAt.head)) rfl rfl rfl (by omega) (by simp only [maxLen]; omega) (by omega) ?_
    intro ov' seg' hO'
    refine ⟨_, (by (apply AtSeg.cons; apply AtSeg.cons; exact AtSeg.head)), ?_⟩
    (apply LW.v0; rfl; rfl; apply ValP.assign; rfl; apply LW.nil; refine blkN ?_; refine thenN ?_; refine CW.region ?_; apply LW.v0; rfl; rfl; apply ValP.addZL; rfl; rfl; decide; omega; apply LW.v0; rfl; rfl; apply ValP.move; rfl; apply LW.nil)
    apply thenX
    refine ⟨rfl, ⟨k + 1, ov', seg'⟩, ⟨hlt, ?_⟩, by show l.length - (k + 1) < l.length - k; omega, ⟨rfl, rfl, rfl, rfl, trivial⟩, by dsimp only; (apply List.Sublist.cons; apply List.Sublist.cons; exact List.Sublist.refl _)⟩
    dsimp only
    rw [List.take_succ_eq_append_getElem hlt, fmP, List.map_append, bls, List.flatMap_append]
    exact hO'
  · obtain rfl : k = l.length := by omega
    (refine CW.seq ?_; refine CW.region ?_; apply LW.v0; rfl; rfl; apply ValP.lssF; rfl; rfl; omega; apply LW.nil; refine thenN ?_; refine CW.seq ?_; apply CW.condF; rfl; (with_reducible rfl); refine CW.exit ?_; refine thenE ?_; refine thenE ?_; refine blkE rfl ?_; refine thenN ?_; refine CW.seq ?_; refine CW.region ?_; apply LW.v0; rfl; rfl; apply ValP.move; rfl; apply LW.v0; rfl; rfl; apply ValP.assign; rfl; apply LW.nil; refine thenN ?_; refine CW.ret ?_)
    rw [List.take_length] at hO
    refine fin (vs := [.slice po l.length co]) seg (.inl rfl) rfl rfl (by (apply ResL.cons; exact Res.tmp rfl; exact ResL.nil)) (List.sublist_append_left _ _) hO
theorem form_calls (l : List PartV) (v : Value) (w : World) (hv : PartsAt w v l) (hl : l.length ≤ 1000) : Calls Try.prog 19 #[v] w (RetG w [] fun v' gs => IsRow 4 1 v' l.length (bls (fmP l)) gs) :=
  formR_calls l v w hv.row hv.one hl
/-! ### few -/
/-- A part, cut. -/
def cutD (p : PartV) : Bool × Nat × List UInt8 := (p.lg, p.wd, p.db.take 201)
def fewD (l : List PartV) : List (Bool × Nat × List UInt8) := (l.take 17).map cutD
theorem fewD_len (l : List PartV) : (fewD l).length = min l.length 17 := by simp [fewD, Nat.min_comm]
theorem few_calls (l : List PartV) (v : Value) (w : World) (hv : PartsAt w v l) : Calls Try.prog 16 #[v] w (RetG w [] fun v' gs => ∃ ps, ps.map dat = fewD l ∧ PartsGs ps v' gs) := by
  obtain ⟨p, c, rfl, hc, hm⟩ := hv.row.form
  simp only [maxLen] at hm
  refine enter (args := [_]) _ [] [] Try.func16 rfl Try.ntmps16 rfl (by simp) .nil ?_
  (refine CW.seq ?_; refine CW.region ?_; apply LW.v0; rfl; rfl; apply ValP.assign; rfl; apply LW.nil; refine thenN ?_; refine CW.seq ?_; refine CW.region ?_; apply LW.v0; rfl; rfl; apply ValP.assign; rfl; apply LW.nil; refine thenN ?_; refine CW.seq ?_; refine CW.seq ?_; refine CW.region ?_; apply LW.v0; rfl; rfl; apply ValP.move; rfl; apply LW.v0; rfl; rfl; apply ValP.lenR; rfl; infer_instance; rfl; apply LW.v0; rfl; rfl; apply ValP.move; rfl; apply LW.nil; refine thenN ?_; refine CW.block ?_)
  refine CW.loop (fun x : GX => ([(8, .int .i64 (x.k : Int)), (7, .int .i64 (l.length : Int)), (6, .slice p l.length c), (3, x.ov)], x.gsD ++ (x.segO ++ [])))
    (fun x => x.k ≤ l.length ∧ IsRow 39 6 x.ov x.ps.length (x.ps.flatMap psc) x.segO ∧ DatAt x.gsD x.ps ∧ x.ps.map dat = (l.take (min x.k 17)).map cutD ∧ (∀ p ∈ x.ps, p.wd < M256)) (fun x => l.length - x.k) ⟨0, .slice none 0 0, [], [], [], undef, undef⟩
    ⟨Nat.zero_le _, .nil, DatAt.nil, rfl, (fun _ h => by cases h)⟩ ⟨rfl, rfl, rfl, rfl, trivial⟩ (List.Sublist.refl _) ?_
  rintro ⟨k, ov, segO, ps, gsD, hv1, tv1⟩ ⟨hk, hO, hD, hps, hsm⟩
  dsimp only at hk hO hD hps hsm ⊢
  have hpl : ps.length = min k 17 := by have := congrArg List.length hps; rw [List.length_map, List.length_map, List.length_take] at this; omega
  obtain ⟨po, co, rfl⟩ := hO.form
  rcases Nat.lt_or_ge k l.length with hlt | hge
  · obtain ⟨b, off, c', cs, E, fr, heq, hb, hrd0⟩ := part_rd hv k hlt
    cases heq
    have hrd : Rd Try.prog 39 (.cells cs E fr) (off + k * 6) (.agg (psa l[k])) := hrd0
    clear hrd0
    have ho := hv.one _ (List.getElem_mem hlt)
    have hdv := hv.data _ (List.getElem_mem hlt)
    have hwd := hv.small _ (List.getElem_mem hlt)
    rcases Nat.lt_or_ge 16 k with h16 | h16
    · (refine CW.seq ?_; refine CW.region ?_; apply LW.v0; rfl; rfl; apply ValP.lssT; rfl; rfl; omega; apply LW.nil; refine thenN ?_; refine CW.seq ?_; apply CW.condT; rfl; (with_reducible rfl); refine CW.skip ?_; refine thenN ?_; refine CW.seq ?_; refine CW.block ?_; refine CW.seq ?_; refine CW.region ?_; apply LW.v0; rfl; rfl; apply ValP.move; rfl; apply LW.v0; rfl; rfl; apply ValP.indexAddrS; rfl; rfl; rfl; omega; apply LW.load; rfl; rfl; exact Known.ext (by assumption) (by simp); assumption; apply LW.allocA; rfl; intro _; apply LW.v0; rfl; rfl; apply ValP.assign; rfl; apply LW.store; rfl; rfl; apply SetAt.head; apply ps_wrW; rfl; assumption; apply LW.nil; refine thenN ?_; refine CW.seq ?_; refine CW.region ?_; apply LW.v0; rfl; rfl; apply ValP.move; rfl; apply LW.v0; rfl; rfl; apply ValP.leqF; rfl; rfl; omega; apply LW.nil; refine thenN ?_; apply CW.condF; rfl; (with_reducible rfl); refine CW.skip ?_; refine blkN ?_; refine thenN ?_; refine CW.region ?_; apply LW.v0; rfl; rfl; apply ValP.addZL; rfl; rfl; decide; omega; apply LW.v0; rfl; rfl; apply ValP.move; rfl; apply LW.nil)
      apply thenX
      refine ⟨rfl, ⟨k + 1, _, segO, ps, gsD, undef, undef⟩, ⟨hlt, hO, hD, ?_, hsm⟩, by show l.length - (k + 1) < l.length - k; omega, ⟨rfl, rfl, rfl, rfl, trivial⟩, ?_⟩
      · dsimp only; rw [hps, show min k 17 = 17 by omega, show min (k + 1) 17 = 17 by omega]
      · dsimp only; (apply List.Sublist.cons; exact List.Sublist.refl _)
    · obtain ⟨q, cq, hq, hcq, hcm⟩ := hdv.form
      have hr2 : ∀ {E fr} , Rd Try.prog 25 (.cells (psa l[k]) E fr) 5 (.slice q l[k].db.length cq) := fun {E fr} => by rw [← hq]; exact ps_rd2
      rw [hq] at hdv
      have hcut := row_taken hdv (n := min l[k].db.length 201) (by omega)
      have hml : (l[k].db.take (min l[k].db.length 201)).length = min l[k].db.length 201 := by rw [List.length_take]; omega
      (refine CW.seq ?_; refine CW.region ?_; apply LW.v0; rfl; rfl; apply ValP.lssT; rfl; rfl; omega; apply LW.nil; refine thenN ?_; refine CW.seq ?_; apply CW.condT; rfl; (with_reducible rfl); refine CW.skip ?_; refine thenN ?_; refine CW.seq ?_; refine CW.block ?_; refine CW.seq ?_; refine CW.region ?_; apply LW.v0; rfl; rfl; apply ValP.move; rfl; apply LW.v0; rfl; rfl; apply ValP.indexAddrS; rfl; rfl; rfl; omega; apply LW.load; rfl; rfl; exact Known.ext (by assumption) (by simp); assumption; apply LW.allocA; rfl; intro _; apply LW.v0; rfl; rfl; apply ValP.assign; rfl; apply LW.store; rfl; rfl; apply SetAt.head; apply ps_wrW; rfl; assumption; apply LW.nil; refine thenN ?_; refine CW.seq ?_; refine CW.region ?_; apply LW.v0; rfl; rfl; apply ValP.move; rfl; apply LW.v0; rfl; rfl; apply ValP.leqT; rfl; rfl; omega; apply LW.nil; refine thenN ?_; apply CW.condT; rfl; (with_reducible rfl); refine CW.seq ?_; refine CW.region ?_; apply LW.v0; rfl; rfl; apply ValP.fieldAddr; rfl; rfl; apply LW.load; rfl; rfl; apply Known.at; apply FsAt.head; exact hr2; apply LW.v0; rfl; rfl; apply ValP.fieldAddr; rfl; rfl; apply LW.load; rfl; rfl; apply Known.at; apply FsAt.head; exact hr2; apply LW.v0; rfl; rfl; apply ValP.lenR; rfl; infer_instance; rfl; apply LW.v0; rfl; rfl; apply ValP.minZL; rfl; rfl; decide; apply LW.v0; rfl; rfl; apply ValP.cutTo; infer_instance; infer_instance; rfl; rfl; omega)
      refine LW.appendAny (n := 0) (m := (l[k].db.take (min l[k].db.length 201)).length) (news := ucs (l[k].db.take (min l[k].db.length 201))) rfl rfl inferInstance inferInstance inferInstance rfl rfl rfl (AtSeg.head (seg := [])) .nil (fun w hs => hcut.st hs) (ucs_cells _) (by simp only [maxLen]; omega) (by omega) ?_
      intro vd segD hrowD
      refine ⟨_, AtSeg.head, ?_⟩
      simp only [List.nil_append, Nat.zero_add] at hrowD ⊢
      obtain ⟨pd, cd, rfl⟩ := hrowD.form
      have hW : Wr Try.prog 25 (.cells (psa l[k]) 39 (0, 0)) (0 + 5) (.slice pd (l[k].db.take (min l[k].db.length 201)).length cd) (.cells (psa ⟨l[k].lg, l[k].wd, .slice pd (l[k].db.take (min l[k].db.length 201)).length cd, l[k].db.take (min l[k].db.length 201)⟩) 39 (0, 0)) :=
        Wr.cells rfl rfl (by show 0 + 5 + 1 ≤ 6; omega) rfl
      obtain ⟨P, hP⟩ : ∃ P : PartV, P = ⟨l[k].lg, l[k].wd, .slice pd (l[k].db.take (min l[k].db.length 201)).length cd, l[k].db.take (min l[k].db.length 201)⟩ := ⟨_, rfl⟩
      have hP1 : P.dv.oneCell' = true := by rw [hP]; rfl
      rw [← hP] at hW
      (apply LW.v0; rfl; rfl; apply ValP.fieldAddr; rfl; rfl; apply LW.store; rfl; rfl; apply SetAt.app; apply SetAt.head; assumption; apply LW.nil; refine thenN ?_; refine CW.region ?_; apply LW.v0; rfl; rfl; apply ValP.move; rfl; apply LW.load; rfl; rfl; apply Known.at; apply FsAt.app; apply FsAt.head; exact ps_rdW; apply LW.layA; rfl; infer_instance; infer_instance; rfl; rfl; rfl; rfl; rfl; intro _)
      refine LW.append (n := ps.length) (m := 1) (news := psc P) rfl rfl inferInstance inferInstance inferInstance rfl rfl rfl (by (apply AtSeg.cons; apply AtSeg.app; apply AtSeg.cons; apply AtSeg.app; exact AtSeg.head)) hO (by (apply Known.at; apply FsAt.head)) rfl rfl (psc_one hP1) (by omega) (by simp only [maxLen]; omega) (by omega) ?_
      intro ov' segO' hO'
      refine ⟨_, (by (apply AtSeg.cons; apply AtSeg.app; apply AtSeg.cons; apply AtSeg.app; exact AtSeg.head)), ?_⟩
      (apply LW.v0; rfl; rfl; apply ValP.assign; rfl; apply LW.nil; refine blkN ?_; refine thenN ?_; refine CW.region ?_; apply LW.v0; rfl; rfl; apply ValP.addZL; rfl; rfl; decide; omega; apply LW.v0; rfl; rfl; apply ValP.move; rfl; apply LW.nil)
      apply thenX
      refine ⟨rfl, ⟨k + 1, ov', segO', ps ++ [P], segD ++ gsD, undef, undef⟩, ⟨hlt, ?_, ?_, ?_, ?_⟩, by show l.length - (k + 1) < l.length - k; omega, ⟨rfl, rfl, rfl, rfl, trivial⟩, ?_⟩
      · dsimp only; rw [flat_snoc, List.length_append, List.length_singleton]; exact hO'
      · exact hD.app (row_is hrowD (by rw [hP]) (by rw [hP]) rfl)
      · dsimp only
        rw [List.map_append, hps, show min (k + 1) 17 = min k 17 + 1 by omega, show min k 17 = k by omega, List.take_succ_eq_append_getElem hlt, List.map_append, hP]
        simp only [List.map_cons, List.map_nil, dat, cutD]
        rw [show l[k].db.take (min l[k].db.length 201) = l[k].db.take 201 by rw [Nat.min_comm, ← List.take_take, List.take_length]]
      · intro p hp
        rcases List.mem_append.1 hp with hp | hp
        · exact hsm p hp
        · obtain rfl : p = P := by simpa using hp
          rw [hP]; exact hwd
      · dsimp only; rw [List.append_assoc]; (apply List.Sublist.cons; apply List.Sublist.append_left; apply List.Sublist.cons; exact List.Sublist.refl _)
  · obtain rfl : k = l.length := by omega
    (refine CW.seq ?_; refine CW.region ?_; apply LW.v0; rfl; rfl; apply ValP.lssF; rfl; rfl; omega; apply LW.nil; refine thenN ?_; refine CW.seq ?_; apply CW.condF; rfl; (with_reducible rfl); refine CW.exit ?_; refine thenE ?_; refine thenE ?_; refine blkE rfl ?_; refine thenN ?_; refine CW.seq ?_; refine CW.region ?_; apply LW.v0; rfl; rfl; apply ValP.move; rfl; apply LW.v0; rfl; rfl; apply ValP.assign; rfl; apply LW.nil; refine thenN ?_; refine CW.ret ?_)
    refine fin (vs := [.slice po ps.length co]) (gsD ++ segO) (.inl rfl) rfl rfl (by (apply ResL.cons; exact Res.tmp rfl; exact ResL.nil)) ?_ ⟨ps, ?_, gsD, segO, rfl, hO, hD, hsm⟩
    · exact List.Sublist.append_left (List.sublist_append_left _ _) _
    · rw [hps, fewD]; congr 1; rw [Nat.min_comm, ← List.take_take, List.take_length]
end Go.Proofs.Ytailnglojnccnaa

/-
  Contracts of the pack's references: words compared; which parts may be; tails; the bytes of parts.
  Conditions: none.
-/
namespace Go.Proofs.Ytailnglojnccnaa
open Go Go.RowKit SL
set_option maxRecDepth 8000
set_option maxHeartbeats 4000000
set_option linter.unusedSimpArgs false
set_option linter.unusedVariables false
attribute [local irreducible] SL.CW SL.LW SL.DW Calls SL.Ret SL.RetG SL.beginQ SL.roundQ SL.rangeQ SL.inQ SL.RW SL.AnyW SL.thenQ SL.thenC SL.thenW SL.blkQ SL.finQ SL.ValP SL.NewP SL.SetP SL.CallP SL.Rd SL.Wr SL.Known
theorem pbit_and (a k : Nat) (hk : k < 256) : a / 2 ^ (64 * (k / 64)) % 18446744073709551616 / 2 ^ (k % 64) &&& 1 = a / 2 ^ k % 2 := by
  rw [Nat.and_one_is_mod, show (18446744073709551616 : Nat) = 2 ^ (k % 64 + (64 - k % 64)) by rw [show k % 64 + (64 - k % 64) = 64 by omega]]
  rw [Nat.pow_add, Nat.mod_mul_right_div_self, Nat.div_div_eq_div_mul, ← Nat.pow_add, show 64 * (k / 64) + k % 64 = k by omega]
  obtain ⟨j, hj⟩ : ∃ j, 64 - k % 64 = j + 1 := ⟨63 - k % 64, by omega⟩
  rw [hj, Nat.pow_succ, Nat.mod_mod_of_dvd _ ⟨2 ^ j, by rw [Nat.mul_comm]⟩]
theorem pcmp_eq (a b k : Nat) (h : a / 2 ^ (k + 1) = b / 2 ^ (k + 1)) (he : a / 2 ^ k % 2 = b / 2 ^ k % 2) : a / 2 ^ k = b / 2 ^ k := by
  rw [Nat.pow_succ, ← Nat.div_div_eq_div_mul, ← Nat.div_div_eq_div_mul] at h
  omega
theorem pcmp_lt (a b k : Nat) (h : a / 2 ^ (k + 1) = b / 2 ^ (k + 1)) (he : a / 2 ^ k % 2 < b / 2 ^ k % 2) : a < b := by
  rw [Nat.pow_succ, ← Nat.div_div_eq_div_mul, ← Nat.div_div_eq_div_mul] at h
  rcases Nat.lt_or_ge a b with h1 | h1
  · exact h1
  · have := Nat.div_le_div_right (c := 2 ^ k) h1
    omega
theorem prBit_calls (a n : Nat) (ha : a < M256) (hn : n < 9223372036854775808) (w : World) : Calls Try.prog 46 #[wv a, .int .i64 (n : Int)] w (Ret w (.int .i64 ((a / 2 ^ n % 2 : Nat) : Int))) := by
  refine enter (args := [_, _]) _ [] [] Try.func46 rfl Try.ntmps46 rfl (by simp) .nil ?_
  rcases Nat.lt_or_ge n 256 with h | h
  · have hX : a / 2 ^ (64 * (0 + n / 64 * 1)) % 18446744073709551616 / 2 ^ (n % 64) &&& 1 = a / 2 ^ n % 2 := by rw [show 0 + n / 64 * 1 = n / 64 by omega]; exact pbit_and a n h
    (refine CW.seq ?_; refine CW.region ?_; apply LW.boxA; rfl; rfl; intro _; apply LW.v0; rfl; rfl; apply ValP.assign; rfl; apply LW.nil; refine thenN ?_; refine CW.seq ?_; refine CW.seq ?_; refine CW.region ?_; apply LW.v0; rfl; rfl; apply ValP.move; rfl; apply LW.v0; rfl; rfl; apply ValP.lssF; rfl; rfl; omega; apply LW.v0; rfl; rfl; apply ValP.move; rfl; apply LW.guardT'; rfl; rfl; (with_reducible rfl); apply LW.v0; rfl; rfl; apply ValP.move; rfl; apply LW.guardT'; rfl; rfl; (with_reducible rfl); apply LW.v0; rfl; rfl; apply ValP.gtrF; rfl; rfl; omega; apply LW.v0; rfl; rfl; apply ValP.pickF'; rfl; (with_reducible rfl); rfl; apply LW.nil; refine thenN ?_; apply CW.condF; rfl; (with_reducible rfl); refine CW.skip ?_; refine thenN ?_; refine CW.seq ?_; refine CW.region ?_; apply LW.v0; rfl; rfl; apply ValP.move; rfl; apply LW.v0; rfl; rfl; apply ValP.quoZL; rfl; rfl; decide; omega; omega; apply LW.v0; rfl; rfl; apply ValP.indexAddrA; rfl; rfl; rfl; omega; apply LW.load; rfl; rfl; apply Known.at; apply FsAt.head; apply Rd.one'; apply nth_wc; omega; apply LW.v0; rfl; rfl; apply ValP.move; rfl; apply LW.v0; rfl; rfl; apply ValP.remZL; rfl; rfl; decide; omega; apply LW.v0; rfl; rfl; apply ValP.shrU; rfl; rfl; omega; apply LW.v0; rfl; rfl; apply ValP.andUL; rfl; rfl; decide; apply div64; omega; omega; apply LW.v0; rfl; rfl; apply ValP.convI; rfl; omega; omega; apply LW.v0; rfl; rfl; apply ValP.assign; rfl; apply LW.nil; refine thenN ?_; refine CW.ret ?_)
    (apply finR; exact .inl rfl; rfl; rfl; rfl; apply ResL.cons; exact Res.tmp rfl; exact ResL.nil)
    rw [hX]; rfl
  · have h0 : a / 2 ^ n % 2 = 0 := by
      rw [Nat.div_eq_of_lt]
      exact Nat.lt_of_lt_of_le ha (Nat.pow_le_pow_right (n := 2) (by decide) h)
    (refine CW.seq ?_; refine CW.region ?_; apply LW.boxA; rfl; rfl; intro _; apply LW.v0; rfl; rfl; apply ValP.assign; rfl; apply LW.nil; refine thenN ?_; refine CW.seq ?_; refine CW.seq ?_; refine CW.region ?_; apply LW.v0; rfl; rfl; apply ValP.move; rfl; apply LW.v0; rfl; rfl; apply ValP.lssF; rfl; rfl; omega; apply LW.v0; rfl; rfl; apply ValP.move; rfl; apply LW.guardT'; rfl; rfl; (with_reducible rfl); apply LW.v0; rfl; rfl; apply ValP.move; rfl; apply LW.guardT'; rfl; rfl; (with_reducible rfl); apply LW.v0; rfl; rfl; apply ValP.gtrT; rfl; rfl; omega; apply LW.v0; rfl; rfl; apply ValP.pickF'; rfl; (with_reducible rfl); rfl; apply LW.nil; refine thenN ?_; apply CW.condT; rfl; (with_reducible rfl); refine CW.seq ?_; refine CW.region ?_; apply LW.v0; rfl; rfl; apply ValP.assign; rfl; apply LW.nil; refine thenN ?_; refine CW.ret ?_; refine thenR ?_)
    (apply finR; exact .inl rfl; rfl; rfl; rfl; apply ResL.cons; exact Res.tmp rfl; exact ResL.nil)
    rw [h0]; rfl
theorem prCmp_calls (a b : Nat) (ha : a < M256) (hb : b < M256) (w : World) : Calls Try.prog 27 #[wv a, wv b] w (Ret w (.int .i64 (if a < b then -1 else if b < a then 1 else 0))) := by
  refine enter (args := [_, _]) _ [] [] Try.func27 rfl Try.ntmps27 rfl (by simp) .nil ?_
  (refine CW.seq ?_; refine CW.region ?_; apply LW.boxA; rfl; rfl; intro _; apply LW.boxA; rfl; rfl; intro _; apply LW.v0; rfl; rfl; apply ValP.assign; rfl; apply LW.nil; refine thenN ?_; refine CW.seq ?_; refine CW.seq ?_; refine CW.region ?_; apply LW.v0; rfl; rfl; apply ValP.assign; rfl; apply LW.nil; refine thenN ?_; refine CW.block ?_)
  rename_i ba bb
  refine CW.loop (fun m : Nat => ([(5, .int .i64 ((m : Int) - 1)), (4, .int .i64 0), (2, .pointer (some ⟨ba, 0, none⟩)), (3, .pointer (some ⟨bb, 0, none⟩))],
      [(bb, .cells (wc b) 37 (0, 0)), (ba, .cells (wc a) 37 (0, 0))]))
    (fun m => m ≤ 256 ∧ a / 2 ^ m = b / 2 ^ m) (fun m => m) 256 ⟨Nat.le_refl _, by rw [Nat.div_eq_of_lt ha, Nat.div_eq_of_lt hb]⟩ ⟨rfl, rfl, rfl, rfl, trivial⟩ (List.Sublist.refl _) ?_
  rintro m ⟨hm, he⟩
  dsimp only
  rcases m with _ | k
  · have hab : a = b := by simpa using he
    subst hab
    (refine CW.seq ?_; refine CW.seq ?_; refine CW.region ?_; apply LW.v0; rfl; rfl; apply ValP.move; rfl; apply LW.v0; rfl; rfl; apply ValP.geqF; rfl; rfl; omega; apply LW.nil; refine thenN ?_; apply CW.condF; rfl; (with_reducible rfl); refine CW.exit ?_; refine thenE ?_; refine thenE ?_; refine blkE rfl ?_; refine thenN ?_; refine CW.seq ?_; refine CW.region ?_; apply LW.v0; rfl; rfl; apply ValP.assign; rfl; apply LW.nil; refine thenN ?_; refine CW.ret ?_)
    (apply finR; exact .inl rfl; rfl; rfl; rfl; apply ResL.cons; exact Res.tmp rfl; exact ResL.nil)
    rw [if_neg (Nat.lt_irrefl a), if_neg (Nat.lt_irrefl a)]; rfl
  · have e0 : (((k + 1 : Nat) : Int) - 1) = (k : Int) := by omega
    rw [e0]
    rcases Nat.lt_trichotomy (a / 2 ^ k % 2) (b / 2 ^ k % 2) with h | h | h
    · have hlt := pcmp_lt a b k he h
      (refine CW.seq ?_; refine CW.seq ?_; refine CW.region ?_; apply LW.v0; rfl; rfl; apply ValP.move; rfl; apply LW.v0; rfl; rfl; apply ValP.geqT; rfl; rfl; omega; apply LW.nil; refine thenN ?_; apply CW.condT; rfl; (with_reducible rfl); refine CW.skip ?_; refine thenN ?_; refine CW.seq ?_; refine CW.block ?_; refine CW.seq ?_; apply CW.pre; refine AnyW.any 5 mixed (by decide +kernel) ?_; (try simp only [tsOf_cons, tsOf_nil, tsOf_app]); apply DW.loadO; rfl; rfl; rfl; exact WantT.none; rfl; apply TRead.tail; apply TRead.head; exact ancB_nil; exact Rd.whole rfl; apply DW.v0; rfl; rfl; rfl; exact WantT.none; rfl; apply ValP.move; rfl; apply DW.callE; rfl; rfl; rfl; exact WantT.none; rfl; infer_instance; apply ArgsOk.cons; rfl; apply ArgsOk.cons; rfl; exact ArgsOk.nil; rfl; exact ReadAll.nil; intro w _ _; refine prBit_calls _ _ ?_ ?_ w; assumption; omega; apply DW.loadO; rfl; rfl; rfl; exact WantT.none; rfl; apply TRead.head; exact ancB_nil; exact Rd.whole rfl; apply DW.v0; rfl; rfl; rfl; exact WantT.none; rfl; apply ValP.move; rfl; apply DW.nil; simp only [fsOf_cons, fsOf_nil, fsOf_app, fsOf_tsOf, fsOf_new]; apply LW.callE; rfl; rfl; infer_instance; apply ArgsOk.cons; rfl; apply ArgsOk.cons; rfl; exact ArgsOk.nil; intro w _; refine prBit_calls _ _ ?_ ?_ w; assumption; omega; apply LW.v0; rfl; rfl; apply ValP.assign; rfl; apply LW.v0; rfl; rfl; apply ValP.assign; rfl; apply LW.nil; refine thenN ?_; refine CW.seq ?_; refine CW.region ?_; apply LW.v0; rfl; rfl; apply ValP.move; rfl; apply LW.v0; rfl; rfl; apply ValP.move; rfl; apply LW.v0; rfl; rfl; apply ValP.lssT; rfl; rfl; omega; apply LW.nil; refine thenN ?_; apply CW.condT; rfl; (with_reducible rfl); refine CW.seq ?_; refine CW.region ?_; apply LW.v0; rfl; rfl; apply ValP.assign; rfl; apply LW.nil; refine thenN ?_; refine CW.ret ?_; refine blkR ?_; refine thenR ?_; refine thenR ?_; refine blkR ?_; refine thenR ?_)
      (apply finR; exact .inl rfl; rfl; rfl; rfl; apply ResL.cons; exact Res.tmp rfl; exact ResL.nil)
      rw [if_pos hlt]; rfl
    · have hq := pcmp_eq a b k he h
      (refine CW.seq ?_; refine CW.seq ?_; refine CW.region ?_; apply LW.v0; rfl; rfl; apply ValP.move; rfl; apply LW.v0; rfl; rfl; apply ValP.geqT; rfl; rfl; omega; apply LW.nil; refine thenN ?_; apply CW.condT; rfl; (with_reducible rfl); refine CW.skip ?_; refine thenN ?_; refine CW.seq ?_; refine CW.block ?_; refine CW.seq ?_; apply CW.pre; refine AnyW.any 5 mixed (by decide +kernel) ?_; (try simp only [tsOf_cons, tsOf_nil, tsOf_app]); apply DW.loadO; rfl; rfl; rfl; exact WantT.none; rfl; apply TRead.tail; apply TRead.head; exact ancB_nil; exact Rd.whole rfl; apply DW.v0; rfl; rfl; rfl; exact WantT.none; rfl; apply ValP.move; rfl; apply DW.callE; rfl; rfl; rfl; exact WantT.none; rfl; infer_instance; apply ArgsOk.cons; rfl; apply ArgsOk.cons; rfl; exact ArgsOk.nil; rfl; exact ReadAll.nil; intro w _ _; refine prBit_calls _ _ ?_ ?_ w; assumption; omega; apply DW.loadO; rfl; rfl; rfl; exact WantT.none; rfl; apply TRead.head; exact ancB_nil; exact Rd.whole rfl; apply DW.v0; rfl; rfl; rfl; exact WantT.none; rfl; apply ValP.move; rfl; apply DW.nil; simp only [fsOf_cons, fsOf_nil, fsOf_app, fsOf_tsOf, fsOf_new]; apply LW.callE; rfl; rfl; infer_instance; apply ArgsOk.cons; rfl; apply ArgsOk.cons; rfl; exact ArgsOk.nil; intro w _; refine prBit_calls _ _ ?_ ?_ w; assumption; omega; apply LW.v0; rfl; rfl; apply ValP.assign; rfl; apply LW.v0; rfl; rfl; apply ValP.assign; rfl; apply LW.nil; refine thenN ?_; refine CW.seq ?_; refine CW.region ?_; apply LW.v0; rfl; rfl; apply ValP.move; rfl; apply LW.v0; rfl; rfl; apply ValP.move; rfl; apply LW.v0; rfl; rfl; apply ValP.lssF; rfl; rfl; omega; apply LW.nil; refine thenN ?_; apply CW.condF; rfl; (with_reducible rfl); refine CW.seq ?_; refine CW.region ?_; apply LW.v0; rfl; rfl; apply ValP.move; rfl; apply LW.v0; rfl; rfl; apply ValP.move; rfl; apply LW.v0; rfl; rfl; apply ValP.gtrF; rfl; rfl; omega; apply LW.nil; refine thenN ?_; apply CW.condF; rfl; (with_reducible rfl); refine CW.skip ?_; refine blkN ?_; refine thenN ?_; refine CW.region ?_; apply LW.v0; rfl; rfl; apply ValP.move; rfl; apply LW.v0; rfl; rfl; apply ValP.subI; rfl; rfl; omega; omega; apply LW.v0; rfl; rfl; apply ValP.assign; rfl; apply LW.nil)
      apply thenX
      exact ⟨rfl, k, ⟨by omega, hq⟩, Nat.lt_succ_self k, ⟨rfl, rfl, rfl, rfl, trivial⟩, List.Sublist.refl _⟩
    · have hlt := pcmp_lt b a k he.symm h
      (refine CW.seq ?_; refine CW.seq ?_; refine CW.region ?_; apply LW.v0; rfl; rfl; apply ValP.move; rfl; apply LW.v0; rfl; rfl; apply ValP.geqT; rfl; rfl; omega; apply LW.nil; refine thenN ?_; apply CW.condT; rfl; (with_reducible rfl); refine CW.skip ?_; refine thenN ?_; refine CW.seq ?_; refine CW.block ?_; refine CW.seq ?_; apply CW.pre; refine AnyW.any 5 mixed (by decide +kernel) ?_; (try simp only [tsOf_cons, tsOf_nil, tsOf_app]); apply DW.loadO; rfl; rfl; rfl; exact WantT.none; rfl; apply TRead.tail; apply TRead.head; exact ancB_nil; exact Rd.whole rfl; apply DW.v0; rfl; rfl; rfl; exact WantT.none; rfl; apply ValP.move; rfl; apply DW.callE; rfl; rfl; rfl; exact WantT.none; rfl; infer_instance; apply ArgsOk.cons; rfl; apply ArgsOk.cons; rfl; exact ArgsOk.nil; rfl; exact ReadAll.nil; intro w _ _; refine prBit_calls _ _ ?_ ?_ w; assumption; omega; apply DW.loadO; rfl; rfl; rfl; exact WantT.none; rfl; apply TRead.head; exact ancB_nil; exact Rd.whole rfl; apply DW.v0; rfl; rfl; rfl; exact WantT.none; rfl; apply ValP.move; rfl; apply DW.nil; simp only [fsOf_cons, fsOf_nil, fsOf_app, fsOf_tsOf, fsOf_new]; apply LW.callE; rfl; rfl; infer_instance; apply ArgsOk.cons; rfl; apply ArgsOk.cons; rfl; exact ArgsOk.nil; intro w _; refine prBit_calls _ _ ?_ ?_ w; assumption; omega; apply LW.v0; rfl; rfl; apply ValP.assign; rfl; apply LW.v0; rfl; rfl; apply ValP.assign; rfl; apply LW.nil; refine thenN ?_; refine CW.seq ?_; refine CW.region ?_; apply LW.v0; rfl; rfl; apply ValP.move; rfl; apply LW.v0; rfl; rfl; apply ValP.move; rfl; apply LW.v0; rfl; rfl; apply ValP.lssF; rfl; rfl; omega; apply LW.nil; refine thenN ?_; apply CW.condF; rfl; (with_reducible rfl); refine CW.seq ?_; refine CW.region ?_; apply LW.v0; rfl; rfl; apply ValP.move; rfl; apply LW.v0; rfl; rfl; apply ValP.move; rfl; apply LW.v0; rfl; rfl; apply ValP.gtrT; rfl; rfl; omega; apply LW.nil; refine thenN ?_; apply CW.condT; rfl; (with_reducible rfl); refine CW.seq ?_; refine CW.region ?_; apply LW.v0; rfl; rfl; apply ValP.assign; rfl; apply LW.nil; refine thenN ?_; refine CW.ret ?_; refine blkR ?_; refine thenR ?_; refine thenR ?_; refine blkR ?_; refine thenR ?_)
      (apply finR; exact .inl rfl; rfl; rfl; rfl; apply ResL.cons; exact Res.tmp rfl; exact ResL.nil)
      rw [if_neg (by omega), if_pos hlt]; rfl
/-! ### Which parts may be -/
theorem ok_iff (l : List PartV) : okP l = true ↔ ∀ j (h : j < l.length), rightP l[j] = true := by
  rw [okP, List.all_eq_true]
  constructor
  · intro h j hj; exact h _ (List.getElem_mem hj)
  · intro h x hx
    obtain ⟨j, hj, rfl⟩ := List.getElem_of_mem hx
    exact h j hj
theorem rError_calls (l : List PartV) (v : Value) (w : World) (hv : PartsAt w v l) : Calls Try.prog 20 #[v] w (Ret w (.int .i64 (chkP l))) := by
  obtain ⟨p, c, rfl, hc, hm⟩ := hv.row.form
  simp only [maxLen] at hm
  rcases Nat.lt_or_ge 16 l.length with h16 | h16
  · rw [chkP, if_pos h16]
    refine enter (args := [_]) _ [] [] Try.func20 rfl Try.ntmps20 rfl (by simp) .nil ?_
    (refine CW.seq ?_; refine CW.region ?_; apply LW.v0; rfl; rfl; apply ValP.assign; rfl; apply LW.nil; refine thenN ?_; refine CW.seq ?_; refine CW.seq ?_; refine CW.region ?_; apply LW.v0; rfl; rfl; apply ValP.move; rfl; apply LW.v0; rfl; rfl; apply ValP.lenR; rfl; infer_instance; rfl; apply LW.v0; rfl; rfl; apply ValP.gtrT; rfl; rfl; omega; apply LW.nil; refine thenN ?_; apply CW.condT; rfl; (with_reducible rfl); refine CW.seq ?_; refine CW.region ?_; apply LW.v0; rfl; rfl; apply ValP.assign; rfl; apply LW.nil; refine thenN ?_; refine CW.ret ?_; refine thenR ?_)
    (apply finR; exact .inl rfl; rfl; rfl; rfl; apply ResL.cons; exact Res.tmp rfl; exact ResL.nil)
    rfl
  · rw [chkP, if_neg (by omega)]
    refine enter (args := [_]) _ [] [] Try.func20 rfl Try.ntmps20 rfl (by simp) .nil ?_
    (refine CW.seq ?_; refine CW.region ?_; apply LW.v0; rfl; rfl; apply ValP.assign; rfl; apply LW.nil; refine thenN ?_; refine CW.seq ?_; refine CW.seq ?_; refine CW.region ?_; apply LW.v0; rfl; rfl; apply ValP.move; rfl; apply LW.v0; rfl; rfl; apply ValP.lenR; rfl; infer_instance; rfl; apply LW.v0; rfl; rfl; apply ValP.gtrF; rfl; rfl; omega; apply LW.nil; refine thenN ?_; apply CW.condF; rfl; (with_reducible rfl); refine CW.skip ?_; refine thenN ?_; refine CW.seq ?_; refine CW.seq ?_; refine CW.region ?_; apply LW.v0; rfl; rfl; apply ValP.move; rfl; apply LW.v0; rfl; rfl; apply ValP.lenR; rfl; infer_instance; rfl; apply LW.v0; rfl; rfl; apply ValP.move; rfl; apply LW.nil; refine thenN ?_; refine CW.block ?_)
    refine CW.loop (fun k : Nat => ([(10, .int .i64 (k : Int)), (9, .int .i64 (l.length : Int)), (8, .slice p l.length c)], []))
      (fun k => k ≤ l.length ∧ ∀ j (_ : j < k) (h : j < l.length), rightP l[j] = true) (fun k => l.length - k) 0 ⟨Nat.zero_le _, fun j h => by omega⟩ ⟨rfl, rfl, rfl, trivial⟩ (List.nil_sublist _) ?_
    rintro k ⟨hk, hall⟩
    dsimp only at hk hall ⊢
    rcases Nat.lt_or_ge k l.length with hlt | hge
    · obtain ⟨b, off, c', cs, E, fr, heq, hb, hrd0⟩ := part_rd hv k hlt
      cases heq
      have hrd : Rd Try.prog 39 (.cells cs E fr) (off + k * 6) (.agg (psa l[k])) := hrd0
      clear hrd0
      have ho := hv.one _ (List.getElem_mem hlt)
      have hdv := hv.data _ (List.getElem_mem hlt)
      have hwd := hv.small _ (List.getElem_mem hlt)
      have hz : (0 : Nat) < M256 := by decide
      obtain ⟨P, hP⟩ : ∃ P, l[k] = P := ⟨_, rfl⟩
      rw [hP] at hrd ho hdv hwd
      have hbad : rightP P = false → okP l = false := fun h => by
        cases h5 : okP l with
        | false => rfl
        | true => have := (ok_iff l).1 h5 k hlt; rw [hP, h] at this; cases this
      have hgood : rightP P = true → ∀ j (_ : j < k + 1) (h : j < l.length), rightP l[j] = true := fun h j hj g => by
        rcases Nat.lt_or_ge j k with hjk | hjk
        · exact hall j hjk g
        · obtain rfl : j = k := by omega
          rw [hP]; exact h
      obtain ⟨q, cq, hq, hcq, _⟩ := hdv.form
      have hr2 : ∀ {E fr} , Rd Try.prog 25 (.cells (psa P) E fr) 5 (.slice q P.db.length cq) := fun {E fr} => by rw [← hq]; exact ps_rd2
      cases hlg : P.lg with
      | true =>
        have hr0 : ∀ {E fr} , Rd Try.prog 4 (.cells (psa P) E fr) 0 (.bool true) := fun {E fr} => by rw [← hlg]; exact ps_rd0
        have hrp := rightP_long hlg
        by_cases h1 : P.wd = 0
        · rcases Nat.lt_or_ge 200 P.db.length with h2 | h2
          · rw [hbad (by rw [hrp, decide_eq_true h1, decide_eq_false (by omega)]; rfl)]
            (refine CW.seq ?_; refine CW.region ?_; apply LW.v0; rfl; rfl; apply ValP.lssT; rfl; rfl; omega; apply LW.nil; refine thenN ?_; refine CW.seq ?_; apply CW.condT; rfl; (with_reducible rfl); refine CW.skip ?_; refine thenN ?_; refine CW.seq ?_; refine CW.block ?_; refine CW.seq ?_; refine CW.region ?_; apply LW.v0; rfl; rfl; apply ValP.indexAddrS; rfl; rfl; rfl; omega; apply LW.load; rfl; rfl; exact Known.ext (by assumption) (by simp); assumption; apply LW.allocA; rfl; intro _; apply LW.store; rfl; rfl; apply SetAt.head; apply ps_wrW; rfl; assumption; apply LW.nil; refine thenN ?_; refine CW.seq ?_; refine CW.region ?_; apply LW.v0; rfl; rfl; apply ValP.fieldAddr; rfl; rfl; apply LW.load; rfl; rfl; apply Known.at; apply FsAt.head; exact hr0; apply LW.v0; rfl; rfl; apply ValP.move; rfl; apply LW.guardT'; rfl; rfl; (with_reducible rfl); apply LW.v0; rfl; rfl; apply ValP.fieldAddr; rfl; rfl; apply LW.guardT'; rfl; rfl; (with_reducible rfl); apply LW.load; rfl; rfl; apply Known.at; apply FsAt.head; exact ps_rd1; apply LW.guardT'; rfl; rfl; (with_reducible rfl); apply LW.v0; rfl; rfl; exact ValP.buildW0; apply LW.guardT'; rfl; rfl; (with_reducible rfl); apply LW.v0; rfl; rfl; apply ValP.neWF; rfl; rfl; assumption; apply LW.guardT'; rfl; rfl; (with_reducible rfl); apply LW.v0; rfl; rfl; apply ValP.move; rfl; apply LW.guardT'; rfl; rfl; (with_reducible rfl); apply LW.v0; rfl; rfl; apply ValP.fieldAddr; rfl; rfl; apply LW.guardT'; rfl; rfl; (with_reducible rfl); apply LW.load; rfl; rfl; apply Known.at; apply FsAt.head; exact hr2; apply LW.guardT'; rfl; rfl; (with_reducible rfl); apply LW.v0; rfl; rfl; apply ValP.lenR; rfl; infer_instance; rfl; apply LW.guardT'; rfl; rfl; (with_reducible rfl); apply LW.v0; rfl; rfl; apply ValP.gtrT; rfl; rfl; omega; apply LW.guardT'; rfl; rfl; (with_reducible rfl); apply LW.v0; rfl; rfl; apply ValP.pickF'; rfl; (with_reducible rfl); rfl; apply LW.v0; rfl; rfl; apply ValP.pickT'; rfl; (with_reducible rfl); rfl; apply LW.v0; rfl; rfl; apply ValP.move; rfl; apply LW.guardF'; rfl; rfl; simp only [Bool.not_true, Bool.not_false]; rfl; apply LW.guardF'; rfl; rfl; simp only [Bool.not_true, Bool.not_false]; rfl; apply LW.guardF'; rfl; rfl; simp only [Bool.not_true, Bool.not_false]; rfl; apply LW.guardF'; rfl; rfl; simp only [Bool.not_true, Bool.not_false]; rfl; apply LW.guardU; rfl; rfl; rfl; apply LW.guardU; rfl; rfl; rfl; apply LW.guardU; rfl; rfl; rfl; apply LW.guardU; rfl; rfl; rfl; apply LW.guardF'; rfl; rfl; simp only [Bool.not_true, Bool.not_false]; rfl; apply LW.v0; rfl; rfl; apply ValP.pickT'; rfl; (with_reducible rfl); rfl; apply LW.nil; refine thenN ?_; apply CW.condT; rfl; (with_reducible rfl); refine CW.seq ?_; refine CW.region ?_; apply LW.v0; rfl; rfl; apply ValP.assign; rfl; apply LW.nil; refine thenN ?_; refine CW.ret ?_; refine blkR ?_; refine thenR ?_; refine thenR ?_; refine blkR ?_; refine thenR ?_)
            (apply finR; exact .inl rfl; rfl; rfl; rfl; apply ResL.cons; exact Res.tmp rfl; exact ResL.nil)
            rfl
          · (refine CW.seq ?_; refine CW.region ?_; apply LW.v0; rfl; rfl; apply ValP.lssT; rfl; rfl; omega; apply LW.nil; refine thenN ?_; refine CW.seq ?_; apply CW.condT; rfl; (with_reducible rfl); refine CW.skip ?_; refine thenN ?_; refine CW.seq ?_; refine CW.block ?_; refine CW.seq ?_; refine CW.region ?_; apply LW.v0; rfl; rfl; apply ValP.indexAddrS; rfl; rfl; rfl; omega; apply LW.load; rfl; rfl; exact Known.ext (by assumption) (by simp); assumption; apply LW.allocA; rfl; intro _; apply LW.store; rfl; rfl; apply SetAt.head; apply ps_wrW; rfl; assumption; apply LW.nil; refine thenN ?_; refine CW.seq ?_; refine CW.region ?_; apply LW.v0; rfl; rfl; apply ValP.fieldAddr; rfl; rfl; apply LW.load; rfl; rfl; apply Known.at; apply FsAt.head; exact hr0; apply LW.v0; rfl; rfl; apply ValP.move; rfl; apply LW.guardT'; rfl; rfl; (with_reducible rfl); apply LW.v0; rfl; rfl; apply ValP.fieldAddr; rfl; rfl; apply LW.guardT'; rfl; rfl; (with_reducible rfl); apply LW.load; rfl; rfl; apply Known.at; apply FsAt.head; exact ps_rd1; apply LW.guardT'; rfl; rfl; (with_reducible rfl); apply LW.v0; rfl; rfl; exact ValP.buildW0; apply LW.guardT'; rfl; rfl; (with_reducible rfl); apply LW.v0; rfl; rfl; apply ValP.neWF; rfl; rfl; assumption; apply LW.guardT'; rfl; rfl; (with_reducible rfl); apply LW.v0; rfl; rfl; apply ValP.move; rfl; apply LW.guardT'; rfl; rfl; (with_reducible rfl); apply LW.v0; rfl; rfl; apply ValP.fieldAddr; rfl; rfl; apply LW.guardT'; rfl; rfl; (with_reducible rfl); apply LW.load; rfl; rfl; apply Known.at; apply FsAt.head; exact hr2; apply LW.guardT'; rfl; rfl; (with_reducible rfl); apply LW.v0; rfl; rfl; apply ValP.lenR; rfl; infer_instance; rfl; apply LW.guardT'; rfl; rfl; (with_reducible rfl); apply LW.v0; rfl; rfl; apply ValP.gtrF; rfl; rfl; omega; apply LW.guardT'; rfl; rfl; (with_reducible rfl); apply LW.v0; rfl; rfl; apply ValP.pickF'; rfl; (with_reducible rfl); rfl; apply LW.v0; rfl; rfl; apply ValP.pickT'; rfl; (with_reducible rfl); rfl; apply LW.v0; rfl; rfl; apply ValP.move; rfl; apply LW.guardT'; rfl; rfl; (with_reducible rfl); apply LW.v0; rfl; rfl; apply ValP.fieldAddr; rfl; rfl; apply LW.guardT'; rfl; rfl; (with_reducible rfl); apply LW.load; rfl; rfl; apply Known.at; apply FsAt.head; exact hr0; apply LW.guardT'; rfl; rfl; (with_reducible rfl); apply LW.v0; rfl; rfl; apply ValP.notT; rfl; (with_reducible rfl); apply LW.guardT'; rfl; rfl; (with_reducible rfl); apply LW.v0; rfl; rfl; apply ValP.move; rfl; apply LW.guardF'; rfl; rfl; simp only [Bool.not_true, Bool.not_false]; rfl; apply LW.guardF'; rfl; rfl; simp only [Bool.not_true, Bool.not_false]; rfl; apply LW.guardF'; rfl; rfl; simp only [Bool.not_true, Bool.not_false]; rfl; apply LW.guardF'; rfl; rfl; simp only [Bool.not_true, Bool.not_false]; rfl; apply LW.guardT'; rfl; rfl; (with_reducible rfl); apply LW.v0; rfl; rfl; apply ValP.pickF'; rfl; (with_reducible rfl); rfl; apply LW.v0; rfl; rfl; apply ValP.pickF'; rfl; (with_reducible rfl); rfl; apply LW.nil; refine thenN ?_; apply CW.condF; rfl; (with_reducible rfl); refine CW.skip ?_; refine blkN ?_; refine thenN ?_; refine CW.region ?_; apply LW.v0; rfl; rfl; apply ValP.addZL; rfl; rfl; decide; omega; apply LW.v0; rfl; rfl; apply ValP.move; rfl; apply LW.nil)
            apply thenX
            exact ⟨rfl, k + 1, ⟨hlt, hgood (by rw [hrp, decide_eq_true h1, decide_eq_true h2]; rfl)⟩, by omega, ⟨rfl, rfl, rfl, trivial⟩, List.nil_sublist _⟩
        · rw [hbad (by rw [hrp, decide_eq_false h1]; rfl)]
          (refine CW.seq ?_; refine CW.region ?_; apply LW.v0; rfl; rfl; apply ValP.lssT; rfl; rfl; omega; apply LW.nil; refine thenN ?_; refine CW.seq ?_; apply CW.condT; rfl; (with_reducible rfl); refine CW.skip ?_; refine thenN ?_; refine CW.seq ?_; refine CW.block ?_; refine CW.seq ?_; refine CW.region ?_; apply LW.v0; rfl; rfl; apply ValP.indexAddrS; rfl; rfl; rfl; omega; apply LW.load; rfl; rfl; exact Known.ext (by assumption) (by simp); assumption; apply LW.allocA; rfl; intro _; apply LW.store; rfl; rfl; apply SetAt.head; apply ps_wrW; rfl; assumption; apply LW.nil; refine thenN ?_; refine CW.seq ?_; refine CW.region ?_; apply LW.v0; rfl; rfl; apply ValP.fieldAddr; rfl; rfl; apply LW.load; rfl; rfl; apply Known.at; apply FsAt.head; exact hr0; apply LW.v0; rfl; rfl; apply ValP.move; rfl; apply LW.guardT'; rfl; rfl; (with_reducible rfl); apply LW.v0; rfl; rfl; apply ValP.fieldAddr; rfl; rfl; apply LW.guardT'; rfl; rfl; (with_reducible rfl); apply LW.load; rfl; rfl; apply Known.at; apply FsAt.head; exact ps_rd1; apply LW.guardT'; rfl; rfl; (with_reducible rfl); apply LW.v0; rfl; rfl; exact ValP.buildW0; apply LW.guardT'; rfl; rfl; (with_reducible rfl); apply LW.v0; rfl; rfl; apply ValP.neWT; rfl; rfl; assumption; assumption; assumption; apply LW.guardT'; rfl; rfl; (with_reducible rfl); apply LW.v0; rfl; rfl; apply ValP.move; rfl; apply LW.guardF'; rfl; rfl; simp only [Bool.not_true, Bool.not_false]; rfl; apply LW.guardF'; rfl; rfl; simp only [Bool.not_true, Bool.not_false]; rfl; apply LW.guardF'; rfl; rfl; simp only [Bool.not_true, Bool.not_false]; rfl; apply LW.guardF'; rfl; rfl; simp only [Bool.not_true, Bool.not_false]; rfl; apply LW.guardT'; rfl; rfl; (with_reducible rfl); apply LW.v0; rfl; rfl; apply ValP.pickT'; rfl; (with_reducible rfl); rfl; apply LW.v0; rfl; rfl; apply ValP.pickT'; rfl; (with_reducible rfl); rfl; apply LW.v0; rfl; rfl; apply ValP.move; rfl; apply LW.guardF'; rfl; rfl; simp only [Bool.not_true, Bool.not_false]; rfl; apply LW.guardF'; rfl; rfl; simp only [Bool.not_true, Bool.not_false]; rfl; apply LW.guardF'; rfl; rfl; simp only [Bool.not_true, Bool.not_false]; rfl; apply LW.guardF'; rfl; rfl; simp only [Bool.not_true, Bool.not_false]; rfl; apply LW.guardU; rfl; rfl; rfl; apply LW.guardU; rfl; rfl; rfl; apply LW.guardU; rfl; rfl; rfl; apply LW.guardU; rfl; rfl; rfl; apply LW.guardF'; rfl; rfl; simp only [Bool.not_true, Bool.not_false]; rfl; apply LW.v0; rfl; rfl; apply ValP.pickT'; rfl; (with_reducible rfl); rfl; apply LW.nil; refine thenN ?_; apply CW.condT; rfl; (with_reducible rfl); refine CW.seq ?_; refine CW.region ?_; apply LW.v0; rfl; rfl; apply ValP.assign; rfl; apply LW.nil; refine thenN ?_; refine CW.ret ?_; refine blkR ?_; refine thenR ?_; refine thenR ?_; refine blkR ?_; refine thenR ?_)
          (apply finR; exact .inl rfl; rfl; rfl; rfl; apply ResL.cons; exact Res.tmp rfl; exact ResL.nil)
          rfl
      | false =>
        have hr0 : ∀ {E fr} , Rd Try.prog 4 (.cells (psa P) E fr) 0 (.bool false) := fun {E fr} => by rw [← hlg]; exact ps_rd0
        have hrp := rightP_short hlg
        rcases Nat.eq_zero_or_pos P.db.length with h2 | h2
        · (refine CW.seq ?_; refine CW.region ?_; apply LW.v0; rfl; rfl; apply ValP.lssT; rfl; rfl; omega; apply LW.nil; refine thenN ?_; refine CW.seq ?_; apply CW.condT; rfl; (with_reducible rfl); refine CW.skip ?_; refine thenN ?_; refine CW.seq ?_; refine CW.block ?_; refine CW.seq ?_; refine CW.region ?_; apply LW.v0; rfl; rfl; apply ValP.indexAddrS; rfl; rfl; rfl; omega; apply LW.load; rfl; rfl; exact Known.ext (by assumption) (by simp); assumption; apply LW.allocA; rfl; intro _; apply LW.store; rfl; rfl; apply SetAt.head; apply ps_wrW; rfl; assumption; apply LW.nil; refine thenN ?_; refine CW.seq ?_; refine CW.region ?_; apply LW.v0; rfl; rfl; apply ValP.fieldAddr; rfl; rfl; apply LW.load; rfl; rfl; apply Known.at; apply FsAt.head; exact hr0; apply LW.v0; rfl; rfl; apply ValP.move; rfl; apply LW.guardF'; rfl; rfl; simp only [Bool.not_true, Bool.not_false]; rfl; apply LW.guardF'; rfl; rfl; simp only [Bool.not_true, Bool.not_false]; rfl; apply LW.guardF'; rfl; rfl; simp only [Bool.not_true, Bool.not_false]; rfl; apply LW.guardF'; rfl; rfl; simp only [Bool.not_true, Bool.not_false]; rfl; apply LW.guardF'; rfl; rfl; simp only [Bool.not_true, Bool.not_false]; rfl; apply LW.guardU; rfl; rfl; rfl; apply LW.guardU; rfl; rfl; rfl; apply LW.guardU; rfl; rfl; rfl; apply LW.guardU; rfl; rfl; rfl; apply LW.guardF'; rfl; rfl; simp only [Bool.not_true, Bool.not_false]; rfl; apply LW.v0; rfl; rfl; apply ValP.pickF'; rfl; (with_reducible rfl); rfl; apply LW.v0; rfl; rfl; apply ValP.move; rfl; apply LW.guardT'; rfl; rfl; (with_reducible rfl); apply LW.v0; rfl; rfl; apply ValP.fieldAddr; rfl; rfl; apply LW.guardT'; rfl; rfl; (with_reducible rfl); apply LW.load; rfl; rfl; apply Known.at; apply FsAt.head; exact hr0; apply LW.guardT'; rfl; rfl; (with_reducible rfl); apply LW.v0; rfl; rfl; apply ValP.notF; rfl; (with_reducible rfl); apply LW.guardT'; rfl; rfl; (with_reducible rfl); apply LW.v0; rfl; rfl; apply ValP.move; rfl; apply LW.guardT'; rfl; rfl; (with_reducible rfl); apply LW.v0; rfl; rfl; apply ValP.fieldAddr; rfl; rfl; apply LW.guardT'; rfl; rfl; (with_reducible rfl); apply LW.load; rfl; rfl; apply Known.at; apply FsAt.head; exact hr2; apply LW.guardT'; rfl; rfl; (with_reducible rfl); apply LW.v0; rfl; rfl; apply ValP.lenR; rfl; infer_instance; rfl; apply LW.guardT'; rfl; rfl; (with_reducible rfl); apply LW.v0; rfl; rfl; apply ValP.gtrF; rfl; rfl; omega; apply LW.guardT'; rfl; rfl; (with_reducible rfl); apply LW.v0; rfl; rfl; apply ValP.pickT'; rfl; (with_reducible rfl); rfl; apply LW.v0; rfl; rfl; apply ValP.pickF'; rfl; (with_reducible rfl); rfl; apply LW.nil; refine thenN ?_; apply CW.condF; rfl; (with_reducible rfl); refine CW.skip ?_; refine blkN ?_; refine thenN ?_; refine CW.region ?_; apply LW.v0; rfl; rfl; apply ValP.addZL; rfl; rfl; decide; omega; apply LW.v0; rfl; rfl; apply ValP.move; rfl; apply LW.nil)
          apply thenX
          exact ⟨rfl, k + 1, ⟨hlt, hgood (by rw [hrp, decide_eq_true h2])⟩, by omega, ⟨rfl, rfl, rfl, trivial⟩, List.nil_sublist _⟩
        · rw [hbad (by rw [hrp, decide_eq_false (by omega)])]
          (refine CW.seq ?_; refine CW.region ?_; apply LW.v0; rfl; rfl; apply ValP.lssT; rfl; rfl; omega; apply LW.nil; refine thenN ?_; refine CW.seq ?_; apply CW.condT; rfl; (with_reducible rfl); refine CW.skip ?_; refine thenN ?_; refine CW.seq ?_; refine CW.block ?_; refine CW.seq ?_; refine CW.region ?_; apply LW.v0; rfl; rfl; apply ValP.indexAddrS; rfl; rfl; rfl; omega; apply LW.load; rfl; rfl; exact Known.ext (by assumption) (by simp); assumption; apply LW.allocA; rfl; intro _; apply LW.store; rfl; rfl; apply SetAt.head; apply ps_wrW; rfl; assumption; apply LW.nil; refine thenN ?_; refine CW.seq ?_; refine CW.region ?_; apply LW.v0; rfl; rfl; apply ValP.fieldAddr; rfl; rfl; apply LW.load; rfl; rfl; apply Known.at; apply FsAt.head; exact hr0; apply LW.v0; rfl; rfl; apply ValP.move; rfl; apply LW.guardF'; rfl; rfl; simp only [Bool.not_true, Bool.not_false]; rfl; apply LW.guardF'; rfl; rfl; simp only [Bool.not_true, Bool.not_false]; rfl; apply LW.guardF'; rfl; rfl; simp only [Bool.not_true, Bool.not_false]; rfl; apply LW.guardF'; rfl; rfl; simp only [Bool.not_true, Bool.not_false]; rfl; apply LW.guardF'; rfl; rfl; simp only [Bool.not_true, Bool.not_false]; rfl; apply LW.guardU; rfl; rfl; rfl; apply LW.guardU; rfl; rfl; rfl; apply LW.guardU; rfl; rfl; rfl; apply LW.guardU; rfl; rfl; rfl; apply LW.guardF'; rfl; rfl; simp only [Bool.not_true, Bool.not_false]; rfl; apply LW.v0; rfl; rfl; apply ValP.pickF'; rfl; (with_reducible rfl); rfl; apply LW.v0; rfl; rfl; apply ValP.move; rfl; apply LW.guardT'; rfl; rfl; (with_reducible rfl); apply LW.v0; rfl; rfl; apply ValP.fieldAddr; rfl; rfl; apply LW.guardT'; rfl; rfl; (with_reducible rfl); apply LW.load; rfl; rfl; apply Known.at; apply FsAt.head; exact hr0; apply LW.guardT'; rfl; rfl; (with_reducible rfl); apply LW.v0; rfl; rfl; apply ValP.notF; rfl; (with_reducible rfl); apply LW.guardT'; rfl; rfl; (with_reducible rfl); apply LW.v0; rfl; rfl; apply ValP.move; rfl; apply LW.guardT'; rfl; rfl; (with_reducible rfl); apply LW.v0; rfl; rfl; apply ValP.fieldAddr; rfl; rfl; apply LW.guardT'; rfl; rfl; (with_reducible rfl); apply LW.load; rfl; rfl; apply Known.at; apply FsAt.head; exact hr2; apply LW.guardT'; rfl; rfl; (with_reducible rfl); apply LW.v0; rfl; rfl; apply ValP.lenR; rfl; infer_instance; rfl; apply LW.guardT'; rfl; rfl; (with_reducible rfl); apply LW.v0; rfl; rfl; apply ValP.gtrT; rfl; rfl; omega; apply LW.guardT'; rfl; rfl; (with_reducible rfl); apply LW.v0; rfl; rfl; apply ValP.pickT'; rfl; (with_reducible rfl); rfl; apply LW.v0; rfl; rfl; apply ValP.pickF'; rfl; (with_reducible rfl); rfl; apply LW.nil; refine thenN ?_; apply CW.condT; rfl; (with_reducible rfl); refine CW.seq ?_; refine CW.region ?_; apply LW.v0; rfl; rfl; apply ValP.assign; rfl; apply LW.nil; refine thenN ?_; refine CW.ret ?_; refine blkR ?_; refine thenR ?_; refine thenR ?_; refine blkR ?_; refine thenR ?_)
          (apply finR; exact .inl rfl; rfl; rfl; rfl; apply ResL.cons; exact Res.tmp rfl; exact ResL.nil)
          rfl
    · obtain rfl : k = l.length := by omega
      rw [if_pos ((ok_iff l).2 fun j h => hall j h h)]
      (refine CW.seq ?_; refine CW.region ?_; apply LW.v0; rfl; rfl; apply ValP.lssF; rfl; rfl; omega; apply LW.nil; refine thenN ?_; refine CW.seq ?_; apply CW.condF; rfl; (with_reducible rfl); refine CW.exit ?_; refine thenE ?_; refine thenE ?_; refine blkE rfl ?_; refine thenN ?_; refine CW.seq ?_; refine CW.region ?_; apply LW.v0; rfl; rfl; apply ValP.assign; rfl; apply LW.nil; refine thenN ?_; refine CW.ret ?_)
      (apply finR; exact .inl rfl; rfl; rfl; rfl; apply ResL.cons; exact Res.tmp rfl; exact ResL.nil)
      rfl
end Go.Proofs.Ytailnglojnccnaa
