/-
  Words and their digits: contracts.
  Conditions: none.
-/
import Derived.Test.YtahoghldnijnbaaW26
import Derived.Test.YtahoghldnijnbaaSlw
import Derived.Laws.Externs
namespace Go.Proofs.Ytahoghldnijnbaa
open Go Go.RowKit SL
set_option maxRecDepth 8000
set_option maxHeartbeats 4000000
set_option linter.unusedSimpArgs false
set_option linter.unusedVariables false
attribute [local irreducible] SL.CW SL.LW SL.DW Calls SL.Ret SL.RetG SL.beginQ SL.roundQ SL.rangeQ SL.inQ SL.RW SL.AnyW SL.thenQ SL.thenC SL.thenW SL.blkQ SL.finQ SL.ValP SL.NewP SL.SetP SL.CallP SL.Rd SL.Wr SL.Known
/-! ### Digits, and what they say -/
def hexu (u : UInt8) : Option Nat := if 48 ≤ u.toNat ∧ u.toNat ≤ 57 then some (u.toNat - 48) else if 97 ≤ u.toNat ∧ u.toNat ≤ 102 then some (u.toNat - 87) else none
theorem hexu_lt {u : UInt8} {d : Nat} (h : hexu u = some d) : d < 16 := by
  unfold hexu at h
  split at h
  · simp only [Option.some.injEq] at h; omega
  · split at h
    · simp only [Option.some.injEq] at h; omega
    · cases h
theorem hexu_small {u : UInt8} {d : Nat} (h : hexu u = some d) : u.toNat < 128 := by
  unfold hexu at h
  split at h
  · omega
  · split at h
    · omega
    · cases h
theorem hexd_hexu {u : UInt8} {d : Nat} (h : hexu u = some d) : hexd d = u := by
  have hu := u.toNat_lt
  apply UInt8.toNat_inj.1
  unfold hexu at h
  unfold hexd
  rw [UInt8.toNat_ofNat']
  split at h
  · simp only [Option.some.injEq] at h; rw [if_pos (by omega)]; omega
  · split at h
    · simp only [Option.some.injEq] at h; rw [if_neg (by omega)]; omega
    · cases h
theorem hexu_hexd : ∀ d, d < 16 → hexu (hexd d) = some d := by decide
theorem hexd_zero : ∀ d, d < 16 → hexd d = 48 → d = 0 := by decide
def hexfold (a : Nat) (l : List UInt8) : Option Nat := l.foldlM (fun n u => (hexu u).map (16 * n + ·)) a
def hexval (l : List UInt8) : Option Nat := hexfold 0 l
theorem hexval_nil : hexval [] = some 0 := rfl
theorem hexval_snoc (l : List UInt8) (u : UInt8) : hexval (l ++ [u]) = (hexval l).bind fun n => (hexu u).map (16 * n + ·) := by
  unfold hexval hexfold
  rw [List.foldlM_append]
  congr 1
  funext n
  cases h : hexu u <;> simp [h]
theorem hexval_some {l : List UInt8} {u : UInt8} {n d : Nat} (hl : hexval l = some n) (hu : hexu u = some d) : hexval (l ++ [u]) = some (16 * n + d) := by rw [hexval_snoc, hl, hu]; rfl
theorem hexval_none {l : List UInt8} {u : UInt8} (hu : hexu u = none) : hexval (l ++ [u]) = none := by rw [hexval_snoc, hu]; cases hexval l <;> rfl
theorem hexval_inv {l : List UInt8} {u : UInt8} {m : Nat} (h : hexval (l ++ [u]) = some m) : ∃ n d, hexval l = some n ∧ hexu u = some d ∧ m = 16 * n + d := by
  rw [hexval_snoc] at h
  cases hl : hexval l with
  | none => rw [hl] at h; cases h
  | some n =>
    cases hu : hexu u with
    | none => rw [hl, hu] at h; cases h
    | some d => rw [hl, hu] at h; exact ⟨n, d, rfl, rfl, by simpa using h.symm⟩
theorem hexfold_le : ∀ (l : List UInt8) (a n : Nat), hexfold a l = some n → a ≤ n
  | [], a, n, h => by cases h; exact Nat.le_refl _
  | u :: l, a, n, h => by
    unfold hexfold at h
    rw [List.foldlM_cons] at h
    cases hu : hexu u with
    | none => rw [hu] at h; cases h
    | some d =>
      rw [hu] at h
      have : 16 * a + d ≤ n := hexfold_le l _ n h
      omega
theorem hexval_pos {u : UInt8} {l : List UInt8} {n : Nat} (h : hexval (u :: l) = some n) (h0 : u ≠ 48) : 0 < n := by
  unfold hexval hexfold at h
  rw [List.foldlM_cons] at h
  cases hu : hexu u with
  | none => rw [hu] at h; cases h
  | some d =>
    rw [hu] at h
    have h1 : 16 * 0 + d ≤ n := hexfold_le l _ n h
    have h2 : d ≠ 0 := fun e => by
      subst e
      have := hexd_hexu hu
      exact h0 (by rw [← this]; decide)
    omega
theorem snoc_of {α : Type} : ∀ (l : List α), l ≠ [] → ∃ r u, l = r ++ [u]
  | [], h => absurd rfl h
  | a :: l, _ => by
    cases l with
    | nil => exact ⟨[], a, rfl⟩
    | cons b l =>
      obtain ⟨r, u, h⟩ := snoc_of (b :: l) (by simp)
      exact ⟨a :: r, u, by rw [h]; rfl⟩
theorem hexval_lt : ∀ (k : Nat) (l : List UInt8) (n : Nat), l.length = k → hexval l = some n → n < 16 ^ k
  | 0, l, n, hl, h => by
    obtain rfl := List.length_eq_zero_iff.1 hl
    cases h; decide
  | k + 1, l, n, hl, h => by
    obtain ⟨r, u, rfl⟩ := snoc_of l (fun e => by rw [e] at hl; cases hl)
    obtain ⟨n', d, h1, h2, rfl⟩ := hexval_inv h
    have := hexval_lt k r n' (by simpa using hl) h1
    have := hexu_lt h2
    rw [Nat.pow_succ]; omega
theorem hexOf_val : ∀ (k : Nat) (l : List UInt8) (n : Nat), hexval l = some n → l.length ≤ k → (∀ u r, l = u :: r → u ≠ 48) → hexOf k n = l
  | 0, l, n, h, hl, _ => by
    obtain rfl := List.length_eq_zero_iff.1 (Nat.le_zero.1 hl)
    rfl
  | k + 1, l, n, h, hl, h0 => by
    rw [hexOf]
    by_cases hn : l = []
    · subst hn; cases h; rfl
    · obtain ⟨r, u, rfl⟩ := snoc_of l hn
      obtain ⟨n', d, h1, h2, rfl⟩ := hexval_inv h
      have hd := hexu_lt h2
      have hpos : 16 * n' + d ≠ 0 := by
        cases r with
        | nil => have := hexval_pos h (h0 u [] rfl); omega
        | cons v r => have := hexval_pos h (h0 v _ rfl); omega
      rw [if_neg hpos, show (16 * n' + d) / 16 = n' by omega, show (16 * n' + d) % 16 = d by omega, hexd_hexu h2, hexOf_val k r n' h1 (by simp at hl; omega) (fun v s e => h0 v (s ++ [u]) (by rw [e]; rfl))]
theorem hexOf_ne : ∀ (k n : Nat), n < 16 ^ k → n ≠ 0 → hexOf k n ≠ []
  | 0, n, h, h0 => by simp at h; exact absurd h h0
  | k + 1, n, h, h0 => by rw [hexOf, if_neg h0]; simp
theorem hexOf_head : ∀ (k n : Nat) (u : UInt8) (r : List UInt8), n < 16 ^ k → hexOf k n = u :: r → u ≠ 48
  | 0, n, u, r, _, h => by cases h
  | k + 1, n, u, r, hn, h => by
    rw [hexOf] at h
    split at h
    · cases h
    · rename_i h0
      have hk : n / 16 < 16 ^ k := Nat.div_lt_of_lt_mul (by rw [Nat.pow_succ] at hn; omega)
      cases hc : hexOf k (n / 16) with
      | nil =>
        rw [hc] at h
        simp only [List.nil_append, List.cons.injEq] at h
        have h1 : n / 16 = 0 := Decidable.byContradiction fun hne => hexOf_ne k _ hk hne hc
        intro h2
        have := hexd_zero (n % 16) (Nat.mod_lt _ (by decide)) (by rw [h.1, h2])
        omega
      | cons v s =>
        rw [hc] at h
        simp only [List.cons_append, List.cons.injEq] at h
        rw [← h.1]
        exact hexOf_head k _ v s hk hc
theorem hexval_hexOf : ∀ (k n : Nat), n < 16 ^ k → hexval (hexOf k n) = some n
  | 0, n, h => by simp at h; subst h; rfl
  | k + 1, n, hn => by
    rw [hexOf]
    split
    · rename_i h; rw [h]; rfl
    · rw [hexval_some (hexval_hexOf k (n / 16) (Nat.div_lt_of_lt_mul (by rw [Nat.pow_succ] at hn; omega))) (hexu_hexd (n % 16) (Nat.mod_lt _ (by decide)))]
      congr 1; omega
/-! ### Texts of words -/
/-- As many digits as may be, none too many ahead. -/
def ok0 (l : List UInt8) : Prop := 0 < l.length ∧ l.length ≤ 64 ∧ (l[0]? ≠ some 48 ∨ l.length = 1)
instance (l : List UInt8) : Decidable (ok0 l) := by unfold ok0; infer_instance
def parseV (l : List UInt8) : Option Nat := if ok0 l then hexval l else none
theorem hexText_val (a : Nat) (ha : a < M256) : hexval (hexText a) = some a := by
  unfold hexText
  split
  · rename_i h; rw [h]; rfl
  · exact hexval_hexOf 64 a ha
theorem hexText_ok (a : Nat) (ha : a < M256) : ok0 (hexText a) := by
  unfold hexText
  split
  · decide
  · rename_i h
    have h1 := hexOf_len 64 a
    have h2 := hexOf_ne 64 a ha h
    cases hc : hexOf 64 a with
    | nil => exact absurd hc h2
    | cons u r =>
      rw [hc] at h1
      have h3 := hexOf_head 64 a u r ha hc
      exact ⟨by simp, h1, .inl (by simpa using h3)⟩
theorem parse_text (a : Nat) (ha : a < M256) : parseV (hexText a) = some a := by
  unfold parseV
  rw [if_pos (hexText_ok a ha), hexText_val a ha]
theorem text_parse {l : List UInt8} {n : Nat} (h : parseV l = some n) : n < M256 ∧ hexText n = l := by
  unfold parseV at h
  split at h
  · rename_i hk
    obtain ⟨h0, h64, hd⟩ := hk
    refine ⟨Nat.lt_of_lt_of_le (hexval_lt _ _ _ rfl h) (show 16 ^ l.length ≤ 16 ^ 64 from Nat.pow_le_pow_right (by decide) h64), ?_⟩
    cases l with
    | nil => cases h0
    | cons u r =>
      by_cases hu : u = 48
      · subst hu
        have hr : r = [] := by
          rcases hd with hd | hd
          · exact absurd rfl hd
          · simpa using hd
        subst hr
        have : hexval [48] = some 0 := by decide
        rw [this] at h
        cases h
        rfl
      · have hp := hexval_pos h hu
        unfold hexText
        rw [if_neg (by omega)]
        exact hexOf_val 64 (u :: r) n h h64 (fun v s e => by cases e; exact hu)
  · cases h
/-- The reference's way: all digits, and their text is the text. -/
theorem parse_ref {l : List UInt8} {n : Nat} (h0 : 0 < l.length) (h64 : l.length ≤ 64) (h : hexval l = some n) : hexText n = l ↔ parseV l = some n := by
  constructor
  · intro he
    have hn : n < M256 := Nat.lt_of_lt_of_le (hexval_lt _ _ _ rfl h) (show 16 ^ l.length ≤ 16 ^ 64 from Nat.pow_le_pow_right (by decide) h64)
    have := parse_text n hn
    rwa [he] at this
  · intro he; exact (text_parse he).2
/-! ### strings.IndexByte of the digits -/
def hexdigits : List UInt8 := [48, 49, 50, 51, 52, 53, 54, 55, 56, 57, 97, 98, 99, 100, 101, 102]
def hexi (c : Nat) : Int := match hexu (UInt8.ofNat c) with | some d => (d : Int) | none => -1
theorem hexi_idx : ∀ c : Nat, c < 256 → firstIdx ⟨hexdigits.toArray⟩ (c : Int).toNat.toUInt8 = hexi c := by decide +kernel
theorem indexByte_run (c : Nat) (hc : c < 256) (w : World) : (callFunc 78 #[sv hexdigits, .int .u8 (c : Int)]).run Try.prog w = .ok (.value (.int .i64 (hexi c))) w := by
  rw [run_callFunc_extern Try.func78 (by kernel_rfl) (by kernel_rfl) (by kernel_rfl) (e := Extern.BytealgIndexByte.indexByte) (by kernel_rfl), run_indexByte_string, hexi_idx c hc]
  rfl
theorem liteIndex_calls (c : Nat) (hc : c < 256) (w : World) : Calls Try.prog 76 #[sv hexdigits, .int .u8 (c : Int)] w (Ret w (.int .i64 (hexi c))) := by
  refine enter (args := [_, _]) _ [] [] Try.func76 rfl Try.ntmps76 rfl (by simp) .nil ?_
  (refine CW.seq ?_; refine CW.region ?_; apply LW.v0; rfl; rfl; apply ValP.assign; rfl; apply LW.nil; refine thenN ?_; refine CW.seq ?_; refine CW.region ?_; apply LW.v0; rfl; rfl; apply ValP.move; rfl; apply LW.v0; rfl; rfl; apply ValP.move; rfl; apply LW.v0; rfl; rfl; apply ValP.callX; rfl; apply ArgsOk.cons; rfl; apply ArgsOk.cons; rfl; exact ArgsOk.nil; exact indexByte_run _ (by assumption); apply LW.v0; rfl; rfl; apply ValP.assign; rfl; apply LW.nil; refine thenN ?_; refine CW.ret ?_)
  (apply finR; exact .inl rfl; rfl; rfl; rfl; apply ResL.cons; exact Res.tmp rfl; exact ResL.nil)
  rfl
theorem IndexByte_calls (c : Nat) (hc : c < 256) (w : World) : Calls Try.prog 72 #[sv hexdigits, .int .u8 (c : Int)] w (Ret w (.int .i64 (hexi c))) := by
  refine enter (args := [_, _]) _ [] [] Try.func72 rfl Try.ntmps72 rfl (by simp) .nil ?_
  (refine CW.seq ?_; refine CW.region ?_; apply LW.v0; rfl; rfl; apply ValP.assign; rfl; apply LW.nil; refine thenN ?_; refine CW.seq ?_; refine CW.region ?_; apply LW.v0; rfl; rfl; apply ValP.move; rfl; apply LW.v0; rfl; rfl; apply ValP.move; rfl; apply LW.callE; rfl; rfl; infer_instance; apply ArgsOk.cons; rfl; apply ArgsOk.cons; rfl; exact ArgsOk.nil; intro w _; exact liteIndex_calls _ (by assumption) w; apply LW.v0; rfl; rfl; apply ValP.assign; rfl; apply LW.nil; refine thenN ?_; refine CW.ret ?_)
  (apply finR; exact .inl rfl; rfl; rfl; rfl; apply ResL.cons; exact Res.tmp rfl; exact ResL.nil)
  rfl
end Go.Proofs.Ytahoghldnijnbaa
