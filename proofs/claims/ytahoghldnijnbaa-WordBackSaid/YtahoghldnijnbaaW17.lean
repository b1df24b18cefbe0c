/-
  Products of words: contracts.
  Conditions: none.
-/
import Derived.Test.YtahoghldnijnbaaW16
import Derived.Lib.Mul64
import Derived.Test.YtahoghldnijnbaaSlr
namespace Go.Proofs.Ytahoghldnijnbaa
open Go Go.RowKit SL
set_option maxRecDepth 8000
set_option maxHeartbeats 4000000
set_option linter.unusedSimpArgs false
set_option linter.unusedVariables false
attribute [local irreducible] SL.CW SL.LW SL.DW Calls SL.Ret SL.RetG SL.beginQ SL.roundQ SL.rangeQ SL.inQ SL.RW SL.AnyW SL.thenQ SL.thenC SL.thenW SL.blkQ SL.finQ SL.ValP SL.NewP SL.SetP SL.CallP SL.Rd SL.Wr SL.Known
theorem and32 (n : Nat) : n &&& 4294967295 = n % 4294967296 := Nat.and_two_pow_sub_one_eq_mod n 32
theorem Mul64_calls (x y : Nat) (hx : x < 18446744073709551616) (hy : y < 18446744073709551616) (w : World) : Calls Try.prog 64 #[.int .u64 (x : Int), .int .u64 (y : Int)] w (Ret w (.tuple #[.int .u64 ((x * y / 18446744073709551616 : Nat) : Int), .int .u64 ((x * y % 18446744073709551616 : Nat) : Int)])) := by
  refine enter (args := [_, _]) _ [] [] Try.func64 rfl Try.ntmps64 rfl (by simp) .nil ?_
  (refine CW.seq ?_; refine CW.region ?_; apply LW.v0; rfl; rfl; apply ValP.assign; rfl; apply LW.v0; rfl; rfl; apply ValP.assign; rfl; apply LW.nil; refine thenN ?_; refine CW.seq ?_; refine CW.region ?_; apply LW.v0; rfl; rfl; apply ValP.move; rfl; apply LW.v0; rfl; rfl; apply ValP.andUL; rfl; rfl; decide; omega; omega; apply LW.v0; rfl; rfl; apply ValP.assign; rfl; apply LW.nil; refine thenN ?_; refine CW.seq ?_; refine CW.region ?_; apply LW.v0; rfl; rfl; apply ValP.move; rfl; apply LW.v0; rfl; rfl; apply ValP.shrUL; rfl; rfl; decide; omega; apply LW.v0; rfl; rfl; apply ValP.assign; rfl; apply LW.nil; refine thenN ?_; refine CW.seq ?_; refine CW.region ?_; apply LW.v0; rfl; rfl; apply ValP.move; rfl; apply LW.v0; rfl; rfl; apply ValP.andUL; rfl; rfl; decide; omega; omega; apply LW.v0; rfl; rfl; apply ValP.assign; rfl; apply LW.nil; refine thenN ?_; refine CW.seq ?_; refine CW.region ?_; apply LW.v0; rfl; rfl; apply ValP.move; rfl; apply LW.v0; rfl; rfl; apply ValP.shrUL; rfl; rfl; decide; omega; apply LW.v0; rfl; rfl; apply ValP.assign; rfl; apply LW.nil; refine thenN ?_; refine CW.seq ?_; refine CW.region ?_; apply LW.v0; rfl; rfl; apply ValP.move; rfl; apply LW.v0; rfl; rfl; apply ValP.move; rfl; apply LW.v0; rfl; rfl; apply ValP.mulN; rfl; rfl; apply LW.v0; rfl; rfl; apply ValP.assign; rfl; apply LW.nil; refine thenN ?_; refine CW.seq ?_; refine CW.region ?_; apply LW.v0; rfl; rfl; apply ValP.move; rfl; apply LW.v0; rfl; rfl; apply ValP.move; rfl; apply LW.v0; rfl; rfl; apply ValP.mulN; rfl; rfl; apply LW.v0; rfl; rfl; apply ValP.move; rfl; apply LW.v0; rfl; rfl; apply ValP.shrUL; rfl; rfl; decide; omega; apply LW.v0; rfl; rfl; apply ValP.addN; rfl; rfl; apply LW.v0; rfl; rfl; apply ValP.assign; rfl; apply LW.nil; refine thenN ?_; refine CW.seq ?_; refine CW.region ?_; apply LW.v0; rfl; rfl; apply ValP.move; rfl; apply LW.v0; rfl; rfl; apply ValP.andUL; rfl; rfl; decide; omega; omega; apply LW.v0; rfl; rfl; apply ValP.assign; rfl; apply LW.nil; refine thenN ?_; refine CW.seq ?_; refine CW.region ?_; apply LW.v0; rfl; rfl; apply ValP.move; rfl; apply LW.v0; rfl; rfl; apply ValP.shrUL; rfl; rfl; decide; omega; apply LW.v0; rfl; rfl; apply ValP.assign; rfl; apply LW.nil; refine thenN ?_; refine CW.seq ?_; refine CW.region ?_; apply LW.v0; rfl; rfl; apply ValP.move; rfl; apply LW.v0; rfl; rfl; apply ValP.move; rfl; apply LW.v0; rfl; rfl; apply ValP.move; rfl; apply LW.v0; rfl; rfl; apply ValP.mulN; rfl; rfl; apply LW.v0; rfl; rfl; apply ValP.addN; rfl; rfl; apply LW.v0; rfl; rfl; apply ValP.assign; rfl; apply LW.nil; refine thenN ?_; refine CW.seq ?_; refine CW.region ?_; apply LW.v0; rfl; rfl; apply ValP.move; rfl; apply LW.v0; rfl; rfl; apply ValP.move; rfl; apply LW.v0; rfl; rfl; apply ValP.mulN; rfl; rfl; apply LW.v0; rfl; rfl; apply ValP.move; rfl; apply LW.v0; rfl; rfl; apply ValP.addN; rfl; rfl; apply LW.v0; rfl; rfl; apply ValP.move; rfl; apply LW.v0; rfl; rfl; apply ValP.shrUL; rfl; rfl; decide; omega; apply LW.v0; rfl; rfl; apply ValP.addN; rfl; rfl; apply LW.v0; rfl; rfl; apply ValP.assign; rfl; apply LW.nil; refine thenN ?_; refine CW.seq ?_; refine CW.region ?_; apply LW.v0; rfl; rfl; apply ValP.move; rfl; apply LW.v0; rfl; rfl; apply ValP.move; rfl; apply LW.v0; rfl; rfl; apply ValP.mulN; rfl; rfl; apply LW.v0; rfl; rfl; apply ValP.assign; rfl; apply LW.nil; refine thenN ?_; refine CW.ret ?_)
  (apply finR; exact .inl rfl; rfl; rfl; rfl; apply ResL.cons; exact Res.tmp rfl; apply ResL.cons; exact Res.tmp rfl; exact ResL.nil)
  refine congrArg (fun z : Nat => Value.tuple #[.int .u64 (z : Int), .int .u64 ((x * y % 18446744073709551616 : Nat) : Int)]) ?_
  simp only [and32, Nat.reducePow]
  have e : x * y = (x / 4294967296) * (y / 4294967296) * (4294967296 * 4294967296) + ((x / 4294967296) * (y % 4294967296) + (x % 4294967296) * (y / 4294967296)) * 4294967296 + (x % 4294967296) * (y % 4294967296) := by
    rw [← Lib.split_mul, Nat.div_add_mod' x 4294967296, Nat.div_add_mod' y 4294967296]
  have ha := Lib.half_mul_le (a := x / 4294967296) (b := y / 4294967296) (by omega) (by omega)
  have hb := Lib.half_mul_le (a := x / 4294967296) (b := y % 4294967296) (by omega) (by omega)
  have hc := Lib.half_mul_le (a := x % 4294967296) (b := y / 4294967296) (by omega) (by omega)
  have hd := Lib.half_mul_le (a := x % 4294967296) (b := y % 4294967296) (by omega) (by omega)
  rw [e]
  generalize (x / 4294967296) * (y / 4294967296) = a at ha ⊢
  generalize (x / 4294967296) * (y % 4294967296) = b at hb ⊢
  generalize (x % 4294967296) * (y / 4294967296) = c at hc ⊢
  generalize (x % 4294967296) * (y % 4294967296) = d at hd ⊢
  clear e hx hy
  omega
/-! ### Limbs -/
/-- A row of limbs' number. -/
def val : List Nat → Nat
  | [] => 0
  | x :: r => x + 18446744073709551616 * val r
theorem val_set : ∀ (L : List Nat) (j v : Nat) (hj : j < L.length), val (L.set j v) + L[j] * 18446744073709551616 ^ j = val L + v * 18446744073709551616 ^ j
  | x :: r, 0, v, _ => by simp [val]; omega
  | x :: r, j + 1, v, hj => by
    have := val_set r j v (by simpa using hj)
    simp only [List.set_cons_succ, val, List.getElem_cons_succ, Nat.pow_succ]
    have e : ∀ y, y * (18446744073709551616 ^ j * 18446744073709551616) = 18446744073709551616 * (y * 18446744073709551616 ^ j) := fun y => by rw [← Nat.mul_assoc, Nat.mul_comm]
    rw [e, e]
    omega
/-- One step of a product. -/
theorem mul_step (x y l c : Nat) (hx : x < 18446744073709551616) (hy : y < 18446744073709551616) (hl : l < 18446744073709551616) (hc : c < 18446744073709551616) :
    let lo := x * y % 18446744073709551616; let hi := x * y / 18446744073709551616
    let l1 := (lo + l + 0) % 18446744073709551616; let c1 := (lo + l + 0) / 18446744073709551616
    let l2 := (l1 + c + 0) % 18446744073709551616; let c2 := (l1 + c + 0) / 18446744073709551616
    (hi + c1) % 18446744073709551616 = hi + c1 ∧ (hi + c1 + c2) % 18446744073709551616 = hi + c1 + c2 ∧ l2 + 18446744073709551616 * (hi + c1 + c2) = x * y + l + c ∧ l2 < 18446744073709551616 ∧ hi + c1 + c2 < 18446744073709551616 := by
  have hxy : x * y ≤ 18446744073709551615 * 18446744073709551615 := Nat.mul_le_mul (by omega) (by omega)
  generalize x * y = p at *
  dsimp only
  omega
theorem inv_step (v v' l lo c c' xy P : Nat) (h1 : v' + l * P = v + lo * P) (h2 : lo + 18446744073709551616 * c' = xy + l + c) : v' + c' * (P * 18446744073709551616) = v + c * P + xy * P := by
  have h3 : (lo + 18446744073709551616 * c') * P = (xy + l + c) * P := by rw [h2]
  rw [Nat.add_mul, Nat.add_mul, Nat.add_mul] at h3
  have e : c' * (P * 18446744073709551616) = 18446744073709551616 * c' * P := by rw [Nat.mul_comm P, ← Nat.mul_assoc, Nat.mul_comm c']
  rw [e]; omega
theorem mul_last (l0 l1 l2 l3 l4 l5 l6 l7 n : Nat) (h0 : l0 < 18446744073709551616) (h1 : l1 < 18446744073709551616) (h2 : l2 < 18446744073709551616) (h3 : l3 < 18446744073709551616) (h : val [l0, l1, l2, l3, l4, l5, l6, l7] = n) :
    n % 115792089237316195423570985008687907853269984665640564039457584007913129639936 = l0 + 18446744073709551616 * l1 + 340282366920938463463374607431768211456 * l2 + 6277101735386680763835789423207666416102355444464034512896 * l3 ∧
    (115792089237316195423570985008687907853269984665640564039457584007913129639936 ≤ n ↔ (l4 ≠ 0 ∨ l5 ≠ 0 ∨ l6 ≠ 0 ∨ l7 ≠ 0)) := by
  simp only [val] at h
  constructor <;> omega
theorem pow_mod_step (b k : Nat) : b % 2 ^ (k + 1) = b % 2 ^ k + 2 ^ k * (b / 2 ^ k % 2) := Nat.mod_pow_succ

/-- The cells of limbs. -/
def lcs (L : List Nat) : Array Value := (L.map fun x => Value.int .u64 ((x : Nat) : Int)).toArray
theorem Add64_run (x y : Nat) (w : World) : (callFunc 58 #[.int .u64 x, .int .u64 y, .int .u64 (0 : Int)]).run Try.prog w = .ok (.value (.tuple #[.int .u64 (((x + y + 0) % 18446744073709551616 : Nat) : Int), .int .u64 (((x + y + 0) / 18446744073709551616 : Nat) : Int)])) w := add64_run x y 0 (by decide) w
theorem lcs_get (L : List Nat) (j : Nat) (h : j < L.length) : (lcs L)[j]? = some (.int .u64 ((L[j] : Nat) : Int)) := by simp [lcs, h]
theorem lcs_set (L : List Nat) (j v : Nat) : wrCells (lcs L) j [.int .u64 ((v : Nat) : Int)] = lcs (L.set j v) := by
  simp only [wrCells, lcs]
  rw [List.setIfInBounds_toArray, List.map_set]
theorem lcs_rd (L : List Nat) (j : Nat) (h : j < L.length) {E : TypeId} {fr : Nat × Nat} : Rd Try.prog 22 (.cells (lcs L) E fr) (0 + j * 1) (.int .u64 ((L[j] : Nat) : Int)) := Rd.one (by rw [Nat.zero_add, Nat.mul_one]; exact lcs_get L j h)
theorem lcs_wr (L : List Nat) (j v : Nat) (h : j < L.length) {E : TypeId} : Wr Try.prog 22 (.cells (lcs L) E (0, 0)) (0 + j * 1) (.int .u64 ((v : Nat) : Int)) (.cells (lcs (L.set j v)) E (0, 0)) :=
  Wr.cells rfl rfl (by show 0 + j * 1 + 1 ≤ (lcs L).size; simp [lcs]; omega) (by rw [Nat.zero_add, Nat.mul_one]; exact lcs_set L j v)
structure MO where
  i : Nat
  L : List Nat
structure MI where
  k : Nat
  c : Nat
  L : List Nat
def limb (a i : Nat) : Nat := a / 2 ^ (64 * i) % 18446744073709551616
theorem B_pow (i : Nat) : (18446744073709551616 : Nat) ^ i = 2 ^ (64 * i) := by rw [show (18446744073709551616 : Nat) = 2 ^ 64 from rfl, ← Nat.pow_mul]
theorem limb_step (a i : Nat) : a % 2 ^ (64 * (i + 1)) = a % 2 ^ (64 * i) + limb a i * 18446744073709551616 ^ i := by
  rw [Nat.mul_add, Nat.mul_one, Nat.pow_add, Nat.mod_mul, limb, B_pow, Nat.mul_comm (2 ^ (64 * i))]
theorem nth_limb (a k : Nat) (h : k < 4) : nth (wc a).toList k = some (.int .u64 ((limb a k : Nat) : Int)) := nth_wc a k h
theorem limb_lt (a i : Nat) : limb a i < 18446744073709551616 := Nat.mod_lt _ (by decide)
theorem getElem_mem_lt {L : List Nat} (h : ∀ y ∈ L, y < 18446744073709551616) (j : Nat) (hj : j < L.length) : L[j] < 18446744073709551616 := h _ (List.getElem_mem hj)
theorem set_lt {L : List Nat} (h : ∀ y ∈ L, y < 18446744073709551616) (j v : Nat) (hv : v < 18446744073709551616) : ∀ y ∈ L.set j v, y < 18446744073709551616 := fun y hy => by
  rcases List.mem_or_eq_of_mem_set hy with h1 | rfl
  · exact h y h1
  · exact hv
theorem Mul_calls (a b : Nat) (ha : a < M256) (hb : b < M256) (w : World) : Calls Try.prog 34 #[wv a, wv b] w (Ret w (.tuple #[wv (a * b % M256), .bool (decide (M256 ≤ a * b))])) := by
  refine enter (args := [_, _]) _ [] [] Try.func34 rfl Try.ntmps34 rfl (by simp) .nil ?_
  (refine CW.seq ?_; refine CW.region ?_; apply LW.boxA; rfl; rfl; intro _; apply LW.boxA; rfl; rfl; intro _; apply LW.allocW; rfl; intro _; apply LW.v0; rfl; rfl; apply ValP.assign; rfl; apply LW.nil; refine thenN ?_; refine CW.seq ?_; refine CW.region ?_; apply LW.allocA; rfl; intro _; apply LW.nil; refine thenN ?_; refine CW.seq ?_; refine CW.seq ?_; refine CW.region ?_; apply LW.load; rfl; rfl; apply Known.at; apply FsAt.tail; apply FsAt.tail; apply FsAt.tail; apply FsAt.head; exact Rd.whole rfl; apply LW.v0; rfl; rfl; apply ValP.move; rfl; apply LW.nil; refine thenN ?_; refine CW.block ?_)
  rename_i ba bb bc bd
  refine CW.loop (fun x : MO => ([(16, .int .i64 (x.i : Int)), (15, .agg (wc a)), (6, .pointer (some ⟨bd, 0, none⟩)), (5, .bool false), (4, .pointer (some ⟨bc, 0, none⟩)), (3, .pointer (some ⟨bb, 0, none⟩))],
      [(bd, .cells (lcs x.L) 74 (0, 0)), (bc, .cells (wc 0) 24 (0, 0)), (bb, .cells (wc b) 24 (0, 0)), (ba, .cells (wc a) 24 (0, 0))]))
    (fun x => x.i ≤ 4 ∧ x.L.length = 8 ∧ (∀ y ∈ x.L, y < 18446744073709551616) ∧ val x.L = a % 2 ^ (64 * x.i) * b ∧ ∀ j (h : j < x.L.length), x.i + 4 ≤ j → x.L[j] = 0) (fun x => 4 - x.i) ⟨0, [0, 0, 0, 0, 0, 0, 0, 0]⟩ ⟨Nat.zero_le _, rfl, by decide, by simp [val, Nat.mod_one], by decide⟩ ⟨rfl, rfl, rfl, rfl, rfl, rfl, trivial⟩ (List.Sublist.refl _) ?_
  rintro ⟨i, L⟩ ⟨hi, hL, hLb, hval, hz⟩
  dsimp only at hi hL hLb hval hz ⊢
  rcases Nat.lt_or_ge i 4 with hlt | hge
  · have hx0 := limb_lt a i
    (refine CW.seq ?_; refine CW.region ?_; apply LW.v0; rfl; rfl; apply ValP.lssT; rfl; rfl; omega; apply LW.nil; refine thenN ?_; refine CW.seq ?_; apply CW.condT; rfl; (with_reducible rfl); refine CW.skip ?_; refine thenN ?_; refine CW.seq ?_; refine CW.block ?_; refine CW.seq ?_; refine CW.region ?_; apply LW.v0; rfl; rfl; apply ValP.move; rfl; apply LW.v0; rfl; rfl; apply ValP.indexA; rfl; rfl; rfl; rfl; omega; apply nth_limb; omega; apply LW.v0; rfl; rfl; apply ValP.assign; rfl; apply LW.v0; rfl; rfl; apply ValP.assign; rfl; apply LW.nil; refine thenN ?_; refine CW.seq ?_; refine CW.region ?_; apply LW.v0; rfl; rfl; apply ValP.assign; rfl; apply LW.nil; refine thenN ?_; refine CW.seq ?_; refine CW.seq ?_; refine CW.region ?_; apply LW.load; rfl; rfl; apply Known.at; apply FsAt.tail; apply FsAt.tail; apply FsAt.head; exact Rd.whole rfl; apply LW.v0; rfl; rfl; apply ValP.move; rfl; apply LW.nil; refine thenN ?_; refine CW.block ?_)
    refine CW.loop (fun x : MI => ([(21, .int .i64 (x.k : Int)), (20, .agg (wc b)), (9, .int .u64 ((x.c : Nat) : Int)), (8, .int .u64 ((limb a i : Nat) : Int)), (7, .int .i64 (i : Int)), (16, .int .i64 (i : Int)), (15, .agg (wc a)), (6, .pointer (some ⟨bd, 0, none⟩)), (5, .bool false), (4, .pointer (some ⟨bc, 0, none⟩)), (3, .pointer (some ⟨bb, 0, none⟩))],
        [(bd, .cells (lcs x.L) 74 (0, 0)), (bc, .cells (wc 0) 24 (0, 0)), (bb, .cells (wc b) 24 (0, 0)), (ba, .cells (wc a) 24 (0, 0))]))
      (fun x => x.k ≤ 4 ∧ x.c < 18446744073709551616 ∧ x.L.length = 8 ∧ (∀ y ∈ x.L, y < 18446744073709551616) ∧ val x.L + x.c * 18446744073709551616 ^ (i + x.k) = a % 2 ^ (64 * i) * b + limb a i * (b % 2 ^ (64 * x.k)) * 18446744073709551616 ^ i ∧ ∀ j (h : j < x.L.length), i + 4 ≤ j → x.L[j] = 0) (fun x => 4 - x.k) ⟨0, 0, L⟩
      ⟨Nat.zero_le _, (show 0 < 18446744073709551616 by decide), hL, hLb, by simp [hval, Nat.mod_one], hz⟩ ⟨rfl, rfl, rfl, rfl, rfl, rfl, rfl, rfl, rfl, rfl, rfl, trivial⟩ (List.Sublist.refl _) ?_
    clear hL hLb hval hz L
    rintro ⟨k, c, L⟩ ⟨hk, hc, hL, hLb, hval, hz⟩
    dsimp only at hk hc hL hLb hval hz ⊢
    rcases Nat.lt_or_ge k 4 with hkl | hkg
    · have hy0 := limb_lt b k
      have hj : i + k < L.length := by omega
      obtain ⟨l, hl⟩ : ∃ l, l = L[i + k] := ⟨_, rfl⟩
      have hl0 : l < 18446744073709551616 := by rw [hl]; exact getElem_mem_lt hLb _ hj
      have hrd := lcs_rd L (i + k) hj (E := 74) (fr := (0, 0))
      rw [← hl] at hrd
      obtain ⟨s1, s2, s3, s4, s5⟩ := mul_step (limb a i) (limb b k) l c hx0 hy0 hl0 hc
      have hW := lcs_wr L (i + k) (((limb a i * limb b k % 18446744073709551616 + l + 0) % 18446744073709551616 + c + 0) % 18446744073709551616) hj (E := 74)
      have hv := val_set L (i + k) (((limb a i * limb b k % 18446744073709551616 + l + 0) % 18446744073709551616 + c + 0) % 18446744073709551616) hj
      rw [← hl] at hv
      have hinv := inv_step _ _ _ _ _ _ _ _ hv s3
      (refine CW.seq ?_; refine CW.region ?_; apply LW.v0; rfl; rfl; apply ValP.lssT; rfl; rfl; omega; apply LW.nil; refine thenN ?_; refine CW.seq ?_; apply CW.condT; rfl; (with_reducible rfl); refine CW.skip ?_; refine thenN ?_; refine CW.seq ?_; refine CW.block ?_; refine CW.seq ?_; refine CW.region ?_; apply LW.v0; rfl; rfl; apply ValP.move; rfl; apply LW.v0; rfl; rfl; apply ValP.indexA; rfl; rfl; rfl; rfl; omega; apply nth_limb; omega; apply LW.v0; rfl; rfl; apply ValP.assign; rfl; apply LW.v0; rfl; rfl; apply ValP.assign; rfl; apply LW.nil; refine thenN ?_; refine CW.seq ?_; refine CW.region ?_; apply LW.v0; rfl; rfl; apply ValP.move; rfl; apply LW.v0; rfl; rfl; apply ValP.move; rfl; apply LW.callE; rfl; rfl; infer_instance; apply ArgsOk.cons; rfl; apply ArgsOk.cons; rfl; exact ArgsOk.nil; intro w _; refine Mul64_calls _ _ ?_ ?_ w; assumption; assumption; apply LW.v0; rfl; rfl; apply ValP.move; rfl; apply LW.v0; rfl; rfl; apply ValP.extractN; rfl; rfl; apply LW.v0; rfl; rfl; apply ValP.extractN; rfl; rfl; apply LW.v0; rfl; rfl; apply ValP.assign; rfl; apply LW.v0; rfl; rfl; apply ValP.assign; rfl; apply LW.nil; refine thenN ?_; refine CW.seq ?_; refine CW.region ?_; apply LW.v0; rfl; rfl; apply ValP.move; rfl; apply LW.v0; rfl; rfl; apply ValP.move; rfl; apply LW.v0; rfl; rfl; apply ValP.move; rfl; apply LW.v0; rfl; rfl; apply ValP.addZ; rfl; rfl; omega; apply LW.v0; rfl; rfl; apply ValP.indexAddrA; rfl; rfl; rfl; omega; apply LW.load; rfl; rfl; apply Known.at; apply FsAt.head; assumption; apply LW.v0; rfl; rfl; apply ValP.callX; rfl; apply ArgsOk.cons; rfl; apply ArgsOk.cons; rfl; apply ArgsOk.cons; rfl; exact ArgsOk.nil; exact Add64_run _ _; apply LW.v0; rfl; rfl; apply ValP.move; rfl; apply LW.v0; rfl; rfl; apply ValP.extractN; rfl; rfl; apply LW.v0; rfl; rfl; apply ValP.extractN; rfl; rfl; apply LW.v0; rfl; rfl; apply ValP.assign; rfl; apply LW.v0; rfl; rfl; apply ValP.assign; rfl; apply LW.nil; refine thenN ?_; refine CW.seq ?_; refine CW.region ?_; apply LW.v0; rfl; rfl; apply ValP.move; rfl; apply LW.v0; rfl; rfl; apply ValP.move; rfl; apply LW.v0; rfl; rfl; apply ValP.addN; rfl; rfl; apply LW.v0; rfl; rfl; apply ValP.assign; rfl; apply LW.nil; refine thenN ?_; refine CW.seq ?_; refine CW.region ?_; apply LW.v0; rfl; rfl; apply ValP.move; rfl; apply LW.v0; rfl; rfl; apply ValP.move; rfl; apply LW.v0; rfl; rfl; apply ValP.callX; rfl; apply ArgsOk.cons; rfl; apply ArgsOk.cons; rfl; apply ArgsOk.cons; rfl; exact ArgsOk.nil; exact Add64_run _ _; apply LW.v0; rfl; rfl; apply ValP.move; rfl; apply LW.v0; rfl; rfl; apply ValP.extractN; rfl; rfl; apply LW.v0; rfl; rfl; apply ValP.extractN; rfl; rfl; apply LW.v0; rfl; rfl; apply ValP.assign; rfl; apply LW.v0; rfl; rfl; apply ValP.assign; rfl; apply LW.nil; refine thenN ?_; refine CW.region ?_; apply LW.v0; rfl; rfl; apply ValP.move; rfl; apply LW.v0; rfl; rfl; apply ValP.move; rfl; apply LW.v0; rfl; rfl; apply ValP.addZ; rfl; rfl; omega; apply LW.v0; rfl; rfl; apply ValP.move; rfl; apply LW.v0; rfl; rfl; apply ValP.move; rfl; apply LW.v0; rfl; rfl; apply ValP.move; rfl; apply LW.v0; rfl; rfl; apply ValP.addN; rfl; rfl; apply LW.v0; rfl; rfl; apply ValP.indexAddrA; rfl; rfl; rfl; omega; apply LW.store; rfl; rfl; apply SetAt.head; assumption; apply LW.v0; rfl; rfl; apply ValP.assign; rfl; apply LW.nil; refine blkN ?_; refine thenN ?_; refine CW.region ?_; apply LW.v0; rfl; rfl; apply ValP.addZL; rfl; rfl; decide; omega; apply LW.v0; rfl; rfl; apply ValP.move; rfl; apply LW.nil)
      apply thenX
      refine ⟨rfl, ⟨k + 1, _, _⟩, ⟨hkl, ?_, ?_, ?_, ?_, ?_⟩, by show 4 - (k + 1) < 4 - k; omega, ⟨rfl, rfl, rfl, rfl, rfl, rfl, rfl, rfl, rfl, rfl, rfl, trivial⟩, List.Sublist.refl _⟩
      · exact Nat.mod_lt _ (by decide)
      · simpa using hL
      · exact set_lt hLb _ _ s4
      · dsimp only
        rw [s1, s2, ← Nat.add_assoc, Nat.pow_succ, hinv, hval, limb_step, Nat.mul_add, Nat.add_mul, Nat.pow_add, Nat.add_assoc]
        congr 2
        rw [Nat.mul_assoc, Nat.mul_assoc, Nat.mul_assoc, Nat.mul_comm (18446744073709551616 ^ i)]
      · intro j hjl hji
        dsimp only at hjl ⊢
        rw [List.getElem_set_ne (by omega)]
        exact hz j (by simpa using hjl) hji
    · obtain rfl : k = 4 := by omega
      have hj : i + 4 < L.length := by omega
      have hb4 : b % 2 ^ (64 * 4) = b := Nat.mod_eq_of_lt hb
      have hW := lcs_wr L (i + 4) c hj (E := 74)
      have hv := val_set L (i + 4) c hj
      rw [hz (i + 4) hj (Nat.le_refl _), Nat.zero_mul, Nat.add_zero, hval, hb4] at hv
      (refine CW.seq ?_; refine CW.region ?_; apply LW.v0; rfl; rfl; apply ValP.lssF; rfl; rfl; omega; apply LW.nil; refine thenN ?_; refine CW.seq ?_; apply CW.condF; rfl; (with_reducible rfl); refine CW.exit ?_; refine thenE ?_; refine thenE ?_; refine blkE rfl ?_; refine thenN ?_; refine CW.region ?_; apply LW.v0; rfl; rfl; apply ValP.move; rfl; apply LW.v0; rfl; rfl; apply ValP.addZL; rfl; rfl; decide; omega; apply LW.v0; rfl; rfl; apply ValP.move; rfl; apply LW.v0; rfl; rfl; apply ValP.indexAddrA; rfl; rfl; rfl; omega; apply LW.store; rfl; rfl; apply SetAt.head; assumption; apply LW.nil; refine blkN ?_; refine thenN ?_; refine CW.region ?_; apply LW.v0; rfl; rfl; apply ValP.addZL; rfl; rfl; decide; omega; apply LW.v0; rfl; rfl; apply ValP.move; rfl; apply LW.nil)
      apply thenX
      refine ⟨rfl, ⟨i + 1, _⟩, ⟨hlt, ?_, ?_, ?_, ?_⟩, by show 4 - (i + 1) < 4 - i; omega, ⟨rfl, rfl, rfl, rfl, rfl, rfl, trivial⟩, List.Sublist.refl _⟩
      · simpa using hL
      · exact set_lt hLb _ _ hc
      · dsimp only
        rw [hv, limb_step, Nat.add_mul, Nat.mul_right_comm]
      · intro j hjl hji
        dsimp only at hjl hji ⊢
        rw [List.getElem_set_ne (by omega)]
        exact hz j (by simpa using hjl) (by omega)
  · obtain rfl : i = 4 := by omega
    have ha4 : a % 2 ^ (64 * 4) = a := Nat.mod_eq_of_lt ha
    rw [ha4] at hval
    match L, hL with
    | [l0, l1, l2, l3, l4, l5, l6, l7], _ =>
      have h0 := hLb l0 (by simp)
      have h1 := hLb l1 (by simp)
      have h2 := hLb l2 (by simp)
      have h3 := hLb l3 (by simp)
      have h4 := hLb l4 (by simp)
      have h5 := hLb l5 (by simp)
      have h6 := hLb l6 (by simp)
      have h7 := hLb l7 (by simp)
      obtain ⟨m1, m2⟩ := mul_last l0 l1 l2 l3 l4 l5 l6 l7 (a * b) h0 h1 h2 h3 hval
      have hrw : Rd Try.prog 24 (.cells (lcs [l0, l1, l2, l3, l4, l5, l6, l7]) 74 (0, 0)) 0 (wv (a * b % M256)) := by
        rw [wv, ← wc_val h0 h1 h2 h3 m1]
        exact Rd.mid (cs := [.int .u64 (l0 : Int), .int .u64 (l1 : Int), .int .u64 (l2 : Int), .int .u64 (l3 : Int)]) rfl rfl
      have hbool : (!decide (((l4 ||| l5 ||| l6 ||| l7 : Nat) : Int) = 0)) = decide (M256 ≤ a * b) := by
        rw [Bool.eq_iff_iff, Bool.not_eq_true', decide_eq_false_iff_not, decide_eq_true_iff, Int.natCast_eq_zero, Nat.or_eq_zero_iff, Nat.or_eq_zero_iff, Nat.or_eq_zero_iff, m2]; omega
      (refine CW.seq ?_; refine CW.region ?_; apply LW.v0; rfl; rfl; apply ValP.lssF; rfl; rfl; omega; apply LW.nil; refine thenN ?_; refine CW.seq ?_; apply CW.condF; rfl; (with_reducible rfl); refine CW.exit ?_; refine thenE ?_; refine thenE ?_; refine blkE rfl ?_; refine thenN ?_; refine CW.seq ?_; apply CW.pre; refine AnyW.any 16 mixed (by decide +kernel) ?_; (try simp only [tsOf_cons, tsOf_nil, tsOf_app]); apply DW.v0; rfl; rfl; rfl; exact WantT.none; rfl; apply ValP.cutArr; infer_instance; infer_instance; rfl; rfl; rfl; apply DW.v0; rfl; rfl; rfl; exact WantT.none; rfl; apply ValP.asArr; infer_instance; rfl; rfl; apply DW.loadO; rfl; rfl; rfl; exact WantT.none; rfl; apply TRead.head; exact ancB_nil; assumption; apply DW.v0; rfl; rfl; rfl; exact WantT.none; rfl; apply ValP.indexAddrL; rfl; rfl; rfl; apply DW.loadO; rfl; rfl; rfl; exact WantT.none; rfl; apply TRead.head; exact ancB_nil; exact Rd.one' rfl; apply DW.v0; rfl; rfl; rfl; exact WantT.none; rfl; apply ValP.indexAddrL; rfl; rfl; rfl; apply DW.loadO; rfl; rfl; rfl; exact WantT.none; rfl; apply TRead.head; exact ancB_nil; exact Rd.one' rfl; apply DW.v0; rfl; rfl; rfl; exact WantT.none; rfl; apply ValP.orU; rfl; rfl; omega; omega; apply DW.v0; rfl; rfl; rfl; exact WantT.none; rfl; apply ValP.indexAddrL; rfl; rfl; rfl; apply DW.loadO; rfl; rfl; rfl; exact WantT.none; rfl; apply TRead.head; exact ancB_nil; exact Rd.one' rfl; apply DW.v0; rfl; rfl; rfl; exact WantT.none; rfl; apply ValP.orU; rfl; rfl; apply or64; omega; omega; omega; apply DW.v0; rfl; rfl; rfl; exact WantT.none; rfl; apply ValP.indexAddrL; rfl; rfl; rfl; apply DW.loadO; rfl; rfl; rfl; exact WantT.none; rfl; apply TRead.head; exact ancB_nil; exact Rd.one' rfl; apply DW.v0; rfl; rfl; rfl; exact WantT.none; rfl; apply ValP.orU; rfl; rfl; apply or64; apply or64; omega; omega; omega; omega; apply DW.v0; rfl; rfl; rfl; exact WantT.none; rfl; apply ValP.ne; rfl; rfl; apply DW.store; rfl; rfl; exact WantT.none; rfl; rfl; apply TSet.tail; apply TSet.head; exact ancB_nil; exact ancB_nil; apply Wr.whole; rfl; rfl; rfl; apply DW.nil; simp only [fsOf_cons, fsOf_nil, fsOf_app, fsOf_tsOf, fsOf_new]; apply LW.v0; rfl; rfl; apply ValP.assign; rfl; apply LW.nil; refine thenN ?_; refine CW.ret ?_)
      (apply finR; exact .inl rfl; rfl; rfl; rfl; apply ResL.cons; apply Res.cell; rfl; apply Known.at; apply FsAt.tail; apply FsAt.head; exact Rd.whole rfl; apply ResL.cons; exact Res.tmp rfl; exact ResL.nil)
      rw [← hbool]; rfl
end Go.Proofs.Ytahoghldnijnbaa
