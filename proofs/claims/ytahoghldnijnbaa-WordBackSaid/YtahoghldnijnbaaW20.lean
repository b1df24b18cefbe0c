/-
  Words moved up and down: contracts.
  Conditions: none.
-/
import Derived.Test.YtahoghldnijnbaaW19
namespace Go.Proofs.Ytahoghldnijnbaa
open Go Go.RowKit SL
set_option maxRecDepth 8000
set_option maxHeartbeats 4000000
set_option linter.unusedSimpArgs false
set_option linter.unusedVariables false
attribute [local irreducible] SL.CW SL.LW SL.DW Calls SL.Ret SL.RetG SL.beginQ SL.roundQ SL.rangeQ SL.inQ SL.RW SL.AnyW SL.thenQ SL.thenC SL.thenW SL.blkQ SL.finQ SL.ValP SL.NewP SL.SetP SL.CallP SL.Rd SL.Wr SL.Known
/-! ### Limbs of words that are moved -/
theorem limb_top (N i : Nat) : N / 2 ^ (64 * i) * 2 ^ (64 * i) = N / 2 ^ (64 * (i + 1)) * 2 ^ (64 * (i + 1)) + limb N i * 2 ^ (64 * i) := by
  unfold limb
  rw [Nat.mul_add, Nat.mul_one, Nat.pow_add, ← Nat.div_div_eq_div_mul]
  have h := Nat.div_add_mod (N / 2 ^ (64 * i)) 18446744073709551616
  generalize N / 2 ^ (64 * i) = M at *
  generalize 2 ^ (64 * i) = P at *
  rw [show (2 : Nat) ^ 64 = 18446744073709551616 from rfl]
  conv => lhs; rw [← h]
  rw [Nat.add_mul, Nat.mul_comm 18446744073709551616 (M / _), Nat.mul_assoc, Nat.mul_comm P]
/-- A limb of a number that is moved by less than a limb. -/
theorem limb_shift (a r j : Nat) (hr : r < 64) : limb (a * 2 ^ r) (j + 1) = limb a (j + 1) * 2 ^ r % 18446744073709551616 + limb a j / 2 ^ (64 - r) ∧ limb a j / 2 ^ (64 - r) < 2 ^ r := by
  have hB : 2 ^ (64 - r) * 2 ^ r = 18446744073709551616 := by rw [← Nat.pow_add, show 64 - r + r = 64 by omega]
  have hK : 0 < 2 ^ (64 - r) := Nat.pow_pos (by decide)
  have hR : 0 < 2 ^ r := Nat.pow_pos (by decide)
  unfold limb
  rw [Nat.mul_add, Nat.mul_one, Nat.pow_add, ← Nat.div_div_eq_div_mul a, show (2 : Nat) ^ 64 = 18446744073709551616 from rfl]
  have h1 : a * 2 ^ r / (2 ^ (64 * j) * 18446744073709551616) = a / 2 ^ (64 * j) / 2 ^ (64 - r) := by
    rw [← hB, ← Nat.mul_assoc, Nat.mul_div_mul_right _ _ hR, Nat.div_div_eq_div_mul]
  rw [h1]
  generalize a / 2 ^ (64 * j) = A
  generalize 2 ^ (64 - r) = K at *
  generalize 2 ^ r = R at *
  have h2 := Nat.div_add_mod A 18446744073709551616
  have hm : A % 18446744073709551616 < 18446744073709551616 := Nat.mod_lt _ (by decide)
  have ht : A % 18446744073709551616 / K < R := Nat.div_lt_of_lt_mul (by rw [hB]; exact hm)
  refine ⟨?_, ht⟩
  have h3 : A / K = A / 18446744073709551616 * R + A % 18446744073709551616 / K := by
    conv => lhs; rw [← h2, ← hB, Nat.mul_assoc, Nat.mul_add_div hK]
    rw [hB, Nat.mul_comm R]
  rw [h3, Nat.mod_mul_mod]
  have h4 : A / 18446744073709551616 * R % 18446744073709551616 = A / 18446744073709551616 % K * R := by rw [← hB, Nat.mul_mod_mul_right]
  have h5 : A / 18446744073709551616 % K * R + A % 18446744073709551616 / K < 18446744073709551616 := by
    have h6 : A / 18446744073709551616 % K < K := Nat.mod_lt _ hK
    have h7 : (A / 18446744073709551616 % K + 1) * R ≤ K * R := Nat.mul_le_mul_right _ h6
    rw [Nat.succ_mul, hB] at h7
    omega
  rw [Nat.add_mod, h4, Nat.mod_eq_of_lt (show A % 18446744073709551616 / K < 18446744073709551616 by omega), Nat.mod_eq_of_lt h5]
theorem limb_shift0 (a r : Nat) : limb (a * 2 ^ r) 0 = limb a 0 * 2 ^ r % 18446744073709551616 := by
  unfold limb; simp [Nat.mod_mul_mod]
/-- What is moved down. -/
theorem limb_down (a r j : Nat) (hr : r < 64) : limb (a / 2 ^ r) j = limb a j / 2 ^ r + limb a (j + 1) * 2 ^ (64 - r) % 18446744073709551616 ∧ limb a j / 2 ^ r < 2 ^ (64 - r) := by
  have hB : 2 ^ r * 2 ^ (64 - r) = 18446744073709551616 := by rw [← Nat.pow_add, show r + (64 - r) = 64 by omega]
  have hK : 0 < 2 ^ (64 - r) := Nat.pow_pos (by decide)
  have hR : 0 < 2 ^ r := Nat.pow_pos (by decide)
  unfold limb
  rw [Nat.mul_add, Nat.mul_one, Nat.pow_add, ← Nat.div_div_eq_div_mul a, show (2 : Nat) ^ 64 = 18446744073709551616 from rfl, Nat.div_div_eq_div_mul a, Nat.mul_comm (2 ^ r) (2 ^ (64 * j)), ← Nat.div_div_eq_div_mul a]
  generalize a / 2 ^ (64 * j) = A
  generalize 2 ^ (64 - r) = K at *
  generalize 2 ^ r = R at *
  have h2 := Nat.div_add_mod A 18446744073709551616
  have hm : A % 18446744073709551616 < 18446744073709551616 := Nat.mod_lt _ (by decide)
  have ht : A % 18446744073709551616 / R < K := Nat.div_lt_of_lt_mul (by rw [hB]; exact hm)
  refine ⟨?_, ht⟩
  have h3 : A / R = A / 18446744073709551616 * K + A % 18446744073709551616 / R := by
    conv => lhs; rw [← h2, ← hB, Nat.mul_assoc, Nat.mul_add_div hR]
    rw [hB, Nat.mul_comm K]
  rw [h3, Nat.mod_mul_mod]
  have h4 : A / 18446744073709551616 * K % 18446744073709551616 = A / 18446744073709551616 % R * K := by rw [← hB, Nat.mul_mod_mul_right]
  have h5 : A / 18446744073709551616 % R * K + A % 18446744073709551616 / R < 18446744073709551616 := by
    have h6 : A / 18446744073709551616 % R < R := Nat.mod_lt _ hR
    have h7 : (A / 18446744073709551616 % R + 1) * K ≤ R * K := Nat.mul_le_mul_right _ h6
    rw [Nat.succ_mul, hB] at h7
    omega
  rw [Nat.add_mod, h4, Nat.mod_eq_of_lt (show A % 18446744073709551616 / R < 18446744073709551616 by omega), Nat.mod_eq_of_lt h5, Nat.add_comm]
theorem or_low {R A t : Nat} {r : Nat} (hR : R = 2 ^ r) (hA : R ∣ A) (ht : t < R) : A ||| t = A + t := by
  obtain ⟨q, rfl⟩ := hA
  subst hR
  rw [Nat.mul_comm, ← Nat.shiftLeft_eq, Nat.shiftLeft_add_eq_or_of_lt ht]

theorem limb_mod (N j : Nat) (hj : j < 4) : limb (N % M256) j = limb N j := by
  unfold limb
  rcases (show j = 0 ∨ j = 1 ∨ j = 2 ∨ j = 3 by omega) with rfl | rfl | rfl | rfl <;> simp only [Nat.mul_zero, Nat.pow_zero, Nat.div_one, Nat.mul_one, Nat.reduceMul, Nat.reducePow, M256] <;> omega
theorem limb_mul (Y q j : Nat) : limb (Y * 2 ^ (64 * q)) (q + j) = limb Y j := by
  unfold limb
  rw [Nat.mul_add, Nat.pow_add, Nat.mul_comm (2 ^ (64 * q)), Nat.mul_div_mul_right _ _ (pow_pos2 _)]
theorem wc_setlimb (X i v1 v2 : Nat) (hi : i < 4) (hX : X + 18446744073709551615 * 2 ^ (64 * i) < M256) (h1 : v1 < 18446744073709551616) (h2 : v2 < 18446744073709551616) (hz : limb X i = 0) :
    ((wc (X + v1 * 2 ^ (64 * i))).toList.set i (.int .u64 ((v2 : Nat) : Int))).toArray = wc (X + v2 * 2 ^ (64 * i)) := by
  unfold limb at hz
  rcases (show i = 0 ∨ i = 1 ∨ i = 2 ∨ i = 3 by omega) with rfl | rfl | rfl | rfl <;> simp only [wc, List.set_cons_zero, List.set_cons_succ, Nat.mul_zero, Nat.pow_zero, Nat.div_one, Nat.mul_one, Nat.reduceMul, Nat.reducePow, M256] at hz hX ⊢
  · exact wc_val (by omega) (by omega) (by omega) (by omega) (by omega)
  · exact wc_val (by omega) (by omega) (by omega) (by omega) (by omega)
  · exact wc_val (by omega) (by omega) (by omega) (by omega) (by omega)
  · exact wc_val (by omega) (by omega) (by omega) (by omega) (by omega)
theorem rMoves_calls (n : Nat) (hn : n < M256) (w : World) : Calls Try.prog 42 #[wv n] w (Ret w (.int .i64 ((min n 256 : Nat) : Int))) := by
  simp only [M256] at hn
  refine enter (args := [_]) _ [] [] Try.func42 rfl Try.ntmps42 rfl (by simp) .nil ?_
  rcases Nat.eq_zero_or_pos (n / 18446744073709551616 % 18446744073709551616) with h1 | h1
  · rcases Nat.eq_zero_or_pos (n / 340282366920938463463374607431768211456 % 18446744073709551616) with h2 | h2
    · rcases Nat.eq_zero_or_pos (n / 6277101735386680763835789423207666416102355444464034512896 % 18446744073709551616) with h3 | h3
      · have hs : n % 18446744073709551616 = n := by omega
        rcases Nat.lt_or_ge 256 n with h0 | h0
        · have hm : min n 256 = 256 := by omega
          rw [hm]
          have h4 : 256 < n % 18446744073709551616 := by omega
          (refine CW.seq ?_; refine CW.region ?_; apply LW.boxA; rfl; rfl; intro _; apply LW.v0; rfl; rfl; apply ValP.assign; rfl; apply LW.nil; refine thenN ?_; refine CW.seq ?_; refine CW.seq ?_; refine CW.region ?_; apply LW.v0; rfl; rfl; apply ValP.indexAddrL; rfl; rfl; rfl; apply LW.load; rfl; rfl; apply Known.at; apply FsAt.head; exact Rd.one' rfl; apply LW.v0; rfl; rfl; apply ValP.gtrF; rfl; rfl; omega; apply LW.v0; rfl; rfl; apply ValP.move; rfl; apply LW.guardT'; rfl; rfl; (with_reducible rfl); apply LW.v0; rfl; rfl; apply ValP.indexAddrL; rfl; rfl; rfl; apply LW.guardT'; rfl; rfl; (with_reducible rfl); apply LW.load; rfl; rfl; apply Known.at; apply FsAt.head; exact Rd.one' rfl; apply LW.guardT'; rfl; rfl; (with_reducible rfl); apply LW.v0; rfl; rfl; apply ValP.gtrF; rfl; rfl; omega; apply LW.v0; rfl; rfl; apply ValP.pickF'; rfl; (with_reducible rfl); rfl; apply LW.v0; rfl; rfl; apply ValP.move; rfl; apply LW.guardT'; rfl; rfl; (with_reducible rfl); apply LW.v0; rfl; rfl; apply ValP.indexAddrL; rfl; rfl; rfl; apply LW.guardT'; rfl; rfl; (with_reducible rfl); apply LW.load; rfl; rfl; apply Known.at; apply FsAt.head; exact Rd.one' rfl; apply LW.guardT'; rfl; rfl; (with_reducible rfl); apply LW.v0; rfl; rfl; apply ValP.gtrF; rfl; rfl; omega; apply LW.v0; rfl; rfl; apply ValP.pickF'; rfl; (with_reducible rfl); rfl; apply LW.v0; rfl; rfl; apply ValP.move; rfl; apply LW.guardT'; rfl; rfl; (with_reducible rfl); apply LW.v0; rfl; rfl; apply ValP.indexAddrL; rfl; rfl; rfl; apply LW.guardT'; rfl; rfl; (with_reducible rfl); apply LW.load; rfl; rfl; apply Known.at; apply FsAt.head; exact Rd.one' rfl; apply LW.guardT'; rfl; rfl; (with_reducible rfl); apply LW.v0; rfl; rfl; apply ValP.gtrT; rfl; rfl; omega; apply LW.v0; rfl; rfl; apply ValP.pickF'; rfl; (with_reducible rfl); rfl; apply LW.nil; refine thenN ?_; apply CW.condT; rfl; (with_reducible rfl); refine CW.seq ?_; refine CW.region ?_; apply LW.v0; rfl; rfl; apply ValP.assign; rfl; apply LW.nil; refine thenN ?_; refine CW.ret ?_; refine thenR ?_)
          (apply finR; exact .inl rfl; rfl; rfl; rfl; apply ResL.cons; exact Res.tmp rfl; exact ResL.nil)
          rfl
        · have hm : min n 256 = n := by omega
          rw [hm]
          have h4 : n % 18446744073709551616 ≤ 256 := by omega
          (refine CW.seq ?_; refine CW.region ?_; apply LW.boxA; rfl; rfl; intro _; apply LW.v0; rfl; rfl; apply ValP.assign; rfl; apply LW.nil; refine thenN ?_; refine CW.seq ?_; refine CW.seq ?_; refine CW.region ?_; apply LW.v0; rfl; rfl; apply ValP.indexAddrL; rfl; rfl; rfl; apply LW.load; rfl; rfl; apply Known.at; apply FsAt.head; exact Rd.one' rfl; apply LW.v0; rfl; rfl; apply ValP.gtrF; rfl; rfl; omega; apply LW.v0; rfl; rfl; apply ValP.move; rfl; apply LW.guardT'; rfl; rfl; (with_reducible rfl); apply LW.v0; rfl; rfl; apply ValP.indexAddrL; rfl; rfl; rfl; apply LW.guardT'; rfl; rfl; (with_reducible rfl); apply LW.load; rfl; rfl; apply Known.at; apply FsAt.head; exact Rd.one' rfl; apply LW.guardT'; rfl; rfl; (with_reducible rfl); apply LW.v0; rfl; rfl; apply ValP.gtrF; rfl; rfl; omega; apply LW.v0; rfl; rfl; apply ValP.pickF'; rfl; (with_reducible rfl); rfl; apply LW.v0; rfl; rfl; apply ValP.move; rfl; apply LW.guardT'; rfl; rfl; (with_reducible rfl); apply LW.v0; rfl; rfl; apply ValP.indexAddrL; rfl; rfl; rfl; apply LW.guardT'; rfl; rfl; (with_reducible rfl); apply LW.load; rfl; rfl; apply Known.at; apply FsAt.head; exact Rd.one' rfl; apply LW.guardT'; rfl; rfl; (with_reducible rfl); apply LW.v0; rfl; rfl; apply ValP.gtrF; rfl; rfl; omega; apply LW.v0; rfl; rfl; apply ValP.pickF'; rfl; (with_reducible rfl); rfl; apply LW.v0; rfl; rfl; apply ValP.move; rfl; apply LW.guardT'; rfl; rfl; (with_reducible rfl); apply LW.v0; rfl; rfl; apply ValP.indexAddrL; rfl; rfl; rfl; apply LW.guardT'; rfl; rfl; (with_reducible rfl); apply LW.load; rfl; rfl; apply Known.at; apply FsAt.head; exact Rd.one' rfl; apply LW.guardT'; rfl; rfl; (with_reducible rfl); apply LW.v0; rfl; rfl; apply ValP.gtrF; rfl; rfl; omega; apply LW.v0; rfl; rfl; apply ValP.pickF'; rfl; (with_reducible rfl); rfl; apply LW.nil; refine thenN ?_; apply CW.condF; rfl; (with_reducible rfl); refine CW.skip ?_; refine thenN ?_; refine CW.seq ?_; refine CW.region ?_; apply LW.v0; rfl; rfl; apply ValP.indexAddrL; rfl; rfl; rfl; apply LW.load; rfl; rfl; apply Known.at; apply FsAt.head; exact Rd.one' rfl; apply LW.v0; rfl; rfl; apply ValP.convI; rfl; omega; omega; apply LW.v0; rfl; rfl; apply ValP.assign; rfl; apply LW.nil; refine thenN ?_; refine CW.ret ?_)
          (apply finR; exact .inl rfl; rfl; rfl; rfl; apply ResL.cons; exact Res.tmp rfl; exact ResL.nil)
          rw [hs]; rfl
      · have hm : min n 256 = 256 := by omega
        rw [hm]
        (refine CW.seq ?_; refine CW.region ?_; apply LW.boxA; rfl; rfl; intro _; apply LW.v0; rfl; rfl; apply ValP.assign; rfl; apply LW.nil; refine thenN ?_; refine CW.seq ?_; refine CW.seq ?_; refine CW.region ?_; apply LW.v0; rfl; rfl; apply ValP.indexAddrL; rfl; rfl; rfl; apply LW.load; rfl; rfl; apply Known.at; apply FsAt.head; exact Rd.one' rfl; apply LW.v0; rfl; rfl; apply ValP.gtrF; rfl; rfl; omega; apply LW.v0; rfl; rfl; apply ValP.move; rfl; apply LW.guardT'; rfl; rfl; (with_reducible rfl); apply LW.v0; rfl; rfl; apply ValP.indexAddrL; rfl; rfl; rfl; apply LW.guardT'; rfl; rfl; (with_reducible rfl); apply LW.load; rfl; rfl; apply Known.at; apply FsAt.head; exact Rd.one' rfl; apply LW.guardT'; rfl; rfl; (with_reducible rfl); apply LW.v0; rfl; rfl; apply ValP.gtrF; rfl; rfl; omega; apply LW.v0; rfl; rfl; apply ValP.pickF'; rfl; (with_reducible rfl); rfl; apply LW.v0; rfl; rfl; apply ValP.move; rfl; apply LW.guardT'; rfl; rfl; (with_reducible rfl); apply LW.v0; rfl; rfl; apply ValP.indexAddrL; rfl; rfl; rfl; apply LW.guardT'; rfl; rfl; (with_reducible rfl); apply LW.load; rfl; rfl; apply Known.at; apply FsAt.head; exact Rd.one' rfl; apply LW.guardT'; rfl; rfl; (with_reducible rfl); apply LW.v0; rfl; rfl; apply ValP.gtrT; rfl; rfl; omega; apply LW.v0; rfl; rfl; apply ValP.pickF'; rfl; (with_reducible rfl); rfl; apply LW.v0; rfl; rfl; apply ValP.move; rfl; apply LW.guardF'; rfl; rfl; simp only [Bool.not_true, Bool.not_false]; rfl; apply LW.guardF'; rfl; rfl; simp only [Bool.not_true, Bool.not_false]; rfl; apply LW.guardF'; rfl; rfl; simp only [Bool.not_true, Bool.not_false]; rfl; apply LW.v0; rfl; rfl; apply ValP.pickT'; rfl; (with_reducible rfl); rfl; apply LW.nil; refine thenN ?_; apply CW.condT; rfl; (with_reducible rfl); refine CW.seq ?_; refine CW.region ?_; apply LW.v0; rfl; rfl; apply ValP.assign; rfl; apply LW.nil; refine thenN ?_; refine CW.ret ?_; refine thenR ?_)
        (apply finR; exact .inl rfl; rfl; rfl; rfl; apply ResL.cons; exact Res.tmp rfl; exact ResL.nil)
        rfl
    · have hm : min n 256 = 256 := by omega
      rw [hm]
      (refine CW.seq ?_; refine CW.region ?_; apply LW.boxA; rfl; rfl; intro _; apply LW.v0; rfl; rfl; apply ValP.assign; rfl; apply LW.nil; refine thenN ?_; refine CW.seq ?_; refine CW.seq ?_; refine CW.region ?_; apply LW.v0; rfl; rfl; apply ValP.indexAddrL; rfl; rfl; rfl; apply LW.load; rfl; rfl; apply Known.at; apply FsAt.head; exact Rd.one' rfl; apply LW.v0; rfl; rfl; apply ValP.gtrF; rfl; rfl; omega; apply LW.v0; rfl; rfl; apply ValP.move; rfl; apply LW.guardT'; rfl; rfl; (with_reducible rfl); apply LW.v0; rfl; rfl; apply ValP.indexAddrL; rfl; rfl; rfl; apply LW.guardT'; rfl; rfl; (with_reducible rfl); apply LW.load; rfl; rfl; apply Known.at; apply FsAt.head; exact Rd.one' rfl; apply LW.guardT'; rfl; rfl; (with_reducible rfl); apply LW.v0; rfl; rfl; apply ValP.gtrT; rfl; rfl; omega; apply LW.v0; rfl; rfl; apply ValP.pickF'; rfl; (with_reducible rfl); rfl; apply LW.v0; rfl; rfl; apply ValP.move; rfl; apply LW.guardF'; rfl; rfl; simp only [Bool.not_true, Bool.not_false]; rfl; apply LW.guardF'; rfl; rfl; simp only [Bool.not_true, Bool.not_false]; rfl; apply LW.guardF'; rfl; rfl; simp only [Bool.not_true, Bool.not_false]; rfl; apply LW.v0; rfl; rfl; apply ValP.pickT'; rfl; (with_reducible rfl); rfl; apply LW.v0; rfl; rfl; apply ValP.move; rfl; apply LW.guardF'; rfl; rfl; simp only [Bool.not_true, Bool.not_false]; rfl; apply LW.guardF'; rfl; rfl; simp only [Bool.not_true, Bool.not_false]; rfl; apply LW.guardF'; rfl; rfl; simp only [Bool.not_true, Bool.not_false]; rfl; apply LW.v0; rfl; rfl; apply ValP.pickT'; rfl; (with_reducible rfl); rfl; apply LW.nil; refine thenN ?_; apply CW.condT; rfl; (with_reducible rfl); refine CW.seq ?_; refine CW.region ?_; apply LW.v0; rfl; rfl; apply ValP.assign; rfl; apply LW.nil; refine thenN ?_; refine CW.ret ?_; refine thenR ?_)
      (apply finR; exact .inl rfl; rfl; rfl; rfl; apply ResL.cons; exact Res.tmp rfl; exact ResL.nil)
      rfl
  · have hm : min n 256 = 256 := by omega
    rw [hm]
    (refine CW.seq ?_; refine CW.region ?_; apply LW.boxA; rfl; rfl; intro _; apply LW.v0; rfl; rfl; apply ValP.assign; rfl; apply LW.nil; refine thenN ?_; refine CW.seq ?_; refine CW.seq ?_; refine CW.region ?_; apply LW.v0; rfl; rfl; apply ValP.indexAddrL; rfl; rfl; rfl; apply LW.load; rfl; rfl; apply Known.at; apply FsAt.head; exact Rd.one' rfl; apply LW.v0; rfl; rfl; apply ValP.gtrT; rfl; rfl; omega; apply LW.v0; rfl; rfl; apply ValP.move; rfl; apply LW.guardF'; rfl; rfl; simp only [Bool.not_true, Bool.not_false]; rfl; apply LW.guardF'; rfl; rfl; simp only [Bool.not_true, Bool.not_false]; rfl; apply LW.guardF'; rfl; rfl; simp only [Bool.not_true, Bool.not_false]; rfl; apply LW.v0; rfl; rfl; apply ValP.pickT'; rfl; (with_reducible rfl); rfl; apply LW.v0; rfl; rfl; apply ValP.move; rfl; apply LW.guardF'; rfl; rfl; simp only [Bool.not_true, Bool.not_false]; rfl; apply LW.guardF'; rfl; rfl; simp only [Bool.not_true, Bool.not_false]; rfl; apply LW.guardF'; rfl; rfl; simp only [Bool.not_true, Bool.not_false]; rfl; apply LW.v0; rfl; rfl; apply ValP.pickT'; rfl; (with_reducible rfl); rfl; apply LW.v0; rfl; rfl; apply ValP.move; rfl; apply LW.guardF'; rfl; rfl; simp only [Bool.not_true, Bool.not_false]; rfl; apply LW.guardF'; rfl; rfl; simp only [Bool.not_true, Bool.not_false]; rfl; apply LW.guardF'; rfl; rfl; simp only [Bool.not_true, Bool.not_false]; rfl; apply LW.v0; rfl; rfl; apply ValP.pickT'; rfl; (with_reducible rfl); rfl; apply LW.nil; refine thenN ?_; apply CW.condT; rfl; (with_reducible rfl); refine CW.seq ?_; refine CW.region ?_; apply LW.v0; rfl; rfl; apply ValP.assign; rfl; apply LW.nil; refine thenN ?_; refine CW.ret ?_; refine thenR ?_)
    (apply finR; exact .inl rfl; rfl; rfl; rfl; apply ResL.cons; exact Res.tmp rfl; exact ResL.nil)
    rfl
theorem bl_drop (x m k : Nat) (h : k ≤ m) : (bl x m).drop k = bl (x / 2 ^ k) (m - k) := by
  apply List.ext_getElem?
  intro i
  rw [List.getElem?_drop]
  rcases Nat.lt_or_ge i (m - k) with hi | hi
  · rw [bl_get _ _ _ (by omega), bl_get _ _ _ hi, Nat.div_div_eq_div_mul, ← Nat.pow_add]
  · rw [List.getElem?_eq_none (by rw [bl_len]; omega), List.getElem?_eq_none (by rw [bl_len]; exact hi)]
theorem rShr_calls (a n : Nat) (ha : a < M256) (hn : n ≤ 256) (w : World) : Calls Try.prog 46 #[wv a, .int .i64 (n : Int)] w (Ret w (wv (a / 2 ^ n))) := by
  have hlow : a / 2 ^ n < 2 ^ (256 - n) := Nat.div_lt_of_lt_mul (by rw [← Nat.pow_add, show n + (256 - n) = 256 by omega]; exact ha)
  refine enter (args := [_, _]) _ [] [] Try.func46 rfl Try.ntmps46 rfl (by simp) .nil ?_
  (refine CW.seq ?_; refine CW.region ?_; apply LW.boxA; rfl; rfl; intro _; apply LW.allocW; rfl; intro _; apply LW.nil; refine thenN ?_; refine CW.seq ?_; refine CW.region ?_; apply LW.load; rfl; rfl; apply Known.at; apply FsAt.tail; apply FsAt.head; exact Rd.whole rfl)
  (apply LW.callR; rfl; rfl; infer_instance; apply ArgsOk.cons; rfl; apply ArgsOk.cons; rfl; exact ArgsOk.nil; intro w hs)
  exact bits_calls _ _ (by assumption) (by decide) w
  intro vo go hro
  replace hro : IsRow 3 1 vo 256 (ics (bl a 256)) go := hro
  obtain ⟨po, co, rfl⟩ := hro.form
  (apply LW.v0; rfl; rfl; apply ValP.move; rfl; apply LW.v0; rfl; rfl; apply ValP.cutFrom; infer_instance; infer_instance; rfl; rfl; omega)
  apply LW.callE
  rfl
  rfl
  infer_instance
  (apply ArgsOk.cons; rfl; exact ArgsOk.nil)
  · intro w hs
    have h1 := (hro.atSeg (fs := go ++ _) .head hs).drop hn
    rw [ics_drop, bl_drop _ _ _ hn] at h1
    have h2 := of_calls (a / 2 ^ n) (256 - n) (by omega) _ w h1
    rw [Nat.min_eq_left (by omega), Nat.mod_eq_of_lt hlow] at h2
    exact h2
  (apply LW.store; rfl; rfl; apply SetAt.app; apply SetAt.head; apply Wr.whole; rfl; rfl; rfl; apply LW.nil; refine thenN ?_; refine CW.ret ?_)
  (apply finR; exact .inl rfl; rfl; rfl; rfl; apply ResL.cons; apply Res.cell; rfl; apply Known.at; apply FsAt.app; apply FsAt.head; exact Rd.whole rfl; exact ResL.nil)
  rfl
theorem rShl_calls (a n : Nat) (ha : a < M256) (hn : n ≤ 256) (w : World) : Calls Try.prog 44 #[wv a, .int .i64 (n : Int)] w (Ret w (wv (a * 2 ^ n % M256))) := by
  refine enter (args := [_, _]) _ [] [] Try.func44 rfl Try.ntmps44 rfl (by simp) .nil ?_
  (refine CW.seq ?_; refine CW.region ?_; apply LW.boxA; rfl; rfl; intro _; apply LW.allocW; rfl; intro _; apply LW.nil; refine thenN ?_; refine CW.seq ?_)
  apply CW.pre
  refine AnyW.anyM [(3, fun v gs => IsRow 3 1 v 256 (ics (bl a 256)) gs)] 4 mixed (by decide +kernel) ?_
  ((try simp only [tsOf_cons, tsOf_nil, tsOf_app]); apply DW.v0; rfl; rfl; rfl; exact WantT.none; rfl; apply ValP.move; rfl)
  refine DW.new (s := .sl n n) rfl rfl rfl .none rfl (NewP.makeSlice (ik := .i64) inferInstance inferInstance inferInstance rfl (by omega) (by omega)) ?_
  intro g
  ((try simp only [tsOf_cons, tsOf_nil, tsOf_app]); apply DW.loadO; rfl; rfl; rfl; exact WantT.none; rfl; apply TRead.tail; apply TRead.tail; apply TRead.head; exact ancB_nil; exact Rd.whole rfl)
  (apply DW.manyE; rfl; rfl; rfl; exact WantT.none; rfl; infer_instance; apply ArgsOk.cons; rfl; apply ArgsOk.cons; rfl; exact ArgsOk.nil; rfl; exact ReadAll.nil; intro w _ _)
  exact bits_calls _ _ (by assumption) (by decide) w
  intro vo go hro
  replace hro : IsRow 3 1 vo 256 (ics (bl a 256)) go := hro
  obtain ⟨po, co, rfl⟩ := hro.form
  ((try simp only [tsOf_cons, tsOf_nil, tsOf_app]); apply DW.nil; simp only [fsOf_cons, fsOf_nil, fsOf_app, fsOf_tsOf, fsOf_new])
  simp only [Sh.val, List.drop_succ_cons, List.drop_zero]
  have hg : IsRow 3 1 (.slice (some ⟨g, 0, none⟩) n n) n (ics (List.replicate n 0)) [(g, .cells (madeCells (Value.int .i64 0).cells (n * 1)) 3 (0, 0))] :=
    .own (Nat.le_refl _) (by simp only [maxLen]; omega) (by simp [madeCells]) (by rw [made_one rfl, ics_zero, List.take_of_length_le (by rw [← ics_zero]; simp)]) (by rw [← ics_zero]; simp)
  refine LW.appendAt rfl rfl inferInstance inferInstance inferInstance rfl rfl rfl (.app .one) hg (fun w hs => hro.atSeg (by (exact AtSeg.head)) hs) (ics_cells _) (by decide) (by simp only [maxLen]; omega) (by omega) ?_
  intro v2 g2 hr2
  rw [← ics_app, bl_shift] at hr2
  obtain ⟨p2, c2, rfl⟩ := hr2.form
  refine ⟨_, (.app .head), ?_⟩
  try simp only [List.nil_append]
  apply LW.callE
  rfl
  rfl
  infer_instance
  (apply ArgsOk.cons; rfl; exact ArgsOk.nil)
  · intro w hs
    have h2 := of_calls (a * 2 ^ n) (n + 256) (by omega) _ w (hr2.atSeg (by (apply AtSeg.app; exact AtSeg.head)) hs)
    rw [Nat.min_eq_right (by omega)] at h2
    exact h2
  (apply LW.store; rfl; rfl; apply SetAt.app; apply SetAt.app; apply SetAt.head; apply Wr.whole; rfl; rfl; rfl; apply LW.nil; refine thenN ?_; refine CW.ret ?_)
  (apply finR; exact .inl rfl; rfl; rfl; rfl; apply ResL.cons; apply Res.cell; rfl; apply Known.at; apply FsAt.app; apply FsAt.app; apply FsAt.head; exact Rd.whole rfl; exact ResL.nil)
  rfl
end Go.Proofs.Ytahoghldnijnbaa
