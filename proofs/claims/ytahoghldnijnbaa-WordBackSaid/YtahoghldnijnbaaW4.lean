/-
  Contracts of the word package: Add, Sub, Cmp, Sum.
  Conditions: none.
-/
import Derived.Test.YtahoghldnijnbaaW3
namespace Go.Proofs.Ytahoghldnijnbaa
open Go Go.RowKit SL
set_option maxRecDepth 8000
set_option maxHeartbeats 4000000
set_option linter.unusedSimpArgs false
set_option linter.unusedVariables false
attribute [local irreducible] SL.CW SL.LW SL.DW Calls SL.Ret SL.RetG SL.beginQ SL.roundQ SL.rangeQ SL.inQ SL.RW SL.AnyW SL.thenQ SL.thenC SL.thenW SL.blkQ SL.finQ SL.ValP SL.NewP SL.SetP SL.CallP SL.Rd SL.Wr SL.Known
theorem val_limbs (a : Nat) (ha : a < M256) : a = a % 18446744073709551616 + 18446744073709551616 * (a / 18446744073709551616 % 18446744073709551616) + 340282366920938463463374607431768211456 * (a / 340282366920938463463374607431768211456 % 18446744073709551616) + 6277101735386680763835789423207666416102355444464034512896 * (a / 6277101735386680763835789423207666416102355444464034512896 % 18446744073709551616) := by
  simp only [M256] at ha
  omega
theorem over_of {c : Nat} {p : Prop} [Decidable p] (h : (c : Int) = 0 ↔ ¬ p) : (!decide ((c : Int) = 0)) = decide p := by
  by_cases hp : p
  · have : ¬ ((c : Int) = 0) := fun h' => (h.1 h') hp
    rw [decide_eq_false this, decide_eq_true hp]; rfl
  · rw [decide_eq_true (h.2 hp), decide_eq_false hp]; rfl
theorem lim_lt (a : Nat) : a % 18446744073709551616 < 18446744073709551616 ∧ a / 18446744073709551616 % 18446744073709551616 < 18446744073709551616 ∧ a / 340282366920938463463374607431768211456 % 18446744073709551616 < 18446744073709551616 ∧ a / 6277101735386680763835789423207666416102355444464034512896 % 18446744073709551616 < 18446744073709551616 := by
  refine ⟨?_, ?_, ?_, ?_⟩ <;> exact Nat.mod_lt _ (by decide)
theorem add_step (x y c : Nat) (hx : x < 18446744073709551616) (hy : y < 18446744073709551616) (hc : c ≤ 1) : ∃ r c', (∀ w, (callFunc 58 #[.int .u64 x, .int .u64 y, .int .u64 c]).run Try.prog w = .ok (.value (.tuple #[.int .u64 (r : Nat), .int .u64 (c' : Nat)])) w) ∧ r + 18446744073709551616 * c' = x + y + c ∧ r < 18446744073709551616 ∧ c' ≤ 1 :=
  ⟨_, _, fun w => add64_run x y c hc w, by omega, by omega, by omega⟩
theorem sub_step (x y c : Nat) (hx : x < 18446744073709551616) (hy : y < 18446744073709551616) (hc : c ≤ 1) : ∃ r c', (∀ w, (callFunc 62 #[.int .u64 x, .int .u64 y, .int .u64 c]).run Try.prog w = .ok (.value (.tuple #[.int .u64 (r : Nat), .int .u64 (c' : Nat)])) w) ∧ r + y + c = x + 18446744073709551616 * c' ∧ r < 18446744073709551616 ∧ c' ≤ 1 := by
  refine ⟨_, _, fun w => sub64_run x y c hc w, ?_, by omega, ?_⟩ <;> split <;> omega
theorem carried_finAdd (a b a0 a1 a2 a3 b0 b1 b2 b3 r0 r1 r2 r3 c1 c2 c3 c4 : Nat) (va : a = a0 + 18446744073709551616 * a1 + 340282366920938463463374607431768211456 * a2 + 6277101735386680763835789423207666416102355444464034512896 * a3) (vb : b = b0 + 18446744073709551616 * b1 + 340282366920938463463374607431768211456 * b2 + 6277101735386680763835789423207666416102355444464034512896 * b3) (e0 : r0 + 18446744073709551616 * c1 = a0 + b0 + 0) (e1 : r1 + 18446744073709551616 * c2 = a1 + b1 + c1) (e2 : r2 + 18446744073709551616 * c3 = a2 + b2 + c2) (e3 : r3 + 18446744073709551616 * c4 = a3 + b3 + c3) : r0 + 18446744073709551616 * r1 + 340282366920938463463374607431768211456 * r2 + 6277101735386680763835789423207666416102355444464034512896 * r3 + 115792089237316195423570985008687907853269984665640564039457584007913129639936 * c4 = a + b := by omega
theorem carried_valAdd (a b r0 r1 r2 r3 c4 : Nat) (ha : a < M256) (hb : b < M256) (f0 : r0 < 18446744073709551616) (f1 : r1 < 18446744073709551616) (f2 : r2 < 18446744073709551616) (f3 : r3 < 18446744073709551616) (g4 : c4 ≤ 1) (h : r0 + 18446744073709551616 * r1 + 340282366920938463463374607431768211456 * r2 + 6277101735386680763835789423207666416102355444464034512896 * r3 + 115792089237316195423570985008687907853269984665640564039457584007913129639936 * c4 = a + b) : #[Value.int .u64 (r0 : Int), .int .u64 (r1 : Int), .int .u64 (r2 : Int), .int .u64 (r3 : Int)] = wc ((a + b) % M256) :=
  wc_val f0 f1 f2 f3 (by simp only [M256] at *; omega)
theorem carried_overAdd (a b r0 r1 r2 r3 c4 : Nat) (ha : a < M256) (hb : b < M256) (f0 : r0 < 18446744073709551616) (f1 : r1 < 18446744073709551616) (f2 : r2 < 18446744073709551616) (f3 : r3 < 18446744073709551616) (g4 : c4 ≤ 1) (h : r0 + 18446744073709551616 * r1 + 340282366920938463463374607431768211456 * r2 + 6277101735386680763835789423207666416102355444464034512896 * r3 + 115792089237316195423570985008687907853269984665640564039457584007913129639936 * c4 = a + b) : (!decide ((c4 : Int) = 0)) = decide (M256 ≤ a + b) := by
  have : ((c4 : Int) = 0) ↔ ¬ (M256 ≤ a + b) := by simp only [M256] at *; omega
  exact over_of this
theorem carriedAdd_calls (a b : Nat) (ha : a < M256) (hb : b < M256) (w : World) : Calls Try.prog 57 #[wv a, wv b, .func (.func 58) #[] #[]] w (Ret w (.tuple #[wv ((a + b) % M256), .bool (decide (M256 ≤ a + b))])) := by
  obtain ⟨la0, la1, la2, la3⟩ := lim_lt a
  obtain ⟨lb0, lb1, lb2, lb3⟩ := lim_lt b
  have va := val_limbs a ha
  have vb := val_limbs b hb
  obtain ⟨r0, c1, h0, e0, f0, g1⟩ := add_step (a % 18446744073709551616) (b % 18446744073709551616) 0 la0 lb0 (by decide)
  obtain ⟨r1, c2, h1, e1, f1, g2⟩ := add_step (a / 18446744073709551616 % 18446744073709551616) (b / 18446744073709551616 % 18446744073709551616) c1 la1 lb1 g1
  obtain ⟨r2, c3, h2, e2, f2, g3⟩ := add_step (a / 340282366920938463463374607431768211456 % 18446744073709551616) (b / 340282366920938463463374607431768211456 % 18446744073709551616) c2 la2 lb2 g2
  obtain ⟨r3, c4, h3, e3, f3, g4⟩ := add_step (a / 6277101735386680763835789423207666416102355444464034512896 % 18446744073709551616) (b / 6277101735386680763835789423207666416102355444464034512896 % 18446744073709551616) c3 la3 lb3 g3
  have key := carried_calls 58 _ _ _ _ _ _ _ _ _ _ _ _ _ _ _ _ w h0 h1 h2 h3
  clear h0 h1 h2 h3
  have h : r0 + 18446744073709551616 * r1 + 340282366920938463463374607431768211456 * r2 + 6277101735386680763835789423207666416102355444464034512896 * r3 + 115792089237316195423570985008687907853269984665640564039457584007913129639936 * c4 = a + b := carried_finAdd _ _ _ _ _ _ _ _ _ _ _ _ _ _ _ _ _ _ va vb e0 e1 e2 e3
  rw [show #[Value.int .u64 (r0 : Int), .int .u64 (r1 : Int), .int .u64 (r2 : Int), .int .u64 (r3 : Int)] = wc ((a + b) % M256) from carried_valAdd _ _ _ _ _ _ _ ha hb f0 f1 f2 f3 g4 h, carried_overAdd _ _ _ _ _ _ _ ha hb f0 f1 f2 f3 g4 h] at key
  exact key
theorem carried_finSub (a b a0 a1 a2 a3 b0 b1 b2 b3 r0 r1 r2 r3 c1 c2 c3 c4 : Nat) (va : a = a0 + 18446744073709551616 * a1 + 340282366920938463463374607431768211456 * a2 + 6277101735386680763835789423207666416102355444464034512896 * a3) (vb : b = b0 + 18446744073709551616 * b1 + 340282366920938463463374607431768211456 * b2 + 6277101735386680763835789423207666416102355444464034512896 * b3) (e0 : r0 + b0 + 0 = a0 + 18446744073709551616 * c1) (e1 : r1 + b1 + c1 = a1 + 18446744073709551616 * c2) (e2 : r2 + b2 + c2 = a2 + 18446744073709551616 * c3) (e3 : r3 + b3 + c3 = a3 + 18446744073709551616 * c4) : r0 + 18446744073709551616 * r1 + 340282366920938463463374607431768211456 * r2 + 6277101735386680763835789423207666416102355444464034512896 * r3 + b = a + 115792089237316195423570985008687907853269984665640564039457584007913129639936 * c4 := by omega
theorem carried_valSub (a b r0 r1 r2 r3 c4 : Nat) (ha : a < M256) (hb : b < M256) (f0 : r0 < 18446744073709551616) (f1 : r1 < 18446744073709551616) (f2 : r2 < 18446744073709551616) (f3 : r3 < 18446744073709551616) (g4 : c4 ≤ 1) (h : r0 + 18446744073709551616 * r1 + 340282366920938463463374607431768211456 * r2 + 6277101735386680763835789423207666416102355444464034512896 * r3 + b = a + 115792089237316195423570985008687907853269984665640564039457584007913129639936 * c4) : #[Value.int .u64 (r0 : Int), .int .u64 (r1 : Int), .int .u64 (r2 : Int), .int .u64 (r3 : Int)] = wc ((a + M256 - b) % M256) :=
  wc_val f0 f1 f2 f3 (by simp only [M256] at *; omega)
theorem carried_overSub (a b r0 r1 r2 r3 c4 : Nat) (ha : a < M256) (hb : b < M256) (f0 : r0 < 18446744073709551616) (f1 : r1 < 18446744073709551616) (f2 : r2 < 18446744073709551616) (f3 : r3 < 18446744073709551616) (g4 : c4 ≤ 1) (h : r0 + 18446744073709551616 * r1 + 340282366920938463463374607431768211456 * r2 + 6277101735386680763835789423207666416102355444464034512896 * r3 + b = a + 115792089237316195423570985008687907853269984665640564039457584007913129639936 * c4) : (!decide ((c4 : Int) = 0)) = decide (a < b) := by
  have : ((c4 : Int) = 0) ↔ ¬ (a < b) := by simp only [M256] at *; omega
  exact over_of this
theorem carriedSub_calls (a b : Nat) (ha : a < M256) (hb : b < M256) (w : World) : Calls Try.prog 57 #[wv a, wv b, .func (.func 62) #[] #[]] w (Ret w (.tuple #[wv ((a + M256 - b) % M256), .bool (decide (a < b))])) := by
  obtain ⟨la0, la1, la2, la3⟩ := lim_lt a
  obtain ⟨lb0, lb1, lb2, lb3⟩ := lim_lt b
  have va := val_limbs a ha
  have vb := val_limbs b hb
  obtain ⟨r0, c1, h0, e0, f0, g1⟩ := sub_step (a % 18446744073709551616) (b % 18446744073709551616) 0 la0 lb0 (by decide)
  obtain ⟨r1, c2, h1, e1, f1, g2⟩ := sub_step (a / 18446744073709551616 % 18446744073709551616) (b / 18446744073709551616 % 18446744073709551616) c1 la1 lb1 g1
  obtain ⟨r2, c3, h2, e2, f2, g3⟩ := sub_step (a / 340282366920938463463374607431768211456 % 18446744073709551616) (b / 340282366920938463463374607431768211456 % 18446744073709551616) c2 la2 lb2 g2
  obtain ⟨r3, c4, h3, e3, f3, g4⟩ := sub_step (a / 6277101735386680763835789423207666416102355444464034512896 % 18446744073709551616) (b / 6277101735386680763835789423207666416102355444464034512896 % 18446744073709551616) c3 la3 lb3 g3
  have key := carried_calls 62 _ _ _ _ _ _ _ _ _ _ _ _ _ _ _ _ w h0 h1 h2 h3
  clear h0 h1 h2 h3
  have h : r0 + 18446744073709551616 * r1 + 340282366920938463463374607431768211456 * r2 + 6277101735386680763835789423207666416102355444464034512896 * r3 + b = a + 115792089237316195423570985008687907853269984665640564039457584007913129639936 * c4 := carried_finSub _ _ _ _ _ _ _ _ _ _ _ _ _ _ _ _ _ _ va vb e0 e1 e2 e3
  rw [show #[Value.int .u64 (r0 : Int), .int .u64 (r1 : Int), .int .u64 (r2 : Int), .int .u64 (r3 : Int)] = wc ((a + M256 - b) % M256) from carried_valSub _ _ _ _ _ _ _ ha hb f0 f1 f2 f3 g4 h, carried_overSub _ _ _ _ _ _ _ ha hb f0 f1 f2 f3 g4 h] at key
  exact key
theorem Add_calls (a b : Nat) (ha : a < M256) (hb : b < M256) (w : World) : Calls Try.prog 19 #[wv a, wv b] w (Ret w (.tuple #[wv ((a + b) % M256), .bool (decide (M256 ≤ a + b))])) := by
  refine enter (args := [_, _]) _ [] [] Try.func19 rfl Try.ntmps19 rfl (by simp) .nil ?_
  (refine CW.seq ?_; refine CW.region ?_; apply LW.boxA; rfl; rfl; intro _; apply LW.boxA; rfl; rfl; intro _; apply LW.allocW; rfl; intro _; apply LW.v0; rfl; rfl; apply ValP.assign; rfl; apply LW.nil; refine thenN ?_; refine CW.seq ?_; refine CW.region ?_; apply LW.load; rfl; rfl; apply Known.at; apply FsAt.tail; apply FsAt.tail; apply FsAt.head; exact Rd.whole rfl; apply LW.load; rfl; rfl; apply Known.at; apply FsAt.tail; apply FsAt.head; exact Rd.whole rfl; apply LW.callE; rfl; rfl; infer_instance; apply ArgsOk.cons; rfl; apply ArgsOk.cons; rfl; apply ArgsOk.cons; rfl; exact ArgsOk.nil; intro w _; refine carriedAdd_calls _ _ ?_ ?_ w; assumption; assumption; apply LW.v0; rfl; rfl; apply ValP.extractN; rfl; rfl; apply LW.v0; rfl; rfl; apply ValP.extractN; rfl; rfl; apply LW.store; rfl; rfl; apply SetAt.head; apply Wr.whole; rfl; rfl; rfl; apply LW.v0; rfl; rfl; apply ValP.assign; rfl; apply LW.nil; refine thenN ?_; refine CW.ret ?_)
  (apply finR; exact .inl rfl; rfl; rfl; rfl; apply ResL.cons; apply Res.cell; rfl; apply Known.at; apply FsAt.head; exact Rd.whole rfl; apply ResL.cons; exact Res.tmp rfl; exact ResL.nil)
  rfl
theorem Sub_calls (a b : Nat) (ha : a < M256) (hb : b < M256) (w : World) : Calls Try.prog 21 #[wv a, wv b] w (Ret w (.tuple #[wv ((a + M256 - b) % M256), .bool (decide (a < b))])) := by
  refine enter (args := [_, _]) _ [] [] Try.func21 rfl Try.ntmps21 rfl (by simp) .nil ?_
  (refine CW.seq ?_; refine CW.region ?_; apply LW.boxA; rfl; rfl; intro _; apply LW.boxA; rfl; rfl; intro _; apply LW.allocW; rfl; intro _; apply LW.v0; rfl; rfl; apply ValP.assign; rfl; apply LW.nil; refine thenN ?_; refine CW.seq ?_; refine CW.region ?_; apply LW.load; rfl; rfl; apply Known.at; apply FsAt.tail; apply FsAt.tail; apply FsAt.head; exact Rd.whole rfl; apply LW.load; rfl; rfl; apply Known.at; apply FsAt.tail; apply FsAt.head; exact Rd.whole rfl; apply LW.callE; rfl; rfl; infer_instance; apply ArgsOk.cons; rfl; apply ArgsOk.cons; rfl; apply ArgsOk.cons; rfl; exact ArgsOk.nil; intro w _; refine carriedSub_calls _ _ ?_ ?_ w; assumption; assumption; apply LW.v0; rfl; rfl; apply ValP.extractN; rfl; rfl; apply LW.v0; rfl; rfl; apply ValP.extractN; rfl; rfl; apply LW.store; rfl; rfl; apply SetAt.head; apply Wr.whole; rfl; rfl; rfl; apply LW.v0; rfl; rfl; apply ValP.assign; rfl; apply LW.nil; refine thenN ?_; refine CW.ret ?_)
  (apply finR; exact .inl rfl; rfl; rfl; rfl; apply ResL.cons; apply Res.cell; rfl; apply Known.at; apply FsAt.head; exact Rd.whole rfl; apply ResL.cons; exact Res.tmp rfl; exact ResL.nil)
  rfl
end Go.Proofs.Ytahoghldnijnbaa
