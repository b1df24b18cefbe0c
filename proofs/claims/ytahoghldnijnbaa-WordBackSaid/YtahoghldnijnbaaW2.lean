/-
  Contracts of the word package: And, Or, Xor, Not; sums and differences; how words stand.
  Conditions: none.
-/
import Derived.Test.YtahoghldnijnbaaW1
namespace Go.Proofs.Ytahoghldnijnbaa
open Go Go.RowKit SL
set_option maxRecDepth 8000
set_option maxHeartbeats 4000000
set_option linter.unusedSimpArgs false
set_option linter.unusedVariables false
attribute [local irreducible] SL.CW SL.LW SL.DW Calls SL.Ret SL.RetG SL.beginQ SL.roundQ SL.rangeQ SL.inQ SL.RW SL.AnyW SL.thenQ SL.thenC SL.thenW SL.blkQ SL.finQ SL.ValP SL.NewP SL.SetP SL.CallP SL.Rd SL.Wr SL.Known
theorem lim_and (a b : Nat) : #[Value.int .u64 ((a % 18446744073709551616 &&& b % 18446744073709551616 : Nat) : Int), .int .u64 ((a / 18446744073709551616 % 18446744073709551616 &&& b / 18446744073709551616 % 18446744073709551616 : Nat) : Int), .int .u64 ((a / 340282366920938463463374607431768211456 % 18446744073709551616 &&& b / 340282366920938463463374607431768211456 % 18446744073709551616 : Nat) : Int), .int .u64 ((a / 6277101735386680763835789423207666416102355444464034512896 % 18446744073709551616 &&& b / 6277101735386680763835789423207666416102355444464034512896 % 18446744073709551616 : Nat) : Int)] = wc (a &&& b) := by
  unfold wc
  rw [show (18446744073709551616 : Nat) = 2 ^ 64 from rfl, show (340282366920938463463374607431768211456 : Nat) = 2 ^ 128 from rfl, show (6277101735386680763835789423207666416102355444464034512896 : Nat) = 2 ^ 192 from rfl]
  simp only [Nat.and_mod_two_pow, Nat.and_div_two_pow]
theorem lim_or (a b : Nat) : #[Value.int .u64 ((a % 18446744073709551616 ||| b % 18446744073709551616 : Nat) : Int), .int .u64 ((a / 18446744073709551616 % 18446744073709551616 ||| b / 18446744073709551616 % 18446744073709551616 : Nat) : Int), .int .u64 ((a / 340282366920938463463374607431768211456 % 18446744073709551616 ||| b / 340282366920938463463374607431768211456 % 18446744073709551616 : Nat) : Int), .int .u64 ((a / 6277101735386680763835789423207666416102355444464034512896 % 18446744073709551616 ||| b / 6277101735386680763835789423207666416102355444464034512896 % 18446744073709551616 : Nat) : Int)] = wc (a ||| b) := by
  unfold wc
  rw [show (18446744073709551616 : Nat) = 2 ^ 64 from rfl, show (340282366920938463463374607431768211456 : Nat) = 2 ^ 128 from rfl, show (6277101735386680763835789423207666416102355444464034512896 : Nat) = 2 ^ 192 from rfl]
  simp only [Nat.or_mod_two_pow, Nat.or_div_two_pow]
theorem lim_xor (a b : Nat) : #[Value.int .u64 ((a % 18446744073709551616 ^^^ b % 18446744073709551616 : Nat) : Int), .int .u64 ((a / 18446744073709551616 % 18446744073709551616 ^^^ b / 18446744073709551616 % 18446744073709551616 : Nat) : Int), .int .u64 ((a / 340282366920938463463374607431768211456 % 18446744073709551616 ^^^ b / 340282366920938463463374607431768211456 % 18446744073709551616 : Nat) : Int), .int .u64 ((a / 6277101735386680763835789423207666416102355444464034512896 % 18446744073709551616 ^^^ b / 6277101735386680763835789423207666416102355444464034512896 % 18446744073709551616 : Nat) : Int)] = wc (a ^^^ b) := by
  unfold wc
  rw [show (18446744073709551616 : Nat) = 2 ^ 64 from rfl, show (340282366920938463463374607431768211456 : Nat) = 2 ^ 128 from rfl, show (6277101735386680763835789423207666416102355444464034512896 : Nat) = 2 ^ 192 from rfl]
  simp only [Nat.xor_mod_two_pow, Nat.xor_div_two_pow]
theorem lim_not (a : Nat) (ha : a < M256) : #[Value.int .u64 ((18446744073709551615 - a % 18446744073709551616 : Nat) : Int), .int .u64 ((18446744073709551615 - a / 18446744073709551616 % 18446744073709551616 : Nat) : Int), .int .u64 ((18446744073709551615 - a / 340282366920938463463374607431768211456 % 18446744073709551616 : Nat) : Int), .int .u64 ((18446744073709551615 - a / 6277101735386680763835789423207666416102355444464034512896 % 18446744073709551616 : Nat) : Int)] = wc (M256 - 1 - a) := by
  simp only [M256] at ha ⊢
  exact wc_val (by omega) (by omega) (by omega) (by omega) (by omega)
theorem And_calls (a b : Nat) (w : World) : Calls Try.prog 17 #[wv a, wv b] w (Ret w (wv (a &&& b))) := by
  refine enter (args := [_, _]) _ [] [] Try.func17 rfl Try.ntmps17 rfl (by simp) .nil ?_
  (refine CW.seq ?_; refine CW.region ?_; apply LW.boxA; rfl; rfl; intro _; apply LW.boxA; rfl; rfl; intro _; apply LW.allocW; rfl; intro _; apply LW.nil; refine thenN ?_; refine CW.seq ?_; refine CW.region ?_; apply LW.load; rfl; rfl; apply Known.at; apply FsAt.tail; apply FsAt.tail; apply FsAt.head; exact Rd.whole rfl; apply LW.load; rfl; rfl; apply Known.at; apply FsAt.tail; apply FsAt.head; exact Rd.whole rfl; apply LW.callE; rfl; rfl; infer_instance; apply ArgsOk.cons; rfl; apply ArgsOk.cons; rfl; apply ArgsOk.cons; rfl; exact ArgsOk.nil; intro w _; exact each_calls _ _ _ _ _ _ _ _ _ _ _ _ _ w (And1_calls _ _ (by omega) (by omega)) (And1_calls _ _ (by omega) (by omega)) (And1_calls _ _ (by omega) (by omega)) (And1_calls _ _ (by omega) (by omega)); apply LW.store; rfl; rfl; apply SetAt.head; apply Wr.whole; rfl; rfl; rfl; apply LW.nil; refine thenN ?_; refine CW.ret ?_)
  (apply finR; exact .inl rfl; rfl; rfl; rfl; apply ResL.cons; apply Res.cell; rfl; apply Known.at; apply FsAt.head; exact Rd.whole rfl; exact ResL.nil)
  exact congrArg Value.agg (lim_and a b)
theorem Or_calls (a b : Nat) (w : World) : Calls Try.prog 16 #[wv a, wv b] w (Ret w (wv (a ||| b))) := by
  refine enter (args := [_, _]) _ [] [] Try.func16 rfl Try.ntmps16 rfl (by simp) .nil ?_
  (refine CW.seq ?_; refine CW.region ?_; apply LW.boxA; rfl; rfl; intro _; apply LW.boxA; rfl; rfl; intro _; apply LW.allocW; rfl; intro _; apply LW.nil; refine thenN ?_; refine CW.seq ?_; refine CW.region ?_; apply LW.load; rfl; rfl; apply Known.at; apply FsAt.tail; apply FsAt.tail; apply FsAt.head; exact Rd.whole rfl; apply LW.load; rfl; rfl; apply Known.at; apply FsAt.tail; apply FsAt.head; exact Rd.whole rfl; apply LW.callE; rfl; rfl; infer_instance; apply ArgsOk.cons; rfl; apply ArgsOk.cons; rfl; apply ArgsOk.cons; rfl; exact ArgsOk.nil; intro w _; exact each_calls _ _ _ _ _ _ _ _ _ _ _ _ _ w (Or1_calls _ _ (by omega) (by omega)) (Or1_calls _ _ (by omega) (by omega)) (Or1_calls _ _ (by omega) (by omega)) (Or1_calls _ _ (by omega) (by omega)); apply LW.store; rfl; rfl; apply SetAt.head; apply Wr.whole; rfl; rfl; rfl; apply LW.nil; refine thenN ?_; refine CW.ret ?_)
  (apply finR; exact .inl rfl; rfl; rfl; rfl; apply ResL.cons; apply Res.cell; rfl; apply Known.at; apply FsAt.head; exact Rd.whole rfl; exact ResL.nil)
  exact congrArg Value.agg (lim_or a b)
theorem Xor_calls (a b : Nat) (w : World) : Calls Try.prog 18 #[wv a, wv b] w (Ret w (wv (a ^^^ b))) := by
  refine enter (args := [_, _]) _ [] [] Try.func18 rfl Try.ntmps18 rfl (by simp) .nil ?_
  (refine CW.seq ?_; refine CW.region ?_; apply LW.boxA; rfl; rfl; intro _; apply LW.boxA; rfl; rfl; intro _; apply LW.allocW; rfl; intro _; apply LW.nil; refine thenN ?_; refine CW.seq ?_; refine CW.region ?_; apply LW.load; rfl; rfl; apply Known.at; apply FsAt.tail; apply FsAt.tail; apply FsAt.head; exact Rd.whole rfl; apply LW.load; rfl; rfl; apply Known.at; apply FsAt.tail; apply FsAt.head; exact Rd.whole rfl; apply LW.callE; rfl; rfl; infer_instance; apply ArgsOk.cons; rfl; apply ArgsOk.cons; rfl; apply ArgsOk.cons; rfl; exact ArgsOk.nil; intro w _; exact each_calls _ _ _ _ _ _ _ _ _ _ _ _ _ w (Xor1_calls _ _ (by omega) (by omega)) (Xor1_calls _ _ (by omega) (by omega)) (Xor1_calls _ _ (by omega) (by omega)) (Xor1_calls _ _ (by omega) (by omega)); apply LW.store; rfl; rfl; apply SetAt.head; apply Wr.whole; rfl; rfl; rfl; apply LW.nil; refine thenN ?_; refine CW.ret ?_)
  (apply finR; exact .inl rfl; rfl; rfl; rfl; apply ResL.cons; apply Res.cell; rfl; apply Known.at; apply FsAt.head; exact Rd.whole rfl; exact ResL.nil)
  exact congrArg Value.agg (lim_xor a b)
theorem Not_calls (a : Nat) (ha : a < M256) (w : World) : Calls Try.prog 15 #[wv a] w (Ret w (wv (M256 - 1 - a))) := by
  refine enter (args := [_]) _ [] [] Try.func15 rfl Try.ntmps15 rfl (by simp) .nil ?_
  (refine CW.seq ?_; refine CW.region ?_; apply LW.boxA; rfl; rfl; intro _; apply LW.allocW; rfl; intro _; apply LW.nil; refine thenN ?_; refine CW.seq ?_; refine CW.region ?_; apply LW.load; rfl; rfl; apply Known.at; apply FsAt.tail; apply FsAt.head; exact Rd.whole rfl; apply LW.load; rfl; rfl; apply Known.at; apply FsAt.tail; apply FsAt.head; exact Rd.whole rfl; apply LW.callE; rfl; rfl; infer_instance; apply ArgsOk.cons; rfl; apply ArgsOk.cons; rfl; apply ArgsOk.cons; rfl; exact ArgsOk.nil; intro w _; exact each_calls _ _ _ _ _ _ _ _ _ _ _ _ _ w (Not1_calls _ _ (by omega)) (Not1_calls _ _ (by omega)) (Not1_calls _ _ (by omega)) (Not1_calls _ _ (by omega)); apply LW.store; rfl; rfl; apply SetAt.head; apply Wr.whole; rfl; rfl; rfl; apply LW.nil; refine thenN ?_; refine CW.ret ?_)
  (apply finR; exact .inl rfl; rfl; rfl; rfl; apply ResL.cons; apply Res.cell; rfl; apply Known.at; apply FsAt.head; exact Rd.whole rfl; exact ResL.nil)
  exact congrArg Value.agg (lim_not a ha)
end Go.Proofs.Ytahoghldnijnbaa
