/-
  Texts that were built apart, put behind one another (3 of 6): G1 G2 G3 K6 C1 C2 Smr Sms C3 C4 C5.
  Conditions: none.
-/
import Derived.Test.YtbhicncgjplnoaaDoorP2
import Derived.Laws.Externs
import Derived.Lib.BytesEntry
import Derived.Lib.Bytealg
import Derived.Lib.AppendStr
import Derived.Lib.MakeNoZero
/-
  The machine's operations: contracts.
  Conditions: none.
-/
namespace Go.Proofs.YtbhicncgjplnoaaDoor
open Go Go.RowKit SL
set_option maxRecDepth 8000
set_option maxHeartbeats 4000000
set_option linter.unusedSimpArgs false
set_option linter.unusedVariables false
attribute [local irreducible] SL.CW SL.LW SL.DW Calls SL.Ret SL.RetG SL.beginQ SL.roundQ SL.rangeQ SL.inQ SL.RW SL.AnyW SL.thenQ SL.thenC SL.thenW SL.blkQ SL.finQ SL.ValP SL.NewP SL.SetP SL.CallP SL.Rd SL.Wr SL.Known
/-! ### Operations -/
structure OpV where
  c : Nat
  nm : List UInt8
  tk : Nat
  ly : Nat
  dt : Nat
def opl (x : OpV) : List Value := [.int .u8 (x.c : Int), sv x.nm, .int .i64 (x.tk : Int), .int .i64 (x.ly : Int), .int .i64 (x.dt : Int)]
abbrev opc (x : OpV) : Array Value := (opl x).toArray
def opcs (l : List OpV) : List Value := l.flatMap opl
theorem opl_len (l : List OpV) : ∀ x ∈ l, (opl x).length = 5 := fun _ _ => rfl
def plainOps : List OpV := [
  ⟨0, [83, 84, 79, 80], 0, 0, 0⟩,
  ⟨1, [65, 68, 68], 2, 1, 0⟩,
  ⟨2, [77, 85, 76], 2, 1, 0⟩,
  ⟨3, [83, 85, 66], 2, 1, 0⟩,
  ⟨4, [68, 73, 86], 2, 1, 0⟩,
  ⟨6, [77, 79, 68], 2, 1, 0⟩,
  ⟨16, [76, 84], 2, 1, 0⟩,
  ⟨17, [71, 84], 2, 1, 0⟩,
  ⟨20, [69, 81], 2, 1, 0⟩,
  ⟨21, [73, 83, 90, 69, 82, 79], 1, 1, 0⟩,
  ⟨22, [65, 78, 68], 2, 1, 0⟩,
  ⟨23, [79, 82], 2, 1, 0⟩,
  ⟨24, [88, 79, 82], 2, 1, 0⟩,
  ⟨25, [78, 79, 84], 1, 1, 0⟩,
  ⟨27, [83, 72, 76], 2, 1, 0⟩,
  ⟨28, [83, 72, 82], 2, 1, 0⟩,
  ⟨32, [72, 65, 83, 72], 2, 1, 0⟩,
  ⟨48, [65, 68, 68, 82, 69, 83, 83], 0, 1, 0⟩,
  ⟨49, [66, 65, 76, 65, 78, 67, 69], 1, 1, 0⟩,
  ⟨50, [79, 82, 73, 71, 73, 78], 0, 1, 0⟩,
  ⟨51, [67, 65, 76, 76, 69, 82], 0, 1, 0⟩,
  ⟨52, [67, 65, 76, 76, 86, 65, 76, 85, 69], 0, 1, 0⟩,
  ⟨53, [68, 65, 84, 65, 76, 79, 65, 68], 1, 1, 0⟩,
  ⟨54, [68, 65, 84, 65, 83, 73, 90, 69], 0, 1, 0⟩,
  ⟨55, [68, 65, 84, 65, 67, 79, 80, 89], 3, 0, 0⟩,
  ⟨61, [82, 69, 84, 85, 82, 78, 83, 73, 90, 69], 0, 1, 0⟩,
  ⟨62, [82, 69, 84, 85, 82, 78, 67, 79, 80, 89], 3, 0, 0⟩,
  ⟨66, [84, 73, 77, 69], 0, 1, 0⟩,
  ⟨67, [78, 85, 77, 66, 69, 82], 0, 1, 0⟩,
  ⟨71, [83, 69, 76, 70, 66, 65, 76, 65, 78, 67, 69], 0, 1, 0⟩,
  ⟨72, [66, 65, 83, 69, 70, 69, 69], 0, 1, 0⟩,
  ⟨80, [80, 79, 80], 1, 0, 0⟩,
  ⟨81, [77, 76, 79, 65, 68], 1, 1, 0⟩,
  ⟨82, [77, 83, 84, 79, 82, 69], 2, 0, 0⟩,
  ⟨83, [77, 83, 84, 79, 82, 69, 56], 2, 0, 0⟩,
  ⟨84, [83, 76, 79, 65, 68], 1, 1, 0⟩,
  ⟨85, [83, 83, 84, 79, 82, 69], 2, 0, 0⟩,
  ⟨86, [74, 85, 77, 80], 1, 0, 0⟩,
  ⟨87, [74, 85, 77, 80, 73], 2, 0, 0⟩,
  ⟨90, [71, 65, 83], 0, 1, 0⟩,
  ⟨91, [74, 85, 77, 80, 68, 69, 83, 84], 0, 0, 0⟩,
  ⟨92, [84, 76, 79, 65, 68], 1, 1, 0⟩,
  ⟨93, [84, 83, 84, 79, 82, 69], 2, 0, 0⟩,
  ⟨241, [67, 65, 76, 76], 7, 1, 0⟩,
  ⟨243, [82, 69, 84, 85, 82, 78], 2, 0, 0⟩,
  ⟨244, [68, 69, 76, 69, 71, 65, 84, 69, 67, 65, 76, 76], 6, 1, 0⟩,
  ⟨245, [67, 82, 69, 65, 84, 69, 50], 4, 1, 0⟩,
  ⟨250, [83, 84, 65, 84, 73, 67, 67, 65, 76, 76], 6, 1, 0⟩,
  ⟨253, [82, 69, 86, 69, 82, 84], 2, 0, 0⟩,
  ⟨254, [73, 78, 86, 65, 76, 73, 68], 0, 0, 0⟩]
def itoa (n : Nat) : List UInt8 := if n < 10 then [UInt8.ofNat (48 + n)] else [UInt8.ofNat (48 + n / 10), UInt8.ofNat (48 + n % 10)]
def rowOp (b : Nat) : Option OpV :=
  if 96 ≤ b ∧ b ≤ 127 then some ⟨b, [80, 85, 83, 72] ++ itoa (b - 95), 0, 1, b - 95⟩
  else if 128 ≤ b ∧ b ≤ 143 then some ⟨b, [68, 85, 80] ++ itoa (b - 127), b - 127, b - 126, 0⟩
  else if 144 ≤ b ∧ b ≤ 159 then some ⟨b, [83, 87, 65, 80] ++ itoa (b - 143), b - 142, b - 142, 0⟩
  else none
def opOf (b : Nat) : Option OpV := match rowOp b with
  | some x => some x
  | none => plainOps.find? (fun x => x.c == b)
/-! ### Numbers in digits -/
def lows : List UInt8 := [48, 49, 50, 51, 52, 53, 54, 55, 56, 57, 97, 98, 99, 100, 101, 102, 103, 104, 105, 106, 107, 108, 109, 110, 111, 112, 113, 114, 115, 116, 117, 118, 119, 120, 121, 122]
def smalls : List UInt8 := (List.range 100).flatMap fun n => [UInt8.ofNat (48 + n / 10), UInt8.ofNat (48 + n % 10)]
theorem lows_cut : ∀ n, n < 10 → (lows.drop n).take (n + 1 - n) = itoa n := by decide +kernel
theorem smalls_cut : ∀ n, n < 100 → 10 ≤ n → (smalls.drop (n * 2)).take (n * 2 + 2 - n * 2) = itoa n := by decide +kernel
theorem small_calls (n : Nat) (hn : n < 100) (w : World) : Calls Tryd.prog 76 #[.int .i64 (n : Int)] w (Ret w (sv (itoa n))) := by
  refine enter (args := [_]) _ [] [] Tryd.func76 rfl Tryd.ntmps76 rfl (by simp) .nil ?_
  rcases Nat.lt_or_ge n 10 with h | h
  · (refine CW.seq ?_; refine CW.region ?_; apply LW.v0; rfl; rfl; apply ValP.assign; rfl; apply LW.nil; refine thenN ?_; refine CW.seq ?_; refine CW.seq ?_; refine CW.region ?_; apply LW.v0; rfl; rfl; apply ValP.move; rfl; apply LW.v0; rfl; rfl; apply ValP.lssT; rfl; rfl; omega; apply LW.nil; refine thenN ?_; apply CW.condT; rfl; (with_reducible rfl); refine CW.seq ?_; refine CW.region ?_; apply LW.v0; rfl; rfl; apply ValP.move; rfl; apply LW.v0; rfl; rfl; apply ValP.move; rfl; apply LW.v0; rfl; rfl; apply ValP.addZL; rfl; rfl; decide; omega; apply LW.v0; rfl; rfl; apply ValP.cutStr; infer_instance; rfl; rfl; rfl; omega; simp; omega; apply LW.v0; rfl; rfl; apply ValP.assign; rfl; apply LW.nil; refine thenN ?_; refine CW.ret ?_; refine thenR ?_)
    (apply finR; exact .inl rfl; rfl; rfl; rfl; apply ResL.cons; exact Res.tmp rfl; exact ResL.nil)
    exact congrArg (fun l => sv l) (lows_cut n h)
  · (refine CW.seq ?_; refine CW.region ?_; apply LW.v0; rfl; rfl; apply ValP.assign; rfl; apply LW.nil; refine thenN ?_; refine CW.seq ?_; refine CW.seq ?_; refine CW.region ?_; apply LW.v0; rfl; rfl; apply ValP.move; rfl; apply LW.v0; rfl; rfl; apply ValP.lssF; rfl; rfl; omega; apply LW.nil; refine thenN ?_; apply CW.condF; rfl; (with_reducible rfl); refine CW.skip ?_; refine thenN ?_; refine CW.seq ?_; refine CW.region ?_; apply LW.v0; rfl; rfl; apply ValP.move; rfl; apply LW.v0; rfl; rfl; apply ValP.mulZL; rfl; rfl; decide; omega; apply LW.v0; rfl; rfl; apply ValP.move; rfl; apply LW.v0; rfl; rfl; apply ValP.mulZL; rfl; rfl; decide; omega; apply LW.v0; rfl; rfl; apply ValP.addZL; rfl; rfl; decide; omega; apply LW.v0; rfl; rfl; apply ValP.cutStr; infer_instance; rfl; rfl; rfl; omega; simp; omega; apply LW.v0; rfl; rfl; apply ValP.assign; rfl; apply LW.nil; refine thenN ?_; refine CW.ret ?_)
    (apply finR; exact .inl rfl; rfl; rfl; rfl; apply ResL.cons; exact Res.tmp rfl; exact ResL.nil)
    exact congrArg (fun l => sv l) (smalls_cut n hn h)
theorem FormatInt_calls (n : Nat) (hn : n < 100) (w : World) : Calls Tryd.prog 68 #[.int .i64 (n : Int), .int .i64 10] w (Ret w (sv (itoa n))) := by
  refine enter (args := [_, _]) _ [] [] Tryd.func68 rfl Tryd.ntmps68 rfl (by simp) .nil ?_
  (refine CW.seq ?_; refine CW.region ?_; apply LW.v0; rfl; rfl; apply ValP.assign; rfl; apply LW.nil; refine thenN ?_; refine CW.seq ?_; refine CW.seq ?_; refine CW.region ?_; apply LW.v0; rfl; rfl; apply ValP.move; rfl; apply LW.v0; rfl; rfl; apply ValP.eqT; rfl; rfl; omega; apply LW.nil; refine thenN ?_; apply CW.condT; rfl; (with_reducible rfl); refine CW.seq ?_; refine CW.seq ?_; refine CW.region ?_; apply LW.v0; rfl; rfl; apply ValP.move; rfl; apply LW.v0; rfl; rfl; apply ValP.leqT; rfl; rfl; omega; apply LW.v0; rfl; rfl; apply ValP.move; rfl; apply LW.guardT'; rfl; rfl; (with_reducible rfl); apply LW.v0; rfl; rfl; apply ValP.move; rfl; apply LW.guardT'; rfl; rfl; (with_reducible rfl); apply LW.v0; rfl; rfl; apply ValP.lssT; rfl; rfl; omega; apply LW.v0; rfl; rfl; apply ValP.pickT'; rfl; (with_reducible rfl); rfl; apply LW.nil; refine thenN ?_; apply CW.condT; rfl; (with_reducible rfl); refine CW.seq ?_; refine CW.region ?_; apply LW.v0; rfl; rfl; apply ValP.move; rfl; apply LW.callE; rfl; rfl; infer_instance; apply ArgsOk.cons; rfl; exact ArgsOk.nil; intro w _; exact small_calls _ hn w; apply LW.v0; rfl; rfl; apply ValP.assign; rfl; apply LW.nil; refine thenN ?_; refine CW.ret ?_; refine thenR ?_; refine thenR ?_)
  (apply finR; exact .inl rfl; rfl; rfl; rfl; apply ResL.cons; exact Res.tmp rfl; exact ResL.nil)
  rfl
theorem iItoa_calls (n : Nat) (hn : n < 100) (w : World) : Calls Tryd.prog 60 #[.int .i64 (n : Int)] w (Ret w (sv (itoa n))) := by
  have h1 := FormatInt_calls n hn
  refine enter (args := [_]) _ [] [] Tryd.func60 rfl Tryd.ntmps60 rfl (by simp) .nil ?_
  (refine CW.seq ?_; refine CW.region ?_; apply LW.v0; rfl; rfl; apply ValP.assign; rfl; apply LW.nil; refine thenN ?_; refine CW.seq ?_; refine CW.region ?_; apply LW.v0; rfl; rfl; apply ValP.move; rfl; apply LW.callE; rfl; rfl; infer_instance; apply ArgsOk.cons; rfl; apply ArgsOk.cons; rfl; exact ArgsOk.nil; intro w _; exact h1 w; apply LW.v0; rfl; rfl; apply ValP.assign; rfl; apply LW.nil; refine thenN ?_; refine CW.ret ?_)
  (apply finR; exact .inl rfl; rfl; rfl; rfl; apply ResL.cons; exact Res.tmp rfl; exact ResL.nil)
  rfl
theorem Itoa_calls (n : Nat) (hn : n < 100) (w : World) : Calls Tryd.prog 49 #[.int .i64 (n : Int)] w (Ret w (sv (itoa n))) := by
  have h1 := iItoa_calls n hn
  refine enter (args := [_]) _ [] [] Tryd.func49 rfl Tryd.ntmps49 rfl (by simp) .nil ?_
  (refine CW.seq ?_; refine CW.region ?_; apply LW.v0; rfl; rfl; apply ValP.assign; rfl; apply LW.nil; refine thenN ?_; refine CW.seq ?_; refine CW.region ?_; apply LW.v0; rfl; rfl; apply ValP.move; rfl; apply LW.callE; rfl; rfl; infer_instance; apply ArgsOk.cons; rfl; exact ArgsOk.nil; intro w _; exact h1 w; apply LW.v0; rfl; rfl; apply ValP.assign; rfl; apply LW.nil; refine thenN ?_; refine CW.ret ?_)
  (apply finR; exact .inl rfl; rfl; rfl; rfl; apply ResL.cons; exact Res.tmp rfl; exact ResL.nil)
  rfl
/-! ### The operation of a byte -/
theorem itoa_len (n : Nat) : (itoa n).length ≤ 2 := by unfold itoa; split <;> simp
def tupOp (o : Option OpV) : Value := match o with
  | some x => .tuple #[.agg (opc x), .bool true]
  | none => .tuple #[.agg (opc ⟨0, [], 0, 0, 0⟩), .bool false]
theorem row_calls (b : Nat) (hb : b < 256) (w : World) : Calls Tryd.prog 32 #[.int .u8 (b : Int)] w (Ret w (tupOp (rowOp b))) := by
  have hl := itoa_len
  refine enter (args := [_]) _ [] [] Tryd.func32 rfl Tryd.ntmps32 rfl (by simp) .nil ?_
  rcases Nat.lt_or_ge b 96 with h1 | h1
  · rw [show rowOp b = none by unfold rowOp; rw [if_neg (by omega), if_neg (by omega), if_neg (by omega)]]
    (refine CW.seq ?_; refine CW.region ?_; apply LW.allocA; rfl; intro _; apply LW.v0; rfl; rfl; apply ValP.assign; rfl; apply LW.nil; refine thenN ?_; refine CW.seq ?_; refine CW.region ?_; apply LW.v0; rfl; rfl; apply ValP.move; rfl; apply LW.v0; rfl; rfl; apply ValP.convI; rfl; omega; omega; apply LW.v0; rfl; rfl; apply ValP.assign; rfl; apply LW.nil; refine thenN ?_; refine CW.seq ?_; refine CW.block ?_; refine CW.seq ?_; refine CW.region ?_; apply LW.v0; rfl; rfl; apply ValP.move; rfl; apply LW.v0; rfl; rfl; apply ValP.geqF; rfl; rfl; omega; apply LW.v0; rfl; rfl; apply ValP.move; rfl; apply LW.guardF'; rfl; rfl; simp only [Bool.not_true, Bool.not_false]; rfl; apply LW.guardF'; rfl; rfl; simp only [Bool.not_true, Bool.not_false]; rfl; apply LW.v0; rfl; rfl; apply ValP.pickF'; rfl; (with_reducible rfl); rfl; apply LW.v0; rfl; rfl; apply ValP.assign; rfl; apply LW.nil; refine thenN ?_; apply CW.condF; rfl; (with_reducible rfl); refine CW.seq ?_; refine CW.region ?_; apply LW.v0; rfl; rfl; apply ValP.move; rfl; apply LW.v0; rfl; rfl; apply ValP.geqF; rfl; rfl; omega; apply LW.v0; rfl; rfl; apply ValP.move; rfl; apply LW.guardF'; rfl; rfl; simp only [Bool.not_true, Bool.not_false]; rfl; apply LW.guardF'; rfl; rfl; simp only [Bool.not_true, Bool.not_false]; rfl; apply LW.v0; rfl; rfl; apply ValP.pickF'; rfl; (with_reducible rfl); rfl; apply LW.v0; rfl; rfl; apply ValP.assign; rfl; apply LW.nil; refine thenN ?_; apply CW.condF; rfl; (with_reducible rfl); refine CW.seq ?_; refine CW.region ?_; apply LW.v0; rfl; rfl; apply ValP.move; rfl; apply LW.v0; rfl; rfl; apply ValP.geqF; rfl; rfl; omega; apply LW.v0; rfl; rfl; apply ValP.move; rfl; apply LW.guardF'; rfl; rfl; simp only [Bool.not_true, Bool.not_false]; rfl; apply LW.guardF'; rfl; rfl; simp only [Bool.not_true, Bool.not_false]; rfl; apply LW.v0; rfl; rfl; apply ValP.pickF'; rfl; (with_reducible rfl); rfl; apply LW.v0; rfl; rfl; apply ValP.assign; rfl; apply LW.nil; refine thenN ?_; apply CW.condF; rfl; (with_reducible rfl); refine CW.skip ?_; refine blkN ?_; refine thenN ?_; refine CW.seq ?_; refine CW.region ?_; apply LW.v0; rfl; rfl; apply ValP.buildT; infer_instance; infer_instance; exact PartsOk.nil; rfl; simp only [fillP, wrCells, Value.cells, List.getElem?_cons_zero, List.getElem?_cons_succ, List.toList_toArray, List.setIfInBounds_toArray, List.set_cons_succ, List.set_cons_zero, Nat.reduceAdd, Nat.zero_add]; rfl; apply LW.store; rfl; rfl; apply SetAt.head; apply Wr.whole; rfl; rfl; rfl; apply LW.v0; rfl; rfl; apply ValP.assign; rfl; apply LW.nil; refine thenN ?_; refine CW.ret ?_)
    (apply finR; exact .inl rfl; rfl; rfl; rfl; apply ResL.cons; apply Res.cell; rfl; apply Known.at; apply FsAt.head; exact Rd.whole rfl; apply ResL.cons; exact Res.tmp rfl; exact ResL.nil)
    rfl
  rcases Nat.lt_or_ge b 128 with h2 | h2
  · rw [show rowOp b = some ⟨b, [80, 85, 83, 72] ++ itoa (b - 95), 0, 1, b - 95⟩ by unfold rowOp; rw [if_pos (by omega)]]
    have hn := Itoa_calls (b - 95) (by omega)
    have hl1 := hl (b - 95)
    (refine CW.seq ?_; refine CW.region ?_; apply LW.allocA; rfl; intro _; apply LW.v0; rfl; rfl; apply ValP.assign; rfl; apply LW.nil; refine thenN ?_; refine CW.seq ?_; refine CW.region ?_; apply LW.v0; rfl; rfl; apply ValP.move; rfl; apply LW.v0; rfl; rfl; apply ValP.convI; rfl; omega; omega; apply LW.v0; rfl; rfl; apply ValP.assign; rfl; apply LW.nil; refine thenN ?_; refine CW.seq ?_; refine CW.block ?_; refine CW.seq ?_; refine CW.region ?_; apply LW.v0; rfl; rfl; apply ValP.move; rfl; apply LW.v0; rfl; rfl; apply ValP.geqT; rfl; rfl; omega; apply LW.v0; rfl; rfl; apply ValP.move; rfl; apply LW.guardT'; rfl; rfl; (with_reducible rfl); apply LW.v0; rfl; rfl; apply ValP.move; rfl; apply LW.guardT'; rfl; rfl; (with_reducible rfl); apply LW.v0; rfl; rfl; apply ValP.leqT; rfl; rfl; omega; apply LW.v0; rfl; rfl; apply ValP.pickT'; rfl; (with_reducible rfl); rfl; apply LW.v0; rfl; rfl; apply ValP.assign; rfl; apply LW.nil; refine thenN ?_; apply CW.condT; rfl; (with_reducible rfl); refine CW.seq ?_; refine CW.region ?_; apply LW.v0; rfl; rfl; apply ValP.move; rfl; apply LW.v0; rfl; rfl; apply ValP.subZL; rfl; rfl; decide; omega; omega; apply LW.v0; rfl; rfl; apply ValP.assign; rfl; apply LW.nil; refine thenN ?_; refine CW.seq ?_; refine CW.region ?_; apply LW.v0; rfl; rfl; apply ValP.move; rfl; apply LW.v0; rfl; rfl; apply ValP.move; rfl; apply LW.callE; rfl; rfl; infer_instance; apply ArgsOk.cons; rfl; exact ArgsOk.nil; intro w _; exact hn w; apply LW.v0; rfl; rfl; apply ValP.addStr; rfl; rfl; simp; omega; apply LW.v0; rfl; rfl; apply ValP.move; rfl; apply LW.v0; rfl; rfl; apply ValP.buildT; infer_instance; infer_instance; apply PartsOk.cons; rfl; apply PartsOk.cons; rfl; apply PartsOk.cons; rfl; apply PartsOk.cons; rfl; exact PartsOk.nil; rfl; simp only [fillP, wrCells, Value.cells, List.getElem?_cons_zero, List.getElem?_cons_succ, List.toList_toArray, List.setIfInBounds_toArray, List.set_cons_succ, List.set_cons_zero, Nat.reduceAdd, Nat.zero_add]; rfl; apply LW.store; rfl; rfl; apply SetAt.head; apply Wr.whole; rfl; rfl; rfl; apply LW.v0; rfl; rfl; apply ValP.assign; rfl; apply LW.nil; refine thenN ?_; refine CW.ret ?_; refine blkR ?_; refine thenR ?_)
    (apply finR; exact .inl rfl; rfl; rfl; rfl; apply ResL.cons; apply Res.cell; rfl; apply Known.at; apply FsAt.head; exact Rd.whole rfl; apply ResL.cons; exact Res.tmp rfl; exact ResL.nil)
    rfl
  rcases Nat.lt_or_ge b 144 with h3 | h3
  · rw [show rowOp b = some ⟨b, [68, 85, 80] ++ itoa (b - 127), b - 127, b - 127 + 1, 0⟩ by unfold rowOp; rw [if_neg (by omega), if_pos (by omega), show b - 126 = b - 127 + 1 by omega]]
    have hn := Itoa_calls (b - 127) (by omega)
    have hl1 := hl (b - 127)
    (refine CW.seq ?_; refine CW.region ?_; apply LW.allocA; rfl; intro _; apply LW.v0; rfl; rfl; apply ValP.assign; rfl; apply LW.nil; refine thenN ?_; refine CW.seq ?_; refine CW.region ?_; apply LW.v0; rfl; rfl; apply ValP.move; rfl; apply LW.v0; rfl; rfl; apply ValP.convI; rfl; omega; omega; apply LW.v0; rfl; rfl; apply ValP.assign; rfl; apply LW.nil; refine thenN ?_; refine CW.seq ?_; refine CW.block ?_; refine CW.seq ?_; refine CW.region ?_; apply LW.v0; rfl; rfl; apply ValP.move; rfl; apply LW.v0; rfl; rfl; apply ValP.geqT; rfl; rfl; omega; apply LW.v0; rfl; rfl; apply ValP.move; rfl; apply LW.guardT'; rfl; rfl; (with_reducible rfl); apply LW.v0; rfl; rfl; apply ValP.move; rfl; apply LW.guardT'; rfl; rfl; (with_reducible rfl); apply LW.v0; rfl; rfl; apply ValP.leqF; rfl; rfl; omega; apply LW.v0; rfl; rfl; apply ValP.pickT'; rfl; (with_reducible rfl); rfl; apply LW.v0; rfl; rfl; apply ValP.assign; rfl; apply LW.nil; refine thenN ?_; apply CW.condF; rfl; (with_reducible rfl); refine CW.seq ?_; refine CW.region ?_; apply LW.v0; rfl; rfl; apply ValP.move; rfl; apply LW.v0; rfl; rfl; apply ValP.geqT; rfl; rfl; omega; apply LW.v0; rfl; rfl; apply ValP.move; rfl; apply LW.guardT'; rfl; rfl; (with_reducible rfl); apply LW.v0; rfl; rfl; apply ValP.move; rfl; apply LW.guardT'; rfl; rfl; (with_reducible rfl); apply LW.v0; rfl; rfl; apply ValP.leqT; rfl; rfl; omega; apply LW.v0; rfl; rfl; apply ValP.pickT'; rfl; (with_reducible rfl); rfl; apply LW.v0; rfl; rfl; apply ValP.assign; rfl; apply LW.nil; refine thenN ?_; apply CW.condT; rfl; (with_reducible rfl); refine CW.seq ?_; refine CW.region ?_; apply LW.v0; rfl; rfl; apply ValP.move; rfl; apply LW.v0; rfl; rfl; apply ValP.subZL; rfl; rfl; decide; omega; omega; apply LW.v0; rfl; rfl; apply ValP.assign; rfl; apply LW.nil; refine thenN ?_; refine CW.seq ?_; refine CW.region ?_; apply LW.v0; rfl; rfl; apply ValP.move; rfl; apply LW.v0; rfl; rfl; apply ValP.move; rfl; apply LW.callE; rfl; rfl; infer_instance; apply ArgsOk.cons; rfl; exact ArgsOk.nil; intro w _; exact hn w; apply LW.v0; rfl; rfl; apply ValP.addStr; rfl; rfl; simp; omega; apply LW.v0; rfl; rfl; apply ValP.move; rfl; apply LW.v0; rfl; rfl; apply ValP.move; rfl; apply LW.v0; rfl; rfl; apply ValP.addZL; rfl; rfl; decide; omega; apply LW.v0; rfl; rfl; apply ValP.buildT; infer_instance; infer_instance; apply PartsOk.cons; rfl; apply PartsOk.cons; rfl; apply PartsOk.cons; rfl; apply PartsOk.cons; rfl; exact PartsOk.nil; rfl; simp only [fillP, wrCells, Value.cells, List.getElem?_cons_zero, List.getElem?_cons_succ, List.toList_toArray, List.setIfInBounds_toArray, List.set_cons_succ, List.set_cons_zero, Nat.reduceAdd, Nat.zero_add]; rfl; apply LW.store; rfl; rfl; apply SetAt.head; apply Wr.whole; rfl; rfl; rfl; apply LW.v0; rfl; rfl; apply ValP.assign; rfl; apply LW.nil; refine thenN ?_; refine CW.ret ?_; refine blkR ?_; refine thenR ?_)
    (apply finR; exact .inl rfl; rfl; rfl; rfl; apply ResL.cons; apply Res.cell; rfl; apply Known.at; apply FsAt.head; exact Rd.whole rfl; apply ResL.cons; exact Res.tmp rfl; exact ResL.nil)
    rfl
  rcases Nat.lt_or_ge b 160 with h4 | h4
  · rw [show rowOp b = some ⟨b, [83, 87, 65, 80] ++ itoa (b - 143), b - 143 + 1, b - 143 + 1, 0⟩ by unfold rowOp; rw [if_neg (by omega), if_neg (by omega), if_pos (by omega), show b - 142 = b - 143 + 1 by omega]]
    have hn := Itoa_calls (b - 143) (by omega)
    have hl1 := hl (b - 143)
    (refine CW.seq ?_; refine CW.region ?_; apply LW.allocA; rfl; intro _; apply LW.v0; rfl; rfl; apply ValP.assign; rfl; apply LW.nil; refine thenN ?_; refine CW.seq ?_; refine CW.region ?_; apply LW.v0; rfl; rfl; apply ValP.move; rfl; apply LW.v0; rfl; rfl; apply ValP.convI; rfl; omega; omega; apply LW.v0; rfl; rfl; apply ValP.assign; rfl; apply LW.nil; refine thenN ?_; refine CW.seq ?_; refine CW.block ?_; refine CW.seq ?_; refine CW.region ?_; apply LW.v0; rfl; rfl; apply ValP.move; rfl; apply LW.v0; rfl; rfl; apply ValP.geqT; rfl; rfl; omega; apply LW.v0; rfl; rfl; apply ValP.move; rfl; apply LW.guardT'; rfl; rfl; (with_reducible rfl); apply LW.v0; rfl; rfl; apply ValP.move; rfl; apply LW.guardT'; rfl; rfl; (with_reducible rfl); apply LW.v0; rfl; rfl; apply ValP.leqF; rfl; rfl; omega; apply LW.v0; rfl; rfl; apply ValP.pickT'; rfl; (with_reducible rfl); rfl; apply LW.v0; rfl; rfl; apply ValP.assign; rfl; apply LW.nil; refine thenN ?_; apply CW.condF; rfl; (with_reducible rfl); refine CW.seq ?_; refine CW.region ?_; apply LW.v0; rfl; rfl; apply ValP.move; rfl; apply LW.v0; rfl; rfl; apply ValP.geqT; rfl; rfl; omega; apply LW.v0; rfl; rfl; apply ValP.move; rfl; apply LW.guardT'; rfl; rfl; (with_reducible rfl); apply LW.v0; rfl; rfl; apply ValP.move; rfl; apply LW.guardT'; rfl; rfl; (with_reducible rfl); apply LW.v0; rfl; rfl; apply ValP.leqF; rfl; rfl; omega; apply LW.v0; rfl; rfl; apply ValP.pickT'; rfl; (with_reducible rfl); rfl; apply LW.v0; rfl; rfl; apply ValP.assign; rfl; apply LW.nil; refine thenN ?_; apply CW.condF; rfl; (with_reducible rfl); refine CW.seq ?_; refine CW.region ?_; apply LW.v0; rfl; rfl; apply ValP.move; rfl; apply LW.v0; rfl; rfl; apply ValP.geqT; rfl; rfl; omega; apply LW.v0; rfl; rfl; apply ValP.move; rfl; apply LW.guardT'; rfl; rfl; (with_reducible rfl); apply LW.v0; rfl; rfl; apply ValP.move; rfl; apply LW.guardT'; rfl; rfl; (with_reducible rfl); apply LW.v0; rfl; rfl; apply ValP.leqT; rfl; rfl; omega; apply LW.v0; rfl; rfl; apply ValP.pickT'; rfl; (with_reducible rfl); rfl; apply LW.v0; rfl; rfl; apply ValP.assign; rfl; apply LW.nil; refine thenN ?_; apply CW.condT; rfl; (with_reducible rfl); refine CW.seq ?_; refine CW.region ?_; apply LW.v0; rfl; rfl; apply ValP.move; rfl; apply LW.v0; rfl; rfl; apply ValP.subZL; rfl; rfl; decide; omega; omega; apply LW.v0; rfl; rfl; apply ValP.assign; rfl; apply LW.nil; refine thenN ?_; refine CW.seq ?_; refine CW.region ?_; apply LW.v0; rfl; rfl; apply ValP.move; rfl; apply LW.v0; rfl; rfl; apply ValP.move; rfl; apply LW.callE; rfl; rfl; infer_instance; apply ArgsOk.cons; rfl; exact ArgsOk.nil; intro w _; exact hn w; apply LW.v0; rfl; rfl; apply ValP.addStr; rfl; rfl; simp; omega; apply LW.v0; rfl; rfl; apply ValP.move; rfl; apply LW.v0; rfl; rfl; apply ValP.addZL; rfl; rfl; decide; omega; apply LW.v0; rfl; rfl; apply ValP.move; rfl; apply LW.v0; rfl; rfl; apply ValP.addZL; rfl; rfl; decide; omega; apply LW.v0; rfl; rfl; apply ValP.buildT; infer_instance; infer_instance; apply PartsOk.cons; rfl; apply PartsOk.cons; rfl; apply PartsOk.cons; rfl; apply PartsOk.cons; rfl; exact PartsOk.nil; rfl; simp only [fillP, wrCells, Value.cells, List.getElem?_cons_zero, List.getElem?_cons_succ, List.toList_toArray, List.setIfInBounds_toArray, List.set_cons_succ, List.set_cons_zero, Nat.reduceAdd, Nat.zero_add]; rfl; apply LW.store; rfl; rfl; apply SetAt.head; apply Wr.whole; rfl; rfl; rfl; apply LW.v0; rfl; rfl; apply ValP.assign; rfl; apply LW.nil; refine thenN ?_; refine CW.ret ?_; refine blkR ?_; refine thenR ?_)
    (apply finR; exact .inl rfl; rfl; rfl; rfl; apply ResL.cons; apply Res.cell; rfl; apply Known.at; apply FsAt.head; exact Rd.whole rfl; apply ResL.cons; exact Res.tmp rfl; exact ResL.nil)
    rfl
  · rw [show rowOp b = none by unfold rowOp; rw [if_neg (by omega), if_neg (by omega), if_neg (by omega)]]
    (refine CW.seq ?_; refine CW.region ?_; apply LW.allocA; rfl; intro _; apply LW.v0; rfl; rfl; apply ValP.assign; rfl; apply LW.nil; refine thenN ?_; refine CW.seq ?_; refine CW.region ?_; apply LW.v0; rfl; rfl; apply ValP.move; rfl; apply LW.v0; rfl; rfl; apply ValP.convI; rfl; omega; omega; apply LW.v0; rfl; rfl; apply ValP.assign; rfl; apply LW.nil; refine thenN ?_; refine CW.seq ?_; refine CW.block ?_; refine CW.seq ?_; refine CW.region ?_; apply LW.v0; rfl; rfl; apply ValP.move; rfl; apply LW.v0; rfl; rfl; apply ValP.geqT; rfl; rfl; omega; apply LW.v0; rfl; rfl; apply ValP.move; rfl; apply LW.guardT'; rfl; rfl; (with_reducible rfl); apply LW.v0; rfl; rfl; apply ValP.move; rfl; apply LW.guardT'; rfl; rfl; (with_reducible rfl); apply LW.v0; rfl; rfl; apply ValP.leqF; rfl; rfl; omega; apply LW.v0; rfl; rfl; apply ValP.pickT'; rfl; (with_reducible rfl); rfl; apply LW.v0; rfl; rfl; apply ValP.assign; rfl; apply LW.nil; refine thenN ?_; apply CW.condF; rfl; (with_reducible rfl); refine CW.seq ?_; refine CW.region ?_; apply LW.v0; rfl; rfl; apply ValP.move; rfl; apply LW.v0; rfl; rfl; apply ValP.geqT; rfl; rfl; omega; apply LW.v0; rfl; rfl; apply ValP.move; rfl; apply LW.guardT'; rfl; rfl; (with_reducible rfl); apply LW.v0; rfl; rfl; apply ValP.move; rfl; apply LW.guardT'; rfl; rfl; (with_reducible rfl); apply LW.v0; rfl; rfl; apply ValP.leqF; rfl; rfl; omega; apply LW.v0; rfl; rfl; apply ValP.pickT'; rfl; (with_reducible rfl); rfl; apply LW.v0; rfl; rfl; apply ValP.assign; rfl; apply LW.nil; refine thenN ?_; apply CW.condF; rfl; (with_reducible rfl); refine CW.seq ?_; refine CW.region ?_; apply LW.v0; rfl; rfl; apply ValP.move; rfl; apply LW.v0; rfl; rfl; apply ValP.geqT; rfl; rfl; omega; apply LW.v0; rfl; rfl; apply ValP.move; rfl; apply LW.guardT'; rfl; rfl; (with_reducible rfl); apply LW.v0; rfl; rfl; apply ValP.move; rfl; apply LW.guardT'; rfl; rfl; (with_reducible rfl); apply LW.v0; rfl; rfl; apply ValP.leqF; rfl; rfl; omega; apply LW.v0; rfl; rfl; apply ValP.pickT'; rfl; (with_reducible rfl); rfl; apply LW.v0; rfl; rfl; apply ValP.assign; rfl; apply LW.nil; refine thenN ?_; apply CW.condF; rfl; (with_reducible rfl); refine CW.skip ?_; refine blkN ?_; refine thenN ?_; refine CW.seq ?_; refine CW.region ?_; apply LW.v0; rfl; rfl; apply ValP.buildT; infer_instance; infer_instance; exact PartsOk.nil; rfl; simp only [fillP, wrCells, Value.cells, List.getElem?_cons_zero, List.getElem?_cons_succ, List.toList_toArray, List.setIfInBounds_toArray, List.set_cons_succ, List.set_cons_zero, Nat.reduceAdd, Nat.zero_add]; rfl; apply LW.store; rfl; rfl; apply SetAt.head; apply Wr.whole; rfl; rfl; rfl; apply LW.v0; rfl; rfl; apply ValP.assign; rfl; apply LW.nil; refine thenN ?_; refine CW.ret ?_)
    (apply finR; exact .inl rfl; rfl; rfl; rfl; apply ResL.cons; apply Res.cell; rfl; apply Known.at; apply FsAt.head; exact Rd.whole rfl; apply ResL.cons; exact Res.tmp rfl; exact ResL.nil)
    rfl
/-! ### The table -/
def PlainV (v : Value) (gs : Fs) : Prop := ∃ b, v = .slice (some ⟨b, 0, none⟩) 50 50 ∧ gs = [(b, .cells (opcs plainOps).toArray 77 (0, 0))]
theorem plain_len : (opcs plainOps).length = 250 := by kernel_rfl
theorem PlainV.us {v : Value} {gs us : Fs} {w : World} (h : PlainV v gs) (hu : ∀ p ∈ us, w.heap[p.1]? = some p.2) (hs : List.Sublist gs us) : RowAt w 5 v plainOps.length (opcs plainOps) := by
  obtain ⟨b, rfl, rfl⟩ := h
  have hg := hu (b, .cells (opcs plainOps).toArray 77 (0, 0)) (hs.subset (by simp))
  exact ⟨⟨_, _, rfl, by decide, by decide⟩, plain_len, fun _ => ⟨b, 0, 50, _, _, _, rfl, hg, by rw [List.drop_zero]; exact List.take_of_length_le (by rw [List.toList_toArray, plain_len]; decide)⟩, .own hg⟩
theorem plain_calls (w : World) : Calls Tryd.prog 34 #[] w (RetG w [] PlainV) := by
  refine enter (args := []) _ [] [] Tryd.func34 rfl Tryd.ntmps34 rfl (by simp) .nil ?_
  (refine CW.seq ?_; refine CW.region ?_; apply LW.v0; rfl; rfl; apply ValP.assign; rfl; apply LW.nil; refine thenN ?_; refine CW.seq ?_; refine CW.region ?_; apply LW.v0; rfl; rfl; apply ValP.buildT; infer_instance; infer_instance; apply PartsOk.cons; rfl; apply PartsOk.cons; rfl; exact PartsOk.nil; rfl; simp only [fillP, wrCells, Value.cells, List.getElem?_cons_zero, List.getElem?_cons_succ, List.toList_toArray, List.setIfInBounds_toArray, List.set_cons_succ, List.set_cons_zero, Nat.reduceAdd, Nat.zero_add]; rfl; apply LW.v0; rfl; rfl; apply ValP.buildT; infer_instance; infer_instance; apply PartsOk.cons; rfl; apply PartsOk.cons; rfl; apply PartsOk.cons; rfl; apply PartsOk.cons; rfl; exact PartsOk.nil; rfl; simp only [fillP, wrCells, Value.cells, List.getElem?_cons_zero, List.getElem?_cons_succ, List.toList_toArray, List.setIfInBounds_toArray, List.set_cons_succ, List.set_cons_zero, Nat.reduceAdd, Nat.zero_add]; rfl; apply LW.v0; rfl; rfl; apply ValP.buildT; infer_instance; infer_instance; apply PartsOk.cons; rfl; apply PartsOk.cons; rfl; apply PartsOk.cons; rfl; apply PartsOk.cons; rfl; exact PartsOk.nil; rfl; simp only [fillP, wrCells, Value.cells, List.getElem?_cons_zero, List.getElem?_cons_succ, List.toList_toArray, List.setIfInBounds_toArray, List.set_cons_succ, List.set_cons_zero, Nat.reduceAdd, Nat.zero_add]; rfl; apply LW.v0; rfl; rfl; apply ValP.buildT; infer_instance; infer_instance; apply PartsOk.cons; rfl; apply PartsOk.cons; rfl; apply PartsOk.cons; rfl; apply PartsOk.cons; rfl; exact PartsOk.nil; rfl; simp only [fillP, wrCells, Value.cells, List.getElem?_cons_zero, List.getElem?_cons_succ, List.toList_toArray, List.setIfInBounds_toArray, List.set_cons_succ, List.set_cons_zero, Nat.reduceAdd, Nat.zero_add]; rfl; apply LW.v0; rfl; rfl; apply ValP.buildT; infer_instance; infer_instance; apply PartsOk.cons; rfl; apply PartsOk.cons; rfl; apply PartsOk.cons; rfl; apply PartsOk.cons; rfl; exact PartsOk.nil; rfl; simp only [fillP, wrCells, Value.cells, List.getElem?_cons_zero, List.getElem?_cons_succ, List.toList_toArray, List.setIfInBounds_toArray, List.set_cons_succ, List.set_cons_zero, Nat.reduceAdd, Nat.zero_add]; rfl; apply LW.v0; rfl; rfl; apply ValP.buildT; infer_instance; infer_instance; apply PartsOk.cons; rfl; apply PartsOk.cons; rfl; apply PartsOk.cons; rfl; apply PartsOk.cons; rfl; exact PartsOk.nil; rfl; simp only [fillP, wrCells, Value.cells, List.getElem?_cons_zero, List.getElem?_cons_succ, List.toList_toArray, List.setIfInBounds_toArray, List.set_cons_succ, List.set_cons_zero, Nat.reduceAdd, Nat.zero_add]; rfl; apply LW.v0; rfl; rfl; apply ValP.buildT; infer_instance; infer_instance; apply PartsOk.cons; rfl; apply PartsOk.cons; rfl; apply PartsOk.cons; rfl; apply PartsOk.cons; rfl; exact PartsOk.nil; rfl; simp only [fillP, wrCells, Value.cells, List.getElem?_cons_zero, List.getElem?_cons_succ, List.toList_toArray, List.setIfInBounds_toArray, List.set_cons_succ, List.set_cons_zero, Nat.reduceAdd, Nat.zero_add]; rfl; apply LW.v0; rfl; rfl; apply ValP.buildT; infer_instance; infer_instance; apply PartsOk.cons; rfl; apply PartsOk.cons; rfl; apply PartsOk.cons; rfl; apply PartsOk.cons; rfl; exact PartsOk.nil; rfl; simp only [fillP, wrCells, Value.cells, List.getElem?_cons_zero, List.getElem?_cons_succ, List.toList_toArray, List.setIfInBounds_toArray, List.set_cons_succ, List.set_cons_zero, Nat.reduceAdd, Nat.zero_add]; rfl; apply LW.v0; rfl; rfl; apply ValP.buildT; infer_instance; infer_instance; apply PartsOk.cons; rfl; apply PartsOk.cons; rfl; apply PartsOk.cons; rfl; apply PartsOk.cons; rfl; exact PartsOk.nil; rfl; simp only [fillP, wrCells, Value.cells, List.getElem?_cons_zero, List.getElem?_cons_succ, List.toList_toArray, List.setIfInBounds_toArray, List.set_cons_succ, List.set_cons_zero, Nat.reduceAdd, Nat.zero_add]; rfl; apply LW.v0; rfl; rfl; apply ValP.buildT; infer_instance; infer_instance; apply PartsOk.cons; rfl; apply PartsOk.cons; rfl; apply PartsOk.cons; rfl; apply PartsOk.cons; rfl; exact PartsOk.nil; rfl; simp only [fillP, wrCells, Value.cells, List.getElem?_cons_zero, List.getElem?_cons_succ, List.toList_toArray, List.setIfInBounds_toArray, List.set_cons_succ, List.set_cons_zero, Nat.reduceAdd, Nat.zero_add]; rfl; apply LW.v0; rfl; rfl; apply ValP.buildT; infer_instance; infer_instance; apply PartsOk.cons; rfl; apply PartsOk.cons; rfl; apply PartsOk.cons; rfl; apply PartsOk.cons; rfl; exact PartsOk.nil; rfl; simp only [fillP, wrCells, Value.cells, List.getElem?_cons_zero, List.getElem?_cons_succ, List.toList_toArray, List.setIfInBounds_toArray, List.set_cons_succ, List.set_cons_zero, Nat.reduceAdd, Nat.zero_add]; rfl; apply LW.v0; rfl; rfl; apply ValP.buildT; infer_instance; infer_instance; apply PartsOk.cons; rfl; apply PartsOk.cons; rfl; apply PartsOk.cons; rfl; apply PartsOk.cons; rfl; exact PartsOk.nil; rfl; simp only [fillP, wrCells, Value.cells, List.getElem?_cons_zero, List.getElem?_cons_succ, List.toList_toArray, List.setIfInBounds_toArray, List.set_cons_succ, List.set_cons_zero, Nat.reduceAdd, Nat.zero_add]; rfl; apply LW.v0; rfl; rfl; apply ValP.buildT; infer_instance; infer_instance; apply PartsOk.cons; rfl; apply PartsOk.cons; rfl; apply PartsOk.cons; rfl; apply PartsOk.cons; rfl; exact PartsOk.nil; rfl; simp only [fillP, wrCells, Value.cells, List.getElem?_cons_zero, List.getElem?_cons_succ, List.toList_toArray, List.setIfInBounds_toArray, List.set_cons_succ, List.set_cons_zero, Nat.reduceAdd, Nat.zero_add]; rfl; apply LW.v0; rfl; rfl; apply ValP.buildT; infer_instance; infer_instance; apply PartsOk.cons; rfl; apply PartsOk.cons; rfl; apply PartsOk.cons; rfl; apply PartsOk.cons; rfl; exact PartsOk.nil; rfl; simp only [fillP, wrCells, Value.cells, List.getElem?_cons_zero, List.getElem?_cons_succ, List.toList_toArray, List.setIfInBounds_toArray, List.set_cons_succ, List.set_cons_zero, Nat.reduceAdd, Nat.zero_add]; rfl; apply LW.v0; rfl; rfl; apply ValP.buildT; infer_instance; infer_instance; apply PartsOk.cons; rfl; apply PartsOk.cons; rfl; apply PartsOk.cons; rfl; apply PartsOk.cons; rfl; exact PartsOk.nil; rfl; simp only [fillP, wrCells, Value.cells, List.getElem?_cons_zero, List.getElem?_cons_succ, List.toList_toArray, List.setIfInBounds_toArray, List.set_cons_succ, List.set_cons_zero, Nat.reduceAdd, Nat.zero_add]; rfl; apply LW.v0; rfl; rfl; apply ValP.buildT; infer_instance; infer_instance; apply PartsOk.cons; rfl; apply PartsOk.cons; rfl; apply PartsOk.cons; rfl; apply PartsOk.cons; rfl; exact PartsOk.nil; rfl; simp only [fillP, wrCells, Value.cells, List.getElem?_cons_zero, List.getElem?_cons_succ, List.toList_toArray, List.setIfInBounds_toArray, List.set_cons_succ, List.set_cons_zero, Nat.reduceAdd, Nat.zero_add]; rfl; apply LW.v0; rfl; rfl; apply ValP.buildT; infer_instance; infer_instance; apply PartsOk.cons; rfl; apply PartsOk.cons; rfl; apply PartsOk.cons; rfl; apply PartsOk.cons; rfl; exact PartsOk.nil; rfl; simp only [fillP, wrCells, Value.cells, List.getElem?_cons_zero, List.getElem?_cons_succ, List.toList_toArray, List.setIfInBounds_toArray, List.set_cons_succ, List.set_cons_zero, Nat.reduceAdd, Nat.zero_add]; rfl; apply LW.v0; rfl; rfl; apply ValP.buildT; infer_instance; infer_instance; apply PartsOk.cons; rfl; apply PartsOk.cons; rfl; apply PartsOk.cons; rfl; exact PartsOk.nil; rfl; simp only [fillP, wrCells, Value.cells, List.getElem?_cons_zero, List.getElem?_cons_succ, List.toList_toArray, List.setIfInBounds_toArray, List.set_cons_succ, List.set_cons_zero, Nat.reduceAdd, Nat.zero_add]; rfl; apply LW.v0; rfl; rfl; apply ValP.buildT; infer_instance; infer_instance; apply PartsOk.cons; rfl; apply PartsOk.cons; rfl; apply PartsOk.cons; rfl; apply PartsOk.cons; rfl; exact PartsOk.nil; rfl; simp only [fillP, wrCells, Value.cells, List.getElem?_cons_zero, List.getElem?_cons_succ, List.toList_toArray, List.setIfInBounds_toArray, List.set_cons_succ, List.set_cons_zero, Nat.reduceAdd, Nat.zero_add]; rfl; apply LW.v0; rfl; rfl; apply ValP.buildT; infer_instance; infer_instance; apply PartsOk.cons; rfl; apply PartsOk.cons; rfl; apply PartsOk.cons; rfl; exact PartsOk.nil; rfl; simp only [fillP, wrCells, Value.cells, List.getElem?_cons_zero, List.getElem?_cons_succ, List.toList_toArray, List.setIfInBounds_toArray, List.set_cons_succ, List.set_cons_zero, Nat.reduceAdd, Nat.zero_add]; rfl; apply LW.v0; rfl; rfl; apply ValP.buildT; infer_instance; infer_instance; apply PartsOk.cons; rfl; apply PartsOk.cons; rfl; apply PartsOk.cons; rfl; exact PartsOk.nil; rfl; simp only [fillP, wrCells, Value.cells, List.getElem?_cons_zero, List.getElem?_cons_succ, List.toList_toArray, List.setIfInBounds_toArray, List.set_cons_succ, List.set_cons_zero, Nat.reduceAdd, Nat.zero_add]; rfl; apply LW.v0; rfl; rfl; apply ValP.buildT; infer_instance; infer_instance; apply PartsOk.cons; rfl; apply PartsOk.cons; rfl; apply PartsOk.cons; rfl; exact PartsOk.nil; rfl; simp only [fillP, wrCells, Value.cells, List.getElem?_cons_zero, List.getElem?_cons_succ, List.toList_toArray, List.setIfInBounds_toArray, List.set_cons_succ, List.set_cons_zero, Nat.reduceAdd, Nat.zero_add]; rfl; apply LW.v0; rfl; rfl; apply ValP.buildT; infer_instance; infer_instance; apply PartsOk.cons; rfl; apply PartsOk.cons; rfl; apply PartsOk.cons; rfl; apply PartsOk.cons; rfl; exact PartsOk.nil; rfl; simp only [fillP, wrCells, Value.cells, List.getElem?_cons_zero, List.getElem?_cons_succ, List.toList_toArray, List.setIfInBounds_toArray, List.set_cons_succ, List.set_cons_zero, Nat.reduceAdd, Nat.zero_add]; rfl; apply LW.v0; rfl; rfl; apply ValP.buildT; infer_instance; infer_instance; apply PartsOk.cons; rfl; apply PartsOk.cons; rfl; apply PartsOk.cons; rfl; exact PartsOk.nil; rfl; simp only [fillP, wrCells, Value.cells, List.getElem?_cons_zero, List.getElem?_cons_succ, List.toList_toArray, List.setIfInBounds_toArray, List.set_cons_succ, List.set_cons_zero, Nat.reduceAdd, Nat.zero_add]; rfl; apply LW.v0; rfl; rfl; apply ValP.buildT; infer_instance; infer_instance; apply PartsOk.cons; rfl; apply PartsOk.cons; rfl; apply PartsOk.cons; rfl; exact PartsOk.nil; rfl; simp only [fillP, wrCells, Value.cells, List.getElem?_cons_zero, List.getElem?_cons_succ, List.toList_toArray, List.setIfInBounds_toArray, List.set_cons_succ, List.set_cons_zero, Nat.reduceAdd, Nat.zero_add]; rfl; apply LW.v0; rfl; rfl; apply ValP.buildT; infer_instance; infer_instance; apply PartsOk.cons; rfl; apply PartsOk.cons; rfl; apply PartsOk.cons; rfl; exact PartsOk.nil; rfl; simp only [fillP, wrCells, Value.cells, List.getElem?_cons_zero, List.getElem?_cons_succ, List.toList_toArray, List.setIfInBounds_toArray, List.set_cons_succ, List.set_cons_zero, Nat.reduceAdd, Nat.zero_add]; rfl; apply LW.v0; rfl; rfl; apply ValP.buildT; infer_instance; infer_instance; apply PartsOk.cons; rfl; apply PartsOk.cons; rfl; apply PartsOk.cons; rfl; exact PartsOk.nil; rfl; simp only [fillP, wrCells, Value.cells, List.getElem?_cons_zero, List.getElem?_cons_succ, List.toList_toArray, List.setIfInBounds_toArray, List.set_cons_succ, List.set_cons_zero, Nat.reduceAdd, Nat.zero_add]; rfl; apply LW.v0; rfl; rfl; apply ValP.buildT; infer_instance; infer_instance; apply PartsOk.cons; rfl; apply PartsOk.cons; rfl; apply PartsOk.cons; rfl; exact PartsOk.nil; rfl; simp only [fillP, wrCells, Value.cells, List.getElem?_cons_zero, List.getElem?_cons_succ, List.toList_toArray, List.setIfInBounds_toArray, List.set_cons_succ, List.set_cons_zero, Nat.reduceAdd, Nat.zero_add]; rfl; apply LW.v0; rfl; rfl; apply ValP.buildT; infer_instance; infer_instance; apply PartsOk.cons; rfl; apply PartsOk.cons; rfl; apply PartsOk.cons; rfl; exact PartsOk.nil; rfl; simp only [fillP, wrCells, Value.cells, List.getElem?_cons_zero, List.getElem?_cons_succ, List.toList_toArray, List.setIfInBounds_toArray, List.set_cons_succ, List.set_cons_zero, Nat.reduceAdd, Nat.zero_add]; rfl; apply LW.v0; rfl; rfl; apply ValP.buildT; infer_instance; infer_instance; apply PartsOk.cons; rfl; apply PartsOk.cons; rfl; apply PartsOk.cons; rfl; exact PartsOk.nil; rfl; simp only [fillP, wrCells, Value.cells, List.getElem?_cons_zero, List.getElem?_cons_succ, List.toList_toArray, List.setIfInBounds_toArray, List.set_cons_succ, List.set_cons_zero, Nat.reduceAdd, Nat.zero_add]; rfl; apply LW.v0; rfl; rfl; apply ValP.buildT; infer_instance; infer_instance; apply PartsOk.cons; rfl; apply PartsOk.cons; rfl; apply PartsOk.cons; rfl; exact PartsOk.nil; rfl; simp only [fillP, wrCells, Value.cells, List.getElem?_cons_zero, List.getElem?_cons_succ, List.toList_toArray, List.setIfInBounds_toArray, List.set_cons_succ, List.set_cons_zero, Nat.reduceAdd, Nat.zero_add]; rfl; apply LW.v0; rfl; rfl; apply ValP.buildT; infer_instance; infer_instance; apply PartsOk.cons; rfl; apply PartsOk.cons; rfl; apply PartsOk.cons; rfl; exact PartsOk.nil; rfl; simp only [fillP, wrCells, Value.cells, List.getElem?_cons_zero, List.getElem?_cons_succ, List.toList_toArray, List.setIfInBounds_toArray, List.set_cons_succ, List.set_cons_zero, Nat.reduceAdd, Nat.zero_add]; rfl; apply LW.v0; rfl; rfl; apply ValP.buildT; infer_instance; infer_instance; apply PartsOk.cons; rfl; apply PartsOk.cons; rfl; apply PartsOk.cons; rfl; apply PartsOk.cons; rfl; exact PartsOk.nil; rfl; simp only [fillP, wrCells, Value.cells, List.getElem?_cons_zero, List.getElem?_cons_succ, List.toList_toArray, List.setIfInBounds_toArray, List.set_cons_succ, List.set_cons_zero, Nat.reduceAdd, Nat.zero_add]; rfl; apply LW.v0; rfl; rfl; apply ValP.buildT; infer_instance; infer_instance; apply PartsOk.cons; rfl; apply PartsOk.cons; rfl; apply PartsOk.cons; rfl; exact PartsOk.nil; rfl; simp only [fillP, wrCells, Value.cells, List.getElem?_cons_zero, List.getElem?_cons_succ, List.toList_toArray, List.setIfInBounds_toArray, List.set_cons_succ, List.set_cons_zero, Nat.reduceAdd, Nat.zero_add]; rfl; apply LW.v0; rfl; rfl; apply ValP.buildT; infer_instance; infer_instance; apply PartsOk.cons; rfl; apply PartsOk.cons; rfl; apply PartsOk.cons; rfl; exact PartsOk.nil; rfl; simp only [fillP, wrCells, Value.cells, List.getElem?_cons_zero, List.getElem?_cons_succ, List.toList_toArray, List.setIfInBounds_toArray, List.set_cons_succ, List.set_cons_zero, Nat.reduceAdd, Nat.zero_add]; rfl; apply LW.v0; rfl; rfl; apply ValP.buildT; infer_instance; infer_instance; apply PartsOk.cons; rfl; apply PartsOk.cons; rfl; apply PartsOk.cons; rfl; apply PartsOk.cons; rfl; exact PartsOk.nil; rfl; simp only [fillP, wrCells, Value.cells, List.getElem?_cons_zero, List.getElem?_cons_succ, List.toList_toArray, List.setIfInBounds_toArray, List.set_cons_succ, List.set_cons_zero, Nat.reduceAdd, Nat.zero_add]; rfl; apply LW.v0; rfl; rfl; apply ValP.buildT; infer_instance; infer_instance; apply PartsOk.cons; rfl; apply PartsOk.cons; rfl; apply PartsOk.cons; rfl; exact PartsOk.nil; rfl; simp only [fillP, wrCells, Value.cells, List.getElem?_cons_zero, List.getElem?_cons_succ, List.toList_toArray, List.setIfInBounds_toArray, List.set_cons_succ, List.set_cons_zero, Nat.reduceAdd, Nat.zero_add]; rfl; apply LW.v0; rfl; rfl; apply ValP.buildT; infer_instance; infer_instance; apply PartsOk.cons; rfl; apply PartsOk.cons; rfl; apply PartsOk.cons; rfl; exact PartsOk.nil; rfl; simp only [fillP, wrCells, Value.cells, List.getElem?_cons_zero, List.getElem?_cons_succ, List.toList_toArray, List.setIfInBounds_toArray, List.set_cons_succ, List.set_cons_zero, Nat.reduceAdd, Nat.zero_add]; rfl; apply LW.v0; rfl; rfl; apply ValP.buildT; infer_instance; infer_instance; apply PartsOk.cons; rfl; apply PartsOk.cons; rfl; apply PartsOk.cons; rfl; exact PartsOk.nil; rfl; simp only [fillP, wrCells, Value.cells, List.getElem?_cons_zero, List.getElem?_cons_succ, List.toList_toArray, List.setIfInBounds_toArray, List.set_cons_succ, List.set_cons_zero, Nat.reduceAdd, Nat.zero_add]; rfl; apply LW.v0; rfl; rfl; apply ValP.buildT; infer_instance; infer_instance; apply PartsOk.cons; rfl; apply PartsOk.cons; rfl; apply PartsOk.cons; rfl; exact PartsOk.nil; rfl; simp only [fillP, wrCells, Value.cells, List.getElem?_cons_zero, List.getElem?_cons_succ, List.toList_toArray, List.setIfInBounds_toArray, List.set_cons_succ, List.set_cons_zero, Nat.reduceAdd, Nat.zero_add]; rfl; apply LW.v0; rfl; rfl; apply ValP.buildT; infer_instance; infer_instance; apply PartsOk.cons; rfl; apply PartsOk.cons; rfl; exact PartsOk.nil; rfl; simp only [fillP, wrCells, Value.cells, List.getElem?_cons_zero, List.getElem?_cons_succ, List.toList_toArray, List.setIfInBounds_toArray, List.set_cons_succ, List.set_cons_zero, Nat.reduceAdd, Nat.zero_add]; rfl; apply LW.v0; rfl; rfl; apply ValP.buildT; infer_instance; infer_instance; apply PartsOk.cons; rfl; apply PartsOk.cons; rfl; apply PartsOk.cons; rfl; apply PartsOk.cons; rfl; exact PartsOk.nil; rfl; simp only [fillP, wrCells, Value.cells, List.getElem?_cons_zero, List.getElem?_cons_succ, List.toList_toArray, List.setIfInBounds_toArray, List.set_cons_succ, List.set_cons_zero, Nat.reduceAdd, Nat.zero_add]; rfl; apply LW.v0; rfl; rfl; apply ValP.buildT; infer_instance; infer_instance; apply PartsOk.cons; rfl; apply PartsOk.cons; rfl; apply PartsOk.cons; rfl; exact PartsOk.nil; rfl; simp only [fillP, wrCells, Value.cells, List.getElem?_cons_zero, List.getElem?_cons_succ, List.toList_toArray, List.setIfInBounds_toArray, List.set_cons_succ, List.set_cons_zero, Nat.reduceAdd, Nat.zero_add]; rfl; apply LW.v0; rfl; rfl; apply ValP.buildT; infer_instance; infer_instance; apply PartsOk.cons; rfl; apply PartsOk.cons; rfl; apply PartsOk.cons; rfl; apply PartsOk.cons; rfl; exact PartsOk.nil; rfl; simp only [fillP, wrCells, Value.cells, List.getElem?_cons_zero, List.getElem?_cons_succ, List.toList_toArray, List.setIfInBounds_toArray, List.set_cons_succ, List.set_cons_zero, Nat.reduceAdd, Nat.zero_add]; rfl; apply LW.v0; rfl; rfl; apply ValP.buildT; infer_instance; infer_instance; apply PartsOk.cons; rfl; apply PartsOk.cons; rfl; apply PartsOk.cons; rfl; exact PartsOk.nil; rfl; simp only [fillP, wrCells, Value.cells, List.getElem?_cons_zero, List.getElem?_cons_succ, List.toList_toArray, List.setIfInBounds_toArray, List.set_cons_succ, List.set_cons_zero, Nat.reduceAdd, Nat.zero_add]; rfl; apply LW.v0; rfl; rfl; apply ValP.buildT; infer_instance; infer_instance; apply PartsOk.cons; rfl; apply PartsOk.cons; rfl; apply PartsOk.cons; rfl; apply PartsOk.cons; rfl; exact PartsOk.nil; rfl; simp only [fillP, wrCells, Value.cells, List.getElem?_cons_zero, List.getElem?_cons_succ, List.toList_toArray, List.setIfInBounds_toArray, List.set_cons_succ, List.set_cons_zero, Nat.reduceAdd, Nat.zero_add]; rfl; apply LW.v0; rfl; rfl; apply ValP.buildT; infer_instance; infer_instance; apply PartsOk.cons; rfl; apply PartsOk.cons; rfl; apply PartsOk.cons; rfl; apply PartsOk.cons; rfl; exact PartsOk.nil; rfl; simp only [fillP, wrCells, Value.cells, List.getElem?_cons_zero, List.getElem?_cons_succ, List.toList_toArray, List.setIfInBounds_toArray, List.set_cons_succ, List.set_cons_zero, Nat.reduceAdd, Nat.zero_add]; rfl; apply LW.v0; rfl; rfl; apply ValP.buildT; infer_instance; infer_instance; apply PartsOk.cons; rfl; apply PartsOk.cons; rfl; apply PartsOk.cons; rfl; apply PartsOk.cons; rfl; exact PartsOk.nil; rfl; simp only [fillP, wrCells, Value.cells, List.getElem?_cons_zero, List.getElem?_cons_succ, List.toList_toArray, List.setIfInBounds_toArray, List.set_cons_succ, List.set_cons_zero, Nat.reduceAdd, Nat.zero_add]; rfl; apply LW.v0; rfl; rfl; apply ValP.buildT; infer_instance; infer_instance; apply PartsOk.cons; rfl; apply PartsOk.cons; rfl; apply PartsOk.cons; rfl; exact PartsOk.nil; rfl; simp only [fillP, wrCells, Value.cells, List.getElem?_cons_zero, List.getElem?_cons_succ, List.toList_toArray, List.setIfInBounds_toArray, List.set_cons_succ, List.set_cons_zero, Nat.reduceAdd, Nat.zero_add]; rfl; apply LW.v0; rfl; rfl; apply ValP.buildT; infer_instance; infer_instance; apply PartsOk.cons; rfl; apply PartsOk.cons; rfl; exact PartsOk.nil; rfl; simp only [fillP, wrCells, Value.cells, List.getElem?_cons_zero, List.getElem?_cons_succ, List.toList_toArray, List.setIfInBounds_toArray, List.set_cons_succ, List.set_cons_zero, Nat.reduceAdd, Nat.zero_add]; rfl)
  refine LW.v0 rfl rfl (ValP.buildA (vs := (plainOps.zipIdx.map fun p => (p.2, .agg (opc p.1)))) (c := (opcs plainOps).toArray) ?_ (by kernel_rfl) (by kernel_rfl)) ?_
  · (apply PartsOk.cons; rfl; apply PartsOk.cons; rfl; apply PartsOk.cons; rfl; apply PartsOk.cons; rfl; apply PartsOk.cons; rfl; apply PartsOk.cons; rfl; apply PartsOk.cons; rfl; apply PartsOk.cons; rfl; apply PartsOk.cons; rfl; apply PartsOk.cons; rfl; apply PartsOk.cons; rfl; apply PartsOk.cons; rfl; apply PartsOk.cons; rfl; apply PartsOk.cons; rfl; apply PartsOk.cons; rfl; apply PartsOk.cons; rfl; apply PartsOk.cons; rfl; apply PartsOk.cons; rfl; apply PartsOk.cons; rfl; apply PartsOk.cons; rfl; apply PartsOk.cons; rfl; apply PartsOk.cons; rfl; apply PartsOk.cons; rfl; apply PartsOk.cons; rfl; apply PartsOk.cons; rfl; apply PartsOk.cons; rfl; apply PartsOk.cons; rfl; apply PartsOk.cons; rfl; apply PartsOk.cons; rfl; apply PartsOk.cons; rfl; apply PartsOk.cons; rfl; apply PartsOk.cons; rfl; apply PartsOk.cons; rfl; apply PartsOk.cons; rfl; apply PartsOk.cons; rfl; apply PartsOk.cons; rfl; apply PartsOk.cons; rfl; apply PartsOk.cons; rfl; apply PartsOk.cons; rfl; apply PartsOk.cons; rfl; apply PartsOk.cons; rfl; apply PartsOk.cons; rfl; apply PartsOk.cons; rfl; apply PartsOk.cons; rfl; apply PartsOk.cons; rfl; apply PartsOk.cons; rfl; apply PartsOk.cons; rfl; apply PartsOk.cons; rfl; apply PartsOk.cons; rfl; apply PartsOk.cons; rfl; exact PartsOk.nil)
  (apply LW.allocA; rfl; intro _; apply LW.store; rfl; rfl; apply SetAt.head; apply Wr.whole; kernel_rfl; kernel_rfl; kernel_rfl; apply LW.nil; refine thenN ?_; refine CW.seq ?_; refine CW.region ?_; apply LW.v0; rfl; rfl; apply ValP.cutArrAll; infer_instance; infer_instance; rfl; apply LW.v0; rfl; rfl; apply ValP.assign; rfl; apply LW.nil; refine thenN ?_; refine CW.ret ?_)
  rename_i b
  apply finM [(b, .cells (opcs plainOps).toArray 77 (0, 0))]; (exact .inl rfl); (exact Shut.nil); rfl; (apply ResL.cons; exact Res.tmp rfl; exact ResL.nil); exact List.Sublist.refl _
  exact ⟨b, rfl, rfl⟩
end Go.Proofs.YtbhicncgjplnoaaDoor

/-
  The operation of a byte: contracts.
  Conditions: none.
-/
namespace Go.Proofs.YtbhicncgjplnoaaDoor
open Go Go.RowKit SL
set_option maxRecDepth 8000
set_option maxHeartbeats 4000000
set_option linter.unusedSimpArgs false
set_option linter.unusedVariables false
attribute [local irreducible] SL.CW SL.LW SL.DW Calls SL.Ret SL.RetG SL.beginQ SL.roundQ SL.rangeQ SL.inQ SL.RW SL.AnyW SL.thenQ SL.thenC SL.thenW SL.blkQ SL.finQ SL.ValP SL.NewP SL.SetP SL.CallP SL.Rd SL.Wr SL.Known
theorem Of1_calls (x : OpV) (k bb : Nat) (E : TypeId) (fr : Nat × Nat) (w : World) (hb : w.heap[bb]? = some (.cells #[.int .u8 (k : Int)] E fr)) : Calls Tryd.prog 35 #[.agg (opc x), .pointer (some ⟨bb, 0, none⟩)] w (Ret w (.bool (decide (x.c = k)))) := by
  refine enter (args := [_, _]) _ [] [] Tryd.func35 rfl Tryd.ntmps35 rfl (by simp) .nil ?_
  (refine CW.seq ?_; refine CW.region ?_; apply LW.boxA; rfl; rfl; intro _; apply LW.v0; rfl; rfl; apply ValP.assign; rfl; apply LW.nil; refine thenN ?_; refine CW.seq ?_; refine CW.region ?_; apply LW.v0; rfl; rfl; apply ValP.fieldAddr; rfl; rfl; apply LW.load; rfl; rfl; apply Known.at; apply FsAt.head; exact Rd.one' rfl; apply LW.load; rfl; rfl; exact Known.ext (by assumption) (by simp); exact Rd.one' rfl; apply LW.v0; rfl; rfl; apply ValP.eq; rfl; rfl; apply LW.v0; rfl; rfl; apply ValP.assign; rfl; apply LW.nil; refine thenN ?_; refine CW.ret ?_)
  (apply finR; exact .inl rfl; rfl; rfl; rfl; apply ResL.cons; exact Res.tmp rfl; exact ResL.nil)
  exact congrArg Value.bool (decide_eq_decide.2 Int.natCast_inj)
/-- The place of the first operation of that byte. -/
def idxOf (l : List OpV) (k : Nat) : Int := match l.findIdx? (fun x => x.c == k) with
  | some i => (i : Int)
  | none => -1
theorem idxOf_hit {l : List OpV} {k m : Nat} (hm : m < l.length) (h : ∀ i (hi : i < m), l[i].c ≠ k) (he : l[m].c = k) : idxOf l k = (m : Int) := by
  unfold idxOf
  rw [List.findIdx?_eq_some_iff_getElem.2 ⟨hm, by simpa using he, fun i hi => by simpa using h i hi⟩]
theorem idxOf_miss {l : List OpV} {k : Nat} (h : ∀ i (hi : i < l.length), l[i].c ≠ k) : idxOf l k = -1 := by
  unfold idxOf
  rw [List.findIdx?_eq_none_iff.2 fun x hx => by obtain ⟨i, hi, rfl⟩ := List.getElem_of_mem hx; simpa using h i hi]
theorem IndexFunc_calls (l : List OpV) (k : Nat) (v : Value) (bb : Nat) (E : TypeId) (fr : Nat × Nat) (w : World) (hv : RowAt w 5 v l.length (opcs l)) (hb : w.heap[bb]? = some (.cells #[.int .u8 (k : Int)] E fr)) :
    Calls Tryd.prog 33 #[v, .func (.func 35) #[] #[.pointer (some ⟨bb, 0, none⟩)]] w (Ret w (.int .i64 (idxOf l k))) := by
  obtain ⟨p, c, rfl, hc, hm⟩ := hv.form
  simp only [maxLen] at hm
  refine enter (args := [_, _]) _ [] [] Tryd.func33 rfl Tryd.ntmps33 rfl (by simp) .nil ?_
  (refine CW.seq ?_; refine CW.region ?_; apply LW.v0; rfl; rfl; apply ValP.assign; rfl; apply LW.nil; refine thenN ?_; refine CW.seq ?_; refine CW.seq ?_; refine CW.region ?_; apply LW.v0; rfl; rfl; apply ValP.move; rfl; apply LW.v0; rfl; rfl; apply ValP.lenR; rfl; infer_instance; rfl; apply LW.v0; rfl; rfl; apply ValP.move; rfl; apply LW.nil; refine thenN ?_; refine CW.block ?_)
  refine CW.loop (fun m : Nat => ([(8, .int .i64 (m : Int)), (7, .int .i64 (l.length : Int)), (0, .slice p l.length c), (1, .func (.func 35) #[] #[.pointer (some ⟨bb, 0, none⟩)])], []))
    (fun m => m ≤ l.length ∧ ∀ i (hi : i < m) (hl : i < l.length), l[i].c ≠ k) (fun m => l.length - m) 0 ⟨Nat.zero_le _, fun i hi => by omega⟩ ⟨rfl, rfl, rfl, rfl, trivial⟩ (List.Sublist.refl _) ?_
  rintro m ⟨hml, hall⟩
  dsimp only
  rcases Nat.lt_or_ge m l.length with hlt | hge
  · obtain ⟨b, off, c', cs, E', fr', heq, hbk, hx⟩ := hv.pos (by omega)
    cases heq
    have hrd : Rd Tryd.prog 24 (.cells cs E' fr') (off + m * 5) (.agg (opc l[m])) := Rd.elemA (g := opl) (l := l) (a := l[m]) hx (opl_len l) (List.getElem?_eq_getElem hlt)
    (refine CW.seq ?_; refine CW.region ?_; apply LW.v0; rfl; rfl; apply ValP.lssT; rfl; rfl; omega; apply LW.nil; refine thenN ?_; refine CW.seq ?_; apply CW.condT; rfl; (with_reducible rfl); refine CW.skip ?_; refine thenN ?_; refine CW.seq ?_; refine CW.block ?_; refine CW.seq ?_; refine CW.region ?_; apply LW.v0; rfl; rfl; apply ValP.move; rfl; apply LW.v0; rfl; rfl; apply ValP.assign; rfl; apply LW.nil; refine thenN ?_; refine CW.seq ?_; refine CW.region ?_; apply LW.v0; rfl; rfl; apply ValP.move; rfl; apply LW.v0; rfl; rfl; apply ValP.move; rfl; apply LW.v0; rfl; rfl; apply ValP.move; rfl; apply LW.v0; rfl; rfl; apply ValP.indexAddrS; rfl; rfl; rfl; omega; apply LW.load; rfl; rfl; exact Known.ext (by assumption) (by simp); assumption)
    apply LW.call
    rfl
    rfl
    infer_instance
    (apply ArgsOk.cons; rfl; exact ArgsOk.nil)
    · intro w' hs
      exact Of1_calls l[m] k bb E fr w' (by rw [hs.bel.block bb (Array.getElem?_eq_some_iff.1 hb).1 (by simp)]; exact hb)
    by_cases he : l[m].c = k
    · have hi := idxOf_hit hlt (fun i hi => hall i hi (by omega)) he
      rw [decide_eq_true he, hi]
      (apply LW.nil; refine thenN ?_; apply CW.condT; rfl; (with_reducible rfl); refine CW.seq ?_; refine CW.region ?_; apply LW.v0; rfl; rfl; apply ValP.move; rfl; apply LW.v0; rfl; rfl; apply ValP.assign; rfl; apply LW.nil; refine thenN ?_; refine CW.ret ?_; refine blkR ?_; refine thenR ?_; refine thenR ?_; refine blkR ?_; refine thenR ?_)
      (apply finR; exact .inl rfl; rfl; rfl; rfl; apply ResL.cons; exact Res.tmp rfl; exact ResL.nil)
      rfl
    · rw [decide_eq_false he]
      (apply LW.nil; refine thenN ?_; apply CW.condF; rfl; (with_reducible rfl); refine CW.skip ?_; refine blkN ?_; refine thenN ?_; refine CW.region ?_; apply LW.v0; rfl; rfl; apply ValP.addZL; rfl; rfl; decide; omega; apply LW.v0; rfl; rfl; apply ValP.move; rfl; apply LW.nil)
      apply thenX
      exact ⟨rfl, m + 1, ⟨hlt, fun i hi hl => by
        rcases Nat.lt_or_ge i m with h | h
        · exact hall i h hl
        · obtain rfl : i = m := by omega
          exact he⟩, by omega, ⟨rfl, rfl, rfl, rfl, trivial⟩, List.Sublist.refl _⟩
  · have hi := idxOf_miss (l := l) (k := k) fun i hi => hall i (by omega) hi
    rw [hi]
    (refine CW.seq ?_; refine CW.region ?_; apply LW.v0; rfl; rfl; apply ValP.lssF; rfl; rfl; omega; apply LW.nil; refine thenN ?_; refine CW.seq ?_; apply CW.condF; rfl; (with_reducible rfl); refine CW.exit ?_; refine thenE ?_; refine thenE ?_; refine blkE rfl ?_; refine thenN ?_; refine CW.seq ?_; refine CW.region ?_; apply LW.v0; rfl; rfl; apply ValP.assign; rfl; apply LW.nil; refine thenN ?_; refine CW.ret ?_)
    (apply finR; exact .inl rfl; rfl; rfl; rfl; apply ResL.cons; exact Res.tmp rfl; exact ResL.nil)
    rfl
end Go.Proofs.YtbhicncgjplnoaaDoor

/-
  What an operation costs in any case: contracts.
  Conditions: none.
-/
namespace Go.Proofs.YtbhicncgjplnoaaDoor
open Go Go.RowKit SL
set_option maxRecDepth 8000
set_option maxHeartbeats 4000000
set_option linter.unusedSimpArgs false
set_option linter.unusedVariables false
attribute [local irreducible] SL.CW SL.LW SL.DW Calls SL.Ret SL.RetG SL.beginQ SL.roundQ SL.rangeQ SL.inQ SL.RW SL.AnyW SL.thenQ SL.thenC SL.thenW SL.blkQ SL.finQ SL.ValP SL.NewP SL.SetP SL.CallP SL.Rd SL.Wr SL.Known
def zeroOp : OpV := ⟨0, [], 0, 0, 0⟩
def OfV (o : Option OpV) : Value := match o with
  | some x => .tuple #[.agg (opc x), .int .i64 0]
  | none => .tuple #[.agg (opc zeroOp), .int .i64 4]
theorem st_us {w0 w : World} {S : List Nat} {fs : Fs} (hs : St w0 S fs w) : ∀ p ∈ fs, w.heap[p.1]? = some p.2 := fun p hp => (hs.own p hp).2
theorem plain_rd (i : Nat) (hi : i < plainOps.length) {E : TypeId} {fr : Nat × Nat} : Rd Tryd.prog 24 (.cells (opcs plainOps).toArray E fr) (0 + i * 5) (.agg (opc plainOps[i])) :=
  Rd.elemA (g := opl) (l := plainOps) (a := plainOps[i]) (m := 250) (by rw [List.drop_zero]; exact List.take_of_length_le (by rw [List.toList_toArray, plain_len]; decide)) (opl_len _) (List.getElem?_eq_getElem hi)
theorem Of_op_calls (b : Nat) (hb : b < 256) (w : World) : Calls Tryd.prog 11 #[.int .u8 (b : Int)] w (Ret w (OfV (opOf b))) := by
  have hRow0 := row_calls b hb
  refine enter (args := [_]) _ [] [] Tryd.func11 rfl Tryd.ntmps11 rfl (by simp) .nil ?_
  cases hr : rowOp b with
  | some x =>
    rw [hr] at hRow0
    have hRow : ∀ w, Calls Tryd.prog 32 #[.int .u8 (b : Int)] w (Ret w (.tuple #[.agg (opc x), .bool true])) := hRow0
    rw [show opOf b = some x by unfold opOf; rw [hr]]
    (refine CW.seq ?_; refine CW.region ?_; apply LW.box1; rfl; rfl; rfl; intro _; apply LW.allocA; rfl; intro _; apply LW.v0; rfl; rfl; apply ValP.assign; rfl; apply LW.nil; refine thenN ?_; refine CW.seq ?_; refine CW.seq ?_; refine CW.region ?_; apply LW.load; rfl; rfl; apply Known.at; apply FsAt.tail; apply FsAt.head; exact Rd.one' rfl; apply LW.callE; rfl; rfl; infer_instance; apply ArgsOk.cons; rfl; exact ArgsOk.nil; intro w _; exact hRow w; apply LW.v0; rfl; rfl; apply ValP.move; rfl; apply LW.v0; rfl; rfl; apply ValP.extractN; rfl; rfl; apply LW.v0; rfl; rfl; apply ValP.extractN; rfl; rfl; apply LW.allocA; rfl; intro _; apply LW.store; rfl; rfl; apply SetAt.head; apply Wr.whole; rfl; rfl; rfl; apply LW.v0; rfl; rfl; apply ValP.assign; rfl; apply LW.nil; refine thenN ?_; refine CW.seq ?_; refine CW.region ?_; apply LW.v0; rfl; rfl; apply ValP.move; rfl; apply LW.nil; refine thenN ?_; apply CW.condT; rfl; (with_reducible rfl); refine CW.seq ?_; refine CW.region ?_; apply LW.load; rfl; rfl; apply Known.at; apply FsAt.head; exact Rd.whole rfl; apply LW.store; rfl; rfl; apply SetAt.tail; apply SetAt.head; apply Wr.whole; rfl; rfl; rfl; apply LW.v0; rfl; rfl; apply ValP.assign; rfl; apply LW.nil; refine thenN ?_; refine CW.ret ?_; refine thenR ?_)
    (apply finR; exact .inl rfl; rfl; rfl; rfl; apply ResL.cons; apply Res.cell; rfl; apply Known.at; apply FsAt.tail; apply FsAt.head; exact Rd.whole rfl; apply ResL.cons; exact Res.tmp rfl; exact ResL.nil)
    rfl
  | none =>
    rw [hr] at hRow0
    have hRow : ∀ w, Calls Tryd.prog 32 #[.int .u8 (b : Int)] w (Ret w (.tuple #[.agg (opc zeroOp), .bool false])) := hRow0
    (refine CW.seq ?_; refine CW.region ?_; apply LW.box1; rfl; rfl; rfl; intro _; apply LW.allocA; rfl; intro _; apply LW.v0; rfl; rfl; apply ValP.assign; rfl; apply LW.nil; refine thenN ?_; refine CW.seq ?_; refine CW.seq ?_; refine CW.region ?_; apply LW.load; rfl; rfl; apply Known.at; apply FsAt.tail; apply FsAt.head; exact Rd.one' rfl; apply LW.callE; rfl; rfl; infer_instance; apply ArgsOk.cons; rfl; exact ArgsOk.nil; intro w _; exact hRow w; apply LW.v0; rfl; rfl; apply ValP.move; rfl; apply LW.v0; rfl; rfl; apply ValP.extractN; rfl; rfl; apply LW.v0; rfl; rfl; apply ValP.extractN; rfl; rfl; apply LW.allocA; rfl; intro _; apply LW.store; rfl; rfl; apply SetAt.head; apply Wr.whole; rfl; rfl; rfl; apply LW.v0; rfl; rfl; apply ValP.assign; rfl; apply LW.nil; refine thenN ?_; refine CW.seq ?_; refine CW.region ?_; apply LW.v0; rfl; rfl; apply ValP.move; rfl; apply LW.nil; refine thenN ?_; apply CW.condF; rfl; (with_reducible rfl); refine CW.skip ?_; refine thenN ?_; refine CW.seq ?_; refine CW.region ?_)
    rename_i bx b2 b4
    (apply LW.callR; rfl; rfl; infer_instance; exact ArgsOk.nil; intro w hs)
    exact plain_calls w
    intro vp gp hpl
    obtain ⟨bp, rfl, rfl⟩ := id hpl
    cases hi : plainOps.findIdx? (fun x => x.c == b) with
    | none =>
      have hidx : idxOf plainOps b = -1 := by unfold idxOf; rw [hi]
      rw [show opOf b = none by unfold opOf; rw [hr]; exact List.find?_eq_none.2 (by simpa using List.findIdx?_eq_none_iff.1 hi)]
      (apply LW.v0; rfl; rfl; apply ValP.makeFunc; exact ArgsOk.nil; apply ArgsOk.cons; rfl; exact ArgsOk.nil; apply LW.callE; rfl; rfl; infer_instance; apply ArgsOk.cons; rfl; apply ArgsOk.cons; rfl; exact ArgsOk.nil; intro w _; rename_i hst; (exact IndexFunc_calls plainOps b _ _ _ _ w (hpl.us (st_us hst) (by exact List.singleton_sublist.2 (by (repeat (first | exact List.Mem.head _ | apply List.Mem.tail))))) ((hst.own (bx, _) (by (repeat (first | exact List.Mem.head _ | apply List.Mem.tail)))).2)); apply LW.v0; rfl; rfl; apply ValP.assign; rfl; apply LW.nil; refine thenN ?_; refine CW.seq ?_; refine CW.seq ?_; refine CW.region ?_; apply LW.v0; rfl; rfl; apply ValP.move; rfl; apply LW.v0; rfl; rfl; apply ValP.lssT; rfl; rfl; omega; apply LW.nil; refine thenN ?_; apply CW.condT; rfl; (with_reducible rfl); refine CW.seq ?_; refine CW.region ?_; apply LW.v0; rfl; rfl; apply ValP.buildT; infer_instance; infer_instance; exact PartsOk.nil; rfl; simp only [fillP, wrCells, Value.cells, List.getElem?_cons_zero, List.getElem?_cons_succ, List.toList_toArray, List.setIfInBounds_toArray, List.set_cons_succ, List.set_cons_zero, Nat.reduceAdd, Nat.zero_add]; rfl; apply LW.store; rfl; rfl; apply SetAt.tail; apply SetAt.tail; apply SetAt.head; apply Wr.whole; rfl; rfl; rfl; apply LW.v0; rfl; rfl; apply ValP.assign; rfl; apply LW.nil; refine thenN ?_; refine CW.ret ?_; refine thenR ?_)
      (apply finR; exact .inl rfl; rfl; rfl; rfl; apply ResL.cons; apply Res.cell; rfl; apply Known.at; apply FsAt.tail; apply FsAt.tail; apply FsAt.head; exact Rd.whole rfl; apply ResL.cons; exact Res.tmp rfl; exact ResL.nil)
      rfl
    | some i =>
      have hidx : idxOf plainOps b = (i : Int) := by unfold idxOf; rw [hi]
      obtain ⟨hlt, hc, hall⟩ := List.findIdx?_eq_some_iff_getElem.1 hi
      have hlt50 : i < 50 := hlt
      have hrd := plain_rd i hlt (E := 77) (fr := (0, 0))
      rw [show opOf b = some plainOps[i] by unfold opOf; rw [hr]; exact List.find?_eq_some_iff_getElem.2 ⟨hc, i, hlt, rfl, fun j hj => by simpa using hall j hj⟩]
      (apply LW.v0; rfl; rfl; apply ValP.makeFunc; exact ArgsOk.nil; apply ArgsOk.cons; rfl; exact ArgsOk.nil; apply LW.callE; rfl; rfl; infer_instance; apply ArgsOk.cons; rfl; apply ArgsOk.cons; rfl; exact ArgsOk.nil; intro w _; rename_i hst; (exact IndexFunc_calls plainOps b _ _ _ _ w (hpl.us (st_us hst) (by exact List.singleton_sublist.2 (by (repeat (first | exact List.Mem.head _ | apply List.Mem.tail))))) ((hst.own (bx, _) (by (repeat (first | exact List.Mem.head _ | apply List.Mem.tail)))).2)); apply LW.v0; rfl; rfl; apply ValP.assign; rfl; apply LW.nil; refine thenN ?_; refine CW.seq ?_; refine CW.seq ?_; refine CW.region ?_; apply LW.v0; rfl; rfl; apply ValP.move; rfl; apply LW.v0; rfl; rfl; apply ValP.lssF; rfl; rfl; omega; apply LW.nil; refine thenN ?_; apply CW.condF; rfl; (with_reducible rfl); refine CW.skip ?_; refine thenN ?_; refine CW.seq ?_; refine CW.region ?_)
      rw [hidx]
      skip
      (apply LW.callR; rfl; rfl; infer_instance; exact ArgsOk.nil; intro w hs)
      exact plain_calls w
      intro vq gq hpq
      obtain ⟨bq, rfl, rfl⟩ := id hpq
      (apply LW.v0; rfl; rfl; apply ValP.move; rfl; apply LW.v0; rfl; rfl; apply ValP.indexAddrS; rfl; rfl; rfl; omega; apply LW.load; rfl; rfl; apply Known.at; apply FsAt.head; assumption; apply LW.store; rfl; rfl; apply SetAt.tail; apply SetAt.tail; apply SetAt.tail; apply SetAt.head; apply Wr.whole; rfl; rfl; rfl; apply LW.v0; rfl; rfl; apply ValP.assign; rfl; apply LW.nil; refine thenN ?_; refine CW.ret ?_)
      (apply finR; exact .inl rfl; rfl; rfl; rfl; apply ResL.cons; apply Res.cell; rfl; apply Known.at; apply FsAt.tail; apply FsAt.tail; apply FsAt.tail; apply FsAt.head; exact Rd.whole rfl; apply ResL.cons; exact Res.tmp rfl; exact ResL.nil)
      rfl
end Go.Proofs.YtbhicncgjplnoaaDoor

/-
  Contracts of the library: strings that are built, bytes compared, digits.
  Conditions: none.
-/
namespace Go.Proofs.YtbhicncgjplnoaaDoor
open Go Go.RowKit SL
set_option maxRecDepth 8000
set_option maxHeartbeats 4000000
set_option linter.unusedSimpArgs false
set_option linter.unusedVariables false
attribute [local irreducible] SL.CW SL.LW SL.DW Calls SL.Ret SL.RetG SL.beginQ SL.roundQ SL.rangeQ SL.inQ SL.RW SL.AnyW SL.thenQ SL.thenC SL.thenW SL.blkQ SL.finQ SL.ValP SL.NewP SL.SetP SL.CallP SL.Rd SL.Wr SL.Known
def bev (l : List UInt8) : Nat := l.foldl (fun n u => 256 * n + u.toNat) 0
theorem bev_snoc (l : List UInt8) (u : UInt8) : bev (l ++ [u]) = 256 * bev l + u.toNat := by simp [bev, List.foldl_append]
theorem bev_go (l : List UInt8) : ∀ n, l.foldl (fun n u => 256 * n + u.toNat) n < (n + 1) * 2 ^ (8 * l.length) := by
  induction l with
  | nil => intro n; simp
  | cons u l ih =>
    intro n
    have hu := u.toNat_lt
    rw [List.foldl_cons, List.length_cons, show 8 * (l.length + 1) = 8 + 8 * l.length by omega, Nat.pow_add, ← Nat.mul_assoc]
    exact Nat.lt_of_lt_of_le (ih _) (Nat.mul_le_mul_right _ (by omega))
theorem bev_lt (l : List UInt8) : bev l < 2 ^ (8 * l.length) := by
  have := bev_go l 0
  rwa [Nat.zero_add, Nat.one_mul] at this
theorem bev_app (x y : List UInt8) : bev (x ++ y) = bev x * 2 ^ (8 * y.length) + bev y := by
  have key : ∀ (y : List UInt8) (n : Nat), y.foldl (fun n u => 256 * n + u.toNat) n = n * 2 ^ (8 * y.length) + bev y := by
    intro y
    induction y with
    | nil => intro n; simp [bev]
    | cons u y ih =>
      intro n
      unfold bev
      rw [List.foldl_cons, List.foldl_cons, ih, ih, List.length_cons, show 8 * (y.length + 1) = 8 + 8 * y.length by omega, Nat.pow_add, Nat.mul_zero, Nat.zero_add, Nat.add_mul, Nat.mul_comm 256 n, Nat.mul_assoc, Nat.add_assoc]
  unfold bev
  rw [List.foldl_append]
  exact key y _
theorem bev_cons (u : UInt8) (y : List UInt8) : bev (u :: y) = u.toNat * 2 ^ (8 * y.length) + bev y := by
  have := bev_app [u] y
  simpa [bev] using this
theorem bev_lex (p : List UInt8) (u v : UInt8) (r s : List UInt8) (hrs : r.length = s.length) (h : u.toNat < v.toNat) : bev (p ++ u :: r) < bev (p ++ v :: s) := by
  have hr := bev_lt r
  rw [bev_app, bev_app, bev_cons, bev_cons, List.length_cons, List.length_cons, ← hrs]
  have h1 : (u.toNat + 1) * 2 ^ (8 * r.length) ≤ v.toNat * 2 ^ (8 * r.length) := Nat.mul_le_mul_right _ h
  rw [Nat.succ_mul] at h1
  omega
theorem split_at {l : List UInt8} {i : Nat} (h : i < l.length) : l = l.take i ++ l[i] :: l.drop (i + 1) := by
  rw [List.getElem_cons_drop, List.take_append_drop]
theorem cmp_bev (x y : List UInt8) (h : x.length = y.length) : Extern.BytealgCompare.cmp ⟨x.toArray⟩ ⟨y.toArray⟩ = if bev x < bev y then -1 else if bev y < bev x then 1 else 0 := by
  have hg : ∀ (l : List UInt8) (j : Nat) (hj : j < l.length), (⟨l.toArray⟩ : ByteArray)[j]! = l[j] := fun l j hj => by
    rw [getElem!_pos _ _ (by simpa [ByteArray.size] using hj)]
    show l.toArray[j] = _
    simp
  unfold Extern.BytealgCompare.cmp
  have hsz : min (⟨x.toArray⟩ : ByteArray).size (⟨y.toArray⟩ : ByteArray).size = x.length := by simp [ByteArray.size, h]
  rw [hsz]
  cases hf : (List.range x.length).find? fun i => (⟨x.toArray⟩ : ByteArray)[i]! != (⟨y.toArray⟩ : ByteArray)[i]! with
  | none =>
    rw [List.find?_eq_none] at hf
    have hxy : x = y := by
      apply List.ext_getElem h
      intro i h1 h2
      have := hf i (by simpa using h1)
      rw [hg x i h1, hg y i h2] at this
      simpa using this
    subst hxy
    simp
  | some i =>
    obtain ⟨hp, hi, hlt⟩ := List.find?_range_eq_some.1 hf
    have hix : i < x.length := by simpa using hi
    have hiy : i < y.length := by omega
    have hpre : x.take i = y.take i := by
      apply List.ext_getElem (by simp; omega)
      intro j h1 h2
      have hj : j < i := by simp at h1; omega
      have := hlt j hj
      rw [hg x j (by omega), hg y j (by omega)] at this
      simpa using this
    rw [hg x i hix, hg y i hiy] at hp
    dsimp only
    rw [hg x i hix, hg y i hiy]
    have hne : x[i].toNat ≠ y[i].toNat := fun e => by
      have := UInt8.toNat_inj.1 e
      simp [this] at hp
    have ex := split_at hix
    have ey := split_at hiy
    rw [← hpre] at ey
    have hl : (x.drop (i + 1)).length = (y.drop (i + 1)).length := by simp [h]
    by_cases hc : x[i] < y[i]
    · have h1 := bev_lex (x.take i) x[i] y[i] _ _ hl (UInt8.lt_iff_toNat_lt.1 hc)
      rw [← ex, ← ey] at h1
      rw [if_pos hc, if_pos h1]
    · have h0 : ¬ x[i].toNat < y[i].toNat := fun e => hc (UInt8.lt_iff_toNat_lt.2 e)
      have h1 := bev_lex (x.take i) y[i] x[i] _ _ hl.symm (by omega)
      rw [← ex, ← ey] at h1
      rw [if_neg hc, if_neg (by omega), if_pos h1]
theorem row_bytes {P : Program} {w : World} {v : Value} {l : List UInt8} {n : Nat} (h : RowAt w 1 v n (ucs l)) : (Extern.Bytes.bytesOf v).run P w = .ok ⟨l.toArray⟩ w := by
  have hn : l.length = n := by have := h.len; rw [ucs_len] at this; omega
  rcases Nat.eq_zero_or_pos n with h0 | h0
  · subst h0
    obtain rfl : l = [] := List.length_eq_zero_iff.1 hn
    obtain ⟨p, c, rfl, _, _⟩ := h.form
    cases p <;> rfl
  · obtain ⟨b, off, c, cs, E', fr, rfl, hb, hx⟩ := h.pos h0
    have hl := Lib.run_loadBytesX (P := P) w (l.map fun u => (u.toNat : Int)) ⟨b, off, none⟩ .empty (fun j x hj => by
      rw [addr_add, cell_of hb]
      simp only [List.getElem?_map, Option.map_eq_some_iff] at hj
      obtain ⟨u, hu, rfl⟩ := hj
      exact cut_get hx (by rw [ucs_map]; simp [hu]))
    rw [List.length_map, hn] at hl
    show (Extern.Bytes.loadBytes ⟨b, off, none⟩ n .empty).run P w = _
    rw [hl]
    congr 1
    apply ByteArray.ext
    simp only [Lib.bytesOf, List.map_map]
    have : List.map ((fun n : Int => UInt8.ofNat n.toNat) ∘ fun u : UInt8 => (u.toNat : Int)) l = l := by
      conv => rhs; rw [← List.map_id l]
      apply List.map_congr_left
      intro u _
      simp
    rw [this]
    simp
def hexd (n : Nat) : UInt8 := UInt8.ofNat (if n < 10 then 48 + n else 87 + n)
theorem hexd_get : ∀ k, k < 16 → (⟨#[48, 49, 50, 51, 52, 53, 54, 55, 56, 57, 97, 98, 99, 100, 101, 102]⟩ : ByteArray)[k]? = some (hexd k) := by decide
def hexu (u : UInt8) : Option Nat := if 48 ≤ u.toNat ∧ u.toNat ≤ 57 then some (u.toNat - 48) else if 97 ≤ u.toNat ∧ u.toNat ≤ 102 then some (u.toNat - 87) else none
theorem hexu_lt {u : UInt8} {d : Nat} (h : hexu u = some d) : d < 16 := by
  unfold hexu at h
  split at h
  · simp only [Option.some.injEq] at h; omega
  · split at h
    · simp only [Option.some.injEq] at h; omega
    · cases h
theorem hexu_small {u : UInt8} {d : Nat} (h : hexu u = some d) : u.toNat < 128 := by
  unfold hexu at h
  split at h
  · omega
  · split at h
    · omega
    · cases h
theorem hexd_hexu {u : UInt8} {d : Nat} (h : hexu u = some d) : hexd d = u := by
  have hu := u.toNat_lt
  apply UInt8.toNat_inj.1
  unfold hexu at h
  unfold hexd
  rw [UInt8.toNat_ofNat']
  split at h
  · simp only [Option.some.injEq] at h; rw [if_pos (by omega)]; omega
  · split at h
    · simp only [Option.some.injEq] at h; rw [if_neg (by omega)]; omega
    · cases h
theorem hexu_hexd : ∀ d, d < 16 → hexu (hexd d) = some d := by decide
theorem hexd_zero : ∀ d, d < 16 → hexd d = 48 → d = 0 := by decide
def hexdigits : List UInt8 := [48, 49, 50, 51, 52, 53, 54, 55, 56, 57, 97, 98, 99, 100, 101, 102]
def hexi (c : Nat) : Int := match hexu (UInt8.ofNat c) with | some d => (d : Int) | none => -1
theorem hexi_idx : ∀ c : Nat, c < 256 → firstIdx ⟨hexdigits.toArray⟩ (c : Int).toNat.toUInt8 = hexi c := by decide +kernel
theorem indexByte_run (c : Nat) (hc : c < 256) (w : World) : (callFunc 80 #[sv hexdigits, .int .u8 (c : Int)]).run Tryd.prog w = .ok (.value (.int .i64 (hexi c))) w := by
  rw [run_callFunc_extern Tryd.func80 (by kernel_rfl) (by kernel_rfl) (by kernel_rfl) (e := Extern.BytealgIndexByte.indexByte) (by kernel_rfl), run_indexByte_string, hexi_idx c hc]
  rfl
theorem liteIndex_calls (c : Nat) (hc : c < 256) (w : World) : Calls Tryd.prog 71 #[sv hexdigits, .int .u8 (c : Int)] w (Ret w (.int .i64 (hexi c))) := by
  refine enter (args := [_, _]) _ [] [] Tryd.func71 rfl Tryd.ntmps71 rfl (by simp) .nil ?_
  (refine CW.seq ?_; refine CW.region ?_; apply LW.v0; rfl; rfl; apply ValP.assign; rfl; apply LW.nil; refine thenN ?_; refine CW.seq ?_; refine CW.region ?_; apply LW.v0; rfl; rfl; apply ValP.move; rfl; apply LW.v0; rfl; rfl; apply ValP.move; rfl; apply LW.v0; rfl; rfl; apply ValP.callX; rfl; apply ArgsOk.cons; rfl; apply ArgsOk.cons; rfl; exact ArgsOk.nil; exact indexByte_run _ (by assumption); apply LW.v0; rfl; rfl; apply ValP.assign; rfl; apply LW.nil; refine thenN ?_; refine CW.ret ?_)
  (apply finR; exact .inl rfl; rfl; rfl; rfl; apply ResL.cons; exact Res.tmp rfl; exact ResL.nil)
  rfl
theorem IndexByte_calls (c : Nat) (hc : c < 256) (w : World) : Calls Tryd.prog 63 #[sv hexdigits, .int .u8 (c : Int)] w (Ret w (.int .i64 (hexi c))) := by
  refine enter (args := [_, _]) _ [] [] Tryd.func63 rfl Tryd.ntmps63 rfl (by simp) .nil ?_
  (refine CW.seq ?_; refine CW.region ?_; apply LW.v0; rfl; rfl; apply ValP.assign; rfl; apply LW.nil; refine thenN ?_; refine CW.seq ?_; refine CW.region ?_; apply LW.v0; rfl; rfl; apply ValP.move; rfl; apply LW.v0; rfl; rfl; apply ValP.move; rfl; apply LW.callE; rfl; rfl; infer_instance; apply ArgsOk.cons; rfl; apply ArgsOk.cons; rfl; exact ArgsOk.nil; intro w _; exact liteIndex_calls _ (by assumption) w; apply LW.v0; rfl; rfl; apply ValP.assign; rfl; apply LW.nil; refine thenN ?_; refine CW.ret ?_)
  (apply finR; exact .inl rfl; rfl; rfl; rfl; apply ResL.cons; exact Res.tmp rfl; exact ResL.nil)
  rfl
theorem noEscape_run (v : Value) (w : World) : (callFunc 69 #[v]).run Tryd.prog w = .ok (.value v) w := by
  rw [run_callFunc_extern Tryd.func69 (by kernel_rfl) (by kernel_rfl) (by kernel_rfl) (e := Extern.AbiNoEscape.same) (by kernel_rfl), Lib.run_noEscape]
  rfl
theorem copyCheck_new (w0 : World) (S : List Nat) (b : Nat) (sv : Value) (fs : Fs) (w : World) (hs : St w0 S ((b, .cells #[.pointer none, sv] 81 (0, 0)) :: fs) w) :
    Calls Tryd.prog 61 #[.pointer (some ⟨b, 0, none⟩)] w (fun x w' => ∃ v fs', x = .returned v ∧ (v = .tuple #[] ∧ fs' = (b, .cells #[.pointer (some ⟨b, 0, none⟩), sv] 81 (0, 0)) :: fs) ∧ St w0 S fs' w') := by
  refine calls_inline (args := [_]) Tryd.func61 rfl Tryd.ntmps61 rfl ?_ hs
  (refine CW.seq ?_; refine CW.region ?_; apply LW.v0; rfl; rfl; apply ValP.move; rfl; apply LW.v0; rfl; rfl; apply ValP.nilCheck; rfl; apply LW.v0; rfl; rfl; apply ValP.fieldAddr; rfl; rfl; apply LW.load; rfl; rfl; apply Known.at; apply FsAt.head; exact Rd.one' rfl; apply LW.v0; rfl; rfl; apply ValP.ptrNilT; rfl; rfl; apply LW.nil; refine thenN ?_; apply CW.condT; rfl; (with_reducible rfl); refine CW.region ?_; apply LW.v0; rfl; rfl; apply ValP.move; rfl; apply LW.v0; rfl; rfl; apply ValP.move; rfl; apply LW.toUnsafe; rfl; rfl; apply Known.at; apply FsAt.head; rfl; rfl; apply LW.v0; rfl; rfl; apply ValP.callX; rfl; apply ArgsOk.cons; rfl; exact ArgsOk.nil; exact noEscape_run _; apply LW.fromUnsafe; rfl; rfl; apply Known.at; apply FsAt.head; kernel_rfl; apply LW.v0; rfl; rfl; apply ValP.nilCheck; rfl; apply LW.v0; rfl; rfl; apply ValP.fieldAddr; rfl; rfl; apply LW.store; rfl; rfl; apply SetAt.head; apply Wr.cells; rfl; rfl; simp only [wc, List.size_toArray, List.length_cons, List.length_nil]; omega; simp only [fillC, wc, wrCells, Value.cells, List.toList_toArray, List.setIfInBounds_toArray, List.set_cons_succ, List.set_cons_zero, Nat.reduceAdd, Nat.reduceMul, Nat.zero_add, Nat.mul_one]; rfl; apply LW.nil)
  apply inI
  (exact .inr rfl)
  (exact Shut.nil)
  rfl
  (exact ResL.nil)
  rfl
  exact ⟨rfl, rfl⟩
theorem copyCheck_used (w0 : World) (S : List Nat) (b : Nat) (sv : Value) (fs : Fs) (w : World) (hs : St w0 S ((b, .cells #[.pointer (some ⟨b, 0, none⟩), sv] 81 (0, 0)) :: fs) w) :
    Calls Tryd.prog 61 #[.pointer (some ⟨b, 0, none⟩)] w (fun x w' => ∃ v fs', x = .returned v ∧ (v = .tuple #[] ∧ fs' = (b, .cells #[.pointer (some ⟨b, 0, none⟩), sv] 81 (0, 0)) :: fs) ∧ St w0 S fs' w') := by
  refine calls_inline (args := [_]) Tryd.func61 rfl Tryd.ntmps61 rfl ?_ hs
  (refine CW.seq ?_; refine CW.region ?_; apply LW.v0; rfl; rfl; apply ValP.move; rfl; apply LW.v0; rfl; rfl; apply ValP.nilCheck; rfl; apply LW.v0; rfl; rfl; apply ValP.fieldAddr; rfl; rfl; apply LW.load; rfl; rfl; apply Known.at; apply FsAt.head; exact Rd.one' rfl; apply LW.v0; rfl; rfl; apply ValP.ptrNilF; rfl; rfl; apply LW.nil; refine thenN ?_; apply CW.condF; rfl; (with_reducible rfl); refine CW.seq ?_; refine CW.region ?_; apply LW.v0; rfl; rfl; apply ValP.move; rfl; apply LW.v0; rfl; rfl; apply ValP.nilCheck; rfl; apply LW.v0; rfl; rfl; apply ValP.fieldAddr; rfl; rfl; apply LW.load; rfl; rfl; apply Known.at; apply FsAt.head; exact Rd.one' rfl; apply LW.v0; rfl; rfl; apply ValP.move; rfl; apply LW.v0; rfl; rfl; apply ValP.ptrSame; rfl; rfl; apply LW.nil; refine thenN ?_; apply CW.condF; rfl; (with_reducible rfl); refine CW.skip ?_)
  apply inI
  (exact .inr rfl)
  (exact Shut.nil)
  rfl
  (exact ResL.nil)
  rfl
  exact ⟨rfl, rfl⟩
theorem copyCheck_calls (w0 : World) (S : List Nat) (b : Nat) (p sv : Value) (hp : p = .pointer none ∨ p = .pointer (some ⟨b, 0, none⟩)) (fs : Fs) (w : World) (hs : St w0 S ((b, .cells #[p, sv] 81 (0, 0)) :: fs) w) :
    Calls Tryd.prog 61 #[.pointer (some ⟨b, 0, none⟩)] w (fun x w' => ∃ v fs', x = .returned v ∧ (v = .tuple #[] ∧ fs' = (b, .cells #[.pointer (some ⟨b, 0, none⟩), sv] 81 (0, 0)) :: fs) ∧ St w0 S fs' w') := by
  rcases hp with rfl | rfl
  · exact copyCheck_new w0 S b sv fs w hs
  · exact copyCheck_used w0 S b sv fs w hs
theorem WriteByte_calls (w0 : World) (S : List Nat) (b : Nat) (p v : Value) (hp : p = .pointer none ∨ p = .pointer (some ⟨b, 0, none⟩)) (n c : Nat) (hn : n < 1000) (hc : c < 256) (xs : List Value) (seg fs : Fs) (hrow : IsRow 5 1 v n xs seg) (w : World) (hs : St w0 S ((b, .cells #[p, v] 81 (0, 0)) :: (seg ++ fs)) w) :
    Calls Tryd.prog 51 #[.pointer (some ⟨b, 0, none⟩), .int .u8 (c : Int)] w (fun x w' => ∃ y fs', x = .returned y ∧ (True ∧ ∃ v' seg', IsRow 5 1 v' (n + 1) (xs ++ [.int .u8 (c : Int)]) seg' ∧ fs' = (b, .cells #[.pointer (some ⟨b, 0, none⟩), v'] 81 (0, 0)) :: (seg' ++ fs)) ∧ St w0 S fs' w') := by
  refine calls_inline (args := [_, _]) Tryd.func51 rfl Tryd.ntmps51 rfl ?_ hs
  (refine CW.seq ?_; refine CW.region ?_; apply LW.v0; rfl; rfl; apply ValP.assign; rfl; apply LW.nil; refine thenN ?_; refine CW.seq ?_; refine CW.region ?_; apply LW.v0; rfl; rfl; apply ValP.move; rfl; apply LW.callSt; rfl; rfl; infer_instance; apply ArgsOk.cons; rfl; exact ArgsOk.nil; intro w hs; exact copyCheck_calls _ _ _ _ _ (by assumption) _ w hs; rintro v fs' ⟨rfl, rfl⟩; apply LW.nil; refine thenN ?_; refine CW.seq ?_; refine CW.region ?_; apply LW.v0; rfl; rfl; apply ValP.move; rfl; apply LW.v0; rfl; rfl; apply ValP.move; rfl; apply LW.v0; rfl; rfl; apply ValP.nilCheck; rfl; apply LW.v0; rfl; rfl; apply ValP.fieldAddr; rfl; rfl; apply LW.load; rfl; rfl; apply Known.at; apply FsAt.head; exact Rd.one' rfl; apply LW.v0; rfl; rfl; apply ValP.move; rfl; apply LW.lay1; rfl; infer_instance; infer_instance; rfl; rfl; rfl; rfl; rfl; rfl; intro _)
  (apply LW.append; rfl; rfl; infer_instance; infer_instance; infer_instance; rfl; rfl; rfl; (case hrow => assumption); apply AtSeg.cons; apply AtSeg.cons; exact AtSeg.head; apply Known.at; apply FsAt.head; rfl; rfl; rfl; omega; simp only [maxLen]; omega; omega; intro v' seg' hrow'; obtain ⟨p', c', rfl⟩ := hrow'.form; (refine ⟨_, (by (repeat (first | exact AtSeg.head | apply AtSeg.cons | apply AtSeg.app))), ?_⟩); (try simp only [List.cons_append, List.nil_append]))
  (apply LW.drop; exact List.Sublist.cons _ (List.Sublist.refl _))
  (apply LW.v0; rfl; rfl; apply ValP.nilCheck; rfl; apply LW.v0; rfl; rfl; apply ValP.fieldAddr; rfl; rfl; apply LW.store; rfl; rfl; apply SetAt.head; apply Wr.cells; rfl; rfl; simp only [wc, List.size_toArray, List.length_cons, List.length_nil]; omega; simp only [fillC, wc, wrCells, Value.cells, List.toList_toArray, List.setIfInBounds_toArray, List.set_cons_succ, List.set_cons_zero, Nat.reduceAdd, Nat.reduceMul, Nat.zero_add, Nat.mul_one]; rfl; apply LW.nil; refine thenN ?_; refine CW.seq ?_; refine CW.region ?_; apply LW.v0; rfl; rfl; apply ValP.assign; rfl; apply LW.nil; refine thenN ?_; refine CW.ret ?_)
  apply inI
  (exact .inl rfl)
  (exact Shut.nil)
  rfl
  (apply ResL.cons; exact Res.tmp rfl; exact ResL.nil)
  rfl
  exact ⟨trivial, _, _, hrow', rfl⟩
theorem String_calls (w0 : World) (S : List Nat) (b : Nat) (p v : Value) (n : Nat) (hn : n < 1000) (h0 : 0 < n) (l : List UInt8) (xs : List Value) (hx : xs = l.map fun u => .int .u8 u.toNat) (seg fs : Fs) (hrow : IsRow 5 1 v n xs seg) (w : World) (hs : St w0 S ((b, .cells #[p, v] 81 (0, 0)) :: (seg ++ fs)) w) :
    Calls Tryd.prog 52 #[.pointer (some ⟨b, 0, none⟩)] w (fun x w' => ∃ y fs', x = .returned y ∧ (y = .string ⟨l.toArray⟩ ∧ fs' = fs) ∧ St w0 S fs' w') := by
  refine calls_inline (args := [_]) Tryd.func52 rfl Tryd.ntmps52 rfl ?_ hs
  cases hrow with
  | nil => cases h0
  | @own g _ cap cur _ hle hmx hc ht hl =>
    try simp only [List.cons_append, List.nil_append]
    have hsz : l.length = n := by rw [hx, List.length_map] at hl; omega
    subst hsz
    (refine CW.seq ?_; refine CW.region ?_; apply LW.v0; rfl; rfl; apply ValP.assign; rfl; apply LW.nil; refine thenN ?_; refine CW.seq ?_; apply CW.pre; refine AnyW.any 10 mixed (by decide +kernel) ?_; (try simp only [tsOf_cons, tsOf_nil, tsOf_app]); apply DW.v0; rfl; rfl; rfl; exact WantT.none; rfl; apply ValP.move; rfl; apply DW.v0; rfl; rfl; rfl; exact WantT.none; rfl; apply ValP.nilCheck; rfl; apply DW.v0; rfl; rfl; rfl; exact WantT.none; rfl; apply ValP.fieldAddr; rfl; rfl; apply DW.loadO; rfl; rfl; rfl; exact WantT.none; rfl; apply TRead.head; exact ancB_nil; exact Rd.one' rfl; apply DW.sliceData; rfl; rfl; rfl; exact WantT.none; rfl; omega; apply TRead.tail; apply TRead.head; exact ancB_nil; apply DW.v0; rfl; rfl; rfl; exact WantT.none; rfl; apply ValP.move; rfl; apply DW.v0; rfl; rfl; rfl; exact WantT.none; rfl; apply ValP.nilCheck; rfl; apply DW.v0; rfl; rfl; rfl; exact WantT.none; rfl; apply ValP.fieldAddr; rfl; rfl; apply DW.loadO; rfl; rfl; rfl; exact WantT.none; rfl; apply TRead.head; exact ancB_nil; exact Rd.one' rfl; apply DW.v0; rfl; rfl; rfl; exact WantT.none; rfl; apply ValP.lenR; rfl; infer_instance; rfl; apply DW.nil; simp only [fsOf_cons, fsOf_nil, fsOf_app, fsOf_tsOf, fsOf_new])
    apply LW.unsafeString
    rfl
    infer_instance
    rfl
    rfl
    rfl
    rfl
    · intro h; rw [h] at h0; cases h0
    · omega
    case hset => (apply SetAt.tail; apply SetAt.head)
    · intro j u hj
      have h2 := congrArg (·[j]?) (ht.trans hx)
      simp only [List.getElem?_map, hj, Option.map_some, Nat.mul_one] at h2
      rw [List.getElem?_take] at h2
      split at h2
      · simpa using h2
      · cases h2
    refine LW.drop fs (by (apply List.Sublist.cons; apply List.Sublist.cons; exact List.Sublist.refl _)) ?_
    (apply LW.v0; rfl; rfl; apply ValP.assign; rfl; apply LW.nil; refine thenN ?_; refine CW.ret ?_)
    apply inI
    (exact .inl rfl)
    (exact Shut.nil)
    rfl
    (apply ResL.cons; exact Res.tmp rfl; exact ResL.nil)
    rfl
    exact ⟨rfl, rfl⟩
end Go.Proofs.YtbhicncgjplnoaaDoor

/-
  Strings searched, and cut at blanks.
  Conditions: none.
-/
namespace Go.Proofs.YtbhicncgjplnoaaDoor
open Go Go.RowKit SL
set_option maxRecDepth 8000
set_option maxHeartbeats 4000000
set_option linter.unusedSimpArgs false
set_option linter.unusedVariables false
attribute [local irreducible] SL.CW SL.LW SL.DW Calls SL.Ret SL.RetG SL.beginQ SL.roundQ SL.rangeQ SL.inQ SL.RW SL.AnyW SL.thenQ SL.thenC SL.thenW SL.blkQ SL.finQ SL.ValP SL.NewP SL.SetP SL.CallP SL.Rd SL.Wr SL.Known
theorem u8_of (c : Nat) : (((c : Int)).toNat).toUInt8 = UInt8.ofNat c := by rw [Int.toNat_natCast]
theorem idxString_run (l : List UInt8) (c : Nat) (w : World) : (callFunc 80 #[sv l, .int .u8 (c : Int)]).run Tryd.prog w = .ok (.value (.int .i64 (Lib.indexByte l (UInt8.ofNat c)))) w := by
  rw [run_callFunc_extern Tryd.func80 (by kernel_rfl) (by kernel_rfl) (by kernel_rfl) (e := Extern.BytealgIndexByte.indexByte) (by kernel_rfl), Lib.run_indexByteString, u8_of]
  rfl
theorem cntString_run (l : List UInt8) (c : Nat) (w : World) : (callFunc 66 #[sv l, .int .u8 (c : Int)]).run Tryd.prog w = .ok (.value (.int .i64 (l.count (UInt8.ofNat c) : Nat))) w := by
  rw [run_callFunc_extern Tryd.func66 (by kernel_rfl) (by kernel_rfl) (by kernel_rfl) (e := Extern.BytealgCount.count) (by kernel_rfl), Lib.run_countString, u8_of]
  rfl
theorem liteIdx_calls (l : List UInt8) (c : Nat) (w : World) : Calls Tryd.prog 71 #[sv l, .int .u8 (c : Int)] w (Ret w (.int .i64 (Lib.indexByte l (UInt8.ofNat c)))) := by
  refine enter (args := [_, _]) _ [] [] Tryd.func71 rfl Tryd.ntmps71 rfl (by simp) .nil ?_
  (refine CW.seq ?_; refine CW.region ?_; apply LW.v0; rfl; rfl; apply ValP.assign; rfl; apply LW.nil; refine thenN ?_; refine CW.seq ?_; refine CW.region ?_; apply LW.v0; rfl; rfl; apply ValP.move; rfl; apply LW.v0; rfl; rfl; apply ValP.move; rfl; apply LW.v0; rfl; rfl; apply ValP.callX; rfl; apply ArgsOk.cons; rfl; apply ArgsOk.cons; rfl; exact ArgsOk.nil; exact idxString_run _ _; apply LW.v0; rfl; rfl; apply ValP.assign; rfl; apply LW.nil; refine thenN ?_; refine CW.ret ?_)
  (apply finR; exact .inl rfl; rfl; rfl; rfl; apply ResL.cons; exact Res.tmp rfl; exact ResL.nil)
  rfl
theorem IdxByte_calls (l : List UInt8) (c : Nat) (w : World) : Calls Tryd.prog 63 #[sv l, .int .u8 (c : Int)] w (Ret w (.int .i64 (Lib.indexByte l (UInt8.ofNat c)))) := by
  refine enter (args := [_, _]) _ [] [] Tryd.func63 rfl Tryd.ntmps63 rfl (by simp) .nil ?_
  (refine CW.seq ?_; refine CW.region ?_; apply LW.v0; rfl; rfl; apply ValP.assign; rfl; apply LW.nil; refine thenN ?_; refine CW.seq ?_; refine CW.region ?_; apply LW.v0; rfl; rfl; apply ValP.move; rfl; apply LW.v0; rfl; rfl; apply ValP.move; rfl; apply LW.callE; rfl; rfl; infer_instance; apply ArgsOk.cons; rfl; apply ArgsOk.cons; rfl; exact ArgsOk.nil; intro w _; exact liteIdx_calls _ _ w; apply LW.v0; rfl; rfl; apply ValP.assign; rfl; apply LW.nil; refine thenN ?_; refine CW.ret ?_)
  (apply finR; exact .inl rfl; rfl; rfl; rfl; apply ResL.cons; exact Res.tmp rfl; exact ResL.nil)
  rfl
theorem liteIndexS_calls (l : List UInt8) (w : World) : Calls Tryd.prog 67 #[sv l, sv [32]] w (Ret w (.int .i64 (Lib.indexByte l 32))) := by
  have hI := liteIdx_calls l 32
  have h32 : ([32] : List UInt8)[0]? = some 32 := rfl
  have hl1 : (([32] : List UInt8).length : Int) = 1 := rfl
  obtain ⟨B, hB⟩ : ∃ B : List UInt8, [32] = B := ⟨_, rfl⟩
  rw [hB] at h32 hl1 ⊢
  by_cases h : B = l
  · have hz : Lib.indexByte l 32 = 0 := by rw [← h, ← hB]; rfl
    rw [hz]
    have he : (⟨B.toArray⟩ : ByteArray) = ⟨l.toArray⟩ := by rw [h]
    refine enter (args := [_, _]) _ [] [] Tryd.func67 rfl Tryd.ntmps67 rfl (by simp) .nil ?_
    (refine CW.seq ?_; refine CW.region ?_; apply LW.v0; rfl; rfl; apply ValP.assign; rfl; apply LW.nil; refine thenN ?_; refine CW.seq ?_; refine CW.region ?_; apply LW.v0; rfl; rfl; apply ValP.move; rfl; apply LW.v0; rfl; rfl; apply ValP.lenStr; rfl; infer_instance; rfl; apply LW.v0; rfl; rfl; apply ValP.assign; rfl; apply LW.nil; refine thenN ?_; refine CW.seq ?_; refine CW.block ?_; refine CW.seq ?_; refine CW.region ?_; apply LW.v0; rfl; rfl; apply ValP.move; rfl; apply LW.v0; rfl; rfl; apply ValP.eqF; rfl; rfl; omega; apply LW.v0; rfl; rfl; apply ValP.move; rfl; apply LW.guardT'; rfl; rfl; (with_reducible rfl); apply LW.v0; rfl; rfl; apply ValP.move; rfl; apply LW.guardT'; rfl; rfl; (with_reducible rfl); apply LW.v0; rfl; rfl; apply ValP.move; rfl; apply LW.guardT'; rfl; rfl; (with_reducible rfl); apply LW.v0; rfl; rfl; apply ValP.strEqT; rfl; rfl; assumption; apply LW.v0; rfl; rfl; apply ValP.pickF'; rfl; (with_reducible rfl); rfl; apply LW.v0; rfl; rfl; apply ValP.assign; rfl; apply LW.nil; refine thenN ?_; apply CW.condT; rfl; (with_reducible rfl); refine CW.seq ?_; refine CW.region ?_; apply LW.v0; rfl; rfl; apply ValP.assign; rfl; apply LW.nil; refine thenN ?_; refine CW.ret ?_; refine blkR ?_; refine thenR ?_)
    (apply finR; exact .inl rfl; rfl; rfl; rfl; apply ResL.cons; exact Res.tmp rfl; exact ResL.nil)
    rfl
  · have hne := sv_inj h
    refine enter (args := [_, _]) _ [] [] Tryd.func67 rfl Tryd.ntmps67 rfl (by simp) .nil ?_
    (refine CW.seq ?_; refine CW.region ?_; apply LW.v0; rfl; rfl; apply ValP.assign; rfl; apply LW.nil; refine thenN ?_; refine CW.seq ?_; refine CW.region ?_; apply LW.v0; rfl; rfl; apply ValP.move; rfl; apply LW.v0; rfl; rfl; apply ValP.lenStr; rfl; infer_instance; rfl; apply LW.v0; rfl; rfl; apply ValP.assign; rfl; apply LW.nil; refine thenN ?_; refine CW.seq ?_; refine CW.block ?_; refine CW.seq ?_; refine CW.region ?_; apply LW.v0; rfl; rfl; apply ValP.move; rfl; apply LW.v0; rfl; rfl; apply ValP.eqF; rfl; rfl; omega; apply LW.v0; rfl; rfl; apply ValP.move; rfl; apply LW.guardT'; rfl; rfl; (with_reducible rfl); apply LW.v0; rfl; rfl; apply ValP.move; rfl; apply LW.guardT'; rfl; rfl; (with_reducible rfl); apply LW.v0; rfl; rfl; apply ValP.move; rfl; apply LW.guardT'; rfl; rfl; (with_reducible rfl); apply LW.v0; rfl; rfl; apply ValP.strEqF; rfl; rfl; assumption; apply LW.v0; rfl; rfl; apply ValP.pickF'; rfl; (with_reducible rfl); rfl; apply LW.v0; rfl; rfl; apply ValP.assign; rfl; apply LW.nil; refine thenN ?_; apply CW.condF; rfl; (with_reducible rfl); refine CW.seq ?_; refine CW.region ?_; apply LW.v0; rfl; rfl; apply ValP.move; rfl; apply LW.v0; rfl; rfl; apply ValP.eqT; rfl; rfl; omega; apply LW.v0; rfl; rfl; apply ValP.assign; rfl; apply LW.nil; refine thenN ?_; apply CW.condT; rfl; (with_reducible rfl); refine CW.seq ?_; refine CW.region ?_; apply LW.v0; rfl; rfl; apply ValP.move; rfl; apply LW.v0; rfl; rfl; apply ValP.move; rfl; apply LW.v0; rfl; rfl; apply ValP.indexSv; infer_instance; rfl; rfl; rfl; assumption; apply LW.callE; rfl; rfl; infer_instance; apply ArgsOk.cons; rfl; apply ArgsOk.cons; rfl; exact ArgsOk.nil; intro w _; exact hI w; apply LW.v0; rfl; rfl; apply ValP.assign; rfl; apply LW.nil; refine thenN ?_; refine CW.ret ?_; refine blkR ?_; refine thenR ?_)
    (apply finR; exact .inl rfl; rfl; rfl; rfl; apply ResL.cons; exact Res.tmp rfl; exact ResL.nil)
    rfl
theorem Index_calls (l : List UInt8) (w : World) : Calls Tryd.prog 59 #[sv l, sv [32]] w (Ret w (.int .i64 (Lib.indexByte l 32))) := by
  refine enter (args := [_, _]) _ [] [] Tryd.func59 rfl Tryd.ntmps59 rfl (by simp) .nil ?_
  (refine CW.seq ?_; refine CW.region ?_; apply LW.v0; rfl; rfl; apply ValP.assign; rfl; apply LW.nil; refine thenN ?_; refine CW.seq ?_; refine CW.region ?_; apply LW.v0; rfl; rfl; apply ValP.move; rfl; apply LW.v0; rfl; rfl; apply ValP.move; rfl; apply LW.callE; rfl; rfl; infer_instance; apply ArgsOk.cons; rfl; apply ArgsOk.cons; rfl; exact ArgsOk.nil; intro w _; exact liteIndexS_calls _ w; apply LW.v0; rfl; rfl; apply ValP.assign; rfl; apply LW.nil; refine thenN ?_; refine CW.ret ?_)
  (apply finR; exact .inl rfl; rfl; rfl; rfl; apply ResL.cons; exact Res.tmp rfl; exact ResL.nil)
  rfl
theorem Count_calls (l : List UInt8) (w : World) : Calls Tryd.prog 58 #[sv l, sv [32]] w (Ret w (.int .i64 (l.count 32 : Nat))) := by
  have h32 : ([32] : List UInt8)[0]? = some 32 := rfl
  have hl1 : (([32] : List UInt8).length : Int) = 1 := rfl
  have hX := fun w => cntString_run l 32 w
  obtain ⟨B, hB⟩ : ∃ B : List UInt8, [32] = B := ⟨_, rfl⟩
  rw [hB] at h32 hl1 ⊢
  refine enter (args := [_, _]) _ [] [] Tryd.func58 rfl Tryd.ntmps58 rfl (by simp) .nil ?_
  (refine CW.seq ?_; refine CW.region ?_; apply LW.v0; rfl; rfl; apply ValP.assign; rfl; apply LW.nil; refine thenN ?_; refine CW.seq ?_; refine CW.seq ?_; refine CW.region ?_; apply LW.v0; rfl; rfl; apply ValP.move; rfl; apply LW.v0; rfl; rfl; apply ValP.lenStr; rfl; infer_instance; rfl; apply LW.v0; rfl; rfl; apply ValP.eqF; rfl; rfl; omega; apply LW.nil; refine thenN ?_; apply CW.condF; rfl; (with_reducible rfl); refine CW.skip ?_; refine thenN ?_; refine CW.seq ?_; refine CW.seq ?_; refine CW.region ?_; apply LW.v0; rfl; rfl; apply ValP.move; rfl; apply LW.v0; rfl; rfl; apply ValP.lenStr; rfl; infer_instance; rfl; apply LW.v0; rfl; rfl; apply ValP.eqT; rfl; rfl; omega; apply LW.nil; refine thenN ?_; apply CW.condT; rfl; (with_reducible rfl); refine CW.seq ?_; refine CW.region ?_; apply LW.v0; rfl; rfl; apply ValP.move; rfl; apply LW.v0; rfl; rfl; apply ValP.move; rfl; apply LW.v0; rfl; rfl; apply ValP.indexSv; infer_instance; rfl; rfl; rfl; assumption; apply LW.v0; rfl; rfl; apply ValP.callX; rfl; apply ArgsOk.cons; rfl; apply ArgsOk.cons; rfl; exact ArgsOk.nil; exact hX; apply LW.v0; rfl; rfl; apply ValP.assign; rfl; apply LW.nil; refine thenN ?_; refine CW.ret ?_; refine thenR ?_)
  (apply finR; exact .inl rfl; rfl; rfl; rfl; apply ResL.cons; exact Res.tmp rfl; exact ResL.nil)
  rfl
/-- A text cut at its blanks. -/
def spl : List UInt8 → List (List UInt8)
  | [] => [[]]
  | u :: r => if u = 32 then [] :: spl r else match spl r with | [] => [[u]] | p :: ps => (u :: p) :: ps
theorem spl_ne : ∀ s, spl s ≠ []
  | [] => by simp [spl]
  | u :: r => by
    unfold spl
    split
    · simp
    · split <;> simp
theorem spl_len : ∀ s : List UInt8, (spl s).length = s.count 32 + 1
  | [] => rfl
  | u :: r => by
    have ih := spl_len r
    unfold spl
    split
    · rename_i h; subst h; simp [ih]
    · rename_i h
      have hc : (u :: r).count 32 = r.count 32 := List.count_cons_of_ne h
      rw [hc, ← ih]
      split
      · rename_i he; exact absurd he (spl_ne r)
      · rename_i p ps he; rw [he]; rfl
theorem spl_hit : ∀ (s : List UInt8) (i : Nat), Lib.indexByte s 32 = (i : Int) → i < s.length ∧ spl s = s.take i :: spl (s.drop (i + 1))
  | [], i, h => by simp only [Lib.indexByte] at h; omega
  | u :: r, i, h => by
    unfold Lib.indexByte at h
    by_cases hu : u = 32
    · subst hu
      simp at h
      have h0 : i = 0 := by omega
      subst h0
      exact ⟨by simp, by simp [spl]⟩
    · rw [if_neg (by simpa using hu)] at h
      split at h
      · omega
      · rename_i hn
        have hge := Lib.indexByte_ge r 32
        have hn' : Lib.indexByte r 32 ≠ -1 := by simpa using hn
        obtain ⟨j, hj⟩ : ∃ j : Nat, Lib.indexByte r 32 = (j : Int) := ⟨(Lib.indexByte r 32).toNat, by omega⟩
        obtain ⟨h1, h2⟩ := spl_hit r j hj
        have hi : i = j + 1 := by omega
        subst hi
        refine ⟨by simp; omega, ?_⟩
        rw [spl, if_neg hu, h2]
        simp
theorem spl_miss : ∀ s : List UInt8, Lib.indexByte s 32 < 0 → spl s = [s]
  | [], _ => rfl
  | u :: r, h => by
    unfold Lib.indexByte at h
    by_cases hu : u = 32
    · subst hu; simp at h
    · rw [if_neg (by simpa using hu)] at h
      have hge := Lib.indexByte_ge r 32
      have ih := spl_miss r (by split at h <;> rename_i hh <;> simp at hh <;> omega)
      rw [spl, if_neg hu, ih]
theorem spl_none (s : List UInt8) (h : (spl s).length = 1) : spl s = [s] := by
  apply spl_miss
  rcases Int.lt_or_le (Lib.indexByte s 32) 0 with h1 | h1
  · exact h1
  · obtain ⟨i, hi⟩ : ∃ i : Nat, Lib.indexByte s 32 = (i : Int) := ⟨_, (Int.toNat_of_nonneg h1).symm⟩
    have h2 := (spl_hit s i hi).2
    rw [h2, List.length_cons] at h
    have h3 : (spl (s.drop (i + 1))).length = 0 := by omega
    exact absurd (List.length_eq_zero_iff.1 h3) (spl_ne _)
end Go.Proofs.YtbhicncgjplnoaaDoor

/-
  strings.Split at blanks, HasPrefix of a point.
  Conditions: none.
-/
namespace Go.Proofs.YtbhicncgjplnoaaDoor
open Go Go.RowKit SL
set_option maxRecDepth 8000
set_option maxHeartbeats 4000000
set_option linter.unusedSimpArgs false
set_option linter.unusedVariables false
attribute [local irreducible] SL.CW SL.LW SL.DW Calls SL.Ret SL.RetG SL.beginQ SL.roundQ SL.rangeQ SL.inQ SL.RW SL.AnyW SL.thenQ SL.thenC SL.thenW SL.blkQ SL.finQ SL.ValP SL.NewP SL.SetP SL.CallP SL.Rd SL.Wr SL.Known
structure SX where
  k : Nat
  r : List UInt8
  seg : Fs
/-- The pieces laid so far, then empty texts. -/
def splC (L : List (List UInt8)) (k : Nat) : List (List UInt8) := L.take k ++ List.replicate (L.length - k) []
theorem scs_app (a b : List (List UInt8)) : scs (a ++ b) = scs a ++ scs b := by simp [scs]
theorem scs_len (l : List (List UInt8)) : (scs l).length = l.length := by
  induction l with
  | nil => rfl
  | cons a l ih => show (scs l).length + 1 = _; rw [ih]; rfl
theorem scs_map (l : List (List UInt8)) : scs l = l.map sv := by
  induction l with
  | nil => rfl
  | cons a l ih => rw [List.map_cons, ← ih]; rfl
theorem scs_take (l : List (List UInt8)) (k : Nat) : (scs l).take (k * 1) = scs (l.take k) := by rw [scs_map, scs_map, Nat.mul_one, List.map_take]
theorem scs_drop (l : List (List UInt8)) (k : Nat) : (scs l).drop (k * 1) = scs (l.drop k) := by rw [scs_map, scs_map, Nat.mul_one, List.map_drop]
theorem splC_len (L : List (List UInt8)) (k : Nat) (h : k ≤ L.length) : (splC L k).length = L.length := by simp [splC]; omega
theorem splC_step (L : List (List UInt8)) (k : Nat) (x : List UInt8) (h : k < L.length) (hx : L[k]? = some x) : scs ((splC L k).take k) ++ [sv x] ++ scs ((splC L k).drop (k + 1)) = scs (splC L (k + 1)) := by
  have h1 : (L.take k).length = k := by simp; omega
  have e1 : (splC L k).take k = L.take k := by unfold splC; rw [List.take_append_of_le_length (by omega), List.take_of_length_le (by omega)]
  have e2 : (splC L k).drop (k + 1) = List.replicate (L.length - (k + 1)) [] := by
    unfold splC
    rw [List.drop_append, h1, List.drop_eq_nil_of_le (by omega), List.nil_append, List.drop_replicate]
    congr 1; omega
  obtain ⟨hk, hv⟩ := List.getElem?_eq_some_iff.1 hx
  rw [e1, e2, show [sv x] = scs [x] from rfl, ← scs_app, ← scs_app]
  unfold splC
  rw [List.take_succ_eq_append_getElem hk, hv]
def SplR (s : List UInt8) (v : Value) (gs : Fs) : Prop := IsRow 9 1 v (spl s).length (scs (spl s)) gs
theorem genSplit_calls (s : List UInt8) (hs : s.length ≤ 100000) (w : World) : Calls Tryd.prog 47 #[sv s, sv [32], .int .i64 0, .int .i64 (-1)] w (RetG w [] (SplR s)) := by
  have hCnt := Count_calls s
  have hlen := spl_len s
  have hc1 : s.count 32 ≤ s.length := List.count_le_length
  have hne : (⟨([32] : List UInt8).toArray⟩ : ByteArray) ≠ ⟨#[]⟩ := by decide
  have hl1 : (([32] : List UInt8).length : Int) = 1 := rfl
  obtain ⟨n, hn⟩ : ∃ n, s.count 32 = n := ⟨_, rfl⟩
  rw [hn] at hCnt hlen hc1
  refine enter (args := [_, _, _, _]) _ [] [] Tryd.func47 rfl Tryd.ntmps47 rfl (by simp) .nil ?_
  (refine CW.seq ?_; refine CW.region ?_; apply LW.v0; rfl; rfl; apply ValP.assign; rfl; apply LW.nil; refine thenN ?_; refine CW.seq ?_; refine CW.seq ?_; refine CW.region ?_; apply LW.v0; rfl; rfl; apply ValP.move; rfl; apply LW.v0; rfl; rfl; apply ValP.eqF; rfl; rfl; omega; apply LW.nil; refine thenN ?_; apply CW.condF; rfl; (with_reducible rfl); refine CW.skip ?_; refine thenN ?_; refine CW.seq ?_; refine CW.seq ?_; refine CW.region ?_; apply LW.v0; rfl; rfl; apply ValP.move; rfl; apply LW.v0; rfl; rfl; apply ValP.strEqF; rfl; rfl; assumption; apply LW.nil; refine thenN ?_; apply CW.condF; rfl; (with_reducible rfl); refine CW.skip ?_; refine thenN ?_; refine CW.seq ?_; refine CW.seq ?_; refine CW.region ?_; apply LW.v0; rfl; rfl; apply ValP.move; rfl; apply LW.v0; rfl; rfl; apply ValP.lssT; rfl; rfl; omega; apply LW.nil; refine thenN ?_; apply CW.condT; rfl; (with_reducible rfl); refine CW.region ?_; apply LW.v0; rfl; rfl; apply ValP.move; rfl; apply LW.v0; rfl; rfl; apply ValP.move; rfl; apply LW.callE; rfl; rfl; infer_instance; apply ArgsOk.cons; rfl; apply ArgsOk.cons; rfl; exact ArgsOk.nil; intro w _; exact hCnt w; apply LW.v0; rfl; rfl; apply ValP.addZL; rfl; rfl; decide; omega; apply LW.v0; rfl; rfl; apply ValP.assign; rfl; apply LW.nil; refine thenN ?_; refine CW.seq ?_; refine CW.region ?_; apply LW.v0; rfl; rfl; apply ValP.move; rfl; apply LW.v0; rfl; rfl; apply ValP.move; rfl; apply LW.v0; rfl; rfl; apply ValP.lenStr; rfl; infer_instance; rfl; apply LW.v0; rfl; rfl; apply ValP.addZL; rfl; rfl; decide; omega; apply LW.v0; rfl; rfl; apply ValP.minZ; rfl; rfl; apply LW.v0; rfl; rfl; apply ValP.assign; rfl; apply LW.nil; refine thenN ?_; refine CW.seq ?_; refine CW.region ?_; apply LW.v0; rfl; rfl; apply ValP.move; rfl)
  rw [show min (n + 1) (s.length + 1) = n + 1 by omega]
  refine LW.makeRow (n := n + 1) rfl inferInstance inferInstance inferInstance rfl rfl (by omega) (by simp only [maxLen]; omega) ?_
  intro v0 seg0 hrow0
  obtain ⟨p0, c0, rfl⟩ := hrow0.form
  have hz : List.replicate (n + 1) (sv []) = scs (splC (spl s) 0) := by
    rw [scs_map, splC, List.take_zero, List.nil_append, hlen, Nat.sub_zero, List.map_replicate]
  rw [hz] at hrow0
  (apply LW.v0; rfl; rfl; apply ValP.assign; rfl; apply LW.nil; refine thenN ?_; refine CW.seq ?_; refine CW.region ?_; apply LW.v0; rfl; rfl; apply ValP.move; rfl; apply LW.v0; rfl; rfl; apply ValP.subZL; rfl; rfl; decide; omega; omega; apply LW.v0; rfl; rfl; apply ValP.assign; rfl; apply LW.nil; refine thenN ?_; refine CW.seq ?_; refine CW.region ?_; apply LW.v0; rfl; rfl; apply ValP.assign; rfl; apply LW.nil; refine thenN ?_; refine CW.seq ?_; refine CW.block ?_)
  rw [show n + 1 - 1 = n by omega]
  refine CW.loop (fun x : SX => ([(0, sv x.r), (1, sv [32]), (2, .int .i64 0), (3, .int .i64 (n : Int)), (9, .slice p0 (n + 1) c0), (10, .int .i64 (x.k : Int))], x.seg ++ []))
    (fun x => x.k ≤ n ∧ x.r.length ≤ s.length ∧ spl x.r = (spl s).drop x.k ∧ IsRow 9 1 (.slice p0 (n + 1) c0) (n + 1) (scs (splC (spl s) x.k)) x.seg) (fun x => n - x.k) ⟨0, s, seg0⟩
    ⟨Nat.zero_le _, Nat.le_refl _, rfl, hrow0⟩ ⟨rfl, rfl, rfl, rfl, rfl, rfl, trivial⟩ (List.Sublist.refl _) ?_
  rintro ⟨k, r, seg⟩ ⟨hk, hrl, hsp, hrow⟩
  dsimp only at hk hrl hsp hrow ⊢
  have hrk := congrArg List.length hsp
  rw [List.length_drop, hlen] at hrk
  obtain ⟨g, cur, rfl, rfl, hc1', hmx, hsz, ht⟩ := hrow.pos (by omega)
  have hkn : k < n + 1 := by omega
  rcases Nat.lt_or_ge k n with hlt | hge
  · have hnm : ¬ Lib.indexByte r 32 < 0 := fun h => by
      rw [spl_miss r h] at hrk
      simp at hrk
      omega
    obtain ⟨i, hi⟩ : ∃ i : Nat, Lib.indexByte r 32 = (i : Int) := ⟨_, (Int.toNat_of_nonneg (by omega)).symm⟩
    obtain ⟨hil, hcut⟩ := spl_hit r i hi
    have hIx : ∀ w, Calls Tryd.prog 59 #[sv r, sv [32]] w (Ret w (.int .i64 (i : Int))) := fun w => by rw [← hi]; exact Index_calls r w
    have hx : (spl s)[k]? = some (r.take i) := by
      have : (spl r)[0]? = ((spl s).drop k)[0]? := by rw [hsp]
      rw [hcut, List.getElem?_drop] at this
      simpa using this.symm
    have hsp2 : spl (r.drop (i + 1)) = (spl s).drop (k + 1) := by
      have : (spl r).drop 1 = ((spl s).drop k).drop 1 := by rw [hsp]
      rw [hcut, List.drop_drop] at this
      simpa using this
    obtain ⟨w1, w2⟩ := wr_take (i := k) (vs := [sv (r.take i)]) ht rfl hkn (by omega)
    rw [scs_take, scs_drop, splC_step _ _ _ (by omega) hx] at w1
    have hW : Wr Tryd.prog 9 (.cells cur 9 (0, 0)) (0 + k * 1) (sv (r.take i)) (.cells (wrCells cur (k * 1) [sv (r.take i)]) 9 (0, 0)) := Wr.cells rfl rfl (by rw [hsz]; show 0 + k * 1 + 1 ≤ c0 * 1; omega) (by rw [Nat.zero_add]; rfl)
    (refine CW.seq ?_; refine CW.seq ?_; refine CW.region ?_; apply LW.v0; rfl; rfl; apply ValP.move; rfl; apply LW.v0; rfl; rfl; apply ValP.move; rfl; apply LW.v0; rfl; rfl; apply ValP.lssT; rfl; rfl; omega; apply LW.nil; refine thenN ?_; apply CW.condT; rfl; (with_reducible rfl); refine CW.skip ?_; refine thenN ?_; refine CW.block ?_; refine CW.seq ?_; refine CW.region ?_; apply LW.v0; rfl; rfl; apply ValP.move; rfl; apply LW.v0; rfl; rfl; apply ValP.move; rfl; apply LW.callE; rfl; rfl; infer_instance; apply ArgsOk.cons; rfl; apply ArgsOk.cons; rfl; exact ArgsOk.nil; intro w _; exact hIx w; apply LW.v0; rfl; rfl; apply ValP.assign; rfl; apply LW.nil; refine thenN ?_; refine CW.seq ?_; refine CW.seq ?_; refine CW.region ?_; apply LW.v0; rfl; rfl; apply ValP.move; rfl; apply LW.v0; rfl; rfl; apply ValP.lssF; rfl; rfl; omega; apply LW.nil; refine thenN ?_; apply CW.condF; rfl; (with_reducible rfl); refine CW.skip ?_; refine thenN ?_; refine CW.seq ?_; refine CW.region ?_; apply LW.v0; rfl; rfl; apply ValP.move; rfl; apply LW.v0; rfl; rfl; apply ValP.move; rfl; apply LW.v0; rfl; rfl; apply ValP.move; rfl; apply LW.v0; rfl; rfl; apply ValP.move; rfl; apply LW.v0; rfl; rfl; apply ValP.move; rfl; apply LW.v0; rfl; rfl; apply ValP.addZL; rfl; rfl; decide; omega; apply LW.v0; rfl; rfl; apply ValP.cutStrTo; infer_instance; rfl; rfl; omega; apply LW.v0; rfl; rfl; apply ValP.indexAddrS; rfl; rfl; rfl; omega; apply LW.store; rfl; rfl; apply SetAt.head; assumption; apply LW.nil; refine thenN ?_; refine CW.seq ?_; refine CW.region ?_; apply LW.v0; rfl; rfl; apply ValP.move; rfl; apply LW.v0; rfl; rfl; apply ValP.move; rfl; apply LW.v0; rfl; rfl; apply ValP.move; rfl; apply LW.v0; rfl; rfl; apply ValP.lenStr; rfl; infer_instance; rfl; apply LW.v0; rfl; rfl; apply ValP.addZ; rfl; rfl; omega; apply LW.v0; rfl; rfl; apply ValP.cutStrFrom; infer_instance; rfl; rfl; omega; apply LW.v0; rfl; rfl; apply ValP.assign; rfl; apply LW.nil; refine thenN ?_; refine CW.region ?_; apply LW.v0; rfl; rfl; apply ValP.move; rfl; apply LW.v0; rfl; rfl; apply ValP.addZL; rfl; rfl; decide; omega; apply LW.v0; rfl; rfl; apply ValP.assign; rfl; apply LW.nil; refine blkN ?_)
    apply thenX
    refine ⟨rfl, ⟨k + 1, r.drop (i + 1), _⟩, ⟨hlt, by simp; omega, hsp2, .own hc1' hmx (by rw [w2, hsz]) w1 ?_⟩, by show n - (k + 1) < n - k; omega, ⟨rfl, rfl, rfl, rfl, rfl, rfl, trivial⟩, List.Sublist.refl _⟩
    dsimp only
    rw [scs_len, splC_len _ _ (by omega), hlen, Nat.mul_one]
  · obtain rfl : k = n := by omega
    have hr1 := spl_none r (by omega)
    have hx : (spl s)[k]? = some r := by
      have : (spl r)[0]? = ((spl s).drop k)[0]? := by rw [hsp]
      rw [hr1, List.getElem?_drop] at this
      simpa using this.symm
    obtain ⟨w1, w2⟩ := wr_take (i := k) (vs := [sv r]) ht rfl hkn (by omega)
    rw [scs_take, scs_drop, splC_step _ _ _ (by omega) hx] at w1
    have hW : Wr Tryd.prog 9 (.cells cur 9 (0, 0)) (0 + k * 1) (sv r) (.cells (wrCells cur (k * 1) [sv r]) 9 (0, 0)) := Wr.cells rfl rfl (by rw [hsz]; show 0 + k * 1 + 1 ≤ c0 * 1; omega) (by rw [Nat.zero_add]; rfl)
    have hfull : splC (spl s) (k + 1) = spl s := by rw [splC, List.take_of_length_le (by omega), show (spl s).length - (k + 1) = 0 by omega]; simp
    rw [hfull] at w1
    (refine CW.seq ?_; refine CW.seq ?_; refine CW.region ?_; apply LW.v0; rfl; rfl; apply ValP.move; rfl; apply LW.v0; rfl; rfl; apply ValP.move; rfl; apply LW.v0; rfl; rfl; apply ValP.lssF; rfl; rfl; omega; apply LW.nil; refine thenN ?_; apply CW.condF; rfl; (with_reducible rfl); refine CW.exit ?_; refine thenE ?_; refine thenE ?_; refine blkE rfl ?_; refine thenN ?_; refine CW.seq ?_; refine CW.region ?_; apply LW.v0; rfl; rfl; apply ValP.move; rfl; apply LW.v0; rfl; rfl; apply ValP.move; rfl; apply LW.v0; rfl; rfl; apply ValP.move; rfl; apply LW.v0; rfl; rfl; apply ValP.indexAddrS; rfl; rfl; rfl; omega; apply LW.store; rfl; rfl; apply SetAt.head; assumption; apply LW.nil; refine thenN ?_; refine CW.seq ?_; refine CW.region ?_; apply LW.v0; rfl; rfl; apply ValP.move; rfl; apply LW.v0; rfl; rfl; apply ValP.move; rfl; apply LW.v0; rfl; rfl; apply ValP.addZL; rfl; rfl; decide; omega; apply LW.v0; rfl; rfl; apply ValP.cutTo; infer_instance; infer_instance; rfl; rfl; omega; apply LW.v0; rfl; rfl; apply ValP.assign; rfl; apply LW.nil; refine thenN ?_; refine CW.ret ?_)
    refine fin (vs := [_]) [(g, _)] (.inl rfl) rfl rfl (by (apply ResL.cons; exact Res.tmp rfl; exact ResL.nil)) (List.Sublist.refl _) ?_
    unfold SplR
    rw [hlen]
    exact .own hc1' hmx (by rw [w2, hsz]) w1 (by rw [scs_len, hlen, Nat.mul_one])
theorem Split_calls (s : List UInt8) (hs : s.length ≤ 100000) (w : World) : Calls Tryd.prog 28 #[sv s, sv [32]] w (RetG w [] (SplR s)) := by
  refine enter (args := [_, _]) _ [] [] Tryd.func28 rfl Tryd.ntmps28 rfl (by simp) .nil ?_
  (refine CW.seq ?_; refine CW.region ?_; apply LW.v0; rfl; rfl; apply ValP.assign; rfl; apply LW.nil; refine thenN ?_; refine CW.seq ?_; refine CW.region ?_; apply LW.v0; rfl; rfl; apply ValP.move; rfl; apply LW.v0; rfl; rfl; apply ValP.move; rfl)
  refine LW.callR rfl rfl inferInstance (by (apply ArgsOk.cons; rfl; apply ArgsOk.cons; rfl; apply ArgsOk.cons; rfl; apply ArgsOk.cons; rfl; exact ArgsOk.nil)) (fun w hst => genSplit_calls s hs w) ?_
  intro v gs h
  (apply LW.v0; rfl; rfl; apply ValP.assign; rfl; apply LW.nil; refine thenN ?_; refine CW.ret ?_)
  refine fin (vs := [v]) gs (.inl rfl) rfl rfl (by (apply ResL.cons; exact Res.tmp rfl; exact ResL.nil)) (List.sublist_append_left _ _) h
theorem liteHas_calls (s : List UInt8) (w : World) : Calls Tryd.prog 48 #[sv s, sv [46]] w (Ret w (.bool (decide (s.take 1 = [46])))) := by
  have hl1 : (([46] : List UInt8).length : Int) = 1 := rfl
  have hl2 : ([46] : List UInt8).length = 1 := rfl
  obtain ⟨B, hB⟩ : ∃ B : List UInt8, [46] = B := ⟨_, rfl⟩
  rw [hB] at hl1 hl2 ⊢
  rcases Nat.lt_or_ge s.length B.length with h | h
  · rw [decide_eq_false (fun he => by
      have := congrArg List.length he
      rw [List.length_take] at this
      omega)]
    refine enter (args := [_, _]) _ [] [] Tryd.func48 rfl Tryd.ntmps48 rfl (by simp) .nil ?_
    (refine CW.seq ?_; refine CW.region ?_; apply LW.v0; rfl; rfl; apply ValP.assign; rfl; apply LW.nil; refine thenN ?_; refine CW.seq ?_; refine CW.region ?_; apply LW.v0; rfl; rfl; apply ValP.move; rfl; apply LW.v0; rfl; rfl; apply ValP.lenStr; rfl; infer_instance; rfl; apply LW.v0; rfl; rfl; apply ValP.move; rfl; apply LW.v0; rfl; rfl; apply ValP.lenStr; rfl; infer_instance; rfl; apply LW.v0; rfl; rfl; apply ValP.geqF; rfl; rfl; omega; apply LW.v0; rfl; rfl; apply ValP.move; rfl; apply LW.guardF'; rfl; rfl; simp only [Bool.not_true, Bool.not_false]; rfl; apply LW.guardF'; rfl; rfl; simp only [Bool.not_true, Bool.not_false]; rfl; apply LW.guardF'; rfl; rfl; simp only [Bool.not_true, Bool.not_false]; rfl; apply LW.guardF'; rfl; rfl; simp only [Bool.not_true, Bool.not_false]; rfl; apply LW.guardF'; rfl; rfl; simp only [Bool.not_true, Bool.not_false]; rfl; apply LW.guardF'; rfl; rfl; simp only [Bool.not_true, Bool.not_false]; rfl; apply LW.v0; rfl; rfl; apply ValP.pickF'; rfl; (with_reducible rfl); rfl; apply LW.v0; rfl; rfl; apply ValP.assign; rfl; apply LW.nil; refine thenN ?_; refine CW.ret ?_)
    (apply finR; exact .inl rfl; rfl; rfl; rfl; apply ResL.cons; exact Res.tmp rfl; exact ResL.nil)
    rfl
  · by_cases he : s.take 1 = B
    · rw [decide_eq_true he]
      have he2 : (⟨(s.take B.length).toArray⟩ : ByteArray) = ⟨B.toArray⟩ := by rw [hl2, he]
      refine enter (args := [_, _]) _ [] [] Tryd.func48 rfl Tryd.ntmps48 rfl (by simp) .nil ?_
      (refine CW.seq ?_; refine CW.region ?_; apply LW.v0; rfl; rfl; apply ValP.assign; rfl; apply LW.nil; refine thenN ?_; refine CW.seq ?_; refine CW.region ?_; apply LW.v0; rfl; rfl; apply ValP.move; rfl; apply LW.v0; rfl; rfl; apply ValP.lenStr; rfl; infer_instance; rfl; apply LW.v0; rfl; rfl; apply ValP.move; rfl; apply LW.v0; rfl; rfl; apply ValP.lenStr; rfl; infer_instance; rfl; apply LW.v0; rfl; rfl; apply ValP.geqT; rfl; rfl; omega; apply LW.v0; rfl; rfl; apply ValP.move; rfl; apply LW.guardT'; rfl; rfl; (with_reducible rfl); apply LW.v0; rfl; rfl; apply ValP.move; rfl; apply LW.guardT'; rfl; rfl; (with_reducible rfl); apply LW.v0; rfl; rfl; apply ValP.move; rfl; apply LW.guardT'; rfl; rfl; (with_reducible rfl); apply LW.v0; rfl; rfl; apply ValP.lenStr; rfl; infer_instance; rfl; apply LW.guardT'; rfl; rfl; (with_reducible rfl); apply LW.v0; rfl; rfl; apply ValP.cutStrTo; infer_instance; rfl; rfl; omega; apply LW.guardT'; rfl; rfl; (with_reducible rfl); apply LW.v0; rfl; rfl; apply ValP.move; rfl; apply LW.guardT'; rfl; rfl; (with_reducible rfl); apply LW.v0; rfl; rfl; apply ValP.strEqT; rfl; rfl; assumption; apply LW.v0; rfl; rfl; apply ValP.pickT'; rfl; (with_reducible rfl); rfl; apply LW.v0; rfl; rfl; apply ValP.assign; rfl; apply LW.nil; refine thenN ?_; refine CW.ret ?_)
      (apply finR; exact .inl rfl; rfl; rfl; rfl; apply ResL.cons; exact Res.tmp rfl; exact ResL.nil)
      rfl
    · rw [decide_eq_false he]
      have he2 : (⟨(s.take B.length).toArray⟩ : ByteArray) ≠ ⟨B.toArray⟩ := by rw [hl2]; exact sv_inj he
      refine enter (args := [_, _]) _ [] [] Tryd.func48 rfl Tryd.ntmps48 rfl (by simp) .nil ?_
      (refine CW.seq ?_; refine CW.region ?_; apply LW.v0; rfl; rfl; apply ValP.assign; rfl; apply LW.nil; refine thenN ?_; refine CW.seq ?_; refine CW.region ?_; apply LW.v0; rfl; rfl; apply ValP.move; rfl; apply LW.v0; rfl; rfl; apply ValP.lenStr; rfl; infer_instance; rfl; apply LW.v0; rfl; rfl; apply ValP.move; rfl; apply LW.v0; rfl; rfl; apply ValP.lenStr; rfl; infer_instance; rfl; apply LW.v0; rfl; rfl; apply ValP.geqT; rfl; rfl; omega; apply LW.v0; rfl; rfl; apply ValP.move; rfl; apply LW.guardT'; rfl; rfl; (with_reducible rfl); apply LW.v0; rfl; rfl; apply ValP.move; rfl; apply LW.guardT'; rfl; rfl; (with_reducible rfl); apply LW.v0; rfl; rfl; apply ValP.move; rfl; apply LW.guardT'; rfl; rfl; (with_reducible rfl); apply LW.v0; rfl; rfl; apply ValP.lenStr; rfl; infer_instance; rfl; apply LW.guardT'; rfl; rfl; (with_reducible rfl); apply LW.v0; rfl; rfl; apply ValP.cutStrTo; infer_instance; rfl; rfl; omega; apply LW.guardT'; rfl; rfl; (with_reducible rfl); apply LW.v0; rfl; rfl; apply ValP.move; rfl; apply LW.guardT'; rfl; rfl; (with_reducible rfl); apply LW.v0; rfl; rfl; apply ValP.strEqF; rfl; rfl; assumption; apply LW.v0; rfl; rfl; apply ValP.pickT'; rfl; (with_reducible rfl); rfl; apply LW.v0; rfl; rfl; apply ValP.assign; rfl; apply LW.nil; refine thenN ?_; refine CW.ret ?_)
      (apply finR; exact .inl rfl; rfl; rfl; rfl; apply ResL.cons; exact Res.tmp rfl; exact ResL.nil)
      rfl
theorem Has_calls (s : List UInt8) (w : World) : Calls Tryd.prog 29 #[sv s, sv [46]] w (Ret w (.bool (decide (s.take 1 = [46])))) := by
  have hH := liteHas_calls s
  refine enter (args := [_, _]) _ [] [] Tryd.func29 rfl Tryd.ntmps29 rfl (by simp) .nil ?_
  (refine CW.seq ?_; refine CW.region ?_; apply LW.v0; rfl; rfl; apply ValP.assign; rfl; apply LW.nil; refine thenN ?_; refine CW.seq ?_; refine CW.region ?_; apply LW.v0; rfl; rfl; apply ValP.move; rfl; apply LW.v0; rfl; rfl; apply ValP.move; rfl; apply LW.callE; rfl; rfl; infer_instance; apply ArgsOk.cons; rfl; apply ArgsOk.cons; rfl; exact ArgsOk.nil; intro w _; exact hH w; apply LW.v0; rfl; rfl; apply ValP.assign; rfl; apply LW.nil; refine thenN ?_; refine CW.ret ?_)
  (apply finR; exact .inl rfl; rfl; rfl; rfl; apply ResL.cons; exact Res.tmp rfl; exact ResL.nil)
  rfl
end Go.Proofs.YtbhicncgjplnoaaDoor

/-
  A SMALL LOGIC OVER THE KIT's WALK, PART MR: a text appended to bytes; room for bytes, made without noughts.
  Conditions: none; over any program.
-/
namespace Go.Proofs.YtbhicncgjplnoaaDoor.SL
set_option linter.unusedVariables false
set_option linter.unusedSimpArgs false
open Go Go.RowKit
theorem strCells_ucs (l : List UInt8) : Lib.strCells ⟨l.toArray⟩ = ucs l := by rw [ucs_map]; simp [Lib.strCells]
theorem row_appendStr {P : Program} {T U E ty : TypeId} {i : TypeInfo} (ht : P.underlying T = some (.slice E)) (hu : P.underlying U = some .string) (hi : P.info? E = some i) (hz : i.zero = some (.int .u8 0)) (hsz : i.size = 1) (hby : i.bytes = 1)
    {v : Value} {n : Nat} {xs : List Value} {seg pre post : Fs} {w0 : World} {S : List Nat} {w : World} (h : IsRow E 1 v n xs seg) (hs : St w0 S (pre ++ (seg ++ post)) w)
    (s : ByteArray) (h63 : n + s.size ≤ maxLen) (hbytes : n + s.size ≤ 140737488355328) :
    ∃ v' seg' w', (Builtin.append_ #[T, U] ty #[v, .string s]).run P w = .ok v' w' ∧ IsRow E 1 v' (n + s.size) (xs ++ Lib.strCells s) seg' ∧ St w0 S (pre ++ (seg' ++ post)) w' := by
  have h63' : n + s.size ≤ 9223372036854775807 := by simp only [maxLen] at h63; omega
  have hl := Lib.strCells_length s
  obtain ⟨m, hm⟩ : ∃ m, s.size = m := ⟨_, rfl⟩
  have fresh : ∀ (o : Obj), Bel w0.heap.size S w0 (w.drew.alloc o) := fun o => (hs.bel.drew).alloc (by have := hs.bel.size; simpa [World.drew] using this) o
  have alike : ∀ (o : Obj) k, k < w.heap.size → (w.drew.alloc o).heap[k]? = w.heap[k]? := fun o k hk => Below.heap_alloc w.drew o k hk
  have cells : ∀ (old : Nat) (ys : List Value), ys.length = n → ((ys.toArray ++ (Lib.strCells s).toArray ++ Builtin.zeroCells (Value.int .u8 0).cells (grownCap w (n + m) old E - (n + m))).size = grownCap w (n + m) old E * 1) ∧
      (ys.toArray ++ (Lib.strCells s).toArray ++ Builtin.zeroCells (Value.int .u8 0).cells (grownCap w (n + m) old E - (n + m))).toList.take ((n + m) * 1) = ys ++ Lib.strCells s := fun old ys hys => by
    have hge := grownCap_ge w (n + m) old E
    have hz1 : (Value.int IntKind.u8 0).cells.size = 1 := rfl
    constructor
    · simp only [Array.size_append, List.size_toArray, size_zeroCells, hz1, hys, hl, hm]
      omega
    · have hlen : (ys ++ Lib.strCells s).length = (n + m) * 1 := by rw [List.length_append, hys, hl, hm, Nat.mul_one]
      simp only [Array.toList_append, List.append_assoc]
      rw [← List.append_assoc, ← hlen]
      exact List.take_left
  rw [hm] at h63 h63' hbytes hl ⊢
  cases h with
  | nil =>
    simp only [Nat.zero_add] at *
    by_cases hm0 : m = 0
    · have hn : Lib.strCells s = [] := List.eq_nil_of_length_eq_zero (by rw [hl]; exact hm0)
      have hf := Lib.run_firstCells_string (P := P) w 1 s
      rw [hm, hm0] at hf
      refine ⟨.slice none 0 0, [], w, ?_, by rw [hm0, hn]; exact .nil, hs⟩
      simp [Builtin.append_, run_underlying ht, run_underlying hu, sizeOf, typeInfo, hi, hsz, Builtin.lenOf, hm, hm0, hf]
    · have hr := run_append_nil_string (P := P) w T U ty E i (.int .u8 0) ht hu hi hz s (by omega) (by omega) (by rw [hby]; omega)
      have e1 : (s.data.map fun b => Value.int .u8 b.toNat) = (Lib.strCells s).toArray := by
        apply Array.ext'
        simp [Lib.strCells]
      rw [e1, hm] at hr
      obtain ⟨c1, c2⟩ := cells 0 [] rfl
      simp only [List.nil_append, Array.empty_append] at c1 c2
      refine ⟨_, [(w.heap.size, .cells ((Lib.strCells s).toArray ++ Builtin.zeroCells (Value.int .u8 0).cells (grownCap w m 0 E - m)) E (0, 0))], _, hr, .own (grownCap_ge w m 0 E) (grownCap_le_maxLen w m 0 E h63) c1 c2 (by rw [List.nil_append, hl, Nat.mul_one]), ?_⟩
      exact St.lay (w := w) hs (fresh _) (World.alloc_heap_new w.drew _) (Nat.le_refl _) (alike _)
  | @own g _ cap cur _ hn hmx hc htk hlx =>
    have hlx' : xs.length = n := by omega
    obtain ⟨hg1, hg2⟩ := hs.own (g, .cells cur E (0, 0)) (List.mem_append_right _ (by simp))
    by_cases hroom : n + m ≤ cap
    · have hr := Lib.run_append_room_string (P := P) w T U ty E i ht hu hi hsz g n cap cur hg2 s (by omega) (by omega)
      rw [hm] at hr
      refine ⟨_, [(g, .cells (cur.toList.take n ++ Lib.strCells s ++ cur.toList.drop (n + m)).toArray E (0, 0))], _, hr, .own hroom hmx ?_ ?_ (by rw [List.length_append, hlx', hl, Nat.mul_one]), ?_⟩
      · simp only [List.size_toArray, List.length_append, List.length_take, List.length_drop, Array.length_toList, hl]
        omega
      · rw [Nat.mul_one] at htk
        rw [htk, ← show (xs ++ Lib.strCells s).length = (n + m) * 1 by rw [List.length_append, hlx', hl, Nat.mul_one]]
        exact List.take_left
      · refine St.swap (w := w) hs (hs.bel.trans ⟨rfl, rfl, rfl, by simp, fun k hk hS => setRow_other w g k _ (fun e => ?_)⟩) (setRow_heap w g cur _ E _ hg2) hg1 (.inl rfl) (fun k _ hk => setRow_other w g k _ hk)
        subst e
        rcases hg1 with hg1 | hg1
        · exact absurd hk (by have : w0.heap.size ≤ k := hg1; omega)
        · exact hS hg1
    · have holds : ∀ j u, xs[j]? = some u → w.cell? ((⟨g, 0, none⟩ : Addr).add j) = some u := fun j u hu => by
        rw [addr_add, Nat.zero_add, cell_of hg2]
        rw [← htk, List.getElem?_take] at hu
        split at hu
        · simpa using hu
        · cases hu
      have hr := Lib.run_append_grow_string (P := P) w T U ty E i (.int .u8 0) ht hu hi hz ⟨g, 0, none⟩ n cap xs (by rw [hsz]; omega) holds s (by omega) (by omega) (by rw [hby]; exact growslice_fits (by omega) (by omega))
      rw [hm] at hr
      obtain ⟨c1, c2⟩ := cells cap xs hlx'
      refine ⟨_, [(w.heap.size, .cells (xs.toArray ++ (Lib.strCells s).toArray ++ Builtin.zeroCells (Value.int .u8 0).cells (grownCap w (n + m) cap E - (n + m))) E (0, 0))], _, hr, .own (grownCap_ge w (n + m) cap E) (grownCap_le_maxLen w (n + m) cap E h63) c1 c2 (by rw [List.length_append, hlx', hl, Nat.mul_one]), ?_⟩
      exact St.swap (w := w) hs (fresh _) (World.alloc_heap_new w.drew _) (.inl hs.bel.size) (.inr (Nat.le_refl _)) (fun k hk _ => alike _ k hk)
section
variable {C : Cu} {ops : Array Oper} {Q : Post} {rest : List Oper} {e : Env} {fs : Fs} {d : Nat} {t : TypeId} {pos : String} {af : Array Edge}
theorem LW.appendStr {s x : Operand} {tys : Array TypeId} {T U E : TypeId} {v : Value} {n : Nat} {l : List UInt8} {xs : List Value} {seg pre post : Fs} (hd : Nat.blt d C.N = true) (hT : tys = #[T, U]) (hU : UnI C.P T (.slice E)) (hS : UnI C.P U .string) (hI : InfoI C.P E 1 (.int .u8 0)) (hB : BytI C.P E 1)
    (hs : e.ev s = some v) (hx : e.ev x = some (sv l)) (hseg : AtSeg fs pre seg post) (hrow : IsRow E 1 v n xs seg) (h63 : n + l.length ≤ maxLen) (hb : n + l.length ≤ 140737488355328)
    (k : ∀ v' seg', IsRow E 1 v' (n + l.length) (xs ++ ucs l) seg' → ∃ fs', AtSeg fs' pre seg' post ∧ LW C ops Q rest ((d, v') :: e) fs') :
    LW C ops Q (⟨some d, .call { callee := .builtin .append, args := #[s, x], argTypes := tys }, t, pos, af, none⟩ :: rest) e fs := fun a w hsat => by
  subst hT
  obtain ⟨i, i1, i2, i3, i4⟩ := info_all (P := C.P) (T := E) (n := 1) (b := 1) (z := .int .u8 0)
  have hst := hsat.st
  rw [hseg.eq] at hst
  have hu : C.P.underlying T = some (.slice E) := UnI.un
  have hu2 : C.P.underlying U = some .string := UnI.un
  obtain ⟨v', seg', w', hr, hrow', hw'⟩ := row_appendStr (P := C.P) (ty := t) hu hu2 i1 i3 i2 i4 hrow hst ⟨l.toArray⟩ (by simpa [ByteArray.size] using h63) (by simpa [ByteArray.size] using hb)
  have e1 : n + (⟨l.toArray⟩ : ByteArray).size = n + l.length := by simp [ByteArray.size]
  rw [e1, strCells_ucs] at hrow'
  obtain ⟨fs', hat, hK⟩ := k v' seg' hrow'
  have hrun : (execOp a.eval ⟨some d, .call { callee := .builtin .append, args := #[s, x], argTypes := #[T, U] }, t, pos, af, none⟩).run C.P w = .ok (.value v') w' := by
    simp [execOp, resolve, invoke, builtin, hsat.env.ev hs, hsat.env.ev hx, hr]
  refine wpListIn_take (wanted_none _ rfl _) ⟨fun _ _ => trivial, ?_⟩
  rw [semAt_FR (fun c h => by cases h), hrun]
  exact hK _ _ ⟨hsat.env.put hd, by rw [hat.eq]; exact hw'⟩
/-- Room for n bytes, of whatever content. -/
theorem LW.noZero {fo x : Operand} {tys : Array TypeId} {f : FuncId} {E : TypeId} {n : Nat} (hd : Nat.blt d C.N = true) (hf : e.ev fo = some (.func (.func f) #[] #[])) (hx : e.ev x = some (.int .i64 (n : Int))) (hn : n ≤ maxLen)
    (h : ∀ w, ∃ cs : Array Value, (callFunc f #[.int .i64 (n : Int)]).run C.P w = .ok (.value (.slice (some ⟨w.heap.size, 0, none⟩) n cs.size)) (w.drew.drew.alloc (.cells cs E)) ∧ n ≤ cs.size ∧ (n ≤ maxLen → cs.size ≤ maxLen))
    (k : ∀ b cs, n ≤ Array.size cs → Array.size cs ≤ maxLen → LW C ops Q rest ((d, .slice (some ⟨b, 0, none⟩) n (Array.size cs)) :: e) ((b, .cells cs E (0, 0)) :: fs)) :
    LW C ops Q (⟨some d, .call { callee := .value fo, args := #[x], argTypes := tys }, t, pos, af, none⟩ :: rest) e fs := fun a w hs => by
  obtain ⟨cs, h1, h2, h3⟩ := h w
  have hrun : (execOp a.eval ⟨some d, .call { callee := .value fo, args := #[x], argTypes := tys }, t, pos, af, none⟩).run C.P w = .ok (.value (.slice (some ⟨w.heap.size, 0, none⟩) n cs.size)) (w.drew.drew.alloc (.cells cs E)) := by
    simp [execOp, resolve, invoke, Deferred.ofValue, hs.env.ev hf, hs.env.ev hx, h1]
  refine wpListIn_take (wanted_none _ rfl _) ⟨fun _ _ => trivial, ?_⟩
  rw [semAt_FR (fun c h => by cases h), hrun]
  have hd2 : Sat C e fs a w.drew.drew := ⟨hs.env, ⟨hs.st.bel.drew.drew, hs.st.own, hs.st.nd⟩⟩
  exact k _ cs h2 (h3 hn) _ _ ⟨hs.env.put hd, hd2.alloc (.cells cs E)⟩
end
end Go.Proofs.YtbhicncgjplnoaaDoor.SL

/-
  A SMALL LOGIC OVER THE KIT's WALK, PART MS: cap, and room made without noughts in a region that draws its order.
  Conditions: none; over any program.
-/
namespace Go.Proofs.YtbhicncgjplnoaaDoor.SL
set_option linter.unusedVariables false
set_option linter.unusedSimpArgs false
open Go Go.RowKit
theorem ValP.capS {P : Program} {e : Env} {T E : TypeId} {x : Operand} {tys : Array TypeId} {a : Option Addr} {n c : Nat} (hT : tys = #[T]) (hU : UnI P T (.slice E)) (hx : e.ev x = some (.slice a n c)) :
    ValP P e [] (.call { callee := .builtin .cap, args := #[x], argTypes := tys }) (.int .i64 (c : Int)) := fun ρ w hρ _ d t pos af g => by
  subst hT
  simp [execOp, resolve, invoke, builtin, hρ x _ hx, Builtin.cap_, run_un, goInt]
theorem ValP.sliceDataNil {P : Program} {e : Env} {x : Operand} {tys : Array TypeId} (hx : e.ev x = some (.slice none 0 0)) : ValP P e [] (.call { callee := .builtin .unsafeSliceData, args := #[x], argTypes := tys }) (.pointer none) := fun ρ w hρ _ d t pos af g => by
  simp [execOp, resolve, invoke, builtin, hρ x _ hx, Lib.run_unsafeSliceData_nil]
theorem ValP.unsafeString0 {P : Program} {e : Env} {x y : Operand} {pt it : TypeId} {tys : Array TypeId} {p : Option Addr} (hT : tys = #[pt, it]) (hx : e.ev x = some (.pointer p)) (hy : e.ev y = some (.int .i64 0)) : ValP P e [] (.call { callee := .builtin .unsafeString, args := #[x, y], argTypes := tys }) (sv []) := fun ρ w hρ _ d t pos af g => by
  subst hT
  have := Lib.run_unsafeString_none (P := P) (w := w) pt it t p
  simp [execOp, resolve, invoke, builtin, hρ x _ hx, hρ y _ hy, this]
  rfl
section dw
variable {C : Cu} {ops : Array Oper} {Q : Post} {tl rest : List Oper} {e : Env} {ts : Ts} {μ : Mu} {k d : Nat} {t : TypeId} {pos : String} {af : Array Edge} {g : Option (Nat × Bool)}
/-- The cap of a slice of nothing, in whatever order. -/
theorem DW.capNil {T E : TypeId} {x : Operand} {tys : Array TypeId} (hk : ops[k]? = some ⟨some d, .call { callee := .builtin .cap, args := #[x], argTypes := tys }, t, pos, af, g⟩) (hm : μ k = none) (hd : Nat.blt d C.N = true) (hg : WantT ops e g)
    (hT : tys = #[T]) (hU : UnI C.P T (.slice E)) (hx : e.ev x = some (.slice none 0 0)) (kk : DW C ops μ Q tl rest (k + 1) ((d, .int .i64 0) :: e) ts) :
    DW C ops μ Q tl (⟨some d, .call { callee := .builtin .cap, args := #[x], argTypes := tys }, t, pos, af, g⟩ :: rest) k e ts :=
  DW.vr hk hm hd hg (bs := []) (us := []) (fun ρ hρ => by
    show ((#[] ++ #[x] : Array Operand).toList.flatMap fun y => blocksN 4 (ρ y)) = _
    simp [hρ x _ hx, blocksN]) (ValP.capS hT hU hx) .nil kk
theorem DW.sliceDataNil {x : Operand} {tys : Array TypeId} (hk : ops[k]? = some ⟨some d, .call { callee := .builtin .unsafeSliceData, args := #[x], argTypes := tys }, t, pos, af, g⟩) (hm : μ k = none) (hd : Nat.blt d C.N = true) (hg : WantT ops e g)
    (hx : e.ev x = some (.slice none 0 0)) (kk : DW C ops μ Q tl rest (k + 1) ((d, .pointer none) :: e) ts) :
    DW C ops μ Q tl (⟨some d, .call { callee := .builtin .unsafeSliceData, args := #[x], argTypes := tys }, t, pos, af, g⟩ :: rest) k e ts :=
  DW.vr hk hm hd hg (bs := []) (us := []) (fun ρ hρ => by
    show ((#[] ++ #[x] : Array Operand).toList.flatMap fun y => blocksN 4 (ρ y)) = _
    simp [hρ x _ hx, blocksN]) (ValP.sliceDataNil hx) .nil kk
def NoZ (E : TypeId) (n : Nat) (v : Value) (gs : Fs) : Prop := ∃ b cs, v = .slice (some ⟨b, 0, none⟩) n (Array.size cs) ∧ n ≤ Array.size cs ∧ Array.size cs ≤ maxLen ∧ gs = [(b, .cells cs E (0, 0))]
theorem DW.noZero {fo x : Operand} {tys : Array TypeId} {f : FuncId} {E : TypeId} {n : Nat} (hk : ops[k]? = some ⟨some d, .call { callee := .value fo, args := #[x], argTypes := tys }, t, pos, af, g⟩) (hm : μ k = some (cst (NoZ E n), false)) (hd : Nat.blt d C.N = true) (hg : WantT ops e g)
    (hf : e.ev fo = some (.func (.func f) #[] #[])) (hx : e.ev x = some (.int .i64 (n : Int))) (hn : n ≤ maxLen)
    (h : ∀ w, ∃ cs : Array Value, (callFunc f #[.int .i64 (n : Int)]).run C.P w = .ok (.value (.slice (some ⟨w.heap.size, 0, none⟩) n cs.size)) (w.drew.drew.alloc (.cells cs E)) ∧ n ≤ cs.size ∧ (n ≤ maxLen → cs.size ≤ maxLen))
    (kk : ∀ b cs, n ≤ Array.size cs → Array.size cs ≤ maxLen → DW C ops μ Q tl rest (k + 1) ((d, .slice (some ⟨b, 0, none⟩) n (Array.size cs)) :: e) ((b, .cells cs E (0, 0), [k], [k]) :: ts)) :
    DW C ops μ Q tl (⟨some d, .call { callee := .value fo, args := #[x], argTypes := tys }, t, pos, af, g⟩ :: rest) k e ts := by
  refine DW.moveG (M := NoZ E n) (bl := []) hk rfl hd (fun a ha => ?_) (fun a ha => ?_) TOut.nil ReadAll.nil (fun a φ ha hseg hnd hus3 => ?_) (fun v gs hM => ?_)
  · have hw := WantT.wanted (o := ⟨some d, .call { callee := .value fo, args := #[x], argTypes := tys }, t, pos, af, g⟩) hg ha
    rw [tch_want hw]
    show ((#[fo] ++ #[x] : Array Operand).toList.flatMap fun y => blocksN 4 (a.eval y)) = _
    simp [ha.Ev fo _ hf, ha.Ev x _ hx, blocksN, keys]
  · have hw := WantT.wanted (o := ⟨some d, .call { callee := .value fo, args := #[x], argTypes := tys }, t, pos, af, g⟩) hg ha
    rw [hm]; unfold mvE; rw [if_pos hw]; rfl
  · have hw := WantT.wanted (o := ⟨some d, .call { callee := .value fo, args := #[x], argTypes := tys }, t, pos, af, g⟩) hg ha
    refine ⟨hw, .inr ⟨⟨cst (NoZ E n), by rw [hm]; rfl, rfl⟩, .inr fun w hon => ?_⟩⟩
    obtain ⟨cs, h1, h2, h3⟩ := h w
    have hst : St C.w0 C.S [] w.drew.drew := ⟨hon.1.drew.drew, fun q hq => (by cases hq), List.Pairwise.nil⟩
    have hst' := St.lay (pre := []) (post := []) (w := w.drew.drew) (o' := .cells cs E (0, 0)) hst (hst.bel.alloc hst.bel.size _) (World.alloc_heap_new w.drew.drew (.cells cs E)) (Nat.le_refl _) (fun k hk => Below.heap_alloc w.drew.drew _ k hk)
    refine ⟨_, [(w.heap.size, .cells cs E (0, 0))], _, ?_, ⟨_, cs, rfl, h2, h3 hn, rfl⟩, hst'.bel, ?_, fun b hb _ => Below.heap_alloc w.drew.drew _ b hb, fun q hq => ⟨(hst'.own q hq).2, (hst'.own q hq).1, ?_⟩, hst'.nd⟩
    · show (execOp a.eval ⟨some d, .call { callee := .value fo, args := #[x], argTypes := tys }, t, pos, af, g⟩).run C.P w = _
      simp [execOp, resolve, invoke, Deferred.ofValue, ha.Ev fo _ hf, ha.Ev x _ hx, h1]
    · rw [World.size_alloc]; exact Nat.le_succ _
    · obtain rfl : q = _ := by simpa using hq
      exact .inl (Nat.le_refl _)
  · obtain ⟨b, cs, rfl, h1, h2, rfl⟩ := hM
    exact kk b cs h1 h2
end dw
end Go.Proofs.YtbhicncgjplnoaaDoor.SL

/-
  A Builder that grows ahead; strings.Join at blanks.
  Conditions: none.
-/
namespace Go.Proofs.YtbhicncgjplnoaaDoor
open Go Go.RowKit SL
set_option maxRecDepth 8000
set_option maxHeartbeats 4000000
set_option linter.unusedSimpArgs false
set_option linter.unusedVariables false
attribute [local irreducible] SL.CW SL.LW SL.DW Calls SL.Ret SL.RetG SL.beginQ SL.roundQ SL.rangeQ SL.inQ SL.RW SL.AnyW SL.thenQ SL.thenC SL.thenW SL.blkQ SL.finQ SL.ValP SL.NewP SL.SetP SL.CallP SL.Rd SL.Wr SL.Known
theorem noZero_run (n : Nat) (hn : n ≤ 281474976710656) (w : World) : ∃ cs : Array Value, (callFunc 70 #[.int .i64 (n : Int)]).run Tryd.prog w = .ok (.value (.slice (some ⟨w.heap.size, 0, none⟩) n cs.size)) (w.drew.drew.alloc (.cells cs 5)) ∧ n ≤ cs.size ∧ (n ≤ maxLen → cs.size ≤ maxLen) := by
  obtain ⟨cs, h1, h2, h3⟩ := Lib.run_makeNoZero (P := Tryd.prog) w #[3] 33 5 (by kernel_rfl) n hn
  refine ⟨cs, ?_, h2, h3⟩
  rw [run_callFunc_extern Tryd.func70 (by kernel_rfl) (by kernel_rfl) (by kernel_rfl) (e := Extern.BytealgMakeNoZero.makeNoZero #[3] #[33]) (by kernel_rfl), h1]
  rfl
abbrev bB (b : Nat) (p v : Value) : Nat × Obj := (b, .cells #[p, v] 81 (0, 0))
theorem WriteString_calls (w0 : World) (S : List Nat) (b : Nat) (p v : Value) (hp : p = .pointer none ∨ p = .pointer (some ⟨b, 0, none⟩)) (n : Nat) (l : List UInt8) (hn : n + l.length ≤ 1000000) (xs : List Value) (seg fs : Fs) (hrow : IsRow 5 1 v n xs seg) (w : World) (hs : St w0 S (bB b p v :: (seg ++ fs)) w) :
    Calls Tryd.prog 54 #[.pointer (some ⟨b, 0, none⟩), sv l] w (fun x w' => ∃ y fs', x = .returned y ∧ (∃ v' seg', y = .tuple #[.int .i64 (l.length : Int), .nilIface] ∧ IsRow 5 1 v' (n + l.length) (xs ++ ucs l) seg' ∧ fs' = bB b (.pointer (some ⟨b, 0, none⟩)) v' :: (seg' ++ fs)) ∧ St w0 S fs' w') := by
  refine calls_inline (args := [_, _]) Tryd.func54 rfl Tryd.ntmps54 rfl ?_ hs
  (refine CW.seq ?_; refine CW.region ?_; apply LW.v0; rfl; rfl; apply ValP.assign; rfl; apply LW.v0; rfl; rfl; apply ValP.assign; rfl; apply LW.nil; refine thenN ?_; refine CW.seq ?_; refine CW.region ?_; apply LW.v0; rfl; rfl; apply ValP.move; rfl; apply LW.callSt; rfl; rfl; infer_instance; apply ArgsOk.cons; rfl; exact ArgsOk.nil; intro w hs; exact copyCheck_calls _ _ _ _ _ (by assumption) _ w hs; rintro v fs' ⟨rfl, rfl⟩; apply LW.nil; refine thenN ?_; refine CW.seq ?_; refine CW.region ?_; apply LW.v0; rfl; rfl; apply ValP.move; rfl; apply LW.v0; rfl; rfl; apply ValP.move; rfl; apply LW.v0; rfl; rfl; apply ValP.nilCheck; rfl; apply LW.v0; rfl; rfl; apply ValP.fieldAddr; rfl; rfl; apply LW.load; rfl; rfl; apply Known.at; apply FsAt.head; exact Rd.one' rfl; apply LW.v0; rfl; rfl; apply ValP.move; rfl)
  refine LW.appendStr rfl rfl inferInstance inferInstance inferInstance inferInstance rfl rfl (by (apply AtSeg.cons; exact AtSeg.head)) hrow (by simp only [maxLen]; omega) (by omega) ?_
  intro v' seg' hrow'
  obtain ⟨p', c', rfl⟩ := hrow'.form
  refine ⟨_, (by (apply AtSeg.cons; exact AtSeg.head)), ?_⟩
  (apply LW.v0; rfl; rfl; apply ValP.nilCheck; rfl; apply LW.v0; rfl; rfl; apply ValP.fieldAddr; rfl; rfl; apply LW.store; rfl; rfl; apply SetAt.head; apply Wr.cells; rfl; rfl; simp only [wc, List.size_toArray, List.length_cons, List.length_nil]; omega; simp only [fillC, wc, wrCells, Value.cells, List.toList_toArray, List.setIfInBounds_toArray, List.set_cons_succ, List.set_cons_zero, Nat.reduceAdd, Nat.reduceMul, Nat.zero_add, Nat.mul_one]; rfl; apply LW.nil; refine thenN ?_; refine CW.seq ?_; refine CW.region ?_; apply LW.v0; rfl; rfl; apply ValP.move; rfl; apply LW.v0; rfl; rfl; apply ValP.lenStr; rfl; infer_instance; rfl; apply LW.v0; rfl; rfl; apply ValP.assign; rfl; apply LW.v0; rfl; rfl; apply ValP.assign; rfl; apply LW.nil; refine thenN ?_; refine CW.ret ?_)
  (apply inI; exact .inl rfl; exact Shut.nil; rfl; apply ResL.cons; exact Res.tmp rfl; apply ResL.cons; exact Res.tmp rfl; exact ResL.nil; rfl)
  exact ⟨_, _, rfl, hrow', rfl⟩
theorem WByte_calls (w0 : World) (S : List Nat) (b : Nat) (p v : Value) (hp : p = .pointer none ∨ p = .pointer (some ⟨b, 0, none⟩)) (n c : Nat) (hn : n < 1000000) (hc : c < 256) (xs : List Value) (seg fs : Fs) (hrow : IsRow 5 1 v n xs seg) (w : World) (hs : St w0 S (bB b p v :: (seg ++ fs)) w) :
    Calls Tryd.prog 51 #[.pointer (some ⟨b, 0, none⟩), .int .u8 (c : Int)] w (fun x w' => ∃ y fs', x = .returned y ∧ (∃ v' seg', y = .nilIface ∧ IsRow 5 1 v' (n + 1) (xs ++ [.int .u8 (c : Int)]) seg' ∧ fs' = bB b (.pointer (some ⟨b, 0, none⟩)) v' :: (seg' ++ fs)) ∧ St w0 S fs' w') := by
  refine calls_inline (args := [_, _]) Tryd.func51 rfl Tryd.ntmps51 rfl ?_ hs
  (refine CW.seq ?_; refine CW.region ?_; apply LW.v0; rfl; rfl; apply ValP.assign; rfl; apply LW.nil; refine thenN ?_; refine CW.seq ?_; refine CW.region ?_; apply LW.v0; rfl; rfl; apply ValP.move; rfl; apply LW.callSt; rfl; rfl; infer_instance; apply ArgsOk.cons; rfl; exact ArgsOk.nil; intro w hs; exact copyCheck_calls _ _ _ _ _ (by assumption) _ w hs; rintro v fs' ⟨rfl, rfl⟩; apply LW.nil; refine thenN ?_; refine CW.seq ?_; refine CW.region ?_; apply LW.v0; rfl; rfl; apply ValP.move; rfl; apply LW.v0; rfl; rfl; apply ValP.move; rfl; apply LW.v0; rfl; rfl; apply ValP.nilCheck; rfl; apply LW.v0; rfl; rfl; apply ValP.fieldAddr; rfl; rfl; apply LW.load; rfl; rfl; apply Known.at; apply FsAt.head; exact Rd.one' rfl; apply LW.v0; rfl; rfl; apply ValP.move; rfl; apply LW.lay1; rfl; infer_instance; infer_instance; rfl; rfl; rfl; rfl; rfl; rfl; intro _)
  (apply LW.append; rfl; rfl; infer_instance; infer_instance; infer_instance; rfl; rfl; rfl; (case hrow => assumption); apply AtSeg.cons; apply AtSeg.cons; exact AtSeg.head; apply Known.at; apply FsAt.head; rfl; rfl; rfl; omega; simp only [maxLen]; omega; omega; intro v' seg' hrow'; obtain ⟨p', c', rfl⟩ := hrow'.form; (refine ⟨_, (by (repeat (first | exact AtSeg.head | apply AtSeg.cons | apply AtSeg.app))), ?_⟩); (try simp only [List.cons_append, List.nil_append]))
  (apply LW.drop; exact List.Sublist.cons _ (List.Sublist.refl _))
  (apply LW.v0; rfl; rfl; apply ValP.nilCheck; rfl; apply LW.v0; rfl; rfl; apply ValP.fieldAddr; rfl; rfl; apply LW.store; rfl; rfl; apply SetAt.head; apply Wr.cells; rfl; rfl; simp only [wc, List.size_toArray, List.length_cons, List.length_nil]; omega; simp only [fillC, wc, wrCells, Value.cells, List.toList_toArray, List.setIfInBounds_toArray, List.set_cons_succ, List.set_cons_zero, Nat.reduceAdd, Nat.reduceMul, Nat.zero_add, Nat.mul_one]; rfl; apply LW.nil; refine thenN ?_; refine CW.seq ?_; refine CW.region ?_; apply LW.v0; rfl; rfl; apply ValP.assign; rfl; apply LW.nil; refine thenN ?_; refine CW.ret ?_)
  (apply inI; exact .inl rfl; exact Shut.nil; rfl; apply ResL.cons; exact Res.tmp rfl; exact ResL.nil; rfl)
  exact ⟨_, _, rfl, hrow', rfl⟩
theorem grow_calls (w0 : World) (S : List Nat) (b n : Nat) (p : Value) (hn : n ≤ 1000000) (fs : Fs) (w : World) (hs : St w0 S (bB b p (.slice none 0 0) :: fs) w) :
    Calls Tryd.prog 62 #[.pointer (some ⟨b, 0, none⟩), .int .i64 (n : Int)] w (fun x w' => ∃ y fs', x = .returned y ∧ (∃ v' seg', y = .tuple #[] ∧ IsRow 5 1 v' 0 [] seg' ∧ fs' = seg' ++ bB b p v' :: fs) ∧ St w0 S fs' w') := by
  refine calls_inline (args := [_, _]) Tryd.func62 rfl Tryd.ntmps62 rfl ?_ hs
  (repeat ((first | (apply LW.callSt; rfl; rfl; infer_instance; (repeat (first | exact ArgsOk.nil | (apply ArgsOk.cons; rfl))); intro w hs; exact copyCheck_calls _ _ _ _ _ (by assumption) _ w hs; rintro v fs' ⟨rfl, rfl⟩) | refine thenN ?_ | refine thenL ?_ | refine thenM ?_ | (apply beginI; (repeat (first | apply SetAt.head | apply SetAt.tail | apply SetAt.app))) | (apply roundN; (repeat (first | apply SetAt.head | apply SetAt.tail | apply SetAt.app))) | refine blkN ?_ | refine thenR ?_ | refine blkR ?_ | refine thenE ?_ | refine blkE rfl ?_ | refine blkO rfl ?_ | refine CW.seq ?_ | refine CW.block ?_ | refine CW.region ?_ | refine CW.ret ?_ | refine CW.skip ?_ | refine CW.exit ?_ | refine CW.label ?_ | (apply CW.condT; rfl; (first | with_reducible rfl | (focus (simp only [Bool.not_true, Bool.not_false]; done)) | (with_reducible assumption) | (focus (simp only [Bool.not_true, Bool.not_false]; with_reducible assumption)))) | (apply CW.condF; rfl; (first | with_reducible rfl | (focus (simp only [Bool.not_true, Bool.not_false]; done)) | (with_reducible assumption) | (focus (simp only [Bool.not_true, Bool.not_false]; with_reducible assumption)))))))
  apply CW.pre
  (refine AnyW.anyM [(8, NoZ 5 (2 * 0 + n))] 14 mixed (by decide +kernel) ?_)
  ((try simp only [tsOf_cons, tsOf_nil, tsOf_app]); apply DW.v0; rfl; rfl; rfl; exact WantT.none; rfl; apply ValP.move; rfl; apply DW.v0; rfl; rfl; rfl; exact WantT.none; rfl; apply ValP.nilCheck; rfl; apply DW.v0; rfl; rfl; rfl; exact WantT.none; rfl; apply ValP.fieldAddr; rfl; rfl; apply DW.loadO; rfl; rfl; rfl; exact WantT.none; rfl; apply TRead.head; exact ancB_nil; exact Rd.one' rfl; apply DW.capNil; rfl; rfl; rfl; exact WantT.none; rfl; infer_instance; rfl; apply DW.v0; rfl; rfl; rfl; exact WantT.none; rfl; apply ValP.mulZL; rfl; rfl; decide; omega; apply DW.v0; rfl; rfl; rfl; exact WantT.none; rfl; apply ValP.move; rfl; apply DW.v0; rfl; rfl; rfl; exact WantT.none; rfl; apply ValP.addZ; rfl; rfl; omega; (refine DW.noZero (k := 8) (n := 2 * 0 + n) rfl rfl rfl (by (first | exact WantT.none | (apply wantYes; rfl; rfl; (first | with_reducible rfl | (focus (simp only [Bool.not_true, Bool.not_false]; done)) | (with_reducible assumption) | (focus (simp only [Bool.not_true, Bool.not_false]; with_reducible assumption)))))) rfl ?_ (by simp only [maxLen]; omega) (noZero_run (2 * 0 + n) (by omega)) ?_); rfl; intro b' cs' hcs hmx; apply DW.v0; rfl; rfl; rfl; exact WantT.none; rfl; apply ValP.move; rfl; apply DW.v0; rfl; rfl; rfl; exact WantT.none; rfl; apply ValP.nilCheck; rfl; apply DW.v0; rfl; rfl; rfl; exact WantT.none; rfl; apply ValP.fieldAddr; rfl; rfl; apply DW.loadO; rfl; rfl; rfl; exact WantT.none; rfl; apply TRead.tail; apply TRead.head; exact ancB_nil; exact Rd.one' rfl; apply DW.v0; rfl; rfl; rfl; exact WantT.none; rfl; apply ValP.lenR; rfl; infer_instance; rfl; apply DW.nil; simp only [fsOf_cons, fsOf_nil, fsOf_app, fsOf_tsOf, fsOf_new])
  (apply LW.v0; rfl; rfl; apply ValP.cutTo; infer_instance; infer_instance; rfl; rfl; omega; apply LW.v0; rfl; rfl; apply ValP.assign; rfl; apply LW.nil; refine thenN ?_; refine CW.seq ?_; refine CW.region ?_; apply LW.v0; rfl; rfl; apply ValP.move; rfl; apply LW.v0; rfl; rfl; apply ValP.move; rfl; apply LW.v0; rfl; rfl; apply ValP.nilCheck; rfl; apply LW.v0; rfl; rfl; apply ValP.fieldAddr; rfl; rfl; apply LW.load; rfl; rfl; apply Known.at; apply FsAt.tail; apply FsAt.head; exact Rd.one' rfl)
  refine LW.copyAt (cur := cs') (E' := 5) (m := 0) (news := []) (fs' := (b', .cells cs' 5 (0, 0)) :: bB b p (.slice none 0 0) :: fs) rfl rfl inferInstance inferInstance inferInstance rfl rfl (fun w hst => RowAt.nil) (fun u hu => by cases hu) (by omega) (by omega) (by simpa using SetAt.head) ?_
  (apply LW.nil; refine thenN ?_; refine CW.region ?_; apply LW.v0; rfl; rfl; apply ValP.move; rfl; apply LW.v0; rfl; rfl; apply ValP.move; rfl; apply LW.v0; rfl; rfl; apply ValP.nilCheck; rfl; apply LW.v0; rfl; rfl; apply ValP.fieldAddr; rfl; rfl; apply LW.store; rfl; rfl; apply SetAt.tail; apply SetAt.head; apply Wr.cells; rfl; rfl; simp only [wc, List.size_toArray, List.length_cons, List.length_nil]; omega; simp only [fillC, wc, wrCells, Value.cells, List.toList_toArray, List.setIfInBounds_toArray, List.set_cons_succ, List.set_cons_zero, Nat.reduceAdd, Nat.reduceMul, Nat.zero_add, Nat.mul_one]; rfl; apply LW.nil)
  (apply inI; exact .inr rfl; exact Shut.nil; rfl; exact ResL.nil; rfl)
  refine ⟨_, [(b', .cells cs' 5 (0, 0))], rfl, .own (by omega) hmx (by omega) (by simp) rfl, rfl⟩
theorem Grow_calls (w0 : World) (S : List Nat) (b n : Nat) (h0 : 0 < n) (hn : n ≤ 1000000) (fs : Fs) (w : World) (hs : St w0 S (bB b (.pointer none) (.slice none 0 0) :: fs) w) :
    Calls Tryd.prog 53 #[.pointer (some ⟨b, 0, none⟩), .int .i64 (n : Int)] w (fun x w' => ∃ y fs', x = .returned y ∧ (∃ v' seg', y = .tuple #[] ∧ IsRow 5 1 v' 0 [] seg' ∧ fs' = seg' ++ bB b (.pointer (some ⟨b, 0, none⟩)) v' :: fs) ∧ St w0 S fs' w') := by
  refine calls_inline (args := [_, _]) Tryd.func53 rfl Tryd.ntmps53 rfl ?_ hs
  have hp : Value.pointer none = .pointer none ∨ Value.pointer none = .pointer (some ⟨b, 0, none⟩) := .inl rfl
  (refine CW.seq ?_; refine CW.region ?_; apply LW.v0; rfl; rfl; apply ValP.move; rfl; apply LW.callSt; rfl; rfl; infer_instance; apply ArgsOk.cons; rfl; exact ArgsOk.nil; intro w hs; exact copyCheck_calls _ _ _ _ _ (by assumption) _ w hs; rintro v fs' ⟨rfl, rfl⟩; apply LW.nil; refine thenN ?_; refine CW.seq ?_; refine CW.seq ?_; refine CW.region ?_; apply LW.v0; rfl; rfl; apply ValP.move; rfl; apply LW.v0; rfl; rfl; apply ValP.lssF; rfl; rfl; omega; apply LW.nil; refine thenN ?_; apply CW.condF; rfl; (with_reducible rfl); refine CW.skip ?_; refine thenN ?_; refine CW.seq ?_; apply CW.pre; refine AnyW.any 12 mixed (by decide +kernel) ?_; (try simp only [tsOf_cons, tsOf_nil, tsOf_app]); apply DW.v0; rfl; rfl; rfl; exact WantT.none; rfl; apply ValP.move; rfl; apply DW.v0; rfl; rfl; rfl; exact WantT.none; rfl; apply ValP.nilCheck; rfl; apply DW.v0; rfl; rfl; rfl; exact WantT.none; rfl; apply ValP.fieldAddr; rfl; rfl; apply DW.loadO; rfl; rfl; rfl; exact WantT.none; rfl; apply TRead.head; exact ancB_nil; exact Rd.one' rfl; apply DW.capNil; rfl; rfl; rfl; exact WantT.none; rfl; infer_instance; rfl; apply DW.v0; rfl; rfl; rfl; exact WantT.none; rfl; apply ValP.move; rfl; apply DW.v0; rfl; rfl; rfl; exact WantT.none; rfl; apply ValP.nilCheck; rfl; apply DW.v0; rfl; rfl; rfl; exact WantT.none; rfl; apply ValP.fieldAddr; rfl; rfl; apply DW.loadO; rfl; rfl; rfl; exact WantT.none; rfl; apply TRead.head; exact ancB_nil; exact Rd.one' rfl; apply DW.v0; rfl; rfl; rfl; exact WantT.none; rfl; apply ValP.lenR; rfl; infer_instance; rfl; apply DW.v0; rfl; rfl; rfl; exact WantT.none; rfl; apply ValP.subZK; rfl; rfl; decide; omega; omega; apply DW.v0; rfl; rfl; rfl; exact WantT.none; rfl; apply ValP.move; rfl; apply DW.nil; simp only [fsOf_cons, fsOf_nil, fsOf_app, fsOf_tsOf, fsOf_new]; apply LW.v0; rfl; rfl; apply ValP.lssT; rfl; rfl; omega; apply LW.nil; refine thenN ?_; apply CW.condT; rfl; (with_reducible rfl); refine CW.region ?_; apply LW.v0; rfl; rfl; apply ValP.move; rfl; apply LW.v0; rfl; rfl; apply ValP.move; rfl)
  refine LW.callStF rfl rfl inferInstance (by (apply ArgsOk.cons; rfl; apply ArgsOk.cons; rfl; exact ArgsOk.nil)) rfl (fun w hst => grow_calls w0 S b n _ hn fs w hst) ?_
  rintro v fs' ⟨v', seg', rfl, hr', rfl⟩
  (apply LW.nil)
  (apply inI; exact .inr rfl; exact Shut.nil; rfl; exact ResL.nil; rfl)
  exact ⟨_, _, rfl, hr', rfl⟩
theorem StringG_calls (w0 : World) (S : List Nat) (b : Nat) (p v : Value) (n : Nat) (hn : n < 1000000) (h0 : 0 < n) (l : List UInt8) (seg fs : Fs) (hrow : IsRow 5 1 v n (ucs l) seg) (w : World) (hs : St w0 S (bB b p v :: (seg ++ fs)) w) :
    Calls Tryd.prog 52 #[.pointer (some ⟨b, 0, none⟩)] w (fun x w' => ∃ y fs', x = .returned y ∧ (y = sv l ∧ fs' = fs) ∧ St w0 S fs' w') := by
  refine calls_inline (args := [_]) Tryd.func52 rfl Tryd.ntmps52 rfl ?_ hs
  have hx := ucs_map l
  obtain ⟨xs, hxs⟩ : ∃ xs, ucs l = xs := ⟨_, rfl⟩
  rw [hxs] at hrow hx
  cases hrow with
  | nil => cases h0
  | @own g _ cap cur _ hle hmx hc ht hl =>
    try simp only [List.cons_append, List.nil_append]
    have hsz : l.length = n := by rw [hx, List.length_map] at hl; omega
    subst hsz
    (refine CW.seq ?_; refine CW.region ?_; apply LW.v0; rfl; rfl; apply ValP.assign; rfl; apply LW.nil; refine thenN ?_; refine CW.seq ?_; apply CW.pre; refine AnyW.any 10 mixed (by decide +kernel) ?_; (try simp only [tsOf_cons, tsOf_nil, tsOf_app]); apply DW.v0; rfl; rfl; rfl; exact WantT.none; rfl; apply ValP.move; rfl; apply DW.v0; rfl; rfl; rfl; exact WantT.none; rfl; apply ValP.nilCheck; rfl; apply DW.v0; rfl; rfl; rfl; exact WantT.none; rfl; apply ValP.fieldAddr; rfl; rfl; apply DW.loadO; rfl; rfl; rfl; exact WantT.none; rfl; apply TRead.head; exact ancB_nil; exact Rd.one' rfl; apply DW.sliceData; rfl; rfl; rfl; exact WantT.none; rfl; omega; apply TRead.tail; apply TRead.head; exact ancB_nil; apply DW.v0; rfl; rfl; rfl; exact WantT.none; rfl; apply ValP.move; rfl; apply DW.v0; rfl; rfl; rfl; exact WantT.none; rfl; apply ValP.nilCheck; rfl; apply DW.v0; rfl; rfl; rfl; exact WantT.none; rfl; apply ValP.fieldAddr; rfl; rfl; apply DW.loadO; rfl; rfl; rfl; exact WantT.none; rfl; apply TRead.head; exact ancB_nil; exact Rd.one' rfl; apply DW.v0; rfl; rfl; rfl; exact WantT.none; rfl; apply ValP.lenR; rfl; infer_instance; rfl; apply DW.nil; simp only [fsOf_cons, fsOf_nil, fsOf_app, fsOf_tsOf, fsOf_new])
    apply LW.unsafeString
    rfl
    infer_instance
    rfl
    rfl
    rfl
    rfl
    · intro h; rw [h] at h0; cases h0
    · omega
    case hset => (apply SetAt.tail; apply SetAt.head)
    · intro j u hj
      have h2 := congrArg (·[j]?) (ht.trans hx)
      simp only [List.getElem?_map, hj, Option.map_some, Nat.mul_one] at h2
      rw [List.getElem?_take] at h2
      split at h2
      · simpa using h2
      · cases h2
    refine LW.drop fs (by (apply List.Sublist.cons; apply List.Sublist.cons; exact List.Sublist.refl _)) ?_
    (apply LW.v0; rfl; rfl; apply ValP.assign; rfl; apply LW.nil; refine thenN ?_; refine CW.ret ?_)
    (apply inI; exact .inl rfl; exact Shut.nil; rfl; apply ResL.cons; exact Res.tmp rfl; exact ResL.nil; rfl)
    exact ⟨rfl, rfl⟩
theorem String0_calls (w0 : World) (S : List Nat) (b : Nat) (p : Value) (fs : Fs) (w : World) (hs : St w0 S (bB b p (.slice none 0 0) :: fs) w) :
    Calls Tryd.prog 52 #[.pointer (some ⟨b, 0, none⟩)] w (fun x w' => ∃ y fs', x = .returned y ∧ (y = sv [] ∧ fs' = bB b p (.slice none 0 0) :: fs) ∧ St w0 S fs' w') := by
  refine calls_inline (args := [_]) Tryd.func52 rfl Tryd.ntmps52 rfl ?_ hs
  (refine CW.seq ?_; refine CW.region ?_; apply LW.v0; rfl; rfl; apply ValP.assign; rfl; apply LW.nil; refine thenN ?_; refine CW.seq ?_; apply CW.pre; refine AnyW.any 10 mixed (by decide +kernel) ?_; (try simp only [tsOf_cons, tsOf_nil, tsOf_app]); apply DW.v0; rfl; rfl; rfl; exact WantT.none; rfl; apply ValP.move; rfl; apply DW.v0; rfl; rfl; rfl; exact WantT.none; rfl; apply ValP.nilCheck; rfl; apply DW.v0; rfl; rfl; rfl; exact WantT.none; rfl; apply ValP.fieldAddr; rfl; rfl; apply DW.loadO; rfl; rfl; rfl; exact WantT.none; rfl; apply TRead.head; exact ancB_nil; exact Rd.one' rfl; apply DW.sliceDataNil; rfl; rfl; rfl; exact WantT.none; rfl; apply DW.v0; rfl; rfl; rfl; exact WantT.none; rfl; apply ValP.move; rfl; apply DW.v0; rfl; rfl; rfl; exact WantT.none; rfl; apply ValP.nilCheck; rfl; apply DW.v0; rfl; rfl; rfl; exact WantT.none; rfl; apply ValP.fieldAddr; rfl; rfl; apply DW.loadO; rfl; rfl; rfl; exact WantT.none; rfl; apply TRead.head; exact ancB_nil; exact Rd.one' rfl; apply DW.v0; rfl; rfl; rfl; exact WantT.none; rfl; apply ValP.lenR; rfl; infer_instance; rfl; apply DW.nil; simp only [fsOf_cons, fsOf_nil, fsOf_app, fsOf_tsOf, fsOf_new])
  refine LW.v0 rfl rfl (ValP.unsafeString0 rfl rfl rfl) ?_
  (apply LW.v0; rfl; rfl; apply ValP.assign; rfl; apply LW.nil; refine thenN ?_; refine CW.ret ?_)
  (apply inI; exact .inl rfl; exact Shut.nil; rfl; apply ResL.cons; exact Res.tmp rfl; exact ResL.nil; rfl)
  exact ⟨rfl, rfl⟩
/-- Words with a blank between each two. -/
def jn (x : List UInt8) (R : List (List UInt8)) : List UInt8 := x ++ R.flatMap (fun y => 32 :: y)
def joinW : List (List UInt8) → List UInt8
  | [] => []
  | x :: R => jn x R
theorem jn_step (x : List UInt8) (R : List (List UInt8)) (k : Nat) (h : k < R.length) : jn x (R.take (k + 1)) = jn x (R.take k) ++ [32] ++ R[k] := by
  unfold jn
  rw [List.take_succ_eq_append_getElem h, List.flatMap_append]
  simp
theorem jn_len (x : List UInt8) (R : List (List UInt8)) : (jn x R).length = R.length + ((x :: R).map List.length).sum := by
  unfold jn
  rw [List.length_append, List.length_flatMap, List.map_cons, List.sum_cons]
  have : ∀ R : List (List UInt8), (R.map fun y => (32 :: y).length).sum = R.length + (R.map List.length).sum := by
    intro R
    induction R with
    | nil => rfl
    | cons a R ih => rw [List.map_cons, List.sum_cons, ih, List.map_cons, List.sum_cons, List.length_cons, List.length_cons]; omega
  rw [this]; omega
theorem scs_one (l : List (List UInt8)) : ∀ a ∈ l, ([sv a] : List Value).length = 1 := fun _ _ => rfl
theorem scs_flat (l : List (List UInt8)) : scs l = l.flatMap fun a => [sv a] := by
  induction l with
  | nil => rfl
  | cons a l ih => show sv a :: scs l = _; rw [ih]; rfl
theorem sz_step (L : List (List UInt8)) (m : Nat) (h : m < L.length) : ((L.take (m + 1)).map List.length).sum = ((L.take m).map List.length).sum + L[m].length := by
  rw [List.take_succ_eq_append_getElem h, List.map_append, List.sum_append]; simp
theorem sz_le (L : List (List UInt8)) (m : Nat) : ((L.take m).map List.length).sum ≤ (L.map List.length).sum := by
  conv => rhs; rw [← List.take_append_drop m L]
  rw [List.map_append, List.sum_append]; omega
theorem jn_le (x : List UInt8) (R : List (List UInt8)) (k : Nat) : (jn x (R.take k)).length ≤ (jn x R).length := by
  conv => rhs; rw [← List.take_append_drop k R]
  unfold jn
  simp only [List.flatMap_append, List.length_append]
  omega
theorem ucs_app (a b : List UInt8) : ucs (a ++ b) = ucs a ++ ucs b := by simp [ucs]
structure BX where
  k : Nat
  v : Value
  seg : Fs
theorem Join_calls (v : Value) (L : List (List UInt8)) (hb : (joinW L).length ≤ 100000) (w : World) (hv : RowAt w 1 v L.length (scs L)) : Calls Tryd.prog 40 #[v, sv [32]] w (Ret w (sv (joinW L))) := by
  obtain ⟨p, c, rfl, hc, hm⟩ := hv.form
  simp only [maxLen] at hm
  have hl1 : (([32] : List UInt8).length : Int) = 1 := rfl
  have hl2 : ([32] : List UInt8).length = 1 := rfl
  obtain hL | ⟨x, R, hL⟩ : L = [] ∨ ∃ x R, L = x :: R := by
    cases L with
    | nil => exact .inl rfl
    | cons x R => exact .inr ⟨x, R, rfl⟩
  · have h0 : L.length = 0 := by rw [hL]; rfl
    rw [h0, show joinW L = [] by rw [hL]; rfl]
    refine enter (args := [_, _]) _ [] [] Tryd.func40 rfl Tryd.ntmps40 rfl (by simp) .nil ?_
    (refine CW.seq ?_; refine CW.region ?_; apply LW.v0; rfl; rfl; apply ValP.assign; rfl; apply LW.nil; refine thenN ?_; refine CW.seq ?_; refine CW.seq ?_; refine CW.region ?_; apply LW.v0; rfl; rfl; apply ValP.move; rfl; apply LW.v0; rfl; rfl; apply ValP.lenR; rfl; infer_instance; rfl; apply LW.nil; refine thenN ?_; refine CW.block ?_; refine CW.seq ?_; refine CW.region ?_; apply LW.v0; rfl; rfl; apply ValP.eqT; rfl; rfl; omega; apply LW.v0; rfl; rfl; apply ValP.assign; rfl; apply LW.nil; refine thenN ?_; apply CW.condT; rfl; (with_reducible rfl); refine CW.seq ?_; refine CW.region ?_; apply LW.v0; rfl; rfl; apply ValP.assign; rfl; apply LW.nil; refine thenN ?_; refine CW.ret ?_; refine blkR ?_; refine thenR ?_)
    (apply finR; exact .inl rfl; rfl; rfl; rfl; apply ResL.cons; exact Res.tmp rfl; exact ResL.nil)
    rfl
  · have hln : L.length = R.length + 1 := by rw [hL]; rfl
    have hjl := jn_len x R
    have hb' : (jn x R).length ≤ 100000 := by rw [hL] at hb; exact hb
    obtain ⟨b, off, c', cs, E, fr, heq, hbk, hx⟩ := hv.pos (by omega)
    cases heq
    rw [← hL] at hjl
    rw [scs_flat] at hx
    have hrd : ∀ m (h : m < L.length), Rd Tryd.prog 9 (.cells cs E fr) (off + m * 1) (sv L[m]) := fun m h => Rd.elem1 hx (scs_one L) (List.getElem?_eq_getElem h) rfl
    have hr0 : Rd Tryd.prog 9 (.cells cs E fr) off (sv x) := by
      have := hrd 0 (by omega)
      simpa [hL] using this
    have hvd := RowAt.drop (k := 1) hv (by omega)
    rw [show L.length - 1 = R.length by omega, show (scs L).drop (1 * 1) = scs R by rw [hL]; rfl] at hvd
    rcases Nat.eq_zero_or_pos R.length with h0 | h0
    · have hR := List.eq_nil_of_length_eq_zero h0
      have hj : joinW L = x := by rw [hL, hR]; simp [joinW, jn]
      rw [hj, show L.length = 1 by omega]
      refine enter (args := [_, _]) _ [] [] Tryd.func40 rfl Tryd.ntmps40 rfl (by simp) .nil ?_
      (refine CW.seq ?_; refine CW.region ?_; apply LW.v0; rfl; rfl; apply ValP.assign; rfl; apply LW.nil; refine thenN ?_; refine CW.seq ?_; refine CW.seq ?_; refine CW.region ?_; apply LW.v0; rfl; rfl; apply ValP.move; rfl; apply LW.v0; rfl; rfl; apply ValP.lenR; rfl; infer_instance; rfl; apply LW.nil; refine thenN ?_; refine CW.block ?_; refine CW.seq ?_; refine CW.region ?_; apply LW.v0; rfl; rfl; apply ValP.eqF; rfl; rfl; omega; apply LW.v0; rfl; rfl; apply ValP.assign; rfl; apply LW.nil; refine thenN ?_; apply CW.condF; rfl; (with_reducible rfl); refine CW.seq ?_; refine CW.region ?_; apply LW.v0; rfl; rfl; apply ValP.eqT; rfl; rfl; omega; apply LW.v0; rfl; rfl; apply ValP.assign; rfl; apply LW.nil; refine thenN ?_; apply CW.condT; rfl; (with_reducible rfl); refine CW.seq ?_; refine CW.region ?_; apply LW.v0; rfl; rfl; apply ValP.move; rfl; apply LW.v0; rfl; rfl; apply ValP.indexAddrSL; rfl; rfl; decide; omega; apply LW.load; rfl; rfl; exact Known.ext (by assumption) (by simp); assumption; apply LW.v0; rfl; rfl; apply ValP.assign; rfl; apply LW.nil; refine thenN ?_; refine CW.ret ?_; refine blkR ?_; refine thenR ?_)
      (apply finR; exact .inl rfl; rfl; rfl; rfl; apply ResL.cons; exact Res.tmp rfl; exact ResL.nil)
      rfl
    · have hj : joinW L = jn x R := by rw [hL]; rfl
      obtain ⟨p2, c2, hp2, hc2, hm2⟩ := hvd.form
      obtain ⟨b2, off2, c3, cs2, E2, fr2, heq2, hbk2, hx2⟩ := hvd.pos h0
      rw [hp2] at heq2
      cases heq2
      rw [scs_flat] at hx2
      have hrd2 : ∀ m (h : m < R.length), Rd Tryd.prog 9 (.cells cs2 E2 fr2) (off2 + m * 1) (sv R[m]) := fun m h => Rd.elem1 hx2 (scs_one R) (List.getElem?_eq_getElem h) rfl
      have hxl : x.length ≤ (jn x R).length := by
        have := jn_le x R 0
        simp only [jn, List.take_zero, List.flatMap_nil, List.append_nil] at this; exact this
      rw [hj]
      obtain ⟨B, hB⟩ : ∃ B : List UInt8, [32] = B := ⟨_, rfl⟩
      rw [hB] at hl1 hl2 ⊢
      refine enter (args := [_, _]) _ [] [] Tryd.func40 rfl Tryd.ntmps40 rfl (by simp) .nil ?_
      have hD1 : 2 ≤ 9223372036854775807 / (L.length - 1) := (Nat.le_div_iff_mul_le (by omega)).2 (by omega)
      obtain ⟨D, hD⟩ : ∃ D, 9223372036854775807 / (L.length - 1) = D := ⟨_, rfl⟩
      rw [hD] at hD1
      (refine CW.seq ?_; refine CW.region ?_; apply LW.v0; rfl; rfl; apply ValP.assign; rfl; apply LW.nil; refine thenN ?_; refine CW.seq ?_; refine CW.seq ?_; refine CW.region ?_; apply LW.v0; rfl; rfl; apply ValP.move; rfl; apply LW.v0; rfl; rfl; apply ValP.lenR; rfl; infer_instance; rfl; apply LW.nil; refine thenN ?_; refine CW.block ?_; refine CW.seq ?_; refine CW.region ?_; apply LW.v0; rfl; rfl; apply ValP.eqF; rfl; rfl; omega; apply LW.v0; rfl; rfl; apply ValP.assign; rfl; apply LW.nil; refine thenN ?_; apply CW.condF; rfl; (with_reducible rfl); refine CW.seq ?_; refine CW.region ?_; apply LW.v0; rfl; rfl; apply ValP.eqF; rfl; rfl; omega; apply LW.v0; rfl; rfl; apply ValP.assign; rfl; apply LW.nil; refine thenN ?_; apply CW.condF; rfl; (with_reducible rfl); refine CW.skip ?_; refine blkN ?_; refine thenN ?_; refine CW.seq ?_; refine CW.region ?_; apply LW.v0; rfl; rfl; apply ValP.assign; rfl; apply LW.nil; refine thenN ?_; refine CW.seq ?_; refine CW.seq ?_; refine CW.region ?_; apply LW.v0; rfl; rfl; apply ValP.move; rfl; apply LW.v0; rfl; rfl; apply ValP.lenStr; rfl; infer_instance; rfl; apply LW.v0; rfl; rfl; apply ValP.gtrT; rfl; rfl; omega; apply LW.nil; refine thenN ?_; apply CW.condT; rfl; (with_reducible rfl); refine CW.seq ?_; refine CW.seq ?_; refine CW.region ?_; apply LW.v0; rfl; rfl; apply ValP.move; rfl; apply LW.v0; rfl; rfl; apply ValP.lenStr; rfl; infer_instance; rfl; apply LW.v0; rfl; rfl; apply ValP.move; rfl; apply LW.v0; rfl; rfl; apply ValP.lenR; rfl; infer_instance; rfl; apply LW.v0; rfl; rfl; apply ValP.subZL; rfl; rfl; decide; omega; omega; apply LW.v0; rfl; rfl; apply ValP.quoZK; rfl; rfl; decide; omega; omega; apply LW.v0; rfl; rfl; apply ValP.geqF; rfl; rfl; omega; apply LW.nil; refine thenN ?_; apply CW.condF; rfl; (with_reducible rfl); refine CW.skip ?_; refine thenN ?_; refine CW.region ?_; apply LW.v0; rfl; rfl; apply ValP.move; rfl; apply LW.v0; rfl; rfl; apply ValP.move; rfl; apply LW.v0; rfl; rfl; apply ValP.lenStr; rfl; infer_instance; rfl; apply LW.v0; rfl; rfl; apply ValP.move; rfl; apply LW.v0; rfl; rfl; apply ValP.lenR; rfl; infer_instance; rfl; apply LW.v0; rfl; rfl; apply ValP.subZL; rfl; rfl; decide; omega; omega)
      rw [hD]
      skip
      refine LW.v0 rfl rfl (ValP.mulZ (m := B.length) (n := L.length - 1) rfl rfl (by rw [hl2]; omega)) ?_
      rw [hl2, show 1 * (L.length - 1) = R.length by omega]
      (apply LW.v0; rfl; rfl; apply ValP.addZK; rfl; rfl; decide; omega; apply LW.v0; rfl; rfl; apply ValP.assign; rfl; apply LW.nil; refine thenN ?_; refine CW.seq ?_; refine CW.seq ?_; refine CW.region ?_; apply LW.v0; rfl; rfl; apply ValP.move; rfl; apply LW.v0; rfl; rfl; apply ValP.lenR; rfl; infer_instance; rfl; apply LW.v0; rfl; rfl; apply ValP.move; rfl; apply LW.nil; refine thenN ?_; refine CW.block ?_)
      have hz : 0 + R.length = R.length + ((L.take 0).map List.length).sum := by simp
      rw [hz]
      refine CW.loop (fun m : Nat => ([(0, .slice (some ⟨b, off, none⟩) L.length c), (1, sv B), (4, sv []), (5, .int .i64 ((R.length + ((L.take m).map List.length).sum : Nat) : Int)), (39, .slice (some ⟨b, off, none⟩) L.length c), (40, .int .i64 (L.length : Int)), (41, .int .i64 (m : Int))], []))
        (fun m => m ≤ L.length) (fun m => L.length - m) 0 (Nat.zero_le _) ⟨rfl, rfl, rfl, rfl, rfl, rfl, rfl, trivial⟩ (List.Sublist.refl _) ?_
      intro m hml
      dsimp only at hml ⊢
      have hsz := sz_le L m
      rw [hL] at hsz
      rw [← hL] at hsz
      rcases Nat.lt_or_ge m L.length with hlt | hge
      · have hst := sz_step L m hlt
        have hsz1 := sz_le L (m + 1)
        have hrm := hrd m hlt
        obtain ⟨Z, hZ⟩ : ∃ Z, ((L.take m).map List.length).sum = Z := ⟨_, rfl⟩
        rw [hZ] at hst hsz ⊢
        obtain ⟨u, hu⟩ : ∃ u, L[m] = u := ⟨_, rfl⟩
        rw [hu] at hst hrm
        (refine CW.seq ?_; refine CW.region ?_; apply LW.v0; rfl; rfl; apply ValP.lssT; rfl; rfl; omega; apply LW.nil; refine thenN ?_; refine CW.seq ?_; apply CW.condT; rfl; (with_reducible rfl); refine CW.skip ?_; refine thenN ?_; refine CW.seq ?_; refine CW.block ?_; refine CW.seq ?_; refine CW.region ?_; apply LW.v0; rfl; rfl; apply ValP.indexAddrS; rfl; rfl; rfl; omega; apply LW.load; rfl; rfl; exact Known.ext (by assumption) (by simp); assumption; apply LW.v0; rfl; rfl; apply ValP.assign; rfl; apply LW.nil; refine thenN ?_; refine CW.seq ?_; refine CW.seq ?_; refine CW.region ?_; apply LW.v0; rfl; rfl; apply ValP.move; rfl; apply LW.v0; rfl; rfl; apply ValP.lenStr; rfl; infer_instance; rfl; apply LW.v0; rfl; rfl; apply ValP.move; rfl; apply LW.v0; rfl; rfl; apply ValP.subZK; rfl; rfl; decide; omega; omega; apply LW.v0; rfl; rfl; apply ValP.gtrF; rfl; rfl; omega; apply LW.nil; refine thenN ?_; apply CW.condF; rfl; (with_reducible rfl); refine CW.skip ?_; refine thenN ?_; refine CW.region ?_; apply LW.v0; rfl; rfl; apply ValP.move; rfl; apply LW.v0; rfl; rfl; apply ValP.move; rfl; apply LW.v0; rfl; rfl; apply ValP.lenStr; rfl; infer_instance; rfl; apply LW.v0; rfl; rfl; apply ValP.addZ; rfl; rfl; omega; apply LW.v0; rfl; rfl; apply ValP.assign; rfl; apply LW.nil; refine blkN ?_; refine thenN ?_; refine CW.region ?_; apply LW.v0; rfl; rfl; apply ValP.addZL; rfl; rfl; decide; omega; apply LW.v0; rfl; rfl; apply ValP.move; rfl; apply LW.nil)
        apply thenX
        refine ⟨rfl, m + 1, hlt, by omega, ⟨rfl, rfl, rfl, ?_, rfl, rfl, rfl, trivial⟩, List.Sublist.refl _⟩
        rw [hst, ← Nat.add_assoc]; rfl
      · obtain rfl : m = L.length := by omega
        rw [List.take_length]
        rw [← hjl]
        (refine CW.seq ?_; refine CW.region ?_; apply LW.v0; rfl; rfl; apply ValP.lssF; rfl; rfl; omega; apply LW.nil; refine thenN ?_; refine CW.seq ?_; apply CW.condF; rfl; (with_reducible rfl); refine CW.exit ?_; refine thenE ?_; refine thenE ?_; refine blkE rfl ?_; refine thenN ?_; refine CW.seq ?_; refine CW.region ?_; apply LW.allocA; rfl; intro _; apply LW.nil; refine thenN ?_; refine CW.seq ?_; refine CW.region ?_; apply LW.v0; rfl; rfl; apply ValP.move; rfl)
        rename_i bb
        refine LW.callStF rfl rfl inferInstance (by (apply ArgsOk.cons; rfl; apply ArgsOk.cons; rfl; exact ArgsOk.nil)) rfl (fun w' hst => Grow_calls w [] bb (jn x R).length (by omega) (by omega) _ w' hst) ?_
        rintro vg fs' ⟨v', seg', rfl, hr', rfl⟩
        refine LW.perm (fs' := bB bb (.pointer (some ⟨bb, 0, none⟩)) v' :: (seg' ++ [])) List.perm_middle.symm ?_
        have hp : Value.pointer (some ⟨bb, 0, none⟩) = .pointer none ∨ Value.pointer (some ⟨bb, 0, none⟩) = .pointer (some ⟨bb, 0, none⟩) := .inr rfl
        (apply LW.nil; refine thenN ?_; refine CW.seq ?_; refine CW.region ?_; apply LW.v0; rfl; rfl; apply ValP.move; rfl; apply LW.v0; rfl; rfl; apply ValP.indexAddrSL; rfl; rfl; decide; omega; apply LW.load; rfl; rfl; exact Known.ext (by assumption) (by simp); assumption)
        refine LW.callStF rfl rfl inferInstance (by (apply ArgsOk.cons; rfl; apply ArgsOk.cons; rfl; exact ArgsOk.nil)) rfl (fun w' hst => WriteString_calls w [] bb _ v' hp 0 x (by omega) [] seg' _ hr' w' hst) ?_
        rintro vg fs' ⟨v1, seg1, rfl, hr1, rfl⟩
        (apply LW.nil; refine thenN ?_; refine CW.seq ?_; refine CW.seq ?_; refine CW.region ?_; apply LW.v0; rfl; rfl; apply ValP.move; rfl; apply LW.v0; rfl; rfl; apply ValP.cutFromL; infer_instance; infer_instance; rfl; rfl; decide; omega; apply LW.v0; rfl; rfl; apply ValP.lenR; rfl; infer_instance; rfl; apply LW.v0; rfl; rfl; apply ValP.move; rfl; apply LW.nil; refine thenN ?_; refine CW.block ?_)
        rw [hp2, show L.length - 1 = R.length by omega]
        have hq0 : (ucs x) = ucs (jn x (R.take 0)) := by simp [jn]
        have hq1 : x.length = (jn x (R.take 0)).length := by simp [jn]
        rw [Nat.zero_add, List.nil_append, hq0, hq1] at hr1
        refine CW.loop (fun y : BX => ([(65, .int .i64 (y.k : Int)), (64, .int .i64 (R.length : Int)), (63, .slice (some ⟨b2, off2, none⟩) R.length c2), (8, .pointer (some ⟨bb, 0, none⟩)), (1, sv B)], bB bb (.pointer (some ⟨bb, 0, none⟩)) y.v :: (y.seg ++ [])))
          (fun y => y.k ≤ R.length ∧ IsRow 5 1 y.v (jn x (R.take y.k)).length (ucs (jn x (R.take y.k))) y.seg) (fun y => R.length - y.k) ⟨0, v1, seg1⟩ ⟨Nat.zero_le _, hr1⟩ ⟨rfl, rfl, rfl, rfl, rfl, trivial⟩ (List.Sublist.refl _) ?_
        rintro ⟨k, v2, seg2⟩ ⟨hk, hr2⟩
        dsimp only at hk hr2 ⊢
        have hjk := jn_le x R k
        rcases Nat.lt_or_ge k R.length with hlt | hge
        · have hjs := jn_step x R k hlt
          have hjk1 := jn_le x R (k + 1)
          have hrk := hrd2 k hlt
          obtain ⟨u, hu⟩ : ∃ u, R[k] = u := ⟨_, rfl⟩
          rw [hu] at hjs hrk
          have hjl2 : (jn x (R.take (k + 1))).length = (jn x (R.take k)).length + 1 + u.length := by rw [hjs]; simp; omega
          obtain ⟨J, hJ⟩ : ∃ J, jn x (R.take k) = J := ⟨_, rfl⟩
          rw [hJ] at hr2 hjs hjl2
          (refine CW.seq ?_; refine CW.region ?_; apply LW.v0; rfl; rfl; apply ValP.lssT; rfl; rfl; omega; apply LW.nil; refine thenN ?_; refine CW.seq ?_; apply CW.condT; rfl; (with_reducible rfl); refine CW.skip ?_; refine thenN ?_; refine CW.seq ?_; refine CW.block ?_; refine CW.seq ?_; refine CW.region ?_; apply LW.v0; rfl; rfl; apply ValP.indexAddrS; rfl; rfl; rfl; omega; apply LW.load; rfl; rfl; exact Known.ext (by assumption) (by simp); assumption; apply LW.v0; rfl; rfl; apply ValP.assign; rfl; apply LW.nil; refine thenN ?_; refine CW.seq ?_; refine CW.region ?_; apply LW.v0; rfl; rfl; apply ValP.move; rfl)
          refine LW.callStF rfl rfl inferInstance (by (apply ArgsOk.cons; rfl; apply ArgsOk.cons; rfl; exact ArgsOk.nil)) rfl (fun w' hst => WriteString_calls w [] bb _ v2 hp J.length B (by omega) (ucs J) seg2 _ hr2 w' hst) ?_
          rintro vg fs' ⟨v3, seg3, rfl, hr3, rfl⟩
          (apply LW.nil; refine thenN ?_; refine CW.region ?_; apply LW.v0; rfl; rfl; apply ValP.move; rfl)
          refine LW.callStF rfl rfl inferInstance (by (apply ArgsOk.cons; rfl; apply ArgsOk.cons; rfl; exact ArgsOk.nil)) rfl (fun w' hst => WriteString_calls w [] bb _ v3 hp (J.length + B.length) u (by omega) (ucs J ++ ucs B) seg3 _ hr3 w' hst) ?_
          rintro vg fs' ⟨v4, seg4, rfl, hr4, rfl⟩
          (apply LW.nil; refine blkN ?_; refine thenN ?_; refine CW.region ?_; apply LW.v0; rfl; rfl; apply ValP.addZL; rfl; rfl; decide; omega; apply LW.v0; rfl; rfl; apply ValP.move; rfl; apply LW.nil)
          apply thenX
          rw [← ucs_app, ← ucs_app, hl2, ← hjl2, ← hB, ← hjs] at hr4
          exact ⟨rfl, ⟨k + 1, v4, seg4⟩, ⟨hlt, hr4⟩, by show R.length - (k + 1) < R.length - k; omega, ⟨rfl, rfl, rfl, rfl, rfl, trivial⟩, List.Sublist.refl _⟩
        · obtain rfl : k = R.length := by omega
          rw [List.take_length] at hr2
          (refine CW.seq ?_; refine CW.region ?_; apply LW.v0; rfl; rfl; apply ValP.lssF; rfl; rfl; omega; apply LW.nil; refine thenN ?_; refine CW.seq ?_; apply CW.condF; rfl; (with_reducible rfl); refine CW.exit ?_; refine thenE ?_; refine thenE ?_; refine blkE rfl ?_; refine thenN ?_; refine CW.seq ?_; refine CW.region ?_)
          refine LW.callStF rfl rfl inferInstance (by (apply ArgsOk.cons; rfl; exact ArgsOk.nil)) rfl (fun w' hst => StringG_calls w [] bb _ v2 (jn x R).length (by omega) (by omega) (jn x R) seg2 _ hr2 w' hst) ?_
          rintro vg fs' ⟨rfl, rfl⟩
          (apply LW.v0; rfl; rfl; apply ValP.assign; rfl; apply LW.nil; refine thenN ?_; refine CW.ret ?_)
          (apply finR; exact .inl rfl; rfl; rfl; rfl; apply ResL.cons; exact Res.tmp rfl; exact ResL.nil)
          rfl
end Go.Proofs.YtbhicncgjplnoaaDoor

/-
  The operation of a byte and of a name, by the document's answer too: contracts.
  Conditions: none.
-/
namespace Go.Proofs.YtbhicncgjplnoaaDoor
open Go Go.RowKit SL
set_option maxRecDepth 8000
set_option maxHeartbeats 4000000
set_option linter.unusedSimpArgs false
set_option linter.unusedVariables false
attribute [local irreducible] SL.CW SL.LW SL.DW Calls SL.Ret SL.RetG SL.beginQ SL.roundQ SL.rangeQ SL.inQ SL.RW SL.AnyW SL.thenQ SL.thenC SL.thenW SL.blkQ SL.finQ SL.ValP SL.NewP SL.SetP SL.CallP SL.Rd SL.Wr SL.Known
theorem digit_ucs (n : Nat) (h : n < 10) : [Value.int .u8 (((48 + n) % 256 : Nat) : Int)] = ucs [UInt8.ofNat (48 + n)] := by
  have : ((UInt8.ofNat (48 + n)).toNat : Nat) = (48 + n) % 256 := by simp
  show _ = [Value.int .u8 (((UInt8.ofNat (48 + n)).toNat : Nat) : Int)]
  rw [this]
theorem number1_calls (n : Nat) (hn : n < 10) (w : World) : Calls Tryd.prog 36 #[.int .i64 (n : Int)] w (Ret w (sv [UInt8.ofNat (48 + n)])) := by
  have hd := digit_ucs n hn
  refine enter (args := [_]) _ [] [] Tryd.func36 rfl Tryd.ntmps36 rfl (by simp) .nil ?_
  (refine CW.seq ?_; refine CW.region ?_; apply LW.v0; rfl; rfl; apply ValP.assign; rfl; apply LW.nil; refine thenN ?_; refine CW.seq ?_; refine CW.seq ?_; refine CW.region ?_; apply LW.v0; rfl; rfl; apply ValP.move; rfl; apply LW.v0; rfl; rfl; apply ValP.lssT; rfl; rfl; omega; apply LW.nil; refine thenN ?_; apply CW.condT; rfl; (with_reducible rfl); refine CW.seq ?_; refine CW.region ?_; apply LW.v0; rfl; rfl; apply ValP.move; rfl; apply LW.v0; rfl; rfl; apply ValP.addZK; rfl; rfl; decide; omega; apply LW.v0; rfl; rfl; apply ValP.convB; rfl; apply LW.lay1; rfl; infer_instance; infer_instance; rfl; rfl; rfl; rfl; rfl; rfl; intro _)
  rename_i b
  have hrow : ∀ w', w'.heap[b]? = some (.cells #[.int .u8 (((48 + n) % 256 : Nat) : Int)] 5 (0, 0)) → RowAt w' 1 (.slice (some ⟨b, 0, none⟩) 1 1) 1 (ucs [UInt8.ofNat (48 + n)]) := fun w' h =>
    RowAt.us (us := []) (cur := #[.int .u8 (((48 + n) % 256 : Nat) : Int)]) (E := 5) (fr := (0, 0)) (fun p hp => by rcases List.mem_singleton.1 hp with rfl; exact h) (Nat.le_refl _) (by decide) hd rfl
  refine LW.toStr rfl inferInstance inferInstance inferInstance rfl (fun w' hs => hrow w' (hs.own (b, _) (by (exact List.Mem.head _))).2) ?_
  (apply LW.v0; rfl; rfl; apply ValP.assign; rfl; apply LW.nil; refine thenN ?_; refine CW.ret ?_; refine thenR ?_)
  (apply finR; exact .inl rfl; rfl; rfl; rfl; apply ResL.cons; exact Res.tmp rfl; exact ResL.nil)
  rfl
theorem number_calls (n : Nat) (hn : n < 100) (w : World) : Calls Tryd.prog 36 #[.int .i64 (n : Int)] w (Ret w (sv (itoa n))) := by
  unfold itoa
  split
  · rename_i h; exact number1_calls n h w
  · rename_i h
    have h1 := number1_calls (n / 10) (by omega)
    have h2 := number1_calls (n % 10) (by omega)
    have l1 : [UInt8.ofNat (48 + n / 10)].length = 1 := rfl
    have l2 : [UInt8.ofNat (48 + n % 10)].length = 1 := rfl
    refine enter (args := [_]) _ [] [] Tryd.func36 rfl Tryd.ntmps36 rfl (by simp) .nil ?_
    obtain ⟨x, hx⟩ : ∃ x, [UInt8.ofNat (48 + n / 10)] = x := ⟨_, rfl⟩
    obtain ⟨y, hy⟩ : ∃ y, [UInt8.ofNat (48 + n % 10)] = y := ⟨_, rfl⟩
    rw [hx] at h1 l1
    rw [hy] at h2 l2
    rw [show [UInt8.ofNat (48 + n / 10), UInt8.ofNat (48 + n % 10)] = x ++ y by rw [← hx, ← hy]; rfl]
    (refine CW.seq ?_; refine CW.region ?_; apply LW.v0; rfl; rfl; apply ValP.assign; rfl; apply LW.nil; refine thenN ?_; refine CW.seq ?_; refine CW.seq ?_; refine CW.region ?_; apply LW.v0; rfl; rfl; apply ValP.move; rfl; apply LW.v0; rfl; rfl; apply ValP.lssF; rfl; rfl; omega; apply LW.nil; refine thenN ?_; apply CW.condF; rfl; (with_reducible rfl); refine CW.skip ?_; refine thenN ?_; refine CW.seq ?_; refine CW.region ?_; apply LW.v0; rfl; rfl; apply ValP.move; rfl; apply LW.v0; rfl; rfl; apply ValP.quoZL; rfl; rfl; decide; omega; omega; apply LW.callE; rfl; rfl; infer_instance; apply ArgsOk.cons; rfl; exact ArgsOk.nil; intro w _; exact h1 w; apply LW.v0; rfl; rfl; apply ValP.move; rfl; apply LW.v0; rfl; rfl; apply ValP.remZL; rfl; rfl; decide; omega; apply LW.callE; rfl; rfl; infer_instance; apply ArgsOk.cons; rfl; exact ArgsOk.nil; intro w _; exact h2 w; apply LW.v0; rfl; rfl; apply ValP.addStr; rfl; rfl; omega; apply LW.v0; rfl; rfl; apply ValP.assign; rfl; apply LW.nil; refine thenN ?_; refine CW.ret ?_)
    (apply finR; exact .inl rfl; rfl; rfl; rfl; apply ResL.cons; exact Res.tmp rfl; exact ResL.nil)
    rfl
def PlainR (v : Value) (gs : Fs) : Prop := ∃ b, v = .slice (some ⟨b, 0, none⟩) 50 50 ∧ gs = [(b, .cells (opcs plainOps).toArray 24 (0, 0))]
theorem rPlain_calls (w : World) : Calls Tryd.prog 37 #[] w (RetG w [] PlainR) := by
  refine enter (args := []) _ [] [] Tryd.func37 rfl Tryd.ntmps37 rfl (by simp) .nil ?_
  (refine CW.seq ?_; refine CW.region ?_; apply LW.v0; rfl; rfl; apply ValP.assign; rfl; apply LW.nil; refine thenN ?_; refine CW.seq ?_; refine CW.region ?_; apply LW.v0; rfl; rfl; apply ValP.buildT; infer_instance; infer_instance; apply PartsOk.cons; rfl; apply PartsOk.cons; rfl; exact PartsOk.nil; rfl; simp only [fillP, wrCells, Value.cells, List.getElem?_cons_zero, List.getElem?_cons_succ, List.toList_toArray, List.setIfInBounds_toArray, List.set_cons_succ, List.set_cons_zero, Nat.reduceAdd, Nat.zero_add]; rfl; apply LW.v0; rfl; rfl; apply ValP.buildT; infer_instance; infer_instance; apply PartsOk.cons; rfl; apply PartsOk.cons; rfl; apply PartsOk.cons; rfl; apply PartsOk.cons; rfl; exact PartsOk.nil; rfl; simp only [fillP, wrCells, Value.cells, List.getElem?_cons_zero, List.getElem?_cons_succ, List.toList_toArray, List.setIfInBounds_toArray, List.set_cons_succ, List.set_cons_zero, Nat.reduceAdd, Nat.zero_add]; rfl; apply LW.v0; rfl; rfl; apply ValP.buildT; infer_instance; infer_instance; apply PartsOk.cons; rfl; apply PartsOk.cons; rfl; apply PartsOk.cons; rfl; apply PartsOk.cons; rfl; exact PartsOk.nil; rfl; simp only [fillP, wrCells, Value.cells, List.getElem?_cons_zero, List.getElem?_cons_succ, List.toList_toArray, List.setIfInBounds_toArray, List.set_cons_succ, List.set_cons_zero, Nat.reduceAdd, Nat.zero_add]; rfl; apply LW.v0; rfl; rfl; apply ValP.buildT; infer_instance; infer_instance; apply PartsOk.cons; rfl; apply PartsOk.cons; rfl; apply PartsOk.cons; rfl; apply PartsOk.cons; rfl; exact PartsOk.nil; rfl; simp only [fillP, wrCells, Value.cells, List.getElem?_cons_zero, List.getElem?_cons_succ, List.toList_toArray, List.setIfInBounds_toArray, List.set_cons_succ, List.set_cons_zero, Nat.reduceAdd, Nat.zero_add]; rfl; apply LW.v0; rfl; rfl; apply ValP.buildT; infer_instance; infer_instance; apply PartsOk.cons; rfl; apply PartsOk.cons; rfl; apply PartsOk.cons; rfl; apply PartsOk.cons; rfl; exact PartsOk.nil; rfl; simp only [fillP, wrCells, Value.cells, List.getElem?_cons_zero, List.getElem?_cons_succ, List.toList_toArray, List.setIfInBounds_toArray, List.set_cons_succ, List.set_cons_zero, Nat.reduceAdd, Nat.zero_add]; rfl; apply LW.v0; rfl; rfl; apply ValP.buildT; infer_instance; infer_instance; apply PartsOk.cons; rfl; apply PartsOk.cons; rfl; apply PartsOk.cons; rfl; apply PartsOk.cons; rfl; exact PartsOk.nil; rfl; simp only [fillP, wrCells, Value.cells, List.getElem?_cons_zero, List.getElem?_cons_succ, List.toList_toArray, List.setIfInBounds_toArray, List.set_cons_succ, List.set_cons_zero, Nat.reduceAdd, Nat.zero_add]; rfl; apply LW.v0; rfl; rfl; apply ValP.buildT; infer_instance; infer_instance; apply PartsOk.cons; rfl; apply PartsOk.cons; rfl; apply PartsOk.cons; rfl; apply PartsOk.cons; rfl; exact PartsOk.nil; rfl; simp only [fillP, wrCells, Value.cells, List.getElem?_cons_zero, List.getElem?_cons_succ, List.toList_toArray, List.setIfInBounds_toArray, List.set_cons_succ, List.set_cons_zero, Nat.reduceAdd, Nat.zero_add]; rfl; apply LW.v0; rfl; rfl; apply ValP.buildT; infer_instance; infer_instance; apply PartsOk.cons; rfl; apply PartsOk.cons; rfl; apply PartsOk.cons; rfl; apply PartsOk.cons; rfl; exact PartsOk.nil; rfl; simp only [fillP, wrCells, Value.cells, List.getElem?_cons_zero, List.getElem?_cons_succ, List.toList_toArray, List.setIfInBounds_toArray, List.set_cons_succ, List.set_cons_zero, Nat.reduceAdd, Nat.zero_add]; rfl; apply LW.v0; rfl; rfl; apply ValP.buildT; infer_instance; infer_instance; apply PartsOk.cons; rfl; apply PartsOk.cons; rfl; apply PartsOk.cons; rfl; apply PartsOk.cons; rfl; exact PartsOk.nil; rfl; simp only [fillP, wrCells, Value.cells, List.getElem?_cons_zero, List.getElem?_cons_succ, List.toList_toArray, List.setIfInBounds_toArray, List.set_cons_succ, List.set_cons_zero, Nat.reduceAdd, Nat.zero_add]; rfl; apply LW.v0; rfl; rfl; apply ValP.buildT; infer_instance; infer_instance; apply PartsOk.cons; rfl; apply PartsOk.cons; rfl; apply PartsOk.cons; rfl; apply PartsOk.cons; rfl; exact PartsOk.nil; rfl; simp only [fillP, wrCells, Value.cells, List.getElem?_cons_zero, List.getElem?_cons_succ, List.toList_toArray, List.setIfInBounds_toArray, List.set_cons_succ, List.set_cons_zero, Nat.reduceAdd, Nat.zero_add]; rfl; apply LW.v0; rfl; rfl; apply ValP.buildT; infer_instance; infer_instance; apply PartsOk.cons; rfl; apply PartsOk.cons; rfl; apply PartsOk.cons; rfl; apply PartsOk.cons; rfl; exact PartsOk.nil; rfl; simp only [fillP, wrCells, Value.cells, List.getElem?_cons_zero, List.getElem?_cons_succ, List.toList_toArray, List.setIfInBounds_toArray, List.set_cons_succ, List.set_cons_zero, Nat.reduceAdd, Nat.zero_add]; rfl; apply LW.v0; rfl; rfl; apply ValP.buildT; infer_instance; infer_instance; apply PartsOk.cons; rfl; apply PartsOk.cons; rfl; apply PartsOk.cons; rfl; apply PartsOk.cons; rfl; exact PartsOk.nil; rfl; simp only [fillP, wrCells, Value.cells, List.getElem?_cons_zero, List.getElem?_cons_succ, List.toList_toArray, List.setIfInBounds_toArray, List.set_cons_succ, List.set_cons_zero, Nat.reduceAdd, Nat.zero_add]; rfl; apply LW.v0; rfl; rfl; apply ValP.buildT; infer_instance; infer_instance; apply PartsOk.cons; rfl; apply PartsOk.cons; rfl; apply PartsOk.cons; rfl; apply PartsOk.cons; rfl; exact PartsOk.nil; rfl; simp only [fillP, wrCells, Value.cells, List.getElem?_cons_zero, List.getElem?_cons_succ, List.toList_toArray, List.setIfInBounds_toArray, List.set_cons_succ, List.set_cons_zero, Nat.reduceAdd, Nat.zero_add]; rfl; apply LW.v0; rfl; rfl; apply ValP.buildT; infer_instance; infer_instance; apply PartsOk.cons; rfl; apply PartsOk.cons; rfl; apply PartsOk.cons; rfl; apply PartsOk.cons; rfl; exact PartsOk.nil; rfl; simp only [fillP, wrCells, Value.cells, List.getElem?_cons_zero, List.getElem?_cons_succ, List.toList_toArray, List.setIfInBounds_toArray, List.set_cons_succ, List.set_cons_zero, Nat.reduceAdd, Nat.zero_add]; rfl; apply LW.v0; rfl; rfl; apply ValP.buildT; infer_instance; infer_instance; apply PartsOk.cons; rfl; apply PartsOk.cons; rfl; apply PartsOk.cons; rfl; apply PartsOk.cons; rfl; exact PartsOk.nil; rfl; simp only [fillP, wrCells, Value.cells, List.getElem?_cons_zero, List.getElem?_cons_succ, List.toList_toArray, List.setIfInBounds_toArray, List.set_cons_succ, List.set_cons_zero, Nat.reduceAdd, Nat.zero_add]; rfl; apply LW.v0; rfl; rfl; apply ValP.buildT; infer_instance; infer_instance; apply PartsOk.cons; rfl; apply PartsOk.cons; rfl; apply PartsOk.cons; rfl; apply PartsOk.cons; rfl; exact PartsOk.nil; rfl; simp only [fillP, wrCells, Value.cells, List.getElem?_cons_zero, List.getElem?_cons_succ, List.toList_toArray, List.setIfInBounds_toArray, List.set_cons_succ, List.set_cons_zero, Nat.reduceAdd, Nat.zero_add]; rfl; apply LW.v0; rfl; rfl; apply ValP.buildT; infer_instance; infer_instance; apply PartsOk.cons; rfl; apply PartsOk.cons; rfl; apply PartsOk.cons; rfl; apply PartsOk.cons; rfl; exact PartsOk.nil; rfl; simp only [fillP, wrCells, Value.cells, List.getElem?_cons_zero, List.getElem?_cons_succ, List.toList_toArray, List.setIfInBounds_toArray, List.set_cons_succ, List.set_cons_zero, Nat.reduceAdd, Nat.zero_add]; rfl; apply LW.v0; rfl; rfl; apply ValP.buildT; infer_instance; infer_instance; apply PartsOk.cons; rfl; apply PartsOk.cons; rfl; apply PartsOk.cons; rfl; exact PartsOk.nil; rfl; simp only [fillP, wrCells, Value.cells, List.getElem?_cons_zero, List.getElem?_cons_succ, List.toList_toArray, List.setIfInBounds_toArray, List.set_cons_succ, List.set_cons_zero, Nat.reduceAdd, Nat.zero_add]; rfl; apply LW.v0; rfl; rfl; apply ValP.buildT; infer_instance; infer_instance; apply PartsOk.cons; rfl; apply PartsOk.cons; rfl; apply PartsOk.cons; rfl; apply PartsOk.cons; rfl; exact PartsOk.nil; rfl; simp only [fillP, wrCells, Value.cells, List.getElem?_cons_zero, List.getElem?_cons_succ, List.toList_toArray, List.setIfInBounds_toArray, List.set_cons_succ, List.set_cons_zero, Nat.reduceAdd, Nat.zero_add]; rfl; apply LW.v0; rfl; rfl; apply ValP.buildT; infer_instance; infer_instance; apply PartsOk.cons; rfl; apply PartsOk.cons; rfl; apply PartsOk.cons; rfl; exact PartsOk.nil; rfl; simp only [fillP, wrCells, Value.cells, List.getElem?_cons_zero, List.getElem?_cons_succ, List.toList_toArray, List.setIfInBounds_toArray, List.set_cons_succ, List.set_cons_zero, Nat.reduceAdd, Nat.zero_add]; rfl; apply LW.v0; rfl; rfl; apply ValP.buildT; infer_instance; infer_instance; apply PartsOk.cons; rfl; apply PartsOk.cons; rfl; apply PartsOk.cons; rfl; exact PartsOk.nil; rfl; simp only [fillP, wrCells, Value.cells, List.getElem?_cons_zero, List.getElem?_cons_succ, List.toList_toArray, List.setIfInBounds_toArray, List.set_cons_succ, List.set_cons_zero, Nat.reduceAdd, Nat.zero_add]; rfl; apply LW.v0; rfl; rfl; apply ValP.buildT; infer_instance; infer_instance; apply PartsOk.cons; rfl; apply PartsOk.cons; rfl; apply PartsOk.cons; rfl; exact PartsOk.nil; rfl; simp only [fillP, wrCells, Value.cells, List.getElem?_cons_zero, List.getElem?_cons_succ, List.toList_toArray, List.setIfInBounds_toArray, List.set_cons_succ, List.set_cons_zero, Nat.reduceAdd, Nat.zero_add]; rfl; apply LW.v0; rfl; rfl; apply ValP.buildT; infer_instance; infer_instance; apply PartsOk.cons; rfl; apply PartsOk.cons; rfl; apply PartsOk.cons; rfl; apply PartsOk.cons; rfl; exact PartsOk.nil; rfl; simp only [fillP, wrCells, Value.cells, List.getElem?_cons_zero, List.getElem?_cons_succ, List.toList_toArray, List.setIfInBounds_toArray, List.set_cons_succ, List.set_cons_zero, Nat.reduceAdd, Nat.zero_add]; rfl; apply LW.v0; rfl; rfl; apply ValP.buildT; infer_instance; infer_instance; apply PartsOk.cons; rfl; apply PartsOk.cons; rfl; apply PartsOk.cons; rfl; exact PartsOk.nil; rfl; simp only [fillP, wrCells, Value.cells, List.getElem?_cons_zero, List.getElem?_cons_succ, List.toList_toArray, List.setIfInBounds_toArray, List.set_cons_succ, List.set_cons_zero, Nat.reduceAdd, Nat.zero_add]; rfl; apply LW.v0; rfl; rfl; apply ValP.buildT; infer_instance; infer_instance; apply PartsOk.cons; rfl; apply PartsOk.cons; rfl; apply PartsOk.cons; rfl; exact PartsOk.nil; rfl; simp only [fillP, wrCells, Value.cells, List.getElem?_cons_zero, List.getElem?_cons_succ, List.toList_toArray, List.setIfInBounds_toArray, List.set_cons_succ, List.set_cons_zero, Nat.reduceAdd, Nat.zero_add]; rfl; apply LW.v0; rfl; rfl; apply ValP.buildT; infer_instance; infer_instance; apply PartsOk.cons; rfl; apply PartsOk.cons; rfl; apply PartsOk.cons; rfl; exact PartsOk.nil; rfl; simp only [fillP, wrCells, Value.cells, List.getElem?_cons_zero, List.getElem?_cons_succ, List.toList_toArray, List.setIfInBounds_toArray, List.set_cons_succ, List.set_cons_zero, Nat.reduceAdd, Nat.zero_add]; rfl; apply LW.v0; rfl; rfl; apply ValP.buildT; infer_instance; infer_instance; apply PartsOk.cons; rfl; apply PartsOk.cons; rfl; apply PartsOk.cons; rfl; exact PartsOk.nil; rfl; simp only [fillP, wrCells, Value.cells, List.getElem?_cons_zero, List.getElem?_cons_succ, List.toList_toArray, List.setIfInBounds_toArray, List.set_cons_succ, List.set_cons_zero, Nat.reduceAdd, Nat.zero_add]; rfl; apply LW.v0; rfl; rfl; apply ValP.buildT; infer_instance; infer_instance; apply PartsOk.cons; rfl; apply PartsOk.cons; rfl; apply PartsOk.cons; rfl; exact PartsOk.nil; rfl; simp only [fillP, wrCells, Value.cells, List.getElem?_cons_zero, List.getElem?_cons_succ, List.toList_toArray, List.setIfInBounds_toArray, List.set_cons_succ, List.set_cons_zero, Nat.reduceAdd, Nat.zero_add]; rfl; apply LW.v0; rfl; rfl; apply ValP.buildT; infer_instance; infer_instance; apply PartsOk.cons; rfl; apply PartsOk.cons; rfl; apply PartsOk.cons; rfl; exact PartsOk.nil; rfl; simp only [fillP, wrCells, Value.cells, List.getElem?_cons_zero, List.getElem?_cons_succ, List.toList_toArray, List.setIfInBounds_toArray, List.set_cons_succ, List.set_cons_zero, Nat.reduceAdd, Nat.zero_add]; rfl; apply LW.v0; rfl; rfl; apply ValP.buildT; infer_instance; infer_instance; apply PartsOk.cons; rfl; apply PartsOk.cons; rfl; apply PartsOk.cons; rfl; exact PartsOk.nil; rfl; simp only [fillP, wrCells, Value.cells, List.getElem?_cons_zero, List.getElem?_cons_succ, List.toList_toArray, List.setIfInBounds_toArray, List.set_cons_succ, List.set_cons_zero, Nat.reduceAdd, Nat.zero_add]; rfl; apply LW.v0; rfl; rfl; apply ValP.buildT; infer_instance; infer_instance; apply PartsOk.cons; rfl; apply PartsOk.cons; rfl; apply PartsOk.cons; rfl; exact PartsOk.nil; rfl; simp only [fillP, wrCells, Value.cells, List.getElem?_cons_zero, List.getElem?_cons_succ, List.toList_toArray, List.setIfInBounds_toArray, List.set_cons_succ, List.set_cons_zero, Nat.reduceAdd, Nat.zero_add]; rfl; apply LW.v0; rfl; rfl; apply ValP.buildT; infer_instance; infer_instance; apply PartsOk.cons; rfl; apply PartsOk.cons; rfl; apply PartsOk.cons; rfl; exact PartsOk.nil; rfl; simp only [fillP, wrCells, Value.cells, List.getElem?_cons_zero, List.getElem?_cons_succ, List.toList_toArray, List.setIfInBounds_toArray, List.set_cons_succ, List.set_cons_zero, Nat.reduceAdd, Nat.zero_add]; rfl; apply LW.v0; rfl; rfl; apply ValP.buildT; infer_instance; infer_instance; apply PartsOk.cons; rfl; apply PartsOk.cons; rfl; apply PartsOk.cons; rfl; apply PartsOk.cons; rfl; exact PartsOk.nil; rfl; simp only [fillP, wrCells, Value.cells, List.getElem?_cons_zero, List.getElem?_cons_succ, List.toList_toArray, List.setIfInBounds_toArray, List.set_cons_succ, List.set_cons_zero, Nat.reduceAdd, Nat.zero_add]; rfl; apply LW.v0; rfl; rfl; apply ValP.buildT; infer_instance; infer_instance; apply PartsOk.cons; rfl; apply PartsOk.cons; rfl; apply PartsOk.cons; rfl; exact PartsOk.nil; rfl; simp only [fillP, wrCells, Value.cells, List.getElem?_cons_zero, List.getElem?_cons_succ, List.toList_toArray, List.setIfInBounds_toArray, List.set_cons_succ, List.set_cons_zero, Nat.reduceAdd, Nat.zero_add]; rfl; apply LW.v0; rfl; rfl; apply ValP.buildT; infer_instance; infer_instance; apply PartsOk.cons; rfl; apply PartsOk.cons; rfl; apply PartsOk.cons; rfl; exact PartsOk.nil; rfl; simp only [fillP, wrCells, Value.cells, List.getElem?_cons_zero, List.getElem?_cons_succ, List.toList_toArray, List.setIfInBounds_toArray, List.set_cons_succ, List.set_cons_zero, Nat.reduceAdd, Nat.zero_add]; rfl; apply LW.v0; rfl; rfl; apply ValP.buildT; infer_instance; infer_instance; apply PartsOk.cons; rfl; apply PartsOk.cons; rfl; apply PartsOk.cons; rfl; apply PartsOk.cons; rfl; exact PartsOk.nil; rfl; simp only [fillP, wrCells, Value.cells, List.getElem?_cons_zero, List.getElem?_cons_succ, List.toList_toArray, List.setIfInBounds_toArray, List.set_cons_succ, List.set_cons_zero, Nat.reduceAdd, Nat.zero_add]; rfl; apply LW.v0; rfl; rfl; apply ValP.buildT; infer_instance; infer_instance; apply PartsOk.cons; rfl; apply PartsOk.cons; rfl; apply PartsOk.cons; rfl; exact PartsOk.nil; rfl; simp only [fillP, wrCells, Value.cells, List.getElem?_cons_zero, List.getElem?_cons_succ, List.toList_toArray, List.setIfInBounds_toArray, List.set_cons_succ, List.set_cons_zero, Nat.reduceAdd, Nat.zero_add]; rfl; apply LW.v0; rfl; rfl; apply ValP.buildT; infer_instance; infer_instance; apply PartsOk.cons; rfl; apply PartsOk.cons; rfl; apply PartsOk.cons; rfl; exact PartsOk.nil; rfl; simp only [fillP, wrCells, Value.cells, List.getElem?_cons_zero, List.getElem?_cons_succ, List.toList_toArray, List.setIfInBounds_toArray, List.set_cons_succ, List.set_cons_zero, Nat.reduceAdd, Nat.zero_add]; rfl; apply LW.v0; rfl; rfl; apply ValP.buildT; infer_instance; infer_instance; apply PartsOk.cons; rfl; apply PartsOk.cons; rfl; apply PartsOk.cons; rfl; exact PartsOk.nil; rfl; simp only [fillP, wrCells, Value.cells, List.getElem?_cons_zero, List.getElem?_cons_succ, List.toList_toArray, List.setIfInBounds_toArray, List.set_cons_succ, List.set_cons_zero, Nat.reduceAdd, Nat.zero_add]; rfl; apply LW.v0; rfl; rfl; apply ValP.buildT; infer_instance; infer_instance; apply PartsOk.cons; rfl; apply PartsOk.cons; rfl; apply PartsOk.cons; rfl; exact PartsOk.nil; rfl; simp only [fillP, wrCells, Value.cells, List.getElem?_cons_zero, List.getElem?_cons_succ, List.toList_toArray, List.setIfInBounds_toArray, List.set_cons_succ, List.set_cons_zero, Nat.reduceAdd, Nat.zero_add]; rfl; apply LW.v0; rfl; rfl; apply ValP.buildT; infer_instance; infer_instance; apply PartsOk.cons; rfl; apply PartsOk.cons; rfl; exact PartsOk.nil; rfl; simp only [fillP, wrCells, Value.cells, List.getElem?_cons_zero, List.getElem?_cons_succ, List.toList_toArray, List.setIfInBounds_toArray, List.set_cons_succ, List.set_cons_zero, Nat.reduceAdd, Nat.zero_add]; rfl; apply LW.v0; rfl; rfl; apply ValP.buildT; infer_instance; infer_instance; apply PartsOk.cons; rfl; apply PartsOk.cons; rfl; apply PartsOk.cons; rfl; apply PartsOk.cons; rfl; exact PartsOk.nil; rfl; simp only [fillP, wrCells, Value.cells, List.getElem?_cons_zero, List.getElem?_cons_succ, List.toList_toArray, List.setIfInBounds_toArray, List.set_cons_succ, List.set_cons_zero, Nat.reduceAdd, Nat.zero_add]; rfl; apply LW.v0; rfl; rfl; apply ValP.buildT; infer_instance; infer_instance; apply PartsOk.cons; rfl; apply PartsOk.cons; rfl; apply PartsOk.cons; rfl; exact PartsOk.nil; rfl; simp only [fillP, wrCells, Value.cells, List.getElem?_cons_zero, List.getElem?_cons_succ, List.toList_toArray, List.setIfInBounds_toArray, List.set_cons_succ, List.set_cons_zero, Nat.reduceAdd, Nat.zero_add]; rfl; apply LW.v0; rfl; rfl; apply ValP.buildT; infer_instance; infer_instance; apply PartsOk.cons; rfl; apply PartsOk.cons; rfl; apply PartsOk.cons; rfl; apply PartsOk.cons; rfl; exact PartsOk.nil; rfl; simp only [fillP, wrCells, Value.cells, List.getElem?_cons_zero, List.getElem?_cons_succ, List.toList_toArray, List.setIfInBounds_toArray, List.set_cons_succ, List.set_cons_zero, Nat.reduceAdd, Nat.zero_add]; rfl; apply LW.v0; rfl; rfl; apply ValP.buildT; infer_instance; infer_instance; apply PartsOk.cons; rfl; apply PartsOk.cons; rfl; apply PartsOk.cons; rfl; exact PartsOk.nil; rfl; simp only [fillP, wrCells, Value.cells, List.getElem?_cons_zero, List.getElem?_cons_succ, List.toList_toArray, List.setIfInBounds_toArray, List.set_cons_succ, List.set_cons_zero, Nat.reduceAdd, Nat.zero_add]; rfl; apply LW.v0; rfl; rfl; apply ValP.buildT; infer_instance; infer_instance; apply PartsOk.cons; rfl; apply PartsOk.cons; rfl; apply PartsOk.cons; rfl; apply PartsOk.cons; rfl; exact PartsOk.nil; rfl; simp only [fillP, wrCells, Value.cells, List.getElem?_cons_zero, List.getElem?_cons_succ, List.toList_toArray, List.setIfInBounds_toArray, List.set_cons_succ, List.set_cons_zero, Nat.reduceAdd, Nat.zero_add]; rfl; apply LW.v0; rfl; rfl; apply ValP.buildT; infer_instance; infer_instance; apply PartsOk.cons; rfl; apply PartsOk.cons; rfl; apply PartsOk.cons; rfl; apply PartsOk.cons; rfl; exact PartsOk.nil; rfl; simp only [fillP, wrCells, Value.cells, List.getElem?_cons_zero, List.getElem?_cons_succ, List.toList_toArray, List.setIfInBounds_toArray, List.set_cons_succ, List.set_cons_zero, Nat.reduceAdd, Nat.zero_add]; rfl; apply LW.v0; rfl; rfl; apply ValP.buildT; infer_instance; infer_instance; apply PartsOk.cons; rfl; apply PartsOk.cons; rfl; apply PartsOk.cons; rfl; apply PartsOk.cons; rfl; exact PartsOk.nil; rfl; simp only [fillP, wrCells, Value.cells, List.getElem?_cons_zero, List.getElem?_cons_succ, List.toList_toArray, List.setIfInBounds_toArray, List.set_cons_succ, List.set_cons_zero, Nat.reduceAdd, Nat.zero_add]; rfl; apply LW.v0; rfl; rfl; apply ValP.buildT; infer_instance; infer_instance; apply PartsOk.cons; rfl; apply PartsOk.cons; rfl; apply PartsOk.cons; rfl; exact PartsOk.nil; rfl; simp only [fillP, wrCells, Value.cells, List.getElem?_cons_zero, List.getElem?_cons_succ, List.toList_toArray, List.setIfInBounds_toArray, List.set_cons_succ, List.set_cons_zero, Nat.reduceAdd, Nat.zero_add]; rfl; apply LW.v0; rfl; rfl; apply ValP.buildT; infer_instance; infer_instance; apply PartsOk.cons; rfl; apply PartsOk.cons; rfl; exact PartsOk.nil; rfl; simp only [fillP, wrCells, Value.cells, List.getElem?_cons_zero, List.getElem?_cons_succ, List.toList_toArray, List.setIfInBounds_toArray, List.set_cons_succ, List.set_cons_zero, Nat.reduceAdd, Nat.zero_add]; rfl)
  refine LW.n0 rfl rfl (NewP.buildSN (vs := plainOps.zipIdx.map fun p => (p.2, .agg (opc p.1))) (c := (opcs plainOps).toArray) inferInstance inferInstance (by (apply PartsOk.cons; rfl; apply PartsOk.cons; rfl; apply PartsOk.cons; rfl; apply PartsOk.cons; rfl; apply PartsOk.cons; rfl; apply PartsOk.cons; rfl; apply PartsOk.cons; rfl; apply PartsOk.cons; rfl; apply PartsOk.cons; rfl; apply PartsOk.cons; rfl; apply PartsOk.cons; rfl; apply PartsOk.cons; rfl; apply PartsOk.cons; rfl; apply PartsOk.cons; rfl; apply PartsOk.cons; rfl; apply PartsOk.cons; rfl; apply PartsOk.cons; rfl; apply PartsOk.cons; rfl; apply PartsOk.cons; rfl; apply PartsOk.cons; rfl; apply PartsOk.cons; rfl; apply PartsOk.cons; rfl; apply PartsOk.cons; rfl; apply PartsOk.cons; rfl; apply PartsOk.cons; rfl; apply PartsOk.cons; rfl; apply PartsOk.cons; rfl; apply PartsOk.cons; rfl; apply PartsOk.cons; rfl; apply PartsOk.cons; rfl; apply PartsOk.cons; rfl; apply PartsOk.cons; rfl; apply PartsOk.cons; rfl; apply PartsOk.cons; rfl; apply PartsOk.cons; rfl; apply PartsOk.cons; rfl; apply PartsOk.cons; rfl; apply PartsOk.cons; rfl; apply PartsOk.cons; rfl; apply PartsOk.cons; rfl; apply PartsOk.cons; rfl; apply PartsOk.cons; rfl; apply PartsOk.cons; rfl; apply PartsOk.cons; rfl; apply PartsOk.cons; rfl; apply PartsOk.cons; rfl; apply PartsOk.cons; rfl; apply PartsOk.cons; rfl; apply PartsOk.cons; rfl; apply PartsOk.cons; rfl; exact PartsOk.nil)) rfl rfl (by kernel_rfl) (by kernel_rfl)) fun g => ?_
  (apply LW.v0; rfl; rfl; apply ValP.assign; rfl; apply LW.nil; refine thenN ?_; refine CW.ret ?_)
  apply finM [(g, .cells (opcs plainOps).toArray 24 (0, 0))]; (exact .inl rfl); (exact Shut.nil); rfl; (apply ResL.cons; exact Res.tmp rfl; exact ResL.nil); exact List.Sublist.refl _
  exact ⟨g, rfl, rfl⟩
theorem opOf_none {b : Nat} (hr : rowOp b = none) (h : ∀ i (hi : i < plainOps.length), plainOps[i].c ≠ b) : opOf b = none := by
  unfold opOf
  rw [hr]
  refine List.find?_eq_none.2 fun x hx => ?_
  obtain ⟨i, hi, rfl⟩ := List.mem_iff_getElem.1 hx
  simpa using h i hi
theorem opOf_plain {b i : Nat} (hr : rowOp b = none) (hi : i < plainOps.length) (h : ∀ j (hj : j < i), plainOps[j].c ≠ b) (he : plainOps[i].c = b) : opOf b = some plainOps[i] := by
  unfold opOf
  rw [hr]
  exact List.find?_eq_some_iff_getElem.2 ⟨by simpa using he, i, hi, rfl, fun j hj => by simpa using h j hj⟩
theorem plain_rdc (i : Nat) (hi : i < plainOps.length) {E : TypeId} {fr : Nat × Nat} : Rd Tryd.prog 5 (.cells (opcs plainOps).toArray E fr) (0 + i * 5 + 0) (.int .u8 (plainOps[i].c : Int)) := by
  refine Rd.one' ?_
  rw [nth_eq, Nat.zero_add]
  exact flat_get (g := opl) (opl_len plainOps) (List.getElem?_eq_getElem hi) rfl
theorem rOf_calls (b : Nat) (hb : b < 256) (w : World) : Calls Tryd.prog 12 #[.int .u8 (b : Int)] w (Ret w (tupOp (opOf b))) := by
  have hl := itoa_len
  refine enter (args := [_]) _ [] [] Tryd.func12 rfl Tryd.ntmps12 rfl (by simp) .nil ?_
  have hlow : ∀ x, rowOp b = some x → opOf b = some x := fun x h => by unfold opOf; rw [h]
  rcases Nat.lt_or_ge b 96 with h1 | h1
  · have hr : rowOp b = none := by unfold rowOp; rw [if_neg (by omega), if_neg (by omega), if_neg (by omega)]
    (refine CW.seq ?_; refine CW.region ?_; apply LW.allocA; rfl; intro _; apply LW.v0; rfl; rfl; apply ValP.assign; rfl; apply LW.nil; refine thenN ?_; refine CW.seq ?_; refine CW.region ?_; apply LW.v0; rfl; rfl; apply ValP.move; rfl; apply LW.v0; rfl; rfl; apply ValP.convI; rfl; omega; omega; apply LW.v0; rfl; rfl; apply ValP.assign; rfl; apply LW.nil; refine thenN ?_; refine CW.seq ?_; refine CW.seq ?_; refine CW.region ?_; apply LW.v0; rfl; rfl; apply ValP.move; rfl; apply LW.v0; rfl; rfl; apply ValP.geqF; rfl; rfl; omega; apply LW.v0; rfl; rfl; apply ValP.move; rfl; apply LW.guardF'; rfl; rfl; simp only [Bool.not_true, Bool.not_false]; rfl; apply LW.guardF'; rfl; rfl; simp only [Bool.not_true, Bool.not_false]; rfl; apply LW.v0; rfl; rfl; apply ValP.pickF'; rfl; (with_reducible rfl); rfl; apply LW.nil; refine thenN ?_; apply CW.condF; rfl; (with_reducible rfl); refine CW.skip ?_; refine thenN ?_; refine CW.seq ?_; refine CW.seq ?_; refine CW.region ?_; apply LW.v0; rfl; rfl; apply ValP.move; rfl; apply LW.v0; rfl; rfl; apply ValP.geqF; rfl; rfl; omega; apply LW.v0; rfl; rfl; apply ValP.move; rfl; apply LW.guardF'; rfl; rfl; simp only [Bool.not_true, Bool.not_false]; rfl; apply LW.guardF'; rfl; rfl; simp only [Bool.not_true, Bool.not_false]; rfl; apply LW.v0; rfl; rfl; apply ValP.pickF'; rfl; (with_reducible rfl); rfl; apply LW.nil; refine thenN ?_; apply CW.condF; rfl; (with_reducible rfl); refine CW.skip ?_; refine thenN ?_; refine CW.seq ?_; refine CW.seq ?_; refine CW.region ?_; apply LW.v0; rfl; rfl; apply ValP.move; rfl; apply LW.v0; rfl; rfl; apply ValP.geqF; rfl; rfl; omega; apply LW.v0; rfl; rfl; apply ValP.move; rfl; apply LW.guardF'; rfl; rfl; simp only [Bool.not_true, Bool.not_false]; rfl; apply LW.guardF'; rfl; rfl; simp only [Bool.not_true, Bool.not_false]; rfl; apply LW.v0; rfl; rfl; apply ValP.pickF'; rfl; (with_reducible rfl); rfl; apply LW.nil; refine thenN ?_; apply CW.condF; rfl; (with_reducible rfl); refine CW.skip ?_; refine thenN ?_; refine CW.seq ?_; refine CW.region ?_)
    (apply LW.callR; rfl; rfl; infer_instance; exact ArgsOk.nil; intro w hs)
    exact rPlain_calls w
    intro vp gp hpl
    obtain ⟨bp, rfl, rfl⟩ := hpl
    rename_i bo
    (apply LW.v0; rfl; rfl; apply ValP.assign; rfl; apply LW.nil; refine thenN ?_; refine CW.seq ?_; refine CW.seq ?_; refine CW.region ?_; apply LW.v0; rfl; rfl; apply ValP.assign; rfl; apply LW.nil; refine thenN ?_; refine CW.block ?_)
    refine CW.loop (fun i : Nat => ([(0, .int .u8 (b : Int)), (2, .pointer (some ⟨bo, 0, none⟩)), (3, .bool false), (5, .slice (some ⟨bp, 0, none⟩) 50 50), (6, .int .i64 (i : Int))], [(bp, .cells (opcs plainOps).toArray 24 (0, 0)), (bo, .cells (opc zeroOp) 24 (0, 0))]))
      (fun i => i ≤ 50 ∧ ∀ j (hj : j < plainOps.length), j < i → plainOps[j].c ≠ b) (fun i => 50 - i) 0 ⟨Nat.zero_le _, fun j hj h => absurd h (Nat.not_lt_zero _)⟩ ⟨rfl, rfl, rfl, rfl, rfl, trivial⟩ (List.Sublist.refl _) ?_
    rintro i ⟨hi, hall⟩
    dsimp only
    rcases Nat.lt_or_ge i 50 with hlt | hge
    · have hlt' : i < plainOps.length := hlt
      have hrc := plain_rdc i hlt' (E := 24) (fr := (0, 0))
      have hrd := plain_rd i hlt' (E := 24) (fr := (0, 0))
      have hop := fun he => opOf_plain hr hlt' (fun j hj => hall j (by omega) hj) he
      obtain ⟨y, hy⟩ : ∃ y, plainOps[i] = y := ⟨_, rfl⟩
      rw [hy] at hrc hrd hop
      by_cases he : y.c = b
      · rw [hop he]
        (refine CW.seq ?_; refine CW.seq ?_; refine CW.region ?_; apply LW.v0; rfl; rfl; apply ValP.move; rfl; apply LW.v0; rfl; rfl; apply ValP.move; rfl; apply LW.v0; rfl; rfl; apply ValP.lenR; rfl; infer_instance; rfl; apply LW.v0; rfl; rfl; apply ValP.lssT; rfl; rfl; omega; apply LW.nil; refine thenN ?_; apply CW.condT; rfl; (with_reducible rfl); refine CW.skip ?_; refine thenN ?_; refine CW.seq ?_; refine CW.block ?_; refine CW.seq ?_; refine CW.region ?_; apply LW.v0; rfl; rfl; apply ValP.move; rfl; apply LW.v0; rfl; rfl; apply ValP.move; rfl; apply LW.v0; rfl; rfl; apply ValP.indexAddrS; rfl; rfl; rfl; omega; apply LW.v0; rfl; rfl; apply ValP.fieldAddr; rfl; rfl; apply LW.load; rfl; rfl; apply Known.at; apply FsAt.head; assumption; apply LW.v0; rfl; rfl; apply ValP.move; rfl; apply LW.v0; rfl; rfl; apply ValP.eqT; rfl; rfl; omega; apply LW.nil; refine thenN ?_; apply CW.condT; rfl; (with_reducible rfl); refine CW.seq ?_; refine CW.region ?_; apply LW.v0; rfl; rfl; apply ValP.move; rfl; apply LW.v0; rfl; rfl; apply ValP.move; rfl; apply LW.v0; rfl; rfl; apply ValP.indexAddrS; rfl; rfl; rfl; omega; apply LW.load; rfl; rfl; apply Known.at; apply FsAt.head; assumption; apply LW.store; rfl; rfl; apply SetAt.tail; apply SetAt.head; apply Wr.whole; kernel_rfl; kernel_rfl; kernel_rfl; apply LW.v0; rfl; rfl; apply ValP.assign; rfl; apply LW.nil; refine thenN ?_; refine CW.ret ?_; refine blkR ?_; refine thenR ?_; refine thenR ?_; refine blkR ?_; refine thenR ?_)
        (apply finR; exact .inl rfl; rfl; rfl; rfl; apply ResL.cons; apply Res.cell; rfl; apply Known.at; apply FsAt.tail; apply FsAt.head; exact Rd.whole rfl; apply ResL.cons; exact Res.tmp rfl; exact ResL.nil)
        rfl
      · (refine CW.seq ?_; refine CW.seq ?_; refine CW.region ?_; apply LW.v0; rfl; rfl; apply ValP.move; rfl; apply LW.v0; rfl; rfl; apply ValP.move; rfl; apply LW.v0; rfl; rfl; apply ValP.lenR; rfl; infer_instance; rfl; apply LW.v0; rfl; rfl; apply ValP.lssT; rfl; rfl; omega; apply LW.nil; refine thenN ?_; apply CW.condT; rfl; (with_reducible rfl); refine CW.skip ?_; refine thenN ?_; refine CW.seq ?_; refine CW.block ?_; refine CW.seq ?_; refine CW.region ?_; apply LW.v0; rfl; rfl; apply ValP.move; rfl; apply LW.v0; rfl; rfl; apply ValP.move; rfl; apply LW.v0; rfl; rfl; apply ValP.indexAddrS; rfl; rfl; rfl; omega; apply LW.v0; rfl; rfl; apply ValP.fieldAddr; rfl; rfl; apply LW.load; rfl; rfl; apply Known.at; apply FsAt.head; assumption; apply LW.v0; rfl; rfl; apply ValP.move; rfl; apply LW.v0; rfl; rfl; apply ValP.eqF; rfl; rfl; omega; apply LW.nil; refine thenN ?_; apply CW.condF; rfl; (with_reducible rfl); refine CW.skip ?_; refine blkN ?_; refine thenN ?_; refine CW.region ?_; apply LW.v0; rfl; rfl; apply ValP.move; rfl; apply LW.v0; rfl; rfl; apply ValP.addZL; rfl; rfl; decide; omega; apply LW.v0; rfl; rfl; apply ValP.assign; rfl; apply LW.nil)
        apply thenX
        refine ⟨rfl, i + 1, ⟨hlt, fun j hj hji => ?_⟩, by omega, ⟨rfl, rfl, rfl, rfl, rfl, trivial⟩, List.Sublist.refl _⟩
        rcases Nat.lt_or_ge j i with h | h
        · exact hall j hj h
        · obtain rfl : j = i := by omega
          rw [hy]; exact he
    · rw [opOf_none hr (fun j hj => hall j hj (by have : plainOps.length = 50 := rfl; omega))]
      (refine CW.seq ?_; refine CW.seq ?_; refine CW.region ?_; apply LW.v0; rfl; rfl; apply ValP.move; rfl; apply LW.v0; rfl; rfl; apply ValP.move; rfl; apply LW.v0; rfl; rfl; apply ValP.lenR; rfl; infer_instance; rfl; apply LW.v0; rfl; rfl; apply ValP.lssF; rfl; rfl; omega; apply LW.nil; refine thenN ?_; apply CW.condF; rfl; (with_reducible rfl); refine CW.exit ?_; refine thenE ?_; refine thenE ?_; refine blkE rfl ?_; refine thenN ?_; refine CW.seq ?_; refine CW.region ?_; apply LW.v0; rfl; rfl; apply ValP.buildT; infer_instance; infer_instance; exact PartsOk.nil; rfl; simp only [fillP, wrCells, Value.cells, List.getElem?_cons_zero, List.getElem?_cons_succ, List.toList_toArray, List.setIfInBounds_toArray, List.set_cons_succ, List.set_cons_zero, Nat.reduceAdd, Nat.zero_add]; rfl; apply LW.store; rfl; rfl; apply SetAt.tail; apply SetAt.head; apply Wr.whole; kernel_rfl; kernel_rfl; kernel_rfl; apply LW.v0; rfl; rfl; apply ValP.assign; rfl; apply LW.nil; refine thenN ?_; refine CW.ret ?_)
      (apply finR; exact .inl rfl; rfl; rfl; rfl; apply ResL.cons; apply Res.cell; rfl; apply Known.at; apply FsAt.tail; apply FsAt.head; exact Rd.whole rfl; apply ResL.cons; exact Res.tmp rfl; exact ResL.nil)
      rfl
  rcases Nat.lt_or_ge b 128 with h2 | h2
  · rw [hlow ⟨b, [80, 85, 83, 72] ++ itoa (b - 95), 0, 1, b - 95⟩ (by unfold rowOp; rw [if_pos (by omega)])]
    have hn := number_calls (b - 95) (by omega)
    have hl1 := hl (b - 95)
    (refine CW.seq ?_; refine CW.region ?_; apply LW.allocA; rfl; intro _; apply LW.v0; rfl; rfl; apply ValP.assign; rfl; apply LW.nil; refine thenN ?_; refine CW.seq ?_; refine CW.region ?_; apply LW.v0; rfl; rfl; apply ValP.move; rfl; apply LW.v0; rfl; rfl; apply ValP.convI; rfl; omega; omega; apply LW.v0; rfl; rfl; apply ValP.assign; rfl; apply LW.nil; refine thenN ?_; refine CW.seq ?_; refine CW.seq ?_; refine CW.region ?_; apply LW.v0; rfl; rfl; apply ValP.move; rfl; apply LW.v0; rfl; rfl; apply ValP.geqT; rfl; rfl; omega; apply LW.v0; rfl; rfl; apply ValP.move; rfl; apply LW.guardT'; rfl; rfl; (with_reducible rfl); apply LW.v0; rfl; rfl; apply ValP.move; rfl; apply LW.guardT'; rfl; rfl; (with_reducible rfl); apply LW.v0; rfl; rfl; apply ValP.leqT; rfl; rfl; omega; apply LW.v0; rfl; rfl; apply ValP.pickT'; rfl; (with_reducible rfl); rfl; apply LW.nil; refine thenN ?_; apply CW.condT; rfl; (with_reducible rfl); refine CW.seq ?_; refine CW.region ?_; apply LW.v0; rfl; rfl; apply ValP.move; rfl; apply LW.v0; rfl; rfl; apply ValP.move; rfl; apply LW.v0; rfl; rfl; apply ValP.subZL; rfl; rfl; decide; omega; omega; apply LW.callE; rfl; rfl; infer_instance; apply ArgsOk.cons; rfl; exact ArgsOk.nil; intro w _; exact hn w; apply LW.v0; rfl; rfl; apply ValP.addStr; rfl; rfl; simp; omega; apply LW.v0; rfl; rfl; apply ValP.move; rfl; apply LW.v0; rfl; rfl; apply ValP.subZL; rfl; rfl; decide; omega; omega; apply LW.v0; rfl; rfl; apply ValP.buildT; infer_instance; infer_instance; apply PartsOk.cons; rfl; apply PartsOk.cons; rfl; apply PartsOk.cons; rfl; apply PartsOk.cons; rfl; exact PartsOk.nil; rfl; simp only [fillP, wrCells, Value.cells, List.getElem?_cons_zero, List.getElem?_cons_succ, List.toList_toArray, List.setIfInBounds_toArray, List.set_cons_succ, List.set_cons_zero, Nat.reduceAdd, Nat.zero_add]; rfl; apply LW.store; rfl; rfl; apply SetAt.head; apply Wr.whole; kernel_rfl; kernel_rfl; kernel_rfl; apply LW.v0; rfl; rfl; apply ValP.assign; rfl; apply LW.nil; refine thenN ?_; refine CW.ret ?_; refine thenR ?_)
    (apply finR; exact .inl rfl; rfl; rfl; rfl; apply ResL.cons; apply Res.cell; rfl; apply Known.at; apply FsAt.head; exact Rd.whole rfl; apply ResL.cons; exact Res.tmp rfl; exact ResL.nil)
    rfl
  rcases Nat.lt_or_ge b 144 with h3 | h3
  · rw [hlow ⟨b, [68, 85, 80] ++ itoa (b - 127), b - 127, b - 126, 0⟩ (by unfold rowOp; rw [if_neg (by omega), if_pos (by omega)])]
    have hn := number_calls (b - 127) (by omega)
    have hl1 := hl (b - 127)
    (refine CW.seq ?_; refine CW.region ?_; apply LW.allocA; rfl; intro _; apply LW.v0; rfl; rfl; apply ValP.assign; rfl; apply LW.nil; refine thenN ?_; refine CW.seq ?_; refine CW.region ?_; apply LW.v0; rfl; rfl; apply ValP.move; rfl; apply LW.v0; rfl; rfl; apply ValP.convI; rfl; omega; omega; apply LW.v0; rfl; rfl; apply ValP.assign; rfl; apply LW.nil; refine thenN ?_; refine CW.seq ?_; refine CW.seq ?_; refine CW.region ?_; apply LW.v0; rfl; rfl; apply ValP.move; rfl; apply LW.v0; rfl; rfl; apply ValP.geqT; rfl; rfl; omega; apply LW.v0; rfl; rfl; apply ValP.move; rfl; apply LW.guardT'; rfl; rfl; (with_reducible rfl); apply LW.v0; rfl; rfl; apply ValP.move; rfl; apply LW.guardT'; rfl; rfl; (with_reducible rfl); apply LW.v0; rfl; rfl; apply ValP.leqF; rfl; rfl; omega; apply LW.v0; rfl; rfl; apply ValP.pickT'; rfl; (with_reducible rfl); rfl; apply LW.nil; refine thenN ?_; apply CW.condF; rfl; (with_reducible rfl); refine CW.skip ?_; refine thenN ?_; refine CW.seq ?_; refine CW.seq ?_; refine CW.region ?_; apply LW.v0; rfl; rfl; apply ValP.move; rfl; apply LW.v0; rfl; rfl; apply ValP.geqT; rfl; rfl; omega; apply LW.v0; rfl; rfl; apply ValP.move; rfl; apply LW.guardT'; rfl; rfl; (with_reducible rfl); apply LW.v0; rfl; rfl; apply ValP.move; rfl; apply LW.guardT'; rfl; rfl; (with_reducible rfl); apply LW.v0; rfl; rfl; apply ValP.leqT; rfl; rfl; omega; apply LW.v0; rfl; rfl; apply ValP.pickT'; rfl; (with_reducible rfl); rfl; apply LW.nil; refine thenN ?_; apply CW.condT; rfl; (with_reducible rfl); refine CW.seq ?_; refine CW.region ?_; apply LW.v0; rfl; rfl; apply ValP.move; rfl; apply LW.v0; rfl; rfl; apply ValP.move; rfl; apply LW.v0; rfl; rfl; apply ValP.subZL; rfl; rfl; decide; omega; omega; apply LW.callE; rfl; rfl; infer_instance; apply ArgsOk.cons; rfl; exact ArgsOk.nil; intro w _; exact hn w; apply LW.v0; rfl; rfl; apply ValP.addStr; rfl; rfl; simp; omega; apply LW.v0; rfl; rfl; apply ValP.move; rfl; apply LW.v0; rfl; rfl; apply ValP.subZL; rfl; rfl; decide; omega; omega; apply LW.v0; rfl; rfl; apply ValP.move; rfl; apply LW.v0; rfl; rfl; apply ValP.subZL; rfl; rfl; decide; omega; omega; apply LW.v0; rfl; rfl; apply ValP.buildT; infer_instance; infer_instance; apply PartsOk.cons; rfl; apply PartsOk.cons; rfl; apply PartsOk.cons; rfl; apply PartsOk.cons; rfl; exact PartsOk.nil; rfl; simp only [fillP, wrCells, Value.cells, List.getElem?_cons_zero, List.getElem?_cons_succ, List.toList_toArray, List.setIfInBounds_toArray, List.set_cons_succ, List.set_cons_zero, Nat.reduceAdd, Nat.zero_add]; rfl; apply LW.store; rfl; rfl; apply SetAt.head; apply Wr.whole; kernel_rfl; kernel_rfl; kernel_rfl; apply LW.v0; rfl; rfl; apply ValP.assign; rfl; apply LW.nil; refine thenN ?_; refine CW.ret ?_; refine thenR ?_)
    (apply finR; exact .inl rfl; rfl; rfl; rfl; apply ResL.cons; apply Res.cell; rfl; apply Known.at; apply FsAt.head; exact Rd.whole rfl; apply ResL.cons; exact Res.tmp rfl; exact ResL.nil)
    rfl
  rcases Nat.lt_or_ge b 160 with h4 | h4
  · rw [hlow ⟨b, [83, 87, 65, 80] ++ itoa (b - 143), b - 142, b - 142, 0⟩ (by unfold rowOp; rw [if_neg (by omega), if_neg (by omega), if_pos (by omega)])]
    have hn := number_calls (b - 143) (by omega)
    have hl1 := hl (b - 143)
    (refine CW.seq ?_; refine CW.region ?_; apply LW.allocA; rfl; intro _; apply LW.v0; rfl; rfl; apply ValP.assign; rfl; apply LW.nil; refine thenN ?_; refine CW.seq ?_; refine CW.region ?_; apply LW.v0; rfl; rfl; apply ValP.move; rfl; apply LW.v0; rfl; rfl; apply ValP.convI; rfl; omega; omega; apply LW.v0; rfl; rfl; apply ValP.assign; rfl; apply LW.nil; refine thenN ?_; refine CW.seq ?_; refine CW.seq ?_; refine CW.region ?_; apply LW.v0; rfl; rfl; apply ValP.move; rfl; apply LW.v0; rfl; rfl; apply ValP.geqT; rfl; rfl; omega; apply LW.v0; rfl; rfl; apply ValP.move; rfl; apply LW.guardT'; rfl; rfl; (with_reducible rfl); apply LW.v0; rfl; rfl; apply ValP.move; rfl; apply LW.guardT'; rfl; rfl; (with_reducible rfl); apply LW.v0; rfl; rfl; apply ValP.leqF; rfl; rfl; omega; apply LW.v0; rfl; rfl; apply ValP.pickT'; rfl; (with_reducible rfl); rfl; apply LW.nil; refine thenN ?_; apply CW.condF; rfl; (with_reducible rfl); refine CW.skip ?_; refine thenN ?_; refine CW.seq ?_; refine CW.seq ?_; refine CW.region ?_; apply LW.v0; rfl; rfl; apply ValP.move; rfl; apply LW.v0; rfl; rfl; apply ValP.geqT; rfl; rfl; omega; apply LW.v0; rfl; rfl; apply ValP.move; rfl; apply LW.guardT'; rfl; rfl; (with_reducible rfl); apply LW.v0; rfl; rfl; apply ValP.move; rfl; apply LW.guardT'; rfl; rfl; (with_reducible rfl); apply LW.v0; rfl; rfl; apply ValP.leqF; rfl; rfl; omega; apply LW.v0; rfl; rfl; apply ValP.pickT'; rfl; (with_reducible rfl); rfl; apply LW.nil; refine thenN ?_; apply CW.condF; rfl; (with_reducible rfl); refine CW.skip ?_; refine thenN ?_; refine CW.seq ?_; refine CW.seq ?_; refine CW.region ?_; apply LW.v0; rfl; rfl; apply ValP.move; rfl; apply LW.v0; rfl; rfl; apply ValP.geqT; rfl; rfl; omega; apply LW.v0; rfl; rfl; apply ValP.move; rfl; apply LW.guardT'; rfl; rfl; (with_reducible rfl); apply LW.v0; rfl; rfl; apply ValP.move; rfl; apply LW.guardT'; rfl; rfl; (with_reducible rfl); apply LW.v0; rfl; rfl; apply ValP.leqT; rfl; rfl; omega; apply LW.v0; rfl; rfl; apply ValP.pickT'; rfl; (with_reducible rfl); rfl; apply LW.nil; refine thenN ?_; apply CW.condT; rfl; (with_reducible rfl); refine CW.seq ?_; refine CW.region ?_; apply LW.v0; rfl; rfl; apply ValP.move; rfl; apply LW.v0; rfl; rfl; apply ValP.move; rfl; apply LW.v0; rfl; rfl; apply ValP.subZL; rfl; rfl; decide; omega; omega; apply LW.callE; rfl; rfl; infer_instance; apply ArgsOk.cons; rfl; exact ArgsOk.nil; intro w _; exact hn w; apply LW.v0; rfl; rfl; apply ValP.addStr; rfl; rfl; simp; omega; apply LW.v0; rfl; rfl; apply ValP.move; rfl; apply LW.v0; rfl; rfl; apply ValP.subZL; rfl; rfl; decide; omega; omega; apply LW.v0; rfl; rfl; apply ValP.move; rfl; apply LW.v0; rfl; rfl; apply ValP.subZL; rfl; rfl; decide; omega; omega; apply LW.v0; rfl; rfl; apply ValP.buildT; infer_instance; infer_instance; apply PartsOk.cons; rfl; apply PartsOk.cons; rfl; apply PartsOk.cons; rfl; apply PartsOk.cons; rfl; exact PartsOk.nil; rfl; simp only [fillP, wrCells, Value.cells, List.getElem?_cons_zero, List.getElem?_cons_succ, List.toList_toArray, List.setIfInBounds_toArray, List.set_cons_succ, List.set_cons_zero, Nat.reduceAdd, Nat.zero_add]; rfl; apply LW.store; rfl; rfl; apply SetAt.head; apply Wr.whole; kernel_rfl; kernel_rfl; kernel_rfl; apply LW.v0; rfl; rfl; apply ValP.assign; rfl; apply LW.nil; refine thenN ?_; refine CW.ret ?_; refine thenR ?_)
    (apply finR; exact .inl rfl; rfl; rfl; rfl; apply ResL.cons; apply Res.cell; rfl; apply Known.at; apply FsAt.head; exact Rd.whole rfl; apply ResL.cons; exact Res.tmp rfl; exact ResL.nil)
    rfl
  · have hr : rowOp b = none := by unfold rowOp; rw [if_neg (by omega), if_neg (by omega), if_neg (by omega)]
    (refine CW.seq ?_; refine CW.region ?_; apply LW.allocA; rfl; intro _; apply LW.v0; rfl; rfl; apply ValP.assign; rfl; apply LW.nil; refine thenN ?_; refine CW.seq ?_; refine CW.region ?_; apply LW.v0; rfl; rfl; apply ValP.move; rfl; apply LW.v0; rfl; rfl; apply ValP.convI; rfl; omega; omega; apply LW.v0; rfl; rfl; apply ValP.assign; rfl; apply LW.nil; refine thenN ?_; refine CW.seq ?_; refine CW.seq ?_; refine CW.region ?_; apply LW.v0; rfl; rfl; apply ValP.move; rfl; apply LW.v0; rfl; rfl; apply ValP.geqT; rfl; rfl; omega; apply LW.v0; rfl; rfl; apply ValP.move; rfl; apply LW.guardT'; rfl; rfl; (with_reducible rfl); apply LW.v0; rfl; rfl; apply ValP.move; rfl; apply LW.guardT'; rfl; rfl; (with_reducible rfl); apply LW.v0; rfl; rfl; apply ValP.leqF; rfl; rfl; omega; apply LW.v0; rfl; rfl; apply ValP.pickT'; rfl; (with_reducible rfl); rfl; apply LW.nil; refine thenN ?_; apply CW.condF; rfl; (with_reducible rfl); refine CW.skip ?_; refine thenN ?_; refine CW.seq ?_; refine CW.seq ?_; refine CW.region ?_; apply LW.v0; rfl; rfl; apply ValP.move; rfl; apply LW.v0; rfl; rfl; apply ValP.geqT; rfl; rfl; omega; apply LW.v0; rfl; rfl; apply ValP.move; rfl; apply LW.guardT'; rfl; rfl; (with_reducible rfl); apply LW.v0; rfl; rfl; apply ValP.move; rfl; apply LW.guardT'; rfl; rfl; (with_reducible rfl); apply LW.v0; rfl; rfl; apply ValP.leqF; rfl; rfl; omega; apply LW.v0; rfl; rfl; apply ValP.pickT'; rfl; (with_reducible rfl); rfl; apply LW.nil; refine thenN ?_; apply CW.condF; rfl; (with_reducible rfl); refine CW.skip ?_; refine thenN ?_; refine CW.seq ?_; refine CW.seq ?_; refine CW.region ?_; apply LW.v0; rfl; rfl; apply ValP.move; rfl; apply LW.v0; rfl; rfl; apply ValP.geqT; rfl; rfl; omega; apply LW.v0; rfl; rfl; apply ValP.move; rfl; apply LW.guardT'; rfl; rfl; (with_reducible rfl); apply LW.v0; rfl; rfl; apply ValP.move; rfl; apply LW.guardT'; rfl; rfl; (with_reducible rfl); apply LW.v0; rfl; rfl; apply ValP.leqF; rfl; rfl; omega; apply LW.v0; rfl; rfl; apply ValP.pickT'; rfl; (with_reducible rfl); rfl; apply LW.nil; refine thenN ?_; apply CW.condF; rfl; (with_reducible rfl); refine CW.skip ?_; refine thenN ?_; refine CW.seq ?_; refine CW.region ?_)
    (apply LW.callR; rfl; rfl; infer_instance; exact ArgsOk.nil; intro w hs)
    exact rPlain_calls w
    intro vp gp hpl
    obtain ⟨bp, rfl, rfl⟩ := hpl
    rename_i bo
    (apply LW.v0; rfl; rfl; apply ValP.assign; rfl; apply LW.nil; refine thenN ?_; refine CW.seq ?_; refine CW.seq ?_; refine CW.region ?_; apply LW.v0; rfl; rfl; apply ValP.assign; rfl; apply LW.nil; refine thenN ?_; refine CW.block ?_)
    refine CW.loop (fun i : Nat => ([(0, .int .u8 (b : Int)), (2, .pointer (some ⟨bo, 0, none⟩)), (3, .bool false), (5, .slice (some ⟨bp, 0, none⟩) 50 50), (6, .int .i64 (i : Int))], [(bp, .cells (opcs plainOps).toArray 24 (0, 0)), (bo, .cells (opc zeroOp) 24 (0, 0))]))
      (fun i => i ≤ 50 ∧ ∀ j (hj : j < plainOps.length), j < i → plainOps[j].c ≠ b) (fun i => 50 - i) 0 ⟨Nat.zero_le _, fun j hj h => absurd h (Nat.not_lt_zero _)⟩ ⟨rfl, rfl, rfl, rfl, rfl, trivial⟩ (List.Sublist.refl _) ?_
    rintro i ⟨hi, hall⟩
    dsimp only
    rcases Nat.lt_or_ge i 50 with hlt | hge
    · have hlt' : i < plainOps.length := hlt
      have hrc := plain_rdc i hlt' (E := 24) (fr := (0, 0))
      have hrd := plain_rd i hlt' (E := 24) (fr := (0, 0))
      have hop := fun he => opOf_plain hr hlt' (fun j hj => hall j (by omega) hj) he
      obtain ⟨y, hy⟩ : ∃ y, plainOps[i] = y := ⟨_, rfl⟩
      rw [hy] at hrc hrd hop
      by_cases he : y.c = b
      · rw [hop he]
        (refine CW.seq ?_; refine CW.seq ?_; refine CW.region ?_; apply LW.v0; rfl; rfl; apply ValP.move; rfl; apply LW.v0; rfl; rfl; apply ValP.move; rfl; apply LW.v0; rfl; rfl; apply ValP.lenR; rfl; infer_instance; rfl; apply LW.v0; rfl; rfl; apply ValP.lssT; rfl; rfl; omega; apply LW.nil; refine thenN ?_; apply CW.condT; rfl; (with_reducible rfl); refine CW.skip ?_; refine thenN ?_; refine CW.seq ?_; refine CW.block ?_; refine CW.seq ?_; refine CW.region ?_; apply LW.v0; rfl; rfl; apply ValP.move; rfl; apply LW.v0; rfl; rfl; apply ValP.move; rfl; apply LW.v0; rfl; rfl; apply ValP.indexAddrS; rfl; rfl; rfl; omega; apply LW.v0; rfl; rfl; apply ValP.fieldAddr; rfl; rfl; apply LW.load; rfl; rfl; apply Known.at; apply FsAt.head; assumption; apply LW.v0; rfl; rfl; apply ValP.move; rfl; apply LW.v0; rfl; rfl; apply ValP.eqT; rfl; rfl; omega; apply LW.nil; refine thenN ?_; apply CW.condT; rfl; (with_reducible rfl); refine CW.seq ?_; refine CW.region ?_; apply LW.v0; rfl; rfl; apply ValP.move; rfl; apply LW.v0; rfl; rfl; apply ValP.move; rfl; apply LW.v0; rfl; rfl; apply ValP.indexAddrS; rfl; rfl; rfl; omega; apply LW.load; rfl; rfl; apply Known.at; apply FsAt.head; assumption; apply LW.store; rfl; rfl; apply SetAt.tail; apply SetAt.head; apply Wr.whole; kernel_rfl; kernel_rfl; kernel_rfl; apply LW.v0; rfl; rfl; apply ValP.assign; rfl; apply LW.nil; refine thenN ?_; refine CW.ret ?_; refine blkR ?_; refine thenR ?_; refine thenR ?_; refine blkR ?_; refine thenR ?_)
        (apply finR; exact .inl rfl; rfl; rfl; rfl; apply ResL.cons; apply Res.cell; rfl; apply Known.at; apply FsAt.tail; apply FsAt.head; exact Rd.whole rfl; apply ResL.cons; exact Res.tmp rfl; exact ResL.nil)
        rfl
      · (refine CW.seq ?_; refine CW.seq ?_; refine CW.region ?_; apply LW.v0; rfl; rfl; apply ValP.move; rfl; apply LW.v0; rfl; rfl; apply ValP.move; rfl; apply LW.v0; rfl; rfl; apply ValP.lenR; rfl; infer_instance; rfl; apply LW.v0; rfl; rfl; apply ValP.lssT; rfl; rfl; omega; apply LW.nil; refine thenN ?_; apply CW.condT; rfl; (with_reducible rfl); refine CW.skip ?_; refine thenN ?_; refine CW.seq ?_; refine CW.block ?_; refine CW.seq ?_; refine CW.region ?_; apply LW.v0; rfl; rfl; apply ValP.move; rfl; apply LW.v0; rfl; rfl; apply ValP.move; rfl; apply LW.v0; rfl; rfl; apply ValP.indexAddrS; rfl; rfl; rfl; omega; apply LW.v0; rfl; rfl; apply ValP.fieldAddr; rfl; rfl; apply LW.load; rfl; rfl; apply Known.at; apply FsAt.head; assumption; apply LW.v0; rfl; rfl; apply ValP.move; rfl; apply LW.v0; rfl; rfl; apply ValP.eqF; rfl; rfl; omega; apply LW.nil; refine thenN ?_; apply CW.condF; rfl; (with_reducible rfl); refine CW.skip ?_; refine blkN ?_; refine thenN ?_; refine CW.region ?_; apply LW.v0; rfl; rfl; apply ValP.move; rfl; apply LW.v0; rfl; rfl; apply ValP.addZL; rfl; rfl; decide; omega; apply LW.v0; rfl; rfl; apply ValP.assign; rfl; apply LW.nil)
        apply thenX
        refine ⟨rfl, i + 1, ⟨hlt, fun j hj hji => ?_⟩, by omega, ⟨rfl, rfl, rfl, rfl, rfl, trivial⟩, List.Sublist.refl _⟩
        rcases Nat.lt_or_ge j i with h | h
        · exact hall j hj h
        · obtain rfl : j = i := by omega
          rw [hy]; exact he
    · rw [opOf_none hr (fun j hj => hall j hj (by have : plainOps.length = 50 := rfl; omega))]
      (refine CW.seq ?_; refine CW.seq ?_; refine CW.region ?_; apply LW.v0; rfl; rfl; apply ValP.move; rfl; apply LW.v0; rfl; rfl; apply ValP.move; rfl; apply LW.v0; rfl; rfl; apply ValP.lenR; rfl; infer_instance; rfl; apply LW.v0; rfl; rfl; apply ValP.lssF; rfl; rfl; omega; apply LW.nil; refine thenN ?_; apply CW.condF; rfl; (with_reducible rfl); refine CW.exit ?_; refine thenE ?_; refine thenE ?_; refine blkE rfl ?_; refine thenN ?_; refine CW.seq ?_; refine CW.region ?_; apply LW.v0; rfl; rfl; apply ValP.buildT; infer_instance; infer_instance; exact PartsOk.nil; rfl; simp only [fillP, wrCells, Value.cells, List.getElem?_cons_zero, List.getElem?_cons_succ, List.toList_toArray, List.setIfInBounds_toArray, List.set_cons_succ, List.set_cons_zero, Nat.reduceAdd, Nat.zero_add]; rfl; apply LW.store; rfl; rfl; apply SetAt.tail; apply SetAt.head; apply Wr.whole; kernel_rfl; kernel_rfl; kernel_rfl; apply LW.v0; rfl; rfl; apply ValP.assign; rfl; apply LW.nil; refine thenN ?_; refine CW.ret ?_)
      (apply finR; exact .inl rfl; rfl; rfl; rfl; apply ResL.cons; apply Res.cell; rfl; apply Known.at; apply FsAt.tail; apply FsAt.head; exact Rd.whole rfl; apply ResL.cons; exact Res.tmp rfl; exact ResL.nil)
      rfl
end Go.Proofs.YtbhicncgjplnoaaDoor

/-
  The operation of a name; which bytes are programs; how much data belongs to a byte: contracts.
  Conditions: none.
-/
namespace Go.Proofs.YtbhicncgjplnoaaDoor
open Go Go.RowKit SL
set_option maxRecDepth 8000
set_option maxHeartbeats 4000000
set_option linter.unusedSimpArgs false
set_option linter.unusedVariables false
attribute [local irreducible] SL.CW SL.LW SL.DW Calls SL.Ret SL.RetG SL.beginQ SL.roundQ SL.rangeQ SL.inQ SL.RW SL.AnyW SL.thenQ SL.thenC SL.thenW SL.blkQ SL.finQ SL.ValP SL.NewP SL.SetP SL.CallP SL.Rd SL.Wr SL.Known
attribute [local irreducible] opOf
/-- The operation of byte b, if its name is s. -/
def hit (s : List UInt8) (b : Nat) : Option OpV := match opOf b with
  | some x => if x.nm = s then some x else none
  | none => none
def named (s : List UInt8) : Option OpV := (List.range 256).findSome? (hit s)
attribute [local irreducible] named
theorem named_none {s : List UInt8} (h : ∀ j, j < 256 → hit s j = none) : named s = none := by
  unfold named
  exact List.findSome?_eq_none_iff.2 fun x hx => h x (List.mem_range.1 hx)
theorem named_some {s : List UInt8} {k : Nat} {x : OpV} (hk : k < 256) (h : ∀ j, j < k → hit s j = none) (he : hit s k = some x) : named s = some x := by
  unfold named
  refine List.findSome?_eq_some_iff.2 ⟨List.range k, k, (List.range' (k + 1) (255 - k)), ?_, he, fun j hj => h j (List.mem_range.1 hj)⟩
  rw [List.range_eq_range', List.range_eq_range', show 256 = k + (1 + (255 - k)) by omega, ← List.range'_append_1, ← List.range'_append_1]
  simp [show k + (1 + (255 - k)) - 1 - k = 255 - k by omega]
theorem Named_calls (s : List UInt8) (w : World) : Calls Tryd.prog 13 #[sv s] w (Ret w (OfV (named s))) := by
  refine enter (args := [_]) _ [] [] Tryd.func13 rfl Tryd.ntmps13 rfl (by simp) .nil ?_
  (refine CW.seq ?_; refine CW.region ?_; apply LW.allocA; rfl; intro _; apply LW.v0; rfl; rfl; apply ValP.assign; rfl; apply LW.nil; refine thenN ?_; refine CW.seq ?_; refine CW.seq ?_; refine CW.region ?_; apply LW.v0; rfl; rfl; apply ValP.move; rfl; apply LW.nil; refine thenN ?_; refine CW.block ?_)
  rename_i bo
  refine CW.loop (fun k : Nat => ([(0, sv s), (2, .pointer (some ⟨bo, 0, none⟩)), (3, .int .i64 0), (7, .int .i64 (k : Int))], [(bo, .cells (opc zeroOp) 24 (0, 0))]))
    (fun k => k ≤ 256 ∧ ∀ j, j < k → hit s j = none) (fun k => 256 - k) 0 ⟨Nat.zero_le _, fun j hj => absurd hj (Nat.not_lt_zero _)⟩ ⟨rfl, rfl, rfl, rfl, trivial⟩ (List.Sublist.refl _) ?_
  rintro k ⟨hk, hall⟩
  dsimp only
  rcases Nat.lt_or_ge k 256 with hlt | hge
  · have hm : k % 256 = k := Nat.mod_eq_of_lt hlt
    have hOf0 := Of_op_calls k hlt
    rw [← hm] at hOf0
    cases ho : opOf k with
    | none =>
      rw [hm, ho] at hOf0
      have hOf : ∀ w, Calls Tryd.prog 11 #[.int .u8 ((k % 256 : Nat) : Int)] w (Ret w (.tuple #[.agg (opc zeroOp), .int .i64 4])) := by rw [hm]; exact hOf0
      have hh : hit s k = none := by unfold hit; rw [ho]
      (refine CW.seq ?_; refine CW.region ?_; apply LW.v0; rfl; rfl; apply ValP.lssT; rfl; rfl; omega; apply LW.nil; refine thenN ?_; refine CW.seq ?_; apply CW.condT; rfl; (with_reducible rfl); refine CW.skip ?_; refine thenN ?_; refine CW.seq ?_; refine CW.block ?_; refine CW.seq ?_; refine CW.region ?_; apply LW.v0; rfl; rfl; apply ValP.move; rfl; apply LW.v0; rfl; rfl; apply ValP.assign; rfl; apply LW.nil; refine thenN ?_; refine CW.seq ?_; refine CW.region ?_; apply LW.v0; rfl; rfl; apply ValP.move; rfl; apply LW.v0; rfl; rfl; apply ValP.convB; rfl; apply LW.callE; rfl; rfl; infer_instance; apply ArgsOk.cons; rfl; exact ArgsOk.nil; intro w _; exact hOf w; apply LW.v0; rfl; rfl; apply ValP.move; rfl; apply LW.v0; rfl; rfl; apply ValP.extractN; rfl; rfl; apply LW.v0; rfl; rfl; apply ValP.extractN; rfl; rfl; apply LW.allocA; rfl; intro _; apply LW.store; rfl; rfl; apply SetAt.head; apply Wr.whole; kernel_rfl; kernel_rfl; kernel_rfl; apply LW.v0; rfl; rfl; apply ValP.assign; rfl; apply LW.nil; refine thenN ?_; refine CW.seq ?_; refine CW.region ?_; apply LW.v0; rfl; rfl; apply ValP.move; rfl; apply LW.v0; rfl; rfl; apply ValP.eqF; rfl; rfl; omega; apply LW.v0; rfl; rfl; apply ValP.move; rfl; apply LW.guardF'; rfl; rfl; simp only [Bool.not_true, Bool.not_false]; rfl; apply LW.guardF'; rfl; rfl; simp only [Bool.not_true, Bool.not_false]; rfl; apply LW.guardF'; rfl; rfl; simp only [Bool.not_true, Bool.not_false]; rfl; apply LW.guardF'; rfl; rfl; simp only [Bool.not_true, Bool.not_false]; rfl; apply LW.v0; rfl; rfl; apply ValP.pickF'; rfl; (with_reducible rfl); rfl; apply LW.nil; refine thenN ?_; apply CW.condF; rfl; (with_reducible rfl); refine CW.skip ?_; refine blkN ?_; refine thenN ?_; refine CW.region ?_; apply LW.v0; rfl; rfl; apply ValP.addZL; rfl; rfl; decide; omega; apply LW.v0; rfl; rfl; apply ValP.move; rfl; apply LW.nil)
      apply thenX
      refine ⟨rfl, k + 1, ⟨hlt, fun j hj => ?_⟩, by omega, ⟨rfl, rfl, rfl, rfl, trivial⟩, by (apply List.Sublist.cons; exact List.Sublist.refl _)⟩
      rcases Nat.lt_or_ge j k with h | h
      · exact hall j h
      · obtain rfl : j = k := by omega
        exact hh
    | some x =>
      rw [hm, ho] at hOf0
      have hOf : ∀ w, Calls Tryd.prog 11 #[.int .u8 ((k % 256 : Nat) : Int)] w (Ret w (.tuple #[.agg (opc x), .int .i64 0])) := by rw [hm]; exact hOf0
      by_cases he : x.nm = s
      · have hh : hit s k = some x := by unfold hit; rw [ho]; exact if_pos he
        have he2 : (⟨x.nm.toArray⟩ : ByteArray) = ⟨s.toArray⟩ := by rw [he]
        rw [named_some hlt hall hh]
        (refine CW.seq ?_; refine CW.region ?_; apply LW.v0; rfl; rfl; apply ValP.lssT; rfl; rfl; omega; apply LW.nil; refine thenN ?_; refine CW.seq ?_; apply CW.condT; rfl; (with_reducible rfl); refine CW.skip ?_; refine thenN ?_; refine CW.seq ?_; refine CW.block ?_; refine CW.seq ?_; refine CW.region ?_; apply LW.v0; rfl; rfl; apply ValP.move; rfl; apply LW.v0; rfl; rfl; apply ValP.assign; rfl; apply LW.nil; refine thenN ?_; refine CW.seq ?_; refine CW.region ?_; apply LW.v0; rfl; rfl; apply ValP.move; rfl; apply LW.v0; rfl; rfl; apply ValP.convB; rfl; apply LW.callE; rfl; rfl; infer_instance; apply ArgsOk.cons; rfl; exact ArgsOk.nil; intro w _; exact hOf w; apply LW.v0; rfl; rfl; apply ValP.move; rfl; apply LW.v0; rfl; rfl; apply ValP.extractN; rfl; rfl; apply LW.v0; rfl; rfl; apply ValP.extractN; rfl; rfl; apply LW.allocA; rfl; intro _; apply LW.store; rfl; rfl; apply SetAt.head; apply Wr.whole; kernel_rfl; kernel_rfl; kernel_rfl; apply LW.v0; rfl; rfl; apply ValP.assign; rfl; apply LW.nil; refine thenN ?_; refine CW.seq ?_; refine CW.region ?_; apply LW.v0; rfl; rfl; apply ValP.move; rfl; apply LW.v0; rfl; rfl; apply ValP.eqT; rfl; rfl; omega; apply LW.v0; rfl; rfl; apply ValP.move; rfl; apply LW.guardT'; rfl; rfl; (with_reducible rfl); apply LW.v0; rfl; rfl; apply ValP.fieldAddr; rfl; rfl; apply LW.guardT'; rfl; rfl; (with_reducible rfl); apply LW.load; rfl; rfl; apply Known.at; apply FsAt.head; exact Rd.one' rfl; apply LW.guardT'; rfl; rfl; (with_reducible rfl); apply LW.v0; rfl; rfl; apply ValP.move; rfl; apply LW.guardT'; rfl; rfl; (with_reducible rfl); apply LW.v0; rfl; rfl; apply ValP.strEqT; rfl; rfl; assumption; apply LW.v0; rfl; rfl; apply ValP.pickT'; rfl; (with_reducible rfl); rfl; apply LW.nil; refine thenN ?_; apply CW.condT; rfl; (with_reducible rfl); refine CW.seq ?_; refine CW.region ?_; apply LW.load; rfl; rfl; apply Known.at; apply FsAt.head; exact Rd.whole rfl; apply LW.store; rfl; rfl; apply SetAt.tail; apply SetAt.head; apply Wr.whole; kernel_rfl; kernel_rfl; kernel_rfl; apply LW.v0; rfl; rfl; apply ValP.assign; rfl; apply LW.nil; refine thenN ?_; refine CW.ret ?_; refine blkR ?_; refine thenR ?_; refine thenR ?_; refine blkR ?_; refine thenR ?_)
        (apply finR; exact .inl rfl; rfl; rfl; rfl; apply ResL.cons; apply Res.cell; rfl; apply Known.at; apply FsAt.tail; apply FsAt.head; exact Rd.whole rfl; apply ResL.cons; exact Res.tmp rfl; exact ResL.nil)
        rfl
      · have hh : hit s k = none := by unfold hit; rw [ho]; exact if_neg he
        have he2 : (⟨x.nm.toArray⟩ : ByteArray) ≠ ⟨s.toArray⟩ := sv_inj he
        (refine CW.seq ?_; refine CW.region ?_; apply LW.v0; rfl; rfl; apply ValP.lssT; rfl; rfl; omega; apply LW.nil; refine thenN ?_; refine CW.seq ?_; apply CW.condT; rfl; (with_reducible rfl); refine CW.skip ?_; refine thenN ?_; refine CW.seq ?_; refine CW.block ?_; refine CW.seq ?_; refine CW.region ?_; apply LW.v0; rfl; rfl; apply ValP.move; rfl; apply LW.v0; rfl; rfl; apply ValP.assign; rfl; apply LW.nil; refine thenN ?_; refine CW.seq ?_; refine CW.region ?_; apply LW.v0; rfl; rfl; apply ValP.move; rfl; apply LW.v0; rfl; rfl; apply ValP.convB; rfl; apply LW.callE; rfl; rfl; infer_instance; apply ArgsOk.cons; rfl; exact ArgsOk.nil; intro w _; exact hOf w; apply LW.v0; rfl; rfl; apply ValP.move; rfl; apply LW.v0; rfl; rfl; apply ValP.extractN; rfl; rfl; apply LW.v0; rfl; rfl; apply ValP.extractN; rfl; rfl; apply LW.allocA; rfl; intro _; apply LW.store; rfl; rfl; apply SetAt.head; apply Wr.whole; kernel_rfl; kernel_rfl; kernel_rfl; apply LW.v0; rfl; rfl; apply ValP.assign; rfl; apply LW.nil; refine thenN ?_; refine CW.seq ?_; refine CW.region ?_; apply LW.v0; rfl; rfl; apply ValP.move; rfl; apply LW.v0; rfl; rfl; apply ValP.eqT; rfl; rfl; omega; apply LW.v0; rfl; rfl; apply ValP.move; rfl; apply LW.guardT'; rfl; rfl; (with_reducible rfl); apply LW.v0; rfl; rfl; apply ValP.fieldAddr; rfl; rfl; apply LW.guardT'; rfl; rfl; (with_reducible rfl); apply LW.load; rfl; rfl; apply Known.at; apply FsAt.head; exact Rd.one' rfl; apply LW.guardT'; rfl; rfl; (with_reducible rfl); apply LW.v0; rfl; rfl; apply ValP.move; rfl; apply LW.guardT'; rfl; rfl; (with_reducible rfl); apply LW.v0; rfl; rfl; apply ValP.strEqF; rfl; rfl; assumption; apply LW.v0; rfl; rfl; apply ValP.pickT'; rfl; (with_reducible rfl); rfl; apply LW.nil; refine thenN ?_; apply CW.condF; rfl; (with_reducible rfl); refine CW.skip ?_; refine blkN ?_; refine thenN ?_; refine CW.region ?_; apply LW.v0; rfl; rfl; apply ValP.addZL; rfl; rfl; decide; omega; apply LW.v0; rfl; rfl; apply ValP.move; rfl; apply LW.nil)
        apply thenX
        refine ⟨rfl, k + 1, ⟨hlt, fun j hj => ?_⟩, by omega, ⟨rfl, rfl, rfl, rfl, trivial⟩, by (apply List.Sublist.cons; exact List.Sublist.refl _)⟩
        rcases Nat.lt_or_ge j k with h | h
        · exact hall j h
        · obtain rfl : j = k := by omega
          exact hh
  · rw [named_none (fun j hj => hall j (by omega))]
    (refine CW.seq ?_; refine CW.region ?_; apply LW.v0; rfl; rfl; apply ValP.lssF; rfl; rfl; omega; apply LW.nil; refine thenN ?_; refine CW.seq ?_; apply CW.condF; rfl; (with_reducible rfl); refine CW.exit ?_; refine thenE ?_; refine thenE ?_; refine blkE rfl ?_; refine thenN ?_; refine CW.seq ?_; refine CW.region ?_; apply LW.v0; rfl; rfl; apply ValP.buildT; infer_instance; infer_instance; exact PartsOk.nil; rfl; simp only [fillP, wrCells, Value.cells, List.getElem?_cons_zero, List.getElem?_cons_succ, List.toList_toArray, List.setIfInBounds_toArray, List.set_cons_succ, List.set_cons_zero, Nat.reduceAdd, Nat.zero_add]; rfl; apply LW.store; rfl; rfl; apply SetAt.head; apply Wr.whole; kernel_rfl; kernel_rfl; kernel_rfl; apply LW.v0; rfl; rfl; apply ValP.assign; rfl; apply LW.nil; refine thenN ?_; refine CW.ret ?_)
    (apply finR; exact .inl rfl; rfl; rfl; rfl; apply ResL.cons; apply Res.cell; rfl; apply Known.at; apply FsAt.head; exact Rd.whole rfl; apply ResL.cons; exact Res.tmp rfl; exact ResL.nil)
    rfl
theorem rNamed_calls (s : List UInt8) (w : World) : Calls Tryd.prog 14 #[sv s] w (Ret w (tupOp (named s))) := by
  refine enter (args := [_]) _ [] [] Tryd.func14 rfl Tryd.ntmps14 rfl (by simp) .nil ?_
  (refine CW.seq ?_; refine CW.region ?_; apply LW.allocA; rfl; intro _; apply LW.v0; rfl; rfl; apply ValP.assign; rfl; apply LW.nil; refine thenN ?_; refine CW.seq ?_; refine CW.seq ?_; refine CW.region ?_; apply LW.v0; rfl; rfl; apply ValP.assign; rfl; apply LW.nil; refine thenN ?_; refine CW.block ?_)
  rename_i bo
  refine CW.loop (fun k : Nat => ([(0, sv s), (2, .pointer (some ⟨bo, 0, none⟩)), (3, .bool false), (4, .int .i64 (k : Int))], [(bo, .cells (opc zeroOp) 24 (0, 0))]))
    (fun k => k ≤ 256 ∧ ∀ j, j < k → hit s j = none) (fun k => 256 - k) 0 ⟨Nat.zero_le _, fun j hj => absurd hj (Nat.not_lt_zero _)⟩ ⟨rfl, rfl, rfl, rfl, trivial⟩ (List.Sublist.refl _) ?_
  rintro k ⟨hk, hall⟩
  dsimp only
  rcases Nat.lt_or_ge k 256 with hlt | hge
  · have hm : k % 256 = k := Nat.mod_eq_of_lt hlt
    have hOf0 := rOf_calls k hlt
    cases ho : opOf k with
    | none =>
      rw [ho] at hOf0
      have hOf : ∀ w, Calls Tryd.prog 12 #[.int .u8 ((k % 256 : Nat) : Int)] w (Ret w (.tuple #[.agg (opc zeroOp), .bool false])) := by rw [hm]; exact hOf0
      have hh : hit s k = none := by unfold hit; rw [ho]
      (refine CW.seq ?_; refine CW.seq ?_; refine CW.region ?_; apply LW.v0; rfl; rfl; apply ValP.move; rfl; apply LW.v0; rfl; rfl; apply ValP.lssT; rfl; rfl; omega; apply LW.nil; refine thenN ?_; apply CW.condT; rfl; (with_reducible rfl); refine CW.skip ?_; refine thenN ?_; refine CW.seq ?_; refine CW.block ?_; refine CW.seq ?_; refine CW.region ?_; apply LW.v0; rfl; rfl; apply ValP.move; rfl; apply LW.v0; rfl; rfl; apply ValP.convB; rfl; apply LW.callE; rfl; rfl; infer_instance; apply ArgsOk.cons; rfl; exact ArgsOk.nil; intro w _; exact hOf w; apply LW.v0; rfl; rfl; apply ValP.move; rfl; apply LW.v0; rfl; rfl; apply ValP.extractN; rfl; rfl; apply LW.v0; rfl; rfl; apply ValP.extractN; rfl; rfl; apply LW.allocA; rfl; intro _; apply LW.store; rfl; rfl; apply SetAt.head; apply Wr.whole; kernel_rfl; kernel_rfl; kernel_rfl; apply LW.v0; rfl; rfl; apply ValP.assign; rfl; apply LW.nil; refine thenN ?_; refine CW.seq ?_; refine CW.region ?_; apply LW.v0; rfl; rfl; apply ValP.move; rfl; apply LW.v0; rfl; rfl; apply ValP.move; rfl; apply LW.guardF'; rfl; rfl; simp only [Bool.not_true, Bool.not_false]; rfl; apply LW.guardF'; rfl; rfl; simp only [Bool.not_true, Bool.not_false]; rfl; apply LW.guardF'; rfl; rfl; simp only [Bool.not_true, Bool.not_false]; rfl; apply LW.guardF'; rfl; rfl; simp only [Bool.not_true, Bool.not_false]; rfl; apply LW.v0; rfl; rfl; apply ValP.pickF'; rfl; (with_reducible rfl); rfl; apply LW.nil; refine thenN ?_; apply CW.condF; rfl; (with_reducible rfl); refine CW.skip ?_; refine blkN ?_; refine thenN ?_; refine CW.region ?_; apply LW.v0; rfl; rfl; apply ValP.move; rfl; apply LW.v0; rfl; rfl; apply ValP.addZL; rfl; rfl; decide; omega; apply LW.v0; rfl; rfl; apply ValP.assign; rfl; apply LW.nil)
      apply thenX
      refine ⟨rfl, k + 1, ⟨hlt, fun j hj => ?_⟩, by omega, ⟨rfl, rfl, rfl, rfl, trivial⟩, by (apply List.Sublist.cons; exact List.Sublist.refl _)⟩
      rcases Nat.lt_or_ge j k with h | h
      · exact hall j h
      · obtain rfl : j = k := by omega
        exact hh
    | some x =>
      rw [ho] at hOf0
      have hOf : ∀ w, Calls Tryd.prog 12 #[.int .u8 ((k % 256 : Nat) : Int)] w (Ret w (.tuple #[.agg (opc x), .bool true])) := by rw [hm]; exact hOf0
      by_cases he : x.nm = s
      · have hh : hit s k = some x := by unfold hit; rw [ho]; exact if_pos he
        have he2 : (⟨x.nm.toArray⟩ : ByteArray) = ⟨s.toArray⟩ := by rw [he]
        rw [named_some hlt hall hh]
        (refine CW.seq ?_; refine CW.seq ?_; refine CW.region ?_; apply LW.v0; rfl; rfl; apply ValP.move; rfl; apply LW.v0; rfl; rfl; apply ValP.lssT; rfl; rfl; omega; apply LW.nil; refine thenN ?_; apply CW.condT; rfl; (with_reducible rfl); refine CW.skip ?_; refine thenN ?_; refine CW.seq ?_; refine CW.block ?_; refine CW.seq ?_; refine CW.region ?_; apply LW.v0; rfl; rfl; apply ValP.move; rfl; apply LW.v0; rfl; rfl; apply ValP.convB; rfl; apply LW.callE; rfl; rfl; infer_instance; apply ArgsOk.cons; rfl; exact ArgsOk.nil; intro w _; exact hOf w; apply LW.v0; rfl; rfl; apply ValP.move; rfl; apply LW.v0; rfl; rfl; apply ValP.extractN; rfl; rfl; apply LW.v0; rfl; rfl; apply ValP.extractN; rfl; rfl; apply LW.allocA; rfl; intro _; apply LW.store; rfl; rfl; apply SetAt.head; apply Wr.whole; kernel_rfl; kernel_rfl; kernel_rfl; apply LW.v0; rfl; rfl; apply ValP.assign; rfl; apply LW.nil; refine thenN ?_; refine CW.seq ?_; refine CW.region ?_; apply LW.v0; rfl; rfl; apply ValP.move; rfl; apply LW.v0; rfl; rfl; apply ValP.move; rfl; apply LW.guardT'; rfl; rfl; (with_reducible rfl); apply LW.v0; rfl; rfl; apply ValP.fieldAddr; rfl; rfl; apply LW.guardT'; rfl; rfl; (with_reducible rfl); apply LW.load; rfl; rfl; apply Known.at; apply FsAt.head; exact Rd.one' rfl; apply LW.guardT'; rfl; rfl; (with_reducible rfl); apply LW.v0; rfl; rfl; apply ValP.move; rfl; apply LW.guardT'; rfl; rfl; (with_reducible rfl); apply LW.v0; rfl; rfl; apply ValP.strEqT; rfl; rfl; assumption; apply LW.v0; rfl; rfl; apply ValP.pickT'; rfl; (with_reducible rfl); rfl; apply LW.nil; refine thenN ?_; apply CW.condT; rfl; (with_reducible rfl); refine CW.seq ?_; refine CW.region ?_; apply LW.load; rfl; rfl; apply Known.at; apply FsAt.head; exact Rd.whole rfl; apply LW.store; rfl; rfl; apply SetAt.tail; apply SetAt.head; apply Wr.whole; kernel_rfl; kernel_rfl; kernel_rfl; apply LW.v0; rfl; rfl; apply ValP.assign; rfl; apply LW.nil; refine thenN ?_; refine CW.ret ?_; refine blkR ?_; refine thenR ?_; refine thenR ?_; refine blkR ?_; refine thenR ?_)
        (apply finR; exact .inl rfl; rfl; rfl; rfl; apply ResL.cons; apply Res.cell; rfl; apply Known.at; apply FsAt.tail; apply FsAt.head; exact Rd.whole rfl; apply ResL.cons; exact Res.tmp rfl; exact ResL.nil)
        rfl
      · have hh : hit s k = none := by unfold hit; rw [ho]; exact if_neg he
        have he2 : (⟨x.nm.toArray⟩ : ByteArray) ≠ ⟨s.toArray⟩ := sv_inj he
        (refine CW.seq ?_; refine CW.seq ?_; refine CW.region ?_; apply LW.v0; rfl; rfl; apply ValP.move; rfl; apply LW.v0; rfl; rfl; apply ValP.lssT; rfl; rfl; omega; apply LW.nil; refine thenN ?_; apply CW.condT; rfl; (with_reducible rfl); refine CW.skip ?_; refine thenN ?_; refine CW.seq ?_; refine CW.block ?_; refine CW.seq ?_; refine CW.region ?_; apply LW.v0; rfl; rfl; apply ValP.move; rfl; apply LW.v0; rfl; rfl; apply ValP.convB; rfl; apply LW.callE; rfl; rfl; infer_instance; apply ArgsOk.cons; rfl; exact ArgsOk.nil; intro w _; exact hOf w; apply LW.v0; rfl; rfl; apply ValP.move; rfl; apply LW.v0; rfl; rfl; apply ValP.extractN; rfl; rfl; apply LW.v0; rfl; rfl; apply ValP.extractN; rfl; rfl; apply LW.allocA; rfl; intro _; apply LW.store; rfl; rfl; apply SetAt.head; apply Wr.whole; kernel_rfl; kernel_rfl; kernel_rfl; apply LW.v0; rfl; rfl; apply ValP.assign; rfl; apply LW.nil; refine thenN ?_; refine CW.seq ?_; refine CW.region ?_; apply LW.v0; rfl; rfl; apply ValP.move; rfl; apply LW.v0; rfl; rfl; apply ValP.move; rfl; apply LW.guardT'; rfl; rfl; (with_reducible rfl); apply LW.v0; rfl; rfl; apply ValP.fieldAddr; rfl; rfl; apply LW.guardT'; rfl; rfl; (with_reducible rfl); apply LW.load; rfl; rfl; apply Known.at; apply FsAt.head; exact Rd.one' rfl; apply LW.guardT'; rfl; rfl; (with_reducible rfl); apply LW.v0; rfl; rfl; apply ValP.move; rfl; apply LW.guardT'; rfl; rfl; (with_reducible rfl); apply LW.v0; rfl; rfl; apply ValP.strEqF; rfl; rfl; assumption; apply LW.v0; rfl; rfl; apply ValP.pickT'; rfl; (with_reducible rfl); rfl; apply LW.nil; refine thenN ?_; apply CW.condF; rfl; (with_reducible rfl); refine CW.skip ?_; refine blkN ?_; refine thenN ?_; refine CW.region ?_; apply LW.v0; rfl; rfl; apply ValP.move; rfl; apply LW.v0; rfl; rfl; apply ValP.addZL; rfl; rfl; decide; omega; apply LW.v0; rfl; rfl; apply ValP.assign; rfl; apply LW.nil)
        apply thenX
        refine ⟨rfl, k + 1, ⟨hlt, fun j hj => ?_⟩, by omega, ⟨rfl, rfl, rfl, rfl, trivial⟩, by (apply List.Sublist.cons; exact List.Sublist.refl _)⟩
        rcases Nat.lt_or_ge j k with h | h
        · exact hall j h
        · obtain rfl : j = k := by omega
          exact hh
  · rw [named_none (fun j hj => hall j (by omega))]
    (refine CW.seq ?_; refine CW.seq ?_; refine CW.region ?_; apply LW.v0; rfl; rfl; apply ValP.move; rfl; apply LW.v0; rfl; rfl; apply ValP.lssF; rfl; rfl; omega; apply LW.nil; refine thenN ?_; apply CW.condF; rfl; (with_reducible rfl); refine CW.exit ?_; refine thenE ?_; refine thenE ?_; refine blkE rfl ?_; refine thenN ?_; refine CW.seq ?_; refine CW.region ?_; apply LW.v0; rfl; rfl; apply ValP.buildT; infer_instance; infer_instance; exact PartsOk.nil; rfl; simp only [fillP, wrCells, Value.cells, List.getElem?_cons_zero, List.getElem?_cons_succ, List.toList_toArray, List.setIfInBounds_toArray, List.set_cons_succ, List.set_cons_zero, Nat.reduceAdd, Nat.zero_add]; rfl; apply LW.store; rfl; rfl; apply SetAt.head; apply Wr.whole; kernel_rfl; kernel_rfl; kernel_rfl; apply LW.v0; rfl; rfl; apply ValP.assign; rfl; apply LW.nil; refine thenN ?_; refine CW.ret ?_)
    (apply finR; exact .inl rfl; rfl; rfl; rfl; apply ResL.cons; apply Res.cell; rfl; apply Known.at; apply FsAt.head; exact Rd.whole rfl; apply ResL.cons; exact Res.tmp rfl; exact ResL.nil)
    rfl
/-! ### Sizes -/
/-- The data that belongs to a byte. -/
def szOf (b : Nat) : Nat := match opOf b with
  | some x => x.dt
  | none => 0
attribute [local irreducible] szOf
theorem size_calls (b : Nat) (hb : b < 256) (w : World) : Calls Tryd.prog 46 #[.int .u8 (b : Int)] w (Ret w (.int .i64 (szOf b : Int))) := by
  have hOf0 := rOf_calls b hb
  refine enter (args := [_]) _ [] [] Tryd.func46 rfl Tryd.ntmps46 rfl (by simp) .nil ?_
  cases ho : opOf b with
  | none =>
    rw [ho] at hOf0
    have hOf : ∀ w, Calls Tryd.prog 12 #[.int .u8 (b : Int)] w (Ret w (.tuple #[.agg (opc zeroOp), .bool false])) := hOf0
    rw [show szOf b = 0 by unfold szOf; rw [ho]]
    (refine CW.seq ?_; refine CW.region ?_; apply LW.v0; rfl; rfl; apply ValP.assign; rfl; apply LW.nil; refine thenN ?_; refine CW.seq ?_; refine CW.region ?_; apply LW.v0; rfl; rfl; apply ValP.move; rfl; apply LW.callE; rfl; rfl; infer_instance; apply ArgsOk.cons; rfl; exact ArgsOk.nil; intro w _; exact hOf w; apply LW.v0; rfl; rfl; apply ValP.move; rfl; apply LW.v0; rfl; rfl; apply ValP.extractN; rfl; rfl; apply LW.v0; rfl; rfl; apply ValP.extractN; rfl; rfl; apply LW.allocA; rfl; intro _; apply LW.store; rfl; rfl; apply SetAt.head; apply Wr.whole; kernel_rfl; kernel_rfl; kernel_rfl; apply LW.v0; rfl; rfl; apply ValP.assign; rfl; apply LW.nil; refine thenN ?_; refine CW.seq ?_; refine CW.region ?_; apply LW.v0; rfl; rfl; apply ValP.fieldAddr; rfl; rfl; apply LW.load; rfl; rfl; apply Known.at; apply FsAt.head; exact Rd.one' rfl; apply LW.v0; rfl; rfl; apply ValP.assign; rfl; apply LW.nil; refine thenN ?_; refine CW.ret ?_)
    (apply finR; exact .inl rfl; rfl; rfl; rfl; apply ResL.cons; exact Res.tmp rfl; exact ResL.nil)
    rfl
  | some x =>
    rw [ho] at hOf0
    have hOf : ∀ w, Calls Tryd.prog 12 #[.int .u8 (b : Int)] w (Ret w (.tuple #[.agg (opc x), .bool true])) := hOf0
    rw [show szOf b = x.dt by unfold szOf; rw [ho]]
    (refine CW.seq ?_; refine CW.region ?_; apply LW.v0; rfl; rfl; apply ValP.assign; rfl; apply LW.nil; refine thenN ?_; refine CW.seq ?_; refine CW.region ?_; apply LW.v0; rfl; rfl; apply ValP.move; rfl; apply LW.callE; rfl; rfl; infer_instance; apply ArgsOk.cons; rfl; exact ArgsOk.nil; intro w _; exact hOf w; apply LW.v0; rfl; rfl; apply ValP.move; rfl; apply LW.v0; rfl; rfl; apply ValP.extractN; rfl; rfl; apply LW.v0; rfl; rfl; apply ValP.extractN; rfl; rfl; apply LW.allocA; rfl; intro _; apply LW.store; rfl; rfl; apply SetAt.head; apply Wr.whole; kernel_rfl; kernel_rfl; kernel_rfl; apply LW.v0; rfl; rfl; apply ValP.assign; rfl; apply LW.nil; refine thenN ?_; refine CW.seq ?_; refine CW.region ?_; apply LW.v0; rfl; rfl; apply ValP.fieldAddr; rfl; rfl; apply LW.load; rfl; rfl; apply Known.at; apply FsAt.head; exact Rd.one' rfl; apply LW.v0; rfl; rfl; apply ValP.assign; rfl; apply LW.nil; refine thenN ?_; refine CW.ret ?_)
    (apply finR; exact .inl rfl; rfl; rfl; rfl; apply ResL.cons; exact Res.tmp rfl; exact ResL.nil)
    rfl
theorem Right_calls (v : Value) (n : Nat) (xs : List Value) (w : World) (hv : RowAt w 1 v n xs) : Calls Tryd.prog 16 #[v] w (Ret w (.bool (decide (n ≤ 200)))) := by
  obtain ⟨p, c, rfl, hc, hm⟩ := hv.form
  refine enter (args := [_]) _ [] [] Tryd.func16 rfl Tryd.ntmps16 rfl (by simp) .nil ?_
  (refine CW.seq ?_; refine CW.region ?_; apply LW.v0; rfl; rfl; apply ValP.assign; rfl; apply LW.nil; refine thenN ?_; refine CW.seq ?_; refine CW.region ?_; apply LW.v0; rfl; rfl; apply ValP.move; rfl; apply LW.v0; rfl; rfl; apply ValP.lenR; rfl; infer_instance; rfl; apply LW.v0; rfl; rfl; apply ValP.leq; rfl; rfl; apply LW.v0; rfl; rfl; apply ValP.assign; rfl; apply LW.nil; refine thenN ?_; refine CW.ret ?_)
  (apply finR; exact .inl rfl; rfl; rfl; rfl; apply ResL.cons; exact Res.tmp rfl; exact ResL.nil)
  rw [show decide (n ≤ 200) = decide (((n : Nat) : Int) ≤ 200) from decide_eq_decide.2 (by omega)]
  rfl
theorem CheckC_calls (v : Value) (n : Nat) (xs : List Value) (w : World) (hv : RowAt w 1 v n xs) : Calls Tryd.prog 20 #[v] w (Ret w (.int .i64 (if n ≤ 200 then 0 else 3))) := by
  obtain ⟨p, c, rfl, hc, hm⟩ := hv.form
  refine enter (args := [_]) _ [] [] Tryd.func20 rfl Tryd.ntmps20 rfl (by simp) .nil ?_
  rcases Nat.lt_or_ge 200 n with h | h
  · rw [if_neg (by omega)]
    (refine CW.seq ?_; refine CW.region ?_; apply LW.v0; rfl; rfl; apply ValP.assign; rfl; apply LW.nil; refine thenN ?_; refine CW.seq ?_; refine CW.seq ?_; refine CW.region ?_; apply LW.v0; rfl; rfl; apply ValP.move; rfl; apply LW.v0; rfl; rfl; apply ValP.lenR; rfl; infer_instance; rfl; apply LW.v0; rfl; rfl; apply ValP.gtrT; rfl; rfl; omega; apply LW.nil; refine thenN ?_; apply CW.condT; rfl; (with_reducible rfl); refine CW.seq ?_; refine CW.region ?_; apply LW.v0; rfl; rfl; apply ValP.assign; rfl; apply LW.nil; refine thenN ?_; refine CW.ret ?_; refine thenR ?_)
    (apply finR; exact .inl rfl; rfl; rfl; rfl; apply ResL.cons; exact Res.tmp rfl; exact ResL.nil)
    rfl
  · rw [if_pos h]
    (refine CW.seq ?_; refine CW.region ?_; apply LW.v0; rfl; rfl; apply ValP.assign; rfl; apply LW.nil; refine thenN ?_; refine CW.seq ?_; refine CW.seq ?_; refine CW.region ?_; apply LW.v0; rfl; rfl; apply ValP.move; rfl; apply LW.v0; rfl; rfl; apply ValP.lenR; rfl; infer_instance; rfl; apply LW.v0; rfl; rfl; apply ValP.gtrF; rfl; rfl; omega; apply LW.nil; refine thenN ?_; apply CW.condF; rfl; (with_reducible rfl); refine CW.skip ?_; refine thenN ?_; refine CW.seq ?_; refine CW.region ?_; apply LW.v0; rfl; rfl; apply ValP.assign; rfl; apply LW.nil; refine thenN ?_; refine CW.ret ?_)
    (apply finR; exact .inl rfl; rfl; rfl; rfl; apply ResL.cons; exact Res.tmp rfl; exact ResL.nil)
    rfl
end Go.Proofs.YtbhicncgjplnoaaDoor
