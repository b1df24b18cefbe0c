/-
  Texts that were built apart, put behind one another (3 of 6): G1 G2 G3 G4 G5 G6 G8 G9 G14 W14 W15 W16 W17 W18 W19 W20 W22 W23 W26 P0 P1 P2 P3 P4 P5 P6 P7 P8 P9 PA PB PC PD PE U1 U2 U3 N3 K6 K7 K8 K1 K2 K3 K4 K5 K9 KA KB KD N4 OA Smy Smz OB Sna Snb N5 N6 Smx N7 N8 C1 C2 C3 C4 C5 C6 C7.
  Conditions: none.
-/
import Derived.Test.YtpgdnfgjbhdbpaaGreatDoorZ2
import Derived.Lib.Mul64
import Derived.Laws.Externs
import Derived.Lib.BytesEntry
import Derived.Laws.IdiomCopy
import Derived.Lib.Bytealg
/-
  The machine's operations: contracts.
  Conditions: none.
-/
namespace Go.Proofs.YtpgdnfgjbhdbpaaGreatDoor
open Go Go.RowKit SL
set_option maxRecDepth 8000
set_option maxHeartbeats 4000000
set_option linter.unusedSimpArgs false
set_option linter.unusedVariables false
attribute [local irreducible] SL.CW SL.LW SL.DW Calls SL.Ret SL.RetG SL.beginQ SL.roundQ SL.rangeQ SL.inQ SL.RW SL.AnyW SL.thenQ SL.thenC SL.thenW SL.blkQ SL.finQ SL.ValP SL.NewP SL.SetP SL.CallP SL.Rd SL.Wr SL.Known
/-! ### Operations -/
structure OpV where
  c : Nat
  nm : List UInt8
  tk : Nat
  ly : Nat
  dt : Nat
def opl (x : OpV) : List Value := [.int .u8 (x.c : Int), sv x.nm, .int .i64 (x.tk : Int), .int .i64 (x.ly : Int), .int .i64 (x.dt : Int)]
abbrev opc (x : OpV) : Array Value := (opl x).toArray
def opcs (l : List OpV) : List Value := l.flatMap opl
theorem opl_len (l : List OpV) : ∀ x ∈ l, (opl x).length = 5 := fun _ _ => rfl
def plainOps : List OpV := [
  ⟨0, [83, 84, 79, 80], 0, 0, 0⟩,
  ⟨1, [65, 68, 68], 2, 1, 0⟩,
  ⟨2, [77, 85, 76], 2, 1, 0⟩,
  ⟨3, [83, 85, 66], 2, 1, 0⟩,
  ⟨4, [68, 73, 86], 2, 1, 0⟩,
  ⟨6, [77, 79, 68], 2, 1, 0⟩,
  ⟨16, [76, 84], 2, 1, 0⟩,
  ⟨17, [71, 84], 2, 1, 0⟩,
  ⟨20, [69, 81], 2, 1, 0⟩,
  ⟨21, [73, 83, 90, 69, 82, 79], 1, 1, 0⟩,
  ⟨22, [65, 78, 68], 2, 1, 0⟩,
  ⟨23, [79, 82], 2, 1, 0⟩,
  ⟨24, [88, 79, 82], 2, 1, 0⟩,
  ⟨25, [78, 79, 84], 1, 1, 0⟩,
  ⟨27, [83, 72, 76], 2, 1, 0⟩,
  ⟨28, [83, 72, 82], 2, 1, 0⟩,
  ⟨32, [72, 65, 83, 72], 2, 1, 0⟩,
  ⟨48, [65, 68, 68, 82, 69, 83, 83], 0, 1, 0⟩,
  ⟨49, [66, 65, 76, 65, 78, 67, 69], 1, 1, 0⟩,
  ⟨50, [79, 82, 73, 71, 73, 78], 0, 1, 0⟩,
  ⟨51, [67, 65, 76, 76, 69, 82], 0, 1, 0⟩,
  ⟨52, [67, 65, 76, 76, 86, 65, 76, 85, 69], 0, 1, 0⟩,
  ⟨53, [68, 65, 84, 65, 76, 79, 65, 68], 1, 1, 0⟩,
  ⟨54, [68, 65, 84, 65, 83, 73, 90, 69], 0, 1, 0⟩,
  ⟨55, [68, 65, 84, 65, 67, 79, 80, 89], 3, 0, 0⟩,
  ⟨61, [82, 69, 84, 85, 82, 78, 83, 73, 90, 69], 0, 1, 0⟩,
  ⟨62, [82, 69, 84, 85, 82, 78, 67, 79, 80, 89], 3, 0, 0⟩,
  ⟨66, [84, 73, 77, 69], 0, 1, 0⟩,
  ⟨67, [78, 85, 77, 66, 69, 82], 0, 1, 0⟩,
  ⟨71, [83, 69, 76, 70, 66, 65, 76, 65, 78, 67, 69], 0, 1, 0⟩,
  ⟨72, [66, 65, 83, 69, 70, 69, 69], 0, 1, 0⟩,
  ⟨80, [80, 79, 80], 1, 0, 0⟩,
  ⟨81, [77, 76, 79, 65, 68], 1, 1, 0⟩,
  ⟨82, [77, 83, 84, 79, 82, 69], 2, 0, 0⟩,
  ⟨83, [77, 83, 84, 79, 82, 69, 56], 2, 0, 0⟩,
  ⟨84, [83, 76, 79, 65, 68], 1, 1, 0⟩,
  ⟨85, [83, 83, 84, 79, 82, 69], 2, 0, 0⟩,
  ⟨86, [74, 85, 77, 80], 1, 0, 0⟩,
  ⟨87, [74, 85, 77, 80, 73], 2, 0, 0⟩,
  ⟨90, [71, 65, 83], 0, 1, 0⟩,
  ⟨91, [74, 85, 77, 80, 68, 69, 83, 84], 0, 0, 0⟩,
  ⟨92, [84, 76, 79, 65, 68], 1, 1, 0⟩,
  ⟨93, [84, 83, 84, 79, 82, 69], 2, 0, 0⟩,
  ⟨241, [67, 65, 76, 76], 7, 1, 0⟩,
  ⟨243, [82, 69, 84, 85, 82, 78], 2, 0, 0⟩,
  ⟨244, [68, 69, 76, 69, 71, 65, 84, 69, 67, 65, 76, 76], 6, 1, 0⟩,
  ⟨245, [67, 82, 69, 65, 84, 69, 50], 4, 1, 0⟩,
  ⟨250, [83, 84, 65, 84, 73, 67, 67, 65, 76, 76], 6, 1, 0⟩,
  ⟨253, [82, 69, 86, 69, 82, 84], 2, 0, 0⟩,
  ⟨254, [73, 78, 86, 65, 76, 73, 68], 0, 0, 0⟩]
def itoa (n : Nat) : List UInt8 := if n < 10 then [UInt8.ofNat (48 + n)] else [UInt8.ofNat (48 + n / 10), UInt8.ofNat (48 + n % 10)]
def rowOp (b : Nat) : Option OpV :=
  if 96 ≤ b ∧ b ≤ 127 then some ⟨b, [80, 85, 83, 72] ++ itoa (b - 95), 0, 1, b - 95⟩
  else if 128 ≤ b ∧ b ≤ 143 then some ⟨b, [68, 85, 80] ++ itoa (b - 127), b - 127, b - 126, 0⟩
  else if 144 ≤ b ∧ b ≤ 159 then some ⟨b, [83, 87, 65, 80] ++ itoa (b - 143), b - 142, b - 142, 0⟩
  else none
def opOf (b : Nat) : Option OpV := match rowOp b with
  | some x => some x
  | none => plainOps.find? (fun x => x.c == b)
/-! ### Numbers in digits -/
def lows : List UInt8 := [48, 49, 50, 51, 52, 53, 54, 55, 56, 57, 97, 98, 99, 100, 101, 102, 103, 104, 105, 106, 107, 108, 109, 110, 111, 112, 113, 114, 115, 116, 117, 118, 119, 120, 121, 122]
def smalls : List UInt8 := (List.range 100).flatMap fun n => [UInt8.ofNat (48 + n / 10), UInt8.ofNat (48 + n % 10)]
theorem lows_cut : ∀ n, n < 10 → (lows.drop n).take (n + 1 - n) = itoa n := by decide +kernel
theorem smalls_cut : ∀ n, n < 100 → 10 ≤ n → (smalls.drop (n * 2)).take (n * 2 + 2 - n * 2) = itoa n := by decide +kernel
theorem small_calls (n : Nat) (hn : n < 100) (w : World) : Calls Tryz.prog 175 #[.int .i64 (n : Int)] w (Ret w (sv (itoa n))) := by
  refine enter (args := [_]) _ [] [] Tryz.func175 rfl Tryz.ntmps175 rfl (by simp) .nil ?_
  rcases Nat.lt_or_ge n 10 with h | h
  · (refine sRz ?_; refine vAz ?_; refine nNz ?_; refine CW.seq ?_; refine sRz ?_; refine vMz ?_; refine lvz (.lssT rfl rfl (by omega)) ?_; refine nNz ?_; refine cTz ?_; refine sRz ?_; refine vMz ?_; refine vMz ?_; refine lvz (.addZL rfl rfl (by decide) (by omega)) ?_; apply LW.v0; rfl; rfl; apply ValP.cutStr; infer_instance; rfl; rfl; rfl; omega; simp; omega; refine vAz ?_; refine nNz ?_; refine CW.ret ?_; refine thenR ?_)
    (apply finR; exact .inl rfl; rfl; rfl; rfl; apply ResL.cons; exact Res.tmp rfl; exact ResL.nil)
    exact congrArg (fun l => sv l) (lows_cut n h)
  · (refine sRz ?_; refine vAz ?_; refine nNz ?_; refine CW.seq ?_; refine sRz ?_; refine vMz ?_; refine lvz (.lssF rfl rfl (by omega)) ?_; refine nNz ?_; refine cFz ?_; refine CW.skip ?_; refine thenN ?_; refine sRz ?_; refine vMz ?_; refine lvz (.mulZL rfl rfl (by decide) (by omega)) ?_; refine vMz ?_; refine lvz (.mulZL rfl rfl (by decide) (by omega)) ?_; refine lvz (.addZL rfl rfl (by decide) (by omega)) ?_; apply LW.v0; rfl; rfl; apply ValP.cutStr; infer_instance; rfl; rfl; rfl; omega; simp; omega; refine vAz ?_; refine nNz ?_; refine CW.ret ?_)
    (apply finR; exact .inl rfl; rfl; rfl; rfl; apply ResL.cons; exact Res.tmp rfl; exact ResL.nil)
    exact congrArg (fun l => sv l) (smalls_cut n hn h)
theorem FormatInt_calls (n : Nat) (hn : n < 100) (w : World) : Calls Tryz.prog 170 #[.int .i64 (n : Int), .int .i64 10] w (Ret w (sv (itoa n))) := by
  refine enter (args := [_, _]) _ [] [] Tryz.func170 rfl Tryz.ntmps170 rfl (by simp) .nil ?_
  (refine sRz ?_; refine vAz ?_; refine nNz ?_; refine CW.seq ?_; refine sRz ?_; refine vMz ?_; refine lvz (.eqT rfl rfl (by omega)) ?_; refine nNz ?_; refine cTz ?_; refine CW.seq ?_; refine sRz ?_; refine vMz ?_; refine lvz (.leqT rfl rfl (by omega)) ?_; refine vMz ?_; refine gTz ?_; refine vMz ?_; refine gTz ?_; refine lvz (.lssT rfl rfl (by omega)) ?_; refine pTz ?_; refine nNz ?_; refine cTz ?_; refine sRz ?_; refine vMz ?_; apply LW.callE; rfl; rfl; infer_instance; exact .cons rfl .nil; intro w _; exact small_calls _ hn w; refine vAz ?_; refine nNz ?_; refine CW.ret ?_; refine thenR ?_; refine thenR ?_)
  (apply finR; exact .inl rfl; rfl; rfl; rfl; apply ResL.cons; exact Res.tmp rfl; exact ResL.nil)
  rfl
theorem iItoa_calls (n : Nat) (hn : n < 100) (w : World) : Calls Tryz.prog 163 #[.int .i64 (n : Int)] w (Ret w (sv (itoa n))) := by
  have h1 := FormatInt_calls n hn
  refine enter (args := [_]) _ [] [] Tryz.func163 rfl Tryz.ntmps163 rfl (by simp) .nil ?_
  (refine sRz ?_; refine vAz ?_; refine nSz ?_; refine vMz ?_; apply LW.callE; rfl; rfl; infer_instance; exact .cons rfl (.cons rfl .nil); intro w _; exact h1 w; refine vAz ?_; refine nNz ?_; refine CW.ret ?_)
  (apply finR; exact .inl rfl; rfl; rfl; rfl; apply ResL.cons; exact Res.tmp rfl; exact ResL.nil)
  rfl
theorem Itoa_calls (n : Nat) (hn : n < 100) (w : World) : Calls Tryz.prog 153 #[.int .i64 (n : Int)] w (Ret w (sv (itoa n))) := by
  have h1 := iItoa_calls n hn
  refine enter (args := [_]) _ [] [] Tryz.func153 rfl Tryz.ntmps153 rfl (by simp) .nil ?_
  (refine sRz ?_; refine vAz ?_; refine nSz ?_; refine vMz ?_; apply LW.callE; rfl; rfl; infer_instance; exact .cons rfl .nil; intro w _; exact h1 w; refine vAz ?_; refine nNz ?_; refine CW.ret ?_)
  (apply finR; exact .inl rfl; rfl; rfl; rfl; apply ResL.cons; exact Res.tmp rfl; exact ResL.nil)
  rfl
/-! ### The operation of a byte -/
theorem itoa_len (n : Nat) : (itoa n).length ≤ 2 := by unfold itoa; split <;> simp
def tupOp (o : Option OpV) : Value := match o with
  | some x => .tuple #[.agg (opc x), .bool true]
  | none => .tuple #[.agg (opc ⟨0, [], 0, 0, 0⟩), .bool false]
theorem row_calls (b : Nat) (hb : b < 256) (w : World) : Calls Tryz.prog 130 #[.int .u8 (b : Int)] w (Ret w (tupOp (rowOp b))) := by
  have hl := itoa_len
  refine enter (args := [_]) _ [] [] Tryz.func130 rfl Tryz.ntmps130 rfl (by simp) .nil ?_
  rcases Nat.lt_or_ge b 96 with h1 | h1
  · rw [show rowOp b = none by unfold rowOp; rw [if_neg (by omega), if_neg (by omega), if_neg (by omega)]]
    (refine sRz ?_; apply LW.allocA; rfl; intro _; refine vAz ?_; refine nSz ?_; refine vMz ?_; refine lvz (.convI rfl (by omega) (by omega)) ?_; refine vAz ?_; refine nNz ?_; refine CW.seq ?_; refine CW.block ?_; refine sRz ?_; refine vMz ?_; refine lvz (.geqF rfl rfl (by omega)) ?_; refine vMz ?_; refine gFz ?_; refine gFz ?_; refine pFz ?_; refine vAz ?_; refine nNz ?_; refine cFz ?_; refine sRz ?_; refine vMz ?_; refine lvz (.geqF rfl rfl (by omega)) ?_; refine vMz ?_; refine gFz ?_; refine gFz ?_; refine pFz ?_; refine vAz ?_; refine nNz ?_; refine cFz ?_; refine sRz ?_; refine vMz ?_; refine lvz (.geqF rfl rfl (by omega)) ?_; refine vMz ?_; refine gFz ?_; refine gFz ?_; refine pFz ?_; refine vAz ?_; refine nNz ?_; refine cFz ?_; refine CW.skip ?_; refine blkN ?_; refine thenN ?_; refine sRz ?_; apply LW.v0; rfl; rfl; apply ValP.buildT; infer_instance; infer_instance; exact PartsOk.nil; rfl; simp only [fillP, wrCells, Value.cells, List.getElem?_cons_zero, List.getElem?_cons_succ, List.toList_toArray, List.setIfInBounds_toArray, List.set_cons_succ, List.set_cons_zero, Nat.reduceAdd, Nat.zero_add]; rfl; refine LW.store rfl rfl .head (.whole rfl rfl rfl) ?_; refine vAz ?_; refine nNz ?_; refine CW.ret ?_)
    (apply finR; exact .inl rfl; rfl; rfl; rfl; apply ResL.cons; apply Res.cell; rfl; apply Known.at; apply FsAt.head; exact Rd.whole rfl; apply ResL.cons; exact Res.tmp rfl; exact ResL.nil)
    rfl
  rcases Nat.lt_or_ge b 128 with h2 | h2
  · rw [show rowOp b = some ⟨b, [80, 85, 83, 72] ++ itoa (b - 95), 0, 1, b - 95⟩ by unfold rowOp; rw [if_pos (by omega)]]
    have hn := Itoa_calls (b - 95) (by omega)
    have hl1 := hl (b - 95)
    (refine sRz ?_; apply LW.allocA; rfl; intro _; refine vAz ?_; refine nSz ?_; refine vMz ?_; refine lvz (.convI rfl (by omega) (by omega)) ?_; refine vAz ?_; refine nNz ?_; refine CW.seq ?_; refine CW.block ?_; refine sRz ?_; refine vMz ?_; refine lvz (.geqT rfl rfl (by omega)) ?_; refine vMz ?_; refine gTz ?_; refine vMz ?_; refine gTz ?_; refine lvz (.leqT rfl rfl (by omega)) ?_; refine pTz ?_; refine vAz ?_; refine nNz ?_; refine cTz ?_; refine sRz ?_; refine vMz ?_; refine lvz (.subZL rfl rfl (by decide) (by omega) (by omega)) ?_; refine vAz ?_; refine nSz ?_; refine vMz ?_; refine vMz ?_; apply LW.callE; rfl; rfl; infer_instance; exact .cons rfl .nil; intro w _; exact hn w; apply LW.v0; rfl; rfl; apply ValP.addStr; rfl; rfl; simp; omega; refine vMz ?_; apply LW.v0; rfl; rfl; apply ValP.buildT; infer_instance; infer_instance; apply PartsOk.cons; rfl; apply PartsOk.cons; rfl; apply PartsOk.cons; rfl; apply PartsOk.cons; rfl; exact PartsOk.nil; rfl; simp only [fillP, wrCells, Value.cells, List.getElem?_cons_zero, List.getElem?_cons_succ, List.toList_toArray, List.setIfInBounds_toArray, List.set_cons_succ, List.set_cons_zero, Nat.reduceAdd, Nat.zero_add]; rfl; refine LW.store rfl rfl .head (.whole rfl rfl rfl) ?_; refine vAz ?_; refine nNz ?_; refine CW.ret ?_; refine blkR ?_; refine thenR ?_)
    (apply finR; exact .inl rfl; rfl; rfl; rfl; apply ResL.cons; apply Res.cell; rfl; apply Known.at; apply FsAt.head; exact Rd.whole rfl; apply ResL.cons; exact Res.tmp rfl; exact ResL.nil)
    rfl
  rcases Nat.lt_or_ge b 144 with h3 | h3
  · rw [show rowOp b = some ⟨b, [68, 85, 80] ++ itoa (b - 127), b - 127, b - 127 + 1, 0⟩ by unfold rowOp; rw [if_neg (by omega), if_pos (by omega), show b - 126 = b - 127 + 1 by omega]]
    have hn := Itoa_calls (b - 127) (by omega)
    have hl1 := hl (b - 127)
    (refine sRz ?_; apply LW.allocA; rfl; intro _; refine vAz ?_; refine nSz ?_; refine vMz ?_; refine lvz (.convI rfl (by omega) (by omega)) ?_; refine vAz ?_; refine nNz ?_; refine CW.seq ?_; refine CW.block ?_; refine sRz ?_; refine vMz ?_; refine lvz (.geqT rfl rfl (by omega)) ?_; refine vMz ?_; refine gTz ?_; refine vMz ?_; refine gTz ?_; refine lvz (.leqF rfl rfl (by omega)) ?_; refine pTz ?_; refine vAz ?_; refine nNz ?_; refine cFz ?_; refine sRz ?_; refine vMz ?_; refine lvz (.geqT rfl rfl (by omega)) ?_; refine vMz ?_; refine gTz ?_; refine vMz ?_; refine gTz ?_; refine lvz (.leqT rfl rfl (by omega)) ?_; refine pTz ?_; refine vAz ?_; refine nNz ?_; refine cTz ?_; refine sRz ?_; refine vMz ?_; refine lvz (.subZL rfl rfl (by decide) (by omega) (by omega)) ?_; refine vAz ?_; refine nSz ?_; refine vMz ?_; refine vMz ?_; apply LW.callE; rfl; rfl; infer_instance; exact .cons rfl .nil; intro w _; exact hn w; apply LW.v0; rfl; rfl; apply ValP.addStr; rfl; rfl; simp; omega; refine vMz ?_; refine vMz ?_; refine lvz (.addZL rfl rfl (by decide) (by omega)) ?_; apply LW.v0; rfl; rfl; apply ValP.buildT; infer_instance; infer_instance; apply PartsOk.cons; rfl; apply PartsOk.cons; rfl; apply PartsOk.cons; rfl; apply PartsOk.cons; rfl; exact PartsOk.nil; rfl; simp only [fillP, wrCells, Value.cells, List.getElem?_cons_zero, List.getElem?_cons_succ, List.toList_toArray, List.setIfInBounds_toArray, List.set_cons_succ, List.set_cons_zero, Nat.reduceAdd, Nat.zero_add]; rfl; refine LW.store rfl rfl .head (.whole rfl rfl rfl) ?_; refine vAz ?_; refine nNz ?_; refine CW.ret ?_; refine blkR ?_; refine thenR ?_)
    (apply finR; exact .inl rfl; rfl; rfl; rfl; apply ResL.cons; apply Res.cell; rfl; apply Known.at; apply FsAt.head; exact Rd.whole rfl; apply ResL.cons; exact Res.tmp rfl; exact ResL.nil)
    rfl
  rcases Nat.lt_or_ge b 160 with h4 | h4
  · rw [show rowOp b = some ⟨b, [83, 87, 65, 80] ++ itoa (b - 143), b - 143 + 1, b - 143 + 1, 0⟩ by unfold rowOp; rw [if_neg (by omega), if_neg (by omega), if_pos (by omega), show b - 142 = b - 143 + 1 by omega]]
    have hn := Itoa_calls (b - 143) (by omega)
    have hl1 := hl (b - 143)
    (refine sRz ?_; apply LW.allocA; rfl; intro _; refine vAz ?_; refine nSz ?_; refine vMz ?_; refine lvz (.convI rfl (by omega) (by omega)) ?_; refine vAz ?_; refine nNz ?_; refine CW.seq ?_; refine CW.block ?_; refine sRz ?_; refine vMz ?_; refine lvz (.geqT rfl rfl (by omega)) ?_; refine vMz ?_; refine gTz ?_; refine vMz ?_; refine gTz ?_; refine lvz (.leqF rfl rfl (by omega)) ?_; refine pTz ?_; refine vAz ?_; refine nNz ?_; refine cFz ?_; refine sRz ?_; refine vMz ?_; refine lvz (.geqT rfl rfl (by omega)) ?_; refine vMz ?_; refine gTz ?_; refine vMz ?_; refine gTz ?_; refine lvz (.leqF rfl rfl (by omega)) ?_; refine pTz ?_; refine vAz ?_; refine nNz ?_; refine cFz ?_; refine sRz ?_; refine vMz ?_; refine lvz (.geqT rfl rfl (by omega)) ?_; refine vMz ?_; refine gTz ?_; refine vMz ?_; refine gTz ?_; refine lvz (.leqT rfl rfl (by omega)) ?_; refine pTz ?_; refine vAz ?_; refine nNz ?_; refine cTz ?_; refine sRz ?_; refine vMz ?_; refine lvz (.subZL rfl rfl (by decide) (by omega) (by omega)) ?_; refine vAz ?_; refine nSz ?_; refine vMz ?_; refine vMz ?_; apply LW.callE; rfl; rfl; infer_instance; exact .cons rfl .nil; intro w _; exact hn w; apply LW.v0; rfl; rfl; apply ValP.addStr; rfl; rfl; simp; omega; refine vMz ?_; refine lvz (.addZL rfl rfl (by decide) (by omega)) ?_; refine vMz ?_; refine lvz (.addZL rfl rfl (by decide) (by omega)) ?_; apply LW.v0; rfl; rfl; apply ValP.buildT; infer_instance; infer_instance; apply PartsOk.cons; rfl; apply PartsOk.cons; rfl; apply PartsOk.cons; rfl; apply PartsOk.cons; rfl; exact PartsOk.nil; rfl; simp only [fillP, wrCells, Value.cells, List.getElem?_cons_zero, List.getElem?_cons_succ, List.toList_toArray, List.setIfInBounds_toArray, List.set_cons_succ, List.set_cons_zero, Nat.reduceAdd, Nat.zero_add]; rfl; refine LW.store rfl rfl .head (.whole rfl rfl rfl) ?_; refine vAz ?_; refine nNz ?_; refine CW.ret ?_; refine blkR ?_; refine thenR ?_)
    (apply finR; exact .inl rfl; rfl; rfl; rfl; apply ResL.cons; apply Res.cell; rfl; apply Known.at; apply FsAt.head; exact Rd.whole rfl; apply ResL.cons; exact Res.tmp rfl; exact ResL.nil)
    rfl
  · rw [show rowOp b = none by unfold rowOp; rw [if_neg (by omega), if_neg (by omega), if_neg (by omega)]]
    (refine sRz ?_; apply LW.allocA; rfl; intro _; refine vAz ?_; refine nSz ?_; refine vMz ?_; refine lvz (.convI rfl (by omega) (by omega)) ?_; refine vAz ?_; refine nNz ?_; refine CW.seq ?_; refine CW.block ?_; refine sRz ?_; refine vMz ?_; refine lvz (.geqT rfl rfl (by omega)) ?_; refine vMz ?_; refine gTz ?_; refine vMz ?_; refine gTz ?_; refine lvz (.leqF rfl rfl (by omega)) ?_; refine pTz ?_; refine vAz ?_; refine nNz ?_; refine cFz ?_; refine sRz ?_; refine vMz ?_; refine lvz (.geqT rfl rfl (by omega)) ?_; refine vMz ?_; refine gTz ?_; refine vMz ?_; refine gTz ?_; refine lvz (.leqF rfl rfl (by omega)) ?_; refine pTz ?_; refine vAz ?_; refine nNz ?_; refine cFz ?_; refine sRz ?_; refine vMz ?_; refine lvz (.geqT rfl rfl (by omega)) ?_; refine vMz ?_; refine gTz ?_; refine vMz ?_; refine gTz ?_; refine lvz (.leqF rfl rfl (by omega)) ?_; refine pTz ?_; refine vAz ?_; refine nNz ?_; refine cFz ?_; refine CW.skip ?_; refine blkN ?_; refine thenN ?_; refine sRz ?_; apply LW.v0; rfl; rfl; apply ValP.buildT; infer_instance; infer_instance; exact PartsOk.nil; rfl; simp only [fillP, wrCells, Value.cells, List.getElem?_cons_zero, List.getElem?_cons_succ, List.toList_toArray, List.setIfInBounds_toArray, List.set_cons_succ, List.set_cons_zero, Nat.reduceAdd, Nat.zero_add]; rfl; refine LW.store rfl rfl .head (.whole rfl rfl rfl) ?_; refine vAz ?_; refine nNz ?_; refine CW.ret ?_)
    (apply finR; exact .inl rfl; rfl; rfl; rfl; apply ResL.cons; apply Res.cell; rfl; apply Known.at; apply FsAt.head; exact Rd.whole rfl; apply ResL.cons; exact Res.tmp rfl; exact ResL.nil)
    rfl
/-! ### The table -/
def PlainV (v : Value) (gs : Fs) : Prop := ∃ b, v = .slice (some ⟨b, 0, none⟩) 50 50 ∧ gs = [(b, .cells (opcs plainOps).toArray 190 (0, 0))]
theorem plain_len : (opcs plainOps).length = 250 := by kernel_rfl
theorem PlainV.us {v : Value} {gs us : Fs} {w : World} (h : PlainV v gs) (hu : ∀ p ∈ us, w.heap[p.1]? = some p.2) (hs : List.Sublist gs us) : RowAt w 5 v plainOps.length (opcs plainOps) := by
  obtain ⟨b, rfl, rfl⟩ := h
  have hg := hu (b, .cells (opcs plainOps).toArray 190 (0, 0)) (hs.subset (by simp))
  exact ⟨⟨_, _, rfl, by decide, by decide⟩, plain_len, fun _ => ⟨b, 0, 50, _, _, _, rfl, hg, by rw [List.drop_zero]; exact List.take_of_length_le (by rw [List.toList_toArray, plain_len]; decide)⟩, .own hg⟩
theorem plain_calls (w : World) : Calls Tryz.prog 132 #[] w (RetG w [] PlainV) := by
  refine enter (args := []) _ [] [] Tryz.func132 rfl Tryz.ntmps132 rfl (by simp) .nil ?_
  (refine sRz ?_; refine vAz ?_; refine nSz ?_; apply LW.v0; rfl; rfl; apply ValP.buildT; infer_instance; infer_instance; apply PartsOk.cons; rfl; apply PartsOk.cons; rfl; exact PartsOk.nil; rfl; simp only [fillP, wrCells, Value.cells, List.getElem?_cons_zero, List.getElem?_cons_succ, List.toList_toArray, List.setIfInBounds_toArray, List.set_cons_succ, List.set_cons_zero, Nat.reduceAdd, Nat.zero_add]; rfl; apply LW.v0; rfl; rfl; apply ValP.buildT; infer_instance; infer_instance; apply PartsOk.cons; rfl; apply PartsOk.cons; rfl; apply PartsOk.cons; rfl; apply PartsOk.cons; rfl; exact PartsOk.nil; rfl; simp only [fillP, wrCells, Value.cells, List.getElem?_cons_zero, List.getElem?_cons_succ, List.toList_toArray, List.setIfInBounds_toArray, List.set_cons_succ, List.set_cons_zero, Nat.reduceAdd, Nat.zero_add]; rfl; apply LW.v0; rfl; rfl; apply ValP.buildT; infer_instance; infer_instance; apply PartsOk.cons; rfl; apply PartsOk.cons; rfl; apply PartsOk.cons; rfl; apply PartsOk.cons; rfl; exact PartsOk.nil; rfl; simp only [fillP, wrCells, Value.cells, List.getElem?_cons_zero, List.getElem?_cons_succ, List.toList_toArray, List.setIfInBounds_toArray, List.set_cons_succ, List.set_cons_zero, Nat.reduceAdd, Nat.zero_add]; rfl; apply LW.v0; rfl; rfl; apply ValP.buildT; infer_instance; infer_instance; apply PartsOk.cons; rfl; apply PartsOk.cons; rfl; apply PartsOk.cons; rfl; apply PartsOk.cons; rfl; exact PartsOk.nil; rfl; simp only [fillP, wrCells, Value.cells, List.getElem?_cons_zero, List.getElem?_cons_succ, List.toList_toArray, List.setIfInBounds_toArray, List.set_cons_succ, List.set_cons_zero, Nat.reduceAdd, Nat.zero_add]; rfl; apply LW.v0; rfl; rfl; apply ValP.buildT; infer_instance; infer_instance; apply PartsOk.cons; rfl; apply PartsOk.cons; rfl; apply PartsOk.cons; rfl; apply PartsOk.cons; rfl; exact PartsOk.nil; rfl; simp only [fillP, wrCells, Value.cells, List.getElem?_cons_zero, List.getElem?_cons_succ, List.toList_toArray, List.setIfInBounds_toArray, List.set_cons_succ, List.set_cons_zero, Nat.reduceAdd, Nat.zero_add]; rfl; apply LW.v0; rfl; rfl; apply ValP.buildT; infer_instance; infer_instance; apply PartsOk.cons; rfl; apply PartsOk.cons; rfl; apply PartsOk.cons; rfl; apply PartsOk.cons; rfl; exact PartsOk.nil; rfl; simp only [fillP, wrCells, Value.cells, List.getElem?_cons_zero, List.getElem?_cons_succ, List.toList_toArray, List.setIfInBounds_toArray, List.set_cons_succ, List.set_cons_zero, Nat.reduceAdd, Nat.zero_add]; rfl; apply LW.v0; rfl; rfl; apply ValP.buildT; infer_instance; infer_instance; apply PartsOk.cons; rfl; apply PartsOk.cons; rfl; apply PartsOk.cons; rfl; apply PartsOk.cons; rfl; exact PartsOk.nil; rfl; simp only [fillP, wrCells, Value.cells, List.getElem?_cons_zero, List.getElem?_cons_succ, List.toList_toArray, List.setIfInBounds_toArray, List.set_cons_succ, List.set_cons_zero, Nat.reduceAdd, Nat.zero_add]; rfl; apply LW.v0; rfl; rfl; apply ValP.buildT; infer_instance; infer_instance; apply PartsOk.cons; rfl; apply PartsOk.cons; rfl; apply PartsOk.cons; rfl; apply PartsOk.cons; rfl; exact PartsOk.nil; rfl; simp only [fillP, wrCells, Value.cells, List.getElem?_cons_zero, List.getElem?_cons_succ, List.toList_toArray, List.setIfInBounds_toArray, List.set_cons_succ, List.set_cons_zero, Nat.reduceAdd, Nat.zero_add]; rfl; apply LW.v0; rfl; rfl; apply ValP.buildT; infer_instance; infer_instance; apply PartsOk.cons; rfl; apply PartsOk.cons; rfl; apply PartsOk.cons; rfl; apply PartsOk.cons; rfl; exact PartsOk.nil; rfl; simp only [fillP, wrCells, Value.cells, List.getElem?_cons_zero, List.getElem?_cons_succ, List.toList_toArray, List.setIfInBounds_toArray, List.set_cons_succ, List.set_cons_zero, Nat.reduceAdd, Nat.zero_add]; rfl; apply LW.v0; rfl; rfl; apply ValP.buildT; infer_instance; infer_instance; apply PartsOk.cons; rfl; apply PartsOk.cons; rfl; apply PartsOk.cons; rfl; apply PartsOk.cons; rfl; exact PartsOk.nil; rfl; simp only [fillP, wrCells, Value.cells, List.getElem?_cons_zero, List.getElem?_cons_succ, List.toList_toArray, List.setIfInBounds_toArray, List.set_cons_succ, List.set_cons_zero, Nat.reduceAdd, Nat.zero_add]; rfl; apply LW.v0; rfl; rfl; apply ValP.buildT; infer_instance; infer_instance; apply PartsOk.cons; rfl; apply PartsOk.cons; rfl; apply PartsOk.cons; rfl; apply PartsOk.cons; rfl; exact PartsOk.nil; rfl; simp only [fillP, wrCells, Value.cells, List.getElem?_cons_zero, List.getElem?_cons_succ, List.toList_toArray, List.setIfInBounds_toArray, List.set_cons_succ, List.set_cons_zero, Nat.reduceAdd, Nat.zero_add]; rfl; apply LW.v0; rfl; rfl; apply ValP.buildT; infer_instance; infer_instance; apply PartsOk.cons; rfl; apply PartsOk.cons; rfl; apply PartsOk.cons; rfl; apply PartsOk.cons; rfl; exact PartsOk.nil; rfl; simp only [fillP, wrCells, Value.cells, List.getElem?_cons_zero, List.getElem?_cons_succ, List.toList_toArray, List.setIfInBounds_toArray, List.set_cons_succ, List.set_cons_zero, Nat.reduceAdd, Nat.zero_add]; rfl; apply LW.v0; rfl; rfl; apply ValP.buildT; infer_instance; infer_instance; apply PartsOk.cons; rfl; apply PartsOk.cons; rfl; apply PartsOk.cons; rfl; apply PartsOk.cons; rfl; exact PartsOk.nil; rfl; simp only [fillP, wrCells, Value.cells, List.getElem?_cons_zero, List.getElem?_cons_succ, List.toList_toArray, List.setIfInBounds_toArray, List.set_cons_succ, List.set_cons_zero, Nat.reduceAdd, Nat.zero_add]; rfl; apply LW.v0; rfl; rfl; apply ValP.buildT; infer_instance; infer_instance; apply PartsOk.cons; rfl; apply PartsOk.cons; rfl; apply PartsOk.cons; rfl; apply PartsOk.cons; rfl; exact PartsOk.nil; rfl; simp only [fillP, wrCells, Value.cells, List.getElem?_cons_zero, List.getElem?_cons_succ, List.toList_toArray, List.setIfInBounds_toArray, List.set_cons_succ, List.set_cons_zero, Nat.reduceAdd, Nat.zero_add]; rfl; apply LW.v0; rfl; rfl; apply ValP.buildT; infer_instance; infer_instance; apply PartsOk.cons; rfl; apply PartsOk.cons; rfl; apply PartsOk.cons; rfl; apply PartsOk.cons; rfl; exact PartsOk.nil; rfl; simp only [fillP, wrCells, Value.cells, List.getElem?_cons_zero, List.getElem?_cons_succ, List.toList_toArray, List.setIfInBounds_toArray, List.set_cons_succ, List.set_cons_zero, Nat.reduceAdd, Nat.zero_add]; rfl; apply LW.v0; rfl; rfl; apply ValP.buildT; infer_instance; infer_instance; apply PartsOk.cons; rfl; apply PartsOk.cons; rfl; apply PartsOk.cons; rfl; apply PartsOk.cons; rfl; exact PartsOk.nil; rfl; simp only [fillP, wrCells, Value.cells, List.getElem?_cons_zero, List.getElem?_cons_succ, List.toList_toArray, List.setIfInBounds_toArray, List.set_cons_succ, List.set_cons_zero, Nat.reduceAdd, Nat.zero_add]; rfl; apply LW.v0; rfl; rfl; apply ValP.buildT; infer_instance; infer_instance; apply PartsOk.cons; rfl; apply PartsOk.cons; rfl; apply PartsOk.cons; rfl; apply PartsOk.cons; rfl; exact PartsOk.nil; rfl; simp only [fillP, wrCells, Value.cells, List.getElem?_cons_zero, List.getElem?_cons_succ, List.toList_toArray, List.setIfInBounds_toArray, List.set_cons_succ, List.set_cons_zero, Nat.reduceAdd, Nat.zero_add]; rfl; apply LW.v0; rfl; rfl; apply ValP.buildT; infer_instance; infer_instance; apply PartsOk.cons; rfl; apply PartsOk.cons; rfl; apply PartsOk.cons; rfl; exact PartsOk.nil; rfl; simp only [fillP, wrCells, Value.cells, List.getElem?_cons_zero, List.getElem?_cons_succ, List.toList_toArray, List.setIfInBounds_toArray, List.set_cons_succ, List.set_cons_zero, Nat.reduceAdd, Nat.zero_add]; rfl; apply LW.v0; rfl; rfl; apply ValP.buildT; infer_instance; infer_instance; apply PartsOk.cons; rfl; apply PartsOk.cons; rfl; apply PartsOk.cons; rfl; apply PartsOk.cons; rfl; exact PartsOk.nil; rfl; simp only [fillP, wrCells, Value.cells, List.getElem?_cons_zero, List.getElem?_cons_succ, List.toList_toArray, List.setIfInBounds_toArray, List.set_cons_succ, List.set_cons_zero, Nat.reduceAdd, Nat.zero_add]; rfl; apply LW.v0; rfl; rfl; apply ValP.buildT; infer_instance; infer_instance; apply PartsOk.cons; rfl; apply PartsOk.cons; rfl; apply PartsOk.cons; rfl; exact PartsOk.nil; rfl; simp only [fillP, wrCells, Value.cells, List.getElem?_cons_zero, List.getElem?_cons_succ, List.toList_toArray, List.setIfInBounds_toArray, List.set_cons_succ, List.set_cons_zero, Nat.reduceAdd, Nat.zero_add]; rfl; apply LW.v0; rfl; rfl; apply ValP.buildT; infer_instance; infer_instance; apply PartsOk.cons; rfl; apply PartsOk.cons; rfl; apply PartsOk.cons; rfl; exact PartsOk.nil; rfl; simp only [fillP, wrCells, Value.cells, List.getElem?_cons_zero, List.getElem?_cons_succ, List.toList_toArray, List.setIfInBounds_toArray, List.set_cons_succ, List.set_cons_zero, Nat.reduceAdd, Nat.zero_add]; rfl; apply LW.v0; rfl; rfl; apply ValP.buildT; infer_instance; infer_instance; apply PartsOk.cons; rfl; apply PartsOk.cons; rfl; apply PartsOk.cons; rfl; exact PartsOk.nil; rfl; simp only [fillP, wrCells, Value.cells, List.getElem?_cons_zero, List.getElem?_cons_succ, List.toList_toArray, List.setIfInBounds_toArray, List.set_cons_succ, List.set_cons_zero, Nat.reduceAdd, Nat.zero_add]; rfl; apply LW.v0; rfl; rfl; apply ValP.buildT; infer_instance; infer_instance; apply PartsOk.cons; rfl; apply PartsOk.cons; rfl; apply PartsOk.cons; rfl; apply PartsOk.cons; rfl; exact PartsOk.nil; rfl; simp only [fillP, wrCells, Value.cells, List.getElem?_cons_zero, List.getElem?_cons_succ, List.toList_toArray, List.setIfInBounds_toArray, List.set_cons_succ, List.set_cons_zero, Nat.reduceAdd, Nat.zero_add]; rfl; apply LW.v0; rfl; rfl; apply ValP.buildT; infer_instance; infer_instance; apply PartsOk.cons; rfl; apply PartsOk.cons; rfl; apply PartsOk.cons; rfl; exact PartsOk.nil; rfl; simp only [fillP, wrCells, Value.cells, List.getElem?_cons_zero, List.getElem?_cons_succ, List.toList_toArray, List.setIfInBounds_toArray, List.set_cons_succ, List.set_cons_zero, Nat.reduceAdd, Nat.zero_add]; rfl; apply LW.v0; rfl; rfl; apply ValP.buildT; infer_instance; infer_instance; apply PartsOk.cons; rfl; apply PartsOk.cons; rfl; apply PartsOk.cons; rfl; exact PartsOk.nil; rfl; simp only [fillP, wrCells, Value.cells, List.getElem?_cons_zero, List.getElem?_cons_succ, List.toList_toArray, List.setIfInBounds_toArray, List.set_cons_succ, List.set_cons_zero, Nat.reduceAdd, Nat.zero_add]; rfl; apply LW.v0; rfl; rfl; apply ValP.buildT; infer_instance; infer_instance; apply PartsOk.cons; rfl; apply PartsOk.cons; rfl; apply PartsOk.cons; rfl; exact PartsOk.nil; rfl; simp only [fillP, wrCells, Value.cells, List.getElem?_cons_zero, List.getElem?_cons_succ, List.toList_toArray, List.setIfInBounds_toArray, List.set_cons_succ, List.set_cons_zero, Nat.reduceAdd, Nat.zero_add]; rfl; apply LW.v0; rfl; rfl; apply ValP.buildT; infer_instance; infer_instance; apply PartsOk.cons; rfl; apply PartsOk.cons; rfl; apply PartsOk.cons; rfl; exact PartsOk.nil; rfl; simp only [fillP, wrCells, Value.cells, List.getElem?_cons_zero, List.getElem?_cons_succ, List.toList_toArray, List.setIfInBounds_toArray, List.set_cons_succ, List.set_cons_zero, Nat.reduceAdd, Nat.zero_add]; rfl; apply LW.v0; rfl; rfl; apply ValP.buildT; infer_instance; infer_instance; apply PartsOk.cons; rfl; apply PartsOk.cons; rfl; apply PartsOk.cons; rfl; exact PartsOk.nil; rfl; simp only [fillP, wrCells, Value.cells, List.getElem?_cons_zero, List.getElem?_cons_succ, List.toList_toArray, List.setIfInBounds_toArray, List.set_cons_succ, List.set_cons_zero, Nat.reduceAdd, Nat.zero_add]; rfl; apply LW.v0; rfl; rfl; apply ValP.buildT; infer_instance; infer_instance; apply PartsOk.cons; rfl; apply PartsOk.cons; rfl; apply PartsOk.cons; rfl; exact PartsOk.nil; rfl; simp only [fillP, wrCells, Value.cells, List.getElem?_cons_zero, List.getElem?_cons_succ, List.toList_toArray, List.setIfInBounds_toArray, List.set_cons_succ, List.set_cons_zero, Nat.reduceAdd, Nat.zero_add]; rfl; apply LW.v0; rfl; rfl; apply ValP.buildT; infer_instance; infer_instance; apply PartsOk.cons; rfl; apply PartsOk.cons; rfl; apply PartsOk.cons; rfl; exact PartsOk.nil; rfl; simp only [fillP, wrCells, Value.cells, List.getElem?_cons_zero, List.getElem?_cons_succ, List.toList_toArray, List.setIfInBounds_toArray, List.set_cons_succ, List.set_cons_zero, Nat.reduceAdd, Nat.zero_add]; rfl; apply LW.v0; rfl; rfl; apply ValP.buildT; infer_instance; infer_instance; apply PartsOk.cons; rfl; apply PartsOk.cons; rfl; apply PartsOk.cons; rfl; exact PartsOk.nil; rfl; simp only [fillP, wrCells, Value.cells, List.getElem?_cons_zero, List.getElem?_cons_succ, List.toList_toArray, List.setIfInBounds_toArray, List.set_cons_succ, List.set_cons_zero, Nat.reduceAdd, Nat.zero_add]; rfl; apply LW.v0; rfl; rfl; apply ValP.buildT; infer_instance; infer_instance; apply PartsOk.cons; rfl; apply PartsOk.cons; rfl; apply PartsOk.cons; rfl; exact PartsOk.nil; rfl; simp only [fillP, wrCells, Value.cells, List.getElem?_cons_zero, List.getElem?_cons_succ, List.toList_toArray, List.setIfInBounds_toArray, List.set_cons_succ, List.set_cons_zero, Nat.reduceAdd, Nat.zero_add]; rfl; apply LW.v0; rfl; rfl; apply ValP.buildT; infer_instance; infer_instance; apply PartsOk.cons; rfl; apply PartsOk.cons; rfl; apply PartsOk.cons; rfl; apply PartsOk.cons; rfl; exact PartsOk.nil; rfl; simp only [fillP, wrCells, Value.cells, List.getElem?_cons_zero, List.getElem?_cons_succ, List.toList_toArray, List.setIfInBounds_toArray, List.set_cons_succ, List.set_cons_zero, Nat.reduceAdd, Nat.zero_add]; rfl; apply LW.v0; rfl; rfl; apply ValP.buildT; infer_instance; infer_instance; apply PartsOk.cons; rfl; apply PartsOk.cons; rfl; apply PartsOk.cons; rfl; exact PartsOk.nil; rfl; simp only [fillP, wrCells, Value.cells, List.getElem?_cons_zero, List.getElem?_cons_succ, List.toList_toArray, List.setIfInBounds_toArray, List.set_cons_succ, List.set_cons_zero, Nat.reduceAdd, Nat.zero_add]; rfl; apply LW.v0; rfl; rfl; apply ValP.buildT; infer_instance; infer_instance; apply PartsOk.cons; rfl; apply PartsOk.cons; rfl; apply PartsOk.cons; rfl; exact PartsOk.nil; rfl; simp only [fillP, wrCells, Value.cells, List.getElem?_cons_zero, List.getElem?_cons_succ, List.toList_toArray, List.setIfInBounds_toArray, List.set_cons_succ, List.set_cons_zero, Nat.reduceAdd, Nat.zero_add]; rfl; apply LW.v0; rfl; rfl; apply ValP.buildT; infer_instance; infer_instance; apply PartsOk.cons; rfl; apply PartsOk.cons; rfl; apply PartsOk.cons; rfl; apply PartsOk.cons; rfl; exact PartsOk.nil; rfl; simp only [fillP, wrCells, Value.cells, List.getElem?_cons_zero, List.getElem?_cons_succ, List.toList_toArray, List.setIfInBounds_toArray, List.set_cons_succ, List.set_cons_zero, Nat.reduceAdd, Nat.zero_add]; rfl; apply LW.v0; rfl; rfl; apply ValP.buildT; infer_instance; infer_instance; apply PartsOk.cons; rfl; apply PartsOk.cons; rfl; apply PartsOk.cons; rfl; exact PartsOk.nil; rfl; simp only [fillP, wrCells, Value.cells, List.getElem?_cons_zero, List.getElem?_cons_succ, List.toList_toArray, List.setIfInBounds_toArray, List.set_cons_succ, List.set_cons_zero, Nat.reduceAdd, Nat.zero_add]; rfl; apply LW.v0; rfl; rfl; apply ValP.buildT; infer_instance; infer_instance; apply PartsOk.cons; rfl; apply PartsOk.cons; rfl; apply PartsOk.cons; rfl; exact PartsOk.nil; rfl; simp only [fillP, wrCells, Value.cells, List.getElem?_cons_zero, List.getElem?_cons_succ, List.toList_toArray, List.setIfInBounds_toArray, List.set_cons_succ, List.set_cons_zero, Nat.reduceAdd, Nat.zero_add]; rfl; apply LW.v0; rfl; rfl; apply ValP.buildT; infer_instance; infer_instance; apply PartsOk.cons; rfl; apply PartsOk.cons; rfl; apply PartsOk.cons; rfl; exact PartsOk.nil; rfl; simp only [fillP, wrCells, Value.cells, List.getElem?_cons_zero, List.getElem?_cons_succ, List.toList_toArray, List.setIfInBounds_toArray, List.set_cons_succ, List.set_cons_zero, Nat.reduceAdd, Nat.zero_add]; rfl; apply LW.v0; rfl; rfl; apply ValP.buildT; infer_instance; infer_instance; apply PartsOk.cons; rfl; apply PartsOk.cons; rfl; apply PartsOk.cons; rfl; exact PartsOk.nil; rfl; simp only [fillP, wrCells, Value.cells, List.getElem?_cons_zero, List.getElem?_cons_succ, List.toList_toArray, List.setIfInBounds_toArray, List.set_cons_succ, List.set_cons_zero, Nat.reduceAdd, Nat.zero_add]; rfl; apply LW.v0; rfl; rfl; apply ValP.buildT; infer_instance; infer_instance; apply PartsOk.cons; rfl; apply PartsOk.cons; rfl; exact PartsOk.nil; rfl; simp only [fillP, wrCells, Value.cells, List.getElem?_cons_zero, List.getElem?_cons_succ, List.toList_toArray, List.setIfInBounds_toArray, List.set_cons_succ, List.set_cons_zero, Nat.reduceAdd, Nat.zero_add]; rfl; apply LW.v0; rfl; rfl; apply ValP.buildT; infer_instance; infer_instance; apply PartsOk.cons; rfl; apply PartsOk.cons; rfl; apply PartsOk.cons; rfl; apply PartsOk.cons; rfl; exact PartsOk.nil; rfl; simp only [fillP, wrCells, Value.cells, List.getElem?_cons_zero, List.getElem?_cons_succ, List.toList_toArray, List.setIfInBounds_toArray, List.set_cons_succ, List.set_cons_zero, Nat.reduceAdd, Nat.zero_add]; rfl; apply LW.v0; rfl; rfl; apply ValP.buildT; infer_instance; infer_instance; apply PartsOk.cons; rfl; apply PartsOk.cons; rfl; apply PartsOk.cons; rfl; exact PartsOk.nil; rfl; simp only [fillP, wrCells, Value.cells, List.getElem?_cons_zero, List.getElem?_cons_succ, List.toList_toArray, List.setIfInBounds_toArray, List.set_cons_succ, List.set_cons_zero, Nat.reduceAdd, Nat.zero_add]; rfl; apply LW.v0; rfl; rfl; apply ValP.buildT; infer_instance; infer_instance; apply PartsOk.cons; rfl; apply PartsOk.cons; rfl; apply PartsOk.cons; rfl; apply PartsOk.cons; rfl; exact PartsOk.nil; rfl; simp only [fillP, wrCells, Value.cells, List.getElem?_cons_zero, List.getElem?_cons_succ, List.toList_toArray, List.setIfInBounds_toArray, List.set_cons_succ, List.set_cons_zero, Nat.reduceAdd, Nat.zero_add]; rfl; apply LW.v0; rfl; rfl; apply ValP.buildT; infer_instance; infer_instance; apply PartsOk.cons; rfl; apply PartsOk.cons; rfl; apply PartsOk.cons; rfl; exact PartsOk.nil; rfl; simp only [fillP, wrCells, Value.cells, List.getElem?_cons_zero, List.getElem?_cons_succ, List.toList_toArray, List.setIfInBounds_toArray, List.set_cons_succ, List.set_cons_zero, Nat.reduceAdd, Nat.zero_add]; rfl; apply LW.v0; rfl; rfl; apply ValP.buildT; infer_instance; infer_instance; apply PartsOk.cons; rfl; apply PartsOk.cons; rfl; apply PartsOk.cons; rfl; apply PartsOk.cons; rfl; exact PartsOk.nil; rfl; simp only [fillP, wrCells, Value.cells, List.getElem?_cons_zero, List.getElem?_cons_succ, List.toList_toArray, List.setIfInBounds_toArray, List.set_cons_succ, List.set_cons_zero, Nat.reduceAdd, Nat.zero_add]; rfl; apply LW.v0; rfl; rfl; apply ValP.buildT; infer_instance; infer_instance; apply PartsOk.cons; rfl; apply PartsOk.cons; rfl; apply PartsOk.cons; rfl; apply PartsOk.cons; rfl; exact PartsOk.nil; rfl; simp only [fillP, wrCells, Value.cells, List.getElem?_cons_zero, List.getElem?_cons_succ, List.toList_toArray, List.setIfInBounds_toArray, List.set_cons_succ, List.set_cons_zero, Nat.reduceAdd, Nat.zero_add]; rfl; apply LW.v0; rfl; rfl; apply ValP.buildT; infer_instance; infer_instance; apply PartsOk.cons; rfl; apply PartsOk.cons; rfl; apply PartsOk.cons; rfl; apply PartsOk.cons; rfl; exact PartsOk.nil; rfl; simp only [fillP, wrCells, Value.cells, List.getElem?_cons_zero, List.getElem?_cons_succ, List.toList_toArray, List.setIfInBounds_toArray, List.set_cons_succ, List.set_cons_zero, Nat.reduceAdd, Nat.zero_add]; rfl; apply LW.v0; rfl; rfl; apply ValP.buildT; infer_instance; infer_instance; apply PartsOk.cons; rfl; apply PartsOk.cons; rfl; apply PartsOk.cons; rfl; exact PartsOk.nil; rfl; simp only [fillP, wrCells, Value.cells, List.getElem?_cons_zero, List.getElem?_cons_succ, List.toList_toArray, List.setIfInBounds_toArray, List.set_cons_succ, List.set_cons_zero, Nat.reduceAdd, Nat.zero_add]; rfl; apply LW.v0; rfl; rfl; apply ValP.buildT; infer_instance; infer_instance; apply PartsOk.cons; rfl; apply PartsOk.cons; rfl; exact PartsOk.nil; rfl; simp only [fillP, wrCells, Value.cells, List.getElem?_cons_zero, List.getElem?_cons_succ, List.toList_toArray, List.setIfInBounds_toArray, List.set_cons_succ, List.set_cons_zero, Nat.reduceAdd, Nat.zero_add]; rfl)
  refine LW.v0 rfl rfl (ValP.buildA (vs := (plainOps.zipIdx.map fun p => (p.2, .agg (opc p.1)))) (c := (opcs plainOps).toArray) ?_ (by kernel_rfl) (by kernel_rfl)) ?_
  · (apply PartsOk.cons; rfl; apply PartsOk.cons; rfl; apply PartsOk.cons; rfl; apply PartsOk.cons; rfl; apply PartsOk.cons; rfl; apply PartsOk.cons; rfl; apply PartsOk.cons; rfl; apply PartsOk.cons; rfl; apply PartsOk.cons; rfl; apply PartsOk.cons; rfl; apply PartsOk.cons; rfl; apply PartsOk.cons; rfl; apply PartsOk.cons; rfl; apply PartsOk.cons; rfl; apply PartsOk.cons; rfl; apply PartsOk.cons; rfl; apply PartsOk.cons; rfl; apply PartsOk.cons; rfl; apply PartsOk.cons; rfl; apply PartsOk.cons; rfl; apply PartsOk.cons; rfl; apply PartsOk.cons; rfl; apply PartsOk.cons; rfl; apply PartsOk.cons; rfl; apply PartsOk.cons; rfl; apply PartsOk.cons; rfl; apply PartsOk.cons; rfl; apply PartsOk.cons; rfl; apply PartsOk.cons; rfl; apply PartsOk.cons; rfl; apply PartsOk.cons; rfl; apply PartsOk.cons; rfl; apply PartsOk.cons; rfl; apply PartsOk.cons; rfl; apply PartsOk.cons; rfl; apply PartsOk.cons; rfl; apply PartsOk.cons; rfl; apply PartsOk.cons; rfl; apply PartsOk.cons; rfl; apply PartsOk.cons; rfl; apply PartsOk.cons; rfl; apply PartsOk.cons; rfl; apply PartsOk.cons; rfl; apply PartsOk.cons; rfl; apply PartsOk.cons; rfl; apply PartsOk.cons; rfl; apply PartsOk.cons; rfl; apply PartsOk.cons; rfl; apply PartsOk.cons; rfl; apply PartsOk.cons; rfl; exact PartsOk.nil)
  (apply LW.allocA; rfl; intro _; apply LW.store; rfl; rfl; apply SetAt.head; apply Wr.whole; kernel_rfl; kernel_rfl; kernel_rfl; refine nSz ?_; refine lvz (.cutArrAll inferInstance inferInstance rfl) ?_; refine vAz ?_; refine nNz ?_; refine CW.ret ?_)
  rename_i b
  apply finM [(b, .cells (opcs plainOps).toArray 190 (0, 0))]; (exact .inl rfl); (exact Shut.nil); rfl; (apply ResL.cons; exact Res.tmp rfl; exact ResL.nil); exact List.Sublist.refl _
  exact ⟨b, rfl, rfl⟩
end Go.Proofs.YtpgdnfgjbhdbpaaGreatDoor

/-
  The operation of a byte: contracts.
  Conditions: none.
-/
namespace Go.Proofs.YtpgdnfgjbhdbpaaGreatDoor
open Go Go.RowKit SL
set_option maxRecDepth 8000
set_option maxHeartbeats 4000000
set_option linter.unusedSimpArgs false
set_option linter.unusedVariables false
attribute [local irreducible] SL.CW SL.LW SL.DW Calls SL.Ret SL.RetG SL.beginQ SL.roundQ SL.rangeQ SL.inQ SL.RW SL.AnyW SL.thenQ SL.thenC SL.thenW SL.blkQ SL.finQ SL.ValP SL.NewP SL.SetP SL.CallP SL.Rd SL.Wr SL.Known
theorem Of1_calls (x : OpV) (k bb : Nat) (E : TypeId) (fr : Nat × Nat) (w : World) (hb : w.heap[bb]? = some (.cells #[.int .u8 (k : Int)] E fr)) : Calls Tryz.prog 133 #[.agg (opc x), .pointer (some ⟨bb, 0, none⟩)] w (Ret w (.bool (decide (x.c = k)))) := by
  refine enter (args := [_, _]) _ [] [] Tryz.func133 rfl Tryz.ntmps133 rfl (by simp) .nil ?_
  (refine sRz ?_; apply LW.boxA; rfl; rfl; intro _; refine vAz ?_; refine nSz ?_; refine vFz ?_; refine ldz rfl .head (Rd.one' rfl) ?_; apply LW.load; rfl; rfl; exact Known.ext (by assumption) (by simp); exact Rd.one' rfl; refine lvz (.eq rfl rfl) ?_; refine vAz ?_; refine nNz ?_; refine CW.ret ?_)
  (apply finR; exact .inl rfl; rfl; rfl; rfl; apply ResL.cons; exact Res.tmp rfl; exact ResL.nil)
  exact congrArg Value.bool (decide_eq_decide.2 Int.natCast_inj)
/-- The place of the first operation of that byte. -/
def idxOf (l : List OpV) (k : Nat) : Int := match l.findIdx? (fun x => x.c == k) with
  | some i => (i : Int)
  | none => -1
theorem idxOf_hit {l : List OpV} {k m : Nat} (hm : m < l.length) (h : ∀ i (hi : i < m), l[i].c ≠ k) (he : l[m].c = k) : idxOf l k = (m : Int) := by
  unfold idxOf
  rw [List.findIdx?_eq_some_iff_getElem.2 ⟨hm, by simpa using he, fun i hi => by simpa using h i hi⟩]
theorem idxOf_miss {l : List OpV} {k : Nat} (h : ∀ i (hi : i < l.length), l[i].c ≠ k) : idxOf l k = -1 := by
  unfold idxOf
  rw [List.findIdx?_eq_none_iff.2 fun x hx => by obtain ⟨i, hi, rfl⟩ := List.getElem_of_mem hx; simpa using h i hi]
theorem IndexFunc_calls (l : List OpV) (k : Nat) (v : Value) (bb : Nat) (E : TypeId) (fr : Nat × Nat) (w : World) (hv : RowAt w 5 v l.length (opcs l)) (hb : w.heap[bb]? = some (.cells #[.int .u8 (k : Int)] E fr)) :
    Calls Tryz.prog 131 #[v, .func (.func 133) #[] #[.pointer (some ⟨bb, 0, none⟩)]] w (Ret w (.int .i64 (idxOf l k))) := by
  obtain ⟨p, c, rfl, hc, hm⟩ := hv.form
  simp only [maxLen] at hm
  refine enter (args := [_, _]) _ [] [] Tryz.func131 rfl Tryz.ntmps131 rfl (by simp) .nil ?_
  (refine sRz ?_; refine vAz ?_; refine nNz ?_; refine CW.seq ?_; refine sRz ?_; refine vMz ?_; refine lvz (.lenR rfl inferInstance rfl) ?_; refine vMz ?_; refine nNz ?_; refine CW.block ?_)
  refine CW.loop (fun m : Nat => ([(8, .int .i64 (m : Int)), (7, .int .i64 (l.length : Int)), (0, .slice p l.length c), (1, .func (.func 133) #[] #[.pointer (some ⟨bb, 0, none⟩)])], []))
    (fun m => m ≤ l.length ∧ ∀ i (hi : i < m) (hl : i < l.length), l[i].c ≠ k) (fun m => l.length - m) 0 ⟨Nat.zero_le _, fun i hi => by omega⟩ ⟨rfl, rfl, rfl, rfl, trivial⟩ (List.Sublist.refl _) ?_
  rintro m ⟨hml, hall⟩
  dsimp only
  rcases Nat.lt_or_ge m l.length with hlt | hge
  · obtain ⟨b, off, c', cs, E', fr', heq, hbk, hx⟩ := hv.pos (by omega)
    cases heq
    have hrd : Rd Tryz.prog 136 (.cells cs E' fr') (off + m * 5) (.agg (opc l[m])) := Rd.elemA (g := opl) (l := l) (a := l[m]) hx (opl_len l) (List.getElem?_eq_getElem hlt)
    (refine sRz ?_; refine lvz (.lssT rfl rfl (by omega)) ?_; refine nNz ?_; refine CW.seq ?_; refine cTz ?_; refine CW.skip ?_; refine thenN ?_; refine CW.seq ?_; refine CW.block ?_; refine sRz ?_; refine vMz ?_; refine vAz ?_; refine nSz ?_; refine vMz ?_; refine vMz ?_; refine vMz ?_; refine lvz (.indexAddrS rfl rfl rfl (by omega)) ?_; apply LW.load; rfl; rfl; exact Known.ext (by assumption) (by simp); assumption)
    apply LW.call
    rfl
    rfl
    infer_instance
    (exact .cons rfl .nil)
    · intro w' hs
      exact Of1_calls l[m] k bb E fr w' (by rw [hs.bel.block bb (Array.getElem?_eq_some_iff.1 hb).1 (by simp)]; exact hb)
    by_cases he : l[m].c = k
    · have hi := idxOf_hit hlt (fun i hi => hall i hi (by omega)) he
      rw [decide_eq_true he, hi]
      (refine nNz ?_; refine cTz ?_; refine sRz ?_; refine vMz ?_; refine vAz ?_; refine nNz ?_; refine CW.ret ?_; refine blkR ?_; refine thenR ?_; refine thenR ?_; refine blkR ?_; refine thenR ?_)
      (apply finR; exact .inl rfl; rfl; rfl; rfl; apply ResL.cons; exact Res.tmp rfl; exact ResL.nil)
      rfl
    · rw [decide_eq_false he]
      (refine nNz ?_; refine cFz ?_; refine CW.skip ?_; refine blkN ?_; refine thenN ?_; refine CW.region ?_; refine lvz (.addZL rfl rfl (by decide) (by omega)) ?_; refine vMz ?_; apply LW.nil)
      apply thenX
      exact ⟨rfl, m + 1, ⟨hlt, fun i hi hl => by
        rcases Nat.lt_or_ge i m with h | h
        · exact hall i h hl
        · obtain rfl : i = m := by omega
          exact he⟩, by omega, ⟨rfl, rfl, rfl, rfl, trivial⟩, List.Sublist.refl _⟩
  · have hi := idxOf_miss (l := l) (k := k) fun i hi => hall i (by omega) hi
    rw [hi]
    (refine sRz ?_; refine lvz (.lssF rfl rfl (by omega)) ?_; refine nNz ?_; refine CW.seq ?_; refine cFz ?_; refine CW.exit ?_; refine thenE ?_; refine thenE ?_; refine blkE rfl ?_; refine thenN ?_; refine sRz ?_; refine vAz ?_; refine nNz ?_; refine CW.ret ?_)
    (apply finR; exact .inl rfl; rfl; rfl; rfl; apply ResL.cons; exact Res.tmp rfl; exact ResL.nil)
    rfl
end Go.Proofs.YtpgdnfgjbhdbpaaGreatDoor

/-
  What an operation costs in any case: contracts.
  Conditions: none.
-/
namespace Go.Proofs.YtpgdnfgjbhdbpaaGreatDoor
open Go Go.RowKit SL
set_option maxRecDepth 8000
set_option maxHeartbeats 4000000
set_option linter.unusedSimpArgs false
set_option linter.unusedVariables false
attribute [local irreducible] SL.CW SL.LW SL.DW Calls SL.Ret SL.RetG SL.beginQ SL.roundQ SL.rangeQ SL.inQ SL.RW SL.AnyW SL.thenQ SL.thenC SL.thenW SL.blkQ SL.finQ SL.ValP SL.NewP SL.SetP SL.CallP SL.Rd SL.Wr SL.Known
def zeroOp : OpV := ⟨0, [], 0, 0, 0⟩
def OfV (o : Option OpV) : Value := match o with
  | some x => .tuple #[.agg (opc x), .int .i64 0]
  | none => .tuple #[.agg (opc zeroOp), .int .i64 4]
theorem st_us {w0 w : World} {S : List Nat} {fs : Fs} (hs : St w0 S fs w) : ∀ p ∈ fs, w.heap[p.1]? = some p.2 := fun p hp => (hs.own p hp).2
theorem plain_rd (i : Nat) (hi : i < plainOps.length) {E : TypeId} {fr : Nat × Nat} : Rd Tryz.prog 136 (.cells (opcs plainOps).toArray E fr) (0 + i * 5) (.agg (opc plainOps[i])) :=
  Rd.elemA (g := opl) (l := plainOps) (a := plainOps[i]) (m := 250) (by rw [List.drop_zero]; exact List.take_of_length_le (by rw [List.toList_toArray, plain_len]; decide)) (opl_len _) (List.getElem?_eq_getElem hi)
theorem Of_op_calls (b : Nat) (hb : b < 256) (w : World) : Calls Tryz.prog 102 #[.int .u8 (b : Int)] w (Ret w (OfV (opOf b))) := by
  have hRow0 := row_calls b hb
  refine enter (args := [_]) _ [] [] Tryz.func102 rfl Tryz.ntmps102 rfl (by simp) .nil ?_
  cases hr : rowOp b with
  | some x =>
    rw [hr] at hRow0
    have hRow : ∀ w, Calls Tryz.prog 130 #[.int .u8 (b : Int)] w (Ret w (.tuple #[.agg (opc x), .bool true])) := hRow0
    rw [show opOf b = some x by unfold opOf; rw [hr]]
    (refine sRz ?_; apply LW.box1; rfl; rfl; rfl; intro _; apply LW.allocA; rfl; intro _; refine vAz ?_; refine nNz ?_; refine CW.seq ?_; refine sRz ?_; refine ldz rfl (.tail .head) (Rd.one' rfl) ?_; apply LW.callE; rfl; rfl; infer_instance; exact .cons rfl .nil; intro w _; exact hRow w; refine vMz ?_; refine vEz ?_; refine vEz ?_; apply LW.allocA; rfl; intro _; refine LW.store rfl rfl .head (.whole rfl rfl rfl) ?_; refine vAz ?_; refine nSz ?_; refine vMz ?_; refine nNz ?_; refine cTz ?_; refine sRz ?_; refine ldz rfl .head (Rd.whole rfl) ?_; refine LW.store rfl rfl (.tail .head) (.whole rfl rfl rfl) ?_; refine vAz ?_; refine nNz ?_; refine CW.ret ?_; refine thenR ?_)
    (apply finR; exact .inl rfl; rfl; rfl; rfl; apply ResL.cons; apply Res.cell; rfl; apply Known.at; apply FsAt.tail; apply FsAt.head; exact Rd.whole rfl; apply ResL.cons; exact Res.tmp rfl; exact ResL.nil)
    rfl
  | none =>
    rw [hr] at hRow0
    have hRow : ∀ w, Calls Tryz.prog 130 #[.int .u8 (b : Int)] w (Ret w (.tuple #[.agg (opc zeroOp), .bool false])) := hRow0
    (refine sRz ?_; apply LW.box1; rfl; rfl; rfl; intro _; apply LW.allocA; rfl; intro _; refine vAz ?_; refine nNz ?_; refine CW.seq ?_; refine sRz ?_; refine ldz rfl (.tail .head) (Rd.one' rfl) ?_; apply LW.callE; rfl; rfl; infer_instance; exact .cons rfl .nil; intro w _; exact hRow w; refine vMz ?_; refine vEz ?_; refine vEz ?_; apply LW.allocA; rfl; intro _; refine LW.store rfl rfl .head (.whole rfl rfl rfl) ?_; refine vAz ?_; refine nSz ?_; refine vMz ?_; refine nNz ?_; refine cFz ?_; refine CW.skip ?_; refine thenN ?_; refine sRz ?_)
    rename_i bx b2 b4
    (apply LW.callR; rfl; rfl; infer_instance; exact ArgsOk.nil; intro w hs)
    exact plain_calls w
    intro vp gp hpl
    obtain ⟨bp, rfl, rfl⟩ := id hpl
    cases hi : plainOps.findIdx? (fun x => x.c == b) with
    | none =>
      have hidx : idxOf plainOps b = -1 := by unfold idxOf; rw [hi]
      rw [show opOf b = none by unfold opOf; rw [hr]; exact List.find?_eq_none.2 (by simpa using List.findIdx?_eq_none_iff.1 hi)]
      (apply LW.v0; rfl; rfl; apply ValP.makeFunc; exact ArgsOk.nil; exact .cons rfl .nil; apply LW.callE; rfl; rfl; infer_instance; exact .cons rfl (.cons rfl .nil); intro w _; rename_i hst; (exact IndexFunc_calls plainOps b _ _ _ _ w (hpl.us (st_us hst) (by exact List.singleton_sublist.2 (by (repeat (first | exact List.Mem.head _ | apply List.Mem.tail))))) ((hst.own (bx, _) (by (repeat (first | exact List.Mem.head _ | apply List.Mem.tail)))).2)); refine vAz ?_; refine nNz ?_; refine CW.seq ?_; refine sRz ?_; refine vMz ?_; refine lvz (.lssT rfl rfl (by omega)) ?_; refine nNz ?_; refine cTz ?_; refine sRz ?_; apply LW.v0; rfl; rfl; apply ValP.buildT; infer_instance; infer_instance; exact PartsOk.nil; rfl; simp only [fillP, wrCells, Value.cells, List.getElem?_cons_zero, List.getElem?_cons_succ, List.toList_toArray, List.setIfInBounds_toArray, List.set_cons_succ, List.set_cons_zero, Nat.reduceAdd, Nat.zero_add]; rfl; refine LW.store rfl rfl (.tail (.tail .head)) (.whole rfl rfl rfl) ?_; refine vAz ?_; refine nNz ?_; refine CW.ret ?_; refine thenR ?_)
      (apply finR; exact .inl rfl; rfl; rfl; rfl; apply ResL.cons; apply Res.cell; rfl; apply Known.at; apply FsAt.tail; apply FsAt.tail; apply FsAt.head; exact Rd.whole rfl; apply ResL.cons; exact Res.tmp rfl; exact ResL.nil)
      rfl
    | some i =>
      have hidx : idxOf plainOps b = (i : Int) := by unfold idxOf; rw [hi]
      obtain ⟨hlt, hc, hall⟩ := List.findIdx?_eq_some_iff_getElem.1 hi
      have hlt50 : i < 50 := hlt
      have hrd := plain_rd i hlt (E := 190) (fr := (0, 0))
      rw [show opOf b = some plainOps[i] by unfold opOf; rw [hr]; exact List.find?_eq_some_iff_getElem.2 ⟨hc, i, hlt, rfl, fun j hj => by simpa using hall j hj⟩]
      (apply LW.v0; rfl; rfl; apply ValP.makeFunc; exact ArgsOk.nil; exact .cons rfl .nil; apply LW.callE; rfl; rfl; infer_instance; exact .cons rfl (.cons rfl .nil); intro w _; rename_i hst; (exact IndexFunc_calls plainOps b _ _ _ _ w (hpl.us (st_us hst) (by exact List.singleton_sublist.2 (by (repeat (first | exact List.Mem.head _ | apply List.Mem.tail))))) ((hst.own (bx, _) (by (repeat (first | exact List.Mem.head _ | apply List.Mem.tail)))).2)); refine vAz ?_; refine nNz ?_; refine CW.seq ?_; refine sRz ?_; refine vMz ?_; refine lvz (.lssF rfl rfl (by omega)) ?_; refine nNz ?_; refine cFz ?_; refine CW.skip ?_; refine thenN ?_; refine sRz ?_)
      rw [hidx]
      skip
      (apply LW.callR; rfl; rfl; infer_instance; exact ArgsOk.nil; intro w hs)
      exact plain_calls w
      intro vq gq hpq
      obtain ⟨bq, rfl, rfl⟩ := id hpq
      (refine vMz ?_; refine lvz (.indexAddrS rfl rfl rfl (by omega)) ?_; refine ldz rfl .head (by assumption) ?_; refine LW.store rfl rfl (.tail (.tail (.tail .head))) (.whole rfl rfl rfl) ?_; refine vAz ?_; refine nNz ?_; refine CW.ret ?_)
      (apply finR; exact .inl rfl; rfl; rfl; rfl; apply ResL.cons; apply Res.cell; rfl; apply Known.at; apply FsAt.tail; apply FsAt.tail; apply FsAt.tail; apply FsAt.head; exact Rd.whole rfl; apply ResL.cons; exact Res.tmp rfl; exact ResL.nil)
      rfl
end Go.Proofs.YtpgdnfgjbhdbpaaGreatDoor

/-
  What an operation costs in any case: contracts.
  Conditions: none.
-/
namespace Go.Proofs.YtpgdnfgjbhdbpaaGreatDoor
open Go Go.RowKit SL
set_option maxRecDepth 8000
set_option maxHeartbeats 4000000
set_option linter.unusedSimpArgs false
set_option linter.unusedVariables false
attribute [local irreducible] SL.CW SL.LW SL.DW Calls SL.Ret SL.RetG SL.beginQ SL.roundQ SL.rangeQ SL.inQ SL.RW SL.AnyW SL.thenQ SL.thenC SL.thenW SL.blkQ SL.finQ SL.ValP SL.NewP SL.SetP SL.CallP SL.Rd SL.Wr SL.Known
end Go.Proofs.YtpgdnfgjbhdbpaaGreatDoor

/-
  What memory costs, what is lent, what is spent: contracts.
  Conditions: none.
-/
namespace Go.Proofs.YtpgdnfgjbhdbpaaGreatDoor
open Go Go.RowKit SL
set_option maxRecDepth 8000
set_option maxHeartbeats 4000000
set_option linter.unusedSimpArgs false
set_option linter.unusedVariables false
attribute [local irreducible] SL.CW SL.LW SL.DW Calls SL.Ret SL.RetG SL.beginQ SL.roundQ SL.rangeQ SL.inQ SL.RW SL.AnyW SL.thenQ SL.thenC SL.thenW SL.blkQ SL.finQ SL.ValP SL.NewP SL.SetP SL.CallP SL.Rd SL.Wr SL.Known
theorem Words_calls (n : Nat) (hn : n < 18446744073709551616) (w : World) : Calls Tryz.prog 144 #[.int .u64 (n : Int)] w (Ret w (.int .u64 (((n + 31) / 32 : Nat) : Int))) := by
  refine enter (args := [_]) _ [] [] Tryz.func144 rfl Tryz.ntmps144 rfl (by simp) .nil ?_
  rcases Nat.eq_zero_or_pos (n % 32) with h | h
  · rw [show (n + 31) / 32 = n / 32 by omega]
    (refine sRz ?_; refine vAz ?_; refine nSz ?_; refine vMz ?_; refine lvz (.quoNL rfl rfl (by decide) (by omega) (by omega)) ?_; refine vAz ?_; refine nNz ?_; refine CW.seq ?_; refine sRz ?_; refine vMz ?_; refine lvz (.remNL rfl rfl (by decide) (by omega)) ?_; refine lvz (.gtrF rfl rfl (by omega)) ?_; refine nNz ?_; refine cFz ?_; refine CW.skip ?_; refine thenN ?_; refine sRz ?_; refine vMz ?_; refine vAz ?_; refine nNz ?_; refine CW.ret ?_)
    (apply finR; exact .inl rfl; rfl; rfl; rfl; apply ResL.cons; exact Res.tmp rfl; exact ResL.nil)
    rfl
  · rw [show (n + 31) / 32 = (n / 32 + 1) % 18446744073709551616 by omega]
    (refine sRz ?_; refine vAz ?_; refine nSz ?_; refine vMz ?_; refine lvz (.quoNL rfl rfl (by decide) (by omega) (by omega)) ?_; refine vAz ?_; refine nNz ?_; refine CW.seq ?_; refine sRz ?_; refine vMz ?_; refine lvz (.remNL rfl rfl (by decide) (by omega)) ?_; refine lvz (.gtrT rfl rfl (by omega)) ?_; refine nNz ?_; refine cTz ?_; refine CW.region ?_; refine vMz ?_; refine lvz (.addNL rfl rfl (by decide)) ?_; refine vAz ?_; refine nSz ?_; refine vMz ?_; refine vAz ?_; refine nNz ?_; refine CW.ret ?_)
    (apply finR; exact .inl rfl; rfl; rfl; rfl; apply ResL.cons; exact Res.tmp rfl; exact ResL.nil)
    rfl
def memW (x : Nat) : Nat := 3 * x + x * x / 512
theorem memW_eq (x : Nat) (hx : x ≤ 1000) : (3 * x % 18446744073709551616 + x * x % 18446744073709551616 / 512) % 18446744073709551616 = memW x := by
  have h := Nat.mul_le_mul hx hx
  unfold memW
  omega
theorem words_calls (x : Nat) (hx : x ≤ 1000) (w : World) : Calls Tryz.prog 168 #[.int .u64 (x : Int)] w (Ret w (.int .u64 ((memW x : Nat) : Int))) := by
  refine enter (args := [_]) _ [] [] Tryz.func168 rfl Tryz.ntmps168 rfl (by simp) .nil ?_
  rw [← memW_eq x hx]
  (refine sRz ?_; refine vAz ?_; refine nSz ?_; refine vMz ?_; refine lvz (.mulNK rfl rfl (by decide)) ?_; refine vMz ?_; refine vMz ?_; refine lvz (.mulN rfl rfl) ?_; refine lvz (.quoNL rfl rfl (by decide) (by omega) (by omega)) ?_; refine lvz (.addN rfl rfl) ?_; refine vAz ?_; refine nNz ?_; refine CW.ret ?_)
  (apply finR; exact .inl rfl; rfl; rfl; rfl; apply ResL.cons; exact Res.tmp rfl; exact ResL.nil)
  rfl
theorem memW_mono {x y : Nat} (h : x ≤ y) : memW x ≤ memW y := by
  unfold memW
  have := Nat.mul_le_mul h h
  have := Nat.div_le_div_right (c := 512) this
  omega
def memV (a b : Nat) : Nat := if b ≤ a then 0 else if 1024 < b then 1099511627776 else memW ((b + 31) / 32) - memW ((a + 31) / 32)
theorem Memory_calls (a b : Nat) (ha : a < 18446744073709551616) (hb : b < 18446744073709551616) (w : World) : Calls Tryz.prog 159 #[.int .u64 (a : Int), .int .u64 (b : Int)] w (Ret w (.int .u64 ((memV a b : Nat) : Int))) := by
  refine enter (args := [_, _]) _ [] [] Tryz.func159 rfl Tryz.ntmps159 rfl (by simp) .nil ?_
  unfold memV
  by_cases h1 : b ≤ a
  · rw [if_pos h1]
    (refine sRz ?_; refine vAz ?_; refine nNz ?_; refine CW.seq ?_; refine CW.block ?_; refine sRz ?_; refine vMz ?_; refine vMz ?_; refine lvz (.leqT rfl rfl (by omega)) ?_; refine vAz ?_; refine nNz ?_; refine cTz ?_; refine sRz ?_; refine vAz ?_; refine nNz ?_; refine CW.ret ?_; refine blkR ?_; refine thenR ?_)
    (apply finR; exact .inl rfl; rfl; rfl; rfl; apply ResL.cons; exact Res.tmp rfl; exact ResL.nil)
    rfl
  · rw [if_neg h1]
    by_cases h2 : 1024 < b
    · rw [if_pos h2]
      (refine sRz ?_; refine vAz ?_; refine nNz ?_; refine CW.seq ?_; refine CW.block ?_; refine sRz ?_; refine vMz ?_; refine vMz ?_; refine lvz (.leqF rfl rfl (by omega)) ?_; refine vAz ?_; refine nNz ?_; refine cFz ?_; refine sRz ?_; refine vMz ?_; refine lvz (.gtrT rfl rfl (by omega)) ?_; refine vAz ?_; refine nNz ?_; refine cTz ?_; refine sRz ?_; refine vAz ?_; refine nNz ?_; refine CW.ret ?_; refine blkR ?_; refine thenR ?_)
      (apply finR; exact .inl rfl; rfl; rfl; rfl; apply ResL.cons; exact Res.tmp rfl; exact ResL.nil)
      rfl
    · rw [if_neg h2]
      have hm := memW_mono (show (a + 31) / 32 ≤ (b + 31) / 32 by omega)
      have hm2 := memW_mono (show (b + 31) / 32 ≤ 32 by omega)
      have hm3 : memW 32 = 98 := by decide
      (refine sRz ?_; refine vAz ?_; refine nNz ?_; refine CW.seq ?_; refine CW.block ?_; refine sRz ?_; refine vMz ?_; refine vMz ?_; refine lvz (.leqF rfl rfl (by omega)) ?_; refine vAz ?_; refine nNz ?_; refine cFz ?_; refine sRz ?_; refine vMz ?_; refine lvz (.gtrF rfl rfl (by omega)) ?_; refine vAz ?_; refine nNz ?_; refine cFz ?_; refine CW.skip ?_; refine blkN ?_; refine thenN ?_; refine sRz ?_; refine vMz ?_; apply LW.callE; rfl; rfl; infer_instance; exact .cons rfl .nil; intro w _; refine Words_calls _ ?_ w; omega; apply LW.callE; rfl; rfl; infer_instance; exact .cons rfl .nil; intro w _; refine words_calls _ ?_ w; omega; refine vMz ?_; apply LW.callE; rfl; rfl; infer_instance; exact .cons rfl .nil; intro w _; refine Words_calls _ ?_ w; omega; apply LW.callE; rfl; rfl; infer_instance; exact .cons rfl .nil; intro w _; refine words_calls _ ?_ w; omega; refine lvz (.subN rfl rfl (by omega) (by omega)) ?_; refine vAz ?_; refine nNz ?_; refine CW.ret ?_)
      (apply finR; exact .inl rfl; rfl; rfl; rfl; apply ResL.cons; exact Res.tmp rfl; exact ResL.nil)
      rfl
theorem Part_calls (n : Nat) (hn : n < 18446744073709551616) (w : World) : Calls Tryz.prog 33 #[.int .u64 (n : Int)] w (Ret w (.int .u64 ((n - n / 64 : Nat) : Int))) := by
  refine enter (args := [_]) _ [] [] Tryz.func33 rfl Tryz.ntmps33 rfl (by simp) .nil ?_
  (refine sRz ?_; refine vAz ?_; refine nSz ?_; refine vMz ?_; refine vMz ?_; refine lvz (.quoNL rfl rfl (by decide) (by omega) (by omega)) ?_; refine lvz (.subN rfl rfl (by omega) (by omega)) ?_; refine vAz ?_; refine nNz ?_; refine CW.ret ?_)
  (apply finR; exact .inl rfl; rfl; rfl; rfl; apply ResL.cons; exact Res.tmp rfl; exact ResL.nil)
  rfl
/-! ### What is spent -/
theorem take_le (l : List Nat) (m : Nat) : (l.take m).sum ≤ l.sum := by
  conv => rhs; rw [← List.take_append_drop m l]
  rw [List.sum_append]; omega
def spendV (left : Nat) (l : List Nat) : Value := if l.sum ≤ left then .tuple #[.int .u64 ((left - l.sum : Nat) : Int), .bool true] else .tuple #[.int .u64 0, .bool false]
theorem Spend_calls (left : Nat) (l : List Nat) (hl : left < 18446744073709551616) (v : Value) (w : World) (hv : RowAt w 1 v l.length (ncs l)) : Calls Tryz.prog 116 #[.int .u64 (left : Int), v] w (Ret w (spendV left l)) := by
  obtain ⟨p, c, rfl, hc, hm⟩ := hv.form
  simp only [maxLen] at hm
  refine enter (args := [_, _]) _ [] [] Tryz.func116 rfl Tryz.ntmps116 rfl (by simp) .nil ?_
  (refine sRz ?_; refine vAz ?_; refine vAz ?_; refine nNz ?_; refine CW.scope ?_; refine sRz ?_; refine vAz ?_; refine nNz ?_; refine CW.seq ?_; refine CW.label ?_; refine thenN ?_; refine CW.seq ?_; refine sRz ?_; refine vMz ?_; refine lvz (.lenR rfl inferInstance rfl) ?_; refine vMz ?_; refine nNz ?_; refine CW.block ?_)
  refine CW.loop (fun m : Nat => ([(11, .int .i64 (m : Int)), (10, .int .i64 (l.length : Int)), (9, .slice p l.length c), (6, .bool true), (0, .int .u64 ((left - (l.take m).sum : Nat) : Int))], []))
    (fun m => m ≤ l.length ∧ (l.take m).sum ≤ left) (fun m => l.length - m) 0 ⟨Nat.zero_le _, Nat.zero_le _⟩ ⟨rfl, rfl, rfl, rfl, rfl, trivial⟩ (List.Sublist.refl _) ?_
  rintro m ⟨hml, hS⟩
  dsimp only
  rcases Nat.lt_or_ge m l.length with hlt | hge
  · obtain ⟨b, off, c', cs, E, fr, heq, hb, hx⟩ := hv.pos (by omega)
    cases heq
    obtain ⟨n, hn⟩ : ∃ n, n = l[m] := ⟨_, rfl⟩
    have hrd : Rd Tryz.prog 26 (.cells cs E fr) (off + m * 1) (.int .u64 (n : Int)) := Rd.elem1 hx (ncs_one l) (by rw [hn]; exact List.getElem?_eq_getElem hlt) rfl
    have hst := take_step l m hlt
    have htot := take_le l (m + 1)
    rw [← hn] at hst
    by_cases hle : n ≤ left - (l.take m).sum
    · (refine sRz ?_; refine lvz (.lssT rfl rfl (by omega)) ?_; refine nNz ?_; refine CW.seq ?_; refine cTz ?_; refine CW.skip ?_; refine thenN ?_; refine CW.seq ?_; refine CW.block ?_; refine sRz ?_; refine lvz (.indexAddrS rfl rfl rfl (by omega)) ?_; apply LW.load; rfl; rfl; exact Known.ext (by assumption) (by simp); assumption; refine vAz ?_; refine nNz ?_; refine CW.seq ?_; refine sRz ?_; refine vMz ?_; refine vMz ?_; refine lvz (.leqT rfl rfl (by omega)) ?_; refine vAz ?_; refine nSz ?_; refine vMz ?_; refine lvz (.notT rfl (by with_reducible rfl)) ?_; refine nNz ?_; refine cFz ?_; refine CW.skip ?_; refine thenN ?_; refine CW.region ?_; refine vMz ?_; refine vMz ?_; refine lvz (.subN rfl rfl (by omega) (by omega)) ?_; refine vAz ?_; apply LW.nil; refine blkN ?_; refine thenN ?_; refine CW.region ?_; refine lvz (.addZL rfl rfl (by decide) (by omega)) ?_; refine vMz ?_; apply LW.nil)
      apply thenX
      refine ⟨rfl, m + 1, ⟨hlt, by omega⟩, by omega, ⟨rfl, rfl, rfl, rfl, ?_, trivial⟩, List.Sublist.refl _⟩
      rw [hst, ← Nat.sub_sub]; rfl
    · unfold spendV
      rw [if_neg (by omega)]
      (refine sRz ?_; refine lvz (.lssT rfl rfl (by omega)) ?_; refine nNz ?_; refine CW.seq ?_; refine cTz ?_; refine CW.skip ?_; refine thenN ?_; refine CW.seq ?_; refine CW.block ?_; refine sRz ?_; refine lvz (.indexAddrS rfl rfl rfl (by omega)) ?_; apply LW.load; rfl; rfl; exact Known.ext (by assumption) (by simp); assumption; refine vAz ?_; refine nNz ?_; refine CW.seq ?_; refine sRz ?_; refine vMz ?_; refine vMz ?_; refine lvz (.leqF rfl rfl (by omega)) ?_; refine vAz ?_; refine nSz ?_; refine vMz ?_; refine lvz (.notF rfl (by with_reducible rfl)) ?_; refine nNz ?_; refine cTz ?_; refine CW.exit ?_; refine thenE ?_; refine blkO rfl ?_; refine thenE ?_; refine thenE ?_; refine blkE rfl ?_; refine thenN ?_; refine CW.seq ?_; refine sRz ?_; refine vMz ?_; refine lvz (.notF rfl (by with_reducible rfl)) ?_; refine nNz ?_; refine cTz ?_; refine sRz ?_; refine vAz ?_; refine vAz ?_; refine nNz ?_; refine CW.ret ?_; refine thenR ?_; refine scopeQ.r ?_)
      (apply finR; exact .inl rfl; rfl; rfl; rfl; apply ResL.cons; exact Res.tmp rfl; apply ResL.cons; exact Res.tmp rfl; exact ResL.nil)
      rfl
  · obtain rfl : m = l.length := by omega
    rw [List.take_length] at hS ⊢
    unfold spendV
    rw [if_pos hS]
    (refine sRz ?_; refine lvz (.lssF rfl rfl (by omega)) ?_; refine nNz ?_; refine CW.seq ?_; refine cFz ?_; refine CW.exit ?_; refine thenE ?_; refine thenE ?_; refine blkE rfl ?_; refine thenN ?_; refine CW.seq ?_; refine sRz ?_; refine vMz ?_; refine lvz (.notT rfl (by with_reducible rfl)) ?_; refine nNz ?_; refine cFz ?_; refine CW.skip ?_; refine thenN ?_; refine sRz ?_; refine vMz ?_; refine vAz ?_; refine vAz ?_; refine nNz ?_; refine CW.ret ?_; refine scopeQ.r ?_)
    (apply finR; exact .inl rfl; rfl; rfl; rfl; apply ResL.cons; exact Res.tmp rfl; apply ResL.cons; exact Res.tmp rfl; exact ResL.nil)
    rfl
end Go.Proofs.YtpgdnfgjbhdbpaaGreatDoor

/-
  The layer does something.
  Conditions: none.
-/
namespace Go.Proofs.YtpgdnfgjbhdbpaaGreatDoor
open Go Go.RowKit SL
set_option maxRecDepth 8000
set_option maxHeartbeats 4000000
set_option linter.unusedSimpArgs false
set_option linter.unusedVariables false
attribute [local irreducible] SL.CW SL.LW SL.DW Calls SL.Ret SL.RetG SL.beginQ SL.roundQ SL.rangeQ SL.inQ SL.RW SL.AnyW SL.thenQ SL.thenC SL.thenW SL.blkQ SL.finQ SL.ValP SL.NewP SL.SetP SL.CallP SL.Rd SL.Wr SL.Known
end Go.Proofs.YtpgdnfgjbhdbpaaGreatDoor

/-
  What bytes cost, where they end, what is lent: contracts.
  Conditions: none.
-/
namespace Go.Proofs.YtpgdnfgjbhdbpaaGreatDoor
open Go Go.RowKit SL
set_option maxRecDepth 8000
set_option maxHeartbeats 4000000
set_option linter.unusedSimpArgs false
set_option linter.unusedVariables false
attribute [local irreducible] SL.CW SL.LW SL.DW Calls SL.Ret SL.RetG SL.beginQ SL.roundQ SL.rangeQ SL.inQ SL.RW SL.AnyW SL.thenQ SL.thenC SL.thenW SL.blkQ SL.finQ SL.ValP SL.NewP SL.SetP SL.CallP SL.Rd SL.Wr SL.Known
abbrev NOG : Nat := 1099511627776
def timesV (n k : Nat) : Nat := if NOG ≤ n then NOG else min (n * k) NOG
theorem times1_calls (n k bb : Nat) (E : TypeId) (fr : Nat × Nat) (w : World) (hb : w.heap[bb]? = some (.cells #[.int .u64 (k : Int)] E fr)) : Calls Tryz.prog 157 #[.int .u64 (n : Int), .pointer (some ⟨bb, 0, none⟩)] w (Ret w (.int .u64 ((n * k % 18446744073709551616 : Nat) : Int))) := by
  refine enter (args := [_, _]) _ [] [] Tryz.func157 rfl Tryz.ntmps157 rfl (by simp) .nil ?_
  (refine sRz ?_; refine vAz ?_; refine nSz ?_; refine vMz ?_; apply LW.load; rfl; rfl; exact Known.ext (by assumption) (by simp); exact Rd.one' rfl; refine lvz (.mulN rfl rfl) ?_; refine vAz ?_; refine nNz ?_; refine CW.ret ?_)
  (apply finR; exact .inl rfl; rfl; rfl; rfl; apply ResL.cons; exact Res.tmp rfl; exact ResL.nil)
  rfl
theorem within_calls (n k bb : Nat) (hn : n < 18446744073709551616) (hk : k ≤ 1000) (E : TypeId) (fr : Nat × Nat) (w : World) (hb : w.heap[bb]? = some (.cells #[.int .u64 (k : Int)] E fr)) :
    Calls Tryz.prog 156 #[.int .u64 (n : Int), .func (.func 157) #[] #[.pointer (some ⟨bb, 0, none⟩)]] w (Ret w (.int .u64 ((timesV n k : Nat) : Int))) := by
  refine enter (args := [_, _]) _ [] [] Tryz.func156 rfl Tryz.ntmps156 rfl (by simp) .nil ?_
  unfold timesV
  by_cases h : NOG ≤ n
  · rw [if_pos h]
    simp only [NOG] at h
    (refine sRz ?_; refine vAz ?_; refine nNz ?_; refine CW.seq ?_; refine sRz ?_; refine vMz ?_; refine lvz (.geqT rfl rfl (by omega)) ?_; refine nNz ?_; refine cTz ?_; refine sRz ?_; refine vAz ?_; refine nNz ?_; refine CW.ret ?_; refine thenR ?_)
    (apply finR; exact .inl rfl; rfl; rfl; rfl; apply ResL.cons; exact Res.tmp rfl; exact ResL.nil)
    rfl
  · rw [if_neg h]
    simp only [NOG] at h
    have hp := Nat.mul_le_mul (show n ≤ 1099511627775 by omega) hk
    have hm : n * k % 18446744073709551616 = n * k := Nat.mod_eq_of_lt (by omega)
    (refine sRz ?_; refine vAz ?_; refine nNz ?_; refine CW.seq ?_; refine sRz ?_; refine vMz ?_; refine lvz (.geqF rfl rfl (by omega)) ?_; refine nNz ?_; refine cFz ?_; refine CW.skip ?_; refine thenN ?_; refine sRz ?_; refine vMz ?_; refine vMz ?_)
    apply LW.call
    rfl
    rfl
    infer_instance
    (exact .cons rfl .nil)
    · intro w' hs
      have := times1_calls n k bb E fr w' (by rw [hs.bel.block bb (Array.getElem?_eq_some_iff.1 hb).1 (by simp)]; exact hb)
      rw [hm] at this
      exact this
    (refine lvz (.minZL rfl rfl (by decide)) ?_; refine vAz ?_; refine nNz ?_; refine CW.ret ?_)
    (apply finR; exact .inl rfl; rfl; rfl; rfl; apply ResL.cons; exact Res.tmp rfl; exact ResL.nil)
    rfl
theorem times_calls (n k : Nat) (hn : n < 18446744073709551616) (hk : k ≤ 1000) (w : World) : Calls Tryz.prog 143 #[.int .u64 (n : Int), .int .u64 (k : Int)] w (Ret w (.int .u64 ((timesV n k : Nat) : Int))) := by
  refine enter (args := [_, _]) _ [] [] Tryz.func143 rfl Tryz.ntmps143 rfl (by simp) .nil ?_
  (refine sRz ?_; apply LW.box1; rfl; rfl; rfl; intro _; refine vAz ?_; refine nSz ?_; refine vMz ?_; apply LW.v0; rfl; rfl; apply ValP.makeFunc; exact ArgsOk.nil; exact .cons rfl .nil)
  rename_i bb
  (apply LW.callE; rfl; rfl; infer_instance; exact .cons rfl (.cons rfl .nil); intro w _; rename_i hst; (exact within_calls _ _ _ hn hk _ _ w ((hst.own (bb, _) (by (repeat (first | exact List.Mem.head _ | apply List.Mem.tail)))).2)); refine vAz ?_; refine nNz ?_; refine CW.ret ?_)
  (apply finR; exact .inl rfl; rfl; rfl; rfl; apply ResL.cons; exact Res.tmp rfl; exact ResL.nil)
  rfl
theorem Hash_calls (n : Nat) (hn : n < 18446744073709551616) (w : World) : Calls Tryz.prog 122 #[.int .u64 (n : Int)] w (Ret w (.int .u64 ((timesV ((n + 31) / 32) 6 : Nat) : Int))) := by
  have h1 : ∀ w, Calls Tryz.prog 143 #[.int .u64 (((n + 31) / 32 : Nat) : Int), .int .u64 6] w (Ret w (.int .u64 ((timesV ((n + 31) / 32) 6 : Nat) : Int))) := times_calls _ 6 (by omega) (by decide)
  refine enter (args := [_]) _ [] [] Tryz.func122 rfl Tryz.ntmps122 rfl (by simp) .nil ?_
  (refine sRz ?_; refine vAz ?_; refine nSz ?_; refine vMz ?_; apply LW.callE; rfl; rfl; infer_instance; exact .cons rfl .nil; intro w _; refine Words_calls _ ?_ w; omega; apply LW.callE; rfl; rfl; infer_instance; exact .cons rfl (.cons rfl .nil); intro w _; exact h1 w; refine vAz ?_; refine nNz ?_; refine CW.ret ?_)
  (apply finR; exact .inl rfl; rfl; rfl; rfl; apply ResL.cons; exact Res.tmp rfl; exact ResL.nil)
  rfl
theorem timesV_le (n k : Nat) : timesV n k ≤ NOG := by unfold timesV; split; exact Nat.le_refl _; exact Nat.min_le_right _ _
theorem Create_calls (n : Nat) (hn : n < 18446744073709551616) (w : World) : Calls Tryz.prog 88 #[.int .u64 (n : Int)] w (Ret w (.int .u64 ((min (timesV ((n + 31) / 32) 6 + 3200) NOG : Nat) : Int))) := by
  have h1 := Hash_calls n hn
  have hle := timesV_le ((n + 31) / 32) 6
  have hm : (timesV ((n + 31) / 32) 6 + 3200) % 18446744073709551616 = timesV ((n + 31) / 32) 6 + 3200 := Nat.mod_eq_of_lt (by simp only [NOG] at hle; omega)
  refine enter (args := [_]) _ [] [] Tryz.func88 rfl Tryz.ntmps88 rfl (by simp) .nil ?_
  (refine sRz ?_; refine vAz ?_; refine nSz ?_; refine vMz ?_; apply LW.callE; rfl; rfl; infer_instance; exact .cons rfl .nil; intro w _; exact h1 w; refine lvz (.addNL rfl rfl (by decide)) ?_; refine lvz (.minZL rfl rfl (by decide)) ?_; refine vAz ?_; refine nNz ?_; refine CW.ret ?_)
  (apply finR; exact .inl rfl; rfl; rfl; rfl; apply ResL.cons; exact Res.tmp rfl; exact ResL.nil)
  rw [hm]; rfl
/-! ### Where bytes end -/
def endV (a n : Nat) : Nat := if n = 0 then 0 else min (a + n) NOG
theorem End_calls (a n : Nat) (ha : a < M256) (hn : n < M256) (w : World) : Calls Tryz.prog 158 #[wv a, wv n] w (Ret w (.int .u64 ((endV a n : Nat) : Int))) := by
  refine enter (args := [_, _]) _ [] [] Tryz.func158 rfl Tryz.ntmps158 rfl (by simp) .nil ?_
  unfold endV
  have hz : (0 : Nat) < M256 := by decide
  by_cases h0 : n = 0
  · subst h0
    rw [if_pos rfl]
    (refine sRz ?_; apply LW.boxA; rfl; rfl; intro _; apply LW.boxA; rfl; rfl; intro _; refine vAz ?_; refine nNz ?_; refine CW.seq ?_; refine sRz ?_; refine ldz rfl .head (Rd.whole rfl) ?_; apply LW.v0; rfl; rfl; exact ValP.buildW0; refine lvz (.eqWT rfl rfl (by with_reducible rfl)) ?_; refine nNz ?_; refine cTz ?_; refine sRz ?_; refine vAz ?_; refine nNz ?_; refine CW.ret ?_; refine thenR ?_)
    (apply finR; exact .inl rfl; rfl; rfl; rfl; apply ResL.cons; exact Res.tmp rfl; exact ResL.nil)
    rfl
  · rw [if_neg h0]
    have hA0 := Add_calls a n ha hn
    have hS0 := Small_calls ((a + n) % M256) (Nat.mod_lt _ (by decide))
    rcases Nat.lt_or_ge (a + n) M256 with h | h
    · rw [Nat.mod_eq_of_lt h] at hA0 hS0
      rw [decide_eq_false (Nat.not_le.2 h)] at hA0
      have hA := hA0
      rcases Nat.lt_or_ge (a + n) 18446744073709551616 with hs | hs
      · rw [if_pos hs, decide_eq_true hs] at hS0
        have hS := hS0
        (refine sRz ?_; apply LW.boxA; rfl; rfl; intro _; apply LW.boxA; rfl; rfl; intro _; refine vAz ?_; refine nNz ?_; refine CW.seq ?_; refine sRz ?_; refine ldz rfl .head (Rd.whole rfl) ?_; apply LW.v0; rfl; rfl; exact ValP.buildW0; refine lvz (.eqWF rfl rfl (by assumption) (by assumption) (by assumption)) ?_; refine nNz ?_; refine cFz ?_; refine CW.skip ?_; refine thenN ?_; refine sRz ?_; refine ldz rfl (.tail .head) (Rd.whole rfl) ?_; refine ldz rfl .head (Rd.whole rfl) ?_; apply LW.callE; rfl; rfl; infer_instance; exact .cons rfl (.cons rfl .nil); intro w _; exact hA w; refine vMz ?_; refine vEz ?_; refine vEz ?_; apply LW.allocW; rfl; intro _; refine LW.store rfl rfl .head (.whole rfl rfl rfl) ?_; refine vAz ?_; refine nSz ?_; refine ldz rfl .head (Rd.whole rfl) ?_; apply LW.callE; rfl; rfl; infer_instance; exact .cons rfl .nil; intro w _; exact hS w; refine vMz ?_; refine vEz ?_; refine vEz ?_; refine vAz ?_; refine vAz ?_; refine nNz ?_; refine CW.seq ?_; refine sRz ?_; refine vMz ?_; refine vMz ?_; refine gTz ?_; refine vMz ?_; refine gTz ?_; refine lvz (.notT rfl (by with_reducible rfl)) ?_; refine pFz ?_; refine nNz ?_; refine cFz ?_; refine CW.skip ?_; refine thenN ?_; refine sRz ?_; refine vMz ?_; refine lvz (.minZL rfl rfl (by decide)) ?_; refine vAz ?_; refine nNz ?_; refine CW.ret ?_)
        (apply finR; exact .inl rfl; rfl; rfl; rfl; apply ResL.cons; exact Res.tmp rfl; exact ResL.nil)
        rfl
      · rw [if_neg (Nat.not_lt.2 hs), decide_eq_false (Nat.not_lt.2 hs)] at hS0
        have hS := hS0
        rw [Nat.min_eq_right (by simp only [NOG]; omega)]
        (refine sRz ?_; apply LW.boxA; rfl; rfl; intro _; apply LW.boxA; rfl; rfl; intro _; refine vAz ?_; refine nNz ?_; refine CW.seq ?_; refine sRz ?_; refine ldz rfl .head (Rd.whole rfl) ?_; apply LW.v0; rfl; rfl; exact ValP.buildW0; refine lvz (.eqWF rfl rfl (by assumption) (by assumption) (by assumption)) ?_; refine nNz ?_; refine cFz ?_; refine CW.skip ?_; refine thenN ?_; refine sRz ?_; refine ldz rfl (.tail .head) (Rd.whole rfl) ?_; refine ldz rfl .head (Rd.whole rfl) ?_; apply LW.callE; rfl; rfl; infer_instance; exact .cons rfl (.cons rfl .nil); intro w _; exact hA w; refine vMz ?_; refine vEz ?_; refine vEz ?_; apply LW.allocW; rfl; intro _; refine LW.store rfl rfl .head (.whole rfl rfl rfl) ?_; refine vAz ?_; refine nSz ?_; refine ldz rfl .head (Rd.whole rfl) ?_; apply LW.callE; rfl; rfl; infer_instance; exact .cons rfl .nil; intro w _; exact hS w; refine vMz ?_; refine vEz ?_; refine vEz ?_; refine vAz ?_; refine vAz ?_; refine nNz ?_; refine CW.seq ?_; refine sRz ?_; refine vMz ?_; refine vMz ?_; refine gTz ?_; refine vMz ?_; refine gTz ?_; refine lvz (.notF rfl (by with_reducible rfl)) ?_; refine pFz ?_; refine nNz ?_; refine cTz ?_; refine sRz ?_; refine vAz ?_; refine nNz ?_; refine CW.ret ?_; refine thenR ?_)
        (apply finR; exact .inl rfl; rfl; rfl; rfl; apply ResL.cons; exact Res.tmp rfl; exact ResL.nil)
        rfl
    · rw [decide_eq_true h] at hA0
      have hA := hA0
      rw [Nat.min_eq_right (by simp only [NOG]; simp only [M256] at h; omega)]
      obtain ⟨x, y, hS⟩ : ∃ x y, ∀ w, Calls Tryz.prog 121 #[wv ((a + n) % M256)] w (Ret w (.tuple #[.int .u64 ((x : Nat) : Int), .bool y])) := ⟨_, _, hS0⟩
      (refine sRz ?_; apply LW.boxA; rfl; rfl; intro _; apply LW.boxA; rfl; rfl; intro _; refine vAz ?_; refine nNz ?_; refine CW.seq ?_; refine sRz ?_; refine ldz rfl .head (Rd.whole rfl) ?_; apply LW.v0; rfl; rfl; exact ValP.buildW0; refine lvz (.eqWF rfl rfl (by assumption) (by assumption) (by assumption)) ?_; refine nNz ?_; refine cFz ?_; refine CW.skip ?_; refine thenN ?_; refine sRz ?_; refine ldz rfl (.tail .head) (Rd.whole rfl) ?_; refine ldz rfl .head (Rd.whole rfl) ?_; apply LW.callE; rfl; rfl; infer_instance; exact .cons rfl (.cons rfl .nil); intro w _; exact hA w; refine vMz ?_; refine vEz ?_; refine vEz ?_; apply LW.allocW; rfl; intro _; refine LW.store rfl rfl .head (.whole rfl rfl rfl) ?_; refine vAz ?_; refine nSz ?_; refine ldz rfl .head (Rd.whole rfl) ?_; apply LW.callE; rfl; rfl; infer_instance; exact .cons rfl .nil; intro w _; exact hS w; refine vMz ?_; refine vEz ?_; refine vEz ?_; refine vAz ?_; refine vAz ?_; refine nNz ?_; refine CW.seq ?_; refine sRz ?_; refine vMz ?_; refine vMz ?_; refine gFz ?_; refine gFz ?_; refine pTz ?_; refine nNz ?_; refine cTz ?_; refine sRz ?_; refine vAz ?_; refine nNz ?_; refine CW.ret ?_; refine thenR ?_)
      (apply finR; exact .inl rfl; rfl; rfl; rfl; apply ResL.cons; exact Res.tmp rfl; exact ResL.nil)
      rfl
theorem Lend_calls (left asked : Nat) (hl : left < 18446744073709551616) (ha : asked < M256) (w : World) : Calls Tryz.prog 87 #[.int .u64 (left : Int), wv asked] w (Ret w (.int .u64 ((min asked (left - left / 64) : Nat) : Int))) := by
  have hS0 := Small_calls asked ha
  refine enter (args := [_, _]) _ [] [] Tryz.func87 rfl Tryz.ntmps87 rfl (by simp) .nil ?_
  rcases Nat.lt_or_ge asked 18446744073709551616 with hs | hs
  · rw [if_pos hs, decide_eq_true hs] at hS0
    have hS := hS0
    (refine sRz ?_; apply LW.boxA; rfl; rfl; intro _; refine vAz ?_; refine nSz ?_; refine ldz rfl .head (Rd.whole rfl) ?_; apply LW.callE; rfl; rfl; infer_instance; exact .cons rfl .nil; intro w _; exact hS w; refine vMz ?_; refine vEz ?_; refine vEz ?_; refine vAz ?_; refine vAz ?_; refine nNz ?_; refine CW.seq ?_; refine sRz ?_; refine vMz ?_; refine lvz (.notT rfl (by with_reducible rfl)) ?_; refine nNz ?_; refine cFz ?_; refine CW.skip ?_; refine thenN ?_; refine sRz ?_; refine vMz ?_; refine vMz ?_; apply LW.callE; rfl; rfl; infer_instance; exact .cons rfl .nil; intro w _; refine Part_calls _ ?_ w; omega; refine lvz (.minZ rfl rfl) ?_; refine vAz ?_; refine nNz ?_; refine CW.ret ?_)
    (apply finR; exact .inl rfl; rfl; rfl; rfl; apply ResL.cons; exact Res.tmp rfl; exact ResL.nil)
    rfl
  · rw [if_neg (Nat.not_lt.2 hs), decide_eq_false (Nat.not_lt.2 hs)] at hS0
    have hS := hS0
    rw [Nat.min_eq_right (by omega)]
    (refine sRz ?_; apply LW.boxA; rfl; rfl; intro _; refine vAz ?_; refine nSz ?_; refine ldz rfl .head (Rd.whole rfl) ?_; apply LW.callE; rfl; rfl; infer_instance; exact .cons rfl .nil; intro w _; exact hS w; refine vMz ?_; refine vEz ?_; refine vEz ?_; refine vAz ?_; refine vAz ?_; refine nNz ?_; refine CW.seq ?_; refine sRz ?_; refine vMz ?_; refine lvz (.notF rfl (by with_reducible rfl)) ?_; refine nNz ?_; refine cTz ?_; refine sRz ?_; refine vMz ?_; apply LW.callE; rfl; rfl; infer_instance; exact .cons rfl .nil; intro w _; refine Part_calls _ ?_ w; omega; refine vAz ?_; refine nNz ?_; refine CW.ret ?_; refine thenR ?_)
    (apply finR; exact .inl rfl; rfl; rfl; rfl; apply ResL.cons; exact Res.tmp rfl; exact ResL.nil)
    rfl
end Go.Proofs.YtpgdnfgjbhdbpaaGreatDoor

/-
  What is lent; what is spent together; where bytes end: the laws.
  Conditions: none.
-/
namespace Go.Proofs.YtpgdnfgjbhdbpaaGreatDoor
open Go Go.RowKit SL
set_option maxRecDepth 8000
set_option maxHeartbeats 4000000
set_option linter.unusedSimpArgs false
set_option linter.unusedVariables false
attribute [local irreducible] SL.CW SL.LW SL.DW Calls SL.Ret SL.RetG SL.beginQ SL.roundQ SL.rangeQ SL.inQ SL.RW SL.AnyW SL.thenQ SL.thenC SL.thenW SL.blkQ SL.finQ SL.ValP SL.NewP SL.SetP SL.CallP SL.Rd SL.Wr SL.Known
/-! ### Where bytes end -/
end Go.Proofs.YtpgdnfgjbhdbpaaGreatDoor

/-
  The document's answers on bytes: contracts.
  Conditions: none.
-/
namespace Go.Proofs.YtpgdnfgjbhdbpaaGreatDoor
open Go Go.RowKit SL
set_option maxRecDepth 8000
set_option maxHeartbeats 4000000
set_option linter.unusedSimpArgs false
set_option linter.unusedVariables false
attribute [local irreducible] SL.CW SL.LW SL.DW Calls SL.Ret SL.RetG SL.beginQ SL.roundQ SL.rangeQ SL.inQ SL.RW SL.AnyW SL.thenQ SL.thenC SL.thenW SL.blkQ SL.finQ SL.ValP SL.NewP SL.SetP SL.CallP SL.Rd SL.Wr SL.Known
end Go.Proofs.YtpgdnfgjbhdbpaaGreatDoor

/-
  Sums, differences, and how words stand: the law.
  Conditions: none.
-/
namespace Go.Proofs.YtpgdnfgjbhdbpaaGreatDoor
open Go Go.RowKit SL
set_option maxRecDepth 8000
set_option maxHeartbeats 4000000
set_option linter.unusedSimpArgs false
set_option linter.unusedVariables false
attribute [local irreducible] SL.CW SL.LW SL.DW Calls SL.Ret SL.RetG SL.beginQ SL.roundQ SL.rangeQ SL.inQ SL.RW SL.AnyW SL.thenQ SL.thenC SL.thenW SL.blkQ SL.finQ SL.ValP SL.NewP SL.SetP SL.CallP SL.Rd SL.Wr SL.Known
theorem wcs_app (l r : List Nat) : wcs (l ++ r) = wcs l ++ wcs r := by simp [wcs]
end Go.Proofs.YtpgdnfgjbhdbpaaGreatDoor

/-
  The sum of many: the law.
  Conditions: none.
-/
namespace Go.Proofs.YtpgdnfgjbhdbpaaGreatDoor
open Go Go.RowKit SL
set_option maxRecDepth 8000
set_option maxHeartbeats 4000000
set_option linter.unusedSimpArgs false
set_option linter.unusedVariables false
attribute [local irreducible] SL.CW SL.LW SL.DW Calls SL.Ret SL.RetG SL.beginQ SL.roundQ SL.rangeQ SL.inQ SL.RW SL.AnyW SL.thenQ SL.thenC SL.thenW SL.blkQ SL.finQ SL.ValP SL.NewP SL.SetP SL.CallP SL.Rd SL.Wr SL.Known
theorem wcs_take (l : List Nat) (k : Nat) : (wcs l).take (k * 4) = wcs (l.take k) := by
  induction l generalizing k with
  | nil => simp [wcs]
  | cons a l ih =>
    cases k with
    | zero => simp [wcs]
    | succ k =>
      have := ih k
      simp only [wcs, List.flatMap_cons, List.take_succ_cons] at *
      rw [← this, show (k + 1) * 4 = (wc a).toList.length + k * 4 by show (k + 1) * 4 = 4 + k * 4; omega, List.take_length_add_append]
theorem wcs_cells (l : List Nat) : ∀ u ∈ wcs l, u.oneCell' = true := fun u hu => by
  obtain ⟨a, _, hb⟩ := List.mem_flatMap.1 hu
  simp only [wc, List.mem_cons, List.not_mem_nil, or_false] at hb
  rcases hb with rfl | rfl | rfl | rfl <;> rfl
structure RW1 where
  m : Nat
  seg : Fs
end Go.Proofs.YtpgdnfgjbhdbpaaGreatDoor

/-
  The document's answer in bits: products.
  Conditions: none.
-/
namespace Go.Proofs.YtpgdnfgjbhdbpaaGreatDoor
open Go Go.RowKit SL
set_option maxRecDepth 8000
set_option maxHeartbeats 4000000
set_option linter.unusedSimpArgs false
set_option linter.unusedVariables false
attribute [local irreducible] SL.CW SL.LW SL.DW Calls SL.Ret SL.RetG SL.beginQ SL.roundQ SL.rangeQ SL.inQ SL.RW SL.AnyW SL.thenQ SL.thenC SL.thenW SL.blkQ SL.finQ SL.ValP SL.NewP SL.SetP SL.CallP SL.Rd SL.Wr SL.Known
end Go.Proofs.YtpgdnfgjbhdbpaaGreatDoor

/-
  Products of words: contracts.
  Conditions: none.
-/
namespace Go.Proofs.YtpgdnfgjbhdbpaaGreatDoor
open Go Go.RowKit SL
set_option maxRecDepth 8000
set_option maxHeartbeats 4000000
set_option linter.unusedSimpArgs false
set_option linter.unusedVariables false
attribute [local irreducible] SL.CW SL.LW SL.DW Calls SL.Ret SL.RetG SL.beginQ SL.roundQ SL.rangeQ SL.inQ SL.RW SL.AnyW SL.thenQ SL.thenC SL.thenW SL.blkQ SL.finQ SL.ValP SL.NewP SL.SetP SL.CallP SL.Rd SL.Wr SL.Known
/-! ### Limbs -/
/-- A row of limbs' number. -/
def val : List Nat → Nat
  | [] => 0
  | x :: r => x + 18446744073709551616 * val r
structure MO where
  i : Nat
  L : List Nat
structure MI where
  k : Nat
  c : Nat
  L : List Nat
end Go.Proofs.YtpgdnfgjbhdbpaaGreatDoor

/-
  Sums and products hang on no order; what is divided, multiplied and added, is the word again: the laws.
  Conditions: none.
-/
namespace Go.Proofs.YtpgdnfgjbhdbpaaGreatDoor
open Go Go.RowKit SL
set_option maxRecDepth 8000
set_option maxHeartbeats 4000000
set_option linter.unusedSimpArgs false
set_option linter.unusedVariables false
attribute [local irreducible] SL.CW SL.LW SL.DW Calls SL.Ret SL.RetG SL.beginQ SL.roundQ SL.rangeQ SL.inQ SL.RW SL.AnyW SL.thenQ SL.thenC SL.thenW SL.blkQ SL.finQ SL.ValP SL.NewP SL.SetP SL.CallP SL.Rd SL.Wr SL.Known
end Go.Proofs.YtpgdnfgjbhdbpaaGreatDoor

/-
  The document's answer in bits: how many times a word is in another one; products: the law.
  Conditions: none.
-/
namespace Go.Proofs.YtpgdnfgjbhdbpaaGreatDoor
open Go Go.RowKit SL
set_option maxRecDepth 8000
set_option maxHeartbeats 4000000
set_option linter.unusedSimpArgs false
set_option linter.unusedVariables false
attribute [local irreducible] SL.CW SL.LW SL.DW Calls SL.Ret SL.RetG SL.beginQ SL.roundQ SL.rangeQ SL.inQ SL.RW SL.AnyW SL.thenQ SL.thenC SL.thenW SL.blkQ SL.finQ SL.ValP SL.NewP SL.SetP SL.CallP SL.Rd SL.Wr SL.Known
theorem SL.AtSeg.one {p : Nat × Obj} {r : Fs} : AtSeg (p :: r) [] [p] r := AtSeg.head (seg := [p])
end Go.Proofs.YtpgdnfgjbhdbpaaGreatDoor

/-
  Words moved up and down: contracts.
  Conditions: none.
-/
namespace Go.Proofs.YtpgdnfgjbhdbpaaGreatDoor
open Go Go.RowKit SL
set_option maxRecDepth 8000
set_option maxHeartbeats 4000000
set_option linter.unusedSimpArgs false
set_option linter.unusedVariables false
attribute [local irreducible] SL.CW SL.LW SL.DW Calls SL.Ret SL.RetG SL.beginQ SL.roundQ SL.rangeQ SL.inQ SL.RW SL.AnyW SL.thenQ SL.thenC SL.thenW SL.blkQ SL.finQ SL.ValP SL.NewP SL.SetP SL.CallP SL.Rd SL.Wr SL.Known
/-! ### Limbs of words that are moved -/
theorem or_low {R A t : Nat} {r : Nat} (hR : R = 2 ^ r) (hA : R ∣ A) (ht : t < R) : A ||| t = A + t := by
  obtain ⟨q, rfl⟩ := hA
  subst hR
  rw [Nat.mul_comm, ← Nat.shiftLeft_eq, Nat.shiftLeft_add_eq_or_of_lt ht]

end Go.Proofs.YtpgdnfgjbhdbpaaGreatDoor

/-
  Words moved up and down: the walks.
  Conditions: none.
-/
namespace Go.Proofs.YtpgdnfgjbhdbpaaGreatDoor
open Go Go.RowKit SL
set_option maxRecDepth 8000
set_option maxHeartbeats 4000000
set_option linter.unusedSimpArgs false
set_option linter.unusedVariables false
attribute [local irreducible] SL.CW SL.LW SL.DW Calls SL.Ret SL.RetG SL.beginQ SL.roundQ SL.rangeQ SL.inQ SL.RW SL.AnyW SL.thenQ SL.thenC SL.thenW SL.blkQ SL.finQ SL.ValP SL.NewP SL.SetP SL.CallP SL.Rd SL.Wr SL.Known
end Go.Proofs.YtpgdnfgjbhdbpaaGreatDoor

/-
  Words moved down: the walk.
  Conditions: none.
-/
namespace Go.Proofs.YtpgdnfgjbhdbpaaGreatDoor
open Go Go.RowKit SL
set_option maxRecDepth 8000
set_option maxHeartbeats 4000000
set_option linter.unusedSimpArgs false
set_option linter.unusedVariables false
attribute [local irreducible] SL.CW SL.LW SL.DW Calls SL.Ret SL.RetG SL.beginQ SL.roundQ SL.rangeQ SL.inQ SL.RW SL.AnyW SL.thenQ SL.thenC SL.thenW SL.blkQ SL.finQ SL.ValP SL.NewP SL.SetP SL.CallP SL.Rd SL.Wr SL.Known
end Go.Proofs.YtpgdnfgjbhdbpaaGreatDoor

/-
  Words and their bytes: contracts.
  Conditions: none.
-/
namespace Go.Proofs.YtpgdnfgjbhdbpaaGreatDoor
open Go Go.RowKit SL
set_option maxRecDepth 8000
set_option maxHeartbeats 4000000
set_option linter.unusedSimpArgs false
set_option linter.unusedVariables false
attribute [local irreducible] SL.CW SL.LW SL.DW Calls SL.Ret SL.RetG SL.beginQ SL.roundQ SL.rangeQ SL.inQ SL.RW SL.AnyW SL.thenQ SL.thenC SL.thenW SL.blkQ SL.finQ SL.ValP SL.NewP SL.SetP SL.CallP SL.Rd SL.Wr SL.Known
/-! ### The same bytes? -/
/-! ### Bytes of a number, the highest one first -/
def beb (m a : Nat) : List UInt8 := (List.range m).map fun i => UInt8.ofNat (a / 256 ^ (m - 1 - i))
theorem beb_len (m a : Nat) : (beb m a).length = m := by simp [beb]
theorem beb_get (m a i : Nat) (h : i < m) : (beb m a)[i]? = some (UInt8.ofNat (a / 256 ^ (m - 1 - i))) := by simp [beb, h]
theorem byte_limb (a n : Nat) (hn : n < 32) : a / 2 ^ (64 * (0 + n / 8 * 1)) % 18446744073709551616 / 2 ^ (8 * (n % 8)) % 256 = a / 256 ^ n % 256 := by
  rw [show (18446744073709551616 : Nat) = 2 ^ (8 * (n % 8) + (64 - 8 * (n % 8))) by rw [show 8 * (n % 8) + (64 - 8 * (n % 8)) = 64 by omega]]
  rw [Nat.pow_add, Nat.mod_mul_right_div_self, Nat.div_div_eq_div_mul, ← Nat.pow_add, show 64 * (0 + n / 8 * 1) + 8 * (n % 8) = 8 * n by omega, Nat.pow_mul]
  obtain ⟨j, hj⟩ : ∃ j, 64 - 8 * (n % 8) = 8 + j := ⟨56 - 8 * (n % 8), by omega⟩
  rw [hj, Nat.pow_add, show (256 : Nat) = 2 ^ 8 from rfl, Nat.mod_mod_of_dvd _ ⟨2 ^ j, rfl⟩]
theorem beb_u8 (a k : Nat) (hk : k < 32) : ((a / 2 ^ (64 * (0 + (32 - 1 - k) / 8 * 1)) % 18446744073709551616 / 2 ^ (8 * ((32 - 1 - k) % 8)) % 256 : Nat) : Int) = (((UInt8.ofNat (a / 256 ^ (32 - 1 - k))).toNat : Nat) : Int) := by
  rw [byte_limb a _ (by omega), UInt8.toNat_ofNat']
/-- The first k bytes, the others 0. -/
def fillB (L : List UInt8) (k : Nat) : List UInt8 := L.take k ++ List.replicate (L.length - k) 0
theorem fillB_step (L : List UInt8) (k : Nat) (u : UInt8) (h : k < L.length) (hu : L[k]? = some u) : ucs ((fillB L k).take k) ++ [Value.int .u8 (u.toNat : Int)] ++ ucs ((fillB L k).drop (k + 1)) = ucs (fillB L (k + 1)) := by
  have h1 : (L.take k).length = k := by simp; omega
  have e1 : (fillB L k).take k = L.take k := by unfold fillB; rw [List.take_append_of_le_length (by omega), List.take_of_length_le (by omega)]
  have e2 : (fillB L k).drop (k + 1) = List.replicate (L.length - (k + 1)) 0 := by
    unfold fillB
    rw [List.drop_append, h1, List.drop_eq_nil_of_le (by omega), List.nil_append, List.drop_replicate]
    congr 1; omega
  obtain ⟨hk, hv⟩ := List.getElem?_eq_some_iff.1 hu
  rw [e1, e2, show [Value.int .u8 (u.toNat : Int)] = ucs [u] from rfl, ← ucs_app, ← ucs_app]
  unfold fillB
  rw [List.take_succ_eq_append_getElem hk, hv]
theorem fillB_len (L : List UInt8) (k : Nat) (h : k ≤ L.length) : (fillB L k).length = L.length := by simp [fillB]; omega
structure BX where
  m : Nat
  seg : Fs
theorem Bytes_calls (a : Nat) (ha : a < M256) (w : World) : Calls Tryz.prog 72 #[wv a] w (RetG w [] fun v gs => IsRow 5 1 v 32 (ucs (beb 32 a)) gs) := by
  refine enter (args := [_]) _ [] [] Tryz.func72 rfl Tryz.ntmps72 rfl (by simp) .nil ?_
  (refine sRz ?_; apply LW.boxA; rfl; rfl; intro _; refine vAz ?_; refine nSz ?_)
  rename_i b
  refine LW.makeRow (n := 32) rfl inferInstance inferInstance inferInstance rfl rfl (by decide) (by decide) ?_
  intro v0 seg0 hrow0
  obtain ⟨p0, c0, rfl⟩ := hrow0.form
  rw [← ucs_zero] at hrow0
  (refine vAz ?_; refine nNz ?_; refine CW.seq ?_; refine sRz ?_; refine vMz ?_; refine lvz (.lenR rfl inferInstance rfl) ?_; refine vMz ?_; refine nNz ?_; refine CW.block ?_)
  refine CW.loop (fun x : BX => ([(9, .int .i64 (x.m : Int)), (8, .int .i64 32), (3, .slice p0 32 c0), (1, .pointer (some ⟨b, 0, none⟩))], x.seg ++ [(b, .cells (wc a) 29 (0, 0))]))
    (fun x => x.m ≤ 32 ∧ IsRow 5 1 (.slice p0 32 c0) 32 (ucs (fillB (beb 32 a) x.m)) x.seg) (fun x => 32 - x.m) ⟨0, seg0⟩ ⟨Nat.zero_le _, by simpa [fillB, beb_len] using hrow0⟩ ⟨rfl, rfl, rfl, rfl, trivial⟩ (List.Sublist.refl _) ?_
  rintro ⟨k, seg⟩ ⟨hk, hrow⟩
  dsimp only at hk hrow ⊢
  rcases Nat.lt_or_ge k 32 with hlt | hge
  · obtain ⟨g, cur, rfl, rfl, hc1, hmx, hsz, ht⟩ := hrow.pos (by decide)
    have hu := beb_get 32 a k hlt
    have hval := beb_u8 a k hlt
    obtain ⟨u, hu'⟩ : ∃ u, u = UInt8.ofNat (a / 256 ^ (32 - 1 - k)) := ⟨_, rfl⟩
    rw [← hu'] at hu hval
    obtain ⟨w1, w2⟩ := wr_take (i := k) (vs := [Value.int .u8 (u.toNat : Int)]) ht rfl hlt (by omega)
    rw [ucs_take, ucs_drop, fillB_step _ _ _ (by rw [beb_len]; exact hlt) hu] at w1
    have hW : Wr Tryz.prog 5 (.cells cur 5 (0, 0)) (0 + k * 1) (.int .u8 (u.toNat : Int)) (.cells (wrCells cur (k * 1) [Value.int .u8 (u.toNat : Int)]) 5 (0, 0)) := Wr.cells rfl rfl (by rw [hsz]; show 0 + k * 1 + 1 ≤ c0 * 1; omega) (by rw [Nat.zero_add]; rfl)
    rw [← hval] at hW
    (refine sRz ?_; refine lvz (.lssT rfl rfl (by omega)) ?_; refine nNz ?_; refine CW.seq ?_; refine cTz ?_; refine CW.skip ?_; refine thenN ?_; refine CW.seq ?_; refine CW.block ?_; refine sRz ?_; refine vMz ?_; refine vAz ?_; refine nSz ?_; refine vMz ?_; refine lvz (.lenR rfl inferInstance rfl) ?_; refine lvz (.subZL rfl rfl (by decide) (by omega) (by omega)) ?_; refine vMz ?_; refine lvz (.subZ rfl rfl (by omega) (by omega)) ?_; refine vAz ?_; refine nNz ?_; refine CW.region ?_; refine vMz ?_; refine vMz ?_; refine vMz ?_; refine lvz (.quoZL rfl rfl (by decide) (by omega) (by omega)) ?_; refine lvz (.indexAddrA rfl rfl rfl (by omega)) ?_; apply LW.load; rfl; rfl; apply Known.at; apply FsAt.tail; apply FsAt.head; apply Rd.one'; apply nth_wc; omega; refine vMz ?_; refine lvz (.remZL rfl rfl (by decide) (by omega)) ?_; refine lvz (.mulZK rfl rfl (by decide) (by omega)) ?_; refine lvz (.shrU rfl rfl (by omega)) ?_; refine lvz (.convB rfl) ?_; refine lvz (.indexAddrS rfl rfl rfl (by omega)) ?_; apply LW.store; rfl; rfl; apply SetAt.head; assumption; apply LW.nil; refine blkN ?_; refine thenN ?_; refine CW.region ?_; refine lvz (.addZL rfl rfl (by decide) (by omega)) ?_; refine vMz ?_; apply LW.nil)
    apply thenX
    refine ⟨rfl, ⟨k + 1, _⟩, ⟨hlt, .own hc1 hmx (by rw [w2, hsz]) w1 ?_⟩, by show 32 - (k + 1) < 32 - k; omega, ⟨rfl, rfl, rfl, rfl, trivial⟩, by rw [hval]; exact List.Sublist.refl _⟩
    rw [ucs_len, fillB_len _ _ (by rw [beb_len]; exact hlt), beb_len]
  · obtain rfl : k = 32 := by omega
    rw [show fillB (beb 32 a) 32 = beb 32 a by simp [fillB, beb_len, List.take_of_length_le]] at hrow
    (refine sRz ?_; refine lvz (.lssF rfl rfl (by omega)) ?_; refine nNz ?_; refine CW.seq ?_; refine cFz ?_; refine CW.exit ?_; refine thenE ?_; refine thenE ?_; refine blkE rfl ?_; refine thenN ?_; refine sRz ?_; refine vMz ?_; refine vAz ?_; refine nNz ?_; refine CW.ret ?_)
    apply finM seg; (exact .inl rfl); (exact Shut.nil); rfl; (apply ResL.cons; exact Res.tmp rfl; exact ResL.nil); exact List.sublist_append_left _ _
    exact hrow
/-! ### The word of bytes -/
def bev (l : List UInt8) : Nat := l.foldl (fun n u => 256 * n + u.toNat) 0
theorem bev_snoc (l : List UInt8) (u : UInt8) : bev (l ++ [u]) = 256 * bev l + u.toNat := by simp [bev, List.foldl_append]
theorem bev_go (l : List UInt8) : ∀ n, l.foldl (fun n u => 256 * n + u.toNat) n < (n + 1) * 2 ^ (8 * l.length) := by
  induction l with
  | nil => intro n; simp
  | cons u l ih =>
    intro n
    have hu := u.toNat_lt
    rw [List.foldl_cons, List.length_cons, show 8 * (l.length + 1) = 8 + 8 * l.length by omega, Nat.pow_add, ← Nat.mul_assoc]
    exact Nat.lt_of_lt_of_le (ih _) (Nat.mul_le_mul_right _ (by omega))
theorem bev_lt (l : List UInt8) : bev l < 2 ^ (8 * l.length) := by
  have := bev_go l 0
  rwa [Nat.zero_add, Nat.one_mul] at this
end Go.Proofs.YtpgdnfgjbhdbpaaGreatDoor

/-
  Bytes of words (for a seat that has the texts of words).
  Conditions: none.
-/
namespace Go.Proofs.YtpgdnfgjbhdbpaaGreatDoor.UK
open Go Go.RowKit SL
end Go.Proofs.YtpgdnfgjbhdbpaaGreatDoor.UK

/-
  Contracts of the pack: parts, which may be, which are the same.
  Conditions: none.
-/
namespace Go.Proofs.YtpgdnfgjbhdbpaaGreatDoor.UK
open Go Go.RowKit SL
set_option maxRecDepth 8000
set_option maxHeartbeats 4000000
set_option linter.unusedSimpArgs false
set_option linter.unusedVariables false
attribute [local irreducible] SL.CW SL.LW SL.DW Calls SL.Ret SL.RetG SL.beginQ SL.roundQ SL.rangeQ SL.inQ SL.RW SL.AnyW SL.thenQ SL.thenC SL.thenW SL.blkQ SL.finQ SL.ValP SL.NewP SL.SetP SL.CallP SL.Rd SL.Wr SL.Known
/-- A part: its mark, its word, the value of its bytes, and the bytes. -/
structure PartV where
  lg : Bool
  wd : Nat
  dv : Value
  db : List UInt8
def psc (p : PartV) : List Value := .bool p.lg :: ((wc p.wd).toList ++ [p.dv])
section rd
variable {P : Program} {T E : TypeId} {fr : Nat × Nat} {p : PartV}
end rd
/-- What a part's value says. -/
structure PartOk (p : PartV) : Prop where
  small : p.wd < M256
  form : ∃ q c, p.dv = .slice q p.db.length c
/-- Parts that may be read. -/
structure PartsAt (w : World) (v : Value) (l : List PartV) : Prop where
  row : RowAt w 6 v l.length (l.flatMap psc)
  small : ∀ p ∈ l, p.wd < M256
  data : ∀ p ∈ l, RowAt w 1 p.dv p.db.length (ucs p.db)
theorem PartsAt.st {w0 w : World} {v : Value} {l : List PartV} {fs : Fs} (h : PartsAt w0 v l) (hs : St w0 [] fs w) : PartsAt w v l :=
  ⟨h.row.st hs, h.small, fun p hp => (h.data p hp).st hs⟩
theorem PartsAt.ok {w : World} {v : Value} {l : List PartV} (h : PartsAt w v l) : ∀ p ∈ l, PartOk p := fun p hp => by
  obtain ⟨q, c, e, _, _⟩ := (h.data p hp).form
  exact ⟨h.small p hp, q, c, e⟩
theorem PartsAt.one {w : World} {v : Value} {l : List PartV} (h : PartsAt w v l) : ∀ p ∈ l, p.dv.oneCell' = true := fun p hp => by
  obtain ⟨q, c, e, _, _⟩ := (h.data p hp).form
  rw [e]; rfl
end Go.Proofs.YtpgdnfgjbhdbpaaGreatDoor.UK

/-
  Contracts of the pack: numbers, copies, which parts are the same.
  Conditions: none.
-/
namespace Go.Proofs.YtpgdnfgjbhdbpaaGreatDoor.UK
open Go Go.RowKit SL
set_option maxRecDepth 8000
set_option maxHeartbeats 4000000
set_option linter.unusedSimpArgs false
set_option linter.unusedVariables false
attribute [local irreducible] SL.CW SL.LW SL.DW Calls SL.Ret SL.RetG SL.beginQ SL.roundQ SL.rangeQ SL.inQ SL.RW SL.AnyW SL.thenQ SL.thenC SL.thenW SL.blkQ SL.finQ SL.ValP SL.NewP SL.SetP SL.CallP SL.Rd SL.Wr SL.Known
/-- A number of bytes, filled up to whole heads. -/
def whl (n : Nat) : Nat := (n + 31) / 32 * 32
end Go.Proofs.YtpgdnfgjbhdbpaaGreatDoor.UK

/-
  Contracts of the pack: which parts are the same.
  Conditions: none.
-/
namespace Go.Proofs.YtpgdnfgjbhdbpaaGreatDoor.UK
open Go Go.RowKit SL
set_option maxRecDepth 8000
set_option maxHeartbeats 4000000
set_option linter.unusedSimpArgs false
set_option linter.unusedVariables false
attribute [local irreducible] SL.CW SL.LW SL.DW Calls SL.Ret SL.RetG SL.beginQ SL.roundQ SL.rangeQ SL.inQ SL.RW SL.AnyW SL.thenQ SL.thenC SL.thenW SL.blkQ SL.finQ SL.ValP SL.NewP SL.SetP SL.CallP SL.Rd SL.Wr SL.Known
end Go.Proofs.YtpgdnfgjbhdbpaaGreatDoor.UK

/-
  Contracts of the pack: the bytes of parts.
  Conditions: none.
-/
namespace Go.Proofs.YtpgdnfgjbhdbpaaGreatDoor.UK
open Go Go.RowKit SL
set_option maxRecDepth 8000
set_option maxHeartbeats 4000000
set_option linter.unusedSimpArgs false
set_option linter.unusedVariables false
attribute [local irreducible] SL.CW SL.LW SL.DW Calls SL.Ret SL.RetG SL.beginQ SL.roundQ SL.rangeQ SL.inQ SL.RW SL.AnyW SL.thenQ SL.thenC SL.thenW SL.blkQ SL.finQ SL.ValP SL.NewP SL.SetP SL.CallP SL.Rd SL.Wr SL.Known
/-! ### The layout -/
def p00 : PartV := ⟨false, 0, .slice none 0 0, []⟩
/-- The part at a place. -/
def pt (l : List PartV) (k : Nat) : PartV := l.getD k p00
/-- A Long part's tail. -/
def tlB (b : List UInt8) : List UInt8 := beb 32 b.length ++ (b ++ List.replicate (whl b.length - b.length) 0)
/-- The tails of the first k parts. -/
def behK (l : List PartV) : Nat → List UInt8
  | 0 => []
  | k + 1 => behK l k ++ (if (pt l k).lg then tlB (pt l k).db else [])
/-- Where the tail of the k-th part begins. -/
def atF (l : List PartV) (k : Nat) : Nat := 32 * l.length + (behK l k).length
/-- The places of the first k parts' tails. -/
def plcK (l : List PartV) : Nat → List Nat
  | 0 => []
  | k + 1 => plcK l k ++ (if (pt l k).lg then [atF l k] else [])
/-- The heads of the first k parts. -/
def hdK (l : List PartV) : Nat → List UInt8
  | 0 => []
  | k + 1 => hdK l k ++ (if (pt l k).lg then beb 32 (atF l k) else beb 32 (pt l k).wd)
attribute [local irreducible] behK plcK hdK
/-! ### Lay -/
structure LX where
  k : Nat
  ov : Value
  segO : Fs
  q : Option Addr
  c : Nat
structure TLX where
  m : Nat
  bv : Value
  segB : Fs
  pv : Value
  segP : Fs
end Go.Proofs.YtpgdnfgjbhdbpaaGreatDoor.UK

/-
  Contracts of the pack: how many bytes parts have.
  Conditions: none.
-/
namespace Go.Proofs.YtpgdnfgjbhdbpaaGreatDoor.UK
open Go Go.RowKit SL
set_option maxRecDepth 8000
set_option maxHeartbeats 4000000
set_option linter.unusedSimpArgs false
set_option linter.unusedVariables false
attribute [local irreducible] SL.CW SL.LW SL.DW Calls SL.Ret SL.RetG SL.beginQ SL.roundQ SL.rangeQ SL.inQ SL.RW SL.AnyW SL.thenQ SL.thenC SL.thenW SL.blkQ SL.finQ SL.ValP SL.NewP SL.SetP SL.CallP SL.Rd SL.Wr SL.Known
end Go.Proofs.YtpgdnfgjbhdbpaaGreatDoor.UK

/-
  Contracts of the pack: what is left of bytes.
  Conditions: none.
-/
namespace Go.Proofs.YtpgdnfgjbhdbpaaGreatDoor.UK
open Go Go.RowKit SL
set_option maxRecDepth 8000
set_option maxHeartbeats 4000000
set_option linter.unusedSimpArgs false
set_option linter.unusedVariables false
attribute [local irreducible] SL.CW SL.LW SL.DW Calls SL.Ret SL.RetG SL.beginQ SL.roundQ SL.rangeQ SL.inQ SL.RW SL.AnyW SL.thenQ SL.thenC SL.thenW SL.blkQ SL.finQ SL.ValP SL.NewP SL.SetP SL.CallP SL.Rd SL.Wr SL.Known
/-! ### Taking bytes -/
def tkBad (bad : Bool) (l : List UInt8) (n : Nat) : Bool := bad || decide (l.length < n)
def tkB (bad : Bool) (l : List UInt8) (n : Nat) : List UInt8 := if tkBad bad l n then [] else l.take n
def tkL (bad : Bool) (l : List UInt8) (n : Nat) : List UInt8 := if tkBad bad l n then l else l.drop n
section lw
variable {w0 : World} {S : List Nat} {N : Nat} {ds : List Deferred} {r : Option Nat} {ops : Array Oper} {Q : Post} {rest : List Oper} {e : Env} {fs : Fs} {d : Nat} {t : TypeId} {pos : String} {af : Array Edge}
end lw
end Go.Proofs.YtpgdnfgjbhdbpaaGreatDoor.UK

/-
  Contracts of the pack: parts read.
  Conditions: none.
-/
namespace Go.Proofs.YtpgdnfgjbhdbpaaGreatDoor.UK
open Go Go.RowKit SL
set_option maxRecDepth 8000
set_option maxHeartbeats 4000000
set_option linter.unusedSimpArgs false
set_option linter.unusedVariables false
attribute [local irreducible] SL.CW SL.LW SL.DW Calls SL.Ret SL.RetG SL.beginQ SL.roundQ SL.rangeQ SL.inQ SL.RW SL.AnyW SL.thenQ SL.thenC SL.thenW SL.blkQ SL.finQ SL.ValP SL.NewP SL.SetP SL.CallP SL.Rd SL.Wr SL.Known
/-- What is left. -/
structure RS where
  hl : List UInt8
  hb : Bool
  tl : List UInt8
  tb : Bool
  pl : Nat
def hd32 (s : RS) : Nat := bev (tkB s.hb s.hl 32)
def lgN (s : RS) : Nat := bev (tkB s.tb s.tl 32)
def lgT1 (s : RS) : List UInt8 := tkL s.tb s.tl 32
def lgB1 (s : RS) : Bool := tkBad s.tb s.tl 32
def lgT2 (s : RS) : List UInt8 := tkL (lgB1 s) (lgT1 s) (lgN s)
def lgB2 (s : RS) : Bool := tkBad (lgB1 s) (lgT1 s) (lgN s)
def lgP (s : RS) : List UInt8 := tkB (lgB2 s) (lgT2 s) (whl (lgN s) - lgN s)
def lgT3 (s : RS) : List UInt8 := tkL (lgB2 s) (lgT2 s) (whl (lgN s) - lgN s)
def lgB3 (s : RS) : Bool := tkBad (lgB2 s) (lgT2 s) (whl (lgN s) - lgN s)
def nz (l : List UInt8) : Bool := l.any (fun u => decide (u.toNat ≠ 0))
def lgOk (s : RS) : Bool := decide (hd32 s = s.pl ∧ lgN s ≤ 200)
/-- What is left behind a Long part. -/
def lgS (s : RS) : RS := if lgOk s then ⟨tkL s.hb s.hl 32, tkBad s.hb s.hl 32 || nz (lgP s), lgT3 s, lgB3 s, s.pl + (32 + whl (lgN s))⟩ else ⟨tkL s.hb s.hl 32, true, lgT1 s, lgB1 s, s.pl⟩
/-- What is left behind a word. -/
def shS (s : RS) : RS := ⟨tkL s.hb s.hl 32, tkBad s.hb s.hl 32, s.tl, s.tb, s.pl⟩
end Go.Proofs.YtpgdnfgjbhdbpaaGreatDoor.UK

/-
  Contracts of the pack: parts of bytes.
  Conditions: none.
-/
namespace Go.Proofs.YtpgdnfgjbhdbpaaGreatDoor.UK
open Go Go.RowKit SL
set_option maxRecDepth 8000
set_option maxHeartbeats 4000000
set_option linter.unusedSimpArgs false
set_option linter.unusedVariables false
attribute [local irreducible] SL.CW SL.LW SL.DW Calls SL.Ret SL.RetG SL.beginQ SL.roundQ SL.rangeQ SL.inQ SL.RW SL.AnyW SL.thenQ SL.thenC SL.thenW SL.blkQ SL.finQ SL.ValP SL.NewP SL.SetP SL.CallP SL.Rd SL.Wr SL.Known
/-- What is left behind the first k parts. -/
def rsK (b : List UInt8) (fm : List Bool) : Nat → RS
  | 0 => ⟨b.take (32 * fm.length), false, b.drop (32 * fm.length), false, 32 * fm.length⟩
  | k + 1 => if fm.getD k false then lgS (rsK b fm k) else shS (rsK b fm k)
attribute [local irreducible] rsK
/-- The parts' bytes lie where these facts say. -/
def DatAt (gs : Fs) (ps : List PartV) : Prop := ∀ w : World, (∀ q ∈ gs, w.heap[q.1]? = some q.2) → ∀ p ∈ ps, RowAt w 1 p.dv p.db.length (ucs p.db)
theorem DatAt.nil {gs : Fs} : DatAt gs [] := fun _ _ _ h => by cases h
theorem DatAt.app {gs hs : Fs} {ps qs : List PartV} (h : DatAt gs ps) (k : DatAt hs qs) : DatAt (hs ++ gs) (ps ++ qs) := fun w hw p hp => by
  rcases List.mem_append.1 hp with hp | hp
  · exact h w (fun q hq => hw q (List.mem_append_right _ hq)) p hp
  · exact k w (fun q hq => hw q (List.mem_append_left _ hq)) p hp
structure GX where
  k : Nat
  ov : Value
  segO : Fs
  ps : List PartV
  gsD : Fs
  hv : Value
  tv : Value
end Go.Proofs.YtpgdnfgjbhdbpaaGreatDoor.UK

/-
  Contracts of the pack's laws: does the layer do anything?
  Conditions: none.
-/
namespace Go.Proofs.YtpgdnfgjbhdbpaaGreatDoor.UK
open Go Go.RowKit SL
set_option maxRecDepth 8000
set_option maxHeartbeats 4000000
set_option linter.unusedSimpArgs false
set_option linter.unusedVariables false
attribute [local irreducible] SL.CW SL.LW SL.DW Calls SL.Ret SL.RetG SL.beginQ SL.roundQ SL.rangeQ SL.inQ SL.RW SL.AnyW SL.thenQ SL.thenC SL.thenW SL.blkQ SL.finQ SL.ValP SL.NewP SL.SetP SL.CallP SL.Rd SL.Wr SL.Known
theorem LW.st {C : Cu} {ops : Array Oper} {Q : Post} {l : List Oper} {e : Env} {fs : Fs} (h : ∀ w, St C.w0 C.S fs w → LW C ops Q l e fs) : LW C ops Q l e fs := by
  unfold SL.LW at h ⊢
  exact fun a w hs => h w hs.st a w hs
theorem st_us {w0 w : World} {S : List Nat} {fs gs : Fs} (hs : St w0 S fs w) (h : List.Sublist gs fs) : ∀ q ∈ gs, w.heap[q.1]? = some q.2 := fun q hq => (hs.own q (h.subset hq)).2
end Go.Proofs.YtpgdnfgjbhdbpaaGreatDoor.UK

/-
  Contracts of the pack's references: which bytes, and which parts, are the same.
  Conditions: none.
-/
namespace Go.Proofs.YtpgdnfgjbhdbpaaGreatDoor.UK
open Go Go.RowKit SL
set_option maxRecDepth 8000
set_option maxHeartbeats 4000000
set_option linter.unusedSimpArgs false
set_option linter.unusedVariables false
attribute [local irreducible] SL.CW SL.LW SL.DW Calls SL.Ret SL.RetG SL.beginQ SL.roundQ SL.rangeQ SL.inQ SL.RW SL.AnyW SL.thenQ SL.thenC SL.thenW SL.blkQ SL.finQ SL.ValP SL.NewP SL.SetP SL.CallP SL.Rd SL.Wr SL.Known
end Go.Proofs.YtpgdnfgjbhdbpaaGreatDoor.UK

/-
  Contracts of the pack's laws: forms, copies; which parts may be.
  Conditions: none.
-/
namespace Go.Proofs.YtpgdnfgjbhdbpaaGreatDoor.UK
open Go Go.RowKit SL
set_option maxRecDepth 8000
set_option maxHeartbeats 4000000
set_option linter.unusedSimpArgs false
set_option linter.unusedVariables false
attribute [local irreducible] SL.CW SL.LW SL.DW Calls SL.Ret SL.RetG SL.beginQ SL.roundQ SL.rangeQ SL.inQ SL.RW SL.AnyW SL.thenQ SL.thenC SL.thenW SL.blkQ SL.finQ SL.ValP SL.NewP SL.SetP SL.CallP SL.Rd SL.Wr SL.Known
/-! ### form -/
structure FX where
  k : Nat
  ov : Value
  seg : Fs
/-! ### few -/
end Go.Proofs.YtpgdnfgjbhdbpaaGreatDoor.UK

/-
  Contracts of the pack's references: words compared; which parts may be; tails; the bytes of parts.
  Conditions: none.
-/
namespace Go.Proofs.YtpgdnfgjbhdbpaaGreatDoor.UK
open Go Go.RowKit SL
set_option maxRecDepth 8000
set_option maxHeartbeats 4000000
set_option linter.unusedSimpArgs false
set_option linter.unusedVariables false
attribute [local irreducible] SL.CW SL.LW SL.DW Calls SL.Ret SL.RetG SL.beginQ SL.roundQ SL.rangeQ SL.inQ SL.RW SL.AnyW SL.thenQ SL.thenC SL.thenW SL.blkQ SL.finQ SL.ValP SL.NewP SL.SetP SL.CallP SL.Rd SL.Wr SL.Known
/-! ### Which parts may be -/
end Go.Proofs.YtpgdnfgjbhdbpaaGreatDoor.UK

/-
  Contracts of the pack's references: tails, the bytes of parts.
  Conditions: none.
-/
namespace Go.Proofs.YtpgdnfgjbhdbpaaGreatDoor.UK
open Go Go.RowKit SL
set_option maxRecDepth 8000
set_option maxHeartbeats 4000000
set_option linter.unusedSimpArgs false
set_option linter.unusedVariables false
attribute [local irreducible] SL.CW SL.LW SL.DW Calls SL.Ret SL.RetG SL.beginQ SL.roundQ SL.rangeQ SL.inQ SL.RW SL.AnyW SL.thenQ SL.thenC SL.thenW SL.blkQ SL.finQ SL.ValP SL.NewP SL.SetP SL.CallP SL.Rd SL.Wr SL.Known
structure HX where
  k : Nat
  hv : Value
  segH : Fs
  tv : Value
  segT : Fs
end Go.Proofs.YtpgdnfgjbhdbpaaGreatDoor.UK

/-
  The pack in plain words: parts and their bytes lead back to one another.
  Conditions: none.
-/
namespace Go.Proofs.YtpgdnfgjbhdbpaaGreatDoor.UK
open Go Go.RowKit SL
/-! ### Bytes of a word -/
/-! ### Only what the parts say matters -/
/-! ### What is laid is read -/
/-! ### What is read is laid -/
end Go.Proofs.YtpgdnfgjbhdbpaaGreatDoor.UK

/-
  Operations of accounts: what their values say; addresses read; the greatest of numbers.
  Conditions: none.
-/
namespace Go.Proofs.YtpgdnfgjbhdbpaaGreatDoor.UK
open Go Go.RowKit SL
set_option maxRecDepth 8000
set_option maxHeartbeats 4000000
set_option linter.unusedSimpArgs false
set_option linter.unusedVariables false
attribute [local irreducible] SL.CW SL.LW SL.DW Calls SL.Ret SL.RetG SL.beginQ SL.roundQ SL.rangeQ SL.inQ SL.RW SL.AnyW SL.thenQ SL.thenC SL.thenW SL.blkQ SL.finQ SL.ValP SL.NewP SL.SetP SL.CallP SL.Rd SL.Wr SL.Known
/-- An operation: its numbers, the values of its bytes, and the bytes. -/
structure OpV where
  sd : Nat
  no : Nat
  iv : Value
  ib : List UInt8
  cv : Value
  cb : List UInt8
  vg : Nat
  cg : Nat
  pg : Nat
  mf : Nat
  mp : Nat
  py : Nat
  pv : Nat
  pp : Nat
  dv : Value
  db : List UInt8
  gv : Value
  gb : List UInt8
def opc (u : OpV) : List Value := .int .u64 (u.sd : Int) :: ((wc u.no).toList ++ [u.iv, u.cv, .int .u64 (u.vg : Int), .int .u64 (u.cg : Int), .int .u64 (u.pg : Int), .int .u64 (u.mf : Int), .int .u64 (u.mp : Int), .int .u64 (u.py : Int), .int .u64 (u.pv : Int), .int .u64 (u.pp : Int), u.dv, u.gv])
section rd
variable {P : Program} {T E : TypeId} {fr : Nat × Nat} {u : OpV}
end rd
/-- An operation's numbers are numbers, and its bytes may be read. -/
structure OpNum (u : OpV) : Prop where
  sd : u.sd < 18446744073709551616
  no : u.no < M256
  vg : u.vg < 18446744073709551616
  cg : u.cg < 18446744073709551616
  pg : u.pg < 18446744073709551616
  mf : u.mf < 18446744073709551616
  mp : u.mp < 18446744073709551616
  py : u.py < 18446744073709551616
  pv : u.pv < 18446744073709551616
  pp : u.pp < 18446744073709551616
structure OpAt (w : World) (u : OpV) : Prop where
  num : OpNum u
  i : RowAt w 1 u.iv u.ib.length (ucs u.ib)
  c : RowAt w 1 u.cv u.cb.length (ucs u.cb)
  d : RowAt w 1 u.dv u.db.length (ucs u.db)
  g : RowAt w 1 u.gv u.gb.length (ucs u.gb)
theorem OpAt.st {w0 w : World} {u : OpV} {fs : Fs} (h : OpAt w0 u) (hs : St w0 [] fs w) : OpAt w u := ⟨h.num, h.i.st hs, h.c.st hs, h.d.st hs, h.g.st hs⟩
theorem OpAt.bel {w0 w : World} {u : OpV} (h : OpAt w0 u) (hb : Bel w0.heap.size [] w0 w) : OpAt w u := ⟨h.num, h.i.bel hb, h.c.bel hb, h.d.bel hb, h.g.bel hb⟩
/-! ### Addresses -/
theorem bev_shift (l : List UInt8) (m : Nat) (h : m < l.length) : bev (l.take m) * 256 ||| l[m].toNat = bev (l.take (m + 1)) := by
  have hu := l[m].toNat_lt
  rw [or_low (R := 256) (r := 8) rfl ⟨bev (l.take m), Nat.mul_comm _ _⟩ hu, List.take_succ_eq_append_getElem h, bev_snoc, Nat.mul_comm]
theorem bev8 {l : List UInt8} {m : Nat} (h : m ≤ 8) : bev (l.take m) < 2 ^ (8 * m) := by
  refine Nat.lt_of_lt_of_le (bev_lt _) (Nat.pow_le_pow_right (by decide) ?_)
  rw [List.length_take]; omega
/-- The address that bytes begin with. -/
def adr (l : List UInt8) : Nat := bev (l.take 8)
theorem adr_lt (l : List UInt8) : adr l < 18446744073709551616 := bev8 (l := l) (m := 8) (by decide)
theorem aRead_calls (l : List UInt8) (v : Value) (w : World) (hv : RowAt w 1 v l.length (ucs l)) (hl : 8 ≤ l.length) : Calls Tryz.prog 73 #[v] w (Ret w (.tuple #[.int .u64 (adr l : Int), .int .i64 0])) := by
  obtain ⟨p, c, rfl, hc, hm⟩ := hv.form
  simp only [maxLen] at hm
  refine enter (args := [_]) _ [] [] Tryz.func73 rfl Tryz.ntmps73 rfl (by simp) .nil ?_
  (refine sRz ?_; refine vAz ?_; refine vAz ?_; refine nNz ?_; refine CW.seq ?_; refine sRz ?_; refine vMz ?_; refine lvz (.lenR rfl inferInstance rfl) ?_; refine lvz (.lssF rfl rfl (by omega)) ?_; refine nNz ?_; refine cFz ?_; refine CW.skip ?_; refine thenN ?_; refine sRz ?_; refine vAz ?_; refine nNz ?_; refine CW.seq ?_; refine sRz ?_; refine vMz ?_; refine nNz ?_; refine CW.block ?_)
  refine CW.loop (fun m : Nat => ([(9, .int .i64 (m : Int)), (4, .int .u64 (bev (l.take m) : Int)), (0, .slice p l.length c)], [])) (fun m => m ≤ 8) (fun m => 8 - m) 0 (Nat.zero_le _) ⟨rfl, rfl, rfl, trivial⟩ (List.nil_sublist _) ?_
  rintro m hm
  dsimp only at hm ⊢
  rcases Nat.lt_or_ge m 8 with hlt | hge
  · obtain ⟨b, off, c', cs, E, fr, heq, hb, hx⟩ := hv.pos (by omega)
    cases heq
    have hml : m < l.length := by omega
    obtain ⟨u, hu⟩ : ∃ u, u = l[m] := ⟨_, rfl⟩
    have hu8 := u.toNat_lt
    have hrd : Rd Tryz.prog 5 (.cells cs E fr) (off + m * 1) (.int .u8 (u.toNat : Int)) := Rd.elem1 hx (ucs_one l) (by rw [hu]; exact List.getElem?_eq_getElem hml) rfl
    have hb8 := bev8 (l := l) (m := m) (by omega)
    have hb7 : bev (l.take m) < 72057594037927936 := Nat.lt_of_lt_of_le hb8 (show 2 ^ (8 * m) ≤ 2 ^ 56 from Nat.pow_le_pow_right (by decide) (by omega))
    have hsh := bev_shift l m hml
    rw [← hu] at hsh
    obtain ⟨x, hx1⟩ : ∃ x, bev (l.take m) = x := ⟨_, rfl⟩
    rw [hx1] at hsh hb7 ⊢
    have e : x * 2 ^ 8 % 18446744073709551616 = x * 256 := Nat.mod_eq_of_lt (by omega)
    (refine sRz ?_; refine lvz (.lssT rfl rfl (by omega)) ?_; refine nNz ?_; refine CW.seq ?_; refine cTz ?_; refine CW.skip ?_; refine thenN ?_; refine CW.seq ?_; refine CW.block ?_; refine sRz ?_; refine vMz ?_; refine vAz ?_; refine nNz ?_; refine CW.region ?_; refine vMz ?_; refine lvz (.shlUL rfl rfl (by decide) (by omega)) ?_; refine vMz ?_; refine vMz ?_; refine lvz (.indexAddrS rfl rfl rfl (by omega)) ?_; apply LW.load; rfl; rfl; exact Known.ext (by assumption) (by simp); assumption; refine lvz (.convN rfl (by omega) (by omega)) ?_; refine lvz (.orU rfl rfl (by omega) (by omega)) ?_; refine vAz ?_; apply LW.nil; refine blkN ?_; refine thenN ?_; refine CW.region ?_; refine lvz (.addZL rfl rfl (by decide) (by omega)) ?_; refine vMz ?_; apply LW.nil)
    rw [e, hsh]
    apply thenX
    exact ⟨rfl, m + 1, hlt, by omega, ⟨rfl, rfl, rfl, trivial⟩, List.nil_sublist _⟩
  · obtain rfl : m = 8 := by omega
    (refine sRz ?_; refine lvz (.lssF rfl rfl (by omega)) ?_; refine nNz ?_; refine CW.seq ?_; refine cFz ?_; refine CW.exit ?_; refine thenE ?_; refine thenE ?_; refine blkE rfl ?_; refine thenN ?_; refine sRz ?_; refine vMz ?_; refine vAz ?_; refine vAz ?_; refine nNz ?_; refine CW.ret ?_)
    (apply finR; exact .inl rfl; rfl; rfl; rfl; apply ResL.cons; exact Res.tmp rfl; apply ResL.cons; exact Res.tmp rfl; exact ResL.nil)
    rfl
/-! ### The greatest of numbers -/
end Go.Proofs.YtpgdnfgjbhdbpaaGreatDoor.UK

/-
  Operations of accounts: which may be.
  Conditions: none.
-/
namespace Go.Proofs.YtpgdnfgjbhdbpaaGreatDoor.UK
open Go Go.RowKit SL
set_option maxRecDepth 8000
set_option maxHeartbeats 4000000
set_option linter.unusedSimpArgs false
set_option linter.unusedVariables false
attribute [local irreducible] SL.CW SL.LW SL.DW Calls SL.Ret SL.RetG SL.beginQ SL.roundQ SL.rangeQ SL.inQ SL.RW SL.AnyW SL.thenQ SL.thenC SL.thenW SL.blkQ SL.finQ SL.ValP SL.NewP SL.SetP SL.CallP SL.Rd SL.Wr SL.Known
/-- May an operation be? -/
def okU (u : OpV) : Prop := (16 ≤ u.sd ∧ u.mp ≤ u.mf) ∧ (u.vg ≤ 20000 ∧ u.cg ≤ 20000 ∧ u.pg ≤ 20000 ∧ u.pv ≤ 20000 ∧ u.pp ≤ 20000) ∧ (u.ib.length ≤ 200 ∧ u.cb.length ≤ 200 ∧ u.db.length ≤ 200 ∧ u.gb.length ≤ 200) ∧
  (u.py = 0 → u.pv = 0 ∧ u.pp = 0 ∧ u.db.length = 0) ∧ (u.ib.length = 0 ∨ 8 ≤ u.ib.length ∧ adr u.ib ≠ 0)
instance (u : OpV) : Decidable (okU u) := by unfold okU; infer_instance
end Go.Proofs.YtpgdnfgjbhdbpaaGreatDoor.UK

/-
  Operations of accounts: which may be, by the document.
  Conditions: none.
-/
namespace Go.Proofs.YtpgdnfgjbhdbpaaGreatDoor.UK
open Go Go.RowKit SL
set_option maxRecDepth 8000
set_option maxHeartbeats 4000000
set_option linter.unusedSimpArgs false
set_option linter.unusedVariables false
attribute [local irreducible] SL.CW SL.LW SL.DW Calls SL.Ret SL.RetG SL.beginQ SL.roundQ SL.rangeQ SL.inQ SL.RW SL.AnyW SL.thenQ SL.thenC SL.thenW SL.blkQ SL.finQ SL.ValP SL.NewP SL.SetP SL.CallP SL.Rd SL.Wr SL.Known
end Go.Proofs.YtpgdnfgjbhdbpaaGreatDoor.UK

/-
  A machine: its block; gas spent.
  Conditions: none.
-/
namespace Go.Proofs.YtpgdnfgjbhdbpaaGreatDoor
open Go Go.RowKit SL
set_option maxRecDepth 8000
set_option maxHeartbeats 4000000
set_option linter.unusedSimpArgs false
set_option linter.unusedVariables false
attribute [local irreducible] SL.CW SL.LW SL.DW Calls SL.Ret SL.RetG SL.beginQ SL.roundQ SL.rangeQ SL.inQ SL.RW SL.AnyW SL.thenQ SL.thenC SL.thenW SL.blkQ SL.finQ SL.ValP SL.NewP SL.SetP SL.CallP SL.Rd SL.Wr SL.Known
/-- What a frame's cells say. -/
structure FrV where
  code : Value
  pc : Int
  stk : Value
  mem : Value
  gas : Nat
  self : Nat
  frm : Nat
  val : Nat
  inp : Value
  back : Value
  stat : Bool
def frc (f : FrV) : List Value := f.code :: .int .i64 f.pc :: f.stk :: f.mem :: .int .u64 (f.gas : Int) :: .int .u64 (f.self : Int) :: .int .u64 (f.frm : Int) :: ((wc f.val).toList ++ [f.inp, f.back, .bool f.stat])
/-- What a machine's cells say. -/
structure MaV where
  fr : FrV
  e0 : Nat
  e1 : Nat
  e2 : Nat
  e3 : Nat
  took : Value
  kind : Int
  op : Nat
  words : Value
  data : Value
def mcl (m : MaV) : List Value := frc m.fr ++ [.int .u64 (m.e0 : Int), .int .u64 (m.e1 : Int), .int .u64 (m.e2 : Int), .int .u64 (m.e3 : Int), m.took, .int .i64 m.kind, .int .u8 (m.op : Int), m.words, m.data]
def mca (m : MaV) : Array Value := (mcl m).toArray
abbrev maO (m : MaV) : Obj := .cells (mca m) 155 (0, 0)
def MaV.setGas (m : MaV) (g : Nat) : MaV := { m with fr := { m.fr with gas := g } }
def MaV.setSc (m : MaV) (s k : Value) : MaV := { m with fr := { m.fr with stk := s, mem := k } }
section rd
variable {P : Program} {T E : TypeId} {fr : Nat × Nat} {m : MaV}
theorem ma_rd4 [AgI P T false] : Rd P T (.cells (mca m) E fr) 4 (.int .u64 (m.fr.gas : Int)) := Rd.one rfl
theorem ma_rd3 [AgI P T false] : Rd P T (.cells (mca m) E fr) 3 m.fr.mem := Rd.one rfl
theorem ma_rd2 [AgI P T true] {z : Value} [InfoI P T 2 z] : Rd P T (.cells (mca m) E fr) 2 (.agg #[m.fr.stk, m.fr.mem]) := Rd.mid (cs := [m.fr.stk, m.fr.mem]) rfl rfl
theorem ma_wr4 {z : Value} {g : Nat} [InfoI P T 1 z] : Wr P T (.cells (mca m) E (0, 0)) 4 (.int .u64 (g : Int)) (.cells (mca (m.setGas g)) E (0, 0)) := Wr.cells (n := 1) (z := z) rfl rfl (by show 4 + 1 ≤ 23; omega) rfl
theorem ma_wr2 {z s k : Value} [InfoI P T 2 z] (hs : s.oneCell' = true) (hk : k.oneCell' = true) (hsc : s.cells = #[s]) (hkc : k.cells = #[k]) : Wr P T (.cells (mca m) E (0, 0)) 2 (.agg #[s, k]) (.cells (mca (m.setSc s k)) E (0, 0)) :=
  Wr.cells (n := 2) (z := z) rfl (by show (s.oneCell' && (k.oneCell' && true)) = true; rw [hs, hk]; rfl) (by show 2 + 2 ≤ 23; omega) rfl
end rd
attribute [local irreducible] SL.inP
def MaK (b : Nat) (m : MaV) (r : Option MaV) (rest : Fs) : Out := fun x fs' => match r with
  | some m' => x = .returned (.tuple #[]) ∧ fs' = (b, maO m') :: rest
  | none => x = .panicked failC ∧ fs' = (b, maO m) :: rest
def spendM (m : MaV) (l : List Nat) : Option MaV := if l.sum ≤ m.fr.gas then some (m.setGas (m.fr.gas - l.sum)) else none
theorem spend_calls (w0 : World) (S : List Nat) (b : Nat) (m : MaV) (l : List Nat) (hg : m.fr.gas < 18446744073709551616) (v : Value) (rest : Fs) (w : World) (hs : St w0 S ((b, maO m) :: rest) w) (hv : ∀ w', St w0 S ((b, maO m) :: rest) w' → RowAt w' 1 v l.length (ncs l)) :
    Calls Tryz.prog 77 #[.pointer (some ⟨b, 0, none⟩), v] w (fun x w' => ∃ fs', MaK b m (spendM m l) rest x fs' ∧ St w0 S fs' w') := by
  by_cases hle : l.sum ≤ m.fr.gas
  · have hSp : ∀ w', St w0 S ((b, maO m) :: rest) w' → Calls Tryz.prog 116 #[.int .u64 (m.fr.gas : Int), v] w' (Ret w' (.tuple #[.int .u64 ((m.fr.gas - l.sum : Nat) : Int), .bool true])) := fun w' hw => by
      have h := Spend_calls m.fr.gas l hg v w' (hv w' hw)
      rwa [spendV, if_pos hle] at h
    refine calls_inlineP (args := [_, _]) Tryz.func77 rfl Tryz.ntmps77 rfl ?_ hs
    (refine sRz ?_; refine vMz ?_; refine vNz ?_; refine vFz ?_; refine vFz ?_; refine ldz rfl .head ma_rd4 ?_; refine vMz ?_; apply LW.callE; rfl; rfl; infer_instance; exact .cons rfl (.cons rfl .nil); intro w _; exact hSp w (by assumption); refine vMz ?_; refine vEz ?_; refine vEz ?_; refine vAz ?_; refine vAz ?_; refine nSz ?_; refine vMz ?_; apply LW.callE; rfl; rfl; infer_instance; exact .cons rfl .nil; intro w _; exact need_true w; refine nNz ?_; refine CW.region ?_; refine vMz ?_; refine vMz ?_; refine vNz ?_; refine vFz ?_; refine vFz ?_; apply LW.store; rfl; rfl; apply SetAt.head; apply ma_wr4 (z := .int .u64 0); apply LW.nil)
    exact inPI (.inr rfl) .nil rfl .nil rfl (by unfold spendM; rw [if_pos hle]; exact ⟨rfl, rfl⟩)
  · have hSp : ∀ w', St w0 S ((b, maO m) :: rest) w' → Calls Tryz.prog 116 #[.int .u64 (m.fr.gas : Int), v] w' (Ret w' (.tuple #[.int .u64 0, .bool false])) := fun w' hw => by
      have h := Spend_calls m.fr.gas l hg v w' (hv w' hw)
      rwa [spendV, if_neg hle] at h
    refine calls_inlineP (args := [_, _]) Tryz.func77 rfl Tryz.ntmps77 rfl ?_ hs
    (refine sRz ?_; refine vMz ?_; refine vNz ?_; refine vFz ?_; refine vFz ?_; refine ldz rfl .head ma_rd4 ?_; refine vMz ?_; apply LW.callE; rfl; rfl; infer_instance; exact .cons rfl (.cons rfl .nil); intro w _; exact hSp w (by assumption); refine vMz ?_; refine vEz ?_; refine vEz ?_; refine vAz ?_; refine vAz ?_; refine nSz ?_; refine vMz ?_)
    refine LW.callP (K := NeedK ((b, maO m) :: rest)) rfl rfl inferInstance (by (exact .cons rfl .nil)) rfl (fun fs h => by cases h.1) (fun w' hst => need_false w0 S _ w' hst) ?_ ?_
    · rintro v fs' ⟨h, _⟩
      cases h
    · rintro ch fs' ⟨h, rfl⟩
      cases h
      refine thenP ?_
      exact inPP .nil (by unfold spendM; rw [if_neg hle]; exact ⟨rfl, rfl⟩)
end Go.Proofs.YtpgdnfgjbhdbpaaGreatDoor

/-
  Contracts of the library: strings that are built, bytes compared, digits.
  Conditions: none.
-/
namespace Go.Proofs.YtpgdnfgjbhdbpaaGreatDoor.SK
open Go Go.RowKit SL
set_option maxRecDepth 8000
set_option maxHeartbeats 4000000
set_option linter.unusedSimpArgs false
set_option linter.unusedVariables false
attribute [local irreducible] SL.CW SL.LW SL.DW Calls SL.Ret SL.RetG SL.beginQ SL.roundQ SL.rangeQ SL.inQ SL.RW SL.AnyW SL.thenQ SL.thenC SL.thenW SL.blkQ SL.finQ SL.ValP SL.NewP SL.SetP SL.CallP SL.Rd SL.Wr SL.Known
def bev (l : List UInt8) : Nat := l.foldl (fun n u => 256 * n + u.toNat) 0
theorem bev_snoc (l : List UInt8) (u : UInt8) : bev (l ++ [u]) = 256 * bev l + u.toNat := by simp [bev, List.foldl_append]
theorem bev_go (l : List UInt8) : ∀ n, l.foldl (fun n u => 256 * n + u.toNat) n < (n + 1) * 2 ^ (8 * l.length) := by
  induction l with
  | nil => intro n; simp
  | cons u l ih =>
    intro n
    have hu := u.toNat_lt
    rw [List.foldl_cons, List.length_cons, show 8 * (l.length + 1) = 8 + 8 * l.length by omega, Nat.pow_add, ← Nat.mul_assoc]
    exact Nat.lt_of_lt_of_le (ih _) (Nat.mul_le_mul_right _ (by omega))
theorem bev_lt (l : List UInt8) : bev l < 2 ^ (8 * l.length) := by
  have := bev_go l 0
  rwa [Nat.zero_add, Nat.one_mul] at this
def hexu (u : UInt8) : Option Nat := if 48 ≤ u.toNat ∧ u.toNat ≤ 57 then some (u.toNat - 48) else if 97 ≤ u.toNat ∧ u.toNat ≤ 102 then some (u.toNat - 87) else none
def hexi (c : Nat) : Int := match hexu (UInt8.ofNat c) with | some d => (d : Int) | none => -1
end Go.Proofs.YtpgdnfgjbhdbpaaGreatDoor.SK

/-
  Contracts of the sponge: digests in digits.
  Conditions: none.
-/
namespace Go.Proofs.YtpgdnfgjbhdbpaaGreatDoor.SK
open Go Go.RowKit SL
set_option maxRecDepth 8000
set_option maxHeartbeats 4000000
set_option linter.unusedSimpArgs false
set_option linter.unusedVariables false
attribute [local irreducible] SL.CW SL.LW SL.DW Calls SL.Ret SL.RetG SL.beginQ SL.roundQ SL.rangeQ SL.inQ SL.RW SL.AnyW SL.thenQ SL.thenC SL.thenW SL.blkQ SL.finQ SL.ValP SL.NewP SL.SetP SL.CallP SL.Rd SL.Wr SL.Known
structure TX where
  m : Nat
  p : Value
  v : Value
  seg : Fs
/-! ### The document's -/
end Go.Proofs.YtpgdnfgjbhdbpaaGreatDoor.SK

/-
  Contracts of the sponge: how digests stand.
  Conditions: none.
-/
namespace Go.Proofs.YtpgdnfgjbhdbpaaGreatDoor.SK
open Go Go.RowKit SL
set_option maxRecDepth 8000
set_option maxHeartbeats 4000000
set_option linter.unusedSimpArgs false
set_option linter.unusedVariables false
attribute [local irreducible] SL.CW SL.LW SL.DW Calls SL.Ret SL.RetG SL.beginQ SL.roundQ SL.rangeQ SL.inQ SL.RW SL.AnyW SL.thenQ SL.thenC SL.thenW SL.blkQ SL.finQ SL.ValP SL.NewP SL.SetP SL.CallP SL.Rd SL.Wr SL.Known
/-! ### The document's -/
end Go.Proofs.YtpgdnfgjbhdbpaaGreatDoor.SK

/-
  Contracts of the sponge: places, turns.
  Conditions: none.
-/
namespace Go.Proofs.YtpgdnfgjbhdbpaaGreatDoor.SK
open Go Go.RowKit SL
set_option maxRecDepth 8000
set_option maxHeartbeats 4000000
set_option linter.unusedSimpArgs false
set_option linter.unusedVariables false
attribute [local irreducible] SL.CW SL.LW SL.DW Calls SL.Ret SL.RetG SL.beginQ SL.roundQ SL.rangeQ SL.inQ SL.RW SL.AnyW SL.thenQ SL.thenC SL.thenW SL.blkQ SL.finQ SL.ValP SL.NewP SL.SetP SL.CallP SL.Rd SL.Wr SL.Known
theorem at_calls (x y : Nat) (hx : x < 1000) (hy : y < 1000) (w : World) : Calls Tryz.prog 165 #[.int .i64 (x : Int), .int .i64 (y : Int)] w (Ret w (.int .i64 ((5 * (y % 5) + x % 5 : Nat) : Int))) := by
  refine enter (args := [_, _]) _ [] [] Tryz.func165 rfl Tryz.ntmps165 rfl (by simp) .nil ?_
  (refine sRz ?_; refine vAz ?_; refine nSz ?_; refine vMz ?_; refine lvz (.remZL rfl rfl (by decide) (by omega)) ?_; refine lvz (.mulZK rfl rfl (by decide) (by omega)) ?_; refine vMz ?_; refine lvz (.remZL rfl rfl (by decide) (by omega)) ?_; refine lvz (.addZ rfl rfl (by omega)) ?_; refine vAz ?_; refine nNz ?_; refine CW.ret ?_)
  (apply finR; exact .inl rfl; rfl; rfl; rfl; apply ResL.cons; exact Res.tmp rfl; exact ResL.nil)
  rfl
def rotl (x n : Nat) : Nat := (x * 2 ^ n % 18446744073709551616) ||| (x / 2 ^ (64 - n))
theorem rot_calls (x n : Nat) (hx : x < 18446744073709551616) (hn : n < 64) (w : World) : Calls Tryz.prog 172 #[.int .u64 (x : Int), .int .i64 (n : Int)] w (Ret w (.int .u64 ((rotl x n : Nat) : Int))) := by
  have h63 : n &&& 63 = n := by rw [show (63 : Nat) = 2 ^ 6 - 1 from rfl, Nat.and_two_pow_sub_one_eq_mod]; exact Nat.mod_eq_of_lt hn
  refine enter (args := [_, _]) _ [] [] Tryz.func172 rfl Tryz.ntmps172 rfl (by simp) .nil ?_
  unfold rotl
  conv in (2 ^ n) => rw [← h63]
  conv in (64 - n) => rw [← h63]
  (refine sRz ?_; refine vAz ?_; refine nSz ?_; refine vMz ?_; refine lvz (.convN rfl (by omega) (by omega)) ?_; refine lvz (.andUL rfl rfl (by decide) (by omega) (by omega)) ?_; refine vAz ?_; refine nSz ?_; refine vMz ?_; refine vMz ?_; refine lvz (.shlU rfl rfl (by omega)) ?_; refine vMz ?_; refine vMz ?_; refine lvz (.subNK rfl rfl (by decide) (by omega) (by omega)) ?_; refine lvz (.shrU rfl rfl (by omega)) ?_; apply LW.v0; rfl; rfl; apply ValP.orU; rfl; rfl; omega; apply div64; omega; refine vAz ?_; refine nNz ?_; refine CW.ret ?_)
  (apply finR; exact .inl rfl; rfl; rfl; rfl; apply ResL.cons; exact Res.tmp rfl; exact ResL.nil)
  rfl
theorem turned_calls (x n : Nat) (hx : x < 18446744073709551616) (hn : n < 64) (w : World) : Calls Tryz.prog 166 #[.int .u64 (x : Int), .int .i64 (n : Int)] w (Ret w (.int .u64 ((rotl x n : Nat) : Int))) := by
  refine enter (args := [_, _]) _ [] [] Tryz.func166 rfl Tryz.ntmps166 rfl (by simp) .nil ?_
  (refine sRz ?_; refine vAz ?_; refine nSz ?_; refine vMz ?_; refine vMz ?_; apply LW.callE; rfl; rfl; infer_instance; exact .cons rfl (.cons rfl .nil); intro w _; exact rot_calls x n hx hn w; refine vAz ?_; refine nNz ?_; refine CW.ret ?_)
  (apply finR; exact .inl rfl; rfl; rfl; rfl; apply ResL.cons; exact Res.tmp rfl; exact ResL.nil)
  rfl
/-! ### Rows -/
def rowV (L : List Nat) (x y : Nat) : Nat := L.getD (5 * (y % 5) + x % 5) 0 ^^^ ((18446744073709551615 - L.getD (5 * (y % 5) + (x + 1) % 5) 0) &&& L.getD (5 * (y % 5) + (x + 2) % 5) 0)
def rowsF (L : List Nat) : Nat → List Nat
  | 0 => List.replicate 25 0
  | k + 1 => (rowsF L k).set (5 * (k / 5 % 5) + k % 5 % 5) (rowV L (k % 5) (k / 5))
theorem rowsF_len (L : List Nat) (k : Nat) : (rowsF L k).length = 25 := by
  induction k with
  | zero => simp [rowsF]
  | succ k ih => simp [rowsF, ih]
theorem rowsF_step (L : List Nat) (x y : Nat) (hx : x < 5) : rowsF L (5 * y + x + 1) = (rowsF L (5 * y + x)).set (5 * (y % 5) + x % 5) (rowV L x y) := by
  rw [rowsF, show (5 * y + x) / 5 = y by omega, show (5 * y + x) % 5 = x by omega]
theorem places_calls (w : World) : Calls Tryz.prog 164 #[] w (Ret w (.func (.func 171) #[] #[])) := by
  refine enter (args := []) _ [] [] Tryz.func164 rfl Tryz.ntmps164 rfl (by simp) .nil ?_
  (refine sRz ?_; refine vAz ?_; refine nSz ?_; refine vAz ?_; refine nNz ?_; refine CW.ret ?_)
  (apply finR; exact .inl rfl; rfl; rfl; rfl; apply ResL.cons; exact Res.tmp rfl; exact ResL.nil)
  rfl
theorem Rows_calls (L : List Nat) (hL : L.length = 25) (hb : ∀ i, L.getD i 0 < 18446744073709551616) (w : World) : Calls Tryz.prog 154 #[.agg (nca L)] w (Ret w (.agg (nca (rowsF L 25)))) := by
  refine enter (args := [_]) _ [] [] Tryz.func154 rfl Tryz.ntmps154 rfl (by simp) .nil ?_
  (refine sRz ?_; apply LW.boxA; rfl; rfl; intro _; apply LW.allocA; rfl; intro _; refine nNz ?_; refine CW.seq ?_; refine sRz ?_; apply LW.callE; rfl; rfl; infer_instance; exact ArgsOk.nil; intro w _; exact places_calls w; refine nNz ?_; refine CW.block ?_)
  rename_i b1 b2
  apply CW.rangeFunc
  rfl
  rfl
  infer_instance
  rfl
  exact Tryz.func171
  rfl
  exact Tryz.ntmps171
  rfl
  rfl
  intro l r rec hrec
  (refine CW.scope ?_; refine CW.seq ?_; refine CW.label ?_; refine thenN ?_; refine sRz ?_; refine vMz ?_; refine nNz ?_; refine CW.block ?_)
  refine CW.loop (fun y : Nat => ([(4, .int .i64 (y : Int)), (0, .func (.yield l) #[] #[])],
    [(l, rdy rec), (r, .deferred (some [])), (b2, .cells (nca (rowsF L (5 * y))) 140 (0, 0)), (b1, .cells (nca L) 140 (0, 0))]))
    (fun y => y ≤ 5) (fun y => 5 - y) 0 (Nat.zero_le _) ⟨rfl, rfl, trivial⟩ (List.Sublist.refl _) ?_
  intro y hy
  dsimp only at hy ⊢
  rcases Nat.lt_or_ge y 5 with hy5 | hy5
  · (refine sRz ?_; refine lvz (.lssT rfl rfl (by omega)) ?_; refine nNz ?_; refine CW.seq ?_; refine cTz ?_; refine CW.skip ?_; refine thenN ?_; refine CW.seq ?_; refine CW.block ?_; refine sRz ?_; refine vMz ?_; refine vAz ?_; refine nSz ?_; refine vMz ?_; refine nNz ?_; refine CW.block ?_)
    refine CW.loop (fun x : Nat => ([(7, .int .i64 (x : Int)), (2, .int .i64 (y : Int)), (4, .int .i64 (y : Int)), (0, .func (.yield l) #[] #[])],
      [(l, rdy rec), (r, .deferred (some [])), (b2, .cells (nca (rowsF L (5 * y + x))) 140 (0, 0)), (b1, .cells (nca L) 140 (0, 0))]))
      (fun x => x ≤ 5) (fun x => 5 - x) 0 (Nat.zero_le _) ⟨rfl, rfl, rfl, rfl, trivial⟩ (List.Sublist.refl _) ?_
    intro x hx
    dsimp only at hx ⊢
    rcases Nat.lt_or_ge x 5 with hx5 | hx5
    · have hlen := rowsF_len L (5 * y + x)
      (refine sRz ?_; refine lvz (.lssT rfl rfl (by omega)) ?_; refine nNz ?_; refine CW.seq ?_; refine cTz ?_; refine CW.skip ?_; refine thenN ?_; refine CW.seq ?_; refine CW.block ?_; refine sRz ?_; refine vMz ?_; refine vAz ?_; refine nSz ?_; refine vMz ?_; refine vMz ?_; refine vMz ?_)
      apply LW.yield
      rfl
      rfl
      (exact .cons rfl (.cons rfl .nil))
      exact hrec
      (apply FsAt.head)
      rfl
      rfl
      (refine sRz ?_; refine vAz ?_; refine nNz ?_; refine CW.region ?_; refine vAz ?_; apply LW.nil; apply beginI; apply SetAt.head; refine CW.block ?_; apply CW.pre; refine AnyW.any 22 mixed (by decide +kernel) ?_; (try simp only [tsOf_cons, tsOf_nil, tsOf_app]); refine dvz (.move rfl) ?_; refine dvz (.move rfl) ?_; apply DW.callE; rfl; rfl; rfl; exact WantT.none; rfl; infer_instance; exact .cons rfl (.cons rfl .nil); rfl; exact ReadAll.nil; intro w _ _; refine at_calls _ _ ?_ ?_ w; omega; omega; refine dvz (.move rfl) ?_; refine dvz (.move rfl) ?_; apply DW.callE; rfl; rfl; rfl; exact WantT.none; rfl; infer_instance; exact .cons rfl (.cons rfl .nil); rfl; exact ReadAll.nil; intro w _ _; refine at_calls _ _ ?_ ?_ w; omega; omega; refine dvz (.indexAddrA rfl rfl rfl (by omega)) ?_; apply DW.loadO; rfl; rfl; rfl; exact WantT.none; rfl; apply TRead.tail; apply TRead.tail; apply TRead.tail; apply TRead.head; exact ancB_nil; apply rd_nca; omega; refine dvz (.move rfl) ?_; refine dvz (.addZL rfl rfl (by decide) (by omega)) ?_; refine dvz (.move rfl) ?_; apply DW.callE; rfl; rfl; rfl; exact WantT.none; rfl; infer_instance; exact .cons rfl (.cons rfl .nil); rfl; exact ReadAll.nil; intro w _ _; refine at_calls _ _ ?_ ?_ w; omega; omega; refine dvz (.indexAddrA rfl rfl rfl (by omega)) ?_; apply DW.loadO; rfl; rfl; rfl; exact WantT.none; rfl; apply TRead.tail; apply TRead.tail; apply TRead.tail; apply TRead.head; exact ancB_nil; apply rd_nca; omega; apply DW.v0; rfl; rfl; rfl; exact WantT.none; rfl; apply ValP.notU; rfl; exact hb _; refine dvz (.move rfl) ?_; refine dvz (.addZL rfl rfl (by decide) (by omega)) ?_; refine dvz (.move rfl) ?_; apply DW.callE; rfl; rfl; rfl; exact WantT.none; rfl; infer_instance; exact .cons rfl (.cons rfl .nil); rfl; exact ReadAll.nil; intro w _ _; refine at_calls _ _ ?_ ?_ w; omega; omega; refine dvz (.indexAddrA rfl rfl rfl (by omega)) ?_; apply DW.loadO; rfl; rfl; rfl; exact WantT.none; rfl; apply TRead.tail; apply TRead.tail; apply TRead.tail; apply TRead.head; exact ancB_nil; apply rd_nca; omega; apply DW.v0; rfl; rfl; rfl; exact WantT.none; rfl; apply ValP.andU; rfl; rfl; omega; exact hb _; apply DW.nil; simp only [fsOf_cons, fsOf_nil, fsOf_app, fsOf_tsOf, fsOf_new]; apply LW.v0; rfl; rfl; apply ValP.xorU; rfl; rfl; exact hb _; apply and64; omega; refine lvz (.indexAddrA rfl rfl rfl (by omega)) ?_; apply LW.store; rfl; rfl; apply SetAt.tail; apply SetAt.tail; apply SetAt.head; apply wr_nca; omega; apply LW.nil; refine blkN ?_; apply roundN; apply SetAt.head; refine lvz (.notT rfl (by with_reducible rfl)) ?_; refine nNz ?_; refine cFz ?_; refine CW.skip ?_; refine blkN ?_; refine thenN ?_; refine CW.region ?_; refine lvz (.addZL rfl rfl (by decide) (by omega)) ?_; refine vMz ?_; apply LW.nil)
      refine thenX ⟨rfl, x + 1, hx5, by omega, ⟨rfl, rfl, rfl, rfl, trivial⟩, ?_⟩
      rw [← Nat.add_assoc, rowsF_step L x y hx5]
      exact List.Sublist.refl _
    · obtain rfl : x = 5 := by omega
      (refine sRz ?_; refine lvz (.lssF rfl rfl (by omega)) ?_; refine nNz ?_; refine CW.seq ?_; refine cFz ?_; refine CW.exit ?_; refine thenE ?_; refine thenE ?_; refine blkE rfl ?_; refine blkN ?_; refine thenN ?_; refine CW.region ?_; refine lvz (.addZL rfl rfl (by decide) (by omega)) ?_; refine vMz ?_; apply LW.nil)
      refine thenX ⟨rfl, y + 1, hy5, by omega, ⟨rfl, rfl, trivial⟩, ?_⟩
      rw [show 5 * (y + 1) = 5 * y + 5 by omega]
      exact List.Sublist.refl _
  · obtain rfl : y = 5 := by omega
    have hlen := rowsF_len L 25
    (refine sRz ?_; refine lvz (.lssF rfl rfl (by omega)) ?_; refine nNz ?_; refine CW.seq ?_; refine cFz ?_; refine CW.exit ?_; refine thenE ?_; refine thenE ?_; refine blkE rfl ?_; refine scopeQ.n ?_)
    apply rangeN
    (exact .inr rfl)
    (exact Shut.nil)
    (apply SetAt.head)
    (refine blkN ?_; refine thenM ?_; refine sRz ?_; apply LW.load; rfl; rfl; apply Known.at; apply FsAt.tail; apply FsAt.tail; apply FsAt.head; apply rd_ncaW; assumption; apply LW.store; rfl; rfl; apply SetAt.tail; apply SetAt.tail; apply SetAt.head; apply wr_ncaW; assumption; assumption; refine nNz ?_; refine CW.ret ?_)
    (apply finRM; exact .inl rfl; apply Shut.cons; apply SetAt.tail; apply SetAt.head; exact Shut.nil; rfl; rfl; apply ResL.cons; apply Res.cell; rfl; apply Known.at; apply FsAt.tail; apply FsAt.tail; apply FsAt.head; apply rd_ncaW; assumption; exact ResL.nil)
    rfl
end Go.Proofs.YtpgdnfgjbhdbpaaGreatDoor.SK

/-
  Contracts of the sponge: lanes mixed.
  Conditions: none.
-/
namespace Go.Proofs.YtpgdnfgjbhdbpaaGreatDoor.SK
open Go Go.RowKit SL
set_option maxRecDepth 8000
set_option maxHeartbeats 4000000
set_option linter.unusedSimpArgs false
set_option linter.unusedVariables false
attribute [local irreducible] SL.CW SL.LW SL.DW Calls SL.Ret SL.RetG SL.beginQ SL.roundQ SL.rangeQ SL.inQ SL.RW SL.AnyW SL.thenQ SL.thenC SL.thenW SL.blkQ SL.finQ SL.ValP SL.NewP SL.SetP SL.CallP SL.Rd SL.Wr SL.Known
/-! ### The tables that are laid -/
def turnL : List Nat := [0, 1, 62, 28, 27, 36, 44, 6, 55, 20, 3, 10, 43, 25, 39, 41, 45, 15, 21, 8, 18, 2, 61, 56, 14]
def numL : List Nat := [1, 32898, 9223372036854808714, 9223372039002292224, 32907, 2147483649, 9223372039002292353, 9223372036854808585, 138, 136, 2147516425, 2147483658, 2147516555, 9223372036854775947, 9223372036854808713, 9223372036854808579, 9223372036854808578, 9223372036854775936, 32778, 9223372039002259466, 9223372039002292353, 9223372036854808704, 2147483649, 9223372039002292232]
def ica (L : List Nat) : Array Value := (ics L).toArray
theorem ics_map (l : List Nat) : ics l = l.map fun (x : Nat) => Value.int .i64 (x : Int) := by
  induction l with
  | nil => rfl
  | cons a l ih => simp [ics] at *; exact ih
theorem rd_ica {P : Program} {T E : TypeId} {fr : Nat × Nat} {L : List Nat} {i : Nat} [AgI P T false] (hi : i < L.length) : Rd P T (.cells (ica L) E fr) (0 + i * 1) (.int .i64 ((L.getD i 0 : Nat) : Int)) :=
  Rd.one (by rw [Nat.zero_add, Nat.mul_one]; simp [ica, ics_map, hi, List.getD_eq_getElem?_getD])
def NumAt (w : World) : Prop := ∃ E fr, w.heap[1]? = some (.cells (nca numL) E fr)
def TurnAt (w : World) : Prop := ∃ E fr, w.heap[2]? = some (.cells (ica turnL) E fr)
theorem NumAt.st {w w' : World} {fs : Fs} (h : NumAt w) (hs : St w [] fs w') : NumAt w' := by
  obtain ⟨E, fr, h⟩ := h
  exact ⟨E, fr, by rw [hs.bel.block _ (Array.getElem?_eq_some_iff.1 h).1 (by simp)]; exact h⟩
theorem TurnAt.st {w w' : World} {fs : Fs} (h : TurnAt w) (hs : St w [] fs w') : TurnAt w' := by
  obtain ⟨E, fr, h⟩ := h
  exact ⟨E, fr, by rw [hs.bel.block _ (Array.getElem?_eq_some_iff.1 h).1 (by simp)]; exact h⟩
theorem turnL_lt : ∀ i, turnL.getD i 0 < 64 := fun i => by
  rcases Nat.lt_or_ge i 25 with h | h
  · exact (by decide : ∀ i, i < 25 → turnL.getD i 0 < 64) i h
  · rw [List.getD_eq_getElem?_getD, List.getElem?_eq_none (by simpa [turnL] using h)]; decide
/-! ### Mix -/
theorem getD_set_lt {L : List Nat} {N i x : Nat} (h : ∀ j, L.getD j 0 < N) (hx : x < N) : ∀ j, (L.set i x).getD j 0 < N := fun j => by
  have hj := h j
  rw [List.getD_eq_getElem?_getD] at hj ⊢
  rw [List.getElem?_set]
  split
  · split
    · exact hx
    · exact Nat.lt_of_le_of_lt (Nat.zero_le _) hx
  · exact hj
theorem xor_lt {a b : Nat} (ha : a < 18446744073709551616) (hb : b < 18446744073709551616) : a ^^^ b < 18446744073709551616 := Nat.xor_lt_two_pow (n := 64) ha hb
theorem rotl_lt {x n : Nat} (hx : x < 18446744073709551616) : rotl x n < 18446744073709551616 := Nat.or_lt_two_pow (n := 64) (Nat.mod_lt _ (by decide)) (Nat.lt_of_le_of_lt (Nat.div_le_self _ _) hx)
def cF (L : List Nat) : Nat → List Nat
  | 0 => List.replicate 5 0
  | k + 1 => (cF L k).set (k % 5) ((cF L k).getD (k % 5) 0 ^^^ L.getD (5 * (k / 5 % 5) + k % 5 % 5) 0)
theorem cF_len (L : List Nat) (k : Nat) : (cF L k).length = 5 := by
  induction k with
  | zero => simp [cF]
  | succ k ih => simp [cF, ih]
theorem rep_lt (n : Nat) : ∀ i, (List.replicate n 0).getD i 0 < 18446744073709551616 := fun i => by
  rw [List.getD_eq_getElem?_getD, List.getElem?_replicate]; split <;> decide
theorem cF_lt (L : List Nat) (hb : ∀ i, L.getD i 0 < 18446744073709551616) (k : Nat) : ∀ i, (cF L k).getD i 0 < 18446744073709551616 := by
  induction k with
  | zero => exact rep_lt 5
  | succ k ih => exact getD_set_lt ih (xor_lt (ih _) (hb _))
theorem cF_step (L : List Nat) (x y : Nat) (hx : x < 5) : cF L (5 * y + x + 1) = (cF L (5 * y + x)).set x ((cF L (5 * y + x)).getD x 0 ^^^ L.getD (5 * (y % 5) + x % 5) 0) := by
  rw [cF, show (5 * y + x) / 5 = y by omega, show (5 * y + x) % 5 = x by omega]
def mixV (L C : List Nat) (x y : Nat) : Nat := rotl (L.getD (5 * (y % 5) + x % 5) 0 ^^^ (C.getD ((x + 5 - 1) % 5) 0 ^^^ rotl (C.getD ((x + 1) % 5) 0) 1)) (turnL.getD (5 * (y % 5) + x % 5) 0)
def mixF (L C : List Nat) : Nat → List Nat
  | 0 => List.replicate 25 0
  | k + 1 => (mixF L C k).set (5 * ((2 * (k % 5) + 3 * (k / 5)) % 5) + k / 5 % 5) (mixV L C (k % 5) (k / 5))
theorem mixF_len (L C : List Nat) (k : Nat) : (mixF L C k).length = 25 := by
  induction k with
  | zero => simp [mixF]
  | succ k ih => simp [mixF, ih]
theorem mixV_lt (L C : List Nat) (hb : ∀ i, L.getD i 0 < 18446744073709551616) (hc : ∀ i, C.getD i 0 < 18446744073709551616) (x y : Nat) : mixV L C x y < 18446744073709551616 := rotl_lt (xor_lt (hb _) (xor_lt (hc _) (rotl_lt (hc _))))
theorem mixF_lt (L C : List Nat) (hb : ∀ i, L.getD i 0 < 18446744073709551616) (hc : ∀ i, C.getD i 0 < 18446744073709551616) (k : Nat) : ∀ i, (mixF L C k).getD i 0 < 18446744073709551616 := by
  induction k with
  | zero => exact rep_lt 25
  | succ k ih => exact getD_set_lt ih (mixV_lt L C hb hc _ _)
theorem mixF_step (L C : List Nat) (x y : Nat) (hx : x < 5) : mixF L C (5 * y + x + 1) = (mixF L C (5 * y + x)).set (5 * ((2 * x + 3 * y) % 5) + y % 5) (mixV L C x y) := by
  rw [mixF, show (5 * y + x) / 5 = y by omega, show (5 * y + x) % 5 = x by omega]
def mixL (L : List Nat) : List Nat := mixF L (cF L 25) 25
theorem rd_turn {T E : TypeId} {fr : Nat × Nat} {i : Nat} [AgI Tryz.prog T false] (hi : i < 25) : Rd Tryz.prog T (.cells (ica turnL) E fr) (0 + i * 1) (.int .i64 ((turnL.getD i 0 : Nat) : Int)) := rd_ica (L := turnL) hi
theorem cF_zero (L : List Nat) : cF L 0 = List.replicate 5 0 := rfl
theorem mixF_zero (L C : List Nat) : mixF L C 0 = List.replicate 25 0 := rfl
attribute [local irreducible] turnL cF mixF
theorem Mix_calls (L : List Nat) (hL : L.length = 25) (hb : ∀ i, L.getD i 0 < 18446744073709551616) (w : World) (hT : TurnAt w) : Calls Tryz.prog 155 #[.agg (nca L)] w (Ret w (.agg (nca (mixL L)))) := by
  obtain ⟨ET, frT, hT⟩ := hT
  have hcb := cF_lt L hb
  obtain ⟨C, hC⟩ : ∃ C, C = cF L 25 := ⟨_, rfl⟩
  have hCb : ∀ i, C.getD i 0 < 18446744073709551616 := fun i => by rw [hC]; exact hcb 25 i
  have hCl : C.length = 5 := by rw [hC]; exact cF_len L 25
  have hr1 : ∀ i, rotl (C.getD i 0) 1 < 18446744073709551616 := fun i => rotl_lt (hCb i)
  have hk1 : ∀ i w, Calls Tryz.prog 166 #[.int .u64 ((C.getD i 0 : Nat) : Int), .int .i64 1] w (Ret w (.int .u64 ((rotl (C.getD i 0) 1 : Nat) : Int))) := fun i w => turned_calls _ 1 (hCb i) (by decide) w
  have hk2 : ∀ v i w, v < 18446744073709551616 → Calls Tryz.prog 166 #[.int .u64 ((v : Nat) : Int), .int .i64 ((turnL.getD i 0 : Nat) : Int)] w (Ret w (.int .u64 ((rotl v (turnL.getD i 0) : Nat) : Int))) := fun v i w hv => turned_calls v _ hv (turnL_lt i) w
  have hd : (0 : Nat) < 18446744073709551616 := by decide
  refine enter (args := [_]) _ [] [] Tryz.func155 rfl Tryz.ntmps155 rfl (by simp) .nil ?_
  (refine sRz ?_; apply LW.boxA; rfl; rfl; intro _; apply LW.allocA; rfl; intro _; refine nSz ?_; apply LW.allocA; rfl; intro _; refine nNz ?_; refine CW.seq ?_; refine sRz ?_; apply LW.callE; rfl; rfl; infer_instance; exact ArgsOk.nil; intro w _; exact places_calls w; refine nNz ?_; refine CW.block ?_)
  rename_i b1 b2 b3
  apply CW.rangeFunc
  rfl
  rfl
  infer_instance
  rfl
  exact Tryz.func171
  rfl
  exact Tryz.ntmps171
  rfl
  rfl
  intro l r rec hrec
  (refine CW.scope ?_; refine CW.seq ?_; refine CW.label ?_; refine thenN ?_; refine sRz ?_; refine vMz ?_; refine nNz ?_; refine CW.block ?_)
  refine CW.loop (fun y : Nat => ([(4, .int .i64 (y : Int)), (0, .func (.yield l) #[] #[])],
    [(l, rdy rec), (r, .deferred (some [])), (b3, .cells (nca (cF L (5 * y))) 197 (0, 0)), (b2, .cells (nca (List.replicate 25 0)) 140 (0, 0)), (b1, .cells (nca L) 140 (0, 0))]))
    (fun y => y ≤ 5) (fun y => 5 - y) 0 (Nat.zero_le _) ⟨rfl, rfl, trivial⟩ (by dsimp only; rw [Nat.mul_zero, cF_zero]; exact List.Sublist.refl _) ?_
  intro y hy
  dsimp only at hy ⊢
  rcases Nat.lt_or_ge y 5 with hy5 | hy5
  · (refine sRz ?_; refine lvz (.lssT rfl rfl (by omega)) ?_; refine nNz ?_; refine CW.seq ?_; refine cTz ?_; refine CW.skip ?_; refine thenN ?_; refine CW.seq ?_; refine CW.block ?_; refine sRz ?_; refine vMz ?_; refine vAz ?_; refine nSz ?_; refine vMz ?_; refine nNz ?_; refine CW.block ?_)
    refine CW.loop (fun x : Nat => ([(7, .int .i64 (x : Int)), (2, .int .i64 (y : Int)), (4, .int .i64 (y : Int)), (0, .func (.yield l) #[] #[])],
      [(l, rdy rec), (r, .deferred (some [])), (b3, .cells (nca (cF L (5 * y + x))) 197 (0, 0)), (b2, .cells (nca (List.replicate 25 0)) 140 (0, 0)), (b1, .cells (nca L) 140 (0, 0))]))
      (fun x => x ≤ 5) (fun x => 5 - x) 0 (Nat.zero_le _) ⟨rfl, rfl, rfl, rfl, trivial⟩ (List.Sublist.refl _) ?_
    intro x hx
    dsimp only at hx ⊢
    rcases Nat.lt_or_ge x 5 with hx5 | hx5
    · have hlen := cF_len L (5 * y + x)
      (refine sRz ?_; refine lvz (.lssT rfl rfl (by omega)) ?_; refine nNz ?_; refine CW.seq ?_; refine cTz ?_; refine CW.skip ?_; refine thenN ?_; refine CW.seq ?_; refine CW.block ?_; refine sRz ?_; refine vMz ?_; refine vAz ?_; refine nSz ?_; refine vMz ?_; refine vMz ?_; refine vMz ?_)
      apply LW.yield
      rfl
      rfl
      (exact .cons rfl (.cons rfl .nil))
      exact hrec
      (apply FsAt.head)
      rfl
      rfl
      (refine sRz ?_; refine vAz ?_; refine nNz ?_; refine CW.region ?_; refine vAz ?_; apply LW.nil; apply beginI; apply SetAt.head; refine CW.block ?_; apply CW.pre; refine AnyW.any 8 mixed (by decide +kernel) ?_; (try simp only [tsOf_cons, tsOf_nil, tsOf_app]); refine dvz (.move rfl) ?_; refine dvz (.indexAddrA rfl rfl rfl (by omega)) ?_; apply DW.loadO; rfl; rfl; rfl; exact WantT.none; rfl; apply TRead.tail; apply TRead.tail; apply TRead.head; exact ancB_nil; apply rd_nca; omega; refine dvz (.move rfl) ?_; refine dvz (.move rfl) ?_; apply DW.callE; rfl; rfl; rfl; exact WantT.none; rfl; infer_instance; exact .cons rfl (.cons rfl .nil); rfl; exact ReadAll.nil; intro w _ _; refine at_calls _ _ ?_ ?_ w; omega; omega; refine dvz (.indexAddrA rfl rfl rfl (by omega)) ?_; apply DW.loadO; rfl; rfl; rfl; exact WantT.none; rfl; apply TRead.tail; apply TRead.tail; apply TRead.tail; apply TRead.tail; apply TRead.head; exact ancB_nil; apply rd_nca; omega; apply DW.nil; simp only [fsOf_cons, fsOf_nil, fsOf_app, fsOf_tsOf, fsOf_new]; apply LW.v0; rfl; rfl; apply ValP.xorU; rfl; rfl; exact hcb _ _; exact hb _; refine lvz (.indexAddrA rfl rfl rfl (by omega)) ?_; apply LW.store; rfl; rfl; apply SetAt.tail; apply SetAt.tail; apply SetAt.head; apply wr_nca; omega; apply LW.nil; refine blkN ?_; apply roundN; apply SetAt.head; refine lvz (.notT rfl (by with_reducible rfl)) ?_; refine nNz ?_; refine cFz ?_; refine CW.skip ?_; refine blkN ?_; refine thenN ?_; refine CW.region ?_; refine lvz (.addZL rfl rfl (by decide) (by omega)) ?_; refine vMz ?_; apply LW.nil)
      refine thenX ⟨rfl, x + 1, hx5, by omega, ⟨rfl, rfl, rfl, rfl, trivial⟩, ?_⟩
      rw [← Nat.add_assoc, cF_step L x y hx5]
      exact List.Sublist.refl _
    · obtain rfl : x = 5 := by omega
      (refine sRz ?_; refine lvz (.lssF rfl rfl (by omega)) ?_; refine nNz ?_; refine CW.seq ?_; refine cFz ?_; refine CW.exit ?_; refine thenE ?_; refine thenE ?_; refine blkE rfl ?_; refine blkN ?_; refine thenN ?_; refine CW.region ?_; refine lvz (.addZL rfl rfl (by decide) (by omega)) ?_; refine vMz ?_; apply LW.nil)
      refine thenX ⟨rfl, y + 1, hy5, by omega, ⟨rfl, rfl, trivial⟩, ?_⟩
      rw [show 5 * (y + 1) = 5 * y + 5 by omega]
      exact List.Sublist.refl _
  · obtain rfl : y = 5 := by omega
    (refine sRz ?_; refine lvz (.lssF rfl rfl (by omega)) ?_; refine nNz ?_; refine CW.seq ?_; refine cFz ?_; refine CW.exit ?_; refine thenE ?_; refine thenE ?_; refine blkE rfl ?_; refine scopeQ.n ?_)
    apply rangeN
    (exact .inr rfl)
    (exact Shut.nil)
    (apply SetAt.head)
    (refine blkN ?_; refine thenM ?_; refine CW.seq ?_; refine sRz ?_; apply LW.callE; rfl; rfl; infer_instance; exact ArgsOk.nil; intro w _; exact places_calls w; refine nNz ?_; refine CW.block ?_)
    rw [show 5 * 5 = 25 from rfl, ← hC]
    apply CW.rangeFunc
    rfl
    rfl
    infer_instance
    rfl
    exact Tryz.func171
    rfl
    exact Tryz.ntmps171
    rfl
    rfl
    intro l2 r2 rec2 hrec2
    (refine CW.scope ?_; refine CW.seq ?_; refine CW.label ?_; refine thenN ?_; refine sRz ?_; refine vMz ?_; refine nNz ?_; refine CW.block ?_)
    refine CW.loop (fun y : Nat => ([(4, .int .i64 (y : Int)), (0, .func (.yield l2) #[] #[])],
      [(l2, rdy rec2), (r2, .deferred (some [])), (r, .deferred (some [])), (b3, .cells (nca C) 197 (0, 0)), (b2, .cells (nca (mixF L C (5 * y))) 140 (0, 0)), (b1, .cells (nca L) 140 (0, 0))]))
      (fun y => y ≤ 5) (fun y => 5 - y) 0 (Nat.zero_le _) ⟨rfl, rfl, trivial⟩ ?_ ?_
    · dsimp only
      rw [Nat.mul_zero, mixF_zero]
      (apply List.Sublist.cons_cons; apply List.Sublist.cons_cons; apply List.Sublist.cons; exact List.Sublist.refl _)
    intro y hy
    dsimp only at hy ⊢
    rcases Nat.lt_or_ge y 5 with hy5 | hy5
    · (refine sRz ?_; refine lvz (.lssT rfl rfl (by omega)) ?_; refine nNz ?_; refine CW.seq ?_; refine cTz ?_; refine CW.skip ?_; refine thenN ?_; refine CW.seq ?_; refine CW.block ?_; refine sRz ?_; refine vMz ?_; refine vAz ?_; refine nSz ?_; refine vMz ?_; refine nNz ?_; refine CW.block ?_)
      refine CW.loop (fun x : Nat => ([(7, .int .i64 (x : Int)), (2, .int .i64 (y : Int)), (4, .int .i64 (y : Int)), (0, .func (.yield l2) #[] #[])],
        [(l2, rdy rec2), (r2, .deferred (some [])), (r, .deferred (some [])), (b3, .cells (nca C) 197 (0, 0)), (b2, .cells (nca (mixF L C (5 * y + x))) 140 (0, 0)), (b1, .cells (nca L) 140 (0, 0))]))
        (fun x => x ≤ 5) (fun x => 5 - x) 0 (Nat.zero_le _) ⟨rfl, rfl, rfl, rfl, trivial⟩ (List.Sublist.refl _) ?_
      intro x hx
      dsimp only at hx ⊢
      rcases Nat.lt_or_ge x 5 with hx5 | hx5
      · have hlen := mixF_len L C (5 * y + x)
        have hstep := mixF_step L C x y hx5
        (refine sRz ?_; refine lvz (.lssT rfl rfl (by omega)) ?_; refine nNz ?_; refine CW.seq ?_; refine cTz ?_; refine CW.skip ?_; refine thenN ?_; refine CW.seq ?_; refine CW.block ?_; refine sRz ?_; refine vMz ?_; refine vAz ?_; refine nSz ?_; refine vMz ?_; refine vMz ?_; refine vMz ?_)
        apply LW.yield
        rfl
        rfl
        (exact .cons rfl (.cons rfl .nil))
        exact hrec2
        (apply FsAt.head)
        rfl
        rfl
        (refine sRz ?_; refine vAz ?_; refine nNz ?_; refine CW.region ?_; refine vAz ?_; apply LW.nil; apply beginI; apply SetAt.head; refine CW.block ?_; refine CW.seq ?_; apply CW.pre; refine AnyW.any 12 mixed (by decide +kernel) ?_; (try simp only [tsOf_cons, tsOf_nil, tsOf_app]); refine dvz (.move rfl) ?_; refine dvz (.addZL rfl rfl (by decide) (by omega)) ?_; refine dvz (.subZL rfl rfl (by decide) (by omega) (by omega)) ?_; refine dvz (.remZL rfl rfl (by decide) (by omega)) ?_; refine dvz (.indexAddrA rfl rfl rfl (by omega)) ?_; apply DW.loadO; rfl; rfl; rfl; exact WantT.none; rfl; apply TRead.tail; apply TRead.tail; apply TRead.tail; apply TRead.head; exact ancB_nil; apply rd_nca; omega; refine dvz (.move rfl) ?_; refine dvz (.addZL rfl rfl (by decide) (by omega)) ?_; refine dvz (.remZL rfl rfl (by decide) (by omega)) ?_; refine dvz (.indexAddrA rfl rfl rfl (by omega)) ?_; apply DW.loadO; rfl; rfl; rfl; exact WantT.none; rfl; apply TRead.tail; apply TRead.tail; apply TRead.tail; apply TRead.head; exact ancB_nil; apply rd_nca; omega; apply DW.callE; rfl; rfl; rfl; exact WantT.none; rfl; infer_instance; exact .cons rfl (.cons rfl .nil); rfl; exact ReadAll.nil; intro w _ _; exact hk1 _ w; apply DW.nil; simp only [fsOf_cons, fsOf_nil, fsOf_app, fsOf_tsOf, fsOf_new]; apply LW.v0; rfl; rfl; apply ValP.xorU; rfl; rfl; exact hCb _; exact hr1 _; refine vAz ?_; refine nNz ?_; apply CW.pre; refine AnyW.any 19 mixed (by decide +kernel) ?_; (try simp only [tsOf_cons, tsOf_nil, tsOf_app]); refine dvz (.move rfl) ?_; refine dvz (.move rfl) ?_; refine dvz (.mulZK rfl rfl (by decide) (by omega)) ?_; refine dvz (.move rfl) ?_; refine dvz (.mulZK rfl rfl (by decide) (by omega)) ?_; refine dvz (.addZ rfl rfl (by omega)) ?_; apply DW.callE; rfl; rfl; rfl; exact WantT.none; rfl; infer_instance; exact .cons rfl (.cons rfl .nil); rfl; exact ReadAll.nil; intro w _ _; refine at_calls _ _ ?_ ?_ w; omega; omega; refine dvz (.move rfl) ?_; refine dvz (.move rfl) ?_; apply DW.callE; rfl; rfl; rfl; exact WantT.none; rfl; infer_instance; exact .cons rfl (.cons rfl .nil); rfl; exact ReadAll.nil; intro w _ _; refine at_calls _ _ ?_ ?_ w; omega; omega; refine dvz (.indexAddrA rfl rfl rfl (by omega)) ?_; apply DW.loadO; rfl; rfl; rfl; exact WantT.none; rfl; apply TRead.tail; apply TRead.tail; apply TRead.tail; apply TRead.tail; apply TRead.tail; apply TRead.head; exact ancB_nil; apply rd_nca; omega; refine dvz (.move rfl) ?_; apply DW.v0; rfl; rfl; rfl; exact WantT.none; rfl; apply ValP.xorU; rfl; rfl; exact hb _; apply xor64; exact hCb _; exact hr1 _; refine dvz (.move rfl) ?_; refine dvz (.move rfl) ?_; apply DW.callE; rfl; rfl; rfl; exact WantT.none; rfl; infer_instance; exact .cons rfl (.cons rfl .nil); rfl; exact ReadAll.nil; intro w _ _; refine at_calls _ _ ?_ ?_ w; omega; omega; refine dvz (.indexAddrA rfl rfl rfl (by omega)) ?_; apply DW.loadX; rfl; rfl; rfl; exact WantT.none; rfl; assumption; simp; apply rd_turn; omega; apply DW.nil; simp only [fsOf_cons, fsOf_nil, fsOf_app, fsOf_tsOf, fsOf_new]; apply LW.callE; rfl; rfl; infer_instance; exact .cons rfl (.cons rfl .nil); intro w _; refine hk2 _ _ w ?_; apply xor64; exact hb _; apply xor64; exact hCb _; exact hr1 _; refine lvz (.indexAddrA rfl rfl rfl (by omega)) ?_; apply LW.store; rfl; rfl; apply SetAt.tail; apply SetAt.tail; apply SetAt.tail; apply SetAt.tail; apply SetAt.head; apply wr_nca; omega; apply LW.nil; refine blkN ?_; apply roundN; apply SetAt.head; refine lvz (.notT rfl (by with_reducible rfl)) ?_; refine nNz ?_; refine cFz ?_; refine CW.skip ?_; refine blkN ?_; refine thenN ?_; refine CW.region ?_; refine lvz (.addZL rfl rfl (by decide) (by omega)) ?_; refine vMz ?_; apply LW.nil)
        refine thenX ⟨rfl, x + 1, hx5, by omega, ⟨rfl, rfl, rfl, rfl, trivial⟩, ?_⟩
        rw [← Nat.add_assoc, hstep]
        exact List.Sublist.refl _
      · obtain rfl : x = 5 := by omega
        (refine sRz ?_; refine lvz (.lssF rfl rfl (by omega)) ?_; refine nNz ?_; refine CW.seq ?_; refine cFz ?_; refine CW.exit ?_; refine thenE ?_; refine thenE ?_; refine blkE rfl ?_; refine blkN ?_; refine thenN ?_; refine CW.region ?_; refine lvz (.addZL rfl rfl (by decide) (by omega)) ?_; refine vMz ?_; apply LW.nil)
        refine thenX ⟨rfl, y + 1, hy5, by omega, ⟨rfl, rfl, trivial⟩, ?_⟩
        rw [show 5 * (y + 1) = 5 * y + 5 by omega]
        exact List.Sublist.refl _
    · obtain rfl : y = 5 := by omega
      have hml := mixF_len L C 25
      (refine sRz ?_; refine lvz (.lssF rfl rfl (by omega)) ?_; refine nNz ?_; refine CW.seq ?_; refine cFz ?_; refine CW.exit ?_; refine thenE ?_; refine thenE ?_; refine blkE rfl ?_; refine scopeQ.n ?_)
      apply rangeN
      (exact .inr rfl)
      (exact Shut.nil)
      (apply SetAt.head)
      (refine blkN ?_; refine thenM ?_; refine sRz ?_; apply LW.load; rfl; rfl; apply Known.at; apply FsAt.tail; apply FsAt.tail; apply FsAt.tail; apply FsAt.tail; apply FsAt.head; apply rd_ncaW; assumption; apply LW.store; rfl; rfl; apply SetAt.tail; apply SetAt.tail; apply SetAt.tail; apply SetAt.tail; apply SetAt.head; apply wr_ncaW; assumption; assumption; refine nNz ?_; refine CW.ret ?_)
      (apply finRM; exact .inl rfl; apply Shut.cons; apply SetAt.tail; apply SetAt.head; apply Shut.cons; apply SetAt.tail; apply SetAt.tail; apply SetAt.head; exact Shut.nil; rfl; rfl; apply ResL.cons; apply Res.cell; rfl; apply Known.at; apply FsAt.tail; apply FsAt.tail; apply FsAt.tail; apply FsAt.tail; apply FsAt.head; apply rd_ncaW; assumption; exact ResL.nil)
      show (Value.agg (nca (mixF L C (5 * 5)))) = _
      rw [hC]
      rfl
end Go.Proofs.YtpgdnfgjbhdbpaaGreatDoor.SK

/-
  Contracts of the sponge: rounds.
  Conditions: none.
-/
namespace Go.Proofs.YtpgdnfgjbhdbpaaGreatDoor.SK
open Go Go.RowKit SL
set_option maxRecDepth 8000
set_option maxHeartbeats 4000000
set_option linter.unusedSimpArgs false
set_option linter.unusedVariables false
attribute [local irreducible] SL.CW SL.LW SL.DW Calls SL.Ret SL.RetG SL.beginQ SL.roundQ SL.rangeQ SL.inQ SL.RW SL.AnyW SL.thenQ SL.thenC SL.thenW SL.blkQ SL.finQ SL.ValP SL.NewP SL.SetP SL.CallP SL.Rd SL.Wr SL.Known
attribute [local irreducible] turnL cF mixF mixL
def rowsL (L : List Nat) : List Nat := rowsF L 25
theorem mixL_len (L : List Nat) : (mixL L).length = 25 := by unfold mixL; exact mixF_len L _ 25
theorem mixL_lt (L : List Nat) (hb : ∀ i, L.getD i 0 < 18446744073709551616) : ∀ i, (mixL L).getD i 0 < 18446744073709551616 := by unfold mixL; exact mixF_lt L _ hb (cF_lt L hb 25) 25
theorem rowV_lt (L : List Nat) (hb : ∀ i, L.getD i 0 < 18446744073709551616) (x y : Nat) : rowV L x y < 18446744073709551616 :=
  xor_lt (hb _) (Nat.and_lt_two_pow (n := 64) _ (hb _))
theorem rowsF_lt (L : List Nat) (hb : ∀ i, L.getD i 0 < 18446744073709551616) (k : Nat) : ∀ i, (rowsF L k).getD i 0 < 18446744073709551616 := by
  induction k with
  | zero => exact rep_lt 25
  | succ k ih => exact getD_set_lt ih (rowV_lt L hb _ _)
theorem rowsL_len (L : List Nat) : (rowsL L).length = 25 := rowsF_len L 25
theorem rowsL_lt (L : List Nat) (hb : ∀ i, L.getD i 0 < 18446744073709551616) : ∀ i, (rowsL L).getD i 0 < 18446744073709551616 := rowsF_lt L hb 25
def roundL (L : List Nat) (n : Nat) : List Nat := (rowsL (mixL L)).set 0 ((rowsL (mixL L)).getD 0 0 ^^^ n)
theorem roundL_len (L : List Nat) (n : Nat) : (roundL L n).length = 25 := by simp [roundL, rowsL_len]
theorem roundL_lt (L : List Nat) (n : Nat) (hb : ∀ i, L.getD i 0 < 18446744073709551616) (hn : n < 18446744073709551616) : ∀ i, (roundL L n).getD i 0 < 18446744073709551616 :=
  getD_set_lt (rowsL_lt _ (mixL_lt L hb)) (xor_lt (rowsL_lt _ (mixL_lt L hb) 0) hn)
def permF (L : List Nat) : Nat → List Nat
  | 0 => L
  | k + 1 => roundL (permF L k) (numL.getD k 0)
def permL (L : List Nat) : List Nat := permF L 24
theorem numL_lt (i : Nat) (h : i < 24) : numL.getD i 0 < 18446744073709551616 := (by decide : ∀ i, i < 24 → numL.getD i 0 < 18446744073709551616) i h
theorem permF_len (L : List Nat) (hL : L.length = 25) (k : Nat) : (permF L k).length = 25 := by
  cases k with
  | zero => exact hL
  | succ k => exact roundL_len _ _
theorem permF_lt (L : List Nat) (hb : ∀ i, L.getD i 0 < 18446744073709551616) (k : Nat) (hk : k ≤ 24) : ∀ i, (permF L k).getD i 0 < 18446744073709551616 := by
  induction k with
  | zero => exact hb
  | succ k ih => exact roundL_lt _ _ (ih (by omega)) (numL_lt k (by omega))
theorem permL_len (L : List Nat) (hL : L.length = 25) : (permL L).length = 25 := permF_len L hL 24
theorem permL_lt (L : List Nat) (hb : ∀ i, L.getD i 0 < 18446744073709551616) : ∀ i, (permL L).getD i 0 < 18446744073709551616 := permF_lt L hb 24 (Nat.le_refl _)
attribute [local irreducible] rowsL
theorem round_calls (L : List Nat) (n : Nat) (hL : L.length = 25) (hb : ∀ i, L.getD i 0 < 18446744073709551616) (hn : n < 18446744073709551616) (w : World) (hT : TurnAt w) : Calls Tryz.prog 135 #[.agg (nca L), .int .u64 (n : Int)] w (Ret w (.agg (nca (roundL L n)))) := by
  have hM : ∀ w' {fs}, St w [] fs w' → Calls Tryz.prog 155 #[.agg (nca L)] w' (Ret w' (.agg (nca (mixL L)))) := fun w' fs hst => Mix_calls L hL hb w' (hT.st hst)
  have hR : ∀ w', Calls Tryz.prog 154 #[.agg (nca (mixL L))] w' (Ret w' (.agg (nca (rowsL (mixL L))))) := fun w' => by
    unfold rowsL; exact Rows_calls _ (mixL_len L) (mixL_lt L hb) w'
  have hrb := rowsL_lt _ (mixL_lt L hb)
  have hl1 := mixL_len L
  have hl2 := rowsL_len (mixL L)
  have hl3 : ((rowsL (mixL L)).set 0 ((rowsL (mixL L)).getD 0 0 ^^^ n)).length = 25 := roundL_len L n
  refine enter (args := [_, _]) _ [] [] Tryz.func135 rfl Tryz.ntmps135 rfl (by simp) .nil ?_
  (refine sRz ?_; apply LW.boxA; rfl; rfl; intro _; apply LW.allocA; rfl; intro _; refine nSz ?_; apply LW.load; rfl; rfl; apply Known.at; apply FsAt.tail; apply FsAt.head; apply rd_ncaW; assumption; apply LW.callE; rfl; rfl; infer_instance; exact .cons rfl .nil; intro w _; exact hM w (by assumption); apply LW.callE; rfl; rfl; infer_instance; exact .cons rfl .nil; intro w _; exact hR w; apply LW.store; rfl; rfl; apply SetAt.tail; apply SetAt.head; apply wr_ncaW; assumption; assumption; refine nSz ?_; refine lvz (.indexAddrL rfl rfl rfl) ?_; apply LW.load; rfl; rfl; apply Known.at; apply FsAt.tail; apply FsAt.head; apply rd_nca0; omega; refine vMz ?_; apply LW.v0; rfl; rfl; apply ValP.xorU; rfl; rfl; exact hrb _; assumption; refine lvz (.indexAddrL rfl rfl rfl) ?_; apply LW.store; rfl; rfl; apply SetAt.tail; apply SetAt.head; apply wr_nca0; omega; refine nSz ?_; apply LW.load; rfl; rfl; apply Known.at; apply FsAt.tail; apply FsAt.head; apply rd_ncaW; assumption; apply LW.store; rfl; rfl; apply SetAt.head; apply wr_ncaO; rfl; assumption; refine nNz ?_; refine CW.ret ?_)
  (apply finR; exact .inl rfl; rfl; rfl; rfl; apply ResL.cons; apply Res.cell; rfl; apply Known.at; apply FsAt.head; apply rd_ncaW; assumption; exact ResL.nil)
  rfl
attribute [local irreducible] roundL
theorem numL_len : numL.length = 24 := rfl
attribute [local irreducible] numL
theorem Permute_calls (L : List Nat) (hL : L.length = 25) (hb : ∀ i, L.getD i 0 < 18446744073709551616) (w : World) (hT : TurnAt w) (hN : NumAt w) : Calls Tryz.prog 106 #[.agg (nca L)] w (Ret w (.agg (nca (permL L)))) := by
  obtain ⟨EN, frN, hN⟩ := hN
  have hnl := numL_len
  have hR : ∀ k, k < 24 → ∀ w' {fs}, St w [] fs w' → Calls Tryz.prog 135 #[.agg (nca (permF L k)), .int .u64 ((numL.getD k 0 : Nat) : Int)] w' (Ret w' (.agg (nca (roundL (permF L k) (numL.getD k 0))))) := fun k hk w' fs hst => round_calls _ _ (permF_len L hL k) (permF_lt L hb k (by omega)) (numL_lt k hk) w' (hT.st hst)
  refine enter (args := [_]) _ [] [] Tryz.func106 rfl Tryz.ntmps106 rfl (by simp) .nil ?_
  (refine sRz ?_; apply LW.boxA; rfl; rfl; intro _; apply LW.allocA; rfl; intro _; refine nNz ?_; refine CW.seq ?_; refine sRz ?_; apply LW.load; rfl; rfl; exact Known.ext (by assumption) (by simp); apply rd_ncaW; assumption; refine vMz ?_; refine nNz ?_; refine CW.block ?_)
  rename_i b1 b2
  refine CW.loop (fun k : Nat => ([(6, .int .i64 (k : Int)), (5, .agg (nca numL)), (2, .pointer (some ⟨b2, 0, none⟩)), (1, .pointer (some ⟨b1, 0, none⟩))],
    [(b2, .cells (nca (List.replicate 25 0)) 140 (0, 0)), (b1, .cells (nca (permF L k)) 140 (0, 0))]))
    (fun k => k ≤ 24) (fun k => 24 - k) 0 (Nat.zero_le _) ⟨rfl, rfl, rfl, rfl, trivial⟩ (List.Sublist.refl _) ?_
  intro k hk
  dsimp only at hk ⊢
  have hlen := permF_len L hL k
  rcases Nat.lt_or_ge k 24 with hk4 | hk4
  · have hR' := fun w' fs hst => hR k hk4 w' (fs := fs) hst
    have hlen' := roundL_len (permF L k) (numL.getD k 0)
    (refine sRz ?_; refine lvz (.lssT rfl rfl (by omega)) ?_; refine nNz ?_; refine CW.seq ?_; refine cTz ?_; refine CW.skip ?_; refine thenN ?_; refine CW.seq ?_; refine CW.block ?_; refine sRz ?_; apply LW.v0; rfl; rfl; apply ValP.indexA; rfl; rfl; rfl; rfl; omega; apply nth_nca; omega; refine vAz ?_; refine nNz ?_; refine CW.region ?_; apply LW.load; rfl; rfl; apply Known.at; apply FsAt.tail; apply FsAt.head; apply rd_ncaW; assumption; refine vMz ?_; apply LW.callE; rfl; rfl; infer_instance; exact .cons rfl (.cons rfl .nil); intro w _; exact hR' w _ (by assumption); apply LW.store; rfl; rfl; apply SetAt.tail; apply SetAt.head; apply wr_ncaW; assumption; assumption; apply LW.nil; refine blkN ?_; refine thenN ?_; refine CW.region ?_; refine lvz (.addZL rfl rfl (by decide) (by omega)) ?_; refine vMz ?_; apply LW.nil)
    refine thenX ⟨rfl, k + 1, hk4, by omega, ⟨rfl, rfl, rfl, rfl, trivial⟩, ?_⟩
    exact List.Sublist.refl _
  · obtain rfl : k = 24 := by omega
    have hlr : (List.replicate 25 0 : List Nat).length = 25 := rfl
    (refine sRz ?_; refine lvz (.lssF rfl rfl (by omega)) ?_; refine nNz ?_; refine CW.seq ?_; refine cFz ?_; refine CW.exit ?_; refine thenE ?_; refine thenE ?_; refine blkE rfl ?_; refine thenN ?_; refine sRz ?_; apply LW.load; rfl; rfl; apply Known.at; apply FsAt.tail; apply FsAt.head; apply rd_ncaW; assumption; apply LW.store; rfl; rfl; apply SetAt.head; apply wr_ncaW; assumption; assumption; refine nNz ?_; refine CW.ret ?_)
    (apply finR; exact .inl rfl; rfl; rfl; rfl; apply ResL.cons; apply Res.cell; rfl; apply Known.at; apply FsAt.head; apply rd_ncaW; assumption; exact ResL.nil)
    rfl
end Go.Proofs.YtpgdnfgjbhdbpaaGreatDoor.SK

/-
  Contracts of the sponge: padded bytes.
  Conditions: none.
-/
namespace Go.Proofs.YtpgdnfgjbhdbpaaGreatDoor.SK
open Go Go.RowKit SL
set_option maxRecDepth 8000
set_option maxHeartbeats 4000000
set_option linter.unusedSimpArgs false
set_option linter.unusedVariables false
attribute [local irreducible] SL.CW SL.LW SL.DW Calls SL.Ret SL.RetG SL.beginQ SL.roundQ SL.rangeQ SL.inQ SL.RW SL.AnyW SL.thenQ SL.thenC SL.thenW SL.blkQ SL.finQ SL.ValP SL.NewP SL.SetP SL.CallP SL.Rd SL.Wr SL.Known
/-- how many bytes the padded ones are. -/
def padN (n : Nat) : Nat := (n / 136 + 1) * 136
def pad1 (b : List UInt8) : List UInt8 := (b ++ List.replicate (padN b.length - b.length) 0).set b.length 1
def padB (b : List UInt8) : List UInt8 := (pad1 b).set (padN b.length - 1) ((pad1 b).getD (padN b.length - 1) 0 ||| 128)
theorem padN_lt (n : Nat) : n < padN n := by unfold padN; omega
theorem pad1_len (b : List UInt8) : (pad1 b).length = padN b.length := by have := padN_lt b.length; simp [pad1]; omega
theorem padB_len (b : List UInt8) : (padB b).length = padN b.length := by rw [padB, List.length_set, pad1_len]
theorem pad_copy (b : List UInt8) : ((List.replicate (padN b.length) (Value.int .u8 0)).toArray.toList.take 0 ++ ucs b ++ (List.replicate (padN b.length) (Value.int .u8 0)).toArray.toList.drop (0 + b.length)).toArray = uca (b ++ List.replicate (padN b.length - b.length) 0) := by
  simp [uca, ucs_map]
def PadR (b : List UInt8) (v : Value) (gs : Fs) : Prop := ∃ g, v = .slice (some ⟨g, 0, none⟩) (padB b).length (padB b).length ∧ gs = [(g, .cells (uca (padB b)) 5 (0, 0))]
theorem wr_pad1 {T E : TypeId} {z : Value} [InfoI Tryz.prog T 1 z] (b : List UInt8) : Wr Tryz.prog T (.cells (uca (b ++ List.replicate (padN b.length - b.length) (0 : UInt8))) E (0, 0)) (0 + b.length * 1) (.int .u8 1) (.cells (uca (pad1 b)) E (0, 0)) :=
  wr_uca (x := 1) (by have := padN_lt b.length; simp; omega) (by decide)
theorem or_byte (u : UInt8) : UInt8.ofNat (u.toNat ||| 128) = u ||| 128 := by
  apply UInt8.toNat_inj.1
  rw [UInt8.toNat_or, UInt8.toNat_ofNat']
  exact Nat.mod_eq_of_lt (Nat.or_lt_two_pow (n := 8) (UInt8.toNat_lt u) (by decide))
theorem wr_padB {T E : TypeId} {z : Value} [InfoI Tryz.prog T 1 z] (b : List UInt8) : Wr Tryz.prog T (.cells (uca (pad1 b)) E (0, 0)) (0 + (padN b.length - 1) * 1) (.int .u8 ((((pad1 b).getD (padN b.length - 1) 0).toNat ||| 128 : Nat) : Int)) (.cells (uca (padB b)) E (0, 0)) := by
  have h := wr_uca (P := Tryz.prog) (T := T) (E := E) (l := pad1 b) (i := padN b.length - 1) (x := ((pad1 b).getD (padN b.length - 1) 0).toNat ||| 128) (z := z) (by rw [pad1_len]; have := padN_lt b.length; omega) (Nat.or_lt_two_pow (n := 8) (UInt8.toNat_lt _) (by decide))
  rw [or_byte] at h
  exact h
theorem Pad_calls (b : List UInt8) (v : Value) (w : World) (hv : RowAt w 1 v b.length (ucs b)) (hb : b.length ≤ 100000) : Calls Tryz.prog 105 #[v] w (RetG w [] (PadR b)) := by
  obtain ⟨p, c, rfl, hc, hm⟩ := hv.form
  have hlt := padN_lt b.length
  have h1 := pad1_len b
  have h2 := padB_len b
  have hN : padN b.length = (b.length / 136 + 1) * 136 := rfl
  refine enter (args := [_]) _ [] [] Tryz.func105 rfl Tryz.ntmps105 rfl (by simp) .nil ?_
  (refine sRz ?_; refine vAz ?_; refine nSz ?_; refine vMz ?_; refine lvz (.lenR rfl inferInstance rfl) ?_; refine lvz (.quoZL rfl rfl (by decide) (by omega) (by omega)) ?_; refine lvz (.addZL rfl rfl (by decide) (by omega)) ?_; refine lvz (.mulZL rfl rfl (by decide) (by omega)) ?_)
  rw [← hN]
  refine LW.makeOwn rfl inferInstance inferInstance inferInstance rfl rfl ?_ ?_ fun g => ?_
  · omega
  · simp only [maxLen]; omega
  (refine vAz ?_; refine nSz ?_; refine vMz ?_; refine vMz ?_; refine vMz ?_)
  refine LW.copyAt (cur := (List.replicate (padN b.length) (Value.int .u8 0)).toArray) (E' := 5) (fs' := [(g, .cells (((List.replicate (padN b.length) (Value.int .u8 0)).toArray.toList.take 0 ++ ucs b ++ (List.replicate (padN b.length) (Value.int .u8 0)).toArray.toList.drop (0 + b.length)).toArray) 5 (0, 0))]) rfl rfl inferInstance inferInstance inferInstance rfl rfl (fun w hst => hv.st hst) (ucs_cells b) (by omega) (by simp; omega) (by (apply SetAt.head)) ?_
  rw [pad_copy]
  have hl0 : (b ++ List.replicate (padN b.length - b.length) (0 : UInt8)).length = padN b.length := by simp; omega
  (refine lvz (.indexAddrS rfl rfl rfl (by omega)) ?_; refine LW.store rfl rfl .head (wr_pad1 b) ?_; refine nSz ?_; refine vMz ?_; refine vMz ?_; refine lvz (.lenR rfl inferInstance rfl) ?_; refine lvz (.subZL rfl rfl (by decide) (by omega) (by omega)) ?_; refine lvz (.indexAddrS rfl rfl rfl (by omega)) ?_; apply LW.load; rfl; rfl; apply Known.at; apply FsAt.head; apply rd_uca; omega; apply LW.v0; rfl; rfl; apply ValP.orBL; rfl; rfl; decide; exact UInt8.toNat_lt _; decide; refine lvz (.indexAddrS rfl rfl rfl (by omega)) ?_; refine LW.store rfl rfl .head (wr_padB b) ?_; refine nSz ?_; refine vMz ?_; refine vAz ?_; refine nNz ?_; refine CW.ret ?_)
  refine fin [(g, .cells (uca (padB b)) 5 (0, 0))] (.inl rfl) rfl rfl (by (apply ResL.cons; exact Res.tmp rfl; exact ResL.nil)) (List.Sublist.refl _) ⟨g, ?_, rfl⟩
  rw [h2]; rfl
def ChunkR (v0 : Value) (v : Value) (gs : Fs) : Prop := ∃ b1 b2, v = .func (.func 134) #[] #[.pointer (some ⟨b1, 0, none⟩), .pointer (some ⟨b2, 0, none⟩)] ∧ gs = [(b2, .cells #[.int .i64 136] 3 (0, 0)), (b1, .cells #[v0] 22 (0, 0))]
theorem Chunk_calls (p : Option Addr) (n c : Nat) (w : World) : Calls Tryz.prog 104 #[.slice p n c, .int .i64 136] w (RetG w [] (ChunkR (.slice p n c))) := by
  refine enter (args := [_, _]) _ [] [] Tryz.func104 rfl Tryz.ntmps104 rfl (by simp) .nil ?_
  (refine sRz ?_; apply LW.box1; rfl; rfl; rfl; intro _; apply LW.box1; rfl; rfl; rfl; intro _; refine vAz ?_; refine nNz ?_; refine CW.seq ?_; refine sRz ?_; refine ldz rfl .head (Rd.one' rfl) ?_; refine lvz (.lssF rfl rfl (by omega)) ?_; refine nNz ?_; refine cFz ?_; refine CW.skip ?_; refine thenN ?_; refine sRz ?_; apply LW.v0; rfl; rfl; apply ValP.makeFunc; exact ArgsOk.nil; exact .cons rfl (.cons rfl .nil); refine vAz ?_; refine nNz ?_; refine CW.ret ?_)
  rename_i b1 b2
  exact fin _ (.inl rfl) rfl rfl (by (apply ResL.cons; exact Res.tmp rfl; exact ResL.nil)) (List.Sublist.refl _) ⟨b1, b2, rfl, rfl⟩
end Go.Proofs.YtpgdnfgjbhdbpaaGreatDoor.SK

/-
  Contracts of the sponge: digests.
  Conditions: none.
-/
namespace Go.Proofs.YtpgdnfgjbhdbpaaGreatDoor.SK
open Go Go.RowKit SL
set_option maxRecDepth 8000
set_option maxHeartbeats 4000000
set_option linter.unusedSimpArgs false
set_option linter.unusedVariables false
attribute [local irreducible] SL.CW SL.LW SL.DW Calls SL.Ret SL.RetG SL.beginQ SL.roundQ SL.rangeQ SL.inQ SL.RW SL.AnyW SL.thenQ SL.thenC SL.thenW SL.blkQ SL.finQ SL.ValP SL.NewP SL.SetP SL.CallP SL.Rd SL.Wr SL.Known
def soakF (L : List Nat) (p : List UInt8) (o : Nat) : Nat → List Nat
  | 0 => L
  | k + 1 => (soakF L p o k).set (k / 8) ((soakF L p o k).getD (k / 8) 0 ^^^ ((p.getD (o + k) 0).toNat * 2 ^ (8 * (k % 8)) % 18446744073709551616))
theorem soakF_len (L : List Nat) (p : List UInt8) (o k : Nat) : (soakF L p o k).length = L.length := by
  induction k with
  | zero => rfl
  | succ k ih => simp [soakF, ih]
theorem soakF_lt (L : List Nat) (p : List UInt8) (o : Nat) (hb : ∀ i, L.getD i 0 < 18446744073709551616) (k : Nat) : ∀ i, (soakF L p o k).getD i 0 < 18446744073709551616 := by
  induction k with
  | zero => exact hb
  | succ k ih => exact getD_set_lt ih (xor_lt (ih _) (Nat.mod_lt _ (by decide)))
def sumF (p : List UInt8) : Nat → List Nat
  | 0 => List.replicate 25 0
  | c + 1 => permL (soakF (sumF p c) p (136 * c) 136)
theorem sumF_len (p : List UInt8) (c : Nat) : (sumF p c).length = 25 := by
  induction c with
  | zero => simp [sumF]
  | succ c ih => exact permL_len _ (by rw [soakF_len, ih])
theorem sumF_lt (p : List UInt8) (c : Nat) : ∀ i, (sumF p c).getD i 0 < 18446744073709551616 := by
  induction c with
  | zero => exact rep_lt 25
  | succ c ih => exact permL_lt _ (soakF_lt _ _ _ ih _)
def idF (L : List Nat) : Nat → List UInt8
  | 0 => List.replicate 32 0
  | k + 1 => (idF L k).set k (UInt8.ofNat (L.getD (k / 8) 0 / 2 ^ (8 * (k % 8)) % 256))
theorem idF_len (L : List Nat) (k : Nat) : (idF L k).length = 32 := by
  induction k with
  | zero => simp [idF]
  | succ k ih => simp [idF, ih]
def padC (n : Nat) : Nat := n / 136 + 1
def sumB (b : List UInt8) : List UInt8 := idF (sumF (padB b) (padC b.length)) 32
theorem ValP.cut3o {P : Program} {e : Env} {T : TypeId} {x : Operand} {g o o' m n : Nat} {ik il im : IntKind} {E i j k c : Nat} {z : Value} {lo hi mx : Operand} (hU : UnI P T (.slice E)) (hI : InfoI P E 1 z) (hx : e.ev x = some (.slice (some ⟨g, o, none⟩) n c)) (hl : e.ev lo = some (.int il (i : Int))) (hh : e.ev hi = some (.int ik (j : Int))) (hm : e.ev mx = some (.int im (k : Int))) (h1 : j = i + m) (h2 : k = i + m) (h3 : i + m ≤ c) (h4 : 0 < m) (h5 : o' = o + i) :
    ValP P e [] (.slice T x (some lo) (some hi) (some mx)) (.slice (some ⟨g, o', none⟩) m m) := by
  subst h1 h2 h5
  have h := ValP.cut3 (P := P) (e := e) hU hI hx hl hh hm (by omega) (by omega) h3 (by omega)
  have e1 : i + m - i = m := by omega
  have e2 : (Option.map (fun x => Addr.add x (i * 1)) (some ⟨g, o, none⟩)) = some ⟨g, o + i, none⟩ := by simp [Addr.add]
  rw [e1] at h
  rw [← e2]
  exact h
theorem soakF_zero (L : List Nat) (p : List UInt8) (o : Nat) : soakF L p o 0 = L := rfl
theorem sumF_zero (p : List UInt8) : sumF p 0 = List.replicate 25 0 := rfl
theorem soakF_succ (L : List Nat) (p : List UInt8) (o k : Nat) : soakF L p o (k + 1) = (soakF L p o k).set (k / 8) ((soakF L p o k).getD (k / 8) 0 ^^^ ((p.getD (o + k) 0).toNat * 2 ^ (8 * (k % 8)) % 18446744073709551616)) := rfl
theorem sumF_succ (p : List UInt8) (c : Nat) : sumF p (c + 1) = permL (soakF (sumF p c) p (136 * c) 136) := rfl
theorem idF_zero (L : List Nat) : idF L 0 = List.replicate 32 0 := rfl
theorem idF_succ (L : List Nat) (k : Nat) : idF L (k + 1) = (idF L k).set k (UInt8.ofNat (L.getD (k / 8) 0 / 2 ^ (8 * (k % 8)) % 256)) := rfl
attribute [local irreducible] permL padB soakF sumF idF
theorem Sum_calls (b : List UInt8) (v : Value) (w : World) (hv : RowAt w 1 v b.length (ucs b)) (hb : b.length ≤ 100000) (hT : TurnAt w) (hN : NumAt w) : Calls Tryz.prog 69 #[v] w (Ret w (.agg (uca (sumB b)))) := by
  have hPad : ∀ w' {fs}, St w [] fs w' → Calls Tryz.prog 105 #[v] w' (RetG w' [] (PadR b)) := fun w' fs hst => Pad_calls b v w' (hv.st hst) hb
  have hP : ∀ L : List Nat, L.length = 25 → (∀ i, L.getD i 0 < 18446744073709551616) → ∀ w' {fs}, St w [] fs w' → Calls Tryz.prog 106 #[.agg (nca L)] w' (Ret w' (.agg (nca (permL L)))) := fun L h1 h2 w' fs hst => Permute_calls L h1 h2 w' (hT.st hst) (hN.st hst)
  obtain ⟨p0, c0, rfl, _, _⟩ := hv.form
  obtain ⟨P, hPe⟩ : ∃ P, P = padB b := ⟨_, rfl⟩
  obtain ⟨N, hNe⟩ : ∃ N, N = padC b.length := ⟨_, rfl⟩
  have hlP : P.length = 136 * N := by rw [hPe, hNe, padB_len, padN, padC]; omega
  have hNb : N ≤ 1000 := by rw [hNe, padC]; omega
  refine enter (args := [_]) _ [] [] Tryz.func69 rfl Tryz.ntmps69 rfl (by simp) .nil ?_
  (refine sRz ?_; apply LW.allocA; rfl; intro _; refine nSz ?_; apply LW.allocA; rfl; intro _; refine nNz ?_; refine CW.seq ?_; refine sRz ?_; refine vMz ?_)
  refine LW.callR rfl rfl inferInstance (by (exact .cons rfl .nil)) (fun w hst => hPad w hst) ?_
  rintro v1 gs1 ⟨g, rfl, rfl⟩
  rw [← hPe]
  skip
  refine LW.callR rfl rfl inferInstance (by (exact .cons rfl (.cons rfl .nil))) (fun w hst => Chunk_calls _ _ _ w) ?_
  rintro v2 gs2 ⟨b1, b2, rfl, rfl⟩
  simp only [List.cons_append, List.nil_append]
  (refine nNz ?_; refine CW.block ?_)
  rename_i bi bl
  apply CW.rangeFunc
  rfl
  rfl
  infer_instance
  rfl
  exact Tryz.func134
  rfl
  exact Tryz.ntmps134
  rfl
  rfl
  intro l r rec hrec
  (refine sRz ?_; refine vAz ?_; refine nNz ?_; refine CW.block ?_)
  refine CW.loop (fun c : Nat => ([(4, .int .i64 ((136 * c : Nat) : Int)), (0, .func (.yield l) #[] #[]), (1, .pointer (some ⟨b1, 0, none⟩)), (2, .pointer (some ⟨b2, 0, none⟩))],
    [(l, rdy rec), (r, .deferred (some [])), (b2, .cells #[.int .i64 136] 3 (0, 0)), (b1, .cells #[.slice (some ⟨g, 0, none⟩) P.length P.length] 22 (0, 0)), (g, .cells (uca P) 5 (0, 0)),
      (bl, .cells (nca (sumF P c)) 140 (0, 0)), (bi, .cells (uca (List.replicate 32 0)) 107 (0, 0))]))
    (fun c => c ≤ N) (fun c => N - c) 0 (Nat.zero_le _) ⟨rfl, rfl, rfl, rfl, trivial⟩ (by dsimp only; rw [sumF_zero]; exact List.Sublist.refl _) ?_
  intro c hc
  dsimp only at hc ⊢
  rcases Nat.lt_or_ge c N with hcN | hcN
  · have hle : 136 * c + 136 ≤ P.length := by omega
    (refine CW.seq ?_; refine sRz ?_; refine vMz ?_; refine ldz rfl (.tail (.tail (.tail .head))) (Rd.one' rfl) ?_; refine lvz (.lenR rfl inferInstance rfl) ?_; refine lvz (.lssT rfl rfl (by omega)) ?_; refine nNz ?_; refine cTz ?_; refine CW.skip ?_; refine thenN ?_; refine CW.seq ?_; refine CW.block ?_; refine CW.seq ?_; apply CW.pre; refine AnyW.any 5 mixed (by decide +kernel) ?_; (try simp only [tsOf_cons, tsOf_nil, tsOf_app]); apply DW.loadO; rfl; rfl; rfl; exact WantT.none; rfl; apply TRead.tail; apply TRead.tail; apply TRead.head; exact ancB_nil; exact Rd.one' rfl; apply DW.loadO; rfl; rfl; rfl; exact WantT.none; rfl; apply TRead.tail; apply TRead.tail; apply TRead.tail; apply TRead.head; exact ancB_nil; exact Rd.one' rfl; refine dvz (.move rfl) ?_; refine dvz (.cutFrom inferInstance inferInstance rfl rfl (by omega)) ?_; refine dvz (.lenR rfl inferInstance rfl) ?_; apply DW.nil; simp only [fsOf_cons, fsOf_nil, fsOf_app, fsOf_tsOf, fsOf_new]; refine lvz (.minZ rfl rfl) ?_; refine vAz ?_; refine nSz ?_; refine vMz ?_; refine ldz rfl (.tail (.tail (.tail .head))) (Rd.one' rfl) ?_; refine vMz ?_; refine vMz ?_; refine vMz ?_; refine lvz (.addZ rfl rfl (by omega)) ?_; refine vMz ?_; refine vMz ?_; refine lvz (.addZ rfl rfl (by omega)) ?_)
    apply LW.v0
    rfl
    rfl
    refine ValP.cut3o (o' := 136 * c) (m := 136) inferInstance inferInstance rfl rfl rfl rfl ?_ ?_ ?_ ?_ ?_
    · show 136 * c + min 136 (P.length - 136 * c) = 136 * c + 136
      omega
    · show 136 * c + min 136 (P.length - 136 * c) = 136 * c + 136
      omega
    · omega
    · omega
    · omega
    apply LW.yield
    rfl
    rfl
    (exact .cons rfl .nil)
    exact hrec
    (apply FsAt.head)
    rfl
    rfl
    (refine CW.region ?_; refine vAz ?_; apply LW.nil; apply beginI; apply SetAt.head; refine CW.block ?_; refine CW.seq ?_; refine sRz ?_; refine vMz ?_; refine lvz (.lenR rfl inferInstance rfl) ?_; refine vMz ?_; refine nNz ?_; refine CW.block ?_)
    refine CW.loop (fun k : Nat => ([(14, .int .i64 (k : Int)), (13, .int .i64 136), (12, .slice (some ⟨g, 136 * c, none⟩) 136 136), (3, .pointer (some ⟨bl, 0, none⟩)), (2, .pointer (some ⟨bi, 0, none⟩))],
      [(l, bsy rec), (r, .deferred (some [])), (b2, .cells #[.int .i64 136] 3 (0, 0)), (b1, .cells #[.slice (some ⟨g, 0, none⟩) P.length P.length] 22 (0, 0)), (g, .cells (uca P) 5 (0, 0)),
      (bl, .cells (nca (soakF (sumF P c) P (136 * c) k)) 140 (0, 0)), (bi, .cells (uca (List.replicate 32 0)) 107 (0, 0))]))
      (fun k => k ≤ 136) (fun k => 136 - k) 0 (Nat.zero_le _) ⟨rfl, rfl, rfl, rfl, rfl, trivial⟩ ?_ ?_
    · dsimp only
      rw [soakF_zero]
      exact List.Sublist.refl _
    intro k hk
    dsimp only at hk ⊢
    have hls := soakF_len (sumF P c) P (136 * c) k
    have hls' := sumF_len P c
    have hsb := soakF_lt _ P (136 * c) (sumF_lt P c) k
    rcases Nat.lt_or_ge k 136 with hk6 | hk6
    · have hbt : (P.getD (136 * c + k) 0).toNat < 256 := UInt8.toNat_lt _
      (refine sRz ?_; refine lvz (.lssT rfl rfl (by omega)) ?_; refine nNz ?_; refine CW.seq ?_; refine cTz ?_; refine CW.skip ?_; refine thenN ?_; refine CW.seq ?_; refine CW.block ?_; refine sRz ?_; refine vMz ?_; refine lvz (.indexAddrS rfl rfl rfl (by omega)) ?_; apply LW.load; rfl; rfl; apply Known.at; apply FsAt.tail; apply FsAt.tail; apply FsAt.tail; apply FsAt.tail; apply FsAt.head; apply rd_ucaO; omega; refine vAz ?_; refine vAz ?_; refine nNz ?_; apply CW.pre; refine AnyW.any 10 mixed (by decide +kernel) ?_; (try simp only [tsOf_cons, tsOf_nil, tsOf_app]); refine dvz (.move rfl) ?_; refine dvz (.quoZL rfl rfl (by decide) (by omega) (by omega)) ?_; refine dvz (.indexAddrA rfl rfl rfl (by omega)) ?_; apply DW.loadO; rfl; rfl; rfl; exact WantT.none; rfl; apply TRead.tail; apply TRead.tail; apply TRead.tail; apply TRead.tail; apply TRead.tail; apply TRead.head; exact ancB_nil; apply rd_nca; omega; refine dvz (.move rfl) ?_; refine dvz (.convN rfl (by omega) (by omega)) ?_; refine dvz (.move rfl) ?_; refine dvz (.remZL rfl rfl (by decide) (by omega)) ?_; refine dvz (.mulZK rfl rfl (by decide) (by omega)) ?_; refine dvz (.shlU rfl rfl (by omega)) ?_; apply DW.nil; simp only [fsOf_cons, fsOf_nil, fsOf_app, fsOf_tsOf, fsOf_new]; apply LW.v0; rfl; rfl; apply ValP.xorU; rfl; rfl; exact hsb _; exact Nat.mod_lt _ (by decide); refine lvz (.indexAddrA rfl rfl rfl (by omega)) ?_; apply LW.store; rfl; rfl; apply SetAt.tail; apply SetAt.tail; apply SetAt.tail; apply SetAt.tail; apply SetAt.tail; apply SetAt.head; apply wr_nca; omega; apply LW.nil; refine blkN ?_; refine thenN ?_; refine CW.region ?_; refine lvz (.addZL rfl rfl (by decide) (by omega)) ?_; refine vMz ?_; apply LW.nil)
      refine thenX ⟨rfl, k + 1, hk6, by omega, ⟨rfl, rfl, rfl, rfl, rfl, trivial⟩, ?_⟩
      rw [soakF_succ]
      exact List.Sublist.refl _
    · obtain rfl : k = 136 := by omega
      have hPerm : ∀ w' {fs}, St w [] fs w' → Calls Tryz.prog 106 #[.agg (nca (soakF (sumF P c) P (136 * c) 136))] w' (Ret w' (.agg (nca (permL (soakF (sumF P c) P (136 * c) 136))))) := hP _ (by rw [hls, hls']) hsb
      have hlp := permL_len (soakF (sumF P c) P (136 * c) 136) (by rw [hls, hls'])
      have hls2 : (soakF (sumF P c) P (136 * c) 136).length = 25 := by rw [hls, hls']
      (refine sRz ?_; refine lvz (.lssF rfl rfl (by omega)) ?_; refine nNz ?_; refine CW.seq ?_; refine cFz ?_; refine CW.exit ?_; refine thenE ?_; refine thenE ?_; refine blkE rfl ?_; refine thenN ?_; refine CW.region ?_; apply LW.load; rfl; rfl; apply Known.at; apply FsAt.tail; apply FsAt.tail; apply FsAt.tail; apply FsAt.tail; apply FsAt.tail; apply FsAt.head; apply rd_ncaW; assumption; apply LW.callE; rfl; rfl; infer_instance; exact .cons rfl .nil; intro w _; exact hPerm w (by assumption); apply LW.store; rfl; rfl; apply SetAt.tail; apply SetAt.tail; apply SetAt.tail; apply SetAt.tail; apply SetAt.tail; apply SetAt.head; apply wr_ncaW; assumption; assumption; apply LW.nil; refine blkN ?_; apply roundN; apply SetAt.head; refine lvz (.notT rfl (by with_reducible rfl)) ?_; refine nNz ?_; refine cFz ?_; refine CW.skip ?_; refine blkN ?_; refine thenN ?_; refine CW.region ?_; refine vMz ?_; refine ldz rfl (.tail (.tail .head)) (Rd.one' rfl) ?_; refine lvz (.addZL rfl rfl (by decide) (by omega)) ?_; refine vAz ?_; apply LW.nil)
      refine thenX ⟨rfl, c + 1, hcN, by omega, ⟨rfl, rfl, rfl, rfl, trivial⟩, ?_⟩
      rw [sumF_succ]
      exact List.Sublist.refl _
  · obtain rfl : c = N := by omega
    have hls := sumF_len P c
    have hsb := sumF_lt P c
    (refine CW.seq ?_; refine sRz ?_; refine vMz ?_; refine ldz rfl (.tail (.tail (.tail .head))) (Rd.one' rfl) ?_; refine lvz (.lenR rfl inferInstance rfl) ?_; refine lvz (.lssF rfl rfl (by omega)) ?_; refine nNz ?_; refine cFz ?_; refine CW.exit ?_; refine thenE ?_; refine thenE ?_; refine blkE rfl ?_)
    apply rangeN
    (exact .inr rfl)
    (exact Shut.nil)
    (apply SetAt.head)
    (refine blkN ?_; refine thenM ?_; refine CW.seq ?_; refine sRz ?_; refine vMz ?_; refine nNz ?_; refine CW.block ?_)
    refine CW.loop (fun k : Nat => ([(34, .int .i64 (k : Int)), (3, .pointer (some ⟨bl, 0, none⟩)), (2, .pointer (some ⟨bi, 0, none⟩))],
      [(r, .deferred (some [])), (bl, .cells (nca (sumF P c)) 140 (0, 0)), (bi, .cells (uca (idF (sumF P c) k)) 107 (0, 0))]))
      (fun k => k ≤ 32) (fun k => 32 - k) 0 (Nat.zero_le _) ⟨rfl, rfl, rfl, trivial⟩ ?_ ?_
    · dsimp only
      rw [idF_zero]
      (apply List.Sublist.cons; apply List.Sublist.cons_cons; apply List.Sublist.cons; apply List.Sublist.cons; apply List.Sublist.cons; exact List.Sublist.refl _)
    intro k hk
    dsimp only at hk ⊢
    have hli := idF_len (sumF P c) k
    rcases Nat.lt_or_ge k 32 with hk6 | hk6
    · (refine sRz ?_; refine lvz (.lssT rfl rfl (by omega)) ?_; refine nNz ?_; refine CW.seq ?_; refine cTz ?_; refine CW.skip ?_; refine thenN ?_; refine CW.seq ?_; refine CW.block ?_; refine sRz ?_; refine vMz ?_; refine vAz ?_; refine nNz ?_; refine CW.region ?_; refine vMz ?_; refine vMz ?_; refine lvz (.quoZL rfl rfl (by decide) (by omega) (by omega)) ?_; refine lvz (.indexAddrA rfl rfl rfl (by omega)) ?_; apply LW.load; rfl; rfl; apply Known.at; apply FsAt.tail; apply FsAt.head; apply rd_nca; omega; refine vMz ?_; refine lvz (.remZL rfl rfl (by decide) (by omega)) ?_; refine lvz (.mulZK rfl rfl (by decide) (by omega)) ?_; refine lvz (.shrU rfl rfl (by omega)) ?_; refine lvz (.convB rfl) ?_; refine lvz (.indexAddrA rfl rfl rfl (by omega)) ?_; apply LW.store; rfl; rfl; apply SetAt.tail; apply SetAt.tail; apply SetAt.head; apply wr_uca; omega; exact Nat.mod_lt _ (by decide); apply LW.nil; refine blkN ?_; refine thenN ?_; refine CW.region ?_; refine lvz (.addZL rfl rfl (by decide) (by omega)) ?_; refine vMz ?_; apply LW.nil)
      refine thenX ⟨rfl, k + 1, hk6, by omega, ⟨rfl, rfl, rfl, trivial⟩, ?_⟩
      rw [idF_succ]
      exact List.Sublist.refl _
    · obtain rfl : k = 32 := by omega
      (refine sRz ?_; refine lvz (.lssF rfl rfl (by omega)) ?_; refine nNz ?_; refine CW.seq ?_; refine cFz ?_; refine CW.exit ?_; refine thenE ?_; refine thenE ?_; refine blkE rfl ?_; refine thenN ?_; refine sRz ?_; apply LW.load; rfl; rfl; apply Known.at; apply FsAt.tail; apply FsAt.tail; apply FsAt.head; apply rd_ucaW; assumption; apply LW.store; rfl; rfl; apply SetAt.tail; apply SetAt.tail; apply SetAt.head; apply wr_ucaW; assumption; assumption; refine nNz ?_; refine CW.ret ?_)
      (apply finRM; exact .inl rfl; apply Shut.cons; apply SetAt.head; exact Shut.nil; rfl; rfl; apply ResL.cons; apply Res.cell; rfl; apply Known.at; apply FsAt.tail; apply FsAt.tail; apply FsAt.head; apply rd_ucaW; assumption; exact ResL.nil)
      rw [sumB, ← hPe, ← hNe]
      rfl
end Go.Proofs.YtpgdnfgjbhdbpaaGreatDoor.SK

/-
  Contracts of the sponge: digests out of digits.
  Conditions: none.
-/
namespace Go.Proofs.YtpgdnfgjbhdbpaaGreatDoor.SK
open Go Go.RowKit SL
set_option maxRecDepth 8000
set_option maxHeartbeats 4000000
set_option linter.unusedSimpArgs false
set_option linter.unusedVariables false
attribute [local irreducible] SL.CW SL.LW SL.DW Calls SL.Ret SL.RetG SL.beginQ SL.roundQ SL.rangeQ SL.inQ SL.RW SL.AnyW SL.thenQ SL.thenC SL.thenW SL.blkQ SL.finQ SL.ValP SL.NewP SL.SetP SL.CallP SL.Rd SL.Wr SL.Known
/-! ### What digits say -/
/-- the digest of the digits ahead: none, if one of them is no digit. -/
def parF (s : List UInt8) : Nat → List UInt8
  | 0 => List.replicate 32 0
  | k + 1 => (parF s k).set (k / 2) (UInt8.ofNat ((16 * ((parF s k).getD (k / 2) 0).toNat % 256 + (hexi (s.getD k 0).toNat).toNat % 256) % 256))
attribute [local irreducible] parF
/-! ### The document's -/
end Go.Proofs.YtpgdnfgjbhdbpaaGreatDoor.SK

/-
  The sponge: what the law's first line reckons.
  Conditions: none.
-/
namespace Go.Proofs.YtpgdnfgjbhdbpaaGreatDoor.SK
open Go Go.RowKit SL
set_option maxRecDepth 100000
end Go.Proofs.YtpgdnfgjbhdbpaaGreatDoor.SK

/-
  The sponge: the law's first line.
  Conditions: none.
-/
namespace Go.Proofs.YtpgdnfgjbhdbpaaGreatDoor.SK
open Go Go.RowKit SL
set_option maxRecDepth 8000
set_option maxHeartbeats 4000000
set_option linter.unusedSimpArgs false
set_option linter.unusedVariables false
attribute [local irreducible] SL.CW SL.LW SL.DW Calls SL.Ret SL.RetG SL.beginQ SL.roundQ SL.rangeQ SL.inQ SL.RW SL.AnyW SL.thenQ SL.thenC SL.thenW SL.blkQ SL.finQ SL.ValP SL.NewP SL.SetP SL.CallP SL.Rd SL.Wr SL.Known
theorem TurnAt.bel {w w' : World} (h : TurnAt w) (hb : Bel w.heap.size [] w w') : TurnAt w' := by
  obtain ⟨E, fr, h⟩ := h
  exact ⟨E, fr, by rw [hb.block _ (Array.getElem?_eq_some_iff.1 h).1 (by simp)]; exact h⟩
theorem NumAt.bel {w w' : World} (h : NumAt w) (hb : Bel w.heap.size [] w w') : NumAt w' := by
  obtain ⟨E, fr, h⟩ := h
  exact ⟨E, fr, by rw [hb.block _ (Array.getElem?_eq_some_iff.1 h).1 (by simp)]; exact h⟩
end Go.Proofs.YtpgdnfgjbhdbpaaGreatDoor.SK

/-
  The sponge: what the laws do with bytes.
  Conditions: none.
-/
namespace Go.Proofs.YtpgdnfgjbhdbpaaGreatDoor.SK
open Go Go.RowKit SL
set_option maxRecDepth 8000
set_option maxHeartbeats 4000000
set_option linter.unusedSimpArgs false
set_option linter.unusedVariables false
attribute [local irreducible] SL.CW SL.LW SL.DW Calls SL.Ret SL.RetG SL.beginQ SL.roundQ SL.rangeQ SL.inQ SL.RW SL.AnyW SL.thenQ SL.thenC SL.thenW SL.blkQ SL.finQ SL.ValP SL.NewP SL.SetP SL.CallP SL.Rd SL.Wr SL.Known
theorem Clone_calls (l : List UInt8) (v : Value) (w : World) (hv : RowAt w 1 v l.length (ucs l)) (hl : l.length ≤ 100000) : Calls Tryz.prog 12 #[v] w (RetG w [] (fun v' gs => IsRow 5 1 v' l.length (ucs l) gs)) := by
  obtain ⟨p, c, rfl, _, _⟩ := hv.form
  cases p with
  | none =>
    have h0 : l.length = 0 := by
      rcases Nat.eq_zero_or_pos l.length with h | h
      · exact h
      · obtain ⟨_, _, _, _, _, _, he, _, _⟩ := hv.pos h
        cases he
    have hn : l = [] := List.length_eq_zero_iff.1 h0
    subst hn
    refine enter (args := [_]) _ [] [] Tryz.func12 rfl Tryz.ntmps12 rfl (by simp) .nil ?_
    (refine sRz ?_; refine vAz ?_; refine nNz ?_; refine CW.seq ?_; refine sRz ?_; refine vMz ?_; apply LW.v0; rfl; rfl; apply ValP.sliNilT; rfl; rfl; refine nNz ?_; refine cTz ?_; refine sRz ?_; refine vAz ?_; refine nNz ?_; refine CW.ret ?_; refine thenR ?_)
    exact fin [] (.inl rfl) rfl rfl (by (apply ResL.cons; exact Res.tmp rfl; exact ResL.nil)) (List.Sublist.refl _) .nil
  | some a =>
    refine enter (args := [_]) _ [] [] Tryz.func12 rfl Tryz.ntmps12 rfl (by simp) .nil ?_
    (refine sRz ?_; refine vAz ?_; refine nNz ?_; refine CW.seq ?_; refine sRz ?_; refine vMz ?_; apply LW.v0; rfl; rfl; apply ValP.sliNilF; rfl; rfl; refine nNz ?_; refine cFz ?_; refine CW.skip ?_; refine thenN ?_; refine sRz ?_)
    refine LW.lay0 rfl inferInstance inferInstance fun v0 seg hrow => ?_
    (refine vMz ?_)
    (apply LW.appendAny; (case hrow => assumption); rfl; rfl; infer_instance; infer_instance; infer_instance; rfl; rfl; rfl; exact AtSeg.head)
    · exact fun w hs => hv.st hs
    · exact ucs_cells l
    · simp only [maxLen]; omega
    · omega
    intro v1 seg1 hrow1
    refine ⟨_, (by (exact AtSeg.head)), ?_⟩
    simp only [List.nil_append, Nat.zero_add, List.append_nil] at hrow1 ⊢
    (refine vAz ?_; refine nNz ?_; refine CW.ret ?_)
    refine fin (vs := [v1]) seg1 (.inl rfl) rfl rfl (by (apply ResL.cons; exact Res.tmp rfl; exact ResL.nil)) ?_ hrow1
    (exact List.Sublist.refl _)
/-! ### Bytes compared -/
def litF (l : List UInt8) : Nat → Nat
  | 0 => 0
  | k + 1 => litF l k ||| ((l.getD k 0).toNat * 2 ^ (8 * k) % 18446744073709551616)
attribute [local irreducible] litF
end Go.Proofs.YtpgdnfgjbhdbpaaGreatDoor.SK

/-
  A scratch: copies, pushes.
  Conditions: none.
-/
namespace Go.Proofs.YtpgdnfgjbhdbpaaGreatDoor
open Go Go.RowKit SL
set_option maxRecDepth 8000
set_option maxHeartbeats 4000000
set_option linter.unusedSimpArgs false
set_option linter.unusedVariables false
attribute [local irreducible] SL.CW SL.LW SL.DW Calls SL.Ret SL.RetG SL.beginQ SL.roundQ SL.rangeQ SL.inQ SL.RW SL.AnyW SL.thenQ SL.thenC SL.thenW SL.blkQ SL.finQ SL.ValP SL.NewP SL.SetP SL.CallP SL.Rd SL.Wr SL.Known
theorem CloneW_calls (l : List Nat) (v : Value) (w : World) (hv : RowAt w 4 v l.length (wcs l)) (hl : l.length ≤ 100000) : Calls Tryz.prog 38 #[v] w (RetG w [] (fun v' gs => IsRow 29 4 v' l.length (wcs l) gs)) := by
  obtain ⟨p, c, rfl, _, _⟩ := hv.form
  cases p with
  | none =>
    have h0 : l.length = 0 := by
      rcases Nat.eq_zero_or_pos l.length with h | h
      · exact h
      · obtain ⟨_, _, _, _, _, _, he, _, _⟩ := hv.pos h
        cases he
    have hn : l = [] := List.length_eq_zero_iff.1 h0
    subst hn
    refine enter (args := [_]) _ [] [] Tryz.func38 rfl Tryz.ntmps38 rfl (by simp) .nil ?_
    (refine sRz ?_; refine vAz ?_; refine nNz ?_; refine CW.seq ?_; refine sRz ?_; refine vMz ?_; apply LW.v0; rfl; rfl; apply ValP.sliNilT; rfl; rfl; refine nNz ?_; refine cTz ?_; refine sRz ?_; refine vAz ?_; refine nNz ?_; refine CW.ret ?_; refine thenR ?_)
    exact fin [] (.inl rfl) rfl rfl (by (apply ResL.cons; exact Res.tmp rfl; exact ResL.nil)) (List.Sublist.refl _) .nil
  | some a =>
    refine enter (args := [_]) _ [] [] Tryz.func38 rfl Tryz.ntmps38 rfl (by simp) .nil ?_
    (refine sRz ?_; refine vAz ?_; refine nNz ?_; refine CW.seq ?_; refine sRz ?_; refine vMz ?_; apply LW.v0; rfl; rfl; apply ValP.sliNilF; rfl; rfl; refine nNz ?_; refine cFz ?_; refine CW.skip ?_; refine thenN ?_; refine sRz ?_)
    refine LW.lay0 rfl inferInstance inferInstance fun v0 seg hrow => ?_
    (refine vMz ?_)
    (apply LW.appendAny; (case hrow => assumption); rfl; rfl; infer_instance; infer_instance; infer_instance; rfl; rfl; rfl; exact AtSeg.head)
    · exact fun w hs => hv.st hs
    · exact wcs_cells l
    · simp only [maxLen]; omega
    · omega
    intro v1 seg1 hrow1
    refine ⟨_, (by (exact AtSeg.head)), ?_⟩
    simp only [List.nil_append, Nat.zero_add, List.append_nil] at hrow1 ⊢
    (refine vAz ?_; refine nNz ?_; refine CW.ret ?_)
    refine fin (vs := [v1]) seg1 (.inl rfl) rfl rfl (by (apply ResL.cons; exact Res.tmp rfl; exact ResL.nil)) ?_ hrow1
    (exact List.Sublist.refl _)
def wM (l : List Nat) (v : Value) (gs : Fs) : Prop := IsRow 29 4 v l.length (wcs l) gs
def bM (l : List UInt8) (v : Value) (gs : Fs) : Prop := IsRow 5 1 v l.length (ucs l) gs
/-- A scratch of its own. -/
def ScO (ws : List Nat) (ms : List UInt8) (v : Value) (gs : Fs) : Prop := ∃ s m g1 g2, v = .agg #[s, m] ∧ gs = g2 ++ g1 ∧ wM ws s g1 ∧ bM ms m g2
theorem copied_calls (ws : List Nat) (ms : List UInt8) (s m : Value) (w : World) (hs : RowAt w 4 s ws.length (wcs ws)) (hm : RowAt w 1 m ms.length (ucs ms)) (hl : ws.length ≤ 100000) (hl2 : ms.length ≤ 100000) :
    Calls Tryz.prog 140 #[.agg #[s, m]] w (RetG w [] (ScO ws ms)) := by
  obtain ⟨p, c, rfl, _, _⟩ := hs.form
  obtain ⟨p2, c2, rfl, _, _⟩ := hm.form
  refine enter (args := [_]) _ [] [] Tryz.func140 rfl Tryz.ntmps140 rfl (by simp) .nil ?_
  (refine sRz ?_; apply LW.boxA; rfl; rfl; intro _; apply LW.allocA; rfl; intro _; refine nNz ?_; refine CW.seq ?_)
  rename_i b1 b2
  apply CW.pre
  (refine AnyW.anyM [(2, wM ws), (5, bM ms)] 5 mixed (by decide +kernel) ?_)
  ((try simp only [tsOf_cons, tsOf_nil, tsOf_app]); refine dvz (.fieldAddr rfl rfl) ?_; apply DW.loadO; rfl; rfl; rfl; exact WantT.none; rfl; apply TRead.tail; apply TRead.head; exact ancB_nil; exact sc_rd0)
  (apply DW.manyV; rfl; rfl; rfl; exact WantT.none; rfl; infer_instance; exact .cons rfl .nil; apply RdV.ext; assumption; rfl; exact RdV.nil; intro w _ _)
  exact CloneW_calls _ _ w (hs.bel (by assumption)) hl
  intro v1 g1 h1
  ((try simp only [tsOf_cons, tsOf_nil, tsOf_app]); refine dvz (.fieldAddr rfl rfl) ?_; apply DW.loadO; rfl; rfl; rfl; exact WantT.none; rfl; apply TRead.app; apply TRead.tail; apply TRead.head; exact ancB_nil; exact sc_rd1; apply DW.nil; simp only [fsOf_cons, fsOf_nil, fsOf_app, fsOf_tsOf, fsOf_new, fsOf_tag])
  (apply LW.callR; rfl; rfl; infer_instance; exact .cons rfl .nil; intro w hs)
  exact SK.Clone_calls _ _ w (hm.st hs) hl2
  intro v2 g2 h2
  have h1' := h1
  have h2' := h2
  unfold wM at h1'
  unfold bM at h2'
  obtain ⟨q1, k1, rfl⟩ := h1'.form
  obtain ⟨q2, k2, rfl⟩ := h2'.form
  (apply LW.v0; rfl; rfl; apply ValP.buildT; infer_instance; infer_instance; apply PartsOk.cons; rfl; apply PartsOk.cons; rfl; exact PartsOk.nil; rfl; simp only [fillP, wrCells, Value.cells, List.getElem?_cons_zero, List.getElem?_cons_succ, List.toList_toArray, List.setIfInBounds_toArray, List.set_cons_succ, List.set_cons_zero, Nat.reduceAdd, Nat.zero_add]; rfl; refine LW.store rfl rfl (.app (.app .head)) (.whole rfl rfl rfl) ?_; refine nNz ?_; refine CW.ret ?_)
  refine fin (vs := [.agg #[.slice q1 ws.length k1, .slice q2 ms.length k2]]) (g2 ++ g1) (.inl rfl) rfl rfl (by (apply ResL.cons; apply Res.cell; rfl; apply Known.at; apply FsAt.app; apply FsAt.app; apply FsAt.head; exact Rd.whole rfl; exact ResL.nil)) ?_ ⟨_, _, g1, g2, rfl, rfl, h1, h2⟩
  exact List.Sublist.append_left (List.sublist_append_left _ _) _
end Go.Proofs.YtpgdnfgjbhdbpaaGreatDoor

/-
  Bytes put behind one another.
  Conditions: none.
-/
namespace Go.Proofs.YtpgdnfgjbhdbpaaGreatDoor
open Go Go.RowKit SL
set_option maxRecDepth 8000
set_option maxHeartbeats 4000000
set_option linter.unusedSimpArgs false
set_option linter.unusedVariables false
attribute [local irreducible] SL.CW SL.LW SL.DW Calls SL.Ret SL.RetG SL.beginQ SL.roundQ SL.rangeQ SL.inQ SL.RW SL.AnyW SL.thenQ SL.thenC SL.thenW SL.blkQ SL.finQ SL.ValP SL.NewP SL.SetP SL.CallP SL.Rd SL.Wr SL.Known
theorem Grow_calls (n : Nat) (hn : n ≤ 1000000) (w : World) : Calls Tryz.prog 136 #[.slice none 0 0, .int .i64 (n : Int)] w (RetG w [] fun v gs => IsRow 5 1 v 0 [] gs) := by
  refine enter (args := [_, _]) _ [] [] Tryz.func136 rfl Tryz.ntmps136 rfl (by simp) .nil ?_
  rcases Nat.eq_zero_or_pos n with h0 | h0
  · subst h0
    (refine sRz ?_; refine vAz ?_; refine nNz ?_; refine CW.seq ?_; refine sRz ?_; refine vMz ?_; refine lvz (.lssF rfl rfl (by omega)) ?_; refine nNz ?_; refine cFz ?_; refine CW.skip ?_; refine thenN ?_; refine CW.seq ?_; refine sRz ?_; refine vMz ?_; refine vMz ?_; apply LW.v0; rfl; rfl; apply ValP.capS; rfl; infer_instance; rfl; refine vMz ?_; refine lvz (.lenR rfl inferInstance rfl) ?_; refine lvz (.subZ rfl rfl (by omega) (by omega)) ?_; refine lvz (.subZ rfl rfl (by omega) (by omega)) ?_; refine vAz ?_; refine nSz ?_; refine vMz ?_; refine lvz (.gtrF rfl rfl (by omega)) ?_; refine nNz ?_; refine cFz ?_; refine CW.skip ?_; refine thenN ?_; refine sRz ?_; refine vMz ?_; refine vAz ?_; refine nNz ?_; refine CW.ret ?_)
    exact fin (vs := [.slice none 0 0]) [] (.inl rfl) rfl rfl (by (apply ResL.cons; exact Res.tmp rfl; exact ResL.nil)) (List.nil_sublist _) .nil
  · (refine sRz ?_; refine vAz ?_; refine nNz ?_; refine CW.seq ?_; refine sRz ?_; refine vMz ?_; refine lvz (.lssF rfl rfl (by omega)) ?_; refine nNz ?_; refine cFz ?_; refine CW.skip ?_; refine thenN ?_; refine CW.seq ?_; refine sRz ?_; refine vMz ?_; refine vMz ?_; apply LW.v0; rfl; rfl; apply ValP.capS; rfl; infer_instance; rfl; refine vMz ?_; refine lvz (.lenR rfl inferInstance rfl) ?_; refine lvz (.subZ rfl rfl (by omega) (by omega)) ?_; refine lvz (.subZ rfl rfl (by omega) (by omega)) ?_; refine vAz ?_; refine nSz ?_; refine vMz ?_; refine lvz (.gtrT rfl rfl (by omega)) ?_; refine nNz ?_; refine cTz ?_; refine CW.region ?_; refine vMz ?_; refine vMz ?_; apply LW.v0; rfl; rfl; apply ValP.capS; rfl; infer_instance; rfl; refine lvz (.cutTo inferInstance inferInstance rfl rfl (by omega)) ?_; refine vMz ?_)
    refine LW.appendZ (m := n) (n := 0) (xs := []) (seg := []) (pre := []) (v := .slice none 0 0) rfl rfl inferInstance inferInstance inferInstance inferInstance rfl rfl rfl (congrArg (fun z => some (Value.int .i64 z)) (by omega)) (AtSeg.head (seg := [])) .nil (by simp only [maxLen]; omega) (by omega) ?_
    intro v' seg' h'
    refine ⟨seg' ++ _, AtSeg.head, ?_⟩
    rw [Nat.zero_add] at h'
    obtain ⟨q', c', rfl⟩ := id h'.form
    obtain ⟨g, cur, rfl, rfl, h1, h2, h3, h4⟩ := h'.pos h0
    (refine vMz ?_; refine lvz (.lenR rfl inferInstance rfl) ?_; refine lvz (.cutTo inferInstance inferInstance rfl rfl (by omega)) ?_; refine vAz ?_; refine nSz ?_; refine vMz ?_; refine vAz ?_; refine nNz ?_; refine CW.ret ?_)
    refine fin (vs := [.slice (some ⟨g, 0, none⟩) 0 _]) [(g, .cells cur 5 (0, 0))] (.inl rfl) rfl rfl (by (apply ResL.cons; exact Res.tmp rfl; exact ResL.nil)) (List.sublist_append_left _ _) (.own (Nat.zero_le _) h2 h3 (by simp) rfl)
/-- What rows of bytes come to, one behind the other. -/
def catL (l : List (Value × List UInt8)) : List UInt8 := l.flatMap fun x => x.2
theorem catL_snoc (l : List (Value × List UInt8)) (k : Nat) (h : k < l.length) : catL (l.take (k + 1)) = catL (l.take k) ++ l[k].2 := by
  unfold catL
  rw [List.take_succ_eq_append_getElem h, List.flatMap_append]
  simp
theorem catL_le (l : List (Value × List UInt8)) (k : Nat) : (catL (l.take k)).length ≤ (catL l).length := by
  have h : catL l = catL (l.take k) ++ catL (l.drop k) := by
    unfold catL
    rw [← List.flatMap_append, List.take_append_drop]
  rw [h, List.length_append]
  omega
structure CX where
  k : Nat
  v : Value
  seg : Fs
theorem Concat_calls (l : List (Value × List UInt8)) (lv : Value) (w : World) (hl : RowAt w 1 lv l.length (vcs l)) (hr : ∀ x ∈ l, RowAt w 1 x.1 x.2.length (ucs x.2)) (hb : (catL l).length ≤ 100000) :
    Calls Tryz.prog 107 #[lv] w (RetG w [] (bM (catL l))) := by
  obtain ⟨p, c, rfl, hc, hm⟩ := id hl.form
  simp only [maxLen] at hm
  refine enter (args := [_]) _ [] [] Tryz.func107 rfl Tryz.ntmps107 rfl (by simp) .nil ?_
  (refine sRz ?_; refine vAz ?_; refine nSz ?_; refine vAz ?_; refine nNz ?_; refine CW.seq ?_; refine sRz ?_; refine vMz ?_; refine lvz (.lenR rfl inferInstance rfl) ?_; refine vMz ?_; refine nNz ?_; refine CW.block ?_)
  refine CW.loop (fun k : Nat => ([(11, .int .i64 (k : Int)), (10, .int .i64 (l.length : Int)), (9, .slice p l.length c), (3, .int .i64 ((catL (l.take k)).length : Int)), (0, .slice p l.length c)], []))
    (fun k => k ≤ l.length) (fun k => l.length - k) 0 (Nat.zero_le _) ⟨rfl, rfl, rfl, rfl, rfl, trivial⟩ (List.Sublist.refl _) ?_
  intro k hk
  dsimp only at hk ⊢
  have hkl := catL_le l k
  rcases Nat.lt_or_ge k l.length with hlt | hge
  · obtain ⟨bt, offt, ct', cst, Et, frt, heqt, hbt', hxt⟩ := hl.pos (by omega)
    cases heqt
    have hrdt : Rd Tryz.prog 22 (.cells cst Et frt) (offt + k * 1) l[k].1 := Rd.elem1 hxt (vcs_one l) (List.getElem?_eq_getElem hlt) rfl
    have hx := hr _ (List.getElem_mem hlt)
    have hsn := congrArg List.length (catL_snoc l k hlt)
    have hkl2 := catL_le l (k + 1)
    rw [List.length_append] at hsn
    obtain ⟨px, cx, hpx, hcx, hmx⟩ := id hx.form
    rw [hpx] at hrdt
    generalize l[k].2 = y at *
    (refine sRz ?_; refine lvz (.lssT rfl rfl (by omega)) ?_; refine nNz ?_; refine CW.seq ?_; refine cTz ?_; refine CW.skip ?_; refine thenN ?_; refine CW.seq ?_; refine CW.block ?_; refine sRz ?_; refine lvz (.indexAddrS rfl rfl rfl (by omega)) ?_; apply LW.load; rfl; rfl; exact Known.ext (by assumption) (by simp); assumption; refine vAz ?_; refine nSz ?_; refine vMz ?_; refine vMz ?_; refine lvz (.lenR rfl inferInstance rfl) ?_; refine lvz (.addZ rfl rfl (by omega)) ?_; refine vAz ?_; refine nSz ?_; refine vMz ?_; refine lvz (.lssF rfl rfl (by omega)) ?_; refine nNz ?_; refine cFz ?_; refine CW.skip ?_; refine blkN ?_; refine thenN ?_; refine CW.region ?_; refine lvz (.addZL rfl rfl (by decide) (by omega)) ?_; refine vMz ?_; apply LW.nil)
    apply thenX
    refine ⟨rfl, k + 1, hlt, by omega, ⟨rfl, rfl, rfl, ?_, rfl, trivial⟩, List.Sublist.refl _⟩
    rw [hsn]
    rfl
  · obtain rfl : k = l.length := by omega
    rw [List.take_length]
    (refine sRz ?_; refine lvz (.lssF rfl rfl (by omega)) ?_; refine nNz ?_; refine CW.seq ?_; refine cFz ?_; refine CW.exit ?_; refine thenE ?_; refine thenE ?_; refine blkE rfl ?_; refine thenN ?_; refine sRz ?_; refine vMz ?_)
    refine LW.callR rfl rfl inferInstance (by (exact .cons rfl (.cons rfl .nil))) (fun w hst => Grow_calls (catL l).length (by omega) w) ?_
    rintro v gs hgs
    (refine vAz ?_; refine nNz ?_; refine CW.seq ?_; refine sRz ?_; refine vMz ?_; refine lvz (.lenR rfl inferInstance rfl) ?_; refine vMz ?_; refine nNz ?_; refine CW.block ?_)
    clear hkl hk hge
    refine CW.loop (fun x : CX => ([(27, .int .i64 (x.k : Int)), (26, .int .i64 (l.length : Int)), (25, .slice p l.length c), (6, x.v)], x.seg ++ []))
      (fun x => x.k ≤ l.length ∧ IsRow 5 1 x.v (catL (l.take x.k)).length (ucs (catL (l.take x.k))) x.seg) (fun x => l.length - x.k) ⟨0, v, gs⟩
      ⟨Nat.zero_le _, hgs⟩ ⟨rfl, rfl, rfl, rfl, trivial⟩ (List.Sublist.refl _) ?_
    rintro ⟨k, v, seg⟩ ⟨hk, hR⟩
    dsimp only at hk hR ⊢
    have hkl := catL_le l k
    obtain ⟨pv, cv, rfl⟩ := hR.form
    rcases Nat.lt_or_ge k l.length with hlt | hge
    · obtain ⟨bt, offt, ct', cst, Et, frt, heqt, hbt', hxt⟩ := hl.pos (by omega)
      cases heqt
      have hrdt : Rd Tryz.prog 22 (.cells cst Et frt) (offt + k * 1) l[k].1 := Rd.elem1 hxt (vcs_one l) (List.getElem?_eq_getElem hlt) rfl
      have hx := hr _ (List.getElem_mem hlt)
      have hsn := catL_snoc l k hlt
      have hkl2 := catL_le l (k + 1)
      obtain ⟨px, cx, hpx, hcx, hmx⟩ := id hx.form
      rw [hpx] at hrdt hx
      generalize l[k].2 = y at *
      have hsl := congrArg List.length hsn
      rw [List.length_append] at hsl
      (refine sRz ?_; refine lvz (.lssT rfl rfl (by omega)) ?_; refine nNz ?_; refine CW.seq ?_; refine cTz ?_; refine CW.skip ?_; refine thenN ?_; refine CW.seq ?_; refine CW.block ?_; refine sRz ?_; refine lvz (.indexAddrS rfl rfl rfl (by omega)) ?_; apply LW.load; rfl; rfl; exact Known.ext (by assumption) (by simp); assumption; refine vAz ?_; refine nNz ?_; refine CW.region ?_; refine vMz ?_; refine vMz ?_)
      refine LW.appendAny (n := (catL (l.take k)).length) (m := y.length) (news := ucs y) rfl rfl inferInstance inferInstance inferInstance rfl rfl rfl (by (exact AtSeg.head)) hR (fun w hs => hx.st hs) (ucs_cells _) (by simp only [maxLen]; omega) (by omega) ?_
      intro vy segy hrowy
      refine ⟨_, (by (exact AtSeg.head)), ?_⟩
      rw [← ucs_app, ← hsn, ← hsl] at hrowy
      (refine vAz ?_; apply LW.nil; refine blkN ?_; refine thenN ?_; refine CW.region ?_; refine lvz (.addZL rfl rfl (by decide) (by omega)) ?_; refine vMz ?_; apply LW.nil)
      apply thenX
      exact ⟨rfl, ⟨k + 1, vy, segy⟩, ⟨hlt, hrowy⟩, by show l.length - (k + 1) < l.length - k; omega, ⟨rfl, rfl, rfl, rfl, trivial⟩, List.Sublist.refl _⟩
    · obtain rfl : k = l.length := by omega
      rw [List.take_length] at hR ⊢
      (refine sRz ?_; refine lvz (.lssF rfl rfl (by omega)) ?_; refine nNz ?_; refine CW.seq ?_; refine cFz ?_; refine CW.exit ?_; refine thenE ?_; refine thenE ?_; refine blkE rfl ?_; refine thenN ?_; refine sRz ?_; refine vMz ?_; refine vAz ?_; refine nNz ?_; refine CW.ret ?_)
      refine fin (vs := [_]) seg (.inl rfl) rfl rfl (by (apply ResL.cons; exact Res.tmp rfl; exact ResL.nil)) (List.sublist_append_left _ _) hR
end Go.Proofs.YtpgdnfgjbhdbpaaGreatDoor

/-
  A SMALL LOGIC OVER THE KIT's WALK, PART MY: what is put behind an empty slice, in whatever order.
  Conditions: none; over any program.
-/
namespace Go.Proofs.YtpgdnfgjbhdbpaaGreatDoor.SL
set_option linter.unusedVariables false
set_option linter.unusedSimpArgs false
open Go Go.RowKit
section dw
variable {C : Cu} {ops : Array Oper} {μ : Mu} {Q : Post} {tl rest : List Oper} {k d : Nat} {e : Env} {ts : Ts} {t : TypeId} {pos : String} {af : Array Edge} {g : Option (Nat × Bool)}
theorem DW.lay0 {T E sz : TypeId} {z : Value} (hk : ops[k]? = some ⟨some d, .buildSlice T 0 #[], t, pos, af, g⟩) (hm : μ k = none) (hd : Nat.blt d C.N = true) (hg : WantT ops e g) (hU : UnI C.P T (.slice E)) (hI : InfoI C.P E sz z)
    (kk : ∀ b, DW C ops μ Q tl rest (k + 1) ((d, .slice (some ⟨b, 0, none⟩) 0 0) :: e) ((b, .cells #[] E (0, 0), [k], []) :: ts)) : DW C ops μ Q tl (⟨some d, .buildSlice T 0 #[], t, pos, af, g⟩ :: rest) k e ts :=
  DW.new hk hm hd hg rfl (NewP.build0 hU hI) kk
end dw
end Go.Proofs.YtpgdnfgjbhdbpaaGreatDoor.SL

/-
  A SMALL LOGIC OVER THE KIT's WALK, PART MZ: within a region, what is behind ways that part told once.
  Conditions: none; over any program.
-/
namespace Go.Proofs.YtpgdnfgjbhdbpaaGreatDoor.SL
set_option linter.unusedVariables false
set_option linter.unusedSimpArgs false
open Go Go.RowKit
theorem upon_join {F : Fence} {n : Nat} {P : Program} {o : Oper} {a : Act} {w : World} {K K' : Act → World → Prop} {Q Q' : Exit → Act → World → Prop} (h : ∀ a w, K a w → K' a w) (hp : ∀ ch a w, Q (.panic ch) a w → Q' (.panic ch) a w) (hl : LetsOut Q → LetsOut Q')
    (hh : o.wpIn F n P a w K Q) : o.wpIn F n P a w K' Q' := by
  unfold Oper.wpIn at *
  refine ⟨hh.1, ?_⟩
  have hh := hh.2
  generalize (o.semAt F.round a.eval).run P w = r at *
  cases r with
  | ok x w' =>
    cases x <;> simp only [Oper.uponIn] at hh ⊢ <;>
      first
        | exact h _ _ hh
        | exact ⟨hh.1, CallsIn.mono hh.2 (fun e w'' he => by cases e <;> first | exact h _ _ he | exact hp _ _ _ he | exact hl he)⟩
        | exact ⟨hh.1, RowsIn.mono hh.2 (fun _ _ he => h _ _ he)⟩
        | exact ⟨hh.1, RoundIn.mono hh.2 (fun e w'' he => by cases e <;> first | exact h _ _ he | exact hp _ _ _ he | exact hl he)⟩
  | halt x w' => cases x <;> simp only [Oper.uponIn] at hh ⊢ <;> first | exact hp _ _ _ hh | exact hh
theorem list_join {F : Fence} {n : Nat} {P : Program} {ops : Array Oper} {Qm Q : Exit → Act → World → Prop} {l2 : List Oper} (hn : ∀ a w, Qm .normal a w → wpListIn F n P ops Q l2 a w) (hp : ∀ ch a w, Qm (.panic ch) a w → Q (.panic ch) a w) (hl : LetsOut Qm → LetsOut Q) :
    ∀ (l1 : List Oper) (a : Act) (w : World), wpListIn F n P ops Qm l1 a w → wpListIn F n P ops Q (l1 ++ l2) a w
  | [], a, w, h => hn a w h
  | o :: r, a, w, h => by
    rw [List.cons_append]
    unfold wpListIn at h ⊢
    split
    · rename_i hw
      rw [if_pos hw] at h
      exact upon_join (fun a w h => list_join hn hp hl r a w h) hp hl h
    · rename_i hw
      rw [if_neg hw] at h
      exact ⟨h.1, list_join hn hp hl r _ _ h.2⟩
/-- The end of a part of a region: the state is as told, or else. -/
def joinQ (C : Cu) (e1 : Env) (fs1 : Fs) (Q : Post) : Post := fun x ds e fs => match x with
  | .normal => ds = C.ds ∧ e.le e1 ∧ List.Sublist fs1 fs
  | x => Q x ds e fs
/-- The first k operations lead to what is told, whatever way they take; the others follow from that. -/
theorem LW.join {C : Cu} {ops : Array Oper} {Q : Post} {l : List Oper} {e : Env} {fs : Fs} (k : Nat) (e1 : Env) (fs1 : Fs) (h2 : LW C ops Q (l.drop k) e1 fs1) (h1 : LW C ops (joinQ C e1 fs1 Q) (l.take k) e fs) : LW C ops Q l e fs := fun a w hs => by
  have h := h1 a w hs
  rw [← List.take_append_drop k l]
  refine list_join (fun a w hq => ?_) (fun ch a w hq => ?_) (fun hq => ?_) _ _ _ h
  · obtain ⟨ds, e', fs', ⟨rfl, h4, h5⟩, s⟩ := hq
    exact h2 a w (fs_sub s h4 h5)
  · obtain ⟨ds, e', fs', hq, s⟩ := hq
    exact ⟨ds, e', fs', hq, s⟩
  · obtain ⟨a, w, ds, e', fs', hq, s⟩ := hq
    exact ⟨a, w, ds, e', fs', hq, s⟩
theorem joinI {C : Cu} {e1 e : Env} {fs1 fs : Fs} {Q : Post} (h1 : e.le e1) (h2 : List.Sublist fs1 fs) : joinQ C e1 fs1 Q .normal C.ds e fs := ⟨rfl, h1, h2⟩
/-! ### x[:j:k]; nothing copied -/
section hm
variable {P : Program} {e : Env} {T : TypeId} {x : Operand} {n : Nat}
theorem run_slice_hm {w : World} {a : Option Addr} {len cap : Nat} (ht : P.underlying T = some (.slice (P.elem T))) (kh km : IntKind) (h m : Int) (h0 : 0 ≤ h) (h2 : h ≤ m) (h3 : m ≤ cap) :
    (Instr.slice T (.slice a len cap) none (some (.int kh h)) (some (.int km m))).run P w = ((sizeOf (P.elem T)).run P w).andThen fun s w => .ok (sliced a 0 h.toNat m.toNat s) w := by
  have eh : (h.toNat : Int) = h := Int.toNat_of_nonneg (by omega)
  have em : (m.toNat : Int) = m := Int.toNat_of_nonneg (by omega)
  simp [Instr.slice, run_underlying ht, Instr.sliceBounds, run_sliceBound, sliced, *, eh, em, (by omega : 0 ≤ h), (by omega : 0 ≤ m)]
theorem ValP.cutMax {ik im : IntKind} {E j k c sz : Nat} {z : Value} {p : Option Addr} {hi mx : Operand} (hU : UnI P T (.slice E)) (hI : InfoI P E sz z) (hx : e.ev x = some (.slice p n c)) (hh : e.ev hi = some (.int ik (j : Int))) (hm : e.ev mx = some (.int im (k : Int))) (h2 : j ≤ k) (h3 : k ≤ c) :
    ValP P e [] (.slice T x none (some hi) (some mx)) (.slice p j k) := fun ρ w hρ _ d t pos af g => by
  have hu : P.underlying T = some (.slice E) := hU.un
  have h1 := run_slice_hm (P := P) (T := T) (w := w) (a := p) (len := n) (cap := c) (elem_un hu) ik im (j : Int) (k : Int) (by omega) (by omega) (by omega)
  rw [elem_eq hu, run_size] at h1
  have h2 : (Instr.sliceAt T (.slice p n c) none (some (.int ik (j : Int))) (some (.int im (k : Int)))).run P w = .ok (.slice p j k) w := by
    rw [run_sliceAt_slice (w := w) T _ _ _ _ (elem_un hu), h1]
    simp only [Result.andThen_ok, sliced, Int.toNat_natCast, Nat.sub_zero, Nat.zero_mul]
    cases p with
    | none => simp
    | some a => cases a with | mk b o s => simp [addr_add, Addr.add]
  simp [execOp, hρ x _ hx, hρ hi _ hh, hρ mx _ hm, h2]
end hm
/-- **copy(x, y)** of none. -/
theorem LW.copyNone {C : Cu} {ops : Array Oper} {Q : Post} {rest : List Oper} {e : Env} {fs : Fs} {d : Nat} {t : TypeId} {pos : String} {af : Array Edge} {x y : Operand} {tys : Array TypeId} {T E bytes : TypeId} {z : Value} {p q : Option Addr} {n c m c' : Nat} (hd : Nat.blt d C.N = true) (hT : tys = #[T, T]) (hU : UnI C.P T (.slice E)) (hI : InfoI C.P E 1 z) (hB : BytI C.P E bytes)
    (hx : e.ev x = some (.slice p n c)) (hy : e.ev y = some (.slice q m c')) (h0 : Nat.min m n = 0) (k : LW C ops Q rest ((d, .int .i64 0) :: e) fs) :
    LW C ops Q (⟨some d, .call { callee := .builtin .copy, args := #[x, y], argTypes := tys }, t, pos, af, none⟩ :: rest) e fs := by
  subst hT
  have hsz : (C.P.info? E).map (·.size) = some 1 := by
    obtain ⟨i, i1, i2, i3, i4⟩ := info_all (P := C.P) (T := E); rw [i1]; simp [i2]
  refine LW.v0 hd rfl (fun ρ w hρ _ d t pos af g => ?_) k
  have hrun := run_copy_none (P := C.P) w T T t E p q n c m c' hU.un hsz h0
  simp [execOp, resolve, invoke, builtin, hρ x _ hx, hρ y _ hy, hrun, goInt]
/-! ### Drawn calls that are handed values of parts -/
section dv
variable {C : Cu} {ops : Array Oper} {Q : Post} {tl rest : List Oper} {e : Env} {ts : Ts} {μ : Mu} {k d : Nat} {t : TypeId} {pos : String} {af : Array Edge} {g : Option (Nat × Bool)} {fo : Operand} {args : Array Operand} {tys : Array TypeId} {f : FuncId} {vs vs' : List Value} {us : Fs} {ts' : Ts}
theorem DW.callW {v : Value} (hk : ops[k]? = some ⟨some d, .call { callee := .value fo, args := args, argTypes := tys }, t, pos, af, g⟩) (hm : μ k = none)
    (hd : Nat.blt d C.N = true) (hg : WantT ops e g) (hf : e.ev fo = some (.func (.func f) #[] #[])) (hF : FnI C.P f) (ha : ArgsOk e args.toList vs) (hbl : vs.flatMap (blocksN 4) = vs'.flatMap (blocksN 4)) (hr : RdV C ops k vs' ts us ts')
    (hc : ∀ w, Bel C.w0.heap.size C.S C.w0 w → (∀ p ∈ us, w.heap[p.1]? = some p.2) → Calls C.P f vs.toArray w (Ret w v)) (kk : DW C ops μ Q tl rest (k + 1) ((d, v) :: e) ts') :
    DW C ops μ Q tl (⟨some d, .call { callee := .value fo, args := args, argTypes := tys }, t, pos, af, g⟩ :: rest) k e ts := by
  obtain ⟨us2, h1, h2⟩ := hr.all
  rw [← hbl] at h1
  exact DW.callE hk hm hd hg hf hF ha (show _ = vs.flatMap (blocksN 4) from rfl) h1 (fun w hb hu => hc w hb fun p hp => hu p (h2 p hp)) kk
theorem DW.manyW {M : Rel1} (hk : ops[k]? = some ⟨some d, .call { callee := .value fo, args := args, argTypes := tys }, t, pos, af, g⟩) (hm : μ k = some (cst M, (false : Fl)))
    (hd : Nat.blt d C.N = true) (hg : WantT ops e g) (hf : e.ev fo = some (.func (.func f) #[] #[])) (hF : FnI C.P f) (ha : ArgsOk e args.toList vs) (hbl : vs.flatMap (blocksN 4) = vs'.flatMap (blocksN 4)) (hr : RdV C ops k vs' ts us ts')
    (hc : ∀ w, Bel C.w0.heap.size C.S C.w0 w → (∀ p ∈ us, w.heap[p.1]? = some p.2) → Calls C.P f vs.toArray w (RetG w [] M)) (kk : ∀ v gs, M v gs → DW C ops μ Q tl rest (k + 1) ((d, v) :: e) (tsNew k gs ++ ts')) :
    DW C ops μ Q tl (⟨some d, .call { callee := .value fo, args := args, argTypes := tys }, t, pos, af, g⟩ :: rest) k e ts := by
  obtain ⟨us2, h1, h2⟩ := hr.all
  rw [← hbl] at h1
  exact DW.manyE hk hm hd hg hf hF ha (show _ = vs.flatMap (blocksN 4) from rfl) h1 (fun w hb hu => hc w hb fun p hp => hu p (h2 p hp)) kk
theorem blocks_sl {x : Value} (h : ∃ p n c, x = .slice p n c) : blocksN 3 x = blocksN 4 x := by
  obtain ⟨p, n, c, rfl⟩ := h
  cases p <;> rfl
end dv
/-! ### What is put behind an empty slice: a row of ours, in whatever order -/
section de
variable {C : Cu} {ops : Array Oper} {μ : Mu} {Q : Post} {tl rest : List Oper} {k d : Nat} {e : Env} {ts : Ts} {t : TypeId} {pos : String} {af : Array Edge} {g : Option (Nat × Bool)}
end de
end Go.Proofs.YtpgdnfgjbhdbpaaGreatDoor.SL

/-
  An address's bytes.
  Conditions: none.
-/
namespace Go.Proofs.YtpgdnfgjbhdbpaaGreatDoor
open Go Go.RowKit SL
set_option maxRecDepth 8000
set_option maxHeartbeats 4000000
set_option linter.unusedSimpArgs false
set_option linter.unusedVariables false
attribute [local irreducible] SL.CW SL.LW SL.DW Calls SL.Ret SL.RetG SL.beginQ SL.roundQ SL.rangeQ SL.inQ SL.RW SL.AnyW SL.thenQ SL.thenC SL.thenW SL.blkQ SL.finQ SL.ValP SL.NewP SL.SetP SL.CallP SL.Rd SL.Wr SL.Known
/-- The lowest j bytes, the others 0. -/
def putL (X j : Nat) : List UInt8 := List.replicate (8 - j) 0 ++ (beb 8 X).drop (8 - j)
theorem putL_len (X j : Nat) : (putL X j).length = 8 := by
  unfold putL
  rw [List.length_append, List.length_replicate, List.length_drop, beb_len]
  omega
theorem putL_get (X j i : Nat) (h : i < 8) : (putL X j)[i]? = some (if i < 8 - j then 0 else UInt8.ofNat (X / 256 ^ (7 - i))) := by
  unfold putL
  split
  · rename_i h2
    rw [List.getElem?_append_left (by simpa using h2), List.getElem?_replicate, if_pos h2]
  · rename_i h2
    rw [List.getElem?_append_right (by simp; omega), List.length_replicate, List.getElem?_drop, show 8 - j + (i - (8 - j)) = i by omega, beb_get _ _ _ h]
theorem putL_step (X j : Nat) (h : j < 8) : (putL X j).take (7 - j) ++ [UInt8.ofNat (X / 256 ^ j)] ++ (putL X j).drop (7 - j + 1) = putL X (j + 1) := by
  apply List.ext_getElem?
  intro i
  have hl := putL_len X j
  rcases Nat.lt_or_ge i 8 with hi | hi
  · rw [putL_get X (j + 1) i hi]
    rcases Nat.lt_trichotomy i (7 - j) with h1 | h1 | h1
    · rw [List.append_assoc, List.getElem?_append_left (by rw [List.length_take]; omega), List.getElem?_take_of_lt h1, putL_get X j i hi, if_pos (by omega), if_pos (by omega)]
    · subst h1
      rw [List.append_assoc, List.getElem?_append_right (by rw [List.length_take]; omega), List.length_take, show 7 - j - min (7 - j) (putL X j).length = 0 by omega, if_neg (by omega), show 7 - (7 - j) = j by omega]
      rfl
    · rw [List.getElem?_append_right (by rw [List.length_append, List.length_take, List.length_singleton]; omega), List.length_append, List.length_take, List.length_singleton, List.getElem?_drop, show 7 - j + 1 + (i - (min (7 - j) (putL X j).length + 1)) = i by omega, putL_get X j i hi, if_neg (by omega), if_neg (by omega)]
  · rw [List.getElem?_eq_none (by rw [List.length_append, List.length_append, List.length_take, List.length_singleton, List.length_drop]; omega), List.getElem?_eq_none (by rw [putL_len]; omega)]
theorem putL_done (X j : Nat) (h : X / 256 ^ j = 0) (hj : j ≤ 8) : putL X j = beb 8 X := by
  apply List.ext_getElem?
  intro i
  rcases Nat.lt_or_ge i 8 with hi | hi
  · rw [putL_get X j i hi, beb_get _ _ _ hi]
    split
    · rename_i h2
      have : X / 256 ^ (8 - 1 - i) = 0 := by
        have h3 : 256 ^ j ≤ 256 ^ (8 - 1 - i) := Nat.pow_le_pow_right (by decide) (by omega)
        have h4 : X < 256 ^ j := by
          rcases Nat.lt_or_ge X (256 ^ j) with h | h5
          · exact h
          · have := Nat.div_pos h5 (Nat.pow_pos (by decide))
            omega
        exact Nat.div_eq_of_lt (by omega)
      rw [this]
      rfl
    · rfl
  · rw [List.getElem?_eq_none (by rw [putL_len]; omega), List.getElem?_eq_none (by rw [beb_len]; omega)]
theorem put_zero (X : Nat) : putL X 0 = List.replicate 8 0 := by
  unfold putL
  rw [List.drop_eq_nil_of_le (by rw [beb_len]; omega), List.append_nil]
theorem ucs_zero (n : Nat) : ucs (List.replicate n 0) = List.replicate n (Value.int .u8 0) := by
  rw [ucs_map, List.map_replicate]
  rfl
theorem Put64_calls (X : Nat) (hX : X < 18446744073709551616) (w : World) : Calls Tryz.prog 108 #[.slice none 0 0, .int .u64 (X : Int)] w (RetG w [] (bM (beb 8 X))) := by
  refine enter (args := [_, _]) _ [] [] Tryz.func108 rfl Tryz.ntmps108 rfl (by simp) .nil ?_
  (refine sRz ?_; refine vAz ?_; refine nNz ?_; refine CW.scope ?_; refine sRz ?_; refine vMz ?_; refine lvz (.lenR rfl inferInstance rfl) ?_; refine lvz (.addZL rfl rfl (by decide) (by omega)) ?_)
  refine LW.makeRow (n := 8) rfl inferInstance inferInstance inferInstance rfl rfl (by decide) (by decide) ?_
  intro v seg hrow
  obtain ⟨p, c, rfl⟩ := id hrow.form
  (refine vAz ?_; refine nSz ?_; refine vMz ?_; refine vMz ?_)
  (apply LW.copyNone; rfl; rfl; infer_instance; infer_instance; infer_instance; rfl; rfl; exact Nat.zero_min _)
  (refine nSz ?_; refine vMz ?_; refine lvz (.lenR rfl inferInstance rfl) ?_; refine vAz ?_; refine nNz ?_; refine CW.seq ?_; refine CW.label ?_; refine thenN ?_; refine CW.seq ?_; refine CW.block ?_)
  refine CW.loop (fun x : Nat × Fs => ([(6, .int .i64 ((8 - x.1 : Nat) : Int)), (1, .int .u64 ((X / 256 ^ x.1 : Nat) : Int)), (0, .slice none 0 0), (5, .slice p 8 c)], x.2 ++ []))
    (fun x => x.1 ≤ 8 ∧ IsRow 5 1 (.slice p 8 c) 8 (ucs (putL X x.1)) x.2) (fun x => 8 - x.1) (0, seg)
    ⟨Nat.zero_le _, by dsimp only; rw [put_zero, ucs_zero]; exact hrow⟩ ⟨rfl, by show some (Value.int .u64 (X : Int)) = _; simp, rfl, rfl, trivial⟩ (List.Sublist.refl _) ?_
  rintro ⟨j, sg⟩ ⟨hj, hR⟩
  dsimp only at hj hR ⊢
  have hstep := putL_step X j
  have hdone := fun h => putL_done X j h hj
  have hd8 : X / 256 ^ j / 2 ^ 8 = X / 256 ^ (j + 1) := by show X / 256 ^ j / 256 = X / 256 ^ (j + 1); rw [Nat.div_div_eq_div_mul, Nat.pow_succ]
  have hj8 : j = 8 → X / 256 ^ j = 0 := fun h => by subst h; exact Nat.div_eq_of_lt (by omega)
  have hxl : X / 256 ^ j < 18446744073709551616 := Nat.lt_of_le_of_lt (Nat.div_le_self _ _) hX
  generalize X / 256 ^ j = x at hstep hdone hd8 hj8 hxl ⊢
  by_cases hx : x = 0
  · rw [hdone hx] at hR
    subst hx
    (refine CW.block ?_; refine CW.seq ?_; refine sRz ?_; refine vMz ?_; refine lvz (.subI rfl rfl (by omega) (by omega)) ?_; refine vAz ?_; refine nSz ?_; refine vMz ?_; refine lvz (.eqT rfl rfl (by omega)) ?_; refine vMz ?_; (iterate 4 refine gFz ?_); refine pTz ?_; refine nNz ?_; refine cTz ?_; refine CW.exit ?_; refine thenE ?_; refine blkO rfl ?_; refine thenE ?_; refine blkE rfl ?_; refine thenN ?_; refine sRz ?_; refine vMz ?_; refine vAz ?_; refine nNz ?_; refine CW.ret ?_; refine scopeQ.r ?_)
    exact fin (vs := [.slice p 8 c]) sg (.inl rfl) rfl rfl (by (apply ResL.cons; exact Res.tmp rfl; exact ResL.nil)) (List.sublist_append_left _ _) hR
  · have hj2 : j < 8 := by
      rcases Nat.lt_or_ge j 8 with h | h
      · exact h
      · exact absurd (hj8 (by omega)) hx
    obtain ⟨g, cur, rfl, rfl, h1, h2, h3, h4⟩ := hR.pos (by omega)
    obtain ⟨w1, w2⟩ := wr_take (i := 8 - j - 1) (vs := [Value.int .u8 ((UInt8.ofNat x).toNat : Int)]) h4 rfl (by omega) (by omega)
    have e3 : (ucs (putL X j)).take ((8 - j - 1) * 1) ++ [Value.int .u8 ((UInt8.ofNat x).toNat : Int)] ++ (ucs (putL X j)).drop ((8 - j - 1 + 1) * 1) = ucs (putL X (j + 1)) := by
      rw [ucs_take, ucs_drop, ← hstep hj2, ucs_app, ucs_app, show 8 - j - 1 = 7 - j by omega]
      rfl
    rw [e3] at w1
    have hb : ((x % 256 : Nat) : Int) = ((UInt8.ofNat x).toNat : Int) := by rw [UInt8.toNat_ofNat']
    have hW : Wr Tryz.prog 5 (.cells cur 5 (0, 0)) (0 + (8 - j - 1) * 1) (.int .u8 ((x % 256 : Nat) : Int)) (.cells (wrCells cur ((8 - j - 1) * 1) [Value.int .u8 ((UInt8.ofNat x).toNat : Int)]) 5 (0, 0)) := by
      rw [hb]
      exact Wr.cells rfl rfl (by rw [h3]; show 0 + (8 - j - 1) * 1 + 1 ≤ c * 1; omega) (by rw [Nat.zero_add]; rfl)
    (refine CW.block ?_; refine CW.seq ?_; refine sRz ?_; refine vMz ?_; refine lvz (.subZL rfl rfl (by decide) (by omega) (by omega)) ?_; refine vAz ?_; refine nSz ?_; refine vMz ?_; refine lvz (.eqF rfl rfl (by omega)) ?_; refine vMz ?_; refine gTz ?_; refine vMz ?_; refine gTz ?_; refine vMz ?_; refine gTz ?_; refine lvz (.lenR rfl inferInstance rfl) ?_; refine gTz ?_; refine lvz (.lssF rfl rfl (by omega)) ?_; refine pFz ?_; refine nNz ?_; refine cFz ?_; refine CW.skip ?_; refine thenN ?_; refine sRz ?_; refine vMz ?_; refine vMz ?_; refine vMz ?_; refine lvz (.convB rfl) ?_; refine lvz (.indexAddrS rfl rfl rfl (by omega)) ?_; refine LW.store rfl rfl .head hW ?_; refine nNz ?_; refine CW.region ?_; refine vMz ?_; refine lvz (.shrUL rfl rfl (by decide) (by omega)) ?_; refine vAz ?_; apply LW.nil; refine blkN ?_)
    apply thenX
    refine ⟨rfl, (j + 1, _), ⟨hj2, .own h1 h2 (by rw [w2, h3]) w1 ?_⟩, by show 8 - (j + 1) < 8 - j; omega, ⟨?_, ?_, rfl, rfl, trivial⟩, List.Sublist.refl _⟩
    · rw [ucs_len, putL_len]
    · rw [show 8 - (j + 1) = 8 - j - 1 by omega]
      rfl
    · rw [← hd8]
      rfl
theorem aBytes_calls (X : Nat) (hX : X < 18446744073709551616) (w : World) : Calls Tryz.prog 71 #[.int .u64 (X : Int)] w (RetG w [] (bM (beb 8 X))) := by
  refine enter (args := [_]) _ [] [] Tryz.func71 rfl Tryz.ntmps71 rfl (by simp) .nil ?_
  (refine sRz ?_; refine vAz ?_; refine nSz ?_; refine vMz ?_)
  refine LW.callR rfl rfl inferInstance (by (exact .cons rfl (.cons rfl .nil))) (fun w hst => Put64_calls X hX w) ?_
  intro v gs h
  have h' := h
  unfold bM at h'
  obtain ⟨p, c, rfl⟩ := h'.form
  (refine vAz ?_; refine nNz ?_; refine CW.ret ?_)
  exact fin (vs := [_]) gs (.inl rfl) rfl rfl (by (apply ResL.cons; exact Res.tmp rfl; exact ResL.nil)) (List.sublist_append_left _ _) h
theorem joined_calls (l : List (Value × List UInt8)) (lv : Value) (w : World) (hl : RowAt w 1 lv l.length (vcs l)) (hr : ∀ x ∈ l, RowAt w 1 x.1 x.2.length (ucs x.2)) (hb : (catL l).length ≤ 100000) :
    Calls Tryz.prog 70 #[lv] w (RetG w [] (bM (catL l))) := by
  refine enter (args := [_]) _ [] [] Tryz.func70 rfl Tryz.ntmps70 rfl (by simp) .nil ?_
  (refine sRz ?_; refine vAz ?_; refine nSz ?_; refine vMz ?_)
  refine LW.callR rfl rfl inferInstance (by (exact .cons rfl .nil)) (fun w hst => Concat_calls l lv w (hl.st hst) (fun x hx => (hr x hx).st hst) hb) ?_
  intro v gs h
  have h' := h
  unfold bM at h'
  obtain ⟨p, c, rfl⟩ := h'.form
  (refine vAz ?_; refine nNz ?_; refine CW.ret ?_)
  exact fin (vs := [_]) gs (.inl rfl) rfl rfl (by (apply ResL.cons; exact Res.tmp rfl; exact ResL.nil)) (List.sublist_append_left _ _) h
end Go.Proofs.YtpgdnfgjbhdbpaaGreatDoor

/-
  A SMALL LOGIC OVER THE KIT's WALK, PART NA: a drawn call that reads what lies anywhere.
  Conditions: none; over any program.
-/
namespace Go.Proofs.YtpgdnfgjbhdbpaaGreatDoor.SL
set_option linter.unusedVariables false
set_option linter.unusedSimpArgs false
open Go Go.RowKit
/-- The same facts, perhaps with more readers. -/
inductive MoreR : Ts → Ts → Prop
  | nil : MoreR [] []
  | cons {b : Nat} {o : Obj} {ws rs rs' : List Nat} {r r' : Ts} (h : ∀ x ∈ rs, x ∈ rs') (t : MoreR r r') : MoreR ((b, o, ws, rs) :: r) ((b, o, ws, rs') :: r')
/-- All facts, read by operation k. -/
def markAll (k : Nat) (ts : Ts) : Ts := ts.map fun p => (p.1, p.2.1, p.2.2.1, k :: p.2.2.2)
theorem MoreR.keys {ts ts' : Ts} (h : MoreR ts ts') : ts'.map (·.1) = ts.map (·.1) := by
  induction h with
  | nil => rfl
  | cons _ _ ih => simp [ih]
theorem MoreR.mem {ts ts' : Ts} (h : MoreR ts ts') : ∀ p' ∈ ts', ∃ rs, (p'.1, p'.2.1, p'.2.2.1, rs) ∈ ts ∧ ∀ x ∈ rs, x ∈ p'.2.2.2 := by
  induction h with
  | nil => intro p hp; cases hp
  | @cons b o ws rs rs' r r' hx _ ih =>
    intro p hp
    rcases List.mem_cons.1 hp with rfl | hp
    · exact ⟨rs, List.mem_cons_self, hx⟩
    · obtain ⟨rs, h1, h2⟩ := ih p hp
      exact ⟨rs, List.mem_cons_of_mem _ h1, h2⟩
theorem MoreR.mem' {ts ts' : Ts} (h : MoreR ts ts') : ∀ p ∈ ts, ∃ rs, (p.1, p.2.1, p.2.2.1, rs) ∈ ts' := by
  induction h with
  | nil => intro p hp; cases hp
  | @cons b o ws rs rs' r r' hx _ ih =>
    intro p hp
    rcases List.mem_cons.1 hp with rfl | hp
    · exact ⟨rs', List.mem_cons_self⟩
    · obtain ⟨rs, h1⟩ := ih p hp
      exact ⟨rs, List.mem_cons_of_mem _ h1⟩
theorem MoreR.refl : ∀ ts : Ts, MoreR ts ts
  | [] => .nil
  | (b, o, ws, rs) :: r => .cons (fun _ h => h) (MoreR.refl r)
theorem MoreR.mark {k : Nat} : ∀ ts : Ts, MoreR ts (markAll k ts)
  | [] => .nil
  | (b, o, ws, rs) :: r => .cons (fun _ h => List.mem_cons_of_mem _ h) (MoreR.mark r)
theorem more_app : ∀ (l : Ts) {ts ts' : Ts}, MoreR ts ts' → MoreR (l ++ ts) (l ++ ts')
  | [], _, _, h => h
  | (b, o, ws, rs) :: l, _, _, h => .cons (fun _ h => h) (more_app l h)
theorem fsOf_mark {k : Nat} (ts : Ts) : fsOf (markAll k ts) = fsOf ts := by simp [fsOf, markAll]
theorem DW.moreA {C : Cu} {ops : Array Oper} {μ : Mu} {Q : Post} {tl l : List Oper} {k : Nat} {e : Env} {ts ts' : Ts} (hm : MoreR ts ts') (h : DW C ops μ Q tl l k e ts') : DW C ops μ Q tl l k e ts := fun a φ tw tr ha hr hi => by
  refine h a φ tw tr ha ⟨fun p hp => ?_, fun p hp j hj => ?_, fun p hp j hj => ?_, hr.old, hr.oldr, ?_⟩ hi
  · obtain ⟨rs, h1, _⟩ := hm.mem p hp
    exact hr.fsome (p.1, p.2.1, p.2.2.1, rs) h1
  · obtain ⟨rs, h1, _⟩ := hm.mem p hp
    exact hr.ftw (p.1, p.2.1, p.2.2.1, rs) h1 j hj
  · obtain ⟨rs, h1, h2⟩ := hm.mem p hp
    exact h2 _ (hr.ftr (p.1, p.2.1, p.2.2.1, rs) h1 j hj)
  · have h1 : (ts.map (·.1)).Pairwise (· ≠ ·) := List.pairwise_map.2 hr.nd
    rw [← hm.keys] at h1
    exact List.pairwise_map.1 h1
/-- Reading a fact that is there. -/
theorem read_one {ops : Array Oper} {k : Nat} {tsF : Ts} : ∀ {ts : Ts}, MoreR tsF ts → MoreR ts (markAll k tsF) → ∀ {b : Nat} {o : Obj} {ws rs : List Nat}, (b, o, ws, rs) ∈ tsF → ancB ops k ws = true → ∃ ts', TRead ops k ts b o ts' ∧ MoreR tsF ts' ∧ MoreR ts' (markAll k tsF) := by
  induction tsF with
  | nil => intro ts _ _ b o ws rs hm; cases hm
  | cons q r ih =>
    intro ts h0 h
    obtain ⟨qb, qo, qw, qr⟩ := q
    rw [show markAll k ((qb, qo, qw, qr) :: r) = (qb, qo, qw, k :: qr) :: markAll k r from rfl] at h ⊢
    cases h with
    | @cons _ _ _ rs1 _ r1 _ hx ht =>
      cases h0 with
      | cons hy hu =>
        intro b o ws rs hm ha
        rcases List.mem_cons.1 hm with he | hm
        · cases he
          exact ⟨_, .head ha, .cons (fun x hx' => List.mem_cons_of_mem _ (hy x hx')) hu, .cons (fun x hx' => by
            rcases List.mem_cons.1 hx' with rfl | h'
            · exact List.mem_cons_self
            · exact hx x h') ht⟩
        · obtain ⟨ts', h1, h2, h3⟩ := ih hu ht hm ha
          exact ⟨_, .tail h1, .cons hy h2, .cons hx h3⟩
/-- What is read lies in these facts, or with the caller. -/
def Lie (C : Cu) (ops : Array Oper) (k : Nat) (ts : Ts) (p : Nat × Obj) : Prop := (∃ ws rs, (p.1, p.2, ws, rs) ∈ ts ∧ ancB ops k ws = true) ∨ (C.w0.heap[p.1]? = some p.2 ∧ p.1 ∉ C.S)
theorem read_all {C : Cu} {ops : Array Oper} {k : Nat} {tsF : Ts} : ∀ (us : Fs) {ts : Ts}, MoreR tsF ts → MoreR ts (markAll k tsF) → (∀ p ∈ us, Lie C ops k tsF p) → ∃ ts', ReadAll C ops k (us.map (·.1)) ts us ts' ∧ MoreR ts' (markAll k tsF)
  | [], ts, _, h, _ => ⟨ts, .nil, h⟩
  | (b, o) :: us, ts, h0, h, hl => by
    rcases hl (b, o) List.mem_cons_self with ⟨ws, rs, h1, h2⟩ | ⟨h1, h2⟩
    · obtain ⟨ts1, h4, h5, h6⟩ := read_one h0 h h1 h2
      obtain ⟨ts', h7, h8⟩ := read_all us h5 h6 fun p hp => hl p (List.mem_cons_of_mem _ hp)
      exact ⟨ts', .own h4 h7, h8⟩
    · obtain ⟨ts', h7, h8⟩ := read_all us h0 h fun p hp => hl p (List.mem_cons_of_mem _ hp)
      exact ⟨ts', .ext h1 h2 h7, h8⟩
theorem markAll_nil {k : Nat} : markAll k [] = [] := rfl
theorem markAll_cons {k b : Nat} {o : Obj} {ws rs : List Nat} {r : Ts} : markAll k ((b, o, ws, rs) :: r) = (b, o, ws, k :: rs) :: markAll k r := rfl
theorem markAll_app {k : Nat} {l r : Ts} : markAll k (l ++ r) = markAll k l ++ markAll k r := by simp [markAll]
theorem markAll_tsOf {k : Nat} {g : Fs} : markAll k (tsOf g) = tsTag [] [k] g := by simp [markAll, tsOf, tsTag]
section dw
variable {C : Cu} {ops : Array Oper} {Q : Post} {tl rest : List Oper} {e : Env} {ts : Ts} {μ : Mu} {k d : Nat} {t : TypeId} {pos : String} {af : Array Edge} {g : Option (Nat × Bool)} {fo : Operand} {args : Array Operand} {tys : Array TypeId} {f : FuncId} {vs : List Value} (us : Fs)
/-- A drawn call that reads blocks that lie anywhere. -/
theorem DW.callA {v : Value} (hk : ops[k]? = some ⟨some d, .call { callee := .value fo, args := args, argTypes := tys }, t, pos, af, g⟩) (hm : μ k = none)
    (hd : Nat.blt d C.N = true) (hg : WantT ops e g) (hf : e.ev fo = some (.func (.func f) #[] #[])) (hF : FnI C.P f) (ha : ArgsOk e args.toList vs) (hbl : vs.flatMap (blocksN 4) = us.map (·.1)) (hl : ∀ p ∈ us, Lie C ops k ts p)
    (hc : ∀ w, Bel C.w0.heap.size C.S C.w0 w → (∀ p ∈ us, w.heap[p.1]? = some p.2) → Calls C.P f vs.toArray w (Ret w v)) (kk : DW C ops μ Q tl rest (k + 1) ((d, v) :: e) (markAll k ts)) :
    DW C ops μ Q tl (⟨some d, .call { callee := .value fo, args := args, argTypes := tys }, t, pos, af, g⟩ :: rest) k e ts := by
  obtain ⟨ts', h1, h2⟩ := read_all us (MoreR.refl ts) (MoreR.mark ts) hl
  rw [← hbl] at h1
  exact DW.callE hk hm hd hg hf hF ha (show _ = vs.flatMap (blocksN 4) from rfl) h1 hc (DW.moreA h2 kk)
theorem DW.manyA {M : Rel1} (hk : ops[k]? = some ⟨some d, .call { callee := .value fo, args := args, argTypes := tys }, t, pos, af, g⟩) (hm : μ k = some (cst M, (false : Fl)))
    (hd : Nat.blt d C.N = true) (hg : WantT ops e g) (hf : e.ev fo = some (.func (.func f) #[] #[])) (hF : FnI C.P f) (ha : ArgsOk e args.toList vs) (hbl : vs.flatMap (blocksN 4) = us.map (·.1)) (hl : ∀ p ∈ us, Lie C ops k ts p)
    (hc : ∀ w, Bel C.w0.heap.size C.S C.w0 w → (∀ p ∈ us, w.heap[p.1]? = some p.2) → Calls C.P f vs.toArray w (RetG w [] M)) (kk : ∀ v gs, M v gs → DW C ops μ Q tl rest (k + 1) ((d, v) :: e) (tsNew k gs ++ markAll k ts)) :
    DW C ops μ Q tl (⟨some d, .call { callee := .value fo, args := args, argTypes := tys }, t, pos, af, g⟩ :: rest) k e ts := by
  obtain ⟨ts', h1, h2⟩ := read_all us (MoreR.refl ts) (MoreR.mark ts) hl
  rw [← hbl] at h1
  refine DW.manyE hk hm hd hg hf hF ha (show _ = vs.flatMap (blocksN 4) from rfl) h1 hc fun v gs hM => DW.moreA ?_ (kk v gs hM)
  exact (more_app _ h2)
end dw
end Go.Proofs.YtpgdnfgjbhdbpaaGreatDoor.SL

/-
  A SMALL LOGIC OVER THE KIT's WALK, PART NBB: drawn calls that read blocks which other slots name.
  Conditions: none; over any program.
-/
namespace Go.Proofs.YtpgdnfgjbhdbpaaGreatDoor.SL
set_option linter.unusedVariables false
set_option linter.unusedSimpArgs false
open Go Go.RowKit
/-- What is told ahead, and the slots that name blocks besides. -/
def muX (l : List (Nat × Rel1 × List Operand)) : Mu := fun k => (l.find? fun p => Nat.beq p.1 k).map fun p => (cst p.2.1, ⟨false, p.2.2⟩)
def exOkB (ops : Array Oper) (l : List (Nat × List Operand)) : Bool := l.all fun p => p.2.all fun x => match x with
  | .tmp d => (List.range ops.size).all fun i => match ops[i]? with
    | some o => (match o.dst with | some d' => !Nat.beq d' d || ancB ops p.1 [i] | none => true)
    | none => true
  | _ => true
theorem exOk_of {ops : Array Oper} {l : List (Nat × Rel1 × List Operand)} (h : exOkB ops (l.map fun p => (p.1, p.2.2)) = true) : ExOk ops (muX l) := by
  intro j x hx i o d ho hd he
  subst he
  unfold muX at hx
  cases hf : l.find? fun p => Nat.beq p.1 j with
  | none => rw [hf] at hx; cases hx
  | some p =>
    rw [hf] at hx
    have hp := List.mem_of_find?_eq_some hf
    have hj : p.1 = j := Nat.eq_of_beq_eq_true (by have h9 := List.find?_some hf; exact h9)
    unfold exOkB at h
    have h1 := List.all_eq_true.1 h (p.1, p.2.2) (List.mem_map.2 ⟨p, hp, rfl⟩)
    have h2 := List.all_eq_true.1 h1 (.tmp d) hx
    have hi : i < ops.size := (Array.getElem?_eq_some_iff.1 ho).1
    have h3 := List.all_eq_true.1 h2 i (List.mem_range.2 hi)
    simp only [ho, hd] at h3
    have hb : Nat.beq d d = true := Nat.beq_refl d
    rw [hb, hj] at h3
    exact ancB_spec (by simpa using h3) i List.mem_cons_self
theorem AnyW.anyX {C : Cu} {id : Nat} {l : List Oper} {Q : Post} {fs : Fs} {e : Env} (ms : List (Nat × Rel1 × List Operand)) (n : Nat) (hm : C.P.follows .mixedOrders = true) (hB : headB l.toArray n = true) (hE : exOkB l.toArray (ms.map fun p => (p.1, p.2.2)) = true) (h : DW C l.toArray (muX ms) Q (l.drop n) (l.take n) 0 e (tsOf fs)) :
    AnyW C id l Q e fs := CW.any (muX ms) n (exOk_of hE) hm hB h
theorem args_flat {e : Env} : ∀ {xs : List Operand} {vs : List Value}, ArgsOk e xs vs → ∀ ρ, Ev e ρ → xs.flatMap (fun x => blocksN 4 (ρ x)) = vs.flatMap (blocksN 4)
  | _, _, .nil, _, _ => rfl
  | _, _, .cons h hs, ρ, hρ => by rw [List.flatMap_cons, List.flatMap_cons, args_flat hs ρ hρ, hρ _ _ h]
section dw
variable {C : Cu} {ops : Array Oper} {Q : Post} {tl rest : List Oper} {e : Env} {ts : Ts} {μ : Mu} {k d : Nat} {t : TypeId} {pos : String} {af : Array Edge} {g : Option (Nat × Bool)} {fo : Operand} {args : Array Operand} {tys : Array TypeId} {f : FuncId} {vs : List Value}
/-- A drawn call that reads blocks which its operands, and other slots, name; they lie anywhere. -/
theorem DW.manyX {M : Rel1} {xs : List Operand} {xv : List Value} (us : Fs) (hk : ops[k]? = some ⟨some d, .call { callee := .value fo, args := args, argTypes := tys }, t, pos, af, g⟩) (hm : μ k = some (cst M, ⟨false, xs⟩))
    (hd : Nat.blt d C.N = true) (hg : WantT ops e g) (hf : e.ev fo = some (.func (.func f) #[] #[])) (hF : FnI C.P f) (ha : ArgsOk e args.toList vs) (hxs : ArgsOk e xs xv) (hbl : (xv ++ vs).flatMap (blocksN 4) = us.map (·.1)) (hl : ∀ p ∈ us, Lie C ops k ts p)
    (hc : ∀ w, Bel C.w0.heap.size C.S C.w0 w → (∀ p ∈ us, w.heap[p.1]? = some p.2) → Calls C.P f vs.toArray w (RetG w [] M)) (kk : ∀ v gs, M v gs → DW C ops μ Q tl rest (k + 1) ((d, v) :: e) (tsNew k gs ++ markAll k ts)) :
    DW C ops μ Q tl (⟨some d, .call { callee := .value fo, args := args, argTypes := tys }, t, pos, af, g⟩ :: rest) k e ts := by
  obtain ⟨ts', h1, h2⟩ := read_all us (MoreR.refl ts) (MoreR.mark ts) hl
  rw [← hbl] at h1
  refine DW.many (xs := xs) (fun _ => rfl) hk hm hd hg (fun ρ hρ => ?_) (.fn hf ha) h1 (fun w h1 h2 => by rw [arr_id]; exact hc w h1 h2) fun v gs hM => DW.moreA (more_app _ h2) (kk v gs hM)
  show xs.flatMap (fun x => blocksN 4 (ρ x)) ++ _ = _
  rw [touch_call hf ha hρ, args_flat hxs ρ hρ, List.flatMap_append, List.flatMap_cons]
  rfl
end dw
end Go.Proofs.YtpgdnfgjbhdbpaaGreatDoor.SL

/-
  A scratch: words pushed.
  Conditions: none.
-/
namespace Go.Proofs.YtpgdnfgjbhdbpaaGreatDoor
open Go Go.RowKit SL
set_option maxRecDepth 8000
set_option maxHeartbeats 4000000
set_option linter.unusedSimpArgs false
set_option linter.unusedVariables false
attribute [local irreducible] SL.CW SL.LW SL.DW Calls SL.Ret SL.RetG SL.beginQ SL.roundQ SL.rangeQ SL.inQ SL.RW SL.AnyW SL.thenQ SL.thenC SL.thenW SL.blkQ SL.finQ SL.ValP SL.NewP SL.SetP SL.CallP SL.Rd SL.Wr SL.Known
section wr
variable {P : Program} {T E : TypeId} {s m z : Value} {p : Option Addr} {n c : Nat}
theorem sc_wr0 [InfoI P T 1 z] : Wr P T (.cells #[s, m] E (0, 0)) 0 (.slice p n c) (.cells #[.slice p n c, m] E (0, 0)) := Wr.cells (n := 1) (z := z) rfl rfl (by show 0 + 1 ≤ 2; omega) rfl
theorem sc_wr1 [InfoI P T 1 z] : Wr P T (.cells #[s, m] E (0, 0)) 1 (.slice p n c) (.cells #[s, .slice p n c] E (0, 0)) := Wr.cells (n := 1) (z := z) rfl rfl (by show 1 + 1 ≤ 2; omega) rfl
end wr
theorem push_full (ws : List Nat) (ms : List UInt8) (l : List Nat) (s m v : Value) (w : World) (hs : RowAt w 4 s ws.length (wcs ws)) (hm : RowAt w 1 m ms.length (ucs ms)) (hv : RowAt w 4 v l.length (wcs l)) (hok : okSc ws.length ms.length) (hll : l.length ≤ 100000) (hf : 64 < ws.length + l.length) :
    Calls Tryz.prog 118 #[.agg #[s, m], v] w (Ret w (.tuple #[.agg #[.slice none 0 0, .slice none 0 0], .int .i64 6])) := by
  obtain ⟨p, c, rfl, _, hc⟩ := hs.form
  obtain ⟨p2, c2, rfl, _, hc2⟩ := hm.form
  obtain ⟨p3, c3, rfl, _, _⟩ := hv.form
  have hC : ∀ w, Calls Tryz.prog 66 #[.agg #[.slice p ws.length c, .slice p2 ms.length c2]] w (Ret w (.int .i64 0)) := fun w => by
    have h := scCheck_calls p p2 ws.length c ms.length c2 (by omega) (by omega) w
    rwa [if_pos hok] at h
  have hok2 := hok
  unfold okSc at hok2
  obtain ⟨hn1, hk1, hk2⟩ := hok2
  refine enter (args := [_, _]) _ [] [] Tryz.func118 rfl Tryz.ntmps118 rfl (by simp) .nil ?_
  (refine sRz ?_; apply LW.boxA; rfl; rfl; intro _; apply LW.allocA; rfl; intro _; refine vAz ?_; refine nNz ?_; refine CW.seq ?_; refine sRz ?_; refine ldz rfl (.tail .head) (Rd.whole rfl) ?_; apply LW.callE; rfl; rfl; infer_instance; exact .cons rfl .nil; intro w _; exact hC w; refine vAz ?_; refine nSz ?_; refine vMz ?_; refine lvz (.neF rfl rfl (by omega)) ?_; refine nNz ?_; refine cFz ?_; refine CW.skip ?_; refine thenN ?_; refine CW.seq ?_; refine sRz ?_; refine vFz ?_; refine ldz rfl (.tail .head) sc_rd0 ?_; refine lvz (.lenR rfl inferInstance rfl) ?_; refine vMz ?_; refine lvz (.lenR rfl inferInstance rfl) ?_; refine lvz (.addZ rfl rfl (by omega)) ?_; refine lvz (.gtrT rfl rfl (by omega)) ?_; refine nNz ?_; refine cTz ?_; refine sRz ?_; apply LW.v0; rfl; rfl; apply ValP.buildT; infer_instance; infer_instance; exact PartsOk.nil; rfl; simp only [fillP, wrCells, Value.cells, List.getElem?_cons_zero, List.getElem?_cons_succ, List.toList_toArray, List.setIfInBounds_toArray, List.set_cons_succ, List.set_cons_zero, Nat.reduceAdd, Nat.zero_add]; rfl; refine LW.store rfl rfl .head (.whole rfl rfl rfl) ?_; refine vAz ?_; refine nNz ?_; refine CW.ret ?_; refine thenR ?_)
  (apply finR; exact .inl rfl; rfl; rfl; rfl; apply ResL.cons; apply Res.cell; rfl; apply Known.at; apply FsAt.head; exact Rd.whole rfl; apply ResL.cons; exact Res.tmp rfl; exact ResL.nil)
  rfl
theorem push_ok (ws : List Nat) (ms : List UInt8) (l : List Nat) (s m v : Value) (w : World) (hs : RowAt w 4 s ws.length (wcs ws)) (hm : RowAt w 1 m ms.length (ucs ms)) (hv : RowAt w 4 v l.length (wcs l)) (hok : okSc ws.length ms.length) (hll : l.length ≤ 100000) (hf : ws.length + l.length ≤ 64) :
    Calls Tryz.prog 118 #[.agg #[s, m], v] w (RetG w [] (fun r gs => ∃ o, r = .tuple #[o, .int .i64 0] ∧ ScO (ws ++ l) ms o gs)) := by
  have hs0 := hs
  have hm0 := hm
  obtain ⟨p, c, rfl, _, hc⟩ := hs.form
  obtain ⟨p2, c2, rfl, _, hc2⟩ := hm.form
  obtain ⟨p3, c3, rfl, _, _⟩ := id hv.form
  have hC : ∀ w, Calls Tryz.prog 66 #[.agg #[.slice p ws.length c, .slice p2 ms.length c2]] w (Ret w (.int .i64 0)) := fun w => by
    have h := scCheck_calls p p2 ws.length c ms.length c2 (by omega) (by omega) w
    rwa [if_pos hok] at h
  have hok2 := hok
  unfold okSc at hok2
  obtain ⟨hn1, hk1, hk2⟩ := hok2
  refine enter (args := [_, _]) _ [] [] Tryz.func118 rfl Tryz.ntmps118 rfl (by simp) .nil ?_
  (refine sRz ?_; apply LW.boxA; rfl; rfl; intro _; apply LW.allocA; rfl; intro _; refine vAz ?_; refine nNz ?_; refine CW.seq ?_; refine sRz ?_; refine ldz rfl (.tail .head) (Rd.whole rfl) ?_; apply LW.callE; rfl; rfl; infer_instance; exact .cons rfl .nil; intro w _; exact hC w; refine vAz ?_; refine nSz ?_; refine vMz ?_; refine lvz (.neF rfl rfl (by omega)) ?_; refine nNz ?_; refine cFz ?_; refine CW.skip ?_; refine thenN ?_; refine CW.seq ?_; refine sRz ?_; refine vFz ?_; refine ldz rfl (.tail .head) sc_rd0 ?_; refine lvz (.lenR rfl inferInstance rfl) ?_; refine vMz ?_; refine lvz (.lenR rfl inferInstance rfl) ?_; refine lvz (.addZ rfl rfl (by omega)) ?_; refine lvz (.gtrF rfl rfl (by omega)) ?_; refine nNz ?_; refine cFz ?_; refine CW.skip ?_; refine thenN ?_; refine sRz ?_; refine ldz rfl (.tail .head) (Rd.whole rfl) ?_)
  (apply LW.callR; rfl; rfl; infer_instance; exact .cons rfl .nil; intro w hs)
  exact copied_calls ws ms _ _ w (hs0.st hs) (hm0.st hs) (by omega) (by omega)
  rintro vo gso ⟨s1, m1, g1, g2, rfl, rfl, h1, h2⟩
  have h1' := h1
  have h2' := h2
  unfold wM at h1'
  unfold bM at h2'
  obtain ⟨q1, k1, rfl⟩ := h1'.form
  obtain ⟨q2, k2, rfl⟩ := h2'.form
  (apply LW.allocA; rfl; intro _; refine LW.store rfl rfl .head (.whole rfl rfl rfl) ?_; refine nSz ?_; refine vFz ?_; refine ldz rfl .head sc_rd0 ?_; refine vMz ?_)
  rw [List.append_assoc]
  (apply LW.appendAny; (case hrow => exact h1'); rfl; rfl; infer_instance; infer_instance; infer_instance; rfl; rfl; rfl; (apply AtSeg.cons; apply AtSeg.app; exact AtSeg.head))
  · exact fun w hs => hv.st hs
  · exact wcs_cells l
  · simp only [maxLen]; omega
  · omega
  intro v1 seg1 hrow1
  refine ⟨_, (by (apply AtSeg.cons; apply AtSeg.app; exact AtSeg.head)), ?_⟩
  simp only [List.nil_append, Nat.zero_add, List.append_nil] at hrow1 ⊢
  obtain ⟨q3, k3, rfl⟩ := hrow1.form
  (refine vFz ?_; refine LW.store rfl rfl .head sc_wr0 ?_; refine nSz ?_; refine ldz rfl .head (Rd.whole rfl) ?_; refine LW.store rfl rfl (.tail (.app (.app .head))) (.whole rfl rfl rfl) ?_; refine vAz ?_; refine nNz ?_; refine CW.ret ?_)
  refine fin (vs := [.agg #[.slice q3 (ws.length + l.length) k3, .slice q2 ms.length k2], .int .i64 0]) (g2 ++ seg1) (.inl rfl) rfl rfl (by (apply ResL.cons; apply Res.cell; rfl; apply Known.at; apply FsAt.tail; apply FsAt.app; apply FsAt.app; apply FsAt.head; exact Rd.whole rfl; apply ResL.cons; exact Res.tmp rfl; exact ResL.nil)) ?_ ⟨_, rfl, _, _, seg1, g2, rfl, rfl, ?_, h2⟩
  · exact List.Sublist.cons _ (List.Sublist.append_left (List.sublist_append_left _ _) _)
  · unfold wM
    rw [List.length_append, wcs_app]
    exact hrow1
end Go.Proofs.YtpgdnfgjbhdbpaaGreatDoor

/-
  A machine: words laid.
  Conditions: none.
-/
namespace Go.Proofs.YtpgdnfgjbhdbpaaGreatDoor
open Go Go.RowKit SL
set_option maxRecDepth 8000
set_option maxHeartbeats 4000000
set_option linter.unusedSimpArgs false
set_option linter.unusedVariables false
attribute [local irreducible] SL.CW SL.LW SL.DW Calls SL.Ret SL.RetG SL.beginQ SL.roundQ SL.rangeQ SL.inQ SL.RW SL.AnyW SL.thenQ SL.thenC SL.thenW SL.blkQ SL.finQ SL.ValP SL.NewP SL.SetP SL.CallP SL.Rd SL.Wr SL.Known
attribute [local irreducible] SL.inP
theorem lay_ok (w0 : World) (S : List Nat) (b : Nat) (m : MaV) (ws : List Nat) (ms : List UInt8) (l : List Nat) (v : Value) (rest : Fs) (w : World) (hs : St w0 S ((b, maO m) :: rest) w)
    (h1 : ∀ w', St w0 S ((b, maO m) :: rest) w' → RowAt w' 4 m.fr.stk ws.length (wcs ws) ∧ RowAt w' 1 m.fr.mem ms.length (ucs ms) ∧ RowAt w' 4 v l.length (wcs l)) (hok : okSc ws.length ms.length) (hll : l.length ≤ 100000) (hf : ws.length + l.length ≤ 64) :
    Calls Tryz.prog 78 #[.pointer (some ⟨b, 0, none⟩), v] w (fun x w' => ∃ fs', (x = .returned (.tuple #[]) ∧ ∃ s k gs c4, ScO (ws ++ l) ms (.agg #[s, k]) gs ∧ fs' = c4 :: (gs ++ (b, maO (m.setSc s k)) :: rest)) ∧ St w0 S fs' w') := by
  refine calls_inlineP (K := fun x fs' => x = .returned (.tuple #[]) ∧ ∃ s k gs c4, ScO (ws ++ l) ms (.agg #[s, k]) gs ∧ fs' = c4 :: (gs ++ (b, maO (m.setSc s k)) :: rest)) (args := [_, _]) Tryz.func78 rfl Tryz.ntmps78 rfl ?_ hs
  (refine sRz ?_; refine vMz ?_; refine vNz ?_; refine vFz ?_; refine vFz ?_; refine ldz rfl .head ma_rd2 ?_; refine vMz ?_)
  (apply LW.callR; rfl; rfl; infer_instance; exact .cons rfl (.cons rfl .nil); intro w hs)
  exact push_ok ws ms l _ _ _ w (h1 w hs).1 (h1 w hs).2.1 (h1 w hs).2.2 hok hll hf
  rintro vo gso ⟨o, rfl, s1, m1, g1, g2, rfl, rfl, hw1, hb1⟩
  have hw1' := hw1
  have hb1' := hb1
  unfold wM at hw1'
  unfold bM at hb1'
  obtain ⟨q1, k1, rfl⟩ := hw1'.form
  obtain ⟨q2, k2, rfl⟩ := hb1'.form
  (refine vMz ?_; refine vEz ?_; refine vEz ?_; apply LW.allocA; rfl; intro _; refine LW.store rfl rfl .head (.whole rfl rfl rfl) ?_; refine vAz ?_; refine nSz ?_; refine vMz ?_; refine lvz (.eqT rfl rfl (by omega)) ?_; apply LW.callE; rfl; rfl; infer_instance; exact .cons rfl .nil; intro w _; exact need_true w; refine nNz ?_; refine CW.region ?_; refine vMz ?_; refine ldz rfl .head (Rd.whole rfl) ?_; refine vNz ?_; refine vFz ?_; refine vFz ?_; refine LW.store rfl rfl (.tail (.app .head)) (ma_wr2 rfl rfl rfl rfl) ?_; apply LW.nil)
  exact inPI (.inr rfl) .nil rfl .nil rfl ⟨rfl, _, _, g2 ++ g1, _, ⟨_, _, g1, g2, rfl, rfl, hw1, hb1⟩, rfl⟩
theorem lay_full (w0 : World) (S : List Nat) (b : Nat) (m : MaV) (ws : List Nat) (ms : List UInt8) (l : List Nat) (v : Value) (rest : Fs) (w : World) (hs : St w0 S ((b, maO m) :: rest) w)
    (h1 : ∀ w', St w0 S ((b, maO m) :: rest) w' → RowAt w' 4 m.fr.stk ws.length (wcs ws) ∧ RowAt w' 1 m.fr.mem ms.length (ucs ms) ∧ RowAt w' 4 v l.length (wcs l)) (hok : okSc ws.length ms.length) (hll : l.length ≤ 100000) (hf : 64 < ws.length + l.length) :
    Calls Tryz.prog 78 #[.pointer (some ⟨b, 0, none⟩), v] w (fun x w' => ∃ fs', (x = .panicked failC ∧ ∃ c4, fs' = c4 :: (b, maO m) :: rest) ∧ St w0 S fs' w') := by
  have hP : ∀ w', St w0 S ((b, maO m) :: rest) w' → Calls Tryz.prog 118 #[.agg #[m.fr.stk, m.fr.mem], v] w' (Ret w' (.tuple #[.agg #[.slice none 0 0, .slice none 0 0], .int .i64 6])) := fun w' hst =>
    push_full ws ms l _ _ _ w' (h1 w' hst).1 (h1 w' hst).2.1 (h1 w' hst).2.2 hok hll hf
  refine calls_inlineP (K := fun x fs' => x = .panicked failC ∧ ∃ c4, fs' = c4 :: (b, maO m) :: rest) (args := [_, _]) Tryz.func78 rfl Tryz.ntmps78 rfl ?_ hs
  (refine sRz ?_; refine vMz ?_; refine vNz ?_; refine vFz ?_; refine vFz ?_; refine ldz rfl .head ma_rd2 ?_; refine vMz ?_; apply LW.callE; rfl; rfl; infer_instance; exact .cons rfl (.cons rfl .nil); intro w _; exact hP w (by assumption); refine vMz ?_; refine vEz ?_; refine vEz ?_; apply LW.allocA; rfl; intro _; refine LW.store rfl rfl .head (.whole rfl rfl rfl) ?_; refine vAz ?_; refine nSz ?_; refine vMz ?_; refine lvz (.eqF rfl rfl (by omega)) ?_)
  rename_i b4
  refine LW.callP (K := NeedK ((b4, .cells #[.slice none 0 0, .slice none 0 0] 25 (0, 0)) :: (b, maO m) :: rest)) rfl rfl inferInstance (by (exact .cons rfl .nil)) rfl (fun fs h => by cases h.1) (fun w' hst => need_false w0 S _ w' hst) ?_ ?_
  · rintro v fs' ⟨h, _⟩
    cases h
  · rintro ch fs' ⟨h, rfl⟩
    cases h
    refine thenP ?_
    exact inPP .nil ⟨rfl, _, rfl⟩
end Go.Proofs.YtpgdnfgjbhdbpaaGreatDoor

/-
  A SMALL LOGIC OVER THE KIT's WALK, PART MX: the greater of a difference and nought.
  Conditions: none; over any program.
-/
namespace Go.Proofs.YtpgdnfgjbhdbpaaGreatDoor.SL
set_option linter.unusedVariables false
open Go Go.RowKit
section mm
variable {P : Program} {e : Env} {x y : Operand} {tys : Array TypeId} {m n : Nat} {ik : IntKind}
/-- The greater of a difference and nought. -/
theorem ValP.maxD (hx : e.ev x = some (.int ik ((m : Int) - (n : Int)))) (hy : e.ev y = some (.int ik 0)) : ValP P e [] (.call { callee := .builtin .max, args := #[x, y], argTypes := tys }) (.int ik ((m - n : Nat) : Int)) := fun ρ w hρ _ d t pos af g => by
  have h : (if (0 : Int) > (m : Int) - (n : Int) then (0 : Int) else (m : Int) - (n : Int)) = ((m - n : Nat) : Int) := by split <;> omega
  have h2 := run_max_int2 (P := P) (w := w) tys t ik ik ((m : Int) - (n : Int)) 0
  rw [h] at h2
  simp [execOp, resolve, invoke, builtin, hρ x _ hx, hρ y _ hy, h2]
end mm
end Go.Proofs.YtpgdnfgjbhdbpaaGreatDoor.SL

/-
  A scratch: bytes reached.
  Conditions: none.
-/
namespace Go.Proofs.YtpgdnfgjbhdbpaaGreatDoor
open Go Go.RowKit SL
set_option maxRecDepth 8000
set_option maxHeartbeats 4000000
set_option linter.unusedSimpArgs false
set_option linter.unusedVariables false
attribute [local irreducible] SL.CW SL.LW SL.DW Calls SL.Ret SL.RetG SL.beginQ SL.roundQ SL.rangeQ SL.inQ SL.RW SL.AnyW SL.thenQ SL.thenC SL.thenW SL.blkQ SL.finQ SL.ValP SL.NewP SL.SetP SL.CallP SL.Rd SL.Wr SL.Known
/-- The bytes of the words that n bytes touch. -/
def upW (n : Nat) : Nat := (n + 31) / 32 * 32
theorem grow_ok (ws : List Nat) (ms : List UInt8) (n : Nat) (s m : Value) (w : World) (hs : RowAt w 4 s ws.length (wcs ws)) (hm : RowAt w 1 m ms.length (ucs ms)) (hok : okSc ws.length ms.length) (hn : 0 < n) (hn2 : n ≤ 1024) :
    Calls Tryz.prog 147 #[.agg #[s, m], .int .u64 0, .int .u64 (n : Int)] w (RetG w [] (fun r gs => ∃ o, r = .tuple #[o, .int .i64 0] ∧ ScO ws (ms ++ List.replicate (upW n - ms.length) 0) o gs)) := by
  have hs0 := hs
  have hm0 := hm
  obtain ⟨p, c, rfl, _, hc⟩ := hs.form
  obtain ⟨p2, c2, rfl, _, hc2⟩ := hm.form
  have hC : ∀ w, Calls Tryz.prog 66 #[.agg #[.slice p ws.length c, .slice p2 ms.length c2]] w (Ret w (.int .i64 0)) := fun w => by
    have h := scCheck_calls p p2 ws.length c ms.length c2 (by omega) (by omega) w
    rwa [if_pos hok] at h
  have hok2 := hok
  unfold okSc at hok2
  obtain ⟨hn1, hk1, hk2⟩ := hok2
  refine enter (args := [_, _, _]) _ [] [] Tryz.func147 rfl Tryz.ntmps147 rfl (by simp) .nil ?_
  (refine sRz ?_; apply LW.boxA; rfl; rfl; intro _; apply LW.allocA; rfl; intro _; refine vAz ?_; refine nNz ?_; refine CW.seq ?_; refine sRz ?_; refine ldz rfl (.tail .head) (Rd.whole rfl) ?_; apply LW.callE; rfl; rfl; infer_instance; exact .cons rfl .nil; intro w _; exact hC w; refine vAz ?_; refine nSz ?_; refine vMz ?_; refine lvz (.neF rfl rfl (by omega)) ?_; refine nNz ?_; refine cFz ?_; refine CW.skip ?_; refine thenN ?_; refine sRz ?_; refine ldz rfl (.tail .head) (Rd.whole rfl) ?_)
  (apply LW.callR; rfl; rfl; infer_instance; exact .cons rfl .nil; intro w hs)
  exact copied_calls ws ms _ _ w (hs0.st hs) (hm0.st hs) (by omega) (by omega)
  rintro vo gso ⟨s1, m1, g1, g2, rfl, rfl, h1, h2⟩
  have h1' := h1
  have h2' := h2
  unfold wM at h1'
  unfold bM at h2'
  obtain ⟨q1, k1, rfl⟩ := h1'.form
  obtain ⟨q2, k2, rfl⟩ := h2'.form
  (apply LW.allocA; rfl; intro _; refine LW.store rfl rfl .head (.whole rfl rfl rfl) ?_; refine nNz ?_; refine CW.seq ?_; refine sRz ?_; refine vMz ?_; refine lvz (.eqF rfl rfl (by omega)) ?_; refine nNz ?_; refine cFz ?_; refine CW.skip ?_; refine thenN ?_; refine CW.seq ?_; refine sRz ?_; refine vMz ?_; refine lvz (.gtrF rfl rfl (by omega)) ?_; refine vMz ?_; refine gTz ?_; refine vMz ?_; refine gTz ?_; refine lvz (.gtrF rfl rfl (by omega)) ?_; refine pFz ?_; refine vMz ?_; refine gTz ?_; refine vMz ?_; refine gTz ?_; refine vMz ?_; refine gTz ?_; refine lvz (.addNK rfl rfl (by decide)) ?_; refine gTz ?_; refine lvz (.gtrF rfl rfl (by omega)) ?_; refine pFz ?_; refine nNz ?_; refine cFz ?_; refine CW.skip ?_; refine thenN ?_; refine sRz ?_; refine vMz ?_; refine vMz ?_; refine lvz (.addNK rfl rfl (by decide)) ?_; refine lvz (.convI rfl (by omega) (by omega)) ?_; refine lvz (.addZL rfl rfl (by decide) (by omega)) ?_; refine lvz (.subZL rfl rfl (by decide) (by omega) (by omega)) ?_; refine lvz (.quoZL rfl rfl (by decide) (by omega) (by omega)) ?_; refine lvz (.mulZL rfl rfl (by decide) (by omega)) ?_; refine vAz ?_; refine nNz ?_; refine CW.seq ?_; refine sRz ?_; refine vMz ?_; refine vFz ?_; refine ldz rfl .head sc_rd1 ?_; refine lvz (.lenR rfl inferInstance rfl) ?_; refine lvz (.subI rfl rfl (by omega) (by omega)) ?_; apply LW.v0; rfl; rfl; apply ValP.maxD; rfl; rfl; refine vMz ?_; refine nNz ?_; refine CW.block ?_)
  rename_i b3 b6 b9
  obtain ⟨D, hD⟩ : ∃ D, D = ((0 + n) % 18446744073709551616 + 32 - 1) / 32 * 32 - ms.length := ⟨_, rfl⟩
  have hDu : D = upW n - ms.length := by unfold upW; omega
  rw [← hD]
  refine CW.loop (fun x : Nat × Option Addr × Nat × Fs => ([(9, .pointer (some ⟨b9, 0, none⟩)), (6, .pointer (some ⟨b6, 0, none⟩)), (48, .int .i64 (D : Int)), (49, .int .i64 (x.1 : Int))], (b9, .cells #[.slice q1 ws.length k1, .slice x.2.1 (ms.length + x.1) x.2.2.1] 25 (0, 0)) :: (x.2.2.2 ++ (g1 ++ [(b6, .cells #[.slice none 0 0, .slice none 0 0] 25 (0, 0))]))))
    (fun x => x.1 ≤ D ∧ IsRow 5 1 (.slice x.2.1 (ms.length + x.1) x.2.2.1) (ms.length + x.1) (ucs (ms ++ List.replicate x.1 0)) x.2.2.2) (fun x => D - x.1) (0, q2, k2, g2) ⟨Nat.zero_le _, by simpa using h2'⟩ ⟨rfl, rfl, rfl, rfl, trivial⟩ (by simp) ?_
  rintro ⟨k, q, kc, seg⟩ ⟨hk, hrow⟩
  dsimp only at hk hrow ⊢
  rcases Nat.lt_or_ge k D with hlt | hge
  · (refine sRz ?_; refine lvz (.lssT rfl rfl (by omega)) ?_; refine nNz ?_; refine CW.seq ?_; refine cTz ?_; refine CW.skip ?_; refine thenN ?_; refine CW.seq ?_; refine CW.block ?_; refine CW.region ?_; refine vFz ?_; refine ldz rfl .head sc_rd1 ?_; apply LW.lay1; rfl; infer_instance; infer_instance; rfl; rfl; rfl; rfl; rfl; rfl; intro _)
    (apply LW.append; rfl; rfl; infer_instance; infer_instance; infer_instance; rfl; rfl; rfl; (case hrow => assumption); apply AtSeg.cons; apply AtSeg.cons; exact AtSeg.head; apply Known.at; apply FsAt.head; rfl; rfl; rfl; omega; simp only [maxLen]; omega; omega; intro v' seg' hrow'; obtain ⟨p', c', rfl⟩ := hrow'.form; (refine ⟨_, (by (repeat (first | exact AtSeg.head | apply AtSeg.cons | apply AtSeg.app))), ?_⟩); (try simp only [List.cons_append, List.nil_append]))
    (refine vFz ?_; refine LW.store rfl rfl (.tail .head) sc_wr1 ?_; apply LW.nil; refine blkN ?_; refine thenN ?_; refine CW.region ?_; refine lvz (.addZL rfl rfl (by decide) (by omega)) ?_; refine vMz ?_; apply LW.nil)
    apply thenX
    refine ⟨rfl, (k + 1, p', c', seg'), ⟨hlt, ?_⟩, by show D - (k + 1) < D - k; omega, ⟨rfl, rfl, rfl, rfl, trivial⟩, List.Sublist.cons _ (List.Sublist.refl _)⟩
    have e : ucs (ms ++ List.replicate (k + 1) 0) = ucs (ms ++ List.replicate k 0) ++ [.int .u8 0] := by
      rw [List.replicate_succ', ← List.append_assoc]
      simp [ucs]
    dsimp only
    rw [e]
    exact hrow'
  · (refine sRz ?_; refine lvz (.lssF rfl rfl (by omega)) ?_; refine nNz ?_; refine CW.seq ?_; refine cFz ?_; refine CW.exit ?_; refine thenE ?_; refine thenE ?_; refine blkE rfl ?_; refine thenN ?_; refine sRz ?_; refine ldz rfl .head (Rd.whole rfl) ?_; refine LW.store rfl rfl (.tail (.app (.app .head))) (.whole rfl rfl rfl) ?_; refine vAz ?_; refine nNz ?_; refine CW.ret ?_)
    obtain rfl : k = D := by omega
    rw [← hDu]
    refine fin (vs := [.agg #[.slice q1 ws.length k1, .slice q (ms.length + k) kc], .int .i64 0]) (seg ++ g1) (.inl rfl) rfl rfl (by (apply ResL.cons; apply Res.cell; rfl; apply Known.at; apply FsAt.tail; apply FsAt.app; apply FsAt.app; apply FsAt.head; exact Rd.whole rfl; apply ResL.cons; exact Res.tmp rfl; exact ResL.nil)) ?_ ⟨_, rfl, _, _, g1, seg, rfl, rfl, h1, ?_⟩
    · exact List.Sublist.cons _ (List.Sublist.append_left (List.sublist_append_left _ _) _)
    · unfold bM
      rw [List.length_append, List.length_replicate]
      exact hrow
end Go.Proofs.YtpgdnfgjbhdbpaaGreatDoor

/-
  A machine: memory reached.
  Conditions: none.
-/
namespace Go.Proofs.YtpgdnfgjbhdbpaaGreatDoor
open Go Go.RowKit SL
set_option maxRecDepth 8000
set_option maxHeartbeats 4000000
set_option linter.unusedSimpArgs false
set_option linter.unusedVariables false
attribute [local irreducible] SL.CW SL.LW SL.DW Calls SL.Ret SL.RetG SL.beginQ SL.roundQ SL.rangeQ SL.inQ SL.RW SL.AnyW SL.thenQ SL.thenC SL.thenW SL.blkQ SL.finQ SL.ValP SL.NewP SL.SetP SL.CallP SL.Rd SL.Wr SL.Known
/-- What is left over may be forgotten. -/
theorem st_sub {w0 w : World} {S : List Nat} {fs gs : Fs} (h : St w0 S fs w) (hg : List.Sublist gs fs) : St w0 S gs w := ⟨h.bel, fun p hp => h.own p (hg.subset hp), h.nd.sublist hg⟩
attribute [local irreducible] SL.inP
theorem reach_gas (w0 : World) (S : List Nat) (b : Nat) (m : MaV) (a n k : Nat) (p2 : Option Addr) (c2 : Nat) (ha : a < M256) (hn : n < M256) (hE : endV a n < 18446744073709551616) (hk : k ≤ 1024) (hg : m.fr.gas < 18446744073709551616) (hm : m.fr.mem = .slice p2 k c2) (rest : Fs) (w : World) (hs : St w0 S ((b, maO m) :: rest) w)
    (hcost : m.fr.gas < memV k (endV a n)) :
    Calls Tryz.prog 146 #[.pointer (some ⟨b, 0, none⟩), wv a, wv n] w (fun x w' => ∃ fs', (x = .panicked failC ∧ ∃ ex, fs' = (b, maO m) :: (ex ++ rest)) ∧ St w0 S fs' w') := by
  have hmem : ∀ {E fr}, Rd Tryz.prog 22 (.cells (mca m) E fr) 3 (.slice p2 k c2) := fun {E fr} => by rw [← hm]; exact ma_rd3
  refine calls_inlineP (K := fun x fs' => x = .panicked failC ∧ ∃ ex, fs' = (b, maO m) :: (ex ++ rest)) (args := [_, _, _]) Tryz.func146 rfl Tryz.ntmps146 rfl ?_ hs
  (refine sRz ?_; apply LW.boxA; rfl; rfl; intro _; apply LW.boxA; rfl; rfl; intro _; refine vAz ?_; refine vAz ?_; refine nSz ?_; refine ldz rfl (.tail .head) (Rd.whole rfl) ?_; refine ldz rfl .head (Rd.whole rfl) ?_; apply LW.callE; rfl; rfl; infer_instance; exact .cons rfl (.cons rfl .nil); intro w _; exact End_calls a n ha hn w; refine vAz ?_; refine nSz ?_; refine vMz ?_; refine vMz ?_; refine vNz ?_; refine vFz ?_; refine vFz ?_; refine vFz ?_; refine ldz rfl (.tail (.tail .head)) hmem ?_; refine lvz (.lenR rfl inferInstance rfl) ?_; refine lvz (.convN rfl (by omega) (by omega)) ?_; refine vMz ?_; apply LW.callE; rfl; rfl; infer_instance; exact .cons rfl (.cons rfl .nil); intro w _; exact Memory_calls _ _ (by omega) hE w; apply LW.lay1; rfl; infer_instance; infer_instance; rfl; rfl; rfl; rfl; rfl; rfl; intro _)
  rename_i b4 b5 b29
  obtain ⟨c, hc⟩ : ∃ c, c = memV k (endV a n) := ⟨_, rfl⟩
  rw [← hc] at hcost ⊢
  have hsp : spendM m [c] = none := by unfold spendM; rw [if_neg (by simp; omega)]
  refine LW.perm (fs' := (b, maO m) :: (b29, .cells #[.int .u64 (c : Int)] 26 (0, 0)) :: (b5, .cells (wc n) 29 (0, 0)) :: (b4, .cells (wc a) 29 (0, 0)) :: rest) (by exact (List.perm_middle (l₁ := [_, _, _])).symm) ?_
  refine LW.callP (K := MaK b m (spendM m [c]) _) rfl rfl inferInstance (by (exact .cons rfl (.cons rfl .nil))) rfl (fun fs h => ?_) (fun w' hst => spend_calls w0 S b m [c] hg _ _ w' hst (fun w2 h2 => row_cells (h2.own (b29, _) (List.Mem.tail _ (List.Mem.head _))).2 rfl rfl (by simp [maxLen]))) ?_ ?_
  · rw [hsp] at h; cases h.1
  · rintro v fs' h
    rw [hsp] at h; cases h.1
  · rintro ch fs' h
    rw [hsp] at h
    obtain ⟨h, rfl⟩ := h
    cases h
    refine thenP ?_
    exact inPP .nil ⟨rfl, [_, _, _], rfl⟩
theorem reach_none (w0 : World) (S : List Nat) (b : Nat) (m : MaV) (a n k : Nat) (hn0 : n = 0) (p2 : Option Addr) (c2 : Nat) (ha : a < M256) (hk : k ≤ 1024) (hg : m.fr.gas < 18446744073709551616) (hm : m.fr.mem = .slice p2 k c2) (rest : Fs) (w : World) (hs : St w0 S ((b, maO m) :: rest) w) :
    Calls Tryz.prog 146 #[.pointer (some ⟨b, 0, none⟩), wv a, wv n] w (fun x w' => ∃ fs', (x = .returned (.tuple #[.int .u64 0, .int .u64 0]) ∧ ∃ ex, fs' = (b, maO m) :: (ex ++ rest)) ∧ St w0 S fs' w') := by
  have hmem : ∀ {E fr}, Rd Tryz.prog 22 (.cells (mca m) E fr) 3 (.slice p2 k c2) := fun {E fr} => by rw [← hm]; exact ma_rd3
  have hE : endV a n < 18446744073709551616 := by simp [endV, hn0]
  have hn : n < M256 := by rw [hn0]; decide
  have he : endV a n = 0 := by simp [endV, hn0]
  refine calls_inlineP (K := fun x fs' => x = .returned (.tuple #[.int .u64 0, .int .u64 0]) ∧ ∃ ex, fs' = (b, maO m) :: (ex ++ rest)) (args := [_, _, _]) Tryz.func146 rfl Tryz.ntmps146 rfl ?_ hs
  (refine sRz ?_; apply LW.boxA; rfl; rfl; intro _; apply LW.boxA; rfl; rfl; intro _; refine vAz ?_; refine vAz ?_; refine nSz ?_; refine ldz rfl (.tail .head) (Rd.whole rfl) ?_; refine ldz rfl .head (Rd.whole rfl) ?_; apply LW.callE; rfl; rfl; infer_instance; exact .cons rfl (.cons rfl .nil); intro w _; exact End_calls a n ha hn w; refine vAz ?_; refine nSz ?_; refine vMz ?_; refine vMz ?_; refine vNz ?_; refine vFz ?_; refine vFz ?_; refine vFz ?_; refine ldz rfl (.tail (.tail .head)) hmem ?_; refine lvz (.lenR rfl inferInstance rfl) ?_; refine lvz (.convN rfl (by omega) (by omega)) ?_; refine vMz ?_; apply LW.callE; rfl; rfl; infer_instance; exact .cons rfl (.cons rfl .nil); intro w _; exact Memory_calls _ _ (by omega) hE w; apply LW.lay1; rfl; infer_instance; infer_instance; rfl; rfl; rfl; rfl; rfl; rfl; intro _)
  rename_i b4 b5 b29
  have hc : memV k (endV a n) = 0 := by rw [he]; simp [memV]
  rw [hc, he]
  have hsp : spendM m [0] = some m := by unfold spendM; rw [if_pos (by simp)]; rfl
  refine LW.perm (fs' := (b, maO m) :: (b29, .cells #[.int .u64 ((0 : Nat) : Int)] 26 (0, 0)) :: (b5, .cells (wc n) 29 (0, 0)) :: (b4, .cells (wc a) 29 (0, 0)) :: rest) (by exact (List.perm_middle (l₁ := [_, _, _])).symm) ?_
  refine LW.callP (K := MaK b m (spendM m [0]) _) rfl rfl inferInstance (by (exact .cons rfl (.cons rfl .nil))) rfl (fun fs h => ?_) (fun w' hst => spend_calls w0 S b m [0] hg _ _ w' hst (fun w2 h2 => row_cells (h2.own (b29, _) (List.Mem.tail _ (List.Mem.head _))).2 rfl rfl (by simp [maxLen]))) ?_ ?_
  · rw [hsp] at h; cases h.1
  · rintro v fs' h
    rw [hsp] at h
    obtain ⟨h, rfl⟩ := h
    (refine nNz ?_; refine CW.seq ?_; refine sRz ?_; refine vMz ?_; refine lvz (.eqT rfl rfl (by omega)) ?_; refine nNz ?_; refine cTz ?_; refine sRz ?_; refine vAz ?_; refine vAz ?_; refine nNz ?_; refine CW.ret ?_; refine thenR ?_)
    exact inPI (.inl rfl) .nil rfl (by (apply ResL.cons; exact Res.tmp rfl; apply ResL.cons; exact Res.tmp rfl; exact ResL.nil)) rfl ⟨rfl, [_, _, _], rfl⟩
  · rintro ch fs' h
    rw [hsp] at h; cases h.1
end Go.Proofs.YtpgdnfgjbhdbpaaGreatDoor

/-
  Strings searched, and cut at blanks.
  Conditions: none.
-/
namespace Go.Proofs.YtpgdnfgjbhdbpaaGreatDoor.CK
open Go Go.RowKit SL
set_option maxRecDepth 8000
set_option maxHeartbeats 4000000
set_option linter.unusedSimpArgs false
set_option linter.unusedVariables false
attribute [local irreducible] SL.CW SL.LW SL.DW Calls SL.Ret SL.RetG SL.beginQ SL.roundQ SL.rangeQ SL.inQ SL.RW SL.AnyW SL.thenQ SL.thenC SL.thenW SL.blkQ SL.finQ SL.ValP SL.NewP SL.SetP SL.CallP SL.Rd SL.Wr SL.Known
end Go.Proofs.YtpgdnfgjbhdbpaaGreatDoor.CK

/-
  strings.Split at blanks, HasPrefix of a point.
  Conditions: none.
-/
namespace Go.Proofs.YtpgdnfgjbhdbpaaGreatDoor.CK
open Go Go.RowKit SL
set_option maxRecDepth 8000
set_option maxHeartbeats 4000000
set_option linter.unusedSimpArgs false
set_option linter.unusedVariables false
attribute [local irreducible] SL.CW SL.LW SL.DW Calls SL.Ret SL.RetG SL.beginQ SL.roundQ SL.rangeQ SL.inQ SL.RW SL.AnyW SL.thenQ SL.thenC SL.thenW SL.blkQ SL.finQ SL.ValP SL.NewP SL.SetP SL.CallP SL.Rd SL.Wr SL.Known
structure SX where
  k : Nat
  r : List UInt8
  seg : Fs
end Go.Proofs.YtpgdnfgjbhdbpaaGreatDoor.CK

/-
  A Builder that grows ahead; strings.Join at blanks.
  Conditions: none.
-/
namespace Go.Proofs.YtpgdnfgjbhdbpaaGreatDoor.CK
open Go Go.RowKit SL
set_option maxRecDepth 8000
set_option maxHeartbeats 4000000
set_option linter.unusedSimpArgs false
set_option linter.unusedVariables false
attribute [local irreducible] SL.CW SL.LW SL.DW Calls SL.Ret SL.RetG SL.beginQ SL.roundQ SL.rangeQ SL.inQ SL.RW SL.AnyW SL.thenQ SL.thenC SL.thenW SL.blkQ SL.finQ SL.ValP SL.NewP SL.SetP SL.CallP SL.Rd SL.Wr SL.Known
theorem ucs_app (a b : List UInt8) : ucs (a ++ b) = ucs a ++ ucs b := by simp [ucs]
structure BX where
  k : Nat
  v : Value
  seg : Fs
end Go.Proofs.YtpgdnfgjbhdbpaaGreatDoor.CK

/-
  The operation of a byte and of a name, by the document's answer too: contracts.
  Conditions: none.
-/
namespace Go.Proofs.YtpgdnfgjbhdbpaaGreatDoor.CK
open Go Go.RowKit SL
set_option maxRecDepth 8000
set_option maxHeartbeats 4000000
set_option linter.unusedSimpArgs false
set_option linter.unusedVariables false
attribute [local irreducible] SL.CW SL.LW SL.DW Calls SL.Ret SL.RetG SL.beginQ SL.roundQ SL.rangeQ SL.inQ SL.RW SL.AnyW SL.thenQ SL.thenC SL.thenW SL.blkQ SL.finQ SL.ValP SL.NewP SL.SetP SL.CallP SL.Rd SL.Wr SL.Known
end Go.Proofs.YtpgdnfgjbhdbpaaGreatDoor.CK

/-
  The operation of a name; which bytes are programs; how much data belongs to a byte: contracts.
  Conditions: none.
-/
namespace Go.Proofs.YtpgdnfgjbhdbpaaGreatDoor.CK
open Go Go.RowKit SL
set_option maxRecDepth 8000
set_option maxHeartbeats 4000000
set_option linter.unusedSimpArgs false
set_option linter.unusedVariables false
attribute [local irreducible] SL.CW SL.LW SL.DW Calls SL.Ret SL.RetG SL.beginQ SL.roundQ SL.rangeQ SL.inQ SL.RW SL.AnyW SL.thenQ SL.thenC SL.thenW SL.blkQ SL.finQ SL.ValP SL.NewP SL.SetP SL.CallP SL.Rd SL.Wr SL.Known
attribute [local irreducible] opOf
/-- The operation of byte b, if its name is s. -/
def hit (s : List UInt8) (b : Nat) : Option OpV := match opOf b with
  | some x => if x.nm = s then some x else none
  | none => none
def named (s : List UInt8) : Option OpV := (List.range 256).findSome? (hit s)
attribute [local irreducible] named
/-! ### Sizes -/
/-- The data that belongs to a byte. -/
def szOf (b : Nat) : Nat := match opOf b with
  | some x => x.dt
  | none => 0
attribute [local irreducible] szOf
theorem CheckC_calls (v : Value) (n : Nat) (xs : List Value) (w : World) (hv : RowAt w 1 v n xs) : Calls Tryz.prog 48 #[v] w (Ret w (.int .i64 (if n ≤ 200 then 0 else 3))) := by
  obtain ⟨p, c, rfl, hc, hm⟩ := hv.form
  refine enter (args := [_]) _ [] [] Tryz.func48 rfl Tryz.ntmps48 rfl (by simp) .nil ?_
  rcases Nat.lt_or_ge 200 n with h | h
  · rw [if_neg (by omega)]
    (refine sRz ?_; refine vAz ?_; refine nNz ?_; refine CW.seq ?_; refine sRz ?_; refine vMz ?_; refine lvz (.lenR rfl inferInstance rfl) ?_; refine lvz (.gtrT rfl rfl (by omega)) ?_; refine nNz ?_; refine cTz ?_; refine sRz ?_; refine vAz ?_; refine nNz ?_; refine CW.ret ?_; refine thenR ?_)
    (apply finR; exact .inl rfl; rfl; rfl; rfl; apply ResL.cons; exact Res.tmp rfl; exact ResL.nil)
    rfl
  · rw [if_pos h]
    (refine sRz ?_; refine vAz ?_; refine nNz ?_; refine CW.seq ?_; refine sRz ?_; refine vMz ?_; refine lvz (.lenR rfl inferInstance rfl) ?_; refine lvz (.gtrF rfl rfl (by omega)) ?_; refine nNz ?_; refine cFz ?_; refine CW.skip ?_; refine thenN ?_; refine sRz ?_; refine vAz ?_; refine nNz ?_; refine CW.ret ?_)
    (apply finR; exact .inl rfl; rfl; rfl; rfl; apply ResL.cons; exact Res.tmp rfl; exact ResL.nil)
    rfl
end Go.Proofs.YtpgdnfgjbhdbpaaGreatDoor.CK

/-
  The places at which an operation is read; the places to jump to: contracts.
  Conditions: none.
-/
namespace Go.Proofs.YtpgdnfgjbhdbpaaGreatDoor.CK
open Go Go.RowKit SL
set_option maxRecDepth 8000
set_option maxHeartbeats 4000000
set_option linter.unusedSimpArgs false
set_option linter.unusedVariables false
attribute [local irreducible] SL.CW SL.LW SL.DW Calls SL.Ret SL.RetG SL.beginQ SL.roundQ SL.rangeQ SL.inQ SL.RW SL.AnyW SL.thenQ SL.thenC SL.thenW SL.blkQ SL.finQ SL.ValP SL.NewP SL.SetP SL.CallP SL.Rd SL.Wr SL.Known
theorem row_dt {b : Nat} {x : OpV} (h : rowOp b = some x) : x.dt ≤ 32 := by
  unfold rowOp at h
  split at h
  · cases h; dsimp only; omega
  · split at h
    · cases h; exact Nat.zero_le _
    · split at h
      · cases h; exact Nat.zero_le _
      · cases h
theorem plain_dt : ∀ x ∈ plainOps, x.dt = 0 := by decide
theorem opOf_dt {b : Nat} {x : OpV} (h : opOf b = some x) : x.dt ≤ 32 := by
  unfold opOf at h
  cases hr : rowOp b with
  | some y => rw [hr] at h; cases h; exact row_dt hr
  | none => rw [hr] at h; rw [plain_dt x (List.mem_of_find?_eq_some h)]; exact Nat.zero_le _
theorem szOf_le (b : Nat) : szOf b ≤ 32 := by
  unfold szOf
  cases h : opOf b with
  | none => exact Nat.zero_le _
  | some x => exact opOf_dt h
attribute [local irreducible] opOf
/-- The places at which an operation is read (p: the first byte's place), with the byte and the data that is there. -/
def segsAt (p : Nat) (bs : List UInt8) : List (Nat × UInt8 × List UInt8) := match bs with
  | [] => []
  | b :: r => (p, b, r.take (szOf b.toNat)) :: segsAt (p + 1 + szOf b.toNat) (r.drop (szOf b.toNat))
termination_by bs.length
decreasing_by simp [List.length_drop]; omega
theorem segsAt_nil (p : Nat) : segsAt p [] = [] := by rw [segsAt]
theorem segsAt_cons (p : Nat) (b : UInt8) (r : List UInt8) : segsAt p (b :: r) = (p, b, r.take (szOf b.toNat)) :: segsAt (p + 1 + szOf b.toNat) (r.drop (szOf b.toNat)) := by rw [segsAt]
/-- One round's step: what is read at a place of a program. -/
theorem segs_step (bs : List UInt8) (p : Nat) (h : p < bs.length) : segsAt p (bs.drop p) = (p, bs.getD p 0, (bs.drop (p + 1)).take (szOf (bs.getD p 0).toNat)) :: segsAt (p + szOf (bs.getD p 0).toNat + 1) (bs.drop (p + szOf (bs.getD p 0).toNat + 1)) := by
  rw [List.drop_eq_getElem_cons h, segsAt_cons, List.drop_drop, show bs[p] = bs.getD p 0 by simp [h], Nat.add_right_comm p 1]
theorem segs_end (bs : List UInt8) (p q : Nat) (h : bs.length ≤ p) : segsAt q (bs.drop p) = [] := by rw [List.drop_eq_nil_of_le h, segsAt_nil]
/-! ### The places to jump to -/
structure JX where
  p : Nat
  J : List Nat
  v : Value
  seg : Fs
end Go.Proofs.YtpgdnfgjbhdbpaaGreatDoor.CK

/-
  Places to jump to, asked one by one; the document's places: contracts.
  Conditions: none.
-/
namespace Go.Proofs.YtpgdnfgjbhdbpaaGreatDoor.CK
open Go Go.RowKit SL
set_option maxRecDepth 8000
set_option maxHeartbeats 4000000
set_option linter.unusedSimpArgs false
set_option linter.unusedVariables false
attribute [local irreducible] SL.CW SL.LW SL.DW Calls SL.Ret SL.RetG SL.beginQ SL.roundQ SL.rangeQ SL.inQ SL.RW SL.AnyW SL.thenQ SL.thenC SL.thenW SL.blkQ SL.finQ SL.ValP SL.NewP SL.SetP SL.CallP SL.Rd SL.Wr SL.Known
attribute [local irreducible] opOf
/-! ### Is a number one of a row? -/
/-! ### The document's: is an operation read there? -/
def readB (bs : List UInt8) (i : Int) : Bool := (segsAt 0 bs).any fun s => decide ((s.1 : Int) = i)
def readFrom (bs : List UInt8) (p : Nat) (i : Int) : Bool := (segsAt p (bs.drop p)).any fun s => decide ((s.1 : Int) = i)
theorem segsAt_ge (n : Nat) : ∀ (bs : List UInt8) (p : Nat), bs.length ≤ n → ∀ s ∈ segsAt p bs, p ≤ s.1 := by
  induction n with
  | zero =>
    intro bs p h s hs
    rw [List.eq_nil_of_length_eq_zero (show bs.length = 0 by omega), segsAt_nil] at hs
    cases hs
  | succ n ih =>
    intro bs p h s hs
    cases bs with
    | nil => rw [segsAt_nil] at hs; cases hs
    | cons b r =>
      rw [segsAt_cons] at hs
      rcases List.mem_cons.1 hs with rfl | hs
      · exact Nat.le_refl _
      · have := ih (r.drop (szOf b.toNat)) (p + 1 + szOf b.toNat) (by simp at h ⊢; omega) s hs
        omega
theorem readFrom_gt {bs : List UInt8} {p : Nat} {i : Int} (h : i < (p : Int)) : readFrom bs p i = false := by
  unfold readFrom
  refine List.any_eq_false.2 fun s hs => ?_
  have := segsAt_ge _ _ p (Nat.le_refl _) s hs
  simp; omega
theorem readFrom_end {bs : List UInt8} {p : Nat} {i : Int} (h : bs.length ≤ p) : readFrom bs p i = false := by
  unfold readFrom; rw [segs_end bs p p h]; rfl
theorem readFrom_hit {bs : List UInt8} {p : Nat} (h : p < bs.length) : readFrom bs p (p : Int) = true := by
  unfold readFrom; rw [segs_step bs p h, List.any_cons]; simp
theorem readFrom_step {bs : List UInt8} {p : Nat} {i : Int} (h : p < bs.length) (hi : (p : Int) < i) : readFrom bs (p + 1 + szOf (bs.getD p 0).toNat) i = readFrom bs p i := by
  unfold readFrom
  rw [segs_step bs p h, List.any_cons, decide_eq_false (by dsimp only; omega), Bool.false_or, Nat.add_right_comm p 1]
/-! ### The document's places to jump to -/
structure RJ where
  k : Nat
  v : Value
  seg : Fs
/-! ### The same bytes -/
end Go.Proofs.YtpgdnfgjbhdbpaaGreatDoor.CK
