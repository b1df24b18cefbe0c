/-
  A SMALL LOGIC OVER THE KIT's WALK, PART O: truth values compared; parts of a block read.
  Conditions: none; over any program.
-/
import Derived.Test.YtahoghldnijnbaaSln
namespace Go.Proofs.Ytahoghldnijnbaa.SL
set_option linter.unusedVariables false
set_option linter.unusedSimpArgs false
open Go Go.RowKit
section bo
variable {P : Program} {e : Env} {T ty : TypeId} {x y : Operand} {a b : Bool}
theorem guard_bool {op : BinOp} {v : Value} (w : World) : (eqGuard op T x y (.bool a) v).run P w = .ok () w := by
  unfold eqGuard; cases op <;> cases v <;> simp
theorem eqIn_bool (d : Nat) (w : World) [UnI P T .bool] : (Op.equalIn (d + 1) T (.bool a) (.bool b)).run P w = .ok (a == b) w := by
  rw [Op.equalIn.eq_def]; simp only [Sem.run_bind, run_un (P := P) (T := T), Result.andThen_ok]; rfl
theorem ValP.boolEq [UnI P T .bool] (hx : e.ev x = some (.bool a)) (hy : e.ev y = some (.bool b)) : ValP P e [] (.binOp .eql T x y ty) (.bool (a == b)) :=
  .bin hx hy (fun w => guard_bool w) fun w => by
    have := eqIn_bool (P := P) (T := T) (a := a) (b := b) (Op.maxDepth - 1) w
    simp only [binOp, Op.equal, Sem.run_bind]
    rw [show Op.maxDepth = Op.maxDepth - 1 + 1 from rfl, this]; rfl
theorem ValP.boolNe [UnI P T .bool] (hx : e.ev x = some (.bool a)) (hy : e.ev y = some (.bool b)) : ValP P e [] (.binOp .neq T x y ty) (.bool (a != b)) :=
  .bin hx hy (fun w => guard_bool w) fun w => by
    have := eqIn_bool (P := P) (T := T) (a := a) (b := b) (Op.maxDepth - 1) w
    simp only [binOp, Op.equal, Sem.run_bind]
    rw [show Op.maxDepth = Op.maxDepth - 1 + 1 from rfl, this]; rfl
theorem ValP.boolEqT [UnI P T .bool] (hx : e.ev x = some (.bool a)) (hy : e.ev y = some (.bool b)) (h : a = b) : ValP P e [] (.binOp .eql T x y ty) (.bool true) := by
  have := ValP.boolEq (P := P) (T := T) (ty := ty) hx hy; rwa [h, beq_self_eq_true] at this
theorem ValP.boolNeF [UnI P T .bool] (hx : e.ev x = some (.bool a)) (hy : e.ev y = some (.bool b)) (h : a = b) : ValP P e [] (.binOp .neq T x y ty) (.bool false) := by
  have := ValP.boolNe (P := P) (T := T) (ty := ty) hx hy; rwa [h, bne_self_eq_false] at this
end bo
/-- Parts of a block. -/
theorem Rd.mid {P : Program} {T : TypeId} {n : Nat} {z : Value} [AgI P T true] [InfoI P T n z] {c : Array Value} {E : TypeId} {fr : Nat × Nat} {off : Nat} {cs : List Value} (hn : cs.length = n) (h : (c.toList.drop off).take n = cs) : Rd P T (.cells c E fr) off (.agg cs.toArray) :=
  Rd.part hn fun j v hv => cut_get h hv
end Go.Proofs.Ytahoghldnijnbaa.SL
