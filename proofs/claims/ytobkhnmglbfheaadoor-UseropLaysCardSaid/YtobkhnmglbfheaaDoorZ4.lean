/-
  Texts that were built apart, put behind one another (4 of 5): U4 U5 U6 Smm U7 U8 U9 UA UB UC UD UG UH US K1 K2 V7 K3 K4.
  Conditions: none.
-/
import Derived.Test.YtobkhnmglbfheaaDoorZ3
import Derived.Test.YtobkhnmglbfheaaDoorRows
import Derived.LaidMore
import Derived.Lib.LaidTab
import Derived.Lib.LaidU8
/-
  Operations of accounts: which are one.
  Conditions: none.
-/
namespace Go.Proofs.YtobkhnmglbfheaaDoor
open Go Go.RowKit SL
set_option maxRecDepth 8000
set_option maxHeartbeats 4000000
set_option linter.unusedSimpArgs false
set_option linter.unusedVariables false
attribute [local irreducible] SL.CW SL.LW SL.DW Calls SL.Ret SL.RetG SL.beginQ SL.roundQ SL.rangeQ SL.inQ SL.RW SL.AnyW SL.thenQ SL.thenC SL.thenW SL.blkQ SL.finQ SL.ValP SL.NewP SL.SetP SL.CallP SL.Rd SL.Wr SL.Known
/-- Are two operations one? -/
def sameU (u v : OpV) : Bool := decide ((u.sd = v.sd ∧ u.no = v.no ∧ u.py = v.py) ∧ (u.vg = v.vg ∧ u.cg = v.cg ∧ u.pg = v.pg ∧ u.mf = v.mf ∧ u.mp = v.mp ∧ u.pv = v.pv ∧ u.pp = v.pp)) && (decide (u.ib = v.ib) && (decide (u.cb = v.cb) && (decide (u.db = v.db) && decide (u.gb = v.gb))))
theorem l7 (a b c d e f g a' b' c' d' e' f' g' : Nat) : decide (([(a : Int), b, c, d, e, f, g] : List Int) = [(a' : Int), b', c', d', e', f', g']) = decide (a = a' ∧ b = b' ∧ c = c' ∧ d = d' ∧ e = e' ∧ f = f' ∧ g = g') := by
  apply decide_eq_decide.2
  simp only [List.cons.injEq, and_true]
  omega
theorem uSame_calls (u v : OpV) (w : World) (hu : OpAt w u) (hv : OpAt w v) : Calls Tryd.prog 9 #[.agg (opa u), .agg (opa v)] w (Ret w (.bool (sameU u v))) := by
  have hEi : ∀ w' {fs}, St w [] fs w' → Calls Tryd.prog 13 #[u.iv, v.iv] w' (Ret w' (.bool (decide (u.ib = v.ib)))) := fun w' fs hst => Equal_calls _ _ _ _ _ _ w' (hu.i.st hst) (hv.i.st hst)
  have hEc : ∀ w' {fs}, St w [] fs w' → Calls Tryd.prog 13 #[u.cv, v.cv] w' (Ret w' (.bool (decide (u.cb = v.cb)))) := fun w' fs hst => Equal_calls _ _ _ _ _ _ w' (hu.c.st hst) (hv.c.st hst)
  have hEd : ∀ w' {fs}, St w [] fs w' → Calls Tryd.prog 13 #[u.dv, v.dv] w' (Ret w' (.bool (decide (u.db = v.db)))) := fun w' fs hst => Equal_calls _ _ _ _ _ _ w' (hu.d.st hst) (hv.d.st hst)
  have hEg : ∀ w' {fs}, St w [] fs w' → Calls Tryd.prog 13 #[u.gv, v.gv] w' (Ret w' (.bool (decide (u.gb = v.gb)))) := fun w' fs hst => Equal_calls _ _ _ _ _ _ w' (hu.g.st hst) (hv.g.st hst)
  have hno1 := hu.num.no
  have hno2 := hv.num.no
  unfold sameU
  refine enter (args := [_, _]) _ [] [] Tryd.func9 rfl Tryd.ntmps9 rfl (by simp) .nil ?_
  (refine CW.seq ?_; refine CW.region ?_; apply LW.boxA; rfl; rfl; intro _; apply LW.boxA; rfl; rfl; intro _; apply LW.v0; rfl; rfl; apply ValP.assign; rfl; apply LW.nil; refine thenN ?_; refine CW.seq ?_; refine CW.region ?_; apply LW.v0; rfl; rfl; apply ValP.fieldAddr; rfl; rfl; apply LW.load; rfl; rfl; apply Known.at; apply FsAt.tail; apply FsAt.head; exact op_rd0; apply LW.v0; rfl; rfl; apply ValP.fieldAddr; rfl; rfl; apply LW.load; rfl; rfl; apply Known.at; apply FsAt.head; exact op_rd0; apply LW.v0; rfl; rfl; apply ValP.eq; rfl; rfl; apply LW.v0; rfl; rfl; apply ValP.move; rfl)
  rename_i b2 b3
  refine LW.cut [(5, .bool (decide (u.sd = v.sd ∧ u.no = v.no ∧ u.py = v.py))), (2, .pointer (some ⟨b2, 0, none⟩)), (3, .pointer (some ⟨b3, 0, none⟩))] [(b3, .cells (opa v) 30 (0, 0)), (b2, .cells (opa u) 30 (0, 0))] ?_ ?_
  · (refine CW.seq ?_; refine CW.region ?_; apply LW.v0; rfl; rfl; apply ValP.move; rfl; apply LW.v0; rfl; rfl; apply ValP.move; rfl)
    refine LW.cut [(5, .bool (decide ((u.sd = v.sd ∧ u.no = v.no ∧ u.py = v.py) ∧ (u.vg = v.vg ∧ u.cg = v.cg ∧ u.pg = v.pg ∧ u.mf = v.mf ∧ u.mp = v.mp ∧ u.pv = v.pv ∧ u.pp = v.pp)))), (2, .pointer (some ⟨b2, 0, none⟩)), (3, .pointer (some ⟨b3, 0, none⟩))] [(b3, .cells (opa v) 30 (0, 0)), (b2, .cells (opa u) 30 (0, 0))] ?_ ?_
    · generalize decide ((u.sd = v.sd ∧ u.no = v.no ∧ u.py = v.py) ∧ (u.vg = v.vg ∧ u.cg = v.cg ∧ u.pg = v.pg ∧ u.mf = v.mf ∧ u.mp = v.mp ∧ u.pv = v.pv ∧ u.pp = v.pp)) = B
      (refine CW.seq ?_; refine CW.region ?_; apply LW.v0; rfl; rfl; apply ValP.move; rfl; apply LW.v0; rfl; rfl; apply ValP.move; rfl; refine LW.guardCT rfl rfl rfl (fun hsp => ?_) (fun hsp => ?_); apply LW.v0; rfl; rfl; apply ValP.fieldAddr; rfl; rfl; apply LW.guardT'; rfl; rfl; (with_reducible assumption); apply LW.load; rfl; rfl; apply Known.at; apply FsAt.tail; apply FsAt.head; exact op_rd5; apply LW.guardT'; rfl; rfl; (with_reducible assumption); apply LW.v0; rfl; rfl; apply ValP.fieldAddr; rfl; rfl; apply LW.guardT'; rfl; rfl; (with_reducible assumption); apply LW.load; rfl; rfl; apply Known.at; apply FsAt.head; exact op_rd5; apply LW.guardT'; rfl; rfl; (with_reducible assumption); apply LW.callE; rfl; rfl; infer_instance; apply ArgsOk.cons; rfl; apply ArgsOk.cons; rfl; exact ArgsOk.nil; intro w _; exact hEi w (by assumption); apply LW.v0; rfl; rfl; apply ValP.pickT'; rfl; (with_reducible assumption); rfl; apply LW.v0; rfl; rfl; apply ValP.move; rfl; refine LW.guardDT rfl rfl rfl (fun hsq hsp => ?_) (fun hsq hsp => ?_); apply LW.v0; rfl; rfl; apply ValP.fieldAddr; rfl; rfl; apply LW.guardT'; rfl; rfl; (with_reducible assumption); apply LW.load; rfl; rfl; apply Known.at; apply FsAt.tail; apply FsAt.head; exact op_rd6; apply LW.guardT'; rfl; rfl; (with_reducible assumption); apply LW.v0; rfl; rfl; apply ValP.fieldAddr; rfl; rfl; apply LW.guardT'; rfl; rfl; (with_reducible assumption); apply LW.load; rfl; rfl; apply Known.at; apply FsAt.head; exact op_rd6; apply LW.guardT'; rfl; rfl; (with_reducible assumption); apply LW.callE; rfl; rfl; infer_instance; apply ArgsOk.cons; rfl; apply ArgsOk.cons; rfl; exact ArgsOk.nil; intro w _; exact hEc w (by assumption); apply LW.v0; rfl; rfl; apply ValP.pickT'; rfl; (with_reducible assumption); rfl; apply LW.v0; rfl; rfl; apply ValP.move; rfl; refine LW.guardDT rfl rfl rfl (fun hsq hsp => ?_) (fun hsq hsp => ?_); apply LW.v0; rfl; rfl; apply ValP.fieldAddr; rfl; rfl; apply LW.guardT'; rfl; rfl; (with_reducible assumption); apply LW.load; rfl; rfl; apply Known.at; apply FsAt.tail; apply FsAt.head; exact op_rd15; apply LW.guardT'; rfl; rfl; (with_reducible assumption); apply LW.v0; rfl; rfl; apply ValP.fieldAddr; rfl; rfl; apply LW.guardT'; rfl; rfl; (with_reducible assumption); apply LW.load; rfl; rfl; apply Known.at; apply FsAt.head; exact op_rd15; apply LW.guardT'; rfl; rfl; (with_reducible assumption); apply LW.callE; rfl; rfl; infer_instance; apply ArgsOk.cons; rfl; apply ArgsOk.cons; rfl; exact ArgsOk.nil; intro w _; exact hEd w (by assumption); apply LW.v0; rfl; rfl; apply ValP.pickT'; rfl; (with_reducible assumption); rfl; apply LW.v0; rfl; rfl; apply ValP.move; rfl; refine LW.guardDT rfl rfl rfl (fun hsq hsp => ?_) (fun hsq hsp => ?_); apply LW.v0; rfl; rfl; apply ValP.fieldAddr; rfl; rfl; apply LW.guardT'; rfl; rfl; (with_reducible assumption); apply LW.load; rfl; rfl; apply Known.at; apply FsAt.tail; apply FsAt.head; exact op_rd16; apply LW.guardT'; rfl; rfl; (with_reducible assumption); apply LW.v0; rfl; rfl; apply ValP.fieldAddr; rfl; rfl; apply LW.guardT'; rfl; rfl; (with_reducible assumption); apply LW.load; rfl; rfl; apply Known.at; apply FsAt.head; exact op_rd16; apply LW.guardT'; rfl; rfl; (with_reducible assumption); apply LW.callE; rfl; rfl; infer_instance; apply ArgsOk.cons; rfl; apply ArgsOk.cons; rfl; exact ArgsOk.nil; intro w _; exact hEg w (by assumption); apply LW.v0; rfl; rfl; apply ValP.pickT'; rfl; (with_reducible assumption); rfl; apply LW.v0; rfl; rfl; apply ValP.assign; rfl; apply LW.nil; refine thenN ?_; refine CW.ret ?_; apply finR; exact .inl rfl; rfl; rfl; rfl; apply ResL.cons; exact Res.tmp rfl; exact ResL.nil; refine congrArg Value.bool ?_; simp [*]; apply LW.guardF'; rfl; rfl; simp only [Bool.not_true, Bool.not_false]; (with_reducible assumption); rfl; apply LW.guardF'; rfl; rfl; simp only [Bool.not_true, Bool.not_false]; (with_reducible assumption); rfl; apply LW.guardF'; rfl; rfl; simp only [Bool.not_true, Bool.not_false]; (with_reducible assumption); rfl; apply LW.guardF'; rfl; rfl; simp only [Bool.not_true, Bool.not_false]; (with_reducible assumption); rfl; apply LW.v0; rfl; rfl; apply ValP.pickF'; rfl; (with_reducible assumption); rfl; apply LW.v0; rfl; rfl; apply ValP.assign; rfl; apply LW.nil; refine thenN ?_; refine CW.ret ?_; apply finR; exact .inl rfl; rfl; rfl; rfl; apply ResL.cons; exact Res.tmp rfl; exact ResL.nil; refine congrArg Value.bool ?_; simp [*]; apply LW.guardF'; rfl; rfl; simp only [Bool.not_true, Bool.not_false]; (with_reducible assumption); rfl; apply LW.guardF'; rfl; rfl; simp only [Bool.not_true, Bool.not_false]; (with_reducible assumption); rfl; apply LW.guardF'; rfl; rfl; simp only [Bool.not_true, Bool.not_false]; (with_reducible assumption); rfl; apply LW.guardF'; rfl; rfl; simp only [Bool.not_true, Bool.not_false]; (with_reducible assumption); rfl; apply LW.v0; rfl; rfl; apply ValP.pickF'; rfl; (with_reducible assumption); rfl; apply LW.v0; rfl; rfl; apply ValP.move; rfl; apply LW.guardF'; rfl; rfl; simp only [Bool.not_true, Bool.not_false]; rfl; apply LW.guardF'; rfl; rfl; simp only [Bool.not_true, Bool.not_false]; rfl; apply LW.guardF'; rfl; rfl; simp only [Bool.not_true, Bool.not_false]; rfl; apply LW.guardF'; rfl; rfl; simp only [Bool.not_true, Bool.not_false]; rfl; apply LW.guardF'; rfl; rfl; simp only [Bool.not_true, Bool.not_false]; rfl; apply LW.v0; rfl; rfl; apply ValP.pickF'; rfl; (with_reducible rfl); rfl; apply LW.v0; rfl; rfl; apply ValP.assign; rfl; apply LW.nil; refine thenN ?_; refine CW.ret ?_; apply finR; exact .inl rfl; rfl; rfl; rfl; apply ResL.cons; exact Res.tmp rfl; exact ResL.nil; refine congrArg Value.bool ?_; simp [*]; apply LW.guardF'; rfl; rfl; simp only [Bool.not_true, Bool.not_false]; (with_reducible assumption); rfl; apply LW.guardF'; rfl; rfl; simp only [Bool.not_true, Bool.not_false]; (with_reducible assumption); rfl; apply LW.guardF'; rfl; rfl; simp only [Bool.not_true, Bool.not_false]; (with_reducible assumption); rfl; apply LW.guardF'; rfl; rfl; simp only [Bool.not_true, Bool.not_false]; (with_reducible assumption); rfl; apply LW.v0; rfl; rfl; apply ValP.pickF'; rfl; (with_reducible assumption); rfl; apply LW.v0; rfl; rfl; apply ValP.move; rfl; apply LW.guardF'; rfl; rfl; simp only [Bool.not_true, Bool.not_false]; rfl; apply LW.guardF'; rfl; rfl; simp only [Bool.not_true, Bool.not_false]; rfl; apply LW.guardF'; rfl; rfl; simp only [Bool.not_true, Bool.not_false]; rfl; apply LW.guardF'; rfl; rfl; simp only [Bool.not_true, Bool.not_false]; rfl; apply LW.guardF'; rfl; rfl; simp only [Bool.not_true, Bool.not_false]; rfl; apply LW.v0; rfl; rfl; apply ValP.pickF'; rfl; (with_reducible rfl); rfl; apply LW.v0; rfl; rfl; apply ValP.move; rfl; apply LW.guardF'; rfl; rfl; simp only [Bool.not_true, Bool.not_false]; rfl; apply LW.guardF'; rfl; rfl; simp only [Bool.not_true, Bool.not_false]; rfl; apply LW.guardF'; rfl; rfl; simp only [Bool.not_true, Bool.not_false]; rfl; apply LW.guardF'; rfl; rfl; simp only [Bool.not_true, Bool.not_false]; rfl; apply LW.guardF'; rfl; rfl; simp only [Bool.not_true, Bool.not_false]; rfl; apply LW.v0; rfl; rfl; apply ValP.pickF'; rfl; (with_reducible rfl); rfl; apply LW.v0; rfl; rfl; apply ValP.assign; rfl; apply LW.nil; refine thenN ?_; refine CW.ret ?_; apply finR; exact .inl rfl; rfl; rfl; rfl; apply ResL.cons; exact Res.tmp rfl; exact ResL.nil; refine congrArg Value.bool ?_; simp [*]; apply LW.guardF'; rfl; rfl; simp only [Bool.not_true, Bool.not_false]; (with_reducible assumption); rfl; apply LW.guardF'; rfl; rfl; simp only [Bool.not_true, Bool.not_false]; (with_reducible assumption); rfl; apply LW.guardF'; rfl; rfl; simp only [Bool.not_true, Bool.not_false]; (with_reducible assumption); rfl; apply LW.guardF'; rfl; rfl; simp only [Bool.not_true, Bool.not_false]; (with_reducible assumption); rfl; apply LW.v0; rfl; rfl; apply ValP.pickF'; rfl; (with_reducible assumption); rfl; apply LW.v0; rfl; rfl; apply ValP.move; rfl; apply LW.guardF'; rfl; rfl; simp only [Bool.not_true, Bool.not_false]; rfl; apply LW.guardF'; rfl; rfl; simp only [Bool.not_true, Bool.not_false]; rfl; apply LW.guardF'; rfl; rfl; simp only [Bool.not_true, Bool.not_false]; rfl; apply LW.guardF'; rfl; rfl; simp only [Bool.not_true, Bool.not_false]; rfl; apply LW.guardF'; rfl; rfl; simp only [Bool.not_true, Bool.not_false]; rfl; apply LW.v0; rfl; rfl; apply ValP.pickF'; rfl; (with_reducible rfl); rfl; apply LW.v0; rfl; rfl; apply ValP.move; rfl; apply LW.guardF'; rfl; rfl; simp only [Bool.not_true, Bool.not_false]; rfl; apply LW.guardF'; rfl; rfl; simp only [Bool.not_true, Bool.not_false]; rfl; apply LW.guardF'; rfl; rfl; simp only [Bool.not_true, Bool.not_false]; rfl; apply LW.guardF'; rfl; rfl; simp only [Bool.not_true, Bool.not_false]; rfl; apply LW.guardF'; rfl; rfl; simp only [Bool.not_true, Bool.not_false]; rfl; apply LW.v0; rfl; rfl; apply ValP.pickF'; rfl; (with_reducible rfl); rfl; apply LW.v0; rfl; rfl; apply ValP.move; rfl; apply LW.guardF'; rfl; rfl; simp only [Bool.not_true, Bool.not_false]; rfl; apply LW.guardF'; rfl; rfl; simp only [Bool.not_true, Bool.not_false]; rfl; apply LW.guardF'; rfl; rfl; simp only [Bool.not_true, Bool.not_false]; rfl; apply LW.guardF'; rfl; rfl; simp only [Bool.not_true, Bool.not_false]; rfl; apply LW.guardF'; rfl; rfl; simp only [Bool.not_true, Bool.not_false]; rfl; apply LW.v0; rfl; rfl; apply ValP.pickF'; rfl; (with_reducible rfl); rfl; apply LW.v0; rfl; rfl; apply ValP.assign; rfl; apply LW.nil; refine thenN ?_; refine CW.ret ?_; apply finR; exact .inl rfl; rfl; rfl; rfl; apply ResL.cons; exact Res.tmp rfl; exact ResL.nil; refine congrArg Value.bool ?_; simp [*])
    · (refine LW.guardDT rfl rfl rfl (fun hsq hsp => ?_) (fun hsq hsp => ?_); apply LW.v0; rfl; rfl; apply ValP.fieldAddr; rfl; rfl; apply LW.guardT'; rfl; rfl; (with_reducible assumption); apply LW.load; rfl; rfl; apply Known.at; apply FsAt.tail; apply FsAt.head; exact op_rd7; apply LW.guardT'; rfl; rfl; (with_reducible assumption); apply LW.v0; rfl; rfl; apply ValP.fieldAddr; rfl; rfl; apply LW.guardT'; rfl; rfl; (with_reducible assumption); apply LW.load; rfl; rfl; apply Known.at; apply FsAt.tail; apply FsAt.head; exact op_rd8; apply LW.guardT'; rfl; rfl; (with_reducible assumption); apply LW.v0; rfl; rfl; apply ValP.fieldAddr; rfl; rfl; apply LW.guardT'; rfl; rfl; (with_reducible assumption); apply LW.load; rfl; rfl; apply Known.at; apply FsAt.tail; apply FsAt.head; exact op_rd9; apply LW.guardT'; rfl; rfl; (with_reducible assumption); apply LW.v0; rfl; rfl; apply ValP.fieldAddr; rfl; rfl; apply LW.guardT'; rfl; rfl; (with_reducible assumption); apply LW.load; rfl; rfl; apply Known.at; apply FsAt.tail; apply FsAt.head; exact op_rd10; apply LW.guardT'; rfl; rfl; (with_reducible assumption); apply LW.v0; rfl; rfl; apply ValP.fieldAddr; rfl; rfl; apply LW.guardT'; rfl; rfl; (with_reducible assumption); apply LW.load; rfl; rfl; apply Known.at; apply FsAt.tail; apply FsAt.head; exact op_rd11; apply LW.guardT'; rfl; rfl; (with_reducible assumption); apply LW.v0; rfl; rfl; apply ValP.fieldAddr; rfl; rfl; apply LW.guardT'; rfl; rfl; (with_reducible assumption); apply LW.load; rfl; rfl; apply Known.at; apply FsAt.tail; apply FsAt.head; exact op_rd13; apply LW.guardT'; rfl; rfl; (with_reducible assumption); apply LW.v0; rfl; rfl; apply ValP.fieldAddr; rfl; rfl; apply LW.guardT'; rfl; rfl; (with_reducible assumption); apply LW.load; rfl; rfl; apply Known.at; apply FsAt.tail; apply FsAt.head; exact op_rd14; apply LW.guardT'; rfl; rfl; (with_reducible assumption); apply LW.v0; rfl; rfl; apply ValP.buildA; apply PartsOk.cons; rfl; apply PartsOk.cons; rfl; apply PartsOk.cons; rfl; apply PartsOk.cons; rfl; apply PartsOk.cons; rfl; apply PartsOk.cons; rfl; apply PartsOk.cons; rfl; exact PartsOk.nil; rfl; simp only [fillC, wc, wrCells, Value.cells, List.toList_toArray, List.setIfInBounds_toArray, List.set_cons_succ, List.set_cons_zero, Nat.reduceAdd, Nat.reduceMul, Nat.zero_add, Nat.mul_one]; rfl; apply LW.guardT'; rfl; rfl; (with_reducible assumption); apply LW.v0; rfl; rfl; apply ValP.fieldAddr; rfl; rfl; apply LW.guardT'; rfl; rfl; (with_reducible assumption); apply LW.load; rfl; rfl; apply Known.at; apply FsAt.head; exact op_rd7; apply LW.guardT'; rfl; rfl; (with_reducible assumption); apply LW.v0; rfl; rfl; apply ValP.fieldAddr; rfl; rfl; apply LW.guardT'; rfl; rfl; (with_reducible assumption); apply LW.load; rfl; rfl; apply Known.at; apply FsAt.head; exact op_rd8; apply LW.guardT'; rfl; rfl; (with_reducible assumption); apply LW.v0; rfl; rfl; apply ValP.fieldAddr; rfl; rfl; apply LW.guardT'; rfl; rfl; (with_reducible assumption); apply LW.load; rfl; rfl; apply Known.at; apply FsAt.head; exact op_rd9; apply LW.guardT'; rfl; rfl; (with_reducible assumption); apply LW.v0; rfl; rfl; apply ValP.fieldAddr; rfl; rfl; apply LW.guardT'; rfl; rfl; (with_reducible assumption); apply LW.load; rfl; rfl; apply Known.at; apply FsAt.head; exact op_rd10; apply LW.guardT'; rfl; rfl; (with_reducible assumption); apply LW.v0; rfl; rfl; apply ValP.fieldAddr; rfl; rfl; apply LW.guardT'; rfl; rfl; (with_reducible assumption); apply LW.load; rfl; rfl; apply Known.at; apply FsAt.head; exact op_rd11; apply LW.guardT'; rfl; rfl; (with_reducible assumption); apply LW.v0; rfl; rfl; apply ValP.fieldAddr; rfl; rfl; apply LW.guardT'; rfl; rfl; (with_reducible assumption); apply LW.load; rfl; rfl; apply Known.at; apply FsAt.head; exact op_rd13; apply LW.guardT'; rfl; rfl; (with_reducible assumption); apply LW.v0; rfl; rfl; apply ValP.fieldAddr; rfl; rfl; apply LW.guardT'; rfl; rfl; (with_reducible assumption); apply LW.load; rfl; rfl; apply Known.at; apply FsAt.head; exact op_rd14; apply LW.guardT'; rfl; rfl; (with_reducible assumption); apply LW.v0; rfl; rfl; apply ValP.buildA; apply PartsOk.cons; rfl; apply PartsOk.cons; rfl; apply PartsOk.cons; rfl; apply PartsOk.cons; rfl; apply PartsOk.cons; rfl; apply PartsOk.cons; rfl; apply PartsOk.cons; rfl; exact PartsOk.nil; rfl; simp only [fillC, wc, wrCells, Value.cells, List.toList_toArray, List.setIfInBounds_toArray, List.set_cons_succ, List.set_cons_zero, Nat.reduceAdd, Nat.reduceMul, Nat.zero_add, Nat.mul_one]; rfl; apply LW.guardT'; rfl; rfl; (with_reducible assumption); apply LW.v0; rfl; rfl; apply ValP.eqlA (n := 7); rfl; rfl; rfl; rfl; rfl; rfl; apply LW.v0; rfl; rfl; apply ValP.pickT'; rfl; (with_reducible assumption); rfl; apply LW.v0; rfl; rfl; apply ValP.assign; rfl; apply LW.nil; refine cutI rfl ⟨getB rfl ?_, rfl, rfl, trivial⟩ ?_; rw [l7]; exact decide_eq_decide.2 (by omega); exact List.Sublist.refl _; apply LW.guardF'; rfl; rfl; simp only [Bool.not_true, Bool.not_false]; (with_reducible assumption); rfl; apply LW.guardF'; rfl; rfl; simp only [Bool.not_true, Bool.not_false]; (with_reducible assumption); rfl; apply LW.guardF'; rfl; rfl; simp only [Bool.not_true, Bool.not_false]; (with_reducible assumption); rfl; apply LW.guardF'; rfl; rfl; simp only [Bool.not_true, Bool.not_false]; (with_reducible assumption); rfl; apply LW.guardF'; rfl; rfl; simp only [Bool.not_true, Bool.not_false]; (with_reducible assumption); rfl; apply LW.guardF'; rfl; rfl; simp only [Bool.not_true, Bool.not_false]; (with_reducible assumption); rfl; apply LW.guardF'; rfl; rfl; simp only [Bool.not_true, Bool.not_false]; (with_reducible assumption); rfl; apply LW.guardF'; rfl; rfl; simp only [Bool.not_true, Bool.not_false]; (with_reducible assumption); rfl; apply LW.guardF'; rfl; rfl; simp only [Bool.not_true, Bool.not_false]; (with_reducible assumption); rfl; apply LW.guardF'; rfl; rfl; simp only [Bool.not_true, Bool.not_false]; (with_reducible assumption); rfl; apply LW.guardF'; rfl; rfl; simp only [Bool.not_true, Bool.not_false]; (with_reducible assumption); rfl; apply LW.guardF'; rfl; rfl; simp only [Bool.not_true, Bool.not_false]; (with_reducible assumption); rfl; apply LW.guardF'; rfl; rfl; simp only [Bool.not_true, Bool.not_false]; (with_reducible assumption); rfl; apply LW.guardF'; rfl; rfl; simp only [Bool.not_true, Bool.not_false]; (with_reducible assumption); rfl; apply LW.guardF'; rfl; rfl; simp only [Bool.not_true, Bool.not_false]; (with_reducible assumption); rfl; apply LW.guardF'; rfl; rfl; simp only [Bool.not_true, Bool.not_false]; (with_reducible assumption); rfl; apply LW.guardF'; rfl; rfl; simp only [Bool.not_true, Bool.not_false]; (with_reducible assumption); rfl; apply LW.guardF'; rfl; rfl; simp only [Bool.not_true, Bool.not_false]; (with_reducible assumption); rfl; apply LW.guardF'; rfl; rfl; simp only [Bool.not_true, Bool.not_false]; (with_reducible assumption); rfl; apply LW.guardF'; rfl; rfl; simp only [Bool.not_true, Bool.not_false]; (with_reducible assumption); rfl; apply LW.guardF'; rfl; rfl; simp only [Bool.not_true, Bool.not_false]; (with_reducible assumption); rfl; apply LW.guardF'; rfl; rfl; simp only [Bool.not_true, Bool.not_false]; (with_reducible assumption); rfl; apply LW.guardF'; rfl; rfl; simp only [Bool.not_true, Bool.not_false]; (with_reducible assumption); rfl; apply LW.guardF'; rfl; rfl; simp only [Bool.not_true, Bool.not_false]; (with_reducible assumption); rfl; apply LW.guardF'; rfl; rfl; simp only [Bool.not_true, Bool.not_false]; (with_reducible assumption); rfl; apply LW.guardF'; rfl; rfl; simp only [Bool.not_true, Bool.not_false]; (with_reducible assumption); rfl; apply LW.guardF'; rfl; rfl; simp only [Bool.not_true, Bool.not_false]; (with_reducible assumption); rfl; apply LW.guardF'; rfl; rfl; simp only [Bool.not_true, Bool.not_false]; (with_reducible assumption); rfl; apply LW.guardF'; rfl; rfl; simp only [Bool.not_true, Bool.not_false]; (with_reducible assumption); rfl; apply LW.guardF'; rfl; rfl; simp only [Bool.not_true, Bool.not_false]; (with_reducible assumption); rfl; apply LW.v0; rfl; rfl; apply ValP.pickF'; rfl; (with_reducible assumption); rfl; apply LW.v0; rfl; rfl; apply ValP.assign; rfl; apply LW.nil; refine cutI rfl ⟨getB rfl ?_, rfl, rfl, trivial⟩ ?_; exact (decide_eq_false (by omega)).symm; exact List.Sublist.refl _)
  · (refine LW.guardDT rfl rfl rfl (fun hsq hsp => ?_) (fun hsq hsp => ?_); apply LW.v0; rfl; rfl; apply ValP.fieldAddr; rfl; rfl; apply LW.guardT'; rfl; rfl; (with_reducible assumption); apply LW.load; rfl; rfl; apply Known.at; apply FsAt.tail; apply FsAt.head; exact op_rd1; apply LW.guardT'; rfl; rfl; (with_reducible assumption); apply LW.v0; rfl; rfl; apply ValP.fieldAddr; rfl; rfl; apply LW.guardT'; rfl; rfl; (with_reducible assumption); apply LW.load; rfl; rfl; apply Known.at; apply FsAt.head; exact op_rd1; apply LW.guardT'; rfl; rfl; (with_reducible assumption); apply LW.v0; rfl; rfl; apply ValP.eqW; rfl; rfl; assumption; assumption; apply LW.v0; rfl; rfl; apply ValP.pickT'; rfl; (with_reducible assumption); rfl; apply LW.v0; rfl; rfl; apply ValP.move; rfl; refine LW.guardDT rfl rfl rfl (fun hsq hsp => ?_) (fun hsq hsp => ?_); apply LW.v0; rfl; rfl; apply ValP.fieldAddr; rfl; rfl; apply LW.guardT'; rfl; rfl; (with_reducible assumption); apply LW.load; rfl; rfl; apply Known.at; apply FsAt.tail; apply FsAt.head; exact op_rd12; apply LW.guardT'; rfl; rfl; (with_reducible assumption); apply LW.v0; rfl; rfl; apply ValP.fieldAddr; rfl; rfl; apply LW.guardT'; rfl; rfl; (with_reducible assumption); apply LW.load; rfl; rfl; apply Known.at; apply FsAt.head; exact op_rd12; apply LW.guardT'; rfl; rfl; (with_reducible assumption); apply LW.v0; rfl; rfl; apply ValP.eq; rfl; rfl; apply LW.v0; rfl; rfl; apply ValP.pickT'; rfl; (with_reducible assumption); rfl; apply LW.v0; rfl; rfl; apply ValP.assign; rfl; apply LW.nil; refine cutI rfl ⟨getB rfl ?_, rfl, rfl, trivial⟩ ?_; exact decide_eq_decide.2 (by omega); exact List.Sublist.refl _; apply LW.guardF'; rfl; rfl; simp only [Bool.not_true, Bool.not_false]; (with_reducible assumption); rfl; apply LW.guardF'; rfl; rfl; simp only [Bool.not_true, Bool.not_false]; (with_reducible assumption); rfl; apply LW.guardF'; rfl; rfl; simp only [Bool.not_true, Bool.not_false]; (with_reducible assumption); rfl; apply LW.guardF'; rfl; rfl; simp only [Bool.not_true, Bool.not_false]; (with_reducible assumption); rfl; apply LW.v0; rfl; rfl; apply ValP.pickF'; rfl; (with_reducible assumption); rfl; apply LW.v0; rfl; rfl; apply ValP.assign; rfl; apply LW.nil; refine cutI rfl ⟨getB rfl ?_, rfl, rfl, trivial⟩ ?_; exact (decide_eq_false (by omega)).symm; exact List.Sublist.refl _; apply LW.guardF'; rfl; rfl; simp only [Bool.not_true, Bool.not_false]; (with_reducible assumption); rfl; apply LW.guardF'; rfl; rfl; simp only [Bool.not_true, Bool.not_false]; (with_reducible assumption); rfl; apply LW.guardF'; rfl; rfl; simp only [Bool.not_true, Bool.not_false]; (with_reducible assumption); rfl; apply LW.guardF'; rfl; rfl; simp only [Bool.not_true, Bool.not_false]; (with_reducible assumption); rfl; apply LW.v0; rfl; rfl; apply ValP.pickF'; rfl; (with_reducible assumption); rfl; apply LW.v0; rfl; rfl; apply ValP.move; rfl; apply LW.guardF'; rfl; rfl; simp only [Bool.not_true, Bool.not_false]; rfl; apply LW.guardF'; rfl; rfl; simp only [Bool.not_true, Bool.not_false]; rfl; apply LW.guardF'; rfl; rfl; simp only [Bool.not_true, Bool.not_false]; rfl; apply LW.guardF'; rfl; rfl; simp only [Bool.not_true, Bool.not_false]; rfl; apply LW.guardF'; rfl; rfl; simp only [Bool.not_true, Bool.not_false]; rfl; apply LW.v0; rfl; rfl; apply ValP.pickF'; rfl; (with_reducible rfl); rfl; apply LW.v0; rfl; rfl; apply ValP.assign; rfl; apply LW.nil; refine cutI rfl ⟨getB rfl ?_, rfl, rfl, trivial⟩ ?_; exact (decide_eq_false (by omega)).symm; exact List.Sublist.refl _)
end Go.Proofs.YtobkhnmglbfheaaDoor

/-
  Operations of accounts: which are one, by the document; operations with bytes of their own.
  Conditions: none.
-/
namespace Go.Proofs.YtobkhnmglbfheaaDoor
open Go Go.RowKit SL
set_option maxRecDepth 8000
set_option maxHeartbeats 4000000
set_option linter.unusedSimpArgs false
set_option linter.unusedVariables false
attribute [local irreducible] SL.CW SL.LW SL.DW Calls SL.Ret SL.RetG SL.beginQ SL.roundQ SL.rangeQ SL.inQ SL.RW SL.AnyW SL.thenQ SL.thenC SL.thenW SL.blkQ SL.finQ SL.ValP SL.NewP SL.SetP SL.CallP SL.Rd SL.Wr SL.Known
theorem rSB_calls (a b : List UInt8) (va vb : Value) (w : World) (ha0 : RowAt w 1 va a.length (ucs a)) (hb0 : RowAt w 1 vb b.length (ucs b)) : Calls Tryd.prog 23 #[va, vb] w (Ret w (.bool (decide (a = b)))) := by
  have hC : ∀ w' {fs}, St w [] fs w' → Calls Tryd.prog 37 #[va, vb] w' (Ret w' (.bool (decide (a = b)))) := fun w' fs hst => rSameB_calls a b va vb w' (ha0.st hst) (hb0.st hst)
  refine enter (args := [_, _]) _ [] [] Tryd.func23 rfl Tryd.ntmps23 rfl (by simp) .nil ?_
  (refine CW.seq ?_; refine CW.region ?_; apply LW.v0; rfl; rfl; apply ValP.assign; rfl; apply LW.nil; refine thenN ?_; refine CW.seq ?_; refine CW.region ?_; apply LW.v0; rfl; rfl; apply ValP.move; rfl; apply LW.v0; rfl; rfl; apply ValP.move; rfl; apply LW.callE; rfl; rfl; infer_instance; apply ArgsOk.cons; rfl; apply ArgsOk.cons; rfl; exact ArgsOk.nil; intro w _; exact hC w (by assumption); apply LW.v0; rfl; rfl; apply ValP.assign; rfl; apply LW.nil; refine thenN ?_; refine CW.ret ?_)
  (apply finR; exact .inl rfl; rfl; rfl; rfl; apply ResL.cons; exact Res.tmp rfl; exact ResL.nil)
  rfl
/-- Four rows of bytes of one, and of another. -/
abbrev Q4 := Value × List UInt8 × Value × List UInt8
def q4 (u v : OpV) : List Q4 := [(u.iv, u.ib, v.iv, v.ib), (u.cv, u.cb, v.cv, v.cb), (u.dv, u.db, v.dv, v.db), (u.gv, u.gb, v.gv, v.gb)]
theorem sameU_iff (u v : OpV) : sameU u v = true ↔ ((u.sd = v.sd ∧ u.no = v.no ∧ u.py = v.py) ∧ (u.vg = v.vg ∧ u.cg = v.cg ∧ u.pg = v.pg ∧ u.mf = v.mf ∧ u.mp = v.mp ∧ u.pv = v.pv ∧ u.pp = v.pp)) ∧ u.ib = v.ib ∧ u.cb = v.cb ∧ u.db = v.db ∧ u.gb = v.gb := by
  simp [sameU, and_assoc]
theorem rUSame_calls (u v : OpV) (w : World) (hu : OpAt w u) (hv : OpAt w v) : Calls Tryd.prog 10 #[.agg (opa u), .agg (opa v)] w (Ret w (.bool (sameU u v))) := by
  obtain ⟨p5, c5, h5, _, _⟩ := hu.i.form
  obtain ⟨p6, c6, h6, _, _⟩ := hu.c.form
  obtain ⟨p15, c15, h15, _, _⟩ := hu.d.form
  obtain ⟨p16, c16, h16, _, _⟩ := hu.g.form
  obtain ⟨k5, d5, g5, _, _⟩ := hv.i.form
  obtain ⟨k6, d6, g6, _, _⟩ := hv.c.form
  obtain ⟨k15, d15, g15, _, _⟩ := hv.d.form
  obtain ⟨k16, d16, g16, _, _⟩ := hv.g.form
  have hr5 : ∀ {E fr}, Rd Tryd.prog 28 (.cells (opa u) E fr) 5 (.slice p5 u.ib.length c5) := fun {E fr} => by rw [← h5]; exact op_rd5
  have hr6 : ∀ {E fr}, Rd Tryd.prog 28 (.cells (opa u) E fr) 6 (.slice p6 u.cb.length c6) := fun {E fr} => by rw [← h6]; exact op_rd6
  have hr15 : ∀ {E fr}, Rd Tryd.prog 28 (.cells (opa u) E fr) 15 (.slice p15 u.db.length c15) := fun {E fr} => by rw [← h15]; exact op_rd15
  have hr16 : ∀ {E fr}, Rd Tryd.prog 28 (.cells (opa u) E fr) 16 (.slice p16 u.gb.length c16) := fun {E fr} => by rw [← h16]; exact op_rd16
  have hs5 : ∀ {E fr}, Rd Tryd.prog 28 (.cells (opa v) E fr) 5 (.slice k5 v.ib.length d5) := fun {E fr} => by rw [← g5]; exact op_rd5
  have hs6 : ∀ {E fr}, Rd Tryd.prog 28 (.cells (opa v) E fr) 6 (.slice k6 v.cb.length d6) := fun {E fr} => by rw [← g6]; exact op_rd6
  have hs15 : ∀ {E fr}, Rd Tryd.prog 28 (.cells (opa v) E fr) 15 (.slice k15 v.db.length d15) := fun {E fr} => by rw [← g15]; exact op_rd15
  have hs16 : ∀ {E fr}, Rd Tryd.prog 28 (.cells (opa v) E fr) 16 (.slice k16 v.gb.length d16) := fun {E fr} => by rw [← g16]; exact op_rd16
  have hno1 := hu.num.no
  have hno2 := hv.num.no
  obtain ⟨B, hB⟩ : ∃ B, sameU u v = B := ⟨_, rfl⟩
  have hiff := sameU_iff u v
  rw [hB] at hiff ⊢
  have hn : ∀ {X : Prop}, (((u.sd = v.sd ∧ u.no = v.no ∧ u.py = v.py) ∧ (u.vg = v.vg ∧ u.cg = v.cg ∧ u.pg = v.pg ∧ u.mf = v.mf ∧ u.mp = v.mp ∧ u.pv = v.pv ∧ u.pp = v.pp)) → X) → ¬ X → B = false := fun {X} h k => by
    cases hb : B with
    | false => rfl
    | true => exact absurd (h (hiff.1 hb).1) k
  refine enter (args := [_, _]) _ [] [] Tryd.func10 rfl Tryd.ntmps10 rfl (by simp) .nil ?_
  (refine CW.seq ?_; refine CW.region ?_; apply LW.boxA; rfl; rfl; intro _; apply LW.boxA; rfl; rfl; intro _; apply LW.v0; rfl; rfl; apply ValP.assign; rfl; apply LW.nil; refine thenN ?_; refine CW.seq ?_; refine CW.seq ?_; refine CW.region ?_; apply LW.v0; rfl; rfl; apply ValP.fieldAddr; rfl; rfl; apply LW.load; rfl; rfl; apply Known.at; apply FsAt.tail; apply FsAt.head; exact op_rd0; apply LW.v0; rfl; rfl; apply ValP.fieldAddr; rfl; rfl; apply LW.load; rfl; rfl; apply Known.at; apply FsAt.head; exact op_rd0; apply LW.v0; rfl; rfl; apply ValP.ne; rfl; rfl; apply LW.v0; rfl; rfl; apply ValP.move; rfl)
  rename_i b2 b3
  refine LW.cut [(54, .bool (decide (¬ (u.sd = v.sd ∧ u.no = v.no ∧ u.vg = v.vg ∧ u.cg = v.cg ∧ u.pg = v.pg ∧ u.mf = v.mf ∧ u.mp = v.mp)))), (2, .pointer (some ⟨b2, 0, none⟩)), (3, .pointer (some ⟨b3, 0, none⟩))] [(b3, .cells (opa v) 30 (0, 0)), (b2, .cells (opa u) 30 (0, 0))] ?_ ?_
  · refine CW.condD rfl (fun hsq hsp => ?_) (fun hsq hsp => ?_)
    · rw [hn (X := u.sd = v.sd ∧ u.no = v.no ∧ u.vg = v.vg ∧ u.cg = v.cg ∧ u.pg = v.pg ∧ u.mf = v.mf ∧ u.mp = v.mp) (by omega) hsq]
      (refine CW.seq ?_; refine CW.region ?_; apply LW.v0; rfl; rfl; apply ValP.assign; rfl; apply LW.nil; refine thenN ?_; refine CW.ret ?_; refine thenR ?_)
      (apply finR; exact .inl rfl; rfl; rfl; rfl; apply ResL.cons; exact Res.tmp rfl; exact ResL.nil)
      rfl
    (refine CW.skip ?_; refine thenN ?_; refine CW.seq ?_; refine CW.seq ?_; refine CW.region ?_; apply LW.v0; rfl; rfl; apply ValP.fieldAddr; rfl; rfl; apply LW.load; rfl; rfl; apply Known.at; apply FsAt.tail; apply FsAt.head; exact op_rd12; apply LW.v0; rfl; rfl; apply ValP.fieldAddr; rfl; rfl; apply LW.load; rfl; rfl; apply Known.at; apply FsAt.head; exact op_rd12; apply LW.v0; rfl; rfl; apply ValP.ne; rfl; rfl; apply LW.v0; rfl; rfl; apply ValP.move; rfl)
    refine LW.cut [(73, .bool (decide (¬ (u.py = v.py ∧ u.pv = v.pv ∧ u.pp = v.pp)))), (2, .pointer (some ⟨b2, 0, none⟩)), (3, .pointer (some ⟨b3, 0, none⟩))] [(b3, .cells (opa v) 30 (0, 0)), (b2, .cells (opa u) 30 (0, 0))] ?_ ?_
    · refine CW.condD rfl (fun hsq2 hsp2 => ?_) (fun hsq2 hsp2 => ?_)
      · rw [hn (X := u.py = v.py ∧ u.pv = v.pv ∧ u.pp = v.pp) (by omega) hsq2]
        (refine CW.seq ?_; refine CW.region ?_; apply LW.v0; rfl; rfl; apply ValP.assign; rfl; apply LW.nil; refine thenN ?_; refine CW.ret ?_; refine thenR ?_)
        (apply finR; exact .inl rfl; rfl; rfl; rfl; apply ResL.cons; exact Res.tmp rfl; exact ResL.nil)
        rfl
      have hflat : (u.sd = v.sd ∧ u.no = v.no ∧ u.py = v.py) ∧ (u.vg = v.vg ∧ u.cg = v.cg ∧ u.pg = v.pg ∧ u.mf = v.mf ∧ u.mp = v.mp ∧ u.pv = v.pv ∧ u.pp = v.pp) := by omega
      (refine CW.skip ?_; refine thenN ?_; refine CW.seq ?_)
      apply CW.pre
      (refine AnyW.anyM [] 19 mixed (by decide +kernel) ?_)
      ((try simp only [tsOf_cons, tsOf_nil, tsOf_app]); apply DW.v0; rfl; rfl; rfl; exact WantT.none; rfl; apply ValP.fieldAddr; rfl; rfl; apply DW.loadO; rfl; rfl; rfl; exact WantT.none; rfl; apply TRead.tail; apply TRead.head; exact ancB_nil; exact hr5; apply DW.v0; rfl; rfl; rfl; exact WantT.none; rfl; apply ValP.fieldAddr; rfl; rfl; apply DW.loadO; rfl; rfl; rfl; exact WantT.none; rfl; apply TRead.tail; apply TRead.head; exact ancB_nil; exact hr6; apply DW.v0; rfl; rfl; rfl; exact WantT.none; rfl; apply ValP.fieldAddr; rfl; rfl; apply DW.loadO; rfl; rfl; rfl; exact WantT.none; rfl; apply TRead.tail; apply TRead.head; exact ancB_nil; exact hr15; apply DW.v0; rfl; rfl; rfl; exact WantT.none; rfl; apply ValP.fieldAddr; rfl; rfl; apply DW.loadO; rfl; rfl; rfl; exact WantT.none; rfl; apply TRead.tail; apply TRead.head; exact ancB_nil; exact hr16)
      refine DW.new rfl rfl rfl (by (exact WantT.none)) rfl (NewP.buildSN (vs := [(0, .slice p5 u.ib.length c5), (1, .slice p6 u.cb.length c6), (2, .slice p15 u.db.length c15), (3, .slice p16 u.gb.length c16)]) (c := #[.slice p5 u.ib.length c5, .slice p6 u.cb.length c6, .slice p15 u.db.length c15, .slice p16 u.gb.length c16]) inferInstance inferInstance (by (apply PartsOk.cons; rfl; apply PartsOk.cons; rfl; apply PartsOk.cons; rfl; apply PartsOk.cons; rfl; exact PartsOk.nil)) rfl rfl (by kernel_rfl) (by kernel_rfl)) fun g => ?_
      ((try simp only [tsOf_cons, tsOf_nil, tsOf_app]); apply DW.v0; rfl; rfl; rfl; exact WantT.none; rfl; apply ValP.fieldAddr; rfl; rfl; apply DW.loadO; rfl; rfl; rfl; exact WantT.none; rfl; apply TRead.tail; apply TRead.head; exact ancB_nil; exact hs5; apply DW.v0; rfl; rfl; rfl; exact WantT.none; rfl; apply ValP.fieldAddr; rfl; rfl; apply DW.loadO; rfl; rfl; rfl; exact WantT.none; rfl; apply TRead.tail; apply TRead.head; exact ancB_nil; exact hs6; apply DW.v0; rfl; rfl; rfl; exact WantT.none; rfl; apply ValP.fieldAddr; rfl; rfl; apply DW.loadO; rfl; rfl; rfl; exact WantT.none; rfl; apply TRead.tail; apply TRead.head; exact ancB_nil; exact hs15; apply DW.v0; rfl; rfl; rfl; exact WantT.none; rfl; apply ValP.fieldAddr; rfl; rfl; apply DW.loadO; rfl; rfl; rfl; exact WantT.none; rfl; apply TRead.tail; apply TRead.head; exact ancB_nil; exact hs16)
      refine DW.new rfl rfl rfl (by (exact WantT.none)) rfl (NewP.buildSN (vs := [(0, .slice k5 v.ib.length d5), (1, .slice k6 v.cb.length d6), (2, .slice k15 v.db.length d15), (3, .slice k16 v.gb.length d16)]) (c := #[.slice k5 v.ib.length d5, .slice k6 v.cb.length d6, .slice k15 v.db.length d15, .slice k16 v.gb.length d16]) inferInstance inferInstance (by (apply PartsOk.cons; rfl; apply PartsOk.cons; rfl; apply PartsOk.cons; rfl; apply PartsOk.cons; rfl; exact PartsOk.nil)) rfl rfl (by kernel_rfl) (by kernel_rfl)) fun g2 => ?_
      dsimp only [Sh.val]
      ((try simp only [tsOf_cons, tsOf_nil, tsOf_app]); apply DW.v0; rfl; rfl; rfl; exact WantT.none; rfl; apply ValP.assign; rfl; apply DW.nil; simp only [fsOf_cons, fsOf_nil, fsOf_app, fsOf_tsOf, fsOf_new, fsOf_tag])
      (apply LW.v0; rfl; rfl; apply ValP.assign; rfl; apply LW.nil; refine thenN ?_; refine CW.seq ?_; refine CW.seq ?_; refine CW.region ?_; apply LW.v0; rfl; rfl; apply ValP.move; rfl; apply LW.v0; rfl; rfl; apply ValP.lenR; rfl; infer_instance; rfl; apply LW.v0; rfl; rfl; apply ValP.move; rfl; apply LW.nil; refine thenN ?_; refine CW.block ?_)
      obtain ⟨L, hL⟩ : ∃ L, L = q4 u v := ⟨_, rfl⟩
      have hLl : L.length = 4 := by rw [hL]; rfl
      have hc1 : (#[.slice p5 u.ib.length c5, .slice p6 u.cb.length c6, .slice p15 u.db.length c15, .slice p16 u.gb.length c16] : Array Value) = (L.flatMap fun x => [x.1]).toArray := by rw [hL, ← h5, ← h6, ← h15, ← h16]; rfl
      have hc2 : (#[.slice k5 v.ib.length d5, .slice k6 v.cb.length d6, .slice k15 v.db.length d15, .slice k16 v.gb.length d16] : Array Value) = (L.flatMap fun x => [x.2.2.1]).toArray := by rw [hL, ← g5, ← g6, ← g15, ← g16]; rfl
      have hrow : ∀ x ∈ L, RowAt w 1 x.1 x.2.1.length (ucs x.2.1) ∧ RowAt w 1 x.2.2.1 x.2.2.2.length (ucs x.2.2.2) := by
        rw [hL]
        intro x hx
        simp only [q4, List.mem_cons, List.not_mem_nil, or_false] at hx
        rcases hx with rfl | rfl | rfl | rfl
        · exact ⟨hu.i, hv.i⟩
        · exact ⟨hu.c, hv.c⟩
        · exact ⟨hu.d, hv.d⟩
        · exact ⟨hu.g, hv.g⟩
      rw [hc1, hc2]
      refine CW.loop (fun m : Nat => ([(94, .int .i64 (m : Int)), (93, .int .i64 4), (6, .slice (some ⟨g2, 0, none⟩) 4 4), (5, .slice (some ⟨g, 0, none⟩) 4 4)], [(g2, .cells (L.flatMap fun x => [x.2.2.1]).toArray 28 (0, 0)), (g, .cells (L.flatMap fun x => [x.1]).toArray 28 (0, 0))]))
        (fun m => m ≤ 4 ∧ ∀ j (_ : j < m) (h : j < L.length), L[j].2.1 = L[j].2.2.2) (fun m => 4 - m) 0 ⟨Nat.zero_le _, fun j h => by omega⟩ ⟨rfl, rfl, rfl, rfl, trivial⟩ (by (apply List.Sublist.cons_cons; apply List.Sublist.cons_cons; apply List.Sublist.cons; apply List.Sublist.cons; exact List.Sublist.refl _)) ?_
      rintro m ⟨hm, hall⟩
      dsimp only at hm hall ⊢
      rcases Nat.lt_or_ge m 4 with hlt | hge
      · have hml : m < L.length := by omega
        have hrd1 : Rd Tryd.prog 28 (.cells (L.flatMap fun x => [x.1]).toArray 28 (0, 0)) (0 + m * 1) L[m].1 := Rd.elem1 (g := fun x : Q4 => [x.1]) (l := L) (m := (L.flatMap fun x => [x.1]).length) (by rw [List.drop_zero, List.toList_toArray, List.take_length]) (fun _ _ => rfl) (List.getElem?_eq_getElem hml) rfl
        have hrd2 : Rd Tryd.prog 28 (.cells (L.flatMap fun x => [x.2.2.1]).toArray 28 (0, 0)) (0 + m * 1) L[m].2.2.1 := Rd.elem1 (g := fun x : Q4 => [x.2.2.1]) (l := L) (m := (L.flatMap fun x => [x.2.2.1]).length) (by rw [List.drop_zero, List.toList_toArray, List.take_length]) (fun _ _ => rfl) (List.getElem?_eq_getElem hml) rfl
        obtain ⟨hx1, hx2⟩ := hrow L[m] (List.getElem_mem hml)
        obtain ⟨x, hx⟩ : ∃ x, L[m] = x := ⟨_, rfl⟩
        rw [hx] at hrd1 hrd2 hx1 hx2
        obtain ⟨va, a, vb, b⟩ := x
        dsimp only at hrd1 hrd2 hx1 hx2
        by_cases hab : a = b
        · have hS : ∀ w' {fs}, St w [] fs w' → Calls Tryd.prog 23 #[va, vb] w' (Ret w' (.bool true)) := fun w' fs hb => by
            have := rSB_calls a b va vb w' (hx1.st hb) (hx2.st hb)
            rwa [decide_eq_true hab] at this
          (refine CW.seq ?_; refine CW.region ?_; apply LW.v0; rfl; rfl; apply ValP.lssT; rfl; rfl; omega; apply LW.nil; refine thenN ?_; refine CW.seq ?_; apply CW.condT; rfl; (with_reducible rfl); refine CW.skip ?_; refine thenN ?_; refine CW.seq ?_; refine CW.block ?_; refine CW.seq ?_; refine CW.region ?_; apply LW.v0; rfl; rfl; apply ValP.move; rfl; apply LW.v0; rfl; rfl; apply ValP.assign; rfl; apply LW.nil; refine thenN ?_; refine CW.seq ?_)
          apply CW.pre
          (refine AnyW.anyM [] 8 mixed (by decide +kernel) ?_)
          ((try simp only [tsOf_cons, tsOf_nil, tsOf_app]); apply DW.v0; rfl; rfl; rfl; exact WantT.none; rfl; apply ValP.move; rfl; apply DW.v0; rfl; rfl; rfl; exact WantT.none; rfl; apply ValP.move; rfl; apply DW.v0; rfl; rfl; rfl; exact WantT.none; rfl; apply ValP.indexAddrS; rfl; rfl; rfl; omega; apply DW.loadO; rfl; rfl; rfl; exact WantT.none; rfl; apply TRead.tail; apply TRead.head; exact ancB_nil; assumption; apply DW.v0; rfl; rfl; rfl; exact WantT.none; rfl; apply ValP.move; rfl; apply DW.v0; rfl; rfl; rfl; exact WantT.none; rfl; apply ValP.move; rfl; apply DW.v0; rfl; rfl; rfl; exact WantT.none; rfl; apply ValP.indexAddrS; rfl; rfl; rfl; omega; apply DW.loadO; rfl; rfl; rfl; exact WantT.none; rfl; apply TRead.head; exact ancB_nil; assumption; apply DW.nil; simp only [fsOf_cons, fsOf_nil, fsOf_app, fsOf_tsOf, fsOf_new, fsOf_tag])
          (apply LW.callE; rfl; rfl; infer_instance; apply ArgsOk.cons; rfl; apply ArgsOk.cons; rfl; exact ArgsOk.nil; intro w _; exact hS w (by assumption); apply LW.v0; rfl; rfl; apply ValP.notT; rfl; (with_reducible rfl); apply LW.nil; refine thenN ?_; apply CW.condF; rfl; (with_reducible rfl); refine CW.skip ?_; refine blkN ?_; refine thenN ?_; refine CW.region ?_; apply LW.v0; rfl; rfl; apply ValP.addZL; rfl; rfl; decide; omega; apply LW.v0; rfl; rfl; apply ValP.move; rfl; apply LW.nil)
          apply thenX
          refine ⟨rfl, m + 1, ⟨hlt, fun j hj hjl => ?_⟩, by omega, ⟨rfl, rfl, rfl, rfl, trivial⟩, by (exact List.Sublist.refl _)⟩
          rcases Nat.lt_or_ge j m with hjm | hjm
          · exact hall j hjm hjl
          · obtain rfl : j = m := by omega
            rw [hx]; exact hab
        · have hS : ∀ w' {fs}, St w [] fs w' → Calls Tryd.prog 23 #[va, vb] w' (Ret w' (.bool false)) := fun w' fs hb => by
            have := rSB_calls a b va vb w' (hx1.st hb) (hx2.st hb)
            rwa [decide_eq_false hab] at this
          have hno : B = false := by
            cases hb : B with
            | false => rfl
            | true =>
              obtain ⟨-, e1, e2, e3, e4⟩ := hiff.1 hb
              have hm' : L[m] ∈ L := List.getElem_mem hml
              rw [hx, hL] at hm'
              simp only [q4, List.mem_cons, List.not_mem_nil, or_false, Prod.mk.injEq] at hm'
              rcases hm' with ⟨-, rfl, -, rfl⟩ | ⟨-, rfl, -, rfl⟩ | ⟨-, rfl, -, rfl⟩ | ⟨-, rfl, -, rfl⟩
              · exact absurd e1 hab
              · exact absurd e2 hab
              · exact absurd e3 hab
              · exact absurd e4 hab
          rw [hno]
          (refine CW.seq ?_; refine CW.region ?_; apply LW.v0; rfl; rfl; apply ValP.lssT; rfl; rfl; omega; apply LW.nil; refine thenN ?_; refine CW.seq ?_; apply CW.condT; rfl; (with_reducible rfl); refine CW.skip ?_; refine thenN ?_; refine CW.seq ?_; refine CW.block ?_; refine CW.seq ?_; refine CW.region ?_; apply LW.v0; rfl; rfl; apply ValP.move; rfl; apply LW.v0; rfl; rfl; apply ValP.assign; rfl; apply LW.nil; refine thenN ?_; refine CW.seq ?_)
          apply CW.pre
          (refine AnyW.anyM [] 8 mixed (by decide +kernel) ?_)
          ((try simp only [tsOf_cons, tsOf_nil, tsOf_app]); apply DW.v0; rfl; rfl; rfl; exact WantT.none; rfl; apply ValP.move; rfl; apply DW.v0; rfl; rfl; rfl; exact WantT.none; rfl; apply ValP.move; rfl; apply DW.v0; rfl; rfl; rfl; exact WantT.none; rfl; apply ValP.indexAddrS; rfl; rfl; rfl; omega; apply DW.loadO; rfl; rfl; rfl; exact WantT.none; rfl; apply TRead.tail; apply TRead.head; exact ancB_nil; assumption; apply DW.v0; rfl; rfl; rfl; exact WantT.none; rfl; apply ValP.move; rfl; apply DW.v0; rfl; rfl; rfl; exact WantT.none; rfl; apply ValP.move; rfl; apply DW.v0; rfl; rfl; rfl; exact WantT.none; rfl; apply ValP.indexAddrS; rfl; rfl; rfl; omega; apply DW.loadO; rfl; rfl; rfl; exact WantT.none; rfl; apply TRead.head; exact ancB_nil; assumption; apply DW.nil; simp only [fsOf_cons, fsOf_nil, fsOf_app, fsOf_tsOf, fsOf_new, fsOf_tag])
          (apply LW.callE; rfl; rfl; infer_instance; apply ArgsOk.cons; rfl; apply ArgsOk.cons; rfl; exact ArgsOk.nil; intro w _; exact hS w (by assumption); apply LW.v0; rfl; rfl; apply ValP.notF; rfl; (with_reducible rfl); apply LW.nil; refine thenN ?_; apply CW.condT; rfl; (with_reducible rfl); refine CW.seq ?_; refine CW.region ?_; apply LW.v0; rfl; rfl; apply ValP.assign; rfl; apply LW.nil; refine thenN ?_; refine CW.ret ?_; refine blkR ?_; refine thenR ?_; refine thenR ?_; refine blkR ?_; refine thenR ?_)
          (apply finR; exact .inl rfl; rfl; rfl; rfl; apply ResL.cons; exact Res.tmp rfl; exact ResL.nil)
          rfl
      · obtain rfl : m = 4 := by omega
        have hyes : B = true := hiff.2 ⟨hflat, by subst hL; exact hall 0 (by decide) (by simp [q4]), by subst hL; exact hall 1 (by decide) (by simp [q4]), by subst hL; exact hall 2 (by decide) (by simp [q4]), by subst hL; exact hall 3 (by decide) (by simp [q4])⟩
        rw [hyes]
        (refine CW.seq ?_; refine CW.region ?_; apply LW.v0; rfl; rfl; apply ValP.lssF; rfl; rfl; omega; apply LW.nil; refine thenN ?_; refine CW.seq ?_; apply CW.condF; rfl; (with_reducible rfl); refine CW.exit ?_; refine thenE ?_; refine thenE ?_; refine blkE rfl ?_; refine thenN ?_; refine CW.seq ?_; refine CW.region ?_; apply LW.v0; rfl; rfl; apply ValP.assign; rfl; apply LW.nil; refine thenN ?_; refine CW.ret ?_)
        (apply finR; exact .inl rfl; rfl; rfl; rfl; apply ResL.cons; exact Res.tmp rfl; exact ResL.nil)
        rfl
    · (refine LW.guardNF rfl rfl rfl (fun hsq hsp => ?_) (fun hsq hsp => ?_); apply LW.v0; rfl; rfl; apply ValP.fieldAddr; rfl; rfl; apply LW.guardT'; rfl; rfl; (with_reducible assumption); apply LW.load; rfl; rfl; apply Known.at; apply FsAt.tail; apply FsAt.head; exact op_rd13; apply LW.guardT'; rfl; rfl; (with_reducible assumption); apply LW.v0; rfl; rfl; apply ValP.fieldAddr; rfl; rfl; apply LW.guardT'; rfl; rfl; (with_reducible assumption); apply LW.load; rfl; rfl; apply Known.at; apply FsAt.head; exact op_rd13; apply LW.guardT'; rfl; rfl; (with_reducible assumption); apply LW.v0; rfl; rfl; apply ValP.ne; rfl; rfl; apply LW.v0; rfl; rfl; apply ValP.pickF'; rfl; (with_reducible assumption); rfl; apply LW.v0; rfl; rfl; apply ValP.move; rfl; refine LW.guardNF rfl rfl rfl (fun hsq hsp => ?_) (fun hsq hsp => ?_); apply LW.v0; rfl; rfl; apply ValP.fieldAddr; rfl; rfl; apply LW.guardT'; rfl; rfl; (with_reducible assumption); apply LW.load; rfl; rfl; apply Known.at; apply FsAt.tail; apply FsAt.head; exact op_rd14; apply LW.guardT'; rfl; rfl; (with_reducible assumption); apply LW.v0; rfl; rfl; apply ValP.fieldAddr; rfl; rfl; apply LW.guardT'; rfl; rfl; (with_reducible assumption); apply LW.load; rfl; rfl; apply Known.at; apply FsAt.head; exact op_rd14; apply LW.guardT'; rfl; rfl; (with_reducible assumption); apply LW.v0; rfl; rfl; apply ValP.ne; rfl; rfl; apply LW.v0; rfl; rfl; apply ValP.pickF'; rfl; (with_reducible assumption); rfl; apply LW.nil; refine cutI rfl ⟨getB rfl ?_, rfl, rfl, trivial⟩ ?_; rw [← decide_not]; exact decide_eq_decide.2 (by omega); exact List.Sublist.refl _; apply LW.guardF'; rfl; rfl; simp only [Bool.not_true, Bool.not_false]; (with_reducible assumption); rfl; apply LW.guardF'; rfl; rfl; simp only [Bool.not_true, Bool.not_false]; (with_reducible assumption); rfl; apply LW.guardF'; rfl; rfl; simp only [Bool.not_true, Bool.not_false]; (with_reducible assumption); rfl; apply LW.guardF'; rfl; rfl; simp only [Bool.not_true, Bool.not_false]; (with_reducible assumption); rfl; apply LW.v0; rfl; rfl; apply ValP.pickT'; rfl; (with_reducible assumption); rfl; apply LW.nil; refine cutI rfl ⟨getB rfl ?_, rfl, rfl, trivial⟩ ?_; exact (decide_eq_true (by omega)).symm; exact List.Sublist.refl _; apply LW.guardF'; rfl; rfl; simp only [Bool.not_true, Bool.not_false]; (with_reducible assumption); rfl; apply LW.guardF'; rfl; rfl; simp only [Bool.not_true, Bool.not_false]; (with_reducible assumption); rfl; apply LW.guardF'; rfl; rfl; simp only [Bool.not_true, Bool.not_false]; (with_reducible assumption); rfl; apply LW.guardF'; rfl; rfl; simp only [Bool.not_true, Bool.not_false]; (with_reducible assumption); rfl; apply LW.v0; rfl; rfl; apply ValP.pickT'; rfl; (with_reducible assumption); rfl; apply LW.v0; rfl; rfl; apply ValP.move; rfl; apply LW.guardF'; rfl; rfl; simp only [Bool.not_true, Bool.not_false]; rfl; apply LW.guardF'; rfl; rfl; simp only [Bool.not_true, Bool.not_false]; rfl; apply LW.guardF'; rfl; rfl; simp only [Bool.not_true, Bool.not_false]; rfl; apply LW.guardF'; rfl; rfl; simp only [Bool.not_true, Bool.not_false]; rfl; apply LW.guardF'; rfl; rfl; simp only [Bool.not_true, Bool.not_false]; rfl; apply LW.v0; rfl; rfl; apply ValP.pickT'; rfl; (with_reducible rfl); rfl; apply LW.nil; refine cutI rfl ⟨getB rfl ?_, rfl, rfl, trivial⟩ ?_; exact (decide_eq_true (by omega)).symm; exact List.Sublist.refl _)
  · (refine LW.guardNF rfl rfl rfl (fun hsq hsp => ?_) (fun hsq hsp => ?_); apply LW.v0; rfl; rfl; apply ValP.fieldAddr; rfl; rfl; apply LW.guardT'; rfl; rfl; (with_reducible assumption); apply LW.load; rfl; rfl; apply Known.at; apply FsAt.tail; apply FsAt.head; exact op_rd1; apply LW.guardT'; rfl; rfl; (with_reducible assumption); apply LW.v0; rfl; rfl; apply ValP.fieldAddr; rfl; rfl; apply LW.guardT'; rfl; rfl; (with_reducible assumption); apply LW.load; rfl; rfl; apply Known.at; apply FsAt.head; exact op_rd1; apply LW.guardT'; rfl; rfl; (with_reducible assumption); apply LW.v0; rfl; rfl; apply ValP.neW; rfl; rfl; assumption; assumption; apply LW.v0; rfl; rfl; apply ValP.pickF'; rfl; (with_reducible assumption); rfl; apply LW.v0; rfl; rfl; apply ValP.move; rfl; refine LW.guardNF rfl rfl rfl (fun hsq hsp => ?_) (fun hsq hsp => ?_); apply LW.v0; rfl; rfl; apply ValP.fieldAddr; rfl; rfl; apply LW.guardT'; rfl; rfl; (with_reducible assumption); apply LW.load; rfl; rfl; apply Known.at; apply FsAt.tail; apply FsAt.head; exact op_rd7; apply LW.guardT'; rfl; rfl; (with_reducible assumption); apply LW.v0; rfl; rfl; apply ValP.fieldAddr; rfl; rfl; apply LW.guardT'; rfl; rfl; (with_reducible assumption); apply LW.load; rfl; rfl; apply Known.at; apply FsAt.head; exact op_rd7; apply LW.guardT'; rfl; rfl; (with_reducible assumption); apply LW.v0; rfl; rfl; apply ValP.ne; rfl; rfl; apply LW.v0; rfl; rfl; apply ValP.pickF'; rfl; (with_reducible assumption); rfl; apply LW.v0; rfl; rfl; apply ValP.move; rfl; refine LW.guardNF rfl rfl rfl (fun hsq hsp => ?_) (fun hsq hsp => ?_); apply LW.v0; rfl; rfl; apply ValP.fieldAddr; rfl; rfl; apply LW.guardT'; rfl; rfl; (with_reducible assumption); apply LW.load; rfl; rfl; apply Known.at; apply FsAt.tail; apply FsAt.head; exact op_rd8; apply LW.guardT'; rfl; rfl; (with_reducible assumption); apply LW.v0; rfl; rfl; apply ValP.fieldAddr; rfl; rfl; apply LW.guardT'; rfl; rfl; (with_reducible assumption); apply LW.load; rfl; rfl; apply Known.at; apply FsAt.head; exact op_rd8; apply LW.guardT'; rfl; rfl; (with_reducible assumption); apply LW.v0; rfl; rfl; apply ValP.ne; rfl; rfl; apply LW.v0; rfl; rfl; apply ValP.pickF'; rfl; (with_reducible assumption); rfl; apply LW.v0; rfl; rfl; apply ValP.move; rfl; refine LW.guardNF rfl rfl rfl (fun hsq hsp => ?_) (fun hsq hsp => ?_); apply LW.v0; rfl; rfl; apply ValP.fieldAddr; rfl; rfl; apply LW.guardT'; rfl; rfl; (with_reducible assumption); apply LW.load; rfl; rfl; apply Known.at; apply FsAt.tail; apply FsAt.head; exact op_rd9; apply LW.guardT'; rfl; rfl; (with_reducible assumption); apply LW.v0; rfl; rfl; apply ValP.fieldAddr; rfl; rfl; apply LW.guardT'; rfl; rfl; (with_reducible assumption); apply LW.load; rfl; rfl; apply Known.at; apply FsAt.head; exact op_rd9; apply LW.guardT'; rfl; rfl; (with_reducible assumption); apply LW.v0; rfl; rfl; apply ValP.ne; rfl; rfl; apply LW.v0; rfl; rfl; apply ValP.pickF'; rfl; (with_reducible assumption); rfl; apply LW.v0; rfl; rfl; apply ValP.move; rfl; refine LW.guardNF rfl rfl rfl (fun hsq hsp => ?_) (fun hsq hsp => ?_); apply LW.v0; rfl; rfl; apply ValP.fieldAddr; rfl; rfl; apply LW.guardT'; rfl; rfl; (with_reducible assumption); apply LW.load; rfl; rfl; apply Known.at; apply FsAt.tail; apply FsAt.head; exact op_rd10; apply LW.guardT'; rfl; rfl; (with_reducible assumption); apply LW.v0; rfl; rfl; apply ValP.fieldAddr; rfl; rfl; apply LW.guardT'; rfl; rfl; (with_reducible assumption); apply LW.load; rfl; rfl; apply Known.at; apply FsAt.head; exact op_rd10; apply LW.guardT'; rfl; rfl; (with_reducible assumption); apply LW.v0; rfl; rfl; apply ValP.ne; rfl; rfl; apply LW.v0; rfl; rfl; apply ValP.pickF'; rfl; (with_reducible assumption); rfl; apply LW.v0; rfl; rfl; apply ValP.move; rfl; refine LW.guardNF rfl rfl rfl (fun hsq hsp => ?_) (fun hsq hsp => ?_); apply LW.v0; rfl; rfl; apply ValP.fieldAddr; rfl; rfl; apply LW.guardT'; rfl; rfl; (with_reducible assumption); apply LW.load; rfl; rfl; apply Known.at; apply FsAt.tail; apply FsAt.head; exact op_rd11; apply LW.guardT'; rfl; rfl; (with_reducible assumption); apply LW.v0; rfl; rfl; apply ValP.fieldAddr; rfl; rfl; apply LW.guardT'; rfl; rfl; (with_reducible assumption); apply LW.load; rfl; rfl; apply Known.at; apply FsAt.head; exact op_rd11; apply LW.guardT'; rfl; rfl; (with_reducible assumption); apply LW.v0; rfl; rfl; apply ValP.ne; rfl; rfl; apply LW.v0; rfl; rfl; apply ValP.pickF'; rfl; (with_reducible assumption); rfl; apply LW.nil; refine cutI rfl ⟨getB rfl ?_, rfl, rfl, trivial⟩ ?_; rw [← decide_not]; exact decide_eq_decide.2 (by omega); exact List.Sublist.refl _; apply LW.guardF'; rfl; rfl; simp only [Bool.not_true, Bool.not_false]; (with_reducible assumption); rfl; apply LW.guardF'; rfl; rfl; simp only [Bool.not_true, Bool.not_false]; (with_reducible assumption); rfl; apply LW.guardF'; rfl; rfl; simp only [Bool.not_true, Bool.not_false]; (with_reducible assumption); rfl; apply LW.guardF'; rfl; rfl; simp only [Bool.not_true, Bool.not_false]; (with_reducible assumption); rfl; apply LW.v0; rfl; rfl; apply ValP.pickT'; rfl; (with_reducible assumption); rfl; apply LW.nil; refine cutI rfl ⟨getB rfl ?_, rfl, rfl, trivial⟩ ?_; exact (decide_eq_true (by omega)).symm; exact List.Sublist.refl _; apply LW.guardF'; rfl; rfl; simp only [Bool.not_true, Bool.not_false]; (with_reducible assumption); rfl; apply LW.guardF'; rfl; rfl; simp only [Bool.not_true, Bool.not_false]; (with_reducible assumption); rfl; apply LW.guardF'; rfl; rfl; simp only [Bool.not_true, Bool.not_false]; (with_reducible assumption); rfl; apply LW.guardF'; rfl; rfl; simp only [Bool.not_true, Bool.not_false]; (with_reducible assumption); rfl; apply LW.v0; rfl; rfl; apply ValP.pickT'; rfl; (with_reducible assumption); rfl; apply LW.v0; rfl; rfl; apply ValP.move; rfl; apply LW.guardF'; rfl; rfl; simp only [Bool.not_true, Bool.not_false]; rfl; apply LW.guardF'; rfl; rfl; simp only [Bool.not_true, Bool.not_false]; rfl; apply LW.guardF'; rfl; rfl; simp only [Bool.not_true, Bool.not_false]; rfl; apply LW.guardF'; rfl; rfl; simp only [Bool.not_true, Bool.not_false]; rfl; apply LW.guardF'; rfl; rfl; simp only [Bool.not_true, Bool.not_false]; rfl; apply LW.v0; rfl; rfl; apply ValP.pickT'; rfl; (with_reducible rfl); rfl; apply LW.nil; refine cutI rfl ⟨getB rfl ?_, rfl, rfl, trivial⟩ ?_; exact (decide_eq_true (by omega)).symm; exact List.Sublist.refl _; apply LW.guardF'; rfl; rfl; simp only [Bool.not_true, Bool.not_false]; (with_reducible assumption); rfl; apply LW.guardF'; rfl; rfl; simp only [Bool.not_true, Bool.not_false]; (with_reducible assumption); rfl; apply LW.guardF'; rfl; rfl; simp only [Bool.not_true, Bool.not_false]; (with_reducible assumption); rfl; apply LW.guardF'; rfl; rfl; simp only [Bool.not_true, Bool.not_false]; (with_reducible assumption); rfl; apply LW.v0; rfl; rfl; apply ValP.pickT'; rfl; (with_reducible assumption); rfl; apply LW.v0; rfl; rfl; apply ValP.move; rfl; apply LW.guardF'; rfl; rfl; simp only [Bool.not_true, Bool.not_false]; rfl; apply LW.guardF'; rfl; rfl; simp only [Bool.not_true, Bool.not_false]; rfl; apply LW.guardF'; rfl; rfl; simp only [Bool.not_true, Bool.not_false]; rfl; apply LW.guardF'; rfl; rfl; simp only [Bool.not_true, Bool.not_false]; rfl; apply LW.guardF'; rfl; rfl; simp only [Bool.not_true, Bool.not_false]; rfl; apply LW.v0; rfl; rfl; apply ValP.pickT'; rfl; (with_reducible rfl); rfl; apply LW.v0; rfl; rfl; apply ValP.move; rfl; apply LW.guardF'; rfl; rfl; simp only [Bool.not_true, Bool.not_false]; rfl; apply LW.guardF'; rfl; rfl; simp only [Bool.not_true, Bool.not_false]; rfl; apply LW.guardF'; rfl; rfl; simp only [Bool.not_true, Bool.not_false]; rfl; apply LW.guardF'; rfl; rfl; simp only [Bool.not_true, Bool.not_false]; rfl; apply LW.guardF'; rfl; rfl; simp only [Bool.not_true, Bool.not_false]; rfl; apply LW.v0; rfl; rfl; apply ValP.pickT'; rfl; (with_reducible rfl); rfl; apply LW.nil; refine cutI rfl ⟨getB rfl ?_, rfl, rfl, trivial⟩ ?_; exact (decide_eq_true (by omega)).symm; exact List.Sublist.refl _; apply LW.guardF'; rfl; rfl; simp only [Bool.not_true, Bool.not_false]; (with_reducible assumption); rfl; apply LW.guardF'; rfl; rfl; simp only [Bool.not_true, Bool.not_false]; (with_reducible assumption); rfl; apply LW.guardF'; rfl; rfl; simp only [Bool.not_true, Bool.not_false]; (with_reducible assumption); rfl; apply LW.guardF'; rfl; rfl; simp only [Bool.not_true, Bool.not_false]; (with_reducible assumption); rfl; apply LW.v0; rfl; rfl; apply ValP.pickT'; rfl; (with_reducible assumption); rfl; apply LW.v0; rfl; rfl; apply ValP.move; rfl; apply LW.guardF'; rfl; rfl; simp only [Bool.not_true, Bool.not_false]; rfl; apply LW.guardF'; rfl; rfl; simp only [Bool.not_true, Bool.not_false]; rfl; apply LW.guardF'; rfl; rfl; simp only [Bool.not_true, Bool.not_false]; rfl; apply LW.guardF'; rfl; rfl; simp only [Bool.not_true, Bool.not_false]; rfl; apply LW.guardF'; rfl; rfl; simp only [Bool.not_true, Bool.not_false]; rfl; apply LW.v0; rfl; rfl; apply ValP.pickT'; rfl; (with_reducible rfl); rfl; apply LW.v0; rfl; rfl; apply ValP.move; rfl; apply LW.guardF'; rfl; rfl; simp only [Bool.not_true, Bool.not_false]; rfl; apply LW.guardF'; rfl; rfl; simp only [Bool.not_true, Bool.not_false]; rfl; apply LW.guardF'; rfl; rfl; simp only [Bool.not_true, Bool.not_false]; rfl; apply LW.guardF'; rfl; rfl; simp only [Bool.not_true, Bool.not_false]; rfl; apply LW.guardF'; rfl; rfl; simp only [Bool.not_true, Bool.not_false]; rfl; apply LW.v0; rfl; rfl; apply ValP.pickT'; rfl; (with_reducible rfl); rfl; apply LW.v0; rfl; rfl; apply ValP.move; rfl; apply LW.guardF'; rfl; rfl; simp only [Bool.not_true, Bool.not_false]; rfl; apply LW.guardF'; rfl; rfl; simp only [Bool.not_true, Bool.not_false]; rfl; apply LW.guardF'; rfl; rfl; simp only [Bool.not_true, Bool.not_false]; rfl; apply LW.guardF'; rfl; rfl; simp only [Bool.not_true, Bool.not_false]; rfl; apply LW.guardF'; rfl; rfl; simp only [Bool.not_true, Bool.not_false]; rfl; apply LW.v0; rfl; rfl; apply ValP.pickT'; rfl; (with_reducible rfl); rfl; apply LW.nil; refine cutI rfl ⟨getB rfl ?_, rfl, rfl, trivial⟩ ?_; exact (decide_eq_true (by omega)).symm; exact List.Sublist.refl _; apply LW.guardF'; rfl; rfl; simp only [Bool.not_true, Bool.not_false]; (with_reducible assumption); rfl; apply LW.guardF'; rfl; rfl; simp only [Bool.not_true, Bool.not_false]; (with_reducible assumption); rfl; apply LW.guardF'; rfl; rfl; simp only [Bool.not_true, Bool.not_false]; (with_reducible assumption); rfl; apply LW.guardF'; rfl; rfl; simp only [Bool.not_true, Bool.not_false]; (with_reducible assumption); rfl; apply LW.v0; rfl; rfl; apply ValP.pickT'; rfl; (with_reducible assumption); rfl; apply LW.v0; rfl; rfl; apply ValP.move; rfl; apply LW.guardF'; rfl; rfl; simp only [Bool.not_true, Bool.not_false]; rfl; apply LW.guardF'; rfl; rfl; simp only [Bool.not_true, Bool.not_false]; rfl; apply LW.guardF'; rfl; rfl; simp only [Bool.not_true, Bool.not_false]; rfl; apply LW.guardF'; rfl; rfl; simp only [Bool.not_true, Bool.not_false]; rfl; apply LW.guardF'; rfl; rfl; simp only [Bool.not_true, Bool.not_false]; rfl; apply LW.v0; rfl; rfl; apply ValP.pickT'; rfl; (with_reducible rfl); rfl; apply LW.v0; rfl; rfl; apply ValP.move; rfl; apply LW.guardF'; rfl; rfl; simp only [Bool.not_true, Bool.not_false]; rfl; apply LW.guardF'; rfl; rfl; simp only [Bool.not_true, Bool.not_false]; rfl; apply LW.guardF'; rfl; rfl; simp only [Bool.not_true, Bool.not_false]; rfl; apply LW.guardF'; rfl; rfl; simp only [Bool.not_true, Bool.not_false]; rfl; apply LW.guardF'; rfl; rfl; simp only [Bool.not_true, Bool.not_false]; rfl; apply LW.v0; rfl; rfl; apply ValP.pickT'; rfl; (with_reducible rfl); rfl; apply LW.v0; rfl; rfl; apply ValP.move; rfl; apply LW.guardF'; rfl; rfl; simp only [Bool.not_true, Bool.not_false]; rfl; apply LW.guardF'; rfl; rfl; simp only [Bool.not_true, Bool.not_false]; rfl; apply LW.guardF'; rfl; rfl; simp only [Bool.not_true, Bool.not_false]; rfl; apply LW.guardF'; rfl; rfl; simp only [Bool.not_true, Bool.not_false]; rfl; apply LW.guardF'; rfl; rfl; simp only [Bool.not_true, Bool.not_false]; rfl; apply LW.v0; rfl; rfl; apply ValP.pickT'; rfl; (with_reducible rfl); rfl; apply LW.v0; rfl; rfl; apply ValP.move; rfl; apply LW.guardF'; rfl; rfl; simp only [Bool.not_true, Bool.not_false]; rfl; apply LW.guardF'; rfl; rfl; simp only [Bool.not_true, Bool.not_false]; rfl; apply LW.guardF'; rfl; rfl; simp only [Bool.not_true, Bool.not_false]; rfl; apply LW.guardF'; rfl; rfl; simp only [Bool.not_true, Bool.not_false]; rfl; apply LW.guardF'; rfl; rfl; simp only [Bool.not_true, Bool.not_false]; rfl; apply LW.v0; rfl; rfl; apply ValP.pickT'; rfl; (with_reducible rfl); rfl; apply LW.nil; refine cutI rfl ⟨getB rfl ?_, rfl, rfl, trivial⟩ ?_; exact (decide_eq_true (by omega)).symm; exact List.Sublist.refl _; apply LW.guardF'; rfl; rfl; simp only [Bool.not_true, Bool.not_false]; (with_reducible assumption); rfl; apply LW.guardF'; rfl; rfl; simp only [Bool.not_true, Bool.not_false]; (with_reducible assumption); rfl; apply LW.guardF'; rfl; rfl; simp only [Bool.not_true, Bool.not_false]; (with_reducible assumption); rfl; apply LW.guardF'; rfl; rfl; simp only [Bool.not_true, Bool.not_false]; (with_reducible assumption); rfl; apply LW.v0; rfl; rfl; apply ValP.pickT'; rfl; (with_reducible assumption); rfl; apply LW.v0; rfl; rfl; apply ValP.move; rfl; apply LW.guardF'; rfl; rfl; simp only [Bool.not_true, Bool.not_false]; rfl; apply LW.guardF'; rfl; rfl; simp only [Bool.not_true, Bool.not_false]; rfl; apply LW.guardF'; rfl; rfl; simp only [Bool.not_true, Bool.not_false]; rfl; apply LW.guardF'; rfl; rfl; simp only [Bool.not_true, Bool.not_false]; rfl; apply LW.guardF'; rfl; rfl; simp only [Bool.not_true, Bool.not_false]; rfl; apply LW.v0; rfl; rfl; apply ValP.pickT'; rfl; (with_reducible rfl); rfl; apply LW.v0; rfl; rfl; apply ValP.move; rfl; apply LW.guardF'; rfl; rfl; simp only [Bool.not_true, Bool.not_false]; rfl; apply LW.guardF'; rfl; rfl; simp only [Bool.not_true, Bool.not_false]; rfl; apply LW.guardF'; rfl; rfl; simp only [Bool.not_true, Bool.not_false]; rfl; apply LW.guardF'; rfl; rfl; simp only [Bool.not_true, Bool.not_false]; rfl; apply LW.guardF'; rfl; rfl; simp only [Bool.not_true, Bool.not_false]; rfl; apply LW.v0; rfl; rfl; apply ValP.pickT'; rfl; (with_reducible rfl); rfl; apply LW.v0; rfl; rfl; apply ValP.move; rfl; apply LW.guardF'; rfl; rfl; simp only [Bool.not_true, Bool.not_false]; rfl; apply LW.guardF'; rfl; rfl; simp only [Bool.not_true, Bool.not_false]; rfl; apply LW.guardF'; rfl; rfl; simp only [Bool.not_true, Bool.not_false]; rfl; apply LW.guardF'; rfl; rfl; simp only [Bool.not_true, Bool.not_false]; rfl; apply LW.guardF'; rfl; rfl; simp only [Bool.not_true, Bool.not_false]; rfl; apply LW.v0; rfl; rfl; apply ValP.pickT'; rfl; (with_reducible rfl); rfl; apply LW.v0; rfl; rfl; apply ValP.move; rfl; apply LW.guardF'; rfl; rfl; simp only [Bool.not_true, Bool.not_false]; rfl; apply LW.guardF'; rfl; rfl; simp only [Bool.not_true, Bool.not_false]; rfl; apply LW.guardF'; rfl; rfl; simp only [Bool.not_true, Bool.not_false]; rfl; apply LW.guardF'; rfl; rfl; simp only [Bool.not_true, Bool.not_false]; rfl; apply LW.guardF'; rfl; rfl; simp only [Bool.not_true, Bool.not_false]; rfl; apply LW.v0; rfl; rfl; apply ValP.pickT'; rfl; (with_reducible rfl); rfl; apply LW.v0; rfl; rfl; apply ValP.move; rfl; apply LW.guardF'; rfl; rfl; simp only [Bool.not_true, Bool.not_false]; rfl; apply LW.guardF'; rfl; rfl; simp only [Bool.not_true, Bool.not_false]; rfl; apply LW.guardF'; rfl; rfl; simp only [Bool.not_true, Bool.not_false]; rfl; apply LW.guardF'; rfl; rfl; simp only [Bool.not_true, Bool.not_false]; rfl; apply LW.guardF'; rfl; rfl; simp only [Bool.not_true, Bool.not_false]; rfl; apply LW.v0; rfl; rfl; apply ValP.pickT'; rfl; (with_reducible rfl); rfl; apply LW.nil; refine cutI rfl ⟨getB rfl ?_, rfl, rfl, trivial⟩ ?_; exact (decide_eq_true (by omega)).symm; exact List.Sublist.refl _)
end Go.Proofs.YtobkhnmglbfheaaDoor

/-
  Operations of accounts with bytes of their own.
  Conditions: none.
-/
namespace Go.Proofs.YtobkhnmglbfheaaDoor
open Go Go.RowKit SL
set_option maxRecDepth 8000
set_option maxHeartbeats 4000000
set_option linter.unusedSimpArgs false
set_option linter.unusedVariables false
attribute [local irreducible] SL.CW SL.LW SL.DW Calls SL.Ret SL.RetG SL.beginQ SL.roundQ SL.rangeQ SL.inQ SL.RW SL.AnyW SL.thenQ SL.thenC SL.thenW SL.blkQ SL.finQ SL.ValP SL.NewP SL.SetP SL.CallP SL.Rd SL.Wr SL.Known
theorem own_calls (l : List UInt8) (v : Value) (w : World) (hv : RowAt w 1 v l.length (ucs l)) : Calls Tryd.prog 18 #[v] w (RetG w [] fun v' gs => IsRow 5 1 v' (l.take 201).length (ucs (l.take 201)) gs) := by
  obtain ⟨p, c, rfl, hc, hm⟩ := hv.form
  simp only [maxLen] at hm
  have hcut := row_taken hv (n := min l.length 201) (by omega)
  have hX : l.take (min l.length 201) = l.take 201 := by rw [Nat.min_comm, ← List.take_take, List.take_length]
  have hXl : (l.take 201).length ≤ 201 := by rw [List.length_take]; omega
  rw [hX] at hcut
  refine enter (args := [_]) _ [] [] Tryd.func18 rfl Tryd.ntmps18 rfl (by simp) .nil ?_
  (refine CW.seq ?_; refine CW.region ?_; apply LW.v0; rfl; rfl; apply ValP.assign; rfl; apply LW.nil; refine thenN ?_; refine CW.seq ?_; refine CW.region ?_)
  refine LW.lay0 rfl inferInstance inferInstance fun v0 seg hrow => ?_
  (apply LW.v0; rfl; rfl; apply ValP.move; rfl; apply LW.v0; rfl; rfl; apply ValP.move; rfl; apply LW.v0; rfl; rfl; apply ValP.lenR; rfl; infer_instance; rfl; apply LW.v0; rfl; rfl; apply ValP.minZL; rfl; rfl; decide; apply LW.v0; rfl; rfl; apply ValP.cutTo; infer_instance; infer_instance; rfl; rfl; omega)
  refine LW.appendAny (n := 0) (m := (l.take 201).length) (news := ucs (l.take 201)) rfl rfl inferInstance inferInstance inferInstance rfl rfl rfl (by (exact AtSeg.head)) hrow (fun w hs => hcut.st hs) (ucs_cells _) (by simp only [maxLen]; omega) (by omega) ?_
  intro v1 seg1 hrow1
  refine ⟨_, (by (exact AtSeg.head)), ?_⟩
  simp only [List.nil_append, Nat.zero_add] at hrow1
  (apply LW.v0; rfl; rfl; apply ValP.assign; rfl; apply LW.nil; refine thenN ?_; refine CW.ret ?_)
  refine fin (vs := [v1]) seg1 (.inl rfl) rfl rfl (by (apply ResL.cons; exact Res.tmp rfl; exact ResL.nil)) (List.sublist_append_left _ _) hrow1
/-- An operation, its bytes cut. -/
def cutO (u : OpV) (a b c d : Value) : OpV := ⟨u.sd, u.no, a, u.ib.take 201, b, u.cb.take 201, u.vg, u.cg, u.pg, u.mf, u.mp, u.py, u.pv, u.pp, c, u.db.take 201, d, u.gb.take 201⟩
/-- An operation whose bytes lie where these facts say. -/
def OpGs (u : OpV) (gs : Fs) : Prop := ∀ w : World, (∀ q ∈ gs, w.heap[q.1]? = some q.2) → OpAt w u
section wr
variable {P : Program} {T E : TypeId} {u : OpV} {p : Option Addr} {n c : Nat}
theorem op_wr5 {z : Value} [InfoI P T 1 z] : Wr P T (.cells (opa u) E (0, 0)) (0 + 5) (.slice p n c) (.cells (opa { u with iv := .slice p n c }) E (0, 0)) := Wr.cells (n := 1) (z := z) rfl rfl (by show 0 + 5 + 1 ≤ 17; omega) rfl
theorem op_wr6 {z : Value} [InfoI P T 1 z] : Wr P T (.cells (opa u) E (0, 0)) (0 + 6) (.slice p n c) (.cells (opa { u with cv := .slice p n c }) E (0, 0)) := Wr.cells (n := 1) (z := z) rfl rfl (by show 0 + 6 + 1 ≤ 17; omega) rfl
theorem op_wr15 {z : Value} [InfoI P T 1 z] : Wr P T (.cells (opa u) E (0, 0)) (0 + 15) (.slice p n c) (.cells (opa { u with dv := .slice p n c }) E (0, 0)) := Wr.cells (n := 1) (z := z) rfl rfl (by show 0 + 15 + 1 ≤ 17; omega) rfl
theorem op_wr16 {z : Value} [InfoI P T 1 z] : Wr P T (.cells (opa u) E (0, 0)) (0 + 16) (.slice p n c) (.cells (opa { u with gv := .slice p n c }) E (0, 0)) := Wr.cells (n := 1) (z := z) rfl rfl (by show 0 + 16 + 1 ≤ 17; omega) rfl
end wr
/-- The values of an operation's bytes are slices. -/
structure OpSl (u : OpV) : Prop where
  i : ∃ p c, u.iv = .slice p u.ib.length c
  c : ∃ p c, u.cv = .slice p u.cb.length c
  d : ∃ p c, u.dv = .slice p u.db.length c
  g : ∃ p c, u.gv = .slice p u.gb.length c
theorem OpAt.sl {w : World} {u : OpV} (h : OpAt w u) : OpSl u := by
  obtain ⟨a, b, h1, _⟩ := h.i.form
  obtain ⟨a2, b2, h2, _⟩ := h.c.form
  obtain ⟨a3, b3, h3, _⟩ := h.d.form
  obtain ⟨a4, b4, h4, _⟩ := h.g.form
  exact ⟨⟨a, b, h1⟩, ⟨a2, b2, h2⟩, ⟨a3, b3, h3⟩, ⟨a4, b4, h4⟩⟩
theorem op_cells {u : OpV} (h : OpSl u) : (opa u).toList.all Value.oneCell' = true := by
  obtain ⟨⟨_, _, h1⟩, ⟨_, _, h2⟩, ⟨_, _, h3⟩, ⟨_, _, h4⟩⟩ := h
  simp only [opa, opc, wc, List.cons_append, List.nil_append, List.all_cons, List.all_nil, h1, h2, h3, h4]; rfl
theorem op_wrW {P : Program} {T E : TypeId} {u : OpV} {z : Value} {cs : Array Value} [InfoI P T 17 z] (h : cs.size = 17) (hu : OpSl u) : Wr P T (.cells cs E (0, 0)) 0 (.agg (opa u)) (.cells (opa u) E (0, 0)) := Wr.whole h rfl (op_cells hu)
def ownM (l : List UInt8) (v : Value) (gs : Fs) : Prop := IsRow 5 1 v (l.take 201).length (ucs (l.take 201)) gs
end Go.Proofs.YtobkhnmglbfheaaDoor

/-
  A SMALL LOGIC OVER THE KIT's WALK, PART MM: append in a region that draws its order, of what is known only there.
  Conditions: none; over any program.
-/
namespace Go.Proofs.YtobkhnmglbfheaaDoor.SL
set_option linter.unusedVariables false
set_option linter.unusedSimpArgs false
open Go Go.RowKit
section dw
variable {C : Cu} {ops : Array Oper} {Q : Post} {tl rest : List Oper} {e : Env} {ts : Ts} {μ : Mu} {k d : Nat} {t : TypeId} {pos : String} {af : Array Edge} {g : Option (Nat × Bool)}
/-- An operation that lays rows anew, in whatever order. -/
theorem DW.moveX {o : Oper} {bl : List Nat} {M : Facts → Value → Fs → Prop} {seg us2 us3 : Fs} {ws rs : List Nat} {ts1 ts2 : Ts} (hk : ops[k]? = some o) (hdst : o.dst = some d) (hd : Nat.blt d C.N = true)
    (htch0 : ∀ a, EnvOk C.N C.ds e a → tch ops o a = keys seg ++ bl) (hmv0 : ∀ a, EnvOk C.N C.ds e a → mvE (flg (μ k)) ops o a = keys seg) (hout : TOut ops k ts seg ws rs ts1) (hra : ReadAll C ops k bl ts1 us2 ts2) (hown : ∀ p ∈ us3, ∃ ws rs, (p.1, p.2, ws, rs) ∈ ts1)
    (hcl : ∀ a φ, EnvOk C.N C.ds e a → (∀ q ∈ seg, φ q.1 = some q.2 ∧ (C.w0.heap.size ≤ q.1 ∨ q.1 ∈ C.S)) → seg.Pairwise (fun p q => p.1 ≠ q.1) → (∀ w, C.cx.on φ bl w → ∀ p ∈ us2, w.heap[p.1]? = some p.2) → (∀ p ∈ us3, φ p.1 = some p.2) → CanMk C.cx ops (μ k) φ o a (M φ))
    (kk : ∀ φ v' seg', (∀ p ∈ us3, φ p.1 = some p.2) → M φ v' seg' → DW C ops μ Q tl rest (k + 1) ((d, v') :: e) (tsTag (k :: ws) (k :: rs) seg' ++ ts2)) :
    DW C ops μ Q tl (o :: rest) k e ts := by
  intro a φ tw tr ha hrel hinv
  obtain ⟨hperm, hws, hrs⟩ := hout.spec
  have htch := htch0 a ha
  have hmvE := hmv0 a ha
  have hin : ∀ q ∈ seg, (q.1, q.2, ws, rs) ∈ ts := fun q hq => hperm.subset (List.mem_append_left _ (List.mem_map.2 ⟨q, hq, rfl⟩))
  have hsub : ∀ p ∈ ts1, p ∈ ts := fun p hp => hperm.subset (List.mem_append_right _ hp)
  have hnd : (tsTag ws rs seg ++ ts1).Pairwise fun p q => p.1 ≠ q.1 := hperm.symm.pairwise hrel.nd (fun h e => h e.symm)
  obtain ⟨nd1, nd2, nd3⟩ := List.pairwise_append.1 hnd
  have hdis : ∀ q ∈ seg, ∀ p ∈ ts1, p.1 ≠ q.1 := fun q hq p hp e => nd3 (q.1, q.2, ws, rs) (List.mem_map.2 ⟨q, hq, rfl⟩) p hp e.symm
  have hks : ∀ b ∈ keys seg, ∃ q ∈ seg, q.1 = b := fun b hb => by obtain ⟨q, hq, he⟩ := List.mem_map.1 hb; exact ⟨q, hq, he⟩
  have hφs : ∀ q ∈ seg, φ q.1 = some q.2 := fun q hq => hrel.fsome _ (hin q hq)
  have hrel1 : Rel C.w0.heap.size ts1 φ tw (addT tr (keys seg) k) := by
    refine ⟨fun p hp => hrel.fsome p (hsub p hp), fun p hp j hj => hrel.ftw p (hsub p hp) j hj, fun p hp j hj => ?_, hrel.old, fun b hb hB j hj => ?_, nd2⟩
    · rcases hj with hj | ⟨_, hj⟩
      · exact hrel.ftr p (hsub p hp) j hj
      · obtain ⟨q, hq, he⟩ := hks _ hj
        exact absurd he.symm (hdis q hq p hp)
    · rcases hj with hj | ⟨_, hj⟩
      · exact hrel.oldr b hb hB j hj
      · obtain ⟨q, hq, rfl⟩ := hks _ hj
        rw [hφs q hq] at hb; cases hb
  obtain ⟨i1, i2, i3⟩ := hra.rel hinv hrel1
  have hts2 : ∀ p ∈ ts2, ∀ q ∈ seg, p.1 ≠ q.1 := fun p hp q hq => by
    obtain ⟨p', hp', he⟩ := mem_fst hra.fsts hp
    rw [← he]; exact hdis q hq p' hp'
  have hφ3 : ∀ p ∈ us3, φ p.1 = some p.2 := fun p hp => by
    obtain ⟨ws', rs', h⟩ := hown p hp
    exact hrel1.fsome _ h
  unfold walk dOp
  simp only [hk]
  rw [htch, hmvE]
  refine ⟨fun b hb => ?_, .inr ⟨M φ, hcl a φ ha (fun q hq => ⟨hφs q hq, hinv q.1 (by rw [hφs q hq]; simp)⟩) ?_ (fun w hon => i3 w hon) hφ3, fun b hb j hj => ?_, fun v' gs hM hf _ => ?_⟩⟩
  · rcases List.mem_append.1 hb with hb | hb
    · obtain ⟨q, hq, rfl⟩ := hks _ hb
      exact ⟨.inl (by rw [hφs q hq]; simp), fun j hj => ancB_spec hws j (hrel.ftw _ (hin q hq) j hj)⟩
    · exact i2 b hb
  · have := nd1
    simp only [tsTag, List.pairwise_map] at this
    exact this
  · obtain ⟨q, hq, rfl⟩ := hks _ hb
    exact ancB_spec hrs j (hrel.ftr _ (hin q hq) j hj)
  · have hfk : ∀ b ∈ keys gs, (φ b = none ∧ C.w0.heap.size ≤ b) ∨ b ∈ keys seg := fun b hb => (hf.1 b hb).2
    have hk2 : ∀ p ∈ ts2, p.1 ∉ keys gs := fun p hp hk' => by
      rcases hfk _ hk' with h | h
      · rw [i1.fsome p hp] at h; cases h.1
      · obtain ⟨q, hq, he⟩ := hks _ h
        exact hts2 p hp q hq he.symm
    have hup := upds_in (φ := φ) hf.2
    have hg : ∀ p ∈ tsTag (k :: ws) (k :: rs) gs, ∃ q ∈ gs, p = (q.1, q.2, k :: ws, k :: rs) := fun p hp => by
      obtain ⟨q, hq, rfl⟩ := List.mem_map.1 hp; exact ⟨q, hq, rfl⟩
    rw [hdst]
    refine kk φ v' gs hφ3 hM _ _ _ _ (ha.put hd) ⟨fun p hp => ?_, fun p hp j hj => ?_, fun p hp j hj => ?_, fun x hx j hj => ?_, fun x hx hB j hj => ?_, ?_⟩ (inv_upds hinv (fun b hb => (hf.1 b hb).1))
    · rcases List.mem_append.1 hp with hp | hp
      · obtain ⟨q, hq, rfl⟩ := hg p hp; exact hup q hq
      · rw [upds_other (hk2 p hp)]; exact i1.fsome p hp
    · rcases List.mem_append.1 hp with hp | hp
      · obtain ⟨q, hq, rfl⟩ := hg p hp
        rcases hj with hj | ⟨rfl, _⟩
        · rcases hfk q.1 (List.mem_map.2 ⟨q, hq, rfl⟩) with h | h
          · exact absurd hj (hrel.old _ h.1 j)
          · obtain ⟨q', hq', he⟩ := hks _ h
            exact List.mem_cons_of_mem _ (hrel.ftw _ (hin q' hq') j (by rw [he]; exact hj))
        · exact List.mem_cons_self
      · rcases hj with hj | ⟨_, hj⟩
        · exact i1.ftw p hp j hj
        · rcases List.mem_append.1 hj with hj | hj
          · obtain ⟨q, hq, he⟩ := hks _ hj
            exact absurd he.symm (hts2 p hp q hq)
          · exact absurd hj (hk2 p hp)
    · rcases List.mem_append.1 hp with hp | hp
      · obtain ⟨q, hq, rfl⟩ := hg p hp
        rcases hj with hj | ⟨rfl, _⟩
        · rcases hfk q.1 (List.mem_map.2 ⟨q, hq, rfl⟩) with h | h
          · exact absurd hj (hrel.oldr _ h.1 h.2 j)
          · obtain ⟨q', hq', he⟩ := hks _ h
            exact List.mem_cons_of_mem _ (hrel.ftr _ (hin q' hq') j (by rw [he]; exact hj))
        · exact List.mem_cons_self
      · exact i1.ftr p hp j (by rw [← addT_app]; exact hj)
    · have hxk : x ∉ keys gs := fun h => upds_key h hx
      rw [upds_other hxk] at hx
      rcases hj with hj | ⟨_, hj⟩
      · exact hrel.old x hx j hj
      · rcases List.mem_append.1 hj with hj | hj
        · obtain ⟨q, hq, rfl⟩ := hks _ hj
          rw [hφs q hq] at hx; cases hx
        · exact hxk hj
    · have hxk : x ∉ keys gs := fun h => upds_key h hx
      rw [upds_other hxk] at hx
      exact i1.oldr x hx hB j (by rw [← addT_app]; exact hj)
    · refine List.pairwise_append.2 ⟨?_, i1.nd, fun p hp q hq e => ?_⟩
      · simp only [tsTag, List.pairwise_map]; exact hf.2
      · obtain ⟨q', hq', rfl⟩ := hg p hp
        exact hk2 q hq (by rw [← e]; exact List.mem_map.2 ⟨q', hq', rfl⟩)
/-- **append** in whatever order, told by what it does. -/
theorem DW.appendX {s x : Operand} {tys : Array TypeId} {v vx : Value} {R : Rel2} {seg us us3 : Fs} {ws rs : List Nat} {ts1 ts2 : Ts}
    (hk : ops[k]? = some ⟨some d, .call { callee := .builtin .append, args := #[s, x], argTypes := tys }, t, pos, af, g⟩) (hm : μ k = some (R, false)) (hd : Nat.blt d C.N = true) (hg : WantT ops e g)
    (hs : e.ev s = some v) (hx : e.ev x = some vx) (hvk : blocksN 4 v = keys seg ∧ blocksN 1 v = keys seg) (hout : TOut ops k ts seg ws rs ts1) (hrd : RdV C ops k [vx] ts1 us ts2) (hown : ∀ p ∈ us3, (∃ ws rs, (p.1, p.2, ws, rs) ∈ ts1) ∧ p.1 ∈ blocksN 4 vx)
    (hrun : ∀ w, St C.w0 C.S seg w → (∀ p ∈ us, w.heap[p.1]? = some p.2) → ∃ v' seg' w', (Builtin.append_ tys t #[v, vx]).run C.P w = .ok v' w' ∧ (∀ ψ : Facts, (∀ p ∈ us3, ψ p.1 = some p.2) → R [v, vx] ψ v' seg') ∧ St C.w0 C.S seg' w' ∧ w.heap.size ≤ w'.heap.size ∧ (∀ b, b < w.heap.size → b ∉ seg'.map (·.1) → w'.heap[b]? = w.heap[b]?) ∧ (∀ q ∈ seg', w.heap.size ≤ q.1 ∨ q.1 ∈ seg.map (·.1)))
    (kk : ∀ ψ v' seg', (∀ p ∈ us3, ψ p.1 = some p.2) → R [v, vx] ψ v' seg' → DW C ops μ Q tl rest (k + 1) ((d, v') :: e) (tsTag (k :: ws) (k :: rs) seg' ++ ts2)) :
    DW C ops μ Q tl (⟨some d, .call { callee := .builtin .append, args := #[s, x], argTypes := tys }, t, pos, af, g⟩ :: rest) k e ts := by
  obtain ⟨us2, hra, hus⟩ := hrd.all
  have hra : ReadAll C ops k (blocksN 4 vx) ts1 us2 ts2 := by simpa using hra
  have hmvB : ∀ a : Act, EnvOk C.N C.ds e a → mvB false ⟨some d, .call { callee := .builtin .append, args := #[s, x], argTypes := tys }, t, pos, af, g⟩ a.eval = blocksN 1 v := fun a ha => by
    show (match (#[s, x] : Array Operand)[0]? with | some x => blocksN 1 (a.eval x) | none => []) = _
    simp [ha.Ev s v hs]
  have hr3 : ∀ φ : Facts, (∀ p ∈ us3, φ p.1 = some p.2) → ∀ p ∈ us3, rst φ (keys seg ++ blocksN 4 vx) p.1 = some p.2 := fun φ h p hp => by rw [rst_in φ (List.mem_append_right _ (hown p hp).2)]; exact h p hp
  refine DW.moveX (us3 := us3) (M := fun φ => R [v, vx] (rst φ (keys seg ++ blocksN 4 vx))) hk rfl hd (fun a ha => ?_) (fun a ha => ?_) hout hra (fun p hp => (hown p hp).1) (fun a φ ha hseg hnd hus3 hφ3 => ?_) (fun φ v' seg' h3 hM => kk _ v' seg' (hr3 φ h3) hM)
  · have hw := WantT.wanted (o := ⟨some d, .call { callee := .builtin .append, args := #[s, x], argTypes := tys }, t, pos, af, g⟩) hg ha
    rw [tch_want hw, ← hvk.1]
    show ((#[] ++ #[s, x] : Array Operand).toList.flatMap fun y => blocksN 4 (a.eval y)) = _
    simp [ha.Ev s v hs, ha.Ev x vx hx]
  · have hw := WantT.wanted (o := ⟨some d, .call { callee := .builtin .append, args := #[s, x], argTypes := tys }, t, pos, af, g⟩) hg ha
    rw [hm]; unfold mvE; rw [if_pos hw, ← hvk.2]; exact hmvB a ha
  · have hw := WantT.wanted (o := ⟨some d, .call { callee := .builtin .append, args := #[s, x], argTypes := tys }, t, pos, af, g⟩) hg ha
    have hes := ha.Ev s v hs
    have hex := ha.Ev x vx hx
    have htch : touch ⟨some d, .call { callee := .builtin .append, args := #[s, x], argTypes := tys }, t, pos, af, g⟩ a.eval = keys seg ++ blocksN 4 vx := by
      rw [← hvk.1]
      show ((#[] ++ #[s, x] : Array Operand).toList.flatMap fun y => blocksN 4 (a.eval y)) = _
      simp [hes, hex]
    have hvo : valsOf ⟨some d, .call { callee := .builtin .append, args := #[s, x], argTypes := tys }, t, pos, af, g⟩ a.eval = [v, vx] := by
      show ((#[] ++ #[s, x] : Array Operand).toList.map fun y => a.eval y) = _
      simp [hes, hex]
    refine ⟨hw, .inr ⟨⟨R, by rw [hm]; rfl, by rw [hvo, htch]⟩, .inr fun w hon => ?_⟩⟩
    rw [htch] at hon
    have hst : St C.w0 C.S seg w := ⟨hon.1, fun q hq => ⟨(hseg q hq).2, hon.2 q.1 (List.mem_append_left _ (List.mem_map.2 ⟨q, hq, rfl⟩)) _ (hseg q hq).1⟩, hnd⟩
    obtain ⟨v', seg', w', hr, hM, hst', g1, g2, g3⟩ := hrun w hst (fun p hp => hus3 w ⟨hon.1, fun y hy o ho => hon.2 y (List.mem_append_right _ hy) o ho⟩ p (hus p hp))
    refine ⟨v', seg', w', ?_, hM _ (hr3 φ hφ3), hst'.bel, g1, g2, fun q hq => ⟨(hst'.own q hq).2, ?_, ?_⟩, hst'.nd⟩
    · show (execOp a.eval ⟨some d, .call { callee := .builtin .append, args := #[s, x], argTypes := tys }, t, pos, af, g⟩).run C.P w = .ok (.value v') w'
      simp [execOp, resolve, invoke, builtin, hes, hex, hr]
    · exact (hst'.own q hq).1
    · rw [hm, show mvB (flg (some (R, false))) _ _ = keys seg from (hmvB a ha).trans hvk.2]; exact g3 q hq
/-- A row, longer by what the block of the second operand holds. -/
def apR (E : TypeId) (size n : Nat) (xs : List Value) : Rel2 := fun vs ψ v gs => ∀ sv b cs E' fr, vs = [sv, .slice (some ⟨b, 0, none⟩) 1 1] → ψ b = some (.cells cs E' fr) → IsRow E size v (n + 1) (xs ++ cs.toList) gs
/-- **append(s, x)** in whatever order, of one element that is known only there. -/
theorem DW.appendY {s x : Operand} {tys : Array TypeId} {T E size bytes n b : Nat} {z v : Value} {xs : List Value} {cs : Array Value} {E2 : TypeId} {fr : Nat × Nat} {seg : Fs} {ws rs : List Nat} {ts1 ts2 : Ts}
    (hk : ops[k]? = some ⟨some d, .call { callee := .builtin .append, args := #[s, x], argTypes := tys }, t, pos, af, g⟩) (hm : μ k = some (apR E size n xs, false)) (hd : Nat.blt d C.N = true) (hg : WantT ops e g)
    (hT : tys = #[T, T]) (hU : UnI C.P T (.slice E)) (hI : InfoI C.P E size z) (hB : BytI C.P E bytes) (hz : z.cells.size = size) (hs : e.ev s = some v) (hx : e.ev x = some (.slice (some ⟨b, 0, none⟩) 1 1))
    (hrow : IsRow E size v n xs seg) (h0 : v = .slice none 0 0 ∨ 0 < n) (hout : TOut ops k ts seg ws rs ts1) (hrd : TRead ops k ts1 b (.cells cs E2 fr) ts2)
    (hcs : cs.toList.length = size) (h1 : ∀ u ∈ cs.toList, u.oneCell' = true) (h63 : n + 1 ≤ maxLen) (hb : (n + 1) * bytes ≤ 140737488355328)
    (kk : ∀ v' seg', IsRow E size v' (n + 1) (xs ++ cs.toList) seg' → DW C ops μ Q tl rest (k + 1) ((d, v') :: e) (tsTag (k :: ws) (k :: rs) seg' ++ ts2)) :
    DW C ops μ Q tl (⟨some d, .call { callee := .builtin .append, args := #[s, x], argTypes := tys }, t, pos, af, g⟩ :: rest) k e ts := by
  subst hT
  have hmem := hrd.mem
  refine DW.appendX (us := [(b, .cells cs E2 fr)]) (us3 := [(b, .cells cs E2 fr)]) hk hm hd hg hs hx (hrow.blocks h0) hout (RdV.own (by decide) hrd .nil) (fun p hp => ?_) (fun w hst hus => ?_) (fun ψ v' seg' hψ hR => kk v' seg' (hR _ _ _ _ _ rfl (hψ _ (List.mem_singleton.2 rfl))))
  · obtain rfl := List.mem_singleton.1 hp
    obtain ⟨ws', rs', h, _⟩ := hmem
    exact ⟨⟨ws', rs', h⟩, by simp [blocksN]⟩
  obtain ⟨i, q1, q2, q3, q4⟩ := info_all (P := C.P) (T := E)
  have hblk := hus _ (List.mem_singleton.2 rfl)
  dsimp only at hblk
  obtain ⟨v', seg', w', hr, hrow', hst', g1, g2, g3⟩ := row_append2 (P := C.P) (ty := t) (pre := []) (post := []) hU.un q1 q3 q2 hz hrow (by simpa using hst) ⟨b, 0, none⟩ 1 1 cs.toList (by rw [hcs, Nat.one_mul]) (fun j u hj => by
    rw [addr_add, cell_of hblk, Nat.zero_add, ← Array.getElem?_toList]; exact hj) h1 (by decide) h63 (by rw [q4]; exact hb)
  simp only [List.nil_append, List.append_nil] at hst'
  refine ⟨v', seg', w', hr, fun ψ hψ sv b' cs' E' fr' heq hb' => ?_, hst', g1, g2, g3⟩
  simp only [List.cons.injEq, Value.slice.injEq, Option.some.injEq, Addr.mk.injEq, and_true, true_and] at heq
  obtain ⟨_, rfl⟩ := heq
  have := hψ _ (List.mem_singleton.2 rfl)
  dsimp only at this
  rw [this] at hb'
  cases hb'
  exact hrow'
end dw
/-- What is told ahead, by operands' values and touched blocks. -/
def muS (l : List (Nat × Rel2)) : Mu := fun k => (l.find? fun p => Nat.beq p.1 k).map fun p => (p.2, false)
theorem AnyW.anyS {C : Cu} {id : Nat} {l : List Oper} {Q : Post} {fs : Fs} {e : Env} (ms : List (Nat × Rel2)) (n : Nat) (hm : C.P.follows .mixedOrders = true) (hB : headB l.toArray n = true) (h : DW C l.toArray (muS ms) Q (l.drop n) (l.take n) 0 e (tsOf fs)) :
    AnyW C id l Q e fs := CW.any (muS ms) n hm hB h
end Go.Proofs.YtobkhnmglbfheaaDoor.SL

/-
  Operations of accounts laid: words and numbers become parts.
  Conditions: none.
-/
namespace Go.Proofs.YtobkhnmglbfheaaDoor
open Go Go.RowKit SL
set_option maxRecDepth 8000
set_option maxHeartbeats 4000000
set_option linter.unusedSimpArgs false
set_option linter.unusedVariables false
attribute [local irreducible] SL.CW SL.LW SL.DW Calls SL.Ret SL.RetG SL.beginQ SL.roundQ SL.rangeQ SL.inQ SL.RW SL.AnyW SL.thenQ SL.thenC SL.thenW SL.blkQ SL.finQ SL.ValP SL.NewP SL.SetP SL.CallP SL.Rd SL.Wr SL.Known
/-- A form's cells: the operation, the parts, whether it reads, whether it is bad. -/
def fma (u : OpV) (pv : Value) (rd bad : Bool) : Array Value := (opc u ++ [pv, .bool rd, .bool bad]).toArray
section rd
variable {P : Program} {T E : TypeId} {fr : Nat × Nat} {u : OpV} {pv : Value} {r b : Bool}
theorem fm_rd1 {z : Value} [AgI P T true] [InfoI P T 4 z] : Rd P T (.cells (fma u pv r b) E fr) 1 (wv u.no) := Rd.mid (cs := (wc u.no).toList) rfl rfl
theorem fm_rd17 [AgI P T false] : Rd P T (.cells (fma u pv r b) E fr) 17 pv := Rd.one rfl
theorem fm_rd18 [AgI P T false] : Rd P T (.cells (fma u pv r b) E fr) 18 (.bool r) := Rd.one rfl
theorem fm_rd19 [AgI P T false] : Rd P T (.cells (fma u pv r b) E fr) 19 (.bool b) := Rd.one rfl
theorem fm_wr17 {z : Value} {p : Option Addr} {n c : Nat} [InfoI P T 1 z] : Wr P T (.cells (fma u pv r b) E (0, 0)) 17 (.slice p n c) (.cells (fma u (.slice p n c) r b) E (0, 0)) := Wr.cells (n := 1) (z := z) rfl rfl (by show 17 + 1 ≤ 20; omega) rfl
theorem fm_wr19 {z : Value} {b' : Bool} [InfoI P T 1 z] : Wr P T (.cells (fma u pv r b) E (0, 0)) 19 (.bool b') (.cells (fma u pv r b') E (0, 0)) := Wr.cells (n := 1) (z := z) rfl rfl (by show 19 + 1 ≤ 20; omega) rfl
end rd
/-- Parts that are laid one behind the other: the row, and where their bytes lie. -/
structure PS (ps : List PartV) (pv : Value) (segO gsD : Fs) : Prop where
  row : IsRow 61 6 pv ps.length (ps.flatMap psc) segO
  dat : DatAt gsD ps
  small : ∀ p ∈ ps, p.wd < M256
  ne : pv = .slice none 0 0 ∨ 0 < ps.length
theorem PS.word {ps : List PartV} {pv v' : Value} {segO gsD seg' : Fs} (h : PS ps pv segO gsD) {a : Nat} (ha : a < M256) (hrow : IsRow 61 6 v' (ps.length + 1) (ps.flatMap psc ++ psc (ofP a)) seg') : PS (ps ++ [ofP a]) v' seg' gsD where
  row := by rw [flat_snoc, List.length_append, List.length_singleton]; exact hrow
  dat := h.dat.app (hs := []) (qs := [ofP a]) (fun w' _ q hq => by
    obtain rfl : q = ofP a := by simpa using hq
    exact RowAt.nil)
  small := fun p hp => by
    rcases List.mem_append.1 hp with hp | hp
    · exact h.small p hp
    · obtain rfl : p = ofP a := by simpa using hp
      exact ha
  ne := .inr (by rw [List.length_append, List.length_singleton]; omega)
theorem calls_sub2 {P : Program} {f : FuncId} {args : Array Value} {w w0 : World} {S : List Nat} {K : Value → Fs → Prop} (h : Calls P f args w (fun x w' => ∃ v fs', x = .returned v ∧ (∃ fs2 fs3, List.Sublist fs2 fs' ∧ fs3.Perm fs2 ∧ K v fs3) ∧ St w0 S fs' w')) :
    Calls P f args w (fun x w' => ∃ v fs', x = .returned v ∧ K v fs' ∧ St w0 S fs' w') :=
  Calls.mono h fun x w' ⟨v, fs', hx, ⟨fs2, fs3, hf, hp, hK⟩, hs⟩ => ⟨v, fs3, hx, hK, St.perm ⟨hs.bel, fun p hp => hs.own p (hf.subset hp), hs.nd.sublist hf⟩ hp⟩
theorem perm1 {α : Type} {x : α} {s r : List α} : (x :: (s ++ r)).Perm (s ++ x :: r) := List.perm_middle.symm
theorem perm2 {α : Type} {x y : α} {m s r : List α} : (x :: (m ++ y :: (s ++ r))).Perm (s ++ x :: (m ++ y :: r)) :=
  ((perm1.append_left m).trans (List.perm_append_comm_assoc _ _ _)).cons x |>.trans perm1
theorem wordF_lay {w0 : World} {bF off a : Nat} {u : OpV} {ps : List PartV} {pv : Value} {segO gsD rest : Fs} (hP : PS ps pv segO gsD) (hn : ps.length ≤ 100) (ha : a < M256) (hrd : ∀ {pv E fr}, Rd Tryd.prog 27 (.cells (fma u pv false false) E fr) off (wv a)) (w : World)
    (hs : St w0 [] ((bF, .cells (fma u pv false false) 72 (0, 0)) :: (segO ++ (gsD ++ rest))) w) :
    Calls Tryd.prog 70 #[.pointer (some ⟨bF, 0, none⟩), .pointer (some ⟨bF, off, none⟩)] w (fun x w' => ∃ v fs', x = .returned v ∧ (v = .tuple #[] ∧ ∃ pv' segO', PS (ps ++ [ofP a]) pv' segO' gsD ∧ fs' = (bF, .cells (fma u pv' false false) 72 (0, 0)) :: (segO' ++ (gsD ++ rest))) ∧ St w0 [] fs' w') := by
  obtain ⟨pp, cp, rfl⟩ := hP.row.form
  refine calls_sub2 ?_
  refine calls_inline (args := [_, _]) Tryd.func70 rfl Tryd.ntmps70 rfl ?_ hs
  (refine CW.seq ?_; refine CW.seq ?_; refine CW.region ?_; apply LW.v0; rfl; rfl; apply ValP.move; rfl; apply LW.v0; rfl; rfl; apply ValP.nilCheck; rfl; apply LW.v0; rfl; rfl; apply ValP.fieldAddr; rfl; rfl; apply LW.load; rfl; rfl; apply Known.at; apply FsAt.head; exact fm_rd18; apply LW.nil; refine thenN ?_; apply CW.condF; rfl; (with_reducible rfl); refine CW.skip ?_; refine thenN ?_)
  apply CW.pre
  (refine AnyW.anyM [(10, fun v gs => IsRow 61 6 v (ps.length + 1) (ps.flatMap psc ++ psc (ofP a)) gs)] 11 mixed (by decide +kernel) ?_)
  ((try simp only [tsOf_cons, tsOf_nil, tsOf_app]); apply DW.v0; rfl; rfl; rfl; exact WantT.none; rfl; apply ValP.move; rfl; apply DW.v0; rfl; rfl; rfl; exact WantT.none; rfl; apply ValP.move; rfl; apply DW.v0; rfl; rfl; rfl; exact WantT.none; rfl; apply ValP.nilCheck; rfl; apply DW.v0; rfl; rfl; rfl; exact WantT.none; rfl; apply ValP.fieldAddr; rfl; rfl; apply DW.loadO; rfl; rfl; rfl; exact WantT.none; rfl; apply TRead.head; exact ancB_nil; exact fm_rd17; apply DW.v0; rfl; rfl; rfl; exact WantT.none; rfl; apply ValP.move; rfl; apply DW.v0; rfl; rfl; rfl; exact WantT.none; rfl; apply ValP.nilCheck; rfl; apply DW.loadO; rfl; rfl; rfl; exact WantT.none; rfl; apply TRead.head; exact ancB_nil; exact hrd; apply DW.callE; rfl; rfl; rfl; exact WantT.none; rfl; infer_instance; apply ArgsOk.cons; rfl; exact ArgsOk.nil; rfl; exact ReadAll.nil; intro w _ _; exact pOf_calls _ ha w; apply DW.layA; rfl; rfl; rfl; exact WantT.none; infer_instance; infer_instance; rfl; rfl; rfl; rfl; rfl; intro _)
  refine DW.appendV (news := psc (ofP a)) rfl rfl rfl (by (exact WantT.none)) rfl inferInstance inferInstance inferInstance rfl rfl rfl hP.row hP.ne (by (apply TOut.cons; apply TOut.cons; exact TOut.old)) (by (apply RdV.own; omega; apply TRead.head; kernel_rfl; exact RdV.nil)) (fun w' hbel hus => row_cells (hus _ (List.Mem.head _)) rfl rfl (by decide)) (by intro x hx; exact List.all_eq_true.1 (psc_one (p := ofP a) rfl) x hx) (by simp only [maxLen]; omega) (by omega) ?_
  intro v' seg' hrow'
  obtain ⟨p', c', rfl⟩ := hrow'.form
  ((try simp only [tsOf_cons, tsOf_nil, tsOf_app]); apply DW.nil; simp only [fsOf_cons, fsOf_nil, fsOf_app, fsOf_tsOf, fsOf_new, fsOf_tag])
  (apply LW.v0; rfl; rfl; apply ValP.nilCheck; rfl; apply LW.v0; rfl; rfl; apply ValP.fieldAddr; rfl; rfl; apply LW.store; rfl; rfl; apply SetAt.app; apply SetAt.tail; apply SetAt.head; exact fm_wr17; apply LW.nil)
  apply inI
  (exact .inr rfl)
  (exact Shut.nil)
  rfl
  (exact ResL.nil)
  rfl
  exact ⟨_, _, List.Sublist.append_left (List.Sublist.cons _ (List.Sublist.refl _)) _, perm1, rfl, _, _, hP.word ha hrow', rfl⟩
theorem wordL_lay {w0 : World} {bF bW a : Nat} {u : OpV} {ps : List PartV} {pv : Value} {segO gsD rest mid : Fs} (hP : PS ps pv segO gsD) (hn : ps.length ≤ 100) (ha : a < M256) (w : World)
    (hs : St w0 [] ((bW, .cells (wc a) 27 (0, 0)) :: (mid ++ ((bF, .cells (fma u pv false false) 72 (0, 0)) :: (segO ++ (gsD ++ rest))))) w) :
    Calls Tryd.prog 70 #[.pointer (some ⟨bF, 0, none⟩), .pointer (some ⟨bW, 0, none⟩)] w (fun x w' => ∃ v fs', x = .returned v ∧ (v = .tuple #[] ∧ ∃ pv' segO', PS (ps ++ [ofP a]) pv' segO' gsD ∧ fs' = (bW, .cells (wc a) 27 (0, 0)) :: (mid ++ ((bF, .cells (fma u pv' false false) 72 (0, 0)) :: (segO' ++ (gsD ++ rest))))) ∧ St w0 [] fs' w') := by
  obtain ⟨pp, cp, rfl⟩ := hP.row.form
  have hrd : True := trivial
  refine calls_sub2 ?_
  refine calls_inline (args := [_, _]) Tryd.func70 rfl Tryd.ntmps70 rfl ?_ hs
  (refine CW.seq ?_; refine CW.seq ?_; refine CW.region ?_; apply LW.v0; rfl; rfl; apply ValP.move; rfl; apply LW.v0; rfl; rfl; apply ValP.nilCheck; rfl; apply LW.v0; rfl; rfl; apply ValP.fieldAddr; rfl; rfl; apply LW.load; rfl; rfl; apply Known.at; apply FsAt.tail; apply FsAt.app; apply FsAt.head; exact fm_rd18; apply LW.nil; refine thenN ?_; apply CW.condF; rfl; (with_reducible rfl); refine CW.skip ?_; refine thenN ?_)
  apply CW.pre
  (refine AnyW.anyM [(10, fun v gs => IsRow 61 6 v (ps.length + 1) (ps.flatMap psc ++ psc (ofP a)) gs)] 11 mixed (by decide +kernel) ?_)
  ((try simp only [tsOf_cons, tsOf_nil, tsOf_app]); apply DW.v0; rfl; rfl; rfl; exact WantT.none; rfl; apply ValP.move; rfl; apply DW.v0; rfl; rfl; rfl; exact WantT.none; rfl; apply ValP.move; rfl; apply DW.v0; rfl; rfl; rfl; exact WantT.none; rfl; apply ValP.nilCheck; rfl; apply DW.v0; rfl; rfl; rfl; exact WantT.none; rfl; apply ValP.fieldAddr; rfl; rfl; apply DW.loadO; rfl; rfl; rfl; exact WantT.none; rfl; apply TRead.tail; apply TRead.app; apply TRead.head; exact ancB_nil; exact fm_rd17; apply DW.v0; rfl; rfl; rfl; exact WantT.none; rfl; apply ValP.move; rfl; apply DW.v0; rfl; rfl; rfl; exact WantT.none; rfl; apply ValP.nilCheck; rfl; apply DW.loadO; rfl; rfl; rfl; exact WantT.none; rfl; apply TRead.head; exact ancB_nil; exact Rd.whole rfl; apply DW.callE; rfl; rfl; rfl; exact WantT.none; rfl; infer_instance; apply ArgsOk.cons; rfl; exact ArgsOk.nil; rfl; exact ReadAll.nil; intro w _ _; exact pOf_calls _ ha w; apply DW.layA; rfl; rfl; rfl; exact WantT.none; infer_instance; infer_instance; rfl; rfl; rfl; rfl; rfl; intro _)
  refine DW.appendV (news := psc (ofP a)) rfl rfl rfl (by (exact WantT.none)) rfl inferInstance inferInstance inferInstance rfl rfl rfl hP.row hP.ne (by (apply TOut.cons; apply TOut.cons; apply TOut.app; apply TOut.cons; exact TOut.old)) (by (apply RdV.own; omega; apply TRead.head; kernel_rfl; exact RdV.nil)) (fun w' hbel hus => row_cells (hus _ (List.Mem.head _)) rfl rfl (by decide)) (by intro x hx; exact List.all_eq_true.1 (psc_one (p := ofP a) rfl) x hx) (by simp only [maxLen]; omega) (by omega) ?_
  intro v' seg' hrow'
  obtain ⟨p', c', rfl⟩ := hrow'.form
  ((try simp only [tsOf_cons, tsOf_nil, tsOf_app]); apply DW.nil; simp only [fsOf_cons, fsOf_nil, fsOf_app, fsOf_tsOf, fsOf_new, fsOf_tag])
  (apply LW.v0; rfl; rfl; apply ValP.nilCheck; rfl; apply LW.v0; rfl; rfl; apply ValP.fieldAddr; rfl; rfl; apply LW.store; rfl; rfl; apply SetAt.app; apply SetAt.tail; apply SetAt.tail; apply SetAt.app; apply SetAt.head; exact fm_wr17; apply LW.nil)
  apply inI
  (exact .inr rfl)
  (exact Shut.nil)
  rfl
  (exact ResL.nil)
  rfl
  exact ⟨_, _, List.Sublist.append_left (List.Sublist.cons _ (List.Sublist.refl _)) _, perm2, rfl, _, _, hP.word ha hrow', rfl⟩
/-! ### Bytes -/
theorem PS.data {ps : List PartV} {pv v' dv : Value} {segO gsD seg' gs : Fs} {l : List UInt8} (h : PS ps pv segO gsD) (hd : IsRow 5 1 dv l.length (ucs l) gs) (hrow : IsRow 61 6 v' (ps.length + 1) (ps.flatMap psc ++ psc (byP dv l)) seg') : PS (ps ++ [byP dv l]) v' seg' (gs ++ gsD) where
  row := by rw [flat_snoc, List.length_append, List.length_singleton]; exact hrow
  dat := h.dat.app (row_is hd rfl rfl rfl)
  small := fun p hp => by
    rcases List.mem_append.1 hp with hp | hp
    · exact h.small p hp
    · obtain rfl : p = byP dv l := by simpa using hp
      show 0 < M256
      decide
  ne := .inr (by rw [List.length_append, List.length_singleton]; omega)
def byM (l : List UInt8) (v : Value) (gs : Fs) : Prop := ∃ dv, v = .agg (psa (byP dv l)) ∧ IsRow 5 1 dv l.length (ucs l) gs
theorem perm3 {α : Type} {x : α} {s g r : List α} : (x :: (s ++ (g ++ r))).Perm (s ++ (g ++ x :: r)) := perm1.trans (perm1.append_left s)
theorem data_lay {w0 : World} {bF off : Nat} {u : OpV} {ps : List PartV} {pv dv : Value} {l : List UInt8} {segO gsD rest : Fs} (hP : PS ps pv segO gsD) (hn : ps.length ≤ 100) (hl : l.length ≤ 1000) (hd : RowAt w0 1 dv l.length (ucs l)) (hrd : ∀ {pv E fr}, Rd Tryd.prog 28 (.cells (fma u pv false false) E fr) off dv) (w : World)
    (hs : St w0 [] ((bF, .cells (fma u pv false false) 72 (0, 0)) :: (segO ++ (gsD ++ rest))) w) :
    Calls Tryd.prog 71 #[.pointer (some ⟨bF, 0, none⟩), .pointer (some ⟨bF, off, none⟩)] w (fun x w' => ∃ v fs', x = .returned v ∧ (v = .tuple #[] ∧ ∃ dv pv' segO' gsD', PS (ps ++ [byP dv l]) pv' segO' gsD' ∧ fs' = (bF, .cells (fma u pv' false false) 72 (0, 0)) :: (segO' ++ (gsD' ++ rest))) ∧ St w0 [] fs' w') := by
  obtain ⟨pp, cp, rfl⟩ := hP.row.form
  refine calls_sub2 ?_
  refine calls_inline (args := [_, _]) Tryd.func71 rfl Tryd.ntmps71 rfl ?_ hs
  have hl' : l.length ≤ 100000 := by omega
  (refine CW.seq ?_; refine CW.seq ?_; refine CW.region ?_; apply LW.v0; rfl; rfl; apply ValP.move; rfl; apply LW.v0; rfl; rfl; apply ValP.nilCheck; rfl; apply LW.v0; rfl; rfl; apply ValP.fieldAddr; rfl; rfl; apply LW.load; rfl; rfl; apply Known.at; apply FsAt.head; exact fm_rd18; apply LW.nil; refine thenN ?_; apply CW.condF; rfl; (with_reducible rfl); refine CW.skip ?_; refine thenN ?_)
  apply CW.pre
  (refine AnyW.anyS [(8, cst (byM l)), (10, apR 61 6 ps.length (ps.flatMap psc))] 11 mixed (by decide +kernel) ?_)
  ((try simp only [tsOf_cons, tsOf_nil, tsOf_app]); apply DW.v0; rfl; rfl; rfl; exact WantT.none; rfl; apply ValP.move; rfl; apply DW.v0; rfl; rfl; rfl; exact WantT.none; rfl; apply ValP.move; rfl; apply DW.v0; rfl; rfl; rfl; exact WantT.none; rfl; apply ValP.nilCheck; rfl; apply DW.v0; rfl; rfl; rfl; exact WantT.none; rfl; apply ValP.fieldAddr; rfl; rfl; apply DW.loadO; rfl; rfl; rfl; exact WantT.none; rfl; apply TRead.head; exact ancB_nil; exact fm_rd17; apply DW.v0; rfl; rfl; rfl; exact WantT.none; rfl; apply ValP.move; rfl; apply DW.v0; rfl; rfl; rfl; exact WantT.none; rfl; apply ValP.nilCheck; rfl; apply DW.loadO; rfl; rfl; rfl; exact WantT.none; rfl; apply TRead.head; exact ancB_nil; exact hrd)
  (apply DW.manyV; rfl; rfl; rfl; exact WantT.none; rfl; infer_instance; apply ArgsOk.cons; rfl; exact ArgsOk.nil; apply RdV.ext; assumption; rfl; exact RdV.nil; intro w _ _)
  exact pBytes_calls l dv w (hd.bel (by assumption)) hl'
  rintro v1 gs1 ⟨dv1, rfl, hrow1⟩
  have ho1 : dv1.oneCell' = true := by obtain ⟨a1, a2, a3⟩ := hrow1.form; rw [a3]; rfl
  ((try simp only [tsOf_cons, tsOf_nil, tsOf_app]); apply DW.layA; rfl; rfl; rfl; exact WantT.none; infer_instance; infer_instance; rfl; rfl; rfl; rfl; rfl; intro _)
  refine DW.appendY rfl rfl rfl (by (exact WantT.none)) rfl inferInstance inferInstance inferInstance rfl rfl rfl hP.row hP.ne (by (apply TOut.cons; apply TOut.app; apply TOut.cons; exact TOut.old)) (by (apply TRead.head; kernel_rfl)) rfl (fun x hx => List.all_eq_true.1 (psc_one (p := byP dv1 l) ho1) x hx) (by simp only [maxLen]; omega) (by omega) ?_
  intro v' seg' hrow'
  obtain ⟨p', c', rfl⟩ := hrow'.form
  ((try simp only [tsOf_cons, tsOf_nil, tsOf_app]); apply DW.nil; simp only [fsOf_cons, fsOf_nil, fsOf_app, fsOf_tsOf, fsOf_new, fsOf_tag])
  (apply LW.v0; rfl; rfl; apply ValP.nilCheck; rfl; apply LW.v0; rfl; rfl; apply ValP.fieldAddr; rfl; rfl; apply LW.store; rfl; rfl; apply SetAt.app; apply SetAt.tail; apply SetAt.app; apply SetAt.head; exact fm_wr17; apply LW.nil)
  apply inI
  (exact .inr rfl)
  (exact Shut.nil)
  rfl
  (exact ResL.nil)
  rfl
  exact ⟨_, _, List.Sublist.append_left (List.Sublist.cons _ (List.Sublist.refl _)) _, by rw [List.append_assoc]; exact perm3, rfl, dv1, _, seg', gs1 ++ gsD, hP.data hrow1 hrow', rfl⟩
/-! ### Numbers -/
theorem num_lt {n : Nat} (h : n < 18446744073709551616) : n < M256 := Nat.lt_of_lt_of_le h (by decide)
theorem numberF_lay {w0 : World} {bF off n : Nat} {u : OpV} {ps : List PartV} {pv : Value} {segO gsD rest : Fs} (hP : PS ps pv segO gsD) (hn : ps.length ≤ 100) (hlt : n < 18446744073709551616) (hrd : ∀ {pv E fr}, Rd Tryd.prog 23 (.cells (fma u pv false false) E fr) off (.int .u64 (n : Int)))
    (hwr : ∀ {pv}, Wr Tryd.prog 23 (.cells (fma u pv false false) 72 (0, 0)) off (.int .u64 (n : Int)) (.cells (fma u pv false false) 72 (0, 0))) (w : World)
    (hs : St w0 [] ((bF, .cells (fma u pv false false) 72 (0, 0)) :: (segO ++ (gsD ++ rest))) w) :
    Calls Tryd.prog 72 #[.pointer (some ⟨bF, 0, none⟩), .pointer (some ⟨bF, off, none⟩)] w (fun x w' => ∃ v fs', x = .returned v ∧ (v = .tuple #[] ∧ ∃ pv' segO', PS (ps ++ [ofP n]) pv' segO' gsD ∧ fs' = (bF, .cells (fma u pv' false false) 72 (0, 0)) :: (segO' ++ (gsD ++ rest))) ∧ St w0 [] fs' w') := by
  have hSm : ∀ w, Calls Tryd.prog 66 #[wv n] w (Ret w (.tuple #[.int .u64 (n : Int), .bool true])) := fun w => by
    have := Small_calls n (num_lt hlt) w
    rwa [if_pos hlt, decide_eq_true hlt] at this
  refine calls_sub ?_
  refine calls_inline (args := [_, _]) Tryd.func72 rfl Tryd.ntmps72 rfl ?_ hs
  (refine CW.seq ?_; refine CW.region ?_; apply LW.v0; rfl; rfl; apply ValP.move; rfl; apply LW.v0; rfl; rfl; apply ValP.nilCheck; rfl; apply LW.load; rfl; rfl; apply Known.at; apply FsAt.head; exact hrd; apply LW.callE; rfl; rfl; infer_instance; apply ArgsOk.cons; rfl; exact ArgsOk.nil; intro w _; exact Of_calls n hlt w; apply LW.allocW; rfl; intro _; apply LW.store; rfl; rfl; apply SetAt.head; apply Wr.whole; rfl; rfl; rfl; apply LW.nil; refine thenN ?_; refine CW.seq ?_; refine CW.region ?_; apply LW.v0; rfl; rfl; apply ValP.move; rfl)
  refine LW.callSt rfl rfl inferInstance (by (apply ArgsOk.cons; rfl; apply ArgsOk.cons; rfl; exact ArgsOk.nil)) (fun w hs => wordL_lay (mid := []) hP hn (num_lt hlt) w hs) ?_
  rintro v fs' ⟨rfl, pv', segO', hP', rfl⟩
  simp only [List.nil_append]
  (apply LW.nil; refine thenN ?_; refine CW.seq ?_; refine CW.region ?_; apply LW.load; rfl; rfl; apply Known.at; apply FsAt.head; exact Rd.whole rfl; apply LW.callE; rfl; rfl; infer_instance; apply ArgsOk.cons; rfl; exact ArgsOk.nil; intro w _; exact hSm w; apply LW.v0; rfl; rfl; apply ValP.move; rfl; apply LW.v0; rfl; rfl; apply ValP.extractN; rfl; rfl; apply LW.v0; rfl; rfl; apply ValP.extractN; rfl; rfl; apply LW.v0; rfl; rfl; apply ValP.assign; rfl; apply LW.v0; rfl; rfl; apply ValP.assign; rfl; apply LW.nil; refine thenN ?_; refine CW.region ?_; apply LW.v0; rfl; rfl; apply ValP.move; rfl; apply LW.v0; rfl; rfl; apply ValP.move; rfl; apply LW.v0; rfl; rfl; apply ValP.move; rfl; apply LW.v0; rfl; rfl; apply ValP.move; rfl; apply LW.v0; rfl; rfl; apply ValP.nilCheck; rfl; apply LW.v0; rfl; rfl; apply ValP.fieldAddr; rfl; rfl; apply LW.load; rfl; rfl; apply Known.at; apply FsAt.tail; apply FsAt.head; exact fm_rd19; apply LW.v0; rfl; rfl; apply ValP.move; rfl; apply LW.guardT'; rfl; rfl; (with_reducible rfl); apply LW.v0; rfl; rfl; apply ValP.move; rfl; apply LW.guardT'; rfl; rfl; (with_reducible rfl); apply LW.v0; rfl; rfl; apply ValP.notT; rfl; (with_reducible rfl); apply LW.v0; rfl; rfl; apply ValP.pickF'; rfl; (with_reducible rfl); rfl; apply LW.v0; rfl; rfl; apply ValP.nilCheck; rfl; apply LW.store; rfl; rfl; apply SetAt.tail; apply SetAt.head; exact hwr; apply LW.v0; rfl; rfl; apply ValP.nilCheck; rfl; apply LW.v0; rfl; rfl; apply ValP.fieldAddr; rfl; rfl; apply LW.store; rfl; rfl; apply SetAt.tail; apply SetAt.head; exact fm_wr19; apply LW.nil)
  apply inI
  (exact .inr rfl)
  (exact Shut.nil)
  rfl
  (exact ResL.nil)
  rfl
  exact ⟨_, List.Sublist.cons _ (List.Sublist.refl _), rfl, _, _, hP', rfl⟩
theorem numberL_lay {w0 : World} {bF bL n : Nat} {u : OpV} {ps : List PartV} {pv : Value} {segO gsD rest : Fs} (hP : PS ps pv segO gsD) (hn : ps.length ≤ 100) (hlt : n < 18446744073709551616) (w : World)
    (hs : St w0 [] ((bL, .cells #[.int .u64 (n : Int)] 23 (0, 0)) :: (bF, .cells (fma u pv false false) 72 (0, 0)) :: (segO ++ (gsD ++ rest))) w) :
    Calls Tryd.prog 72 #[.pointer (some ⟨bF, 0, none⟩), .pointer (some ⟨bL, 0, none⟩)] w (fun x w' => ∃ v fs', x = .returned v ∧ (v = .tuple #[] ∧ ∃ pv' segO', PS (ps ++ [ofP n]) pv' segO' gsD ∧ fs' = (bL, .cells #[.int .u64 (n : Int)] 23 (0, 0)) :: (bF, .cells (fma u pv' false false) 72 (0, 0)) :: (segO' ++ (gsD ++ rest))) ∧ St w0 [] fs' w') := by
  have hSm : ∀ w, Calls Tryd.prog 66 #[wv n] w (Ret w (.tuple #[.int .u64 (n : Int), .bool true])) := fun w => by
    have := Small_calls n (num_lt hlt) w
    rwa [if_pos hlt, decide_eq_true hlt] at this
  have hrd : True := trivial
  have hwr : True := trivial
  refine calls_sub ?_
  refine calls_inline (args := [_, _]) Tryd.func72 rfl Tryd.ntmps72 rfl ?_ hs
  (refine CW.seq ?_; refine CW.region ?_; apply LW.v0; rfl; rfl; apply ValP.move; rfl; apply LW.v0; rfl; rfl; apply ValP.nilCheck; rfl; apply LW.load; rfl; rfl; apply Known.at; apply FsAt.head; exact Rd.one' rfl; apply LW.callE; rfl; rfl; infer_instance; apply ArgsOk.cons; rfl; exact ArgsOk.nil; intro w _; exact Of_calls n hlt w; apply LW.allocW; rfl; intro _; apply LW.store; rfl; rfl; apply SetAt.head; apply Wr.whole; rfl; rfl; rfl; apply LW.nil; refine thenN ?_; refine CW.seq ?_; refine CW.region ?_; apply LW.v0; rfl; rfl; apply ValP.move; rfl)
  refine LW.callSt rfl rfl inferInstance (by (apply ArgsOk.cons; rfl; apply ArgsOk.cons; rfl; exact ArgsOk.nil)) (fun w hs => wordL_lay (mid := [(bL, .cells #[.int .u64 (n : Int)] 23 (0, 0))]) hP hn (num_lt hlt) w hs) ?_
  rintro v fs' ⟨rfl, pv', segO', hP', rfl⟩
  simp only [List.cons_append, List.nil_append]
  (apply LW.nil; refine thenN ?_; refine CW.seq ?_; refine CW.region ?_; apply LW.load; rfl; rfl; apply Known.at; apply FsAt.head; exact Rd.whole rfl; apply LW.callE; rfl; rfl; infer_instance; apply ArgsOk.cons; rfl; exact ArgsOk.nil; intro w _; exact hSm w; apply LW.v0; rfl; rfl; apply ValP.move; rfl; apply LW.v0; rfl; rfl; apply ValP.extractN; rfl; rfl; apply LW.v0; rfl; rfl; apply ValP.extractN; rfl; rfl; apply LW.v0; rfl; rfl; apply ValP.assign; rfl; apply LW.v0; rfl; rfl; apply ValP.assign; rfl; apply LW.nil; refine thenN ?_; refine CW.region ?_; apply LW.v0; rfl; rfl; apply ValP.move; rfl; apply LW.v0; rfl; rfl; apply ValP.move; rfl; apply LW.v0; rfl; rfl; apply ValP.move; rfl; apply LW.v0; rfl; rfl; apply ValP.move; rfl; apply LW.v0; rfl; rfl; apply ValP.nilCheck; rfl; apply LW.v0; rfl; rfl; apply ValP.fieldAddr; rfl; rfl; apply LW.load; rfl; rfl; apply Known.at; apply FsAt.tail; apply FsAt.tail; apply FsAt.head; exact fm_rd19; apply LW.v0; rfl; rfl; apply ValP.move; rfl; apply LW.guardT'; rfl; rfl; (with_reducible rfl); apply LW.v0; rfl; rfl; apply ValP.move; rfl; apply LW.guardT'; rfl; rfl; (with_reducible rfl); apply LW.v0; rfl; rfl; apply ValP.notT; rfl; (with_reducible rfl); apply LW.v0; rfl; rfl; apply ValP.pickF'; rfl; (with_reducible rfl); rfl; apply LW.v0; rfl; rfl; apply ValP.nilCheck; rfl; apply LW.store; rfl; rfl; apply SetAt.tail; apply SetAt.head; apply Wr.cells; rfl; rfl; simp only [List.size_toArray, List.length_cons, List.length_nil]; omega; simp only [fillC, wc, wrCells, Value.cells, List.toList_toArray, List.setIfInBounds_toArray, List.set_cons_succ, List.set_cons_zero, Nat.reduceAdd, Nat.reduceMul, Nat.zero_add, Nat.mul_one]; rfl; apply LW.v0; rfl; rfl; apply ValP.nilCheck; rfl; apply LW.v0; rfl; rfl; apply ValP.fieldAddr; rfl; rfl; apply LW.store; rfl; rfl; apply SetAt.tail; apply SetAt.tail; apply SetAt.head; exact fm_wr19; apply LW.nil)
  apply inI
  (exact .inr rfl)
  (exact Shut.nil)
  rfl
  (exact ResL.nil)
  rfl
  exact ⟨_, List.Sublist.cons _ (List.Sublist.refl _), rfl, _, _, hP', rfl⟩
theorem addr_lay {w0 : World} {bF off n : Nat} {u : OpV} {ps : List PartV} {pv : Value} {segO gsD rest : Fs} (hP : PS ps pv segO gsD) (hn : ps.length ≤ 100) (hlt : n < 18446744073709551616) (hrd : ∀ {pv E fr}, Rd Tryd.prog 25 (.cells (fma u pv false false) E fr) off (.int .u64 (n : Int)))
    (hwr : ∀ {pv}, Wr Tryd.prog 25 (.cells (fma u pv false false) 72 (0, 0)) off (.int .u64 (n : Int)) (.cells (fma u pv false false) 72 (0, 0))) (w : World)
    (hs : St w0 [] ((bF, .cells (fma u pv false false) 72 (0, 0)) :: (segO ++ (gsD ++ rest))) w) :
    Calls Tryd.prog 69 #[.pointer (some ⟨bF, 0, none⟩), .pointer (some ⟨bF, off, none⟩)] w (fun x w' => ∃ v fs', x = .returned v ∧ (v = .tuple #[] ∧ ∃ pv' segO', PS (ps ++ [ofP n]) pv' segO' gsD ∧ fs' = (bF, .cells (fma u pv' false false) 72 (0, 0)) :: (segO' ++ (gsD ++ rest))) ∧ St w0 [] fs' w') := by
  refine calls_sub ?_
  refine calls_inline (args := [_, _]) Tryd.func69 rfl Tryd.ntmps69 rfl ?_ hs
  (refine CW.seq ?_; refine CW.region ?_; apply LW.v0; rfl; rfl; apply ValP.move; rfl; apply LW.v0; rfl; rfl; apply ValP.nilCheck; rfl; apply LW.load; rfl; rfl; apply Known.at; apply FsAt.head; exact hrd; apply LW.alloc1; rfl; rfl; intro _; apply LW.store; rfl; rfl; apply SetAt.head; apply Wr.cells; rfl; rfl; simp only [List.size_toArray, List.length_cons, List.length_nil]; omega; simp only [fillC, wc, wrCells, Value.cells, List.toList_toArray, List.setIfInBounds_toArray, List.set_cons_succ, List.set_cons_zero, Nat.reduceAdd, Nat.reduceMul, Nat.zero_add, Nat.mul_one]; rfl; apply LW.nil; refine thenN ?_; refine CW.seq ?_; refine CW.region ?_; apply LW.v0; rfl; rfl; apply ValP.move; rfl)
  refine LW.callSt rfl rfl inferInstance (by (apply ArgsOk.cons; rfl; apply ArgsOk.cons; rfl; exact ArgsOk.nil)) (fun w hs => numberL_lay hP hn hlt w hs) ?_
  rintro v fs' ⟨rfl, pv', segO', hP', rfl⟩
  (apply LW.nil; refine thenN ?_; refine CW.region ?_; apply LW.v0; rfl; rfl; apply ValP.move; rfl; apply LW.load; rfl; rfl; apply Known.at; apply FsAt.head; exact Rd.one' rfl; apply LW.v0; rfl; rfl; apply ValP.nilCheck; rfl; apply LW.store; rfl; rfl; apply SetAt.tail; apply SetAt.head; exact hwr; apply LW.nil)
  apply inI
  (exact .inr rfl)
  (exact Shut.nil)
  rfl
  (exact ResL.nil)
  rfl
  exact ⟨_, List.Sublist.cons _ (List.Sublist.refl _), rfl, _, _, hP', rfl⟩
end Go.Proofs.YtobkhnmglbfheaaDoor

/-
  Operations of accounts laid: all fields, and their bytes.
  Conditions: none.
-/
namespace Go.Proofs.YtobkhnmglbfheaaDoor
open Go Go.RowKit SL
set_option maxRecDepth 8000
set_option maxHeartbeats 4000000
set_option linter.unusedSimpArgs false
set_option linter.unusedVariables false
attribute [local irreducible] SL.CW SL.LW SL.DW Calls SL.Ret SL.RetG SL.beginQ SL.roundQ SL.rangeQ SL.inQ SL.RW SL.AnyW SL.thenQ SL.thenC SL.thenW SL.blkQ SL.finQ SL.ValP SL.NewP SL.SetP SL.CallP SL.Rd SL.Wr SL.Known
/-- What has been laid behind ps. -/
def LayK (bF : Nat) (u : OpV) (ps : List PartV) (ds : List PD) (rest : Fs) (fs : Fs) : Prop := ∃ qs pv segO gsD, qs.map dat = ds ∧ PS (ps ++ qs) pv segO gsD ∧ fs = (bF, .cells (fma u pv false false) 72 (0, 0)) :: (segO ++ (gsD ++ rest))
theorem LayK.le {bF : Nat} {u : OpV} {ps : List PartV} {ds : List PD} {rest : Fs} {fs : Fs} {qs : List PartV} {pv : Value} {segO gsD : Fs} (h1 : qs.map dat = ds) (h2 : PS (ps ++ qs) pv segO gsD) (h3 : fs = (bF, .cells (fma u pv false false) 72 (0, 0)) :: (segO ++ (gsD ++ rest))) : LayK bF u ps ds rest fs := ⟨qs, pv, segO, gsD, h1, h2, h3⟩
def wdD (n : Nat) : PD := (false, n, [])
def byD (l : List UInt8) : PD := (true, 0, l)
/-- What a group of fields lays. -/
def Lays (f : FuncId) (k : OpV → List PD) : Prop := ∀ {w0 : World} {bF : Nat} {u : OpV} {ps : List PartV} {pv : Value} {segO gsD rest : Fs} (_ : OpAt w0 u) (_ : u.ib.length ≤ 1000 ∧ u.cb.length ≤ 1000 ∧ u.db.length ≤ 1000 ∧ u.gb.length ≤ 1000) (_ : PS ps pv segO gsD) (_ : ps.length ≤ 50) (w : World)
    (_ : St w0 [] ((bF, .cells (fma u pv false false) 72 (0, 0)) :: (segO ++ (gsD ++ rest))) w), Calls Tryd.prog f #[.pointer (some ⟨bF, 0, none⟩)] w (fun x w' => ∃ v fs', x = .returned v ∧ (v = .tuple #[] ∧ LayK bF u ps (k u) rest fs') ∧ St w0 [] fs' w')
theorem head_lay : Lays 47 fun u => [wdD u.sd, wdD u.no, byD u.ib, byD u.cb] := by
  intro w0 bF u ps pv segO gsD rest hu hl hP hn w hs
  refine calls_sub ?_
  refine calls_inline (args := [_]) Tryd.func47 rfl Tryd.ntmps47 rfl ?_ hs
  (refine CW.seq ?_; refine CW.region ?_; apply LW.v0; rfl; rfl; apply ValP.move; rfl; apply LW.v0; rfl; rfl; apply ValP.move; rfl; apply LW.v0; rfl; rfl; apply ValP.nilCheck; rfl; apply LW.v0; rfl; rfl; apply ValP.fieldAddr; rfl; rfl; apply LW.v0; rfl; rfl; apply ValP.fieldAddr; rfl; rfl)
  refine LW.callSt rfl rfl inferInstance (by (apply ArgsOk.cons; rfl; apply ArgsOk.cons; rfl; exact ArgsOk.nil)) (fun w hs => addr_lay (n := u.sd) hP (by omega) hu.num.sd (Rd.one rfl) (Wr.cells (n := 1) rfl rfl (by show _ + 1 ≤ 20; decide) rfl) w hs) ?_
  rintro v fs' ⟨rfl, pv1, segO1, hP1, rfl⟩
  (apply LW.nil; refine thenN ?_; refine CW.seq ?_; refine CW.region ?_; apply LW.v0; rfl; rfl; apply ValP.move; rfl; apply LW.v0; rfl; rfl; apply ValP.move; rfl; apply LW.v0; rfl; rfl; apply ValP.nilCheck; rfl; apply LW.v0; rfl; rfl; apply ValP.fieldAddr; rfl; rfl; apply LW.v0; rfl; rfl; apply ValP.fieldAddr; rfl; rfl)
  refine LW.callSt rfl rfl inferInstance (by (apply ArgsOk.cons; rfl; apply ArgsOk.cons; rfl; exact ArgsOk.nil)) (fun w hs => wordF_lay (a := u.no) hP1 (by simp only [List.length_append, List.length_singleton]; omega) hu.num.no fm_rd1 w hs) ?_
  rintro v fs' ⟨rfl, pv2, segO2, hP2, rfl⟩
  (apply LW.nil; refine thenN ?_; refine CW.seq ?_; refine CW.region ?_; apply LW.v0; rfl; rfl; apply ValP.move; rfl; apply LW.v0; rfl; rfl; apply ValP.move; rfl; apply LW.v0; rfl; rfl; apply ValP.nilCheck; rfl; apply LW.v0; rfl; rfl; apply ValP.fieldAddr; rfl; rfl; apply LW.v0; rfl; rfl; apply ValP.fieldAddr; rfl; rfl)
  refine LW.callSt rfl rfl inferInstance (by (apply ArgsOk.cons; rfl; apply ArgsOk.cons; rfl; exact ArgsOk.nil)) (fun w hs => data_lay (l := u.ib) (dv := u.iv) hP2 (by simp only [List.length_append, List.length_singleton]; omega) hl.1 hu.i (Rd.one rfl) w hs) ?_
  rintro v fs' ⟨rfl, d3, pv3, segO3, gsD3, hP3, rfl⟩
  (apply LW.nil; refine thenN ?_; refine CW.region ?_; apply LW.v0; rfl; rfl; apply ValP.move; rfl; apply LW.v0; rfl; rfl; apply ValP.move; rfl; apply LW.v0; rfl; rfl; apply ValP.nilCheck; rfl; apply LW.v0; rfl; rfl; apply ValP.fieldAddr; rfl; rfl; apply LW.v0; rfl; rfl; apply ValP.fieldAddr; rfl; rfl)
  refine LW.callSt rfl rfl inferInstance (by (apply ArgsOk.cons; rfl; apply ArgsOk.cons; rfl; exact ArgsOk.nil)) (fun w hs => data_lay (l := u.cb) (dv := u.cv) hP3 (by simp only [List.length_append, List.length_singleton]; omega) hl.2.1 hu.c (Rd.one rfl) w hs) ?_
  rintro v fs' ⟨rfl, d4, pv4, segO4, gsD4, hP4, rfl⟩
  (apply LW.nil)
  (apply inI; exact .inr rfl; exact Shut.nil; rfl; exact ResL.nil; rfl)
  simp only [List.append_assoc, List.cons_append, List.nil_append] at hP4
  exact ⟨_, List.Sublist.refl _, rfl, LayK.le rfl hP4 rfl⟩
theorem gas_lay : Lays 48 fun u => [wdD u.vg, wdD u.cg, wdD u.pg] := by
  intro w0 bF u ps pv segO gsD rest hu hl hP hn w hs
  refine calls_sub ?_
  refine calls_inline (args := [_]) Tryd.func48 rfl Tryd.ntmps48 rfl ?_ hs
  (refine CW.seq ?_; refine CW.region ?_; apply LW.v0; rfl; rfl; apply ValP.move; rfl; apply LW.v0; rfl; rfl; apply ValP.move; rfl; apply LW.v0; rfl; rfl; apply ValP.nilCheck; rfl; apply LW.v0; rfl; rfl; apply ValP.fieldAddr; rfl; rfl; apply LW.v0; rfl; rfl; apply ValP.fieldAddr; rfl; rfl)
  refine LW.callSt rfl rfl inferInstance (by (apply ArgsOk.cons; rfl; apply ArgsOk.cons; rfl; exact ArgsOk.nil)) (fun w hs => numberF_lay (n := u.vg) hP (by omega) hu.num.vg (Rd.one rfl) (Wr.cells (n := 1) rfl rfl (by show _ + 1 ≤ 20; decide) rfl) w hs) ?_
  rintro v fs' ⟨rfl, pv1, segO1, hP1, rfl⟩
  (apply LW.nil; refine thenN ?_; refine CW.seq ?_; refine CW.region ?_; apply LW.v0; rfl; rfl; apply ValP.move; rfl; apply LW.v0; rfl; rfl; apply ValP.move; rfl; apply LW.v0; rfl; rfl; apply ValP.nilCheck; rfl; apply LW.v0; rfl; rfl; apply ValP.fieldAddr; rfl; rfl; apply LW.v0; rfl; rfl; apply ValP.fieldAddr; rfl; rfl)
  refine LW.callSt rfl rfl inferInstance (by (apply ArgsOk.cons; rfl; apply ArgsOk.cons; rfl; exact ArgsOk.nil)) (fun w hs => numberF_lay (n := u.cg) hP1 (by simp only [List.length_append, List.length_singleton]; omega) hu.num.cg (Rd.one rfl) (Wr.cells (n := 1) rfl rfl (by show _ + 1 ≤ 20; decide) rfl) w hs) ?_
  rintro v fs' ⟨rfl, pv2, segO2, hP2, rfl⟩
  (apply LW.nil; refine thenN ?_; refine CW.region ?_; apply LW.v0; rfl; rfl; apply ValP.move; rfl; apply LW.v0; rfl; rfl; apply ValP.move; rfl; apply LW.v0; rfl; rfl; apply ValP.nilCheck; rfl; apply LW.v0; rfl; rfl; apply ValP.fieldAddr; rfl; rfl; apply LW.v0; rfl; rfl; apply ValP.fieldAddr; rfl; rfl)
  refine LW.callSt rfl rfl inferInstance (by (apply ArgsOk.cons; rfl; apply ArgsOk.cons; rfl; exact ArgsOk.nil)) (fun w hs => numberF_lay (n := u.pg) hP2 (by simp only [List.length_append, List.length_singleton]; omega) hu.num.pg (Rd.one rfl) (Wr.cells (n := 1) rfl rfl (by show _ + 1 ≤ 20; decide) rfl) w hs) ?_
  rintro v fs' ⟨rfl, pv3, segO3, hP3, rfl⟩
  (apply LW.nil)
  (apply inI; exact .inr rfl; exact Shut.nil; rfl; exact ResL.nil; rfl)
  simp only [List.append_assoc, List.cons_append, List.nil_append] at hP3
  exact ⟨_, List.Sublist.refl _, rfl, LayK.le rfl hP3 rfl⟩
theorem fees_lay : Lays 49 fun u => [wdD u.mf, wdD u.mp] := by
  intro w0 bF u ps pv segO gsD rest hu hl hP hn w hs
  refine calls_sub ?_
  refine calls_inline (args := [_]) Tryd.func49 rfl Tryd.ntmps49 rfl ?_ hs
  (refine CW.seq ?_; refine CW.region ?_; apply LW.v0; rfl; rfl; apply ValP.move; rfl; apply LW.v0; rfl; rfl; apply ValP.move; rfl; apply LW.v0; rfl; rfl; apply ValP.nilCheck; rfl; apply LW.v0; rfl; rfl; apply ValP.fieldAddr; rfl; rfl; apply LW.v0; rfl; rfl; apply ValP.fieldAddr; rfl; rfl)
  refine LW.callSt rfl rfl inferInstance (by (apply ArgsOk.cons; rfl; apply ArgsOk.cons; rfl; exact ArgsOk.nil)) (fun w hs => numberF_lay (n := u.mf) hP (by omega) hu.num.mf (Rd.one rfl) (Wr.cells (n := 1) rfl rfl (by show _ + 1 ≤ 20; decide) rfl) w hs) ?_
  rintro v fs' ⟨rfl, pv1, segO1, hP1, rfl⟩
  (apply LW.nil; refine thenN ?_; refine CW.region ?_; apply LW.v0; rfl; rfl; apply ValP.move; rfl; apply LW.v0; rfl; rfl; apply ValP.move; rfl; apply LW.v0; rfl; rfl; apply ValP.nilCheck; rfl; apply LW.v0; rfl; rfl; apply ValP.fieldAddr; rfl; rfl; apply LW.v0; rfl; rfl; apply ValP.fieldAddr; rfl; rfl)
  refine LW.callSt rfl rfl inferInstance (by (apply ArgsOk.cons; rfl; apply ArgsOk.cons; rfl; exact ArgsOk.nil)) (fun w hs => numberF_lay (n := u.mp) hP1 (by simp only [List.length_append, List.length_singleton]; omega) hu.num.mp (Rd.one rfl) (Wr.cells (n := 1) rfl rfl (by show _ + 1 ≤ 20; decide) rfl) w hs) ?_
  rintro v fs' ⟨rfl, pv2, segO2, hP2, rfl⟩
  (apply LW.nil)
  (apply inI; exact .inr rfl; exact Shut.nil; rfl; exact ResL.nil; rfl)
  simp only [List.append_assoc, List.cons_append, List.nil_append] at hP2
  exact ⟨_, List.Sublist.refl _, rfl, LayK.le rfl hP2 rfl⟩
theorem payer_lay : Lays 50 fun u => [wdD u.py, wdD u.pv, wdD u.pp] := by
  intro w0 bF u ps pv segO gsD rest hu hl hP hn w hs
  refine calls_sub ?_
  refine calls_inline (args := [_]) Tryd.func50 rfl Tryd.ntmps50 rfl ?_ hs
  (refine CW.seq ?_; refine CW.region ?_; apply LW.v0; rfl; rfl; apply ValP.move; rfl; apply LW.v0; rfl; rfl; apply ValP.move; rfl; apply LW.v0; rfl; rfl; apply ValP.nilCheck; rfl; apply LW.v0; rfl; rfl; apply ValP.fieldAddr; rfl; rfl; apply LW.v0; rfl; rfl; apply ValP.fieldAddr; rfl; rfl)
  refine LW.callSt rfl rfl inferInstance (by (apply ArgsOk.cons; rfl; apply ArgsOk.cons; rfl; exact ArgsOk.nil)) (fun w hs => addr_lay (n := u.py) hP (by omega) hu.num.py (Rd.one rfl) (Wr.cells (n := 1) rfl rfl (by show _ + 1 ≤ 20; decide) rfl) w hs) ?_
  rintro v fs' ⟨rfl, pv1, segO1, hP1, rfl⟩
  (apply LW.nil; refine thenN ?_; refine CW.seq ?_; refine CW.region ?_; apply LW.v0; rfl; rfl; apply ValP.move; rfl; apply LW.v0; rfl; rfl; apply ValP.move; rfl; apply LW.v0; rfl; rfl; apply ValP.nilCheck; rfl; apply LW.v0; rfl; rfl; apply ValP.fieldAddr; rfl; rfl; apply LW.v0; rfl; rfl; apply ValP.fieldAddr; rfl; rfl)
  refine LW.callSt rfl rfl inferInstance (by (apply ArgsOk.cons; rfl; apply ArgsOk.cons; rfl; exact ArgsOk.nil)) (fun w hs => numberF_lay (n := u.pv) hP1 (by simp only [List.length_append, List.length_singleton]; omega) hu.num.pv (Rd.one rfl) (Wr.cells (n := 1) rfl rfl (by show _ + 1 ≤ 20; decide) rfl) w hs) ?_
  rintro v fs' ⟨rfl, pv2, segO2, hP2, rfl⟩
  (apply LW.nil; refine thenN ?_; refine CW.region ?_; apply LW.v0; rfl; rfl; apply ValP.move; rfl; apply LW.v0; rfl; rfl; apply ValP.move; rfl; apply LW.v0; rfl; rfl; apply ValP.nilCheck; rfl; apply LW.v0; rfl; rfl; apply ValP.fieldAddr; rfl; rfl; apply LW.v0; rfl; rfl; apply ValP.fieldAddr; rfl; rfl)
  refine LW.callSt rfl rfl inferInstance (by (apply ArgsOk.cons; rfl; apply ArgsOk.cons; rfl; exact ArgsOk.nil)) (fun w hs => numberF_lay (n := u.pp) hP2 (by simp only [List.length_append, List.length_singleton]; omega) hu.num.pp (Rd.one rfl) (Wr.cells (n := 1) rfl rfl (by show _ + 1 ≤ 20; decide) rfl) w hs) ?_
  rintro v fs' ⟨rfl, pv3, segO3, hP3, rfl⟩
  (apply LW.nil)
  (apply inI; exact .inr rfl; exact Shut.nil; rfl; exact ResL.nil; rfl)
  simp only [List.append_assoc, List.cons_append, List.nil_append] at hP3
  exact ⟨_, List.Sublist.refl _, rfl, LayK.le rfl hP3 rfl⟩
theorem tail_lay : Lays 51 fun u => [byD u.db, byD u.gb] := by
  intro w0 bF u ps pv segO gsD rest hu hl hP hn w hs
  refine calls_sub ?_
  refine calls_inline (args := [_]) Tryd.func51 rfl Tryd.ntmps51 rfl ?_ hs
  (refine CW.seq ?_; refine CW.region ?_; apply LW.v0; rfl; rfl; apply ValP.move; rfl; apply LW.v0; rfl; rfl; apply ValP.move; rfl; apply LW.v0; rfl; rfl; apply ValP.nilCheck; rfl; apply LW.v0; rfl; rfl; apply ValP.fieldAddr; rfl; rfl; apply LW.v0; rfl; rfl; apply ValP.fieldAddr; rfl; rfl)
  refine LW.callSt rfl rfl inferInstance (by (apply ArgsOk.cons; rfl; apply ArgsOk.cons; rfl; exact ArgsOk.nil)) (fun w hs => data_lay (l := u.db) (dv := u.dv) hP (by omega) hl.2.2.1 hu.d (Rd.one rfl) w hs) ?_
  rintro v fs' ⟨rfl, d3, pv3, segO3, gsD3, hP3, rfl⟩
  (apply LW.nil; refine thenN ?_; refine CW.region ?_; apply LW.v0; rfl; rfl; apply ValP.move; rfl; apply LW.v0; rfl; rfl; apply ValP.move; rfl; apply LW.v0; rfl; rfl; apply ValP.nilCheck; rfl; apply LW.v0; rfl; rfl; apply ValP.fieldAddr; rfl; rfl; apply LW.v0; rfl; rfl; apply ValP.fieldAddr; rfl; rfl)
  refine LW.callSt rfl rfl inferInstance (by (apply ArgsOk.cons; rfl; apply ArgsOk.cons; rfl; exact ArgsOk.nil)) (fun w hs => data_lay (l := u.gb) (dv := u.gv) hP3 (by simp only [List.length_append, List.length_singleton]; omega) hl.2.2.2 hu.g (Rd.one rfl) w hs) ?_
  rintro v fs' ⟨rfl, d4, pv4, segO4, gsD4, hP4, rfl⟩
  (apply LW.nil)
  (apply inI; exact .inr rfl; exact Shut.nil; rfl; exact ResL.nil; rfl)
  simp only [List.append_assoc, List.cons_append, List.nil_append] at hP4
  exact ⟨_, List.Sublist.refl _, rfl, LayK.le rfl hP4 rfl⟩
end Go.Proofs.YtobkhnmglbfheaaDoor

/-
  Operations of accounts laid: their bytes.
  Conditions: none.
-/
namespace Go.Proofs.YtobkhnmglbfheaaDoor
open Go Go.RowKit SL
set_option maxRecDepth 8000
set_option maxHeartbeats 4000000
set_option linter.unusedSimpArgs false
set_option linter.unusedVariables false
attribute [local irreducible] SL.CW SL.LW SL.DW Calls SL.Ret SL.RetG SL.beginQ SL.roundQ SL.rangeQ SL.inQ SL.RW SL.AnyW SL.thenQ SL.thenC SL.thenW SL.blkQ SL.finQ SL.ValP SL.NewP SL.SetP SL.CallP SL.Rd SL.Wr SL.Known
/-- What an operation lays. -/
def opD (u : OpV) : List PD := [wdD u.sd, wdD u.no, byD u.ib, byD u.cb, wdD u.vg, wdD u.cg, wdD u.pg, wdD u.mf, wdD u.mp, wdD u.py, wdD u.pv, wdD u.pp, byD u.db, byD u.gb]
theorem goes_lay {w0 : World} {bF : Nat} {u : OpV} {rest : Fs} (hu : OpAt w0 u) (hl : u.ib.length ≤ 1000 ∧ u.cb.length ≤ 1000 ∧ u.db.length ≤ 1000 ∧ u.gb.length ≤ 1000) (w : World)
    (hs : St w0 [] ((bF, .cells (fma u (.slice none 0 0) false false) 72 (0, 0)) :: rest) w) :
    Calls Tryd.prog 34 #[.pointer (some ⟨bF, 0, none⟩)] w (fun x w' => ∃ v fs', x = .returned v ∧ (v = .tuple #[] ∧ LayK bF u [] (opD u) rest fs') ∧ St w0 [] fs' w') := by
  refine calls_sub ?_
  refine calls_inline (args := [_]) Tryd.func34 rfl Tryd.ntmps34 rfl ?_ hs
  have hP : PS [] (.slice none 0 0) [] [] := ⟨.nil, DatAt.nil, (fun _ h => by cases h), .inl rfl⟩
  (refine CW.seq ?_; refine CW.region ?_; apply LW.v0; rfl; rfl; apply ValP.move; rfl; apply LW.v0; rfl; rfl; apply ValP.makeFunc; apply ArgsOk.cons; rfl; exact ArgsOk.nil; exact ArgsOk.nil; apply LW.v0; rfl; rfl; apply ValP.move; rfl; apply LW.v0; rfl; rfl; apply ValP.makeFunc; apply ArgsOk.cons; rfl; exact ArgsOk.nil; exact ArgsOk.nil; apply LW.v0; rfl; rfl; apply ValP.move; rfl; apply LW.v0; rfl; rfl; apply ValP.makeFunc; apply ArgsOk.cons; rfl; exact ArgsOk.nil; exact ArgsOk.nil; apply LW.v0; rfl; rfl; apply ValP.move; rfl; apply LW.v0; rfl; rfl; apply ValP.makeFunc; apply ArgsOk.cons; rfl; exact ArgsOk.nil; exact ArgsOk.nil; apply LW.v0; rfl; rfl; apply ValP.move; rfl; apply LW.v0; rfl; rfl; apply ValP.makeFunc; apply ArgsOk.cons; rfl; exact ArgsOk.nil; exact ArgsOk.nil; apply LW.v0; rfl; rfl; apply ValP.buildA; apply PartsOk.cons; rfl; apply PartsOk.cons; rfl; apply PartsOk.cons; rfl; apply PartsOk.cons; rfl; apply PartsOk.cons; rfl; exact PartsOk.nil; rfl; simp only [fillC, wc, wrCells, Value.cells, List.toList_toArray, List.setIfInBounds_toArray, List.set_cons_succ, List.set_cons_zero, Nat.reduceAdd, Nat.reduceMul, Nat.zero_add, Nat.mul_one]; rfl; apply LW.v0; rfl; rfl; apply ValP.move; rfl; apply LW.nil; refine thenN ?_; refine CW.block ?_)
  refine CW.rounds 6 ?_
  apply RW.step
  (refine CW.seq ?_; refine CW.region ?_; apply LW.v0; rfl; rfl; apply ValP.lssT; rfl; rfl; omega; apply LW.nil; refine thenN ?_; refine CW.seq ?_; apply CW.condT; rfl; (with_reducible rfl); refine CW.skip ?_; refine thenN ?_; refine CW.seq ?_; refine CW.block ?_; refine CW.seq ?_; refine CW.region ?_; apply LW.v0; rfl; rfl; apply ValP.indexAL; rfl; rfl; rfl; rfl; rfl; apply LW.v0; rfl; rfl; apply ValP.assign; rfl; apply LW.nil; refine thenN ?_; refine CW.region ?_; apply LW.v0; rfl; rfl; apply ValP.move; rfl)
  refine LW.callStF (aas := [_]) rfl rfl inferInstance .nil rfl (fun w hs => head_lay hu hl hP (by simp only [List.length_append, List.length_nil]; omega) w hs) ?_
  rintro v fs' ⟨rfl, qs1, pv1, segO1, gsD1, hq1, hP1, rfl⟩
  have hl1 : qs1.length = 4 := by have := congrArg List.length hq1; simpa using this
  (apply LW.nil; refine blkN ?_; refine thenN ?_; refine CW.region ?_; apply LW.v0; rfl; rfl; apply ValP.addI; rfl; rfl; omega; omega; apply LW.v0; rfl; rfl; apply ValP.move; rfl; apply LW.nil; refine thenL ?_)
  apply RW.step
  (refine CW.seq ?_; refine CW.region ?_; apply LW.v0; rfl; rfl; apply ValP.lssT; rfl; rfl; omega; apply LW.nil; refine thenN ?_; refine CW.seq ?_; apply CW.condT; rfl; (with_reducible rfl); refine CW.skip ?_; refine thenN ?_; refine CW.seq ?_; refine CW.block ?_; refine CW.seq ?_; refine CW.region ?_; apply LW.v0; rfl; rfl; apply ValP.indexAL; rfl; rfl; rfl; rfl; rfl; apply LW.v0; rfl; rfl; apply ValP.assign; rfl; apply LW.nil; refine thenN ?_; refine CW.region ?_; apply LW.v0; rfl; rfl; apply ValP.move; rfl)
  refine LW.callStF (aas := [_]) rfl rfl inferInstance .nil rfl (fun w hs => gas_lay hu hl hP1 (by simp only [List.length_append, List.length_nil, hl1]; omega) w hs) ?_
  rintro v fs' ⟨rfl, qs2, pv2, segO2, gsD2, hq2, hP2, rfl⟩
  have hl2 : qs2.length = 3 := by have := congrArg List.length hq2; simpa using this
  (apply LW.nil; refine blkN ?_; refine thenN ?_; refine CW.region ?_; apply LW.v0; rfl; rfl; apply ValP.addI; rfl; rfl; omega; omega; apply LW.v0; rfl; rfl; apply ValP.move; rfl; apply LW.nil; refine thenL ?_)
  apply RW.step
  (refine CW.seq ?_; refine CW.region ?_; apply LW.v0; rfl; rfl; apply ValP.lssT; rfl; rfl; omega; apply LW.nil; refine thenN ?_; refine CW.seq ?_; apply CW.condT; rfl; (with_reducible rfl); refine CW.skip ?_; refine thenN ?_; refine CW.seq ?_; refine CW.block ?_; refine CW.seq ?_; refine CW.region ?_; apply LW.v0; rfl; rfl; apply ValP.indexAL; rfl; rfl; rfl; rfl; rfl; apply LW.v0; rfl; rfl; apply ValP.assign; rfl; apply LW.nil; refine thenN ?_; refine CW.region ?_; apply LW.v0; rfl; rfl; apply ValP.move; rfl)
  refine LW.callStF (aas := [_]) rfl rfl inferInstance .nil rfl (fun w hs => fees_lay hu hl hP2 (by simp only [List.length_append, List.length_nil, hl1, hl2]; omega) w hs) ?_
  rintro v fs' ⟨rfl, qs3, pv3, segO3, gsD3, hq3, hP3, rfl⟩
  have hl3 : qs3.length = 2 := by have := congrArg List.length hq3; simpa using this
  (apply LW.nil; refine blkN ?_; refine thenN ?_; refine CW.region ?_; apply LW.v0; rfl; rfl; apply ValP.addI; rfl; rfl; omega; omega; apply LW.v0; rfl; rfl; apply ValP.move; rfl; apply LW.nil; refine thenL ?_)
  apply RW.step
  (refine CW.seq ?_; refine CW.region ?_; apply LW.v0; rfl; rfl; apply ValP.lssT; rfl; rfl; omega; apply LW.nil; refine thenN ?_; refine CW.seq ?_; apply CW.condT; rfl; (with_reducible rfl); refine CW.skip ?_; refine thenN ?_; refine CW.seq ?_; refine CW.block ?_; refine CW.seq ?_; refine CW.region ?_; apply LW.v0; rfl; rfl; apply ValP.indexAL; rfl; rfl; rfl; rfl; rfl; apply LW.v0; rfl; rfl; apply ValP.assign; rfl; apply LW.nil; refine thenN ?_; refine CW.region ?_; apply LW.v0; rfl; rfl; apply ValP.move; rfl)
  refine LW.callStF (aas := [_]) rfl rfl inferInstance .nil rfl (fun w hs => payer_lay hu hl hP3 (by simp only [List.length_append, List.length_nil, hl1, hl2, hl3]; omega) w hs) ?_
  rintro v fs' ⟨rfl, qs4, pv4, segO4, gsD4, hq4, hP4, rfl⟩
  have hl4 : qs4.length = 3 := by have := congrArg List.length hq4; simpa using this
  (apply LW.nil; refine blkN ?_; refine thenN ?_; refine CW.region ?_; apply LW.v0; rfl; rfl; apply ValP.addI; rfl; rfl; omega; omega; apply LW.v0; rfl; rfl; apply ValP.move; rfl; apply LW.nil; refine thenL ?_)
  apply RW.step
  (refine CW.seq ?_; refine CW.region ?_; apply LW.v0; rfl; rfl; apply ValP.lssT; rfl; rfl; omega; apply LW.nil; refine thenN ?_; refine CW.seq ?_; apply CW.condT; rfl; (with_reducible rfl); refine CW.skip ?_; refine thenN ?_; refine CW.seq ?_; refine CW.block ?_; refine CW.seq ?_; refine CW.region ?_; apply LW.v0; rfl; rfl; apply ValP.indexAL; rfl; rfl; rfl; rfl; rfl; apply LW.v0; rfl; rfl; apply ValP.assign; rfl; apply LW.nil; refine thenN ?_; refine CW.region ?_; apply LW.v0; rfl; rfl; apply ValP.move; rfl)
  refine LW.callStF (aas := [_]) rfl rfl inferInstance .nil rfl (fun w hs => tail_lay hu hl hP4 (by simp only [List.length_append, List.length_nil, hl1, hl2, hl3, hl4]; omega) w hs) ?_
  rintro v fs' ⟨rfl, qs5, pv5, segO5, gsD5, hq5, hP5, rfl⟩
  have hl5 : qs5.length = 2 := by have := congrArg List.length hq5; simpa using this
  (apply LW.nil; refine blkN ?_; refine thenN ?_; refine CW.region ?_; apply LW.v0; rfl; rfl; apply ValP.addI; rfl; rfl; omega; omega; apply LW.v0; rfl; rfl; apply ValP.move; rfl; apply LW.nil; refine thenL ?_)
  apply RW.step
  (refine CW.seq ?_; refine CW.region ?_; apply LW.v0; rfl; rfl; apply ValP.lssF; rfl; rfl; omega; apply LW.nil; refine thenN ?_; refine CW.seq ?_; apply CW.condF; rfl; (with_reducible rfl); refine CW.exit ?_; refine thenE ?_; refine thenE ?_; refine blkE rfl ?_)
  (apply inI; exact .inr rfl; exact Shut.nil; rfl; exact ResL.nil; rfl)
  simp only [List.append_assoc, List.nil_append] at hP5
  exact ⟨_, List.Sublist.refl _, rfl, LayK.le (qs := qs1 ++ (qs2 ++ (qs3 ++ (qs4 ++ qs5)))) (by simp only [List.map_append, hq1, hq2, hq3, hq4, hq5]; rfl) hP5 rfl⟩
end Go.Proofs.YtobkhnmglbfheaaDoor

/-
  Operations of accounts: their bytes, and the form of their parts.
  Conditions: none.
-/
namespace Go.Proofs.YtobkhnmglbfheaaDoor
open Go Go.RowKit SL
set_option maxRecDepth 8000
set_option maxHeartbeats 4000000
set_option linter.unusedSimpArgs false
set_option linter.unusedVariables false
attribute [local irreducible] SL.CW SL.LW SL.DW Calls SL.Ret SL.RetG SL.beginQ SL.roundQ SL.rangeQ SL.inQ SL.RW SL.AnyW SL.thenQ SL.thenC SL.thenW SL.blkQ SL.finQ SL.ValP SL.NewP SL.SetP SL.CallP SL.Rd SL.Wr SL.Known
/-- The parts of an operation. -/
def opL (u : OpV) : List PartV := (opD u).map toP
theorem opL_dat (u : OpV) : (opL u).map dat = opD u := by
  rw [opL, List.map_map]
  exact (List.map_congr_left (fun d _ => dat_toP d)).trans (List.map_id _)
theorem opL_len (u : OpV) : (opL u).length = 14 := rfl
theorem right_wd (n : Nat) : rightP (toP (wdD n)) = true := rfl
theorem right_by {l : List UInt8} (h : l.length ≤ 200) : rightP (toP (byD l)) = true := by
  rw [rightP_long rfl]
  show (decide ((0 : Nat) = 0) && decide (l.length ≤ 200)) = true
  rw [decide_eq_true h]; rfl
theorem opL_chk {u : OpV} (h : okU u) : chkP (opL u) = 0 := by
  unfold okU at h
  obtain ⟨-, -, ⟨h1, h2, h3, h4⟩, -⟩ := h
  have h1 : okP (opL u) = true := by
    simp only [okP, opL, opD, List.map_cons, List.map_nil, List.all_cons, List.all_nil, right_wd, right_by h1, right_by h2, right_by h3, right_by h4, Bool.and_self]
  rw [chkP, opL_len, if_neg (by decide), h1]; rfl
theorem PS.at {ps : List PartV} {pv : Value} {segO gsD : Fs} (h : PS ps pv segO gsD) {w : World} (h1 : ∀ q ∈ segO, w.heap[q.1]? = some q.2) (h2 : ∀ q ∈ gsD, w.heap[q.1]? = some q.2) : PartsAt w pv ps :=
  ⟨h.row.us h1 (List.Sublist.refl _), h.small, h.dat w h2⟩
def encB (u : OpV) : List UInt8 := layF (opL u)
theorem encode_calls (u : OpV) (w : World) (hu : OpAt w u) (ho : okU u) : Calls Tryd.prog 24 #[.agg (opa u)] w (RetG w [] fun v gs => ∃ bv, v = .tuple #[bv, .int .i64 0] ∧ IsRow 5 1 bv (encB u).length (ucs (encB u)) gs) := by
  have hl : u.ib.length ≤ 1000 ∧ u.cb.length ≤ 1000 ∧ u.db.length ≤ 1000 ∧ u.gb.length ≤ 1000 := by unfold okU at ho; omega
  refine enter (args := [_]) _ [] [] Tryd.func24 rfl Tryd.ntmps24 rfl (by simp) .nil ?_
  (refine CW.seq ?_; refine CW.region ?_; apply LW.boxA; rfl; rfl; intro _; apply LW.v0; rfl; rfl; apply ValP.assign; rfl; apply LW.v0; rfl; rfl; apply ValP.assign; rfl; apply LW.nil; refine thenN ?_; refine CW.seq ?_; refine CW.region ?_; apply LW.load; rfl; rfl; apply Known.at; apply FsAt.head; exact op_rdW; apply LW.v0; rfl; rfl; apply ValP.buildT; infer_instance; infer_instance; apply PartsOk.cons; rfl; exact PartsOk.nil; rfl; simp only [opa, opc, wc, fillP, wrCells, Value.cells, List.getElem?_cons_zero, List.getElem?_cons_succ, List.toList_toArray, List.setIfInBounds_toArray, List.set_cons_succ, List.set_cons_zero, Nat.reduceAdd, Nat.zero_add, List.cons_append, List.nil_append]; rfl; apply LW.boxA; rfl; rfl; intro _; apply LW.v0; rfl; rfl; apply ValP.assign; rfl; apply LW.nil; refine thenN ?_; refine CW.seq ?_; refine CW.region ?_; apply LW.v0; rfl; rfl; apply ValP.move; rfl)
  rename_i b1 bF
  refine LW.callSt rfl rfl inferInstance (by (apply ArgsOk.cons; rfl; exact ArgsOk.nil)) (fun w hs => goes_lay hu hl w hs) ?_
  rintro v fs' ⟨rfl, qs, pv, segO, gsD, hq, hP, rfl⟩
  rw [List.nil_append] at hP
  have hdat : qs.map dat = (opL u).map dat := hq.trans (opL_dat u).symm
  (apply LW.nil; refine thenN ?_; refine CW.seq ?_; refine CW.region ?_; apply LW.v0; rfl; rfl; apply ValP.move; rfl; apply LW.v0; rfl; rfl; apply ValP.nilCheck; rfl; apply LW.v0; rfl; rfl; apply ValP.fieldAddr; rfl; rfl; apply LW.load; rfl; rfl; apply Known.at; apply FsAt.head; exact fm_rd17)
  refine LW.callR rfl rfl inferInstance (by (apply ArgsOk.cons; rfl; exact ArgsOk.nil)) (fun w hst => Lay_calls qs pv w (hP.at (fun q hq => (hst.own q (by simp [hq])).2) (fun q hq => (hst.own q (by simp [hq])).2))) ?_
  rintro v5 gs5 ⟨bv, rfl, hrow⟩
  rw [chk_dat hdat, opL_chk ho, if_pos rfl, if_pos rfl, lay_dat hdat] at hrow
  rw [chk_dat hdat, opL_chk ho]
  (apply LW.v0; rfl; rfl; apply ValP.extractN; rfl; rfl; apply LW.v0; rfl; rfl; apply ValP.extractN; rfl; rfl; apply LW.v0; rfl; rfl; apply ValP.assign; rfl; apply LW.v0; rfl; rfl; apply ValP.assign; rfl; apply LW.nil; refine thenN ?_; refine CW.ret ?_)
  refine fin (vs := [bv, .int .i64 0]) gs5 (.inl rfl) rfl rfl (by (apply ResL.cons; exact Res.tmp rfl; apply ResL.cons; exact Res.tmp rfl; exact ResL.nil)) (List.sublist_append_left _ _) ⟨bv, rfl, hrow⟩
theorem Encode_calls (u : OpV) (w : World) (hu : OpAt w u) : Calls Tryd.prog 11 #[.agg (opa u)] w (RetG w [] fun v gs => ∃ bv, v = .tuple #[bv, .int .i64 (if okU u then 0 else 280)] ∧ IsRow 5 1 bv (if okU u then (encB u).length else 0) (ucs (if okU u then encB u else [])) gs) := by
  have hCk0 : ∀ w' {fs}, St w [] fs w' → Calls Tryd.prog 8 #[.agg (opa u)] w' (Ret w' (.int .i64 (if okU u then 0 else 280))) := fun w' fs hst => Check_u_calls u w' (hu.st hst)
  by_cases ho : okU u
  · rw [if_pos ho] at hCk0
    have hCk := hCk0
    rw [if_pos ho, if_pos ho, if_pos ho]
    refine enter (args := [_]) _ [] [] Tryd.func11 rfl Tryd.ntmps11 rfl (by simp) .nil ?_
    (refine CW.seq ?_; refine CW.region ?_; apply LW.boxA; rfl; rfl; intro _; apply LW.v0; rfl; rfl; apply ValP.assign; rfl; apply LW.v0; rfl; rfl; apply ValP.assign; rfl; apply LW.nil; refine thenN ?_; refine CW.seq ?_; refine CW.seq ?_; refine CW.region ?_; apply LW.load; rfl; rfl; apply Known.at; apply FsAt.head; exact op_rdW; apply LW.callE; rfl; rfl; infer_instance; apply ArgsOk.cons; rfl; exact ArgsOk.nil; intro w _; exact hCk w (by assumption); apply LW.v0; rfl; rfl; apply ValP.assign; rfl; apply LW.nil; refine thenN ?_; refine CW.seq ?_; refine CW.region ?_; apply LW.v0; rfl; rfl; apply ValP.move; rfl; apply LW.v0; rfl; rfl; apply ValP.neF; rfl; rfl; omega; apply LW.nil; refine thenN ?_; apply CW.condF; rfl; (with_reducible rfl); refine CW.skip ?_; refine thenN ?_; refine CW.seq ?_; refine CW.region ?_; apply LW.load; rfl; rfl; apply Known.at; apply FsAt.head; exact op_rdW)
    refine LW.callR rfl rfl inferInstance (by (apply ArgsOk.cons; rfl; exact ArgsOk.nil)) (fun w hst => encode_calls u w (hu.st hst) ho) ?_
    rintro v5 gs5 ⟨bv, rfl, hrow⟩
    (apply LW.v0; rfl; rfl; apply ValP.extractN; rfl; rfl; apply LW.v0; rfl; rfl; apply ValP.extractN; rfl; rfl; apply LW.v0; rfl; rfl; apply ValP.assign; rfl; apply LW.v0; rfl; rfl; apply ValP.assign; rfl; apply LW.nil; refine thenN ?_; refine CW.ret ?_)
    refine fin (vs := [bv, .int .i64 0]) gs5 (.inl rfl) rfl rfl (by (apply ResL.cons; exact Res.tmp rfl; apply ResL.cons; exact Res.tmp rfl; exact ResL.nil)) (List.sublist_append_left _ _) ⟨bv, rfl, hrow⟩
  · rw [if_neg ho] at hCk0
    have hCk := hCk0
    rw [if_neg ho, if_neg ho, if_neg ho]
    refine enter (args := [_]) _ [] [] Tryd.func11 rfl Tryd.ntmps11 rfl (by simp) .nil ?_
    (refine CW.seq ?_; refine CW.region ?_; apply LW.boxA; rfl; rfl; intro _; apply LW.v0; rfl; rfl; apply ValP.assign; rfl; apply LW.v0; rfl; rfl; apply ValP.assign; rfl; apply LW.nil; refine thenN ?_; refine CW.seq ?_; refine CW.seq ?_; refine CW.region ?_; apply LW.load; rfl; rfl; apply Known.at; apply FsAt.head; exact op_rdW; apply LW.callE; rfl; rfl; infer_instance; apply ArgsOk.cons; rfl; exact ArgsOk.nil; intro w _; exact hCk w (by assumption); apply LW.v0; rfl; rfl; apply ValP.assign; rfl; apply LW.nil; refine thenN ?_; refine CW.seq ?_; refine CW.region ?_; apply LW.v0; rfl; rfl; apply ValP.move; rfl; apply LW.v0; rfl; rfl; apply ValP.neT; rfl; rfl; omega; apply LW.nil; refine thenN ?_; apply CW.condT; rfl; (with_reducible rfl); refine CW.seq ?_; refine CW.region ?_; apply LW.v0; rfl; rfl; apply ValP.move; rfl; apply LW.v0; rfl; rfl; apply ValP.assign; rfl; apply LW.v0; rfl; rfl; apply ValP.assign; rfl; apply LW.nil; refine thenN ?_; refine CW.ret ?_; refine thenR ?_)
    refine fin (vs := [.slice none 0 0, .int .i64 280]) [] (.inl rfl) rfl rfl (by (apply ResL.cons; exact Res.tmp rfl; apply ResL.cons; exact Res.tmp rfl; exact ResL.nil)) (List.nil_sublist _) ⟨_, rfl, .nil⟩
/-! ### The form of the parts -/
def u00 : OpV := ⟨0, 0, .slice none 0 0, [], .slice none 0 0, [], 0, 0, 0, 0, 0, 0, 0, 0, .slice none 0 0, [], .slice none 0 0, []⟩
theorem u00_at (w : World) : OpAt w u00 := ⟨by constructor <;> decide, RowAt.nil, RowAt.nil, RowAt.nil, RowAt.nil⟩
def fmU : List Bool := [false, false, true, true, false, false, false, false, false, false, false, false, true, true]
theorem long_calls_u (w : World) : Calls Tryd.prog 33 #[] w (RetG w [] fun v gs => IsRow 4 1 v 14 (bls fmU) gs) := by
  refine enter (args := []) _ [] [] Tryd.func33 rfl Tryd.ntmps33 rfl (by simp) .nil ?_
  (refine CW.seq ?_; refine CW.region ?_; apply LW.v0; rfl; rfl; apply ValP.assign; rfl; apply LW.nil; refine thenN ?_; refine CW.seq ?_; refine CW.region ?_; apply LW.v0; rfl; rfl; apply ValP.buildT; infer_instance; infer_instance; exact PartsOk.nil; rfl; simp only [opa, opc, wc, fillP, wrCells, Value.cells, List.getElem?_cons_zero, List.getElem?_cons_succ, List.toList_toArray, List.setIfInBounds_toArray, List.set_cons_succ, List.set_cons_zero, Nat.reduceAdd, Nat.zero_add, List.cons_append, List.nil_append]; rfl; apply LW.boxA; rfl; rfl; intro _; apply LW.v0; rfl; rfl; apply ValP.assign; rfl; apply LW.nil; refine thenN ?_; refine CW.seq ?_; refine CW.region ?_; apply LW.v0; rfl; rfl; apply ValP.move; rfl)
  rename_i bF
  refine LW.callSt rfl rfl inferInstance (by (apply ArgsOk.cons; rfl; exact ArgsOk.nil)) (fun w' hs => goes_lay (u := u00) (u00_at w) (by decide) w' hs) ?_
  rintro v fs' ⟨rfl, qs, pv, segO, gsD, hq, hP, rfl⟩
  rw [List.nil_append] at hP
  have hql : qs.length = 14 := by have h := congrArg List.length hq; rw [List.length_map] at h; exact h
  have hfq : fmP qs = fmU := by
    have h1 : ∀ l : List PartV, fmP l = (l.map dat).map (·.1) := fun l => by simp [fmP, dat]
    rw [h1, hq]; rfl
  have hrow := hP.row
  rw [hql] at hrow
  obtain ⟨pp, cp, rfl⟩ := hrow.form
  obtain ⟨gO, cur, rfl, rfl, hn1, hm1, hs1, ht1⟩ := hrow.pos (by decide)
  refine LW.st fun w1 hst1 => ?_
  have hone : ∀ p ∈ qs, p.dv.oneCell' = true := PartsAt.one (hP.at (w := w1) (fun q hq => (hst1.own q (by rw [List.mem_singleton.1 hq]; simp)).2) (fun q hq => (hst1.own q (by simp [hq])).2))
  clear hst1 w1
  simp only [List.cons_append, List.nil_append]
  (apply LW.nil; refine thenN ?_; refine CW.seq ?_; refine CW.region ?_; apply LW.v0; rfl; rfl; apply ValP.assign; rfl; apply LW.nil; refine thenN ?_; refine CW.seq ?_; refine CW.seq ?_; refine CW.region ?_; apply LW.v0; rfl; rfl; apply ValP.move; rfl; apply LW.v0; rfl; rfl; apply ValP.nilCheck; rfl; apply LW.v0; rfl; rfl; apply ValP.fieldAddr; rfl; rfl; apply LW.load; rfl; rfl; apply Known.at; apply FsAt.head; exact fm_rd17; apply LW.v0; rfl; rfl; apply ValP.lenR; rfl; infer_instance; rfl; apply LW.v0; rfl; rfl; apply ValP.move; rfl; apply LW.nil; refine thenN ?_; refine CW.block ?_)
  refine CW.loop (fun x : FX => ([(14, .int .i64 (x.k : Int)), (13, .int .i64 ((14 : Nat) : Int)), (12, .slice (some ⟨gO, 0, none⟩) 14 cp), (2, x.ov)], x.seg ++ ((bF, .cells (fma u00 (.slice (some ⟨gO, 0, none⟩) 14 cp) false false) 72 (0, 0)) :: (gO, .cells cur 61 (0, 0)) :: (gsD ++ []))))
    (fun x => x.k ≤ 14 ∧ IsRow 4 1 x.ov x.k (bls (fmP (qs.take x.k))) x.seg) (fun x => 14 - x.k) ⟨0, .slice none 0 0, []⟩
    ⟨Nat.zero_le _, .nil⟩ ⟨rfl, rfl, rfl, rfl, trivial⟩ (List.Sublist.refl _) ?_
  rintro ⟨k, ov, seg⟩ ⟨hk, hO⟩
  dsimp only at hk hO ⊢
  obtain ⟨po, co, rfl⟩ := hO.form
  rcases Nat.lt_or_ge k 14 with hlt | hge
  · have hlt' : k < qs.length := by omega
    have hrd : Rd Tryd.prog 61 (.cells cur 61 (0, 0)) (0 + k * 6) (.agg (psa qs[k])) := Rd.elemA (g := psc) (l := qs) (a := qs[k]) (by rw [List.drop_zero]; exact ht1) (psc_len qs) (List.getElem?_eq_getElem hlt')
    have ho := hone _ (List.getElem_mem hlt')
    (refine CW.seq ?_; refine CW.region ?_; apply LW.v0; rfl; rfl; apply ValP.lssT; rfl; rfl; omega; apply LW.nil; refine thenN ?_; refine CW.seq ?_; apply CW.condT; rfl; (with_reducible rfl); refine CW.skip ?_; refine thenN ?_; refine CW.seq ?_; refine CW.block ?_; refine CW.seq ?_; refine CW.region ?_; apply LW.v0; rfl; rfl; apply ValP.indexAddrS; rfl; rfl; rfl; omega; apply LW.load; rfl; rfl; apply Known.at; apply FsAt.app; apply FsAt.tail; apply FsAt.head; assumption; apply LW.allocA; rfl; intro _; apply LW.store; rfl; rfl; apply SetAt.head; apply ps_wrW; rfl; assumption; apply LW.nil; refine thenN ?_; refine CW.region ?_; apply LW.v0; rfl; rfl; apply ValP.move; rfl; apply LW.v0; rfl; rfl; apply ValP.fieldAddr; rfl; rfl; apply LW.load; rfl; rfl; apply Known.at; apply FsAt.head; exact ps_rd0; apply LW.lay1; rfl; infer_instance; infer_instance; rfl; rfl; rfl; rfl; rfl; rfl; intro _)
    refine LW.append (n := k) (m := 1) (news := [.bool qs[k].lg]) rfl rfl inferInstance inferInstance inferInstance rfl rfl rfl (by (apply AtSeg.cons; apply AtSeg.cons; exact AtSeg.head)) hO (by (apply Known.at; apply FsAt.head)) rfl rfl rfl (by omega) (by simp only [maxLen]; omega) (by omega) ?_
    intro ov' seg' hO'
    refine ⟨_, (by (apply AtSeg.cons; apply AtSeg.cons; exact AtSeg.head)), ?_⟩
    (apply LW.v0; rfl; rfl; apply ValP.assign; rfl; apply LW.nil; refine blkN ?_; refine thenN ?_; refine CW.region ?_; apply LW.v0; rfl; rfl; apply ValP.addZL; rfl; rfl; decide; omega; apply LW.v0; rfl; rfl; apply ValP.move; rfl; apply LW.nil)
    apply thenX
    refine ⟨rfl, ⟨k + 1, ov', seg'⟩, ⟨hlt, ?_⟩, by show 14 - (k + 1) < 14 - k; omega, ⟨rfl, rfl, rfl, rfl, trivial⟩, by dsimp only; exact List.Sublist.cons _ (List.Sublist.cons _ (List.Sublist.refl _))⟩
    dsimp only
    rw [List.take_succ_eq_append_getElem hlt', fmP, List.map_append, bls, List.flatMap_append]
    exact hO'
  · obtain rfl : k = 14 := by omega
    rw [List.take_of_length_le (by omega), hfq] at hO
    (refine CW.seq ?_; refine CW.region ?_; apply LW.v0; rfl; rfl; apply ValP.lssF; rfl; rfl; omega; apply LW.nil; refine thenN ?_; refine CW.seq ?_; apply CW.condF; rfl; (with_reducible rfl); refine CW.exit ?_; refine thenE ?_; refine thenE ?_; refine blkE rfl ?_; refine thenN ?_; refine CW.seq ?_; refine CW.region ?_; apply LW.v0; rfl; rfl; apply ValP.move; rfl; apply LW.v0; rfl; rfl; apply ValP.assign; rfl; apply LW.nil; refine thenN ?_; refine CW.ret ?_)
    refine fin (vs := [.slice po 14 co]) seg (.inl rfl) rfl rfl (by (apply ResL.cons; exact Res.tmp rfl; exact ResL.nil)) (List.sublist_append_left _ _) hO
end Go.Proofs.YtobkhnmglbfheaaDoor

/-
  Operations of accounts read: parts become words and numbers.
  Conditions: none.
-/
namespace Go.Proofs.YtobkhnmglbfheaaDoor
open Go Go.RowKit SL
set_option maxRecDepth 8000
set_option maxHeartbeats 4000000
set_option linter.unusedSimpArgs false
set_option linter.unusedVariables false
attribute [local irreducible] SL.CW SL.LW SL.DW Calls SL.Ret SL.RetG SL.beginQ SL.roundQ SL.rangeQ SL.inQ SL.RW SL.AnyW SL.thenQ SL.thenC SL.thenW SL.blkQ SL.finQ SL.ValP SL.NewP SL.SetP SL.CallP SL.Rd SL.Wr SL.Known
/-- What is left of fourteen parts behind the first k. -/
def pvR (gO c k : Nat) : Value := if k < 14 then .slice (some ⟨gO, 6 * k, none⟩) (14 - k) (c - k) else cutAt (some ⟨gO, 78, none⟩) 1 1 (c - 13) 6
theorem pvR_lt {gO c k : Nat} (h : k < 14) : pvR gO c k = .slice (some ⟨gO, 6 * k, none⟩) (14 - k) (c - k) := if_pos h
theorem pvR_next {gO c k : Nat} (h : k < 14) (hc : 14 ≤ c) : cutAt (some ⟨gO, 6 * k, none⟩) 1 (14 - k) (c - k) 6 = pvR gO c (k + 1) := by
  rcases Nat.lt_or_ge k 13 with h2 | h2
  · rw [pvR_lt (by omega), cutAt, if_neg (by omega)]
    show Value.slice (some ⟨gO, 6 * k + 1 * 6, none⟩) _ _ = _
    rw [show 6 * k + 1 * 6 = 6 * (k + 1) by omega, Nat.sub_sub, Nat.sub_sub]
  · obtain rfl : k = 13 := by omega
    rw [pvR, if_neg (by decide)]
/-- The parts that are read lie in block gO. -/
structure RG (gO c : Nat) (cur : Array Value) (qs : List PartV) : Prop where
  len : qs.length = 14
  cap : 14 ≤ c
  max : c ≤ maxLen
  get : cur.toList.take (14 * 6) = qs.flatMap psc
  small : ∀ p ∈ qs, p.wd < M256
  one : ∀ p ∈ qs, ∃ a n c, p.dv = .slice a n c
theorem RG.rd {gO c : Nat} {cur : Array Value} {qs : List PartV} (h : RG gO c cur qs) {k : Nat} (hk : k < 14) {T : TypeId} {z : Value} [AgI Tryd.prog T true] [InfoI Tryd.prog T 6 z] {E : TypeId} {fr : Nat × Nat} : Rd Tryd.prog T (.cells cur E fr) (6 * k + 0 * 6) (.agg (psa (pt qs k))) := by
  have hk' : k < qs.length := by rw [h.len]; exact hk
  have hg := h.get
  rw [← h.len] at hg
  have := Rd.elemA (P := Tryd.prog) (T := T) (E := E) (fr := fr) (g := psc) (l := qs) (a := qs[k]) (off := 0) (i := k) (by rw [List.drop_zero]; exact hg) (psc_len qs) (List.getElem?_eq_getElem hk')
  rw [pt_eq hk']
  rwa [show 6 * k + 0 * 6 = 0 + k * 6 by omega]
theorem RG.p1 {gO c : Nat} {cur : Array Value} {qs : List PartV} (h : RG gO c cur qs) {k : Nat} (hk : k < 14) : (pt qs k).dv.oneCell' = true ∧ (pt qs k).wd < M256 := by
  have hk' : k < qs.length := by rw [h.len]; exact hk
  rw [pt_eq hk']
  refine ⟨?_, h.small _ (List.getElem_mem hk')⟩
  obtain ⟨a, n, c, hd⟩ := h.one _ (List.getElem_mem hk')
  rw [hd]; rfl
theorem RG.sl {gO c : Nat} {cur : Array Value} {qs : List PartV} (h : RG gO c cur qs) {k : Nat} (hk : k < 14) : ∃ a n c, (pt qs k).dv = .slice a n c := by
  have hk' : k < qs.length := by rw [h.len]; exact hk
  rw [pt_eq hk']
  exact h.one _ (List.getElem_mem hk')
theorem fm_wr17V {P : Program} {T E : TypeId} {u : OpV} {pv : Value} {r b : Bool} {z : Value} [InfoI P T 1 z] {gO c k : Nat} : Wr P T (.cells (fma u pv r b) E (0, 0)) 17 (pvR gO c k) (.cells (fma u (pvR gO c k) r b) E (0, 0)) := by
  unfold pvR cutAt
  split <;> exact fm_wr17
theorem next_read {w0 : World} {bF gO c k : Nat} {cur : Array Value} {qs : List PartV} {u : OpV} {bad : Bool} {pre rest : Fs} (hR : RG gO c cur qs) (hk : k < 14) (w : World)
    (hs : St w0 [] (pre ++ ((bF, .cells (fma u (pvR gO c k) true bad) 72 (0, 0)) :: (gO, .cells cur 61 (0, 0)) :: rest)) w) :
    Calls Tryd.prog 79 #[.pointer (some ⟨bF, 0, none⟩)] w (fun x w' => ∃ v fs', x = .returned v ∧ (v = .agg (psa (pt qs k)) ∧ fs' = pre ++ ((bF, .cells (fma u (pvR gO c (k + 1)) true bad) 72 (0, 0)) :: (gO, .cells cur 61 (0, 0)) :: rest)) ∧ St w0 [] fs' w') := by
  obtain ⟨ho, hw⟩ := hR.p1 hk
  have hrd : Rd Tryd.prog 61 (.cells cur 61 (0, 0)) (6 * k + 0 * 6) (.agg (psa (pt qs k))) := hR.rd hk
  have hnx := pvR_next (gO := gO) (c := c) hk hR.cap
  have hcap := hR.cap
  have hmx := hR.max
  have hW17 : Wr Tryd.prog 64 (.cells (fma u (.slice (some ⟨gO, 6 * k, none⟩) (14 - k) (c - k)) true bad) 72 (0, 0)) (0 + 17) (cutAt (some ⟨gO, 6 * k, none⟩) 1 (14 - k) (c - k) 6) (.cells (fma u (pvR gO c (k + 1)) true bad) 72 (0, 0)) := by rw [hnx]; exact fm_wr17V
  rw [pvR_lt hk] at hs
  refine calls_sub ?_
  refine calls_inline (args := [_]) Tryd.func79 rfl Tryd.ntmps79 rfl ?_ hs
  (refine CW.seq ?_; refine CW.region ?_; apply LW.allocA; rfl; intro _; apply LW.nil; refine thenN ?_; refine CW.seq ?_; refine CW.region ?_; apply LW.v0; rfl; rfl; apply ValP.move; rfl; apply LW.v0; rfl; rfl; apply ValP.nilCheck; rfl; apply LW.v0; rfl; rfl; apply ValP.fieldAddr; rfl; rfl; apply LW.load; rfl; rfl; apply Known.at; apply FsAt.tail; apply FsAt.app; apply FsAt.head; exact fm_rd17; apply LW.v0; rfl; rfl; apply ValP.indexAddrSL; rfl; rfl; decide; omega; apply LW.load; rfl; rfl; apply Known.at; apply FsAt.tail; apply FsAt.app; apply FsAt.tail; apply FsAt.head; exact hrd; apply LW.allocA; rfl; intro _; apply LW.store; rfl; rfl; apply SetAt.head; apply ps_wrW; rfl; assumption; apply LW.nil; refine thenN ?_; refine CW.seq ?_; refine CW.region ?_; apply LW.v0; rfl; rfl; apply ValP.move; rfl; apply LW.v0; rfl; rfl; apply ValP.move; rfl; apply LW.v0; rfl; rfl; apply ValP.nilCheck; rfl; apply LW.v0; rfl; rfl; apply ValP.fieldAddr; rfl; rfl; apply LW.load; rfl; rfl; apply Known.at; apply FsAt.tail; apply FsAt.tail; apply FsAt.app; apply FsAt.head; exact fm_rd17; apply LW.v0; rfl; rfl; apply ValP.cutFromL; infer_instance; infer_instance; rfl; rfl; decide; omega; apply LW.v0; rfl; rfl; apply ValP.nilCheck; rfl; apply LW.v0; rfl; rfl; apply ValP.fieldAddr; rfl; rfl; apply LW.store; rfl; rfl; apply SetAt.tail; apply SetAt.tail; apply SetAt.app; apply SetAt.head; exact hW17; apply LW.nil; refine thenN ?_; refine CW.seq ?_; refine CW.region ?_; apply LW.load; rfl; rfl; apply Known.at; apply FsAt.head; exact Rd.whole rfl; apply LW.store; rfl; rfl; apply SetAt.tail; apply SetAt.head; apply ps_wrW; rfl; assumption; apply LW.nil; refine thenN ?_; refine CW.ret ?_)
  (apply inI; exact .inl rfl; exact Shut.nil; rfl; apply ResL.cons; apply Res.cell; rfl; apply Known.at; apply FsAt.tail; apply FsAt.head; exact Rd.whole rfl; exact ResL.nil; rfl)
  exact ⟨_, List.Sublist.cons _ (List.Sublist.cons _ (List.Sublist.refl _)), rfl, rfl⟩
/-! ### Words -/
theorem fld_ps {P : Program} {e : Env} {T ft : TypeId} {x : Operand} {p : PartV} {z : Value} [hF : FldI P T 1 1 ft] [hA : AgI P ft true] [hI : InfoI P ft 4 z] (hx : e.ev x = some (.agg (psa p))) : ValP P e [] (.field T x 1) (wv p.wd) := ValP.fieldA hF hA hI hx rfl
theorem wordF_read {w0 : World} {bF gO c k off : Nat} {cur : Array Value} {qs : List PartV} {u u' : OpV} {bad : Bool} {rest : Fs} (hR : RG gO c cur qs) (hk : k < 14)
    (hwr : ∀ {pv bad}, Wr Tryd.prog 27 (.cells (fma u pv true bad) 72 (0, 0)) off (wv (pt qs k).wd) (.cells (fma u' pv true bad) 72 (0, 0))) (w : World)
    (hs : St w0 [] ((bF, .cells (fma u (pvR gO c k) true bad) 72 (0, 0)) :: (gO, .cells cur 61 (0, 0)) :: rest) w) :
    Calls Tryd.prog 70 #[.pointer (some ⟨bF, 0, none⟩), .pointer (some ⟨bF, off, none⟩)] w (fun x w' => ∃ v fs', x = .returned v ∧ (v = .tuple #[] ∧ fs' = (bF, .cells (fma u' (pvR gO c (k + 1)) true bad) 72 (0, 0)) :: (gO, .cells cur 61 (0, 0)) :: rest) ∧ St w0 [] fs' w') := by
  refine calls_sub ?_
  refine calls_inline (args := [_, _]) Tryd.func70 rfl Tryd.ntmps70 rfl ?_ hs
  (refine CW.seq ?_; refine CW.seq ?_; refine CW.region ?_; apply LW.v0; rfl; rfl; apply ValP.move; rfl; apply LW.v0; rfl; rfl; apply ValP.nilCheck; rfl; apply LW.v0; rfl; rfl; apply ValP.fieldAddr; rfl; rfl; apply LW.load; rfl; rfl; apply Known.at; apply FsAt.head; exact fm_rd18; apply LW.nil; refine thenN ?_; apply CW.condT; rfl; (with_reducible rfl); refine CW.seq ?_; refine CW.region ?_; apply LW.v0; rfl; rfl; apply ValP.move; rfl; apply LW.v0; rfl; rfl; apply ValP.move; rfl)
  refine LW.callSt rfl rfl inferInstance (by (apply ArgsOk.cons; rfl; exact ArgsOk.nil)) (fun w hs => next_read (pre := []) hR hk w hs) ?_
  rintro v fs' ⟨rfl, rfl⟩
  simp only [List.nil_append]
  (apply LW.v0; rfl; rfl; apply fld_ps; rfl; apply LW.v0; rfl; rfl; apply ValP.nilCheck; rfl; apply LW.store; rfl; rfl; apply SetAt.head; exact hwr; apply LW.nil; refine thenN ?_; refine CW.ret ?_; refine thenR ?_)
  (apply inI; exact .inl rfl; exact Shut.nil; rfl; exact ResL.nil; rfl)
  exact ⟨_, List.Sublist.refl _, rfl, rfl⟩
theorem wordL_read {w0 : World} {bF bW gO c k a : Nat} {cur : Array Value} {qs : List PartV} {u : OpV} {bad : Bool} {mid rest : Fs} (hR : RG gO c cur qs) (hk : k < 14) (w : World)
    (hs : St w0 [] ((bW, .cells (wc a) 27 (0, 0)) :: (mid ++ ((bF, .cells (fma u (pvR gO c k) true bad) 72 (0, 0)) :: (gO, .cells cur 61 (0, 0)) :: rest))) w) :
    Calls Tryd.prog 70 #[.pointer (some ⟨bF, 0, none⟩), .pointer (some ⟨bW, 0, none⟩)] w (fun x w' => ∃ v fs', x = .returned v ∧ (v = .tuple #[] ∧ fs' = (bW, .cells (wc (pt qs k).wd) 27 (0, 0)) :: (mid ++ ((bF, .cells (fma u (pvR gO c (k + 1)) true bad) 72 (0, 0)) :: (gO, .cells cur 61 (0, 0)) :: rest))) ∧ St w0 [] fs' w') := by
  refine calls_sub ?_
  refine calls_inline (args := [_, _]) Tryd.func70 rfl Tryd.ntmps70 rfl ?_ hs
  (refine CW.seq ?_; refine CW.seq ?_; refine CW.region ?_; apply LW.v0; rfl; rfl; apply ValP.move; rfl; apply LW.v0; rfl; rfl; apply ValP.nilCheck; rfl; apply LW.v0; rfl; rfl; apply ValP.fieldAddr; rfl; rfl; apply LW.load; rfl; rfl; apply Known.at; apply FsAt.tail; apply FsAt.app; apply FsAt.head; exact fm_rd18; apply LW.nil; refine thenN ?_; apply CW.condT; rfl; (with_reducible rfl); refine CW.seq ?_; refine CW.region ?_; apply LW.v0; rfl; rfl; apply ValP.move; rfl; apply LW.v0; rfl; rfl; apply ValP.move; rfl)
  refine LW.callSt rfl rfl inferInstance (by (apply ArgsOk.cons; rfl; exact ArgsOk.nil)) (fun w hs => next_read (pre := (bW, .cells (wc a) 27 (0, 0)) :: mid) hR hk w hs) ?_
  rintro v fs' ⟨rfl, rfl⟩
  simp only [List.cons_append]
  (apply LW.v0; rfl; rfl; apply fld_ps; rfl; apply LW.v0; rfl; rfl; apply ValP.nilCheck; rfl; apply LW.store; rfl; rfl; apply SetAt.head; apply Wr.whole; rfl; rfl; rfl; apply LW.nil; refine thenN ?_; refine CW.ret ?_; refine thenR ?_)
  (apply inI; exact .inl rfl; exact Shut.nil; rfl; exact ResL.nil; rfl)
  exact ⟨_, List.Sublist.refl _, rfl, rfl⟩
/-! ### Bytes -/
theorem data_read {w0 : World} {bF gO c k off : Nat} {cur : Array Value} {qs : List PartV} {u u' : OpV} {bad : Bool} {rest : Fs} (hR : RG gO c cur qs) (hk : k < 14)
    (hwr : ∀ {pv bad}, Wr Tryd.prog 28 (.cells (fma u pv true bad) 72 (0, 0)) off (pt qs k).dv (.cells (fma u' pv true bad) 72 (0, 0))) (w : World)
    (hs : St w0 [] ((bF, .cells (fma u (pvR gO c k) true bad) 72 (0, 0)) :: (gO, .cells cur 61 (0, 0)) :: rest) w) :
    Calls Tryd.prog 71 #[.pointer (some ⟨bF, 0, none⟩), .pointer (some ⟨bF, off, none⟩)] w (fun x w' => ∃ v fs', x = .returned v ∧ (v = .tuple #[] ∧ fs' = (bF, .cells (fma u' (pvR gO c (k + 1)) true bad) 72 (0, 0)) :: (gO, .cells cur 61 (0, 0)) :: rest) ∧ St w0 [] fs' w') := by
  refine calls_sub ?_
  refine calls_inline (args := [_, _]) Tryd.func71 rfl Tryd.ntmps71 rfl ?_ hs
  (refine CW.seq ?_; refine CW.seq ?_; refine CW.region ?_; apply LW.v0; rfl; rfl; apply ValP.move; rfl; apply LW.v0; rfl; rfl; apply ValP.nilCheck; rfl; apply LW.v0; rfl; rfl; apply ValP.fieldAddr; rfl; rfl; apply LW.load; rfl; rfl; apply Known.at; apply FsAt.head; exact fm_rd18; apply LW.nil; refine thenN ?_; apply CW.condT; rfl; (with_reducible rfl); refine CW.seq ?_; refine CW.region ?_; apply LW.v0; rfl; rfl; apply ValP.move; rfl; apply LW.v0; rfl; rfl; apply ValP.move; rfl)
  refine LW.callSt rfl rfl inferInstance (by (apply ArgsOk.cons; rfl; exact ArgsOk.nil)) (fun w hs => next_read (pre := []) hR hk w hs) ?_
  rintro v fs' ⟨rfl, rfl⟩
  simp only [List.nil_append]
  (apply LW.v0; rfl; rfl; apply ValP.field1; infer_instance; infer_instance; rfl; rfl; apply LW.v0; rfl; rfl; apply ValP.nilCheck; rfl; apply LW.store; rfl; rfl; apply SetAt.head; exact hwr; apply LW.nil; refine thenN ?_; refine CW.ret ?_; refine thenR ?_)
  (apply inI; exact .inl rfl; exact Shut.nil; rfl; exact ResL.nil; rfl)
  exact ⟨_, List.Sublist.refl _, rfl, rfl⟩
/-! ### Numbers -/
def smN (a : Nat) : Nat := if a < 18446744073709551616 then a else 0
theorem smN_lt (a : Nat) : smN a < 18446744073709551616 := by unfold smN; split <;> omega
def smB (a : Nat) : Bool := decide (a < 18446744073709551616)
theorem Small_read (a : Nat) (ha : a < M256) (w : World) : Calls Tryd.prog 66 #[wv a] w (Ret w (.tuple #[.int .u64 (smN a : Int), .bool (smB a)])) := Small_calls a ha w
theorem numberF_read {w0 : World} {bF gO c k off n : Nat} {cur : Array Value} {qs : List PartV} {u u' : OpV} {bad : Bool} {rest : Fs} (hR : RG gO c cur qs) (hk : k < 14) (hlt : n < 18446744073709551616)
    (hrd : ∀ {pv bad E fr}, Rd Tryd.prog 23 (.cells (fma u pv true bad) E fr) off (.int .u64 (n : Int)))
    (hwr : ∀ {pv bad}, Wr Tryd.prog 23 (.cells (fma u pv true bad) 72 (0, 0)) off (.int .u64 (smN (pt qs k).wd : Int)) (.cells (fma u' pv true bad) 72 (0, 0))) (w : World)
    (hs : St w0 [] ((bF, .cells (fma u (pvR gO c k) true bad) 72 (0, 0)) :: (gO, .cells cur 61 (0, 0)) :: rest) w) :
    Calls Tryd.prog 72 #[.pointer (some ⟨bF, 0, none⟩), .pointer (some ⟨bF, off, none⟩)] w (fun x w' => ∃ v fs', x = .returned v ∧ (v = .tuple #[] ∧ fs' = (bF, .cells (fma u' (pvR gO c (k + 1)) true (bad || !smB (pt qs k).wd)) 72 (0, 0)) :: (gO, .cells cur 61 (0, 0)) :: rest) ∧ St w0 [] fs' w') := by
  have hwd := (hR.p1 hk).2
  refine calls_sub ?_
  refine calls_inline (args := [_, _]) Tryd.func72 rfl Tryd.ntmps72 rfl ?_ hs
  (refine CW.seq ?_; refine CW.region ?_; apply LW.v0; rfl; rfl; apply ValP.move; rfl; apply LW.v0; rfl; rfl; apply ValP.nilCheck; rfl; apply LW.load; rfl; rfl; apply Known.at; apply FsAt.head; exact hrd; apply LW.callE; rfl; rfl; infer_instance; apply ArgsOk.cons; rfl; exact ArgsOk.nil; intro w _; exact Of_calls n hlt w; apply LW.allocW; rfl; intro _; apply LW.store; rfl; rfl; apply SetAt.head; apply Wr.whole; rfl; rfl; rfl; apply LW.nil; refine thenN ?_; refine CW.seq ?_; refine CW.region ?_; apply LW.v0; rfl; rfl; apply ValP.move; rfl)
  refine LW.callSt rfl rfl inferInstance (by (apply ArgsOk.cons; rfl; apply ArgsOk.cons; rfl; exact ArgsOk.nil)) (fun w hs => wordL_read (mid := []) hR hk w hs) ?_
  rintro v fs' ⟨rfl, rfl⟩
  (apply LW.nil; refine thenN ?_; refine CW.seq ?_; refine CW.region ?_; apply LW.load; rfl; rfl; apply Known.at; apply FsAt.head; exact Rd.whole rfl; apply LW.callE; rfl; rfl; infer_instance; apply ArgsOk.cons; rfl; exact ArgsOk.nil; intro w _; exact Small_read _ hwd w; apply LW.v0; rfl; rfl; apply ValP.move; rfl; apply LW.v0; rfl; rfl; apply ValP.extractN; rfl; rfl; apply LW.v0; rfl; rfl; apply ValP.extractN; rfl; rfl; apply LW.v0; rfl; rfl; apply ValP.assign; rfl; apply LW.v0; rfl; rfl; apply ValP.assign; rfl; apply LW.nil; refine thenN ?_; refine CW.region ?_; apply LW.v0; rfl; rfl; apply ValP.move; rfl; apply LW.v0; rfl; rfl; apply ValP.move; rfl; apply LW.v0; rfl; rfl; apply ValP.move; rfl; apply LW.v0; rfl; rfl; apply ValP.move; rfl; apply LW.v0; rfl; rfl; apply ValP.nilCheck; rfl; apply LW.v0; rfl; rfl; apply ValP.fieldAddr; rfl; rfl; apply LW.load; rfl; rfl; apply Known.at; apply FsAt.tail; apply FsAt.head; exact fm_rd19; apply LW.v0; rfl; rfl; apply ValP.move; rfl)
  simp only [List.cons_append, List.nil_append]
  rcases bad with _ | _
  · rcases hb : smB (pt qs k).wd with _ | _
    · (apply LW.guardT'; rfl; rfl; (with_reducible rfl); apply LW.v0; rfl; rfl; apply ValP.move; rfl; apply LW.guardT'; rfl; rfl; (with_reducible rfl); apply LW.v0; rfl; rfl; apply ValP.notF; rfl; (with_reducible rfl); apply LW.v0; rfl; rfl; apply ValP.pickF'; rfl; (with_reducible rfl); rfl; apply LW.v0; rfl; rfl; apply ValP.nilCheck; rfl; apply LW.store; rfl; rfl; apply SetAt.tail; apply SetAt.head; exact hwr; apply LW.v0; rfl; rfl; apply ValP.nilCheck; rfl; apply LW.v0; rfl; rfl; apply ValP.fieldAddr; rfl; rfl; apply LW.store; rfl; rfl; apply SetAt.tail; apply SetAt.head; exact fm_wr19; apply LW.nil)
      (apply inI; exact .inr rfl; exact Shut.nil; rfl; exact ResL.nil; rfl)
      exact ⟨_, List.Sublist.cons _ (List.Sublist.refl _), rfl, rfl⟩
    · (apply LW.guardT'; rfl; rfl; (with_reducible rfl); apply LW.v0; rfl; rfl; apply ValP.move; rfl; apply LW.guardT'; rfl; rfl; (with_reducible rfl); apply LW.v0; rfl; rfl; apply ValP.notT; rfl; (with_reducible rfl); apply LW.v0; rfl; rfl; apply ValP.pickF'; rfl; (with_reducible rfl); rfl; apply LW.v0; rfl; rfl; apply ValP.nilCheck; rfl; apply LW.store; rfl; rfl; apply SetAt.tail; apply SetAt.head; exact hwr; apply LW.v0; rfl; rfl; apply ValP.nilCheck; rfl; apply LW.v0; rfl; rfl; apply ValP.fieldAddr; rfl; rfl; apply LW.store; rfl; rfl; apply SetAt.tail; apply SetAt.head; exact fm_wr19; apply LW.nil)
      (apply inI; exact .inr rfl; exact Shut.nil; rfl; exact ResL.nil; rfl)
      exact ⟨_, List.Sublist.cons _ (List.Sublist.refl _), rfl, rfl⟩
  · (apply LW.guardF'; rfl; rfl; simp only [Bool.not_true, Bool.not_false]; rfl; apply LW.guardF'; rfl; rfl; simp only [Bool.not_true, Bool.not_false]; rfl; apply LW.v0; rfl; rfl; apply ValP.pickT'; rfl; (with_reducible rfl); rfl; apply LW.v0; rfl; rfl; apply ValP.nilCheck; rfl; apply LW.store; rfl; rfl; apply SetAt.tail; apply SetAt.head; exact hwr; apply LW.v0; rfl; rfl; apply ValP.nilCheck; rfl; apply LW.v0; rfl; rfl; apply ValP.fieldAddr; rfl; rfl; apply LW.store; rfl; rfl; apply SetAt.tail; apply SetAt.head; exact fm_wr19; apply LW.nil)
    (apply inI; exact .inr rfl; exact Shut.nil; rfl; exact ResL.nil; rfl)
    exact ⟨_, List.Sublist.cons _ (List.Sublist.refl _), rfl, rfl⟩
theorem numberL_read {w0 : World} {bF bL gO c k n : Nat} {cur : Array Value} {qs : List PartV} {u : OpV} {bad : Bool} {rest : Fs} (hR : RG gO c cur qs) (hk : k < 14) (hlt : n < 18446744073709551616) (w : World)
    (hs : St w0 [] ((bL, .cells #[.int .u64 (n : Int)] 23 (0, 0)) :: (bF, .cells (fma u (pvR gO c k) true bad) 72 (0, 0)) :: (gO, .cells cur 61 (0, 0)) :: rest) w) :
    Calls Tryd.prog 72 #[.pointer (some ⟨bF, 0, none⟩), .pointer (some ⟨bL, 0, none⟩)] w (fun x w' => ∃ v fs', x = .returned v ∧ (v = .tuple #[] ∧ fs' = (bL, .cells #[.int .u64 (smN (pt qs k).wd : Int)] 23 (0, 0)) :: (bF, .cells (fma u (pvR gO c (k + 1)) true (bad || !smB (pt qs k).wd)) 72 (0, 0)) :: (gO, .cells cur 61 (0, 0)) :: rest) ∧ St w0 [] fs' w') := by
  have hwd := (hR.p1 hk).2
  have hrd : True := trivial
  have hwr : True := trivial
  refine calls_sub ?_
  refine calls_inline (args := [_, _]) Tryd.func72 rfl Tryd.ntmps72 rfl ?_ hs
  (refine CW.seq ?_; refine CW.region ?_; apply LW.v0; rfl; rfl; apply ValP.move; rfl; apply LW.v0; rfl; rfl; apply ValP.nilCheck; rfl; apply LW.load; rfl; rfl; apply Known.at; apply FsAt.head; exact Rd.one' rfl; apply LW.callE; rfl; rfl; infer_instance; apply ArgsOk.cons; rfl; exact ArgsOk.nil; intro w _; exact Of_calls n hlt w; apply LW.allocW; rfl; intro _; apply LW.store; rfl; rfl; apply SetAt.head; apply Wr.whole; rfl; rfl; rfl; apply LW.nil; refine thenN ?_; refine CW.seq ?_; refine CW.region ?_; apply LW.v0; rfl; rfl; apply ValP.move; rfl)
  refine LW.callSt rfl rfl inferInstance (by (apply ArgsOk.cons; rfl; apply ArgsOk.cons; rfl; exact ArgsOk.nil)) (fun w hs => wordL_read (mid := [(bL, .cells #[.int .u64 (n : Int)] 23 (0, 0))]) hR hk w hs) ?_
  rintro v fs' ⟨rfl, rfl⟩
  (apply LW.nil; refine thenN ?_; refine CW.seq ?_; refine CW.region ?_; apply LW.load; rfl; rfl; apply Known.at; apply FsAt.head; exact Rd.whole rfl; apply LW.callE; rfl; rfl; infer_instance; apply ArgsOk.cons; rfl; exact ArgsOk.nil; intro w _; exact Small_read _ hwd w; apply LW.v0; rfl; rfl; apply ValP.move; rfl; apply LW.v0; rfl; rfl; apply ValP.extractN; rfl; rfl; apply LW.v0; rfl; rfl; apply ValP.extractN; rfl; rfl; apply LW.v0; rfl; rfl; apply ValP.assign; rfl; apply LW.v0; rfl; rfl; apply ValP.assign; rfl; apply LW.nil; refine thenN ?_; refine CW.region ?_; apply LW.v0; rfl; rfl; apply ValP.move; rfl; apply LW.v0; rfl; rfl; apply ValP.move; rfl; apply LW.v0; rfl; rfl; apply ValP.move; rfl; apply LW.v0; rfl; rfl; apply ValP.move; rfl; apply LW.v0; rfl; rfl; apply ValP.nilCheck; rfl; apply LW.v0; rfl; rfl; apply ValP.fieldAddr; rfl; rfl; apply LW.load; rfl; rfl; apply Known.at; apply FsAt.tail; apply FsAt.tail; apply FsAt.head; exact fm_rd19; apply LW.v0; rfl; rfl; apply ValP.move; rfl)
  simp only [List.cons_append, List.nil_append]
  rcases bad with _ | _
  · rcases hb : smB (pt qs k).wd with _ | _
    · (apply LW.guardT'; rfl; rfl; (with_reducible rfl); apply LW.v0; rfl; rfl; apply ValP.move; rfl; apply LW.guardT'; rfl; rfl; (with_reducible rfl); apply LW.v0; rfl; rfl; apply ValP.notF; rfl; (with_reducible rfl); apply LW.v0; rfl; rfl; apply ValP.pickF'; rfl; (with_reducible rfl); rfl; apply LW.v0; rfl; rfl; apply ValP.nilCheck; rfl; apply LW.store; rfl; rfl; apply SetAt.tail; apply SetAt.head; apply Wr.cells; rfl; rfl; simp only [List.size_toArray, List.length_cons, List.length_nil]; omega; simp only [fillC, wc, wrCells, Value.cells, List.toList_toArray, List.setIfInBounds_toArray, List.set_cons_succ, List.set_cons_zero, Nat.reduceAdd, Nat.reduceMul, Nat.zero_add, Nat.mul_one]; rfl; apply LW.v0; rfl; rfl; apply ValP.nilCheck; rfl; apply LW.v0; rfl; rfl; apply ValP.fieldAddr; rfl; rfl; apply LW.store; rfl; rfl; apply SetAt.tail; apply SetAt.tail; apply SetAt.head; exact fm_wr19; apply LW.nil)
      (apply inI; exact .inr rfl; exact Shut.nil; rfl; exact ResL.nil; rfl)
      exact ⟨_, List.Sublist.cons _ (List.Sublist.refl _), rfl, rfl⟩
    · (apply LW.guardT'; rfl; rfl; (with_reducible rfl); apply LW.v0; rfl; rfl; apply ValP.move; rfl; apply LW.guardT'; rfl; rfl; (with_reducible rfl); apply LW.v0; rfl; rfl; apply ValP.notT; rfl; (with_reducible rfl); apply LW.v0; rfl; rfl; apply ValP.pickF'; rfl; (with_reducible rfl); rfl; apply LW.v0; rfl; rfl; apply ValP.nilCheck; rfl; apply LW.store; rfl; rfl; apply SetAt.tail; apply SetAt.head; apply Wr.cells; rfl; rfl; simp only [List.size_toArray, List.length_cons, List.length_nil]; omega; simp only [fillC, wc, wrCells, Value.cells, List.toList_toArray, List.setIfInBounds_toArray, List.set_cons_succ, List.set_cons_zero, Nat.reduceAdd, Nat.reduceMul, Nat.zero_add, Nat.mul_one]; rfl; apply LW.v0; rfl; rfl; apply ValP.nilCheck; rfl; apply LW.v0; rfl; rfl; apply ValP.fieldAddr; rfl; rfl; apply LW.store; rfl; rfl; apply SetAt.tail; apply SetAt.tail; apply SetAt.head; exact fm_wr19; apply LW.nil)
      (apply inI; exact .inr rfl; exact Shut.nil; rfl; exact ResL.nil; rfl)
      exact ⟨_, List.Sublist.cons _ (List.Sublist.refl _), rfl, rfl⟩
  · (apply LW.guardF'; rfl; rfl; simp only [Bool.not_true, Bool.not_false]; rfl; apply LW.guardF'; rfl; rfl; simp only [Bool.not_true, Bool.not_false]; rfl; apply LW.v0; rfl; rfl; apply ValP.pickT'; rfl; (with_reducible rfl); rfl; apply LW.v0; rfl; rfl; apply ValP.nilCheck; rfl; apply LW.store; rfl; rfl; apply SetAt.tail; apply SetAt.head; apply Wr.cells; rfl; rfl; simp only [List.size_toArray, List.length_cons, List.length_nil]; omega; simp only [fillC, wc, wrCells, Value.cells, List.toList_toArray, List.setIfInBounds_toArray, List.set_cons_succ, List.set_cons_zero, Nat.reduceAdd, Nat.reduceMul, Nat.zero_add, Nat.mul_one]; rfl; apply LW.v0; rfl; rfl; apply ValP.nilCheck; rfl; apply LW.v0; rfl; rfl; apply ValP.fieldAddr; rfl; rfl; apply LW.store; rfl; rfl; apply SetAt.tail; apply SetAt.tail; apply SetAt.head; exact fm_wr19; apply LW.nil)
    (apply inI; exact .inr rfl; exact Shut.nil; rfl; exact ResL.nil; rfl)
    exact ⟨_, List.Sublist.cons _ (List.Sublist.refl _), rfl, rfl⟩
theorem addr_read {w0 : World} {bF gO c k off n : Nat} {cur : Array Value} {qs : List PartV} {u u' : OpV} {bad : Bool} {rest : Fs} (hR : RG gO c cur qs) (hk : k < 14) (hlt : n < 18446744073709551616)
    (hrd : ∀ {pv bad E fr}, Rd Tryd.prog 25 (.cells (fma u pv true bad) E fr) off (.int .u64 (n : Int)))
    (hwr : ∀ {pv bad}, Wr Tryd.prog 25 (.cells (fma u pv true bad) 72 (0, 0)) off (.int .u64 (smN (pt qs k).wd : Int)) (.cells (fma u' pv true bad) 72 (0, 0))) (w : World)
    (hs : St w0 [] ((bF, .cells (fma u (pvR gO c k) true bad) 72 (0, 0)) :: (gO, .cells cur 61 (0, 0)) :: rest) w) :
    Calls Tryd.prog 69 #[.pointer (some ⟨bF, 0, none⟩), .pointer (some ⟨bF, off, none⟩)] w (fun x w' => ∃ v fs', x = .returned v ∧ (v = .tuple #[] ∧ fs' = (bF, .cells (fma u' (pvR gO c (k + 1)) true (bad || !smB (pt qs k).wd)) 72 (0, 0)) :: (gO, .cells cur 61 (0, 0)) :: rest) ∧ St w0 [] fs' w') := by
  have hsl := smN_lt (pt qs k).wd
  refine calls_sub ?_
  refine calls_inline (args := [_, _]) Tryd.func69 rfl Tryd.ntmps69 rfl ?_ hs
  (refine CW.seq ?_; refine CW.region ?_; apply LW.v0; rfl; rfl; apply ValP.move; rfl; apply LW.v0; rfl; rfl; apply ValP.nilCheck; rfl; apply LW.load; rfl; rfl; apply Known.at; apply FsAt.head; exact hrd; apply LW.alloc1; rfl; rfl; intro _; apply LW.store; rfl; rfl; apply SetAt.head; apply Wr.cells; rfl; rfl; simp only [List.size_toArray, List.length_cons, List.length_nil]; omega; simp only [fillC, wc, wrCells, Value.cells, List.toList_toArray, List.setIfInBounds_toArray, List.set_cons_succ, List.set_cons_zero, Nat.reduceAdd, Nat.reduceMul, Nat.zero_add, Nat.mul_one]; rfl; apply LW.nil; refine thenN ?_; refine CW.seq ?_; refine CW.region ?_; apply LW.v0; rfl; rfl; apply ValP.move; rfl)
  refine LW.callSt rfl rfl inferInstance (by (apply ArgsOk.cons; rfl; apply ArgsOk.cons; rfl; exact ArgsOk.nil)) (fun w hs => numberL_read hR hk hlt w hs) ?_
  rintro v fs' ⟨rfl, rfl⟩
  (apply LW.nil; refine thenN ?_; refine CW.region ?_; apply LW.v0; rfl; rfl; apply ValP.move; rfl; apply LW.load; rfl; rfl; apply Known.at; apply FsAt.head; exact Rd.one' rfl; apply LW.v0; rfl; rfl; apply ValP.nilCheck; rfl; apply LW.store; rfl; rfl; apply SetAt.tail; apply SetAt.head; exact hwr; apply LW.nil)
  (apply inI; exact .inr rfl; exact Shut.nil; rfl; exact ResL.nil; rfl)
  exact ⟨_, List.Sublist.cons _ (List.Sublist.refl _), rfl, rfl⟩
end Go.Proofs.YtobkhnmglbfheaaDoor

/-
  Operations of accounts read: their fields.
  Conditions: none.
-/
namespace Go.Proofs.YtobkhnmglbfheaaDoor
open Go Go.RowKit SL
set_option maxRecDepth 8000
set_option maxHeartbeats 4000000
set_option linter.unusedSimpArgs false
set_option linter.unusedVariables false
attribute [local irreducible] SL.CW SL.LW SL.DW Calls SL.Ret SL.RetG SL.beginQ SL.roundQ SL.rangeQ SL.inQ SL.RW SL.AnyW SL.thenQ SL.thenC SL.thenW SL.blkQ SL.finQ SL.ValP SL.NewP SL.SetP SL.CallP SL.Rd SL.Wr SL.Known
/-- What a group of fields reads. -/
def Reads (f : FuncId) (k n : Nat) (g : OpV → List PartV → OpV) (bd : Bool → List PartV → Bool) : Prop := ∀ {w0 : World} {bF gO c : Nat} {cur : Array Value} {qs : List PartV} {u : OpV} {bad : Bool} {rest : Fs} (_ : RG gO c cur qs) (_ : OpNum u) (w : World)
    (_ : St w0 [] ((bF, .cells (fma u (pvR gO c k) true bad) 72 (0, 0)) :: (gO, .cells cur 61 (0, 0)) :: rest) w), Calls Tryd.prog f #[.pointer (some ⟨bF, 0, none⟩)] w (fun x w' => ∃ v fs', x = .returned v ∧ (v = .tuple #[] ∧ fs' = (bF, .cells (fma (g u qs) (pvR gO c (k + n)) true (bd bad qs)) 72 (0, 0)) :: (gO, .cells cur 61 (0, 0)) :: rest) ∧ St w0 [] fs' w')
def rHead (u : OpV) (qs : List PartV) : OpV := { u with sd := smN (pt qs 0).wd, no := (pt qs 1).wd, iv := (pt qs 2).dv, ib := (pt qs 2).db, cv := (pt qs 3).dv, cb := (pt qs 3).db }
def bHead (bad : Bool) (qs : List PartV) : Bool := (bad || !smB (pt qs 0).wd)
theorem head_read : Reads 47 0 4 rHead bHead := by
  intro w0 bF gO c cur qs u bad rest hR hu w hs
  refine calls_sub ?_
  refine calls_inline (args := [_]) Tryd.func47 rfl Tryd.ntmps47 rfl ?_ hs
  (refine CW.seq ?_; refine CW.region ?_; apply LW.v0; rfl; rfl; apply ValP.move; rfl; apply LW.v0; rfl; rfl; apply ValP.move; rfl; apply LW.v0; rfl; rfl; apply ValP.nilCheck; rfl; apply LW.v0; rfl; rfl; apply ValP.fieldAddr; rfl; rfl; apply LW.v0; rfl; rfl; apply ValP.fieldAddr; rfl; rfl)
  refine LW.callSt rfl rfl inferInstance (by (apply ArgsOk.cons; rfl; apply ArgsOk.cons; rfl; exact ArgsOk.nil)) (fun w hs => addr_read (k := 0) (n := u.sd) (u' := { u with sd := smN (pt qs 0).wd }) hR (by decide) hu.sd (Rd.one rfl) (Wr.cells (n := 1) rfl rfl (by show _ + 1 ≤ 20; decide) rfl) w hs) ?_
  rintro v fs' ⟨rfl, rfl⟩
  (apply LW.nil; refine thenN ?_; refine CW.seq ?_; refine CW.region ?_; apply LW.v0; rfl; rfl; apply ValP.move; rfl; apply LW.v0; rfl; rfl; apply ValP.move; rfl; apply LW.v0; rfl; rfl; apply ValP.nilCheck; rfl; apply LW.v0; rfl; rfl; apply ValP.fieldAddr; rfl; rfl; apply LW.v0; rfl; rfl; apply ValP.fieldAddr; rfl; rfl)
  refine LW.callSt rfl rfl inferInstance (by (apply ArgsOk.cons; rfl; apply ArgsOk.cons; rfl; exact ArgsOk.nil)) (fun w hs => wordF_read (k := 1) (u' := { u with sd := smN (pt qs 0).wd, no := (pt qs 1).wd }) hR (by decide) (Wr.cells (n := 4) rfl rfl (by show _ + 4 ≤ 20; decide) rfl) w hs) ?_
  rintro v fs' ⟨rfl, rfl⟩
  (apply LW.nil; refine thenN ?_; refine CW.seq ?_; refine CW.region ?_; apply LW.v0; rfl; rfl; apply ValP.move; rfl; apply LW.v0; rfl; rfl; apply ValP.move; rfl; apply LW.v0; rfl; rfl; apply ValP.nilCheck; rfl; apply LW.v0; rfl; rfl; apply ValP.fieldAddr; rfl; rfl; apply LW.v0; rfl; rfl; apply ValP.fieldAddr; rfl; rfl)
  obtain ⟨a2, n2, c2, hd2⟩ := hR.sl (k := 2) (by decide)
  refine LW.callSt rfl rfl inferInstance (by (apply ArgsOk.cons; rfl; apply ArgsOk.cons; rfl; exact ArgsOk.nil)) (fun w hs => data_read (k := 2) (u' := { u with sd := smN (pt qs 0).wd, no := (pt qs 1).wd, iv := (pt qs 2).dv, ib := (pt qs 2).db }) hR (by decide) (by intro _ _; rw [hd2]; exact (Wr.cells (n := 1) rfl rfl (by show _ + 1 ≤ 20; decide) rfl)) w hs) ?_
  rintro v fs' ⟨rfl, rfl⟩
  (apply LW.nil; refine thenN ?_; refine CW.region ?_; apply LW.v0; rfl; rfl; apply ValP.move; rfl; apply LW.v0; rfl; rfl; apply ValP.move; rfl; apply LW.v0; rfl; rfl; apply ValP.nilCheck; rfl; apply LW.v0; rfl; rfl; apply ValP.fieldAddr; rfl; rfl; apply LW.v0; rfl; rfl; apply ValP.fieldAddr; rfl; rfl)
  obtain ⟨a3, n3, c3, hd3⟩ := hR.sl (k := 3) (by decide)
  refine LW.callSt rfl rfl inferInstance (by (apply ArgsOk.cons; rfl; apply ArgsOk.cons; rfl; exact ArgsOk.nil)) (fun w hs => data_read (k := 3) (u' := { u with sd := smN (pt qs 0).wd, no := (pt qs 1).wd, iv := (pt qs 2).dv, ib := (pt qs 2).db, cv := (pt qs 3).dv, cb := (pt qs 3).db }) hR (by decide) (by intro _ _; rw [hd3]; exact (Wr.cells (n := 1) rfl rfl (by show _ + 1 ≤ 20; decide) rfl)) w hs) ?_
  rintro v fs' ⟨rfl, rfl⟩
  (apply LW.nil)
  (apply inI; exact .inr rfl; exact Shut.nil; rfl; exact ResL.nil; rfl)
  exact ⟨_, List.Sublist.refl _, rfl, rfl⟩
def rGas (u : OpV) (qs : List PartV) : OpV := { u with vg := smN (pt qs 4).wd, cg := smN (pt qs 5).wd, pg := smN (pt qs 6).wd }
def bGas (bad : Bool) (qs : List PartV) : Bool := (((bad || !smB (pt qs 4).wd) || !smB (pt qs 5).wd) || !smB (pt qs 6).wd)
theorem gas_read : Reads 48 4 3 rGas bGas := by
  intro w0 bF gO c cur qs u bad rest hR hu w hs
  refine calls_sub ?_
  refine calls_inline (args := [_]) Tryd.func48 rfl Tryd.ntmps48 rfl ?_ hs
  (refine CW.seq ?_; refine CW.region ?_; apply LW.v0; rfl; rfl; apply ValP.move; rfl; apply LW.v0; rfl; rfl; apply ValP.move; rfl; apply LW.v0; rfl; rfl; apply ValP.nilCheck; rfl; apply LW.v0; rfl; rfl; apply ValP.fieldAddr; rfl; rfl; apply LW.v0; rfl; rfl; apply ValP.fieldAddr; rfl; rfl)
  refine LW.callSt rfl rfl inferInstance (by (apply ArgsOk.cons; rfl; apply ArgsOk.cons; rfl; exact ArgsOk.nil)) (fun w hs => numberF_read (k := 4) (n := u.vg) (u' := { u with vg := smN (pt qs 4).wd }) hR (by decide) hu.vg (Rd.one rfl) (Wr.cells (n := 1) rfl rfl (by show _ + 1 ≤ 20; decide) rfl) w hs) ?_
  rintro v fs' ⟨rfl, rfl⟩
  (apply LW.nil; refine thenN ?_; refine CW.seq ?_; refine CW.region ?_; apply LW.v0; rfl; rfl; apply ValP.move; rfl; apply LW.v0; rfl; rfl; apply ValP.move; rfl; apply LW.v0; rfl; rfl; apply ValP.nilCheck; rfl; apply LW.v0; rfl; rfl; apply ValP.fieldAddr; rfl; rfl; apply LW.v0; rfl; rfl; apply ValP.fieldAddr; rfl; rfl)
  refine LW.callSt rfl rfl inferInstance (by (apply ArgsOk.cons; rfl; apply ArgsOk.cons; rfl; exact ArgsOk.nil)) (fun w hs => numberF_read (k := 5) (n := u.cg) (u' := { u with vg := smN (pt qs 4).wd, cg := smN (pt qs 5).wd }) hR (by decide) hu.cg (Rd.one rfl) (Wr.cells (n := 1) rfl rfl (by show _ + 1 ≤ 20; decide) rfl) w hs) ?_
  rintro v fs' ⟨rfl, rfl⟩
  (apply LW.nil; refine thenN ?_; refine CW.region ?_; apply LW.v0; rfl; rfl; apply ValP.move; rfl; apply LW.v0; rfl; rfl; apply ValP.move; rfl; apply LW.v0; rfl; rfl; apply ValP.nilCheck; rfl; apply LW.v0; rfl; rfl; apply ValP.fieldAddr; rfl; rfl; apply LW.v0; rfl; rfl; apply ValP.fieldAddr; rfl; rfl)
  refine LW.callSt rfl rfl inferInstance (by (apply ArgsOk.cons; rfl; apply ArgsOk.cons; rfl; exact ArgsOk.nil)) (fun w hs => numberF_read (k := 6) (n := u.pg) (u' := { u with vg := smN (pt qs 4).wd, cg := smN (pt qs 5).wd, pg := smN (pt qs 6).wd }) hR (by decide) hu.pg (Rd.one rfl) (Wr.cells (n := 1) rfl rfl (by show _ + 1 ≤ 20; decide) rfl) w hs) ?_
  rintro v fs' ⟨rfl, rfl⟩
  (apply LW.nil)
  (apply inI; exact .inr rfl; exact Shut.nil; rfl; exact ResL.nil; rfl)
  exact ⟨_, List.Sublist.refl _, rfl, rfl⟩
def rFees (u : OpV) (qs : List PartV) : OpV := { u with mf := smN (pt qs 7).wd, mp := smN (pt qs 8).wd }
def bFees (bad : Bool) (qs : List PartV) : Bool := ((bad || !smB (pt qs 7).wd) || !smB (pt qs 8).wd)
theorem fees_read : Reads 49 7 2 rFees bFees := by
  intro w0 bF gO c cur qs u bad rest hR hu w hs
  refine calls_sub ?_
  refine calls_inline (args := [_]) Tryd.func49 rfl Tryd.ntmps49 rfl ?_ hs
  (refine CW.seq ?_; refine CW.region ?_; apply LW.v0; rfl; rfl; apply ValP.move; rfl; apply LW.v0; rfl; rfl; apply ValP.move; rfl; apply LW.v0; rfl; rfl; apply ValP.nilCheck; rfl; apply LW.v0; rfl; rfl; apply ValP.fieldAddr; rfl; rfl; apply LW.v0; rfl; rfl; apply ValP.fieldAddr; rfl; rfl)
  refine LW.callSt rfl rfl inferInstance (by (apply ArgsOk.cons; rfl; apply ArgsOk.cons; rfl; exact ArgsOk.nil)) (fun w hs => numberF_read (k := 7) (n := u.mf) (u' := { u with mf := smN (pt qs 7).wd }) hR (by decide) hu.mf (Rd.one rfl) (Wr.cells (n := 1) rfl rfl (by show _ + 1 ≤ 20; decide) rfl) w hs) ?_
  rintro v fs' ⟨rfl, rfl⟩
  (apply LW.nil; refine thenN ?_; refine CW.region ?_; apply LW.v0; rfl; rfl; apply ValP.move; rfl; apply LW.v0; rfl; rfl; apply ValP.move; rfl; apply LW.v0; rfl; rfl; apply ValP.nilCheck; rfl; apply LW.v0; rfl; rfl; apply ValP.fieldAddr; rfl; rfl; apply LW.v0; rfl; rfl; apply ValP.fieldAddr; rfl; rfl)
  refine LW.callSt rfl rfl inferInstance (by (apply ArgsOk.cons; rfl; apply ArgsOk.cons; rfl; exact ArgsOk.nil)) (fun w hs => numberF_read (k := 8) (n := u.mp) (u' := { u with mf := smN (pt qs 7).wd, mp := smN (pt qs 8).wd }) hR (by decide) hu.mp (Rd.one rfl) (Wr.cells (n := 1) rfl rfl (by show _ + 1 ≤ 20; decide) rfl) w hs) ?_
  rintro v fs' ⟨rfl, rfl⟩
  (apply LW.nil)
  (apply inI; exact .inr rfl; exact Shut.nil; rfl; exact ResL.nil; rfl)
  exact ⟨_, List.Sublist.refl _, rfl, rfl⟩
def rPayer (u : OpV) (qs : List PartV) : OpV := { u with py := smN (pt qs 9).wd, pv := smN (pt qs 10).wd, pp := smN (pt qs 11).wd }
def bPayer (bad : Bool) (qs : List PartV) : Bool := (((bad || !smB (pt qs 9).wd) || !smB (pt qs 10).wd) || !smB (pt qs 11).wd)
theorem payer_read : Reads 50 9 3 rPayer bPayer := by
  intro w0 bF gO c cur qs u bad rest hR hu w hs
  refine calls_sub ?_
  refine calls_inline (args := [_]) Tryd.func50 rfl Tryd.ntmps50 rfl ?_ hs
  (refine CW.seq ?_; refine CW.region ?_; apply LW.v0; rfl; rfl; apply ValP.move; rfl; apply LW.v0; rfl; rfl; apply ValP.move; rfl; apply LW.v0; rfl; rfl; apply ValP.nilCheck; rfl; apply LW.v0; rfl; rfl; apply ValP.fieldAddr; rfl; rfl; apply LW.v0; rfl; rfl; apply ValP.fieldAddr; rfl; rfl)
  refine LW.callSt rfl rfl inferInstance (by (apply ArgsOk.cons; rfl; apply ArgsOk.cons; rfl; exact ArgsOk.nil)) (fun w hs => addr_read (k := 9) (n := u.py) (u' := { u with py := smN (pt qs 9).wd }) hR (by decide) hu.py (Rd.one rfl) (Wr.cells (n := 1) rfl rfl (by show _ + 1 ≤ 20; decide) rfl) w hs) ?_
  rintro v fs' ⟨rfl, rfl⟩
  (apply LW.nil; refine thenN ?_; refine CW.seq ?_; refine CW.region ?_; apply LW.v0; rfl; rfl; apply ValP.move; rfl; apply LW.v0; rfl; rfl; apply ValP.move; rfl; apply LW.v0; rfl; rfl; apply ValP.nilCheck; rfl; apply LW.v0; rfl; rfl; apply ValP.fieldAddr; rfl; rfl; apply LW.v0; rfl; rfl; apply ValP.fieldAddr; rfl; rfl)
  refine LW.callSt rfl rfl inferInstance (by (apply ArgsOk.cons; rfl; apply ArgsOk.cons; rfl; exact ArgsOk.nil)) (fun w hs => numberF_read (k := 10) (n := u.pv) (u' := { u with py := smN (pt qs 9).wd, pv := smN (pt qs 10).wd }) hR (by decide) hu.pv (Rd.one rfl) (Wr.cells (n := 1) rfl rfl (by show _ + 1 ≤ 20; decide) rfl) w hs) ?_
  rintro v fs' ⟨rfl, rfl⟩
  (apply LW.nil; refine thenN ?_; refine CW.region ?_; apply LW.v0; rfl; rfl; apply ValP.move; rfl; apply LW.v0; rfl; rfl; apply ValP.move; rfl; apply LW.v0; rfl; rfl; apply ValP.nilCheck; rfl; apply LW.v0; rfl; rfl; apply ValP.fieldAddr; rfl; rfl; apply LW.v0; rfl; rfl; apply ValP.fieldAddr; rfl; rfl)
  refine LW.callSt rfl rfl inferInstance (by (apply ArgsOk.cons; rfl; apply ArgsOk.cons; rfl; exact ArgsOk.nil)) (fun w hs => numberF_read (k := 11) (n := u.pp) (u' := { u with py := smN (pt qs 9).wd, pv := smN (pt qs 10).wd, pp := smN (pt qs 11).wd }) hR (by decide) hu.pp (Rd.one rfl) (Wr.cells (n := 1) rfl rfl (by show _ + 1 ≤ 20; decide) rfl) w hs) ?_
  rintro v fs' ⟨rfl, rfl⟩
  (apply LW.nil)
  (apply inI; exact .inr rfl; exact Shut.nil; rfl; exact ResL.nil; rfl)
  exact ⟨_, List.Sublist.refl _, rfl, rfl⟩
def rTail (u : OpV) (qs : List PartV) : OpV := { u with dv := (pt qs 12).dv, db := (pt qs 12).db, gv := (pt qs 13).dv, gb := (pt qs 13).db }
def bTail (bad : Bool) (qs : List PartV) : Bool := bad
theorem tail_read : Reads 51 12 2 rTail bTail := by
  intro w0 bF gO c cur qs u bad rest hR hu w hs
  refine calls_sub ?_
  refine calls_inline (args := [_]) Tryd.func51 rfl Tryd.ntmps51 rfl ?_ hs
  (refine CW.seq ?_; refine CW.region ?_; apply LW.v0; rfl; rfl; apply ValP.move; rfl; apply LW.v0; rfl; rfl; apply ValP.move; rfl; apply LW.v0; rfl; rfl; apply ValP.nilCheck; rfl; apply LW.v0; rfl; rfl; apply ValP.fieldAddr; rfl; rfl; apply LW.v0; rfl; rfl; apply ValP.fieldAddr; rfl; rfl)
  obtain ⟨a12, n12, c12, hd12⟩ := hR.sl (k := 12) (by decide)
  refine LW.callSt rfl rfl inferInstance (by (apply ArgsOk.cons; rfl; apply ArgsOk.cons; rfl; exact ArgsOk.nil)) (fun w hs => data_read (k := 12) (u' := { u with dv := (pt qs 12).dv, db := (pt qs 12).db }) hR (by decide) (by intro _ _; rw [hd12]; exact (Wr.cells (n := 1) rfl rfl (by show _ + 1 ≤ 20; decide) rfl)) w hs) ?_
  rintro v fs' ⟨rfl, rfl⟩
  (apply LW.nil; refine thenN ?_; refine CW.region ?_; apply LW.v0; rfl; rfl; apply ValP.move; rfl; apply LW.v0; rfl; rfl; apply ValP.move; rfl; apply LW.v0; rfl; rfl; apply ValP.nilCheck; rfl; apply LW.v0; rfl; rfl; apply ValP.fieldAddr; rfl; rfl; apply LW.v0; rfl; rfl; apply ValP.fieldAddr; rfl; rfl)
  obtain ⟨a13, n13, c13, hd13⟩ := hR.sl (k := 13) (by decide)
  refine LW.callSt rfl rfl inferInstance (by (apply ArgsOk.cons; rfl; apply ArgsOk.cons; rfl; exact ArgsOk.nil)) (fun w hs => data_read (k := 13) (u' := { u with dv := (pt qs 12).dv, db := (pt qs 12).db, gv := (pt qs 13).dv, gb := (pt qs 13).db }) hR (by decide) (by intro _ _; rw [hd13]; exact (Wr.cells (n := 1) rfl rfl (by show _ + 1 ≤ 20; decide) rfl)) w hs) ?_
  rintro v fs' ⟨rfl, rfl⟩
  (apply LW.nil)
  (apply inI; exact .inr rfl; exact Shut.nil; rfl; exact ResL.nil; rfl)
  exact ⟨_, List.Sublist.refl _, rfl, rfl⟩
theorem num_read {gO c : Nat} {cur : Array Value} {qs : List PartV} (hR : RG gO c cur qs) {u : OpV} (hu : OpNum u) : OpNum (rHead u qs) ∧ OpNum (rGas u qs) ∧ OpNum (rFees u qs) ∧ OpNum (rPayer u qs) ∧ OpNum (rTail u qs) :=
  ⟨⟨smN_lt _, (hR.p1 (k := 1) (by decide)).2, hu.vg, hu.cg, hu.pg, hu.mf, hu.mp, hu.py, hu.pv, hu.pp⟩, ⟨hu.sd, hu.no, smN_lt _, smN_lt _, smN_lt _, hu.mf, hu.mp, hu.py, hu.pv, hu.pp⟩,
   ⟨hu.sd, hu.no, hu.vg, hu.cg, hu.pg, smN_lt _, smN_lt _, hu.py, hu.pv, hu.pp⟩, ⟨hu.sd, hu.no, hu.vg, hu.cg, hu.pg, hu.mf, hu.mp, smN_lt _, smN_lt _, smN_lt _⟩, ⟨hu.sd, hu.no, hu.vg, hu.cg, hu.pg, hu.mf, hu.mp, hu.py, hu.pv, hu.pp⟩⟩
def rAll (u : OpV) (qs : List PartV) : OpV := rTail (rPayer (rFees (rGas (rHead u qs) qs) qs) qs) qs
def bAll (bad : Bool) (qs : List PartV) : Bool := bTail (bPayer (bFees (bGas (bHead bad qs) qs) qs) qs) qs
theorem goes_read {w0 : World} {bF gO c : Nat} {cur : Array Value} {qs : List PartV} {u : OpV} {bad : Bool} {rest : Fs} (hR : RG gO c cur qs) (hu : OpNum u) (w : World)
    (hs : St w0 [] ((bF, .cells (fma u (pvR gO c 0) true bad) 72 (0, 0)) :: (gO, .cells cur 61 (0, 0)) :: rest) w) :
    Calls Tryd.prog 34 #[.pointer (some ⟨bF, 0, none⟩)] w (fun x w' => ∃ v fs', x = .returned v ∧ (v = .tuple #[] ∧ fs' = (bF, .cells (fma (rAll u qs) (pvR gO c 14) true (bAll bad qs)) 72 (0, 0)) :: (gO, .cells cur 61 (0, 0)) :: rest) ∧ St w0 [] fs' w') := by
  have hu1 := (num_read hR hu).1
  have hu2 := (num_read hR hu1).2.1
  have hu3 := (num_read hR hu2).2.2.1
  have hu4 := (num_read hR hu3).2.2.2.1
  refine calls_sub ?_
  refine calls_inline (args := [_]) Tryd.func34 rfl Tryd.ntmps34 rfl ?_ hs
  (refine CW.seq ?_; refine CW.region ?_; apply LW.v0; rfl; rfl; apply ValP.move; rfl; apply LW.v0; rfl; rfl; apply ValP.makeFunc; apply ArgsOk.cons; rfl; exact ArgsOk.nil; exact ArgsOk.nil; apply LW.v0; rfl; rfl; apply ValP.move; rfl; apply LW.v0; rfl; rfl; apply ValP.makeFunc; apply ArgsOk.cons; rfl; exact ArgsOk.nil; exact ArgsOk.nil; apply LW.v0; rfl; rfl; apply ValP.move; rfl; apply LW.v0; rfl; rfl; apply ValP.makeFunc; apply ArgsOk.cons; rfl; exact ArgsOk.nil; exact ArgsOk.nil; apply LW.v0; rfl; rfl; apply ValP.move; rfl; apply LW.v0; rfl; rfl; apply ValP.makeFunc; apply ArgsOk.cons; rfl; exact ArgsOk.nil; exact ArgsOk.nil; apply LW.v0; rfl; rfl; apply ValP.move; rfl; apply LW.v0; rfl; rfl; apply ValP.makeFunc; apply ArgsOk.cons; rfl; exact ArgsOk.nil; exact ArgsOk.nil; apply LW.v0; rfl; rfl; apply ValP.buildA; apply PartsOk.cons; rfl; apply PartsOk.cons; rfl; apply PartsOk.cons; rfl; apply PartsOk.cons; rfl; apply PartsOk.cons; rfl; exact PartsOk.nil; rfl; simp only [fillC, wc, wrCells, Value.cells, List.toList_toArray, List.setIfInBounds_toArray, List.set_cons_succ, List.set_cons_zero, Nat.reduceAdd, Nat.reduceMul, Nat.zero_add, Nat.mul_one]; rfl; apply LW.v0; rfl; rfl; apply ValP.move; rfl; apply LW.nil; refine thenN ?_; refine CW.block ?_)
  refine CW.rounds 6 ?_
  apply RW.step
  (refine CW.seq ?_; refine CW.region ?_; apply LW.v0; rfl; rfl; apply ValP.lssT; rfl; rfl; omega; apply LW.nil; refine thenN ?_; refine CW.seq ?_; apply CW.condT; rfl; (with_reducible rfl); refine CW.skip ?_; refine thenN ?_; refine CW.seq ?_; refine CW.block ?_; refine CW.seq ?_; refine CW.region ?_; apply LW.v0; rfl; rfl; apply ValP.indexAL; rfl; rfl; rfl; rfl; rfl; apply LW.v0; rfl; rfl; apply ValP.assign; rfl; apply LW.nil; refine thenN ?_; refine CW.region ?_; apply LW.v0; rfl; rfl; apply ValP.move; rfl)
  refine LW.callStF (aas := [_]) rfl rfl inferInstance .nil rfl (fun w hs => head_read hR hu w hs) ?_
  rintro v fs' ⟨rfl, rfl⟩
  (apply LW.nil; refine blkN ?_; refine thenN ?_; refine CW.region ?_; apply LW.v0; rfl; rfl; apply ValP.addI; rfl; rfl; omega; omega; apply LW.v0; rfl; rfl; apply ValP.move; rfl; apply LW.nil; refine thenL ?_)
  apply RW.step
  (refine CW.seq ?_; refine CW.region ?_; apply LW.v0; rfl; rfl; apply ValP.lssT; rfl; rfl; omega; apply LW.nil; refine thenN ?_; refine CW.seq ?_; apply CW.condT; rfl; (with_reducible rfl); refine CW.skip ?_; refine thenN ?_; refine CW.seq ?_; refine CW.block ?_; refine CW.seq ?_; refine CW.region ?_; apply LW.v0; rfl; rfl; apply ValP.indexAL; rfl; rfl; rfl; rfl; rfl; apply LW.v0; rfl; rfl; apply ValP.assign; rfl; apply LW.nil; refine thenN ?_; refine CW.region ?_; apply LW.v0; rfl; rfl; apply ValP.move; rfl)
  refine LW.callStF (aas := [_]) rfl rfl inferInstance .nil rfl (fun w hs => gas_read hR hu1 w hs) ?_
  rintro v fs' ⟨rfl, rfl⟩
  (apply LW.nil; refine blkN ?_; refine thenN ?_; refine CW.region ?_; apply LW.v0; rfl; rfl; apply ValP.addI; rfl; rfl; omega; omega; apply LW.v0; rfl; rfl; apply ValP.move; rfl; apply LW.nil; refine thenL ?_)
  apply RW.step
  (refine CW.seq ?_; refine CW.region ?_; apply LW.v0; rfl; rfl; apply ValP.lssT; rfl; rfl; omega; apply LW.nil; refine thenN ?_; refine CW.seq ?_; apply CW.condT; rfl; (with_reducible rfl); refine CW.skip ?_; refine thenN ?_; refine CW.seq ?_; refine CW.block ?_; refine CW.seq ?_; refine CW.region ?_; apply LW.v0; rfl; rfl; apply ValP.indexAL; rfl; rfl; rfl; rfl; rfl; apply LW.v0; rfl; rfl; apply ValP.assign; rfl; apply LW.nil; refine thenN ?_; refine CW.region ?_; apply LW.v0; rfl; rfl; apply ValP.move; rfl)
  refine LW.callStF (aas := [_]) rfl rfl inferInstance .nil rfl (fun w hs => fees_read hR hu2 w hs) ?_
  rintro v fs' ⟨rfl, rfl⟩
  (apply LW.nil; refine blkN ?_; refine thenN ?_; refine CW.region ?_; apply LW.v0; rfl; rfl; apply ValP.addI; rfl; rfl; omega; omega; apply LW.v0; rfl; rfl; apply ValP.move; rfl; apply LW.nil; refine thenL ?_)
  apply RW.step
  (refine CW.seq ?_; refine CW.region ?_; apply LW.v0; rfl; rfl; apply ValP.lssT; rfl; rfl; omega; apply LW.nil; refine thenN ?_; refine CW.seq ?_; apply CW.condT; rfl; (with_reducible rfl); refine CW.skip ?_; refine thenN ?_; refine CW.seq ?_; refine CW.block ?_; refine CW.seq ?_; refine CW.region ?_; apply LW.v0; rfl; rfl; apply ValP.indexAL; rfl; rfl; rfl; rfl; rfl; apply LW.v0; rfl; rfl; apply ValP.assign; rfl; apply LW.nil; refine thenN ?_; refine CW.region ?_; apply LW.v0; rfl; rfl; apply ValP.move; rfl)
  refine LW.callStF (aas := [_]) rfl rfl inferInstance .nil rfl (fun w hs => payer_read hR hu3 w hs) ?_
  rintro v fs' ⟨rfl, rfl⟩
  (apply LW.nil; refine blkN ?_; refine thenN ?_; refine CW.region ?_; apply LW.v0; rfl; rfl; apply ValP.addI; rfl; rfl; omega; omega; apply LW.v0; rfl; rfl; apply ValP.move; rfl; apply LW.nil; refine thenL ?_)
  apply RW.step
  (refine CW.seq ?_; refine CW.region ?_; apply LW.v0; rfl; rfl; apply ValP.lssT; rfl; rfl; omega; apply LW.nil; refine thenN ?_; refine CW.seq ?_; apply CW.condT; rfl; (with_reducible rfl); refine CW.skip ?_; refine thenN ?_; refine CW.seq ?_; refine CW.block ?_; refine CW.seq ?_; refine CW.region ?_; apply LW.v0; rfl; rfl; apply ValP.indexAL; rfl; rfl; rfl; rfl; rfl; apply LW.v0; rfl; rfl; apply ValP.assign; rfl; apply LW.nil; refine thenN ?_; refine CW.region ?_; apply LW.v0; rfl; rfl; apply ValP.move; rfl)
  refine LW.callStF (aas := [_]) rfl rfl inferInstance .nil rfl (fun w hs => tail_read hR hu4 w hs) ?_
  rintro v fs' ⟨rfl, rfl⟩
  (apply LW.nil; refine blkN ?_; refine thenN ?_; refine CW.region ?_; apply LW.v0; rfl; rfl; apply ValP.addI; rfl; rfl; omega; omega; apply LW.v0; rfl; rfl; apply ValP.move; rfl; apply LW.nil; refine thenL ?_)
  apply RW.step
  (refine CW.seq ?_; refine CW.region ?_; apply LW.v0; rfl; rfl; apply ValP.lssF; rfl; rfl; omega; apply LW.nil; refine thenN ?_; refine CW.seq ?_; apply CW.condF; rfl; (with_reducible rfl); refine CW.exit ?_; refine thenE ?_; refine thenE ?_; refine blkE rfl ?_)
  (apply inI; exact .inr rfl; exact Shut.nil; rfl; exact ResL.nil; rfl)
  exact ⟨_, List.Sublist.refl _, rfl, rfl⟩
end Go.Proofs.YtobkhnmglbfheaaDoor

/-
  Operations of accounts: the operation of bytes.
  Conditions: none.
-/
namespace Go.Proofs.YtobkhnmglbfheaaDoor
open Go Go.RowKit SL
set_option maxRecDepth 8000
set_option maxHeartbeats 4000000
set_option linter.unusedSimpArgs false
set_option linter.unusedVariables false
attribute [local irreducible] SL.CW SL.LW SL.DW Calls SL.Ret SL.RetG SL.beginQ SL.roundQ SL.rangeQ SL.inQ SL.RW SL.AnyW SL.thenQ SL.thenC SL.thenW SL.blkQ SL.finQ SL.ValP SL.NewP SL.SetP SL.CallP SL.Rd SL.Wr SL.Known
/-- The operation of bytes, and whether there is one. -/
def decU (b : List UInt8) : OpV := rAll u00 (rdL b fmU)
def okD (b : List UInt8) : Prop := rdE b fmU = 0 ∧ bAll false (rdL b fmU) = false ∧ okU (decU b)
instance (b : List UInt8) : Decidable (okD b) := by unfold okD; infer_instance
theorem opD_iff (u v : OpV) : opD u = opD v ↔ sameU u v = true := by
  rw [sameU_iff]
  simp only [opD, wdD, byD, List.cons.injEq, Prod.mk.injEq, true_and, and_true]
  constructor
  · rintro ⟨h1, h2, h3, h4, h5, h6, h7, h8, h9, ha, hb, hc, hd, he⟩
    exact ⟨⟨⟨h1, h2, ha⟩, h5, h6, h7, h8, h9, hb, hc⟩, h3, h4, hd, he⟩
  · rintro ⟨⟨⟨h1, h2, ha⟩, h5, h6, h7, h8, h9, hb, hc⟩, h3, h4, hd, he⟩
    exact ⟨h1, h2, h3, h4, h5, h6, h7, h8, h9, ha, hb, hc, hd, he⟩
theorem okU_dat {u v : OpV} (h : opD u = opD v) : okU u ↔ okU v := by
  obtain ⟨⟨⟨h1, h2, h3⟩, h4, h5, h6, h7, h8, h9, h10⟩, h11, h12, h13, h14⟩ := (sameU_iff u v).1 ((opD_iff u v).1 h)
  unfold okU
  rw [h1, h3, h4, h5, h6, h7, h8, h9, h10, h11, h12, h13, h14]
theorem rAll_dat {qs ms : List PartV} (h : qs.map dat = ms.map dat) (u v : OpV) : opD (rAll u qs) = opD (rAll v ms) ∧ bAll false qs = bAll false ms := by
  have hw : ∀ k, (pt qs k).wd = (pt ms k).wd := fun k => congrArg (·.2.1) (pt_dat h k)
  have hd : ∀ k, (pt qs k).db = (pt ms k).db := fun k => congrArg (·.2.2) (pt_dat h k)
  constructor
  · simp only [opD, rAll, rHead, rGas, rFees, rPayer, rTail, hw, hd]
  · simp only [bAll, bHead, bGas, bFees, bPayer, bTail, hw]
theorem LW.perm {C : Cu} {ops : Array Oper} {Q : Post} {l : List Oper} {e : Env} {fs fs' : Fs} (hp : fs'.Perm fs) (h : LW C ops Q l e fs') : LW C ops Q l e fs := by
  unfold SL.LW at h ⊢
  exact fun a w hs => h a w ⟨hs.env, hs.st.perm hp⟩
theorem rAll_at {qs : List PartV} (hl : qs.length = 14) {w : World} (hd : ∀ p ∈ qs, RowAt w 1 p.dv p.db.length (ucs p.db)) (hs : ∀ p ∈ qs, p.wd < M256) : OpAt w (rAll u00 qs) := by
  have hm : ∀ k, k < 14 → pt qs k ∈ qs := fun k hk => by rw [pt_eq (by omega)]; exact List.getElem_mem _
  exact ⟨⟨smN_lt _, hs _ (hm 1 (by decide)), smN_lt _, smN_lt _, smN_lt _, smN_lt _, smN_lt _, smN_lt _, smN_lt _, smN_lt _⟩, hd _ (hm 2 (by decide)), hd _ (hm 3 (by decide)), hd _ (hm 12 (by decide)), hd _ (hm 13 (by decide))⟩
/-- What Decode hands back. -/
def DecR (b : List UInt8) (v : Value) (gs : Fs) : Prop := ∃ u, v = .tuple #[.agg (opa u), .int .i64 (if okD b then 0 else 280)] ∧ OpGs u gs ∧ opD u = opD (if okD b then decU b else u00)
theorem decR_no {b : List UInt8} (h : ¬okD b) : DecR b (.tuple #[.agg (opa u00), .int .i64 280]) [] := ⟨u00, by rw [if_neg h], fun w _ => u00_at w, by rw [if_neg h]⟩
theorem fm_rdW {P : Program} {T E : TypeId} {fr : Nat × Nat} {u : OpV} {pv : Value} {r b : Bool} {z : Value} [AgI P T true] [InfoI P T 17 z] : Rd P T (.cells (fma u pv r b) E fr) 0 (.agg (opa u)) := Rd.mid (cs := opc u) rfl rfl
theorem Decode_calls (b : List UInt8) (bv : Value) (w : World) (hb : RowAt w 1 bv b.length (ucs b)) : Calls Tryd.prog 16 #[bv] w (RetG w [] (DecR b)) := by
  obtain ⟨p, c, rfl, hc, hm⟩ := hb.form
  have hsl0 : OpSl u00 := (u00_at w).sl
  refine enter (args := [_]) _ [] [] Tryd.func16 rfl Tryd.ntmps16 rfl (by simp) .nil ?_
  (refine CW.seq ?_; refine CW.region ?_; apply LW.allocA; rfl; intro _; apply LW.v0; rfl; rfl; apply ValP.assign; rfl; apply LW.nil; refine thenN ?_; refine CW.seq ?_; refine CW.region ?_; apply LW.v0; rfl; rfl; apply ValP.move; rfl)
  refine LW.callR rfl rfl inferInstance (by (exact ArgsOk.nil)) (fun w hst => long_calls_u w) ?_
  rintro fv gsF hF
  obtain ⟨pf, cf, rfl⟩ := hF.form
  skip
  refine LW.callR rfl rfl inferInstance (by (apply ArgsOk.cons; rfl; apply ArgsOk.cons; rfl; exact ArgsOk.nil)) (fun w hst => Read_pack b fmU _ _ w (hb.st hst) (hF.us (st_us hst (List.sublist_append_left _ _)) (List.Sublist.refl _))) ?_
  rintro v5 gs5 ⟨ov, rfl, hok, hno⟩
  by_cases hE : rdE b fmU = 0
  · obtain ⟨qs, hq, gsD, segO, rfl, hO, hD, hsm⟩ := hok hE
    have hql : qs.length = 14 := by have h := congrArg List.length hq; rw [List.length_map] at h; rw [h]; simp [rdK, fmU]
    rw [hE]
    rw [hql] at hO
    obtain ⟨po, co, rfl⟩ := hO.form
    obtain ⟨gO, cur, rfl, rfl, hn1, hm1, hs1, ht1⟩ := hO.pos (by decide)
    simp only [List.append_assoc, List.cons_append, List.nil_append]
    refine LW.st fun w1 hst1 => ?_
    have hD0 := hD w1 (fun q hq => (hst1.own q (by simp [hq])).2)
    clear hst1
    (apply LW.v0; rfl; rfl; apply ValP.move; rfl; apply LW.v0; rfl; rfl; apply ValP.extractN; rfl; rfl; apply LW.v0; rfl; rfl; apply ValP.extractN; rfl; rfl; apply LW.v0; rfl; rfl; apply ValP.assign; rfl; apply LW.v0; rfl; rfl; apply ValP.assign; rfl; apply LW.nil; refine thenN ?_; refine CW.seq ?_; refine CW.seq ?_; refine CW.region ?_; apply LW.v0; rfl; rfl; apply ValP.move; rfl; apply LW.v0; rfl; rfl; apply ValP.neF; rfl; rfl; omega; apply LW.nil; refine thenN ?_; apply CW.condF; rfl; (with_reducible rfl); refine CW.skip ?_; refine thenN ?_; refine CW.seq ?_; refine CW.region ?_; apply LW.v0; rfl; rfl; apply ValP.move; rfl; apply LW.v0; rfl; rfl; apply ValP.buildT; infer_instance; infer_instance; apply PartsOk.cons; rfl; apply PartsOk.cons; rfl; exact PartsOk.nil; rfl; simp only [opa, opc, wc, fillP, wrCells, Value.cells, List.getElem?_cons_zero, List.getElem?_cons_succ, List.toList_toArray, List.setIfInBounds_toArray, List.set_cons_succ, List.set_cons_zero, Nat.reduceAdd, Nat.zero_add, List.cons_append, List.nil_append]; rfl; apply LW.boxA; rfl; rfl; intro _; apply LW.v0; rfl; rfl; apply ValP.assign; rfl; apply LW.nil; refine thenN ?_; refine CW.seq ?_; refine CW.region ?_; apply LW.v0; rfl; rfl; apply ValP.move; rfl)
    have hone : ∀ p ∈ qs, ∃ a n c, p.dv = .slice a n c := fun p hp => by
      obtain ⟨a, c, h, _⟩ := (hD0 p hp).form
      exact ⟨a, _, c, h⟩
    have hR : RG gO co cur qs := ⟨hql, hn1, hm1, ht1, hsm, hone⟩
    have hdat := rAll_dat (hq.trans (rdL_dat b fmU).symm) u00 u00
    refine LW.perm (List.perm_middle.symm.cons _) ?_
    refine LW.callSt rfl rfl inferInstance (by (apply ArgsOk.cons; rfl; exact ArgsOk.nil)) (fun w hs => goes_read (c := co) (u := u00) (bad := false) hR (u00_at w).num w hs) ?_
    rintro v fs' ⟨rfl, rfl⟩
    rw [hdat.2]
    have hA : ∀ {w'}, (∀ q ∈ gsD, w'.heap[q.1]? = some q.2) → OpAt w' (rAll u00 qs) := fun h => rAll_at hql (hD _ h) hsm
    have hsl : OpSl (rAll u00 qs) := (rAll_at hql hD0 hsm).sl
    rcases hB : bAll false (rdL b fmU) with _ | _
    · by_cases ho : okU (decU b)
      · have hCk : ∀ w', (∀ q ∈ gsD, w'.heap[q.1]? = some q.2) → Calls Tryd.prog 8 #[.agg (opa (rAll u00 qs))] w' (Ret w' (.int .i64 0)) := fun w' h => by
          have := Check_u_calls (rAll u00 qs) w' (hA h)
          rwa [if_pos ((okU_dat hdat.1).2 ho)] at this
        have hd : okD b := ⟨hE, hB, ho⟩
        (apply LW.nil; refine thenN ?_; refine CW.seq ?_; refine CW.seq ?_; refine CW.region ?_; apply LW.v0; rfl; rfl; apply ValP.move; rfl; apply LW.v0; rfl; rfl; apply ValP.nilCheck; rfl; apply LW.v0; rfl; rfl; apply ValP.fieldAddr; rfl; rfl; apply LW.load; rfl; rfl; apply Known.at; apply FsAt.head; exact fm_rd19; apply LW.v0; rfl; rfl; apply ValP.move; rfl; apply LW.guardT'; rfl; rfl; (with_reducible rfl); apply LW.v0; rfl; rfl; apply ValP.move; rfl; apply LW.guardT'; rfl; rfl; (with_reducible rfl); apply LW.v0; rfl; rfl; apply ValP.nilCheck; rfl; apply LW.guardT'; rfl; rfl; (with_reducible rfl); apply LW.v0; rfl; rfl; apply ValP.fieldAddr; rfl; rfl; apply LW.guardT'; rfl; rfl; (with_reducible rfl); apply LW.load; rfl; rfl; apply Known.at; apply FsAt.head; exact fm_rdW; apply LW.guardT'; rfl; rfl; (with_reducible rfl); apply LW.callE; rfl; rfl; infer_instance; apply ArgsOk.cons; rfl; exact ArgsOk.nil; intro w _; exact hCk w (st_us (by assumption) (List.Sublist.cons _ (List.Sublist.cons _ (List.sublist_append_left _ _)))); apply LW.guardT'; rfl; rfl; (with_reducible rfl); apply LW.v0; rfl; rfl; apply ValP.neF; rfl; rfl; omega; apply LW.v0; rfl; rfl; apply ValP.pickF'; rfl; (with_reducible rfl); rfl; apply LW.nil; refine thenN ?_; apply CW.condF; rfl; (with_reducible rfl); refine CW.skip ?_; refine thenN ?_; refine CW.seq ?_; refine CW.region ?_; apply LW.v0; rfl; rfl; apply ValP.move; rfl; apply LW.v0; rfl; rfl; apply ValP.nilCheck; rfl; apply LW.v0; rfl; rfl; apply ValP.fieldAddr; rfl; rfl; apply LW.load; rfl; rfl; apply Known.at; apply FsAt.head; exact fm_rdW; apply LW.store; rfl; rfl; apply SetAt.tail; apply SetAt.tail; apply SetAt.app; apply SetAt.app; apply SetAt.head; apply op_wrW; rfl; assumption; apply LW.v0; rfl; rfl; apply ValP.assign; rfl; apply LW.nil; refine thenN ?_; refine CW.ret ?_)
        refine fin (vs := [.agg (opa (rAll u00 qs)), .int .i64 0]) gsD (.inl rfl) rfl rfl (by (apply ResL.cons; apply Res.cell; rfl; apply Known.at; apply FsAt.tail; apply FsAt.tail; apply FsAt.app; apply FsAt.app; apply FsAt.head; exact op_rdW; apply ResL.cons; exact Res.tmp rfl; exact ResL.nil)) (List.Sublist.cons _ (List.Sublist.cons _ (List.sublist_append_left _ _))) ⟨rAll u00 qs, by rw [if_pos hd]; rfl, fun w' hw => hA hw, by rw [if_pos hd]; exact hdat.1⟩
      · have hCk : ∀ w', (∀ q ∈ gsD, w'.heap[q.1]? = some q.2) → Calls Tryd.prog 8 #[.agg (opa (rAll u00 qs))] w' (Ret w' (.int .i64 280)) := fun w' h => by
          have := Check_u_calls (rAll u00 qs) w' (hA h)
          rwa [if_neg (fun h => ho ((okU_dat hdat.1).1 h))] at this
        have hd : ¬okD b := fun h => ho h.2.2
        (apply LW.nil; refine thenN ?_; refine CW.seq ?_; refine CW.seq ?_; refine CW.region ?_; apply LW.v0; rfl; rfl; apply ValP.move; rfl; apply LW.v0; rfl; rfl; apply ValP.nilCheck; rfl; apply LW.v0; rfl; rfl; apply ValP.fieldAddr; rfl; rfl; apply LW.load; rfl; rfl; apply Known.at; apply FsAt.head; exact fm_rd19; apply LW.v0; rfl; rfl; apply ValP.move; rfl; apply LW.guardT'; rfl; rfl; (with_reducible rfl); apply LW.v0; rfl; rfl; apply ValP.move; rfl; apply LW.guardT'; rfl; rfl; (with_reducible rfl); apply LW.v0; rfl; rfl; apply ValP.nilCheck; rfl; apply LW.guardT'; rfl; rfl; (with_reducible rfl); apply LW.v0; rfl; rfl; apply ValP.fieldAddr; rfl; rfl; apply LW.guardT'; rfl; rfl; (with_reducible rfl); apply LW.load; rfl; rfl; apply Known.at; apply FsAt.head; exact fm_rdW; apply LW.guardT'; rfl; rfl; (with_reducible rfl); apply LW.callE; rfl; rfl; infer_instance; apply ArgsOk.cons; rfl; exact ArgsOk.nil; intro w _; exact hCk w (st_us (by assumption) (List.Sublist.cons _ (List.Sublist.cons _ (List.sublist_append_left _ _)))); apply LW.guardT'; rfl; rfl; (with_reducible rfl); apply LW.v0; rfl; rfl; apply ValP.neT; rfl; rfl; omega; apply LW.v0; rfl; rfl; apply ValP.pickF'; rfl; (with_reducible rfl); rfl; apply LW.nil; refine thenN ?_; apply CW.condT; rfl; (with_reducible rfl); refine CW.seq ?_; refine CW.region ?_; apply LW.v0; rfl; rfl; apply ValP.buildT; infer_instance; infer_instance; exact PartsOk.nil; rfl; simp only [opa, opc, wc, fillP, wrCells, Value.cells, List.getElem?_cons_zero, List.getElem?_cons_succ, List.toList_toArray, List.setIfInBounds_toArray, List.set_cons_succ, List.set_cons_zero, Nat.reduceAdd, Nat.zero_add, List.cons_append, List.nil_append]; rfl; apply LW.store; rfl; rfl; apply SetAt.tail; apply SetAt.tail; apply SetAt.app; apply SetAt.app; apply SetAt.head; apply Wr.whole; rfl; rfl; rfl; apply LW.v0; rfl; rfl; apply ValP.assign; rfl; apply LW.nil; refine thenN ?_; refine CW.ret ?_; refine thenR ?_)
        refine fin (vs := [.agg (opa u00), .int .i64 280]) [] (.inl rfl) rfl rfl (by (apply ResL.cons; apply Res.cell; rfl; apply Known.at; apply FsAt.tail; apply FsAt.tail; apply FsAt.app; apply FsAt.app; apply FsAt.head; exact Rd.whole rfl; apply ResL.cons; exact Res.tmp rfl; exact ResL.nil)) (List.nil_sublist _) (decR_no hd)
    · have hd : ¬okD b := fun h => by have := h.2.1; rw [hB] at this; cases this
      (apply LW.nil; refine thenN ?_; refine CW.seq ?_; refine CW.seq ?_; refine CW.region ?_; apply LW.v0; rfl; rfl; apply ValP.move; rfl; apply LW.v0; rfl; rfl; apply ValP.nilCheck; rfl; apply LW.v0; rfl; rfl; apply ValP.fieldAddr; rfl; rfl; apply LW.load; rfl; rfl; apply Known.at; apply FsAt.head; exact fm_rd19; apply LW.v0; rfl; rfl; apply ValP.move; rfl; apply LW.guardF'; rfl; rfl; simp only [Bool.not_true, Bool.not_false]; rfl; apply LW.guardF'; rfl; rfl; simp only [Bool.not_true, Bool.not_false]; rfl; apply LW.guardF'; rfl; rfl; simp only [Bool.not_true, Bool.not_false]; rfl; apply LW.guardF'; rfl; rfl; simp only [Bool.not_true, Bool.not_false]; rfl; apply LW.guardF'; rfl; rfl; simp only [Bool.not_true, Bool.not_false]; rfl; apply LW.guardF'; rfl; rfl; simp only [Bool.not_true, Bool.not_false]; rfl; apply LW.v0; rfl; rfl; apply ValP.pickT'; rfl; (with_reducible rfl); rfl; apply LW.nil; refine thenN ?_; apply CW.condT; rfl; (with_reducible rfl); refine CW.seq ?_; refine CW.region ?_; apply LW.v0; rfl; rfl; apply ValP.buildT; infer_instance; infer_instance; exact PartsOk.nil; rfl; simp only [opa, opc, wc, fillP, wrCells, Value.cells, List.getElem?_cons_zero, List.getElem?_cons_succ, List.toList_toArray, List.setIfInBounds_toArray, List.set_cons_succ, List.set_cons_zero, Nat.reduceAdd, Nat.zero_add, List.cons_append, List.nil_append]; rfl; apply LW.store; rfl; rfl; apply SetAt.tail; apply SetAt.tail; apply SetAt.app; apply SetAt.app; apply SetAt.head; apply Wr.whole; rfl; rfl; rfl; apply LW.v0; rfl; rfl; apply ValP.assign; rfl; apply LW.nil; refine thenN ?_; refine CW.ret ?_; refine thenR ?_)
      refine fin (vs := [.agg (opa u00), .int .i64 280]) [] (.inl rfl) rfl rfl (by (apply ResL.cons; apply Res.cell; rfl; apply Known.at; apply FsAt.tail; apply FsAt.tail; apply FsAt.app; apply FsAt.app; apply FsAt.head; exact Rd.whole rfl; apply ResL.cons; exact Res.tmp rfl; exact ResL.nil)) (List.nil_sublist _) (decR_no hd)
  · have hd : ¬okD b := fun h => hE h.1
    obtain rfl := hno hE
    (apply LW.v0; rfl; rfl; apply ValP.move; rfl; apply LW.v0; rfl; rfl; apply ValP.extractN; rfl; rfl; apply LW.v0; rfl; rfl; apply ValP.extractN; rfl; rfl; apply LW.v0; rfl; rfl; apply ValP.assign; rfl; apply LW.v0; rfl; rfl; apply ValP.assign; rfl; apply LW.nil; refine thenN ?_; refine CW.seq ?_; refine CW.seq ?_; refine CW.region ?_; apply LW.v0; rfl; rfl; apply ValP.move; rfl; apply LW.v0; rfl; rfl; apply ValP.neT; rfl; rfl; omega; apply LW.nil; refine thenN ?_; apply CW.condT; rfl; (with_reducible rfl); refine CW.seq ?_; refine CW.region ?_; apply LW.v0; rfl; rfl; apply ValP.buildT; infer_instance; infer_instance; exact PartsOk.nil; rfl; simp only [opa, opc, wc, fillP, wrCells, Value.cells, List.getElem?_cons_zero, List.getElem?_cons_succ, List.toList_toArray, List.setIfInBounds_toArray, List.set_cons_succ, List.set_cons_zero, Nat.reduceAdd, Nat.zero_add, List.cons_append, List.nil_append]; rfl; apply LW.store; rfl; rfl; apply SetAt.app; apply SetAt.app; apply SetAt.head; apply Wr.whole; rfl; rfl; rfl; apply LW.v0; rfl; rfl; apply ValP.assign; rfl; apply LW.nil; refine thenN ?_; refine CW.ret ?_; refine thenR ?_)
    refine fin (vs := [.agg (opa u00), .int .i64 280]) [] (.inl rfl) rfl rfl (by (apply ResL.cons; apply Res.cell; rfl; apply Known.at; apply FsAt.app; apply FsAt.app; apply FsAt.head; exact Rd.whole rfl; apply ResL.cons; exact Res.tmp rfl; exact ResL.nil)) (List.nil_sublist _) (decR_no hd)
end Go.Proofs.YtobkhnmglbfheaaDoor

/-
  Operations of accounts and their bytes lead back to one another: the plain law.
  Conditions: none.
-/
namespace Go.Proofs.YtobkhnmglbfheaaDoor
open Go Go.RowKit SL
set_option maxRecDepth 8000
set_option maxHeartbeats 4000000
set_option linter.unusedSimpArgs false
set_option linter.unusedVariables false
attribute [local irreducible] SL.CW SL.LW SL.DW Calls SL.Ret SL.RetG SL.beginQ SL.roundQ SL.rangeQ SL.inQ SL.RW SL.AnyW SL.thenQ SL.thenC SL.thenW SL.blkQ SL.finQ SL.ValP SL.NewP SL.SetP SL.CallP SL.Rd SL.Wr SL.Known
theorem opL_fm (u : OpV) : fmP (opL u) = fmU := rfl
theorem opL_small {u : OpV} (h : OpNum u) : ∀ p ∈ opL u, p.wd < M256 := by
  intro p hp
  have h64 : (18446744073709551616 : Nat) < M256 := by decide
  have h0 : 0 < M256 := by decide
  simp only [opL, opD, List.map_cons, List.map_nil, List.mem_cons, List.not_mem_nil, or_false] at hp
  rcases hp with rfl | rfl | rfl | rfl | rfl | rfl | rfl | rfl | rfl | rfl | rfl | rfl | rfl | rfl
  · exact Nat.lt_trans h.sd h64
  · exact h.no
  · exact h0
  · exact h0
  · exact Nat.lt_trans h.vg h64
  · exact Nat.lt_trans h.cg h64
  · exact Nat.lt_trans h.pg h64
  · exact Nat.lt_trans h.mf h64
  · exact Nat.lt_trans h.mp h64
  · exact Nat.lt_trans h.py h64
  · exact Nat.lt_trans h.pv h64
  · exact Nat.lt_trans h.pp h64
  · exact h0
  · exact h0
theorem smN_of {a : Nat} (h : a < 18446744073709551616) : smN a = a := if_pos h
theorem smB_of {a : Nat} (h : a < 18446744073709551616) : smB a = true := decide_eq_true h
theorem rAll_opL {u : OpV} (h : OpNum u) : opD (rAll u00 (opL u)) = opD u ∧ bAll false (opL u) = false := by
  constructor
  · have e : opD (rAll u00 (opL u)) = [wdD (smN u.sd), wdD u.no, byD u.ib, byD u.cb, wdD (smN u.vg), wdD (smN u.cg), wdD (smN u.pg), wdD (smN u.mf), wdD (smN u.mp), wdD (smN u.py), wdD (smN u.pv), wdD (smN u.pp), byD u.db, byD u.gb] := rfl
    rw [e, smN_of h.sd, smN_of h.vg, smN_of h.cg, smN_of h.pg, smN_of h.mf, smN_of h.mp, smN_of h.py, smN_of h.pv, smN_of h.pp]
    rfl
  · have e : bAll false (opL u) = (((((((((false || !smB u.sd) || !smB u.vg) || !smB u.cg) || !smB u.pg) || !smB u.mf) || !smB u.mp) || !smB u.py) || !smB u.pv) || !smB u.pp) := rfl
    rw [e, smB_of h.sd, smB_of h.vg, smB_of h.cg, smB_of h.pg, smB_of h.mf, smB_of h.mp, smB_of h.py, smB_of h.pv, smB_of h.pp]
    rfl
/-- An operation that may be is read again out of its bytes. -/
theorem dec_enc {u : OpV} (ho : okU u) (hn : OpNum u) : okD (encB u) ∧ opD (decU (encB u)) = opD u := by
  have h := read_laid (opL_chk ho) (opL_small hn)
  rw [opL_fm] at h
  have hd : (rdL (encB u) fmU).map dat = (opL u).map dat := by rw [rdL_dat]; exact h.2
  have h1 := rAll_dat hd u00 u00
  have h2 := rAll_opL hn
  have h3 : opD (decU (encB u)) = opD u := h1.1.trans h2.1
  exact ⟨⟨h.1, h1.2.trans h2.2, (okU_dat h3).2 ho⟩, h3⟩
end Go.Proofs.YtobkhnmglbfheaaDoor

/-
  Verdicts, and when they are due.
  Conditions: none.
-/
namespace Go.Proofs.YtobkhnmglbfheaaDoor
open Go Go.RowKit SL
set_option maxRecDepth 8000
set_option maxHeartbeats 4000000
set_option linter.unusedSimpArgs false
set_option linter.unusedVariables false
attribute [local irreducible] SL.CW SL.LW SL.DW Calls SL.Ret SL.RetG SL.beginQ SL.roundQ SL.rangeQ SL.inQ SL.RW SL.AnyW SL.thenQ SL.thenC SL.thenW SL.blkQ SL.finQ SL.ValP SL.NewP SL.SetP SL.CallP SL.Rd SL.Wr SL.Known
end Go.Proofs.YtobkhnmglbfheaaDoor

/-
  Arguments of the laws on operations, opened.
  Conditions: none.
-/
namespace Go.Proofs.YtobkhnmglbfheaaDoor
open Go Go.RowKit SL
open Go.ChangeShapes Go.WideShapes
set_option linter.unusedVariables false
section op
variable {H : Type} {enc : TypeId × Value → H} {P : Program} {w W : World} {held : Bool} {r : Reach} {base : Nat} {T E : TypeId} {v : Value} {d : DataW H} {ps : List MemPlace}
theorem pair_is {f r : Ty} {cs : List Value} (h : (Ty.pair f r).is w cs) : ∃ a b, cs = a ++ b ∧ f.is w a ∧ r.is w b := ⟨_, _, (List.take_append_drop _ cs).symm, h.1, h.2⟩
theorem is_u64 {cs : List Value} (h : (Ty.int .u64).is w cs) : ∃ n : Nat, n < 18446744073709551616 ∧ cs = [.int .u64 (n : Int)] := by
  obtain ⟨n, rfl, hn⟩ := h
  obtain ⟨k, rfl, hk⟩ := wf_u64 hn
  exact ⟨k, hk, rfl⟩
def tyBs : Ty := .sl (.int .u8)
def tyOp : Ty := .pair (.int .u64) (.pair .word (.pair tyBs (.pair tyBs (.pair (.int .u64) (.pair (.int .u64) (.pair (.int .u64) (.pair (.int .u64) (.pair (.int .u64) (.pair (.int .u64) (.pair (.int .u64) (.pair (.int .u64) (.pair tyBs (.pair tyBs .unit)))))))))))))
theorem is_op {cs : List Value} (h : tyOp.is w cs) : ∃ u : OpV, OpAt w u ∧ cs = opc u := by
  obtain ⟨_, _, rfl, h0, h⟩ := pair_is h
  obtain ⟨_, _, rfl, h1, h⟩ := pair_is h
  obtain ⟨_, _, rfl, h2, h⟩ := pair_is h
  obtain ⟨_, _, rfl, h3, h⟩ := pair_is h
  obtain ⟨_, _, rfl, h4, h⟩ := pair_is h
  obtain ⟨_, _, rfl, h5, h⟩ := pair_is h
  obtain ⟨_, _, rfl, h6, h⟩ := pair_is h
  obtain ⟨_, _, rfl, h7, h⟩ := pair_is h
  obtain ⟨_, _, rfl, h8, h⟩ := pair_is h
  obtain ⟨_, _, rfl, h9, h⟩ := pair_is h
  obtain ⟨_, _, rfl, ha, h⟩ := pair_is h
  obtain ⟨_, _, rfl, hb, h⟩ := pair_is h
  obtain ⟨_, _, rfl, hc, h⟩ := pair_is h
  obtain ⟨_, _, rfl, hd, h⟩ := pair_is h
  obtain rfl : _ = [] := h
  obtain ⟨n0, b0, rfl⟩ := is_u64 h0
  obtain ⟨n1, b1, rfl⟩ := is_word h1
  obtain ⟨⟨v2, l2⟩, b2, rfl⟩ := is_bytes h2
  obtain ⟨⟨v3, l3⟩, b3, rfl⟩ := is_bytes h3
  obtain ⟨n4, b4, rfl⟩ := is_u64 h4
  obtain ⟨n5, b5, rfl⟩ := is_u64 h5
  obtain ⟨n6, b6, rfl⟩ := is_u64 h6
  obtain ⟨n7, b7, rfl⟩ := is_u64 h7
  obtain ⟨n8, b8, rfl⟩ := is_u64 h8
  obtain ⟨n9, b9, rfl⟩ := is_u64 h9
  obtain ⟨na, ba, rfl⟩ := is_u64 ha
  obtain ⟨nb, bb, rfl⟩ := is_u64 hb
  obtain ⟨⟨vc, lc⟩, bc, rfl⟩ := is_bytes hc
  obtain ⟨⟨vd, ld⟩, bd, rfl⟩ := is_bytes hd
  exact ⟨⟨n0, n1, v2, l2, v3, l3, n4, n5, n6, n7, n8, n9, na, nb, vc, lc, vd, ld⟩, ⟨⟨b0, b1, b4, b5, b6, b7, b8, b9, ba, bb⟩, b2, b3, bc, bd⟩, rfl⟩
end op
/-- A row of operations that may be read. -/
structure OpsAt (w : World) (v : Value) (l : List OpV) : Prop where
  row : RowAt w 17 v l.length (l.flatMap opc)
  at_ : ∀ u ∈ l, OpAt w u
end Go.Proofs.YtobkhnmglbfheaaDoor

/-
  Contracts of the sponge: places, turns.
  Conditions: none.
-/
namespace Go.Proofs.YtobkhnmglbfheaaDoor.SK
open Go Go.RowKit SL
set_option maxRecDepth 8000
set_option maxHeartbeats 4000000
set_option linter.unusedSimpArgs false
set_option linter.unusedVariables false
attribute [local irreducible] SL.CW SL.LW SL.DW Calls SL.Ret SL.RetG SL.beginQ SL.roundQ SL.rangeQ SL.inQ SL.RW SL.AnyW SL.thenQ SL.thenC SL.thenW SL.blkQ SL.finQ SL.ValP SL.NewP SL.SetP SL.CallP SL.Rd SL.Wr SL.Known
theorem at_calls (x y : Nat) (hx : x < 1000) (hy : y < 1000) (w : World) : Calls Tryd.prog 87 #[.int .i64 (x : Int), .int .i64 (y : Int)] w (Ret w (.int .i64 ((5 * (y % 5) + x % 5 : Nat) : Int))) := by
  refine enter (args := [_, _]) _ [] [] Tryd.func87 rfl Tryd.ntmps87 rfl (by simp) .nil ?_
  (refine CW.seq ?_; refine CW.region ?_; apply LW.v0; rfl; rfl; apply ValP.assign; rfl; apply LW.nil; refine thenN ?_; refine CW.seq ?_; refine CW.region ?_; apply LW.v0; rfl; rfl; apply ValP.move; rfl; apply LW.v0; rfl; rfl; apply ValP.remZL; rfl; rfl; decide; omega; apply LW.v0; rfl; rfl; apply ValP.mulZK; rfl; rfl; decide; omega; apply LW.v0; rfl; rfl; apply ValP.move; rfl; apply LW.v0; rfl; rfl; apply ValP.remZL; rfl; rfl; decide; omega; apply LW.v0; rfl; rfl; apply ValP.addZ; rfl; rfl; omega; apply LW.v0; rfl; rfl; apply ValP.assign; rfl; apply LW.nil; refine thenN ?_; refine CW.ret ?_)
  (apply finR; exact .inl rfl; rfl; rfl; rfl; apply ResL.cons; exact Res.tmp rfl; exact ResL.nil)
  rfl
def rotl (x n : Nat) : Nat := (x * 2 ^ n % 18446744073709551616) ||| (x / 2 ^ (64 - n))
theorem rot_calls (x n : Nat) (hx : x < 18446744073709551616) (hn : n < 64) (w : World) : Calls Tryd.prog 91 #[.int .u64 (x : Int), .int .i64 (n : Int)] w (Ret w (.int .u64 ((rotl x n : Nat) : Int))) := by
  have h63 : n &&& 63 = n := by rw [show (63 : Nat) = 2 ^ 6 - 1 from rfl, Nat.and_two_pow_sub_one_eq_mod]; exact Nat.mod_eq_of_lt hn
  refine enter (args := [_, _]) _ [] [] Tryd.func91 rfl Tryd.ntmps91 rfl (by simp) .nil ?_
  unfold rotl
  conv in (2 ^ n) => rw [← h63]
  conv in (64 - n) => rw [← h63]
  (refine CW.seq ?_; refine CW.region ?_; apply LW.v0; rfl; rfl; apply ValP.assign; rfl; apply LW.nil; refine thenN ?_; refine CW.seq ?_; refine CW.region ?_; apply LW.v0; rfl; rfl; apply ValP.move; rfl; apply LW.v0; rfl; rfl; apply ValP.convN; rfl; omega; omega; apply LW.v0; rfl; rfl; apply ValP.andUL; rfl; rfl; decide; omega; omega; apply LW.v0; rfl; rfl; apply ValP.assign; rfl; apply LW.nil; refine thenN ?_; refine CW.seq ?_; refine CW.region ?_; apply LW.v0; rfl; rfl; apply ValP.move; rfl; apply LW.v0; rfl; rfl; apply ValP.move; rfl; apply LW.v0; rfl; rfl; apply ValP.shlU; rfl; rfl; omega; apply LW.v0; rfl; rfl; apply ValP.move; rfl; apply LW.v0; rfl; rfl; apply ValP.move; rfl; apply LW.v0; rfl; rfl; apply ValP.subNK; rfl; rfl; decide; omega; omega; apply LW.v0; rfl; rfl; apply ValP.shrU; rfl; rfl; omega; apply LW.v0; rfl; rfl; apply ValP.orU; rfl; rfl; omega; apply div64; omega; apply LW.v0; rfl; rfl; apply ValP.assign; rfl; apply LW.nil; refine thenN ?_; refine CW.ret ?_)
  (apply finR; exact .inl rfl; rfl; rfl; rfl; apply ResL.cons; exact Res.tmp rfl; exact ResL.nil)
  rfl
theorem turned_calls (x n : Nat) (hx : x < 18446744073709551616) (hn : n < 64) (w : World) : Calls Tryd.prog 88 #[.int .u64 (x : Int), .int .i64 (n : Int)] w (Ret w (.int .u64 ((rotl x n : Nat) : Int))) := by
  refine enter (args := [_, _]) _ [] [] Tryd.func88 rfl Tryd.ntmps88 rfl (by simp) .nil ?_
  (refine CW.seq ?_; refine CW.region ?_; apply LW.v0; rfl; rfl; apply ValP.assign; rfl; apply LW.nil; refine thenN ?_; refine CW.seq ?_; refine CW.region ?_; apply LW.v0; rfl; rfl; apply ValP.move; rfl; apply LW.v0; rfl; rfl; apply ValP.move; rfl; apply LW.callE; rfl; rfl; infer_instance; apply ArgsOk.cons; rfl; apply ArgsOk.cons; rfl; exact ArgsOk.nil; intro w _; exact rot_calls x n hx hn w; apply LW.v0; rfl; rfl; apply ValP.assign; rfl; apply LW.nil; refine thenN ?_; refine CW.ret ?_)
  (apply finR; exact .inl rfl; rfl; rfl; rfl; apply ResL.cons; exact Res.tmp rfl; exact ResL.nil)
  rfl
/-! ### Rows -/
def rowV (L : List Nat) (x y : Nat) : Nat := L.getD (5 * (y % 5) + x % 5) 0 ^^^ ((18446744073709551615 - L.getD (5 * (y % 5) + (x + 1) % 5) 0) &&& L.getD (5 * (y % 5) + (x + 2) % 5) 0)
def rowsF (L : List Nat) : Nat → List Nat
  | 0 => List.replicate 25 0
  | k + 1 => (rowsF L k).set (5 * (k / 5 % 5) + k % 5 % 5) (rowV L (k % 5) (k / 5))
theorem rowsF_len (L : List Nat) (k : Nat) : (rowsF L k).length = 25 := by
  induction k with
  | zero => simp [rowsF]
  | succ k ih => simp [rowsF, ih]
theorem rowsF_step (L : List Nat) (x y : Nat) (hx : x < 5) : rowsF L (5 * y + x + 1) = (rowsF L (5 * y + x)).set (5 * (y % 5) + x % 5) (rowV L x y) := by
  rw [rowsF, show (5 * y + x) / 5 = y by omega, show (5 * y + x) % 5 = x by omega]
theorem places_calls (w : World) : Calls Tryd.prog 86 #[] w (Ret w (.func (.func 90) #[] #[])) := by
  refine enter (args := []) _ [] [] Tryd.func86 rfl Tryd.ntmps86 rfl (by simp) .nil ?_
  (refine CW.seq ?_; refine CW.region ?_; apply LW.v0; rfl; rfl; apply ValP.assign; rfl; apply LW.nil; refine thenN ?_; refine CW.seq ?_; refine CW.region ?_; apply LW.v0; rfl; rfl; apply ValP.assign; rfl; apply LW.nil; refine thenN ?_; refine CW.ret ?_)
  (apply finR; exact .inl rfl; rfl; rfl; rfl; apply ResL.cons; exact Res.tmp rfl; exact ResL.nil)
  rfl
theorem Rows_calls (L : List Nat) (hL : L.length = 25) (hb : ∀ i, L.getD i 0 < 18446744073709551616) (w : World) : Calls Tryd.prog 81 #[.agg (nca L)] w (Ret w (.agg (nca (rowsF L 25)))) := by
  refine enter (args := [_]) _ [] [] Tryd.func81 rfl Tryd.ntmps81 rfl (by simp) .nil ?_
  (refine CW.seq ?_; refine CW.region ?_; apply LW.boxA; rfl; rfl; intro _; apply LW.allocA; rfl; intro _; apply LW.nil; refine thenN ?_; refine CW.seq ?_; refine CW.seq ?_; refine CW.region ?_; apply LW.callE; rfl; rfl; infer_instance; exact ArgsOk.nil; intro w _; exact places_calls w; apply LW.nil; refine thenN ?_; refine CW.block ?_)
  rename_i b1 b2
  apply CW.rangeFunc
  rfl
  rfl
  infer_instance
  rfl
  exact Tryd.func90
  rfl
  exact Tryd.ntmps90
  rfl
  rfl
  intro l r rec hrec
  (refine CW.scope ?_; refine CW.seq ?_; refine CW.label ?_; refine thenN ?_; refine CW.seq ?_; refine CW.region ?_; apply LW.v0; rfl; rfl; apply ValP.move; rfl; apply LW.nil; refine thenN ?_; refine CW.block ?_)
  refine CW.loop (fun y : Nat => ([(4, .int .i64 (y : Int)), (0, .func (.yield l) #[] #[])],
    [(l, rdy rec), (r, .deferred (some [])), (b2, .cells (nca (rowsF L (5 * y))) 102 (0, 0)), (b1, .cells (nca L) 102 (0, 0))]))
    (fun y => y ≤ 5) (fun y => 5 - y) 0 (Nat.zero_le _) ⟨rfl, rfl, trivial⟩ (List.Sublist.refl _) ?_
  intro y hy
  dsimp only at hy ⊢
  rcases Nat.lt_or_ge y 5 with hy5 | hy5
  · (refine CW.seq ?_; refine CW.region ?_; apply LW.v0; rfl; rfl; apply ValP.lssT; rfl; rfl; omega; apply LW.nil; refine thenN ?_; refine CW.seq ?_; apply CW.condT; rfl; (with_reducible rfl); refine CW.skip ?_; refine thenN ?_; refine CW.seq ?_; refine CW.block ?_; refine CW.seq ?_; refine CW.region ?_; apply LW.v0; rfl; rfl; apply ValP.move; rfl; apply LW.v0; rfl; rfl; apply ValP.assign; rfl; apply LW.nil; refine thenN ?_; refine CW.seq ?_; refine CW.region ?_; apply LW.v0; rfl; rfl; apply ValP.move; rfl; apply LW.nil; refine thenN ?_; refine CW.block ?_)
    refine CW.loop (fun x : Nat => ([(7, .int .i64 (x : Int)), (2, .int .i64 (y : Int)), (4, .int .i64 (y : Int)), (0, .func (.yield l) #[] #[])],
      [(l, rdy rec), (r, .deferred (some [])), (b2, .cells (nca (rowsF L (5 * y + x))) 102 (0, 0)), (b1, .cells (nca L) 102 (0, 0))]))
      (fun x => x ≤ 5) (fun x => 5 - x) 0 (Nat.zero_le _) ⟨rfl, rfl, rfl, rfl, trivial⟩ (List.Sublist.refl _) ?_
    intro x hx
    dsimp only at hx ⊢
    rcases Nat.lt_or_ge x 5 with hx5 | hx5
    · have hlen := rowsF_len L (5 * y + x)
      (refine CW.seq ?_; refine CW.region ?_; apply LW.v0; rfl; rfl; apply ValP.lssT; rfl; rfl; omega; apply LW.nil; refine thenN ?_; refine CW.seq ?_; apply CW.condT; rfl; (with_reducible rfl); refine CW.skip ?_; refine thenN ?_; refine CW.seq ?_; refine CW.block ?_; refine CW.seq ?_; refine CW.region ?_; apply LW.v0; rfl; rfl; apply ValP.move; rfl; apply LW.v0; rfl; rfl; apply ValP.assign; rfl; apply LW.nil; refine thenN ?_; refine CW.seq ?_; refine CW.region ?_; apply LW.v0; rfl; rfl; apply ValP.move; rfl; apply LW.v0; rfl; rfl; apply ValP.move; rfl; apply LW.v0; rfl; rfl; apply ValP.move; rfl)
      apply LW.yield
      rfl
      rfl
      (apply ArgsOk.cons; rfl; apply ArgsOk.cons; rfl; exact ArgsOk.nil)
      exact hrec
      (apply FsAt.head)
      rfl
      rfl
      (refine CW.seq ?_; refine CW.region ?_; apply LW.v0; rfl; rfl; apply ValP.assign; rfl; apply LW.nil; refine thenN ?_; refine CW.region ?_; apply LW.v0; rfl; rfl; apply ValP.assign; rfl; apply LW.nil; apply beginI; apply SetAt.head; refine CW.block ?_; apply CW.pre; refine AnyW.any 22 mixed (by decide +kernel) ?_; (try simp only [tsOf_cons, tsOf_nil, tsOf_app]); apply DW.v0; rfl; rfl; rfl; exact WantT.none; rfl; apply ValP.move; rfl; apply DW.v0; rfl; rfl; rfl; exact WantT.none; rfl; apply ValP.move; rfl; apply DW.callE; rfl; rfl; rfl; exact WantT.none; rfl; infer_instance; apply ArgsOk.cons; rfl; apply ArgsOk.cons; rfl; exact ArgsOk.nil; rfl; exact ReadAll.nil; intro w _ _; refine at_calls _ _ ?_ ?_ w; omega; omega; apply DW.v0; rfl; rfl; rfl; exact WantT.none; rfl; apply ValP.move; rfl; apply DW.v0; rfl; rfl; rfl; exact WantT.none; rfl; apply ValP.move; rfl; apply DW.callE; rfl; rfl; rfl; exact WantT.none; rfl; infer_instance; apply ArgsOk.cons; rfl; apply ArgsOk.cons; rfl; exact ArgsOk.nil; rfl; exact ReadAll.nil; intro w _ _; refine at_calls _ _ ?_ ?_ w; omega; omega; apply DW.v0; rfl; rfl; rfl; exact WantT.none; rfl; apply ValP.indexAddrA; rfl; rfl; rfl; omega; apply DW.loadO; rfl; rfl; rfl; exact WantT.none; rfl; apply TRead.tail; apply TRead.tail; apply TRead.tail; apply TRead.head; exact ancB_nil; apply rd_nca; omega; apply DW.v0; rfl; rfl; rfl; exact WantT.none; rfl; apply ValP.move; rfl; apply DW.v0; rfl; rfl; rfl; exact WantT.none; rfl; apply ValP.addZL; rfl; rfl; decide; omega; apply DW.v0; rfl; rfl; rfl; exact WantT.none; rfl; apply ValP.move; rfl; apply DW.callE; rfl; rfl; rfl; exact WantT.none; rfl; infer_instance; apply ArgsOk.cons; rfl; apply ArgsOk.cons; rfl; exact ArgsOk.nil; rfl; exact ReadAll.nil; intro w _ _; refine at_calls _ _ ?_ ?_ w; omega; omega; apply DW.v0; rfl; rfl; rfl; exact WantT.none; rfl; apply ValP.indexAddrA; rfl; rfl; rfl; omega; apply DW.loadO; rfl; rfl; rfl; exact WantT.none; rfl; apply TRead.tail; apply TRead.tail; apply TRead.tail; apply TRead.head; exact ancB_nil; apply rd_nca; omega; apply DW.v0; rfl; rfl; rfl; exact WantT.none; rfl; apply ValP.notU; rfl; exact hb _; apply DW.v0; rfl; rfl; rfl; exact WantT.none; rfl; apply ValP.move; rfl; apply DW.v0; rfl; rfl; rfl; exact WantT.none; rfl; apply ValP.addZL; rfl; rfl; decide; omega; apply DW.v0; rfl; rfl; rfl; exact WantT.none; rfl; apply ValP.move; rfl; apply DW.callE; rfl; rfl; rfl; exact WantT.none; rfl; infer_instance; apply ArgsOk.cons; rfl; apply ArgsOk.cons; rfl; exact ArgsOk.nil; rfl; exact ReadAll.nil; intro w _ _; refine at_calls _ _ ?_ ?_ w; omega; omega; apply DW.v0; rfl; rfl; rfl; exact WantT.none; rfl; apply ValP.indexAddrA; rfl; rfl; rfl; omega; apply DW.loadO; rfl; rfl; rfl; exact WantT.none; rfl; apply TRead.tail; apply TRead.tail; apply TRead.tail; apply TRead.head; exact ancB_nil; apply rd_nca; omega; apply DW.v0; rfl; rfl; rfl; exact WantT.none; rfl; apply ValP.andU; rfl; rfl; omega; exact hb _; apply DW.nil; simp only [fsOf_cons, fsOf_nil, fsOf_app, fsOf_tsOf, fsOf_new]; apply LW.v0; rfl; rfl; apply ValP.xorU; rfl; rfl; exact hb _; apply and64; omega; apply LW.v0; rfl; rfl; apply ValP.indexAddrA; rfl; rfl; rfl; omega; apply LW.store; rfl; rfl; apply SetAt.tail; apply SetAt.tail; apply SetAt.head; apply wr_nca; omega; apply LW.nil; refine blkN ?_; apply roundN; apply SetAt.head; apply LW.v0; rfl; rfl; apply ValP.notT; rfl; (with_reducible rfl); apply LW.nil; refine thenN ?_; apply CW.condF; rfl; (with_reducible rfl); refine CW.skip ?_; refine blkN ?_; refine thenN ?_; refine CW.region ?_; apply LW.v0; rfl; rfl; apply ValP.addZL; rfl; rfl; decide; omega; apply LW.v0; rfl; rfl; apply ValP.move; rfl; apply LW.nil)
      refine thenX ⟨rfl, x + 1, hx5, by omega, ⟨rfl, rfl, rfl, rfl, trivial⟩, ?_⟩
      rw [← Nat.add_assoc, rowsF_step L x y hx5]
      exact List.Sublist.refl _
    · obtain rfl : x = 5 := by omega
      (refine CW.seq ?_; refine CW.region ?_; apply LW.v0; rfl; rfl; apply ValP.lssF; rfl; rfl; omega; apply LW.nil; refine thenN ?_; refine CW.seq ?_; apply CW.condF; rfl; (with_reducible rfl); refine CW.exit ?_; refine thenE ?_; refine thenE ?_; refine blkE rfl ?_; refine blkN ?_; refine thenN ?_; refine CW.region ?_; apply LW.v0; rfl; rfl; apply ValP.addZL; rfl; rfl; decide; omega; apply LW.v0; rfl; rfl; apply ValP.move; rfl; apply LW.nil)
      refine thenX ⟨rfl, y + 1, hy5, by omega, ⟨rfl, rfl, trivial⟩, ?_⟩
      rw [show 5 * (y + 1) = 5 * y + 5 by omega]
      exact List.Sublist.refl _
  · obtain rfl : y = 5 := by omega
    have hlen := rowsF_len L 25
    (refine CW.seq ?_; refine CW.region ?_; apply LW.v0; rfl; rfl; apply ValP.lssF; rfl; rfl; omega; apply LW.nil; refine thenN ?_; refine CW.seq ?_; apply CW.condF; rfl; (with_reducible rfl); refine CW.exit ?_; refine thenE ?_; refine thenE ?_; refine blkE rfl ?_; refine scopeQ.n ?_)
    apply rangeN
    (exact .inr rfl)
    (exact Shut.nil)
    (apply SetAt.head)
    (refine blkN ?_; refine thenM ?_; refine CW.seq ?_; refine CW.region ?_; apply LW.load; rfl; rfl; apply Known.at; apply FsAt.tail; apply FsAt.tail; apply FsAt.head; apply rd_ncaW; assumption; apply LW.store; rfl; rfl; apply SetAt.tail; apply SetAt.tail; apply SetAt.head; apply wr_ncaW; assumption; assumption; apply LW.nil; refine thenN ?_; refine CW.ret ?_)
    (apply finRM; exact .inl rfl; apply Shut.cons; apply SetAt.tail; apply SetAt.head; exact Shut.nil; rfl; rfl; apply ResL.cons; apply Res.cell; rfl; apply Known.at; apply FsAt.tail; apply FsAt.tail; apply FsAt.head; apply rd_ncaW; assumption; exact ResL.nil)
    rfl
end Go.Proofs.YtobkhnmglbfheaaDoor.SK

/-
  Contracts of the sponge: lanes mixed.
  Conditions: none.
-/
namespace Go.Proofs.YtobkhnmglbfheaaDoor.SK
open Go Go.RowKit SL
set_option maxRecDepth 8000
set_option maxHeartbeats 4000000
set_option linter.unusedSimpArgs false
set_option linter.unusedVariables false
attribute [local irreducible] SL.CW SL.LW SL.DW Calls SL.Ret SL.RetG SL.beginQ SL.roundQ SL.rangeQ SL.inQ SL.RW SL.AnyW SL.thenQ SL.thenC SL.thenW SL.blkQ SL.finQ SL.ValP SL.NewP SL.SetP SL.CallP SL.Rd SL.Wr SL.Known
/-! ### The tables that are laid -/
def turnL : List Nat := [0, 1, 62, 28, 27, 36, 44, 6, 55, 20, 3, 10, 43, 25, 39, 41, 45, 15, 21, 8, 18, 2, 61, 56, 14]
def numL : List Nat := [1, 32898, 9223372036854808714, 9223372039002292224, 32907, 2147483649, 9223372039002292353, 9223372036854808585, 138, 136, 2147516425, 2147483658, 2147516555, 9223372036854775947, 9223372036854808713, 9223372036854808579, 9223372036854808578, 9223372036854775936, 32778, 9223372039002259466, 9223372039002292353, 9223372036854808704, 2147483649, 9223372039002292232]
def ica (L : List Nat) : Array Value := (ics L).toArray
theorem ics_map (l : List Nat) : ics l = l.map fun (x : Nat) => Value.int .i64 (x : Int) := by
  induction l with
  | nil => rfl
  | cons a l ih => simp [ics] at *; exact ih
theorem rd_ica {P : Program} {T E : TypeId} {fr : Nat × Nat} {L : List Nat} {i : Nat} [AgI P T false] (hi : i < L.length) : Rd P T (.cells (ica L) E fr) (0 + i * 1) (.int .i64 ((L.getD i 0 : Nat) : Int)) :=
  Rd.one (by rw [Nat.zero_add, Nat.mul_one]; simp [ica, ics_map, hi, List.getD_eq_getElem?_getD])
def NumAt (w : World) : Prop := ∃ E fr, w.heap[0]? = some (.cells (nca numL) E fr)
def TurnAt (w : World) : Prop := ∃ E fr, w.heap[1]? = some (.cells (ica turnL) E fr)
theorem NumAt.st {w w' : World} {fs : Fs} (h : NumAt w) (hs : St w [] fs w') : NumAt w' := by
  obtain ⟨E, fr, h⟩ := h
  exact ⟨E, fr, by rw [hs.bel.block _ (Array.getElem?_eq_some_iff.1 h).1 (by simp)]; exact h⟩
theorem TurnAt.st {w w' : World} {fs : Fs} (h : TurnAt w) (hs : St w [] fs w') : TurnAt w' := by
  obtain ⟨E, fr, h⟩ := h
  exact ⟨E, fr, by rw [hs.bel.block _ (Array.getElem?_eq_some_iff.1 h).1 (by simp)]; exact h⟩
theorem turnL_lt : ∀ i, turnL.getD i 0 < 64 := fun i => by
  rcases Nat.lt_or_ge i 25 with h | h
  · exact (by decide : ∀ i, i < 25 → turnL.getD i 0 < 64) i h
  · rw [List.getD_eq_getElem?_getD, List.getElem?_eq_none (by simpa [turnL] using h)]; decide
/-! ### Mix -/
theorem getD_set_lt {L : List Nat} {N i x : Nat} (h : ∀ j, L.getD j 0 < N) (hx : x < N) : ∀ j, (L.set i x).getD j 0 < N := fun j => by
  have hj := h j
  rw [List.getD_eq_getElem?_getD] at hj ⊢
  rw [List.getElem?_set]
  split
  · split
    · exact hx
    · exact Nat.lt_of_le_of_lt (Nat.zero_le _) hx
  · exact hj
theorem xor_lt {a b : Nat} (ha : a < 18446744073709551616) (hb : b < 18446744073709551616) : a ^^^ b < 18446744073709551616 := Nat.xor_lt_two_pow (n := 64) ha hb
theorem rotl_lt {x n : Nat} (hx : x < 18446744073709551616) : rotl x n < 18446744073709551616 := Nat.or_lt_two_pow (n := 64) (Nat.mod_lt _ (by decide)) (Nat.lt_of_le_of_lt (Nat.div_le_self _ _) hx)
def cF (L : List Nat) : Nat → List Nat
  | 0 => List.replicate 5 0
  | k + 1 => (cF L k).set (k % 5) ((cF L k).getD (k % 5) 0 ^^^ L.getD (5 * (k / 5 % 5) + k % 5 % 5) 0)
theorem cF_len (L : List Nat) (k : Nat) : (cF L k).length = 5 := by
  induction k with
  | zero => simp [cF]
  | succ k ih => simp [cF, ih]
theorem rep_lt (n : Nat) : ∀ i, (List.replicate n 0).getD i 0 < 18446744073709551616 := fun i => by
  rw [List.getD_eq_getElem?_getD, List.getElem?_replicate]; split <;> decide
theorem cF_lt (L : List Nat) (hb : ∀ i, L.getD i 0 < 18446744073709551616) (k : Nat) : ∀ i, (cF L k).getD i 0 < 18446744073709551616 := by
  induction k with
  | zero => exact rep_lt 5
  | succ k ih => exact getD_set_lt ih (xor_lt (ih _) (hb _))
theorem cF_step (L : List Nat) (x y : Nat) (hx : x < 5) : cF L (5 * y + x + 1) = (cF L (5 * y + x)).set x ((cF L (5 * y + x)).getD x 0 ^^^ L.getD (5 * (y % 5) + x % 5) 0) := by
  rw [cF, show (5 * y + x) / 5 = y by omega, show (5 * y + x) % 5 = x by omega]
def mixV (L C : List Nat) (x y : Nat) : Nat := rotl (L.getD (5 * (y % 5) + x % 5) 0 ^^^ (C.getD ((x + 5 - 1) % 5) 0 ^^^ rotl (C.getD ((x + 1) % 5) 0) 1)) (turnL.getD (5 * (y % 5) + x % 5) 0)
def mixF (L C : List Nat) : Nat → List Nat
  | 0 => List.replicate 25 0
  | k + 1 => (mixF L C k).set (5 * ((2 * (k % 5) + 3 * (k / 5)) % 5) + k / 5 % 5) (mixV L C (k % 5) (k / 5))
theorem mixF_len (L C : List Nat) (k : Nat) : (mixF L C k).length = 25 := by
  induction k with
  | zero => simp [mixF]
  | succ k ih => simp [mixF, ih]
theorem mixV_lt (L C : List Nat) (hb : ∀ i, L.getD i 0 < 18446744073709551616) (hc : ∀ i, C.getD i 0 < 18446744073709551616) (x y : Nat) : mixV L C x y < 18446744073709551616 := rotl_lt (xor_lt (hb _) (xor_lt (hc _) (rotl_lt (hc _))))
theorem mixF_lt (L C : List Nat) (hb : ∀ i, L.getD i 0 < 18446744073709551616) (hc : ∀ i, C.getD i 0 < 18446744073709551616) (k : Nat) : ∀ i, (mixF L C k).getD i 0 < 18446744073709551616 := by
  induction k with
  | zero => exact rep_lt 25
  | succ k ih => exact getD_set_lt ih (mixV_lt L C hb hc _ _)
theorem mixF_step (L C : List Nat) (x y : Nat) (hx : x < 5) : mixF L C (5 * y + x + 1) = (mixF L C (5 * y + x)).set (5 * ((2 * x + 3 * y) % 5) + y % 5) (mixV L C x y) := by
  rw [mixF, show (5 * y + x) / 5 = y by omega, show (5 * y + x) % 5 = x by omega]
def mixL (L : List Nat) : List Nat := mixF L (cF L 25) 25
theorem rd_turn {T E : TypeId} {fr : Nat × Nat} {i : Nat} [AgI Tryd.prog T false] (hi : i < 25) : Rd Tryd.prog T (.cells (ica turnL) E fr) (0 + i * 1) (.int .i64 ((turnL.getD i 0 : Nat) : Int)) := rd_ica (L := turnL) hi
theorem cF_zero (L : List Nat) : cF L 0 = List.replicate 5 0 := rfl
theorem mixF_zero (L C : List Nat) : mixF L C 0 = List.replicate 25 0 := rfl
attribute [local irreducible] turnL cF mixF
theorem Mix_calls (L : List Nat) (hL : L.length = 25) (hb : ∀ i, L.getD i 0 < 18446744073709551616) (w : World) (hT : TurnAt w) : Calls Tryd.prog 82 #[.agg (nca L)] w (Ret w (.agg (nca (mixL L)))) := by
  obtain ⟨ET, frT, hT⟩ := hT
  have hcb := cF_lt L hb
  obtain ⟨C, hC⟩ : ∃ C, C = cF L 25 := ⟨_, rfl⟩
  have hCb : ∀ i, C.getD i 0 < 18446744073709551616 := fun i => by rw [hC]; exact hcb 25 i
  have hCl : C.length = 5 := by rw [hC]; exact cF_len L 25
  have hr1 : ∀ i, rotl (C.getD i 0) 1 < 18446744073709551616 := fun i => rotl_lt (hCb i)
  have hk1 : ∀ i w, Calls Tryd.prog 88 #[.int .u64 ((C.getD i 0 : Nat) : Int), .int .i64 1] w (Ret w (.int .u64 ((rotl (C.getD i 0) 1 : Nat) : Int))) := fun i w => turned_calls _ 1 (hCb i) (by decide) w
  have hk2 : ∀ v i w, v < 18446744073709551616 → Calls Tryd.prog 88 #[.int .u64 ((v : Nat) : Int), .int .i64 ((turnL.getD i 0 : Nat) : Int)] w (Ret w (.int .u64 ((rotl v (turnL.getD i 0) : Nat) : Int))) := fun v i w hv => turned_calls v _ hv (turnL_lt i) w
  have hd : (0 : Nat) < 18446744073709551616 := by decide
  refine enter (args := [_]) _ [] [] Tryd.func82 rfl Tryd.ntmps82 rfl (by simp) .nil ?_
  (refine CW.seq ?_; refine CW.region ?_; apply LW.boxA; rfl; rfl; intro _; apply LW.allocA; rfl; intro _; apply LW.nil; refine thenN ?_; refine CW.seq ?_; refine CW.region ?_; apply LW.allocA; rfl; intro _; apply LW.nil; refine thenN ?_; refine CW.seq ?_; refine CW.seq ?_; refine CW.region ?_; apply LW.callE; rfl; rfl; infer_instance; exact ArgsOk.nil; intro w _; exact places_calls w; apply LW.nil; refine thenN ?_; refine CW.block ?_)
  rename_i b1 b2 b3
  apply CW.rangeFunc
  rfl
  rfl
  infer_instance
  rfl
  exact Tryd.func90
  rfl
  exact Tryd.ntmps90
  rfl
  rfl
  intro l r rec hrec
  (refine CW.scope ?_; refine CW.seq ?_; refine CW.label ?_; refine thenN ?_; refine CW.seq ?_; refine CW.region ?_; apply LW.v0; rfl; rfl; apply ValP.move; rfl; apply LW.nil; refine thenN ?_; refine CW.block ?_)
  refine CW.loop (fun y : Nat => ([(4, .int .i64 (y : Int)), (0, .func (.yield l) #[] #[])],
    [(l, rdy rec), (r, .deferred (some [])), (b3, .cells (nca (cF L (5 * y))) 131 (0, 0)), (b2, .cells (nca (List.replicate 25 0)) 102 (0, 0)), (b1, .cells (nca L) 102 (0, 0))]))
    (fun y => y ≤ 5) (fun y => 5 - y) 0 (Nat.zero_le _) ⟨rfl, rfl, trivial⟩ (by dsimp only; rw [Nat.mul_zero, cF_zero]; exact List.Sublist.refl _) ?_
  intro y hy
  dsimp only at hy ⊢
  rcases Nat.lt_or_ge y 5 with hy5 | hy5
  · (refine CW.seq ?_; refine CW.region ?_; apply LW.v0; rfl; rfl; apply ValP.lssT; rfl; rfl; omega; apply LW.nil; refine thenN ?_; refine CW.seq ?_; apply CW.condT; rfl; (with_reducible rfl); refine CW.skip ?_; refine thenN ?_; refine CW.seq ?_; refine CW.block ?_; refine CW.seq ?_; refine CW.region ?_; apply LW.v0; rfl; rfl; apply ValP.move; rfl; apply LW.v0; rfl; rfl; apply ValP.assign; rfl; apply LW.nil; refine thenN ?_; refine CW.seq ?_; refine CW.region ?_; apply LW.v0; rfl; rfl; apply ValP.move; rfl; apply LW.nil; refine thenN ?_; refine CW.block ?_)
    refine CW.loop (fun x : Nat => ([(7, .int .i64 (x : Int)), (2, .int .i64 (y : Int)), (4, .int .i64 (y : Int)), (0, .func (.yield l) #[] #[])],
      [(l, rdy rec), (r, .deferred (some [])), (b3, .cells (nca (cF L (5 * y + x))) 131 (0, 0)), (b2, .cells (nca (List.replicate 25 0)) 102 (0, 0)), (b1, .cells (nca L) 102 (0, 0))]))
      (fun x => x ≤ 5) (fun x => 5 - x) 0 (Nat.zero_le _) ⟨rfl, rfl, rfl, rfl, trivial⟩ (List.Sublist.refl _) ?_
    intro x hx
    dsimp only at hx ⊢
    rcases Nat.lt_or_ge x 5 with hx5 | hx5
    · have hlen := cF_len L (5 * y + x)
      (refine CW.seq ?_; refine CW.region ?_; apply LW.v0; rfl; rfl; apply ValP.lssT; rfl; rfl; omega; apply LW.nil; refine thenN ?_; refine CW.seq ?_; apply CW.condT; rfl; (with_reducible rfl); refine CW.skip ?_; refine thenN ?_; refine CW.seq ?_; refine CW.block ?_; refine CW.seq ?_; refine CW.region ?_; apply LW.v0; rfl; rfl; apply ValP.move; rfl; apply LW.v0; rfl; rfl; apply ValP.assign; rfl; apply LW.nil; refine thenN ?_; refine CW.seq ?_; refine CW.region ?_; apply LW.v0; rfl; rfl; apply ValP.move; rfl; apply LW.v0; rfl; rfl; apply ValP.move; rfl; apply LW.v0; rfl; rfl; apply ValP.move; rfl)
      apply LW.yield
      rfl
      rfl
      (apply ArgsOk.cons; rfl; apply ArgsOk.cons; rfl; exact ArgsOk.nil)
      exact hrec
      (apply FsAt.head)
      rfl
      rfl
      (refine CW.seq ?_; refine CW.region ?_; apply LW.v0; rfl; rfl; apply ValP.assign; rfl; apply LW.nil; refine thenN ?_; refine CW.region ?_; apply LW.v0; rfl; rfl; apply ValP.assign; rfl; apply LW.nil; apply beginI; apply SetAt.head; refine CW.block ?_; apply CW.pre; refine AnyW.any 8 mixed (by decide +kernel) ?_; (try simp only [tsOf_cons, tsOf_nil, tsOf_app]); apply DW.v0; rfl; rfl; rfl; exact WantT.none; rfl; apply ValP.move; rfl; apply DW.v0; rfl; rfl; rfl; exact WantT.none; rfl; apply ValP.indexAddrA; rfl; rfl; rfl; omega; apply DW.loadO; rfl; rfl; rfl; exact WantT.none; rfl; apply TRead.tail; apply TRead.tail; apply TRead.head; exact ancB_nil; apply rd_nca; omega; apply DW.v0; rfl; rfl; rfl; exact WantT.none; rfl; apply ValP.move; rfl; apply DW.v0; rfl; rfl; rfl; exact WantT.none; rfl; apply ValP.move; rfl; apply DW.callE; rfl; rfl; rfl; exact WantT.none; rfl; infer_instance; apply ArgsOk.cons; rfl; apply ArgsOk.cons; rfl; exact ArgsOk.nil; rfl; exact ReadAll.nil; intro w _ _; refine at_calls _ _ ?_ ?_ w; omega; omega; apply DW.v0; rfl; rfl; rfl; exact WantT.none; rfl; apply ValP.indexAddrA; rfl; rfl; rfl; omega; apply DW.loadO; rfl; rfl; rfl; exact WantT.none; rfl; apply TRead.tail; apply TRead.tail; apply TRead.tail; apply TRead.tail; apply TRead.head; exact ancB_nil; apply rd_nca; omega; apply DW.nil; simp only [fsOf_cons, fsOf_nil, fsOf_app, fsOf_tsOf, fsOf_new]; apply LW.v0; rfl; rfl; apply ValP.xorU; rfl; rfl; exact hcb _ _; exact hb _; apply LW.v0; rfl; rfl; apply ValP.indexAddrA; rfl; rfl; rfl; omega; apply LW.store; rfl; rfl; apply SetAt.tail; apply SetAt.tail; apply SetAt.head; apply wr_nca; omega; apply LW.nil; refine blkN ?_; apply roundN; apply SetAt.head; apply LW.v0; rfl; rfl; apply ValP.notT; rfl; (with_reducible rfl); apply LW.nil; refine thenN ?_; apply CW.condF; rfl; (with_reducible rfl); refine CW.skip ?_; refine blkN ?_; refine thenN ?_; refine CW.region ?_; apply LW.v0; rfl; rfl; apply ValP.addZL; rfl; rfl; decide; omega; apply LW.v0; rfl; rfl; apply ValP.move; rfl; apply LW.nil)
      refine thenX ⟨rfl, x + 1, hx5, by omega, ⟨rfl, rfl, rfl, rfl, trivial⟩, ?_⟩
      rw [← Nat.add_assoc, cF_step L x y hx5]
      exact List.Sublist.refl _
    · obtain rfl : x = 5 := by omega
      (refine CW.seq ?_; refine CW.region ?_; apply LW.v0; rfl; rfl; apply ValP.lssF; rfl; rfl; omega; apply LW.nil; refine thenN ?_; refine CW.seq ?_; apply CW.condF; rfl; (with_reducible rfl); refine CW.exit ?_; refine thenE ?_; refine thenE ?_; refine blkE rfl ?_; refine blkN ?_; refine thenN ?_; refine CW.region ?_; apply LW.v0; rfl; rfl; apply ValP.addZL; rfl; rfl; decide; omega; apply LW.v0; rfl; rfl; apply ValP.move; rfl; apply LW.nil)
      refine thenX ⟨rfl, y + 1, hy5, by omega, ⟨rfl, rfl, trivial⟩, ?_⟩
      rw [show 5 * (y + 1) = 5 * y + 5 by omega]
      exact List.Sublist.refl _
  · obtain rfl : y = 5 := by omega
    (refine CW.seq ?_; refine CW.region ?_; apply LW.v0; rfl; rfl; apply ValP.lssF; rfl; rfl; omega; apply LW.nil; refine thenN ?_; refine CW.seq ?_; apply CW.condF; rfl; (with_reducible rfl); refine CW.exit ?_; refine thenE ?_; refine thenE ?_; refine blkE rfl ?_; refine scopeQ.n ?_)
    apply rangeN
    (exact .inr rfl)
    (exact Shut.nil)
    (apply SetAt.head)
    (refine blkN ?_; refine thenM ?_; refine CW.seq ?_; refine CW.seq ?_; refine CW.region ?_; apply LW.callE; rfl; rfl; infer_instance; exact ArgsOk.nil; intro w _; exact places_calls w; apply LW.nil; refine thenN ?_; refine CW.block ?_)
    rw [show 5 * 5 = 25 from rfl, ← hC]
    apply CW.rangeFunc
    rfl
    rfl
    infer_instance
    rfl
    exact Tryd.func90
    rfl
    exact Tryd.ntmps90
    rfl
    rfl
    intro l2 r2 rec2 hrec2
    (refine CW.scope ?_; refine CW.seq ?_; refine CW.label ?_; refine thenN ?_; refine CW.seq ?_; refine CW.region ?_; apply LW.v0; rfl; rfl; apply ValP.move; rfl; apply LW.nil; refine thenN ?_; refine CW.block ?_)
    refine CW.loop (fun y : Nat => ([(4, .int .i64 (y : Int)), (0, .func (.yield l2) #[] #[])],
      [(l2, rdy rec2), (r2, .deferred (some [])), (r, .deferred (some [])), (b3, .cells (nca C) 131 (0, 0)), (b2, .cells (nca (mixF L C (5 * y))) 102 (0, 0)), (b1, .cells (nca L) 102 (0, 0))]))
      (fun y => y ≤ 5) (fun y => 5 - y) 0 (Nat.zero_le _) ⟨rfl, rfl, trivial⟩ ?_ ?_
    · dsimp only
      rw [Nat.mul_zero, mixF_zero]
      (apply List.Sublist.cons_cons; apply List.Sublist.cons_cons; apply List.Sublist.cons; exact List.Sublist.refl _)
    intro y hy
    dsimp only at hy ⊢
    rcases Nat.lt_or_ge y 5 with hy5 | hy5
    · (refine CW.seq ?_; refine CW.region ?_; apply LW.v0; rfl; rfl; apply ValP.lssT; rfl; rfl; omega; apply LW.nil; refine thenN ?_; refine CW.seq ?_; apply CW.condT; rfl; (with_reducible rfl); refine CW.skip ?_; refine thenN ?_; refine CW.seq ?_; refine CW.block ?_; refine CW.seq ?_; refine CW.region ?_; apply LW.v0; rfl; rfl; apply ValP.move; rfl; apply LW.v0; rfl; rfl; apply ValP.assign; rfl; apply LW.nil; refine thenN ?_; refine CW.seq ?_; refine CW.region ?_; apply LW.v0; rfl; rfl; apply ValP.move; rfl; apply LW.nil; refine thenN ?_; refine CW.block ?_)
      refine CW.loop (fun x : Nat => ([(7, .int .i64 (x : Int)), (2, .int .i64 (y : Int)), (4, .int .i64 (y : Int)), (0, .func (.yield l2) #[] #[])],
        [(l2, rdy rec2), (r2, .deferred (some [])), (r, .deferred (some [])), (b3, .cells (nca C) 131 (0, 0)), (b2, .cells (nca (mixF L C (5 * y + x))) 102 (0, 0)), (b1, .cells (nca L) 102 (0, 0))]))
        (fun x => x ≤ 5) (fun x => 5 - x) 0 (Nat.zero_le _) ⟨rfl, rfl, rfl, rfl, trivial⟩ (List.Sublist.refl _) ?_
      intro x hx
      dsimp only at hx ⊢
      rcases Nat.lt_or_ge x 5 with hx5 | hx5
      · have hlen := mixF_len L C (5 * y + x)
        have hstep := mixF_step L C x y hx5
        (refine CW.seq ?_; refine CW.region ?_; apply LW.v0; rfl; rfl; apply ValP.lssT; rfl; rfl; omega; apply LW.nil; refine thenN ?_; refine CW.seq ?_; apply CW.condT; rfl; (with_reducible rfl); refine CW.skip ?_; refine thenN ?_; refine CW.seq ?_; refine CW.block ?_; refine CW.seq ?_; refine CW.region ?_; apply LW.v0; rfl; rfl; apply ValP.move; rfl; apply LW.v0; rfl; rfl; apply ValP.assign; rfl; apply LW.nil; refine thenN ?_; refine CW.seq ?_; refine CW.region ?_; apply LW.v0; rfl; rfl; apply ValP.move; rfl; apply LW.v0; rfl; rfl; apply ValP.move; rfl; apply LW.v0; rfl; rfl; apply ValP.move; rfl)
        apply LW.yield
        rfl
        rfl
        (apply ArgsOk.cons; rfl; apply ArgsOk.cons; rfl; exact ArgsOk.nil)
        exact hrec2
        (apply FsAt.head)
        rfl
        rfl
        (refine CW.seq ?_; refine CW.region ?_; apply LW.v0; rfl; rfl; apply ValP.assign; rfl; apply LW.nil; refine thenN ?_; refine CW.region ?_; apply LW.v0; rfl; rfl; apply ValP.assign; rfl; apply LW.nil; apply beginI; apply SetAt.head; refine CW.block ?_; refine CW.seq ?_; apply CW.pre; refine AnyW.any 12 mixed (by decide +kernel) ?_; (try simp only [tsOf_cons, tsOf_nil, tsOf_app]); apply DW.v0; rfl; rfl; rfl; exact WantT.none; rfl; apply ValP.move; rfl; apply DW.v0; rfl; rfl; rfl; exact WantT.none; rfl; apply ValP.addZL; rfl; rfl; decide; omega; apply DW.v0; rfl; rfl; rfl; exact WantT.none; rfl; apply ValP.subZL; rfl; rfl; decide; omega; omega; apply DW.v0; rfl; rfl; rfl; exact WantT.none; rfl; apply ValP.remZL; rfl; rfl; decide; omega; apply DW.v0; rfl; rfl; rfl; exact WantT.none; rfl; apply ValP.indexAddrA; rfl; rfl; rfl; omega; apply DW.loadO; rfl; rfl; rfl; exact WantT.none; rfl; apply TRead.tail; apply TRead.tail; apply TRead.tail; apply TRead.head; exact ancB_nil; apply rd_nca; omega; apply DW.v0; rfl; rfl; rfl; exact WantT.none; rfl; apply ValP.move; rfl; apply DW.v0; rfl; rfl; rfl; exact WantT.none; rfl; apply ValP.addZL; rfl; rfl; decide; omega; apply DW.v0; rfl; rfl; rfl; exact WantT.none; rfl; apply ValP.remZL; rfl; rfl; decide; omega; apply DW.v0; rfl; rfl; rfl; exact WantT.none; rfl; apply ValP.indexAddrA; rfl; rfl; rfl; omega; apply DW.loadO; rfl; rfl; rfl; exact WantT.none; rfl; apply TRead.tail; apply TRead.tail; apply TRead.tail; apply TRead.head; exact ancB_nil; apply rd_nca; omega; apply DW.callE; rfl; rfl; rfl; exact WantT.none; rfl; infer_instance; apply ArgsOk.cons; rfl; apply ArgsOk.cons; rfl; exact ArgsOk.nil; rfl; exact ReadAll.nil; intro w _ _; exact hk1 _ w; apply DW.nil; simp only [fsOf_cons, fsOf_nil, fsOf_app, fsOf_tsOf, fsOf_new]; apply LW.v0; rfl; rfl; apply ValP.xorU; rfl; rfl; exact hCb _; exact hr1 _; apply LW.v0; rfl; rfl; apply ValP.assign; rfl; apply LW.nil; refine thenN ?_; apply CW.pre; refine AnyW.any 19 mixed (by decide +kernel) ?_; (try simp only [tsOf_cons, tsOf_nil, tsOf_app]); apply DW.v0; rfl; rfl; rfl; exact WantT.none; rfl; apply ValP.move; rfl; apply DW.v0; rfl; rfl; rfl; exact WantT.none; rfl; apply ValP.move; rfl; apply DW.v0; rfl; rfl; rfl; exact WantT.none; rfl; apply ValP.mulZK; rfl; rfl; decide; omega; apply DW.v0; rfl; rfl; rfl; exact WantT.none; rfl; apply ValP.move; rfl; apply DW.v0; rfl; rfl; rfl; exact WantT.none; rfl; apply ValP.mulZK; rfl; rfl; decide; omega; apply DW.v0; rfl; rfl; rfl; exact WantT.none; rfl; apply ValP.addZ; rfl; rfl; omega; apply DW.callE; rfl; rfl; rfl; exact WantT.none; rfl; infer_instance; apply ArgsOk.cons; rfl; apply ArgsOk.cons; rfl; exact ArgsOk.nil; rfl; exact ReadAll.nil; intro w _ _; refine at_calls _ _ ?_ ?_ w; omega; omega; apply DW.v0; rfl; rfl; rfl; exact WantT.none; rfl; apply ValP.move; rfl; apply DW.v0; rfl; rfl; rfl; exact WantT.none; rfl; apply ValP.move; rfl; apply DW.callE; rfl; rfl; rfl; exact WantT.none; rfl; infer_instance; apply ArgsOk.cons; rfl; apply ArgsOk.cons; rfl; exact ArgsOk.nil; rfl; exact ReadAll.nil; intro w _ _; refine at_calls _ _ ?_ ?_ w; omega; omega; apply DW.v0; rfl; rfl; rfl; exact WantT.none; rfl; apply ValP.indexAddrA; rfl; rfl; rfl; omega; apply DW.loadO; rfl; rfl; rfl; exact WantT.none; rfl; apply TRead.tail; apply TRead.tail; apply TRead.tail; apply TRead.tail; apply TRead.tail; apply TRead.head; exact ancB_nil; apply rd_nca; omega; apply DW.v0; rfl; rfl; rfl; exact WantT.none; rfl; apply ValP.move; rfl; apply DW.v0; rfl; rfl; rfl; exact WantT.none; rfl; apply ValP.xorU; rfl; rfl; exact hb _; apply xor64; exact hCb _; exact hr1 _; apply DW.v0; rfl; rfl; rfl; exact WantT.none; rfl; apply ValP.move; rfl; apply DW.v0; rfl; rfl; rfl; exact WantT.none; rfl; apply ValP.move; rfl; apply DW.callE; rfl; rfl; rfl; exact WantT.none; rfl; infer_instance; apply ArgsOk.cons; rfl; apply ArgsOk.cons; rfl; exact ArgsOk.nil; rfl; exact ReadAll.nil; intro w _ _; refine at_calls _ _ ?_ ?_ w; omega; omega; apply DW.v0; rfl; rfl; rfl; exact WantT.none; rfl; apply ValP.indexAddrA; rfl; rfl; rfl; omega; apply DW.loadX; rfl; rfl; rfl; exact WantT.none; rfl; assumption; simp; apply rd_turn; omega; apply DW.nil; simp only [fsOf_cons, fsOf_nil, fsOf_app, fsOf_tsOf, fsOf_new]; apply LW.callE; rfl; rfl; infer_instance; apply ArgsOk.cons; rfl; apply ArgsOk.cons; rfl; exact ArgsOk.nil; intro w _; refine hk2 _ _ w ?_; apply xor64; exact hb _; apply xor64; exact hCb _; exact hr1 _; apply LW.v0; rfl; rfl; apply ValP.indexAddrA; rfl; rfl; rfl; omega; apply LW.store; rfl; rfl; apply SetAt.tail; apply SetAt.tail; apply SetAt.tail; apply SetAt.tail; apply SetAt.head; apply wr_nca; omega; apply LW.nil; refine blkN ?_; apply roundN; apply SetAt.head; apply LW.v0; rfl; rfl; apply ValP.notT; rfl; (with_reducible rfl); apply LW.nil; refine thenN ?_; apply CW.condF; rfl; (with_reducible rfl); refine CW.skip ?_; refine blkN ?_; refine thenN ?_; refine CW.region ?_; apply LW.v0; rfl; rfl; apply ValP.addZL; rfl; rfl; decide; omega; apply LW.v0; rfl; rfl; apply ValP.move; rfl; apply LW.nil)
        refine thenX ⟨rfl, x + 1, hx5, by omega, ⟨rfl, rfl, rfl, rfl, trivial⟩, ?_⟩
        rw [← Nat.add_assoc, hstep]
        exact List.Sublist.refl _
      · obtain rfl : x = 5 := by omega
        (refine CW.seq ?_; refine CW.region ?_; apply LW.v0; rfl; rfl; apply ValP.lssF; rfl; rfl; omega; apply LW.nil; refine thenN ?_; refine CW.seq ?_; apply CW.condF; rfl; (with_reducible rfl); refine CW.exit ?_; refine thenE ?_; refine thenE ?_; refine blkE rfl ?_; refine blkN ?_; refine thenN ?_; refine CW.region ?_; apply LW.v0; rfl; rfl; apply ValP.addZL; rfl; rfl; decide; omega; apply LW.v0; rfl; rfl; apply ValP.move; rfl; apply LW.nil)
        refine thenX ⟨rfl, y + 1, hy5, by omega, ⟨rfl, rfl, trivial⟩, ?_⟩
        rw [show 5 * (y + 1) = 5 * y + 5 by omega]
        exact List.Sublist.refl _
    · obtain rfl : y = 5 := by omega
      have hml := mixF_len L C 25
      (refine CW.seq ?_; refine CW.region ?_; apply LW.v0; rfl; rfl; apply ValP.lssF; rfl; rfl; omega; apply LW.nil; refine thenN ?_; refine CW.seq ?_; apply CW.condF; rfl; (with_reducible rfl); refine CW.exit ?_; refine thenE ?_; refine thenE ?_; refine blkE rfl ?_; refine scopeQ.n ?_)
      apply rangeN
      (exact .inr rfl)
      (exact Shut.nil)
      (apply SetAt.head)
      (refine blkN ?_; refine thenM ?_; refine CW.seq ?_; refine CW.region ?_; apply LW.load; rfl; rfl; apply Known.at; apply FsAt.tail; apply FsAt.tail; apply FsAt.tail; apply FsAt.tail; apply FsAt.head; apply rd_ncaW; assumption; apply LW.store; rfl; rfl; apply SetAt.tail; apply SetAt.tail; apply SetAt.tail; apply SetAt.tail; apply SetAt.head; apply wr_ncaW; assumption; assumption; apply LW.nil; refine thenN ?_; refine CW.ret ?_)
      (apply finRM; exact .inl rfl; apply Shut.cons; apply SetAt.tail; apply SetAt.head; apply Shut.cons; apply SetAt.tail; apply SetAt.tail; apply SetAt.head; exact Shut.nil; rfl; rfl; apply ResL.cons; apply Res.cell; rfl; apply Known.at; apply FsAt.tail; apply FsAt.tail; apply FsAt.tail; apply FsAt.tail; apply FsAt.head; apply rd_ncaW; assumption; exact ResL.nil)
      show (Value.agg (nca (mixF L C (5 * 5)))) = _
      rw [hC]
      rfl
end Go.Proofs.YtobkhnmglbfheaaDoor.SK

/-
  What is laid, as the contracts of digests ask for it.
  Conditions: none.
-/
namespace Go.Proofs.YtobkhnmglbfheaaDoor
open Go Go.RowKit SL SK
theorem var_heap {P : Program} {w : World} {n : String} {g : Nat} {cs : Array Value} (hg : P.globalNamed n = some g) (h : w.var? P n = some cs) : ∃ E fr, w.heap[g]? = some (.cells cs E fr) := by
  unfold World.var? at h
  rw [hg] at h
  simp only [Option.bind_some] at h
  split at h
  · rename_i cs' E fr hh
    cases h
    exact ⟨E, fr, hh⟩
  · cases h
theorem tab_at {P : Program} {W : World} {l : List (String × DataW Unit)} {n : String} {g T E m : Nat} {k : IntKind} {zs : List Int} (h : laidMet P l W) (hm : (n, Lib.tabData k zs) ∈ l) (hg : P.globalNamed n = some g) (hT : (P.globals[g]?).map (·.type) = some T) (hu : P.underlying T = some (.array m E)) (he : P.underlying E = some (.int k)) (hce : P.cellsOf E = 1) (hct : P.cellsOf T = m) :
    ∃ E' fr, W.heap[g]? = some (.cells (zs.map fun z => Value.int k z).toArray E' fr) := by
  obtain ⟨g', t', cs, fuel, p, h1, h2, h3, h4⟩ := Lib.laidMet.reads h hm
  obtain rfl : g = g' := Option.some.inj (hg.symm.trans h1)
  obtain rfl : T = t' := Option.some.inj (hT.symm.trans h2)
  have hc := Lib.cells_of_tab hu he hce hct h4
  obtain ⟨E', fr, hh⟩ := var_heap hg h3
  refine ⟨E', fr, ?_⟩
  rw [hh, ← hc]
theorem laid_at {l : List (String × DataW Unit)} {W : World} (h : laidMetH Tryd.prog l W) (h0 : (l.all fun x => x.2.handleName?.isNone) = true) (h1 : ("sheafer/sponge.turns", Lib.tabData .i64 (turnL.map fun (n : Nat) => (n : Int))) ∈ l) (h2 : ("sheafer/sponge.numbers", Lib.tabData .u64 (numL.map fun (n : Nat) => (n : Int))) ∈ l) : TurnAt W ∧ NumAt W := by
  rw [MakeChecks.laidMetH_plain _ _ _ h0] at h
  exact ⟨tab_at (T := 133) (E := 3) (m := 25) h h1 (by kernel_rfl) (by kernel_rfl) (by kernel_rfl) (by kernel_rfl) (by kernel_rfl) (by kernel_rfl), tab_at (T := 122) (E := 23) (m := 24) h h2 (by kernel_rfl) (by kernel_rfl) (by kernel_rfl) (by kernel_rfl) (by kernel_rfl) (by kernel_rfl)⟩
theorem laid_lays {W : World} (h : laidMetH Tryd.prog Rows.useropLaysRow.laid W) : SK.TurnAt W ∧ SK.NumAt W := laid_at h (by kernel_rfl) (List.Mem.head _) (List.Mem.tail _ (List.Mem.head _))
end Go.Proofs.YtobkhnmglbfheaaDoor

/-
  Contracts of the sponge: rounds.
  Conditions: none.
-/
namespace Go.Proofs.YtobkhnmglbfheaaDoor.SK
open Go Go.RowKit SL
set_option maxRecDepth 8000
set_option maxHeartbeats 4000000
set_option linter.unusedSimpArgs false
set_option linter.unusedVariables false
attribute [local irreducible] SL.CW SL.LW SL.DW Calls SL.Ret SL.RetG SL.beginQ SL.roundQ SL.rangeQ SL.inQ SL.RW SL.AnyW SL.thenQ SL.thenC SL.thenW SL.blkQ SL.finQ SL.ValP SL.NewP SL.SetP SL.CallP SL.Rd SL.Wr SL.Known
attribute [local irreducible] turnL cF mixF mixL
def rowsL (L : List Nat) : List Nat := rowsF L 25
theorem mixL_len (L : List Nat) : (mixL L).length = 25 := by unfold mixL; exact mixF_len L _ 25
theorem mixL_lt (L : List Nat) (hb : ∀ i, L.getD i 0 < 18446744073709551616) : ∀ i, (mixL L).getD i 0 < 18446744073709551616 := by unfold mixL; exact mixF_lt L _ hb (cF_lt L hb 25) 25
theorem rowV_lt (L : List Nat) (hb : ∀ i, L.getD i 0 < 18446744073709551616) (x y : Nat) : rowV L x y < 18446744073709551616 :=
  xor_lt (hb _) (Nat.and_lt_two_pow (n := 64) _ (hb _))
theorem rowsF_lt (L : List Nat) (hb : ∀ i, L.getD i 0 < 18446744073709551616) (k : Nat) : ∀ i, (rowsF L k).getD i 0 < 18446744073709551616 := by
  induction k with
  | zero => exact rep_lt 25
  | succ k ih => exact getD_set_lt ih (rowV_lt L hb _ _)
theorem rowsL_len (L : List Nat) : (rowsL L).length = 25 := rowsF_len L 25
theorem rowsL_lt (L : List Nat) (hb : ∀ i, L.getD i 0 < 18446744073709551616) : ∀ i, (rowsL L).getD i 0 < 18446744073709551616 := rowsF_lt L hb 25
def roundL (L : List Nat) (n : Nat) : List Nat := (rowsL (mixL L)).set 0 ((rowsL (mixL L)).getD 0 0 ^^^ n)
theorem roundL_len (L : List Nat) (n : Nat) : (roundL L n).length = 25 := by simp [roundL, rowsL_len]
theorem roundL_lt (L : List Nat) (n : Nat) (hb : ∀ i, L.getD i 0 < 18446744073709551616) (hn : n < 18446744073709551616) : ∀ i, (roundL L n).getD i 0 < 18446744073709551616 :=
  getD_set_lt (rowsL_lt _ (mixL_lt L hb)) (xor_lt (rowsL_lt _ (mixL_lt L hb) 0) hn)
def permF (L : List Nat) : Nat → List Nat
  | 0 => L
  | k + 1 => roundL (permF L k) (numL.getD k 0)
def permL (L : List Nat) : List Nat := permF L 24
theorem numL_lt (i : Nat) (h : i < 24) : numL.getD i 0 < 18446744073709551616 := (by decide : ∀ i, i < 24 → numL.getD i 0 < 18446744073709551616) i h
theorem permF_len (L : List Nat) (hL : L.length = 25) (k : Nat) : (permF L k).length = 25 := by
  cases k with
  | zero => exact hL
  | succ k => exact roundL_len _ _
theorem permF_lt (L : List Nat) (hb : ∀ i, L.getD i 0 < 18446744073709551616) (k : Nat) (hk : k ≤ 24) : ∀ i, (permF L k).getD i 0 < 18446744073709551616 := by
  induction k with
  | zero => exact hb
  | succ k ih => exact roundL_lt _ _ (ih (by omega)) (numL_lt k (by omega))
theorem permL_len (L : List Nat) (hL : L.length = 25) : (permL L).length = 25 := permF_len L hL 24
theorem permL_lt (L : List Nat) (hb : ∀ i, L.getD i 0 < 18446744073709551616) : ∀ i, (permL L).getD i 0 < 18446744073709551616 := permF_lt L hb 24 (Nat.le_refl _)
theorem permF_step (L : List Nat) (k : Nat) : permF L (k + 1) = roundL (permF L k) (numL.getD k 0) := rfl
attribute [local irreducible] rowsL
theorem round_calls (L : List Nat) (n : Nat) (hL : L.length = 25) (hb : ∀ i, L.getD i 0 < 18446744073709551616) (hn : n < 18446744073709551616) (w : World) (hT : TurnAt w) : Calls Tryd.prog 77 #[.agg (nca L), .int .u64 (n : Int)] w (Ret w (.agg (nca (roundL L n)))) := by
  have hM : ∀ w' {fs}, St w [] fs w' → Calls Tryd.prog 82 #[.agg (nca L)] w' (Ret w' (.agg (nca (mixL L)))) := fun w' fs hst => Mix_calls L hL hb w' (hT.st hst)
  have hR : ∀ w', Calls Tryd.prog 81 #[.agg (nca (mixL L))] w' (Ret w' (.agg (nca (rowsL (mixL L))))) := fun w' => by
    unfold rowsL; exact Rows_calls _ (mixL_len L) (mixL_lt L hb) w'
  have hrb := rowsL_lt _ (mixL_lt L hb)
  have hl1 := mixL_len L
  have hl2 := rowsL_len (mixL L)
  have hl3 : ((rowsL (mixL L)).set 0 ((rowsL (mixL L)).getD 0 0 ^^^ n)).length = 25 := roundL_len L n
  refine enter (args := [_, _]) _ [] [] Tryd.func77 rfl Tryd.ntmps77 rfl (by simp) .nil ?_
  (refine CW.seq ?_; refine CW.region ?_; apply LW.boxA; rfl; rfl; intro _; apply LW.allocA; rfl; intro _; apply LW.nil; refine thenN ?_; refine CW.seq ?_; refine CW.region ?_; apply LW.load; rfl; rfl; apply Known.at; apply FsAt.tail; apply FsAt.head; apply rd_ncaW; assumption; apply LW.callE; rfl; rfl; infer_instance; apply ArgsOk.cons; rfl; exact ArgsOk.nil; intro w _; exact hM w (by assumption); apply LW.callE; rfl; rfl; infer_instance; apply ArgsOk.cons; rfl; exact ArgsOk.nil; intro w _; exact hR w; apply LW.store; rfl; rfl; apply SetAt.tail; apply SetAt.head; apply wr_ncaW; assumption; assumption; apply LW.nil; refine thenN ?_; refine CW.seq ?_; refine CW.region ?_; apply LW.v0; rfl; rfl; apply ValP.indexAddrL; rfl; rfl; rfl; apply LW.load; rfl; rfl; apply Known.at; apply FsAt.tail; apply FsAt.head; apply rd_nca0; omega; apply LW.v0; rfl; rfl; apply ValP.move; rfl; apply LW.v0; rfl; rfl; apply ValP.xorU; rfl; rfl; exact hrb _; assumption; apply LW.v0; rfl; rfl; apply ValP.indexAddrL; rfl; rfl; rfl; apply LW.store; rfl; rfl; apply SetAt.tail; apply SetAt.head; apply wr_nca0; omega; apply LW.nil; refine thenN ?_; refine CW.seq ?_; refine CW.region ?_; apply LW.load; rfl; rfl; apply Known.at; apply FsAt.tail; apply FsAt.head; apply rd_ncaW; assumption; apply LW.store; rfl; rfl; apply SetAt.head; apply wr_ncaO; rfl; assumption; apply LW.nil; refine thenN ?_; refine CW.ret ?_)
  (apply finR; exact .inl rfl; rfl; rfl; rfl; apply ResL.cons; apply Res.cell; rfl; apply Known.at; apply FsAt.head; apply rd_ncaW; assumption; exact ResL.nil)
  rfl
attribute [local irreducible] roundL
theorem numL_len : numL.length = 24 := rfl
attribute [local irreducible] numL
theorem Permute_calls (L : List Nat) (hL : L.length = 25) (hb : ∀ i, L.getD i 0 < 18446744073709551616) (w : World) (hT : TurnAt w) (hN : NumAt w) : Calls Tryd.prog 61 #[.agg (nca L)] w (Ret w (.agg (nca (permL L)))) := by
  obtain ⟨EN, frN, hN⟩ := hN
  have hnl := numL_len
  have hR : ∀ k, k < 24 → ∀ w' {fs}, St w [] fs w' → Calls Tryd.prog 77 #[.agg (nca (permF L k)), .int .u64 ((numL.getD k 0 : Nat) : Int)] w' (Ret w' (.agg (nca (roundL (permF L k) (numL.getD k 0))))) := fun k hk w' fs hst => round_calls _ _ (permF_len L hL k) (permF_lt L hb k (by omega)) (numL_lt k hk) w' (hT.st hst)
  refine enter (args := [_]) _ [] [] Tryd.func61 rfl Tryd.ntmps61 rfl (by simp) .nil ?_
  (refine CW.seq ?_; refine CW.region ?_; apply LW.boxA; rfl; rfl; intro _; apply LW.allocA; rfl; intro _; apply LW.nil; refine thenN ?_; refine CW.seq ?_; refine CW.seq ?_; refine CW.region ?_; apply LW.load; rfl; rfl; exact Known.ext (by assumption) (by simp); apply rd_ncaW; assumption; apply LW.v0; rfl; rfl; apply ValP.move; rfl; apply LW.nil; refine thenN ?_; refine CW.block ?_)
  rename_i b1 b2
  refine CW.loop (fun k : Nat => ([(6, .int .i64 (k : Int)), (5, .agg (nca numL)), (2, .pointer (some ⟨b2, 0, none⟩)), (1, .pointer (some ⟨b1, 0, none⟩))],
    [(b2, .cells (nca (List.replicate 25 0)) 102 (0, 0)), (b1, .cells (nca (permF L k)) 102 (0, 0))]))
    (fun k => k ≤ 24) (fun k => 24 - k) 0 (Nat.zero_le _) ⟨rfl, rfl, rfl, rfl, trivial⟩ (List.Sublist.refl _) ?_
  intro k hk
  dsimp only at hk ⊢
  have hlen := permF_len L hL k
  rcases Nat.lt_or_ge k 24 with hk4 | hk4
  · have hR' := fun w' fs hst => hR k hk4 w' (fs := fs) hst
    have hlen' := roundL_len (permF L k) (numL.getD k 0)
    (refine CW.seq ?_; refine CW.region ?_; apply LW.v0; rfl; rfl; apply ValP.lssT; rfl; rfl; omega; apply LW.nil; refine thenN ?_; refine CW.seq ?_; apply CW.condT; rfl; (with_reducible rfl); refine CW.skip ?_; refine thenN ?_; refine CW.seq ?_; refine CW.block ?_; refine CW.seq ?_; refine CW.region ?_; apply LW.v0; rfl; rfl; apply ValP.indexA; rfl; rfl; rfl; rfl; omega; apply nth_nca; omega; apply LW.v0; rfl; rfl; apply ValP.assign; rfl; apply LW.nil; refine thenN ?_; refine CW.region ?_; apply LW.load; rfl; rfl; apply Known.at; apply FsAt.tail; apply FsAt.head; apply rd_ncaW; assumption; apply LW.v0; rfl; rfl; apply ValP.move; rfl; apply LW.callE; rfl; rfl; infer_instance; apply ArgsOk.cons; rfl; apply ArgsOk.cons; rfl; exact ArgsOk.nil; intro w _; exact hR' w _ (by assumption); apply LW.store; rfl; rfl; apply SetAt.tail; apply SetAt.head; apply wr_ncaW; assumption; assumption; apply LW.nil; refine blkN ?_; refine thenN ?_; refine CW.region ?_; apply LW.v0; rfl; rfl; apply ValP.addZL; rfl; rfl; decide; omega; apply LW.v0; rfl; rfl; apply ValP.move; rfl; apply LW.nil)
    refine thenX ⟨rfl, k + 1, hk4, by omega, ⟨rfl, rfl, rfl, rfl, trivial⟩, ?_⟩
    exact List.Sublist.refl _
  · obtain rfl : k = 24 := by omega
    have hlr : (List.replicate 25 0 : List Nat).length = 25 := rfl
    (refine CW.seq ?_; refine CW.region ?_; apply LW.v0; rfl; rfl; apply ValP.lssF; rfl; rfl; omega; apply LW.nil; refine thenN ?_; refine CW.seq ?_; apply CW.condF; rfl; (with_reducible rfl); refine CW.exit ?_; refine thenE ?_; refine thenE ?_; refine blkE rfl ?_; refine thenN ?_; refine CW.seq ?_; refine CW.region ?_; apply LW.load; rfl; rfl; apply Known.at; apply FsAt.tail; apply FsAt.head; apply rd_ncaW; assumption; apply LW.store; rfl; rfl; apply SetAt.head; apply wr_ncaW; assumption; assumption; apply LW.nil; refine thenN ?_; refine CW.ret ?_)
    (apply finR; exact .inl rfl; rfl; rfl; rfl; apply ResL.cons; apply Res.cell; rfl; apply Known.at; apply FsAt.head; apply rd_ncaW; assumption; exact ResL.nil)
    rfl
end Go.Proofs.YtobkhnmglbfheaaDoor.SK

/-
  Contracts of the sponge: padded bytes.
  Conditions: none.
-/
namespace Go.Proofs.YtobkhnmglbfheaaDoor.SK
open Go Go.RowKit SL
set_option maxRecDepth 8000
set_option maxHeartbeats 4000000
set_option linter.unusedSimpArgs false
set_option linter.unusedVariables false
attribute [local irreducible] SL.CW SL.LW SL.DW Calls SL.Ret SL.RetG SL.beginQ SL.roundQ SL.rangeQ SL.inQ SL.RW SL.AnyW SL.thenQ SL.thenC SL.thenW SL.blkQ SL.finQ SL.ValP SL.NewP SL.SetP SL.CallP SL.Rd SL.Wr SL.Known
/-- how many bytes the padded ones are. -/
def padN (n : Nat) : Nat := (n / 136 + 1) * 136
def pad1 (b : List UInt8) : List UInt8 := (b ++ List.replicate (padN b.length - b.length) 0).set b.length 1
def padB (b : List UInt8) : List UInt8 := (pad1 b).set (padN b.length - 1) ((pad1 b).getD (padN b.length - 1) 0 ||| 128)
theorem padN_lt (n : Nat) : n < padN n := by unfold padN; omega
theorem pad1_len (b : List UInt8) : (pad1 b).length = padN b.length := by have := padN_lt b.length; simp [pad1]; omega
theorem padB_len (b : List UInt8) : (padB b).length = padN b.length := by rw [padB, List.length_set, pad1_len]
theorem pad_copy (b : List UInt8) : ((List.replicate (padN b.length) (Value.int .u8 0)).toArray.toList.take 0 ++ ucs b ++ (List.replicate (padN b.length) (Value.int .u8 0)).toArray.toList.drop (0 + b.length)).toArray = uca (b ++ List.replicate (padN b.length - b.length) 0) := by
  simp [uca, ucs_map]
def PadR (b : List UInt8) (v : Value) (gs : Fs) : Prop := ∃ g, v = .slice (some ⟨g, 0, none⟩) (padB b).length (padB b).length ∧ gs = [(g, .cells (uca (padB b)) 5 (0, 0))]
theorem wr_pad1 {T E : TypeId} {z : Value} [InfoI Tryd.prog T 1 z] (b : List UInt8) : Wr Tryd.prog T (.cells (uca (b ++ List.replicate (padN b.length - b.length) (0 : UInt8))) E (0, 0)) (0 + b.length * 1) (.int .u8 1) (.cells (uca (pad1 b)) E (0, 0)) :=
  wr_uca (x := 1) (by have := padN_lt b.length; simp; omega) (by decide)
theorem or_byte (u : UInt8) : UInt8.ofNat (u.toNat ||| 128) = u ||| 128 := by
  apply UInt8.toNat_inj.1
  rw [UInt8.toNat_or, UInt8.toNat_ofNat']
  exact Nat.mod_eq_of_lt (Nat.or_lt_two_pow (n := 8) (UInt8.toNat_lt u) (by decide))
theorem wr_padB {T E : TypeId} {z : Value} [InfoI Tryd.prog T 1 z] (b : List UInt8) : Wr Tryd.prog T (.cells (uca (pad1 b)) E (0, 0)) (0 + (padN b.length - 1) * 1) (.int .u8 ((((pad1 b).getD (padN b.length - 1) 0).toNat ||| 128 : Nat) : Int)) (.cells (uca (padB b)) E (0, 0)) := by
  have h := wr_uca (P := Tryd.prog) (T := T) (E := E) (l := pad1 b) (i := padN b.length - 1) (x := ((pad1 b).getD (padN b.length - 1) 0).toNat ||| 128) (z := z) (by rw [pad1_len]; have := padN_lt b.length; omega) (Nat.or_lt_two_pow (n := 8) (UInt8.toNat_lt _) (by decide))
  rw [or_byte] at h
  exact h
theorem Pad_calls (b : List UInt8) (v : Value) (w : World) (hv : RowAt w 1 v b.length (ucs b)) (hb : b.length ≤ 100000) : Calls Tryd.prog 60 #[v] w (RetG w [] (PadR b)) := by
  obtain ⟨p, c, rfl, hc, hm⟩ := hv.form
  have hlt := padN_lt b.length
  have h1 := pad1_len b
  have h2 := padB_len b
  have hN : padN b.length = (b.length / 136 + 1) * 136 := rfl
  refine enter (args := [_]) _ [] [] Tryd.func60 rfl Tryd.ntmps60 rfl (by simp) .nil ?_
  (refine CW.seq ?_; refine CW.region ?_; apply LW.v0; rfl; rfl; apply ValP.assign; rfl; apply LW.nil; refine thenN ?_; refine CW.seq ?_; refine CW.region ?_; apply LW.v0; rfl; rfl; apply ValP.move; rfl; apply LW.v0; rfl; rfl; apply ValP.lenR; rfl; infer_instance; rfl; apply LW.v0; rfl; rfl; apply ValP.quoZL; rfl; rfl; decide; omega; omega; apply LW.v0; rfl; rfl; apply ValP.addZL; rfl; rfl; decide; omega; apply LW.v0; rfl; rfl; apply ValP.mulZL; rfl; rfl; decide; omega)
  rw [← hN]
  refine LW.makeOwn rfl inferInstance inferInstance inferInstance rfl rfl ?_ ?_ fun g => ?_
  · omega
  · simp only [maxLen]; omega
  (apply LW.v0; rfl; rfl; apply ValP.assign; rfl; apply LW.nil; refine thenN ?_; refine CW.seq ?_; refine CW.region ?_; apply LW.v0; rfl; rfl; apply ValP.move; rfl; apply LW.v0; rfl; rfl; apply ValP.move; rfl; apply LW.v0; rfl; rfl; apply ValP.move; rfl)
  refine LW.copyAt (cur := (List.replicate (padN b.length) (Value.int .u8 0)).toArray) (E' := 5) (fs' := [(g, .cells (((List.replicate (padN b.length) (Value.int .u8 0)).toArray.toList.take 0 ++ ucs b ++ (List.replicate (padN b.length) (Value.int .u8 0)).toArray.toList.drop (0 + b.length)).toArray) 5 (0, 0))]) rfl rfl inferInstance inferInstance inferInstance rfl rfl (fun w hst => hv.st hst) (ucs_cells b) (by omega) (by simp; omega) (by (apply SetAt.head)) ?_
  rw [pad_copy]
  have hl0 : (b ++ List.replicate (padN b.length - b.length) (0 : UInt8)).length = padN b.length := by simp; omega
  (apply LW.v0; rfl; rfl; apply ValP.indexAddrS; rfl; rfl; rfl; omega; apply LW.store; rfl; rfl; apply SetAt.head; exact wr_pad1 b; apply LW.nil; refine thenN ?_; refine CW.seq ?_; refine CW.region ?_; apply LW.v0; rfl; rfl; apply ValP.move; rfl; apply LW.v0; rfl; rfl; apply ValP.move; rfl; apply LW.v0; rfl; rfl; apply ValP.lenR; rfl; infer_instance; rfl; apply LW.v0; rfl; rfl; apply ValP.subZL; rfl; rfl; decide; omega; omega; apply LW.v0; rfl; rfl; apply ValP.indexAddrS; rfl; rfl; rfl; omega; apply LW.load; rfl; rfl; apply Known.at; apply FsAt.head; apply rd_uca; omega; apply LW.v0; rfl; rfl; apply ValP.orBL; rfl; rfl; decide; exact UInt8.toNat_lt _; decide; apply LW.v0; rfl; rfl; apply ValP.indexAddrS; rfl; rfl; rfl; omega; apply LW.store; rfl; rfl; apply SetAt.head; exact wr_padB b; apply LW.nil; refine thenN ?_; refine CW.seq ?_; refine CW.region ?_; apply LW.v0; rfl; rfl; apply ValP.move; rfl; apply LW.v0; rfl; rfl; apply ValP.assign; rfl; apply LW.nil; refine thenN ?_; refine CW.ret ?_)
  refine fin [(g, .cells (uca (padB b)) 5 (0, 0))] (.inl rfl) rfl rfl (by (apply ResL.cons; exact Res.tmp rfl; exact ResL.nil)) (List.Sublist.refl _) ⟨g, ?_, rfl⟩
  rw [h2]; rfl
def ChunkR (v0 : Value) (v : Value) (gs : Fs) : Prop := ∃ b1 b2, v = .func (.func 76) #[] #[.pointer (some ⟨b1, 0, none⟩), .pointer (some ⟨b2, 0, none⟩)] ∧ gs = [(b2, .cells #[.int .i64 136] 3 (0, 0)), (b1, .cells #[v0] 28 (0, 0))]
theorem Chunk_calls (p : Option Addr) (n c : Nat) (w : World) : Calls Tryd.prog 59 #[.slice p n c, .int .i64 136] w (RetG w [] (ChunkR (.slice p n c))) := by
  refine enter (args := [_, _]) _ [] [] Tryd.func59 rfl Tryd.ntmps59 rfl (by simp) .nil ?_
  (refine CW.seq ?_; refine CW.region ?_; apply LW.box1; rfl; rfl; rfl; intro _; apply LW.box1; rfl; rfl; rfl; intro _; apply LW.v0; rfl; rfl; apply ValP.assign; rfl; apply LW.nil; refine thenN ?_; refine CW.seq ?_; refine CW.seq ?_; refine CW.region ?_; apply LW.load; rfl; rfl; apply Known.at; apply FsAt.head; exact Rd.one' rfl; apply LW.v0; rfl; rfl; apply ValP.lssF; rfl; rfl; omega; apply LW.nil; refine thenN ?_; apply CW.condF; rfl; (with_reducible rfl); refine CW.skip ?_; refine thenN ?_; refine CW.seq ?_; refine CW.region ?_; apply LW.v0; rfl; rfl; apply ValP.makeFunc; exact ArgsOk.nil; apply ArgsOk.cons; rfl; apply ArgsOk.cons; rfl; exact ArgsOk.nil; apply LW.v0; rfl; rfl; apply ValP.assign; rfl; apply LW.nil; refine thenN ?_; refine CW.ret ?_)
  rename_i b1 b2
  exact fin _ (.inl rfl) rfl rfl (by (apply ResL.cons; exact Res.tmp rfl; exact ResL.nil)) (List.Sublist.refl _) ⟨b1, b2, rfl, rfl⟩
end Go.Proofs.YtobkhnmglbfheaaDoor.SK
