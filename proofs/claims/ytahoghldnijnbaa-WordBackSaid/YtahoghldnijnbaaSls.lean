/-
  A SMALL LOGIC OVER THE KIT's WALK, PART S: operations passed over because what they wait for was passed over.
  Conditions: none; over any program.
-/
import Derived.Test.YtahoghldnijnbaaSlr
namespace Go.Proofs.Ytahoghldnijnbaa.SL
set_option linter.unusedVariables false
set_option linter.unusedSimpArgs false
open Go Go.RowKit
theorem LW.guardU {C : Cu} {ops : Array Oper} {Q : Post} {rest : List Oper} {e : Env} {fs : Fs} {d : Nat} {op : Op} {t : TypeId} {pos : String} {af : Array Edge} {j s : Nat} {g : Bool} (hs : (ops[j]?).bind (·.dst) = some s) (he : e.get s = some undef) (hd : Nat.blt d C.N = true) (h : LW C ops Q rest ((d, undef) :: e) fs) :
    LW C ops Q (⟨some d, op, t, pos, af, some (j, g)⟩ :: rest) e fs := by
  intro a w hst
  have h1 := h _ w ⟨hst.env.put (v := undef) hd, hst.st⟩
  have hy : yielded ops a.tmps j = none := by simp [yielded, hs, hst.env.get s _ he, undef]
  unfold wpListIn
  rw [if_neg (by simp [Region.wanted, hy])]
  exact ⟨fun _ _ => trivial, h1⟩
theorem DW.skipU {C : Cu} {ops : Array Oper} {Q : Post} {tl rest : List Oper} {e : Env} {ts : Ts} {μ : Mu} {k d : Nat} {op : Op} {t : TypeId} {pos : String} {af : Array Edge} {j s : Nat} {b : Bool} (hk : ops[k]? = some ⟨some d, op, t, pos, af, some (j, b)⟩) (hd : Nat.blt d C.N = true) (hs : (ops[j]?).bind (·.dst) = some s)
    (he : e.get s = some undef) (kk : DW C ops μ Q tl rest (k + 1) ((d, undef) :: e) ts) : DW C ops μ Q tl (⟨some d, op, t, pos, af, some (j, b)⟩ :: rest) k e ts := by
  intro a φ tw tr ha hr hinv
  have hw : Region.wanted ⟨some d, op, t, pos, af, some (j, b)⟩ (yielded ops a.tmps) = false := by
    have hy : yielded ops a.tmps j = none := by simp [yielded, hs, ha.get s _ he, undef]
    simp [Region.wanted, hy]
  have htch : tch ops ⟨some d, op, t, pos, af, some (j, b)⟩ a = [] := by unfold tch; rw [if_neg (by rw [hw]; simp)]
  unfold walk dOp
  simp only [hk]
  rw [htch]
  refine ⟨by simp, .inl ⟨.val undef, .inr ⟨hw, rfl⟩, by simp [Eff.wr], ?_⟩⟩
  refine kk _ _ _ _ (ha.put hd) ⟨hr.fsome, hr.fdom, fun p hp j hj => ?_, fun p hp j hj => ?_, fun b hb j hj => ?_, fun b hb hB j hj => ?_, hr.nd⟩ hinv
  · rcases hj with hj | ⟨_, hj⟩
    · exact hr.ftw p hp _ hj
    · simp [Eff.wr] at hj
  · rcases hj with hj | ⟨_, hj⟩
    · exact hr.ftr p hp _ hj
    · simp at hj
  · rcases hj with hj | ⟨_, hj⟩
    · exact hr.old b hb _ hj
    · simp [Eff.wr] at hj
  · rcases hj with hj | ⟨_, hj⟩
    · exact hr.oldr b hb hB _ hj
    · simp at hj
end Go.Proofs.Ytahoghldnijnbaa.SL
