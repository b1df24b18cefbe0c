/-
  Verdicts lead back from their words, and who is due at two times is due between; for all of them.
  Conditions: none.
-/
import Derived.Test.YtobkhnmglbfheaaZ6
import Derived.Test.YtobkhnmglbfheaaRows
import Derived.ProofKit
import Derived.ChangeOld
namespace Go.Proofs.Ytobkhnmglbfheaa
open Go Go.RowKit SL
open Go.ChangeShapes Go.WideShapes
set_option linter.unusedVariables false
namespace FUseropDue
theorem own : ownKnob Try.prog.godebug = none := by kernel_rfl
theorem laidOut : laidOutB Try.prog = true := by kernel_rfl
theorem walk (f0 : Bool) (a0 b0 : Nat) (x1 y1 z1 : Nat) (w : World) (ha0 : a0 < 18446744073709551616) (hb0 : b0 < 18446744073709551616) (hx1 : x1 < 18446744073709551616) (hy1 : y1 < 18446744073709551616) (hz1 : z1 < 18446744073709551616) : Calls Try.prog 6 #[.agg (vda f0 a0 b0), .agg #[.int .u64 (x1 : Int), .int .u64 (y1 : Int), .int .u64 (z1 : Int)]] w fun e w' => e = .returned (.bool true) ∧ Below w.heap.size w w' :=
  (UseropDue_walk f0 a0 b0 x1 y1 z1 ha0 hb0 hx1 hy1 hz1 w ).mono fun e w' h => ⟨h.1, h.2.below⟩
set_option maxRecDepth 100000 in
theorem lifted (os : Os) (started : os.Started) (H : Type) (enc : TypeId × Value → H) :
    ReturnsInHanded {} Try.checked os 6 .any (Rows.useropDueSpec.pre6 enc Try.prog Try.f6 Rows.useropDueRow.domain false) (Rows.useropDueSpec.post enc Try.prog Try.f6 false true false false) := by
  refine returnsInHanded_of_change (C := Try.checked) own started (by kernel_rfl) Try.func6
    (ChangeSpec.witness6 (enc := enc) (C := Try.checked) false ⟨#[], #[.agg #[.bool false, .int .u64 0, .int .u64 0], .agg #[.int .u64 0, .int .u64 0, .int .u64 0]], []⟩ 8 (by kernel_rfl) (by kernel_rfl) (by kernel_rfl) (by kernel_rfl)) ?_
  intro W base args ds gs before hval0 hW hcnd _
  have hval : ∀ (j : Nat) t v, Try.f6.params[j]? = some t → args[j]? = some v → Value.okWide Try.prog W .any base t v := hval0
  have hW' := hW
  obtain ⟨p, q, hA0, hV, rfl, hfz, hnd⟩ := hW
  have hA : DataW.TrodAll enc Try.prog W 0 (fun _ => true) true Try.f6.params.toList args.toList ds p := hA0
  rw [Try.params6] at hA hval
  obtain ⟨v0, vs0, d0, ds0, p0, q0, hargs, rfl, rfl, h0, r0⟩ := trodAll_cons hA
  obtain ⟨v1, vs1, d1, ds1, p1, q1, rfl, rfl, rfl, h1, r1⟩ := trodAll_cons r0
  obtain ⟨rfl, rfl, rfl⟩ := trodAll_nil r1
  obtain rfl : args = #[v0, v1] := by cases args; simp_all
  obtain ⟨rfl, rfl⟩ := trodVars_none hV
  have lt0 : ∀ x ∈ p0, x.block < W.heap.size := by obtain ⟨m, hm⟩ := h0; exact DataW.trod_lt m _ _ _ hm
  have lt1 : ∀ x ∈ p1, x.block < W.heap.size := by obtain ⟨m, hm⟩ := h1; exact DataW.trod_lt m _ _ _ hm
  obtain ⟨⟨f0, a0, b0⟩, ⟨ha0, hb0⟩, rfl⟩ := open_agg (g := fun x : Bool × Nat × Nat => (vda x.1 x.2.1 x.2.2).toList) (e := tyVd) (by kernel_rfl) (by kernel_rfl) (fun _ h => is_vd h) (hval 0 _ _ rfl rfl) h0
  obtain ⟨⟨x1, y1, z1⟩, ⟨hx1, hy1, hz1⟩, rfl⟩ := open_agg (g := fun x : Nat × Nat × Nat => [Value.int .u64 (x.1 : Int), .int .u64 (x.2.1 : Int), .int .u64 (x.2.2 : Int)]) (e := tyA3) (by kernel_rfl) (by kernel_rfl) (fun _ h => is_a3 h) (hval 1 _ _ rfl rfl) h1
  clear hA0 hval0
  refine (walk f0 a0 b0 x1 y1 z1 W ha0 hb0 hx1 hy1 hz1).mono fun e W' ⟨he, bel⟩ => ?_
  subst he
  exact ⟨_, rfl, _, _, _, [], _, [], hW', trodAll_mk1 (shut_bool Try.underlying4 _), (trodAll_cons_mk (Below.trod laidOut (by kernel_rfl) (of_decide_eq_true (by kernel_rfl)) h0 bel lt0) (trodAll_cons_mk (Below.trod laidOut (by kernel_rfl) (of_decide_eq_true (by kernel_rfl)) h1 bel lt1) trodAll_mk0)), rfl, bel.frame _, fun h => by cases h⟩
theorem over : Rows.useropDueRow.holds Try.pinned (OpenSpec.ofChange Rows.useropDueSpec) :=
  OpenClaim.holds_of_wide 6 Try.f6 rfl rfl rfl rfl rfl rfl rfl ⟨rfl, rfl, rfl, rfl, rfl⟩ rfl rfl rfl rfl rfl (by kernel_rfl) Try.func6 (by kernel_rfl)
    (of_decide_eq_true (by kernel_rfl)) (by unfold Func.isWrapper; first | (rw [if_pos (by decide +kernel)]; kernel_rfl) | (rw [if_neg (by decide +kernel)]; exact ⟨rfl, rfl⟩))
    (fun os started H enc _ => lifted os started H enc)
end FUseropDue
/-- THE STATEMENT -/
theorem useropDue_proved : Rows.UseropDueSaid := FUseropDue.over
#print axioms useropDue_proved
end Go.Proofs.Ytobkhnmglbfheaa
