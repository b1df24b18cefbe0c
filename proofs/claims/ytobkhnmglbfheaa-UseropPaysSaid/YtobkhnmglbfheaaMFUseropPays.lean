/-
  The price is never above MaxFee, and what is paid ahead is enough for all gas; for all operations and base fees.
  Conditions: none.
-/
import Derived.Test.YtobkhnmglbfheaaZ6
import Derived.Test.YtobkhnmglbfheaaRows
import Derived.ProofKit
import Derived.ChangeOld
namespace Go.Proofs.Ytobkhnmglbfheaa
open Go Go.RowKit SL
open Go.ChangeShapes Go.WideShapes
set_option linter.unusedVariables false
namespace FUseropPays
theorem own : ownKnob Try.prog.godebug = none := by kernel_rfl
theorem laidOut : laidOutB Try.prog = true := by kernel_rfl
theorem walk (u0 : OpV) (n1 : Nat) (w : World) (hr0 : OpAt w u0) (hn1 : n1 < 18446744073709551616) : Calls Try.prog 8 #[.agg (opa u0), .int .u64 (n1 : Int)] w fun e w' => e = .returned (.bool true) ∧ Below w.heap.size w w' :=
  (UseropPays_walk u0 n1 hn1 w hr0).mono fun e w' h => ⟨h.1, h.2.below⟩
set_option maxRecDepth 100000 in
theorem lifted (os : Os) (started : os.Started) (H : Type) (enc : TypeId × Value → H) :
    ReturnsInHanded {} Try.checked os 8 .any (Rows.useropPaysSpec.pre6 enc Try.prog Try.f8 Rows.useropPaysRow.domain false) (Rows.useropPaysSpec.post enc Try.prog Try.f8 false true false false) := by
  refine returnsInHanded_of_change (C := Try.checked) own started (by kernel_rfl) Try.func8
    (ChangeSpec.witness6 (enc := enc) (C := Try.checked) false ⟨#[], #[.agg #[.int .u64 0, .int .u64 0, .int .u64 0, .int .u64 0, .int .u64 0, .slice none 0 0, .slice none 0 0, .int .u64 0, .int .u64 0, .int .u64 0, .int .u64 0, .int .u64 0, .int .u64 0, .int .u64 0, .int .u64 0, .slice none 0 0, .slice none 0 0], .int .u64 0], []⟩ 8 (by kernel_rfl) (by kernel_rfl) (by kernel_rfl) (by kernel_rfl)) ?_
  intro W base args ds gs before hval0 hW hcnd _
  have hval : ∀ (j : Nat) t v, Try.f8.params[j]? = some t → args[j]? = some v → Value.okWide Try.prog W .any base t v := hval0
  have hW' := hW
  obtain ⟨p, q, hA0, hV, rfl, hfz, hnd⟩ := hW
  have hA : DataW.TrodAll enc Try.prog W 0 (fun _ => true) true Try.f8.params.toList args.toList ds p := hA0
  rw [Try.params8] at hA hval
  obtain ⟨v0, vs0, d0, ds0, p0, q0, hargs, rfl, rfl, h0, r0⟩ := trodAll_cons hA
  obtain ⟨v1, vs1, d1, ds1, p1, q1, rfl, rfl, rfl, h1, r1⟩ := trodAll_cons r0
  obtain ⟨rfl, rfl, rfl⟩ := trodAll_nil r1
  obtain rfl : args = #[v0, v1] := by cases args; simp_all
  obtain ⟨rfl, rfl⟩ := trodVars_none hV
  have lt0 : ∀ x ∈ p0, x.block < W.heap.size := by obtain ⟨m, hm⟩ := h0; exact DataW.trod_lt m _ _ _ hm
  have lt1 : ∀ x ∈ p1, x.block < W.heap.size := by obtain ⟨m, hm⟩ := h1; exact DataW.trod_lt m _ _ _ hm
  obtain ⟨u0, hr0, rfl⟩ := open_agg (g := opc) (Q := OpAt W) (e := tyOp) (by kernel_rfl) (by kernel_rfl) (fun _ h => is_op h) (hval 0 _ _ rfl rfl) h0
  obtain ⟨i1, rfl, hi1⟩ := SL.open_n Try.underlying25 (by kernel_rfl) (hval 1 _ _ rfl rfl) h1
  obtain ⟨n1, rfl, hn1⟩ := wf_u64 hi1
  clear hA0 hval0
  refine (walk u0 n1 W hr0 hn1).mono fun e W' ⟨he, bel⟩ => ?_
  subst he
  exact ⟨_, rfl, _, _, _, [], _, [], hW', trodAll_mk1 (shut_bool Try.underlying4 _), (trodAll_cons_mk (Below.trod laidOut (by kernel_rfl) (of_decide_eq_true (by kernel_rfl)) h0 bel lt0) (trodAll_cons_mk (Below.trod laidOut (by kernel_rfl) (of_decide_eq_true (by kernel_rfl)) h1 bel lt1) trodAll_mk0)), rfl, bel.frame _, fun h => by cases h⟩
theorem over : Rows.useropPaysRow.holds Try.pinned (OpenSpec.ofChange Rows.useropPaysSpec) :=
  OpenClaim.holds_of_wide 8 Try.f8 rfl rfl rfl rfl rfl rfl rfl ⟨rfl, rfl, rfl, rfl, rfl⟩ rfl rfl rfl rfl rfl (by kernel_rfl) Try.func8 (by kernel_rfl)
    (of_decide_eq_true (by kernel_rfl)) (by unfold Func.isWrapper; first | (rw [if_pos (by decide +kernel)]; kernel_rfl) | (rw [if_neg (by decide +kernel)]; exact ⟨rfl, rfl⟩))
    (fun os started H enc _ => lifted os started H enc)
end FUseropPays
/-- THE STATEMENT -/
theorem useropPays_proved : Rows.UseropPaysSaid := FUseropPays.over
#print axioms useropPays_proved
end Go.Proofs.Ytobkhnmglbfheaa
