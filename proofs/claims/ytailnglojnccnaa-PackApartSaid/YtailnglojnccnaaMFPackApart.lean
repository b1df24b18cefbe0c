/-
  Parts of one form that are not the same have other bytes; for all of them.
  Conditions: none.
-/
import Derived.Test.YtailnglojnccnaaZ4
import Derived.Test.YtailnglojnccnaaRows
import Derived.ProofKit
import Derived.ChangeOld
namespace Go.Proofs.Ytailnglojnccnaa
open Go Go.RowKit SL
open Go.ChangeShapes Go.WideShapes
set_option linter.unusedVariables false
namespace FPackApart
theorem own : ownKnob Try.prog.godebug = none := by kernel_rfl
theorem laidOut : laidOutB Try.prog = true := by kernel_rfl
theorem walk (v0 : Value) (l0 : List PartV) (v1 : Value) (l1 : List PartV) (w : World) (hr0 : PartsAt w v0 l0) (hr1 : PartsAt w v1 l1) : Calls Try.prog 5 #[v0, v1] w fun e w' => e = .returned (.bool true) ∧ Below w.heap.size w w' :=
  (PackApart_walk v0 l0 v1 l1  w hr0 hr1).mono fun e w' h => ⟨h.1, h.2.below⟩
set_option maxRecDepth 100000 in
theorem lifted (os : Os) (started : os.Started) (H : Type) (enc : TypeId × Value → H) :
    ReturnsInHanded {} Try.checked os 5 .any (Rows.packApartSpec.pre6 enc Try.prog Try.f5 Rows.packApartRow.domain false) (Rows.packApartSpec.post enc Try.prog Try.f5 false true false false) := by
  refine returnsInHanded_of_change (C := Try.checked) own started (by kernel_rfl) Try.func5
    (ChangeSpec.witness6 (enc := enc) (C := Try.checked) false ⟨#[], #[.slice none 0 0, .slice none 0 0], []⟩ 8 (by kernel_rfl) (by kernel_rfl) (by kernel_rfl) (by kernel_rfl)) ?_
  intro W base args ds gs before hval0 hW hcnd _
  have hval : ∀ (j : Nat) t v, Try.f5.params[j]? = some t → args[j]? = some v → Value.okWide Try.prog W .any base t v := hval0
  have hW' := hW
  obtain ⟨p, q, hA0, hV, rfl, hfz, hnd⟩ := hW
  have hA : DataW.TrodAll enc Try.prog W 0 (fun _ => true) true Try.f5.params.toList args.toList ds p := hA0
  rw [Try.params5] at hA hval
  obtain ⟨v0, vs0, d0, ds0, p0, q0, hargs, rfl, rfl, h0, r0⟩ := trodAll_cons hA
  obtain ⟨v1, vs1, d1, ds1, p1, q1, rfl, rfl, rfl, h1, r1⟩ := trodAll_cons r0
  obtain ⟨rfl, rfl, rfl⟩ := trodAll_nil r1
  obtain rfl : args = #[v0, v1] := by cases args; simp_all
  obtain ⟨rfl, rfl⟩ := trodVars_none hV
  have lt0 : ∀ x ∈ p0, x.block < W.heap.size := by obtain ⟨m, hm⟩ := h0; exact DataW.trod_lt m _ _ _ hm
  have lt1 : ∀ x ∈ p1, x.block < W.heap.size := by obtain ⟨m, hm⟩ := h1; exact DataW.trod_lt m _ _ _ hm
  obtain ⟨l0, hq0, hs0⟩ := SL.open_row (g := psc) (Q := fun x : PartV => x.wd < M256 ∧ RowAt W 1 x.dv x.db.length (ucs x.db)) (e := tyPart) (sz := 6) Try.underlying26 (by kernel_rfl) rfl (by decide) (fun _ h => is_part h) (hval 0 _ _ rfl rfl) h0
  have hr0 : PartsAt W v0 l0 := ⟨hs0, fun p hp => (hq0 p hp).1, fun p hp => (hq0 p hp).2⟩
  obtain ⟨l1, hq1, hs1⟩ := SL.open_row (g := psc) (Q := fun x : PartV => x.wd < M256 ∧ RowAt W 1 x.dv x.db.length (ucs x.db)) (e := tyPart) (sz := 6) Try.underlying26 (by kernel_rfl) rfl (by decide) (fun _ h => is_part h) (hval 1 _ _ rfl rfl) h1
  have hr1 : PartsAt W v1 l1 := ⟨hs1, fun p hp => (hq1 p hp).1, fun p hp => (hq1 p hp).2⟩
  clear hA0 hval0
  refine (walk v0 l0 v1 l1 W hr0 hr1).mono fun e W' ⟨he, bel⟩ => ?_
  subst he
  exact ⟨_, rfl, _, _, _, [], _, [], hW', trodAll_mk1 (shut_bool Try.underlying4 _), (trodAll_cons_mk (Below.trod laidOut (by kernel_rfl) (of_decide_eq_true (by kernel_rfl)) h0 bel lt0) (trodAll_cons_mk (Below.trod laidOut (by kernel_rfl) (of_decide_eq_true (by kernel_rfl)) h1 bel lt1) trodAll_mk0)), rfl, bel.frame _, fun h => by cases h⟩
theorem over : Rows.packApartRow.holds Try.pinned (OpenSpec.ofChange Rows.packApartSpec) :=
  OpenClaim.holds_of_wide 5 Try.f5 rfl rfl rfl rfl rfl rfl rfl ⟨rfl, rfl, rfl, rfl, rfl⟩ rfl rfl rfl rfl rfl (by kernel_rfl) Try.func5 (by kernel_rfl)
    (of_decide_eq_true (by kernel_rfl)) (by unfold Func.isWrapper; first | (rw [if_pos (by decide +kernel)]; kernel_rfl) | (rw [if_neg (by decide +kernel)]; exact ⟨rfl, rfl⟩))
    (fun os started H enc _ => lifted os started H enc)
end FPackApart
/-- THE STATEMENT -/
theorem packApart_proved : Rows.PackApartSaid := FPackApart.over
#print axioms packApart_proved
end Go.Proofs.Ytailnglojnccnaa
