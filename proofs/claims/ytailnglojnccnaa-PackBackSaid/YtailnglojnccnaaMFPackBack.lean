/-
  Parts and their bytes lead back to one another; for all of them.
  Conditions: none.
-/
import Derived.Test.YtailnglojnccnaaZ4
import Derived.Test.YtailnglojnccnaaRows
import Derived.ProofKit
import Derived.ChangeOld
namespace Go.Proofs.Ytailnglojnccnaa
open Go Go.RowKit SL
open Go.ChangeShapes Go.WideShapes
set_option linter.unusedVariables false
namespace FPackBack
theorem own : ownKnob Try.prog.godebug = none := by kernel_rfl
theorem laidOut : laidOutB Try.prog = true := by kernel_rfl
theorem walk (v0 : Value) (l0 : List PartV) (v1 : Value) (l1 : List UInt8) (v2 : Value) (l2 : List Bool) (w : World) (hr0 : PartsAt w v0 l0) (hr1 : RowAt w 1 v1 l1.length (ucs l1)) (hr2 : RowAt w 1 v2 l2.length (bls l2)) : Calls Try.prog 8 #[v0, v1, v2] w fun e w' => e = .returned (.bool true) ∧ Below w.heap.size w w' :=
  (PackBack_walk v0 l0 v1 l1 v2 l2  w hr0 hr1 hr2).mono fun e w' h => ⟨h.1, h.2.below⟩
set_option maxRecDepth 100000 in
theorem lifted (os : Os) (started : os.Started) (H : Type) (enc : TypeId × Value → H) :
    ReturnsInHanded {} Try.checked os 8 .any (Rows.packBackSpec.pre6 enc Try.prog Try.f8 Rows.packBackRow.domain false) (Rows.packBackSpec.post enc Try.prog Try.f8 false true false false) := by
  refine returnsInHanded_of_change (C := Try.checked) own started (by kernel_rfl) Try.func8
    (ChangeSpec.witness6 (enc := enc) (C := Try.checked) false ⟨#[], #[.slice none 0 0, .slice none 0 0, .slice none 0 0], []⟩ 8 (by kernel_rfl) (by kernel_rfl) (by kernel_rfl) (by kernel_rfl)) ?_
  intro W base args ds gs before hval0 hW hcnd _
  have hval : ∀ (j : Nat) t v, Try.f8.params[j]? = some t → args[j]? = some v → Value.okWide Try.prog W .any base t v := hval0
  have hW' := hW
  obtain ⟨p, q, hA0, hV, rfl, hfz, hnd⟩ := hW
  have hA : DataW.TrodAll enc Try.prog W 0 (fun _ => true) true Try.f8.params.toList args.toList ds p := hA0
  rw [Try.params8] at hA hval
  obtain ⟨v0, vs0, d0, ds0, p0, q0, hargs, rfl, rfl, h0, r0⟩ := trodAll_cons hA
  obtain ⟨v1, vs1, d1, ds1, p1, q1, rfl, rfl, rfl, h1, r1⟩ := trodAll_cons r0
  obtain ⟨v2, vs2, d2, ds2, p2, q2, rfl, rfl, rfl, h2, r2⟩ := trodAll_cons r1
  obtain ⟨rfl, rfl, rfl⟩ := trodAll_nil r2
  obtain rfl : args = #[v0, v1, v2] := by cases args; simp_all
  obtain ⟨rfl, rfl⟩ := trodVars_none hV
  have lt0 : ∀ x ∈ p0, x.block < W.heap.size := by obtain ⟨m, hm⟩ := h0; exact DataW.trod_lt m _ _ _ hm
  have lt1 : ∀ x ∈ p1, x.block < W.heap.size := by obtain ⟨m, hm⟩ := h1; exact DataW.trod_lt m _ _ _ hm
  have lt2 : ∀ x ∈ p2, x.block < W.heap.size := by obtain ⟨m, hm⟩ := h2; exact DataW.trod_lt m _ _ _ hm
  obtain ⟨l0, hq0, hs0⟩ := SL.open_row (g := psc) (Q := fun x : PartV => x.wd < M256 ∧ RowAt W 1 x.dv x.db.length (ucs x.db)) (e := tyPart) (sz := 6) Try.underlying26 (by kernel_rfl) rfl (by decide) (fun _ h => is_part h) (hval 0 _ _ rfl rfl) h0
  have hr0 : PartsAt W v0 l0 := ⟨hs0, fun p hp => (hq0 p hp).1, fun p hp => (hq0 p hp).2⟩
  obtain ⟨l1, -, hr1⟩ := SL.open_row (Q := fun _ => True) (e := Ty.int .u8) (sz := 1) Try.underlying25 (by kernel_rfl) rfl (by decide) (fun _ h => is_u8 h) (hval 1 _ _ rfl rfl) h1
  obtain ⟨l2, -, hr2⟩ := SL.open_row (Q := fun _ => True) (e := Ty.bool) (sz := 1) Try.underlying23 (by kernel_rfl) rfl (by decide) (fun _ h => is_bool1 h) (hval 2 _ _ rfl rfl) h2
  clear hA0 hval0
  refine (walk v0 l0 v1 l1 v2 l2 W hr0 hr1 hr2).mono fun e W' ⟨he, bel⟩ => ?_
  subst he
  exact ⟨_, rfl, _, _, _, [], _, [], hW', trodAll_mk1 (shut_bool Try.underlying4 _), (trodAll_cons_mk (Below.trod laidOut (by kernel_rfl) (of_decide_eq_true (by kernel_rfl)) h0 bel lt0) (trodAll_cons_mk (Below.trod laidOut (by kernel_rfl) (of_decide_eq_true (by kernel_rfl)) h1 bel lt1) (trodAll_cons_mk (Below.trod laidOut (by kernel_rfl) (of_decide_eq_true (by kernel_rfl)) h2 bel lt2) trodAll_mk0))), rfl, bel.frame _, fun h => by cases h⟩
theorem over : Rows.packBackRow.holds Try.pinned (OpenSpec.ofChange Rows.packBackSpec) :=
  OpenClaim.holds_of_wide 8 Try.f8 rfl rfl rfl rfl rfl rfl rfl ⟨rfl, rfl, rfl, rfl, rfl⟩ rfl rfl rfl rfl rfl (by kernel_rfl) Try.func8 (by kernel_rfl)
    (of_decide_eq_true (by kernel_rfl)) (by unfold Func.isWrapper; first | (rw [if_pos (by decide +kernel)]; kernel_rfl) | (rw [if_neg (by decide +kernel)]; exact ⟨rfl, rfl⟩))
    (fun os started H enc _ => lifted os started H enc)
end FPackBack
/-- THE STATEMENT -/
theorem packBack_proved : Rows.PackBackSaid := FPackBack.over
#print axioms packBack_proved
end Go.Proofs.Ytailnglojnccnaa
