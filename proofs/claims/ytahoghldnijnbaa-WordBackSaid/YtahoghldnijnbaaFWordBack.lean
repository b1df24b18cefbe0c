/-
  Words lead back from their bytes and their digits; they stand as their bytes do.
  Conditions: none.
-/
import Derived.Test.YtahoghldnijnbaaRows
import Derived.ProofKit
import Derived.ChangeOld
import Derived.Test.YtahoghldnijnbaaSlp
import Derived.Test.YtahoghldnijnbaaW32
namespace Go.Proofs.Ytahoghldnijnbaa
open Go Go.RowKit SL
open Go.ChangeShapes Go.WideShapes
set_option linter.unusedVariables false
namespace FWordBack
theorem own : ownKnob Try.prog.godebug = none := by kernel_rfl
theorem laidOut : laidOutB Try.prog = true := by kernel_rfl
theorem walk (a0 : Nat) (a1 : Nat) (s2 : ByteArray) (w : World) (ha0 : a0 < M256) (ha1 : a1 < M256) (hs2 : s2.size ≤ maxLen) : Calls Try.prog 13 #[wv a0, wv a1, .string s2] w fun e w' => e = .returned (.bool true) ∧ Below w.heap.size w w' :=
  (WordBack_walk a0 a1 s2 ha0 ha1 hs2 w ).mono fun e w' h => ⟨h.1, h.2.below⟩
set_option maxRecDepth 100000 in
theorem lifted (os : Os) (started : os.Started) (H : Type) (enc : TypeId × Value → H) :
    ReturnsInHanded {} Try.checked os 13 .any (Rows.wordBackSpec.pre6 enc Try.prog Try.f13 Rows.wordBackRow.domain false) (Rows.wordBackSpec.post enc Try.prog Try.f13 false true false false) := by
  refine returnsInHanded_of_change (C := Try.checked) own started (by kernel_rfl) Try.func13
    (ChangeSpec.witness6 (enc := enc) (C := Try.checked) false ⟨#[], #[wv 0, wv 0, .string .empty], []⟩ 8 (by kernel_rfl) (by kernel_rfl) (by kernel_rfl) (by kernel_rfl)) ?_
  intro W base args ds gs before hval0 hW hcnd _
  have hval : ∀ (j : Nat) t v, Try.f13.params[j]? = some t → args[j]? = some v → Value.okWide Try.prog W .any base t v := hval0
  have hW' := hW
  obtain ⟨p, q, hA0, hV, rfl, hfz, hnd⟩ := hW
  have hA : DataW.TrodAll enc Try.prog W 0 (fun _ => true) true Try.f13.params.toList args.toList ds p := hA0
  rw [Try.params13] at hA hval
  obtain ⟨v0, vs0, d0, ds0, p0, q0, hargs, rfl, rfl, h0, r0⟩ := trodAll_cons hA
  obtain ⟨v1, vs1, d1, ds1, p1, q1, rfl, rfl, rfl, h1, r1⟩ := trodAll_cons r0
  obtain ⟨v2, vs2, d2, ds2, p2, q2, rfl, rfl, rfl, h2, r2⟩ := trodAll_cons r1
  obtain ⟨rfl, rfl, rfl⟩ := trodAll_nil r2
  obtain rfl : args = #[v0, v1, v2] := by cases args; simp_all
  obtain ⟨rfl, rfl⟩ := trodVars_none hV
  have lt0 : ∀ x ∈ p0, x.block < W.heap.size := by obtain ⟨m, hm⟩ := h0; exact DataW.trod_lt m _ _ _ hm
  have lt1 : ∀ x ∈ p1, x.block < W.heap.size := by obtain ⟨m, hm⟩ := h1; exact DataW.trod_lt m _ _ _ hm
  have lt2 : ∀ x ∈ p2, x.block < W.heap.size := by obtain ⟨m, hm⟩ := h2; exact DataW.trod_lt m _ _ _ hm
  obtain ⟨a0, ha0, rfl⟩ := open_word Try.underlying24 (by kernel_rfl) (hval 0 _ _ rfl rfl) h0
  obtain ⟨a1, ha1, rfl⟩ := open_word Try.underlying24 (by kernel_rfl) (hval 1 _ _ rfl rfl) h1
  obtain ⟨s2, rfl, hs2⟩ := open_str Try.underlying9 (by kernel_rfl) (hval 2 _ _ rfl rfl) h2
  clear hA0 hval0
  refine (walk a0 a1 s2 W ha0 ha1 hs2).mono fun e W' ⟨he, bel⟩ => ?_
  subst he
  exact ⟨_, rfl, _, _, _, [], _, [], hW', trodAll_mk1 (shut_bool Try.underlying4 _), (trodAll_cons_mk (Below.trod laidOut (by kernel_rfl) (of_decide_eq_true (by kernel_rfl)) h0 bel lt0) (trodAll_cons_mk (Below.trod laidOut (by kernel_rfl) (of_decide_eq_true (by kernel_rfl)) h1 bel lt1) (trodAll_cons_mk (Below.trod laidOut (by kernel_rfl) (of_decide_eq_true (by kernel_rfl)) h2 bel lt2) trodAll_mk0))), rfl, bel.frame _, fun h => by cases h⟩
theorem over : Rows.wordBackRow.holds Try.pinned (OpenSpec.ofChange Rows.wordBackSpec) :=
  OpenClaim.holds_of_wide 13 Try.f13 rfl rfl rfl rfl rfl rfl rfl ⟨rfl, rfl, rfl, rfl, rfl⟩ rfl rfl rfl rfl rfl (by kernel_rfl) Try.func13 (by kernel_rfl)
    (of_decide_eq_true (by kernel_rfl)) (by unfold Func.isWrapper; first | (rw [if_pos (by decide +kernel)]; kernel_rfl) | (rw [if_neg (by decide +kernel)]; exact ⟨rfl, rfl⟩))
    (fun os started H enc _ => lifted os started H enc)
end FWordBack
/-- THE STATEMENT -/
theorem wordBack_proved : Rows.WordBackSaid := FWordBack.over
#print axioms wordBack_proved
end Go.Proofs.Ytahoghldnijnbaa
