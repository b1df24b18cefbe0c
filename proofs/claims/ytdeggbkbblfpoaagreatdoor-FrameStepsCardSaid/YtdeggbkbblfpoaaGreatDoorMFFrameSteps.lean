/-
  The machine's step is the document's, at every step.
  Conditions: none.
-/
import Derived.Test.YtdeggbkbblfpoaaGreatDoorZ6
import Derived.Test.YtdeggbkbblfpoaaGreatDoorRows
import Derived.Test.YtdeggbkbblfpoaaGreatDoorCards
import Derived.Test.YtdeggbkbblfpoaaGreatDoorTie
import Derived.SevenTiedAt
import Derived.LaidMore
import Derived.Stop.Joined
import Derived.ProofKit
import Derived.ChangeOld
namespace Go.Proofs.YtdeggbkbblfpoaaGreatDoor
open Go Go.RowKit SL
open Go.ChangeShapes Go.WideShapes
set_option linter.unusedVariables false
namespace FFrameSteps
theorem own : ownKnob Tryz.prog.godebug = none := by kernel_rfl
theorem laidOut : laidOutB Tryz.prog = true := by kernel_rfl
theorem walk (x0 : FrV) (X0 : FrL) (ea1 eb1 ec1 ed1 : Nat) (v2 : Value) (l2 : List Nat) (w : World) (hr0 : FrRows w x0 X0) (hn0 : FrNum x0 X0) (hea1 : ea1 < 18446744073709551616) (heb1 : eb1 < 18446744073709551616) (hec1 : ec1 < 18446744073709551616) (hed1 : ed1 < 18446744073709551616) (hl2 : ∀ a ∈ l2, a < M256) (hr2 : RowAt w 4 v2 l2.length (wcs l2)) (hL : SK.TurnAt w ∧ SK.NumAt w) : Calls Tryz.prog 3 #[frv x0, .agg (enva ea1 eb1 ec1 ed1), v2] w fun e w' => e = .returned (.bool true) ∧ Below w.heap.size w w' :=
  (FrameSteps_walk x0 X0 ea1 eb1 ec1 ed1 v2 l2 w hL.1 hL.2 hr0 hn0 hea1 heb1 hec1 hed1 hl2 hr2).mono fun e w' h => ⟨h.1, h.2.below⟩
theorem door_met (os : Os) (args : Array Value) : laidMetH Tryz.prog Rows.frameStepsRow.laid ((World.doorLaid Tryz.prog 400 os).forCall (fun _ _ => 0) ⟨#[], args, []⟩).memory :=
  laidMetH_of_parts3 (fuel := 8) (laidMet_of_run' 8 (by kernel_rfl) (by kernel_rfl)) (by kernel_rfl) (by kernel_rfl)
set_option maxRecDepth 100000 in
theorem lifted (os : Os) (started : os.Started) (H : Type) (enc : TypeId × Value → H) :
    ReturnsInHanded {} Tryz.checked os 3 .any (fun w args => (Rows.frameStepsSpec.pre enc Tryz.prog Tryz.f3 [] false w args ∧ laidMetH Tryz.prog Rows.frameStepsRow.laid w) ∧ sizedMet enc Tryz.prog Tryz.f3 (OpenSpec.ofChange Rows.frameStepsSpec) false w args) (Rows.frameStepsSpec.post enc Tryz.prog Tryz.f3 false true false false) := by
  refine returnsInHanded_of_change_and (C := Tryz.checked) (X := fun w _ => laidMetH Tryz.prog Rows.frameStepsRow.laid w) (fun _ _ _ hh h => h.of_heap hh) own started (by kernel_rfl) Tryz.func3
    (ChangeSpec.witness_shaped (enc := enc) (C := Tryz.checked) (os := os) (X := fun w _ => laidMetH Tryz.prog Rows.frameStepsRow.laid w) false (World.doorLaid Tryz.prog 400 os) #[frv zeroF, .agg (enva 0 0 0 0), .slice none 0 0] 8 rfl (World.shaped_of_RefB (by kernel_rfl) (by kernel_rfl)) (by kernel_rfl) (by kernel_rfl) (by kernel_rfl) (door_met os _)) ?_
  intro W base args ds gs before hval0 hW _ hsz hL _
  have hval : ∀ (j : Nat) t v, Tryz.f3.params[j]? = some t → args[j]? = some v → Value.okWide Tryz.prog W .any base t v := hval0
  have hW' := hW
  obtain ⟨p, q, hA0, hV, rfl, hfz, hnd⟩ := hW
  have hA : DataW.TrodAll enc Tryz.prog W 0 (fun _ => true) true Tryz.f3.params.toList args.toList ds p := hA0
  rw [Tryz.params3] at hA hval
  obtain ⟨v0, vs0, d0, ds0, p0, q0, hargs, rfl, rfl, h0, r0⟩ := trodAll_cons hA
  obtain ⟨v1, vs1, d1, ds1, p1, q1, rfl, rfl, rfl, h1, r1⟩ := trodAll_cons r0
  obtain ⟨v2, vs2, d2, ds2, p2, q2, rfl, rfl, rfl, h2, r2⟩ := trodAll_cons r1
  obtain ⟨rfl, rfl, rfl⟩ := trodAll_nil r2
  obtain rfl : args = #[v0, v1, v2] := by cases args; simp_all
  obtain ⟨rfl, rfl⟩ := trodVars_none hV
  have lt0 : ∀ x ∈ p0, x.block < W.heap.size := by obtain ⟨m, hm⟩ := h0; exact DataW.trod_lt m _ _ _ hm
  have lt1 : ∀ x ∈ p1, x.block < W.heap.size := by obtain ⟨m, hm⟩ := h1; exact DataW.trod_lt m _ _ _ hm
  have lt2 : ∀ x ∈ p2, x.block < W.heap.size := by obtain ⟨m, hm⟩ := h2; exact DataW.trod_lt m _ _ _ hm
  obtain ⟨⟨x0, X0⟩, ⟨hr0, hn0⟩, rfl⟩ := open_agg (g := fun p : FrV × FrL => frc p.1) (e := tyFr) (by kernel_rfl) (by kernel_rfl) (fun _ h => is_fr h) (hval 0 _ _ rfl rfl) h0
  obtain ⟨⟨ea1, eb1, ec1, ed1⟩, ⟨hea1, heb1, hec1, hed1⟩, rfl⟩ := open_agg (g := fun x : Nat × Nat × Nat × Nat => (enva x.1 x.2.1 x.2.2.1 x.2.2.2).toList) (e := tyEn) (by kernel_rfl) (by kernel_rfl) (fun _ h => is_en h) (hval 1 _ _ rfl rfl) h1
  obtain ⟨l2, hl2, hr2⟩ := SL.open_row (e := Ty.word) (sz := 4) Tryz.underlying23 (by kernel_rfl) rfl (by decide) (fun _ h => is_word h) (hval 2 _ _ rfl rfl) h2
  clear hA0 hval0
  refine (walk x0 X0 ea1 eb1 ec1 ed1 v2 l2 W hr0 hn0 hea1 heb1 hec1 hed1 hl2 hr2 (laid_steps hL)).mono fun e W' ⟨he, bel⟩ => ?_
  subst he
  exact ⟨_, rfl, _, _, _, [], _, [], hW', trodAll_mk1 (shut_bool Tryz.underlying4 _), (trodAll_cons_mk (Below.trod laidOut (by kernel_rfl) (of_decide_eq_true (by kernel_rfl)) h0 bel lt0) (trodAll_cons_mk (Below.trod laidOut (by kernel_rfl) (of_decide_eq_true (by kernel_rfl)) h1 bel lt1) (trodAll_cons_mk (Below.trod laidOut (by kernel_rfl) (of_decide_eq_true (by kernel_rfl)) h2 bel lt2) trodAll_mk0))), rfl, bel.frame _, fun h => by cases h⟩
theorem over : Rows.frameStepsRow.holds Tryz.pinned (OpenSpec.ofChange Rows.frameStepsSpec) :=
  OpenClaim.holds_of_wide 3 Tryz.f3 rfl rfl rfl rfl rfl rfl rfl ⟨rfl, rfl, rfl, rfl, rfl⟩ rfl rfl rfl rfl rfl (by kernel_rfl) Tryz.func3 (by kernel_rfl)
    (of_decide_eq_true (by kernel_rfl)) (by unfold Func.isWrapper; first | (rw [if_pos (by decide +kernel)]; kernel_rfl) | (rw [if_neg (by decide +kernel)]; exact ⟨rfl, rfl⟩))
    (fun os started H enc _ => lifted os started H enc)
end FFrameSteps
/-- THE STATEMENT -/
theorem frameSteps_proved : Rows.FrameStepsCardSaid :=
  Claim7.holds_tied_plain_at .later [] [.data, .data, .data, .data, .data] true (true, "85155ceaee69666358b32dc3f1cc567f5a98ea180c31635cc7b845fb9d52d52d") true
    FFrameSteps.over (fun _ h => by cases h) (by kernel_rfl) (fun _ h => by cases h) frameSteps_row_tie rfl ⟨rfl, rfl⟩ (by kernel_rfl) rfl
    (fun f fn hf hfn => by
      obtain rfl : f = 3 := Option.some.inj ((show Tryz.prog.funcNamed "sheafer/sheaferlaw14.FrameSteps" = some 3 by kernel_rfl).symm.trans hf) |>.symm
      obtain rfl : fn = Tryz.f3 := (Option.some.inj (Tryz.func3.symm.trans hfn)).symm
      exact ⟨by kernel_rfl, fun j t ht => by
        have hall : (Tryz.f3.params.toList.all fun u => !Tryz.prog.wantsStandIn u) = true := by kernel_rfl
        have hm : t ∈ Tryz.f3.params.toList := by simpa using Array.mem_of_getElem? ht
        exact (show Tryz.prog.wantsStandIn t = false by simpa using List.all_eq_true.1 hall t hm)⟩)
    (by kernel_rfl)
#print axioms frameSteps_proved
end Go.Proofs.YtdeggbkbblfpoaaGreatDoor
