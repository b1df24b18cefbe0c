/-
  Which operations may be, are one, their bytes and hashes; for all rows of them, and of a chain's number.
  Conditions: none.
-/
import Derived.Test.YtobkhnmglbfheaaDoorZ5
import Derived.Test.YtobkhnmglbfheaaDoorRows
import Derived.Test.YtobkhnmglbfheaaDoorCards
import Derived.Test.YtobkhnmglbfheaaDoorTie
import Derived.SevenTiedAt
import Derived.LaidMore
import Derived.Stop.Joined
import Derived.ProofKit
import Derived.ChangeOld
namespace Go.Proofs.YtobkhnmglbfheaaDoor
open Go Go.RowKit SL
open Go.ChangeShapes Go.WideShapes
set_option linter.unusedVariables false
namespace FUseropLays
theorem own : ownKnob Tryd.prog.godebug = none := by kernel_rfl
theorem laidOut : laidOutB Tryd.prog = true := by kernel_rfl
theorem walk (v0 : Value) (l0 : List OpV) (n1 : Nat) (w : World) (hr0 : OpsAt w v0 l0) (hn1 : n1 < 18446744073709551616) (hL : SK.TurnAt w ∧ SK.NumAt w) : Calls Tryd.prog 3 #[v0, .int .u64 (n1 : Int)] w fun e w' => e = .returned (.bool true) ∧ Below w.heap.size w w' :=
  (UseropLays_walk v0 l0 n1 hn1 w hr0 hL).mono fun e w' h => ⟨h.1, h.2.below⟩
theorem door_met (os : Os) (args : Array Value) : laidMetH Tryd.prog Rows.useropLaysRow.laid ((World.doorLaid Tryd.prog 400 os).forCall (fun _ _ => 0) ⟨#[], args, []⟩).memory :=
  laidMetH_of_parts3 (fuel := 8) (laidMet_of_run' 8 (by kernel_rfl) (by kernel_rfl)) (by kernel_rfl) (by kernel_rfl)
set_option maxRecDepth 100000 in
theorem lifted (os : Os) (started : os.Started) (H : Type) (enc : TypeId × Value → H) :
    ReturnsInHanded {} Tryd.checked os 3 .any (fun w args => (Rows.useropLaysSpec.pre enc Tryd.prog Tryd.f3 [] false w args ∧ laidMetH Tryd.prog Rows.useropLaysRow.laid w) ∧ sizedMet enc Tryd.prog Tryd.f3 (OpenSpec.ofChange Rows.useropLaysSpec) false w args) (Rows.useropLaysSpec.post enc Tryd.prog Tryd.f3 false true false false) := by
  refine returnsInHanded_of_change_and (C := Tryd.checked) (X := fun w _ => laidMetH Tryd.prog Rows.useropLaysRow.laid w) (fun _ _ _ hh h => h.of_heap hh) own started (by kernel_rfl) Tryd.func3
    (ChangeSpec.witness_shaped (enc := enc) (C := Tryd.checked) (os := os) (X := fun w _ => laidMetH Tryd.prog Rows.useropLaysRow.laid w) false (World.doorLaid Tryd.prog 400 os) #[.slice none 0 0, .int .u64 0] 8 rfl (World.shaped_of_RefB (by kernel_rfl) (by kernel_rfl)) (by kernel_rfl) (by kernel_rfl) (by kernel_rfl) (door_met os _)) ?_
  intro W base args ds gs before hval0 hW _ _ hL _
  have hval : ∀ (j : Nat) t v, Tryd.f3.params[j]? = some t → args[j]? = some v → Value.okWide Tryd.prog W .any base t v := hval0
  have hW' := hW
  obtain ⟨p, q, hA0, hV, rfl, hfz, hnd⟩ := hW
  have hA : DataW.TrodAll enc Tryd.prog W 0 (fun _ => true) true Tryd.f3.params.toList args.toList ds p := hA0
  rw [Tryd.params3] at hA hval
  obtain ⟨v0, vs0, d0, ds0, p0, q0, hargs, rfl, rfl, h0, r0⟩ := trodAll_cons hA
  obtain ⟨v1, vs1, d1, ds1, p1, q1, rfl, rfl, rfl, h1, r1⟩ := trodAll_cons r0
  obtain ⟨rfl, rfl, rfl⟩ := trodAll_nil r1
  obtain rfl : args = #[v0, v1] := by cases args; simp_all
  obtain ⟨rfl, rfl⟩ := trodVars_none hV
  have lt0 : ∀ x ∈ p0, x.block < W.heap.size := by obtain ⟨m, hm⟩ := h0; exact DataW.trod_lt m _ _ _ hm
  have lt1 : ∀ x ∈ p1, x.block < W.heap.size := by obtain ⟨m, hm⟩ := h1; exact DataW.trod_lt m _ _ _ hm
  obtain ⟨l0, hq0, hs0⟩ := SL.open_row (g := opc) (Q := OpAt W) (e := tyOp) (sz := 17) Tryd.underlying22 (by kernel_rfl) rfl (by decide) (fun _ h => is_op h) (hval 0 _ _ rfl rfl) h0
  have hr0 : OpsAt W v0 l0 := ⟨hs0, hq0⟩
  obtain ⟨i1, rfl, hi1⟩ := SL.open_n Tryd.underlying23 (by kernel_rfl) (hval 1 _ _ rfl rfl) h1
  obtain ⟨n1, rfl, hn1⟩ := wf_u64 hi1
  clear hA0 hval0
  refine (walk v0 l0 n1 W hr0 hn1 (laid_lays hL)).mono fun e W' ⟨he, bel⟩ => ?_
  subst he
  exact ⟨_, rfl, _, _, _, [], _, [], hW', trodAll_mk1 (shut_bool Tryd.underlying4 _), (trodAll_cons_mk (Below.trod laidOut (by kernel_rfl) (of_decide_eq_true (by kernel_rfl)) h0 bel lt0) (trodAll_cons_mk (Below.trod laidOut (by kernel_rfl) (of_decide_eq_true (by kernel_rfl)) h1 bel lt1) trodAll_mk0)), rfl, bel.frame _, fun h => by cases h⟩
theorem over : Rows.useropLaysRow.holds Tryd.pinned (OpenSpec.ofChange Rows.useropLaysSpec) :=
  OpenClaim.holds_of_wide 3 Tryd.f3 rfl rfl rfl rfl rfl rfl rfl ⟨rfl, rfl, rfl, rfl, rfl⟩ rfl rfl rfl rfl rfl (by kernel_rfl) Tryd.func3 (by kernel_rfl)
    (of_decide_eq_true (by kernel_rfl)) (by unfold Func.isWrapper; first | (rw [if_pos (by decide +kernel)]; kernel_rfl) | (rw [if_neg (by decide +kernel)]; exact ⟨rfl, rfl⟩))
    (fun os started H enc _ => lifted os started H enc)
end FUseropLays
/-- THE STATEMENT -/
theorem useropLays_proved : Rows.UseropLaysCardSaid :=
  Claim7.holds_tied_plain_at .later [] [.data, .data] true (true, "ba09747aa57e02b919fe1ef0cb89bd32e2f840320a417f55ea59de5d26cc0894") false
    FUseropLays.over (fun _ h => by cases h) (by kernel_rfl) (fun _ h => by cases h) useropLays_row_tie rfl ⟨rfl, rfl⟩ (by kernel_rfl) rfl
    (fun f fn hf hfn => by
      obtain rfl : f = 3 := Option.some.inj ((show Tryd.prog.funcNamed "sheafer/sheaferlaw18.UseropLays" = some 3 by kernel_rfl).symm.trans hf) |>.symm
      obtain rfl : fn = Tryd.f3 := (Option.some.inj (Tryd.func3.symm.trans hfn)).symm
      exact ⟨by kernel_rfl, fun j t ht => by
        have hall : (Tryd.f3.params.toList.all fun u => !Tryd.prog.wantsStandIn u) = true := by kernel_rfl
        have hm : t ∈ Tryd.f3.params.toList := by simpa using Array.mem_of_getElem? ht
        exact (show Tryd.prog.wantsStandIn t = false by simpa using List.all_eq_true.1 hall t hm)⟩)
    (by kernel_rfl)
#print axioms useropLays_proved
end Go.Proofs.YtobkhnmglbfheaaDoor
