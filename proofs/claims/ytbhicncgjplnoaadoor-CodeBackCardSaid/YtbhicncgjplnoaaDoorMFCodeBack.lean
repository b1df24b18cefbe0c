/-
  Parse of Text is the program, Text of Parse the text; unlike programs have unlike texts.
  Conditions: none.
-/
import Derived.Test.YtbhicncgjplnoaaDoorP5
import Derived.Test.YtbhicncgjplnoaaDoorRows
import Derived.Test.YtbhicncgjplnoaaDoorCards
import Derived.Test.YtbhicncgjplnoaaDoorTie
import Derived.SevenTiedAt
import Derived.LaidMore
import Derived.Lay
import Derived.Stop.Joined
import Derived.ProofKit
import Derived.ChangeOld
namespace Go.Proofs.YtbhicncgjplnoaaDoor
open Go Go.RowKit SL
open Go.ChangeShapes Go.WideShapes
set_option linter.unusedVariables false
namespace FCodeBack
theorem own : ownKnob Tryd.prog.godebug = none := by kernel_rfl
theorem laidOut : laidOutB Tryd.prog = true := by kernel_rfl
theorem walk (v0 : Value) (l0 : List UInt8) (v1 : Value) (l1 : List UInt8) (l2 : List UInt8) (w : World) (hr0 : RowAt w 1 v0 l0.length (ucs l0)) (hr1 : RowAt w 1 v1 l1.length (ucs l1)) (hl2 : l2.length ≤ maxLen) : Calls Tryd.prog 6 #[v0, v1, sv l2] w fun e w' => e = .returned (.bool true) ∧ Below w.heap.size w w' :=
  (CodeBack_walk v0 l0 v1 l1 l2 hl2 w hr0 hr1).mono fun e w' h => ⟨h.1, h.2.below⟩
set_option maxRecDepth 100000 in
theorem door_met (os : Os) (args : Array Value) : laidMetH Tryd.prog Rows.codeBackRow.laid ((World.laidAll Tryd.prog os Rows.codeBackRow.laid).forCall (fun _ _ => 0) ⟨#[], args, []⟩).memory :=
  laidMetH_of_parts3 (fuel := 8) (by rw [show (Rows.codeBackRow.laid.filter fun x => x.2.handleName?.isNone) = Rows.codeBackRow.laid from by kernel_rfl]; exact laidMet_laidAll _ (by kernel_rfl) (by kernel_rfl)) (by kernel_rfl) (by kernel_rfl)
set_option maxRecDepth 100000 in
theorem lifted (os : Os) (started : os.Started) (H : Type) (enc : TypeId × Value → H) :
    ReturnsInHanded {} Tryd.checked os 6 .any (fun w args => (Rows.codeBackSpec.pre enc Tryd.prog Tryd.f6 [] false w args ∧ laidMetH Tryd.prog Rows.codeBackRow.laid w) ∧ sizedMet enc Tryd.prog Tryd.f6 (OpenSpec.ofChange Rows.codeBackSpec) false w args) (Rows.codeBackSpec.post enc Tryd.prog Tryd.f6 false true false false) := by
  refine returnsInHanded_of_change_and (C := Tryd.checked) (X := fun w _ => laidMetH Tryd.prog Rows.codeBackRow.laid w) (fun _ _ _ hh h => h.of_heap hh) own started (by kernel_rfl) Tryd.func6
    (ChangeSpec.witness_shaped (enc := enc) (C := Tryd.checked) (os := os) (X := fun w _ => laidMetH Tryd.prog Rows.codeBackRow.laid w) false (World.laidAll Tryd.prog os Rows.codeBackRow.laid) #[.slice none 0 0, .slice none 0 0, .string .empty] 8 (World.laidAll_os _ _ _) (World.shaped_of_ZipB (by kernel_rfl) (by kernel_rfl)) (by kernel_rfl) (by kernel_rfl) (by kernel_rfl) (door_met os _)) ?_
  intro W base args ds gs before hval0 hW _ _ hL _
  have hval : ∀ (j : Nat) t v, Tryd.f6.params[j]? = some t → args[j]? = some v → Value.okWide Tryd.prog W .any base t v := hval0
  have hW' := hW
  obtain ⟨p, q, hA0, hV, rfl, hfz, hnd⟩ := hW
  have hA : DataW.TrodAll enc Tryd.prog W 0 (fun _ => true) true Tryd.f6.params.toList args.toList ds p := hA0
  rw [Tryd.params6] at hA hval
  obtain ⟨v0, vs0, d0, ds0, p0, q0, hargs, rfl, rfl, h0, r0⟩ := trodAll_cons hA
  obtain ⟨v1, vs1, d1, ds1, p1, q1, rfl, rfl, rfl, h1, r1⟩ := trodAll_cons r0
  obtain ⟨v2, vs2, d2, ds2, p2, q2, rfl, rfl, rfl, h2, r2⟩ := trodAll_cons r1
  obtain ⟨rfl, rfl, rfl⟩ := trodAll_nil r2
  obtain rfl : args = #[v0, v1, v2] := by cases args; simp_all
  obtain ⟨rfl, rfl⟩ := trodVars_none hV
  have lt0 : ∀ x ∈ p0, x.block < W.heap.size := by obtain ⟨m, hm⟩ := h0; exact DataW.trod_lt m _ _ _ hm
  have lt1 : ∀ x ∈ p1, x.block < W.heap.size := by obtain ⟨m, hm⟩ := h1; exact DataW.trod_lt m _ _ _ hm
  have lt2 : ∀ x ∈ p2, x.block < W.heap.size := by obtain ⟨m, hm⟩ := h2; exact DataW.trod_lt m _ _ _ hm
  obtain ⟨l0, -, hr0⟩ := SL.open_row (Q := fun _ => True) (e := Ty.int .u8) (sz := 1) Tryd.underlying33 (by kernel_rfl) rfl (by decide) (fun _ h => is_u8 h) (hval 0 _ _ rfl rfl) h0
  obtain ⟨l1, -, hr1⟩ := SL.open_row (Q := fun _ => True) (e := Ty.int .u8) (sz := 1) Tryd.underlying33 (by kernel_rfl) rfl (by decide) (fun _ h => is_u8 h) (hval 1 _ _ rfl rfl) h1
  obtain ⟨s2, rfl, hs2⟩ := SL.open_str Tryd.underlying9 (by kernel_rfl) (hval 2 _ _ rfl rfl) h2
  obtain ⟨l2, rfl⟩ := str_list s2
  have hl2 : l2.length ≤ maxLen := hs2
  clear hA0 hval0
  refine (walk v0 l0 v1 l1 l2 W hr0 hr1 hl2).mono fun e W' ⟨he, bel⟩ => ?_
  subst he
  exact ⟨_, rfl, _, _, _, [], _, [], hW', trodAll_mk1 (shut_bool Tryd.underlying4 _), (trodAll_cons_mk (Below.trod laidOut (by kernel_rfl) (of_decide_eq_true (by kernel_rfl)) h0 bel lt0) (trodAll_cons_mk (Below.trod laidOut (by kernel_rfl) (of_decide_eq_true (by kernel_rfl)) h1 bel lt1) (trodAll_cons_mk (Below.trod laidOut (by kernel_rfl) (of_decide_eq_true (by kernel_rfl)) h2 bel lt2) trodAll_mk0))), rfl, bel.frame _, fun h => by cases h⟩
theorem over : Rows.codeBackRow.holds Tryd.pinned (OpenSpec.ofChange Rows.codeBackSpec) :=
  OpenClaim.holds_of_wide 6 Tryd.f6 rfl rfl rfl rfl rfl rfl rfl ⟨rfl, rfl, rfl, rfl, rfl⟩ rfl rfl rfl rfl rfl (by kernel_rfl) Tryd.func6 (by kernel_rfl)
    (of_decide_eq_true (by kernel_rfl)) (by unfold Func.isWrapper; first | (rw [if_pos (by decide +kernel)]; kernel_rfl) | (rw [if_neg (by decide +kernel)]; exact ⟨rfl, rfl⟩))
    (fun os started H enc _ => lifted os started H enc)
end FCodeBack
/-- THE STATEMENT -/
theorem codeBack_proved : Rows.CodeBackCardSaid :=
  Claim7.holds_tied_plain_at .later [] [.data, .data, .data, .data, .pinned] true (true, "f9350d9cb74fafd75ca3ee0a769a21c55412212f4ae9c200cf8d4ef882151b67") false
    FCodeBack.over (fun _ h => by cases h) (by kernel_rfl) (fun _ h => by cases h) codeBack_row_tie rfl ⟨rfl, rfl⟩ (by kernel_rfl) rfl
    (fun f fn hf hfn => by
      obtain rfl : f = 6 := Option.some.inj ((show Tryd.prog.funcNamed "sheafer/sheaferlaw11.CodeBack" = some 6 by kernel_rfl).symm.trans hf) |>.symm
      obtain rfl : fn = Tryd.f6 := (Option.some.inj (Tryd.func6.symm.trans hfn)).symm
      exact ⟨by kernel_rfl, fun j t ht => by
        have hall : (Tryd.f6.params.toList.all fun u => !Tryd.prog.wantsStandIn u) = true := by kernel_rfl
        have hm : t ∈ Tryd.f6.params.toList := by simpa using Array.mem_of_getElem? ht
        exact (show Tryd.prog.wantsStandIn t = false by simpa using List.all_eq_true.1 hall t hm)⟩)
    (by kernel_rfl)
#print axioms codeBack_proved
end Go.Proofs.YtbhicncgjplnoaaDoor
