/-
  Who calls whom, with what: static stays static, and only what may move a value does; for every frame, ask, and program.
  Conditions: none.
-/
import Derived.Test.YtpgdnfgjbhdbpaaGreatDoorZ4
import Derived.Test.YtpgdnfgjbhdbpaaGreatDoorRows
import Derived.Test.YtpgdnfgjbhdbpaaGreatDoorCards
import Derived.Test.YtpgdnfgjbhdbpaaGreatDoorTie
import Derived.SevenTiedAt
import Derived.LaidMore
import Derived.Stop.Joined
import Derived.ProofKit
import Derived.ChangeOld
namespace Go.Proofs.YtpgdnfgjbhdbpaaGreatDoor
open Go Go.RowKit SL
open Go.ChangeShapes Go.WideShapes
set_option linter.unusedVariables false
namespace FCallWho
theorem own : ownKnob Tryz.prog.godebug = none := by kernel_rfl
theorem laidOut : laidOutB Tryz.prog = true := by kernel_rfl
theorem walk (x0 : FrV) (X0 : FrL) (a1 : AkA) (v2 : Value) (l2 : List UInt8) (w : World) (hr0 : FrRows w x0 X0) (hn0 : FrNum x0 X0) (hr1 : AkAt w a1) (hr2 : RowAt w 1 v2 l2.length (ucs l2)) (hL : (SK.TurnAt w ∧ SK.NumAt w) ∧ LenAt w) : Calls Tryz.prog 8 #[frv x0, .agg (akp a1).toArray, v2] w fun e w' => e = .returned (.bool true) ∧ Below w.heap.size w w' :=
  (CallWho_walk x0 X0 a1 v2 l2 hn0 w hr0 hr1 hr2 hL).mono fun e w' h => ⟨h.1, h.2.below⟩
theorem door_met (os : Os) (args : Array Value) : laidMetH Tryz.prog Rows.callWhoRow.laid ((World.doorLaid Tryz.prog 400 os).forCall (fun _ _ => 0) ⟨#[], args, []⟩).memory :=
  laidMetH_of_parts3 (fuel := 8) (laidMet_of_run' 8 (by kernel_rfl) (by kernel_rfl)) (by kernel_rfl) (by kernel_rfl)
set_option maxRecDepth 100000 in
theorem lifted (os : Os) (started : os.Started) (H : Type) (enc : TypeId × Value → H) :
    ReturnsInHanded {} Tryz.checked os 8 .any (fun w args => (Rows.callWhoSpec.pre enc Tryz.prog Tryz.f8 [] false w args ∧ laidMetH Tryz.prog Rows.callWhoRow.laid w) ∧ sizedMet enc Tryz.prog Tryz.f8 (OpenSpec.ofChange Rows.callWhoSpec) false w args) (Rows.callWhoSpec.post enc Tryz.prog Tryz.f8 false true false false) := by
  refine handed_shaped (C := Tryz.checked) (X := fun w _ => laidMetH Tryz.prog Rows.callWhoRow.laid w) (fun _ _ _ hh h => h.of_heap hh) own started (by kernel_rfl) Tryz.func8
    (ChangeSpec.witness_shaped (enc := enc) (C := Tryz.checked) (os := os) (X := fun w _ => laidMetH Tryz.prog Rows.callWhoRow.laid w) false (World.doorLaid Tryz.prog 400 os) #[frv zeroF, .agg (aska 0 0 (.slice none 0 0) (.slice none 0 0)), .slice none 0 0] 8 rfl (World.shaped_of_RefB (by kernel_rfl) (by kernel_rfl)) (by kernel_rfl) (by kernel_rfl) (by kernel_rfl) (door_met os _)) ?_
  intro W base args ds gs before hval0 hW hL hsh
  have hval : ∀ (j : Nat) t v, Tryz.f8.params[j]? = some t → args[j]? = some v → Value.okWide Tryz.prog W .any base t v := hval0
  have hW' := hW
  obtain ⟨p, q, hA0, hV, rfl, hfz, hnd⟩ := hW
  have hA : DataW.TrodAll enc Tryz.prog W 0 (fun _ => true) true Tryz.f8.params.toList args.toList ds p := hA0
  rw [Tryz.params8] at hA hval
  obtain ⟨v0, vs0, d0, ds0, p0, q0, hargs, rfl, rfl, h0, r0⟩ := trodAll_cons hA
  obtain ⟨v1, vs1, d1, ds1, p1, q1, rfl, rfl, rfl, h1, r1⟩ := trodAll_cons r0
  obtain ⟨v2, vs2, d2, ds2, p2, q2, rfl, rfl, rfl, h2, r2⟩ := trodAll_cons r1
  obtain ⟨rfl, rfl, rfl⟩ := trodAll_nil r2
  obtain rfl : args = #[v0, v1, v2] := by cases args; simp_all
  obtain ⟨rfl, rfl⟩ := trodVars_none hV
  have lt0 : ∀ x ∈ p0, x.block < W.heap.size := by obtain ⟨m, hm⟩ := h0; exact DataW.trod_lt m _ _ _ hm
  have lt1 : ∀ x ∈ p1, x.block < W.heap.size := by obtain ⟨m, hm⟩ := h1; exact DataW.trod_lt m _ _ _ hm
  have lt2 : ∀ x ∈ p2, x.block < W.heap.size := by obtain ⟨m, hm⟩ := h2; exact DataW.trod_lt m _ _ _ hm
  obtain ⟨⟨x0, X0⟩, ⟨hr0, hn0⟩, rfl⟩ := open_agg (g := fun p : FrV × FrL => frc p.1) (e := tyFr) (by kernel_rfl) (by kernel_rfl) (fun _ h => is_fr h) (hval 0 _ _ rfl rfl) h0
  obtain ⟨a1, hr1, rfl⟩ := open_agg (g := akp) (Q := fun a => AkAt W a) (e := tyAk) (by kernel_rfl) (by kernel_rfl) (fun _ h => is_ak h) (hval 1 _ _ rfl rfl) h1
  obtain ⟨l2, -, hr2⟩ := SL.open_row (Q := fun _ => True) (e := Ty.int .u8) (sz := 1) Tryz.underlying22 (by kernel_rfl) rfl (by decide) (fun _ h => is_u8 h) (hval 2 _ _ rfl rfl) h2
  clear hA0 hval0
  refine (walk x0 X0 a1 v2 l2 W hr0 hn0 hr1 hr2 ⟨laid_who hL, lenAt_shaped W hsh⟩).mono fun e W' ⟨he, bel⟩ => ?_
  subst he
  exact ⟨_, rfl, _, _, _, [], _, [], hW', trodAll_mk1 (shut_bool Tryz.underlying4 _), (trodAll_cons_mk (Below.trod laidOut (by kernel_rfl) (of_decide_eq_true (by kernel_rfl)) h0 bel lt0) (trodAll_cons_mk (Below.trod laidOut (by kernel_rfl) (of_decide_eq_true (by kernel_rfl)) h1 bel lt1) (trodAll_cons_mk (Below.trod laidOut (by kernel_rfl) (of_decide_eq_true (by kernel_rfl)) h2 bel lt2) trodAll_mk0))), rfl, bel.frame _, fun h => by cases h⟩
theorem over : Rows.callWhoRow.holds Tryz.pinned (OpenSpec.ofChange Rows.callWhoSpec) :=
  OpenClaim.holds_of_wide 8 Tryz.f8 rfl rfl rfl rfl rfl rfl rfl ⟨rfl, rfl, rfl, rfl, rfl⟩ rfl rfl rfl rfl rfl (by kernel_rfl) Tryz.func8 (by kernel_rfl)
    (of_decide_eq_true (by kernel_rfl)) (by unfold Func.isWrapper; first | (rw [if_pos (by decide +kernel)]; kernel_rfl) | (rw [if_neg (by decide +kernel)]; exact ⟨rfl, rfl⟩))
    (fun os started H enc _ => lifted os started H enc)
end FCallWho
/-- THE STATEMENT -/
theorem callWho_proved : Rows.CallWhoCardSaid :=
  Claim7.holds_tied_plain_at .later [] [.data, .data, .data, .data, .data] true (true, "cb0b05643449fadf05f467084421fe6559d494f734089b4a2525a28f815a4f5a") true
    FCallWho.over (fun _ h => by cases h) (by kernel_rfl) (fun _ h => by cases h) callWho_row_tie rfl ⟨rfl, rfl⟩ (by kernel_rfl) rfl
    (fun f fn hf hfn => by
      obtain rfl : f = 8 := Option.some.inj ((show Tryz.prog.funcNamed "sheafer/sheaferlaw15.CallWho" = some 8 by kernel_rfl).symm.trans hf) |>.symm
      obtain rfl : fn = Tryz.f8 := (Option.some.inj (Tryz.func8.symm.trans hfn)).symm
      exact ⟨by kernel_rfl, fun j t ht => by
        have hall : (Tryz.f8.params.toList.all fun u => !Tryz.prog.wantsStandIn u) = true := by kernel_rfl
        have hm : t ∈ Tryz.f8.params.toList := by simpa using Array.mem_of_getElem? ht
        exact (show Tryz.prog.wantsStandIn t = false by simpa using List.all_eq_true.1 hall t hm)⟩)
    (by kernel_rfl)
#print axioms callWho_proved
end Go.Proofs.YtpgdnfgjbhdbpaaGreatDoor
