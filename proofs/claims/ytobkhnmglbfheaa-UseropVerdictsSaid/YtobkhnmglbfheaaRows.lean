/-
  No cell of these rows narrows 'for every input' (looked for: loops, veiled, ifaces, maps, wideKeys, modest, calm, conditions, laid).
  DERIVED. THE GIVEN ROWS OF THIS SEAT. 6 by the template 'for every input the law returns true; each argument reads behind the call as it read before'; 0 by the template 'total and deterministic' (their statements: YtobkhnmglbfheaaTotals.lean).
  GIVEN WITH THE SEED: the statements are not yours to turn. If you find one false, say at which input.
  Laid BY PROGRAM, IN A SANDBOX (cutbox-rows.mjs): the forced cells as the released guide's own fill.sh prints them over the translation 2adb445785521174… (all of the seat's roots in one cut). By AI agents, Wed Nov 11 2026. No macro, syntax, notation, axiom, sorry.
-/
import Derived.Test.YtobkhnmglbfheaaChecked
import GoSem.Claim
import GoSem.ClaimJoined
import GoSem.ClaimMapViews
import Derived.JoinedTies
import Derived.KernelRfl
namespace Go.Proofs.Ytobkhnmglbfheaa
/- THE CELL 'sum', in the pinned program and in every row, IS THE sha256 OF THE DUMP (.gsa) THAT YtobkhnmglbfheaaProg.lean LOADS. Nothing in Lean hashes anything: it is a label: what it is worth is what the hold of that sum in a sandbox is worth. -/
noncomputable def Try.pinned : Pinned := { name := "ytobkhnmglbfheaa", sum := "2adb445785521174485f957f8de70a23f6aaca0d2d84dfb803fef6c568d75711", checked := Try.checked }
namespace Rows
def none {H : Type} : Left H := { results := [], args := [] }

/-- 'sheaferlaw18.UseropReads': WHATEVER THE INPUT: true; the input reads as it did. -/
def useropReadsSpec : ChangeSpec := { name := "useropReads", fn := fun _ => fun
  | [d] => { results := [.lit (.bool true)], args := [d] }
  | _ => none }
def useropReadsRow : OpenClaim := { program := "ytobkhnmglbfheaa", sum := "2adb445785521174485f957f8de70a23f6aaca0d2d84dfb803fef6c568d75711", func := "sheafer/sheaferlaw18.UseropReads", spec := "useropReads", inPlace := ["math/bits.Add64"], unfollowed := true, recurses := true, apart := false }
def UseropReadsSaid : Prop := useropReadsRow.holds Try.pinned (OpenSpec.ofChange useropReadsSpec)

/-- ITS FALSE NEIGHBOUR: 'it returns false'. Refute it at one input. -/
def useropReadsWrong : ChangeSpec := { name := "useropReads", fn := fun _ => fun
  | [d] => { results := [.lit (.bool false)], args := [d] }
  | _ => none }
def UseropReadsWrongFalsely : Prop := useropReadsRow.holds Try.pinned (OpenSpec.ofChange useropReadsWrong)

/-- 'sheaferlaw18.UseropBack': WHATEVER THE INPUT: true; the input reads as it did. -/
def useropBackSpec : ChangeSpec := { name := "useropBack", fn := fun _ => fun
  | [d1, d2] => { results := [.lit (.bool true)], args := [d1, d2] }
  | _ => none }
def useropBackRow : OpenClaim := { program := "ytobkhnmglbfheaa", sum := "2adb445785521174485f957f8de70a23f6aaca0d2d84dfb803fef6c568d75711", func := "sheafer/sheaferlaw18.UseropBack", spec := "useropBack", inPlace := ["math/bits.Add64"], unfollowed := true, recurses := true, apart := false }
def UseropBackSaid : Prop := useropBackRow.holds Try.pinned (OpenSpec.ofChange useropBackSpec)

/-- ITS FALSE NEIGHBOUR: 'it returns false'. Refute it at one input. -/
def useropBackWrong : ChangeSpec := { name := "useropBack", fn := fun _ => fun
  | [d1, d2] => { results := [.lit (.bool false)], args := [d1, d2] }
  | _ => none }
def UseropBackWrongFalsely : Prop := useropBackRow.holds Try.pinned (OpenSpec.ofChange useropBackWrong)

/-- 'sheaferlaw18.UseropVerdicts': WHATEVER THE INPUT: true; the input reads as it did. -/
def useropVerdictsSpec : ChangeSpec := { name := "useropVerdicts", fn := fun _ => fun
  | [d1, d2] => { results := [.lit (.bool true)], args := [d1, d2] }
  | _ => none }
def useropVerdictsRow : OpenClaim := { program := "ytobkhnmglbfheaa", sum := "2adb445785521174485f957f8de70a23f6aaca0d2d84dfb803fef6c568d75711", func := "sheafer/sheaferlaw18.UseropVerdicts", spec := "useropVerdicts", inPlace := ["math/bits.Add64"], unfollowed := true, recurses := true, apart := false }
def UseropVerdictsSaid : Prop := useropVerdictsRow.holds Try.pinned (OpenSpec.ofChange useropVerdictsSpec)

/-- ITS FALSE NEIGHBOUR: 'it returns false'. Refute it at one input. -/
def useropVerdictsWrong : ChangeSpec := { name := "useropVerdicts", fn := fun _ => fun
  | [d1, d2] => { results := [.lit (.bool false)], args := [d1, d2] }
  | _ => none }
def UseropVerdictsWrongFalsely : Prop := useropVerdictsRow.holds Try.pinned (OpenSpec.ofChange useropVerdictsWrong)

/-- 'sheaferlaw18.UseropDue': WHATEVER THE INPUT: true; the input reads as it did. -/
def useropDueSpec : ChangeSpec := { name := "useropDue", fn := fun _ => fun
  | [d1, d2] => { results := [.lit (.bool true)], args := [d1, d2] }
  | _ => none }
def useropDueRow : OpenClaim := { program := "ytobkhnmglbfheaa", sum := "2adb445785521174485f957f8de70a23f6aaca0d2d84dfb803fef6c568d75711", func := "sheafer/sheaferlaw18.UseropDue", spec := "useropDue", inPlace := ["math/bits.Add64"], unfollowed := true, recurses := true, apart := false }
def UseropDueSaid : Prop := useropDueRow.holds Try.pinned (OpenSpec.ofChange useropDueSpec)

/-- ITS FALSE NEIGHBOUR: 'it returns false'. Refute it at one input. -/
def useropDueWrong : ChangeSpec := { name := "useropDue", fn := fun _ => fun
  | [d1, d2] => { results := [.lit (.bool false)], args := [d1, d2] }
  | _ => none }
def UseropDueWrongFalsely : Prop := useropDueRow.holds Try.pinned (OpenSpec.ofChange useropDueWrong)

/-- 'sheaferlaw18.UseropCosts': WHATEVER THE INPUT: true; the input reads as it did. -/
def useropCostsSpec : ChangeSpec := { name := "useropCosts", fn := fun _ => fun
  | [d1, d2] => { results := [.lit (.bool true)], args := [d1, d2] }
  | _ => none }
def useropCostsRow : OpenClaim := { program := "ytobkhnmglbfheaa", sum := "2adb445785521174485f957f8de70a23f6aaca0d2d84dfb803fef6c568d75711", func := "sheafer/sheaferlaw18.UseropCosts", spec := "useropCosts", inPlace := ["math/bits.Add64"], unfollowed := true, recurses := true, apart := false }
def UseropCostsSaid : Prop := useropCostsRow.holds Try.pinned (OpenSpec.ofChange useropCostsSpec)

/-- ITS FALSE NEIGHBOUR: 'it returns false'. Refute it at one input. -/
def useropCostsWrong : ChangeSpec := { name := "useropCosts", fn := fun _ => fun
  | [d1, d2] => { results := [.lit (.bool false)], args := [d1, d2] }
  | _ => none }
def UseropCostsWrongFalsely : Prop := useropCostsRow.holds Try.pinned (OpenSpec.ofChange useropCostsWrong)

/-- 'sheaferlaw18.UseropPays': WHATEVER THE INPUT: true; the input reads as it did. -/
def useropPaysSpec : ChangeSpec := { name := "useropPays", fn := fun _ => fun
  | [d1, d2] => { results := [.lit (.bool true)], args := [d1, d2] }
  | _ => none }
def useropPaysRow : OpenClaim := { program := "ytobkhnmglbfheaa", sum := "2adb445785521174485f957f8de70a23f6aaca0d2d84dfb803fef6c568d75711", func := "sheafer/sheaferlaw18.UseropPays", spec := "useropPays", inPlace := ["math/bits.Add64"], unfollowed := true, recurses := true, apart := false }
def UseropPaysSaid : Prop := useropPaysRow.holds Try.pinned (OpenSpec.ofChange useropPaysSpec)

/-- ITS FALSE NEIGHBOUR: 'it returns false'. Refute it at one input. -/
def useropPaysWrong : ChangeSpec := { name := "useropPays", fn := fun _ => fun
  | [d1, d2] => { results := [.lit (.bool false)], args := [d1, d2] }
  | _ => none }
def UseropPaysWrongFalsely : Prop := useropPaysRow.holds Try.pinned (OpenSpec.ofChange useropPaysWrong)

/- THE SECOND FORM. 'bulk': how many values and letters a reading holds, each counted each time it is reached (what is shared counts as often as it is met; a slice's spare places count too). A statement '..UptoSaid' is the law's where the arguments, and the package variables that the reading takes, are together of bulk at most 1048576: NARROWER than '..Said'. Prove '..Said' where nothing that the law and all that it calls make is longer than what came in: it says more and counts as full. Else prove '..UptoSaid'. A law counts once. -/
mutual
def uptoBulk {H : Type} : DataW H → Nat
  | .lit (.string bytes) => bytes.length + 1
  | .lit _ => 1
  | .nil => 1
  | .ptr d => uptoBulk d + 1
  | .slice elems spare => uptoBulkAll elems + uptoBulkAll spare + 1
  | .agg parts => uptoBulkAll parts + 1
  | .iface _ d => uptoBulk d + 1
  | .map entries => uptoBulkEntries entries + 1
  | .held _ => 1
def uptoBulkAll {H : Type} : List (DataW H) → Nat
  | [] => 0
  | d :: r => uptoBulk d + uptoBulkAll r
def uptoBulkEntries {H : Type} : List (Lit × DataW H) → Nat
  | [] => 0
  | x :: r => uptoBulkEntry x + uptoBulkEntries r
def uptoBulkEntry {H : Type} : Lit × DataW H → Nat
  | (.string bytes, d) => bytes.length + uptoBulk d + 1
  | (_, d) => uptoBulk d + 1
 end
def uptoSmall : (H : Type) → List (DataW H) → Bool := fun _ ds => decide (uptoBulkAll ds ≤ 1048576)
def OpenSpec.upto (s : _root_.Go.ChangeSpec) : _root_.Go.OpenSpec := { _root_.Go.OpenSpec.ofChange s with cond := some uptoSmall }

/-- 'sheaferlaw18.UseropReads', WHERE WHAT IT READS IS OF BULK AT MOST 1048576: true; the input reads as it did. -/
def useropReadsUptoRow : OpenClaim := { program := "ytobkhnmglbfheaa", sum := "2adb445785521174485f957f8de70a23f6aaca0d2d84dfb803fef6c568d75711", func := "sheafer/sheaferlaw18.UseropReads", spec := "useropReads", inPlace := ["math/bits.Add64"], unfollowed := true, recurses := true, apart := false, narrowed := true }
def UseropReadsUptoSaid : Prop := useropReadsUptoRow.holds Try.pinned (OpenSpec.upto useropReadsSpec)

/-- 'sheaferlaw18.UseropBack', WHERE WHAT IT READS IS OF BULK AT MOST 1048576: true; the input reads as it did. -/
def useropBackUptoRow : OpenClaim := { program := "ytobkhnmglbfheaa", sum := "2adb445785521174485f957f8de70a23f6aaca0d2d84dfb803fef6c568d75711", func := "sheafer/sheaferlaw18.UseropBack", spec := "useropBack", inPlace := ["math/bits.Add64"], unfollowed := true, recurses := true, apart := false, narrowed := true }
def UseropBackUptoSaid : Prop := useropBackUptoRow.holds Try.pinned (OpenSpec.upto useropBackSpec)

/-- 'sheaferlaw18.UseropVerdicts', WHERE WHAT IT READS IS OF BULK AT MOST 1048576: true; the input reads as it did. -/
def useropVerdictsUptoRow : OpenClaim := { program := "ytobkhnmglbfheaa", sum := "2adb445785521174485f957f8de70a23f6aaca0d2d84dfb803fef6c568d75711", func := "sheafer/sheaferlaw18.UseropVerdicts", spec := "useropVerdicts", inPlace := ["math/bits.Add64"], unfollowed := true, recurses := true, apart := false, narrowed := true }
def UseropVerdictsUptoSaid : Prop := useropVerdictsUptoRow.holds Try.pinned (OpenSpec.upto useropVerdictsSpec)

/-- 'sheaferlaw18.UseropDue', WHERE WHAT IT READS IS OF BULK AT MOST 1048576: true; the input reads as it did. -/
def useropDueUptoRow : OpenClaim := { program := "ytobkhnmglbfheaa", sum := "2adb445785521174485f957f8de70a23f6aaca0d2d84dfb803fef6c568d75711", func := "sheafer/sheaferlaw18.UseropDue", spec := "useropDue", inPlace := ["math/bits.Add64"], unfollowed := true, recurses := true, apart := false, narrowed := true }
def UseropDueUptoSaid : Prop := useropDueUptoRow.holds Try.pinned (OpenSpec.upto useropDueSpec)

/-- 'sheaferlaw18.UseropCosts', WHERE WHAT IT READS IS OF BULK AT MOST 1048576: true; the input reads as it did. -/
def useropCostsUptoRow : OpenClaim := { program := "ytobkhnmglbfheaa", sum := "2adb445785521174485f957f8de70a23f6aaca0d2d84dfb803fef6c568d75711", func := "sheafer/sheaferlaw18.UseropCosts", spec := "useropCosts", inPlace := ["math/bits.Add64"], unfollowed := true, recurses := true, apart := false, narrowed := true }
def UseropCostsUptoSaid : Prop := useropCostsUptoRow.holds Try.pinned (OpenSpec.upto useropCostsSpec)

/-- 'sheaferlaw18.UseropPays', WHERE WHAT IT READS IS OF BULK AT MOST 1048576: true; the input reads as it did. -/
def useropPaysUptoRow : OpenClaim := { program := "ytobkhnmglbfheaa", sum := "2adb445785521174485f957f8de70a23f6aaca0d2d84dfb803fef6c568d75711", func := "sheafer/sheaferlaw18.UseropPays", spec := "useropPays", inPlace := ["math/bits.Add64"], unfollowed := true, recurses := true, apart := false, narrowed := true }
def UseropPaysUptoSaid : Prop := useropPaysUptoRow.holds Try.pinned (OpenSpec.upto useropPaysSpec)

end Rows
end Go.Proofs.Ytobkhnmglbfheaa
