/-
  NARROWER THAN 'FOR EVERY INPUT', by the rows' own cells (each row's printed sentence says how): GasBases: laid · GasSpends: laid · GasGrows: laid · GasTogether: laid · GasLent: laid · GasSlots: laid · GasReaches: laid · GasBytes: laid.
  DERIVED. THE GIVEN ROWS OF THIS SEAT. 8 by the template 'for every input the law returns true; each argument reads behind the call as it read before'; 0 by the template 'total and deterministic' (their statements: YthhalnmbfokbbaaDoorTotals.lean).
  GIVEN WITH THE SEED: the statements are not yours to turn. If you find one false, say at which input.
  Laid BY PROGRAM, IN A SANDBOX (cutbox-rows.mjs): the forced cells as the released guide's own fill.sh prints them over the translation 44aeed82af760dd4… (all of the seat's roots in one cut). By AI agents, Wed Nov 11 2026. No macro, syntax, notation, axiom, sorry.
-/
import Derived.Test.YthhalnmbfokbbaaDoorChecked
import GoSem.Claim
import GoSem.ClaimJoined
import GoSem.ClaimMapViews
import Derived.JoinedTies
import Derived.KernelRfl
namespace Go.Proofs.YthhalnmbfokbbaaDoor
/- THE CELL 'sum', in the pinned program and in every row, IS THE sha256 OF THE DUMP (.gsa) THAT YthhalnmbfokbbaaDoorProg.lean LOADS. Nothing in Lean hashes anything: it is a label: what it is worth is what the hold of that sum in a sandbox is worth. -/
noncomputable def Tryd.pinned : Pinned := { name := "ythhalnmbfokbbaadoor", sum := "44aeed82af760dd43c51ccb5c47a6b094efd66c1caef4c2f2e61fff8434282da", checked := Tryd.checked }
namespace Rows
def none {H : Type} : Left H := { results := [], args := [] }

/- WHAT THE LISTED PACKAGE-LEVEL VARIABLES READ AS WHEN THE CALL BEGINS. Each datum BY PROGRAM (the guide's laid-datum.mjs) off the statement by which the dump's own 'gosem.cut.vars' lays the variable. In a bare row this is a premise. The card (YthhalnmbfokbbaaDoorCards.lean) ties it to the program's text. -/
def laid_math_bits_deBruijn32tab {H : Type} : DataW H := .agg [.lit (.int .u8 0), .lit (.int .u8 1), .lit (.int .u8 28), .lit (.int .u8 2), .lit (.int .u8 29), .lit (.int .u8 14), .lit (.int .u8 24), .lit (.int .u8 3), .lit (.int .u8 30), .lit (.int .u8 22), .lit (.int .u8 20), .lit (.int .u8 15), .lit (.int .u8 25), .lit (.int .u8 17), .lit (.int .u8 4), .lit (.int .u8 8), .lit (.int .u8 31), .lit (.int .u8 27), .lit (.int .u8 13), .lit (.int .u8 23), .lit (.int .u8 21), .lit (.int .u8 19), .lit (.int .u8 16), .lit (.int .u8 7), .lit (.int .u8 26), .lit (.int .u8 12), .lit (.int .u8 18), .lit (.int .u8 6), .lit (.int .u8 11), .lit (.int .u8 5), .lit (.int .u8 10), .lit (.int .u8 9)]
def laid_math_bits_deBruijn64tab {H : Type} : DataW H := .agg [.lit (.int .u8 0), .lit (.int .u8 1), .lit (.int .u8 56), .lit (.int .u8 2), .lit (.int .u8 57), .lit (.int .u8 49), .lit (.int .u8 28), .lit (.int .u8 3), .lit (.int .u8 61), .lit (.int .u8 58), .lit (.int .u8 42), .lit (.int .u8 50), .lit (.int .u8 38), .lit (.int .u8 29), .lit (.int .u8 17), .lit (.int .u8 4), .lit (.int .u8 62), .lit (.int .u8 47), .lit (.int .u8 59), .lit (.int .u8 36), .lit (.int .u8 45), .lit (.int .u8 43), .lit (.int .u8 51), .lit (.int .u8 22), .lit (.int .u8 53), .lit (.int .u8 39), .lit (.int .u8 33), .lit (.int .u8 30), .lit (.int .u8 24), .lit (.int .u8 18), .lit (.int .u8 12), .lit (.int .u8 5), .lit (.int .u8 63), .lit (.int .u8 55), .lit (.int .u8 48), .lit (.int .u8 27), .lit (.int .u8 60), .lit (.int .u8 41), .lit (.int .u8 37), .lit (.int .u8 16), .lit (.int .u8 46), .lit (.int .u8 35), .lit (.int .u8 44), .lit (.int .u8 21), .lit (.int .u8 52), .lit (.int .u8 32), .lit (.int .u8 23), .lit (.int .u8 11), .lit (.int .u8 54), .lit (.int .u8 26), .lit (.int .u8 40), .lit (.int .u8 15), .lit (.int .u8 34), .lit (.int .u8 20), .lit (.int .u8 31), .lit (.int .u8 10), .lit (.int .u8 25), .lit (.int .u8 14), .lit (.int .u8 19), .lit (.int .u8 9), .lit (.int .u8 13), .lit (.int .u8 8), .lit (.int .u8 7), .lit (.int .u8 6)]
def laid_internal_strconv_uint64pow10 {H : Type} : DataW H := .agg [.lit (.int .u64 1), .lit (.int .u64 10), .lit (.int .u64 100), .lit (.int .u64 1000), .lit (.int .u64 10000), .lit (.int .u64 100000), .lit (.int .u64 1000000), .lit (.int .u64 10000000), .lit (.int .u64 100000000), .lit (.int .u64 1000000000), .lit (.int .u64 10000000000), .lit (.int .u64 100000000000), .lit (.int .u64 1000000000000), .lit (.int .u64 10000000000000), .lit (.int .u64 100000000000000), .lit (.int .u64 1000000000000000), .lit (.int .u64 10000000000000000), .lit (.int .u64 100000000000000000), .lit (.int .u64 1000000000000000000), .lit (.int .u64 10000000000000000000)]

/-- 'sheaferlaw12.GasBases': WHATEVER THE INPUT: true; the input reads as it did. -/
def gasBasesSpec : ChangeSpec := { name := "gasBases", fn := fun _ => fun
  | [d] => { results := [.lit (.bool true)], args := [d] }
  | _ => none }
def gasBasesRow : OpenClaim := { program := "ythhalnmbfokbbaadoor", sum := "44aeed82af760dd43c51ccb5c47a6b094efd66c1caef4c2f2e61fff8434282da", func := "sheafer/sheaferlaw12.GasBases", spec := "gasBases", unfollowed := true, recurses := true, named := ["internal/strconv.uint64pow10", "math/bits.deBruijn32tab", "math/bits.deBruijn64tab"], apart := false, laid := [("math/bits.deBruijn32tab", laid_math_bits_deBruijn32tab), ("math/bits.deBruijn64tab", laid_math_bits_deBruijn64tab), ("internal/strconv.uint64pow10", laid_internal_strconv_uint64pow10)] }
def GasBasesSaid : Prop := gasBasesRow.holds Tryd.pinned (OpenSpec.ofChange gasBasesSpec)

/-- ITS FALSE NEIGHBOUR: 'it returns false'. Refute it at one input. -/
def gasBasesWrong : ChangeSpec := { name := "gasBases", fn := fun _ => fun
  | [d] => { results := [.lit (.bool false)], args := [d] }
  | _ => none }
def GasBasesWrongFalsely : Prop := gasBasesRow.holds Tryd.pinned (OpenSpec.ofChange gasBasesWrong)

/-- 'sheaferlaw12.GasSpends': WHATEVER THE INPUT: true; the input reads as it did. -/
def gasSpendsSpec : ChangeSpec := { name := "gasSpends", fn := fun _ => fun
  | [d1, d2] => { results := [.lit (.bool true)], args := [d1, d2] }
  | _ => none }
def gasSpendsRow : OpenClaim := { program := "ythhalnmbfokbbaadoor", sum := "44aeed82af760dd43c51ccb5c47a6b094efd66c1caef4c2f2e61fff8434282da", func := "sheafer/sheaferlaw12.GasSpends", spec := "gasSpends", unfollowed := true, recurses := true, named := ["internal/strconv.uint64pow10", "math/bits.deBruijn32tab", "math/bits.deBruijn64tab"], apart := false, laid := [("math/bits.deBruijn32tab", laid_math_bits_deBruijn32tab), ("math/bits.deBruijn64tab", laid_math_bits_deBruijn64tab), ("internal/strconv.uint64pow10", laid_internal_strconv_uint64pow10)] }
def GasSpendsSaid : Prop := gasSpendsRow.holds Tryd.pinned (OpenSpec.ofChange gasSpendsSpec)

/-- ITS FALSE NEIGHBOUR: 'it returns false'. Refute it at one input. -/
def gasSpendsWrong : ChangeSpec := { name := "gasSpends", fn := fun _ => fun
  | [d1, d2] => { results := [.lit (.bool false)], args := [d1, d2] }
  | _ => none }
def GasSpendsWrongFalsely : Prop := gasSpendsRow.holds Tryd.pinned (OpenSpec.ofChange gasSpendsWrong)

/-- 'sheaferlaw12.GasGrows': WHATEVER THE INPUT: true; the input reads as it did. -/
def gasGrowsSpec : ChangeSpec := { name := "gasGrows", fn := fun _ => fun
  | [d1, d2, d3] => { results := [.lit (.bool true)], args := [d1, d2, d3] }
  | _ => none }
def gasGrowsRow : OpenClaim := { program := "ythhalnmbfokbbaadoor", sum := "44aeed82af760dd43c51ccb5c47a6b094efd66c1caef4c2f2e61fff8434282da", func := "sheafer/sheaferlaw12.GasGrows", spec := "gasGrows", unfollowed := true, recurses := true, named := ["internal/strconv.uint64pow10", "math/bits.deBruijn32tab", "math/bits.deBruijn64tab"], apart := false, laid := [("math/bits.deBruijn32tab", laid_math_bits_deBruijn32tab), ("math/bits.deBruijn64tab", laid_math_bits_deBruijn64tab), ("internal/strconv.uint64pow10", laid_internal_strconv_uint64pow10)] }
def GasGrowsSaid : Prop := gasGrowsRow.holds Tryd.pinned (OpenSpec.ofChange gasGrowsSpec)

/-- ITS FALSE NEIGHBOUR: 'it returns false'. Refute it at one input. -/
def gasGrowsWrong : ChangeSpec := { name := "gasGrows", fn := fun _ => fun
  | [d1, d2, d3] => { results := [.lit (.bool false)], args := [d1, d2, d3] }
  | _ => none }
def GasGrowsWrongFalsely : Prop := gasGrowsRow.holds Tryd.pinned (OpenSpec.ofChange gasGrowsWrong)

/-- 'sheaferlaw12.GasTogether': WHATEVER THE INPUT: true; the input reads as it did. -/
def gasTogetherSpec : ChangeSpec := { name := "gasTogether", fn := fun _ => fun
  | [d1, d2, d3] => { results := [.lit (.bool true)], args := [d1, d2, d3] }
  | _ => none }
def gasTogetherRow : OpenClaim := { program := "ythhalnmbfokbbaadoor", sum := "44aeed82af760dd43c51ccb5c47a6b094efd66c1caef4c2f2e61fff8434282da", func := "sheafer/sheaferlaw12.GasTogether", spec := "gasTogether", inPlace := ["math/bits.Add64"], unfollowed := true, recurses := true, named := ["internal/strconv.uint64pow10", "math/bits.deBruijn32tab", "math/bits.deBruijn64tab"], apart := false, laid := [("math/bits.deBruijn32tab", laid_math_bits_deBruijn32tab), ("math/bits.deBruijn64tab", laid_math_bits_deBruijn64tab), ("internal/strconv.uint64pow10", laid_internal_strconv_uint64pow10)] }
def GasTogetherSaid : Prop := gasTogetherRow.holds Tryd.pinned (OpenSpec.ofChange gasTogetherSpec)

/-- ITS FALSE NEIGHBOUR: 'it returns false'. Refute it at one input. -/
def gasTogetherWrong : ChangeSpec := { name := "gasTogether", fn := fun _ => fun
  | [d1, d2, d3] => { results := [.lit (.bool false)], args := [d1, d2, d3] }
  | _ => none }
def GasTogetherWrongFalsely : Prop := gasTogetherRow.holds Tryd.pinned (OpenSpec.ofChange gasTogetherWrong)

/-- 'sheaferlaw12.GasLent': WHATEVER THE INPUT: true; the input reads as it did. -/
def gasLentSpec : ChangeSpec := { name := "gasLent", fn := fun _ => fun
  | [d1, d2] => { results := [.lit (.bool true)], args := [d1, d2] }
  | _ => none }
def gasLentRow : OpenClaim := { program := "ythhalnmbfokbbaadoor", sum := "44aeed82af760dd43c51ccb5c47a6b094efd66c1caef4c2f2e61fff8434282da", func := "sheafer/sheaferlaw12.GasLent", spec := "gasLent", unfollowed := true, recurses := true, named := ["internal/strconv.uint64pow10", "math/bits.deBruijn32tab", "math/bits.deBruijn64tab"], apart := false, laid := [("math/bits.deBruijn32tab", laid_math_bits_deBruijn32tab), ("math/bits.deBruijn64tab", laid_math_bits_deBruijn64tab), ("internal/strconv.uint64pow10", laid_internal_strconv_uint64pow10)] }
def GasLentSaid : Prop := gasLentRow.holds Tryd.pinned (OpenSpec.ofChange gasLentSpec)

/-- ITS FALSE NEIGHBOUR: 'it returns false'. Refute it at one input. -/
def gasLentWrong : ChangeSpec := { name := "gasLent", fn := fun _ => fun
  | [d1, d2] => { results := [.lit (.bool false)], args := [d1, d2] }
  | _ => none }
def GasLentWrongFalsely : Prop := gasLentRow.holds Tryd.pinned (OpenSpec.ofChange gasLentWrong)

/-- 'sheaferlaw12.GasSlots': WHATEVER THE INPUT: true; the input reads as it did. -/
def gasSlotsSpec : ChangeSpec := { name := "gasSlots", fn := fun _ => fun
  | [d1, d2] => { results := [.lit (.bool true)], args := [d1, d2] }
  | _ => none }
def gasSlotsRow : OpenClaim := { program := "ythhalnmbfokbbaadoor", sum := "44aeed82af760dd43c51ccb5c47a6b094efd66c1caef4c2f2e61fff8434282da", func := "sheafer/sheaferlaw12.GasSlots", spec := "gasSlots", unfollowed := true, recurses := true, named := ["internal/strconv.uint64pow10", "math/bits.deBruijn32tab", "math/bits.deBruijn64tab"], apart := false, laid := [("math/bits.deBruijn32tab", laid_math_bits_deBruijn32tab), ("math/bits.deBruijn64tab", laid_math_bits_deBruijn64tab), ("internal/strconv.uint64pow10", laid_internal_strconv_uint64pow10)] }
def GasSlotsSaid : Prop := gasSlotsRow.holds Tryd.pinned (OpenSpec.ofChange gasSlotsSpec)

/-- ITS FALSE NEIGHBOUR: 'it returns false'. Refute it at one input. -/
def gasSlotsWrong : ChangeSpec := { name := "gasSlots", fn := fun _ => fun
  | [d1, d2] => { results := [.lit (.bool false)], args := [d1, d2] }
  | _ => none }
def GasSlotsWrongFalsely : Prop := gasSlotsRow.holds Tryd.pinned (OpenSpec.ofChange gasSlotsWrong)

/-- 'sheaferlaw12.GasReaches': WHATEVER THE INPUT: true; the input reads as it did. -/
def gasReachesSpec : ChangeSpec := { name := "gasReaches", fn := fun _ => fun
  | [d1, d2, d3] => { results := [.lit (.bool true)], args := [d1, d2, d3] }
  | _ => none }
def gasReachesRow : OpenClaim := { program := "ythhalnmbfokbbaadoor", sum := "44aeed82af760dd43c51ccb5c47a6b094efd66c1caef4c2f2e61fff8434282da", func := "sheafer/sheaferlaw12.GasReaches", spec := "gasReaches", inPlace := ["math/bits.Add64"], unfollowed := true, recurses := true, named := ["internal/strconv.uint64pow10", "math/bits.deBruijn32tab", "math/bits.deBruijn64tab"], apart := false, laid := [("math/bits.deBruijn32tab", laid_math_bits_deBruijn32tab), ("math/bits.deBruijn64tab", laid_math_bits_deBruijn64tab), ("internal/strconv.uint64pow10", laid_internal_strconv_uint64pow10)] }
def GasReachesSaid : Prop := gasReachesRow.holds Tryd.pinned (OpenSpec.ofChange gasReachesSpec)

/-- ITS FALSE NEIGHBOUR: 'it returns false'. Refute it at one input. -/
def gasReachesWrong : ChangeSpec := { name := "gasReaches", fn := fun _ => fun
  | [d1, d2, d3] => { results := [.lit (.bool false)], args := [d1, d2, d3] }
  | _ => none }
def GasReachesWrongFalsely : Prop := gasReachesRow.holds Tryd.pinned (OpenSpec.ofChange gasReachesWrong)

/-- 'sheaferlaw12.GasBytes': WHATEVER THE INPUT: true; the input reads as it did. -/
def gasBytesSpec : ChangeSpec := { name := "gasBytes", fn := fun _ => fun
  | [d1, d2] => { results := [.lit (.bool true)], args := [d1, d2] }
  | _ => none }
def gasBytesRow : OpenClaim := { program := "ythhalnmbfokbbaadoor", sum := "44aeed82af760dd43c51ccb5c47a6b094efd66c1caef4c2f2e61fff8434282da", func := "sheafer/sheaferlaw12.GasBytes", spec := "gasBytes", inPlace := ["math/bits.Add64"], unfollowed := true, recurses := true, named := ["internal/strconv.uint64pow10", "math/bits.deBruijn32tab", "math/bits.deBruijn64tab"], apart := false, laid := [("math/bits.deBruijn32tab", laid_math_bits_deBruijn32tab), ("math/bits.deBruijn64tab", laid_math_bits_deBruijn64tab), ("internal/strconv.uint64pow10", laid_internal_strconv_uint64pow10)] }
def GasBytesSaid : Prop := gasBytesRow.holds Tryd.pinned (OpenSpec.ofChange gasBytesSpec)

/-- ITS FALSE NEIGHBOUR: 'it returns false'. Refute it at one input. -/
def gasBytesWrong : ChangeSpec := { name := "gasBytes", fn := fun _ => fun
  | [d1, d2] => { results := [.lit (.bool false)], args := [d1, d2] }
  | _ => none }
def GasBytesWrongFalsely : Prop := gasBytesRow.holds Tryd.pinned (OpenSpec.ofChange gasBytesWrong)

/- THE SECOND FORM. 'bulk': how many values and letters a reading holds, each counted each time it is reached (what is shared counts as often as it is met; a slice's spare places count too). A statement '..UptoSaid' is the law's where the arguments, and the package variables that the reading takes, are together of bulk at most 1048576: NARROWER than '..Said'. Prove '..Said' where nothing that the law and all that it calls make is longer than what came in: it says more and counts as full. Else prove '..UptoSaid'. A law counts once. -/
mutual
def uptoBulk {H : Type} : DataW H → Nat
  | .lit (.string bytes) => bytes.length + 1
  | .lit _ => 1
  | .nil => 1
  | .ptr d => uptoBulk d + 1
  | .slice elems spare => uptoBulkAll elems + uptoBulkAll spare + 1
  | .agg parts => uptoBulkAll parts + 1
  | .iface _ d => uptoBulk d + 1
  | .map entries => uptoBulkEntries entries + 1
  | .held _ => 1
def uptoBulkAll {H : Type} : List (DataW H) → Nat
  | [] => 0
  | d :: r => uptoBulk d + uptoBulkAll r
def uptoBulkEntries {H : Type} : List (Lit × DataW H) → Nat
  | [] => 0
  | x :: r => uptoBulkEntry x + uptoBulkEntries r
def uptoBulkEntry {H : Type} : Lit × DataW H → Nat
  | (.string bytes, d) => bytes.length + uptoBulk d + 1
  | (_, d) => uptoBulk d + 1
 end
def uptoSmall : (H : Type) → List (DataW H) → Bool := fun _ ds => decide (uptoBulkAll ds ≤ 1048576)
def OpenSpec.upto (s : _root_.Go.ChangeSpec) : _root_.Go.OpenSpec := { _root_.Go.OpenSpec.ofChange s with cond := some uptoSmall }

/-- 'sheaferlaw12.GasBases', WHERE WHAT IT READS IS OF BULK AT MOST 1048576: true; the input reads as it did. -/
def gasBasesUptoRow : OpenClaim := { program := "ythhalnmbfokbbaadoor", sum := "44aeed82af760dd43c51ccb5c47a6b094efd66c1caef4c2f2e61fff8434282da", func := "sheafer/sheaferlaw12.GasBases", spec := "gasBases", unfollowed := true, recurses := true, named := ["internal/strconv.uint64pow10", "math/bits.deBruijn32tab", "math/bits.deBruijn64tab"], apart := false, laid := [("math/bits.deBruijn32tab", laid_math_bits_deBruijn32tab), ("math/bits.deBruijn64tab", laid_math_bits_deBruijn64tab), ("internal/strconv.uint64pow10", laid_internal_strconv_uint64pow10)], narrowed := true }
def GasBasesUptoSaid : Prop := gasBasesUptoRow.holds Tryd.pinned (OpenSpec.upto gasBasesSpec)

/-- 'sheaferlaw12.GasSpends', WHERE WHAT IT READS IS OF BULK AT MOST 1048576: true; the input reads as it did. -/
def gasSpendsUptoRow : OpenClaim := { program := "ythhalnmbfokbbaadoor", sum := "44aeed82af760dd43c51ccb5c47a6b094efd66c1caef4c2f2e61fff8434282da", func := "sheafer/sheaferlaw12.GasSpends", spec := "gasSpends", unfollowed := true, recurses := true, named := ["internal/strconv.uint64pow10", "math/bits.deBruijn32tab", "math/bits.deBruijn64tab"], apart := false, laid := [("math/bits.deBruijn32tab", laid_math_bits_deBruijn32tab), ("math/bits.deBruijn64tab", laid_math_bits_deBruijn64tab), ("internal/strconv.uint64pow10", laid_internal_strconv_uint64pow10)], narrowed := true }
def GasSpendsUptoSaid : Prop := gasSpendsUptoRow.holds Tryd.pinned (OpenSpec.upto gasSpendsSpec)

/-- 'sheaferlaw12.GasGrows', WHERE WHAT IT READS IS OF BULK AT MOST 1048576: true; the input reads as it did. -/
def gasGrowsUptoRow : OpenClaim := { program := "ythhalnmbfokbbaadoor", sum := "44aeed82af760dd43c51ccb5c47a6b094efd66c1caef4c2f2e61fff8434282da", func := "sheafer/sheaferlaw12.GasGrows", spec := "gasGrows", unfollowed := true, recurses := true, named := ["internal/strconv.uint64pow10", "math/bits.deBruijn32tab", "math/bits.deBruijn64tab"], apart := false, laid := [("math/bits.deBruijn32tab", laid_math_bits_deBruijn32tab), ("math/bits.deBruijn64tab", laid_math_bits_deBruijn64tab), ("internal/strconv.uint64pow10", laid_internal_strconv_uint64pow10)], narrowed := true }
def GasGrowsUptoSaid : Prop := gasGrowsUptoRow.holds Tryd.pinned (OpenSpec.upto gasGrowsSpec)

/-- 'sheaferlaw12.GasTogether', WHERE WHAT IT READS IS OF BULK AT MOST 1048576: true; the input reads as it did. -/
def gasTogetherUptoRow : OpenClaim := { program := "ythhalnmbfokbbaadoor", sum := "44aeed82af760dd43c51ccb5c47a6b094efd66c1caef4c2f2e61fff8434282da", func := "sheafer/sheaferlaw12.GasTogether", spec := "gasTogether", inPlace := ["math/bits.Add64"], unfollowed := true, recurses := true, named := ["internal/strconv.uint64pow10", "math/bits.deBruijn32tab", "math/bits.deBruijn64tab"], apart := false, laid := [("math/bits.deBruijn32tab", laid_math_bits_deBruijn32tab), ("math/bits.deBruijn64tab", laid_math_bits_deBruijn64tab), ("internal/strconv.uint64pow10", laid_internal_strconv_uint64pow10)], narrowed := true }
def GasTogetherUptoSaid : Prop := gasTogetherUptoRow.holds Tryd.pinned (OpenSpec.upto gasTogetherSpec)

/-- 'sheaferlaw12.GasLent', WHERE WHAT IT READS IS OF BULK AT MOST 1048576: true; the input reads as it did. -/
def gasLentUptoRow : OpenClaim := { program := "ythhalnmbfokbbaadoor", sum := "44aeed82af760dd43c51ccb5c47a6b094efd66c1caef4c2f2e61fff8434282da", func := "sheafer/sheaferlaw12.GasLent", spec := "gasLent", unfollowed := true, recurses := true, named := ["internal/strconv.uint64pow10", "math/bits.deBruijn32tab", "math/bits.deBruijn64tab"], apart := false, laid := [("math/bits.deBruijn32tab", laid_math_bits_deBruijn32tab), ("math/bits.deBruijn64tab", laid_math_bits_deBruijn64tab), ("internal/strconv.uint64pow10", laid_internal_strconv_uint64pow10)], narrowed := true }
def GasLentUptoSaid : Prop := gasLentUptoRow.holds Tryd.pinned (OpenSpec.upto gasLentSpec)

/-- 'sheaferlaw12.GasSlots', WHERE WHAT IT READS IS OF BULK AT MOST 1048576: true; the input reads as it did. -/
def gasSlotsUptoRow : OpenClaim := { program := "ythhalnmbfokbbaadoor", sum := "44aeed82af760dd43c51ccb5c47a6b094efd66c1caef4c2f2e61fff8434282da", func := "sheafer/sheaferlaw12.GasSlots", spec := "gasSlots", unfollowed := true, recurses := true, named := ["internal/strconv.uint64pow10", "math/bits.deBruijn32tab", "math/bits.deBruijn64tab"], apart := false, laid := [("math/bits.deBruijn32tab", laid_math_bits_deBruijn32tab), ("math/bits.deBruijn64tab", laid_math_bits_deBruijn64tab), ("internal/strconv.uint64pow10", laid_internal_strconv_uint64pow10)], narrowed := true }
def GasSlotsUptoSaid : Prop := gasSlotsUptoRow.holds Tryd.pinned (OpenSpec.upto gasSlotsSpec)

/-- 'sheaferlaw12.GasReaches', WHERE WHAT IT READS IS OF BULK AT MOST 1048576: true; the input reads as it did. -/
def gasReachesUptoRow : OpenClaim := { program := "ythhalnmbfokbbaadoor", sum := "44aeed82af760dd43c51ccb5c47a6b094efd66c1caef4c2f2e61fff8434282da", func := "sheafer/sheaferlaw12.GasReaches", spec := "gasReaches", inPlace := ["math/bits.Add64"], unfollowed := true, recurses := true, named := ["internal/strconv.uint64pow10", "math/bits.deBruijn32tab", "math/bits.deBruijn64tab"], apart := false, laid := [("math/bits.deBruijn32tab", laid_math_bits_deBruijn32tab), ("math/bits.deBruijn64tab", laid_math_bits_deBruijn64tab), ("internal/strconv.uint64pow10", laid_internal_strconv_uint64pow10)], narrowed := true }
def GasReachesUptoSaid : Prop := gasReachesUptoRow.holds Tryd.pinned (OpenSpec.upto gasReachesSpec)

/-- 'sheaferlaw12.GasBytes', WHERE WHAT IT READS IS OF BULK AT MOST 1048576: true; the input reads as it did. -/
def gasBytesUptoRow : OpenClaim := { program := "ythhalnmbfokbbaadoor", sum := "44aeed82af760dd43c51ccb5c47a6b094efd66c1caef4c2f2e61fff8434282da", func := "sheafer/sheaferlaw12.GasBytes", spec := "gasBytes", inPlace := ["math/bits.Add64"], unfollowed := true, recurses := true, named := ["internal/strconv.uint64pow10", "math/bits.deBruijn32tab", "math/bits.deBruijn64tab"], apart := false, laid := [("math/bits.deBruijn32tab", laid_math_bits_deBruijn32tab), ("math/bits.deBruijn64tab", laid_math_bits_deBruijn64tab), ("internal/strconv.uint64pow10", laid_internal_strconv_uint64pow10)], narrowed := true }
def GasBytesUptoSaid : Prop := gasBytesUptoRow.holds Tryd.pinned (OpenSpec.upto gasBytesSpec)

end Rows
end Go.Proofs.YthhalnmbfokbbaaDoor
