/-
  A SMALL LOGIC OVER THE KIT's WALK, PART D: numbers: what operators on integers yield, in the form in which the contracts speak of them.
  Conditions: none; over any program.
-/
import Derived.Test.YtahoghldnijnbaaSlc
namespace Go.Proofs.Ytahoghldnijnbaa.SL
open Go Go.RowKit
variable {P : Program} {e : Env}

theorem wrapI (n : Int) (h0 : -9223372036854775808 ≤ n) (h1 : n ≤ 9223372036854775807) : IntKind.i64.wrap n = n := by
  simp [IntKind.wrap, IntKind.bits, IntKind.signed]; omega
theorem wrapU (n : Int) : IntKind.u64.wrap n = n % 18446744073709551616 := by
  simp [IntKind.wrap, IntKind.bits, IntKind.signed]
theorem wrapB (n : Int) : IntKind.u8.wrap n = n % 256 := by
  simp [IntKind.wrap, IntKind.bits, IntKind.signed]

theorem ValP.bin {op : BinOp} {T ty : TypeId} {x y : Operand} {vx vy v : Value} (hx : e.ev x = some vx) (hy : e.ev y = some vy) (hg : ∀ w, (eqGuard op T x y vx vy).run P w = .ok () w) (h : ∀ w, (binOp op T vx vy).run P w = .ok v w) :
    ValP P e [] (.binOp op T x y ty) v := fun ρ w hρ _ d t pos af g => by
  simp [execOp, hρ x _ hx, hρ y _ hy, hg, h]

theorem guard_int {op : BinOp} {T : TypeId} {x y : Operand} {k : IntKind} {a : Int} {vy : Value} (w : World) : (eqGuard op T x y (.int k a) vy).run P w = .ok () w := by
  rw [eqGuard_at_int]; rfl

section ints
variable {T ty : TypeId} {x y : Operand} {k : IntKind} {a b : Int}

theorem ValP.addI (hx : e.ev x = some (.int .i64 a)) (hy : e.ev y = some (.int .i64 b)) (h0 : -9223372036854775808 ≤ a + b) (h1 : a + b ≤ 9223372036854775807) : ValP P e [] (.binOp .add T x y ty) (.int .i64 (a + b)) :=
  .bin hx hy (fun w => guard_int w) fun w => by simp [binOp_add, Op.intArith, wrapI _ h0 h1]
theorem ValP.subI (hx : e.ev x = some (.int .i64 a)) (hy : e.ev y = some (.int .i64 b)) (h0 : -9223372036854775808 ≤ a - b) (h1 : a - b ≤ 9223372036854775807) : ValP P e [] (.binOp .sub T x y ty) (.int .i64 (a - b)) :=
  .bin hx hy (fun w => guard_int w) fun w => by simp [binOp_sub, Op.intArith, wrapI _ h0 h1]
theorem ValP.mulI (hx : e.ev x = some (.int .i64 a)) (hy : e.ev y = some (.int .i64 b)) (h0 : -9223372036854775808 ≤ a * b) (h1 : a * b ≤ 9223372036854775807) : ValP P e [] (.binOp .mul T x y ty) (.int .i64 (a * b)) :=
  .bin hx hy (fun w => guard_int w) fun w => by simp [binOp_mul, Op.intArith, wrapI _ h0 h1]
theorem ValP.addU (hx : e.ev x = some (.int .u64 a)) (hy : e.ev y = some (.int .u64 b)) : ValP P e [] (.binOp .add T x y ty) (.int .u64 ((a + b) % 18446744073709551616)) :=
  .bin hx hy (fun w => guard_int w) fun w => by simp [binOp_add, Op.intArith, wrapU]
theorem ValP.subU (hx : e.ev x = some (.int .u64 a)) (hy : e.ev y = some (.int .u64 b)) : ValP P e [] (.binOp .sub T x y ty) (.int .u64 ((a - b) % 18446744073709551616)) :=
  .bin hx hy (fun w => guard_int w) fun w => by simp [binOp_sub, Op.intArith, wrapU]
theorem ValP.mulU (hx : e.ev x = some (.int .u64 a)) (hy : e.ev y = some (.int .u64 b)) : ValP P e [] (.binOp .mul T x y ty) (.int .u64 ((a * b) % 18446744073709551616)) :=
  .bin hx hy (fun w => guard_int w) fun w => by simp [binOp_mul, Op.intArith, wrapU]
theorem ValP.arW {op : BinOp} {c : Int} (hx : e.ev x = some (.int k a)) (hy : e.ev y = some (.int k b)) (hop : Op.intArith op k a b = pure (.int k (k.wrap c))) (hb : binOp op T (.int k a) (.int k b) = Op.intArith op k a b) : ValP P e [] (.binOp op T x y ty) (.int k (k.wrap c)) :=
  .bin hx hy (fun w => guard_int w) fun w => by rw [hb, hop]; rfl

theorem ValP.lssT (hx : e.ev x = some (.int k a)) (hy : e.ev y = some (.int k b)) (h : a < b) : ValP P e [] (.binOp .lss T x y ty) (.bool true) :=
  .bin hx hy (fun w => guard_int w) fun w => by simp [binOp_lss, h]
theorem ValP.lssF (hx : e.ev x = some (.int k a)) (hy : e.ev y = some (.int k b)) (h : b ≤ a) : ValP P e [] (.binOp .lss T x y ty) (.bool false) :=
  .bin hx hy (fun w => guard_int w) fun w => by simp [binOp_lss]; omega
theorem ValP.lss (hx : e.ev x = some (.int k a)) (hy : e.ev y = some (.int k b)) : ValP P e [] (.binOp .lss T x y ty) (.bool (decide (a < b))) :=
  .bin hx hy (fun w => guard_int w) fun w => by simp [binOp_lss]
theorem ValP.leqT (hx : e.ev x = some (.int k a)) (hy : e.ev y = some (.int k b)) (h : a ≤ b) : ValP P e [] (.binOp .leq T x y ty) (.bool true) :=
  .bin hx hy (fun w => guard_int w) fun w => by simp [binOp_leq, h]
theorem ValP.leqF (hx : e.ev x = some (.int k a)) (hy : e.ev y = some (.int k b)) (h : b < a) : ValP P e [] (.binOp .leq T x y ty) (.bool false) :=
  .bin hx hy (fun w => guard_int w) fun w => by simp [binOp_leq]; omega
theorem ValP.leq (hx : e.ev x = some (.int k a)) (hy : e.ev y = some (.int k b)) : ValP P e [] (.binOp .leq T x y ty) (.bool (decide (a ≤ b))) :=
  .bin hx hy (fun w => guard_int w) fun w => by simp [binOp_leq]
theorem ValP.gtrT (hx : e.ev x = some (.int k a)) (hy : e.ev y = some (.int k b)) (h : b < a) : ValP P e [] (.binOp .gtr T x y ty) (.bool true) :=
  .bin hx hy (fun w => guard_int w) fun w => by simp [binOp_gtr, h]
theorem ValP.gtrF (hx : e.ev x = some (.int k a)) (hy : e.ev y = some (.int k b)) (h : a ≤ b) : ValP P e [] (.binOp .gtr T x y ty) (.bool false) :=
  .bin hx hy (fun w => guard_int w) fun w => by simp [binOp_gtr]; omega
theorem ValP.gtr (hx : e.ev x = some (.int k a)) (hy : e.ev y = some (.int k b)) : ValP P e [] (.binOp .gtr T x y ty) (.bool (decide (b < a))) :=
  .bin hx hy (fun w => guard_int w) fun w => by simp [binOp_gtr]
theorem ValP.geqT (hx : e.ev x = some (.int k a)) (hy : e.ev y = some (.int k b)) (h : b ≤ a) : ValP P e [] (.binOp .geq T x y ty) (.bool true) :=
  .bin hx hy (fun w => guard_int w) fun w => by simp [binOp_geq, h]
theorem ValP.geqF (hx : e.ev x = some (.int k a)) (hy : e.ev y = some (.int k b)) (h : a < b) : ValP P e [] (.binOp .geq T x y ty) (.bool false) :=
  .bin hx hy (fun w => guard_int w) fun w => by simp [binOp_geq]; omega
theorem ValP.geq (hx : e.ev x = some (.int k a)) (hy : e.ev y = some (.int k b)) : ValP P e [] (.binOp .geq T x y ty) (.bool (decide (b ≤ a))) :=
  .bin hx hy (fun w => guard_int w) fun w => by simp [binOp_geq]
theorem ValP.eqT (hx : e.ev x = some (.int k a)) (hy : e.ev y = some (.int k b)) (h : a = b) : ValP P e [] (.binOp .eql T x y ty) (.bool true) :=
  .bin hx hy (fun w => guard_int w) fun w => by simp [binOp_eql, h]
theorem ValP.eqF (hx : e.ev x = some (.int k a)) (hy : e.ev y = some (.int k b)) (h : a ≠ b) : ValP P e [] (.binOp .eql T x y ty) (.bool false) :=
  .bin hx hy (fun w => guard_int w) fun w => by simp [binOp_eql, h]
theorem ValP.eq (hx : e.ev x = some (.int k a)) (hy : e.ev y = some (.int k b)) : ValP P e [] (.binOp .eql T x y ty) (.bool (decide (a = b))) :=
  .bin hx hy (fun w => guard_int w) fun w => by simp [binOp_eql]; rfl
theorem ValP.neT (hx : e.ev x = some (.int k a)) (hy : e.ev y = some (.int k b)) (h : a ≠ b) : ValP P e [] (.binOp .neq T x y ty) (.bool true) :=
  .bin hx hy (fun w => guard_int w) fun w => by simp [binOp_neq, h]
theorem ValP.neF (hx : e.ev x = some (.int k a)) (hy : e.ev y = some (.int k b)) (h : a = b) : ValP P e [] (.binOp .neq T x y ty) (.bool false) :=
  .bin hx hy (fun w => guard_int w) fun w => by simp [binOp_neq, h]
theorem ValP.ne (hx : e.ev x = some (.int k a)) (hy : e.ev y = some (.int k b)) : ValP P e [] (.binOp .neq T x y ty) (.bool (!decide (a = b))) :=
  .bin hx hy (fun w => guard_int w) fun w => by simp [binOp_neq, bne]; rfl

theorem tdiv_nonneg (a b : Int) (h0 : 0 ≤ a) : a.tdiv b = a / b := Int.tdiv_eq_ediv_of_nonneg h0
theorem ValP.quoI (hx : e.ev x = some (.int .i64 a)) (hy : e.ev y = some (.int .i64 b)) (h0 : 0 ≤ a) (hb : 0 < b) (h1 : a ≤ 9223372036854775807) : ValP P e [] (.binOp .quo T x y ty) (.int .i64 (a / b)) :=
  .bin hx hy (fun w => guard_int w) fun w => by
    have h2 : 0 ≤ a / b := Int.ediv_nonneg h0 (Int.le_of_lt hb)
    have h3 : a / b ≤ a := Int.ediv_le_self b h0
    simp [binOp_quo, Op.intDiv, Int.ne_of_gt hb, tdiv_nonneg _ _ h0, wrapI _ (show -9223372036854775808 ≤ a / b by omega) (show a / b ≤ 9223372036854775807 by omega)]
theorem ValP.remI (hx : e.ev x = some (.int .i64 a)) (hy : e.ev y = some (.int .i64 b)) (h0 : 0 ≤ a) (hb : 0 < b) : ValP P e [] (.binOp .rem T x y ty) (.int .i64 (a % b)) :=
  .bin hx hy (fun w => guard_int w) fun w => by
    simp [binOp_rem, Op.intDiv, Int.ne_of_gt hb, Int.tmod_eq_emod_of_nonneg h0]
theorem ValP.quoU (hx : e.ev x = some (.int .u64 a)) (hy : e.ev y = some (.int .u64 b)) (h0 : 0 ≤ a) (hb : 0 < b) (h1 : a < 18446744073709551616) : ValP P e [] (.binOp .quo T x y ty) (.int .u64 (a / b)) :=
  .bin hx hy (fun w => guard_int w) fun w => by
    have h2 : 0 ≤ a / b := Int.ediv_nonneg h0 (Int.le_of_lt hb)
    have h3 : a / b ≤ a := Int.ediv_le_self b h0
    have h4 : a / b % 18446744073709551616 = a / b := Int.emod_eq_of_lt h2 (by omega)
    simp [binOp_quo, Op.intDiv, Int.ne_of_gt hb, tdiv_nonneg _ _ h0, wrapU, h4]
theorem ValP.remU (hx : e.ev x = some (.int .u64 a)) (hy : e.ev y = some (.int .u64 b)) (h0 : 0 ≤ a) (hb : 0 < b) : ValP P e [] (.binOp .rem T x y ty) (.int .u64 (a % b)) :=
  .bin hx hy (fun w => guard_int w) fun w => by
    simp [binOp_rem, Op.intDiv, Int.ne_of_gt hb, Int.tmod_eq_emod_of_nonneg h0]

/-! bits of numbers below 2^64 -/
theorem ofInt64 (m : Nat) (hm : m < 18446744073709551616) : (BitVec.ofInt 64 (m : Int)).toNat = m := by
  simp only [BitVec.ofInt_natCast, BitVec.toNat_ofNat]; omega
theorem bits_and (m n : Nat) (hm : m < 18446744073709551616) (hn : n < 18446744073709551616) : bits .and .u64 (m : Int) (n : Int) = ((m &&& n : Nat) : Int) := by
  have h : m &&& n < 18446744073709551616 := Nat.lt_of_le_of_lt Nat.and_le_left hm
  show IntKind.u64.wrap (((BitVec.ofInt 64 (m : Int) &&& BitVec.ofInt 64 (n : Int)).toNat : Nat) : Int) = _
  rw [BitVec.toNat_and, ofInt64 m hm, ofInt64 n hn, wrapU]
  omega
theorem bits_or (m n : Nat) (hm : m < 18446744073709551616) (hn : n < 18446744073709551616) : bits .or .u64 (m : Int) (n : Int) = ((m ||| n : Nat) : Int) := by
  have h : m ||| n < 18446744073709551616 := Nat.or_lt_two_pow (n := 64) hm hn
  show IntKind.u64.wrap (((BitVec.ofInt 64 (m : Int) ||| BitVec.ofInt 64 (n : Int)).toNat : Nat) : Int) = _
  rw [BitVec.toNat_or, ofInt64 m hm, ofInt64 n hn, wrapU]
  omega
theorem bits_xor (m n : Nat) (hm : m < 18446744073709551616) (hn : n < 18446744073709551616) : bits .xor .u64 (m : Int) (n : Int) = ((m ^^^ n : Nat) : Int) := by
  have h : m ^^^ n < 18446744073709551616 := Nat.xor_lt_two_pow (n := 64) hm hn
  show IntKind.u64.wrap (((BitVec.ofInt 64 (m : Int) ^^^ BitVec.ofInt 64 (n : Int)).toNat : Nat) : Int) = _
  rw [BitVec.toNat_xor, ofInt64 m hm, ofInt64 n hn, wrapU]
  omega
theorem ones_xor (m : Nat) (hm : m < 18446744073709551616) : (18446744073709551615 : Nat) ^^^ m = 18446744073709551615 - m := by
  have h := congrArg BitVec.toNat (BitVec.allOnes_xor (x := BitVec.ofNat 64 m))
  rw [BitVec.toNat_xor, BitVec.toNat_not, BitVec.toNat_allOnes, BitVec.toNat_ofNat, Nat.mod_eq_of_lt (by simpa using hm)] at h
  simpa using h
variable {m n : Nat}
theorem ValP.andU (hx : e.ev x = some (.int .u64 (m : Int))) (hy : e.ev y = some (.int .u64 (n : Int))) (hm : m < 18446744073709551616) (hn : n < 18446744073709551616) : ValP P e [] (.binOp .and T x y ty) (.int .u64 ((m &&& n : Nat) : Int)) :=
  .bin hx hy (fun w => guard_int w) fun w => by rw [binOp_and, intBits_and, bits_and m n hm hn]; rfl
theorem ValP.orU (hx : e.ev x = some (.int .u64 (m : Int))) (hy : e.ev y = some (.int .u64 (n : Int))) (hm : m < 18446744073709551616) (hn : n < 18446744073709551616) : ValP P e [] (.binOp .or T x y ty) (.int .u64 ((m ||| n : Nat) : Int)) :=
  .bin hx hy (fun w => guard_int w) fun w => by rw [binOp_or, intBits_or, bits_or m n hm hn]; rfl
theorem ValP.xorU (hx : e.ev x = some (.int .u64 (m : Int))) (hy : e.ev y = some (.int .u64 (n : Int))) (hm : m < 18446744073709551616) (hn : n < 18446744073709551616) : ValP P e [] (.binOp .xor T x y ty) (.int .u64 ((m ^^^ n : Nat) : Int)) :=
  .bin hx hy (fun w => guard_int w) fun w => by rw [binOp_xor, intBits_xor, bits_xor m n hm hn]; rfl
theorem ValP.notU (hx : e.ev x = some (.int .u64 (m : Int))) (hm : m < 18446744073709551616) : ValP P e [] (.unOp .xor T x) (.int .u64 ((18446744073709551615 - m : Nat) : Int)) := fun ρ w hρ _ d t pos af g => by
  have h1 : (18446744073709551615 : Nat) ^^^ m = 18446744073709551615 - m := ones_xor m hm
  have h2 : bits .xor .u64 ((18446744073709551615 : Nat) : Int) (m : Int) = ((18446744073709551615 ^^^ m : Nat) : Int) := bits_xor _ _ (by omega) hm
  have h3 : IntKind.u64.max = ((18446744073709551615 : Nat) : Int) := by decide
  simp only [execOp, hρ x _ hx, unary_xor, IntKind.signed, Bool.false_eq_true, if_false, intBits_xor, h3, h2, h1]
  rfl
/-- x >> s -/
theorem ValP.shrU {s : Nat} {ik : IntKind} (hx : e.ev x = some (.int .u64 (m : Int))) (hy : e.ev y = some (.int ik (s : Int))) (hs : s ≤ 64) : ValP P e [] (.binOp .shr T x y ty) (.int .u64 ((m / 2 ^ s : Nat) : Int)) :=
  .bin hx hy (fun w => guard_int w) fun w => by
    rw [binOp_shr, shift_shr .u64 ik _ _ (by omega) (by simp [IntKind.bits]; omega)]
    simp
/-- x << s -/
theorem ValP.shlU {s : Nat} {ik : IntKind} (hx : e.ev x = some (.int .u64 (m : Int))) (hy : e.ev y = some (.int ik (s : Int))) (hs : s ≤ 64) : ValP P e [] (.binOp .shl T x y ty) (.int .u64 ((m * 2 ^ s % 18446744073709551616 : Nat) : Int)) :=
  .bin hx hy (fun w => guard_int w) fun w => by
    rw [binOp_shl, shift_shl .u64 ik _ _ (by omega) (by simp [IntKind.bits]; omega), wrapU]
    simp
end ints

/-! conversions between kinds of integers -/
theorem ValP.conv {S T : TypeId} {x : Operand} {k k' : IntKind} {n : Int} {ds : TypeDesc} [UnI P S ds] [UnI P T (.int k')] (hx : e.ev x = some (.int k n)) : ValP P e [] (.convert S T x) (.int k' (k'.wrap n)) := fun ρ w hρ _ d t pos af g => by
  simp [execOp, hρ x _ hx, convert, run_un (P := P) (T := S), run_un (P := P) (T := T), Conv.intToInt]
theorem ValP.conv_in {S T : TypeId} {x : Operand} {k k' : IntKind} {n : Int} {ds : TypeDesc} [UnI P S ds] [UnI P T (.int k')] (hx : e.ev x = some (.int k n)) (hn : k'.wrap n = n) : ValP P e [] (.convert S T x) (.int k' n) := by
  have h := ValP.conv (P := P) (S := S) (T := T) (ds := ds) (k' := k') hx
  rwa [hn] at h
end Go.Proofs.Ytahoghldnijnbaa.SL
