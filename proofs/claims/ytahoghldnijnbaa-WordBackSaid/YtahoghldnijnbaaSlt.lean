/-
  A SMALL LOGIC OVER THE KIT's WALK, PART T: rows of bytes, and strings out of them.
  Conditions: none; over any program.
-/
import Derived.Test.YtahoghldnijnbaaSls
import Derived.Laws.BytesArg
namespace Go.Proofs.Ytahoghldnijnbaa.SL
set_option linter.unusedVariables false
set_option linter.unusedSimpArgs false
open Go Go.RowKit
/-- The cells of bytes. -/
def ucs (l : List UInt8) : List Value := l.flatMap fun u => [Value.int .u8 (u.toNat : Int)]
theorem ucs_map (l : List UInt8) : ucs l = l.map fun u => Value.int .u8 (u.toNat : Int) := by
  induction l with
  | nil => rfl
  | cons a l ih => simp [ucs] at *; exact ih
theorem ucs_len (l : List UInt8) : (ucs l).length = l.length := by rw [ucs_map, List.length_map]
theorem ucs_one (l : List UInt8) : ∀ u ∈ l, ([Value.int .u8 (u.toNat : Int)] : List Value).length = 1 := fun _ _ => rfl
theorem ucs_app (l r : List UInt8) : ucs (l ++ r) = ucs l ++ ucs r := by simp [ucs]
theorem ucs_take (l : List UInt8) (k : Nat) : (ucs l).take (k * 1) = ucs (l.take k) := by rw [ucs_map, ucs_map, Nat.mul_one, List.map_take]
theorem ucs_drop (l : List UInt8) (k : Nat) : (ucs l).drop (k * 1) = ucs (l.drop k) := by rw [ucs_map, ucs_map, Nat.mul_one, List.map_drop]
theorem ucs_cells (l : List UInt8) : ∀ u ∈ ucs l, u.oneCell' = true := fun u hu => by
  rw [ucs_map] at hu
  obtain ⟨a, _, rfl⟩ := List.mem_map.1 hu
  rfl
theorem ucs_zero (n : Nat) : ucs (List.replicate n 0) = List.replicate n (Value.int .u8 0) := by rw [ucs_map, List.map_replicate]; rfl
theorem is_u8 {w : World} {cs : List Value} (h : (Ty.int .u8).is w cs) : ∃ u : UInt8, True ∧ cs = [Value.int .u8 (u.toNat : Int)] := by
  obtain ⟨n, rfl, hn⟩ := h
  simp [Lit.wf, IntKind.min, IntKind.max, IntKind.signed, IntKind.bits] at hn
  refine ⟨UInt8.ofNat n.toNat, trivial, ?_⟩
  rw [UInt8.toNat_ofNat']
  congr 2
  omega
/-- A row of bytes, as a value of its own. -/
theorem is_bytes {w : World} {cs : List Value} (h : (Ty.sl (.int .u8)).is w cs) : ∃ x : Value × List UInt8, RowAt w 1 x.1 x.2.length (ucs x.2) ∧ cs = [x.1] := by
  obtain ⟨v, l, h1, _, h3⟩ := sl_rows (g := fun u : UInt8 => [Value.int .u8 (u.toNat : Int)]) (Q := fun _ => True) (sz := 1) rfl (by decide) (fun _ h => is_u8 h) h
  exact ⟨(v, l), h3, h1⟩
theorem RowAt.string {P : Program} {w : World} {v : Value} {l : List UInt8} {n : Nat} {S T E : TypeId} (h : RowAt w 1 v n (ucs l)) (hS : P.underlying S = some (.slice E)) (hE : P.underlying E = some (.int .u8)) (hT : P.underlying T = some .string) :
    (convert S T v).run P w = .ok (.string ⟨l.toArray⟩) w := by
  have hn : l.length = n := by have := h.len; rw [ucs_len] at this; omega
  rcases Nat.eq_zero_or_pos n with h0 | h0
  · subst h0
    obtain rfl : l = [] := List.length_eq_zero_iff.1 hn
    obtain ⟨p, c, rfl, _, _⟩ := h.form
    rw [run_convert_bytes_string w S T E _ 0 c hS hE hT]
    cases p <;> simp [Conv.bytesToString, loadCells]
    all_goals rfl
  · obtain ⟨b, off, c, cs, E', fr, rfl, hb, hx⟩ := h.pos h0
    have := run_convert_bytes_arg (P := P) w S E hS hE b off n c (l.map fun u => (u.toNat : Int)) (by simpa using hn) (fun i hi => by
      have hlt : i < l.length := by omega
      have hg := cut_get (j := i) (v := .int .u8 (l[i].toNat : Int)) hx (by rw [ucs_map]; simp [hlt])
      rw [cell_of hb, hg]
      simp [List.getD, hlt]) T hT
    rw [this]
    congr 2
    simp only [strOfNums, List.map_map]
    congr 2
    conv => rhs; rw [← List.map_id l]
    apply List.map_congr_left
    intro u _
    simp
section lw
variable {C : Cu} {ops : Array Oper} {Q : Post} {rest : List Oper} {e : Env} {fs : Fs} {d : Nat} {t : TypeId} {pos : String} {af : Array Edge}
/-- **string(b)** of bytes that may be read. -/
theorem LW.toStr {S T E : TypeId} {x : Operand} {v : Value} {l : List UInt8} {n : Nat} (hd : Nat.blt d C.N = true) (hS : UnI C.P S (.slice E)) (hE : UnI C.P E (.int .u8)) (hT : UnI C.P T .string) (hx : e.ev x = some v) (hat : ∀ w, St C.w0 C.S fs w → RowAt w 1 v n (ucs l))
    (k : LW C ops Q rest ((d, .string ⟨l.toArray⟩) :: e) fs) : LW C ops Q (⟨some d, .convert S T x, t, pos, af, none⟩ :: rest) e fs :=
  LW.val hd (fun c h => by cases h) (fun a w hs => by
    have := (hat w hs.st).string (P := C.P) hS.un hE.un hT.un
    simp [execOp, hs.env.ev hx, this]) k
end lw
theorem bytes_eq (a b : List UInt8) : decide ((⟨a.toArray⟩ : ByteArray) = ⟨b.toArray⟩) = decide (a = b) := by
  rw [decide_eq_decide]
  constructor
  · intro h; exact by have := congrArg (fun x : ByteArray => x.data.toList) h; simpa using this
  · intro h; rw [h]
end Go.Proofs.Ytahoghldnijnbaa.SL
