/-
  A SMALL LOGIC OVER THE KIT's WALK, PART R: arrays cut, and slices seen as arrays.
  Conditions: none; over any program.
-/
import Derived.Test.YtahoghldnijnbaaSlq
import Derived.Laws.Cover3
namespace Go.Proofs.Ytahoghldnijnbaa.SL
set_option linter.unusedVariables false
set_option linter.unusedSimpArgs false
open Go Go.RowKit
section ar
variable {P : Program} {e : Env} {x hi : Operand} {T E A : TypeId} {n sz k : Nat} {z : Value} {ik : IntKind} {b off : Nat}
/-- arr[:k] of an array's address. -/
theorem ValP.cutArr (hU : UnI P T (.array n E)) (hI : InfoI P E sz z) (hx : e.ev x = some (.pointer (some ⟨b, off, none⟩))) (hh : e.ev hi = some (.int ik (OfNat.ofNat k))) (hk : Nat.ble (OfNat.ofNat k) n = true) : ValP P e [] (.slice T x none (some hi) none) (.slice (some ⟨b, off, none⟩) (OfNat.ofNat k) n) := fun ρ w hρ _ d t pos af g => by
  have hk' := Nat.le_of_ble_eq_true hk
  have hu := hU.un
  have h1 : (Instr.sliceAt T (.pointer (some ⟨b, off, none⟩)) none (some (.int ik (OfNat.ofNat k))) none).run P w = .ok (.slice (some ⟨b, off, none⟩) (OfNat.ofNat k) n) w := by
    have hal : P.arrayLen T = n := by rw [Program.arrayLen, hu]
    have hel : P.elem T = E := by rw [Program.elem, hu]
    have h2 := run_sliceAt_array_h (P := P) w T ⟨b, off, none⟩ (by rw [hal, hel]; exact hu) ik ((OfNat.ofNat k : Nat) : Int) (Int.natCast_nonneg _) (by rw [hal]; exact Int.ofNat_le.2 hk')
    rw [hel, run_size, hal] at h2
    have e1 : ((OfNat.ofNat k : Int)) = ((OfNat.ofNat k : Nat) : Int) := rfl
    rw [e1, h2]
    simp only [Result.andThen_ok, slicedAt, Nat.zero_mul, Int.toNat_natCast, Nat.sub_zero]
    simp [Addr.add]
  simp [execOp, hρ x _ hx, hρ hi _ hh, h1]
/-- A slice seen as an array. -/
theorem ValP.asArr {p : Option Addr} {m c : Nat} (hU : UnI P A (.array n E)) (hx : e.ev x = some (.slice p m c)) (hn : Nat.ble n m = true) : ValP P e [] (.sliceToArrayPointer A x) (.pointer p) := fun ρ w hρ _ d t pos af g => by
  have h1 := run_arrayAt (P := P) w A E n p m c hU.un (Nat.le_of_ble_eq_true hn)
  simp [execOp, hρ x _ hx, h1]
end ar
end Go.Proofs.Ytahoghldnijnbaa.SL
