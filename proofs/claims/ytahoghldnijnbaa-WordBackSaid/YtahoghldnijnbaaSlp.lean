/-
  A SMALL LOGIC OVER THE KIT's WALK, PART P: arguments that are rows, opened.
  Conditions: none; over any program.
-/
import Derived.Test.YtahoghldnijnbaaSlo
namespace Go.Proofs.Ytahoghldnijnbaa.SL
set_option linter.unusedVariables false
set_option linter.unusedSimpArgs false
open Go Go.RowKit Go.ChangeShapes Go.WideShapes
section op
variable {H : Type} {enc : TypeId × Value → H} {P : Program} {w W : World} {held : Bool} {r : Reach} {base : Nat} {T E : TypeId} {v : Value} {d : DataW H} {ps : List MemPlace}
/-- An argument that is a row. -/
theorem open_row {α : Type} {g : α → List Value} {Q : α → Prop} {e : Ty} {sz : Nat} (hu : P.underlying T = some (.slice E)) (hT : (Ty.sl e).ok P (.inl T) = true) (hc : e.cells = sz) (h0 : 0 < sz) (he : ∀ cs', e.is w cs' → ∃ x, Q x ∧ cs' = g x)
    (hv : Value.okWide P W r base T v) (h : DataW.Trod enc P w 0 (fun _ => true) held T v d ps) : ∃ l : List α, (∀ x ∈ l, Q x) ∧ RowAt w sz v l.length (l.flatMap g) := by
  obtain ⟨a, n, c, rfl⟩ := okWide_slice hu hv
  obtain ⟨v', l, h1, h2, h3⟩ := sl_rows hc h0 he (open_one hT h)
  obtain rfl : v' = _ := by simpa [Value.cells] using h1.symm
  exact ⟨l, fun x hx => (h2 x hx).1, h3⟩
theorem open_n {k : IntKind} (hu : P.underlying T = some (.int k)) (hT : (Ty.int k).ok P (.inl T) = true) (hv : Value.okWide P W r base T v) (h : DataW.Trod enc P w 0 (fun _ => true) held T v d ps) : ∃ n, v = .int k n ∧ (Lit.int k n).wf = true := by
  obtain ⟨n, rfl⟩ := okWide_int hu hv
  obtain ⟨n', h1, h2⟩ := open_one hT h
  obtain rfl : n = n' := by simpa [Value.cells] using h1
  exact ⟨n, rfl, h2⟩
theorem open_str (hu : P.underlying T = some .string) (hT : Ty.str.ok P (.inl T) = true) (hv : Value.okWide P W r base T v) (h : DataW.Trod enc P w 0 (fun _ => true) held T v d ps) : ∃ s, v = .string s ∧ s.size ≤ maxLen := by
  obtain ⟨s, rfl⟩ := okWide_string hu hv
  obtain ⟨s', h1, h2⟩ := open_one hT h
  obtain rfl : s = s' := by simpa [Value.cells] using h1
  exact ⟨s, rfl, h2⟩
end op
def Ty.pair2 : Ty := .arr 2 .word
theorem is_pair {w : World} {cs : List Value} (h : Ty.pair2.is w cs) : ∃ x : Nat × Nat, (x.1 < M256 ∧ x.2 < M256) ∧ cs = (wc x.1).toList ++ (wc x.2).toList := by
  obtain ⟨hl, h⟩ := h
  obtain ⟨a, ha, ea⟩ := is_word (h 0 (by decide))
  obtain ⟨b, hb, eb⟩ := is_word (h 1 (by decide))
  refine ⟨(a, b), ⟨ha, hb⟩, ?_⟩
  have hl' : cs.length = 8 := hl
  simp only [Ty.word, Ty.cells, Nat.zero_mul, List.drop_zero, Nat.one_mul, Nat.mul_one] at ea eb
  rw [← ea, ← eb, List.take_of_length_le (l := cs.drop 4) (by simp [hl'])]
  exact (List.take_append_drop 4 cs).symm
end Go.Proofs.Ytahoghldnijnbaa.SL
