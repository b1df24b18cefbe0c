/-
  A SMALL LOGIC OVER THE KIT's WALK, PART K: arguments opened: what a value that came in is, and where it lies.
  Conditions: none; over any program.
-/
import Derived.Test.YtahoghldnijnbaaSlj
import Derived.OpenShut
import Derived.ShutString
import Derived.ChangeOld
import Derived.Deep.Slices
namespace Go.Proofs.Ytahoghldnijnbaa.SL
set_option linter.unusedVariables false
set_option linter.unusedSimpArgs false
open Go Go.RowKit Go.Deep

/-- What a type is made of. -/
inductive Ty
  | bool | int (k : IntKind) | str | sl (e : Ty) | arr (n : Nat) (e : Ty) | unit | pair (f r : Ty)
/-- How many cells. -/
def Ty.cells : Ty → Nat
  | .arr n e => n * e.cells
  | .unit => 0
  | .pair f r => f.cells + r.cells
  | _ => 1
/-- Is a type of the program made so? Beside: fields, from an offset on. -/
def Ty.ok (P : Program) : Ty → TypeId ⊕ (List Field × Nat) → Bool
  | .bool, .inl T => match P.underlying T with | some .bool => true | _ => false
  | .int k, .inl T => match P.underlying T with | some (.int k') => decide (k = k') | _ => false
  | .str, .inl T => match P.underlying T with | some .string => true | _ => false
  | .sl e, .inl T => match P.underlying T with | some (.slice E) => Nat.beq (P.cellsOf E) e.cells && e.ok P (.inl E) | _ => false
  | .arr n e, .inl T => match P.underlying T with | some (.array n' E) => Nat.beq n n' && Nat.beq (P.cellsOf E) e.cells && Nat.beq (P.cellsOf T) (n * e.cells) && e.ok P (.inl E) | _ => false
  | .unit, .inl T => match P.underlying T with | some (.struct fs) => fs.isEmpty && Nat.beq (P.cellsOf T) 0 | _ => false
  | .pair f r, .inl T => match P.underlying T with | some (.struct fs) => Nat.beq (P.cellsOf T) (f.cells + r.cells) && (match fs.toList with | [] => false | x :: l => Nat.beq x.offset 0 && Nat.beq (P.cellsOf x.type) f.cells && f.ok P (.inl x.type) && r.ok P (.inr (l, f.cells))) | _ => false
  | .unit, .inr (l, _) => l.isEmpty
  | .pair f r, .inr (l, o) => match l with | [] => false | x :: l => Nat.beq x.offset o && Nat.beq (P.cellsOf x.type) f.cells && f.ok P (.inl x.type) && r.ok P (.inr (l, o + f.cells))
  | _, .inr _ => false
/-- What cells of such a type read as. -/
def Ty.is (w : World) : Ty → List Value → Prop
  | .bool, cs => ∃ b, cs = [.bool b]
  | .int k, cs => ∃ n, cs = [.int k n] ∧ (Lit.int k n).wf = true
  | .str, cs => ∃ s, cs = [.string s] ∧ s.size ≤ maxLen
  | .sl e, cs => cs = [.slice none 0 0] ∨ ∃ a n c, cs = [.slice (some a) n c] ∧ n ≤ c ∧ c ≤ maxLen ∧ ∀ i, i < c → ∃ cs', w.cells? 0 (a.add (i * e.cells)) e.cells = some cs' ∧ e.is w cs'
  | .arr n e, cs => cs.length = n * e.cells ∧ ∀ i, i < n → e.is w ((cs.drop (i * e.cells)).take e.cells)
  | .unit, cs => cs = []
  | .pair f r, cs => f.is w (cs.take f.cells) ∧ r.is w (cs.drop f.cells)

section op
variable {H : Type} {enc : TypeId × Value → H} {P : Program} {w : World} {held : Bool}
theorem trod_is : ∀ (ty : Ty), (∀ (T : TypeId) (fuel : Nat) (cs : List Value) (x : DataW H × List MemPlace), ty.ok P (.inl T) = true → DataW.trod enc P w 0 (fun _ => true) held fuel T cs = some x → ty.is w cs) ∧
    (∀ (l : List Field) (o : Nat) (m : Nat) (cs : List Value), ty.ok P (.inr (l, o)) = true → cs.length = o + ty.cells → (∀ f ∈ l, ∃ x, DataW.trod enc P w 0 (fun _ => true) held m f.type ((cs.drop f.offset).take (P.cellsOf f.type)) = some x) → ty.is w (cs.drop o)) := by
  intro ty
  induction ty with
  | bool =>
    refine ⟨fun T fuel cs x hT h => ?_, fun l o m cs h => by cases (show false = true from h)⟩
    have hu : P.underlying T = some .bool := by simp only [Ty.ok] at hT; split at hT <;> simp_all
    obtain ⟨b, rfl, _⟩ := DataW.trod_bool hu h
    exact ⟨b, rfl⟩
  | int k =>
    refine ⟨fun T fuel cs x hT h => ?_, fun l o m cs h => by cases (show false = true from h)⟩
    have hu : P.underlying T = some (.int k) := by simp only [Ty.ok] at hT; split at hT <;> simp_all
    obtain ⟨n, rfl, _, hw⟩ := DataW.trod_int hu h
    exact ⟨n, rfl, hw⟩
  | str =>
    refine ⟨fun T fuel cs x hT h => ?_, fun l o m cs h => by cases (show false = true from h)⟩
    have hu : P.underlying T = some .string := by simp only [Ty.ok] at hT; split at hT <;> simp_all
    obtain ⟨s, rfl, _, hw⟩ := DataW.trod_string hu h
    exact ⟨s, rfl, hw⟩
  | sl e ih =>
    refine ⟨fun T fuel cs x hT h => ?_, fun l o m cs h => by cases (show false = true from h)⟩
    simp only [Ty.ok] at hT
    split at hT
    · rename_i E hu
      simp only [Bool.and_eq_true, Nat.beq_eq] at hT
      obtain ⟨hc, he⟩ := hT
      rcases open_slice hu h with ⟨rfl, _⟩ | ⟨a, len, cap, m, n, D, Pl, rfl, _, h1, h2, h3, _, h5⟩
      · exact .inl rfl
      · refine .inr ⟨a, len, cap, rfl, h1, h2, fun i hi => ?_⟩
        obtain ⟨cs', h6, h7⟩ := h5 i (by simpa [h3] using hi)
        rw [hc] at h6
        exact ⟨cs', h6, ih.1 E _ _ _ he h7⟩
    · cases hT
  | arr n e ih =>
    refine ⟨fun T fuel cs x hT h => ?_, fun l o m cs h => by cases (show false = true from h)⟩
    simp only [Ty.ok] at hT
    split at hT
    · rename_i n' E hu
      simp only [Bool.and_eq_true, Nat.beq_eq] at hT
      obtain ⟨⟨⟨rfl, hc⟩, hcT⟩, he⟩ := hT
      obtain ⟨xs, m, _, _, hl, hx, hall⟩ := DataW.trod_array hu h
      refine ⟨by rw [hl, hcT], fun i hi => ?_⟩
      have h2 := hall i hi
      rw [List.getElem?_eq_getElem (by omega), hc] at h2
      exact ih.1 E _ _ _ he h2
    · cases hT
  | unit =>
    refine ⟨fun T fuel cs x hT h => ?_, fun l o m cs h hl _ => ?_⟩
    · simp only [Ty.ok] at hT
      split at hT
      · rename_i fs hu
        simp only [Bool.and_eq_true, Nat.beq_eq] at hT
        obtain ⟨xs, m, _, _, hl, _⟩ := DataW.trod_struct hu h
        exact List.length_eq_zero_iff.1 (by rw [hl, hT.2])
      · cases hT
    · exact List.drop_eq_nil_of_le (by simp [Ty.cells] at hl; omega)
  | pair f r ihf ihr =>
    refine ⟨fun T fuel cs x hT h => ?_, fun l o m cs h hl hall => ?_⟩
    · simp only [Ty.ok] at hT
      split at hT
      · rename_i fs hu
        simp only [Bool.and_eq_true, Nat.beq_eq] at hT
        obtain ⟨hcT, hT⟩ := hT
        obtain ⟨xs, m, _, _, hl, hx, hall⟩ := DataW.trod_struct hu h
        have hmem : ∀ y ∈ fs.toList, ∃ x, DataW.trod enc P w 0 (fun _ => true) held m y.type ((cs.drop y.offset).take (P.cellsOf y.type)) = some x := fun y hy => by
          obtain ⟨i, hi, rfl⟩ := List.getElem_of_mem hy
          have h2 := hall i fs.toList[i] (by rw [← Array.getElem?_toList]; exact List.getElem?_eq_getElem hi)
          have hi' : i < xs.length := by rw [hx]; simpa using hi
          rw [List.getElem?_eq_getElem hi'] at h2
          exact ⟨_, h2⟩
        split at hT
        · cases hT
        · rename_i y l hfs
          simp only [Bool.and_eq_true, Nat.beq_eq] at hT
          obtain ⟨⟨⟨h1, h2⟩, h3⟩, h4⟩ := hT
          rw [hfs] at hmem
          obtain ⟨x1, hx1⟩ := hmem y List.mem_cons_self
          rw [h1, h2, List.drop_zero] at hx1
          exact ⟨ihf.1 _ _ _ _ h3 hx1, ihr.2 l f.cells m cs h4 (by rw [hl, hcT]) fun z hz => hmem z (List.mem_cons_of_mem _ hz)⟩
      · cases hT
    · simp only [Ty.ok] at h
      split at h
      · cases h
      · rename_i y l
        simp only [Bool.and_eq_true, Nat.beq_eq] at h
        obtain ⟨⟨⟨h1, h2⟩, h3⟩, h4⟩ := h
        obtain ⟨x1, hx1⟩ := hall y List.mem_cons_self
        rw [h1, h2] at hx1
        refine ⟨ihf.1 _ _ _ _ h3 hx1, ?_⟩
        rw [List.drop_drop]
        exact ihr.2 l (o + f.cells) m cs h4 (by rw [hl]; simp [Ty.cells]; omega) fun z hz => hall z (List.mem_cons_of_mem _ hz)
/-- An argument: one cell, or parts. -/
theorem open_one {ty : Ty} {T : TypeId} {v : Value} {d : DataW H} {ps : List MemPlace} (hT : ty.ok P (.inl T) = true) (h : DataW.Trod enc P w 0 (fun _ => true) held T v d ps) : ty.is w v.cells.toList := by
  obtain ⟨m, hm⟩ := h
  exact (trod_is ty).1 T m _ _ hT hm
theorem okWide_agg {W : World} {r : Reach} {base : Nat} {T n E : TypeId} {v : Value} (ht : P.underlying T = some (.array n E)) (h : Value.okWide P W r base T v) : ∃ cs, v = .agg cs := by
  simp only [Value.okWide, ht] at h
  obtain ⟨cs, h1, _⟩ := h
  exact ⟨cs, h1⟩
def Ty.word : Ty := .arr 4 (.int .u64)
theorem wf_u64 {n : Int} (h : (Lit.int .u64 n).wf = true) : ∃ k : Nat, n = (k : Int) ∧ k < 18446744073709551616 := by
  simp [Lit.wf, IntKind.min, IntKind.max, IntKind.signed, IntKind.bits] at h
  exact ⟨n.toNat, by omega, by omega⟩
theorem is_word {cs : List Value} (h : Ty.word.is w cs) : ∃ a, a < M256 ∧ cs = (wc a).toList := by
  obtain ⟨hl, h⟩ := h
  obtain ⟨n0, e0, w0⟩ := h 0 (by decide)
  obtain ⟨n1, e1, w1⟩ := h 1 (by decide)
  obtain ⟨n2, e2, w2⟩ := h 2 (by decide)
  obtain ⟨n3, e3, w3⟩ := h 3 (by decide)
  obtain ⟨k0, rfl, h0⟩ := wf_u64 w0
  obtain ⟨k1, rfl, h1⟩ := wf_u64 w1
  obtain ⟨k2, rfl, h2⟩ := wf_u64 w2
  obtain ⟨k3, rfl, h3⟩ := wf_u64 w3
  match cs, hl with
  | [x0, x1, x2, x3], _ =>
    simp [Ty.cells] at e0 e1 e2 e3
    subst e0 e1 e2 e3
    refine ⟨k0 + 18446744073709551616 * k1 + 340282366920938463463374607431768211456 * k2 + 6277101735386680763835789423207666416102355444464034512896 * k3, by simp only [M256]; omega, ?_⟩
    rw [← wc_val h0 h1 h2 h3 rfl]
theorem open_word {W : World} {r : Reach} {base : Nat} {T : TypeId} {E : TypeId} {v : Value} {d : DataW H} {ps : List MemPlace} (ht : P.underlying T = some (.array 4 E)) (hT : Ty.word.ok P (.inl T) = true) (hv : Value.okWide P W r base T v) (h : DataW.Trod enc P w 0 (fun _ => true) held T v d ps) : ∃ a, a < M256 ∧ v = wv a := by
  obtain ⟨cs, rfl⟩ := okWide_agg ht hv
  obtain ⟨a, ha, he⟩ := is_word (open_one hT h)
  exact ⟨a, ha, by rw [wv]; exact congrArg Value.agg (Array.toList_inj.1 he)⟩
end op
end Go.Proofs.Ytahoghldnijnbaa.SL
