/-
  Texts that were built apart, put behind one another (2 of 6): Slk Slm Sln Slo Slp Slq Slr Sls Slt Slu Slv Slw Slx Sly Slz Sma Smb Smc Smd Sme Smf Smg Smh Smi Smj Smk Sml Smm Smn Smo Smp Smq Inst.
  Conditions: none.
-/
import Derived.Test.YtbhicncgjplnoaaDoorP1
import Derived.OpenShut
import Derived.ShutString
import Derived.ChangeOld
import Derived.Deep.Slices
import Derived.Laws.MakeOwn
import Derived.Laws.Slices
import Derived.Laws.Small
import Derived.Deep.Upon
import Derived.Laws.Cover3
import Derived.Laws.BytesArg
import Derived.Laws.RangeAny
import Derived.Laws.Concat
import Derived.Laws.Strings2
import Derived.MapKept
import Derived.Laws.CopyRow
import Derived.Laws.IdiomCopy
import Derived.Laws.IdiomStrings
import Derived.Laws.StructEq
import Derived.Sort.QuietThIn
import Derived.Test.YtbhicncgjplnoaaDoorRows
/-
  A SMALL LOGIC OVER THE KIT's WALK, PART K: arguments opened: what a value that came in is, and where it lies.
  Conditions: none; over any program.
-/
namespace Go.Proofs.YtbhicncgjplnoaaDoor.SL
set_option linter.unusedVariables false
set_option linter.unusedSimpArgs false
open Go Go.RowKit Go.Deep

/-- What a type is made of. -/
inductive Ty
  | bool | int (k : IntKind) | str | sl (e : Ty) | arr (n : Nat) (e : Ty) | unit | pair (f r : Ty)
/-- How many cells. -/
def Ty.cells : Ty → Nat
  | .arr n e => n * e.cells
  | .unit => 0
  | .pair f r => f.cells + r.cells
  | _ => 1
/-- Is a type of the program made so? Beside: fields, from an offset on. -/
def Ty.ok (P : Program) : Ty → TypeId ⊕ (List Field × Nat) → Bool
  | .bool, .inl T => match P.underlying T with | some .bool => true | _ => false
  | .int k, .inl T => match P.underlying T with | some (.int k') => decide (k = k') | _ => false
  | .str, .inl T => match P.underlying T with | some .string => true | _ => false
  | .sl e, .inl T => match P.underlying T with | some (.slice E) => Nat.beq (P.cellsOf E) e.cells && e.ok P (.inl E) | _ => false
  | .arr n e, .inl T => match P.underlying T with | some (.array n' E) => Nat.beq n n' && Nat.beq (P.cellsOf E) e.cells && Nat.beq (P.cellsOf T) (n * e.cells) && e.ok P (.inl E) | _ => false
  | .unit, .inl T => match P.underlying T with | some (.struct fs) => fs.isEmpty && Nat.beq (P.cellsOf T) 0 | _ => false
  | .pair f r, .inl T => match P.underlying T with | some (.struct fs) => Nat.beq (P.cellsOf T) (f.cells + r.cells) && (match fs.toList with | [] => false | x :: l => Nat.beq x.offset 0 && Nat.beq (P.cellsOf x.type) f.cells && f.ok P (.inl x.type) && r.ok P (.inr (l, f.cells))) | _ => false
  | .unit, .inr (l, _) => l.isEmpty
  | .pair f r, .inr (l, o) => match l with | [] => false | x :: l => Nat.beq x.offset o && Nat.beq (P.cellsOf x.type) f.cells && f.ok P (.inl x.type) && r.ok P (.inr (l, o + f.cells))
  | _, .inr _ => false
/-- What cells of such a type read as. -/
def Ty.is (w : World) : Ty → List Value → Prop
  | .bool, cs => ∃ b, cs = [.bool b]
  | .int k, cs => ∃ n, cs = [.int k n] ∧ (Lit.int k n).wf = true
  | .str, cs => ∃ s, cs = [.string s] ∧ s.size ≤ maxLen
  | .sl e, cs => cs = [.slice none 0 0] ∨ ∃ a n c, cs = [.slice (some a) n c] ∧ n ≤ c ∧ c ≤ maxLen ∧ ∀ i, i < c → ∃ cs', w.cells? 0 (a.add (i * e.cells)) e.cells = some cs' ∧ e.is w cs'
  | .arr n e, cs => cs.length = n * e.cells ∧ ∀ i, i < n → e.is w ((cs.drop (i * e.cells)).take e.cells)
  | .unit, cs => cs = []
  | .pair f r, cs => f.is w (cs.take f.cells) ∧ r.is w (cs.drop f.cells)

section op
variable {H : Type} {enc : TypeId × Value → H} {P : Program} {w : World} {held : Bool}
theorem trod_is : ∀ (ty : Ty), (∀ (T : TypeId) (fuel : Nat) (cs : List Value) (x : DataW H × List MemPlace), ty.ok P (.inl T) = true → DataW.trod enc P w 0 (fun _ => true) held fuel T cs = some x → ty.is w cs) ∧
    (∀ (l : List Field) (o : Nat) (m : Nat) (cs : List Value), ty.ok P (.inr (l, o)) = true → cs.length = o + ty.cells → (∀ f ∈ l, ∃ x, DataW.trod enc P w 0 (fun _ => true) held m f.type ((cs.drop f.offset).take (P.cellsOf f.type)) = some x) → ty.is w (cs.drop o)) := by
  intro ty
  induction ty with
  | bool =>
    refine ⟨fun T fuel cs x hT h => ?_, fun l o m cs h => by cases (show false = true from h)⟩
    have hu : P.underlying T = some .bool := by simp only [Ty.ok] at hT; split at hT <;> simp_all
    obtain ⟨b, rfl, _⟩ := DataW.trod_bool hu h
    exact ⟨b, rfl⟩
  | int k =>
    refine ⟨fun T fuel cs x hT h => ?_, fun l o m cs h => by cases (show false = true from h)⟩
    have hu : P.underlying T = some (.int k) := by simp only [Ty.ok] at hT; split at hT <;> simp_all
    obtain ⟨n, rfl, _, hw⟩ := DataW.trod_int hu h
    exact ⟨n, rfl, hw⟩
  | str =>
    refine ⟨fun T fuel cs x hT h => ?_, fun l o m cs h => by cases (show false = true from h)⟩
    have hu : P.underlying T = some .string := by simp only [Ty.ok] at hT; split at hT <;> simp_all
    obtain ⟨s, rfl, _, hw⟩ := DataW.trod_string hu h
    exact ⟨s, rfl, hw⟩
  | sl e ih =>
    refine ⟨fun T fuel cs x hT h => ?_, fun l o m cs h => by cases (show false = true from h)⟩
    simp only [Ty.ok] at hT
    split at hT
    · rename_i E hu
      simp only [Bool.and_eq_true, Nat.beq_eq] at hT
      obtain ⟨hc, he⟩ := hT
      rcases open_slice hu h with ⟨rfl, _⟩ | ⟨a, len, cap, m, n, D, Pl, rfl, _, h1, h2, h3, _, h5⟩
      · exact .inl rfl
      · refine .inr ⟨a, len, cap, rfl, h1, h2, fun i hi => ?_⟩
        obtain ⟨cs', h6, h7⟩ := h5 i (by simpa [h3] using hi)
        rw [hc] at h6
        exact ⟨cs', h6, ih.1 E _ _ _ he h7⟩
    · cases hT
  | arr n e ih =>
    refine ⟨fun T fuel cs x hT h => ?_, fun l o m cs h => by cases (show false = true from h)⟩
    simp only [Ty.ok] at hT
    split at hT
    · rename_i n' E hu
      simp only [Bool.and_eq_true, Nat.beq_eq] at hT
      obtain ⟨⟨⟨rfl, hc⟩, hcT⟩, he⟩ := hT
      obtain ⟨xs, m, _, _, hl, hx, hall⟩ := DataW.trod_array hu h
      refine ⟨by rw [hl, hcT], fun i hi => ?_⟩
      have h2 := hall i hi
      rw [List.getElem?_eq_getElem (by omega), hc] at h2
      exact ih.1 E _ _ _ he h2
    · cases hT
  | unit =>
    refine ⟨fun T fuel cs x hT h => ?_, fun l o m cs h hl _ => ?_⟩
    · simp only [Ty.ok] at hT
      split at hT
      · rename_i fs hu
        simp only [Bool.and_eq_true, Nat.beq_eq] at hT
        obtain ⟨xs, m, _, _, hl, _⟩ := DataW.trod_struct hu h
        exact List.length_eq_zero_iff.1 (by rw [hl, hT.2])
      · cases hT
    · exact List.drop_eq_nil_of_le (by simp [Ty.cells] at hl; omega)
  | pair f r ihf ihr =>
    refine ⟨fun T fuel cs x hT h => ?_, fun l o m cs h hl hall => ?_⟩
    · simp only [Ty.ok] at hT
      split at hT
      · rename_i fs hu
        simp only [Bool.and_eq_true, Nat.beq_eq] at hT
        obtain ⟨hcT, hT⟩ := hT
        obtain ⟨xs, m, _, _, hl, hx, hall⟩ := DataW.trod_struct hu h
        have hmem : ∀ y ∈ fs.toList, ∃ x, DataW.trod enc P w 0 (fun _ => true) held m y.type ((cs.drop y.offset).take (P.cellsOf y.type)) = some x := fun y hy => by
          obtain ⟨i, hi, rfl⟩ := List.getElem_of_mem hy
          have h2 := hall i fs.toList[i] (by rw [← Array.getElem?_toList]; exact List.getElem?_eq_getElem hi)
          have hi' : i < xs.length := by rw [hx]; simpa using hi
          rw [List.getElem?_eq_getElem hi'] at h2
          exact ⟨_, h2⟩
        split at hT
        · cases hT
        · rename_i y l hfs
          simp only [Bool.and_eq_true, Nat.beq_eq] at hT
          obtain ⟨⟨⟨h1, h2⟩, h3⟩, h4⟩ := hT
          rw [hfs] at hmem
          obtain ⟨x1, hx1⟩ := hmem y List.mem_cons_self
          rw [h1, h2, List.drop_zero] at hx1
          exact ⟨ihf.1 _ _ _ _ h3 hx1, ihr.2 l f.cells m cs h4 (by rw [hl, hcT]) fun z hz => hmem z (List.mem_cons_of_mem _ hz)⟩
      · cases hT
    · simp only [Ty.ok] at h
      split at h
      · cases h
      · rename_i y l
        simp only [Bool.and_eq_true, Nat.beq_eq] at h
        obtain ⟨⟨⟨h1, h2⟩, h3⟩, h4⟩ := h
        obtain ⟨x1, hx1⟩ := hall y List.mem_cons_self
        rw [h1, h2] at hx1
        refine ⟨ihf.1 _ _ _ _ h3 hx1, ?_⟩
        rw [List.drop_drop]
        exact ihr.2 l (o + f.cells) m cs h4 (by rw [hl]; simp [Ty.cells]; omega) fun z hz => hall z (List.mem_cons_of_mem _ hz)
/-- An argument: one cell, or parts. -/
theorem open_one {ty : Ty} {T : TypeId} {v : Value} {d : DataW H} {ps : List MemPlace} (hT : ty.ok P (.inl T) = true) (h : DataW.Trod enc P w 0 (fun _ => true) held T v d ps) : ty.is w v.cells.toList := by
  obtain ⟨m, hm⟩ := h
  exact (trod_is ty).1 T m _ _ hT hm
theorem okWide_agg {W : World} {r : Reach} {base : Nat} {T n E : TypeId} {v : Value} (ht : P.underlying T = some (.array n E)) (h : Value.okWide P W r base T v) : ∃ cs, v = .agg cs := by
  simp only [Value.okWide, ht] at h
  obtain ⟨cs, h1, _⟩ := h
  exact ⟨cs, h1⟩
def Ty.word : Ty := .arr 4 (.int .u64)
theorem wf_u64 {n : Int} (h : (Lit.int .u64 n).wf = true) : ∃ k : Nat, n = (k : Int) ∧ k < 18446744073709551616 := by
  simp [Lit.wf, IntKind.min, IntKind.max, IntKind.signed, IntKind.bits] at h
  exact ⟨n.toNat, by omega, by omega⟩
theorem is_word {cs : List Value} (h : Ty.word.is w cs) : ∃ a, a < M256 ∧ cs = (wc a).toList := by
  obtain ⟨hl, h⟩ := h
  obtain ⟨n0, e0, w0⟩ := h 0 (by decide)
  obtain ⟨n1, e1, w1⟩ := h 1 (by decide)
  obtain ⟨n2, e2, w2⟩ := h 2 (by decide)
  obtain ⟨n3, e3, w3⟩ := h 3 (by decide)
  obtain ⟨k0, rfl, h0⟩ := wf_u64 w0
  obtain ⟨k1, rfl, h1⟩ := wf_u64 w1
  obtain ⟨k2, rfl, h2⟩ := wf_u64 w2
  obtain ⟨k3, rfl, h3⟩ := wf_u64 w3
  match cs, hl with
  | [x0, x1, x2, x3], _ =>
    simp [Ty.cells] at e0 e1 e2 e3
    subst e0 e1 e2 e3
    refine ⟨k0 + 18446744073709551616 * k1 + 340282366920938463463374607431768211456 * k2 + 6277101735386680763835789423207666416102355444464034512896 * k3, by simp only [M256]; omega, ?_⟩
    rw [← wc_val h0 h1 h2 h3 rfl]
theorem open_word {W : World} {r : Reach} {base : Nat} {T : TypeId} {E : TypeId} {v : Value} {d : DataW H} {ps : List MemPlace} (ht : P.underlying T = some (.array 4 E)) (hT : Ty.word.ok P (.inl T) = true) (hv : Value.okWide P W r base T v) (h : DataW.Trod enc P w 0 (fun _ => true) held T v d ps) : ∃ a, a < M256 ∧ v = wv a := by
  obtain ⟨cs, rfl⟩ := okWide_agg ht hv
  obtain ⟨a, ha, he⟩ := is_word (open_one hT h)
  exact ⟨a, ha, by rw [wv]; exact congrArg Value.agg (Array.toList_inj.1 he)⟩
end op
end Go.Proofs.YtbhicncgjplnoaaDoor.SL

/-
  A SMALL LOGIC OVER THE KIT's WALK, PART M: rows that are read; rows that a call hands back.
  Conditions: none; over any program.
-/
namespace Go.Proofs.YtbhicncgjplnoaaDoor.SL
set_option linter.unusedVariables false
set_option linter.unusedSimpArgs false
open Go Go.RowKit

/-- A slice's block lies in memory, if there is room in it. -/
def Lies (w : World) (v : Value) : Prop := ∀ p n c, v = .slice p n c → p = none ∨ c = 0 ∨ ∃ b off o, p = some ⟨b, off, none⟩ ∧ w.heap[b]? = some o
theorem Lies.own {w : World} {b off n c : Nat} {o : Obj} (h : w.heap[b]? = some o) : Lies w (.slice (some ⟨b, off, none⟩) n c) := fun _ _ _ h' => by cases h'; exact .inr (.inr ⟨_, _, _, rfl, h⟩)
/-- A row that may be read: n elements, each of so many cells; xs: all of their cells. -/
structure RowAt (w : World) (sz : Nat) (v : Value) (n : Nat) (xs : List Value) : Prop where
  form : ∃ p c, v = .slice p n c ∧ n ≤ c ∧ c ≤ maxLen
  len : xs.length = n * sz
  pos : 0 < n → ∃ b off c cs E fr, v = .slice (some ⟨b, off, none⟩) n c ∧ w.heap[b]? = some (.cells cs E fr) ∧ (cs.toList.drop off).take (n * sz) = xs
  lies : Lies w v

theorem RowAt.nil {w : World} {sz : Nat} : RowAt w sz (.slice none 0 0) 0 [] := ⟨⟨_, _, rfl, Nat.le_refl _, by simp [maxLen]⟩, by simp, (fun h => nomatch h), (fun _ _ _ h => by cases h; exact .inl rfl)⟩

/-- A row of facts, read. -/
theorem IsRow.at {E : TypeId} {sz n : Nat} {v : Value} {xs : List Value} {seg pre post : Fs} {w0 w : World} {S : List Nat} (h : IsRow E sz v n xs seg) (hs : St w0 S (pre ++ (seg ++ post)) w) : RowAt w sz v n xs := by
  cases h with
  | nil => exact .nil
  | @own g _ cap cur _ hn hm hc ht hl =>
    have hg := (hs.own (g, .cells cur E (0, 0)) (List.mem_append_right _ (by simp))).2
    exact ⟨⟨_, _, rfl, hn, hm⟩, hl, fun _ => ⟨g, 0, cap, cur, E, _, rfl, hg, by simpa using ht⟩, .own hg⟩

theorem cut_get {cs : Array Value} {off m j : Nat} {xs : List Value} {v : Value} (h : (cs.toList.drop off).take m = xs) (hv : xs[j]? = some v) : cs[off + j]? = some v := by
  subst h
  rw [List.getElem?_take, List.getElem?_drop] at hv
  split at hv
  · simpa using hv
  · cases hv

/-- The place of an element in a row of parts. -/
theorem flat_get {α : Type} {g : α → List Value} {sz : Nat} : ∀ {l : List α} (_ : ∀ a ∈ l, (g a).length = sz) {i j : Nat} {a : α} {v : Value}, l[i]? = some a → (g a)[j]? = some v → (l.flatMap g)[i * sz + j]? = some v
  | [], _, i, j, a, v, hi, _ => by simp at hi
  | x :: l, hl, 0, j, a, v, hi, hj => by
    simp only [List.getElem?_cons_zero, Option.some.injEq] at hi
    subst hi
    have hlt := (List.getElem?_eq_some_iff.1 hj).1
    rw [List.flatMap_cons, List.getElem?_append_left (by omega)]
    simpa using hj
  | x :: l, hl, i + 1, j, a, v, hi, hj => by
    have hx := hl x List.mem_cons_self
    rw [List.flatMap_cons, List.getElem?_append_right (by rw [hx, Nat.succ_mul]; omega), hx, show (i + 1) * sz + j - sz = i * sz + j by rw [Nat.succ_mul]; omega]
    exact flat_get (fun a ha => hl a (List.mem_cons_of_mem _ ha)) (by simpa using hi) hj
theorem flat_len {α : Type} {g : α → List Value} {sz : Nat} : ∀ {l : List α} (_ : ∀ a ∈ l, (g a).length = sz), (l.flatMap g).length = l.length * sz
  | [], _ => by simp
  | x :: l, hl => by rw [List.flatMap_cons, List.length_append, hl x List.mem_cons_self, flat_len fun a ha => hl a (List.mem_cons_of_mem _ ha), List.length_cons, Nat.succ_mul]; omega

section rd
variable {P : Program} {T : TypeId} {cs : Array Value} {E : TypeId} {fr : Nat × Nat} {off m sz i : Nat} {α : Type} {g : α → List Value} {l : List α} {a : α}
/-- An element of one cell. -/
theorem Rd.elem1 [AgI P T false] {v : Value} (h : (cs.toList.drop off).take m = l.flatMap g) (hl : ∀ a ∈ l, (g a).length = 1) (hi : l[i]? = some a) (hv : g a = [v]) : Rd P T (.cells cs E fr) (off + i * 1) v :=
  Rd.one (cut_get h (by have := flat_get hl hi (j := 0) (v := v) (by simp [hv]); simpa using this))
/-- An element of parts. -/
theorem Rd.elemA {n : Nat} {z : Value} [AgI P T true] [InfoI P T n z] (h : (cs.toList.drop off).take m = l.flatMap g) (hl : ∀ a ∈ l, (g a).length = n) (hi : l[i]? = some a) : Rd P T (.cells cs E fr) (off + i * n) (.agg (g a).toArray) :=
  Rd.part (hl a (List.mem_of_getElem? hi)) fun j v hv => by rw [Nat.add_assoc]; exact cut_get h (flat_get hl hi hv)
end rd

/-- A row that came in: its elements' shapes. -/
theorem cells?_get {w : World} {b : Nat} {a : Addr} {n : Nat} {cs' : List Value} (h : w.cells? b a n = some cs') : cs'.length = n ∧ ∀ j, j < n → w.cell? (a.add j) = cs'[j]? := by
  unfold World.cells? at h
  split at h
  · exact ⟨by simpa using mapM_some_length h, fun j hj => mapM_some_get h j j (by simp [hj])⟩
  · cases h
theorem cell?_inv {w : World} {a : Addr} {v : Value} (h : w.cell? a = some v) : ∃ b off cs E fr, a = ⟨b, off, none⟩ ∧ w.heap[b]? = some (.cells cs E fr) ∧ cs[off]? = some v := by
  obtain ⟨b, off, spot⟩ := a
  unfold World.cell? at h
  split at h
  · rename_i c E fr hb
    split at h
    · cases h
    · rename_i hs
      cases spot with
      | some _ => simp at hs
      | none => exact ⟨b, off, c, E, fr, rfl, hb, h⟩
  · cases h
theorem add_ne {a : Addr} {n : Nat} (h : a.spot = none) : a.add n = ⟨a.block, a.off + n, none⟩ := by
  obtain ⟨b, o, s⟩ := a
  cases h
  exact addr_add b o n
theorem sl_rows {α : Type} {g : α → List Value} {Q : α → Prop} {e : Ty} {w : World} {cs : List Value} {sz : Nat} (hc : e.cells = sz) (h0 : 0 < sz) (he : ∀ cs', e.is w cs' → ∃ x, Q x ∧ cs' = g x) (h : (Ty.sl e).is w cs) :
    ∃ (v : Value) (l : List α), cs = [v] ∧ (∀ x ∈ l, Q x ∧ (g x).length = sz) ∧ RowAt w sz v l.length (l.flatMap g) := by
  subst hc
  rcases h with rfl | ⟨a, n, c, rfl, hn, hm, hall⟩
  · exact ⟨_, [], rfl, (fun x hx => nomatch hx), .nil⟩
  · have key : ∀ k, k ≤ n → ∃ l : List α, l.length = k ∧ (∀ x ∈ l, Q x ∧ (g x).length = e.cells) ∧ ∀ i j v, i < k → j < e.cells → (l.flatMap g)[i * e.cells + j]? = some v → w.cell? ((a.add (i * e.cells)).add j) = some v := by
      intro k
      induction k with
      | zero => intro _; exact ⟨[], rfl, by simp, fun i j v hi => by omega⟩
      | succ k ih =>
        intro hk
        obtain ⟨l, hl, hq, hget⟩ := ih (by omega)
        obtain ⟨cs', h1, h2⟩ := hall k (by omega)
        obtain ⟨x, hx, rfl⟩ := he _ h2
        obtain ⟨h3, h4⟩ := cells?_get h1
        refine ⟨l ++ [x], by simp [hl], fun y hy => ?_, fun i j v hi hj hv => ?_⟩
        · rcases List.mem_append.1 hy with hy | hy
          · exact hq y hy
          · obtain rfl : y = x := by simpa using hy
            exact ⟨hx, h3⟩
        · have hfl : (l.flatMap g).length = k * e.cells := by rw [flat_len fun a ha => (hq a ha).2, hl]
          rw [List.flatMap_append] at hv
          by_cases hik : i < k
          · rw [List.getElem?_append_left (by rw [hfl]; calc i * e.cells + j < i * e.cells + e.cells := by omega
              _ = (i + 1) * e.cells := by rw [Nat.succ_mul]
              _ ≤ k * e.cells := Nat.mul_le_mul_right _ hik)] at hv
            exact hget i j v hik hj hv
          · obtain rfl : i = k := by omega
            rw [List.getElem?_append_right (by omega), hfl, show i * e.cells + j - i * e.cells = j by omega] at hv
            rw [h4 j hj]
            simpa using hv
    obtain ⟨l, hl, hq, hget⟩ := key n (Nat.le_refl _)
    have hfl : (l.flatMap g).length = n * e.cells := by rw [flat_len fun a ha => (hq a ha).2, hl]
    have hlies : Lies w (.slice (some a) n c) := fun p' n' c' he => by
      cases he
      rcases Nat.eq_zero_or_pos c with hc0 | hc0
      · exact .inr (.inl hc0)
      · obtain ⟨cs', h1, _⟩ := hall 0 hc0
        obtain ⟨h3, h4⟩ := cells?_get h1
        have h5 := h4 0 h0
        rw [List.getElem?_eq_getElem (by omega)] at h5
        obtain ⟨b, off, ocs, E, fr, ha, hb, _⟩ := cell?_inv h5
        have ha' : a = ⟨b, off, none⟩ := by simpa [Addr.add] using ha
        subst ha'
        exact .inr (.inr ⟨_, _, _, rfl, hb⟩)
    refine ⟨_, l, rfl, hq, ⟨⟨_, _, by rw [hl], by omega, hm⟩, by rw [hl, hfl], fun hpos => ?_, hlies⟩⟩
    rw [hl] at hpos ⊢
    have hlt : 0 < (l.flatMap g).length := by rw [hfl]; exact Nat.mul_pos hpos h0
    obtain ⟨b, off, ocs, E, fr, ha, hb, hcell⟩ := cell?_inv (hget 0 0 _ hpos h0 (by rw [Nat.zero_mul]; exact List.getElem?_eq_getElem hlt))
    have ha' : a = ⟨b, off, none⟩ := by simpa [Addr.add] using ha
    subst ha'
    refine ⟨b, off, c, ocs, E, fr, rfl, hb, ?_⟩
    apply List.ext_getElem?
    intro m
    rw [List.getElem?_take, List.getElem?_drop]
    split
    · rename_i hm'
      have h5 : m / e.cells < n := Nat.div_lt_of_lt_mul (by rw [Nat.mul_comm]; exact hm')
      have h6 : m % e.cells < e.cells := Nat.mod_lt _ h0
      have h7 : m / e.cells * e.cells + m % e.cells = m := by rw [Nat.mul_comm]; exact Nat.div_add_mod m _
      have h8 := hget (m / e.cells) (m % e.cells) _ h5 h6 (by rw [h7]; exact List.getElem?_eq_getElem (by omega))
      rw [addr_add, addr_add, Nat.add_assoc, h7, cell_of hb] at h8
      rw [List.getElem?_eq_getElem (l := l.flatMap g) (by omega)]
      simpa using h8
    · rw [List.getElem?_eq_none (by omega)]
end Go.Proofs.YtbhicncgjplnoaaDoor.SL

/-
  A SMALL LOGIC OVER THE KIT's WALK, PART N: rows cut, made, put behind one another; calls that hand back rows.
  Conditions: none; over any program.
-/
namespace Go.Proofs.YtbhicncgjplnoaaDoor.SL
set_option linter.unusedVariables false
set_option linter.unusedSimpArgs false
open Go Go.RowKit

/-- x[k:] of a slice. -/
def cutAt (p : Option Addr) (k n c sz : Nat) : Value := .slice (if c = k then p else p.map (·.add (k * sz))) (n - k) (c - k)

theorem RowAt.take {w : World} {sz n c k : Nat} {p : Option Addr} {xs : List Value} (h : RowAt w sz (.slice p n c) n xs) (hk : k ≤ n) : RowAt w sz (.slice p k c) k (xs.take (k * sz)) := by
  obtain ⟨p', c', he, h1, h2⟩ := h.form
  cases he
  refine ⟨⟨_, _, rfl, by omega, h2⟩, ?_, fun h0 => ?_, fun _ _ _ he => by cases he; exact h.lies _ _ _ rfl⟩
  · rw [List.length_take, h.len]; exact Nat.min_eq_left (Nat.mul_le_mul_right _ hk)
  · obtain ⟨b, off, c', cs, E, fr, he, hb, hx⟩ := h.pos (by omega)
    cases he
    refine ⟨b, off, c, cs, E, fr, rfl, hb, ?_⟩
    rw [← hx, List.take_take, Nat.min_eq_left (Nat.mul_le_mul_right _ hk)]
theorem RowAt.drop {w : World} {sz n c k : Nat} {p : Option Addr} {xs : List Value} (h : RowAt w sz (.slice p n c) n xs) (hk : k ≤ n) : RowAt w sz (cutAt p k n c sz) (n - k) (xs.drop (k * sz)) := by
  obtain ⟨p', c', he, h1, h2⟩ := h.form
  cases he
  refine ⟨⟨_, _, rfl, by omega, by omega⟩, ?_, fun h0 => ?_, fun p' n' c' he => by
    unfold cutAt at he
    simp only [Value.slice.injEq] at he
    obtain ⟨e1, _, e3⟩ := he
    by_cases hck : c = k
    · exact .inr (.inl (by omega))
    · rw [if_neg hck] at e1
      rcases h.lies _ _ _ rfl with h | h | ⟨b, off, o, h, hb⟩
      · subst h; exact .inl (by simpa using e1.symm)
      · exact .inr (.inl (by omega))
      · subst h; exact .inr (.inr ⟨b, off + k * sz, o, by simpa [addr_add] using e1.symm, hb⟩)⟩
  · rw [List.length_drop, h.len, Nat.sub_mul]
  · obtain ⟨b, off, c', cs, E, fr, he, hb, hx⟩ := h.pos (by omega)
    cases he
    refine ⟨b, off + k * sz, c - k, cs, E, fr, ?_, hb, ?_⟩
    · unfold cutAt; rw [if_neg (by omega)]; simp [addr_add]
    · rw [← hx, List.drop_take, List.drop_drop, Nat.sub_mul]
theorem IsRow.take {E : TypeId} {sz n c k : Nat} {p : Option Addr} {xs : List Value} {seg : Fs} (h : IsRow E sz (.slice p n c) n xs seg) (hk : k ≤ n) : IsRow E sz (.slice p k c) k (xs.take (k * sz)) seg := by
  cases h with
  | nil => obtain rfl : k = 0 := by omega
           simpa using IsRow.nil
  | own hn hm hc ht hl =>
    refine .own (by omega) hm hc ?_ ?_
    · rw [← ht, List.take_take, Nat.min_eq_left (Nat.mul_le_mul_right _ hk)]
    · rw [List.length_take, hl]; exact Nat.min_eq_left (Nat.mul_le_mul_right _ hk)

section cut
variable {P : Program} {e : Env} {T E : TypeId} {x lo hi : Operand} {p : Option Addr} {n c : Nat}
theorem elem_un (h : P.underlying T = some (.slice E)) : P.underlying T = some (.slice (P.elem T)) := by
  rw [h, Program.elem, h]
theorem elem_eq (h : P.underlying T = some (.slice E)) : P.elem T = E := by rw [Program.elem, h]
/-- x[:k] -/
theorem ValP.cutTo {ik : IntKind} {k sz : Nat} {z : Value} (hU : UnI P T (.slice E)) (hI : InfoI P E sz z) (hx : e.ev x = some (.slice p n c)) (hh : e.ev hi = some (.int ik (k : Int))) (hk : k ≤ c) : ValP P e [] (.slice T x none (some hi) none) (.slice p k c) := fun ρ w hρ _ d t pos af g => by
  have hu : P.underlying T = some (.slice E) := hU.un
  have h1 := run_slice_h (P := P) w T p n c (elem_un hu) ik (k : Int) (by omega) (by omega)
  rw [elem_eq hu, run_size] at h1
  have h2 : (Instr.sliceAt T (.slice p n c) none (some (.int ik (k : Int))) none).run P w = .ok (.slice p k c) w := by
    rw [run_sliceAt_slice (w := w) T _ _ _ _ (elem_un hu), h1]
    simp only [Result.andThen_ok, sliced, Nat.zero_mul, Int.toNat_natCast, Nat.sub_zero]
    cases p with
    | none => simp
    | some a => simp [Addr.add]
  simp [execOp, hρ x _ hx, hρ hi _ hh, h2]
/-- x[k:] -/
theorem ValP.cutFrom {il : IntKind} {k sz : Nat} {z : Value} (hU : UnI P T (.slice E)) (hI : InfoI P E sz z) (hx : e.ev x = some (.slice p n c)) (hl : e.ev lo = some (.int il (k : Int))) (hk : k ≤ n) : ValP P e [] (.slice T x (some lo) none none) (cutAt p k n c sz) := fun ρ w hρ _ d t pos af g => by
  have hu : P.underlying T = some (.slice E) := hU.un
  have h1 := run_slice_l (P := P) w T p n c (elem_un hu) il (k : Int) (by omega) (by omega)
  rw [elem_eq hu, run_size] at h1
  have h2 : (Instr.sliceAt T (.slice p n c) (some (.int il (k : Int))) none none).run P w = .ok (cutAt p k n c sz) w := by
    rw [run_sliceAt_slice (w := w) T _ _ _ _ (elem_un hu), h1]
    simp only [Result.andThen_ok, sliced, Int.toNat_natCast, cutAt]
  simp [execOp, hρ x _ hx, hρ lo _ hl, h2]
end cut

section mk
variable {C : Cu} {ops : Array Oper} {Q : Post} {rest : List Oper} {e : Env} {fs : Fs} {d : Nat} {t : TypeId} {pos : String} {af : Array Edge}
theorem NewP.makeSlice {P : Program} {T E sz bytes : Nat} {z : Value} {x : Operand} {ik : IntKind} {n : Nat} (hU : UnI P T (.slice E)) (hI : InfoI P E sz z) (hB : BytI P E bytes) (hx : e.ev x = some (.int ik (n : Int))) (hb : n * bytes ≤ 281474976710656) (h63 : n ≤ 9223372036854775807) :
    NewP P e (.makeSlice T x x) (.sl n n) (.cells (madeCells z.cells (n * sz)) E (0, 0)) := fun ρ w hρ d t pos af g => by
  obtain ⟨i, i1, i2, i3, i4⟩ := info_all (P := P) (T := E)
  have hr := run_make (P := P) w T E i z hU.un i1 i3 ik ik (n : Int) (n : Int) (by omega) (by omega) (by rw [i4]; have : ((n * bytes : Nat) : Int) ≤ 281474976710656 := by omega
                                                                                                         rwa [Int.natCast_mul, Int.mul_comm] at this) (by omega)
  simp only [Int.toNat_natCast, i2] at hr
  simp [execOp, hρ x _ hx, hr, Sh.val]
theorem made_one {z : Value} {n : Nat} (hz : z.cells = #[z]) : (madeCells z.cells (n * 1)).toList = List.replicate n z := by
  rw [hz, Nat.mul_one]
  apply List.ext_getElem?
  intro i
  simp only [madeCells]
  rw [Array.getElem?_toList, Array.getElem?_map, List.getElem?_replicate]
  split
  · rename_i h
    rw [Array.getElem?_eq_getElem (by simpa using h)]
    simp [Nat.mod_one]
  · rename_i h
    rw [Array.getElem?_eq_none (by simpa using h)]
    rfl
/-- **make** of n elements of one cell each. -/
theorem LW.makeRow {T E bytes : Nat} {z : Value} {x : Operand} {ik : IntKind} {n : Nat} (hd : Nat.blt d C.N = true) (hU : UnI C.P T (.slice E)) (hI : InfoI C.P E 1 z) (hB : BytI C.P E bytes) (hz : z.cells = #[z]) (hx : e.ev x = some (.int ik (n : Int))) (hb : n * bytes ≤ 281474976710656) (h63 : n ≤ maxLen)
    (k : ∀ v seg, IsRow E 1 v n (List.replicate n z) seg → LW C ops Q rest ((d, v) :: e) (seg ++ fs)) : LW C ops Q (⟨some d, .makeSlice T x x, t, pos, af, none⟩ :: rest) e fs :=
  LW.n0 hd rfl (.makeSlice hU hI hB hx hb (by simpa [maxLen] using h63)) fun g => k _ [(g, _)] (.own (Nat.le_refl _) h63 (by simp [madeCells]) (by rw [made_one hz]; simp) (by simp))

/-- **append(s, x...)**: s a row of ours, x a row that may be read. -/
theorem LW.appendAt {s x : Operand} {tys : Array TypeId} {T E : TypeId} {size bytes : Nat} {z v vx : Value} {n m : Nat} {xs news : List Value} {seg pre post : Fs} (hd : Nat.blt d C.N = true) (hT : tys = #[T, T]) (hU : UnI C.P T (.slice E)) (hI : InfoI C.P E size z) (hB : BytI C.P E bytes)
    (hz : z.cells.size = size) (hs : e.ev s = some v) (hx : e.ev x = some vx) (hseg : AtSeg fs pre seg post) (hrow : IsRow E size v n xs seg) (hat : ∀ w, St C.w0 C.S fs w → RowAt w size vx m news)
    (h1 : ∀ u ∈ news, u.oneCell' = true) (hm : 0 < m) (h63 : n + m ≤ maxLen) (hb : (n + m) * bytes ≤ 140737488355328)
    (k : ∀ v' seg', IsRow E size v' (n + m) (xs ++ news) seg' → ∃ fs', AtSeg fs' pre seg' post ∧ LW C ops Q rest ((d, v') :: e) fs') :
    LW C ops Q (⟨some d, .call { callee := .builtin .append, args := #[s, x], argTypes := tys }, t, pos, af, none⟩ :: rest) e fs := fun a w hsat => by
  subst hT
  obtain ⟨i, i1, i2, i3, i4⟩ := info_all (P := C.P) (T := E)
  have hA := hat w hsat.st
  obtain ⟨b, off, c, cs, E', fr, rfl, hblk, hnx⟩ := hA.pos hm
  have hst := hsat.st
  rw [hseg.eq] at hst
  obtain ⟨v', seg', w', hr, hrow', hw'⟩ := row_append (P := C.P) (ty := t) hU.un i1 i3 i2 hz hrow hst ⟨b, off, none⟩ m c news hA.len (fun j u hj => by
    rw [addr_add, cell_of hblk]; exact cut_get hnx hj) h1 hm h63 (by rw [i4]; exact hb)
  obtain ⟨fs', hat', hK⟩ := k v' seg' hrow'
  have hrun : (execOp a.eval ⟨some d, .call { callee := .builtin .append, args := #[s, x], argTypes := #[T, T] }, t, pos, af, none⟩).run C.P w = .ok (.value v') w' := by
    simp [execOp, resolve, invoke, builtin, hsat.env.ev hs, hsat.env.ev hx, hr]
  refine wpListIn_take (wanted_none _ rfl _) ⟨fun _ _ => trivial, ?_⟩
  rw [semAt_FR (fun c h => by cases h), hrun]
  exact hK _ _ ⟨hsat.env.put hd, by rw [hat'.eq]; exact hw'⟩
theorem LW.lay1 {T E sz : TypeId} {z v : Value} {x : Operand} (hd : Nat.blt d C.N = true) (hU : UnI C.P T (.slice E)) (hI : InfoI C.P E sz z) (hz : z.cells.size = sz) (hs : Nat.blt 0 sz = true) (hs' : Nat.ble sz 1000000 = true) (hx : e.ev x = some v) (hv : v.cells = #[v]) (h1 : sz = 1)
    (k : ∀ b, LW C ops Q rest ((d, .slice (some ⟨b, 0, none⟩) 1 1) :: e) ((b, .cells #[v] E (0, 0)) :: fs)) : LW C ops Q (⟨some d, .buildSlice T 1 #[(0, x)], t, pos, af, none⟩ :: rest) e fs := by
  refine LW.n0 hd rfl (NewP.buildS1 hz hs hs' hx (by rw [hv, h1]; rfl)) fun b => ?_
  rw [hv]; exact k b
theorem LW.layA {T E sz : TypeId} {z : Value} {c : Array Value} {x : Operand} (hd : Nat.blt d C.N = true) (hU : UnI C.P T (.slice E)) (hI : InfoI C.P E sz z) (hz : z.cells.size = sz) (hs : Nat.blt 0 sz = true) (hs' : Nat.ble sz 1000000 = true) (hx : e.ev x = some (.agg c)) (hc : c.size = sz)
    (k : ∀ b, LW C ops Q rest ((d, .slice (some ⟨b, 0, none⟩) 1 1) :: e) ((b, .cells c E (0, 0)) :: fs)) : LW C ops Q (⟨some d, .buildSlice T 1 #[(0, x)], t, pos, af, none⟩ :: rest) e fs :=
  LW.n0 hd rfl (NewP.buildS1 hz hs hs' hx hc) k
/-- A call that hands back facts of new blocks. -/
theorem LW.callR {fo : Operand} {args : Array Operand} {tys : Array TypeId} {f : FuncId} {vs : List Value} {Φ : Value → Fs → Prop} (hd : Nat.blt d C.N = true) (hf : e.ev fo = some (.func (.func f) #[] #[])) (hF : FnI C.P f) (ha : ArgsOk e args.toList vs)
    (hc : ∀ w, St C.w0 C.S fs w → Calls C.P f vs.toArray w (RetG w [] Φ)) (kk : ∀ v gs, Φ v gs → LW C ops Q rest ((d, v) :: e) (gs ++ fs)) : LW C ops Q (⟨some d, .call { callee := .value fo, args := args, argTypes := tys }, t, pos, af, none⟩ :: rest) e fs :=
  LW.callN hd hf hF ha (fun w hs => by rw [arr_id]; exact hc w hs) kk
end mk
section dwl
variable {C : Cu} {ops : Array Oper} {Q : Post} {tl rest : List Oper} {e : Env} {ts : Ts} {μ : Mu} {k d : Nat} {op : Op} {t : TypeId} {pos : String} {af : Array Edge} {g : Option (Nat × Bool)}
theorem DW.lay1 {T E sz : TypeId} {z v : Value} {x : Operand} (hk : ops[k]? = some ⟨some d, .buildSlice T 1 #[(0, x)], t, pos, af, g⟩) (hm : μ k = none) (hd : Nat.blt d C.N = true) (hg : WantT ops e g) (hU : UnI C.P T (.slice E)) (hI : InfoI C.P E sz z) (hz : z.cells.size = sz) (hs : Nat.blt 0 sz = true) (hs' : Nat.ble sz 1000000 = true) (hx : e.ev x = some v) (hv : v.cells = #[v]) (h1 : sz = 1)
    (kk : ∀ b, DW C ops μ Q tl rest (k + 1) ((d, .slice (some ⟨b, 0, none⟩) 1 1) :: e) ((b, .cells #[v] E (0, 0), [k], []) :: ts)) : DW C ops μ Q tl (⟨some d, .buildSlice T 1 #[(0, x)], t, pos, af, g⟩ :: rest) k e ts := by
  refine DW.new hk hm hd hg rfl (NewP.buildS1 hz hs hs' hx (by rw [hv, h1]; rfl)) fun b => ?_
  rw [hv]; exact kk b
theorem DW.layA {T E sz : TypeId} {z : Value} {c : Array Value} {x : Operand} (hk : ops[k]? = some ⟨some d, .buildSlice T 1 #[(0, x)], t, pos, af, g⟩) (hm : μ k = none) (hd : Nat.blt d C.N = true) (hg : WantT ops e g) (hU : UnI C.P T (.slice E)) (hI : InfoI C.P E sz z) (hz : z.cells.size = sz) (hs : Nat.blt 0 sz = true) (hs' : Nat.ble sz 1000000 = true) (hx : e.ev x = some (.agg c)) (hc : c.size = sz)
    (kk : ∀ b, DW C ops μ Q tl rest (k + 1) ((d, .slice (some ⟨b, 0, none⟩) 1 1) :: e) ((b, .cells c E (0, 0), [k], []) :: ts)) : DW C ops μ Q tl (⟨some d, .buildSlice T 1 #[(0, x)], t, pos, af, g⟩ :: rest) k e ts :=
  DW.new hk hm hd hg rfl (NewP.buildS1 hz hs hs' hx hc) kk
end dwl
/-- A row of a block that is known. -/
theorem RowAt.us {w : World} {g n cap sz : Nat} {cur : Array Value} {E : TypeId} {fr : Nat × Nat} {us : Fs} {xs : List Value} (hu : ∀ p ∈ (g, Obj.cells cur E fr) :: us, w.heap[p.1]? = some p.2) (hn : n ≤ cap) (hm : cap ≤ maxLen) (ht : cur.toList.take (n * sz) = xs) (hl : xs.length = n * sz) : RowAt w sz (.slice (some ⟨g, 0, none⟩) n cap) n xs :=
  ⟨⟨_, _, rfl, hn, hm⟩, hl, fun _ => ⟨g, 0, cap, cur, E, fr, rfl, hu _ List.mem_cons_self, by simpa using ht⟩, .own (hu _ List.mem_cons_self)⟩
theorem ValP.indexAddrSL {P : Program} {e : Env} {T : TypeId} {x i : Operand} {b off len cap : Nat} {E : TypeId} {k : Nat} {ik : IntKind} {n : Nat} {z : Value} [UnI P T (.slice E)] [InfoI P E n z] (hx : e.ev x = some (.slice (some ⟨b, off, none⟩) len cap)) (hi : e.ev i = some (.int ik (OfNat.ofNat k))) (_ : k = k) (hk : (OfNat.ofNat k : Nat) < len) :
    ValP P e [] (.indexAddr T x i) (.pointer (some ⟨b, off + (OfNat.ofNat k : Nat) * n, none⟩)) := .indexAddrS hx hi rfl hk
section mm
variable {P : Program} {e : Env} {x y : Operand} {tys : Array TypeId} {m n : Nat} {ik : IntKind}
theorem ValP.maxZ (hx : e.ev x = some (.int ik (m : Int))) (hy : e.ev y = some (.int ik (n : Int))) : ValP P e [] (.call { callee := .builtin .max, args := #[x, y], argTypes := tys }) (.int ik ((max m n : Nat) : Int)) := fun ρ w hρ _ d t pos af g => by
  have h : (if (n : Int) > (m : Int) then (n : Int) else (m : Int)) = ((max m n : Nat) : Int) := by split <;> omega
  have h2 := run_max_int2 (P := P) (w := w) tys t ik ik (m : Int) (n : Int)
  rw [h] at h2
  simp [execOp, resolve, invoke, builtin, hρ x _ hx, hρ y _ hy, h2]
theorem ValP.minZ (hx : e.ev x = some (.int ik (m : Int))) (hy : e.ev y = some (.int ik (n : Int))) : ValP P e [] (.call { callee := .builtin .min, args := #[x, y], argTypes := tys }) (.int ik ((min m n : Nat) : Int)) := fun ρ w hρ _ d t pos af g => by
  have h : (if (n : Int) < (m : Int) then (n : Int) else (m : Int)) = ((min m n : Nat) : Int) := by split <;> omega
  have h2 := run_min_int2 (P := P) (w := w) tys t ik ik (m : Int) (n : Int)
  rw [h] at h2
  simp [execOp, resolve, invoke, builtin, hρ x _ hx, hρ y _ hy, h2]
end mm
/-- The integers of a row. -/
def ics (l : List Nat) : List Value := l.flatMap fun (b : Nat) => [Value.int .i64 (b : Int)]
theorem ics_len (l : List Nat) : ∀ b ∈ l, ([Value.int .i64 (b : Int)]).length = 1 := fun _ _ => rfl
theorem ics_app (l r : List Nat) : ics (l ++ r) = ics l ++ ics r := by simp [ics]
theorem ics_cells (l : List Nat) : ∀ u ∈ ics l, u.oneCell' = true := fun u hu => by
  obtain ⟨b, _, hb⟩ := List.mem_flatMap.1 hu
  obtain rfl : u = _ := by simpa using hb
  rfl
theorem ics_zero (n : Nat) : List.replicate n (Value.int .i64 0) = ics (List.replicate n 0) := by
  induction n with
  | zero => rfl
  | succ n ih => rw [List.replicate_succ, List.replicate_succ, ih]; rfl
theorem ics_take (l : List Nat) (k : Nat) : (ics l).take (k * 1) = ics (l.take k) := by
  rw [Nat.mul_one]
  induction l generalizing k with
  | nil => simp [ics]
  | cons a l ih =>
    cases k with
    | zero => simp [ics]
    | succ k => have := ih k; simp only [ics, List.flatMap_cons, List.singleton_append, List.take_succ_cons] at *; rw [this]
theorem ics_drop (l : List Nat) (k : Nat) : (ics l).drop (k * 1) = ics (l.drop k) := by
  rw [Nat.mul_one]
  induction l generalizing k with
  | nil => simp [ics]
  | cons a l ih =>
    cases k with
    | zero => simp [ics]
    | succ k => have := ih k; simp only [ics, List.flatMap_cons, List.singleton_append, List.drop_succ_cons] at *; rw [this]

/-- A row of facts, read at a place among them. -/
theorem IsRow.atSeg {E : TypeId} {sz n : Nat} {v : Value} {xs : List Value} {fs seg pre post : Fs} {w0 w : World} {S : List Nat} (h : IsRow E sz v n xs seg) (hseg : AtSeg fs pre seg post) (hs : St w0 S fs w) : RowAt w sz v n xs := by
  rw [hseg.eq] at hs
  exact h.at hs
end Go.Proofs.YtbhicncgjplnoaaDoor.SL

/-
  A SMALL LOGIC OVER THE KIT's WALK, PART O: truth values compared; parts of a block read.
  Conditions: none; over any program.
-/
namespace Go.Proofs.YtbhicncgjplnoaaDoor.SL
set_option linter.unusedVariables false
set_option linter.unusedSimpArgs false
open Go Go.RowKit
section bo
variable {P : Program} {e : Env} {T ty : TypeId} {x y : Operand} {a b : Bool}
theorem guard_bool {op : BinOp} {v : Value} (w : World) : (eqGuard op T x y (.bool a) v).run P w = .ok () w := by
  unfold eqGuard; cases op <;> cases v <;> simp
theorem eqIn_bool (d : Nat) (w : World) [UnI P T .bool] : (Op.equalIn (d + 1) T (.bool a) (.bool b)).run P w = .ok (a == b) w := by
  rw [Op.equalIn.eq_def]; simp only [Sem.run_bind, run_un (P := P) (T := T), Result.andThen_ok]; rfl
theorem ValP.boolEq [UnI P T .bool] (hx : e.ev x = some (.bool a)) (hy : e.ev y = some (.bool b)) : ValP P e [] (.binOp .eql T x y ty) (.bool (a == b)) :=
  .bin hx hy (fun w => guard_bool w) fun w => by
    have := eqIn_bool (P := P) (T := T) (a := a) (b := b) (Op.maxDepth - 1) w
    simp only [binOp, Op.equal, Sem.run_bind]
    rw [show Op.maxDepth = Op.maxDepth - 1 + 1 from rfl, this]; rfl
theorem ValP.boolNe [UnI P T .bool] (hx : e.ev x = some (.bool a)) (hy : e.ev y = some (.bool b)) : ValP P e [] (.binOp .neq T x y ty) (.bool (a != b)) :=
  .bin hx hy (fun w => guard_bool w) fun w => by
    have := eqIn_bool (P := P) (T := T) (a := a) (b := b) (Op.maxDepth - 1) w
    simp only [binOp, Op.equal, Sem.run_bind]
    rw [show Op.maxDepth = Op.maxDepth - 1 + 1 from rfl, this]; rfl
theorem ValP.boolEqT [UnI P T .bool] (hx : e.ev x = some (.bool a)) (hy : e.ev y = some (.bool b)) (h : a = b) : ValP P e [] (.binOp .eql T x y ty) (.bool true) := by
  have := ValP.boolEq (P := P) (T := T) (ty := ty) hx hy; rwa [h, beq_self_eq_true] at this
theorem ValP.boolNeF [UnI P T .bool] (hx : e.ev x = some (.bool a)) (hy : e.ev y = some (.bool b)) (h : a = b) : ValP P e [] (.binOp .neq T x y ty) (.bool false) := by
  have := ValP.boolNe (P := P) (T := T) (ty := ty) hx hy; rwa [h, bne_self_eq_false] at this
end bo
/-- Parts of a block. -/
theorem Rd.mid {P : Program} {T : TypeId} {n : Nat} {z : Value} [AgI P T true] [InfoI P T n z] {c : Array Value} {E : TypeId} {fr : Nat × Nat} {off : Nat} {cs : List Value} (hn : cs.length = n) (h : (c.toList.drop off).take n = cs) : Rd P T (.cells c E fr) off (.agg cs.toArray) :=
  Rd.part hn fun j v hv => cut_get h hv
end Go.Proofs.YtbhicncgjplnoaaDoor.SL

/-
  A SMALL LOGIC OVER THE KIT's WALK, PART P: arguments that are rows, opened.
  Conditions: none; over any program.
-/
namespace Go.Proofs.YtbhicncgjplnoaaDoor.SL
set_option linter.unusedVariables false
set_option linter.unusedSimpArgs false
open Go Go.RowKit Go.ChangeShapes Go.WideShapes
section op
variable {H : Type} {enc : TypeId × Value → H} {P : Program} {w W : World} {held : Bool} {r : Reach} {base : Nat} {T E : TypeId} {v : Value} {d : DataW H} {ps : List MemPlace}
/-- An argument that is a row. -/
theorem open_row {α : Type} {g : α → List Value} {Q : α → Prop} {e : Ty} {sz : Nat} (hu : P.underlying T = some (.slice E)) (hT : (Ty.sl e).ok P (.inl T) = true) (hc : e.cells = sz) (h0 : 0 < sz) (he : ∀ cs', e.is w cs' → ∃ x, Q x ∧ cs' = g x)
    (hv : Value.okWide P W r base T v) (h : DataW.Trod enc P w 0 (fun _ => true) held T v d ps) : ∃ l : List α, (∀ x ∈ l, Q x) ∧ RowAt w sz v l.length (l.flatMap g) := by
  obtain ⟨a, n, c, rfl⟩ := okWide_slice hu hv
  obtain ⟨v', l, h1, h2, h3⟩ := sl_rows hc h0 he (open_one hT h)
  obtain rfl : v' = _ := by simpa [Value.cells] using h1.symm
  exact ⟨l, fun x hx => (h2 x hx).1, h3⟩
theorem open_n {k : IntKind} (hu : P.underlying T = some (.int k)) (hT : (Ty.int k).ok P (.inl T) = true) (hv : Value.okWide P W r base T v) (h : DataW.Trod enc P w 0 (fun _ => true) held T v d ps) : ∃ n, v = .int k n ∧ (Lit.int k n).wf = true := by
  obtain ⟨n, rfl⟩ := okWide_int hu hv
  obtain ⟨n', h1, h2⟩ := open_one hT h
  obtain rfl : n = n' := by simpa [Value.cells] using h1
  exact ⟨n, rfl, h2⟩
theorem open_str (hu : P.underlying T = some .string) (hT : Ty.str.ok P (.inl T) = true) (hv : Value.okWide P W r base T v) (h : DataW.Trod enc P w 0 (fun _ => true) held T v d ps) : ∃ s, v = .string s ∧ s.size ≤ maxLen := by
  obtain ⟨s, rfl⟩ := okWide_string hu hv
  obtain ⟨s', h1, h2⟩ := open_one hT h
  obtain rfl : s = s' := by simpa [Value.cells] using h1
  exact ⟨s, rfl, h2⟩
end op
def Ty.pair2 : Ty := .arr 2 .word
theorem is_pair {w : World} {cs : List Value} (h : Ty.pair2.is w cs) : ∃ x : Nat × Nat, (x.1 < M256 ∧ x.2 < M256) ∧ cs = (wc x.1).toList ++ (wc x.2).toList := by
  obtain ⟨hl, h⟩ := h
  obtain ⟨a, ha, ea⟩ := is_word (h 0 (by decide))
  obtain ⟨b, hb, eb⟩ := is_word (h 1 (by decide))
  refine ⟨(a, b), ⟨ha, hb⟩, ?_⟩
  have hl' : cs.length = 8 := hl
  simp only [Ty.word, Ty.cells, Nat.zero_mul, List.drop_zero, Nat.one_mul, Nat.mul_one] at ea eb
  rw [← ea, ← eb, List.take_of_length_le (l := cs.drop 4) (by simp [hl'])]
  exact (List.take_append_drop 4 cs).symm
end Go.Proofs.YtbhicncgjplnoaaDoor.SL

/-
  A SMALL LOGIC OVER THE KIT's WALK, PART Q: rows that came in, later; rows of none; elements of our rows written; integers converted.
  Conditions: none; over any program.
-/
namespace Go.Proofs.YtbhicncgjplnoaaDoor.SL
set_option linter.unusedVariables false
set_option linter.unusedSimpArgs false
open Go Go.RowKit
/-- A row that came in reads as it did, later. -/
theorem RowAt.bel {w0 w : World} {sz n : Nat} {v : Value} {xs : List Value} (h : RowAt w0 sz v n xs) (hb : Bel w0.heap.size [] w0 w) : RowAt w sz v n xs :=
  ⟨h.form, h.len, fun h0 => by
    obtain ⟨b, off, c, cs, E, fr, h1, h2, h3⟩ := h.pos h0
    exact ⟨b, off, c, cs, E, fr, h1, by rw [hb.block b (Array.getElem?_eq_some_iff.1 h2).1 (by simp)]; exact h2, h3⟩, fun p n c he => by
    rcases h.lies p n c he with h | h | ⟨b, off, o, h1, h2⟩
    · exact .inl h
    · exact .inr (.inl h)
    · exact .inr (.inr ⟨b, off, o, h1, by rw [hb.block b (Array.getElem?_eq_some_iff.1 h2).1 (by simp)]; exact h2⟩)⟩
theorem RowAt.st {w0 w : World} {sz n : Nat} {v : Value} {xs : List Value} {fs : Fs} (h : RowAt w0 sz v n xs) (hs : St w0 [] fs w) : RowAt w sz v n xs := h.bel hs.bel

theorem IsRow.pos {E : TypeId} {sz n c : Nat} {p : Option Addr} {xs : List Value} {seg : Fs} (h : IsRow E sz (.slice p n c) n xs seg) (h0 : 0 < n) : ∃ g cur, p = some ⟨g, 0, none⟩ ∧ seg = [(g, .cells cur E (0, 0))] ∧ n ≤ c ∧ c ≤ maxLen ∧ cur.size = c * sz ∧ cur.toList.take (n * sz) = xs := by
  cases h with
  | nil => cases h0
  | own hn hm hc ht hl => exact ⟨_, _, rfl, rfl, hn, hm, hc, ht⟩
theorem NewP.build0 {P : Program} {e : Env} {T E : TypeId} {size : Nat} {z : Value} (hU : UnI P T (.slice E)) (hI : InfoI P E size z) : NewP P e (.buildSlice T 0 #[]) (.sl 0 0) (.cells #[] E (0, 0)) := fun ρ w hρ d t pos af g => by
  have hr : (Instr.buildSlice T 0 ((#[] : Array (Nat × Operand)).map fun p => (p.1, ρ p.2))).run P w = .ok ((Sh.sl 0 0).val w.heap.size) (w.alloc (.cells #[] E (0, 0))) := by
    unfold Instr.buildSlice
    simp only [Sem.run_bind, run_un, run_size, Result.andThen_ok]
    simp [newRow, Sh.val, Instr.fill, Array.range_zero']
  simp only [execOp]
  exact (show ((do pure (.value (← Instr.buildSlice T 0 ((#[] : Array (Nat × Operand)).map fun p => (p.1, ρ p.2)))) : Sem Next)).run P w = _ by simp only [Sem.run_bind, hr]; rfl)
section mm
variable {P : Program} {e : Env} {x y : Operand} {tys : Array TypeId} {m n : Nat} {ik : IntKind}
theorem ValP.minZL (hx : e.ev x = some (.int ik (m : Int))) (hy : e.ev y = some (.int ik (OfNat.ofNat n))) (_ : n = n) : ValP P e [] (.call { callee := .builtin .min, args := #[x, y], argTypes := tys }) (.int ik ((min m (OfNat.ofNat n) : Nat) : Int)) := .minZ hx hy
theorem ValP.cutToL {T E : TypeId} {hi : Operand} {p : Option Addr} {c k sz : Nat} {z : Value} (hU : UnI P T (.slice E)) (hI : InfoI P E sz z) (hx : e.ev x = some (.slice p n c)) (hh : e.ev hi = some (.int ik (OfNat.ofNat k))) (_ : k = k) (hk : (OfNat.ofNat k : Nat) ≤ c) : ValP P e [] (.slice T x none (some hi) none) (.slice p (OfNat.ofNat k) c) := .cutTo hU hI hx hh hk
theorem ValP.cutFromL {T E : TypeId} {lo : Operand} {p : Option Addr} {c k sz : Nat} {z : Value} (hU : UnI P T (.slice E)) (hI : InfoI P E sz z) (hx : e.ev x = some (.slice p n c)) (hl : e.ev lo = some (.int ik (OfNat.ofNat k))) (_ : k = k) (hk : (OfNat.ofNat k : Nat) ≤ n) : ValP P e [] (.slice T x (some lo) none none) (cutAt p (OfNat.ofNat k) n c sz) := .cutFrom hU hI hx hl hk
end mm
section lw
variable {C : Cu} {ops : Array Oper} {Q : Post} {rest : List Oper} {e : Env} {fs : Fs} {d : Nat} {t : TypeId} {pos : String} {af : Array Edge}
/-- A slice of no elements, but not nil. -/
theorem LW.lay0 {T E sz : TypeId} {z : Value} (hd : Nat.blt d C.N = true) (hU : UnI C.P T (.slice E)) (hI : InfoI C.P E sz z) (k : ∀ v seg, IsRow E sz v 0 [] seg → LW C ops Q rest ((d, v) :: e) (seg ++ fs)) :
    LW C ops Q (⟨some d, .buildSlice T 0 #[], t, pos, af, none⟩ :: rest) e fs :=
  LW.n0 hd rfl (NewP.build0 hU hI) fun g => k _ [(g, _)] (.own (cur := #[]) (Nat.le_refl 0) (Nat.zero_le _) (by simp) (by simp) (by simp))
/-- **append(s, x...)** of nothing. -/
theorem ValP.append0 {P : Program} {s x : Operand} {tys : Array TypeId} {T E sz : TypeId} {z : Value} {p q : Option Addr} {n c c' : Nat} (hT : tys = #[T, T]) (hU : UnI P T (.slice E)) (hI : InfoI P E sz z) (hs : e.ev s = some (.slice p n c)) (hx : e.ev x = some (.slice q 0 c')) (hle : n ≤ c) :
    ValP P e [] (.call { callee := .builtin .append, args := #[s, x], argTypes := tys }) (.slice p n c) := fun ρ w hρ _ d t pos af g => by
  subst hT
  obtain ⟨i, h1, h2, _⟩ := info_of (P := P) (T := E)
  have hsrc : Src P i.size T (.slice q 0 c') 0 [] w := by
    cases q with
    | none => exact Src.ofNil w hU.un c'
    | some a => exact Src.ofSlice w hU.un a 0 c' [] (by simp) (fun j u h => by simp at h) (fun u h => by cases h)
  have hr := run_append_nothing (P := P) w T T t E i hU.un h1 p n c hle _ hsrc
  simp [execOp, resolve, invoke, builtin, hρ s _ hs, hρ x _ hx, hr]
/-- **append(s, x...)**: s a row of ours, x a row that may be read, of none too. -/
theorem LW.appendAny {s x : Operand} {tys : Array TypeId} {T E : TypeId} {size bytes : Nat} {z v vx : Value} {n m : Nat} {xs news : List Value} {seg pre post : Fs} (hd : Nat.blt d C.N = true) (hT : tys = #[T, T]) (hU : UnI C.P T (.slice E)) (hI : InfoI C.P E size z) (hB : BytI C.P E bytes)
    (hz : z.cells.size = size) (hs : e.ev s = some v) (hx : e.ev x = some vx) (hseg : AtSeg fs pre seg post) (hrow : IsRow E size v n xs seg) (hat : ∀ w, St C.w0 C.S fs w → RowAt w size vx m news)
    (h1 : ∀ u ∈ news, u.oneCell' = true) (h63 : n + m ≤ maxLen) (hb : (n + m) * bytes ≤ 140737488355328)
    (k : ∀ v' seg', IsRow E size v' (n + m) (xs ++ news) seg' → ∃ fs', AtSeg fs' pre seg' post ∧ LW C ops Q rest ((d, v') :: e) fs') :
    LW C ops Q (⟨some d, .call { callee := .builtin .append, args := #[s, x], argTypes := tys }, t, pos, af, none⟩ :: rest) e fs := by
  rcases Nat.eq_zero_or_pos m with hm | hm
  · subst hm
    intro a w hsat
    have hA := hat w hsat.st
    have hn : news = [] := List.length_eq_zero_iff.1 (by rw [hA.len, Nat.zero_mul])
    subst hn
    obtain ⟨q, c', rfl, _, _⟩ := hA.form
    have hp : ∃ p c, v = .slice p n c ∧ n ≤ c := by
      cases hrow with
      | nil => exact ⟨_, _, rfl, Nat.le_refl _⟩
      | own hn _ _ _ _ => exact ⟨_, _, rfl, hn⟩
    obtain ⟨p, c, rfl, hle⟩ := hp
    obtain ⟨fs', hat', hK⟩ := k _ seg (by simpa using hrow)
    have : fs' = fs := by rw [hat'.eq, hseg.eq]
    subst this
    exact LW.v0 hd rfl (ValP.append0 hT hU hI hs hx hle) hK a w hsat
  · exact LW.appendAt hd hT hU hI hB hz hs hx hseg hrow hat h1 hm h63 hb k
theorem ValP.convU {P : Program} {S T : TypeId} {x : Operand} {k : IntKind} {n : Int} {dd : TypeDesc} [UnI P S dd] [UnI P T (.int .u64)] (hx : e.ev x = some (.int k n)) : ValP P e [] (.convert S T x) (.int .u64 (((n % 18446744073709551616).toNat : Nat) : Int)) := by
  have h := ValP.conv (P := P) (S := S) (T := T) (ds := dd) (k' := .u64) hx
  rwa [wrapU, show n % 18446744073709551616 = (((n % 18446744073709551616).toNat : Nat) : Int) by omega] at h
end lw
/-- An element of a row of ours, written. -/
theorem wr_take {sz : Nat} {cur : Array Value} {m i : Nat} {vs : List Value} {xs : List Value} (ht : cur.toList.take (m * sz) = xs) (hvs : vs.length = sz) (hi : i < m) (hlen : m * sz ≤ cur.size) :
    (wrCells cur (i * sz) vs).toList.take (m * sz) = xs.take (i * sz) ++ vs ++ xs.drop ((i + 1) * sz) ∧ (wrCells cur (i * sz) vs).size = cur.size := by
  have hk : ∀ (vs : List Value) (c : Array Value) (off : Nat), off + vs.length ≤ c.size → (wrCells c off vs).toList = c.toList.take off ++ vs ++ c.toList.drop (off + vs.length) := by
    intro vs
    induction vs with
    | nil => intro c off h; simp [wrCells]
    | cons v r ih =>
      intro c off h
      simp only [List.length_cons] at h
      rw [wrCells, ih _ _ (by simp; omega)]
      simp only [Array.toList_setIfInBounds, List.length_cons]
      have hlt : off < c.toList.length := by simp; omega
      have hl : (c.toList.take off).length = off := by simp; omega
      rw [List.take_set, List.take_succ_eq_append_getElem hlt, List.set_append_right _ _ (by rw [hl]; exact Nat.le_refl _), hl, Nat.sub_self, List.drop_set_of_lt (by omega)]
      simp [Nat.add_assoc, Nat.add_comm 1]
  have h1 : (i + 1) * sz ≤ m * sz := Nat.mul_le_mul_right _ hi
  have h2 : (i + 1) * sz = i * sz + sz := Nat.succ_mul i sz
  have h3 := hk vs cur (i * sz) (by rw [hvs, ← h2]; omega)
  constructor
  · rw [h3, hvs, ← h2, ← ht]
    have hl1 : (cur.toList.take (i * sz)).length = i * sz := by simp; omega
    rw [List.append_assoc, List.take_append, hl1, List.take_of_length_le (by rw [hl1]; omega), List.take_append, hvs, List.take_of_length_le (l := vs) (by omega), List.take_take, Nat.min_eq_left (by omega), List.append_assoc]
    congr 2
    rw [List.drop_take]
    congr 1
    omega
  · rw [← Array.length_toList, h3]
    simp [hvs]
    omega
end Go.Proofs.YtbhicncgjplnoaaDoor.SL

/-
  A SMALL LOGIC OVER THE KIT's WALK, PART R: arrays cut, and slices seen as arrays.
  Conditions: none; over any program.
-/
namespace Go.Proofs.YtbhicncgjplnoaaDoor.SL
set_option linter.unusedVariables false
set_option linter.unusedSimpArgs false
open Go Go.RowKit
section ar
variable {P : Program} {e : Env} {x hi : Operand} {T E A : TypeId} {n sz k : Nat} {z : Value} {ik : IntKind} {b off : Nat}
/-- arr[:k] of an array's address. -/
theorem ValP.cutArr (hU : UnI P T (.array n E)) (hI : InfoI P E sz z) (hx : e.ev x = some (.pointer (some ⟨b, off, none⟩))) (hh : e.ev hi = some (.int ik (OfNat.ofNat k))) (hk : Nat.ble (OfNat.ofNat k) n = true) : ValP P e [] (.slice T x none (some hi) none) (.slice (some ⟨b, off, none⟩) (OfNat.ofNat k) n) := fun ρ w hρ _ d t pos af g => by
  have hk' := Nat.le_of_ble_eq_true hk
  have hu := hU.un
  have h1 : (Instr.sliceAt T (.pointer (some ⟨b, off, none⟩)) none (some (.int ik (OfNat.ofNat k))) none).run P w = .ok (.slice (some ⟨b, off, none⟩) (OfNat.ofNat k) n) w := by
    have hal : P.arrayLen T = n := by rw [Program.arrayLen, hu]
    have hel : P.elem T = E := by rw [Program.elem, hu]
    have h2 := run_sliceAt_array_h (P := P) w T ⟨b, off, none⟩ (by rw [hal, hel]; exact hu) ik ((OfNat.ofNat k : Nat) : Int) (Int.natCast_nonneg _) (by rw [hal]; exact Int.ofNat_le.2 hk')
    rw [hel, run_size, hal] at h2
    have e1 : ((OfNat.ofNat k : Int)) = ((OfNat.ofNat k : Nat) : Int) := rfl
    rw [e1, h2]
    simp only [Result.andThen_ok, slicedAt, Nat.zero_mul, Int.toNat_natCast, Nat.sub_zero]
    simp [Addr.add]
  simp [execOp, hρ x _ hx, hρ hi _ hh, h1]
/-- A slice seen as an array. -/
theorem ValP.asArr {p : Option Addr} {m c : Nat} (hU : UnI P A (.array n E)) (hx : e.ev x = some (.slice p m c)) (hn : Nat.ble n m = true) : ValP P e [] (.sliceToArrayPointer A x) (.pointer p) := fun ρ w hρ _ d t pos af g => by
  have h1 := run_arrayAt (P := P) w A E n p m c hU.un (Nat.le_of_ble_eq_true hn)
  simp [execOp, hρ x _ hx, h1]
end ar
end Go.Proofs.YtbhicncgjplnoaaDoor.SL

/-
  A SMALL LOGIC OVER THE KIT's WALK, PART S: operations passed over because what they wait for was passed over.
  Conditions: none; over any program.
-/
namespace Go.Proofs.YtbhicncgjplnoaaDoor.SL
set_option linter.unusedVariables false
set_option linter.unusedSimpArgs false
open Go Go.RowKit
theorem LW.guardU {C : Cu} {ops : Array Oper} {Q : Post} {rest : List Oper} {e : Env} {fs : Fs} {d : Nat} {op : Op} {t : TypeId} {pos : String} {af : Array Edge} {j s : Nat} {g : Bool} (hs : (ops[j]?).bind (·.dst) = some s) (he : e.get s = some undef) (hd : Nat.blt d C.N = true) (h : LW C ops Q rest ((d, undef) :: e) fs) :
    LW C ops Q (⟨some d, op, t, pos, af, some (j, g)⟩ :: rest) e fs := by
  intro a w hst
  have h1 := h _ w ⟨hst.env.put (v := undef) hd, hst.st⟩
  have hy : yielded ops a.tmps j = none := by simp [yielded, hs, hst.env.get s _ he, undef]
  unfold wpListIn
  rw [if_neg (by simp [Region.wanted, hy])]
  exact ⟨fun _ _ => trivial, h1⟩
theorem DW.skipU {C : Cu} {ops : Array Oper} {Q : Post} {tl rest : List Oper} {e : Env} {ts : Ts} {μ : Mu} {k d : Nat} {op : Op} {t : TypeId} {pos : String} {af : Array Edge} {j s : Nat} {b : Bool} (hk : ops[k]? = some ⟨some d, op, t, pos, af, some (j, b)⟩) (hd : Nat.blt d C.N = true) (hs : (ops[j]?).bind (·.dst) = some s)
    (he : e.get s = some undef) (kk : DW C ops μ Q tl rest (k + 1) ((d, undef) :: e) ts) : DW C ops μ Q tl (⟨some d, op, t, pos, af, some (j, b)⟩ :: rest) k e ts := by
  intro a φ tw tr ha hr hinv
  have hw : Region.wanted ⟨some d, op, t, pos, af, some (j, b)⟩ (yielded ops a.tmps) = false := by
    have hy : yielded ops a.tmps j = none := by simp [yielded, hs, ha.get s _ he, undef]
    simp [Region.wanted, hy]
  have htch : tch ops ⟨some d, op, t, pos, af, some (j, b)⟩ a = [] := by unfold tch; rw [if_neg (by rw [hw]; simp)]
  unfold walk dOp
  simp only [hk]
  rw [htch]
  refine ⟨by simp, .inl ⟨.val undef, .inr ⟨hw, rfl⟩, by simp [Eff.wr], ?_⟩⟩
  refine kk _ _ _ _ (ha.put hd) ⟨hr.fsome, fun p hp j hj => ?_, fun p hp j hj => ?_, fun b hb j hj => ?_, fun b hb hB j hj => ?_, hr.nd⟩ hinv
  · rcases hj with hj | ⟨_, hj⟩
    · exact hr.ftw p hp _ hj
    · simp [Eff.wr] at hj
  · rcases hj with hj | ⟨_, hj⟩
    · exact hr.ftr p hp _ hj
    · simp at hj
  · rcases hj with hj | ⟨_, hj⟩
    · exact hr.old b hb _ hj
    · simp [Eff.wr] at hj
  · rcases hj with hj | ⟨_, hj⟩
    · exact hr.oldr b hb hB _ hj
    · simp at hj
end Go.Proofs.YtbhicncgjplnoaaDoor.SL

/-
  A SMALL LOGIC OVER THE KIT's WALK, PART T: rows of bytes, and strings out of them.
  Conditions: none; over any program.
-/
namespace Go.Proofs.YtbhicncgjplnoaaDoor.SL
set_option linter.unusedVariables false
set_option linter.unusedSimpArgs false
open Go Go.RowKit
/-- The cells of bytes. -/
def ucs (l : List UInt8) : List Value := l.flatMap fun u => [Value.int .u8 (u.toNat : Int)]
theorem ucs_map (l : List UInt8) : ucs l = l.map fun u => Value.int .u8 (u.toNat : Int) := by
  induction l with
  | nil => rfl
  | cons a l ih => simp [ucs] at *; exact ih
theorem ucs_len (l : List UInt8) : (ucs l).length = l.length := by rw [ucs_map, List.length_map]
theorem ucs_one (l : List UInt8) : ∀ u ∈ l, ([Value.int .u8 (u.toNat : Int)] : List Value).length = 1 := fun _ _ => rfl
theorem ucs_app (l r : List UInt8) : ucs (l ++ r) = ucs l ++ ucs r := by simp [ucs]
theorem ucs_take (l : List UInt8) (k : Nat) : (ucs l).take (k * 1) = ucs (l.take k) := by rw [ucs_map, ucs_map, Nat.mul_one, List.map_take]
theorem ucs_drop (l : List UInt8) (k : Nat) : (ucs l).drop (k * 1) = ucs (l.drop k) := by rw [ucs_map, ucs_map, Nat.mul_one, List.map_drop]
theorem ucs_cells (l : List UInt8) : ∀ u ∈ ucs l, u.oneCell' = true := fun u hu => by
  rw [ucs_map] at hu
  obtain ⟨a, _, rfl⟩ := List.mem_map.1 hu
  rfl
theorem ucs_zero (n : Nat) : ucs (List.replicate n 0) = List.replicate n (Value.int .u8 0) := by rw [ucs_map, List.map_replicate]; rfl
theorem is_u8 {w : World} {cs : List Value} (h : (Ty.int .u8).is w cs) : ∃ u : UInt8, True ∧ cs = [Value.int .u8 (u.toNat : Int)] := by
  obtain ⟨n, rfl, hn⟩ := h
  simp [Lit.wf, IntKind.min, IntKind.max, IntKind.signed, IntKind.bits] at hn
  refine ⟨UInt8.ofNat n.toNat, trivial, ?_⟩
  rw [UInt8.toNat_ofNat']
  congr 2
  omega
/-- A row of bytes, as a value of its own. -/
theorem is_bytes {w : World} {cs : List Value} (h : (Ty.sl (.int .u8)).is w cs) : ∃ x : Value × List UInt8, RowAt w 1 x.1 x.2.length (ucs x.2) ∧ cs = [x.1] := by
  obtain ⟨v, l, h1, _, h3⟩ := sl_rows (g := fun u : UInt8 => [Value.int .u8 (u.toNat : Int)]) (Q := fun _ => True) (sz := 1) rfl (by decide) (fun _ h => is_u8 h) h
  exact ⟨(v, l), h3, h1⟩
theorem RowAt.string {P : Program} {w : World} {v : Value} {l : List UInt8} {n : Nat} {S T E : TypeId} (h : RowAt w 1 v n (ucs l)) (hS : P.underlying S = some (.slice E)) (hE : P.underlying E = some (.int .u8)) (hT : P.underlying T = some .string) :
    (convert S T v).run P w = .ok (.string ⟨l.toArray⟩) w := by
  have hn : l.length = n := by have := h.len; rw [ucs_len] at this; omega
  rcases Nat.eq_zero_or_pos n with h0 | h0
  · subst h0
    obtain rfl : l = [] := List.length_eq_zero_iff.1 hn
    obtain ⟨p, c, rfl, _, _⟩ := h.form
    rw [run_convert_bytes_string w S T E _ 0 c hS hE hT]
    cases p <;> simp [Conv.bytesToString, loadCells]
    all_goals rfl
  · obtain ⟨b, off, c, cs, E', fr, rfl, hb, hx⟩ := h.pos h0
    have := run_convert_bytes_arg (P := P) w S E hS hE b off n c (l.map fun u => (u.toNat : Int)) (by simpa using hn) (fun i hi => by
      have hlt : i < l.length := by omega
      have hg := cut_get (j := i) (v := .int .u8 (l[i].toNat : Int)) hx (by rw [ucs_map]; simp [hlt])
      rw [cell_of hb, hg]
      simp [List.getD, hlt]) T hT
    rw [this]
    congr 2
    simp only [strOfNums, List.map_map]
    congr 2
    conv => rhs; rw [← List.map_id l]
    apply List.map_congr_left
    intro u _
    simp
section lw
variable {C : Cu} {ops : Array Oper} {Q : Post} {rest : List Oper} {e : Env} {fs : Fs} {d : Nat} {t : TypeId} {pos : String} {af : Array Edge}
/-- **string(b)** of bytes that may be read. -/
theorem LW.toStr {S T E : TypeId} {x : Operand} {v : Value} {l : List UInt8} {n : Nat} (hd : Nat.blt d C.N = true) (hS : UnI C.P S (.slice E)) (hE : UnI C.P E (.int .u8)) (hT : UnI C.P T .string) (hx : e.ev x = some v) (hat : ∀ w, St C.w0 C.S fs w → RowAt w 1 v n (ucs l))
    (k : LW C ops Q rest ((d, .string ⟨l.toArray⟩) :: e) fs) : LW C ops Q (⟨some d, .convert S T x, t, pos, af, none⟩ :: rest) e fs :=
  LW.val hd (fun c h => by cases h) (fun a w hs => by
    have := (hat w hs.st).string (P := C.P) hS.un hE.un hT.un
    simp [execOp, hs.env.ev hx, this]) k
end lw
theorem bytes_eq (a b : List UInt8) : decide ((⟨a.toArray⟩ : ByteArray) = ⟨b.toArray⟩) = decide (a = b) := by
  rw [decide_eq_decide]
  constructor
  · intro h; exact by have := congrArg (fun x : ByteArray => x.data.toList) h; simpa using this
  · intro h; rw [h]
end Go.Proofs.YtbhicncgjplnoaaDoor.SL

/-
  A SMALL LOGIC OVER THE KIT's WALK, PART U: what comes behind a loop, told once.
  Conditions: none; over any program.
-/
namespace Go.Proofs.YtbhicncgjplnoaaDoor.SL
set_option linter.unusedVariables false
set_option linter.unusedSimpArgs false
open Go Go.RowKit
/-- All that is behind is told once, from less that is known. -/
def cutQ (C : Cu) (e1 : Env) (fs1 : Fs) : List Deferred → Env → Fs → Prop := fun ds e fs => ds = C.ds ∧ e.le e1 ∧ List.Sublist fs1 fs
theorem CW.cut {C : Cu} {c y : Code} {Q Q' : Post} {e : Env} {fs : Fs} (e1 : Env) (fs1 : Fs) (k : CW C y Q e1 fs1) (h : CW C c (thenQ (cutQ C e1 fs1) Q') e fs) : CW C c (thenQ (thenC C y Q) Q') e fs :=
  CW.mono (fun x ds e fs hx => by
    cases x with
    | normal => obtain ⟨rfl, h2, h3⟩ := hx; exact CW.weak (C := C) e1 fs1 h2 h3 k
    | _ => exact hx) h
theorem CW.cutB {C : Cu} {c y : Code} {Q Q' : Post} {e : Env} {fs : Fs} {id : Nat} (e1 : Env) (fs1 : Fs) (k : CW C y Q e1 fs1) (h : CW C c (blkQ id (thenQ (cutQ C e1 fs1) Q')) e fs) : CW C c (blkQ id (thenQ (thenC C y Q) Q')) e fs :=
  CW.mono (fun x ds e fs hx => by
    have key : ∀ x, thenQ (cutQ C e1 fs1) Q' x ds e fs → thenQ (thenC C y Q) Q' x ds e fs := fun x hx => by
      cases x with
      | normal => obtain ⟨rfl, h2, h3⟩ := hx; exact CW.weak (C := C) e1 fs1 h2 h3 k
      | _ => exact hx
    cases x with
    | exit i =>
      simp only [blkQ] at hx ⊢
      split
      · rename_i hb; rw [hb] at hx; exact key _ hx
      · rename_i hb; rw [hb] at hx; exact key _ hx
    | normal => exact key .normal hx
    | ret => exact key .ret hx
    | goto l => exact key (.goto l) hx
    | panic l => exact key (.panic l) hx
    | outgrown => exact key .outgrown hx) h
theorem cutI {C : Cu} {Q : Post} {e e1 : Env} {fs fs1 : Fs} {ds : List Deferred} (hd : ds = C.ds) (h1 : e.le e1) (h2 : List.Sublist fs1 fs) : thenQ (cutQ C e1 fs1) Q .normal ds e fs := ⟨hd, h1, h2⟩
/-- The cells of rows of bytes. -/
def vcs (l : List (Value × List UInt8)) : List Value := l.flatMap fun x => [x.1]
theorem vcs_one (l : List (Value × List UInt8)) : ∀ x ∈ l, ([x.1] : List Value).length = 1 := fun _ _ => rfl
end Go.Proofs.YtbhicncgjplnoaaDoor.SL

/-
  A SMALL LOGIC OVER THE KIT's WALK, PART V: calls in drawn regions that read rows.
  Conditions: none; over any program.
-/
namespace Go.Proofs.YtbhicncgjplnoaaDoor.SL
set_option linter.unusedVariables false
set_option linter.unusedSimpArgs false
open Go Go.RowKit
theorem IsRow.us {E : TypeId} {sz n : Nat} {v : Value} {xs : List Value} {seg us : Fs} {w : World} (h : IsRow E sz v n xs seg) (hu : ∀ p ∈ us, w.heap[p.1]? = some p.2) (hs : List.Sublist seg us) : RowAt w sz v n xs := by
  cases h with
  | nil => exact .nil
  | @own g _ cap cur _ hn hm hc ht hl =>
    have hg := hu (g, .cells cur E (0, 0)) (hs.subset (by simp))
    exact ⟨⟨_, _, rfl, hn, hm⟩, hl, fun _ => ⟨g, 0, cap, cur, E, _, rfl, hg, by simpa using ht⟩, .own hg⟩
theorem ReadAll.app {C : Cu} {ops : Array Oper} {k : Nat} {bs : List Nat} {ts ts1 : Ts} {us : Fs} (h : ReadAll C ops k bs ts us ts1) : ∀ {bs' : List Nat} {us' : Fs} {ts2 : Ts}, ReadAll C ops k bs' ts1 us' ts2 → ReadAll C ops k (bs ++ bs') ts (us ++ us') ts2 := by
  induction h with
  | nil => intro _ _ _ h'; exact h'
  | own h _ ih => intro _ _ _ h'; exact .own h (ih h')
  | ext h hS _ ih => intro _ _ _ h'; exact .ext h hS (ih h')
/-- What a call's operands name is looked at: facts of ours, or rows that lay there when the call began. -/
inductive RdV (C : Cu) (ops : Array Oper) (k : Nat) : List Value → Ts → Fs → Ts → Prop
  | nil {ts : Ts} : RdV C ops k [] ts [] ts
  | plain {v : Value} {vs : List Value} {ts ts2 : Ts} {us : Fs} (hb : blocksN 4 v = []) (h : RdV C ops k vs ts us ts2) : RdV C ops k (v :: vs) ts us ts2
  | none {n c : Nat} {vs : List Value} {ts ts2 : Ts} {us : Fs} (h : RdV C ops k vs ts us ts2) : RdV C ops k (.slice .none n c :: vs) ts us ts2
  | ptr {b off : Nat} {o : Obj} {vs : List Value} {ts ts1 ts2 : Ts} {us : Fs} (h : TRead ops k ts b o ts1) (hs : RdV C ops k vs ts1 us ts2) : RdV C ops k (.pointer (some ⟨b, off, .none⟩) :: vs) ts ((b, o) :: us) ts2
  | own {b off n c : Nat} {o : Obj} {vs : List Value} {ts ts1 ts2 : Ts} {us : Fs} (hc : 0 < c) (h : TRead ops k ts b o ts1) (hs : RdV C ops k vs ts1 us ts2) : RdV C ops k (.slice (some ⟨b, off, .none⟩) n c :: vs) ts ((b, o) :: us) ts2
  | ext {v : Value} {n : Nat} {sz : Nat} {xs : List Value} {vs : List Value} {ts ts2 : Ts} {us : Fs} (h : RowAt C.w0 sz v n xs) (hS : C.S = []) (hs : RdV C ops k vs ts us ts2) : RdV C ops k (v :: vs) ts us ts2
theorem RdV.all {C : Cu} {ops : Array Oper} {k : Nat} {vs : List Value} {ts ts' : Ts} {us : Fs} (h : RdV C ops k vs ts us ts') : ∃ us2, ReadAll C ops k (vs.flatMap (blocksN 4)) ts us2 ts' ∧ ∀ p ∈ us, p ∈ us2 := by
  induction h with
  | nil => exact ⟨[], .nil, by simp⟩
  | plain hb _ ih =>
    obtain ⟨us2, h1, h2⟩ := ih
    exact ⟨us2, by rw [List.flatMap_cons, hb]; exact h1, h2⟩
  | none _ ih =>
    obtain ⟨us2, h1, h2⟩ := ih
    exact ⟨us2, h1, h2⟩
  | @ptr b off o vs ts ts1 ts2 us h _ ih =>
    obtain ⟨us2, h1, h2⟩ := ih
    refine ⟨(b, o) :: us2, .own h h1, fun p hp => ?_⟩
    rcases List.mem_cons.1 hp with rfl | hp
    · exact List.mem_cons_self
    · exact List.mem_cons_of_mem _ (h2 p hp)
  | @own b off n c o vs ts ts1 ts2 us hc h _ ih =>
    obtain ⟨us2, h1, h2⟩ := ih
    refine ⟨(b, o) :: us2, ?_, fun p hp => ?_⟩
    · rw [List.flatMap_cons, show blocksN 4 (.slice (some ⟨b, off, .none⟩) n c) = [b] by simp [blocksN, Nat.ne_of_gt hc]]
      exact .own h h1
    · rcases List.mem_cons.1 hp with rfl | hp
      · exact List.mem_cons_self
      · exact List.mem_cons_of_mem _ (h2 p hp)
  | @ext v n sz xs vs ts ts2 us h hS _ ih =>
    obtain ⟨us2, h1, h2⟩ := ih
    obtain ⟨p, c, rfl, _, _⟩ := h.form
    rcases h.lies _ _ _ rfl with rfl | rfl | ⟨b, off, o, rfl, hb⟩
    · exact ⟨us2, h1, h2⟩
    · exact ⟨us2, by rw [List.flatMap_cons, show blocksN 4 (.slice p n 0) = [] by cases p <;> simp [blocksN]]; exact h1, h2⟩
    · rcases Nat.eq_zero_or_pos c with hc | hc
      · subst hc
        exact ⟨us2, by rw [List.flatMap_cons, show blocksN 4 (.slice (some ⟨b, off, .none⟩) n 0) = [] by simp [blocksN]]; exact h1, h2⟩
      · refine ⟨(b, o) :: us2, ?_, fun p hp => List.mem_cons_of_mem _ (h2 p hp)⟩
        rw [List.flatMap_cons, show blocksN 4 (.slice (some ⟨b, off, .none⟩) n c) = [b] by simp [blocksN, Nat.ne_of_gt hc]]
        exact .ext hb (by rw [hS]; simp) h1
section dw
variable {C : Cu} {ops : Array Oper} {Q : Post} {tl rest : List Oper} {e : Env} {ts : Ts} {μ : Mu} {k d : Nat} {op : Op} {t : TypeId} {pos : String} {af : Array Edge} {g : Option (Nat × Bool)}
theorem DW.callV {fo : Operand} {args : Array Operand} {tys : Array TypeId} {f : FuncId} {vs : List Value} {v : Value} {us : Fs} {ts' : Ts} (hk : ops[k]? = some ⟨some d, .call { callee := .value fo, args := args, argTypes := tys }, t, pos, af, g⟩) (hm : μ k = none)
    (hd : Nat.blt d C.N = true) (hg : WantT ops e g) (hf : e.ev fo = some (.func (.func f) #[] #[])) (hF : FnI C.P f) (ha : ArgsOk e args.toList vs) (hr : RdV C ops k vs ts us ts')
    (hc : ∀ w, Bel C.w0.heap.size C.S C.w0 w → (∀ p ∈ us, w.heap[p.1]? = some p.2) → Calls C.P f vs.toArray w (Ret w v)) (kk : DW C ops μ Q tl rest (k + 1) ((d, v) :: e) ts') :
    DW C ops μ Q tl (⟨some d, .call { callee := .value fo, args := args, argTypes := tys }, t, pos, af, g⟩ :: rest) k e ts := by
  obtain ⟨us2, h1, h2⟩ := hr.all
  exact DW.callE hk hm hd hg hf hF ha (show _ = vs.flatMap (blocksN 4) from rfl) h1 (fun w hb hu => hc w hb fun p hp => hu p (h2 p hp)) kk
theorem DW.manyV {fo : Operand} {args : Array Operand} {tys : Array TypeId} {f : FuncId} {vs : List Value} {M : Rel1} {us : Fs} {ts' : Ts} (hk : ops[k]? = some ⟨some d, .call { callee := .value fo, args := args, argTypes := tys }, t, pos, af, g⟩) (hm : μ k = some (cst M, false))
    (hd : Nat.blt d C.N = true) (hg : WantT ops e g) (hf : e.ev fo = some (.func (.func f) #[] #[])) (hF : FnI C.P f) (ha : ArgsOk e args.toList vs) (hr : RdV C ops k vs ts us ts')
    (hc : ∀ w, Bel C.w0.heap.size C.S C.w0 w → (∀ p ∈ us, w.heap[p.1]? = some p.2) → Calls C.P f vs.toArray w (RetG w [] M)) (kk : ∀ v gs, M v gs → DW C ops μ Q tl rest (k + 1) ((d, v) :: e) (tsNew k gs ++ ts')) :
    DW C ops μ Q tl (⟨some d, .call { callee := .value fo, args := args, argTypes := tys }, t, pos, af, g⟩ :: rest) k e ts := by
  obtain ⟨us2, h1, h2⟩ := hr.all
  exact DW.manyE hk hm hd hg hf hF ha (show _ = vs.flatMap (blocksN 4) from rfl) h1 (fun w hb hu => hc w hb fun p hp => hu p (h2 p hp)) kk
end dw
end Go.Proofs.YtbhicncgjplnoaaDoor.SL

/-
  A SMALL LOGIC OVER THE KIT's WALK, PART W: strings measured, cut, joined, gone through.
  Conditions: none; over any program.
-/
namespace Go.Proofs.YtbhicncgjplnoaaDoor.SL
set_option linter.unusedVariables false
set_option linter.unusedSimpArgs false
open Go Go.RowKit
/-! ### A label's scope, where nobody jumps -/
theorem stepR_scope {P : Program} {b : Frame} {a : Act} {k : List Item} {cs : List Frame} {w : World} {c : Code} : step P (lone (b.atR a (.code (.scope c) :: k)) cs w) = .next (lone (b.atR a (.code c :: .inScope c :: k)) cs w) :=
  step_lone_go (by simp [stepG, stepG.exec, Frame.atR])
theorem stepR_inScope {P : Program} {b : Frame} {a : Act} {k : List Item} {cs : List Frame} {w : World} {c : Code} : step P (lone (b.atR a (.inScope c :: k)) cs w) = .next (lone (b.atR a k) cs w) :=
  step_lone_go (by simp [stepG, stepG.exec, Frame.atR])
theorem wpIn_scope {F : Fence} {n : Nat} {P : Program} {c : Code} {Q Q' : Exit → Act → World → Prop} {a : Act} {w : World} (hQ : ∀ x a w, Q' x a w → (∀ l, x ≠ .goto l) ∧ Q x a w) (h : c.wpIn F n P Q' a w) : (Code.scope c).wpIn F n P Q a w := by
  intro b k cs hro hb hr
  have h0 : (lone (b.atR a (.code (.scope c) :: k)) cs w).fenced P F := fenced_calm hb hr rfl
  obtain ⟨e, a₁, w₁, hq, harr⟩ := h b (.inScope c :: k) cs hro hb hr
  obtain ⟨hng, hq⟩ := hQ _ _ _ hq
  cases e with
  | normal => exact ⟨.normal, a₁, w₁, hq, .head h0 stepR_scope (StepsIn.trans harr (.one (fenced_calm hb hr rfl) stepR_inScope))⟩
  | exit id =>
    have hx : exitTo id (.inScope c :: k) = exitTo id k := by simp [exitTo]
    exact ⟨.exit id, a₁, w₁, hq, fun k' hk => .head h0 stepR_scope (harr.1 k' (by rw [hx]; exact hk)),
      fun hr' hk => let ⟨k₁, h1, h2⟩ := harr.2 hr' (by rw [hx]; exact hk); ⟨k₁, h1, .head h0 stepR_scope h2⟩⟩
  | goto l => exact absurd rfl (hng l)
  | ret => exact ⟨_, a₁, w₁, hq, .of_steps (.one h0 stepR_scope) harr⟩
  | panic ch => exact ⟨_, a₁, w₁, hq, .of_steps (.one h0 stepR_scope) harr⟩
  | outgrown => exact ⟨_, a₁, w₁, hq, .of_steps (.one h0 stepR_scope) harr⟩
inductive scopeQ (Q : Post) : Post
  | n {ds : List Deferred} {e : Env} {fs : Fs} (h : Q .normal ds e fs) : scopeQ Q .normal ds e fs
  | r {ds : List Deferred} {e : Env} {fs : Fs} (h : Q .ret ds e fs) : scopeQ Q .ret ds e fs
  | e {id : Nat} {ds : List Deferred} {e : Env} {fs : Fs} (h : Q (.exit id) ds e fs) : scopeQ Q (.exit id) ds e fs
theorem CW.scope {C : Cu} {c : Code} {Q : Post} {e : Env} {fs : Fs} (h : CW C c (scopeQ Q) e fs) : CW C (.scope c) Q e fs := fun a w hs =>
  wpIn_scope (fun x a w ⟨ds, e, fs, q, s⟩ => by
    cases q with
    | n h => exact ⟨(fun _ h => nomatch h), ⟨ds, e, fs, h, s⟩⟩
    | r h => exact ⟨(fun _ h => nomatch h), ⟨ds, e, fs, h, s⟩⟩
    | e h => exact ⟨(fun _ h => nomatch h), ⟨ds, e, fs, h, s⟩⟩) (h a w hs)
/-- A string out of bytes. -/
abbrev sv (l : List UInt8) : Value := .string ⟨l.toArray⟩
theorem str_list (s : ByteArray) : ∃ l : List UInt8, s = ⟨l.toArray⟩ := ⟨s.data.toList, by simp⟩
theorem sv_inj {a b : List UInt8} (h : a ≠ b) : (⟨a.toArray⟩ : ByteArray) ≠ ⟨b.toArray⟩ := fun e => h (by have := congrArg (fun x : ByteArray => x.data.toList) e; simpa using this)
section str
variable {P : Program} {e : Env} {T ty : TypeId} {x y lo hi : Operand} {l r : List UInt8} {tys : Array TypeId}
theorem ValP.lenStr (hT : tys = #[T]) (hU : UnI P T .string) (hx : e.ev x = some (sv l)) : ValP P e [] (.call { callee := .builtin .len, args := #[x], argTypes := tys }) (.int .i64 (l.length : Int)) := fun ρ w hρ _ d t pos af g => by
  subst hT
  have h := run_len_string (P := P) w T t ⟨l.toArray⟩ hU.un
  simp only [goInt, ByteArray.size, List.size_toArray] at h
  simp [execOp, resolve, invoke, builtin, hρ x _ hx, h]
theorem ValP.addStr (hx : e.ev x = some (sv l)) (hy : e.ev y = some (sv r)) (hl : l.length + r.length ≤ 9223372036854775807) : ValP P e [] (.binOp .add T x y ty) (sv (l ++ r)) :=
  .bin hx hy (fun w => guard_str w) fun w => by
    rw [binOp_string_add, run_string_add_sum w _ _ (by simp only [ByteArray.size, List.size_toArray]; omega), ByteArray.mk_append_mk]
theorem ValP.cutStr {ik ik' : IntKind} {i j : Nat} (hU : UnI P T .string) (hx : e.ev x = some (sv l)) (hl : e.ev lo = some (.int ik (i : Int))) (hh : e.ev hi = some (.int ik' (j : Int))) (h1 : i ≤ j) (h2 : j ≤ l.length) :
    ValP P e [] (.slice T x (some lo) (some hi) none) (sv ((l.drop i).take (j - i))) := fun ρ w hρ _ d t pos af g => by
  have h := run_slice_string (P := P) w T ⟨l.toArray⟩ ik ik' (i : Int) (j : Int) hU.un (by omega) (by omega) (by simp only [ByteArray.size, List.size_toArray]; omega)
  rw [Int.toNat_natCast, Int.toNat_natCast, ByteArray.extract_mk] at h
  simp [execOp, hρ x _ hx, hρ lo _ hl, hρ hi _ hh, run_sliceAt_string (w := w) T _ _ _ _ hU.un, h]
theorem ValP.cutStrTo {ik : IntKind} {j : Nat} (hU : UnI P T .string) (hx : e.ev x = some (sv l)) (hh : e.ev hi = some (.int ik (j : Int))) (h2 : j ≤ l.length) :
    ValP P e [] (.slice T x none (some hi) none) (sv (l.take j)) := fun ρ w hρ _ d t pos af g => by
  have h := run_slice_string_h (P := P) w T ⟨l.toArray⟩ hU.un ik (j : Int) (by omega) (by simp only [ByteArray.size, List.size_toArray]; omega)
  rw [Int.toNat_natCast, ByteArray.extract_mk, List.drop_zero, Nat.sub_zero] at h
  simp [execOp, hρ x _ hx, hρ hi _ hh, run_sliceAt_string (w := w) T _ _ _ _ hU.un, h]
theorem ValP.cutStrFrom {ik : IntKind} {i : Nat} (hU : UnI P T .string) (hx : e.ev x = some (sv l)) (hl : e.ev lo = some (.int ik (i : Int))) (h2 : i ≤ l.length) :
    ValP P e [] (.slice T x (some lo) none none) (sv (l.drop i)) := fun ρ w hρ _ d t pos af g => by
  have h := run_slice_string_l (P := P) w T ⟨l.toArray⟩ hU.un ik (i : Int) (by omega) (by simp only [ByteArray.size, List.size_toArray]; omega)
  rw [Int.toNat_natCast, ByteArray.extract_mk] at h
  simp only [ByteArray.size, List.size_toArray, ← List.length_drop, List.take_length] at h
  simp [execOp, hρ x _ hx, hρ lo _ hl, run_sliceAt_string (w := w) T _ _ _ _ hU.un, h]
/-- A byte of a string. -/
theorem ValP.indexSv {ik : IntKind} {j : Int} {k : Nat} {b : UInt8} (hU : UnI P T .string) (hx : e.ev x = some (sv l)) (hy : e.ev y = some (.int ik j)) (hj : j = (k : Int)) (hb : l[k]? = some b) : ValP P e [] (.index T x y) (.int .u8 (b.toNat : Nat)) := by
  have := hU
  refine .indexStr hx hy hj ?_
  obtain ⟨h1, h2⟩ := List.getElem?_eq_some_iff.1 hb
  rw [ByteArray.getElem?_lt' _ _ (by simpa [ByteArray.size] using h1)]
  simp only [← h2]
  rfl
end str
section lw
variable {C : Cu} {ops : Array Oper} {Q : Post} {rest : List Oper} {e : Env} {fs fs' : Fs} {d : Nat} {t : TypeId} {pos : String} {af : Array Edge}
/-- **range** over a string. -/
theorem LW.rangeStr {T : TypeId} {x : Operand} {l : List UInt8} (hd : Nat.blt d C.N = true) (hU : UnI C.P T .string) (hx : e.ev x = some (sv l))
    (k : ∀ b, LW C ops Q rest ((d, .pointer (some ⟨b, 0, none⟩)) :: e) ((b, .stringIter ⟨l.toArray⟩ 0) :: fs)) : LW C ops Q (⟨some d, .range T x, t, pos, af, none⟩ :: rest) e fs :=
  LW.new (s := .ptr) hd (fun c h => by cases h) (fun a w hs => by
    have h := run_range_string (P := C.P) w T ⟨l.toArray⟩ hU.un
    simp [execOp, hs.env.ev hx, h, World.iter, Sh.val]) fun b => k b
theorem LW.nextStr {x : Operand} {b m : Nat} {l : List UInt8} (hd : Nat.blt d C.N = true) (hx : e.ev x = some (.pointer (some ⟨b, 0, none⟩))) (hset : SetAt fs b (.stringIter ⟨l.toArray⟩ m) (.stringIter ⟨l.toArray⟩ (m + (Utf8.decode ⟨l.toArray⟩ m).2)) fs') (hm : m < l.length)
    (k : LW C ops Q rest ((d, .tuple #[.bool true, .int .i64 (m : Int), .int .i32 (((Utf8.decode ⟨l.toArray⟩ m).1 : Nat) : Int)]) :: e) fs') : LW C ops Q (⟨some d, .next x true, t, pos, af, none⟩ :: rest) e fs :=
  LW.valset hd (fun c h => by cases h) hset (fun a w hs hb => by
    have hsz : m < (ByteArray.mk l.toArray).size := by simpa [ByteArray.size] using hm
    have h : (Instr.next (.pointer (some ⟨b, 0, none⟩)) true t).run C.P w = .ok (.tuple #[.bool true, .int .i64 (m : Int), .int .i32 (((Utf8.decode ⟨l.toArray⟩ m).1 : Nat) : Int)]) (w.putObj b (.stringIter ⟨l.toArray⟩ (m + (Utf8.decode ⟨l.toArray⟩ m).2))) := by
      simp only [Instr.next, getObj, setObj, Sem.run_bind, Sem.run, hb, Result.andThen, hsz, if_true]
      simp [goInt, Sem.run, hb, World.putObj]
    simp [execOp, hs.env.ev hx, h]) k
theorem LW.nextEnd {x : Operand} {b m : Nat} {l : List UInt8} (hd : Nat.blt d C.N = true) (hx : e.ev x = some (.pointer (some ⟨b, 0, none⟩))) (hk : Known C fs (b, .stringIter ⟨l.toArray⟩ m)) (hm : l.length ≤ m)
    (k : LW C ops Q rest ((d, .tuple #[.bool false]) :: e) fs) : LW C ops Q (⟨some d, .next x true, t, pos, af, none⟩ :: rest) e fs :=
  LW.val hd (fun c h => by cases h) (fun a w hs => by
    have hb := hk.get hs.st
    have hsz : ¬ m < (ByteArray.mk l.toArray).size := by simpa [ByteArray.size] using hm
    have h : (Instr.next (.pointer (some ⟨b, 0, none⟩)) true t).run C.P w = .ok (.tuple #[.bool false]) w := by
      simp [Instr.next, getObj, Sem.run, hb, hsz]
    simp [execOp, hs.env.ev hx, h]) k
end lw
theorem decode_lo (l : List UInt8) (m : Nat) (hm : m < l.length) (h : l[m].toNat < 128) : Utf8.decode ⟨l.toArray⟩ m = (l[m].toNat, 1) := by
  have := decode_ascii ⟨l.toArray⟩ m (by simpa [ByteArray.size] using hm) (show l.toArray[m].toNat < 128 by simpa using h)
  rw [this]
  show (l.toArray[m].toNat, 1) = _
  simp
theorem decode_hi (l : List UInt8) (m : Nat) (hm : m < l.length) (h : 128 ≤ l[m].toNat) : 128 ≤ (Utf8.decode ⟨l.toArray⟩ m).1 ∧ (Utf8.decode ⟨l.toArray⟩ m).1 ≤ 2147483647 :=
  ⟨(decode_high ⟨l.toArray⟩ m (by simpa [ByteArray.size] using hm) (show 128 ≤ l.toArray[m].toNat by simpa using h)).1, decode_le _ _⟩
theorem is_str {w : World} {cs : List Value} (h : Ty.str.is w cs) : ∃ l : List UInt8, l.length ≤ maxLen ∧ cs = [sv l] := by
  obtain ⟨s, rfl, hs⟩ := h
  obtain ⟨l, rfl⟩ := str_list s
  exact ⟨l, by simpa [ByteArray.size] using hs, rfl⟩
/-- The cells of strings. -/
def scs (l : List (List UInt8)) : List Value := l.flatMap fun x => [sv x]
theorem scs_one (l : List (List UInt8)) : ∀ x ∈ l, ([sv x] : List Value).length = 1 := fun _ _ => rfl
/-- A call of a body of the model's own that reads memory. -/
theorem LW.callXS {C : Cu} {ops : Array Oper} {Q : Post} {rest : List Oper} {e : Env} {fs : Fs} {d : Nat} {t : TypeId} {pos : String} {af : Array Edge} {fo : Operand} {args : Array Operand} {tys : Array TypeId} {f : FuncId} {vs : List Value} {v : Value} (hd : Nat.blt d C.N = true) (hf : e.ev fo = some (.func (.func f) #[] #[])) (ha : ArgsOk e args.toList vs)
    (h : ∀ w, St C.w0 C.S fs w → (callFunc f vs.toArray).run C.P w = .ok (.value v) w) (k : LW C ops Q rest ((d, v) :: e) fs) : LW C ops Q (⟨some d, .call { callee := .value fo, args := args, argTypes := tys }, t, pos, af, none⟩ :: rest) e fs :=
  LW.val hd (fun c h => by cases h) (fun a w hs => by
    simp [execOp, resolve, invoke, Deferred.ofValue, hs.env.ev hf, ha.arr hs.env.Ev, h w hs.st]) k
end Go.Proofs.YtbhicncgjplnoaaDoor.SL

/-
  A SMALL LOGIC OVER THE KIT's WALK, PART X: maps of one's own; structs' fields.
  Conditions: none; over any program.
-/
namespace Go.Proofs.YtbhicncgjplnoaaDoor.SL
set_option linter.unusedVariables false
set_option linter.unusedSimpArgs false
open Go Go.RowKit Go.MapKept
/-- What a map holds behind a store. -/
def putNow (dd : TypeDesc) (key val : Value) (es : Array MapEntry) (clock : Nat) : Option (Array MapEntry × Nat) :=
  match Instr.findNow dd key es.toList 0 with
  | some none => some (es.push ⟨key, val, clock⟩, clock + 1)
  | some (some (i, _)) => if Instr.sameBits 10000 (((es[i]?).map (·.key)).getD key) key = true then some (es.modify i fun e => { e with key := key, val := val }, clock) else none
  | none => none
theorem mapUpdate_run {P : Program} {T K E : TypeId} {dd : TypeDesc} {b clock clock' : Nat} {es es' : Array MapEntry} {key val : Value} (hU : P.underlying T = some (.map K E)) (hK : P.underlying K = some dd) (hkey : IsKey dd key) (hput : putNow dd key val es clock = some (es', clock')) {w : World} (hb : w.heap[b]? = some (.map es clock)) :
    (Instr.mapUpdate T (.map (some b)) key val).run P w = .ok () (w.putObj b (.map es' clock')) := by
  unfold putNow at hput
  unfold Instr.mapUpdate
  simp only [Sem.run_bind, run_underlying hU, MapKept.run_getObj_map hb, MapKept.run_checkKey hK hkey, Result.andThen_ok]
  split at hput
  · rename_i hf
    simp only [Option.some.injEq, Prod.mk.injEq] at hput
    obtain ⟨rfl, rfl⟩ := hput
    simp only [MapKept.run_findKey hK hf, Result.andThen_ok, MapKept.run_setObj_map _ hb]
    rfl
  · rename_i i v hf
    split at hput
    · rename_i hs
      simp only [Option.some.injEq, Prod.mk.injEq] at hput
      obtain ⟨rfl, rfl⟩ := hput
      simp only [MapKept.run_findKey hK hf, Result.andThen_ok, Instr.keyThatStays, hs, if_true, Sem.run_bind, Sem.run_pure, MapKept.run_setObj_map _ hb]
      rfl
    · cases hput
  · cases hput
/-- What a look-up answers. -/
def lookV (z : Value) (ok : Bool) (r : Option (Nat × Value)) : Value := match r with
  | some (_, v) => if ok then .tuple #[v, .bool true] else v
  | none => if ok then .tuple #[z, .bool false] else z
theorem lookup_run {P : Program} {T K E n : TypeId} {z : Value} {dd : TypeDesc} {b clock : Nat} {es : Array MapEntry} {key : Value} {r : Option (Nat × Value)} (hU : P.underlying T = some (.map K E)) (hK : P.underlying K = some dd) (hI : InfoI P E n z) (hkey : IsKey dd key) (hf : Instr.findNow dd key es.toList 0 = some r) (ok : Bool) {w : World} (hb : w.heap[b]? = some (.map es clock)) :
    (Instr.lookup T (.map (some b)) key ok).run P w = .ok (lookV z ok r) w := by
  unfold lookV
  unfold Instr.lookup
  simp only [Sem.run_bind, run_underlying hU, MapKept.run_getObj_map hb, Sem.run_pure, MapKept.run_checkKey hK hkey, Result.andThen_ok, MapKept.run_findKey hK hf]
  cases r with
  | none => simp only [Sem.run_bind, run_zero, Result.andThen_ok, Sem.run_pure]
  | some x => simp only [Sem.run_bind, Result.andThen_ok, Sem.run_pure]
section lw
variable {C : Cu} {ops : Array Oper} {Q : Post} {rest : List Oper} {e : Env} {fs fs' : Fs} {d : Nat} {t : TypeId} {pos : String} {af : Array Edge}
theorem LW.makeMap {T : TypeId} (hd : Nat.blt d C.N = true) (k : ∀ b, LW C ops Q rest ((d, .map (some b)) :: e) ((b, .map #[] 0) :: fs)) : LW C ops Q (⟨some d, .makeMap T none, t, pos, af, none⟩ :: rest) e fs :=
  LW.new (s := .mp) hd (fun c h => by cases h) (fun a w hs => by
    have h : (Instr.makeMap T none).run C.P w = .ok (.map (some w.heap.size)) (w.alloc (.map #[] 0)) := rfl
    simp [execOp, h, Sh.val]) k
theorem LW.makeMapN {T K E : TypeId} {x : Operand} {ik : IntKind} {n : Int} (hd : Nat.blt d C.N = true) (hU : UnI C.P T (.map K E)) (hx : e.ev x = some (.int ik n)) (k : ∀ b, LW C ops Q rest ((d, .map (some b)) :: e) ((b, .map #[] 0) :: fs)) : LW C ops Q (⟨some d, .makeMap T (some x), t, pos, af, none⟩ :: rest) e fs :=
  LW.new (s := .mp) hd (fun c h => by cases h) (fun a w hs => by
    have hu := hU.un
    have h : (Instr.makeMap T (some (.int ik n))).run C.P w = .ok (.map (some w.heap.size)) (w.alloc (.map #[] 0)) := by
      simp only [Instr.makeMap, Sem.run_bind, run_underlying hu, Result.andThen_ok]
      rfl
    simp [execOp, hs.env.ev hx, h, Sh.val]) k
theorem LW.mapPut {T K E : TypeId} {dd : TypeDesc} {xm xk xv : Operand} {b clock clock' : Nat} {es es' : Array MapEntry} {key val : Value} (hU : UnI C.P T (.map K E)) (hK : UnI C.P K dd) (hm : e.ev xm = some (.map (some b))) (hk : e.ev xk = some key) (hv : e.ev xv = some val) (hset : SetAt fs b (.map es clock) (.map es' clock') fs')
    (hkey : IsKey dd key) (hput : putNow dd key val es clock = some (es', clock')) (k : LW C ops Q rest e fs') : LW C ops Q (⟨none, .mapUpdate T xm xk xv, t, pos, af, none⟩ :: rest) e fs :=
  LW.s0 rfl hset (fun ρ w hρ hb d t pos af g => by simp [execOp, hρ _ _ hm, hρ _ _ hk, hρ _ _ hv, mapUpdate_run hU.un hK.un hkey hput hb]) k
theorem LW.mapIns {T K E : TypeId} {dd : TypeDesc} {xm xk xv : Operand} {b clock clock' : Nat} {es es' : Array MapEntry} {key val : Value} (hU : UnI C.P T (.map K E)) (hK : UnI C.P K dd) (hm : e.ev xm = some (.map (some b))) (hk : e.ev xk = some key) (hv : e.ev xv = some val) (hset : SetAt fs b (.map es clock) (.map es' clock') fs')
    (hkey : IsKey dd key) (hput : putNow dd key val es clock = some (es', clock')) (k : LW C ops Q rest e fs') : LW C ops Q (⟨none, .insert T xm xk xv, t, pos, af, none⟩ :: rest) e fs :=
  LW.s0 rfl hset (fun ρ w hρ hb d t pos af g => by simp [execOp, hρ _ _ hm, hρ _ _ hk, hρ _ _ hv, mapUpdate_run hU.un hK.un hkey hput hb]) k
theorem LW.mapGet {T K E n : TypeId} {z v : Value} {dd : TypeDesc} {xm xk : Operand} {b clock : Nat} {es : Array MapEntry} {key : Value} {r : Option (Nat × Value)} {ok : Bool} (hd : Nat.blt d C.N = true) (hU : UnI C.P T (.map K E)) (hK : UnI C.P K dd) (hI : InfoI C.P E n z) (hm : e.ev xm = some (.map (some b))) (hk : e.ev xk = some key) (hp : Known C fs (b, .map es clock))
    (hkey : IsKey dd key) (hf : Instr.findNow dd key es.toList 0 = some r) (hv : lookV z ok r = v) (k : LW C ops Q rest ((d, v) :: e) fs) : LW C ops Q (⟨some d, .lookup T xm xk ok, t, pos, af, none⟩ :: rest) e fs :=
  LW.val hd (fun c h => by cases h) (fun a w hs => by
    have h := lookup_run (P := C.P) hU.un hK.un hI hkey hf ok (hp.get hs.st)
    simp only [hv] at h
    simp [execOp, hs.env.ev hm, hs.env.ev hk, h]) k
end lw
end Go.Proofs.YtbhicncgjplnoaaDoor.SL

/-
  A SMALL LOGIC OVER THE KIT's WALK, PART Y: structs built and read; arrays cut whole.
  Conditions: none; over any program.
-/
namespace Go.Proofs.YtbhicncgjplnoaaDoor.SL
set_option linter.unusedVariables false
set_option linter.unusedSimpArgs false
open Go Go.RowKit
theorem mapM_sizes {P : Program} {w : World} : ∀ (fs : List Field) (pl : List (Nat × Nat)), (fs.mapM fun f => (P.info? f.type).map fun i => (f.offset, i.size)) = some pl →
    (fs.mapM fun f => (do pure (f.offset, ← sizeOf f.type) : Sem (Nat × Nat))).run P w = .ok pl w
  | [], pl, h => by simp at h; subst h; rfl
  | f :: fs, pl, h => by
    rw [List.mapM_cons] at h ⊢
    cases hi : P.info? f.type with
    | none => rw [hi] at h; cases h
    | some i =>
      rw [hi] at h
      cases hr : (fs.mapM fun f => (P.info? f.type).map fun i => (f.offset, i.size)) with
      | none => rw [hr] at h; cases h
      | some r =>
        rw [hr] at h
        have ih := mapM_sizes (P := P) (w := w) fs r hr
        have he : pl = (f.offset, i.size) :: r := by simpa using h.symm
        subst he
        have hs : (sizeOf f.type).run P w = .ok i.size w := by simp [sizeOf, typeInfo, Sem.run_bind, hi]
        simp only [Sem.run_bind, hs, Result.andThen_ok, Sem.run_pure, ih]
def fillP (pl : List (Nat × Nat)) : Array Value → List (Nat × Value) → Array Value
  | z, [] => z
  | z, (i, v) :: r => match pl[i]? with
    | some (off, _) => fillP pl (wrCells z off v.cells.toList) r
    | none => z
def fillPok (pl : List (Nat × Nat)) (len : Nat) : List (Nat × Value) → Bool
  | [] => true
  | (i, v) :: r => match pl[i]? with
    | some (off, n) => Nat.beq v.cells.size n && Nat.ble (off + n) len && fillPok pl len r
    | none => false
theorem fillP_eq {pl : List (Nat × Nat)} : ∀ (parts : List (Nat × Value)) (z : Array Value), fillPok pl z.size parts = true → Instr.fill (pl[·]?) z parts = some (fillP pl z parts)
  | [], z, _ => rfl
  | (i, v) :: r, z, h => by
    unfold fillPok at h
    unfold Instr.fill fillP
    cases hp : pl[i]? with
    | none => rw [hp] at h; cases h
    | some q =>
      obtain ⟨off, n⟩ := q
      rw [hp] at h
      simp only [Bool.and_eq_true, Nat.beq_eq] at h
      obtain ⟨⟨h1, h2⟩, h3⟩ := h
      have h2 := Nat.le_of_ble_eq_true h2
      have hf : (v.cells.zipIdx.foldl (fun cs (p : Value × Nat) => cs.setIfInBounds (off + p.2) p.1) z) = wrCells z off v.cells.toList := by
        have := foldl_wr v.cells.toList z off 0
        rw [← Array.foldl_toList]
        simpa using this
      have ih := fillP_eq (pl := pl) r (wrCells z off v.cells.toList) (by rw [wrCells_size]; exact h3)
      simp only
      rw [if_neg (by simp [h1]; omega)]
      exact (congrArg (fun q => Instr.fill (pl[·]?) q r) hf).trans ih
section st
variable {P : Program} {e : Env} {T : TypeId} {x : Operand}
theorem ValP.buildT {nT : Nat} {z : Array Value} {parts : Array (Nat × Operand)} {pl : List (Nat × Nat)} {vs : List (Nat × Value)} {c : Array Value} (hS : StrI P T pl) (hI : InfoI P T nT (.agg z)) (hp : PartsOk e parts.toList vs)
    (hok : fillPok pl z.size vs = true) (hcc : fillP pl z vs = c) : ValP P e [] (.build T parts) (.agg c) := fun ρ w hρ _ d t pos af g => by
  have hc : Instr.fill (pl[·]?) z vs = some c := by rw [fillP_eq vs z hok, hcc]
  have h1 : (parts.map fun p => (p.1, ρ p.2)).toList = vs := by simpa using hp.map hρ
  have h2 : (Value.agg z).cells = z := rfl
  have hs := hS.str
  unfold strOf at hs
  split at hs
  · rename_i fs hu
    have hm := mapM_sizes (P := P) (w := w) fs.toList pl hs
    have hm2 : (fs.mapM fun f => (do pure (f.offset, ← sizeOf f.type) : Sem (Nat × Nat))).run P w = .ok pl.toArray w := by
      rw [Array.mapM_eq_mapM_toList]
      show ((fs.toList.mapM fun f => (do pure (f.offset, ← sizeOf f.type) : Sem (Nat × Nat))) >>= fun l => pure l.toArray).run P w = _
      simp only [Sem.run_bind, hm, Result.andThen_ok, Sem.run_pure]
    have h4 : (Instr.build T (parts.map fun p => (p.1, ρ p.2))).run P w = .ok (.agg c) w := by
      unfold Instr.build
      simp only [Sem.run_bind, run_zero, Result.andThen_ok, run_underlying hu, hm2, h1, h2]
      have : Instr.fill (fun i => pl.toArray[i]?) z vs = some c := by simpa using hc
      simp only [this, Sem.run_pure]
    simp only [execOp]
    exact (show ((do pure (.value (← Instr.build T (parts.map fun p => (p.1, ρ p.2)))) : Sem Next)).run P w = .ok (.value (.agg c)) w by simp [h4])
  · cases hs
/-- A field of one cell. -/
theorem ValP.field1 {i fo : Nat} {ft : TypeId} {cs : Array Value} {v : Value} (hF : FldI P T i fo ft) (hA : AgI P ft false) (hx : e.ev x = some (.agg cs)) (hv : nth cs.toList fo = some v) : ValP P e [] (.field T x i) v := fun ρ w hρ _ d t pos af g => by
  obtain ⟨fs, f, h1, h2, h3, h4⟩ := hF.fld
  subst h3; subst h4
  have h5 : cs[f.offset]? = some v := by rw [nth_eq] at hv; simpa using hv
  simp [execOp, hρ x _ hx, Instr.field, Sem.run_bind, run_underlying h1, h2, asAgg, part, run_isAgg, h5]
/-- A field of parts. -/
theorem ValP.fieldA {i fo n : Nat} {ft : TypeId} {cs c : Array Value} {z : Value} (hF : FldI P T i fo ft) (hA : AgI P ft true) (hI : InfoI P ft n z) (hx : e.ev x = some (.agg cs)) (hv : cs.extract fo (fo + n) = c) : ValP P e [] (.field T x i) (.agg c) := fun ρ w hρ _ d t pos af g => by
  obtain ⟨fs, f, h1, h2, h3, h4⟩ := hF.fld
  subst h3; subst h4
  simp [execOp, hρ x _ hx, Instr.field, Sem.run_bind, run_underlying h1, h2, asAgg, part, run_isAgg, run_size, hv]
/-- arr[:] of an array's address. -/
theorem ValP.cutArrAll {n sz b off : Nat} {E : TypeId} {z : Value} (hU : UnI P T (.array n E)) (hI : InfoI P E sz z) (hx : e.ev x = some (.pointer (some ⟨b, off, none⟩))) : ValP P e [] (.slice T x none none none) (.slice (some ⟨b, off, none⟩) n n) := fun ρ w hρ _ d t pos af g => by
  have hu := hU.un
  have h1 : (Instr.sliceAt T (.pointer (some ⟨b, off, none⟩)) none none none).run P w = .ok (.slice (some ⟨b, off, none⟩) n n) w := by
    have hal : P.arrayLen T = n := by rw [Program.arrayLen, hu]
    have hel : P.elem T = E := by rw [Program.elem, hu]
    have h2 := run_sliceAt_array_all (P := P) w T ⟨b, off, none⟩ (by rw [hal, hel]; exact hu)
    rw [hel, run_size, hal] at h2
    rw [h2]
    simp only [Result.andThen_ok, slicedAt, Nat.zero_mul, Nat.sub_zero]
    simp [Addr.add]
  simp [execOp, hρ x _ hx, h1]
end st
/-- Elements of a row of some parts. -/
theorem row_of {α : Type} {g : α → List Value} {E : TypeId} {sz : Nat} {b : Nat} {l : List α} {w0 w : World} {S : List Nat} {fs : Fs} (hg : ∀ a ∈ l, (g a).length = sz) (hl : l.length ≤ maxLen) : IsRow E sz (.slice (some ⟨b, 0, none⟩) l.length l.length) l.length (l.flatMap g) [(b, .cells (l.flatMap g).toArray E (0, 0))] :=
  .own (Nat.le_refl _) hl (by rw [List.size_toArray, flat_len hg]) (by rw [← flat_len hg]; exact List.take_length) (flat_len hg)
end Go.Proofs.YtbhicncgjplnoaaDoor.SL

/-
  A SMALL LOGIC OVER THE KIT's WALK, PART Z: slices laid of many; rows of numbers.
  Conditions: none; over any program.
-/
namespace Go.Proofs.YtbhicncgjplnoaaDoor.SL
set_option linter.unusedVariables false
set_option linter.unusedSimpArgs false
open Go Go.RowKit
theorem NewP.buildSN {P : Program} {e : Env} {T E size len : Nat} {z : Value} {parts : Array (Nat × Operand)} {vs : List (Nat × Value)} {c : Array Value} (hU : UnI P T (.slice E)) (hI : InfoI P E size z) (hp : PartsOk e parts.toList vs) (hl : Nat.blt 0 (len * size) = true) (hl' : Nat.ble (len * size) 1000000 = true)
    (hok : fillOk size ((Array.range (len * size)).map (z.cells[· % z.cells.size]!)).size vs = true) (hc : fillC size ((Array.range (len * size)).map (z.cells[· % z.cells.size]!)) vs = c) : NewP P e (.buildSlice T len parts) (.sl len len) (.cells c E (0, 0)) := fun ρ w hρ d t pos af g => by
  have h0 : 0 < len * size := by simpa [Nat.blt_eq] using hl
  have h1 := Nat.le_of_ble_eq_true hl'
  have hf := fill_eq (sz := size) vs _ hok
  rw [hc] at hf
  have hpm : (parts.map fun p => (p.1, ρ p.2)).toList = vs := by simpa using hp.map hρ
  have hr : (Instr.buildSlice T len (parts.map fun p => (p.1, ρ p.2))).run P w = .ok ((Sh.sl len len).val w.heap.size) (w.alloc (.cells c E (0, 0))) := by
    unfold Instr.buildSlice
    simp only [Sem.run_bind, run_un, run_size, Result.andThen_ok]
    have hne : ¬ (len * size > 2 ^ 24) := by omega
    have hnz : ¬ (len * size = 0) := by omega
    simp only [hne, hnz, if_false, Sem.run_bind, run_zero, Result.andThen_ok, Sem.run_pure, hpm, hf]
    simp [newRow, Sh.val]
  simp only [execOp]
  exact (show ((do pure (.value (← Instr.buildSlice T len (parts.map fun p => (p.1, ρ p.2)))) : Sem Next)).run P w = _ by simp only [Sem.run_bind, hr]; rfl)
/-- The cells of numbers. -/
def ncs (l : List Nat) : List Value := l.flatMap fun (x : Nat) => [Value.int .u64 (x : Int)]
theorem ncs_one (l : List Nat) : ∀ x ∈ l, ([Value.int .u64 (x : Int)] : List Value).length = 1 := fun _ _ => rfl
theorem ncs_map (l : List Nat) : ncs l = l.map fun (x : Nat) => Value.int .u64 (x : Int) := by
  induction l with
  | nil => rfl
  | cons a l ih => simp [ncs] at *; exact ih
theorem ncs_len (l : List Nat) : (ncs l).length = l.length := by rw [ncs_map, List.length_map]
theorem ncs_take (l : List Nat) (k : Nat) : (ncs l).take (k * 1) = ncs (l.take k) := by rw [ncs_map, ncs_map, Nat.mul_one, List.map_take]
theorem ncs_drop (l : List Nat) (k : Nat) : (ncs l).drop (k * 1) = ncs (l.drop k) := by rw [ncs_map, ncs_map, Nat.mul_one, List.map_drop]
theorem is_num {w : World} {cs : List Value} (h : (Ty.int .u64).is w cs) : ∃ x : Nat, x < 18446744073709551616 ∧ cs = [Value.int .u64 (x : Int)] := by
  obtain ⟨n, rfl, hn⟩ := h
  obtain ⟨k, rfl, hk⟩ := wf_u64 hn
  exact ⟨k, hk, rfl⟩
/-- A whole block read as a row. -/
theorem row_cells {w : World} {b n sz : Nat} {cs : Array Value} {E : TypeId} {fr : Nat × Nat} {xs : List Value} (hb : w.heap[b]? = some (.cells cs E fr)) (hx : cs.toList = xs) (hl : xs.length = n * sz) (hn : n ≤ maxLen) : RowAt w sz (.slice (some ⟨b, 0, none⟩) n n) n xs :=
  ⟨⟨_, _, rfl, Nat.le_refl _, hn⟩, hl, fun _ => ⟨b, 0, n, cs, E, fr, rfl, hb, by rw [List.drop_zero, hx, ← hl]; exact List.take_length⟩, .own hb⟩
end Go.Proofs.YtbhicncgjplnoaaDoor.SL

/-
  A SMALL LOGIC OVER THE KIT's WALK, PART MA: min and max of three.
  Conditions: none; over any program.
-/
namespace Go.Proofs.YtbhicncgjplnoaaDoor.SL
set_option linter.unusedVariables false
set_option linter.unusedSimpArgs false
open Go Go.RowKit
section mm
variable {P : Program} {e : Env} {ik : IntKind} {m n k : Nat} {x y z : Operand} {tys : Array TypeId}
theorem ValP.max3 (hx : e.ev x = some (.int ik (m : Int))) (hy : e.ev y = some (.int ik (n : Int))) (hz : e.ev z = some (.int ik (k : Int))) : ValP P e [] (.call { callee := .builtin .max, args := #[x, y, z], argTypes := tys }) (.int ik ((max (max m n) k : Nat) : Int)) := fun ρ w hρ _ d t pos af g => by
  have h2 : (Builtin.max_ tys t #[.int ik (m : Int), .int ik (n : Int), .int ik (k : Int)]).run P w = .ok (.int ik ((max (max m n) k : Nat) : Int)) w := by
    have h : (if (k : Int) > (if (n : Int) > (m : Int) then (n : Int) else (m : Int)) then (k : Int) else (if (n : Int) > (m : Int) then (n : Int) else (m : Int))) = ((max (max m n) k : Nat) : Int) := by split <;> split at * <;> omega
    rw [← h]
    simp [Builtin.max_, Builtin.max2]
  simp [execOp, resolve, invoke, builtin, hρ x _ hx, hρ y _ hy, hρ z _ hz, h2]
theorem ValP.min3 (hx : e.ev x = some (.int ik (m : Int))) (hy : e.ev y = some (.int ik (n : Int))) (hz : e.ev z = some (.int ik (k : Int))) : ValP P e [] (.call { callee := .builtin .min, args := #[x, y, z], argTypes := tys }) (.int ik ((min (min m n) k : Nat) : Int)) := fun ρ w hρ _ d t pos af g => by
  have h2 : (Builtin.min_ tys t #[.int ik (m : Int), .int ik (n : Int), .int ik (k : Int)]).run P w = .ok (.int ik ((min (min m n) k : Nat) : Int)) w := by
    have h : (if (k : Int) < (if (n : Int) < (m : Int) then (n : Int) else (m : Int)) then (k : Int) else (if (n : Int) < (m : Int) then (n : Int) else (m : Int))) = ((min (min m n) k : Nat) : Int) := by split <;> split at * <;> omega
    rw [← h]
    simp [Builtin.min_, Builtin.min2]
  simp [execOp, resolve, invoke, builtin, hρ x _ hx, hρ y _ hy, hρ z _ hz, h2]
end mm
end Go.Proofs.YtbhicncgjplnoaaDoor.SL

/-
  A SMALL LOGIC OVER THE KIT's WALK, PART MB: rows of two words and a truth value; rows of three truth values.
  Conditions: none; over any program.
-/
namespace Go.Proofs.YtbhicncgjplnoaaDoor.SL
set_option linter.unusedVariables false
set_option linter.unusedSimpArgs false
open Go Go.RowKit
abbrev WWB := Nat × Nat × Bool
abbrev BBB := Bool × Bool × Bool
def svc (x : WWB) : List Value := (wc x.1).toList ++ (wc x.2.1).toList ++ [.bool x.2.2]
def bbc (x : BBB) : List Value := [.bool x.1, .bool x.2.1, .bool x.2.2]
def Ty.wwb : Ty := .pair .word (.pair .word (.pair .bool .unit))
def Ty.bbb : Ty := .pair .bool (.pair .bool (.pair .bool .unit))
theorem is_wwb {w : World} {cs : List Value} (h : Ty.wwb.is w cs) : ∃ x : WWB, (x.1 < M256 ∧ x.2.1 < M256) ∧ cs = svc x := by
  obtain ⟨h1, h2, ⟨k, h3⟩, h4⟩ := h
  obtain ⟨a, ha, ea⟩ := is_word h1
  obtain ⟨b, hb, eb⟩ := is_word h2
  refine ⟨(a, b, k), ⟨ha, hb⟩, ?_⟩
  simp only [Ty.word, Ty.cells, Nat.mul_one] at ea eb h3
  have h4' : (((cs.drop 4).drop 4).drop 1) = [] := h4
  have e1 := List.take_append_drop 4 cs
  have e2 := List.take_append_drop 4 (cs.drop 4)
  have e3 := List.take_append_drop 1 ((cs.drop 4).drop 4)
  rw [ea] at e1
  rw [eb] at e2
  rw [h3, h4'] at e3
  exact e1.symm.trans (by rw [← e2, ← e3]; simp [svc])
theorem is_bbb {w : World} {cs : List Value} (h : Ty.bbb.is w cs) : ∃ x : BBB, cs = bbc x := by
  obtain ⟨⟨a, h1⟩, ⟨b, h2⟩, ⟨c, h3⟩, h4⟩ := h
  refine ⟨(a, b, c), ?_⟩
  simp only [Ty.cells] at h1 h2 h3
  have h4' : (((cs.drop 1).drop 1).drop 1) = [] := h4
  have e1 := List.take_append_drop 1 cs
  have e2 := List.take_append_drop 1 (cs.drop 1)
  have e3 := List.take_append_drop 1 ((cs.drop 1).drop 1)
  rw [h1] at e1
  rw [h2] at e2
  rw [h3, h4'] at e3
  exact e1.symm.trans (by rw [← e2, ← e3]; simp [bbc])
theorem svc_len (l : List WWB) : ∀ x ∈ l, (svc x).length = 9 := fun _ _ => rfl
theorem bbc_len (l : List BBB) : ∀ x ∈ l, (bbc x).length = 3 := fun _ _ => rfl
/-- The value of two words and a truth value. -/
def svv (a b : Nat) (k : Bool) : Array Value := (svc (a, b, k)).toArray
theorem svv_rd0 {P : Program} {T : TypeId} {z : Value} [AgI P T true] [InfoI P T 4 z] {a b : Nat} {k : Bool} {E : TypeId} {fr : Nat × Nat} : Rd P T (.cells (svv a b k) E fr) 0 (wv a) := Rd.mid (cs := (wc a).toList) rfl rfl
theorem svv_rd1 {P : Program} {T : TypeId} {z : Value} [AgI P T true] [InfoI P T 4 z] {a b : Nat} {k : Bool} {E : TypeId} {fr : Nat × Nat} : Rd P T (.cells (svv a b k) E fr) 4 (wv b) := Rd.mid (cs := (wc b).toList) rfl rfl
theorem svv_rd2 {P : Program} {T : TypeId} [AgI P T false] {a b : Nat} {k : Bool} {E : TypeId} {fr : Nat × Nat} : Rd P T (.cells (svv a b k) E fr) 8 (.bool k) := Rd.one rfl
end Go.Proofs.YtbhicncgjplnoaaDoor.SL

/-
  A SMALL LOGIC OVER THE KIT's WALK, PART MC: arrays of numbers, read and written at told places.
  Conditions: none; over any program.
-/
namespace Go.Proofs.YtbhicncgjplnoaaDoor.SL
set_option linter.unusedVariables false
set_option linter.unusedSimpArgs false
open Go Go.RowKit
/-- An array of numbers. -/
def nca (L : List Nat) : Array Value := (ncs L).toArray
theorem nca_size (L : List Nat) : (nca L).size = L.length := by simp [nca, ncs_len]
theorem nca_get (L : List Nat) (i : Nat) (hi : i < L.length) : (nca L)[i]? = some (.int .u64 ((L.getD i 0 : Nat) : Int)) := by
  simp [nca, ncs_map, hi, List.getD_eq_getElem?_getD]
theorem nth_nca (L : List Nat) (i : Nat) (hi : i < L.length) : nth (nca L).toList i = some (.int .u64 ((L.getD i 0 : Nat) : Int)) := by
  rw [nth_eq]; simpa using nca_get L i hi
section rd
variable {P : Program} {T E : TypeId} {fr : Nat × Nat} {L : List Nat} {i x : Nat}
theorem rd_nca [AgI P T false] (hi : i < L.length) : Rd P T (.cells (nca L) E fr) (0 + i * 1) (.int .u64 ((L.getD i 0 : Nat) : Int)) :=
  Rd.one (by rw [Nat.zero_add, Nat.mul_one]; exact nca_get L i hi)
theorem rd_ncaL [AgI P T false] (hi : i < L.length) : Rd P T (.cells (nca L) E fr) i (.int .u64 ((L.getD i 0 : Nat) : Int)) :=
  Rd.one (nca_get L i hi)
theorem rd_nca0 [AgI P T false] (hi : 0 < L.length) : Rd P T (.cells (nca L) E fr) (0 + 0 * 1) (.int .u64 ((L.getD 0 0 : Nat) : Int)) := rd_nca hi
theorem rd_ncaW {n : Nat} {z : Value} [AgI P T true] [InfoI P T n z] (h : L.length = n) : Rd P T (.cells (nca L) E fr) 0 (.agg (nca L)) := Rd.whole (by rw [nca_size, h])
theorem nca_set (L : List Nat) (i x : Nat) : wrCells (nca L) i [Value.int .u64 (x : Int)] = nca (L.set i x) := by
  simp [wrCells, nca, ncs_map, List.map_set]
theorem wr_nca {z : Value} [InfoI P T 1 z] (hi : i < L.length) : Wr P T (.cells (nca L) E (0, 0)) (0 + i * 1) (.int .u64 (x : Int)) (.cells (nca (L.set i x)) E (0, 0)) :=
  Wr.cells (n := 1) (z := z) rfl rfl (by rw [nca_size]; omega) (by rw [Nat.zero_add, Nat.mul_one]; exact nca_set L i x)
theorem wr_ncaL {z : Value} [InfoI P T 1 z] (hi : i < L.length) : Wr P T (.cells (nca L) E (0, 0)) i (.int .u64 (x : Int)) (.cells (nca (L.set i x)) E (0, 0)) :=
  Wr.cells (n := 1) (z := z) rfl rfl (by rw [nca_size]; omega) (nca_set L i x)
theorem wr_nca0 {z : Value} [InfoI P T 1 z] (hi : 0 < L.length) : Wr P T (.cells (nca L) E (0, 0)) (0 + 0 * 1) (.int .u64 (x : Int)) (.cells (nca (L.set 0 x)) E (0, 0)) := wr_nca hi
theorem wr_ncaW {n : Nat} {z : Value} {K : List Nat} [InfoI P T n z] (h : K.length = n) (h2 : L.length = n) : Wr P T (.cells (nca K) E (0, 0)) 0 (.agg (nca L)) (.cells (nca L) E (0, 0)) :=
  Wr.whole (by rw [nca_size, h]) (by rw [nca_size, h2]) (by simp [nca, ncs_map, Value.oneCell'])
theorem wr_ncaO {n : Nat} {z : Value} {cs : Array Value} [InfoI P T n z] (h : cs.size = n) (h2 : L.length = n) : Wr P T (.cells cs E (0, 0)) 0 (.agg (nca L)) (.cells (nca L) E (0, 0)) :=
  Wr.whole h (by rw [nca_size, h2]) (by simp [nca, ncs_map, Value.oneCell'])
end rd
end Go.Proofs.YtbhicncgjplnoaaDoor.SL

/-
  A SMALL LOGIC OVER THE KIT's WALK, PART MD: rows of bytes of our own, copy, cuts with three bounds, numbers of eight bits.
  Conditions: none; over any program.
-/
namespace Go.Proofs.YtbhicncgjplnoaaDoor.SL
set_option linter.unusedVariables false
set_option linter.unusedSimpArgs false
open Go Go.RowKit
/-- A row of bytes, whole. -/
def uca (l : List UInt8) : Array Value := (ucs l).toArray
theorem uca_size (l : List UInt8) : (uca l).size = l.length := by simp [uca, ucs_len]
theorem uca_get (l : List UInt8) (i : Nat) (hi : i < l.length) : (uca l)[i]? = some (.int .u8 ((l.getD i 0).toNat : Int)) := by
  simp [uca, ucs_map, hi, List.getD_eq_getElem?_getD]
theorem nth_uca (l : List UInt8) (i : Nat) (hi : i < l.length) : nth (uca l).toList i = some (.int .u8 ((l.getD i 0).toNat : Int)) := by
  rw [nth_eq]; simpa using uca_get l i hi
theorem uca_set (l : List UInt8) (i x : Nat) (hx : x < 256) : wrCells (uca l) i [Value.int .u8 (x : Int)] = uca (l.set i (UInt8.ofNat x)) := by
  have h : (UInt8.ofNat x).toNat = x := by rw [UInt8.toNat_ofNat']; omega
  simp [wrCells, uca, ucs_map, List.map_set, h, Nat.mod_eq_of_lt hx]
section rd
variable {P : Program} {T E : TypeId} {fr : Nat × Nat} {l : List UInt8} {i x off : Nat}
theorem rd_uca [AgI P T false] (hi : i < l.length) : Rd P T (.cells (uca l) E fr) (0 + i * 1) (.int .u8 ((l.getD i 0).toNat : Int)) :=
  Rd.one (by rw [Nat.zero_add, Nat.mul_one]; exact uca_get l i hi)
theorem rd_ucaO [AgI P T false] (hi : off + i < l.length) : Rd P T (.cells (uca l) E fr) (off + i * 1) (.int .u8 ((l.getD (off + i) 0).toNat : Int)) :=
  Rd.one (by rw [Nat.mul_one]; exact uca_get l (off + i) hi)
theorem rd_ucaW {n : Nat} {z : Value} [AgI P T true] [InfoI P T n z] (h : l.length = n) : Rd P T (.cells (uca l) E fr) 0 (.agg (uca l)) := Rd.whole (by rw [uca_size, h])
theorem wr_uca {z : Value} [InfoI P T 1 z] (hi : i < l.length) (hx : x < 256) : Wr P T (.cells (uca l) E (0, 0)) (0 + i * 1) (.int .u8 (x : Int)) (.cells (uca (l.set i (UInt8.ofNat x))) E (0, 0)) :=
  Wr.cells (n := 1) (z := z) rfl rfl (by rw [uca_size]; omega) (by rw [Nat.zero_add, Nat.mul_one]; exact uca_set l i x hx)
theorem wr_ucaW {n : Nat} {z : Value} {k : List UInt8} [InfoI P T n z] (h : k.length = n) (h2 : l.length = n) : Wr P T (.cells (uca k) E (0, 0)) 0 (.agg (uca l)) (.cells (uca l) E (0, 0)) :=
  Wr.whole (by rw [uca_size, h]) (by rw [uca_size, h2]) (by simp [uca, ucs_map, Value.oneCell'])
theorem wr_ucaO {n : Nat} {z : Value} {cs : Array Value} [InfoI P T n z] (h : cs.size = n) (h2 : l.length = n) : Wr P T (.cells cs E (0, 0)) 0 (.agg (uca l)) (.cells (uca l) E (0, 0)) :=
  Wr.whole h (by rw [uca_size, h2]) (by simp [uca, ucs_map, Value.oneCell'])
end rd
/-- A row of ours, as one that may be read. -/
theorem own_row {w : World} {g off n c : Nat} {l : List UInt8} {E : TypeId} {fr : Nat × Nat} (h : w.heap[g]? = some (.cells (uca l) E fr)) (hn : off + n ≤ l.length) (hc : n ≤ c) (hm : c ≤ maxLen) :
    RowAt w 1 (.slice (some ⟨g, off, none⟩) n c) n (ucs ((l.drop off).take n)) :=
  ⟨⟨_, _, rfl, hc, hm⟩, by rw [ucs_len, List.length_take, List.length_drop]; omega, fun _ => ⟨g, off, c, _, E, fr, rfl, h, by simp [uca, ucs_map, List.map_drop, List.map_take]⟩, fun p k d hv => by
    cases hv; exact .inr (.inr ⟨g, off, _, rfl, h⟩)⟩
section num
variable {P : Program} {e : Env} {T ty : TypeId} {x y : Operand} {m n : Nat}
theorem ofInt8 (m : Nat) (hm : m < 256) : (BitVec.ofInt 8 (m : Int)).toNat = m := by
  simp only [BitVec.ofInt_natCast, BitVec.toNat_ofNat]; omega
theorem ValP.orB (hx : e.ev x = some (.int .u8 (m : Int))) (hy : e.ev y = some (.int .u8 (n : Int))) (hm : m < 256) (hn : n < 256) : ValP P e [] (.binOp .or T x y ty) (.int .u8 ((m ||| n : Nat) : Int)) :=
  .bin hx hy (fun w => guard_int w) fun w => by
    have h : m ||| n < 256 := Nat.or_lt_two_pow (n := 8) hm hn
    have hb : bits .or .u8 (m : Int) (n : Int) = ((m ||| n : Nat) : Int) := by
      show IntKind.u8.wrap (((BitVec.ofInt 8 (m : Int) ||| BitVec.ofInt 8 (n : Int)).toNat : Nat) : Int) = _
      rw [BitVec.toNat_or, ofInt8 m hm, ofInt8 n hn, wrapB]
      omega
    rw [binOp_or, intBits_or, hb]; rfl
theorem ValP.addB (hx : e.ev x = some (.int .u8 (m : Int))) (hy : e.ev y = some (.int .u8 (n : Int))) : ValP P e [] (.binOp .add T x y ty) (.int .u8 (((m + n) % 256 : Nat) : Int)) :=
  .bin hx hy (fun w => guard_int w) fun w => by simp [binOp_add, Op.intArith, wrapB]
theorem ValP.mulB (hx : e.ev x = some (.int .u8 (m : Int))) (hy : e.ev y = some (.int .u8 (n : Int))) : ValP P e [] (.binOp .mul T x y ty) (.int .u8 (((m * n) % 256 : Nat) : Int)) :=
  .bin hx hy (fun w => guard_int w) fun w => by simp [binOp_mul, Op.intArith, wrapB]
theorem ValP.subB (hx : e.ev x = some (.int .u8 (m : Int))) (hy : e.ev y = some (.int .u8 (n : Int))) (hm : m < 256) (h : n ≤ m) : ValP P e [] (.binOp .sub T x y ty) (.int .u8 ((m - n : Nat) : Int)) :=
  .bin hx hy (fun w => guard_int w) fun w => by
    have h1 : ((m : Int) - n) % 256 = ((m - n : Nat) : Int) := by omega
    simp [binOp_sub, Op.intArith, wrapB, h1]
theorem ValP.quoB (hx : e.ev x = some (.int .u8 (m : Int))) (hy : e.ev y = some (.int .u8 (n : Int))) (hm : m < 256) (h : 0 < n) : ValP P e [] (.binOp .quo T x y ty) (.int .u8 ((m / n : Nat) : Int)) :=
  .bin hx hy (fun w => guard_int w) fun w => by
    have h0 : (n : Int) ≠ 0 := by omega
    have h1 : (m : Int).tdiv n = ((m / n : Nat) : Int) := by rw [tdiv_nonneg _ _ (by omega)]; simp
    have h3 : m / n ≤ m := Nat.div_le_self _ _
    have h4 : n ≠ 0 := by omega
    have h2 : IntKind.u8.wrap ((m / n : Nat) : Int) = ((m / n : Nat) : Int) := by
      rw [wrapB]
      generalize m / n = q at h3 ⊢
      omega
    simp only [binOp_quo, Op.intDiv, h1, h2]
    simp [h4]
theorem ValP.remB (hx : e.ev x = some (.int .u8 (m : Int))) (hy : e.ev y = some (.int .u8 (n : Int))) (h : 0 < n) : ValP P e [] (.binOp .rem T x y ty) (.int .u8 ((m % n : Nat) : Int)) :=
  .bin hx hy (fun w => guard_int w) fun w => by
    have h0 : n ≠ 0 := by omega
    simp [binOp_rem, Op.intDiv, h0, Int.tmod_eq_emod_of_nonneg (show (0 : Int) ≤ m by omega)]
theorem ValP.orBL (hx : e.ev x = some (.int .u8 (m : Int))) (hy : e.ev y = some (.int .u8 (OfNat.ofNat n))) (_ : n = n) (h0 : m < 256) (h1 : (OfNat.ofNat n : Nat) < 256) : ValP P e [] (.binOp .or T x y ty) (.int .u8 ((m ||| (OfNat.ofNat n : Nat) : Nat) : Int)) := .orB hx hy h0 h1
theorem ValP.quoBL (hx : e.ev x = some (.int .u8 (m : Int))) (hy : e.ev y = some (.int .u8 (OfNat.ofNat n))) (_ : n = n) (h0 : m < 256) (h1 : 0 < (OfNat.ofNat n : Nat)) : ValP P e [] (.binOp .quo T x y ty) (.int .u8 ((m / (OfNat.ofNat n : Nat) : Nat) : Int)) := .quoB hx hy h0 h1
theorem ValP.remBL (hx : e.ev x = some (.int .u8 (m : Int))) (hy : e.ev y = some (.int .u8 (OfNat.ofNat n))) (_ : n = n) (h1 : 0 < (OfNat.ofNat n : Nat)) : ValP P e [] (.binOp .rem T x y ty) (.int .u8 ((m % (OfNat.ofNat n : Nat) : Nat) : Int)) := .remB hx hy h1
theorem ValP.subBL (hx : e.ev x = some (.int .u8 (m : Int))) (hy : e.ev y = some (.int .u8 (OfNat.ofNat n))) (_ : n = n) (h0 : m < 256) (h1 : (OfNat.ofNat n : Nat) ≤ m) : ValP P e [] (.binOp .sub T x y ty) (.int .u8 ((m - (OfNat.ofNat n : Nat) : Nat) : Int)) := .subB hx hy h0 h1
theorem ValP.addBL (hx : e.ev x = some (.int .u8 (m : Int))) (hy : e.ev y = some (.int .u8 (OfNat.ofNat n))) (_ : n = n) : ValP P e [] (.binOp .add T x y ty) (.int .u8 (((m + (OfNat.ofNat n : Nat)) % 256 : Nat) : Int)) := .addB hx hy
theorem ValP.mulBK (hx : e.ev x = some (.int .u8 (OfNat.ofNat m))) (hy : e.ev y = some (.int .u8 (n : Int))) (_ : m = m) : ValP P e [] (.binOp .mul T x y ty) (.int .u8 ((((OfNat.ofNat m : Nat) * n) % 256 : Nat) : Int)) := .mulB hx hy
/-- x[i:j:k] -/
theorem ValP.cut3 {ik il im : IntKind} {E i j k c sz : Nat} {z : Value} {p : Option Addr} {lo hi mx : Operand} (hU : UnI P T (.slice E)) (hI : InfoI P E sz z) (hx : e.ev x = some (.slice p n c)) (hl : e.ev lo = some (.int il (i : Int))) (hh : e.ev hi = some (.int ik (j : Int))) (hm : e.ev mx = some (.int im (k : Int))) (h1 : i ≤ j) (h2 : j ≤ k) (h3 : k ≤ c) (h4 : i < k) :
    ValP P e [] (.slice T x (some lo) (some hi) (some mx)) (.slice (p.map (·.add (i * sz))) (j - i) (k - i)) := fun ρ w hρ _ d t pos af g => by
  have hu : P.underlying T = some (.slice E) := hU.un
  have h1 := run_slice_lhm (P := P) w T p n c (elem_un hu) il ik im (i : Int) (j : Int) (k : Int) (by omega) (by omega) (by omega) (by omega)
  rw [elem_eq hu, run_size] at h1
  have h2 : (Instr.sliceAt T (.slice p n c) (some (.int il (i : Int))) (some (.int ik (j : Int))) (some (.int im (k : Int)))).run P w = .ok (.slice (p.map (·.add (i * sz))) (j - i) (k - i)) w := by
    rw [run_sliceAt_slice (w := w) T _ _ _ _ (elem_un hu), h1]
    simp only [Result.andThen_ok, sliced, Int.toNat_natCast]
    rw [if_neg (by omega)]
  simp [execOp, hρ x _ hx, hρ lo _ hl, hρ hi _ hh, hρ mx _ hm, h2]
end num
theorem put_same {w : World} {g : Nat} {o : Obj} (h : w.heap[g]? = some o) : w.putObj g o = w := by
  obtain ⟨hlt, rfl⟩ := Array.getElem?_eq_some_iff.1 h
  simp [World.putObj, Array.setIfInBounds, hlt]
theorem setRow_put {w : World} {g : Nat} {cs cur : Array Value} {E : TypeId} (h : w.heap[g]? = some (.cells cur E (0, 0))) : w.setRow g cs = w.putObj g (.cells cs E (0, 0)) := by
  unfold World.setRow World.putObj
  have hlt := (Array.getElem?_eq_some_iff.1 h).1
  congr 1
  apply Array.ext_getElem?
  intro i
  by_cases hi : g = i
  · subst hi; rw [Array.getElem?_modify, if_pos rfl, h]; simp [hlt]
  · simp [Array.getElem?_modify, hi]
theorem NewP.make0 {P : Program} {e : Env} {T E sz bytes : Nat} {z : Value} {x y : Operand} {ik il : IntKind} {c : Nat} (hU : UnI P T (.slice E)) (hI : InfoI P E sz z) (hB : BytI P E bytes) (hx : e.ev x = some (.int ik 0)) (hy : e.ev y = some (.int il (c : Int))) (hb : c * bytes ≤ 281474976710656) (h63 : c ≤ 9223372036854775807) :
    NewP P e (.makeSlice T x y) (.sl 0 c) (.cells (madeCells z.cells (c * sz)) E (0, 0)) := fun ρ w hρ d t pos af g => by
  obtain ⟨i, i1, i2, i3, i4⟩ := info_all (P := P) (T := E)
  have hbb : (c : Int) * (bytes : Int) ≤ 281474976710656 := by
    rw [← Int.natCast_mul]
    omega
  have hr := run_make (P := P) w T E i z hU.un i1 i3 ik il 0 (c : Int) (by omega) (by omega) (by rw [i4, Int.mul_comm]; exact hbb) (by omega)
  simp only [Int.toNat_natCast, i2] at hr
  simp [execOp, hρ x _ hx, hρ y _ hy, hr, Sh.val]
theorem NewP.lay2 {P : Program} {e : Env} {T E : Nat} {x y : Operand} {a b : Int} (hU : UnI P T (.slice E)) (hI : InfoI P E 1 (.int .u8 0)) (hx : e.ev x = some (.int .u8 a)) (hy : e.ev y = some (.int .u8 b)) : NewP P e (.buildSlice T 2 #[(0, x), (1, y)]) (.sl 2 2) (.cells #[.int .u8 a, .int .u8 b] E (0, 0)) :=
  NewP.buildSN (vs := [(0, .int .u8 a), (1, .int .u8 b)]) hU hI (.cons hx (.cons hy .nil)) rfl rfl (by kernel_rfl) (by kernel_rfl)
section dw
variable {C : Cu} {ops : Array Oper} {Q : Post} {tl rest : List Oper} {e : Env} {ts : Ts} {μ : Mu} {k d : Nat} {op : Op} {t : TypeId} {pos : String} {af : Array Edge} {g : Option (Nat × Bool)}
theorem DW.lay2 {T E : TypeId} {x y : Operand} {a b : Int} (hk : ops[k]? = some ⟨some d, .buildSlice T 2 #[(0, x), (1, y)], t, pos, af, g⟩) (hm : μ k = none) (hd : Nat.blt d C.N = true) (hg : WantT ops e g) (hU : UnI C.P T (.slice E)) (hI : InfoI C.P E 1 (.int .u8 0)) (hx : e.ev x = some (.int .u8 a)) (hy : e.ev y = some (.int .u8 b))
    (kk : ∀ b', DW C ops μ Q tl rest (k + 1) ((d, .slice (some ⟨b', 0, none⟩) 2 2) :: e) ((b', .cells #[.int .u8 a, .int .u8 b] E (0, 0), [k], []) :: ts)) : DW C ops μ Q tl (⟨some d, .buildSlice T 2 #[(0, x), (1, y)], t, pos, af, g⟩ :: rest) k e ts :=
  DW.new hk hm hd hg rfl (NewP.lay2 hU hI hx hy) kk
end dw
section lw
variable {C : Cu} {ops : Array Oper} {Q : Post} {rest : List Oper} {e : Env} {fs : Fs} {d : Nat} {t : TypeId} {pos : String} {af : Array Edge}
/-- **make** of n elements of one cell each: a row of ours, told. -/
theorem LW.makeOwn {T E bytes : Nat} {z : Value} {x : Operand} {ik : IntKind} {n : Nat} (hd : Nat.blt d C.N = true) (hU : UnI C.P T (.slice E)) (hI : InfoI C.P E 1 z) (hB : BytI C.P E bytes) (hz : z.cells = #[z]) (hx : e.ev x = some (.int ik (n : Int))) (hb : n * bytes ≤ 281474976710656) (h63 : n ≤ maxLen)
    (k : ∀ g, LW C ops Q rest ((d, .slice (some ⟨g, 0, none⟩) n n) :: e) ((g, .cells (List.replicate n z).toArray E (0, 0)) :: fs)) : LW C ops Q (⟨some d, .makeSlice T x x, t, pos, af, none⟩ :: rest) e fs :=
  LW.n0 hd rfl (.makeSlice hU hI hB hx hb (by simpa [maxLen] using h63)) fun g => by
    have h : madeCells z.cells (n * 1) = (List.replicate n z).toArray := by rw [← made_one hz]
    rw [h]; exact k g
/-- **copy(x, y)**: x a row of ours, y a row that may be read, not longer. -/
theorem LW.copyAt {x y : Operand} {tys : Array TypeId} {T E bytes : TypeId} {z vx : Value} {g off dLen dCap m : Nat} {cur : Array Value} {E' : TypeId} {news : List Value} {fs' : Fs} (hd : Nat.blt d C.N = true) (hT : tys = #[T, T]) (hU : UnI C.P T (.slice E)) (hI : InfoI C.P E 1 z) (hB : BytI C.P E bytes)
    (hx : e.ev x = some (.slice (some ⟨g, off, none⟩) dLen dCap)) (hy : e.ev y = some vx) (hat : ∀ w, St C.w0 C.S fs w → RowAt w 1 vx m news) (h1 : ∀ u ∈ news, u.oneCell' = true) (hm : m ≤ dLen) (hfit : off + m ≤ cur.size)
    (hset : SetAt fs g (.cells cur E' (0, 0)) (.cells (cur.toList.take off ++ news ++ cur.toList.drop (off + m)).toArray E' (0, 0)) fs')
    (k : LW C ops Q rest ((d, .int .i64 (m : Int)) :: e) fs') :
    LW C ops Q (⟨some d, .call { callee := .builtin .copy, args := #[x, y], argTypes := tys }, t, pos, af, none⟩ :: rest) e fs := by
  subst hT
  refine LW.valset hd (fun c h => by cases h) hset (fun a w hs hg => ?_) k
  have hA := hat w hs.st
  have hl : news.length = m := by have := hA.len; omega
  have hsz : (C.P.info? E).map (·.size) = some 1 := by
    obtain ⟨i, i1, i2, i3, i4⟩ := info_all (P := C.P) (T := E); rw [i1]; simp [i2]
  rcases Nat.eq_zero_or_pos m with h0 | h0
  · subst h0
    obtain ⟨p, c, rfl, _, _⟩ := hA.form
    have hn : news = [] := List.length_eq_zero_iff.1 (by omega)
    have hrun := run_copy_none (P := C.P) w T T t E (some ⟨g, off, none⟩) p dLen dCap 0 c hU.un hsz (Nat.zero_min _)
    have e1 : (Obj.cells (cur.toList.take off ++ news ++ cur.toList.drop (off + 0)).toArray E' (0, 0)) = .cells cur E' (0, 0) := by rw [hn]; simp
    rw [e1]
    have hput : w.putObj g (.cells cur E' (0, 0)) = w := put_same hg
    rw [hput]
    simp [execOp, resolve, invoke, builtin, hs.env.ev hx, hs.env.ev hy, hrun, goInt]
  · obtain ⟨b, o2, c, cs, E2, fr, rfl, hblk, hnx⟩ := hA.pos h0
    have hrun := run_copy_row (P := C.P) w T T t E g off dLen dCap ⟨b, o2, none⟩ m c cur E' news hU.un hsz hg (by rw [hl]; exact (Nat.min_eq_left hm).symm) (fun j u hj => by
      rw [addr_add, cell_of hblk]; exact cut_get hnx hj) (by rw [hl]; exact hfit) h1
    rw [hl] at hrun
    have hput : w.setRow g (cur.toList.take off ++ news ++ cur.toList.drop (off + m)).toArray = w.putObj g (.cells (cur.toList.take off ++ news ++ cur.toList.drop (off + m)).toArray E' (0, 0)) := setRow_put hg
    rw [hput] at hrun
    simp [execOp, resolve, invoke, builtin, hs.env.ev hx, hs.env.ev hy, hrun, goInt]
end lw
end Go.Proofs.YtbhicncgjplnoaaDoor.SL

/-
  A SMALL LOGIC OVER THE KIT's WALK, PART ME: the bytes of a string, laid anew.
  Conditions: none; over any program.
-/
namespace Go.Proofs.YtbhicncgjplnoaaDoor.SL
set_option linter.unusedVariables false
set_option linter.unusedSimpArgs false
open Go Go.RowKit
section lw
variable {C : Cu} {ops : Array Oper} {Q : Post} {rest : List Oper} {e : Env} {fs : Fs} {d : Nat} {t : TypeId} {pos : String} {af : Array Edge}
theorem bytesRow_get (l : List UInt8) (cap j : Nat) (hj : j < l.length) : (bytesRow ⟨l.toArray⟩ cap)[j]? = some (.int .u8 ((l.getD j 0).toNat : Int)) := by
  unfold bytesRow
  rw [Array.getElem?_append_left (by simpa using hj)]
  simp [List.getD_eq_getElem?_getD, hj]
/-- **[]byte(s)**: a row of ours. -/
theorem LW.toBytes {S T E : TypeId} {x : Operand} {l : List UInt8} (hd : Nat.blt d C.N = true) (hS : UnI C.P S .string) (hT : UnI C.P T (.slice E)) (hE : UnI C.P E (.int .u8)) (hx : e.ev x = some (sv l))
    (k : ∀ g c cs fr, l.length ≤ c → (∀ j, j < l.length → cs[j]? = some (.int .u8 ((l.getD j 0).toNat : Int))) → LW C ops Q rest ((d, .slice (some ⟨g, 0, none⟩) l.length c) :: e) ((g, .cells cs E fr) :: fs)) :
    LW C ops Q (⟨some d, .convert S T x, t, pos, af, none⟩ :: rest) e fs := fun a w hs => by
  have hr := run_bytes_of_string (P := C.P) w S T E ⟨l.toArray⟩ hS.un hT.un hE.un
  have hsz : (⟨l.toArray⟩ : ByteArray).size = l.length := by simp [ByteArray.size]
  rw [hsz] at hr
  have hrun : (execOp a.eval ⟨some d, .convert S T x, t, pos, af, none⟩).run C.P w = .ok (.value (.slice (some ⟨w.heap.size, 0, none⟩) l.length (grownCap w l.length 0 E))) (w.drew.alloc (.cells (bytesRow ⟨l.toArray⟩ (grownCap w l.length 0 E)) E ((bytesRow ⟨l.toArray⟩ (grownCap w l.length 0 E)).size, (bytesRow ⟨l.toArray⟩ (grownCap w l.length 0 E)).size + 1))) := by
    have hx' := hs.env.ev hx
    unfold sv at hx'
    simp only [execOp, hx']
    exact (show ((do pure (.value (← convert S T (.string ⟨l.toArray⟩))) : Sem Next)).run C.P w = _ by simp only [Sem.run_bind, hr]; rfl)
  have hge := grownCap_ge w l.length 0 E
  have hst := St.lay (pre := []) (post := fs) (w := w) (w' := w.drew.alloc (.cells (bytesRow ⟨l.toArray⟩ (grownCap w l.length 0 E)) E ((bytesRow ⟨l.toArray⟩ (grownCap w l.length 0 E)).size, (bytesRow ⟨l.toArray⟩ (grownCap w l.length 0 E)).size + 1))) hs.st ((hs.st.bel.drew).alloc (by have := hs.st.bel.size; simpa [World.drew] using this) _) (World.alloc_heap_new w.drew _) (Nat.le_refl _) (fun k hk => Below.heap_alloc w.drew _ k hk)
  refine wpListIn_take (wanted_none _ rfl _) ⟨fun _ _ => trivial, ?_⟩
  rw [semAt_FR (fun c h => by cases h), hrun]
  exact k w.heap.size (grownCap w l.length 0 E) (bytesRow ⟨l.toArray⟩ (grownCap w l.length 0 E)) _ (by omega) (fun j hj => bytesRow_get l _ j hj) _ _ ⟨hs.env.put hd, hst⟩
end lw
end Go.Proofs.YtbhicncgjplnoaaDoor.SL

/-
  A SMALL LOGIC OVER THE KIT's WALK, PART MF: arrays of bytes and of numbers compared.
  Conditions: none; over any program.
-/
namespace Go.Proofs.YtbhicncgjplnoaaDoor.SL
set_option linter.unusedVariables false
set_option linter.unusedSimpArgs false
open Go Go.RowKit
variable {P : Program} {e : Env}
theorem ints_u (l : List UInt8) : getInts .u8 (uca l).toList = some (l.map fun u => (u.toNat : Int)) := by
  simp only [uca, ucs_map]
  induction l with
  | nil => rfl
  | cons a l ih => simp [getInts, getInts.IntKind.beqK] at *; exact ih
theorem ints_n (l : List Nat) : getInts .u64 (nca l).toList = some (l.map fun (u : Nat) => (u : Int)) := by
  simp only [nca, ncs_map]
  induction l with
  | nil => rfl
  | cons a l ih => simp [getInts, getInts.IntKind.beqK] at *; exact ih
theorem ints_uj {a b : List UInt8} (h : (a.map fun u => (u.toNat : Int)) = b.map fun u => (u.toNat : Int)) : a = b :=
  List.map_inj_right (f := fun u : UInt8 => (u.toNat : Int)) (fun x y h => UInt8.toNat_inj.1 (Int.ofNat.inj h)) |>.1 h
theorem ints_nj {a b : List Nat} (h : (a.map fun (u : Nat) => (u : Int)) = b.map fun (u : Nat) => (u : Int)) : a = b :=
  List.map_inj_right (f := fun u : Nat => (u : Int)) (fun x y h => Int.ofNat.inj h) |>.1 h
theorem blocks_uca (l : List UInt8) : blocksN 4 (.agg (uca l)) = [] := by
  show (uca l).toList.flatMap (blocksN 3) = []
  rw [List.flatMap_eq_nil_iff]
  intro v hv
  simp only [uca, ucs_map] at hv
  obtain ⟨u, _, rfl⟩ := List.mem_map.1 hv
  rfl
theorem blocks_nca (l : List Nat) : blocksN 4 (.agg (nca l)) = [] := by
  show (nca l).toList.flatMap (blocksN 3) = []
  rw [List.flatMap_eq_nil_iff]
  intro v hv
  simp only [nca, ncs_map] at hv
  obtain ⟨u, _, rfl⟩ := List.mem_map.1 hv
  rfl
section eqs
variable {T ty n : Nat} {k : IntKind} {x y : Operand}
theorem ValP.eqAT [EqI P T n k] {xs ys : Array Value} {a : List Int} (hx : e.ev x = some (.agg xs)) (hy : e.ev y = some (.agg ys)) (h1 : getInts k xs.toList = some a) (h2 : getInts k ys.toList = some a) (ha : a.length = n) : ValP P e [] (.binOp .eql T x y ty) (.bool true) := by
  have h := ValP.eqlA (P := P) (T := T) (ty := ty) hx hy h1 h2 ha ha
  simpa using h
variable {a b : List UInt8} {l m : List Nat}
theorem ValP.eqUT [EqI P T n .u8] (hx : e.ev x = some (.agg (uca a))) (hy : e.ev y = some (.agg (uca b))) (h : a = b) (ha : a.length = n) : ValP P e [] (.binOp .eql T x y ty) (.bool true) := by
  subst h
  exact ValP.eqAT hx hy (ints_u a) (ints_u a) (by simpa using ha)
theorem ValP.eqUF [EqI P T n .u8] (hx : e.ev x = some (.agg (uca a))) (hy : e.ev y = some (.agg (uca b))) (h : a ≠ b) (ha : a.length = n) (hb : b.length = n) : ValP P e [] (.binOp .eql T x y ty) (.bool false) := by
  have h' := ValP.eqlA (P := P) (T := T) (ty := ty) hx hy (ints_u a) (ints_u b) (by simpa using ha) (by simpa using hb)
  rwa [decide_eq_false (fun e => h (ints_uj e))] at h'
theorem ValP.neUF [EqI P T n .u8] (hx : e.ev x = some (.agg (uca a))) (hy : e.ev y = some (.agg (uca b))) (h : a = b) (ha : a.length = n) : ValP P e [] (.binOp .neq T x y ty) (.bool false) := by
  subst h
  have h' := ValP.neqA (P := P) (T := T) (ty := ty) hx hy (ints_u a) (ints_u a) (by simpa using ha) (by simpa using ha)
  simpa using h'
theorem ValP.neUT [EqI P T n .u8] (hx : e.ev x = some (.agg (uca a))) (hy : e.ev y = some (.agg (uca b))) (h : a ≠ b) (ha : a.length = n) (hb : b.length = n) : ValP P e [] (.binOp .neq T x y ty) (.bool true) := by
  have h' := ValP.neqA (P := P) (T := T) (ty := ty) hx hy (ints_u a) (ints_u b) (by simpa using ha) (by simpa using hb)
  rwa [decide_eq_false (fun e => h (ints_uj e))] at h'
theorem ValP.neNF [EqI P T n .u64] (hx : e.ev x = some (.agg (nca l))) (hy : e.ev y = some (.agg (nca m))) (h : l = m) (ha : l.length = n) : ValP P e [] (.binOp .neq T x y ty) (.bool false) := by
  subst h
  have h' := ValP.neqA (P := P) (T := T) (ty := ty) hx hy (ints_n l) (ints_n l) (by simpa using ha) (by simpa using ha)
  simpa using h'
theorem ValP.eqU [EqI P T n .u8] (hx : e.ev x = some (.agg (uca a))) (hy : e.ev y = some (.agg (uca b))) (ha : a.length = n) (hb : b.length = n) : ValP P e [] (.binOp .eql T x y ty) (.bool (decide (a = b))) := by
  have h' := ValP.eqlA (P := P) (T := T) (ty := ty) hx hy (ints_u a) (ints_u b) (by simpa using ha) (by simpa using hb)
  have e1 : decide ((a.map fun u => (u.toNat : Int)) = b.map fun u => (u.toNat : Int)) = decide (a = b) := by
    rw [decide_eq_decide]; exact ⟨ints_uj, fun h => by rw [h]⟩
  rwa [e1] at h'
end eqs
theorem ValP.neAF {T ty n : Nat} {k : IntKind} {x y : Operand} [EqI P T n k] {xs ys : Array Value} {a : List Int} (hx : e.ev x = some (.agg xs)) (hy : e.ev y = some (.agg ys)) (h1 : getInts k xs.toList = some a) (h2 : getInts k ys.toList = some a) (ha : a.length = n) : ValP P e [] (.binOp .neq T x y ty) (.bool false) := by
  have h := ValP.neqA (P := P) (T := T) (ty := ty) hx hy h1 h2 ha ha
  simpa using h
theorem ValP.strLss {T ty : TypeId} {x y : Operand} {a b : List UInt8} {v : Bool} (hx : e.ev x = some (.string ⟨a.toArray⟩)) (hy : e.ev y = some (.string ⟨b.toArray⟩)) (h : Op.bytesLess a b = v) : ValP P e [] (.binOp .lss T x y ty) (.bool v) :=
  .bin hx hy (fun w => guard_str w) fun w => by simp [binOp, Op.stringOp, ByteArray.toList_eq, h]
section sli
variable {T ty : TypeId} {x y : Operand} {n c : Nat}
theorem guard_sli {op : BinOp} {p : Option Addr} {v : Value} (w : World) : (eqGuard op T x y (.slice p n c) v).run P w = .ok () w := by
  unfold eqGuard; cases op <;> cases v <;> simp
theorem eqIn_ln {E : TypeId} [UnI P T (.slice E)] (d : Nat) (w : World) : (Op.equalIn (d + 1) T (.slice none n c) (.slice none 0 0)).run P w = .ok true w := by
  rw [Op.equalIn.eq_def]; simp only [Sem.run_bind, run_un (P := P) (T := T), Result.andThen_ok]; rfl
theorem eqIn_ls {E : TypeId} {a : Addr} [UnI P T (.slice E)] (d : Nat) (w : World) : (Op.equalIn (d + 1) T (.slice (some a) n c) (.slice none 0 0)).run P w = .ok false w := by
  rw [Op.equalIn.eq_def]; simp only [Sem.run_bind, run_un (P := P) (T := T), Result.andThen_ok]; rfl
theorem ValP.sliNilT {E : TypeId} [UnI P T (.slice E)] (hx : e.ev x = some (.slice none n c)) (hy : e.ev y = some (.slice none 0 0)) : ValP P e [] (.binOp .eql T x y ty) (.bool true) :=
  .bin hx hy (fun w => guard_sli w) fun w => by
    have := eqIn_ln (P := P) (T := T) (n := n) (c := c) (Op.maxDepth - 1) w
    simp only [binOp, Op.equal, Sem.run_bind]
    rw [show Op.maxDepth = Op.maxDepth - 1 + 1 from rfl, this]; rfl
theorem ValP.sliNilF {E : TypeId} {a : Addr} [UnI P T (.slice E)] (hx : e.ev x = some (.slice (some a) n c)) (hy : e.ev y = some (.slice none 0 0)) : ValP P e [] (.binOp .eql T x y ty) (.bool false) :=
  .bin hx hy (fun w => guard_sli w) fun w => by
    have := eqIn_ls (P := P) (T := T) (a := a) (n := n) (c := c) (Op.maxDepth - 1) w
    simp only [binOp, Op.equal, Sem.run_bind]
    rw [show Op.maxDepth = Op.maxDepth - 1 + 1 from rfl, this]; rfl
end sli
/-- An array of bytes, as it comes in. -/
theorem is_id {w : World} {cs : List Value} {n : Nat} (h : (Ty.arr n (.int .u8)).is w cs) : ∃ x : List UInt8, x.length = n ∧ cs = ucs x := by
  obtain ⟨hl, h⟩ := h
  have hl' : cs.length = n := by simpa [Ty.cells] using hl
  have hk : ∀ i, i < n → ∃ u : UInt8, cs[i]? = some (.int .u8 (u.toNat : Int)) := fun i hi => by
    obtain ⟨u, _, hu⟩ := is_u8 (h i hi)
    refine ⟨u, ?_⟩
    have h2 := congrArg (·[0]?) hu
    simpa [Ty.cells, List.getElem?_take, List.getElem?_drop] using h2
  refine ⟨(List.range n).map fun i => if h : i < n then Classical.choose (hk i h) else 0, by simp, ?_⟩
  apply List.ext_getElem?
  intro i
  by_cases hi : i < n
  · have hu := Classical.choose_spec (hk i hi)
    rw [hu, ucs_map]
    simp only [List.map_map, List.getElem?_map, List.getElem?_range hi, Option.map_some, Function.comp, hi, dif_pos]
  · rw [List.getElem?_eq_none (by omega), List.getElem?_eq_none (by rw [ucs_len]; simp; omega)]
end Go.Proofs.YtbhicncgjplnoaaDoor.SL

/-
  A SMALL LOGIC OVER THE KIT's WALK, PART MG: cuts from a place on, told.
  Conditions: none; over any program.
-/
namespace Go.Proofs.YtbhicncgjplnoaaDoor.SL
set_option linter.unusedVariables false
set_option linter.unusedSimpArgs false
open Go Go.RowKit
variable {P : Program} {e : Env}
section cut
variable {T E x y lo : Nat}
theorem ValP.cutFromO {T E : TypeId} {x lo : Operand} {b o n c k : Nat} {il : IntKind} {z : Value} (hU : UnI P T (.slice E)) (hI : InfoI P E 1 z) (hx : e.ev x = some (.slice (some ⟨b, o, none⟩) n c)) (hl : e.ev lo = some (.int il (k : Int))) (hk : k ≤ n) (hc : k < c) : ValP P e [] (.slice T x (some lo) none none) (.slice (some ⟨b, o + k, none⟩) (n - k) (c - k)) := by
  have h := ValP.cutFrom (P := P) hU hI hx hl hk
  have e1 : cutAt (some ⟨b, o, none⟩) k n c 1 = .slice (some ⟨b, o + k, none⟩) (n - k) (c - k) := by
    unfold cutAt
    rw [if_neg (by omega)]
    simp [Addr.add]
  rwa [e1] at h
theorem ValP.cutArrFrom {T E : TypeId} {x lo : Operand} {b off n k : Nat} {il : IntKind} {z : Value} (hU : UnI P T (.array n E)) (hI : InfoI P E 1 z) (hx : e.ev x = some (.pointer (some ⟨b, off, none⟩))) (hl : e.ev lo = some (.int il (k : Int))) (hk : k < n) : ValP P e [] (.slice T x (some lo) none none) (.slice (some ⟨b, off + k, none⟩) (n - k) (n - k)) := fun ρ w hρ _ d t pos af g => by
  have hu := hU.un
  have h1 : (Instr.sliceAt T (.pointer (some ⟨b, off, none⟩)) (some (.int il (k : Int))) none none).run P w = .ok (.slice (some ⟨b, off + k, none⟩) (n - k) (n - k)) w := by
    have hal : P.arrayLen T = n := by rw [Program.arrayLen, hu]
    have hel : P.elem T = E := by rw [Program.elem, hu]
    have h2 := run_sliceAt_array_l (P := P) w T ⟨b, off, none⟩ (by rw [hal, hel]; exact hu) il (k : Int) (by omega) (by rw [hal]; omega)
    rw [hel, run_size, hal] at h2
    rw [h2]
    simp only [Result.andThen_ok, slicedAt, Int.toNat_natCast]
    rw [if_neg (by omega)]
    simp [Addr.add]
  simp [execOp, hρ x _ hx, hρ lo _ hl, h1]
end cut
end Go.Proofs.YtbhicncgjplnoaaDoor.SL

/-
  A SMALL LOGIC OVER THE KIT's WALK, PART MH: bits that are cleared; bits of signed numbers.
  Conditions: none; over any program.
-/
namespace Go.Proofs.YtbhicncgjplnoaaDoor.SL
set_option linter.unusedVariables false
set_option linter.unusedSimpArgs false
open Go Go.RowKit
section num
variable {P : Program} {e : Env} {T ty : TypeId} {x y : Operand} {m n : Nat}
theorem bits_andNot (m n : Nat) (hm : m < 18446744073709551616) (hn : n < 18446744073709551616) : bits .andNot .u64 (m : Int) (n : Int) = (((18446744073709551615 - n) &&& m : Nat) : Int) := by
  have h : (18446744073709551615 - n) &&& m < 18446744073709551616 := Nat.lt_of_le_of_lt Nat.and_le_right hm
  show IntKind.u64.wrap (((BitVec.ofInt 64 (m : Int) &&& ~~~ BitVec.ofInt 64 (n : Int)).toNat : Nat) : Int) = _
  rw [BitVec.toNat_and, BitVec.toNat_not, ofInt64 m hm, ofInt64 n hn, wrapU, Nat.and_comm]
  rw [show 2 ^ 64 - 1 - n = 18446744073709551615 - n from rfl]
  generalize (18446744073709551615 - n) &&& m = q at *
  omega
theorem ValP.andNotU (hx : e.ev x = some (.int .u64 (m : Int))) (hy : e.ev y = some (.int .u64 (n : Int))) (hm : m < 18446744073709551616) (hn : n < 18446744073709551616) : ValP P e [] (.binOp .andNot T x y ty) (.int .u64 (((18446744073709551615 - n) &&& m : Nat) : Int)) :=
  .bin hx hy (fun w => guard_int w) fun w => by rw [binOp_andNot, intBits_andNot, bits_andNot m n hm hn]; rfl
theorem bits_xorI (m n : Nat) (hm : m < 9223372036854775808) (hn : n < 9223372036854775808) : bits .xor .i64 (m : Int) (n : Int) = ((m ^^^ n : Nat) : Int) := by
  have h : m ^^^ n < 9223372036854775808 := Nat.xor_lt_two_pow (n := 63) hm hn
  show IntKind.i64.wrap (((BitVec.ofInt 64 (m : Int) ^^^ BitVec.ofInt 64 (n : Int)).toNat : Nat) : Int) = _
  rw [BitVec.toNat_xor, ofInt64 m (by omega), ofInt64 n (by omega)]
  exact wrapI _ (by omega) (by omega)
theorem ValP.xorIL (hx : e.ev x = some (.int .i64 (m : Int))) (hy : e.ev y = some (.int .i64 (OfNat.ofNat n))) (_ : n = n) (hm : m < 9223372036854775808) (hn : (OfNat.ofNat n : Nat) < 9223372036854775808) : ValP P e [] (.binOp .xor T x y ty) (.int .i64 ((m ^^^ (OfNat.ofNat n : Nat) : Nat) : Int)) :=
  .bin hx hy (fun w => guard_int w) fun w => by
    have h := bits_xorI m (OfNat.ofNat n) hm hn
    rw [binOp_xor, intBits_xor]
    exact congrArg (fun z => (Result.ok (Value.int .i64 z) w)) h
end num
end Go.Proofs.YtbhicncgjplnoaaDoor.SL

/-
  A SMALL LOGIC OVER THE KIT's WALK, PART MI: append in a region that draws its order.
  Conditions: none; over any program.
-/
namespace Go.Proofs.YtbhicncgjplnoaaDoor.SL
set_option linter.unusedVariables false
set_option linter.unusedSimpArgs false
open Go Go.RowKit
/-- Facts with their marks. -/
def tsTag (ws rs : List Nat) (gs : Fs) : Ts := gs.map fun p => (p.1, p.2, ws, rs)
theorem fsOf_tag {ws rs : List Nat} {gs : Fs} : fsOf (tsTag ws rs gs) = gs := by
  simp only [fsOf, tsTag, List.map_map]
  conv => rhs; rw [← List.map_id gs]
  rfl
/-- A row's facts, taken out. -/
inductive TOut (ops : Array Oper) (k : Nat) : Ts → Fs → List Nat → List Nat → Ts → Prop
  | nil {ts : Ts} : TOut ops k ts [] [] [] ts
  | one {b : Nat} {o : Obj} {ws rs : List Nat} {r : Ts} (h : ancB ops k ws = true) (h' : ancB ops k rs = true) : TOut ops k ((b, o, ws, rs) :: r) [(b, o)] ws rs r
  | old {seg : Fs} {r : Ts} : TOut ops k (tsOf seg ++ r) seg [] [] r
  | new {j : Nat} {seg : Fs} {r : Ts} (h : ancB ops k [j] = true) : TOut ops k (tsNew j seg ++ r) seg [j] [] r
  | tag {seg : Fs} {ws rs : List Nat} {r : Ts} (h : ancB ops k ws = true) (h' : ancB ops k rs = true) : TOut ops k (tsTag ws rs seg ++ r) seg ws rs r
  | cons {p : Nat × Obj × List Nat × List Nat} {ts r : Ts} {seg : Fs} {ws rs : List Nat} (h : TOut ops k ts seg ws rs r) : TOut ops k (p :: ts) seg ws rs (p :: r)
  | app {l ts r : Ts} {seg : Fs} {ws rs : List Nat} (h : TOut ops k ts seg ws rs r) : TOut ops k (l ++ ts) seg ws rs (l ++ r)
theorem TOut.spec {ops : Array Oper} {k : Nat} {ts r : Ts} {seg : Fs} {ws rs : List Nat} (h : TOut ops k ts seg ws rs r) : (tsTag ws rs seg ++ r).Perm ts ∧ ancB ops k ws = true ∧ ancB ops k rs = true := by
  induction h with
  | nil => exact ⟨by simp [tsTag], ancB_nil, ancB_nil⟩
  | one h h' => exact ⟨by simp [tsTag], h, h'⟩
  | old => exact ⟨by simp [tsTag, tsOf], ancB_nil, ancB_nil⟩
  | new h => exact ⟨by simp [tsTag, tsNew], h, ancB_nil⟩
  | tag h h' => exact ⟨.refl _, h, h'⟩
  | cons h ih => exact ⟨List.perm_middle.trans (ih.1.cons _), ih.2⟩
  | @app l ts r seg ws rs h ih =>
    refine ⟨?_, ih.2⟩
    have : (tsTag ws rs seg ++ (l ++ r)).Perm (l ++ (tsTag ws rs seg ++ r)) := by
      rw [← List.append_assoc, ← List.append_assoc]
      exact List.Perm.append_right _ List.perm_append_comm
    exact this.trans (ih.1.append_left _)
theorem ReadAll.fsts {C : Cu} {ops : Array Oper} {k : Nat} {bs : List Nat} {ts ts' : Ts} {us : Fs} (h : ReadAll C ops k bs ts us ts') : ts'.map (·.1) = ts.map (·.1) := by
  induction h with
  | nil => rfl
  | own h _ ih => rw [ih, h.fsts]
  | ext _ _ _ ih => exact ih
theorem mem_fst {ts ts' : Ts} (h : ts'.map (·.1) = ts.map (·.1)) {p : Nat × Obj × List Nat × List Nat} (hp : p ∈ ts') : ∃ q ∈ ts, q.1 = p.1 := by
  have : p.1 ∈ ts.map (·.1) := by rw [← h]; exact List.mem_map.2 ⟨p, hp, rfl⟩
  obtain ⟨q, hq, he⟩ := List.mem_map.1 this
  exact ⟨q, hq, he⟩
theorem upds_in {φ : Facts} {gs : Fs} (hn : gs.Pairwise fun p q => p.1 ≠ q.1) : ∀ q ∈ gs, upds φ gs q.1 = some q.2 := by
  induction gs with
  | nil => intro q hq; cases hq
  | cons x l ih =>
    intro q hq
    obtain ⟨n1, n2⟩ := List.pairwise_cons.1 hn
    simp only [upds]
    rcases List.mem_cons.1 hq with rfl | hq
    · exact upd_same _ _ _
    · rw [upd_other _ _ (fun e => n1 q hq e.symm)]; exact ih n2 q hq
section dw
variable {C : Cu} {ops : Array Oper} {Q : Post} {tl rest : List Oper} {e : Env} {ts : Ts} {μ : Mu} {k d : Nat} {t : TypeId} {pos : String} {af : Array Edge} {g : Option (Nat × Bool)}
theorem IsRow.blocks {E : TypeId} {size n : Nat} {v : Value} {xs : List Value} {seg : Fs} (hrow : IsRow E size v n xs seg) (h0 : v = .slice none 0 0 ∨ 0 < n) : blocksN 4 v = keys seg ∧ blocksN 1 v = keys seg := by
  cases hrow with
  | nil => exact ⟨rfl, rfl⟩
  | @own gg _ cap cur _ hn _ _ _ _ =>
    have hc : cap ≠ 0 := by
      rcases h0 with h0 | h0
      · cases h0
      · omega
    exact ⟨by simp [blocksN, hc, keys], by simp [blocksN, hc, keys]⟩
/-- An operation that lays rows anew, in whatever order. -/
theorem DW.moveG {o : Oper} {bl : List Nat} {M : Value → Fs → Prop} {seg us2 : Fs} {ws rs : List Nat} {ts1 ts2 : Ts} (hk : ops[k]? = some o) (hdst : o.dst = some d) (hd : Nat.blt d C.N = true)
    (htch0 : ∀ a, EnvOk C.N C.ds e a → tch ops o a = keys seg ++ bl) (hmv0 : ∀ a, EnvOk C.N C.ds e a → mvE (flg (μ k)) ops o a = keys seg) (hout : TOut ops k ts seg ws rs ts1) (hra : ReadAll C ops k bl ts1 us2 ts2)
    (hcl : ∀ a φ, EnvOk C.N C.ds e a → (∀ q ∈ seg, φ q.1 = some q.2 ∧ (C.w0.heap.size ≤ q.1 ∨ q.1 ∈ C.S)) → seg.Pairwise (fun p q => p.1 ≠ q.1) → (∀ w, C.cx.on φ bl w → ∀ p ∈ us2, w.heap[p.1]? = some p.2) → CanMk C.cx ops (μ k) φ o a M)
    (kk : ∀ v' seg', M v' seg' → DW C ops μ Q tl rest (k + 1) ((d, v') :: e) (tsTag (k :: ws) (k :: rs) seg' ++ ts2)) :
    DW C ops μ Q tl (o :: rest) k e ts := by
  intro a φ tw tr ha hrel hinv
  obtain ⟨hperm, hws, hrs⟩ := hout.spec
  have htch := htch0 a ha
  have hmvE := hmv0 a ha
  have hin : ∀ q ∈ seg, (q.1, q.2, ws, rs) ∈ ts := fun q hq => hperm.subset (List.mem_append_left _ (List.mem_map.2 ⟨q, hq, rfl⟩))
  have hsub : ∀ p ∈ ts1, p ∈ ts := fun p hp => hperm.subset (List.mem_append_right _ hp)
  have hnd : (tsTag ws rs seg ++ ts1).Pairwise fun p q => p.1 ≠ q.1 := hperm.symm.pairwise hrel.nd (fun h e => h e.symm)
  obtain ⟨nd1, nd2, nd3⟩ := List.pairwise_append.1 hnd
  have hdis : ∀ q ∈ seg, ∀ p ∈ ts1, p.1 ≠ q.1 := fun q hq p hp e => nd3 (q.1, q.2, ws, rs) (List.mem_map.2 ⟨q, hq, rfl⟩) p hp e.symm
  have hks : ∀ b ∈ keys seg, ∃ q ∈ seg, q.1 = b := fun b hb => by obtain ⟨q, hq, he⟩ := List.mem_map.1 hb; exact ⟨q, hq, he⟩
  have hφs : ∀ q ∈ seg, φ q.1 = some q.2 := fun q hq => hrel.fsome _ (hin q hq)
  have hrel1 : Rel C.w0.heap.size ts1 φ tw (addT tr (keys seg) k) := by
    refine ⟨fun p hp => hrel.fsome p (hsub p hp), fun p hp j hj => hrel.ftw p (hsub p hp) j hj, fun p hp j hj => ?_, hrel.old, fun b hb hB j hj => ?_, nd2⟩
    · rcases hj with hj | ⟨_, hj⟩
      · exact hrel.ftr p (hsub p hp) j hj
      · obtain ⟨q, hq, he⟩ := hks _ hj
        exact absurd he.symm (hdis q hq p hp)
    · rcases hj with hj | ⟨_, hj⟩
      · exact hrel.oldr b hb hB j hj
      · obtain ⟨q, hq, rfl⟩ := hks _ hj
        rw [hφs q hq] at hb; cases hb
  obtain ⟨i1, i2, i3⟩ := hra.rel hinv hrel1
  have hts2 : ∀ p ∈ ts2, ∀ q ∈ seg, p.1 ≠ q.1 := fun p hp q hq => by
    obtain ⟨p', hp', he⟩ := mem_fst hra.fsts hp
    rw [← he]; exact hdis q hq p' hp'
  unfold walk dOp
  simp only [hk]
  rw [htch, hmvE]
  refine ⟨fun b hb => ?_, .inr ⟨M, hcl a φ ha (fun q hq => ⟨hφs q hq, hinv q.1 (by rw [hφs q hq]; simp)⟩) ?_ (fun w hon => i3 w hon), fun b hb j hj => ?_, fun v' gs hM hf _ => ?_⟩⟩
  · rcases List.mem_append.1 hb with hb | hb
    · obtain ⟨q, hq, rfl⟩ := hks _ hb
      exact ⟨.inl (by rw [hφs q hq]; simp), fun j hj => ancB_spec hws j (hrel.ftw _ (hin q hq) j hj)⟩
    · exact i2 b hb
  · have := nd1
    simp only [tsTag, List.pairwise_map] at this
    exact this
  · obtain ⟨q, hq, rfl⟩ := hks _ hb
    exact ancB_spec hrs j (hrel.ftr _ (hin q hq) j hj)
  · have hfk : ∀ b ∈ keys gs, (φ b = none ∧ C.w0.heap.size ≤ b) ∨ b ∈ keys seg := fun b hb => (hf.1 b hb).2
    have hk2 : ∀ p ∈ ts2, p.1 ∉ keys gs := fun p hp hk' => by
      rcases hfk _ hk' with h | h
      · rw [i1.fsome p hp] at h; cases h.1
      · obtain ⟨q, hq, he⟩ := hks _ h
        exact hts2 p hp q hq he.symm
    have hup := upds_in (φ := φ) hf.2
    have hg : ∀ p ∈ tsTag (k :: ws) (k :: rs) gs, ∃ q ∈ gs, p = (q.1, q.2, k :: ws, k :: rs) := fun p hp => by
      obtain ⟨q, hq, rfl⟩ := List.mem_map.1 hp; exact ⟨q, hq, rfl⟩
    rw [hdst]
    refine kk v' gs hM _ _ _ _ (ha.put hd) ⟨fun p hp => ?_, fun p hp j hj => ?_, fun p hp j hj => ?_, fun x hx j hj => ?_, fun x hx hB j hj => ?_, ?_⟩ (inv_upds hinv (fun b hb => (hf.1 b hb).1))
    · rcases List.mem_append.1 hp with hp | hp
      · obtain ⟨q, hq, rfl⟩ := hg p hp; exact hup q hq
      · rw [upds_other (hk2 p hp)]; exact i1.fsome p hp
    · rcases List.mem_append.1 hp with hp | hp
      · obtain ⟨q, hq, rfl⟩ := hg p hp
        rcases hj with hj | ⟨rfl, _⟩
        · rcases hfk q.1 (List.mem_map.2 ⟨q, hq, rfl⟩) with h | h
          · exact absurd hj (hrel.old _ h.1 j)
          · obtain ⟨q', hq', he⟩ := hks _ h
            exact List.mem_cons_of_mem _ (hrel.ftw _ (hin q' hq') j (by rw [he]; exact hj))
        · exact List.mem_cons_self
      · rcases hj with hj | ⟨_, hj⟩
        · exact i1.ftw p hp j hj
        · rcases List.mem_append.1 hj with hj | hj
          · obtain ⟨q, hq, he⟩ := hks _ hj
            exact absurd he.symm (hts2 p hp q hq)
          · exact absurd hj (hk2 p hp)
    · rcases List.mem_append.1 hp with hp | hp
      · obtain ⟨q, hq, rfl⟩ := hg p hp
        rcases hj with hj | ⟨rfl, _⟩
        · rcases hfk q.1 (List.mem_map.2 ⟨q, hq, rfl⟩) with h | h
          · exact absurd hj (hrel.oldr _ h.1 h.2 j)
          · obtain ⟨q', hq', he⟩ := hks _ h
            exact List.mem_cons_of_mem _ (hrel.ftr _ (hin q' hq') j (by rw [he]; exact hj))
        · exact List.mem_cons_self
      · exact i1.ftr p hp j (by rw [← addT_app]; exact hj)
    · have hxk : x ∉ keys gs := fun h => upds_key h hx
      rw [upds_other hxk] at hx
      rcases hj with hj | ⟨_, hj⟩
      · exact hrel.old x hx j hj
      · rcases List.mem_append.1 hj with hj | hj
        · obtain ⟨q, hq, rfl⟩ := hks _ hj
          rw [hφs q hq] at hx; cases hx
        · exact hxk hj
    · have hxk : x ∉ keys gs := fun h => upds_key h hx
      rw [upds_other hxk] at hx
      exact i1.oldr x hx hB j (by rw [← addT_app]; exact hj)
    · refine List.pairwise_append.2 ⟨?_, i1.nd, fun p hp q hq e => ?_⟩
      · simp only [tsTag, List.pairwise_map]; exact hf.2
      · obtain ⟨q', hq', rfl⟩ := hg p hp
        exact hk2 q hq (by rw [← e]; exact List.mem_map.2 ⟨q', hq', rfl⟩)
/-- **append** in whatever order, told by what it does. -/
theorem DW.appendG {s x : Operand} {tys : Array TypeId} {v vx : Value} {M : Value → Fs → Prop} {seg us : Fs} {ws rs : List Nat} {ts1 ts2 : Ts}
    (hk : ops[k]? = some ⟨some d, .call { callee := .builtin .append, args := #[s, x], argTypes := tys }, t, pos, af, g⟩) (hm : μ k = some (cst M, false)) (hd : Nat.blt d C.N = true) (hg : WantT ops e g)
    (hs : e.ev s = some v) (hx : e.ev x = some vx) (hvk : blocksN 4 v = keys seg ∧ blocksN 1 v = keys seg) (hout : TOut ops k ts seg ws rs ts1) (hrd : RdV C ops k [vx] ts1 us ts2)
    (hrun : ∀ w, St C.w0 C.S seg w → (∀ p ∈ us, w.heap[p.1]? = some p.2) → ∃ v' seg' w', (Builtin.append_ tys t #[v, vx]).run C.P w = .ok v' w' ∧ M v' seg' ∧ St C.w0 C.S seg' w' ∧ w.heap.size ≤ w'.heap.size ∧ (∀ b, b < w.heap.size → b ∉ seg'.map (·.1) → w'.heap[b]? = w.heap[b]?) ∧ (∀ q ∈ seg', w.heap.size ≤ q.1 ∨ q.1 ∈ seg.map (·.1)))
    (kk : ∀ v' seg', M v' seg' → DW C ops μ Q tl rest (k + 1) ((d, v') :: e) (tsTag (k :: ws) (k :: rs) seg' ++ ts2)) :
    DW C ops μ Q tl (⟨some d, .call { callee := .builtin .append, args := #[s, x], argTypes := tys }, t, pos, af, g⟩ :: rest) k e ts := by
  obtain ⟨us2, hra, hus⟩ := hrd.all
  have hra : ReadAll C ops k (blocksN 4 vx) ts1 us2 ts2 := by simpa using hra
  have hmvB : ∀ a : Act, EnvOk C.N C.ds e a → mvB false ⟨some d, .call { callee := .builtin .append, args := #[s, x], argTypes := tys }, t, pos, af, g⟩ a.eval = blocksN 1 v := fun a ha => by
    show (match (#[s, x] : Array Operand)[0]? with | some x => blocksN 1 (a.eval x) | none => []) = _
    simp [ha.Ev s v hs]
  refine DW.moveG (M := M) hk rfl hd (fun a ha => ?_) (fun a ha => ?_) hout hra (fun a φ ha hseg hnd hus3 => ?_) kk
  · have hw := WantT.wanted (o := ⟨some d, .call { callee := .builtin .append, args := #[s, x], argTypes := tys }, t, pos, af, g⟩) hg ha
    rw [tch_want hw, ← hvk.1]
    show ((#[] ++ #[s, x] : Array Operand).toList.flatMap fun y => blocksN 4 (a.eval y)) = _
    simp [ha.Ev s v hs, ha.Ev x vx hx]
  · have hw := WantT.wanted (o := ⟨some d, .call { callee := .builtin .append, args := #[s, x], argTypes := tys }, t, pos, af, g⟩) hg ha
    rw [hm]; unfold mvE; rw [if_pos hw, ← hvk.2]; exact hmvB a ha
  · have hw := WantT.wanted (o := ⟨some d, .call { callee := .builtin .append, args := #[s, x], argTypes := tys }, t, pos, af, g⟩) hg ha
    have hes := ha.Ev s v hs
    have hex := ha.Ev x vx hx
    have htch : touch ⟨some d, .call { callee := .builtin .append, args := #[s, x], argTypes := tys }, t, pos, af, g⟩ a.eval = keys seg ++ blocksN 4 vx := by
      rw [← hvk.1]
      show ((#[] ++ #[s, x] : Array Operand).toList.flatMap fun y => blocksN 4 (a.eval y)) = _
      simp [hes, hex]
    refine ⟨hw, .inr ⟨⟨cst M, by rw [hm]; rfl, rfl⟩, .inr fun w hon => ?_⟩⟩
    rw [htch] at hon
    have hst : St C.w0 C.S seg w := ⟨hon.1, fun q hq => ⟨(hseg q hq).2, hon.2 q.1 (List.mem_append_left _ (List.mem_map.2 ⟨q, hq, rfl⟩)) _ (hseg q hq).1⟩, hnd⟩
    obtain ⟨v', seg', w', hr, hM, hst', g1, g2, g3⟩ := hrun w hst (fun p hp => hus3 w ⟨hon.1, fun y hy o ho => hon.2 y (List.mem_append_right _ hy) o ho⟩ p (hus p hp))
    refine ⟨v', seg', w', ?_, hM, hst'.bel, g1, g2, fun q hq => ⟨(hst'.own q hq).2, ?_, ?_⟩, hst'.nd⟩
    · show (execOp a.eval ⟨some d, .call { callee := .builtin .append, args := #[s, x], argTypes := tys }, t, pos, af, g⟩).run C.P w = .ok (.value v') w'
      simp [execOp, resolve, invoke, builtin, hes, hex, hr]
    · exact (hst'.own q hq).1
    · rw [hm, show mvB (flg (some (cst M, false))) _ _ = keys seg from (hmvB a ha).trans hvk.2]; exact g3 q hq
/-- A call that may write on the blocks of its first argument, in whatever order. -/
theorem DW.callMv {fo : Operand} {args : Array Operand} {tys : Array TypeId} {f : FuncId} {v0 : Value} {vs : List Value} {M : Value → Fs → Prop} {seg us : Fs} {ws rs : List Nat} {ts1 ts2 : Ts}
    (hk : ops[k]? = some ⟨some d, .call { callee := .value fo, args := args, argTypes := tys }, t, pos, af, g⟩) (hm : μ k = some (cst M, true)) (hd : Nat.blt d C.N = true) (hg : WantT ops e g)
    (hf : e.ev fo = some (.func (.func f) #[] #[])) (hF : FnI C.P f) (ha0 : ArgsOk e args.toList (v0 :: vs)) (hvk : blocksN 4 v0 = keys seg ∧ blocksN 1 v0 = keys seg) (hout : TOut ops k ts seg ws rs ts1) (hrd : RdV C ops k vs ts1 us ts2)
    (hc : ∀ w, Bel C.w0.heap.size C.S C.w0 w → (∀ p ∈ seg, w.heap[p.1]? = some p.2) → seg.Pairwise (fun p q => p.1 ≠ q.1) → (∀ p ∈ us, w.heap[p.1]? = some p.2) → Calls C.P f (v0 :: vs).toArray w (RetG w (keys seg) M))
    (hkeys : ∀ v gs, M v gs → ∀ b ∈ keys seg, b ∈ keys gs)
    (kk : ∀ v' seg', M v' seg' → DW C ops μ Q tl rest (k + 1) ((d, v') :: e) (tsTag (k :: ws) (k :: rs) seg' ++ ts2)) :
    DW C ops μ Q tl (⟨some d, .call { callee := .value fo, args := args, argTypes := tys }, t, pos, af, g⟩ :: rest) k e ts := by
  obtain ⟨us2, hra, hus⟩ := hrd.all
  have htc : ∀ a : Act, EnvOk C.N C.ds e a → touch ⟨some d, .call { callee := .value fo, args := args, argTypes := tys }, t, pos, af, g⟩ a.eval = keys seg ++ vs.flatMap (blocksN 4) := fun a ha => by
    rw [touch_call hf ha0 ha.Ev, ← hvk.1]
    simp [blocksN]
  have hmvB : ∀ a : Act, EnvOk C.N C.ds e a → mvB true ⟨some d, .call { callee := .value fo, args := args, argTypes := tys }, t, pos, af, g⟩ a.eval = keys seg := fun a ha => by
    show mvA args a.eval = _
    rw [← hvk.2]
    have : ∀ l : List Operand, ArgsOk e l (v0 :: vs) → ∃ x l', l = x :: l' ∧ e.ev x = some v0 := by
      intro l h
      cases h with
      | cons hx _ => exact ⟨_, _, rfl, hx⟩
    obtain ⟨x, l', hl, hx⟩ := this _ ha0
    have h0 : args[0]? = some x := by rw [← Array.getElem?_toList, hl]; rfl
    unfold mvA
    rw [h0]
    simp [ha.Ev x v0 hx]
  refine DW.moveG (M := M) hk rfl hd (fun a ha => ?_) (fun a ha => ?_) hout hra (fun a φ ha hseg hnd hus3 => ?_) kk
  · have hw := WantT.wanted (o := ⟨some d, .call { callee := .value fo, args := args, argTypes := tys }, t, pos, af, g⟩) hg ha
    rw [tch_want hw]; exact htc a ha
  · have hw := WantT.wanted (o := ⟨some d, .call { callee := .value fo, args := args, argTypes := tys }, t, pos, af, g⟩) hg ha
    rw [hm]; unfold mvE; rw [if_pos hw]; exact hmvB a ha
  · have hw := WantT.wanted (o := ⟨some d, .call { callee := .value fo, args := args, argTypes := tys }, t, pos, af, g⟩) hg ha
    refine ⟨hw, .inr ⟨⟨cst M, by rw [hm]; rfl, rfl⟩, .inl fun w hon => ?_⟩⟩
    rw [htc a ha] at hon
    have hB : mvB (flg (μ k)) ⟨some d, .call { callee := .value fo, args := args, argTypes := tys }, t, pos, af, g⟩ a.eval = keys seg := by rw [hm]; exact hmvB a ha
    rw [hB]
    have hrun := CallP.fn (P := C.P) (tys := tys) hf ha0 a.eval w ha.Ev (some d) t pos af g
    rw [arr_id] at hrun
    refine ⟨f, _, hrun, hc w hon.1 (fun p hp => hon.2 p.1 (List.mem_append_left _ (List.mem_map.2 ⟨p, hp, rfl⟩)) _ (hseg p hp).1) hnd (fun p hp => hus3 w ⟨hon.1, fun y hy o ho => hon.2 y (List.mem_append_right _ hy) o ho⟩ p (hus p hp)), fun b hb => ?_, hkeys⟩
    obtain ⟨q, hq, rfl⟩ := List.mem_map.1 hb
    exact (hseg q hq).2
/-- **append(s, x...)** in whatever order: s a row of ours, that is not empty, or nil; x a row that may be read. -/
theorem DW.appendV {s x : Operand} {tys : Array TypeId} {T E size bytes n m : Nat} {z v vx : Value} {xs news : List Value} {seg us : Fs} {ws rs : List Nat} {ts1 ts2 : Ts}
    (hk : ops[k]? = some ⟨some d, .call { callee := .builtin .append, args := #[s, x], argTypes := tys }, t, pos, af, g⟩) (hm : μ k = some (cst fun v' gs => IsRow E size v' (n + m) (xs ++ news) gs, false)) (hd : Nat.blt d C.N = true) (hg : WantT ops e g)
    (hT : tys = #[T, T]) (hU : UnI C.P T (.slice E)) (hI : InfoI C.P E size z) (hB : BytI C.P E bytes) (hz : z.cells.size = size) (hs : e.ev s = some v) (hx : e.ev x = some vx)
    (hrow : IsRow E size v n xs seg) (h0 : v = .slice none 0 0 ∨ 0 < n) (hout : TOut ops k ts seg ws rs ts1) (hrd : RdV C ops k [vx] ts1 us ts2)
    (hat : ∀ w, Bel C.w0.heap.size C.S C.w0 w → (∀ p ∈ us, w.heap[p.1]? = some p.2) → RowAt w size vx m news) (h1 : ∀ u ∈ news, u.oneCell' = true) (h63 : n + m ≤ maxLen) (hb : (n + m) * bytes ≤ 140737488355328)
    (kk : ∀ v' seg', IsRow E size v' (n + m) (xs ++ news) seg' → DW C ops μ Q tl rest (k + 1) ((d, v') :: e) (tsTag (k :: ws) (k :: rs) seg' ++ ts2)) :
    DW C ops μ Q tl (⟨some d, .call { callee := .builtin .append, args := #[s, x], argTypes := tys }, t, pos, af, g⟩ :: rest) k e ts := by
  subst hT
  refine DW.appendG hk hm hd hg hs hx (hrow.blocks h0) hout hrd (fun w hst hus => ?_) kk
  have hA := hat w hst.bel hus
  obtain ⟨i, q1, q2, q3, q4⟩ := info_all (P := C.P) (T := E)
  rcases Nat.eq_zero_or_pos m with hm0 | hm0
  · subst hm0
    obtain ⟨q0, c0, rfl, _, _⟩ := hA.form
    have hn0 : news = [] := List.length_eq_zero_iff.1 (by rw [hA.len, Nat.zero_mul])
    subst hn0
    obtain ⟨p0, c1, rfl⟩ := hrow.form
    have hle : n ≤ c1 := by
      cases hrow with
      | nil => exact Nat.zero_le _
      | own h _ _ _ _ => exact h
    have hsrc : Src C.P i.size T (.slice q0 0 c0) 0 [] w := by
      cases q0 with
      | none => exact Src.ofNil w hU.un c0
      | some a => exact Src.ofSlice w hU.un a 0 c0 [] (by simp) (fun j u h => by simp at h) (fun u h => by cases h)
    have hr := run_append_nothing (P := C.P) w T T t E i hU.un q1 p0 n c1 hle _ hsrc
    exact ⟨_, seg, w, hr, by simpa using hrow, hst, Nat.le_refl _, fun _ _ _ => rfl, fun q hq => .inr (List.mem_map.2 ⟨q, hq, rfl⟩)⟩
  · obtain ⟨bb, off, c, cs, E', fr, rfl, hblk, hnx⟩ := hA.pos hm0
    obtain ⟨v', seg', w', hr, hrow', hst', g1, g2, g3⟩ := row_append2 (P := C.P) (ty := t) (pre := []) (post := []) hU.un q1 q3 q2 hz hrow (by simpa using hst) ⟨bb, off, none⟩ m c news hA.len (fun j u hj => by
      rw [addr_add, cell_of hblk]; exact cut_get hnx hj) h1 hm0 h63 (by rw [q4]; exact hb)
    simp only [List.nil_append, List.append_nil] at hst'
    exact ⟨v', seg', w', hr, hrow', hst', g1, g2, g3⟩
end dw
theorem LW.callStF {C : Cu} {ops : Array Oper} {Q : Post} {rest : List Oper} {e : Env} {fs : Fs} {d : Nat} {t : TypeId} {pos : String} {af : Array Edge} {fo : Operand} {args : Array Operand} {tys : Array TypeId} {f : FuncId} {first cap : Array Value} {vs aas : List Value} {K : Value → Fs → Prop} (hd : Nat.blt d C.N = true)
    (hf : e.ev fo = some (.func (.func f) first cap)) (hF : FnI C.P f) (ha : ArgsOk e args.toList vs) (has : first.toList ++ vs ++ cap.toList = aas) (hc : ∀ w, St C.w0 C.S fs w → Calls C.P f aas.toArray w (fun x w' => ∃ v fs', x = .returned v ∧ K v fs' ∧ St C.w0 C.S fs' w'))
    (k : ∀ v fs', K v fs' → LW C ops Q rest ((d, v) :: e) fs') : LW C ops Q (⟨some d, .call { callee := .value fo, args := args, argTypes := tys }, t, pos, af, none⟩ :: rest) e fs := fun a w hs => by
  refine wpListIn_take (wanted_none _ rfl _) ⟨fun _ _ => trivial, ?_⟩
  have hrun := CallP.fn (P := C.P) (tys := tys) hf ha a.eval w hs.env.Ev (some d) t pos af none
  have e1 : first ++ vs.toArray ++ cap = aas.toArray := by rw [← has]; apply Array.toList_inj.1; simp
  rw [e1] at hrun
  rw [semAt_FR (fun c h => by cases h), hrun]
  refine ⟨fun h => (by cases h), CallsIn.mono (calls_FR (hc w hs.st)) fun x w' hx => ?_⟩
  obtain ⟨v, fs', rfl, hK, hw'⟩ := hx
  exact k _ _ hK _ _ ⟨hs.env.put hd, hw'⟩
theorem ins_cons {α : Type} {a x : α} {r t : List α} (h : (a :: r).Perm t) : (a :: x :: r).Perm (x :: t) := (List.Perm.swap _ _ _).trans (h.cons _)
theorem ins_app {α : Type} {a : α} {s r t : List α} (h : (a :: r).Perm t) : (a :: (s ++ r)).Perm (s ++ t) := (List.perm_middle.symm).trans (h.append_left _)
theorem retG_of {w : World} {S : List Nat} {K : Value → Fs → Prop} {x : Ending} {w' : World} (h : ∃ v fs', x = .returned v ∧ K v fs' ∧ St w S fs' w') : RetG w S K x w' := by
  obtain ⟨v, fs', h1, h2, h3⟩ := h
  exact ⟨v, fs', h1, h2, h3.bel, h3.own, h3.nd⟩
/-- What is told ahead, and of which calls it is known that they may write on their first argument's blocks. -/
def muT (l : List (Nat × Rel1 × Bool)) : Mu := fun k => (l.find? fun p => Nat.beq p.1 k).map fun p => (cst p.2.1, p.2.2)
theorem AnyW.anyT {C : Cu} {id : Nat} {l : List Oper} {Q : Post} {fs : Fs} {e : Env} (ms : List (Nat × Rel1 × Bool)) (n : Nat) (hm : C.P.follows .mixedOrders = true) (hB : headB l.toArray n = true) (h : DW C l.toArray (muT ms) Q (l.drop n) (l.take n) 0 e (tsOf fs)) :
    AnyW C id l Q e fs := CW.any (muT ms) n hm hB h
end Go.Proofs.YtbhicncgjplnoaaDoor.SL

/-
  A SMALL LOGIC OVER THE KIT's WALK, PART MJ: append of so many zeros.
  Conditions: none; over any program.
-/
namespace Go.Proofs.YtbhicncgjplnoaaDoor.SL
set_option linter.unusedVariables false
set_option linter.unusedSimpArgs false
open Go Go.RowKit
section run
variable {P : Program} {w : World}
theorem zero_cells {z : Value} (hz : z.cells = #[z]) (n : Nat) : Builtin.zeroCells z.cells n = (List.replicate n z).toArray := by
  apply Array.ext_getElem?
  intro j
  rw [hz]
  by_cases h : j < n
  · simp [Builtin.zeroCells, h, Nat.mod_one]
  · simp [Builtin.zeroCells, h]
theorem run_appz_nil (t u ty e : TypeId) (i : TypeInfo) (z : Value) (ht : P.underlying t = some (.slice e)) (hu : P.underlying u = some (.int .i64)) (hi : P.info? e = some i) (hz : i.zero = some z) (hs : i.size = 1)
    (n : Nat) (h0 : 0 < n) (h63 : (n : Int) ≤ 9223372036854775807) (h48 : n * i.bytes ≤ 281474976710656) :
    (Builtin.append_ #[t, u] ty #[.slice none 0 0, .int .i64 (n : Int)]).run P w =
      .ok (.slice (some ⟨w.heap.size, 0, none⟩) n (grownCap w n 0 e)) (w.drew.alloc (.cells (Builtin.zeroCells z.cells n ++ Builtin.zeroCells z.cells (grownCap w n 0 e - n)) e)) := by
  have hn : n ≠ 0 := by omega
  have h63' : ¬ (9223372036854775807 < (n : Int)) := by omega
  have hw : IntKind.i64.wrap (n : Int) = (n : Int) := wrapI _ (by omega) (by omega)
  have hn0 : ¬ ((n : Int) < 0) := by omega
  have h48i : ¬ (281474976710656 < (n : Int) * (i.bytes : Int)) := by rw [← Int.natCast_mul]; omega
  have h48' : ¬ (281474976710656 < Builtin.nextslicecap n 0 * i.bytes) := by rw [nextslicecap_zero h0]; omega
  simp [Builtin.append_, run_underlying ht, run_underlying hu, sizeOf, typeInfo, zeroValue, hi, hz, asInt, asIntOf, hw, hn0, h48i, hn, h63', h48', hs, Question.forced, run_firstCells_none, newRow, grownCap]
theorem run_appz_room (t u ty e : TypeId) (i : TypeInfo) (z : Value) (ht : P.underlying t = some (.slice e)) (hu : P.underlying u = some (.int .i64)) (hi : P.info? e = some i) (hz : i.zero = some z) (hs : i.size = 1) (hc : z.cells = #[z]) (h1 : z.oneCell' = true)
    (g sLen sCap : Nat) (cur : Array Value) (hg : w.heap[g]? = some (.cells cur e (0, 0))) (m : Nat) (h63 : (m : Int) ≤ 9223372036854775807) (h48 : m * i.bytes ≤ 281474976710656)
    (hroom : sLen + m ≤ sCap) (hfit : sLen + m ≤ cur.size) :
    (Builtin.append_ #[t, u] ty #[.slice (some ⟨g, 0, none⟩) sLen sCap, .int .i64 (m : Int)]).run P w =
      .ok (.slice (some ⟨g, 0, none⟩) (sLen + m) sCap) (w.setRow g (cur.toList.take sLen ++ List.replicate m z ++ cur.toList.drop (sLen + m)).toArray) := by
  have hw : IntKind.i64.wrap (m : Int) = (m : Int) := wrapI _ (by omega) (by omega)
  have hn0 : ¬ ((m : Int) < 0) := by omega
  have h48i : ¬ (281474976710656 < (m : Int) * (i.bytes : Int)) := by rw [← Int.natCast_mul]; omega
  have hst := run_storeCells_at P g sLen e (List.replicate m z) 0 cur w hg (by simpa using hfit) (fun v hv => by rw [List.eq_of_mem_replicate hv]; exact h1)
  simp only [Nat.add_zero, List.length_replicate] at hst
  rcases Nat.eq_zero_or_pos m with h0 | h0
  · subst h0
    simp only [List.replicate_zero] at hst ⊢
    have hw0 : IntKind.i64.wrap 0 = 0 := by decide
    have hr0 : sLen ≤ sCap := by omega
    simp [Builtin.append_, run_underlying ht, run_underlying hu, sizeOf, typeInfo, hi, asInt, asIntOf, hs, hr0, hw0, Addr.add_lit, hst]
  · have hm : m ≠ 0 := by omega
    simp [Builtin.append_, run_underlying ht, run_underlying hu, sizeOf, typeInfo, zeroValue, hi, hz, asInt, asIntOf, hw, hn0, h48i, hs, hm, hroom, zero_cells hc, Addr.add_lit, hst]
theorem run_appz_grow (t u ty e : TypeId) (i : TypeInfo) (z : Value) (ht : P.underlying t = some (.slice e)) (hu : P.underlying u = some (.int .i64)) (hi : P.info? e = some i) (hz : i.zero = some z) (hs : i.size = 1)
    (b : Addr) (sLen sCap : Nat) (olds : List Value) (hlo : olds.length = sLen) (holds : ∀ j v, olds[j]? = some v → w.cell? (b.add j) = some v)
    (n : Nat) (h0 : 0 < n) (hg : sCap < sLen + n) (h63 : ((sLen + n : Nat) : Int) ≤ 9223372036854775807) (h48 : n * i.bytes ≤ 281474976710656) (hfit : Builtin.nextslicecap (sLen + n) sCap * i.bytes ≤ 281474976710656) :
    (Builtin.append_ #[t, u] ty #[.slice (some b) sLen sCap, .int .i64 (n : Int)]).run P w =
      .ok (.slice (some ⟨w.heap.size, 0, none⟩) (sLen + n) (grownCap w (sLen + n) sCap e))
        (w.drew.alloc (.cells (olds.toArray ++ Builtin.zeroCells z.cells n ++ Builtin.zeroCells z.cells (grownCap w (sLen + n) sCap e - (sLen + n))) e)) := by
  have hn : ¬ (sLen + n ≤ sCap) := by omega
  have hn' : n ≠ 0 := by omega
  have hw : IntKind.i64.wrap (n : Int) = (n : Int) := wrapI _ (by omega) (by omega)
  have hn0 : ¬ ((n : Int) < 0) := by omega
  have h48i : ¬ (281474976710656 < (n : Int) * (i.bytes : Int)) := by rw [← Int.natCast_mul]; omega
  have h63' : ¬ (9223372036854775807 < ((sLen : Int) + (n : Int))) := by omega
  have h48' : ¬ (281474976710656 < Builtin.nextslicecap (sLen + n) sCap * i.bytes) := by omega
  have hfo := run_firstCells_some (P := P) w.drew 1 sLen b sLen sCap olds (by omega) (by simpa using holds)
  simp [Builtin.append_, run_underlying ht, run_underlying hu, sizeOf, typeInfo, zeroValue, hi, hz, asInt, asIntOf, hw, hn0, h48i, hs, hn', hn, h63', h48', Question.forced, hfo, newRow, grownCap]
end run
/-- **append** of m zeros, on a row of ours. -/
theorem row_appz {P : Program} {T U E ty : TypeId} {i : TypeInfo} {z : Value} (ht : P.underlying T = some (.slice E)) (hu : P.underlying U = some (.int .i64)) (hi : P.info? E = some i) (hz : i.zero = some z) (hsz : i.size = 1) (hzc : z.cells = #[z]) (h1 : z.oneCell' = true)
    {v : Value} {n : Nat} {xs : List Value} {seg pre post : Fs} {w0 : World} {S : List Nat} {w : World} (h : IsRow E 1 v n xs seg) (hs : St w0 S (pre ++ (seg ++ post)) w)
    (m : Nat) (h63 : n + m ≤ maxLen) (hbytes : (n + m) * i.bytes ≤ 140737488355328) :
    ∃ v' seg' w', (Builtin.append_ #[T, U] ty #[v, .int .i64 (m : Int)]).run P w = .ok v' w' ∧ IsRow E 1 v' (n + m) (xs ++ List.replicate m z) seg' ∧ St w0 S (pre ++ (seg' ++ post)) w' ∧ w.heap.size ≤ w'.heap.size ∧
      (∀ b, b < w.heap.size → b ∉ seg'.map (·.1) → w'.heap[b]? = w.heap[b]?) ∧ (∀ q ∈ seg', w.heap.size ≤ q.1 ∨ q.1 ∈ seg.map (·.1)) := by
  have h63' : n + m ≤ 9223372036854775807 := by simp only [maxLen] at h63; omega
  have hmb : m * i.bytes ≤ (n + m) * i.bytes := Nat.mul_le_mul_right _ (by omega)
  have fresh : ∀ (o : Obj), Bel w0.heap.size S w0 (w.drew.alloc o) := fun o => (hs.bel.drew).alloc (by have := hs.bel.size; simpa [World.drew] using this) o
  have alike : ∀ (o : Obj) k, k < w.heap.size → (w.drew.alloc o).heap[k]? = w.heap[k]? := fun o k hk => Below.heap_alloc w.drew o k hk
  have cells : ∀ (old : Nat) (ys : List Value), ys.length = n → ((ys.toArray ++ Builtin.zeroCells z.cells m ++ Builtin.zeroCells z.cells (grownCap w (n + m) old E - (n + m))).size = grownCap w (n + m) old E * 1) ∧
      (ys.toArray ++ Builtin.zeroCells z.cells m ++ Builtin.zeroCells z.cells (grownCap w (n + m) old E - (n + m))).toList.take ((n + m) * 1) = ys ++ List.replicate m z := fun old ys hys => by
    have hge := grownCap_ge w (n + m) old E
    rw [zero_cells hzc, zero_cells hzc]
    constructor
    · simp only [Array.size_append, List.size_toArray, List.length_replicate, hys]
      omega
    · have hlen : (ys ++ List.replicate m z).length = (n + m) * 1 := by rw [List.length_append, hys, List.length_replicate]; omega
      simp only [Array.toList_append]
      rw [← hlen]
      exact List.take_left
  cases h with
  | nil =>
    rcases Nat.eq_zero_or_pos m with h0 | h0
    · subst h0
      refine ⟨.slice none 0 0, [], w, ?_, .nil, hs, Nat.le_refl _, fun _ _ _ => rfl, fun q hq => by cases hq⟩
      have hw0 : IntKind.i64.wrap 0 = 0 := by decide
      simp [Builtin.append_, run_underlying ht, run_underlying hu, sizeOf, typeInfo, hi, asInt, asIntOf, hsz, hw0]
    · simp only [Nat.zero_add] at *
      have hr := run_appz_nil (P := P) (w := w) T U ty E i z ht hu hi hz hsz m h0 (by omega) (by omega)
      obtain ⟨c1, c2⟩ := cells 0 [] (by simp)
      simp only [List.nil_append, Array.empty_append] at c1 c2
      refine ⟨_, [(w.heap.size, .cells (Builtin.zeroCells z.cells m ++ Builtin.zeroCells z.cells (grownCap w m 0 E - m)) E (0, 0))], _, hr, .own (grownCap_ge w m 0 E) (grownCap_le_maxLen w m 0 E h63) c1 c2 (by simp), ?_, ?_, fun b hb _ => alike _ b hb, fun q hq => ?_⟩
      · exact St.lay (w := w) hs (fresh _) (World.alloc_heap_new w.drew _) (Nat.le_refl _) (alike _)
      · rw [World.size_alloc]; exact Nat.le_succ _
      · obtain rfl : q = _ := by simpa using hq
        exact .inl (Nat.le_refl _)
  | @own g _ cap cur _ hn hmx hc htk hlx =>
    obtain ⟨hg1, hg2⟩ := hs.own (g, .cells cur E (0, 0)) (List.mem_append_right _ (by simp))
    by_cases hroom : n + m ≤ cap
    · have hfit : n + m ≤ cur.size := by omega
      have hr := run_appz_room (P := P) (w := w) T U ty E i z ht hu hi hz hsz hzc h1 g n cap cur hg2 m (by omega) (by omega) hroom hfit
      refine ⟨_, [(g, .cells (cur.toList.take n ++ List.replicate m z ++ cur.toList.drop (n + m)).toArray E (0, 0))], _, hr, .own hroom hmx ?_ ?_ (by rw [List.length_append, hlx, List.length_replicate]; omega), ?_, ?_, fun b hb hk => ?_, fun q hq => ?_⟩
      · simp only [List.size_toArray, List.length_append, List.length_take, List.length_drop, Array.length_toList, List.length_replicate]
        omega
      · rw [Nat.mul_one] at htk
        rw [htk, ← show (xs ++ List.replicate m z).length = (n + m) * 1 by rw [List.length_append, hlx, List.length_replicate]; omega]
        exact List.take_left
      · refine St.swap (w := w) hs (hs.bel.trans ⟨rfl, rfl, rfl, by simp, fun k hk hS => setRow_other w g k _ (fun e => ?_)⟩) (setRow_heap w g cur _ E _ hg2) hg1 (.inl rfl) (fun k _ hk => setRow_other w g k _ hk)
        subst e
        rcases hg1 with hg1 | hg1
        · exact absurd hk (by have : w0.heap.size ≤ k := hg1; omega)
        · exact hS hg1
      · simp
      · exact setRow_other w g b _ (fun e => hk (by simp [e]))
      · obtain rfl : q = _ := by simpa using hq
        exact .inr (by simp)
    · have hlx' : xs.length = n := by omega
      have holds : ∀ j u, xs[j]? = some u → w.cell? ((⟨g, 0, none⟩ : Addr).add j) = some u := fun j u hu => by
        rw [addr_add, Nat.zero_add, cell_of hg2]
        rw [← htk, List.getElem?_take] at hu
        split at hu
        · simpa using hu
        · cases hu
      have hr := run_appz_grow (P := P) (w := w) T U ty E i z ht hu hi hz hsz ⟨g, 0, none⟩ n cap xs hlx' holds m (by omega) (by omega) (by omega) (by omega) (growslice_fits (by omega) hbytes)
      obtain ⟨c1, c2⟩ := cells cap xs hlx'
      refine ⟨_, [(w.heap.size, .cells (xs.toArray ++ Builtin.zeroCells z.cells m ++ Builtin.zeroCells z.cells (grownCap w (n + m) cap E - (n + m))) E (0, 0))], _, hr, .own (grownCap_ge w (n + m) cap E) (grownCap_le_maxLen w (n + m) cap E h63) c1 c2 (by rw [List.length_append, hlx', List.length_replicate]; omega), ?_, ?_, fun b hb _ => alike _ b hb, fun q hq => ?_⟩
      · exact St.swap (w := w) hs (fresh _) (World.alloc_heap_new w.drew _) (.inl hs.bel.size) (.inr (Nat.le_refl _)) (fun k hk _ => alike _ k hk)
      · rw [World.size_alloc]; exact Nat.le_succ _
      · obtain rfl : q = _ := by simpa using hq
        exact .inl (Nat.le_refl _)
section lw
variable {C : Cu} {ops : Array Oper} {Q : Post} {rest : List Oper} {e : Env} {fs : Fs} {d : Nat} {t : TypeId} {pos : String} {af : Array Edge}
/-- **append(s, make([]T, x)...)**. -/
theorem LW.appendZ {s x : Operand} {tys : Array TypeId} {T U E bytes : TypeId} {z v : Value} {n m : Nat} {xs : List Value} {seg pre post : Fs} (hd : Nat.blt d C.N = true) (hT : tys = #[T, U]) (hU : UnI C.P T (.slice E)) (hU2 : UnI C.P U (.int .i64)) (hI : InfoI C.P E 1 z) (hB : BytI C.P E bytes)
    (hz : z.cells = #[z]) (h1 : z.oneCell' = true) (hs : e.ev s = some v) (hx : e.ev x = some (.int .i64 (m : Int))) (hseg : AtSeg fs pre seg post) (hrow : IsRow E 1 v n xs seg) (h63 : n + m ≤ maxLen) (hb : (n + m) * bytes ≤ 140737488355328)
    (k : ∀ v' seg', IsRow E 1 v' (n + m) (xs ++ List.replicate m z) seg' → ∃ fs', AtSeg fs' pre seg' post ∧ LW C ops Q rest ((d, v') :: e) fs') :
    LW C ops Q (⟨some d, .call { callee := .builtin .append, args := #[s, x], argTypes := tys }, t, pos, af, none⟩ :: rest) e fs := fun a w hsat => by
  subst hT
  obtain ⟨i, i1, i2, i3, i4⟩ := info_all (P := C.P) (T := E)
  have hst := hsat.st
  rw [hseg.eq] at hst
  obtain ⟨v', seg', w', hr, hrow', hw', _⟩ := row_appz (P := C.P) (ty := t) hU.un hU2.un i1 i3 i2 hz h1 hrow hst m h63 (by rw [i4]; exact hb)
  obtain ⟨fs', hat', hK⟩ := k v' seg' hrow'
  have hrun : (execOp a.eval ⟨some d, .call { callee := .builtin .append, args := #[s, x], argTypes := #[T, U] }, t, pos, af, none⟩).run C.P w = .ok (.value v') w' := by
    simp [execOp, resolve, invoke, builtin, hsat.env.ev hs, hsat.env.ev hx, hr]
  refine wpListIn_take (wanted_none _ rfl _) ⟨fun _ _ => trivial, ?_⟩
  rw [semAt_FR (fun c h => by cases h), hrun]
  exact hK _ _ ⟨hsat.env.put hd, by rw [hat'.eq]; exact hw'⟩
end lw
section dw
variable {C : Cu} {ops : Array Oper} {Q : Post} {tl rest : List Oper} {e : Env} {ts : Ts} {μ : Mu} {k d : Nat} {t : TypeId} {pos : String} {af : Array Edge} {g : Option (Nat × Bool)}
/-- **append(s, make([]T, x)...)** in whatever order. -/
theorem DW.appendZ {s x : Operand} {tys : Array TypeId} {T U E bytes n m : Nat} {z v : Value} {xs : List Value} {seg : Fs} {ws rs : List Nat} {ts1 : Ts}
    (hk : ops[k]? = some ⟨some d, .call { callee := .builtin .append, args := #[s, x], argTypes := tys }, t, pos, af, g⟩) (hm : μ k = some (cst fun v' gs => IsRow E 1 v' (n + m) (xs ++ List.replicate m z) gs, false)) (hd : Nat.blt d C.N = true) (hg : WantT ops e g)
    (hT : tys = #[T, U]) (hU : UnI C.P T (.slice E)) (hU2 : UnI C.P U (.int .i64)) (hI : InfoI C.P E 1 z) (hB : BytI C.P E bytes) (hz : z.cells = #[z]) (h1 : z.oneCell' = true) (hs : e.ev s = some v) (hx : e.ev x = some (.int .i64 (m : Int)))
    (hrow : IsRow E 1 v n xs seg) (h0 : v = .slice none 0 0 ∨ 0 < n) (hout : TOut ops k ts seg ws rs ts1) (h63 : n + m ≤ maxLen) (hb : (n + m) * bytes ≤ 140737488355328)
    (kk : ∀ v' seg', IsRow E 1 v' (n + m) (xs ++ List.replicate m z) seg' → DW C ops μ Q tl rest (k + 1) ((d, v') :: e) (tsTag (k :: ws) (k :: rs) seg' ++ ts1)) :
    DW C ops μ Q tl (⟨some d, .call { callee := .builtin .append, args := #[s, x], argTypes := tys }, t, pos, af, g⟩ :: rest) k e ts := by
  subst hT
  refine DW.appendG hk hm hd hg hs hx (hrow.blocks h0) hout (RdV.plain rfl .nil) (fun w hst hus => ?_) kk
  obtain ⟨i, i1, i2, i3, i4⟩ := info_all (P := C.P) (T := E)
  obtain ⟨v', seg', w', hr, hrow', hst', g1, g2, g3⟩ := row_appz (P := C.P) (ty := t) (pre := []) (post := []) hU.un hU2.un i1 i3 i2 hz h1 hrow (by simpa using hst) m h63 (by rw [i4]; exact hb)
  simp only [List.nil_append, List.append_nil] at hst'
  exact ⟨v', seg', w', hr, hrow', hst', g1, g2, g3⟩
end dw
end Go.Proofs.YtbhicncgjplnoaaDoor.SL

/-
  A SMALL LOGIC OVER THE KIT's WALK, PART MK: cuts with two bounds.
  Conditions: none; over any program.
-/
namespace Go.Proofs.YtbhicncgjplnoaaDoor
open Go Go.RowKit
namespace SL
section cut
variable {P : Program} {e : Env} {T E : TypeId} {x lo hi : Operand} {p : Option Addr} {n c : Nat}
/-- x[i:j] -/
theorem ValP.cutMid {il ik : IntKind} {i j sz : Nat} {z : Value} (hU : UnI P T (.slice E)) (hI : InfoI P E sz z) (hx : e.ev x = some (.slice p n c)) (hl : e.ev lo = some (.int il (i : Int))) (hh : e.ev hi = some (.int ik (j : Int))) (hij : i ≤ j) (hj : j ≤ c) : ValP P e [] (.slice T x (some lo) (some hi) none) (cutAt p i j c sz) := fun ρ w hρ _ d t pos af g => by
  have hu : P.underlying T = some (.slice E) := hU.un
  have h1 := run_slice_lh (P := P) w T p n c (elem_un hu) il ik (i : Int) (j : Int) (by omega) (by omega) (by omega)
  rw [elem_eq hu, run_size] at h1
  have h2 : (Instr.sliceAt T (.slice p n c) (some (.int il (i : Int))) (some (.int ik (j : Int))) none).run P w = .ok (cutAt p i j c sz) w := by
    rw [run_sliceAt_slice (w := w) T _ _ _ _ (elem_un hu), h1]
    simp only [Result.andThen_ok, sliced, Int.toNat_natCast, cutAt]
  simp [execOp, hρ x _ hx, hρ lo _ hl, hρ hi _ hh, h2]
end cut
theorem RowAt.mid {w : World} {sz n c i j : Nat} {p : Option Addr} {xs : List Value} (h : RowAt w sz (.slice p n c) n xs) (hij : i ≤ j) (hj : j ≤ n) : RowAt w sz (cutAt p i j c sz) (j - i) ((xs.drop (i * sz)).take ((j - i) * sz)) := by
  have := (h.take hj).drop hij
  rwa [List.drop_take, ← Nat.sub_mul] at this
theorem RowAt.midU {w : World} {c i j : Nat} {p : Option Addr} {l : List UInt8} (h : RowAt w 1 (.slice p l.length c) l.length (ucs l)) (hij : i ≤ j) (hj : j ≤ l.length) : RowAt w 1 (cutAt p i j c 1) ((l.drop i).take (j - i)).length (ucs ((l.drop i).take (j - i))) := by
  have := h.mid hij hj
  rw [ucs_drop, ucs_take] at this
  rwa [show ((l.drop i).take (j - i)).length = j - i by rw [List.length_take, List.length_drop]; omega]
section xb
variable {P : Program} {e : Env} {T ty : TypeId} {x y : Operand} {m n : Nat}
theorem ValP.xorBL (hx : e.ev x = some (.int .u8 (m : Int))) (hy : e.ev y = some (.int .u8 (OfNat.ofNat n))) (_ : n = n) (hm : m < 256) (hn : (OfNat.ofNat n : Nat) < 256) : ValP P e [] (.binOp .xor T x y ty) (.int .u8 ((m ^^^ (OfNat.ofNat n : Nat) : Nat) : Int)) :=
  .bin hx hy (fun w => guard_int w) fun w => by
    have h : m ^^^ (OfNat.ofNat n : Nat) < 256 := Nat.xor_lt_two_pow (n := 8) hm hn
    have hb : bits .xor .u8 (m : Int) ((OfNat.ofNat n : Nat) : Int) = ((m ^^^ (OfNat.ofNat n : Nat) : Nat) : Int) := by
      show IntKind.u8.wrap (((BitVec.ofInt 8 (m : Int) ^^^ BitVec.ofInt 8 ((OfNat.ofNat n : Nat) : Int)).toNat : Nat) : Int) = _
      rw [BitVec.toNat_xor, ofInt8 m hm, ofInt8 _ hn, wrapB]
      omega
    rw [binOp_xor, intBits_xor]
    exact congrArg (fun z => (Result.ok (Value.int .u8 z) w)) hb
theorem ValP.xorB (hx : e.ev x = some (.int .u8 (m : Int))) (hy : e.ev y = some (.int .u8 (n : Int))) (hm : m < 256) (hn : n < 256) : ValP P e [] (.binOp .xor T x y ty) (.int .u8 ((m ^^^ n : Nat) : Int)) :=
  .bin hx hy (fun w => guard_int w) fun w => by
    have h : m ^^^ n < 256 := Nat.xor_lt_two_pow (n := 8) hm hn
    have hb : bits .xor .u8 (m : Int) (n : Int) = ((m ^^^ n : Nat) : Int) := by
      show IntKind.u8.wrap (((BitVec.ofInt 8 (m : Int) ^^^ BitVec.ofInt 8 (n : Int)).toNat : Nat) : Int) = _
      rw [BitVec.toNat_xor, ofInt8 m hm, ofInt8 n hn, wrapB]
      omega
    rw [binOp_xor, intBits_xor, hb]; rfl
theorem ValP.shlB {s : Nat} {ik : IntKind} (hx : e.ev x = some (.int .u8 (m : Int))) (hy : e.ev y = some (.int ik (s : Int))) (hs : s ≤ 8) : ValP P e [] (.binOp .shl T x y ty) (.int .u8 ((m * 2 ^ s % 256 : Nat) : Int)) :=
  .bin hx hy (fun w => guard_int w) fun w => by
    rw [binOp_shl, shift_shl .u8 ik _ _ (by omega) (by simp [IntKind.bits]; omega), wrapB]
    simp
theorem ValP.shlBK {s : Nat} {ik : IntKind} (hx : e.ev x = some (.int .u8 (OfNat.ofNat m))) (hy : e.ev y = some (.int ik (s : Int))) (_ : m = m) (hs : s ≤ 8) : ValP P e [] (.binOp .shl T x y ty) (.int .u8 (((OfNat.ofNat m : Nat) * 2 ^ s % 256 : Nat) : Int)) := .shlB (m := OfNat.ofNat m) hx hy hs
end xb
end SL
end Go.Proofs.YtbhicncgjplnoaaDoor

/-
  A SMALL LOGIC OVER THE KIT's WALK, PART ML: max of four; what is behind a row of operations told once.
  Conditions: none; over any program.
-/
namespace Go.Proofs.YtbhicncgjplnoaaDoor.SL
set_option linter.unusedVariables false
set_option linter.unusedSimpArgs false
open Go Go.RowKit
section mm
variable {P : Program} {e : Env} {ik : IntKind} {m n k l : Nat} {x y z u : Operand} {tys : Array TypeId}
theorem ValP.max4 (hx : e.ev x = some (.int ik (m : Int))) (hy : e.ev y = some (.int ik (n : Int))) (hz : e.ev z = some (.int ik (k : Int))) (hu : e.ev u = some (.int ik (l : Int))) : ValP P e [] (.call { callee := .builtin .max, args := #[x, y, z, u], argTypes := tys }) (.int ik ((max (max (max m n) k) l : Nat) : Int)) := fun ρ w hρ _ d t pos af g => by
  have h2 : (Builtin.max_ tys t #[.int ik (m : Int), .int ik (n : Int), .int ik (k : Int), .int ik (l : Int)]).run P w = .ok (.int ik ((max (max (max m n) k) l : Nat) : Int)) w := by
    have h0 : ∀ a b : Nat, (if (b : Int) > (a : Int) then (b : Int) else (a : Int)) = ((max a b : Nat) : Int) := fun a b => by split <;> omega
    have h : (if (l : Int) > (if (k : Int) > (if (n : Int) > (m : Int) then (n : Int) else (m : Int)) then (k : Int) else (if (n : Int) > (m : Int) then (n : Int) else (m : Int))) then (l : Int) else (if (k : Int) > (if (n : Int) > (m : Int) then (n : Int) else (m : Int)) then (k : Int) else (if (n : Int) > (m : Int) then (n : Int) else (m : Int)))) = ((max (max (max m n) k) l : Nat) : Int) := by rw [h0, h0, h0]
    rw [← h]
    simp [Builtin.max_, Builtin.max2]
  simp [execOp, resolve, invoke, builtin, hρ x _ hx, hρ y _ hy, hρ z _ hz, hρ u _ hu, h2]
end mm
theorem oper_mono {F : Fence} {n : Nat} {P : Program} {o : Oper} {a : Act} {w : World} {K K' : Act → World → Prop} {Q Q' : Exit → Act → World → Prop} (h : ∀ a w, K a w → K' a w) (hq : ∀ x a w, Q x a w → Q' x a w)
    (hh : o.wpIn F n P a w K Q) : o.wpIn F n P a w K' Q' := by
  unfold Oper.wpIn at *
  refine ⟨hh.1, ?_⟩
  have hh := hh.2
  generalize (o.semAt F.round a.eval).run P w = r at *
  have hl : LetsOut Q → LetsOut Q' := fun ⟨a, w, h⟩ => ⟨a, w, hq _ _ _ h⟩
  cases r with
  | ok x w' =>
    cases x <;> simp only [Oper.uponIn] at hh ⊢ <;>
      first
        | exact h _ _ hh
        | exact ⟨hh.1, CallsIn.mono hh.2 (fun e w'' he => by cases e <;> first | exact h _ _ he | exact hq _ _ _ he | exact hl he)⟩
        | exact ⟨hh.1, RowsIn.mono hh.2 (fun _ _ he => h _ _ he)⟩
        | exact ⟨hh.1, RoundIn.mono hh.2 (fun e w'' he => by cases e <;> first | exact h _ _ he | exact hq _ _ _ he | exact hl he)⟩
  | halt x w' => cases x <;> simp only [Oper.uponIn] at hh ⊢ <;> first | exact hh | exact hq _ _ _ hh | exact hl hh
theorem wpList_mono {F : Fence} {n : Nat} {P : Program} {ops : Array Oper} {Q Q' : Exit → Act → World → Prop} (hq : ∀ x a w, Q x a w → Q' x a w) : ∀ (l : List Oper) (a : Act) (w : World), wpListIn F n P ops Q l a w → wpListIn F n P ops Q' l a w
  | [], a, w, h => hq _ _ _ h
  | o :: rest, a, w, h => by
    unfold wpListIn at h ⊢
    split
    · rename_i hw
      rw [if_pos hw] at h
      exact oper_mono (fun a w h => wpList_mono hq rest a w h) hq h
    · rename_i hw
      rw [if_neg hw] at h
      exact ⟨h.1, wpList_mono hq rest _ _ h.2⟩
theorem LW.mono {C : Cu} {ops : Array Oper} {Q Q' : Post} {l : List Oper} {e : Env} {fs : Fs} (hq : ∀ x ds e fs, Q x ds e fs → Q' x ds e fs) (h : LW C ops Q l e fs) : LW C ops Q' l e fs :=
  fun a w hs => wpList_mono (fun x _ _ ⟨ds, e, fs, q, s⟩ => ⟨ds, e, fs, hq x ds e fs q, s⟩) l a w (h a w hs)
/-- All that is behind is told once, from less that is known. -/
theorem LW.cut {C : Cu} {ops : Array Oper} {l : List Oper} {y : Code} {Q Q' : Post} {e : Env} {fs : Fs} (e1 : Env) (fs1 : Fs) (k : CW C y Q e1 fs1) (h : LW C ops (thenQ (cutQ C e1 fs1) Q') l e fs) : LW C ops (thenQ (thenC C y Q) Q') l e fs :=
  LW.mono (fun x ds e fs hx => by
    cases x with
    | normal => obtain ⟨rfl, h2, h3⟩ := hx; exact CW.weak (C := C) e1 fs1 h2 h3 k
    | _ => exact hx) h
/-! ### Guards and tests that are not known: both ways -/
section gc
variable {C : Cu} {ops : Array Oper} {Q : Post} {rest : List Oper} {e : Env} {fs : Fs} {d : Nat} {op : Op} {t : TypeId} {pos : String} {af : Array Edge} {j s : Nat} {b : Bool} {p : Prop} [Decidable p]
theorem LW.guardCT (hs : (ops[j]?).bind (·.dst) = some s) (he : e.get s = some (.bool b)) (hd : Nat.blt d C.N = true) (h1 : b = true → LW C ops Q (⟨some d, op, t, pos, af, none⟩ :: rest) e fs) (h2 : b = false → LW C ops Q rest ((d, undef) :: e) fs) :
    LW C ops Q (⟨some d, op, t, pos, af, some (j, true)⟩ :: rest) e fs := by
  cases b with
  | true => exact LW.guardT hs he (h1 rfl)
  | false => exact LW.guardF hs he hd (h2 rfl)
theorem LW.guardCF (hs : (ops[j]?).bind (·.dst) = some s) (he : e.get s = some (.bool b)) (hd : Nat.blt d C.N = true) (h1 : b = false → LW C ops Q (⟨some d, op, t, pos, af, none⟩ :: rest) e fs) (h2 : b = true → LW C ops Q rest ((d, undef) :: e) fs) :
    LW C ops Q (⟨some d, op, t, pos, af, some (j, false)⟩ :: rest) e fs := by
  cases b with
  | true => exact LW.guardF hs he hd (h2 rfl)
  | false => exact LW.guardT hs he (h1 rfl)
theorem LW.guardDT (hs : (ops[j]?).bind (·.dst) = some s) (he : e.get s = some (.bool (decide p))) (hd : Nat.blt d C.N = true) (h1 : p → decide p = true → LW C ops Q (⟨some d, op, t, pos, af, none⟩ :: rest) e fs) (h2 : ¬ p → decide p = false → LW C ops Q rest ((d, undef) :: e) fs) :
    LW C ops Q (⟨some d, op, t, pos, af, some (j, true)⟩ :: rest) e fs :=
  LW.guardCT hs he hd (fun h => h1 (of_decide_eq_true h) h) (fun h => h2 (of_decide_eq_false h) h)
theorem LW.guardDF (hs : (ops[j]?).bind (·.dst) = some s) (he : e.get s = some (.bool (decide p))) (hd : Nat.blt d C.N = true) (h1 : ¬ p → decide p = false → LW C ops Q (⟨some d, op, t, pos, af, none⟩ :: rest) e fs) (h2 : p → decide p = true → LW C ops Q rest ((d, undef) :: e) fs) :
    LW C ops Q (⟨some d, op, t, pos, af, some (j, false)⟩ :: rest) e fs :=
  LW.guardCF hs he hd (fun h => h1 (of_decide_eq_false h) h) (fun h => h2 (of_decide_eq_true h) h)
theorem LW.guardNT (hs : (ops[j]?).bind (·.dst) = some s) (he : e.get s = some (.bool (!decide p))) (hd : Nat.blt d C.N = true) (h1 : ¬ p → (!decide p) = true → LW C ops Q (⟨some d, op, t, pos, af, none⟩ :: rest) e fs) (h2 : p → (!decide p) = false → LW C ops Q rest ((d, undef) :: e) fs) :
    LW C ops Q (⟨some d, op, t, pos, af, some (j, true)⟩ :: rest) e fs :=
  LW.guardCT hs he hd (fun h => h1 (by simpa using h) h) (fun h => h2 (by simpa using h) h)
theorem LW.guardNF (hs : (ops[j]?).bind (·.dst) = some s) (he : e.get s = some (.bool (!decide p))) (hd : Nat.blt d C.N = true) (h1 : p → (!decide p) = false → LW C ops Q (⟨some d, op, t, pos, af, none⟩ :: rest) e fs) (h2 : ¬ p → (!decide p) = true → LW C ops Q rest ((d, undef) :: e) fs) :
    LW C ops Q (⟨some d, op, t, pos, af, some (j, false)⟩ :: rest) e fs :=
  LW.guardCF hs he hd (fun h => h1 (by simpa using h) h) (fun h => h2 (by simpa using h) h)
variable {c : Operand} {x y : Code}
theorem CW.condD (hc : e.ev c = some (.bool (decide p))) (ht : p → decide p = true → CW C x Q e fs) (hf : ¬ p → decide p = false → CW C y Q e fs) : CW C (.cond c x y) Q e fs :=
  CW.cond hc (fun h => ht (of_decide_eq_true h) h) (fun h => hf (of_decide_eq_false h) h)
theorem CW.condN (hc : e.ev c = some (.bool (!decide p))) (ht : ¬ p → (!decide p) = true → CW C x Q e fs) (hf : p → (!decide p) = false → CW C y Q e fs) : CW C (.cond c x y) Q e fs :=
  CW.cond hc (fun h => ht (by simpa using h) h) (fun h => hf (by simpa using h) h)
theorem CW.condM (hc : e.ev c = some (.bool (!!decide p))) (ht : p → (!!decide p) = true → CW C x Q e fs) (hf : ¬ p → (!!decide p) = false → CW C y Q e fs) : CW C (.cond c x y) Q e fs :=
  CW.cond hc (fun h => ht (by simpa using h) h) (fun h => hf (by simpa using h) h)
theorem getB {k : Nat} {b b' : Bool} (h : e.get k = some (.bool b)) (hb : b = b') : e.get k = some (.bool b') := by rw [h, hb]
end gc
end Go.Proofs.YtbhicncgjplnoaaDoor.SL

/-
  A SMALL LOGIC OVER THE KIT's WALK, PART MM: append in a region that draws its order, of what is known only there.
  Conditions: none; over any program.
-/
namespace Go.Proofs.YtbhicncgjplnoaaDoor.SL
set_option linter.unusedVariables false
set_option linter.unusedSimpArgs false
open Go Go.RowKit
section dw
variable {C : Cu} {ops : Array Oper} {Q : Post} {tl rest : List Oper} {e : Env} {ts : Ts} {μ : Mu} {k d : Nat} {t : TypeId} {pos : String} {af : Array Edge} {g : Option (Nat × Bool)}
/-- An operation that lays rows anew, in whatever order. -/
theorem DW.moveX {o : Oper} {bl : List Nat} {M : Facts → Value → Fs → Prop} {seg us2 us3 : Fs} {ws rs : List Nat} {ts1 ts2 : Ts} (hk : ops[k]? = some o) (hdst : o.dst = some d) (hd : Nat.blt d C.N = true)
    (htch0 : ∀ a, EnvOk C.N C.ds e a → tch ops o a = keys seg ++ bl) (hmv0 : ∀ a, EnvOk C.N C.ds e a → mvE (flg (μ k)) ops o a = keys seg) (hout : TOut ops k ts seg ws rs ts1) (hra : ReadAll C ops k bl ts1 us2 ts2) (hown : ∀ p ∈ us3, ∃ ws rs, (p.1, p.2, ws, rs) ∈ ts1)
    (hcl : ∀ a φ, EnvOk C.N C.ds e a → (∀ q ∈ seg, φ q.1 = some q.2 ∧ (C.w0.heap.size ≤ q.1 ∨ q.1 ∈ C.S)) → seg.Pairwise (fun p q => p.1 ≠ q.1) → (∀ w, C.cx.on φ bl w → ∀ p ∈ us2, w.heap[p.1]? = some p.2) → (∀ p ∈ us3, φ p.1 = some p.2) → CanMk C.cx ops (μ k) φ o a (M φ))
    (kk : ∀ φ v' seg', (∀ p ∈ us3, φ p.1 = some p.2) → M φ v' seg' → DW C ops μ Q tl rest (k + 1) ((d, v') :: e) (tsTag (k :: ws) (k :: rs) seg' ++ ts2)) :
    DW C ops μ Q tl (o :: rest) k e ts := by
  intro a φ tw tr ha hrel hinv
  obtain ⟨hperm, hws, hrs⟩ := hout.spec
  have htch := htch0 a ha
  have hmvE := hmv0 a ha
  have hin : ∀ q ∈ seg, (q.1, q.2, ws, rs) ∈ ts := fun q hq => hperm.subset (List.mem_append_left _ (List.mem_map.2 ⟨q, hq, rfl⟩))
  have hsub : ∀ p ∈ ts1, p ∈ ts := fun p hp => hperm.subset (List.mem_append_right _ hp)
  have hnd : (tsTag ws rs seg ++ ts1).Pairwise fun p q => p.1 ≠ q.1 := hperm.symm.pairwise hrel.nd (fun h e => h e.symm)
  obtain ⟨nd1, nd2, nd3⟩ := List.pairwise_append.1 hnd
  have hdis : ∀ q ∈ seg, ∀ p ∈ ts1, p.1 ≠ q.1 := fun q hq p hp e => nd3 (q.1, q.2, ws, rs) (List.mem_map.2 ⟨q, hq, rfl⟩) p hp e.symm
  have hks : ∀ b ∈ keys seg, ∃ q ∈ seg, q.1 = b := fun b hb => by obtain ⟨q, hq, he⟩ := List.mem_map.1 hb; exact ⟨q, hq, he⟩
  have hφs : ∀ q ∈ seg, φ q.1 = some q.2 := fun q hq => hrel.fsome _ (hin q hq)
  have hrel1 : Rel C.w0.heap.size ts1 φ tw (addT tr (keys seg) k) := by
    refine ⟨fun p hp => hrel.fsome p (hsub p hp), fun p hp j hj => hrel.ftw p (hsub p hp) j hj, fun p hp j hj => ?_, hrel.old, fun b hb hB j hj => ?_, nd2⟩
    · rcases hj with hj | ⟨_, hj⟩
      · exact hrel.ftr p (hsub p hp) j hj
      · obtain ⟨q, hq, he⟩ := hks _ hj
        exact absurd he.symm (hdis q hq p hp)
    · rcases hj with hj | ⟨_, hj⟩
      · exact hrel.oldr b hb hB j hj
      · obtain ⟨q, hq, rfl⟩ := hks _ hj
        rw [hφs q hq] at hb; cases hb
  obtain ⟨i1, i2, i3⟩ := hra.rel hinv hrel1
  have hts2 : ∀ p ∈ ts2, ∀ q ∈ seg, p.1 ≠ q.1 := fun p hp q hq => by
    obtain ⟨p', hp', he⟩ := mem_fst hra.fsts hp
    rw [← he]; exact hdis q hq p' hp'
  have hφ3 : ∀ p ∈ us3, φ p.1 = some p.2 := fun p hp => by
    obtain ⟨ws', rs', h⟩ := hown p hp
    exact hrel1.fsome _ h
  unfold walk dOp
  simp only [hk]
  rw [htch, hmvE]
  refine ⟨fun b hb => ?_, .inr ⟨M φ, hcl a φ ha (fun q hq => ⟨hφs q hq, hinv q.1 (by rw [hφs q hq]; simp)⟩) ?_ (fun w hon => i3 w hon) hφ3, fun b hb j hj => ?_, fun v' gs hM hf _ => ?_⟩⟩
  · rcases List.mem_append.1 hb with hb | hb
    · obtain ⟨q, hq, rfl⟩ := hks _ hb
      exact ⟨.inl (by rw [hφs q hq]; simp), fun j hj => ancB_spec hws j (hrel.ftw _ (hin q hq) j hj)⟩
    · exact i2 b hb
  · have := nd1
    simp only [tsTag, List.pairwise_map] at this
    exact this
  · obtain ⟨q, hq, rfl⟩ := hks _ hb
    exact ancB_spec hrs j (hrel.ftr _ (hin q hq) j hj)
  · have hfk : ∀ b ∈ keys gs, (φ b = none ∧ C.w0.heap.size ≤ b) ∨ b ∈ keys seg := fun b hb => (hf.1 b hb).2
    have hk2 : ∀ p ∈ ts2, p.1 ∉ keys gs := fun p hp hk' => by
      rcases hfk _ hk' with h | h
      · rw [i1.fsome p hp] at h; cases h.1
      · obtain ⟨q, hq, he⟩ := hks _ h
        exact hts2 p hp q hq he.symm
    have hup := upds_in (φ := φ) hf.2
    have hg : ∀ p ∈ tsTag (k :: ws) (k :: rs) gs, ∃ q ∈ gs, p = (q.1, q.2, k :: ws, k :: rs) := fun p hp => by
      obtain ⟨q, hq, rfl⟩ := List.mem_map.1 hp; exact ⟨q, hq, rfl⟩
    rw [hdst]
    refine kk φ v' gs hφ3 hM _ _ _ _ (ha.put hd) ⟨fun p hp => ?_, fun p hp j hj => ?_, fun p hp j hj => ?_, fun x hx j hj => ?_, fun x hx hB j hj => ?_, ?_⟩ (inv_upds hinv (fun b hb => (hf.1 b hb).1))
    · rcases List.mem_append.1 hp with hp | hp
      · obtain ⟨q, hq, rfl⟩ := hg p hp; exact hup q hq
      · rw [upds_other (hk2 p hp)]; exact i1.fsome p hp
    · rcases List.mem_append.1 hp with hp | hp
      · obtain ⟨q, hq, rfl⟩ := hg p hp
        rcases hj with hj | ⟨rfl, _⟩
        · rcases hfk q.1 (List.mem_map.2 ⟨q, hq, rfl⟩) with h | h
          · exact absurd hj (hrel.old _ h.1 j)
          · obtain ⟨q', hq', he⟩ := hks _ h
            exact List.mem_cons_of_mem _ (hrel.ftw _ (hin q' hq') j (by rw [he]; exact hj))
        · exact List.mem_cons_self
      · rcases hj with hj | ⟨_, hj⟩
        · exact i1.ftw p hp j hj
        · rcases List.mem_append.1 hj with hj | hj
          · obtain ⟨q, hq, he⟩ := hks _ hj
            exact absurd he.symm (hts2 p hp q hq)
          · exact absurd hj (hk2 p hp)
    · rcases List.mem_append.1 hp with hp | hp
      · obtain ⟨q, hq, rfl⟩ := hg p hp
        rcases hj with hj | ⟨rfl, _⟩
        · rcases hfk q.1 (List.mem_map.2 ⟨q, hq, rfl⟩) with h | h
          · exact absurd hj (hrel.oldr _ h.1 h.2 j)
          · obtain ⟨q', hq', he⟩ := hks _ h
            exact List.mem_cons_of_mem _ (hrel.ftr _ (hin q' hq') j (by rw [he]; exact hj))
        · exact List.mem_cons_self
      · exact i1.ftr p hp j (by rw [← addT_app]; exact hj)
    · have hxk : x ∉ keys gs := fun h => upds_key h hx
      rw [upds_other hxk] at hx
      rcases hj with hj | ⟨_, hj⟩
      · exact hrel.old x hx j hj
      · rcases List.mem_append.1 hj with hj | hj
        · obtain ⟨q, hq, rfl⟩ := hks _ hj
          rw [hφs q hq] at hx; cases hx
        · exact hxk hj
    · have hxk : x ∉ keys gs := fun h => upds_key h hx
      rw [upds_other hxk] at hx
      exact i1.oldr x hx hB j (by rw [← addT_app]; exact hj)
    · refine List.pairwise_append.2 ⟨?_, i1.nd, fun p hp q hq e => ?_⟩
      · simp only [tsTag, List.pairwise_map]; exact hf.2
      · obtain ⟨q', hq', rfl⟩ := hg p hp
        exact hk2 q hq (by rw [← e]; exact List.mem_map.2 ⟨q', hq', rfl⟩)
/-- **append** in whatever order, told by what it does. -/
theorem DW.appendX {s x : Operand} {tys : Array TypeId} {v vx : Value} {R : Rel2} {seg us us3 : Fs} {ws rs : List Nat} {ts1 ts2 : Ts}
    (hk : ops[k]? = some ⟨some d, .call { callee := .builtin .append, args := #[s, x], argTypes := tys }, t, pos, af, g⟩) (hm : μ k = some (R, false)) (hd : Nat.blt d C.N = true) (hg : WantT ops e g)
    (hs : e.ev s = some v) (hx : e.ev x = some vx) (hvk : blocksN 4 v = keys seg ∧ blocksN 1 v = keys seg) (hout : TOut ops k ts seg ws rs ts1) (hrd : RdV C ops k [vx] ts1 us ts2) (hown : ∀ p ∈ us3, (∃ ws rs, (p.1, p.2, ws, rs) ∈ ts1) ∧ p.1 ∈ blocksN 4 vx)
    (hrun : ∀ w, St C.w0 C.S seg w → (∀ p ∈ us, w.heap[p.1]? = some p.2) → ∃ v' seg' w', (Builtin.append_ tys t #[v, vx]).run C.P w = .ok v' w' ∧ (∀ ψ : Facts, (∀ p ∈ us3, ψ p.1 = some p.2) → R [v, vx] ψ v' seg') ∧ St C.w0 C.S seg' w' ∧ w.heap.size ≤ w'.heap.size ∧ (∀ b, b < w.heap.size → b ∉ seg'.map (·.1) → w'.heap[b]? = w.heap[b]?) ∧ (∀ q ∈ seg', w.heap.size ≤ q.1 ∨ q.1 ∈ seg.map (·.1)))
    (kk : ∀ ψ v' seg', (∀ p ∈ us3, ψ p.1 = some p.2) → R [v, vx] ψ v' seg' → DW C ops μ Q tl rest (k + 1) ((d, v') :: e) (tsTag (k :: ws) (k :: rs) seg' ++ ts2)) :
    DW C ops μ Q tl (⟨some d, .call { callee := .builtin .append, args := #[s, x], argTypes := tys }, t, pos, af, g⟩ :: rest) k e ts := by
  obtain ⟨us2, hra, hus⟩ := hrd.all
  have hra : ReadAll C ops k (blocksN 4 vx) ts1 us2 ts2 := by simpa using hra
  have hmvB : ∀ a : Act, EnvOk C.N C.ds e a → mvB false ⟨some d, .call { callee := .builtin .append, args := #[s, x], argTypes := tys }, t, pos, af, g⟩ a.eval = blocksN 1 v := fun a ha => by
    show (match (#[s, x] : Array Operand)[0]? with | some x => blocksN 1 (a.eval x) | none => []) = _
    simp [ha.Ev s v hs]
  have hr3 : ∀ φ : Facts, (∀ p ∈ us3, φ p.1 = some p.2) → ∀ p ∈ us3, rst φ (keys seg ++ blocksN 4 vx) p.1 = some p.2 := fun φ h p hp => by rw [rst_in φ (List.mem_append_right _ (hown p hp).2)]; exact h p hp
  refine DW.moveX (us3 := us3) (M := fun φ => R [v, vx] (rst φ (keys seg ++ blocksN 4 vx))) hk rfl hd (fun a ha => ?_) (fun a ha => ?_) hout hra (fun p hp => (hown p hp).1) (fun a φ ha hseg hnd hus3 hφ3 => ?_) (fun φ v' seg' h3 hM => kk _ v' seg' (hr3 φ h3) hM)
  · have hw := WantT.wanted (o := ⟨some d, .call { callee := .builtin .append, args := #[s, x], argTypes := tys }, t, pos, af, g⟩) hg ha
    rw [tch_want hw, ← hvk.1]
    show ((#[] ++ #[s, x] : Array Operand).toList.flatMap fun y => blocksN 4 (a.eval y)) = _
    simp [ha.Ev s v hs, ha.Ev x vx hx]
  · have hw := WantT.wanted (o := ⟨some d, .call { callee := .builtin .append, args := #[s, x], argTypes := tys }, t, pos, af, g⟩) hg ha
    rw [hm]; unfold mvE; rw [if_pos hw, ← hvk.2]; exact hmvB a ha
  · have hw := WantT.wanted (o := ⟨some d, .call { callee := .builtin .append, args := #[s, x], argTypes := tys }, t, pos, af, g⟩) hg ha
    have hes := ha.Ev s v hs
    have hex := ha.Ev x vx hx
    have htch : touch ⟨some d, .call { callee := .builtin .append, args := #[s, x], argTypes := tys }, t, pos, af, g⟩ a.eval = keys seg ++ blocksN 4 vx := by
      rw [← hvk.1]
      show ((#[] ++ #[s, x] : Array Operand).toList.flatMap fun y => blocksN 4 (a.eval y)) = _
      simp [hes, hex]
    have hvo : valsOf ⟨some d, .call { callee := .builtin .append, args := #[s, x], argTypes := tys }, t, pos, af, g⟩ a.eval = [v, vx] := by
      show ((#[] ++ #[s, x] : Array Operand).toList.map fun y => a.eval y) = _
      simp [hes, hex]
    refine ⟨hw, .inr ⟨⟨R, by rw [hm]; rfl, by rw [hvo, htch]⟩, .inr fun w hon => ?_⟩⟩
    rw [htch] at hon
    have hst : St C.w0 C.S seg w := ⟨hon.1, fun q hq => ⟨(hseg q hq).2, hon.2 q.1 (List.mem_append_left _ (List.mem_map.2 ⟨q, hq, rfl⟩)) _ (hseg q hq).1⟩, hnd⟩
    obtain ⟨v', seg', w', hr, hM, hst', g1, g2, g3⟩ := hrun w hst (fun p hp => hus3 w ⟨hon.1, fun y hy o ho => hon.2 y (List.mem_append_right _ hy) o ho⟩ p (hus p hp))
    refine ⟨v', seg', w', ?_, hM _ (hr3 φ hφ3), hst'.bel, g1, g2, fun q hq => ⟨(hst'.own q hq).2, ?_, ?_⟩, hst'.nd⟩
    · show (execOp a.eval ⟨some d, .call { callee := .builtin .append, args := #[s, x], argTypes := tys }, t, pos, af, g⟩).run C.P w = .ok (.value v') w'
      simp [execOp, resolve, invoke, builtin, hes, hex, hr]
    · exact (hst'.own q hq).1
    · rw [hm, show mvB (flg (some (R, false))) _ _ = keys seg from (hmvB a ha).trans hvk.2]; exact g3 q hq
/-- A row, longer by what the block of the second operand holds. -/
def apR (E : TypeId) (size n : Nat) (xs : List Value) : Rel2 := fun vs ψ v gs => ∀ sv b cs E' fr, vs = [sv, .slice (some ⟨b, 0, none⟩) 1 1] → ψ b = some (.cells cs E' fr) → IsRow E size v (n + 1) (xs ++ cs.toList) gs
/-- **append(s, x)** in whatever order, of one element that is known only there. -/
theorem DW.appendY {s x : Operand} {tys : Array TypeId} {T E size bytes n b : Nat} {z v : Value} {xs : List Value} {cs : Array Value} {E2 : TypeId} {fr : Nat × Nat} {seg : Fs} {ws rs : List Nat} {ts1 ts2 : Ts}
    (hk : ops[k]? = some ⟨some d, .call { callee := .builtin .append, args := #[s, x], argTypes := tys }, t, pos, af, g⟩) (hm : μ k = some (apR E size n xs, false)) (hd : Nat.blt d C.N = true) (hg : WantT ops e g)
    (hT : tys = #[T, T]) (hU : UnI C.P T (.slice E)) (hI : InfoI C.P E size z) (hB : BytI C.P E bytes) (hz : z.cells.size = size) (hs : e.ev s = some v) (hx : e.ev x = some (.slice (some ⟨b, 0, none⟩) 1 1))
    (hrow : IsRow E size v n xs seg) (h0 : v = .slice none 0 0 ∨ 0 < n) (hout : TOut ops k ts seg ws rs ts1) (hrd : TRead ops k ts1 b (.cells cs E2 fr) ts2)
    (hcs : cs.toList.length = size) (h1 : ∀ u ∈ cs.toList, u.oneCell' = true) (h63 : n + 1 ≤ maxLen) (hb : (n + 1) * bytes ≤ 140737488355328)
    (kk : ∀ v' seg', IsRow E size v' (n + 1) (xs ++ cs.toList) seg' → DW C ops μ Q tl rest (k + 1) ((d, v') :: e) (tsTag (k :: ws) (k :: rs) seg' ++ ts2)) :
    DW C ops μ Q tl (⟨some d, .call { callee := .builtin .append, args := #[s, x], argTypes := tys }, t, pos, af, g⟩ :: rest) k e ts := by
  subst hT
  have hmem := hrd.mem
  refine DW.appendX (us := [(b, .cells cs E2 fr)]) (us3 := [(b, .cells cs E2 fr)]) hk hm hd hg hs hx (hrow.blocks h0) hout (RdV.own (by decide) hrd .nil) (fun p hp => ?_) (fun w hst hus => ?_) (fun ψ v' seg' hψ hR => kk v' seg' (hR _ _ _ _ _ rfl (hψ _ (List.mem_singleton.2 rfl))))
  · obtain rfl := List.mem_singleton.1 hp
    obtain ⟨ws', rs', h, _⟩ := hmem
    exact ⟨⟨ws', rs', h⟩, by simp [blocksN]⟩
  obtain ⟨i, q1, q2, q3, q4⟩ := info_all (P := C.P) (T := E)
  have hblk := hus _ (List.mem_singleton.2 rfl)
  dsimp only at hblk
  obtain ⟨v', seg', w', hr, hrow', hst', g1, g2, g3⟩ := row_append2 (P := C.P) (ty := t) (pre := []) (post := []) hU.un q1 q3 q2 hz hrow (by simpa using hst) ⟨b, 0, none⟩ 1 1 cs.toList (by rw [hcs, Nat.one_mul]) (fun j u hj => by
    rw [addr_add, cell_of hblk, Nat.zero_add, ← Array.getElem?_toList]; exact hj) h1 (by decide) h63 (by rw [q4]; exact hb)
  simp only [List.nil_append, List.append_nil] at hst'
  refine ⟨v', seg', w', hr, fun ψ hψ sv b' cs' E' fr' heq hb' => ?_, hst', g1, g2, g3⟩
  simp only [List.cons.injEq, Value.slice.injEq, Option.some.injEq, Addr.mk.injEq, and_true, true_and] at heq
  obtain ⟨_, rfl⟩ := heq
  have := hψ _ (List.mem_singleton.2 rfl)
  dsimp only at this
  rw [this] at hb'
  cases hb'
  exact hrow'
end dw
/-- What is told ahead, by operands' values and touched blocks. -/
def muS (l : List (Nat × Rel2)) : Mu := fun k => (l.find? fun p => Nat.beq p.1 k).map fun p => (p.2, false)
theorem AnyW.anyS {C : Cu} {id : Nat} {l : List Oper} {Q : Post} {fs : Fs} {e : Env} (ms : List (Nat × Rel2)) (n : Nat) (hm : C.P.follows .mixedOrders = true) (hB : headB l.toArray n = true) (h : DW C l.toArray (muS ms) Q (l.drop n) (l.take n) 0 e (tsOf fs)) :
    AnyW C id l Q e fs := CW.any (muS ms) n hm hB h
end Go.Proofs.YtbhicncgjplnoaaDoor.SL

/-
  A SMALL LOGIC OVER THE KIT's WALK, PART MN: structs of plain cells, compared with themselves.
  Conditions: none; over any program.
-/
namespace Go.Proofs.YtbhicncgjplnoaaDoor.SL
set_option linter.unusedVariables false
set_option linter.unusedSimpArgs false
open Go Go.RowKit
section
variable {P : Program} {e : Env} {T ty : TypeId} {x y : Operand} {xs : Array Value}
def plainCell (P : Program) (T : TypeId) (v : Option Value) : Bool :=
  match P.underlying T, v with
  | some .bool, some (.bool _) => true
  | some (.int _), some (.int _ _) => true
  | some .string, some (.string _) => true
  | _, _ => false
def sameFs (P : Program) (xs : Array Value) (fs : List Field) : Bool := fs.all fun f => (f.name != "_") && plainCell P f.type xs[f.offset]?
/-- A struct of plain cells, and a value of it. -/
def sameB (P : Program) (T : TypeId) (xs : Array Value) : Bool :=
  match P.underlying T with
  | some (.struct fs) => !P.stoodInHeld T && !P.eqGuardType P.depth T && sameFs P xs fs.toList
  | _ => false
theorem cell_same {T : TypeId} {off : Nat} (h : plainCell P T xs[off]? = true) (d : Nat) (w : World) : ∃ a, (part T xs off).run P w = .ok a w ∧ (Op.equalIn (d + 1) T a a).run P w = .ok true w := by
  unfold plainCell at h
  split at h
  · rename_i b hu hx
    refine ⟨.bool b, by simp [part, isAgg, run_underlying hu, hx], ?_⟩
    rw [Op.equalIn.eq_def]
    simp [Sem.run_bind, run_underlying hu, Result.andThen_ok]
  · rename_i k k' n hu hx
    refine ⟨.int k' n, by simp [part, isAgg, run_underlying hu, hx], ?_⟩
    rw [Op.equalIn.eq_def]
    simp [Sem.run_bind, run_underlying hu, Result.andThen_ok]
  · rename_i s hu hx
    refine ⟨.string s, by simp [part, isAgg, run_underlying hu, hx], ?_⟩
    rw [Op.equalIn.eq_def]
    simp only [Sem.run_bind, run_underlying hu, Result.andThen_ok, beq_toListBytes]
    simp
  · cases h
theorem fs_same (d : Nat) (w : World) : ∀ (fs : List Field), sameFs P xs fs = true → (Op.eqFields (d + 1) xs xs fs).run P w = .ok true w
  | [], _ => by simp [Op.eqFields]
  | f :: fs, h => by
    simp only [sameFs, List.all_cons, Bool.and_eq_true, bne_iff_ne, ne_eq] at h
    obtain ⟨⟨hn, hc⟩, hr⟩ := h
    obtain ⟨a, h1, h2⟩ := cell_same hc d w
    have ih := fs_same d w fs hr
    simp only [Op.eqFields, hn, ne_eq, not_false_eq_true, if_true, Sem.run_bind, h1, h2, Result.andThen_ok]
    simpa using ih
theorem run_same (h : sameB P T xs = true) (w : World) : (Op.equal T (.agg xs) (.agg xs)).run P w = .ok true w ∧ P.eqGuardType P.depth T = false := by
  unfold sameB at h
  split at h
  · rename_i fs hu
    simp only [Bool.and_eq_true, Bool.not_eq_true'] at h
    obtain ⟨⟨h1, h2⟩, h3⟩ := h
    have hf : P.fieldsOf T = fs := by simp [Program.fieldsOf, hu]
    refine ⟨?_, h2⟩
    unfold Op.equal
    rw [show Op.maxDepth = (Op.maxDepth - 1) + 1 from rfl, run_equalIn_struct w _ T xs xs (by rw [hf]; exact hu) h1, hf, show Op.maxDepth - 1 = (Op.maxDepth - 2) + 1 from rfl]
    exact fs_same _ w _ h3
  · cases h
theorem guard_same {op : BinOp} (h : sameB P T xs = true) (w : World) : (eqGuard op T x y (.agg xs) (.agg xs)).run P w = .ok () w := by
  have h5 := (run_same h w).2
  unfold eqGuard
  cases op <;> simp [Sem.run_bind, run_program, h5]
theorem ValP.eqlSame (hx : e.ev x = some (.agg xs)) (hy : e.ev y = some (.agg xs)) (h : sameB P T xs = true) : ValP P e [] (.binOp .eql T x y ty) (.bool true) :=
  .bin hx hy (fun w => guard_same h w) fun w => by simp [binOp, (run_same h w).1]
theorem ValP.neqSame (hx : e.ev x = some (.agg xs)) (hy : e.ev y = some (.agg xs)) (h : sameB P T xs = true) : ValP P e [] (.binOp .neq T x y ty) (.bool false) :=
  .bin hx hy (fun w => guard_same h w) fun w => by simp [binOp, (run_same h w).1]
end
theorem blkQ_mono {id : Nat} {Q Q' : Post} (h : ∀ x ds e fs, Q x ds e fs → Q' x ds e fs) : ∀ x ds e fs, blkQ id Q x ds e fs → blkQ id Q' x ds e fs := fun x ds e fs hx => by
  cases x with
  | exit k =>
    simp only [blkQ] at hx ⊢
    split at hx <;> exact h _ _ _ _ hx
  | _ => exact h _ _ _ _ hx
theorem cut_then {C : Cu} {y : Code} {Q Q' : Post} {e1 : Env} {fs1 : Fs} (k : CW C y Q e1 fs1) : ∀ x ds e fs, thenQ (cutQ C e1 fs1) Q' x ds e fs → thenQ (thenC C y Q) Q' x ds e fs := fun x ds e fs hx => by
  cases x with
  | normal => obtain ⟨rfl, h2, h3⟩ := hx; exact CW.weak (C := C) e1 fs1 h2 h3 k
  | _ => exact hx
/-- What is behind two blocks, told once. -/
theorem CW.cutBB {C : Cu} {c y : Code} {Q Q' : Post} {e : Env} {fs : Fs} {id id2 : Nat} (e1 : Env) (fs1 : Fs) (k : CW C y Q e1 fs1) (h : CW C c (blkQ id (blkQ id2 (thenQ (cutQ C e1 fs1) Q'))) e fs) : CW C c (blkQ id (blkQ id2 (thenQ (thenC C y Q) Q'))) e fs :=
  CW.mono (blkQ_mono (blkQ_mono (cut_then k))) h
end Go.Proofs.YtbhicncgjplnoaaDoor.SL

/-
  A SMALL LOGIC OVER THE KIT's WALK, PART MO: a region that draws its order, and whose operations and callees turn nothing: one walk.
  Conditions: none; over any program.
-/
namespace Go.Proofs.YtbhicncgjplnoaaDoor.SL
set_option linter.unusedVariables false
set_option linter.unusedSimpArgs false
open Go Go.RowKit
/-- From all that is known here, the quiet operations come to Q. -/
def QW (C : Cu) (ops : Array Oper) (Q : Post) (l : List Oper) (e : Env) (fs : Fs) : Prop :=
  ∀ a, EnvOk C.N C.ds e a → wpQuietIn (FR C.r) 0 C.P ops (fun w => St C.w0 C.S fs w) (fun a' => ∀ w', St C.w0 C.S fs w' → down C Q .normal a' w') l a
theorem CW.quiet {C : Cu} {id : Nat} {l : List Oper} {Q : Post} {e : Env} {fs : Fs} (hr : C.r = none) (hm : C.P.follows .mixedOrders = true) (hB : Region.lexB .any l.toArray = true) (h : QW C l.toArray Q l e fs) : CW C (.region id l.toArray true) Q e fs := fun a w hs =>
  wpIn_region_quiet (C := fun w => St C.w0 C.S fs w) hr hm hB ⟨hs.st.bel.drew, hs.st.own, hs.st.nd⟩ (by simpa using h a hs.env)
section
variable {C : Cu} {ops : Array Oper} {Q : Post} {rest : List Oper} {e : Env} {fs : Fs} {d : Nat} {op : Op} {t : TypeId} {pos : String} {af : Array Edge} {g : Option (Nat × Bool)}
theorem QW.nil (h : Q .normal C.ds e fs) : QW C ops Q [] e fs := fun a ha w' hw => ⟨C.ds, e, fs, h, ⟨ha, hw⟩⟩
theorem QW.vk {v : Value} {us : Fs} (hd : Nat.blt d C.N = true) (hg : WantT ops e g) (h : ValP C.P e us op v) (hus : ∀ p ∈ us, Known C fs p) (k : QW C ops Q rest ((d, v) :: e) fs) : QW C ops Q (⟨some d, op, t, pos, af, g⟩ :: rest) e fs := fun a ha =>
  ⟨fun _ _ _ _ => trivial, by
    rw [if_pos (hg.wanted ha)]
    refine ⟨v, fun w hw => ?_, k _ (ha.put hd)⟩
    unfold Oper.quietAtIn
    rw [h a.eval w ha.Ev (fun p hp => (hus p hp).get hw)]
    exact ⟨rfl, rfl⟩⟩
theorem QW.v0 {v : Value} (hd : Nat.blt d C.N = true) (hg : WantT ops e g) (h : ValP C.P e [] op v) (k : QW C ops Q rest ((d, v) :: e) fs) : QW C ops Q (⟨some d, op, t, pos, af, g⟩ :: rest) e fs :=
  QW.vk hd hg h (by simp) k
theorem QW.load {T : TypeId} {x : Operand} {b off : Nat} {o : Obj} {v : Value} (hd : Nat.blt d C.N = true) (hg : WantT ops e g) (hx : e.ev x = some (.pointer (some ⟨b, off, none⟩))) (hp : Known C fs (b, o)) (h : Rd C.P T o off v) (k : QW C ops Q rest ((d, v) :: e) fs) :
    QW C ops Q (⟨some d, .load T x, t, pos, af, g⟩ :: rest) e fs := QW.vk hd hg (.load hx h) (by simpa using hp) k
theorem QW.skip {j s : Nat} {gb b : Bool} (hd : Nat.blt d C.N = true) (hs : (ops[j]?).bind (·.dst) = some s) (he : e.get s = some (.bool b)) (hb : b = !gb) (k : QW C ops Q rest ((d, undef) :: e) fs) : QW C ops Q (⟨some d, op, t, pos, af, some (j, gb)⟩ :: rest) e fs := fun a ha =>
  ⟨fun _ _ _ _ => trivial, by
    have hy : yielded ops a.tmps j = some (!gb) := by simp [yielded, hs, ha.get s _ he, hb]
    rw [if_neg (by cases gb <;> simp [Region.wanted, hy])]
    exact k _ (ha.put hd)⟩
theorem QW.skipU {j s : Nat} {gb : Bool} (hd : Nat.blt d C.N = true) (hs : (ops[j]?).bind (·.dst) = some s) (he : e.get s = some undef) (k : QW C ops Q rest ((d, undef) :: e) fs) : QW C ops Q (⟨some d, op, t, pos, af, some (j, gb)⟩ :: rest) e fs := fun a ha =>
  ⟨fun _ _ _ _ => trivial, by
    have hy : yielded ops a.tmps j = none := by simp [yielded, hs, ha.get s _ he, undef]
    rw [if_neg (by simp [Region.wanted, hy])]
    exact k _ (ha.put hd)⟩
theorem QW.callE {fo : Operand} {args : Array Operand} {tys : Array TypeId} {f : FuncId} {vs : List Value} {v : Value} (hd : Nat.blt d C.N = true) (hg : WantT ops e g) (hf : e.ev fo = some (.func (.func f) #[] #[])) (hF : FnI C.P f) (ha : ArgsOk e args.toList vs)
    (hc : ∀ w, St C.w0 C.S fs w → Calls C.P f vs.toArray w (Ret w v)) (k : QW C ops Q rest ((d, v) :: e) fs) : QW C ops Q (⟨some d, .call { callee := .value fo, args := args, argTypes := tys }, t, pos, af, g⟩ :: rest) e fs := fun a hae =>
  ⟨fun _ _ _ _ => trivial, by
    rw [if_pos (hg.wanted hae)]
    refine ⟨v, fun w hw => ?_, k _ (hae.put hd)⟩
    unfold Oper.quietAtIn
    have hrun := CallP.fn (P := C.P) (tys := tys) hf ha a.eval w hae.Ev (some d) t pos af g
    rw [hrun, arr_id]
    refine ⟨rfl, fun h => (by cases h), CallsIn.mono (calls_FR (hc w hw)) fun x w' hx => ?_⟩
    exact ⟨hx.1, by have := hw.call (gs := []) hx.2 (by simp) .nil; simpa using this⟩⟩
end
end Go.Proofs.YtbhicncgjplnoaaDoor.SL

/-
  A SMALL LOGIC OVER THE KIT's WALK, PART MP: parts of arrays.
  Conditions: none; over any program.
-/
namespace Go.Proofs.YtbhicncgjplnoaaDoor.SL
set_option linter.unusedVariables false
set_option linter.unusedSimpArgs false
open Go Go.RowKit
/-- a[i:j] of an array. -/
theorem ValP.cutArrMid {P : Program} {e : Env} {T E : TypeId} {x lo hi : Operand} {b off n i j : Nat} {il ik : IntKind} {z : Value} (hU : UnI P T (.array n E)) (hI : InfoI P E 1 z) (hx : e.ev x = some (.pointer (some ⟨b, off, none⟩))) (hl : e.ev lo = some (.int il (i : Int))) (hh : e.ev hi = some (.int ik (j : Int))) (hij : i ≤ j) (hj : j ≤ n) (hlt : i < n) :
    ValP P e [] (.slice T x (some lo) (some hi) none) (.slice (some ⟨b, off + i, none⟩) (j - i) (n - i)) := fun ρ w hρ _ d t pos af g => by
  have hu := hU.un
  have h1 : (Instr.sliceAt T (.pointer (some ⟨b, off, none⟩)) (some (.int il (i : Int))) (some (.int ik (j : Int))) none).run P w = .ok (.slice (some ⟨b, off + i, none⟩) (j - i) (n - i)) w := by
    have hal : P.arrayLen T = n := by rw [Program.arrayLen, hu]
    have hel : P.elem T = E := by rw [Program.elem, hu]
    have h2 := run_sliceAt_array_lh (P := P) w T ⟨b, off, none⟩ (by rw [hal, hel]; exact hu) il ik (i : Int) (j : Int) (by omega) (by omega) (by rw [hal]; omega)
    rw [hel, run_size, hal] at h2
    rw [h2]
    simp only [Result.andThen_ok, slicedAt, Int.toNat_natCast]
    rw [if_neg (by omega)]
    simp [Addr.add]
  simp [execOp, hρ x _ hx, hρ lo _ hl, hρ hi _ hh, h1]
end Go.Proofs.YtbhicncgjplnoaaDoor.SL

/-
  A SMALL LOGIC OVER THE KIT's WALK, PART MQ: calls in a region that draws its order, which are handed rows of ours, or structs that hold such.
  Conditions: none; over any program.
-/
namespace Go.Proofs.YtbhicncgjplnoaaDoor.SL
set_option linter.unusedVariables false
set_option linter.unusedSimpArgs false
open Go Go.RowKit
/-- The same facts, with more readers told. -/
inductive More : Ts → Ts → Prop
  | nil : More [] []
  | cons {b : Nat} {o : Obj} {ws rs rs' : List Nat} {r r' : Ts} (h : ∀ j ∈ rs, j ∈ rs') (hr : More r r') : More ((b, o, ws, rs) :: r) ((b, o, ws, rs') :: r')
theorem More.refl : ∀ (ts : Ts), More ts ts
  | [] => .nil
  | (_, _, _, _) :: r => .cons (fun _ h => h) (More.refl r)
theorem More.trans {a b c : Ts} (h : More a b) : More b c → More a c := by
  intro h2
  induction h generalizing c with
  | nil => exact h2
  | cons h _ ih =>
    cases h2 with
    | cons h' hr' => exact .cons (fun j hj => h' j (h j hj)) (ih hr')
theorem More.app {a b c d : Ts} (h : More a b) (h' : More c d) : More (a ++ c) (b ++ d) := by
  induction h with
  | nil => exact h'
  | cons h _ ih => exact .cons h ih
theorem More.tag (ws rs rs' : List Nat) (h : ∀ j ∈ rs, j ∈ rs') : ∀ (gs : Fs), More (tsTag ws rs gs) (tsTag ws rs' gs)
  | [] => .nil
  | (_, _) :: r => .cons h (More.tag ws rs rs' h r)
theorem More.mem {a b : Ts} (h : More a b) : ∀ p ∈ b, ∃ q ∈ a, q.1 = p.1 ∧ q.2.1 = p.2.1 ∧ q.2.2.1 = p.2.2.1 ∧ ∀ j ∈ q.2.2.2, j ∈ p.2.2.2 := by
  induction h with
  | nil => intro p hp; cases hp
  | cons h _ ih =>
    intro p hp
    rcases List.mem_cons.1 hp with rfl | hp
    · exact ⟨_, List.mem_cons_self, rfl, rfl, rfl, h⟩
    · obtain ⟨q, hq, h2⟩ := ih p hp
      exact ⟨q, List.mem_cons_of_mem _ hq, h2⟩
theorem More.fsts {a b : Ts} (h : More a b) : b.map (·.1) = a.map (·.1) := by
  induction h with
  | nil => rfl
  | cons _ _ ih => simp [ih]
theorem Rel.more {B : Nat} {ts ts' : Ts} {φ : Facts} {tw tr : Tag} (hr : Rel B ts φ tw tr) (h : More ts ts') : Rel B ts' φ tw tr := by
  refine ⟨fun p hp => ?_, fun p hp j hj => ?_, fun p hp j hj => ?_, hr.old, hr.oldr, pairwise_map1 h.fsts hr.nd⟩
  · obtain ⟨q, hq, e1, e2, _, _⟩ := h.mem p hp; rw [← e1, ← e2]; exact hr.fsome q hq
  · obtain ⟨q, hq, e1, _, e3, _⟩ := h.mem p hp; rw [← e3]; exact hr.ftw q hq j (by rw [e1]; exact hj)
  · obtain ⟨q, hq, e1, _, _, e4⟩ := h.mem p hp; exact e4 j (hr.ftr q hq j (by rw [e1]; exact hj))
theorem DW.more {C : Cu} {ops : Array Oper} {μ : Mu} {Q : Post} {tl l : List Oper} {k : Nat} {e : Env} {ts ts' : Ts} (hm : More ts ts') (h : DW C ops μ Q tl l k e ts') : DW C ops μ Q tl l k e ts := fun a φ tw tr ha hrel hinv => h a φ tw tr ha (hrel.more hm) hinv
section
variable {C : Cu} {ops : Array Oper} {k : Nat}
theorem TRead.less {ts1 ts2 : Ts} {b : Nat} {o : Obj} (h : TRead ops k ts1 b o ts2) : ∀ {ts : Ts}, More ts ts1 → ∃ ts2', TRead ops k ts b o ts2' ∧ More ts2' ts2 := by
  induction h with
  | head hw =>
    intro ts hm
    cases hm with
    | cons hj hr => exact ⟨_, .head hw, .cons (fun j h => by
        rcases List.mem_cons.1 h with rfl | h
        · exact List.mem_cons_self
        · exact List.mem_cons_of_mem _ (hj j h)) hr⟩
  | tail _ ih =>
    intro ts hm
    cases hm with
    | cons hj hr =>
      obtain ⟨t, h1, h2⟩ := ih hr
      exact ⟨_, .tail h1, .cons hj h2⟩
theorem ReadAll.less {bs : List Nat} {ts1 ts2 : Ts} {us : Fs} (h : ReadAll C ops k bs ts1 us ts2) : ∀ {ts : Ts}, More ts ts1 → ∃ ts2', ReadAll C ops k bs ts us ts2' ∧ More ts2' ts2 := by
  induction h with
  | nil => intro ts hm; exact ⟨_, .nil, hm⟩
  | own h _ ih =>
    intro ts hm
    obtain ⟨t, h1, h2⟩ := h.less hm
    obtain ⟨t2, h3, h4⟩ := ih h2
    exact ⟨t2, .own h1 h3, h4⟩
  | ext h hS _ ih =>
    intro ts hm
    obtain ⟨t2, h3, h4⟩ := ih hm
    exact ⟨t2, .ext h hS h3, h4⟩
/-- Where a row's facts lie; they are marked as read. -/
inductive TSeg (ops : Array Oper) (k : Nat) (seg : Fs) : Ts → Ts → Prop
  | tag {ws rs : List Nat} {r : Ts} (h : ancB ops k ws = true) : TSeg ops k seg (tsTag ws rs seg ++ r) (tsTag ws (k :: rs) seg ++ r)
  | old {r : Ts} : TSeg ops k seg (tsOf seg ++ r) (tsTag [] [k] seg ++ r)
  | new {j : Nat} {r : Ts} (h : ancB ops k [j] = true) : TSeg ops k seg (tsNew j seg ++ r) (tsTag [j] [k] seg ++ r)
  | one {b : Nat} {o : Obj} {ws rs : List Nat} {r : Ts} (hs : seg = [(b, o)]) (h : ancB ops k ws = true) : TSeg ops k seg ((b, o, ws, rs) :: r) ((b, o, ws, k :: rs) :: r)
  | cons {p : Nat × Obj × List Nat × List Nat} {r r' : Ts} (h : TSeg ops k seg r r') : TSeg ops k seg (p :: r) (p :: r')
  | app {l r r' : Ts} (h : TSeg ops k seg r r') : TSeg ops k seg (l ++ r) (l ++ r')
theorem TSeg.more {seg : Fs} {ts ts' : Ts} (h : TSeg ops k seg ts ts') : More ts ts' := by
  induction h with
  | tag _ => exact .app (.tag _ _ _ (fun j h => List.mem_cons_of_mem _ h) _) (.refl _)
  | old => exact .app (.tag [] [] [k] (fun j h => by cases h) _) (.refl _)
  | new _ => exact .app (.tag _ [] [k] (fun j h => by cases h) _) (.refl _)
  | one _ _ => exact .cons (fun j h => List.mem_cons_of_mem _ h) (.refl _)
  | cons _ ih => exact More.app (.refl [_]) ih
  | app _ ih => exact .app (.refl _) ih
theorem TRead.app' {l : Ts} {ts ts' : Ts} {b : Nat} {o : Obj} (h : TRead ops k ts b o ts') : TRead ops k (l ++ ts) b o (l ++ ts') := by
  induction l with
  | nil => exact h
  | cons p l ih => exact .tail ih
theorem TSeg.read {b : Nat} {o : Obj} {ts ts' : Ts} {seg : Fs} (h : TSeg ops k seg ts ts') (hs : seg = [(b, o)]) : TRead ops k ts b o ts' := by
  induction h with
  | tag h => subst hs; exact .head h
  | old => subst hs; exact .head rfl
  | new h => subst hs; exact .head h
  | one hs' h =>
    rw [hs] at hs'
    cases hs'
    exact .head h
  | cons _ ih => exact .tail ih
  | app _ ih => exact ih.app'
/-- What a call's operands name is looked at; K: what is known then. -/
inductive RdR (C : Cu) (ops : Array Oper) (k : Nat) : List Value → Ts → (World → Prop) → Ts → Prop
  | nil {ts : Ts} : RdR C ops k [] ts (fun _ => True) ts
  | plain {v : Value} {vs : List Value} {ts ts2 : Ts} {K : World → Prop} (hb : blocksN 4 v = []) (h : RdR C ops k vs ts K ts2) : RdR C ops k (v :: vs) ts K ts2
  | flat {v : Value} {us vs : List Value} {ts ts2 : Ts} {K : World → Prop} (hb : blocksN 4 v = us.flatMap (blocksN 4)) (h : RdR C ops k (us ++ vs) ts K ts2) : RdR C ops k (v :: vs) ts K ts2
  | row {E sz n : Nat} {v : Value} {xs : List Value} {seg : Fs} {vs : List Value} {ts ts1 ts2 : Ts} {K : World → Prop} (h : IsRow E sz v n xs seg) (hs : TSeg ops k seg ts ts1) (hr : RdR C ops k vs ts1 K ts2) : RdR C ops k (v :: vs) ts (fun w => RowAt w sz v n xs ∧ K w) ts2
  | ext {v : Value} {n sz : Nat} {xs : List Value} {vs : List Value} {ts ts2 : Ts} {K : World → Prop} (h : RowAt C.w0 sz v n xs) (hS : C.S = []) (hs : RdR C ops k vs ts K ts2) : RdR C ops k (v :: vs) ts (fun w => RowAt w sz v n xs ∧ K w) ts2
theorem RdR.all {vs : List Value} {ts ts' : Ts} {K : World → Prop} (h : RdR C ops k vs ts K ts') : ∃ us ts3, ReadAll C ops k (vs.flatMap (blocksN 4)) ts us ts3 ∧ More ts3 ts' ∧ ∀ w, Bel C.w0.heap.size C.S C.w0 w → (∀ p ∈ us, w.heap[p.1]? = some p.2) → K w := by
  induction h with
  | nil => exact ⟨[], _, .nil, .refl _, fun _ _ _ => trivial⟩
  | plain hb _ ih =>
    obtain ⟨us, t, h1, h2, h3⟩ := ih
    exact ⟨us, t, by rw [List.flatMap_cons, hb]; exact h1, h2, h3⟩
  | flat hb _ ih =>
    obtain ⟨us, t, h1, h2, h3⟩ := ih
    exact ⟨us, t, by rw [List.flatMap_cons, hb, ← List.flatMap_append]; exact h1, h2, h3⟩
  | @row E sz n v xs seg vs ts ts1 ts2 K h hs hr ih =>
    obtain ⟨us, t, h1, h2, h3⟩ := ih
    have skip : blocksN 4 v = [] → (∀ w, RowAt w sz v n xs) → ∃ us ts3, ReadAll C ops k ((v :: vs).flatMap (blocksN 4)) ts us ts3 ∧ More ts3 ts2 ∧ ∀ w, Bel C.w0.heap.size C.S C.w0 w → (∀ p ∈ us, w.heap[p.1]? = some p.2) → RowAt w sz v n xs ∧ K w := fun e hw => by
      obtain ⟨t2, h4, h5⟩ := h1.less hs.more
      exact ⟨us, t2, by rw [List.flatMap_cons, e]; exact h4, h5.trans h2, fun w hb hu => ⟨hw w, h3 w hb hu⟩⟩
    cases h with
    | nil => exact skip rfl fun _ => .nil
    | @own g _ cap cur _ hn hm hc ht hl =>
      rcases Nat.eq_zero_or_pos cap with hc0 | hc0
      · subst hc0
        obtain rfl : n = 0 := by omega
        exact skip (by simp [blocksN]) fun w => ⟨⟨_, _, rfl, hn, hm⟩, hl, fun h => absurd h (by omega), fun p k d hv => by cases hv; exact .inr (.inl rfl)⟩
      · refine ⟨(g, .cells cur E (0, 0)) :: us, t, ?_, h2, fun w hb hu => ⟨?_, h3 w hb fun p hp => hu p (List.mem_cons_of_mem _ hp)⟩⟩
        · rw [List.flatMap_cons, show blocksN 4 (.slice (some ⟨g, 0, .none⟩) n cap) = [g] by simp [blocksN, Nat.ne_of_gt hc0]]
          exact .own (hs.read rfl) h1
        · exact (IsRow.own hn hm hc ht hl).us (us := [(g, .cells cur E (0, 0))]) (fun p hp => hu p (by rw [List.mem_singleton.1 hp]; exact List.mem_cons_self)) (List.Sublist.refl _)
  | @ext v n sz xs vs ts ts2 K h hS hs ih =>
    obtain ⟨us, t, h1, h2, h3⟩ := ih
    have hw : ∀ w, Bel C.w0.heap.size C.S C.w0 w → RowAt w sz v n xs := fun w hb => by rw [hS] at hb; exact h.bel hb
    obtain ⟨p, c, rfl, _, _⟩ := h.form
    rcases h.lies _ _ _ rfl with rfl | rfl | ⟨b, off, o, rfl, hb⟩
    · exact ⟨us, t, h1, h2, fun w hb hu => ⟨hw w hb, h3 w hb hu⟩⟩
    · exact ⟨us, t, by rw [List.flatMap_cons, show blocksN 4 (.slice p n 0) = [] by cases p <;> simp [blocksN]]; exact h1, h2, fun w hb hu => ⟨hw w hb, h3 w hb hu⟩⟩
    · rcases Nat.eq_zero_or_pos c with hc | hc
      · subst hc
        exact ⟨us, t, by rw [List.flatMap_cons, show blocksN 4 (.slice (some ⟨b, off, .none⟩) n 0) = [] by simp [blocksN]]; exact h1, h2, fun w hb hu => ⟨hw w hb, h3 w hb hu⟩⟩
      · refine ⟨(b, o) :: us, t, ?_, h2, fun w hb hu => ⟨hw w hb, h3 w hb fun p hp => hu p (List.mem_cons_of_mem _ hp)⟩⟩
        rw [List.flatMap_cons, show blocksN 4 (.slice (some ⟨b, off, .none⟩) n c) = [b] by simp [blocksN, Nat.ne_of_gt hc]]
        exact .ext hb (by rw [hS]; simp) h1
end
section dw
variable {C : Cu} {ops : Array Oper} {Q : Post} {tl rest : List Oper} {e : Env} {ts : Ts} {μ : Mu} {k d : Nat} {op : Op} {t : TypeId} {pos : String} {af : Array Edge} {g : Option (Nat × Bool)}
theorem DW.callK {fo : Operand} {args : Array Operand} {tys : Array TypeId} {f : FuncId} {vs : List Value} {v : Value} {K : World → Prop} {ts' : Ts} (hk : ops[k]? = some ⟨some d, .call { callee := .value fo, args := args, argTypes := tys }, t, pos, af, g⟩) (hm : μ k = none)
    (hd : Nat.blt d C.N = true) (hg : WantT ops e g) (hf : e.ev fo = some (.func (.func f) #[] #[])) (hF : FnI C.P f) (ha : ArgsOk e args.toList vs) (hr : RdR C ops k vs ts K ts')
    (hc : ∀ w, Bel C.w0.heap.size C.S C.w0 w → K w → Calls C.P f vs.toArray w (Ret w v)) (kk : DW C ops μ Q tl rest (k + 1) ((d, v) :: e) ts') :
    DW C ops μ Q tl (⟨some d, .call { callee := .value fo, args := args, argTypes := tys }, t, pos, af, g⟩ :: rest) k e ts := by
  obtain ⟨us2, t3, h1, h2, h3⟩ := hr.all
  exact DW.callE hk hm hd hg hf hF ha (show _ = vs.flatMap (blocksN 4) from rfl) h1 (fun w hb hu => hc w hb (h3 w hb hu)) (kk.more h2)
theorem More.new (j : Nat) (gs : Fs) {a b : Ts} (h : More a b) : More (tsNew j gs ++ a) (tsNew j gs ++ b) := .app (.refl _) h
theorem DW.manyK {fo : Operand} {args : Array Operand} {tys : Array TypeId} {f : FuncId} {vs : List Value} {M : Rel1} {K : World → Prop} {ts' : Ts} (hk : ops[k]? = some ⟨some d, .call { callee := .value fo, args := args, argTypes := tys }, t, pos, af, g⟩) (hm : μ k = some (cst M, false))
    (hd : Nat.blt d C.N = true) (hg : WantT ops e g) (hf : e.ev fo = some (.func (.func f) #[] #[])) (hF : FnI C.P f) (ha : ArgsOk e args.toList vs) (hr : RdR C ops k vs ts K ts')
    (hc : ∀ w, Bel C.w0.heap.size C.S C.w0 w → K w → Calls C.P f vs.toArray w (RetG w [] M)) (kk : ∀ v gs, M v gs → DW C ops μ Q tl rest (k + 1) ((d, v) :: e) (tsNew k gs ++ ts')) :
    DW C ops μ Q tl (⟨some d, .call { callee := .value fo, args := args, argTypes := tys }, t, pos, af, g⟩ :: rest) k e ts := by
  obtain ⟨us2, t3, h1, h2, h3⟩ := hr.all
  exact DW.manyE hk hm hd hg hf hF ha (show _ = vs.flatMap (blocksN 4) from rfl) h1 (fun w hb hu => hc w hb (h3 w hb hu)) (fun v gs hM => (kk v gs hM).more (.new k gs h2))
end dw
theorem tsNew_app (k : Nat) (a b : Fs) : tsNew k (a ++ b) = tsNew k a ++ tsNew k b := by simp [tsNew]
end Go.Proofs.YtbhicncgjplnoaaDoor.SL

/-
  What is known of this seat's types and functions, as instances: made by program (wip/gen_inst.py) off the translation; each is proved by the kernel's reckoning.
  Conditions: none.
-/
namespace Go.Proofs.YtbhicncgjplnoaaDoor
open Go Go.RowKit SL

instance : AgI Tryd.prog 1 false := ⟨by kernel_rfl⟩
instance : InfoI Tryd.prog 1 1 (.nilFunc) := ⟨by kernel_rfl⟩
instance : BytI Tryd.prog 1 8 := ⟨by kernel_rfl⟩
instance : AgI Tryd.prog 2 false := ⟨by kernel_rfl⟩
instance : UnI Tryd.prog 2 (.int .i64) := ⟨by kernel_rfl⟩
instance : InfoI Tryd.prog 2 1 (.int .i64 0) := ⟨by kernel_rfl⟩
instance : BytI Tryd.prog 2 8 := ⟨by kernel_rfl⟩
instance : AgI Tryd.prog 3 false := ⟨by kernel_rfl⟩
instance : UnI Tryd.prog 3 (.int .i64) := ⟨by kernel_rfl⟩
instance : InfoI Tryd.prog 3 1 (.int .i64 0) := ⟨by kernel_rfl⟩
instance : BytI Tryd.prog 3 8 := ⟨by kernel_rfl⟩
instance : AgI Tryd.prog 4 false := ⟨by kernel_rfl⟩
instance : UnI Tryd.prog 4 (.bool) := ⟨by kernel_rfl⟩
instance : InfoI Tryd.prog 4 1 (.bool false) := ⟨by kernel_rfl⟩
instance : BytI Tryd.prog 4 1 := ⟨by kernel_rfl⟩
instance : AgI Tryd.prog 5 false := ⟨by kernel_rfl⟩
instance : UnI Tryd.prog 5 (.int .u8) := ⟨by kernel_rfl⟩
instance : InfoI Tryd.prog 5 1 (.int .u8 0) := ⟨by kernel_rfl⟩
instance : BytI Tryd.prog 5 1 := ⟨by kernel_rfl⟩
instance : AgI Tryd.prog 6 false := ⟨by kernel_rfl⟩
instance : UnI Tryd.prog 6 (.int .u8) := ⟨by kernel_rfl⟩
instance : InfoI Tryd.prog 6 1 (.int .u8 0) := ⟨by kernel_rfl⟩
instance : BytI Tryd.prog 6 1 := ⟨by kernel_rfl⟩
instance : AgI Tryd.prog 7 true := ⟨by kernel_rfl⟩
instance : InfoI Tryd.prog 7 4 (.agg #[.int .i64 0, .int .i64 0, .bool false, .int .u8 0]) := ⟨by kernel_rfl⟩
instance : BytI Tryd.prog 7 24 := ⟨by kernel_rfl⟩
instance : StrI Tryd.prog 7 [(0, 1), (1, 1), (2, 1), (3, 1)] := ⟨by kernel_rfl⟩
instance : FldI Tryd.prog 7 0 0 2 := .mk' (by kernel_rfl)
instance : FldI Tryd.prog 7 1 1 3 := .mk' (by kernel_rfl)
instance : FldI Tryd.prog 7 2 2 4 := .mk' (by kernel_rfl)
instance : FldI Tryd.prog 7 3 3 6 := .mk' (by kernel_rfl)
instance : AgI Tryd.prog 8 true := ⟨by kernel_rfl⟩
instance : InfoI Tryd.prog 8 4 (.agg #[.int .i64 0, .int .i64 0, .bool false, .int .u8 0]) := ⟨by kernel_rfl⟩
instance : BytI Tryd.prog 8 24 := ⟨by kernel_rfl⟩
instance : StrI Tryd.prog 8 [(0, 1), (1, 1), (2, 1), (3, 1)] := ⟨by kernel_rfl⟩
instance : FldI Tryd.prog 8 0 0 2 := .mk' (by kernel_rfl)
instance : FldI Tryd.prog 8 1 1 3 := .mk' (by kernel_rfl)
instance : FldI Tryd.prog 8 2 2 4 := .mk' (by kernel_rfl)
instance : FldI Tryd.prog 8 3 3 6 := .mk' (by kernel_rfl)
instance : AgI Tryd.prog 9 false := ⟨by kernel_rfl⟩
instance : UnI Tryd.prog 9 (.string) := ⟨by kernel_rfl⟩
instance : InfoI Tryd.prog 9 1 (.string ⟨#[]⟩) := ⟨by kernel_rfl⟩
instance : BytI Tryd.prog 9 16 := ⟨by kernel_rfl⟩
instance : AgI Tryd.prog 10 false := ⟨by kernel_rfl⟩
instance : UnI Tryd.prog 10 (.string) := ⟨by kernel_rfl⟩
instance : InfoI Tryd.prog 10 1 (.string ⟨#[]⟩) := ⟨by kernel_rfl⟩
instance : BytI Tryd.prog 10 16 := ⟨by kernel_rfl⟩
instance : AgI Tryd.prog 11 false := ⟨by kernel_rfl⟩
instance : UnI Tryd.prog 11 (.string) := ⟨by kernel_rfl⟩
instance : InfoI Tryd.prog 11 1 (.string ⟨#[]⟩) := ⟨by kernel_rfl⟩
instance : BytI Tryd.prog 11 16 := ⟨by kernel_rfl⟩
instance : AgI Tryd.prog 12 false := ⟨by kernel_rfl⟩
instance : UnI Tryd.prog 12 (.int .u64) := ⟨by kernel_rfl⟩
instance : InfoI Tryd.prog 12 1 (.int .u64 0) := ⟨by kernel_rfl⟩
instance : BytI Tryd.prog 12 8 := ⟨by kernel_rfl⟩
instance : AgI Tryd.prog 13 true := ⟨by kernel_rfl⟩
instance : InfoI Tryd.prog 13 2 (.agg #[.string ⟨#[]⟩, .int .u64 0]) := ⟨by kernel_rfl⟩
instance : BytI Tryd.prog 13 24 := ⟨by kernel_rfl⟩
instance : StrI Tryd.prog 13 [(0, 1), (1, 1)] := ⟨by kernel_rfl⟩
instance : FldI Tryd.prog 13 0 0 9 := .mk' (by kernel_rfl)
instance : FldI Tryd.prog 13 1 1 12 := .mk' (by kernel_rfl)
instance : AgI Tryd.prog 14 true := ⟨by kernel_rfl⟩
instance : InfoI Tryd.prog 14 2 (.agg #[.string ⟨#[]⟩, .int .u64 0]) := ⟨by kernel_rfl⟩
instance : BytI Tryd.prog 14 24 := ⟨by kernel_rfl⟩
instance : StrI Tryd.prog 14 [(0, 1), (1, 1)] := ⟨by kernel_rfl⟩
instance : FldI Tryd.prog 14 0 0 9 := .mk' (by kernel_rfl)
instance : FldI Tryd.prog 14 1 1 12 := .mk' (by kernel_rfl)
instance : AgI Tryd.prog 15 false := ⟨by kernel_rfl⟩
instance : UnI Tryd.prog 15 (.pointer 128) := ⟨by kernel_rfl⟩
instance : InfoI Tryd.prog 15 1 (.pointer none) := ⟨by kernel_rfl⟩
instance : BytI Tryd.prog 15 8 := ⟨by kernel_rfl⟩
instance : AgI Tryd.prog 16 false := ⟨by kernel_rfl⟩
instance : UnI Tryd.prog 16 (.pointer 131) := ⟨by kernel_rfl⟩
instance : InfoI Tryd.prog 16 1 (.pointer none) := ⟨by kernel_rfl⟩
instance : BytI Tryd.prog 16 8 := ⟨by kernel_rfl⟩
instance : AgI Tryd.prog 17 false := ⟨by kernel_rfl⟩
instance : UnI Tryd.prog 17 (.pointer 139) := ⟨by kernel_rfl⟩
instance : InfoI Tryd.prog 17 1 (.pointer none) := ⟨by kernel_rfl⟩
instance : BytI Tryd.prog 17 8 := ⟨by kernel_rfl⟩
instance : AgI Tryd.prog 18 true := ⟨by kernel_rfl⟩
instance : InfoI Tryd.prog 18 1 (.agg #[.pointer none]) := ⟨by kernel_rfl⟩
instance : BytI Tryd.prog 18 8 := ⟨by kernel_rfl⟩
instance : StrI Tryd.prog 18 [(0, 1)] := ⟨by kernel_rfl⟩
instance : FldI Tryd.prog 18 0 0 17 := .mk' (by kernel_rfl)
instance : AgI Tryd.prog 19 true := ⟨by kernel_rfl⟩
instance : InfoI Tryd.prog 19 1 (.agg #[.pointer none]) := ⟨by kernel_rfl⟩
instance : BytI Tryd.prog 19 8 := ⟨by kernel_rfl⟩
instance : StrI Tryd.prog 19 [(0, 1)] := ⟨by kernel_rfl⟩
instance : FldI Tryd.prog 19 0 0 17 := .mk' (by kernel_rfl)
instance : AgI Tryd.prog 20 false := ⟨by kernel_rfl⟩
instance : InfoI Tryd.prog 20 1 (.nilIface) := ⟨by kernel_rfl⟩
instance : BytI Tryd.prog 20 16 := ⟨by kernel_rfl⟩
instance : AgI Tryd.prog 21 false := ⟨by kernel_rfl⟩
instance : UnI Tryd.prog 21 (.int .i32) := ⟨by kernel_rfl⟩
instance : InfoI Tryd.prog 21 1 (.int .i32 0) := ⟨by kernel_rfl⟩
instance : BytI Tryd.prog 21 4 := ⟨by kernel_rfl⟩
instance : AgI Tryd.prog 22 false := ⟨by kernel_rfl⟩
instance : InfoI Tryd.prog 22 1 (.nilFunc) := ⟨by kernel_rfl⟩
instance : BytI Tryd.prog 22 8 := ⟨by kernel_rfl⟩
instance : AgI Tryd.prog 23 true := ⟨by kernel_rfl⟩
instance : InfoI Tryd.prog 23 5 (.agg #[.int .u8 0, .string ⟨#[]⟩, .int .i64 0, .int .i64 0, .int .i64 0]) := ⟨by kernel_rfl⟩
instance : BytI Tryd.prog 23 48 := ⟨by kernel_rfl⟩
instance : StrI Tryd.prog 23 [(0, 1), (1, 1), (2, 1), (3, 1), (4, 1)] := ⟨by kernel_rfl⟩
instance : FldI Tryd.prog 23 0 0 5 := .mk' (by kernel_rfl)
instance : FldI Tryd.prog 23 1 1 9 := .mk' (by kernel_rfl)
instance : FldI Tryd.prog 23 2 2 3 := .mk' (by kernel_rfl)
instance : FldI Tryd.prog 23 3 3 3 := .mk' (by kernel_rfl)
instance : FldI Tryd.prog 23 4 4 3 := .mk' (by kernel_rfl)
instance : AgI Tryd.prog 24 true := ⟨by kernel_rfl⟩
instance : InfoI Tryd.prog 24 5 (.agg #[.int .u8 0, .string ⟨#[]⟩, .int .i64 0, .int .i64 0, .int .i64 0]) := ⟨by kernel_rfl⟩
instance : BytI Tryd.prog 24 48 := ⟨by kernel_rfl⟩
instance : StrI Tryd.prog 24 [(0, 1), (1, 1), (2, 1), (3, 1), (4, 1)] := ⟨by kernel_rfl⟩
instance : FldI Tryd.prog 24 0 0 5 := .mk' (by kernel_rfl)
instance : FldI Tryd.prog 24 1 1 9 := .mk' (by kernel_rfl)
instance : FldI Tryd.prog 24 2 2 3 := .mk' (by kernel_rfl)
instance : FldI Tryd.prog 24 3 3 3 := .mk' (by kernel_rfl)
instance : FldI Tryd.prog 24 4 4 3 := .mk' (by kernel_rfl)
instance : AgI Tryd.prog 25 false := ⟨by kernel_rfl⟩
instance : UnI Tryd.prog 25 (.int .i64) := ⟨by kernel_rfl⟩
instance : InfoI Tryd.prog 25 1 (.int .i64 0) := ⟨by kernel_rfl⟩
instance : BytI Tryd.prog 25 8 := ⟨by kernel_rfl⟩
instance : AgI Tryd.prog 27 false := ⟨by kernel_rfl⟩
instance : InfoI Tryd.prog 27 1 (.nilFunc) := ⟨by kernel_rfl⟩
instance : BytI Tryd.prog 27 8 := ⟨by kernel_rfl⟩
instance : AgI Tryd.prog 29 false := ⟨by kernel_rfl⟩
instance : InfoI Tryd.prog 29 1 (.nilFunc) := ⟨by kernel_rfl⟩
instance : BytI Tryd.prog 29 8 := ⟨by kernel_rfl⟩
instance : AgI Tryd.prog 30 false := ⟨by kernel_rfl⟩
instance : InfoI Tryd.prog 30 1 (.nilFunc) := ⟨by kernel_rfl⟩
instance : BytI Tryd.prog 30 8 := ⟨by kernel_rfl⟩
instance : AgI Tryd.prog 31 false := ⟨by kernel_rfl⟩
instance : InfoI Tryd.prog 31 1 (.nilFunc) := ⟨by kernel_rfl⟩
instance : BytI Tryd.prog 31 8 := ⟨by kernel_rfl⟩
instance : AgI Tryd.prog 32 false := ⟨by kernel_rfl⟩
instance : InfoI Tryd.prog 32 1 (.nilFunc) := ⟨by kernel_rfl⟩
instance : BytI Tryd.prog 32 8 := ⟨by kernel_rfl⟩
instance : AgI Tryd.prog 33 false := ⟨by kernel_rfl⟩
instance : UnI Tryd.prog 33 (.slice 5) := ⟨by kernel_rfl⟩
instance : InfoI Tryd.prog 33 1 (.slice none 0 0) := ⟨by kernel_rfl⟩
instance : BytI Tryd.prog 33 24 := ⟨by kernel_rfl⟩
instance : AgI Tryd.prog 35 false := ⟨by kernel_rfl⟩
instance : InfoI Tryd.prog 35 1 (.nilFunc) := ⟨by kernel_rfl⟩
instance : BytI Tryd.prog 35 8 := ⟨by kernel_rfl⟩
instance : AgI Tryd.prog 36 false := ⟨by kernel_rfl⟩
instance : InfoI Tryd.prog 36 1 (.nilFunc) := ⟨by kernel_rfl⟩
instance : BytI Tryd.prog 36 8 := ⟨by kernel_rfl⟩
instance : AgI Tryd.prog 38 false := ⟨by kernel_rfl⟩
instance : InfoI Tryd.prog 38 1 (.nilFunc) := ⟨by kernel_rfl⟩
instance : BytI Tryd.prog 38 8 := ⟨by kernel_rfl⟩
instance : AgI Tryd.prog 39 false := ⟨by kernel_rfl⟩
instance : InfoI Tryd.prog 39 1 (.nilFunc) := ⟨by kernel_rfl⟩
instance : BytI Tryd.prog 39 8 := ⟨by kernel_rfl⟩
instance : AgI Tryd.prog 40 false := ⟨by kernel_rfl⟩
instance : InfoI Tryd.prog 40 1 (.nilFunc) := ⟨by kernel_rfl⟩
instance : BytI Tryd.prog 40 8 := ⟨by kernel_rfl⟩
instance : AgI Tryd.prog 41 false := ⟨by kernel_rfl⟩
instance : InfoI Tryd.prog 41 1 (.nilFunc) := ⟨by kernel_rfl⟩
instance : BytI Tryd.prog 41 8 := ⟨by kernel_rfl⟩
instance : AgI Tryd.prog 42 false := ⟨by kernel_rfl⟩
instance : InfoI Tryd.prog 42 1 (.nilFunc) := ⟨by kernel_rfl⟩
instance : BytI Tryd.prog 42 8 := ⟨by kernel_rfl⟩
instance : AgI Tryd.prog 43 false := ⟨by kernel_rfl⟩
instance : InfoI Tryd.prog 43 1 (.nilFunc) := ⟨by kernel_rfl⟩
instance : BytI Tryd.prog 43 8 := ⟨by kernel_rfl⟩
instance : AgI Tryd.prog 44 false := ⟨by kernel_rfl⟩
instance : UnI Tryd.prog 44 (.int .u64) := ⟨by kernel_rfl⟩
instance : InfoI Tryd.prog 44 1 (.int .u64 0) := ⟨by kernel_rfl⟩
instance : BytI Tryd.prog 44 8 := ⟨by kernel_rfl⟩
instance : AgI Tryd.prog 45 false := ⟨by kernel_rfl⟩
instance : UnI Tryd.prog 45 (.slice 3) := ⟨by kernel_rfl⟩
instance : InfoI Tryd.prog 45 1 (.slice none 0 0) := ⟨by kernel_rfl⟩
instance : BytI Tryd.prog 45 24 := ⟨by kernel_rfl⟩
instance : AgI Tryd.prog 46 false := ⟨by kernel_rfl⟩
instance : InfoI Tryd.prog 46 1 (.nilFunc) := ⟨by kernel_rfl⟩
instance : BytI Tryd.prog 46 8 := ⟨by kernel_rfl⟩
instance : AgI Tryd.prog 47 false := ⟨by kernel_rfl⟩
instance : InfoI Tryd.prog 47 1 (.nilFunc) := ⟨by kernel_rfl⟩
instance : BytI Tryd.prog 47 8 := ⟨by kernel_rfl⟩
instance : AgI Tryd.prog 48 false := ⟨by kernel_rfl⟩
instance : InfoI Tryd.prog 48 1 (.nilFunc) := ⟨by kernel_rfl⟩
instance : BytI Tryd.prog 48 8 := ⟨by kernel_rfl⟩
instance : AgI Tryd.prog 49 false := ⟨by kernel_rfl⟩
instance : InfoI Tryd.prog 49 1 (.nilFunc) := ⟨by kernel_rfl⟩
instance : BytI Tryd.prog 49 8 := ⟨by kernel_rfl⟩
instance : AgI Tryd.prog 50 false := ⟨by kernel_rfl⟩
instance : UnI Tryd.prog 50 (.slice 4) := ⟨by kernel_rfl⟩
instance : InfoI Tryd.prog 50 1 (.slice none 0 0) := ⟨by kernel_rfl⟩
instance : BytI Tryd.prog 50 24 := ⟨by kernel_rfl⟩
instance : AgI Tryd.prog 51 false := ⟨by kernel_rfl⟩
instance : UnI Tryd.prog 51 (.slice 9) := ⟨by kernel_rfl⟩
instance : InfoI Tryd.prog 51 1 (.slice none 0 0) := ⟨by kernel_rfl⟩
instance : BytI Tryd.prog 51 24 := ⟨by kernel_rfl⟩
instance : AgI Tryd.prog 52 false := ⟨by kernel_rfl⟩
instance : InfoI Tryd.prog 52 1 (.nilFunc) := ⟨by kernel_rfl⟩
instance : BytI Tryd.prog 52 8 := ⟨by kernel_rfl⟩
instance : AgI Tryd.prog 53 false := ⟨by kernel_rfl⟩
instance : InfoI Tryd.prog 53 1 (.nilFunc) := ⟨by kernel_rfl⟩
instance : BytI Tryd.prog 53 8 := ⟨by kernel_rfl⟩
instance : AgI Tryd.prog 54 false := ⟨by kernel_rfl⟩
instance : InfoI Tryd.prog 54 1 (.nilFunc) := ⟨by kernel_rfl⟩
instance : BytI Tryd.prog 54 8 := ⟨by kernel_rfl⟩
instance : AgI Tryd.prog 55 false := ⟨by kernel_rfl⟩
instance : InfoI Tryd.prog 55 1 (.nilFunc) := ⟨by kernel_rfl⟩
instance : BytI Tryd.prog 55 8 := ⟨by kernel_rfl⟩
instance : AgI Tryd.prog 56 false := ⟨by kernel_rfl⟩
instance : InfoI Tryd.prog 56 1 (.nilFunc) := ⟨by kernel_rfl⟩
instance : BytI Tryd.prog 56 8 := ⟨by kernel_rfl⟩
instance : AgI Tryd.prog 57 false := ⟨by kernel_rfl⟩
instance : UnI Tryd.prog 57 (.slice 24) := ⟨by kernel_rfl⟩
instance : InfoI Tryd.prog 57 1 (.slice none 0 0) := ⟨by kernel_rfl⟩
instance : BytI Tryd.prog 57 24 := ⟨by kernel_rfl⟩
instance : AgI Tryd.prog 58 false := ⟨by kernel_rfl⟩
instance : InfoI Tryd.prog 58 1 (.nilFunc) := ⟨by kernel_rfl⟩
instance : BytI Tryd.prog 58 8 := ⟨by kernel_rfl⟩
instance : AgI Tryd.prog 59 false := ⟨by kernel_rfl⟩
instance : InfoI Tryd.prog 59 1 (.nilFunc) := ⟨by kernel_rfl⟩
instance : BytI Tryd.prog 59 8 := ⟨by kernel_rfl⟩
instance : AgI Tryd.prog 60 false := ⟨by kernel_rfl⟩
instance : InfoI Tryd.prog 60 1 (.nilFunc) := ⟨by kernel_rfl⟩
instance : BytI Tryd.prog 60 8 := ⟨by kernel_rfl⟩
instance : AgI Tryd.prog 61 false := ⟨by kernel_rfl⟩
instance : InfoI Tryd.prog 61 1 (.nilFunc) := ⟨by kernel_rfl⟩
instance : BytI Tryd.prog 61 8 := ⟨by kernel_rfl⟩
instance : AgI Tryd.prog 62 false := ⟨by kernel_rfl⟩
instance : InfoI Tryd.prog 62 1 (.nilFunc) := ⟨by kernel_rfl⟩
instance : BytI Tryd.prog 62 8 := ⟨by kernel_rfl⟩
instance : AgI Tryd.prog 63 false := ⟨by kernel_rfl⟩
instance : InfoI Tryd.prog 63 1 (.nilFunc) := ⟨by kernel_rfl⟩
instance : BytI Tryd.prog 63 8 := ⟨by kernel_rfl⟩
instance : AgI Tryd.prog 64 false := ⟨by kernel_rfl⟩
instance : InfoI Tryd.prog 64 1 (.nilFunc) := ⟨by kernel_rfl⟩
instance : BytI Tryd.prog 64 8 := ⟨by kernel_rfl⟩
instance : AgI Tryd.prog 65 false := ⟨by kernel_rfl⟩
instance : UnI Tryd.prog 65 (.pointer 69) := ⟨by kernel_rfl⟩
instance : InfoI Tryd.prog 65 1 (.pointer none) := ⟨by kernel_rfl⟩
instance : BytI Tryd.prog 65 8 := ⟨by kernel_rfl⟩
instance : AgI Tryd.prog 66 true := ⟨by kernel_rfl⟩
instance : InfoI Tryd.prog 66 1 (.agg #[.slice none 0 0]) := ⟨by kernel_rfl⟩
instance : BytI Tryd.prog 66 24 := ⟨by kernel_rfl⟩
instance : StrI Tryd.prog 66 [(0, 1)] := ⟨by kernel_rfl⟩
instance : FldI Tryd.prog 66 0 0 51 := .mk' (by kernel_rfl)
instance : AgI Tryd.prog 67 true := ⟨by kernel_rfl⟩
instance : InfoI Tryd.prog 67 1 (.agg #[.slice none 0 0]) := ⟨by kernel_rfl⟩
instance : BytI Tryd.prog 67 24 := ⟨by kernel_rfl⟩
instance : StrI Tryd.prog 67 [(0, 1)] := ⟨by kernel_rfl⟩
instance : FldI Tryd.prog 67 0 0 51 := .mk' (by kernel_rfl)
instance : AgI Tryd.prog 68 true := ⟨by kernel_rfl⟩
instance : InfoI Tryd.prog 68 2 (.agg #[.slice none 0 0, .slice none 0 0]) := ⟨by kernel_rfl⟩
instance : BytI Tryd.prog 68 48 := ⟨by kernel_rfl⟩
instance : StrI Tryd.prog 68 [(0, 1), (1, 1)] := ⟨by kernel_rfl⟩
instance : FldI Tryd.prog 68 0 0 67 := .mk' (by kernel_rfl)
instance : FldI Tryd.prog 68 1 1 33 := .mk' (by kernel_rfl)
instance : AgI Tryd.prog 69 true := ⟨by kernel_rfl⟩
instance : InfoI Tryd.prog 69 2 (.agg #[.slice none 0 0, .slice none 0 0]) := ⟨by kernel_rfl⟩
instance : BytI Tryd.prog 69 48 := ⟨by kernel_rfl⟩
instance : StrI Tryd.prog 69 [(0, 1), (1, 1)] := ⟨by kernel_rfl⟩
instance : FldI Tryd.prog 69 0 0 67 := .mk' (by kernel_rfl)
instance : FldI Tryd.prog 69 1 1 33 := .mk' (by kernel_rfl)
instance : AgI Tryd.prog 71 false := ⟨by kernel_rfl⟩
instance : InfoI Tryd.prog 71 1 (.nilFunc) := ⟨by kernel_rfl⟩
instance : BytI Tryd.prog 71 8 := ⟨by kernel_rfl⟩
instance : AgI Tryd.prog 72 false := ⟨by kernel_rfl⟩
instance : InfoI Tryd.prog 72 1 (.nilFunc) := ⟨by kernel_rfl⟩
instance : BytI Tryd.prog 72 8 := ⟨by kernel_rfl⟩
instance : AgI Tryd.prog 73 false := ⟨by kernel_rfl⟩
instance : InfoI Tryd.prog 73 1 (.nilFunc) := ⟨by kernel_rfl⟩
instance : BytI Tryd.prog 73 8 := ⟨by kernel_rfl⟩
instance : AgI Tryd.prog 74 false := ⟨by kernel_rfl⟩
instance : InfoI Tryd.prog 74 1 (.nilFunc) := ⟨by kernel_rfl⟩
instance : BytI Tryd.prog 74 8 := ⟨by kernel_rfl⟩
instance : AgI Tryd.prog 75 false := ⟨by kernel_rfl⟩
instance : InfoI Tryd.prog 75 1 (.nilFunc) := ⟨by kernel_rfl⟩
instance : BytI Tryd.prog 75 8 := ⟨by kernel_rfl⟩
instance : AgI Tryd.prog 76 false := ⟨by kernel_rfl⟩
instance : InfoI Tryd.prog 76 1 (.nilFunc) := ⟨by kernel_rfl⟩
instance : BytI Tryd.prog 76 8 := ⟨by kernel_rfl⟩
instance : AgI Tryd.prog 77 true := ⟨by kernel_rfl⟩
instance : UnI Tryd.prog 77 (.array 50 24) := ⟨by kernel_rfl⟩
instance : InfoI Tryd.prog 77 250 (.agg #[.int .u8 0, .string ⟨#[]⟩, .int .i64 0, .int .i64 0, .int .i64 0, .int .u8 0, .string ⟨#[]⟩, .int .i64 0, .int .i64 0, .int .i64 0, .int .u8 0, .string ⟨#[]⟩, .int .i64 0, .int .i64 0, .int .i64 0, .int .u8 0, .string ⟨#[]⟩, .int .i64 0, .int .i64 0, .int .i64 0, .int .u8 0, .string ⟨#[]⟩, .int .i64 0, .int .i64 0, .int .i64 0, .int .u8 0, .string ⟨#[]⟩, .int .i64 0, .int .i64 0, .int .i64 0, .int .u8 0, .string ⟨#[]⟩, .int .i64 0, .int .i64 0, .int .i64 0, .int .u8 0, .string ⟨#[]⟩, .int .i64 0, .int .i64 0, .int .i64 0, .int .u8 0, .string ⟨#[]⟩, .int .i64 0, .int .i64 0, .int .i64 0, .int .u8 0, .string ⟨#[]⟩, .int .i64 0, .int .i64 0, .int .i64 0, .int .u8 0, .string ⟨#[]⟩, .int .i64 0, .int .i64 0, .int .i64 0, .int .u8 0, .string ⟨#[]⟩, .int .i64 0, .int .i64 0, .int .i64 0, .int .u8 0, .string ⟨#[]⟩, .int .i64 0, .int .i64 0, .int .i64 0, .int .u8 0, .string ⟨#[]⟩, .int .i64 0, .int .i64 0, .int .i64 0, .int .u8 0, .string ⟨#[]⟩, .int .i64 0, .int .i64 0, .int .i64 0, .int .u8 0, .string ⟨#[]⟩, .int .i64 0, .int .i64 0, .int .i64 0, .int .u8 0, .string ⟨#[]⟩, .int .i64 0, .int .i64 0, .int .i64 0, .int .u8 0, .string ⟨#[]⟩, .int .i64 0, .int .i64 0, .int .i64 0, .int .u8 0, .string ⟨#[]⟩, .int .i64 0, .int .i64 0, .int .i64 0, .int .u8 0, .string ⟨#[]⟩, .int .i64 0, .int .i64 0, .int .i64 0, .int .u8 0, .string ⟨#[]⟩, .int .i64 0, .int .i64 0, .int .i64 0, .int .u8 0, .string ⟨#[]⟩, .int .i64 0, .int .i64 0, .int .i64 0, .int .u8 0, .string ⟨#[]⟩, .int .i64 0, .int .i64 0, .int .i64 0, .int .u8 0, .string ⟨#[]⟩, .int .i64 0, .int .i64 0, .int .i64 0, .int .u8 0, .string ⟨#[]⟩, .int .i64 0, .int .i64 0, .int .i64 0, .int .u8 0, .string ⟨#[]⟩, .int .i64 0, .int .i64 0, .int .i64 0, .int .u8 0, .string ⟨#[]⟩, .int .i64 0, .int .i64 0, .int .i64 0, .int .u8 0, .string ⟨#[]⟩, .int .i64 0, .int .i64 0, .int .i64 0, .int .u8 0, .string ⟨#[]⟩, .int .i64 0, .int .i64 0, .int .i64 0, .int .u8 0, .string ⟨#[]⟩, .int .i64 0, .int .i64 0, .int .i64 0, .int .u8 0, .string ⟨#[]⟩, .int .i64 0, .int .i64 0, .int .i64 0, .int .u8 0, .string ⟨#[]⟩, .int .i64 0, .int .i64 0, .int .i64 0, .int .u8 0, .string ⟨#[]⟩, .int .i64 0, .int .i64 0, .int .i64 0, .int .u8 0, .string ⟨#[]⟩, .int .i64 0, .int .i64 0, .int .i64 0, .int .u8 0, .string ⟨#[]⟩, .int .i64 0, .int .i64 0, .int .i64 0, .int .u8 0, .string ⟨#[]⟩, .int .i64 0, .int .i64 0, .int .i64 0, .int .u8 0, .string ⟨#[]⟩, .int .i64 0, .int .i64 0, .int .i64 0, .int .u8 0, .string ⟨#[]⟩, .int .i64 0, .int .i64 0, .int .i64 0, .int .u8 0, .string ⟨#[]⟩, .int .i64 0, .int .i64 0, .int .i64 0, .int .u8 0, .string ⟨#[]⟩, .int .i64 0, .int .i64 0, .int .i64 0, .int .u8 0, .string ⟨#[]⟩, .int .i64 0, .int .i64 0, .int .i64 0, .int .u8 0, .string ⟨#[]⟩, .int .i64 0, .int .i64 0, .int .i64 0, .int .u8 0, .string ⟨#[]⟩, .int .i64 0, .int .i64 0, .int .i64 0, .int .u8 0, .string ⟨#[]⟩, .int .i64 0, .int .i64 0, .int .i64 0, .int .u8 0, .string ⟨#[]⟩, .int .i64 0, .int .i64 0, .int .i64 0, .int .u8 0, .string ⟨#[]⟩, .int .i64 0, .int .i64 0, .int .i64 0, .int .u8 0, .string ⟨#[]⟩, .int .i64 0, .int .i64 0, .int .i64 0, .int .u8 0, .string ⟨#[]⟩, .int .i64 0, .int .i64 0, .int .i64 0, .int .u8 0, .string ⟨#[]⟩, .int .i64 0, .int .i64 0, .int .i64 0, .int .u8 0, .string ⟨#[]⟩, .int .i64 0, .int .i64 0, .int .i64 0]) := ⟨by kernel_rfl⟩
instance : BytI Tryd.prog 77 2400 := ⟨by kernel_rfl⟩
instance : AgI Tryd.prog 78 false := ⟨by kernel_rfl⟩
instance : InfoI Tryd.prog 78 1 (.nilFunc) := ⟨by kernel_rfl⟩
instance : BytI Tryd.prog 78 8 := ⟨by kernel_rfl⟩
instance : AgI Tryd.prog 79 false := ⟨by kernel_rfl⟩
instance : UnI Tryd.prog 79 (.pointer 81) := ⟨by kernel_rfl⟩
instance : InfoI Tryd.prog 79 1 (.pointer none) := ⟨by kernel_rfl⟩
instance : BytI Tryd.prog 79 8 := ⟨by kernel_rfl⟩
instance : AgI Tryd.prog 80 true := ⟨by kernel_rfl⟩
instance : InfoI Tryd.prog 80 2 (.agg #[.pointer none, .slice none 0 0]) := ⟨by kernel_rfl⟩
instance : BytI Tryd.prog 80 32 := ⟨by kernel_rfl⟩
instance : StrI Tryd.prog 80 [(0, 1), (1, 1)] := ⟨by kernel_rfl⟩
instance : FldI Tryd.prog 80 0 0 79 := .mk' (by kernel_rfl)
instance : FldI Tryd.prog 80 1 1 33 := .mk' (by kernel_rfl)
instance : AgI Tryd.prog 81 true := ⟨by kernel_rfl⟩
instance : InfoI Tryd.prog 81 2 (.agg #[.pointer none, .slice none 0 0]) := ⟨by kernel_rfl⟩
instance : BytI Tryd.prog 81 32 := ⟨by kernel_rfl⟩
instance : StrI Tryd.prog 81 [(0, 1), (1, 1)] := ⟨by kernel_rfl⟩
instance : FldI Tryd.prog 81 0 0 79 := .mk' (by kernel_rfl)
instance : FldI Tryd.prog 81 1 1 33 := .mk' (by kernel_rfl)
instance : AgI Tryd.prog 82 false := ⟨by kernel_rfl⟩
instance : UnI Tryd.prog 82 (.int .u64) := ⟨by kernel_rfl⟩
instance : InfoI Tryd.prog 82 1 (.int .u64 0) := ⟨by kernel_rfl⟩
instance : BytI Tryd.prog 82 8 := ⟨by kernel_rfl⟩
instance : AgI Tryd.prog 83 true := ⟨by kernel_rfl⟩
instance : UnI Tryd.prog 83 (.array 2 5) := ⟨by kernel_rfl⟩
instance : InfoI Tryd.prog 83 2 (.agg #[.int .u8 0, .int .u8 0]) := ⟨by kernel_rfl⟩
instance : BytI Tryd.prog 83 2 := ⟨by kernel_rfl⟩
instance : EqI Tryd.prog 83 2 .u8 := .mk' (by kernel_rfl)
instance : AgI Tryd.prog 84 false := ⟨by kernel_rfl⟩
instance : InfoI Tryd.prog 84 1 (.nilIface) := ⟨by kernel_rfl⟩
instance : BytI Tryd.prog 84 16 := ⟨by kernel_rfl⟩
instance : AgI Tryd.prog 85 false := ⟨by kernel_rfl⟩
instance : InfoI Tryd.prog 85 1 (.nilIface) := ⟨by kernel_rfl⟩
instance : BytI Tryd.prog 85 16 := ⟨by kernel_rfl⟩
instance : AgI Tryd.prog 86 false := ⟨by kernel_rfl⟩
instance : InfoI Tryd.prog 86 1 (.nilFunc) := ⟨by kernel_rfl⟩
instance : BytI Tryd.prog 86 8 := ⟨by kernel_rfl⟩
instance : AgI Tryd.prog 87 false := ⟨by kernel_rfl⟩
instance : InfoI Tryd.prog 87 1 (.nilFunc) := ⟨by kernel_rfl⟩
instance : BytI Tryd.prog 87 8 := ⟨by kernel_rfl⟩
instance : AgI Tryd.prog 88 false := ⟨by kernel_rfl⟩
instance : InfoI Tryd.prog 88 1 (.nilFunc) := ⟨by kernel_rfl⟩
instance : BytI Tryd.prog 88 8 := ⟨by kernel_rfl⟩
instance : AgI Tryd.prog 90 false := ⟨by kernel_rfl⟩
instance : InfoI Tryd.prog 90 1 (.nilFunc) := ⟨by kernel_rfl⟩
instance : BytI Tryd.prog 90 8 := ⟨by kernel_rfl⟩
instance : AgI Tryd.prog 91 false := ⟨by kernel_rfl⟩
instance : UnI Tryd.prog 91 (.pointer 67) := ⟨by kernel_rfl⟩
instance : InfoI Tryd.prog 91 1 (.pointer none) := ⟨by kernel_rfl⟩
instance : BytI Tryd.prog 91 8 := ⟨by kernel_rfl⟩
instance : AgI Tryd.prog 93 false := ⟨by kernel_rfl⟩
instance : InfoI Tryd.prog 93 1 (.nilFunc) := ⟨by kernel_rfl⟩
instance : BytI Tryd.prog 93 8 := ⟨by kernel_rfl⟩
instance : AgI Tryd.prog 94 false := ⟨by kernel_rfl⟩
instance : InfoI Tryd.prog 94 1 (.nilFunc) := ⟨by kernel_rfl⟩
instance : BytI Tryd.prog 94 8 := ⟨by kernel_rfl⟩
instance : AgI Tryd.prog 95 false := ⟨by kernel_rfl⟩
instance : InfoI Tryd.prog 95 1 (.nilFunc) := ⟨by kernel_rfl⟩
instance : BytI Tryd.prog 95 8 := ⟨by kernel_rfl⟩
instance : AgI Tryd.prog 96 false := ⟨by kernel_rfl⟩
instance : InfoI Tryd.prog 96 1 (.nilFunc) := ⟨by kernel_rfl⟩
instance : BytI Tryd.prog 96 8 := ⟨by kernel_rfl⟩
instance : AgI Tryd.prog 97 false := ⟨by kernel_rfl⟩
instance : UnI Tryd.prog 97 (.pointer 5) := ⟨by kernel_rfl⟩
instance : InfoI Tryd.prog 97 1 (.pointer none) := ⟨by kernel_rfl⟩
instance : BytI Tryd.prog 97 8 := ⟨by kernel_rfl⟩
instance : AgI Tryd.prog 98 false := ⟨by kernel_rfl⟩
instance : InfoI Tryd.prog 98 1 (.nilFunc) := ⟨by kernel_rfl⟩
instance : BytI Tryd.prog 98 8 := ⟨by kernel_rfl⟩
instance : AgI Tryd.prog 99 false := ⟨by kernel_rfl⟩
instance : InfoI Tryd.prog 99 1 (.nilFunc) := ⟨by kernel_rfl⟩
instance : BytI Tryd.prog 99 8 := ⟨by kernel_rfl⟩
instance : AgI Tryd.prog 101 false := ⟨by kernel_rfl⟩
instance : InfoI Tryd.prog 101 1 (.nilFunc) := ⟨by kernel_rfl⟩
instance : BytI Tryd.prog 101 8 := ⟨by kernel_rfl⟩
instance : AgI Tryd.prog 102 false := ⟨by kernel_rfl⟩
instance : InfoI Tryd.prog 102 1 (.nilFunc) := ⟨by kernel_rfl⟩
instance : BytI Tryd.prog 102 8 := ⟨by kernel_rfl⟩
instance : AgI Tryd.prog 103 false := ⟨by kernel_rfl⟩
instance : UnI Tryd.prog 103 (.unsafePointer) := ⟨by kernel_rfl⟩
instance : InfoI Tryd.prog 103 1 (.pointer none) := ⟨by kernel_rfl⟩
instance : BytI Tryd.prog 103 8 := ⟨by kernel_rfl⟩
instance : AgI Tryd.prog 104 false := ⟨by kernel_rfl⟩
instance : InfoI Tryd.prog 104 1 (.nilFunc) := ⟨by kernel_rfl⟩
instance : BytI Tryd.prog 104 8 := ⟨by kernel_rfl⟩
instance : AgI Tryd.prog 105 false := ⟨by kernel_rfl⟩
instance : InfoI Tryd.prog 105 1 (.nilFunc) := ⟨by kernel_rfl⟩
instance : BytI Tryd.prog 105 8 := ⟨by kernel_rfl⟩
instance : AgI Tryd.prog 106 false := ⟨by kernel_rfl⟩
instance : InfoI Tryd.prog 106 1 (.nilFunc) := ⟨by kernel_rfl⟩
instance : BytI Tryd.prog 106 8 := ⟨by kernel_rfl⟩
instance : AgI Tryd.prog 107 true := ⟨by kernel_rfl⟩
instance : UnI Tryd.prog 107 (.array 24 5) := ⟨by kernel_rfl⟩
instance : InfoI Tryd.prog 107 24 (.agg #[.int .u8 0, .int .u8 0, .int .u8 0, .int .u8 0, .int .u8 0, .int .u8 0, .int .u8 0, .int .u8 0, .int .u8 0, .int .u8 0, .int .u8 0, .int .u8 0, .int .u8 0, .int .u8 0, .int .u8 0, .int .u8 0, .int .u8 0, .int .u8 0, .int .u8 0, .int .u8 0, .int .u8 0, .int .u8 0, .int .u8 0, .int .u8 0]) := ⟨by kernel_rfl⟩
instance : BytI Tryd.prog 107 24 := ⟨by kernel_rfl⟩
instance : EqI Tryd.prog 107 24 .u8 := .mk' (by kernel_rfl)
instance : AgI Tryd.prog 108 false := ⟨by kernel_rfl⟩
instance : InfoI Tryd.prog 108 1 (.nilFunc) := ⟨by kernel_rfl⟩
instance : BytI Tryd.prog 108 8 := ⟨by kernel_rfl⟩
instance : AgI Tryd.prog 109 false := ⟨by kernel_rfl⟩
instance : InfoI Tryd.prog 109 1 (.nilFunc) := ⟨by kernel_rfl⟩
instance : BytI Tryd.prog 109 8 := ⟨by kernel_rfl⟩
instance : AgI Tryd.prog 111 false := ⟨by kernel_rfl⟩
instance : InfoI Tryd.prog 111 1 (.nilFunc) := ⟨by kernel_rfl⟩
instance : BytI Tryd.prog 111 8 := ⟨by kernel_rfl⟩
instance : AgI Tryd.prog 112 true := ⟨by kernel_rfl⟩
instance : UnI Tryd.prog 112 (.array 256 5) := ⟨by kernel_rfl⟩
instance : InfoI Tryd.prog 112 256 (.agg #[.int .u8 0, .int .u8 0, .int .u8 0, .int .u8 0, .int .u8 0, .int .u8 0, .int .u8 0, .int .u8 0, .int .u8 0, .int .u8 0, .int .u8 0, .int .u8 0, .int .u8 0, .int .u8 0, .int .u8 0, .int .u8 0, .int .u8 0, .int .u8 0, .int .u8 0, .int .u8 0, .int .u8 0, .int .u8 0, .int .u8 0, .int .u8 0, .int .u8 0, .int .u8 0, .int .u8 0, .int .u8 0, .int .u8 0, .int .u8 0, .int .u8 0, .int .u8 0, .int .u8 0, .int .u8 0, .int .u8 0, .int .u8 0, .int .u8 0, .int .u8 0, .int .u8 0, .int .u8 0, .int .u8 0, .int .u8 0, .int .u8 0, .int .u8 0, .int .u8 0, .int .u8 0, .int .u8 0, .int .u8 0, .int .u8 0, .int .u8 0, .int .u8 0, .int .u8 0, .int .u8 0, .int .u8 0, .int .u8 0, .int .u8 0, .int .u8 0, .int .u8 0, .int .u8 0, .int .u8 0, .int .u8 0, .int .u8 0, .int .u8 0, .int .u8 0, .int .u8 0, .int .u8 0, .int .u8 0, .int .u8 0, .int .u8 0, .int .u8 0, .int .u8 0, .int .u8 0, .int .u8 0, .int .u8 0, .int .u8 0, .int .u8 0, .int .u8 0, .int .u8 0, .int .u8 0, .int .u8 0, .int .u8 0, .int .u8 0, .int .u8 0, .int .u8 0, .int .u8 0, .int .u8 0, .int .u8 0, .int .u8 0, .int .u8 0, .int .u8 0, .int .u8 0, .int .u8 0, .int .u8 0, .int .u8 0, .int .u8 0, .int .u8 0, .int .u8 0, .int .u8 0, .int .u8 0, .int .u8 0, .int .u8 0, .int .u8 0, .int .u8 0, .int .u8 0, .int .u8 0, .int .u8 0, .int .u8 0, .int .u8 0, .int .u8 0, .int .u8 0, .int .u8 0, .int .u8 0, .int .u8 0, .int .u8 0, .int .u8 0, .int .u8 0, .int .u8 0, .int .u8 0, .int .u8 0, .int .u8 0, .int .u8 0, .int .u8 0, .int .u8 0, .int .u8 0, .int .u8 0, .int .u8 0, .int .u8 0, .int .u8 0, .int .u8 0, .int .u8 0, .int .u8 0, .int .u8 0, .int .u8 0, .int .u8 0, .int .u8 0, .int .u8 0, .int .u8 0, .int .u8 0, .int .u8 0, .int .u8 0, .int .u8 0, .int .u8 0, .int .u8 0, .int .u8 0, .int .u8 0, .int .u8 0, .int .u8 0, .int .u8 0, .int .u8 0, .int .u8 0, .int .u8 0, .int .u8 0, .int .u8 0, .int .u8 0, .int .u8 0, .int .u8 0, .int .u8 0, .int .u8 0, .int .u8 0, .int .u8 0, .int .u8 0, .int .u8 0, .int .u8 0, .int .u8 0, .int .u8 0, .int .u8 0, .int .u8 0, .int .u8 0, .int .u8 0, .int .u8 0, .int .u8 0, .int .u8 0, .int .u8 0, .int .u8 0, .int .u8 0, .int .u8 0, .int .u8 0, .int .u8 0, .int .u8 0, .int .u8 0, .int .u8 0, .int .u8 0, .int .u8 0, .int .u8 0, .int .u8 0, .int .u8 0, .int .u8 0, .int .u8 0, .int .u8 0, .int .u8 0, .int .u8 0, .int .u8 0, .int .u8 0, .int .u8 0, .int .u8 0, .int .u8 0, .int .u8 0, .int .u8 0, .int .u8 0, .int .u8 0, .int .u8 0, .int .u8 0, .int .u8 0, .int .u8 0, .int .u8 0, .int .u8 0, .int .u8 0, .int .u8 0, .int .u8 0, .int .u8 0, .int .u8 0, .int .u8 0, .int .u8 0, .int .u8 0, .int .u8 0, .int .u8 0, .int .u8 0, .int .u8 0, .int .u8 0, .int .u8 0, .int .u8 0, .int .u8 0, .int .u8 0, .int .u8 0, .int .u8 0, .int .u8 0, .int .u8 0, .int .u8 0, .int .u8 0, .int .u8 0, .int .u8 0, .int .u8 0, .int .u8 0, .int .u8 0, .int .u8 0, .int .u8 0, .int .u8 0, .int .u8 0, .int .u8 0, .int .u8 0, .int .u8 0, .int .u8 0, .int .u8 0, .int .u8 0, .int .u8 0, .int .u8 0, .int .u8 0, .int .u8 0, .int .u8 0, .int .u8 0, .int .u8 0, .int .u8 0, .int .u8 0, .int .u8 0, .int .u8 0, .int .u8 0]) := ⟨by kernel_rfl⟩
instance : BytI Tryd.prog 112 256 := ⟨by kernel_rfl⟩
instance : EqI Tryd.prog 112 256 .u8 := .mk' (by kernel_rfl)
instance : AgI Tryd.prog 113 true := ⟨by kernel_rfl⟩
instance : InfoI Tryd.prog 113 2 (.agg #[.int .u8 0, .int .u8 0]) := ⟨by kernel_rfl⟩
instance : BytI Tryd.prog 113 2 := ⟨by kernel_rfl⟩
instance : StrI Tryd.prog 113 [(0, 1), (1, 1)] := ⟨by kernel_rfl⟩
instance : FldI Tryd.prog 113 0 0 5 := .mk' (by kernel_rfl)
instance : FldI Tryd.prog 113 1 1 5 := .mk' (by kernel_rfl)
instance : AgI Tryd.prog 114 true := ⟨by kernel_rfl⟩
instance : InfoI Tryd.prog 114 2 (.agg #[.int .u8 0, .int .u8 0]) := ⟨by kernel_rfl⟩
instance : BytI Tryd.prog 114 2 := ⟨by kernel_rfl⟩
instance : StrI Tryd.prog 114 [(0, 1), (1, 1)] := ⟨by kernel_rfl⟩
instance : FldI Tryd.prog 114 0 0 5 := .mk' (by kernel_rfl)
instance : FldI Tryd.prog 114 1 1 5 := .mk' (by kernel_rfl)
instance : AgI Tryd.prog 115 true := ⟨by kernel_rfl⟩
instance : UnI Tryd.prog 115 (.array 16 114) := ⟨by kernel_rfl⟩
instance : InfoI Tryd.prog 115 32 (.agg #[.int .u8 0, .int .u8 0, .int .u8 0, .int .u8 0, .int .u8 0, .int .u8 0, .int .u8 0, .int .u8 0, .int .u8 0, .int .u8 0, .int .u8 0, .int .u8 0, .int .u8 0, .int .u8 0, .int .u8 0, .int .u8 0, .int .u8 0, .int .u8 0, .int .u8 0, .int .u8 0, .int .u8 0, .int .u8 0, .int .u8 0, .int .u8 0, .int .u8 0, .int .u8 0, .int .u8 0, .int .u8 0, .int .u8 0, .int .u8 0, .int .u8 0, .int .u8 0]) := ⟨by kernel_rfl⟩
instance : BytI Tryd.prog 115 32 := ⟨by kernel_rfl⟩
instance : AgI Tryd.prog 116 false := ⟨by kernel_rfl⟩
instance : UnI Tryd.prog 116 (.int .u32) := ⟨by kernel_rfl⟩
instance : InfoI Tryd.prog 116 1 (.int .u32 0) := ⟨by kernel_rfl⟩
instance : BytI Tryd.prog 116 4 := ⟨by kernel_rfl⟩
instance : AgI Tryd.prog 118 false := ⟨by kernel_rfl⟩
instance : InfoI Tryd.prog 118 1 (.nilFunc) := ⟨by kernel_rfl⟩
instance : BytI Tryd.prog 118 8 := ⟨by kernel_rfl⟩
instance : AgI Tryd.prog 119 false := ⟨by kernel_rfl⟩
instance : InfoI Tryd.prog 119 1 (.nilFunc) := ⟨by kernel_rfl⟩
instance : BytI Tryd.prog 119 8 := ⟨by kernel_rfl⟩
instance : AgI Tryd.prog 120 true := ⟨by kernel_rfl⟩
instance : UnI Tryd.prog 120 (.array 20 44) := ⟨by kernel_rfl⟩
instance : InfoI Tryd.prog 120 20 (.agg #[.int .u64 0, .int .u64 0, .int .u64 0, .int .u64 0, .int .u64 0, .int .u64 0, .int .u64 0, .int .u64 0, .int .u64 0, .int .u64 0, .int .u64 0, .int .u64 0, .int .u64 0, .int .u64 0, .int .u64 0, .int .u64 0, .int .u64 0, .int .u64 0, .int .u64 0, .int .u64 0]) := ⟨by kernel_rfl⟩
instance : BytI Tryd.prog 120 160 := ⟨by kernel_rfl⟩
instance : EqI Tryd.prog 120 20 .u64 := .mk' (by kernel_rfl)
instance : AgI Tryd.prog 121 true := ⟨by kernel_rfl⟩
instance : UnI Tryd.prog 121 (.array 65 5) := ⟨by kernel_rfl⟩
instance : InfoI Tryd.prog 121 65 (.agg #[.int .u8 0, .int .u8 0, .int .u8 0, .int .u8 0, .int .u8 0, .int .u8 0, .int .u8 0, .int .u8 0, .int .u8 0, .int .u8 0, .int .u8 0, .int .u8 0, .int .u8 0, .int .u8 0, .int .u8 0, .int .u8 0, .int .u8 0, .int .u8 0, .int .u8 0, .int .u8 0, .int .u8 0, .int .u8 0, .int .u8 0, .int .u8 0, .int .u8 0, .int .u8 0, .int .u8 0, .int .u8 0, .int .u8 0, .int .u8 0, .int .u8 0, .int .u8 0, .int .u8 0, .int .u8 0, .int .u8 0, .int .u8 0, .int .u8 0, .int .u8 0, .int .u8 0, .int .u8 0, .int .u8 0, .int .u8 0, .int .u8 0, .int .u8 0, .int .u8 0, .int .u8 0, .int .u8 0, .int .u8 0, .int .u8 0, .int .u8 0, .int .u8 0, .int .u8 0, .int .u8 0, .int .u8 0, .int .u8 0, .int .u8 0, .int .u8 0, .int .u8 0, .int .u8 0, .int .u8 0, .int .u8 0, .int .u8 0, .int .u8 0, .int .u8 0, .int .u8 0]) := ⟨by kernel_rfl⟩
instance : BytI Tryd.prog 121 65 := ⟨by kernel_rfl⟩
instance : EqI Tryd.prog 121 65 .u8 := .mk' (by kernel_rfl)
instance : AgI Tryd.prog 122 false := ⟨by kernel_rfl⟩
instance : InfoI Tryd.prog 122 1 (.nilFunc) := ⟨by kernel_rfl⟩
instance : BytI Tryd.prog 122 8 := ⟨by kernel_rfl⟩
instance : AgI Tryd.prog 123 false := ⟨by kernel_rfl⟩
instance : InfoI Tryd.prog 123 1 (.nilFunc) := ⟨by kernel_rfl⟩
instance : BytI Tryd.prog 123 8 := ⟨by kernel_rfl⟩
instance : AgI Tryd.prog 124 false := ⟨by kernel_rfl⟩
instance : InfoI Tryd.prog 124 1 (.nilFunc) := ⟨by kernel_rfl⟩
instance : BytI Tryd.prog 124 8 := ⟨by kernel_rfl⟩
instance : AgI Tryd.prog 125 true := ⟨by kernel_rfl⟩
instance : UnI Tryd.prog 125 (.array 32 5) := ⟨by kernel_rfl⟩
instance : InfoI Tryd.prog 125 32 (.agg #[.int .u8 0, .int .u8 0, .int .u8 0, .int .u8 0, .int .u8 0, .int .u8 0, .int .u8 0, .int .u8 0, .int .u8 0, .int .u8 0, .int .u8 0, .int .u8 0, .int .u8 0, .int .u8 0, .int .u8 0, .int .u8 0, .int .u8 0, .int .u8 0, .int .u8 0, .int .u8 0, .int .u8 0, .int .u8 0, .int .u8 0, .int .u8 0, .int .u8 0, .int .u8 0, .int .u8 0, .int .u8 0, .int .u8 0, .int .u8 0, .int .u8 0, .int .u8 0]) := ⟨by kernel_rfl⟩
instance : BytI Tryd.prog 125 32 := ⟨by kernel_rfl⟩
instance : EqI Tryd.prog 125 32 .u8 := .mk' (by kernel_rfl)
instance : AgI Tryd.prog 126 true := ⟨by kernel_rfl⟩
instance : UnI Tryd.prog 126 (.array 64 5) := ⟨by kernel_rfl⟩
instance : InfoI Tryd.prog 126 64 (.agg #[.int .u8 0, .int .u8 0, .int .u8 0, .int .u8 0, .int .u8 0, .int .u8 0, .int .u8 0, .int .u8 0, .int .u8 0, .int .u8 0, .int .u8 0, .int .u8 0, .int .u8 0, .int .u8 0, .int .u8 0, .int .u8 0, .int .u8 0, .int .u8 0, .int .u8 0, .int .u8 0, .int .u8 0, .int .u8 0, .int .u8 0, .int .u8 0, .int .u8 0, .int .u8 0, .int .u8 0, .int .u8 0, .int .u8 0, .int .u8 0, .int .u8 0, .int .u8 0, .int .u8 0, .int .u8 0, .int .u8 0, .int .u8 0, .int .u8 0, .int .u8 0, .int .u8 0, .int .u8 0, .int .u8 0, .int .u8 0, .int .u8 0, .int .u8 0, .int .u8 0, .int .u8 0, .int .u8 0, .int .u8 0, .int .u8 0, .int .u8 0, .int .u8 0, .int .u8 0, .int .u8 0, .int .u8 0, .int .u8 0, .int .u8 0, .int .u8 0, .int .u8 0, .int .u8 0, .int .u8 0, .int .u8 0, .int .u8 0, .int .u8 0, .int .u8 0]) := ⟨by kernel_rfl⟩
instance : BytI Tryd.prog 126 64 := ⟨by kernel_rfl⟩
instance : EqI Tryd.prog 126 64 .u8 := .mk' (by kernel_rfl)
instance : AgI Tryd.prog 127 true := ⟨by kernel_rfl⟩
instance : InfoI Tryd.prog 127 4 (.agg #[.pointer none, .pointer none, .pointer none, .string ⟨#[]⟩]) := ⟨by kernel_rfl⟩
instance : BytI Tryd.prog 127 40 := ⟨by kernel_rfl⟩
instance : StrI Tryd.prog 127 [(0, 1), (1, 1), (2, 1), (3, 1)] := ⟨by kernel_rfl⟩
instance : FldI Tryd.prog 127 0 0 17 := .mk' (by kernel_rfl)
instance : FldI Tryd.prog 127 1 1 17 := .mk' (by kernel_rfl)
instance : FldI Tryd.prog 127 2 2 17 := .mk' (by kernel_rfl)
instance : FldI Tryd.prog 127 3 3 9 := .mk' (by kernel_rfl)
instance : AgI Tryd.prog 128 true := ⟨by kernel_rfl⟩
instance : InfoI Tryd.prog 128 4 (.agg #[.pointer none, .pointer none, .pointer none, .string ⟨#[]⟩]) := ⟨by kernel_rfl⟩
instance : BytI Tryd.prog 128 40 := ⟨by kernel_rfl⟩
instance : StrI Tryd.prog 128 [(0, 1), (1, 1), (2, 1), (3, 1)] := ⟨by kernel_rfl⟩
instance : FldI Tryd.prog 128 0 0 17 := .mk' (by kernel_rfl)
instance : FldI Tryd.prog 128 1 1 17 := .mk' (by kernel_rfl)
instance : FldI Tryd.prog 128 2 2 17 := .mk' (by kernel_rfl)
instance : FldI Tryd.prog 128 3 3 9 := .mk' (by kernel_rfl)
instance : AgI Tryd.prog 129 true := ⟨by kernel_rfl⟩
instance : UnI Tryd.prog 129 (.array 0 16) := ⟨by kernel_rfl⟩
instance : InfoI Tryd.prog 129 0 (.agg #[]) := ⟨by kernel_rfl⟩
instance : BytI Tryd.prog 129 0 := ⟨by kernel_rfl⟩
instance : AgI Tryd.prog 130 true := ⟨by kernel_rfl⟩
instance : InfoI Tryd.prog 130 0 (.agg #[]) := ⟨by kernel_rfl⟩
instance : BytI Tryd.prog 130 0 := ⟨by kernel_rfl⟩
instance : StrI Tryd.prog 130 [(0, 0)] := ⟨by kernel_rfl⟩
instance : FldI Tryd.prog 130 0 0 129 := .mk' (by kernel_rfl)
instance : AgI Tryd.prog 131 true := ⟨by kernel_rfl⟩
instance : InfoI Tryd.prog 131 0 (.agg #[]) := ⟨by kernel_rfl⟩
instance : BytI Tryd.prog 131 0 := ⟨by kernel_rfl⟩
instance : StrI Tryd.prog 131 [(0, 0)] := ⟨by kernel_rfl⟩
instance : FldI Tryd.prog 131 0 0 129 := .mk' (by kernel_rfl)
instance : AgI Tryd.prog 132 false := ⟨by kernel_rfl⟩
instance : InfoI Tryd.prog 132 1 (.nilFunc) := ⟨by kernel_rfl⟩
instance : BytI Tryd.prog 132 8 := ⟨by kernel_rfl⟩
instance : AgI Tryd.prog 133 false := ⟨by kernel_rfl⟩
instance : UnI Tryd.prog 133 (.int .u8) := ⟨by kernel_rfl⟩
instance : InfoI Tryd.prog 133 1 (.int .u8 0) := ⟨by kernel_rfl⟩
instance : BytI Tryd.prog 133 1 := ⟨by kernel_rfl⟩
instance : AgI Tryd.prog 134 false := ⟨by kernel_rfl⟩
instance : UnI Tryd.prog 134 (.int .u8) := ⟨by kernel_rfl⟩
instance : InfoI Tryd.prog 134 1 (.int .u8 0) := ⟨by kernel_rfl⟩
instance : BytI Tryd.prog 134 1 := ⟨by kernel_rfl⟩
instance : AgI Tryd.prog 135 false := ⟨by kernel_rfl⟩
instance : InfoI Tryd.prog 135 1 (.nilFunc) := ⟨by kernel_rfl⟩
instance : BytI Tryd.prog 135 8 := ⟨by kernel_rfl⟩
instance : AgI Tryd.prog 136 false := ⟨by kernel_rfl⟩
instance : UnI Tryd.prog 136 (.int .i32) := ⟨by kernel_rfl⟩
instance : InfoI Tryd.prog 136 1 (.int .i32 0) := ⟨by kernel_rfl⟩
instance : BytI Tryd.prog 136 4 := ⟨by kernel_rfl⟩
instance : AgI Tryd.prog 137 false := ⟨by kernel_rfl⟩
instance : UnI Tryd.prog 137 (.int .i32) := ⟨by kernel_rfl⟩
instance : InfoI Tryd.prog 137 1 (.int .i32 0) := ⟨by kernel_rfl⟩
instance : BytI Tryd.prog 137 4 := ⟨by kernel_rfl⟩
instance : AgI Tryd.prog 138 true := ⟨by kernel_rfl⟩
instance : InfoI Tryd.prog 138 11 (.agg #[.int .u64 0, .int .u64 0, .int .u32 0, .int .u8 0, .int .u8 0, .int .u8 0, .int .u8 0, .nilFunc, .pointer none, .int .i32 0, .int .i32 0]) := ⟨by kernel_rfl⟩
instance : BytI Tryd.prog 138 48 := ⟨by kernel_rfl⟩
instance : StrI Tryd.prog 138 [(0, 1), (1, 1), (2, 1), (3, 1), (4, 1), (5, 1), (6, 1), (7, 1), (8, 1), (9, 1), (10, 1)] := ⟨by kernel_rfl⟩
instance : FldI Tryd.prog 138 0 0 12 := .mk' (by kernel_rfl)
instance : FldI Tryd.prog 138 1 1 12 := .mk' (by kernel_rfl)
instance : FldI Tryd.prog 138 2 2 116 := .mk' (by kernel_rfl)
instance : FldI Tryd.prog 138 3 3 133 := .mk' (by kernel_rfl)
instance : FldI Tryd.prog 138 4 4 5 := .mk' (by kernel_rfl)
instance : FldI Tryd.prog 138 5 5 5 := .mk' (by kernel_rfl)
instance : FldI Tryd.prog 138 6 6 134 := .mk' (by kernel_rfl)
instance : FldI Tryd.prog 138 7 7 135 := .mk' (by kernel_rfl)
instance : FldI Tryd.prog 138 8 8 97 := .mk' (by kernel_rfl)
instance : FldI Tryd.prog 138 9 9 136 := .mk' (by kernel_rfl)
instance : FldI Tryd.prog 138 10 10 137 := .mk' (by kernel_rfl)
instance : AgI Tryd.prog 139 true := ⟨by kernel_rfl⟩
instance : InfoI Tryd.prog 139 11 (.agg #[.int .u64 0, .int .u64 0, .int .u32 0, .int .u8 0, .int .u8 0, .int .u8 0, .int .u8 0, .nilFunc, .pointer none, .int .i32 0, .int .i32 0]) := ⟨by kernel_rfl⟩
instance : BytI Tryd.prog 139 48 := ⟨by kernel_rfl⟩
instance : StrI Tryd.prog 139 [(0, 1), (1, 1), (2, 1), (3, 1), (4, 1), (5, 1), (6, 1), (7, 1), (8, 1), (9, 1), (10, 1)] := ⟨by kernel_rfl⟩
instance : FldI Tryd.prog 139 0 0 12 := .mk' (by kernel_rfl)
instance : FldI Tryd.prog 139 1 1 12 := .mk' (by kernel_rfl)
instance : FldI Tryd.prog 139 2 2 116 := .mk' (by kernel_rfl)
instance : FldI Tryd.prog 139 3 3 133 := .mk' (by kernel_rfl)
instance : FldI Tryd.prog 139 4 4 5 := .mk' (by kernel_rfl)
instance : FldI Tryd.prog 139 5 5 5 := .mk' (by kernel_rfl)
instance : FldI Tryd.prog 139 6 6 134 := .mk' (by kernel_rfl)
instance : FldI Tryd.prog 139 7 7 135 := .mk' (by kernel_rfl)
instance : FldI Tryd.prog 139 8 8 97 := .mk' (by kernel_rfl)
instance : FldI Tryd.prog 139 9 9 136 := .mk' (by kernel_rfl)
instance : FldI Tryd.prog 139 10 10 137 := .mk' (by kernel_rfl)
instance : FnI Tryd.prog 2 := .mk' Tryd.func2 (by kernel_rfl) (by kernel_rfl)
instance : FnI Tryd.prog 3 := .mk' Tryd.func3 (by kernel_rfl) (by kernel_rfl)
instance : FnI Tryd.prog 4 := .mk' Tryd.func4 (by kernel_rfl) (by kernel_rfl)
instance : FnI Tryd.prog 5 := .mk' Tryd.func5 (by kernel_rfl) (by kernel_rfl)
instance : FnI Tryd.prog 6 := .mk' Tryd.func6 (by kernel_rfl) (by kernel_rfl)
instance : FnI Tryd.prog 7 := .mk' Tryd.func7 (by kernel_rfl) (by kernel_rfl)
instance : FnI Tryd.prog 8 := .mk' Tryd.func8 (by kernel_rfl) (by kernel_rfl)
instance : FnI Tryd.prog 9 := .mk' Tryd.func9 (by kernel_rfl) (by kernel_rfl)
instance : FnI Tryd.prog 10 := .mk' Tryd.func10 (by kernel_rfl) (by kernel_rfl)
instance : FnI Tryd.prog 11 := .mk' Tryd.func11 (by kernel_rfl) (by kernel_rfl)
instance : FnI Tryd.prog 12 := .mk' Tryd.func12 (by kernel_rfl) (by kernel_rfl)
instance : FnI Tryd.prog 13 := .mk' Tryd.func13 (by kernel_rfl) (by kernel_rfl)
instance : FnI Tryd.prog 14 := .mk' Tryd.func14 (by kernel_rfl) (by kernel_rfl)
instance : FnI Tryd.prog 15 := .mk' Tryd.func15 (by kernel_rfl) (by kernel_rfl)
instance : FnI Tryd.prog 16 := .mk' Tryd.func16 (by kernel_rfl) (by kernel_rfl)
instance : FnI Tryd.prog 17 := .mk' Tryd.func17 (by kernel_rfl) (by kernel_rfl)
instance : FnI Tryd.prog 18 := .mk' Tryd.func18 (by kernel_rfl) (by kernel_rfl)
instance : FnI Tryd.prog 19 := .mk' Tryd.func19 (by kernel_rfl) (by kernel_rfl)
instance : FnI Tryd.prog 20 := .mk' Tryd.func20 (by kernel_rfl) (by kernel_rfl)
instance : FnI Tryd.prog 21 := .mk' Tryd.func21 (by kernel_rfl) (by kernel_rfl)
instance : FnI Tryd.prog 22 := .mk' Tryd.func22 (by kernel_rfl) (by kernel_rfl)
instance : FnI Tryd.prog 23 := .mk' Tryd.func23 (by kernel_rfl) (by kernel_rfl)
instance : FnI Tryd.prog 24 := .mk' Tryd.func24 (by kernel_rfl) (by kernel_rfl)
instance : FnI Tryd.prog 25 := .mk' Tryd.func25 (by kernel_rfl) (by kernel_rfl)
instance : FnI Tryd.prog 26 := .mk' Tryd.func26 (by kernel_rfl) (by kernel_rfl)
instance : FnI Tryd.prog 27 := .mk' Tryd.func27 (by kernel_rfl) (by kernel_rfl)
instance : FnI Tryd.prog 28 := .mk' Tryd.func28 (by kernel_rfl) (by kernel_rfl)
instance : FnI Tryd.prog 29 := .mk' Tryd.func29 (by kernel_rfl) (by kernel_rfl)
instance : FnI Tryd.prog 30 := .mk' Tryd.func30 (by kernel_rfl) (by kernel_rfl)
instance : FnI Tryd.prog 31 := .mk' Tryd.func31 (by kernel_rfl) (by kernel_rfl)
instance : FnI Tryd.prog 32 := .mk' Tryd.func32 (by kernel_rfl) (by kernel_rfl)
instance : FnI Tryd.prog 33 := .mk' Tryd.func33 (by kernel_rfl) (by kernel_rfl)
instance : FnI Tryd.prog 34 := .mk' Tryd.func34 (by kernel_rfl) (by kernel_rfl)
instance : FnI Tryd.prog 35 := .mk' Tryd.func35 (by kernel_rfl) (by kernel_rfl)
instance : FnI Tryd.prog 36 := .mk' Tryd.func36 (by kernel_rfl) (by kernel_rfl)
instance : FnI Tryd.prog 37 := .mk' Tryd.func37 (by kernel_rfl) (by kernel_rfl)
instance : FnI Tryd.prog 38 := .mk' Tryd.func38 (by kernel_rfl) (by kernel_rfl)
instance : FnI Tryd.prog 39 := .mk' Tryd.func39 (by kernel_rfl) (by kernel_rfl)
instance : FnI Tryd.prog 40 := .mk' Tryd.func40 (by kernel_rfl) (by kernel_rfl)
instance : FnI Tryd.prog 41 := .mk' Tryd.func41 (by kernel_rfl) (by kernel_rfl)
instance : FnI Tryd.prog 42 := .mk' Tryd.func42 (by kernel_rfl) (by kernel_rfl)
instance : FnI Tryd.prog 43 := .mk' Tryd.func43 (by kernel_rfl) (by kernel_rfl)
instance : FnI Tryd.prog 44 := .mk' Tryd.func44 (by kernel_rfl) (by kernel_rfl)
instance : FnI Tryd.prog 45 := .mk' Tryd.func45 (by kernel_rfl) (by kernel_rfl)
instance : FnI Tryd.prog 46 := .mk' Tryd.func46 (by kernel_rfl) (by kernel_rfl)
instance : FnI Tryd.prog 47 := .mk' Tryd.func47 (by kernel_rfl) (by kernel_rfl)
instance : FnI Tryd.prog 48 := .mk' Tryd.func48 (by kernel_rfl) (by kernel_rfl)
instance : FnI Tryd.prog 49 := .mk' Tryd.func49 (by kernel_rfl) (by kernel_rfl)
instance : FnI Tryd.prog 50 := .mk' Tryd.func50 (by kernel_rfl) (by kernel_rfl)
instance : FnI Tryd.prog 51 := .mk' Tryd.func51 (by kernel_rfl) (by kernel_rfl)
instance : FnI Tryd.prog 52 := .mk' Tryd.func52 (by kernel_rfl) (by kernel_rfl)
instance : FnI Tryd.prog 53 := .mk' Tryd.func53 (by kernel_rfl) (by kernel_rfl)
instance : FnI Tryd.prog 54 := .mk' Tryd.func54 (by kernel_rfl) (by kernel_rfl)
instance : FnI Tryd.prog 55 := .mk' Tryd.func55 (by kernel_rfl) (by kernel_rfl)
instance : FnI Tryd.prog 56 := .mk' Tryd.func56 (by kernel_rfl) (by kernel_rfl)
instance : FnI Tryd.prog 57 := .mk' Tryd.func57 (by kernel_rfl) (by kernel_rfl)
instance : FnI Tryd.prog 58 := .mk' Tryd.func58 (by kernel_rfl) (by kernel_rfl)
instance : FnI Tryd.prog 59 := .mk' Tryd.func59 (by kernel_rfl) (by kernel_rfl)
instance : FnI Tryd.prog 60 := .mk' Tryd.func60 (by kernel_rfl) (by kernel_rfl)
instance : FnI Tryd.prog 61 := .mk' Tryd.func61 (by kernel_rfl) (by kernel_rfl)
instance : FnI Tryd.prog 62 := .mk' Tryd.func62 (by kernel_rfl) (by kernel_rfl)
instance : FnI Tryd.prog 63 := .mk' Tryd.func63 (by kernel_rfl) (by kernel_rfl)
instance : FnI Tryd.prog 64 := .mk' Tryd.func64 (by kernel_rfl) (by kernel_rfl)
instance : FnI Tryd.prog 65 := .mk' Tryd.func65 (by kernel_rfl) (by kernel_rfl)
instance : FnI Tryd.prog 67 := .mk' Tryd.func67 (by kernel_rfl) (by kernel_rfl)
instance : FnI Tryd.prog 68 := .mk' Tryd.func68 (by kernel_rfl) (by kernel_rfl)
instance : FnI Tryd.prog 71 := .mk' Tryd.func71 (by kernel_rfl) (by kernel_rfl)
instance : FnI Tryd.prog 72 := .mk' Tryd.func72 (by kernel_rfl) (by kernel_rfl)
instance : FnI Tryd.prog 74 := .mk' Tryd.func74 (by kernel_rfl) (by kernel_rfl)
instance : FnI Tryd.prog 75 := .mk' Tryd.func75 (by kernel_rfl) (by kernel_rfl)
instance : FnI Tryd.prog 76 := .mk' Tryd.func76 (by kernel_rfl) (by kernel_rfl)
instance : FnI Tryd.prog 77 := .mk' Tryd.func77 (by kernel_rfl) (by kernel_rfl)
instance : FnI Tryd.prog 78 := .mk' Tryd.func78 (by kernel_rfl) (by kernel_rfl)
instance : FnI Tryd.prog 79 := .mk' Tryd.func79 (by kernel_rfl) (by kernel_rfl)
instance : FnI Tryd.prog 81 := .mk' Tryd.func81 (by kernel_rfl) (by kernel_rfl)
instance : FnI Tryd.prog 82 := .mk' Tryd.func82 (by kernel_rfl) (by kernel_rfl)
instance : FnI Tryd.prog 83 := .mk' Tryd.func83 (by kernel_rfl) (by kernel_rfl)
instance : FnI Tryd.prog 84 := .mk' Tryd.func84 (by kernel_rfl) (by kernel_rfl)
instance : FnI Tryd.prog 85 := .mk' Tryd.func85 (by kernel_rfl) (by kernel_rfl)
instance : FnI Tryd.prog 86 := .mk' Tryd.func86 (by kernel_rfl) (by kernel_rfl)
instance : FnI Tryd.prog 87 := .mk' Tryd.func87 (by kernel_rfl) (by kernel_rfl)
instance : FnI Tryd.prog 88 := .mk' Tryd.func88 (by kernel_rfl) (by kernel_rfl)
instance : FnI Tryd.prog 113 := .mk' Tryd.func113 (by kernel_rfl) (by kernel_rfl)
theorem mixed : Tryd.prog.follows .mixedOrders = true := by kernel_rfl
end Go.Proofs.YtbhicncgjplnoaaDoor
