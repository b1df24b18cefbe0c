/-
  A SMALL LOGIC OVER THE KIT's WALK, PART M: rows that are read; rows that a call hands back.
  Conditions: none; over any program.
-/
import Derived.Test.YtahoghldnijnbaaSlk
namespace Go.Proofs.Ytahoghldnijnbaa.SL
set_option linter.unusedVariables false
set_option linter.unusedSimpArgs false
open Go Go.RowKit

/-- A slice's block lies in memory, if there is room in it. -/
def Lies (w : World) (v : Value) : Prop := ∀ p n c, v = .slice p n c → p = none ∨ c = 0 ∨ ∃ b off o, p = some ⟨b, off, none⟩ ∧ w.heap[b]? = some o
theorem Lies.own {w : World} {b off n c : Nat} {o : Obj} (h : w.heap[b]? = some o) : Lies w (.slice (some ⟨b, off, none⟩) n c) := fun _ _ _ h' => by cases h'; exact .inr (.inr ⟨_, _, _, rfl, h⟩)
/-- A row that may be read: n elements, each of so many cells; xs: all of their cells. -/
structure RowAt (w : World) (sz : Nat) (v : Value) (n : Nat) (xs : List Value) : Prop where
  form : ∃ p c, v = .slice p n c ∧ n ≤ c ∧ c ≤ maxLen
  len : xs.length = n * sz
  pos : 0 < n → ∃ b off c cs E fr, v = .slice (some ⟨b, off, none⟩) n c ∧ w.heap[b]? = some (.cells cs E fr) ∧ (cs.toList.drop off).take (n * sz) = xs
  lies : Lies w v

theorem RowAt.nil {w : World} {sz : Nat} : RowAt w sz (.slice none 0 0) 0 [] := ⟨⟨_, _, rfl, Nat.le_refl _, by simp [maxLen]⟩, by simp, (fun h => nomatch h), (fun _ _ _ h => by cases h; exact .inl rfl)⟩

/-- A row of facts, read. -/
theorem IsRow.at {E : TypeId} {sz n : Nat} {v : Value} {xs : List Value} {seg pre post : Fs} {w0 w : World} {S : List Nat} (h : IsRow E sz v n xs seg) (hs : St w0 S (pre ++ (seg ++ post)) w) : RowAt w sz v n xs := by
  cases h with
  | nil => exact .nil
  | @own g _ cap cur _ hn hm hc ht hl =>
    have hg := (hs.own (g, .cells cur E (0, 0)) (List.mem_append_right _ (by simp))).2
    exact ⟨⟨_, _, rfl, hn, hm⟩, hl, fun _ => ⟨g, 0, cap, cur, E, _, rfl, hg, by simpa using ht⟩, .own hg⟩

theorem cut_get {cs : Array Value} {off m j : Nat} {xs : List Value} {v : Value} (h : (cs.toList.drop off).take m = xs) (hv : xs[j]? = some v) : cs[off + j]? = some v := by
  subst h
  rw [List.getElem?_take, List.getElem?_drop] at hv
  split at hv
  · simpa using hv
  · cases hv

/-- The place of an element in a row of parts. -/
theorem flat_get {α : Type} {g : α → List Value} {sz : Nat} : ∀ {l : List α} (_ : ∀ a ∈ l, (g a).length = sz) {i j : Nat} {a : α} {v : Value}, l[i]? = some a → (g a)[j]? = some v → (l.flatMap g)[i * sz + j]? = some v
  | [], _, i, j, a, v, hi, _ => by simp at hi
  | x :: l, hl, 0, j, a, v, hi, hj => by
    simp only [List.getElem?_cons_zero, Option.some.injEq] at hi
    subst hi
    have hlt := (List.getElem?_eq_some_iff.1 hj).1
    rw [List.flatMap_cons, List.getElem?_append_left (by omega)]
    simpa using hj
  | x :: l, hl, i + 1, j, a, v, hi, hj => by
    have hx := hl x List.mem_cons_self
    rw [List.flatMap_cons, List.getElem?_append_right (by rw [hx, Nat.succ_mul]; omega), hx, show (i + 1) * sz + j - sz = i * sz + j by rw [Nat.succ_mul]; omega]
    exact flat_get (fun a ha => hl a (List.mem_cons_of_mem _ ha)) (by simpa using hi) hj
theorem flat_len {α : Type} {g : α → List Value} {sz : Nat} : ∀ {l : List α} (_ : ∀ a ∈ l, (g a).length = sz), (l.flatMap g).length = l.length * sz
  | [], _ => by simp
  | x :: l, hl => by rw [List.flatMap_cons, List.length_append, hl x List.mem_cons_self, flat_len fun a ha => hl a (List.mem_cons_of_mem _ ha), List.length_cons, Nat.succ_mul]; omega

section rd
variable {P : Program} {T : TypeId} {cs : Array Value} {E : TypeId} {fr : Nat × Nat} {off m sz i : Nat} {α : Type} {g : α → List Value} {l : List α} {a : α}
/-- An element of one cell. -/
theorem Rd.elem1 [AgI P T false] {v : Value} (h : (cs.toList.drop off).take m = l.flatMap g) (hl : ∀ a ∈ l, (g a).length = 1) (hi : l[i]? = some a) (hv : g a = [v]) : Rd P T (.cells cs E fr) (off + i * 1) v :=
  Rd.one (cut_get h (by have := flat_get hl hi (j := 0) (v := v) (by simp [hv]); simpa using this))
/-- An element of parts. -/
theorem Rd.elemA {n : Nat} {z : Value} [AgI P T true] [InfoI P T n z] (h : (cs.toList.drop off).take m = l.flatMap g) (hl : ∀ a ∈ l, (g a).length = n) (hi : l[i]? = some a) : Rd P T (.cells cs E fr) (off + i * n) (.agg (g a).toArray) :=
  Rd.part (hl a (List.mem_of_getElem? hi)) fun j v hv => by rw [Nat.add_assoc]; exact cut_get h (flat_get hl hi hv)
end rd

/-- A row that came in: its elements' shapes. -/
theorem cells?_get {w : World} {b : Nat} {a : Addr} {n : Nat} {cs' : List Value} (h : w.cells? b a n = some cs') : cs'.length = n ∧ ∀ j, j < n → w.cell? (a.add j) = cs'[j]? := by
  unfold World.cells? at h
  split at h
  · exact ⟨by simpa using mapM_some_length h, fun j hj => mapM_some_get h j j (by simp [hj])⟩
  · cases h
theorem cell?_inv {w : World} {a : Addr} {v : Value} (h : w.cell? a = some v) : ∃ b off cs E fr, a = ⟨b, off, none⟩ ∧ w.heap[b]? = some (.cells cs E fr) ∧ cs[off]? = some v := by
  obtain ⟨b, off, spot⟩ := a
  unfold World.cell? at h
  split at h
  · rename_i c E fr hb
    split at h
    · cases h
    · rename_i hs
      cases spot with
      | some _ => simp at hs
      | none => exact ⟨b, off, c, E, fr, rfl, hb, h⟩
  · cases h
theorem add_ne {a : Addr} {n : Nat} (h : a.spot = none) : a.add n = ⟨a.block, a.off + n, none⟩ := by
  obtain ⟨b, o, s⟩ := a
  cases h
  exact addr_add b o n
theorem sl_rows {α : Type} {g : α → List Value} {Q : α → Prop} {e : Ty} {w : World} {cs : List Value} {sz : Nat} (hc : e.cells = sz) (h0 : 0 < sz) (he : ∀ cs', e.is w cs' → ∃ x, Q x ∧ cs' = g x) (h : (Ty.sl e).is w cs) :
    ∃ (v : Value) (l : List α), cs = [v] ∧ (∀ x ∈ l, Q x ∧ (g x).length = sz) ∧ RowAt w sz v l.length (l.flatMap g) := by
  subst hc
  rcases h with rfl | ⟨a, n, c, rfl, hn, hm, hall⟩
  · exact ⟨_, [], rfl, (fun x hx => nomatch hx), .nil⟩
  · have key : ∀ k, k ≤ n → ∃ l : List α, l.length = k ∧ (∀ x ∈ l, Q x ∧ (g x).length = e.cells) ∧ ∀ i j v, i < k → j < e.cells → (l.flatMap g)[i * e.cells + j]? = some v → w.cell? ((a.add (i * e.cells)).add j) = some v := by
      intro k
      induction k with
      | zero => intro _; exact ⟨[], rfl, by simp, fun i j v hi => by omega⟩
      | succ k ih =>
        intro hk
        obtain ⟨l, hl, hq, hget⟩ := ih (by omega)
        obtain ⟨cs', h1, h2⟩ := hall k (by omega)
        obtain ⟨x, hx, rfl⟩ := he _ h2
        obtain ⟨h3, h4⟩ := cells?_get h1
        refine ⟨l ++ [x], by simp [hl], fun y hy => ?_, fun i j v hi hj hv => ?_⟩
        · rcases List.mem_append.1 hy with hy | hy
          · exact hq y hy
          · obtain rfl : y = x := by simpa using hy
            exact ⟨hx, h3⟩
        · have hfl : (l.flatMap g).length = k * e.cells := by rw [flat_len fun a ha => (hq a ha).2, hl]
          rw [List.flatMap_append] at hv
          by_cases hik : i < k
          · rw [List.getElem?_append_left (by rw [hfl]; calc i * e.cells + j < i * e.cells + e.cells := by omega
              _ = (i + 1) * e.cells := by rw [Nat.succ_mul]
              _ ≤ k * e.cells := Nat.mul_le_mul_right _ hik)] at hv
            exact hget i j v hik hj hv
          · obtain rfl : i = k := by omega
            rw [List.getElem?_append_right (by omega), hfl, show i * e.cells + j - i * e.cells = j by omega] at hv
            rw [h4 j hj]
            simpa using hv
    obtain ⟨l, hl, hq, hget⟩ := key n (Nat.le_refl _)
    have hfl : (l.flatMap g).length = n * e.cells := by rw [flat_len fun a ha => (hq a ha).2, hl]
    have hlies : Lies w (.slice (some a) n c) := fun p' n' c' he => by
      cases he
      rcases Nat.eq_zero_or_pos c with hc0 | hc0
      · exact .inr (.inl hc0)
      · obtain ⟨cs', h1, _⟩ := hall 0 hc0
        obtain ⟨h3, h4⟩ := cells?_get h1
        have h5 := h4 0 h0
        rw [List.getElem?_eq_getElem (by omega)] at h5
        obtain ⟨b, off, ocs, E, fr, ha, hb, _⟩ := cell?_inv h5
        have ha' : a = ⟨b, off, none⟩ := by simpa [Addr.add] using ha
        subst ha'
        exact .inr (.inr ⟨_, _, _, rfl, hb⟩)
    refine ⟨_, l, rfl, hq, ⟨⟨_, _, by rw [hl], by omega, hm⟩, by rw [hl, hfl], fun hpos => ?_, hlies⟩⟩
    rw [hl] at hpos ⊢
    have hlt : 0 < (l.flatMap g).length := by rw [hfl]; exact Nat.mul_pos hpos h0
    obtain ⟨b, off, ocs, E, fr, ha, hb, hcell⟩ := cell?_inv (hget 0 0 _ hpos h0 (by rw [Nat.zero_mul]; exact List.getElem?_eq_getElem hlt))
    have ha' : a = ⟨b, off, none⟩ := by simpa [Addr.add] using ha
    subst ha'
    refine ⟨b, off, c, ocs, E, fr, rfl, hb, ?_⟩
    apply List.ext_getElem?
    intro m
    rw [List.getElem?_take, List.getElem?_drop]
    split
    · rename_i hm'
      have h5 : m / e.cells < n := Nat.div_lt_of_lt_mul (by rw [Nat.mul_comm]; exact hm')
      have h6 : m % e.cells < e.cells := Nat.mod_lt _ h0
      have h7 : m / e.cells * e.cells + m % e.cells = m := by rw [Nat.mul_comm]; exact Nat.div_add_mod m _
      have h8 := hget (m / e.cells) (m % e.cells) _ h5 h6 (by rw [h7]; exact List.getElem?_eq_getElem (by omega))
      rw [addr_add, addr_add, Nat.add_assoc, h7, cell_of hb] at h8
      rw [List.getElem?_eq_getElem (l := l.flatMap g) (by omega)]
      simpa using h8
    · rw [List.getElem?_eq_none (by omega)]
end Go.Proofs.Ytahoghldnijnbaa.SL
