/-
  A SMALL LOGIC OVER THE KIT's WALK, PART Q: rows that came in, later; rows of none; elements of our rows written; integers converted.
  Conditions: none; over any program.
-/
import Derived.Test.YtahoghldnijnbaaSlp
import Derived.Deep.Upon
namespace Go.Proofs.Ytahoghldnijnbaa.SL
set_option linter.unusedVariables false
set_option linter.unusedSimpArgs false
open Go Go.RowKit
/-- A row that came in reads as it did, later. -/
theorem RowAt.bel {w0 w : World} {sz n : Nat} {v : Value} {xs : List Value} (h : RowAt w0 sz v n xs) (hb : Bel w0.heap.size [] w0 w) : RowAt w sz v n xs :=
  ⟨h.form, h.len, fun h0 => by
    obtain ⟨b, off, c, cs, E, fr, h1, h2, h3⟩ := h.pos h0
    exact ⟨b, off, c, cs, E, fr, h1, by rw [hb.block b (Array.getElem?_eq_some_iff.1 h2).1 (by simp)]; exact h2, h3⟩, fun p n c he => by
    rcases h.lies p n c he with h | h | ⟨b, off, o, h1, h2⟩
    · exact .inl h
    · exact .inr (.inl h)
    · exact .inr (.inr ⟨b, off, o, h1, by rw [hb.block b (Array.getElem?_eq_some_iff.1 h2).1 (by simp)]; exact h2⟩)⟩
theorem RowAt.st {w0 w : World} {sz n : Nat} {v : Value} {xs : List Value} {fs : Fs} (h : RowAt w0 sz v n xs) (hs : St w0 [] fs w) : RowAt w sz v n xs := h.bel hs.bel

theorem IsRow.pos {E : TypeId} {sz n c : Nat} {p : Option Addr} {xs : List Value} {seg : Fs} (h : IsRow E sz (.slice p n c) n xs seg) (h0 : 0 < n) : ∃ g cur, p = some ⟨g, 0, none⟩ ∧ seg = [(g, .cells cur E (0, 0))] ∧ n ≤ c ∧ c ≤ maxLen ∧ cur.size = c * sz ∧ cur.toList.take (n * sz) = xs := by
  cases h with
  | nil => cases h0
  | own hn hm hc ht hl => exact ⟨_, _, rfl, rfl, hn, hm, hc, ht⟩
theorem NewP.build0 {P : Program} {e : Env} {T E : TypeId} {size : Nat} {z : Value} (hU : UnI P T (.slice E)) (hI : InfoI P E size z) : NewP P e (.buildSlice T 0 #[]) (.sl 0 0) (.cells #[] E (0, 0)) := fun ρ w hρ d t pos af g => by
  have hr : (Instr.buildSlice T 0 ((#[] : Array (Nat × Operand)).map fun p => (p.1, ρ p.2))).run P w = .ok ((Sh.sl 0 0).val w.heap.size) (w.alloc (.cells #[] E (0, 0))) := by
    unfold Instr.buildSlice
    simp only [Sem.run_bind, run_un, run_size, Result.andThen_ok]
    simp [newRow, Sh.val, Instr.fill, Array.range_zero']
  simp only [execOp]
  exact (show ((do pure (.value (← Instr.buildSlice T 0 ((#[] : Array (Nat × Operand)).map fun p => (p.1, ρ p.2)))) : Sem Next)).run P w = _ by simp only [Sem.run_bind, hr]; rfl)
section mm
variable {P : Program} {e : Env} {x y : Operand} {tys : Array TypeId} {m n : Nat} {ik : IntKind}
theorem ValP.minZL (hx : e.ev x = some (.int ik (m : Int))) (hy : e.ev y = some (.int ik (OfNat.ofNat n))) (_ : n = n) : ValP P e [] (.call { callee := .builtin .min, args := #[x, y], argTypes := tys }) (.int ik ((min m (OfNat.ofNat n) : Nat) : Int)) := .minZ hx hy
theorem ValP.cutToL {T E : TypeId} {hi : Operand} {p : Option Addr} {c k sz : Nat} {z : Value} (hU : UnI P T (.slice E)) (hI : InfoI P E sz z) (hx : e.ev x = some (.slice p n c)) (hh : e.ev hi = some (.int ik (OfNat.ofNat k))) (_ : k = k) (hk : (OfNat.ofNat k : Nat) ≤ c) : ValP P e [] (.slice T x none (some hi) none) (.slice p (OfNat.ofNat k) c) := .cutTo hU hI hx hh hk
theorem ValP.cutFromL {T E : TypeId} {lo : Operand} {p : Option Addr} {c k sz : Nat} {z : Value} (hU : UnI P T (.slice E)) (hI : InfoI P E sz z) (hx : e.ev x = some (.slice p n c)) (hl : e.ev lo = some (.int ik (OfNat.ofNat k))) (_ : k = k) (hk : (OfNat.ofNat k : Nat) ≤ n) : ValP P e [] (.slice T x (some lo) none none) (cutAt p (OfNat.ofNat k) n c sz) := .cutFrom hU hI hx hl hk
end mm
section lw
variable {C : Cu} {ops : Array Oper} {Q : Post} {rest : List Oper} {e : Env} {fs : Fs} {d : Nat} {t : TypeId} {pos : String} {af : Array Edge}
/-- A slice of no elements, but not nil. -/
theorem LW.lay0 {T E sz : TypeId} {z : Value} (hd : Nat.blt d C.N = true) (hU : UnI C.P T (.slice E)) (hI : InfoI C.P E sz z) (k : ∀ v seg, IsRow E sz v 0 [] seg → LW C ops Q rest ((d, v) :: e) (seg ++ fs)) :
    LW C ops Q (⟨some d, .buildSlice T 0 #[], t, pos, af, none⟩ :: rest) e fs :=
  LW.n0 hd rfl (NewP.build0 hU hI) fun g => k _ [(g, _)] (.own (cur := #[]) (Nat.le_refl 0) (Nat.zero_le _) (by simp) (by simp) (by simp))
/-- **append(s, x...)** of nothing. -/
theorem ValP.append0 {P : Program} {s x : Operand} {tys : Array TypeId} {T E sz : TypeId} {z : Value} {p q : Option Addr} {n c c' : Nat} (hT : tys = #[T, T]) (hU : UnI P T (.slice E)) (hI : InfoI P E sz z) (hs : e.ev s = some (.slice p n c)) (hx : e.ev x = some (.slice q 0 c')) (hle : n ≤ c) :
    ValP P e [] (.call { callee := .builtin .append, args := #[s, x], argTypes := tys }) (.slice p n c) := fun ρ w hρ _ d t pos af g => by
  subst hT
  obtain ⟨i, h1, h2, _⟩ := info_of (P := P) (T := E)
  have hsrc : Src P i.size T (.slice q 0 c') 0 [] w := by
    cases q with
    | none => exact Src.ofNil w hU.un c'
    | some a => exact Src.ofSlice w hU.un a 0 c' [] (by simp) (fun j u h => by simp at h) (fun u h => by cases h)
  have hr := run_append_nothing (P := P) w T T t E i hU.un h1 p n c hle _ hsrc
  simp [execOp, resolve, invoke, builtin, hρ s _ hs, hρ x _ hx, hr]
/-- **append(s, x...)**: s a row of ours, x a row that may be read, of none too. -/
theorem LW.appendAny {s x : Operand} {tys : Array TypeId} {T E : TypeId} {size bytes : Nat} {z v vx : Value} {n m : Nat} {xs news : List Value} {seg pre post : Fs} (hd : Nat.blt d C.N = true) (hT : tys = #[T, T]) (hU : UnI C.P T (.slice E)) (hI : InfoI C.P E size z) (hB : BytI C.P E bytes)
    (hz : z.cells.size = size) (hs : e.ev s = some v) (hx : e.ev x = some vx) (hseg : AtSeg fs pre seg post) (hrow : IsRow E size v n xs seg) (hat : ∀ w, St C.w0 C.S fs w → RowAt w size vx m news)
    (h1 : ∀ u ∈ news, u.oneCell' = true) (h63 : n + m ≤ maxLen) (hb : (n + m) * bytes ≤ 140737488355328)
    (k : ∀ v' seg', IsRow E size v' (n + m) (xs ++ news) seg' → ∃ fs', AtSeg fs' pre seg' post ∧ LW C ops Q rest ((d, v') :: e) fs') :
    LW C ops Q (⟨some d, .call { callee := .builtin .append, args := #[s, x], argTypes := tys }, t, pos, af, none⟩ :: rest) e fs := by
  rcases Nat.eq_zero_or_pos m with hm | hm
  · subst hm
    intro a w hsat
    have hA := hat w hsat.st
    have hn : news = [] := List.length_eq_zero_iff.1 (by rw [hA.len, Nat.zero_mul])
    subst hn
    obtain ⟨q, c', rfl, _, _⟩ := hA.form
    have hp : ∃ p c, v = .slice p n c ∧ n ≤ c := by
      cases hrow with
      | nil => exact ⟨_, _, rfl, Nat.le_refl _⟩
      | own hn _ _ _ _ => exact ⟨_, _, rfl, hn⟩
    obtain ⟨p, c, rfl, hle⟩ := hp
    obtain ⟨fs', hat', hK⟩ := k _ seg (by simpa using hrow)
    have : fs' = fs := by rw [hat'.eq, hseg.eq]
    subst this
    exact LW.v0 hd rfl (ValP.append0 hT hU hI hs hx hle) hK a w hsat
  · exact LW.appendAt hd hT hU hI hB hz hs hx hseg hrow hat h1 hm h63 hb k
theorem ValP.convU {P : Program} {S T : TypeId} {x : Operand} {k : IntKind} {n : Int} {dd : TypeDesc} [UnI P S dd] [UnI P T (.int .u64)] (hx : e.ev x = some (.int k n)) : ValP P e [] (.convert S T x) (.int .u64 (((n % 18446744073709551616).toNat : Nat) : Int)) := by
  have h := ValP.conv (P := P) (S := S) (T := T) (ds := dd) (k' := .u64) hx
  rwa [wrapU, show n % 18446744073709551616 = (((n % 18446744073709551616).toNat : Nat) : Int) by omega] at h
end lw
/-- An element of a row of ours, written. -/
theorem wr_take {sz : Nat} {cur : Array Value} {m i : Nat} {vs : List Value} {xs : List Value} (ht : cur.toList.take (m * sz) = xs) (hvs : vs.length = sz) (hi : i < m) (hlen : m * sz ≤ cur.size) :
    (wrCells cur (i * sz) vs).toList.take (m * sz) = xs.take (i * sz) ++ vs ++ xs.drop ((i + 1) * sz) ∧ (wrCells cur (i * sz) vs).size = cur.size := by
  have hk : ∀ (vs : List Value) (c : Array Value) (off : Nat), off + vs.length ≤ c.size → (wrCells c off vs).toList = c.toList.take off ++ vs ++ c.toList.drop (off + vs.length) := by
    intro vs
    induction vs with
    | nil => intro c off h; simp [wrCells]
    | cons v r ih =>
      intro c off h
      simp only [List.length_cons] at h
      rw [wrCells, ih _ _ (by simp; omega)]
      simp only [Array.toList_setIfInBounds, List.length_cons]
      have hlt : off < c.toList.length := by simp; omega
      have hl : (c.toList.take off).length = off := by simp; omega
      rw [List.take_set, List.take_succ_eq_append_getElem hlt, List.set_append_right _ _ (by rw [hl]; exact Nat.le_refl _), hl, Nat.sub_self, List.drop_set_of_lt (by omega)]
      simp [Nat.add_assoc, Nat.add_comm 1]
  have h1 : (i + 1) * sz ≤ m * sz := Nat.mul_le_mul_right _ hi
  have h2 : (i + 1) * sz = i * sz + sz := Nat.succ_mul i sz
  have h3 := hk vs cur (i * sz) (by rw [hvs, ← h2]; omega)
  constructor
  · rw [h3, hvs, ← h2, ← ht]
    have hl1 : (cur.toList.take (i * sz)).length = i * sz := by simp; omega
    rw [List.append_assoc, List.take_append, hl1, List.take_of_length_le (by rw [hl1]; omega), List.take_append, hvs, List.take_of_length_le (l := vs) (by omega), List.take_take, Nat.min_eq_left (by omega), List.append_assoc]
    congr 2
    rw [List.drop_take]
    congr 1
    omega
  · rw [← Array.length_toList, h3]
    simp [hvs]
    omega
end Go.Proofs.Ytahoghldnijnbaa.SL
