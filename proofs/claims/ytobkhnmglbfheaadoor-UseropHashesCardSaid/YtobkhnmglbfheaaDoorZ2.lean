/-
  Texts that were built apart, put behind one another (2 of 5): Slo Slp Slq Slr Sls Slt Slu Slv Slw Slx Sly Slz Sma Smb Smc Smd Sme Smf Smg Smh Smi Smj Inst W1 W2 W3 W4 W5 W6 W7 W8 W9 W10 W11 W12 W13 W14 W15 W16 W17 W18 W19 W20 W22 W23 W26 P0 P1 P2 P3.
  Conditions: none.
-/
import Derived.Test.YtobkhnmglbfheaaDoorZ1
import Derived.Deep.Upon
import Derived.Laws.Cover3
import Derived.Laws.BytesArg
import Derived.Laws.RangeAny
import Derived.Laws.Concat
import Derived.Laws.Strings2
import Derived.Laws.Slices
import Derived.MapKept
import Derived.Laws.CopyRow
import Derived.Laws.IdiomCopy
import Derived.Laws.IdiomStrings
import Derived.Test.YtobkhnmglbfheaaDoorRows
import Derived.Shelf.Spec.BitsCarry
import Derived.Lib.Mul64
/-
  A SMALL LOGIC OVER THE KIT's WALK, PART O: truth values compared; parts of a block read.
  Conditions: none; over any program.
-/
namespace Go.Proofs.YtobkhnmglbfheaaDoor.SL
set_option linter.unusedVariables false
set_option linter.unusedSimpArgs false
open Go Go.RowKit
section bo
variable {P : Program} {e : Env} {T ty : TypeId} {x y : Operand} {a b : Bool}
theorem guard_bool {op : BinOp} {v : Value} (w : World) : (eqGuard op T x y (.bool a) v).run P w = .ok () w := by
  unfold eqGuard; cases op <;> cases v <;> simp
theorem eqIn_bool (d : Nat) (w : World) [UnI P T .bool] : (Op.equalIn (d + 1) T (.bool a) (.bool b)).run P w = .ok (a == b) w := by
  rw [Op.equalIn.eq_def]; simp only [Sem.run_bind, run_un (P := P) (T := T), Result.andThen_ok]; rfl
theorem ValP.boolEq [UnI P T .bool] (hx : e.ev x = some (.bool a)) (hy : e.ev y = some (.bool b)) : ValP P e [] (.binOp .eql T x y ty) (.bool (a == b)) :=
  .bin hx hy (fun w => guard_bool w) fun w => by
    have := eqIn_bool (P := P) (T := T) (a := a) (b := b) (Op.maxDepth - 1) w
    simp only [binOp, Op.equal, Sem.run_bind]
    rw [show Op.maxDepth = Op.maxDepth - 1 + 1 from rfl, this]; rfl
theorem ValP.boolEqT [UnI P T .bool] (hx : e.ev x = some (.bool a)) (hy : e.ev y = some (.bool b)) (h : a = b) : ValP P e [] (.binOp .eql T x y ty) (.bool true) := by
  have := ValP.boolEq (P := P) (T := T) (ty := ty) hx hy; rwa [h, beq_self_eq_true] at this
end bo
/-- Parts of a block. -/
theorem Rd.mid {P : Program} {T : TypeId} {n : Nat} {z : Value} [AgI P T true] [InfoI P T n z] {c : Array Value} {E : TypeId} {fr : Nat × Nat} {off : Nat} {cs : List Value} (hn : cs.length = n) (h : (c.toList.drop off).take n = cs) : Rd P T (.cells c E fr) off (.agg cs.toArray) :=
  Rd.part hn fun j v hv => cut_get h hv
end Go.Proofs.YtobkhnmglbfheaaDoor.SL

/-
  A SMALL LOGIC OVER THE KIT's WALK, PART P: arguments that are rows, opened.
  Conditions: none; over any program.
-/
namespace Go.Proofs.YtobkhnmglbfheaaDoor.SL
set_option linter.unusedVariables false
set_option linter.unusedSimpArgs false
open Go Go.RowKit Go.ChangeShapes Go.WideShapes
section op
variable {H : Type} {enc : TypeId × Value → H} {P : Program} {w W : World} {held : Bool} {r : Reach} {base : Nat} {T E : TypeId} {v : Value} {d : DataW H} {ps : List MemPlace}
theorem open_n {k : IntKind} (hu : P.underlying T = some (.int k)) (hT : (Ty.int k).ok P (.inl T) = true) (hv : Value.okWide P W r base T v) (h : DataW.Trod enc P w 0 (fun _ => true) held T v d ps) : ∃ n, v = .int k n ∧ (Lit.int k n).wf = true := by
  obtain ⟨n, rfl⟩ := okWide_int hu hv
  obtain ⟨n', h1, h2⟩ := open_one hT h
  obtain rfl : n = n' := by simpa [Value.cells] using h1
  exact ⟨n, rfl, h2⟩
end op
end Go.Proofs.YtobkhnmglbfheaaDoor.SL

/-
  A SMALL LOGIC OVER THE KIT's WALK, PART Q: rows that came in, later; rows of none; elements of our rows written; integers converted.
  Conditions: none; over any program.
-/
namespace Go.Proofs.YtobkhnmglbfheaaDoor.SL
set_option linter.unusedVariables false
set_option linter.unusedSimpArgs false
open Go Go.RowKit
/-- A row that came in reads as it did, later. -/
theorem RowAt.bel {w0 w : World} {sz n : Nat} {v : Value} {xs : List Value} (h : RowAt w0 sz v n xs) (hb : Bel w0.heap.size [] w0 w) : RowAt w sz v n xs :=
  ⟨h.form, h.len, fun h0 => by
    obtain ⟨b, off, c, cs, E, fr, h1, h2, h3⟩ := h.pos h0
    exact ⟨b, off, c, cs, E, fr, h1, by rw [hb.block b (Array.getElem?_eq_some_iff.1 h2).1 (by simp)]; exact h2, h3⟩, fun p n c he => by
    rcases h.lies p n c he with h | h | ⟨b, off, o, h1, h2⟩
    · exact .inl h
    · exact .inr (.inl h)
    · exact .inr (.inr ⟨b, off, o, h1, by rw [hb.block b (Array.getElem?_eq_some_iff.1 h2).1 (by simp)]; exact h2⟩)⟩
theorem RowAt.st {w0 w : World} {sz n : Nat} {v : Value} {xs : List Value} {fs : Fs} (h : RowAt w0 sz v n xs) (hs : St w0 [] fs w) : RowAt w sz v n xs := h.bel hs.bel

theorem IsRow.pos {E : TypeId} {sz n c : Nat} {p : Option Addr} {xs : List Value} {seg : Fs} (h : IsRow E sz (.slice p n c) n xs seg) (h0 : 0 < n) : ∃ g cur, p = some ⟨g, 0, none⟩ ∧ seg = [(g, .cells cur E (0, 0))] ∧ n ≤ c ∧ c ≤ maxLen ∧ cur.size = c * sz ∧ cur.toList.take (n * sz) = xs := by
  cases h with
  | nil => cases h0
  | own hn hm hc ht hl => exact ⟨_, _, rfl, rfl, hn, hm, hc, ht⟩
theorem NewP.build0 {P : Program} {e : Env} {T E : TypeId} {size : Nat} {z : Value} (hU : UnI P T (.slice E)) (hI : InfoI P E size z) : NewP P e (.buildSlice T 0 #[]) (.sl 0 0) (.cells #[] E (0, 0)) := fun ρ w hρ d t pos af g => by
  have hr : (Instr.buildSlice T 0 ((#[] : Array (Nat × Operand)).map fun p => (p.1, ρ p.2))).run P w = .ok ((Sh.sl 0 0).val w.heap.size) (w.alloc (.cells #[] E (0, 0))) := by
    unfold Instr.buildSlice
    simp only [Sem.run_bind, run_un, run_size, Result.andThen_ok]
    simp [newRow, Sh.val, Instr.fill, Array.range_zero']
  simp only [execOp]
  exact (show ((do pure (.value (← Instr.buildSlice T 0 ((#[] : Array (Nat × Operand)).map fun p => (p.1, ρ p.2)))) : Sem Next)).run P w = _ by simp only [Sem.run_bind, hr]; rfl)
section mm
variable {P : Program} {e : Env} {x y : Operand} {tys : Array TypeId} {m n : Nat} {ik : IntKind}
theorem ValP.minZL (hx : e.ev x = some (.int ik (m : Int))) (hy : e.ev y = some (.int ik (OfNat.ofNat n))) (_ : n = n) : ValP P e [] (.call { callee := .builtin .min, args := #[x, y], argTypes := tys }) (.int ik ((min m (OfNat.ofNat n) : Nat) : Int)) := .minZ hx hy
theorem ValP.cutFromL {T E : TypeId} {lo : Operand} {p : Option Addr} {c k sz : Nat} {z : Value} (hU : UnI P T (.slice E)) (hI : InfoI P E sz z) (hx : e.ev x = some (.slice p n c)) (hl : e.ev lo = some (.int ik (OfNat.ofNat k))) (_ : k = k) (hk : (OfNat.ofNat k : Nat) ≤ n) : ValP P e [] (.slice T x (some lo) none none) (cutAt p (OfNat.ofNat k) n c sz) := .cutFrom hU hI hx hl hk
end mm
section lw
variable {C : Cu} {ops : Array Oper} {Q : Post} {rest : List Oper} {e : Env} {fs : Fs} {d : Nat} {t : TypeId} {pos : String} {af : Array Edge}
/-- A slice of no elements, but not nil. -/
theorem LW.lay0 {T E sz : TypeId} {z : Value} (hd : Nat.blt d C.N = true) (hU : UnI C.P T (.slice E)) (hI : InfoI C.P E sz z) (k : ∀ v seg, IsRow E sz v 0 [] seg → LW C ops Q rest ((d, v) :: e) (seg ++ fs)) :
    LW C ops Q (⟨some d, .buildSlice T 0 #[], t, pos, af, none⟩ :: rest) e fs :=
  LW.n0 hd rfl (NewP.build0 hU hI) fun g => k _ [(g, _)] (.own (cur := #[]) (Nat.le_refl 0) (Nat.zero_le _) (by simp) (by simp) (by simp))
/-- **append(s, x...)** of nothing. -/
theorem ValP.append0 {P : Program} {s x : Operand} {tys : Array TypeId} {T E sz : TypeId} {z : Value} {p q : Option Addr} {n c c' : Nat} (hT : tys = #[T, T]) (hU : UnI P T (.slice E)) (hI : InfoI P E sz z) (hs : e.ev s = some (.slice p n c)) (hx : e.ev x = some (.slice q 0 c')) (hle : n ≤ c) :
    ValP P e [] (.call { callee := .builtin .append, args := #[s, x], argTypes := tys }) (.slice p n c) := fun ρ w hρ _ d t pos af g => by
  subst hT
  obtain ⟨i, h1, h2, _⟩ := info_of (P := P) (T := E)
  have hsrc : Src P i.size T (.slice q 0 c') 0 [] w := by
    cases q with
    | none => exact Src.ofNil w hU.un c'
    | some a => exact Src.ofSlice w hU.un a 0 c' [] (by simp) (fun j u h => by simp at h) (fun u h => by cases h)
  have hr := run_append_nothing (P := P) w T T t E i hU.un h1 p n c hle _ hsrc
  simp [execOp, resolve, invoke, builtin, hρ s _ hs, hρ x _ hx, hr]
/-- **append(s, x...)**: s a row of ours, x a row that may be read, of none too. -/
theorem LW.appendAny {s x : Operand} {tys : Array TypeId} {T E : TypeId} {size bytes : Nat} {z v vx : Value} {n m : Nat} {xs news : List Value} {seg pre post : Fs} (hd : Nat.blt d C.N = true) (hT : tys = #[T, T]) (hU : UnI C.P T (.slice E)) (hI : InfoI C.P E size z) (hB : BytI C.P E bytes)
    (hz : z.cells.size = size) (hs : e.ev s = some v) (hx : e.ev x = some vx) (hseg : AtSeg fs pre seg post) (hrow : IsRow E size v n xs seg) (hat : ∀ w, St C.w0 C.S fs w → RowAt w size vx m news)
    (h1 : ∀ u ∈ news, u.oneCell' = true) (h63 : n + m ≤ maxLen) (hb : (n + m) * bytes ≤ 140737488355328)
    (k : ∀ v' seg', IsRow E size v' (n + m) (xs ++ news) seg' → ∃ fs', AtSeg fs' pre seg' post ∧ LW C ops Q rest ((d, v') :: e) fs') :
    LW C ops Q (⟨some d, .call { callee := .builtin .append, args := #[s, x], argTypes := tys }, t, pos, af, none⟩ :: rest) e fs := by
  rcases Nat.eq_zero_or_pos m with hm | hm
  · subst hm
    intro a w hsat
    have hA := hat w hsat.st
    have hn : news = [] := List.length_eq_zero_iff.1 (by rw [hA.len, Nat.zero_mul])
    subst hn
    obtain ⟨q, c', rfl, _, _⟩ := hA.form
    have hp : ∃ p c, v = .slice p n c ∧ n ≤ c := by
      cases hrow with
      | nil => exact ⟨_, _, rfl, Nat.le_refl _⟩
      | own hn _ _ _ _ => exact ⟨_, _, rfl, hn⟩
    obtain ⟨p, c, rfl, hle⟩ := hp
    obtain ⟨fs', hat', hK⟩ := k _ seg (by simpa using hrow)
    have : fs' = fs := by rw [hat'.eq, hseg.eq]
    subst this
    exact LW.v0 hd rfl (ValP.append0 hT hU hI hs hx hle) hK a w hsat
  · exact LW.appendAt hd hT hU hI hB hz hs hx hseg hrow hat h1 hm h63 hb k
end lw
/-- An element of a row of ours, written. -/
theorem wr_take {sz : Nat} {cur : Array Value} {m i : Nat} {vs : List Value} {xs : List Value} (ht : cur.toList.take (m * sz) = xs) (hvs : vs.length = sz) (hi : i < m) (hlen : m * sz ≤ cur.size) :
    (wrCells cur (i * sz) vs).toList.take (m * sz) = xs.take (i * sz) ++ vs ++ xs.drop ((i + 1) * sz) ∧ (wrCells cur (i * sz) vs).size = cur.size := by
  have hk : ∀ (vs : List Value) (c : Array Value) (off : Nat), off + vs.length ≤ c.size → (wrCells c off vs).toList = c.toList.take off ++ vs ++ c.toList.drop (off + vs.length) := by
    intro vs
    induction vs with
    | nil => intro c off h; simp [wrCells]
    | cons v r ih =>
      intro c off h
      simp only [List.length_cons] at h
      rw [wrCells, ih _ _ (by simp; omega)]
      simp only [Array.toList_setIfInBounds, List.length_cons]
      have hlt : off < c.toList.length := by simp; omega
      have hl : (c.toList.take off).length = off := by simp; omega
      rw [List.take_set, List.take_succ_eq_append_getElem hlt, List.set_append_right _ _ (by rw [hl]; exact Nat.le_refl _), hl, Nat.sub_self, List.drop_set_of_lt (by omega)]
      simp [Nat.add_assoc, Nat.add_comm 1]
  have h1 : (i + 1) * sz ≤ m * sz := Nat.mul_le_mul_right _ hi
  have h2 : (i + 1) * sz = i * sz + sz := Nat.succ_mul i sz
  have h3 := hk vs cur (i * sz) (by rw [hvs, ← h2]; omega)
  constructor
  · rw [h3, hvs, ← h2, ← ht]
    have hl1 : (cur.toList.take (i * sz)).length = i * sz := by simp; omega
    rw [List.append_assoc, List.take_append, hl1, List.take_of_length_le (by rw [hl1]; omega), List.take_append, hvs, List.take_of_length_le (l := vs) (by omega), List.take_take, Nat.min_eq_left (by omega), List.append_assoc]
    congr 2
    rw [List.drop_take]
    congr 1
    omega
  · rw [← Array.length_toList, h3]
    simp [hvs]
    omega
end Go.Proofs.YtobkhnmglbfheaaDoor.SL

/-
  A SMALL LOGIC OVER THE KIT's WALK, PART R: arrays cut, and slices seen as arrays.
  Conditions: none; over any program.
-/
namespace Go.Proofs.YtobkhnmglbfheaaDoor.SL
set_option linter.unusedVariables false
set_option linter.unusedSimpArgs false
open Go Go.RowKit
section ar
variable {P : Program} {e : Env} {x hi : Operand} {T E A : TypeId} {n sz k : Nat} {z : Value} {ik : IntKind} {b off : Nat}
/-- arr[:k] of an array's address. -/
theorem ValP.cutArr (hU : UnI P T (.array n E)) (hI : InfoI P E sz z) (hx : e.ev x = some (.pointer (some ⟨b, off, none⟩))) (hh : e.ev hi = some (.int ik (OfNat.ofNat k))) (hk : Nat.ble (OfNat.ofNat k) n = true) : ValP P e [] (.slice T x none (some hi) none) (.slice (some ⟨b, off, none⟩) (OfNat.ofNat k) n) := fun ρ w hρ _ d t pos af g => by
  have hk' := Nat.le_of_ble_eq_true hk
  have hu := hU.un
  have h1 : (Instr.sliceAt T (.pointer (some ⟨b, off, none⟩)) none (some (.int ik (OfNat.ofNat k))) none).run P w = .ok (.slice (some ⟨b, off, none⟩) (OfNat.ofNat k) n) w := by
    have hal : P.arrayLen T = n := by rw [Program.arrayLen, hu]
    have hel : P.elem T = E := by rw [Program.elem, hu]
    have h2 := run_sliceAt_array_h (P := P) w T ⟨b, off, none⟩ (by rw [hal, hel]; exact hu) ik ((OfNat.ofNat k : Nat) : Int) (Int.natCast_nonneg _) (by rw [hal]; exact Int.ofNat_le.2 hk')
    rw [hel, run_size, hal] at h2
    have e1 : ((OfNat.ofNat k : Int)) = ((OfNat.ofNat k : Nat) : Int) := rfl
    rw [e1, h2]
    simp only [Result.andThen_ok, slicedAt, Nat.zero_mul, Int.toNat_natCast, Nat.sub_zero]
    simp [Addr.add]
  simp [execOp, hρ x _ hx, hρ hi _ hh, h1]
/-- A slice seen as an array. -/
theorem ValP.asArr {p : Option Addr} {m c : Nat} (hU : UnI P A (.array n E)) (hx : e.ev x = some (.slice p m c)) (hn : Nat.ble n m = true) : ValP P e [] (.sliceToArrayPointer A x) (.pointer p) := fun ρ w hρ _ d t pos af g => by
  have h1 := run_arrayAt (P := P) w A E n p m c hU.un (Nat.le_of_ble_eq_true hn)
  simp [execOp, hρ x _ hx, h1]
end ar
end Go.Proofs.YtobkhnmglbfheaaDoor.SL

/-
  A SMALL LOGIC OVER THE KIT's WALK, PART S: operations passed over because what they wait for was passed over.
  Conditions: none; over any program.
-/
namespace Go.Proofs.YtobkhnmglbfheaaDoor.SL
set_option linter.unusedVariables false
set_option linter.unusedSimpArgs false
open Go Go.RowKit
end Go.Proofs.YtobkhnmglbfheaaDoor.SL

/-
  A SMALL LOGIC OVER THE KIT's WALK, PART T: rows of bytes, and strings out of them.
  Conditions: none; over any program.
-/
namespace Go.Proofs.YtobkhnmglbfheaaDoor.SL
set_option linter.unusedVariables false
set_option linter.unusedSimpArgs false
open Go Go.RowKit
/-- The cells of bytes. -/
def ucs (l : List UInt8) : List Value := l.flatMap fun u => [Value.int .u8 (u.toNat : Int)]
theorem ucs_map (l : List UInt8) : ucs l = l.map fun u => Value.int .u8 (u.toNat : Int) := by
  induction l with
  | nil => rfl
  | cons a l ih => simp [ucs] at *; exact ih
theorem ucs_len (l : List UInt8) : (ucs l).length = l.length := by rw [ucs_map, List.length_map]
theorem ucs_one (l : List UInt8) : ∀ u ∈ l, ([Value.int .u8 (u.toNat : Int)] : List Value).length = 1 := fun _ _ => rfl
theorem ucs_app (l r : List UInt8) : ucs (l ++ r) = ucs l ++ ucs r := by simp [ucs]
theorem ucs_take (l : List UInt8) (k : Nat) : (ucs l).take (k * 1) = ucs (l.take k) := by rw [ucs_map, ucs_map, Nat.mul_one, List.map_take]
theorem ucs_drop (l : List UInt8) (k : Nat) : (ucs l).drop (k * 1) = ucs (l.drop k) := by rw [ucs_map, ucs_map, Nat.mul_one, List.map_drop]
theorem ucs_cells (l : List UInt8) : ∀ u ∈ ucs l, u.oneCell' = true := fun u hu => by
  rw [ucs_map] at hu
  obtain ⟨a, _, rfl⟩ := List.mem_map.1 hu
  rfl
theorem ucs_zero (n : Nat) : ucs (List.replicate n 0) = List.replicate n (Value.int .u8 0) := by rw [ucs_map, List.map_replicate]; rfl
theorem is_u8 {w : World} {cs : List Value} (h : (Ty.int .u8).is w cs) : ∃ u : UInt8, True ∧ cs = [Value.int .u8 (u.toNat : Int)] := by
  obtain ⟨n, rfl, hn⟩ := h
  simp [Lit.wf, IntKind.min, IntKind.max, IntKind.signed, IntKind.bits] at hn
  refine ⟨UInt8.ofNat n.toNat, trivial, ?_⟩
  rw [UInt8.toNat_ofNat']
  congr 2
  omega
/-- A row of bytes, as a value of its own. -/
theorem is_bytes {w : World} {cs : List Value} (h : (Ty.sl (.int .u8)).is w cs) : ∃ x : Value × List UInt8, RowAt w 1 x.1 x.2.length (ucs x.2) ∧ cs = [x.1] := by
  obtain ⟨v, l, h1, _, h3⟩ := sl_rows (g := fun u : UInt8 => [Value.int .u8 (u.toNat : Int)]) (Q := fun _ => True) (sz := 1) rfl (by decide) (fun _ h => is_u8 h) h
  exact ⟨(v, l), h3, h1⟩
theorem RowAt.string {P : Program} {w : World} {v : Value} {l : List UInt8} {n : Nat} {S T E : TypeId} (h : RowAt w 1 v n (ucs l)) (hS : P.underlying S = some (.slice E)) (hE : P.underlying E = some (.int .u8)) (hT : P.underlying T = some .string) :
    (convert S T v).run P w = .ok (.string ⟨l.toArray⟩) w := by
  have hn : l.length = n := by have := h.len; rw [ucs_len] at this; omega
  rcases Nat.eq_zero_or_pos n with h0 | h0
  · subst h0
    obtain rfl : l = [] := List.length_eq_zero_iff.1 hn
    obtain ⟨p, c, rfl, _, _⟩ := h.form
    rw [run_convert_bytes_string w S T E _ 0 c hS hE hT]
    cases p <;> simp [Conv.bytesToString, loadCells]
    all_goals rfl
  · obtain ⟨b, off, c, cs, E', fr, rfl, hb, hx⟩ := h.pos h0
    have := run_convert_bytes_arg (P := P) w S E hS hE b off n c (l.map fun u => (u.toNat : Int)) (by simpa using hn) (fun i hi => by
      have hlt : i < l.length := by omega
      have hg := cut_get (j := i) (v := .int .u8 (l[i].toNat : Int)) hx (by rw [ucs_map]; simp [hlt])
      rw [cell_of hb, hg]
      simp [List.getD, hlt]) T hT
    rw [this]
    congr 2
    simp only [strOfNums, List.map_map]
    congr 2
    conv => rhs; rw [← List.map_id l]
    apply List.map_congr_left
    intro u _
    simp
section lw
variable {C : Cu} {ops : Array Oper} {Q : Post} {rest : List Oper} {e : Env} {fs : Fs} {d : Nat} {t : TypeId} {pos : String} {af : Array Edge}
/-- **string(b)** of bytes that may be read. -/
theorem LW.toStr {S T E : TypeId} {x : Operand} {v : Value} {l : List UInt8} {n : Nat} (hd : Nat.blt d C.N = true) (hS : UnI C.P S (.slice E)) (hE : UnI C.P E (.int .u8)) (hT : UnI C.P T .string) (hx : e.ev x = some v) (hat : ∀ w, St C.w0 C.S fs w → RowAt w 1 v n (ucs l))
    (k : LW C ops Q rest ((d, .string ⟨l.toArray⟩) :: e) fs) : LW C ops Q (⟨some d, .convert S T x, t, pos, af, none⟩ :: rest) e fs :=
  LW.val hd (fun c h => by cases h) (fun a w hs => by
    have := (hat w hs.st).string (P := C.P) hS.un hE.un hT.un
    simp [execOp, hs.env.ev hx, this]) k
end lw
theorem bytes_eq (a b : List UInt8) : decide ((⟨a.toArray⟩ : ByteArray) = ⟨b.toArray⟩) = decide (a = b) := by
  rw [decide_eq_decide]
  constructor
  · intro h; exact by have := congrArg (fun x : ByteArray => x.data.toList) h; simpa using this
  · intro h; rw [h]
end Go.Proofs.YtobkhnmglbfheaaDoor.SL

/-
  A SMALL LOGIC OVER THE KIT's WALK, PART U: what comes behind a loop, told once.
  Conditions: none; over any program.
-/
namespace Go.Proofs.YtobkhnmglbfheaaDoor.SL
set_option linter.unusedVariables false
set_option linter.unusedSimpArgs false
open Go Go.RowKit
/-- All that is behind is told once, from less that is known. -/
def cutQ (C : Cu) (e1 : Env) (fs1 : Fs) : List Deferred → Env → Fs → Prop := fun ds e fs => ds = C.ds ∧ e.le e1 ∧ List.Sublist fs1 fs
theorem CW.cut {C : Cu} {c y : Code} {Q Q' : Post} {e : Env} {fs : Fs} (e1 : Env) (fs1 : Fs) (k : CW C y Q e1 fs1) (h : CW C c (thenQ (cutQ C e1 fs1) Q') e fs) : CW C c (thenQ (thenC C y Q) Q') e fs :=
  CW.mono (fun x ds e fs hx => by
    cases x with
    | normal => obtain ⟨rfl, h2, h3⟩ := hx; exact CW.weak (C := C) e1 fs1 h2 h3 k
    | _ => exact hx) h
theorem cutI {C : Cu} {Q : Post} {e e1 : Env} {fs fs1 : Fs} {ds : List Deferred} (hd : ds = C.ds) (h1 : e.le e1) (h2 : List.Sublist fs1 fs) : thenQ (cutQ C e1 fs1) Q .normal ds e fs := ⟨hd, h1, h2⟩
end Go.Proofs.YtobkhnmglbfheaaDoor.SL

/-
  A SMALL LOGIC OVER THE KIT's WALK, PART V: calls in drawn regions that read rows.
  Conditions: none; over any program.
-/
namespace Go.Proofs.YtobkhnmglbfheaaDoor.SL
set_option linter.unusedVariables false
set_option linter.unusedSimpArgs false
open Go Go.RowKit
theorem IsRow.us {E : TypeId} {sz n : Nat} {v : Value} {xs : List Value} {seg us : Fs} {w : World} (h : IsRow E sz v n xs seg) (hu : ∀ p ∈ us, w.heap[p.1]? = some p.2) (hs : List.Sublist seg us) : RowAt w sz v n xs := by
  cases h with
  | nil => exact .nil
  | @own g _ cap cur _ hn hm hc ht hl =>
    have hg := hu (g, .cells cur E (0, 0)) (hs.subset (by simp))
    exact ⟨⟨_, _, rfl, hn, hm⟩, hl, fun _ => ⟨g, 0, cap, cur, E, _, rfl, hg, by simpa using ht⟩, .own hg⟩
theorem ReadAll.app {C : Cu} {ops : Array Oper} {k : Nat} {bs : List Nat} {ts ts1 : Ts} {us : Fs} (h : ReadAll C ops k bs ts us ts1) : ∀ {bs' : List Nat} {us' : Fs} {ts2 : Ts}, ReadAll C ops k bs' ts1 us' ts2 → ReadAll C ops k (bs ++ bs') ts (us ++ us') ts2 := by
  induction h with
  | nil => intro _ _ _ h'; exact h'
  | own h _ ih => intro _ _ _ h'; exact .own h (ih h')
  | ext h hS _ ih => intro _ _ _ h'; exact .ext h hS (ih h')
/-- What a call's operands name is looked at: facts of ours, or rows that lay there when the call began. -/
inductive RdV (C : Cu) (ops : Array Oper) (k : Nat) : List Value → Ts → Fs → Ts → Prop
  | nil {ts : Ts} : RdV C ops k [] ts [] ts
  | plain {v : Value} {vs : List Value} {ts ts2 : Ts} {us : Fs} (hb : blocksN 4 v = []) (h : RdV C ops k vs ts us ts2) : RdV C ops k (v :: vs) ts us ts2
  | none {n c : Nat} {vs : List Value} {ts ts2 : Ts} {us : Fs} (h : RdV C ops k vs ts us ts2) : RdV C ops k (.slice .none n c :: vs) ts us ts2
  | ptr {b off : Nat} {o : Obj} {vs : List Value} {ts ts1 ts2 : Ts} {us : Fs} (h : TRead ops k ts b o ts1) (hs : RdV C ops k vs ts1 us ts2) : RdV C ops k (.pointer (some ⟨b, off, .none⟩) :: vs) ts ((b, o) :: us) ts2
  | own {b off n c : Nat} {o : Obj} {vs : List Value} {ts ts1 ts2 : Ts} {us : Fs} (hc : 0 < c) (h : TRead ops k ts b o ts1) (hs : RdV C ops k vs ts1 us ts2) : RdV C ops k (.slice (some ⟨b, off, .none⟩) n c :: vs) ts ((b, o) :: us) ts2
  | ext {v : Value} {n : Nat} {sz : Nat} {xs : List Value} {vs : List Value} {ts ts2 : Ts} {us : Fs} (h : RowAt C.w0 sz v n xs) (hS : C.S = []) (hs : RdV C ops k vs ts us ts2) : RdV C ops k (v :: vs) ts us ts2
theorem RdV.all {C : Cu} {ops : Array Oper} {k : Nat} {vs : List Value} {ts ts' : Ts} {us : Fs} (h : RdV C ops k vs ts us ts') : ∃ us2, ReadAll C ops k (vs.flatMap (blocksN 4)) ts us2 ts' ∧ ∀ p ∈ us, p ∈ us2 := by
  induction h with
  | nil => exact ⟨[], .nil, by simp⟩
  | plain hb _ ih =>
    obtain ⟨us2, h1, h2⟩ := ih
    exact ⟨us2, by rw [List.flatMap_cons, hb]; exact h1, h2⟩
  | none _ ih =>
    obtain ⟨us2, h1, h2⟩ := ih
    exact ⟨us2, h1, h2⟩
  | @ptr b off o vs ts ts1 ts2 us h _ ih =>
    obtain ⟨us2, h1, h2⟩ := ih
    refine ⟨(b, o) :: us2, .own h h1, fun p hp => ?_⟩
    rcases List.mem_cons.1 hp with rfl | hp
    · exact List.mem_cons_self
    · exact List.mem_cons_of_mem _ (h2 p hp)
  | @own b off n c o vs ts ts1 ts2 us hc h _ ih =>
    obtain ⟨us2, h1, h2⟩ := ih
    refine ⟨(b, o) :: us2, ?_, fun p hp => ?_⟩
    · rw [List.flatMap_cons, show blocksN 4 (.slice (some ⟨b, off, .none⟩) n c) = [b] by simp [blocksN, Nat.ne_of_gt hc]]
      exact .own h h1
    · rcases List.mem_cons.1 hp with rfl | hp
      · exact List.mem_cons_self
      · exact List.mem_cons_of_mem _ (h2 p hp)
  | @ext v n sz xs vs ts ts2 us h hS _ ih =>
    obtain ⟨us2, h1, h2⟩ := ih
    obtain ⟨p, c, rfl, _, _⟩ := h.form
    rcases h.lies _ _ _ rfl with rfl | rfl | ⟨b, off, o, rfl, hb⟩
    · exact ⟨us2, h1, h2⟩
    · exact ⟨us2, by rw [List.flatMap_cons, show blocksN 4 (.slice p n 0) = [] by cases p <;> simp [blocksN]]; exact h1, h2⟩
    · rcases Nat.eq_zero_or_pos c with hc | hc
      · subst hc
        exact ⟨us2, by rw [List.flatMap_cons, show blocksN 4 (.slice (some ⟨b, off, .none⟩) n 0) = [] by simp [blocksN]]; exact h1, h2⟩
      · refine ⟨(b, o) :: us2, ?_, fun p hp => List.mem_cons_of_mem _ (h2 p hp)⟩
        rw [List.flatMap_cons, show blocksN 4 (.slice (some ⟨b, off, .none⟩) n c) = [b] by simp [blocksN, Nat.ne_of_gt hc]]
        exact .ext hb (by rw [hS]; simp) h1
section dw
variable {C : Cu} {ops : Array Oper} {Q : Post} {tl rest : List Oper} {e : Env} {ts : Ts} {μ : Mu} {k d : Nat} {op : Op} {t : TypeId} {pos : String} {af : Array Edge} {g : Option (Nat × Bool)}
theorem DW.manyV {fo : Operand} {args : Array Operand} {tys : Array TypeId} {f : FuncId} {vs : List Value} {M : Rel1} {us : Fs} {ts' : Ts} (hk : ops[k]? = some ⟨some d, .call { callee := .value fo, args := args, argTypes := tys }, t, pos, af, g⟩) (hm : μ k = some (cst M, false))
    (hd : Nat.blt d C.N = true) (hg : WantT ops e g) (hf : e.ev fo = some (.func (.func f) #[] #[])) (hF : FnI C.P f) (ha : ArgsOk e args.toList vs) (hr : RdV C ops k vs ts us ts')
    (hc : ∀ w, Bel C.w0.heap.size C.S C.w0 w → (∀ p ∈ us, w.heap[p.1]? = some p.2) → Calls C.P f vs.toArray w (RetG w [] M)) (kk : ∀ v gs, M v gs → DW C ops μ Q tl rest (k + 1) ((d, v) :: e) (tsNew k gs ++ ts')) :
    DW C ops μ Q tl (⟨some d, .call { callee := .value fo, args := args, argTypes := tys }, t, pos, af, g⟩ :: rest) k e ts := by
  obtain ⟨us2, h1, h2⟩ := hr.all
  exact DW.manyE hk hm hd hg hf hF ha (show _ = vs.flatMap (blocksN 4) from rfl) h1 (fun w hb hu => hc w hb fun p hp => hu p (h2 p hp)) kk
end dw
end Go.Proofs.YtobkhnmglbfheaaDoor.SL

/-
  A SMALL LOGIC OVER THE KIT's WALK, PART W: strings measured, cut, joined, gone through.
  Conditions: none; over any program.
-/
namespace Go.Proofs.YtobkhnmglbfheaaDoor.SL
set_option linter.unusedVariables false
set_option linter.unusedSimpArgs false
open Go Go.RowKit
/-! ### A label's scope, where nobody jumps -/
theorem stepR_scope {P : Program} {b : Frame} {a : Act} {k : List Item} {cs : List Frame} {w : World} {c : Code} : step P (lone (b.atR a (.code (.scope c) :: k)) cs w) = .next (lone (b.atR a (.code c :: .inScope c :: k)) cs w) :=
  step_lone_go (by simp [stepG, stepG.exec, Frame.atR])
theorem stepR_inScope {P : Program} {b : Frame} {a : Act} {k : List Item} {cs : List Frame} {w : World} {c : Code} : step P (lone (b.atR a (.inScope c :: k)) cs w) = .next (lone (b.atR a k) cs w) :=
  step_lone_go (by simp [stepG, stepG.exec, Frame.atR])
theorem wpIn_scope {F : Fence} {n : Nat} {P : Program} {c : Code} {Q Q' : Exit → Act → World → Prop} {a : Act} {w : World} (hQ : ∀ x a w, Q' x a w → (∀ l, x ≠ .goto l) ∧ Q x a w) (h : c.wpIn F n P Q' a w) : (Code.scope c).wpIn F n P Q a w := by
  intro b k cs hro hb hr
  have h0 : (lone (b.atR a (.code (.scope c) :: k)) cs w).fenced P F := fenced_calm hb hr rfl
  obtain ⟨e, a₁, w₁, hq, harr⟩ := h b (.inScope c :: k) cs hro hb hr
  obtain ⟨hng, hq⟩ := hQ _ _ _ hq
  cases e with
  | normal => exact ⟨.normal, a₁, w₁, hq, .head h0 stepR_scope (StepsIn.trans harr (.one (fenced_calm hb hr rfl) stepR_inScope))⟩
  | exit id =>
    have hx : exitTo id (.inScope c :: k) = exitTo id k := by simp [exitTo]
    exact ⟨.exit id, a₁, w₁, hq, fun k' hk => .head h0 stepR_scope (harr.1 k' (by rw [hx]; exact hk)),
      fun hr' hk => let ⟨k₁, h1, h2⟩ := harr.2 hr' (by rw [hx]; exact hk); ⟨k₁, h1, .head h0 stepR_scope h2⟩⟩
  | goto l => exact absurd rfl (hng l)
  | ret => exact ⟨_, a₁, w₁, hq, .of_steps (.one h0 stepR_scope) harr⟩
  | panic ch => exact ⟨_, a₁, w₁, hq, .of_steps (.one h0 stepR_scope) harr⟩
  | outgrown => exact ⟨_, a₁, w₁, hq, .of_steps (.one h0 stepR_scope) harr⟩
inductive scopeQ (Q : Post) : Post
  | n {ds : List Deferred} {e : Env} {fs : Fs} (h : Q .normal ds e fs) : scopeQ Q .normal ds e fs
  | r {ds : List Deferred} {e : Env} {fs : Fs} (h : Q .ret ds e fs) : scopeQ Q .ret ds e fs
  | e {id : Nat} {ds : List Deferred} {e : Env} {fs : Fs} (h : Q (.exit id) ds e fs) : scopeQ Q (.exit id) ds e fs
theorem CW.scope {C : Cu} {c : Code} {Q : Post} {e : Env} {fs : Fs} (h : CW C c (scopeQ Q) e fs) : CW C (.scope c) Q e fs := fun a w hs =>
  wpIn_scope (fun x a w ⟨ds, e, fs, q, s⟩ => by
    cases q with
    | n h => exact ⟨(fun _ h => nomatch h), ⟨ds, e, fs, h, s⟩⟩
    | r h => exact ⟨(fun _ h => nomatch h), ⟨ds, e, fs, h, s⟩⟩
    | e h => exact ⟨(fun _ h => nomatch h), ⟨ds, e, fs, h, s⟩⟩) (h a w hs)
/-- A string out of bytes. -/
abbrev sv (l : List UInt8) : Value := .string ⟨l.toArray⟩
section str
variable {P : Program} {e : Env} {T ty : TypeId} {x y lo hi : Operand} {l r : List UInt8} {tys : Array TypeId}
end str
section lw
variable {C : Cu} {ops : Array Oper} {Q : Post} {rest : List Oper} {e : Env} {fs fs' : Fs} {d : Nat} {t : TypeId} {pos : String} {af : Array Edge}
end lw
end Go.Proofs.YtobkhnmglbfheaaDoor.SL

/-
  A SMALL LOGIC OVER THE KIT's WALK, PART X: maps of one's own; structs' fields.
  Conditions: none; over any program.
-/
namespace Go.Proofs.YtobkhnmglbfheaaDoor.SL
set_option linter.unusedVariables false
set_option linter.unusedSimpArgs false
open Go Go.RowKit Go.MapKept
/-- What a map holds behind a store. -/
def putNow (dd : TypeDesc) (key val : Value) (es : Array MapEntry) (clock : Nat) : Option (Array MapEntry × Nat) :=
  match Instr.findNow dd key es.toList 0 with
  | some none => some (es.push ⟨key, val, clock⟩, clock + 1)
  | some (some (i, _)) => if Instr.sameBits 10000 (((es[i]?).map (·.key)).getD key) key = true then some (es.modify i fun e => { e with key := key, val := val }, clock) else none
  | none => none
theorem mapUpdate_run {P : Program} {T K E : TypeId} {dd : TypeDesc} {b clock clock' : Nat} {es es' : Array MapEntry} {key val : Value} (hU : P.underlying T = some (.map K E)) (hK : P.underlying K = some dd) (hkey : IsKey dd key) (hput : putNow dd key val es clock = some (es', clock')) {w : World} (hb : w.heap[b]? = some (.map es clock)) :
    (Instr.mapUpdate T (.map (some b)) key val).run P w = .ok () (w.putObj b (.map es' clock')) := by
  unfold putNow at hput
  unfold Instr.mapUpdate
  simp only [Sem.run_bind, run_underlying hU, MapKept.run_getObj_map hb, MapKept.run_checkKey hK hkey, Result.andThen_ok]
  split at hput
  · rename_i hf
    simp only [Option.some.injEq, Prod.mk.injEq] at hput
    obtain ⟨rfl, rfl⟩ := hput
    simp only [MapKept.run_findKey hK hf, Result.andThen_ok, MapKept.run_setObj_map _ hb]
    rfl
  · rename_i i v hf
    split at hput
    · rename_i hs
      simp only [Option.some.injEq, Prod.mk.injEq] at hput
      obtain ⟨rfl, rfl⟩ := hput
      simp only [MapKept.run_findKey hK hf, Result.andThen_ok, Instr.keyThatStays, hs, if_true, Sem.run_bind, Sem.run_pure, MapKept.run_setObj_map _ hb]
      rfl
    · cases hput
  · cases hput
/-- What a look-up answers. -/
def lookV (z : Value) (ok : Bool) (r : Option (Nat × Value)) : Value := match r with
  | some (_, v) => if ok then .tuple #[v, .bool true] else v
  | none => if ok then .tuple #[z, .bool false] else z
theorem lookup_run {P : Program} {T K E n : TypeId} {z : Value} {dd : TypeDesc} {b clock : Nat} {es : Array MapEntry} {key : Value} {r : Option (Nat × Value)} (hU : P.underlying T = some (.map K E)) (hK : P.underlying K = some dd) (hI : InfoI P E n z) (hkey : IsKey dd key) (hf : Instr.findNow dd key es.toList 0 = some r) (ok : Bool) {w : World} (hb : w.heap[b]? = some (.map es clock)) :
    (Instr.lookup T (.map (some b)) key ok).run P w = .ok (lookV z ok r) w := by
  unfold lookV
  unfold Instr.lookup
  simp only [Sem.run_bind, run_underlying hU, MapKept.run_getObj_map hb, Sem.run_pure, MapKept.run_checkKey hK hkey, Result.andThen_ok, MapKept.run_findKey hK hf]
  cases r with
  | none => simp only [Sem.run_bind, run_zero, Result.andThen_ok, Sem.run_pure]
  | some x => simp only [Sem.run_bind, Result.andThen_ok, Sem.run_pure]
section lw
variable {C : Cu} {ops : Array Oper} {Q : Post} {rest : List Oper} {e : Env} {fs fs' : Fs} {d : Nat} {t : TypeId} {pos : String} {af : Array Edge}
theorem LW.makeMap {T : TypeId} (hd : Nat.blt d C.N = true) (k : ∀ b, LW C ops Q rest ((d, .map (some b)) :: e) ((b, .map #[] 0) :: fs)) : LW C ops Q (⟨some d, .makeMap T none, t, pos, af, none⟩ :: rest) e fs :=
  LW.new (s := .mp) hd (fun c h => by cases h) (fun a w hs => by
    have h : (Instr.makeMap T none).run C.P w = .ok (.map (some w.heap.size)) (w.alloc (.map #[] 0)) := rfl
    simp [execOp, h, Sh.val]) k
theorem LW.mapIns {T K E : TypeId} {dd : TypeDesc} {xm xk xv : Operand} {b clock clock' : Nat} {es es' : Array MapEntry} {key val : Value} (hU : UnI C.P T (.map K E)) (hK : UnI C.P K dd) (hm : e.ev xm = some (.map (some b))) (hk : e.ev xk = some key) (hv : e.ev xv = some val) (hset : SetAt fs b (.map es clock) (.map es' clock') fs')
    (hkey : IsKey dd key) (hput : putNow dd key val es clock = some (es', clock')) (k : LW C ops Q rest e fs') : LW C ops Q (⟨none, .insert T xm xk xv, t, pos, af, none⟩ :: rest) e fs :=
  LW.s0 rfl hset (fun ρ w hρ hb d t pos af g => by simp [execOp, hρ _ _ hm, hρ _ _ hk, hρ _ _ hv, mapUpdate_run hU.un hK.un hkey hput hb]) k
theorem LW.mapGet {T K E n : TypeId} {z v : Value} {dd : TypeDesc} {xm xk : Operand} {b clock : Nat} {es : Array MapEntry} {key : Value} {r : Option (Nat × Value)} {ok : Bool} (hd : Nat.blt d C.N = true) (hU : UnI C.P T (.map K E)) (hK : UnI C.P K dd) (hI : InfoI C.P E n z) (hm : e.ev xm = some (.map (some b))) (hk : e.ev xk = some key) (hp : Known C fs (b, .map es clock))
    (hkey : IsKey dd key) (hf : Instr.findNow dd key es.toList 0 = some r) (hv : lookV z ok r = v) (k : LW C ops Q rest ((d, v) :: e) fs) : LW C ops Q (⟨some d, .lookup T xm xk ok, t, pos, af, none⟩ :: rest) e fs :=
  LW.val hd (fun c h => by cases h) (fun a w hs => by
    have h := lookup_run (P := C.P) hU.un hK.un hI hkey hf ok (hp.get hs.st)
    simp only [hv] at h
    simp [execOp, hs.env.ev hm, hs.env.ev hk, h]) k
end lw
end Go.Proofs.YtobkhnmglbfheaaDoor.SL

/-
  A SMALL LOGIC OVER THE KIT's WALK, PART Y: structs built and read; arrays cut whole.
  Conditions: none; over any program.
-/
namespace Go.Proofs.YtobkhnmglbfheaaDoor.SL
set_option linter.unusedVariables false
set_option linter.unusedSimpArgs false
open Go Go.RowKit
theorem mapM_sizes {P : Program} {w : World} : ∀ (fs : List Field) (pl : List (Nat × Nat)), (fs.mapM fun f => (P.info? f.type).map fun i => (f.offset, i.size)) = some pl →
    (fs.mapM fun f => (do pure (f.offset, ← sizeOf f.type) : Sem (Nat × Nat))).run P w = .ok pl w
  | [], pl, h => by simp at h; subst h; rfl
  | f :: fs, pl, h => by
    rw [List.mapM_cons] at h ⊢
    cases hi : P.info? f.type with
    | none => rw [hi] at h; cases h
    | some i =>
      rw [hi] at h
      cases hr : (fs.mapM fun f => (P.info? f.type).map fun i => (f.offset, i.size)) with
      | none => rw [hr] at h; cases h
      | some r =>
        rw [hr] at h
        have ih := mapM_sizes (P := P) (w := w) fs r hr
        have he : pl = (f.offset, i.size) :: r := by simpa using h.symm
        subst he
        have hs : (sizeOf f.type).run P w = .ok i.size w := by simp [sizeOf, typeInfo, Sem.run_bind, hi]
        simp only [Sem.run_bind, hs, Result.andThen_ok, Sem.run_pure, ih]
def fillP (pl : List (Nat × Nat)) : Array Value → List (Nat × Value) → Array Value
  | z, [] => z
  | z, (i, v) :: r => match pl[i]? with
    | some (off, _) => fillP pl (wrCells z off v.cells.toList) r
    | none => z
def fillPok (pl : List (Nat × Nat)) (len : Nat) : List (Nat × Value) → Bool
  | [] => true
  | (i, v) :: r => match pl[i]? with
    | some (off, n) => Nat.beq v.cells.size n && Nat.ble (off + n) len && fillPok pl len r
    | none => false
theorem fillP_eq {pl : List (Nat × Nat)} : ∀ (parts : List (Nat × Value)) (z : Array Value), fillPok pl z.size parts = true → Instr.fill (pl[·]?) z parts = some (fillP pl z parts)
  | [], z, _ => rfl
  | (i, v) :: r, z, h => by
    unfold fillPok at h
    unfold Instr.fill fillP
    cases hp : pl[i]? with
    | none => rw [hp] at h; cases h
    | some q =>
      obtain ⟨off, n⟩ := q
      rw [hp] at h
      simp only [Bool.and_eq_true, Nat.beq_eq] at h
      obtain ⟨⟨h1, h2⟩, h3⟩ := h
      have h2 := Nat.le_of_ble_eq_true h2
      have hf : (v.cells.zipIdx.foldl (fun cs (p : Value × Nat) => cs.setIfInBounds (off + p.2) p.1) z) = wrCells z off v.cells.toList := by
        have := foldl_wr v.cells.toList z off 0
        rw [← Array.foldl_toList]
        simpa using this
      have ih := fillP_eq (pl := pl) r (wrCells z off v.cells.toList) (by rw [wrCells_size]; exact h3)
      simp only
      rw [if_neg (by simp [h1]; omega)]
      exact (congrArg (fun q => Instr.fill (pl[·]?) q r) hf).trans ih
section st
variable {P : Program} {e : Env} {T : TypeId} {x : Operand}
theorem ValP.buildT {nT : Nat} {z : Array Value} {parts : Array (Nat × Operand)} {pl : List (Nat × Nat)} {vs : List (Nat × Value)} {c : Array Value} (hS : StrI P T pl) (hI : InfoI P T nT (.agg z)) (hp : PartsOk e parts.toList vs)
    (hok : fillPok pl z.size vs = true) (hcc : fillP pl z vs = c) : ValP P e [] (.build T parts) (.agg c) := fun ρ w hρ _ d t pos af g => by
  have hc : Instr.fill (pl[·]?) z vs = some c := by rw [fillP_eq vs z hok, hcc]
  have h1 : (parts.map fun p => (p.1, ρ p.2)).toList = vs := by simpa using hp.map hρ
  have h2 : (Value.agg z).cells = z := rfl
  have hs := hS.str
  unfold strOf at hs
  split at hs
  · rename_i fs hu
    have hm := mapM_sizes (P := P) (w := w) fs.toList pl hs
    have hm2 : (fs.mapM fun f => (do pure (f.offset, ← sizeOf f.type) : Sem (Nat × Nat))).run P w = .ok pl.toArray w := by
      rw [Array.mapM_eq_mapM_toList]
      show ((fs.toList.mapM fun f => (do pure (f.offset, ← sizeOf f.type) : Sem (Nat × Nat))) >>= fun l => pure l.toArray).run P w = _
      simp only [Sem.run_bind, hm, Result.andThen_ok, Sem.run_pure]
    have h4 : (Instr.build T (parts.map fun p => (p.1, ρ p.2))).run P w = .ok (.agg c) w := by
      unfold Instr.build
      simp only [Sem.run_bind, run_zero, Result.andThen_ok, run_underlying hu, hm2, h1, h2]
      have : Instr.fill (fun i => pl.toArray[i]?) z vs = some c := by simpa using hc
      simp only [this, Sem.run_pure]
    simp only [execOp]
    exact (show ((do pure (.value (← Instr.build T (parts.map fun p => (p.1, ρ p.2)))) : Sem Next)).run P w = .ok (.value (.agg c)) w by simp [h4])
  · cases hs
/-- A field of one cell. -/
theorem ValP.field1 {i fo : Nat} {ft : TypeId} {cs : Array Value} {v : Value} (hF : FldI P T i fo ft) (hA : AgI P ft false) (hx : e.ev x = some (.agg cs)) (hv : nth cs.toList fo = some v) : ValP P e [] (.field T x i) v := fun ρ w hρ _ d t pos af g => by
  obtain ⟨fs, f, h1, h2, h3, h4⟩ := hF.fld
  subst h3; subst h4
  have h5 : cs[f.offset]? = some v := by rw [nth_eq] at hv; simpa using hv
  simp [execOp, hρ x _ hx, Instr.field, Sem.run_bind, run_underlying h1, h2, asAgg, part, run_isAgg, h5]
/-- A field of parts. -/
theorem ValP.fieldA {i fo n : Nat} {ft : TypeId} {cs c : Array Value} {z : Value} (hF : FldI P T i fo ft) (hA : AgI P ft true) (hI : InfoI P ft n z) (hx : e.ev x = some (.agg cs)) (hv : cs.extract fo (fo + n) = c) : ValP P e [] (.field T x i) (.agg c) := fun ρ w hρ _ d t pos af g => by
  obtain ⟨fs, f, h1, h2, h3, h4⟩ := hF.fld
  subst h3; subst h4
  simp [execOp, hρ x _ hx, Instr.field, Sem.run_bind, run_underlying h1, h2, asAgg, part, run_isAgg, run_size, hv]
/-- arr[:] of an array's address. -/
theorem ValP.cutArrAll {n sz b off : Nat} {E : TypeId} {z : Value} (hU : UnI P T (.array n E)) (hI : InfoI P E sz z) (hx : e.ev x = some (.pointer (some ⟨b, off, none⟩))) : ValP P e [] (.slice T x none none none) (.slice (some ⟨b, off, none⟩) n n) := fun ρ w hρ _ d t pos af g => by
  have hu := hU.un
  have h1 : (Instr.sliceAt T (.pointer (some ⟨b, off, none⟩)) none none none).run P w = .ok (.slice (some ⟨b, off, none⟩) n n) w := by
    have hal : P.arrayLen T = n := by rw [Program.arrayLen, hu]
    have hel : P.elem T = E := by rw [Program.elem, hu]
    have h2 := run_sliceAt_array_all (P := P) w T ⟨b, off, none⟩ (by rw [hal, hel]; exact hu)
    rw [hel, run_size, hal] at h2
    rw [h2]
    simp only [Result.andThen_ok, slicedAt, Nat.zero_mul, Nat.sub_zero]
    simp [Addr.add]
  simp [execOp, hρ x _ hx, h1]
end st
end Go.Proofs.YtobkhnmglbfheaaDoor.SL

/-
  A SMALL LOGIC OVER THE KIT's WALK, PART Z: slices laid of many; rows of numbers.
  Conditions: none; over any program.
-/
namespace Go.Proofs.YtobkhnmglbfheaaDoor.SL
set_option linter.unusedVariables false
set_option linter.unusedSimpArgs false
open Go Go.RowKit
theorem NewP.buildSN {P : Program} {e : Env} {T E size len : Nat} {z : Value} {parts : Array (Nat × Operand)} {vs : List (Nat × Value)} {c : Array Value} (hU : UnI P T (.slice E)) (hI : InfoI P E size z) (hp : PartsOk e parts.toList vs) (hl : Nat.blt 0 (len * size) = true) (hl' : Nat.ble (len * size) 1000000 = true)
    (hok : fillOk size ((Array.range (len * size)).map (z.cells[· % z.cells.size]!)).size vs = true) (hc : fillC size ((Array.range (len * size)).map (z.cells[· % z.cells.size]!)) vs = c) : NewP P e (.buildSlice T len parts) (.sl len len) (.cells c E (0, 0)) := fun ρ w hρ d t pos af g => by
  have h0 : 0 < len * size := by simpa [Nat.blt_eq] using hl
  have h1 := Nat.le_of_ble_eq_true hl'
  have hf := fill_eq (sz := size) vs _ hok
  rw [hc] at hf
  have hpm : (parts.map fun p => (p.1, ρ p.2)).toList = vs := by simpa using hp.map hρ
  have hr : (Instr.buildSlice T len (parts.map fun p => (p.1, ρ p.2))).run P w = .ok ((Sh.sl len len).val w.heap.size) (w.alloc (.cells c E (0, 0))) := by
    unfold Instr.buildSlice
    simp only [Sem.run_bind, run_un, run_size, Result.andThen_ok]
    have hne : ¬ (len * size > 2 ^ 24) := by omega
    have hnz : ¬ (len * size = 0) := by omega
    simp only [hne, hnz, if_false, Sem.run_bind, run_zero, Result.andThen_ok, Sem.run_pure, hpm, hf]
    simp [newRow, Sh.val]
  simp only [execOp]
  exact (show ((do pure (.value (← Instr.buildSlice T len (parts.map fun p => (p.1, ρ p.2)))) : Sem Next)).run P w = _ by simp only [Sem.run_bind, hr]; rfl)
/-- The cells of numbers. -/
def ncs (l : List Nat) : List Value := l.flatMap fun (x : Nat) => [Value.int .u64 (x : Int)]
theorem ncs_one (l : List Nat) : ∀ x ∈ l, ([Value.int .u64 (x : Int)] : List Value).length = 1 := fun _ _ => rfl
theorem ncs_map (l : List Nat) : ncs l = l.map fun (x : Nat) => Value.int .u64 (x : Int) := by
  induction l with
  | nil => rfl
  | cons a l ih => simp [ncs] at *; exact ih
theorem ncs_len (l : List Nat) : (ncs l).length = l.length := by rw [ncs_map, List.length_map]
/-- A whole block read as a row. -/
theorem row_cells {w : World} {b n sz : Nat} {cs : Array Value} {E : TypeId} {fr : Nat × Nat} {xs : List Value} (hb : w.heap[b]? = some (.cells cs E fr)) (hx : cs.toList = xs) (hl : xs.length = n * sz) (hn : n ≤ maxLen) : RowAt w sz (.slice (some ⟨b, 0, none⟩) n n) n xs :=
  ⟨⟨_, _, rfl, Nat.le_refl _, hn⟩, hl, fun _ => ⟨b, 0, n, cs, E, fr, rfl, hb, by rw [List.drop_zero, hx, ← hl]; exact List.take_length⟩, .own hb⟩
end Go.Proofs.YtobkhnmglbfheaaDoor.SL

/-
  A SMALL LOGIC OVER THE KIT's WALK, PART MA: min and max of three.
  Conditions: none; over any program.
-/
namespace Go.Proofs.YtobkhnmglbfheaaDoor.SL
set_option linter.unusedVariables false
set_option linter.unusedSimpArgs false
open Go Go.RowKit
section mm
variable {P : Program} {e : Env} {ik : IntKind} {m n k : Nat} {x y z : Operand} {tys : Array TypeId}
end mm
end Go.Proofs.YtobkhnmglbfheaaDoor.SL

/-
  A SMALL LOGIC OVER THE KIT's WALK, PART MB: rows of two words and a truth value; rows of three truth values.
  Conditions: none; over any program.
-/
namespace Go.Proofs.YtobkhnmglbfheaaDoor.SL
set_option linter.unusedVariables false
set_option linter.unusedSimpArgs false
open Go Go.RowKit
end Go.Proofs.YtobkhnmglbfheaaDoor.SL

/-
  A SMALL LOGIC OVER THE KIT's WALK, PART MC: arrays of numbers, read and written at told places.
  Conditions: none; over any program.
-/
namespace Go.Proofs.YtobkhnmglbfheaaDoor.SL
set_option linter.unusedVariables false
set_option linter.unusedSimpArgs false
open Go Go.RowKit
/-- An array of numbers. -/
def nca (L : List Nat) : Array Value := (ncs L).toArray
theorem nca_size (L : List Nat) : (nca L).size = L.length := by simp [nca, ncs_len]
theorem nca_get (L : List Nat) (i : Nat) (hi : i < L.length) : (nca L)[i]? = some (.int .u64 ((L.getD i 0 : Nat) : Int)) := by
  simp [nca, ncs_map, hi, List.getD_eq_getElem?_getD]
theorem nth_nca (L : List Nat) (i : Nat) (hi : i < L.length) : nth (nca L).toList i = some (.int .u64 ((L.getD i 0 : Nat) : Int)) := by
  rw [nth_eq]; simpa using nca_get L i hi
section rd
variable {P : Program} {T E : TypeId} {fr : Nat × Nat} {L : List Nat} {i x : Nat}
theorem rd_nca [AgI P T false] (hi : i < L.length) : Rd P T (.cells (nca L) E fr) (0 + i * 1) (.int .u64 ((L.getD i 0 : Nat) : Int)) :=
  Rd.one (by rw [Nat.zero_add, Nat.mul_one]; exact nca_get L i hi)
theorem rd_nca0 [AgI P T false] (hi : 0 < L.length) : Rd P T (.cells (nca L) E fr) (0 + 0 * 1) (.int .u64 ((L.getD 0 0 : Nat) : Int)) := rd_nca hi
theorem rd_ncaW {n : Nat} {z : Value} [AgI P T true] [InfoI P T n z] (h : L.length = n) : Rd P T (.cells (nca L) E fr) 0 (.agg (nca L)) := Rd.whole (by rw [nca_size, h])
theorem nca_set (L : List Nat) (i x : Nat) : wrCells (nca L) i [Value.int .u64 (x : Int)] = nca (L.set i x) := by
  simp [wrCells, nca, ncs_map, List.map_set]
theorem wr_nca {z : Value} [InfoI P T 1 z] (hi : i < L.length) : Wr P T (.cells (nca L) E (0, 0)) (0 + i * 1) (.int .u64 (x : Int)) (.cells (nca (L.set i x)) E (0, 0)) :=
  Wr.cells (n := 1) (z := z) rfl rfl (by rw [nca_size]; omega) (by rw [Nat.zero_add, Nat.mul_one]; exact nca_set L i x)
theorem wr_nca0 {z : Value} [InfoI P T 1 z] (hi : 0 < L.length) : Wr P T (.cells (nca L) E (0, 0)) (0 + 0 * 1) (.int .u64 (x : Int)) (.cells (nca (L.set 0 x)) E (0, 0)) := wr_nca hi
theorem wr_ncaW {n : Nat} {z : Value} {K : List Nat} [InfoI P T n z] (h : K.length = n) (h2 : L.length = n) : Wr P T (.cells (nca K) E (0, 0)) 0 (.agg (nca L)) (.cells (nca L) E (0, 0)) :=
  Wr.whole (by rw [nca_size, h]) (by rw [nca_size, h2]) (by simp [nca, ncs_map, Value.oneCell'])
theorem wr_ncaO {n : Nat} {z : Value} {cs : Array Value} [InfoI P T n z] (h : cs.size = n) (h2 : L.length = n) : Wr P T (.cells cs E (0, 0)) 0 (.agg (nca L)) (.cells (nca L) E (0, 0)) :=
  Wr.whole h (by rw [nca_size, h2]) (by simp [nca, ncs_map, Value.oneCell'])
end rd
end Go.Proofs.YtobkhnmglbfheaaDoor.SL

/-
  A SMALL LOGIC OVER THE KIT's WALK, PART MD: rows of bytes of our own, copy, cuts with three bounds, numbers of eight bits.
  Conditions: none; over any program.
-/
namespace Go.Proofs.YtobkhnmglbfheaaDoor.SL
set_option linter.unusedVariables false
set_option linter.unusedSimpArgs false
open Go Go.RowKit
/-- A row of bytes, whole. -/
def uca (l : List UInt8) : Array Value := (ucs l).toArray
theorem uca_size (l : List UInt8) : (uca l).size = l.length := by simp [uca, ucs_len]
theorem uca_get (l : List UInt8) (i : Nat) (hi : i < l.length) : (uca l)[i]? = some (.int .u8 ((l.getD i 0).toNat : Int)) := by
  simp [uca, ucs_map, hi, List.getD_eq_getElem?_getD]
theorem uca_set (l : List UInt8) (i x : Nat) (hx : x < 256) : wrCells (uca l) i [Value.int .u8 (x : Int)] = uca (l.set i (UInt8.ofNat x)) := by
  have h : (UInt8.ofNat x).toNat = x := by rw [UInt8.toNat_ofNat']; omega
  simp [wrCells, uca, ucs_map, List.map_set, h, Nat.mod_eq_of_lt hx]
section rd
variable {P : Program} {T E : TypeId} {fr : Nat × Nat} {l : List UInt8} {i x off : Nat}
theorem rd_uca [AgI P T false] (hi : i < l.length) : Rd P T (.cells (uca l) E fr) (0 + i * 1) (.int .u8 ((l.getD i 0).toNat : Int)) :=
  Rd.one (by rw [Nat.zero_add, Nat.mul_one]; exact uca_get l i hi)
theorem rd_ucaO [AgI P T false] (hi : off + i < l.length) : Rd P T (.cells (uca l) E fr) (off + i * 1) (.int .u8 ((l.getD (off + i) 0).toNat : Int)) :=
  Rd.one (by rw [Nat.mul_one]; exact uca_get l (off + i) hi)
theorem rd_ucaW {n : Nat} {z : Value} [AgI P T true] [InfoI P T n z] (h : l.length = n) : Rd P T (.cells (uca l) E fr) 0 (.agg (uca l)) := Rd.whole (by rw [uca_size, h])
theorem wr_uca {z : Value} [InfoI P T 1 z] (hi : i < l.length) (hx : x < 256) : Wr P T (.cells (uca l) E (0, 0)) (0 + i * 1) (.int .u8 (x : Int)) (.cells (uca (l.set i (UInt8.ofNat x))) E (0, 0)) :=
  Wr.cells (n := 1) (z := z) rfl rfl (by rw [uca_size]; omega) (by rw [Nat.zero_add, Nat.mul_one]; exact uca_set l i x hx)
theorem wr_ucaW {n : Nat} {z : Value} {k : List UInt8} [InfoI P T n z] (h : k.length = n) (h2 : l.length = n) : Wr P T (.cells (uca k) E (0, 0)) 0 (.agg (uca l)) (.cells (uca l) E (0, 0)) :=
  Wr.whole (by rw [uca_size, h]) (by rw [uca_size, h2]) (by simp [uca, ucs_map, Value.oneCell'])
theorem wr_ucaO {n : Nat} {z : Value} {cs : Array Value} [InfoI P T n z] (h : cs.size = n) (h2 : l.length = n) : Wr P T (.cells cs E (0, 0)) 0 (.agg (uca l)) (.cells (uca l) E (0, 0)) :=
  Wr.whole h (by rw [uca_size, h2]) (by simp [uca, ucs_map, Value.oneCell'])
end rd
/-- A row of ours, as one that may be read. -/
theorem own_row {w : World} {g off n c : Nat} {l : List UInt8} {E : TypeId} {fr : Nat × Nat} (h : w.heap[g]? = some (.cells (uca l) E fr)) (hn : off + n ≤ l.length) (hc : n ≤ c) (hm : c ≤ maxLen) :
    RowAt w 1 (.slice (some ⟨g, off, none⟩) n c) n (ucs ((l.drop off).take n)) :=
  ⟨⟨_, _, rfl, hc, hm⟩, by rw [ucs_len, List.length_take, List.length_drop]; omega, fun _ => ⟨g, off, c, _, E, fr, rfl, h, by simp [uca, ucs_map, List.map_drop, List.map_take]⟩, fun p k d hv => by
    cases hv; exact .inr (.inr ⟨g, off, _, rfl, h⟩)⟩
section num
variable {P : Program} {e : Env} {T ty : TypeId} {x y : Operand} {m n : Nat}
theorem ofInt8 (m : Nat) (hm : m < 256) : (BitVec.ofInt 8 (m : Int)).toNat = m := by
  simp only [BitVec.ofInt_natCast, BitVec.toNat_ofNat]; omega
theorem ValP.orB (hx : e.ev x = some (.int .u8 (m : Int))) (hy : e.ev y = some (.int .u8 (n : Int))) (hm : m < 256) (hn : n < 256) : ValP P e [] (.binOp .or T x y ty) (.int .u8 ((m ||| n : Nat) : Int)) :=
  .bin hx hy (fun w => guard_int w) fun w => by
    have h : m ||| n < 256 := Nat.or_lt_two_pow (n := 8) hm hn
    have hb : bits .or .u8 (m : Int) (n : Int) = ((m ||| n : Nat) : Int) := by
      show IntKind.u8.wrap (((BitVec.ofInt 8 (m : Int) ||| BitVec.ofInt 8 (n : Int)).toNat : Nat) : Int) = _
      rw [BitVec.toNat_or, ofInt8 m hm, ofInt8 n hn, wrapB]
      omega
    rw [binOp_or, intBits_or, hb]; rfl
theorem ValP.orBL (hx : e.ev x = some (.int .u8 (m : Int))) (hy : e.ev y = some (.int .u8 (OfNat.ofNat n))) (_ : n = n) (h0 : m < 256) (h1 : (OfNat.ofNat n : Nat) < 256) : ValP P e [] (.binOp .or T x y ty) (.int .u8 ((m ||| (OfNat.ofNat n : Nat) : Nat) : Int)) := .orB hx hy h0 h1
/-- x[i:j:k] -/
theorem ValP.cut3 {ik il im : IntKind} {E i j k c sz : Nat} {z : Value} {p : Option Addr} {lo hi mx : Operand} (hU : UnI P T (.slice E)) (hI : InfoI P E sz z) (hx : e.ev x = some (.slice p n c)) (hl : e.ev lo = some (.int il (i : Int))) (hh : e.ev hi = some (.int ik (j : Int))) (hm : e.ev mx = some (.int im (k : Int))) (h1 : i ≤ j) (h2 : j ≤ k) (h3 : k ≤ c) (h4 : i < k) :
    ValP P e [] (.slice T x (some lo) (some hi) (some mx)) (.slice (p.map (·.add (i * sz))) (j - i) (k - i)) := fun ρ w hρ _ d t pos af g => by
  have hu : P.underlying T = some (.slice E) := hU.un
  have h1 := run_slice_lhm (P := P) w T p n c (elem_un hu) il ik im (i : Int) (j : Int) (k : Int) (by omega) (by omega) (by omega) (by omega)
  rw [elem_eq hu, run_size] at h1
  have h2 : (Instr.sliceAt T (.slice p n c) (some (.int il (i : Int))) (some (.int ik (j : Int))) (some (.int im (k : Int)))).run P w = .ok (.slice (p.map (·.add (i * sz))) (j - i) (k - i)) w := by
    rw [run_sliceAt_slice (w := w) T _ _ _ _ (elem_un hu), h1]
    simp only [Result.andThen_ok, sliced, Int.toNat_natCast]
    rw [if_neg (by omega)]
  simp [execOp, hρ x _ hx, hρ lo _ hl, hρ hi _ hh, hρ mx _ hm, h2]
end num
theorem put_same {w : World} {g : Nat} {o : Obj} (h : w.heap[g]? = some o) : w.putObj g o = w := by
  obtain ⟨hlt, rfl⟩ := Array.getElem?_eq_some_iff.1 h
  simp [World.putObj, Array.setIfInBounds, hlt]
theorem setRow_put {w : World} {g : Nat} {cs cur : Array Value} {E : TypeId} (h : w.heap[g]? = some (.cells cur E (0, 0))) : w.setRow g cs = w.putObj g (.cells cs E (0, 0)) := by
  unfold World.setRow World.putObj
  have hlt := (Array.getElem?_eq_some_iff.1 h).1
  congr 1
  apply Array.ext_getElem?
  intro i
  by_cases hi : g = i
  · subst hi; rw [Array.getElem?_modify, if_pos rfl, h]; simp [hlt]
  · simp [Array.getElem?_modify, hi]
section dw
variable {C : Cu} {ops : Array Oper} {Q : Post} {tl rest : List Oper} {e : Env} {ts : Ts} {μ : Mu} {k d : Nat} {op : Op} {t : TypeId} {pos : String} {af : Array Edge} {g : Option (Nat × Bool)}
end dw
section lw
variable {C : Cu} {ops : Array Oper} {Q : Post} {rest : List Oper} {e : Env} {fs : Fs} {d : Nat} {t : TypeId} {pos : String} {af : Array Edge}
/-- **make** of n elements of one cell each: a row of ours, told. -/
theorem LW.makeOwn {T E bytes : Nat} {z : Value} {x : Operand} {ik : IntKind} {n : Nat} (hd : Nat.blt d C.N = true) (hU : UnI C.P T (.slice E)) (hI : InfoI C.P E 1 z) (hB : BytI C.P E bytes) (hz : z.cells = #[z]) (hx : e.ev x = some (.int ik (n : Int))) (hb : n * bytes ≤ 281474976710656) (h63 : n ≤ maxLen)
    (k : ∀ g, LW C ops Q rest ((d, .slice (some ⟨g, 0, none⟩) n n) :: e) ((g, .cells (List.replicate n z).toArray E (0, 0)) :: fs)) : LW C ops Q (⟨some d, .makeSlice T x x, t, pos, af, none⟩ :: rest) e fs :=
  LW.n0 hd rfl (.makeSlice hU hI hB hx hb (by simpa [maxLen] using h63)) fun g => by
    have h : madeCells z.cells (n * 1) = (List.replicate n z).toArray := by rw [← made_one hz]
    rw [h]; exact k g
/-- **copy(x, y)**: x a row of ours, y a row that may be read, not longer. -/
theorem LW.copyAt {x y : Operand} {tys : Array TypeId} {T E bytes : TypeId} {z vx : Value} {g off dLen dCap m : Nat} {cur : Array Value} {E' : TypeId} {news : List Value} {fs' : Fs} (hd : Nat.blt d C.N = true) (hT : tys = #[T, T]) (hU : UnI C.P T (.slice E)) (hI : InfoI C.P E 1 z) (hB : BytI C.P E bytes)
    (hx : e.ev x = some (.slice (some ⟨g, off, none⟩) dLen dCap)) (hy : e.ev y = some vx) (hat : ∀ w, St C.w0 C.S fs w → RowAt w 1 vx m news) (h1 : ∀ u ∈ news, u.oneCell' = true) (hm : m ≤ dLen) (hfit : off + m ≤ cur.size)
    (hset : SetAt fs g (.cells cur E' (0, 0)) (.cells (cur.toList.take off ++ news ++ cur.toList.drop (off + m)).toArray E' (0, 0)) fs')
    (k : LW C ops Q rest ((d, .int .i64 (m : Int)) :: e) fs') :
    LW C ops Q (⟨some d, .call { callee := .builtin .copy, args := #[x, y], argTypes := tys }, t, pos, af, none⟩ :: rest) e fs := by
  subst hT
  refine LW.valset hd (fun c h => by cases h) hset (fun a w hs hg => ?_) k
  have hA := hat w hs.st
  have hl : news.length = m := by have := hA.len; omega
  have hsz : (C.P.info? E).map (·.size) = some 1 := by
    obtain ⟨i, i1, i2, i3, i4⟩ := info_all (P := C.P) (T := E); rw [i1]; simp [i2]
  rcases Nat.eq_zero_or_pos m with h0 | h0
  · subst h0
    obtain ⟨p, c, rfl, _, _⟩ := hA.form
    have hn : news = [] := List.length_eq_zero_iff.1 (by omega)
    have hrun := run_copy_none (P := C.P) w T T t E (some ⟨g, off, none⟩) p dLen dCap 0 c hU.un hsz (Nat.zero_min _)
    have e1 : (Obj.cells (cur.toList.take off ++ news ++ cur.toList.drop (off + 0)).toArray E' (0, 0)) = .cells cur E' (0, 0) := by rw [hn]; simp
    rw [e1]
    have hput : w.putObj g (.cells cur E' (0, 0)) = w := put_same hg
    rw [hput]
    simp [execOp, resolve, invoke, builtin, hs.env.ev hx, hs.env.ev hy, hrun, goInt]
  · obtain ⟨b, o2, c, cs, E2, fr, rfl, hblk, hnx⟩ := hA.pos h0
    have hrun := run_copy_row (P := C.P) w T T t E g off dLen dCap ⟨b, o2, none⟩ m c cur E' news hU.un hsz hg (by rw [hl]; exact (Nat.min_eq_left hm).symm) (fun j u hj => by
      rw [addr_add, cell_of hblk]; exact cut_get hnx hj) (by rw [hl]; exact hfit) h1
    rw [hl] at hrun
    have hput : w.setRow g (cur.toList.take off ++ news ++ cur.toList.drop (off + m)).toArray = w.putObj g (.cells (cur.toList.take off ++ news ++ cur.toList.drop (off + m)).toArray E' (0, 0)) := setRow_put hg
    rw [hput] at hrun
    simp [execOp, resolve, invoke, builtin, hs.env.ev hx, hs.env.ev hy, hrun, goInt]
end lw
end Go.Proofs.YtobkhnmglbfheaaDoor.SL

/-
  A SMALL LOGIC OVER THE KIT's WALK, PART ME: the bytes of a string, laid anew.
  Conditions: none; over any program.
-/
namespace Go.Proofs.YtobkhnmglbfheaaDoor.SL
set_option linter.unusedVariables false
set_option linter.unusedSimpArgs false
open Go Go.RowKit
section lw
variable {C : Cu} {ops : Array Oper} {Q : Post} {rest : List Oper} {e : Env} {fs : Fs} {d : Nat} {t : TypeId} {pos : String} {af : Array Edge}
end lw
end Go.Proofs.YtobkhnmglbfheaaDoor.SL

/-
  A SMALL LOGIC OVER THE KIT's WALK, PART MF: arrays of bytes and of numbers compared.
  Conditions: none; over any program.
-/
namespace Go.Proofs.YtobkhnmglbfheaaDoor.SL
set_option linter.unusedVariables false
set_option linter.unusedSimpArgs false
open Go Go.RowKit
variable {P : Program} {e : Env}
section eqs
variable {T ty n : Nat} {k : IntKind} {x y : Operand}
variable {a b : List UInt8} {l m : List Nat}
end eqs
section sli
variable {T ty : TypeId} {x y : Operand} {n c : Nat}
theorem guard_sli {op : BinOp} {p : Option Addr} {v : Value} (w : World) : (eqGuard op T x y (.slice p n c) v).run P w = .ok () w := by
  unfold eqGuard; cases op <;> cases v <;> simp
theorem eqIn_ln {E : TypeId} [UnI P T (.slice E)] (d : Nat) (w : World) : (Op.equalIn (d + 1) T (.slice none n c) (.slice none 0 0)).run P w = .ok true w := by
  rw [Op.equalIn.eq_def]; simp only [Sem.run_bind, run_un (P := P) (T := T), Result.andThen_ok]; rfl
theorem eqIn_ls {E : TypeId} {a : Addr} [UnI P T (.slice E)] (d : Nat) (w : World) : (Op.equalIn (d + 1) T (.slice (some a) n c) (.slice none 0 0)).run P w = .ok false w := by
  rw [Op.equalIn.eq_def]; simp only [Sem.run_bind, run_un (P := P) (T := T), Result.andThen_ok]; rfl
theorem ValP.sliNilT {E : TypeId} [UnI P T (.slice E)] (hx : e.ev x = some (.slice none n c)) (hy : e.ev y = some (.slice none 0 0)) : ValP P e [] (.binOp .eql T x y ty) (.bool true) :=
  .bin hx hy (fun w => guard_sli w) fun w => by
    have := eqIn_ln (P := P) (T := T) (n := n) (c := c) (Op.maxDepth - 1) w
    simp only [binOp, Op.equal, Sem.run_bind]
    rw [show Op.maxDepth = Op.maxDepth - 1 + 1 from rfl, this]; rfl
theorem ValP.sliNilF {E : TypeId} {a : Addr} [UnI P T (.slice E)] (hx : e.ev x = some (.slice (some a) n c)) (hy : e.ev y = some (.slice none 0 0)) : ValP P e [] (.binOp .eql T x y ty) (.bool false) :=
  .bin hx hy (fun w => guard_sli w) fun w => by
    have := eqIn_ls (P := P) (T := T) (a := a) (n := n) (c := c) (Op.maxDepth - 1) w
    simp only [binOp, Op.equal, Sem.run_bind]
    rw [show Op.maxDepth = Op.maxDepth - 1 + 1 from rfl, this]; rfl
end sli
end Go.Proofs.YtobkhnmglbfheaaDoor.SL

/-
  A SMALL LOGIC OVER THE KIT's WALK, PART MG: cuts from a place on, told.
  Conditions: none; over any program.
-/
namespace Go.Proofs.YtobkhnmglbfheaaDoor.SL
set_option linter.unusedVariables false
set_option linter.unusedSimpArgs false
open Go Go.RowKit
variable {P : Program} {e : Env}
section cut
variable {T E x y lo : Nat}
end cut
end Go.Proofs.YtobkhnmglbfheaaDoor.SL

/-
  A SMALL LOGIC OVER THE KIT's WALK, PART MH: bits that are cleared; bits of signed numbers.
  Conditions: none; over any program.
-/
namespace Go.Proofs.YtobkhnmglbfheaaDoor.SL
set_option linter.unusedVariables false
set_option linter.unusedSimpArgs false
open Go Go.RowKit
section num
variable {P : Program} {e : Env} {T ty : TypeId} {x y : Operand} {m n : Nat}
end num
end Go.Proofs.YtobkhnmglbfheaaDoor.SL

/-
  A SMALL LOGIC OVER THE KIT's WALK, PART MI: append in a region that draws its order.
  Conditions: none; over any program.
-/
namespace Go.Proofs.YtobkhnmglbfheaaDoor.SL
set_option linter.unusedVariables false
set_option linter.unusedSimpArgs false
open Go Go.RowKit
/-- Facts with their marks. -/
def tsTag (ws rs : List Nat) (gs : Fs) : Ts := gs.map fun p => (p.1, p.2, ws, rs)
theorem fsOf_tag {ws rs : List Nat} {gs : Fs} : fsOf (tsTag ws rs gs) = gs := by
  simp only [fsOf, tsTag, List.map_map]
  conv => rhs; rw [← List.map_id gs]
  rfl
/-- A row's facts, taken out. -/
inductive TOut (ops : Array Oper) (k : Nat) : Ts → Fs → List Nat → List Nat → Ts → Prop
  | nil {ts : Ts} : TOut ops k ts [] [] [] ts
  | one {b : Nat} {o : Obj} {ws rs : List Nat} {r : Ts} (h : ancB ops k ws = true) (h' : ancB ops k rs = true) : TOut ops k ((b, o, ws, rs) :: r) [(b, o)] ws rs r
  | old {seg : Fs} {r : Ts} : TOut ops k (tsOf seg ++ r) seg [] [] r
  | new {j : Nat} {seg : Fs} {r : Ts} (h : ancB ops k [j] = true) : TOut ops k (tsNew j seg ++ r) seg [j] [] r
  | tag {seg : Fs} {ws rs : List Nat} {r : Ts} (h : ancB ops k ws = true) (h' : ancB ops k rs = true) : TOut ops k (tsTag ws rs seg ++ r) seg ws rs r
  | cons {p : Nat × Obj × List Nat × List Nat} {ts r : Ts} {seg : Fs} {ws rs : List Nat} (h : TOut ops k ts seg ws rs r) : TOut ops k (p :: ts) seg ws rs (p :: r)
  | app {l ts r : Ts} {seg : Fs} {ws rs : List Nat} (h : TOut ops k ts seg ws rs r) : TOut ops k (l ++ ts) seg ws rs (l ++ r)
theorem TOut.spec {ops : Array Oper} {k : Nat} {ts r : Ts} {seg : Fs} {ws rs : List Nat} (h : TOut ops k ts seg ws rs r) : (tsTag ws rs seg ++ r).Perm ts ∧ ancB ops k ws = true ∧ ancB ops k rs = true := by
  induction h with
  | nil => exact ⟨by simp [tsTag], ancB_nil, ancB_nil⟩
  | one h h' => exact ⟨by simp [tsTag], h, h'⟩
  | old => exact ⟨by simp [tsTag, tsOf], ancB_nil, ancB_nil⟩
  | new h => exact ⟨by simp [tsTag, tsNew], h, ancB_nil⟩
  | tag h h' => exact ⟨.refl _, h, h'⟩
  | cons h ih => exact ⟨List.perm_middle.trans (ih.1.cons _), ih.2⟩
  | @app l ts r seg ws rs h ih =>
    refine ⟨?_, ih.2⟩
    have : (tsTag ws rs seg ++ (l ++ r)).Perm (l ++ (tsTag ws rs seg ++ r)) := by
      rw [← List.append_assoc, ← List.append_assoc]
      exact List.Perm.append_right _ List.perm_append_comm
    exact this.trans (ih.1.append_left _)
theorem ReadAll.fsts {C : Cu} {ops : Array Oper} {k : Nat} {bs : List Nat} {ts ts' : Ts} {us : Fs} (h : ReadAll C ops k bs ts us ts') : ts'.map (·.1) = ts.map (·.1) := by
  induction h with
  | nil => rfl
  | own h _ ih => rw [ih, h.fsts]
  | ext _ _ _ ih => exact ih
theorem mem_fst {ts ts' : Ts} (h : ts'.map (·.1) = ts.map (·.1)) {p : Nat × Obj × List Nat × List Nat} (hp : p ∈ ts') : ∃ q ∈ ts, q.1 = p.1 := by
  have : p.1 ∈ ts.map (·.1) := by rw [← h]; exact List.mem_map.2 ⟨p, hp, rfl⟩
  obtain ⟨q, hq, he⟩ := List.mem_map.1 this
  exact ⟨q, hq, he⟩
theorem upds_in {φ : Facts} {gs : Fs} (hn : gs.Pairwise fun p q => p.1 ≠ q.1) : ∀ q ∈ gs, upds φ gs q.1 = some q.2 := by
  induction gs with
  | nil => intro q hq; cases hq
  | cons x l ih =>
    intro q hq
    obtain ⟨n1, n2⟩ := List.pairwise_cons.1 hn
    simp only [upds]
    rcases List.mem_cons.1 hq with rfl | hq
    · exact upd_same _ _ _
    · rw [upd_other _ _ (fun e => n1 q hq e.symm)]; exact ih n2 q hq
section dw
variable {C : Cu} {ops : Array Oper} {Q : Post} {tl rest : List Oper} {e : Env} {ts : Ts} {μ : Mu} {k d : Nat} {t : TypeId} {pos : String} {af : Array Edge} {g : Option (Nat × Bool)}
theorem IsRow.blocks {E : TypeId} {size n : Nat} {v : Value} {xs : List Value} {seg : Fs} (hrow : IsRow E size v n xs seg) (h0 : v = .slice none 0 0 ∨ 0 < n) : blocksN 4 v = keys seg ∧ blocksN 1 v = keys seg := by
  cases hrow with
  | nil => exact ⟨rfl, rfl⟩
  | @own gg _ cap cur _ hn _ _ _ _ =>
    have hc : cap ≠ 0 := by
      rcases h0 with h0 | h0
      · cases h0
      · omega
    exact ⟨by simp [blocksN, hc, keys], by simp [blocksN, hc, keys]⟩
/-- An operation that lays rows anew, in whatever order. -/
theorem DW.moveG {o : Oper} {bl : List Nat} {M : Value → Fs → Prop} {seg us2 : Fs} {ws rs : List Nat} {ts1 ts2 : Ts} (hk : ops[k]? = some o) (hdst : o.dst = some d) (hd : Nat.blt d C.N = true)
    (htch0 : ∀ a, EnvOk C.N C.ds e a → tch ops o a = keys seg ++ bl) (hmv0 : ∀ a, EnvOk C.N C.ds e a → mvE (flg (μ k)) ops o a = keys seg) (hout : TOut ops k ts seg ws rs ts1) (hra : ReadAll C ops k bl ts1 us2 ts2)
    (hcl : ∀ a φ, EnvOk C.N C.ds e a → (∀ q ∈ seg, φ q.1 = some q.2 ∧ (C.w0.heap.size ≤ q.1 ∨ q.1 ∈ C.S)) → seg.Pairwise (fun p q => p.1 ≠ q.1) → (∀ w, C.cx.on φ bl w → ∀ p ∈ us2, w.heap[p.1]? = some p.2) → CanMk C.cx ops (μ k) φ o a M)
    (kk : ∀ v' seg', M v' seg' → DW C ops μ Q tl rest (k + 1) ((d, v') :: e) (tsTag (k :: ws) (k :: rs) seg' ++ ts2)) :
    DW C ops μ Q tl (o :: rest) k e ts := by
  intro a φ tw tr ha hrel hinv
  obtain ⟨hperm, hws, hrs⟩ := hout.spec
  have htch := htch0 a ha
  have hmvE := hmv0 a ha
  have hin : ∀ q ∈ seg, (q.1, q.2, ws, rs) ∈ ts := fun q hq => hperm.subset (List.mem_append_left _ (List.mem_map.2 ⟨q, hq, rfl⟩))
  have hsub : ∀ p ∈ ts1, p ∈ ts := fun p hp => hperm.subset (List.mem_append_right _ hp)
  have hnd : (tsTag ws rs seg ++ ts1).Pairwise fun p q => p.1 ≠ q.1 := hperm.symm.pairwise hrel.nd (fun h e => h e.symm)
  obtain ⟨nd1, nd2, nd3⟩ := List.pairwise_append.1 hnd
  have hdis : ∀ q ∈ seg, ∀ p ∈ ts1, p.1 ≠ q.1 := fun q hq p hp e => nd3 (q.1, q.2, ws, rs) (List.mem_map.2 ⟨q, hq, rfl⟩) p hp e.symm
  have hks : ∀ b ∈ keys seg, ∃ q ∈ seg, q.1 = b := fun b hb => by obtain ⟨q, hq, he⟩ := List.mem_map.1 hb; exact ⟨q, hq, he⟩
  have hφs : ∀ q ∈ seg, φ q.1 = some q.2 := fun q hq => hrel.fsome _ (hin q hq)
  have hrel1 : Rel C.w0.heap.size ts1 φ tw (addT tr (keys seg) k) := by
    refine ⟨fun p hp => hrel.fsome p (hsub p hp), fun p hp j hj => hrel.ftw p (hsub p hp) j hj, fun p hp j hj => ?_, hrel.old, fun b hb hB j hj => ?_, nd2⟩
    · rcases hj with hj | ⟨_, hj⟩
      · exact hrel.ftr p (hsub p hp) j hj
      · obtain ⟨q, hq, he⟩ := hks _ hj
        exact absurd he.symm (hdis q hq p hp)
    · rcases hj with hj | ⟨_, hj⟩
      · exact hrel.oldr b hb hB j hj
      · obtain ⟨q, hq, rfl⟩ := hks _ hj
        rw [hφs q hq] at hb; cases hb
  obtain ⟨i1, i2, i3⟩ := hra.rel hinv hrel1
  have hts2 : ∀ p ∈ ts2, ∀ q ∈ seg, p.1 ≠ q.1 := fun p hp q hq => by
    obtain ⟨p', hp', he⟩ := mem_fst hra.fsts hp
    rw [← he]; exact hdis q hq p' hp'
  unfold walk dOp
  simp only [hk]
  rw [htch, hmvE]
  refine ⟨fun b hb => ?_, .inr ⟨M, hcl a φ ha (fun q hq => ⟨hφs q hq, hinv q.1 (by rw [hφs q hq]; simp)⟩) ?_ (fun w hon => i3 w hon), fun b hb j hj => ?_, fun v' gs hM hf _ => ?_⟩⟩
  · rcases List.mem_append.1 hb with hb | hb
    · obtain ⟨q, hq, rfl⟩ := hks _ hb
      exact ⟨.inl (by rw [hφs q hq]; simp), fun j hj => ancB_spec hws j (hrel.ftw _ (hin q hq) j hj)⟩
    · exact i2 b hb
  · have := nd1
    simp only [tsTag, List.pairwise_map] at this
    exact this
  · obtain ⟨q, hq, rfl⟩ := hks _ hb
    exact ancB_spec hrs j (hrel.ftr _ (hin q hq) j hj)
  · have hfk : ∀ b ∈ keys gs, (φ b = none ∧ C.w0.heap.size ≤ b) ∨ b ∈ keys seg := fun b hb => (hf.1 b hb).2
    have hk2 : ∀ p ∈ ts2, p.1 ∉ keys gs := fun p hp hk' => by
      rcases hfk _ hk' with h | h
      · rw [i1.fsome p hp] at h; cases h.1
      · obtain ⟨q, hq, he⟩ := hks _ h
        exact hts2 p hp q hq he.symm
    have hup := upds_in (φ := φ) hf.2
    have hg : ∀ p ∈ tsTag (k :: ws) (k :: rs) gs, ∃ q ∈ gs, p = (q.1, q.2, k :: ws, k :: rs) := fun p hp => by
      obtain ⟨q, hq, rfl⟩ := List.mem_map.1 hp; exact ⟨q, hq, rfl⟩
    rw [hdst]
    refine kk v' gs hM _ _ _ _ (ha.put hd) ⟨fun p hp => ?_, fun p hp j hj => ?_, fun p hp j hj => ?_, fun x hx j hj => ?_, fun x hx hB j hj => ?_, ?_⟩ (inv_upds hinv (fun b hb => (hf.1 b hb).1))
    · rcases List.mem_append.1 hp with hp | hp
      · obtain ⟨q, hq, rfl⟩ := hg p hp; exact hup q hq
      · rw [upds_other (hk2 p hp)]; exact i1.fsome p hp
    · rcases List.mem_append.1 hp with hp | hp
      · obtain ⟨q, hq, rfl⟩ := hg p hp
        rcases hj with hj | ⟨rfl, _⟩
        · rcases hfk q.1 (List.mem_map.2 ⟨q, hq, rfl⟩) with h | h
          · exact absurd hj (hrel.old _ h.1 j)
          · obtain ⟨q', hq', he⟩ := hks _ h
            exact List.mem_cons_of_mem _ (hrel.ftw _ (hin q' hq') j (by rw [he]; exact hj))
        · exact List.mem_cons_self
      · rcases hj with hj | ⟨_, hj⟩
        · exact i1.ftw p hp j hj
        · rcases List.mem_append.1 hj with hj | hj
          · obtain ⟨q, hq, he⟩ := hks _ hj
            exact absurd he.symm (hts2 p hp q hq)
          · exact absurd hj (hk2 p hp)
    · rcases List.mem_append.1 hp with hp | hp
      · obtain ⟨q, hq, rfl⟩ := hg p hp
        rcases hj with hj | ⟨rfl, _⟩
        · rcases hfk q.1 (List.mem_map.2 ⟨q, hq, rfl⟩) with h | h
          · exact absurd hj (hrel.oldr _ h.1 h.2 j)
          · obtain ⟨q', hq', he⟩ := hks _ h
            exact List.mem_cons_of_mem _ (hrel.ftr _ (hin q' hq') j (by rw [he]; exact hj))
        · exact List.mem_cons_self
      · exact i1.ftr p hp j (by rw [← addT_app]; exact hj)
    · have hxk : x ∉ keys gs := fun h => upds_key h hx
      rw [upds_other hxk] at hx
      rcases hj with hj | ⟨_, hj⟩
      · exact hrel.old x hx j hj
      · rcases List.mem_append.1 hj with hj | hj
        · obtain ⟨q, hq, rfl⟩ := hks _ hj
          rw [hφs q hq] at hx; cases hx
        · exact hxk hj
    · have hxk : x ∉ keys gs := fun h => upds_key h hx
      rw [upds_other hxk] at hx
      exact i1.oldr x hx hB j (by rw [← addT_app]; exact hj)
    · refine List.pairwise_append.2 ⟨?_, i1.nd, fun p hp q hq e => ?_⟩
      · simp only [tsTag, List.pairwise_map]; exact hf.2
      · obtain ⟨q', hq', rfl⟩ := hg p hp
        exact hk2 q hq (by rw [← e]; exact List.mem_map.2 ⟨q', hq', rfl⟩)
/-- **append** in whatever order, told by what it does. -/
theorem DW.appendG {s x : Operand} {tys : Array TypeId} {v vx : Value} {M : Value → Fs → Prop} {seg us : Fs} {ws rs : List Nat} {ts1 ts2 : Ts}
    (hk : ops[k]? = some ⟨some d, .call { callee := .builtin .append, args := #[s, x], argTypes := tys }, t, pos, af, g⟩) (hm : μ k = some (cst M, false)) (hd : Nat.blt d C.N = true) (hg : WantT ops e g)
    (hs : e.ev s = some v) (hx : e.ev x = some vx) (hvk : blocksN 4 v = keys seg ∧ blocksN 1 v = keys seg) (hout : TOut ops k ts seg ws rs ts1) (hrd : RdV C ops k [vx] ts1 us ts2)
    (hrun : ∀ w, St C.w0 C.S seg w → (∀ p ∈ us, w.heap[p.1]? = some p.2) → ∃ v' seg' w', (Builtin.append_ tys t #[v, vx]).run C.P w = .ok v' w' ∧ M v' seg' ∧ St C.w0 C.S seg' w' ∧ w.heap.size ≤ w'.heap.size ∧ (∀ b, b < w.heap.size → b ∉ seg'.map (·.1) → w'.heap[b]? = w.heap[b]?) ∧ (∀ q ∈ seg', w.heap.size ≤ q.1 ∨ q.1 ∈ seg.map (·.1)))
    (kk : ∀ v' seg', M v' seg' → DW C ops μ Q tl rest (k + 1) ((d, v') :: e) (tsTag (k :: ws) (k :: rs) seg' ++ ts2)) :
    DW C ops μ Q tl (⟨some d, .call { callee := .builtin .append, args := #[s, x], argTypes := tys }, t, pos, af, g⟩ :: rest) k e ts := by
  obtain ⟨us2, hra, hus⟩ := hrd.all
  have hra : ReadAll C ops k (blocksN 4 vx) ts1 us2 ts2 := by simpa using hra
  have hmvB : ∀ a : Act, EnvOk C.N C.ds e a → mvB false ⟨some d, .call { callee := .builtin .append, args := #[s, x], argTypes := tys }, t, pos, af, g⟩ a.eval = blocksN 1 v := fun a ha => by
    show (match (#[s, x] : Array Operand)[0]? with | some x => blocksN 1 (a.eval x) | none => []) = _
    simp [ha.Ev s v hs]
  refine DW.moveG (M := M) hk rfl hd (fun a ha => ?_) (fun a ha => ?_) hout hra (fun a φ ha hseg hnd hus3 => ?_) kk
  · have hw := WantT.wanted (o := ⟨some d, .call { callee := .builtin .append, args := #[s, x], argTypes := tys }, t, pos, af, g⟩) hg ha
    rw [tch_want hw, ← hvk.1]
    show ((#[] ++ #[s, x] : Array Operand).toList.flatMap fun y => blocksN 4 (a.eval y)) = _
    simp [ha.Ev s v hs, ha.Ev x vx hx]
  · have hw := WantT.wanted (o := ⟨some d, .call { callee := .builtin .append, args := #[s, x], argTypes := tys }, t, pos, af, g⟩) hg ha
    rw [hm]; unfold mvE; rw [if_pos hw, ← hvk.2]; exact hmvB a ha
  · have hw := WantT.wanted (o := ⟨some d, .call { callee := .builtin .append, args := #[s, x], argTypes := tys }, t, pos, af, g⟩) hg ha
    have hes := ha.Ev s v hs
    have hex := ha.Ev x vx hx
    have htch : touch ⟨some d, .call { callee := .builtin .append, args := #[s, x], argTypes := tys }, t, pos, af, g⟩ a.eval = keys seg ++ blocksN 4 vx := by
      rw [← hvk.1]
      show ((#[] ++ #[s, x] : Array Operand).toList.flatMap fun y => blocksN 4 (a.eval y)) = _
      simp [hes, hex]
    refine ⟨hw, .inr ⟨⟨cst M, by rw [hm]; rfl, rfl⟩, .inr fun w hon => ?_⟩⟩
    rw [htch] at hon
    have hst : St C.w0 C.S seg w := ⟨hon.1, fun q hq => ⟨(hseg q hq).2, hon.2 q.1 (List.mem_append_left _ (List.mem_map.2 ⟨q, hq, rfl⟩)) _ (hseg q hq).1⟩, hnd⟩
    obtain ⟨v', seg', w', hr, hM, hst', g1, g2, g3⟩ := hrun w hst (fun p hp => hus3 w ⟨hon.1, fun y hy o ho => hon.2 y (List.mem_append_right _ hy) o ho⟩ p (hus p hp))
    refine ⟨v', seg', w', ?_, hM, hst'.bel, g1, g2, fun q hq => ⟨(hst'.own q hq).2, ?_, ?_⟩, hst'.nd⟩
    · show (execOp a.eval ⟨some d, .call { callee := .builtin .append, args := #[s, x], argTypes := tys }, t, pos, af, g⟩).run C.P w = .ok (.value v') w'
      simp [execOp, resolve, invoke, builtin, hes, hex, hr]
    · exact (hst'.own q hq).1
    · rw [hm, show mvB (flg (some (cst M, false))) _ _ = keys seg from (hmvB a ha).trans hvk.2]; exact g3 q hq
/-- A call that may write on the blocks of its first argument, in whatever order. -/
theorem DW.callMv {fo : Operand} {args : Array Operand} {tys : Array TypeId} {f : FuncId} {v0 : Value} {vs : List Value} {M : Value → Fs → Prop} {seg us : Fs} {ws rs : List Nat} {ts1 ts2 : Ts}
    (hk : ops[k]? = some ⟨some d, .call { callee := .value fo, args := args, argTypes := tys }, t, pos, af, g⟩) (hm : μ k = some (cst M, true)) (hd : Nat.blt d C.N = true) (hg : WantT ops e g)
    (hf : e.ev fo = some (.func (.func f) #[] #[])) (hF : FnI C.P f) (ha0 : ArgsOk e args.toList (v0 :: vs)) (hvk : blocksN 4 v0 = keys seg ∧ blocksN 1 v0 = keys seg) (hout : TOut ops k ts seg ws rs ts1) (hrd : RdV C ops k vs ts1 us ts2)
    (hc : ∀ w, Bel C.w0.heap.size C.S C.w0 w → (∀ p ∈ seg, w.heap[p.1]? = some p.2) → seg.Pairwise (fun p q => p.1 ≠ q.1) → (∀ p ∈ us, w.heap[p.1]? = some p.2) → Calls C.P f (v0 :: vs).toArray w (RetG w (keys seg) M))
    (hkeys : ∀ v gs, M v gs → ∀ b ∈ keys seg, b ∈ keys gs)
    (kk : ∀ v' seg', M v' seg' → DW C ops μ Q tl rest (k + 1) ((d, v') :: e) (tsTag (k :: ws) (k :: rs) seg' ++ ts2)) :
    DW C ops μ Q tl (⟨some d, .call { callee := .value fo, args := args, argTypes := tys }, t, pos, af, g⟩ :: rest) k e ts := by
  obtain ⟨us2, hra, hus⟩ := hrd.all
  have htc : ∀ a : Act, EnvOk C.N C.ds e a → touch ⟨some d, .call { callee := .value fo, args := args, argTypes := tys }, t, pos, af, g⟩ a.eval = keys seg ++ vs.flatMap (blocksN 4) := fun a ha => by
    rw [touch_call hf ha0 ha.Ev, ← hvk.1]
    simp [blocksN]
  have hmvB : ∀ a : Act, EnvOk C.N C.ds e a → mvB true ⟨some d, .call { callee := .value fo, args := args, argTypes := tys }, t, pos, af, g⟩ a.eval = keys seg := fun a ha => by
    show mvA args a.eval = _
    rw [← hvk.2]
    have : ∀ l : List Operand, ArgsOk e l (v0 :: vs) → ∃ x l', l = x :: l' ∧ e.ev x = some v0 := by
      intro l h
      cases h with
      | cons hx _ => exact ⟨_, _, rfl, hx⟩
    obtain ⟨x, l', hl, hx⟩ := this _ ha0
    have h0 : args[0]? = some x := by rw [← Array.getElem?_toList, hl]; rfl
    unfold mvA
    rw [h0]
    simp [ha.Ev x v0 hx]
  refine DW.moveG (M := M) hk rfl hd (fun a ha => ?_) (fun a ha => ?_) hout hra (fun a φ ha hseg hnd hus3 => ?_) kk
  · have hw := WantT.wanted (o := ⟨some d, .call { callee := .value fo, args := args, argTypes := tys }, t, pos, af, g⟩) hg ha
    rw [tch_want hw]; exact htc a ha
  · have hw := WantT.wanted (o := ⟨some d, .call { callee := .value fo, args := args, argTypes := tys }, t, pos, af, g⟩) hg ha
    rw [hm]; unfold mvE; rw [if_pos hw]; exact hmvB a ha
  · have hw := WantT.wanted (o := ⟨some d, .call { callee := .value fo, args := args, argTypes := tys }, t, pos, af, g⟩) hg ha
    refine ⟨hw, .inr ⟨⟨cst M, by rw [hm]; rfl, rfl⟩, .inl fun w hon => ?_⟩⟩
    rw [htc a ha] at hon
    have hB : mvB (flg (μ k)) ⟨some d, .call { callee := .value fo, args := args, argTypes := tys }, t, pos, af, g⟩ a.eval = keys seg := by rw [hm]; exact hmvB a ha
    rw [hB]
    have hrun := CallP.fn (P := C.P) (tys := tys) hf ha0 a.eval w ha.Ev (some d) t pos af g
    rw [arr_id] at hrun
    refine ⟨f, _, hrun, hc w hon.1 (fun p hp => hon.2 p.1 (List.mem_append_left _ (List.mem_map.2 ⟨p, hp, rfl⟩)) _ (hseg p hp).1) hnd (fun p hp => hus3 w ⟨hon.1, fun y hy o ho => hon.2 y (List.mem_append_right _ hy) o ho⟩ p (hus p hp)), fun b hb => ?_, hkeys⟩
    obtain ⟨q, hq, rfl⟩ := List.mem_map.1 hb
    exact (hseg q hq).2
/-- **append(s, x...)** in whatever order: s a row of ours, that is not empty, or nil; x a row that may be read. -/
theorem DW.appendV {s x : Operand} {tys : Array TypeId} {T E size bytes n m : Nat} {z v vx : Value} {xs news : List Value} {seg us : Fs} {ws rs : List Nat} {ts1 ts2 : Ts}
    (hk : ops[k]? = some ⟨some d, .call { callee := .builtin .append, args := #[s, x], argTypes := tys }, t, pos, af, g⟩) (hm : μ k = some (cst fun v' gs => IsRow E size v' (n + m) (xs ++ news) gs, false)) (hd : Nat.blt d C.N = true) (hg : WantT ops e g)
    (hT : tys = #[T, T]) (hU : UnI C.P T (.slice E)) (hI : InfoI C.P E size z) (hB : BytI C.P E bytes) (hz : z.cells.size = size) (hs : e.ev s = some v) (hx : e.ev x = some vx)
    (hrow : IsRow E size v n xs seg) (h0 : v = .slice none 0 0 ∨ 0 < n) (hout : TOut ops k ts seg ws rs ts1) (hrd : RdV C ops k [vx] ts1 us ts2)
    (hat : ∀ w, Bel C.w0.heap.size C.S C.w0 w → (∀ p ∈ us, w.heap[p.1]? = some p.2) → RowAt w size vx m news) (h1 : ∀ u ∈ news, u.oneCell' = true) (h63 : n + m ≤ maxLen) (hb : (n + m) * bytes ≤ 140737488355328)
    (kk : ∀ v' seg', IsRow E size v' (n + m) (xs ++ news) seg' → DW C ops μ Q tl rest (k + 1) ((d, v') :: e) (tsTag (k :: ws) (k :: rs) seg' ++ ts2)) :
    DW C ops μ Q tl (⟨some d, .call { callee := .builtin .append, args := #[s, x], argTypes := tys }, t, pos, af, g⟩ :: rest) k e ts := by
  subst hT
  refine DW.appendG hk hm hd hg hs hx (hrow.blocks h0) hout hrd (fun w hst hus => ?_) kk
  have hA := hat w hst.bel hus
  obtain ⟨i, q1, q2, q3, q4⟩ := info_all (P := C.P) (T := E)
  rcases Nat.eq_zero_or_pos m with hm0 | hm0
  · subst hm0
    obtain ⟨q0, c0, rfl, _, _⟩ := hA.form
    have hn0 : news = [] := List.length_eq_zero_iff.1 (by rw [hA.len, Nat.zero_mul])
    subst hn0
    obtain ⟨p0, c1, rfl⟩ := hrow.form
    have hle : n ≤ c1 := by
      cases hrow with
      | nil => exact Nat.zero_le _
      | own h _ _ _ _ => exact h
    have hsrc : Src C.P i.size T (.slice q0 0 c0) 0 [] w := by
      cases q0 with
      | none => exact Src.ofNil w hU.un c0
      | some a => exact Src.ofSlice w hU.un a 0 c0 [] (by simp) (fun j u h => by simp at h) (fun u h => by cases h)
    have hr := run_append_nothing (P := C.P) w T T t E i hU.un q1 p0 n c1 hle _ hsrc
    exact ⟨_, seg, w, hr, by simpa using hrow, hst, Nat.le_refl _, fun _ _ _ => rfl, fun q hq => .inr (List.mem_map.2 ⟨q, hq, rfl⟩)⟩
  · obtain ⟨bb, off, c, cs, E', fr, rfl, hblk, hnx⟩ := hA.pos hm0
    obtain ⟨v', seg', w', hr, hrow', hst', g1, g2, g3⟩ := row_append2 (P := C.P) (ty := t) (pre := []) (post := []) hU.un q1 q3 q2 hz hrow (by simpa using hst) ⟨bb, off, none⟩ m c news hA.len (fun j u hj => by
      rw [addr_add, cell_of hblk]; exact cut_get hnx hj) h1 hm0 h63 (by rw [q4]; exact hb)
    simp only [List.nil_append, List.append_nil] at hst'
    exact ⟨v', seg', w', hr, hrow', hst', g1, g2, g3⟩
end dw
theorem LW.callStF {C : Cu} {ops : Array Oper} {Q : Post} {rest : List Oper} {e : Env} {fs : Fs} {d : Nat} {t : TypeId} {pos : String} {af : Array Edge} {fo : Operand} {args : Array Operand} {tys : Array TypeId} {f : FuncId} {first cap : Array Value} {vs aas : List Value} {K : Value → Fs → Prop} (hd : Nat.blt d C.N = true)
    (hf : e.ev fo = some (.func (.func f) first cap)) (hF : FnI C.P f) (ha : ArgsOk e args.toList vs) (has : first.toList ++ vs ++ cap.toList = aas) (hc : ∀ w, St C.w0 C.S fs w → Calls C.P f aas.toArray w (fun x w' => ∃ v fs', x = .returned v ∧ K v fs' ∧ St C.w0 C.S fs' w'))
    (k : ∀ v fs', K v fs' → LW C ops Q rest ((d, v) :: e) fs') : LW C ops Q (⟨some d, .call { callee := .value fo, args := args, argTypes := tys }, t, pos, af, none⟩ :: rest) e fs := fun a w hs => by
  refine wpListIn_take (wanted_none _ rfl _) ⟨fun _ _ => trivial, ?_⟩
  have hrun := CallP.fn (P := C.P) (tys := tys) hf ha a.eval w hs.env.Ev (some d) t pos af none
  have e1 : first ++ vs.toArray ++ cap = aas.toArray := by rw [← has]; apply Array.toList_inj.1; simp
  rw [e1] at hrun
  rw [semAt_FR (fun c h => by cases h), hrun]
  refine ⟨fun h => (by cases h), CallsIn.mono (calls_FR (hc w hs.st)) fun x w' hx => ?_⟩
  obtain ⟨v, fs', rfl, hK, hw'⟩ := hx
  exact k _ _ hK _ _ ⟨hs.env.put hd, hw'⟩
theorem ins_cons {α : Type} {a x : α} {r t : List α} (h : (a :: r).Perm t) : (a :: x :: r).Perm (x :: t) := (List.Perm.swap _ _ _).trans (h.cons _)
theorem ins_app {α : Type} {a : α} {s r t : List α} (h : (a :: r).Perm t) : (a :: (s ++ r)).Perm (s ++ t) := (List.perm_middle.symm).trans (h.append_left _)
theorem retG_of {w : World} {S : List Nat} {K : Value → Fs → Prop} {x : Ending} {w' : World} (h : ∃ v fs', x = .returned v ∧ K v fs' ∧ St w S fs' w') : RetG w S K x w' := by
  obtain ⟨v, fs', h1, h2, h3⟩ := h
  exact ⟨v, fs', h1, h2, h3.bel, h3.own, h3.nd⟩
/-- What is told ahead, and of which calls it is known that they may write on their first argument's blocks. -/
def muT (l : List (Nat × Rel1 × Bool)) : Mu := fun k => (l.find? fun p => Nat.beq p.1 k).map fun p => (cst p.2.1, p.2.2)
theorem AnyW.anyT {C : Cu} {id : Nat} {l : List Oper} {Q : Post} {fs : Fs} {e : Env} (ms : List (Nat × Rel1 × Bool)) (n : Nat) (hm : C.P.follows .mixedOrders = true) (hB : headB l.toArray n = true) (h : DW C l.toArray (muT ms) Q (l.drop n) (l.take n) 0 e (tsOf fs)) :
    AnyW C id l Q e fs := CW.any (muT ms) n hm hB h
end Go.Proofs.YtobkhnmglbfheaaDoor.SL

/-
  A SMALL LOGIC OVER THE KIT's WALK, PART MJ: append of so many zeros.
  Conditions: none; over any program.
-/
namespace Go.Proofs.YtobkhnmglbfheaaDoor.SL
set_option linter.unusedVariables false
set_option linter.unusedSimpArgs false
open Go Go.RowKit
section run
variable {P : Program} {w : World}
theorem zero_cells {z : Value} (hz : z.cells = #[z]) (n : Nat) : Builtin.zeroCells z.cells n = (List.replicate n z).toArray := by
  apply Array.ext_getElem?
  intro j
  rw [hz]
  by_cases h : j < n
  · simp [Builtin.zeroCells, h, Nat.mod_one]
  · simp [Builtin.zeroCells, h]
theorem run_appz_nil (t u ty e : TypeId) (i : TypeInfo) (z : Value) (ht : P.underlying t = some (.slice e)) (hu : P.underlying u = some (.int .i64)) (hi : P.info? e = some i) (hz : i.zero = some z) (hs : i.size = 1)
    (n : Nat) (h0 : 0 < n) (h63 : (n : Int) ≤ 9223372036854775807) (h48 : n * i.bytes ≤ 281474976710656) :
    (Builtin.append_ #[t, u] ty #[.slice none 0 0, .int .i64 (n : Int)]).run P w =
      .ok (.slice (some ⟨w.heap.size, 0, none⟩) n (grownCap w n 0 e)) (w.drew.alloc (.cells (Builtin.zeroCells z.cells n ++ Builtin.zeroCells z.cells (grownCap w n 0 e - n)) e)) := by
  have hn : n ≠ 0 := by omega
  have h63' : ¬ (9223372036854775807 < (n : Int)) := by omega
  have hw : IntKind.i64.wrap (n : Int) = (n : Int) := wrapI _ (by omega) (by omega)
  have hn0 : ¬ ((n : Int) < 0) := by omega
  have h48i : ¬ (281474976710656 < (n : Int) * (i.bytes : Int)) := by rw [← Int.natCast_mul]; omega
  have h48' : ¬ (281474976710656 < Builtin.nextslicecap n 0 * i.bytes) := by rw [nextslicecap_zero h0]; omega
  simp [Builtin.append_, run_underlying ht, run_underlying hu, sizeOf, typeInfo, zeroValue, hi, hz, asInt, asIntOf, hw, hn0, h48i, hn, h63', h48', hs, Question.forced, run_firstCells_none, newRow, grownCap]
theorem run_appz_room (t u ty e : TypeId) (i : TypeInfo) (z : Value) (ht : P.underlying t = some (.slice e)) (hu : P.underlying u = some (.int .i64)) (hi : P.info? e = some i) (hz : i.zero = some z) (hs : i.size = 1) (hc : z.cells = #[z]) (h1 : z.oneCell' = true)
    (g sLen sCap : Nat) (cur : Array Value) (hg : w.heap[g]? = some (.cells cur e (0, 0))) (m : Nat) (h63 : (m : Int) ≤ 9223372036854775807) (h48 : m * i.bytes ≤ 281474976710656)
    (hroom : sLen + m ≤ sCap) (hfit : sLen + m ≤ cur.size) :
    (Builtin.append_ #[t, u] ty #[.slice (some ⟨g, 0, none⟩) sLen sCap, .int .i64 (m : Int)]).run P w =
      .ok (.slice (some ⟨g, 0, none⟩) (sLen + m) sCap) (w.setRow g (cur.toList.take sLen ++ List.replicate m z ++ cur.toList.drop (sLen + m)).toArray) := by
  have hw : IntKind.i64.wrap (m : Int) = (m : Int) := wrapI _ (by omega) (by omega)
  have hn0 : ¬ ((m : Int) < 0) := by omega
  have h48i : ¬ (281474976710656 < (m : Int) * (i.bytes : Int)) := by rw [← Int.natCast_mul]; omega
  have hst := run_storeCells_at P g sLen e (List.replicate m z) 0 cur w hg (by simpa using hfit) (fun v hv => by rw [List.eq_of_mem_replicate hv]; exact h1)
  simp only [Nat.add_zero, List.length_replicate] at hst
  rcases Nat.eq_zero_or_pos m with h0 | h0
  · subst h0
    simp only [List.replicate_zero] at hst ⊢
    have hw0 : IntKind.i64.wrap 0 = 0 := by decide
    have hr0 : sLen ≤ sCap := by omega
    simp [Builtin.append_, run_underlying ht, run_underlying hu, sizeOf, typeInfo, hi, asInt, asIntOf, hs, hr0, hw0, Addr.add_lit, hst]
  · have hm : m ≠ 0 := by omega
    simp [Builtin.append_, run_underlying ht, run_underlying hu, sizeOf, typeInfo, zeroValue, hi, hz, asInt, asIntOf, hw, hn0, h48i, hs, hm, hroom, zero_cells hc, Addr.add_lit, hst]
theorem run_appz_grow (t u ty e : TypeId) (i : TypeInfo) (z : Value) (ht : P.underlying t = some (.slice e)) (hu : P.underlying u = some (.int .i64)) (hi : P.info? e = some i) (hz : i.zero = some z) (hs : i.size = 1)
    (b : Addr) (sLen sCap : Nat) (olds : List Value) (hlo : olds.length = sLen) (holds : ∀ j v, olds[j]? = some v → w.cell? (b.add j) = some v)
    (n : Nat) (h0 : 0 < n) (hg : sCap < sLen + n) (h63 : ((sLen + n : Nat) : Int) ≤ 9223372036854775807) (h48 : n * i.bytes ≤ 281474976710656) (hfit : Builtin.nextslicecap (sLen + n) sCap * i.bytes ≤ 281474976710656) :
    (Builtin.append_ #[t, u] ty #[.slice (some b) sLen sCap, .int .i64 (n : Int)]).run P w =
      .ok (.slice (some ⟨w.heap.size, 0, none⟩) (sLen + n) (grownCap w (sLen + n) sCap e))
        (w.drew.alloc (.cells (olds.toArray ++ Builtin.zeroCells z.cells n ++ Builtin.zeroCells z.cells (grownCap w (sLen + n) sCap e - (sLen + n))) e)) := by
  have hn : ¬ (sLen + n ≤ sCap) := by omega
  have hn' : n ≠ 0 := by omega
  have hw : IntKind.i64.wrap (n : Int) = (n : Int) := wrapI _ (by omega) (by omega)
  have hn0 : ¬ ((n : Int) < 0) := by omega
  have h48i : ¬ (281474976710656 < (n : Int) * (i.bytes : Int)) := by rw [← Int.natCast_mul]; omega
  have h63' : ¬ (9223372036854775807 < ((sLen : Int) + (n : Int))) := by omega
  have h48' : ¬ (281474976710656 < Builtin.nextslicecap (sLen + n) sCap * i.bytes) := by omega
  have hfo := run_firstCells_some (P := P) w.drew 1 sLen b sLen sCap olds (by omega) (by simpa using holds)
  simp [Builtin.append_, run_underlying ht, run_underlying hu, sizeOf, typeInfo, zeroValue, hi, hz, asInt, asIntOf, hw, hn0, h48i, hs, hn', hn, h63', h48', Question.forced, hfo, newRow, grownCap]
end run
/-- **append** of m zeros, on a row of ours. -/
theorem row_appz {P : Program} {T U E ty : TypeId} {i : TypeInfo} {z : Value} (ht : P.underlying T = some (.slice E)) (hu : P.underlying U = some (.int .i64)) (hi : P.info? E = some i) (hz : i.zero = some z) (hsz : i.size = 1) (hzc : z.cells = #[z]) (h1 : z.oneCell' = true)
    {v : Value} {n : Nat} {xs : List Value} {seg pre post : Fs} {w0 : World} {S : List Nat} {w : World} (h : IsRow E 1 v n xs seg) (hs : St w0 S (pre ++ (seg ++ post)) w)
    (m : Nat) (h63 : n + m ≤ maxLen) (hbytes : (n + m) * i.bytes ≤ 140737488355328) :
    ∃ v' seg' w', (Builtin.append_ #[T, U] ty #[v, .int .i64 (m : Int)]).run P w = .ok v' w' ∧ IsRow E 1 v' (n + m) (xs ++ List.replicate m z) seg' ∧ St w0 S (pre ++ (seg' ++ post)) w' ∧ w.heap.size ≤ w'.heap.size ∧
      (∀ b, b < w.heap.size → b ∉ seg'.map (·.1) → w'.heap[b]? = w.heap[b]?) ∧ (∀ q ∈ seg', w.heap.size ≤ q.1 ∨ q.1 ∈ seg.map (·.1)) := by
  have h63' : n + m ≤ 9223372036854775807 := by simp only [maxLen] at h63; omega
  have hmb : m * i.bytes ≤ (n + m) * i.bytes := Nat.mul_le_mul_right _ (by omega)
  have fresh : ∀ (o : Obj), Bel w0.heap.size S w0 (w.drew.alloc o) := fun o => (hs.bel.drew).alloc (by have := hs.bel.size; simpa [World.drew] using this) o
  have alike : ∀ (o : Obj) k, k < w.heap.size → (w.drew.alloc o).heap[k]? = w.heap[k]? := fun o k hk => Below.heap_alloc w.drew o k hk
  have cells : ∀ (old : Nat) (ys : List Value), ys.length = n → ((ys.toArray ++ Builtin.zeroCells z.cells m ++ Builtin.zeroCells z.cells (grownCap w (n + m) old E - (n + m))).size = grownCap w (n + m) old E * 1) ∧
      (ys.toArray ++ Builtin.zeroCells z.cells m ++ Builtin.zeroCells z.cells (grownCap w (n + m) old E - (n + m))).toList.take ((n + m) * 1) = ys ++ List.replicate m z := fun old ys hys => by
    have hge := grownCap_ge w (n + m) old E
    rw [zero_cells hzc, zero_cells hzc]
    constructor
    · simp only [Array.size_append, List.size_toArray, List.length_replicate, hys]
      omega
    · have hlen : (ys ++ List.replicate m z).length = (n + m) * 1 := by rw [List.length_append, hys, List.length_replicate]; omega
      simp only [Array.toList_append]
      rw [← hlen]
      exact List.take_left
  cases h with
  | nil =>
    rcases Nat.eq_zero_or_pos m with h0 | h0
    · subst h0
      refine ⟨.slice none 0 0, [], w, ?_, .nil, hs, Nat.le_refl _, fun _ _ _ => rfl, fun q hq => by cases hq⟩
      have hw0 : IntKind.i64.wrap 0 = 0 := by decide
      simp [Builtin.append_, run_underlying ht, run_underlying hu, sizeOf, typeInfo, hi, asInt, asIntOf, hsz, hw0]
    · simp only [Nat.zero_add] at *
      have hr := run_appz_nil (P := P) (w := w) T U ty E i z ht hu hi hz hsz m h0 (by omega) (by omega)
      obtain ⟨c1, c2⟩ := cells 0 [] (by simp)
      simp only [List.nil_append, Array.empty_append] at c1 c2
      refine ⟨_, [(w.heap.size, .cells (Builtin.zeroCells z.cells m ++ Builtin.zeroCells z.cells (grownCap w m 0 E - m)) E (0, 0))], _, hr, .own (grownCap_ge w m 0 E) (grownCap_le_maxLen w m 0 E h63) c1 c2 (by simp), ?_, ?_, fun b hb _ => alike _ b hb, fun q hq => ?_⟩
      · exact St.lay (w := w) hs (fresh _) (World.alloc_heap_new w.drew _) (Nat.le_refl _) (alike _)
      · rw [World.size_alloc]; exact Nat.le_succ _
      · obtain rfl : q = _ := by simpa using hq
        exact .inl (Nat.le_refl _)
  | @own g _ cap cur _ hn hmx hc htk hlx =>
    obtain ⟨hg1, hg2⟩ := hs.own (g, .cells cur E (0, 0)) (List.mem_append_right _ (by simp))
    by_cases hroom : n + m ≤ cap
    · have hfit : n + m ≤ cur.size := by omega
      have hr := run_appz_room (P := P) (w := w) T U ty E i z ht hu hi hz hsz hzc h1 g n cap cur hg2 m (by omega) (by omega) hroom hfit
      refine ⟨_, [(g, .cells (cur.toList.take n ++ List.replicate m z ++ cur.toList.drop (n + m)).toArray E (0, 0))], _, hr, .own hroom hmx ?_ ?_ (by rw [List.length_append, hlx, List.length_replicate]; omega), ?_, ?_, fun b hb hk => ?_, fun q hq => ?_⟩
      · simp only [List.size_toArray, List.length_append, List.length_take, List.length_drop, Array.length_toList, List.length_replicate]
        omega
      · rw [Nat.mul_one] at htk
        rw [htk, ← show (xs ++ List.replicate m z).length = (n + m) * 1 by rw [List.length_append, hlx, List.length_replicate]; omega]
        exact List.take_left
      · refine St.swap (w := w) hs (hs.bel.trans ⟨rfl, rfl, rfl, by simp, fun k hk hS => setRow_other w g k _ (fun e => ?_)⟩) (setRow_heap w g cur _ E _ hg2) hg1 (.inl rfl) (fun k _ hk => setRow_other w g k _ hk)
        subst e
        rcases hg1 with hg1 | hg1
        · exact absurd hk (by have : w0.heap.size ≤ k := hg1; omega)
        · exact hS hg1
      · simp
      · exact setRow_other w g b _ (fun e => hk (by simp [e]))
      · obtain rfl : q = _ := by simpa using hq
        exact .inr (by simp)
    · have hlx' : xs.length = n := by omega
      have holds : ∀ j u, xs[j]? = some u → w.cell? ((⟨g, 0, none⟩ : Addr).add j) = some u := fun j u hu => by
        rw [addr_add, Nat.zero_add, cell_of hg2]
        rw [← htk, List.getElem?_take] at hu
        split at hu
        · simpa using hu
        · cases hu
      have hr := run_appz_grow (P := P) (w := w) T U ty E i z ht hu hi hz hsz ⟨g, 0, none⟩ n cap xs hlx' holds m (by omega) (by omega) (by omega) (by omega) (growslice_fits (by omega) hbytes)
      obtain ⟨c1, c2⟩ := cells cap xs hlx'
      refine ⟨_, [(w.heap.size, .cells (xs.toArray ++ Builtin.zeroCells z.cells m ++ Builtin.zeroCells z.cells (grownCap w (n + m) cap E - (n + m))) E (0, 0))], _, hr, .own (grownCap_ge w (n + m) cap E) (grownCap_le_maxLen w (n + m) cap E h63) c1 c2 (by rw [List.length_append, hlx', List.length_replicate]; omega), ?_, ?_, fun b hb _ => alike _ b hb, fun q hq => ?_⟩
      · exact St.swap (w := w) hs (fresh _) (World.alloc_heap_new w.drew _) (.inl hs.bel.size) (.inr (Nat.le_refl _)) (fun k hk _ => alike _ k hk)
      · rw [World.size_alloc]; exact Nat.le_succ _
      · obtain rfl : q = _ := by simpa using hq
        exact .inl (Nat.le_refl _)
section lw
variable {C : Cu} {ops : Array Oper} {Q : Post} {rest : List Oper} {e : Env} {fs : Fs} {d : Nat} {t : TypeId} {pos : String} {af : Array Edge}
/-- **append(s, make([]T, x)...)**. -/
theorem LW.appendZ {s x : Operand} {tys : Array TypeId} {T U E bytes : TypeId} {z v : Value} {n m : Nat} {xs : List Value} {seg pre post : Fs} (hd : Nat.blt d C.N = true) (hT : tys = #[T, U]) (hU : UnI C.P T (.slice E)) (hU2 : UnI C.P U (.int .i64)) (hI : InfoI C.P E 1 z) (hB : BytI C.P E bytes)
    (hz : z.cells = #[z]) (h1 : z.oneCell' = true) (hs : e.ev s = some v) (hx : e.ev x = some (.int .i64 (m : Int))) (hseg : AtSeg fs pre seg post) (hrow : IsRow E 1 v n xs seg) (h63 : n + m ≤ maxLen) (hb : (n + m) * bytes ≤ 140737488355328)
    (k : ∀ v' seg', IsRow E 1 v' (n + m) (xs ++ List.replicate m z) seg' → ∃ fs', AtSeg fs' pre seg' post ∧ LW C ops Q rest ((d, v') :: e) fs') :
    LW C ops Q (⟨some d, .call { callee := .builtin .append, args := #[s, x], argTypes := tys }, t, pos, af, none⟩ :: rest) e fs := fun a w hsat => by
  subst hT
  obtain ⟨i, i1, i2, i3, i4⟩ := info_all (P := C.P) (T := E)
  have hst := hsat.st
  rw [hseg.eq] at hst
  obtain ⟨v', seg', w', hr, hrow', hw', _⟩ := row_appz (P := C.P) (ty := t) hU.un hU2.un i1 i3 i2 hz h1 hrow hst m h63 (by rw [i4]; exact hb)
  obtain ⟨fs', hat', hK⟩ := k v' seg' hrow'
  have hrun : (execOp a.eval ⟨some d, .call { callee := .builtin .append, args := #[s, x], argTypes := #[T, U] }, t, pos, af, none⟩).run C.P w = .ok (.value v') w' := by
    simp [execOp, resolve, invoke, builtin, hsat.env.ev hs, hsat.env.ev hx, hr]
  refine wpListIn_take (wanted_none _ rfl _) ⟨fun _ _ => trivial, ?_⟩
  rw [semAt_FR (fun c h => by cases h), hrun]
  exact hK _ _ ⟨hsat.env.put hd, by rw [hat'.eq]; exact hw'⟩
end lw
section dw
variable {C : Cu} {ops : Array Oper} {Q : Post} {tl rest : List Oper} {e : Env} {ts : Ts} {μ : Mu} {k d : Nat} {t : TypeId} {pos : String} {af : Array Edge} {g : Option (Nat × Bool)}
/-- **append(s, make([]T, x)...)** in whatever order. -/
theorem DW.appendZ {s x : Operand} {tys : Array TypeId} {T U E bytes n m : Nat} {z v : Value} {xs : List Value} {seg : Fs} {ws rs : List Nat} {ts1 : Ts}
    (hk : ops[k]? = some ⟨some d, .call { callee := .builtin .append, args := #[s, x], argTypes := tys }, t, pos, af, g⟩) (hm : μ k = some (cst fun v' gs => IsRow E 1 v' (n + m) (xs ++ List.replicate m z) gs, false)) (hd : Nat.blt d C.N = true) (hg : WantT ops e g)
    (hT : tys = #[T, U]) (hU : UnI C.P T (.slice E)) (hU2 : UnI C.P U (.int .i64)) (hI : InfoI C.P E 1 z) (hB : BytI C.P E bytes) (hz : z.cells = #[z]) (h1 : z.oneCell' = true) (hs : e.ev s = some v) (hx : e.ev x = some (.int .i64 (m : Int)))
    (hrow : IsRow E 1 v n xs seg) (h0 : v = .slice none 0 0 ∨ 0 < n) (hout : TOut ops k ts seg ws rs ts1) (h63 : n + m ≤ maxLen) (hb : (n + m) * bytes ≤ 140737488355328)
    (kk : ∀ v' seg', IsRow E 1 v' (n + m) (xs ++ List.replicate m z) seg' → DW C ops μ Q tl rest (k + 1) ((d, v') :: e) (tsTag (k :: ws) (k :: rs) seg' ++ ts1)) :
    DW C ops μ Q tl (⟨some d, .call { callee := .builtin .append, args := #[s, x], argTypes := tys }, t, pos, af, g⟩ :: rest) k e ts := by
  subst hT
  refine DW.appendG hk hm hd hg hs hx (hrow.blocks h0) hout (RdV.plain rfl .nil) (fun w hst hus => ?_) kk
  obtain ⟨i, i1, i2, i3, i4⟩ := info_all (P := C.P) (T := E)
  obtain ⟨v', seg', w', hr, hrow', hst', g1, g2, g3⟩ := row_appz (P := C.P) (ty := t) (pre := []) (post := []) hU.un hU2.un i1 i3 i2 hz h1 hrow (by simpa using hst) m h63 (by rw [i4]; exact hb)
  simp only [List.nil_append, List.append_nil] at hst'
  exact ⟨v', seg', w', hr, hrow', hst', g1, g2, g3⟩
end dw
end Go.Proofs.YtobkhnmglbfheaaDoor.SL

/-
  What is known of this seat's types and functions, as instances: made by program (wip/gen_inst.py) off the translation; each is proved by the kernel's reckoning.
  Conditions: none.
-/
namespace Go.Proofs.YtobkhnmglbfheaaDoor
open Go Go.RowKit SL

instance : AgI Tryd.prog 1 false := ⟨by kernel_rfl⟩
instance : InfoI Tryd.prog 1 1 (.nilFunc) := ⟨by kernel_rfl⟩
instance : BytI Tryd.prog 1 8 := ⟨by kernel_rfl⟩
instance : AgI Tryd.prog 2 false := ⟨by kernel_rfl⟩
instance : UnI Tryd.prog 2 (.int .i64) := ⟨by kernel_rfl⟩
instance : InfoI Tryd.prog 2 1 (.int .i64 0) := ⟨by kernel_rfl⟩
instance : BytI Tryd.prog 2 8 := ⟨by kernel_rfl⟩
instance : AgI Tryd.prog 3 false := ⟨by kernel_rfl⟩
instance : UnI Tryd.prog 3 (.int .i64) := ⟨by kernel_rfl⟩
instance : InfoI Tryd.prog 3 1 (.int .i64 0) := ⟨by kernel_rfl⟩
instance : BytI Tryd.prog 3 8 := ⟨by kernel_rfl⟩
instance : AgI Tryd.prog 4 false := ⟨by kernel_rfl⟩
instance : UnI Tryd.prog 4 (.bool) := ⟨by kernel_rfl⟩
instance : InfoI Tryd.prog 4 1 (.bool false) := ⟨by kernel_rfl⟩
instance : BytI Tryd.prog 4 1 := ⟨by kernel_rfl⟩
instance : AgI Tryd.prog 5 false := ⟨by kernel_rfl⟩
instance : UnI Tryd.prog 5 (.int .u8) := ⟨by kernel_rfl⟩
instance : InfoI Tryd.prog 5 1 (.int .u8 0) := ⟨by kernel_rfl⟩
instance : BytI Tryd.prog 5 1 := ⟨by kernel_rfl⟩
instance : AgI Tryd.prog 6 false := ⟨by kernel_rfl⟩
instance : UnI Tryd.prog 6 (.int .u8) := ⟨by kernel_rfl⟩
instance : InfoI Tryd.prog 6 1 (.int .u8 0) := ⟨by kernel_rfl⟩
instance : BytI Tryd.prog 6 1 := ⟨by kernel_rfl⟩
instance : AgI Tryd.prog 7 true := ⟨by kernel_rfl⟩
instance : InfoI Tryd.prog 7 4 (.agg #[.int .i64 0, .int .i64 0, .bool false, .int .u8 0]) := ⟨by kernel_rfl⟩
instance : BytI Tryd.prog 7 24 := ⟨by kernel_rfl⟩
instance : StrI Tryd.prog 7 [(0, 1), (1, 1), (2, 1), (3, 1)] := ⟨by kernel_rfl⟩
instance : FldI Tryd.prog 7 0 0 2 := .mk' (by kernel_rfl)
instance : FldI Tryd.prog 7 1 1 3 := .mk' (by kernel_rfl)
instance : FldI Tryd.prog 7 2 2 4 := .mk' (by kernel_rfl)
instance : FldI Tryd.prog 7 3 3 6 := .mk' (by kernel_rfl)
instance : AgI Tryd.prog 8 true := ⟨by kernel_rfl⟩
instance : InfoI Tryd.prog 8 4 (.agg #[.int .i64 0, .int .i64 0, .bool false, .int .u8 0]) := ⟨by kernel_rfl⟩
instance : BytI Tryd.prog 8 24 := ⟨by kernel_rfl⟩
instance : StrI Tryd.prog 8 [(0, 1), (1, 1), (2, 1), (3, 1)] := ⟨by kernel_rfl⟩
instance : FldI Tryd.prog 8 0 0 2 := .mk' (by kernel_rfl)
instance : FldI Tryd.prog 8 1 1 3 := .mk' (by kernel_rfl)
instance : FldI Tryd.prog 8 2 2 4 := .mk' (by kernel_rfl)
instance : FldI Tryd.prog 8 3 3 6 := .mk' (by kernel_rfl)
instance : AgI Tryd.prog 9 false := ⟨by kernel_rfl⟩
instance : UnI Tryd.prog 9 (.string) := ⟨by kernel_rfl⟩
instance : InfoI Tryd.prog 9 1 (.string ⟨#[]⟩) := ⟨by kernel_rfl⟩
instance : BytI Tryd.prog 9 16 := ⟨by kernel_rfl⟩
instance : AgI Tryd.prog 10 false := ⟨by kernel_rfl⟩
instance : UnI Tryd.prog 10 (.string) := ⟨by kernel_rfl⟩
instance : InfoI Tryd.prog 10 1 (.string ⟨#[]⟩) := ⟨by kernel_rfl⟩
instance : BytI Tryd.prog 10 16 := ⟨by kernel_rfl⟩
instance : AgI Tryd.prog 11 false := ⟨by kernel_rfl⟩
instance : UnI Tryd.prog 11 (.string) := ⟨by kernel_rfl⟩
instance : InfoI Tryd.prog 11 1 (.string ⟨#[]⟩) := ⟨by kernel_rfl⟩
instance : BytI Tryd.prog 11 16 := ⟨by kernel_rfl⟩
instance : AgI Tryd.prog 12 false := ⟨by kernel_rfl⟩
instance : UnI Tryd.prog 12 (.int .u64) := ⟨by kernel_rfl⟩
instance : InfoI Tryd.prog 12 1 (.int .u64 0) := ⟨by kernel_rfl⟩
instance : BytI Tryd.prog 12 8 := ⟨by kernel_rfl⟩
instance : AgI Tryd.prog 13 true := ⟨by kernel_rfl⟩
instance : InfoI Tryd.prog 13 2 (.agg #[.string ⟨#[]⟩, .int .u64 0]) := ⟨by kernel_rfl⟩
instance : BytI Tryd.prog 13 24 := ⟨by kernel_rfl⟩
instance : StrI Tryd.prog 13 [(0, 1), (1, 1)] := ⟨by kernel_rfl⟩
instance : FldI Tryd.prog 13 0 0 9 := .mk' (by kernel_rfl)
instance : FldI Tryd.prog 13 1 1 12 := .mk' (by kernel_rfl)
instance : AgI Tryd.prog 14 true := ⟨by kernel_rfl⟩
instance : InfoI Tryd.prog 14 2 (.agg #[.string ⟨#[]⟩, .int .u64 0]) := ⟨by kernel_rfl⟩
instance : BytI Tryd.prog 14 24 := ⟨by kernel_rfl⟩
instance : StrI Tryd.prog 14 [(0, 1), (1, 1)] := ⟨by kernel_rfl⟩
instance : FldI Tryd.prog 14 0 0 9 := .mk' (by kernel_rfl)
instance : FldI Tryd.prog 14 1 1 12 := .mk' (by kernel_rfl)
instance : AgI Tryd.prog 15 false := ⟨by kernel_rfl⟩
instance : UnI Tryd.prog 15 (.pointer 137) := ⟨by kernel_rfl⟩
instance : InfoI Tryd.prog 15 1 (.pointer none) := ⟨by kernel_rfl⟩
instance : BytI Tryd.prog 15 8 := ⟨by kernel_rfl⟩
instance : AgI Tryd.prog 16 false := ⟨by kernel_rfl⟩
instance : UnI Tryd.prog 16 (.pointer 140) := ⟨by kernel_rfl⟩
instance : InfoI Tryd.prog 16 1 (.pointer none) := ⟨by kernel_rfl⟩
instance : BytI Tryd.prog 16 8 := ⟨by kernel_rfl⟩
instance : AgI Tryd.prog 17 false := ⟨by kernel_rfl⟩
instance : UnI Tryd.prog 17 (.pointer 150) := ⟨by kernel_rfl⟩
instance : InfoI Tryd.prog 17 1 (.pointer none) := ⟨by kernel_rfl⟩
instance : BytI Tryd.prog 17 8 := ⟨by kernel_rfl⟩
instance : AgI Tryd.prog 18 true := ⟨by kernel_rfl⟩
instance : InfoI Tryd.prog 18 1 (.agg #[.pointer none]) := ⟨by kernel_rfl⟩
instance : BytI Tryd.prog 18 8 := ⟨by kernel_rfl⟩
instance : StrI Tryd.prog 18 [(0, 1)] := ⟨by kernel_rfl⟩
instance : FldI Tryd.prog 18 0 0 17 := .mk' (by kernel_rfl)
instance : AgI Tryd.prog 19 true := ⟨by kernel_rfl⟩
instance : InfoI Tryd.prog 19 1 (.agg #[.pointer none]) := ⟨by kernel_rfl⟩
instance : BytI Tryd.prog 19 8 := ⟨by kernel_rfl⟩
instance : StrI Tryd.prog 19 [(0, 1)] := ⟨by kernel_rfl⟩
instance : FldI Tryd.prog 19 0 0 17 := .mk' (by kernel_rfl)
instance : AgI Tryd.prog 20 false := ⟨by kernel_rfl⟩
instance : InfoI Tryd.prog 20 1 (.nilIface) := ⟨by kernel_rfl⟩
instance : BytI Tryd.prog 20 16 := ⟨by kernel_rfl⟩
instance : AgI Tryd.prog 21 false := ⟨by kernel_rfl⟩
instance : UnI Tryd.prog 21 (.int .i32) := ⟨by kernel_rfl⟩
instance : InfoI Tryd.prog 21 1 (.int .i32 0) := ⟨by kernel_rfl⟩
instance : BytI Tryd.prog 21 4 := ⟨by kernel_rfl⟩
instance : AgI Tryd.prog 22 false := ⟨by kernel_rfl⟩
instance : UnI Tryd.prog 22 (.slice 30) := ⟨by kernel_rfl⟩
instance : InfoI Tryd.prog 22 1 (.slice none 0 0) := ⟨by kernel_rfl⟩
instance : BytI Tryd.prog 22 24 := ⟨by kernel_rfl⟩
instance : AgI Tryd.prog 23 false := ⟨by kernel_rfl⟩
instance : UnI Tryd.prog 23 (.int .u64) := ⟨by kernel_rfl⟩
instance : InfoI Tryd.prog 23 1 (.int .u64 0) := ⟨by kernel_rfl⟩
instance : BytI Tryd.prog 23 8 := ⟨by kernel_rfl⟩
instance : AgI Tryd.prog 24 false := ⟨by kernel_rfl⟩
instance : InfoI Tryd.prog 24 1 (.nilFunc) := ⟨by kernel_rfl⟩
instance : BytI Tryd.prog 24 8 := ⟨by kernel_rfl⟩
instance : AgI Tryd.prog 25 false := ⟨by kernel_rfl⟩
instance : UnI Tryd.prog 25 (.int .u64) := ⟨by kernel_rfl⟩
instance : InfoI Tryd.prog 25 1 (.int .u64 0) := ⟨by kernel_rfl⟩
instance : BytI Tryd.prog 25 8 := ⟨by kernel_rfl⟩
instance : AgI Tryd.prog 26 true := ⟨by kernel_rfl⟩
instance : UnI Tryd.prog 26 (.array 4 23) := ⟨by kernel_rfl⟩
instance : InfoI Tryd.prog 26 4 (.agg #[.int .u64 0, .int .u64 0, .int .u64 0, .int .u64 0]) := ⟨by kernel_rfl⟩
instance : BytI Tryd.prog 26 32 := ⟨by kernel_rfl⟩
instance : EqI Tryd.prog 26 4 .u64 := .mk' (by kernel_rfl)
instance : AgI Tryd.prog 27 true := ⟨by kernel_rfl⟩
instance : UnI Tryd.prog 27 (.array 4 23) := ⟨by kernel_rfl⟩
instance : InfoI Tryd.prog 27 4 (.agg #[.int .u64 0, .int .u64 0, .int .u64 0, .int .u64 0]) := ⟨by kernel_rfl⟩
instance : BytI Tryd.prog 27 32 := ⟨by kernel_rfl⟩
instance : EqI Tryd.prog 27 4 .u64 := .mk' (by kernel_rfl)
instance : AgI Tryd.prog 28 false := ⟨by kernel_rfl⟩
instance : UnI Tryd.prog 28 (.slice 5) := ⟨by kernel_rfl⟩
instance : InfoI Tryd.prog 28 1 (.slice none 0 0) := ⟨by kernel_rfl⟩
instance : BytI Tryd.prog 28 24 := ⟨by kernel_rfl⟩
instance : AgI Tryd.prog 29 true := ⟨by kernel_rfl⟩
instance : InfoI Tryd.prog 29 17 (.agg #[.int .u64 0, .int .u64 0, .int .u64 0, .int .u64 0, .int .u64 0, .slice none 0 0, .slice none 0 0, .int .u64 0, .int .u64 0, .int .u64 0, .int .u64 0, .int .u64 0, .int .u64 0, .int .u64 0, .int .u64 0, .slice none 0 0, .slice none 0 0]) := ⟨by kernel_rfl⟩
instance : BytI Tryd.prog 29 200 := ⟨by kernel_rfl⟩
instance : StrI Tryd.prog 29 [(0, 1), (1, 4), (5, 1), (6, 1), (7, 1), (8, 1), (9, 1), (10, 1), (11, 1), (12, 1), (13, 1), (14, 1), (15, 1), (16, 1)] := ⟨by kernel_rfl⟩
instance : FldI Tryd.prog 29 0 0 25 := .mk' (by kernel_rfl)
instance : FldI Tryd.prog 29 1 1 27 := .mk' (by kernel_rfl)
instance : FldI Tryd.prog 29 2 5 28 := .mk' (by kernel_rfl)
instance : FldI Tryd.prog 29 3 6 28 := .mk' (by kernel_rfl)
instance : FldI Tryd.prog 29 4 7 23 := .mk' (by kernel_rfl)
instance : FldI Tryd.prog 29 5 8 23 := .mk' (by kernel_rfl)
instance : FldI Tryd.prog 29 6 9 23 := .mk' (by kernel_rfl)
instance : FldI Tryd.prog 29 7 10 23 := .mk' (by kernel_rfl)
instance : FldI Tryd.prog 29 8 11 23 := .mk' (by kernel_rfl)
instance : FldI Tryd.prog 29 9 12 25 := .mk' (by kernel_rfl)
instance : FldI Tryd.prog 29 10 13 23 := .mk' (by kernel_rfl)
instance : FldI Tryd.prog 29 11 14 23 := .mk' (by kernel_rfl)
instance : FldI Tryd.prog 29 12 15 28 := .mk' (by kernel_rfl)
instance : FldI Tryd.prog 29 13 16 28 := .mk' (by kernel_rfl)
instance : AgI Tryd.prog 30 true := ⟨by kernel_rfl⟩
instance : InfoI Tryd.prog 30 17 (.agg #[.int .u64 0, .int .u64 0, .int .u64 0, .int .u64 0, .int .u64 0, .slice none 0 0, .slice none 0 0, .int .u64 0, .int .u64 0, .int .u64 0, .int .u64 0, .int .u64 0, .int .u64 0, .int .u64 0, .int .u64 0, .slice none 0 0, .slice none 0 0]) := ⟨by kernel_rfl⟩
instance : BytI Tryd.prog 30 200 := ⟨by kernel_rfl⟩
instance : StrI Tryd.prog 30 [(0, 1), (1, 4), (5, 1), (6, 1), (7, 1), (8, 1), (9, 1), (10, 1), (11, 1), (12, 1), (13, 1), (14, 1), (15, 1), (16, 1)] := ⟨by kernel_rfl⟩
instance : FldI Tryd.prog 30 0 0 25 := .mk' (by kernel_rfl)
instance : FldI Tryd.prog 30 1 1 27 := .mk' (by kernel_rfl)
instance : FldI Tryd.prog 30 2 5 28 := .mk' (by kernel_rfl)
instance : FldI Tryd.prog 30 3 6 28 := .mk' (by kernel_rfl)
instance : FldI Tryd.prog 30 4 7 23 := .mk' (by kernel_rfl)
instance : FldI Tryd.prog 30 5 8 23 := .mk' (by kernel_rfl)
instance : FldI Tryd.prog 30 6 9 23 := .mk' (by kernel_rfl)
instance : FldI Tryd.prog 30 7 10 23 := .mk' (by kernel_rfl)
instance : FldI Tryd.prog 30 8 11 23 := .mk' (by kernel_rfl)
instance : FldI Tryd.prog 30 9 12 25 := .mk' (by kernel_rfl)
instance : FldI Tryd.prog 30 10 13 23 := .mk' (by kernel_rfl)
instance : FldI Tryd.prog 30 11 14 23 := .mk' (by kernel_rfl)
instance : FldI Tryd.prog 30 12 15 28 := .mk' (by kernel_rfl)
instance : FldI Tryd.prog 30 13 16 28 := .mk' (by kernel_rfl)
instance : AgI Tryd.prog 31 false := ⟨by kernel_rfl⟩
instance : InfoI Tryd.prog 31 1 (.nilFunc) := ⟨by kernel_rfl⟩
instance : BytI Tryd.prog 31 8 := ⟨by kernel_rfl⟩
instance : AgI Tryd.prog 32 false := ⟨by kernel_rfl⟩
instance : InfoI Tryd.prog 32 1 (.nilFunc) := ⟨by kernel_rfl⟩
instance : BytI Tryd.prog 32 8 := ⟨by kernel_rfl⟩
instance : AgI Tryd.prog 33 false := ⟨by kernel_rfl⟩
instance : UnI Tryd.prog 33 (.int .i64) := ⟨by kernel_rfl⟩
instance : InfoI Tryd.prog 33 1 (.int .i64 0) := ⟨by kernel_rfl⟩
instance : BytI Tryd.prog 33 8 := ⟨by kernel_rfl⟩
instance : AgI Tryd.prog 34 false := ⟨by kernel_rfl⟩
instance : InfoI Tryd.prog 34 1 (.nilFunc) := ⟨by kernel_rfl⟩
instance : BytI Tryd.prog 34 8 := ⟨by kernel_rfl⟩
instance : AgI Tryd.prog 35 false := ⟨by kernel_rfl⟩
instance : InfoI Tryd.prog 35 1 (.nilFunc) := ⟨by kernel_rfl⟩
instance : BytI Tryd.prog 35 8 := ⟨by kernel_rfl⟩
instance : AgI Tryd.prog 37 false := ⟨by kernel_rfl⟩
instance : InfoI Tryd.prog 37 1 (.nilFunc) := ⟨by kernel_rfl⟩
instance : BytI Tryd.prog 37 8 := ⟨by kernel_rfl⟩
instance : AgI Tryd.prog 39 false := ⟨by kernel_rfl⟩
instance : InfoI Tryd.prog 39 1 (.nilFunc) := ⟨by kernel_rfl⟩
instance : BytI Tryd.prog 39 8 := ⟨by kernel_rfl⟩
instance : AgI Tryd.prog 40 false := ⟨by kernel_rfl⟩
instance : InfoI Tryd.prog 40 1 (.nilFunc) := ⟨by kernel_rfl⟩
instance : BytI Tryd.prog 40 8 := ⟨by kernel_rfl⟩
instance : AgI Tryd.prog 41 false := ⟨by kernel_rfl⟩
instance : InfoI Tryd.prog 41 1 (.nilFunc) := ⟨by kernel_rfl⟩
instance : BytI Tryd.prog 41 8 := ⟨by kernel_rfl⟩
instance : AgI Tryd.prog 42 false := ⟨by kernel_rfl⟩
instance : InfoI Tryd.prog 42 1 (.nilFunc) := ⟨by kernel_rfl⟩
instance : BytI Tryd.prog 42 8 := ⟨by kernel_rfl⟩
instance : AgI Tryd.prog 43 false := ⟨by kernel_rfl⟩
instance : InfoI Tryd.prog 43 1 (.nilFunc) := ⟨by kernel_rfl⟩
instance : BytI Tryd.prog 43 8 := ⟨by kernel_rfl⟩
instance : AgI Tryd.prog 44 false := ⟨by kernel_rfl⟩
instance : InfoI Tryd.prog 44 1 (.nilFunc) := ⟨by kernel_rfl⟩
instance : BytI Tryd.prog 44 8 := ⟨by kernel_rfl⟩
instance : AgI Tryd.prog 46 false := ⟨by kernel_rfl⟩
instance : InfoI Tryd.prog 46 1 (.nilFunc) := ⟨by kernel_rfl⟩
instance : BytI Tryd.prog 46 8 := ⟨by kernel_rfl⟩
instance : AgI Tryd.prog 47 false := ⟨by kernel_rfl⟩
instance : InfoI Tryd.prog 47 1 (.nilFunc) := ⟨by kernel_rfl⟩
instance : BytI Tryd.prog 47 8 := ⟨by kernel_rfl⟩
instance : AgI Tryd.prog 48 false := ⟨by kernel_rfl⟩
instance : InfoI Tryd.prog 48 1 (.nilFunc) := ⟨by kernel_rfl⟩
instance : BytI Tryd.prog 48 8 := ⟨by kernel_rfl⟩
instance : AgI Tryd.prog 49 false := ⟨by kernel_rfl⟩
instance : UnI Tryd.prog 49 (.slice 23) := ⟨by kernel_rfl⟩
instance : InfoI Tryd.prog 49 1 (.slice none 0 0) := ⟨by kernel_rfl⟩
instance : BytI Tryd.prog 49 24 := ⟨by kernel_rfl⟩
instance : AgI Tryd.prog 50 false := ⟨by kernel_rfl⟩
instance : UnI Tryd.prog 50 (.slice 28) := ⟨by kernel_rfl⟩
instance : InfoI Tryd.prog 50 1 (.slice none 0 0) := ⟨by kernel_rfl⟩
instance : BytI Tryd.prog 50 24 := ⟨by kernel_rfl⟩
instance : AgI Tryd.prog 51 false := ⟨by kernel_rfl⟩
instance : InfoI Tryd.prog 51 1 (.nilFunc) := ⟨by kernel_rfl⟩
instance : BytI Tryd.prog 51 8 := ⟨by kernel_rfl⟩
instance : AgI Tryd.prog 52 false := ⟨by kernel_rfl⟩
instance : InfoI Tryd.prog 52 1 (.nilFunc) := ⟨by kernel_rfl⟩
instance : BytI Tryd.prog 52 8 := ⟨by kernel_rfl⟩
instance : AgI Tryd.prog 53 false := ⟨by kernel_rfl⟩
instance : InfoI Tryd.prog 53 1 (.nilFunc) := ⟨by kernel_rfl⟩
instance : BytI Tryd.prog 53 8 := ⟨by kernel_rfl⟩
instance : AgI Tryd.prog 55 false := ⟨by kernel_rfl⟩
instance : InfoI Tryd.prog 55 1 (.nilFunc) := ⟨by kernel_rfl⟩
instance : BytI Tryd.prog 55 8 := ⟨by kernel_rfl⟩
instance : AgI Tryd.prog 56 true := ⟨by kernel_rfl⟩
instance : UnI Tryd.prog 56 (.array 7 23) := ⟨by kernel_rfl⟩
instance : InfoI Tryd.prog 56 7 (.agg #[.int .u64 0, .int .u64 0, .int .u64 0, .int .u64 0, .int .u64 0, .int .u64 0, .int .u64 0]) := ⟨by kernel_rfl⟩
instance : BytI Tryd.prog 56 56 := ⟨by kernel_rfl⟩
instance : EqI Tryd.prog 56 7 .u64 := .mk' (by kernel_rfl)
instance : AgI Tryd.prog 57 false := ⟨by kernel_rfl⟩
instance : InfoI Tryd.prog 57 1 (.nilFunc) := ⟨by kernel_rfl⟩
instance : BytI Tryd.prog 57 8 := ⟨by kernel_rfl⟩
instance : AgI Tryd.prog 58 false := ⟨by kernel_rfl⟩
instance : InfoI Tryd.prog 58 1 (.nilFunc) := ⟨by kernel_rfl⟩
instance : BytI Tryd.prog 58 8 := ⟨by kernel_rfl⟩
instance : AgI Tryd.prog 59 false := ⟨by kernel_rfl⟩
instance : InfoI Tryd.prog 59 1 (.nilFunc) := ⟨by kernel_rfl⟩
instance : BytI Tryd.prog 59 8 := ⟨by kernel_rfl⟩
instance : AgI Tryd.prog 60 true := ⟨by kernel_rfl⟩
instance : InfoI Tryd.prog 60 6 (.agg #[.bool false, .int .u64 0, .int .u64 0, .int .u64 0, .int .u64 0, .slice none 0 0]) := ⟨by kernel_rfl⟩
instance : BytI Tryd.prog 60 64 := ⟨by kernel_rfl⟩
instance : StrI Tryd.prog 60 [(0, 1), (1, 4), (5, 1)] := ⟨by kernel_rfl⟩
instance : FldI Tryd.prog 60 0 0 4 := .mk' (by kernel_rfl)
instance : FldI Tryd.prog 60 1 1 27 := .mk' (by kernel_rfl)
instance : FldI Tryd.prog 60 2 5 28 := .mk' (by kernel_rfl)
instance : AgI Tryd.prog 61 true := ⟨by kernel_rfl⟩
instance : InfoI Tryd.prog 61 6 (.agg #[.bool false, .int .u64 0, .int .u64 0, .int .u64 0, .int .u64 0, .slice none 0 0]) := ⟨by kernel_rfl⟩
instance : BytI Tryd.prog 61 64 := ⟨by kernel_rfl⟩
instance : StrI Tryd.prog 61 [(0, 1), (1, 4), (5, 1)] := ⟨by kernel_rfl⟩
instance : FldI Tryd.prog 61 0 0 4 := .mk' (by kernel_rfl)
instance : FldI Tryd.prog 61 1 1 27 := .mk' (by kernel_rfl)
instance : FldI Tryd.prog 61 2 5 28 := .mk' (by kernel_rfl)
instance : AgI Tryd.prog 62 false := ⟨by kernel_rfl⟩
instance : InfoI Tryd.prog 62 1 (.nilFunc) := ⟨by kernel_rfl⟩
instance : BytI Tryd.prog 62 8 := ⟨by kernel_rfl⟩
instance : AgI Tryd.prog 63 false := ⟨by kernel_rfl⟩
instance : InfoI Tryd.prog 63 1 (.nilFunc) := ⟨by kernel_rfl⟩
instance : BytI Tryd.prog 63 8 := ⟨by kernel_rfl⟩
instance : AgI Tryd.prog 64 false := ⟨by kernel_rfl⟩
instance : UnI Tryd.prog 64 (.slice 61) := ⟨by kernel_rfl⟩
instance : InfoI Tryd.prog 64 1 (.slice none 0 0) := ⟨by kernel_rfl⟩
instance : BytI Tryd.prog 64 24 := ⟨by kernel_rfl⟩
instance : AgI Tryd.prog 65 false := ⟨by kernel_rfl⟩
instance : InfoI Tryd.prog 65 1 (.nilFunc) := ⟨by kernel_rfl⟩
instance : BytI Tryd.prog 65 8 := ⟨by kernel_rfl⟩
instance : AgI Tryd.prog 67 false := ⟨by kernel_rfl⟩
instance : InfoI Tryd.prog 67 1 (.nilFunc) := ⟨by kernel_rfl⟩
instance : BytI Tryd.prog 67 8 := ⟨by kernel_rfl⟩
instance : AgI Tryd.prog 68 false := ⟨by kernel_rfl⟩
instance : UnI Tryd.prog 68 (.slice 4) := ⟨by kernel_rfl⟩
instance : InfoI Tryd.prog 68 1 (.slice none 0 0) := ⟨by kernel_rfl⟩
instance : BytI Tryd.prog 68 24 := ⟨by kernel_rfl⟩
instance : AgI Tryd.prog 69 false := ⟨by kernel_rfl⟩
instance : InfoI Tryd.prog 69 1 (.nilFunc) := ⟨by kernel_rfl⟩
instance : BytI Tryd.prog 69 8 := ⟨by kernel_rfl⟩
instance : AgI Tryd.prog 70 false := ⟨by kernel_rfl⟩
instance : UnI Tryd.prog 70 (.pointer 72) := ⟨by kernel_rfl⟩
instance : InfoI Tryd.prog 70 1 (.pointer none) := ⟨by kernel_rfl⟩
instance : BytI Tryd.prog 70 8 := ⟨by kernel_rfl⟩
instance : AgI Tryd.prog 71 true := ⟨by kernel_rfl⟩
instance : InfoI Tryd.prog 71 20 (.agg #[.int .u64 0, .int .u64 0, .int .u64 0, .int .u64 0, .int .u64 0, .slice none 0 0, .slice none 0 0, .int .u64 0, .int .u64 0, .int .u64 0, .int .u64 0, .int .u64 0, .int .u64 0, .int .u64 0, .int .u64 0, .slice none 0 0, .slice none 0 0, .slice none 0 0, .bool false, .bool false]) := ⟨by kernel_rfl⟩
instance : BytI Tryd.prog 71 232 := ⟨by kernel_rfl⟩
instance : StrI Tryd.prog 71 [(0, 17), (17, 1), (18, 1), (19, 1)] := ⟨by kernel_rfl⟩
instance : FldI Tryd.prog 71 0 0 30 := .mk' (by kernel_rfl)
instance : FldI Tryd.prog 71 1 17 64 := .mk' (by kernel_rfl)
instance : FldI Tryd.prog 71 2 18 4 := .mk' (by kernel_rfl)
instance : FldI Tryd.prog 71 3 19 4 := .mk' (by kernel_rfl)
instance : AgI Tryd.prog 72 true := ⟨by kernel_rfl⟩
instance : InfoI Tryd.prog 72 20 (.agg #[.int .u64 0, .int .u64 0, .int .u64 0, .int .u64 0, .int .u64 0, .slice none 0 0, .slice none 0 0, .int .u64 0, .int .u64 0, .int .u64 0, .int .u64 0, .int .u64 0, .int .u64 0, .int .u64 0, .int .u64 0, .slice none 0 0, .slice none 0 0, .slice none 0 0, .bool false, .bool false]) := ⟨by kernel_rfl⟩
instance : BytI Tryd.prog 72 232 := ⟨by kernel_rfl⟩
instance : StrI Tryd.prog 72 [(0, 17), (17, 1), (18, 1), (19, 1)] := ⟨by kernel_rfl⟩
instance : FldI Tryd.prog 72 0 0 30 := .mk' (by kernel_rfl)
instance : FldI Tryd.prog 72 1 17 64 := .mk' (by kernel_rfl)
instance : FldI Tryd.prog 72 2 18 4 := .mk' (by kernel_rfl)
instance : FldI Tryd.prog 72 3 19 4 := .mk' (by kernel_rfl)
instance : AgI Tryd.prog 74 false := ⟨by kernel_rfl⟩
instance : InfoI Tryd.prog 74 1 (.nilFunc) := ⟨by kernel_rfl⟩
instance : BytI Tryd.prog 74 8 := ⟨by kernel_rfl⟩
instance : AgI Tryd.prog 75 false := ⟨by kernel_rfl⟩
instance : InfoI Tryd.prog 75 1 (.nilFunc) := ⟨by kernel_rfl⟩
instance : BytI Tryd.prog 75 8 := ⟨by kernel_rfl⟩
instance : AgI Tryd.prog 76 false := ⟨by kernel_rfl⟩
instance : UnI Tryd.prog 76 (.int .u64) := ⟨by kernel_rfl⟩
instance : InfoI Tryd.prog 76 1 (.int .u64 0) := ⟨by kernel_rfl⟩
instance : BytI Tryd.prog 76 8 := ⟨by kernel_rfl⟩
instance : AgI Tryd.prog 77 false := ⟨by kernel_rfl⟩
instance : InfoI Tryd.prog 77 1 (.nilFunc) := ⟨by kernel_rfl⟩
instance : BytI Tryd.prog 77 8 := ⟨by kernel_rfl⟩
instance : AgI Tryd.prog 78 true := ⟨by kernel_rfl⟩
instance : UnI Tryd.prog 78 (.array 32 5) := ⟨by kernel_rfl⟩
instance : InfoI Tryd.prog 78 32 (.agg #[.int .u8 0, .int .u8 0, .int .u8 0, .int .u8 0, .int .u8 0, .int .u8 0, .int .u8 0, .int .u8 0, .int .u8 0, .int .u8 0, .int .u8 0, .int .u8 0, .int .u8 0, .int .u8 0, .int .u8 0, .int .u8 0, .int .u8 0, .int .u8 0, .int .u8 0, .int .u8 0, .int .u8 0, .int .u8 0, .int .u8 0, .int .u8 0, .int .u8 0, .int .u8 0, .int .u8 0, .int .u8 0, .int .u8 0, .int .u8 0, .int .u8 0, .int .u8 0]) := ⟨by kernel_rfl⟩
instance : BytI Tryd.prog 78 32 := ⟨by kernel_rfl⟩
instance : EqI Tryd.prog 78 32 .u8 := .mk' (by kernel_rfl)
instance : AgI Tryd.prog 79 true := ⟨by kernel_rfl⟩
instance : UnI Tryd.prog 79 (.array 32 5) := ⟨by kernel_rfl⟩
instance : InfoI Tryd.prog 79 32 (.agg #[.int .u8 0, .int .u8 0, .int .u8 0, .int .u8 0, .int .u8 0, .int .u8 0, .int .u8 0, .int .u8 0, .int .u8 0, .int .u8 0, .int .u8 0, .int .u8 0, .int .u8 0, .int .u8 0, .int .u8 0, .int .u8 0, .int .u8 0, .int .u8 0, .int .u8 0, .int .u8 0, .int .u8 0, .int .u8 0, .int .u8 0, .int .u8 0, .int .u8 0, .int .u8 0, .int .u8 0, .int .u8 0, .int .u8 0, .int .u8 0, .int .u8 0, .int .u8 0]) := ⟨by kernel_rfl⟩
instance : BytI Tryd.prog 79 32 := ⟨by kernel_rfl⟩
instance : EqI Tryd.prog 79 32 .u8 := .mk' (by kernel_rfl)
instance : AgI Tryd.prog 80 false := ⟨by kernel_rfl⟩
instance : InfoI Tryd.prog 80 1 (.nilFunc) := ⟨by kernel_rfl⟩
instance : BytI Tryd.prog 80 8 := ⟨by kernel_rfl⟩
instance : AgI Tryd.prog 81 false := ⟨by kernel_rfl⟩
instance : InfoI Tryd.prog 81 1 (.nilFunc) := ⟨by kernel_rfl⟩
instance : BytI Tryd.prog 81 8 := ⟨by kernel_rfl⟩
instance : AgI Tryd.prog 82 false := ⟨by kernel_rfl⟩
instance : UnI Tryd.prog 82 (.pointer 87) := ⟨by kernel_rfl⟩
instance : InfoI Tryd.prog 82 1 (.pointer none) := ⟨by kernel_rfl⟩
instance : BytI Tryd.prog 82 8 := ⟨by kernel_rfl⟩
instance : AgI Tryd.prog 83 true := ⟨by kernel_rfl⟩
instance : InfoI Tryd.prog 83 2 (.agg #[.slice none 0 0, .bool false]) := ⟨by kernel_rfl⟩
instance : BytI Tryd.prog 83 32 := ⟨by kernel_rfl⟩
instance : StrI Tryd.prog 83 [(0, 1), (1, 1)] := ⟨by kernel_rfl⟩
instance : FldI Tryd.prog 83 0 0 28 := .mk' (by kernel_rfl)
instance : FldI Tryd.prog 83 1 1 4 := .mk' (by kernel_rfl)
instance : AgI Tryd.prog 84 true := ⟨by kernel_rfl⟩
instance : InfoI Tryd.prog 84 2 (.agg #[.slice none 0 0, .bool false]) := ⟨by kernel_rfl⟩
instance : BytI Tryd.prog 84 32 := ⟨by kernel_rfl⟩
instance : StrI Tryd.prog 84 [(0, 1), (1, 1)] := ⟨by kernel_rfl⟩
instance : FldI Tryd.prog 84 0 0 28 := .mk' (by kernel_rfl)
instance : FldI Tryd.prog 84 1 1 4 := .mk' (by kernel_rfl)
instance : AgI Tryd.prog 85 false := ⟨by kernel_rfl⟩
instance : UnI Tryd.prog 85 (.pointer 84) := ⟨by kernel_rfl⟩
instance : InfoI Tryd.prog 85 1 (.pointer none) := ⟨by kernel_rfl⟩
instance : BytI Tryd.prog 85 8 := ⟨by kernel_rfl⟩
instance : AgI Tryd.prog 86 true := ⟨by kernel_rfl⟩
instance : InfoI Tryd.prog 86 4 (.agg #[.slice none 0 0, .bool false, .pointer none, .int .i64 0]) := ⟨by kernel_rfl⟩
instance : BytI Tryd.prog 86 48 := ⟨by kernel_rfl⟩
instance : StrI Tryd.prog 86 [(0, 2), (2, 1), (3, 1)] := ⟨by kernel_rfl⟩
instance : FldI Tryd.prog 86 0 0 84 := .mk' (by kernel_rfl)
instance : FldI Tryd.prog 86 1 2 85 := .mk' (by kernel_rfl)
instance : FldI Tryd.prog 86 2 3 3 := .mk' (by kernel_rfl)
instance : AgI Tryd.prog 87 true := ⟨by kernel_rfl⟩
instance : InfoI Tryd.prog 87 4 (.agg #[.slice none 0 0, .bool false, .pointer none, .int .i64 0]) := ⟨by kernel_rfl⟩
instance : BytI Tryd.prog 87 48 := ⟨by kernel_rfl⟩
instance : StrI Tryd.prog 87 [(0, 2), (2, 1), (3, 1)] := ⟨by kernel_rfl⟩
instance : FldI Tryd.prog 87 0 0 84 := .mk' (by kernel_rfl)
instance : FldI Tryd.prog 87 1 2 85 := .mk' (by kernel_rfl)
instance : FldI Tryd.prog 87 2 3 3 := .mk' (by kernel_rfl)
instance : AgI Tryd.prog 88 false := ⟨by kernel_rfl⟩
instance : InfoI Tryd.prog 88 1 (.nilFunc) := ⟨by kernel_rfl⟩
instance : BytI Tryd.prog 88 8 := ⟨by kernel_rfl⟩
instance : AgI Tryd.prog 89 false := ⟨by kernel_rfl⟩
instance : UnI Tryd.prog 89 (.map 4 88) := ⟨by kernel_rfl⟩
instance : InfoI Tryd.prog 89 1 (.map none) := ⟨by kernel_rfl⟩
instance : BytI Tryd.prog 89 8 := ⟨by kernel_rfl⟩
instance : AgI Tryd.prog 90 true := ⟨by kernel_rfl⟩
instance : UnI Tryd.prog 90 (.array 5 1) := ⟨by kernel_rfl⟩
instance : InfoI Tryd.prog 90 5 (.agg #[.nilFunc, .nilFunc, .nilFunc, .nilFunc, .nilFunc]) := ⟨by kernel_rfl⟩
instance : BytI Tryd.prog 90 40 := ⟨by kernel_rfl⟩
instance : AgI Tryd.prog 91 true := ⟨by kernel_rfl⟩
instance : UnI Tryd.prog 91 (.array 8 23) := ⟨by kernel_rfl⟩
instance : InfoI Tryd.prog 91 8 (.agg #[.int .u64 0, .int .u64 0, .int .u64 0, .int .u64 0, .int .u64 0, .int .u64 0, .int .u64 0, .int .u64 0]) := ⟨by kernel_rfl⟩
instance : BytI Tryd.prog 91 64 := ⟨by kernel_rfl⟩
instance : EqI Tryd.prog 91 8 .u64 := .mk' (by kernel_rfl)
instance : AgI Tryd.prog 93 false := ⟨by kernel_rfl⟩
instance : InfoI Tryd.prog 93 1 (.nilFunc) := ⟨by kernel_rfl⟩
instance : BytI Tryd.prog 93 8 := ⟨by kernel_rfl⟩
instance : AgI Tryd.prog 94 false := ⟨by kernel_rfl⟩
instance : InfoI Tryd.prog 94 1 (.nilFunc) := ⟨by kernel_rfl⟩
instance : BytI Tryd.prog 94 8 := ⟨by kernel_rfl⟩
instance : AgI Tryd.prog 95 false := ⟨by kernel_rfl⟩
instance : InfoI Tryd.prog 95 1 (.nilFunc) := ⟨by kernel_rfl⟩
instance : BytI Tryd.prog 95 8 := ⟨by kernel_rfl⟩
instance : AgI Tryd.prog 96 false := ⟨by kernel_rfl⟩
instance : UnI Tryd.prog 96 (.slice 3) := ⟨by kernel_rfl⟩
instance : InfoI Tryd.prog 96 1 (.slice none 0 0) := ⟨by kernel_rfl⟩
instance : BytI Tryd.prog 96 24 := ⟨by kernel_rfl⟩
instance : AgI Tryd.prog 97 false := ⟨by kernel_rfl⟩
instance : InfoI Tryd.prog 97 1 (.nilFunc) := ⟨by kernel_rfl⟩
instance : BytI Tryd.prog 97 8 := ⟨by kernel_rfl⟩
instance : AgI Tryd.prog 98 false := ⟨by kernel_rfl⟩
instance : InfoI Tryd.prog 98 1 (.nilFunc) := ⟨by kernel_rfl⟩
instance : BytI Tryd.prog 98 8 := ⟨by kernel_rfl⟩
instance : AgI Tryd.prog 99 false := ⟨by kernel_rfl⟩
instance : InfoI Tryd.prog 99 1 (.nilFunc) := ⟨by kernel_rfl⟩
instance : BytI Tryd.prog 99 8 := ⟨by kernel_rfl⟩
instance : AgI Tryd.prog 100 false := ⟨by kernel_rfl⟩
instance : InfoI Tryd.prog 100 1 (.nilFunc) := ⟨by kernel_rfl⟩
instance : BytI Tryd.prog 100 8 := ⟨by kernel_rfl⟩
instance : AgI Tryd.prog 101 true := ⟨by kernel_rfl⟩
instance : UnI Tryd.prog 101 (.array 25 23) := ⟨by kernel_rfl⟩
instance : InfoI Tryd.prog 101 25 (.agg #[.int .u64 0, .int .u64 0, .int .u64 0, .int .u64 0, .int .u64 0, .int .u64 0, .int .u64 0, .int .u64 0, .int .u64 0, .int .u64 0, .int .u64 0, .int .u64 0, .int .u64 0, .int .u64 0, .int .u64 0, .int .u64 0, .int .u64 0, .int .u64 0, .int .u64 0, .int .u64 0, .int .u64 0, .int .u64 0, .int .u64 0, .int .u64 0, .int .u64 0]) := ⟨by kernel_rfl⟩
instance : BytI Tryd.prog 101 200 := ⟨by kernel_rfl⟩
instance : EqI Tryd.prog 101 25 .u64 := .mk' (by kernel_rfl)
instance : AgI Tryd.prog 102 true := ⟨by kernel_rfl⟩
instance : UnI Tryd.prog 102 (.array 25 23) := ⟨by kernel_rfl⟩
instance : InfoI Tryd.prog 102 25 (.agg #[.int .u64 0, .int .u64 0, .int .u64 0, .int .u64 0, .int .u64 0, .int .u64 0, .int .u64 0, .int .u64 0, .int .u64 0, .int .u64 0, .int .u64 0, .int .u64 0, .int .u64 0, .int .u64 0, .int .u64 0, .int .u64 0, .int .u64 0, .int .u64 0, .int .u64 0, .int .u64 0, .int .u64 0, .int .u64 0, .int .u64 0, .int .u64 0, .int .u64 0]) := ⟨by kernel_rfl⟩
instance : BytI Tryd.prog 102 200 := ⟨by kernel_rfl⟩
instance : EqI Tryd.prog 102 25 .u64 := .mk' (by kernel_rfl)
instance : AgI Tryd.prog 103 false := ⟨by kernel_rfl⟩
instance : InfoI Tryd.prog 103 1 (.nilFunc) := ⟨by kernel_rfl⟩
instance : BytI Tryd.prog 103 8 := ⟨by kernel_rfl⟩
instance : AgI Tryd.prog 104 false := ⟨by kernel_rfl⟩
instance : InfoI Tryd.prog 104 1 (.nilFunc) := ⟨by kernel_rfl⟩
instance : BytI Tryd.prog 104 8 := ⟨by kernel_rfl⟩
instance : AgI Tryd.prog 105 false := ⟨by kernel_rfl⟩
instance : InfoI Tryd.prog 105 1 (.nilFunc) := ⟨by kernel_rfl⟩
instance : BytI Tryd.prog 105 8 := ⟨by kernel_rfl⟩
instance : AgI Tryd.prog 106 false := ⟨by kernel_rfl⟩
instance : InfoI Tryd.prog 106 1 (.nilFunc) := ⟨by kernel_rfl⟩
instance : BytI Tryd.prog 106 8 := ⟨by kernel_rfl⟩
instance : AgI Tryd.prog 107 false := ⟨by kernel_rfl⟩
instance : InfoI Tryd.prog 107 1 (.nilFunc) := ⟨by kernel_rfl⟩
instance : BytI Tryd.prog 107 8 := ⟨by kernel_rfl⟩
instance : AgI Tryd.prog 108 false := ⟨by kernel_rfl⟩
instance : InfoI Tryd.prog 108 1 (.nilFunc) := ⟨by kernel_rfl⟩
instance : BytI Tryd.prog 108 8 := ⟨by kernel_rfl⟩
instance : AgI Tryd.prog 110 false := ⟨by kernel_rfl⟩
instance : InfoI Tryd.prog 110 1 (.nilFunc) := ⟨by kernel_rfl⟩
instance : BytI Tryd.prog 110 8 := ⟨by kernel_rfl⟩
instance : AgI Tryd.prog 111 false := ⟨by kernel_rfl⟩
instance : InfoI Tryd.prog 111 1 (.nilFunc) := ⟨by kernel_rfl⟩
instance : BytI Tryd.prog 111 8 := ⟨by kernel_rfl⟩
instance : AgI Tryd.prog 112 false := ⟨by kernel_rfl⟩
instance : UnI Tryd.prog 112 (.pointer 25) := ⟨by kernel_rfl⟩
instance : InfoI Tryd.prog 112 1 (.pointer none) := ⟨by kernel_rfl⟩
instance : BytI Tryd.prog 112 8 := ⟨by kernel_rfl⟩
instance : AgI Tryd.prog 113 false := ⟨by kernel_rfl⟩
instance : InfoI Tryd.prog 113 1 (.nilFunc) := ⟨by kernel_rfl⟩
instance : BytI Tryd.prog 113 8 := ⟨by kernel_rfl⟩
instance : AgI Tryd.prog 114 false := ⟨by kernel_rfl⟩
instance : UnI Tryd.prog 114 (.pointer 27) := ⟨by kernel_rfl⟩
instance : InfoI Tryd.prog 114 1 (.pointer none) := ⟨by kernel_rfl⟩
instance : BytI Tryd.prog 114 8 := ⟨by kernel_rfl⟩
instance : AgI Tryd.prog 115 false := ⟨by kernel_rfl⟩
instance : InfoI Tryd.prog 115 1 (.nilFunc) := ⟨by kernel_rfl⟩
instance : BytI Tryd.prog 115 8 := ⟨by kernel_rfl⟩
instance : AgI Tryd.prog 116 false := ⟨by kernel_rfl⟩
instance : UnI Tryd.prog 116 (.pointer 28) := ⟨by kernel_rfl⟩
instance : InfoI Tryd.prog 116 1 (.pointer none) := ⟨by kernel_rfl⟩
instance : BytI Tryd.prog 116 8 := ⟨by kernel_rfl⟩
instance : AgI Tryd.prog 117 false := ⟨by kernel_rfl⟩
instance : InfoI Tryd.prog 117 1 (.nilFunc) := ⟨by kernel_rfl⟩
instance : BytI Tryd.prog 117 8 := ⟨by kernel_rfl⟩
instance : AgI Tryd.prog 118 false := ⟨by kernel_rfl⟩
instance : UnI Tryd.prog 118 (.pointer 23) := ⟨by kernel_rfl⟩
instance : InfoI Tryd.prog 118 1 (.pointer none) := ⟨by kernel_rfl⟩
instance : BytI Tryd.prog 118 8 := ⟨by kernel_rfl⟩
instance : AgI Tryd.prog 119 false := ⟨by kernel_rfl⟩
instance : InfoI Tryd.prog 119 1 (.nilFunc) := ⟨by kernel_rfl⟩
instance : BytI Tryd.prog 119 8 := ⟨by kernel_rfl⟩
instance : AgI Tryd.prog 120 false := ⟨by kernel_rfl⟩
instance : InfoI Tryd.prog 120 1 (.nilFunc) := ⟨by kernel_rfl⟩
instance : BytI Tryd.prog 120 8 := ⟨by kernel_rfl⟩
instance : AgI Tryd.prog 121 false := ⟨by kernel_rfl⟩
instance : InfoI Tryd.prog 121 1 (.nilFunc) := ⟨by kernel_rfl⟩
instance : BytI Tryd.prog 121 8 := ⟨by kernel_rfl⟩
instance : AgI Tryd.prog 122 true := ⟨by kernel_rfl⟩
instance : UnI Tryd.prog 122 (.array 24 23) := ⟨by kernel_rfl⟩
instance : InfoI Tryd.prog 122 24 (.agg #[.int .u64 0, .int .u64 0, .int .u64 0, .int .u64 0, .int .u64 0, .int .u64 0, .int .u64 0, .int .u64 0, .int .u64 0, .int .u64 0, .int .u64 0, .int .u64 0, .int .u64 0, .int .u64 0, .int .u64 0, .int .u64 0, .int .u64 0, .int .u64 0, .int .u64 0, .int .u64 0, .int .u64 0, .int .u64 0, .int .u64 0, .int .u64 0]) := ⟨by kernel_rfl⟩
instance : BytI Tryd.prog 122 192 := ⟨by kernel_rfl⟩
instance : EqI Tryd.prog 122 24 .u64 := .mk' (by kernel_rfl)
instance : AgI Tryd.prog 123 false := ⟨by kernel_rfl⟩
instance : InfoI Tryd.prog 123 1 (.nilFunc) := ⟨by kernel_rfl⟩
instance : BytI Tryd.prog 123 8 := ⟨by kernel_rfl⟩
instance : AgI Tryd.prog 124 false := ⟨by kernel_rfl⟩
instance : InfoI Tryd.prog 124 1 (.nilFunc) := ⟨by kernel_rfl⟩
instance : BytI Tryd.prog 124 8 := ⟨by kernel_rfl⟩
instance : AgI Tryd.prog 125 false := ⟨by kernel_rfl⟩
instance : InfoI Tryd.prog 125 1 (.nilFunc) := ⟨by kernel_rfl⟩
instance : BytI Tryd.prog 125 8 := ⟨by kernel_rfl⟩
instance : AgI Tryd.prog 126 false := ⟨by kernel_rfl⟩
instance : InfoI Tryd.prog 126 1 (.nilFunc) := ⟨by kernel_rfl⟩
instance : BytI Tryd.prog 126 8 := ⟨by kernel_rfl⟩
instance : AgI Tryd.prog 127 false := ⟨by kernel_rfl⟩
instance : InfoI Tryd.prog 127 1 (.nilFunc) := ⟨by kernel_rfl⟩
instance : BytI Tryd.prog 127 8 := ⟨by kernel_rfl⟩
instance : AgI Tryd.prog 128 false := ⟨by kernel_rfl⟩
instance : InfoI Tryd.prog 128 1 (.nilFunc) := ⟨by kernel_rfl⟩
instance : BytI Tryd.prog 128 8 := ⟨by kernel_rfl⟩
instance : AgI Tryd.prog 129 false := ⟨by kernel_rfl⟩
instance : InfoI Tryd.prog 129 1 (.nilFunc) := ⟨by kernel_rfl⟩
instance : BytI Tryd.prog 129 8 := ⟨by kernel_rfl⟩
instance : AgI Tryd.prog 130 false := ⟨by kernel_rfl⟩
instance : InfoI Tryd.prog 130 1 (.nilFunc) := ⟨by kernel_rfl⟩
instance : BytI Tryd.prog 130 8 := ⟨by kernel_rfl⟩
instance : AgI Tryd.prog 131 true := ⟨by kernel_rfl⟩
instance : UnI Tryd.prog 131 (.array 5 23) := ⟨by kernel_rfl⟩
instance : InfoI Tryd.prog 131 5 (.agg #[.int .u64 0, .int .u64 0, .int .u64 0, .int .u64 0, .int .u64 0]) := ⟨by kernel_rfl⟩
instance : BytI Tryd.prog 131 40 := ⟨by kernel_rfl⟩
instance : EqI Tryd.prog 131 5 .u64 := .mk' (by kernel_rfl)
instance : AgI Tryd.prog 132 false := ⟨by kernel_rfl⟩
instance : InfoI Tryd.prog 132 1 (.nilFunc) := ⟨by kernel_rfl⟩
instance : BytI Tryd.prog 132 8 := ⟨by kernel_rfl⟩
instance : AgI Tryd.prog 133 true := ⟨by kernel_rfl⟩
instance : UnI Tryd.prog 133 (.array 25 3) := ⟨by kernel_rfl⟩
instance : InfoI Tryd.prog 133 25 (.agg #[.int .i64 0, .int .i64 0, .int .i64 0, .int .i64 0, .int .i64 0, .int .i64 0, .int .i64 0, .int .i64 0, .int .i64 0, .int .i64 0, .int .i64 0, .int .i64 0, .int .i64 0, .int .i64 0, .int .i64 0, .int .i64 0, .int .i64 0, .int .i64 0, .int .i64 0, .int .i64 0, .int .i64 0, .int .i64 0, .int .i64 0, .int .i64 0, .int .i64 0]) := ⟨by kernel_rfl⟩
instance : BytI Tryd.prog 133 200 := ⟨by kernel_rfl⟩
instance : EqI Tryd.prog 133 25 .i64 := .mk' (by kernel_rfl)
instance : AgI Tryd.prog 134 false := ⟨by kernel_rfl⟩
instance : InfoI Tryd.prog 134 1 (.nilFunc) := ⟨by kernel_rfl⟩
instance : BytI Tryd.prog 134 8 := ⟨by kernel_rfl⟩
instance : AgI Tryd.prog 135 false := ⟨by kernel_rfl⟩
instance : InfoI Tryd.prog 135 1 (.nilFunc) := ⟨by kernel_rfl⟩
instance : BytI Tryd.prog 135 8 := ⟨by kernel_rfl⟩
instance : AgI Tryd.prog 136 true := ⟨by kernel_rfl⟩
instance : InfoI Tryd.prog 136 4 (.agg #[.pointer none, .pointer none, .pointer none, .string ⟨#[]⟩]) := ⟨by kernel_rfl⟩
instance : BytI Tryd.prog 136 40 := ⟨by kernel_rfl⟩
instance : StrI Tryd.prog 136 [(0, 1), (1, 1), (2, 1), (3, 1)] := ⟨by kernel_rfl⟩
instance : FldI Tryd.prog 136 0 0 17 := .mk' (by kernel_rfl)
instance : FldI Tryd.prog 136 1 1 17 := .mk' (by kernel_rfl)
instance : FldI Tryd.prog 136 2 2 17 := .mk' (by kernel_rfl)
instance : FldI Tryd.prog 136 3 3 9 := .mk' (by kernel_rfl)
instance : AgI Tryd.prog 137 true := ⟨by kernel_rfl⟩
instance : InfoI Tryd.prog 137 4 (.agg #[.pointer none, .pointer none, .pointer none, .string ⟨#[]⟩]) := ⟨by kernel_rfl⟩
instance : BytI Tryd.prog 137 40 := ⟨by kernel_rfl⟩
instance : StrI Tryd.prog 137 [(0, 1), (1, 1), (2, 1), (3, 1)] := ⟨by kernel_rfl⟩
instance : FldI Tryd.prog 137 0 0 17 := .mk' (by kernel_rfl)
instance : FldI Tryd.prog 137 1 1 17 := .mk' (by kernel_rfl)
instance : FldI Tryd.prog 137 2 2 17 := .mk' (by kernel_rfl)
instance : FldI Tryd.prog 137 3 3 9 := .mk' (by kernel_rfl)
instance : AgI Tryd.prog 138 true := ⟨by kernel_rfl⟩
instance : UnI Tryd.prog 138 (.array 0 16) := ⟨by kernel_rfl⟩
instance : InfoI Tryd.prog 138 0 (.agg #[]) := ⟨by kernel_rfl⟩
instance : BytI Tryd.prog 138 0 := ⟨by kernel_rfl⟩
instance : AgI Tryd.prog 139 true := ⟨by kernel_rfl⟩
instance : InfoI Tryd.prog 139 0 (.agg #[]) := ⟨by kernel_rfl⟩
instance : BytI Tryd.prog 139 0 := ⟨by kernel_rfl⟩
instance : StrI Tryd.prog 139 [(0, 0)] := ⟨by kernel_rfl⟩
instance : FldI Tryd.prog 139 0 0 138 := .mk' (by kernel_rfl)
instance : AgI Tryd.prog 140 true := ⟨by kernel_rfl⟩
instance : InfoI Tryd.prog 140 0 (.agg #[]) := ⟨by kernel_rfl⟩
instance : BytI Tryd.prog 140 0 := ⟨by kernel_rfl⟩
instance : StrI Tryd.prog 140 [(0, 0)] := ⟨by kernel_rfl⟩
instance : FldI Tryd.prog 140 0 0 138 := .mk' (by kernel_rfl)
instance : AgI Tryd.prog 141 false := ⟨by kernel_rfl⟩
instance : InfoI Tryd.prog 141 1 (.nilFunc) := ⟨by kernel_rfl⟩
instance : BytI Tryd.prog 141 8 := ⟨by kernel_rfl⟩
instance : AgI Tryd.prog 142 false := ⟨by kernel_rfl⟩
instance : UnI Tryd.prog 142 (.int .u32) := ⟨by kernel_rfl⟩
instance : InfoI Tryd.prog 142 1 (.int .u32 0) := ⟨by kernel_rfl⟩
instance : BytI Tryd.prog 142 4 := ⟨by kernel_rfl⟩
instance : AgI Tryd.prog 143 false := ⟨by kernel_rfl⟩
instance : UnI Tryd.prog 143 (.int .u8) := ⟨by kernel_rfl⟩
instance : InfoI Tryd.prog 143 1 (.int .u8 0) := ⟨by kernel_rfl⟩
instance : BytI Tryd.prog 143 1 := ⟨by kernel_rfl⟩
instance : AgI Tryd.prog 144 false := ⟨by kernel_rfl⟩
instance : UnI Tryd.prog 144 (.int .u8) := ⟨by kernel_rfl⟩
instance : InfoI Tryd.prog 144 1 (.int .u8 0) := ⟨by kernel_rfl⟩
instance : BytI Tryd.prog 144 1 := ⟨by kernel_rfl⟩
instance : AgI Tryd.prog 145 false := ⟨by kernel_rfl⟩
instance : InfoI Tryd.prog 145 1 (.nilFunc) := ⟨by kernel_rfl⟩
instance : BytI Tryd.prog 145 8 := ⟨by kernel_rfl⟩
instance : AgI Tryd.prog 146 false := ⟨by kernel_rfl⟩
instance : UnI Tryd.prog 146 (.pointer 5) := ⟨by kernel_rfl⟩
instance : InfoI Tryd.prog 146 1 (.pointer none) := ⟨by kernel_rfl⟩
instance : BytI Tryd.prog 146 8 := ⟨by kernel_rfl⟩
instance : AgI Tryd.prog 147 false := ⟨by kernel_rfl⟩
instance : UnI Tryd.prog 147 (.int .i32) := ⟨by kernel_rfl⟩
instance : InfoI Tryd.prog 147 1 (.int .i32 0) := ⟨by kernel_rfl⟩
instance : BytI Tryd.prog 147 4 := ⟨by kernel_rfl⟩
instance : AgI Tryd.prog 148 false := ⟨by kernel_rfl⟩
instance : UnI Tryd.prog 148 (.int .i32) := ⟨by kernel_rfl⟩
instance : InfoI Tryd.prog 148 1 (.int .i32 0) := ⟨by kernel_rfl⟩
instance : BytI Tryd.prog 148 4 := ⟨by kernel_rfl⟩
instance : AgI Tryd.prog 149 true := ⟨by kernel_rfl⟩
instance : InfoI Tryd.prog 149 11 (.agg #[.int .u64 0, .int .u64 0, .int .u32 0, .int .u8 0, .int .u8 0, .int .u8 0, .int .u8 0, .nilFunc, .pointer none, .int .i32 0, .int .i32 0]) := ⟨by kernel_rfl⟩
instance : BytI Tryd.prog 149 48 := ⟨by kernel_rfl⟩
instance : StrI Tryd.prog 149 [(0, 1), (1, 1), (2, 1), (3, 1), (4, 1), (5, 1), (6, 1), (7, 1), (8, 1), (9, 1), (10, 1)] := ⟨by kernel_rfl⟩
instance : FldI Tryd.prog 149 0 0 12 := .mk' (by kernel_rfl)
instance : FldI Tryd.prog 149 1 1 12 := .mk' (by kernel_rfl)
instance : FldI Tryd.prog 149 2 2 142 := .mk' (by kernel_rfl)
instance : FldI Tryd.prog 149 3 3 143 := .mk' (by kernel_rfl)
instance : FldI Tryd.prog 149 4 4 5 := .mk' (by kernel_rfl)
instance : FldI Tryd.prog 149 5 5 5 := .mk' (by kernel_rfl)
instance : FldI Tryd.prog 149 6 6 144 := .mk' (by kernel_rfl)
instance : FldI Tryd.prog 149 7 7 145 := .mk' (by kernel_rfl)
instance : FldI Tryd.prog 149 8 8 146 := .mk' (by kernel_rfl)
instance : FldI Tryd.prog 149 9 9 147 := .mk' (by kernel_rfl)
instance : FldI Tryd.prog 149 10 10 148 := .mk' (by kernel_rfl)
instance : AgI Tryd.prog 150 true := ⟨by kernel_rfl⟩
instance : InfoI Tryd.prog 150 11 (.agg #[.int .u64 0, .int .u64 0, .int .u32 0, .int .u8 0, .int .u8 0, .int .u8 0, .int .u8 0, .nilFunc, .pointer none, .int .i32 0, .int .i32 0]) := ⟨by kernel_rfl⟩
instance : BytI Tryd.prog 150 48 := ⟨by kernel_rfl⟩
instance : StrI Tryd.prog 150 [(0, 1), (1, 1), (2, 1), (3, 1), (4, 1), (5, 1), (6, 1), (7, 1), (8, 1), (9, 1), (10, 1)] := ⟨by kernel_rfl⟩
instance : FldI Tryd.prog 150 0 0 12 := .mk' (by kernel_rfl)
instance : FldI Tryd.prog 150 1 1 12 := .mk' (by kernel_rfl)
instance : FldI Tryd.prog 150 2 2 142 := .mk' (by kernel_rfl)
instance : FldI Tryd.prog 150 3 3 143 := .mk' (by kernel_rfl)
instance : FldI Tryd.prog 150 4 4 5 := .mk' (by kernel_rfl)
instance : FldI Tryd.prog 150 5 5 5 := .mk' (by kernel_rfl)
instance : FldI Tryd.prog 150 6 6 144 := .mk' (by kernel_rfl)
instance : FldI Tryd.prog 150 7 7 145 := .mk' (by kernel_rfl)
instance : FldI Tryd.prog 150 8 8 146 := .mk' (by kernel_rfl)
instance : FldI Tryd.prog 150 9 9 147 := .mk' (by kernel_rfl)
instance : FldI Tryd.prog 150 10 10 148 := .mk' (by kernel_rfl)
instance : AgI Tryd.prog 151 false := ⟨by kernel_rfl⟩
instance : UnI Tryd.prog 151 (.unsafePointer) := ⟨by kernel_rfl⟩
instance : InfoI Tryd.prog 151 1 (.pointer none) := ⟨by kernel_rfl⟩
instance : BytI Tryd.prog 151 8 := ⟨by kernel_rfl⟩
instance : FnI Tryd.prog 2 := .mk' Tryd.func2 (by kernel_rfl) (by kernel_rfl)
instance : FnI Tryd.prog 3 := .mk' Tryd.func3 (by kernel_rfl) (by kernel_rfl)
instance : FnI Tryd.prog 4 := .mk' Tryd.func4 (by kernel_rfl) (by kernel_rfl)
instance : FnI Tryd.prog 5 := .mk' Tryd.func5 (by kernel_rfl) (by kernel_rfl)
instance : FnI Tryd.prog 6 := .mk' Tryd.func6 (by kernel_rfl) (by kernel_rfl)
instance : FnI Tryd.prog 7 := .mk' Tryd.func7 (by kernel_rfl) (by kernel_rfl)
instance : FnI Tryd.prog 8 := .mk' Tryd.func8 (by kernel_rfl) (by kernel_rfl)
instance : FnI Tryd.prog 9 := .mk' Tryd.func9 (by kernel_rfl) (by kernel_rfl)
instance : FnI Tryd.prog 10 := .mk' Tryd.func10 (by kernel_rfl) (by kernel_rfl)
instance : FnI Tryd.prog 11 := .mk' Tryd.func11 (by kernel_rfl) (by kernel_rfl)
instance : FnI Tryd.prog 12 := .mk' Tryd.func12 (by kernel_rfl) (by kernel_rfl)
instance : FnI Tryd.prog 13 := .mk' Tryd.func13 (by kernel_rfl) (by kernel_rfl)
instance : FnI Tryd.prog 14 := .mk' Tryd.func14 (by kernel_rfl) (by kernel_rfl)
instance : FnI Tryd.prog 15 := .mk' Tryd.func15 (by kernel_rfl) (by kernel_rfl)
instance : FnI Tryd.prog 16 := .mk' Tryd.func16 (by kernel_rfl) (by kernel_rfl)
instance : FnI Tryd.prog 17 := .mk' Tryd.func17 (by kernel_rfl) (by kernel_rfl)
instance : FnI Tryd.prog 18 := .mk' Tryd.func18 (by kernel_rfl) (by kernel_rfl)
instance : FnI Tryd.prog 19 := .mk' Tryd.func19 (by kernel_rfl) (by kernel_rfl)
instance : FnI Tryd.prog 20 := .mk' Tryd.func20 (by kernel_rfl) (by kernel_rfl)
instance : FnI Tryd.prog 21 := .mk' Tryd.func21 (by kernel_rfl) (by kernel_rfl)
instance : FnI Tryd.prog 22 := .mk' Tryd.func22 (by kernel_rfl) (by kernel_rfl)
instance : FnI Tryd.prog 23 := .mk' Tryd.func23 (by kernel_rfl) (by kernel_rfl)
instance : FnI Tryd.prog 24 := .mk' Tryd.func24 (by kernel_rfl) (by kernel_rfl)
instance : FnI Tryd.prog 25 := .mk' Tryd.func25 (by kernel_rfl) (by kernel_rfl)
instance : FnI Tryd.prog 26 := .mk' Tryd.func26 (by kernel_rfl) (by kernel_rfl)
instance : FnI Tryd.prog 27 := .mk' Tryd.func27 (by kernel_rfl) (by kernel_rfl)
instance : FnI Tryd.prog 28 := .mk' Tryd.func28 (by kernel_rfl) (by kernel_rfl)
instance : FnI Tryd.prog 29 := .mk' Tryd.func29 (by kernel_rfl) (by kernel_rfl)
instance : FnI Tryd.prog 30 := .mk' Tryd.func30 (by kernel_rfl) (by kernel_rfl)
instance : FnI Tryd.prog 31 := .mk' Tryd.func31 (by kernel_rfl) (by kernel_rfl)
instance : FnI Tryd.prog 32 := .mk' Tryd.func32 (by kernel_rfl) (by kernel_rfl)
instance : FnI Tryd.prog 33 := .mk' Tryd.func33 (by kernel_rfl) (by kernel_rfl)
instance : FnI Tryd.prog 34 := .mk' Tryd.func34 (by kernel_rfl) (by kernel_rfl)
instance : FnI Tryd.prog 35 := .mk' Tryd.func35 (by kernel_rfl) (by kernel_rfl)
instance : FnI Tryd.prog 36 := .mk' Tryd.func36 (by kernel_rfl) (by kernel_rfl)
instance : FnI Tryd.prog 37 := .mk' Tryd.func37 (by kernel_rfl) (by kernel_rfl)
instance : FnI Tryd.prog 38 := .mk' Tryd.func38 (by kernel_rfl) (by kernel_rfl)
instance : FnI Tryd.prog 39 := .mk' Tryd.func39 (by kernel_rfl) (by kernel_rfl)
instance : FnI Tryd.prog 40 := .mk' Tryd.func40 (by kernel_rfl) (by kernel_rfl)
instance : FnI Tryd.prog 41 := .mk' Tryd.func41 (by kernel_rfl) (by kernel_rfl)
instance : FnI Tryd.prog 42 := .mk' Tryd.func42 (by kernel_rfl) (by kernel_rfl)
instance : FnI Tryd.prog 43 := .mk' Tryd.func43 (by kernel_rfl) (by kernel_rfl)
instance : FnI Tryd.prog 44 := .mk' Tryd.func44 (by kernel_rfl) (by kernel_rfl)
instance : FnI Tryd.prog 45 := .mk' Tryd.func45 (by kernel_rfl) (by kernel_rfl)
instance : FnI Tryd.prog 46 := .mk' Tryd.func46 (by kernel_rfl) (by kernel_rfl)
instance : FnI Tryd.prog 47 := .mk' Tryd.func47 (by kernel_rfl) (by kernel_rfl)
instance : FnI Tryd.prog 48 := .mk' Tryd.func48 (by kernel_rfl) (by kernel_rfl)
instance : FnI Tryd.prog 49 := .mk' Tryd.func49 (by kernel_rfl) (by kernel_rfl)
instance : FnI Tryd.prog 50 := .mk' Tryd.func50 (by kernel_rfl) (by kernel_rfl)
instance : FnI Tryd.prog 51 := .mk' Tryd.func51 (by kernel_rfl) (by kernel_rfl)
instance : FnI Tryd.prog 52 := .mk' Tryd.func52 (by kernel_rfl) (by kernel_rfl)
instance : FnI Tryd.prog 54 := .mk' Tryd.func54 (by kernel_rfl) (by kernel_rfl)
instance : FnI Tryd.prog 55 := .mk' Tryd.func55 (by kernel_rfl) (by kernel_rfl)
instance : FnI Tryd.prog 56 := .mk' Tryd.func56 (by kernel_rfl) (by kernel_rfl)
instance : FnI Tryd.prog 57 := .mk' Tryd.func57 (by kernel_rfl) (by kernel_rfl)
instance : FnI Tryd.prog 58 := .mk' Tryd.func58 (by kernel_rfl) (by kernel_rfl)
instance : FnI Tryd.prog 59 := .mk' Tryd.func59 (by kernel_rfl) (by kernel_rfl)
instance : FnI Tryd.prog 60 := .mk' Tryd.func60 (by kernel_rfl) (by kernel_rfl)
instance : FnI Tryd.prog 61 := .mk' Tryd.func61 (by kernel_rfl) (by kernel_rfl)
instance : FnI Tryd.prog 62 := .mk' Tryd.func62 (by kernel_rfl) (by kernel_rfl)
instance : FnI Tryd.prog 63 := .mk' Tryd.func63 (by kernel_rfl) (by kernel_rfl)
instance : FnI Tryd.prog 64 := .mk' Tryd.func64 (by kernel_rfl) (by kernel_rfl)
instance : FnI Tryd.prog 65 := .mk' Tryd.func65 (by kernel_rfl) (by kernel_rfl)
instance : FnI Tryd.prog 66 := .mk' Tryd.func66 (by kernel_rfl) (by kernel_rfl)
instance : FnI Tryd.prog 67 := .mk' Tryd.func67 (by kernel_rfl) (by kernel_rfl)
instance : FnI Tryd.prog 68 := .mk' Tryd.func68 (by kernel_rfl) (by kernel_rfl)
instance : FnI Tryd.prog 69 := .mk' Tryd.func69 (by kernel_rfl) (by kernel_rfl)
instance : FnI Tryd.prog 70 := .mk' Tryd.func70 (by kernel_rfl) (by kernel_rfl)
instance : FnI Tryd.prog 71 := .mk' Tryd.func71 (by kernel_rfl) (by kernel_rfl)
instance : FnI Tryd.prog 72 := .mk' Tryd.func72 (by kernel_rfl) (by kernel_rfl)
instance : FnI Tryd.prog 73 := .mk' Tryd.func73 (by kernel_rfl) (by kernel_rfl)
instance : FnI Tryd.prog 74 := .mk' Tryd.func74 (by kernel_rfl) (by kernel_rfl)
instance : FnI Tryd.prog 75 := .mk' Tryd.func75 (by kernel_rfl) (by kernel_rfl)
instance : FnI Tryd.prog 76 := .mk' Tryd.func76 (by kernel_rfl) (by kernel_rfl)
instance : FnI Tryd.prog 77 := .mk' Tryd.func77 (by kernel_rfl) (by kernel_rfl)
instance : FnI Tryd.prog 78 := .mk' Tryd.func78 (by kernel_rfl) (by kernel_rfl)
instance : FnI Tryd.prog 79 := .mk' Tryd.func79 (by kernel_rfl) (by kernel_rfl)
instance : FnI Tryd.prog 80 := .mk' Tryd.func80 (by kernel_rfl) (by kernel_rfl)
instance : FnI Tryd.prog 81 := .mk' Tryd.func81 (by kernel_rfl) (by kernel_rfl)
instance : FnI Tryd.prog 82 := .mk' Tryd.func82 (by kernel_rfl) (by kernel_rfl)
instance : FnI Tryd.prog 83 := .mk' Tryd.func83 (by kernel_rfl) (by kernel_rfl)
instance : FnI Tryd.prog 84 := .mk' Tryd.func84 (by kernel_rfl) (by kernel_rfl)
instance : FnI Tryd.prog 85 := .mk' Tryd.func85 (by kernel_rfl) (by kernel_rfl)
instance : FnI Tryd.prog 86 := .mk' Tryd.func86 (by kernel_rfl) (by kernel_rfl)
instance : FnI Tryd.prog 87 := .mk' Tryd.func87 (by kernel_rfl) (by kernel_rfl)
instance : FnI Tryd.prog 88 := .mk' Tryd.func88 (by kernel_rfl) (by kernel_rfl)
instance : FnI Tryd.prog 89 := .mk' Tryd.func89 (by kernel_rfl) (by kernel_rfl)
instance : FnI Tryd.prog 90 := .mk' Tryd.func90 (by kernel_rfl) (by kernel_rfl)
instance : FnI Tryd.prog 91 := .mk' Tryd.func91 (by kernel_rfl) (by kernel_rfl)
instance : FnI Tryd.prog 112 := .mk' Tryd.func112 (by kernel_rfl) (by kernel_rfl)
theorem mixed : Tryd.prog.follows .mixedOrders = true := by kernel_rfl
end Go.Proofs.YtobkhnmglbfheaaDoor

/-
  Contracts of the word package: bit by bit, sums, differences, and how words stand; each function walked once.
  Conditions: none.
-/
namespace Go.Proofs.YtobkhnmglbfheaaDoor
open Go Go.RowKit SL
set_option maxRecDepth 8000
set_option maxHeartbeats 4000000
set_option linter.unusedSimpArgs false
set_option linter.unusedVariables false
attribute [local irreducible] SL.CW SL.LW SL.DW Calls SL.Ret SL.RetG SL.beginQ SL.roundQ SL.rangeQ SL.inQ SL.RW SL.AnyW SL.thenQ SL.thenC SL.thenW SL.blkQ SL.finQ SL.ValP SL.NewP SL.SetP SL.CallP SL.Rd SL.Wr SL.Known
end Go.Proofs.YtobkhnmglbfheaaDoor

/-
  Contracts of the word package: And, Or, Xor, Not; sums and differences; how words stand.
  Conditions: none.
-/
namespace Go.Proofs.YtobkhnmglbfheaaDoor
open Go Go.RowKit SL
set_option maxRecDepth 8000
set_option maxHeartbeats 4000000
set_option linter.unusedSimpArgs false
set_option linter.unusedVariables false
attribute [local irreducible] SL.CW SL.LW SL.DW Calls SL.Ret SL.RetG SL.beginQ SL.roundQ SL.rangeQ SL.inQ SL.RW SL.AnyW SL.thenQ SL.thenC SL.thenW SL.blkQ SL.finQ SL.ValP SL.NewP SL.SetP SL.CallP SL.Rd SL.Wr SL.Known
end Go.Proofs.YtobkhnmglbfheaaDoor

/-
  Contracts of the word package: sums and differences, how words stand, small words.
  Conditions: none.
-/
namespace Go.Proofs.YtobkhnmglbfheaaDoor
open Go Go.RowKit SL
set_option maxRecDepth 8000
set_option maxHeartbeats 4000000
set_option linter.unusedSimpArgs false
set_option linter.unusedVariables false
attribute [local irreducible] SL.CW SL.LW SL.DW Calls SL.Ret SL.RetG SL.beginQ SL.roundQ SL.rangeQ SL.inQ SL.RW SL.AnyW SL.thenQ SL.thenC SL.thenW SL.blkQ SL.finQ SL.ValP SL.NewP SL.SetP SL.CallP SL.Rd SL.Wr SL.Known
theorem add64_run (x y c : Nat) (hc : c ≤ 1) (w : World) : (callFunc 53 #[.int .u64 x, .int .u64 y, .int .u64 c]).run Tryd.prog w = .ok (.value (.tuple #[.int .u64 (((x + y + c) % 18446744073709551616 : Nat) : Int), .int .u64 (((x + y + c) / 18446744073709551616 : Nat) : Int)])) w := by
  rw [run_callFunc_extern Tryd.func53 (by kernel_rfl) (by kernel_rfl) (by kernel_rfl) (e := add64Entry) (by kernel_rfl), run_add64 x y c (by omega) (by omega) (by omega) (by omega)]
  simp only [Result.andThen]
  congr 5 <;> omega
theorem Of_calls (n : Nat) (hn : n < 18446744073709551616) (w : World) : Calls Tryd.prog 36 #[.int .u64 n] w (Ret w (wv n)) := by
  refine enter (args := [_]) _ [] [] Tryd.func36 rfl Tryd.ntmps36 rfl (by simp) .nil ?_
  (refine CW.seq ?_; refine CW.region ?_; apply LW.allocW; rfl; intro _; apply LW.nil; refine thenN ?_; refine CW.seq ?_; refine CW.region ?_; apply LW.v0; rfl; rfl; apply ValP.move; rfl; apply LW.v0; rfl; rfl; apply ValP.buildW1; rfl; omega; apply LW.store; rfl; rfl; apply SetAt.head; apply Wr.whole; rfl; rfl; rfl; apply LW.nil; refine thenN ?_; refine CW.ret ?_)
  (apply finR; exact .inl rfl; rfl; rfl; rfl; apply ResL.cons; apply Res.cell; rfl; apply Known.at; apply FsAt.head; exact Rd.whole rfl; exact ResL.nil)
  rfl
theorem small_or (a : Nat) (ha : a < M256) : (((a / 18446744073709551616 % 18446744073709551616 ||| a / 340282366920938463463374607431768211456 % 18446744073709551616 ||| a / 6277101735386680763835789423207666416102355444464034512896 % 18446744073709551616 : Nat) : Int) = 0) ↔ a < 18446744073709551616 := by
  simp only [M256] at ha
  rw [Int.natCast_eq_zero, Nat.or_eq_zero_iff, Nat.or_eq_zero_iff]
  omega
theorem Small_calls (a : Nat) (ha : a < M256) (w : World) : Calls Tryd.prog 66 #[wv a] w (Ret w (.tuple #[.int .u64 ((if a < 18446744073709551616 then a else 0 : Nat) : Int), .bool (decide (a < 18446744073709551616))])) := by
  refine enter (args := [_]) _ [] [] Tryd.func66 rfl Tryd.ntmps66 rfl (by simp) .nil ?_
  (refine CW.seq ?_; refine CW.region ?_; apply LW.boxA; rfl; rfl; intro _; apply LW.v0; rfl; rfl; apply ValP.assign; rfl; apply LW.v0; rfl; rfl; apply ValP.assign; rfl; apply LW.nil; refine thenN ?_; refine CW.seq ?_; refine CW.seq ?_; refine CW.region ?_; apply LW.v0; rfl; rfl; apply ValP.indexAddrL; rfl; rfl; rfl; apply LW.load; rfl; rfl; apply Known.at; apply FsAt.head; exact Rd.one' rfl; apply LW.v0; rfl; rfl; apply ValP.indexAddrL; rfl; rfl; rfl; apply LW.load; rfl; rfl; apply Known.at; apply FsAt.head; exact Rd.one' rfl; apply LW.v0; rfl; rfl; apply ValP.orU; rfl; rfl; omega; omega; apply LW.v0; rfl; rfl; apply ValP.indexAddrL; rfl; rfl; rfl; apply LW.load; rfl; rfl; apply Known.at; apply FsAt.head; exact Rd.one' rfl; apply LW.v0; rfl; rfl; apply ValP.orU; rfl; rfl; apply or64; omega; omega; omega; apply LW.v0; rfl; rfl; apply ValP.ne; rfl; rfl; apply LW.nil; refine thenN ?_)
  apply CW.cond
  rfl
  · intro hb
    have h : ¬ a < 18446744073709551616 := fun h => by rw [decide_eq_true ((small_or a ha).2 h)] at hb; cases hb
    (refine CW.seq ?_; refine CW.region ?_; apply LW.v0; rfl; rfl; apply ValP.assign; rfl; apply LW.v0; rfl; rfl; apply ValP.assign; rfl; apply LW.nil; refine thenN ?_; refine CW.ret ?_; refine thenR ?_)
    (apply finR; exact .inl rfl; rfl; rfl; rfl; apply ResL.cons; exact Res.tmp rfl; apply ResL.cons; exact Res.tmp rfl; exact ResL.nil)
    rw [if_neg h, decide_eq_false h]; rfl
  · intro hb
    have h : a < 18446744073709551616 := (small_or a ha).1 (by simpa using hb)
    (refine CW.skip ?_; refine thenN ?_; refine CW.seq ?_; refine CW.region ?_; apply LW.v0; rfl; rfl; apply ValP.indexAddrL; rfl; rfl; rfl; apply LW.load; rfl; rfl; apply Known.at; apply FsAt.head; exact Rd.one' rfl; apply LW.v0; rfl; rfl; apply ValP.assign; rfl; apply LW.v0; rfl; rfl; apply ValP.assign; rfl; apply LW.nil; refine thenN ?_; refine CW.ret ?_)
    (apply finR; exact .inl rfl; rfl; rfl; rfl; apply ResL.cons; exact Res.tmp rfl; apply ResL.cons; exact Res.tmp rfl; exact ResL.nil)
    rw [if_pos h, decide_eq_true h, show (a : Int) = ((a % 18446744073709551616 : Nat) : Int) by omega]; rfl
end Go.Proofs.YtobkhnmglbfheaaDoor

/-
  Contracts of the word package: Add, Sub, Cmp, Sum.
  Conditions: none.
-/
namespace Go.Proofs.YtobkhnmglbfheaaDoor
open Go Go.RowKit SL
set_option maxRecDepth 8000
set_option maxHeartbeats 4000000
set_option linter.unusedSimpArgs false
set_option linter.unusedVariables false
attribute [local irreducible] SL.CW SL.LW SL.DW Calls SL.Ret SL.RetG SL.beginQ SL.roundQ SL.rangeQ SL.inQ SL.RW SL.AnyW SL.thenQ SL.thenC SL.thenW SL.blkQ SL.finQ SL.ValP SL.NewP SL.SetP SL.CallP SL.Rd SL.Wr SL.Known
end Go.Proofs.YtobkhnmglbfheaaDoor

/-
  Contracts of the word package: how words stand; how far a word is moved.
  Conditions: none.
-/
namespace Go.Proofs.YtobkhnmglbfheaaDoor
open Go Go.RowKit SL
set_option maxRecDepth 8000
set_option maxHeartbeats 4000000
set_option linter.unusedSimpArgs false
set_option linter.unusedVariables false
attribute [local irreducible] SL.CW SL.LW SL.DW Calls SL.Ret SL.RetG SL.beginQ SL.roundQ SL.rangeQ SL.inQ SL.RW SL.AnyW SL.thenQ SL.thenC SL.thenW SL.blkQ SL.finQ SL.ValP SL.NewP SL.SetP SL.CallP SL.Rd SL.Wr SL.Known
end Go.Proofs.YtobkhnmglbfheaaDoor

/-
  Contracts of the word package: how many times a word is in another one, and what is left.
  Conditions: none.
-/
namespace Go.Proofs.YtobkhnmglbfheaaDoor
open Go Go.RowKit SL
set_option maxRecDepth 8000
set_option maxHeartbeats 4000000
set_option linter.unusedSimpArgs false
set_option linter.unusedVariables false
attribute [local irreducible] SL.CW SL.LW SL.DW Calls SL.Ret SL.RetG SL.beginQ SL.roundQ SL.rangeQ SL.inQ SL.RW SL.AnyW SL.thenQ SL.thenC SL.thenW SL.blkQ SL.finQ SL.ValP SL.NewP SL.SetP SL.CallP SL.Rd SL.Wr SL.Known
end Go.Proofs.YtobkhnmglbfheaaDoor

/-
  Contracts of the word package: a word's digits.
  Conditions: none.
-/
namespace Go.Proofs.YtobkhnmglbfheaaDoor
open Go Go.RowKit SL
set_option maxRecDepth 8000
set_option maxHeartbeats 4000000
set_option linter.unusedSimpArgs false
set_option linter.unusedVariables false
attribute [local irreducible] SL.CW SL.LW SL.DW Calls SL.Ret SL.RetG SL.beginQ SL.roundQ SL.rangeQ SL.inQ SL.RW SL.AnyW SL.thenQ SL.thenC SL.thenW SL.blkQ SL.finQ SL.ValP SL.NewP SL.SetP SL.CallP SL.Rd SL.Wr SL.Known
/-! ### Digits to the base 16 -/
structure TX where
  m : Nat
  p : Value
  v : Value
  seg : Fs
  l : List UInt8
end Go.Proofs.YtobkhnmglbfheaaDoor

/-
  The layer does something; sets of bits.
  Conditions: none.
-/
namespace Go.Proofs.YtobkhnmglbfheaaDoor
open Go Go.RowKit SL
set_option maxRecDepth 8000
set_option maxHeartbeats 4000000
set_option linter.unusedSimpArgs false
set_option linter.unusedVariables false
attribute [local irreducible] SL.CW SL.LW SL.DW Calls SL.Ret SL.RetG SL.beginQ SL.roundQ SL.rangeQ SL.inQ SL.RW SL.AnyW SL.thenQ SL.thenC SL.thenW SL.blkQ SL.finQ SL.ValP SL.NewP SL.SetP SL.CallP SL.Rd SL.Wr SL.Known
/-! ### Sets of bits -/
end Go.Proofs.YtobkhnmglbfheaaDoor

/-
  Contracts of the word package: sums of many.
  Conditions: none.
-/
namespace Go.Proofs.YtobkhnmglbfheaaDoor
open Go Go.RowKit SL
set_option maxRecDepth 8000
set_option maxHeartbeats 4000000
set_option linter.unusedSimpArgs false
set_option linter.unusedVariables false
attribute [local irreducible] SL.CW SL.LW SL.DW Calls SL.Ret SL.RetG SL.beginQ SL.roundQ SL.rangeQ SL.inQ SL.RW SL.AnyW SL.thenQ SL.thenC SL.thenW SL.blkQ SL.finQ SL.ValP SL.NewP SL.SetP SL.CallP SL.Rd SL.Wr SL.Known
end Go.Proofs.YtobkhnmglbfheaaDoor

/-
  The document's answer in bits: contracts.
  Conditions: none.
-/
namespace Go.Proofs.YtobkhnmglbfheaaDoor
open Go Go.RowKit SL
set_option maxRecDepth 8000
set_option maxHeartbeats 4000000
set_option linter.unusedSimpArgs false
set_option linter.unusedVariables false
attribute [local irreducible] SL.CW SL.LW SL.DW Calls SL.Ret SL.RetG SL.beginQ SL.roundQ SL.rangeQ SL.inQ SL.RW SL.AnyW SL.thenQ SL.thenC SL.thenW SL.blkQ SL.finQ SL.ValP SL.NewP SL.SetP SL.CallP SL.Rd SL.Wr SL.Known
/-- The bits of a number, so many of them. -/
def bl (a m : Nat) : List Nat := (List.range m).map fun n => a / 2 ^ n % 2
structure RX where
  m : Nat
  v : Value
  seg : Fs
end Go.Proofs.YtobkhnmglbfheaaDoor

/-
  The document's answer in bits: sums, and the word of bits.
  Conditions: none.
-/
namespace Go.Proofs.YtobkhnmglbfheaaDoor
open Go Go.RowKit SL
set_option maxRecDepth 8000
set_option maxHeartbeats 4000000
set_option linter.unusedSimpArgs false
set_option linter.unusedVariables false
attribute [local irreducible] SL.CW SL.LW SL.DW Calls SL.Ret SL.RetG SL.beginQ SL.roundQ SL.rangeQ SL.inQ SL.RW SL.AnyW SL.thenQ SL.thenC SL.thenW SL.blkQ SL.finQ SL.ValP SL.NewP SL.SetP SL.CallP SL.Rd SL.Wr SL.Known
theorem pow_pos2 (k : Nat) : 0 < 2 ^ k := Nat.pow_pos (by decide)
structure RC where
  m : Nat
  v : Value
  seg : Fs
end Go.Proofs.YtobkhnmglbfheaaDoor

/-
  The document's answer in bits: what is done bit by bit.
  Conditions: none.
-/
namespace Go.Proofs.YtobkhnmglbfheaaDoor
open Go Go.RowKit SL
set_option maxRecDepth 8000
set_option maxHeartbeats 4000000
set_option linter.unusedSimpArgs false
set_option linter.unusedVariables false
attribute [local irreducible] SL.CW SL.LW SL.DW Calls SL.Ret SL.RetG SL.beginQ SL.roundQ SL.rangeQ SL.inQ SL.RW SL.AnyW SL.thenQ SL.thenC SL.thenW SL.blkQ SL.finQ SL.ValP SL.NewP SL.SetP SL.CallP SL.Rd SL.Wr SL.Known
end Go.Proofs.YtobkhnmglbfheaaDoor

/-
  The document's answer in bits: sums, differences, and how words stand.
  Conditions: none.
-/
namespace Go.Proofs.YtobkhnmglbfheaaDoor
open Go Go.RowKit SL
set_option maxRecDepth 8000
set_option maxHeartbeats 4000000
set_option linter.unusedSimpArgs false
set_option linter.unusedVariables false
attribute [local irreducible] SL.CW SL.LW SL.DW Calls SL.Ret SL.RetG SL.beginQ SL.roundQ SL.rangeQ SL.inQ SL.RW SL.AnyW SL.thenQ SL.thenC SL.thenW SL.blkQ SL.finQ SL.ValP SL.NewP SL.SetP SL.CallP SL.Rd SL.Wr SL.Known
end Go.Proofs.YtobkhnmglbfheaaDoor

/-
  Sums, differences, and how words stand: the law.
  Conditions: none.
-/
namespace Go.Proofs.YtobkhnmglbfheaaDoor
open Go Go.RowKit SL
set_option maxRecDepth 8000
set_option maxHeartbeats 4000000
set_option linter.unusedSimpArgs false
set_option linter.unusedVariables false
attribute [local irreducible] SL.CW SL.LW SL.DW Calls SL.Ret SL.RetG SL.beginQ SL.roundQ SL.rangeQ SL.inQ SL.RW SL.AnyW SL.thenQ SL.thenC SL.thenW SL.blkQ SL.finQ SL.ValP SL.NewP SL.SetP SL.CallP SL.Rd SL.Wr SL.Known
end Go.Proofs.YtobkhnmglbfheaaDoor

/-
  The sum of many: the law.
  Conditions: none.
-/
namespace Go.Proofs.YtobkhnmglbfheaaDoor
open Go Go.RowKit SL
set_option maxRecDepth 8000
set_option maxHeartbeats 4000000
set_option linter.unusedSimpArgs false
set_option linter.unusedVariables false
attribute [local irreducible] SL.CW SL.LW SL.DW Calls SL.Ret SL.RetG SL.beginQ SL.roundQ SL.rangeQ SL.inQ SL.RW SL.AnyW SL.thenQ SL.thenC SL.thenW SL.blkQ SL.finQ SL.ValP SL.NewP SL.SetP SL.CallP SL.Rd SL.Wr SL.Known
structure RW1 where
  m : Nat
  seg : Fs
end Go.Proofs.YtobkhnmglbfheaaDoor

/-
  The document's answer in bits: products.
  Conditions: none.
-/
namespace Go.Proofs.YtobkhnmglbfheaaDoor
open Go Go.RowKit SL
set_option maxRecDepth 8000
set_option maxHeartbeats 4000000
set_option linter.unusedSimpArgs false
set_option linter.unusedVariables false
attribute [local irreducible] SL.CW SL.LW SL.DW Calls SL.Ret SL.RetG SL.beginQ SL.roundQ SL.rangeQ SL.inQ SL.RW SL.AnyW SL.thenQ SL.thenC SL.thenW SL.blkQ SL.finQ SL.ValP SL.NewP SL.SetP SL.CallP SL.Rd SL.Wr SL.Known
end Go.Proofs.YtobkhnmglbfheaaDoor

/-
  Products of words: contracts.
  Conditions: none.
-/
namespace Go.Proofs.YtobkhnmglbfheaaDoor
open Go Go.RowKit SL
set_option maxRecDepth 8000
set_option maxHeartbeats 4000000
set_option linter.unusedSimpArgs false
set_option linter.unusedVariables false
attribute [local irreducible] SL.CW SL.LW SL.DW Calls SL.Ret SL.RetG SL.beginQ SL.roundQ SL.rangeQ SL.inQ SL.RW SL.AnyW SL.thenQ SL.thenC SL.thenW SL.blkQ SL.finQ SL.ValP SL.NewP SL.SetP SL.CallP SL.Rd SL.Wr SL.Known
theorem and32 (n : Nat) : n &&& 4294967295 = n % 4294967296 := Nat.and_two_pow_sub_one_eq_mod n 32
theorem Mul64_calls (x y : Nat) (hx : x < 18446744073709551616) (hy : y < 18446744073709551616) (w : World) : Calls Tryd.prog 52 #[.int .u64 (x : Int), .int .u64 (y : Int)] w (Ret w (.tuple #[.int .u64 ((x * y / 18446744073709551616 : Nat) : Int), .int .u64 ((x * y % 18446744073709551616 : Nat) : Int)])) := by
  refine enter (args := [_, _]) _ [] [] Tryd.func52 rfl Tryd.ntmps52 rfl (by simp) .nil ?_
  (refine CW.seq ?_; refine CW.region ?_; apply LW.v0; rfl; rfl; apply ValP.assign; rfl; apply LW.v0; rfl; rfl; apply ValP.assign; rfl; apply LW.nil; refine thenN ?_; refine CW.seq ?_; refine CW.region ?_; apply LW.v0; rfl; rfl; apply ValP.move; rfl; apply LW.v0; rfl; rfl; apply ValP.andUL; rfl; rfl; decide; omega; omega; apply LW.v0; rfl; rfl; apply ValP.assign; rfl; apply LW.nil; refine thenN ?_; refine CW.seq ?_; refine CW.region ?_; apply LW.v0; rfl; rfl; apply ValP.move; rfl; apply LW.v0; rfl; rfl; apply ValP.shrUL; rfl; rfl; decide; omega; apply LW.v0; rfl; rfl; apply ValP.assign; rfl; apply LW.nil; refine thenN ?_; refine CW.seq ?_; refine CW.region ?_; apply LW.v0; rfl; rfl; apply ValP.move; rfl; apply LW.v0; rfl; rfl; apply ValP.andUL; rfl; rfl; decide; omega; omega; apply LW.v0; rfl; rfl; apply ValP.assign; rfl; apply LW.nil; refine thenN ?_; refine CW.seq ?_; refine CW.region ?_; apply LW.v0; rfl; rfl; apply ValP.move; rfl; apply LW.v0; rfl; rfl; apply ValP.shrUL; rfl; rfl; decide; omega; apply LW.v0; rfl; rfl; apply ValP.assign; rfl; apply LW.nil; refine thenN ?_; refine CW.seq ?_; refine CW.region ?_; apply LW.v0; rfl; rfl; apply ValP.move; rfl; apply LW.v0; rfl; rfl; apply ValP.move; rfl; apply LW.v0; rfl; rfl; apply ValP.mulN; rfl; rfl; apply LW.v0; rfl; rfl; apply ValP.assign; rfl; apply LW.nil; refine thenN ?_; refine CW.seq ?_; refine CW.region ?_; apply LW.v0; rfl; rfl; apply ValP.move; rfl; apply LW.v0; rfl; rfl; apply ValP.move; rfl; apply LW.v0; rfl; rfl; apply ValP.mulN; rfl; rfl; apply LW.v0; rfl; rfl; apply ValP.move; rfl; apply LW.v0; rfl; rfl; apply ValP.shrUL; rfl; rfl; decide; omega; apply LW.v0; rfl; rfl; apply ValP.addN; rfl; rfl; apply LW.v0; rfl; rfl; apply ValP.assign; rfl; apply LW.nil; refine thenN ?_; refine CW.seq ?_; refine CW.region ?_; apply LW.v0; rfl; rfl; apply ValP.move; rfl; apply LW.v0; rfl; rfl; apply ValP.andUL; rfl; rfl; decide; omega; omega; apply LW.v0; rfl; rfl; apply ValP.assign; rfl; apply LW.nil; refine thenN ?_; refine CW.seq ?_; refine CW.region ?_; apply LW.v0; rfl; rfl; apply ValP.move; rfl; apply LW.v0; rfl; rfl; apply ValP.shrUL; rfl; rfl; decide; omega; apply LW.v0; rfl; rfl; apply ValP.assign; rfl; apply LW.nil; refine thenN ?_; refine CW.seq ?_; refine CW.region ?_; apply LW.v0; rfl; rfl; apply ValP.move; rfl; apply LW.v0; rfl; rfl; apply ValP.move; rfl; apply LW.v0; rfl; rfl; apply ValP.move; rfl; apply LW.v0; rfl; rfl; apply ValP.mulN; rfl; rfl; apply LW.v0; rfl; rfl; apply ValP.addN; rfl; rfl; apply LW.v0; rfl; rfl; apply ValP.assign; rfl; apply LW.nil; refine thenN ?_; refine CW.seq ?_; refine CW.region ?_; apply LW.v0; rfl; rfl; apply ValP.move; rfl; apply LW.v0; rfl; rfl; apply ValP.move; rfl; apply LW.v0; rfl; rfl; apply ValP.mulN; rfl; rfl; apply LW.v0; rfl; rfl; apply ValP.move; rfl; apply LW.v0; rfl; rfl; apply ValP.addN; rfl; rfl; apply LW.v0; rfl; rfl; apply ValP.move; rfl; apply LW.v0; rfl; rfl; apply ValP.shrUL; rfl; rfl; decide; omega; apply LW.v0; rfl; rfl; apply ValP.addN; rfl; rfl; apply LW.v0; rfl; rfl; apply ValP.assign; rfl; apply LW.nil; refine thenN ?_; refine CW.seq ?_; refine CW.region ?_; apply LW.v0; rfl; rfl; apply ValP.move; rfl; apply LW.v0; rfl; rfl; apply ValP.move; rfl; apply LW.v0; rfl; rfl; apply ValP.mulN; rfl; rfl; apply LW.v0; rfl; rfl; apply ValP.assign; rfl; apply LW.nil; refine thenN ?_; refine CW.ret ?_)
  (apply finR; exact .inl rfl; rfl; rfl; rfl; apply ResL.cons; exact Res.tmp rfl; apply ResL.cons; exact Res.tmp rfl; exact ResL.nil)
  refine congrArg (fun z : Nat => Value.tuple #[.int .u64 (z : Int), .int .u64 ((x * y % 18446744073709551616 : Nat) : Int)]) ?_
  simp only [and32, Nat.reducePow]
  have e : x * y = (x / 4294967296) * (y / 4294967296) * (4294967296 * 4294967296) + ((x / 4294967296) * (y % 4294967296) + (x % 4294967296) * (y / 4294967296)) * 4294967296 + (x % 4294967296) * (y % 4294967296) := by
    rw [← Lib.split_mul, Nat.div_add_mod' x 4294967296, Nat.div_add_mod' y 4294967296]
  have ha := Lib.half_mul_le (a := x / 4294967296) (b := y / 4294967296) (by omega) (by omega)
  have hb := Lib.half_mul_le (a := x / 4294967296) (b := y % 4294967296) (by omega) (by omega)
  have hc := Lib.half_mul_le (a := x % 4294967296) (b := y / 4294967296) (by omega) (by omega)
  have hd := Lib.half_mul_le (a := x % 4294967296) (b := y % 4294967296) (by omega) (by omega)
  rw [e]
  generalize (x / 4294967296) * (y / 4294967296) = a at ha ⊢
  generalize (x / 4294967296) * (y % 4294967296) = b at hb ⊢
  generalize (x % 4294967296) * (y / 4294967296) = c at hc ⊢
  generalize (x % 4294967296) * (y % 4294967296) = d at hd ⊢
  clear e hx hy
  omega
/-! ### Limbs -/
/-- A row of limbs' number. -/
def val : List Nat → Nat
  | [] => 0
  | x :: r => x + 18446744073709551616 * val r
theorem val_set : ∀ (L : List Nat) (j v : Nat) (hj : j < L.length), val (L.set j v) + L[j] * 18446744073709551616 ^ j = val L + v * 18446744073709551616 ^ j
  | x :: r, 0, v, _ => by simp [val]; omega
  | x :: r, j + 1, v, hj => by
    have := val_set r j v (by simpa using hj)
    simp only [List.set_cons_succ, val, List.getElem_cons_succ, Nat.pow_succ]
    have e : ∀ y, y * (18446744073709551616 ^ j * 18446744073709551616) = 18446744073709551616 * (y * 18446744073709551616 ^ j) := fun y => by rw [← Nat.mul_assoc, Nat.mul_comm]
    rw [e, e]
    omega
/-- One step of a product. -/
theorem mul_step (x y l c : Nat) (hx : x < 18446744073709551616) (hy : y < 18446744073709551616) (hl : l < 18446744073709551616) (hc : c < 18446744073709551616) :
    let lo := x * y % 18446744073709551616; let hi := x * y / 18446744073709551616
    let l1 := (lo + l + 0) % 18446744073709551616; let c1 := (lo + l + 0) / 18446744073709551616
    let l2 := (l1 + c + 0) % 18446744073709551616; let c2 := (l1 + c + 0) / 18446744073709551616
    (hi + c1) % 18446744073709551616 = hi + c1 ∧ (hi + c1 + c2) % 18446744073709551616 = hi + c1 + c2 ∧ l2 + 18446744073709551616 * (hi + c1 + c2) = x * y + l + c ∧ l2 < 18446744073709551616 ∧ hi + c1 + c2 < 18446744073709551616 := by
  have hxy : x * y ≤ 18446744073709551615 * 18446744073709551615 := Nat.mul_le_mul (by omega) (by omega)
  generalize x * y = p at *
  dsimp only
  omega
theorem inv_step (v v' l lo c c' xy P : Nat) (h1 : v' + l * P = v + lo * P) (h2 : lo + 18446744073709551616 * c' = xy + l + c) : v' + c' * (P * 18446744073709551616) = v + c * P + xy * P := by
  have h3 : (lo + 18446744073709551616 * c') * P = (xy + l + c) * P := by rw [h2]
  rw [Nat.add_mul, Nat.add_mul, Nat.add_mul] at h3
  have e : c' * (P * 18446744073709551616) = 18446744073709551616 * c' * P := by rw [Nat.mul_comm P, ← Nat.mul_assoc, Nat.mul_comm c']
  rw [e]; omega
theorem mul_last (l0 l1 l2 l3 l4 l5 l6 l7 n : Nat) (h0 : l0 < 18446744073709551616) (h1 : l1 < 18446744073709551616) (h2 : l2 < 18446744073709551616) (h3 : l3 < 18446744073709551616) (h : val [l0, l1, l2, l3, l4, l5, l6, l7] = n) :
    n % 115792089237316195423570985008687907853269984665640564039457584007913129639936 = l0 + 18446744073709551616 * l1 + 340282366920938463463374607431768211456 * l2 + 6277101735386680763835789423207666416102355444464034512896 * l3 ∧
    (115792089237316195423570985008687907853269984665640564039457584007913129639936 ≤ n ↔ (l4 ≠ 0 ∨ l5 ≠ 0 ∨ l6 ≠ 0 ∨ l7 ≠ 0)) := by
  simp only [val] at h
  constructor <;> omega
/-- The cells of limbs. -/
def lcs (L : List Nat) : Array Value := (L.map fun x => Value.int .u64 ((x : Nat) : Int)).toArray
theorem Add64_run (x y : Nat) (w : World) : (callFunc 53 #[.int .u64 x, .int .u64 y, .int .u64 (0 : Int)]).run Tryd.prog w = .ok (.value (.tuple #[.int .u64 (((x + y + 0) % 18446744073709551616 : Nat) : Int), .int .u64 (((x + y + 0) / 18446744073709551616 : Nat) : Int)])) w := add64_run x y 0 (by decide) w
theorem lcs_get (L : List Nat) (j : Nat) (h : j < L.length) : (lcs L)[j]? = some (.int .u64 ((L[j] : Nat) : Int)) := by simp [lcs, h]
theorem lcs_set (L : List Nat) (j v : Nat) : wrCells (lcs L) j [.int .u64 ((v : Nat) : Int)] = lcs (L.set j v) := by
  simp only [wrCells, lcs]
  rw [List.setIfInBounds_toArray, List.map_set]
theorem lcs_rd (L : List Nat) (j : Nat) (h : j < L.length) {E : TypeId} {fr : Nat × Nat} : Rd Tryd.prog 23 (.cells (lcs L) E fr) (0 + j * 1) (.int .u64 ((L[j] : Nat) : Int)) := Rd.one (by rw [Nat.zero_add, Nat.mul_one]; exact lcs_get L j h)
theorem lcs_wr (L : List Nat) (j v : Nat) (h : j < L.length) {E : TypeId} : Wr Tryd.prog 23 (.cells (lcs L) E (0, 0)) (0 + j * 1) (.int .u64 ((v : Nat) : Int)) (.cells (lcs (L.set j v)) E (0, 0)) :=
  Wr.cells rfl rfl (by show 0 + j * 1 + 1 ≤ (lcs L).size; simp [lcs]; omega) (by rw [Nat.zero_add, Nat.mul_one]; exact lcs_set L j v)
structure MO where
  i : Nat
  L : List Nat
structure MI where
  k : Nat
  c : Nat
  L : List Nat
def limb (a i : Nat) : Nat := a / 2 ^ (64 * i) % 18446744073709551616
theorem B_pow (i : Nat) : (18446744073709551616 : Nat) ^ i = 2 ^ (64 * i) := by rw [show (18446744073709551616 : Nat) = 2 ^ 64 from rfl, ← Nat.pow_mul]
theorem limb_step (a i : Nat) : a % 2 ^ (64 * (i + 1)) = a % 2 ^ (64 * i) + limb a i * 18446744073709551616 ^ i := by
  rw [Nat.mul_add, Nat.mul_one, Nat.pow_add, Nat.mod_mul, limb, B_pow, Nat.mul_comm (2 ^ (64 * i))]
theorem nth_limb (a k : Nat) (h : k < 4) : nth (wc a).toList k = some (.int .u64 ((limb a k : Nat) : Int)) := nth_wc a k h
theorem limb_lt (a i : Nat) : limb a i < 18446744073709551616 := Nat.mod_lt _ (by decide)
theorem getElem_mem_lt {L : List Nat} (h : ∀ y ∈ L, y < 18446744073709551616) (j : Nat) (hj : j < L.length) : L[j] < 18446744073709551616 := h _ (List.getElem_mem hj)
theorem set_lt {L : List Nat} (h : ∀ y ∈ L, y < 18446744073709551616) (j v : Nat) (hv : v < 18446744073709551616) : ∀ y ∈ L.set j v, y < 18446744073709551616 := fun y hy => by
  rcases List.mem_or_eq_of_mem_set hy with h1 | rfl
  · exact h y h1
  · exact hv
theorem Mul_calls (a b : Nat) (ha : a < M256) (hb : b < M256) (w : World) : Calls Tryd.prog 35 #[wv a, wv b] w (Ret w (.tuple #[wv (a * b % M256), .bool (decide (M256 ≤ a * b))])) := by
  refine enter (args := [_, _]) _ [] [] Tryd.func35 rfl Tryd.ntmps35 rfl (by simp) .nil ?_
  (refine CW.seq ?_; refine CW.region ?_; apply LW.boxA; rfl; rfl; intro _; apply LW.boxA; rfl; rfl; intro _; apply LW.allocW; rfl; intro _; apply LW.v0; rfl; rfl; apply ValP.assign; rfl; apply LW.nil; refine thenN ?_; refine CW.seq ?_; refine CW.region ?_; apply LW.allocA; rfl; intro _; apply LW.nil; refine thenN ?_; refine CW.seq ?_; refine CW.seq ?_; refine CW.region ?_; apply LW.load; rfl; rfl; apply Known.at; apply FsAt.tail; apply FsAt.tail; apply FsAt.tail; apply FsAt.head; exact Rd.whole rfl; apply LW.v0; rfl; rfl; apply ValP.move; rfl; apply LW.nil; refine thenN ?_; refine CW.block ?_)
  rename_i ba bb bc bd
  refine CW.loop (fun x : MO => ([(16, .int .i64 (x.i : Int)), (15, .agg (wc a)), (6, .pointer (some ⟨bd, 0, none⟩)), (5, .bool false), (4, .pointer (some ⟨bc, 0, none⟩)), (3, .pointer (some ⟨bb, 0, none⟩))],
      [(bd, .cells (lcs x.L) 91 (0, 0)), (bc, .cells (wc 0) 27 (0, 0)), (bb, .cells (wc b) 27 (0, 0)), (ba, .cells (wc a) 27 (0, 0))]))
    (fun x => x.i ≤ 4 ∧ x.L.length = 8 ∧ (∀ y ∈ x.L, y < 18446744073709551616) ∧ val x.L = a % 2 ^ (64 * x.i) * b ∧ ∀ j (h : j < x.L.length), x.i + 4 ≤ j → x.L[j] = 0) (fun x => 4 - x.i) ⟨0, [0, 0, 0, 0, 0, 0, 0, 0]⟩ ⟨Nat.zero_le _, rfl, by decide, by simp [val, Nat.mod_one], by decide⟩ ⟨rfl, rfl, rfl, rfl, rfl, rfl, trivial⟩ (List.Sublist.refl _) ?_
  rintro ⟨i, L⟩ ⟨hi, hL, hLb, hval, hz⟩
  dsimp only at hi hL hLb hval hz ⊢
  rcases Nat.lt_or_ge i 4 with hlt | hge
  · have hx0 := limb_lt a i
    (refine CW.seq ?_; refine CW.region ?_; apply LW.v0; rfl; rfl; apply ValP.lssT; rfl; rfl; omega; apply LW.nil; refine thenN ?_; refine CW.seq ?_; apply CW.condT; rfl; (with_reducible rfl); refine CW.skip ?_; refine thenN ?_; refine CW.seq ?_; refine CW.block ?_; refine CW.seq ?_; refine CW.region ?_; apply LW.v0; rfl; rfl; apply ValP.move; rfl; apply LW.v0; rfl; rfl; apply ValP.indexA; rfl; rfl; rfl; rfl; omega; apply nth_limb; omega; apply LW.v0; rfl; rfl; apply ValP.assign; rfl; apply LW.v0; rfl; rfl; apply ValP.assign; rfl; apply LW.nil; refine thenN ?_; refine CW.seq ?_; refine CW.region ?_; apply LW.v0; rfl; rfl; apply ValP.assign; rfl; apply LW.nil; refine thenN ?_; refine CW.seq ?_; refine CW.seq ?_; refine CW.region ?_; apply LW.load; rfl; rfl; apply Known.at; apply FsAt.tail; apply FsAt.tail; apply FsAt.head; exact Rd.whole rfl; apply LW.v0; rfl; rfl; apply ValP.move; rfl; apply LW.nil; refine thenN ?_; refine CW.block ?_)
    refine CW.loop (fun x : MI => ([(21, .int .i64 (x.k : Int)), (20, .agg (wc b)), (9, .int .u64 ((x.c : Nat) : Int)), (8, .int .u64 ((limb a i : Nat) : Int)), (7, .int .i64 (i : Int)), (16, .int .i64 (i : Int)), (15, .agg (wc a)), (6, .pointer (some ⟨bd, 0, none⟩)), (5, .bool false), (4, .pointer (some ⟨bc, 0, none⟩)), (3, .pointer (some ⟨bb, 0, none⟩))],
        [(bd, .cells (lcs x.L) 91 (0, 0)), (bc, .cells (wc 0) 27 (0, 0)), (bb, .cells (wc b) 27 (0, 0)), (ba, .cells (wc a) 27 (0, 0))]))
      (fun x => x.k ≤ 4 ∧ x.c < 18446744073709551616 ∧ x.L.length = 8 ∧ (∀ y ∈ x.L, y < 18446744073709551616) ∧ val x.L + x.c * 18446744073709551616 ^ (i + x.k) = a % 2 ^ (64 * i) * b + limb a i * (b % 2 ^ (64 * x.k)) * 18446744073709551616 ^ i ∧ ∀ j (h : j < x.L.length), i + 4 ≤ j → x.L[j] = 0) (fun x => 4 - x.k) ⟨0, 0, L⟩
      ⟨Nat.zero_le _, (show 0 < 18446744073709551616 by decide), hL, hLb, by simp [hval, Nat.mod_one], hz⟩ ⟨rfl, rfl, rfl, rfl, rfl, rfl, rfl, rfl, rfl, rfl, rfl, trivial⟩ (List.Sublist.refl _) ?_
    clear hL hLb hval hz L
    rintro ⟨k, c, L⟩ ⟨hk, hc, hL, hLb, hval, hz⟩
    dsimp only at hk hc hL hLb hval hz ⊢
    rcases Nat.lt_or_ge k 4 with hkl | hkg
    · have hy0 := limb_lt b k
      have hj : i + k < L.length := by omega
      obtain ⟨l, hl⟩ : ∃ l, l = L[i + k] := ⟨_, rfl⟩
      have hl0 : l < 18446744073709551616 := by rw [hl]; exact getElem_mem_lt hLb _ hj
      have hrd := lcs_rd L (i + k) hj (E := 91) (fr := (0, 0))
      rw [← hl] at hrd
      obtain ⟨s1, s2, s3, s4, s5⟩ := mul_step (limb a i) (limb b k) l c hx0 hy0 hl0 hc
      have hW := lcs_wr L (i + k) (((limb a i * limb b k % 18446744073709551616 + l + 0) % 18446744073709551616 + c + 0) % 18446744073709551616) hj (E := 91)
      have hv := val_set L (i + k) (((limb a i * limb b k % 18446744073709551616 + l + 0) % 18446744073709551616 + c + 0) % 18446744073709551616) hj
      rw [← hl] at hv
      have hinv := inv_step _ _ _ _ _ _ _ _ hv s3
      (refine CW.seq ?_; refine CW.region ?_; apply LW.v0; rfl; rfl; apply ValP.lssT; rfl; rfl; omega; apply LW.nil; refine thenN ?_; refine CW.seq ?_; apply CW.condT; rfl; (with_reducible rfl); refine CW.skip ?_; refine thenN ?_; refine CW.seq ?_; refine CW.block ?_; refine CW.seq ?_; refine CW.region ?_; apply LW.v0; rfl; rfl; apply ValP.move; rfl; apply LW.v0; rfl; rfl; apply ValP.indexA; rfl; rfl; rfl; rfl; omega; apply nth_limb; omega; apply LW.v0; rfl; rfl; apply ValP.assign; rfl; apply LW.v0; rfl; rfl; apply ValP.assign; rfl; apply LW.nil; refine thenN ?_; refine CW.seq ?_; refine CW.region ?_; apply LW.v0; rfl; rfl; apply ValP.move; rfl; apply LW.v0; rfl; rfl; apply ValP.move; rfl; apply LW.callE; rfl; rfl; infer_instance; apply ArgsOk.cons; rfl; apply ArgsOk.cons; rfl; exact ArgsOk.nil; intro w _; refine Mul64_calls _ _ ?_ ?_ w; assumption; assumption; apply LW.v0; rfl; rfl; apply ValP.move; rfl; apply LW.v0; rfl; rfl; apply ValP.extractN; rfl; rfl; apply LW.v0; rfl; rfl; apply ValP.extractN; rfl; rfl; apply LW.v0; rfl; rfl; apply ValP.assign; rfl; apply LW.v0; rfl; rfl; apply ValP.assign; rfl; apply LW.nil; refine thenN ?_; refine CW.seq ?_; refine CW.region ?_; apply LW.v0; rfl; rfl; apply ValP.move; rfl; apply LW.v0; rfl; rfl; apply ValP.move; rfl; apply LW.v0; rfl; rfl; apply ValP.move; rfl; apply LW.v0; rfl; rfl; apply ValP.addZ; rfl; rfl; omega; apply LW.v0; rfl; rfl; apply ValP.indexAddrA; rfl; rfl; rfl; omega; apply LW.load; rfl; rfl; apply Known.at; apply FsAt.head; assumption; apply LW.v0; rfl; rfl; apply ValP.callX; rfl; apply ArgsOk.cons; rfl; apply ArgsOk.cons; rfl; apply ArgsOk.cons; rfl; exact ArgsOk.nil; exact Add64_run _ _; apply LW.v0; rfl; rfl; apply ValP.move; rfl; apply LW.v0; rfl; rfl; apply ValP.extractN; rfl; rfl; apply LW.v0; rfl; rfl; apply ValP.extractN; rfl; rfl; apply LW.v0; rfl; rfl; apply ValP.assign; rfl; apply LW.v0; rfl; rfl; apply ValP.assign; rfl; apply LW.nil; refine thenN ?_; refine CW.seq ?_; refine CW.region ?_; apply LW.v0; rfl; rfl; apply ValP.move; rfl; apply LW.v0; rfl; rfl; apply ValP.move; rfl; apply LW.v0; rfl; rfl; apply ValP.addN; rfl; rfl; apply LW.v0; rfl; rfl; apply ValP.assign; rfl; apply LW.nil; refine thenN ?_; refine CW.seq ?_; refine CW.region ?_; apply LW.v0; rfl; rfl; apply ValP.move; rfl; apply LW.v0; rfl; rfl; apply ValP.move; rfl; apply LW.v0; rfl; rfl; apply ValP.callX; rfl; apply ArgsOk.cons; rfl; apply ArgsOk.cons; rfl; apply ArgsOk.cons; rfl; exact ArgsOk.nil; exact Add64_run _ _; apply LW.v0; rfl; rfl; apply ValP.move; rfl; apply LW.v0; rfl; rfl; apply ValP.extractN; rfl; rfl; apply LW.v0; rfl; rfl; apply ValP.extractN; rfl; rfl; apply LW.v0; rfl; rfl; apply ValP.assign; rfl; apply LW.v0; rfl; rfl; apply ValP.assign; rfl; apply LW.nil; refine thenN ?_; refine CW.region ?_; apply LW.v0; rfl; rfl; apply ValP.move; rfl; apply LW.v0; rfl; rfl; apply ValP.move; rfl; apply LW.v0; rfl; rfl; apply ValP.addZ; rfl; rfl; omega; apply LW.v0; rfl; rfl; apply ValP.move; rfl; apply LW.v0; rfl; rfl; apply ValP.move; rfl; apply LW.v0; rfl; rfl; apply ValP.move; rfl; apply LW.v0; rfl; rfl; apply ValP.addN; rfl; rfl; apply LW.v0; rfl; rfl; apply ValP.indexAddrA; rfl; rfl; rfl; omega; apply LW.store; rfl; rfl; apply SetAt.head; assumption; apply LW.v0; rfl; rfl; apply ValP.assign; rfl; apply LW.nil; refine blkN ?_; refine thenN ?_; refine CW.region ?_; apply LW.v0; rfl; rfl; apply ValP.addZL; rfl; rfl; decide; omega; apply LW.v0; rfl; rfl; apply ValP.move; rfl; apply LW.nil)
      apply thenX
      refine ⟨rfl, ⟨k + 1, _, _⟩, ⟨hkl, ?_, ?_, ?_, ?_, ?_⟩, by show 4 - (k + 1) < 4 - k; omega, ⟨rfl, rfl, rfl, rfl, rfl, rfl, rfl, rfl, rfl, rfl, rfl, trivial⟩, List.Sublist.refl _⟩
      · exact Nat.mod_lt _ (by decide)
      · simpa using hL
      · exact set_lt hLb _ _ s4
      · dsimp only
        rw [s1, s2, ← Nat.add_assoc, Nat.pow_succ, hinv, hval, limb_step, Nat.mul_add, Nat.add_mul, Nat.pow_add, Nat.add_assoc]
        congr 2
        rw [Nat.mul_assoc, Nat.mul_assoc, Nat.mul_assoc, Nat.mul_comm (18446744073709551616 ^ i)]
      · intro j hjl hji
        dsimp only at hjl ⊢
        rw [List.getElem_set_ne (by omega)]
        exact hz j (by simpa using hjl) hji
    · obtain rfl : k = 4 := by omega
      have hj : i + 4 < L.length := by omega
      have hb4 : b % 2 ^ (64 * 4) = b := Nat.mod_eq_of_lt hb
      have hW := lcs_wr L (i + 4) c hj (E := 91)
      have hv := val_set L (i + 4) c hj
      rw [hz (i + 4) hj (Nat.le_refl _), Nat.zero_mul, Nat.add_zero, hval, hb4] at hv
      (refine CW.seq ?_; refine CW.region ?_; apply LW.v0; rfl; rfl; apply ValP.lssF; rfl; rfl; omega; apply LW.nil; refine thenN ?_; refine CW.seq ?_; apply CW.condF; rfl; (with_reducible rfl); refine CW.exit ?_; refine thenE ?_; refine thenE ?_; refine blkE rfl ?_; refine thenN ?_; refine CW.region ?_; apply LW.v0; rfl; rfl; apply ValP.move; rfl; apply LW.v0; rfl; rfl; apply ValP.addZL; rfl; rfl; decide; omega; apply LW.v0; rfl; rfl; apply ValP.move; rfl; apply LW.v0; rfl; rfl; apply ValP.indexAddrA; rfl; rfl; rfl; omega; apply LW.store; rfl; rfl; apply SetAt.head; assumption; apply LW.nil; refine blkN ?_; refine thenN ?_; refine CW.region ?_; apply LW.v0; rfl; rfl; apply ValP.addZL; rfl; rfl; decide; omega; apply LW.v0; rfl; rfl; apply ValP.move; rfl; apply LW.nil)
      apply thenX
      refine ⟨rfl, ⟨i + 1, _⟩, ⟨hlt, ?_, ?_, ?_, ?_⟩, by show 4 - (i + 1) < 4 - i; omega, ⟨rfl, rfl, rfl, rfl, rfl, rfl, trivial⟩, List.Sublist.refl _⟩
      · simpa using hL
      · exact set_lt hLb _ _ hc
      · dsimp only
        rw [hv, limb_step, Nat.add_mul, Nat.mul_right_comm]
      · intro j hjl hji
        dsimp only at hjl hji ⊢
        rw [List.getElem_set_ne (by omega)]
        exact hz j (by simpa using hjl) (by omega)
  · obtain rfl : i = 4 := by omega
    have ha4 : a % 2 ^ (64 * 4) = a := Nat.mod_eq_of_lt ha
    rw [ha4] at hval
    match L, hL with
    | [l0, l1, l2, l3, l4, l5, l6, l7], _ =>
      have h0 := hLb l0 (by simp)
      have h1 := hLb l1 (by simp)
      have h2 := hLb l2 (by simp)
      have h3 := hLb l3 (by simp)
      have h4 := hLb l4 (by simp)
      have h5 := hLb l5 (by simp)
      have h6 := hLb l6 (by simp)
      have h7 := hLb l7 (by simp)
      obtain ⟨m1, m2⟩ := mul_last l0 l1 l2 l3 l4 l5 l6 l7 (a * b) h0 h1 h2 h3 hval
      have hrw : Rd Tryd.prog 27 (.cells (lcs [l0, l1, l2, l3, l4, l5, l6, l7]) 91 (0, 0)) 0 (wv (a * b % M256)) := by
        rw [wv, ← wc_val h0 h1 h2 h3 m1]
        exact Rd.mid (cs := [.int .u64 (l0 : Int), .int .u64 (l1 : Int), .int .u64 (l2 : Int), .int .u64 (l3 : Int)]) rfl rfl
      have hbool : (!decide (((l4 ||| l5 ||| l6 ||| l7 : Nat) : Int) = 0)) = decide (M256 ≤ a * b) := by
        rw [Bool.eq_iff_iff, Bool.not_eq_true', decide_eq_false_iff_not, decide_eq_true_iff, Int.natCast_eq_zero, Nat.or_eq_zero_iff, Nat.or_eq_zero_iff, Nat.or_eq_zero_iff, m2]; omega
      (refine CW.seq ?_; refine CW.region ?_; apply LW.v0; rfl; rfl; apply ValP.lssF; rfl; rfl; omega; apply LW.nil; refine thenN ?_; refine CW.seq ?_; apply CW.condF; rfl; (with_reducible rfl); refine CW.exit ?_; refine thenE ?_; refine thenE ?_; refine blkE rfl ?_; refine thenN ?_; refine CW.seq ?_; apply CW.pre; refine AnyW.any 16 mixed (by decide +kernel) ?_; (try simp only [tsOf_cons, tsOf_nil, tsOf_app]); apply DW.v0; rfl; rfl; rfl; exact WantT.none; rfl; apply ValP.cutArr; infer_instance; infer_instance; rfl; rfl; rfl; apply DW.v0; rfl; rfl; rfl; exact WantT.none; rfl; apply ValP.asArr; infer_instance; rfl; rfl; apply DW.loadO; rfl; rfl; rfl; exact WantT.none; rfl; apply TRead.head; exact ancB_nil; assumption; apply DW.v0; rfl; rfl; rfl; exact WantT.none; rfl; apply ValP.indexAddrL; rfl; rfl; rfl; apply DW.loadO; rfl; rfl; rfl; exact WantT.none; rfl; apply TRead.head; exact ancB_nil; exact Rd.one' rfl; apply DW.v0; rfl; rfl; rfl; exact WantT.none; rfl; apply ValP.indexAddrL; rfl; rfl; rfl; apply DW.loadO; rfl; rfl; rfl; exact WantT.none; rfl; apply TRead.head; exact ancB_nil; exact Rd.one' rfl; apply DW.v0; rfl; rfl; rfl; exact WantT.none; rfl; apply ValP.orU; rfl; rfl; omega; omega; apply DW.v0; rfl; rfl; rfl; exact WantT.none; rfl; apply ValP.indexAddrL; rfl; rfl; rfl; apply DW.loadO; rfl; rfl; rfl; exact WantT.none; rfl; apply TRead.head; exact ancB_nil; exact Rd.one' rfl; apply DW.v0; rfl; rfl; rfl; exact WantT.none; rfl; apply ValP.orU; rfl; rfl; apply or64; omega; omega; omega; apply DW.v0; rfl; rfl; rfl; exact WantT.none; rfl; apply ValP.indexAddrL; rfl; rfl; rfl; apply DW.loadO; rfl; rfl; rfl; exact WantT.none; rfl; apply TRead.head; exact ancB_nil; exact Rd.one' rfl; apply DW.v0; rfl; rfl; rfl; exact WantT.none; rfl; apply ValP.orU; rfl; rfl; apply or64; apply or64; omega; omega; omega; omega; apply DW.v0; rfl; rfl; rfl; exact WantT.none; rfl; apply ValP.ne; rfl; rfl; apply DW.store; rfl; rfl; exact WantT.none; rfl; rfl; apply TSet.tail; apply TSet.head; exact ancB_nil; exact ancB_nil; apply Wr.whole; rfl; rfl; rfl; apply DW.nil; simp only [fsOf_cons, fsOf_nil, fsOf_app, fsOf_tsOf, fsOf_new]; apply LW.v0; rfl; rfl; apply ValP.assign; rfl; apply LW.nil; refine thenN ?_; refine CW.ret ?_)
      (apply finR; exact .inl rfl; rfl; rfl; rfl; apply ResL.cons; apply Res.cell; rfl; apply Known.at; apply FsAt.tail; apply FsAt.head; exact Rd.whole rfl; apply ResL.cons; exact Res.tmp rfl; exact ResL.nil)
      rw [← hbool]; rfl
end Go.Proofs.YtobkhnmglbfheaaDoor

/-
  Sums and products hang on no order; what is divided, multiplied and added, is the word again: the laws.
  Conditions: none.
-/
namespace Go.Proofs.YtobkhnmglbfheaaDoor
open Go Go.RowKit SL
set_option maxRecDepth 8000
set_option maxHeartbeats 4000000
set_option linter.unusedSimpArgs false
set_option linter.unusedVariables false
attribute [local irreducible] SL.CW SL.LW SL.DW Calls SL.Ret SL.RetG SL.beginQ SL.roundQ SL.rangeQ SL.inQ SL.RW SL.AnyW SL.thenQ SL.thenC SL.thenW SL.blkQ SL.finQ SL.ValP SL.NewP SL.SetP SL.CallP SL.Rd SL.Wr SL.Known
end Go.Proofs.YtobkhnmglbfheaaDoor

/-
  The document's answer in bits: how many times a word is in another one; products: the law.
  Conditions: none.
-/
namespace Go.Proofs.YtobkhnmglbfheaaDoor
open Go Go.RowKit SL
set_option maxRecDepth 8000
set_option maxHeartbeats 4000000
set_option linter.unusedSimpArgs false
set_option linter.unusedVariables false
attribute [local irreducible] SL.CW SL.LW SL.DW Calls SL.Ret SL.RetG SL.beginQ SL.roundQ SL.rangeQ SL.inQ SL.RW SL.AnyW SL.thenQ SL.thenC SL.thenW SL.blkQ SL.finQ SL.ValP SL.NewP SL.SetP SL.CallP SL.Rd SL.Wr SL.Known
theorem SL.AtSeg.one {p : Nat × Obj} {r : Fs} : AtSeg (p :: r) [] [p] r := AtSeg.head (seg := [p])
end Go.Proofs.YtobkhnmglbfheaaDoor

/-
  Words moved up and down: contracts.
  Conditions: none.
-/
namespace Go.Proofs.YtobkhnmglbfheaaDoor
open Go Go.RowKit SL
set_option maxRecDepth 8000
set_option maxHeartbeats 4000000
set_option linter.unusedSimpArgs false
set_option linter.unusedVariables false
attribute [local irreducible] SL.CW SL.LW SL.DW Calls SL.Ret SL.RetG SL.beginQ SL.roundQ SL.rangeQ SL.inQ SL.RW SL.AnyW SL.thenQ SL.thenC SL.thenW SL.blkQ SL.finQ SL.ValP SL.NewP SL.SetP SL.CallP SL.Rd SL.Wr SL.Known
/-! ### Limbs of words that are moved -/
theorem or_low {R A t : Nat} {r : Nat} (hR : R = 2 ^ r) (hA : R ∣ A) (ht : t < R) : A ||| t = A + t := by
  obtain ⟨q, rfl⟩ := hA
  subst hR
  rw [Nat.mul_comm, ← Nat.shiftLeft_eq, Nat.shiftLeft_add_eq_or_of_lt ht]

end Go.Proofs.YtobkhnmglbfheaaDoor

/-
  Words moved up and down: the walks.
  Conditions: none.
-/
namespace Go.Proofs.YtobkhnmglbfheaaDoor
open Go Go.RowKit SL
set_option maxRecDepth 8000
set_option maxHeartbeats 4000000
set_option linter.unusedSimpArgs false
set_option linter.unusedVariables false
attribute [local irreducible] SL.CW SL.LW SL.DW Calls SL.Ret SL.RetG SL.beginQ SL.roundQ SL.rangeQ SL.inQ SL.RW SL.AnyW SL.thenQ SL.thenC SL.thenW SL.blkQ SL.finQ SL.ValP SL.NewP SL.SetP SL.CallP SL.Rd SL.Wr SL.Known
theorem limb_rd (a j : Nat) (h : j < 4) {E : TypeId} {fr : Nat × Nat} : Rd Tryd.prog 23 (.cells (wc a) E fr) (0 + j * 1) (.int .u64 ((limb a j : Nat) : Int)) :=
  Rd.one (by rw [Nat.zero_add, Nat.mul_one]; have := nth_limb a j h; rw [nth_eq] at this; simpa using this)
end Go.Proofs.YtobkhnmglbfheaaDoor

/-
  Words moved down: the walk.
  Conditions: none.
-/
namespace Go.Proofs.YtobkhnmglbfheaaDoor
open Go Go.RowKit SL
set_option maxRecDepth 8000
set_option maxHeartbeats 4000000
set_option linter.unusedSimpArgs false
set_option linter.unusedVariables false
attribute [local irreducible] SL.CW SL.LW SL.DW Calls SL.Ret SL.RetG SL.beginQ SL.roundQ SL.rangeQ SL.inQ SL.RW SL.AnyW SL.thenQ SL.thenC SL.thenW SL.blkQ SL.finQ SL.ValP SL.NewP SL.SetP SL.CallP SL.Rd SL.Wr SL.Known
end Go.Proofs.YtobkhnmglbfheaaDoor

/-
  Words and their bytes: contracts.
  Conditions: none.
-/
namespace Go.Proofs.YtobkhnmglbfheaaDoor
open Go Go.RowKit SL
set_option maxRecDepth 8000
set_option maxHeartbeats 4000000
set_option linter.unusedSimpArgs false
set_option linter.unusedVariables false
attribute [local irreducible] SL.CW SL.LW SL.DW Calls SL.Ret SL.RetG SL.beginQ SL.roundQ SL.rangeQ SL.inQ SL.RW SL.AnyW SL.thenQ SL.thenC SL.thenW SL.blkQ SL.finQ SL.ValP SL.NewP SL.SetP SL.CallP SL.Rd SL.Wr SL.Known
/-! ### The same bytes? -/
theorem Equal_calls (va vb : Value) (la lb : List UInt8) (na nb : Nat) (w : World) (ha : RowAt w 1 va na (ucs la)) (hb : RowAt w 1 vb nb (ucs lb)) : Calls Tryd.prog 13 #[va, vb] w (Ret w (.bool (decide (la = lb)))) := by
  refine enter (args := [_, _]) _ [] [] Tryd.func13 rfl Tryd.ntmps13 rfl (by simp) .nil ?_
  (refine CW.seq ?_; refine CW.region ?_; apply LW.v0; rfl; rfl; apply ValP.assign; rfl; apply LW.nil; refine thenN ?_; refine CW.seq ?_; refine CW.region ?_; apply LW.v0; rfl; rfl; apply ValP.move; rfl)
  apply LW.toStr
  rfl
  infer_instance
  infer_instance
  infer_instance
  rfl
  exact fun w hs => ha.st hs
  (apply LW.v0; rfl; rfl; apply ValP.move; rfl)
  apply LW.toStr
  rfl
  infer_instance
  infer_instance
  infer_instance
  rfl
  exact fun w hs => hb.st hs
  (apply LW.v0; rfl; rfl; apply ValP.strEq; rfl; rfl; apply LW.v0; rfl; rfl; apply ValP.assign; rfl; apply LW.nil; refine thenN ?_; refine CW.ret ?_)
  (apply finR; exact .inl rfl; rfl; rfl; rfl; apply ResL.cons; exact Res.tmp rfl; exact ResL.nil)
  rw [bytes_eq]
  rfl
/-! ### Bytes of a number, the highest one first -/
def beb (m a : Nat) : List UInt8 := (List.range m).map fun i => UInt8.ofNat (a / 256 ^ (m - 1 - i))
theorem beb_len (m a : Nat) : (beb m a).length = m := by simp [beb]
theorem beb_get (m a i : Nat) (h : i < m) : (beb m a)[i]? = some (UInt8.ofNat (a / 256 ^ (m - 1 - i))) := by simp [beb, h]
theorem byte_limb (a n : Nat) (hn : n < 32) : a / 2 ^ (64 * (0 + n / 8 * 1)) % 18446744073709551616 / 2 ^ (8 * (n % 8)) % 256 = a / 256 ^ n % 256 := by
  rw [show (18446744073709551616 : Nat) = 2 ^ (8 * (n % 8) + (64 - 8 * (n % 8))) by rw [show 8 * (n % 8) + (64 - 8 * (n % 8)) = 64 by omega]]
  rw [Nat.pow_add, Nat.mod_mul_right_div_self, Nat.div_div_eq_div_mul, ← Nat.pow_add, show 64 * (0 + n / 8 * 1) + 8 * (n % 8) = 8 * n by omega, Nat.pow_mul]
  obtain ⟨j, hj⟩ : ∃ j, 64 - 8 * (n % 8) = 8 + j := ⟨56 - 8 * (n % 8), by omega⟩
  rw [hj, Nat.pow_add, show (256 : Nat) = 2 ^ 8 from rfl, Nat.mod_mod_of_dvd _ ⟨2 ^ j, rfl⟩]
theorem beb_u8 (a k : Nat) (hk : k < 32) : ((a / 2 ^ (64 * (0 + (32 - 1 - k) / 8 * 1)) % 18446744073709551616 / 2 ^ (8 * ((32 - 1 - k) % 8)) % 256 : Nat) : Int) = (((UInt8.ofNat (a / 256 ^ (32 - 1 - k))).toNat : Nat) : Int) := by
  rw [byte_limb a _ (by omega), UInt8.toNat_ofNat']
/-- The first k bytes, the others 0. -/
def fillB (L : List UInt8) (k : Nat) : List UInt8 := L.take k ++ List.replicate (L.length - k) 0
theorem fillB_step (L : List UInt8) (k : Nat) (u : UInt8) (h : k < L.length) (hu : L[k]? = some u) : ucs ((fillB L k).take k) ++ [Value.int .u8 (u.toNat : Int)] ++ ucs ((fillB L k).drop (k + 1)) = ucs (fillB L (k + 1)) := by
  have h1 : (L.take k).length = k := by simp; omega
  have e1 : (fillB L k).take k = L.take k := by unfold fillB; rw [List.take_append_of_le_length (by omega), List.take_of_length_le (by omega)]
  have e2 : (fillB L k).drop (k + 1) = List.replicate (L.length - (k + 1)) 0 := by
    unfold fillB
    rw [List.drop_append, h1, List.drop_eq_nil_of_le (by omega), List.nil_append, List.drop_replicate]
    congr 1; omega
  obtain ⟨hk, hv⟩ := List.getElem?_eq_some_iff.1 hu
  rw [e1, e2, show [Value.int .u8 (u.toNat : Int)] = ucs [u] from rfl, ← ucs_app, ← ucs_app]
  unfold fillB
  rw [List.take_succ_eq_append_getElem hk, hv]
theorem fillB_len (L : List UInt8) (k : Nat) (h : k ≤ L.length) : (fillB L k).length = L.length := by simp [fillB]; omega
structure BX where
  m : Nat
  seg : Fs
theorem Bytes_calls (a : Nat) (ha : a < M256) (w : World) : Calls Tryd.prog 42 #[wv a] w (RetG w [] fun v gs => IsRow 5 1 v 32 (ucs (beb 32 a)) gs) := by
  refine enter (args := [_]) _ [] [] Tryd.func42 rfl Tryd.ntmps42 rfl (by simp) .nil ?_
  (refine CW.seq ?_; refine CW.region ?_; apply LW.boxA; rfl; rfl; intro _; apply LW.v0; rfl; rfl; apply ValP.assign; rfl; apply LW.nil; refine thenN ?_; refine CW.seq ?_; refine CW.region ?_)
  rename_i b
  refine LW.makeRow (n := 32) rfl inferInstance inferInstance inferInstance rfl rfl (by decide) (by decide) ?_
  intro v0 seg0 hrow0
  obtain ⟨p0, c0, rfl⟩ := hrow0.form
  rw [← ucs_zero] at hrow0
  (apply LW.v0; rfl; rfl; apply ValP.assign; rfl; apply LW.nil; refine thenN ?_; refine CW.seq ?_; refine CW.seq ?_; refine CW.region ?_; apply LW.v0; rfl; rfl; apply ValP.move; rfl; apply LW.v0; rfl; rfl; apply ValP.lenR; rfl; infer_instance; rfl; apply LW.v0; rfl; rfl; apply ValP.move; rfl; apply LW.nil; refine thenN ?_; refine CW.block ?_)
  refine CW.loop (fun x : BX => ([(9, .int .i64 (x.m : Int)), (8, .int .i64 32), (3, .slice p0 32 c0), (1, .pointer (some ⟨b, 0, none⟩))], x.seg ++ [(b, .cells (wc a) 27 (0, 0))]))
    (fun x => x.m ≤ 32 ∧ IsRow 5 1 (.slice p0 32 c0) 32 (ucs (fillB (beb 32 a) x.m)) x.seg) (fun x => 32 - x.m) ⟨0, seg0⟩ ⟨Nat.zero_le _, by simpa [fillB, beb_len] using hrow0⟩ ⟨rfl, rfl, rfl, rfl, trivial⟩ (List.Sublist.refl _) ?_
  rintro ⟨k, seg⟩ ⟨hk, hrow⟩
  dsimp only at hk hrow ⊢
  rcases Nat.lt_or_ge k 32 with hlt | hge
  · obtain ⟨g, cur, rfl, rfl, hc1, hmx, hsz, ht⟩ := hrow.pos (by decide)
    have hu := beb_get 32 a k hlt
    have hval := beb_u8 a k hlt
    obtain ⟨u, hu'⟩ : ∃ u, u = UInt8.ofNat (a / 256 ^ (32 - 1 - k)) := ⟨_, rfl⟩
    rw [← hu'] at hu hval
    obtain ⟨w1, w2⟩ := wr_take (i := k) (vs := [Value.int .u8 (u.toNat : Int)]) ht rfl hlt (by omega)
    rw [ucs_take, ucs_drop, fillB_step _ _ _ (by rw [beb_len]; exact hlt) hu] at w1
    have hW : Wr Tryd.prog 5 (.cells cur 5 (0, 0)) (0 + k * 1) (.int .u8 (u.toNat : Int)) (.cells (wrCells cur (k * 1) [Value.int .u8 (u.toNat : Int)]) 5 (0, 0)) := Wr.cells rfl rfl (by rw [hsz]; show 0 + k * 1 + 1 ≤ c0 * 1; omega) (by rw [Nat.zero_add]; rfl)
    rw [← hval] at hW
    (refine CW.seq ?_; refine CW.region ?_; apply LW.v0; rfl; rfl; apply ValP.lssT; rfl; rfl; omega; apply LW.nil; refine thenN ?_; refine CW.seq ?_; apply CW.condT; rfl; (with_reducible rfl); refine CW.skip ?_; refine thenN ?_; refine CW.seq ?_; refine CW.block ?_; refine CW.seq ?_; refine CW.region ?_; apply LW.v0; rfl; rfl; apply ValP.move; rfl; apply LW.v0; rfl; rfl; apply ValP.assign; rfl; apply LW.nil; refine thenN ?_; refine CW.seq ?_; refine CW.region ?_; apply LW.v0; rfl; rfl; apply ValP.move; rfl; apply LW.v0; rfl; rfl; apply ValP.lenR; rfl; infer_instance; rfl; apply LW.v0; rfl; rfl; apply ValP.subZL; rfl; rfl; decide; omega; omega; apply LW.v0; rfl; rfl; apply ValP.move; rfl; apply LW.v0; rfl; rfl; apply ValP.subZ; rfl; rfl; omega; omega; apply LW.v0; rfl; rfl; apply ValP.assign; rfl; apply LW.nil; refine thenN ?_; refine CW.region ?_; apply LW.v0; rfl; rfl; apply ValP.move; rfl; apply LW.v0; rfl; rfl; apply ValP.move; rfl; apply LW.v0; rfl; rfl; apply ValP.move; rfl; apply LW.v0; rfl; rfl; apply ValP.quoZL; rfl; rfl; decide; omega; omega; apply LW.v0; rfl; rfl; apply ValP.indexAddrA; rfl; rfl; rfl; omega; apply LW.load; rfl; rfl; apply Known.at; apply FsAt.tail; apply FsAt.head; apply Rd.one'; apply nth_wc; omega; apply LW.v0; rfl; rfl; apply ValP.move; rfl; apply LW.v0; rfl; rfl; apply ValP.remZL; rfl; rfl; decide; omega; apply LW.v0; rfl; rfl; apply ValP.mulZK; rfl; rfl; decide; omega; apply LW.v0; rfl; rfl; apply ValP.shrU; rfl; rfl; omega; apply LW.v0; rfl; rfl; apply ValP.convB; rfl; apply LW.v0; rfl; rfl; apply ValP.indexAddrS; rfl; rfl; rfl; omega; apply LW.store; rfl; rfl; apply SetAt.head; assumption; apply LW.nil; refine blkN ?_; refine thenN ?_; refine CW.region ?_; apply LW.v0; rfl; rfl; apply ValP.addZL; rfl; rfl; decide; omega; apply LW.v0; rfl; rfl; apply ValP.move; rfl; apply LW.nil)
    apply thenX
    refine ⟨rfl, ⟨k + 1, _⟩, ⟨hlt, .own hc1 hmx (by rw [w2, hsz]) w1 ?_⟩, by show 32 - (k + 1) < 32 - k; omega, ⟨rfl, rfl, rfl, rfl, trivial⟩, by rw [hval]; exact List.Sublist.refl _⟩
    rw [ucs_len, fillB_len _ _ (by rw [beb_len]; exact hlt), beb_len]
  · obtain rfl : k = 32 := by omega
    rw [show fillB (beb 32 a) 32 = beb 32 a by simp [fillB, beb_len, List.take_of_length_le]] at hrow
    (refine CW.seq ?_; refine CW.region ?_; apply LW.v0; rfl; rfl; apply ValP.lssF; rfl; rfl; omega; apply LW.nil; refine thenN ?_; refine CW.seq ?_; apply CW.condF; rfl; (with_reducible rfl); refine CW.exit ?_; refine thenE ?_; refine thenE ?_; refine blkE rfl ?_; refine thenN ?_; refine CW.seq ?_; refine CW.region ?_; apply LW.v0; rfl; rfl; apply ValP.move; rfl; apply LW.v0; rfl; rfl; apply ValP.assign; rfl; apply LW.nil; refine thenN ?_; refine CW.ret ?_)
    apply finM seg; (exact .inl rfl); (exact Shut.nil); rfl; (apply ResL.cons; exact Res.tmp rfl; exact ResL.nil); exact List.sublist_append_left _ _
    exact hrow
/-! ### The word of bytes -/
def bev (l : List UInt8) : Nat := l.foldl (fun n u => 256 * n + u.toNat) 0
theorem bev_snoc (l : List UInt8) (u : UInt8) : bev (l ++ [u]) = 256 * bev l + u.toNat := by simp [bev, List.foldl_append]
theorem bev_go (l : List UInt8) : ∀ n, l.foldl (fun n u => 256 * n + u.toNat) n < (n + 1) * 2 ^ (8 * l.length) := by
  induction l with
  | nil => intro n; simp
  | cons u l ih =>
    intro n
    have hu := u.toNat_lt
    rw [List.foldl_cons, List.length_cons, show 8 * (l.length + 1) = 8 + 8 * l.length by omega, Nat.pow_add, ← Nat.mul_assoc]
    exact Nat.lt_of_lt_of_le (ih _) (Nat.mul_le_mul_right _ (by omega))
theorem bev_lt (l : List UInt8) : bev l < 2 ^ (8 * l.length) := by
  have := bev_go l 0
  rwa [Nat.zero_add, Nat.one_mul] at this
/-- What is read of the first m bytes. -/
def bup (l : List UInt8) (m : Nat) : Nat := bev (l.take m) * 2 ^ (8 * (l.length - m))
theorem bup_step (l : List UInt8) (m : Nat) (h : m < l.length) : bup l m ||| l[m].toNat * 2 ^ (8 * (l.length - 1 - m)) = bup l (m + 1) := by
  have hu := l[m].toNat_lt
  have e : 2 ^ (8 * (l.length - m)) = 256 * 2 ^ (8 * (l.length - 1 - m)) := by rw [show 8 * (l.length - m) = 8 + 8 * (l.length - 1 - m) by omega, Nat.pow_add]
  have hp := pow_pos2 (8 * (l.length - 1 - m))
  unfold bup
  rw [or_low (R := 2 ^ (8 * (l.length - m))) rfl ⟨bev (l.take m), Nat.mul_comm _ _⟩ (by rw [e]; exact Nat.mul_lt_mul_of_pos_right hu hp)]
  rw [List.take_succ_eq_append_getElem h, bev_snoc, Nat.add_mul, e, show l.length - (m + 1) = l.length - 1 - m by omega, ← Nat.mul_assoc, Nat.mul_comm (bev _) 256]
theorem or_limb (X Z k : Nat) : (X ||| Z) / 2 ^ k % 18446744073709551616 = X / 2 ^ k % 18446744073709551616 ||| Z / 2 ^ k % 18446744073709551616 := by
  rw [Nat.or_div_two_pow, show (18446744073709551616 : Nat) = 2 ^ 64 from rfl, Nat.or_mod_two_pow]
theorem wc_or (X Z : Nat) : wc (X ||| Z) = #[.int .u64 ((X % 18446744073709551616 ||| Z % 18446744073709551616 : Nat) : Int), .int .u64 ((X / 18446744073709551616 % 18446744073709551616 ||| Z / 18446744073709551616 % 18446744073709551616 : Nat) : Int),
    .int .u64 ((X / 340282366920938463463374607431768211456 % 18446744073709551616 ||| Z / 340282366920938463463374607431768211456 % 18446744073709551616 : Nat) : Int), .int .u64 ((X / 6277101735386680763835789423207666416102355444464034512896 % 18446744073709551616 ||| Z / 6277101735386680763835789423207666416102355444464034512896 % 18446744073709551616 : Nat) : Int)] := by
  have h0 := or_limb X Z 0
  have h1 := or_limb X Z 64
  have h2 := or_limb X Z 128
  have h3 := or_limb X Z 192
  simp only [Nat.pow_zero, Nat.div_one, Nat.reducePow] at h0 h1 h2 h3
  rw [wc, h0, h1, h2, h3]
theorem wc_setor (X i v : Nat) (hi : i < 4) (hv : v < 18446744073709551616) : ((wc X).toList.set i (.int .u64 ((limb X i ||| v : Nat) : Int))).toArray = wc (X ||| v * 2 ^ (64 * i)) := by
  rw [wc_or]
  have e0 : v % 18446744073709551616 = v := Nat.mod_eq_of_lt hv
  unfold limb
  rcases (show i = 0 ∨ i = 1 ∨ i = 2 ∨ i = 3 by omega) with rfl | rfl | rfl | rfl <;> simp only [wc, List.set_cons_zero, List.set_cons_succ, Nat.mul_zero, Nat.pow_zero, Nat.div_one, Nat.mul_one, Nat.reduceMul, Nat.reducePow]
  · rw [e0, show v / 18446744073709551616 % 18446744073709551616 = 0 by omega, show v / 340282366920938463463374607431768211456 % 18446744073709551616 = 0 by omega, show v / 6277101735386680763835789423207666416102355444464034512896 % 18446744073709551616 = 0 by omega, Nat.or_zero, Nat.or_zero, Nat.or_zero]
  · rw [show v * 18446744073709551616 / 18446744073709551616 % 18446744073709551616 = v by omega, show v * 18446744073709551616 % 18446744073709551616 = 0 by omega, show v * 18446744073709551616 / 340282366920938463463374607431768211456 % 18446744073709551616 = 0 by omega, show v * 18446744073709551616 / 6277101735386680763835789423207666416102355444464034512896 % 18446744073709551616 = 0 by omega, Nat.or_zero, Nat.or_zero, Nat.or_zero]
  · rw [show v * 340282366920938463463374607431768211456 / 18446744073709551616 % 18446744073709551616 = 0 by omega, show v * 340282366920938463463374607431768211456 % 18446744073709551616 = 0 by omega, show v * 340282366920938463463374607431768211456 / 340282366920938463463374607431768211456 % 18446744073709551616 = v by omega, show v * 340282366920938463463374607431768211456 / 6277101735386680763835789423207666416102355444464034512896 % 18446744073709551616 = 0 by omega, Nat.or_zero, Nat.or_zero, Nat.or_zero]
  · rw [show v * 6277101735386680763835789423207666416102355444464034512896 / 18446744073709551616 % 18446744073709551616 = 0 by omega, show v * 6277101735386680763835789423207666416102355444464034512896 % 18446744073709551616 = 0 by omega, show v * 6277101735386680763835789423207666416102355444464034512896 / 340282366920938463463374607431768211456 % 18446744073709551616 = 0 by omega, show v * 6277101735386680763835789423207666416102355444464034512896 / 6277101735386680763835789423207666416102355444464034512896 % 18446744073709551616 = v by omega, Nat.or_zero, Nat.or_zero, Nat.or_zero]
theorem byte_wr (X n u : Nat) (hn : n < 32) (hu : u < 256) {E : TypeId} : Wr Tryd.prog 23 (.cells (wc X) E (0, 0)) (0 + n / 8 * 1) (.int .u64 ((limb X (n / 8) ||| u * 2 ^ (8 * (n % 8)) % 18446744073709551616 : Nat) : Int)) (.cells (wc (X ||| u * 2 ^ (8 * n))) E (0, 0)) :=
  Wr.cells rfl rfl (by show 0 + n / 8 * 1 + 1 ≤ 4; omega) (by
    have h7 : 2 ^ (8 * (n % 8)) ≤ 2 ^ 56 := Nat.pow_le_pow_right (by decide) (by omega)
    have hlt : u * 2 ^ (8 * (n % 8)) < 18446744073709551616 := by
      have := Nat.mul_le_mul (show u ≤ 255 by omega) h7
      have : (255 : Nat) * 2 ^ 56 < 18446744073709551616 := by decide
      omega
    have h := wc_setor X (n / 8) (u * 2 ^ (8 * (n % 8))) (by omega) hlt
    rw [Nat.mul_assoc, ← Nat.pow_add, show 8 * (n % 8) + 64 * (n / 8) = 8 * n by omega] at h
    rw [Nat.zero_add, Nat.mul_one, Nat.mod_eq_of_lt hlt, ← h]
    apply Array.toList_inj.1
    simp [wrCells, Value.cells])
theorem Read_calls (v : Value) (l : List UInt8) (w : World) (hv : RowAt w 1 v l.length (ucs l)) (hl : l.length ≤ 32) : Calls Tryd.prog 40 #[v] w (Ret w (.tuple #[wv (bev l), .int .i64 0])) := by
  obtain ⟨p, c, rfl, hc, hm⟩ := hv.form
  simp only [maxLen] at hm
  refine enter (args := [_]) _ [] [] Tryd.func40 rfl Tryd.ntmps40 rfl (by simp) .nil ?_
  (refine CW.seq ?_; refine CW.region ?_; apply LW.allocW; rfl; intro _; apply LW.v0; rfl; rfl; apply ValP.assign; rfl; apply LW.nil; refine thenN ?_; refine CW.seq ?_; refine CW.region ?_; apply LW.allocW; rfl; intro _; apply LW.nil; refine thenN ?_; refine CW.seq ?_; refine CW.seq ?_; refine CW.region ?_; apply LW.v0; rfl; rfl; apply ValP.move; rfl; apply LW.v0; rfl; rfl; apply ValP.lenR; rfl; infer_instance; rfl; apply LW.v0; rfl; rfl; apply ValP.gtrF; rfl; rfl; omega; apply LW.nil; refine thenN ?_; apply CW.condF; rfl; (with_reducible rfl); refine CW.skip ?_; refine thenN ?_; refine CW.seq ?_; refine CW.seq ?_; refine CW.region ?_; apply LW.v0; rfl; rfl; apply ValP.move; rfl; apply LW.v0; rfl; rfl; apply ValP.lenR; rfl; infer_instance; rfl; apply LW.v0; rfl; rfl; apply ValP.move; rfl; apply LW.nil; refine thenN ?_; refine CW.block ?_)
  rename_i b2 b4
  refine CW.loop (fun m : Nat => ([(14, .int .i64 (m : Int)), (13, .int .i64 (l.length : Int)), (12, .slice p l.length c), (0, .slice p l.length c), (4, .pointer (some ⟨b4, 0, none⟩)), (2, .pointer (some ⟨b2, 0, none⟩))],
      [(b4, .cells (wc (bup l m)) 27 (0, 0)), (b2, .cells (wc 0) 27 (0, 0))]))
    (fun m => m ≤ l.length) (fun m => l.length - m) 0 (Nat.zero_le _) ⟨rfl, rfl, rfl, rfl, rfl, rfl, trivial⟩ (by simp [bup, bev]) ?_
  intro m hml
  dsimp only at hml ⊢
  rcases Nat.lt_or_ge m l.length with hlt | hge
  · obtain ⟨b, off, c', cs, E, fr, heq, hb, hx⟩ := hv.pos (by omega)
    cases heq
    obtain ⟨u, hu⟩ : ∃ u, u = l[m] := ⟨_, rfl⟩
    have hrd : Rd Tryd.prog 5 (.cells cs E fr) (off + m * 1) (.int .u8 (u.toNat : Int)) := Rd.elem1 hx (ucs_one l) (by rw [hu]; exact List.getElem?_eq_getElem hlt) rfl
    have hu8 := u.toNat_lt
    have hst := bup_step l m hlt
    rw [← hu] at hst
    have hn32 : l.length - 1 - m < 32 := by omega
    obtain ⟨X, hX⟩ : ∃ X, X = bup l m := ⟨_, rfl⟩
    rw [← hX] at hst ⊢
    have hlm := limb_lt X ((l.length - 1 - m) / 8)
    have hrl := limb_rd X ((l.length - 1 - m) / 8) (by omega) (E := 27) (fr := (0, 0))
    have hW := byte_wr X (l.length - 1 - m) u.toNat hn32 hu8 (E := 27)
    have hv8 : u.toNat * 2 ^ (8 * ((l.length - 1 - m) % 8)) % 18446744073709551616 < 18446744073709551616 := Nat.mod_lt _ (by decide)
    rw [hst] at hW
    (refine CW.seq ?_; refine CW.region ?_; apply LW.v0; rfl; rfl; apply ValP.lssT; rfl; rfl; omega; apply LW.nil; refine thenN ?_; refine CW.seq ?_; apply CW.condT; rfl; (with_reducible rfl); refine CW.skip ?_; refine thenN ?_; refine CW.seq ?_; refine CW.block ?_; refine CW.seq ?_; refine CW.region ?_; apply LW.v0; rfl; rfl; apply ValP.move; rfl; apply LW.v0; rfl; rfl; apply ValP.indexAddrS; rfl; rfl; rfl; omega; apply LW.load; rfl; rfl; exact Known.ext (by assumption) (by simp); assumption; apply LW.v0; rfl; rfl; apply ValP.assign; rfl; apply LW.v0; rfl; rfl; apply ValP.assign; rfl; apply LW.nil; refine thenN ?_; refine CW.seq ?_; refine CW.region ?_; apply LW.v0; rfl; rfl; apply ValP.move; rfl; apply LW.v0; rfl; rfl; apply ValP.lenR; rfl; infer_instance; rfl; apply LW.v0; rfl; rfl; apply ValP.subZL; rfl; rfl; decide; omega; omega; apply LW.v0; rfl; rfl; apply ValP.move; rfl; apply LW.v0; rfl; rfl; apply ValP.subZ; rfl; rfl; omega; omega; apply LW.v0; rfl; rfl; apply ValP.assign; rfl; apply LW.nil; refine thenN ?_; apply CW.pre; refine AnyW.any 10 mixed (by decide +kernel) ?_; (try simp only [tsOf_cons, tsOf_nil, tsOf_app]); apply DW.v0; rfl; rfl; rfl; exact WantT.none; rfl; apply ValP.move; rfl; apply DW.v0; rfl; rfl; rfl; exact WantT.none; rfl; apply ValP.quoZL; rfl; rfl; decide; omega; omega; apply DW.v0; rfl; rfl; rfl; exact WantT.none; rfl; apply ValP.indexAddrA; rfl; rfl; rfl; omega; apply DW.loadO; rfl; rfl; rfl; exact WantT.none; rfl; apply TRead.head; exact ancB_nil; assumption; apply DW.v0; rfl; rfl; rfl; exact WantT.none; rfl; apply ValP.move; rfl; apply DW.v0; rfl; rfl; rfl; exact WantT.none; rfl; apply ValP.convN; rfl; omega; omega; apply DW.v0; rfl; rfl; rfl; exact WantT.none; rfl; apply ValP.move; rfl; apply DW.v0; rfl; rfl; rfl; exact WantT.none; rfl; apply ValP.remZL; rfl; rfl; decide; omega; apply DW.v0; rfl; rfl; rfl; exact WantT.none; rfl; apply ValP.mulZK; rfl; rfl; decide; omega; apply DW.v0; rfl; rfl; rfl; exact WantT.none; rfl; apply ValP.shlU; rfl; rfl; omega; apply DW.nil; simp only [fsOf_cons, fsOf_nil, fsOf_app, fsOf_tsOf, fsOf_new]; apply LW.v0; rfl; rfl; apply ValP.orU; rfl; rfl; omega; omega; apply LW.v0; rfl; rfl; apply ValP.indexAddrA; rfl; rfl; rfl; omega; apply LW.store; rfl; rfl; apply SetAt.head; assumption; apply LW.nil; refine blkN ?_; refine thenN ?_; refine CW.region ?_; apply LW.v0; rfl; rfl; apply ValP.addZL; rfl; rfl; decide; omega; apply LW.v0; rfl; rfl; apply ValP.move; rfl; apply LW.nil)
    apply thenX
    exact ⟨rfl, m + 1, hlt, by omega, ⟨rfl, rfl, rfl, rfl, rfl, rfl, trivial⟩, List.Sublist.refl _⟩
  · obtain rfl : m = l.length := by omega
    rw [show bup l l.length = bev l by simp [bup]]
    (refine CW.seq ?_; refine CW.region ?_; apply LW.v0; rfl; rfl; apply ValP.lssF; rfl; rfl; omega; apply LW.nil; refine thenN ?_; refine CW.seq ?_; apply CW.condF; rfl; (with_reducible rfl); refine CW.exit ?_; refine thenE ?_; refine thenE ?_; refine blkE rfl ?_; refine thenN ?_; refine CW.seq ?_; refine CW.region ?_; apply LW.load; rfl; rfl; apply Known.at; apply FsAt.head; exact Rd.whole rfl; apply LW.store; rfl; rfl; apply SetAt.tail; apply SetAt.head; apply Wr.whole; rfl; rfl; rfl; apply LW.v0; rfl; rfl; apply ValP.assign; rfl; apply LW.nil; refine thenN ?_; refine CW.ret ?_)
    (apply finR; exact .inl rfl; rfl; rfl; rfl; apply ResL.cons; apply Res.cell; rfl; apply Known.at; apply FsAt.tail; apply FsAt.head; exact Rd.whole rfl; apply ResL.cons; exact Res.tmp rfl; exact ResL.nil)
    rfl
end Go.Proofs.YtobkhnmglbfheaaDoor

/-
  Bytes of words (for a seat that has the texts of words).
  Conditions: none.
-/
namespace Go.Proofs.YtobkhnmglbfheaaDoor
open Go Go.RowKit SL
theorem bev_beb : ∀ (m a : Nat), bev (beb m a) = a % 256 ^ m
  | 0, a => by simp [beb, bev, Nat.mod_one]
  | m + 1, a => by
    have e : beb (m + 1) a = beb m (a / 256) ++ [UInt8.ofNat a] := by
      unfold beb
      rw [List.range_succ, List.map_append]
      congr 1
      · apply List.map_congr_left
        intro i hi
        rw [List.mem_range] at hi
        rw [show m + 1 - 1 - i = (m - 1 - i) + 1 by omega, Nat.pow_succ', Nat.div_div_eq_div_mul]
      · simp
    have h := @Nat.mod_mul 256 (256 ^ m) a
    rw [e, bev_snoc, bev_beb m (a / 256), UInt8.toNat_ofNat', show 2 ^ 8 = 256 from rfl, show 256 ^ (m + 1) = 256 * 256 ^ m from Nat.pow_succ', h]
    omega
theorem bev_back (a : Nat) (ha : a < M256) : bev (beb 32 a) = a := by
  rw [bev_beb]; exact Nat.mod_eq_of_lt ha
end Go.Proofs.YtobkhnmglbfheaaDoor

/-
  Contracts of the pack: parts, which may be, which are the same.
  Conditions: none.
-/
namespace Go.Proofs.YtobkhnmglbfheaaDoor
open Go Go.RowKit SL
set_option maxRecDepth 8000
set_option maxHeartbeats 4000000
set_option linter.unusedSimpArgs false
set_option linter.unusedVariables false
attribute [local irreducible] SL.CW SL.LW SL.DW Calls SL.Ret SL.RetG SL.beginQ SL.roundQ SL.rangeQ SL.inQ SL.RW SL.AnyW SL.thenQ SL.thenC SL.thenW SL.blkQ SL.finQ SL.ValP SL.NewP SL.SetP SL.CallP SL.Rd SL.Wr SL.Known
/-- A part: its mark, its word, the value of its bytes, and the bytes. -/
structure PartV where
  lg : Bool
  wd : Nat
  dv : Value
  db : List UInt8
def psc (p : PartV) : List Value := .bool p.lg :: ((wc p.wd).toList ++ [p.dv])
def psa (p : PartV) : Array Value := (psc p).toArray
theorem psc_len (l : List PartV) : ∀ p ∈ l, (psc p).length = 6 := fun _ _ => rfl
section rd
variable {P : Program} {T E : TypeId} {fr : Nat × Nat} {p : PartV}
theorem ps_rd0 [AgI P T false] : Rd P T (.cells (psa p) E fr) 0 (.bool p.lg) := Rd.one rfl
theorem ps_rd1 {z : Value} [AgI P T true] [InfoI P T 4 z] : Rd P T (.cells (psa p) E fr) 1 (wv p.wd) := Rd.mid (cs := (wc p.wd).toList) rfl rfl
theorem ps_rd2 [AgI P T false] : Rd P T (.cells (psa p) E fr) 5 p.dv := Rd.one rfl
theorem ps_rdW {z : Value} [AgI P T true] [InfoI P T 6 z] : Rd P T (.cells (psa p) E fr) 0 (.agg (psa p)) := Rd.whole rfl
theorem ps_wrW {z : Value} {cs : Array Value} [InfoI P T 6 z] (h : cs.size = 6) (hd : p.dv.oneCell' = true) : Wr P T (.cells cs E (0, 0)) 0 (.agg (psa p)) (.cells (psa p) E (0, 0)) :=
  Wr.whole h rfl (by simp only [psa, psc, wc, List.all_toArray', List.cons_append, List.nil_append]; simp only [← Array.all_toList, List.all_cons, List.all_nil, hd]; rfl)
end rd
/-- What a part's value says. -/
structure PartOk (p : PartV) : Prop where
  small : p.wd < M256
  form : ∃ q c, p.dv = .slice q p.db.length c
/-- Parts that may be read. -/
structure PartsAt (w : World) (v : Value) (l : List PartV) : Prop where
  row : RowAt w 6 v l.length (l.flatMap psc)
  small : ∀ p ∈ l, p.wd < M256
  data : ∀ p ∈ l, RowAt w 1 p.dv p.db.length (ucs p.db)
theorem PartsAt.st {w0 w : World} {v : Value} {l : List PartV} {fs : Fs} (h : PartsAt w0 v l) (hs : St w0 [] fs w) : PartsAt w v l :=
  ⟨h.row.st hs, h.small, fun p hp => (h.data p hp).st hs⟩
theorem PartsAt.ok {w : World} {v : Value} {l : List PartV} (h : PartsAt w v l) : ∀ p ∈ l, PartOk p := fun p hp => by
  obtain ⟨q, c, e, _, _⟩ := (h.data p hp).form
  exact ⟨h.small p hp, q, c, e⟩
theorem PartsAt.one {w : World} {v : Value} {l : List PartV} (h : PartsAt w v l) : ∀ p ∈ l, p.dv.oneCell' = true := fun p hp => by
  obtain ⟨q, c, e, _, _⟩ := (h.data p hp).form
  rw [e]; rfl
/-- May a part be? -/
def rightP (p : PartV) : Bool := if p.lg then decide (p.wd = 0) && decide (p.db.length ≤ 200) else decide (p.db.length = 0)
theorem rightP_long {p : PartV} (h : p.lg = true) : rightP p = (decide (p.wd = 0) && decide (p.db.length ≤ 200)) := by unfold rightP; rw [h]; rfl
theorem rightP_short {p : PartV} (h : p.lg = false) : rightP p = decide (p.db.length = 0) := by unfold rightP; rw [h]; rfl
theorem right_calls (p : PartV) (hp : PartOk p) (w : World) : Calls Tryd.prog 75 #[.agg (psa p)] w (Ret w (.bool (rightP p))) := by
  obtain ⟨hs, q, c, hf⟩ := hp
  obtain ⟨lg, wd, dv, db⟩ := p
  dsimp only at hs hf
  subst hf
  have h0 : (0 : Nat) < M256 := by decide
  cases lg with
  | true =>
    rw [rightP_long rfl]
    dsimp only
    by_cases hw : wd = 0
    · subst hw
      rcases Nat.lt_or_ge 200 db.length with hl | hl
      · refine enter (args := [_]) _ [] [] Tryd.func75 rfl Tryd.ntmps75 rfl (by simp) .nil ?_
        (refine CW.seq ?_; refine CW.region ?_; apply LW.boxA; rfl; rfl; intro _; apply LW.v0; rfl; rfl; apply ValP.assign; rfl; apply LW.nil; refine thenN ?_; refine CW.seq ?_; refine CW.seq ?_; refine CW.region ?_; apply LW.v0; rfl; rfl; apply ValP.fieldAddr; rfl; rfl; apply LW.load; rfl; rfl; apply Known.at; apply FsAt.head; exact ps_rd0; apply LW.nil; refine thenN ?_; apply CW.condT; rfl; (with_reducible rfl); refine CW.seq ?_; refine CW.region ?_; apply LW.v0; rfl; rfl; apply ValP.fieldAddr; rfl; rfl; apply LW.load; rfl; rfl; apply Known.at; apply FsAt.head; exact ps_rd1; apply LW.v0; rfl; rfl; exact ValP.buildW0; apply LW.v0; rfl; rfl; apply ValP.eqWT; rfl; rfl; (with_reducible rfl); apply LW.v0; rfl; rfl; apply ValP.move; rfl; apply LW.guardT'; rfl; rfl; (with_reducible rfl); apply LW.v0; rfl; rfl; apply ValP.fieldAddr; rfl; rfl; apply LW.guardT'; rfl; rfl; (with_reducible rfl); apply LW.load; rfl; rfl; apply Known.at; apply FsAt.head; exact ps_rd2; apply LW.guardT'; rfl; rfl; (with_reducible rfl); apply LW.v0; rfl; rfl; apply ValP.lenR; rfl; infer_instance; rfl; apply LW.guardT'; rfl; rfl; (with_reducible rfl); apply LW.v0; rfl; rfl; apply ValP.leqF; rfl; rfl; omega; apply LW.v0; rfl; rfl; apply ValP.pickT'; rfl; (with_reducible rfl); rfl; apply LW.v0; rfl; rfl; apply ValP.assign; rfl; apply LW.nil; refine thenN ?_; refine CW.ret ?_; refine thenR ?_)
        (apply finR; exact .inl rfl; rfl; rfl; rfl; apply ResL.cons; exact Res.tmp rfl; exact ResL.nil)
        rw [decide_eq_false (show ¬ (db.length ≤ 200) by omega)]; rfl
      · refine enter (args := [_]) _ [] [] Tryd.func75 rfl Tryd.ntmps75 rfl (by simp) .nil ?_
        (refine CW.seq ?_; refine CW.region ?_; apply LW.boxA; rfl; rfl; intro _; apply LW.v0; rfl; rfl; apply ValP.assign; rfl; apply LW.nil; refine thenN ?_; refine CW.seq ?_; refine CW.seq ?_; refine CW.region ?_; apply LW.v0; rfl; rfl; apply ValP.fieldAddr; rfl; rfl; apply LW.load; rfl; rfl; apply Known.at; apply FsAt.head; exact ps_rd0; apply LW.nil; refine thenN ?_; apply CW.condT; rfl; (with_reducible rfl); refine CW.seq ?_; refine CW.region ?_; apply LW.v0; rfl; rfl; apply ValP.fieldAddr; rfl; rfl; apply LW.load; rfl; rfl; apply Known.at; apply FsAt.head; exact ps_rd1; apply LW.v0; rfl; rfl; exact ValP.buildW0; apply LW.v0; rfl; rfl; apply ValP.eqWT; rfl; rfl; (with_reducible rfl); apply LW.v0; rfl; rfl; apply ValP.move; rfl; apply LW.guardT'; rfl; rfl; (with_reducible rfl); apply LW.v0; rfl; rfl; apply ValP.fieldAddr; rfl; rfl; apply LW.guardT'; rfl; rfl; (with_reducible rfl); apply LW.load; rfl; rfl; apply Known.at; apply FsAt.head; exact ps_rd2; apply LW.guardT'; rfl; rfl; (with_reducible rfl); apply LW.v0; rfl; rfl; apply ValP.lenR; rfl; infer_instance; rfl; apply LW.guardT'; rfl; rfl; (with_reducible rfl); apply LW.v0; rfl; rfl; apply ValP.leqT; rfl; rfl; omega; apply LW.v0; rfl; rfl; apply ValP.pickT'; rfl; (with_reducible rfl); rfl; apply LW.v0; rfl; rfl; apply ValP.assign; rfl; apply LW.nil; refine thenN ?_; refine CW.ret ?_; refine thenR ?_)
        (apply finR; exact .inl rfl; rfl; rfl; rfl; apply ResL.cons; exact Res.tmp rfl; exact ResL.nil)
        rw [decide_eq_true hl]; rfl
    · refine enter (args := [_]) _ [] [] Tryd.func75 rfl Tryd.ntmps75 rfl (by simp) .nil ?_
      (refine CW.seq ?_; refine CW.region ?_; apply LW.boxA; rfl; rfl; intro _; apply LW.v0; rfl; rfl; apply ValP.assign; rfl; apply LW.nil; refine thenN ?_; refine CW.seq ?_; refine CW.seq ?_; refine CW.region ?_; apply LW.v0; rfl; rfl; apply ValP.fieldAddr; rfl; rfl; apply LW.load; rfl; rfl; apply Known.at; apply FsAt.head; exact ps_rd0; apply LW.nil; refine thenN ?_; apply CW.condT; rfl; (with_reducible rfl); refine CW.seq ?_; refine CW.region ?_; apply LW.v0; rfl; rfl; apply ValP.fieldAddr; rfl; rfl; apply LW.load; rfl; rfl; apply Known.at; apply FsAt.head; exact ps_rd1; apply LW.v0; rfl; rfl; exact ValP.buildW0; apply LW.v0; rfl; rfl; apply ValP.eqWF; rfl; rfl; assumption; assumption; assumption; apply LW.v0; rfl; rfl; apply ValP.move; rfl; apply LW.guardF'; rfl; rfl; simp only [Bool.not_true, Bool.not_false]; rfl; apply LW.guardF'; rfl; rfl; simp only [Bool.not_true, Bool.not_false]; rfl; apply LW.guardF'; rfl; rfl; simp only [Bool.not_true, Bool.not_false]; rfl; apply LW.guardF'; rfl; rfl; simp only [Bool.not_true, Bool.not_false]; rfl; apply LW.v0; rfl; rfl; apply ValP.pickF'; rfl; (with_reducible rfl); rfl; apply LW.v0; rfl; rfl; apply ValP.assign; rfl; apply LW.nil; refine thenN ?_; refine CW.ret ?_; refine thenR ?_)
      (apply finR; exact .inl rfl; rfl; rfl; rfl; apply ResL.cons; exact Res.tmp rfl; exact ResL.nil)
      rw [decide_eq_false hw]; rfl
  | false =>
    rw [rightP_short rfl]
    dsimp only
    rcases Nat.eq_zero_or_pos db.length with hl | hl
    · refine enter (args := [_]) _ [] [] Tryd.func75 rfl Tryd.ntmps75 rfl (by simp) .nil ?_
      (refine CW.seq ?_; refine CW.region ?_; apply LW.boxA; rfl; rfl; intro _; apply LW.v0; rfl; rfl; apply ValP.assign; rfl; apply LW.nil; refine thenN ?_; refine CW.seq ?_; refine CW.seq ?_; refine CW.region ?_; apply LW.v0; rfl; rfl; apply ValP.fieldAddr; rfl; rfl; apply LW.load; rfl; rfl; apply Known.at; apply FsAt.head; exact ps_rd0; apply LW.nil; refine thenN ?_; apply CW.condF; rfl; (with_reducible rfl); refine CW.skip ?_; refine thenN ?_; refine CW.seq ?_; refine CW.region ?_; apply LW.v0; rfl; rfl; apply ValP.fieldAddr; rfl; rfl; apply LW.load; rfl; rfl; apply Known.at; apply FsAt.head; exact ps_rd2; apply LW.v0; rfl; rfl; apply ValP.lenR; rfl; infer_instance; rfl; apply LW.v0; rfl; rfl; apply ValP.eqT; rfl; rfl; omega; apply LW.v0; rfl; rfl; apply ValP.assign; rfl; apply LW.nil; refine thenN ?_; refine CW.ret ?_)
      (apply finR; exact .inl rfl; rfl; rfl; rfl; apply ResL.cons; exact Res.tmp rfl; exact ResL.nil)
      rw [decide_eq_true hl]; rfl
    · refine enter (args := [_]) _ [] [] Tryd.func75 rfl Tryd.ntmps75 rfl (by simp) .nil ?_
      (refine CW.seq ?_; refine CW.region ?_; apply LW.boxA; rfl; rfl; intro _; apply LW.v0; rfl; rfl; apply ValP.assign; rfl; apply LW.nil; refine thenN ?_; refine CW.seq ?_; refine CW.seq ?_; refine CW.region ?_; apply LW.v0; rfl; rfl; apply ValP.fieldAddr; rfl; rfl; apply LW.load; rfl; rfl; apply Known.at; apply FsAt.head; exact ps_rd0; apply LW.nil; refine thenN ?_; apply CW.condF; rfl; (with_reducible rfl); refine CW.skip ?_; refine thenN ?_; refine CW.seq ?_; refine CW.region ?_; apply LW.v0; rfl; rfl; apply ValP.fieldAddr; rfl; rfl; apply LW.load; rfl; rfl; apply Known.at; apply FsAt.head; exact ps_rd2; apply LW.v0; rfl; rfl; apply ValP.lenR; rfl; infer_instance; rfl; apply LW.v0; rfl; rfl; apply ValP.eqF; rfl; rfl; omega; apply LW.v0; rfl; rfl; apply ValP.assign; rfl; apply LW.nil; refine thenN ?_; refine CW.ret ?_)
      (apply finR; exact .inl rfl; rfl; rfl; rfl; apply ResL.cons; exact Res.tmp rfl; exact ResL.nil)
      rw [decide_eq_false (show ¬ (db.length = 0) by omega)]; rfl
theorem Check1_calls (p : PartV) (hp : PartOk p) (w : World) : Calls Tryd.prog 74 #[.agg (psa p)] w (Ret w (.bool (!rightP p))) := by
  refine enter (args := [_]) _ [] [] Tryd.func74 rfl Tryd.ntmps74 rfl (by simp) .nil ?_
  (refine CW.seq ?_; refine CW.region ?_; apply LW.boxA; rfl; rfl; intro _; apply LW.v0; rfl; rfl; apply ValP.assign; rfl; apply LW.nil; refine thenN ?_; refine CW.seq ?_; refine CW.region ?_; apply LW.load; rfl; rfl; apply Known.at; apply FsAt.head; exact ps_rdW; apply LW.callE; rfl; rfl; infer_instance; apply ArgsOk.cons; rfl; exact ArgsOk.nil; intro w _; exact right_calls p hp w; apply LW.v0; rfl; rfl; apply ValP.notB; rfl; apply LW.v0; rfl; rfl; apply ValP.assign; rfl; apply LW.nil; refine thenN ?_; refine CW.ret ?_)
  (apply finR; exact .inl rfl; rfl; rfl; rfl; apply ResL.cons; exact Res.tmp rfl; exact ResL.nil)
  rfl
theorem part_rd {w : World} {v : Value} {l : List PartV} (h : PartsAt w v l) (i : Nat) (hi : i < l.length) : ∃ b off c cs E fr, v = .slice (some ⟨b, off, none⟩) l.length c ∧ w.heap[b]? = some (.cells cs E fr) ∧ ∀ {T : TypeId} {z : Value} [AgI Tryd.prog T true] [InfoI Tryd.prog T 6 z], Rd Tryd.prog T (.cells cs E fr) (off + i * 6) (.agg (psa l[i])) := by
  obtain ⟨b, off, c, cs, E, fr, heq, hb, hx⟩ := h.row.pos (by omega)
  exact ⟨b, off, c, cs, E, fr, heq, hb, fun {T z} _ _ => Rd.elemA (g := psc) (l := l) (a := l[i]) hx (psc_len l) (List.getElem?_eq_getElem hi)⟩
theorem IndexFunc_calls (l : List PartV) (i : Nat) (v : Value) (w : World) (hv : PartsAt w v l) (hi : i ≤ l.length) (hall : ∀ j (h : j < i), rightP (l[j]'(by omega)) = true) (hbad : ∀ h : i < l.length, rightP l[i] = false) : Calls Tryd.prog 80 #[v, .func (.func 74) #[] #[]] w (Ret w (.int .i64 (if i = l.length then -1 else (i : Int)))) := by
  obtain ⟨p, c, rfl, hc, hm⟩ := hv.row.form
  simp only [maxLen] at hm
  refine enter (args := [_, _]) _ [] [] Tryd.func80 rfl Tryd.ntmps80 rfl (by simp) .nil ?_
  (refine CW.seq ?_; refine CW.region ?_; apply LW.v0; rfl; rfl; apply ValP.assign; rfl; apply LW.nil; refine thenN ?_; refine CW.seq ?_; refine CW.seq ?_; refine CW.region ?_; apply LW.v0; rfl; rfl; apply ValP.move; rfl; apply LW.v0; rfl; rfl; apply ValP.lenR; rfl; infer_instance; rfl; apply LW.v0; rfl; rfl; apply ValP.move; rfl; apply LW.nil; refine thenN ?_; refine CW.block ?_)
  refine CW.loop (fun m : Nat => ([(8, .int .i64 (m : Int)), (7, .int .i64 (l.length : Int)), (0, .slice p l.length c), (1, .func (.func 74) #[] #[])], []))
    (fun m => m ≤ i) (fun m => i - m) 0 (Nat.zero_le _) ⟨rfl, rfl, rfl, rfl, trivial⟩ (List.nil_sublist _) ?_
  intro m hmi
  dsimp only at hmi ⊢
  rcases Nat.lt_or_ge m l.length with hlt | hge
  · obtain ⟨b, off, c', cs, E, fr, heq, hb, hrd0⟩ := part_rd hv m hlt
    cases heq
    have hrd : Rd Tryd.prog 61 (.cells cs E fr) (off + m * 6) (.agg (psa l[m])) := hrd0
    have hC0 := Check1_calls l[m] (hv.ok _ (List.getElem_mem hlt))
    rcases Nat.lt_or_ge m i with hlt2 | hge2
    · rw [hall m hlt2] at hC0
      have hC : ∀ w, Calls Tryd.prog 74 #[.agg (psa l[m])] w (Ret w (.bool false)) := hC0
      (refine CW.seq ?_; refine CW.region ?_; apply LW.v0; rfl; rfl; apply ValP.lssT; rfl; rfl; omega; apply LW.nil; refine thenN ?_; refine CW.seq ?_; apply CW.condT; rfl; (with_reducible rfl); refine CW.skip ?_; refine thenN ?_; refine CW.seq ?_; refine CW.block ?_; refine CW.seq ?_; refine CW.region ?_; apply LW.v0; rfl; rfl; apply ValP.move; rfl; apply LW.v0; rfl; rfl; apply ValP.assign; rfl; apply LW.nil; refine thenN ?_; refine CW.seq ?_; refine CW.region ?_; apply LW.v0; rfl; rfl; apply ValP.move; rfl; apply LW.v0; rfl; rfl; apply ValP.move; rfl; apply LW.v0; rfl; rfl; apply ValP.move; rfl; apply LW.v0; rfl; rfl; apply ValP.indexAddrS; rfl; rfl; rfl; omega; apply LW.load; rfl; rfl; exact Known.ext (by assumption) (by simp); assumption; apply LW.callE; rfl; rfl; infer_instance; apply ArgsOk.cons; rfl; exact ArgsOk.nil; intro w _; exact hC w; apply LW.nil; refine thenN ?_; apply CW.condF; rfl; (with_reducible rfl); refine CW.skip ?_; refine blkN ?_; refine thenN ?_; refine CW.region ?_; apply LW.v0; rfl; rfl; apply ValP.addZL; rfl; rfl; decide; omega; apply LW.v0; rfl; rfl; apply ValP.move; rfl; apply LW.nil)
      apply thenX
      exact ⟨rfl, m + 1, hlt2, by omega, ⟨rfl, rfl, rfl, rfl, trivial⟩, List.nil_sublist _⟩
    · obtain rfl : m = i := by omega
      rw [hbad hlt] at hC0
      have hC : ∀ w, Calls Tryd.prog 74 #[.agg (psa l[m])] w (Ret w (.bool true)) := hC0
      (refine CW.seq ?_; refine CW.region ?_; apply LW.v0; rfl; rfl; apply ValP.lssT; rfl; rfl; omega; apply LW.nil; refine thenN ?_; refine CW.seq ?_; apply CW.condT; rfl; (with_reducible rfl); refine CW.skip ?_; refine thenN ?_; refine CW.seq ?_; refine CW.block ?_; refine CW.seq ?_; refine CW.region ?_; apply LW.v0; rfl; rfl; apply ValP.move; rfl; apply LW.v0; rfl; rfl; apply ValP.assign; rfl; apply LW.nil; refine thenN ?_; refine CW.seq ?_; refine CW.region ?_; apply LW.v0; rfl; rfl; apply ValP.move; rfl; apply LW.v0; rfl; rfl; apply ValP.move; rfl; apply LW.v0; rfl; rfl; apply ValP.move; rfl; apply LW.v0; rfl; rfl; apply ValP.indexAddrS; rfl; rfl; rfl; omega; apply LW.load; rfl; rfl; exact Known.ext (by assumption) (by simp); assumption; apply LW.callE; rfl; rfl; infer_instance; apply ArgsOk.cons; rfl; exact ArgsOk.nil; intro w _; exact hC w; apply LW.nil; refine thenN ?_; apply CW.condT; rfl; (with_reducible rfl); refine CW.seq ?_; refine CW.region ?_; apply LW.v0; rfl; rfl; apply ValP.move; rfl; apply LW.v0; rfl; rfl; apply ValP.assign; rfl; apply LW.nil; refine thenN ?_; refine CW.ret ?_; refine blkR ?_; refine thenR ?_; refine thenR ?_; refine blkR ?_; refine thenR ?_)
      (apply finR; exact .inl rfl; rfl; rfl; rfl; apply ResL.cons; exact Res.tmp rfl; exact ResL.nil)
      rw [if_neg (by omega)]; rfl
  · obtain rfl : m = i := by omega
    (refine CW.seq ?_; refine CW.region ?_; apply LW.v0; rfl; rfl; apply ValP.lssF; rfl; rfl; omega; apply LW.nil; refine thenN ?_; refine CW.seq ?_; apply CW.condF; rfl; (with_reducible rfl); refine CW.exit ?_; refine thenE ?_; refine thenE ?_; refine blkE rfl ?_; refine thenN ?_; refine CW.seq ?_; refine CW.region ?_; apply LW.v0; rfl; rfl; apply ValP.assign; rfl; apply LW.nil; refine thenN ?_; refine CW.ret ?_)
    (apply finR; exact .inl rfl; rfl; rfl; rfl; apply ResL.cons; exact Res.tmp rfl; exact ResL.nil)
    rw [if_pos (by omega)]; rfl
/-- Which parts may be. -/
def okP (l : List PartV) : Bool := l.all rightP
theorem first_bad (l : List PartV) : ∃ i, ∃ _ : i ≤ l.length, (∀ j (h : j < i), rightP (l[j]'(by omega)) = true) ∧ (∀ h : i < l.length, rightP l[i] = false) ∧ (okP l = true ↔ i = l.length) := by
  induction l with
  | nil => exact ⟨0, Nat.le_refl _, fun j h => by omega, fun h => by simp at h, by simp [okP]⟩
  | cons a l ih =>
    cases ha : rightP a with
    | false => exact ⟨0, Nat.zero_le _, fun j h => by omega, fun _ => by simpa using ha, by simp [okP, ha]⟩
    | true =>
      obtain ⟨i, hi, h1, h2, h3⟩ := ih
      refine ⟨i + 1, by simpa using hi, fun j h => ?_, fun h => ?_, ?_⟩
      · cases j with
        | zero => simpa using ha
        | succ j => simpa using h1 j (by omega)
      · simpa using h2 (by simpa using h)
      · simp only [okP, List.all_cons, ha, Bool.true_and, List.length_cons, Nat.add_right_cancel_iff]
        exact h3
theorem Contains_calls (l : List PartV) (v : Value) (w : World) (hv : PartsAt w v l) : Calls Tryd.prog 73 #[v, .func (.func 74) #[] #[]] w (Ret w (.bool (!okP l))) := by
  obtain ⟨i, hi, h1, h2, h3⟩ := first_bad l
  have hI0 : ∀ w' {fs}, St w [] fs w' → Calls Tryd.prog 80 #[v, .func (.func 74) #[] #[]] w' (Ret w' (.int .i64 (if i = l.length then -1 else (i : Int)))) := fun w' fs hst => IndexFunc_calls l i v w' (hv.st hst) hi h1 h2
  by_cases h : i = l.length
  · rw [if_pos h] at hI0
    have hI := hI0
    rw [h3.2 h]
    refine enter (args := [_, _]) _ [] [] Tryd.func73 rfl Tryd.ntmps73 rfl (by simp) .nil ?_
    (refine CW.seq ?_; refine CW.region ?_; apply LW.v0; rfl; rfl; apply ValP.assign; rfl; apply LW.nil; refine thenN ?_; refine CW.seq ?_; refine CW.region ?_; apply LW.v0; rfl; rfl; apply ValP.move; rfl; apply LW.v0; rfl; rfl; apply ValP.move; rfl; apply LW.callE; rfl; rfl; infer_instance; apply ArgsOk.cons; rfl; apply ArgsOk.cons; rfl; exact ArgsOk.nil; intro w _; exact hI w (by assumption); apply LW.v0; rfl; rfl; apply ValP.geqF; rfl; rfl; omega; apply LW.v0; rfl; rfl; apply ValP.assign; rfl; apply LW.nil; refine thenN ?_; refine CW.ret ?_)
    (apply finR; exact .inl rfl; rfl; rfl; rfl; apply ResL.cons; exact Res.tmp rfl; exact ResL.nil)
    rfl
  · rw [if_neg h] at hI0
    have hI := hI0
    have h4 : okP l = false := by
      cases h5 : okP l with
      | false => rfl
      | true => exact absurd (h3.1 h5) h
    rw [h4]
    refine enter (args := [_, _]) _ [] [] Tryd.func73 rfl Tryd.ntmps73 rfl (by simp) .nil ?_
    (refine CW.seq ?_; refine CW.region ?_; apply LW.v0; rfl; rfl; apply ValP.assign; rfl; apply LW.nil; refine thenN ?_; refine CW.seq ?_; refine CW.region ?_; apply LW.v0; rfl; rfl; apply ValP.move; rfl; apply LW.v0; rfl; rfl; apply ValP.move; rfl; apply LW.callE; rfl; rfl; infer_instance; apply ArgsOk.cons; rfl; apply ArgsOk.cons; rfl; exact ArgsOk.nil; intro w _; exact hI w (by assumption); apply LW.v0; rfl; rfl; apply ValP.geqT; rfl; rfl; omega; apply LW.v0; rfl; rfl; apply ValP.assign; rfl; apply LW.nil; refine thenN ?_; refine CW.ret ?_)
    (apply finR; exact .inl rfl; rfl; rfl; rfl; apply ResL.cons; exact Res.tmp rfl; exact ResL.nil)
    rfl
def chkP (l : List PartV) : Int := if 16 < l.length then 3 else if okP l then 0 else 140
theorem Check_calls (l : List PartV) (v : Value) (w : World) (hv : PartsAt w v l) : Calls Tryd.prog 54 #[v] w (Ret w (.int .i64 (chkP l))) := by
  have hK0 : ∀ w' {fs}, St w [] fs w' → Calls Tryd.prog 73 #[v, .func (.func 74) #[] #[]] w' (Ret w' (.bool (!okP l))) := fun w' fs hst => Contains_calls l v w' (hv.st hst)
  obtain ⟨p, c, rfl, hc, hm⟩ := hv.row.form
  unfold chkP
  rcases Nat.lt_or_ge 16 l.length with h | h
  · rw [if_pos h]
    refine enter (args := [_]) _ [] [] Tryd.func54 rfl Tryd.ntmps54 rfl (by simp) .nil ?_
    (refine CW.seq ?_; refine CW.region ?_; apply LW.v0; rfl; rfl; apply ValP.assign; rfl; apply LW.nil; refine thenN ?_; refine CW.seq ?_; refine CW.block ?_; refine CW.seq ?_; refine CW.region ?_; apply LW.v0; rfl; rfl; apply ValP.move; rfl; apply LW.v0; rfl; rfl; apply ValP.lenR; rfl; infer_instance; rfl; apply LW.v0; rfl; rfl; apply ValP.gtrT; rfl; rfl; omega; apply LW.v0; rfl; rfl; apply ValP.assign; rfl; apply LW.nil; refine thenN ?_; apply CW.condT; rfl; (with_reducible rfl); refine CW.seq ?_; refine CW.region ?_; apply LW.v0; rfl; rfl; apply ValP.assign; rfl; apply LW.nil; refine thenN ?_; refine CW.ret ?_; refine blkR ?_; refine thenR ?_)
    (apply finR; exact .inl rfl; rfl; rfl; rfl; apply ResL.cons; exact Res.tmp rfl; exact ResL.nil)
    rfl
  · rw [if_neg (by omega)]
    cases ho : okP l with
    | true =>
      rw [ho] at hK0
      have hK := hK0
      rw [if_pos rfl]
      refine enter (args := [_]) _ [] [] Tryd.func54 rfl Tryd.ntmps54 rfl (by simp) .nil ?_
      (refine CW.seq ?_; refine CW.region ?_; apply LW.v0; rfl; rfl; apply ValP.assign; rfl; apply LW.nil; refine thenN ?_; refine CW.seq ?_; refine CW.block ?_; refine CW.seq ?_; refine CW.region ?_; apply LW.v0; rfl; rfl; apply ValP.move; rfl; apply LW.v0; rfl; rfl; apply ValP.lenR; rfl; infer_instance; rfl; apply LW.v0; rfl; rfl; apply ValP.gtrF; rfl; rfl; omega; apply LW.v0; rfl; rfl; apply ValP.assign; rfl; apply LW.nil; refine thenN ?_; apply CW.condF; rfl; (with_reducible rfl); refine CW.seq ?_; refine CW.region ?_; apply LW.v0; rfl; rfl; apply ValP.move; rfl; apply LW.callE; rfl; rfl; infer_instance; apply ArgsOk.cons; rfl; apply ArgsOk.cons; rfl; exact ArgsOk.nil; intro w _; exact hK w (by assumption); apply LW.v0; rfl; rfl; apply ValP.assign; rfl; apply LW.nil; refine thenN ?_; apply CW.condF; rfl; simp only [Bool.not_true, Bool.not_false]; refine CW.skip ?_; refine blkN ?_; refine thenN ?_; refine CW.seq ?_; refine CW.region ?_; apply LW.v0; rfl; rfl; apply ValP.assign; rfl; apply LW.nil; refine thenN ?_; refine CW.ret ?_)
      (apply finR; exact .inl rfl; rfl; rfl; rfl; apply ResL.cons; exact Res.tmp rfl; exact ResL.nil)
      rfl
    | false =>
      rw [ho] at hK0
      have hK := hK0
      rw [if_neg (by simp)]
      refine enter (args := [_]) _ [] [] Tryd.func54 rfl Tryd.ntmps54 rfl (by simp) .nil ?_
      (refine CW.seq ?_; refine CW.region ?_; apply LW.v0; rfl; rfl; apply ValP.assign; rfl; apply LW.nil; refine thenN ?_; refine CW.seq ?_; refine CW.block ?_; refine CW.seq ?_; refine CW.region ?_; apply LW.v0; rfl; rfl; apply ValP.move; rfl; apply LW.v0; rfl; rfl; apply ValP.lenR; rfl; infer_instance; rfl; apply LW.v0; rfl; rfl; apply ValP.gtrF; rfl; rfl; omega; apply LW.v0; rfl; rfl; apply ValP.assign; rfl; apply LW.nil; refine thenN ?_; apply CW.condF; rfl; (with_reducible rfl); refine CW.seq ?_; refine CW.region ?_; apply LW.v0; rfl; rfl; apply ValP.move; rfl; apply LW.callE; rfl; rfl; infer_instance; apply ArgsOk.cons; rfl; apply ArgsOk.cons; rfl; exact ArgsOk.nil; intro w _; exact hK w (by assumption); apply LW.v0; rfl; rfl; apply ValP.assign; rfl; apply LW.nil; refine thenN ?_; apply CW.condT; rfl; simp only [Bool.not_true, Bool.not_false]; refine CW.seq ?_; refine CW.region ?_; apply LW.v0; rfl; rfl; apply ValP.assign; rfl; apply LW.nil; refine thenN ?_; refine CW.ret ?_; refine blkR ?_; refine thenR ?_)
      (apply finR; exact .inl rfl; rfl; rfl; rfl; apply ResL.cons; exact Res.tmp rfl; exact ResL.nil)
      rfl
end Go.Proofs.YtobkhnmglbfheaaDoor

/-
  Contracts of the pack: numbers, copies, which parts are the same.
  Conditions: none.
-/
namespace Go.Proofs.YtobkhnmglbfheaaDoor
open Go Go.RowKit SL
set_option maxRecDepth 8000
set_option maxHeartbeats 4000000
set_option linter.unusedSimpArgs false
set_option linter.unusedVariables false
attribute [local irreducible] SL.CW SL.LW SL.DW Calls SL.Ret SL.RetG SL.beginQ SL.roundQ SL.rangeQ SL.inQ SL.RW SL.AnyW SL.thenQ SL.thenC SL.thenW SL.blkQ SL.finQ SL.ValP SL.NewP SL.SetP SL.CallP SL.Rd SL.Wr SL.Known
/-- A number of bytes, filled up to whole heads. -/
def whl (n : Nat) : Nat := (n + 31) / 32 * 32
theorem whl_le (n : Nat) : n ≤ whl n := by unfold whl; omega
theorem whl_lt (n : Nat) : whl n < n + 32 := by unfold whl; omega
theorem whole_calls (n : Nat) (hn : n ≤ 1000000000) (w : World) : Calls Tryd.prog 58 #[.int .i64 (n : Int)] w (Ret w (.int .i64 ((whl n : Nat) : Int))) := by
  refine enter (args := [_]) _ [] [] Tryd.func58 rfl Tryd.ntmps58 rfl (by simp) .nil ?_
  (refine CW.seq ?_; refine CW.region ?_; apply LW.v0; rfl; rfl; apply ValP.assign; rfl; apply LW.nil; refine thenN ?_; refine CW.seq ?_; refine CW.region ?_; apply LW.v0; rfl; rfl; apply ValP.move; rfl; apply LW.v0; rfl; rfl; apply ValP.addZL; rfl; rfl; decide; omega; apply LW.v0; rfl; rfl; apply ValP.subZL; rfl; rfl; decide; omega; omega; apply LW.v0; rfl; rfl; apply ValP.quoZL; rfl; rfl; decide; omega; omega; apply LW.v0; rfl; rfl; apply ValP.mulZL; rfl; rfl; decide; omega; apply LW.v0; rfl; rfl; apply ValP.assign; rfl; apply LW.nil; refine thenN ?_; refine CW.ret ?_)
  (apply finR; exact .inl rfl; rfl; rfl; rfl; apply ResL.cons; exact Res.tmp rfl; exact ResL.nil)
  rw [show ((whl n : Nat) : Int) = ((n + 32 - 1) / 32 * 32 : Nat) from rfl]; rfl
theorem number_calls (n : Nat) (hn : n < 1000000000) (w : World) : Calls Tryd.prog 57 #[.int .i64 (n : Int)] w (RetG w [] (fun v gs => IsRow 5 1 v 32 (ucs (beb 32 n)) gs)) := by
  refine enter (args := [_]) _ [] [] Tryd.func57 rfl Tryd.ntmps57 rfl (by simp) .nil ?_
  (refine CW.seq ?_; refine CW.region ?_; apply LW.v0; rfl; rfl; apply ValP.assign; rfl; apply LW.nil; refine thenN ?_; refine CW.seq ?_; refine CW.region ?_; apply LW.v0; rfl; rfl; apply ValP.move; rfl; apply LW.v0; rfl; rfl; apply ValP.convN; rfl; omega; omega; apply LW.callE; rfl; rfl; infer_instance; apply ArgsOk.cons; rfl; exact ArgsOk.nil; intro w _; exact Of_calls n (by omega) w)
  refine LW.callR rfl rfl inferInstance (by (apply ArgsOk.cons; rfl; exact ArgsOk.nil)) (fun w hst => Bytes_calls n (by simp only [M256]; omega) w) ?_
  intro v1 gs1 hrow
  (apply LW.v0; rfl; rfl; apply ValP.assign; rfl; apply LW.nil; refine thenN ?_; refine CW.ret ?_)
  refine fin (vs := [v1]) gs1 (.inl rfl) rfl rfl (by (apply ResL.cons; exact Res.tmp rfl; exact ResL.nil)) ?_ hrow
  exact List.sublist_append_left _ _
theorem Clone_calls (l : List UInt8) (v : Value) (w : World) (hv : RowAt w 1 v l.length (ucs l)) (hl : l.length ≤ 100000) : Calls Tryd.prog 41 #[v] w (RetG w [] (fun v' gs => IsRow 5 1 v' l.length (ucs l) gs)) := by
  obtain ⟨p, c, rfl, _, _⟩ := hv.form
  cases p with
  | none =>
    have h0 : l.length = 0 := by
      rcases Nat.eq_zero_or_pos l.length with h | h
      · exact h
      · obtain ⟨_, _, _, _, _, _, he, _, _⟩ := hv.pos h
        cases he
    have hn : l = [] := List.length_eq_zero_iff.1 h0
    subst hn
    refine enter (args := [_]) _ [] [] Tryd.func41 rfl Tryd.ntmps41 rfl (by simp) .nil ?_
    (refine CW.seq ?_; refine CW.region ?_; apply LW.v0; rfl; rfl; apply ValP.assign; rfl; apply LW.nil; refine thenN ?_; refine CW.seq ?_; refine CW.seq ?_; refine CW.region ?_; apply LW.v0; rfl; rfl; apply ValP.move; rfl; apply LW.v0; rfl; rfl; apply ValP.sliNilT; rfl; rfl; apply LW.nil; refine thenN ?_; apply CW.condT; rfl; (with_reducible rfl); refine CW.seq ?_; refine CW.region ?_; apply LW.v0; rfl; rfl; apply ValP.assign; rfl; apply LW.nil; refine thenN ?_; refine CW.ret ?_; refine thenR ?_)
    exact fin [] (.inl rfl) rfl rfl (by (apply ResL.cons; exact Res.tmp rfl; exact ResL.nil)) (List.Sublist.refl _) .nil
  | some a =>
    refine enter (args := [_]) _ [] [] Tryd.func41 rfl Tryd.ntmps41 rfl (by simp) .nil ?_
    (refine CW.seq ?_; refine CW.region ?_; apply LW.v0; rfl; rfl; apply ValP.assign; rfl; apply LW.nil; refine thenN ?_; refine CW.seq ?_; refine CW.seq ?_; refine CW.region ?_; apply LW.v0; rfl; rfl; apply ValP.move; rfl; apply LW.v0; rfl; rfl; apply ValP.sliNilF; rfl; rfl; apply LW.nil; refine thenN ?_; apply CW.condF; rfl; (with_reducible rfl); refine CW.skip ?_; refine thenN ?_; refine CW.seq ?_; refine CW.region ?_)
    refine LW.lay0 rfl inferInstance inferInstance fun v0 seg hrow => ?_
    (apply LW.v0; rfl; rfl; apply ValP.move; rfl)
    (apply LW.appendAny; (case hrow => assumption); rfl; rfl; infer_instance; infer_instance; infer_instance; rfl; rfl; rfl; exact AtSeg.head)
    · exact fun w hs => hv.st hs
    · exact ucs_cells l
    · simp only [maxLen]; omega
    · omega
    intro v1 seg1 hrow1
    refine ⟨_, (by (exact AtSeg.head)), ?_⟩
    simp only [List.nil_append, Nat.zero_add, List.append_nil] at hrow1 ⊢
    (apply LW.v0; rfl; rfl; apply ValP.assign; rfl; apply LW.nil; refine thenN ?_; refine CW.ret ?_)
    refine fin (vs := [v1]) seg1 (.inl rfl) rfl rfl (by (apply ResL.cons; exact Res.tmp rfl; exact ResL.nil)) ?_ hrow1
    (exact List.Sublist.refl _)
/-- The part that is a word. -/
def ofP (a : Nat) : PartV := ⟨false, a, .slice none 0 0, []⟩
theorem pOf_calls (a : Nat) (ha : a < M256) (w : World) : Calls Tryd.prog 64 #[wv a] w (Ret w (.agg (psa (ofP a)))) := by
  refine enter (args := [_]) _ [] [] Tryd.func64 rfl Tryd.ntmps64 rfl (by simp) .nil ?_
  (refine CW.seq ?_; refine CW.region ?_; apply LW.boxA; rfl; rfl; intro _; apply LW.allocA; rfl; intro _; apply LW.nil; refine thenN ?_; refine CW.seq ?_; refine CW.region ?_; apply LW.load; rfl; rfl; apply Known.at; apply FsAt.tail; apply FsAt.head; exact Rd.whole rfl; apply LW.v0; rfl; rfl; apply ValP.buildT; infer_instance; infer_instance; apply PartsOk.cons; rfl; exact PartsOk.nil; rfl; simp only [psa, psc, ofP, wc, fillP, wrCells, Value.cells, List.getElem?_cons_zero, List.getElem?_cons_succ, List.toList_toArray, List.setIfInBounds_toArray, List.set_cons_succ, List.set_cons_zero, Nat.reduceAdd, Nat.zero_add, List.cons_append, List.nil_append]; rfl; apply LW.store; rfl; rfl; apply SetAt.head; apply Wr.whole; rfl; rfl; rfl; apply LW.nil; refine thenN ?_; refine CW.ret ?_)
  (apply finR; exact .inl rfl; rfl; rfl; rfl; apply ResL.cons; apply Res.cell; rfl; apply Known.at; apply FsAt.head; exact Rd.whole rfl; exact ResL.nil)
  rfl
/-- The part with bytes. -/
def byP (v : Value) (l : List UInt8) : PartV := ⟨true, 0, v, l⟩
theorem pBytes_calls (l : List UInt8) (v : Value) (w : World) (hv : RowAt w 1 v l.length (ucs l)) (hl : l.length ≤ 100000) : Calls Tryd.prog 67 #[v] w (RetG w [] (fun v' gs => ∃ dv, v' = .agg (psa (byP dv l)) ∧ IsRow 5 1 dv l.length (ucs l) gs)) := by
  refine enter (args := [_]) _ [] [] Tryd.func67 rfl Tryd.ntmps67 rfl (by simp) .nil ?_
  (refine CW.seq ?_; refine CW.region ?_; apply LW.allocA; rfl; intro _; apply LW.nil; refine thenN ?_; refine CW.seq ?_; refine CW.region ?_; apply LW.v0; rfl; rfl; apply ValP.move; rfl)
  refine LW.callR rfl rfl inferInstance (by (apply ArgsOk.cons; rfl; exact ArgsOk.nil)) (fun w hst => Clone_calls l v w (hv.st hst) hl) ?_
  intro v1 gs1 hrow
  obtain ⟨p1, c1, rfl⟩ := hrow.form
  (apply LW.v0; rfl; rfl; apply ValP.buildT; infer_instance; infer_instance; apply PartsOk.cons; rfl; apply PartsOk.cons; rfl; exact PartsOk.nil; rfl; simp only [psa, psc, ofP, wc, fillP, wrCells, Value.cells, List.getElem?_cons_zero, List.getElem?_cons_succ, List.toList_toArray, List.setIfInBounds_toArray, List.set_cons_succ, List.set_cons_zero, Nat.reduceAdd, Nat.zero_add, List.cons_append, List.nil_append]; rfl; apply LW.store; rfl; rfl; apply SetAt.app; apply SetAt.head; apply Wr.whole; rfl; rfl; rfl; apply LW.nil; refine thenN ?_; refine CW.ret ?_)
  apply fin gs1 (.inl rfl) rfl rfl
  (apply ResL.cons; apply Res.cell; rfl; apply Known.at; apply FsAt.app; apply FsAt.head; exact Rd.whole rfl; exact ResL.nil)
  exact List.sublist_append_left _ _
  exact ⟨.slice p1 l.length c1, by simp [tup, psa, psc, byP, wc], hrow⟩
end Go.Proofs.YtobkhnmglbfheaaDoor

/-
  Contracts of the pack: which parts are the same.
  Conditions: none.
-/
namespace Go.Proofs.YtobkhnmglbfheaaDoor
open Go Go.RowKit SL
set_option maxRecDepth 8000
set_option maxHeartbeats 4000000
set_option linter.unusedSimpArgs false
set_option linter.unusedVariables false
attribute [local irreducible] SL.CW SL.LW SL.DW Calls SL.Ret SL.RetG SL.beginQ SL.roundQ SL.rangeQ SL.inQ SL.RW SL.AnyW SL.thenQ SL.thenC SL.thenW SL.blkQ SL.finQ SL.ValP SL.NewP SL.SetP SL.CallP SL.Rd SL.Wr SL.Known
end Go.Proofs.YtobkhnmglbfheaaDoor
