/-
  Texts that were built apart, put behind one another (2 of 4): Sln Slo Slp Slq Slr Sls Slt Slu Slv Slw Slx Sly Slz Inst W1 W2 W3 W4 W5 W6 W7 W8 W9 W10 W11 W12 W13 G1.
  Conditions: none.
-/
import Derived.Test.YthhalnmbfokbbaaDoorP1
import Derived.Laws.MakeOwn
import Derived.Laws.Slices
import Derived.Laws.Small
import Derived.Deep.Upon
import Derived.Laws.Cover3
import Derived.Laws.BytesArg
import Derived.Laws.RangeAny
import Derived.Laws.Concat
import Derived.Laws.Strings2
import Derived.MapKept
import Derived.Test.YthhalnmbfokbbaaDoorRows
import Derived.Shelf.Spec.BitsCarry
/-
  A SMALL LOGIC OVER THE KIT's WALK, PART N: rows cut, made, put behind one another; calls that hand back rows.
  Conditions: none; over any program.
-/
namespace Go.Proofs.YthhalnmbfokbbaaDoor.SL
set_option linter.unusedVariables false
set_option linter.unusedSimpArgs false
open Go Go.RowKit

/-- x[k:] of a slice. -/
def cutAt (p : Option Addr) (k n c sz : Nat) : Value := .slice (if c = k then p else p.map (·.add (k * sz))) (n - k) (c - k)

theorem RowAt.take {w : World} {sz n c k : Nat} {p : Option Addr} {xs : List Value} (h : RowAt w sz (.slice p n c) n xs) (hk : k ≤ n) : RowAt w sz (.slice p k c) k (xs.take (k * sz)) := by
  obtain ⟨p', c', he, h1, h2⟩ := h.form
  cases he
  refine ⟨⟨_, _, rfl, by omega, h2⟩, ?_, fun h0 => ?_, fun _ _ _ he => by cases he; exact h.lies _ _ _ rfl⟩
  · rw [List.length_take, h.len]; exact Nat.min_eq_left (Nat.mul_le_mul_right _ hk)
  · obtain ⟨b, off, c', cs, E, fr, he, hb, hx⟩ := h.pos (by omega)
    cases he
    refine ⟨b, off, c, cs, E, fr, rfl, hb, ?_⟩
    rw [← hx, List.take_take, Nat.min_eq_left (Nat.mul_le_mul_right _ hk)]
theorem RowAt.drop {w : World} {sz n c k : Nat} {p : Option Addr} {xs : List Value} (h : RowAt w sz (.slice p n c) n xs) (hk : k ≤ n) : RowAt w sz (cutAt p k n c sz) (n - k) (xs.drop (k * sz)) := by
  obtain ⟨p', c', he, h1, h2⟩ := h.form
  cases he
  refine ⟨⟨_, _, rfl, by omega, by omega⟩, ?_, fun h0 => ?_, fun p' n' c' he => by
    unfold cutAt at he
    simp only [Value.slice.injEq] at he
    obtain ⟨e1, _, e3⟩ := he
    by_cases hck : c = k
    · exact .inr (.inl (by omega))
    · rw [if_neg hck] at e1
      rcases h.lies _ _ _ rfl with h | h | ⟨b, off, o, h, hb⟩
      · subst h; exact .inl (by simpa using e1.symm)
      · exact .inr (.inl (by omega))
      · subst h; exact .inr (.inr ⟨b, off + k * sz, o, by simpa [addr_add] using e1.symm, hb⟩)⟩
  · rw [List.length_drop, h.len, Nat.sub_mul]
  · obtain ⟨b, off, c', cs, E, fr, he, hb, hx⟩ := h.pos (by omega)
    cases he
    refine ⟨b, off + k * sz, c - k, cs, E, fr, ?_, hb, ?_⟩
    · unfold cutAt; rw [if_neg (by omega)]; simp [addr_add]
    · rw [← hx, List.drop_take, List.drop_drop, Nat.sub_mul]
theorem IsRow.take {E : TypeId} {sz n c k : Nat} {p : Option Addr} {xs : List Value} {seg : Fs} (h : IsRow E sz (.slice p n c) n xs seg) (hk : k ≤ n) : IsRow E sz (.slice p k c) k (xs.take (k * sz)) seg := by
  cases h with
  | nil => obtain rfl : k = 0 := by omega
           simpa using IsRow.nil
  | own hn hm hc ht hl =>
    refine .own (by omega) hm hc ?_ ?_
    · rw [← ht, List.take_take, Nat.min_eq_left (Nat.mul_le_mul_right _ hk)]
    · rw [List.length_take, hl]; exact Nat.min_eq_left (Nat.mul_le_mul_right _ hk)

section cut
variable {P : Program} {e : Env} {T E : TypeId} {x lo hi : Operand} {p : Option Addr} {n c : Nat}
theorem elem_un (h : P.underlying T = some (.slice E)) : P.underlying T = some (.slice (P.elem T)) := by
  rw [h, Program.elem, h]
theorem elem_eq (h : P.underlying T = some (.slice E)) : P.elem T = E := by rw [Program.elem, h]
/-- x[:k] -/
theorem ValP.cutTo {ik : IntKind} {k sz : Nat} {z : Value} (hU : UnI P T (.slice E)) (hI : InfoI P E sz z) (hx : e.ev x = some (.slice p n c)) (hh : e.ev hi = some (.int ik (k : Int))) (hk : k ≤ c) : ValP P e [] (.slice T x none (some hi) none) (.slice p k c) := fun ρ w hρ _ d t pos af g => by
  have hu : P.underlying T = some (.slice E) := hU.un
  have h1 := run_slice_h (P := P) w T p n c (elem_un hu) ik (k : Int) (by omega) (by omega)
  rw [elem_eq hu, run_size] at h1
  have h2 : (Instr.sliceAt T (.slice p n c) none (some (.int ik (k : Int))) none).run P w = .ok (.slice p k c) w := by
    rw [run_sliceAt_slice (w := w) T _ _ _ _ (elem_un hu), h1]
    simp only [Result.andThen_ok, sliced, Nat.zero_mul, Int.toNat_natCast, Nat.sub_zero]
    cases p with
    | none => simp
    | some a => simp [Addr.add]
  simp [execOp, hρ x _ hx, hρ hi _ hh, h2]
/-- x[k:] -/
theorem ValP.cutFrom {il : IntKind} {k sz : Nat} {z : Value} (hU : UnI P T (.slice E)) (hI : InfoI P E sz z) (hx : e.ev x = some (.slice p n c)) (hl : e.ev lo = some (.int il (k : Int))) (hk : k ≤ n) : ValP P e [] (.slice T x (some lo) none none) (cutAt p k n c sz) := fun ρ w hρ _ d t pos af g => by
  have hu : P.underlying T = some (.slice E) := hU.un
  have h1 := run_slice_l (P := P) w T p n c (elem_un hu) il (k : Int) (by omega) (by omega)
  rw [elem_eq hu, run_size] at h1
  have h2 : (Instr.sliceAt T (.slice p n c) (some (.int il (k : Int))) none none).run P w = .ok (cutAt p k n c sz) w := by
    rw [run_sliceAt_slice (w := w) T _ _ _ _ (elem_un hu), h1]
    simp only [Result.andThen_ok, sliced, Int.toNat_natCast, cutAt]
  simp [execOp, hρ x _ hx, hρ lo _ hl, h2]
end cut

section mk
variable {C : Cu} {ops : Array Oper} {Q : Post} {rest : List Oper} {e : Env} {fs : Fs} {d : Nat} {t : TypeId} {pos : String} {af : Array Edge}
theorem NewP.makeSlice {P : Program} {T E sz bytes : Nat} {z : Value} {x : Operand} {ik : IntKind} {n : Nat} (hU : UnI P T (.slice E)) (hI : InfoI P E sz z) (hB : BytI P E bytes) (hx : e.ev x = some (.int ik (n : Int))) (hb : n * bytes ≤ 281474976710656) (h63 : n ≤ 9223372036854775807) :
    NewP P e (.makeSlice T x x) (.sl n n) (.cells (madeCells z.cells (n * sz)) E (0, 0)) := fun ρ w hρ d t pos af g => by
  obtain ⟨i, i1, i2, i3, i4⟩ := info_all (P := P) (T := E)
  have hr := run_make (P := P) w T E i z hU.un i1 i3 ik ik (n : Int) (n : Int) (by omega) (by omega) (by rw [i4]; have : ((n * bytes : Nat) : Int) ≤ 281474976710656 := by omega
                                                                                                         rwa [Int.natCast_mul, Int.mul_comm] at this) (by omega)
  simp only [Int.toNat_natCast, i2] at hr
  simp [execOp, hρ x _ hx, hr, Sh.val]
theorem made_one {z : Value} {n : Nat} (hz : z.cells = #[z]) : (madeCells z.cells (n * 1)).toList = List.replicate n z := by
  rw [hz, Nat.mul_one]
  apply List.ext_getElem?
  intro i
  simp only [madeCells]
  rw [Array.getElem?_toList, Array.getElem?_map, List.getElem?_replicate]
  split
  · rename_i h
    rw [Array.getElem?_eq_getElem (by simpa using h)]
    simp [Nat.mod_one]
  · rename_i h
    rw [Array.getElem?_eq_none (by simpa using h)]
    rfl
/-- **make** of n elements of one cell each. -/
theorem LW.makeRow {T E bytes : Nat} {z : Value} {x : Operand} {ik : IntKind} {n : Nat} (hd : Nat.blt d C.N = true) (hU : UnI C.P T (.slice E)) (hI : InfoI C.P E 1 z) (hB : BytI C.P E bytes) (hz : z.cells = #[z]) (hx : e.ev x = some (.int ik (n : Int))) (hb : n * bytes ≤ 281474976710656) (h63 : n ≤ maxLen)
    (k : ∀ v seg, IsRow E 1 v n (List.replicate n z) seg → LW C ops Q rest ((d, v) :: e) (seg ++ fs)) : LW C ops Q (⟨some d, .makeSlice T x x, t, pos, af, none⟩ :: rest) e fs :=
  LW.n0 hd rfl (.makeSlice hU hI hB hx hb (by simpa [maxLen] using h63)) fun g => k _ [(g, _)] (.own (Nat.le_refl _) h63 (by simp [madeCells]) (by rw [made_one hz]; simp) (by simp))

/-- **append(s, x...)**: s a row of ours, x a row that may be read. -/
theorem LW.appendAt {s x : Operand} {tys : Array TypeId} {T E : TypeId} {size bytes : Nat} {z v vx : Value} {n m : Nat} {xs news : List Value} {seg pre post : Fs} (hd : Nat.blt d C.N = true) (hT : tys = #[T, T]) (hU : UnI C.P T (.slice E)) (hI : InfoI C.P E size z) (hB : BytI C.P E bytes)
    (hz : z.cells.size = size) (hs : e.ev s = some v) (hx : e.ev x = some vx) (hseg : AtSeg fs pre seg post) (hrow : IsRow E size v n xs seg) (hat : ∀ w, St C.w0 C.S fs w → RowAt w size vx m news)
    (h1 : ∀ u ∈ news, u.oneCell' = true) (hm : 0 < m) (h63 : n + m ≤ maxLen) (hb : (n + m) * bytes ≤ 140737488355328)
    (k : ∀ v' seg', IsRow E size v' (n + m) (xs ++ news) seg' → ∃ fs', AtSeg fs' pre seg' post ∧ LW C ops Q rest ((d, v') :: e) fs') :
    LW C ops Q (⟨some d, .call { callee := .builtin .append, args := #[s, x], argTypes := tys }, t, pos, af, none⟩ :: rest) e fs := fun a w hsat => by
  subst hT
  obtain ⟨i, i1, i2, i3, i4⟩ := info_all (P := C.P) (T := E)
  have hA := hat w hsat.st
  obtain ⟨b, off, c, cs, E', fr, rfl, hblk, hnx⟩ := hA.pos hm
  have hst := hsat.st
  rw [hseg.eq] at hst
  obtain ⟨v', seg', w', hr, hrow', hw'⟩ := row_append (P := C.P) (ty := t) hU.un i1 i3 i2 hz hrow hst ⟨b, off, none⟩ m c news hA.len (fun j u hj => by
    rw [addr_add, cell_of hblk]; exact cut_get hnx hj) h1 hm h63 (by rw [i4]; exact hb)
  obtain ⟨fs', hat', hK⟩ := k v' seg' hrow'
  have hrun : (execOp a.eval ⟨some d, .call { callee := .builtin .append, args := #[s, x], argTypes := #[T, T] }, t, pos, af, none⟩).run C.P w = .ok (.value v') w' := by
    simp [execOp, resolve, invoke, builtin, hsat.env.ev hs, hsat.env.ev hx, hr]
  refine wpListIn_take (wanted_none _ rfl _) ⟨fun _ _ => trivial, ?_⟩
  rw [semAt_FR (fun c h => by cases h), hrun]
  exact hK _ _ ⟨hsat.env.put hd, by rw [hat'.eq]; exact hw'⟩
theorem LW.lay1 {T E sz : TypeId} {z v : Value} {x : Operand} (hd : Nat.blt d C.N = true) (hU : UnI C.P T (.slice E)) (hI : InfoI C.P E sz z) (hz : z.cells.size = sz) (hs : Nat.blt 0 sz = true) (hs' : Nat.ble sz 1000000 = true) (hx : e.ev x = some v) (hv : v.cells = #[v]) (h1 : sz = 1)
    (k : ∀ b, LW C ops Q rest ((d, .slice (some ⟨b, 0, none⟩) 1 1) :: e) ((b, .cells #[v] E (0, 0)) :: fs)) : LW C ops Q (⟨some d, .buildSlice T 1 #[(0, x)], t, pos, af, none⟩ :: rest) e fs := by
  refine LW.n0 hd rfl (NewP.buildS1 hz hs hs' hx (by rw [hv, h1]; rfl)) fun b => ?_
  rw [hv]; exact k b
theorem LW.layA {T E sz : TypeId} {z : Value} {c : Array Value} {x : Operand} (hd : Nat.blt d C.N = true) (hU : UnI C.P T (.slice E)) (hI : InfoI C.P E sz z) (hz : z.cells.size = sz) (hs : Nat.blt 0 sz = true) (hs' : Nat.ble sz 1000000 = true) (hx : e.ev x = some (.agg c)) (hc : c.size = sz)
    (k : ∀ b, LW C ops Q rest ((d, .slice (some ⟨b, 0, none⟩) 1 1) :: e) ((b, .cells c E (0, 0)) :: fs)) : LW C ops Q (⟨some d, .buildSlice T 1 #[(0, x)], t, pos, af, none⟩ :: rest) e fs :=
  LW.n0 hd rfl (NewP.buildS1 hz hs hs' hx hc) k
/-- A call that hands back facts of new blocks. -/
theorem LW.callR {fo : Operand} {args : Array Operand} {tys : Array TypeId} {f : FuncId} {vs : List Value} {Φ : Value → Fs → Prop} (hd : Nat.blt d C.N = true) (hf : e.ev fo = some (.func (.func f) #[] #[])) (hF : FnI C.P f) (ha : ArgsOk e args.toList vs)
    (hc : ∀ w, St C.w0 C.S fs w → Calls C.P f vs.toArray w (RetG w [] Φ)) (kk : ∀ v gs, Φ v gs → LW C ops Q rest ((d, v) :: e) (gs ++ fs)) : LW C ops Q (⟨some d, .call { callee := .value fo, args := args, argTypes := tys }, t, pos, af, none⟩ :: rest) e fs :=
  LW.callN hd hf hF ha (fun w hs => by rw [arr_id]; exact hc w hs) kk
end mk
section dwl
variable {C : Cu} {ops : Array Oper} {Q : Post} {tl rest : List Oper} {e : Env} {ts : Ts} {μ : Mu} {k d : Nat} {op : Op} {t : TypeId} {pos : String} {af : Array Edge} {g : Option (Nat × Bool)}
theorem DW.lay1 {T E sz : TypeId} {z v : Value} {x : Operand} (hk : ops[k]? = some ⟨some d, .buildSlice T 1 #[(0, x)], t, pos, af, g⟩) (hm : μ k = none) (hd : Nat.blt d C.N = true) (hg : WantT ops e g) (hU : UnI C.P T (.slice E)) (hI : InfoI C.P E sz z) (hz : z.cells.size = sz) (hs : Nat.blt 0 sz = true) (hs' : Nat.ble sz 1000000 = true) (hx : e.ev x = some v) (hv : v.cells = #[v]) (h1 : sz = 1)
    (kk : ∀ b, DW C ops μ Q tl rest (k + 1) ((d, .slice (some ⟨b, 0, none⟩) 1 1) :: e) ((b, .cells #[v] E (0, 0), [k], []) :: ts)) : DW C ops μ Q tl (⟨some d, .buildSlice T 1 #[(0, x)], t, pos, af, g⟩ :: rest) k e ts := by
  refine DW.new hk hm hd hg rfl (NewP.buildS1 hz hs hs' hx (by rw [hv, h1]; rfl)) fun b => ?_
  rw [hv]; exact kk b
theorem DW.layA {T E sz : TypeId} {z : Value} {c : Array Value} {x : Operand} (hk : ops[k]? = some ⟨some d, .buildSlice T 1 #[(0, x)], t, pos, af, g⟩) (hm : μ k = none) (hd : Nat.blt d C.N = true) (hg : WantT ops e g) (hU : UnI C.P T (.slice E)) (hI : InfoI C.P E sz z) (hz : z.cells.size = sz) (hs : Nat.blt 0 sz = true) (hs' : Nat.ble sz 1000000 = true) (hx : e.ev x = some (.agg c)) (hc : c.size = sz)
    (kk : ∀ b, DW C ops μ Q tl rest (k + 1) ((d, .slice (some ⟨b, 0, none⟩) 1 1) :: e) ((b, .cells c E (0, 0), [k], []) :: ts)) : DW C ops μ Q tl (⟨some d, .buildSlice T 1 #[(0, x)], t, pos, af, g⟩ :: rest) k e ts :=
  DW.new hk hm hd hg rfl (NewP.buildS1 hz hs hs' hx hc) kk
end dwl
/-- A row of a block that is known. -/
theorem RowAt.us {w : World} {g n cap sz : Nat} {cur : Array Value} {E : TypeId} {fr : Nat × Nat} {us : Fs} {xs : List Value} (hu : ∀ p ∈ (g, Obj.cells cur E fr) :: us, w.heap[p.1]? = some p.2) (hn : n ≤ cap) (hm : cap ≤ maxLen) (ht : cur.toList.take (n * sz) = xs) (hl : xs.length = n * sz) : RowAt w sz (.slice (some ⟨g, 0, none⟩) n cap) n xs :=
  ⟨⟨_, _, rfl, hn, hm⟩, hl, fun _ => ⟨g, 0, cap, cur, E, fr, rfl, hu _ List.mem_cons_self, by simpa using ht⟩, .own (hu _ List.mem_cons_self)⟩
theorem ValP.indexAddrSL {P : Program} {e : Env} {T : TypeId} {x i : Operand} {b off len cap : Nat} {E : TypeId} {k : Nat} {ik : IntKind} {n : Nat} {z : Value} [UnI P T (.slice E)] [InfoI P E n z] (hx : e.ev x = some (.slice (some ⟨b, off, none⟩) len cap)) (hi : e.ev i = some (.int ik (OfNat.ofNat k))) (_ : k = k) (hk : (OfNat.ofNat k : Nat) < len) :
    ValP P e [] (.indexAddr T x i) (.pointer (some ⟨b, off + (OfNat.ofNat k : Nat) * n, none⟩)) := .indexAddrS hx hi rfl hk
section mm
variable {P : Program} {e : Env} {x y : Operand} {tys : Array TypeId} {m n : Nat} {ik : IntKind}
theorem ValP.maxZ (hx : e.ev x = some (.int ik (m : Int))) (hy : e.ev y = some (.int ik (n : Int))) : ValP P e [] (.call { callee := .builtin .max, args := #[x, y], argTypes := tys }) (.int ik ((max m n : Nat) : Int)) := fun ρ w hρ _ d t pos af g => by
  have h : (if (n : Int) > (m : Int) then (n : Int) else (m : Int)) = ((max m n : Nat) : Int) := by split <;> omega
  have h2 := run_max_int2 (P := P) (w := w) tys t ik ik (m : Int) (n : Int)
  rw [h] at h2
  simp [execOp, resolve, invoke, builtin, hρ x _ hx, hρ y _ hy, h2]
theorem ValP.minZ (hx : e.ev x = some (.int ik (m : Int))) (hy : e.ev y = some (.int ik (n : Int))) : ValP P e [] (.call { callee := .builtin .min, args := #[x, y], argTypes := tys }) (.int ik ((min m n : Nat) : Int)) := fun ρ w hρ _ d t pos af g => by
  have h : (if (n : Int) < (m : Int) then (n : Int) else (m : Int)) = ((min m n : Nat) : Int) := by split <;> omega
  have h2 := run_min_int2 (P := P) (w := w) tys t ik ik (m : Int) (n : Int)
  rw [h] at h2
  simp [execOp, resolve, invoke, builtin, hρ x _ hx, hρ y _ hy, h2]
end mm
/-- The integers of a row. -/
def ics (l : List Nat) : List Value := l.flatMap fun (b : Nat) => [Value.int .i64 (b : Int)]
theorem ics_len (l : List Nat) : ∀ b ∈ l, ([Value.int .i64 (b : Int)]).length = 1 := fun _ _ => rfl
theorem ics_app (l r : List Nat) : ics (l ++ r) = ics l ++ ics r := by simp [ics]
theorem ics_cells (l : List Nat) : ∀ u ∈ ics l, u.oneCell' = true := fun u hu => by
  obtain ⟨b, _, hb⟩ := List.mem_flatMap.1 hu
  obtain rfl : u = _ := by simpa using hb
  rfl
theorem ics_zero (n : Nat) : List.replicate n (Value.int .i64 0) = ics (List.replicate n 0) := by
  induction n with
  | zero => rfl
  | succ n ih => rw [List.replicate_succ, List.replicate_succ, ih]; rfl
theorem ics_take (l : List Nat) (k : Nat) : (ics l).take (k * 1) = ics (l.take k) := by
  rw [Nat.mul_one]
  induction l generalizing k with
  | nil => simp [ics]
  | cons a l ih =>
    cases k with
    | zero => simp [ics]
    | succ k => have := ih k; simp only [ics, List.flatMap_cons, List.singleton_append, List.take_succ_cons] at *; rw [this]
theorem ics_drop (l : List Nat) (k : Nat) : (ics l).drop (k * 1) = ics (l.drop k) := by
  rw [Nat.mul_one]
  induction l generalizing k with
  | nil => simp [ics]
  | cons a l ih =>
    cases k with
    | zero => simp [ics]
    | succ k => have := ih k; simp only [ics, List.flatMap_cons, List.singleton_append, List.drop_succ_cons] at *; rw [this]

/-- A row of facts, read at a place among them. -/
theorem IsRow.atSeg {E : TypeId} {sz n : Nat} {v : Value} {xs : List Value} {fs seg pre post : Fs} {w0 w : World} {S : List Nat} (h : IsRow E sz v n xs seg) (hseg : AtSeg fs pre seg post) (hs : St w0 S fs w) : RowAt w sz v n xs := by
  rw [hseg.eq] at hs
  exact h.at hs
end Go.Proofs.YthhalnmbfokbbaaDoor.SL

/-
  A SMALL LOGIC OVER THE KIT's WALK, PART O: truth values compared; parts of a block read.
  Conditions: none; over any program.
-/
namespace Go.Proofs.YthhalnmbfokbbaaDoor.SL
set_option linter.unusedVariables false
set_option linter.unusedSimpArgs false
open Go Go.RowKit
section bo
variable {P : Program} {e : Env} {T ty : TypeId} {x y : Operand} {a b : Bool}
theorem guard_bool {op : BinOp} {v : Value} (w : World) : (eqGuard op T x y (.bool a) v).run P w = .ok () w := by
  unfold eqGuard; cases op <;> cases v <;> simp
theorem eqIn_bool (d : Nat) (w : World) [UnI P T .bool] : (Op.equalIn (d + 1) T (.bool a) (.bool b)).run P w = .ok (a == b) w := by
  rw [Op.equalIn.eq_def]; simp only [Sem.run_bind, run_un (P := P) (T := T), Result.andThen_ok]; rfl
theorem ValP.boolEq [UnI P T .bool] (hx : e.ev x = some (.bool a)) (hy : e.ev y = some (.bool b)) : ValP P e [] (.binOp .eql T x y ty) (.bool (a == b)) :=
  .bin hx hy (fun w => guard_bool w) fun w => by
    have := eqIn_bool (P := P) (T := T) (a := a) (b := b) (Op.maxDepth - 1) w
    simp only [binOp, Op.equal, Sem.run_bind]
    rw [show Op.maxDepth = Op.maxDepth - 1 + 1 from rfl, this]; rfl
theorem ValP.boolNe [UnI P T .bool] (hx : e.ev x = some (.bool a)) (hy : e.ev y = some (.bool b)) : ValP P e [] (.binOp .neq T x y ty) (.bool (a != b)) :=
  .bin hx hy (fun w => guard_bool w) fun w => by
    have := eqIn_bool (P := P) (T := T) (a := a) (b := b) (Op.maxDepth - 1) w
    simp only [binOp, Op.equal, Sem.run_bind]
    rw [show Op.maxDepth = Op.maxDepth - 1 + 1 from rfl, this]; rfl
theorem ValP.boolEqT [UnI P T .bool] (hx : e.ev x = some (.bool a)) (hy : e.ev y = some (.bool b)) (h : a = b) : ValP P e [] (.binOp .eql T x y ty) (.bool true) := by
  have := ValP.boolEq (P := P) (T := T) (ty := ty) hx hy; rwa [h, beq_self_eq_true] at this
theorem ValP.boolNeF [UnI P T .bool] (hx : e.ev x = some (.bool a)) (hy : e.ev y = some (.bool b)) (h : a = b) : ValP P e [] (.binOp .neq T x y ty) (.bool false) := by
  have := ValP.boolNe (P := P) (T := T) (ty := ty) hx hy; rwa [h, bne_self_eq_false] at this
end bo
/-- Parts of a block. -/
theorem Rd.mid {P : Program} {T : TypeId} {n : Nat} {z : Value} [AgI P T true] [InfoI P T n z] {c : Array Value} {E : TypeId} {fr : Nat × Nat} {off : Nat} {cs : List Value} (hn : cs.length = n) (h : (c.toList.drop off).take n = cs) : Rd P T (.cells c E fr) off (.agg cs.toArray) :=
  Rd.part hn fun j v hv => cut_get h hv
end Go.Proofs.YthhalnmbfokbbaaDoor.SL

/-
  A SMALL LOGIC OVER THE KIT's WALK, PART P: arguments that are rows, opened.
  Conditions: none; over any program.
-/
namespace Go.Proofs.YthhalnmbfokbbaaDoor.SL
set_option linter.unusedVariables false
set_option linter.unusedSimpArgs false
open Go Go.RowKit Go.ChangeShapes Go.WideShapes
section op
variable {H : Type} {enc : TypeId × Value → H} {P : Program} {w W : World} {held : Bool} {r : Reach} {base : Nat} {T E : TypeId} {v : Value} {d : DataW H} {ps : List MemPlace}
/-- An argument that is a row. -/
theorem open_row {α : Type} {g : α → List Value} {Q : α → Prop} {e : Ty} {sz : Nat} (hu : P.underlying T = some (.slice E)) (hT : (Ty.sl e).ok P (.inl T) = true) (hc : e.cells = sz) (h0 : 0 < sz) (he : ∀ cs', e.is w cs' → ∃ x, Q x ∧ cs' = g x)
    (hv : Value.okWide P W r base T v) (h : DataW.Trod enc P w 0 (fun _ => true) held T v d ps) : ∃ l : List α, (∀ x ∈ l, Q x) ∧ RowAt w sz v l.length (l.flatMap g) := by
  obtain ⟨a, n, c, rfl⟩ := okWide_slice hu hv
  obtain ⟨v', l, h1, h2, h3⟩ := sl_rows hc h0 he (open_one hT h)
  obtain rfl : v' = _ := by simpa [Value.cells] using h1.symm
  exact ⟨l, fun x hx => (h2 x hx).1, h3⟩
theorem open_n {k : IntKind} (hu : P.underlying T = some (.int k)) (hT : (Ty.int k).ok P (.inl T) = true) (hv : Value.okWide P W r base T v) (h : DataW.Trod enc P w 0 (fun _ => true) held T v d ps) : ∃ n, v = .int k n ∧ (Lit.int k n).wf = true := by
  obtain ⟨n, rfl⟩ := okWide_int hu hv
  obtain ⟨n', h1, h2⟩ := open_one hT h
  obtain rfl : n = n' := by simpa [Value.cells] using h1
  exact ⟨n, rfl, h2⟩
theorem open_str (hu : P.underlying T = some .string) (hT : Ty.str.ok P (.inl T) = true) (hv : Value.okWide P W r base T v) (h : DataW.Trod enc P w 0 (fun _ => true) held T v d ps) : ∃ s, v = .string s ∧ s.size ≤ maxLen := by
  obtain ⟨s, rfl⟩ := okWide_string hu hv
  obtain ⟨s', h1, h2⟩ := open_one hT h
  obtain rfl : s = s' := by simpa [Value.cells] using h1
  exact ⟨s, rfl, h2⟩
end op
def Ty.pair2 : Ty := .arr 2 .word
theorem is_pair {w : World} {cs : List Value} (h : Ty.pair2.is w cs) : ∃ x : Nat × Nat, (x.1 < M256 ∧ x.2 < M256) ∧ cs = (wc x.1).toList ++ (wc x.2).toList := by
  obtain ⟨hl, h⟩ := h
  obtain ⟨a, ha, ea⟩ := is_word (h 0 (by decide))
  obtain ⟨b, hb, eb⟩ := is_word (h 1 (by decide))
  refine ⟨(a, b), ⟨ha, hb⟩, ?_⟩
  have hl' : cs.length = 8 := hl
  simp only [Ty.word, Ty.cells, Nat.zero_mul, List.drop_zero, Nat.one_mul, Nat.mul_one] at ea eb
  rw [← ea, ← eb, List.take_of_length_le (l := cs.drop 4) (by simp [hl'])]
  exact (List.take_append_drop 4 cs).symm
end Go.Proofs.YthhalnmbfokbbaaDoor.SL

/-
  A SMALL LOGIC OVER THE KIT's WALK, PART Q: rows that came in, later; rows of none; elements of our rows written; integers converted.
  Conditions: none; over any program.
-/
namespace Go.Proofs.YthhalnmbfokbbaaDoor.SL
set_option linter.unusedVariables false
set_option linter.unusedSimpArgs false
open Go Go.RowKit
/-- A row that came in reads as it did, later. -/
theorem RowAt.bel {w0 w : World} {sz n : Nat} {v : Value} {xs : List Value} (h : RowAt w0 sz v n xs) (hb : Bel w0.heap.size [] w0 w) : RowAt w sz v n xs :=
  ⟨h.form, h.len, fun h0 => by
    obtain ⟨b, off, c, cs, E, fr, h1, h2, h3⟩ := h.pos h0
    exact ⟨b, off, c, cs, E, fr, h1, by rw [hb.block b (Array.getElem?_eq_some_iff.1 h2).1 (by simp)]; exact h2, h3⟩, fun p n c he => by
    rcases h.lies p n c he with h | h | ⟨b, off, o, h1, h2⟩
    · exact .inl h
    · exact .inr (.inl h)
    · exact .inr (.inr ⟨b, off, o, h1, by rw [hb.block b (Array.getElem?_eq_some_iff.1 h2).1 (by simp)]; exact h2⟩)⟩
theorem RowAt.st {w0 w : World} {sz n : Nat} {v : Value} {xs : List Value} {fs : Fs} (h : RowAt w0 sz v n xs) (hs : St w0 [] fs w) : RowAt w sz v n xs := h.bel hs.bel

theorem IsRow.pos {E : TypeId} {sz n c : Nat} {p : Option Addr} {xs : List Value} {seg : Fs} (h : IsRow E sz (.slice p n c) n xs seg) (h0 : 0 < n) : ∃ g cur, p = some ⟨g, 0, none⟩ ∧ seg = [(g, .cells cur E (0, 0))] ∧ n ≤ c ∧ c ≤ maxLen ∧ cur.size = c * sz ∧ cur.toList.take (n * sz) = xs := by
  cases h with
  | nil => cases h0
  | own hn hm hc ht hl => exact ⟨_, _, rfl, rfl, hn, hm, hc, ht⟩
theorem NewP.build0 {P : Program} {e : Env} {T E : TypeId} {size : Nat} {z : Value} (hU : UnI P T (.slice E)) (hI : InfoI P E size z) : NewP P e (.buildSlice T 0 #[]) (.sl 0 0) (.cells #[] E (0, 0)) := fun ρ w hρ d t pos af g => by
  have hr : (Instr.buildSlice T 0 ((#[] : Array (Nat × Operand)).map fun p => (p.1, ρ p.2))).run P w = .ok ((Sh.sl 0 0).val w.heap.size) (w.alloc (.cells #[] E (0, 0))) := by
    unfold Instr.buildSlice
    simp only [Sem.run_bind, run_un, run_size, Result.andThen_ok]
    simp [newRow, Sh.val, Instr.fill, Array.range_zero']
  simp only [execOp]
  exact (show ((do pure (.value (← Instr.buildSlice T 0 ((#[] : Array (Nat × Operand)).map fun p => (p.1, ρ p.2)))) : Sem Next)).run P w = _ by simp only [Sem.run_bind, hr]; rfl)
section mm
variable {P : Program} {e : Env} {x y : Operand} {tys : Array TypeId} {m n : Nat} {ik : IntKind}
theorem ValP.minZL (hx : e.ev x = some (.int ik (m : Int))) (hy : e.ev y = some (.int ik (OfNat.ofNat n))) (_ : n = n) : ValP P e [] (.call { callee := .builtin .min, args := #[x, y], argTypes := tys }) (.int ik ((min m (OfNat.ofNat n) : Nat) : Int)) := .minZ hx hy
theorem ValP.cutToL {T E : TypeId} {hi : Operand} {p : Option Addr} {c k sz : Nat} {z : Value} (hU : UnI P T (.slice E)) (hI : InfoI P E sz z) (hx : e.ev x = some (.slice p n c)) (hh : e.ev hi = some (.int ik (OfNat.ofNat k))) (_ : k = k) (hk : (OfNat.ofNat k : Nat) ≤ c) : ValP P e [] (.slice T x none (some hi) none) (.slice p (OfNat.ofNat k) c) := .cutTo hU hI hx hh hk
theorem ValP.cutFromL {T E : TypeId} {lo : Operand} {p : Option Addr} {c k sz : Nat} {z : Value} (hU : UnI P T (.slice E)) (hI : InfoI P E sz z) (hx : e.ev x = some (.slice p n c)) (hl : e.ev lo = some (.int ik (OfNat.ofNat k))) (_ : k = k) (hk : (OfNat.ofNat k : Nat) ≤ n) : ValP P e [] (.slice T x (some lo) none none) (cutAt p (OfNat.ofNat k) n c sz) := .cutFrom hU hI hx hl hk
end mm
section lw
variable {C : Cu} {ops : Array Oper} {Q : Post} {rest : List Oper} {e : Env} {fs : Fs} {d : Nat} {t : TypeId} {pos : String} {af : Array Edge}
/-- A slice of no elements, but not nil. -/
theorem LW.lay0 {T E sz : TypeId} {z : Value} (hd : Nat.blt d C.N = true) (hU : UnI C.P T (.slice E)) (hI : InfoI C.P E sz z) (k : ∀ v seg, IsRow E sz v 0 [] seg → LW C ops Q rest ((d, v) :: e) (seg ++ fs)) :
    LW C ops Q (⟨some d, .buildSlice T 0 #[], t, pos, af, none⟩ :: rest) e fs :=
  LW.n0 hd rfl (NewP.build0 hU hI) fun g => k _ [(g, _)] (.own (cur := #[]) (Nat.le_refl 0) (Nat.zero_le _) (by simp) (by simp) (by simp))
/-- **append(s, x...)** of nothing. -/
theorem ValP.append0 {P : Program} {s x : Operand} {tys : Array TypeId} {T E sz : TypeId} {z : Value} {p q : Option Addr} {n c c' : Nat} (hT : tys = #[T, T]) (hU : UnI P T (.slice E)) (hI : InfoI P E sz z) (hs : e.ev s = some (.slice p n c)) (hx : e.ev x = some (.slice q 0 c')) (hle : n ≤ c) :
    ValP P e [] (.call { callee := .builtin .append, args := #[s, x], argTypes := tys }) (.slice p n c) := fun ρ w hρ _ d t pos af g => by
  subst hT
  obtain ⟨i, h1, h2, _⟩ := info_of (P := P) (T := E)
  have hsrc : Src P i.size T (.slice q 0 c') 0 [] w := by
    cases q with
    | none => exact Src.ofNil w hU.un c'
    | some a => exact Src.ofSlice w hU.un a 0 c' [] (by simp) (fun j u h => by simp at h) (fun u h => by cases h)
  have hr := run_append_nothing (P := P) w T T t E i hU.un h1 p n c hle _ hsrc
  simp [execOp, resolve, invoke, builtin, hρ s _ hs, hρ x _ hx, hr]
/-- **append(s, x...)**: s a row of ours, x a row that may be read, of none too. -/
theorem LW.appendAny {s x : Operand} {tys : Array TypeId} {T E : TypeId} {size bytes : Nat} {z v vx : Value} {n m : Nat} {xs news : List Value} {seg pre post : Fs} (hd : Nat.blt d C.N = true) (hT : tys = #[T, T]) (hU : UnI C.P T (.slice E)) (hI : InfoI C.P E size z) (hB : BytI C.P E bytes)
    (hz : z.cells.size = size) (hs : e.ev s = some v) (hx : e.ev x = some vx) (hseg : AtSeg fs pre seg post) (hrow : IsRow E size v n xs seg) (hat : ∀ w, St C.w0 C.S fs w → RowAt w size vx m news)
    (h1 : ∀ u ∈ news, u.oneCell' = true) (h63 : n + m ≤ maxLen) (hb : (n + m) * bytes ≤ 140737488355328)
    (k : ∀ v' seg', IsRow E size v' (n + m) (xs ++ news) seg' → ∃ fs', AtSeg fs' pre seg' post ∧ LW C ops Q rest ((d, v') :: e) fs') :
    LW C ops Q (⟨some d, .call { callee := .builtin .append, args := #[s, x], argTypes := tys }, t, pos, af, none⟩ :: rest) e fs := by
  rcases Nat.eq_zero_or_pos m with hm | hm
  · subst hm
    intro a w hsat
    have hA := hat w hsat.st
    have hn : news = [] := List.length_eq_zero_iff.1 (by rw [hA.len, Nat.zero_mul])
    subst hn
    obtain ⟨q, c', rfl, _, _⟩ := hA.form
    have hp : ∃ p c, v = .slice p n c ∧ n ≤ c := by
      cases hrow with
      | nil => exact ⟨_, _, rfl, Nat.le_refl _⟩
      | own hn _ _ _ _ => exact ⟨_, _, rfl, hn⟩
    obtain ⟨p, c, rfl, hle⟩ := hp
    obtain ⟨fs', hat', hK⟩ := k _ seg (by simpa using hrow)
    have : fs' = fs := by rw [hat'.eq, hseg.eq]
    subst this
    exact LW.v0 hd rfl (ValP.append0 hT hU hI hs hx hle) hK a w hsat
  · exact LW.appendAt hd hT hU hI hB hz hs hx hseg hrow hat h1 hm h63 hb k
theorem ValP.convU {P : Program} {S T : TypeId} {x : Operand} {k : IntKind} {n : Int} {dd : TypeDesc} [UnI P S dd] [UnI P T (.int .u64)] (hx : e.ev x = some (.int k n)) : ValP P e [] (.convert S T x) (.int .u64 (((n % 18446744073709551616).toNat : Nat) : Int)) := by
  have h := ValP.conv (P := P) (S := S) (T := T) (ds := dd) (k' := .u64) hx
  rwa [wrapU, show n % 18446744073709551616 = (((n % 18446744073709551616).toNat : Nat) : Int) by omega] at h
end lw
/-- An element of a row of ours, written. -/
theorem wr_take {sz : Nat} {cur : Array Value} {m i : Nat} {vs : List Value} {xs : List Value} (ht : cur.toList.take (m * sz) = xs) (hvs : vs.length = sz) (hi : i < m) (hlen : m * sz ≤ cur.size) :
    (wrCells cur (i * sz) vs).toList.take (m * sz) = xs.take (i * sz) ++ vs ++ xs.drop ((i + 1) * sz) ∧ (wrCells cur (i * sz) vs).size = cur.size := by
  have hk : ∀ (vs : List Value) (c : Array Value) (off : Nat), off + vs.length ≤ c.size → (wrCells c off vs).toList = c.toList.take off ++ vs ++ c.toList.drop (off + vs.length) := by
    intro vs
    induction vs with
    | nil => intro c off h; simp [wrCells]
    | cons v r ih =>
      intro c off h
      simp only [List.length_cons] at h
      rw [wrCells, ih _ _ (by simp; omega)]
      simp only [Array.toList_setIfInBounds, List.length_cons]
      have hlt : off < c.toList.length := by simp; omega
      have hl : (c.toList.take off).length = off := by simp; omega
      rw [List.take_set, List.take_succ_eq_append_getElem hlt, List.set_append_right _ _ (by rw [hl]; exact Nat.le_refl _), hl, Nat.sub_self, List.drop_set_of_lt (by omega)]
      simp [Nat.add_assoc, Nat.add_comm 1]
  have h1 : (i + 1) * sz ≤ m * sz := Nat.mul_le_mul_right _ hi
  have h2 : (i + 1) * sz = i * sz + sz := Nat.succ_mul i sz
  have h3 := hk vs cur (i * sz) (by rw [hvs, ← h2]; omega)
  constructor
  · rw [h3, hvs, ← h2, ← ht]
    have hl1 : (cur.toList.take (i * sz)).length = i * sz := by simp; omega
    rw [List.append_assoc, List.take_append, hl1, List.take_of_length_le (by rw [hl1]; omega), List.take_append, hvs, List.take_of_length_le (l := vs) (by omega), List.take_take, Nat.min_eq_left (by omega), List.append_assoc]
    congr 2
    rw [List.drop_take]
    congr 1
    omega
  · rw [← Array.length_toList, h3]
    simp [hvs]
    omega
end Go.Proofs.YthhalnmbfokbbaaDoor.SL

/-
  A SMALL LOGIC OVER THE KIT's WALK, PART R: arrays cut, and slices seen as arrays.
  Conditions: none; over any program.
-/
namespace Go.Proofs.YthhalnmbfokbbaaDoor.SL
set_option linter.unusedVariables false
set_option linter.unusedSimpArgs false
open Go Go.RowKit
section ar
variable {P : Program} {e : Env} {x hi : Operand} {T E A : TypeId} {n sz k : Nat} {z : Value} {ik : IntKind} {b off : Nat}
/-- arr[:k] of an array's address. -/
theorem ValP.cutArr (hU : UnI P T (.array n E)) (hI : InfoI P E sz z) (hx : e.ev x = some (.pointer (some ⟨b, off, none⟩))) (hh : e.ev hi = some (.int ik (OfNat.ofNat k))) (hk : Nat.ble (OfNat.ofNat k) n = true) : ValP P e [] (.slice T x none (some hi) none) (.slice (some ⟨b, off, none⟩) (OfNat.ofNat k) n) := fun ρ w hρ _ d t pos af g => by
  have hk' := Nat.le_of_ble_eq_true hk
  have hu := hU.un
  have h1 : (Instr.sliceAt T (.pointer (some ⟨b, off, none⟩)) none (some (.int ik (OfNat.ofNat k))) none).run P w = .ok (.slice (some ⟨b, off, none⟩) (OfNat.ofNat k) n) w := by
    have hal : P.arrayLen T = n := by rw [Program.arrayLen, hu]
    have hel : P.elem T = E := by rw [Program.elem, hu]
    have h2 := run_sliceAt_array_h (P := P) w T ⟨b, off, none⟩ (by rw [hal, hel]; exact hu) ik ((OfNat.ofNat k : Nat) : Int) (Int.natCast_nonneg _) (by rw [hal]; exact Int.ofNat_le.2 hk')
    rw [hel, run_size, hal] at h2
    have e1 : ((OfNat.ofNat k : Int)) = ((OfNat.ofNat k : Nat) : Int) := rfl
    rw [e1, h2]
    simp only [Result.andThen_ok, slicedAt, Nat.zero_mul, Int.toNat_natCast, Nat.sub_zero]
    simp [Addr.add]
  simp [execOp, hρ x _ hx, hρ hi _ hh, h1]
/-- A slice seen as an array. -/
theorem ValP.asArr {p : Option Addr} {m c : Nat} (hU : UnI P A (.array n E)) (hx : e.ev x = some (.slice p m c)) (hn : Nat.ble n m = true) : ValP P e [] (.sliceToArrayPointer A x) (.pointer p) := fun ρ w hρ _ d t pos af g => by
  have h1 := run_arrayAt (P := P) w A E n p m c hU.un (Nat.le_of_ble_eq_true hn)
  simp [execOp, hρ x _ hx, h1]
end ar
end Go.Proofs.YthhalnmbfokbbaaDoor.SL

/-
  A SMALL LOGIC OVER THE KIT's WALK, PART S: operations passed over because what they wait for was passed over.
  Conditions: none; over any program.
-/
namespace Go.Proofs.YthhalnmbfokbbaaDoor.SL
set_option linter.unusedVariables false
set_option linter.unusedSimpArgs false
open Go Go.RowKit
theorem LW.guardU {C : Cu} {ops : Array Oper} {Q : Post} {rest : List Oper} {e : Env} {fs : Fs} {d : Nat} {op : Op} {t : TypeId} {pos : String} {af : Array Edge} {j s : Nat} {g : Bool} (hs : (ops[j]?).bind (·.dst) = some s) (he : e.get s = some undef) (hd : Nat.blt d C.N = true) (h : LW C ops Q rest ((d, undef) :: e) fs) :
    LW C ops Q (⟨some d, op, t, pos, af, some (j, g)⟩ :: rest) e fs := by
  intro a w hst
  have h1 := h _ w ⟨hst.env.put (v := undef) hd, hst.st⟩
  have hy : yielded ops a.tmps j = none := by simp [yielded, hs, hst.env.get s _ he, undef]
  unfold wpListIn
  rw [if_neg (by simp [Region.wanted, hy])]
  exact ⟨fun _ _ => trivial, h1⟩
theorem DW.skipU {C : Cu} {ops : Array Oper} {Q : Post} {tl rest : List Oper} {e : Env} {ts : Ts} {μ : Mu} {k d : Nat} {op : Op} {t : TypeId} {pos : String} {af : Array Edge} {j s : Nat} {b : Bool} (hk : ops[k]? = some ⟨some d, op, t, pos, af, some (j, b)⟩) (hd : Nat.blt d C.N = true) (hs : (ops[j]?).bind (·.dst) = some s)
    (he : e.get s = some undef) (kk : DW C ops μ Q tl rest (k + 1) ((d, undef) :: e) ts) : DW C ops μ Q tl (⟨some d, op, t, pos, af, some (j, b)⟩ :: rest) k e ts := by
  intro a φ tw tr ha hr hinv
  have hw : Region.wanted ⟨some d, op, t, pos, af, some (j, b)⟩ (yielded ops a.tmps) = false := by
    have hy : yielded ops a.tmps j = none := by simp [yielded, hs, ha.get s _ he, undef]
    simp [Region.wanted, hy]
  have htch : tch ops ⟨some d, op, t, pos, af, some (j, b)⟩ a = [] := by unfold tch; rw [if_neg (by rw [hw]; simp)]
  unfold walk dOp
  simp only [hk]
  rw [htch]
  refine ⟨by simp, .inl ⟨.val undef, .inr ⟨hw, rfl⟩, by simp [Eff.wr], ?_⟩⟩
  refine kk _ _ _ _ (ha.put hd) ⟨hr.fsome, hr.fdom, fun p hp j hj => ?_, fun p hp j hj => ?_, fun b hb j hj => ?_, fun b hb hB j hj => ?_, hr.nd⟩ hinv
  · rcases hj with hj | ⟨_, hj⟩
    · exact hr.ftw p hp _ hj
    · simp [Eff.wr] at hj
  · rcases hj with hj | ⟨_, hj⟩
    · exact hr.ftr p hp _ hj
    · simp at hj
  · rcases hj with hj | ⟨_, hj⟩
    · exact hr.old b hb _ hj
    · simp [Eff.wr] at hj
  · rcases hj with hj | ⟨_, hj⟩
    · exact hr.oldr b hb hB _ hj
    · simp at hj
end Go.Proofs.YthhalnmbfokbbaaDoor.SL

/-
  A SMALL LOGIC OVER THE KIT's WALK, PART T: rows of bytes, and strings out of them.
  Conditions: none; over any program.
-/
namespace Go.Proofs.YthhalnmbfokbbaaDoor.SL
set_option linter.unusedVariables false
set_option linter.unusedSimpArgs false
open Go Go.RowKit
/-- The cells of bytes. -/
def ucs (l : List UInt8) : List Value := l.flatMap fun u => [Value.int .u8 (u.toNat : Int)]
theorem ucs_map (l : List UInt8) : ucs l = l.map fun u => Value.int .u8 (u.toNat : Int) := by
  induction l with
  | nil => rfl
  | cons a l ih => simp [ucs] at *; exact ih
theorem ucs_len (l : List UInt8) : (ucs l).length = l.length := by rw [ucs_map, List.length_map]
theorem ucs_one (l : List UInt8) : ∀ u ∈ l, ([Value.int .u8 (u.toNat : Int)] : List Value).length = 1 := fun _ _ => rfl
theorem ucs_app (l r : List UInt8) : ucs (l ++ r) = ucs l ++ ucs r := by simp [ucs]
theorem ucs_take (l : List UInt8) (k : Nat) : (ucs l).take (k * 1) = ucs (l.take k) := by rw [ucs_map, ucs_map, Nat.mul_one, List.map_take]
theorem ucs_drop (l : List UInt8) (k : Nat) : (ucs l).drop (k * 1) = ucs (l.drop k) := by rw [ucs_map, ucs_map, Nat.mul_one, List.map_drop]
theorem ucs_cells (l : List UInt8) : ∀ u ∈ ucs l, u.oneCell' = true := fun u hu => by
  rw [ucs_map] at hu
  obtain ⟨a, _, rfl⟩ := List.mem_map.1 hu
  rfl
theorem ucs_zero (n : Nat) : ucs (List.replicate n 0) = List.replicate n (Value.int .u8 0) := by rw [ucs_map, List.map_replicate]; rfl
theorem is_u8 {w : World} {cs : List Value} (h : (Ty.int .u8).is w cs) : ∃ u : UInt8, True ∧ cs = [Value.int .u8 (u.toNat : Int)] := by
  obtain ⟨n, rfl, hn⟩ := h
  simp [Lit.wf, IntKind.min, IntKind.max, IntKind.signed, IntKind.bits] at hn
  refine ⟨UInt8.ofNat n.toNat, trivial, ?_⟩
  rw [UInt8.toNat_ofNat']
  congr 2
  omega
/-- A row of bytes, as a value of its own. -/
theorem is_bytes {w : World} {cs : List Value} (h : (Ty.sl (.int .u8)).is w cs) : ∃ x : Value × List UInt8, RowAt w 1 x.1 x.2.length (ucs x.2) ∧ cs = [x.1] := by
  obtain ⟨v, l, h1, _, h3⟩ := sl_rows (g := fun u : UInt8 => [Value.int .u8 (u.toNat : Int)]) (Q := fun _ => True) (sz := 1) rfl (by decide) (fun _ h => is_u8 h) h
  exact ⟨(v, l), h3, h1⟩
theorem RowAt.string {P : Program} {w : World} {v : Value} {l : List UInt8} {n : Nat} {S T E : TypeId} (h : RowAt w 1 v n (ucs l)) (hS : P.underlying S = some (.slice E)) (hE : P.underlying E = some (.int .u8)) (hT : P.underlying T = some .string) :
    (convert S T v).run P w = .ok (.string ⟨l.toArray⟩) w := by
  have hn : l.length = n := by have := h.len; rw [ucs_len] at this; omega
  rcases Nat.eq_zero_or_pos n with h0 | h0
  · subst h0
    obtain rfl : l = [] := List.length_eq_zero_iff.1 hn
    obtain ⟨p, c, rfl, _, _⟩ := h.form
    rw [run_convert_bytes_string w S T E _ 0 c hS hE hT]
    cases p <;> simp [Conv.bytesToString, loadCells]
    all_goals rfl
  · obtain ⟨b, off, c, cs, E', fr, rfl, hb, hx⟩ := h.pos h0
    have := run_convert_bytes_arg (P := P) w S E hS hE b off n c (l.map fun u => (u.toNat : Int)) (by simpa using hn) (fun i hi => by
      have hlt : i < l.length := by omega
      have hg := cut_get (j := i) (v := .int .u8 (l[i].toNat : Int)) hx (by rw [ucs_map]; simp [hlt])
      rw [cell_of hb, hg]
      simp [List.getD, hlt]) T hT
    rw [this]
    congr 2
    simp only [strOfNums, List.map_map]
    congr 2
    conv => rhs; rw [← List.map_id l]
    apply List.map_congr_left
    intro u _
    simp
section lw
variable {C : Cu} {ops : Array Oper} {Q : Post} {rest : List Oper} {e : Env} {fs : Fs} {d : Nat} {t : TypeId} {pos : String} {af : Array Edge}
/-- **string(b)** of bytes that may be read. -/
theorem LW.toStr {S T E : TypeId} {x : Operand} {v : Value} {l : List UInt8} {n : Nat} (hd : Nat.blt d C.N = true) (hS : UnI C.P S (.slice E)) (hE : UnI C.P E (.int .u8)) (hT : UnI C.P T .string) (hx : e.ev x = some v) (hat : ∀ w, St C.w0 C.S fs w → RowAt w 1 v n (ucs l))
    (k : LW C ops Q rest ((d, .string ⟨l.toArray⟩) :: e) fs) : LW C ops Q (⟨some d, .convert S T x, t, pos, af, none⟩ :: rest) e fs :=
  LW.val hd (fun c h => by cases h) (fun a w hs => by
    have := (hat w hs.st).string (P := C.P) hS.un hE.un hT.un
    simp [execOp, hs.env.ev hx, this]) k
end lw
theorem bytes_eq (a b : List UInt8) : decide ((⟨a.toArray⟩ : ByteArray) = ⟨b.toArray⟩) = decide (a = b) := by
  rw [decide_eq_decide]
  constructor
  · intro h; exact by have := congrArg (fun x : ByteArray => x.data.toList) h; simpa using this
  · intro h; rw [h]
end Go.Proofs.YthhalnmbfokbbaaDoor.SL

/-
  A SMALL LOGIC OVER THE KIT's WALK, PART U: what comes behind a loop, told once.
  Conditions: none; over any program.
-/
namespace Go.Proofs.YthhalnmbfokbbaaDoor.SL
set_option linter.unusedVariables false
set_option linter.unusedSimpArgs false
open Go Go.RowKit
/-- All that is behind is told once, from less that is known. -/
def cutQ (C : Cu) (e1 : Env) (fs1 : Fs) : List Deferred → Env → Fs → Prop := fun ds e fs => ds = C.ds ∧ e.le e1 ∧ List.Sublist fs1 fs
theorem CW.cut {C : Cu} {c y : Code} {Q Q' : Post} {e : Env} {fs : Fs} (e1 : Env) (fs1 : Fs) (k : CW C y Q e1 fs1) (h : CW C c (thenQ (cutQ C e1 fs1) Q') e fs) : CW C c (thenQ (thenC C y Q) Q') e fs :=
  CW.mono (fun x ds e fs hx => by
    cases x with
    | normal => obtain ⟨rfl, h2, h3⟩ := hx; exact CW.weak (C := C) e1 fs1 h2 h3 k
    | _ => exact hx) h
theorem CW.cutB {C : Cu} {c y : Code} {Q Q' : Post} {e : Env} {fs : Fs} {id : Nat} (e1 : Env) (fs1 : Fs) (k : CW C y Q e1 fs1) (h : CW C c (blkQ id (thenQ (cutQ C e1 fs1) Q')) e fs) : CW C c (blkQ id (thenQ (thenC C y Q) Q')) e fs :=
  CW.mono (fun x ds e fs hx => by
    have key : ∀ x, thenQ (cutQ C e1 fs1) Q' x ds e fs → thenQ (thenC C y Q) Q' x ds e fs := fun x hx => by
      cases x with
      | normal => obtain ⟨rfl, h2, h3⟩ := hx; exact CW.weak (C := C) e1 fs1 h2 h3 k
      | _ => exact hx
    cases x with
    | exit i =>
      simp only [blkQ] at hx ⊢
      split
      · rename_i hb; rw [hb] at hx; exact key _ hx
      · rename_i hb; rw [hb] at hx; exact key _ hx
    | normal => exact key .normal hx
    | ret => exact key .ret hx
    | goto l => exact key (.goto l) hx
    | panic l => exact key (.panic l) hx
    | outgrown => exact key .outgrown hx) h
theorem cutI {C : Cu} {Q : Post} {e e1 : Env} {fs fs1 : Fs} {ds : List Deferred} (hd : ds = C.ds) (h1 : e.le e1) (h2 : List.Sublist fs1 fs) : thenQ (cutQ C e1 fs1) Q .normal ds e fs := ⟨hd, h1, h2⟩
/-- The cells of rows of bytes. -/
def vcs (l : List (Value × List UInt8)) : List Value := l.flatMap fun x => [x.1]
theorem vcs_one (l : List (Value × List UInt8)) : ∀ x ∈ l, ([x.1] : List Value).length = 1 := fun _ _ => rfl
end Go.Proofs.YthhalnmbfokbbaaDoor.SL

/-
  A SMALL LOGIC OVER THE KIT's WALK, PART V: calls in drawn regions that read rows.
  Conditions: none; over any program.
-/
namespace Go.Proofs.YthhalnmbfokbbaaDoor.SL
set_option linter.unusedVariables false
set_option linter.unusedSimpArgs false
open Go Go.RowKit
theorem IsRow.us {E : TypeId} {sz n : Nat} {v : Value} {xs : List Value} {seg us : Fs} {w : World} (h : IsRow E sz v n xs seg) (hu : ∀ p ∈ us, w.heap[p.1]? = some p.2) (hs : List.Sublist seg us) : RowAt w sz v n xs := by
  cases h with
  | nil => exact .nil
  | @own g _ cap cur _ hn hm hc ht hl =>
    have hg := hu (g, .cells cur E (0, 0)) (hs.subset (by simp))
    exact ⟨⟨_, _, rfl, hn, hm⟩, hl, fun _ => ⟨g, 0, cap, cur, E, _, rfl, hg, by simpa using ht⟩, .own hg⟩
theorem ReadAll.app {C : Cu} {ops : Array Oper} {k : Nat} {bs : List Nat} {ts ts1 : Ts} {us : Fs} (h : ReadAll C ops k bs ts us ts1) : ∀ {bs' : List Nat} {us' : Fs} {ts2 : Ts}, ReadAll C ops k bs' ts1 us' ts2 → ReadAll C ops k (bs ++ bs') ts (us ++ us') ts2 := by
  induction h with
  | nil => intro _ _ _ h'; exact h'
  | own h _ ih => intro _ _ _ h'; exact .own h (ih h')
  | ext h hS _ ih => intro _ _ _ h'; exact .ext h hS (ih h')
/-- What a call's operands name is looked at: facts of ours, or rows that lay there when the call began. -/
inductive RdV (C : Cu) (ops : Array Oper) (k : Nat) : List Value → Ts → Fs → Ts → Prop
  | nil {ts : Ts} : RdV C ops k [] ts [] ts
  | plain {v : Value} {vs : List Value} {ts ts2 : Ts} {us : Fs} (hb : blocksN 4 v = []) (h : RdV C ops k vs ts us ts2) : RdV C ops k (v :: vs) ts us ts2
  | none {n c : Nat} {vs : List Value} {ts ts2 : Ts} {us : Fs} (h : RdV C ops k vs ts us ts2) : RdV C ops k (.slice .none n c :: vs) ts us ts2
  | ptr {b off : Nat} {o : Obj} {vs : List Value} {ts ts1 ts2 : Ts} {us : Fs} (h : TRead ops k ts b o ts1) (hs : RdV C ops k vs ts1 us ts2) : RdV C ops k (.pointer (some ⟨b, off, .none⟩) :: vs) ts ((b, o) :: us) ts2
  | own {b off n c : Nat} {o : Obj} {vs : List Value} {ts ts1 ts2 : Ts} {us : Fs} (hc : 0 < c) (h : TRead ops k ts b o ts1) (hs : RdV C ops k vs ts1 us ts2) : RdV C ops k (.slice (some ⟨b, off, .none⟩) n c :: vs) ts ((b, o) :: us) ts2
  | ext {v : Value} {n : Nat} {sz : Nat} {xs : List Value} {vs : List Value} {ts ts2 : Ts} {us : Fs} (h : RowAt C.w0 sz v n xs) (hS : C.S = []) (hs : RdV C ops k vs ts us ts2) : RdV C ops k (v :: vs) ts us ts2
theorem RdV.all {C : Cu} {ops : Array Oper} {k : Nat} {vs : List Value} {ts ts' : Ts} {us : Fs} (h : RdV C ops k vs ts us ts') : ∃ us2, ReadAll C ops k (vs.flatMap (blocksN 4)) ts us2 ts' ∧ ∀ p ∈ us, p ∈ us2 := by
  induction h with
  | nil => exact ⟨[], .nil, by simp⟩
  | plain hb _ ih =>
    obtain ⟨us2, h1, h2⟩ := ih
    exact ⟨us2, by rw [List.flatMap_cons, hb]; exact h1, h2⟩
  | none _ ih =>
    obtain ⟨us2, h1, h2⟩ := ih
    exact ⟨us2, h1, h2⟩
  | @ptr b off o vs ts ts1 ts2 us h _ ih =>
    obtain ⟨us2, h1, h2⟩ := ih
    refine ⟨(b, o) :: us2, .own h h1, fun p hp => ?_⟩
    rcases List.mem_cons.1 hp with rfl | hp
    · exact List.mem_cons_self
    · exact List.mem_cons_of_mem _ (h2 p hp)
  | @own b off n c o vs ts ts1 ts2 us hc h _ ih =>
    obtain ⟨us2, h1, h2⟩ := ih
    refine ⟨(b, o) :: us2, ?_, fun p hp => ?_⟩
    · rw [List.flatMap_cons, show blocksN 4 (.slice (some ⟨b, off, .none⟩) n c) = [b] by simp [blocksN, Nat.ne_of_gt hc]]
      exact .own h h1
    · rcases List.mem_cons.1 hp with rfl | hp
      · exact List.mem_cons_self
      · exact List.mem_cons_of_mem _ (h2 p hp)
  | @ext v n sz xs vs ts ts2 us h hS _ ih =>
    obtain ⟨us2, h1, h2⟩ := ih
    obtain ⟨p, c, rfl, _, _⟩ := h.form
    rcases h.lies _ _ _ rfl with rfl | rfl | ⟨b, off, o, rfl, hb⟩
    · exact ⟨us2, h1, h2⟩
    · exact ⟨us2, by rw [List.flatMap_cons, show blocksN 4 (.slice p n 0) = [] by cases p <;> simp [blocksN]]; exact h1, h2⟩
    · rcases Nat.eq_zero_or_pos c with hc | hc
      · subst hc
        exact ⟨us2, by rw [List.flatMap_cons, show blocksN 4 (.slice (some ⟨b, off, .none⟩) n 0) = [] by simp [blocksN]]; exact h1, h2⟩
      · refine ⟨(b, o) :: us2, ?_, fun p hp => List.mem_cons_of_mem _ (h2 p hp)⟩
        rw [List.flatMap_cons, show blocksN 4 (.slice (some ⟨b, off, .none⟩) n c) = [b] by simp [blocksN, Nat.ne_of_gt hc]]
        exact .ext hb (by rw [hS]; simp) h1
section dw
variable {C : Cu} {ops : Array Oper} {Q : Post} {tl rest : List Oper} {e : Env} {ts : Ts} {μ : Mu} {k d : Nat} {op : Op} {t : TypeId} {pos : String} {af : Array Edge} {g : Option (Nat × Bool)}
theorem DW.callV {fo : Operand} {args : Array Operand} {tys : Array TypeId} {f : FuncId} {vs : List Value} {v : Value} {us : Fs} {ts' : Ts} (hk : ops[k]? = some ⟨some d, .call { callee := .value fo, args := args, argTypes := tys }, t, pos, af, g⟩) (hm : μ k = none)
    (hd : Nat.blt d C.N = true) (hg : WantT ops e g) (hf : e.ev fo = some (.func (.func f) #[] #[])) (hF : FnI C.P f) (ha : ArgsOk e args.toList vs) (hr : RdV C ops k vs ts us ts')
    (hc : ∀ w, Bel C.w0.heap.size C.S C.w0 w → (∀ p ∈ us, w.heap[p.1]? = some p.2) → Calls C.P f vs.toArray w (Ret w v)) (kk : DW C ops μ Q tl rest (k + 1) ((d, v) :: e) ts') :
    DW C ops μ Q tl (⟨some d, .call { callee := .value fo, args := args, argTypes := tys }, t, pos, af, g⟩ :: rest) k e ts := by
  obtain ⟨us2, h1, h2⟩ := hr.all
  exact DW.callE hk hm hd hg hf hF ha (show _ = vs.flatMap (blocksN 4) from rfl) h1 (fun w hb hu => hc w hb fun p hp => hu p (h2 p hp)) kk
theorem DW.manyV {fo : Operand} {args : Array Operand} {tys : Array TypeId} {f : FuncId} {vs : List Value} {M : Rel1} {us : Fs} {ts' : Ts} (hk : ops[k]? = some ⟨some d, .call { callee := .value fo, args := args, argTypes := tys }, t, pos, af, g⟩) (hm : μ k = some M)
    (hd : Nat.blt d C.N = true) (hg : WantT ops e g) (hf : e.ev fo = some (.func (.func f) #[] #[])) (hF : FnI C.P f) (ha : ArgsOk e args.toList vs) (hr : RdV C ops k vs ts us ts')
    (hc : ∀ w, Bel C.w0.heap.size C.S C.w0 w → (∀ p ∈ us, w.heap[p.1]? = some p.2) → Calls C.P f vs.toArray w (RetG w [] M)) (kk : ∀ v gs, M v gs → DW C ops μ Q tl rest (k + 1) ((d, v) :: e) (tsNew k gs ++ ts')) :
    DW C ops μ Q tl (⟨some d, .call { callee := .value fo, args := args, argTypes := tys }, t, pos, af, g⟩ :: rest) k e ts := by
  obtain ⟨us2, h1, h2⟩ := hr.all
  exact DW.manyE hk hm hd hg hf hF ha (show _ = vs.flatMap (blocksN 4) from rfl) h1 (fun w hb hu => hc w hb fun p hp => hu p (h2 p hp)) kk
end dw
end Go.Proofs.YthhalnmbfokbbaaDoor.SL

/-
  A SMALL LOGIC OVER THE KIT's WALK, PART W: strings measured, cut, joined, gone through.
  Conditions: none; over any program.
-/
namespace Go.Proofs.YthhalnmbfokbbaaDoor.SL
set_option linter.unusedVariables false
set_option linter.unusedSimpArgs false
open Go Go.RowKit
/-! ### A label's scope, where nobody jumps -/
theorem stepR_scope {P : Program} {b : Frame} {a : Act} {k : List Item} {cs : List Frame} {w : World} {c : Code} : step P (lone (b.atR a (.code (.scope c) :: k)) cs w) = .next (lone (b.atR a (.code c :: .inScope c :: k)) cs w) :=
  step_lone_go (by simp [stepG, stepG.exec, Frame.atR])
theorem stepR_inScope {P : Program} {b : Frame} {a : Act} {k : List Item} {cs : List Frame} {w : World} {c : Code} : step P (lone (b.atR a (.inScope c :: k)) cs w) = .next (lone (b.atR a k) cs w) :=
  step_lone_go (by simp [stepG, stepG.exec, Frame.atR])
theorem wpIn_scope {F : Fence} {n : Nat} {P : Program} {c : Code} {Q Q' : Exit → Act → World → Prop} {a : Act} {w : World} (hQ : ∀ x a w, Q' x a w → (∀ l, x ≠ .goto l) ∧ Q x a w) (h : c.wpIn F n P Q' a w) : (Code.scope c).wpIn F n P Q a w := by
  intro b k cs hro hb hr
  have h0 : (lone (b.atR a (.code (.scope c) :: k)) cs w).fenced P F := fenced_calm hb hr rfl
  obtain ⟨e, a₁, w₁, hq, harr⟩ := h b (.inScope c :: k) cs hro hb hr
  obtain ⟨hng, hq⟩ := hQ _ _ _ hq
  cases e with
  | normal => exact ⟨.normal, a₁, w₁, hq, .head h0 stepR_scope (StepsIn.trans harr (.one (fenced_calm hb hr rfl) stepR_inScope))⟩
  | exit id =>
    have hx : exitTo id (.inScope c :: k) = exitTo id k := by simp [exitTo]
    exact ⟨.exit id, a₁, w₁, hq, fun k' hk => .head h0 stepR_scope (harr.1 k' (by rw [hx]; exact hk)),
      fun hr' hk => let ⟨k₁, h1, h2⟩ := harr.2 hr' (by rw [hx]; exact hk); ⟨k₁, h1, .head h0 stepR_scope h2⟩⟩
  | goto l => exact absurd rfl (hng l)
  | ret => exact ⟨_, a₁, w₁, hq, .of_steps (.one h0 stepR_scope) harr⟩
  | panic ch => exact ⟨_, a₁, w₁, hq, .of_steps (.one h0 stepR_scope) harr⟩
  | outgrown => exact ⟨_, a₁, w₁, hq, .of_steps (.one h0 stepR_scope) harr⟩
inductive scopeQ (Q : Post) : Post
  | n {ds : List Deferred} {e : Env} {fs : Fs} (h : Q .normal ds e fs) : scopeQ Q .normal ds e fs
  | r {ds : List Deferred} {e : Env} {fs : Fs} (h : Q .ret ds e fs) : scopeQ Q .ret ds e fs
  | e {id : Nat} {ds : List Deferred} {e : Env} {fs : Fs} (h : Q (.exit id) ds e fs) : scopeQ Q (.exit id) ds e fs
theorem CW.scope {C : Cu} {c : Code} {Q : Post} {e : Env} {fs : Fs} (h : CW C c (scopeQ Q) e fs) : CW C (.scope c) Q e fs := fun a w hs =>
  wpIn_scope (fun x a w ⟨ds, e, fs, q, s⟩ => by
    cases q with
    | n h => exact ⟨(fun _ h => nomatch h), ⟨ds, e, fs, h, s⟩⟩
    | r h => exact ⟨(fun _ h => nomatch h), ⟨ds, e, fs, h, s⟩⟩
    | e h => exact ⟨(fun _ h => nomatch h), ⟨ds, e, fs, h, s⟩⟩) (h a w hs)
/-- A string out of bytes. -/
abbrev sv (l : List UInt8) : Value := .string ⟨l.toArray⟩
theorem str_list (s : ByteArray) : ∃ l : List UInt8, s = ⟨l.toArray⟩ := ⟨s.data.toList, by simp⟩
theorem sv_inj {a b : List UInt8} (h : a ≠ b) : (⟨a.toArray⟩ : ByteArray) ≠ ⟨b.toArray⟩ := fun e => h (by have := congrArg (fun x : ByteArray => x.data.toList) e; simpa using this)
section str
variable {P : Program} {e : Env} {T ty : TypeId} {x y lo hi : Operand} {l r : List UInt8} {tys : Array TypeId}
theorem ValP.lenStr (hT : tys = #[T]) (hU : UnI P T .string) (hx : e.ev x = some (sv l)) : ValP P e [] (.call { callee := .builtin .len, args := #[x], argTypes := tys }) (.int .i64 (l.length : Int)) := fun ρ w hρ _ d t pos af g => by
  subst hT
  have h := run_len_string (P := P) w T t ⟨l.toArray⟩ hU.un
  simp only [goInt, ByteArray.size, List.size_toArray] at h
  simp [execOp, resolve, invoke, builtin, hρ x _ hx, h]
theorem ValP.addStr (hx : e.ev x = some (sv l)) (hy : e.ev y = some (sv r)) (hl : l.length + r.length ≤ 9223372036854775807) : ValP P e [] (.binOp .add T x y ty) (sv (l ++ r)) :=
  .bin hx hy (fun w => guard_str w) fun w => by
    rw [binOp_string_add, run_string_add_sum w _ _ (by simp only [ByteArray.size, List.size_toArray]; omega), ByteArray.mk_append_mk]
theorem ValP.cutStr {ik ik' : IntKind} {i j : Nat} (hU : UnI P T .string) (hx : e.ev x = some (sv l)) (hl : e.ev lo = some (.int ik (i : Int))) (hh : e.ev hi = some (.int ik' (j : Int))) (h1 : i ≤ j) (h2 : j ≤ l.length) :
    ValP P e [] (.slice T x (some lo) (some hi) none) (sv ((l.drop i).take (j - i))) := fun ρ w hρ _ d t pos af g => by
  have h := run_slice_string (P := P) w T ⟨l.toArray⟩ ik ik' (i : Int) (j : Int) hU.un (by omega) (by omega) (by simp only [ByteArray.size, List.size_toArray]; omega)
  rw [Int.toNat_natCast, Int.toNat_natCast, ByteArray.extract_mk] at h
  simp [execOp, hρ x _ hx, hρ lo _ hl, hρ hi _ hh, run_sliceAt_string (w := w) T _ _ _ _ hU.un, h]
theorem ValP.cutStrTo {ik : IntKind} {j : Nat} (hU : UnI P T .string) (hx : e.ev x = some (sv l)) (hh : e.ev hi = some (.int ik (j : Int))) (h2 : j ≤ l.length) :
    ValP P e [] (.slice T x none (some hi) none) (sv (l.take j)) := fun ρ w hρ _ d t pos af g => by
  have h := run_slice_string_h (P := P) w T ⟨l.toArray⟩ hU.un ik (j : Int) (by omega) (by simp only [ByteArray.size, List.size_toArray]; omega)
  rw [Int.toNat_natCast, ByteArray.extract_mk, List.drop_zero, Nat.sub_zero] at h
  simp [execOp, hρ x _ hx, hρ hi _ hh, run_sliceAt_string (w := w) T _ _ _ _ hU.un, h]
theorem ValP.cutStrFrom {ik : IntKind} {i : Nat} (hU : UnI P T .string) (hx : e.ev x = some (sv l)) (hl : e.ev lo = some (.int ik (i : Int))) (h2 : i ≤ l.length) :
    ValP P e [] (.slice T x (some lo) none none) (sv (l.drop i)) := fun ρ w hρ _ d t pos af g => by
  have h := run_slice_string_l (P := P) w T ⟨l.toArray⟩ hU.un ik (i : Int) (by omega) (by simp only [ByteArray.size, List.size_toArray]; omega)
  rw [Int.toNat_natCast, ByteArray.extract_mk] at h
  simp only [ByteArray.size, List.size_toArray, ← List.length_drop, List.take_length] at h
  simp [execOp, hρ x _ hx, hρ lo _ hl, run_sliceAt_string (w := w) T _ _ _ _ hU.un, h]
/-- A byte of a string. -/
theorem ValP.indexSv {ik : IntKind} {j : Int} {k : Nat} {b : UInt8} (hU : UnI P T .string) (hx : e.ev x = some (sv l)) (hy : e.ev y = some (.int ik j)) (hj : j = (k : Int)) (hb : l[k]? = some b) : ValP P e [] (.index T x y) (.int .u8 (b.toNat : Nat)) := by
  have := hU
  refine .indexStr hx hy hj ?_
  obtain ⟨h1, h2⟩ := List.getElem?_eq_some_iff.1 hb
  rw [ByteArray.getElem?_lt' _ _ (by simpa [ByteArray.size] using h1)]
  simp only [← h2]
  rfl
end str
section lw
variable {C : Cu} {ops : Array Oper} {Q : Post} {rest : List Oper} {e : Env} {fs fs' : Fs} {d : Nat} {t : TypeId} {pos : String} {af : Array Edge}
/-- **range** over a string. -/
theorem LW.rangeStr {T : TypeId} {x : Operand} {l : List UInt8} (hd : Nat.blt d C.N = true) (hU : UnI C.P T .string) (hx : e.ev x = some (sv l))
    (k : ∀ b, LW C ops Q rest ((d, .pointer (some ⟨b, 0, none⟩)) :: e) ((b, .stringIter ⟨l.toArray⟩ 0) :: fs)) : LW C ops Q (⟨some d, .range T x, t, pos, af, none⟩ :: rest) e fs :=
  LW.new (s := .ptr) hd (fun c h => by cases h) (fun a w hs => by
    have h := run_range_string (P := C.P) w T ⟨l.toArray⟩ hU.un
    simp [execOp, hs.env.ev hx, h, World.iter, Sh.val]) fun b => k b
theorem LW.nextStr {x : Operand} {b m : Nat} {l : List UInt8} (hd : Nat.blt d C.N = true) (hx : e.ev x = some (.pointer (some ⟨b, 0, none⟩))) (hset : SetAt fs b (.stringIter ⟨l.toArray⟩ m) (.stringIter ⟨l.toArray⟩ (m + (Utf8.decode ⟨l.toArray⟩ m).2)) fs') (hm : m < l.length)
    (k : LW C ops Q rest ((d, .tuple #[.bool true, .int .i64 (m : Int), .int .i32 (((Utf8.decode ⟨l.toArray⟩ m).1 : Nat) : Int)]) :: e) fs') : LW C ops Q (⟨some d, .next x true, t, pos, af, none⟩ :: rest) e fs :=
  LW.valset hd (fun c h => by cases h) hset (fun a w hs hb => by
    have hsz : m < (ByteArray.mk l.toArray).size := by simpa [ByteArray.size] using hm
    have h : (Instr.next (.pointer (some ⟨b, 0, none⟩)) true t).run C.P w = .ok (.tuple #[.bool true, .int .i64 (m : Int), .int .i32 (((Utf8.decode ⟨l.toArray⟩ m).1 : Nat) : Int)]) (w.putObj b (.stringIter ⟨l.toArray⟩ (m + (Utf8.decode ⟨l.toArray⟩ m).2))) := by
      simp only [Instr.next, getObj, setObj, Sem.run_bind, Sem.run, hb, Result.andThen, hsz, if_true]
      simp [goInt, Sem.run, hb, World.putObj]
    simp [execOp, hs.env.ev hx, h]) k
theorem LW.nextEnd {x : Operand} {b m : Nat} {l : List UInt8} (hd : Nat.blt d C.N = true) (hx : e.ev x = some (.pointer (some ⟨b, 0, none⟩))) (hk : Known C fs (b, .stringIter ⟨l.toArray⟩ m)) (hm : l.length ≤ m)
    (k : LW C ops Q rest ((d, .tuple #[.bool false]) :: e) fs) : LW C ops Q (⟨some d, .next x true, t, pos, af, none⟩ :: rest) e fs :=
  LW.val hd (fun c h => by cases h) (fun a w hs => by
    have hb := hk.get hs.st
    have hsz : ¬ m < (ByteArray.mk l.toArray).size := by simpa [ByteArray.size] using hm
    have h : (Instr.next (.pointer (some ⟨b, 0, none⟩)) true t).run C.P w = .ok (.tuple #[.bool false]) w := by
      simp [Instr.next, getObj, Sem.run, hb, hsz]
    simp [execOp, hs.env.ev hx, h]) k
end lw
theorem decode_lo (l : List UInt8) (m : Nat) (hm : m < l.length) (h : l[m].toNat < 128) : Utf8.decode ⟨l.toArray⟩ m = (l[m].toNat, 1) := by
  have := decode_ascii ⟨l.toArray⟩ m (by simpa [ByteArray.size] using hm) (show l.toArray[m].toNat < 128 by simpa using h)
  rw [this]
  show (l.toArray[m].toNat, 1) = _
  simp
theorem decode_hi (l : List UInt8) (m : Nat) (hm : m < l.length) (h : 128 ≤ l[m].toNat) : 128 ≤ (Utf8.decode ⟨l.toArray⟩ m).1 ∧ (Utf8.decode ⟨l.toArray⟩ m).1 ≤ 2147483647 :=
  ⟨(decode_high ⟨l.toArray⟩ m (by simpa [ByteArray.size] using hm) (show 128 ≤ l.toArray[m].toNat by simpa using h)).1, decode_le _ _⟩
theorem is_str {w : World} {cs : List Value} (h : Ty.str.is w cs) : ∃ l : List UInt8, l.length ≤ maxLen ∧ cs = [sv l] := by
  obtain ⟨s, rfl, hs⟩ := h
  obtain ⟨l, rfl⟩ := str_list s
  exact ⟨l, by simpa [ByteArray.size] using hs, rfl⟩
/-- The cells of strings. -/
def scs (l : List (List UInt8)) : List Value := l.flatMap fun x => [sv x]
theorem scs_one (l : List (List UInt8)) : ∀ x ∈ l, ([sv x] : List Value).length = 1 := fun _ _ => rfl
/-- A call of a body of the model's own that reads memory. -/
theorem LW.callXS {C : Cu} {ops : Array Oper} {Q : Post} {rest : List Oper} {e : Env} {fs : Fs} {d : Nat} {t : TypeId} {pos : String} {af : Array Edge} {fo : Operand} {args : Array Operand} {tys : Array TypeId} {f : FuncId} {vs : List Value} {v : Value} (hd : Nat.blt d C.N = true) (hf : e.ev fo = some (.func (.func f) #[] #[])) (ha : ArgsOk e args.toList vs)
    (h : ∀ w, St C.w0 C.S fs w → (callFunc f vs.toArray).run C.P w = .ok (.value v) w) (k : LW C ops Q rest ((d, v) :: e) fs) : LW C ops Q (⟨some d, .call { callee := .value fo, args := args, argTypes := tys }, t, pos, af, none⟩ :: rest) e fs :=
  LW.val hd (fun c h => by cases h) (fun a w hs => by
    simp [execOp, resolve, invoke, Deferred.ofValue, hs.env.ev hf, ha.arr hs.env.Ev, h w hs.st]) k
end Go.Proofs.YthhalnmbfokbbaaDoor.SL

/-
  A SMALL LOGIC OVER THE KIT's WALK, PART X: maps of one's own; structs' fields.
  Conditions: none; over any program.
-/
namespace Go.Proofs.YthhalnmbfokbbaaDoor.SL
set_option linter.unusedVariables false
set_option linter.unusedSimpArgs false
open Go Go.RowKit Go.MapKept
/-- What a map holds behind a store. -/
def putNow (dd : TypeDesc) (key val : Value) (es : Array MapEntry) (clock : Nat) : Option (Array MapEntry × Nat) :=
  match Instr.findNow dd key es.toList 0 with
  | some none => some (es.push ⟨key, val, clock⟩, clock + 1)
  | some (some (i, _)) => if Instr.sameBits 10000 (((es[i]?).map (·.key)).getD key) key = true then some (es.modify i fun e => { e with key := key, val := val }, clock) else none
  | none => none
theorem mapUpdate_run {P : Program} {T K E : TypeId} {dd : TypeDesc} {b clock clock' : Nat} {es es' : Array MapEntry} {key val : Value} (hU : P.underlying T = some (.map K E)) (hK : P.underlying K = some dd) (hkey : IsKey dd key) (hput : putNow dd key val es clock = some (es', clock')) {w : World} (hb : w.heap[b]? = some (.map es clock)) :
    (Instr.mapUpdate T (.map (some b)) key val).run P w = .ok () (w.putObj b (.map es' clock')) := by
  unfold putNow at hput
  unfold Instr.mapUpdate
  simp only [Sem.run_bind, run_underlying hU, MapKept.run_getObj_map hb, MapKept.run_checkKey hK hkey, Result.andThen_ok]
  split at hput
  · rename_i hf
    simp only [Option.some.injEq, Prod.mk.injEq] at hput
    obtain ⟨rfl, rfl⟩ := hput
    simp only [MapKept.run_findKey hK hf, Result.andThen_ok, MapKept.run_setObj_map _ hb]
    rfl
  · rename_i i v hf
    split at hput
    · rename_i hs
      simp only [Option.some.injEq, Prod.mk.injEq] at hput
      obtain ⟨rfl, rfl⟩ := hput
      simp only [MapKept.run_findKey hK hf, Result.andThen_ok, Instr.keyThatStays, hs, if_true, Sem.run_bind, Sem.run_pure, MapKept.run_setObj_map _ hb]
      rfl
    · cases hput
  · cases hput
/-- What a look-up answers. -/
def lookV (z : Value) (ok : Bool) (r : Option (Nat × Value)) : Value := match r with
  | some (_, v) => if ok then .tuple #[v, .bool true] else v
  | none => if ok then .tuple #[z, .bool false] else z
theorem lookup_run {P : Program} {T K E n : TypeId} {z : Value} {dd : TypeDesc} {b clock : Nat} {es : Array MapEntry} {key : Value} {r : Option (Nat × Value)} (hU : P.underlying T = some (.map K E)) (hK : P.underlying K = some dd) (hI : InfoI P E n z) (hkey : IsKey dd key) (hf : Instr.findNow dd key es.toList 0 = some r) (ok : Bool) {w : World} (hb : w.heap[b]? = some (.map es clock)) :
    (Instr.lookup T (.map (some b)) key ok).run P w = .ok (lookV z ok r) w := by
  unfold lookV
  unfold Instr.lookup
  simp only [Sem.run_bind, run_underlying hU, MapKept.run_getObj_map hb, Sem.run_pure, MapKept.run_checkKey hK hkey, Result.andThen_ok, MapKept.run_findKey hK hf]
  cases r with
  | none => simp only [Sem.run_bind, run_zero, Result.andThen_ok, Sem.run_pure]
  | some x => simp only [Sem.run_bind, Result.andThen_ok, Sem.run_pure]
section lw
variable {C : Cu} {ops : Array Oper} {Q : Post} {rest : List Oper} {e : Env} {fs fs' : Fs} {d : Nat} {t : TypeId} {pos : String} {af : Array Edge}
theorem LW.makeMap {T : TypeId} (hd : Nat.blt d C.N = true) (k : ∀ b, LW C ops Q rest ((d, .map (some b)) :: e) ((b, .map #[] 0) :: fs)) : LW C ops Q (⟨some d, .makeMap T none, t, pos, af, none⟩ :: rest) e fs :=
  LW.new (s := .mp) hd (fun c h => by cases h) (fun a w hs => by
    have h : (Instr.makeMap T none).run C.P w = .ok (.map (some w.heap.size)) (w.alloc (.map #[] 0)) := rfl
    simp [execOp, h, Sh.val]) k
theorem LW.makeMapN {T K E : TypeId} {x : Operand} {ik : IntKind} {n : Int} (hd : Nat.blt d C.N = true) (hU : UnI C.P T (.map K E)) (hx : e.ev x = some (.int ik n)) (k : ∀ b, LW C ops Q rest ((d, .map (some b)) :: e) ((b, .map #[] 0) :: fs)) : LW C ops Q (⟨some d, .makeMap T (some x), t, pos, af, none⟩ :: rest) e fs :=
  LW.new (s := .mp) hd (fun c h => by cases h) (fun a w hs => by
    have hu := hU.un
    have h : (Instr.makeMap T (some (.int ik n))).run C.P w = .ok (.map (some w.heap.size)) (w.alloc (.map #[] 0)) := by
      simp only [Instr.makeMap, Sem.run_bind, run_underlying hu, Result.andThen_ok]
      rfl
    simp [execOp, hs.env.ev hx, h, Sh.val]) k
theorem LW.mapPut {T K E : TypeId} {dd : TypeDesc} {xm xk xv : Operand} {b clock clock' : Nat} {es es' : Array MapEntry} {key val : Value} (hU : UnI C.P T (.map K E)) (hK : UnI C.P K dd) (hm : e.ev xm = some (.map (some b))) (hk : e.ev xk = some key) (hv : e.ev xv = some val) (hset : SetAt fs b (.map es clock) (.map es' clock') fs')
    (hkey : IsKey dd key) (hput : putNow dd key val es clock = some (es', clock')) (k : LW C ops Q rest e fs') : LW C ops Q (⟨none, .mapUpdate T xm xk xv, t, pos, af, none⟩ :: rest) e fs :=
  LW.s0 rfl hset (fun ρ w hρ hb d t pos af g => by simp [execOp, hρ _ _ hm, hρ _ _ hk, hρ _ _ hv, mapUpdate_run hU.un hK.un hkey hput hb]) k
theorem LW.mapIns {T K E : TypeId} {dd : TypeDesc} {xm xk xv : Operand} {b clock clock' : Nat} {es es' : Array MapEntry} {key val : Value} (hU : UnI C.P T (.map K E)) (hK : UnI C.P K dd) (hm : e.ev xm = some (.map (some b))) (hk : e.ev xk = some key) (hv : e.ev xv = some val) (hset : SetAt fs b (.map es clock) (.map es' clock') fs')
    (hkey : IsKey dd key) (hput : putNow dd key val es clock = some (es', clock')) (k : LW C ops Q rest e fs') : LW C ops Q (⟨none, .insert T xm xk xv, t, pos, af, none⟩ :: rest) e fs :=
  LW.s0 rfl hset (fun ρ w hρ hb d t pos af g => by simp [execOp, hρ _ _ hm, hρ _ _ hk, hρ _ _ hv, mapUpdate_run hU.un hK.un hkey hput hb]) k
theorem LW.mapGet {T K E n : TypeId} {z v : Value} {dd : TypeDesc} {xm xk : Operand} {b clock : Nat} {es : Array MapEntry} {key : Value} {r : Option (Nat × Value)} {ok : Bool} (hd : Nat.blt d C.N = true) (hU : UnI C.P T (.map K E)) (hK : UnI C.P K dd) (hI : InfoI C.P E n z) (hm : e.ev xm = some (.map (some b))) (hk : e.ev xk = some key) (hp : Known C fs (b, .map es clock))
    (hkey : IsKey dd key) (hf : Instr.findNow dd key es.toList 0 = some r) (hv : lookV z ok r = v) (k : LW C ops Q rest ((d, v) :: e) fs) : LW C ops Q (⟨some d, .lookup T xm xk ok, t, pos, af, none⟩ :: rest) e fs :=
  LW.val hd (fun c h => by cases h) (fun a w hs => by
    have h := lookup_run (P := C.P) hU.un hK.un hI hkey hf ok (hp.get hs.st)
    simp only [hv] at h
    simp [execOp, hs.env.ev hm, hs.env.ev hk, h]) k
end lw
end Go.Proofs.YthhalnmbfokbbaaDoor.SL

/-
  A SMALL LOGIC OVER THE KIT's WALK, PART Y: structs built and read; arrays cut whole.
  Conditions: none; over any program.
-/
namespace Go.Proofs.YthhalnmbfokbbaaDoor.SL
set_option linter.unusedVariables false
set_option linter.unusedSimpArgs false
open Go Go.RowKit
theorem mapM_sizes {P : Program} {w : World} : ∀ (fs : List Field) (pl : List (Nat × Nat)), (fs.mapM fun f => (P.info? f.type).map fun i => (f.offset, i.size)) = some pl →
    (fs.mapM fun f => (do pure (f.offset, ← sizeOf f.type) : Sem (Nat × Nat))).run P w = .ok pl w
  | [], pl, h => by simp at h; subst h; rfl
  | f :: fs, pl, h => by
    rw [List.mapM_cons] at h ⊢
    cases hi : P.info? f.type with
    | none => rw [hi] at h; cases h
    | some i =>
      rw [hi] at h
      cases hr : (fs.mapM fun f => (P.info? f.type).map fun i => (f.offset, i.size)) with
      | none => rw [hr] at h; cases h
      | some r =>
        rw [hr] at h
        have ih := mapM_sizes (P := P) (w := w) fs r hr
        have he : pl = (f.offset, i.size) :: r := by simpa using h.symm
        subst he
        have hs : (sizeOf f.type).run P w = .ok i.size w := by simp [sizeOf, typeInfo, Sem.run_bind, hi]
        simp only [Sem.run_bind, hs, Result.andThen_ok, Sem.run_pure, ih]
def fillP (pl : List (Nat × Nat)) : Array Value → List (Nat × Value) → Array Value
  | z, [] => z
  | z, (i, v) :: r => match pl[i]? with
    | some (off, _) => fillP pl (wrCells z off v.cells.toList) r
    | none => z
def fillPok (pl : List (Nat × Nat)) (len : Nat) : List (Nat × Value) → Bool
  | [] => true
  | (i, v) :: r => match pl[i]? with
    | some (off, n) => Nat.beq v.cells.size n && Nat.ble (off + n) len && fillPok pl len r
    | none => false
theorem fillP_eq {pl : List (Nat × Nat)} : ∀ (parts : List (Nat × Value)) (z : Array Value), fillPok pl z.size parts = true → Instr.fill (pl[·]?) z parts = some (fillP pl z parts)
  | [], z, _ => rfl
  | (i, v) :: r, z, h => by
    unfold fillPok at h
    unfold Instr.fill fillP
    cases hp : pl[i]? with
    | none => rw [hp] at h; cases h
    | some q =>
      obtain ⟨off, n⟩ := q
      rw [hp] at h
      simp only [Bool.and_eq_true, Nat.beq_eq] at h
      obtain ⟨⟨h1, h2⟩, h3⟩ := h
      have h2 := Nat.le_of_ble_eq_true h2
      have hf : (v.cells.zipIdx.foldl (fun cs (p : Value × Nat) => cs.setIfInBounds (off + p.2) p.1) z) = wrCells z off v.cells.toList := by
        have := foldl_wr v.cells.toList z off 0
        rw [← Array.foldl_toList]
        simpa using this
      have ih := fillP_eq (pl := pl) r (wrCells z off v.cells.toList) (by rw [wrCells_size]; exact h3)
      simp only
      rw [if_neg (by simp [h1]; omega)]
      exact (congrArg (fun q => Instr.fill (pl[·]?) q r) hf).trans ih
section st
variable {P : Program} {e : Env} {T : TypeId} {x : Operand}
theorem ValP.buildT {nT : Nat} {z : Array Value} {parts : Array (Nat × Operand)} {pl : List (Nat × Nat)} {vs : List (Nat × Value)} {c : Array Value} (hS : StrI P T pl) (hI : InfoI P T nT (.agg z)) (hp : PartsOk e parts.toList vs)
    (hok : fillPok pl z.size vs = true) (hcc : fillP pl z vs = c) : ValP P e [] (.build T parts) (.agg c) := fun ρ w hρ _ d t pos af g => by
  have hc : Instr.fill (pl[·]?) z vs = some c := by rw [fillP_eq vs z hok, hcc]
  have h1 : (parts.map fun p => (p.1, ρ p.2)).toList = vs := by simpa using hp.map hρ
  have h2 : (Value.agg z).cells = z := rfl
  have hs := hS.str
  unfold strOf at hs
  split at hs
  · rename_i fs hu
    have hm := mapM_sizes (P := P) (w := w) fs.toList pl hs
    have hm2 : (fs.mapM fun f => (do pure (f.offset, ← sizeOf f.type) : Sem (Nat × Nat))).run P w = .ok pl.toArray w := by
      rw [Array.mapM_eq_mapM_toList]
      show ((fs.toList.mapM fun f => (do pure (f.offset, ← sizeOf f.type) : Sem (Nat × Nat))) >>= fun l => pure l.toArray).run P w = _
      simp only [Sem.run_bind, hm, Result.andThen_ok, Sem.run_pure]
    have h4 : (Instr.build T (parts.map fun p => (p.1, ρ p.2))).run P w = .ok (.agg c) w := by
      unfold Instr.build
      simp only [Sem.run_bind, run_zero, Result.andThen_ok, run_underlying hu, hm2, h1, h2]
      have : Instr.fill (fun i => pl.toArray[i]?) z vs = some c := by simpa using hc
      simp only [this, Sem.run_pure]
    simp only [execOp]
    exact (show ((do pure (.value (← Instr.build T (parts.map fun p => (p.1, ρ p.2)))) : Sem Next)).run P w = .ok (.value (.agg c)) w by simp [h4])
  · cases hs
/-- A field of one cell. -/
theorem ValP.field1 {i fo : Nat} {ft : TypeId} {cs : Array Value} {v : Value} (hF : FldI P T i fo ft) (hA : AgI P ft false) (hx : e.ev x = some (.agg cs)) (hv : nth cs.toList fo = some v) : ValP P e [] (.field T x i) v := fun ρ w hρ _ d t pos af g => by
  obtain ⟨fs, f, h1, h2, h3, h4⟩ := hF.fld
  subst h3; subst h4
  have h5 : cs[f.offset]? = some v := by rw [nth_eq] at hv; simpa using hv
  simp [execOp, hρ x _ hx, Instr.field, Sem.run_bind, run_underlying h1, h2, asAgg, part, run_isAgg, h5]
/-- A field of parts. -/
theorem ValP.fieldA {i fo n : Nat} {ft : TypeId} {cs c : Array Value} {z : Value} (hF : FldI P T i fo ft) (hA : AgI P ft true) (hI : InfoI P ft n z) (hx : e.ev x = some (.agg cs)) (hv : cs.extract fo (fo + n) = c) : ValP P e [] (.field T x i) (.agg c) := fun ρ w hρ _ d t pos af g => by
  obtain ⟨fs, f, h1, h2, h3, h4⟩ := hF.fld
  subst h3; subst h4
  simp [execOp, hρ x _ hx, Instr.field, Sem.run_bind, run_underlying h1, h2, asAgg, part, run_isAgg, run_size, hv]
/-- arr[:] of an array's address. -/
theorem ValP.cutArrAll {n sz b off : Nat} {E : TypeId} {z : Value} (hU : UnI P T (.array n E)) (hI : InfoI P E sz z) (hx : e.ev x = some (.pointer (some ⟨b, off, none⟩))) : ValP P e [] (.slice T x none none none) (.slice (some ⟨b, off, none⟩) n n) := fun ρ w hρ _ d t pos af g => by
  have hu := hU.un
  have h1 : (Instr.sliceAt T (.pointer (some ⟨b, off, none⟩)) none none none).run P w = .ok (.slice (some ⟨b, off, none⟩) n n) w := by
    have hal : P.arrayLen T = n := by rw [Program.arrayLen, hu]
    have hel : P.elem T = E := by rw [Program.elem, hu]
    have h2 := run_sliceAt_array_all (P := P) w T ⟨b, off, none⟩ (by rw [hal, hel]; exact hu)
    rw [hel, run_size, hal] at h2
    rw [h2]
    simp only [Result.andThen_ok, slicedAt, Nat.zero_mul, Nat.sub_zero]
    simp [Addr.add]
  simp [execOp, hρ x _ hx, h1]
end st
/-- Elements of a row of some parts. -/
theorem row_of {α : Type} {g : α → List Value} {E : TypeId} {sz : Nat} {b : Nat} {l : List α} {w0 w : World} {S : List Nat} {fs : Fs} (hg : ∀ a ∈ l, (g a).length = sz) (hl : l.length ≤ maxLen) : IsRow E sz (.slice (some ⟨b, 0, none⟩) l.length l.length) l.length (l.flatMap g) [(b, .cells (l.flatMap g).toArray E (0, 0))] :=
  .own (Nat.le_refl _) hl (by rw [List.size_toArray, flat_len hg]) (by rw [← flat_len hg]; exact List.take_length) (flat_len hg)
end Go.Proofs.YthhalnmbfokbbaaDoor.SL

/-
  A SMALL LOGIC OVER THE KIT's WALK, PART Z: slices laid of many; rows of numbers.
  Conditions: none; over any program.
-/
namespace Go.Proofs.YthhalnmbfokbbaaDoor.SL
set_option linter.unusedVariables false
set_option linter.unusedSimpArgs false
open Go Go.RowKit
theorem NewP.buildSN {P : Program} {e : Env} {T E size len : Nat} {z : Value} {parts : Array (Nat × Operand)} {vs : List (Nat × Value)} {c : Array Value} (hU : UnI P T (.slice E)) (hI : InfoI P E size z) (hp : PartsOk e parts.toList vs) (hl : Nat.blt 0 (len * size) = true) (hl' : Nat.ble (len * size) 1000000 = true)
    (hok : fillOk size ((Array.range (len * size)).map (z.cells[· % z.cells.size]!)).size vs = true) (hc : fillC size ((Array.range (len * size)).map (z.cells[· % z.cells.size]!)) vs = c) : NewP P e (.buildSlice T len parts) (.sl len len) (.cells c E (0, 0)) := fun ρ w hρ d t pos af g => by
  have h0 : 0 < len * size := by simpa [Nat.blt_eq] using hl
  have h1 := Nat.le_of_ble_eq_true hl'
  have hf := fill_eq (sz := size) vs _ hok
  rw [hc] at hf
  have hpm : (parts.map fun p => (p.1, ρ p.2)).toList = vs := by simpa using hp.map hρ
  have hr : (Instr.buildSlice T len (parts.map fun p => (p.1, ρ p.2))).run P w = .ok ((Sh.sl len len).val w.heap.size) (w.alloc (.cells c E (0, 0))) := by
    unfold Instr.buildSlice
    simp only [Sem.run_bind, run_un, run_size, Result.andThen_ok]
    have hne : ¬ (len * size > 2 ^ 24) := by omega
    have hnz : ¬ (len * size = 0) := by omega
    simp only [hne, hnz, if_false, Sem.run_bind, run_zero, Result.andThen_ok, Sem.run_pure, hpm, hf]
    simp [newRow, Sh.val]
  simp only [execOp]
  exact (show ((do pure (.value (← Instr.buildSlice T len (parts.map fun p => (p.1, ρ p.2)))) : Sem Next)).run P w = _ by simp only [Sem.run_bind, hr]; rfl)
/-- The cells of numbers. -/
def ncs (l : List Nat) : List Value := l.flatMap fun (x : Nat) => [Value.int .u64 (x : Int)]
theorem ncs_one (l : List Nat) : ∀ x ∈ l, ([Value.int .u64 (x : Int)] : List Value).length = 1 := fun _ _ => rfl
theorem ncs_map (l : List Nat) : ncs l = l.map fun (x : Nat) => Value.int .u64 (x : Int) := by
  induction l with
  | nil => rfl
  | cons a l ih => simp [ncs] at *; exact ih
theorem ncs_len (l : List Nat) : (ncs l).length = l.length := by rw [ncs_map, List.length_map]
theorem ncs_take (l : List Nat) (k : Nat) : (ncs l).take (k * 1) = ncs (l.take k) := by rw [ncs_map, ncs_map, Nat.mul_one, List.map_take]
theorem ncs_drop (l : List Nat) (k : Nat) : (ncs l).drop (k * 1) = ncs (l.drop k) := by rw [ncs_map, ncs_map, Nat.mul_one, List.map_drop]
theorem is_num {w : World} {cs : List Value} (h : (Ty.int .u64).is w cs) : ∃ x : Nat, x < 18446744073709551616 ∧ cs = [Value.int .u64 (x : Int)] := by
  obtain ⟨n, rfl, hn⟩ := h
  obtain ⟨k, rfl, hk⟩ := wf_u64 hn
  exact ⟨k, hk, rfl⟩
/-- A whole block read as a row. -/
theorem row_cells {w : World} {b n sz : Nat} {cs : Array Value} {E : TypeId} {fr : Nat × Nat} {xs : List Value} (hb : w.heap[b]? = some (.cells cs E fr)) (hx : cs.toList = xs) (hl : xs.length = n * sz) (hn : n ≤ maxLen) : RowAt w sz (.slice (some ⟨b, 0, none⟩) n n) n xs :=
  ⟨⟨_, _, rfl, Nat.le_refl _, hn⟩, hl, fun _ => ⟨b, 0, n, cs, E, fr, rfl, hb, by rw [List.drop_zero, hx, ← hl]; exact List.take_length⟩, .own hb⟩
end Go.Proofs.YthhalnmbfokbbaaDoor.SL

/-
  What is known of this seat's types and functions, as instances: made by program (wip/gen_inst.py) off the translation; each is proved by the kernel's reckoning.
  Conditions: none.
-/
namespace Go.Proofs.YthhalnmbfokbbaaDoor
open Go Go.RowKit SL

instance : AgI Tryd.prog 1 false := ⟨by kernel_rfl⟩
instance : InfoI Tryd.prog 1 1 (.nilFunc) := ⟨by kernel_rfl⟩
instance : BytI Tryd.prog 1 8 := ⟨by kernel_rfl⟩
instance : AgI Tryd.prog 2 false := ⟨by kernel_rfl⟩
instance : UnI Tryd.prog 2 (.int .i64) := ⟨by kernel_rfl⟩
instance : InfoI Tryd.prog 2 1 (.int .i64 0) := ⟨by kernel_rfl⟩
instance : BytI Tryd.prog 2 8 := ⟨by kernel_rfl⟩
instance : AgI Tryd.prog 3 false := ⟨by kernel_rfl⟩
instance : UnI Tryd.prog 3 (.int .i64) := ⟨by kernel_rfl⟩
instance : InfoI Tryd.prog 3 1 (.int .i64 0) := ⟨by kernel_rfl⟩
instance : BytI Tryd.prog 3 8 := ⟨by kernel_rfl⟩
instance : AgI Tryd.prog 4 false := ⟨by kernel_rfl⟩
instance : UnI Tryd.prog 4 (.bool) := ⟨by kernel_rfl⟩
instance : InfoI Tryd.prog 4 1 (.bool false) := ⟨by kernel_rfl⟩
instance : BytI Tryd.prog 4 1 := ⟨by kernel_rfl⟩
instance : AgI Tryd.prog 5 false := ⟨by kernel_rfl⟩
instance : UnI Tryd.prog 5 (.int .u8) := ⟨by kernel_rfl⟩
instance : InfoI Tryd.prog 5 1 (.int .u8 0) := ⟨by kernel_rfl⟩
instance : BytI Tryd.prog 5 1 := ⟨by kernel_rfl⟩
instance : AgI Tryd.prog 6 false := ⟨by kernel_rfl⟩
instance : UnI Tryd.prog 6 (.int .u8) := ⟨by kernel_rfl⟩
instance : InfoI Tryd.prog 6 1 (.int .u8 0) := ⟨by kernel_rfl⟩
instance : BytI Tryd.prog 6 1 := ⟨by kernel_rfl⟩
instance : AgI Tryd.prog 7 true := ⟨by kernel_rfl⟩
instance : InfoI Tryd.prog 7 4 (.agg #[.int .i64 0, .int .i64 0, .bool false, .int .u8 0]) := ⟨by kernel_rfl⟩
instance : BytI Tryd.prog 7 24 := ⟨by kernel_rfl⟩
instance : StrI Tryd.prog 7 [(0, 1), (1, 1), (2, 1), (3, 1)] := ⟨by kernel_rfl⟩
instance : FldI Tryd.prog 7 0 0 2 := .mk' (by kernel_rfl)
instance : FldI Tryd.prog 7 1 1 3 := .mk' (by kernel_rfl)
instance : FldI Tryd.prog 7 2 2 4 := .mk' (by kernel_rfl)
instance : FldI Tryd.prog 7 3 3 6 := .mk' (by kernel_rfl)
instance : AgI Tryd.prog 8 true := ⟨by kernel_rfl⟩
instance : InfoI Tryd.prog 8 4 (.agg #[.int .i64 0, .int .i64 0, .bool false, .int .u8 0]) := ⟨by kernel_rfl⟩
instance : BytI Tryd.prog 8 24 := ⟨by kernel_rfl⟩
instance : StrI Tryd.prog 8 [(0, 1), (1, 1), (2, 1), (3, 1)] := ⟨by kernel_rfl⟩
instance : FldI Tryd.prog 8 0 0 2 := .mk' (by kernel_rfl)
instance : FldI Tryd.prog 8 1 1 3 := .mk' (by kernel_rfl)
instance : FldI Tryd.prog 8 2 2 4 := .mk' (by kernel_rfl)
instance : FldI Tryd.prog 8 3 3 6 := .mk' (by kernel_rfl)
instance : AgI Tryd.prog 9 false := ⟨by kernel_rfl⟩
instance : UnI Tryd.prog 9 (.string) := ⟨by kernel_rfl⟩
instance : InfoI Tryd.prog 9 1 (.string ⟨#[]⟩) := ⟨by kernel_rfl⟩
instance : BytI Tryd.prog 9 16 := ⟨by kernel_rfl⟩
instance : AgI Tryd.prog 10 false := ⟨by kernel_rfl⟩
instance : UnI Tryd.prog 10 (.string) := ⟨by kernel_rfl⟩
instance : InfoI Tryd.prog 10 1 (.string ⟨#[]⟩) := ⟨by kernel_rfl⟩
instance : BytI Tryd.prog 10 16 := ⟨by kernel_rfl⟩
instance : AgI Tryd.prog 11 false := ⟨by kernel_rfl⟩
instance : UnI Tryd.prog 11 (.string) := ⟨by kernel_rfl⟩
instance : InfoI Tryd.prog 11 1 (.string ⟨#[]⟩) := ⟨by kernel_rfl⟩
instance : BytI Tryd.prog 11 16 := ⟨by kernel_rfl⟩
instance : AgI Tryd.prog 12 false := ⟨by kernel_rfl⟩
instance : UnI Tryd.prog 12 (.int .u64) := ⟨by kernel_rfl⟩
instance : InfoI Tryd.prog 12 1 (.int .u64 0) := ⟨by kernel_rfl⟩
instance : BytI Tryd.prog 12 8 := ⟨by kernel_rfl⟩
instance : AgI Tryd.prog 13 true := ⟨by kernel_rfl⟩
instance : InfoI Tryd.prog 13 2 (.agg #[.string ⟨#[]⟩, .int .u64 0]) := ⟨by kernel_rfl⟩
instance : BytI Tryd.prog 13 24 := ⟨by kernel_rfl⟩
instance : StrI Tryd.prog 13 [(0, 1), (1, 1)] := ⟨by kernel_rfl⟩
instance : FldI Tryd.prog 13 0 0 9 := .mk' (by kernel_rfl)
instance : FldI Tryd.prog 13 1 1 12 := .mk' (by kernel_rfl)
instance : AgI Tryd.prog 14 true := ⟨by kernel_rfl⟩
instance : InfoI Tryd.prog 14 2 (.agg #[.string ⟨#[]⟩, .int .u64 0]) := ⟨by kernel_rfl⟩
instance : BytI Tryd.prog 14 24 := ⟨by kernel_rfl⟩
instance : StrI Tryd.prog 14 [(0, 1), (1, 1)] := ⟨by kernel_rfl⟩
instance : FldI Tryd.prog 14 0 0 9 := .mk' (by kernel_rfl)
instance : FldI Tryd.prog 14 1 1 12 := .mk' (by kernel_rfl)
instance : AgI Tryd.prog 15 false := ⟨by kernel_rfl⟩
instance : UnI Tryd.prog 15 (.pointer 106) := ⟨by kernel_rfl⟩
instance : InfoI Tryd.prog 15 1 (.pointer none) := ⟨by kernel_rfl⟩
instance : BytI Tryd.prog 15 8 := ⟨by kernel_rfl⟩
instance : AgI Tryd.prog 16 false := ⟨by kernel_rfl⟩
instance : UnI Tryd.prog 16 (.pointer 109) := ⟨by kernel_rfl⟩
instance : InfoI Tryd.prog 16 1 (.pointer none) := ⟨by kernel_rfl⟩
instance : BytI Tryd.prog 16 8 := ⟨by kernel_rfl⟩
instance : AgI Tryd.prog 17 false := ⟨by kernel_rfl⟩
instance : UnI Tryd.prog 17 (.pointer 118) := ⟨by kernel_rfl⟩
instance : InfoI Tryd.prog 17 1 (.pointer none) := ⟨by kernel_rfl⟩
instance : BytI Tryd.prog 17 8 := ⟨by kernel_rfl⟩
instance : AgI Tryd.prog 18 true := ⟨by kernel_rfl⟩
instance : InfoI Tryd.prog 18 1 (.agg #[.pointer none]) := ⟨by kernel_rfl⟩
instance : BytI Tryd.prog 18 8 := ⟨by kernel_rfl⟩
instance : StrI Tryd.prog 18 [(0, 1)] := ⟨by kernel_rfl⟩
instance : FldI Tryd.prog 18 0 0 17 := .mk' (by kernel_rfl)
instance : AgI Tryd.prog 19 true := ⟨by kernel_rfl⟩
instance : InfoI Tryd.prog 19 1 (.agg #[.pointer none]) := ⟨by kernel_rfl⟩
instance : BytI Tryd.prog 19 8 := ⟨by kernel_rfl⟩
instance : StrI Tryd.prog 19 [(0, 1)] := ⟨by kernel_rfl⟩
instance : FldI Tryd.prog 19 0 0 17 := .mk' (by kernel_rfl)
instance : AgI Tryd.prog 20 false := ⟨by kernel_rfl⟩
instance : InfoI Tryd.prog 20 1 (.nilIface) := ⟨by kernel_rfl⟩
instance : BytI Tryd.prog 20 16 := ⟨by kernel_rfl⟩
instance : AgI Tryd.prog 21 false := ⟨by kernel_rfl⟩
instance : UnI Tryd.prog 21 (.int .i32) := ⟨by kernel_rfl⟩
instance : InfoI Tryd.prog 21 1 (.int .i32 0) := ⟨by kernel_rfl⟩
instance : BytI Tryd.prog 21 4 := ⟨by kernel_rfl⟩
instance : AgI Tryd.prog 22 false := ⟨by kernel_rfl⟩
instance : UnI Tryd.prog 22 (.slice 5) := ⟨by kernel_rfl⟩
instance : InfoI Tryd.prog 22 1 (.slice none 0 0) := ⟨by kernel_rfl⟩
instance : BytI Tryd.prog 22 24 := ⟨by kernel_rfl⟩
instance : AgI Tryd.prog 23 false := ⟨by kernel_rfl⟩
instance : InfoI Tryd.prog 23 1 (.nilFunc) := ⟨by kernel_rfl⟩
instance : BytI Tryd.prog 23 8 := ⟨by kernel_rfl⟩
instance : AgI Tryd.prog 24 false := ⟨by kernel_rfl⟩
instance : UnI Tryd.prog 24 (.int .u64) := ⟨by kernel_rfl⟩
instance : InfoI Tryd.prog 24 1 (.int .u64 0) := ⟨by kernel_rfl⟩
instance : BytI Tryd.prog 24 8 := ⟨by kernel_rfl⟩
instance : AgI Tryd.prog 25 false := ⟨by kernel_rfl⟩
instance : UnI Tryd.prog 25 (.int .i64) := ⟨by kernel_rfl⟩
instance : InfoI Tryd.prog 25 1 (.int .i64 0) := ⟨by kernel_rfl⟩
instance : BytI Tryd.prog 25 8 := ⟨by kernel_rfl⟩
instance : AgI Tryd.prog 27 false := ⟨by kernel_rfl⟩
instance : InfoI Tryd.prog 27 1 (.nilFunc) := ⟨by kernel_rfl⟩
instance : BytI Tryd.prog 27 8 := ⟨by kernel_rfl⟩
instance : AgI Tryd.prog 29 false := ⟨by kernel_rfl⟩
instance : InfoI Tryd.prog 29 1 (.nilFunc) := ⟨by kernel_rfl⟩
instance : BytI Tryd.prog 29 8 := ⟨by kernel_rfl⟩
instance : AgI Tryd.prog 30 false := ⟨by kernel_rfl⟩
instance : InfoI Tryd.prog 30 1 (.nilFunc) := ⟨by kernel_rfl⟩
instance : BytI Tryd.prog 30 8 := ⟨by kernel_rfl⟩
instance : AgI Tryd.prog 31 false := ⟨by kernel_rfl⟩
instance : UnI Tryd.prog 31 (.slice 24) := ⟨by kernel_rfl⟩
instance : InfoI Tryd.prog 31 1 (.slice none 0 0) := ⟨by kernel_rfl⟩
instance : BytI Tryd.prog 31 24 := ⟨by kernel_rfl⟩
instance : AgI Tryd.prog 32 false := ⟨by kernel_rfl⟩
instance : InfoI Tryd.prog 32 1 (.nilFunc) := ⟨by kernel_rfl⟩
instance : BytI Tryd.prog 32 8 := ⟨by kernel_rfl⟩
instance : AgI Tryd.prog 33 false := ⟨by kernel_rfl⟩
instance : InfoI Tryd.prog 33 1 (.nilFunc) := ⟨by kernel_rfl⟩
instance : BytI Tryd.prog 33 8 := ⟨by kernel_rfl⟩
instance : AgI Tryd.prog 34 false := ⟨by kernel_rfl⟩
instance : InfoI Tryd.prog 34 1 (.nilFunc) := ⟨by kernel_rfl⟩
instance : BytI Tryd.prog 34 8 := ⟨by kernel_rfl⟩
instance : AgI Tryd.prog 35 false := ⟨by kernel_rfl⟩
instance : InfoI Tryd.prog 35 1 (.nilFunc) := ⟨by kernel_rfl⟩
instance : BytI Tryd.prog 35 8 := ⟨by kernel_rfl⟩
instance : AgI Tryd.prog 36 false := ⟨by kernel_rfl⟩
instance : InfoI Tryd.prog 36 1 (.nilFunc) := ⟨by kernel_rfl⟩
instance : BytI Tryd.prog 36 8 := ⟨by kernel_rfl⟩
instance : AgI Tryd.prog 37 false := ⟨by kernel_rfl⟩
instance : InfoI Tryd.prog 37 1 (.nilFunc) := ⟨by kernel_rfl⟩
instance : BytI Tryd.prog 37 8 := ⟨by kernel_rfl⟩
instance : AgI Tryd.prog 38 false := ⟨by kernel_rfl⟩
instance : UnI Tryd.prog 38 (.int .u64) := ⟨by kernel_rfl⟩
instance : InfoI Tryd.prog 38 1 (.int .u64 0) := ⟨by kernel_rfl⟩
instance : BytI Tryd.prog 38 8 := ⟨by kernel_rfl⟩
instance : AgI Tryd.prog 39 true := ⟨by kernel_rfl⟩
instance : UnI Tryd.prog 39 (.array 4 24) := ⟨by kernel_rfl⟩
instance : InfoI Tryd.prog 39 4 (.agg #[.int .u64 0, .int .u64 0, .int .u64 0, .int .u64 0]) := ⟨by kernel_rfl⟩
instance : BytI Tryd.prog 39 32 := ⟨by kernel_rfl⟩
instance : EqI Tryd.prog 39 4 .u64 := .mk' (by kernel_rfl)
instance : AgI Tryd.prog 40 true := ⟨by kernel_rfl⟩
instance : UnI Tryd.prog 40 (.array 4 24) := ⟨by kernel_rfl⟩
instance : InfoI Tryd.prog 40 4 (.agg #[.int .u64 0, .int .u64 0, .int .u64 0, .int .u64 0]) := ⟨by kernel_rfl⟩
instance : BytI Tryd.prog 40 32 := ⟨by kernel_rfl⟩
instance : EqI Tryd.prog 40 4 .u64 := .mk' (by kernel_rfl)
instance : AgI Tryd.prog 41 false := ⟨by kernel_rfl⟩
instance : InfoI Tryd.prog 41 1 (.nilFunc) := ⟨by kernel_rfl⟩
instance : BytI Tryd.prog 41 8 := ⟨by kernel_rfl⟩
instance : AgI Tryd.prog 43 false := ⟨by kernel_rfl⟩
instance : InfoI Tryd.prog 43 1 (.nilFunc) := ⟨by kernel_rfl⟩
instance : BytI Tryd.prog 43 8 := ⟨by kernel_rfl⟩
instance : AgI Tryd.prog 44 false := ⟨by kernel_rfl⟩
instance : InfoI Tryd.prog 44 1 (.nilFunc) := ⟨by kernel_rfl⟩
instance : BytI Tryd.prog 44 8 := ⟨by kernel_rfl⟩
instance : AgI Tryd.prog 45 false := ⟨by kernel_rfl⟩
instance : InfoI Tryd.prog 45 1 (.nilFunc) := ⟨by kernel_rfl⟩
instance : BytI Tryd.prog 45 8 := ⟨by kernel_rfl⟩
instance : AgI Tryd.prog 46 false := ⟨by kernel_rfl⟩
instance : InfoI Tryd.prog 46 1 (.nilFunc) := ⟨by kernel_rfl⟩
instance : BytI Tryd.prog 46 8 := ⟨by kernel_rfl⟩
instance : AgI Tryd.prog 47 false := ⟨by kernel_rfl⟩
instance : InfoI Tryd.prog 47 1 (.nilFunc) := ⟨by kernel_rfl⟩
instance : BytI Tryd.prog 47 8 := ⟨by kernel_rfl⟩
instance : AgI Tryd.prog 48 false := ⟨by kernel_rfl⟩
instance : UnI Tryd.prog 48 (.slice 51) := ⟨by kernel_rfl⟩
instance : InfoI Tryd.prog 48 1 (.slice none 0 0) := ⟨by kernel_rfl⟩
instance : BytI Tryd.prog 48 24 := ⟨by kernel_rfl⟩
instance : AgI Tryd.prog 49 false := ⟨by kernel_rfl⟩
instance : UnI Tryd.prog 49 (.slice 55) := ⟨by kernel_rfl⟩
instance : InfoI Tryd.prog 49 1 (.slice none 0 0) := ⟨by kernel_rfl⟩
instance : BytI Tryd.prog 49 24 := ⟨by kernel_rfl⟩
instance : AgI Tryd.prog 50 true := ⟨by kernel_rfl⟩
instance : InfoI Tryd.prog 50 9 (.agg #[.int .u64 0, .int .u64 0, .int .u64 0, .int .u64 0, .int .u64 0, .int .u64 0, .int .u64 0, .int .u64 0, .bool false]) := ⟨by kernel_rfl⟩
instance : BytI Tryd.prog 50 72 := ⟨by kernel_rfl⟩
instance : StrI Tryd.prog 50 [(0, 4), (4, 4), (8, 1)] := ⟨by kernel_rfl⟩
instance : FldI Tryd.prog 50 0 0 40 := .mk' (by kernel_rfl)
instance : FldI Tryd.prog 50 1 4 40 := .mk' (by kernel_rfl)
instance : FldI Tryd.prog 50 2 8 4 := .mk' (by kernel_rfl)
instance : AgI Tryd.prog 51 true := ⟨by kernel_rfl⟩
instance : InfoI Tryd.prog 51 9 (.agg #[.int .u64 0, .int .u64 0, .int .u64 0, .int .u64 0, .int .u64 0, .int .u64 0, .int .u64 0, .int .u64 0, .bool false]) := ⟨by kernel_rfl⟩
instance : BytI Tryd.prog 51 72 := ⟨by kernel_rfl⟩
instance : StrI Tryd.prog 51 [(0, 4), (4, 4), (8, 1)] := ⟨by kernel_rfl⟩
instance : FldI Tryd.prog 51 0 0 40 := .mk' (by kernel_rfl)
instance : FldI Tryd.prog 51 1 4 40 := .mk' (by kernel_rfl)
instance : FldI Tryd.prog 51 2 8 4 := .mk' (by kernel_rfl)
instance : AgI Tryd.prog 52 false := ⟨by kernel_rfl⟩
instance : InfoI Tryd.prog 52 1 (.nilFunc) := ⟨by kernel_rfl⟩
instance : BytI Tryd.prog 52 8 := ⟨by kernel_rfl⟩
instance : AgI Tryd.prog 53 false := ⟨by kernel_rfl⟩
instance : InfoI Tryd.prog 53 1 (.nilFunc) := ⟨by kernel_rfl⟩
instance : BytI Tryd.prog 53 8 := ⟨by kernel_rfl⟩
instance : AgI Tryd.prog 54 true := ⟨by kernel_rfl⟩
instance : InfoI Tryd.prog 54 3 (.agg #[.bool false, .bool false, .bool false]) := ⟨by kernel_rfl⟩
instance : BytI Tryd.prog 54 3 := ⟨by kernel_rfl⟩
instance : StrI Tryd.prog 54 [(0, 1), (1, 1), (2, 1)] := ⟨by kernel_rfl⟩
instance : FldI Tryd.prog 54 0 0 4 := .mk' (by kernel_rfl)
instance : FldI Tryd.prog 54 1 1 4 := .mk' (by kernel_rfl)
instance : FldI Tryd.prog 54 2 2 4 := .mk' (by kernel_rfl)
instance : AgI Tryd.prog 55 true := ⟨by kernel_rfl⟩
instance : InfoI Tryd.prog 55 3 (.agg #[.bool false, .bool false, .bool false]) := ⟨by kernel_rfl⟩
instance : BytI Tryd.prog 55 3 := ⟨by kernel_rfl⟩
instance : StrI Tryd.prog 55 [(0, 1), (1, 1), (2, 1)] := ⟨by kernel_rfl⟩
instance : FldI Tryd.prog 55 0 0 4 := .mk' (by kernel_rfl)
instance : FldI Tryd.prog 55 1 1 4 := .mk' (by kernel_rfl)
instance : FldI Tryd.prog 55 2 2 4 := .mk' (by kernel_rfl)
instance : AgI Tryd.prog 56 false := ⟨by kernel_rfl⟩
instance : InfoI Tryd.prog 56 1 (.nilFunc) := ⟨by kernel_rfl⟩
instance : BytI Tryd.prog 56 8 := ⟨by kernel_rfl⟩
instance : AgI Tryd.prog 57 false := ⟨by kernel_rfl⟩
instance : InfoI Tryd.prog 57 1 (.nilFunc) := ⟨by kernel_rfl⟩
instance : BytI Tryd.prog 57 8 := ⟨by kernel_rfl⟩
instance : AgI Tryd.prog 58 false := ⟨by kernel_rfl⟩
instance : InfoI Tryd.prog 58 1 (.nilFunc) := ⟨by kernel_rfl⟩
instance : BytI Tryd.prog 58 8 := ⟨by kernel_rfl⟩
instance : AgI Tryd.prog 59 false := ⟨by kernel_rfl⟩
instance : InfoI Tryd.prog 59 1 (.nilFunc) := ⟨by kernel_rfl⟩
instance : BytI Tryd.prog 59 8 := ⟨by kernel_rfl⟩
instance : AgI Tryd.prog 60 false := ⟨by kernel_rfl⟩
instance : UnI Tryd.prog 60 (.slice 61) := ⟨by kernel_rfl⟩
instance : InfoI Tryd.prog 60 1 (.slice none 0 0) := ⟨by kernel_rfl⟩
instance : BytI Tryd.prog 60 24 := ⟨by kernel_rfl⟩
instance : AgI Tryd.prog 61 true := ⟨by kernel_rfl⟩
instance : UnI Tryd.prog 61 (.array 2 40) := ⟨by kernel_rfl⟩
instance : InfoI Tryd.prog 61 8 (.agg #[.int .u64 0, .int .u64 0, .int .u64 0, .int .u64 0, .int .u64 0, .int .u64 0, .int .u64 0, .int .u64 0]) := ⟨by kernel_rfl⟩
instance : BytI Tryd.prog 61 64 := ⟨by kernel_rfl⟩
instance : AgI Tryd.prog 62 false := ⟨by kernel_rfl⟩
instance : InfoI Tryd.prog 62 1 (.nilFunc) := ⟨by kernel_rfl⟩
instance : BytI Tryd.prog 62 8 := ⟨by kernel_rfl⟩
instance : AgI Tryd.prog 63 true := ⟨by kernel_rfl⟩
instance : InfoI Tryd.prog 63 5 (.agg #[.int .u8 0, .string ⟨#[]⟩, .int .i64 0, .int .i64 0, .int .i64 0]) := ⟨by kernel_rfl⟩
instance : BytI Tryd.prog 63 48 := ⟨by kernel_rfl⟩
instance : StrI Tryd.prog 63 [(0, 1), (1, 1), (2, 1), (3, 1), (4, 1)] := ⟨by kernel_rfl⟩
instance : FldI Tryd.prog 63 0 0 5 := .mk' (by kernel_rfl)
instance : FldI Tryd.prog 63 1 1 9 := .mk' (by kernel_rfl)
instance : FldI Tryd.prog 63 2 2 3 := .mk' (by kernel_rfl)
instance : FldI Tryd.prog 63 3 3 3 := .mk' (by kernel_rfl)
instance : FldI Tryd.prog 63 4 4 3 := .mk' (by kernel_rfl)
instance : AgI Tryd.prog 64 true := ⟨by kernel_rfl⟩
instance : InfoI Tryd.prog 64 5 (.agg #[.int .u8 0, .string ⟨#[]⟩, .int .i64 0, .int .i64 0, .int .i64 0]) := ⟨by kernel_rfl⟩
instance : BytI Tryd.prog 64 48 := ⟨by kernel_rfl⟩
instance : StrI Tryd.prog 64 [(0, 1), (1, 1), (2, 1), (3, 1), (4, 1)] := ⟨by kernel_rfl⟩
instance : FldI Tryd.prog 64 0 0 5 := .mk' (by kernel_rfl)
instance : FldI Tryd.prog 64 1 1 9 := .mk' (by kernel_rfl)
instance : FldI Tryd.prog 64 2 2 3 := .mk' (by kernel_rfl)
instance : FldI Tryd.prog 64 3 3 3 := .mk' (by kernel_rfl)
instance : FldI Tryd.prog 64 4 4 3 := .mk' (by kernel_rfl)
instance : AgI Tryd.prog 66 false := ⟨by kernel_rfl⟩
instance : InfoI Tryd.prog 66 1 (.nilFunc) := ⟨by kernel_rfl⟩
instance : BytI Tryd.prog 66 8 := ⟨by kernel_rfl⟩
instance : AgI Tryd.prog 67 false := ⟨by kernel_rfl⟩
instance : UnI Tryd.prog 67 (.map 5 24) := ⟨by kernel_rfl⟩
instance : InfoI Tryd.prog 67 1 (.map none) := ⟨by kernel_rfl⟩
instance : BytI Tryd.prog 67 8 := ⟨by kernel_rfl⟩
instance : AgI Tryd.prog 68 false := ⟨by kernel_rfl⟩
instance : InfoI Tryd.prog 68 1 (.nilFunc) := ⟨by kernel_rfl⟩
instance : BytI Tryd.prog 68 8 := ⟨by kernel_rfl⟩
instance : AgI Tryd.prog 69 false := ⟨by kernel_rfl⟩
instance : InfoI Tryd.prog 69 1 (.nilFunc) := ⟨by kernel_rfl⟩
instance : BytI Tryd.prog 69 8 := ⟨by kernel_rfl⟩
instance : AgI Tryd.prog 70 false := ⟨by kernel_rfl⟩
instance : InfoI Tryd.prog 70 1 (.nilFunc) := ⟨by kernel_rfl⟩
instance : BytI Tryd.prog 70 8 := ⟨by kernel_rfl⟩
instance : AgI Tryd.prog 71 false := ⟨by kernel_rfl⟩
instance : InfoI Tryd.prog 71 1 (.nilFunc) := ⟨by kernel_rfl⟩
instance : BytI Tryd.prog 71 8 := ⟨by kernel_rfl⟩
instance : AgI Tryd.prog 72 false := ⟨by kernel_rfl⟩
instance : InfoI Tryd.prog 72 1 (.nilFunc) := ⟨by kernel_rfl⟩
instance : BytI Tryd.prog 72 8 := ⟨by kernel_rfl⟩
instance : AgI Tryd.prog 74 false := ⟨by kernel_rfl⟩
instance : InfoI Tryd.prog 74 1 (.nilFunc) := ⟨by kernel_rfl⟩
instance : BytI Tryd.prog 74 8 := ⟨by kernel_rfl⟩
instance : AgI Tryd.prog 75 false := ⟨by kernel_rfl⟩
instance : InfoI Tryd.prog 75 1 (.nilFunc) := ⟨by kernel_rfl⟩
instance : BytI Tryd.prog 75 8 := ⟨by kernel_rfl⟩
instance : AgI Tryd.prog 76 false := ⟨by kernel_rfl⟩
instance : UnI Tryd.prog 76 (.slice 64) := ⟨by kernel_rfl⟩
instance : InfoI Tryd.prog 76 1 (.slice none 0 0) := ⟨by kernel_rfl⟩
instance : BytI Tryd.prog 76 24 := ⟨by kernel_rfl⟩
instance : AgI Tryd.prog 77 false := ⟨by kernel_rfl⟩
instance : InfoI Tryd.prog 77 1 (.nilFunc) := ⟨by kernel_rfl⟩
instance : BytI Tryd.prog 77 8 := ⟨by kernel_rfl⟩
instance : AgI Tryd.prog 78 false := ⟨by kernel_rfl⟩
instance : InfoI Tryd.prog 78 1 (.nilFunc) := ⟨by kernel_rfl⟩
instance : BytI Tryd.prog 78 8 := ⟨by kernel_rfl⟩
instance : AgI Tryd.prog 79 false := ⟨by kernel_rfl⟩
instance : InfoI Tryd.prog 79 1 (.nilFunc) := ⟨by kernel_rfl⟩
instance : BytI Tryd.prog 79 8 := ⟨by kernel_rfl⟩
instance : AgI Tryd.prog 81 false := ⟨by kernel_rfl⟩
instance : UnI Tryd.prog 81 (.slice 3) := ⟨by kernel_rfl⟩
instance : InfoI Tryd.prog 81 1 (.slice none 0 0) := ⟨by kernel_rfl⟩
instance : BytI Tryd.prog 81 24 := ⟨by kernel_rfl⟩
instance : AgI Tryd.prog 82 false := ⟨by kernel_rfl⟩
instance : InfoI Tryd.prog 82 1 (.nilFunc) := ⟨by kernel_rfl⟩
instance : BytI Tryd.prog 82 8 := ⟨by kernel_rfl⟩
instance : AgI Tryd.prog 83 false := ⟨by kernel_rfl⟩
instance : InfoI Tryd.prog 83 1 (.nilFunc) := ⟨by kernel_rfl⟩
instance : BytI Tryd.prog 83 8 := ⟨by kernel_rfl⟩
instance : AgI Tryd.prog 84 false := ⟨by kernel_rfl⟩
instance : InfoI Tryd.prog 84 1 (.nilFunc) := ⟨by kernel_rfl⟩
instance : BytI Tryd.prog 84 8 := ⟨by kernel_rfl⟩
instance : AgI Tryd.prog 85 false := ⟨by kernel_rfl⟩
instance : InfoI Tryd.prog 85 1 (.nilFunc) := ⟨by kernel_rfl⟩
instance : BytI Tryd.prog 85 8 := ⟨by kernel_rfl⟩
instance : AgI Tryd.prog 86 false := ⟨by kernel_rfl⟩
instance : InfoI Tryd.prog 86 1 (.nilFunc) := ⟨by kernel_rfl⟩
instance : BytI Tryd.prog 86 8 := ⟨by kernel_rfl⟩
instance : AgI Tryd.prog 87 true := ⟨by kernel_rfl⟩
instance : UnI Tryd.prog 87 (.array 50 64) := ⟨by kernel_rfl⟩
instance : InfoI Tryd.prog 87 250 (.agg #[.int .u8 0, .string ⟨#[]⟩, .int .i64 0, .int .i64 0, .int .i64 0, .int .u8 0, .string ⟨#[]⟩, .int .i64 0, .int .i64 0, .int .i64 0, .int .u8 0, .string ⟨#[]⟩, .int .i64 0, .int .i64 0, .int .i64 0, .int .u8 0, .string ⟨#[]⟩, .int .i64 0, .int .i64 0, .int .i64 0, .int .u8 0, .string ⟨#[]⟩, .int .i64 0, .int .i64 0, .int .i64 0, .int .u8 0, .string ⟨#[]⟩, .int .i64 0, .int .i64 0, .int .i64 0, .int .u8 0, .string ⟨#[]⟩, .int .i64 0, .int .i64 0, .int .i64 0, .int .u8 0, .string ⟨#[]⟩, .int .i64 0, .int .i64 0, .int .i64 0, .int .u8 0, .string ⟨#[]⟩, .int .i64 0, .int .i64 0, .int .i64 0, .int .u8 0, .string ⟨#[]⟩, .int .i64 0, .int .i64 0, .int .i64 0, .int .u8 0, .string ⟨#[]⟩, .int .i64 0, .int .i64 0, .int .i64 0, .int .u8 0, .string ⟨#[]⟩, .int .i64 0, .int .i64 0, .int .i64 0, .int .u8 0, .string ⟨#[]⟩, .int .i64 0, .int .i64 0, .int .i64 0, .int .u8 0, .string ⟨#[]⟩, .int .i64 0, .int .i64 0, .int .i64 0, .int .u8 0, .string ⟨#[]⟩, .int .i64 0, .int .i64 0, .int .i64 0, .int .u8 0, .string ⟨#[]⟩, .int .i64 0, .int .i64 0, .int .i64 0, .int .u8 0, .string ⟨#[]⟩, .int .i64 0, .int .i64 0, .int .i64 0, .int .u8 0, .string ⟨#[]⟩, .int .i64 0, .int .i64 0, .int .i64 0, .int .u8 0, .string ⟨#[]⟩, .int .i64 0, .int .i64 0, .int .i64 0, .int .u8 0, .string ⟨#[]⟩, .int .i64 0, .int .i64 0, .int .i64 0, .int .u8 0, .string ⟨#[]⟩, .int .i64 0, .int .i64 0, .int .i64 0, .int .u8 0, .string ⟨#[]⟩, .int .i64 0, .int .i64 0, .int .i64 0, .int .u8 0, .string ⟨#[]⟩, .int .i64 0, .int .i64 0, .int .i64 0, .int .u8 0, .string ⟨#[]⟩, .int .i64 0, .int .i64 0, .int .i64 0, .int .u8 0, .string ⟨#[]⟩, .int .i64 0, .int .i64 0, .int .i64 0, .int .u8 0, .string ⟨#[]⟩, .int .i64 0, .int .i64 0, .int .i64 0, .int .u8 0, .string ⟨#[]⟩, .int .i64 0, .int .i64 0, .int .i64 0, .int .u8 0, .string ⟨#[]⟩, .int .i64 0, .int .i64 0, .int .i64 0, .int .u8 0, .string ⟨#[]⟩, .int .i64 0, .int .i64 0, .int .i64 0, .int .u8 0, .string ⟨#[]⟩, .int .i64 0, .int .i64 0, .int .i64 0, .int .u8 0, .string ⟨#[]⟩, .int .i64 0, .int .i64 0, .int .i64 0, .int .u8 0, .string ⟨#[]⟩, .int .i64 0, .int .i64 0, .int .i64 0, .int .u8 0, .string ⟨#[]⟩, .int .i64 0, .int .i64 0, .int .i64 0, .int .u8 0, .string ⟨#[]⟩, .int .i64 0, .int .i64 0, .int .i64 0, .int .u8 0, .string ⟨#[]⟩, .int .i64 0, .int .i64 0, .int .i64 0, .int .u8 0, .string ⟨#[]⟩, .int .i64 0, .int .i64 0, .int .i64 0, .int .u8 0, .string ⟨#[]⟩, .int .i64 0, .int .i64 0, .int .i64 0, .int .u8 0, .string ⟨#[]⟩, .int .i64 0, .int .i64 0, .int .i64 0, .int .u8 0, .string ⟨#[]⟩, .int .i64 0, .int .i64 0, .int .i64 0, .int .u8 0, .string ⟨#[]⟩, .int .i64 0, .int .i64 0, .int .i64 0, .int .u8 0, .string ⟨#[]⟩, .int .i64 0, .int .i64 0, .int .i64 0, .int .u8 0, .string ⟨#[]⟩, .int .i64 0, .int .i64 0, .int .i64 0, .int .u8 0, .string ⟨#[]⟩, .int .i64 0, .int .i64 0, .int .i64 0, .int .u8 0, .string ⟨#[]⟩, .int .i64 0, .int .i64 0, .int .i64 0, .int .u8 0, .string ⟨#[]⟩, .int .i64 0, .int .i64 0, .int .i64 0, .int .u8 0, .string ⟨#[]⟩, .int .i64 0, .int .i64 0, .int .i64 0, .int .u8 0, .string ⟨#[]⟩, .int .i64 0, .int .i64 0, .int .i64 0, .int .u8 0, .string ⟨#[]⟩, .int .i64 0, .int .i64 0, .int .i64 0, .int .u8 0, .string ⟨#[]⟩, .int .i64 0, .int .i64 0, .int .i64 0, .int .u8 0, .string ⟨#[]⟩, .int .i64 0, .int .i64 0, .int .i64 0]) := ⟨by kernel_rfl⟩
instance : BytI Tryd.prog 87 2400 := ⟨by kernel_rfl⟩
instance : AgI Tryd.prog 88 false := ⟨by kernel_rfl⟩
instance : InfoI Tryd.prog 88 1 (.nilFunc) := ⟨by kernel_rfl⟩
instance : BytI Tryd.prog 88 8 := ⟨by kernel_rfl⟩
instance : AgI Tryd.prog 89 true := ⟨by kernel_rfl⟩
instance : UnI Tryd.prog 89 (.array 24 5) := ⟨by kernel_rfl⟩
instance : InfoI Tryd.prog 89 24 (.agg #[.int .u8 0, .int .u8 0, .int .u8 0, .int .u8 0, .int .u8 0, .int .u8 0, .int .u8 0, .int .u8 0, .int .u8 0, .int .u8 0, .int .u8 0, .int .u8 0, .int .u8 0, .int .u8 0, .int .u8 0, .int .u8 0, .int .u8 0, .int .u8 0, .int .u8 0, .int .u8 0, .int .u8 0, .int .u8 0, .int .u8 0, .int .u8 0]) := ⟨by kernel_rfl⟩
instance : BytI Tryd.prog 89 24 := ⟨by kernel_rfl⟩
instance : EqI Tryd.prog 89 24 .u8 := .mk' (by kernel_rfl)
instance : AgI Tryd.prog 90 false := ⟨by kernel_rfl⟩
instance : InfoI Tryd.prog 90 1 (.nilFunc) := ⟨by kernel_rfl⟩
instance : BytI Tryd.prog 90 8 := ⟨by kernel_rfl⟩
instance : AgI Tryd.prog 91 false := ⟨by kernel_rfl⟩
instance : InfoI Tryd.prog 91 1 (.nilFunc) := ⟨by kernel_rfl⟩
instance : BytI Tryd.prog 91 8 := ⟨by kernel_rfl⟩
instance : AgI Tryd.prog 93 false := ⟨by kernel_rfl⟩
instance : InfoI Tryd.prog 93 1 (.nilFunc) := ⟨by kernel_rfl⟩
instance : BytI Tryd.prog 93 8 := ⟨by kernel_rfl⟩
instance : AgI Tryd.prog 94 false := ⟨by kernel_rfl⟩
instance : InfoI Tryd.prog 94 1 (.nilFunc) := ⟨by kernel_rfl⟩
instance : BytI Tryd.prog 94 8 := ⟨by kernel_rfl⟩
instance : AgI Tryd.prog 95 false := ⟨by kernel_rfl⟩
instance : InfoI Tryd.prog 95 1 (.nilFunc) := ⟨by kernel_rfl⟩
instance : BytI Tryd.prog 95 8 := ⟨by kernel_rfl⟩
instance : AgI Tryd.prog 96 true := ⟨by kernel_rfl⟩
instance : UnI Tryd.prog 96 (.array 20 24) := ⟨by kernel_rfl⟩
instance : InfoI Tryd.prog 96 20 (.agg #[.int .u64 0, .int .u64 0, .int .u64 0, .int .u64 0, .int .u64 0, .int .u64 0, .int .u64 0, .int .u64 0, .int .u64 0, .int .u64 0, .int .u64 0, .int .u64 0, .int .u64 0, .int .u64 0, .int .u64 0, .int .u64 0, .int .u64 0, .int .u64 0, .int .u64 0, .int .u64 0]) := ⟨by kernel_rfl⟩
instance : BytI Tryd.prog 96 160 := ⟨by kernel_rfl⟩
instance : EqI Tryd.prog 96 20 .u64 := .mk' (by kernel_rfl)
instance : AgI Tryd.prog 97 false := ⟨by kernel_rfl⟩
instance : UnI Tryd.prog 97 (.int .u32) := ⟨by kernel_rfl⟩
instance : InfoI Tryd.prog 97 1 (.int .u32 0) := ⟨by kernel_rfl⟩
instance : BytI Tryd.prog 97 4 := ⟨by kernel_rfl⟩
instance : AgI Tryd.prog 98 true := ⟨by kernel_rfl⟩
instance : UnI Tryd.prog 98 (.array 65 5) := ⟨by kernel_rfl⟩
instance : InfoI Tryd.prog 98 65 (.agg #[.int .u8 0, .int .u8 0, .int .u8 0, .int .u8 0, .int .u8 0, .int .u8 0, .int .u8 0, .int .u8 0, .int .u8 0, .int .u8 0, .int .u8 0, .int .u8 0, .int .u8 0, .int .u8 0, .int .u8 0, .int .u8 0, .int .u8 0, .int .u8 0, .int .u8 0, .int .u8 0, .int .u8 0, .int .u8 0, .int .u8 0, .int .u8 0, .int .u8 0, .int .u8 0, .int .u8 0, .int .u8 0, .int .u8 0, .int .u8 0, .int .u8 0, .int .u8 0, .int .u8 0, .int .u8 0, .int .u8 0, .int .u8 0, .int .u8 0, .int .u8 0, .int .u8 0, .int .u8 0, .int .u8 0, .int .u8 0, .int .u8 0, .int .u8 0, .int .u8 0, .int .u8 0, .int .u8 0, .int .u8 0, .int .u8 0, .int .u8 0, .int .u8 0, .int .u8 0, .int .u8 0, .int .u8 0, .int .u8 0, .int .u8 0, .int .u8 0, .int .u8 0, .int .u8 0, .int .u8 0, .int .u8 0, .int .u8 0, .int .u8 0, .int .u8 0, .int .u8 0]) := ⟨by kernel_rfl⟩
instance : BytI Tryd.prog 98 65 := ⟨by kernel_rfl⟩
instance : EqI Tryd.prog 98 65 .u8 := .mk' (by kernel_rfl)
instance : AgI Tryd.prog 99 false := ⟨by kernel_rfl⟩
instance : InfoI Tryd.prog 99 1 (.nilFunc) := ⟨by kernel_rfl⟩
instance : BytI Tryd.prog 99 8 := ⟨by kernel_rfl⟩
instance : AgI Tryd.prog 100 false := ⟨by kernel_rfl⟩
instance : InfoI Tryd.prog 100 1 (.nilFunc) := ⟨by kernel_rfl⟩
instance : BytI Tryd.prog 100 8 := ⟨by kernel_rfl⟩
instance : AgI Tryd.prog 101 false := ⟨by kernel_rfl⟩
instance : InfoI Tryd.prog 101 1 (.nilFunc) := ⟨by kernel_rfl⟩
instance : BytI Tryd.prog 101 8 := ⟨by kernel_rfl⟩
instance : AgI Tryd.prog 102 true := ⟨by kernel_rfl⟩
instance : UnI Tryd.prog 102 (.array 32 5) := ⟨by kernel_rfl⟩
instance : InfoI Tryd.prog 102 32 (.agg #[.int .u8 0, .int .u8 0, .int .u8 0, .int .u8 0, .int .u8 0, .int .u8 0, .int .u8 0, .int .u8 0, .int .u8 0, .int .u8 0, .int .u8 0, .int .u8 0, .int .u8 0, .int .u8 0, .int .u8 0, .int .u8 0, .int .u8 0, .int .u8 0, .int .u8 0, .int .u8 0, .int .u8 0, .int .u8 0, .int .u8 0, .int .u8 0, .int .u8 0, .int .u8 0, .int .u8 0, .int .u8 0, .int .u8 0, .int .u8 0, .int .u8 0, .int .u8 0]) := ⟨by kernel_rfl⟩
instance : BytI Tryd.prog 102 32 := ⟨by kernel_rfl⟩
instance : EqI Tryd.prog 102 32 .u8 := .mk' (by kernel_rfl)
instance : AgI Tryd.prog 103 true := ⟨by kernel_rfl⟩
instance : UnI Tryd.prog 103 (.array 64 5) := ⟨by kernel_rfl⟩
instance : InfoI Tryd.prog 103 64 (.agg #[.int .u8 0, .int .u8 0, .int .u8 0, .int .u8 0, .int .u8 0, .int .u8 0, .int .u8 0, .int .u8 0, .int .u8 0, .int .u8 0, .int .u8 0, .int .u8 0, .int .u8 0, .int .u8 0, .int .u8 0, .int .u8 0, .int .u8 0, .int .u8 0, .int .u8 0, .int .u8 0, .int .u8 0, .int .u8 0, .int .u8 0, .int .u8 0, .int .u8 0, .int .u8 0, .int .u8 0, .int .u8 0, .int .u8 0, .int .u8 0, .int .u8 0, .int .u8 0, .int .u8 0, .int .u8 0, .int .u8 0, .int .u8 0, .int .u8 0, .int .u8 0, .int .u8 0, .int .u8 0, .int .u8 0, .int .u8 0, .int .u8 0, .int .u8 0, .int .u8 0, .int .u8 0, .int .u8 0, .int .u8 0, .int .u8 0, .int .u8 0, .int .u8 0, .int .u8 0, .int .u8 0, .int .u8 0, .int .u8 0, .int .u8 0, .int .u8 0, .int .u8 0, .int .u8 0, .int .u8 0, .int .u8 0, .int .u8 0, .int .u8 0, .int .u8 0]) := ⟨by kernel_rfl⟩
instance : BytI Tryd.prog 103 64 := ⟨by kernel_rfl⟩
instance : EqI Tryd.prog 103 64 .u8 := .mk' (by kernel_rfl)
instance : AgI Tryd.prog 104 false := ⟨by kernel_rfl⟩
instance : InfoI Tryd.prog 104 1 (.nilFunc) := ⟨by kernel_rfl⟩
instance : BytI Tryd.prog 104 8 := ⟨by kernel_rfl⟩
instance : AgI Tryd.prog 105 true := ⟨by kernel_rfl⟩
instance : InfoI Tryd.prog 105 4 (.agg #[.pointer none, .pointer none, .pointer none, .string ⟨#[]⟩]) := ⟨by kernel_rfl⟩
instance : BytI Tryd.prog 105 40 := ⟨by kernel_rfl⟩
instance : StrI Tryd.prog 105 [(0, 1), (1, 1), (2, 1), (3, 1)] := ⟨by kernel_rfl⟩
instance : FldI Tryd.prog 105 0 0 17 := .mk' (by kernel_rfl)
instance : FldI Tryd.prog 105 1 1 17 := .mk' (by kernel_rfl)
instance : FldI Tryd.prog 105 2 2 17 := .mk' (by kernel_rfl)
instance : FldI Tryd.prog 105 3 3 9 := .mk' (by kernel_rfl)
instance : AgI Tryd.prog 106 true := ⟨by kernel_rfl⟩
instance : InfoI Tryd.prog 106 4 (.agg #[.pointer none, .pointer none, .pointer none, .string ⟨#[]⟩]) := ⟨by kernel_rfl⟩
instance : BytI Tryd.prog 106 40 := ⟨by kernel_rfl⟩
instance : StrI Tryd.prog 106 [(0, 1), (1, 1), (2, 1), (3, 1)] := ⟨by kernel_rfl⟩
instance : FldI Tryd.prog 106 0 0 17 := .mk' (by kernel_rfl)
instance : FldI Tryd.prog 106 1 1 17 := .mk' (by kernel_rfl)
instance : FldI Tryd.prog 106 2 2 17 := .mk' (by kernel_rfl)
instance : FldI Tryd.prog 106 3 3 9 := .mk' (by kernel_rfl)
instance : AgI Tryd.prog 107 true := ⟨by kernel_rfl⟩
instance : UnI Tryd.prog 107 (.array 0 16) := ⟨by kernel_rfl⟩
instance : InfoI Tryd.prog 107 0 (.agg #[]) := ⟨by kernel_rfl⟩
instance : BytI Tryd.prog 107 0 := ⟨by kernel_rfl⟩
instance : AgI Tryd.prog 108 true := ⟨by kernel_rfl⟩
instance : InfoI Tryd.prog 108 0 (.agg #[]) := ⟨by kernel_rfl⟩
instance : BytI Tryd.prog 108 0 := ⟨by kernel_rfl⟩
instance : StrI Tryd.prog 108 [(0, 0)] := ⟨by kernel_rfl⟩
instance : FldI Tryd.prog 108 0 0 107 := .mk' (by kernel_rfl)
instance : AgI Tryd.prog 109 true := ⟨by kernel_rfl⟩
instance : InfoI Tryd.prog 109 0 (.agg #[]) := ⟨by kernel_rfl⟩
instance : BytI Tryd.prog 109 0 := ⟨by kernel_rfl⟩
instance : StrI Tryd.prog 109 [(0, 0)] := ⟨by kernel_rfl⟩
instance : FldI Tryd.prog 109 0 0 107 := .mk' (by kernel_rfl)
instance : AgI Tryd.prog 110 false := ⟨by kernel_rfl⟩
instance : InfoI Tryd.prog 110 1 (.nilFunc) := ⟨by kernel_rfl⟩
instance : BytI Tryd.prog 110 8 := ⟨by kernel_rfl⟩
instance : AgI Tryd.prog 111 false := ⟨by kernel_rfl⟩
instance : UnI Tryd.prog 111 (.int .u8) := ⟨by kernel_rfl⟩
instance : InfoI Tryd.prog 111 1 (.int .u8 0) := ⟨by kernel_rfl⟩
instance : BytI Tryd.prog 111 1 := ⟨by kernel_rfl⟩
instance : AgI Tryd.prog 112 false := ⟨by kernel_rfl⟩
instance : UnI Tryd.prog 112 (.int .u8) := ⟨by kernel_rfl⟩
instance : InfoI Tryd.prog 112 1 (.int .u8 0) := ⟨by kernel_rfl⟩
instance : BytI Tryd.prog 112 1 := ⟨by kernel_rfl⟩
instance : AgI Tryd.prog 113 false := ⟨by kernel_rfl⟩
instance : InfoI Tryd.prog 113 1 (.nilFunc) := ⟨by kernel_rfl⟩
instance : BytI Tryd.prog 113 8 := ⟨by kernel_rfl⟩
instance : AgI Tryd.prog 114 false := ⟨by kernel_rfl⟩
instance : UnI Tryd.prog 114 (.pointer 5) := ⟨by kernel_rfl⟩
instance : InfoI Tryd.prog 114 1 (.pointer none) := ⟨by kernel_rfl⟩
instance : BytI Tryd.prog 114 8 := ⟨by kernel_rfl⟩
instance : AgI Tryd.prog 115 false := ⟨by kernel_rfl⟩
instance : UnI Tryd.prog 115 (.int .i32) := ⟨by kernel_rfl⟩
instance : InfoI Tryd.prog 115 1 (.int .i32 0) := ⟨by kernel_rfl⟩
instance : BytI Tryd.prog 115 4 := ⟨by kernel_rfl⟩
instance : AgI Tryd.prog 116 false := ⟨by kernel_rfl⟩
instance : UnI Tryd.prog 116 (.int .i32) := ⟨by kernel_rfl⟩
instance : InfoI Tryd.prog 116 1 (.int .i32 0) := ⟨by kernel_rfl⟩
instance : BytI Tryd.prog 116 4 := ⟨by kernel_rfl⟩
instance : AgI Tryd.prog 117 true := ⟨by kernel_rfl⟩
instance : InfoI Tryd.prog 117 11 (.agg #[.int .u64 0, .int .u64 0, .int .u32 0, .int .u8 0, .int .u8 0, .int .u8 0, .int .u8 0, .nilFunc, .pointer none, .int .i32 0, .int .i32 0]) := ⟨by kernel_rfl⟩
instance : BytI Tryd.prog 117 48 := ⟨by kernel_rfl⟩
instance : StrI Tryd.prog 117 [(0, 1), (1, 1), (2, 1), (3, 1), (4, 1), (5, 1), (6, 1), (7, 1), (8, 1), (9, 1), (10, 1)] := ⟨by kernel_rfl⟩
instance : FldI Tryd.prog 117 0 0 12 := .mk' (by kernel_rfl)
instance : FldI Tryd.prog 117 1 1 12 := .mk' (by kernel_rfl)
instance : FldI Tryd.prog 117 2 2 97 := .mk' (by kernel_rfl)
instance : FldI Tryd.prog 117 3 3 111 := .mk' (by kernel_rfl)
instance : FldI Tryd.prog 117 4 4 5 := .mk' (by kernel_rfl)
instance : FldI Tryd.prog 117 5 5 5 := .mk' (by kernel_rfl)
instance : FldI Tryd.prog 117 6 6 112 := .mk' (by kernel_rfl)
instance : FldI Tryd.prog 117 7 7 113 := .mk' (by kernel_rfl)
instance : FldI Tryd.prog 117 8 8 114 := .mk' (by kernel_rfl)
instance : FldI Tryd.prog 117 9 9 115 := .mk' (by kernel_rfl)
instance : FldI Tryd.prog 117 10 10 116 := .mk' (by kernel_rfl)
instance : AgI Tryd.prog 118 true := ⟨by kernel_rfl⟩
instance : InfoI Tryd.prog 118 11 (.agg #[.int .u64 0, .int .u64 0, .int .u32 0, .int .u8 0, .int .u8 0, .int .u8 0, .int .u8 0, .nilFunc, .pointer none, .int .i32 0, .int .i32 0]) := ⟨by kernel_rfl⟩
instance : BytI Tryd.prog 118 48 := ⟨by kernel_rfl⟩
instance : StrI Tryd.prog 118 [(0, 1), (1, 1), (2, 1), (3, 1), (4, 1), (5, 1), (6, 1), (7, 1), (8, 1), (9, 1), (10, 1)] := ⟨by kernel_rfl⟩
instance : FldI Tryd.prog 118 0 0 12 := .mk' (by kernel_rfl)
instance : FldI Tryd.prog 118 1 1 12 := .mk' (by kernel_rfl)
instance : FldI Tryd.prog 118 2 2 97 := .mk' (by kernel_rfl)
instance : FldI Tryd.prog 118 3 3 111 := .mk' (by kernel_rfl)
instance : FldI Tryd.prog 118 4 4 5 := .mk' (by kernel_rfl)
instance : FldI Tryd.prog 118 5 5 5 := .mk' (by kernel_rfl)
instance : FldI Tryd.prog 118 6 6 112 := .mk' (by kernel_rfl)
instance : FldI Tryd.prog 118 7 7 113 := .mk' (by kernel_rfl)
instance : FldI Tryd.prog 118 8 8 114 := .mk' (by kernel_rfl)
instance : FldI Tryd.prog 118 9 9 115 := .mk' (by kernel_rfl)
instance : FldI Tryd.prog 118 10 10 116 := .mk' (by kernel_rfl)
instance : AgI Tryd.prog 119 false := ⟨by kernel_rfl⟩
instance : UnI Tryd.prog 119 (.unsafePointer) := ⟨by kernel_rfl⟩
instance : InfoI Tryd.prog 119 1 (.pointer none) := ⟨by kernel_rfl⟩
instance : BytI Tryd.prog 119 8 := ⟨by kernel_rfl⟩
instance : FnI Tryd.prog 2 := .mk' Tryd.func2 (by kernel_rfl) (by kernel_rfl)
instance : FnI Tryd.prog 3 := .mk' Tryd.func3 (by kernel_rfl) (by kernel_rfl)
instance : FnI Tryd.prog 4 := .mk' Tryd.func4 (by kernel_rfl) (by kernel_rfl)
instance : FnI Tryd.prog 5 := .mk' Tryd.func5 (by kernel_rfl) (by kernel_rfl)
instance : FnI Tryd.prog 6 := .mk' Tryd.func6 (by kernel_rfl) (by kernel_rfl)
instance : FnI Tryd.prog 7 := .mk' Tryd.func7 (by kernel_rfl) (by kernel_rfl)
instance : FnI Tryd.prog 8 := .mk' Tryd.func8 (by kernel_rfl) (by kernel_rfl)
instance : FnI Tryd.prog 9 := .mk' Tryd.func9 (by kernel_rfl) (by kernel_rfl)
instance : FnI Tryd.prog 10 := .mk' Tryd.func10 (by kernel_rfl) (by kernel_rfl)
instance : FnI Tryd.prog 11 := .mk' Tryd.func11 (by kernel_rfl) (by kernel_rfl)
instance : FnI Tryd.prog 12 := .mk' Tryd.func12 (by kernel_rfl) (by kernel_rfl)
instance : FnI Tryd.prog 13 := .mk' Tryd.func13 (by kernel_rfl) (by kernel_rfl)
instance : FnI Tryd.prog 14 := .mk' Tryd.func14 (by kernel_rfl) (by kernel_rfl)
instance : FnI Tryd.prog 15 := .mk' Tryd.func15 (by kernel_rfl) (by kernel_rfl)
instance : FnI Tryd.prog 16 := .mk' Tryd.func16 (by kernel_rfl) (by kernel_rfl)
instance : FnI Tryd.prog 17 := .mk' Tryd.func17 (by kernel_rfl) (by kernel_rfl)
instance : FnI Tryd.prog 18 := .mk' Tryd.func18 (by kernel_rfl) (by kernel_rfl)
instance : FnI Tryd.prog 19 := .mk' Tryd.func19 (by kernel_rfl) (by kernel_rfl)
instance : FnI Tryd.prog 20 := .mk' Tryd.func20 (by kernel_rfl) (by kernel_rfl)
instance : FnI Tryd.prog 21 := .mk' Tryd.func21 (by kernel_rfl) (by kernel_rfl)
instance : FnI Tryd.prog 22 := .mk' Tryd.func22 (by kernel_rfl) (by kernel_rfl)
instance : FnI Tryd.prog 23 := .mk' Tryd.func23 (by kernel_rfl) (by kernel_rfl)
instance : FnI Tryd.prog 24 := .mk' Tryd.func24 (by kernel_rfl) (by kernel_rfl)
instance : FnI Tryd.prog 25 := .mk' Tryd.func25 (by kernel_rfl) (by kernel_rfl)
instance : FnI Tryd.prog 26 := .mk' Tryd.func26 (by kernel_rfl) (by kernel_rfl)
instance : FnI Tryd.prog 27 := .mk' Tryd.func27 (by kernel_rfl) (by kernel_rfl)
instance : FnI Tryd.prog 28 := .mk' Tryd.func28 (by kernel_rfl) (by kernel_rfl)
instance : FnI Tryd.prog 29 := .mk' Tryd.func29 (by kernel_rfl) (by kernel_rfl)
instance : FnI Tryd.prog 30 := .mk' Tryd.func30 (by kernel_rfl) (by kernel_rfl)
instance : FnI Tryd.prog 31 := .mk' Tryd.func31 (by kernel_rfl) (by kernel_rfl)
instance : FnI Tryd.prog 32 := .mk' Tryd.func32 (by kernel_rfl) (by kernel_rfl)
instance : FnI Tryd.prog 33 := .mk' Tryd.func33 (by kernel_rfl) (by kernel_rfl)
instance : FnI Tryd.prog 34 := .mk' Tryd.func34 (by kernel_rfl) (by kernel_rfl)
instance : FnI Tryd.prog 35 := .mk' Tryd.func35 (by kernel_rfl) (by kernel_rfl)
instance : FnI Tryd.prog 36 := .mk' Tryd.func36 (by kernel_rfl) (by kernel_rfl)
instance : FnI Tryd.prog 37 := .mk' Tryd.func37 (by kernel_rfl) (by kernel_rfl)
instance : FnI Tryd.prog 38 := .mk' Tryd.func38 (by kernel_rfl) (by kernel_rfl)
instance : FnI Tryd.prog 39 := .mk' Tryd.func39 (by kernel_rfl) (by kernel_rfl)
instance : FnI Tryd.prog 40 := .mk' Tryd.func40 (by kernel_rfl) (by kernel_rfl)
instance : FnI Tryd.prog 41 := .mk' Tryd.func41 (by kernel_rfl) (by kernel_rfl)
instance : FnI Tryd.prog 42 := .mk' Tryd.func42 (by kernel_rfl) (by kernel_rfl)
instance : FnI Tryd.prog 43 := .mk' Tryd.func43 (by kernel_rfl) (by kernel_rfl)
instance : FnI Tryd.prog 44 := .mk' Tryd.func44 (by kernel_rfl) (by kernel_rfl)
instance : FnI Tryd.prog 45 := .mk' Tryd.func45 (by kernel_rfl) (by kernel_rfl)
instance : FnI Tryd.prog 46 := .mk' Tryd.func46 (by kernel_rfl) (by kernel_rfl)
instance : FnI Tryd.prog 48 := .mk' Tryd.func48 (by kernel_rfl) (by kernel_rfl)
instance : FnI Tryd.prog 49 := .mk' Tryd.func49 (by kernel_rfl) (by kernel_rfl)
instance : FnI Tryd.prog 50 := .mk' Tryd.func50 (by kernel_rfl) (by kernel_rfl)
instance : FnI Tryd.prog 51 := .mk' Tryd.func51 (by kernel_rfl) (by kernel_rfl)
instance : FnI Tryd.prog 52 := .mk' Tryd.func52 (by kernel_rfl) (by kernel_rfl)
instance : FnI Tryd.prog 53 := .mk' Tryd.func53 (by kernel_rfl) (by kernel_rfl)
instance : FnI Tryd.prog 54 := .mk' Tryd.func54 (by kernel_rfl) (by kernel_rfl)
instance : FnI Tryd.prog 55 := .mk' Tryd.func55 (by kernel_rfl) (by kernel_rfl)
instance : FnI Tryd.prog 56 := .mk' Tryd.func56 (by kernel_rfl) (by kernel_rfl)
instance : FnI Tryd.prog 57 := .mk' Tryd.func57 (by kernel_rfl) (by kernel_rfl)
instance : FnI Tryd.prog 58 := .mk' Tryd.func58 (by kernel_rfl) (by kernel_rfl)
instance : FnI Tryd.prog 59 := .mk' Tryd.func59 (by kernel_rfl) (by kernel_rfl)
instance : FnI Tryd.prog 60 := .mk' Tryd.func60 (by kernel_rfl) (by kernel_rfl)
instance : FnI Tryd.prog 61 := .mk' Tryd.func61 (by kernel_rfl) (by kernel_rfl)
instance : FnI Tryd.prog 62 := .mk' Tryd.func62 (by kernel_rfl) (by kernel_rfl)
instance : FnI Tryd.prog 63 := .mk' Tryd.func63 (by kernel_rfl) (by kernel_rfl)
instance : FnI Tryd.prog 64 := .mk' Tryd.func64 (by kernel_rfl) (by kernel_rfl)
instance : FnI Tryd.prog 65 := .mk' Tryd.func65 (by kernel_rfl) (by kernel_rfl)
instance : FnI Tryd.prog 66 := .mk' Tryd.func66 (by kernel_rfl) (by kernel_rfl)
instance : FnI Tryd.prog 67 := .mk' Tryd.func67 (by kernel_rfl) (by kernel_rfl)
instance : FnI Tryd.prog 68 := .mk' Tryd.func68 (by kernel_rfl) (by kernel_rfl)
instance : FnI Tryd.prog 69 := .mk' Tryd.func69 (by kernel_rfl) (by kernel_rfl)
instance : FnI Tryd.prog 70 := .mk' Tryd.func70 (by kernel_rfl) (by kernel_rfl)
instance : FnI Tryd.prog 71 := .mk' Tryd.func71 (by kernel_rfl) (by kernel_rfl)
instance : FnI Tryd.prog 72 := .mk' Tryd.func72 (by kernel_rfl) (by kernel_rfl)
instance : FnI Tryd.prog 73 := .mk' Tryd.func73 (by kernel_rfl) (by kernel_rfl)
instance : FnI Tryd.prog 74 := .mk' Tryd.func74 (by kernel_rfl) (by kernel_rfl)
instance : FnI Tryd.prog 75 := .mk' Tryd.func75 (by kernel_rfl) (by kernel_rfl)
instance : FnI Tryd.prog 97 := .mk' Tryd.func97 (by kernel_rfl) (by kernel_rfl)
theorem mixed : Tryd.prog.follows .mixedOrders = true := by kernel_rfl
end Go.Proofs.YthhalnmbfokbbaaDoor

/-
  Contracts of the word package: bit by bit, sums, differences, and how words stand; each function walked once.
  Conditions: none.
-/
namespace Go.Proofs.YthhalnmbfokbbaaDoor
open Go Go.RowKit SL
set_option maxRecDepth 8000
set_option maxHeartbeats 4000000
set_option linter.unusedSimpArgs false
set_option linter.unusedVariables false
attribute [local irreducible] SL.CW SL.LW SL.DW Calls SL.Ret SL.RetG SL.beginQ SL.roundQ SL.rangeQ SL.inQ SL.RW SL.AnyW SL.thenQ SL.thenC SL.thenW SL.blkQ SL.finQ SL.ValP SL.NewP SL.SetP SL.CallP SL.Rd SL.Wr SL.Known
end Go.Proofs.YthhalnmbfokbbaaDoor

/-
  Contracts of the word package: And, Or, Xor, Not; sums and differences; how words stand.
  Conditions: none.
-/
namespace Go.Proofs.YthhalnmbfokbbaaDoor
open Go Go.RowKit SL
set_option maxRecDepth 8000
set_option maxHeartbeats 4000000
set_option linter.unusedSimpArgs false
set_option linter.unusedVariables false
attribute [local irreducible] SL.CW SL.LW SL.DW Calls SL.Ret SL.RetG SL.beginQ SL.roundQ SL.rangeQ SL.inQ SL.RW SL.AnyW SL.thenQ SL.thenC SL.thenW SL.blkQ SL.finQ SL.ValP SL.NewP SL.SetP SL.CallP SL.Rd SL.Wr SL.Known
theorem lim_and (a b : Nat) : #[Value.int .u64 ((a % 18446744073709551616 &&& b % 18446744073709551616 : Nat) : Int), .int .u64 ((a / 18446744073709551616 % 18446744073709551616 &&& b / 18446744073709551616 % 18446744073709551616 : Nat) : Int), .int .u64 ((a / 340282366920938463463374607431768211456 % 18446744073709551616 &&& b / 340282366920938463463374607431768211456 % 18446744073709551616 : Nat) : Int), .int .u64 ((a / 6277101735386680763835789423207666416102355444464034512896 % 18446744073709551616 &&& b / 6277101735386680763835789423207666416102355444464034512896 % 18446744073709551616 : Nat) : Int)] = wc (a &&& b) := by
  unfold wc
  rw [show (18446744073709551616 : Nat) = 2 ^ 64 from rfl, show (340282366920938463463374607431768211456 : Nat) = 2 ^ 128 from rfl, show (6277101735386680763835789423207666416102355444464034512896 : Nat) = 2 ^ 192 from rfl]
  simp only [Nat.and_mod_two_pow, Nat.and_div_two_pow]
theorem lim_or (a b : Nat) : #[Value.int .u64 ((a % 18446744073709551616 ||| b % 18446744073709551616 : Nat) : Int), .int .u64 ((a / 18446744073709551616 % 18446744073709551616 ||| b / 18446744073709551616 % 18446744073709551616 : Nat) : Int), .int .u64 ((a / 340282366920938463463374607431768211456 % 18446744073709551616 ||| b / 340282366920938463463374607431768211456 % 18446744073709551616 : Nat) : Int), .int .u64 ((a / 6277101735386680763835789423207666416102355444464034512896 % 18446744073709551616 ||| b / 6277101735386680763835789423207666416102355444464034512896 % 18446744073709551616 : Nat) : Int)] = wc (a ||| b) := by
  unfold wc
  rw [show (18446744073709551616 : Nat) = 2 ^ 64 from rfl, show (340282366920938463463374607431768211456 : Nat) = 2 ^ 128 from rfl, show (6277101735386680763835789423207666416102355444464034512896 : Nat) = 2 ^ 192 from rfl]
  simp only [Nat.or_mod_two_pow, Nat.or_div_two_pow]
theorem lim_xor (a b : Nat) : #[Value.int .u64 ((a % 18446744073709551616 ^^^ b % 18446744073709551616 : Nat) : Int), .int .u64 ((a / 18446744073709551616 % 18446744073709551616 ^^^ b / 18446744073709551616 % 18446744073709551616 : Nat) : Int), .int .u64 ((a / 340282366920938463463374607431768211456 % 18446744073709551616 ^^^ b / 340282366920938463463374607431768211456 % 18446744073709551616 : Nat) : Int), .int .u64 ((a / 6277101735386680763835789423207666416102355444464034512896 % 18446744073709551616 ^^^ b / 6277101735386680763835789423207666416102355444464034512896 % 18446744073709551616 : Nat) : Int)] = wc (a ^^^ b) := by
  unfold wc
  rw [show (18446744073709551616 : Nat) = 2 ^ 64 from rfl, show (340282366920938463463374607431768211456 : Nat) = 2 ^ 128 from rfl, show (6277101735386680763835789423207666416102355444464034512896 : Nat) = 2 ^ 192 from rfl]
  simp only [Nat.xor_mod_two_pow, Nat.xor_div_two_pow]
theorem lim_not (a : Nat) (ha : a < M256) : #[Value.int .u64 ((18446744073709551615 - a % 18446744073709551616 : Nat) : Int), .int .u64 ((18446744073709551615 - a / 18446744073709551616 % 18446744073709551616 : Nat) : Int), .int .u64 ((18446744073709551615 - a / 340282366920938463463374607431768211456 % 18446744073709551616 : Nat) : Int), .int .u64 ((18446744073709551615 - a / 6277101735386680763835789423207666416102355444464034512896 % 18446744073709551616 : Nat) : Int)] = wc (M256 - 1 - a) := by
  simp only [M256] at ha ⊢
  exact wc_val (by omega) (by omega) (by omega) (by omega) (by omega)
end Go.Proofs.YthhalnmbfokbbaaDoor

/-
  Contracts of the word package: sums and differences, how words stand, small words.
  Conditions: none.
-/
namespace Go.Proofs.YthhalnmbfokbbaaDoor
open Go Go.RowKit SL
set_option maxRecDepth 8000
set_option maxHeartbeats 4000000
set_option linter.unusedSimpArgs false
set_option linter.unusedVariables false
attribute [local irreducible] SL.CW SL.LW SL.DW Calls SL.Ret SL.RetG SL.beginQ SL.roundQ SL.rangeQ SL.inQ SL.RW SL.AnyW SL.thenQ SL.thenC SL.thenW SL.blkQ SL.finQ SL.ValP SL.NewP SL.SetP SL.CallP SL.Rd SL.Wr SL.Known
theorem add64_run (x y c : Nat) (hc : c ≤ 1) (w : World) : (callFunc 47 #[.int .u64 x, .int .u64 y, .int .u64 c]).run Tryd.prog w = .ok (.value (.tuple #[.int .u64 (((x + y + c) % 18446744073709551616 : Nat) : Int), .int .u64 (((x + y + c) / 18446744073709551616 : Nat) : Int)])) w := by
  rw [run_callFunc_extern Tryd.func47 (by kernel_rfl) (by kernel_rfl) (by kernel_rfl) (e := add64Entry) (by kernel_rfl), run_add64 x y c (by omega) (by omega) (by omega) (by omega)]
  simp only [Result.andThen]
  congr 5 <;> omega
theorem carried_calls (f : FuncId) (a0 a1 a2 a3 b0 b1 b2 b3 r0 r1 r2 r3 c1 c2 c3 c4 : Nat) (w : World)
    (h0 : ∀ w, (callFunc f #[.int .u64 a0, .int .u64 b0, .int .u64 (0 : Int)]).run Tryd.prog w = .ok (.value (.tuple #[.int .u64 r0, .int .u64 c1])) w)
    (h1 : ∀ w, (callFunc f #[.int .u64 a1, .int .u64 b1, .int .u64 c1]).run Tryd.prog w = .ok (.value (.tuple #[.int .u64 r1, .int .u64 c2])) w)
    (h2 : ∀ w, (callFunc f #[.int .u64 a2, .int .u64 b2, .int .u64 c2]).run Tryd.prog w = .ok (.value (.tuple #[.int .u64 r2, .int .u64 c3])) w)
    (h3 : ∀ w, (callFunc f #[.int .u64 a3, .int .u64 b3, .int .u64 c3]).run Tryd.prog w = .ok (.value (.tuple #[.int .u64 r3, .int .u64 c4])) w) :
    Calls Tryd.prog 46 #[.agg #[.int .u64 a0, .int .u64 a1, .int .u64 a2, .int .u64 a3], .agg #[.int .u64 b0, .int .u64 b1, .int .u64 b2, .int .u64 b3], .func (.func f) #[] #[]] w (Ret w (.tuple #[.agg #[.int .u64 r0, .int .u64 r1, .int .u64 r2, .int .u64 r3], .bool (!decide ((c4 : Int) = 0))])) := by
  refine enter (args := [_, _, _]) _ [] [] Tryd.func46 rfl Tryd.ntmps46 rfl (by simp) .nil ?_
  (refine CW.seq ?_; refine CW.region ?_; apply LW.boxA; rfl; rfl; intro _; apply LW.boxA; rfl; rfl; intro _; apply LW.allocW; rfl; intro _; apply LW.v0; rfl; rfl; apply ValP.assign; rfl; apply LW.nil; refine thenN ?_; refine CW.seq ?_; refine CW.region ?_; apply LW.v0; rfl; rfl; apply ValP.assign; rfl; apply LW.nil; refine thenN ?_; refine CW.seq ?_; refine CW.seq ?_; refine CW.region ?_; apply LW.v0; rfl; rfl; apply ValP.move; rfl; apply LW.nil; refine thenN ?_; refine CW.block ?_)
  apply CW.rounds 5
  (apply RW.step; refine CW.seq ?_; refine CW.region ?_; apply LW.v0; rfl; rfl; apply ValP.lssT; rfl; rfl; omega; apply LW.nil; refine thenN ?_; refine CW.seq ?_; apply CW.condT; rfl; (with_reducible rfl); refine CW.skip ?_; refine thenN ?_; refine CW.seq ?_; refine CW.block ?_; refine CW.seq ?_; refine CW.region ?_; apply LW.v0; rfl; rfl; apply ValP.move; rfl; apply LW.v0; rfl; rfl; apply ValP.assign; rfl; apply LW.nil; refine thenN ?_; apply CW.pre; refine AnyW.any 15 mixed (by decide +kernel) ?_; (try simp only [tsOf_cons, tsOf_nil, tsOf_app]); apply DW.v0; rfl; rfl; rfl; exact WantT.none; rfl; apply ValP.move; rfl; apply DW.v0; rfl; rfl; rfl; exact WantT.none; rfl; apply ValP.move; rfl; apply DW.v0; rfl; rfl; rfl; exact WantT.none; rfl; apply ValP.move; rfl; apply DW.v0; rfl; rfl; rfl; exact WantT.none; rfl; apply ValP.indexAddrL; rfl; rfl; rfl; apply DW.loadO; rfl; rfl; rfl; exact WantT.none; rfl; apply TRead.tail; apply TRead.tail; apply TRead.head; exact ancB_nil; exact Rd.one' rfl; apply DW.v0; rfl; rfl; rfl; exact WantT.none; rfl; apply ValP.move; rfl; apply DW.v0; rfl; rfl; rfl; exact WantT.none; rfl; apply ValP.indexAddrL; rfl; rfl; rfl; apply DW.loadO; rfl; rfl; rfl; exact WantT.none; rfl; apply TRead.tail; apply TRead.head; exact ancB_nil; exact Rd.one' rfl; apply DW.v0; rfl; rfl; rfl; exact WantT.none; rfl; apply ValP.move; rfl; apply DW.callX; rfl; rfl; rfl; exact WantT.none; rfl; apply ArgsOk.cons; rfl; apply ArgsOk.cons; rfl; apply ArgsOk.cons; rfl; exact ArgsOk.nil; rfl; exact h0; apply DW.v0; rfl; rfl; rfl; exact WantT.none; rfl; apply ValP.move; rfl; apply DW.v0; rfl; rfl; rfl; exact WantT.none; rfl; apply ValP.extractN; rfl; rfl; apply DW.v0; rfl; rfl; rfl; exact WantT.none; rfl; apply ValP.extractN; rfl; rfl; apply DW.v0; rfl; rfl; rfl; exact WantT.none; rfl; apply ValP.indexAddrL; rfl; rfl; rfl; apply DW.store; rfl; rfl; exact WantT.none; rfl; rfl; apply TSet.tail; apply TSet.tail; apply TSet.head; exact ancB_nil; kernel_rfl; apply Wr.cells; rfl; rfl; simp only [wc, List.size_toArray, List.length_cons, List.length_nil]; omega; simp only [fillC, wc, wrCells, Value.cells, List.toList_toArray, List.setIfInBounds_toArray, List.set_cons_succ, List.set_cons_zero, Nat.reduceAdd, Nat.reduceMul, Nat.zero_add, Nat.mul_one]; rfl; apply DW.nil; simp only [fsOf_cons, fsOf_nil, fsOf_app, fsOf_tsOf, fsOf_new]; apply LW.v0; rfl; rfl; apply ValP.assign; rfl; apply LW.nil; refine blkN ?_; refine thenN ?_; refine CW.region ?_; apply LW.v0; rfl; rfl; apply ValP.addI; rfl; rfl; omega; omega; apply LW.v0; rfl; rfl; apply ValP.move; rfl; apply LW.nil; refine thenL ?_)
  (apply RW.step; refine CW.seq ?_; refine CW.region ?_; apply LW.v0; rfl; rfl; apply ValP.lssT; rfl; rfl; omega; apply LW.nil; refine thenN ?_; refine CW.seq ?_; apply CW.condT; rfl; (with_reducible rfl); refine CW.skip ?_; refine thenN ?_; refine CW.seq ?_; refine CW.block ?_; refine CW.seq ?_; refine CW.region ?_; apply LW.v0; rfl; rfl; apply ValP.move; rfl; apply LW.v0; rfl; rfl; apply ValP.assign; rfl; apply LW.nil; refine thenN ?_; apply CW.pre; refine AnyW.any 15 mixed (by decide +kernel) ?_; (try simp only [tsOf_cons, tsOf_nil, tsOf_app]); apply DW.v0; rfl; rfl; rfl; exact WantT.none; rfl; apply ValP.move; rfl; apply DW.v0; rfl; rfl; rfl; exact WantT.none; rfl; apply ValP.move; rfl; apply DW.v0; rfl; rfl; rfl; exact WantT.none; rfl; apply ValP.move; rfl; apply DW.v0; rfl; rfl; rfl; exact WantT.none; rfl; apply ValP.indexAddrL; rfl; rfl; rfl; apply DW.loadO; rfl; rfl; rfl; exact WantT.none; rfl; apply TRead.tail; apply TRead.tail; apply TRead.head; exact ancB_nil; exact Rd.one' rfl; apply DW.v0; rfl; rfl; rfl; exact WantT.none; rfl; apply ValP.move; rfl; apply DW.v0; rfl; rfl; rfl; exact WantT.none; rfl; apply ValP.indexAddrL; rfl; rfl; rfl; apply DW.loadO; rfl; rfl; rfl; exact WantT.none; rfl; apply TRead.tail; apply TRead.head; exact ancB_nil; exact Rd.one' rfl; apply DW.v0; rfl; rfl; rfl; exact WantT.none; rfl; apply ValP.move; rfl; apply DW.callX; rfl; rfl; rfl; exact WantT.none; rfl; apply ArgsOk.cons; rfl; apply ArgsOk.cons; rfl; apply ArgsOk.cons; rfl; exact ArgsOk.nil; rfl; exact h1; apply DW.v0; rfl; rfl; rfl; exact WantT.none; rfl; apply ValP.move; rfl; apply DW.v0; rfl; rfl; rfl; exact WantT.none; rfl; apply ValP.extractN; rfl; rfl; apply DW.v0; rfl; rfl; rfl; exact WantT.none; rfl; apply ValP.extractN; rfl; rfl; apply DW.v0; rfl; rfl; rfl; exact WantT.none; rfl; apply ValP.indexAddrL; rfl; rfl; rfl; apply DW.store; rfl; rfl; exact WantT.none; rfl; rfl; apply TSet.tail; apply TSet.tail; apply TSet.head; exact ancB_nil; kernel_rfl; apply Wr.cells; rfl; rfl; simp only [wc, List.size_toArray, List.length_cons, List.length_nil]; omega; simp only [fillC, wc, wrCells, Value.cells, List.toList_toArray, List.setIfInBounds_toArray, List.set_cons_succ, List.set_cons_zero, Nat.reduceAdd, Nat.reduceMul, Nat.zero_add, Nat.mul_one]; rfl; apply DW.nil; simp only [fsOf_cons, fsOf_nil, fsOf_app, fsOf_tsOf, fsOf_new]; apply LW.v0; rfl; rfl; apply ValP.assign; rfl; apply LW.nil; refine blkN ?_; refine thenN ?_; refine CW.region ?_; apply LW.v0; rfl; rfl; apply ValP.addI; rfl; rfl; omega; omega; apply LW.v0; rfl; rfl; apply ValP.move; rfl; apply LW.nil; refine thenL ?_)
  (apply RW.step; refine CW.seq ?_; refine CW.region ?_; apply LW.v0; rfl; rfl; apply ValP.lssT; rfl; rfl; omega; apply LW.nil; refine thenN ?_; refine CW.seq ?_; apply CW.condT; rfl; (with_reducible rfl); refine CW.skip ?_; refine thenN ?_; refine CW.seq ?_; refine CW.block ?_; refine CW.seq ?_; refine CW.region ?_; apply LW.v0; rfl; rfl; apply ValP.move; rfl; apply LW.v0; rfl; rfl; apply ValP.assign; rfl; apply LW.nil; refine thenN ?_; apply CW.pre; refine AnyW.any 15 mixed (by decide +kernel) ?_; (try simp only [tsOf_cons, tsOf_nil, tsOf_app]); apply DW.v0; rfl; rfl; rfl; exact WantT.none; rfl; apply ValP.move; rfl; apply DW.v0; rfl; rfl; rfl; exact WantT.none; rfl; apply ValP.move; rfl; apply DW.v0; rfl; rfl; rfl; exact WantT.none; rfl; apply ValP.move; rfl; apply DW.v0; rfl; rfl; rfl; exact WantT.none; rfl; apply ValP.indexAddrL; rfl; rfl; rfl; apply DW.loadO; rfl; rfl; rfl; exact WantT.none; rfl; apply TRead.tail; apply TRead.tail; apply TRead.head; exact ancB_nil; exact Rd.one' rfl; apply DW.v0; rfl; rfl; rfl; exact WantT.none; rfl; apply ValP.move; rfl; apply DW.v0; rfl; rfl; rfl; exact WantT.none; rfl; apply ValP.indexAddrL; rfl; rfl; rfl; apply DW.loadO; rfl; rfl; rfl; exact WantT.none; rfl; apply TRead.tail; apply TRead.head; exact ancB_nil; exact Rd.one' rfl; apply DW.v0; rfl; rfl; rfl; exact WantT.none; rfl; apply ValP.move; rfl; apply DW.callX; rfl; rfl; rfl; exact WantT.none; rfl; apply ArgsOk.cons; rfl; apply ArgsOk.cons; rfl; apply ArgsOk.cons; rfl; exact ArgsOk.nil; rfl; exact h2; apply DW.v0; rfl; rfl; rfl; exact WantT.none; rfl; apply ValP.move; rfl; apply DW.v0; rfl; rfl; rfl; exact WantT.none; rfl; apply ValP.extractN; rfl; rfl; apply DW.v0; rfl; rfl; rfl; exact WantT.none; rfl; apply ValP.extractN; rfl; rfl; apply DW.v0; rfl; rfl; rfl; exact WantT.none; rfl; apply ValP.indexAddrL; rfl; rfl; rfl; apply DW.store; rfl; rfl; exact WantT.none; rfl; rfl; apply TSet.tail; apply TSet.tail; apply TSet.head; exact ancB_nil; kernel_rfl; apply Wr.cells; rfl; rfl; simp only [wc, List.size_toArray, List.length_cons, List.length_nil]; omega; simp only [fillC, wc, wrCells, Value.cells, List.toList_toArray, List.setIfInBounds_toArray, List.set_cons_succ, List.set_cons_zero, Nat.reduceAdd, Nat.reduceMul, Nat.zero_add, Nat.mul_one]; rfl; apply DW.nil; simp only [fsOf_cons, fsOf_nil, fsOf_app, fsOf_tsOf, fsOf_new]; apply LW.v0; rfl; rfl; apply ValP.assign; rfl; apply LW.nil; refine blkN ?_; refine thenN ?_; refine CW.region ?_; apply LW.v0; rfl; rfl; apply ValP.addI; rfl; rfl; omega; omega; apply LW.v0; rfl; rfl; apply ValP.move; rfl; apply LW.nil; refine thenL ?_)
  (apply RW.step; refine CW.seq ?_; refine CW.region ?_; apply LW.v0; rfl; rfl; apply ValP.lssT; rfl; rfl; omega; apply LW.nil; refine thenN ?_; refine CW.seq ?_; apply CW.condT; rfl; (with_reducible rfl); refine CW.skip ?_; refine thenN ?_; refine CW.seq ?_; refine CW.block ?_; refine CW.seq ?_; refine CW.region ?_; apply LW.v0; rfl; rfl; apply ValP.move; rfl; apply LW.v0; rfl; rfl; apply ValP.assign; rfl; apply LW.nil; refine thenN ?_; apply CW.pre; refine AnyW.any 15 mixed (by decide +kernel) ?_; (try simp only [tsOf_cons, tsOf_nil, tsOf_app]); apply DW.v0; rfl; rfl; rfl; exact WantT.none; rfl; apply ValP.move; rfl; apply DW.v0; rfl; rfl; rfl; exact WantT.none; rfl; apply ValP.move; rfl; apply DW.v0; rfl; rfl; rfl; exact WantT.none; rfl; apply ValP.move; rfl; apply DW.v0; rfl; rfl; rfl; exact WantT.none; rfl; apply ValP.indexAddrL; rfl; rfl; rfl; apply DW.loadO; rfl; rfl; rfl; exact WantT.none; rfl; apply TRead.tail; apply TRead.tail; apply TRead.head; exact ancB_nil; exact Rd.one' rfl; apply DW.v0; rfl; rfl; rfl; exact WantT.none; rfl; apply ValP.move; rfl; apply DW.v0; rfl; rfl; rfl; exact WantT.none; rfl; apply ValP.indexAddrL; rfl; rfl; rfl; apply DW.loadO; rfl; rfl; rfl; exact WantT.none; rfl; apply TRead.tail; apply TRead.head; exact ancB_nil; exact Rd.one' rfl; apply DW.v0; rfl; rfl; rfl; exact WantT.none; rfl; apply ValP.move; rfl; apply DW.callX; rfl; rfl; rfl; exact WantT.none; rfl; apply ArgsOk.cons; rfl; apply ArgsOk.cons; rfl; apply ArgsOk.cons; rfl; exact ArgsOk.nil; rfl; exact h3; apply DW.v0; rfl; rfl; rfl; exact WantT.none; rfl; apply ValP.move; rfl; apply DW.v0; rfl; rfl; rfl; exact WantT.none; rfl; apply ValP.extractN; rfl; rfl; apply DW.v0; rfl; rfl; rfl; exact WantT.none; rfl; apply ValP.extractN; rfl; rfl; apply DW.v0; rfl; rfl; rfl; exact WantT.none; rfl; apply ValP.indexAddrL; rfl; rfl; rfl; apply DW.store; rfl; rfl; exact WantT.none; rfl; rfl; apply TSet.tail; apply TSet.tail; apply TSet.head; exact ancB_nil; kernel_rfl; apply Wr.cells; rfl; rfl; simp only [wc, List.size_toArray, List.length_cons, List.length_nil]; omega; simp only [fillC, wc, wrCells, Value.cells, List.toList_toArray, List.setIfInBounds_toArray, List.set_cons_succ, List.set_cons_zero, Nat.reduceAdd, Nat.reduceMul, Nat.zero_add, Nat.mul_one]; rfl; apply DW.nil; simp only [fsOf_cons, fsOf_nil, fsOf_app, fsOf_tsOf, fsOf_new]; apply LW.v0; rfl; rfl; apply ValP.assign; rfl; apply LW.nil; refine blkN ?_; refine thenN ?_; refine CW.region ?_; apply LW.v0; rfl; rfl; apply ValP.addI; rfl; rfl; omega; omega; apply LW.v0; rfl; rfl; apply ValP.move; rfl; apply LW.nil; refine thenL ?_)
  (apply RW.step; refine CW.seq ?_; refine CW.region ?_; apply LW.v0; rfl; rfl; apply ValP.lssF; rfl; rfl; omega; apply LW.nil; refine thenN ?_; refine CW.seq ?_; apply CW.condF; rfl; (with_reducible rfl); refine CW.exit ?_; refine thenE ?_; refine thenE ?_; refine blkE rfl ?_; refine thenN ?_; refine CW.seq ?_; refine CW.region ?_; apply LW.load; rfl; rfl; apply Known.at; apply FsAt.tail; apply FsAt.tail; apply FsAt.head; exact Rd.whole rfl; apply LW.v0; rfl; rfl; apply ValP.move; rfl; apply LW.v0; rfl; rfl; apply ValP.ne; rfl; rfl; apply LW.store; rfl; rfl; apply SetAt.head; apply Wr.whole; rfl; rfl; rfl; apply LW.v0; rfl; rfl; apply ValP.assign; rfl; apply LW.nil; refine thenN ?_; refine CW.ret ?_)
  (apply finR; exact .inl rfl; rfl; rfl; rfl; apply ResL.cons; apply Res.cell; rfl; apply Known.at; apply FsAt.head; exact Rd.whole rfl; apply ResL.cons; exact Res.tmp rfl; exact ResL.nil)
  rfl
theorem Of_calls (n : Nat) (hn : n < 18446744073709551616) (w : World) : Calls Tryd.prog 22 #[.int .u64 n] w (Ret w (wv n)) := by
  refine enter (args := [_]) _ [] [] Tryd.func22 rfl Tryd.ntmps22 rfl (by simp) .nil ?_
  (refine CW.seq ?_; refine CW.region ?_; apply LW.allocW; rfl; intro _; apply LW.nil; refine thenN ?_; refine CW.seq ?_; refine CW.region ?_; apply LW.v0; rfl; rfl; apply ValP.move; rfl; apply LW.v0; rfl; rfl; apply ValP.buildW1; rfl; omega; apply LW.store; rfl; rfl; apply SetAt.head; apply Wr.whole; rfl; rfl; rfl; apply LW.nil; refine thenN ?_; refine CW.ret ?_)
  (apply finR; exact .inl rfl; rfl; rfl; rfl; apply ResL.cons; apply Res.cell; rfl; apply Known.at; apply FsAt.head; exact Rd.whole rfl; exact ResL.nil)
  rfl
theorem small_or (a : Nat) (ha : a < M256) : (((a / 18446744073709551616 % 18446744073709551616 ||| a / 340282366920938463463374607431768211456 % 18446744073709551616 ||| a / 6277101735386680763835789423207666416102355444464034512896 % 18446744073709551616 : Nat) : Int) = 0) ↔ a < 18446744073709551616 := by
  simp only [M256] at ha
  rw [Int.natCast_eq_zero, Nat.or_eq_zero_iff, Nat.or_eq_zero_iff]
  omega
theorem Small_calls (a : Nat) (ha : a < M256) (w : World) : Calls Tryd.prog 48 #[wv a] w (Ret w (.tuple #[.int .u64 ((if a < 18446744073709551616 then a else 0 : Nat) : Int), .bool (decide (a < 18446744073709551616))])) := by
  refine enter (args := [_]) _ [] [] Tryd.func48 rfl Tryd.ntmps48 rfl (by simp) .nil ?_
  (refine CW.seq ?_; refine CW.region ?_; apply LW.boxA; rfl; rfl; intro _; apply LW.v0; rfl; rfl; apply ValP.assign; rfl; apply LW.v0; rfl; rfl; apply ValP.assign; rfl; apply LW.nil; refine thenN ?_; refine CW.seq ?_; refine CW.seq ?_; refine CW.region ?_; apply LW.v0; rfl; rfl; apply ValP.indexAddrL; rfl; rfl; rfl; apply LW.load; rfl; rfl; apply Known.at; apply FsAt.head; exact Rd.one' rfl; apply LW.v0; rfl; rfl; apply ValP.indexAddrL; rfl; rfl; rfl; apply LW.load; rfl; rfl; apply Known.at; apply FsAt.head; exact Rd.one' rfl; apply LW.v0; rfl; rfl; apply ValP.orU; rfl; rfl; omega; omega; apply LW.v0; rfl; rfl; apply ValP.indexAddrL; rfl; rfl; rfl; apply LW.load; rfl; rfl; apply Known.at; apply FsAt.head; exact Rd.one' rfl; apply LW.v0; rfl; rfl; apply ValP.orU; rfl; rfl; apply or64; omega; omega; omega; apply LW.v0; rfl; rfl; apply ValP.ne; rfl; rfl; apply LW.nil; refine thenN ?_)
  apply CW.cond
  rfl
  · intro hb
    have h : ¬ a < 18446744073709551616 := fun h => by rw [decide_eq_true ((small_or a ha).2 h)] at hb; cases hb
    (refine CW.seq ?_; refine CW.region ?_; apply LW.v0; rfl; rfl; apply ValP.assign; rfl; apply LW.v0; rfl; rfl; apply ValP.assign; rfl; apply LW.nil; refine thenN ?_; refine CW.ret ?_; refine thenR ?_)
    (apply finR; exact .inl rfl; rfl; rfl; rfl; apply ResL.cons; exact Res.tmp rfl; apply ResL.cons; exact Res.tmp rfl; exact ResL.nil)
    rw [if_neg h, decide_eq_false h]; rfl
  · intro hb
    have h : a < 18446744073709551616 := (small_or a ha).1 (by simpa using hb)
    (refine CW.skip ?_; refine thenN ?_; refine CW.seq ?_; refine CW.region ?_; apply LW.v0; rfl; rfl; apply ValP.indexAddrL; rfl; rfl; rfl; apply LW.load; rfl; rfl; apply Known.at; apply FsAt.head; exact Rd.one' rfl; apply LW.v0; rfl; rfl; apply ValP.assign; rfl; apply LW.v0; rfl; rfl; apply ValP.assign; rfl; apply LW.nil; refine thenN ?_; refine CW.ret ?_)
    (apply finR; exact .inl rfl; rfl; rfl; rfl; apply ResL.cons; exact Res.tmp rfl; apply ResL.cons; exact Res.tmp rfl; exact ResL.nil)
    rw [if_pos h, decide_eq_true h, show (a : Int) = ((a % 18446744073709551616 : Nat) : Int) by omega]; rfl
end Go.Proofs.YthhalnmbfokbbaaDoor

/-
  Contracts of the word package: Add, Sub, Cmp, Sum.
  Conditions: none.
-/
namespace Go.Proofs.YthhalnmbfokbbaaDoor
open Go Go.RowKit SL
set_option maxRecDepth 8000
set_option maxHeartbeats 4000000
set_option linter.unusedSimpArgs false
set_option linter.unusedVariables false
attribute [local irreducible] SL.CW SL.LW SL.DW Calls SL.Ret SL.RetG SL.beginQ SL.roundQ SL.rangeQ SL.inQ SL.RW SL.AnyW SL.thenQ SL.thenC SL.thenW SL.blkQ SL.finQ SL.ValP SL.NewP SL.SetP SL.CallP SL.Rd SL.Wr SL.Known
theorem val_limbs (a : Nat) (ha : a < M256) : a = a % 18446744073709551616 + 18446744073709551616 * (a / 18446744073709551616 % 18446744073709551616) + 340282366920938463463374607431768211456 * (a / 340282366920938463463374607431768211456 % 18446744073709551616) + 6277101735386680763835789423207666416102355444464034512896 * (a / 6277101735386680763835789423207666416102355444464034512896 % 18446744073709551616) := by
  simp only [M256] at ha
  omega
theorem over_of {c : Nat} {p : Prop} [Decidable p] (h : (c : Int) = 0 ↔ ¬ p) : (!decide ((c : Int) = 0)) = decide p := by
  by_cases hp : p
  · have : ¬ ((c : Int) = 0) := fun h' => (h.1 h') hp
    rw [decide_eq_false this, decide_eq_true hp]; rfl
  · rw [decide_eq_true (h.2 hp), decide_eq_false hp]; rfl
theorem lim_lt (a : Nat) : a % 18446744073709551616 < 18446744073709551616 ∧ a / 18446744073709551616 % 18446744073709551616 < 18446744073709551616 ∧ a / 340282366920938463463374607431768211456 % 18446744073709551616 < 18446744073709551616 ∧ a / 6277101735386680763835789423207666416102355444464034512896 % 18446744073709551616 < 18446744073709551616 := by
  refine ⟨?_, ?_, ?_, ?_⟩ <;> exact Nat.mod_lt _ (by decide)
theorem add_step (x y c : Nat) (hx : x < 18446744073709551616) (hy : y < 18446744073709551616) (hc : c ≤ 1) : ∃ r c', (∀ w, (callFunc 47 #[.int .u64 x, .int .u64 y, .int .u64 c]).run Tryd.prog w = .ok (.value (.tuple #[.int .u64 (r : Nat), .int .u64 (c' : Nat)])) w) ∧ r + 18446744073709551616 * c' = x + y + c ∧ r < 18446744073709551616 ∧ c' ≤ 1 :=
  ⟨_, _, fun w => add64_run x y c hc w, by omega, by omega, by omega⟩
theorem carried_finAdd (a b a0 a1 a2 a3 b0 b1 b2 b3 r0 r1 r2 r3 c1 c2 c3 c4 : Nat) (va : a = a0 + 18446744073709551616 * a1 + 340282366920938463463374607431768211456 * a2 + 6277101735386680763835789423207666416102355444464034512896 * a3) (vb : b = b0 + 18446744073709551616 * b1 + 340282366920938463463374607431768211456 * b2 + 6277101735386680763835789423207666416102355444464034512896 * b3) (e0 : r0 + 18446744073709551616 * c1 = a0 + b0 + 0) (e1 : r1 + 18446744073709551616 * c2 = a1 + b1 + c1) (e2 : r2 + 18446744073709551616 * c3 = a2 + b2 + c2) (e3 : r3 + 18446744073709551616 * c4 = a3 + b3 + c3) : r0 + 18446744073709551616 * r1 + 340282366920938463463374607431768211456 * r2 + 6277101735386680763835789423207666416102355444464034512896 * r3 + 115792089237316195423570985008687907853269984665640564039457584007913129639936 * c4 = a + b := by omega
theorem carried_valAdd (a b r0 r1 r2 r3 c4 : Nat) (ha : a < M256) (hb : b < M256) (f0 : r0 < 18446744073709551616) (f1 : r1 < 18446744073709551616) (f2 : r2 < 18446744073709551616) (f3 : r3 < 18446744073709551616) (g4 : c4 ≤ 1) (h : r0 + 18446744073709551616 * r1 + 340282366920938463463374607431768211456 * r2 + 6277101735386680763835789423207666416102355444464034512896 * r3 + 115792089237316195423570985008687907853269984665640564039457584007913129639936 * c4 = a + b) : #[Value.int .u64 (r0 : Int), .int .u64 (r1 : Int), .int .u64 (r2 : Int), .int .u64 (r3 : Int)] = wc ((a + b) % M256) :=
  wc_val f0 f1 f2 f3 (by simp only [M256] at *; omega)
theorem carried_overAdd (a b r0 r1 r2 r3 c4 : Nat) (ha : a < M256) (hb : b < M256) (f0 : r0 < 18446744073709551616) (f1 : r1 < 18446744073709551616) (f2 : r2 < 18446744073709551616) (f3 : r3 < 18446744073709551616) (g4 : c4 ≤ 1) (h : r0 + 18446744073709551616 * r1 + 340282366920938463463374607431768211456 * r2 + 6277101735386680763835789423207666416102355444464034512896 * r3 + 115792089237316195423570985008687907853269984665640564039457584007913129639936 * c4 = a + b) : (!decide ((c4 : Int) = 0)) = decide (M256 ≤ a + b) := by
  have : ((c4 : Int) = 0) ↔ ¬ (M256 ≤ a + b) := by simp only [M256] at *; omega
  exact over_of this
theorem carriedAdd_calls (a b : Nat) (ha : a < M256) (hb : b < M256) (w : World) : Calls Tryd.prog 46 #[wv a, wv b, .func (.func 47) #[] #[]] w (Ret w (.tuple #[wv ((a + b) % M256), .bool (decide (M256 ≤ a + b))])) := by
  obtain ⟨la0, la1, la2, la3⟩ := lim_lt a
  obtain ⟨lb0, lb1, lb2, lb3⟩ := lim_lt b
  have va := val_limbs a ha
  have vb := val_limbs b hb
  obtain ⟨r0, c1, h0, e0, f0, g1⟩ := add_step (a % 18446744073709551616) (b % 18446744073709551616) 0 la0 lb0 (by decide)
  obtain ⟨r1, c2, h1, e1, f1, g2⟩ := add_step (a / 18446744073709551616 % 18446744073709551616) (b / 18446744073709551616 % 18446744073709551616) c1 la1 lb1 g1
  obtain ⟨r2, c3, h2, e2, f2, g3⟩ := add_step (a / 340282366920938463463374607431768211456 % 18446744073709551616) (b / 340282366920938463463374607431768211456 % 18446744073709551616) c2 la2 lb2 g2
  obtain ⟨r3, c4, h3, e3, f3, g4⟩ := add_step (a / 6277101735386680763835789423207666416102355444464034512896 % 18446744073709551616) (b / 6277101735386680763835789423207666416102355444464034512896 % 18446744073709551616) c3 la3 lb3 g3
  have key := carried_calls 47 _ _ _ _ _ _ _ _ _ _ _ _ _ _ _ _ w h0 h1 h2 h3
  clear h0 h1 h2 h3
  have h : r0 + 18446744073709551616 * r1 + 340282366920938463463374607431768211456 * r2 + 6277101735386680763835789423207666416102355444464034512896 * r3 + 115792089237316195423570985008687907853269984665640564039457584007913129639936 * c4 = a + b := carried_finAdd _ _ _ _ _ _ _ _ _ _ _ _ _ _ _ _ _ _ va vb e0 e1 e2 e3
  rw [show #[Value.int .u64 (r0 : Int), .int .u64 (r1 : Int), .int .u64 (r2 : Int), .int .u64 (r3 : Int)] = wc ((a + b) % M256) from carried_valAdd _ _ _ _ _ _ _ ha hb f0 f1 f2 f3 g4 h, carried_overAdd _ _ _ _ _ _ _ ha hb f0 f1 f2 f3 g4 h] at key
  exact key
theorem carried_finSub (a b a0 a1 a2 a3 b0 b1 b2 b3 r0 r1 r2 r3 c1 c2 c3 c4 : Nat) (va : a = a0 + 18446744073709551616 * a1 + 340282366920938463463374607431768211456 * a2 + 6277101735386680763835789423207666416102355444464034512896 * a3) (vb : b = b0 + 18446744073709551616 * b1 + 340282366920938463463374607431768211456 * b2 + 6277101735386680763835789423207666416102355444464034512896 * b3) (e0 : r0 + b0 + 0 = a0 + 18446744073709551616 * c1) (e1 : r1 + b1 + c1 = a1 + 18446744073709551616 * c2) (e2 : r2 + b2 + c2 = a2 + 18446744073709551616 * c3) (e3 : r3 + b3 + c3 = a3 + 18446744073709551616 * c4) : r0 + 18446744073709551616 * r1 + 340282366920938463463374607431768211456 * r2 + 6277101735386680763835789423207666416102355444464034512896 * r3 + b = a + 115792089237316195423570985008687907853269984665640564039457584007913129639936 * c4 := by omega
theorem carried_valSub (a b r0 r1 r2 r3 c4 : Nat) (ha : a < M256) (hb : b < M256) (f0 : r0 < 18446744073709551616) (f1 : r1 < 18446744073709551616) (f2 : r2 < 18446744073709551616) (f3 : r3 < 18446744073709551616) (g4 : c4 ≤ 1) (h : r0 + 18446744073709551616 * r1 + 340282366920938463463374607431768211456 * r2 + 6277101735386680763835789423207666416102355444464034512896 * r3 + b = a + 115792089237316195423570985008687907853269984665640564039457584007913129639936 * c4) : #[Value.int .u64 (r0 : Int), .int .u64 (r1 : Int), .int .u64 (r2 : Int), .int .u64 (r3 : Int)] = wc ((a + M256 - b) % M256) :=
  wc_val f0 f1 f2 f3 (by simp only [M256] at *; omega)
theorem carried_overSub (a b r0 r1 r2 r3 c4 : Nat) (ha : a < M256) (hb : b < M256) (f0 : r0 < 18446744073709551616) (f1 : r1 < 18446744073709551616) (f2 : r2 < 18446744073709551616) (f3 : r3 < 18446744073709551616) (g4 : c4 ≤ 1) (h : r0 + 18446744073709551616 * r1 + 340282366920938463463374607431768211456 * r2 + 6277101735386680763835789423207666416102355444464034512896 * r3 + b = a + 115792089237316195423570985008687907853269984665640564039457584007913129639936 * c4) : (!decide ((c4 : Int) = 0)) = decide (a < b) := by
  have : ((c4 : Int) = 0) ↔ ¬ (a < b) := by simp only [M256] at *; omega
  exact over_of this
theorem Add_calls (a b : Nat) (ha : a < M256) (hb : b < M256) (w : World) : Calls Tryd.prog 23 #[wv a, wv b] w (Ret w (.tuple #[wv ((a + b) % M256), .bool (decide (M256 ≤ a + b))])) := by
  refine enter (args := [_, _]) _ [] [] Tryd.func23 rfl Tryd.ntmps23 rfl (by simp) .nil ?_
  (refine CW.seq ?_; refine CW.region ?_; apply LW.boxA; rfl; rfl; intro _; apply LW.boxA; rfl; rfl; intro _; apply LW.allocW; rfl; intro _; apply LW.v0; rfl; rfl; apply ValP.assign; rfl; apply LW.nil; refine thenN ?_; refine CW.seq ?_; refine CW.region ?_; apply LW.load; rfl; rfl; apply Known.at; apply FsAt.tail; apply FsAt.tail; apply FsAt.head; exact Rd.whole rfl; apply LW.load; rfl; rfl; apply Known.at; apply FsAt.tail; apply FsAt.head; exact Rd.whole rfl; apply LW.callE; rfl; rfl; infer_instance; apply ArgsOk.cons; rfl; apply ArgsOk.cons; rfl; apply ArgsOk.cons; rfl; exact ArgsOk.nil; intro w _; refine carriedAdd_calls _ _ ?_ ?_ w; assumption; assumption; apply LW.v0; rfl; rfl; apply ValP.extractN; rfl; rfl; apply LW.v0; rfl; rfl; apply ValP.extractN; rfl; rfl; apply LW.store; rfl; rfl; apply SetAt.head; apply Wr.whole; rfl; rfl; rfl; apply LW.v0; rfl; rfl; apply ValP.assign; rfl; apply LW.nil; refine thenN ?_; refine CW.ret ?_)
  (apply finR; exact .inl rfl; rfl; rfl; rfl; apply ResL.cons; apply Res.cell; rfl; apply Known.at; apply FsAt.head; exact Rd.whole rfl; apply ResL.cons; exact Res.tmp rfl; exact ResL.nil)
  rfl
end Go.Proofs.YthhalnmbfokbbaaDoor

/-
  Contracts of the word package: how words stand; how far a word is moved.
  Conditions: none.
-/
namespace Go.Proofs.YthhalnmbfokbbaaDoor
open Go Go.RowKit SL
set_option maxRecDepth 8000
set_option maxHeartbeats 4000000
set_option linter.unusedSimpArgs false
set_option linter.unusedVariables false
attribute [local irreducible] SL.CW SL.LW SL.DW Calls SL.Ret SL.RetG SL.beginQ SL.roundQ SL.rangeQ SL.inQ SL.RW SL.AnyW SL.thenQ SL.thenC SL.thenW SL.blkQ SL.finQ SL.ValP SL.NewP SL.SetP SL.CallP SL.Rd SL.Wr SL.Known
theorem Cmp_calls (a b : Nat) (ha : a < M256) (hb : b < M256) (w : World) : Calls Tryd.prog 26 #[wv a, wv b] w (Ret w (.int .i64 (if a < b then -1 else if b < a then 1 else 0))) := by
  simp only [M256] at ha hb
  refine enter (args := [_, _]) _ [] [] Tryd.func26 rfl Tryd.ntmps26 rfl (by simp) .nil ?_
  (refine CW.seq ?_; refine CW.region ?_; apply LW.boxA; rfl; rfl; intro _; apply LW.boxA; rfl; rfl; intro _; apply LW.v0; rfl; rfl; apply ValP.assign; rfl; apply LW.nil; refine thenN ?_; refine CW.seq ?_; refine CW.seq ?_; refine CW.region ?_; apply LW.v0; rfl; rfl; apply ValP.assign; rfl; apply LW.nil; refine thenN ?_; refine CW.block ?_)
  apply CW.rounds 5
  (apply RW.step; refine CW.seq ?_; refine CW.seq ?_; refine CW.region ?_; apply LW.v0; rfl; rfl; apply ValP.move; rfl; apply LW.v0; rfl; rfl; apply ValP.geqT; rfl; rfl; omega; apply LW.nil; refine thenN ?_; apply CW.condT; rfl; (with_reducible rfl); refine CW.skip ?_; refine thenN ?_; refine CW.seq ?_; refine CW.block ?_; refine CW.block ?_; refine CW.seq ?_; apply CW.pre; refine AnyW.any 6 mixed (by decide +kernel) ?_; (try simp only [tsOf_cons, tsOf_nil, tsOf_app]); apply DW.v0; rfl; rfl; rfl; exact WantT.none; rfl; apply ValP.move; rfl; apply DW.v0; rfl; rfl; rfl; exact WantT.none; rfl; apply ValP.indexAddrL; rfl; rfl; rfl; apply DW.loadO; rfl; rfl; rfl; exact WantT.none; rfl; apply TRead.tail; apply TRead.head; exact ancB_nil; exact Rd.one' rfl; apply DW.v0; rfl; rfl; rfl; exact WantT.none; rfl; apply ValP.move; rfl; apply DW.v0; rfl; rfl; rfl; exact WantT.none; rfl; apply ValP.indexAddrL; rfl; rfl; rfl; apply DW.loadO; rfl; rfl; rfl; exact WantT.none; rfl; apply TRead.head; exact ancB_nil; exact Rd.one' rfl; apply DW.nil; simp only [fsOf_cons, fsOf_nil, fsOf_app, fsOf_tsOf, fsOf_new]; apply LW.v0; rfl; rfl; apply ValP.lss; rfl; rfl; apply LW.v0; rfl; rfl; apply ValP.assign; rfl; apply LW.nil; refine thenN ?_)
  apply CW.cond
  rfl
  · intro hq
    simp only [decide_eq_true_eq] at hq
    (refine CW.seq ?_; refine CW.region ?_; apply LW.v0; rfl; rfl; apply ValP.assign; rfl; apply LW.nil; refine thenN ?_; refine CW.ret ?_; refine blkR ?_; refine blkR ?_; refine thenR ?_; refine thenR ?_; refine blkR ?_; refine thenR ?_)
    (apply finR; exact .inl rfl; rfl; rfl; rfl; apply ResL.cons; exact Res.tmp rfl; exact ResL.nil)
    (rw [if_pos (by omega)]; rfl)
  intro hq
  simp only [decide_eq_false_iff_not] at hq
  (refine CW.seq ?_; apply CW.pre; refine AnyW.any 6 mixed (by decide +kernel) ?_; (try simp only [tsOf_cons, tsOf_nil, tsOf_app]); apply DW.v0; rfl; rfl; rfl; exact WantT.none; rfl; apply ValP.move; rfl; apply DW.v0; rfl; rfl; rfl; exact WantT.none; rfl; apply ValP.indexAddrL; rfl; rfl; rfl; apply DW.loadO; rfl; rfl; rfl; exact WantT.none; rfl; apply TRead.tail; apply TRead.head; exact ancB_nil; exact Rd.one' rfl; apply DW.v0; rfl; rfl; rfl; exact WantT.none; rfl; apply ValP.move; rfl; apply DW.v0; rfl; rfl; rfl; exact WantT.none; rfl; apply ValP.indexAddrL; rfl; rfl; rfl; apply DW.loadO; rfl; rfl; rfl; exact WantT.none; rfl; apply TRead.head; exact ancB_nil; exact Rd.one' rfl; apply DW.nil; simp only [fsOf_cons, fsOf_nil, fsOf_app, fsOf_tsOf, fsOf_new]; apply LW.v0; rfl; rfl; apply ValP.gtr; rfl; rfl; apply LW.v0; rfl; rfl; apply ValP.assign; rfl; apply LW.nil; refine thenN ?_)
  apply CW.cond
  rfl
  · intro hq
    simp only [decide_eq_true_eq] at hq
    (refine CW.seq ?_; refine CW.region ?_; apply LW.v0; rfl; rfl; apply ValP.assign; rfl; apply LW.nil; refine thenN ?_; refine CW.ret ?_; refine blkR ?_; refine blkR ?_; refine thenR ?_; refine thenR ?_; refine blkR ?_; refine thenR ?_)
    (apply finR; exact .inl rfl; rfl; rfl; rfl; apply ResL.cons; exact Res.tmp rfl; exact ResL.nil)
    (rw [if_neg (by omega), if_pos (by omega)]; rfl)
  intro hq
  simp only [decide_eq_false_iff_not] at hq
  (refine CW.skip ?_; refine blkN ?_; refine blkN ?_; refine thenN ?_; refine CW.region ?_; apply LW.v0; rfl; rfl; apply ValP.move; rfl; apply LW.v0; rfl; rfl; apply ValP.subI; rfl; rfl; omega; omega; apply LW.v0; rfl; rfl; apply ValP.assign; rfl; apply LW.nil; refine thenL ?_)
  (apply RW.step; refine CW.seq ?_; refine CW.seq ?_; refine CW.region ?_; apply LW.v0; rfl; rfl; apply ValP.move; rfl; apply LW.v0; rfl; rfl; apply ValP.geqT; rfl; rfl; omega; apply LW.nil; refine thenN ?_; apply CW.condT; rfl; (with_reducible rfl); refine CW.skip ?_; refine thenN ?_; refine CW.seq ?_; refine CW.block ?_; refine CW.block ?_; refine CW.seq ?_; apply CW.pre; refine AnyW.any 6 mixed (by decide +kernel) ?_; (try simp only [tsOf_cons, tsOf_nil, tsOf_app]); apply DW.v0; rfl; rfl; rfl; exact WantT.none; rfl; apply ValP.move; rfl; apply DW.v0; rfl; rfl; rfl; exact WantT.none; rfl; apply ValP.indexAddrL; rfl; rfl; rfl; apply DW.loadO; rfl; rfl; rfl; exact WantT.none; rfl; apply TRead.tail; apply TRead.head; exact ancB_nil; exact Rd.one' rfl; apply DW.v0; rfl; rfl; rfl; exact WantT.none; rfl; apply ValP.move; rfl; apply DW.v0; rfl; rfl; rfl; exact WantT.none; rfl; apply ValP.indexAddrL; rfl; rfl; rfl; apply DW.loadO; rfl; rfl; rfl; exact WantT.none; rfl; apply TRead.head; exact ancB_nil; exact Rd.one' rfl; apply DW.nil; simp only [fsOf_cons, fsOf_nil, fsOf_app, fsOf_tsOf, fsOf_new]; apply LW.v0; rfl; rfl; apply ValP.lss; rfl; rfl; apply LW.v0; rfl; rfl; apply ValP.assign; rfl; apply LW.nil; refine thenN ?_)
  apply CW.cond
  rfl
  · intro hq
    simp only [decide_eq_true_eq] at hq
    (refine CW.seq ?_; refine CW.region ?_; apply LW.v0; rfl; rfl; apply ValP.assign; rfl; apply LW.nil; refine thenN ?_; refine CW.ret ?_; refine blkR ?_; refine blkR ?_; refine thenR ?_; refine thenR ?_; refine blkR ?_; refine thenR ?_)
    (apply finR; exact .inl rfl; rfl; rfl; rfl; apply ResL.cons; exact Res.tmp rfl; exact ResL.nil)
    (rw [if_pos (by omega)]; rfl)
  intro hq
  simp only [decide_eq_false_iff_not] at hq
  (refine CW.seq ?_; apply CW.pre; refine AnyW.any 6 mixed (by decide +kernel) ?_; (try simp only [tsOf_cons, tsOf_nil, tsOf_app]); apply DW.v0; rfl; rfl; rfl; exact WantT.none; rfl; apply ValP.move; rfl; apply DW.v0; rfl; rfl; rfl; exact WantT.none; rfl; apply ValP.indexAddrL; rfl; rfl; rfl; apply DW.loadO; rfl; rfl; rfl; exact WantT.none; rfl; apply TRead.tail; apply TRead.head; exact ancB_nil; exact Rd.one' rfl; apply DW.v0; rfl; rfl; rfl; exact WantT.none; rfl; apply ValP.move; rfl; apply DW.v0; rfl; rfl; rfl; exact WantT.none; rfl; apply ValP.indexAddrL; rfl; rfl; rfl; apply DW.loadO; rfl; rfl; rfl; exact WantT.none; rfl; apply TRead.head; exact ancB_nil; exact Rd.one' rfl; apply DW.nil; simp only [fsOf_cons, fsOf_nil, fsOf_app, fsOf_tsOf, fsOf_new]; apply LW.v0; rfl; rfl; apply ValP.gtr; rfl; rfl; apply LW.v0; rfl; rfl; apply ValP.assign; rfl; apply LW.nil; refine thenN ?_)
  apply CW.cond
  rfl
  · intro hq
    simp only [decide_eq_true_eq] at hq
    (refine CW.seq ?_; refine CW.region ?_; apply LW.v0; rfl; rfl; apply ValP.assign; rfl; apply LW.nil; refine thenN ?_; refine CW.ret ?_; refine blkR ?_; refine blkR ?_; refine thenR ?_; refine thenR ?_; refine blkR ?_; refine thenR ?_)
    (apply finR; exact .inl rfl; rfl; rfl; rfl; apply ResL.cons; exact Res.tmp rfl; exact ResL.nil)
    (rw [if_neg (by omega), if_pos (by omega)]; rfl)
  intro hq
  simp only [decide_eq_false_iff_not] at hq
  (refine CW.skip ?_; refine blkN ?_; refine blkN ?_; refine thenN ?_; refine CW.region ?_; apply LW.v0; rfl; rfl; apply ValP.move; rfl; apply LW.v0; rfl; rfl; apply ValP.subI; rfl; rfl; omega; omega; apply LW.v0; rfl; rfl; apply ValP.assign; rfl; apply LW.nil; refine thenL ?_)
  (apply RW.step; refine CW.seq ?_; refine CW.seq ?_; refine CW.region ?_; apply LW.v0; rfl; rfl; apply ValP.move; rfl; apply LW.v0; rfl; rfl; apply ValP.geqT; rfl; rfl; omega; apply LW.nil; refine thenN ?_; apply CW.condT; rfl; (with_reducible rfl); refine CW.skip ?_; refine thenN ?_; refine CW.seq ?_; refine CW.block ?_; refine CW.block ?_; refine CW.seq ?_; apply CW.pre; refine AnyW.any 6 mixed (by decide +kernel) ?_; (try simp only [tsOf_cons, tsOf_nil, tsOf_app]); apply DW.v0; rfl; rfl; rfl; exact WantT.none; rfl; apply ValP.move; rfl; apply DW.v0; rfl; rfl; rfl; exact WantT.none; rfl; apply ValP.indexAddrL; rfl; rfl; rfl; apply DW.loadO; rfl; rfl; rfl; exact WantT.none; rfl; apply TRead.tail; apply TRead.head; exact ancB_nil; exact Rd.one' rfl; apply DW.v0; rfl; rfl; rfl; exact WantT.none; rfl; apply ValP.move; rfl; apply DW.v0; rfl; rfl; rfl; exact WantT.none; rfl; apply ValP.indexAddrL; rfl; rfl; rfl; apply DW.loadO; rfl; rfl; rfl; exact WantT.none; rfl; apply TRead.head; exact ancB_nil; exact Rd.one' rfl; apply DW.nil; simp only [fsOf_cons, fsOf_nil, fsOf_app, fsOf_tsOf, fsOf_new]; apply LW.v0; rfl; rfl; apply ValP.lss; rfl; rfl; apply LW.v0; rfl; rfl; apply ValP.assign; rfl; apply LW.nil; refine thenN ?_)
  apply CW.cond
  rfl
  · intro hq
    simp only [decide_eq_true_eq] at hq
    (refine CW.seq ?_; refine CW.region ?_; apply LW.v0; rfl; rfl; apply ValP.assign; rfl; apply LW.nil; refine thenN ?_; refine CW.ret ?_; refine blkR ?_; refine blkR ?_; refine thenR ?_; refine thenR ?_; refine blkR ?_; refine thenR ?_)
    (apply finR; exact .inl rfl; rfl; rfl; rfl; apply ResL.cons; exact Res.tmp rfl; exact ResL.nil)
    (rw [if_pos (by omega)]; rfl)
  intro hq
  simp only [decide_eq_false_iff_not] at hq
  (refine CW.seq ?_; apply CW.pre; refine AnyW.any 6 mixed (by decide +kernel) ?_; (try simp only [tsOf_cons, tsOf_nil, tsOf_app]); apply DW.v0; rfl; rfl; rfl; exact WantT.none; rfl; apply ValP.move; rfl; apply DW.v0; rfl; rfl; rfl; exact WantT.none; rfl; apply ValP.indexAddrL; rfl; rfl; rfl; apply DW.loadO; rfl; rfl; rfl; exact WantT.none; rfl; apply TRead.tail; apply TRead.head; exact ancB_nil; exact Rd.one' rfl; apply DW.v0; rfl; rfl; rfl; exact WantT.none; rfl; apply ValP.move; rfl; apply DW.v0; rfl; rfl; rfl; exact WantT.none; rfl; apply ValP.indexAddrL; rfl; rfl; rfl; apply DW.loadO; rfl; rfl; rfl; exact WantT.none; rfl; apply TRead.head; exact ancB_nil; exact Rd.one' rfl; apply DW.nil; simp only [fsOf_cons, fsOf_nil, fsOf_app, fsOf_tsOf, fsOf_new]; apply LW.v0; rfl; rfl; apply ValP.gtr; rfl; rfl; apply LW.v0; rfl; rfl; apply ValP.assign; rfl; apply LW.nil; refine thenN ?_)
  apply CW.cond
  rfl
  · intro hq
    simp only [decide_eq_true_eq] at hq
    (refine CW.seq ?_; refine CW.region ?_; apply LW.v0; rfl; rfl; apply ValP.assign; rfl; apply LW.nil; refine thenN ?_; refine CW.ret ?_; refine blkR ?_; refine blkR ?_; refine thenR ?_; refine thenR ?_; refine blkR ?_; refine thenR ?_)
    (apply finR; exact .inl rfl; rfl; rfl; rfl; apply ResL.cons; exact Res.tmp rfl; exact ResL.nil)
    (rw [if_neg (by omega), if_pos (by omega)]; rfl)
  intro hq
  simp only [decide_eq_false_iff_not] at hq
  (refine CW.skip ?_; refine blkN ?_; refine blkN ?_; refine thenN ?_; refine CW.region ?_; apply LW.v0; rfl; rfl; apply ValP.move; rfl; apply LW.v0; rfl; rfl; apply ValP.subI; rfl; rfl; omega; omega; apply LW.v0; rfl; rfl; apply ValP.assign; rfl; apply LW.nil; refine thenL ?_)
  (apply RW.step; refine CW.seq ?_; refine CW.seq ?_; refine CW.region ?_; apply LW.v0; rfl; rfl; apply ValP.move; rfl; apply LW.v0; rfl; rfl; apply ValP.geqT; rfl; rfl; omega; apply LW.nil; refine thenN ?_; apply CW.condT; rfl; (with_reducible rfl); refine CW.skip ?_; refine thenN ?_; refine CW.seq ?_; refine CW.block ?_; refine CW.block ?_; refine CW.seq ?_; apply CW.pre; refine AnyW.any 6 mixed (by decide +kernel) ?_; (try simp only [tsOf_cons, tsOf_nil, tsOf_app]); apply DW.v0; rfl; rfl; rfl; exact WantT.none; rfl; apply ValP.move; rfl; apply DW.v0; rfl; rfl; rfl; exact WantT.none; rfl; apply ValP.indexAddrL; rfl; rfl; rfl; apply DW.loadO; rfl; rfl; rfl; exact WantT.none; rfl; apply TRead.tail; apply TRead.head; exact ancB_nil; exact Rd.one' rfl; apply DW.v0; rfl; rfl; rfl; exact WantT.none; rfl; apply ValP.move; rfl; apply DW.v0; rfl; rfl; rfl; exact WantT.none; rfl; apply ValP.indexAddrL; rfl; rfl; rfl; apply DW.loadO; rfl; rfl; rfl; exact WantT.none; rfl; apply TRead.head; exact ancB_nil; exact Rd.one' rfl; apply DW.nil; simp only [fsOf_cons, fsOf_nil, fsOf_app, fsOf_tsOf, fsOf_new]; apply LW.v0; rfl; rfl; apply ValP.lss; rfl; rfl; apply LW.v0; rfl; rfl; apply ValP.assign; rfl; apply LW.nil; refine thenN ?_)
  apply CW.cond
  rfl
  · intro hq
    simp only [decide_eq_true_eq] at hq
    (refine CW.seq ?_; refine CW.region ?_; apply LW.v0; rfl; rfl; apply ValP.assign; rfl; apply LW.nil; refine thenN ?_; refine CW.ret ?_; refine blkR ?_; refine blkR ?_; refine thenR ?_; refine thenR ?_; refine blkR ?_; refine thenR ?_)
    (apply finR; exact .inl rfl; rfl; rfl; rfl; apply ResL.cons; exact Res.tmp rfl; exact ResL.nil)
    (rw [if_pos (by omega)]; rfl)
  intro hq
  simp only [decide_eq_false_iff_not] at hq
  (refine CW.seq ?_; apply CW.pre; refine AnyW.any 6 mixed (by decide +kernel) ?_; (try simp only [tsOf_cons, tsOf_nil, tsOf_app]); apply DW.v0; rfl; rfl; rfl; exact WantT.none; rfl; apply ValP.move; rfl; apply DW.v0; rfl; rfl; rfl; exact WantT.none; rfl; apply ValP.indexAddrL; rfl; rfl; rfl; apply DW.loadO; rfl; rfl; rfl; exact WantT.none; rfl; apply TRead.tail; apply TRead.head; exact ancB_nil; exact Rd.one' rfl; apply DW.v0; rfl; rfl; rfl; exact WantT.none; rfl; apply ValP.move; rfl; apply DW.v0; rfl; rfl; rfl; exact WantT.none; rfl; apply ValP.indexAddrL; rfl; rfl; rfl; apply DW.loadO; rfl; rfl; rfl; exact WantT.none; rfl; apply TRead.head; exact ancB_nil; exact Rd.one' rfl; apply DW.nil; simp only [fsOf_cons, fsOf_nil, fsOf_app, fsOf_tsOf, fsOf_new]; apply LW.v0; rfl; rfl; apply ValP.gtr; rfl; rfl; apply LW.v0; rfl; rfl; apply ValP.assign; rfl; apply LW.nil; refine thenN ?_)
  apply CW.cond
  rfl
  · intro hq
    simp only [decide_eq_true_eq] at hq
    (refine CW.seq ?_; refine CW.region ?_; apply LW.v0; rfl; rfl; apply ValP.assign; rfl; apply LW.nil; refine thenN ?_; refine CW.ret ?_; refine blkR ?_; refine blkR ?_; refine thenR ?_; refine thenR ?_; refine blkR ?_; refine thenR ?_)
    (apply finR; exact .inl rfl; rfl; rfl; rfl; apply ResL.cons; exact Res.tmp rfl; exact ResL.nil)
    (rw [if_neg (by omega), if_pos (by omega)]; rfl)
  intro hq
  simp only [decide_eq_false_iff_not] at hq
  (refine CW.skip ?_; refine blkN ?_; refine blkN ?_; refine thenN ?_; refine CW.region ?_; apply LW.v0; rfl; rfl; apply ValP.move; rfl; apply LW.v0; rfl; rfl; apply ValP.subI; rfl; rfl; omega; omega; apply LW.v0; rfl; rfl; apply ValP.assign; rfl; apply LW.nil; refine thenL ?_)
  (apply RW.step; refine CW.seq ?_; refine CW.seq ?_; refine CW.region ?_; apply LW.v0; rfl; rfl; apply ValP.move; rfl; apply LW.v0; rfl; rfl; apply ValP.geqF; rfl; rfl; omega; apply LW.nil; refine thenN ?_; apply CW.condF; rfl; (with_reducible rfl); refine CW.exit ?_; refine thenE ?_; refine thenE ?_; refine blkE rfl ?_; refine thenN ?_; refine CW.seq ?_; refine CW.region ?_; apply LW.v0; rfl; rfl; apply ValP.assign; rfl; apply LW.nil; refine thenN ?_; refine CW.ret ?_)
  (apply finR; exact .inl rfl; rfl; rfl; rfl; apply ResL.cons; exact Res.tmp rfl; exact ResL.nil)
  (rw [if_neg (by omega), if_neg (by omega)]; rfl)
end Go.Proofs.YthhalnmbfokbbaaDoor

/-
  Contracts of the word package: how many times a word is in another one, and what is left.
  Conditions: none.
-/
namespace Go.Proofs.YthhalnmbfokbbaaDoor
open Go Go.RowKit SL
set_option maxRecDepth 8000
set_option maxHeartbeats 4000000
set_option linter.unusedSimpArgs false
set_option linter.unusedVariables false
attribute [local irreducible] SL.CW SL.LW SL.DW Calls SL.Ret SL.RetG SL.beginQ SL.roundQ SL.rangeQ SL.inQ SL.RW SL.AnyW SL.thenQ SL.thenC SL.thenW SL.blkQ SL.finQ SL.ValP SL.NewP SL.SetP SL.CallP SL.Rd SL.Wr SL.Known
theorem or_bit (x c : Nat) (hx : x % 2 = 0) (hc : c < 2) : x ||| c = x + c := by
  have h := Nat.two_pow_add_eq_or_of_lt (i := 1) (b := c) (by simpa using hc) (x / 2)
  have e : 2 ^ 1 * (x / 2) = x := by omega
  rw [e] at h
  exact h.symm
theorem fold_bit (n c : Nat) (hn : n % 2 = 0) (hc : c < 2) (hM : n + c < M256) : #[Value.int .u64 ((n % 18446744073709551616 ||| c : Nat) : Int), .int .u64 ((n / 18446744073709551616 % 18446744073709551616 : Nat) : Int), .int .u64 ((n / 340282366920938463463374607431768211456 % 18446744073709551616 : Nat) : Int), .int .u64 ((n / 6277101735386680763835789423207666416102355444464034512896 % 18446744073709551616 : Nat) : Int)] = wc (n + c) := by
  rw [or_bit _ _ (by omega) hc]
  simp only [M256] at hM
  exact wc_val (by omega) (by omega) (by omega) (by omega) (by omega)
theorem bit_and (a k : Nat) (hk : k < 256) : a / 2 ^ (64 * (k / 64)) % 18446744073709551616 / 2 ^ (k % 64) &&& 1 = a / 2 ^ k % 2 := by
  rw [Nat.and_one_is_mod, show (18446744073709551616 : Nat) = 2 ^ (k % 64 + (64 - k % 64)) by rw [show k % 64 + (64 - k % 64) = 64 by omega]]
  rw [Nat.pow_add, Nat.mod_mul_right_div_self, Nat.div_div_eq_div_mul, ← Nat.pow_add, show 64 * (k / 64) + k % 64 = k by omega]
  obtain ⟨j, hj⟩ : ∃ j, 64 - k % 64 = j + 1 := ⟨63 - k % 64, by omega⟩
  rw [hj, Nat.pow_succ, Nat.mod_mod_of_dvd _ ⟨2 ^ j, by rw [Nat.mul_comm]⟩]
theorem div_step (A b q r c : Nat) (hb : 0 < b) (hq : q = A / b) (hr : r = A % b) (hc : c < 2) (h : b ≤ 2 * r + c) : (2 * A + c) / b = 2 * q + 1 ∧ (2 * A + c) % b = 2 * r + c - b := by
  have h1 := Nat.div_add_mod A b
  have h2 := Nat.mod_lt A hb
  rw [← hq, ← hr] at h1
  rw [← hr] at h2
  refine (Nat.div_mod_unique hb).2 ⟨?_, by omega⟩
  have h3 : b * (2 * q + 1) = 2 * (b * q) + b := by rw [Nat.mul_add, Nat.mul_left_comm, Nat.mul_one]
  rw [h3]; omega
theorem div_step' (A b q r c : Nat) (hb : 0 < b) (hq : q = A / b) (hr : r = A % b) (hc : c < 2) (h : ¬ b ≤ 2 * r + c) : (2 * A + c) / b = 2 * q ∧ (2 * A + c) % b = 2 * r + c := by
  have h1 := Nat.div_add_mod A b
  rw [← hq, ← hr] at h1
  refine (Nat.div_mod_unique hb).2 ⟨?_, by omega⟩
  have h3 : b * (2 * q) = 2 * (b * q) := Nat.mul_left_comm _ _ _
  rw [h3]; omega
theorem sub_eq (r c b n : Nat) (hr : r < b) (hb : b < M256) (hc : c < 2) (hn : n = (r + r) % M256) (h : b ≤ 2 * r + c) : (n + c + M256 - b) % M256 = 2 * r + c - b := by
  simp only [M256] at *
  omega
end Go.Proofs.YthhalnmbfokbbaaDoor

/-
  Contracts of the word package: a word's digits.
  Conditions: none.
-/
namespace Go.Proofs.YthhalnmbfokbbaaDoor
open Go Go.RowKit SL
set_option maxRecDepth 8000
set_option maxHeartbeats 4000000
set_option linter.unusedSimpArgs false
set_option linter.unusedVariables false
attribute [local irreducible] SL.CW SL.LW SL.DW Calls SL.Ret SL.RetG SL.beginQ SL.roundQ SL.rangeQ SL.inQ SL.RW SL.AnyW SL.thenQ SL.thenC SL.thenW SL.blkQ SL.finQ SL.ValP SL.NewP SL.SetP SL.CallP SL.Rd SL.Wr SL.Known
/-! ### Digits to the base 16 -/
def hexd (n : Nat) : UInt8 := UInt8.ofNat (if n < 10 then 48 + n else 87 + n)
def hexOf : Nat → Nat → List UInt8
  | 0, _ => []
  | k + 1, n => if n = 0 then [] else hexOf k (n / 16) ++ [hexd (n % 16)]
def hexText (a : Nat) : List UInt8 := if a = 0 then [48] else hexOf 64 a
theorem hexd_get : ∀ k, k < 16 → (⟨#[48, 49, 50, 51, 52, 53, 54, 55, 56, 57, 97, 98, 99, 100, 101, 102]⟩ : ByteArray)[k]? = some (hexd k) := by decide
theorem hexOf_len : ∀ k n, (hexOf k n).length ≤ k
  | 0, _ => by simp [hexOf]
  | k + 1, n => by
    rw [hexOf]
    split
    · simp
    · have := hexOf_len k (n / 16); simp; omega
/-- The digits above the m lowest ones. -/
def hexUp (a m : Nat) : List UInt8 := hexOf (64 - m) (a / 16 ^ m)
theorem hexUp_step (a m : Nat) (hm : m < 64) : hexUp a m = if a / 16 ^ m = 0 then [] else hexUp a (m + 1) ++ [hexd (a / 16 ^ m % 16)] := by
  unfold hexUp
  rw [show 64 - m = (64 - (m + 1)) + 1 by omega, hexOf, Nat.pow_succ, Nat.div_div_eq_div_mul]
theorem hexUp_nil (a m : Nat) (hm : m < 64) : hexUp a m = [] ↔ a / 16 ^ m = 0 := by
  rw [hexUp_step a m hm]
  split <;> simp [*]
theorem hexUp_zero (a : Nat) (ha : a < M256) : hexUp a 64 = [] := by simp [hexUp, hexOf]
theorem digit_and (a k : Nat) (hk : k < 64) : a / 2 ^ (64 * (0 + k / 16 * 1)) % 18446744073709551616 / 2 ^ (4 * (k % 16)) &&& 15 = a / 16 ^ k % 16 := by
  rw [show (15 : Nat) = 2 ^ 4 - 1 from rfl, Nat.and_two_pow_sub_one_eq_mod, show (18446744073709551616 : Nat) = 2 ^ (4 * (k % 16) + (64 - 4 * (k % 16))) by rw [show 4 * (k % 16) + (64 - 4 * (k % 16)) = 64 by omega]]
  rw [Nat.pow_add, Nat.mod_mul_right_div_self, Nat.div_div_eq_div_mul, ← Nat.pow_add, show 64 * (0 + k / 16 * 1) + 4 * (k % 16) = 4 * k by omega, Nat.pow_mul]
  obtain ⟨j, hj⟩ : ∃ j, 64 - 4 * (k % 16) = 4 + j := ⟨60 - 4 * (k % 16), by omega⟩
  rw [hj, Nat.pow_add, Nat.mod_mod_of_dvd _ ⟨2 ^ j, rfl⟩]
theorem text_write (a k d : Nat) (l : List UInt8) (hk : k < 64) (hl : l = hexUp a (k + 1)) (hd : d = a / 16 ^ k % 16) (h : 0 < d ∨ l ≠ [] ∨ k = 0) : (if k = 0 then l ++ [hexd d] = hexText a else l ++ [hexd d] = hexUp a k) := by
  subst hl hd
  have e0 : hexUp a 0 = hexOf 64 a := by simp [hexUp]
  by_cases hz : a / 16 ^ k = 0
  · have h1 : hexUp a (k + 1) = [] := by
      by_cases h2 : k + 1 < 64
      · rw [hexUp_nil a (k + 1) h2, Nat.pow_succ, ← Nat.div_div_eq_div_mul, hz, Nat.zero_div]
      · rw [show k + 1 = 64 by omega]; simp [hexUp, hexOf]
    have hk0 : k = 0 := by
      rcases h with h | h | h
      · rw [hz] at h; cases h
      · exact absurd h1 h
      · exact h
    subst hk0
    rw [if_pos rfl, h1, hz]
    have : a = 0 := by simpa using hz
    subst this
    decide
  · have h1 := hexUp_step a k hk
    rw [if_neg hz] at h1
    split
    · rename_i h2; subst h2
      rw [← h1, e0, hexText, if_neg (by simpa using hz)]
    · exact h1.symm
theorem text_skip (a k d : Nat) (l : List UInt8) (ha : a < M256) (hk : k < 64) (hk0 : k ≠ 0) (hl : l = hexUp a (k + 1)) (hd : d = a / 16 ^ k % 16) (h0 : d = 0) (hn : l = []) : (if k = 0 then l = hexText a else l = hexUp a k) := by
  rw [if_neg hk0, hexUp_step a k hk]
  split
  · exact hn
  · rename_i hz
    subst hn
    by_cases h2 : k + 1 < 64
    · have := (hexUp_nil a (k + 1) h2).1 hl.symm
      rw [Nat.pow_succ, ← Nat.div_div_eq_div_mul] at this
      omega
    · have h3 : k = 63 := by omega
      subst h3
      have : a / 16 ^ 63 < 16 := Nat.div_lt_of_lt_mul ha
      omega
theorem hexUp_len (a k : Nat) : (hexUp a k).length ≤ 64 - k := hexOf_len _ _
structure TX where
  m : Nat
  p : Value
  v : Value
  seg : Fs
  l : List UInt8
end Go.Proofs.YthhalnmbfokbbaaDoor

/-
  The layer does something; sets of bits.
  Conditions: none.
-/
namespace Go.Proofs.YthhalnmbfokbbaaDoor
open Go Go.RowKit SL
set_option maxRecDepth 8000
set_option maxHeartbeats 4000000
set_option linter.unusedSimpArgs false
set_option linter.unusedVariables false
attribute [local irreducible] SL.CW SL.LW SL.DW Calls SL.Ret SL.RetG SL.beginQ SL.roundQ SL.rangeQ SL.inQ SL.RW SL.AnyW SL.thenQ SL.thenC SL.thenW SL.blkQ SL.finQ SL.ValP SL.NewP SL.SetP SL.CallP SL.Rd SL.Wr SL.Known
theorem AddTop_calls (w : World) : Calls Tryd.prog 23 #[wv (M256 - 1), wv 1] w (Ret w (.tuple #[wv 0, .bool true])) := by
  have := Add_calls (M256 - 1) 1 (by decide) (by decide) w
  rwa [show (M256 - 1 + 1) % M256 = 0 by decide, show decide (M256 ≤ M256 - 1 + 1) = true by decide] at this
/-! ### Sets of bits -/
theorem add_and_xor : ∀ n a b : Nat, a < 2^n → b < 2^n → a + b = 2 * (a &&& b) + (a ^^^ b) := by
  intro n
  induction n with
  | zero => intro a b ha hb; simp at ha hb; subst ha; subst hb; rfl
  | succ n ih =>
    intro a b ha hb
    have h := ih (a/2) (b/2) (by omega) (by omega)
    have e1 : (a &&& b) / 2 = a/2 &&& b/2 := Nat.and_div_two
    have e2 : (a ^^^ b) / 2 = a/2 ^^^ b/2 := Nat.xor_div_two
    have e3 : (a &&& b) % 2 = (a % 2) &&& (b % 2) := by simpa using Nat.and_mod_two_pow (a := a) (b := b) (n := 1)
    have e4 : (a ^^^ b) % 2 = (a % 2) ^^^ (b % 2) := by simpa using Nat.xor_mod_two_pow (a := a) (b := b) (n := 1)
    rw [← e1, ← e2] at h
    rcases Nat.mod_two_eq_zero_or_one a with p | p <;> rcases Nat.mod_two_eq_zero_or_one b with q | q <;> rw [p, q] at e3 e4 <;> simp only [Nat.and_self, Nat.zero_and, Nat.and_zero, Nat.xor_self, Nat.zero_xor, Nat.xor_zero] at e3 e4 <;> omega
theorem demorgan (n a b : Nat) (ha : a < 2^n) (hb : b < 2^n) : 2^n - 1 - (a ||| b) = (2^n - 1 - a) &&& (2^n - 1 - b) := by
  have hab : a ||| b < 2^n := Nat.or_lt_two_pow ha hb
  apply Nat.eq_of_testBit_eq
  intro i
  rw [Nat.testBit_and, Nat.sub_sub, Nat.sub_sub, Nat.sub_sub, Nat.add_comm 1, Nat.add_comm 1, Nat.add_comm 1, Nat.testBit_two_pow_sub_succ hab, Nat.testBit_two_pow_sub_succ ha, Nat.testBit_two_pow_sub_succ hb, Nat.testBit_or]
  cases decide (i < n) <;> cases a.testBit i <;> cases b.testBit i <;> rfl
theorem distr (a b c : Nat) : a &&& (b ||| c) = (a &&& b) ||| (a &&& c) := Nat.and_or_distrib_left a b c
theorem xx (a b : Nat) : (a ^^^ b) ^^^ b = a := by rw [Nat.xor_assoc, Nat.xor_self, Nat.xor_zero]
theorem and256 {a b : Nat} (ha : a < M256) : a &&& b < M256 := Nat.lt_of_le_of_lt Nat.and_le_left ha
theorem or256 {a b : Nat} (ha : a < M256) (hb : b < M256) : a ||| b < M256 := Nat.or_lt_two_pow (n := 256) ha hb
theorem xor256 {a b : Nat} (ha : a < M256) (hb : b < M256) : a ^^^ b < M256 := Nat.xor_lt_two_pow (n := 256) ha hb
end Go.Proofs.YthhalnmbfokbbaaDoor

/-
  Contracts of the word package: sums of many.
  Conditions: none.
-/
namespace Go.Proofs.YthhalnmbfokbbaaDoor
open Go Go.RowKit SL
set_option maxRecDepth 8000
set_option maxHeartbeats 4000000
set_option linter.unusedSimpArgs false
set_option linter.unusedVariables false
attribute [local irreducible] SL.CW SL.LW SL.DW Calls SL.Ret SL.RetG SL.beginQ SL.roundQ SL.rangeQ SL.inQ SL.RW SL.AnyW SL.thenQ SL.thenC SL.thenW SL.blkQ SL.finQ SL.ValP SL.NewP SL.SetP SL.CallP SL.Rd SL.Wr SL.Known
/-- The cells of words. -/
def wcs (l : List Nat) : List Value := l.flatMap fun a => (wc a).toList
theorem wcs_len (l : List Nat) : ∀ a ∈ l, ((wc a).toList).length = 4 := fun _ _ => rfl
theorem take_step (l : List Nat) (m : Nat) (h : m < l.length) : (l.take (m + 1)).sum = (l.take m).sum + l[m] := by
  rw [List.take_succ_eq_append_getElem h, List.sum_append]; simp
end Go.Proofs.YthhalnmbfokbbaaDoor

/-
  The document's answer in bits: contracts.
  Conditions: none.
-/
namespace Go.Proofs.YthhalnmbfokbbaaDoor
open Go Go.RowKit SL
set_option maxRecDepth 8000
set_option maxHeartbeats 4000000
set_option linter.unusedSimpArgs false
set_option linter.unusedVariables false
attribute [local irreducible] SL.CW SL.LW SL.DW Calls SL.Ret SL.RetG SL.beginQ SL.roundQ SL.rangeQ SL.inQ SL.RW SL.AnyW SL.thenQ SL.thenC SL.thenW SL.blkQ SL.finQ SL.ValP SL.NewP SL.SetP SL.CallP SL.Rd SL.Wr SL.Known
theorem Bit_calls (a n : Nat) (ha : a < M256) (hn : n < 9223372036854775808) (w : World) : Calls Tryd.prog 61 #[wv a, .int .i64 (n : Int)] w (Ret w (.int .i64 ((a / 2 ^ n % 2 : Nat) : Int))) := by
  refine enter (args := [_, _]) _ [] [] Tryd.func61 rfl Tryd.ntmps61 rfl (by simp) .nil ?_
  rcases Nat.lt_or_ge n 256 with h | h
  · have hX : a / 2 ^ (64 * (0 + n / 64 * 1)) % 18446744073709551616 / 2 ^ (n % 64) &&& 1 = a / 2 ^ n % 2 := by rw [show 0 + n / 64 * 1 = n / 64 by omega]; exact bit_and a n h
    (refine CW.seq ?_; refine CW.region ?_; apply LW.boxA; rfl; rfl; intro _; apply LW.v0; rfl; rfl; apply ValP.assign; rfl; apply LW.nil; refine thenN ?_; refine CW.seq ?_; refine CW.seq ?_; refine CW.region ?_; apply LW.v0; rfl; rfl; apply ValP.move; rfl; apply LW.v0; rfl; rfl; apply ValP.lssF; rfl; rfl; omega; apply LW.v0; rfl; rfl; apply ValP.move; rfl; apply LW.guardT'; rfl; rfl; (with_reducible rfl); apply LW.v0; rfl; rfl; apply ValP.move; rfl; apply LW.guardT'; rfl; rfl; (with_reducible rfl); apply LW.v0; rfl; rfl; apply ValP.gtrF; rfl; rfl; omega; apply LW.v0; rfl; rfl; apply ValP.pickF'; rfl; (with_reducible rfl); rfl; apply LW.nil; refine thenN ?_; apply CW.condF; rfl; (with_reducible rfl); refine CW.skip ?_; refine thenN ?_; refine CW.seq ?_; refine CW.region ?_; apply LW.v0; rfl; rfl; apply ValP.move; rfl; apply LW.v0; rfl; rfl; apply ValP.quoZL; rfl; rfl; decide; omega; omega; apply LW.v0; rfl; rfl; apply ValP.indexAddrA; rfl; rfl; rfl; omega; apply LW.load; rfl; rfl; apply Known.at; apply FsAt.head; apply Rd.one'; apply nth_wc; omega; apply LW.v0; rfl; rfl; apply ValP.move; rfl; apply LW.v0; rfl; rfl; apply ValP.remZL; rfl; rfl; decide; omega; apply LW.v0; rfl; rfl; apply ValP.shrU; rfl; rfl; omega; apply LW.v0; rfl; rfl; apply ValP.andUL; rfl; rfl; decide; apply div64; omega; omega; apply LW.v0; rfl; rfl; apply ValP.convI; rfl; omega; omega; apply LW.v0; rfl; rfl; apply ValP.assign; rfl; apply LW.nil; refine thenN ?_; refine CW.ret ?_)
    (apply finR; exact .inl rfl; rfl; rfl; rfl; apply ResL.cons; exact Res.tmp rfl; exact ResL.nil)
    rw [hX]; rfl
  · have h0 : a / 2 ^ n % 2 = 0 := by
      rw [Nat.div_eq_of_lt]
      exact Nat.lt_of_lt_of_le ha (Nat.pow_le_pow_right (n := 2) (by decide) h)
    (refine CW.seq ?_; refine CW.region ?_; apply LW.boxA; rfl; rfl; intro _; apply LW.v0; rfl; rfl; apply ValP.assign; rfl; apply LW.nil; refine thenN ?_; refine CW.seq ?_; refine CW.seq ?_; refine CW.region ?_; apply LW.v0; rfl; rfl; apply ValP.move; rfl; apply LW.v0; rfl; rfl; apply ValP.lssF; rfl; rfl; omega; apply LW.v0; rfl; rfl; apply ValP.move; rfl; apply LW.guardT'; rfl; rfl; (with_reducible rfl); apply LW.v0; rfl; rfl; apply ValP.move; rfl; apply LW.guardT'; rfl; rfl; (with_reducible rfl); apply LW.v0; rfl; rfl; apply ValP.gtrT; rfl; rfl; omega; apply LW.v0; rfl; rfl; apply ValP.pickF'; rfl; (with_reducible rfl); rfl; apply LW.nil; refine thenN ?_; apply CW.condT; rfl; (with_reducible rfl); refine CW.seq ?_; refine CW.region ?_; apply LW.v0; rfl; rfl; apply ValP.assign; rfl; apply LW.nil; refine thenN ?_; refine CW.ret ?_; refine thenR ?_)
    (apply finR; exact .inl rfl; rfl; rfl; rfl; apply ResL.cons; exact Res.tmp rfl; exact ResL.nil)
    rw [h0]; rfl
/-- The bits of a number, so many of them. -/
def bl (a m : Nat) : List Nat := (List.range m).map fun n => a / 2 ^ n % 2
theorem bl_len (a m : Nat) : (bl a m).length = m := by simp [bl]
theorem bl_succ (a m : Nat) : bl a (m + 1) = bl a m ++ [a / 2 ^ m % 2] := by simp [bl, List.range_succ]
theorem bl_get (a m i : Nat) (h : i < m) : (bl a m)[i]? = some (a / 2 ^ i % 2) := by simp [bl, h]
structure RX where
  m : Nat
  v : Value
  seg : Fs
theorem bits_calls (a m : Nat) (ha : a < M256) (hm : m < 1000) (w : World) : Calls Tryd.prog 59 #[wv a, .int .i64 (m : Int)] w (RetG w [] fun v gs => IsRow 3 1 v m (ics (bl a m)) gs) := by
  refine enter (args := [_, _]) _ [] [] Tryd.func59 rfl Tryd.ntmps59 rfl (by simp) .nil ?_
  (refine CW.seq ?_; refine CW.region ?_; apply LW.boxA; rfl; rfl; intro _; apply LW.v0; rfl; rfl; apply ValP.assign; rfl; apply LW.nil; refine thenN ?_; refine CW.seq ?_; refine CW.region ?_; apply LW.v0; rfl; rfl; apply ValP.assign; rfl; apply LW.nil; refine thenN ?_; refine CW.seq ?_; refine CW.seq ?_; refine CW.region ?_; apply LW.v0; rfl; rfl; apply ValP.move; rfl; apply LW.v0; rfl; rfl; apply ValP.move; rfl; apply LW.nil; refine thenN ?_; refine CW.block ?_)
  rename_i b
  refine CW.loop (fun x : RX => ([(8, .int .i64 (x.m : Int)), (7, .int .i64 (m : Int)), (5, x.v), (2, .pointer (some ⟨b, 0, none⟩))], x.seg ++ [(b, .cells (wc a) 40 (0, 0))]))
    (fun x => x.m ≤ m ∧ IsRow 3 1 x.v x.m (ics (bl a x.m)) x.seg) (fun x => m - x.m) ⟨0, .slice none 0 0, []⟩ ⟨Nat.zero_le _, .nil⟩ ⟨rfl, rfl, rfl, rfl, trivial⟩ (List.Sublist.refl _) ?_
  rintro ⟨k, v, seg⟩ ⟨hk, hrow⟩
  dsimp only at hk hrow ⊢
  obtain ⟨p, c, rfl⟩ := hrow.form
  rcases Nat.lt_or_ge k m with hlt | hge
  · (refine CW.seq ?_; refine CW.region ?_; apply LW.v0; rfl; rfl; apply ValP.lssT; rfl; rfl; omega; apply LW.nil; refine thenN ?_; refine CW.seq ?_; apply CW.condT; rfl; (with_reducible rfl); refine CW.skip ?_; refine thenN ?_; refine CW.seq ?_; refine CW.block ?_; refine CW.seq ?_; refine CW.region ?_; apply LW.v0; rfl; rfl; apply ValP.move; rfl; apply LW.v0; rfl; rfl; apply ValP.assign; rfl; apply LW.nil; refine thenN ?_; refine CW.region ?_; apply LW.v0; rfl; rfl; apply ValP.move; rfl; apply LW.load; rfl; rfl; apply Known.at; apply FsAt.app; apply FsAt.head; exact Rd.whole rfl; apply LW.v0; rfl; rfl; apply ValP.move; rfl; apply LW.callE; rfl; rfl; infer_instance; apply ArgsOk.cons; rfl; apply ArgsOk.cons; rfl; exact ArgsOk.nil; intro w _; refine Bit_calls _ _ ?_ ?_ w; assumption; omega; apply LW.lay1; rfl; infer_instance; infer_instance; rfl; rfl; rfl; rfl; rfl; rfl; intro _)
    (apply LW.append; (case hrow => assumption); rfl; rfl; infer_instance; infer_instance; infer_instance; rfl; rfl; rfl; apply AtSeg.cons; exact AtSeg.head; apply Known.at; apply FsAt.head; rfl; rfl; rfl; omega; simp only [maxLen]; omega; omega; intro v' seg' hrow'; obtain ⟨p', c', rfl⟩ := hrow'.form; (refine ⟨_, (by (repeat (first | exact AtSeg.head | apply AtSeg.cons | apply AtSeg.app))), ?_⟩); (try simp only [List.cons_append, List.nil_append]))
    (apply LW.v0; rfl; rfl; apply ValP.assign; rfl; apply LW.nil; refine blkN ?_; refine thenN ?_; refine CW.region ?_; apply LW.v0; rfl; rfl; apply ValP.addZL; rfl; rfl; decide; omega; apply LW.v0; rfl; rfl; apply ValP.move; rfl; apply LW.nil)
    apply thenX
    exact ⟨rfl, ⟨k + 1, _, seg'⟩, ⟨hlt, by rw [bl_succ, ics_app]; exact hrow'⟩, by show m - (k + 1) < m - k; omega, ⟨rfl, rfl, rfl, rfl, trivial⟩, by (apply List.Sublist.cons; exact List.Sublist.refl _)⟩
  · obtain rfl : k = m := by omega
    (refine CW.seq ?_; refine CW.region ?_; apply LW.v0; rfl; rfl; apply ValP.lssF; rfl; rfl; omega; apply LW.nil; refine thenN ?_; refine CW.seq ?_; apply CW.condF; rfl; (with_reducible rfl); refine CW.exit ?_; refine thenE ?_; refine thenE ?_; refine blkE rfl ?_; refine thenN ?_; refine CW.seq ?_; refine CW.region ?_; apply LW.v0; rfl; rfl; apply ValP.move; rfl; apply LW.v0; rfl; rfl; apply ValP.assign; rfl; apply LW.nil; refine thenN ?_; refine CW.ret ?_)
    (apply finM seg; exact .inl rfl; exact Shut.nil; rfl; apply ResL.cons; exact Res.tmp rfl; exact ResL.nil; exact List.sublist_append_left _ _)
    exact hrow
end Go.Proofs.YthhalnmbfokbbaaDoor

/-
  The document's answer in bits: sums, and the word of bits.
  Conditions: none.
-/
namespace Go.Proofs.YthhalnmbfokbbaaDoor
open Go Go.RowKit SL
set_option maxRecDepth 8000
set_option maxHeartbeats 4000000
set_option linter.unusedSimpArgs false
set_option linter.unusedVariables false
attribute [local irreducible] SL.CW SL.LW SL.DW Calls SL.Ret SL.RetG SL.beginQ SL.roundQ SL.rangeQ SL.inQ SL.RW SL.AnyW SL.thenQ SL.thenC SL.thenW SL.blkQ SL.finQ SL.ValP SL.NewP SL.SetP SL.CallP SL.Rd SL.Wr SL.Known
theorem pow_pos2 (k : Nat) : 0 < 2 ^ k := Nat.pow_pos (by decide)
theorem bl_mod (x m : Nat) : bl x m = bl (x % 2 ^ m) m := by
  apply List.ext_getElem?
  intro i
  rcases Nat.lt_or_ge i m with h | h
  · rw [bl_get _ _ _ h, bl_get _ _ _ h]
    obtain ⟨j, rfl⟩ : ∃ j, m = i + (j + 1) := ⟨m - i - 1, by omega⟩
    rw [Nat.pow_add, Nat.mod_mul_right_div_self, Nat.pow_succ, Nat.mod_mod_of_dvd _ ⟨2 ^ j, by rw [Nat.mul_comm]⟩]
  · rw [List.getElem?_eq_none (by rw [bl_len]; exact h), List.getElem?_eq_none (by rw [bl_len]; exact h)]
/-- What is carried behind k bits. -/
def car (x y k : Nat) : Nat := (x % 2 ^ k + y % 2 ^ k) / 2 ^ k
theorem car_lt (x y k : Nat) : car x y k < 2 := by
  have h1 := Nat.mod_lt x (pow_pos2 k); have h2 := Nat.mod_lt y (pow_pos2 k)
  exact Nat.div_lt_of_lt_mul (by omega)
theorem car_succ (x y k : Nat) : car x y (k + 1) = (x / 2 ^ k % 2 + y / 2 ^ k % 2 + car x y k) / 2 := by
  unfold car
  rw [Nat.mod_pow_succ, Nat.mod_pow_succ, show x % 2 ^ k + 2 ^ k * (x / 2 ^ k % 2) + (y % 2 ^ k + 2 ^ k * (y / 2 ^ k % 2)) = x % 2 ^ k + y % 2 ^ k + 2 ^ k * (x / 2 ^ k % 2 + y / 2 ^ k % 2) by rw [Nat.mul_add]; omega,
    Nat.pow_succ, ← Nat.div_div_eq_div_mul, Nat.add_mul_div_left _ _ (pow_pos2 k), Nat.add_comm]
theorem sum_bit (x y k : Nat) : (x + y) / 2 ^ k = x / 2 ^ k + y / 2 ^ k + car x y k := by
  have h1 := Nat.div_add_mod x (2 ^ k); have h2 := Nat.div_add_mod y (2 ^ k)
  unfold car
  conv => lhs; rw [← h1, ← h2, show 2 ^ k * (x / 2 ^ k) + x % 2 ^ k + (2 ^ k * (y / 2 ^ k) + y % 2 ^ k) = x % 2 ^ k + y % 2 ^ k + 2 ^ k * (x / 2 ^ k + y / 2 ^ k) by rw [Nat.mul_add]; omega]
  rw [Nat.add_mul_div_left _ _ (pow_pos2 k), Nat.add_comm]
structure RC where
  m : Nat
  v : Value
  seg : Fs
theorem add_calls (x y m : Nat) (hx : x < 2 ^ m) (hy : y < 2 ^ m) (hm : m < 1000) (va vb : Value) (w : World) (h1 : RowAt w 1 va m (ics (bl x m))) (h2 : RowAt w 1 vb m (ics (bl y m))) :
    Calls Tryd.prog 58 #[va, vb] w (RetG w [] fun v gs => IsRow 3 1 v (m + 1) (ics (bl (x + y) (m + 1))) gs) := by
  obtain ⟨p1, c1, rfl, hc1, hm1⟩ := h1.form
  obtain ⟨p2, c2, rfl, hc2, hm2⟩ := h2.form
  refine enter (args := [_, _]) _ [] [] Tryd.func58 rfl Tryd.ntmps58 rfl (by simp) .nil ?_
  (refine CW.seq ?_; refine CW.region ?_; apply LW.v0; rfl; rfl; apply ValP.assign; rfl; apply LW.nil; refine thenN ?_; refine CW.seq ?_; refine CW.region ?_; apply LW.v0; rfl; rfl; apply ValP.assign; rfl; apply LW.nil; refine thenN ?_; refine CW.seq ?_; refine CW.region ?_; apply LW.v0; rfl; rfl; apply ValP.assign; rfl; apply LW.nil; refine thenN ?_; refine CW.seq ?_; refine CW.seq ?_; refine CW.region ?_; apply LW.v0; rfl; rfl; apply ValP.move; rfl; apply LW.v0; rfl; rfl; apply ValP.lenR; rfl; infer_instance; rfl; apply LW.v0; rfl; rfl; apply ValP.move; rfl; apply LW.nil; refine thenN ?_; refine CW.block ?_)
  refine CW.loop (fun z : RC => ([(11, .int .i64 (z.m : Int)), (10, .int .i64 (m : Int)), (6, .int .i64 (car x y z.m : Int)), (5, z.v), (0, .slice p1 m c1), (1, .slice p2 m c2)], z.seg ++ []))
    (fun z => z.m ≤ m ∧ IsRow 3 1 z.v z.m (ics (bl (x + y) z.m)) z.seg) (fun z => m - z.m) ⟨0, .slice none 0 0, []⟩ ⟨Nat.zero_le _, .nil⟩ ⟨rfl, rfl, by rw [show car x y 0 = 0 by simp [car, Nat.mod_one]]; rfl, rfl, rfl, rfl, trivial⟩ (List.Sublist.refl _) ?_
  rintro ⟨k, v, seg⟩ ⟨hk, hrow⟩
  dsimp only at hk hrow ⊢
  obtain ⟨p, c, rfl⟩ := hrow.form
  have hcar := car_lt x y k
  rcases Nat.lt_or_ge k m with hlt | hge
  · obtain ⟨ba, oa, _, csa, Ea, fra, ea, hba, hxa⟩ := h1.pos (by omega)
    obtain ⟨bb, ob, _, csb, Eb, frb, eb, hbb, hxb⟩ := h2.pos (by omega)
    cases ea
    cases eb
    have hra : Rd Tryd.prog 3 (.cells csa Ea fra) (oa + k * 1) (.int .i64 ((x / 2 ^ k % 2 : Nat) : Int)) := Rd.elem1 hxa (ics_len _) (bl_get x m k hlt) rfl
    have hrb : Rd Tryd.prog 3 (.cells csb Eb frb) (ob + k * 1) (.int .i64 ((y / 2 ^ k % 2 : Nat) : Int)) := Rd.elem1 hxb (ics_len _) (bl_get y m k hlt) rfl
    have hd : (x / 2 ^ k % 2 + y / 2 ^ k % 2 + car x y k) % 2 = (x + y) / 2 ^ k % 2 := by rw [sum_bit]; omega
    (refine CW.seq ?_; refine CW.region ?_; apply LW.v0; rfl; rfl; apply ValP.lssT; rfl; rfl; omega; apply LW.nil; refine thenN ?_; refine CW.seq ?_; apply CW.condT; rfl; (with_reducible rfl); refine CW.skip ?_; refine thenN ?_; refine CW.seq ?_; refine CW.block ?_; refine CW.seq ?_; refine CW.region ?_; apply LW.v0; rfl; rfl; apply ValP.move; rfl; apply LW.v0; rfl; rfl; apply ValP.assign; rfl; apply LW.nil; refine thenN ?_; refine CW.seq ?_; apply CW.pre; refine AnyW.any 10 mixed (by decide +kernel) ?_; (try simp only [tsOf_cons, tsOf_nil, tsOf_app]); apply DW.v0; rfl; rfl; rfl; exact WantT.none; rfl; apply ValP.move; rfl; apply DW.v0; rfl; rfl; rfl; exact WantT.none; rfl; apply ValP.move; rfl; apply DW.v0; rfl; rfl; rfl; exact WantT.none; rfl; apply ValP.indexAddrS; rfl; rfl; rfl; omega; apply DW.loadX; rfl; rfl; rfl; exact WantT.none; rfl; assumption; simp; assumption; apply DW.v0; rfl; rfl; rfl; exact WantT.none; rfl; apply ValP.move; rfl; apply DW.v0; rfl; rfl; rfl; exact WantT.none; rfl; apply ValP.move; rfl; apply DW.v0; rfl; rfl; rfl; exact WantT.none; rfl; apply ValP.indexAddrS; rfl; rfl; rfl; omega; apply DW.loadX; rfl; rfl; rfl; exact WantT.none; rfl; assumption; simp; assumption; apply DW.v0; rfl; rfl; rfl; exact WantT.none; rfl; apply ValP.addZ; rfl; rfl; omega; apply DW.v0; rfl; rfl; rfl; exact WantT.none; rfl; apply ValP.move; rfl; apply DW.nil; simp only [fsOf_cons, fsOf_nil, fsOf_app, fsOf_tsOf, fsOf_new]; apply LW.v0; rfl; rfl; apply ValP.addZ; rfl; rfl; omega; apply LW.v0; rfl; rfl; apply ValP.assign; rfl; apply LW.nil; refine thenN ?_; refine CW.seq ?_; refine CW.region ?_; apply LW.v0; rfl; rfl; apply ValP.move; rfl; apply LW.v0; rfl; rfl; apply ValP.move; rfl; apply LW.v0; rfl; rfl; apply ValP.remZL; rfl; rfl; decide; omega; apply LW.lay1; rfl; infer_instance; infer_instance; rfl; rfl; rfl; rfl; rfl; rfl; intro _)
    (apply LW.append; (case hrow => assumption); rfl; rfl; infer_instance; infer_instance; infer_instance; rfl; rfl; rfl; apply AtSeg.cons; exact AtSeg.head; apply Known.at; apply FsAt.head; rfl; rfl; rfl; omega; simp only [maxLen]; omega; omega; intro v' seg' hrow'; obtain ⟨p', c', rfl⟩ := hrow'.form; (refine ⟨_, (by (repeat (first | exact AtSeg.head | apply AtSeg.cons | apply AtSeg.app))), ?_⟩); (try simp only [List.cons_append, List.nil_append]))
    (apply LW.v0; rfl; rfl; apply ValP.assign; rfl; apply LW.nil; refine thenN ?_; refine CW.region ?_; apply LW.v0; rfl; rfl; apply ValP.move; rfl; apply LW.v0; rfl; rfl; apply ValP.quoZL; rfl; rfl; decide; omega; omega; apply LW.v0; rfl; rfl; apply ValP.assign; rfl; apply LW.nil; refine blkN ?_; refine thenN ?_; refine CW.region ?_; apply LW.v0; rfl; rfl; apply ValP.addZL; rfl; rfl; decide; omega; apply LW.v0; rfl; rfl; apply ValP.move; rfl; apply LW.nil)
    apply thenX
    rw [hd] at hrow'
    refine ⟨rfl, ⟨k + 1, _, seg'⟩, ⟨hlt, by rw [bl_succ, ics_app]; exact hrow'⟩, by show m - (k + 1) < m - k; omega, ⟨rfl, rfl, ?_, rfl, rfl, rfl, trivial⟩, by (apply List.Sublist.cons; exact List.Sublist.refl _)⟩
    rw [car_succ]; rfl
  · obtain rfl : k = m := by omega
    have hd : car x y k = (x + y) / 2 ^ k % 2 := by
      rw [sum_bit, Nat.div_eq_of_lt hx, Nat.div_eq_of_lt hy]; omega
    (refine CW.seq ?_; refine CW.region ?_; apply LW.v0; rfl; rfl; apply ValP.lssF; rfl; rfl; omega; apply LW.nil; refine thenN ?_; refine CW.seq ?_; apply CW.condF; rfl; (with_reducible rfl); refine CW.exit ?_; refine thenE ?_; refine thenE ?_; refine blkE rfl ?_; refine thenN ?_; refine CW.seq ?_; refine CW.region ?_; apply LW.v0; rfl; rfl; apply ValP.move; rfl; apply LW.v0; rfl; rfl; apply ValP.move; rfl; apply LW.lay1; rfl; infer_instance; infer_instance; rfl; rfl; rfl; rfl; rfl; rfl; intro _)
    (apply LW.append; (case hrow => assumption); rfl; rfl; infer_instance; infer_instance; infer_instance; rfl; rfl; rfl; apply AtSeg.cons; exact AtSeg.head; apply Known.at; apply FsAt.head; rfl; rfl; rfl; omega; simp only [maxLen]; omega; omega; intro v' seg' hrow'; obtain ⟨p', c', rfl⟩ := hrow'.form; (refine ⟨_, (by (repeat (first | exact AtSeg.head | apply AtSeg.cons | apply AtSeg.app))), ?_⟩); (try simp only [List.cons_append, List.nil_append]))
    (apply LW.drop; exact List.Sublist.cons _ (List.Sublist.refl _))
    (apply LW.v0; rfl; rfl; apply ValP.assign; rfl; apply LW.nil; refine thenN ?_; refine CW.ret ?_)
    rw [hd] at hrow'
    apply finM seg'; (exact .inl rfl); (exact Shut.nil); rfl; (apply ResL.cons; exact Res.tmp rfl; exact ResL.nil); exact List.sublist_append_left _ _
    rw [bl_succ, ics_app]; exact hrow'
theorem limb_or (x k : Nat) (hk : k < 256) : (x % 2 ^ k) / 2 ^ (64 * (k / 64)) % 18446744073709551616 < 2 ^ (k % 64) := by
  have h : x % 2 ^ k < 2 ^ (64 * (k / 64)) * 2 ^ (k % 64) := by rw [← Nat.pow_add, show 64 * (k / 64) + k % 64 = k by omega]; exact Nat.mod_lt _ (pow_pos2 k)
  exact Nat.lt_of_le_of_lt (Nat.mod_le _ _) (Nat.div_lt_of_lt_mul h)
theorem or_add (L P r : Nat) (hP : P = 2 ^ r) (hL : L < P) (hr : r < 64) : (L ||| 1 * 2 ^ r % 18446744073709551616) = L + P := by
  subst hP
  have h64 : 2 ^ r < 18446744073709551616 := Nat.lt_of_le_of_lt (Nat.pow_le_pow_right (n := 2) (by decide) (show r ≤ 63 by omega)) (by decide)
  rw [Nat.one_mul, Nat.mod_eq_of_lt h64, Nat.or_comm, Nat.add_comm]
  have := Nat.two_pow_add_eq_or_of_lt hL 1
  rw [Nat.mul_one] at this
  exact this.symm
theorem wc_setbit (n k : Nat) (hk : k < 256) (hn : n < 2 ^ k) : ((wc n).toList.set (k / 64) (.int .u64 ((n / 2 ^ (64 * (k / 64)) % 18446744073709551616 ||| 1 * 2 ^ (k % 64) % 18446744073709551616 : Nat) : Int))).toArray = wc (n + 2 ^ k) := by
  obtain ⟨r, hr⟩ : ∃ r, r = k % 64 := ⟨_, rfl⟩
  obtain ⟨P, hP⟩ : ∃ P, P = 2 ^ r := ⟨_, rfl⟩
  have hr64 : r < 64 := by omega
  have hP63 : P ≤ 9223372036854775808 := by rw [hP]; exact Nat.le_trans (Nat.pow_le_pow_right (n := 2) (by decide) (show r ≤ 63 by omega)) (by decide)
  have h2k : 2 ^ k = 2 ^ (64 * (k / 64)) * P := by rw [hP, hr, ← Nat.pow_add, show 64 * (k / 64) + k % 64 = k by omega]
  have hlt : n / 2 ^ (64 * (k / 64)) < P := Nat.div_lt_of_lt_mul (by rw [← h2k]; exact hn)
  have hL : n / 2 ^ (64 * (k / 64)) % 18446744073709551616 < P := Nat.lt_of_le_of_lt (Nat.mod_le _ _) hlt
  rw [← hr, or_add _ P r hP hL hr64]
  rw [h2k] at hn ⊢
  rcases (show k / 64 = 0 ∨ k / 64 = 1 ∨ k / 64 = 2 ∨ k / 64 = 3 by omega) with q | q | q | q <;> rw [q] at hlt hL hn ⊢ <;> simp only [wc, List.set_cons_zero, List.set_cons_succ, Nat.mul_zero, Nat.pow_zero, Nat.div_one, Nat.mul_one, Nat.one_mul, Nat.reduceMul, Nat.reducePow] at hlt hL hn ⊢
  · exact wc_val (by omega) (by omega) (by omega) (by omega) (by omega)
  · exact wc_val (by omega) (by omega) (by omega) (by omega) (by omega)
  · exact wc_val (by omega) (by omega) (by omega) (by omega) (by omega)
  · exact wc_val (by omega) (by omega) (by omega) (by omega) (by omega)
theorem of_calls (x m : Nat) (hm : m < 1000) (v : Value) (w : World) (hv : RowAt w 1 v m (ics (bl x m))) : Calls Tryd.prog 60 #[v] w (Ret w (wv (x % 2 ^ min m 256))) := by
  obtain ⟨p, c, rfl, hc, hmx⟩ := hv.form
  refine enter (args := [_]) _ [] [] Tryd.func60 rfl Tryd.ntmps60 rfl (by simp) .nil ?_
  (refine CW.seq ?_; refine CW.region ?_; apply LW.allocW; rfl; intro _; apply LW.nil; refine thenN ?_; refine CW.seq ?_; refine CW.region ?_; apply LW.allocW; rfl; intro _; apply LW.nil; refine thenN ?_; refine CW.seq ?_; refine CW.seq ?_; refine CW.region ?_; apply LW.v0; rfl; rfl; apply ValP.move; rfl; apply LW.v0; rfl; rfl; apply ValP.lenR; rfl; infer_instance; rfl; apply LW.v0; rfl; rfl; apply ValP.move; rfl; apply LW.nil; refine thenN ?_; refine CW.block ?_)
  rename_i b1 b0
  refine CW.loop (fun k : Nat => ([(8, .int .i64 (k : Int)), (7, .int .i64 (m : Int)), (6, .slice p m c), (3, .pointer (some ⟨b0, 0, none⟩)), (2, .pointer (some ⟨b1, 0, none⟩))],
    [(b0, .cells (wc (x % 2 ^ min k 256)) 40 (0, 0)), (b1, .cells (wc 0) 40 (0, 0))]))
    (fun k => k ≤ m) (fun k => m - k) 0 (Nat.zero_le _) ⟨rfl, rfl, rfl, rfl, rfl, trivial⟩ (by simp [Nat.mod_one]) ?_
  intro k hk
  dsimp only at hk ⊢
  rcases Nat.lt_or_ge k m with hlt | hge
  · obtain ⟨ba, oa, _, csa, Ea, fra, ea, hba, hxa⟩ := hv.pos (by omega)
    cases ea
    have hra : Rd Tryd.prog 3 (.cells csa Ea fra) (oa + k * 1) (.int .i64 ((x / 2 ^ k % 2 : Nat) : Int)) := Rd.elem1 hxa (ics_len _) (bl_get x m k hlt) rfl
    rcases Nat.lt_or_ge k 256 with h | h
    · rcases Nat.mod_two_eq_zero_or_one (x / 2 ^ k) with hb | hb
      · (refine CW.seq ?_; refine CW.region ?_; apply LW.v0; rfl; rfl; apply ValP.lssT; rfl; rfl; omega; apply LW.nil; refine thenN ?_; refine CW.seq ?_; apply CW.condT; rfl; (with_reducible rfl); refine CW.skip ?_; refine thenN ?_; refine CW.seq ?_; refine CW.block ?_; refine CW.seq ?_; refine CW.region ?_; apply LW.v0; rfl; rfl; apply ValP.move; rfl; apply LW.v0; rfl; rfl; apply ValP.indexAddrS; rfl; rfl; rfl; omega; apply LW.load; rfl; rfl; exact Known.ext (by assumption) (by simp); assumption; apply LW.v0; rfl; rfl; apply ValP.assign; rfl; apply LW.v0; rfl; rfl; apply ValP.assign; rfl; apply LW.nil; refine thenN ?_; refine CW.seq ?_; refine CW.region ?_; apply LW.v0; rfl; rfl; apply ValP.move; rfl; apply LW.v0; rfl; rfl; apply ValP.lssT; rfl; rfl; omega; apply LW.v0; rfl; rfl; apply ValP.move; rfl; apply LW.guardT'; rfl; rfl; (with_reducible rfl); apply LW.v0; rfl; rfl; apply ValP.move; rfl; apply LW.guardT'; rfl; rfl; (with_reducible rfl); apply LW.v0; rfl; rfl; apply ValP.eqF; rfl; rfl; omega; apply LW.v0; rfl; rfl; apply ValP.pickT'; rfl; (with_reducible rfl); rfl; apply LW.nil; refine thenN ?_; apply CW.condF; rfl; (with_reducible rfl); refine CW.skip ?_; refine blkN ?_; refine thenN ?_; refine CW.region ?_; apply LW.v0; rfl; rfl; apply ValP.addZL; rfl; rfl; decide; omega; apply LW.v0; rfl; rfl; apply ValP.move; rfl; apply LW.nil)
        apply thenX
        refine ⟨rfl, k + 1, hlt, by omega, ⟨rfl, rfl, rfl, rfl, rfl, trivial⟩, ?_⟩
        rw [Nat.min_eq_left h, Nat.mod_pow_succ, hb, Nat.mul_zero, Nat.add_zero, Nat.min_eq_left (Nat.le_of_lt h)]
        (exact List.Sublist.refl _)
      · have hW := wc_setbit (x % 2 ^ k) k h (Nat.mod_lt _ (pow_pos2 k))
        rw [Nat.min_eq_left (Nat.le_of_lt h)]
        (refine CW.seq ?_; refine CW.region ?_; apply LW.v0; rfl; rfl; apply ValP.lssT; rfl; rfl; omega; apply LW.nil; refine thenN ?_; refine CW.seq ?_; apply CW.condT; rfl; (with_reducible rfl); refine CW.skip ?_; refine thenN ?_; refine CW.seq ?_; refine CW.block ?_; refine CW.seq ?_; refine CW.region ?_; apply LW.v0; rfl; rfl; apply ValP.move; rfl; apply LW.v0; rfl; rfl; apply ValP.indexAddrS; rfl; rfl; rfl; omega; apply LW.load; rfl; rfl; exact Known.ext (by assumption) (by simp); assumption; apply LW.v0; rfl; rfl; apply ValP.assign; rfl; apply LW.v0; rfl; rfl; apply ValP.assign; rfl; apply LW.nil; refine thenN ?_; refine CW.seq ?_; refine CW.region ?_; apply LW.v0; rfl; rfl; apply ValP.move; rfl; apply LW.v0; rfl; rfl; apply ValP.lssT; rfl; rfl; omega; apply LW.v0; rfl; rfl; apply ValP.move; rfl; apply LW.guardT'; rfl; rfl; (with_reducible rfl); apply LW.v0; rfl; rfl; apply ValP.move; rfl; apply LW.guardT'; rfl; rfl; (with_reducible rfl); apply LW.v0; rfl; rfl; apply ValP.eqT; rfl; rfl; omega; apply LW.v0; rfl; rfl; apply ValP.pickT'; rfl; (with_reducible rfl); rfl; apply LW.nil; refine thenN ?_; apply CW.condT; rfl; (with_reducible rfl); apply CW.pre; refine AnyW.any 7 mixed (by decide +kernel) ?_; (try simp only [tsOf_cons, tsOf_nil, tsOf_app]); apply DW.v0; rfl; rfl; rfl; exact WantT.none; rfl; apply ValP.move; rfl; apply DW.v0; rfl; rfl; rfl; exact WantT.none; rfl; apply ValP.quoZL; rfl; rfl; decide; omega; omega; apply DW.v0; rfl; rfl; rfl; exact WantT.none; rfl; apply ValP.indexAddrA; rfl; rfl; rfl; omega; apply DW.loadO; rfl; rfl; rfl; exact WantT.none; rfl; apply TRead.head; exact ancB_nil; apply Rd.one'; apply nth_wc; omega; apply DW.v0; rfl; rfl; rfl; exact WantT.none; rfl; apply ValP.move; rfl; apply DW.v0; rfl; rfl; rfl; exact WantT.none; rfl; apply ValP.remZL; rfl; rfl; decide; omega; apply DW.v0; rfl; rfl; rfl; exact WantT.none; rfl; apply ValP.shlU; rfl; rfl; omega; apply DW.nil; simp only [fsOf_cons, fsOf_nil, fsOf_app, fsOf_tsOf, fsOf_new]; apply LW.v0; rfl; rfl; apply ValP.orU; rfl; rfl; omega; omega; apply LW.v0; rfl; rfl; apply ValP.indexAddrA; rfl; rfl; rfl; omega; apply LW.store; rfl; rfl; apply SetAt.head; apply Wr.cells; rfl; rfl; simp only [wc, List.size_toArray, List.length_cons, List.length_nil]; omega; simp only [fillC, wc, wrCells, Value.cells, List.toList_toArray, List.setIfInBounds_toArray, List.set_cons_succ, List.set_cons_zero, Nat.reduceAdd, Nat.reduceMul, Nat.zero_add, Nat.mul_one]; rfl; apply LW.nil; refine blkN ?_; refine thenN ?_; refine CW.region ?_; apply LW.v0; rfl; rfl; apply ValP.addZL; rfl; rfl; decide; omega; apply LW.v0; rfl; rfl; apply ValP.move; rfl; apply LW.nil)
        apply thenX
        refine ⟨rfl, k + 1, hlt, by omega, ⟨rfl, rfl, rfl, rfl, rfl, trivial⟩, ?_⟩
        rw [Nat.min_eq_left h, Nat.mod_pow_succ, hb, Nat.mul_one, ← hW]
        exact List.Sublist.refl _
    · (refine CW.seq ?_; refine CW.region ?_; apply LW.v0; rfl; rfl; apply ValP.lssT; rfl; rfl; omega; apply LW.nil; refine thenN ?_; refine CW.seq ?_; apply CW.condT; rfl; (with_reducible rfl); refine CW.skip ?_; refine thenN ?_; refine CW.seq ?_; refine CW.block ?_; refine CW.seq ?_; refine CW.region ?_; apply LW.v0; rfl; rfl; apply ValP.move; rfl; apply LW.v0; rfl; rfl; apply ValP.indexAddrS; rfl; rfl; rfl; omega; apply LW.load; rfl; rfl; exact Known.ext (by assumption) (by simp); assumption; apply LW.v0; rfl; rfl; apply ValP.assign; rfl; apply LW.v0; rfl; rfl; apply ValP.assign; rfl; apply LW.nil; refine thenN ?_; refine CW.seq ?_; refine CW.region ?_; apply LW.v0; rfl; rfl; apply ValP.move; rfl; apply LW.v0; rfl; rfl; apply ValP.lssF; rfl; rfl; omega; apply LW.v0; rfl; rfl; apply ValP.move; rfl; apply LW.guardF'; rfl; rfl; simp only [Bool.not_true, Bool.not_false]; rfl; apply LW.guardF'; rfl; rfl; simp only [Bool.not_true, Bool.not_false]; rfl; apply LW.v0; rfl; rfl; apply ValP.pickF'; rfl; (with_reducible rfl); rfl; apply LW.nil; refine thenN ?_; apply CW.condF; rfl; (with_reducible rfl); refine CW.skip ?_; refine blkN ?_; refine thenN ?_; refine CW.region ?_; apply LW.v0; rfl; rfl; apply ValP.addZL; rfl; rfl; decide; omega; apply LW.v0; rfl; rfl; apply ValP.move; rfl; apply LW.nil)
      apply thenX
      refine ⟨rfl, k + 1, hlt, by omega, ⟨rfl, rfl, rfl, rfl, rfl, trivial⟩, ?_⟩
      rw [Nat.min_eq_right (Nat.le_succ_of_le h), Nat.min_eq_right h]
      (exact List.Sublist.refl _)
  · obtain rfl : k = m := by omega
    (refine CW.seq ?_; refine CW.region ?_; apply LW.v0; rfl; rfl; apply ValP.lssF; rfl; rfl; omega; apply LW.nil; refine thenN ?_; refine CW.seq ?_; apply CW.condF; rfl; (with_reducible rfl); refine CW.exit ?_; refine thenE ?_; refine thenE ?_; refine blkE rfl ?_; refine thenN ?_; refine CW.seq ?_; refine CW.region ?_; apply LW.load; rfl; rfl; apply Known.at; apply FsAt.head; exact Rd.whole rfl; apply LW.store; rfl; rfl; apply SetAt.tail; apply SetAt.head; apply Wr.whole; rfl; rfl; rfl; apply LW.nil; refine thenN ?_; refine CW.ret ?_)
    (apply finR; exact .inl rfl; rfl; rfl; rfl; apply ResL.cons; apply Res.cell; rfl; apply Known.at; apply FsAt.tail; apply FsAt.head; exact Rd.whole rfl; exact ResL.nil)
    rfl
end Go.Proofs.YthhalnmbfokbbaaDoor

/-
  The document's answer in bits: what is done bit by bit.
  Conditions: none.
-/
namespace Go.Proofs.YthhalnmbfokbbaaDoor
open Go Go.RowKit SL
set_option maxRecDepth 8000
set_option maxHeartbeats 4000000
set_option linter.unusedSimpArgs false
set_option linter.unusedVariables false
attribute [local irreducible] SL.CW SL.LW SL.DW Calls SL.Ret SL.RetG SL.beginQ SL.roundQ SL.rangeQ SL.inQ SL.RW SL.AnyW SL.thenQ SL.thenC SL.thenW SL.blkQ SL.finQ SL.ValP SL.NewP SL.SetP SL.CallP SL.Rd SL.Wr SL.Known
theorem bit_tb (a k : Nat) : a / 2 ^ k % 2 = (a.testBit k).toNat := by rw [Nat.testBit_eq_decide_div_mod_eq]; rcases Nat.mod_two_eq_zero_or_one (a / 2 ^ k) with h | h <;> rw [h] <;> rfl
theorem band_bit (a b k : Nat) : (a &&& b) / 2 ^ k % 2 = a / 2 ^ k % 2 * (b / 2 ^ k % 2) := by
  rw [bit_tb, bit_tb, bit_tb, Nat.testBit_and]; cases a.testBit k <;> cases b.testBit k <;> rfl
theorem bor_bit (a b k : Nat) : (a ||| b) / 2 ^ k % 2 = max (a / 2 ^ k % 2) (b / 2 ^ k % 2) := by
  rw [bit_tb, bit_tb, bit_tb, Nat.testBit_or]; cases a.testBit k <;> cases b.testBit k <;> rfl
theorem bxor_bit (a b k : Nat) : (a ^^^ b) / 2 ^ k % 2 = (a / 2 ^ k % 2 + b / 2 ^ k % 2) % 2 := by
  rw [bit_tb, bit_tb, bit_tb, Nat.testBit_xor]; cases a.testBit k <;> cases b.testBit k <;> rfl
theorem not_bit (a k : Nat) (ha : a < M256) (hk : k < 256) : (M256 - 1 - a) / 2 ^ k % 2 = 1 - a / 2 ^ k % 2 := by
  rw [bit_tb, bit_tb, Nat.sub_sub, Nat.add_comm 1, show M256 = 2 ^ 256 from rfl, Nat.testBit_two_pow_sub_succ (show a < 2 ^ 256 from ha), decide_eq_true hk]; cases a.testBit k <;> rfl
end Go.Proofs.YthhalnmbfokbbaaDoor

/-
  The document's answer in bits: sums, differences, and how words stand.
  Conditions: none.
-/
namespace Go.Proofs.YthhalnmbfokbbaaDoor
open Go Go.RowKit SL
set_option maxRecDepth 8000
set_option maxHeartbeats 4000000
set_option linter.unusedSimpArgs false
set_option linter.unusedVariables false
attribute [local irreducible] SL.CW SL.LW SL.DW Calls SL.Ret SL.RetG SL.beginQ SL.roundQ SL.rangeQ SL.inQ SL.RW SL.AnyW SL.thenQ SL.thenC SL.thenW SL.blkQ SL.finQ SL.ValP SL.NewP SL.SetP SL.CallP SL.Rd SL.Wr SL.Known
def bor (a b k : Nat) : Nat := if a % 2 ^ k < b % 2 ^ k then 1 else 0
theorem bor_lt (a b k : Nat) : bor a b k < 2 := by unfold bor; split <;> omega
theorem bor_succ (a b k : Nat) : bor a b (k + 1) = if a / 2 ^ k % 2 < b / 2 ^ k % 2 + bor a b k then 1 else 0 := by
  have key : (a % 2 ^ (k + 1) < b % 2 ^ (k + 1)) ↔ (a / 2 ^ k % 2 < b / 2 ^ k % 2 + bor a b k) := by
    have h01 : bor a b k = 0 ∧ b % 2 ^ k ≤ a % 2 ^ k ∨ bor a b k = 1 ∧ a % 2 ^ k < b % 2 ^ k := by unfold bor; split <;> omega
    rw [Nat.mod_pow_succ, Nat.mod_pow_succ]
    have h1 := Nat.mod_lt a (pow_pos2 k); have h2 := Nat.mod_lt b (pow_pos2 k)
    generalize bor a b k = C at *
    rcases Nat.mod_two_eq_zero_or_one (a / 2 ^ k) with p | p <;> rcases Nat.mod_two_eq_zero_or_one (b / 2 ^ k) with q | q <;> rw [p, q] <;> simp only [Nat.mul_zero, Nat.mul_one, Nat.add_zero] <;>
      constructor <;> intro h3 <;> omega
  show (if a % 2 ^ (k + 1) < b % 2 ^ (k + 1) then 1 else 0) = _
  by_cases h : a % 2 ^ (k + 1) < b % 2 ^ (k + 1)
  · rw [if_pos h, if_pos (key.1 h)]
  · rw [if_neg h, if_neg (fun h' => h (key.2 h'))]
theorem sub_mod (M a b j m : Nat) (hM : M = 2 ^ j * m) (ha : a < M) (hb : b < M) : (a + M - b) % M % 2 ^ j = a % 2 ^ j + 2 ^ j * bor a b j - b % 2 ^ j := by
  subst hM
  rw [Nat.mod_mod_of_dvd _ ⟨m, rfl⟩]
  have e1 := Nat.div_add_mod a (2 ^ j); have e2 := Nat.div_add_mod b (2 ^ j)
  have h1 := Nat.mod_lt a (pow_pos2 j); have h2 := Nat.mod_lt b (pow_pos2 j)
  have hq : b / 2 ^ j < m := Nat.div_lt_of_lt_mul hb
  obtain ⟨t, ht⟩ : ∃ t, m = b / 2 ^ j + 1 + t := ⟨m - b / 2 ^ j - 1, by omega⟩
  have key : a + 2 ^ j * m - b = (a % 2 ^ j + 2 ^ j * bor a b j - b % 2 ^ j) + 2 ^ j * (a / 2 ^ j + t + 1 - bor a b j) := by
    generalize a / 2 ^ j = qa at *
    generalize b / 2 ^ j = qb at *
    subst ht
    have hb2 := bor_lt a b j
    rw [Nat.mul_add, Nat.mul_add, Nat.mul_one]
    unfold bor at *
    split
    · rw [Nat.mul_one, show qa + t + 1 - 1 = qa + t by omega, Nat.mul_add]; omega
    · rw [Nat.mul_zero, show qa + t + 1 - 0 = qa + t + 1 by omega, Nat.mul_add, Nat.mul_add, Nat.mul_one]; omega
  rw [key, Nat.add_mul_mod_self_left, Nat.mod_eq_of_lt]
  unfold bor
  split <;> omega
theorem sub_bit (a b k : Nat) (hk : k < 256) (ha : a < 2 ^ 256) (hb : b < 2 ^ 256) : (a + 2 ^ 256 - b) % 2 ^ 256 / 2 ^ k % 2 = (a / 2 ^ k % 2 + b / 2 ^ k % 2 + bor a b k) % 2 := by
  obtain ⟨j, hj⟩ : ∃ j, 256 = k + (1 + j) := ⟨255 - k, by omega⟩
  have h1 := sub_mod (2 ^ 256) a b (k + 1) (2 ^ j) (by rw [← Nat.pow_add, Nat.add_assoc, ← hj]) ha hb
  have h0 := sub_mod (2 ^ 256) a b k (2 ^ (1 + j)) (by rw [← Nat.pow_add, ← hj]) ha hb
  have hB : bor a b (k + 1) = 1 ∧ a / 2 ^ k % 2 < b / 2 ^ k % 2 + bor a b k ∨ bor a b (k + 1) = 0 ∧ ¬ a / 2 ^ k % 2 < b / 2 ^ k % 2 + bor a b k := by
    rw [bor_succ]; split <;> simp_all
  generalize (a + 2 ^ 256 - b) % 2 ^ 256 = D at *
  rw [Nat.mod_pow_succ, Nat.mod_pow_succ, Nat.mod_pow_succ] at h1
  have m1 := Nat.mod_lt a (pow_pos2 k); have m2 := Nat.mod_lt b (pow_pos2 k); have m3 := Nat.mod_lt D (pow_pos2 k)
  have h01 : bor a b k = 0 ∧ b % 2 ^ k ≤ a % 2 ^ k ∨ bor a b k = 1 ∧ a % 2 ^ k < b % 2 ^ k := by unfold bor; split <;> omega
  rw [h0] at h1 m3
  rw [Nat.pow_succ] at h1
  generalize bor a b (k + 1) = B at *
  generalize bor a b k = C at *
  have hp2 : a / 2 ^ k % 2 < 2 := by omega
  have hq2 : b / 2 ^ k % 2 < 2 := by omega
  generalize a / 2 ^ k % 2 = p at *
  generalize b / 2 ^ k % 2 = q at *
  generalize hr : D / 2 ^ k % 2 = r at *
  have hr2 : r < 2 := by omega
  generalize 2 ^ k = K at *
  rcases (show r = 0 ∨ r = 1 by omega) with rfl | rfl <;> rcases (show p = 0 ∨ p = 1 by omega) with rfl | rfl <;> rcases (show q = 0 ∨ q = 1 by omega) with rfl | rfl <;> rcases h01 with ⟨rfl, g1⟩ | ⟨rfl, g1⟩ <;> rcases hB with ⟨rfl, g2⟩ | ⟨rfl, g2⟩ <;>
    simp only [Nat.mul_zero, Nat.mul_one, Nat.add_zero] at h1 <;> omega
theorem cmp_eq (a b k : Nat) (h : a / 2 ^ (k + 1) = b / 2 ^ (k + 1)) (he : a / 2 ^ k % 2 = b / 2 ^ k % 2) : a / 2 ^ k = b / 2 ^ k := by
  rw [Nat.pow_succ, ← Nat.div_div_eq_div_mul, ← Nat.div_div_eq_div_mul] at h
  omega
theorem cmp_lt (a b k : Nat) (h : a / 2 ^ (k + 1) = b / 2 ^ (k + 1)) (he : a / 2 ^ k % 2 < b / 2 ^ k % 2) : a < b := by
  rw [Nat.pow_succ, ← Nat.div_div_eq_div_mul, ← Nat.div_div_eq_div_mul] at h
  rcases Nat.lt_or_ge a b with h1 | h1
  · exact h1
  · have := Nat.div_le_div_right (c := 2 ^ k) h1
    omega
theorem rAdd_calls (a b : Nat) (ha : a < M256) (hb : b < M256) (w : World) : Calls Tryd.prog 50 #[wv a, wv b] w (Ret w (.tuple #[wv ((a + b) % M256), .bool (decide (M256 ≤ a + b))])) := by
  refine enter (args := [_, _]) _ [] [] Tryd.func50 rfl Tryd.ntmps50 rfl (by simp) .nil ?_
  (refine CW.seq ?_; refine CW.region ?_; apply LW.boxA; rfl; rfl; intro _; apply LW.boxA; rfl; rfl; intro _; apply LW.allocW; rfl; intro _; apply LW.v0; rfl; rfl; apply ValP.assign; rfl; apply LW.nil; refine thenN ?_; refine CW.seq ?_)
  apply CW.pre
  refine AnyW.anyM [(1, fun v gs => IsRow 3 1 v 256 (ics (bl a 256)) gs)] 3 mixed (by decide +kernel) ?_
  ((try simp only [tsOf_cons, tsOf_nil, tsOf_app]); apply DW.loadO; rfl; rfl; rfl; exact WantT.none; rfl; apply TRead.tail; apply TRead.tail; apply TRead.head; exact ancB_nil; exact Rd.whole rfl)
  (apply DW.manyE; rfl; rfl; rfl; exact WantT.none; rfl; infer_instance; apply ArgsOk.cons; rfl; apply ArgsOk.cons; rfl; exact ArgsOk.nil; rfl; exact ReadAll.nil; intro w _ _)
  exact bits_calls _ _ (by assumption) (by decide) w
  intro va ga hra
  obtain ⟨pa, ca, rfl⟩ := hra.form
  ((try simp only [tsOf_cons, tsOf_nil, tsOf_app]); apply DW.loadO; rfl; rfl; rfl; exact WantT.none; rfl; apply TRead.app; apply TRead.tail; apply TRead.head; exact ancB_nil; exact Rd.whole rfl; apply DW.nil; simp only [fsOf_cons, fsOf_nil, fsOf_app, fsOf_tsOf, fsOf_new])
  (apply LW.callR; rfl; rfl; infer_instance; apply ArgsOk.cons; rfl; apply ArgsOk.cons; rfl; exact ArgsOk.nil; intro w hs)
  exact bits_calls _ _ (by assumption) (by decide) w
  intro vb gb hrb
  obtain ⟨pb, cb, rfl⟩ := hrb.form
  skip
  (apply LW.callR; rfl; rfl; infer_instance; apply ArgsOk.cons; rfl; apply ArgsOk.cons; rfl; exact ArgsOk.nil; intro w hs)
  exact add_calls a b 256 ha hb (by decide) _ _ w (hra.atSeg (by (apply AtSeg.app; exact AtSeg.head)) hs) (hrb.atSeg (by (exact AtSeg.head)) hs)
  intro vs gs hrs
  cases hrs with
  | @own g _ cap cur _ hn hmx hc ht hl =>
    have hrd : Rd Tryd.prog 3 (.cells cur 3 (0, 0)) (0 + 256 * 1) (.int .i64 (((a + b) / 2 ^ 256 % 2 : Nat) : Int)) := Rd.elem1 (g := fun (b : Nat) => [Value.int .i64 (b : Int)]) (l := bl (a + b) 257) (m := (256 + 1) * 1) (show (cur.toList.drop 0).take ((256 + 1) * 1) = _ from ht) (ics_len _) (bl_get (a + b) 257 256 (by decide)) rfl
    have h1 : ((a + b) / 2 ^ 256 % 2 : Nat) = if M256 ≤ a + b then 1 else 0 := by
      simp only [M256] at ha hb ⊢
      rw [show (2 : Nat) ^ 256 = 115792089237316195423570985008687907853269984665640564039457584007913129639936 from rfl]; split <;> omega
    refine LW.drop ((g, _) :: _) (List.Sublist.cons_cons _ (List.Sublist.trans (List.sublist_append_right _ _) (List.sublist_append_right _ _))) ?_
    rw [h1] at hrd
    have hof : ∀ w, (∀ p ∈ [(g, Obj.cells cur 3 (0, 0))], w.heap[p.1]? = some p.2) → Calls Tryd.prog 60 #[.slice (some ⟨g, 0, none⟩) (256 + 1) cap] w (Ret w (wv ((a + b) % M256))) := fun w hu => of_calls (a + b) 257 (by decide) _ w (RowAt.us hu hn hmx ht hl)
    rcases Nat.lt_or_ge (a + b) M256 with h | h
    · rw [if_neg (Nat.not_le.2 h)] at hrd
      rw [decide_eq_false (Nat.not_le.2 h)]
      (apply LW.v0; rfl; rfl; apply ValP.assign; rfl; apply LW.nil; refine thenN ?_; refine CW.seq ?_; apply CW.pre; refine AnyW.any 7 mixed (by decide +kernel) ?_; (try simp only [tsOf_cons, tsOf_nil, tsOf_app]); apply DW.v0; rfl; rfl; rfl; exact WantT.none; rfl; apply ValP.move; rfl; apply DW.callV; rfl; rfl; rfl; exact WantT.none; rfl; infer_instance; apply ArgsOk.cons; rfl; exact ArgsOk.nil; apply RdV.own; omega; apply TRead.head; exact ancB_nil; exact RdV.nil; intro w _ _; exact hof w (by assumption); apply DW.v0; rfl; rfl; rfl; exact WantT.none; rfl; apply ValP.move; rfl; apply DW.v0; rfl; rfl; rfl; exact WantT.none; rfl; apply ValP.indexAddrSL; rfl; rfl; decide; omega; apply DW.loadO; rfl; rfl; rfl; exact WantT.none; rfl; apply TRead.head; exact ancB_nil; assumption; apply DW.v0; rfl; rfl; rfl; exact WantT.none; rfl; apply ValP.eqF; rfl; rfl; omega; apply DW.store; rfl; rfl; exact WantT.none; rfl; rfl; apply TSet.tail; apply TSet.app; apply TSet.head; exact ancB_nil; exact ancB_nil; apply Wr.whole; rfl; rfl; rfl; apply DW.nil; simp only [fsOf_cons, fsOf_nil, fsOf_app, fsOf_tsOf, fsOf_new]; apply LW.v0; rfl; rfl; apply ValP.assign; rfl; apply LW.nil; refine thenN ?_; refine CW.ret ?_)
      (apply finR; exact .inl rfl; rfl; rfl; rfl; apply ResL.cons; apply Res.cell; rfl; apply Known.at; apply FsAt.tail; apply FsAt.app; apply FsAt.head; exact Rd.whole rfl; apply ResL.cons; exact Res.tmp rfl; exact ResL.nil)
      rfl
    · rw [if_pos h] at hrd
      rw [decide_eq_true h]
      (apply LW.v0; rfl; rfl; apply ValP.assign; rfl; apply LW.nil; refine thenN ?_; refine CW.seq ?_; apply CW.pre; refine AnyW.any 7 mixed (by decide +kernel) ?_; (try simp only [tsOf_cons, tsOf_nil, tsOf_app]); apply DW.v0; rfl; rfl; rfl; exact WantT.none; rfl; apply ValP.move; rfl; apply DW.callV; rfl; rfl; rfl; exact WantT.none; rfl; infer_instance; apply ArgsOk.cons; rfl; exact ArgsOk.nil; apply RdV.own; omega; apply TRead.head; exact ancB_nil; exact RdV.nil; intro w _ _; exact hof w (by assumption); apply DW.v0; rfl; rfl; rfl; exact WantT.none; rfl; apply ValP.move; rfl; apply DW.v0; rfl; rfl; rfl; exact WantT.none; rfl; apply ValP.indexAddrSL; rfl; rfl; decide; omega; apply DW.loadO; rfl; rfl; rfl; exact WantT.none; rfl; apply TRead.head; exact ancB_nil; assumption; apply DW.v0; rfl; rfl; rfl; exact WantT.none; rfl; apply ValP.eqT; rfl; rfl; omega; apply DW.store; rfl; rfl; exact WantT.none; rfl; rfl; apply TSet.tail; apply TSet.app; apply TSet.head; exact ancB_nil; exact ancB_nil; apply Wr.whole; rfl; rfl; rfl; apply DW.nil; simp only [fsOf_cons, fsOf_nil, fsOf_app, fsOf_tsOf, fsOf_new]; apply LW.v0; rfl; rfl; apply ValP.assign; rfl; apply LW.nil; refine thenN ?_; refine CW.ret ?_)
      (apply finR; exact .inl rfl; rfl; rfl; rfl; apply ResL.cons; apply Res.cell; rfl; apply Known.at; apply FsAt.tail; apply FsAt.app; apply FsAt.head; exact Rd.whole rfl; apply ResL.cons; exact Res.tmp rfl; exact ResL.nil)
      rfl
theorem rCmp_calls (a b : Nat) (ha : a < M256) (hb : b < M256) (w : World) : Calls Tryd.prog 51 #[wv a, wv b] w (Ret w (.int .i64 (if a < b then -1 else if b < a then 1 else 0))) := by
  refine enter (args := [_, _]) _ [] [] Tryd.func51 rfl Tryd.ntmps51 rfl (by simp) .nil ?_
  (refine CW.seq ?_; refine CW.region ?_; apply LW.boxA; rfl; rfl; intro _; apply LW.boxA; rfl; rfl; intro _; apply LW.v0; rfl; rfl; apply ValP.assign; rfl; apply LW.nil; refine thenN ?_; refine CW.seq ?_; refine CW.seq ?_; refine CW.region ?_; apply LW.v0; rfl; rfl; apply ValP.assign; rfl; apply LW.nil; refine thenN ?_; refine CW.block ?_)
  rename_i ba bb
  refine CW.loop (fun m : Nat => ([(5, .int .i64 ((m : Int) - 1)), (4, .int .i64 0), (2, .pointer (some ⟨ba, 0, none⟩)), (3, .pointer (some ⟨bb, 0, none⟩))],
      [(bb, .cells (wc b) 40 (0, 0)), (ba, .cells (wc a) 40 (0, 0))]))
    (fun m => m ≤ 256 ∧ a / 2 ^ m = b / 2 ^ m) (fun m => m) 256 ⟨Nat.le_refl _, by rw [Nat.div_eq_of_lt ha, Nat.div_eq_of_lt hb]⟩ ⟨rfl, rfl, rfl, rfl, trivial⟩ (List.Sublist.refl _) ?_
  rintro m ⟨hm, he⟩
  dsimp only
  rcases m with _ | k
  · have hab : a = b := by simpa using he
    subst hab
    (refine CW.seq ?_; refine CW.seq ?_; refine CW.region ?_; apply LW.v0; rfl; rfl; apply ValP.move; rfl; apply LW.v0; rfl; rfl; apply ValP.geqF; rfl; rfl; omega; apply LW.nil; refine thenN ?_; apply CW.condF; rfl; (with_reducible rfl); refine CW.exit ?_; refine thenE ?_; refine thenE ?_; refine blkE rfl ?_; refine thenN ?_; refine CW.seq ?_; refine CW.region ?_; apply LW.v0; rfl; rfl; apply ValP.assign; rfl; apply LW.nil; refine thenN ?_; refine CW.ret ?_)
    (apply finR; exact .inl rfl; rfl; rfl; rfl; apply ResL.cons; exact Res.tmp rfl; exact ResL.nil)
    rw [if_neg (Nat.lt_irrefl a), if_neg (Nat.lt_irrefl a)]; rfl
  · have e0 : (((k + 1 : Nat) : Int) - 1) = (k : Int) := by omega
    rw [e0]
    rcases Nat.lt_trichotomy (a / 2 ^ k % 2) (b / 2 ^ k % 2) with h | h | h
    · have hlt := cmp_lt a b k he h
      (refine CW.seq ?_; refine CW.seq ?_; refine CW.region ?_; apply LW.v0; rfl; rfl; apply ValP.move; rfl; apply LW.v0; rfl; rfl; apply ValP.geqT; rfl; rfl; omega; apply LW.nil; refine thenN ?_; apply CW.condT; rfl; (with_reducible rfl); refine CW.skip ?_; refine thenN ?_; refine CW.seq ?_; refine CW.block ?_; refine CW.seq ?_; apply CW.pre; refine AnyW.any 5 mixed (by decide +kernel) ?_; (try simp only [tsOf_cons, tsOf_nil, tsOf_app]); apply DW.loadO; rfl; rfl; rfl; exact WantT.none; rfl; apply TRead.tail; apply TRead.head; exact ancB_nil; exact Rd.whole rfl; apply DW.v0; rfl; rfl; rfl; exact WantT.none; rfl; apply ValP.move; rfl; apply DW.callE; rfl; rfl; rfl; exact WantT.none; rfl; infer_instance; apply ArgsOk.cons; rfl; apply ArgsOk.cons; rfl; exact ArgsOk.nil; rfl; exact ReadAll.nil; intro w _ _; refine Bit_calls _ _ ?_ ?_ w; assumption; omega; apply DW.loadO; rfl; rfl; rfl; exact WantT.none; rfl; apply TRead.head; exact ancB_nil; exact Rd.whole rfl; apply DW.v0; rfl; rfl; rfl; exact WantT.none; rfl; apply ValP.move; rfl; apply DW.nil; simp only [fsOf_cons, fsOf_nil, fsOf_app, fsOf_tsOf, fsOf_new]; apply LW.callE; rfl; rfl; infer_instance; apply ArgsOk.cons; rfl; apply ArgsOk.cons; rfl; exact ArgsOk.nil; intro w _; refine Bit_calls _ _ ?_ ?_ w; assumption; omega; apply LW.v0; rfl; rfl; apply ValP.assign; rfl; apply LW.v0; rfl; rfl; apply ValP.assign; rfl; apply LW.nil; refine thenN ?_; refine CW.seq ?_; refine CW.region ?_; apply LW.v0; rfl; rfl; apply ValP.move; rfl; apply LW.v0; rfl; rfl; apply ValP.move; rfl; apply LW.v0; rfl; rfl; apply ValP.lssT; rfl; rfl; omega; apply LW.nil; refine thenN ?_; apply CW.condT; rfl; (with_reducible rfl); refine CW.seq ?_; refine CW.region ?_; apply LW.v0; rfl; rfl; apply ValP.assign; rfl; apply LW.nil; refine thenN ?_; refine CW.ret ?_; refine blkR ?_; refine thenR ?_; refine thenR ?_; refine blkR ?_; refine thenR ?_)
      (apply finR; exact .inl rfl; rfl; rfl; rfl; apply ResL.cons; exact Res.tmp rfl; exact ResL.nil)
      rw [if_pos hlt]; rfl
    · have hq := cmp_eq a b k he h
      (refine CW.seq ?_; refine CW.seq ?_; refine CW.region ?_; apply LW.v0; rfl; rfl; apply ValP.move; rfl; apply LW.v0; rfl; rfl; apply ValP.geqT; rfl; rfl; omega; apply LW.nil; refine thenN ?_; apply CW.condT; rfl; (with_reducible rfl); refine CW.skip ?_; refine thenN ?_; refine CW.seq ?_; refine CW.block ?_; refine CW.seq ?_; apply CW.pre; refine AnyW.any 5 mixed (by decide +kernel) ?_; (try simp only [tsOf_cons, tsOf_nil, tsOf_app]); apply DW.loadO; rfl; rfl; rfl; exact WantT.none; rfl; apply TRead.tail; apply TRead.head; exact ancB_nil; exact Rd.whole rfl; apply DW.v0; rfl; rfl; rfl; exact WantT.none; rfl; apply ValP.move; rfl; apply DW.callE; rfl; rfl; rfl; exact WantT.none; rfl; infer_instance; apply ArgsOk.cons; rfl; apply ArgsOk.cons; rfl; exact ArgsOk.nil; rfl; exact ReadAll.nil; intro w _ _; refine Bit_calls _ _ ?_ ?_ w; assumption; omega; apply DW.loadO; rfl; rfl; rfl; exact WantT.none; rfl; apply TRead.head; exact ancB_nil; exact Rd.whole rfl; apply DW.v0; rfl; rfl; rfl; exact WantT.none; rfl; apply ValP.move; rfl; apply DW.nil; simp only [fsOf_cons, fsOf_nil, fsOf_app, fsOf_tsOf, fsOf_new]; apply LW.callE; rfl; rfl; infer_instance; apply ArgsOk.cons; rfl; apply ArgsOk.cons; rfl; exact ArgsOk.nil; intro w _; refine Bit_calls _ _ ?_ ?_ w; assumption; omega; apply LW.v0; rfl; rfl; apply ValP.assign; rfl; apply LW.v0; rfl; rfl; apply ValP.assign; rfl; apply LW.nil; refine thenN ?_; refine CW.seq ?_; refine CW.region ?_; apply LW.v0; rfl; rfl; apply ValP.move; rfl; apply LW.v0; rfl; rfl; apply ValP.move; rfl; apply LW.v0; rfl; rfl; apply ValP.lssF; rfl; rfl; omega; apply LW.nil; refine thenN ?_; apply CW.condF; rfl; (with_reducible rfl); refine CW.seq ?_; refine CW.region ?_; apply LW.v0; rfl; rfl; apply ValP.move; rfl; apply LW.v0; rfl; rfl; apply ValP.move; rfl; apply LW.v0; rfl; rfl; apply ValP.gtrF; rfl; rfl; omega; apply LW.nil; refine thenN ?_; apply CW.condF; rfl; (with_reducible rfl); refine CW.skip ?_; refine blkN ?_; refine thenN ?_; refine CW.region ?_; apply LW.v0; rfl; rfl; apply ValP.move; rfl; apply LW.v0; rfl; rfl; apply ValP.subI; rfl; rfl; omega; omega; apply LW.v0; rfl; rfl; apply ValP.assign; rfl; apply LW.nil)
      apply thenX
      exact ⟨rfl, k, ⟨by omega, hq⟩, Nat.lt_succ_self k, ⟨rfl, rfl, rfl, rfl, trivial⟩, List.Sublist.refl _⟩
    · have hlt := cmp_lt b a k he.symm h
      (refine CW.seq ?_; refine CW.seq ?_; refine CW.region ?_; apply LW.v0; rfl; rfl; apply ValP.move; rfl; apply LW.v0; rfl; rfl; apply ValP.geqT; rfl; rfl; omega; apply LW.nil; refine thenN ?_; apply CW.condT; rfl; (with_reducible rfl); refine CW.skip ?_; refine thenN ?_; refine CW.seq ?_; refine CW.block ?_; refine CW.seq ?_; apply CW.pre; refine AnyW.any 5 mixed (by decide +kernel) ?_; (try simp only [tsOf_cons, tsOf_nil, tsOf_app]); apply DW.loadO; rfl; rfl; rfl; exact WantT.none; rfl; apply TRead.tail; apply TRead.head; exact ancB_nil; exact Rd.whole rfl; apply DW.v0; rfl; rfl; rfl; exact WantT.none; rfl; apply ValP.move; rfl; apply DW.callE; rfl; rfl; rfl; exact WantT.none; rfl; infer_instance; apply ArgsOk.cons; rfl; apply ArgsOk.cons; rfl; exact ArgsOk.nil; rfl; exact ReadAll.nil; intro w _ _; refine Bit_calls _ _ ?_ ?_ w; assumption; omega; apply DW.loadO; rfl; rfl; rfl; exact WantT.none; rfl; apply TRead.head; exact ancB_nil; exact Rd.whole rfl; apply DW.v0; rfl; rfl; rfl; exact WantT.none; rfl; apply ValP.move; rfl; apply DW.nil; simp only [fsOf_cons, fsOf_nil, fsOf_app, fsOf_tsOf, fsOf_new]; apply LW.callE; rfl; rfl; infer_instance; apply ArgsOk.cons; rfl; apply ArgsOk.cons; rfl; exact ArgsOk.nil; intro w _; refine Bit_calls _ _ ?_ ?_ w; assumption; omega; apply LW.v0; rfl; rfl; apply ValP.assign; rfl; apply LW.v0; rfl; rfl; apply ValP.assign; rfl; apply LW.nil; refine thenN ?_; refine CW.seq ?_; refine CW.region ?_; apply LW.v0; rfl; rfl; apply ValP.move; rfl; apply LW.v0; rfl; rfl; apply ValP.move; rfl; apply LW.v0; rfl; rfl; apply ValP.lssF; rfl; rfl; omega; apply LW.nil; refine thenN ?_; apply CW.condF; rfl; (with_reducible rfl); refine CW.seq ?_; refine CW.region ?_; apply LW.v0; rfl; rfl; apply ValP.move; rfl; apply LW.v0; rfl; rfl; apply ValP.move; rfl; apply LW.v0; rfl; rfl; apply ValP.gtrT; rfl; rfl; omega; apply LW.nil; refine thenN ?_; apply CW.condT; rfl; (with_reducible rfl); refine CW.seq ?_; refine CW.region ?_; apply LW.v0; rfl; rfl; apply ValP.assign; rfl; apply LW.nil; refine thenN ?_; refine CW.ret ?_; refine blkR ?_; refine thenR ?_; refine thenR ?_; refine blkR ?_; refine thenR ?_)
      (apply finR; exact .inl rfl; rfl; rfl; rfl; apply ResL.cons; exact Res.tmp rfl; exact ResL.nil)
      rw [if_neg (by omega), if_pos hlt]; rfl
end Go.Proofs.YthhalnmbfokbbaaDoor

/-
  The machine's operations: contracts.
  Conditions: none.
-/
namespace Go.Proofs.YthhalnmbfokbbaaDoor
open Go Go.RowKit SL
set_option maxRecDepth 8000
set_option maxHeartbeats 4000000
set_option linter.unusedSimpArgs false
set_option linter.unusedVariables false
attribute [local irreducible] SL.CW SL.LW SL.DW Calls SL.Ret SL.RetG SL.beginQ SL.roundQ SL.rangeQ SL.inQ SL.RW SL.AnyW SL.thenQ SL.thenC SL.thenW SL.blkQ SL.finQ SL.ValP SL.NewP SL.SetP SL.CallP SL.Rd SL.Wr SL.Known
/-! ### Operations -/
structure OpV where
  c : Nat
  nm : List UInt8
  tk : Nat
  ly : Nat
  dt : Nat
def opl (x : OpV) : List Value := [.int .u8 (x.c : Int), sv x.nm, .int .i64 (x.tk : Int), .int .i64 (x.ly : Int), .int .i64 (x.dt : Int)]
abbrev opc (x : OpV) : Array Value := (opl x).toArray
def opcs (l : List OpV) : List Value := l.flatMap opl
theorem opl_len (l : List OpV) : ∀ x ∈ l, (opl x).length = 5 := fun _ _ => rfl
def plainOps : List OpV := [
  ⟨0, [83, 84, 79, 80], 0, 0, 0⟩,
  ⟨1, [65, 68, 68], 2, 1, 0⟩,
  ⟨2, [77, 85, 76], 2, 1, 0⟩,
  ⟨3, [83, 85, 66], 2, 1, 0⟩,
  ⟨4, [68, 73, 86], 2, 1, 0⟩,
  ⟨6, [77, 79, 68], 2, 1, 0⟩,
  ⟨16, [76, 84], 2, 1, 0⟩,
  ⟨17, [71, 84], 2, 1, 0⟩,
  ⟨20, [69, 81], 2, 1, 0⟩,
  ⟨21, [73, 83, 90, 69, 82, 79], 1, 1, 0⟩,
  ⟨22, [65, 78, 68], 2, 1, 0⟩,
  ⟨23, [79, 82], 2, 1, 0⟩,
  ⟨24, [88, 79, 82], 2, 1, 0⟩,
  ⟨25, [78, 79, 84], 1, 1, 0⟩,
  ⟨27, [83, 72, 76], 2, 1, 0⟩,
  ⟨28, [83, 72, 82], 2, 1, 0⟩,
  ⟨32, [72, 65, 83, 72], 2, 1, 0⟩,
  ⟨48, [65, 68, 68, 82, 69, 83, 83], 0, 1, 0⟩,
  ⟨49, [66, 65, 76, 65, 78, 67, 69], 1, 1, 0⟩,
  ⟨50, [79, 82, 73, 71, 73, 78], 0, 1, 0⟩,
  ⟨51, [67, 65, 76, 76, 69, 82], 0, 1, 0⟩,
  ⟨52, [67, 65, 76, 76, 86, 65, 76, 85, 69], 0, 1, 0⟩,
  ⟨53, [68, 65, 84, 65, 76, 79, 65, 68], 1, 1, 0⟩,
  ⟨54, [68, 65, 84, 65, 83, 73, 90, 69], 0, 1, 0⟩,
  ⟨55, [68, 65, 84, 65, 67, 79, 80, 89], 3, 0, 0⟩,
  ⟨61, [82, 69, 84, 85, 82, 78, 83, 73, 90, 69], 0, 1, 0⟩,
  ⟨62, [82, 69, 84, 85, 82, 78, 67, 79, 80, 89], 3, 0, 0⟩,
  ⟨66, [84, 73, 77, 69], 0, 1, 0⟩,
  ⟨67, [78, 85, 77, 66, 69, 82], 0, 1, 0⟩,
  ⟨71, [83, 69, 76, 70, 66, 65, 76, 65, 78, 67, 69], 0, 1, 0⟩,
  ⟨72, [66, 65, 83, 69, 70, 69, 69], 0, 1, 0⟩,
  ⟨80, [80, 79, 80], 1, 0, 0⟩,
  ⟨81, [77, 76, 79, 65, 68], 1, 1, 0⟩,
  ⟨82, [77, 83, 84, 79, 82, 69], 2, 0, 0⟩,
  ⟨83, [77, 83, 84, 79, 82, 69, 56], 2, 0, 0⟩,
  ⟨84, [83, 76, 79, 65, 68], 1, 1, 0⟩,
  ⟨85, [83, 83, 84, 79, 82, 69], 2, 0, 0⟩,
  ⟨86, [74, 85, 77, 80], 1, 0, 0⟩,
  ⟨87, [74, 85, 77, 80, 73], 2, 0, 0⟩,
  ⟨90, [71, 65, 83], 0, 1, 0⟩,
  ⟨91, [74, 85, 77, 80, 68, 69, 83, 84], 0, 0, 0⟩,
  ⟨92, [84, 76, 79, 65, 68], 1, 1, 0⟩,
  ⟨93, [84, 83, 84, 79, 82, 69], 2, 0, 0⟩,
  ⟨241, [67, 65, 76, 76], 7, 1, 0⟩,
  ⟨243, [82, 69, 84, 85, 82, 78], 2, 0, 0⟩,
  ⟨244, [68, 69, 76, 69, 71, 65, 84, 69, 67, 65, 76, 76], 6, 1, 0⟩,
  ⟨245, [67, 82, 69, 65, 84, 69, 50], 4, 1, 0⟩,
  ⟨250, [83, 84, 65, 84, 73, 67, 67, 65, 76, 76], 6, 1, 0⟩,
  ⟨253, [82, 69, 86, 69, 82, 84], 2, 0, 0⟩,
  ⟨254, [73, 78, 86, 65, 76, 73, 68], 0, 0, 0⟩]
def itoa (n : Nat) : List UInt8 := if n < 10 then [UInt8.ofNat (48 + n)] else [UInt8.ofNat (48 + n / 10), UInt8.ofNat (48 + n % 10)]
def rowOp (b : Nat) : Option OpV :=
  if 96 ≤ b ∧ b ≤ 127 then some ⟨b, [80, 85, 83, 72] ++ itoa (b - 95), 0, 1, b - 95⟩
  else if 128 ≤ b ∧ b ≤ 143 then some ⟨b, [68, 85, 80] ++ itoa (b - 127), b - 127, b - 126, 0⟩
  else if 144 ≤ b ∧ b ≤ 159 then some ⟨b, [83, 87, 65, 80] ++ itoa (b - 143), b - 142, b - 142, 0⟩
  else none
def opOf (b : Nat) : Option OpV := match rowOp b with
  | some x => some x
  | none => plainOps.find? (fun x => x.c == b)
/-! ### Numbers in digits -/
def lows : List UInt8 := [48, 49, 50, 51, 52, 53, 54, 55, 56, 57, 97, 98, 99, 100, 101, 102, 103, 104, 105, 106, 107, 108, 109, 110, 111, 112, 113, 114, 115, 116, 117, 118, 119, 120, 121, 122]
def smalls : List UInt8 := (List.range 100).flatMap fun n => [UInt8.ofNat (48 + n / 10), UInt8.ofNat (48 + n % 10)]
theorem lows_cut : ∀ n, n < 10 → (lows.drop n).take (n + 1 - n) = itoa n := by decide +kernel
theorem smalls_cut : ∀ n, n < 100 → 10 ≤ n → (smalls.drop (n * 2)).take (n * 2 + 2 - n * 2) = itoa n := by decide +kernel
theorem small_calls (n : Nat) (hn : n < 100) (w : World) : Calls Tryd.prog 65 #[.int .i64 (n : Int)] w (Ret w (sv (itoa n))) := by
  refine enter (args := [_]) _ [] [] Tryd.func65 rfl Tryd.ntmps65 rfl (by simp) .nil ?_
  rcases Nat.lt_or_ge n 10 with h | h
  · (refine CW.seq ?_; refine CW.region ?_; apply LW.v0; rfl; rfl; apply ValP.assign; rfl; apply LW.nil; refine thenN ?_; refine CW.seq ?_; refine CW.seq ?_; refine CW.region ?_; apply LW.v0; rfl; rfl; apply ValP.move; rfl; apply LW.v0; rfl; rfl; apply ValP.lssT; rfl; rfl; omega; apply LW.nil; refine thenN ?_; apply CW.condT; rfl; (with_reducible rfl); refine CW.seq ?_; refine CW.region ?_; apply LW.v0; rfl; rfl; apply ValP.move; rfl; apply LW.v0; rfl; rfl; apply ValP.move; rfl; apply LW.v0; rfl; rfl; apply ValP.addZL; rfl; rfl; decide; omega; apply LW.v0; rfl; rfl; apply ValP.cutStr; infer_instance; rfl; rfl; rfl; omega; simp; omega; apply LW.v0; rfl; rfl; apply ValP.assign; rfl; apply LW.nil; refine thenN ?_; refine CW.ret ?_; refine thenR ?_)
    (apply finR; exact .inl rfl; rfl; rfl; rfl; apply ResL.cons; exact Res.tmp rfl; exact ResL.nil)
    exact congrArg (fun l => sv l) (lows_cut n h)
  · (refine CW.seq ?_; refine CW.region ?_; apply LW.v0; rfl; rfl; apply ValP.assign; rfl; apply LW.nil; refine thenN ?_; refine CW.seq ?_; refine CW.seq ?_; refine CW.region ?_; apply LW.v0; rfl; rfl; apply ValP.move; rfl; apply LW.v0; rfl; rfl; apply ValP.lssF; rfl; rfl; omega; apply LW.nil; refine thenN ?_; apply CW.condF; rfl; (with_reducible rfl); refine CW.skip ?_; refine thenN ?_; refine CW.seq ?_; refine CW.region ?_; apply LW.v0; rfl; rfl; apply ValP.move; rfl; apply LW.v0; rfl; rfl; apply ValP.mulZL; rfl; rfl; decide; omega; apply LW.v0; rfl; rfl; apply ValP.move; rfl; apply LW.v0; rfl; rfl; apply ValP.mulZL; rfl; rfl; decide; omega; apply LW.v0; rfl; rfl; apply ValP.addZL; rfl; rfl; decide; omega; apply LW.v0; rfl; rfl; apply ValP.cutStr; infer_instance; rfl; rfl; rfl; omega; simp; omega; apply LW.v0; rfl; rfl; apply ValP.assign; rfl; apply LW.nil; refine thenN ?_; refine CW.ret ?_)
    (apply finR; exact .inl rfl; rfl; rfl; rfl; apply ResL.cons; exact Res.tmp rfl; exact ResL.nil)
    exact congrArg (fun l => sv l) (smalls_cut n hn h)
theorem FormatInt_calls (n : Nat) (hn : n < 100) (w : World) : Calls Tryd.prog 64 #[.int .i64 (n : Int), .int .i64 10] w (Ret w (sv (itoa n))) := by
  refine enter (args := [_, _]) _ [] [] Tryd.func64 rfl Tryd.ntmps64 rfl (by simp) .nil ?_
  (refine CW.seq ?_; refine CW.region ?_; apply LW.v0; rfl; rfl; apply ValP.assign; rfl; apply LW.nil; refine thenN ?_; refine CW.seq ?_; refine CW.seq ?_; refine CW.region ?_; apply LW.v0; rfl; rfl; apply ValP.move; rfl; apply LW.v0; rfl; rfl; apply ValP.eqT; rfl; rfl; omega; apply LW.nil; refine thenN ?_; apply CW.condT; rfl; (with_reducible rfl); refine CW.seq ?_; refine CW.seq ?_; refine CW.region ?_; apply LW.v0; rfl; rfl; apply ValP.move; rfl; apply LW.v0; rfl; rfl; apply ValP.leqT; rfl; rfl; omega; apply LW.v0; rfl; rfl; apply ValP.move; rfl; apply LW.guardT'; rfl; rfl; (with_reducible rfl); apply LW.v0; rfl; rfl; apply ValP.move; rfl; apply LW.guardT'; rfl; rfl; (with_reducible rfl); apply LW.v0; rfl; rfl; apply ValP.lssT; rfl; rfl; omega; apply LW.v0; rfl; rfl; apply ValP.pickT'; rfl; (with_reducible rfl); rfl; apply LW.nil; refine thenN ?_; apply CW.condT; rfl; (with_reducible rfl); refine CW.seq ?_; refine CW.region ?_; apply LW.v0; rfl; rfl; apply ValP.move; rfl; apply LW.callE; rfl; rfl; infer_instance; apply ArgsOk.cons; rfl; exact ArgsOk.nil; intro w _; exact small_calls _ hn w; apply LW.v0; rfl; rfl; apply ValP.assign; rfl; apply LW.nil; refine thenN ?_; refine CW.ret ?_; refine thenR ?_; refine thenR ?_)
  (apply finR; exact .inl rfl; rfl; rfl; rfl; apply ResL.cons; exact Res.tmp rfl; exact ResL.nil)
  rfl
theorem iItoa_calls (n : Nat) (hn : n < 100) (w : World) : Calls Tryd.prog 63 #[.int .i64 (n : Int)] w (Ret w (sv (itoa n))) := by
  have h1 := FormatInt_calls n hn
  refine enter (args := [_]) _ [] [] Tryd.func63 rfl Tryd.ntmps63 rfl (by simp) .nil ?_
  (refine CW.seq ?_; refine CW.region ?_; apply LW.v0; rfl; rfl; apply ValP.assign; rfl; apply LW.nil; refine thenN ?_; refine CW.seq ?_; refine CW.region ?_; apply LW.v0; rfl; rfl; apply ValP.move; rfl; apply LW.callE; rfl; rfl; infer_instance; apply ArgsOk.cons; rfl; apply ArgsOk.cons; rfl; exact ArgsOk.nil; intro w _; exact h1 w; apply LW.v0; rfl; rfl; apply ValP.assign; rfl; apply LW.nil; refine thenN ?_; refine CW.ret ?_)
  (apply finR; exact .inl rfl; rfl; rfl; rfl; apply ResL.cons; exact Res.tmp rfl; exact ResL.nil)
  rfl
theorem Itoa_calls (n : Nat) (hn : n < 100) (w : World) : Calls Tryd.prog 62 #[.int .i64 (n : Int)] w (Ret w (sv (itoa n))) := by
  have h1 := iItoa_calls n hn
  refine enter (args := [_]) _ [] [] Tryd.func62 rfl Tryd.ntmps62 rfl (by simp) .nil ?_
  (refine CW.seq ?_; refine CW.region ?_; apply LW.v0; rfl; rfl; apply ValP.assign; rfl; apply LW.nil; refine thenN ?_; refine CW.seq ?_; refine CW.region ?_; apply LW.v0; rfl; rfl; apply ValP.move; rfl; apply LW.callE; rfl; rfl; infer_instance; apply ArgsOk.cons; rfl; exact ArgsOk.nil; intro w _; exact h1 w; apply LW.v0; rfl; rfl; apply ValP.assign; rfl; apply LW.nil; refine thenN ?_; refine CW.ret ?_)
  (apply finR; exact .inl rfl; rfl; rfl; rfl; apply ResL.cons; exact Res.tmp rfl; exact ResL.nil)
  rfl
/-! ### The operation of a byte -/
theorem itoa_len (n : Nat) : (itoa n).length ≤ 2 := by unfold itoa; split <;> simp
def tupOp (o : Option OpV) : Value := match o with
  | some x => .tuple #[.agg (opc x), .bool true]
  | none => .tuple #[.agg (opc ⟨0, [], 0, 0, 0⟩), .bool false]
theorem row_calls (b : Nat) (hb : b < 256) (w : World) : Calls Tryd.prog 52 #[.int .u8 (b : Int)] w (Ret w (tupOp (rowOp b))) := by
  have hl := itoa_len
  refine enter (args := [_]) _ [] [] Tryd.func52 rfl Tryd.ntmps52 rfl (by simp) .nil ?_
  rcases Nat.lt_or_ge b 96 with h1 | h1
  · rw [show rowOp b = none by unfold rowOp; rw [if_neg (by omega), if_neg (by omega), if_neg (by omega)]]
    (refine CW.seq ?_; refine CW.region ?_; apply LW.allocA; rfl; intro _; apply LW.v0; rfl; rfl; apply ValP.assign; rfl; apply LW.nil; refine thenN ?_; refine CW.seq ?_; refine CW.region ?_; apply LW.v0; rfl; rfl; apply ValP.move; rfl; apply LW.v0; rfl; rfl; apply ValP.convI; rfl; omega; omega; apply LW.v0; rfl; rfl; apply ValP.assign; rfl; apply LW.nil; refine thenN ?_; refine CW.seq ?_; refine CW.block ?_; refine CW.seq ?_; refine CW.region ?_; apply LW.v0; rfl; rfl; apply ValP.move; rfl; apply LW.v0; rfl; rfl; apply ValP.geqF; rfl; rfl; omega; apply LW.v0; rfl; rfl; apply ValP.move; rfl; apply LW.guardF'; rfl; rfl; simp only [Bool.not_true, Bool.not_false]; rfl; apply LW.guardF'; rfl; rfl; simp only [Bool.not_true, Bool.not_false]; rfl; apply LW.v0; rfl; rfl; apply ValP.pickF'; rfl; (with_reducible rfl); rfl; apply LW.v0; rfl; rfl; apply ValP.assign; rfl; apply LW.nil; refine thenN ?_; apply CW.condF; rfl; (with_reducible rfl); refine CW.seq ?_; refine CW.region ?_; apply LW.v0; rfl; rfl; apply ValP.move; rfl; apply LW.v0; rfl; rfl; apply ValP.geqF; rfl; rfl; omega; apply LW.v0; rfl; rfl; apply ValP.move; rfl; apply LW.guardF'; rfl; rfl; simp only [Bool.not_true, Bool.not_false]; rfl; apply LW.guardF'; rfl; rfl; simp only [Bool.not_true, Bool.not_false]; rfl; apply LW.v0; rfl; rfl; apply ValP.pickF'; rfl; (with_reducible rfl); rfl; apply LW.v0; rfl; rfl; apply ValP.assign; rfl; apply LW.nil; refine thenN ?_; apply CW.condF; rfl; (with_reducible rfl); refine CW.seq ?_; refine CW.region ?_; apply LW.v0; rfl; rfl; apply ValP.move; rfl; apply LW.v0; rfl; rfl; apply ValP.geqF; rfl; rfl; omega; apply LW.v0; rfl; rfl; apply ValP.move; rfl; apply LW.guardF'; rfl; rfl; simp only [Bool.not_true, Bool.not_false]; rfl; apply LW.guardF'; rfl; rfl; simp only [Bool.not_true, Bool.not_false]; rfl; apply LW.v0; rfl; rfl; apply ValP.pickF'; rfl; (with_reducible rfl); rfl; apply LW.v0; rfl; rfl; apply ValP.assign; rfl; apply LW.nil; refine thenN ?_; apply CW.condF; rfl; (with_reducible rfl); refine CW.skip ?_; refine blkN ?_; refine thenN ?_; refine CW.seq ?_; refine CW.region ?_; apply LW.v0; rfl; rfl; apply ValP.buildT; infer_instance; infer_instance; exact PartsOk.nil; rfl; simp only [fillP, wrCells, Value.cells, List.getElem?_cons_zero, List.getElem?_cons_succ, List.toList_toArray, List.setIfInBounds_toArray, List.set_cons_succ, List.set_cons_zero, Nat.reduceAdd, Nat.zero_add]; rfl; apply LW.store; rfl; rfl; apply SetAt.head; apply Wr.whole; rfl; rfl; rfl; apply LW.v0; rfl; rfl; apply ValP.assign; rfl; apply LW.nil; refine thenN ?_; refine CW.ret ?_)
    (apply finR; exact .inl rfl; rfl; rfl; rfl; apply ResL.cons; apply Res.cell; rfl; apply Known.at; apply FsAt.head; exact Rd.whole rfl; apply ResL.cons; exact Res.tmp rfl; exact ResL.nil)
    rfl
  rcases Nat.lt_or_ge b 128 with h2 | h2
  · rw [show rowOp b = some ⟨b, [80, 85, 83, 72] ++ itoa (b - 95), 0, 1, b - 95⟩ by unfold rowOp; rw [if_pos (by omega)]]
    have hn := Itoa_calls (b - 95) (by omega)
    have hl1 := hl (b - 95)
    (refine CW.seq ?_; refine CW.region ?_; apply LW.allocA; rfl; intro _; apply LW.v0; rfl; rfl; apply ValP.assign; rfl; apply LW.nil; refine thenN ?_; refine CW.seq ?_; refine CW.region ?_; apply LW.v0; rfl; rfl; apply ValP.move; rfl; apply LW.v0; rfl; rfl; apply ValP.convI; rfl; omega; omega; apply LW.v0; rfl; rfl; apply ValP.assign; rfl; apply LW.nil; refine thenN ?_; refine CW.seq ?_; refine CW.block ?_; refine CW.seq ?_; refine CW.region ?_; apply LW.v0; rfl; rfl; apply ValP.move; rfl; apply LW.v0; rfl; rfl; apply ValP.geqT; rfl; rfl; omega; apply LW.v0; rfl; rfl; apply ValP.move; rfl; apply LW.guardT'; rfl; rfl; (with_reducible rfl); apply LW.v0; rfl; rfl; apply ValP.move; rfl; apply LW.guardT'; rfl; rfl; (with_reducible rfl); apply LW.v0; rfl; rfl; apply ValP.leqT; rfl; rfl; omega; apply LW.v0; rfl; rfl; apply ValP.pickT'; rfl; (with_reducible rfl); rfl; apply LW.v0; rfl; rfl; apply ValP.assign; rfl; apply LW.nil; refine thenN ?_; apply CW.condT; rfl; (with_reducible rfl); refine CW.seq ?_; refine CW.region ?_; apply LW.v0; rfl; rfl; apply ValP.move; rfl; apply LW.v0; rfl; rfl; apply ValP.subZL; rfl; rfl; decide; omega; omega; apply LW.v0; rfl; rfl; apply ValP.assign; rfl; apply LW.nil; refine thenN ?_; refine CW.seq ?_; refine CW.region ?_; apply LW.v0; rfl; rfl; apply ValP.move; rfl; apply LW.v0; rfl; rfl; apply ValP.move; rfl; apply LW.callE; rfl; rfl; infer_instance; apply ArgsOk.cons; rfl; exact ArgsOk.nil; intro w _; exact hn w; apply LW.v0; rfl; rfl; apply ValP.addStr; rfl; rfl; simp; omega; apply LW.v0; rfl; rfl; apply ValP.move; rfl; apply LW.v0; rfl; rfl; apply ValP.buildT; infer_instance; infer_instance; apply PartsOk.cons; rfl; apply PartsOk.cons; rfl; apply PartsOk.cons; rfl; apply PartsOk.cons; rfl; exact PartsOk.nil; rfl; simp only [fillP, wrCells, Value.cells, List.getElem?_cons_zero, List.getElem?_cons_succ, List.toList_toArray, List.setIfInBounds_toArray, List.set_cons_succ, List.set_cons_zero, Nat.reduceAdd, Nat.zero_add]; rfl; apply LW.store; rfl; rfl; apply SetAt.head; apply Wr.whole; rfl; rfl; rfl; apply LW.v0; rfl; rfl; apply ValP.assign; rfl; apply LW.nil; refine thenN ?_; refine CW.ret ?_; refine blkR ?_; refine thenR ?_)
    (apply finR; exact .inl rfl; rfl; rfl; rfl; apply ResL.cons; apply Res.cell; rfl; apply Known.at; apply FsAt.head; exact Rd.whole rfl; apply ResL.cons; exact Res.tmp rfl; exact ResL.nil)
    rfl
  rcases Nat.lt_or_ge b 144 with h3 | h3
  · rw [show rowOp b = some ⟨b, [68, 85, 80] ++ itoa (b - 127), b - 127, b - 127 + 1, 0⟩ by unfold rowOp; rw [if_neg (by omega), if_pos (by omega), show b - 126 = b - 127 + 1 by omega]]
    have hn := Itoa_calls (b - 127) (by omega)
    have hl1 := hl (b - 127)
    (refine CW.seq ?_; refine CW.region ?_; apply LW.allocA; rfl; intro _; apply LW.v0; rfl; rfl; apply ValP.assign; rfl; apply LW.nil; refine thenN ?_; refine CW.seq ?_; refine CW.region ?_; apply LW.v0; rfl; rfl; apply ValP.move; rfl; apply LW.v0; rfl; rfl; apply ValP.convI; rfl; omega; omega; apply LW.v0; rfl; rfl; apply ValP.assign; rfl; apply LW.nil; refine thenN ?_; refine CW.seq ?_; refine CW.block ?_; refine CW.seq ?_; refine CW.region ?_; apply LW.v0; rfl; rfl; apply ValP.move; rfl; apply LW.v0; rfl; rfl; apply ValP.geqT; rfl; rfl; omega; apply LW.v0; rfl; rfl; apply ValP.move; rfl; apply LW.guardT'; rfl; rfl; (with_reducible rfl); apply LW.v0; rfl; rfl; apply ValP.move; rfl; apply LW.guardT'; rfl; rfl; (with_reducible rfl); apply LW.v0; rfl; rfl; apply ValP.leqF; rfl; rfl; omega; apply LW.v0; rfl; rfl; apply ValP.pickT'; rfl; (with_reducible rfl); rfl; apply LW.v0; rfl; rfl; apply ValP.assign; rfl; apply LW.nil; refine thenN ?_; apply CW.condF; rfl; (with_reducible rfl); refine CW.seq ?_; refine CW.region ?_; apply LW.v0; rfl; rfl; apply ValP.move; rfl; apply LW.v0; rfl; rfl; apply ValP.geqT; rfl; rfl; omega; apply LW.v0; rfl; rfl; apply ValP.move; rfl; apply LW.guardT'; rfl; rfl; (with_reducible rfl); apply LW.v0; rfl; rfl; apply ValP.move; rfl; apply LW.guardT'; rfl; rfl; (with_reducible rfl); apply LW.v0; rfl; rfl; apply ValP.leqT; rfl; rfl; omega; apply LW.v0; rfl; rfl; apply ValP.pickT'; rfl; (with_reducible rfl); rfl; apply LW.v0; rfl; rfl; apply ValP.assign; rfl; apply LW.nil; refine thenN ?_; apply CW.condT; rfl; (with_reducible rfl); refine CW.seq ?_; refine CW.region ?_; apply LW.v0; rfl; rfl; apply ValP.move; rfl; apply LW.v0; rfl; rfl; apply ValP.subZL; rfl; rfl; decide; omega; omega; apply LW.v0; rfl; rfl; apply ValP.assign; rfl; apply LW.nil; refine thenN ?_; refine CW.seq ?_; refine CW.region ?_; apply LW.v0; rfl; rfl; apply ValP.move; rfl; apply LW.v0; rfl; rfl; apply ValP.move; rfl; apply LW.callE; rfl; rfl; infer_instance; apply ArgsOk.cons; rfl; exact ArgsOk.nil; intro w _; exact hn w; apply LW.v0; rfl; rfl; apply ValP.addStr; rfl; rfl; simp; omega; apply LW.v0; rfl; rfl; apply ValP.move; rfl; apply LW.v0; rfl; rfl; apply ValP.move; rfl; apply LW.v0; rfl; rfl; apply ValP.addZL; rfl; rfl; decide; omega; apply LW.v0; rfl; rfl; apply ValP.buildT; infer_instance; infer_instance; apply PartsOk.cons; rfl; apply PartsOk.cons; rfl; apply PartsOk.cons; rfl; apply PartsOk.cons; rfl; exact PartsOk.nil; rfl; simp only [fillP, wrCells, Value.cells, List.getElem?_cons_zero, List.getElem?_cons_succ, List.toList_toArray, List.setIfInBounds_toArray, List.set_cons_succ, List.set_cons_zero, Nat.reduceAdd, Nat.zero_add]; rfl; apply LW.store; rfl; rfl; apply SetAt.head; apply Wr.whole; rfl; rfl; rfl; apply LW.v0; rfl; rfl; apply ValP.assign; rfl; apply LW.nil; refine thenN ?_; refine CW.ret ?_; refine blkR ?_; refine thenR ?_)
    (apply finR; exact .inl rfl; rfl; rfl; rfl; apply ResL.cons; apply Res.cell; rfl; apply Known.at; apply FsAt.head; exact Rd.whole rfl; apply ResL.cons; exact Res.tmp rfl; exact ResL.nil)
    rfl
  rcases Nat.lt_or_ge b 160 with h4 | h4
  · rw [show rowOp b = some ⟨b, [83, 87, 65, 80] ++ itoa (b - 143), b - 143 + 1, b - 143 + 1, 0⟩ by unfold rowOp; rw [if_neg (by omega), if_neg (by omega), if_pos (by omega), show b - 142 = b - 143 + 1 by omega]]
    have hn := Itoa_calls (b - 143) (by omega)
    have hl1 := hl (b - 143)
    (refine CW.seq ?_; refine CW.region ?_; apply LW.allocA; rfl; intro _; apply LW.v0; rfl; rfl; apply ValP.assign; rfl; apply LW.nil; refine thenN ?_; refine CW.seq ?_; refine CW.region ?_; apply LW.v0; rfl; rfl; apply ValP.move; rfl; apply LW.v0; rfl; rfl; apply ValP.convI; rfl; omega; omega; apply LW.v0; rfl; rfl; apply ValP.assign; rfl; apply LW.nil; refine thenN ?_; refine CW.seq ?_; refine CW.block ?_; refine CW.seq ?_; refine CW.region ?_; apply LW.v0; rfl; rfl; apply ValP.move; rfl; apply LW.v0; rfl; rfl; apply ValP.geqT; rfl; rfl; omega; apply LW.v0; rfl; rfl; apply ValP.move; rfl; apply LW.guardT'; rfl; rfl; (with_reducible rfl); apply LW.v0; rfl; rfl; apply ValP.move; rfl; apply LW.guardT'; rfl; rfl; (with_reducible rfl); apply LW.v0; rfl; rfl; apply ValP.leqF; rfl; rfl; omega; apply LW.v0; rfl; rfl; apply ValP.pickT'; rfl; (with_reducible rfl); rfl; apply LW.v0; rfl; rfl; apply ValP.assign; rfl; apply LW.nil; refine thenN ?_; apply CW.condF; rfl; (with_reducible rfl); refine CW.seq ?_; refine CW.region ?_; apply LW.v0; rfl; rfl; apply ValP.move; rfl; apply LW.v0; rfl; rfl; apply ValP.geqT; rfl; rfl; omega; apply LW.v0; rfl; rfl; apply ValP.move; rfl; apply LW.guardT'; rfl; rfl; (with_reducible rfl); apply LW.v0; rfl; rfl; apply ValP.move; rfl; apply LW.guardT'; rfl; rfl; (with_reducible rfl); apply LW.v0; rfl; rfl; apply ValP.leqF; rfl; rfl; omega; apply LW.v0; rfl; rfl; apply ValP.pickT'; rfl; (with_reducible rfl); rfl; apply LW.v0; rfl; rfl; apply ValP.assign; rfl; apply LW.nil; refine thenN ?_; apply CW.condF; rfl; (with_reducible rfl); refine CW.seq ?_; refine CW.region ?_; apply LW.v0; rfl; rfl; apply ValP.move; rfl; apply LW.v0; rfl; rfl; apply ValP.geqT; rfl; rfl; omega; apply LW.v0; rfl; rfl; apply ValP.move; rfl; apply LW.guardT'; rfl; rfl; (with_reducible rfl); apply LW.v0; rfl; rfl; apply ValP.move; rfl; apply LW.guardT'; rfl; rfl; (with_reducible rfl); apply LW.v0; rfl; rfl; apply ValP.leqT; rfl; rfl; omega; apply LW.v0; rfl; rfl; apply ValP.pickT'; rfl; (with_reducible rfl); rfl; apply LW.v0; rfl; rfl; apply ValP.assign; rfl; apply LW.nil; refine thenN ?_; apply CW.condT; rfl; (with_reducible rfl); refine CW.seq ?_; refine CW.region ?_; apply LW.v0; rfl; rfl; apply ValP.move; rfl; apply LW.v0; rfl; rfl; apply ValP.subZL; rfl; rfl; decide; omega; omega; apply LW.v0; rfl; rfl; apply ValP.assign; rfl; apply LW.nil; refine thenN ?_; refine CW.seq ?_; refine CW.region ?_; apply LW.v0; rfl; rfl; apply ValP.move; rfl; apply LW.v0; rfl; rfl; apply ValP.move; rfl; apply LW.callE; rfl; rfl; infer_instance; apply ArgsOk.cons; rfl; exact ArgsOk.nil; intro w _; exact hn w; apply LW.v0; rfl; rfl; apply ValP.addStr; rfl; rfl; simp; omega; apply LW.v0; rfl; rfl; apply ValP.move; rfl; apply LW.v0; rfl; rfl; apply ValP.addZL; rfl; rfl; decide; omega; apply LW.v0; rfl; rfl; apply ValP.move; rfl; apply LW.v0; rfl; rfl; apply ValP.addZL; rfl; rfl; decide; omega; apply LW.v0; rfl; rfl; apply ValP.buildT; infer_instance; infer_instance; apply PartsOk.cons; rfl; apply PartsOk.cons; rfl; apply PartsOk.cons; rfl; apply PartsOk.cons; rfl; exact PartsOk.nil; rfl; simp only [fillP, wrCells, Value.cells, List.getElem?_cons_zero, List.getElem?_cons_succ, List.toList_toArray, List.setIfInBounds_toArray, List.set_cons_succ, List.set_cons_zero, Nat.reduceAdd, Nat.zero_add]; rfl; apply LW.store; rfl; rfl; apply SetAt.head; apply Wr.whole; rfl; rfl; rfl; apply LW.v0; rfl; rfl; apply ValP.assign; rfl; apply LW.nil; refine thenN ?_; refine CW.ret ?_; refine blkR ?_; refine thenR ?_)
    (apply finR; exact .inl rfl; rfl; rfl; rfl; apply ResL.cons; apply Res.cell; rfl; apply Known.at; apply FsAt.head; exact Rd.whole rfl; apply ResL.cons; exact Res.tmp rfl; exact ResL.nil)
    rfl
  · rw [show rowOp b = none by unfold rowOp; rw [if_neg (by omega), if_neg (by omega), if_neg (by omega)]]
    (refine CW.seq ?_; refine CW.region ?_; apply LW.allocA; rfl; intro _; apply LW.v0; rfl; rfl; apply ValP.assign; rfl; apply LW.nil; refine thenN ?_; refine CW.seq ?_; refine CW.region ?_; apply LW.v0; rfl; rfl; apply ValP.move; rfl; apply LW.v0; rfl; rfl; apply ValP.convI; rfl; omega; omega; apply LW.v0; rfl; rfl; apply ValP.assign; rfl; apply LW.nil; refine thenN ?_; refine CW.seq ?_; refine CW.block ?_; refine CW.seq ?_; refine CW.region ?_; apply LW.v0; rfl; rfl; apply ValP.move; rfl; apply LW.v0; rfl; rfl; apply ValP.geqT; rfl; rfl; omega; apply LW.v0; rfl; rfl; apply ValP.move; rfl; apply LW.guardT'; rfl; rfl; (with_reducible rfl); apply LW.v0; rfl; rfl; apply ValP.move; rfl; apply LW.guardT'; rfl; rfl; (with_reducible rfl); apply LW.v0; rfl; rfl; apply ValP.leqF; rfl; rfl; omega; apply LW.v0; rfl; rfl; apply ValP.pickT'; rfl; (with_reducible rfl); rfl; apply LW.v0; rfl; rfl; apply ValP.assign; rfl; apply LW.nil; refine thenN ?_; apply CW.condF; rfl; (with_reducible rfl); refine CW.seq ?_; refine CW.region ?_; apply LW.v0; rfl; rfl; apply ValP.move; rfl; apply LW.v0; rfl; rfl; apply ValP.geqT; rfl; rfl; omega; apply LW.v0; rfl; rfl; apply ValP.move; rfl; apply LW.guardT'; rfl; rfl; (with_reducible rfl); apply LW.v0; rfl; rfl; apply ValP.move; rfl; apply LW.guardT'; rfl; rfl; (with_reducible rfl); apply LW.v0; rfl; rfl; apply ValP.leqF; rfl; rfl; omega; apply LW.v0; rfl; rfl; apply ValP.pickT'; rfl; (with_reducible rfl); rfl; apply LW.v0; rfl; rfl; apply ValP.assign; rfl; apply LW.nil; refine thenN ?_; apply CW.condF; rfl; (with_reducible rfl); refine CW.seq ?_; refine CW.region ?_; apply LW.v0; rfl; rfl; apply ValP.move; rfl; apply LW.v0; rfl; rfl; apply ValP.geqT; rfl; rfl; omega; apply LW.v0; rfl; rfl; apply ValP.move; rfl; apply LW.guardT'; rfl; rfl; (with_reducible rfl); apply LW.v0; rfl; rfl; apply ValP.move; rfl; apply LW.guardT'; rfl; rfl; (with_reducible rfl); apply LW.v0; rfl; rfl; apply ValP.leqF; rfl; rfl; omega; apply LW.v0; rfl; rfl; apply ValP.pickT'; rfl; (with_reducible rfl); rfl; apply LW.v0; rfl; rfl; apply ValP.assign; rfl; apply LW.nil; refine thenN ?_; apply CW.condF; rfl; (with_reducible rfl); refine CW.skip ?_; refine blkN ?_; refine thenN ?_; refine CW.seq ?_; refine CW.region ?_; apply LW.v0; rfl; rfl; apply ValP.buildT; infer_instance; infer_instance; exact PartsOk.nil; rfl; simp only [fillP, wrCells, Value.cells, List.getElem?_cons_zero, List.getElem?_cons_succ, List.toList_toArray, List.setIfInBounds_toArray, List.set_cons_succ, List.set_cons_zero, Nat.reduceAdd, Nat.zero_add]; rfl; apply LW.store; rfl; rfl; apply SetAt.head; apply Wr.whole; rfl; rfl; rfl; apply LW.v0; rfl; rfl; apply ValP.assign; rfl; apply LW.nil; refine thenN ?_; refine CW.ret ?_)
    (apply finR; exact .inl rfl; rfl; rfl; rfl; apply ResL.cons; apply Res.cell; rfl; apply Known.at; apply FsAt.head; exact Rd.whole rfl; apply ResL.cons; exact Res.tmp rfl; exact ResL.nil)
    rfl
/-! ### The table -/
def PlainV (v : Value) (gs : Fs) : Prop := ∃ b, v = .slice (some ⟨b, 0, none⟩) 50 50 ∧ gs = [(b, .cells (opcs plainOps).toArray 87 (0, 0))]
theorem plain_len : (opcs plainOps).length = 250 := by kernel_rfl
theorem PlainV.us {v : Value} {gs us : Fs} {w : World} (h : PlainV v gs) (hu : ∀ p ∈ us, w.heap[p.1]? = some p.2) (hs : List.Sublist gs us) : RowAt w 5 v plainOps.length (opcs plainOps) := by
  obtain ⟨b, rfl, rfl⟩ := h
  have hg := hu (b, .cells (opcs plainOps).toArray 87 (0, 0)) (hs.subset (by simp))
  exact ⟨⟨_, _, rfl, by decide, by decide⟩, plain_len, fun _ => ⟨b, 0, 50, _, _, _, rfl, hg, by rw [List.drop_zero]; exact List.take_of_length_le (by rw [List.toList_toArray, plain_len]; decide)⟩, .own hg⟩
theorem plain_calls (w : World) : Calls Tryd.prog 54 #[] w (RetG w [] PlainV) := by
  refine enter (args := []) _ [] [] Tryd.func54 rfl Tryd.ntmps54 rfl (by simp) .nil ?_
  (refine CW.seq ?_; refine CW.region ?_; apply LW.v0; rfl; rfl; apply ValP.assign; rfl; apply LW.nil; refine thenN ?_; refine CW.seq ?_; refine CW.region ?_; apply LW.v0; rfl; rfl; apply ValP.buildT; infer_instance; infer_instance; apply PartsOk.cons; rfl; apply PartsOk.cons; rfl; exact PartsOk.nil; rfl; simp only [fillP, wrCells, Value.cells, List.getElem?_cons_zero, List.getElem?_cons_succ, List.toList_toArray, List.setIfInBounds_toArray, List.set_cons_succ, List.set_cons_zero, Nat.reduceAdd, Nat.zero_add]; rfl; apply LW.v0; rfl; rfl; apply ValP.buildT; infer_instance; infer_instance; apply PartsOk.cons; rfl; apply PartsOk.cons; rfl; apply PartsOk.cons; rfl; apply PartsOk.cons; rfl; exact PartsOk.nil; rfl; simp only [fillP, wrCells, Value.cells, List.getElem?_cons_zero, List.getElem?_cons_succ, List.toList_toArray, List.setIfInBounds_toArray, List.set_cons_succ, List.set_cons_zero, Nat.reduceAdd, Nat.zero_add]; rfl; apply LW.v0; rfl; rfl; apply ValP.buildT; infer_instance; infer_instance; apply PartsOk.cons; rfl; apply PartsOk.cons; rfl; apply PartsOk.cons; rfl; apply PartsOk.cons; rfl; exact PartsOk.nil; rfl; simp only [fillP, wrCells, Value.cells, List.getElem?_cons_zero, List.getElem?_cons_succ, List.toList_toArray, List.setIfInBounds_toArray, List.set_cons_succ, List.set_cons_zero, Nat.reduceAdd, Nat.zero_add]; rfl; apply LW.v0; rfl; rfl; apply ValP.buildT; infer_instance; infer_instance; apply PartsOk.cons; rfl; apply PartsOk.cons; rfl; apply PartsOk.cons; rfl; apply PartsOk.cons; rfl; exact PartsOk.nil; rfl; simp only [fillP, wrCells, Value.cells, List.getElem?_cons_zero, List.getElem?_cons_succ, List.toList_toArray, List.setIfInBounds_toArray, List.set_cons_succ, List.set_cons_zero, Nat.reduceAdd, Nat.zero_add]; rfl; apply LW.v0; rfl; rfl; apply ValP.buildT; infer_instance; infer_instance; apply PartsOk.cons; rfl; apply PartsOk.cons; rfl; apply PartsOk.cons; rfl; apply PartsOk.cons; rfl; exact PartsOk.nil; rfl; simp only [fillP, wrCells, Value.cells, List.getElem?_cons_zero, List.getElem?_cons_succ, List.toList_toArray, List.setIfInBounds_toArray, List.set_cons_succ, List.set_cons_zero, Nat.reduceAdd, Nat.zero_add]; rfl; apply LW.v0; rfl; rfl; apply ValP.buildT; infer_instance; infer_instance; apply PartsOk.cons; rfl; apply PartsOk.cons; rfl; apply PartsOk.cons; rfl; apply PartsOk.cons; rfl; exact PartsOk.nil; rfl; simp only [fillP, wrCells, Value.cells, List.getElem?_cons_zero, List.getElem?_cons_succ, List.toList_toArray, List.setIfInBounds_toArray, List.set_cons_succ, List.set_cons_zero, Nat.reduceAdd, Nat.zero_add]; rfl; apply LW.v0; rfl; rfl; apply ValP.buildT; infer_instance; infer_instance; apply PartsOk.cons; rfl; apply PartsOk.cons; rfl; apply PartsOk.cons; rfl; apply PartsOk.cons; rfl; exact PartsOk.nil; rfl; simp only [fillP, wrCells, Value.cells, List.getElem?_cons_zero, List.getElem?_cons_succ, List.toList_toArray, List.setIfInBounds_toArray, List.set_cons_succ, List.set_cons_zero, Nat.reduceAdd, Nat.zero_add]; rfl; apply LW.v0; rfl; rfl; apply ValP.buildT; infer_instance; infer_instance; apply PartsOk.cons; rfl; apply PartsOk.cons; rfl; apply PartsOk.cons; rfl; apply PartsOk.cons; rfl; exact PartsOk.nil; rfl; simp only [fillP, wrCells, Value.cells, List.getElem?_cons_zero, List.getElem?_cons_succ, List.toList_toArray, List.setIfInBounds_toArray, List.set_cons_succ, List.set_cons_zero, Nat.reduceAdd, Nat.zero_add]; rfl; apply LW.v0; rfl; rfl; apply ValP.buildT; infer_instance; infer_instance; apply PartsOk.cons; rfl; apply PartsOk.cons; rfl; apply PartsOk.cons; rfl; apply PartsOk.cons; rfl; exact PartsOk.nil; rfl; simp only [fillP, wrCells, Value.cells, List.getElem?_cons_zero, List.getElem?_cons_succ, List.toList_toArray, List.setIfInBounds_toArray, List.set_cons_succ, List.set_cons_zero, Nat.reduceAdd, Nat.zero_add]; rfl; apply LW.v0; rfl; rfl; apply ValP.buildT; infer_instance; infer_instance; apply PartsOk.cons; rfl; apply PartsOk.cons; rfl; apply PartsOk.cons; rfl; apply PartsOk.cons; rfl; exact PartsOk.nil; rfl; simp only [fillP, wrCells, Value.cells, List.getElem?_cons_zero, List.getElem?_cons_succ, List.toList_toArray, List.setIfInBounds_toArray, List.set_cons_succ, List.set_cons_zero, Nat.reduceAdd, Nat.zero_add]; rfl; apply LW.v0; rfl; rfl; apply ValP.buildT; infer_instance; infer_instance; apply PartsOk.cons; rfl; apply PartsOk.cons; rfl; apply PartsOk.cons; rfl; apply PartsOk.cons; rfl; exact PartsOk.nil; rfl; simp only [fillP, wrCells, Value.cells, List.getElem?_cons_zero, List.getElem?_cons_succ, List.toList_toArray, List.setIfInBounds_toArray, List.set_cons_succ, List.set_cons_zero, Nat.reduceAdd, Nat.zero_add]; rfl; apply LW.v0; rfl; rfl; apply ValP.buildT; infer_instance; infer_instance; apply PartsOk.cons; rfl; apply PartsOk.cons; rfl; apply PartsOk.cons; rfl; apply PartsOk.cons; rfl; exact PartsOk.nil; rfl; simp only [fillP, wrCells, Value.cells, List.getElem?_cons_zero, List.getElem?_cons_succ, List.toList_toArray, List.setIfInBounds_toArray, List.set_cons_succ, List.set_cons_zero, Nat.reduceAdd, Nat.zero_add]; rfl; apply LW.v0; rfl; rfl; apply ValP.buildT; infer_instance; infer_instance; apply PartsOk.cons; rfl; apply PartsOk.cons; rfl; apply PartsOk.cons; rfl; apply PartsOk.cons; rfl; exact PartsOk.nil; rfl; simp only [fillP, wrCells, Value.cells, List.getElem?_cons_zero, List.getElem?_cons_succ, List.toList_toArray, List.setIfInBounds_toArray, List.set_cons_succ, List.set_cons_zero, Nat.reduceAdd, Nat.zero_add]; rfl; apply LW.v0; rfl; rfl; apply ValP.buildT; infer_instance; infer_instance; apply PartsOk.cons; rfl; apply PartsOk.cons; rfl; apply PartsOk.cons; rfl; apply PartsOk.cons; rfl; exact PartsOk.nil; rfl; simp only [fillP, wrCells, Value.cells, List.getElem?_cons_zero, List.getElem?_cons_succ, List.toList_toArray, List.setIfInBounds_toArray, List.set_cons_succ, List.set_cons_zero, Nat.reduceAdd, Nat.zero_add]; rfl; apply LW.v0; rfl; rfl; apply ValP.buildT; infer_instance; infer_instance; apply PartsOk.cons; rfl; apply PartsOk.cons; rfl; apply PartsOk.cons; rfl; apply PartsOk.cons; rfl; exact PartsOk.nil; rfl; simp only [fillP, wrCells, Value.cells, List.getElem?_cons_zero, List.getElem?_cons_succ, List.toList_toArray, List.setIfInBounds_toArray, List.set_cons_succ, List.set_cons_zero, Nat.reduceAdd, Nat.zero_add]; rfl; apply LW.v0; rfl; rfl; apply ValP.buildT; infer_instance; infer_instance; apply PartsOk.cons; rfl; apply PartsOk.cons; rfl; apply PartsOk.cons; rfl; apply PartsOk.cons; rfl; exact PartsOk.nil; rfl; simp only [fillP, wrCells, Value.cells, List.getElem?_cons_zero, List.getElem?_cons_succ, List.toList_toArray, List.setIfInBounds_toArray, List.set_cons_succ, List.set_cons_zero, Nat.reduceAdd, Nat.zero_add]; rfl; apply LW.v0; rfl; rfl; apply ValP.buildT; infer_instance; infer_instance; apply PartsOk.cons; rfl; apply PartsOk.cons; rfl; apply PartsOk.cons; rfl; apply PartsOk.cons; rfl; exact PartsOk.nil; rfl; simp only [fillP, wrCells, Value.cells, List.getElem?_cons_zero, List.getElem?_cons_succ, List.toList_toArray, List.setIfInBounds_toArray, List.set_cons_succ, List.set_cons_zero, Nat.reduceAdd, Nat.zero_add]; rfl; apply LW.v0; rfl; rfl; apply ValP.buildT; infer_instance; infer_instance; apply PartsOk.cons; rfl; apply PartsOk.cons; rfl; apply PartsOk.cons; rfl; exact PartsOk.nil; rfl; simp only [fillP, wrCells, Value.cells, List.getElem?_cons_zero, List.getElem?_cons_succ, List.toList_toArray, List.setIfInBounds_toArray, List.set_cons_succ, List.set_cons_zero, Nat.reduceAdd, Nat.zero_add]; rfl; apply LW.v0; rfl; rfl; apply ValP.buildT; infer_instance; infer_instance; apply PartsOk.cons; rfl; apply PartsOk.cons; rfl; apply PartsOk.cons; rfl; apply PartsOk.cons; rfl; exact PartsOk.nil; rfl; simp only [fillP, wrCells, Value.cells, List.getElem?_cons_zero, List.getElem?_cons_succ, List.toList_toArray, List.setIfInBounds_toArray, List.set_cons_succ, List.set_cons_zero, Nat.reduceAdd, Nat.zero_add]; rfl; apply LW.v0; rfl; rfl; apply ValP.buildT; infer_instance; infer_instance; apply PartsOk.cons; rfl; apply PartsOk.cons; rfl; apply PartsOk.cons; rfl; exact PartsOk.nil; rfl; simp only [fillP, wrCells, Value.cells, List.getElem?_cons_zero, List.getElem?_cons_succ, List.toList_toArray, List.setIfInBounds_toArray, List.set_cons_succ, List.set_cons_zero, Nat.reduceAdd, Nat.zero_add]; rfl; apply LW.v0; rfl; rfl; apply ValP.buildT; infer_instance; infer_instance; apply PartsOk.cons; rfl; apply PartsOk.cons; rfl; apply PartsOk.cons; rfl; exact PartsOk.nil; rfl; simp only [fillP, wrCells, Value.cells, List.getElem?_cons_zero, List.getElem?_cons_succ, List.toList_toArray, List.setIfInBounds_toArray, List.set_cons_succ, List.set_cons_zero, Nat.reduceAdd, Nat.zero_add]; rfl; apply LW.v0; rfl; rfl; apply ValP.buildT; infer_instance; infer_instance; apply PartsOk.cons; rfl; apply PartsOk.cons; rfl; apply PartsOk.cons; rfl; exact PartsOk.nil; rfl; simp only [fillP, wrCells, Value.cells, List.getElem?_cons_zero, List.getElem?_cons_succ, List.toList_toArray, List.setIfInBounds_toArray, List.set_cons_succ, List.set_cons_zero, Nat.reduceAdd, Nat.zero_add]; rfl; apply LW.v0; rfl; rfl; apply ValP.buildT; infer_instance; infer_instance; apply PartsOk.cons; rfl; apply PartsOk.cons; rfl; apply PartsOk.cons; rfl; apply PartsOk.cons; rfl; exact PartsOk.nil; rfl; simp only [fillP, wrCells, Value.cells, List.getElem?_cons_zero, List.getElem?_cons_succ, List.toList_toArray, List.setIfInBounds_toArray, List.set_cons_succ, List.set_cons_zero, Nat.reduceAdd, Nat.zero_add]; rfl; apply LW.v0; rfl; rfl; apply ValP.buildT; infer_instance; infer_instance; apply PartsOk.cons; rfl; apply PartsOk.cons; rfl; apply PartsOk.cons; rfl; exact PartsOk.nil; rfl; simp only [fillP, wrCells, Value.cells, List.getElem?_cons_zero, List.getElem?_cons_succ, List.toList_toArray, List.setIfInBounds_toArray, List.set_cons_succ, List.set_cons_zero, Nat.reduceAdd, Nat.zero_add]; rfl; apply LW.v0; rfl; rfl; apply ValP.buildT; infer_instance; infer_instance; apply PartsOk.cons; rfl; apply PartsOk.cons; rfl; apply PartsOk.cons; rfl; exact PartsOk.nil; rfl; simp only [fillP, wrCells, Value.cells, List.getElem?_cons_zero, List.getElem?_cons_succ, List.toList_toArray, List.setIfInBounds_toArray, List.set_cons_succ, List.set_cons_zero, Nat.reduceAdd, Nat.zero_add]; rfl; apply LW.v0; rfl; rfl; apply ValP.buildT; infer_instance; infer_instance; apply PartsOk.cons; rfl; apply PartsOk.cons; rfl; apply PartsOk.cons; rfl; exact PartsOk.nil; rfl; simp only [fillP, wrCells, Value.cells, List.getElem?_cons_zero, List.getElem?_cons_succ, List.toList_toArray, List.setIfInBounds_toArray, List.set_cons_succ, List.set_cons_zero, Nat.reduceAdd, Nat.zero_add]; rfl; apply LW.v0; rfl; rfl; apply ValP.buildT; infer_instance; infer_instance; apply PartsOk.cons; rfl; apply PartsOk.cons; rfl; apply PartsOk.cons; rfl; exact PartsOk.nil; rfl; simp only [fillP, wrCells, Value.cells, List.getElem?_cons_zero, List.getElem?_cons_succ, List.toList_toArray, List.setIfInBounds_toArray, List.set_cons_succ, List.set_cons_zero, Nat.reduceAdd, Nat.zero_add]; rfl; apply LW.v0; rfl; rfl; apply ValP.buildT; infer_instance; infer_instance; apply PartsOk.cons; rfl; apply PartsOk.cons; rfl; apply PartsOk.cons; rfl; exact PartsOk.nil; rfl; simp only [fillP, wrCells, Value.cells, List.getElem?_cons_zero, List.getElem?_cons_succ, List.toList_toArray, List.setIfInBounds_toArray, List.set_cons_succ, List.set_cons_zero, Nat.reduceAdd, Nat.zero_add]; rfl; apply LW.v0; rfl; rfl; apply ValP.buildT; infer_instance; infer_instance; apply PartsOk.cons; rfl; apply PartsOk.cons; rfl; apply PartsOk.cons; rfl; exact PartsOk.nil; rfl; simp only [fillP, wrCells, Value.cells, List.getElem?_cons_zero, List.getElem?_cons_succ, List.toList_toArray, List.setIfInBounds_toArray, List.set_cons_succ, List.set_cons_zero, Nat.reduceAdd, Nat.zero_add]; rfl; apply LW.v0; rfl; rfl; apply ValP.buildT; infer_instance; infer_instance; apply PartsOk.cons; rfl; apply PartsOk.cons; rfl; apply PartsOk.cons; rfl; exact PartsOk.nil; rfl; simp only [fillP, wrCells, Value.cells, List.getElem?_cons_zero, List.getElem?_cons_succ, List.toList_toArray, List.setIfInBounds_toArray, List.set_cons_succ, List.set_cons_zero, Nat.reduceAdd, Nat.zero_add]; rfl; apply LW.v0; rfl; rfl; apply ValP.buildT; infer_instance; infer_instance; apply PartsOk.cons; rfl; apply PartsOk.cons; rfl; apply PartsOk.cons; rfl; exact PartsOk.nil; rfl; simp only [fillP, wrCells, Value.cells, List.getElem?_cons_zero, List.getElem?_cons_succ, List.toList_toArray, List.setIfInBounds_toArray, List.set_cons_succ, List.set_cons_zero, Nat.reduceAdd, Nat.zero_add]; rfl; apply LW.v0; rfl; rfl; apply ValP.buildT; infer_instance; infer_instance; apply PartsOk.cons; rfl; apply PartsOk.cons; rfl; apply PartsOk.cons; rfl; exact PartsOk.nil; rfl; simp only [fillP, wrCells, Value.cells, List.getElem?_cons_zero, List.getElem?_cons_succ, List.toList_toArray, List.setIfInBounds_toArray, List.set_cons_succ, List.set_cons_zero, Nat.reduceAdd, Nat.zero_add]; rfl; apply LW.v0; rfl; rfl; apply ValP.buildT; infer_instance; infer_instance; apply PartsOk.cons; rfl; apply PartsOk.cons; rfl; apply PartsOk.cons; rfl; apply PartsOk.cons; rfl; exact PartsOk.nil; rfl; simp only [fillP, wrCells, Value.cells, List.getElem?_cons_zero, List.getElem?_cons_succ, List.toList_toArray, List.setIfInBounds_toArray, List.set_cons_succ, List.set_cons_zero, Nat.reduceAdd, Nat.zero_add]; rfl; apply LW.v0; rfl; rfl; apply ValP.buildT; infer_instance; infer_instance; apply PartsOk.cons; rfl; apply PartsOk.cons; rfl; apply PartsOk.cons; rfl; exact PartsOk.nil; rfl; simp only [fillP, wrCells, Value.cells, List.getElem?_cons_zero, List.getElem?_cons_succ, List.toList_toArray, List.setIfInBounds_toArray, List.set_cons_succ, List.set_cons_zero, Nat.reduceAdd, Nat.zero_add]; rfl; apply LW.v0; rfl; rfl; apply ValP.buildT; infer_instance; infer_instance; apply PartsOk.cons; rfl; apply PartsOk.cons; rfl; apply PartsOk.cons; rfl; exact PartsOk.nil; rfl; simp only [fillP, wrCells, Value.cells, List.getElem?_cons_zero, List.getElem?_cons_succ, List.toList_toArray, List.setIfInBounds_toArray, List.set_cons_succ, List.set_cons_zero, Nat.reduceAdd, Nat.zero_add]; rfl; apply LW.v0; rfl; rfl; apply ValP.buildT; infer_instance; infer_instance; apply PartsOk.cons; rfl; apply PartsOk.cons; rfl; apply PartsOk.cons; rfl; apply PartsOk.cons; rfl; exact PartsOk.nil; rfl; simp only [fillP, wrCells, Value.cells, List.getElem?_cons_zero, List.getElem?_cons_succ, List.toList_toArray, List.setIfInBounds_toArray, List.set_cons_succ, List.set_cons_zero, Nat.reduceAdd, Nat.zero_add]; rfl; apply LW.v0; rfl; rfl; apply ValP.buildT; infer_instance; infer_instance; apply PartsOk.cons; rfl; apply PartsOk.cons; rfl; apply PartsOk.cons; rfl; exact PartsOk.nil; rfl; simp only [fillP, wrCells, Value.cells, List.getElem?_cons_zero, List.getElem?_cons_succ, List.toList_toArray, List.setIfInBounds_toArray, List.set_cons_succ, List.set_cons_zero, Nat.reduceAdd, Nat.zero_add]; rfl; apply LW.v0; rfl; rfl; apply ValP.buildT; infer_instance; infer_instance; apply PartsOk.cons; rfl; apply PartsOk.cons; rfl; apply PartsOk.cons; rfl; exact PartsOk.nil; rfl; simp only [fillP, wrCells, Value.cells, List.getElem?_cons_zero, List.getElem?_cons_succ, List.toList_toArray, List.setIfInBounds_toArray, List.set_cons_succ, List.set_cons_zero, Nat.reduceAdd, Nat.zero_add]; rfl; apply LW.v0; rfl; rfl; apply ValP.buildT; infer_instance; infer_instance; apply PartsOk.cons; rfl; apply PartsOk.cons; rfl; apply PartsOk.cons; rfl; exact PartsOk.nil; rfl; simp only [fillP, wrCells, Value.cells, List.getElem?_cons_zero, List.getElem?_cons_succ, List.toList_toArray, List.setIfInBounds_toArray, List.set_cons_succ, List.set_cons_zero, Nat.reduceAdd, Nat.zero_add]; rfl; apply LW.v0; rfl; rfl; apply ValP.buildT; infer_instance; infer_instance; apply PartsOk.cons; rfl; apply PartsOk.cons; rfl; apply PartsOk.cons; rfl; exact PartsOk.nil; rfl; simp only [fillP, wrCells, Value.cells, List.getElem?_cons_zero, List.getElem?_cons_succ, List.toList_toArray, List.setIfInBounds_toArray, List.set_cons_succ, List.set_cons_zero, Nat.reduceAdd, Nat.zero_add]; rfl; apply LW.v0; rfl; rfl; apply ValP.buildT; infer_instance; infer_instance; apply PartsOk.cons; rfl; apply PartsOk.cons; rfl; exact PartsOk.nil; rfl; simp only [fillP, wrCells, Value.cells, List.getElem?_cons_zero, List.getElem?_cons_succ, List.toList_toArray, List.setIfInBounds_toArray, List.set_cons_succ, List.set_cons_zero, Nat.reduceAdd, Nat.zero_add]; rfl; apply LW.v0; rfl; rfl; apply ValP.buildT; infer_instance; infer_instance; apply PartsOk.cons; rfl; apply PartsOk.cons; rfl; apply PartsOk.cons; rfl; apply PartsOk.cons; rfl; exact PartsOk.nil; rfl; simp only [fillP, wrCells, Value.cells, List.getElem?_cons_zero, List.getElem?_cons_succ, List.toList_toArray, List.setIfInBounds_toArray, List.set_cons_succ, List.set_cons_zero, Nat.reduceAdd, Nat.zero_add]; rfl; apply LW.v0; rfl; rfl; apply ValP.buildT; infer_instance; infer_instance; apply PartsOk.cons; rfl; apply PartsOk.cons; rfl; apply PartsOk.cons; rfl; exact PartsOk.nil; rfl; simp only [fillP, wrCells, Value.cells, List.getElem?_cons_zero, List.getElem?_cons_succ, List.toList_toArray, List.setIfInBounds_toArray, List.set_cons_succ, List.set_cons_zero, Nat.reduceAdd, Nat.zero_add]; rfl; apply LW.v0; rfl; rfl; apply ValP.buildT; infer_instance; infer_instance; apply PartsOk.cons; rfl; apply PartsOk.cons; rfl; apply PartsOk.cons; rfl; apply PartsOk.cons; rfl; exact PartsOk.nil; rfl; simp only [fillP, wrCells, Value.cells, List.getElem?_cons_zero, List.getElem?_cons_succ, List.toList_toArray, List.setIfInBounds_toArray, List.set_cons_succ, List.set_cons_zero, Nat.reduceAdd, Nat.zero_add]; rfl; apply LW.v0; rfl; rfl; apply ValP.buildT; infer_instance; infer_instance; apply PartsOk.cons; rfl; apply PartsOk.cons; rfl; apply PartsOk.cons; rfl; exact PartsOk.nil; rfl; simp only [fillP, wrCells, Value.cells, List.getElem?_cons_zero, List.getElem?_cons_succ, List.toList_toArray, List.setIfInBounds_toArray, List.set_cons_succ, List.set_cons_zero, Nat.reduceAdd, Nat.zero_add]; rfl; apply LW.v0; rfl; rfl; apply ValP.buildT; infer_instance; infer_instance; apply PartsOk.cons; rfl; apply PartsOk.cons; rfl; apply PartsOk.cons; rfl; apply PartsOk.cons; rfl; exact PartsOk.nil; rfl; simp only [fillP, wrCells, Value.cells, List.getElem?_cons_zero, List.getElem?_cons_succ, List.toList_toArray, List.setIfInBounds_toArray, List.set_cons_succ, List.set_cons_zero, Nat.reduceAdd, Nat.zero_add]; rfl; apply LW.v0; rfl; rfl; apply ValP.buildT; infer_instance; infer_instance; apply PartsOk.cons; rfl; apply PartsOk.cons; rfl; apply PartsOk.cons; rfl; apply PartsOk.cons; rfl; exact PartsOk.nil; rfl; simp only [fillP, wrCells, Value.cells, List.getElem?_cons_zero, List.getElem?_cons_succ, List.toList_toArray, List.setIfInBounds_toArray, List.set_cons_succ, List.set_cons_zero, Nat.reduceAdd, Nat.zero_add]; rfl; apply LW.v0; rfl; rfl; apply ValP.buildT; infer_instance; infer_instance; apply PartsOk.cons; rfl; apply PartsOk.cons; rfl; apply PartsOk.cons; rfl; apply PartsOk.cons; rfl; exact PartsOk.nil; rfl; simp only [fillP, wrCells, Value.cells, List.getElem?_cons_zero, List.getElem?_cons_succ, List.toList_toArray, List.setIfInBounds_toArray, List.set_cons_succ, List.set_cons_zero, Nat.reduceAdd, Nat.zero_add]; rfl; apply LW.v0; rfl; rfl; apply ValP.buildT; infer_instance; infer_instance; apply PartsOk.cons; rfl; apply PartsOk.cons; rfl; apply PartsOk.cons; rfl; exact PartsOk.nil; rfl; simp only [fillP, wrCells, Value.cells, List.getElem?_cons_zero, List.getElem?_cons_succ, List.toList_toArray, List.setIfInBounds_toArray, List.set_cons_succ, List.set_cons_zero, Nat.reduceAdd, Nat.zero_add]; rfl; apply LW.v0; rfl; rfl; apply ValP.buildT; infer_instance; infer_instance; apply PartsOk.cons; rfl; apply PartsOk.cons; rfl; exact PartsOk.nil; rfl; simp only [fillP, wrCells, Value.cells, List.getElem?_cons_zero, List.getElem?_cons_succ, List.toList_toArray, List.setIfInBounds_toArray, List.set_cons_succ, List.set_cons_zero, Nat.reduceAdd, Nat.zero_add]; rfl)
  refine LW.v0 rfl rfl (ValP.buildA (vs := (plainOps.zipIdx.map fun p => (p.2, .agg (opc p.1)))) (c := (opcs plainOps).toArray) ?_ (by kernel_rfl) (by kernel_rfl)) ?_
  · (apply PartsOk.cons; rfl; apply PartsOk.cons; rfl; apply PartsOk.cons; rfl; apply PartsOk.cons; rfl; apply PartsOk.cons; rfl; apply PartsOk.cons; rfl; apply PartsOk.cons; rfl; apply PartsOk.cons; rfl; apply PartsOk.cons; rfl; apply PartsOk.cons; rfl; apply PartsOk.cons; rfl; apply PartsOk.cons; rfl; apply PartsOk.cons; rfl; apply PartsOk.cons; rfl; apply PartsOk.cons; rfl; apply PartsOk.cons; rfl; apply PartsOk.cons; rfl; apply PartsOk.cons; rfl; apply PartsOk.cons; rfl; apply PartsOk.cons; rfl; apply PartsOk.cons; rfl; apply PartsOk.cons; rfl; apply PartsOk.cons; rfl; apply PartsOk.cons; rfl; apply PartsOk.cons; rfl; apply PartsOk.cons; rfl; apply PartsOk.cons; rfl; apply PartsOk.cons; rfl; apply PartsOk.cons; rfl; apply PartsOk.cons; rfl; apply PartsOk.cons; rfl; apply PartsOk.cons; rfl; apply PartsOk.cons; rfl; apply PartsOk.cons; rfl; apply PartsOk.cons; rfl; apply PartsOk.cons; rfl; apply PartsOk.cons; rfl; apply PartsOk.cons; rfl; apply PartsOk.cons; rfl; apply PartsOk.cons; rfl; apply PartsOk.cons; rfl; apply PartsOk.cons; rfl; apply PartsOk.cons; rfl; apply PartsOk.cons; rfl; apply PartsOk.cons; rfl; apply PartsOk.cons; rfl; apply PartsOk.cons; rfl; apply PartsOk.cons; rfl; apply PartsOk.cons; rfl; apply PartsOk.cons; rfl; exact PartsOk.nil)
  (apply LW.allocA; rfl; intro _; apply LW.store; rfl; rfl; apply SetAt.head; apply Wr.whole; kernel_rfl; kernel_rfl; kernel_rfl; apply LW.nil; refine thenN ?_; refine CW.seq ?_; refine CW.region ?_; apply LW.v0; rfl; rfl; apply ValP.cutArrAll; infer_instance; infer_instance; rfl; apply LW.v0; rfl; rfl; apply ValP.assign; rfl; apply LW.nil; refine thenN ?_; refine CW.ret ?_)
  rename_i b
  apply finM [(b, .cells (opcs plainOps).toArray 87 (0, 0))]; (exact .inl rfl); (exact Shut.nil); rfl; (apply ResL.cons; exact Res.tmp rfl; exact ResL.nil); exact List.Sublist.refl _
  exact ⟨b, rfl, rfl⟩
end Go.Proofs.YthhalnmbfokbbaaDoor
