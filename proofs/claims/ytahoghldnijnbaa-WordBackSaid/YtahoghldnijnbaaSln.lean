/-
  A SMALL LOGIC OVER THE KIT's WALK, PART N: rows cut, made, put behind one another; calls that hand back rows.
  Conditions: none; over any program.
-/
import Derived.Test.YtahoghldnijnbaaSlm
import Derived.Laws.MakeOwn
import Derived.Laws.Slices
import Derived.Laws.Small
namespace Go.Proofs.Ytahoghldnijnbaa.SL
set_option linter.unusedVariables false
set_option linter.unusedSimpArgs false
open Go Go.RowKit

/-- x[k:] of a slice. -/
def cutAt (p : Option Addr) (k n c sz : Nat) : Value := .slice (if c = k then p else p.map (·.add (k * sz))) (n - k) (c - k)

theorem RowAt.take {w : World} {sz n c k : Nat} {p : Option Addr} {xs : List Value} (h : RowAt w sz (.slice p n c) n xs) (hk : k ≤ n) : RowAt w sz (.slice p k c) k (xs.take (k * sz)) := by
  obtain ⟨p', c', he, h1, h2⟩ := h.form
  cases he
  refine ⟨⟨_, _, rfl, by omega, h2⟩, ?_, fun h0 => ?_, fun _ _ _ he => by cases he; exact h.lies _ _ _ rfl⟩
  · rw [List.length_take, h.len]; exact Nat.min_eq_left (Nat.mul_le_mul_right _ hk)
  · obtain ⟨b, off, c', cs, E, fr, he, hb, hx⟩ := h.pos (by omega)
    cases he
    refine ⟨b, off, c, cs, E, fr, rfl, hb, ?_⟩
    rw [← hx, List.take_take, Nat.min_eq_left (Nat.mul_le_mul_right _ hk)]
theorem RowAt.drop {w : World} {sz n c k : Nat} {p : Option Addr} {xs : List Value} (h : RowAt w sz (.slice p n c) n xs) (hk : k ≤ n) : RowAt w sz (cutAt p k n c sz) (n - k) (xs.drop (k * sz)) := by
  obtain ⟨p', c', he, h1, h2⟩ := h.form
  cases he
  refine ⟨⟨_, _, rfl, by omega, by omega⟩, ?_, fun h0 => ?_, fun p' n' c' he => by
    unfold cutAt at he
    simp only [Value.slice.injEq] at he
    obtain ⟨e1, _, e3⟩ := he
    by_cases hck : c = k
    · exact .inr (.inl (by omega))
    · rw [if_neg hck] at e1
      rcases h.lies _ _ _ rfl with h | h | ⟨b, off, o, h, hb⟩
      · subst h; exact .inl (by simpa using e1.symm)
      · exact .inr (.inl (by omega))
      · subst h; exact .inr (.inr ⟨b, off + k * sz, o, by simpa [addr_add] using e1.symm, hb⟩)⟩
  · rw [List.length_drop, h.len, Nat.sub_mul]
  · obtain ⟨b, off, c', cs, E, fr, he, hb, hx⟩ := h.pos (by omega)
    cases he
    refine ⟨b, off + k * sz, c - k, cs, E, fr, ?_, hb, ?_⟩
    · unfold cutAt; rw [if_neg (by omega)]; simp [addr_add]
    · rw [← hx, List.drop_take, List.drop_drop, Nat.sub_mul]
theorem IsRow.take {E : TypeId} {sz n c k : Nat} {p : Option Addr} {xs : List Value} {seg : Fs} (h : IsRow E sz (.slice p n c) n xs seg) (hk : k ≤ n) : IsRow E sz (.slice p k c) k (xs.take (k * sz)) seg := by
  cases h with
  | nil => obtain rfl : k = 0 := by omega
           simpa using IsRow.nil
  | own hn hm hc ht hl =>
    refine .own (by omega) hm hc ?_ ?_
    · rw [← ht, List.take_take, Nat.min_eq_left (Nat.mul_le_mul_right _ hk)]
    · rw [List.length_take, hl]; exact Nat.min_eq_left (Nat.mul_le_mul_right _ hk)

section cut
variable {P : Program} {e : Env} {T E : TypeId} {x lo hi : Operand} {p : Option Addr} {n c : Nat}
theorem elem_un (h : P.underlying T = some (.slice E)) : P.underlying T = some (.slice (P.elem T)) := by
  rw [h, Program.elem, h]
theorem elem_eq (h : P.underlying T = some (.slice E)) : P.elem T = E := by rw [Program.elem, h]
/-- x[:k] -/
theorem ValP.cutTo {ik : IntKind} {k sz : Nat} {z : Value} (hU : UnI P T (.slice E)) (hI : InfoI P E sz z) (hx : e.ev x = some (.slice p n c)) (hh : e.ev hi = some (.int ik (k : Int))) (hk : k ≤ c) : ValP P e [] (.slice T x none (some hi) none) (.slice p k c) := fun ρ w hρ _ d t pos af g => by
  have hu : P.underlying T = some (.slice E) := hU.un
  have h1 := run_slice_h (P := P) w T p n c (elem_un hu) ik (k : Int) (by omega) (by omega)
  rw [elem_eq hu, run_size] at h1
  have h2 : (Instr.sliceAt T (.slice p n c) none (some (.int ik (k : Int))) none).run P w = .ok (.slice p k c) w := by
    rw [run_sliceAt_slice (w := w) T _ _ _ _ (elem_un hu), h1]
    simp only [Result.andThen_ok, sliced, Nat.zero_mul, Int.toNat_natCast, Nat.sub_zero]
    cases p with
    | none => simp
    | some a => simp [Addr.add]
  simp [execOp, hρ x _ hx, hρ hi _ hh, h2]
/-- x[k:] -/
theorem ValP.cutFrom {il : IntKind} {k sz : Nat} {z : Value} (hU : UnI P T (.slice E)) (hI : InfoI P E sz z) (hx : e.ev x = some (.slice p n c)) (hl : e.ev lo = some (.int il (k : Int))) (hk : k ≤ n) : ValP P e [] (.slice T x (some lo) none none) (cutAt p k n c sz) := fun ρ w hρ _ d t pos af g => by
  have hu : P.underlying T = some (.slice E) := hU.un
  have h1 := run_slice_l (P := P) w T p n c (elem_un hu) il (k : Int) (by omega) (by omega)
  rw [elem_eq hu, run_size] at h1
  have h2 : (Instr.sliceAt T (.slice p n c) (some (.int il (k : Int))) none none).run P w = .ok (cutAt p k n c sz) w := by
    rw [run_sliceAt_slice (w := w) T _ _ _ _ (elem_un hu), h1]
    simp only [Result.andThen_ok, sliced, Int.toNat_natCast, cutAt]
  simp [execOp, hρ x _ hx, hρ lo _ hl, h2]
end cut

section mk
variable {C : Cu} {ops : Array Oper} {Q : Post} {rest : List Oper} {e : Env} {fs : Fs} {d : Nat} {t : TypeId} {pos : String} {af : Array Edge}
theorem NewP.makeSlice {P : Program} {T E sz bytes : Nat} {z : Value} {x : Operand} {ik : IntKind} {n : Nat} (hU : UnI P T (.slice E)) (hI : InfoI P E sz z) (hB : BytI P E bytes) (hx : e.ev x = some (.int ik (n : Int))) (hb : n * bytes ≤ 281474976710656) (h63 : n ≤ 9223372036854775807) :
    NewP P e (.makeSlice T x x) (.sl n n) (.cells (madeCells z.cells (n * sz)) E (0, 0)) := fun ρ w hρ d t pos af g => by
  obtain ⟨i, i1, i2, i3, i4⟩ := info_all (P := P) (T := E)
  have hr := run_make (P := P) w T E i z hU.un i1 i3 ik ik (n : Int) (n : Int) (by omega) (by omega) (by rw [i4]; have : ((n * bytes : Nat) : Int) ≤ 281474976710656 := by omega
                                                                                                         rwa [Int.natCast_mul, Int.mul_comm] at this) (by omega)
  simp only [Int.toNat_natCast, i2] at hr
  simp [execOp, hρ x _ hx, hr, Sh.val]
theorem made_one {z : Value} {n : Nat} (hz : z.cells = #[z]) : (madeCells z.cells (n * 1)).toList = List.replicate n z := by
  rw [hz, Nat.mul_one]
  apply List.ext_getElem?
  intro i
  simp only [madeCells]
  rw [Array.getElem?_toList, Array.getElem?_map, List.getElem?_replicate]
  split
  · rename_i h
    rw [Array.getElem?_eq_getElem (by simpa using h)]
    simp [Nat.mod_one]
  · rename_i h
    rw [Array.getElem?_eq_none (by simpa using h)]
    rfl
/-- **make** of n elements of one cell each. -/
theorem LW.makeRow {T E bytes : Nat} {z : Value} {x : Operand} {ik : IntKind} {n : Nat} (hd : Nat.blt d C.N = true) (hU : UnI C.P T (.slice E)) (hI : InfoI C.P E 1 z) (hB : BytI C.P E bytes) (hz : z.cells = #[z]) (hx : e.ev x = some (.int ik (n : Int))) (hb : n * bytes ≤ 281474976710656) (h63 : n ≤ maxLen)
    (k : ∀ v seg, IsRow E 1 v n (List.replicate n z) seg → LW C ops Q rest ((d, v) :: e) (seg ++ fs)) : LW C ops Q (⟨some d, .makeSlice T x x, t, pos, af, none⟩ :: rest) e fs :=
  LW.n0 hd rfl (.makeSlice hU hI hB hx hb (by simpa [maxLen] using h63)) fun g => k _ [(g, _)] (.own (Nat.le_refl _) h63 (by simp [madeCells]) (by rw [made_one hz]; simp) (by simp))

/-- **append(s, x...)**: s a row of ours, x a row that may be read. -/
theorem LW.appendAt {s x : Operand} {tys : Array TypeId} {T E : TypeId} {size bytes : Nat} {z v vx : Value} {n m : Nat} {xs news : List Value} {seg pre post : Fs} (hd : Nat.blt d C.N = true) (hT : tys = #[T, T]) (hU : UnI C.P T (.slice E)) (hI : InfoI C.P E size z) (hB : BytI C.P E bytes)
    (hz : z.cells.size = size) (hs : e.ev s = some v) (hx : e.ev x = some vx) (hseg : AtSeg fs pre seg post) (hrow : IsRow E size v n xs seg) (hat : ∀ w, St C.w0 C.S fs w → RowAt w size vx m news)
    (h1 : ∀ u ∈ news, u.oneCell' = true) (hm : 0 < m) (h63 : n + m ≤ maxLen) (hb : (n + m) * bytes ≤ 140737488355328)
    (k : ∀ v' seg', IsRow E size v' (n + m) (xs ++ news) seg' → ∃ fs', AtSeg fs' pre seg' post ∧ LW C ops Q rest ((d, v') :: e) fs') :
    LW C ops Q (⟨some d, .call { callee := .builtin .append, args := #[s, x], argTypes := tys }, t, pos, af, none⟩ :: rest) e fs := fun a w hsat => by
  subst hT
  obtain ⟨i, i1, i2, i3, i4⟩ := info_all (P := C.P) (T := E)
  have hA := hat w hsat.st
  obtain ⟨b, off, c, cs, E', fr, rfl, hblk, hnx⟩ := hA.pos hm
  have hst := hsat.st
  rw [hseg.eq] at hst
  obtain ⟨v', seg', w', hr, hrow', hw'⟩ := row_append (P := C.P) (ty := t) hU.un i1 i3 i2 hz hrow hst ⟨b, off, none⟩ m c news hA.len (fun j u hj => by
    rw [addr_add, cell_of hblk]; exact cut_get hnx hj) h1 hm h63 (by rw [i4]; exact hb)
  obtain ⟨fs', hat', hK⟩ := k v' seg' hrow'
  have hrun : (execOp a.eval ⟨some d, .call { callee := .builtin .append, args := #[s, x], argTypes := #[T, T] }, t, pos, af, none⟩).run C.P w = .ok (.value v') w' := by
    simp [execOp, resolve, invoke, builtin, hsat.env.ev hs, hsat.env.ev hx, hr]
  refine wpListIn_take (wanted_none _ rfl _) ⟨fun _ _ => trivial, ?_⟩
  rw [semAt_FR (fun c h => by cases h), hrun]
  exact hK _ _ ⟨hsat.env.put hd, by rw [hat'.eq]; exact hw'⟩
theorem LW.lay1 {T E sz : TypeId} {z v : Value} {x : Operand} (hd : Nat.blt d C.N = true) (hU : UnI C.P T (.slice E)) (hI : InfoI C.P E sz z) (hz : z.cells.size = sz) (hs : Nat.blt 0 sz = true) (hs' : Nat.ble sz 1000000 = true) (hx : e.ev x = some v) (hv : v.cells = #[v]) (h1 : sz = 1)
    (k : ∀ b, LW C ops Q rest ((d, .slice (some ⟨b, 0, none⟩) 1 1) :: e) ((b, .cells #[v] E (0, 0)) :: fs)) : LW C ops Q (⟨some d, .buildSlice T 1 #[(0, x)], t, pos, af, none⟩ :: rest) e fs := by
  refine LW.n0 hd rfl (NewP.buildS1 hz hs hs' hx (by rw [hv, h1]; rfl)) fun b => ?_
  rw [hv]; exact k b
theorem LW.layA {T E sz : TypeId} {z : Value} {c : Array Value} {x : Operand} (hd : Nat.blt d C.N = true) (hU : UnI C.P T (.slice E)) (hI : InfoI C.P E sz z) (hz : z.cells.size = sz) (hs : Nat.blt 0 sz = true) (hs' : Nat.ble sz 1000000 = true) (hx : e.ev x = some (.agg c)) (hc : c.size = sz)
    (k : ∀ b, LW C ops Q rest ((d, .slice (some ⟨b, 0, none⟩) 1 1) :: e) ((b, .cells c E (0, 0)) :: fs)) : LW C ops Q (⟨some d, .buildSlice T 1 #[(0, x)], t, pos, af, none⟩ :: rest) e fs :=
  LW.n0 hd rfl (NewP.buildS1 hz hs hs' hx hc) k
/-- A call that hands back facts of new blocks. -/
theorem LW.callR {fo : Operand} {args : Array Operand} {tys : Array TypeId} {f : FuncId} {vs : List Value} {Φ : Value → Fs → Prop} (hd : Nat.blt d C.N = true) (hf : e.ev fo = some (.func (.func f) #[] #[])) (hF : FnI C.P f) (ha : ArgsOk e args.toList vs)
    (hc : ∀ w, St C.w0 C.S fs w → Calls C.P f vs.toArray w (RetG w [] Φ)) (kk : ∀ v gs, Φ v gs → LW C ops Q rest ((d, v) :: e) (gs ++ fs)) : LW C ops Q (⟨some d, .call { callee := .value fo, args := args, argTypes := tys }, t, pos, af, none⟩ :: rest) e fs :=
  LW.callN hd hf hF ha (fun w hs => by rw [arr_id]; exact hc w hs) kk
end mk
section dwl
variable {C : Cu} {ops : Array Oper} {Q : Post} {tl rest : List Oper} {e : Env} {ts : Ts} {μ : Mu} {k d : Nat} {op : Op} {t : TypeId} {pos : String} {af : Array Edge} {g : Option (Nat × Bool)}
theorem DW.lay1 {T E sz : TypeId} {z v : Value} {x : Operand} (hk : ops[k]? = some ⟨some d, .buildSlice T 1 #[(0, x)], t, pos, af, g⟩) (hm : μ k = none) (hd : Nat.blt d C.N = true) (hg : WantT ops e g) (hU : UnI C.P T (.slice E)) (hI : InfoI C.P E sz z) (hz : z.cells.size = sz) (hs : Nat.blt 0 sz = true) (hs' : Nat.ble sz 1000000 = true) (hx : e.ev x = some v) (hv : v.cells = #[v]) (h1 : sz = 1)
    (kk : ∀ b, DW C ops μ Q tl rest (k + 1) ((d, .slice (some ⟨b, 0, none⟩) 1 1) :: e) ((b, .cells #[v] E (0, 0), [k], []) :: ts)) : DW C ops μ Q tl (⟨some d, .buildSlice T 1 #[(0, x)], t, pos, af, g⟩ :: rest) k e ts := by
  refine DW.new hk hm hd hg rfl (NewP.buildS1 hz hs hs' hx (by rw [hv, h1]; rfl)) fun b => ?_
  rw [hv]; exact kk b
theorem DW.layA {T E sz : TypeId} {z : Value} {c : Array Value} {x : Operand} (hk : ops[k]? = some ⟨some d, .buildSlice T 1 #[(0, x)], t, pos, af, g⟩) (hm : μ k = none) (hd : Nat.blt d C.N = true) (hg : WantT ops e g) (hU : UnI C.P T (.slice E)) (hI : InfoI C.P E sz z) (hz : z.cells.size = sz) (hs : Nat.blt 0 sz = true) (hs' : Nat.ble sz 1000000 = true) (hx : e.ev x = some (.agg c)) (hc : c.size = sz)
    (kk : ∀ b, DW C ops μ Q tl rest (k + 1) ((d, .slice (some ⟨b, 0, none⟩) 1 1) :: e) ((b, .cells c E (0, 0), [k], []) :: ts)) : DW C ops μ Q tl (⟨some d, .buildSlice T 1 #[(0, x)], t, pos, af, g⟩ :: rest) k e ts :=
  DW.new hk hm hd hg rfl (NewP.buildS1 hz hs hs' hx hc) kk
end dwl
/-- A row of a block that is known. -/
theorem RowAt.us {w : World} {g n cap sz : Nat} {cur : Array Value} {E : TypeId} {fr : Nat × Nat} {us : Fs} {xs : List Value} (hu : ∀ p ∈ (g, Obj.cells cur E fr) :: us, w.heap[p.1]? = some p.2) (hn : n ≤ cap) (hm : cap ≤ maxLen) (ht : cur.toList.take (n * sz) = xs) (hl : xs.length = n * sz) : RowAt w sz (.slice (some ⟨g, 0, none⟩) n cap) n xs :=
  ⟨⟨_, _, rfl, hn, hm⟩, hl, fun _ => ⟨g, 0, cap, cur, E, fr, rfl, hu _ List.mem_cons_self, by simpa using ht⟩, .own (hu _ List.mem_cons_self)⟩
theorem ValP.indexAddrSL {P : Program} {e : Env} {T : TypeId} {x i : Operand} {b off len cap : Nat} {E : TypeId} {k : Nat} {ik : IntKind} {n : Nat} {z : Value} [UnI P T (.slice E)] [InfoI P E n z] (hx : e.ev x = some (.slice (some ⟨b, off, none⟩) len cap)) (hi : e.ev i = some (.int ik (OfNat.ofNat k))) (_ : k = k) (hk : (OfNat.ofNat k : Nat) < len) :
    ValP P e [] (.indexAddr T x i) (.pointer (some ⟨b, off + (OfNat.ofNat k : Nat) * n, none⟩)) := .indexAddrS hx hi rfl hk
section mm
variable {P : Program} {e : Env} {x y : Operand} {tys : Array TypeId} {m n : Nat} {ik : IntKind}
theorem ValP.maxZ (hx : e.ev x = some (.int ik (m : Int))) (hy : e.ev y = some (.int ik (n : Int))) : ValP P e [] (.call { callee := .builtin .max, args := #[x, y], argTypes := tys }) (.int ik ((max m n : Nat) : Int)) := fun ρ w hρ _ d t pos af g => by
  have h : (if (n : Int) > (m : Int) then (n : Int) else (m : Int)) = ((max m n : Nat) : Int) := by split <;> omega
  have h2 := run_max_int2 (P := P) (w := w) tys t ik ik (m : Int) (n : Int)
  rw [h] at h2
  simp [execOp, resolve, invoke, builtin, hρ x _ hx, hρ y _ hy, h2]
theorem ValP.minZ (hx : e.ev x = some (.int ik (m : Int))) (hy : e.ev y = some (.int ik (n : Int))) : ValP P e [] (.call { callee := .builtin .min, args := #[x, y], argTypes := tys }) (.int ik ((min m n : Nat) : Int)) := fun ρ w hρ _ d t pos af g => by
  have h : (if (n : Int) < (m : Int) then (n : Int) else (m : Int)) = ((min m n : Nat) : Int) := by split <;> omega
  have h2 := run_min_int2 (P := P) (w := w) tys t ik ik (m : Int) (n : Int)
  rw [h] at h2
  simp [execOp, resolve, invoke, builtin, hρ x _ hx, hρ y _ hy, h2]
end mm
/-- The integers of a row. -/
def ics (l : List Nat) : List Value := l.flatMap fun (b : Nat) => [Value.int .i64 (b : Int)]
theorem ics_len (l : List Nat) : ∀ b ∈ l, ([Value.int .i64 (b : Int)]).length = 1 := fun _ _ => rfl
theorem ics_app (l r : List Nat) : ics (l ++ r) = ics l ++ ics r := by simp [ics]
theorem ics_cells (l : List Nat) : ∀ u ∈ ics l, u.oneCell' = true := fun u hu => by
  obtain ⟨b, _, hb⟩ := List.mem_flatMap.1 hu
  obtain rfl : u = _ := by simpa using hb
  rfl
theorem ics_zero (n : Nat) : List.replicate n (Value.int .i64 0) = ics (List.replicate n 0) := by
  induction n with
  | zero => rfl
  | succ n ih => rw [List.replicate_succ, List.replicate_succ, ih]; rfl
theorem ics_take (l : List Nat) (k : Nat) : (ics l).take (k * 1) = ics (l.take k) := by
  rw [Nat.mul_one]
  induction l generalizing k with
  | nil => simp [ics]
  | cons a l ih =>
    cases k with
    | zero => simp [ics]
    | succ k => have := ih k; simp only [ics, List.flatMap_cons, List.singleton_append, List.take_succ_cons] at *; rw [this]
theorem ics_drop (l : List Nat) (k : Nat) : (ics l).drop (k * 1) = ics (l.drop k) := by
  rw [Nat.mul_one]
  induction l generalizing k with
  | nil => simp [ics]
  | cons a l ih =>
    cases k with
    | zero => simp [ics]
    | succ k => have := ih k; simp only [ics, List.flatMap_cons, List.singleton_append, List.drop_succ_cons] at *; rw [this]

/-- A row of facts, read at a place among them. -/
theorem IsRow.atSeg {E : TypeId} {sz n : Nat} {v : Value} {xs : List Value} {fs seg pre post : Fs} {w0 w : World} {S : List Nat} (h : IsRow E sz v n xs seg) (hseg : AtSeg fs pre seg post) (hs : St w0 S fs w) : RowAt w sz v n xs := by
  rw [hseg.eq] at hs
  exact h.at hs
end Go.Proofs.Ytahoghldnijnbaa.SL
