/-
  Texts that were built apart, put behind one another (2 of 3): Sln Slo Slp Slq Slr Sls Slt Slu Slv Slw Slx Sly Slz Sma Smb Smc Smd Inst K6 K7 K8 K1 K2 K3 K4 K5 Sme.
  Conditions: none.
-/
import Derived.Test.YtficnjnnhcadaaaDoorP1
import Derived.Laws.MakeOwn
import Derived.Laws.Slices
import Derived.Laws.Small
import Derived.Deep.Upon
import Derived.Laws.Cover3
import Derived.Laws.BytesArg
import Derived.Laws.RangeAny
import Derived.Laws.Concat
import Derived.Laws.Strings2
import Derived.MapKept
import Derived.Laws.CopyRow
import Derived.Laws.IdiomCopy
import Derived.Test.YtficnjnnhcadaaaDoorRows
import Derived.Laws.Externs
import Derived.Lib.BytesEntry
import Derived.Laws.IdiomStrings
/-
  A SMALL LOGIC OVER THE KIT's WALK, PART N: rows cut, made, put behind one another; calls that hand back rows.
  Conditions: none; over any program.
-/
namespace Go.Proofs.YtficnjnnhcadaaaDoor.SL
set_option linter.unusedVariables false
set_option linter.unusedSimpArgs false
open Go Go.RowKit

/-- x[k:] of a slice. -/
def cutAt (p : Option Addr) (k n c sz : Nat) : Value := .slice (if c = k then p else p.map (·.add (k * sz))) (n - k) (c - k)

theorem RowAt.take {w : World} {sz n c k : Nat} {p : Option Addr} {xs : List Value} (h : RowAt w sz (.slice p n c) n xs) (hk : k ≤ n) : RowAt w sz (.slice p k c) k (xs.take (k * sz)) := by
  obtain ⟨p', c', he, h1, h2⟩ := h.form
  cases he
  refine ⟨⟨_, _, rfl, by omega, h2⟩, ?_, fun h0 => ?_, fun _ _ _ he => by cases he; exact h.lies _ _ _ rfl⟩
  · rw [List.length_take, h.len]; exact Nat.min_eq_left (Nat.mul_le_mul_right _ hk)
  · obtain ⟨b, off, c', cs, E, fr, he, hb, hx⟩ := h.pos (by omega)
    cases he
    refine ⟨b, off, c, cs, E, fr, rfl, hb, ?_⟩
    rw [← hx, List.take_take, Nat.min_eq_left (Nat.mul_le_mul_right _ hk)]
theorem RowAt.drop {w : World} {sz n c k : Nat} {p : Option Addr} {xs : List Value} (h : RowAt w sz (.slice p n c) n xs) (hk : k ≤ n) : RowAt w sz (cutAt p k n c sz) (n - k) (xs.drop (k * sz)) := by
  obtain ⟨p', c', he, h1, h2⟩ := h.form
  cases he
  refine ⟨⟨_, _, rfl, by omega, by omega⟩, ?_, fun h0 => ?_, fun p' n' c' he => by
    unfold cutAt at he
    simp only [Value.slice.injEq] at he
    obtain ⟨e1, _, e3⟩ := he
    by_cases hck : c = k
    · exact .inr (.inl (by omega))
    · rw [if_neg hck] at e1
      rcases h.lies _ _ _ rfl with h | h | ⟨b, off, o, h, hb⟩
      · subst h; exact .inl (by simpa using e1.symm)
      · exact .inr (.inl (by omega))
      · subst h; exact .inr (.inr ⟨b, off + k * sz, o, by simpa [addr_add] using e1.symm, hb⟩)⟩
  · rw [List.length_drop, h.len, Nat.sub_mul]
  · obtain ⟨b, off, c', cs, E, fr, he, hb, hx⟩ := h.pos (by omega)
    cases he
    refine ⟨b, off + k * sz, c - k, cs, E, fr, ?_, hb, ?_⟩
    · unfold cutAt; rw [if_neg (by omega)]; simp [addr_add]
    · rw [← hx, List.drop_take, List.drop_drop, Nat.sub_mul]
theorem IsRow.take {E : TypeId} {sz n c k : Nat} {p : Option Addr} {xs : List Value} {seg : Fs} (h : IsRow E sz (.slice p n c) n xs seg) (hk : k ≤ n) : IsRow E sz (.slice p k c) k (xs.take (k * sz)) seg := by
  cases h with
  | nil => obtain rfl : k = 0 := by omega
           simpa using IsRow.nil
  | own hn hm hc ht hl =>
    refine .own (by omega) hm hc ?_ ?_
    · rw [← ht, List.take_take, Nat.min_eq_left (Nat.mul_le_mul_right _ hk)]
    · rw [List.length_take, hl]; exact Nat.min_eq_left (Nat.mul_le_mul_right _ hk)

section cut
variable {P : Program} {e : Env} {T E : TypeId} {x lo hi : Operand} {p : Option Addr} {n c : Nat}
theorem elem_un (h : P.underlying T = some (.slice E)) : P.underlying T = some (.slice (P.elem T)) := by
  rw [h, Program.elem, h]
theorem elem_eq (h : P.underlying T = some (.slice E)) : P.elem T = E := by rw [Program.elem, h]
/-- x[:k] -/
theorem ValP.cutTo {ik : IntKind} {k sz : Nat} {z : Value} (hU : UnI P T (.slice E)) (hI : InfoI P E sz z) (hx : e.ev x = some (.slice p n c)) (hh : e.ev hi = some (.int ik (k : Int))) (hk : k ≤ c) : ValP P e [] (.slice T x none (some hi) none) (.slice p k c) := fun ρ w hρ _ d t pos af g => by
  have hu : P.underlying T = some (.slice E) := hU.un
  have h1 := run_slice_h (P := P) w T p n c (elem_un hu) ik (k : Int) (by omega) (by omega)
  rw [elem_eq hu, run_size] at h1
  have h2 : (Instr.sliceAt T (.slice p n c) none (some (.int ik (k : Int))) none).run P w = .ok (.slice p k c) w := by
    rw [run_sliceAt_slice (w := w) T _ _ _ _ (elem_un hu), h1]
    simp only [Result.andThen_ok, sliced, Nat.zero_mul, Int.toNat_natCast, Nat.sub_zero]
    cases p with
    | none => simp
    | some a => simp [Addr.add]
  simp [execOp, hρ x _ hx, hρ hi _ hh, h2]
/-- x[k:] -/
theorem ValP.cutFrom {il : IntKind} {k sz : Nat} {z : Value} (hU : UnI P T (.slice E)) (hI : InfoI P E sz z) (hx : e.ev x = some (.slice p n c)) (hl : e.ev lo = some (.int il (k : Int))) (hk : k ≤ n) : ValP P e [] (.slice T x (some lo) none none) (cutAt p k n c sz) := fun ρ w hρ _ d t pos af g => by
  have hu : P.underlying T = some (.slice E) := hU.un
  have h1 := run_slice_l (P := P) w T p n c (elem_un hu) il (k : Int) (by omega) (by omega)
  rw [elem_eq hu, run_size] at h1
  have h2 : (Instr.sliceAt T (.slice p n c) (some (.int il (k : Int))) none none).run P w = .ok (cutAt p k n c sz) w := by
    rw [run_sliceAt_slice (w := w) T _ _ _ _ (elem_un hu), h1]
    simp only [Result.andThen_ok, sliced, Int.toNat_natCast, cutAt]
  simp [execOp, hρ x _ hx, hρ lo _ hl, h2]
end cut

section mk
variable {C : Cu} {ops : Array Oper} {Q : Post} {rest : List Oper} {e : Env} {fs : Fs} {d : Nat} {t : TypeId} {pos : String} {af : Array Edge}
theorem NewP.makeSlice {P : Program} {T E sz bytes : Nat} {z : Value} {x : Operand} {ik : IntKind} {n : Nat} (hU : UnI P T (.slice E)) (hI : InfoI P E sz z) (hB : BytI P E bytes) (hx : e.ev x = some (.int ik (n : Int))) (hb : n * bytes ≤ 281474976710656) (h63 : n ≤ 9223372036854775807) :
    NewP P e (.makeSlice T x x) (.sl n n) (.cells (madeCells z.cells (n * sz)) E (0, 0)) := fun ρ w hρ d t pos af g => by
  obtain ⟨i, i1, i2, i3, i4⟩ := info_all (P := P) (T := E)
  have hr := run_make (P := P) w T E i z hU.un i1 i3 ik ik (n : Int) (n : Int) (by omega) (by omega) (by rw [i4]; have : ((n * bytes : Nat) : Int) ≤ 281474976710656 := by omega
                                                                                                         rwa [Int.natCast_mul, Int.mul_comm] at this) (by omega)
  simp only [Int.toNat_natCast, i2] at hr
  simp [execOp, hρ x _ hx, hr, Sh.val]
theorem made_one {z : Value} {n : Nat} (hz : z.cells = #[z]) : (madeCells z.cells (n * 1)).toList = List.replicate n z := by
  rw [hz, Nat.mul_one]
  apply List.ext_getElem?
  intro i
  simp only [madeCells]
  rw [Array.getElem?_toList, Array.getElem?_map, List.getElem?_replicate]
  split
  · rename_i h
    rw [Array.getElem?_eq_getElem (by simpa using h)]
    simp [Nat.mod_one]
  · rename_i h
    rw [Array.getElem?_eq_none (by simpa using h)]
    rfl
/-- **make** of n elements of one cell each. -/
theorem LW.makeRow {T E bytes : Nat} {z : Value} {x : Operand} {ik : IntKind} {n : Nat} (hd : Nat.blt d C.N = true) (hU : UnI C.P T (.slice E)) (hI : InfoI C.P E 1 z) (hB : BytI C.P E bytes) (hz : z.cells = #[z]) (hx : e.ev x = some (.int ik (n : Int))) (hb : n * bytes ≤ 281474976710656) (h63 : n ≤ maxLen)
    (k : ∀ v seg, IsRow E 1 v n (List.replicate n z) seg → LW C ops Q rest ((d, v) :: e) (seg ++ fs)) : LW C ops Q (⟨some d, .makeSlice T x x, t, pos, af, none⟩ :: rest) e fs :=
  LW.n0 hd rfl (.makeSlice hU hI hB hx hb (by simpa [maxLen] using h63)) fun g => k _ [(g, _)] (.own (Nat.le_refl _) h63 (by simp [madeCells]) (by rw [made_one hz]; simp) (by simp))

/-- **append(s, x...)**: s a row of ours, x a row that may be read. -/
theorem LW.appendAt {s x : Operand} {tys : Array TypeId} {T E : TypeId} {size bytes : Nat} {z v vx : Value} {n m : Nat} {xs news : List Value} {seg pre post : Fs} (hd : Nat.blt d C.N = true) (hT : tys = #[T, T]) (hU : UnI C.P T (.slice E)) (hI : InfoI C.P E size z) (hB : BytI C.P E bytes)
    (hz : z.cells.size = size) (hs : e.ev s = some v) (hx : e.ev x = some vx) (hseg : AtSeg fs pre seg post) (hrow : IsRow E size v n xs seg) (hat : ∀ w, St C.w0 C.S fs w → RowAt w size vx m news)
    (h1 : ∀ u ∈ news, u.oneCell' = true) (hm : 0 < m) (h63 : n + m ≤ maxLen) (hb : (n + m) * bytes ≤ 140737488355328)
    (k : ∀ v' seg', IsRow E size v' (n + m) (xs ++ news) seg' → ∃ fs', AtSeg fs' pre seg' post ∧ LW C ops Q rest ((d, v') :: e) fs') :
    LW C ops Q (⟨some d, .call { callee := .builtin .append, args := #[s, x], argTypes := tys }, t, pos, af, none⟩ :: rest) e fs := fun a w hsat => by
  subst hT
  obtain ⟨i, i1, i2, i3, i4⟩ := info_all (P := C.P) (T := E)
  have hA := hat w hsat.st
  obtain ⟨b, off, c, cs, E', fr, rfl, hblk, hnx⟩ := hA.pos hm
  have hst := hsat.st
  rw [hseg.eq] at hst
  obtain ⟨v', seg', w', hr, hrow', hw'⟩ := row_append (P := C.P) (ty := t) hU.un i1 i3 i2 hz hrow hst ⟨b, off, none⟩ m c news hA.len (fun j u hj => by
    rw [addr_add, cell_of hblk]; exact cut_get hnx hj) h1 hm h63 (by rw [i4]; exact hb)
  obtain ⟨fs', hat', hK⟩ := k v' seg' hrow'
  have hrun : (execOp a.eval ⟨some d, .call { callee := .builtin .append, args := #[s, x], argTypes := #[T, T] }, t, pos, af, none⟩).run C.P w = .ok (.value v') w' := by
    simp [execOp, resolve, invoke, builtin, hsat.env.ev hs, hsat.env.ev hx, hr]
  refine wpListIn_take (wanted_none _ rfl _) ⟨fun _ _ => trivial, ?_⟩
  rw [semAt_FR (fun c h => by cases h), hrun]
  exact hK _ _ ⟨hsat.env.put hd, by rw [hat'.eq]; exact hw'⟩
theorem LW.lay1 {T E sz : TypeId} {z v : Value} {x : Operand} (hd : Nat.blt d C.N = true) (hU : UnI C.P T (.slice E)) (hI : InfoI C.P E sz z) (hz : z.cells.size = sz) (hs : Nat.blt 0 sz = true) (hs' : Nat.ble sz 1000000 = true) (hx : e.ev x = some v) (hv : v.cells = #[v]) (h1 : sz = 1)
    (k : ∀ b, LW C ops Q rest ((d, .slice (some ⟨b, 0, none⟩) 1 1) :: e) ((b, .cells #[v] E (0, 0)) :: fs)) : LW C ops Q (⟨some d, .buildSlice T 1 #[(0, x)], t, pos, af, none⟩ :: rest) e fs := by
  refine LW.n0 hd rfl (NewP.buildS1 hz hs hs' hx (by rw [hv, h1]; rfl)) fun b => ?_
  rw [hv]; exact k b
theorem LW.layA {T E sz : TypeId} {z : Value} {c : Array Value} {x : Operand} (hd : Nat.blt d C.N = true) (hU : UnI C.P T (.slice E)) (hI : InfoI C.P E sz z) (hz : z.cells.size = sz) (hs : Nat.blt 0 sz = true) (hs' : Nat.ble sz 1000000 = true) (hx : e.ev x = some (.agg c)) (hc : c.size = sz)
    (k : ∀ b, LW C ops Q rest ((d, .slice (some ⟨b, 0, none⟩) 1 1) :: e) ((b, .cells c E (0, 0)) :: fs)) : LW C ops Q (⟨some d, .buildSlice T 1 #[(0, x)], t, pos, af, none⟩ :: rest) e fs :=
  LW.n0 hd rfl (NewP.buildS1 hz hs hs' hx hc) k
/-- A call that hands back facts of new blocks. -/
theorem LW.callR {fo : Operand} {args : Array Operand} {tys : Array TypeId} {f : FuncId} {vs : List Value} {Φ : Value → Fs → Prop} (hd : Nat.blt d C.N = true) (hf : e.ev fo = some (.func (.func f) #[] #[])) (hF : FnI C.P f) (ha : ArgsOk e args.toList vs)
    (hc : ∀ w, St C.w0 C.S fs w → Calls C.P f vs.toArray w (RetG w [] Φ)) (kk : ∀ v gs, Φ v gs → LW C ops Q rest ((d, v) :: e) (gs ++ fs)) : LW C ops Q (⟨some d, .call { callee := .value fo, args := args, argTypes := tys }, t, pos, af, none⟩ :: rest) e fs :=
  LW.callN hd hf hF ha (fun w hs => by rw [arr_id]; exact hc w hs) kk
end mk
section dwl
variable {C : Cu} {ops : Array Oper} {Q : Post} {tl rest : List Oper} {e : Env} {ts : Ts} {μ : Mu} {k d : Nat} {op : Op} {t : TypeId} {pos : String} {af : Array Edge} {g : Option (Nat × Bool)}
theorem DW.lay1 {T E sz : TypeId} {z v : Value} {x : Operand} (hk : ops[k]? = some ⟨some d, .buildSlice T 1 #[(0, x)], t, pos, af, g⟩) (hm : μ k = none) (hd : Nat.blt d C.N = true) (hg : WantT ops e g) (hU : UnI C.P T (.slice E)) (hI : InfoI C.P E sz z) (hz : z.cells.size = sz) (hs : Nat.blt 0 sz = true) (hs' : Nat.ble sz 1000000 = true) (hx : e.ev x = some v) (hv : v.cells = #[v]) (h1 : sz = 1)
    (kk : ∀ b, DW C ops μ Q tl rest (k + 1) ((d, .slice (some ⟨b, 0, none⟩) 1 1) :: e) ((b, .cells #[v] E (0, 0), [k], []) :: ts)) : DW C ops μ Q tl (⟨some d, .buildSlice T 1 #[(0, x)], t, pos, af, g⟩ :: rest) k e ts := by
  refine DW.new hk hm hd hg rfl (NewP.buildS1 hz hs hs' hx (by rw [hv, h1]; rfl)) fun b => ?_
  rw [hv]; exact kk b
theorem DW.layA {T E sz : TypeId} {z : Value} {c : Array Value} {x : Operand} (hk : ops[k]? = some ⟨some d, .buildSlice T 1 #[(0, x)], t, pos, af, g⟩) (hm : μ k = none) (hd : Nat.blt d C.N = true) (hg : WantT ops e g) (hU : UnI C.P T (.slice E)) (hI : InfoI C.P E sz z) (hz : z.cells.size = sz) (hs : Nat.blt 0 sz = true) (hs' : Nat.ble sz 1000000 = true) (hx : e.ev x = some (.agg c)) (hc : c.size = sz)
    (kk : ∀ b, DW C ops μ Q tl rest (k + 1) ((d, .slice (some ⟨b, 0, none⟩) 1 1) :: e) ((b, .cells c E (0, 0), [k], []) :: ts)) : DW C ops μ Q tl (⟨some d, .buildSlice T 1 #[(0, x)], t, pos, af, g⟩ :: rest) k e ts :=
  DW.new hk hm hd hg rfl (NewP.buildS1 hz hs hs' hx hc) kk
end dwl
/-- A row of a block that is known. -/
theorem RowAt.us {w : World} {g n cap sz : Nat} {cur : Array Value} {E : TypeId} {fr : Nat × Nat} {us : Fs} {xs : List Value} (hu : ∀ p ∈ (g, Obj.cells cur E fr) :: us, w.heap[p.1]? = some p.2) (hn : n ≤ cap) (hm : cap ≤ maxLen) (ht : cur.toList.take (n * sz) = xs) (hl : xs.length = n * sz) : RowAt w sz (.slice (some ⟨g, 0, none⟩) n cap) n xs :=
  ⟨⟨_, _, rfl, hn, hm⟩, hl, fun _ => ⟨g, 0, cap, cur, E, fr, rfl, hu _ List.mem_cons_self, by simpa using ht⟩, .own (hu _ List.mem_cons_self)⟩
theorem ValP.indexAddrSL {P : Program} {e : Env} {T : TypeId} {x i : Operand} {b off len cap : Nat} {E : TypeId} {k : Nat} {ik : IntKind} {n : Nat} {z : Value} [UnI P T (.slice E)] [InfoI P E n z] (hx : e.ev x = some (.slice (some ⟨b, off, none⟩) len cap)) (hi : e.ev i = some (.int ik (OfNat.ofNat k))) (_ : k = k) (hk : (OfNat.ofNat k : Nat) < len) :
    ValP P e [] (.indexAddr T x i) (.pointer (some ⟨b, off + (OfNat.ofNat k : Nat) * n, none⟩)) := .indexAddrS hx hi rfl hk
section mm
variable {P : Program} {e : Env} {x y : Operand} {tys : Array TypeId} {m n : Nat} {ik : IntKind}
theorem ValP.maxZ (hx : e.ev x = some (.int ik (m : Int))) (hy : e.ev y = some (.int ik (n : Int))) : ValP P e [] (.call { callee := .builtin .max, args := #[x, y], argTypes := tys }) (.int ik ((max m n : Nat) : Int)) := fun ρ w hρ _ d t pos af g => by
  have h : (if (n : Int) > (m : Int) then (n : Int) else (m : Int)) = ((max m n : Nat) : Int) := by split <;> omega
  have h2 := run_max_int2 (P := P) (w := w) tys t ik ik (m : Int) (n : Int)
  rw [h] at h2
  simp [execOp, resolve, invoke, builtin, hρ x _ hx, hρ y _ hy, h2]
theorem ValP.minZ (hx : e.ev x = some (.int ik (m : Int))) (hy : e.ev y = some (.int ik (n : Int))) : ValP P e [] (.call { callee := .builtin .min, args := #[x, y], argTypes := tys }) (.int ik ((min m n : Nat) : Int)) := fun ρ w hρ _ d t pos af g => by
  have h : (if (n : Int) < (m : Int) then (n : Int) else (m : Int)) = ((min m n : Nat) : Int) := by split <;> omega
  have h2 := run_min_int2 (P := P) (w := w) tys t ik ik (m : Int) (n : Int)
  rw [h] at h2
  simp [execOp, resolve, invoke, builtin, hρ x _ hx, hρ y _ hy, h2]
end mm
/-- The integers of a row. -/
def ics (l : List Nat) : List Value := l.flatMap fun (b : Nat) => [Value.int .i64 (b : Int)]
theorem ics_len (l : List Nat) : ∀ b ∈ l, ([Value.int .i64 (b : Int)]).length = 1 := fun _ _ => rfl
theorem ics_app (l r : List Nat) : ics (l ++ r) = ics l ++ ics r := by simp [ics]
theorem ics_cells (l : List Nat) : ∀ u ∈ ics l, u.oneCell' = true := fun u hu => by
  obtain ⟨b, _, hb⟩ := List.mem_flatMap.1 hu
  obtain rfl : u = _ := by simpa using hb
  rfl
theorem ics_zero (n : Nat) : List.replicate n (Value.int .i64 0) = ics (List.replicate n 0) := by
  induction n with
  | zero => rfl
  | succ n ih => rw [List.replicate_succ, List.replicate_succ, ih]; rfl
theorem ics_take (l : List Nat) (k : Nat) : (ics l).take (k * 1) = ics (l.take k) := by
  rw [Nat.mul_one]
  induction l generalizing k with
  | nil => simp [ics]
  | cons a l ih =>
    cases k with
    | zero => simp [ics]
    | succ k => have := ih k; simp only [ics, List.flatMap_cons, List.singleton_append, List.take_succ_cons] at *; rw [this]
theorem ics_drop (l : List Nat) (k : Nat) : (ics l).drop (k * 1) = ics (l.drop k) := by
  rw [Nat.mul_one]
  induction l generalizing k with
  | nil => simp [ics]
  | cons a l ih =>
    cases k with
    | zero => simp [ics]
    | succ k => have := ih k; simp only [ics, List.flatMap_cons, List.singleton_append, List.drop_succ_cons] at *; rw [this]

/-- A row of facts, read at a place among them. -/
theorem IsRow.atSeg {E : TypeId} {sz n : Nat} {v : Value} {xs : List Value} {fs seg pre post : Fs} {w0 w : World} {S : List Nat} (h : IsRow E sz v n xs seg) (hseg : AtSeg fs pre seg post) (hs : St w0 S fs w) : RowAt w sz v n xs := by
  rw [hseg.eq] at hs
  exact h.at hs
end Go.Proofs.YtficnjnnhcadaaaDoor.SL

/-
  A SMALL LOGIC OVER THE KIT's WALK, PART O: truth values compared; parts of a block read.
  Conditions: none; over any program.
-/
namespace Go.Proofs.YtficnjnnhcadaaaDoor.SL
set_option linter.unusedVariables false
set_option linter.unusedSimpArgs false
open Go Go.RowKit
section bo
variable {P : Program} {e : Env} {T ty : TypeId} {x y : Operand} {a b : Bool}
theorem guard_bool {op : BinOp} {v : Value} (w : World) : (eqGuard op T x y (.bool a) v).run P w = .ok () w := by
  unfold eqGuard; cases op <;> cases v <;> simp
theorem eqIn_bool (d : Nat) (w : World) [UnI P T .bool] : (Op.equalIn (d + 1) T (.bool a) (.bool b)).run P w = .ok (a == b) w := by
  rw [Op.equalIn.eq_def]; simp only [Sem.run_bind, run_un (P := P) (T := T), Result.andThen_ok]; rfl
theorem ValP.boolEq [UnI P T .bool] (hx : e.ev x = some (.bool a)) (hy : e.ev y = some (.bool b)) : ValP P e [] (.binOp .eql T x y ty) (.bool (a == b)) :=
  .bin hx hy (fun w => guard_bool w) fun w => by
    have := eqIn_bool (P := P) (T := T) (a := a) (b := b) (Op.maxDepth - 1) w
    simp only [binOp, Op.equal, Sem.run_bind]
    rw [show Op.maxDepth = Op.maxDepth - 1 + 1 from rfl, this]; rfl
theorem ValP.boolNe [UnI P T .bool] (hx : e.ev x = some (.bool a)) (hy : e.ev y = some (.bool b)) : ValP P e [] (.binOp .neq T x y ty) (.bool (a != b)) :=
  .bin hx hy (fun w => guard_bool w) fun w => by
    have := eqIn_bool (P := P) (T := T) (a := a) (b := b) (Op.maxDepth - 1) w
    simp only [binOp, Op.equal, Sem.run_bind]
    rw [show Op.maxDepth = Op.maxDepth - 1 + 1 from rfl, this]; rfl
theorem ValP.boolEqT [UnI P T .bool] (hx : e.ev x = some (.bool a)) (hy : e.ev y = some (.bool b)) (h : a = b) : ValP P e [] (.binOp .eql T x y ty) (.bool true) := by
  have := ValP.boolEq (P := P) (T := T) (ty := ty) hx hy; rwa [h, beq_self_eq_true] at this
theorem ValP.boolNeF [UnI P T .bool] (hx : e.ev x = some (.bool a)) (hy : e.ev y = some (.bool b)) (h : a = b) : ValP P e [] (.binOp .neq T x y ty) (.bool false) := by
  have := ValP.boolNe (P := P) (T := T) (ty := ty) hx hy; rwa [h, bne_self_eq_false] at this
end bo
/-- Parts of a block. -/
theorem Rd.mid {P : Program} {T : TypeId} {n : Nat} {z : Value} [AgI P T true] [InfoI P T n z] {c : Array Value} {E : TypeId} {fr : Nat × Nat} {off : Nat} {cs : List Value} (hn : cs.length = n) (h : (c.toList.drop off).take n = cs) : Rd P T (.cells c E fr) off (.agg cs.toArray) :=
  Rd.part hn fun j v hv => cut_get h hv
end Go.Proofs.YtficnjnnhcadaaaDoor.SL

/-
  A SMALL LOGIC OVER THE KIT's WALK, PART P: arguments that are rows, opened.
  Conditions: none; over any program.
-/
namespace Go.Proofs.YtficnjnnhcadaaaDoor.SL
set_option linter.unusedVariables false
set_option linter.unusedSimpArgs false
open Go Go.RowKit Go.ChangeShapes Go.WideShapes
section op
variable {H : Type} {enc : TypeId × Value → H} {P : Program} {w W : World} {held : Bool} {r : Reach} {base : Nat} {T E : TypeId} {v : Value} {d : DataW H} {ps : List MemPlace}
/-- An argument that is a row. -/
theorem open_row {α : Type} {g : α → List Value} {Q : α → Prop} {e : Ty} {sz : Nat} (hu : P.underlying T = some (.slice E)) (hT : (Ty.sl e).ok P (.inl T) = true) (hc : e.cells = sz) (h0 : 0 < sz) (he : ∀ cs', e.is w cs' → ∃ x, Q x ∧ cs' = g x)
    (hv : Value.okWide P W r base T v) (h : DataW.Trod enc P w 0 (fun _ => true) held T v d ps) : ∃ l : List α, (∀ x ∈ l, Q x) ∧ RowAt w sz v l.length (l.flatMap g) := by
  obtain ⟨a, n, c, rfl⟩ := okWide_slice hu hv
  obtain ⟨v', l, h1, h2, h3⟩ := sl_rows hc h0 he (open_one hT h)
  obtain rfl : v' = _ := by simpa [Value.cells] using h1.symm
  exact ⟨l, fun x hx => (h2 x hx).1, h3⟩
theorem open_n {k : IntKind} (hu : P.underlying T = some (.int k)) (hT : (Ty.int k).ok P (.inl T) = true) (hv : Value.okWide P W r base T v) (h : DataW.Trod enc P w 0 (fun _ => true) held T v d ps) : ∃ n, v = .int k n ∧ (Lit.int k n).wf = true := by
  obtain ⟨n, rfl⟩ := okWide_int hu hv
  obtain ⟨n', h1, h2⟩ := open_one hT h
  obtain rfl : n = n' := by simpa [Value.cells] using h1
  exact ⟨n, rfl, h2⟩
theorem open_str (hu : P.underlying T = some .string) (hT : Ty.str.ok P (.inl T) = true) (hv : Value.okWide P W r base T v) (h : DataW.Trod enc P w 0 (fun _ => true) held T v d ps) : ∃ s, v = .string s ∧ s.size ≤ maxLen := by
  obtain ⟨s, rfl⟩ := okWide_string hu hv
  obtain ⟨s', h1, h2⟩ := open_one hT h
  obtain rfl : s = s' := by simpa [Value.cells] using h1
  exact ⟨s, rfl, h2⟩
end op
def Ty.pair2 : Ty := .arr 2 .word
theorem is_pair {w : World} {cs : List Value} (h : Ty.pair2.is w cs) : ∃ x : Nat × Nat, (x.1 < M256 ∧ x.2 < M256) ∧ cs = (wc x.1).toList ++ (wc x.2).toList := by
  obtain ⟨hl, h⟩ := h
  obtain ⟨a, ha, ea⟩ := is_word (h 0 (by decide))
  obtain ⟨b, hb, eb⟩ := is_word (h 1 (by decide))
  refine ⟨(a, b), ⟨ha, hb⟩, ?_⟩
  have hl' : cs.length = 8 := hl
  simp only [Ty.word, Ty.cells, Nat.zero_mul, List.drop_zero, Nat.one_mul, Nat.mul_one] at ea eb
  rw [← ea, ← eb, List.take_of_length_le (l := cs.drop 4) (by simp [hl'])]
  exact (List.take_append_drop 4 cs).symm
end Go.Proofs.YtficnjnnhcadaaaDoor.SL

/-
  A SMALL LOGIC OVER THE KIT's WALK, PART Q: rows that came in, later; rows of none; elements of our rows written; integers converted.
  Conditions: none; over any program.
-/
namespace Go.Proofs.YtficnjnnhcadaaaDoor.SL
set_option linter.unusedVariables false
set_option linter.unusedSimpArgs false
open Go Go.RowKit
/-- A row that came in reads as it did, later. -/
theorem RowAt.bel {w0 w : World} {sz n : Nat} {v : Value} {xs : List Value} (h : RowAt w0 sz v n xs) (hb : Bel w0.heap.size [] w0 w) : RowAt w sz v n xs :=
  ⟨h.form, h.len, fun h0 => by
    obtain ⟨b, off, c, cs, E, fr, h1, h2, h3⟩ := h.pos h0
    exact ⟨b, off, c, cs, E, fr, h1, by rw [hb.block b (Array.getElem?_eq_some_iff.1 h2).1 (by simp)]; exact h2, h3⟩, fun p n c he => by
    rcases h.lies p n c he with h | h | ⟨b, off, o, h1, h2⟩
    · exact .inl h
    · exact .inr (.inl h)
    · exact .inr (.inr ⟨b, off, o, h1, by rw [hb.block b (Array.getElem?_eq_some_iff.1 h2).1 (by simp)]; exact h2⟩)⟩
theorem RowAt.st {w0 w : World} {sz n : Nat} {v : Value} {xs : List Value} {fs : Fs} (h : RowAt w0 sz v n xs) (hs : St w0 [] fs w) : RowAt w sz v n xs := h.bel hs.bel

theorem IsRow.pos {E : TypeId} {sz n c : Nat} {p : Option Addr} {xs : List Value} {seg : Fs} (h : IsRow E sz (.slice p n c) n xs seg) (h0 : 0 < n) : ∃ g cur, p = some ⟨g, 0, none⟩ ∧ seg = [(g, .cells cur E (0, 0))] ∧ n ≤ c ∧ c ≤ maxLen ∧ cur.size = c * sz ∧ cur.toList.take (n * sz) = xs := by
  cases h with
  | nil => cases h0
  | own hn hm hc ht hl => exact ⟨_, _, rfl, rfl, hn, hm, hc, ht⟩
theorem NewP.build0 {P : Program} {e : Env} {T E : TypeId} {size : Nat} {z : Value} (hU : UnI P T (.slice E)) (hI : InfoI P E size z) : NewP P e (.buildSlice T 0 #[]) (.sl 0 0) (.cells #[] E (0, 0)) := fun ρ w hρ d t pos af g => by
  have hr : (Instr.buildSlice T 0 ((#[] : Array (Nat × Operand)).map fun p => (p.1, ρ p.2))).run P w = .ok ((Sh.sl 0 0).val w.heap.size) (w.alloc (.cells #[] E (0, 0))) := by
    unfold Instr.buildSlice
    simp only [Sem.run_bind, run_un, run_size, Result.andThen_ok]
    simp [newRow, Sh.val, Instr.fill, Array.range_zero']
  simp only [execOp]
  exact (show ((do pure (.value (← Instr.buildSlice T 0 ((#[] : Array (Nat × Operand)).map fun p => (p.1, ρ p.2)))) : Sem Next)).run P w = _ by simp only [Sem.run_bind, hr]; rfl)
section mm
variable {P : Program} {e : Env} {x y : Operand} {tys : Array TypeId} {m n : Nat} {ik : IntKind}
theorem ValP.minZL (hx : e.ev x = some (.int ik (m : Int))) (hy : e.ev y = some (.int ik (OfNat.ofNat n))) (_ : n = n) : ValP P e [] (.call { callee := .builtin .min, args := #[x, y], argTypes := tys }) (.int ik ((min m (OfNat.ofNat n) : Nat) : Int)) := .minZ hx hy
theorem ValP.cutToL {T E : TypeId} {hi : Operand} {p : Option Addr} {c k sz : Nat} {z : Value} (hU : UnI P T (.slice E)) (hI : InfoI P E sz z) (hx : e.ev x = some (.slice p n c)) (hh : e.ev hi = some (.int ik (OfNat.ofNat k))) (_ : k = k) (hk : (OfNat.ofNat k : Nat) ≤ c) : ValP P e [] (.slice T x none (some hi) none) (.slice p (OfNat.ofNat k) c) := .cutTo hU hI hx hh hk
theorem ValP.cutFromL {T E : TypeId} {lo : Operand} {p : Option Addr} {c k sz : Nat} {z : Value} (hU : UnI P T (.slice E)) (hI : InfoI P E sz z) (hx : e.ev x = some (.slice p n c)) (hl : e.ev lo = some (.int ik (OfNat.ofNat k))) (_ : k = k) (hk : (OfNat.ofNat k : Nat) ≤ n) : ValP P e [] (.slice T x (some lo) none none) (cutAt p (OfNat.ofNat k) n c sz) := .cutFrom hU hI hx hl hk
end mm
section lw
variable {C : Cu} {ops : Array Oper} {Q : Post} {rest : List Oper} {e : Env} {fs : Fs} {d : Nat} {t : TypeId} {pos : String} {af : Array Edge}
/-- A slice of no elements, but not nil. -/
theorem LW.lay0 {T E sz : TypeId} {z : Value} (hd : Nat.blt d C.N = true) (hU : UnI C.P T (.slice E)) (hI : InfoI C.P E sz z) (k : ∀ v seg, IsRow E sz v 0 [] seg → LW C ops Q rest ((d, v) :: e) (seg ++ fs)) :
    LW C ops Q (⟨some d, .buildSlice T 0 #[], t, pos, af, none⟩ :: rest) e fs :=
  LW.n0 hd rfl (NewP.build0 hU hI) fun g => k _ [(g, _)] (.own (cur := #[]) (Nat.le_refl 0) (Nat.zero_le _) (by simp) (by simp) (by simp))
/-- **append(s, x...)** of nothing. -/
theorem ValP.append0 {P : Program} {s x : Operand} {tys : Array TypeId} {T E sz : TypeId} {z : Value} {p q : Option Addr} {n c c' : Nat} (hT : tys = #[T, T]) (hU : UnI P T (.slice E)) (hI : InfoI P E sz z) (hs : e.ev s = some (.slice p n c)) (hx : e.ev x = some (.slice q 0 c')) (hle : n ≤ c) :
    ValP P e [] (.call { callee := .builtin .append, args := #[s, x], argTypes := tys }) (.slice p n c) := fun ρ w hρ _ d t pos af g => by
  subst hT
  obtain ⟨i, h1, h2, _⟩ := info_of (P := P) (T := E)
  have hsrc : Src P i.size T (.slice q 0 c') 0 [] w := by
    cases q with
    | none => exact Src.ofNil w hU.un c'
    | some a => exact Src.ofSlice w hU.un a 0 c' [] (by simp) (fun j u h => by simp at h) (fun u h => by cases h)
  have hr := run_append_nothing (P := P) w T T t E i hU.un h1 p n c hle _ hsrc
  simp [execOp, resolve, invoke, builtin, hρ s _ hs, hρ x _ hx, hr]
/-- **append(s, x...)**: s a row of ours, x a row that may be read, of none too. -/
theorem LW.appendAny {s x : Operand} {tys : Array TypeId} {T E : TypeId} {size bytes : Nat} {z v vx : Value} {n m : Nat} {xs news : List Value} {seg pre post : Fs} (hd : Nat.blt d C.N = true) (hT : tys = #[T, T]) (hU : UnI C.P T (.slice E)) (hI : InfoI C.P E size z) (hB : BytI C.P E bytes)
    (hz : z.cells.size = size) (hs : e.ev s = some v) (hx : e.ev x = some vx) (hseg : AtSeg fs pre seg post) (hrow : IsRow E size v n xs seg) (hat : ∀ w, St C.w0 C.S fs w → RowAt w size vx m news)
    (h1 : ∀ u ∈ news, u.oneCell' = true) (h63 : n + m ≤ maxLen) (hb : (n + m) * bytes ≤ 140737488355328)
    (k : ∀ v' seg', IsRow E size v' (n + m) (xs ++ news) seg' → ∃ fs', AtSeg fs' pre seg' post ∧ LW C ops Q rest ((d, v') :: e) fs') :
    LW C ops Q (⟨some d, .call { callee := .builtin .append, args := #[s, x], argTypes := tys }, t, pos, af, none⟩ :: rest) e fs := by
  rcases Nat.eq_zero_or_pos m with hm | hm
  · subst hm
    intro a w hsat
    have hA := hat w hsat.st
    have hn : news = [] := List.length_eq_zero_iff.1 (by rw [hA.len, Nat.zero_mul])
    subst hn
    obtain ⟨q, c', rfl, _, _⟩ := hA.form
    have hp : ∃ p c, v = .slice p n c ∧ n ≤ c := by
      cases hrow with
      | nil => exact ⟨_, _, rfl, Nat.le_refl _⟩
      | own hn _ _ _ _ => exact ⟨_, _, rfl, hn⟩
    obtain ⟨p, c, rfl, hle⟩ := hp
    obtain ⟨fs', hat', hK⟩ := k _ seg (by simpa using hrow)
    have : fs' = fs := by rw [hat'.eq, hseg.eq]
    subst this
    exact LW.v0 hd rfl (ValP.append0 hT hU hI hs hx hle) hK a w hsat
  · exact LW.appendAt hd hT hU hI hB hz hs hx hseg hrow hat h1 hm h63 hb k
theorem ValP.convU {P : Program} {S T : TypeId} {x : Operand} {k : IntKind} {n : Int} {dd : TypeDesc} [UnI P S dd] [UnI P T (.int .u64)] (hx : e.ev x = some (.int k n)) : ValP P e [] (.convert S T x) (.int .u64 (((n % 18446744073709551616).toNat : Nat) : Int)) := by
  have h := ValP.conv (P := P) (S := S) (T := T) (ds := dd) (k' := .u64) hx
  rwa [wrapU, show n % 18446744073709551616 = (((n % 18446744073709551616).toNat : Nat) : Int) by omega] at h
end lw
/-- An element of a row of ours, written. -/
theorem wr_take {sz : Nat} {cur : Array Value} {m i : Nat} {vs : List Value} {xs : List Value} (ht : cur.toList.take (m * sz) = xs) (hvs : vs.length = sz) (hi : i < m) (hlen : m * sz ≤ cur.size) :
    (wrCells cur (i * sz) vs).toList.take (m * sz) = xs.take (i * sz) ++ vs ++ xs.drop ((i + 1) * sz) ∧ (wrCells cur (i * sz) vs).size = cur.size := by
  have hk : ∀ (vs : List Value) (c : Array Value) (off : Nat), off + vs.length ≤ c.size → (wrCells c off vs).toList = c.toList.take off ++ vs ++ c.toList.drop (off + vs.length) := by
    intro vs
    induction vs with
    | nil => intro c off h; simp [wrCells]
    | cons v r ih =>
      intro c off h
      simp only [List.length_cons] at h
      rw [wrCells, ih _ _ (by simp; omega)]
      simp only [Array.toList_setIfInBounds, List.length_cons]
      have hlt : off < c.toList.length := by simp; omega
      have hl : (c.toList.take off).length = off := by simp; omega
      rw [List.take_set, List.take_succ_eq_append_getElem hlt, List.set_append_right _ _ (by rw [hl]; exact Nat.le_refl _), hl, Nat.sub_self, List.drop_set_of_lt (by omega)]
      simp [Nat.add_assoc, Nat.add_comm 1]
  have h1 : (i + 1) * sz ≤ m * sz := Nat.mul_le_mul_right _ hi
  have h2 : (i + 1) * sz = i * sz + sz := Nat.succ_mul i sz
  have h3 := hk vs cur (i * sz) (by rw [hvs, ← h2]; omega)
  constructor
  · rw [h3, hvs, ← h2, ← ht]
    have hl1 : (cur.toList.take (i * sz)).length = i * sz := by simp; omega
    rw [List.append_assoc, List.take_append, hl1, List.take_of_length_le (by rw [hl1]; omega), List.take_append, hvs, List.take_of_length_le (l := vs) (by omega), List.take_take, Nat.min_eq_left (by omega), List.append_assoc]
    congr 2
    rw [List.drop_take]
    congr 1
    omega
  · rw [← Array.length_toList, h3]
    simp [hvs]
    omega
end Go.Proofs.YtficnjnnhcadaaaDoor.SL

/-
  A SMALL LOGIC OVER THE KIT's WALK, PART R: arrays cut, and slices seen as arrays.
  Conditions: none; over any program.
-/
namespace Go.Proofs.YtficnjnnhcadaaaDoor.SL
set_option linter.unusedVariables false
set_option linter.unusedSimpArgs false
open Go Go.RowKit
section ar
variable {P : Program} {e : Env} {x hi : Operand} {T E A : TypeId} {n sz k : Nat} {z : Value} {ik : IntKind} {b off : Nat}
/-- arr[:k] of an array's address. -/
theorem ValP.cutArr (hU : UnI P T (.array n E)) (hI : InfoI P E sz z) (hx : e.ev x = some (.pointer (some ⟨b, off, none⟩))) (hh : e.ev hi = some (.int ik (OfNat.ofNat k))) (hk : Nat.ble (OfNat.ofNat k) n = true) : ValP P e [] (.slice T x none (some hi) none) (.slice (some ⟨b, off, none⟩) (OfNat.ofNat k) n) := fun ρ w hρ _ d t pos af g => by
  have hk' := Nat.le_of_ble_eq_true hk
  have hu := hU.un
  have h1 : (Instr.sliceAt T (.pointer (some ⟨b, off, none⟩)) none (some (.int ik (OfNat.ofNat k))) none).run P w = .ok (.slice (some ⟨b, off, none⟩) (OfNat.ofNat k) n) w := by
    have hal : P.arrayLen T = n := by rw [Program.arrayLen, hu]
    have hel : P.elem T = E := by rw [Program.elem, hu]
    have h2 := run_sliceAt_array_h (P := P) w T ⟨b, off, none⟩ (by rw [hal, hel]; exact hu) ik ((OfNat.ofNat k : Nat) : Int) (Int.natCast_nonneg _) (by rw [hal]; exact Int.ofNat_le.2 hk')
    rw [hel, run_size, hal] at h2
    have e1 : ((OfNat.ofNat k : Int)) = ((OfNat.ofNat k : Nat) : Int) := rfl
    rw [e1, h2]
    simp only [Result.andThen_ok, slicedAt, Nat.zero_mul, Int.toNat_natCast, Nat.sub_zero]
    simp [Addr.add]
  simp [execOp, hρ x _ hx, hρ hi _ hh, h1]
/-- A slice seen as an array. -/
theorem ValP.asArr {p : Option Addr} {m c : Nat} (hU : UnI P A (.array n E)) (hx : e.ev x = some (.slice p m c)) (hn : Nat.ble n m = true) : ValP P e [] (.sliceToArrayPointer A x) (.pointer p) := fun ρ w hρ _ d t pos af g => by
  have h1 := run_arrayAt (P := P) w A E n p m c hU.un (Nat.le_of_ble_eq_true hn)
  simp [execOp, hρ x _ hx, h1]
end ar
end Go.Proofs.YtficnjnnhcadaaaDoor.SL

/-
  A SMALL LOGIC OVER THE KIT's WALK, PART S: operations passed over because what they wait for was passed over.
  Conditions: none; over any program.
-/
namespace Go.Proofs.YtficnjnnhcadaaaDoor.SL
set_option linter.unusedVariables false
set_option linter.unusedSimpArgs false
open Go Go.RowKit
theorem LW.guardU {C : Cu} {ops : Array Oper} {Q : Post} {rest : List Oper} {e : Env} {fs : Fs} {d : Nat} {op : Op} {t : TypeId} {pos : String} {af : Array Edge} {j s : Nat} {g : Bool} (hs : (ops[j]?).bind (·.dst) = some s) (he : e.get s = some undef) (hd : Nat.blt d C.N = true) (h : LW C ops Q rest ((d, undef) :: e) fs) :
    LW C ops Q (⟨some d, op, t, pos, af, some (j, g)⟩ :: rest) e fs := by
  intro a w hst
  have h1 := h _ w ⟨hst.env.put (v := undef) hd, hst.st⟩
  have hy : yielded ops a.tmps j = none := by simp [yielded, hs, hst.env.get s _ he, undef]
  unfold wpListIn
  rw [if_neg (by simp [Region.wanted, hy])]
  exact ⟨fun _ _ => trivial, h1⟩
theorem DW.skipU {C : Cu} {ops : Array Oper} {Q : Post} {tl rest : List Oper} {e : Env} {ts : Ts} {μ : Mu} {k d : Nat} {op : Op} {t : TypeId} {pos : String} {af : Array Edge} {j s : Nat} {b : Bool} (hk : ops[k]? = some ⟨some d, op, t, pos, af, some (j, b)⟩) (hd : Nat.blt d C.N = true) (hs : (ops[j]?).bind (·.dst) = some s)
    (he : e.get s = some undef) (kk : DW C ops μ Q tl rest (k + 1) ((d, undef) :: e) ts) : DW C ops μ Q tl (⟨some d, op, t, pos, af, some (j, b)⟩ :: rest) k e ts := by
  intro a φ tw tr ha hr hinv
  have hw : Region.wanted ⟨some d, op, t, pos, af, some (j, b)⟩ (yielded ops a.tmps) = false := by
    have hy : yielded ops a.tmps j = none := by simp [yielded, hs, ha.get s _ he, undef]
    simp [Region.wanted, hy]
  have htch : tch ops ⟨some d, op, t, pos, af, some (j, b)⟩ a = [] := by unfold tch; rw [if_neg (by rw [hw]; simp)]
  unfold walk dOp
  simp only [hk]
  rw [htch]
  refine ⟨by simp, .inl ⟨.val undef, .inr ⟨hw, rfl⟩, by simp [Eff.wr], ?_⟩⟩
  refine kk _ _ _ _ (ha.put hd) ⟨hr.fsome, hr.fdom, fun p hp j hj => ?_, fun p hp j hj => ?_, fun b hb j hj => ?_, fun b hb hB j hj => ?_, hr.nd⟩ hinv
  · rcases hj with hj | ⟨_, hj⟩
    · exact hr.ftw p hp _ hj
    · simp [Eff.wr] at hj
  · rcases hj with hj | ⟨_, hj⟩
    · exact hr.ftr p hp _ hj
    · simp at hj
  · rcases hj with hj | ⟨_, hj⟩
    · exact hr.old b hb _ hj
    · simp [Eff.wr] at hj
  · rcases hj with hj | ⟨_, hj⟩
    · exact hr.oldr b hb hB _ hj
    · simp at hj
end Go.Proofs.YtficnjnnhcadaaaDoor.SL

/-
  A SMALL LOGIC OVER THE KIT's WALK, PART T: rows of bytes, and strings out of them.
  Conditions: none; over any program.
-/
namespace Go.Proofs.YtficnjnnhcadaaaDoor.SL
set_option linter.unusedVariables false
set_option linter.unusedSimpArgs false
open Go Go.RowKit
/-- The cells of bytes. -/
def ucs (l : List UInt8) : List Value := l.flatMap fun u => [Value.int .u8 (u.toNat : Int)]
theorem ucs_map (l : List UInt8) : ucs l = l.map fun u => Value.int .u8 (u.toNat : Int) := by
  induction l with
  | nil => rfl
  | cons a l ih => simp [ucs] at *; exact ih
theorem ucs_len (l : List UInt8) : (ucs l).length = l.length := by rw [ucs_map, List.length_map]
theorem ucs_one (l : List UInt8) : ∀ u ∈ l, ([Value.int .u8 (u.toNat : Int)] : List Value).length = 1 := fun _ _ => rfl
theorem ucs_app (l r : List UInt8) : ucs (l ++ r) = ucs l ++ ucs r := by simp [ucs]
theorem ucs_take (l : List UInt8) (k : Nat) : (ucs l).take (k * 1) = ucs (l.take k) := by rw [ucs_map, ucs_map, Nat.mul_one, List.map_take]
theorem ucs_drop (l : List UInt8) (k : Nat) : (ucs l).drop (k * 1) = ucs (l.drop k) := by rw [ucs_map, ucs_map, Nat.mul_one, List.map_drop]
theorem ucs_cells (l : List UInt8) : ∀ u ∈ ucs l, u.oneCell' = true := fun u hu => by
  rw [ucs_map] at hu
  obtain ⟨a, _, rfl⟩ := List.mem_map.1 hu
  rfl
theorem ucs_zero (n : Nat) : ucs (List.replicate n 0) = List.replicate n (Value.int .u8 0) := by rw [ucs_map, List.map_replicate]; rfl
theorem is_u8 {w : World} {cs : List Value} (h : (Ty.int .u8).is w cs) : ∃ u : UInt8, True ∧ cs = [Value.int .u8 (u.toNat : Int)] := by
  obtain ⟨n, rfl, hn⟩ := h
  simp [Lit.wf, IntKind.min, IntKind.max, IntKind.signed, IntKind.bits] at hn
  refine ⟨UInt8.ofNat n.toNat, trivial, ?_⟩
  rw [UInt8.toNat_ofNat']
  congr 2
  omega
/-- A row of bytes, as a value of its own. -/
theorem is_bytes {w : World} {cs : List Value} (h : (Ty.sl (.int .u8)).is w cs) : ∃ x : Value × List UInt8, RowAt w 1 x.1 x.2.length (ucs x.2) ∧ cs = [x.1] := by
  obtain ⟨v, l, h1, _, h3⟩ := sl_rows (g := fun u : UInt8 => [Value.int .u8 (u.toNat : Int)]) (Q := fun _ => True) (sz := 1) rfl (by decide) (fun _ h => is_u8 h) h
  exact ⟨(v, l), h3, h1⟩
theorem RowAt.string {P : Program} {w : World} {v : Value} {l : List UInt8} {n : Nat} {S T E : TypeId} (h : RowAt w 1 v n (ucs l)) (hS : P.underlying S = some (.slice E)) (hE : P.underlying E = some (.int .u8)) (hT : P.underlying T = some .string) :
    (convert S T v).run P w = .ok (.string ⟨l.toArray⟩) w := by
  have hn : l.length = n := by have := h.len; rw [ucs_len] at this; omega
  rcases Nat.eq_zero_or_pos n with h0 | h0
  · subst h0
    obtain rfl : l = [] := List.length_eq_zero_iff.1 hn
    obtain ⟨p, c, rfl, _, _⟩ := h.form
    rw [run_convert_bytes_string w S T E _ 0 c hS hE hT]
    cases p <;> simp [Conv.bytesToString, loadCells]
    all_goals rfl
  · obtain ⟨b, off, c, cs, E', fr, rfl, hb, hx⟩ := h.pos h0
    have := run_convert_bytes_arg (P := P) w S E hS hE b off n c (l.map fun u => (u.toNat : Int)) (by simpa using hn) (fun i hi => by
      have hlt : i < l.length := by omega
      have hg := cut_get (j := i) (v := .int .u8 (l[i].toNat : Int)) hx (by rw [ucs_map]; simp [hlt])
      rw [cell_of hb, hg]
      simp [List.getD, hlt]) T hT
    rw [this]
    congr 2
    simp only [strOfNums, List.map_map]
    congr 2
    conv => rhs; rw [← List.map_id l]
    apply List.map_congr_left
    intro u _
    simp
section lw
variable {C : Cu} {ops : Array Oper} {Q : Post} {rest : List Oper} {e : Env} {fs : Fs} {d : Nat} {t : TypeId} {pos : String} {af : Array Edge}
/-- **string(b)** of bytes that may be read. -/
theorem LW.toStr {S T E : TypeId} {x : Operand} {v : Value} {l : List UInt8} {n : Nat} (hd : Nat.blt d C.N = true) (hS : UnI C.P S (.slice E)) (hE : UnI C.P E (.int .u8)) (hT : UnI C.P T .string) (hx : e.ev x = some v) (hat : ∀ w, St C.w0 C.S fs w → RowAt w 1 v n (ucs l))
    (k : LW C ops Q rest ((d, .string ⟨l.toArray⟩) :: e) fs) : LW C ops Q (⟨some d, .convert S T x, t, pos, af, none⟩ :: rest) e fs :=
  LW.val hd (fun c h => by cases h) (fun a w hs => by
    have := (hat w hs.st).string (P := C.P) hS.un hE.un hT.un
    simp [execOp, hs.env.ev hx, this]) k
end lw
theorem bytes_eq (a b : List UInt8) : decide ((⟨a.toArray⟩ : ByteArray) = ⟨b.toArray⟩) = decide (a = b) := by
  rw [decide_eq_decide]
  constructor
  · intro h; exact by have := congrArg (fun x : ByteArray => x.data.toList) h; simpa using this
  · intro h; rw [h]
end Go.Proofs.YtficnjnnhcadaaaDoor.SL

/-
  A SMALL LOGIC OVER THE KIT's WALK, PART U: what comes behind a loop, told once.
  Conditions: none; over any program.
-/
namespace Go.Proofs.YtficnjnnhcadaaaDoor.SL
set_option linter.unusedVariables false
set_option linter.unusedSimpArgs false
open Go Go.RowKit
/-- All that is behind is told once, from less that is known. -/
def cutQ (C : Cu) (e1 : Env) (fs1 : Fs) : List Deferred → Env → Fs → Prop := fun ds e fs => ds = C.ds ∧ e.le e1 ∧ List.Sublist fs1 fs
theorem CW.cut {C : Cu} {c y : Code} {Q Q' : Post} {e : Env} {fs : Fs} (e1 : Env) (fs1 : Fs) (k : CW C y Q e1 fs1) (h : CW C c (thenQ (cutQ C e1 fs1) Q') e fs) : CW C c (thenQ (thenC C y Q) Q') e fs :=
  CW.mono (fun x ds e fs hx => by
    cases x with
    | normal => obtain ⟨rfl, h2, h3⟩ := hx; exact CW.weak (C := C) e1 fs1 h2 h3 k
    | _ => exact hx) h
theorem CW.cutB {C : Cu} {c y : Code} {Q Q' : Post} {e : Env} {fs : Fs} {id : Nat} (e1 : Env) (fs1 : Fs) (k : CW C y Q e1 fs1) (h : CW C c (blkQ id (thenQ (cutQ C e1 fs1) Q')) e fs) : CW C c (blkQ id (thenQ (thenC C y Q) Q')) e fs :=
  CW.mono (fun x ds e fs hx => by
    have key : ∀ x, thenQ (cutQ C e1 fs1) Q' x ds e fs → thenQ (thenC C y Q) Q' x ds e fs := fun x hx => by
      cases x with
      | normal => obtain ⟨rfl, h2, h3⟩ := hx; exact CW.weak (C := C) e1 fs1 h2 h3 k
      | _ => exact hx
    cases x with
    | exit i =>
      simp only [blkQ] at hx ⊢
      split
      · rename_i hb; rw [hb] at hx; exact key _ hx
      · rename_i hb; rw [hb] at hx; exact key _ hx
    | normal => exact key .normal hx
    | ret => exact key .ret hx
    | goto l => exact key (.goto l) hx
    | panic l => exact key (.panic l) hx
    | outgrown => exact key .outgrown hx) h
theorem cutI {C : Cu} {Q : Post} {e e1 : Env} {fs fs1 : Fs} {ds : List Deferred} (hd : ds = C.ds) (h1 : e.le e1) (h2 : List.Sublist fs1 fs) : thenQ (cutQ C e1 fs1) Q .normal ds e fs := ⟨hd, h1, h2⟩
/-- The cells of rows of bytes. -/
def vcs (l : List (Value × List UInt8)) : List Value := l.flatMap fun x => [x.1]
theorem vcs_one (l : List (Value × List UInt8)) : ∀ x ∈ l, ([x.1] : List Value).length = 1 := fun _ _ => rfl
end Go.Proofs.YtficnjnnhcadaaaDoor.SL

/-
  A SMALL LOGIC OVER THE KIT's WALK, PART V: calls in drawn regions that read rows.
  Conditions: none; over any program.
-/
namespace Go.Proofs.YtficnjnnhcadaaaDoor.SL
set_option linter.unusedVariables false
set_option linter.unusedSimpArgs false
open Go Go.RowKit
theorem IsRow.us {E : TypeId} {sz n : Nat} {v : Value} {xs : List Value} {seg us : Fs} {w : World} (h : IsRow E sz v n xs seg) (hu : ∀ p ∈ us, w.heap[p.1]? = some p.2) (hs : List.Sublist seg us) : RowAt w sz v n xs := by
  cases h with
  | nil => exact .nil
  | @own g _ cap cur _ hn hm hc ht hl =>
    have hg := hu (g, .cells cur E (0, 0)) (hs.subset (by simp))
    exact ⟨⟨_, _, rfl, hn, hm⟩, hl, fun _ => ⟨g, 0, cap, cur, E, _, rfl, hg, by simpa using ht⟩, .own hg⟩
theorem ReadAll.app {C : Cu} {ops : Array Oper} {k : Nat} {bs : List Nat} {ts ts1 : Ts} {us : Fs} (h : ReadAll C ops k bs ts us ts1) : ∀ {bs' : List Nat} {us' : Fs} {ts2 : Ts}, ReadAll C ops k bs' ts1 us' ts2 → ReadAll C ops k (bs ++ bs') ts (us ++ us') ts2 := by
  induction h with
  | nil => intro _ _ _ h'; exact h'
  | own h _ ih => intro _ _ _ h'; exact .own h (ih h')
  | ext h hS _ ih => intro _ _ _ h'; exact .ext h hS (ih h')
/-- What a call's operands name is looked at: facts of ours, or rows that lay there when the call began. -/
inductive RdV (C : Cu) (ops : Array Oper) (k : Nat) : List Value → Ts → Fs → Ts → Prop
  | nil {ts : Ts} : RdV C ops k [] ts [] ts
  | plain {v : Value} {vs : List Value} {ts ts2 : Ts} {us : Fs} (hb : blocksN 4 v = []) (h : RdV C ops k vs ts us ts2) : RdV C ops k (v :: vs) ts us ts2
  | none {n c : Nat} {vs : List Value} {ts ts2 : Ts} {us : Fs} (h : RdV C ops k vs ts us ts2) : RdV C ops k (.slice .none n c :: vs) ts us ts2
  | ptr {b off : Nat} {o : Obj} {vs : List Value} {ts ts1 ts2 : Ts} {us : Fs} (h : TRead ops k ts b o ts1) (hs : RdV C ops k vs ts1 us ts2) : RdV C ops k (.pointer (some ⟨b, off, .none⟩) :: vs) ts ((b, o) :: us) ts2
  | own {b off n c : Nat} {o : Obj} {vs : List Value} {ts ts1 ts2 : Ts} {us : Fs} (hc : 0 < c) (h : TRead ops k ts b o ts1) (hs : RdV C ops k vs ts1 us ts2) : RdV C ops k (.slice (some ⟨b, off, .none⟩) n c :: vs) ts ((b, o) :: us) ts2
  | ext {v : Value} {n : Nat} {sz : Nat} {xs : List Value} {vs : List Value} {ts ts2 : Ts} {us : Fs} (h : RowAt C.w0 sz v n xs) (hS : C.S = []) (hs : RdV C ops k vs ts us ts2) : RdV C ops k (v :: vs) ts us ts2
theorem RdV.all {C : Cu} {ops : Array Oper} {k : Nat} {vs : List Value} {ts ts' : Ts} {us : Fs} (h : RdV C ops k vs ts us ts') : ∃ us2, ReadAll C ops k (vs.flatMap (blocksN 4)) ts us2 ts' ∧ ∀ p ∈ us, p ∈ us2 := by
  induction h with
  | nil => exact ⟨[], .nil, by simp⟩
  | plain hb _ ih =>
    obtain ⟨us2, h1, h2⟩ := ih
    exact ⟨us2, by rw [List.flatMap_cons, hb]; exact h1, h2⟩
  | none _ ih =>
    obtain ⟨us2, h1, h2⟩ := ih
    exact ⟨us2, h1, h2⟩
  | @ptr b off o vs ts ts1 ts2 us h _ ih =>
    obtain ⟨us2, h1, h2⟩ := ih
    refine ⟨(b, o) :: us2, .own h h1, fun p hp => ?_⟩
    rcases List.mem_cons.1 hp with rfl | hp
    · exact List.mem_cons_self
    · exact List.mem_cons_of_mem _ (h2 p hp)
  | @own b off n c o vs ts ts1 ts2 us hc h _ ih =>
    obtain ⟨us2, h1, h2⟩ := ih
    refine ⟨(b, o) :: us2, ?_, fun p hp => ?_⟩
    · rw [List.flatMap_cons, show blocksN 4 (.slice (some ⟨b, off, .none⟩) n c) = [b] by simp [blocksN, Nat.ne_of_gt hc]]
      exact .own h h1
    · rcases List.mem_cons.1 hp with rfl | hp
      · exact List.mem_cons_self
      · exact List.mem_cons_of_mem _ (h2 p hp)
  | @ext v n sz xs vs ts ts2 us h hS _ ih =>
    obtain ⟨us2, h1, h2⟩ := ih
    obtain ⟨p, c, rfl, _, _⟩ := h.form
    rcases h.lies _ _ _ rfl with rfl | rfl | ⟨b, off, o, rfl, hb⟩
    · exact ⟨us2, h1, h2⟩
    · exact ⟨us2, by rw [List.flatMap_cons, show blocksN 4 (.slice p n 0) = [] by cases p <;> simp [blocksN]]; exact h1, h2⟩
    · rcases Nat.eq_zero_or_pos c with hc | hc
      · subst hc
        exact ⟨us2, by rw [List.flatMap_cons, show blocksN 4 (.slice (some ⟨b, off, .none⟩) n 0) = [] by simp [blocksN]]; exact h1, h2⟩
      · refine ⟨(b, o) :: us2, ?_, fun p hp => List.mem_cons_of_mem _ (h2 p hp)⟩
        rw [List.flatMap_cons, show blocksN 4 (.slice (some ⟨b, off, .none⟩) n c) = [b] by simp [blocksN, Nat.ne_of_gt hc]]
        exact .ext hb (by rw [hS]; simp) h1
section dw
variable {C : Cu} {ops : Array Oper} {Q : Post} {tl rest : List Oper} {e : Env} {ts : Ts} {μ : Mu} {k d : Nat} {op : Op} {t : TypeId} {pos : String} {af : Array Edge} {g : Option (Nat × Bool)}
theorem DW.callV {fo : Operand} {args : Array Operand} {tys : Array TypeId} {f : FuncId} {vs : List Value} {v : Value} {us : Fs} {ts' : Ts} (hk : ops[k]? = some ⟨some d, .call { callee := .value fo, args := args, argTypes := tys }, t, pos, af, g⟩) (hm : μ k = none)
    (hd : Nat.blt d C.N = true) (hg : WantT ops e g) (hf : e.ev fo = some (.func (.func f) #[] #[])) (hF : FnI C.P f) (ha : ArgsOk e args.toList vs) (hr : RdV C ops k vs ts us ts')
    (hc : ∀ w, Bel C.w0.heap.size C.S C.w0 w → (∀ p ∈ us, w.heap[p.1]? = some p.2) → Calls C.P f vs.toArray w (Ret w v)) (kk : DW C ops μ Q tl rest (k + 1) ((d, v) :: e) ts') :
    DW C ops μ Q tl (⟨some d, .call { callee := .value fo, args := args, argTypes := tys }, t, pos, af, g⟩ :: rest) k e ts := by
  obtain ⟨us2, h1, h2⟩ := hr.all
  exact DW.callE hk hm hd hg hf hF ha (show _ = vs.flatMap (blocksN 4) from rfl) h1 (fun w hb hu => hc w hb fun p hp => hu p (h2 p hp)) kk
theorem DW.manyV {fo : Operand} {args : Array Operand} {tys : Array TypeId} {f : FuncId} {vs : List Value} {M : Rel1} {us : Fs} {ts' : Ts} (hk : ops[k]? = some ⟨some d, .call { callee := .value fo, args := args, argTypes := tys }, t, pos, af, g⟩) (hm : μ k = some M)
    (hd : Nat.blt d C.N = true) (hg : WantT ops e g) (hf : e.ev fo = some (.func (.func f) #[] #[])) (hF : FnI C.P f) (ha : ArgsOk e args.toList vs) (hr : RdV C ops k vs ts us ts')
    (hc : ∀ w, Bel C.w0.heap.size C.S C.w0 w → (∀ p ∈ us, w.heap[p.1]? = some p.2) → Calls C.P f vs.toArray w (RetG w [] M)) (kk : ∀ v gs, M v gs → DW C ops μ Q tl rest (k + 1) ((d, v) :: e) (tsNew k gs ++ ts')) :
    DW C ops μ Q tl (⟨some d, .call { callee := .value fo, args := args, argTypes := tys }, t, pos, af, g⟩ :: rest) k e ts := by
  obtain ⟨us2, h1, h2⟩ := hr.all
  exact DW.manyE hk hm hd hg hf hF ha (show _ = vs.flatMap (blocksN 4) from rfl) h1 (fun w hb hu => hc w hb fun p hp => hu p (h2 p hp)) kk
end dw
end Go.Proofs.YtficnjnnhcadaaaDoor.SL

/-
  A SMALL LOGIC OVER THE KIT's WALK, PART W: strings measured, cut, joined, gone through.
  Conditions: none; over any program.
-/
namespace Go.Proofs.YtficnjnnhcadaaaDoor.SL
set_option linter.unusedVariables false
set_option linter.unusedSimpArgs false
open Go Go.RowKit
/-! ### A label's scope, where nobody jumps -/
theorem stepR_scope {P : Program} {b : Frame} {a : Act} {k : List Item} {cs : List Frame} {w : World} {c : Code} : step P (lone (b.atR a (.code (.scope c) :: k)) cs w) = .next (lone (b.atR a (.code c :: .inScope c :: k)) cs w) :=
  step_lone_go (by simp [stepG, stepG.exec, Frame.atR])
theorem stepR_inScope {P : Program} {b : Frame} {a : Act} {k : List Item} {cs : List Frame} {w : World} {c : Code} : step P (lone (b.atR a (.inScope c :: k)) cs w) = .next (lone (b.atR a k) cs w) :=
  step_lone_go (by simp [stepG, stepG.exec, Frame.atR])
theorem wpIn_scope {F : Fence} {n : Nat} {P : Program} {c : Code} {Q Q' : Exit → Act → World → Prop} {a : Act} {w : World} (hQ : ∀ x a w, Q' x a w → (∀ l, x ≠ .goto l) ∧ Q x a w) (h : c.wpIn F n P Q' a w) : (Code.scope c).wpIn F n P Q a w := by
  intro b k cs hro hb hr
  have h0 : (lone (b.atR a (.code (.scope c) :: k)) cs w).fenced P F := fenced_calm hb hr rfl
  obtain ⟨e, a₁, w₁, hq, harr⟩ := h b (.inScope c :: k) cs hro hb hr
  obtain ⟨hng, hq⟩ := hQ _ _ _ hq
  cases e with
  | normal => exact ⟨.normal, a₁, w₁, hq, .head h0 stepR_scope (StepsIn.trans harr (.one (fenced_calm hb hr rfl) stepR_inScope))⟩
  | exit id =>
    have hx : exitTo id (.inScope c :: k) = exitTo id k := by simp [exitTo]
    exact ⟨.exit id, a₁, w₁, hq, fun k' hk => .head h0 stepR_scope (harr.1 k' (by rw [hx]; exact hk)),
      fun hr' hk => let ⟨k₁, h1, h2⟩ := harr.2 hr' (by rw [hx]; exact hk); ⟨k₁, h1, .head h0 stepR_scope h2⟩⟩
  | goto l => exact absurd rfl (hng l)
  | ret => exact ⟨_, a₁, w₁, hq, .of_steps (.one h0 stepR_scope) harr⟩
  | panic ch => exact ⟨_, a₁, w₁, hq, .of_steps (.one h0 stepR_scope) harr⟩
  | outgrown => exact ⟨_, a₁, w₁, hq, .of_steps (.one h0 stepR_scope) harr⟩
inductive scopeQ (Q : Post) : Post
  | n {ds : List Deferred} {e : Env} {fs : Fs} (h : Q .normal ds e fs) : scopeQ Q .normal ds e fs
  | r {ds : List Deferred} {e : Env} {fs : Fs} (h : Q .ret ds e fs) : scopeQ Q .ret ds e fs
  | e {id : Nat} {ds : List Deferred} {e : Env} {fs : Fs} (h : Q (.exit id) ds e fs) : scopeQ Q (.exit id) ds e fs
theorem CW.scope {C : Cu} {c : Code} {Q : Post} {e : Env} {fs : Fs} (h : CW C c (scopeQ Q) e fs) : CW C (.scope c) Q e fs := fun a w hs =>
  wpIn_scope (fun x a w ⟨ds, e, fs, q, s⟩ => by
    cases q with
    | n h => exact ⟨(fun _ h => nomatch h), ⟨ds, e, fs, h, s⟩⟩
    | r h => exact ⟨(fun _ h => nomatch h), ⟨ds, e, fs, h, s⟩⟩
    | e h => exact ⟨(fun _ h => nomatch h), ⟨ds, e, fs, h, s⟩⟩) (h a w hs)
/-- A string out of bytes. -/
abbrev sv (l : List UInt8) : Value := .string ⟨l.toArray⟩
theorem str_list (s : ByteArray) : ∃ l : List UInt8, s = ⟨l.toArray⟩ := ⟨s.data.toList, by simp⟩
theorem sv_inj {a b : List UInt8} (h : a ≠ b) : (⟨a.toArray⟩ : ByteArray) ≠ ⟨b.toArray⟩ := fun e => h (by have := congrArg (fun x : ByteArray => x.data.toList) e; simpa using this)
section str
variable {P : Program} {e : Env} {T ty : TypeId} {x y lo hi : Operand} {l r : List UInt8} {tys : Array TypeId}
theorem ValP.lenStr (hT : tys = #[T]) (hU : UnI P T .string) (hx : e.ev x = some (sv l)) : ValP P e [] (.call { callee := .builtin .len, args := #[x], argTypes := tys }) (.int .i64 (l.length : Int)) := fun ρ w hρ _ d t pos af g => by
  subst hT
  have h := run_len_string (P := P) w T t ⟨l.toArray⟩ hU.un
  simp only [goInt, ByteArray.size, List.size_toArray] at h
  simp [execOp, resolve, invoke, builtin, hρ x _ hx, h]
theorem ValP.addStr (hx : e.ev x = some (sv l)) (hy : e.ev y = some (sv r)) (hl : l.length + r.length ≤ 9223372036854775807) : ValP P e [] (.binOp .add T x y ty) (sv (l ++ r)) :=
  .bin hx hy (fun w => guard_str w) fun w => by
    rw [binOp_string_add, run_string_add_sum w _ _ (by simp only [ByteArray.size, List.size_toArray]; omega), ByteArray.mk_append_mk]
theorem ValP.cutStr {ik ik' : IntKind} {i j : Nat} (hU : UnI P T .string) (hx : e.ev x = some (sv l)) (hl : e.ev lo = some (.int ik (i : Int))) (hh : e.ev hi = some (.int ik' (j : Int))) (h1 : i ≤ j) (h2 : j ≤ l.length) :
    ValP P e [] (.slice T x (some lo) (some hi) none) (sv ((l.drop i).take (j - i))) := fun ρ w hρ _ d t pos af g => by
  have h := run_slice_string (P := P) w T ⟨l.toArray⟩ ik ik' (i : Int) (j : Int) hU.un (by omega) (by omega) (by simp only [ByteArray.size, List.size_toArray]; omega)
  rw [Int.toNat_natCast, Int.toNat_natCast, ByteArray.extract_mk] at h
  simp [execOp, hρ x _ hx, hρ lo _ hl, hρ hi _ hh, run_sliceAt_string (w := w) T _ _ _ _ hU.un, h]
theorem ValP.cutStrTo {ik : IntKind} {j : Nat} (hU : UnI P T .string) (hx : e.ev x = some (sv l)) (hh : e.ev hi = some (.int ik (j : Int))) (h2 : j ≤ l.length) :
    ValP P e [] (.slice T x none (some hi) none) (sv (l.take j)) := fun ρ w hρ _ d t pos af g => by
  have h := run_slice_string_h (P := P) w T ⟨l.toArray⟩ hU.un ik (j : Int) (by omega) (by simp only [ByteArray.size, List.size_toArray]; omega)
  rw [Int.toNat_natCast, ByteArray.extract_mk, List.drop_zero, Nat.sub_zero] at h
  simp [execOp, hρ x _ hx, hρ hi _ hh, run_sliceAt_string (w := w) T _ _ _ _ hU.un, h]
theorem ValP.cutStrFrom {ik : IntKind} {i : Nat} (hU : UnI P T .string) (hx : e.ev x = some (sv l)) (hl : e.ev lo = some (.int ik (i : Int))) (h2 : i ≤ l.length) :
    ValP P e [] (.slice T x (some lo) none none) (sv (l.drop i)) := fun ρ w hρ _ d t pos af g => by
  have h := run_slice_string_l (P := P) w T ⟨l.toArray⟩ hU.un ik (i : Int) (by omega) (by simp only [ByteArray.size, List.size_toArray]; omega)
  rw [Int.toNat_natCast, ByteArray.extract_mk] at h
  simp only [ByteArray.size, List.size_toArray, ← List.length_drop, List.take_length] at h
  simp [execOp, hρ x _ hx, hρ lo _ hl, run_sliceAt_string (w := w) T _ _ _ _ hU.un, h]
/-- A byte of a string. -/
theorem ValP.indexSv {ik : IntKind} {j : Int} {k : Nat} {b : UInt8} (hU : UnI P T .string) (hx : e.ev x = some (sv l)) (hy : e.ev y = some (.int ik j)) (hj : j = (k : Int)) (hb : l[k]? = some b) : ValP P e [] (.index T x y) (.int .u8 (b.toNat : Nat)) := by
  have := hU
  refine .indexStr hx hy hj ?_
  obtain ⟨h1, h2⟩ := List.getElem?_eq_some_iff.1 hb
  rw [ByteArray.getElem?_lt' _ _ (by simpa [ByteArray.size] using h1)]
  simp only [← h2]
  rfl
end str
section lw
variable {C : Cu} {ops : Array Oper} {Q : Post} {rest : List Oper} {e : Env} {fs fs' : Fs} {d : Nat} {t : TypeId} {pos : String} {af : Array Edge}
/-- **range** over a string. -/
theorem LW.rangeStr {T : TypeId} {x : Operand} {l : List UInt8} (hd : Nat.blt d C.N = true) (hU : UnI C.P T .string) (hx : e.ev x = some (sv l))
    (k : ∀ b, LW C ops Q rest ((d, .pointer (some ⟨b, 0, none⟩)) :: e) ((b, .stringIter ⟨l.toArray⟩ 0) :: fs)) : LW C ops Q (⟨some d, .range T x, t, pos, af, none⟩ :: rest) e fs :=
  LW.new (s := .ptr) hd (fun c h => by cases h) (fun a w hs => by
    have h := run_range_string (P := C.P) w T ⟨l.toArray⟩ hU.un
    simp [execOp, hs.env.ev hx, h, World.iter, Sh.val]) fun b => k b
theorem LW.nextStr {x : Operand} {b m : Nat} {l : List UInt8} (hd : Nat.blt d C.N = true) (hx : e.ev x = some (.pointer (some ⟨b, 0, none⟩))) (hset : SetAt fs b (.stringIter ⟨l.toArray⟩ m) (.stringIter ⟨l.toArray⟩ (m + (Utf8.decode ⟨l.toArray⟩ m).2)) fs') (hm : m < l.length)
    (k : LW C ops Q rest ((d, .tuple #[.bool true, .int .i64 (m : Int), .int .i32 (((Utf8.decode ⟨l.toArray⟩ m).1 : Nat) : Int)]) :: e) fs') : LW C ops Q (⟨some d, .next x true, t, pos, af, none⟩ :: rest) e fs :=
  LW.valset hd (fun c h => by cases h) hset (fun a w hs hb => by
    have hsz : m < (ByteArray.mk l.toArray).size := by simpa [ByteArray.size] using hm
    have h : (Instr.next (.pointer (some ⟨b, 0, none⟩)) true t).run C.P w = .ok (.tuple #[.bool true, .int .i64 (m : Int), .int .i32 (((Utf8.decode ⟨l.toArray⟩ m).1 : Nat) : Int)]) (w.putObj b (.stringIter ⟨l.toArray⟩ (m + (Utf8.decode ⟨l.toArray⟩ m).2))) := by
      simp only [Instr.next, getObj, setObj, Sem.run_bind, Sem.run, hb, Result.andThen, hsz, if_true]
      simp [goInt, Sem.run, hb, World.putObj]
    simp [execOp, hs.env.ev hx, h]) k
theorem LW.nextEnd {x : Operand} {b m : Nat} {l : List UInt8} (hd : Nat.blt d C.N = true) (hx : e.ev x = some (.pointer (some ⟨b, 0, none⟩))) (hk : Known C fs (b, .stringIter ⟨l.toArray⟩ m)) (hm : l.length ≤ m)
    (k : LW C ops Q rest ((d, .tuple #[.bool false]) :: e) fs) : LW C ops Q (⟨some d, .next x true, t, pos, af, none⟩ :: rest) e fs :=
  LW.val hd (fun c h => by cases h) (fun a w hs => by
    have hb := hk.get hs.st
    have hsz : ¬ m < (ByteArray.mk l.toArray).size := by simpa [ByteArray.size] using hm
    have h : (Instr.next (.pointer (some ⟨b, 0, none⟩)) true t).run C.P w = .ok (.tuple #[.bool false]) w := by
      simp [Instr.next, getObj, Sem.run, hb, hsz]
    simp [execOp, hs.env.ev hx, h]) k
end lw
theorem decode_lo (l : List UInt8) (m : Nat) (hm : m < l.length) (h : l[m].toNat < 128) : Utf8.decode ⟨l.toArray⟩ m = (l[m].toNat, 1) := by
  have := decode_ascii ⟨l.toArray⟩ m (by simpa [ByteArray.size] using hm) (show l.toArray[m].toNat < 128 by simpa using h)
  rw [this]
  show (l.toArray[m].toNat, 1) = _
  simp
theorem decode_hi (l : List UInt8) (m : Nat) (hm : m < l.length) (h : 128 ≤ l[m].toNat) : 128 ≤ (Utf8.decode ⟨l.toArray⟩ m).1 ∧ (Utf8.decode ⟨l.toArray⟩ m).1 ≤ 2147483647 :=
  ⟨(decode_high ⟨l.toArray⟩ m (by simpa [ByteArray.size] using hm) (show 128 ≤ l.toArray[m].toNat by simpa using h)).1, decode_le _ _⟩
theorem is_str {w : World} {cs : List Value} (h : Ty.str.is w cs) : ∃ l : List UInt8, l.length ≤ maxLen ∧ cs = [sv l] := by
  obtain ⟨s, rfl, hs⟩ := h
  obtain ⟨l, rfl⟩ := str_list s
  exact ⟨l, by simpa [ByteArray.size] using hs, rfl⟩
/-- The cells of strings. -/
def scs (l : List (List UInt8)) : List Value := l.flatMap fun x => [sv x]
theorem scs_one (l : List (List UInt8)) : ∀ x ∈ l, ([sv x] : List Value).length = 1 := fun _ _ => rfl
/-- A call of a body of the model's own that reads memory. -/
theorem LW.callXS {C : Cu} {ops : Array Oper} {Q : Post} {rest : List Oper} {e : Env} {fs : Fs} {d : Nat} {t : TypeId} {pos : String} {af : Array Edge} {fo : Operand} {args : Array Operand} {tys : Array TypeId} {f : FuncId} {vs : List Value} {v : Value} (hd : Nat.blt d C.N = true) (hf : e.ev fo = some (.func (.func f) #[] #[])) (ha : ArgsOk e args.toList vs)
    (h : ∀ w, St C.w0 C.S fs w → (callFunc f vs.toArray).run C.P w = .ok (.value v) w) (k : LW C ops Q rest ((d, v) :: e) fs) : LW C ops Q (⟨some d, .call { callee := .value fo, args := args, argTypes := tys }, t, pos, af, none⟩ :: rest) e fs :=
  LW.val hd (fun c h => by cases h) (fun a w hs => by
    simp [execOp, resolve, invoke, Deferred.ofValue, hs.env.ev hf, ha.arr hs.env.Ev, h w hs.st]) k
end Go.Proofs.YtficnjnnhcadaaaDoor.SL

/-
  A SMALL LOGIC OVER THE KIT's WALK, PART X: maps of one's own; structs' fields.
  Conditions: none; over any program.
-/
namespace Go.Proofs.YtficnjnnhcadaaaDoor.SL
set_option linter.unusedVariables false
set_option linter.unusedSimpArgs false
open Go Go.RowKit Go.MapKept
/-- What a map holds behind a store. -/
def putNow (dd : TypeDesc) (key val : Value) (es : Array MapEntry) (clock : Nat) : Option (Array MapEntry × Nat) :=
  match Instr.findNow dd key es.toList 0 with
  | some none => some (es.push ⟨key, val, clock⟩, clock + 1)
  | some (some (i, _)) => if Instr.sameBits 10000 (((es[i]?).map (·.key)).getD key) key = true then some (es.modify i fun e => { e with key := key, val := val }, clock) else none
  | none => none
theorem mapUpdate_run {P : Program} {T K E : TypeId} {dd : TypeDesc} {b clock clock' : Nat} {es es' : Array MapEntry} {key val : Value} (hU : P.underlying T = some (.map K E)) (hK : P.underlying K = some dd) (hkey : IsKey dd key) (hput : putNow dd key val es clock = some (es', clock')) {w : World} (hb : w.heap[b]? = some (.map es clock)) :
    (Instr.mapUpdate T (.map (some b)) key val).run P w = .ok () (w.putObj b (.map es' clock')) := by
  unfold putNow at hput
  unfold Instr.mapUpdate
  simp only [Sem.run_bind, run_underlying hU, MapKept.run_getObj_map hb, MapKept.run_checkKey hK hkey, Result.andThen_ok]
  split at hput
  · rename_i hf
    simp only [Option.some.injEq, Prod.mk.injEq] at hput
    obtain ⟨rfl, rfl⟩ := hput
    simp only [MapKept.run_findKey hK hf, Result.andThen_ok, MapKept.run_setObj_map _ hb]
    rfl
  · rename_i i v hf
    split at hput
    · rename_i hs
      simp only [Option.some.injEq, Prod.mk.injEq] at hput
      obtain ⟨rfl, rfl⟩ := hput
      simp only [MapKept.run_findKey hK hf, Result.andThen_ok, Instr.keyThatStays, hs, if_true, Sem.run_bind, Sem.run_pure, MapKept.run_setObj_map _ hb]
      rfl
    · cases hput
  · cases hput
/-- What a look-up answers. -/
def lookV (z : Value) (ok : Bool) (r : Option (Nat × Value)) : Value := match r with
  | some (_, v) => if ok then .tuple #[v, .bool true] else v
  | none => if ok then .tuple #[z, .bool false] else z
theorem lookup_run {P : Program} {T K E n : TypeId} {z : Value} {dd : TypeDesc} {b clock : Nat} {es : Array MapEntry} {key : Value} {r : Option (Nat × Value)} (hU : P.underlying T = some (.map K E)) (hK : P.underlying K = some dd) (hI : InfoI P E n z) (hkey : IsKey dd key) (hf : Instr.findNow dd key es.toList 0 = some r) (ok : Bool) {w : World} (hb : w.heap[b]? = some (.map es clock)) :
    (Instr.lookup T (.map (some b)) key ok).run P w = .ok (lookV z ok r) w := by
  unfold lookV
  unfold Instr.lookup
  simp only [Sem.run_bind, run_underlying hU, MapKept.run_getObj_map hb, Sem.run_pure, MapKept.run_checkKey hK hkey, Result.andThen_ok, MapKept.run_findKey hK hf]
  cases r with
  | none => simp only [Sem.run_bind, run_zero, Result.andThen_ok, Sem.run_pure]
  | some x => simp only [Sem.run_bind, Result.andThen_ok, Sem.run_pure]
section lw
variable {C : Cu} {ops : Array Oper} {Q : Post} {rest : List Oper} {e : Env} {fs fs' : Fs} {d : Nat} {t : TypeId} {pos : String} {af : Array Edge}
theorem LW.makeMap {T : TypeId} (hd : Nat.blt d C.N = true) (k : ∀ b, LW C ops Q rest ((d, .map (some b)) :: e) ((b, .map #[] 0) :: fs)) : LW C ops Q (⟨some d, .makeMap T none, t, pos, af, none⟩ :: rest) e fs :=
  LW.new (s := .mp) hd (fun c h => by cases h) (fun a w hs => by
    have h : (Instr.makeMap T none).run C.P w = .ok (.map (some w.heap.size)) (w.alloc (.map #[] 0)) := rfl
    simp [execOp, h, Sh.val]) k
theorem LW.makeMapN {T K E : TypeId} {x : Operand} {ik : IntKind} {n : Int} (hd : Nat.blt d C.N = true) (hU : UnI C.P T (.map K E)) (hx : e.ev x = some (.int ik n)) (k : ∀ b, LW C ops Q rest ((d, .map (some b)) :: e) ((b, .map #[] 0) :: fs)) : LW C ops Q (⟨some d, .makeMap T (some x), t, pos, af, none⟩ :: rest) e fs :=
  LW.new (s := .mp) hd (fun c h => by cases h) (fun a w hs => by
    have hu := hU.un
    have h : (Instr.makeMap T (some (.int ik n))).run C.P w = .ok (.map (some w.heap.size)) (w.alloc (.map #[] 0)) := by
      simp only [Instr.makeMap, Sem.run_bind, run_underlying hu, Result.andThen_ok]
      rfl
    simp [execOp, hs.env.ev hx, h, Sh.val]) k
theorem LW.mapPut {T K E : TypeId} {dd : TypeDesc} {xm xk xv : Operand} {b clock clock' : Nat} {es es' : Array MapEntry} {key val : Value} (hU : UnI C.P T (.map K E)) (hK : UnI C.P K dd) (hm : e.ev xm = some (.map (some b))) (hk : e.ev xk = some key) (hv : e.ev xv = some val) (hset : SetAt fs b (.map es clock) (.map es' clock') fs')
    (hkey : IsKey dd key) (hput : putNow dd key val es clock = some (es', clock')) (k : LW C ops Q rest e fs') : LW C ops Q (⟨none, .mapUpdate T xm xk xv, t, pos, af, none⟩ :: rest) e fs :=
  LW.s0 rfl hset (fun ρ w hρ hb d t pos af g => by simp [execOp, hρ _ _ hm, hρ _ _ hk, hρ _ _ hv, mapUpdate_run hU.un hK.un hkey hput hb]) k
theorem LW.mapIns {T K E : TypeId} {dd : TypeDesc} {xm xk xv : Operand} {b clock clock' : Nat} {es es' : Array MapEntry} {key val : Value} (hU : UnI C.P T (.map K E)) (hK : UnI C.P K dd) (hm : e.ev xm = some (.map (some b))) (hk : e.ev xk = some key) (hv : e.ev xv = some val) (hset : SetAt fs b (.map es clock) (.map es' clock') fs')
    (hkey : IsKey dd key) (hput : putNow dd key val es clock = some (es', clock')) (k : LW C ops Q rest e fs') : LW C ops Q (⟨none, .insert T xm xk xv, t, pos, af, none⟩ :: rest) e fs :=
  LW.s0 rfl hset (fun ρ w hρ hb d t pos af g => by simp [execOp, hρ _ _ hm, hρ _ _ hk, hρ _ _ hv, mapUpdate_run hU.un hK.un hkey hput hb]) k
theorem LW.mapGet {T K E n : TypeId} {z v : Value} {dd : TypeDesc} {xm xk : Operand} {b clock : Nat} {es : Array MapEntry} {key : Value} {r : Option (Nat × Value)} {ok : Bool} (hd : Nat.blt d C.N = true) (hU : UnI C.P T (.map K E)) (hK : UnI C.P K dd) (hI : InfoI C.P E n z) (hm : e.ev xm = some (.map (some b))) (hk : e.ev xk = some key) (hp : Known C fs (b, .map es clock))
    (hkey : IsKey dd key) (hf : Instr.findNow dd key es.toList 0 = some r) (hv : lookV z ok r = v) (k : LW C ops Q rest ((d, v) :: e) fs) : LW C ops Q (⟨some d, .lookup T xm xk ok, t, pos, af, none⟩ :: rest) e fs :=
  LW.val hd (fun c h => by cases h) (fun a w hs => by
    have h := lookup_run (P := C.P) hU.un hK.un hI hkey hf ok (hp.get hs.st)
    simp only [hv] at h
    simp [execOp, hs.env.ev hm, hs.env.ev hk, h]) k
end lw
end Go.Proofs.YtficnjnnhcadaaaDoor.SL

/-
  A SMALL LOGIC OVER THE KIT's WALK, PART Y: structs built and read; arrays cut whole.
  Conditions: none; over any program.
-/
namespace Go.Proofs.YtficnjnnhcadaaaDoor.SL
set_option linter.unusedVariables false
set_option linter.unusedSimpArgs false
open Go Go.RowKit
theorem mapM_sizes {P : Program} {w : World} : ∀ (fs : List Field) (pl : List (Nat × Nat)), (fs.mapM fun f => (P.info? f.type).map fun i => (f.offset, i.size)) = some pl →
    (fs.mapM fun f => (do pure (f.offset, ← sizeOf f.type) : Sem (Nat × Nat))).run P w = .ok pl w
  | [], pl, h => by simp at h; subst h; rfl
  | f :: fs, pl, h => by
    rw [List.mapM_cons] at h ⊢
    cases hi : P.info? f.type with
    | none => rw [hi] at h; cases h
    | some i =>
      rw [hi] at h
      cases hr : (fs.mapM fun f => (P.info? f.type).map fun i => (f.offset, i.size)) with
      | none => rw [hr] at h; cases h
      | some r =>
        rw [hr] at h
        have ih := mapM_sizes (P := P) (w := w) fs r hr
        have he : pl = (f.offset, i.size) :: r := by simpa using h.symm
        subst he
        have hs : (sizeOf f.type).run P w = .ok i.size w := by simp [sizeOf, typeInfo, Sem.run_bind, hi]
        simp only [Sem.run_bind, hs, Result.andThen_ok, Sem.run_pure, ih]
def fillP (pl : List (Nat × Nat)) : Array Value → List (Nat × Value) → Array Value
  | z, [] => z
  | z, (i, v) :: r => match pl[i]? with
    | some (off, _) => fillP pl (wrCells z off v.cells.toList) r
    | none => z
def fillPok (pl : List (Nat × Nat)) (len : Nat) : List (Nat × Value) → Bool
  | [] => true
  | (i, v) :: r => match pl[i]? with
    | some (off, n) => Nat.beq v.cells.size n && Nat.ble (off + n) len && fillPok pl len r
    | none => false
theorem fillP_eq {pl : List (Nat × Nat)} : ∀ (parts : List (Nat × Value)) (z : Array Value), fillPok pl z.size parts = true → Instr.fill (pl[·]?) z parts = some (fillP pl z parts)
  | [], z, _ => rfl
  | (i, v) :: r, z, h => by
    unfold fillPok at h
    unfold Instr.fill fillP
    cases hp : pl[i]? with
    | none => rw [hp] at h; cases h
    | some q =>
      obtain ⟨off, n⟩ := q
      rw [hp] at h
      simp only [Bool.and_eq_true, Nat.beq_eq] at h
      obtain ⟨⟨h1, h2⟩, h3⟩ := h
      have h2 := Nat.le_of_ble_eq_true h2
      have hf : (v.cells.zipIdx.foldl (fun cs (p : Value × Nat) => cs.setIfInBounds (off + p.2) p.1) z) = wrCells z off v.cells.toList := by
        have := foldl_wr v.cells.toList z off 0
        rw [← Array.foldl_toList]
        simpa using this
      have ih := fillP_eq (pl := pl) r (wrCells z off v.cells.toList) (by rw [wrCells_size]; exact h3)
      simp only
      rw [if_neg (by simp [h1]; omega)]
      exact (congrArg (fun q => Instr.fill (pl[·]?) q r) hf).trans ih
section st
variable {P : Program} {e : Env} {T : TypeId} {x : Operand}
theorem ValP.buildT {nT : Nat} {z : Array Value} {parts : Array (Nat × Operand)} {pl : List (Nat × Nat)} {vs : List (Nat × Value)} {c : Array Value} (hS : StrI P T pl) (hI : InfoI P T nT (.agg z)) (hp : PartsOk e parts.toList vs)
    (hok : fillPok pl z.size vs = true) (hcc : fillP pl z vs = c) : ValP P e [] (.build T parts) (.agg c) := fun ρ w hρ _ d t pos af g => by
  have hc : Instr.fill (pl[·]?) z vs = some c := by rw [fillP_eq vs z hok, hcc]
  have h1 : (parts.map fun p => (p.1, ρ p.2)).toList = vs := by simpa using hp.map hρ
  have h2 : (Value.agg z).cells = z := rfl
  have hs := hS.str
  unfold strOf at hs
  split at hs
  · rename_i fs hu
    have hm := mapM_sizes (P := P) (w := w) fs.toList pl hs
    have hm2 : (fs.mapM fun f => (do pure (f.offset, ← sizeOf f.type) : Sem (Nat × Nat))).run P w = .ok pl.toArray w := by
      rw [Array.mapM_eq_mapM_toList]
      show ((fs.toList.mapM fun f => (do pure (f.offset, ← sizeOf f.type) : Sem (Nat × Nat))) >>= fun l => pure l.toArray).run P w = _
      simp only [Sem.run_bind, hm, Result.andThen_ok, Sem.run_pure]
    have h4 : (Instr.build T (parts.map fun p => (p.1, ρ p.2))).run P w = .ok (.agg c) w := by
      unfold Instr.build
      simp only [Sem.run_bind, run_zero, Result.andThen_ok, run_underlying hu, hm2, h1, h2]
      have : Instr.fill (fun i => pl.toArray[i]?) z vs = some c := by simpa using hc
      simp only [this, Sem.run_pure]
    simp only [execOp]
    exact (show ((do pure (.value (← Instr.build T (parts.map fun p => (p.1, ρ p.2)))) : Sem Next)).run P w = .ok (.value (.agg c)) w by simp [h4])
  · cases hs
/-- A field of one cell. -/
theorem ValP.field1 {i fo : Nat} {ft : TypeId} {cs : Array Value} {v : Value} (hF : FldI P T i fo ft) (hA : AgI P ft false) (hx : e.ev x = some (.agg cs)) (hv : nth cs.toList fo = some v) : ValP P e [] (.field T x i) v := fun ρ w hρ _ d t pos af g => by
  obtain ⟨fs, f, h1, h2, h3, h4⟩ := hF.fld
  subst h3; subst h4
  have h5 : cs[f.offset]? = some v := by rw [nth_eq] at hv; simpa using hv
  simp [execOp, hρ x _ hx, Instr.field, Sem.run_bind, run_underlying h1, h2, asAgg, part, run_isAgg, h5]
/-- A field of parts. -/
theorem ValP.fieldA {i fo n : Nat} {ft : TypeId} {cs c : Array Value} {z : Value} (hF : FldI P T i fo ft) (hA : AgI P ft true) (hI : InfoI P ft n z) (hx : e.ev x = some (.agg cs)) (hv : cs.extract fo (fo + n) = c) : ValP P e [] (.field T x i) (.agg c) := fun ρ w hρ _ d t pos af g => by
  obtain ⟨fs, f, h1, h2, h3, h4⟩ := hF.fld
  subst h3; subst h4
  simp [execOp, hρ x _ hx, Instr.field, Sem.run_bind, run_underlying h1, h2, asAgg, part, run_isAgg, run_size, hv]
/-- arr[:] of an array's address. -/
theorem ValP.cutArrAll {n sz b off : Nat} {E : TypeId} {z : Value} (hU : UnI P T (.array n E)) (hI : InfoI P E sz z) (hx : e.ev x = some (.pointer (some ⟨b, off, none⟩))) : ValP P e [] (.slice T x none none none) (.slice (some ⟨b, off, none⟩) n n) := fun ρ w hρ _ d t pos af g => by
  have hu := hU.un
  have h1 : (Instr.sliceAt T (.pointer (some ⟨b, off, none⟩)) none none none).run P w = .ok (.slice (some ⟨b, off, none⟩) n n) w := by
    have hal : P.arrayLen T = n := by rw [Program.arrayLen, hu]
    have hel : P.elem T = E := by rw [Program.elem, hu]
    have h2 := run_sliceAt_array_all (P := P) w T ⟨b, off, none⟩ (by rw [hal, hel]; exact hu)
    rw [hel, run_size, hal] at h2
    rw [h2]
    simp only [Result.andThen_ok, slicedAt, Nat.zero_mul, Nat.sub_zero]
    simp [Addr.add]
  simp [execOp, hρ x _ hx, h1]
end st
/-- Elements of a row of some parts. -/
theorem row_of {α : Type} {g : α → List Value} {E : TypeId} {sz : Nat} {b : Nat} {l : List α} {w0 w : World} {S : List Nat} {fs : Fs} (hg : ∀ a ∈ l, (g a).length = sz) (hl : l.length ≤ maxLen) : IsRow E sz (.slice (some ⟨b, 0, none⟩) l.length l.length) l.length (l.flatMap g) [(b, .cells (l.flatMap g).toArray E (0, 0))] :=
  .own (Nat.le_refl _) hl (by rw [List.size_toArray, flat_len hg]) (by rw [← flat_len hg]; exact List.take_length) (flat_len hg)
end Go.Proofs.YtficnjnnhcadaaaDoor.SL

/-
  A SMALL LOGIC OVER THE KIT's WALK, PART Z: slices laid of many; rows of numbers.
  Conditions: none; over any program.
-/
namespace Go.Proofs.YtficnjnnhcadaaaDoor.SL
set_option linter.unusedVariables false
set_option linter.unusedSimpArgs false
open Go Go.RowKit
theorem NewP.buildSN {P : Program} {e : Env} {T E size len : Nat} {z : Value} {parts : Array (Nat × Operand)} {vs : List (Nat × Value)} {c : Array Value} (hU : UnI P T (.slice E)) (hI : InfoI P E size z) (hp : PartsOk e parts.toList vs) (hl : Nat.blt 0 (len * size) = true) (hl' : Nat.ble (len * size) 1000000 = true)
    (hok : fillOk size ((Array.range (len * size)).map (z.cells[· % z.cells.size]!)).size vs = true) (hc : fillC size ((Array.range (len * size)).map (z.cells[· % z.cells.size]!)) vs = c) : NewP P e (.buildSlice T len parts) (.sl len len) (.cells c E (0, 0)) := fun ρ w hρ d t pos af g => by
  have h0 : 0 < len * size := by simpa [Nat.blt_eq] using hl
  have h1 := Nat.le_of_ble_eq_true hl'
  have hf := fill_eq (sz := size) vs _ hok
  rw [hc] at hf
  have hpm : (parts.map fun p => (p.1, ρ p.2)).toList = vs := by simpa using hp.map hρ
  have hr : (Instr.buildSlice T len (parts.map fun p => (p.1, ρ p.2))).run P w = .ok ((Sh.sl len len).val w.heap.size) (w.alloc (.cells c E (0, 0))) := by
    unfold Instr.buildSlice
    simp only [Sem.run_bind, run_un, run_size, Result.andThen_ok]
    have hne : ¬ (len * size > 2 ^ 24) := by omega
    have hnz : ¬ (len * size = 0) := by omega
    simp only [hne, hnz, if_false, Sem.run_bind, run_zero, Result.andThen_ok, Sem.run_pure, hpm, hf]
    simp [newRow, Sh.val]
  simp only [execOp]
  exact (show ((do pure (.value (← Instr.buildSlice T len (parts.map fun p => (p.1, ρ p.2)))) : Sem Next)).run P w = _ by simp only [Sem.run_bind, hr]; rfl)
/-- The cells of numbers. -/
def ncs (l : List Nat) : List Value := l.flatMap fun (x : Nat) => [Value.int .u64 (x : Int)]
theorem ncs_one (l : List Nat) : ∀ x ∈ l, ([Value.int .u64 (x : Int)] : List Value).length = 1 := fun _ _ => rfl
theorem ncs_map (l : List Nat) : ncs l = l.map fun (x : Nat) => Value.int .u64 (x : Int) := by
  induction l with
  | nil => rfl
  | cons a l ih => simp [ncs] at *; exact ih
theorem ncs_len (l : List Nat) : (ncs l).length = l.length := by rw [ncs_map, List.length_map]
theorem ncs_take (l : List Nat) (k : Nat) : (ncs l).take (k * 1) = ncs (l.take k) := by rw [ncs_map, ncs_map, Nat.mul_one, List.map_take]
theorem ncs_drop (l : List Nat) (k : Nat) : (ncs l).drop (k * 1) = ncs (l.drop k) := by rw [ncs_map, ncs_map, Nat.mul_one, List.map_drop]
theorem is_num {w : World} {cs : List Value} (h : (Ty.int .u64).is w cs) : ∃ x : Nat, x < 18446744073709551616 ∧ cs = [Value.int .u64 (x : Int)] := by
  obtain ⟨n, rfl, hn⟩ := h
  obtain ⟨k, rfl, hk⟩ := wf_u64 hn
  exact ⟨k, hk, rfl⟩
/-- A whole block read as a row. -/
theorem row_cells {w : World} {b n sz : Nat} {cs : Array Value} {E : TypeId} {fr : Nat × Nat} {xs : List Value} (hb : w.heap[b]? = some (.cells cs E fr)) (hx : cs.toList = xs) (hl : xs.length = n * sz) (hn : n ≤ maxLen) : RowAt w sz (.slice (some ⟨b, 0, none⟩) n n) n xs :=
  ⟨⟨_, _, rfl, Nat.le_refl _, hn⟩, hl, fun _ => ⟨b, 0, n, cs, E, fr, rfl, hb, by rw [List.drop_zero, hx, ← hl]; exact List.take_length⟩, .own hb⟩
end Go.Proofs.YtficnjnnhcadaaaDoor.SL

/-
  A SMALL LOGIC OVER THE KIT's WALK, PART MA: min and max of three.
  Conditions: none; over any program.
-/
namespace Go.Proofs.YtficnjnnhcadaaaDoor.SL
set_option linter.unusedVariables false
set_option linter.unusedSimpArgs false
open Go Go.RowKit
section mm
variable {P : Program} {e : Env} {ik : IntKind} {m n k : Nat} {x y z : Operand} {tys : Array TypeId}
theorem ValP.max3 (hx : e.ev x = some (.int ik (m : Int))) (hy : e.ev y = some (.int ik (n : Int))) (hz : e.ev z = some (.int ik (k : Int))) : ValP P e [] (.call { callee := .builtin .max, args := #[x, y, z], argTypes := tys }) (.int ik ((max (max m n) k : Nat) : Int)) := fun ρ w hρ _ d t pos af g => by
  have h2 : (Builtin.max_ tys t #[.int ik (m : Int), .int ik (n : Int), .int ik (k : Int)]).run P w = .ok (.int ik ((max (max m n) k : Nat) : Int)) w := by
    have h : (if (k : Int) > (if (n : Int) > (m : Int) then (n : Int) else (m : Int)) then (k : Int) else (if (n : Int) > (m : Int) then (n : Int) else (m : Int))) = ((max (max m n) k : Nat) : Int) := by split <;> split at * <;> omega
    rw [← h]
    simp [Builtin.max_, Builtin.max2]
  simp [execOp, resolve, invoke, builtin, hρ x _ hx, hρ y _ hy, hρ z _ hz, h2]
theorem ValP.min3 (hx : e.ev x = some (.int ik (m : Int))) (hy : e.ev y = some (.int ik (n : Int))) (hz : e.ev z = some (.int ik (k : Int))) : ValP P e [] (.call { callee := .builtin .min, args := #[x, y, z], argTypes := tys }) (.int ik ((min (min m n) k : Nat) : Int)) := fun ρ w hρ _ d t pos af g => by
  have h2 : (Builtin.min_ tys t #[.int ik (m : Int), .int ik (n : Int), .int ik (k : Int)]).run P w = .ok (.int ik ((min (min m n) k : Nat) : Int)) w := by
    have h : (if (k : Int) < (if (n : Int) < (m : Int) then (n : Int) else (m : Int)) then (k : Int) else (if (n : Int) < (m : Int) then (n : Int) else (m : Int))) = ((min (min m n) k : Nat) : Int) := by split <;> split at * <;> omega
    rw [← h]
    simp [Builtin.min_, Builtin.min2]
  simp [execOp, resolve, invoke, builtin, hρ x _ hx, hρ y _ hy, hρ z _ hz, h2]
end mm
end Go.Proofs.YtficnjnnhcadaaaDoor.SL

/-
  A SMALL LOGIC OVER THE KIT's WALK, PART MB: rows of two words and a truth value; rows of three truth values.
  Conditions: none; over any program.
-/
namespace Go.Proofs.YtficnjnnhcadaaaDoor.SL
set_option linter.unusedVariables false
set_option linter.unusedSimpArgs false
open Go Go.RowKit
abbrev WWB := Nat × Nat × Bool
abbrev BBB := Bool × Bool × Bool
def svc (x : WWB) : List Value := (wc x.1).toList ++ (wc x.2.1).toList ++ [.bool x.2.2]
def bbc (x : BBB) : List Value := [.bool x.1, .bool x.2.1, .bool x.2.2]
def Ty.wwb : Ty := .pair .word (.pair .word (.pair .bool .unit))
def Ty.bbb : Ty := .pair .bool (.pair .bool (.pair .bool .unit))
theorem is_wwb {w : World} {cs : List Value} (h : Ty.wwb.is w cs) : ∃ x : WWB, (x.1 < M256 ∧ x.2.1 < M256) ∧ cs = svc x := by
  obtain ⟨h1, h2, ⟨k, h3⟩, h4⟩ := h
  obtain ⟨a, ha, ea⟩ := is_word h1
  obtain ⟨b, hb, eb⟩ := is_word h2
  refine ⟨(a, b, k), ⟨ha, hb⟩, ?_⟩
  simp only [Ty.word, Ty.cells, Nat.mul_one] at ea eb h3
  have h4' : (((cs.drop 4).drop 4).drop 1) = [] := h4
  have e1 := List.take_append_drop 4 cs
  have e2 := List.take_append_drop 4 (cs.drop 4)
  have e3 := List.take_append_drop 1 ((cs.drop 4).drop 4)
  rw [ea] at e1
  rw [eb] at e2
  rw [h3, h4'] at e3
  exact e1.symm.trans (by rw [← e2, ← e3]; simp [svc])
theorem is_bbb {w : World} {cs : List Value} (h : Ty.bbb.is w cs) : ∃ x : BBB, cs = bbc x := by
  obtain ⟨⟨a, h1⟩, ⟨b, h2⟩, ⟨c, h3⟩, h4⟩ := h
  refine ⟨(a, b, c), ?_⟩
  simp only [Ty.cells] at h1 h2 h3
  have h4' : (((cs.drop 1).drop 1).drop 1) = [] := h4
  have e1 := List.take_append_drop 1 cs
  have e2 := List.take_append_drop 1 (cs.drop 1)
  have e3 := List.take_append_drop 1 ((cs.drop 1).drop 1)
  rw [h1] at e1
  rw [h2] at e2
  rw [h3, h4'] at e3
  exact e1.symm.trans (by rw [← e2, ← e3]; simp [bbc])
theorem svc_len (l : List WWB) : ∀ x ∈ l, (svc x).length = 9 := fun _ _ => rfl
theorem bbc_len (l : List BBB) : ∀ x ∈ l, (bbc x).length = 3 := fun _ _ => rfl
/-- The value of two words and a truth value. -/
def svv (a b : Nat) (k : Bool) : Array Value := (svc (a, b, k)).toArray
theorem svv_rd0 {P : Program} {T : TypeId} {z : Value} [AgI P T true] [InfoI P T 4 z] {a b : Nat} {k : Bool} {E : TypeId} {fr : Nat × Nat} : Rd P T (.cells (svv a b k) E fr) 0 (wv a) := Rd.mid (cs := (wc a).toList) rfl rfl
theorem svv_rd1 {P : Program} {T : TypeId} {z : Value} [AgI P T true] [InfoI P T 4 z] {a b : Nat} {k : Bool} {E : TypeId} {fr : Nat × Nat} : Rd P T (.cells (svv a b k) E fr) 4 (wv b) := Rd.mid (cs := (wc b).toList) rfl rfl
theorem svv_rd2 {P : Program} {T : TypeId} [AgI P T false] {a b : Nat} {k : Bool} {E : TypeId} {fr : Nat × Nat} : Rd P T (.cells (svv a b k) E fr) 8 (.bool k) := Rd.one rfl
end Go.Proofs.YtficnjnnhcadaaaDoor.SL

/-
  A SMALL LOGIC OVER THE KIT's WALK, PART MC: arrays of numbers, read and written at told places.
  Conditions: none; over any program.
-/
namespace Go.Proofs.YtficnjnnhcadaaaDoor.SL
set_option linter.unusedVariables false
set_option linter.unusedSimpArgs false
open Go Go.RowKit
/-- An array of numbers. -/
def nca (L : List Nat) : Array Value := (ncs L).toArray
theorem nca_size (L : List Nat) : (nca L).size = L.length := by simp [nca, ncs_len]
theorem nca_get (L : List Nat) (i : Nat) (hi : i < L.length) : (nca L)[i]? = some (.int .u64 ((L.getD i 0 : Nat) : Int)) := by
  simp [nca, ncs_map, hi, List.getD_eq_getElem?_getD]
theorem nth_nca (L : List Nat) (i : Nat) (hi : i < L.length) : nth (nca L).toList i = some (.int .u64 ((L.getD i 0 : Nat) : Int)) := by
  rw [nth_eq]; simpa using nca_get L i hi
section rd
variable {P : Program} {T E : TypeId} {fr : Nat × Nat} {L : List Nat} {i x : Nat}
theorem rd_nca [AgI P T false] (hi : i < L.length) : Rd P T (.cells (nca L) E fr) (0 + i * 1) (.int .u64 ((L.getD i 0 : Nat) : Int)) :=
  Rd.one (by rw [Nat.zero_add, Nat.mul_one]; exact nca_get L i hi)
theorem rd_ncaL [AgI P T false] (hi : i < L.length) : Rd P T (.cells (nca L) E fr) i (.int .u64 ((L.getD i 0 : Nat) : Int)) :=
  Rd.one (nca_get L i hi)
theorem rd_nca0 [AgI P T false] (hi : 0 < L.length) : Rd P T (.cells (nca L) E fr) (0 + 0 * 1) (.int .u64 ((L.getD 0 0 : Nat) : Int)) := rd_nca hi
theorem rd_ncaW {n : Nat} {z : Value} [AgI P T true] [InfoI P T n z] (h : L.length = n) : Rd P T (.cells (nca L) E fr) 0 (.agg (nca L)) := Rd.whole (by rw [nca_size, h])
theorem nca_set (L : List Nat) (i x : Nat) : wrCells (nca L) i [Value.int .u64 (x : Int)] = nca (L.set i x) := by
  simp [wrCells, nca, ncs_map, List.map_set]
theorem wr_nca {z : Value} [InfoI P T 1 z] (hi : i < L.length) : Wr P T (.cells (nca L) E (0, 0)) (0 + i * 1) (.int .u64 (x : Int)) (.cells (nca (L.set i x)) E (0, 0)) :=
  Wr.cells (n := 1) (z := z) rfl rfl (by rw [nca_size]; omega) (by rw [Nat.zero_add, Nat.mul_one]; exact nca_set L i x)
theorem wr_ncaL {z : Value} [InfoI P T 1 z] (hi : i < L.length) : Wr P T (.cells (nca L) E (0, 0)) i (.int .u64 (x : Int)) (.cells (nca (L.set i x)) E (0, 0)) :=
  Wr.cells (n := 1) (z := z) rfl rfl (by rw [nca_size]; omega) (nca_set L i x)
theorem wr_nca0 {z : Value} [InfoI P T 1 z] (hi : 0 < L.length) : Wr P T (.cells (nca L) E (0, 0)) (0 + 0 * 1) (.int .u64 (x : Int)) (.cells (nca (L.set 0 x)) E (0, 0)) := wr_nca hi
theorem wr_ncaW {n : Nat} {z : Value} {K : List Nat} [InfoI P T n z] (h : K.length = n) (h2 : L.length = n) : Wr P T (.cells (nca K) E (0, 0)) 0 (.agg (nca L)) (.cells (nca L) E (0, 0)) :=
  Wr.whole (by rw [nca_size, h]) (by rw [nca_size, h2]) (by simp [nca, ncs_map, Value.oneCell'])
theorem wr_ncaO {n : Nat} {z : Value} {cs : Array Value} [InfoI P T n z] (h : cs.size = n) (h2 : L.length = n) : Wr P T (.cells cs E (0, 0)) 0 (.agg (nca L)) (.cells (nca L) E (0, 0)) :=
  Wr.whole h (by rw [nca_size, h2]) (by simp [nca, ncs_map, Value.oneCell'])
end rd
end Go.Proofs.YtficnjnnhcadaaaDoor.SL

/-
  A SMALL LOGIC OVER THE KIT's WALK, PART MD: rows of bytes of our own, copy, cuts with three bounds, numbers of eight bits.
  Conditions: none; over any program.
-/
namespace Go.Proofs.YtficnjnnhcadaaaDoor.SL
set_option linter.unusedVariables false
set_option linter.unusedSimpArgs false
open Go Go.RowKit
/-- A row of bytes, whole. -/
def uca (l : List UInt8) : Array Value := (ucs l).toArray
theorem uca_size (l : List UInt8) : (uca l).size = l.length := by simp [uca, ucs_len]
theorem uca_get (l : List UInt8) (i : Nat) (hi : i < l.length) : (uca l)[i]? = some (.int .u8 ((l.getD i 0).toNat : Int)) := by
  simp [uca, ucs_map, hi, List.getD_eq_getElem?_getD]
theorem nth_uca (l : List UInt8) (i : Nat) (hi : i < l.length) : nth (uca l).toList i = some (.int .u8 ((l.getD i 0).toNat : Int)) := by
  rw [nth_eq]; simpa using uca_get l i hi
theorem uca_set (l : List UInt8) (i x : Nat) (hx : x < 256) : wrCells (uca l) i [Value.int .u8 (x : Int)] = uca (l.set i (UInt8.ofNat x)) := by
  have h : (UInt8.ofNat x).toNat = x := by rw [UInt8.toNat_ofNat']; omega
  simp [wrCells, uca, ucs_map, List.map_set, h, Nat.mod_eq_of_lt hx]
section rd
variable {P : Program} {T E : TypeId} {fr : Nat × Nat} {l : List UInt8} {i x off : Nat}
theorem rd_uca [AgI P T false] (hi : i < l.length) : Rd P T (.cells (uca l) E fr) (0 + i * 1) (.int .u8 ((l.getD i 0).toNat : Int)) :=
  Rd.one (by rw [Nat.zero_add, Nat.mul_one]; exact uca_get l i hi)
theorem rd_ucaO [AgI P T false] (hi : off + i < l.length) : Rd P T (.cells (uca l) E fr) (off + i * 1) (.int .u8 ((l.getD (off + i) 0).toNat : Int)) :=
  Rd.one (by rw [Nat.mul_one]; exact uca_get l (off + i) hi)
theorem rd_ucaW {n : Nat} {z : Value} [AgI P T true] [InfoI P T n z] (h : l.length = n) : Rd P T (.cells (uca l) E fr) 0 (.agg (uca l)) := Rd.whole (by rw [uca_size, h])
theorem wr_uca {z : Value} [InfoI P T 1 z] (hi : i < l.length) (hx : x < 256) : Wr P T (.cells (uca l) E (0, 0)) (0 + i * 1) (.int .u8 (x : Int)) (.cells (uca (l.set i (UInt8.ofNat x))) E (0, 0)) :=
  Wr.cells (n := 1) (z := z) rfl rfl (by rw [uca_size]; omega) (by rw [Nat.zero_add, Nat.mul_one]; exact uca_set l i x hx)
theorem wr_ucaW {n : Nat} {z : Value} {k : List UInt8} [InfoI P T n z] (h : k.length = n) (h2 : l.length = n) : Wr P T (.cells (uca k) E (0, 0)) 0 (.agg (uca l)) (.cells (uca l) E (0, 0)) :=
  Wr.whole (by rw [uca_size, h]) (by rw [uca_size, h2]) (by simp [uca, ucs_map, Value.oneCell'])
theorem wr_ucaO {n : Nat} {z : Value} {cs : Array Value} [InfoI P T n z] (h : cs.size = n) (h2 : l.length = n) : Wr P T (.cells cs E (0, 0)) 0 (.agg (uca l)) (.cells (uca l) E (0, 0)) :=
  Wr.whole h (by rw [uca_size, h2]) (by simp [uca, ucs_map, Value.oneCell'])
end rd
/-- A row of ours, as one that may be read. -/
theorem own_row {w : World} {g off n c : Nat} {l : List UInt8} {E : TypeId} {fr : Nat × Nat} (h : w.heap[g]? = some (.cells (uca l) E fr)) (hn : off + n ≤ l.length) (hc : n ≤ c) (hm : c ≤ maxLen) :
    RowAt w 1 (.slice (some ⟨g, off, none⟩) n c) n (ucs ((l.drop off).take n)) :=
  ⟨⟨_, _, rfl, hc, hm⟩, by rw [ucs_len, List.length_take, List.length_drop]; omega, fun _ => ⟨g, off, c, _, E, fr, rfl, h, by simp [uca, ucs_map, List.map_drop, List.map_take]⟩, fun p k d hv => by
    cases hv; exact .inr (.inr ⟨g, off, _, rfl, h⟩)⟩
section num
variable {P : Program} {e : Env} {T ty : TypeId} {x y : Operand} {m n : Nat}
theorem ofInt8 (m : Nat) (hm : m < 256) : (BitVec.ofInt 8 (m : Int)).toNat = m := by
  simp only [BitVec.ofInt_natCast, BitVec.toNat_ofNat]; omega
theorem ValP.orB (hx : e.ev x = some (.int .u8 (m : Int))) (hy : e.ev y = some (.int .u8 (n : Int))) (hm : m < 256) (hn : n < 256) : ValP P e [] (.binOp .or T x y ty) (.int .u8 ((m ||| n : Nat) : Int)) :=
  .bin hx hy (fun w => guard_int w) fun w => by
    have h : m ||| n < 256 := Nat.or_lt_two_pow (n := 8) hm hn
    have hb : bits .or .u8 (m : Int) (n : Int) = ((m ||| n : Nat) : Int) := by
      show IntKind.u8.wrap (((BitVec.ofInt 8 (m : Int) ||| BitVec.ofInt 8 (n : Int)).toNat : Nat) : Int) = _
      rw [BitVec.toNat_or, ofInt8 m hm, ofInt8 n hn, wrapB]
      omega
    rw [binOp_or, intBits_or, hb]; rfl
theorem ValP.addB (hx : e.ev x = some (.int .u8 (m : Int))) (hy : e.ev y = some (.int .u8 (n : Int))) : ValP P e [] (.binOp .add T x y ty) (.int .u8 (((m + n) % 256 : Nat) : Int)) :=
  .bin hx hy (fun w => guard_int w) fun w => by simp [binOp_add, Op.intArith, wrapB]
theorem ValP.mulB (hx : e.ev x = some (.int .u8 (m : Int))) (hy : e.ev y = some (.int .u8 (n : Int))) : ValP P e [] (.binOp .mul T x y ty) (.int .u8 (((m * n) % 256 : Nat) : Int)) :=
  .bin hx hy (fun w => guard_int w) fun w => by simp [binOp_mul, Op.intArith, wrapB]
theorem ValP.subB (hx : e.ev x = some (.int .u8 (m : Int))) (hy : e.ev y = some (.int .u8 (n : Int))) (hm : m < 256) (h : n ≤ m) : ValP P e [] (.binOp .sub T x y ty) (.int .u8 ((m - n : Nat) : Int)) :=
  .bin hx hy (fun w => guard_int w) fun w => by
    have h1 : ((m : Int) - n) % 256 = ((m - n : Nat) : Int) := by omega
    simp [binOp_sub, Op.intArith, wrapB, h1]
theorem ValP.quoB (hx : e.ev x = some (.int .u8 (m : Int))) (hy : e.ev y = some (.int .u8 (n : Int))) (hm : m < 256) (h : 0 < n) : ValP P e [] (.binOp .quo T x y ty) (.int .u8 ((m / n : Nat) : Int)) :=
  .bin hx hy (fun w => guard_int w) fun w => by
    have h0 : (n : Int) ≠ 0 := by omega
    have h1 : (m : Int).tdiv n = ((m / n : Nat) : Int) := by rw [tdiv_nonneg _ _ (by omega)]; simp
    have h3 : m / n ≤ m := Nat.div_le_self _ _
    have h4 : n ≠ 0 := by omega
    have h2 : IntKind.u8.wrap ((m / n : Nat) : Int) = ((m / n : Nat) : Int) := by
      rw [wrapB]
      generalize m / n = q at h3 ⊢
      omega
    simp only [binOp_quo, Op.intDiv, h1, h2]
    simp [h4]
theorem ValP.remB (hx : e.ev x = some (.int .u8 (m : Int))) (hy : e.ev y = some (.int .u8 (n : Int))) (h : 0 < n) : ValP P e [] (.binOp .rem T x y ty) (.int .u8 ((m % n : Nat) : Int)) :=
  .bin hx hy (fun w => guard_int w) fun w => by
    have h0 : n ≠ 0 := by omega
    simp [binOp_rem, Op.intDiv, h0, Int.tmod_eq_emod_of_nonneg (show (0 : Int) ≤ m by omega)]
theorem ValP.orBL (hx : e.ev x = some (.int .u8 (m : Int))) (hy : e.ev y = some (.int .u8 (OfNat.ofNat n))) (_ : n = n) (h0 : m < 256) (h1 : (OfNat.ofNat n : Nat) < 256) : ValP P e [] (.binOp .or T x y ty) (.int .u8 ((m ||| (OfNat.ofNat n : Nat) : Nat) : Int)) := .orB hx hy h0 h1
theorem ValP.quoBL (hx : e.ev x = some (.int .u8 (m : Int))) (hy : e.ev y = some (.int .u8 (OfNat.ofNat n))) (_ : n = n) (h0 : m < 256) (h1 : 0 < (OfNat.ofNat n : Nat)) : ValP P e [] (.binOp .quo T x y ty) (.int .u8 ((m / (OfNat.ofNat n : Nat) : Nat) : Int)) := .quoB hx hy h0 h1
theorem ValP.remBL (hx : e.ev x = some (.int .u8 (m : Int))) (hy : e.ev y = some (.int .u8 (OfNat.ofNat n))) (_ : n = n) (h1 : 0 < (OfNat.ofNat n : Nat)) : ValP P e [] (.binOp .rem T x y ty) (.int .u8 ((m % (OfNat.ofNat n : Nat) : Nat) : Int)) := .remB hx hy h1
theorem ValP.subBL (hx : e.ev x = some (.int .u8 (m : Int))) (hy : e.ev y = some (.int .u8 (OfNat.ofNat n))) (_ : n = n) (h0 : m < 256) (h1 : (OfNat.ofNat n : Nat) ≤ m) : ValP P e [] (.binOp .sub T x y ty) (.int .u8 ((m - (OfNat.ofNat n : Nat) : Nat) : Int)) := .subB hx hy h0 h1
theorem ValP.addBL (hx : e.ev x = some (.int .u8 (m : Int))) (hy : e.ev y = some (.int .u8 (OfNat.ofNat n))) (_ : n = n) : ValP P e [] (.binOp .add T x y ty) (.int .u8 (((m + (OfNat.ofNat n : Nat)) % 256 : Nat) : Int)) := .addB hx hy
theorem ValP.mulBK (hx : e.ev x = some (.int .u8 (OfNat.ofNat m))) (hy : e.ev y = some (.int .u8 (n : Int))) (_ : m = m) : ValP P e [] (.binOp .mul T x y ty) (.int .u8 ((((OfNat.ofNat m : Nat) * n) % 256 : Nat) : Int)) := .mulB hx hy
/-- x[i:j:k] -/
theorem ValP.cut3 {ik il im : IntKind} {E i j k c sz : Nat} {z : Value} {p : Option Addr} {lo hi mx : Operand} (hU : UnI P T (.slice E)) (hI : InfoI P E sz z) (hx : e.ev x = some (.slice p n c)) (hl : e.ev lo = some (.int il (i : Int))) (hh : e.ev hi = some (.int ik (j : Int))) (hm : e.ev mx = some (.int im (k : Int))) (h1 : i ≤ j) (h2 : j ≤ k) (h3 : k ≤ c) (h4 : i < k) :
    ValP P e [] (.slice T x (some lo) (some hi) (some mx)) (.slice (p.map (·.add (i * sz))) (j - i) (k - i)) := fun ρ w hρ _ d t pos af g => by
  have hu : P.underlying T = some (.slice E) := hU.un
  have h1 := run_slice_lhm (P := P) w T p n c (elem_un hu) il ik im (i : Int) (j : Int) (k : Int) (by omega) (by omega) (by omega) (by omega)
  rw [elem_eq hu, run_size] at h1
  have h2 : (Instr.sliceAt T (.slice p n c) (some (.int il (i : Int))) (some (.int ik (j : Int))) (some (.int im (k : Int)))).run P w = .ok (.slice (p.map (·.add (i * sz))) (j - i) (k - i)) w := by
    rw [run_sliceAt_slice (w := w) T _ _ _ _ (elem_un hu), h1]
    simp only [Result.andThen_ok, sliced, Int.toNat_natCast]
    rw [if_neg (by omega)]
  simp [execOp, hρ x _ hx, hρ lo _ hl, hρ hi _ hh, hρ mx _ hm, h2]
end num
theorem put_same {w : World} {g : Nat} {o : Obj} (h : w.heap[g]? = some o) : w.putObj g o = w := by
  obtain ⟨hlt, rfl⟩ := Array.getElem?_eq_some_iff.1 h
  simp [World.putObj, Array.setIfInBounds, hlt]
theorem setRow_put {w : World} {g : Nat} {cs cur : Array Value} {E : TypeId} (h : w.heap[g]? = some (.cells cur E (0, 0))) : w.setRow g cs = w.putObj g (.cells cs E (0, 0)) := by
  unfold World.setRow World.putObj
  have hlt := (Array.getElem?_eq_some_iff.1 h).1
  congr 1
  apply Array.ext_getElem?
  intro i
  by_cases hi : g = i
  · subst hi; rw [Array.getElem?_modify, if_pos rfl, h]; simp [hlt]
  · simp [Array.getElem?_modify, hi]
theorem NewP.make0 {P : Program} {e : Env} {T E sz bytes : Nat} {z : Value} {x y : Operand} {ik il : IntKind} {c : Nat} (hU : UnI P T (.slice E)) (hI : InfoI P E sz z) (hB : BytI P E bytes) (hx : e.ev x = some (.int ik 0)) (hy : e.ev y = some (.int il (c : Int))) (hb : c * bytes ≤ 281474976710656) (h63 : c ≤ 9223372036854775807) :
    NewP P e (.makeSlice T x y) (.sl 0 c) (.cells (madeCells z.cells (c * sz)) E (0, 0)) := fun ρ w hρ d t pos af g => by
  obtain ⟨i, i1, i2, i3, i4⟩ := info_all (P := P) (T := E)
  have hbb : (c : Int) * (bytes : Int) ≤ 281474976710656 := by
    rw [← Int.natCast_mul]
    omega
  have hr := run_make (P := P) w T E i z hU.un i1 i3 ik il 0 (c : Int) (by omega) (by omega) (by rw [i4, Int.mul_comm]; exact hbb) (by omega)
  simp only [Int.toNat_natCast, i2] at hr
  simp [execOp, hρ x _ hx, hρ y _ hy, hr, Sh.val]
theorem NewP.lay2 {P : Program} {e : Env} {T E : Nat} {x y : Operand} {a b : Int} (hU : UnI P T (.slice E)) (hI : InfoI P E 1 (.int .u8 0)) (hx : e.ev x = some (.int .u8 a)) (hy : e.ev y = some (.int .u8 b)) : NewP P e (.buildSlice T 2 #[(0, x), (1, y)]) (.sl 2 2) (.cells #[.int .u8 a, .int .u8 b] E (0, 0)) :=
  NewP.buildSN (vs := [(0, .int .u8 a), (1, .int .u8 b)]) hU hI (.cons hx (.cons hy .nil)) rfl rfl (by kernel_rfl) (by kernel_rfl)
section dw
variable {C : Cu} {ops : Array Oper} {Q : Post} {tl rest : List Oper} {e : Env} {ts : Ts} {μ : Mu} {k d : Nat} {op : Op} {t : TypeId} {pos : String} {af : Array Edge} {g : Option (Nat × Bool)}
theorem DW.lay2 {T E : TypeId} {x y : Operand} {a b : Int} (hk : ops[k]? = some ⟨some d, .buildSlice T 2 #[(0, x), (1, y)], t, pos, af, g⟩) (hm : μ k = none) (hd : Nat.blt d C.N = true) (hg : WantT ops e g) (hU : UnI C.P T (.slice E)) (hI : InfoI C.P E 1 (.int .u8 0)) (hx : e.ev x = some (.int .u8 a)) (hy : e.ev y = some (.int .u8 b))
    (kk : ∀ b', DW C ops μ Q tl rest (k + 1) ((d, .slice (some ⟨b', 0, none⟩) 2 2) :: e) ((b', .cells #[.int .u8 a, .int .u8 b] E (0, 0), [k], []) :: ts)) : DW C ops μ Q tl (⟨some d, .buildSlice T 2 #[(0, x), (1, y)], t, pos, af, g⟩ :: rest) k e ts :=
  DW.new hk hm hd hg rfl (NewP.lay2 hU hI hx hy) kk
end dw
section lw
variable {C : Cu} {ops : Array Oper} {Q : Post} {rest : List Oper} {e : Env} {fs : Fs} {d : Nat} {t : TypeId} {pos : String} {af : Array Edge}
/-- **make** of n elements of one cell each: a row of ours, told. -/
theorem LW.makeOwn {T E bytes : Nat} {z : Value} {x : Operand} {ik : IntKind} {n : Nat} (hd : Nat.blt d C.N = true) (hU : UnI C.P T (.slice E)) (hI : InfoI C.P E 1 z) (hB : BytI C.P E bytes) (hz : z.cells = #[z]) (hx : e.ev x = some (.int ik (n : Int))) (hb : n * bytes ≤ 281474976710656) (h63 : n ≤ maxLen)
    (k : ∀ g, LW C ops Q rest ((d, .slice (some ⟨g, 0, none⟩) n n) :: e) ((g, .cells (List.replicate n z).toArray E (0, 0)) :: fs)) : LW C ops Q (⟨some d, .makeSlice T x x, t, pos, af, none⟩ :: rest) e fs :=
  LW.n0 hd rfl (.makeSlice hU hI hB hx hb (by simpa [maxLen] using h63)) fun g => by
    have h : madeCells z.cells (n * 1) = (List.replicate n z).toArray := by rw [← made_one hz]
    rw [h]; exact k g
/-- **copy(x, y)**: x a row of ours, y a row that may be read, not longer. -/
theorem LW.copyAt {x y : Operand} {tys : Array TypeId} {T E bytes : TypeId} {z vx : Value} {g off dLen dCap m : Nat} {cur : Array Value} {E' : TypeId} {news : List Value} {fs' : Fs} (hd : Nat.blt d C.N = true) (hT : tys = #[T, T]) (hU : UnI C.P T (.slice E)) (hI : InfoI C.P E 1 z) (hB : BytI C.P E bytes)
    (hx : e.ev x = some (.slice (some ⟨g, off, none⟩) dLen dCap)) (hy : e.ev y = some vx) (hat : ∀ w, St C.w0 C.S fs w → RowAt w 1 vx m news) (h1 : ∀ u ∈ news, u.oneCell' = true) (hm : m ≤ dLen) (hfit : off + m ≤ cur.size)
    (hset : SetAt fs g (.cells cur E' (0, 0)) (.cells (cur.toList.take off ++ news ++ cur.toList.drop (off + m)).toArray E' (0, 0)) fs')
    (k : LW C ops Q rest ((d, .int .i64 (m : Int)) :: e) fs') :
    LW C ops Q (⟨some d, .call { callee := .builtin .copy, args := #[x, y], argTypes := tys }, t, pos, af, none⟩ :: rest) e fs := by
  subst hT
  refine LW.valset hd (fun c h => by cases h) hset (fun a w hs hg => ?_) k
  have hA := hat w hs.st
  have hl : news.length = m := by have := hA.len; omega
  have hsz : (C.P.info? E).map (·.size) = some 1 := by
    obtain ⟨i, i1, i2, i3, i4⟩ := info_all (P := C.P) (T := E); rw [i1]; simp [i2]
  rcases Nat.eq_zero_or_pos m with h0 | h0
  · subst h0
    obtain ⟨p, c, rfl, _, _⟩ := hA.form
    have hn : news = [] := List.length_eq_zero_iff.1 (by omega)
    have hrun := run_copy_none (P := C.P) w T T t E (some ⟨g, off, none⟩) p dLen dCap 0 c hU.un hsz (Nat.zero_min _)
    have e1 : (Obj.cells (cur.toList.take off ++ news ++ cur.toList.drop (off + 0)).toArray E' (0, 0)) = .cells cur E' (0, 0) := by rw [hn]; simp
    rw [e1]
    have hput : w.putObj g (.cells cur E' (0, 0)) = w := put_same hg
    rw [hput]
    simp [execOp, resolve, invoke, builtin, hs.env.ev hx, hs.env.ev hy, hrun, goInt]
  · obtain ⟨b, o2, c, cs, E2, fr, rfl, hblk, hnx⟩ := hA.pos h0
    have hrun := run_copy_row (P := C.P) w T T t E g off dLen dCap ⟨b, o2, none⟩ m c cur E' news hU.un hsz hg (by rw [hl]; exact (Nat.min_eq_left hm).symm) (fun j u hj => by
      rw [addr_add, cell_of hblk]; exact cut_get hnx hj) (by rw [hl]; exact hfit) h1
    rw [hl] at hrun
    have hput : w.setRow g (cur.toList.take off ++ news ++ cur.toList.drop (off + m)).toArray = w.putObj g (.cells (cur.toList.take off ++ news ++ cur.toList.drop (off + m)).toArray E' (0, 0)) := setRow_put hg
    rw [hput] at hrun
    simp [execOp, resolve, invoke, builtin, hs.env.ev hx, hs.env.ev hy, hrun, goInt]
end lw
end Go.Proofs.YtficnjnnhcadaaaDoor.SL

/-
  What is known of this seat's types and functions, as instances: made by program (wip/gen_inst.py) off the translation; each is proved by the kernel's reckoning.
  Conditions: none.
-/
namespace Go.Proofs.YtficnjnnhcadaaaDoor
open Go Go.RowKit SL

instance : AgI Tryd.prog 1 false := ⟨by kernel_rfl⟩
instance : InfoI Tryd.prog 1 1 (.nilFunc) := ⟨by kernel_rfl⟩
instance : BytI Tryd.prog 1 8 := ⟨by kernel_rfl⟩
instance : AgI Tryd.prog 2 false := ⟨by kernel_rfl⟩
instance : UnI Tryd.prog 2 (.int .i64) := ⟨by kernel_rfl⟩
instance : InfoI Tryd.prog 2 1 (.int .i64 0) := ⟨by kernel_rfl⟩
instance : BytI Tryd.prog 2 8 := ⟨by kernel_rfl⟩
instance : AgI Tryd.prog 3 false := ⟨by kernel_rfl⟩
instance : UnI Tryd.prog 3 (.int .i64) := ⟨by kernel_rfl⟩
instance : InfoI Tryd.prog 3 1 (.int .i64 0) := ⟨by kernel_rfl⟩
instance : BytI Tryd.prog 3 8 := ⟨by kernel_rfl⟩
instance : AgI Tryd.prog 4 false := ⟨by kernel_rfl⟩
instance : UnI Tryd.prog 4 (.bool) := ⟨by kernel_rfl⟩
instance : InfoI Tryd.prog 4 1 (.bool false) := ⟨by kernel_rfl⟩
instance : BytI Tryd.prog 4 1 := ⟨by kernel_rfl⟩
instance : AgI Tryd.prog 5 false := ⟨by kernel_rfl⟩
instance : UnI Tryd.prog 5 (.int .u8) := ⟨by kernel_rfl⟩
instance : InfoI Tryd.prog 5 1 (.int .u8 0) := ⟨by kernel_rfl⟩
instance : BytI Tryd.prog 5 1 := ⟨by kernel_rfl⟩
instance : AgI Tryd.prog 6 false := ⟨by kernel_rfl⟩
instance : UnI Tryd.prog 6 (.int .u8) := ⟨by kernel_rfl⟩
instance : InfoI Tryd.prog 6 1 (.int .u8 0) := ⟨by kernel_rfl⟩
instance : BytI Tryd.prog 6 1 := ⟨by kernel_rfl⟩
instance : AgI Tryd.prog 7 true := ⟨by kernel_rfl⟩
instance : InfoI Tryd.prog 7 4 (.agg #[.int .i64 0, .int .i64 0, .bool false, .int .u8 0]) := ⟨by kernel_rfl⟩
instance : BytI Tryd.prog 7 24 := ⟨by kernel_rfl⟩
instance : StrI Tryd.prog 7 [(0, 1), (1, 1), (2, 1), (3, 1)] := ⟨by kernel_rfl⟩
instance : FldI Tryd.prog 7 0 0 2 := .mk' (by kernel_rfl)
instance : FldI Tryd.prog 7 1 1 3 := .mk' (by kernel_rfl)
instance : FldI Tryd.prog 7 2 2 4 := .mk' (by kernel_rfl)
instance : FldI Tryd.prog 7 3 3 6 := .mk' (by kernel_rfl)
instance : AgI Tryd.prog 8 true := ⟨by kernel_rfl⟩
instance : InfoI Tryd.prog 8 4 (.agg #[.int .i64 0, .int .i64 0, .bool false, .int .u8 0]) := ⟨by kernel_rfl⟩
instance : BytI Tryd.prog 8 24 := ⟨by kernel_rfl⟩
instance : StrI Tryd.prog 8 [(0, 1), (1, 1), (2, 1), (3, 1)] := ⟨by kernel_rfl⟩
instance : FldI Tryd.prog 8 0 0 2 := .mk' (by kernel_rfl)
instance : FldI Tryd.prog 8 1 1 3 := .mk' (by kernel_rfl)
instance : FldI Tryd.prog 8 2 2 4 := .mk' (by kernel_rfl)
instance : FldI Tryd.prog 8 3 3 6 := .mk' (by kernel_rfl)
instance : AgI Tryd.prog 9 false := ⟨by kernel_rfl⟩
instance : UnI Tryd.prog 9 (.string) := ⟨by kernel_rfl⟩
instance : InfoI Tryd.prog 9 1 (.string ⟨#[]⟩) := ⟨by kernel_rfl⟩
instance : BytI Tryd.prog 9 16 := ⟨by kernel_rfl⟩
instance : AgI Tryd.prog 10 false := ⟨by kernel_rfl⟩
instance : UnI Tryd.prog 10 (.string) := ⟨by kernel_rfl⟩
instance : InfoI Tryd.prog 10 1 (.string ⟨#[]⟩) := ⟨by kernel_rfl⟩
instance : BytI Tryd.prog 10 16 := ⟨by kernel_rfl⟩
instance : AgI Tryd.prog 11 false := ⟨by kernel_rfl⟩
instance : UnI Tryd.prog 11 (.string) := ⟨by kernel_rfl⟩
instance : InfoI Tryd.prog 11 1 (.string ⟨#[]⟩) := ⟨by kernel_rfl⟩
instance : BytI Tryd.prog 11 16 := ⟨by kernel_rfl⟩
instance : AgI Tryd.prog 12 false := ⟨by kernel_rfl⟩
instance : UnI Tryd.prog 12 (.int .u64) := ⟨by kernel_rfl⟩
instance : InfoI Tryd.prog 12 1 (.int .u64 0) := ⟨by kernel_rfl⟩
instance : BytI Tryd.prog 12 8 := ⟨by kernel_rfl⟩
instance : AgI Tryd.prog 13 true := ⟨by kernel_rfl⟩
instance : InfoI Tryd.prog 13 2 (.agg #[.string ⟨#[]⟩, .int .u64 0]) := ⟨by kernel_rfl⟩
instance : BytI Tryd.prog 13 24 := ⟨by kernel_rfl⟩
instance : StrI Tryd.prog 13 [(0, 1), (1, 1)] := ⟨by kernel_rfl⟩
instance : FldI Tryd.prog 13 0 0 9 := .mk' (by kernel_rfl)
instance : FldI Tryd.prog 13 1 1 12 := .mk' (by kernel_rfl)
instance : AgI Tryd.prog 14 true := ⟨by kernel_rfl⟩
instance : InfoI Tryd.prog 14 2 (.agg #[.string ⟨#[]⟩, .int .u64 0]) := ⟨by kernel_rfl⟩
instance : BytI Tryd.prog 14 24 := ⟨by kernel_rfl⟩
instance : StrI Tryd.prog 14 [(0, 1), (1, 1)] := ⟨by kernel_rfl⟩
instance : FldI Tryd.prog 14 0 0 9 := .mk' (by kernel_rfl)
instance : FldI Tryd.prog 14 1 1 12 := .mk' (by kernel_rfl)
instance : AgI Tryd.prog 15 false := ⟨by kernel_rfl⟩
instance : UnI Tryd.prog 15 (.pointer 80) := ⟨by kernel_rfl⟩
instance : InfoI Tryd.prog 15 1 (.pointer none) := ⟨by kernel_rfl⟩
instance : BytI Tryd.prog 15 8 := ⟨by kernel_rfl⟩
instance : AgI Tryd.prog 16 false := ⟨by kernel_rfl⟩
instance : UnI Tryd.prog 16 (.pointer 83) := ⟨by kernel_rfl⟩
instance : InfoI Tryd.prog 16 1 (.pointer none) := ⟨by kernel_rfl⟩
instance : BytI Tryd.prog 16 8 := ⟨by kernel_rfl⟩
instance : AgI Tryd.prog 17 false := ⟨by kernel_rfl⟩
instance : UnI Tryd.prog 17 (.pointer 92) := ⟨by kernel_rfl⟩
instance : InfoI Tryd.prog 17 1 (.pointer none) := ⟨by kernel_rfl⟩
instance : BytI Tryd.prog 17 8 := ⟨by kernel_rfl⟩
instance : AgI Tryd.prog 18 true := ⟨by kernel_rfl⟩
instance : InfoI Tryd.prog 18 1 (.agg #[.pointer none]) := ⟨by kernel_rfl⟩
instance : BytI Tryd.prog 18 8 := ⟨by kernel_rfl⟩
instance : StrI Tryd.prog 18 [(0, 1)] := ⟨by kernel_rfl⟩
instance : FldI Tryd.prog 18 0 0 17 := .mk' (by kernel_rfl)
instance : AgI Tryd.prog 19 true := ⟨by kernel_rfl⟩
instance : InfoI Tryd.prog 19 1 (.agg #[.pointer none]) := ⟨by kernel_rfl⟩
instance : BytI Tryd.prog 19 8 := ⟨by kernel_rfl⟩
instance : StrI Tryd.prog 19 [(0, 1)] := ⟨by kernel_rfl⟩
instance : FldI Tryd.prog 19 0 0 17 := .mk' (by kernel_rfl)
instance : AgI Tryd.prog 20 false := ⟨by kernel_rfl⟩
instance : InfoI Tryd.prog 20 1 (.nilIface) := ⟨by kernel_rfl⟩
instance : BytI Tryd.prog 20 16 := ⟨by kernel_rfl⟩
instance : AgI Tryd.prog 21 false := ⟨by kernel_rfl⟩
instance : UnI Tryd.prog 21 (.int .i32) := ⟨by kernel_rfl⟩
instance : InfoI Tryd.prog 21 1 (.int .i32 0) := ⟨by kernel_rfl⟩
instance : BytI Tryd.prog 21 4 := ⟨by kernel_rfl⟩
instance : AgI Tryd.prog 22 false := ⟨by kernel_rfl⟩
instance : UnI Tryd.prog 22 (.slice 24) := ⟨by kernel_rfl⟩
instance : InfoI Tryd.prog 22 1 (.slice none 0 0) := ⟨by kernel_rfl⟩
instance : BytI Tryd.prog 22 24 := ⟨by kernel_rfl⟩
instance : AgI Tryd.prog 23 false := ⟨by kernel_rfl⟩
instance : InfoI Tryd.prog 23 1 (.nilFunc) := ⟨by kernel_rfl⟩
instance : BytI Tryd.prog 23 8 := ⟨by kernel_rfl⟩
instance : AgI Tryd.prog 24 false := ⟨by kernel_rfl⟩
instance : UnI Tryd.prog 24 (.slice 5) := ⟨by kernel_rfl⟩
instance : InfoI Tryd.prog 24 1 (.slice none 0 0) := ⟨by kernel_rfl⟩
instance : BytI Tryd.prog 24 24 := ⟨by kernel_rfl⟩
instance : AgI Tryd.prog 25 false := ⟨by kernel_rfl⟩
instance : InfoI Tryd.prog 25 1 (.nilFunc) := ⟨by kernel_rfl⟩
instance : BytI Tryd.prog 25 8 := ⟨by kernel_rfl⟩
instance : AgI Tryd.prog 26 true := ⟨by kernel_rfl⟩
instance : UnI Tryd.prog 26 (.array 32 5) := ⟨by kernel_rfl⟩
instance : InfoI Tryd.prog 26 32 (.agg #[.int .u8 0, .int .u8 0, .int .u8 0, .int .u8 0, .int .u8 0, .int .u8 0, .int .u8 0, .int .u8 0, .int .u8 0, .int .u8 0, .int .u8 0, .int .u8 0, .int .u8 0, .int .u8 0, .int .u8 0, .int .u8 0, .int .u8 0, .int .u8 0, .int .u8 0, .int .u8 0, .int .u8 0, .int .u8 0, .int .u8 0, .int .u8 0, .int .u8 0, .int .u8 0, .int .u8 0, .int .u8 0, .int .u8 0, .int .u8 0, .int .u8 0, .int .u8 0]) := ⟨by kernel_rfl⟩
instance : BytI Tryd.prog 26 32 := ⟨by kernel_rfl⟩
instance : EqI Tryd.prog 26 32 .u8 := .mk' (by kernel_rfl)
instance : AgI Tryd.prog 27 true := ⟨by kernel_rfl⟩
instance : UnI Tryd.prog 27 (.array 32 5) := ⟨by kernel_rfl⟩
instance : InfoI Tryd.prog 27 32 (.agg #[.int .u8 0, .int .u8 0, .int .u8 0, .int .u8 0, .int .u8 0, .int .u8 0, .int .u8 0, .int .u8 0, .int .u8 0, .int .u8 0, .int .u8 0, .int .u8 0, .int .u8 0, .int .u8 0, .int .u8 0, .int .u8 0, .int .u8 0, .int .u8 0, .int .u8 0, .int .u8 0, .int .u8 0, .int .u8 0, .int .u8 0, .int .u8 0, .int .u8 0, .int .u8 0, .int .u8 0, .int .u8 0, .int .u8 0, .int .u8 0, .int .u8 0, .int .u8 0]) := ⟨by kernel_rfl⟩
instance : BytI Tryd.prog 27 32 := ⟨by kernel_rfl⟩
instance : EqI Tryd.prog 27 32 .u8 := .mk' (by kernel_rfl)
instance : AgI Tryd.prog 28 false := ⟨by kernel_rfl⟩
instance : InfoI Tryd.prog 28 1 (.nilFunc) := ⟨by kernel_rfl⟩
instance : BytI Tryd.prog 28 8 := ⟨by kernel_rfl⟩
instance : AgI Tryd.prog 29 false := ⟨by kernel_rfl⟩
instance : InfoI Tryd.prog 29 1 (.nilFunc) := ⟨by kernel_rfl⟩
instance : BytI Tryd.prog 29 8 := ⟨by kernel_rfl⟩
instance : AgI Tryd.prog 30 false := ⟨by kernel_rfl⟩
instance : InfoI Tryd.prog 30 1 (.nilFunc) := ⟨by kernel_rfl⟩
instance : BytI Tryd.prog 30 8 := ⟨by kernel_rfl⟩
instance : AgI Tryd.prog 31 false := ⟨by kernel_rfl⟩
instance : UnI Tryd.prog 31 (.int .u64) := ⟨by kernel_rfl⟩
instance : InfoI Tryd.prog 31 1 (.int .u64 0) := ⟨by kernel_rfl⟩
instance : BytI Tryd.prog 31 8 := ⟨by kernel_rfl⟩
instance : AgI Tryd.prog 32 true := ⟨by kernel_rfl⟩
instance : UnI Tryd.prog 32 (.array 25 31) := ⟨by kernel_rfl⟩
instance : InfoI Tryd.prog 32 25 (.agg #[.int .u64 0, .int .u64 0, .int .u64 0, .int .u64 0, .int .u64 0, .int .u64 0, .int .u64 0, .int .u64 0, .int .u64 0, .int .u64 0, .int .u64 0, .int .u64 0, .int .u64 0, .int .u64 0, .int .u64 0, .int .u64 0, .int .u64 0, .int .u64 0, .int .u64 0, .int .u64 0, .int .u64 0, .int .u64 0, .int .u64 0, .int .u64 0, .int .u64 0]) := ⟨by kernel_rfl⟩
instance : BytI Tryd.prog 32 200 := ⟨by kernel_rfl⟩
instance : EqI Tryd.prog 32 25 .u64 := .mk' (by kernel_rfl)
instance : AgI Tryd.prog 33 true := ⟨by kernel_rfl⟩
instance : UnI Tryd.prog 33 (.array 25 31) := ⟨by kernel_rfl⟩
instance : InfoI Tryd.prog 33 25 (.agg #[.int .u64 0, .int .u64 0, .int .u64 0, .int .u64 0, .int .u64 0, .int .u64 0, .int .u64 0, .int .u64 0, .int .u64 0, .int .u64 0, .int .u64 0, .int .u64 0, .int .u64 0, .int .u64 0, .int .u64 0, .int .u64 0, .int .u64 0, .int .u64 0, .int .u64 0, .int .u64 0, .int .u64 0, .int .u64 0, .int .u64 0, .int .u64 0, .int .u64 0]) := ⟨by kernel_rfl⟩
instance : BytI Tryd.prog 33 200 := ⟨by kernel_rfl⟩
instance : EqI Tryd.prog 33 25 .u64 := .mk' (by kernel_rfl)
instance : AgI Tryd.prog 34 false := ⟨by kernel_rfl⟩
instance : InfoI Tryd.prog 34 1 (.nilFunc) := ⟨by kernel_rfl⟩
instance : BytI Tryd.prog 34 8 := ⟨by kernel_rfl⟩
instance : AgI Tryd.prog 35 false := ⟨by kernel_rfl⟩
instance : InfoI Tryd.prog 35 1 (.nilFunc) := ⟨by kernel_rfl⟩
instance : BytI Tryd.prog 35 8 := ⟨by kernel_rfl⟩
instance : AgI Tryd.prog 36 false := ⟨by kernel_rfl⟩
instance : InfoI Tryd.prog 36 1 (.nilFunc) := ⟨by kernel_rfl⟩
instance : BytI Tryd.prog 36 8 := ⟨by kernel_rfl⟩
instance : AgI Tryd.prog 37 false := ⟨by kernel_rfl⟩
instance : InfoI Tryd.prog 37 1 (.nilFunc) := ⟨by kernel_rfl⟩
instance : BytI Tryd.prog 37 8 := ⟨by kernel_rfl⟩
instance : AgI Tryd.prog 38 false := ⟨by kernel_rfl⟩
instance : UnI Tryd.prog 38 (.int .i64) := ⟨by kernel_rfl⟩
instance : InfoI Tryd.prog 38 1 (.int .i64 0) := ⟨by kernel_rfl⟩
instance : BytI Tryd.prog 38 8 := ⟨by kernel_rfl⟩
instance : AgI Tryd.prog 40 false := ⟨by kernel_rfl⟩
instance : InfoI Tryd.prog 40 1 (.nilFunc) := ⟨by kernel_rfl⟩
instance : BytI Tryd.prog 40 8 := ⟨by kernel_rfl⟩
instance : AgI Tryd.prog 41 false := ⟨by kernel_rfl⟩
instance : InfoI Tryd.prog 41 1 (.nilFunc) := ⟨by kernel_rfl⟩
instance : BytI Tryd.prog 41 8 := ⟨by kernel_rfl⟩
instance : AgI Tryd.prog 42 false := ⟨by kernel_rfl⟩
instance : InfoI Tryd.prog 42 1 (.nilFunc) := ⟨by kernel_rfl⟩
instance : BytI Tryd.prog 42 8 := ⟨by kernel_rfl⟩
instance : AgI Tryd.prog 43 false := ⟨by kernel_rfl⟩
instance : UnI Tryd.prog 43 (.slice 27) := ⟨by kernel_rfl⟩
instance : InfoI Tryd.prog 43 1 (.slice none 0 0) := ⟨by kernel_rfl⟩
instance : BytI Tryd.prog 43 24 := ⟨by kernel_rfl⟩
instance : AgI Tryd.prog 44 false := ⟨by kernel_rfl⟩
instance : UnI Tryd.prog 44 (.slice 9) := ⟨by kernel_rfl⟩
instance : InfoI Tryd.prog 44 1 (.slice none 0 0) := ⟨by kernel_rfl⟩
instance : BytI Tryd.prog 44 24 := ⟨by kernel_rfl⟩
instance : AgI Tryd.prog 45 false := ⟨by kernel_rfl⟩
instance : InfoI Tryd.prog 45 1 (.nilFunc) := ⟨by kernel_rfl⟩
instance : BytI Tryd.prog 45 8 := ⟨by kernel_rfl⟩
instance : AgI Tryd.prog 46 false := ⟨by kernel_rfl⟩
instance : InfoI Tryd.prog 46 1 (.nilFunc) := ⟨by kernel_rfl⟩
instance : BytI Tryd.prog 46 8 := ⟨by kernel_rfl⟩
instance : AgI Tryd.prog 48 false := ⟨by kernel_rfl⟩
instance : InfoI Tryd.prog 48 1 (.nilFunc) := ⟨by kernel_rfl⟩
instance : BytI Tryd.prog 48 8 := ⟨by kernel_rfl⟩
instance : AgI Tryd.prog 50 false := ⟨by kernel_rfl⟩
instance : InfoI Tryd.prog 50 1 (.nilFunc) := ⟨by kernel_rfl⟩
instance : BytI Tryd.prog 50 8 := ⟨by kernel_rfl⟩
instance : AgI Tryd.prog 51 false := ⟨by kernel_rfl⟩
instance : InfoI Tryd.prog 51 1 (.nilFunc) := ⟨by kernel_rfl⟩
instance : BytI Tryd.prog 51 8 := ⟨by kernel_rfl⟩
instance : AgI Tryd.prog 52 false := ⟨by kernel_rfl⟩
instance : InfoI Tryd.prog 52 1 (.nilFunc) := ⟨by kernel_rfl⟩
instance : BytI Tryd.prog 52 8 := ⟨by kernel_rfl⟩
instance : AgI Tryd.prog 53 false := ⟨by kernel_rfl⟩
instance : InfoI Tryd.prog 53 1 (.nilFunc) := ⟨by kernel_rfl⟩
instance : BytI Tryd.prog 53 8 := ⟨by kernel_rfl⟩
instance : AgI Tryd.prog 54 true := ⟨by kernel_rfl⟩
instance : UnI Tryd.prog 54 (.array 24 31) := ⟨by kernel_rfl⟩
instance : InfoI Tryd.prog 54 24 (.agg #[.int .u64 0, .int .u64 0, .int .u64 0, .int .u64 0, .int .u64 0, .int .u64 0, .int .u64 0, .int .u64 0, .int .u64 0, .int .u64 0, .int .u64 0, .int .u64 0, .int .u64 0, .int .u64 0, .int .u64 0, .int .u64 0, .int .u64 0, .int .u64 0, .int .u64 0, .int .u64 0, .int .u64 0, .int .u64 0, .int .u64 0, .int .u64 0]) := ⟨by kernel_rfl⟩
instance : BytI Tryd.prog 54 192 := ⟨by kernel_rfl⟩
instance : EqI Tryd.prog 54 24 .u64 := .mk' (by kernel_rfl)
instance : AgI Tryd.prog 55 false := ⟨by kernel_rfl⟩
instance : UnI Tryd.prog 55 (.pointer 57) := ⟨by kernel_rfl⟩
instance : InfoI Tryd.prog 55 1 (.pointer none) := ⟨by kernel_rfl⟩
instance : BytI Tryd.prog 55 8 := ⟨by kernel_rfl⟩
instance : AgI Tryd.prog 56 true := ⟨by kernel_rfl⟩
instance : InfoI Tryd.prog 56 2 (.agg #[.pointer none, .slice none 0 0]) := ⟨by kernel_rfl⟩
instance : BytI Tryd.prog 56 32 := ⟨by kernel_rfl⟩
instance : StrI Tryd.prog 56 [(0, 1), (1, 1)] := ⟨by kernel_rfl⟩
instance : FldI Tryd.prog 56 0 0 55 := .mk' (by kernel_rfl)
instance : FldI Tryd.prog 56 1 1 24 := .mk' (by kernel_rfl)
instance : AgI Tryd.prog 57 true := ⟨by kernel_rfl⟩
instance : InfoI Tryd.prog 57 2 (.agg #[.pointer none, .slice none 0 0]) := ⟨by kernel_rfl⟩
instance : BytI Tryd.prog 57 32 := ⟨by kernel_rfl⟩
instance : StrI Tryd.prog 57 [(0, 1), (1, 1)] := ⟨by kernel_rfl⟩
instance : FldI Tryd.prog 57 0 0 55 := .mk' (by kernel_rfl)
instance : FldI Tryd.prog 57 1 1 24 := .mk' (by kernel_rfl)
instance : AgI Tryd.prog 58 false := ⟨by kernel_rfl⟩
instance : InfoI Tryd.prog 58 1 (.nilIface) := ⟨by kernel_rfl⟩
instance : BytI Tryd.prog 58 16 := ⟨by kernel_rfl⟩
instance : AgI Tryd.prog 59 false := ⟨by kernel_rfl⟩
instance : InfoI Tryd.prog 59 1 (.nilIface) := ⟨by kernel_rfl⟩
instance : BytI Tryd.prog 59 16 := ⟨by kernel_rfl⟩
instance : AgI Tryd.prog 60 false := ⟨by kernel_rfl⟩
instance : InfoI Tryd.prog 60 1 (.nilFunc) := ⟨by kernel_rfl⟩
instance : BytI Tryd.prog 60 8 := ⟨by kernel_rfl⟩
instance : AgI Tryd.prog 61 false := ⟨by kernel_rfl⟩
instance : InfoI Tryd.prog 61 1 (.nilFunc) := ⟨by kernel_rfl⟩
instance : BytI Tryd.prog 61 8 := ⟨by kernel_rfl⟩
instance : AgI Tryd.prog 62 false := ⟨by kernel_rfl⟩
instance : InfoI Tryd.prog 62 1 (.nilFunc) := ⟨by kernel_rfl⟩
instance : BytI Tryd.prog 62 8 := ⟨by kernel_rfl⟩
instance : AgI Tryd.prog 63 false := ⟨by kernel_rfl⟩
instance : InfoI Tryd.prog 63 1 (.nilFunc) := ⟨by kernel_rfl⟩
instance : BytI Tryd.prog 63 8 := ⟨by kernel_rfl⟩
instance : AgI Tryd.prog 64 false := ⟨by kernel_rfl⟩
instance : InfoI Tryd.prog 64 1 (.nilFunc) := ⟨by kernel_rfl⟩
instance : BytI Tryd.prog 64 8 := ⟨by kernel_rfl⟩
instance : AgI Tryd.prog 65 false := ⟨by kernel_rfl⟩
instance : InfoI Tryd.prog 65 1 (.nilFunc) := ⟨by kernel_rfl⟩
instance : BytI Tryd.prog 65 8 := ⟨by kernel_rfl⟩
instance : AgI Tryd.prog 66 false := ⟨by kernel_rfl⟩
instance : UnI Tryd.prog 66 (.pointer 5) := ⟨by kernel_rfl⟩
instance : InfoI Tryd.prog 66 1 (.pointer none) := ⟨by kernel_rfl⟩
instance : BytI Tryd.prog 66 8 := ⟨by kernel_rfl⟩
instance : AgI Tryd.prog 67 false := ⟨by kernel_rfl⟩
instance : InfoI Tryd.prog 67 1 (.nilFunc) := ⟨by kernel_rfl⟩
instance : BytI Tryd.prog 67 8 := ⟨by kernel_rfl⟩
instance : AgI Tryd.prog 68 false := ⟨by kernel_rfl⟩
instance : InfoI Tryd.prog 68 1 (.nilFunc) := ⟨by kernel_rfl⟩
instance : BytI Tryd.prog 68 8 := ⟨by kernel_rfl⟩
instance : AgI Tryd.prog 69 false := ⟨by kernel_rfl⟩
instance : InfoI Tryd.prog 69 1 (.nilFunc) := ⟨by kernel_rfl⟩
instance : BytI Tryd.prog 69 8 := ⟨by kernel_rfl⟩
instance : AgI Tryd.prog 70 false := ⟨by kernel_rfl⟩
instance : InfoI Tryd.prog 70 1 (.nilFunc) := ⟨by kernel_rfl⟩
instance : BytI Tryd.prog 70 8 := ⟨by kernel_rfl⟩
instance : AgI Tryd.prog 71 false := ⟨by kernel_rfl⟩
instance : InfoI Tryd.prog 71 1 (.nilFunc) := ⟨by kernel_rfl⟩
instance : BytI Tryd.prog 71 8 := ⟨by kernel_rfl⟩
instance : AgI Tryd.prog 72 true := ⟨by kernel_rfl⟩
instance : UnI Tryd.prog 72 (.array 5 31) := ⟨by kernel_rfl⟩
instance : InfoI Tryd.prog 72 5 (.agg #[.int .u64 0, .int .u64 0, .int .u64 0, .int .u64 0, .int .u64 0]) := ⟨by kernel_rfl⟩
instance : BytI Tryd.prog 72 40 := ⟨by kernel_rfl⟩
instance : EqI Tryd.prog 72 5 .u64 := .mk' (by kernel_rfl)
instance : AgI Tryd.prog 73 false := ⟨by kernel_rfl⟩
instance : InfoI Tryd.prog 73 1 (.nilFunc) := ⟨by kernel_rfl⟩
instance : BytI Tryd.prog 73 8 := ⟨by kernel_rfl⟩
instance : AgI Tryd.prog 74 true := ⟨by kernel_rfl⟩
instance : UnI Tryd.prog 74 (.array 25 3) := ⟨by kernel_rfl⟩
instance : InfoI Tryd.prog 74 25 (.agg #[.int .i64 0, .int .i64 0, .int .i64 0, .int .i64 0, .int .i64 0, .int .i64 0, .int .i64 0, .int .i64 0, .int .i64 0, .int .i64 0, .int .i64 0, .int .i64 0, .int .i64 0, .int .i64 0, .int .i64 0, .int .i64 0, .int .i64 0, .int .i64 0, .int .i64 0, .int .i64 0, .int .i64 0, .int .i64 0, .int .i64 0, .int .i64 0, .int .i64 0]) := ⟨by kernel_rfl⟩
instance : BytI Tryd.prog 74 200 := ⟨by kernel_rfl⟩
instance : EqI Tryd.prog 74 25 .i64 := .mk' (by kernel_rfl)
instance : AgI Tryd.prog 75 false := ⟨by kernel_rfl⟩
instance : UnI Tryd.prog 75 (.unsafePointer) := ⟨by kernel_rfl⟩
instance : InfoI Tryd.prog 75 1 (.pointer none) := ⟨by kernel_rfl⟩
instance : BytI Tryd.prog 75 8 := ⟨by kernel_rfl⟩
instance : AgI Tryd.prog 76 false := ⟨by kernel_rfl⟩
instance : InfoI Tryd.prog 76 1 (.nilFunc) := ⟨by kernel_rfl⟩
instance : BytI Tryd.prog 76 8 := ⟨by kernel_rfl⟩
instance : AgI Tryd.prog 77 false := ⟨by kernel_rfl⟩
instance : UnI Tryd.prog 77 (.int .u64) := ⟨by kernel_rfl⟩
instance : InfoI Tryd.prog 77 1 (.int .u64 0) := ⟨by kernel_rfl⟩
instance : BytI Tryd.prog 77 8 := ⟨by kernel_rfl⟩
instance : AgI Tryd.prog 78 false := ⟨by kernel_rfl⟩
instance : InfoI Tryd.prog 78 1 (.nilFunc) := ⟨by kernel_rfl⟩
instance : BytI Tryd.prog 78 8 := ⟨by kernel_rfl⟩
instance : AgI Tryd.prog 79 true := ⟨by kernel_rfl⟩
instance : InfoI Tryd.prog 79 4 (.agg #[.pointer none, .pointer none, .pointer none, .string ⟨#[]⟩]) := ⟨by kernel_rfl⟩
instance : BytI Tryd.prog 79 40 := ⟨by kernel_rfl⟩
instance : StrI Tryd.prog 79 [(0, 1), (1, 1), (2, 1), (3, 1)] := ⟨by kernel_rfl⟩
instance : FldI Tryd.prog 79 0 0 17 := .mk' (by kernel_rfl)
instance : FldI Tryd.prog 79 1 1 17 := .mk' (by kernel_rfl)
instance : FldI Tryd.prog 79 2 2 17 := .mk' (by kernel_rfl)
instance : FldI Tryd.prog 79 3 3 9 := .mk' (by kernel_rfl)
instance : AgI Tryd.prog 80 true := ⟨by kernel_rfl⟩
instance : InfoI Tryd.prog 80 4 (.agg #[.pointer none, .pointer none, .pointer none, .string ⟨#[]⟩]) := ⟨by kernel_rfl⟩
instance : BytI Tryd.prog 80 40 := ⟨by kernel_rfl⟩
instance : StrI Tryd.prog 80 [(0, 1), (1, 1), (2, 1), (3, 1)] := ⟨by kernel_rfl⟩
instance : FldI Tryd.prog 80 0 0 17 := .mk' (by kernel_rfl)
instance : FldI Tryd.prog 80 1 1 17 := .mk' (by kernel_rfl)
instance : FldI Tryd.prog 80 2 2 17 := .mk' (by kernel_rfl)
instance : FldI Tryd.prog 80 3 3 9 := .mk' (by kernel_rfl)
instance : AgI Tryd.prog 81 true := ⟨by kernel_rfl⟩
instance : UnI Tryd.prog 81 (.array 0 16) := ⟨by kernel_rfl⟩
instance : InfoI Tryd.prog 81 0 (.agg #[]) := ⟨by kernel_rfl⟩
instance : BytI Tryd.prog 81 0 := ⟨by kernel_rfl⟩
instance : AgI Tryd.prog 82 true := ⟨by kernel_rfl⟩
instance : InfoI Tryd.prog 82 0 (.agg #[]) := ⟨by kernel_rfl⟩
instance : BytI Tryd.prog 82 0 := ⟨by kernel_rfl⟩
instance : StrI Tryd.prog 82 [(0, 0)] := ⟨by kernel_rfl⟩
instance : FldI Tryd.prog 82 0 0 81 := .mk' (by kernel_rfl)
instance : AgI Tryd.prog 83 true := ⟨by kernel_rfl⟩
instance : InfoI Tryd.prog 83 0 (.agg #[]) := ⟨by kernel_rfl⟩
instance : BytI Tryd.prog 83 0 := ⟨by kernel_rfl⟩
instance : StrI Tryd.prog 83 [(0, 0)] := ⟨by kernel_rfl⟩
instance : FldI Tryd.prog 83 0 0 81 := .mk' (by kernel_rfl)
instance : AgI Tryd.prog 84 false := ⟨by kernel_rfl⟩
instance : InfoI Tryd.prog 84 1 (.nilFunc) := ⟨by kernel_rfl⟩
instance : BytI Tryd.prog 84 8 := ⟨by kernel_rfl⟩
instance : AgI Tryd.prog 85 false := ⟨by kernel_rfl⟩
instance : UnI Tryd.prog 85 (.int .u32) := ⟨by kernel_rfl⟩
instance : InfoI Tryd.prog 85 1 (.int .u32 0) := ⟨by kernel_rfl⟩
instance : BytI Tryd.prog 85 4 := ⟨by kernel_rfl⟩
instance : AgI Tryd.prog 86 false := ⟨by kernel_rfl⟩
instance : UnI Tryd.prog 86 (.int .u8) := ⟨by kernel_rfl⟩
instance : InfoI Tryd.prog 86 1 (.int .u8 0) := ⟨by kernel_rfl⟩
instance : BytI Tryd.prog 86 1 := ⟨by kernel_rfl⟩
instance : AgI Tryd.prog 87 false := ⟨by kernel_rfl⟩
instance : UnI Tryd.prog 87 (.int .u8) := ⟨by kernel_rfl⟩
instance : InfoI Tryd.prog 87 1 (.int .u8 0) := ⟨by kernel_rfl⟩
instance : BytI Tryd.prog 87 1 := ⟨by kernel_rfl⟩
instance : AgI Tryd.prog 88 false := ⟨by kernel_rfl⟩
instance : InfoI Tryd.prog 88 1 (.nilFunc) := ⟨by kernel_rfl⟩
instance : BytI Tryd.prog 88 8 := ⟨by kernel_rfl⟩
instance : AgI Tryd.prog 89 false := ⟨by kernel_rfl⟩
instance : UnI Tryd.prog 89 (.int .i32) := ⟨by kernel_rfl⟩
instance : InfoI Tryd.prog 89 1 (.int .i32 0) := ⟨by kernel_rfl⟩
instance : BytI Tryd.prog 89 4 := ⟨by kernel_rfl⟩
instance : AgI Tryd.prog 90 false := ⟨by kernel_rfl⟩
instance : UnI Tryd.prog 90 (.int .i32) := ⟨by kernel_rfl⟩
instance : InfoI Tryd.prog 90 1 (.int .i32 0) := ⟨by kernel_rfl⟩
instance : BytI Tryd.prog 90 4 := ⟨by kernel_rfl⟩
instance : AgI Tryd.prog 91 true := ⟨by kernel_rfl⟩
instance : InfoI Tryd.prog 91 11 (.agg #[.int .u64 0, .int .u64 0, .int .u32 0, .int .u8 0, .int .u8 0, .int .u8 0, .int .u8 0, .nilFunc, .pointer none, .int .i32 0, .int .i32 0]) := ⟨by kernel_rfl⟩
instance : BytI Tryd.prog 91 48 := ⟨by kernel_rfl⟩
instance : StrI Tryd.prog 91 [(0, 1), (1, 1), (2, 1), (3, 1), (4, 1), (5, 1), (6, 1), (7, 1), (8, 1), (9, 1), (10, 1)] := ⟨by kernel_rfl⟩
instance : FldI Tryd.prog 91 0 0 12 := .mk' (by kernel_rfl)
instance : FldI Tryd.prog 91 1 1 12 := .mk' (by kernel_rfl)
instance : FldI Tryd.prog 91 2 2 85 := .mk' (by kernel_rfl)
instance : FldI Tryd.prog 91 3 3 86 := .mk' (by kernel_rfl)
instance : FldI Tryd.prog 91 4 4 5 := .mk' (by kernel_rfl)
instance : FldI Tryd.prog 91 5 5 5 := .mk' (by kernel_rfl)
instance : FldI Tryd.prog 91 6 6 87 := .mk' (by kernel_rfl)
instance : FldI Tryd.prog 91 7 7 88 := .mk' (by kernel_rfl)
instance : FldI Tryd.prog 91 8 8 66 := .mk' (by kernel_rfl)
instance : FldI Tryd.prog 91 9 9 89 := .mk' (by kernel_rfl)
instance : FldI Tryd.prog 91 10 10 90 := .mk' (by kernel_rfl)
instance : AgI Tryd.prog 92 true := ⟨by kernel_rfl⟩
instance : InfoI Tryd.prog 92 11 (.agg #[.int .u64 0, .int .u64 0, .int .u32 0, .int .u8 0, .int .u8 0, .int .u8 0, .int .u8 0, .nilFunc, .pointer none, .int .i32 0, .int .i32 0]) := ⟨by kernel_rfl⟩
instance : BytI Tryd.prog 92 48 := ⟨by kernel_rfl⟩
instance : StrI Tryd.prog 92 [(0, 1), (1, 1), (2, 1), (3, 1), (4, 1), (5, 1), (6, 1), (7, 1), (8, 1), (9, 1), (10, 1)] := ⟨by kernel_rfl⟩
instance : FldI Tryd.prog 92 0 0 12 := .mk' (by kernel_rfl)
instance : FldI Tryd.prog 92 1 1 12 := .mk' (by kernel_rfl)
instance : FldI Tryd.prog 92 2 2 85 := .mk' (by kernel_rfl)
instance : FldI Tryd.prog 92 3 3 86 := .mk' (by kernel_rfl)
instance : FldI Tryd.prog 92 4 4 5 := .mk' (by kernel_rfl)
instance : FldI Tryd.prog 92 5 5 5 := .mk' (by kernel_rfl)
instance : FldI Tryd.prog 92 6 6 87 := .mk' (by kernel_rfl)
instance : FldI Tryd.prog 92 7 7 88 := .mk' (by kernel_rfl)
instance : FldI Tryd.prog 92 8 8 66 := .mk' (by kernel_rfl)
instance : FldI Tryd.prog 92 9 9 89 := .mk' (by kernel_rfl)
instance : FldI Tryd.prog 92 10 10 90 := .mk' (by kernel_rfl)
instance : FnI Tryd.prog 2 := .mk' Tryd.func2 (by kernel_rfl) (by kernel_rfl)
instance : FnI Tryd.prog 3 := .mk' Tryd.func3 (by kernel_rfl) (by kernel_rfl)
instance : FnI Tryd.prog 4 := .mk' Tryd.func4 (by kernel_rfl) (by kernel_rfl)
instance : FnI Tryd.prog 5 := .mk' Tryd.func5 (by kernel_rfl) (by kernel_rfl)
instance : FnI Tryd.prog 6 := .mk' Tryd.func6 (by kernel_rfl) (by kernel_rfl)
instance : FnI Tryd.prog 7 := .mk' Tryd.func7 (by kernel_rfl) (by kernel_rfl)
instance : FnI Tryd.prog 8 := .mk' Tryd.func8 (by kernel_rfl) (by kernel_rfl)
instance : FnI Tryd.prog 9 := .mk' Tryd.func9 (by kernel_rfl) (by kernel_rfl)
instance : FnI Tryd.prog 10 := .mk' Tryd.func10 (by kernel_rfl) (by kernel_rfl)
instance : FnI Tryd.prog 11 := .mk' Tryd.func11 (by kernel_rfl) (by kernel_rfl)
instance : FnI Tryd.prog 12 := .mk' Tryd.func12 (by kernel_rfl) (by kernel_rfl)
instance : FnI Tryd.prog 13 := .mk' Tryd.func13 (by kernel_rfl) (by kernel_rfl)
instance : FnI Tryd.prog 14 := .mk' Tryd.func14 (by kernel_rfl) (by kernel_rfl)
instance : FnI Tryd.prog 15 := .mk' Tryd.func15 (by kernel_rfl) (by kernel_rfl)
instance : FnI Tryd.prog 16 := .mk' Tryd.func16 (by kernel_rfl) (by kernel_rfl)
instance : FnI Tryd.prog 17 := .mk' Tryd.func17 (by kernel_rfl) (by kernel_rfl)
instance : FnI Tryd.prog 18 := .mk' Tryd.func18 (by kernel_rfl) (by kernel_rfl)
instance : FnI Tryd.prog 19 := .mk' Tryd.func19 (by kernel_rfl) (by kernel_rfl)
instance : FnI Tryd.prog 20 := .mk' Tryd.func20 (by kernel_rfl) (by kernel_rfl)
instance : FnI Tryd.prog 21 := .mk' Tryd.func21 (by kernel_rfl) (by kernel_rfl)
instance : FnI Tryd.prog 22 := .mk' Tryd.func22 (by kernel_rfl) (by kernel_rfl)
instance : FnI Tryd.prog 23 := .mk' Tryd.func23 (by kernel_rfl) (by kernel_rfl)
instance : FnI Tryd.prog 24 := .mk' Tryd.func24 (by kernel_rfl) (by kernel_rfl)
instance : FnI Tryd.prog 25 := .mk' Tryd.func25 (by kernel_rfl) (by kernel_rfl)
instance : FnI Tryd.prog 26 := .mk' Tryd.func26 (by kernel_rfl) (by kernel_rfl)
instance : FnI Tryd.prog 27 := .mk' Tryd.func27 (by kernel_rfl) (by kernel_rfl)
instance : FnI Tryd.prog 28 := .mk' Tryd.func28 (by kernel_rfl) (by kernel_rfl)
instance : FnI Tryd.prog 29 := .mk' Tryd.func29 (by kernel_rfl) (by kernel_rfl)
instance : FnI Tryd.prog 30 := .mk' Tryd.func30 (by kernel_rfl) (by kernel_rfl)
instance : FnI Tryd.prog 31 := .mk' Tryd.func31 (by kernel_rfl) (by kernel_rfl)
instance : FnI Tryd.prog 32 := .mk' Tryd.func32 (by kernel_rfl) (by kernel_rfl)
instance : FnI Tryd.prog 33 := .mk' Tryd.func33 (by kernel_rfl) (by kernel_rfl)
instance : FnI Tryd.prog 34 := .mk' Tryd.func34 (by kernel_rfl) (by kernel_rfl)
instance : FnI Tryd.prog 35 := .mk' Tryd.func35 (by kernel_rfl) (by kernel_rfl)
instance : FnI Tryd.prog 36 := .mk' Tryd.func36 (by kernel_rfl) (by kernel_rfl)
instance : FnI Tryd.prog 37 := .mk' Tryd.func37 (by kernel_rfl) (by kernel_rfl)
instance : FnI Tryd.prog 38 := .mk' Tryd.func38 (by kernel_rfl) (by kernel_rfl)
instance : FnI Tryd.prog 40 := .mk' Tryd.func40 (by kernel_rfl) (by kernel_rfl)
instance : FnI Tryd.prog 41 := .mk' Tryd.func41 (by kernel_rfl) (by kernel_rfl)
instance : FnI Tryd.prog 42 := .mk' Tryd.func42 (by kernel_rfl) (by kernel_rfl)
instance : FnI Tryd.prog 43 := .mk' Tryd.func43 (by kernel_rfl) (by kernel_rfl)
instance : FnI Tryd.prog 44 := .mk' Tryd.func44 (by kernel_rfl) (by kernel_rfl)
instance : FnI Tryd.prog 45 := .mk' Tryd.func45 (by kernel_rfl) (by kernel_rfl)
instance : FnI Tryd.prog 46 := .mk' Tryd.func46 (by kernel_rfl) (by kernel_rfl)
instance : FnI Tryd.prog 49 := .mk' Tryd.func49 (by kernel_rfl) (by kernel_rfl)
instance : FnI Tryd.prog 50 := .mk' Tryd.func50 (by kernel_rfl) (by kernel_rfl)
instance : FnI Tryd.prog 51 := .mk' Tryd.func51 (by kernel_rfl) (by kernel_rfl)
instance : FnI Tryd.prog 73 := .mk' Tryd.func73 (by kernel_rfl) (by kernel_rfl)
theorem mixed : Tryd.prog.follows .mixedOrders = true := by kernel_rfl
end Go.Proofs.YtficnjnnhcadaaaDoor

/-
  Contracts of the library: strings that are built, bytes compared, digits.
  Conditions: none.
-/
namespace Go.Proofs.YtficnjnnhcadaaaDoor
open Go Go.RowKit SL
set_option maxRecDepth 8000
set_option maxHeartbeats 4000000
set_option linter.unusedSimpArgs false
set_option linter.unusedVariables false
attribute [local irreducible] SL.CW SL.LW SL.DW Calls SL.Ret SL.RetG SL.beginQ SL.roundQ SL.rangeQ SL.inQ SL.RW SL.AnyW SL.thenQ SL.thenC SL.thenW SL.blkQ SL.finQ SL.ValP SL.NewP SL.SetP SL.CallP SL.Rd SL.Wr SL.Known
def bev (l : List UInt8) : Nat := l.foldl (fun n u => 256 * n + u.toNat) 0
theorem bev_snoc (l : List UInt8) (u : UInt8) : bev (l ++ [u]) = 256 * bev l + u.toNat := by simp [bev, List.foldl_append]
theorem bev_go (l : List UInt8) : ∀ n, l.foldl (fun n u => 256 * n + u.toNat) n < (n + 1) * 2 ^ (8 * l.length) := by
  induction l with
  | nil => intro n; simp
  | cons u l ih =>
    intro n
    have hu := u.toNat_lt
    rw [List.foldl_cons, List.length_cons, show 8 * (l.length + 1) = 8 + 8 * l.length by omega, Nat.pow_add, ← Nat.mul_assoc]
    exact Nat.lt_of_lt_of_le (ih _) (Nat.mul_le_mul_right _ (by omega))
theorem bev_lt (l : List UInt8) : bev l < 2 ^ (8 * l.length) := by
  have := bev_go l 0
  rwa [Nat.zero_add, Nat.one_mul] at this
theorem bev_app (x y : List UInt8) : bev (x ++ y) = bev x * 2 ^ (8 * y.length) + bev y := by
  have key : ∀ (y : List UInt8) (n : Nat), y.foldl (fun n u => 256 * n + u.toNat) n = n * 2 ^ (8 * y.length) + bev y := by
    intro y
    induction y with
    | nil => intro n; simp [bev]
    | cons u y ih =>
      intro n
      unfold bev
      rw [List.foldl_cons, List.foldl_cons, ih, ih, List.length_cons, show 8 * (y.length + 1) = 8 + 8 * y.length by omega, Nat.pow_add, Nat.mul_zero, Nat.zero_add, Nat.add_mul, Nat.mul_comm 256 n, Nat.mul_assoc, Nat.add_assoc]
  unfold bev
  rw [List.foldl_append]
  exact key y _
theorem bev_cons (u : UInt8) (y : List UInt8) : bev (u :: y) = u.toNat * 2 ^ (8 * y.length) + bev y := by
  have := bev_app [u] y
  simpa [bev] using this
theorem bev_lex (p : List UInt8) (u v : UInt8) (r s : List UInt8) (hrs : r.length = s.length) (h : u.toNat < v.toNat) : bev (p ++ u :: r) < bev (p ++ v :: s) := by
  have hr := bev_lt r
  rw [bev_app, bev_app, bev_cons, bev_cons, List.length_cons, List.length_cons, ← hrs]
  have h1 : (u.toNat + 1) * 2 ^ (8 * r.length) ≤ v.toNat * 2 ^ (8 * r.length) := Nat.mul_le_mul_right _ h
  rw [Nat.succ_mul] at h1
  omega
theorem split_at {l : List UInt8} {i : Nat} (h : i < l.length) : l = l.take i ++ l[i] :: l.drop (i + 1) := by
  rw [List.getElem_cons_drop, List.take_append_drop]
theorem cmp_bev (x y : List UInt8) (h : x.length = y.length) : Extern.BytealgCompare.cmp ⟨x.toArray⟩ ⟨y.toArray⟩ = if bev x < bev y then -1 else if bev y < bev x then 1 else 0 := by
  have hg : ∀ (l : List UInt8) (j : Nat) (hj : j < l.length), (⟨l.toArray⟩ : ByteArray)[j]! = l[j] := fun l j hj => by
    rw [getElem!_pos _ _ (by simpa [ByteArray.size] using hj)]
    show l.toArray[j] = _
    simp
  unfold Extern.BytealgCompare.cmp
  have hsz : min (⟨x.toArray⟩ : ByteArray).size (⟨y.toArray⟩ : ByteArray).size = x.length := by simp [ByteArray.size, h]
  rw [hsz]
  cases hf : (List.range x.length).find? fun i => (⟨x.toArray⟩ : ByteArray)[i]! != (⟨y.toArray⟩ : ByteArray)[i]! with
  | none =>
    rw [List.find?_eq_none] at hf
    have hxy : x = y := by
      apply List.ext_getElem h
      intro i h1 h2
      have := hf i (by simpa using h1)
      rw [hg x i h1, hg y i h2] at this
      simpa using this
    subst hxy
    simp
  | some i =>
    obtain ⟨hp, hi, hlt⟩ := List.find?_range_eq_some.1 hf
    have hix : i < x.length := by simpa using hi
    have hiy : i < y.length := by omega
    have hpre : x.take i = y.take i := by
      apply List.ext_getElem (by simp; omega)
      intro j h1 h2
      have hj : j < i := by simp at h1; omega
      have := hlt j hj
      rw [hg x j (by omega), hg y j (by omega)] at this
      simpa using this
    rw [hg x i hix, hg y i hiy] at hp
    dsimp only
    rw [hg x i hix, hg y i hiy]
    have hne : x[i].toNat ≠ y[i].toNat := fun e => by
      have := UInt8.toNat_inj.1 e
      simp [this] at hp
    have ex := split_at hix
    have ey := split_at hiy
    rw [← hpre] at ey
    have hl : (x.drop (i + 1)).length = (y.drop (i + 1)).length := by simp [h]
    by_cases hc : x[i] < y[i]
    · have h1 := bev_lex (x.take i) x[i] y[i] _ _ hl (UInt8.lt_iff_toNat_lt.1 hc)
      rw [← ex, ← ey] at h1
      rw [if_pos hc, if_pos h1]
    · have h0 : ¬ x[i].toNat < y[i].toNat := fun e => hc (UInt8.lt_iff_toNat_lt.2 e)
      have h1 := bev_lex (x.take i) y[i] x[i] _ _ hl.symm (by omega)
      rw [← ex, ← ey] at h1
      rw [if_neg hc, if_neg (by omega), if_pos h1]
theorem row_bytes {P : Program} {w : World} {v : Value} {l : List UInt8} {n : Nat} (h : RowAt w 1 v n (ucs l)) : (Extern.Bytes.bytesOf v).run P w = .ok ⟨l.toArray⟩ w := by
  have hn : l.length = n := by have := h.len; rw [ucs_len] at this; omega
  rcases Nat.eq_zero_or_pos n with h0 | h0
  · subst h0
    obtain rfl : l = [] := List.length_eq_zero_iff.1 hn
    obtain ⟨p, c, rfl, _, _⟩ := h.form
    cases p <;> rfl
  · obtain ⟨b, off, c, cs, E', fr, rfl, hb, hx⟩ := h.pos h0
    have hl := Lib.run_loadBytesX (P := P) w (l.map fun u => (u.toNat : Int)) ⟨b, off, none⟩ .empty (fun j x hj => by
      rw [addr_add, cell_of hb]
      simp only [List.getElem?_map, Option.map_eq_some_iff] at hj
      obtain ⟨u, hu, rfl⟩ := hj
      exact cut_get hx (by rw [ucs_map]; simp [hu]))
    rw [List.length_map, hn] at hl
    show (Extern.Bytes.loadBytes ⟨b, off, none⟩ n .empty).run P w = _
    rw [hl]
    congr 1
    apply ByteArray.ext
    simp only [Lib.bytesOf, List.map_map]
    have : List.map ((fun n : Int => UInt8.ofNat n.toNat) ∘ fun u : UInt8 => (u.toNat : Int)) l = l := by
      conv => rhs; rw [← List.map_id l]
      apply List.map_congr_left
      intro u _
      simp
    rw [this]
    simp
theorem compare_run (va vb : Value) (x y : List UInt8) (n m : Nat) (w : World) (ha : RowAt w 1 va n (ucs x)) (hb : RowAt w 1 vb m (ucs y)) (h : x.length = y.length) :
    (callFunc 39 #[va, vb]).run Tryd.prog w = .ok (.value (.int .i64 (if bev x < bev y then -1 else if bev y < bev x then 1 else 0))) w := by
  rw [run_callFunc_extern Tryd.func39 (by kernel_rfl) (by kernel_rfl) (by kernel_rfl) (e := Extern.BytealgCompare.compare) (by kernel_rfl)]
  have : (Extern.BytealgCompare.compare #[va, vb]).run Tryd.prog w = .ok (.int .i64 (if bev x < bev y then -1 else if bev y < bev x then 1 else 0)) w := by
    show (do pure (goInt (Extern.BytealgCompare.cmp (← Extern.Bytes.bytesOf va) (← Extern.Bytes.bytesOf vb))) : Sem Value).run Tryd.prog w = _
    simp only [Sem.run_bind, row_bytes ha, row_bytes hb, Result.andThen_ok, cmp_bev x y h]
    rfl
  rw [this]; rfl
theorem Compare_calls (va vb : Value) (x y : List UInt8) (n m : Nat) (w : World) (ha : RowAt w 1 va n (ucs x)) (hb : RowAt w 1 vb m (ucs y)) (h : x.length = y.length) :
    Calls Tryd.prog 32 #[va, vb] w (Ret w (.int .i64 (if bev x < bev y then -1 else if bev y < bev x then 1 else 0))) := by
  refine enter (args := [_, _]) _ [] [] Tryd.func32 rfl Tryd.ntmps32 rfl (by simp) .nil ?_
  (refine CW.seq ?_; refine CW.region ?_; apply LW.v0; rfl; rfl; apply ValP.assign; rfl; apply LW.nil; refine thenN ?_; refine CW.seq ?_; refine CW.region ?_; apply LW.v0; rfl; rfl; apply ValP.move; rfl; apply LW.v0; rfl; rfl; apply ValP.move; rfl)
  apply LW.callXS
  rfl
  rfl
  (apply ArgsOk.cons; rfl; apply ArgsOk.cons; rfl; exact ArgsOk.nil)
  · exact fun w hs => compare_run va vb x y n m w (ha.st hs) (hb.st hs) h
  (apply LW.v0; rfl; rfl; apply ValP.assign; rfl; apply LW.nil; refine thenN ?_; refine CW.ret ?_)
  (apply finR; exact .inl rfl; rfl; rfl; rfl; apply ResL.cons; exact Res.tmp rfl; exact ResL.nil)
  rfl
def hexd (n : Nat) : UInt8 := UInt8.ofNat (if n < 10 then 48 + n else 87 + n)
theorem hexd_get : ∀ k, k < 16 → (⟨#[48, 49, 50, 51, 52, 53, 54, 55, 56, 57, 97, 98, 99, 100, 101, 102]⟩ : ByteArray)[k]? = some (hexd k) := by decide
def hexu (u : UInt8) : Option Nat := if 48 ≤ u.toNat ∧ u.toNat ≤ 57 then some (u.toNat - 48) else if 97 ≤ u.toNat ∧ u.toNat ≤ 102 then some (u.toNat - 87) else none
theorem hexu_lt {u : UInt8} {d : Nat} (h : hexu u = some d) : d < 16 := by
  unfold hexu at h
  split at h
  · simp only [Option.some.injEq] at h; omega
  · split at h
    · simp only [Option.some.injEq] at h; omega
    · cases h
theorem hexu_small {u : UInt8} {d : Nat} (h : hexu u = some d) : u.toNat < 128 := by
  unfold hexu at h
  split at h
  · omega
  · split at h
    · omega
    · cases h
theorem hexd_hexu {u : UInt8} {d : Nat} (h : hexu u = some d) : hexd d = u := by
  have hu := u.toNat_lt
  apply UInt8.toNat_inj.1
  unfold hexu at h
  unfold hexd
  rw [UInt8.toNat_ofNat']
  split at h
  · simp only [Option.some.injEq] at h; rw [if_pos (by omega)]; omega
  · split at h
    · simp only [Option.some.injEq] at h; rw [if_neg (by omega)]; omega
    · cases h
theorem hexu_hexd : ∀ d, d < 16 → hexu (hexd d) = some d := by decide
theorem hexd_zero : ∀ d, d < 16 → hexd d = 48 → d = 0 := by decide
def hexdigits : List UInt8 := [48, 49, 50, 51, 52, 53, 54, 55, 56, 57, 97, 98, 99, 100, 101, 102]
def hexi (c : Nat) : Int := match hexu (UInt8.ofNat c) with | some d => (d : Int) | none => -1
theorem hexi_idx : ∀ c : Nat, c < 256 → firstIdx ⟨hexdigits.toArray⟩ (c : Int).toNat.toUInt8 = hexi c := by decide +kernel
theorem indexByte_run (c : Nat) (hc : c < 256) (w : World) : (callFunc 48 #[sv hexdigits, .int .u8 (c : Int)]).run Tryd.prog w = .ok (.value (.int .i64 (hexi c))) w := by
  rw [run_callFunc_extern Tryd.func48 (by kernel_rfl) (by kernel_rfl) (by kernel_rfl) (e := Extern.BytealgIndexByte.indexByte) (by kernel_rfl), run_indexByte_string, hexi_idx c hc]
  rfl
theorem liteIndex_calls (c : Nat) (hc : c < 256) (w : World) : Calls Tryd.prog 40 #[sv hexdigits, .int .u8 (c : Int)] w (Ret w (.int .i64 (hexi c))) := by
  refine enter (args := [_, _]) _ [] [] Tryd.func40 rfl Tryd.ntmps40 rfl (by simp) .nil ?_
  (refine CW.seq ?_; refine CW.region ?_; apply LW.v0; rfl; rfl; apply ValP.assign; rfl; apply LW.nil; refine thenN ?_; refine CW.seq ?_; refine CW.region ?_; apply LW.v0; rfl; rfl; apply ValP.move; rfl; apply LW.v0; rfl; rfl; apply ValP.move; rfl; apply LW.v0; rfl; rfl; apply ValP.callX; rfl; apply ArgsOk.cons; rfl; apply ArgsOk.cons; rfl; exact ArgsOk.nil; exact indexByte_run _ (by assumption); apply LW.v0; rfl; rfl; apply ValP.assign; rfl; apply LW.nil; refine thenN ?_; refine CW.ret ?_)
  (apply finR; exact .inl rfl; rfl; rfl; rfl; apply ResL.cons; exact Res.tmp rfl; exact ResL.nil)
  rfl
theorem IndexByte_calls (c : Nat) (hc : c < 256) (w : World) : Calls Tryd.prog 33 #[sv hexdigits, .int .u8 (c : Int)] w (Ret w (.int .i64 (hexi c))) := by
  refine enter (args := [_, _]) _ [] [] Tryd.func33 rfl Tryd.ntmps33 rfl (by simp) .nil ?_
  (refine CW.seq ?_; refine CW.region ?_; apply LW.v0; rfl; rfl; apply ValP.assign; rfl; apply LW.nil; refine thenN ?_; refine CW.seq ?_; refine CW.region ?_; apply LW.v0; rfl; rfl; apply ValP.move; rfl; apply LW.v0; rfl; rfl; apply ValP.move; rfl; apply LW.callE; rfl; rfl; infer_instance; apply ArgsOk.cons; rfl; apply ArgsOk.cons; rfl; exact ArgsOk.nil; intro w _; exact liteIndex_calls _ (by assumption) w; apply LW.v0; rfl; rfl; apply ValP.assign; rfl; apply LW.nil; refine thenN ?_; refine CW.ret ?_)
  (apply finR; exact .inl rfl; rfl; rfl; rfl; apply ResL.cons; exact Res.tmp rfl; exact ResL.nil)
  rfl
theorem noEscape_run (v : Value) (w : World) : (callFunc 47 #[v]).run Tryd.prog w = .ok (.value v) w := by
  rw [run_callFunc_extern Tryd.func47 (by kernel_rfl) (by kernel_rfl) (by kernel_rfl) (e := Extern.AbiNoEscape.same) (by kernel_rfl), Lib.run_noEscape]
  rfl
theorem copyCheck_new (w0 : World) (S : List Nat) (b : Nat) (sv : Value) (fs : Fs) (w : World) (hs : St w0 S ((b, .cells #[.pointer none, sv] 57 (0, 0)) :: fs) w) :
    Calls Tryd.prog 38 #[.pointer (some ⟨b, 0, none⟩)] w (fun x w' => ∃ v fs', x = .returned v ∧ (v = .tuple #[] ∧ fs' = (b, .cells #[.pointer (some ⟨b, 0, none⟩), sv] 57 (0, 0)) :: fs) ∧ St w0 S fs' w') := by
  refine calls_inline (args := [_]) Tryd.func38 rfl Tryd.ntmps38 rfl ?_ hs
  (refine CW.seq ?_; refine CW.region ?_; apply LW.v0; rfl; rfl; apply ValP.move; rfl; apply LW.v0; rfl; rfl; apply ValP.nilCheck; rfl; apply LW.v0; rfl; rfl; apply ValP.fieldAddr; rfl; rfl; apply LW.load; rfl; rfl; apply Known.at; apply FsAt.head; exact Rd.one' rfl; apply LW.v0; rfl; rfl; apply ValP.ptrNilT; rfl; rfl; apply LW.nil; refine thenN ?_; apply CW.condT; rfl; (with_reducible rfl); refine CW.region ?_; apply LW.v0; rfl; rfl; apply ValP.move; rfl; apply LW.v0; rfl; rfl; apply ValP.move; rfl; apply LW.toUnsafe; rfl; rfl; apply Known.at; apply FsAt.head; rfl; rfl; apply LW.v0; rfl; rfl; apply ValP.callX; rfl; apply ArgsOk.cons; rfl; exact ArgsOk.nil; exact noEscape_run _; apply LW.fromUnsafe; rfl; rfl; apply Known.at; apply FsAt.head; kernel_rfl; apply LW.v0; rfl; rfl; apply ValP.nilCheck; rfl; apply LW.v0; rfl; rfl; apply ValP.fieldAddr; rfl; rfl; apply LW.store; rfl; rfl; apply SetAt.head; apply Wr.cells; rfl; rfl; simp only [wc, List.size_toArray, List.length_cons, List.length_nil]; omega; simp only [fillC, wc, wrCells, Value.cells, List.toList_toArray, List.setIfInBounds_toArray, List.set_cons_succ, List.set_cons_zero, Nat.reduceAdd, Nat.reduceMul, Nat.zero_add, Nat.mul_one]; rfl; apply LW.nil)
  apply inI
  (exact .inr rfl)
  (exact Shut.nil)
  rfl
  (exact ResL.nil)
  rfl
  exact ⟨rfl, rfl⟩
theorem copyCheck_used (w0 : World) (S : List Nat) (b : Nat) (sv : Value) (fs : Fs) (w : World) (hs : St w0 S ((b, .cells #[.pointer (some ⟨b, 0, none⟩), sv] 57 (0, 0)) :: fs) w) :
    Calls Tryd.prog 38 #[.pointer (some ⟨b, 0, none⟩)] w (fun x w' => ∃ v fs', x = .returned v ∧ (v = .tuple #[] ∧ fs' = (b, .cells #[.pointer (some ⟨b, 0, none⟩), sv] 57 (0, 0)) :: fs) ∧ St w0 S fs' w') := by
  refine calls_inline (args := [_]) Tryd.func38 rfl Tryd.ntmps38 rfl ?_ hs
  (refine CW.seq ?_; refine CW.region ?_; apply LW.v0; rfl; rfl; apply ValP.move; rfl; apply LW.v0; rfl; rfl; apply ValP.nilCheck; rfl; apply LW.v0; rfl; rfl; apply ValP.fieldAddr; rfl; rfl; apply LW.load; rfl; rfl; apply Known.at; apply FsAt.head; exact Rd.one' rfl; apply LW.v0; rfl; rfl; apply ValP.ptrNilF; rfl; rfl; apply LW.nil; refine thenN ?_; apply CW.condF; rfl; (with_reducible rfl); refine CW.seq ?_; refine CW.region ?_; apply LW.v0; rfl; rfl; apply ValP.move; rfl; apply LW.v0; rfl; rfl; apply ValP.nilCheck; rfl; apply LW.v0; rfl; rfl; apply ValP.fieldAddr; rfl; rfl; apply LW.load; rfl; rfl; apply Known.at; apply FsAt.head; exact Rd.one' rfl; apply LW.v0; rfl; rfl; apply ValP.move; rfl; apply LW.v0; rfl; rfl; apply ValP.ptrSame; rfl; rfl; apply LW.nil; refine thenN ?_; apply CW.condF; rfl; (with_reducible rfl); refine CW.skip ?_)
  apply inI
  (exact .inr rfl)
  (exact Shut.nil)
  rfl
  (exact ResL.nil)
  rfl
  exact ⟨rfl, rfl⟩
theorem copyCheck_calls (w0 : World) (S : List Nat) (b : Nat) (p sv : Value) (hp : p = .pointer none ∨ p = .pointer (some ⟨b, 0, none⟩)) (fs : Fs) (w : World) (hs : St w0 S ((b, .cells #[p, sv] 57 (0, 0)) :: fs) w) :
    Calls Tryd.prog 38 #[.pointer (some ⟨b, 0, none⟩)] w (fun x w' => ∃ v fs', x = .returned v ∧ (v = .tuple #[] ∧ fs' = (b, .cells #[.pointer (some ⟨b, 0, none⟩), sv] 57 (0, 0)) :: fs) ∧ St w0 S fs' w') := by
  rcases hp with rfl | rfl
  · exact copyCheck_new w0 S b sv fs w hs
  · exact copyCheck_used w0 S b sv fs w hs
theorem WriteByte_calls (w0 : World) (S : List Nat) (b : Nat) (p v : Value) (hp : p = .pointer none ∨ p = .pointer (some ⟨b, 0, none⟩)) (n c : Nat) (hn : n < 1000) (hc : c < 256) (xs : List Value) (seg fs : Fs) (hrow : IsRow 5 1 v n xs seg) (w : World) (hs : St w0 S ((b, .cells #[p, v] 57 (0, 0)) :: (seg ++ fs)) w) :
    Calls Tryd.prog 30 #[.pointer (some ⟨b, 0, none⟩), .int .u8 (c : Int)] w (fun x w' => ∃ y fs', x = .returned y ∧ (True ∧ ∃ v' seg', IsRow 5 1 v' (n + 1) (xs ++ [.int .u8 (c : Int)]) seg' ∧ fs' = (b, .cells #[.pointer (some ⟨b, 0, none⟩), v'] 57 (0, 0)) :: (seg' ++ fs)) ∧ St w0 S fs' w') := by
  refine calls_inline (args := [_, _]) Tryd.func30 rfl Tryd.ntmps30 rfl ?_ hs
  (refine CW.seq ?_; refine CW.region ?_; apply LW.v0; rfl; rfl; apply ValP.assign; rfl; apply LW.nil; refine thenN ?_; refine CW.seq ?_; refine CW.region ?_; apply LW.v0; rfl; rfl; apply ValP.move; rfl; apply LW.callSt; rfl; rfl; infer_instance; apply ArgsOk.cons; rfl; exact ArgsOk.nil; intro w hs; exact copyCheck_calls _ _ _ _ _ (by assumption) _ w hs; rintro v fs' ⟨rfl, rfl⟩; apply LW.nil; refine thenN ?_; refine CW.seq ?_; refine CW.region ?_; apply LW.v0; rfl; rfl; apply ValP.move; rfl; apply LW.v0; rfl; rfl; apply ValP.move; rfl; apply LW.v0; rfl; rfl; apply ValP.nilCheck; rfl; apply LW.v0; rfl; rfl; apply ValP.fieldAddr; rfl; rfl; apply LW.load; rfl; rfl; apply Known.at; apply FsAt.head; exact Rd.one' rfl; apply LW.v0; rfl; rfl; apply ValP.move; rfl; apply LW.lay1; rfl; infer_instance; infer_instance; rfl; rfl; rfl; rfl; rfl; rfl; intro _)
  (apply LW.append; rfl; rfl; infer_instance; infer_instance; infer_instance; rfl; rfl; rfl; (case hrow => assumption); apply AtSeg.cons; apply AtSeg.cons; exact AtSeg.head; apply Known.at; apply FsAt.head; rfl; rfl; rfl; omega; simp only [maxLen]; omega; omega; intro v' seg' hrow'; obtain ⟨p', c', rfl⟩ := hrow'.form; (refine ⟨_, (by (repeat (first | exact AtSeg.head | apply AtSeg.cons | apply AtSeg.app))), ?_⟩); (try simp only [List.cons_append, List.nil_append]))
  (apply LW.drop; exact List.Sublist.cons _ (List.Sublist.refl _))
  (apply LW.v0; rfl; rfl; apply ValP.nilCheck; rfl; apply LW.v0; rfl; rfl; apply ValP.fieldAddr; rfl; rfl; apply LW.store; rfl; rfl; apply SetAt.head; apply Wr.cells; rfl; rfl; simp only [wc, List.size_toArray, List.length_cons, List.length_nil]; omega; simp only [fillC, wc, wrCells, Value.cells, List.toList_toArray, List.setIfInBounds_toArray, List.set_cons_succ, List.set_cons_zero, Nat.reduceAdd, Nat.reduceMul, Nat.zero_add, Nat.mul_one]; rfl; apply LW.nil; refine thenN ?_; refine CW.seq ?_; refine CW.region ?_; apply LW.v0; rfl; rfl; apply ValP.assign; rfl; apply LW.nil; refine thenN ?_; refine CW.ret ?_)
  apply inI
  (exact .inl rfl)
  (exact Shut.nil)
  rfl
  (apply ResL.cons; exact Res.tmp rfl; exact ResL.nil)
  rfl
  exact ⟨trivial, _, _, hrow', rfl⟩
theorem String_calls (w0 : World) (S : List Nat) (b : Nat) (p v : Value) (n : Nat) (hn : n < 1000) (h0 : 0 < n) (l : List UInt8) (xs : List Value) (hx : xs = l.map fun u => .int .u8 u.toNat) (seg fs : Fs) (hrow : IsRow 5 1 v n xs seg) (w : World) (hs : St w0 S ((b, .cells #[p, v] 57 (0, 0)) :: (seg ++ fs)) w) :
    Calls Tryd.prog 31 #[.pointer (some ⟨b, 0, none⟩)] w (fun x w' => ∃ y fs', x = .returned y ∧ (y = .string ⟨l.toArray⟩ ∧ fs' = fs) ∧ St w0 S fs' w') := by
  refine calls_inline (args := [_]) Tryd.func31 rfl Tryd.ntmps31 rfl ?_ hs
  cases hrow with
  | nil => cases h0
  | @own g _ cap cur _ hle hmx hc ht hl =>
    try simp only [List.cons_append, List.nil_append]
    have hsz : l.length = n := by rw [hx, List.length_map] at hl; omega
    subst hsz
    (refine CW.seq ?_; refine CW.region ?_; apply LW.v0; rfl; rfl; apply ValP.assign; rfl; apply LW.nil; refine thenN ?_; refine CW.seq ?_; apply CW.pre; refine AnyW.any 10 mixed (by decide +kernel) ?_; (try simp only [tsOf_cons, tsOf_nil, tsOf_app]); apply DW.v0; rfl; rfl; rfl; exact WantT.none; rfl; apply ValP.move; rfl; apply DW.v0; rfl; rfl; rfl; exact WantT.none; rfl; apply ValP.nilCheck; rfl; apply DW.v0; rfl; rfl; rfl; exact WantT.none; rfl; apply ValP.fieldAddr; rfl; rfl; apply DW.loadO; rfl; rfl; rfl; exact WantT.none; rfl; apply TRead.head; exact ancB_nil; exact Rd.one' rfl; apply DW.sliceData; rfl; rfl; rfl; exact WantT.none; rfl; omega; apply TRead.tail; apply TRead.head; exact ancB_nil; apply DW.v0; rfl; rfl; rfl; exact WantT.none; rfl; apply ValP.move; rfl; apply DW.v0; rfl; rfl; rfl; exact WantT.none; rfl; apply ValP.nilCheck; rfl; apply DW.v0; rfl; rfl; rfl; exact WantT.none; rfl; apply ValP.fieldAddr; rfl; rfl; apply DW.loadO; rfl; rfl; rfl; exact WantT.none; rfl; apply TRead.head; exact ancB_nil; exact Rd.one' rfl; apply DW.v0; rfl; rfl; rfl; exact WantT.none; rfl; apply ValP.lenR; rfl; infer_instance; rfl; apply DW.nil; simp only [fsOf_cons, fsOf_nil, fsOf_app, fsOf_tsOf, fsOf_new])
    apply LW.unsafeString
    rfl
    infer_instance
    rfl
    rfl
    rfl
    rfl
    · intro h; rw [h] at h0; cases h0
    · omega
    case hset => (apply SetAt.tail; apply SetAt.head)
    · intro j u hj
      have h2 := congrArg (·[j]?) (ht.trans hx)
      simp only [List.getElem?_map, hj, Option.map_some, Nat.mul_one] at h2
      rw [List.getElem?_take] at h2
      split at h2
      · simpa using h2
      · cases h2
    refine LW.drop fs (by (apply List.Sublist.cons; apply List.Sublist.cons; exact List.Sublist.refl _)) ?_
    (apply LW.v0; rfl; rfl; apply ValP.assign; rfl; apply LW.nil; refine thenN ?_; refine CW.ret ?_)
    apply inI
    (exact .inl rfl)
    (exact Shut.nil)
    rfl
    (apply ResL.cons; exact Res.tmp rfl; exact ResL.nil)
    rfl
    exact ⟨rfl, rfl⟩
end Go.Proofs.YtficnjnnhcadaaaDoor

/-
  Contracts of the sponge: digests in digits.
  Conditions: none.
-/
namespace Go.Proofs.YtficnjnnhcadaaaDoor
open Go Go.RowKit SL
set_option maxRecDepth 8000
set_option maxHeartbeats 4000000
set_option linter.unusedSimpArgs false
set_option linter.unusedVariables false
attribute [local irreducible] SL.CW SL.LW SL.DW Calls SL.Ret SL.RetG SL.beginQ SL.roundQ SL.rangeQ SL.inQ SL.RW SL.AnyW SL.thenQ SL.thenC SL.thenW SL.blkQ SL.finQ SL.ValP SL.NewP SL.SetP SL.CallP SL.Rd SL.Wr SL.Known
def idText (l : List UInt8) : List UInt8 := l.flatMap fun u => [hexd (u.toNat / 16), hexd (u.toNat % 16)]
theorem idText_len (l : List UInt8) : (idText l).length = 2 * l.length := by
  induction l with
  | nil => rfl
  | cons a l ih => simp [idText] at *; omega
theorem idText_app (l m : List UInt8) : idText (l ++ m) = idText l ++ idText m := by simp [idText]
theorem idText_take (l : List UInt8) (i : Nat) (h : i < l.length) : idText (l.take (i + 1)) = idText (l.take i) ++ [hexd ((l.getD i 0).toNat / 16), hexd ((l.getD i 0).toNat % 16)] := by
  rw [List.take_succ_eq_append_getElem h, idText_app, List.getD_eq_getElem?_getD, List.getElem?_eq_getElem h]
  rfl
structure TX where
  m : Nat
  p : Value
  v : Value
  seg : Fs
theorem Text_calls (id : List UInt8) (hid : id.length = 32) (w : World) : Calls Tryd.prog 19 #[.agg (uca id)] w (Ret w (.string ⟨(idText id).toArray⟩)) := by
  refine enter (args := [_]) _ [] [] Tryd.func19 rfl Tryd.ntmps19 rfl (by simp) .nil ?_
  (refine CW.seq ?_; refine CW.region ?_; apply LW.boxA; rfl; rfl; intro _; apply LW.v0; rfl; rfl; apply ValP.assign; rfl; apply LW.nil; refine thenN ?_; refine CW.seq ?_; refine CW.region ?_; apply LW.allocA; rfl; intro _; apply LW.nil; refine thenN ?_; refine CW.seq ?_; refine CW.seq ?_; refine CW.region ?_; apply LW.load; rfl; rfl; apply Known.at; apply FsAt.tail; apply FsAt.head; apply rd_ucaW; assumption; apply LW.v0; rfl; rfl; apply ValP.move; rfl; apply LW.nil; refine thenN ?_; refine CW.block ?_)
  rename_i bw b
  refine CW.loop (fun x : TX => ([(7, .int .i64 (x.m : Int)), (6, .agg (uca id)), (3, .pointer (some ⟨b, 0, none⟩))],
    (b, .cells #[x.p, x.v] 57 (0, 0)) :: (x.seg ++ [])))
    (fun x => x.m ≤ 32 ∧ (x.p = .pointer none ∨ x.p = .pointer (some ⟨b, 0, none⟩)) ∧ IsRow 5 1 x.v (2 * x.m) (ucs (idText (id.take x.m))) x.seg) (fun x => 32 - x.m) ⟨0, .pointer none, .slice none 0 0, []⟩ ⟨Nat.zero_le _, .inl rfl, .nil⟩ ⟨rfl, rfl, rfl, trivial⟩ (by (apply List.Sublist.cons_cons; apply List.Sublist.append_left; apply List.Sublist.cons; exact List.Sublist.refl _)) ?_
  rintro ⟨m, p, v, seg⟩ ⟨hm, hp, hrow⟩
  dsimp only at hm hp hrow ⊢
  obtain ⟨q, c, rfl⟩ := hrow.form
  rcases Nat.lt_or_ge m 32 with h32 | h32
  · have hu : (id.getD m 0).toNat < 256 := UInt8.toNat_lt _
    (refine CW.seq ?_; refine CW.region ?_; apply LW.v0; rfl; rfl; apply ValP.lssT; rfl; rfl; omega; apply LW.nil; refine thenN ?_; refine CW.seq ?_; apply CW.condT; rfl; (with_reducible rfl); refine CW.skip ?_; refine thenN ?_; refine CW.seq ?_; refine CW.block ?_; refine CW.seq ?_; refine CW.region ?_; apply LW.v0; rfl; rfl; apply ValP.indexA; rfl; rfl; rfl; rfl; omega; apply nth_uca; omega; apply LW.v0; rfl; rfl; apply ValP.assign; rfl; apply LW.nil; refine thenN ?_; refine CW.seq ?_; refine CW.region ?_; apply LW.v0; rfl; rfl; apply ValP.move; rfl; apply LW.v0; rfl; rfl; apply ValP.quoBL; rfl; rfl; decide; assumption; decide)
    (apply LW.v0; rfl; rfl; apply ValP.indexStr; rfl; rfl; rfl; exact hexd_get _ (by omega))
    (apply LW.callSt; rfl; rfl; infer_instance; apply ArgsOk.cons; rfl; apply ArgsOk.cons; rfl; exact ArgsOk.nil; intro w hs)
    exact WriteByte_calls _ _ _ _ _ hp _ _ (by omega) (UInt8.toNat_lt _) _ _ _ hrow w hs
    rintro _ _ ⟨-, v', seg', hrow', rfl⟩
    (apply LW.nil; refine thenN ?_; refine CW.region ?_; apply LW.v0; rfl; rfl; apply ValP.move; rfl; apply LW.v0; rfl; rfl; apply ValP.remBL; rfl; rfl; decide; decide)
    (apply LW.v0; rfl; rfl; apply ValP.indexStr; rfl; rfl; rfl; exact hexd_get _ (by omega))
    (apply LW.callSt; rfl; rfl; infer_instance; apply ArgsOk.cons; rfl; apply ArgsOk.cons; rfl; exact ArgsOk.nil; intro w hs)
    exact WriteByte_calls _ _ _ _ _ (.inr rfl) _ _ (by omega) (UInt8.toNat_lt _) _ _ _ hrow' w hs
    rintro _ _ ⟨-, v2, seg2, hrow2, rfl⟩
    (apply LW.nil; refine blkN ?_; refine thenN ?_; refine CW.region ?_; apply LW.v0; rfl; rfl; apply ValP.addZL; rfl; rfl; decide; omega; apply LW.v0; rfl; rfl; apply ValP.move; rfl; apply LW.nil)
    refine thenX ⟨rfl, ⟨m + 1, _, v2, seg2⟩, ⟨h32, .inr rfl, ?_⟩, ?_, ⟨rfl, rfl, rfl, trivial⟩, List.Sublist.refl _⟩
    · dsimp only
      rw [idText_take id m (by omega), ucs_app, show 2 * (m + 1) = 2 * m + 1 + 1 by omega]
      simpa [ucs] using hrow2
    · dsimp only
      omega
  · obtain rfl : m = 32 := by omega
    have hx : ucs (idText (id.take 32)) = (idText id).map fun u => .int .u8 u.toNat := by rw [List.take_of_length_le (by omega), ucs_map]
    (refine CW.seq ?_; refine CW.region ?_; apply LW.v0; rfl; rfl; apply ValP.lssF; rfl; rfl; omega; apply LW.nil; refine thenN ?_; refine CW.seq ?_; apply CW.condF; rfl; (with_reducible rfl); refine CW.exit ?_; refine thenE ?_; refine thenE ?_; refine blkE rfl ?_; refine thenN ?_; refine CW.seq ?_; refine CW.region ?_)
    (apply LW.callSt; rfl; rfl; infer_instance; apply ArgsOk.cons; rfl; exact ArgsOk.nil; intro w hs)
    exact String_calls _ _ _ _ _ _ (by decide) (by decide) (idText id) _ hx _ _ hrow w hs
    rintro _ _ ⟨rfl, rfl⟩
    (apply LW.v0; rfl; rfl; apply ValP.assign; rfl; apply LW.nil; refine thenN ?_; refine CW.ret ?_)
    (apply finR; exact .inl rfl; rfl; rfl; rfl; apply ResL.cons; exact Res.tmp rfl; exact ResL.nil)
    rfl
/-! ### The document's -/
theorem rText_calls (id : List UInt8) (hid : id.length = 32) (w : World) : Calls Tryd.prog 20 #[.agg (uca id)] w (Ret w (.string ⟨(idText id).toArray⟩)) := by
  refine enter (args := [_]) _ [] [] Tryd.func20 rfl Tryd.ntmps20 rfl (by simp) .nil ?_
  (refine CW.seq ?_; refine CW.region ?_; apply LW.boxA; rfl; rfl; intro _; apply LW.v0; rfl; rfl; apply ValP.assign; rfl; apply LW.nil; refine thenN ?_; refine CW.seq ?_; refine CW.region ?_)
  refine LW.n0 rfl rfl (NewP.make0 (c := 64) inferInstance inferInstance inferInstance rfl rfl (by decide) (by decide)) fun g => ?_
  simp only [Sh.val]
  (apply LW.v0; rfl; rfl; apply ValP.assign; rfl; apply LW.nil; refine thenN ?_; refine CW.seq ?_; refine CW.seq ?_; refine CW.region ?_; apply LW.load; rfl; rfl; apply Known.at; apply FsAt.tail; apply FsAt.head; apply rd_ucaW; assumption; apply LW.v0; rfl; rfl; apply ValP.move; rfl; apply LW.nil; refine thenN ?_; refine CW.block ?_)
  refine CW.loop (fun x : TX => ([(8, .int .i64 (x.m : Int)), (7, .agg (uca id)), (3, x.v)],
    x.seg ++ []))
    (fun x => x.m ≤ 32 ∧ IsRow 5 1 x.v (2 * x.m) (ucs (idText (id.take x.m))) x.seg) (fun x => 32 - x.m) ⟨0, .pointer none, .slice (some ⟨g, 0, none⟩) 0 64, _⟩ ⟨Nat.zero_le _, .own (by decide) (by decide) (cur := madeCells (Value.int .u8 0).cells (64 * 1)) (by kernel_rfl) (by kernel_rfl) (by kernel_rfl)⟩ ⟨rfl, rfl, rfl, trivial⟩ (by (apply List.Sublist.append_left; apply List.Sublist.cons; exact List.Sublist.refl _)) ?_
  rintro ⟨m, p, v, seg⟩ ⟨hm, hrow⟩
  dsimp only at hm hrow ⊢
  obtain ⟨q, c, rfl⟩ := hrow.form
  rcases Nat.lt_or_ge m 32 with h32 | h32
  · have hu : (id.getD m 0).toNat < 256 := UInt8.toNat_lt _
    (refine CW.seq ?_; refine CW.region ?_; apply LW.v0; rfl; rfl; apply ValP.lssT; rfl; rfl; omega; apply LW.nil; refine thenN ?_; refine CW.seq ?_; apply CW.condT; rfl; (with_reducible rfl); refine CW.skip ?_; refine thenN ?_; refine CW.seq ?_; refine CW.block ?_; refine CW.seq ?_; refine CW.region ?_; apply LW.v0; rfl; rfl; apply ValP.indexA; rfl; rfl; rfl; rfl; omega; apply nth_uca; omega; apply LW.v0; rfl; rfl; apply ValP.assign; rfl; apply LW.nil; refine thenN ?_; apply CW.pre; refine AnyW.any 8 mixed (by decide +kernel) ?_; (try simp only [tsOf_cons, tsOf_nil, tsOf_app]); apply DW.v0; rfl; rfl; rfl; exact WantT.none; rfl; apply ValP.move; rfl; apply DW.v0; rfl; rfl; rfl; exact WantT.none; rfl; apply ValP.move; rfl; apply DW.v0; rfl; rfl; rfl; exact WantT.none; rfl; apply ValP.quoBL; rfl; rfl; decide; assumption; decide; apply DW.v0; rfl; rfl; rfl; exact WantT.none; rfl; apply ValP.indexStr; rfl; rfl; rfl; exact hexd_get _ (by omega); apply DW.v0; rfl; rfl; rfl; exact WantT.none; rfl; apply ValP.move; rfl; apply DW.v0; rfl; rfl; rfl; exact WantT.none; rfl; apply ValP.remBL; rfl; rfl; decide; decide; apply DW.v0; rfl; rfl; rfl; exact WantT.none; rfl; apply ValP.indexStr; rfl; rfl; rfl; exact hexd_get _ (by omega); apply DW.lay2; rfl; rfl; rfl; exact WantT.none; infer_instance; infer_instance; rfl; rfl; intro _; apply DW.nil; simp only [fsOf_cons, fsOf_nil, fsOf_app, fsOf_tsOf, fsOf_new])
    (apply LW.append; rfl; rfl; infer_instance; infer_instance; infer_instance; rfl; rfl; rfl; (case hrow => assumption); apply AtSeg.cons; exact AtSeg.head; apply Known.at; apply FsAt.head; rfl; rfl; rfl; omega; simp only [maxLen]; omega; omega; intro v' seg' hrow'; obtain ⟨p', c', rfl⟩ := hrow'.form; (refine ⟨_, (by (repeat (first | exact AtSeg.head | apply AtSeg.cons | apply AtSeg.app))), ?_⟩); (try simp only [List.cons_append, List.nil_append]))
    (apply LW.drop; exact List.Sublist.cons _ (List.Sublist.refl _))
    (apply LW.v0; rfl; rfl; apply ValP.assign; rfl; apply LW.nil; refine blkN ?_; refine thenN ?_; refine CW.region ?_; apply LW.v0; rfl; rfl; apply ValP.addZL; rfl; rfl; decide; omega; apply LW.v0; rfl; rfl; apply ValP.move; rfl; apply LW.nil)
    refine thenX ⟨rfl, ⟨m + 1, p, _, seg'⟩, ⟨h32, ?_⟩, ?_, ⟨rfl, rfl, rfl, trivial⟩, List.Sublist.refl _⟩
    · dsimp only
      rw [idText_take id m (by omega), ucs_app, show 2 * (m + 1) = 2 * m + 2 by omega]
      simpa [ucs] using hrow'
    · dsimp only
      omega
  · obtain rfl : m = 32 := by omega
    rw [List.take_of_length_le (by omega)] at hrow
    (refine CW.seq ?_; refine CW.region ?_; apply LW.v0; rfl; rfl; apply ValP.lssF; rfl; rfl; omega; apply LW.nil; refine thenN ?_; refine CW.seq ?_; apply CW.condF; rfl; (with_reducible rfl); refine CW.exit ?_; refine thenE ?_; refine thenE ?_; refine blkE rfl ?_; refine thenN ?_; refine CW.seq ?_; refine CW.region ?_; apply LW.v0; rfl; rfl; apply ValP.move; rfl)
    refine LW.toStr rfl inferInstance inferInstance inferInstance rfl (fun w hs => hrow.atSeg (by (exact AtSeg.head)) hs) ?_
    (apply LW.v0; rfl; rfl; apply ValP.assign; rfl; apply LW.nil; refine thenN ?_; refine CW.ret ?_)
    (apply finR; exact .inl rfl; rfl; rfl; rfl; apply ResL.cons; exact Res.tmp rfl; exact ResL.nil)
    rfl
end Go.Proofs.YtficnjnnhcadaaaDoor

/-
  Contracts of the sponge: how digests stand.
  Conditions: none.
-/
namespace Go.Proofs.YtficnjnnhcadaaaDoor
open Go Go.RowKit SL
set_option maxRecDepth 8000
set_option maxHeartbeats 4000000
set_option linter.unusedSimpArgs false
set_option linter.unusedVariables false
attribute [local irreducible] SL.CW SL.LW SL.DW Calls SL.Ret SL.RetG SL.beginQ SL.roundQ SL.rangeQ SL.inQ SL.RW SL.AnyW SL.thenQ SL.thenC SL.thenW SL.blkQ SL.finQ SL.ValP SL.NewP SL.SetP SL.CallP SL.Rd SL.Wr SL.Known
def lessB (a b : List UInt8) : Bool := decide (bev a < bev b)
theorem Less_calls (a b : List UInt8) (ha : a.length = 32) (hb : b.length = 32) (w : World) : Calls Tryd.prog 21 #[.agg (uca a), .agg (uca b)] w (Ret w (.bool (lessB a b))) := by
  have hC0 : ∀ w b1 b2, w.heap[b1]? = some (.cells (uca a) 27 (0, 0)) → w.heap[b2]? = some (.cells (uca b) 27 (0, 0)) → Calls Tryd.prog 32 #[.slice (some ⟨b1, 0, none⟩) 32 32, .slice (some ⟨b2, 0, none⟩) 32 32] w (Ret w (.int .i64 (if bev a < bev b then -1 else if bev b < bev a then 1 else 0))) := fun w b1 b2 h1 h2 => by
    have r1 := own_row (off := 0) (n := 32) (c := 32) h1 (by omega) (by decide) (by decide)
    have r2 := own_row (off := 0) (n := 32) (c := 32) h2 (by omega) (by decide) (by decide)
    rw [List.drop_zero, List.take_of_length_le (by omega)] at r1 r2
    exact Compare_calls _ _ a b 32 32 w r1 r2 (by rw [ha, hb])
  unfold lessB
  rcases Nat.lt_or_ge (bev a) (bev b) with h | h
  · rw [if_pos h] at hC0
    have hC := hC0
    rw [decide_eq_true h]
    refine enter (args := [_, _]) _ [] [] Tryd.func21 rfl Tryd.ntmps21 rfl (by simp) .nil ?_
    (refine CW.seq ?_; refine CW.region ?_; apply LW.boxA; rfl; rfl; intro _; apply LW.boxA; rfl; rfl; intro _; apply LW.v0; rfl; rfl; apply ValP.assign; rfl; apply LW.nil; refine thenN ?_; refine CW.seq ?_; apply CW.pre; refine AnyW.any 2 mixed (by decide +kernel) ?_; (try simp only [tsOf_cons, tsOf_nil, tsOf_app]); apply DW.v0; rfl; rfl; rfl; exact WantT.none; rfl; apply ValP.cutArrAll; infer_instance; infer_instance; rfl; apply DW.v0; rfl; rfl; rfl; exact WantT.none; rfl; apply ValP.cutArrAll; infer_instance; infer_instance; rfl; apply DW.nil; simp only [fsOf_cons, fsOf_nil, fsOf_app, fsOf_tsOf, fsOf_new]; apply LW.callE; rfl; rfl; infer_instance; apply ArgsOk.cons; rfl; apply ArgsOk.cons; rfl; exact ArgsOk.nil; intro w _; rename_i hst; (exact hC w _ _ (hst.own (_, .cells _ _ _) (by (repeat (first | exact List.Mem.head _ | apply List.Mem.tail)))).2 (hst.own (_, .cells _ _ _) (by (repeat (first | exact List.Mem.head _ | apply List.Mem.tail)))).2); apply LW.v0; rfl; rfl; apply ValP.lssT; rfl; rfl; omega; apply LW.v0; rfl; rfl; apply ValP.assign; rfl; apply LW.nil; refine thenN ?_; refine CW.ret ?_)
    (apply finR; exact .inl rfl; rfl; rfl; rfl; apply ResL.cons; exact Res.tmp rfl; exact ResL.nil)
    rfl
  · rw [if_neg (by omega)] at hC0
    rw [decide_eq_false (by omega)]
    rcases Nat.lt_or_ge (bev b) (bev a) with h2 | h2
    · rw [if_pos h2] at hC0
      have hC := hC0
      refine enter (args := [_, _]) _ [] [] Tryd.func21 rfl Tryd.ntmps21 rfl (by simp) .nil ?_
      (refine CW.seq ?_; refine CW.region ?_; apply LW.boxA; rfl; rfl; intro _; apply LW.boxA; rfl; rfl; intro _; apply LW.v0; rfl; rfl; apply ValP.assign; rfl; apply LW.nil; refine thenN ?_; refine CW.seq ?_; apply CW.pre; refine AnyW.any 2 mixed (by decide +kernel) ?_; (try simp only [tsOf_cons, tsOf_nil, tsOf_app]); apply DW.v0; rfl; rfl; rfl; exact WantT.none; rfl; apply ValP.cutArrAll; infer_instance; infer_instance; rfl; apply DW.v0; rfl; rfl; rfl; exact WantT.none; rfl; apply ValP.cutArrAll; infer_instance; infer_instance; rfl; apply DW.nil; simp only [fsOf_cons, fsOf_nil, fsOf_app, fsOf_tsOf, fsOf_new]; apply LW.callE; rfl; rfl; infer_instance; apply ArgsOk.cons; rfl; apply ArgsOk.cons; rfl; exact ArgsOk.nil; intro w _; rename_i hst; (exact hC w _ _ (hst.own (_, .cells _ _ _) (by (repeat (first | exact List.Mem.head _ | apply List.Mem.tail)))).2 (hst.own (_, .cells _ _ _) (by (repeat (first | exact List.Mem.head _ | apply List.Mem.tail)))).2); apply LW.v0; rfl; rfl; apply ValP.lssF; rfl; rfl; omega; apply LW.v0; rfl; rfl; apply ValP.assign; rfl; apply LW.nil; refine thenN ?_; refine CW.ret ?_)
      (apply finR; exact .inl rfl; rfl; rfl; rfl; apply ResL.cons; exact Res.tmp rfl; exact ResL.nil)
      rfl
    · rw [if_neg (by omega)] at hC0
      have hC := hC0
      refine enter (args := [_, _]) _ [] [] Tryd.func21 rfl Tryd.ntmps21 rfl (by simp) .nil ?_
      (refine CW.seq ?_; refine CW.region ?_; apply LW.boxA; rfl; rfl; intro _; apply LW.boxA; rfl; rfl; intro _; apply LW.v0; rfl; rfl; apply ValP.assign; rfl; apply LW.nil; refine thenN ?_; refine CW.seq ?_; apply CW.pre; refine AnyW.any 2 mixed (by decide +kernel) ?_; (try simp only [tsOf_cons, tsOf_nil, tsOf_app]); apply DW.v0; rfl; rfl; rfl; exact WantT.none; rfl; apply ValP.cutArrAll; infer_instance; infer_instance; rfl; apply DW.v0; rfl; rfl; rfl; exact WantT.none; rfl; apply ValP.cutArrAll; infer_instance; infer_instance; rfl; apply DW.nil; simp only [fsOf_cons, fsOf_nil, fsOf_app, fsOf_tsOf, fsOf_new]; apply LW.callE; rfl; rfl; infer_instance; apply ArgsOk.cons; rfl; apply ArgsOk.cons; rfl; exact ArgsOk.nil; intro w _; rename_i hst; (exact hC w _ _ (hst.own (_, .cells _ _ _) (by (repeat (first | exact List.Mem.head _ | apply List.Mem.tail)))).2 (hst.own (_, .cells _ _ _) (by (repeat (first | exact List.Mem.head _ | apply List.Mem.tail)))).2); apply LW.v0; rfl; rfl; apply ValP.lssF; rfl; rfl; omega; apply LW.v0; rfl; rfl; apply ValP.assign; rfl; apply LW.nil; refine thenN ?_; refine CW.ret ?_)
      (apply finR; exact .inl rfl; rfl; rfl; rfl; apply ResL.cons; exact Res.tmp rfl; exact ResL.nil)
      rfl
/-! ### The document's -/
theorem less_at {a b : List UInt8} {i : Nat} (hl : a.length = b.length) (hi : i < a.length) (ht : a.take i = b.take i) (hne : (a.getD i 0).toNat ≠ (b.getD i 0).toNat) : lessB a b = decide ((a.getD i 0).toNat < (b.getD i 0).toNat) := by
  have hib : i < b.length := by omega
  have ea := split_at hi
  have eb := split_at hib
  rw [List.getD_eq_getElem?_getD, List.getD_eq_getElem?_getD, List.getElem?_eq_getElem hi, List.getElem?_eq_getElem hib] at *
  dsimp only [Option.getD_some] at *
  have hln : (a.drop (i + 1)).length = (b.drop (i + 1)).length := by simp [hl]
  rw [← ht] at eb
  unfold lessB
  rw [decide_eq_decide]
  rcases Nat.lt_or_gt_of_ne hne with h | h
  · have h1 := bev_lex (a.take i) a[i] b[i] _ _ hln h
    rw [← ea, ← eb] at h1
    exact ⟨fun _ => h, fun _ => h1⟩
  · have h1 := bev_lex (a.take i) b[i] a[i] _ _ hln.symm h
    rw [← ea, ← eb] at h1
    constructor <;> intro h2 <;> omega
theorem take_more {a b : List UInt8} {i : Nat} (hl : a.length = b.length) (hi : i < a.length) (ht : a.take i = b.take i) (he : (a.getD i 0).toNat = (b.getD i 0).toNat) : a.take (i + 1) = b.take (i + 1) := by
  have hib : i < b.length := by omega
  have e := UInt8.toNat_inj.1 he
  rw [List.getD_eq_getElem?_getD, List.getD_eq_getElem?_getD, List.getElem?_eq_getElem hi, List.getElem?_eq_getElem hib] at e
  rw [List.take_succ_eq_append_getElem hi, List.take_succ_eq_append_getElem hib, ht, show a[i] = b[i] by simpa using e]
theorem rLess_calls (a b : List UInt8) (ha : a.length = 32) (hb : b.length = 32) (w : World) : Calls Tryd.prog 22 #[.agg (uca a), .agg (uca b)] w (Ret w (.bool (lessB a b))) := by
  refine enter (args := [_, _]) _ [] [] Tryd.func22 rfl Tryd.ntmps22 rfl (by simp) .nil ?_
  (refine CW.seq ?_; refine CW.region ?_; apply LW.boxA; rfl; rfl; intro _; apply LW.boxA; rfl; rfl; intro _; apply LW.v0; rfl; rfl; apply ValP.assign; rfl; apply LW.nil; refine thenN ?_; refine CW.seq ?_; refine CW.seq ?_; refine CW.region ?_; apply LW.v0; rfl; rfl; apply ValP.move; rfl; apply LW.nil; refine thenN ?_; refine CW.block ?_)
  rename_i b1 b2
  refine CW.loop (fun i : Nat => ([(6, .int .i64 (i : Int)), (2, .pointer (some ⟨b1, 0, none⟩)), (3, .pointer (some ⟨b2, 0, none⟩))],
    [(b2, .cells (uca b) 27 (0, 0)), (b1, .cells (uca a) 27 (0, 0))]))
    (fun i => i ≤ 32 ∧ a.take i = b.take i) (fun i => 32 - i) 0 ⟨Nat.zero_le _, rfl⟩ ⟨rfl, rfl, rfl, trivial⟩ (List.Sublist.refl _) ?_
  rintro i ⟨hi, ht⟩
  dsimp only at hi ht ⊢
  rcases Nat.lt_or_ge i 32 with h32 | h32
  · by_cases he : (a.getD i 0).toNat = (b.getD i 0).toNat
    · (refine CW.seq ?_; refine CW.region ?_; apply LW.v0; rfl; rfl; apply ValP.lssT; rfl; rfl; omega; apply LW.nil; refine thenN ?_; refine CW.seq ?_; apply CW.condT; rfl; (with_reducible rfl); refine CW.skip ?_; refine thenN ?_; refine CW.seq ?_; refine CW.block ?_; refine CW.seq ?_; refine CW.region ?_; apply LW.v0; rfl; rfl; apply ValP.move; rfl; apply LW.v0; rfl; rfl; apply ValP.assign; rfl; apply LW.nil; refine thenN ?_; refine CW.seq ?_; apply CW.pre; refine AnyW.any 6 mixed (by decide +kernel) ?_; (try simp only [tsOf_cons, tsOf_nil, tsOf_app]); apply DW.v0; rfl; rfl; rfl; exact WantT.none; rfl; apply ValP.move; rfl; apply DW.v0; rfl; rfl; rfl; exact WantT.none; rfl; apply ValP.indexAddrA; rfl; rfl; rfl; omega; apply DW.loadO; rfl; rfl; rfl; exact WantT.none; rfl; apply TRead.tail; apply TRead.head; exact ancB_nil; apply rd_uca; omega; apply DW.v0; rfl; rfl; rfl; exact WantT.none; rfl; apply ValP.move; rfl; apply DW.v0; rfl; rfl; rfl; exact WantT.none; rfl; apply ValP.indexAddrA; rfl; rfl; rfl; omega; apply DW.loadO; rfl; rfl; rfl; exact WantT.none; rfl; apply TRead.head; exact ancB_nil; apply rd_uca; omega; apply DW.nil; simp only [fsOf_cons, fsOf_nil, fsOf_app, fsOf_tsOf, fsOf_new]; apply LW.v0; rfl; rfl; apply ValP.neF; rfl; rfl; omega; apply LW.nil; refine thenN ?_; apply CW.condF; rfl; (with_reducible rfl); refine CW.skip ?_; refine blkN ?_; refine thenN ?_; refine CW.region ?_; apply LW.v0; rfl; rfl; apply ValP.addZL; rfl; rfl; decide; omega; apply LW.v0; rfl; rfl; apply ValP.move; rfl; apply LW.nil)
      exact thenX ⟨rfl, i + 1, ⟨h32, take_more (by omega) (by omega) ht he⟩, by omega, ⟨rfl, rfl, rfl, trivial⟩, List.Sublist.refl _⟩
    · have hl := less_at (by omega) (by omega) ht he
      rcases Nat.lt_or_ge (a.getD i 0).toNat (b.getD i 0).toNat with h | h
      · (refine CW.seq ?_; refine CW.region ?_; apply LW.v0; rfl; rfl; apply ValP.lssT; rfl; rfl; omega; apply LW.nil; refine thenN ?_; refine CW.seq ?_; apply CW.condT; rfl; (with_reducible rfl); refine CW.skip ?_; refine thenN ?_; refine CW.seq ?_; refine CW.block ?_; refine CW.seq ?_; refine CW.region ?_; apply LW.v0; rfl; rfl; apply ValP.move; rfl; apply LW.v0; rfl; rfl; apply ValP.assign; rfl; apply LW.nil; refine thenN ?_; refine CW.seq ?_; apply CW.pre; refine AnyW.any 6 mixed (by decide +kernel) ?_; (try simp only [tsOf_cons, tsOf_nil, tsOf_app]); apply DW.v0; rfl; rfl; rfl; exact WantT.none; rfl; apply ValP.move; rfl; apply DW.v0; rfl; rfl; rfl; exact WantT.none; rfl; apply ValP.indexAddrA; rfl; rfl; rfl; omega; apply DW.loadO; rfl; rfl; rfl; exact WantT.none; rfl; apply TRead.tail; apply TRead.head; exact ancB_nil; apply rd_uca; omega; apply DW.v0; rfl; rfl; rfl; exact WantT.none; rfl; apply ValP.move; rfl; apply DW.v0; rfl; rfl; rfl; exact WantT.none; rfl; apply ValP.indexAddrA; rfl; rfl; rfl; omega; apply DW.loadO; rfl; rfl; rfl; exact WantT.none; rfl; apply TRead.head; exact ancB_nil; apply rd_uca; omega; apply DW.nil; simp only [fsOf_cons, fsOf_nil, fsOf_app, fsOf_tsOf, fsOf_new]; apply LW.v0; rfl; rfl; apply ValP.neT; rfl; rfl; omega; apply LW.nil; refine thenN ?_; apply CW.condT; rfl; (with_reducible rfl); refine CW.seq ?_; apply CW.pre; refine AnyW.any 6 mixed (by decide +kernel) ?_; (try simp only [tsOf_cons, tsOf_nil, tsOf_app]); apply DW.v0; rfl; rfl; rfl; exact WantT.none; rfl; apply ValP.move; rfl; apply DW.v0; rfl; rfl; rfl; exact WantT.none; rfl; apply ValP.indexAddrA; rfl; rfl; rfl; omega; apply DW.loadO; rfl; rfl; rfl; exact WantT.none; rfl; apply TRead.tail; apply TRead.head; exact ancB_nil; apply rd_uca; omega; apply DW.v0; rfl; rfl; rfl; exact WantT.none; rfl; apply ValP.move; rfl; apply DW.v0; rfl; rfl; rfl; exact WantT.none; rfl; apply ValP.indexAddrA; rfl; rfl; rfl; omega; apply DW.loadO; rfl; rfl; rfl; exact WantT.none; rfl; apply TRead.head; exact ancB_nil; apply rd_uca; omega; apply DW.nil; simp only [fsOf_cons, fsOf_nil, fsOf_app, fsOf_tsOf, fsOf_new]; apply LW.v0; rfl; rfl; apply ValP.lssT; rfl; rfl; omega; apply LW.v0; rfl; rfl; apply ValP.assign; rfl; apply LW.nil; refine thenN ?_; refine CW.ret ?_; refine blkR ?_; refine thenR ?_; refine thenR ?_; refine blkR ?_; refine thenR ?_)
        (apply finR; exact .inl rfl; rfl; rfl; rfl; apply ResL.cons; exact Res.tmp rfl; exact ResL.nil)
        rw [hl, decide_eq_true h]; rfl
      · (refine CW.seq ?_; refine CW.region ?_; apply LW.v0; rfl; rfl; apply ValP.lssT; rfl; rfl; omega; apply LW.nil; refine thenN ?_; refine CW.seq ?_; apply CW.condT; rfl; (with_reducible rfl); refine CW.skip ?_; refine thenN ?_; refine CW.seq ?_; refine CW.block ?_; refine CW.seq ?_; refine CW.region ?_; apply LW.v0; rfl; rfl; apply ValP.move; rfl; apply LW.v0; rfl; rfl; apply ValP.assign; rfl; apply LW.nil; refine thenN ?_; refine CW.seq ?_; apply CW.pre; refine AnyW.any 6 mixed (by decide +kernel) ?_; (try simp only [tsOf_cons, tsOf_nil, tsOf_app]); apply DW.v0; rfl; rfl; rfl; exact WantT.none; rfl; apply ValP.move; rfl; apply DW.v0; rfl; rfl; rfl; exact WantT.none; rfl; apply ValP.indexAddrA; rfl; rfl; rfl; omega; apply DW.loadO; rfl; rfl; rfl; exact WantT.none; rfl; apply TRead.tail; apply TRead.head; exact ancB_nil; apply rd_uca; omega; apply DW.v0; rfl; rfl; rfl; exact WantT.none; rfl; apply ValP.move; rfl; apply DW.v0; rfl; rfl; rfl; exact WantT.none; rfl; apply ValP.indexAddrA; rfl; rfl; rfl; omega; apply DW.loadO; rfl; rfl; rfl; exact WantT.none; rfl; apply TRead.head; exact ancB_nil; apply rd_uca; omega; apply DW.nil; simp only [fsOf_cons, fsOf_nil, fsOf_app, fsOf_tsOf, fsOf_new]; apply LW.v0; rfl; rfl; apply ValP.neT; rfl; rfl; omega; apply LW.nil; refine thenN ?_; apply CW.condT; rfl; (with_reducible rfl); refine CW.seq ?_; apply CW.pre; refine AnyW.any 6 mixed (by decide +kernel) ?_; (try simp only [tsOf_cons, tsOf_nil, tsOf_app]); apply DW.v0; rfl; rfl; rfl; exact WantT.none; rfl; apply ValP.move; rfl; apply DW.v0; rfl; rfl; rfl; exact WantT.none; rfl; apply ValP.indexAddrA; rfl; rfl; rfl; omega; apply DW.loadO; rfl; rfl; rfl; exact WantT.none; rfl; apply TRead.tail; apply TRead.head; exact ancB_nil; apply rd_uca; omega; apply DW.v0; rfl; rfl; rfl; exact WantT.none; rfl; apply ValP.move; rfl; apply DW.v0; rfl; rfl; rfl; exact WantT.none; rfl; apply ValP.indexAddrA; rfl; rfl; rfl; omega; apply DW.loadO; rfl; rfl; rfl; exact WantT.none; rfl; apply TRead.head; exact ancB_nil; apply rd_uca; omega; apply DW.nil; simp only [fsOf_cons, fsOf_nil, fsOf_app, fsOf_tsOf, fsOf_new]; apply LW.v0; rfl; rfl; apply ValP.lssF; rfl; rfl; omega; apply LW.v0; rfl; rfl; apply ValP.assign; rfl; apply LW.nil; refine thenN ?_; refine CW.ret ?_; refine blkR ?_; refine thenR ?_; refine thenR ?_; refine blkR ?_; refine thenR ?_)
        (apply finR; exact .inl rfl; rfl; rfl; rfl; apply ResL.cons; exact Res.tmp rfl; exact ResL.nil)
        rw [hl, decide_eq_false (by omega)]; rfl
  · obtain rfl : i = 32 := by omega
    rw [List.take_of_length_le (by omega), List.take_of_length_le (by omega)] at ht
    subst ht
    (refine CW.seq ?_; refine CW.region ?_; apply LW.v0; rfl; rfl; apply ValP.lssF; rfl; rfl; omega; apply LW.nil; refine thenN ?_; refine CW.seq ?_; apply CW.condF; rfl; (with_reducible rfl); refine CW.exit ?_; refine thenE ?_; refine thenE ?_; refine blkE rfl ?_; refine thenN ?_; refine CW.seq ?_; refine CW.region ?_; apply LW.v0; rfl; rfl; apply ValP.assign; rfl; apply LW.nil; refine thenN ?_; refine CW.ret ?_)
    (apply finR; exact .inl rfl; rfl; rfl; rfl; apply ResL.cons; exact Res.tmp rfl; exact ResL.nil)
    simp [lessB, tup]
end Go.Proofs.YtficnjnnhcadaaaDoor

/-
  Contracts of the sponge: places, turns.
  Conditions: none.
-/
namespace Go.Proofs.YtficnjnnhcadaaaDoor
open Go Go.RowKit SL
set_option maxRecDepth 8000
set_option maxHeartbeats 4000000
set_option linter.unusedSimpArgs false
set_option linter.unusedVariables false
attribute [local irreducible] SL.CW SL.LW SL.DW Calls SL.Ret SL.RetG SL.beginQ SL.roundQ SL.rangeQ SL.inQ SL.RW SL.AnyW SL.thenQ SL.thenC SL.thenW SL.blkQ SL.finQ SL.ValP SL.NewP SL.SetP SL.CallP SL.Rd SL.Wr SL.Known
theorem at_calls (x y : Nat) (hx : x < 1000) (hy : y < 1000) (w : World) : Calls Tryd.prog 45 #[.int .i64 (x : Int), .int .i64 (y : Int)] w (Ret w (.int .i64 ((5 * (y % 5) + x % 5 : Nat) : Int))) := by
  refine enter (args := [_, _]) _ [] [] Tryd.func45 rfl Tryd.ntmps45 rfl (by simp) .nil ?_
  (refine CW.seq ?_; refine CW.region ?_; apply LW.v0; rfl; rfl; apply ValP.assign; rfl; apply LW.nil; refine thenN ?_; refine CW.seq ?_; refine CW.region ?_; apply LW.v0; rfl; rfl; apply ValP.move; rfl; apply LW.v0; rfl; rfl; apply ValP.remZL; rfl; rfl; decide; omega; apply LW.v0; rfl; rfl; apply ValP.mulZK; rfl; rfl; decide; omega; apply LW.v0; rfl; rfl; apply ValP.move; rfl; apply LW.v0; rfl; rfl; apply ValP.remZL; rfl; rfl; decide; omega; apply LW.v0; rfl; rfl; apply ValP.addZ; rfl; rfl; omega; apply LW.v0; rfl; rfl; apply ValP.assign; rfl; apply LW.nil; refine thenN ?_; refine CW.ret ?_)
  (apply finR; exact .inl rfl; rfl; rfl; rfl; apply ResL.cons; exact Res.tmp rfl; exact ResL.nil)
  rfl
def rotl (x n : Nat) : Nat := (x * 2 ^ n % 18446744073709551616) ||| (x / 2 ^ (64 - n))
theorem rot_calls (x n : Nat) (hx : x < 18446744073709551616) (hn : n < 64) (w : World) : Calls Tryd.prog 51 #[.int .u64 (x : Int), .int .i64 (n : Int)] w (Ret w (.int .u64 ((rotl x n : Nat) : Int))) := by
  have h63 : n &&& 63 = n := by rw [show (63 : Nat) = 2 ^ 6 - 1 from rfl, Nat.and_two_pow_sub_one_eq_mod]; exact Nat.mod_eq_of_lt hn
  refine enter (args := [_, _]) _ [] [] Tryd.func51 rfl Tryd.ntmps51 rfl (by simp) .nil ?_
  unfold rotl
  conv in (2 ^ n) => rw [← h63]
  conv in (64 - n) => rw [← h63]
  (refine CW.seq ?_; refine CW.region ?_; apply LW.v0; rfl; rfl; apply ValP.assign; rfl; apply LW.nil; refine thenN ?_; refine CW.seq ?_; refine CW.region ?_; apply LW.v0; rfl; rfl; apply ValP.move; rfl; apply LW.v0; rfl; rfl; apply ValP.convN; rfl; omega; omega; apply LW.v0; rfl; rfl; apply ValP.andUL; rfl; rfl; decide; omega; omega; apply LW.v0; rfl; rfl; apply ValP.assign; rfl; apply LW.nil; refine thenN ?_; refine CW.seq ?_; refine CW.region ?_; apply LW.v0; rfl; rfl; apply ValP.move; rfl; apply LW.v0; rfl; rfl; apply ValP.move; rfl; apply LW.v0; rfl; rfl; apply ValP.shlU; rfl; rfl; omega; apply LW.v0; rfl; rfl; apply ValP.move; rfl; apply LW.v0; rfl; rfl; apply ValP.move; rfl; apply LW.v0; rfl; rfl; apply ValP.subNK; rfl; rfl; decide; omega; omega; apply LW.v0; rfl; rfl; apply ValP.shrU; rfl; rfl; omega; apply LW.v0; rfl; rfl; apply ValP.orU; rfl; rfl; omega; apply div64; omega; apply LW.v0; rfl; rfl; apply ValP.assign; rfl; apply LW.nil; refine thenN ?_; refine CW.ret ?_)
  (apply finR; exact .inl rfl; rfl; rfl; rfl; apply ResL.cons; exact Res.tmp rfl; exact ResL.nil)
  rfl
theorem turned_calls (x n : Nat) (hx : x < 18446744073709551616) (hn : n < 64) (w : World) : Calls Tryd.prog 46 #[.int .u64 (x : Int), .int .i64 (n : Int)] w (Ret w (.int .u64 ((rotl x n : Nat) : Int))) := by
  refine enter (args := [_, _]) _ [] [] Tryd.func46 rfl Tryd.ntmps46 rfl (by simp) .nil ?_
  (refine CW.seq ?_; refine CW.region ?_; apply LW.v0; rfl; rfl; apply ValP.assign; rfl; apply LW.nil; refine thenN ?_; refine CW.seq ?_; refine CW.region ?_; apply LW.v0; rfl; rfl; apply ValP.move; rfl; apply LW.v0; rfl; rfl; apply ValP.move; rfl; apply LW.callE; rfl; rfl; infer_instance; apply ArgsOk.cons; rfl; apply ArgsOk.cons; rfl; exact ArgsOk.nil; intro w _; exact rot_calls x n hx hn w; apply LW.v0; rfl; rfl; apply ValP.assign; rfl; apply LW.nil; refine thenN ?_; refine CW.ret ?_)
  (apply finR; exact .inl rfl; rfl; rfl; rfl; apply ResL.cons; exact Res.tmp rfl; exact ResL.nil)
  rfl
/-! ### Rows -/
def rowV (L : List Nat) (x y : Nat) : Nat := L.getD (5 * (y % 5) + x % 5) 0 ^^^ ((18446744073709551615 - L.getD (5 * (y % 5) + (x + 1) % 5) 0) &&& L.getD (5 * (y % 5) + (x + 2) % 5) 0)
def rowsF (L : List Nat) : Nat → List Nat
  | 0 => List.replicate 25 0
  | k + 1 => (rowsF L k).set (5 * (k / 5 % 5) + k % 5 % 5) (rowV L (k % 5) (k / 5))
theorem rowsF_len (L : List Nat) (k : Nat) : (rowsF L k).length = 25 := by
  induction k with
  | zero => simp [rowsF]
  | succ k ih => simp [rowsF, ih]
theorem rowsF_step (L : List Nat) (x y : Nat) (hx : x < 5) : rowsF L (5 * y + x + 1) = (rowsF L (5 * y + x)).set (5 * (y % 5) + x % 5) (rowV L x y) := by
  rw [rowsF, show (5 * y + x) / 5 = y by omega, show (5 * y + x) % 5 = x by omega]
theorem places_calls (w : World) : Calls Tryd.prog 44 #[] w (Ret w (.func (.func 50) #[] #[])) := by
  refine enter (args := []) _ [] [] Tryd.func44 rfl Tryd.ntmps44 rfl (by simp) .nil ?_
  (refine CW.seq ?_; refine CW.region ?_; apply LW.v0; rfl; rfl; apply ValP.assign; rfl; apply LW.nil; refine thenN ?_; refine CW.seq ?_; refine CW.region ?_; apply LW.v0; rfl; rfl; apply ValP.assign; rfl; apply LW.nil; refine thenN ?_; refine CW.ret ?_)
  (apply finR; exact .inl rfl; rfl; rfl; rfl; apply ResL.cons; exact Res.tmp rfl; exact ResL.nil)
  rfl
theorem Rows_calls (L : List Nat) (hL : L.length = 25) (hb : ∀ i, L.getD i 0 < 18446744073709551616) (w : World) : Calls Tryd.prog 36 #[.agg (nca L)] w (Ret w (.agg (nca (rowsF L 25)))) := by
  refine enter (args := [_]) _ [] [] Tryd.func36 rfl Tryd.ntmps36 rfl (by simp) .nil ?_
  (refine CW.seq ?_; refine CW.region ?_; apply LW.boxA; rfl; rfl; intro _; apply LW.allocA; rfl; intro _; apply LW.nil; refine thenN ?_; refine CW.seq ?_; refine CW.seq ?_; refine CW.region ?_; apply LW.callE; rfl; rfl; infer_instance; exact ArgsOk.nil; intro w _; exact places_calls w; apply LW.nil; refine thenN ?_; refine CW.block ?_)
  rename_i b1 b2
  apply CW.rangeFunc
  rfl
  rfl
  infer_instance
  rfl
  exact Tryd.func50
  rfl
  exact Tryd.ntmps50
  rfl
  rfl
  intro l r rec hrec
  (refine CW.scope ?_; refine CW.seq ?_; refine CW.label ?_; refine thenN ?_; refine CW.seq ?_; refine CW.region ?_; apply LW.v0; rfl; rfl; apply ValP.move; rfl; apply LW.nil; refine thenN ?_; refine CW.block ?_)
  refine CW.loop (fun y : Nat => ([(4, .int .i64 (y : Int)), (0, .func (.yield l) #[] #[])],
    [(l, rdy rec), (r, .deferred (some [])), (b2, .cells (nca (rowsF L (5 * y))) 33 (0, 0)), (b1, .cells (nca L) 33 (0, 0))]))
    (fun y => y ≤ 5) (fun y => 5 - y) 0 (Nat.zero_le _) ⟨rfl, rfl, trivial⟩ (List.Sublist.refl _) ?_
  intro y hy
  dsimp only at hy ⊢
  rcases Nat.lt_or_ge y 5 with hy5 | hy5
  · (refine CW.seq ?_; refine CW.region ?_; apply LW.v0; rfl; rfl; apply ValP.lssT; rfl; rfl; omega; apply LW.nil; refine thenN ?_; refine CW.seq ?_; apply CW.condT; rfl; (with_reducible rfl); refine CW.skip ?_; refine thenN ?_; refine CW.seq ?_; refine CW.block ?_; refine CW.seq ?_; refine CW.region ?_; apply LW.v0; rfl; rfl; apply ValP.move; rfl; apply LW.v0; rfl; rfl; apply ValP.assign; rfl; apply LW.nil; refine thenN ?_; refine CW.seq ?_; refine CW.region ?_; apply LW.v0; rfl; rfl; apply ValP.move; rfl; apply LW.nil; refine thenN ?_; refine CW.block ?_)
    refine CW.loop (fun x : Nat => ([(7, .int .i64 (x : Int)), (2, .int .i64 (y : Int)), (4, .int .i64 (y : Int)), (0, .func (.yield l) #[] #[])],
      [(l, rdy rec), (r, .deferred (some [])), (b2, .cells (nca (rowsF L (5 * y + x))) 33 (0, 0)), (b1, .cells (nca L) 33 (0, 0))]))
      (fun x => x ≤ 5) (fun x => 5 - x) 0 (Nat.zero_le _) ⟨rfl, rfl, rfl, rfl, trivial⟩ (List.Sublist.refl _) ?_
    intro x hx
    dsimp only at hx ⊢
    rcases Nat.lt_or_ge x 5 with hx5 | hx5
    · have hlen := rowsF_len L (5 * y + x)
      (refine CW.seq ?_; refine CW.region ?_; apply LW.v0; rfl; rfl; apply ValP.lssT; rfl; rfl; omega; apply LW.nil; refine thenN ?_; refine CW.seq ?_; apply CW.condT; rfl; (with_reducible rfl); refine CW.skip ?_; refine thenN ?_; refine CW.seq ?_; refine CW.block ?_; refine CW.seq ?_; refine CW.region ?_; apply LW.v0; rfl; rfl; apply ValP.move; rfl; apply LW.v0; rfl; rfl; apply ValP.assign; rfl; apply LW.nil; refine thenN ?_; refine CW.seq ?_; refine CW.region ?_; apply LW.v0; rfl; rfl; apply ValP.move; rfl; apply LW.v0; rfl; rfl; apply ValP.move; rfl; apply LW.v0; rfl; rfl; apply ValP.move; rfl)
      apply LW.yield
      rfl
      rfl
      (apply ArgsOk.cons; rfl; apply ArgsOk.cons; rfl; exact ArgsOk.nil)
      exact hrec
      (apply FsAt.head)
      rfl
      rfl
      (refine CW.seq ?_; refine CW.region ?_; apply LW.v0; rfl; rfl; apply ValP.assign; rfl; apply LW.nil; refine thenN ?_; refine CW.region ?_; apply LW.v0; rfl; rfl; apply ValP.assign; rfl; apply LW.nil; apply beginI; apply SetAt.head; refine CW.block ?_; apply CW.pre; refine AnyW.any 22 mixed (by decide +kernel) ?_; (try simp only [tsOf_cons, tsOf_nil, tsOf_app]); apply DW.v0; rfl; rfl; rfl; exact WantT.none; rfl; apply ValP.move; rfl; apply DW.v0; rfl; rfl; rfl; exact WantT.none; rfl; apply ValP.move; rfl; apply DW.callE; rfl; rfl; rfl; exact WantT.none; rfl; infer_instance; apply ArgsOk.cons; rfl; apply ArgsOk.cons; rfl; exact ArgsOk.nil; rfl; exact ReadAll.nil; intro w _ _; refine at_calls _ _ ?_ ?_ w; omega; omega; apply DW.v0; rfl; rfl; rfl; exact WantT.none; rfl; apply ValP.move; rfl; apply DW.v0; rfl; rfl; rfl; exact WantT.none; rfl; apply ValP.move; rfl; apply DW.callE; rfl; rfl; rfl; exact WantT.none; rfl; infer_instance; apply ArgsOk.cons; rfl; apply ArgsOk.cons; rfl; exact ArgsOk.nil; rfl; exact ReadAll.nil; intro w _ _; refine at_calls _ _ ?_ ?_ w; omega; omega; apply DW.v0; rfl; rfl; rfl; exact WantT.none; rfl; apply ValP.indexAddrA; rfl; rfl; rfl; omega; apply DW.loadO; rfl; rfl; rfl; exact WantT.none; rfl; apply TRead.tail; apply TRead.tail; apply TRead.tail; apply TRead.head; exact ancB_nil; apply rd_nca; omega; apply DW.v0; rfl; rfl; rfl; exact WantT.none; rfl; apply ValP.move; rfl; apply DW.v0; rfl; rfl; rfl; exact WantT.none; rfl; apply ValP.addZL; rfl; rfl; decide; omega; apply DW.v0; rfl; rfl; rfl; exact WantT.none; rfl; apply ValP.move; rfl; apply DW.callE; rfl; rfl; rfl; exact WantT.none; rfl; infer_instance; apply ArgsOk.cons; rfl; apply ArgsOk.cons; rfl; exact ArgsOk.nil; rfl; exact ReadAll.nil; intro w _ _; refine at_calls _ _ ?_ ?_ w; omega; omega; apply DW.v0; rfl; rfl; rfl; exact WantT.none; rfl; apply ValP.indexAddrA; rfl; rfl; rfl; omega; apply DW.loadO; rfl; rfl; rfl; exact WantT.none; rfl; apply TRead.tail; apply TRead.tail; apply TRead.tail; apply TRead.head; exact ancB_nil; apply rd_nca; omega; apply DW.v0; rfl; rfl; rfl; exact WantT.none; rfl; apply ValP.notU; rfl; exact hb _; apply DW.v0; rfl; rfl; rfl; exact WantT.none; rfl; apply ValP.move; rfl; apply DW.v0; rfl; rfl; rfl; exact WantT.none; rfl; apply ValP.addZL; rfl; rfl; decide; omega; apply DW.v0; rfl; rfl; rfl; exact WantT.none; rfl; apply ValP.move; rfl; apply DW.callE; rfl; rfl; rfl; exact WantT.none; rfl; infer_instance; apply ArgsOk.cons; rfl; apply ArgsOk.cons; rfl; exact ArgsOk.nil; rfl; exact ReadAll.nil; intro w _ _; refine at_calls _ _ ?_ ?_ w; omega; omega; apply DW.v0; rfl; rfl; rfl; exact WantT.none; rfl; apply ValP.indexAddrA; rfl; rfl; rfl; omega; apply DW.loadO; rfl; rfl; rfl; exact WantT.none; rfl; apply TRead.tail; apply TRead.tail; apply TRead.tail; apply TRead.head; exact ancB_nil; apply rd_nca; omega; apply DW.v0; rfl; rfl; rfl; exact WantT.none; rfl; apply ValP.andU; rfl; rfl; omega; exact hb _; apply DW.nil; simp only [fsOf_cons, fsOf_nil, fsOf_app, fsOf_tsOf, fsOf_new]; apply LW.v0; rfl; rfl; apply ValP.xorU; rfl; rfl; exact hb _; apply and64; omega; apply LW.v0; rfl; rfl; apply ValP.indexAddrA; rfl; rfl; rfl; omega; apply LW.store; rfl; rfl; apply SetAt.tail; apply SetAt.tail; apply SetAt.head; apply wr_nca; omega; apply LW.nil; refine blkN ?_; apply roundN; apply SetAt.head; apply LW.v0; rfl; rfl; apply ValP.notT; rfl; (with_reducible rfl); apply LW.nil; refine thenN ?_; apply CW.condF; rfl; (with_reducible rfl); refine CW.skip ?_; refine blkN ?_; refine thenN ?_; refine CW.region ?_; apply LW.v0; rfl; rfl; apply ValP.addZL; rfl; rfl; decide; omega; apply LW.v0; rfl; rfl; apply ValP.move; rfl; apply LW.nil)
      refine thenX ⟨rfl, x + 1, hx5, by omega, ⟨rfl, rfl, rfl, rfl, trivial⟩, ?_⟩
      rw [← Nat.add_assoc, rowsF_step L x y hx5]
      exact List.Sublist.refl _
    · obtain rfl : x = 5 := by omega
      (refine CW.seq ?_; refine CW.region ?_; apply LW.v0; rfl; rfl; apply ValP.lssF; rfl; rfl; omega; apply LW.nil; refine thenN ?_; refine CW.seq ?_; apply CW.condF; rfl; (with_reducible rfl); refine CW.exit ?_; refine thenE ?_; refine thenE ?_; refine blkE rfl ?_; refine blkN ?_; refine thenN ?_; refine CW.region ?_; apply LW.v0; rfl; rfl; apply ValP.addZL; rfl; rfl; decide; omega; apply LW.v0; rfl; rfl; apply ValP.move; rfl; apply LW.nil)
      refine thenX ⟨rfl, y + 1, hy5, by omega, ⟨rfl, rfl, trivial⟩, ?_⟩
      rw [show 5 * (y + 1) = 5 * y + 5 by omega]
      exact List.Sublist.refl _
  · obtain rfl : y = 5 := by omega
    have hlen := rowsF_len L 25
    (refine CW.seq ?_; refine CW.region ?_; apply LW.v0; rfl; rfl; apply ValP.lssF; rfl; rfl; omega; apply LW.nil; refine thenN ?_; refine CW.seq ?_; apply CW.condF; rfl; (with_reducible rfl); refine CW.exit ?_; refine thenE ?_; refine thenE ?_; refine blkE rfl ?_; refine scopeQ.n ?_)
    apply rangeN
    (exact .inr rfl)
    (exact Shut.nil)
    (apply SetAt.head)
    (refine blkN ?_; refine thenM ?_; refine CW.seq ?_; refine CW.region ?_; apply LW.load; rfl; rfl; apply Known.at; apply FsAt.tail; apply FsAt.tail; apply FsAt.head; apply rd_ncaW; assumption; apply LW.store; rfl; rfl; apply SetAt.tail; apply SetAt.tail; apply SetAt.head; apply wr_ncaW; assumption; assumption; apply LW.nil; refine thenN ?_; refine CW.ret ?_)
    (apply finRM; exact .inl rfl; apply Shut.cons; apply SetAt.tail; apply SetAt.head; exact Shut.nil; rfl; rfl; apply ResL.cons; apply Res.cell; rfl; apply Known.at; apply FsAt.tail; apply FsAt.tail; apply FsAt.head; apply rd_ncaW; assumption; exact ResL.nil)
    rfl
end Go.Proofs.YtficnjnnhcadaaaDoor

/-
  Contracts of the sponge: lanes mixed.
  Conditions: none.
-/
namespace Go.Proofs.YtficnjnnhcadaaaDoor
open Go Go.RowKit SL
set_option maxRecDepth 8000
set_option maxHeartbeats 4000000
set_option linter.unusedSimpArgs false
set_option linter.unusedVariables false
attribute [local irreducible] SL.CW SL.LW SL.DW Calls SL.Ret SL.RetG SL.beginQ SL.roundQ SL.rangeQ SL.inQ SL.RW SL.AnyW SL.thenQ SL.thenC SL.thenW SL.blkQ SL.finQ SL.ValP SL.NewP SL.SetP SL.CallP SL.Rd SL.Wr SL.Known
/-! ### The tables that are laid -/
def turnL : List Nat := [0, 1, 62, 28, 27, 36, 44, 6, 55, 20, 3, 10, 43, 25, 39, 41, 45, 15, 21, 8, 18, 2, 61, 56, 14]
def numL : List Nat := [1, 32898, 9223372036854808714, 9223372039002292224, 32907, 2147483649, 9223372039002292353, 9223372036854808585, 138, 136, 2147516425, 2147483658, 2147516555, 9223372036854775947, 9223372036854808713, 9223372036854808579, 9223372036854808578, 9223372036854775936, 32778, 9223372039002259466, 9223372039002292353, 9223372036854808704, 2147483649, 9223372039002292232]
def ica (L : List Nat) : Array Value := (ics L).toArray
theorem ics_map (l : List Nat) : ics l = l.map fun (x : Nat) => Value.int .i64 (x : Int) := by
  induction l with
  | nil => rfl
  | cons a l ih => simp [ics] at *; exact ih
theorem rd_ica {P : Program} {T E : TypeId} {fr : Nat × Nat} {L : List Nat} {i : Nat} [AgI P T false] (hi : i < L.length) : Rd P T (.cells (ica L) E fr) (0 + i * 1) (.int .i64 ((L.getD i 0 : Nat) : Int)) :=
  Rd.one (by rw [Nat.zero_add, Nat.mul_one]; simp [ica, ics_map, hi, List.getD_eq_getElem?_getD])
def NumAt (w : World) : Prop := ∃ E fr, w.heap[0]? = some (.cells (nca numL) E fr)
def TurnAt (w : World) : Prop := ∃ E fr, w.heap[1]? = some (.cells (ica turnL) E fr)
theorem NumAt.st {w w' : World} {fs : Fs} (h : NumAt w) (hs : St w [] fs w') : NumAt w' := by
  obtain ⟨E, fr, h⟩ := h
  exact ⟨E, fr, by rw [hs.bel.block _ (Array.getElem?_eq_some_iff.1 h).1 (by simp)]; exact h⟩
theorem TurnAt.st {w w' : World} {fs : Fs} (h : TurnAt w) (hs : St w [] fs w') : TurnAt w' := by
  obtain ⟨E, fr, h⟩ := h
  exact ⟨E, fr, by rw [hs.bel.block _ (Array.getElem?_eq_some_iff.1 h).1 (by simp)]; exact h⟩
theorem turnL_lt : ∀ i, turnL.getD i 0 < 64 := fun i => by
  rcases Nat.lt_or_ge i 25 with h | h
  · exact (by decide : ∀ i, i < 25 → turnL.getD i 0 < 64) i h
  · rw [List.getD_eq_getElem?_getD, List.getElem?_eq_none (by simpa [turnL] using h)]; decide
/-! ### Mix -/
theorem getD_set_lt {L : List Nat} {N i x : Nat} (h : ∀ j, L.getD j 0 < N) (hx : x < N) : ∀ j, (L.set i x).getD j 0 < N := fun j => by
  have hj := h j
  rw [List.getD_eq_getElem?_getD] at hj ⊢
  rw [List.getElem?_set]
  split
  · split
    · exact hx
    · exact Nat.lt_of_le_of_lt (Nat.zero_le _) hx
  · exact hj
theorem xor_lt {a b : Nat} (ha : a < 18446744073709551616) (hb : b < 18446744073709551616) : a ^^^ b < 18446744073709551616 := Nat.xor_lt_two_pow (n := 64) ha hb
theorem rotl_lt {x n : Nat} (hx : x < 18446744073709551616) : rotl x n < 18446744073709551616 := Nat.or_lt_two_pow (n := 64) (Nat.mod_lt _ (by decide)) (Nat.lt_of_le_of_lt (Nat.div_le_self _ _) hx)
def cF (L : List Nat) : Nat → List Nat
  | 0 => List.replicate 5 0
  | k + 1 => (cF L k).set (k % 5) ((cF L k).getD (k % 5) 0 ^^^ L.getD (5 * (k / 5 % 5) + k % 5 % 5) 0)
theorem cF_len (L : List Nat) (k : Nat) : (cF L k).length = 5 := by
  induction k with
  | zero => simp [cF]
  | succ k ih => simp [cF, ih]
theorem rep_lt (n : Nat) : ∀ i, (List.replicate n 0).getD i 0 < 18446744073709551616 := fun i => by
  rw [List.getD_eq_getElem?_getD, List.getElem?_replicate]; split <;> decide
theorem cF_lt (L : List Nat) (hb : ∀ i, L.getD i 0 < 18446744073709551616) (k : Nat) : ∀ i, (cF L k).getD i 0 < 18446744073709551616 := by
  induction k with
  | zero => exact rep_lt 5
  | succ k ih => exact getD_set_lt ih (xor_lt (ih _) (hb _))
theorem cF_step (L : List Nat) (x y : Nat) (hx : x < 5) : cF L (5 * y + x + 1) = (cF L (5 * y + x)).set x ((cF L (5 * y + x)).getD x 0 ^^^ L.getD (5 * (y % 5) + x % 5) 0) := by
  rw [cF, show (5 * y + x) / 5 = y by omega, show (5 * y + x) % 5 = x by omega]
def mixV (L C : List Nat) (x y : Nat) : Nat := rotl (L.getD (5 * (y % 5) + x % 5) 0 ^^^ (C.getD ((x + 5 - 1) % 5) 0 ^^^ rotl (C.getD ((x + 1) % 5) 0) 1)) (turnL.getD (5 * (y % 5) + x % 5) 0)
def mixF (L C : List Nat) : Nat → List Nat
  | 0 => List.replicate 25 0
  | k + 1 => (mixF L C k).set (5 * ((2 * (k % 5) + 3 * (k / 5)) % 5) + k / 5 % 5) (mixV L C (k % 5) (k / 5))
theorem mixF_len (L C : List Nat) (k : Nat) : (mixF L C k).length = 25 := by
  induction k with
  | zero => simp [mixF]
  | succ k ih => simp [mixF, ih]
theorem mixV_lt (L C : List Nat) (hb : ∀ i, L.getD i 0 < 18446744073709551616) (hc : ∀ i, C.getD i 0 < 18446744073709551616) (x y : Nat) : mixV L C x y < 18446744073709551616 := rotl_lt (xor_lt (hb _) (xor_lt (hc _) (rotl_lt (hc _))))
theorem mixF_lt (L C : List Nat) (hb : ∀ i, L.getD i 0 < 18446744073709551616) (hc : ∀ i, C.getD i 0 < 18446744073709551616) (k : Nat) : ∀ i, (mixF L C k).getD i 0 < 18446744073709551616 := by
  induction k with
  | zero => exact rep_lt 25
  | succ k ih => exact getD_set_lt ih (mixV_lt L C hb hc _ _)
theorem mixF_step (L C : List Nat) (x y : Nat) (hx : x < 5) : mixF L C (5 * y + x + 1) = (mixF L C (5 * y + x)).set (5 * ((2 * x + 3 * y) % 5) + y % 5) (mixV L C x y) := by
  rw [mixF, show (5 * y + x) / 5 = y by omega, show (5 * y + x) % 5 = x by omega]
def mixL (L : List Nat) : List Nat := mixF L (cF L 25) 25
theorem rd_turn {T E : TypeId} {fr : Nat × Nat} {i : Nat} [AgI Tryd.prog T false] (hi : i < 25) : Rd Tryd.prog T (.cells (ica turnL) E fr) (0 + i * 1) (.int .i64 ((turnL.getD i 0 : Nat) : Int)) := rd_ica (L := turnL) hi
theorem cF_zero (L : List Nat) : cF L 0 = List.replicate 5 0 := rfl
theorem mixF_zero (L C : List Nat) : mixF L C 0 = List.replicate 25 0 := rfl
attribute [local irreducible] turnL cF mixF
theorem Mix_calls (L : List Nat) (hL : L.length = 25) (hb : ∀ i, L.getD i 0 < 18446744073709551616) (w : World) (hT : TurnAt w) : Calls Tryd.prog 37 #[.agg (nca L)] w (Ret w (.agg (nca (mixL L)))) := by
  obtain ⟨ET, frT, hT⟩ := hT
  have hcb := cF_lt L hb
  obtain ⟨C, hC⟩ : ∃ C, C = cF L 25 := ⟨_, rfl⟩
  have hCb : ∀ i, C.getD i 0 < 18446744073709551616 := fun i => by rw [hC]; exact hcb 25 i
  have hCl : C.length = 5 := by rw [hC]; exact cF_len L 25
  have hr1 : ∀ i, rotl (C.getD i 0) 1 < 18446744073709551616 := fun i => rotl_lt (hCb i)
  have hk1 : ∀ i w, Calls Tryd.prog 46 #[.int .u64 ((C.getD i 0 : Nat) : Int), .int .i64 1] w (Ret w (.int .u64 ((rotl (C.getD i 0) 1 : Nat) : Int))) := fun i w => turned_calls _ 1 (hCb i) (by decide) w
  have hk2 : ∀ v i w, v < 18446744073709551616 → Calls Tryd.prog 46 #[.int .u64 ((v : Nat) : Int), .int .i64 ((turnL.getD i 0 : Nat) : Int)] w (Ret w (.int .u64 ((rotl v (turnL.getD i 0) : Nat) : Int))) := fun v i w hv => turned_calls v _ hv (turnL_lt i) w
  have hd : (0 : Nat) < 18446744073709551616 := by decide
  refine enter (args := [_]) _ [] [] Tryd.func37 rfl Tryd.ntmps37 rfl (by simp) .nil ?_
  (refine CW.seq ?_; refine CW.region ?_; apply LW.boxA; rfl; rfl; intro _; apply LW.allocA; rfl; intro _; apply LW.nil; refine thenN ?_; refine CW.seq ?_; refine CW.region ?_; apply LW.allocA; rfl; intro _; apply LW.nil; refine thenN ?_; refine CW.seq ?_; refine CW.seq ?_; refine CW.region ?_; apply LW.callE; rfl; rfl; infer_instance; exact ArgsOk.nil; intro w _; exact places_calls w; apply LW.nil; refine thenN ?_; refine CW.block ?_)
  rename_i b1 b2 b3
  apply CW.rangeFunc
  rfl
  rfl
  infer_instance
  rfl
  exact Tryd.func50
  rfl
  exact Tryd.ntmps50
  rfl
  rfl
  intro l r rec hrec
  (refine CW.scope ?_; refine CW.seq ?_; refine CW.label ?_; refine thenN ?_; refine CW.seq ?_; refine CW.region ?_; apply LW.v0; rfl; rfl; apply ValP.move; rfl; apply LW.nil; refine thenN ?_; refine CW.block ?_)
  refine CW.loop (fun y : Nat => ([(4, .int .i64 (y : Int)), (0, .func (.yield l) #[] #[])],
    [(l, rdy rec), (r, .deferred (some [])), (b3, .cells (nca (cF L (5 * y))) 72 (0, 0)), (b2, .cells (nca (List.replicate 25 0)) 33 (0, 0)), (b1, .cells (nca L) 33 (0, 0))]))
    (fun y => y ≤ 5) (fun y => 5 - y) 0 (Nat.zero_le _) ⟨rfl, rfl, trivial⟩ (by dsimp only; rw [Nat.mul_zero, cF_zero]; exact List.Sublist.refl _) ?_
  intro y hy
  dsimp only at hy ⊢
  rcases Nat.lt_or_ge y 5 with hy5 | hy5
  · (refine CW.seq ?_; refine CW.region ?_; apply LW.v0; rfl; rfl; apply ValP.lssT; rfl; rfl; omega; apply LW.nil; refine thenN ?_; refine CW.seq ?_; apply CW.condT; rfl; (with_reducible rfl); refine CW.skip ?_; refine thenN ?_; refine CW.seq ?_; refine CW.block ?_; refine CW.seq ?_; refine CW.region ?_; apply LW.v0; rfl; rfl; apply ValP.move; rfl; apply LW.v0; rfl; rfl; apply ValP.assign; rfl; apply LW.nil; refine thenN ?_; refine CW.seq ?_; refine CW.region ?_; apply LW.v0; rfl; rfl; apply ValP.move; rfl; apply LW.nil; refine thenN ?_; refine CW.block ?_)
    refine CW.loop (fun x : Nat => ([(7, .int .i64 (x : Int)), (2, .int .i64 (y : Int)), (4, .int .i64 (y : Int)), (0, .func (.yield l) #[] #[])],
      [(l, rdy rec), (r, .deferred (some [])), (b3, .cells (nca (cF L (5 * y + x))) 72 (0, 0)), (b2, .cells (nca (List.replicate 25 0)) 33 (0, 0)), (b1, .cells (nca L) 33 (0, 0))]))
      (fun x => x ≤ 5) (fun x => 5 - x) 0 (Nat.zero_le _) ⟨rfl, rfl, rfl, rfl, trivial⟩ (List.Sublist.refl _) ?_
    intro x hx
    dsimp only at hx ⊢
    rcases Nat.lt_or_ge x 5 with hx5 | hx5
    · have hlen := cF_len L (5 * y + x)
      (refine CW.seq ?_; refine CW.region ?_; apply LW.v0; rfl; rfl; apply ValP.lssT; rfl; rfl; omega; apply LW.nil; refine thenN ?_; refine CW.seq ?_; apply CW.condT; rfl; (with_reducible rfl); refine CW.skip ?_; refine thenN ?_; refine CW.seq ?_; refine CW.block ?_; refine CW.seq ?_; refine CW.region ?_; apply LW.v0; rfl; rfl; apply ValP.move; rfl; apply LW.v0; rfl; rfl; apply ValP.assign; rfl; apply LW.nil; refine thenN ?_; refine CW.seq ?_; refine CW.region ?_; apply LW.v0; rfl; rfl; apply ValP.move; rfl; apply LW.v0; rfl; rfl; apply ValP.move; rfl; apply LW.v0; rfl; rfl; apply ValP.move; rfl)
      apply LW.yield
      rfl
      rfl
      (apply ArgsOk.cons; rfl; apply ArgsOk.cons; rfl; exact ArgsOk.nil)
      exact hrec
      (apply FsAt.head)
      rfl
      rfl
      (refine CW.seq ?_; refine CW.region ?_; apply LW.v0; rfl; rfl; apply ValP.assign; rfl; apply LW.nil; refine thenN ?_; refine CW.region ?_; apply LW.v0; rfl; rfl; apply ValP.assign; rfl; apply LW.nil; apply beginI; apply SetAt.head; refine CW.block ?_; apply CW.pre; refine AnyW.any 8 mixed (by decide +kernel) ?_; (try simp only [tsOf_cons, tsOf_nil, tsOf_app]); apply DW.v0; rfl; rfl; rfl; exact WantT.none; rfl; apply ValP.move; rfl; apply DW.v0; rfl; rfl; rfl; exact WantT.none; rfl; apply ValP.indexAddrA; rfl; rfl; rfl; omega; apply DW.loadO; rfl; rfl; rfl; exact WantT.none; rfl; apply TRead.tail; apply TRead.tail; apply TRead.head; exact ancB_nil; apply rd_nca; omega; apply DW.v0; rfl; rfl; rfl; exact WantT.none; rfl; apply ValP.move; rfl; apply DW.v0; rfl; rfl; rfl; exact WantT.none; rfl; apply ValP.move; rfl; apply DW.callE; rfl; rfl; rfl; exact WantT.none; rfl; infer_instance; apply ArgsOk.cons; rfl; apply ArgsOk.cons; rfl; exact ArgsOk.nil; rfl; exact ReadAll.nil; intro w _ _; refine at_calls _ _ ?_ ?_ w; omega; omega; apply DW.v0; rfl; rfl; rfl; exact WantT.none; rfl; apply ValP.indexAddrA; rfl; rfl; rfl; omega; apply DW.loadO; rfl; rfl; rfl; exact WantT.none; rfl; apply TRead.tail; apply TRead.tail; apply TRead.tail; apply TRead.tail; apply TRead.head; exact ancB_nil; apply rd_nca; omega; apply DW.nil; simp only [fsOf_cons, fsOf_nil, fsOf_app, fsOf_tsOf, fsOf_new]; apply LW.v0; rfl; rfl; apply ValP.xorU; rfl; rfl; exact hcb _ _; exact hb _; apply LW.v0; rfl; rfl; apply ValP.indexAddrA; rfl; rfl; rfl; omega; apply LW.store; rfl; rfl; apply SetAt.tail; apply SetAt.tail; apply SetAt.head; apply wr_nca; omega; apply LW.nil; refine blkN ?_; apply roundN; apply SetAt.head; apply LW.v0; rfl; rfl; apply ValP.notT; rfl; (with_reducible rfl); apply LW.nil; refine thenN ?_; apply CW.condF; rfl; (with_reducible rfl); refine CW.skip ?_; refine blkN ?_; refine thenN ?_; refine CW.region ?_; apply LW.v0; rfl; rfl; apply ValP.addZL; rfl; rfl; decide; omega; apply LW.v0; rfl; rfl; apply ValP.move; rfl; apply LW.nil)
      refine thenX ⟨rfl, x + 1, hx5, by omega, ⟨rfl, rfl, rfl, rfl, trivial⟩, ?_⟩
      rw [← Nat.add_assoc, cF_step L x y hx5]
      exact List.Sublist.refl _
    · obtain rfl : x = 5 := by omega
      (refine CW.seq ?_; refine CW.region ?_; apply LW.v0; rfl; rfl; apply ValP.lssF; rfl; rfl; omega; apply LW.nil; refine thenN ?_; refine CW.seq ?_; apply CW.condF; rfl; (with_reducible rfl); refine CW.exit ?_; refine thenE ?_; refine thenE ?_; refine blkE rfl ?_; refine blkN ?_; refine thenN ?_; refine CW.region ?_; apply LW.v0; rfl; rfl; apply ValP.addZL; rfl; rfl; decide; omega; apply LW.v0; rfl; rfl; apply ValP.move; rfl; apply LW.nil)
      refine thenX ⟨rfl, y + 1, hy5, by omega, ⟨rfl, rfl, trivial⟩, ?_⟩
      rw [show 5 * (y + 1) = 5 * y + 5 by omega]
      exact List.Sublist.refl _
  · obtain rfl : y = 5 := by omega
    (refine CW.seq ?_; refine CW.region ?_; apply LW.v0; rfl; rfl; apply ValP.lssF; rfl; rfl; omega; apply LW.nil; refine thenN ?_; refine CW.seq ?_; apply CW.condF; rfl; (with_reducible rfl); refine CW.exit ?_; refine thenE ?_; refine thenE ?_; refine blkE rfl ?_; refine scopeQ.n ?_)
    apply rangeN
    (exact .inr rfl)
    (exact Shut.nil)
    (apply SetAt.head)
    (refine blkN ?_; refine thenM ?_; refine CW.seq ?_; refine CW.seq ?_; refine CW.region ?_; apply LW.callE; rfl; rfl; infer_instance; exact ArgsOk.nil; intro w _; exact places_calls w; apply LW.nil; refine thenN ?_; refine CW.block ?_)
    rw [show 5 * 5 = 25 from rfl, ← hC]
    apply CW.rangeFunc
    rfl
    rfl
    infer_instance
    rfl
    exact Tryd.func50
    rfl
    exact Tryd.ntmps50
    rfl
    rfl
    intro l2 r2 rec2 hrec2
    (refine CW.scope ?_; refine CW.seq ?_; refine CW.label ?_; refine thenN ?_; refine CW.seq ?_; refine CW.region ?_; apply LW.v0; rfl; rfl; apply ValP.move; rfl; apply LW.nil; refine thenN ?_; refine CW.block ?_)
    refine CW.loop (fun y : Nat => ([(4, .int .i64 (y : Int)), (0, .func (.yield l2) #[] #[])],
      [(l2, rdy rec2), (r2, .deferred (some [])), (r, .deferred (some [])), (b3, .cells (nca C) 72 (0, 0)), (b2, .cells (nca (mixF L C (5 * y))) 33 (0, 0)), (b1, .cells (nca L) 33 (0, 0))]))
      (fun y => y ≤ 5) (fun y => 5 - y) 0 (Nat.zero_le _) ⟨rfl, rfl, trivial⟩ ?_ ?_
    · dsimp only
      rw [Nat.mul_zero, mixF_zero]
      (apply List.Sublist.cons_cons; apply List.Sublist.cons_cons; apply List.Sublist.cons; exact List.Sublist.refl _)
    intro y hy
    dsimp only at hy ⊢
    rcases Nat.lt_or_ge y 5 with hy5 | hy5
    · (refine CW.seq ?_; refine CW.region ?_; apply LW.v0; rfl; rfl; apply ValP.lssT; rfl; rfl; omega; apply LW.nil; refine thenN ?_; refine CW.seq ?_; apply CW.condT; rfl; (with_reducible rfl); refine CW.skip ?_; refine thenN ?_; refine CW.seq ?_; refine CW.block ?_; refine CW.seq ?_; refine CW.region ?_; apply LW.v0; rfl; rfl; apply ValP.move; rfl; apply LW.v0; rfl; rfl; apply ValP.assign; rfl; apply LW.nil; refine thenN ?_; refine CW.seq ?_; refine CW.region ?_; apply LW.v0; rfl; rfl; apply ValP.move; rfl; apply LW.nil; refine thenN ?_; refine CW.block ?_)
      refine CW.loop (fun x : Nat => ([(7, .int .i64 (x : Int)), (2, .int .i64 (y : Int)), (4, .int .i64 (y : Int)), (0, .func (.yield l2) #[] #[])],
        [(l2, rdy rec2), (r2, .deferred (some [])), (r, .deferred (some [])), (b3, .cells (nca C) 72 (0, 0)), (b2, .cells (nca (mixF L C (5 * y + x))) 33 (0, 0)), (b1, .cells (nca L) 33 (0, 0))]))
        (fun x => x ≤ 5) (fun x => 5 - x) 0 (Nat.zero_le _) ⟨rfl, rfl, rfl, rfl, trivial⟩ (List.Sublist.refl _) ?_
      intro x hx
      dsimp only at hx ⊢
      rcases Nat.lt_or_ge x 5 with hx5 | hx5
      · have hlen := mixF_len L C (5 * y + x)
        have hstep := mixF_step L C x y hx5
        (refine CW.seq ?_; refine CW.region ?_; apply LW.v0; rfl; rfl; apply ValP.lssT; rfl; rfl; omega; apply LW.nil; refine thenN ?_; refine CW.seq ?_; apply CW.condT; rfl; (with_reducible rfl); refine CW.skip ?_; refine thenN ?_; refine CW.seq ?_; refine CW.block ?_; refine CW.seq ?_; refine CW.region ?_; apply LW.v0; rfl; rfl; apply ValP.move; rfl; apply LW.v0; rfl; rfl; apply ValP.assign; rfl; apply LW.nil; refine thenN ?_; refine CW.seq ?_; refine CW.region ?_; apply LW.v0; rfl; rfl; apply ValP.move; rfl; apply LW.v0; rfl; rfl; apply ValP.move; rfl; apply LW.v0; rfl; rfl; apply ValP.move; rfl)
        apply LW.yield
        rfl
        rfl
        (apply ArgsOk.cons; rfl; apply ArgsOk.cons; rfl; exact ArgsOk.nil)
        exact hrec2
        (apply FsAt.head)
        rfl
        rfl
        (refine CW.seq ?_; refine CW.region ?_; apply LW.v0; rfl; rfl; apply ValP.assign; rfl; apply LW.nil; refine thenN ?_; refine CW.region ?_; apply LW.v0; rfl; rfl; apply ValP.assign; rfl; apply LW.nil; apply beginI; apply SetAt.head; refine CW.block ?_; refine CW.seq ?_; apply CW.pre; refine AnyW.any 12 mixed (by decide +kernel) ?_; (try simp only [tsOf_cons, tsOf_nil, tsOf_app]); apply DW.v0; rfl; rfl; rfl; exact WantT.none; rfl; apply ValP.move; rfl; apply DW.v0; rfl; rfl; rfl; exact WantT.none; rfl; apply ValP.addZL; rfl; rfl; decide; omega; apply DW.v0; rfl; rfl; rfl; exact WantT.none; rfl; apply ValP.subZL; rfl; rfl; decide; omega; omega; apply DW.v0; rfl; rfl; rfl; exact WantT.none; rfl; apply ValP.remZL; rfl; rfl; decide; omega; apply DW.v0; rfl; rfl; rfl; exact WantT.none; rfl; apply ValP.indexAddrA; rfl; rfl; rfl; omega; apply DW.loadO; rfl; rfl; rfl; exact WantT.none; rfl; apply TRead.tail; apply TRead.tail; apply TRead.tail; apply TRead.head; exact ancB_nil; apply rd_nca; omega; apply DW.v0; rfl; rfl; rfl; exact WantT.none; rfl; apply ValP.move; rfl; apply DW.v0; rfl; rfl; rfl; exact WantT.none; rfl; apply ValP.addZL; rfl; rfl; decide; omega; apply DW.v0; rfl; rfl; rfl; exact WantT.none; rfl; apply ValP.remZL; rfl; rfl; decide; omega; apply DW.v0; rfl; rfl; rfl; exact WantT.none; rfl; apply ValP.indexAddrA; rfl; rfl; rfl; omega; apply DW.loadO; rfl; rfl; rfl; exact WantT.none; rfl; apply TRead.tail; apply TRead.tail; apply TRead.tail; apply TRead.head; exact ancB_nil; apply rd_nca; omega; apply DW.callE; rfl; rfl; rfl; exact WantT.none; rfl; infer_instance; apply ArgsOk.cons; rfl; apply ArgsOk.cons; rfl; exact ArgsOk.nil; rfl; exact ReadAll.nil; intro w _ _; exact hk1 _ w; apply DW.nil; simp only [fsOf_cons, fsOf_nil, fsOf_app, fsOf_tsOf, fsOf_new]; apply LW.v0; rfl; rfl; apply ValP.xorU; rfl; rfl; exact hCb _; exact hr1 _; apply LW.v0; rfl; rfl; apply ValP.assign; rfl; apply LW.nil; refine thenN ?_; apply CW.pre; refine AnyW.any 19 mixed (by decide +kernel) ?_; (try simp only [tsOf_cons, tsOf_nil, tsOf_app]); apply DW.v0; rfl; rfl; rfl; exact WantT.none; rfl; apply ValP.move; rfl; apply DW.v0; rfl; rfl; rfl; exact WantT.none; rfl; apply ValP.move; rfl; apply DW.v0; rfl; rfl; rfl; exact WantT.none; rfl; apply ValP.mulZK; rfl; rfl; decide; omega; apply DW.v0; rfl; rfl; rfl; exact WantT.none; rfl; apply ValP.move; rfl; apply DW.v0; rfl; rfl; rfl; exact WantT.none; rfl; apply ValP.mulZK; rfl; rfl; decide; omega; apply DW.v0; rfl; rfl; rfl; exact WantT.none; rfl; apply ValP.addZ; rfl; rfl; omega; apply DW.callE; rfl; rfl; rfl; exact WantT.none; rfl; infer_instance; apply ArgsOk.cons; rfl; apply ArgsOk.cons; rfl; exact ArgsOk.nil; rfl; exact ReadAll.nil; intro w _ _; refine at_calls _ _ ?_ ?_ w; omega; omega; apply DW.v0; rfl; rfl; rfl; exact WantT.none; rfl; apply ValP.move; rfl; apply DW.v0; rfl; rfl; rfl; exact WantT.none; rfl; apply ValP.move; rfl; apply DW.callE; rfl; rfl; rfl; exact WantT.none; rfl; infer_instance; apply ArgsOk.cons; rfl; apply ArgsOk.cons; rfl; exact ArgsOk.nil; rfl; exact ReadAll.nil; intro w _ _; refine at_calls _ _ ?_ ?_ w; omega; omega; apply DW.v0; rfl; rfl; rfl; exact WantT.none; rfl; apply ValP.indexAddrA; rfl; rfl; rfl; omega; apply DW.loadO; rfl; rfl; rfl; exact WantT.none; rfl; apply TRead.tail; apply TRead.tail; apply TRead.tail; apply TRead.tail; apply TRead.tail; apply TRead.head; exact ancB_nil; apply rd_nca; omega; apply DW.v0; rfl; rfl; rfl; exact WantT.none; rfl; apply ValP.move; rfl; apply DW.v0; rfl; rfl; rfl; exact WantT.none; rfl; apply ValP.xorU; rfl; rfl; exact hb _; apply xor64; exact hCb _; exact hr1 _; apply DW.v0; rfl; rfl; rfl; exact WantT.none; rfl; apply ValP.move; rfl; apply DW.v0; rfl; rfl; rfl; exact WantT.none; rfl; apply ValP.move; rfl; apply DW.callE; rfl; rfl; rfl; exact WantT.none; rfl; infer_instance; apply ArgsOk.cons; rfl; apply ArgsOk.cons; rfl; exact ArgsOk.nil; rfl; exact ReadAll.nil; intro w _ _; refine at_calls _ _ ?_ ?_ w; omega; omega; apply DW.v0; rfl; rfl; rfl; exact WantT.none; rfl; apply ValP.indexAddrA; rfl; rfl; rfl; omega; apply DW.loadX; rfl; rfl; rfl; exact WantT.none; rfl; assumption; simp; apply rd_turn; omega; apply DW.nil; simp only [fsOf_cons, fsOf_nil, fsOf_app, fsOf_tsOf, fsOf_new]; apply LW.callE; rfl; rfl; infer_instance; apply ArgsOk.cons; rfl; apply ArgsOk.cons; rfl; exact ArgsOk.nil; intro w _; refine hk2 _ _ w ?_; apply xor64; exact hb _; apply xor64; exact hCb _; exact hr1 _; apply LW.v0; rfl; rfl; apply ValP.indexAddrA; rfl; rfl; rfl; omega; apply LW.store; rfl; rfl; apply SetAt.tail; apply SetAt.tail; apply SetAt.tail; apply SetAt.tail; apply SetAt.head; apply wr_nca; omega; apply LW.nil; refine blkN ?_; apply roundN; apply SetAt.head; apply LW.v0; rfl; rfl; apply ValP.notT; rfl; (with_reducible rfl); apply LW.nil; refine thenN ?_; apply CW.condF; rfl; (with_reducible rfl); refine CW.skip ?_; refine blkN ?_; refine thenN ?_; refine CW.region ?_; apply LW.v0; rfl; rfl; apply ValP.addZL; rfl; rfl; decide; omega; apply LW.v0; rfl; rfl; apply ValP.move; rfl; apply LW.nil)
        refine thenX ⟨rfl, x + 1, hx5, by omega, ⟨rfl, rfl, rfl, rfl, trivial⟩, ?_⟩
        rw [← Nat.add_assoc, hstep]
        exact List.Sublist.refl _
      · obtain rfl : x = 5 := by omega
        (refine CW.seq ?_; refine CW.region ?_; apply LW.v0; rfl; rfl; apply ValP.lssF; rfl; rfl; omega; apply LW.nil; refine thenN ?_; refine CW.seq ?_; apply CW.condF; rfl; (with_reducible rfl); refine CW.exit ?_; refine thenE ?_; refine thenE ?_; refine blkE rfl ?_; refine blkN ?_; refine thenN ?_; refine CW.region ?_; apply LW.v0; rfl; rfl; apply ValP.addZL; rfl; rfl; decide; omega; apply LW.v0; rfl; rfl; apply ValP.move; rfl; apply LW.nil)
        refine thenX ⟨rfl, y + 1, hy5, by omega, ⟨rfl, rfl, trivial⟩, ?_⟩
        rw [show 5 * (y + 1) = 5 * y + 5 by omega]
        exact List.Sublist.refl _
    · obtain rfl : y = 5 := by omega
      have hml := mixF_len L C 25
      (refine CW.seq ?_; refine CW.region ?_; apply LW.v0; rfl; rfl; apply ValP.lssF; rfl; rfl; omega; apply LW.nil; refine thenN ?_; refine CW.seq ?_; apply CW.condF; rfl; (with_reducible rfl); refine CW.exit ?_; refine thenE ?_; refine thenE ?_; refine blkE rfl ?_; refine scopeQ.n ?_)
      apply rangeN
      (exact .inr rfl)
      (exact Shut.nil)
      (apply SetAt.head)
      (refine blkN ?_; refine thenM ?_; refine CW.seq ?_; refine CW.region ?_; apply LW.load; rfl; rfl; apply Known.at; apply FsAt.tail; apply FsAt.tail; apply FsAt.tail; apply FsAt.tail; apply FsAt.head; apply rd_ncaW; assumption; apply LW.store; rfl; rfl; apply SetAt.tail; apply SetAt.tail; apply SetAt.tail; apply SetAt.tail; apply SetAt.head; apply wr_ncaW; assumption; assumption; apply LW.nil; refine thenN ?_; refine CW.ret ?_)
      (apply finRM; exact .inl rfl; apply Shut.cons; apply SetAt.tail; apply SetAt.head; apply Shut.cons; apply SetAt.tail; apply SetAt.tail; apply SetAt.head; exact Shut.nil; rfl; rfl; apply ResL.cons; apply Res.cell; rfl; apply Known.at; apply FsAt.tail; apply FsAt.tail; apply FsAt.tail; apply FsAt.tail; apply FsAt.head; apply rd_ncaW; assumption; exact ResL.nil)
      show (Value.agg (nca (mixF L C (5 * 5)))) = _
      rw [hC]
      rfl
end Go.Proofs.YtficnjnnhcadaaaDoor

/-
  Contracts of the sponge: rounds.
  Conditions: none.
-/
namespace Go.Proofs.YtficnjnnhcadaaaDoor
open Go Go.RowKit SL
set_option maxRecDepth 8000
set_option maxHeartbeats 4000000
set_option linter.unusedSimpArgs false
set_option linter.unusedVariables false
attribute [local irreducible] SL.CW SL.LW SL.DW Calls SL.Ret SL.RetG SL.beginQ SL.roundQ SL.rangeQ SL.inQ SL.RW SL.AnyW SL.thenQ SL.thenC SL.thenW SL.blkQ SL.finQ SL.ValP SL.NewP SL.SetP SL.CallP SL.Rd SL.Wr SL.Known
attribute [local irreducible] turnL cF mixF mixL
def rowsL (L : List Nat) : List Nat := rowsF L 25
theorem mixL_len (L : List Nat) : (mixL L).length = 25 := by unfold mixL; exact mixF_len L _ 25
theorem mixL_lt (L : List Nat) (hb : ∀ i, L.getD i 0 < 18446744073709551616) : ∀ i, (mixL L).getD i 0 < 18446744073709551616 := by unfold mixL; exact mixF_lt L _ hb (cF_lt L hb 25) 25
theorem rowV_lt (L : List Nat) (hb : ∀ i, L.getD i 0 < 18446744073709551616) (x y : Nat) : rowV L x y < 18446744073709551616 :=
  xor_lt (hb _) (Nat.and_lt_two_pow (n := 64) _ (hb _))
theorem rowsF_lt (L : List Nat) (hb : ∀ i, L.getD i 0 < 18446744073709551616) (k : Nat) : ∀ i, (rowsF L k).getD i 0 < 18446744073709551616 := by
  induction k with
  | zero => exact rep_lt 25
  | succ k ih => exact getD_set_lt ih (rowV_lt L hb _ _)
theorem rowsL_len (L : List Nat) : (rowsL L).length = 25 := rowsF_len L 25
theorem rowsL_lt (L : List Nat) (hb : ∀ i, L.getD i 0 < 18446744073709551616) : ∀ i, (rowsL L).getD i 0 < 18446744073709551616 := rowsF_lt L hb 25
def roundL (L : List Nat) (n : Nat) : List Nat := (rowsL (mixL L)).set 0 ((rowsL (mixL L)).getD 0 0 ^^^ n)
theorem roundL_len (L : List Nat) (n : Nat) : (roundL L n).length = 25 := by simp [roundL, rowsL_len]
theorem roundL_lt (L : List Nat) (n : Nat) (hb : ∀ i, L.getD i 0 < 18446744073709551616) (hn : n < 18446744073709551616) : ∀ i, (roundL L n).getD i 0 < 18446744073709551616 :=
  getD_set_lt (rowsL_lt _ (mixL_lt L hb)) (xor_lt (rowsL_lt _ (mixL_lt L hb) 0) hn)
def permF (L : List Nat) : Nat → List Nat
  | 0 => L
  | k + 1 => roundL (permF L k) (numL.getD k 0)
def permL (L : List Nat) : List Nat := permF L 24
theorem numL_lt (i : Nat) (h : i < 24) : numL.getD i 0 < 18446744073709551616 := (by decide : ∀ i, i < 24 → numL.getD i 0 < 18446744073709551616) i h
theorem permF_len (L : List Nat) (hL : L.length = 25) (k : Nat) : (permF L k).length = 25 := by
  cases k with
  | zero => exact hL
  | succ k => exact roundL_len _ _
theorem permF_lt (L : List Nat) (hb : ∀ i, L.getD i 0 < 18446744073709551616) (k : Nat) (hk : k ≤ 24) : ∀ i, (permF L k).getD i 0 < 18446744073709551616 := by
  induction k with
  | zero => exact hb
  | succ k ih => exact roundL_lt _ _ (ih (by omega)) (numL_lt k (by omega))
theorem permL_len (L : List Nat) (hL : L.length = 25) : (permL L).length = 25 := permF_len L hL 24
theorem permL_lt (L : List Nat) (hb : ∀ i, L.getD i 0 < 18446744073709551616) : ∀ i, (permL L).getD i 0 < 18446744073709551616 := permF_lt L hb 24 (Nat.le_refl _)
theorem permF_step (L : List Nat) (k : Nat) : permF L (k + 1) = roundL (permF L k) (numL.getD k 0) := rfl
attribute [local irreducible] rowsL
theorem round_calls (L : List Nat) (n : Nat) (hL : L.length = 25) (hb : ∀ i, L.getD i 0 < 18446744073709551616) (hn : n < 18446744073709551616) (w : World) (hT : TurnAt w) : Calls Tryd.prog 29 #[.agg (nca L), .int .u64 (n : Int)] w (Ret w (.agg (nca (roundL L n)))) := by
  have hM : ∀ w' {fs}, St w [] fs w' → Calls Tryd.prog 37 #[.agg (nca L)] w' (Ret w' (.agg (nca (mixL L)))) := fun w' fs hst => Mix_calls L hL hb w' (hT.st hst)
  have hR : ∀ w', Calls Tryd.prog 36 #[.agg (nca (mixL L))] w' (Ret w' (.agg (nca (rowsL (mixL L))))) := fun w' => by
    unfold rowsL; exact Rows_calls _ (mixL_len L) (mixL_lt L hb) w'
  have hrb := rowsL_lt _ (mixL_lt L hb)
  have hl1 := mixL_len L
  have hl2 := rowsL_len (mixL L)
  have hl3 : ((rowsL (mixL L)).set 0 ((rowsL (mixL L)).getD 0 0 ^^^ n)).length = 25 := roundL_len L n
  refine enter (args := [_, _]) _ [] [] Tryd.func29 rfl Tryd.ntmps29 rfl (by simp) .nil ?_
  (refine CW.seq ?_; refine CW.region ?_; apply LW.boxA; rfl; rfl; intro _; apply LW.allocA; rfl; intro _; apply LW.nil; refine thenN ?_; refine CW.seq ?_; refine CW.region ?_; apply LW.load; rfl; rfl; apply Known.at; apply FsAt.tail; apply FsAt.head; apply rd_ncaW; assumption; apply LW.callE; rfl; rfl; infer_instance; apply ArgsOk.cons; rfl; exact ArgsOk.nil; intro w _; exact hM w (by assumption); apply LW.callE; rfl; rfl; infer_instance; apply ArgsOk.cons; rfl; exact ArgsOk.nil; intro w _; exact hR w; apply LW.store; rfl; rfl; apply SetAt.tail; apply SetAt.head; apply wr_ncaW; assumption; assumption; apply LW.nil; refine thenN ?_; refine CW.seq ?_; refine CW.region ?_; apply LW.v0; rfl; rfl; apply ValP.indexAddrL; rfl; rfl; rfl; apply LW.load; rfl; rfl; apply Known.at; apply FsAt.tail; apply FsAt.head; apply rd_nca0; omega; apply LW.v0; rfl; rfl; apply ValP.move; rfl; apply LW.v0; rfl; rfl; apply ValP.xorU; rfl; rfl; exact hrb _; assumption; apply LW.v0; rfl; rfl; apply ValP.indexAddrL; rfl; rfl; rfl; apply LW.store; rfl; rfl; apply SetAt.tail; apply SetAt.head; apply wr_nca0; omega; apply LW.nil; refine thenN ?_; refine CW.seq ?_; refine CW.region ?_; apply LW.load; rfl; rfl; apply Known.at; apply FsAt.tail; apply FsAt.head; apply rd_ncaW; assumption; apply LW.store; rfl; rfl; apply SetAt.head; apply wr_ncaO; rfl; assumption; apply LW.nil; refine thenN ?_; refine CW.ret ?_)
  (apply finR; exact .inl rfl; rfl; rfl; rfl; apply ResL.cons; apply Res.cell; rfl; apply Known.at; apply FsAt.head; apply rd_ncaW; assumption; exact ResL.nil)
  rfl
attribute [local irreducible] roundL
theorem rd_num {T E : TypeId} {fr : Nat × Nat} {i : Nat} [AgI Tryd.prog T false] (hi : i < 24) : Rd Tryd.prog T (.cells (nca numL) E fr) (0 + i * 1) (.int .u64 ((numL.getD i 0 : Nat) : Int)) := rd_nca (L := numL) hi
/-- what Round hands back. -/
def roundR (L : List Nat) (n : Int) : List Nat := if n < 0 ∨ 24 ≤ n then List.replicate 25 0 else roundL L (numL.getD n.toNat 0)
theorem numL_len : numL.length = 24 := rfl
attribute [local irreducible] numL
theorem Round_calls (L : List Nat) (n : Nat) (h : n < 24) (hL : L.length = 25) (hb : ∀ i, L.getD i 0 < 18446744073709551616) (w : World) (hT : TurnAt w) (hN : NumAt w) : Calls Tryd.prog 17 #[.agg (nca L), .int .i64 (n : Int)] w (Ret w (.tuple #[.agg (nca (roundL L (numL.getD n 0))), .int .i64 0])) := by
  obtain ⟨EN, frN, hN⟩ := hN
  have hR : ∀ w' {fs}, St w [] fs w' → Calls Tryd.prog 29 #[.agg (nca L), .int .u64 ((numL.getD n 0 : Nat) : Int)] w' (Ret w' (.agg (nca (roundL L (numL.getD n 0))))) := fun w' fs hst => round_calls L _ hL hb (numL_lt n h) w' (hT.st hst)
  have hl3 := roundL_len L (numL.getD n 0)
  refine enter (args := [_, _]) _ [] [] Tryd.func17 rfl Tryd.ntmps17 rfl (by simp) .nil ?_
  (refine CW.seq ?_; refine CW.region ?_; apply LW.boxA; rfl; rfl; intro _; apply LW.allocA; rfl; intro _; apply LW.v0; rfl; rfl; apply ValP.assign; rfl; apply LW.nil; refine thenN ?_; refine CW.seq ?_; refine CW.seq ?_; refine CW.region ?_; apply LW.v0; rfl; rfl; apply ValP.move; rfl; apply LW.v0; rfl; rfl; apply ValP.lssF; rfl; rfl; omega; apply LW.v0; rfl; rfl; apply ValP.move; rfl; apply LW.guardT'; rfl; rfl; (with_reducible rfl); apply LW.v0; rfl; rfl; apply ValP.move; rfl; apply LW.guardT'; rfl; rfl; (with_reducible rfl); apply LW.v0; rfl; rfl; apply ValP.geqF; rfl; rfl; omega; apply LW.v0; rfl; rfl; apply ValP.pickF'; rfl; (with_reducible rfl); rfl; apply LW.nil; refine thenN ?_; apply CW.condF; rfl; (with_reducible rfl); refine CW.skip ?_; refine thenN ?_; refine CW.seq ?_; apply CW.pre; refine AnyW.any 4 mixed (by decide +kernel) ?_; (try simp only [tsOf_cons, tsOf_nil, tsOf_app]); apply DW.loadO; rfl; rfl; rfl; exact WantT.none; rfl; apply TRead.tail; apply TRead.head; exact ancB_nil; apply rd_ncaW; assumption; apply DW.v0; rfl; rfl; rfl; exact WantT.none; rfl; apply ValP.move; rfl; apply DW.v0; rfl; rfl; rfl; exact WantT.none; rfl; apply ValP.indexAddrA; rfl; rfl; rfl; omega; apply DW.loadX; rfl; rfl; rfl; exact WantT.none; rfl; assumption; simp; apply rd_num; omega; apply DW.nil; simp only [fsOf_cons, fsOf_nil, fsOf_app, fsOf_tsOf, fsOf_new]; apply LW.callE; rfl; rfl; infer_instance; apply ArgsOk.cons; rfl; apply ArgsOk.cons; rfl; exact ArgsOk.nil; intro w _; exact hR w (by assumption); apply LW.store; rfl; rfl; apply SetAt.head; apply wr_ncaO; rfl; assumption; apply LW.v0; rfl; rfl; apply ValP.assign; rfl; apply LW.nil; refine thenN ?_; refine CW.ret ?_)
  (apply finR; exact .inl rfl; rfl; rfl; rfl; apply ResL.cons; apply Res.cell; rfl; apply Known.at; apply FsAt.head; apply rd_ncaW; assumption; apply ResL.cons; exact Res.tmp rfl; exact ResL.nil)
  rfl
theorem Permute_calls (L : List Nat) (hL : L.length = 25) (hb : ∀ i, L.getD i 0 < 18446744073709551616) (w : World) (hT : TurnAt w) (hN : NumAt w) : Calls Tryd.prog 18 #[.agg (nca L)] w (Ret w (.agg (nca (permL L)))) := by
  obtain ⟨EN, frN, hN⟩ := hN
  have hnl := numL_len
  have hR : ∀ k, k < 24 → ∀ w' {fs}, St w [] fs w' → Calls Tryd.prog 29 #[.agg (nca (permF L k)), .int .u64 ((numL.getD k 0 : Nat) : Int)] w' (Ret w' (.agg (nca (roundL (permF L k) (numL.getD k 0))))) := fun k hk w' fs hst => round_calls _ _ (permF_len L hL k) (permF_lt L hb k (by omega)) (numL_lt k hk) w' (hT.st hst)
  refine enter (args := [_]) _ [] [] Tryd.func18 rfl Tryd.ntmps18 rfl (by simp) .nil ?_
  (refine CW.seq ?_; refine CW.region ?_; apply LW.boxA; rfl; rfl; intro _; apply LW.allocA; rfl; intro _; apply LW.nil; refine thenN ?_; refine CW.seq ?_; refine CW.seq ?_; refine CW.region ?_; apply LW.load; rfl; rfl; exact Known.ext (by assumption) (by simp); apply rd_ncaW; assumption; apply LW.v0; rfl; rfl; apply ValP.move; rfl; apply LW.nil; refine thenN ?_; refine CW.block ?_)
  rename_i b1 b2
  refine CW.loop (fun k : Nat => ([(6, .int .i64 (k : Int)), (5, .agg (nca numL)), (2, .pointer (some ⟨b2, 0, none⟩)), (1, .pointer (some ⟨b1, 0, none⟩))],
    [(b2, .cells (nca (List.replicate 25 0)) 33 (0, 0)), (b1, .cells (nca (permF L k)) 33 (0, 0))]))
    (fun k => k ≤ 24) (fun k => 24 - k) 0 (Nat.zero_le _) ⟨rfl, rfl, rfl, rfl, trivial⟩ (List.Sublist.refl _) ?_
  intro k hk
  dsimp only at hk ⊢
  have hlen := permF_len L hL k
  rcases Nat.lt_or_ge k 24 with hk4 | hk4
  · have hR' := fun w' fs hst => hR k hk4 w' (fs := fs) hst
    have hlen' := roundL_len (permF L k) (numL.getD k 0)
    (refine CW.seq ?_; refine CW.region ?_; apply LW.v0; rfl; rfl; apply ValP.lssT; rfl; rfl; omega; apply LW.nil; refine thenN ?_; refine CW.seq ?_; apply CW.condT; rfl; (with_reducible rfl); refine CW.skip ?_; refine thenN ?_; refine CW.seq ?_; refine CW.block ?_; refine CW.seq ?_; refine CW.region ?_; apply LW.v0; rfl; rfl; apply ValP.indexA; rfl; rfl; rfl; rfl; omega; apply nth_nca; omega; apply LW.v0; rfl; rfl; apply ValP.assign; rfl; apply LW.nil; refine thenN ?_; refine CW.region ?_; apply LW.load; rfl; rfl; apply Known.at; apply FsAt.tail; apply FsAt.head; apply rd_ncaW; assumption; apply LW.v0; rfl; rfl; apply ValP.move; rfl; apply LW.callE; rfl; rfl; infer_instance; apply ArgsOk.cons; rfl; apply ArgsOk.cons; rfl; exact ArgsOk.nil; intro w _; exact hR' w _ (by assumption); apply LW.store; rfl; rfl; apply SetAt.tail; apply SetAt.head; apply wr_ncaW; assumption; assumption; apply LW.nil; refine blkN ?_; refine thenN ?_; refine CW.region ?_; apply LW.v0; rfl; rfl; apply ValP.addZL; rfl; rfl; decide; omega; apply LW.v0; rfl; rfl; apply ValP.move; rfl; apply LW.nil)
    refine thenX ⟨rfl, k + 1, hk4, by omega, ⟨rfl, rfl, rfl, rfl, trivial⟩, ?_⟩
    exact List.Sublist.refl _
  · obtain rfl : k = 24 := by omega
    have hlr : (List.replicate 25 0 : List Nat).length = 25 := rfl
    (refine CW.seq ?_; refine CW.region ?_; apply LW.v0; rfl; rfl; apply ValP.lssF; rfl; rfl; omega; apply LW.nil; refine thenN ?_; refine CW.seq ?_; apply CW.condF; rfl; (with_reducible rfl); refine CW.exit ?_; refine thenE ?_; refine thenE ?_; refine blkE rfl ?_; refine thenN ?_; refine CW.seq ?_; refine CW.region ?_; apply LW.load; rfl; rfl; apply Known.at; apply FsAt.tail; apply FsAt.head; apply rd_ncaW; assumption; apply LW.store; rfl; rfl; apply SetAt.head; apply wr_ncaW; assumption; assumption; apply LW.nil; refine thenN ?_; refine CW.ret ?_)
    (apply finR; exact .inl rfl; rfl; rfl; rfl; apply ResL.cons; apply Res.cell; rfl; apply Known.at; apply FsAt.head; apply rd_ncaW; assumption; exact ResL.nil)
    rfl
end Go.Proofs.YtficnjnnhcadaaaDoor

/-
  Contracts of the sponge: padded bytes.
  Conditions: none.
-/
namespace Go.Proofs.YtficnjnnhcadaaaDoor
open Go Go.RowKit SL
set_option maxRecDepth 8000
set_option maxHeartbeats 4000000
set_option linter.unusedSimpArgs false
set_option linter.unusedVariables false
attribute [local irreducible] SL.CW SL.LW SL.DW Calls SL.Ret SL.RetG SL.beginQ SL.roundQ SL.rangeQ SL.inQ SL.RW SL.AnyW SL.thenQ SL.thenC SL.thenW SL.blkQ SL.finQ SL.ValP SL.NewP SL.SetP SL.CallP SL.Rd SL.Wr SL.Known
/-- how many bytes the padded ones are. -/
def padN (n : Nat) : Nat := (n / 136 + 1) * 136
def pad1 (b : List UInt8) : List UInt8 := (b ++ List.replicate (padN b.length - b.length) 0).set b.length 1
def padB (b : List UInt8) : List UInt8 := (pad1 b).set (padN b.length - 1) ((pad1 b).getD (padN b.length - 1) 0 ||| 128)
theorem padN_lt (n : Nat) : n < padN n := by unfold padN; omega
theorem pad1_len (b : List UInt8) : (pad1 b).length = padN b.length := by have := padN_lt b.length; simp [pad1]; omega
theorem padB_len (b : List UInt8) : (padB b).length = padN b.length := by rw [padB, List.length_set, pad1_len]
theorem pad_copy (b : List UInt8) : ((List.replicate (padN b.length) (Value.int .u8 0)).toArray.toList.take 0 ++ ucs b ++ (List.replicate (padN b.length) (Value.int .u8 0)).toArray.toList.drop (0 + b.length)).toArray = uca (b ++ List.replicate (padN b.length - b.length) 0) := by
  simp [uca, ucs_map]
def PadR (b : List UInt8) (v : Value) (gs : Fs) : Prop := ∃ g, v = .slice (some ⟨g, 0, none⟩) (padB b).length (padB b).length ∧ gs = [(g, .cells (uca (padB b)) 5 (0, 0))]
theorem wr_pad1 {T E : TypeId} {z : Value} [InfoI Tryd.prog T 1 z] (b : List UInt8) : Wr Tryd.prog T (.cells (uca (b ++ List.replicate (padN b.length - b.length) (0 : UInt8))) E (0, 0)) (0 + b.length * 1) (.int .u8 1) (.cells (uca (pad1 b)) E (0, 0)) :=
  wr_uca (x := 1) (by have := padN_lt b.length; simp; omega) (by decide)
theorem or_byte (u : UInt8) : UInt8.ofNat (u.toNat ||| 128) = u ||| 128 := by
  apply UInt8.toNat_inj.1
  rw [UInt8.toNat_or, UInt8.toNat_ofNat']
  exact Nat.mod_eq_of_lt (Nat.or_lt_two_pow (n := 8) (UInt8.toNat_lt u) (by decide))
theorem wr_padB {T E : TypeId} {z : Value} [InfoI Tryd.prog T 1 z] (b : List UInt8) : Wr Tryd.prog T (.cells (uca (pad1 b)) E (0, 0)) (0 + (padN b.length - 1) * 1) (.int .u8 ((((pad1 b).getD (padN b.length - 1) 0).toNat ||| 128 : Nat) : Int)) (.cells (uca (padB b)) E (0, 0)) := by
  have h := wr_uca (P := Tryd.prog) (T := T) (E := E) (l := pad1 b) (i := padN b.length - 1) (x := ((pad1 b).getD (padN b.length - 1) 0).toNat ||| 128) (z := z) (by rw [pad1_len]; have := padN_lt b.length; omega) (Nat.or_lt_two_pow (n := 8) (UInt8.toNat_lt _) (by decide))
  rw [or_byte] at h
  exact h
theorem Pad_calls (b : List UInt8) (v : Value) (w : World) (hv : RowAt w 1 v b.length (ucs b)) (hb : b.length ≤ 100000) : Calls Tryd.prog 9 #[v] w (RetG w [] (PadR b)) := by
  obtain ⟨p, c, rfl, hc, hm⟩ := hv.form
  have hlt := padN_lt b.length
  have h1 := pad1_len b
  have h2 := padB_len b
  have hN : padN b.length = (b.length / 136 + 1) * 136 := rfl
  refine enter (args := [_]) _ [] [] Tryd.func9 rfl Tryd.ntmps9 rfl (by simp) .nil ?_
  (refine CW.seq ?_; refine CW.region ?_; apply LW.v0; rfl; rfl; apply ValP.assign; rfl; apply LW.nil; refine thenN ?_; refine CW.seq ?_; refine CW.region ?_; apply LW.v0; rfl; rfl; apply ValP.move; rfl; apply LW.v0; rfl; rfl; apply ValP.lenR; rfl; infer_instance; rfl; apply LW.v0; rfl; rfl; apply ValP.quoZL; rfl; rfl; decide; omega; omega; apply LW.v0; rfl; rfl; apply ValP.addZL; rfl; rfl; decide; omega; apply LW.v0; rfl; rfl; apply ValP.mulZL; rfl; rfl; decide; omega)
  rw [← hN]
  refine LW.makeOwn rfl inferInstance inferInstance inferInstance rfl rfl ?_ ?_ fun g => ?_
  · omega
  · simp only [maxLen]; omega
  (apply LW.v0; rfl; rfl; apply ValP.assign; rfl; apply LW.nil; refine thenN ?_; refine CW.seq ?_; refine CW.region ?_; apply LW.v0; rfl; rfl; apply ValP.move; rfl; apply LW.v0; rfl; rfl; apply ValP.move; rfl; apply LW.v0; rfl; rfl; apply ValP.move; rfl)
  refine LW.copyAt (cur := (List.replicate (padN b.length) (Value.int .u8 0)).toArray) (E' := 5) (fs' := [(g, .cells (((List.replicate (padN b.length) (Value.int .u8 0)).toArray.toList.take 0 ++ ucs b ++ (List.replicate (padN b.length) (Value.int .u8 0)).toArray.toList.drop (0 + b.length)).toArray) 5 (0, 0))]) rfl rfl inferInstance inferInstance inferInstance rfl rfl (fun w hst => hv.st hst) (ucs_cells b) (by omega) (by simp; omega) (by (apply SetAt.head)) ?_
  rw [pad_copy]
  have hl0 : (b ++ List.replicate (padN b.length - b.length) (0 : UInt8)).length = padN b.length := by simp; omega
  (apply LW.v0; rfl; rfl; apply ValP.indexAddrS; rfl; rfl; rfl; omega; apply LW.store; rfl; rfl; apply SetAt.head; exact wr_pad1 b; apply LW.nil; refine thenN ?_; refine CW.seq ?_; refine CW.region ?_; apply LW.v0; rfl; rfl; apply ValP.move; rfl; apply LW.v0; rfl; rfl; apply ValP.move; rfl; apply LW.v0; rfl; rfl; apply ValP.lenR; rfl; infer_instance; rfl; apply LW.v0; rfl; rfl; apply ValP.subZL; rfl; rfl; decide; omega; omega; apply LW.v0; rfl; rfl; apply ValP.indexAddrS; rfl; rfl; rfl; omega; apply LW.load; rfl; rfl; apply Known.at; apply FsAt.head; apply rd_uca; omega; apply LW.v0; rfl; rfl; apply ValP.orBL; rfl; rfl; decide; exact UInt8.toNat_lt _; decide; apply LW.v0; rfl; rfl; apply ValP.indexAddrS; rfl; rfl; rfl; omega; apply LW.store; rfl; rfl; apply SetAt.head; exact wr_padB b; apply LW.nil; refine thenN ?_; refine CW.seq ?_; refine CW.region ?_; apply LW.v0; rfl; rfl; apply ValP.move; rfl; apply LW.v0; rfl; rfl; apply ValP.assign; rfl; apply LW.nil; refine thenN ?_; refine CW.ret ?_)
  refine fin [(g, .cells (uca (padB b)) 5 (0, 0))] (.inl rfl) rfl rfl (by (apply ResL.cons; exact Res.tmp rfl; exact ResL.nil)) (List.Sublist.refl _) ⟨g, ?_, rfl⟩
  rw [h2]; rfl
def ChunkR (v0 : Value) (v : Value) (gs : Fs) : Prop := ∃ b1 b2, v = .func (.func 28) #[] #[.pointer (some ⟨b1, 0, none⟩), .pointer (some ⟨b2, 0, none⟩)] ∧ gs = [(b2, .cells #[.int .i64 136] 3 (0, 0)), (b1, .cells #[v0] 24 (0, 0))]
theorem Chunk_calls (p : Option Addr) (n c : Nat) (w : World) : Calls Tryd.prog 15 #[.slice p n c, .int .i64 136] w (RetG w [] (ChunkR (.slice p n c))) := by
  refine enter (args := [_, _]) _ [] [] Tryd.func15 rfl Tryd.ntmps15 rfl (by simp) .nil ?_
  (refine CW.seq ?_; refine CW.region ?_; apply LW.box1; rfl; rfl; rfl; intro _; apply LW.box1; rfl; rfl; rfl; intro _; apply LW.v0; rfl; rfl; apply ValP.assign; rfl; apply LW.nil; refine thenN ?_; refine CW.seq ?_; refine CW.seq ?_; refine CW.region ?_; apply LW.load; rfl; rfl; apply Known.at; apply FsAt.head; exact Rd.one' rfl; apply LW.v0; rfl; rfl; apply ValP.lssF; rfl; rfl; omega; apply LW.nil; refine thenN ?_; apply CW.condF; rfl; (with_reducible rfl); refine CW.skip ?_; refine thenN ?_; refine CW.seq ?_; refine CW.region ?_; apply LW.v0; rfl; rfl; apply ValP.makeFunc; exact ArgsOk.nil; apply ArgsOk.cons; rfl; apply ArgsOk.cons; rfl; exact ArgsOk.nil; apply LW.v0; rfl; rfl; apply ValP.assign; rfl; apply LW.nil; refine thenN ?_; refine CW.ret ?_)
  rename_i b1 b2
  exact fin _ (.inl rfl) rfl rfl (by (apply ResL.cons; exact Res.tmp rfl; exact ResL.nil)) (List.Sublist.refl _) ⟨b1, b2, rfl, rfl⟩
end Go.Proofs.YtficnjnnhcadaaaDoor

/-
  Contracts of the sponge: digests.
  Conditions: none.
-/
namespace Go.Proofs.YtficnjnnhcadaaaDoor
open Go Go.RowKit SL
set_option maxRecDepth 8000
set_option maxHeartbeats 4000000
set_option linter.unusedSimpArgs false
set_option linter.unusedVariables false
attribute [local irreducible] SL.CW SL.LW SL.DW Calls SL.Ret SL.RetG SL.beginQ SL.roundQ SL.rangeQ SL.inQ SL.RW SL.AnyW SL.thenQ SL.thenC SL.thenW SL.blkQ SL.finQ SL.ValP SL.NewP SL.SetP SL.CallP SL.Rd SL.Wr SL.Known
def soakF (L : List Nat) (p : List UInt8) (o : Nat) : Nat → List Nat
  | 0 => L
  | k + 1 => (soakF L p o k).set (k / 8) ((soakF L p o k).getD (k / 8) 0 ^^^ ((p.getD (o + k) 0).toNat * 2 ^ (8 * (k % 8)) % 18446744073709551616))
theorem soakF_len (L : List Nat) (p : List UInt8) (o k : Nat) : (soakF L p o k).length = L.length := by
  induction k with
  | zero => rfl
  | succ k ih => simp [soakF, ih]
theorem soakF_lt (L : List Nat) (p : List UInt8) (o : Nat) (hb : ∀ i, L.getD i 0 < 18446744073709551616) (k : Nat) : ∀ i, (soakF L p o k).getD i 0 < 18446744073709551616 := by
  induction k with
  | zero => exact hb
  | succ k ih => exact getD_set_lt ih (xor_lt (ih _) (Nat.mod_lt _ (by decide)))
def sumF (p : List UInt8) : Nat → List Nat
  | 0 => List.replicate 25 0
  | c + 1 => permL (soakF (sumF p c) p (136 * c) 136)
theorem sumF_len (p : List UInt8) (c : Nat) : (sumF p c).length = 25 := by
  induction c with
  | zero => simp [sumF]
  | succ c ih => exact permL_len _ (by rw [soakF_len, ih])
theorem sumF_lt (p : List UInt8) (c : Nat) : ∀ i, (sumF p c).getD i 0 < 18446744073709551616 := by
  induction c with
  | zero => exact rep_lt 25
  | succ c ih => exact permL_lt _ (soakF_lt _ _ _ ih _)
def idF (L : List Nat) : Nat → List UInt8
  | 0 => List.replicate 32 0
  | k + 1 => (idF L k).set k (UInt8.ofNat (L.getD (k / 8) 0 / 2 ^ (8 * (k % 8)) % 256))
theorem idF_len (L : List Nat) (k : Nat) : (idF L k).length = 32 := by
  induction k with
  | zero => simp [idF]
  | succ k ih => simp [idF, ih]
def padC (n : Nat) : Nat := n / 136 + 1
def sumB (b : List UInt8) : List UInt8 := idF (sumF (padB b) (padC b.length)) 32
theorem ValP.cut3o {P : Program} {e : Env} {T : TypeId} {x : Operand} {g o o' m n : Nat} {ik il im : IntKind} {E i j k c : Nat} {z : Value} {lo hi mx : Operand} (hU : UnI P T (.slice E)) (hI : InfoI P E 1 z) (hx : e.ev x = some (.slice (some ⟨g, o, none⟩) n c)) (hl : e.ev lo = some (.int il (i : Int))) (hh : e.ev hi = some (.int ik (j : Int))) (hm : e.ev mx = some (.int im (k : Int))) (h1 : j = i + m) (h2 : k = i + m) (h3 : i + m ≤ c) (h4 : 0 < m) (h5 : o' = o + i) :
    ValP P e [] (.slice T x (some lo) (some hi) (some mx)) (.slice (some ⟨g, o', none⟩) m m) := by
  subst h1 h2 h5
  have h := ValP.cut3 (P := P) (e := e) hU hI hx hl hh hm (by omega) (by omega) h3 (by omega)
  have e1 : i + m - i = m := by omega
  have e2 : (Option.map (fun x => Addr.add x (i * 1)) (some ⟨g, o, none⟩)) = some ⟨g, o + i, none⟩ := by simp [Addr.add]
  rw [e1] at h
  rw [← e2]
  exact h
theorem soakF_zero (L : List Nat) (p : List UInt8) (o : Nat) : soakF L p o 0 = L := rfl
theorem sumF_zero (p : List UInt8) : sumF p 0 = List.replicate 25 0 := rfl
theorem soakF_succ (L : List Nat) (p : List UInt8) (o k : Nat) : soakF L p o (k + 1) = (soakF L p o k).set (k / 8) ((soakF L p o k).getD (k / 8) 0 ^^^ ((p.getD (o + k) 0).toNat * 2 ^ (8 * (k % 8)) % 18446744073709551616)) := rfl
theorem sumF_succ (p : List UInt8) (c : Nat) : sumF p (c + 1) = permL (soakF (sumF p c) p (136 * c) 136) := rfl
theorem idF_zero (L : List Nat) : idF L 0 = List.replicate 32 0 := rfl
theorem idF_succ (L : List Nat) (k : Nat) : idF L (k + 1) = (idF L k).set k (UInt8.ofNat (L.getD (k / 8) 0 / 2 ^ (8 * (k % 8)) % 256)) := rfl
attribute [local irreducible] permL padB soakF sumF idF
theorem Sum_calls (b : List UInt8) (v : Value) (w : World) (hv : RowAt w 1 v b.length (ucs b)) (hb : b.length ≤ 100000) (hT : TurnAt w) (hN : NumAt w) : Calls Tryd.prog 10 #[v] w (Ret w (.agg (uca (sumB b)))) := by
  have hPad : ∀ w' {fs}, St w [] fs w' → Calls Tryd.prog 9 #[v] w' (RetG w' [] (PadR b)) := fun w' fs hst => Pad_calls b v w' (hv.st hst) hb
  have hP : ∀ L : List Nat, L.length = 25 → (∀ i, L.getD i 0 < 18446744073709551616) → ∀ w' {fs}, St w [] fs w' → Calls Tryd.prog 18 #[.agg (nca L)] w' (Ret w' (.agg (nca (permL L)))) := fun L h1 h2 w' fs hst => Permute_calls L h1 h2 w' (hT.st hst) (hN.st hst)
  obtain ⟨p0, c0, rfl, _, _⟩ := hv.form
  obtain ⟨P, hPe⟩ : ∃ P, P = padB b := ⟨_, rfl⟩
  obtain ⟨N, hNe⟩ : ∃ N, N = padC b.length := ⟨_, rfl⟩
  have hlP : P.length = 136 * N := by rw [hPe, hNe, padB_len, padN, padC]; omega
  have hNb : N ≤ 1000 := by rw [hNe, padC]; omega
  refine enter (args := [_]) _ [] [] Tryd.func10 rfl Tryd.ntmps10 rfl (by simp) .nil ?_
  (refine CW.seq ?_; refine CW.region ?_; apply LW.allocA; rfl; intro _; apply LW.nil; refine thenN ?_; refine CW.seq ?_; refine CW.region ?_; apply LW.allocA; rfl; intro _; apply LW.nil; refine thenN ?_; refine CW.seq ?_; refine CW.seq ?_; refine CW.region ?_; apply LW.v0; rfl; rfl; apply ValP.move; rfl)
  refine LW.callR rfl rfl inferInstance (by (apply ArgsOk.cons; rfl; exact ArgsOk.nil)) (fun w hst => hPad w hst) ?_
  rintro v1 gs1 ⟨g, rfl, rfl⟩
  rw [← hPe]
  skip
  refine LW.callR rfl rfl inferInstance (by (apply ArgsOk.cons; rfl; apply ArgsOk.cons; rfl; exact ArgsOk.nil)) (fun w hst => Chunk_calls _ _ _ w) ?_
  rintro v2 gs2 ⟨b1, b2, rfl, rfl⟩
  simp only [List.cons_append, List.nil_append]
  (apply LW.nil; refine thenN ?_; refine CW.block ?_)
  rename_i bi bl
  apply CW.rangeFunc
  rfl
  rfl
  infer_instance
  rfl
  exact Tryd.func28
  rfl
  exact Tryd.ntmps28
  rfl
  rfl
  intro l r rec hrec
  (refine CW.seq ?_; refine CW.region ?_; apply LW.v0; rfl; rfl; apply ValP.assign; rfl; apply LW.nil; refine thenN ?_; refine CW.block ?_)
  refine CW.loop (fun c : Nat => ([(4, .int .i64 ((136 * c : Nat) : Int)), (0, .func (.yield l) #[] #[]), (1, .pointer (some ⟨b1, 0, none⟩)), (2, .pointer (some ⟨b2, 0, none⟩))],
    [(l, rdy rec), (r, .deferred (some [])), (b2, .cells #[.int .i64 136] 3 (0, 0)), (b1, .cells #[.slice (some ⟨g, 0, none⟩) P.length P.length] 24 (0, 0)), (g, .cells (uca P) 5 (0, 0)),
      (bl, .cells (nca (sumF P c)) 33 (0, 0)), (bi, .cells (uca (List.replicate 32 0)) 27 (0, 0))]))
    (fun c => c ≤ N) (fun c => N - c) 0 (Nat.zero_le _) ⟨rfl, rfl, rfl, rfl, trivial⟩ (by dsimp only; rw [sumF_zero]; exact List.Sublist.refl _) ?_
  intro c hc
  dsimp only at hc ⊢
  rcases Nat.lt_or_ge c N with hcN | hcN
  · have hle : 136 * c + 136 ≤ P.length := by omega
    (refine CW.seq ?_; refine CW.seq ?_; refine CW.region ?_; apply LW.v0; rfl; rfl; apply ValP.move; rfl; apply LW.load; rfl; rfl; apply Known.at; apply FsAt.tail; apply FsAt.tail; apply FsAt.tail; apply FsAt.head; exact Rd.one' rfl; apply LW.v0; rfl; rfl; apply ValP.lenR; rfl; infer_instance; rfl; apply LW.v0; rfl; rfl; apply ValP.lssT; rfl; rfl; omega; apply LW.nil; refine thenN ?_; apply CW.condT; rfl; (with_reducible rfl); refine CW.skip ?_; refine thenN ?_; refine CW.seq ?_; refine CW.block ?_; refine CW.seq ?_; apply CW.pre; refine AnyW.any 5 mixed (by decide +kernel) ?_; (try simp only [tsOf_cons, tsOf_nil, tsOf_app]); apply DW.loadO; rfl; rfl; rfl; exact WantT.none; rfl; apply TRead.tail; apply TRead.tail; apply TRead.head; exact ancB_nil; exact Rd.one' rfl; apply DW.loadO; rfl; rfl; rfl; exact WantT.none; rfl; apply TRead.tail; apply TRead.tail; apply TRead.tail; apply TRead.head; exact ancB_nil; exact Rd.one' rfl; apply DW.v0; rfl; rfl; rfl; exact WantT.none; rfl; apply ValP.move; rfl; apply DW.v0; rfl; rfl; rfl; exact WantT.none; rfl; apply ValP.cutFrom; infer_instance; infer_instance; rfl; rfl; omega; apply DW.v0; rfl; rfl; rfl; exact WantT.none; rfl; apply ValP.lenR; rfl; infer_instance; rfl; apply DW.nil; simp only [fsOf_cons, fsOf_nil, fsOf_app, fsOf_tsOf, fsOf_new]; apply LW.v0; rfl; rfl; apply ValP.minZ; rfl; rfl; apply LW.v0; rfl; rfl; apply ValP.assign; rfl; apply LW.nil; refine thenN ?_; refine CW.seq ?_; refine CW.region ?_; apply LW.v0; rfl; rfl; apply ValP.move; rfl; apply LW.load; rfl; rfl; apply Known.at; apply FsAt.tail; apply FsAt.tail; apply FsAt.tail; apply FsAt.head; exact Rd.one' rfl; apply LW.v0; rfl; rfl; apply ValP.move; rfl; apply LW.v0; rfl; rfl; apply ValP.move; rfl; apply LW.v0; rfl; rfl; apply ValP.move; rfl; apply LW.v0; rfl; rfl; apply ValP.addZ; rfl; rfl; omega; apply LW.v0; rfl; rfl; apply ValP.move; rfl; apply LW.v0; rfl; rfl; apply ValP.move; rfl; apply LW.v0; rfl; rfl; apply ValP.addZ; rfl; rfl; omega)
    apply LW.v0
    rfl
    rfl
    refine ValP.cut3o (o' := 136 * c) (m := 136) inferInstance inferInstance rfl rfl rfl rfl ?_ ?_ ?_ ?_ ?_
    · show 136 * c + min 136 (P.length - 136 * c) = 136 * c + 136
      omega
    · show 136 * c + min 136 (P.length - 136 * c) = 136 * c + 136
      omega
    · omega
    · omega
    · omega
    apply LW.yield
    rfl
    rfl
    (apply ArgsOk.cons; rfl; exact ArgsOk.nil)
    exact hrec
    (apply FsAt.head)
    rfl
    rfl
    (refine CW.region ?_; apply LW.v0; rfl; rfl; apply ValP.assign; rfl; apply LW.nil; apply beginI; apply SetAt.head; refine CW.block ?_; refine CW.seq ?_; refine CW.seq ?_; refine CW.region ?_; apply LW.v0; rfl; rfl; apply ValP.move; rfl; apply LW.v0; rfl; rfl; apply ValP.lenR; rfl; infer_instance; rfl; apply LW.v0; rfl; rfl; apply ValP.move; rfl; apply LW.nil; refine thenN ?_; refine CW.block ?_)
    refine CW.loop (fun k : Nat => ([(14, .int .i64 (k : Int)), (13, .int .i64 136), (12, .slice (some ⟨g, 136 * c, none⟩) 136 136), (3, .pointer (some ⟨bl, 0, none⟩)), (2, .pointer (some ⟨bi, 0, none⟩))],
      [(l, bsy rec), (r, .deferred (some [])), (b2, .cells #[.int .i64 136] 3 (0, 0)), (b1, .cells #[.slice (some ⟨g, 0, none⟩) P.length P.length] 24 (0, 0)), (g, .cells (uca P) 5 (0, 0)),
      (bl, .cells (nca (soakF (sumF P c) P (136 * c) k)) 33 (0, 0)), (bi, .cells (uca (List.replicate 32 0)) 27 (0, 0))]))
      (fun k => k ≤ 136) (fun k => 136 - k) 0 (Nat.zero_le _) ⟨rfl, rfl, rfl, rfl, rfl, trivial⟩ ?_ ?_
    · dsimp only
      rw [soakF_zero]
      exact List.Sublist.refl _
    intro k hk
    dsimp only at hk ⊢
    have hls := soakF_len (sumF P c) P (136 * c) k
    have hls' := sumF_len P c
    have hsb := soakF_lt _ P (136 * c) (sumF_lt P c) k
    rcases Nat.lt_or_ge k 136 with hk6 | hk6
    · have hbt : (P.getD (136 * c + k) 0).toNat < 256 := UInt8.toNat_lt _
      (refine CW.seq ?_; refine CW.region ?_; apply LW.v0; rfl; rfl; apply ValP.lssT; rfl; rfl; omega; apply LW.nil; refine thenN ?_; refine CW.seq ?_; apply CW.condT; rfl; (with_reducible rfl); refine CW.skip ?_; refine thenN ?_; refine CW.seq ?_; refine CW.block ?_; refine CW.seq ?_; refine CW.region ?_; apply LW.v0; rfl; rfl; apply ValP.move; rfl; apply LW.v0; rfl; rfl; apply ValP.indexAddrS; rfl; rfl; rfl; omega; apply LW.load; rfl; rfl; apply Known.at; apply FsAt.tail; apply FsAt.tail; apply FsAt.tail; apply FsAt.tail; apply FsAt.head; apply rd_ucaO; omega; apply LW.v0; rfl; rfl; apply ValP.assign; rfl; apply LW.v0; rfl; rfl; apply ValP.assign; rfl; apply LW.nil; refine thenN ?_; apply CW.pre; refine AnyW.any 10 mixed (by decide +kernel) ?_; (try simp only [tsOf_cons, tsOf_nil, tsOf_app]); apply DW.v0; rfl; rfl; rfl; exact WantT.none; rfl; apply ValP.move; rfl; apply DW.v0; rfl; rfl; rfl; exact WantT.none; rfl; apply ValP.quoZL; rfl; rfl; decide; omega; omega; apply DW.v0; rfl; rfl; rfl; exact WantT.none; rfl; apply ValP.indexAddrA; rfl; rfl; rfl; omega; apply DW.loadO; rfl; rfl; rfl; exact WantT.none; rfl; apply TRead.tail; apply TRead.tail; apply TRead.tail; apply TRead.tail; apply TRead.tail; apply TRead.head; exact ancB_nil; apply rd_nca; omega; apply DW.v0; rfl; rfl; rfl; exact WantT.none; rfl; apply ValP.move; rfl; apply DW.v0; rfl; rfl; rfl; exact WantT.none; rfl; apply ValP.convN; rfl; omega; omega; apply DW.v0; rfl; rfl; rfl; exact WantT.none; rfl; apply ValP.move; rfl; apply DW.v0; rfl; rfl; rfl; exact WantT.none; rfl; apply ValP.remZL; rfl; rfl; decide; omega; apply DW.v0; rfl; rfl; rfl; exact WantT.none; rfl; apply ValP.mulZK; rfl; rfl; decide; omega; apply DW.v0; rfl; rfl; rfl; exact WantT.none; rfl; apply ValP.shlU; rfl; rfl; omega; apply DW.nil; simp only [fsOf_cons, fsOf_nil, fsOf_app, fsOf_tsOf, fsOf_new]; apply LW.v0; rfl; rfl; apply ValP.xorU; rfl; rfl; exact hsb _; exact Nat.mod_lt _ (by decide); apply LW.v0; rfl; rfl; apply ValP.indexAddrA; rfl; rfl; rfl; omega; apply LW.store; rfl; rfl; apply SetAt.tail; apply SetAt.tail; apply SetAt.tail; apply SetAt.tail; apply SetAt.tail; apply SetAt.head; apply wr_nca; omega; apply LW.nil; refine blkN ?_; refine thenN ?_; refine CW.region ?_; apply LW.v0; rfl; rfl; apply ValP.addZL; rfl; rfl; decide; omega; apply LW.v0; rfl; rfl; apply ValP.move; rfl; apply LW.nil)
      refine thenX ⟨rfl, k + 1, hk6, by omega, ⟨rfl, rfl, rfl, rfl, rfl, trivial⟩, ?_⟩
      rw [soakF_succ]
      exact List.Sublist.refl _
    · obtain rfl : k = 136 := by omega
      have hPerm : ∀ w' {fs}, St w [] fs w' → Calls Tryd.prog 18 #[.agg (nca (soakF (sumF P c) P (136 * c) 136))] w' (Ret w' (.agg (nca (permL (soakF (sumF P c) P (136 * c) 136))))) := hP _ (by rw [hls, hls']) hsb
      have hlp := permL_len (soakF (sumF P c) P (136 * c) 136) (by rw [hls, hls'])
      have hls2 : (soakF (sumF P c) P (136 * c) 136).length = 25 := by rw [hls, hls']
      (refine CW.seq ?_; refine CW.region ?_; apply LW.v0; rfl; rfl; apply ValP.lssF; rfl; rfl; omega; apply LW.nil; refine thenN ?_; refine CW.seq ?_; apply CW.condF; rfl; (with_reducible rfl); refine CW.exit ?_; refine thenE ?_; refine thenE ?_; refine blkE rfl ?_; refine thenN ?_; refine CW.region ?_; apply LW.load; rfl; rfl; apply Known.at; apply FsAt.tail; apply FsAt.tail; apply FsAt.tail; apply FsAt.tail; apply FsAt.tail; apply FsAt.head; apply rd_ncaW; assumption; apply LW.callE; rfl; rfl; infer_instance; apply ArgsOk.cons; rfl; exact ArgsOk.nil; intro w _; exact hPerm w (by assumption); apply LW.store; rfl; rfl; apply SetAt.tail; apply SetAt.tail; apply SetAt.tail; apply SetAt.tail; apply SetAt.tail; apply SetAt.head; apply wr_ncaW; assumption; assumption; apply LW.nil; refine blkN ?_; apply roundN; apply SetAt.head; apply LW.v0; rfl; rfl; apply ValP.notT; rfl; (with_reducible rfl); apply LW.nil; refine thenN ?_; apply CW.condF; rfl; (with_reducible rfl); refine CW.skip ?_; refine blkN ?_; refine thenN ?_; refine CW.region ?_; apply LW.v0; rfl; rfl; apply ValP.move; rfl; apply LW.load; rfl; rfl; apply Known.at; apply FsAt.tail; apply FsAt.tail; apply FsAt.head; exact Rd.one' rfl; apply LW.v0; rfl; rfl; apply ValP.addZL; rfl; rfl; decide; omega; apply LW.v0; rfl; rfl; apply ValP.assign; rfl; apply LW.nil)
      refine thenX ⟨rfl, c + 1, hcN, by omega, ⟨rfl, rfl, rfl, rfl, trivial⟩, ?_⟩
      rw [sumF_succ]
      exact List.Sublist.refl _
  · obtain rfl : c = N := by omega
    have hls := sumF_len P c
    have hsb := sumF_lt P c
    (refine CW.seq ?_; refine CW.seq ?_; refine CW.region ?_; apply LW.v0; rfl; rfl; apply ValP.move; rfl; apply LW.load; rfl; rfl; apply Known.at; apply FsAt.tail; apply FsAt.tail; apply FsAt.tail; apply FsAt.head; exact Rd.one' rfl; apply LW.v0; rfl; rfl; apply ValP.lenR; rfl; infer_instance; rfl; apply LW.v0; rfl; rfl; apply ValP.lssF; rfl; rfl; omega; apply LW.nil; refine thenN ?_; apply CW.condF; rfl; (with_reducible rfl); refine CW.exit ?_; refine thenE ?_; refine thenE ?_; refine blkE rfl ?_)
    apply rangeN
    (exact .inr rfl)
    (exact Shut.nil)
    (apply SetAt.head)
    (refine blkN ?_; refine thenM ?_; refine CW.seq ?_; refine CW.seq ?_; refine CW.region ?_; apply LW.v0; rfl; rfl; apply ValP.move; rfl; apply LW.nil; refine thenN ?_; refine CW.block ?_)
    refine CW.loop (fun k : Nat => ([(34, .int .i64 (k : Int)), (3, .pointer (some ⟨bl, 0, none⟩)), (2, .pointer (some ⟨bi, 0, none⟩))],
      [(r, .deferred (some [])), (bl, .cells (nca (sumF P c)) 33 (0, 0)), (bi, .cells (uca (idF (sumF P c) k)) 27 (0, 0))]))
      (fun k => k ≤ 32) (fun k => 32 - k) 0 (Nat.zero_le _) ⟨rfl, rfl, rfl, trivial⟩ ?_ ?_
    · dsimp only
      rw [idF_zero]
      (apply List.Sublist.cons; apply List.Sublist.cons_cons; apply List.Sublist.cons; apply List.Sublist.cons; apply List.Sublist.cons; exact List.Sublist.refl _)
    intro k hk
    dsimp only at hk ⊢
    have hli := idF_len (sumF P c) k
    rcases Nat.lt_or_ge k 32 with hk6 | hk6
    · (refine CW.seq ?_; refine CW.region ?_; apply LW.v0; rfl; rfl; apply ValP.lssT; rfl; rfl; omega; apply LW.nil; refine thenN ?_; refine CW.seq ?_; apply CW.condT; rfl; (with_reducible rfl); refine CW.skip ?_; refine thenN ?_; refine CW.seq ?_; refine CW.block ?_; refine CW.seq ?_; refine CW.region ?_; apply LW.v0; rfl; rfl; apply ValP.move; rfl; apply LW.v0; rfl; rfl; apply ValP.assign; rfl; apply LW.nil; refine thenN ?_; refine CW.region ?_; apply LW.v0; rfl; rfl; apply ValP.move; rfl; apply LW.v0; rfl; rfl; apply ValP.move; rfl; apply LW.v0; rfl; rfl; apply ValP.quoZL; rfl; rfl; decide; omega; omega; apply LW.v0; rfl; rfl; apply ValP.indexAddrA; rfl; rfl; rfl; omega; apply LW.load; rfl; rfl; apply Known.at; apply FsAt.tail; apply FsAt.head; apply rd_nca; omega; apply LW.v0; rfl; rfl; apply ValP.move; rfl; apply LW.v0; rfl; rfl; apply ValP.remZL; rfl; rfl; decide; omega; apply LW.v0; rfl; rfl; apply ValP.mulZK; rfl; rfl; decide; omega; apply LW.v0; rfl; rfl; apply ValP.shrU; rfl; rfl; omega; apply LW.v0; rfl; rfl; apply ValP.convB; rfl; apply LW.v0; rfl; rfl; apply ValP.indexAddrA; rfl; rfl; rfl; omega; apply LW.store; rfl; rfl; apply SetAt.tail; apply SetAt.tail; apply SetAt.head; apply wr_uca; omega; exact Nat.mod_lt _ (by decide); apply LW.nil; refine blkN ?_; refine thenN ?_; refine CW.region ?_; apply LW.v0; rfl; rfl; apply ValP.addZL; rfl; rfl; decide; omega; apply LW.v0; rfl; rfl; apply ValP.move; rfl; apply LW.nil)
      refine thenX ⟨rfl, k + 1, hk6, by omega, ⟨rfl, rfl, rfl, trivial⟩, ?_⟩
      rw [idF_succ]
      exact List.Sublist.refl _
    · obtain rfl : k = 32 := by omega
      (refine CW.seq ?_; refine CW.region ?_; apply LW.v0; rfl; rfl; apply ValP.lssF; rfl; rfl; omega; apply LW.nil; refine thenN ?_; refine CW.seq ?_; apply CW.condF; rfl; (with_reducible rfl); refine CW.exit ?_; refine thenE ?_; refine thenE ?_; refine blkE rfl ?_; refine thenN ?_; refine CW.seq ?_; refine CW.region ?_; apply LW.load; rfl; rfl; apply Known.at; apply FsAt.tail; apply FsAt.tail; apply FsAt.head; apply rd_ucaW; assumption; apply LW.store; rfl; rfl; apply SetAt.tail; apply SetAt.tail; apply SetAt.head; apply wr_ucaW; assumption; assumption; apply LW.nil; refine thenN ?_; refine CW.ret ?_)
      (apply finRM; exact .inl rfl; apply Shut.cons; apply SetAt.head; exact Shut.nil; rfl; rfl; apply ResL.cons; apply Res.cell; rfl; apply Known.at; apply FsAt.tail; apply FsAt.tail; apply FsAt.head; apply rd_ucaW; assumption; exact ResL.nil)
      rw [sumB, ← hPe, ← hNe]
      rfl
end Go.Proofs.YtficnjnnhcadaaaDoor

/-
  A SMALL LOGIC OVER THE KIT's WALK, PART ME: the bytes of a string, laid anew.
  Conditions: none; over any program.
-/
namespace Go.Proofs.YtficnjnnhcadaaaDoor.SL
set_option linter.unusedVariables false
set_option linter.unusedSimpArgs false
open Go Go.RowKit
section lw
variable {C : Cu} {ops : Array Oper} {Q : Post} {rest : List Oper} {e : Env} {fs : Fs} {d : Nat} {t : TypeId} {pos : String} {af : Array Edge}
theorem bytesRow_get (l : List UInt8) (cap j : Nat) (hj : j < l.length) : (bytesRow ⟨l.toArray⟩ cap)[j]? = some (.int .u8 ((l.getD j 0).toNat : Int)) := by
  unfold bytesRow
  rw [Array.getElem?_append_left (by simpa using hj)]
  simp [List.getD_eq_getElem?_getD, hj]
/-- **[]byte(s)**: a row of ours. -/
theorem LW.toBytes {S T E : TypeId} {x : Operand} {l : List UInt8} (hd : Nat.blt d C.N = true) (hS : UnI C.P S .string) (hT : UnI C.P T (.slice E)) (hE : UnI C.P E (.int .u8)) (hx : e.ev x = some (sv l))
    (k : ∀ g c cs fr, l.length ≤ c → (∀ j, j < l.length → cs[j]? = some (.int .u8 ((l.getD j 0).toNat : Int))) → LW C ops Q rest ((d, .slice (some ⟨g, 0, none⟩) l.length c) :: e) ((g, .cells cs E fr) :: fs)) :
    LW C ops Q (⟨some d, .convert S T x, t, pos, af, none⟩ :: rest) e fs := fun a w hs => by
  have hr := run_bytes_of_string (P := C.P) w S T E ⟨l.toArray⟩ hS.un hT.un hE.un
  have hsz : (⟨l.toArray⟩ : ByteArray).size = l.length := by simp [ByteArray.size]
  rw [hsz] at hr
  have hrun : (execOp a.eval ⟨some d, .convert S T x, t, pos, af, none⟩).run C.P w = .ok (.value (.slice (some ⟨w.heap.size, 0, none⟩) l.length (grownCap w l.length 0 E))) (w.drew.alloc (.cells (bytesRow ⟨l.toArray⟩ (grownCap w l.length 0 E)) E ((bytesRow ⟨l.toArray⟩ (grownCap w l.length 0 E)).size, (bytesRow ⟨l.toArray⟩ (grownCap w l.length 0 E)).size + 1))) := by
    have hx' := hs.env.ev hx
    unfold sv at hx'
    simp only [execOp, hx']
    exact (show ((do pure (.value (← convert S T (.string ⟨l.toArray⟩))) : Sem Next)).run C.P w = _ by simp only [Sem.run_bind, hr]; rfl)
  have hge := grownCap_ge w l.length 0 E
  have hst := St.lay (pre := []) (post := fs) (w := w) (w' := w.drew.alloc (.cells (bytesRow ⟨l.toArray⟩ (grownCap w l.length 0 E)) E ((bytesRow ⟨l.toArray⟩ (grownCap w l.length 0 E)).size, (bytesRow ⟨l.toArray⟩ (grownCap w l.length 0 E)).size + 1))) hs.st ((hs.st.bel.drew).alloc (by have := hs.st.bel.size; simpa [World.drew] using this) _) (World.alloc_heap_new w.drew _) (Nat.le_refl _) (fun k hk => Below.heap_alloc w.drew _ k hk)
  refine wpListIn_take (wanted_none _ rfl _) ⟨fun _ _ => trivial, ?_⟩
  rw [semAt_FR (fun c h => by cases h), hrun]
  exact k w.heap.size (grownCap w l.length 0 E) (bytesRow ⟨l.toArray⟩ (grownCap w l.length 0 E)) _ (by omega) (fun j hj => bytesRow_get l _ j hj) _ _ ⟨hs.env.put hd, hst⟩
end lw
end Go.Proofs.YtficnjnnhcadaaaDoor.SL
