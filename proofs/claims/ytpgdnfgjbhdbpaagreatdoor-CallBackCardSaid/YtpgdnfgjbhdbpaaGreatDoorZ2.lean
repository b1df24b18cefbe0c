/-
  Texts that were built apart, put behind one another (2 of 6): Sln Slo Slp Slq Slr Sls Slt Slu Slv Slw Slx Sly Slz Snz Sma Smb Smc Smd Sme Smf Smg Smh Smi Smj Smk Sml Smm Smn Smo Smp Smq Smr Sms Smt Smu Smv Smw Inst N1 N2 W1 W2 W3 W4 W5 W6 W7 W8 W9 W10 W11 W12 W13.
  Conditions: none.
-/
import Derived.Test.YtpgdnfgjbhdbpaaGreatDoorZ1
import Derived.Laws.MakeOwn
import Derived.Laws.Slices
import Derived.Laws.Small
import Derived.Deep.Upon
import Derived.Laws.Cover3
import Derived.Laws.BytesArg
import Derived.Laws.RangeAny
import Derived.Laws.Concat
import Derived.Laws.Strings2
import Derived.MapKept
import Derived.Laws.CopyRow
import Derived.Laws.IdiomCopy
import Derived.Laws.IdiomStrings
import Derived.Laws.StructEq
import Derived.Sort.QuietThIn
import Derived.Lib.AppendStr
import Derived.Lib.MakeNoZero
import Derived.SizedLaws
import Derived.RecoverIn
import Derived.WideLaws
import Derived.Laws.Build
import Derived.Test.YtpgdnfgjbhdbpaaGreatDoorRows
import Derived.Shelf.Spec.BitsCarry
/-
  A SMALL LOGIC OVER THE KIT's WALK, PART N: rows cut, made, put behind one another; calls that hand back rows.
  Conditions: none; over any program.
-/
namespace Go.Proofs.YtpgdnfgjbhdbpaaGreatDoor.SL
set_option linter.unusedVariables false
set_option linter.unusedSimpArgs false
open Go Go.RowKit

/-- x[k:] of a slice. -/
def cutAt (p : Option Addr) (k n c sz : Nat) : Value := .slice (if c = k then p else p.map (·.add (k * sz))) (n - k) (c - k)

theorem RowAt.take {w : World} {sz n c k : Nat} {p : Option Addr} {xs : List Value} (h : RowAt w sz (.slice p n c) n xs) (hk : k ≤ n) : RowAt w sz (.slice p k c) k (xs.take (k * sz)) := by
  obtain ⟨p', c', he, h1, h2⟩ := h.form
  cases he
  refine ⟨⟨_, _, rfl, by omega, h2⟩, ?_, fun h0 => ?_, fun _ _ _ he => by cases he; exact h.lies _ _ _ rfl⟩
  · rw [List.length_take, h.len]; exact Nat.min_eq_left (Nat.mul_le_mul_right _ hk)
  · obtain ⟨b, off, c', cs, E, fr, he, hb, hx⟩ := h.pos (by omega)
    cases he
    refine ⟨b, off, c, cs, E, fr, rfl, hb, ?_⟩
    rw [← hx, List.take_take, Nat.min_eq_left (Nat.mul_le_mul_right _ hk)]
theorem RowAt.drop {w : World} {sz n c k : Nat} {p : Option Addr} {xs : List Value} (h : RowAt w sz (.slice p n c) n xs) (hk : k ≤ n) : RowAt w sz (cutAt p k n c sz) (n - k) (xs.drop (k * sz)) := by
  obtain ⟨p', c', he, h1, h2⟩ := h.form
  cases he
  refine ⟨⟨_, _, rfl, by omega, by omega⟩, ?_, fun h0 => ?_, fun p' n' c' he => by
    unfold cutAt at he
    simp only [Value.slice.injEq] at he
    obtain ⟨e1, _, e3⟩ := he
    by_cases hck : c = k
    · exact .inr (.inl (by omega))
    · rw [if_neg hck] at e1
      rcases h.lies _ _ _ rfl with h | h | ⟨b, off, o, h, hb⟩
      · subst h; exact .inl (by simpa using e1.symm)
      · exact .inr (.inl (by omega))
      · subst h; exact .inr (.inr ⟨b, off + k * sz, o, by simpa [addr_add] using e1.symm, hb⟩)⟩
  · rw [List.length_drop, h.len, Nat.sub_mul]
  · obtain ⟨b, off, c', cs, E, fr, he, hb, hx⟩ := h.pos (by omega)
    cases he
    refine ⟨b, off + k * sz, c - k, cs, E, fr, ?_, hb, ?_⟩
    · unfold cutAt; rw [if_neg (by omega)]; simp [addr_add]
    · rw [← hx, List.drop_take, List.drop_drop, Nat.sub_mul]
theorem IsRow.take {E : TypeId} {sz n c k : Nat} {p : Option Addr} {xs : List Value} {seg : Fs} (h : IsRow E sz (.slice p n c) n xs seg) (hk : k ≤ n) : IsRow E sz (.slice p k c) k (xs.take (k * sz)) seg := by
  cases h with
  | nil => obtain rfl : k = 0 := by omega
           simpa using IsRow.nil
  | own hn hm hc ht hl =>
    refine .own (by omega) hm hc ?_ ?_
    · rw [← ht, List.take_take, Nat.min_eq_left (Nat.mul_le_mul_right _ hk)]
    · rw [List.length_take, hl]; exact Nat.min_eq_left (Nat.mul_le_mul_right _ hk)

section cut
variable {P : Program} {e : Env} {T E : TypeId} {x lo hi : Operand} {p : Option Addr} {n c : Nat}
theorem elem_un (h : P.underlying T = some (.slice E)) : P.underlying T = some (.slice (P.elem T)) := by
  rw [h, Program.elem, h]
theorem elem_eq (h : P.underlying T = some (.slice E)) : P.elem T = E := by rw [Program.elem, h]
/-- x[:k] -/
theorem ValP.cutTo {ik : IntKind} {k sz : Nat} {z : Value} (hU : UnI P T (.slice E)) (hI : InfoI P E sz z) (hx : e.ev x = some (.slice p n c)) (hh : e.ev hi = some (.int ik (k : Int))) (hk : k ≤ c) : ValP P e [] (.slice T x none (some hi) none) (.slice p k c) := fun ρ w hρ _ d t pos af g => by
  have hu : P.underlying T = some (.slice E) := hU.un
  have h1 := run_slice_h (P := P) w T p n c (elem_un hu) ik (k : Int) (by omega) (by omega)
  rw [elem_eq hu, run_size] at h1
  have h2 : (Instr.sliceAt T (.slice p n c) none (some (.int ik (k : Int))) none).run P w = .ok (.slice p k c) w := by
    rw [run_sliceAt_slice (w := w) T _ _ _ _ (elem_un hu), h1]
    simp only [Result.andThen_ok, sliced, Nat.zero_mul, Int.toNat_natCast, Nat.sub_zero]
    cases p with
    | none => simp
    | some a => simp [Addr.add]
  simp [execOp, hρ x _ hx, hρ hi _ hh, h2]
/-- x[k:] -/
theorem ValP.cutFrom {il : IntKind} {k sz : Nat} {z : Value} (hU : UnI P T (.slice E)) (hI : InfoI P E sz z) (hx : e.ev x = some (.slice p n c)) (hl : e.ev lo = some (.int il (k : Int))) (hk : k ≤ n) : ValP P e [] (.slice T x (some lo) none none) (cutAt p k n c sz) := fun ρ w hρ _ d t pos af g => by
  have hu : P.underlying T = some (.slice E) := hU.un
  have h1 := run_slice_l (P := P) w T p n c (elem_un hu) il (k : Int) (by omega) (by omega)
  rw [elem_eq hu, run_size] at h1
  have h2 : (Instr.sliceAt T (.slice p n c) (some (.int il (k : Int))) none none).run P w = .ok (cutAt p k n c sz) w := by
    rw [run_sliceAt_slice (w := w) T _ _ _ _ (elem_un hu), h1]
    simp only [Result.andThen_ok, sliced, Int.toNat_natCast, cutAt]
  simp [execOp, hρ x _ hx, hρ lo _ hl, h2]
end cut

section mk
variable {C : Cu} {ops : Array Oper} {Q : Post} {rest : List Oper} {e : Env} {fs : Fs} {d : Nat} {t : TypeId} {pos : String} {af : Array Edge}
theorem NewP.makeSlice {P : Program} {T E sz bytes : Nat} {z : Value} {x : Operand} {ik : IntKind} {n : Nat} (hU : UnI P T (.slice E)) (hI : InfoI P E sz z) (hB : BytI P E bytes) (hx : e.ev x = some (.int ik (n : Int))) (hb : n * bytes ≤ 281474976710656) (h63 : n ≤ 9223372036854775807) :
    NewP P e (.makeSlice T x x) (.sl n n) (.cells (madeCells z.cells (n * sz)) E (0, 0)) := fun ρ w hρ d t pos af g => by
  obtain ⟨i, i1, i2, i3, i4⟩ := info_all (P := P) (T := E)
  have hr := run_make (P := P) w T E i z hU.un i1 i3 ik ik (n : Int) (n : Int) (by omega) (by omega) (by rw [i4]; have : ((n * bytes : Nat) : Int) ≤ 281474976710656 := by omega
                                                                                                         rwa [Int.natCast_mul, Int.mul_comm] at this) (by omega)
  simp only [Int.toNat_natCast, i2] at hr
  simp [execOp, hρ x _ hx, hr, Sh.val]
theorem made_one {z : Value} {n : Nat} (hz : z.cells = #[z]) : (madeCells z.cells (n * 1)).toList = List.replicate n z := by
  rw [hz, Nat.mul_one]
  apply List.ext_getElem?
  intro i
  simp only [madeCells]
  rw [Array.getElem?_toList, Array.getElem?_map, List.getElem?_replicate]
  split
  · rename_i h
    rw [Array.getElem?_eq_getElem (by simpa using h)]
    simp [Nat.mod_one]
  · rename_i h
    rw [Array.getElem?_eq_none (by simpa using h)]
    rfl
/-- **make** of n elements of one cell each. -/
theorem LW.makeRow {T E bytes : Nat} {z : Value} {x : Operand} {ik : IntKind} {n : Nat} (hd : Nat.blt d C.N = true) (hU : UnI C.P T (.slice E)) (hI : InfoI C.P E 1 z) (hB : BytI C.P E bytes) (hz : z.cells = #[z]) (hx : e.ev x = some (.int ik (n : Int))) (hb : n * bytes ≤ 281474976710656) (h63 : n ≤ maxLen)
    (k : ∀ v seg, IsRow E 1 v n (List.replicate n z) seg → LW C ops Q rest ((d, v) :: e) (seg ++ fs)) : LW C ops Q (⟨some d, .makeSlice T x x, t, pos, af, none⟩ :: rest) e fs :=
  LW.n0 hd rfl (.makeSlice hU hI hB hx hb (by simpa [maxLen] using h63)) fun g => k _ [(g, _)] (.own (Nat.le_refl _) h63 (by simp [madeCells]) (by rw [made_one hz]; simp) (by simp))

/-- **append(s, x...)**: s a row of ours, x a row that may be read. -/
theorem LW.appendAt {s x : Operand} {tys : Array TypeId} {T E : TypeId} {size bytes : Nat} {z v vx : Value} {n m : Nat} {xs news : List Value} {seg pre post : Fs} (hd : Nat.blt d C.N = true) (hT : tys = #[T, T]) (hU : UnI C.P T (.slice E)) (hI : InfoI C.P E size z) (hB : BytI C.P E bytes)
    (hz : z.cells.size = size) (hs : e.ev s = some v) (hx : e.ev x = some vx) (hseg : AtSeg fs pre seg post) (hrow : IsRow E size v n xs seg) (hat : ∀ w, St C.w0 C.S fs w → RowAt w size vx m news)
    (h1 : ∀ u ∈ news, u.oneCell' = true) (hm : 0 < m) (h63 : n + m ≤ maxLen) (hb : (n + m) * bytes ≤ 140737488355328)
    (k : ∀ v' seg', IsRow E size v' (n + m) (xs ++ news) seg' → ∃ fs', AtSeg fs' pre seg' post ∧ LW C ops Q rest ((d, v') :: e) fs') :
    LW C ops Q (⟨some d, .call { callee := .builtin .append, args := #[s, x], argTypes := tys }, t, pos, af, none⟩ :: rest) e fs := fun a w hsat => by
  subst hT
  obtain ⟨i, i1, i2, i3, i4⟩ := info_all (P := C.P) (T := E)
  have hA := hat w hsat.st
  obtain ⟨b, off, c, cs, E', fr, rfl, hblk, hnx⟩ := hA.pos hm
  have hst := hsat.st
  rw [hseg.eq] at hst
  obtain ⟨v', seg', w', hr, hrow', hw'⟩ := row_append (P := C.P) (ty := t) hU.un i1 i3 i2 hz hrow hst ⟨b, off, none⟩ m c news hA.len (fun j u hj => by
    rw [addr_add, cell_of hblk]; exact cut_get hnx hj) h1 hm h63 (by rw [i4]; exact hb)
  obtain ⟨fs', hat', hK⟩ := k v' seg' hrow'
  have hrun : (execOp a.eval ⟨some d, .call { callee := .builtin .append, args := #[s, x], argTypes := #[T, T] }, t, pos, af, none⟩).run C.P w = .ok (.value v') w' := by
    simp [execOp, resolve, invoke, builtin, hsat.env.ev hs, hsat.env.ev hx, hr]
  refine wpListIn_take (wanted_none _ rfl _) ⟨fun _ _ => trivial, ?_⟩
  rw [semAt_FR (fun c h => by cases h), hrun]
  exact hK _ _ ⟨hsat.env.put hd, by rw [hat'.eq]; exact hw'⟩
theorem LW.lay1 {T E sz : TypeId} {z v : Value} {x : Operand} (hd : Nat.blt d C.N = true) (hU : UnI C.P T (.slice E)) (hI : InfoI C.P E sz z) (hz : z.cells.size = sz) (hs : Nat.blt 0 sz = true) (hs' : Nat.ble sz 1000000 = true) (hx : e.ev x = some v) (hv : v.cells = #[v]) (h1 : sz = 1)
    (k : ∀ b, LW C ops Q rest ((d, .slice (some ⟨b, 0, none⟩) 1 1) :: e) ((b, .cells #[v] E (0, 0)) :: fs)) : LW C ops Q (⟨some d, .buildSlice T 1 #[(0, x)], t, pos, af, none⟩ :: rest) e fs := by
  refine LW.n0 hd rfl (NewP.buildS1 hz hs hs' hx (by rw [hv, h1]; rfl)) fun b => ?_
  rw [hv]; exact k b
theorem LW.layA {T E sz : TypeId} {z : Value} {c : Array Value} {x : Operand} (hd : Nat.blt d C.N = true) (hU : UnI C.P T (.slice E)) (hI : InfoI C.P E sz z) (hz : z.cells.size = sz) (hs : Nat.blt 0 sz = true) (hs' : Nat.ble sz 1000000 = true) (hx : e.ev x = some (.agg c)) (hc : c.size = sz)
    (k : ∀ b, LW C ops Q rest ((d, .slice (some ⟨b, 0, none⟩) 1 1) :: e) ((b, .cells c E (0, 0)) :: fs)) : LW C ops Q (⟨some d, .buildSlice T 1 #[(0, x)], t, pos, af, none⟩ :: rest) e fs :=
  LW.n0 hd rfl (NewP.buildS1 hz hs hs' hx hc) k
/-- A call that hands back facts of new blocks. -/
theorem LW.callR {fo : Operand} {args : Array Operand} {tys : Array TypeId} {f : FuncId} {vs : List Value} {Φ : Value → Fs → Prop} (hd : Nat.blt d C.N = true) (hf : e.ev fo = some (.func (.func f) #[] #[])) (hF : FnI C.P f) (ha : ArgsOk e args.toList vs)
    (hc : ∀ w, St C.w0 C.S fs w → Calls C.P f vs.toArray w (RetG w [] Φ)) (kk : ∀ v gs, Φ v gs → LW C ops Q rest ((d, v) :: e) (gs ++ fs)) : LW C ops Q (⟨some d, .call { callee := .value fo, args := args, argTypes := tys }, t, pos, af, none⟩ :: rest) e fs :=
  LW.callN hd hf hF ha (fun w hs => by rw [arr_id]; exact hc w hs) kk
end mk
section dwl
variable {C : Cu} {ops : Array Oper} {Q : Post} {tl rest : List Oper} {e : Env} {ts : Ts} {μ : Mu} {k d : Nat} {op : Op} {t : TypeId} {pos : String} {af : Array Edge} {g : Option (Nat × Bool)}
theorem DW.lay1 {T E sz : TypeId} {z v : Value} {x : Operand} (hk : ops[k]? = some ⟨some d, .buildSlice T 1 #[(0, x)], t, pos, af, g⟩) (hm : μ k = none) (hd : Nat.blt d C.N = true) (hg : WantT ops e g) (hU : UnI C.P T (.slice E)) (hI : InfoI C.P E sz z) (hz : z.cells.size = sz) (hs : Nat.blt 0 sz = true) (hs' : Nat.ble sz 1000000 = true) (hx : e.ev x = some v) (hv : v.cells = #[v]) (h1 : sz = 1)
    (kk : ∀ b, DW C ops μ Q tl rest (k + 1) ((d, .slice (some ⟨b, 0, none⟩) 1 1) :: e) ((b, .cells #[v] E (0, 0), [k], []) :: ts)) : DW C ops μ Q tl (⟨some d, .buildSlice T 1 #[(0, x)], t, pos, af, g⟩ :: rest) k e ts := by
  refine DW.new hk hm hd hg rfl (NewP.buildS1 hz hs hs' hx (by rw [hv, h1]; rfl)) fun b => ?_
  rw [hv]; exact kk b
theorem DW.layA {T E sz : TypeId} {z : Value} {c : Array Value} {x : Operand} (hk : ops[k]? = some ⟨some d, .buildSlice T 1 #[(0, x)], t, pos, af, g⟩) (hm : μ k = none) (hd : Nat.blt d C.N = true) (hg : WantT ops e g) (hU : UnI C.P T (.slice E)) (hI : InfoI C.P E sz z) (hz : z.cells.size = sz) (hs : Nat.blt 0 sz = true) (hs' : Nat.ble sz 1000000 = true) (hx : e.ev x = some (.agg c)) (hc : c.size = sz)
    (kk : ∀ b, DW C ops μ Q tl rest (k + 1) ((d, .slice (some ⟨b, 0, none⟩) 1 1) :: e) ((b, .cells c E (0, 0), [k], []) :: ts)) : DW C ops μ Q tl (⟨some d, .buildSlice T 1 #[(0, x)], t, pos, af, g⟩ :: rest) k e ts :=
  DW.new hk hm hd hg rfl (NewP.buildS1 hz hs hs' hx hc) kk
end dwl
/-- A row of a block that is known. -/
theorem RowAt.us {w : World} {g n cap sz : Nat} {cur : Array Value} {E : TypeId} {fr : Nat × Nat} {us : Fs} {xs : List Value} (hu : ∀ p ∈ (g, Obj.cells cur E fr) :: us, w.heap[p.1]? = some p.2) (hn : n ≤ cap) (hm : cap ≤ maxLen) (ht : cur.toList.take (n * sz) = xs) (hl : xs.length = n * sz) : RowAt w sz (.slice (some ⟨g, 0, none⟩) n cap) n xs :=
  ⟨⟨_, _, rfl, hn, hm⟩, hl, fun _ => ⟨g, 0, cap, cur, E, fr, rfl, hu _ List.mem_cons_self, by simpa using ht⟩, .own (hu _ List.mem_cons_self)⟩
theorem ValP.indexAddrSL {P : Program} {e : Env} {T : TypeId} {x i : Operand} {b off len cap : Nat} {E : TypeId} {k : Nat} {ik : IntKind} {n : Nat} {z : Value} [UnI P T (.slice E)] [InfoI P E n z] (hx : e.ev x = some (.slice (some ⟨b, off, none⟩) len cap)) (hi : e.ev i = some (.int ik (OfNat.ofNat k))) (_ : k = k) (hk : (OfNat.ofNat k : Nat) < len) :
    ValP P e [] (.indexAddr T x i) (.pointer (some ⟨b, off + (OfNat.ofNat k : Nat) * n, none⟩)) := .indexAddrS hx hi rfl hk
section mm
variable {P : Program} {e : Env} {x y : Operand} {tys : Array TypeId} {m n : Nat} {ik : IntKind}
theorem ValP.minZ (hx : e.ev x = some (.int ik (m : Int))) (hy : e.ev y = some (.int ik (n : Int))) : ValP P e [] (.call { callee := .builtin .min, args := #[x, y], argTypes := tys }) (.int ik ((min m n : Nat) : Int)) := fun ρ w hρ _ d t pos af g => by
  have h : (if (n : Int) < (m : Int) then (n : Int) else (m : Int)) = ((min m n : Nat) : Int) := by split <;> omega
  have h2 := run_min_int2 (P := P) (w := w) tys t ik ik (m : Int) (n : Int)
  rw [h] at h2
  simp [execOp, resolve, invoke, builtin, hρ x _ hx, hρ y _ hy, h2]
end mm
/-- The integers of a row. -/
def ics (l : List Nat) : List Value := l.flatMap fun (b : Nat) => [Value.int .i64 (b : Int)]
end Go.Proofs.YtpgdnfgjbhdbpaaGreatDoor.SL

/-
  A SMALL LOGIC OVER THE KIT's WALK, PART O: truth values compared; parts of a block read.
  Conditions: none; over any program.
-/
namespace Go.Proofs.YtpgdnfgjbhdbpaaGreatDoor.SL
set_option linter.unusedVariables false
set_option linter.unusedSimpArgs false
open Go Go.RowKit
section bo
variable {P : Program} {e : Env} {T ty : TypeId} {x y : Operand} {a b : Bool}
theorem guard_bool {op : BinOp} {v : Value} (w : World) : (eqGuard op T x y (.bool a) v).run P w = .ok () w := by
  unfold eqGuard; cases op <;> cases v <;> simp
theorem eqIn_bool (d : Nat) (w : World) [UnI P T .bool] : (Op.equalIn (d + 1) T (.bool a) (.bool b)).run P w = .ok (a == b) w := by
  rw [Op.equalIn.eq_def]; simp only [Sem.run_bind, run_un (P := P) (T := T), Result.andThen_ok]; rfl
theorem ValP.boolEq [UnI P T .bool] (hx : e.ev x = some (.bool a)) (hy : e.ev y = some (.bool b)) : ValP P e [] (.binOp .eql T x y ty) (.bool (a == b)) :=
  .bin hx hy (fun w => guard_bool w) fun w => by
    have := eqIn_bool (P := P) (T := T) (a := a) (b := b) (Op.maxDepth - 1) w
    simp only [binOp, Op.equal, Sem.run_bind]
    rw [show Op.maxDepth = Op.maxDepth - 1 + 1 from rfl, this]; rfl
end bo
/-- Parts of a block. -/
theorem Rd.mid {P : Program} {T : TypeId} {n : Nat} {z : Value} [AgI P T true] [InfoI P T n z] {c : Array Value} {E : TypeId} {fr : Nat × Nat} {off : Nat} {cs : List Value} (hn : cs.length = n) (h : (c.toList.drop off).take n = cs) : Rd P T (.cells c E fr) off (.agg cs.toArray) :=
  Rd.part hn fun j v hv => cut_get h hv
end Go.Proofs.YtpgdnfgjbhdbpaaGreatDoor.SL

/-
  A SMALL LOGIC OVER THE KIT's WALK, PART P: arguments that are rows, opened.
  Conditions: none; over any program.
-/
namespace Go.Proofs.YtpgdnfgjbhdbpaaGreatDoor.SL
set_option linter.unusedVariables false
set_option linter.unusedSimpArgs false
open Go Go.RowKit Go.ChangeShapes Go.WideShapes
section op
variable {H : Type} {enc : TypeId × Value → H} {P : Program} {w W : World} {held : Bool} {r : Reach} {base : Nat} {T E : TypeId} {v : Value} {d : DataW H} {ps : List MemPlace}
end op
end Go.Proofs.YtpgdnfgjbhdbpaaGreatDoor.SL

/-
  A SMALL LOGIC OVER THE KIT's WALK, PART Q: rows that came in, later; rows of none; elements of our rows written; integers converted.
  Conditions: none; over any program.
-/
namespace Go.Proofs.YtpgdnfgjbhdbpaaGreatDoor.SL
set_option linter.unusedVariables false
set_option linter.unusedSimpArgs false
open Go Go.RowKit
/-- A row that came in reads as it did, later. -/
theorem RowAt.bel {w0 w : World} {sz n : Nat} {v : Value} {xs : List Value} (h : RowAt w0 sz v n xs) (hb : Bel w0.heap.size [] w0 w) : RowAt w sz v n xs :=
  ⟨h.form, h.len, fun h0 => by
    obtain ⟨b, off, c, cs, E, fr, h1, h2, h3⟩ := h.pos h0
    exact ⟨b, off, c, cs, E, fr, h1, by rw [hb.block b (Array.getElem?_eq_some_iff.1 h2).1 (by simp)]; exact h2, h3⟩, fun p n c he => by
    rcases h.lies p n c he with h | h | ⟨b, off, o, h1, h2⟩
    · exact .inl h
    · exact .inr (.inl h)
    · exact .inr (.inr ⟨b, off, o, h1, by rw [hb.block b (Array.getElem?_eq_some_iff.1 h2).1 (by simp)]; exact h2⟩)⟩
theorem RowAt.st {w0 w : World} {sz n : Nat} {v : Value} {xs : List Value} {fs : Fs} (h : RowAt w0 sz v n xs) (hs : St w0 [] fs w) : RowAt w sz v n xs := h.bel hs.bel

theorem IsRow.pos {E : TypeId} {sz n c : Nat} {p : Option Addr} {xs : List Value} {seg : Fs} (h : IsRow E sz (.slice p n c) n xs seg) (h0 : 0 < n) : ∃ g cur, p = some ⟨g, 0, none⟩ ∧ seg = [(g, .cells cur E (0, 0))] ∧ n ≤ c ∧ c ≤ maxLen ∧ cur.size = c * sz ∧ cur.toList.take (n * sz) = xs := by
  cases h with
  | nil => cases h0
  | own hn hm hc ht hl => exact ⟨_, _, rfl, rfl, hn, hm, hc, ht⟩
theorem NewP.build0 {P : Program} {e : Env} {T E : TypeId} {size : Nat} {z : Value} (hU : UnI P T (.slice E)) (hI : InfoI P E size z) : NewP P e (.buildSlice T 0 #[]) (.sl 0 0) (.cells #[] E (0, 0)) := fun ρ w hρ d t pos af g => by
  have hr : (Instr.buildSlice T 0 ((#[] : Array (Nat × Operand)).map fun p => (p.1, ρ p.2))).run P w = .ok ((Sh.sl 0 0).val w.heap.size) (w.alloc (.cells #[] E (0, 0))) := by
    unfold Instr.buildSlice
    simp only [Sem.run_bind, run_un, run_size, Result.andThen_ok]
    simp [newRow, Sh.val, Instr.fill, Array.range_zero']
  simp only [execOp]
  exact (show ((do pure (.value (← Instr.buildSlice T 0 ((#[] : Array (Nat × Operand)).map fun p => (p.1, ρ p.2)))) : Sem Next)).run P w = _ by simp only [Sem.run_bind, hr]; rfl)
section mm
variable {P : Program} {e : Env} {x y : Operand} {tys : Array TypeId} {m n : Nat} {ik : IntKind}
theorem ValP.minZL (hx : e.ev x = some (.int ik (m : Int))) (hy : e.ev y = some (.int ik (OfNat.ofNat n))) (_ : n = n) : ValP P e [] (.call { callee := .builtin .min, args := #[x, y], argTypes := tys }) (.int ik ((min m (OfNat.ofNat n) : Nat) : Int)) := .minZ hx hy
end mm
section lw
variable {C : Cu} {ops : Array Oper} {Q : Post} {rest : List Oper} {e : Env} {fs : Fs} {d : Nat} {t : TypeId} {pos : String} {af : Array Edge}
/-- A slice of no elements, but not nil. -/
theorem LW.lay0 {T E sz : TypeId} {z : Value} (hd : Nat.blt d C.N = true) (hU : UnI C.P T (.slice E)) (hI : InfoI C.P E sz z) (k : ∀ v seg, IsRow E sz v 0 [] seg → LW C ops Q rest ((d, v) :: e) (seg ++ fs)) :
    LW C ops Q (⟨some d, .buildSlice T 0 #[], t, pos, af, none⟩ :: rest) e fs :=
  LW.n0 hd rfl (NewP.build0 hU hI) fun g => k _ [(g, _)] (.own (cur := #[]) (Nat.le_refl 0) (Nat.zero_le _) (by simp) (by simp) (by simp))
/-- **append(s, x...)** of nothing. -/
theorem ValP.append0 {P : Program} {s x : Operand} {tys : Array TypeId} {T E sz : TypeId} {z : Value} {p q : Option Addr} {n c c' : Nat} (hT : tys = #[T, T]) (hU : UnI P T (.slice E)) (hI : InfoI P E sz z) (hs : e.ev s = some (.slice p n c)) (hx : e.ev x = some (.slice q 0 c')) (hle : n ≤ c) :
    ValP P e [] (.call { callee := .builtin .append, args := #[s, x], argTypes := tys }) (.slice p n c) := fun ρ w hρ _ d t pos af g => by
  subst hT
  obtain ⟨i, h1, h2, _⟩ := info_of (P := P) (T := E)
  have hsrc : Src P i.size T (.slice q 0 c') 0 [] w := by
    cases q with
    | none => exact Src.ofNil w hU.un c'
    | some a => exact Src.ofSlice w hU.un a 0 c' [] (by simp) (fun j u h => by simp at h) (fun u h => by cases h)
  have hr := run_append_nothing (P := P) w T T t E i hU.un h1 p n c hle _ hsrc
  simp [execOp, resolve, invoke, builtin, hρ s _ hs, hρ x _ hx, hr]
/-- **append(s, x...)**: s a row of ours, x a row that may be read, of none too. -/
theorem LW.appendAny {s x : Operand} {tys : Array TypeId} {T E : TypeId} {size bytes : Nat} {z v vx : Value} {n m : Nat} {xs news : List Value} {seg pre post : Fs} (hd : Nat.blt d C.N = true) (hT : tys = #[T, T]) (hU : UnI C.P T (.slice E)) (hI : InfoI C.P E size z) (hB : BytI C.P E bytes)
    (hz : z.cells.size = size) (hs : e.ev s = some v) (hx : e.ev x = some vx) (hseg : AtSeg fs pre seg post) (hrow : IsRow E size v n xs seg) (hat : ∀ w, St C.w0 C.S fs w → RowAt w size vx m news)
    (h1 : ∀ u ∈ news, u.oneCell' = true) (h63 : n + m ≤ maxLen) (hb : (n + m) * bytes ≤ 140737488355328)
    (k : ∀ v' seg', IsRow E size v' (n + m) (xs ++ news) seg' → ∃ fs', AtSeg fs' pre seg' post ∧ LW C ops Q rest ((d, v') :: e) fs') :
    LW C ops Q (⟨some d, .call { callee := .builtin .append, args := #[s, x], argTypes := tys }, t, pos, af, none⟩ :: rest) e fs := by
  rcases Nat.eq_zero_or_pos m with hm | hm
  · subst hm
    intro a w hsat
    have hA := hat w hsat.st
    have hn : news = [] := List.length_eq_zero_iff.1 (by rw [hA.len, Nat.zero_mul])
    subst hn
    obtain ⟨q, c', rfl, _, _⟩ := hA.form
    have hp : ∃ p c, v = .slice p n c ∧ n ≤ c := by
      cases hrow with
      | nil => exact ⟨_, _, rfl, Nat.le_refl _⟩
      | own hn _ _ _ _ => exact ⟨_, _, rfl, hn⟩
    obtain ⟨p, c, rfl, hle⟩ := hp
    obtain ⟨fs', hat', hK⟩ := k _ seg (by simpa using hrow)
    have : fs' = fs := by rw [hat'.eq, hseg.eq]
    subst this
    exact LW.v0 hd rfl (ValP.append0 hT hU hI hs hx hle) hK a w hsat
  · exact LW.appendAt hd hT hU hI hB hz hs hx hseg hrow hat h1 hm h63 hb k
end lw
/-- An element of a row of ours, written. -/
theorem wr_take {sz : Nat} {cur : Array Value} {m i : Nat} {vs : List Value} {xs : List Value} (ht : cur.toList.take (m * sz) = xs) (hvs : vs.length = sz) (hi : i < m) (hlen : m * sz ≤ cur.size) :
    (wrCells cur (i * sz) vs).toList.take (m * sz) = xs.take (i * sz) ++ vs ++ xs.drop ((i + 1) * sz) ∧ (wrCells cur (i * sz) vs).size = cur.size := by
  have hk : ∀ (vs : List Value) (c : Array Value) (off : Nat), off + vs.length ≤ c.size → (wrCells c off vs).toList = c.toList.take off ++ vs ++ c.toList.drop (off + vs.length) := by
    intro vs
    induction vs with
    | nil => intro c off h; simp [wrCells]
    | cons v r ih =>
      intro c off h
      simp only [List.length_cons] at h
      rw [wrCells, ih _ _ (by simp; omega)]
      simp only [Array.toList_setIfInBounds, List.length_cons]
      have hlt : off < c.toList.length := by simp; omega
      have hl : (c.toList.take off).length = off := by simp; omega
      rw [List.take_set, List.take_succ_eq_append_getElem hlt, List.set_append_right _ _ (by rw [hl]; exact Nat.le_refl _), hl, Nat.sub_self, List.drop_set_of_lt (by omega)]
      simp [Nat.add_assoc, Nat.add_comm 1]
  have h1 : (i + 1) * sz ≤ m * sz := Nat.mul_le_mul_right _ hi
  have h2 : (i + 1) * sz = i * sz + sz := Nat.succ_mul i sz
  have h3 := hk vs cur (i * sz) (by rw [hvs, ← h2]; omega)
  constructor
  · rw [h3, hvs, ← h2, ← ht]
    have hl1 : (cur.toList.take (i * sz)).length = i * sz := by simp; omega
    rw [List.append_assoc, List.take_append, hl1, List.take_of_length_le (by rw [hl1]; omega), List.take_append, hvs, List.take_of_length_le (l := vs) (by omega), List.take_take, Nat.min_eq_left (by omega), List.append_assoc]
    congr 2
    rw [List.drop_take]
    congr 1
    omega
  · rw [← Array.length_toList, h3]
    simp [hvs]
    omega
end Go.Proofs.YtpgdnfgjbhdbpaaGreatDoor.SL

/-
  A SMALL LOGIC OVER THE KIT's WALK, PART R: arrays cut, and slices seen as arrays.
  Conditions: none; over any program.
-/
namespace Go.Proofs.YtpgdnfgjbhdbpaaGreatDoor.SL
set_option linter.unusedVariables false
set_option linter.unusedSimpArgs false
open Go Go.RowKit
section ar
variable {P : Program} {e : Env} {x hi : Operand} {T E A : TypeId} {n sz k : Nat} {z : Value} {ik : IntKind} {b off : Nat}
end ar
end Go.Proofs.YtpgdnfgjbhdbpaaGreatDoor.SL

/-
  A SMALL LOGIC OVER THE KIT's WALK, PART S: operations passed over because what they wait for was passed over.
  Conditions: none; over any program.
-/
namespace Go.Proofs.YtpgdnfgjbhdbpaaGreatDoor.SL
set_option linter.unusedVariables false
set_option linter.unusedSimpArgs false
open Go Go.RowKit
theorem LW.guardU {C : Cu} {ops : Array Oper} {Q : Post} {rest : List Oper} {e : Env} {fs : Fs} {d : Nat} {op : Op} {t : TypeId} {pos : String} {af : Array Edge} {j s : Nat} {g : Bool} (hs : (ops[j]?).bind (·.dst) = some s) (he : e.get s = some undef) (hd : Nat.blt d C.N = true) (h : LW C ops Q rest ((d, undef) :: e) fs) :
    LW C ops Q (⟨some d, op, t, pos, af, some (j, g)⟩ :: rest) e fs := by
  intro a w hst
  have h1 := h _ w ⟨hst.env.put (v := undef) hd, hst.st⟩
  have hy : yielded ops a.tmps j = none := by simp [yielded, hs, hst.env.get s _ he, undef]
  unfold wpListIn
  rw [if_neg (by simp [Region.wanted, hy])]
  exact ⟨fun _ _ => trivial, h1⟩
end Go.Proofs.YtpgdnfgjbhdbpaaGreatDoor.SL

/-
  A SMALL LOGIC OVER THE KIT's WALK, PART T: rows of bytes, and strings out of them.
  Conditions: none; over any program.
-/
namespace Go.Proofs.YtpgdnfgjbhdbpaaGreatDoor.SL
set_option linter.unusedVariables false
set_option linter.unusedSimpArgs false
open Go Go.RowKit
/-- The cells of bytes. -/
def ucs (l : List UInt8) : List Value := l.flatMap fun u => [Value.int .u8 (u.toNat : Int)]
theorem ucs_map (l : List UInt8) : ucs l = l.map fun u => Value.int .u8 (u.toNat : Int) := by
  induction l with
  | nil => rfl
  | cons a l ih => simp [ucs] at *; exact ih
theorem ucs_len (l : List UInt8) : (ucs l).length = l.length := by rw [ucs_map, List.length_map]
theorem ucs_one (l : List UInt8) : ∀ u ∈ l, ([Value.int .u8 (u.toNat : Int)] : List Value).length = 1 := fun _ _ => rfl
theorem ucs_app (l r : List UInt8) : ucs (l ++ r) = ucs l ++ ucs r := by simp [ucs]
theorem ucs_take (l : List UInt8) (k : Nat) : (ucs l).take (k * 1) = ucs (l.take k) := by rw [ucs_map, ucs_map, Nat.mul_one, List.map_take]
theorem ucs_drop (l : List UInt8) (k : Nat) : (ucs l).drop (k * 1) = ucs (l.drop k) := by rw [ucs_map, ucs_map, Nat.mul_one, List.map_drop]
theorem ucs_cells (l : List UInt8) : ∀ u ∈ ucs l, u.oneCell' = true := fun u hu => by
  rw [ucs_map] at hu
  obtain ⟨a, _, rfl⟩ := List.mem_map.1 hu
  rfl
theorem ucs_zero (n : Nat) : ucs (List.replicate n 0) = List.replicate n (Value.int .u8 0) := by rw [ucs_map, List.map_replicate]; rfl
theorem is_u8 {w : World} {cs : List Value} (h : (Ty.int .u8).is w cs) : ∃ u : UInt8, True ∧ cs = [Value.int .u8 (u.toNat : Int)] := by
  obtain ⟨n, rfl, hn⟩ := h
  simp [Lit.wf, IntKind.min, IntKind.max, IntKind.signed, IntKind.bits] at hn
  refine ⟨UInt8.ofNat n.toNat, trivial, ?_⟩
  rw [UInt8.toNat_ofNat']
  congr 2
  omega
/-- A row of bytes, as a value of its own. -/
theorem is_bytes {w : World} {cs : List Value} (h : (Ty.sl (.int .u8)).is w cs) : ∃ x : Value × List UInt8, RowAt w 1 x.1 x.2.length (ucs x.2) ∧ cs = [x.1] := by
  obtain ⟨v, l, h1, _, h3⟩ := sl_rows (g := fun u : UInt8 => [Value.int .u8 (u.toNat : Int)]) (Q := fun _ => True) (sz := 1) rfl (by decide) (fun _ h => is_u8 h) h
  exact ⟨(v, l), h3, h1⟩
theorem RowAt.string {P : Program} {w : World} {v : Value} {l : List UInt8} {n : Nat} {S T E : TypeId} (h : RowAt w 1 v n (ucs l)) (hS : P.underlying S = some (.slice E)) (hE : P.underlying E = some (.int .u8)) (hT : P.underlying T = some .string) :
    (convert S T v).run P w = .ok (.string ⟨l.toArray⟩) w := by
  have hn : l.length = n := by have := h.len; rw [ucs_len] at this; omega
  rcases Nat.eq_zero_or_pos n with h0 | h0
  · subst h0
    obtain rfl : l = [] := List.length_eq_zero_iff.1 hn
    obtain ⟨p, c, rfl, _, _⟩ := h.form
    rw [run_convert_bytes_string w S T E _ 0 c hS hE hT]
    cases p <;> simp [Conv.bytesToString, loadCells]
    all_goals rfl
  · obtain ⟨b, off, c, cs, E', fr, rfl, hb, hx⟩ := h.pos h0
    have := run_convert_bytes_arg (P := P) w S E hS hE b off n c (l.map fun u => (u.toNat : Int)) (by simpa using hn) (fun i hi => by
      have hlt : i < l.length := by omega
      have hg := cut_get (j := i) (v := .int .u8 (l[i].toNat : Int)) hx (by rw [ucs_map]; simp [hlt])
      rw [cell_of hb, hg]
      simp [List.getD, hlt]) T hT
    rw [this]
    congr 2
    simp only [strOfNums, List.map_map]
    congr 2
    conv => rhs; rw [← List.map_id l]
    apply List.map_congr_left
    intro u _
    simp
section lw
variable {C : Cu} {ops : Array Oper} {Q : Post} {rest : List Oper} {e : Env} {fs : Fs} {d : Nat} {t : TypeId} {pos : String} {af : Array Edge}
end lw
end Go.Proofs.YtpgdnfgjbhdbpaaGreatDoor.SL

/-
  A SMALL LOGIC OVER THE KIT's WALK, PART U: what comes behind a loop, told once.
  Conditions: none; over any program.
-/
namespace Go.Proofs.YtpgdnfgjbhdbpaaGreatDoor.SL
set_option linter.unusedVariables false
set_option linter.unusedSimpArgs false
open Go Go.RowKit
/-- All that is behind is told once, from less that is known. -/
def cutQ (C : Cu) (e1 : Env) (fs1 : Fs) : List Deferred → Env → Fs → Prop := fun ds e fs => ds = C.ds ∧ e.le e1 ∧ List.Sublist fs1 fs
theorem CW.cut {C : Cu} {c y : Code} {Q Q' : Post} {e : Env} {fs : Fs} (e1 : Env) (fs1 : Fs) (k : CW C y Q e1 fs1) (h : CW C c (thenQ (cutQ C e1 fs1) Q') e fs) : CW C c (thenQ (thenC C y Q) Q') e fs :=
  CW.mono (fun x ds e fs hx => by
    cases x with
    | normal => obtain ⟨rfl, h2, h3⟩ := hx; exact CW.weak (C := C) e1 fs1 h2 h3 k
    | _ => exact hx) h
theorem cutI {C : Cu} {Q : Post} {e e1 : Env} {fs fs1 : Fs} {ds : List Deferred} (hd : ds = C.ds) (h1 : e.le e1) (h2 : List.Sublist fs1 fs) : thenQ (cutQ C e1 fs1) Q .normal ds e fs := ⟨hd, h1, h2⟩
/-- The cells of rows of bytes. -/
def vcs (l : List (Value × List UInt8)) : List Value := l.flatMap fun x => [x.1]
theorem vcs_one (l : List (Value × List UInt8)) : ∀ x ∈ l, ([x.1] : List Value).length = 1 := fun _ _ => rfl
end Go.Proofs.YtpgdnfgjbhdbpaaGreatDoor.SL

/-
  A SMALL LOGIC OVER THE KIT's WALK, PART V: calls in drawn regions that read rows.
  Conditions: none; over any program.
-/
namespace Go.Proofs.YtpgdnfgjbhdbpaaGreatDoor.SL
set_option linter.unusedVariables false
set_option linter.unusedSimpArgs false
open Go Go.RowKit
theorem IsRow.us {E : TypeId} {sz n : Nat} {v : Value} {xs : List Value} {seg us : Fs} {w : World} (h : IsRow E sz v n xs seg) (hu : ∀ p ∈ us, w.heap[p.1]? = some p.2) (hs : List.Sublist seg us) : RowAt w sz v n xs := by
  cases h with
  | nil => exact .nil
  | @own g _ cap cur _ hn hm hc ht hl =>
    have hg := hu (g, .cells cur E (0, 0)) (hs.subset (by simp))
    exact ⟨⟨_, _, rfl, hn, hm⟩, hl, fun _ => ⟨g, 0, cap, cur, E, _, rfl, hg, by simpa using ht⟩, .own hg⟩
theorem ReadAll.app {C : Cu} {ops : Array Oper} {k : Nat} {bs : List Nat} {ts ts1 : Ts} {us : Fs} (h : ReadAll C ops k bs ts us ts1) : ∀ {bs' : List Nat} {us' : Fs} {ts2 : Ts}, ReadAll C ops k bs' ts1 us' ts2 → ReadAll C ops k (bs ++ bs') ts (us ++ us') ts2 := by
  induction h with
  | nil => intro _ _ _ h'; exact h'
  | own h _ ih => intro _ _ _ h'; exact .own h (ih h')
  | ext h hS _ ih => intro _ _ _ h'; exact .ext h hS (ih h')
/-- What a call's operands name is looked at: facts of ours, or rows that lay there when the call began. -/
inductive RdV (C : Cu) (ops : Array Oper) (k : Nat) : List Value → Ts → Fs → Ts → Prop
  | nil {ts : Ts} : RdV C ops k [] ts [] ts
  | plain {v : Value} {vs : List Value} {ts ts2 : Ts} {us : Fs} (hb : blocksN 4 v = []) (h : RdV C ops k vs ts us ts2) : RdV C ops k (v :: vs) ts us ts2
  | none {n c : Nat} {vs : List Value} {ts ts2 : Ts} {us : Fs} (h : RdV C ops k vs ts us ts2) : RdV C ops k (.slice .none n c :: vs) ts us ts2
  | ptr {b off : Nat} {o : Obj} {vs : List Value} {ts ts1 ts2 : Ts} {us : Fs} (h : TRead ops k ts b o ts1) (hs : RdV C ops k vs ts1 us ts2) : RdV C ops k (.pointer (some ⟨b, off, .none⟩) :: vs) ts ((b, o) :: us) ts2
  | own {b off n c : Nat} {o : Obj} {vs : List Value} {ts ts1 ts2 : Ts} {us : Fs} (hc : 0 < c) (h : TRead ops k ts b o ts1) (hs : RdV C ops k vs ts1 us ts2) : RdV C ops k (.slice (some ⟨b, off, .none⟩) n c :: vs) ts ((b, o) :: us) ts2
  | ext {v : Value} {n : Nat} {sz : Nat} {xs : List Value} {vs : List Value} {ts ts2 : Ts} {us : Fs} (h : RowAt C.w0 sz v n xs) (hS : C.S = []) (hs : RdV C ops k vs ts us ts2) : RdV C ops k (v :: vs) ts us ts2
theorem RdV.all {C : Cu} {ops : Array Oper} {k : Nat} {vs : List Value} {ts ts' : Ts} {us : Fs} (h : RdV C ops k vs ts us ts') : ∃ us2, ReadAll C ops k (vs.flatMap (blocksN 4)) ts us2 ts' ∧ ∀ p ∈ us, p ∈ us2 := by
  induction h with
  | nil => exact ⟨[], .nil, by simp⟩
  | plain hb _ ih =>
    obtain ⟨us2, h1, h2⟩ := ih
    exact ⟨us2, by rw [List.flatMap_cons, hb]; exact h1, h2⟩
  | none _ ih =>
    obtain ⟨us2, h1, h2⟩ := ih
    exact ⟨us2, h1, h2⟩
  | @ptr b off o vs ts ts1 ts2 us h _ ih =>
    obtain ⟨us2, h1, h2⟩ := ih
    refine ⟨(b, o) :: us2, .own h h1, fun p hp => ?_⟩
    rcases List.mem_cons.1 hp with rfl | hp
    · exact List.mem_cons_self
    · exact List.mem_cons_of_mem _ (h2 p hp)
  | @own b off n c o vs ts ts1 ts2 us hc h _ ih =>
    obtain ⟨us2, h1, h2⟩ := ih
    refine ⟨(b, o) :: us2, ?_, fun p hp => ?_⟩
    · rw [List.flatMap_cons, show blocksN 4 (.slice (some ⟨b, off, .none⟩) n c) = [b] by simp [blocksN, Nat.ne_of_gt hc]]
      exact .own h h1
    · rcases List.mem_cons.1 hp with rfl | hp
      · exact List.mem_cons_self
      · exact List.mem_cons_of_mem _ (h2 p hp)
  | @ext v n sz xs vs ts ts2 us h hS _ ih =>
    obtain ⟨us2, h1, h2⟩ := ih
    obtain ⟨p, c, rfl, _, _⟩ := h.form
    rcases h.lies _ _ _ rfl with rfl | rfl | ⟨b, off, o, rfl, hb⟩
    · exact ⟨us2, h1, h2⟩
    · exact ⟨us2, by rw [List.flatMap_cons, show blocksN 4 (.slice p n 0) = [] by cases p <;> simp [blocksN]]; exact h1, h2⟩
    · rcases Nat.eq_zero_or_pos c with hc | hc
      · subst hc
        exact ⟨us2, by rw [List.flatMap_cons, show blocksN 4 (.slice (some ⟨b, off, .none⟩) n 0) = [] by simp [blocksN]]; exact h1, h2⟩
      · refine ⟨(b, o) :: us2, ?_, fun p hp => List.mem_cons_of_mem _ (h2 p hp)⟩
        rw [List.flatMap_cons, show blocksN 4 (.slice (some ⟨b, off, .none⟩) n c) = [b] by simp [blocksN, Nat.ne_of_gt hc]]
        exact .ext hb (by rw [hS]; simp) h1
section dw
variable {C : Cu} {ops : Array Oper} {Q : Post} {tl rest : List Oper} {e : Env} {ts : Ts} {μ : Mu} {k d : Nat} {op : Op} {t : TypeId} {pos : String} {af : Array Edge} {g : Option (Nat × Bool)}
theorem DW.callV {fo : Operand} {args : Array Operand} {tys : Array TypeId} {f : FuncId} {vs : List Value} {v : Value} {us : Fs} {ts' : Ts} (hk : ops[k]? = some ⟨some d, .call { callee := .value fo, args := args, argTypes := tys }, t, pos, af, g⟩) (hm : μ k = none)
    (hd : Nat.blt d C.N = true) (hg : WantT ops e g) (hf : e.ev fo = some (.func (.func f) #[] #[])) (hF : FnI C.P f) (ha : ArgsOk e args.toList vs) (hr : RdV C ops k vs ts us ts')
    (hc : ∀ w, Bel C.w0.heap.size C.S C.w0 w → (∀ p ∈ us, w.heap[p.1]? = some p.2) → Calls C.P f vs.toArray w (Ret w v)) (kk : DW C ops μ Q tl rest (k + 1) ((d, v) :: e) ts') :
    DW C ops μ Q tl (⟨some d, .call { callee := .value fo, args := args, argTypes := tys }, t, pos, af, g⟩ :: rest) k e ts := by
  obtain ⟨us2, h1, h2⟩ := hr.all
  exact DW.callE hk hm hd hg hf hF ha (show _ = vs.flatMap (blocksN 4) from rfl) h1 (fun w hb hu => hc w hb fun p hp => hu p (h2 p hp)) kk
theorem DW.manyV {fo : Operand} {args : Array Operand} {tys : Array TypeId} {f : FuncId} {vs : List Value} {M : Rel1} {us : Fs} {ts' : Ts} (hk : ops[k]? = some ⟨some d, .call { callee := .value fo, args := args, argTypes := tys }, t, pos, af, g⟩) (hm : μ k = some (cst M, (false : Fl)))
    (hd : Nat.blt d C.N = true) (hg : WantT ops e g) (hf : e.ev fo = some (.func (.func f) #[] #[])) (hF : FnI C.P f) (ha : ArgsOk e args.toList vs) (hr : RdV C ops k vs ts us ts')
    (hc : ∀ w, Bel C.w0.heap.size C.S C.w0 w → (∀ p ∈ us, w.heap[p.1]? = some p.2) → Calls C.P f vs.toArray w (RetG w [] M)) (kk : ∀ v gs, M v gs → DW C ops μ Q tl rest (k + 1) ((d, v) :: e) (tsNew k gs ++ ts')) :
    DW C ops μ Q tl (⟨some d, .call { callee := .value fo, args := args, argTypes := tys }, t, pos, af, g⟩ :: rest) k e ts := by
  obtain ⟨us2, h1, h2⟩ := hr.all
  exact DW.manyE hk hm hd hg hf hF ha (show _ = vs.flatMap (blocksN 4) from rfl) h1 (fun w hb hu => hc w hb fun p hp => hu p (h2 p hp)) kk
end dw
end Go.Proofs.YtpgdnfgjbhdbpaaGreatDoor.SL

/-
  A SMALL LOGIC OVER THE KIT's WALK, PART W: strings measured, cut, joined, gone through.
  Conditions: none; over any program.
-/
namespace Go.Proofs.YtpgdnfgjbhdbpaaGreatDoor.SL
set_option linter.unusedVariables false
set_option linter.unusedSimpArgs false
open Go Go.RowKit
/-! ### A label's scope, where nobody jumps -/
theorem stepR_scope {P : Program} {b : Frame} {a : Act} {k : List Item} {cs : List Frame} {w : World} {c : Code} : step P (lone (b.atR a (.code (.scope c) :: k)) cs w) = .next (lone (b.atR a (.code c :: .inScope c :: k)) cs w) :=
  step_lone_go (by simp [stepG, stepG.exec, Frame.atR])
theorem stepR_inScope {P : Program} {b : Frame} {a : Act} {k : List Item} {cs : List Frame} {w : World} {c : Code} : step P (lone (b.atR a (.inScope c :: k)) cs w) = .next (lone (b.atR a k) cs w) :=
  step_lone_go (by simp [stepG, stepG.exec, Frame.atR])
theorem wpIn_scope {F : Fence} {n : Nat} {P : Program} {c : Code} {Q Q' : Exit → Act → World → Prop} {a : Act} {w : World} (hQ : ∀ x a w, Q' x a w → (∀ l, x ≠ .goto l) ∧ Q x a w) (h : c.wpIn F n P Q' a w) : (Code.scope c).wpIn F n P Q a w := by
  intro b k cs hro hb hr
  have h0 : (lone (b.atR a (.code (.scope c) :: k)) cs w).fenced P F := fenced_calm hb hr rfl
  obtain ⟨e, a₁, w₁, hq, harr⟩ := h b (.inScope c :: k) cs hro hb hr
  obtain ⟨hng, hq⟩ := hQ _ _ _ hq
  cases e with
  | normal => exact ⟨.normal, a₁, w₁, hq, .head h0 stepR_scope (StepsIn.trans harr (.one (fenced_calm hb hr rfl) stepR_inScope))⟩
  | exit id =>
    have hx : exitTo id (.inScope c :: k) = exitTo id k := by simp [exitTo]
    exact ⟨.exit id, a₁, w₁, hq, fun k' hk => .head h0 stepR_scope (harr.1 k' (by rw [hx]; exact hk)),
      fun hr' hk => let ⟨k₁, h1, h2⟩ := harr.2 hr' (by rw [hx]; exact hk); ⟨k₁, h1, .head h0 stepR_scope h2⟩⟩
  | goto l => exact absurd rfl (hng l)
  | ret => exact ⟨_, a₁, w₁, hq, .of_steps (.one h0 stepR_scope) harr⟩
  | panic ch => exact ⟨_, a₁, w₁, hq, .of_steps (.one h0 stepR_scope) harr⟩
  | outgrown => exact ⟨_, a₁, w₁, hq, .of_steps (.one h0 stepR_scope) harr⟩
inductive scopeQ (Q : Post) : Post
  | n {ds : List Deferred} {e : Env} {fs : Fs} (h : Q .normal ds e fs) : scopeQ Q .normal ds e fs
  | r {ds : List Deferred} {e : Env} {fs : Fs} (h : Q .ret ds e fs) : scopeQ Q .ret ds e fs
  | e {id : Nat} {ds : List Deferred} {e : Env} {fs : Fs} (h : Q (.exit id) ds e fs) : scopeQ Q (.exit id) ds e fs
theorem CW.scope {C : Cu} {c : Code} {Q : Post} {e : Env} {fs : Fs} (h : CW C c (scopeQ Q) e fs) : CW C (.scope c) Q e fs := fun a w hs =>
  wpIn_scope (fun x a w ⟨ds, e, fs, q, s⟩ => by
    cases q with
    | n h => exact ⟨(fun _ h => nomatch h), ⟨ds, e, fs, h, s⟩⟩
    | r h => exact ⟨(fun _ h => nomatch h), ⟨ds, e, fs, h, s⟩⟩
    | e h => exact ⟨(fun _ h => nomatch h), ⟨ds, e, fs, h, s⟩⟩) (h a w hs)
/-- A string out of bytes. -/
abbrev sv (l : List UInt8) : Value := .string ⟨l.toArray⟩
section str
variable {P : Program} {e : Env} {T ty : TypeId} {x y lo hi : Operand} {l r : List UInt8} {tys : Array TypeId}
theorem ValP.addStr (hx : e.ev x = some (sv l)) (hy : e.ev y = some (sv r)) (hl : l.length + r.length ≤ 9223372036854775807) : ValP P e [] (.binOp .add T x y ty) (sv (l ++ r)) :=
  .bin hx hy (fun w => guard_str w) fun w => by
    rw [binOp_string_add, run_string_add_sum w _ _ (by simp only [ByteArray.size, List.size_toArray]; omega), ByteArray.mk_append_mk]
theorem ValP.cutStr {ik ik' : IntKind} {i j : Nat} (hU : UnI P T .string) (hx : e.ev x = some (sv l)) (hl : e.ev lo = some (.int ik (i : Int))) (hh : e.ev hi = some (.int ik' (j : Int))) (h1 : i ≤ j) (h2 : j ≤ l.length) :
    ValP P e [] (.slice T x (some lo) (some hi) none) (sv ((l.drop i).take (j - i))) := fun ρ w hρ _ d t pos af g => by
  have h := run_slice_string (P := P) w T ⟨l.toArray⟩ ik ik' (i : Int) (j : Int) hU.un (by omega) (by omega) (by simp only [ByteArray.size, List.size_toArray]; omega)
  rw [Int.toNat_natCast, Int.toNat_natCast, ByteArray.extract_mk] at h
  simp [execOp, hρ x _ hx, hρ lo _ hl, hρ hi _ hh, run_sliceAt_string (w := w) T _ _ _ _ hU.un, h]
end str
section lw
variable {C : Cu} {ops : Array Oper} {Q : Post} {rest : List Oper} {e : Env} {fs fs' : Fs} {d : Nat} {t : TypeId} {pos : String} {af : Array Edge}
end lw
end Go.Proofs.YtpgdnfgjbhdbpaaGreatDoor.SL

/-
  A SMALL LOGIC OVER THE KIT's WALK, PART X: maps of one's own; structs' fields.
  Conditions: none; over any program.
-/
namespace Go.Proofs.YtpgdnfgjbhdbpaaGreatDoor.SL
set_option linter.unusedVariables false
set_option linter.unusedSimpArgs false
open Go Go.RowKit Go.MapKept
section lw
variable {C : Cu} {ops : Array Oper} {Q : Post} {rest : List Oper} {e : Env} {fs fs' : Fs} {d : Nat} {t : TypeId} {pos : String} {af : Array Edge}
end lw
end Go.Proofs.YtpgdnfgjbhdbpaaGreatDoor.SL

/-
  A SMALL LOGIC OVER THE KIT's WALK, PART Y: structs built and read; arrays cut whole.
  Conditions: none; over any program.
-/
namespace Go.Proofs.YtpgdnfgjbhdbpaaGreatDoor.SL
set_option linter.unusedVariables false
set_option linter.unusedSimpArgs false
open Go Go.RowKit
theorem mapM_sizes {P : Program} {w : World} : ∀ (fs : List Field) (pl : List (Nat × Nat)), (fs.mapM fun f => (P.info? f.type).map fun i => (f.offset, i.size)) = some pl →
    (fs.mapM fun f => (do pure (f.offset, ← sizeOf f.type) : Sem (Nat × Nat))).run P w = .ok pl w
  | [], pl, h => by simp at h; subst h; rfl
  | f :: fs, pl, h => by
    rw [List.mapM_cons] at h ⊢
    cases hi : P.info? f.type with
    | none => rw [hi] at h; cases h
    | some i =>
      rw [hi] at h
      cases hr : (fs.mapM fun f => (P.info? f.type).map fun i => (f.offset, i.size)) with
      | none => rw [hr] at h; cases h
      | some r =>
        rw [hr] at h
        have ih := mapM_sizes (P := P) (w := w) fs r hr
        have he : pl = (f.offset, i.size) :: r := by simpa using h.symm
        subst he
        have hs : (sizeOf f.type).run P w = .ok i.size w := by simp [sizeOf, typeInfo, Sem.run_bind, hi]
        simp only [Sem.run_bind, hs, Result.andThen_ok, Sem.run_pure, ih]
def fillP (pl : List (Nat × Nat)) : Array Value → List (Nat × Value) → Array Value
  | z, [] => z
  | z, (i, v) :: r => match pl[i]? with
    | some (off, _) => fillP pl (wrCells z off v.cells.toList) r
    | none => z
def fillPok (pl : List (Nat × Nat)) (len : Nat) : List (Nat × Value) → Bool
  | [] => true
  | (i, v) :: r => match pl[i]? with
    | some (off, n) => Nat.beq v.cells.size n && Nat.ble (off + n) len && fillPok pl len r
    | none => false
theorem fillP_eq {pl : List (Nat × Nat)} : ∀ (parts : List (Nat × Value)) (z : Array Value), fillPok pl z.size parts = true → Instr.fill (pl[·]?) z parts = some (fillP pl z parts)
  | [], z, _ => rfl
  | (i, v) :: r, z, h => by
    unfold fillPok at h
    unfold Instr.fill fillP
    cases hp : pl[i]? with
    | none => rw [hp] at h; cases h
    | some q =>
      obtain ⟨off, n⟩ := q
      rw [hp] at h
      simp only [Bool.and_eq_true, Nat.beq_eq] at h
      obtain ⟨⟨h1, h2⟩, h3⟩ := h
      have h2 := Nat.le_of_ble_eq_true h2
      have hf : (v.cells.zipIdx.foldl (fun cs (p : Value × Nat) => cs.setIfInBounds (off + p.2) p.1) z) = wrCells z off v.cells.toList := by
        have := foldl_wr v.cells.toList z off 0
        rw [← Array.foldl_toList]
        simpa using this
      have ih := fillP_eq (pl := pl) r (wrCells z off v.cells.toList) (by rw [wrCells_size]; exact h3)
      simp only
      rw [if_neg (by simp [h1]; omega)]
      exact (congrArg (fun q => Instr.fill (pl[·]?) q r) hf).trans ih
section st
variable {P : Program} {e : Env} {T : TypeId} {x : Operand}
theorem ValP.buildT {nT : Nat} {z : Array Value} {parts : Array (Nat × Operand)} {pl : List (Nat × Nat)} {vs : List (Nat × Value)} {c : Array Value} (hS : StrI P T pl) (hI : InfoI P T nT (.agg z)) (hp : PartsOk e parts.toList vs)
    (hok : fillPok pl z.size vs = true) (hcc : fillP pl z vs = c) : ValP P e [] (.build T parts) (.agg c) := fun ρ w hρ _ d t pos af g => by
  have hc : Instr.fill (pl[·]?) z vs = some c := by rw [fillP_eq vs z hok, hcc]
  have h1 : (parts.map fun p => (p.1, ρ p.2)).toList = vs := by simpa using hp.map hρ
  have h2 : (Value.agg z).cells = z := rfl
  have hs := hS.str
  unfold strOf at hs
  split at hs
  · rename_i fs hu
    have hm := mapM_sizes (P := P) (w := w) fs.toList pl hs
    have hm2 : (fs.mapM fun f => (do pure (f.offset, ← sizeOf f.type) : Sem (Nat × Nat))).run P w = .ok pl.toArray w := by
      rw [Array.mapM_eq_mapM_toList]
      show ((fs.toList.mapM fun f => (do pure (f.offset, ← sizeOf f.type) : Sem (Nat × Nat))) >>= fun l => pure l.toArray).run P w = _
      simp only [Sem.run_bind, hm, Result.andThen_ok, Sem.run_pure]
    have h4 : (Instr.build T (parts.map fun p => (p.1, ρ p.2))).run P w = .ok (.agg c) w := by
      unfold Instr.build
      simp only [Sem.run_bind, run_zero, Result.andThen_ok, run_underlying hu, hm2, h1, h2]
      have : Instr.fill (fun i => pl.toArray[i]?) z vs = some c := by simpa using hc
      simp only [this, Sem.run_pure]
    simp only [execOp]
    exact (show ((do pure (.value (← Instr.build T (parts.map fun p => (p.1, ρ p.2)))) : Sem Next)).run P w = .ok (.value (.agg c)) w by simp [h4])
  · cases hs
/-- arr[:] of an array's address. -/
theorem ValP.cutArrAll {n sz b off : Nat} {E : TypeId} {z : Value} (hU : UnI P T (.array n E)) (hI : InfoI P E sz z) (hx : e.ev x = some (.pointer (some ⟨b, off, none⟩))) : ValP P e [] (.slice T x none none none) (.slice (some ⟨b, off, none⟩) n n) := fun ρ w hρ _ d t pos af g => by
  have hu := hU.un
  have h1 : (Instr.sliceAt T (.pointer (some ⟨b, off, none⟩)) none none none).run P w = .ok (.slice (some ⟨b, off, none⟩) n n) w := by
    have hal : P.arrayLen T = n := by rw [Program.arrayLen, hu]
    have hel : P.elem T = E := by rw [Program.elem, hu]
    have h2 := run_sliceAt_array_all (P := P) w T ⟨b, off, none⟩ (by rw [hal, hel]; exact hu)
    rw [hel, run_size, hal] at h2
    rw [h2]
    simp only [Result.andThen_ok, slicedAt, Nat.zero_mul, Nat.sub_zero]
    simp [Addr.add]
  simp [execOp, hρ x _ hx, h1]
end st
end Go.Proofs.YtpgdnfgjbhdbpaaGreatDoor.SL

/-
  A SMALL LOGIC OVER THE KIT's WALK, PART Z: slices laid of many; rows of numbers.
  Conditions: none; over any program.
-/
namespace Go.Proofs.YtpgdnfgjbhdbpaaGreatDoor.SL
set_option linter.unusedVariables false
set_option linter.unusedSimpArgs false
open Go Go.RowKit
theorem NewP.buildSN {P : Program} {e : Env} {T E size len : Nat} {z : Value} {parts : Array (Nat × Operand)} {vs : List (Nat × Value)} {c : Array Value} (hU : UnI P T (.slice E)) (hI : InfoI P E size z) (hp : PartsOk e parts.toList vs) (hl : Nat.blt 0 (len * size) = true) (hl' : Nat.ble (len * size) 1000000 = true)
    (hok : fillOk size ((Array.range (len * size)).map (z.cells[· % z.cells.size]!)).size vs = true) (hc : fillC size ((Array.range (len * size)).map (z.cells[· % z.cells.size]!)) vs = c) : NewP P e (.buildSlice T len parts) (.sl len len) (.cells c E (0, 0)) := fun ρ w hρ d t pos af g => by
  have h0 : 0 < len * size := by simpa [Nat.blt_eq] using hl
  have h1 := Nat.le_of_ble_eq_true hl'
  have hf := fill_eq (sz := size) vs _ hok
  rw [hc] at hf
  have hpm : (parts.map fun p => (p.1, ρ p.2)).toList = vs := by simpa using hp.map hρ
  have hr : (Instr.buildSlice T len (parts.map fun p => (p.1, ρ p.2))).run P w = .ok ((Sh.sl len len).val w.heap.size) (w.alloc (.cells c E (0, 0))) := by
    unfold Instr.buildSlice
    simp only [Sem.run_bind, run_un, run_size, Result.andThen_ok]
    have hne : ¬ (len * size > 2 ^ 24) := by omega
    have hnz : ¬ (len * size = 0) := by omega
    simp only [hne, hnz, if_false, Sem.run_bind, run_zero, Result.andThen_ok, Sem.run_pure, hpm, hf]
    simp [newRow, Sh.val]
  simp only [execOp]
  exact (show ((do pure (.value (← Instr.buildSlice T len (parts.map fun p => (p.1, ρ p.2)))) : Sem Next)).run P w = _ by simp only [Sem.run_bind, hr]; rfl)
/-- The cells of numbers. -/
def ncs (l : List Nat) : List Value := l.flatMap fun (x : Nat) => [Value.int .u64 (x : Int)]
theorem ncs_one (l : List Nat) : ∀ x ∈ l, ([Value.int .u64 (x : Int)] : List Value).length = 1 := fun _ _ => rfl
theorem ncs_map (l : List Nat) : ncs l = l.map fun (x : Nat) => Value.int .u64 (x : Int) := by
  induction l with
  | nil => rfl
  | cons a l ih => simp [ncs] at *; exact ih
theorem ncs_len (l : List Nat) : (ncs l).length = l.length := by rw [ncs_map, List.length_map]
/-- A whole block read as a row. -/
theorem row_cells {w : World} {b n sz : Nat} {cs : Array Value} {E : TypeId} {fr : Nat × Nat} {xs : List Value} (hb : w.heap[b]? = some (.cells cs E fr)) (hx : cs.toList = xs) (hl : xs.length = n * sz) (hn : n ≤ maxLen) : RowAt w sz (.slice (some ⟨b, 0, none⟩) n n) n xs :=
  ⟨⟨_, _, rfl, Nat.le_refl _, hn⟩, hl, fun _ => ⟨b, 0, n, cs, E, fr, rfl, hb, by rw [List.drop_zero, hx, ← hl]; exact List.take_length⟩, .own hb⟩
end Go.Proofs.YtpgdnfgjbhdbpaaGreatDoor.SL

/-
  A SMALL LOGIC OVER THE KIT's WALK, PART NZ: short names for steps that come often.
  Conditions: none; over any program.
-/
namespace Go.Proofs.YtpgdnfgjbhdbpaaGreatDoor.SL
set_option linter.unusedVariables false
open Go Go.RowKit
section lw
variable {C : Cu} {ops : Array Oper} {Q Q' : Post} {rest : List Oper} {e : Env} {fs : Fs} {d : Nat} {op : Op} {t : TypeId} {pos : String} {af : Array Edge} {v : Value} {x y c : Operand} {code z : Code}
theorem lvz (h : ValP C.P e [] op v) (k : LW C ops Q rest ((d, v) :: e) fs) (hd : Nat.blt d C.N = true := by rfl) (hn : noDef op = true := by rfl) : LW C ops Q (⟨some d, op, t, pos, af, none⟩ :: rest) e fs := LW.v0 hd hn h k
theorem vMz (k : LW C ops Q rest ((d, v) :: e) fs) (hd : Nat.blt d C.N = true := by rfl) (h : e.ev x = some v := by rfl) : LW C ops Q (⟨some d, .move x, t, pos, af, none⟩ :: rest) e fs := LW.v0 hd rfl (.move h) k
theorem vAz (k : LW C ops Q rest ((d, v) :: e) fs) (hd : Nat.blt d C.N = true := by rfl) (h : e.ev x = some v := by rfl) : LW C ops Q (⟨some d, .assign x, t, pos, af, none⟩ :: rest) e fs := LW.v0 hd rfl (.assign h) k
theorem vNz {a : Addr} (k : LW C ops Q rest ((d, .pointer (some a)) :: e) fs) (hd : Nat.blt d C.N = true := by rfl) (h : e.ev x = some (.pointer (some a)) := by rfl) : LW C ops Q (⟨some d, .nilCheck x, t, pos, af, none⟩ :: rest) e fs := LW.v0 hd rfl (.nilCheck h) k
theorem vEz {i : Nat} {vs : Array Value} (k : LW C ops Q rest ((d, v) :: e) fs) (hd : Nat.blt d C.N = true := by rfl) (hx : e.ev x = some (.tuple vs) := by rfl) (hi : nth vs.toList i = some v := by rfl) : LW C ops Q (⟨some d, .extract x i, t, pos, af, none⟩ :: rest) e fs := LW.v0 hd rfl (.extractN hx hi) k
theorem vFz {T : TypeId} {i b off fo n : Nat} {ft : TypeId} {u : Value} [hF : FldI C.P T i fo ft] [InfoI C.P ft n u] (k : LW C ops Q rest ((d, .pointer (some ⟨b, off + fo, none⟩)) :: e) fs) (hd : Nat.blt d C.N = true := by rfl) (hn : (n == 0) = false := by rfl) (hx : e.ev x = some (.pointer (some ⟨b, off, none⟩)) := by rfl) :
    LW C ops Q (⟨some d, .fieldAddr T x i, t, pos, af, none⟩ :: rest) e fs := LW.v0 hd rfl (.fieldAddr hn hx) k
theorem pTz {b : Bool} (k : LW C ops Q rest ((d, v) :: e) fs) (hd : Nat.blt d C.N = true := by rfl) (hc : e.ev c = some (.bool b) := by rfl) (hb : b = true := by with_reducible rfl) (h : e.ev x = some v := by rfl) : LW C ops Q (⟨some d, .pick c x y, t, pos, af, none⟩ :: rest) e fs := LW.v0 hd rfl (.pickT' hc hb h) k
theorem pFz {b : Bool} (k : LW C ops Q rest ((d, v) :: e) fs) (hd : Nat.blt d C.N = true := by rfl) (hc : e.ev c = some (.bool b) := by rfl) (hb : b = false := by with_reducible rfl) (h : e.ev y = some v := by rfl) : LW C ops Q (⟨some d, .pick c x y, t, pos, af, none⟩ :: rest) e fs := LW.v0 hd rfl (.pickF' hc hb h) k
theorem pTaz {b : Bool} (k : LW C ops Q rest ((d, v) :: e) fs) (hd : Nat.blt d C.N = true := by rfl) (hc : e.ev c = some (.bool b) := by rfl) (hb : b = true := by with_reducible assumption) (h : e.ev x = some v := by rfl) : LW C ops Q (⟨some d, .pick c x y, t, pos, af, none⟩ :: rest) e fs := LW.v0 hd rfl (.pickT' hc hb h) k
theorem pFaz {b : Bool} (k : LW C ops Q rest ((d, v) :: e) fs) (hd : Nat.blt d C.N = true := by rfl) (hc : e.ev c = some (.bool b) := by rfl) (hb : b = false := by with_reducible assumption) (h : e.ev y = some v := by rfl) : LW C ops Q (⟨some d, .pick c x y, t, pos, af, none⟩ :: rest) e fs := LW.v0 hd rfl (.pickF' hc hb h) k
theorem ldz {T : TypeId} {b off : Nat} {o : Obj} (hx : e.ev x = some (.pointer (some ⟨b, off, none⟩))) (hp : FsAt fs b o) (h : Rd C.P T o off v) (k : LW C ops Q rest ((d, v) :: e) fs) (hd : Nat.blt d C.N = true := by rfl) :
    LW C ops Q (⟨some d, .load T x, t, pos, af, none⟩ :: rest) e fs := LW.load hd hx (.at hp) h k
section gd
variable {dst : Option Tmp} {j s : Nat} {g b : Bool}
theorem gTz (h : LW C ops Q (⟨dst, op, t, pos, af, none⟩ :: rest) e fs) (hs : (ops[j]?).bind (·.dst) = some s := by rfl) (he : e.get s = some (.bool b) := by rfl) (hb : b = g := by with_reducible rfl) : LW C ops Q (⟨dst, op, t, pos, af, some (j, g)⟩ :: rest) e fs := LW.guardT' hs he hb h
theorem gTaz (h : LW C ops Q (⟨dst, op, t, pos, af, none⟩ :: rest) e fs) (hs : (ops[j]?).bind (·.dst) = some s := by rfl) (he : e.get s = some (.bool b) := by rfl) (hb : b = g := by with_reducible assumption) : LW C ops Q (⟨dst, op, t, pos, af, some (j, g)⟩ :: rest) e fs := LW.guardT' hs he hb h
theorem gTsz (h : LW C ops Q (⟨dst, op, t, pos, af, none⟩ :: rest) e fs) (hs : (ops[j]?).bind (·.dst) = some s := by rfl) (he : e.get s = some (.bool b) := by rfl) (hb : b = g := by simp only [Bool.not_true, Bool.not_false]) : LW C ops Q (⟨dst, op, t, pos, af, some (j, g)⟩ :: rest) e fs := LW.guardT' hs he hb h
theorem gFz (h : LW C ops Q rest ((d, undef) :: e) fs) (hs : (ops[j]?).bind (·.dst) = some s := by rfl) (he : e.get s = some (.bool b) := by rfl) (hb : b = !g := by simp only [Bool.not_true, Bool.not_false]) (hd : Nat.blt d C.N = true := by rfl) : LW C ops Q (⟨some d, op, t, pos, af, some (j, g)⟩ :: rest) e fs := LW.guardF' hs he hb hd h
theorem gFrz (h : LW C ops Q rest ((d, undef) :: e) fs) (hs : (ops[j]?).bind (·.dst) = some s := by rfl) (he : e.get s = some (.bool b) := by rfl) (hb : b = !g := by with_reducible rfl) (hd : Nat.blt d C.N = true := by rfl) : LW C ops Q (⟨some d, op, t, pos, af, some (j, g)⟩ :: rest) e fs := LW.guardF' hs he hb hd h
theorem gFaz (h : LW C ops Q rest ((d, undef) :: e) fs) (hs : (ops[j]?).bind (·.dst) = some s := by rfl) (he : e.get s = some (.bool b) := by rfl) (hb : b = !g := by simp only [Bool.not_true, Bool.not_false]; (with_reducible assumption)) (hd : Nat.blt d C.N = true := by rfl) : LW C ops Q (⟨some d, op, t, pos, af, some (j, g)⟩ :: rest) e fs := LW.guardF' hs he hb hd h
theorem gUz (h : LW C ops Q rest ((d, undef) :: e) fs) (hs : (ops[j]?).bind (·.dst) = some s := by rfl) (he : e.get s = some undef := by rfl) (hd : Nat.blt d C.N = true := by rfl) : LW C ops Q (⟨some d, op, t, pos, af, some (j, g)⟩ :: rest) e fs := LW.guardU hs he hd h
end gd
theorem nNz (h : CW C code Q e fs) : LW C ops (thenQ (thenC C code Q) Q') [] e fs := LW.nil (thenN h)
theorem sRz {id : Nat} {l : List Oper} (h : LW C l.toArray (thenQ (thenC C code Q) Q) l e fs) : CW C (.seq (.region id l.toArray false) code) Q e fs := CW.seq (CW.region h)
theorem nSz {id : Nat} {l : List Oper} (h : LW C l.toArray (thenQ (thenC C code Q) Q) l e fs) : LW C ops (thenQ (thenC C (.seq (.region id l.toArray false) code) Q) Q') [] e fs := nNz (sRz h)
section cd
variable {b : Bool}
theorem cTz (ht : CW C code Q e fs) (hc : e.ev c = some (.bool b) := by rfl) (hb : b = true := by with_reducible rfl) : CW C (.cond c code z) Q e fs := CW.condT hc hb ht
theorem cFz (hf : CW C z Q e fs) (hc : e.ev c = some (.bool b) := by rfl) (hb : b = false := by with_reducible rfl) : CW C (.cond c code z) Q e fs := CW.condF hc hb hf
end cd
end lw
section dwz
variable {C : Cu} {ops : Array Oper} {Q : Post} {tl rest : List Oper} {e : Env} {ts : Ts} {μ : Mu} {k d : Nat} {op : Op} {t : TypeId} {pos : String} {af : Array Edge} {v : Value} {x : Operand} {j s : Nat} {g b : Bool}
theorem dvz (h : ValP C.P e [] op v) (kk : DW C ops μ Q tl rest (k + 1) ((d, v) :: e) ts) (hk : ops[k]? = some ⟨some d, op, t, pos, af, none⟩ := by rfl) (hm : μ k = none := by rfl) (hd : Nat.blt d C.N = true := by rfl) (ht : noTouch op = true := by rfl) :
    DW C ops μ Q tl (⟨some d, op, t, pos, af, none⟩ :: rest) k e ts := DW.v0 hk hm hd .none ht h kk
theorem dwz (h : ValP C.P e [] op v) (kk : DW C ops μ Q tl rest (k + 1) ((d, v) :: e) ts) (hk : ops[k]? = some ⟨some d, op, t, pos, af, some (j, g)⟩ := by rfl) (hm : μ k = none := by rfl) (hd : Nat.blt d C.N = true := by rfl) (hs : (ops[j]?).bind (·.dst) = some s := by rfl) (he : e.get s = some (.bool b) := by rfl) (hb : b = g := by with_reducible rfl) (ht : noTouch op = true := by rfl) :
    DW C ops μ Q tl (⟨some d, op, t, pos, af, some (j, g)⟩ :: rest) k e ts := DW.v0 hk hm hd (wantYes hs he hb) ht h kk
theorem dSz (kk : DW C ops μ Q tl rest (k + 1) ((d, undef) :: e) ts) (hk : ops[k]? = some ⟨some d, op, t, pos, af, some (j, g)⟩ := by rfl) (hd : Nat.blt d C.N = true := by rfl) (hs : (ops[j]?).bind (·.dst) = some s := by rfl) (he : e.get s = some (.bool b) := by rfl) (hb : b = !g := by simp only [Bool.not_true, Bool.not_false]) :
    DW C ops μ Q tl (⟨some d, op, t, pos, af, some (j, g)⟩ :: rest) k e ts := DW.skip' hk hd hs he hb kk
end dwz
end Go.Proofs.YtpgdnfgjbhdbpaaGreatDoor.SL

/-
  A SMALL LOGIC OVER THE KIT's WALK, PART MA: min and max of three.
  Conditions: none; over any program.
-/
namespace Go.Proofs.YtpgdnfgjbhdbpaaGreatDoor.SL
set_option linter.unusedVariables false
set_option linter.unusedSimpArgs false
open Go Go.RowKit
section mm
variable {P : Program} {e : Env} {ik : IntKind} {m n k : Nat} {x y z : Operand} {tys : Array TypeId}
end mm
end Go.Proofs.YtpgdnfgjbhdbpaaGreatDoor.SL

/-
  A SMALL LOGIC OVER THE KIT's WALK, PART MB: rows of two words and a truth value; rows of three truth values.
  Conditions: none; over any program.
-/
namespace Go.Proofs.YtpgdnfgjbhdbpaaGreatDoor.SL
set_option linter.unusedVariables false
set_option linter.unusedSimpArgs false
open Go Go.RowKit
end Go.Proofs.YtpgdnfgjbhdbpaaGreatDoor.SL

/-
  A SMALL LOGIC OVER THE KIT's WALK, PART MC: arrays of numbers, read and written at told places.
  Conditions: none; over any program.
-/
namespace Go.Proofs.YtpgdnfgjbhdbpaaGreatDoor.SL
set_option linter.unusedVariables false
set_option linter.unusedSimpArgs false
open Go Go.RowKit
/-- An array of numbers. -/
def nca (L : List Nat) : Array Value := (ncs L).toArray
theorem nca_size (L : List Nat) : (nca L).size = L.length := by simp [nca, ncs_len]
theorem nca_get (L : List Nat) (i : Nat) (hi : i < L.length) : (nca L)[i]? = some (.int .u64 ((L.getD i 0 : Nat) : Int)) := by
  simp [nca, ncs_map, hi, List.getD_eq_getElem?_getD]
theorem nth_nca (L : List Nat) (i : Nat) (hi : i < L.length) : nth (nca L).toList i = some (.int .u64 ((L.getD i 0 : Nat) : Int)) := by
  rw [nth_eq]; simpa using nca_get L i hi
section rd
variable {P : Program} {T E : TypeId} {fr : Nat × Nat} {L : List Nat} {i x : Nat}
theorem rd_nca [AgI P T false] (hi : i < L.length) : Rd P T (.cells (nca L) E fr) (0 + i * 1) (.int .u64 ((L.getD i 0 : Nat) : Int)) :=
  Rd.one (by rw [Nat.zero_add, Nat.mul_one]; exact nca_get L i hi)
theorem rd_nca0 [AgI P T false] (hi : 0 < L.length) : Rd P T (.cells (nca L) E fr) (0 + 0 * 1) (.int .u64 ((L.getD 0 0 : Nat) : Int)) := rd_nca hi
theorem rd_ncaW {n : Nat} {z : Value} [AgI P T true] [InfoI P T n z] (h : L.length = n) : Rd P T (.cells (nca L) E fr) 0 (.agg (nca L)) := Rd.whole (by rw [nca_size, h])
theorem nca_set (L : List Nat) (i x : Nat) : wrCells (nca L) i [Value.int .u64 (x : Int)] = nca (L.set i x) := by
  simp [wrCells, nca, ncs_map, List.map_set]
theorem wr_nca {z : Value} [InfoI P T 1 z] (hi : i < L.length) : Wr P T (.cells (nca L) E (0, 0)) (0 + i * 1) (.int .u64 (x : Int)) (.cells (nca (L.set i x)) E (0, 0)) :=
  Wr.cells (n := 1) (z := z) rfl rfl (by rw [nca_size]; omega) (by rw [Nat.zero_add, Nat.mul_one]; exact nca_set L i x)
theorem wr_nca0 {z : Value} [InfoI P T 1 z] (hi : 0 < L.length) : Wr P T (.cells (nca L) E (0, 0)) (0 + 0 * 1) (.int .u64 (x : Int)) (.cells (nca (L.set 0 x)) E (0, 0)) := wr_nca hi
theorem wr_ncaW {n : Nat} {z : Value} {K : List Nat} [InfoI P T n z] (h : K.length = n) (h2 : L.length = n) : Wr P T (.cells (nca K) E (0, 0)) 0 (.agg (nca L)) (.cells (nca L) E (0, 0)) :=
  Wr.whole (by rw [nca_size, h]) (by rw [nca_size, h2]) (by simp [nca, ncs_map, Value.oneCell'])
theorem wr_ncaO {n : Nat} {z : Value} {cs : Array Value} [InfoI P T n z] (h : cs.size = n) (h2 : L.length = n) : Wr P T (.cells cs E (0, 0)) 0 (.agg (nca L)) (.cells (nca L) E (0, 0)) :=
  Wr.whole h (by rw [nca_size, h2]) (by simp [nca, ncs_map, Value.oneCell'])
end rd
end Go.Proofs.YtpgdnfgjbhdbpaaGreatDoor.SL

/-
  A SMALL LOGIC OVER THE KIT's WALK, PART MD: rows of bytes of our own, copy, cuts with three bounds, numbers of eight bits.
  Conditions: none; over any program.
-/
namespace Go.Proofs.YtpgdnfgjbhdbpaaGreatDoor.SL
set_option linter.unusedVariables false
set_option linter.unusedSimpArgs false
open Go Go.RowKit
/-- A row of bytes, whole. -/
def uca (l : List UInt8) : Array Value := (ucs l).toArray
theorem uca_size (l : List UInt8) : (uca l).size = l.length := by simp [uca, ucs_len]
theorem uca_get (l : List UInt8) (i : Nat) (hi : i < l.length) : (uca l)[i]? = some (.int .u8 ((l.getD i 0).toNat : Int)) := by
  simp [uca, ucs_map, hi, List.getD_eq_getElem?_getD]
theorem uca_set (l : List UInt8) (i x : Nat) (hx : x < 256) : wrCells (uca l) i [Value.int .u8 (x : Int)] = uca (l.set i (UInt8.ofNat x)) := by
  have h : (UInt8.ofNat x).toNat = x := by rw [UInt8.toNat_ofNat']; omega
  simp [wrCells, uca, ucs_map, List.map_set, h, Nat.mod_eq_of_lt hx]
section rd
variable {P : Program} {T E : TypeId} {fr : Nat × Nat} {l : List UInt8} {i x off : Nat}
theorem rd_uca [AgI P T false] (hi : i < l.length) : Rd P T (.cells (uca l) E fr) (0 + i * 1) (.int .u8 ((l.getD i 0).toNat : Int)) :=
  Rd.one (by rw [Nat.zero_add, Nat.mul_one]; exact uca_get l i hi)
theorem rd_ucaO [AgI P T false] (hi : off + i < l.length) : Rd P T (.cells (uca l) E fr) (off + i * 1) (.int .u8 ((l.getD (off + i) 0).toNat : Int)) :=
  Rd.one (by rw [Nat.mul_one]; exact uca_get l (off + i) hi)
theorem rd_ucaW {n : Nat} {z : Value} [AgI P T true] [InfoI P T n z] (h : l.length = n) : Rd P T (.cells (uca l) E fr) 0 (.agg (uca l)) := Rd.whole (by rw [uca_size, h])
theorem wr_uca {z : Value} [InfoI P T 1 z] (hi : i < l.length) (hx : x < 256) : Wr P T (.cells (uca l) E (0, 0)) (0 + i * 1) (.int .u8 (x : Int)) (.cells (uca (l.set i (UInt8.ofNat x))) E (0, 0)) :=
  Wr.cells (n := 1) (z := z) rfl rfl (by rw [uca_size]; omega) (by rw [Nat.zero_add, Nat.mul_one]; exact uca_set l i x hx)
theorem wr_ucaW {n : Nat} {z : Value} {k : List UInt8} [InfoI P T n z] (h : k.length = n) (h2 : l.length = n) : Wr P T (.cells (uca k) E (0, 0)) 0 (.agg (uca l)) (.cells (uca l) E (0, 0)) :=
  Wr.whole (by rw [uca_size, h]) (by rw [uca_size, h2]) (by simp [uca, ucs_map, Value.oneCell'])
theorem wr_ucaO {n : Nat} {z : Value} {cs : Array Value} [InfoI P T n z] (h : cs.size = n) (h2 : l.length = n) : Wr P T (.cells cs E (0, 0)) 0 (.agg (uca l)) (.cells (uca l) E (0, 0)) :=
  Wr.whole h (by rw [uca_size, h2]) (by simp [uca, ucs_map, Value.oneCell'])
end rd
/-- A row of ours, as one that may be read. -/
theorem own_row {w : World} {g off n c : Nat} {l : List UInt8} {E : TypeId} {fr : Nat × Nat} (h : w.heap[g]? = some (.cells (uca l) E fr)) (hn : off + n ≤ l.length) (hc : n ≤ c) (hm : c ≤ maxLen) :
    RowAt w 1 (.slice (some ⟨g, off, none⟩) n c) n (ucs ((l.drop off).take n)) :=
  ⟨⟨_, _, rfl, hc, hm⟩, by rw [ucs_len, List.length_take, List.length_drop]; omega, fun _ => ⟨g, off, c, _, E, fr, rfl, h, by simp [uca, ucs_map, List.map_drop, List.map_take]⟩, fun p k d hv => by
    cases hv; exact .inr (.inr ⟨g, off, _, rfl, h⟩)⟩
section num
variable {P : Program} {e : Env} {T ty : TypeId} {x y : Operand} {m n : Nat}
theorem ofInt8 (m : Nat) (hm : m < 256) : (BitVec.ofInt 8 (m : Int)).toNat = m := by
  simp only [BitVec.ofInt_natCast, BitVec.toNat_ofNat]; omega
theorem ValP.orB (hx : e.ev x = some (.int .u8 (m : Int))) (hy : e.ev y = some (.int .u8 (n : Int))) (hm : m < 256) (hn : n < 256) : ValP P e [] (.binOp .or T x y ty) (.int .u8 ((m ||| n : Nat) : Int)) :=
  .bin hx hy (fun w => guard_int w) fun w => by
    have h : m ||| n < 256 := Nat.or_lt_two_pow (n := 8) hm hn
    have hb : bits .or .u8 (m : Int) (n : Int) = ((m ||| n : Nat) : Int) := by
      show IntKind.u8.wrap (((BitVec.ofInt 8 (m : Int) ||| BitVec.ofInt 8 (n : Int)).toNat : Nat) : Int) = _
      rw [BitVec.toNat_or, ofInt8 m hm, ofInt8 n hn, wrapB]
      omega
    rw [binOp_or, intBits_or, hb]; rfl
theorem ValP.orBL (hx : e.ev x = some (.int .u8 (m : Int))) (hy : e.ev y = some (.int .u8 (OfNat.ofNat n))) (_ : n = n) (h0 : m < 256) (h1 : (OfNat.ofNat n : Nat) < 256) : ValP P e [] (.binOp .or T x y ty) (.int .u8 ((m ||| (OfNat.ofNat n : Nat) : Nat) : Int)) := .orB hx hy h0 h1
/-- x[i:j:k] -/
theorem ValP.cut3 {ik il im : IntKind} {E i j k c sz : Nat} {z : Value} {p : Option Addr} {lo hi mx : Operand} (hU : UnI P T (.slice E)) (hI : InfoI P E sz z) (hx : e.ev x = some (.slice p n c)) (hl : e.ev lo = some (.int il (i : Int))) (hh : e.ev hi = some (.int ik (j : Int))) (hm : e.ev mx = some (.int im (k : Int))) (h1 : i ≤ j) (h2 : j ≤ k) (h3 : k ≤ c) (h4 : i < k) :
    ValP P e [] (.slice T x (some lo) (some hi) (some mx)) (.slice (p.map (·.add (i * sz))) (j - i) (k - i)) := fun ρ w hρ _ d t pos af g => by
  have hu : P.underlying T = some (.slice E) := hU.un
  have h1 := run_slice_lhm (P := P) w T p n c (elem_un hu) il ik im (i : Int) (j : Int) (k : Int) (by omega) (by omega) (by omega) (by omega)
  rw [elem_eq hu, run_size] at h1
  have h2 : (Instr.sliceAt T (.slice p n c) (some (.int il (i : Int))) (some (.int ik (j : Int))) (some (.int im (k : Int)))).run P w = .ok (.slice (p.map (·.add (i * sz))) (j - i) (k - i)) w := by
    rw [run_sliceAt_slice (w := w) T _ _ _ _ (elem_un hu), h1]
    simp only [Result.andThen_ok, sliced, Int.toNat_natCast]
    rw [if_neg (by omega)]
  simp [execOp, hρ x _ hx, hρ lo _ hl, hρ hi _ hh, hρ mx _ hm, h2]
end num
theorem put_same {w : World} {g : Nat} {o : Obj} (h : w.heap[g]? = some o) : w.putObj g o = w := by
  obtain ⟨hlt, rfl⟩ := Array.getElem?_eq_some_iff.1 h
  simp [World.putObj, Array.setIfInBounds, hlt]
theorem setRow_put {w : World} {g : Nat} {cs cur : Array Value} {E : TypeId} (h : w.heap[g]? = some (.cells cur E (0, 0))) : w.setRow g cs = w.putObj g (.cells cs E (0, 0)) := by
  unfold World.setRow World.putObj
  have hlt := (Array.getElem?_eq_some_iff.1 h).1
  congr 1
  apply Array.ext_getElem?
  intro i
  by_cases hi : g = i
  · subst hi; rw [Array.getElem?_modify, if_pos rfl, h]; simp [hlt]
  · simp [Array.getElem?_modify, hi]
section dw
variable {C : Cu} {ops : Array Oper} {Q : Post} {tl rest : List Oper} {e : Env} {ts : Ts} {μ : Mu} {k d : Nat} {op : Op} {t : TypeId} {pos : String} {af : Array Edge} {g : Option (Nat × Bool)}
end dw
section lw
variable {C : Cu} {ops : Array Oper} {Q : Post} {rest : List Oper} {e : Env} {fs : Fs} {d : Nat} {t : TypeId} {pos : String} {af : Array Edge}
/-- **make** of n elements of one cell each: a row of ours, told. -/
theorem LW.makeOwn {T E bytes : Nat} {z : Value} {x : Operand} {ik : IntKind} {n : Nat} (hd : Nat.blt d C.N = true) (hU : UnI C.P T (.slice E)) (hI : InfoI C.P E 1 z) (hB : BytI C.P E bytes) (hz : z.cells = #[z]) (hx : e.ev x = some (.int ik (n : Int))) (hb : n * bytes ≤ 281474976710656) (h63 : n ≤ maxLen)
    (k : ∀ g, LW C ops Q rest ((d, .slice (some ⟨g, 0, none⟩) n n) :: e) ((g, .cells (List.replicate n z).toArray E (0, 0)) :: fs)) : LW C ops Q (⟨some d, .makeSlice T x x, t, pos, af, none⟩ :: rest) e fs :=
  LW.n0 hd rfl (.makeSlice hU hI hB hx hb (by simpa [maxLen] using h63)) fun g => by
    have h : madeCells z.cells (n * 1) = (List.replicate n z).toArray := by rw [← made_one hz]
    rw [h]; exact k g
/-- **copy(x, y)**: x a row of ours, y a row that may be read, not longer. -/
theorem LW.copyAt {x y : Operand} {tys : Array TypeId} {T E bytes : TypeId} {z vx : Value} {g off dLen dCap m : Nat} {cur : Array Value} {E' : TypeId} {news : List Value} {fs' : Fs} (hd : Nat.blt d C.N = true) (hT : tys = #[T, T]) (hU : UnI C.P T (.slice E)) (hI : InfoI C.P E 1 z) (hB : BytI C.P E bytes)
    (hx : e.ev x = some (.slice (some ⟨g, off, none⟩) dLen dCap)) (hy : e.ev y = some vx) (hat : ∀ w, St C.w0 C.S fs w → RowAt w 1 vx m news) (h1 : ∀ u ∈ news, u.oneCell' = true) (hm : m ≤ dLen) (hfit : off + m ≤ cur.size)
    (hset : SetAt fs g (.cells cur E' (0, 0)) (.cells (cur.toList.take off ++ news ++ cur.toList.drop (off + m)).toArray E' (0, 0)) fs')
    (k : LW C ops Q rest ((d, .int .i64 (m : Int)) :: e) fs') :
    LW C ops Q (⟨some d, .call { callee := .builtin .copy, args := #[x, y], argTypes := tys }, t, pos, af, none⟩ :: rest) e fs := by
  subst hT
  refine LW.valset hd (fun c h => by cases h) hset (fun a w hs hg => ?_) k
  have hA := hat w hs.st
  have hl : news.length = m := by have := hA.len; omega
  have hsz : (C.P.info? E).map (·.size) = some 1 := by
    obtain ⟨i, i1, i2, i3, i4⟩ := info_all (P := C.P) (T := E); rw [i1]; simp [i2]
  rcases Nat.eq_zero_or_pos m with h0 | h0
  · subst h0
    obtain ⟨p, c, rfl, _, _⟩ := hA.form
    have hn : news = [] := List.length_eq_zero_iff.1 (by omega)
    have hrun := run_copy_none (P := C.P) w T T t E (some ⟨g, off, none⟩) p dLen dCap 0 c hU.un hsz (Nat.zero_min _)
    have e1 : (Obj.cells (cur.toList.take off ++ news ++ cur.toList.drop (off + 0)).toArray E' (0, 0)) = .cells cur E' (0, 0) := by rw [hn]; simp
    rw [e1]
    have hput : w.putObj g (.cells cur E' (0, 0)) = w := put_same hg
    rw [hput]
    simp [execOp, resolve, invoke, builtin, hs.env.ev hx, hs.env.ev hy, hrun, goInt]
  · obtain ⟨b, o2, c, cs, E2, fr, rfl, hblk, hnx⟩ := hA.pos h0
    have hrun := run_copy_row (P := C.P) w T T t E g off dLen dCap ⟨b, o2, none⟩ m c cur E' news hU.un hsz hg (by rw [hl]; exact (Nat.min_eq_left hm).symm) (fun j u hj => by
      rw [addr_add, cell_of hblk]; exact cut_get hnx hj) (by rw [hl]; exact hfit) h1
    rw [hl] at hrun
    have hput : w.setRow g (cur.toList.take off ++ news ++ cur.toList.drop (off + m)).toArray = w.putObj g (.cells (cur.toList.take off ++ news ++ cur.toList.drop (off + m)).toArray E' (0, 0)) := setRow_put hg
    rw [hput] at hrun
    simp [execOp, resolve, invoke, builtin, hs.env.ev hx, hs.env.ev hy, hrun, goInt]
end lw
end Go.Proofs.YtpgdnfgjbhdbpaaGreatDoor.SL

/-
  A SMALL LOGIC OVER THE KIT's WALK, PART ME: the bytes of a string, laid anew.
  Conditions: none; over any program.
-/
namespace Go.Proofs.YtpgdnfgjbhdbpaaGreatDoor.SL
set_option linter.unusedVariables false
set_option linter.unusedSimpArgs false
open Go Go.RowKit
section lw
variable {C : Cu} {ops : Array Oper} {Q : Post} {rest : List Oper} {e : Env} {fs : Fs} {d : Nat} {t : TypeId} {pos : String} {af : Array Edge}
end lw
end Go.Proofs.YtpgdnfgjbhdbpaaGreatDoor.SL

/-
  A SMALL LOGIC OVER THE KIT's WALK, PART MF: arrays of bytes and of numbers compared.
  Conditions: none; over any program.
-/
namespace Go.Proofs.YtpgdnfgjbhdbpaaGreatDoor.SL
set_option linter.unusedVariables false
set_option linter.unusedSimpArgs false
open Go Go.RowKit
variable {P : Program} {e : Env}
section eqs
variable {T ty n : Nat} {k : IntKind} {x y : Operand}
variable {a b : List UInt8} {l m : List Nat}
end eqs
section sli
variable {T ty : TypeId} {x y : Operand} {n c : Nat}
theorem guard_sli {op : BinOp} {p : Option Addr} {v : Value} (w : World) : (eqGuard op T x y (.slice p n c) v).run P w = .ok () w := by
  unfold eqGuard; cases op <;> cases v <;> simp
theorem eqIn_ln {E : TypeId} [UnI P T (.slice E)] (d : Nat) (w : World) : (Op.equalIn (d + 1) T (.slice none n c) (.slice none 0 0)).run P w = .ok true w := by
  rw [Op.equalIn.eq_def]; simp only [Sem.run_bind, run_un (P := P) (T := T), Result.andThen_ok]; rfl
theorem eqIn_ls {E : TypeId} {a : Addr} [UnI P T (.slice E)] (d : Nat) (w : World) : (Op.equalIn (d + 1) T (.slice (some a) n c) (.slice none 0 0)).run P w = .ok false w := by
  rw [Op.equalIn.eq_def]; simp only [Sem.run_bind, run_un (P := P) (T := T), Result.andThen_ok]; rfl
theorem ValP.sliNilT {E : TypeId} [UnI P T (.slice E)] (hx : e.ev x = some (.slice none n c)) (hy : e.ev y = some (.slice none 0 0)) : ValP P e [] (.binOp .eql T x y ty) (.bool true) :=
  .bin hx hy (fun w => guard_sli w) fun w => by
    have := eqIn_ln (P := P) (T := T) (n := n) (c := c) (Op.maxDepth - 1) w
    simp only [binOp, Op.equal, Sem.run_bind]
    rw [show Op.maxDepth = Op.maxDepth - 1 + 1 from rfl, this]; rfl
theorem ValP.sliNilF {E : TypeId} {a : Addr} [UnI P T (.slice E)] (hx : e.ev x = some (.slice (some a) n c)) (hy : e.ev y = some (.slice none 0 0)) : ValP P e [] (.binOp .eql T x y ty) (.bool false) :=
  .bin hx hy (fun w => guard_sli w) fun w => by
    have := eqIn_ls (P := P) (T := T) (a := a) (n := n) (c := c) (Op.maxDepth - 1) w
    simp only [binOp, Op.equal, Sem.run_bind]
    rw [show Op.maxDepth = Op.maxDepth - 1 + 1 from rfl, this]; rfl
end sli
end Go.Proofs.YtpgdnfgjbhdbpaaGreatDoor.SL

/-
  A SMALL LOGIC OVER THE KIT's WALK, PART MG: cuts from a place on, told.
  Conditions: none; over any program.
-/
namespace Go.Proofs.YtpgdnfgjbhdbpaaGreatDoor.SL
set_option linter.unusedVariables false
set_option linter.unusedSimpArgs false
open Go Go.RowKit
variable {P : Program} {e : Env}
section cut
variable {T E x y lo : Nat}
theorem ValP.cutFromO {T E : TypeId} {x lo : Operand} {b o n c k : Nat} {il : IntKind} {z : Value} (hU : UnI P T (.slice E)) (hI : InfoI P E 1 z) (hx : e.ev x = some (.slice (some ⟨b, o, none⟩) n c)) (hl : e.ev lo = some (.int il (k : Int))) (hk : k ≤ n) (hc : k < c) : ValP P e [] (.slice T x (some lo) none none) (.slice (some ⟨b, o + k, none⟩) (n - k) (c - k)) := by
  have h := ValP.cutFrom (P := P) hU hI hx hl hk
  have e1 : cutAt (some ⟨b, o, none⟩) k n c 1 = .slice (some ⟨b, o + k, none⟩) (n - k) (c - k) := by
    unfold cutAt
    rw [if_neg (by omega)]
    simp [Addr.add]
  rwa [e1] at h
end cut
end Go.Proofs.YtpgdnfgjbhdbpaaGreatDoor.SL

/-
  A SMALL LOGIC OVER THE KIT's WALK, PART MH: bits that are cleared; bits of signed numbers.
  Conditions: none; over any program.
-/
namespace Go.Proofs.YtpgdnfgjbhdbpaaGreatDoor.SL
set_option linter.unusedVariables false
set_option linter.unusedSimpArgs false
open Go Go.RowKit
section num
variable {P : Program} {e : Env} {T ty : TypeId} {x y : Operand} {m n : Nat}
end num
end Go.Proofs.YtpgdnfgjbhdbpaaGreatDoor.SL

/-
  A SMALL LOGIC OVER THE KIT's WALK, PART MI: append in a region that draws its order.
  Conditions: none; over any program.
-/
namespace Go.Proofs.YtpgdnfgjbhdbpaaGreatDoor.SL
set_option linter.unusedVariables false
set_option linter.unusedSimpArgs false
open Go Go.RowKit
/-- Facts with their marks. -/
def tsTag (ws rs : List Nat) (gs : Fs) : Ts := gs.map fun p => (p.1, p.2, ws, rs)
theorem fsOf_tag {ws rs : List Nat} {gs : Fs} : fsOf (tsTag ws rs gs) = gs := by
  simp only [fsOf, tsTag, List.map_map]
  conv => rhs; rw [← List.map_id gs]
  rfl
/-- A row's facts, taken out. -/
inductive TOut (ops : Array Oper) (k : Nat) : Ts → Fs → List Nat → List Nat → Ts → Prop
  | nil {ts : Ts} : TOut ops k ts [] [] [] ts
  | one {b : Nat} {o : Obj} {ws rs : List Nat} {r : Ts} (h : ancB ops k ws = true) (h' : ancB ops k rs = true) : TOut ops k ((b, o, ws, rs) :: r) [(b, o)] ws rs r
  | old {seg : Fs} {r : Ts} : TOut ops k (tsOf seg ++ r) seg [] [] r
  | new {j : Nat} {seg : Fs} {r : Ts} (h : ancB ops k [j] = true) : TOut ops k (tsNew j seg ++ r) seg [j] [] r
  | tag {seg : Fs} {ws rs : List Nat} {r : Ts} (h : ancB ops k ws = true) (h' : ancB ops k rs = true) : TOut ops k (tsTag ws rs seg ++ r) seg ws rs r
  | cons {p : Nat × Obj × List Nat × List Nat} {ts r : Ts} {seg : Fs} {ws rs : List Nat} (h : TOut ops k ts seg ws rs r) : TOut ops k (p :: ts) seg ws rs (p :: r)
  | app {l ts r : Ts} {seg : Fs} {ws rs : List Nat} (h : TOut ops k ts seg ws rs r) : TOut ops k (l ++ ts) seg ws rs (l ++ r)
theorem TOut.spec {ops : Array Oper} {k : Nat} {ts r : Ts} {seg : Fs} {ws rs : List Nat} (h : TOut ops k ts seg ws rs r) : (tsTag ws rs seg ++ r).Perm ts ∧ ancB ops k ws = true ∧ ancB ops k rs = true := by
  induction h with
  | nil => exact ⟨by simp [tsTag], ancB_nil, ancB_nil⟩
  | one h h' => exact ⟨by simp [tsTag], h, h'⟩
  | old => exact ⟨by simp [tsTag, tsOf], ancB_nil, ancB_nil⟩
  | new h => exact ⟨by simp [tsTag, tsNew], h, ancB_nil⟩
  | tag h h' => exact ⟨.refl _, h, h'⟩
  | cons h ih => exact ⟨List.perm_middle.trans (ih.1.cons _), ih.2⟩
  | @app l ts r seg ws rs h ih =>
    refine ⟨?_, ih.2⟩
    have : (tsTag ws rs seg ++ (l ++ r)).Perm (l ++ (tsTag ws rs seg ++ r)) := by
      rw [← List.append_assoc, ← List.append_assoc]
      exact List.Perm.append_right _ List.perm_append_comm
    exact this.trans (ih.1.append_left _)
theorem ReadAll.fsts {C : Cu} {ops : Array Oper} {k : Nat} {bs : List Nat} {ts ts' : Ts} {us : Fs} (h : ReadAll C ops k bs ts us ts') : ts'.map (·.1) = ts.map (·.1) := by
  induction h with
  | nil => rfl
  | own h _ ih => rw [ih, h.fsts]
  | ext _ _ _ ih => exact ih
theorem mem_fst {ts ts' : Ts} (h : ts'.map (·.1) = ts.map (·.1)) {p : Nat × Obj × List Nat × List Nat} (hp : p ∈ ts') : ∃ q ∈ ts, q.1 = p.1 := by
  have : p.1 ∈ ts.map (·.1) := by rw [← h]; exact List.mem_map.2 ⟨p, hp, rfl⟩
  obtain ⟨q, hq, he⟩ := List.mem_map.1 this
  exact ⟨q, hq, he⟩
theorem upds_in {φ : Facts} {gs : Fs} (hn : gs.Pairwise fun p q => p.1 ≠ q.1) : ∀ q ∈ gs, upds φ gs q.1 = some q.2 := by
  induction gs with
  | nil => intro q hq; cases hq
  | cons x l ih =>
    intro q hq
    obtain ⟨n1, n2⟩ := List.pairwise_cons.1 hn
    simp only [upds]
    rcases List.mem_cons.1 hq with rfl | hq
    · exact upd_same _ _ _
    · rw [upd_other _ _ (fun e => n1 q hq e.symm)]; exact ih n2 q hq
section dw
variable {C : Cu} {ops : Array Oper} {Q : Post} {tl rest : List Oper} {e : Env} {ts : Ts} {μ : Mu} {k d : Nat} {t : TypeId} {pos : String} {af : Array Edge} {g : Option (Nat × Bool)}
theorem IsRow.blocks {E : TypeId} {size n : Nat} {v : Value} {xs : List Value} {seg : Fs} (hrow : IsRow E size v n xs seg) (h0 : v = .slice none 0 0 ∨ 0 < n) : blocksN 4 v = keys seg ∧ blocksN 1 v = keys seg := by
  cases hrow with
  | nil => exact ⟨rfl, rfl⟩
  | @own gg _ cap cur _ hn _ _ _ _ =>
    have hc : cap ≠ 0 := by
      rcases h0 with h0 | h0
      · cases h0
      · omega
    exact ⟨by simp [blocksN, hc, keys], by simp [blocksN, hc, keys]⟩
/-- An operation that lays rows anew, in whatever order. -/
theorem DW.moveG {o : Oper} {bl : List Nat} {M : Value → Fs → Prop} {seg us2 : Fs} {ws rs : List Nat} {ts1 ts2 : Ts} (hk : ops[k]? = some o) (hdst : o.dst = some d) (hd : Nat.blt d C.N = true)
    (htch0 : ∀ a, EnvOk C.N C.ds e a → tch (exs (μ k)) ops o a = keys seg ++ bl) (hmv0 : ∀ a, EnvOk C.N C.ds e a → mvE (flg (μ k)) ops o a = keys seg) (hout : TOut ops k ts seg ws rs ts1) (hra : ReadAll C ops k bl ts1 us2 ts2)
    (hcl : ∀ a φ, EnvOk C.N C.ds e a → (∀ q ∈ seg, φ q.1 = some q.2 ∧ (C.w0.heap.size ≤ q.1 ∨ q.1 ∈ C.S)) → seg.Pairwise (fun p q => p.1 ≠ q.1) → (∀ w, C.cx.on φ bl w → ∀ p ∈ us2, w.heap[p.1]? = some p.2) → CanMk C.cx ops (μ k) φ o a M)
    (kk : ∀ v' seg', M v' seg' → DW C ops μ Q tl rest (k + 1) ((d, v') :: e) (tsTag (k :: ws) (k :: rs) seg' ++ ts2)) :
    DW C ops μ Q tl (o :: rest) k e ts := by
  intro a φ tw tr ha hrel hinv
  obtain ⟨hperm, hws, hrs⟩ := hout.spec
  have htch := htch0 a ha
  have hmvE := hmv0 a ha
  have hin : ∀ q ∈ seg, (q.1, q.2, ws, rs) ∈ ts := fun q hq => hperm.subset (List.mem_append_left _ (List.mem_map.2 ⟨q, hq, rfl⟩))
  have hsub : ∀ p ∈ ts1, p ∈ ts := fun p hp => hperm.subset (List.mem_append_right _ hp)
  have hnd : (tsTag ws rs seg ++ ts1).Pairwise fun p q => p.1 ≠ q.1 := hperm.symm.pairwise hrel.nd (fun h e => h e.symm)
  obtain ⟨nd1, nd2, nd3⟩ := List.pairwise_append.1 hnd
  have hdis : ∀ q ∈ seg, ∀ p ∈ ts1, p.1 ≠ q.1 := fun q hq p hp e => nd3 (q.1, q.2, ws, rs) (List.mem_map.2 ⟨q, hq, rfl⟩) p hp e.symm
  have hks : ∀ b ∈ keys seg, ∃ q ∈ seg, q.1 = b := fun b hb => by obtain ⟨q, hq, he⟩ := List.mem_map.1 hb; exact ⟨q, hq, he⟩
  have hφs : ∀ q ∈ seg, φ q.1 = some q.2 := fun q hq => hrel.fsome _ (hin q hq)
  have hrel1 : Rel C.w0.heap.size ts1 φ tw (addT tr (keys seg) k) := by
    refine ⟨fun p hp => hrel.fsome p (hsub p hp), fun p hp j hj => hrel.ftw p (hsub p hp) j hj, fun p hp j hj => ?_, hrel.old, fun b hb hB j hj => ?_, nd2⟩
    · rcases hj with hj | ⟨_, hj⟩
      · exact hrel.ftr p (hsub p hp) j hj
      · obtain ⟨q, hq, he⟩ := hks _ hj
        exact absurd he.symm (hdis q hq p hp)
    · rcases hj with hj | ⟨_, hj⟩
      · exact hrel.oldr b hb hB j hj
      · obtain ⟨q, hq, rfl⟩ := hks _ hj
        rw [hφs q hq] at hb; cases hb
  obtain ⟨i1, i2, i3⟩ := hra.rel hinv hrel1
  have hts2 : ∀ p ∈ ts2, ∀ q ∈ seg, p.1 ≠ q.1 := fun p hp q hq => by
    obtain ⟨p', hp', he⟩ := mem_fst hra.fsts hp
    rw [← he]; exact hdis q hq p' hp'
  unfold walk dOp
  simp only [hk]
  rw [htch, hmvE]
  refine ⟨fun b hb => ?_, .inr ⟨M, hcl a φ ha (fun q hq => ⟨hφs q hq, hinv q.1 (by rw [hφs q hq]; simp)⟩) ?_ (fun w hon => i3 w hon), fun b hb j hj => ?_, fun v' gs hM hf _ => ?_⟩⟩
  · rcases List.mem_append.1 hb with hb | hb
    · obtain ⟨q, hq, rfl⟩ := hks _ hb
      exact ⟨.inl (by rw [hφs q hq]; simp), fun j hj => ancB_spec hws j (hrel.ftw _ (hin q hq) j hj)⟩
    · exact i2 b hb
  · have := nd1
    simp only [tsTag, List.pairwise_map] at this
    exact this
  · obtain ⟨q, hq, rfl⟩ := hks _ hb
    exact ancB_spec hrs j (hrel.ftr _ (hin q hq) j hj)
  · have hfk : ∀ b ∈ keys gs, (φ b = none ∧ C.w0.heap.size ≤ b) ∨ b ∈ keys seg := fun b hb => (hf.1 b hb).2
    have hk2 : ∀ p ∈ ts2, p.1 ∉ keys gs := fun p hp hk' => by
      rcases hfk _ hk' with h | h
      · rw [i1.fsome p hp] at h; cases h.1
      · obtain ⟨q, hq, he⟩ := hks _ h
        exact hts2 p hp q hq he.symm
    have hup := upds_in (φ := φ) hf.2
    have hg : ∀ p ∈ tsTag (k :: ws) (k :: rs) gs, ∃ q ∈ gs, p = (q.1, q.2, k :: ws, k :: rs) := fun p hp => by
      obtain ⟨q, hq, rfl⟩ := List.mem_map.1 hp; exact ⟨q, hq, rfl⟩
    rw [hdst]
    refine kk v' gs hM _ _ _ _ (ha.put hd) ⟨fun p hp => ?_, fun p hp j hj => ?_, fun p hp j hj => ?_, fun x hx j hj => ?_, fun x hx hB j hj => ?_, ?_⟩ (inv_upds hinv (fun b hb => (hf.1 b hb).1))
    · rcases List.mem_append.1 hp with hp | hp
      · obtain ⟨q, hq, rfl⟩ := hg p hp; exact hup q hq
      · rw [upds_other (hk2 p hp)]; exact i1.fsome p hp
    · rcases List.mem_append.1 hp with hp | hp
      · obtain ⟨q, hq, rfl⟩ := hg p hp
        rcases hj with hj | ⟨rfl, _⟩
        · rcases hfk q.1 (List.mem_map.2 ⟨q, hq, rfl⟩) with h | h
          · exact absurd hj (hrel.old _ h.1 j)
          · obtain ⟨q', hq', he⟩ := hks _ h
            exact List.mem_cons_of_mem _ (hrel.ftw _ (hin q' hq') j (by rw [he]; exact hj))
        · exact List.mem_cons_self
      · rcases hj with hj | ⟨_, hj⟩
        · exact i1.ftw p hp j hj
        · rcases List.mem_append.1 hj with hj | hj
          · obtain ⟨q, hq, he⟩ := hks _ hj
            exact absurd he.symm (hts2 p hp q hq)
          · exact absurd hj (hk2 p hp)
    · rcases List.mem_append.1 hp with hp | hp
      · obtain ⟨q, hq, rfl⟩ := hg p hp
        rcases hj with hj | ⟨rfl, _⟩
        · rcases hfk q.1 (List.mem_map.2 ⟨q, hq, rfl⟩) with h | h
          · exact absurd hj (hrel.oldr _ h.1 h.2 j)
          · obtain ⟨q', hq', he⟩ := hks _ h
            exact List.mem_cons_of_mem _ (hrel.ftr _ (hin q' hq') j (by rw [he]; exact hj))
        · exact List.mem_cons_self
      · exact i1.ftr p hp j (by rw [← addT_app]; exact hj)
    · have hxk : x ∉ keys gs := fun h => upds_key h hx
      rw [upds_other hxk] at hx
      rcases hj with hj | ⟨_, hj⟩
      · exact hrel.old x hx j hj
      · rcases List.mem_append.1 hj with hj | hj
        · obtain ⟨q, hq, rfl⟩ := hks _ hj
          rw [hφs q hq] at hx; cases hx
        · exact hxk hj
    · have hxk : x ∉ keys gs := fun h => upds_key h hx
      rw [upds_other hxk] at hx
      exact i1.oldr x hx hB j (by rw [← addT_app]; exact hj)
    · refine List.pairwise_append.2 ⟨?_, i1.nd, fun p hp q hq e => ?_⟩
      · simp only [tsTag, List.pairwise_map]; exact hf.2
      · obtain ⟨q', hq', rfl⟩ := hg p hp
        exact hk2 q hq (by rw [← e]; exact List.mem_map.2 ⟨q', hq', rfl⟩)
/-- **append** in whatever order, told by what it does. -/
theorem DW.appendG {s x : Operand} {tys : Array TypeId} {v vx : Value} {M : Value → Fs → Prop} {seg us : Fs} {ws rs : List Nat} {ts1 ts2 : Ts}
    (hk : ops[k]? = some ⟨some d, .call { callee := .builtin .append, args := #[s, x], argTypes := tys }, t, pos, af, g⟩) (hm : μ k = some (cst M, (false : Fl))) (hd : Nat.blt d C.N = true) (hg : WantT ops e g)
    (hs : e.ev s = some v) (hx : e.ev x = some vx) (hvk : blocksN 4 v = keys seg ∧ blocksN 1 v = keys seg) (hout : TOut ops k ts seg ws rs ts1) (hrd : RdV C ops k [vx] ts1 us ts2)
    (hrun : ∀ w, St C.w0 C.S seg w → (∀ p ∈ us, w.heap[p.1]? = some p.2) → ∃ v' seg' w', (Builtin.append_ tys t #[v, vx]).run C.P w = .ok v' w' ∧ M v' seg' ∧ St C.w0 C.S seg' w' ∧ w.heap.size ≤ w'.heap.size ∧ (∀ b, b < w.heap.size → b ∉ seg'.map (·.1) → w'.heap[b]? = w.heap[b]?) ∧ (∀ q ∈ seg', w.heap.size ≤ q.1 ∨ q.1 ∈ seg.map (·.1)))
    (kk : ∀ v' seg', M v' seg' → DW C ops μ Q tl rest (k + 1) ((d, v') :: e) (tsTag (k :: ws) (k :: rs) seg' ++ ts2)) :
    DW C ops μ Q tl (⟨some d, .call { callee := .builtin .append, args := #[s, x], argTypes := tys }, t, pos, af, g⟩ :: rest) k e ts := by
  obtain ⟨us2, hra, hus⟩ := hrd.all
  have hra : ReadAll C ops k (blocksN 4 vx) ts1 us2 ts2 := by simpa using hra
  have hmvB : ∀ a : Act, EnvOk C.N C.ds e a → mvB false ⟨some d, .call { callee := .builtin .append, args := #[s, x], argTypes := tys }, t, pos, af, g⟩ a.eval = blocksN 1 v := fun a ha => by
    show (match (#[s, x] : Array Operand)[0]? with | some x => blocksN 1 (a.eval x) | none => []) = _
    simp [ha.Ev s v hs]
  refine DW.moveG (M := M) hk rfl hd (fun a ha => ?_) (fun a ha => ?_) hout hra (fun a φ ha hseg hnd hus3 => ?_) kk
  · have hw := WantT.wanted (o := ⟨some d, .call { callee := .builtin .append, args := #[s, x], argTypes := tys }, t, pos, af, g⟩) hg ha
    rw [tch_want hw, hm, ← hvk.1]
    show ((#[] ++ #[s, x] : Array Operand).toList.flatMap fun y => blocksN 4 (a.eval y)) = _
    simp [ha.Ev s v hs, ha.Ev x vx hx]
  · have hw := WantT.wanted (o := ⟨some d, .call { callee := .builtin .append, args := #[s, x], argTypes := tys }, t, pos, af, g⟩) hg ha
    rw [hm]; unfold mvE; rw [if_pos hw, ← hvk.2]; exact hmvB a ha
  · have hw := WantT.wanted (o := ⟨some d, .call { callee := .builtin .append, args := #[s, x], argTypes := tys }, t, pos, af, g⟩) hg ha
    have hes := ha.Ev s v hs
    have hex := ha.Ev x vx hx
    have htch : touch ⟨some d, .call { callee := .builtin .append, args := #[s, x], argTypes := tys }, t, pos, af, g⟩ a.eval = keys seg ++ blocksN 4 vx := by
      rw [← hvk.1]
      show ((#[] ++ #[s, x] : Array Operand).toList.flatMap fun y => blocksN 4 (a.eval y)) = _
      simp [hes, hex]
    refine ⟨hw, .inr ⟨⟨cst M, by rw [hm]; rfl, rfl⟩, .inr fun w hon => ?_⟩⟩
    rw [htch] at hon
    have hst : St C.w0 C.S seg w := ⟨hon.1, fun q hq => ⟨(hseg q hq).2, hon.2 q.1 (List.mem_append_left _ (List.mem_map.2 ⟨q, hq, rfl⟩)) _ (hseg q hq).1⟩, hnd⟩
    obtain ⟨v', seg', w', hr, hM, hst', g1, g2, g3⟩ := hrun w hst (fun p hp => hus3 w ⟨hon.1, fun y hy o ho => hon.2 y (List.mem_append_right _ hy) o ho⟩ p (hus p hp))
    refine ⟨v', seg', w', ?_, hM, hst'.bel, g1, g2, fun q hq => ⟨(hst'.own q hq).2, ?_, ?_⟩, hst'.nd⟩
    · show (execOp a.eval ⟨some d, .call { callee := .builtin .append, args := #[s, x], argTypes := tys }, t, pos, af, g⟩).run C.P w = .ok (.value v') w'
      simp [execOp, resolve, invoke, builtin, hes, hex, hr]
    · exact (hst'.own q hq).1
    · rw [hm, show mvB (flg (some (cst M, false))) _ _ = keys seg from (hmvB a ha).trans hvk.2]; exact g3 q hq
end dw
end Go.Proofs.YtpgdnfgjbhdbpaaGreatDoor.SL

/-
  A SMALL LOGIC OVER THE KIT's WALK, PART MJ: append of so many zeros.
  Conditions: none; over any program.
-/
namespace Go.Proofs.YtpgdnfgjbhdbpaaGreatDoor.SL
set_option linter.unusedVariables false
set_option linter.unusedSimpArgs false
open Go Go.RowKit
section run
variable {P : Program} {w : World}
theorem zero_cells {z : Value} (hz : z.cells = #[z]) (n : Nat) : Builtin.zeroCells z.cells n = (List.replicate n z).toArray := by
  apply Array.ext_getElem?
  intro j
  rw [hz]
  by_cases h : j < n
  · simp [Builtin.zeroCells, h, Nat.mod_one]
  · simp [Builtin.zeroCells, h]
theorem run_appz_nil (t u ty e : TypeId) (i : TypeInfo) (z : Value) (ht : P.underlying t = some (.slice e)) (hu : P.underlying u = some (.int .i64)) (hi : P.info? e = some i) (hz : i.zero = some z) (hs : i.size = 1)
    (n : Nat) (h0 : 0 < n) (h63 : (n : Int) ≤ 9223372036854775807) (h48 : n * i.bytes ≤ 281474976710656) :
    (Builtin.append_ #[t, u] ty #[.slice none 0 0, .int .i64 (n : Int)]).run P w =
      .ok (.slice (some ⟨w.heap.size, 0, none⟩) n (grownCap w n 0 e)) (w.drew.alloc (.cells (Builtin.zeroCells z.cells n ++ Builtin.zeroCells z.cells (grownCap w n 0 e - n)) e)) := by
  have hn : n ≠ 0 := by omega
  have h63' : ¬ (9223372036854775807 < (n : Int)) := by omega
  have hw : IntKind.i64.wrap (n : Int) = (n : Int) := wrapI _ (by omega) (by omega)
  have hn0 : ¬ ((n : Int) < 0) := by omega
  have h48i : ¬ (281474976710656 < (n : Int) * (i.bytes : Int)) := by rw [← Int.natCast_mul]; omega
  have h48' : ¬ (281474976710656 < Builtin.nextslicecap n 0 * i.bytes) := by rw [nextslicecap_zero h0]; omega
  simp [Builtin.append_, run_underlying ht, run_underlying hu, sizeOf, typeInfo, zeroValue, hi, hz, asInt, asIntOf, hw, hn0, h48i, hn, h63', h48', hs, Question.forced, run_firstCells_none, newRow, grownCap]
theorem run_appz_room (t u ty e : TypeId) (i : TypeInfo) (z : Value) (ht : P.underlying t = some (.slice e)) (hu : P.underlying u = some (.int .i64)) (hi : P.info? e = some i) (hz : i.zero = some z) (hs : i.size = 1) (hc : z.cells = #[z]) (h1 : z.oneCell' = true)
    (g sLen sCap : Nat) (cur : Array Value) (hg : w.heap[g]? = some (.cells cur e (0, 0))) (m : Nat) (h63 : (m : Int) ≤ 9223372036854775807) (h48 : m * i.bytes ≤ 281474976710656)
    (hroom : sLen + m ≤ sCap) (hfit : sLen + m ≤ cur.size) :
    (Builtin.append_ #[t, u] ty #[.slice (some ⟨g, 0, none⟩) sLen sCap, .int .i64 (m : Int)]).run P w =
      .ok (.slice (some ⟨g, 0, none⟩) (sLen + m) sCap) (w.setRow g (cur.toList.take sLen ++ List.replicate m z ++ cur.toList.drop (sLen + m)).toArray) := by
  have hw : IntKind.i64.wrap (m : Int) = (m : Int) := wrapI _ (by omega) (by omega)
  have hn0 : ¬ ((m : Int) < 0) := by omega
  have h48i : ¬ (281474976710656 < (m : Int) * (i.bytes : Int)) := by rw [← Int.natCast_mul]; omega
  have hst := run_storeCells_at P g sLen e (List.replicate m z) 0 cur w hg (by simpa using hfit) (fun v hv => by rw [List.eq_of_mem_replicate hv]; exact h1)
  simp only [Nat.add_zero, List.length_replicate] at hst
  rcases Nat.eq_zero_or_pos m with h0 | h0
  · subst h0
    simp only [List.replicate_zero] at hst ⊢
    have hw0 : IntKind.i64.wrap 0 = 0 := by decide
    have hr0 : sLen ≤ sCap := by omega
    simp [Builtin.append_, run_underlying ht, run_underlying hu, sizeOf, typeInfo, hi, asInt, asIntOf, hs, hr0, hw0, Addr.add_lit, hst]
  · have hm : m ≠ 0 := by omega
    simp [Builtin.append_, run_underlying ht, run_underlying hu, sizeOf, typeInfo, zeroValue, hi, hz, asInt, asIntOf, hw, hn0, h48i, hs, hm, hroom, zero_cells hc, Addr.add_lit, hst]
theorem run_appz_grow (t u ty e : TypeId) (i : TypeInfo) (z : Value) (ht : P.underlying t = some (.slice e)) (hu : P.underlying u = some (.int .i64)) (hi : P.info? e = some i) (hz : i.zero = some z) (hs : i.size = 1)
    (b : Addr) (sLen sCap : Nat) (olds : List Value) (hlo : olds.length = sLen) (holds : ∀ j v, olds[j]? = some v → w.cell? (b.add j) = some v)
    (n : Nat) (h0 : 0 < n) (hg : sCap < sLen + n) (h63 : ((sLen + n : Nat) : Int) ≤ 9223372036854775807) (h48 : n * i.bytes ≤ 281474976710656) (hfit : Builtin.nextslicecap (sLen + n) sCap * i.bytes ≤ 281474976710656) :
    (Builtin.append_ #[t, u] ty #[.slice (some b) sLen sCap, .int .i64 (n : Int)]).run P w =
      .ok (.slice (some ⟨w.heap.size, 0, none⟩) (sLen + n) (grownCap w (sLen + n) sCap e))
        (w.drew.alloc (.cells (olds.toArray ++ Builtin.zeroCells z.cells n ++ Builtin.zeroCells z.cells (grownCap w (sLen + n) sCap e - (sLen + n))) e)) := by
  have hn : ¬ (sLen + n ≤ sCap) := by omega
  have hn' : n ≠ 0 := by omega
  have hw : IntKind.i64.wrap (n : Int) = (n : Int) := wrapI _ (by omega) (by omega)
  have hn0 : ¬ ((n : Int) < 0) := by omega
  have h48i : ¬ (281474976710656 < (n : Int) * (i.bytes : Int)) := by rw [← Int.natCast_mul]; omega
  have h63' : ¬ (9223372036854775807 < ((sLen : Int) + (n : Int))) := by omega
  have h48' : ¬ (281474976710656 < Builtin.nextslicecap (sLen + n) sCap * i.bytes) := by omega
  have hfo := run_firstCells_some (P := P) w.drew 1 sLen b sLen sCap olds (by omega) (by simpa using holds)
  simp [Builtin.append_, run_underlying ht, run_underlying hu, sizeOf, typeInfo, zeroValue, hi, hz, asInt, asIntOf, hw, hn0, h48i, hs, hn', hn, h63', h48', Question.forced, hfo, newRow, grownCap]
end run
/-- **append** of m zeros, on a row of ours. -/
theorem row_appz {P : Program} {T U E ty : TypeId} {i : TypeInfo} {z : Value} (ht : P.underlying T = some (.slice E)) (hu : P.underlying U = some (.int .i64)) (hi : P.info? E = some i) (hz : i.zero = some z) (hsz : i.size = 1) (hzc : z.cells = #[z]) (h1 : z.oneCell' = true)
    {v : Value} {n : Nat} {xs : List Value} {seg pre post : Fs} {w0 : World} {S : List Nat} {w : World} (h : IsRow E 1 v n xs seg) (hs : St w0 S (pre ++ (seg ++ post)) w)
    (m : Nat) (h63 : n + m ≤ maxLen) (hbytes : (n + m) * i.bytes ≤ 140737488355328) :
    ∃ v' seg' w', (Builtin.append_ #[T, U] ty #[v, .int .i64 (m : Int)]).run P w = .ok v' w' ∧ IsRow E 1 v' (n + m) (xs ++ List.replicate m z) seg' ∧ St w0 S (pre ++ (seg' ++ post)) w' ∧ w.heap.size ≤ w'.heap.size ∧
      (∀ b, b < w.heap.size → b ∉ seg'.map (·.1) → w'.heap[b]? = w.heap[b]?) ∧ (∀ q ∈ seg', w.heap.size ≤ q.1 ∨ q.1 ∈ seg.map (·.1)) := by
  have h63' : n + m ≤ 9223372036854775807 := by simp only [maxLen] at h63; omega
  have hmb : m * i.bytes ≤ (n + m) * i.bytes := Nat.mul_le_mul_right _ (by omega)
  have fresh : ∀ (o : Obj), Bel w0.heap.size S w0 (w.drew.alloc o) := fun o => (hs.bel.drew).alloc (by have := hs.bel.size; simpa [World.drew] using this) o
  have alike : ∀ (o : Obj) k, k < w.heap.size → (w.drew.alloc o).heap[k]? = w.heap[k]? := fun o k hk => Below.heap_alloc w.drew o k hk
  have cells : ∀ (old : Nat) (ys : List Value), ys.length = n → ((ys.toArray ++ Builtin.zeroCells z.cells m ++ Builtin.zeroCells z.cells (grownCap w (n + m) old E - (n + m))).size = grownCap w (n + m) old E * 1) ∧
      (ys.toArray ++ Builtin.zeroCells z.cells m ++ Builtin.zeroCells z.cells (grownCap w (n + m) old E - (n + m))).toList.take ((n + m) * 1) = ys ++ List.replicate m z := fun old ys hys => by
    have hge := grownCap_ge w (n + m) old E
    rw [zero_cells hzc, zero_cells hzc]
    constructor
    · simp only [Array.size_append, List.size_toArray, List.length_replicate, hys]
      omega
    · have hlen : (ys ++ List.replicate m z).length = (n + m) * 1 := by rw [List.length_append, hys, List.length_replicate]; omega
      simp only [Array.toList_append]
      rw [← hlen]
      exact List.take_left
  cases h with
  | nil =>
    rcases Nat.eq_zero_or_pos m with h0 | h0
    · subst h0
      refine ⟨.slice none 0 0, [], w, ?_, .nil, hs, Nat.le_refl _, fun _ _ _ => rfl, fun q hq => by cases hq⟩
      have hw0 : IntKind.i64.wrap 0 = 0 := by decide
      simp [Builtin.append_, run_underlying ht, run_underlying hu, sizeOf, typeInfo, hi, asInt, asIntOf, hsz, hw0]
    · simp only [Nat.zero_add] at *
      have hr := run_appz_nil (P := P) (w := w) T U ty E i z ht hu hi hz hsz m h0 (by omega) (by omega)
      obtain ⟨c1, c2⟩ := cells 0 [] (by simp)
      simp only [List.nil_append, Array.empty_append] at c1 c2
      refine ⟨_, [(w.heap.size, .cells (Builtin.zeroCells z.cells m ++ Builtin.zeroCells z.cells (grownCap w m 0 E - m)) E (0, 0))], _, hr, .own (grownCap_ge w m 0 E) (grownCap_le_maxLen w m 0 E h63) c1 c2 (by simp), ?_, ?_, fun b hb _ => alike _ b hb, fun q hq => ?_⟩
      · exact St.lay (w := w) hs (fresh _) (World.alloc_heap_new w.drew _) (Nat.le_refl _) (alike _)
      · rw [World.size_alloc]; exact Nat.le_succ _
      · obtain rfl : q = _ := by simpa using hq
        exact .inl (Nat.le_refl _)
  | @own g _ cap cur _ hn hmx hc htk hlx =>
    obtain ⟨hg1, hg2⟩ := hs.own (g, .cells cur E (0, 0)) (List.mem_append_right _ (by simp))
    by_cases hroom : n + m ≤ cap
    · have hfit : n + m ≤ cur.size := by omega
      have hr := run_appz_room (P := P) (w := w) T U ty E i z ht hu hi hz hsz hzc h1 g n cap cur hg2 m (by omega) (by omega) hroom hfit
      refine ⟨_, [(g, .cells (cur.toList.take n ++ List.replicate m z ++ cur.toList.drop (n + m)).toArray E (0, 0))], _, hr, .own hroom hmx ?_ ?_ (by rw [List.length_append, hlx, List.length_replicate]; omega), ?_, ?_, fun b hb hk => ?_, fun q hq => ?_⟩
      · simp only [List.size_toArray, List.length_append, List.length_take, List.length_drop, Array.length_toList, List.length_replicate]
        omega
      · rw [Nat.mul_one] at htk
        rw [htk, ← show (xs ++ List.replicate m z).length = (n + m) * 1 by rw [List.length_append, hlx, List.length_replicate]; omega]
        exact List.take_left
      · refine St.swap (w := w) hs (hs.bel.trans ⟨rfl, rfl, rfl, by simp, fun k hk hS => setRow_other w g k _ (fun e => ?_)⟩) (setRow_heap w g cur _ E _ hg2) hg1 (.inl rfl) (fun k _ hk => setRow_other w g k _ hk)
        subst e
        rcases hg1 with hg1 | hg1
        · exact absurd hk (by have : w0.heap.size ≤ k := hg1; omega)
        · exact hS hg1
      · simp
      · exact setRow_other w g b _ (fun e => hk (by simp [e]))
      · obtain rfl : q = _ := by simpa using hq
        exact .inr (by simp)
    · have hlx' : xs.length = n := by omega
      have holds : ∀ j u, xs[j]? = some u → w.cell? ((⟨g, 0, none⟩ : Addr).add j) = some u := fun j u hu => by
        rw [addr_add, Nat.zero_add, cell_of hg2]
        rw [← htk, List.getElem?_take] at hu
        split at hu
        · simpa using hu
        · cases hu
      have hr := run_appz_grow (P := P) (w := w) T U ty E i z ht hu hi hz hsz ⟨g, 0, none⟩ n cap xs hlx' holds m (by omega) (by omega) (by omega) (by omega) (growslice_fits (by omega) hbytes)
      obtain ⟨c1, c2⟩ := cells cap xs hlx'
      refine ⟨_, [(w.heap.size, .cells (xs.toArray ++ Builtin.zeroCells z.cells m ++ Builtin.zeroCells z.cells (grownCap w (n + m) cap E - (n + m))) E (0, 0))], _, hr, .own (grownCap_ge w (n + m) cap E) (grownCap_le_maxLen w (n + m) cap E h63) c1 c2 (by rw [List.length_append, hlx', List.length_replicate]; omega), ?_, ?_, fun b hb _ => alike _ b hb, fun q hq => ?_⟩
      · exact St.swap (w := w) hs (fresh _) (World.alloc_heap_new w.drew _) (.inl hs.bel.size) (.inr (Nat.le_refl _)) (fun k hk _ => alike _ k hk)
      · rw [World.size_alloc]; exact Nat.le_succ _
      · obtain rfl : q = _ := by simpa using hq
        exact .inl (Nat.le_refl _)
section lw
variable {C : Cu} {ops : Array Oper} {Q : Post} {rest : List Oper} {e : Env} {fs : Fs} {d : Nat} {t : TypeId} {pos : String} {af : Array Edge}
/-- **append(s, make([]T, x)...)**. -/
theorem LW.appendZ {s x : Operand} {tys : Array TypeId} {T U E bytes : TypeId} {z v : Value} {n m : Nat} {xs : List Value} {seg pre post : Fs} (hd : Nat.blt d C.N = true) (hT : tys = #[T, U]) (hU : UnI C.P T (.slice E)) (hU2 : UnI C.P U (.int .i64)) (hI : InfoI C.P E 1 z) (hB : BytI C.P E bytes)
    (hz : z.cells = #[z]) (h1 : z.oneCell' = true) (hs : e.ev s = some v) (hx : e.ev x = some (.int .i64 (m : Int))) (hseg : AtSeg fs pre seg post) (hrow : IsRow E 1 v n xs seg) (h63 : n + m ≤ maxLen) (hb : (n + m) * bytes ≤ 140737488355328)
    (k : ∀ v' seg', IsRow E 1 v' (n + m) (xs ++ List.replicate m z) seg' → ∃ fs', AtSeg fs' pre seg' post ∧ LW C ops Q rest ((d, v') :: e) fs') :
    LW C ops Q (⟨some d, .call { callee := .builtin .append, args := #[s, x], argTypes := tys }, t, pos, af, none⟩ :: rest) e fs := fun a w hsat => by
  subst hT
  obtain ⟨i, i1, i2, i3, i4⟩ := info_all (P := C.P) (T := E)
  have hst := hsat.st
  rw [hseg.eq] at hst
  obtain ⟨v', seg', w', hr, hrow', hw', _⟩ := row_appz (P := C.P) (ty := t) hU.un hU2.un i1 i3 i2 hz h1 hrow hst m h63 (by rw [i4]; exact hb)
  obtain ⟨fs', hat', hK⟩ := k v' seg' hrow'
  have hrun : (execOp a.eval ⟨some d, .call { callee := .builtin .append, args := #[s, x], argTypes := #[T, U] }, t, pos, af, none⟩).run C.P w = .ok (.value v') w' := by
    simp [execOp, resolve, invoke, builtin, hsat.env.ev hs, hsat.env.ev hx, hr]
  refine wpListIn_take (wanted_none _ rfl _) ⟨fun _ _ => trivial, ?_⟩
  rw [semAt_FR (fun c h => by cases h), hrun]
  exact hK _ _ ⟨hsat.env.put hd, by rw [hat'.eq]; exact hw'⟩
end lw
section dw
variable {C : Cu} {ops : Array Oper} {Q : Post} {tl rest : List Oper} {e : Env} {ts : Ts} {μ : Mu} {k d : Nat} {t : TypeId} {pos : String} {af : Array Edge} {g : Option (Nat × Bool)}
/-- **append(s, make([]T, x)...)** in whatever order. -/
theorem DW.appendZ {s x : Operand} {tys : Array TypeId} {T U E bytes n m : Nat} {z v : Value} {xs : List Value} {seg : Fs} {ws rs : List Nat} {ts1 : Ts}
    (hk : ops[k]? = some ⟨some d, .call { callee := .builtin .append, args := #[s, x], argTypes := tys }, t, pos, af, g⟩) (hm : μ k = some (cst fun v' gs => IsRow E 1 v' (n + m) (xs ++ List.replicate m z) gs, (false : Fl))) (hd : Nat.blt d C.N = true) (hg : WantT ops e g)
    (hT : tys = #[T, U]) (hU : UnI C.P T (.slice E)) (hU2 : UnI C.P U (.int .i64)) (hI : InfoI C.P E 1 z) (hB : BytI C.P E bytes) (hz : z.cells = #[z]) (h1 : z.oneCell' = true) (hs : e.ev s = some v) (hx : e.ev x = some (.int .i64 (m : Int)))
    (hrow : IsRow E 1 v n xs seg) (h0 : v = .slice none 0 0 ∨ 0 < n) (hout : TOut ops k ts seg ws rs ts1) (h63 : n + m ≤ maxLen) (hb : (n + m) * bytes ≤ 140737488355328)
    (kk : ∀ v' seg', IsRow E 1 v' (n + m) (xs ++ List.replicate m z) seg' → DW C ops μ Q tl rest (k + 1) ((d, v') :: e) (tsTag (k :: ws) (k :: rs) seg' ++ ts1)) :
    DW C ops μ Q tl (⟨some d, .call { callee := .builtin .append, args := #[s, x], argTypes := tys }, t, pos, af, g⟩ :: rest) k e ts := by
  subst hT
  refine DW.appendG hk hm hd hg hs hx (hrow.blocks h0) hout (RdV.plain rfl .nil) (fun w hst hus => ?_) kk
  obtain ⟨i, i1, i2, i3, i4⟩ := info_all (P := C.P) (T := E)
  obtain ⟨v', seg', w', hr, hrow', hst', g1, g2, g3⟩ := row_appz (P := C.P) (ty := t) (pre := []) (post := []) hU.un hU2.un i1 i3 i2 hz h1 hrow (by simpa using hst) m h63 (by rw [i4]; exact hb)
  simp only [List.nil_append, List.append_nil] at hst'
  exact ⟨v', seg', w', hr, hrow', hst', g1, g2, g3⟩
end dw
end Go.Proofs.YtpgdnfgjbhdbpaaGreatDoor.SL

/-
  A SMALL LOGIC OVER THE KIT's WALK, PART MK: cuts with two bounds.
  Conditions: none; over any program.
-/
namespace Go.Proofs.YtpgdnfgjbhdbpaaGreatDoor
open Go Go.RowKit
namespace SL
section cut
variable {P : Program} {e : Env} {T E : TypeId} {x lo hi : Operand} {p : Option Addr} {n c : Nat}
end cut
theorem RowAt.mid {w : World} {sz n c i j : Nat} {p : Option Addr} {xs : List Value} (h : RowAt w sz (.slice p n c) n xs) (hij : i ≤ j) (hj : j ≤ n) : RowAt w sz (cutAt p i j c sz) (j - i) ((xs.drop (i * sz)).take ((j - i) * sz)) := by
  have := (h.take hj).drop hij
  rwa [List.drop_take, ← Nat.sub_mul] at this
section xb
variable {P : Program} {e : Env} {T ty : TypeId} {x y : Operand} {m n : Nat}
end xb
end SL
end Go.Proofs.YtpgdnfgjbhdbpaaGreatDoor

/-
  A SMALL LOGIC OVER THE KIT's WALK, PART ML: max of four; what is behind a row of operations told once.
  Conditions: none; over any program.
-/
namespace Go.Proofs.YtpgdnfgjbhdbpaaGreatDoor.SL
set_option linter.unusedVariables false
set_option linter.unusedSimpArgs false
open Go Go.RowKit
section mm
variable {P : Program} {e : Env} {ik : IntKind} {m n k l : Nat} {x y z u : Operand} {tys : Array TypeId}
end mm
theorem oper_mono {F : Fence} {n : Nat} {P : Program} {o : Oper} {a : Act} {w : World} {K K' : Act → World → Prop} {Q Q' : Exit → Act → World → Prop} (h : ∀ a w, K a w → K' a w) (hq : ∀ x a w, Q x a w → Q' x a w)
    (hh : o.wpIn F n P a w K Q) : o.wpIn F n P a w K' Q' := by
  unfold Oper.wpIn at *
  refine ⟨hh.1, ?_⟩
  have hh := hh.2
  generalize (o.semAt F.round a.eval).run P w = r at *
  have hl : LetsOut Q → LetsOut Q' := fun ⟨a, w, h⟩ => ⟨a, w, hq _ _ _ h⟩
  cases r with
  | ok x w' =>
    cases x <;> simp only [Oper.uponIn] at hh ⊢ <;>
      first
        | exact h _ _ hh
        | exact ⟨hh.1, CallsIn.mono hh.2 (fun e w'' he => by cases e <;> first | exact h _ _ he | exact hq _ _ _ he | exact hl he)⟩
        | exact ⟨hh.1, RowsIn.mono hh.2 (fun _ _ he => h _ _ he)⟩
        | exact ⟨hh.1, RoundIn.mono hh.2 (fun e w'' he => by cases e <;> first | exact h _ _ he | exact hq _ _ _ he | exact hl he)⟩
  | halt x w' => cases x <;> simp only [Oper.uponIn] at hh ⊢ <;> first | exact hh | exact hq _ _ _ hh | exact hl hh
theorem wpList_mono {F : Fence} {n : Nat} {P : Program} {ops : Array Oper} {Q Q' : Exit → Act → World → Prop} (hq : ∀ x a w, Q x a w → Q' x a w) : ∀ (l : List Oper) (a : Act) (w : World), wpListIn F n P ops Q l a w → wpListIn F n P ops Q' l a w
  | [], a, w, h => hq _ _ _ h
  | o :: rest, a, w, h => by
    unfold wpListIn at h ⊢
    split
    · rename_i hw
      rw [if_pos hw] at h
      exact oper_mono (fun a w h => wpList_mono hq rest a w h) hq h
    · rename_i hw
      rw [if_neg hw] at h
      exact ⟨h.1, wpList_mono hq rest _ _ h.2⟩
theorem LW.mono {C : Cu} {ops : Array Oper} {Q Q' : Post} {l : List Oper} {e : Env} {fs : Fs} (hq : ∀ x ds e fs, Q x ds e fs → Q' x ds e fs) (h : LW C ops Q l e fs) : LW C ops Q' l e fs :=
  fun a w hs => wpList_mono (fun x _ _ ⟨ds, e, fs, q, s⟩ => ⟨ds, e, fs, hq x ds e fs q, s⟩) l a w (h a w hs)
/-- All that is behind is told once, from less that is known. -/
theorem LW.cut {C : Cu} {ops : Array Oper} {l : List Oper} {y : Code} {Q Q' : Post} {e : Env} {fs : Fs} (e1 : Env) (fs1 : Fs) (k : CW C y Q e1 fs1) (h : LW C ops (thenQ (cutQ C e1 fs1) Q') l e fs) : LW C ops (thenQ (thenC C y Q) Q') l e fs :=
  LW.mono (fun x ds e fs hx => by
    cases x with
    | normal => obtain ⟨rfl, h2, h3⟩ := hx; exact CW.weak (C := C) e1 fs1 h2 h3 k
    | _ => exact hx) h
/-! ### Guards and tests that are not known: both ways -/
section gc
variable {C : Cu} {ops : Array Oper} {Q : Post} {rest : List Oper} {e : Env} {fs : Fs} {d : Nat} {op : Op} {t : TypeId} {pos : String} {af : Array Edge} {j s : Nat} {b : Bool} {p : Prop} [Decidable p]
theorem LW.guardCT (hs : (ops[j]?).bind (·.dst) = some s) (he : e.get s = some (.bool b)) (hd : Nat.blt d C.N = true) (h1 : b = true → LW C ops Q (⟨some d, op, t, pos, af, none⟩ :: rest) e fs) (h2 : b = false → LW C ops Q rest ((d, undef) :: e) fs) :
    LW C ops Q (⟨some d, op, t, pos, af, some (j, true)⟩ :: rest) e fs := by
  cases b with
  | true => exact LW.guardT hs he (h1 rfl)
  | false => exact LW.guardF hs he hd (h2 rfl)
theorem LW.guardCF (hs : (ops[j]?).bind (·.dst) = some s) (he : e.get s = some (.bool b)) (hd : Nat.blt d C.N = true) (h1 : b = false → LW C ops Q (⟨some d, op, t, pos, af, none⟩ :: rest) e fs) (h2 : b = true → LW C ops Q rest ((d, undef) :: e) fs) :
    LW C ops Q (⟨some d, op, t, pos, af, some (j, false)⟩ :: rest) e fs := by
  cases b with
  | true => exact LW.guardF hs he hd (h2 rfl)
  | false => exact LW.guardT hs he (h1 rfl)
theorem LW.guardDT (hs : (ops[j]?).bind (·.dst) = some s) (he : e.get s = some (.bool (decide p))) (hd : Nat.blt d C.N = true) (h1 : p → decide p = true → LW C ops Q (⟨some d, op, t, pos, af, none⟩ :: rest) e fs) (h2 : ¬ p → decide p = false → LW C ops Q rest ((d, undef) :: e) fs) :
    LW C ops Q (⟨some d, op, t, pos, af, some (j, true)⟩ :: rest) e fs :=
  LW.guardCT hs he hd (fun h => h1 (of_decide_eq_true h) h) (fun h => h2 (of_decide_eq_false h) h)
theorem LW.guardDF (hs : (ops[j]?).bind (·.dst) = some s) (he : e.get s = some (.bool (decide p))) (hd : Nat.blt d C.N = true) (h1 : ¬ p → decide p = false → LW C ops Q (⟨some d, op, t, pos, af, none⟩ :: rest) e fs) (h2 : p → decide p = true → LW C ops Q rest ((d, undef) :: e) fs) :
    LW C ops Q (⟨some d, op, t, pos, af, some (j, false)⟩ :: rest) e fs :=
  LW.guardCF hs he hd (fun h => h1 (of_decide_eq_false h) h) (fun h => h2 (of_decide_eq_true h) h)
variable {c : Operand} {x y : Code}
theorem CW.condN (hc : e.ev c = some (.bool (!decide p))) (ht : ¬ p → (!decide p) = true → CW C x Q e fs) (hf : p → (!decide p) = false → CW C y Q e fs) : CW C (.cond c x y) Q e fs :=
  CW.cond hc (fun h => ht (by simpa using h) h) (fun h => hf (by simpa using h) h)
theorem getB {k : Nat} {b b' : Bool} (h : e.get k = some (.bool b)) (hb : b = b') : e.get k = some (.bool b') := by rw [h, hb]
end gc
end Go.Proofs.YtpgdnfgjbhdbpaaGreatDoor.SL

/-
  A SMALL LOGIC OVER THE KIT's WALK, PART MM: append in a region that draws its order, of what is known only there.
  Conditions: none; over any program.
-/
namespace Go.Proofs.YtpgdnfgjbhdbpaaGreatDoor.SL
set_option linter.unusedVariables false
set_option linter.unusedSimpArgs false
open Go Go.RowKit
section dw
variable {C : Cu} {ops : Array Oper} {Q : Post} {tl rest : List Oper} {e : Env} {ts : Ts} {μ : Mu} {k d : Nat} {t : TypeId} {pos : String} {af : Array Edge} {g : Option (Nat × Bool)}
end dw
end Go.Proofs.YtpgdnfgjbhdbpaaGreatDoor.SL

/-
  A SMALL LOGIC OVER THE KIT's WALK, PART MN: structs of plain cells, compared with themselves.
  Conditions: none; over any program.
-/
namespace Go.Proofs.YtpgdnfgjbhdbpaaGreatDoor.SL
set_option linter.unusedVariables false
set_option linter.unusedSimpArgs false
open Go Go.RowKit
section
variable {P : Program} {e : Env} {T ty : TypeId} {x y : Operand} {xs : Array Value}
end
end Go.Proofs.YtpgdnfgjbhdbpaaGreatDoor.SL

/-
  A SMALL LOGIC OVER THE KIT's WALK, PART MO: a region that draws its order, and whose operations and callees turn nothing: one walk.
  Conditions: none; over any program.
-/
namespace Go.Proofs.YtpgdnfgjbhdbpaaGreatDoor.SL
set_option linter.unusedVariables false
set_option linter.unusedSimpArgs false
open Go Go.RowKit
/-- From all that is known here, the quiet operations come to Q. -/
def QW (C : Cu) (ops : Array Oper) (Q : Post) (l : List Oper) (e : Env) (fs : Fs) : Prop :=
  ∀ a, EnvOk C.N C.ds e a → wpQuietIn (FR C.r) 0 C.P ops (fun w => St C.w0 C.S fs w) (fun a' => ∀ w', St C.w0 C.S fs w' → down C Q .normal a' w') l a
theorem CW.quiet {C : Cu} {id : Nat} {l : List Oper} {Q : Post} {e : Env} {fs : Fs} (hr : C.r = none) (hm : C.P.follows .mixedOrders = true) (hB : Region.lexB .any l.toArray = true) (h : QW C l.toArray Q l e fs) : CW C (.region id l.toArray true) Q e fs := fun a w hs =>
  wpIn_region_quiet (C := fun w => St C.w0 C.S fs w) hr hm hB ⟨hs.st.bel.drew, hs.st.own, hs.st.nd⟩ (by simpa using h a hs.env)
section
variable {C : Cu} {ops : Array Oper} {Q : Post} {rest : List Oper} {e : Env} {fs : Fs} {d : Nat} {op : Op} {t : TypeId} {pos : String} {af : Array Edge} {g : Option (Nat × Bool)}
theorem QW.nil (h : Q .normal C.ds e fs) : QW C ops Q [] e fs := fun a ha w' hw => ⟨C.ds, e, fs, h, ⟨ha, hw⟩⟩
theorem QW.vk {v : Value} {us : Fs} (hd : Nat.blt d C.N = true) (hg : WantT ops e g) (h : ValP C.P e us op v) (hus : ∀ p ∈ us, Known C fs p) (k : QW C ops Q rest ((d, v) :: e) fs) : QW C ops Q (⟨some d, op, t, pos, af, g⟩ :: rest) e fs := fun a ha =>
  ⟨fun _ _ _ _ => trivial, by
    rw [if_pos (hg.wanted ha)]
    refine ⟨v, fun w hw => ?_, k _ (ha.put hd)⟩
    unfold Oper.quietAtIn
    rw [h a.eval w ha.Ev (fun p hp => (hus p hp).get hw)]
    exact ⟨rfl, rfl⟩⟩
theorem QW.v0 {v : Value} (hd : Nat.blt d C.N = true) (hg : WantT ops e g) (h : ValP C.P e [] op v) (k : QW C ops Q rest ((d, v) :: e) fs) : QW C ops Q (⟨some d, op, t, pos, af, g⟩ :: rest) e fs :=
  QW.vk hd hg h (by simp) k
theorem QW.load {T : TypeId} {x : Operand} {b off : Nat} {o : Obj} {v : Value} (hd : Nat.blt d C.N = true) (hg : WantT ops e g) (hx : e.ev x = some (.pointer (some ⟨b, off, none⟩))) (hp : Known C fs (b, o)) (h : Rd C.P T o off v) (k : QW C ops Q rest ((d, v) :: e) fs) :
    QW C ops Q (⟨some d, .load T x, t, pos, af, g⟩ :: rest) e fs := QW.vk hd hg (.load hx h) (by simpa using hp) k
theorem QW.skip {j s : Nat} {gb b : Bool} (hd : Nat.blt d C.N = true) (hs : (ops[j]?).bind (·.dst) = some s) (he : e.get s = some (.bool b)) (hb : b = !gb) (k : QW C ops Q rest ((d, undef) :: e) fs) : QW C ops Q (⟨some d, op, t, pos, af, some (j, gb)⟩ :: rest) e fs := fun a ha =>
  ⟨fun _ _ _ _ => trivial, by
    have hy : yielded ops a.tmps j = some (!gb) := by simp [yielded, hs, ha.get s _ he, hb]
    rw [if_neg (by cases gb <;> simp [Region.wanted, hy])]
    exact k _ (ha.put hd)⟩
theorem QW.callE {fo : Operand} {args : Array Operand} {tys : Array TypeId} {f : FuncId} {vs : List Value} {v : Value} (hd : Nat.blt d C.N = true) (hg : WantT ops e g) (hf : e.ev fo = some (.func (.func f) #[] #[])) (hF : FnI C.P f) (ha : ArgsOk e args.toList vs)
    (hc : ∀ w, St C.w0 C.S fs w → Calls C.P f vs.toArray w (Ret w v)) (k : QW C ops Q rest ((d, v) :: e) fs) : QW C ops Q (⟨some d, .call { callee := .value fo, args := args, argTypes := tys }, t, pos, af, g⟩ :: rest) e fs := fun a hae =>
  ⟨fun _ _ _ _ => trivial, by
    rw [if_pos (hg.wanted hae)]
    refine ⟨v, fun w hw => ?_, k _ (hae.put hd)⟩
    unfold Oper.quietAtIn
    have hrun := CallP.fn (P := C.P) (tys := tys) hf ha a.eval w hae.Ev (some d) t pos af g
    rw [hrun, arr_id]
    refine ⟨rfl, fun h => (by cases h), CallsIn.mono (calls_FR (hc w hw)) fun x w' hx => ?_⟩
    exact ⟨hx.1, by have := hw.call (gs := []) hx.2 (by simp) .nil; simpa using this⟩⟩
end
end Go.Proofs.YtpgdnfgjbhdbpaaGreatDoor.SL

/-
  A SMALL LOGIC OVER THE KIT's WALK, PART MP: parts of arrays.
  Conditions: none; over any program.
-/
namespace Go.Proofs.YtpgdnfgjbhdbpaaGreatDoor.SL
set_option linter.unusedVariables false
set_option linter.unusedSimpArgs false
open Go Go.RowKit
end Go.Proofs.YtpgdnfgjbhdbpaaGreatDoor.SL

/-
  A SMALL LOGIC OVER THE KIT's WALK, PART MQ: calls in a region that draws its order, which are handed rows of ours, or structs that hold such.
  Conditions: none; over any program.
-/
namespace Go.Proofs.YtpgdnfgjbhdbpaaGreatDoor.SL
set_option linter.unusedVariables false
set_option linter.unusedSimpArgs false
open Go Go.RowKit
/-- The same facts, with more readers told. -/
inductive More : Ts → Ts → Prop
  | nil : More [] []
  | cons {b : Nat} {o : Obj} {ws rs rs' : List Nat} {r r' : Ts} (h : ∀ j ∈ rs, j ∈ rs') (hr : More r r') : More ((b, o, ws, rs) :: r) ((b, o, ws, rs') :: r')
theorem More.refl : ∀ (ts : Ts), More ts ts
  | [] => .nil
  | (_, _, _, _) :: r => .cons (fun _ h => h) (More.refl r)
theorem More.trans {a b c : Ts} (h : More a b) : More b c → More a c := by
  intro h2
  induction h generalizing c with
  | nil => exact h2
  | cons h _ ih =>
    cases h2 with
    | cons h' hr' => exact .cons (fun j hj => h' j (h j hj)) (ih hr')
theorem More.app {a b c d : Ts} (h : More a b) (h' : More c d) : More (a ++ c) (b ++ d) := by
  induction h with
  | nil => exact h'
  | cons h _ ih => exact .cons h ih
theorem More.tag (ws rs rs' : List Nat) (h : ∀ j ∈ rs, j ∈ rs') : ∀ (gs : Fs), More (tsTag ws rs gs) (tsTag ws rs' gs)
  | [] => .nil
  | (_, _) :: r => .cons h (More.tag ws rs rs' h r)
theorem More.mem {a b : Ts} (h : More a b) : ∀ p ∈ b, ∃ q ∈ a, q.1 = p.1 ∧ q.2.1 = p.2.1 ∧ q.2.2.1 = p.2.2.1 ∧ ∀ j ∈ q.2.2.2, j ∈ p.2.2.2 := by
  induction h with
  | nil => intro p hp; cases hp
  | cons h _ ih =>
    intro p hp
    rcases List.mem_cons.1 hp with rfl | hp
    · exact ⟨_, List.mem_cons_self, rfl, rfl, rfl, h⟩
    · obtain ⟨q, hq, h2⟩ := ih p hp
      exact ⟨q, List.mem_cons_of_mem _ hq, h2⟩
theorem More.fsts {a b : Ts} (h : More a b) : b.map (·.1) = a.map (·.1) := by
  induction h with
  | nil => rfl
  | cons _ _ ih => simp [ih]
theorem Rel.more {B : Nat} {ts ts' : Ts} {φ : Facts} {tw tr : Tag} (hr : Rel B ts φ tw tr) (h : More ts ts') : Rel B ts' φ tw tr := by
  refine ⟨fun p hp => ?_, fun p hp j hj => ?_, fun p hp j hj => ?_, hr.old, hr.oldr, pairwise_map1 h.fsts hr.nd⟩
  · obtain ⟨q, hq, e1, e2, _, _⟩ := h.mem p hp; rw [← e1, ← e2]; exact hr.fsome q hq
  · obtain ⟨q, hq, e1, _, e3, _⟩ := h.mem p hp; rw [← e3]; exact hr.ftw q hq j (by rw [e1]; exact hj)
  · obtain ⟨q, hq, e1, _, _, e4⟩ := h.mem p hp; exact e4 j (hr.ftr q hq j (by rw [e1]; exact hj))
theorem DW.more {C : Cu} {ops : Array Oper} {μ : Mu} {Q : Post} {tl l : List Oper} {k : Nat} {e : Env} {ts ts' : Ts} (hm : More ts ts') (h : DW C ops μ Q tl l k e ts') : DW C ops μ Q tl l k e ts := fun a φ tw tr ha hrel hinv => h a φ tw tr ha (hrel.more hm) hinv
section
variable {C : Cu} {ops : Array Oper} {k : Nat}
theorem TRead.less {ts1 ts2 : Ts} {b : Nat} {o : Obj} (h : TRead ops k ts1 b o ts2) : ∀ {ts : Ts}, More ts ts1 → ∃ ts2', TRead ops k ts b o ts2' ∧ More ts2' ts2 := by
  induction h with
  | head hw =>
    intro ts hm
    cases hm with
    | cons hj hr => exact ⟨_, .head hw, .cons (fun j h => by
        rcases List.mem_cons.1 h with rfl | h
        · exact List.mem_cons_self
        · exact List.mem_cons_of_mem _ (hj j h)) hr⟩
  | tail _ ih =>
    intro ts hm
    cases hm with
    | cons hj hr =>
      obtain ⟨t, h1, h2⟩ := ih hr
      exact ⟨_, .tail h1, .cons hj h2⟩
theorem ReadAll.less {bs : List Nat} {ts1 ts2 : Ts} {us : Fs} (h : ReadAll C ops k bs ts1 us ts2) : ∀ {ts : Ts}, More ts ts1 → ∃ ts2', ReadAll C ops k bs ts us ts2' ∧ More ts2' ts2 := by
  induction h with
  | nil => intro ts hm; exact ⟨_, .nil, hm⟩
  | own h _ ih =>
    intro ts hm
    obtain ⟨t, h1, h2⟩ := h.less hm
    obtain ⟨t2, h3, h4⟩ := ih h2
    exact ⟨t2, .own h1 h3, h4⟩
  | ext h hS _ ih =>
    intro ts hm
    obtain ⟨t2, h3, h4⟩ := ih hm
    exact ⟨t2, .ext h hS h3, h4⟩
/-- Where a row's facts lie; they are marked as read. -/
inductive TSeg (ops : Array Oper) (k : Nat) (seg : Fs) : Ts → Ts → Prop
  | tag {ws rs : List Nat} {r : Ts} (h : ancB ops k ws = true) : TSeg ops k seg (tsTag ws rs seg ++ r) (tsTag ws (k :: rs) seg ++ r)
  | old {r : Ts} : TSeg ops k seg (tsOf seg ++ r) (tsTag [] [k] seg ++ r)
  | new {j : Nat} {r : Ts} (h : ancB ops k [j] = true) : TSeg ops k seg (tsNew j seg ++ r) (tsTag [j] [k] seg ++ r)
  | one {b : Nat} {o : Obj} {ws rs : List Nat} {r : Ts} (hs : seg = [(b, o)]) (h : ancB ops k ws = true) : TSeg ops k seg ((b, o, ws, rs) :: r) ((b, o, ws, k :: rs) :: r)
  | cons {p : Nat × Obj × List Nat × List Nat} {r r' : Ts} (h : TSeg ops k seg r r') : TSeg ops k seg (p :: r) (p :: r')
  | app {l r r' : Ts} (h : TSeg ops k seg r r') : TSeg ops k seg (l ++ r) (l ++ r')
theorem TSeg.more {seg : Fs} {ts ts' : Ts} (h : TSeg ops k seg ts ts') : More ts ts' := by
  induction h with
  | tag _ => exact .app (.tag _ _ _ (fun j h => List.mem_cons_of_mem _ h) _) (.refl _)
  | old => exact .app (.tag [] [] [k] (fun j h => by cases h) _) (.refl _)
  | new _ => exact .app (.tag _ [] [k] (fun j h => by cases h) _) (.refl _)
  | one _ _ => exact .cons (fun j h => List.mem_cons_of_mem _ h) (.refl _)
  | cons _ ih => exact More.app (.refl [_]) ih
  | app _ ih => exact .app (.refl _) ih
theorem TRead.app' {l : Ts} {ts ts' : Ts} {b : Nat} {o : Obj} (h : TRead ops k ts b o ts') : TRead ops k (l ++ ts) b o (l ++ ts') := by
  induction l with
  | nil => exact h
  | cons p l ih => exact .tail ih
theorem TSeg.read {b : Nat} {o : Obj} {ts ts' : Ts} {seg : Fs} (h : TSeg ops k seg ts ts') (hs : seg = [(b, o)]) : TRead ops k ts b o ts' := by
  induction h with
  | tag h => subst hs; exact .head h
  | old => subst hs; exact .head rfl
  | new h => subst hs; exact .head h
  | one hs' h =>
    rw [hs] at hs'
    cases hs'
    exact .head h
  | cons _ ih => exact .tail ih
  | app _ ih => exact ih.app'
/-- What a call's operands name is looked at; K: what is known then. -/
inductive RdR (C : Cu) (ops : Array Oper) (k : Nat) : List Value → Ts → (World → Prop) → Ts → Prop
  | nil {ts : Ts} : RdR C ops k [] ts (fun _ => True) ts
  | plain {v : Value} {vs : List Value} {ts ts2 : Ts} {K : World → Prop} (hb : blocksN 4 v = []) (h : RdR C ops k vs ts K ts2) : RdR C ops k (v :: vs) ts K ts2
  | flat {v : Value} {us vs : List Value} {ts ts2 : Ts} {K : World → Prop} (hb : blocksN 4 v = us.flatMap (blocksN 4)) (h : RdR C ops k (us ++ vs) ts K ts2) : RdR C ops k (v :: vs) ts K ts2
  | row {E sz n : Nat} {v : Value} {xs : List Value} {seg : Fs} {vs : List Value} {ts ts1 ts2 : Ts} {K : World → Prop} (h : IsRow E sz v n xs seg) (hs : TSeg ops k seg ts ts1) (hr : RdR C ops k vs ts1 K ts2) : RdR C ops k (v :: vs) ts (fun w => RowAt w sz v n xs ∧ K w) ts2
  | ext {v : Value} {n sz : Nat} {xs : List Value} {vs : List Value} {ts ts2 : Ts} {K : World → Prop} (h : RowAt C.w0 sz v n xs) (hS : C.S = []) (hs : RdR C ops k vs ts K ts2) : RdR C ops k (v :: vs) ts (fun w => RowAt w sz v n xs ∧ K w) ts2
theorem RdR.all {vs : List Value} {ts ts' : Ts} {K : World → Prop} (h : RdR C ops k vs ts K ts') : ∃ us ts3, ReadAll C ops k (vs.flatMap (blocksN 4)) ts us ts3 ∧ More ts3 ts' ∧ ∀ w, Bel C.w0.heap.size C.S C.w0 w → (∀ p ∈ us, w.heap[p.1]? = some p.2) → K w := by
  induction h with
  | nil => exact ⟨[], _, .nil, .refl _, fun _ _ _ => trivial⟩
  | plain hb _ ih =>
    obtain ⟨us, t, h1, h2, h3⟩ := ih
    exact ⟨us, t, by rw [List.flatMap_cons, hb]; exact h1, h2, h3⟩
  | flat hb _ ih =>
    obtain ⟨us, t, h1, h2, h3⟩ := ih
    exact ⟨us, t, by rw [List.flatMap_cons, hb, ← List.flatMap_append]; exact h1, h2, h3⟩
  | @row E sz n v xs seg vs ts ts1 ts2 K h hs hr ih =>
    obtain ⟨us, t, h1, h2, h3⟩ := ih
    have skip : blocksN 4 v = [] → (∀ w, RowAt w sz v n xs) → ∃ us ts3, ReadAll C ops k ((v :: vs).flatMap (blocksN 4)) ts us ts3 ∧ More ts3 ts2 ∧ ∀ w, Bel C.w0.heap.size C.S C.w0 w → (∀ p ∈ us, w.heap[p.1]? = some p.2) → RowAt w sz v n xs ∧ K w := fun e hw => by
      obtain ⟨t2, h4, h5⟩ := h1.less hs.more
      exact ⟨us, t2, by rw [List.flatMap_cons, e]; exact h4, h5.trans h2, fun w hb hu => ⟨hw w, h3 w hb hu⟩⟩
    cases h with
    | nil => exact skip rfl fun _ => .nil
    | @own g _ cap cur _ hn hm hc ht hl =>
      rcases Nat.eq_zero_or_pos cap with hc0 | hc0
      · subst hc0
        obtain rfl : n = 0 := by omega
        exact skip (by simp [blocksN]) fun w => ⟨⟨_, _, rfl, hn, hm⟩, hl, fun h => absurd h (by omega), fun p k d hv => by cases hv; exact .inr (.inl rfl)⟩
      · refine ⟨(g, .cells cur E (0, 0)) :: us, t, ?_, h2, fun w hb hu => ⟨?_, h3 w hb fun p hp => hu p (List.mem_cons_of_mem _ hp)⟩⟩
        · rw [List.flatMap_cons, show blocksN 4 (.slice (some ⟨g, 0, .none⟩) n cap) = [g] by simp [blocksN, Nat.ne_of_gt hc0]]
          exact .own (hs.read rfl) h1
        · exact (IsRow.own hn hm hc ht hl).us (us := [(g, .cells cur E (0, 0))]) (fun p hp => hu p (by rw [List.mem_singleton.1 hp]; exact List.mem_cons_self)) (List.Sublist.refl _)
  | @ext v n sz xs vs ts ts2 K h hS hs ih =>
    obtain ⟨us, t, h1, h2, h3⟩ := ih
    have hw : ∀ w, Bel C.w0.heap.size C.S C.w0 w → RowAt w sz v n xs := fun w hb => by rw [hS] at hb; exact h.bel hb
    obtain ⟨p, c, rfl, _, _⟩ := h.form
    rcases h.lies _ _ _ rfl with rfl | rfl | ⟨b, off, o, rfl, hb⟩
    · exact ⟨us, t, h1, h2, fun w hb hu => ⟨hw w hb, h3 w hb hu⟩⟩
    · exact ⟨us, t, by rw [List.flatMap_cons, show blocksN 4 (.slice p n 0) = [] by cases p <;> simp [blocksN]]; exact h1, h2, fun w hb hu => ⟨hw w hb, h3 w hb hu⟩⟩
    · rcases Nat.eq_zero_or_pos c with hc | hc
      · subst hc
        exact ⟨us, t, by rw [List.flatMap_cons, show blocksN 4 (.slice (some ⟨b, off, .none⟩) n 0) = [] by simp [blocksN]]; exact h1, h2, fun w hb hu => ⟨hw w hb, h3 w hb hu⟩⟩
      · refine ⟨(b, o) :: us, t, ?_, h2, fun w hb hu => ⟨hw w hb, h3 w hb fun p hp => hu p (List.mem_cons_of_mem _ hp)⟩⟩
        rw [List.flatMap_cons, show blocksN 4 (.slice (some ⟨b, off, .none⟩) n c) = [b] by simp [blocksN, Nat.ne_of_gt hc]]
        exact .ext hb (by rw [hS]; simp) h1
end
section dw
variable {C : Cu} {ops : Array Oper} {Q : Post} {tl rest : List Oper} {e : Env} {ts : Ts} {μ : Mu} {k d : Nat} {op : Op} {t : TypeId} {pos : String} {af : Array Edge} {g : Option (Nat × Bool)}
theorem More.new (j : Nat) (gs : Fs) {a b : Ts} (h : More a b) : More (tsNew j gs ++ a) (tsNew j gs ++ b) := .app (.refl _) h
end dw
end Go.Proofs.YtpgdnfgjbhdbpaaGreatDoor.SL

/-
  A SMALL LOGIC OVER THE KIT's WALK, PART MR: a text appended to bytes; room for bytes, made without noughts.
  Conditions: none; over any program.
-/
namespace Go.Proofs.YtpgdnfgjbhdbpaaGreatDoor.SL
set_option linter.unusedVariables false
set_option linter.unusedSimpArgs false
open Go Go.RowKit
section
variable {C : Cu} {ops : Array Oper} {Q : Post} {rest : List Oper} {e : Env} {fs : Fs} {d : Nat} {t : TypeId} {pos : String} {af : Array Edge}
end
end Go.Proofs.YtpgdnfgjbhdbpaaGreatDoor.SL

/-
  A SMALL LOGIC OVER THE KIT's WALK, PART MS: cap, and room made without noughts in a region that draws its order.
  Conditions: none; over any program.
-/
namespace Go.Proofs.YtpgdnfgjbhdbpaaGreatDoor.SL
set_option linter.unusedVariables false
set_option linter.unusedSimpArgs false
open Go Go.RowKit
theorem ValP.capS {P : Program} {e : Env} {T E : TypeId} {x : Operand} {tys : Array TypeId} {a : Option Addr} {n c : Nat} (hT : tys = #[T]) (hU : UnI P T (.slice E)) (hx : e.ev x = some (.slice a n c)) :
    ValP P e [] (.call { callee := .builtin .cap, args := #[x], argTypes := tys }) (.int .i64 (c : Int)) := fun ρ w hρ _ d t pos af g => by
  subst hT
  simp [execOp, resolve, invoke, builtin, hρ x _ hx, Builtin.cap_, run_un, goInt]
section dw
variable {C : Cu} {ops : Array Oper} {Q : Post} {tl rest : List Oper} {e : Env} {ts : Ts} {μ : Mu} {k d : Nat} {t : TypeId} {pos : String} {af : Array Edge} {g : Option (Nat × Bool)}
end dw
end Go.Proofs.YtpgdnfgjbhdbpaaGreatDoor.SL

/-
  A SMALL LOGIC OVER THE KIT's WALK, PART MT: how long a row may be that came in.
  Conditions: none; over any program.
-/
namespace Go.Proofs.YtpgdnfgjbhdbpaaGreatDoor.SL
set_option linter.unusedVariables false
open Go Go.RowKit Go.ChangeShapes Go.WideShapes Go.Deep
end Go.Proofs.YtpgdnfgjbhdbpaaGreatDoor.SL

/-
  A SMALL LOGIC OVER THE KIT's WALK, PART MU: calls that may panic; functions that end by a panic; deferred calls.
  Conditions: none; over any program.
-/
namespace Go.Proofs.YtpgdnfgjbhdbpaaGreatDoor.SL
set_option linter.unusedVariables false
set_option linter.unusedSimpArgs false
open Go Go.RowKit
/-! ### Calls that may panic -/
abbrev Out := Ending → Fs → Prop
/-- It returns, or panics. -/
def Out.plain (K : Out) : Prop := ∀ fs, ¬ K .outgrown fs
theorem thenP {K : List Deferred → Env → Fs → Prop} {Q : Post} {ch : List PanicEntry} {ds : List Deferred} {e : Env} {fs : Fs} (h : Q (.panic ch) ds e fs) : thenQ K Q (.panic ch) ds e fs := h
theorem blkP {id : Nat} {Q : Post} {ch : List PanicEntry} {ds : List Deferred} {e : Env} {fs : Fs} (h : Q (.panic ch) ds e fs) : blkQ id Q (.panic ch) ds e fs := h
section cp
variable {C : Cu} {ops : Array Oper} {Q : Post} {rest : List Oper} {e : Env} {fs : Fs} {d : Nat} {t : TypeId} {pos : String} {af : Array Edge}
theorem LW.callP {fo : Operand} {args : Array Operand} {tys : Array TypeId} {f : FuncId} {first cap : Array Value} {vs aas : List Value} {K : Out} (hd : Nat.blt d C.N = true)
    (hf : e.ev fo = some (.func (.func f) first cap)) (hF : FnI C.P f) (ha : ArgsOk e args.toList vs) (has : first.toList ++ vs ++ cap.toList = aas) (hpl : K.plain)
    (hc : ∀ w, St C.w0 C.S fs w → Calls C.P f aas.toArray w (fun x w' => ∃ fs', K x fs' ∧ St C.w0 C.S fs' w'))
    (k : ∀ v fs', K (.returned v) fs' → LW C ops Q rest ((d, v) :: e) fs') (kp : ∀ ch fs', K (.panicked ch) fs' → Q (.panic ch) C.ds e fs') :
    LW C ops Q (⟨some d, .call { callee := .value fo, args := args, argTypes := tys }, t, pos, af, none⟩ :: rest) e fs := fun a w hs => by
  refine wpListIn_take (wanted_none _ rfl _) ⟨fun _ _ => trivial, ?_⟩
  have hrun := CallP.fn (P := C.P) (tys := tys) hf ha a.eval w hs.env.Ev (some d) t pos af none
  rw [semAt_FR (fun c h => by cases h), hrun]
  have e1 : first ++ vs.toArray ++ cap = aas.toArray := by rw [← has]; apply Array.toList_inj.1; simp
  refine ⟨fun h => (by cases h), CallsIn.mono (calls_FR (e1 ▸ hc w hs.st)) fun x w' hx => ?_⟩
  obtain ⟨fs', hK, hst⟩ := hx
  cases x with
  | returned v => exact k v fs' hK _ _ ⟨hs.env.put hd, hst⟩
  | panicked ch => exact ⟨C.ds, e, fs', kp ch fs' hK, ⟨hs.env, hst⟩⟩
  | outgrown => exact absurd hK (hpl fs')
/-- panic(x), x an interface value. -/
theorem LW.panic {o : Option Nat} {x : Operand} {T : TypeId} {v : Value} (hx : e.ev x = some (.iface T v)) (h : Q (.panic [{ v := .iface T v, recovered := false }]) C.ds e fs) :
    LW C ops Q (⟨o, .panic x, t, pos, af, none⟩ :: rest) e fs := fun a w hs => by
  refine wpListIn_take (wanted_none _ rfl _) ⟨fun _ _ => trivial, ?_⟩
  have hrun : (execOp a.eval ⟨o, .panic x, t, pos, af, none⟩).run C.P w = .halt (.panic (.iface T v)) w := by
    have h0 : (Instr.panic (.iface T v)).run C.P w = .halt (.panic (.iface T v)) w := rfl
    simp [execOp, hs.env.ev hx, h0, Result.andThen]
  rw [semAt_FR (fun c h => by cases h), hrun]
  exact ⟨C.ds, e, fs, h, hs⟩
/-- defer f(x, ..) -/
theorem LW.defer {fo : Operand} {tys : Array TypeId} {f : FuncId} {cap : Array Value} (hr : C.r = none) (hf : e.ev fo = some (.func (.func f) #[] cap))
    (h : LW (C.at ({ target := .fn (.func f) cap, args := #[] } :: C.ds)) ops Q rest e fs) : LW C ops Q (⟨none, .defer { callee := .value fo, args := #[], argTypes := tys }, t, pos, af, none⟩ :: rest) e fs := fun a w hs => by
  refine wpListIn_take (wanted_none _ rfl _) ⟨fun _ _ => trivial, ?_⟩
  have hrun : (execOp a.eval ⟨none, .defer { callee := .value fo, args := #[], argTypes := tys }, t, pos, af, none⟩).run C.P w = .ok (.defer { target := .fn (.func f) cap, args := #[] }) w := by
    simp [execOp, resolve, Deferred.ofValue, hs.env.ev hf]
  have hro : (FR C.r).round = none := hr
  rw [hro, Oper.semAt_none, hrun]
  exact h { a with defers := { target := .fn (.func f) cap, args := #[] } :: a.defers } w ⟨⟨hs.env.size, by rw [show a.defers = C.ds from hs.env.dfr]; rfl, hs.env.get⟩, hs.st⟩
end cp
/-! ### Functions that may end by a panic -/
theorem leaves_shutP {P : Program} {w0 : World} {S : List Nat} {fn : Func} {tmps : Array Value} {R : Ending → World → Prop} {ch : List PanicEntry} {ds : List Deferred} {fs fs' : Fs} (h : Shut ds fs fs') : ∀ w, St w0 S fs w →
    (∀ w', St w0 S fs' w' → R (.panicked ch) w') → LeavesInM (FR none) 0 P fn tmps R ds (.panicking ch) w := by
  induction h with
  | nil => intro w hw hR; exact hR w hw
  | cons h _ ih =>
    intro w hw hR
    refine ⟨(fun h => by cases h), .inl ⟨_, _, rfl, run_takeDeferred (hw.own _ h.mem).2, ?_⟩⟩
    exact ih _ (hw.set h) hR
/-- The end of such a body. -/
def inP (C : Cu) (fn : Func) (K : Out) : Post := fun x ds e fs => match x with
  | .ret => ∃ vs fs', Shut ds fs fs' ∧ ResL C e fs' fn.results.toList vs ∧ K (.returned (tup vs)) fs'
  | .normal => ∃ vs fs', Shut ds fs fs' ∧ ResL C e fs' fn.results.toList vs ∧ K (.returned (tup vs)) fs'
  | .panic ch => ∃ fs', Shut ds fs fs' ∧ K (.panicked ch) fs'
  | _ => False
theorem inPI {C : Cu} {fn : Func} {K : Out} {x : Exit} {ds : List Deferred} {e : Env} {fs fs' : Fs} {rs : List ResultVar} {vs : List Value} {v : Value} (hx : x = .ret ∨ x = .normal) (hsh : Shut ds fs fs') (hr : fn.results.toList = rs) (h : ResL C e fs' rs vs) (hv : tup vs = v) (hK : K (.returned v) fs') : inP C fn K x ds e fs := by
  subst hv
  subst hr
  rcases hx with rfl | rfl
  · exact ⟨vs, fs', hsh, h, hK⟩
  · exact ⟨vs, fs', hsh, h, hK⟩
theorem inPP {C : Cu} {fn : Func} {K : Out} {ch : List PanicEntry} {ds : List Deferred} {e : Env} {fs fs' : Fs} (hsh : Shut ds fs fs') (hK : K (.panicked ch) fs') : inP C fn K (.panic ch) ds e fs := ⟨fs', hsh, hK⟩
theorem calls_inlineP {P : Program} {w0 : World} {S : List Nat} {f : FuncId} {fn : Func} {c : Code} {args : List Value} {N : Nat} {K : Out} {fs : Fs} {w : World} (hf : P.funcs[f]? = some fn) (hb : fn.body = some c) (hN : fn.ntmps = N) (hsz : Nat.ble args.length N = true)
    (h : CW ⟨P, w0, S, N, [], none⟩ c (inP ⟨P, w0, S, N, [], none⟩ fn K) (Env.ofL args 0) fs) (hw : St w0 S fs w) :
    Calls P f args.toArray w (fun x w' => ∃ fs', K x fs' ∧ St w0 S fs' w') := by
  have hs : Sat ⟨P, w0, S, N, [], none⟩ (Env.ofL args 0) fs { tmps := args.toArray ++ Array.replicate (fn.ntmps - args.toArray.size) undef, defers := [] } w := by
    refine ⟨⟨by have := Nat.le_of_ble_eq_true hsz; simp [hN]; omega, rfl, fun t v ht => ?_⟩, hw⟩
    obtain ⟨_, h2⟩ := Env.ofL_get _ _ _ _ ht
    have h3 : args[t]? = some v := by simpa using h2
    have hlt : t < args.length := (List.getElem?_eq_some_iff.1 h3).1
    show (args.toArray ++ Array.replicate (fn.ntmps - args.toArray.size) undef)[t]? = some v
    rw [Array.getElem?_append_left (by simpa using hlt)]
    simpa using h3
  refine (callsIn_wide (n := 0)).1 (callsIn_of_wp_marks (F := FR none) hf hb trivial ?_)
  refine Code.wpIn_mono (fun x a w' h' => ?_) (h _ w hs)
  obtain ⟨ds, e, fs1, hq, s⟩ := h'
  have key : ∀ vs fs', Shut ds fs1 fs' → ResL ⟨P, w0, S, N, [], none⟩ e fs' fn.results.toList vs → K (.returned (tup vs)) fs' → LeavesInM (FR none) 0 P fn a.tmps (fun x w' => ∃ fs', K x fs' ∧ St w0 S fs' w') a.defers .returning w' := by
    intro vs fs' hsh hr hK
    rw [show a.defers = ds from s.env.dfr]
    exact leaves_shut hsh w' s.st fun w2 hw2 => ⟨tup vs, ResL.runS hr s.env hw2, fs', hK, hw2⟩
  cases x with
  | ret => obtain ⟨vs, fs', h1, h2, h3⟩ := hq; exact key vs fs' h1 h2 h3
  | normal => obtain ⟨vs, fs', h1, h2, h3⟩ := hq; exact key vs fs' h1 h2 h3
  | panic ch =>
    obtain ⟨fs', hsh, hK⟩ := hq
    show LeavesInM (FR none) 0 P fn a.tmps _ a.defers (.panicking ch) w'
    rw [show a.defers = ds from s.env.dfr]
    exact leaves_shutP hsh w' s.st fun w2 hw2 => ⟨fs', hK, hw2⟩
  | _ => exact hq.elim
end Go.Proofs.YtpgdnfgjbhdbpaaGreatDoor.SL

/-
  A SMALL LOGIC OVER THE KIT's WALK, PART MV: functions that defer a closure which recovers.
  Conditions: none; over any program.
-/
namespace Go.Proofs.YtpgdnfgjbhdbpaaGreatDoor.SL
set_option linter.unusedVariables false
set_option linter.unusedSimpArgs false
open Go Go.RowKit
/-- What recover hands back, and how the frame below goes on. -/
def recV : FrameMode → Value × FrameMode
  | .panicking ({ v, recovered := false, goexit := false } :: older) => (v, .panicking ({ v, recovered := true } :: older))
  | m => (.nilIface, m)
theorem recV_ret : recV .returning = (.nilIface, .returning) := rfl
theorem recV_pan {v : Value} {older : List PanicEntry} : recV (.panicking ({ v := v, recovered := false } :: older)) = (v, .panicking ({ v := v, recovered := true } :: older)) := rfl
section rc
variable {F : Fence} {n : Nat} {P : Program} {Q : Exit → Act → List Frame → World → Prop} {a : Act} {cs : List Frame} {w : World}
theorem frame_same {c₀ : Frame} {u : FrameMode} (hu : c₀.mode = u) : { c₀ with mode := u } = c₀ := by subst hu; rfl
theorem recover_run {d : Nat} {t : TypeId} {pos : String} {af : Array Edge} {tys : Array TypeId} (ρ : Operand → Value) : (execOp ρ ⟨some d, .call { callee := .builtin .recover, args := #[], argTypes := tys }, t, pos, af, none⟩).run P w = .ok .recover w := by
  simp [execOp, resolve, invoke]
  rfl
theorem recoverD_eq {c₀ : Frame} {u : FrameMode} (hu : c₀.mode = u) : (∃ v cs', recoverD (c₀ :: cs) = some (v, cs') ∧ v = (recV u).1 ∧ cs' = { c₀ with mode := (recV u).2 } :: cs) ∨ (recoverD (c₀ :: cs) = none ∧ (recV u).1 = .nilIface ∧ { c₀ with mode := (recV u).2 } :: cs = c₀ :: cs) := by
  have e : recoverD (c₀ :: cs) = (match c₀.mode with
      | .panicking ({ v, recovered := false, goexit := false } :: older) => some (v, { c₀ with mode := .panicking ({ v, recovered := true } :: older) } :: cs)
      | _ => none) := rfl
  rw [e, hu]
  have hc : { c₀ with mode := u } = c₀ := frame_same hu
  cases u with
  | run => exact .inr ⟨rfl, rfl, congrArg (· :: cs) hc⟩
  | returning => exact .inr ⟨rfl, rfl, congrArg (· :: cs) hc⟩
  | panicking chain =>
    cases chain with
    | nil => exact .inr ⟨rfl, rfl, congrArg (· :: cs) hc⟩
    | cons p older =>
      obtain ⟨v, r, g⟩ := p
      cases r with
      | true => exact .inr ⟨rfl, rfl, congrArg (· :: cs) hc⟩
      | false =>
        cases g with
        | true => exact .inr ⟨rfl, rfl, congrArg (· :: cs) hc⟩
        | false => exact .inl ⟨_, _, rfl, rfl, rfl⟩
/-- An operation that recovers, first in a region; what is behind it, in the walk that does not recover. -/
theorem wpSIn_recover {id d : Nat} {t : TypeId} {pos : String} {af : Array Edge} {tys : Array TypeId} {rest : List Oper} {c₀ : Frame} {u : FrameMode} (hF : ∀ f, F.fn f) (hu : c₀.mode = u)
    (h : wpOpsSIn F n P (⟨some d, .call { callee := .builtin .recover, args := #[], argTypes := tys }, t, pos, af, none⟩ :: rest).toArray Q ((List.range (rest.length + 1)).drop 1) (a.put (some d) (recV u).1) ({ c₀ with mode := (recV u).2 } :: cs) w) :
    (Code.region id (⟨some d, .call { callee := .builtin .recover, args := #[], argTypes := tys }, t, pos, af, none⟩ :: rest).toArray false).wpSIn F n P Q a (c₀ :: cs) w := by
  refine wpSIn_region ?_
  rw [show (⟨some d, .call { callee := .builtin .recover, args := #[], argTypes := tys }, t, pos, af, none⟩ :: rest : List Oper).toArray.size = rest.length + 1 by simp]
  have hr : List.range (rest.length + 1) = 0 :: (List.range (rest.length + 1)).drop 1 := by
    rw [List.range_succ_eq_map]; rfl
  rw [hr]
  unfold wpOpsSIn
  simp only [List.getElem?_toArray, List.getElem?_cons_zero]
  refine ⟨fun f _ => hF f, ?_⟩
  rw [if_pos (wanted_none _ rfl _), recover_run]
  dsimp only
  rcases recoverD_eq (cs := cs) hu with ⟨v, cs', h1, rfl, rfl⟩ | ⟨h1, h2, h3⟩
  · rw [h1]; exact h
  · rw [h1]; rw [h2, h3] at h; exact h
end rc
/-- The end of a deferred closure's body. -/
def inD (C : Cu) (fn : Func) (K : Out) : Post := fun x ds e fs => ds = [] ∧ match x with
  | .ret => ∃ vs, ResL C e fs fn.results.toList vs ∧ K (.returned (tup vs)) fs
  | .normal => ∃ vs, ResL C e fs fn.results.toList vs ∧ K (.returned (tup vs)) fs
  | .panic ch => K (.panicked ch) fs
  | _ => False
theorem inDI {C : Cu} {fn : Func} {K : Out} {x : Exit} {e : Env} {fs : Fs} {rs : List ResultVar} {vs : List Value} {v : Value} (hx : x = .ret ∨ x = .normal) (hr : fn.results.toList = rs) (h : ResL C e fs rs vs) (hv : tup vs = v) (hK : K (.returned v) fs) : inD C fn K x [] e fs := by
  subst hv
  subst hr
  rcases hx with rfl | rfl
  · exact ⟨rfl, vs, h, hK⟩
  · exact ⟨rfl, vs, h, hK⟩
/-- What a closure's first part does: it recovers, and lays e1. -/
def Rec1 (P : Program) (c1 : Code) (N : Nat) (e0 e1 : Env) (u : FrameMode) : Prop := ∀ (Q : Exit → Act → List Frame → World → Prop) (n : Nat) (a : Act) (c₀ : Frame) (cs : List Frame) (w : World), c₀.mode = u → EnvOk N [] e0 a → (∀ a', EnvOk N [] e1 a' → Q .normal a' ({ c₀ with mode := (recV u).2 } :: cs) w) → c1.wpSIn (FR none) n P Q a (c₀ :: cs) w
theorem Rec1.one {P : Program} {id d N : Nat} {e0 : Env} {t : TypeId} {pos : String} {af : Array Edge} {tys : Array TypeId} {u : FrameMode} (hd : Nat.blt d N = true) :
    Rec1 P (.region id #[⟨some d, .call { callee := .builtin .recover, args := #[], argTypes := tys }, t, pos, af, none⟩] false) N e0 ((d, (recV u).1) :: e0) u :=
  fun Q n a c₀ cs w hu ha h => wpSIn_recover (rest := []) (fun _ => trivial) hu (h _ (ha.put hd))
theorem Rec1.two {P : Program} {id d d2 N : Nat} {e0 : Env} {t t2 : TypeId} {pos pos2 : String} {af af2 : Array Edge} {tys : Array TypeId} {u : FrameMode} (hd : Nat.blt d N = true) (hd2 : Nat.blt d2 N = true) :
    Rec1 P (.region id #[⟨some d, .call { callee := .builtin .recover, args := #[], argTypes := tys }, t, pos, af, none⟩, ⟨some d2, .assign (.tmp d), t2, pos2, af2, none⟩] false) N e0 ((d2, (recV u).1) :: (d, (recV u).1) :: e0) u :=
  fun Q n a c₀ cs w hu ha h => by
    refine wpSIn_recover (rest := [_]) (fun _ => trivial) hu ?_
    have h1 := ha.put (v := (recV u).1) hd
    show wpOpsSIn (FR none) n P _ Q [1] _ _ w
    unfold wpOpsSIn
    simp only [List.getElem?_toArray, List.getElem?_cons_succ, List.getElem?_cons_zero]
    refine ⟨fun f _ => trivial, ?_⟩
    rw [if_pos (wanted_none _ rfl _)]
    have hv : (a.put (some d) (recV u).1).eval (.tmp d) = (recV u).1 := h1.ev (by simp [Env.ev, Env.get])
    have hrun : (execOp (a.put (some d) (recV u).1).eval ⟨some d2, .assign (.tmp d), t2, pos2, af2, none⟩).run P w = .ok (.value (recV u).1) w := by
      simp [execOp, hv]
    rw [hrun]
    exact h _ (h1.put hd2)
theorem callsD_cw {P : Program} {w0 : World} {S : List Nat} {f : FuncId} {fn : Func} {c1 rest : Code} {args : List Value} {N : Nat} {K : Out} {fs : Fs} {w : World} {u : FrameMode} (e1 : Env) (hf : P.funcs[f]? = some fn) (hb : fn.body = some (.seq c1 rest)) (hN : fn.ntmps = N) (hsz : Nat.ble args.length N = true)
    (h1 : Rec1 P c1 N (Env.ofL args 0) e1 u) (h : CW ⟨P, w0, S, N, [], none⟩ rest (inD ⟨P, w0, S, N, [], none⟩ fn K) e1 fs) (hw : St w0 S fs w) :
    CallsDIn (FR none) 0 P f args.toArray u w (fun e u' w' => u' = (recV u).2 ∧ ∃ fs', K e fs' ∧ St w0 S fs' w') := by
  have ha : EnvOk N [] (Env.ofL args 0) { tmps := args.toArray ++ Array.replicate (fn.ntmps - args.toArray.size) undef, defers := [] } := by
    refine ⟨by have := Nat.le_of_ble_eq_true hsz; simp [hN]; omega, rfl, fun t v ht => ?_⟩
    obtain ⟨_, h2⟩ := Env.ofL_get _ _ _ _ ht
    have h3 : args[t]? = some v := by simpa using h2
    have hlt : t < args.length := (List.getElem?_eq_some_iff.1 h3).1
    show (args.toArray ++ Array.replicate (fn.ntmps - args.toArray.size) undef)[t]? = some v
    rw [Array.getElem?_append_left (by simpa using hlt)]
    simpa using h3
  refine callsDIn_of_wpSIn hf hb trivial fun c₀ cs hu => ?_
  refine wpSIn_seq (h1 _ 0 _ c₀ cs w hu ha fun a' ha' => ?_)
  show rest.wpSIn (FR none) 0 P _ a' _ w
  refine wpSIn_of_wpIn rfl ?_
  refine Code.wpIn_mono (fun x a2 w2 h' => ?_) (h a' w ⟨ha', hw⟩)
  obtain ⟨ds, e, fs2, ⟨rfl, hq⟩, s⟩ := h'
  have hd : a2.defers = [] := s.env.dfr
  have hm : ({ c₀ with mode := (recV u).2 } :: cs : List Frame) = { c₀ with mode := (recV u).2 } :: cs := rfl
  have key : ∀ vs, ResL ⟨P, w0, S, N, [], none⟩ e fs2 fn.results.toList vs → K (.returned (tup vs)) fs2 → (a2.defers = [] ∧ ∃ u', ({ c₀ with mode := (recV u).2 } :: cs : List Frame) = { c₀ with mode := u' } :: cs ∧ ∃ v, (results fn a2.tmps).run P w2 = .ok v w2 ∧ (u' = (recV u).2 ∧ ∃ fs', K (.returned v) fs' ∧ St w0 S fs' w2)) := fun vs hr hK =>
    ⟨hd, _, rfl, tup vs, ResL.run hr s, rfl, fs2, hK, s.st⟩
  cases x with
  | ret => obtain ⟨vs, hr, hK⟩ := hq; exact key vs hr hK
  | normal => obtain ⟨vs, hr, hK⟩ := hq; exact key vs hr hK
  | panic ch => exact ⟨hd, _, rfl, rfl, fs2, hq, s.st⟩
  | _ => exact hq.elim
/-! ### Functions that defer a closure -/
abbrev clo (f : FuncId) (cap : Array Value) : Deferred := { target := .fn (.func f) cap, args := #[] }
/-- The end of a body behind which one closure is called. -/
def outD (C : Cu) (fn : Func) (dd : Deferred) (R : Ending → World → Prop) : Post := fun x ds e fs => ds = [dd] ∧ match x with
  | .ret => ∀ a w, Sat (C.at [dd]) e fs a w → LeavesInM (FR none) 0 C.P fn a.tmps R [dd] .returning w
  | .normal => ∀ a w, Sat (C.at [dd]) e fs a w → LeavesInM (FR none) 0 C.P fn a.tmps R [dd] .returning w
  | .panic ch => ∀ a w, Sat (C.at [dd]) e fs a w → LeavesInM (FR none) 0 C.P fn a.tmps R [dd] (.panicking ch) w
  | _ => False
theorem calls_inlineD {P : Program} {w0 : World} {S : List Nat} {f : FuncId} {fn : Func} {c : Code} {args : List Value} {N : Nat} {R : Ending → World → Prop} {fs : Fs} {w : World} (hf : P.funcs[f]? = some fn) (hb : fn.body = some c) (hN : fn.ntmps = N) (hsz : Nat.ble args.length N = true)
    (h : CW ⟨P, w0, S, N, [], none⟩ c (fun x ds e fs => ∃ dd, outD ⟨P, w0, S, N, [], none⟩ fn dd R x ds e fs) (Env.ofL args 0) fs) (hw : St w0 S fs w) : Calls P f args.toArray w R := by
  have hs : Sat ⟨P, w0, S, N, [], none⟩ (Env.ofL args 0) fs { tmps := args.toArray ++ Array.replicate (fn.ntmps - args.toArray.size) undef, defers := [] } w := by
    refine ⟨⟨by have := Nat.le_of_ble_eq_true hsz; simp [hN]; omega, rfl, fun t v ht => ?_⟩, hw⟩
    obtain ⟨_, h2⟩ := Env.ofL_get _ _ _ _ ht
    have h3 : args[t]? = some v := by simpa using h2
    have hlt : t < args.length := (List.getElem?_eq_some_iff.1 h3).1
    show (args.toArray ++ Array.replicate (fn.ntmps - args.toArray.size) undef)[t]? = some v
    rw [Array.getElem?_append_left (by simpa using hlt)]
    simpa using h3
  refine (callsIn_wide (n := 0)).1 (callsIn_of_wp_marks (F := FR none) hf hb trivial ?_)
  refine Code.wpIn_mono (fun x a w' h' => ?_) (h _ w hs)
  obtain ⟨ds, e, fs1, ⟨dd, rfl, hq⟩, s⟩ := h'
  have hd : a.defers = [dd] := s.env.dfr
  cases x with
  | ret => show LeavesInM (FR none) 0 P fn a.tmps R a.defers .returning w'; rw [hd]; exact hq a w' s
  | normal => show LeavesInM (FR none) 0 P fn a.tmps R a.defers .returning w'; rw [hd]; exact hq a w' s
  | panic ch => show LeavesInM (FR none) 0 P fn a.tmps R a.defers (.panicking ch) w'; rw [hd]; exact hq a w' s
  | _ => exact hq.elim
/-- The closure is called; behind it the frame ends. -/
theorem leaves_clo {P : Program} {w0 : World} {S : List Nat} {fn : Func} {tmps : Array Value} {R : Ending → World → Prop} {f : FuncId} {cap : Array Value} {K : Out} {u : FrameMode} {w : World} (hF : FnI P f) (hu : u ≠ .run)
    (hc : CallsDIn (FR none) 0 P f cap u w (fun e u' w' => u' = (recV u).2 ∧ ∃ fs', K e fs' ∧ St w0 S fs' w'))
    (hK : K.plain) (hret : ∀ v fs' w', K (.returned v) fs' → St w0 S fs' w' → LeavesIn (FR none) 0 P fn tmps R [] (settle (recV u).2) w')
    (hpan : ∀ ch fs' w', K (.panicked ch) fs' → St w0 S fs' w' → LeavesIn (FR none) 0 P fn tmps R [] (raised (recV u).2 ch) w') : LeavesInM (FR none) 0 P fn tmps R [clo f cap] u w := by
  refine ⟨hu, .inr ⟨(fun h => by cases h), .func f, cap, f, cap, rfl, ?_, (fun _ _ => trivial), ?_⟩⟩
  · have := hF.run cap w
    simpa [invoke] using this
  · refine CallsDIn.mono hc fun e u' w' ⟨hu', fs', hk, hst⟩ => ?_
    subst hu'
    cases e with
    | returned v => exact hret v fs' w' hk hst
    | panicked ch => exact hpan ch fs' w' hk hst
    | outgrown => exact absurd hk (hK fs')
end Go.Proofs.YtpgdnfgjbhdbpaaGreatDoor.SL

/-
  A SMALL LOGIC OVER THE KIT's WALK, PART MW: interface values.
  Conditions: none; over any program.
-/
namespace Go.Proofs.YtpgdnfgjbhdbpaaGreatDoor.SL
set_option linter.unusedVariables false
set_option linter.unusedSimpArgs false
open Go Go.RowKit
section iv
variable {P : Program} {e : Env} {T ty : TypeId} {x y : Operand}
theorem ValP.mkIface {v : Value} (hc : P.concrete T = true) (hx : e.ev x = some v) : ValP P e [] (.makeInterface T x) (.iface T v) := fun ρ w hρ _ d t pos af g => by
  simp [execOp, hρ x v hx, run_makeInterface w T v hc]
theorem run_assertHit {v : Value} {X : TypeId} (hc : P.concrete T = true) (w : World) : (Instr.typeAssert (.iface T v) X T true).run P w = .ok (.tuple #[v, .bool true]) w := by
  unfold Program.concrete at hc
  cases hd : P.underlying T with
  | none => simp [hd] at hc
  | some d => cases d <;> first | (simp [hd] at hc; done) | simp [Instr.typeAssert, run_underlying hd]
theorem ValP.assertHit {v : Value} {X : TypeId} (hc : P.concrete T = true) (hx : e.ev x = some (.iface T v)) : ValP P e [] (.typeAssert x X T true) (.tuple #[v, .bool true]) := fun ρ w hρ _ d t pos af g => by
  simp [execOp, hρ x _ hx, run_assertHit hc]
theorem run_assertNil {n : Nat} {z : Value} {X : TypeId} [InfoI P T n z] (hc : P.concrete T = true) (w : World) : (Instr.typeAssert .nilIface X T true).run P w = .ok (.tuple #[z, .bool false]) w := by
  unfold Program.concrete at hc
  cases hd : P.underlying T with
  | none => simp [hd] at hc
  | some d => cases d <;> first | (simp [hd] at hc; done) | simp [Instr.typeAssert, run_underlying hd, run_zero]
theorem ValP.assertNil {n : Nat} {z : Value} {X : TypeId} (hI : InfoI P T n z) (hc : P.concrete T = true) (hx : e.ev x = some .nilIface) : ValP P e [] (.typeAssert x X T true) (.tuple #[z, .bool false]) := fun ρ w hρ _ d t pos af g => by
  simp [execOp, hρ x _ hx, run_assertNil hc]
theorem ValP.eqNilT {U : TypeId} (hI : P.underlying T = some (.interface (P.methodsAt T))) (hx : e.ev x = some .nilIface) : ValP P e [] (.binOp .eql T x (.const .nilIface) ty) (.bool true) :=
  .bin hx rfl (fun w => by rw [Go.eqGuard_nil_constR]; rfl) fun w => by
    simp only [binOp, Sem.run_bind, run_equal_nil_nil w T hI]; rfl
theorem ValP.eqNilF {U : TypeId} {v : Value} (hI : P.underlying T = some (.interface (P.methodsAt T))) (hx : e.ev x = some (.iface U v)) : ValP P e [] (.binOp .eql T x (.const .nilIface) ty) (.bool false) :=
  .bin hx rfl (fun w => by first | rfl | (unfold eqGuard; rfl)) fun w => by
    simp only [binOp, Sem.run_bind, run_equal_held_nil w T U v hI]; rfl
end iv
end Go.Proofs.YtpgdnfgjbhdbpaaGreatDoor.SL

/-
  What is known of this seat's types and functions, as instances: made by program (wip/gen_inst.py) off the translation; each is proved by the kernel's reckoning.
  Conditions: none.
-/
namespace Go.Proofs.YtpgdnfgjbhdbpaaGreatDoor
open Go Go.RowKit SL

instance : AgI Tryz.prog 1 false := ⟨by kernel_rfl⟩
instance : InfoI Tryz.prog 1 1 (.nilFunc) := ⟨by kernel_rfl⟩
instance : BytI Tryz.prog 1 8 := ⟨by kernel_rfl⟩
instance : AgI Tryz.prog 2 false := ⟨by kernel_rfl⟩
instance : UnI Tryz.prog 2 (.int .i64) := ⟨by kernel_rfl⟩
instance : InfoI Tryz.prog 2 1 (.int .i64 0) := ⟨by kernel_rfl⟩
instance : BytI Tryz.prog 2 8 := ⟨by kernel_rfl⟩
instance : AgI Tryz.prog 3 false := ⟨by kernel_rfl⟩
instance : UnI Tryz.prog 3 (.int .i64) := ⟨by kernel_rfl⟩
instance : InfoI Tryz.prog 3 1 (.int .i64 0) := ⟨by kernel_rfl⟩
instance : BytI Tryz.prog 3 8 := ⟨by kernel_rfl⟩
instance : AgI Tryz.prog 4 false := ⟨by kernel_rfl⟩
instance : UnI Tryz.prog 4 (.bool) := ⟨by kernel_rfl⟩
instance : InfoI Tryz.prog 4 1 (.bool false) := ⟨by kernel_rfl⟩
instance : BytI Tryz.prog 4 1 := ⟨by kernel_rfl⟩
instance : AgI Tryz.prog 5 false := ⟨by kernel_rfl⟩
instance : UnI Tryz.prog 5 (.int .u8) := ⟨by kernel_rfl⟩
instance : InfoI Tryz.prog 5 1 (.int .u8 0) := ⟨by kernel_rfl⟩
instance : BytI Tryz.prog 5 1 := ⟨by kernel_rfl⟩
instance : AgI Tryz.prog 6 false := ⟨by kernel_rfl⟩
instance : UnI Tryz.prog 6 (.int .u8) := ⟨by kernel_rfl⟩
instance : InfoI Tryz.prog 6 1 (.int .u8 0) := ⟨by kernel_rfl⟩
instance : BytI Tryz.prog 6 1 := ⟨by kernel_rfl⟩
instance : AgI Tryz.prog 7 true := ⟨by kernel_rfl⟩
instance : InfoI Tryz.prog 7 4 (.agg #[.int .i64 0, .int .i64 0, .bool false, .int .u8 0]) := ⟨by kernel_rfl⟩
instance : BytI Tryz.prog 7 24 := ⟨by kernel_rfl⟩
instance : StrI Tryz.prog 7 [(0, 1), (1, 1), (2, 1), (3, 1)] := ⟨by kernel_rfl⟩
instance : FldI Tryz.prog 7 0 0 2 := .mk' (by kernel_rfl)
instance : FldI Tryz.prog 7 1 1 3 := .mk' (by kernel_rfl)
instance : FldI Tryz.prog 7 2 2 4 := .mk' (by kernel_rfl)
instance : FldI Tryz.prog 7 3 3 6 := .mk' (by kernel_rfl)
instance : AgI Tryz.prog 8 true := ⟨by kernel_rfl⟩
instance : InfoI Tryz.prog 8 4 (.agg #[.int .i64 0, .int .i64 0, .bool false, .int .u8 0]) := ⟨by kernel_rfl⟩
instance : BytI Tryz.prog 8 24 := ⟨by kernel_rfl⟩
instance : StrI Tryz.prog 8 [(0, 1), (1, 1), (2, 1), (3, 1)] := ⟨by kernel_rfl⟩
instance : FldI Tryz.prog 8 0 0 2 := .mk' (by kernel_rfl)
instance : FldI Tryz.prog 8 1 1 3 := .mk' (by kernel_rfl)
instance : FldI Tryz.prog 8 2 2 4 := .mk' (by kernel_rfl)
instance : FldI Tryz.prog 8 3 3 6 := .mk' (by kernel_rfl)
instance : AgI Tryz.prog 9 false := ⟨by kernel_rfl⟩
instance : UnI Tryz.prog 9 (.string) := ⟨by kernel_rfl⟩
instance : InfoI Tryz.prog 9 1 (.string ⟨#[]⟩) := ⟨by kernel_rfl⟩
instance : BytI Tryz.prog 9 16 := ⟨by kernel_rfl⟩
instance : AgI Tryz.prog 10 false := ⟨by kernel_rfl⟩
instance : UnI Tryz.prog 10 (.string) := ⟨by kernel_rfl⟩
instance : InfoI Tryz.prog 10 1 (.string ⟨#[]⟩) := ⟨by kernel_rfl⟩
instance : BytI Tryz.prog 10 16 := ⟨by kernel_rfl⟩
instance : AgI Tryz.prog 11 false := ⟨by kernel_rfl⟩
instance : UnI Tryz.prog 11 (.string) := ⟨by kernel_rfl⟩
instance : InfoI Tryz.prog 11 1 (.string ⟨#[]⟩) := ⟨by kernel_rfl⟩
instance : BytI Tryz.prog 11 16 := ⟨by kernel_rfl⟩
instance : AgI Tryz.prog 12 false := ⟨by kernel_rfl⟩
instance : UnI Tryz.prog 12 (.int .u64) := ⟨by kernel_rfl⟩
instance : InfoI Tryz.prog 12 1 (.int .u64 0) := ⟨by kernel_rfl⟩
instance : BytI Tryz.prog 12 8 := ⟨by kernel_rfl⟩
instance : AgI Tryz.prog 13 true := ⟨by kernel_rfl⟩
instance : InfoI Tryz.prog 13 2 (.agg #[.string ⟨#[]⟩, .int .u64 0]) := ⟨by kernel_rfl⟩
instance : BytI Tryz.prog 13 24 := ⟨by kernel_rfl⟩
instance : StrI Tryz.prog 13 [(0, 1), (1, 1)] := ⟨by kernel_rfl⟩
instance : FldI Tryz.prog 13 0 0 9 := .mk' (by kernel_rfl)
instance : FldI Tryz.prog 13 1 1 12 := .mk' (by kernel_rfl)
instance : AgI Tryz.prog 14 true := ⟨by kernel_rfl⟩
instance : InfoI Tryz.prog 14 2 (.agg #[.string ⟨#[]⟩, .int .u64 0]) := ⟨by kernel_rfl⟩
instance : BytI Tryz.prog 14 24 := ⟨by kernel_rfl⟩
instance : StrI Tryz.prog 14 [(0, 1), (1, 1)] := ⟨by kernel_rfl⟩
instance : FldI Tryz.prog 14 0 0 9 := .mk' (by kernel_rfl)
instance : FldI Tryz.prog 14 1 1 12 := .mk' (by kernel_rfl)
instance : AgI Tryz.prog 15 false := ⟨by kernel_rfl⟩
instance : UnI Tryz.prog 15 (.pointer 218) := ⟨by kernel_rfl⟩
instance : InfoI Tryz.prog 15 1 (.pointer none) := ⟨by kernel_rfl⟩
instance : BytI Tryz.prog 15 8 := ⟨by kernel_rfl⟩
instance : AgI Tryz.prog 16 false := ⟨by kernel_rfl⟩
instance : UnI Tryz.prog 16 (.pointer 221) := ⟨by kernel_rfl⟩
instance : InfoI Tryz.prog 16 1 (.pointer none) := ⟨by kernel_rfl⟩
instance : BytI Tryz.prog 16 8 := ⟨by kernel_rfl⟩
instance : AgI Tryz.prog 17 false := ⟨by kernel_rfl⟩
instance : UnI Tryz.prog 17 (.pointer 230) := ⟨by kernel_rfl⟩
instance : InfoI Tryz.prog 17 1 (.pointer none) := ⟨by kernel_rfl⟩
instance : BytI Tryz.prog 17 8 := ⟨by kernel_rfl⟩
instance : AgI Tryz.prog 18 true := ⟨by kernel_rfl⟩
instance : InfoI Tryz.prog 18 1 (.agg #[.pointer none]) := ⟨by kernel_rfl⟩
instance : BytI Tryz.prog 18 8 := ⟨by kernel_rfl⟩
instance : StrI Tryz.prog 18 [(0, 1)] := ⟨by kernel_rfl⟩
instance : FldI Tryz.prog 18 0 0 17 := .mk' (by kernel_rfl)
instance : AgI Tryz.prog 19 true := ⟨by kernel_rfl⟩
instance : InfoI Tryz.prog 19 1 (.agg #[.pointer none]) := ⟨by kernel_rfl⟩
instance : BytI Tryz.prog 19 8 := ⟨by kernel_rfl⟩
instance : StrI Tryz.prog 19 [(0, 1)] := ⟨by kernel_rfl⟩
instance : FldI Tryz.prog 19 0 0 17 := .mk' (by kernel_rfl)
instance : AgI Tryz.prog 20 false := ⟨by kernel_rfl⟩
instance : InfoI Tryz.prog 20 1 (.nilIface) := ⟨by kernel_rfl⟩
instance : BytI Tryz.prog 20 16 := ⟨by kernel_rfl⟩
instance : AgI Tryz.prog 21 false := ⟨by kernel_rfl⟩
instance : UnI Tryz.prog 21 (.int .i32) := ⟨by kernel_rfl⟩
instance : InfoI Tryz.prog 21 1 (.int .i32 0) := ⟨by kernel_rfl⟩
instance : BytI Tryz.prog 21 4 := ⟨by kernel_rfl⟩
instance : AgI Tryz.prog 22 false := ⟨by kernel_rfl⟩
instance : UnI Tryz.prog 22 (.slice 5) := ⟨by kernel_rfl⟩
instance : InfoI Tryz.prog 22 1 (.slice none 0 0) := ⟨by kernel_rfl⟩
instance : BytI Tryz.prog 22 24 := ⟨by kernel_rfl⟩
instance : AgI Tryz.prog 23 false := ⟨by kernel_rfl⟩
instance : UnI Tryz.prog 23 (.slice 29) := ⟨by kernel_rfl⟩
instance : InfoI Tryz.prog 23 1 (.slice none 0 0) := ⟨by kernel_rfl⟩
instance : BytI Tryz.prog 23 24 := ⟨by kernel_rfl⟩
instance : AgI Tryz.prog 24 true := ⟨by kernel_rfl⟩
instance : InfoI Tryz.prog 24 2 (.agg #[.slice none 0 0, .slice none 0 0]) := ⟨by kernel_rfl⟩
instance : BytI Tryz.prog 24 48 := ⟨by kernel_rfl⟩
instance : StrI Tryz.prog 24 [(0, 1), (1, 1)] := ⟨by kernel_rfl⟩
instance : FldI Tryz.prog 24 0 0 23 := .mk' (by kernel_rfl)
instance : FldI Tryz.prog 24 1 1 22 := .mk' (by kernel_rfl)
instance : AgI Tryz.prog 25 true := ⟨by kernel_rfl⟩
instance : InfoI Tryz.prog 25 2 (.agg #[.slice none 0 0, .slice none 0 0]) := ⟨by kernel_rfl⟩
instance : BytI Tryz.prog 25 48 := ⟨by kernel_rfl⟩
instance : StrI Tryz.prog 25 [(0, 1), (1, 1)] := ⟨by kernel_rfl⟩
instance : FldI Tryz.prog 25 0 0 23 := .mk' (by kernel_rfl)
instance : FldI Tryz.prog 25 1 1 22 := .mk' (by kernel_rfl)
instance : AgI Tryz.prog 26 false := ⟨by kernel_rfl⟩
instance : UnI Tryz.prog 26 (.int .u64) := ⟨by kernel_rfl⟩
instance : InfoI Tryz.prog 26 1 (.int .u64 0) := ⟨by kernel_rfl⟩
instance : BytI Tryz.prog 26 8 := ⟨by kernel_rfl⟩
instance : AgI Tryz.prog 27 false := ⟨by kernel_rfl⟩
instance : UnI Tryz.prog 27 (.int .u64) := ⟨by kernel_rfl⟩
instance : InfoI Tryz.prog 27 1 (.int .u64 0) := ⟨by kernel_rfl⟩
instance : BytI Tryz.prog 27 8 := ⟨by kernel_rfl⟩
instance : AgI Tryz.prog 28 true := ⟨by kernel_rfl⟩
instance : UnI Tryz.prog 28 (.array 4 26) := ⟨by kernel_rfl⟩
instance : InfoI Tryz.prog 28 4 (.agg #[.int .u64 0, .int .u64 0, .int .u64 0, .int .u64 0]) := ⟨by kernel_rfl⟩
instance : BytI Tryz.prog 28 32 := ⟨by kernel_rfl⟩
instance : EqI Tryz.prog 28 4 .u64 := .mk' (by kernel_rfl)
instance : AgI Tryz.prog 29 true := ⟨by kernel_rfl⟩
instance : UnI Tryz.prog 29 (.array 4 26) := ⟨by kernel_rfl⟩
instance : InfoI Tryz.prog 29 4 (.agg #[.int .u64 0, .int .u64 0, .int .u64 0, .int .u64 0]) := ⟨by kernel_rfl⟩
instance : BytI Tryz.prog 29 32 := ⟨by kernel_rfl⟩
instance : EqI Tryz.prog 29 4 .u64 := .mk' (by kernel_rfl)
instance : AgI Tryz.prog 30 true := ⟨by kernel_rfl⟩
instance : InfoI Tryz.prog 30 14 (.agg #[.slice none 0 0, .int .i64 0, .slice none 0 0, .slice none 0 0, .int .u64 0, .int .u64 0, .int .u64 0, .int .u64 0, .int .u64 0, .int .u64 0, .int .u64 0, .slice none 0 0, .slice none 0 0, .bool false]) := ⟨by kernel_rfl⟩
instance : BytI Tryz.prog 30 192 := ⟨by kernel_rfl⟩
instance : StrI Tryz.prog 30 [(0, 1), (1, 1), (2, 2), (4, 1), (5, 1), (6, 1), (7, 4), (11, 1), (12, 1), (13, 1)] := ⟨by kernel_rfl⟩
instance : FldI Tryz.prog 30 0 0 22 := .mk' (by kernel_rfl)
instance : FldI Tryz.prog 30 1 1 3 := .mk' (by kernel_rfl)
instance : FldI Tryz.prog 30 2 2 25 := .mk' (by kernel_rfl)
instance : FldI Tryz.prog 30 3 4 26 := .mk' (by kernel_rfl)
instance : FldI Tryz.prog 30 4 5 27 := .mk' (by kernel_rfl)
instance : FldI Tryz.prog 30 5 6 27 := .mk' (by kernel_rfl)
instance : FldI Tryz.prog 30 6 7 29 := .mk' (by kernel_rfl)
instance : FldI Tryz.prog 30 7 11 22 := .mk' (by kernel_rfl)
instance : FldI Tryz.prog 30 8 12 22 := .mk' (by kernel_rfl)
instance : FldI Tryz.prog 30 9 13 4 := .mk' (by kernel_rfl)
instance : AgI Tryz.prog 31 true := ⟨by kernel_rfl⟩
instance : InfoI Tryz.prog 31 14 (.agg #[.slice none 0 0, .int .i64 0, .slice none 0 0, .slice none 0 0, .int .u64 0, .int .u64 0, .int .u64 0, .int .u64 0, .int .u64 0, .int .u64 0, .int .u64 0, .slice none 0 0, .slice none 0 0, .bool false]) := ⟨by kernel_rfl⟩
instance : BytI Tryz.prog 31 192 := ⟨by kernel_rfl⟩
instance : StrI Tryz.prog 31 [(0, 1), (1, 1), (2, 2), (4, 1), (5, 1), (6, 1), (7, 4), (11, 1), (12, 1), (13, 1)] := ⟨by kernel_rfl⟩
instance : FldI Tryz.prog 31 0 0 22 := .mk' (by kernel_rfl)
instance : FldI Tryz.prog 31 1 1 3 := .mk' (by kernel_rfl)
instance : FldI Tryz.prog 31 2 2 25 := .mk' (by kernel_rfl)
instance : FldI Tryz.prog 31 3 4 26 := .mk' (by kernel_rfl)
instance : FldI Tryz.prog 31 4 5 27 := .mk' (by kernel_rfl)
instance : FldI Tryz.prog 31 5 6 27 := .mk' (by kernel_rfl)
instance : FldI Tryz.prog 31 6 7 29 := .mk' (by kernel_rfl)
instance : FldI Tryz.prog 31 7 11 22 := .mk' (by kernel_rfl)
instance : FldI Tryz.prog 31 8 12 22 := .mk' (by kernel_rfl)
instance : FldI Tryz.prog 31 9 13 4 := .mk' (by kernel_rfl)
instance : AgI Tryz.prog 32 true := ⟨by kernel_rfl⟩
instance : InfoI Tryz.prog 32 15 (.agg #[.int .u8 0, .int .u64 0, .int .u64 0, .int .u64 0, .int .u64 0, .int .u64 0, .int .u64 0, .int .u64 0, .bool false, .int .u64 0, .slice none 0 0, .slice none 0 0, .int .u64 0, .int .u64 0, .bool false]) := ⟨by kernel_rfl⟩
instance : BytI Tryz.prog 32 152 := ⟨by kernel_rfl⟩
instance : StrI Tryz.prog 32 [(0, 1), (1, 1), (2, 1), (3, 1), (4, 4), (8, 1), (9, 1), (10, 1), (11, 1), (12, 1), (13, 1), (14, 1)] := ⟨by kernel_rfl⟩
instance : FldI Tryz.prog 32 0 0 5 := .mk' (by kernel_rfl)
instance : FldI Tryz.prog 32 1 1 27 := .mk' (by kernel_rfl)
instance : FldI Tryz.prog 32 2 2 27 := .mk' (by kernel_rfl)
instance : FldI Tryz.prog 32 3 3 27 := .mk' (by kernel_rfl)
instance : FldI Tryz.prog 32 4 4 29 := .mk' (by kernel_rfl)
instance : FldI Tryz.prog 32 5 8 4 := .mk' (by kernel_rfl)
instance : FldI Tryz.prog 32 6 9 26 := .mk' (by kernel_rfl)
instance : FldI Tryz.prog 32 7 10 22 := .mk' (by kernel_rfl)
instance : FldI Tryz.prog 32 8 11 22 := .mk' (by kernel_rfl)
instance : FldI Tryz.prog 32 9 12 26 := .mk' (by kernel_rfl)
instance : FldI Tryz.prog 32 10 13 26 := .mk' (by kernel_rfl)
instance : FldI Tryz.prog 32 11 14 4 := .mk' (by kernel_rfl)
instance : AgI Tryz.prog 33 true := ⟨by kernel_rfl⟩
instance : InfoI Tryz.prog 33 15 (.agg #[.int .u8 0, .int .u64 0, .int .u64 0, .int .u64 0, .int .u64 0, .int .u64 0, .int .u64 0, .int .u64 0, .bool false, .int .u64 0, .slice none 0 0, .slice none 0 0, .int .u64 0, .int .u64 0, .bool false]) := ⟨by kernel_rfl⟩
instance : BytI Tryz.prog 33 152 := ⟨by kernel_rfl⟩
instance : StrI Tryz.prog 33 [(0, 1), (1, 1), (2, 1), (3, 1), (4, 4), (8, 1), (9, 1), (10, 1), (11, 1), (12, 1), (13, 1), (14, 1)] := ⟨by kernel_rfl⟩
instance : FldI Tryz.prog 33 0 0 5 := .mk' (by kernel_rfl)
instance : FldI Tryz.prog 33 1 1 27 := .mk' (by kernel_rfl)
instance : FldI Tryz.prog 33 2 2 27 := .mk' (by kernel_rfl)
instance : FldI Tryz.prog 33 3 3 27 := .mk' (by kernel_rfl)
instance : FldI Tryz.prog 33 4 4 29 := .mk' (by kernel_rfl)
instance : FldI Tryz.prog 33 5 8 4 := .mk' (by kernel_rfl)
instance : FldI Tryz.prog 33 6 9 26 := .mk' (by kernel_rfl)
instance : FldI Tryz.prog 33 7 10 22 := .mk' (by kernel_rfl)
instance : FldI Tryz.prog 33 8 11 22 := .mk' (by kernel_rfl)
instance : FldI Tryz.prog 33 9 12 26 := .mk' (by kernel_rfl)
instance : FldI Tryz.prog 33 10 13 26 := .mk' (by kernel_rfl)
instance : FldI Tryz.prog 33 11 14 4 := .mk' (by kernel_rfl)
instance : AgI Tryz.prog 34 false := ⟨by kernel_rfl⟩
instance : UnI Tryz.prog 34 (.slice 39) := ⟨by kernel_rfl⟩
instance : InfoI Tryz.prog 34 1 (.slice none 0 0) := ⟨by kernel_rfl⟩
instance : BytI Tryz.prog 34 24 := ⟨by kernel_rfl⟩
instance : AgI Tryz.prog 35 false := ⟨by kernel_rfl⟩
instance : InfoI Tryz.prog 35 1 (.nilFunc) := ⟨by kernel_rfl⟩
instance : BytI Tryz.prog 35 8 := ⟨by kernel_rfl⟩
instance : AgI Tryz.prog 36 false := ⟨by kernel_rfl⟩
instance : InfoI Tryz.prog 36 1 (.nilFunc) := ⟨by kernel_rfl⟩
instance : BytI Tryz.prog 36 8 := ⟨by kernel_rfl⟩
instance : AgI Tryz.prog 37 false := ⟨by kernel_rfl⟩
instance : InfoI Tryz.prog 37 1 (.nilFunc) := ⟨by kernel_rfl⟩
instance : BytI Tryz.prog 37 8 := ⟨by kernel_rfl⟩
instance : AgI Tryz.prog 38 true := ⟨by kernel_rfl⟩
instance : InfoI Tryz.prog 38 3 (.agg #[.bool false, .int .u64 0, .slice none 0 0]) := ⟨by kernel_rfl⟩
instance : BytI Tryz.prog 38 40 := ⟨by kernel_rfl⟩
instance : StrI Tryz.prog 38 [(0, 1), (1, 1), (2, 1)] := ⟨by kernel_rfl⟩
instance : FldI Tryz.prog 38 0 0 4 := .mk' (by kernel_rfl)
instance : FldI Tryz.prog 38 1 1 26 := .mk' (by kernel_rfl)
instance : FldI Tryz.prog 38 2 2 22 := .mk' (by kernel_rfl)
instance : AgI Tryz.prog 39 true := ⟨by kernel_rfl⟩
instance : InfoI Tryz.prog 39 3 (.agg #[.bool false, .int .u64 0, .slice none 0 0]) := ⟨by kernel_rfl⟩
instance : BytI Tryz.prog 39 40 := ⟨by kernel_rfl⟩
instance : StrI Tryz.prog 39 [(0, 1), (1, 1), (2, 1)] := ⟨by kernel_rfl⟩
instance : FldI Tryz.prog 39 0 0 4 := .mk' (by kernel_rfl)
instance : FldI Tryz.prog 39 1 1 26 := .mk' (by kernel_rfl)
instance : FldI Tryz.prog 39 2 2 22 := .mk' (by kernel_rfl)
instance : AgI Tryz.prog 40 false := ⟨by kernel_rfl⟩
instance : InfoI Tryz.prog 40 1 (.nilFunc) := ⟨by kernel_rfl⟩
instance : BytI Tryz.prog 40 8 := ⟨by kernel_rfl⟩
instance : AgI Tryz.prog 42 false := ⟨by kernel_rfl⟩
instance : InfoI Tryz.prog 42 1 (.nilFunc) := ⟨by kernel_rfl⟩
instance : BytI Tryz.prog 42 8 := ⟨by kernel_rfl⟩
instance : AgI Tryz.prog 43 false := ⟨by kernel_rfl⟩
instance : InfoI Tryz.prog 43 1 (.nilFunc) := ⟨by kernel_rfl⟩
instance : BytI Tryz.prog 43 8 := ⟨by kernel_rfl⟩
instance : AgI Tryz.prog 44 false := ⟨by kernel_rfl⟩
instance : InfoI Tryz.prog 44 1 (.nilFunc) := ⟨by kernel_rfl⟩
instance : BytI Tryz.prog 44 8 := ⟨by kernel_rfl⟩
instance : AgI Tryz.prog 45 false := ⟨by kernel_rfl⟩
instance : InfoI Tryz.prog 45 1 (.nilFunc) := ⟨by kernel_rfl⟩
instance : BytI Tryz.prog 45 8 := ⟨by kernel_rfl⟩
instance : AgI Tryz.prog 46 false := ⟨by kernel_rfl⟩
instance : InfoI Tryz.prog 46 1 (.nilFunc) := ⟨by kernel_rfl⟩
instance : BytI Tryz.prog 46 8 := ⟨by kernel_rfl⟩
instance : AgI Tryz.prog 47 false := ⟨by kernel_rfl⟩
instance : InfoI Tryz.prog 47 1 (.nilFunc) := ⟨by kernel_rfl⟩
instance : BytI Tryz.prog 47 8 := ⟨by kernel_rfl⟩
instance : AgI Tryz.prog 48 false := ⟨by kernel_rfl⟩
instance : UnI Tryz.prog 48 (.slice 33) := ⟨by kernel_rfl⟩
instance : InfoI Tryz.prog 48 1 (.slice none 0 0) := ⟨by kernel_rfl⟩
instance : BytI Tryz.prog 48 24 := ⟨by kernel_rfl⟩
instance : AgI Tryz.prog 49 false := ⟨by kernel_rfl⟩
instance : UnI Tryz.prog 49 (.int .i64) := ⟨by kernel_rfl⟩
instance : InfoI Tryz.prog 49 1 (.int .i64 0) := ⟨by kernel_rfl⟩
instance : BytI Tryz.prog 49 8 := ⟨by kernel_rfl⟩
instance : AgI Tryz.prog 50 false := ⟨by kernel_rfl⟩
instance : InfoI Tryz.prog 50 1 (.nilFunc) := ⟨by kernel_rfl⟩
instance : BytI Tryz.prog 50 8 := ⟨by kernel_rfl⟩
instance : AgI Tryz.prog 51 false := ⟨by kernel_rfl⟩
instance : InfoI Tryz.prog 51 1 (.nilFunc) := ⟨by kernel_rfl⟩
instance : BytI Tryz.prog 51 8 := ⟨by kernel_rfl⟩
instance : AgI Tryz.prog 53 false := ⟨by kernel_rfl⟩
instance : InfoI Tryz.prog 53 1 (.nilFunc) := ⟨by kernel_rfl⟩
instance : BytI Tryz.prog 53 8 := ⟨by kernel_rfl⟩
instance : AgI Tryz.prog 54 false := ⟨by kernel_rfl⟩
instance : InfoI Tryz.prog 54 1 (.nilFunc) := ⟨by kernel_rfl⟩
instance : BytI Tryz.prog 54 8 := ⟨by kernel_rfl⟩
instance : AgI Tryz.prog 55 false := ⟨by kernel_rfl⟩
instance : InfoI Tryz.prog 55 1 (.nilFunc) := ⟨by kernel_rfl⟩
instance : BytI Tryz.prog 55 8 := ⟨by kernel_rfl⟩
instance : AgI Tryz.prog 56 false := ⟨by kernel_rfl⟩
instance : UnI Tryz.prog 56 (.slice 61) := ⟨by kernel_rfl⟩
instance : InfoI Tryz.prog 56 1 (.slice none 0 0) := ⟨by kernel_rfl⟩
instance : BytI Tryz.prog 56 24 := ⟨by kernel_rfl⟩
instance : AgI Tryz.prog 57 true := ⟨by kernel_rfl⟩
instance : InfoI Tryz.prog 57 3 (.agg #[.bool false, .bool false, .bool false]) := ⟨by kernel_rfl⟩
instance : BytI Tryz.prog 57 3 := ⟨by kernel_rfl⟩
instance : StrI Tryz.prog 57 [(0, 1), (1, 1), (2, 1)] := ⟨by kernel_rfl⟩
instance : FldI Tryz.prog 57 0 0 4 := .mk' (by kernel_rfl)
instance : FldI Tryz.prog 57 1 1 4 := .mk' (by kernel_rfl)
instance : FldI Tryz.prog 57 2 2 4 := .mk' (by kernel_rfl)
instance : AgI Tryz.prog 58 true := ⟨by kernel_rfl⟩
instance : InfoI Tryz.prog 58 3 (.agg #[.bool false, .bool false, .bool false]) := ⟨by kernel_rfl⟩
instance : BytI Tryz.prog 58 3 := ⟨by kernel_rfl⟩
instance : StrI Tryz.prog 58 [(0, 1), (1, 1), (2, 1)] := ⟨by kernel_rfl⟩
instance : FldI Tryz.prog 58 0 0 4 := .mk' (by kernel_rfl)
instance : FldI Tryz.prog 58 1 1 4 := .mk' (by kernel_rfl)
instance : FldI Tryz.prog 58 2 2 4 := .mk' (by kernel_rfl)
instance : AgI Tryz.prog 59 false := ⟨by kernel_rfl⟩
instance : InfoI Tryz.prog 59 1 (.nilFunc) := ⟨by kernel_rfl⟩
instance : BytI Tryz.prog 59 8 := ⟨by kernel_rfl⟩
instance : AgI Tryz.prog 60 true := ⟨by kernel_rfl⟩
instance : InfoI Tryz.prog 60 4 (.agg #[.int .i64 0, .int .u8 0, .slice none 0 0, .slice none 0 0]) := ⟨by kernel_rfl⟩
instance : BytI Tryz.prog 60 64 := ⟨by kernel_rfl⟩
instance : StrI Tryz.prog 60 [(0, 1), (1, 1), (2, 1), (3, 1)] := ⟨by kernel_rfl⟩
instance : FldI Tryz.prog 60 0 0 3 := .mk' (by kernel_rfl)
instance : FldI Tryz.prog 60 1 1 5 := .mk' (by kernel_rfl)
instance : FldI Tryz.prog 60 2 2 23 := .mk' (by kernel_rfl)
instance : FldI Tryz.prog 60 3 3 22 := .mk' (by kernel_rfl)
instance : AgI Tryz.prog 61 true := ⟨by kernel_rfl⟩
instance : InfoI Tryz.prog 61 4 (.agg #[.int .i64 0, .int .u8 0, .slice none 0 0, .slice none 0 0]) := ⟨by kernel_rfl⟩
instance : BytI Tryz.prog 61 64 := ⟨by kernel_rfl⟩
instance : StrI Tryz.prog 61 [(0, 1), (1, 1), (2, 1), (3, 1)] := ⟨by kernel_rfl⟩
instance : FldI Tryz.prog 61 0 0 3 := .mk' (by kernel_rfl)
instance : FldI Tryz.prog 61 1 1 5 := .mk' (by kernel_rfl)
instance : FldI Tryz.prog 61 2 2 23 := .mk' (by kernel_rfl)
instance : FldI Tryz.prog 61 3 3 22 := .mk' (by kernel_rfl)
instance : AgI Tryz.prog 62 false := ⟨by kernel_rfl⟩
instance : InfoI Tryz.prog 62 1 (.nilFunc) := ⟨by kernel_rfl⟩
instance : BytI Tryz.prog 62 8 := ⟨by kernel_rfl⟩
instance : AgI Tryz.prog 64 false := ⟨by kernel_rfl⟩
instance : InfoI Tryz.prog 64 1 (.nilFunc) := ⟨by kernel_rfl⟩
instance : BytI Tryz.prog 64 8 := ⟨by kernel_rfl⟩
instance : AgI Tryz.prog 66 false := ⟨by kernel_rfl⟩
instance : InfoI Tryz.prog 66 1 (.nilFunc) := ⟨by kernel_rfl⟩
instance : BytI Tryz.prog 66 8 := ⟨by kernel_rfl⟩
instance : AgI Tryz.prog 67 false := ⟨by kernel_rfl⟩
instance : InfoI Tryz.prog 67 1 (.nilFunc) := ⟨by kernel_rfl⟩
instance : BytI Tryz.prog 67 8 := ⟨by kernel_rfl⟩
instance : AgI Tryz.prog 68 false := ⟨by kernel_rfl⟩
instance : InfoI Tryz.prog 68 1 (.nilFunc) := ⟨by kernel_rfl⟩
instance : BytI Tryz.prog 68 8 := ⟨by kernel_rfl⟩
instance : AgI Tryz.prog 69 false := ⟨by kernel_rfl⟩
instance : InfoI Tryz.prog 69 1 (.nilFunc) := ⟨by kernel_rfl⟩
instance : BytI Tryz.prog 69 8 := ⟨by kernel_rfl⟩
instance : AgI Tryz.prog 70 false := ⟨by kernel_rfl⟩
instance : InfoI Tryz.prog 70 1 (.nilFunc) := ⟨by kernel_rfl⟩
instance : BytI Tryz.prog 70 8 := ⟨by kernel_rfl⟩
instance : AgI Tryz.prog 71 false := ⟨by kernel_rfl⟩
instance : InfoI Tryz.prog 71 1 (.nilFunc) := ⟨by kernel_rfl⟩
instance : BytI Tryz.prog 71 8 := ⟨by kernel_rfl⟩
instance : AgI Tryz.prog 72 false := ⟨by kernel_rfl⟩
instance : InfoI Tryz.prog 72 1 (.nilFunc) := ⟨by kernel_rfl⟩
instance : BytI Tryz.prog 72 8 := ⟨by kernel_rfl⟩
instance : AgI Tryz.prog 73 false := ⟨by kernel_rfl⟩
instance : InfoI Tryz.prog 73 1 (.nilFunc) := ⟨by kernel_rfl⟩
instance : BytI Tryz.prog 73 8 := ⟨by kernel_rfl⟩
instance : AgI Tryz.prog 74 false := ⟨by kernel_rfl⟩
instance : InfoI Tryz.prog 74 1 (.nilFunc) := ⟨by kernel_rfl⟩
instance : BytI Tryz.prog 74 8 := ⟨by kernel_rfl⟩
instance : AgI Tryz.prog 76 false := ⟨by kernel_rfl⟩
instance : InfoI Tryz.prog 76 1 (.nilFunc) := ⟨by kernel_rfl⟩
instance : BytI Tryz.prog 76 8 := ⟨by kernel_rfl⟩
instance : AgI Tryz.prog 77 false := ⟨by kernel_rfl⟩
instance : InfoI Tryz.prog 77 1 (.nilFunc) := ⟨by kernel_rfl⟩
instance : BytI Tryz.prog 77 8 := ⟨by kernel_rfl⟩
instance : AgI Tryz.prog 78 false := ⟨by kernel_rfl⟩
instance : InfoI Tryz.prog 78 1 (.nilFunc) := ⟨by kernel_rfl⟩
instance : BytI Tryz.prog 78 8 := ⟨by kernel_rfl⟩
instance : AgI Tryz.prog 79 false := ⟨by kernel_rfl⟩
instance : InfoI Tryz.prog 79 1 (.nilFunc) := ⟨by kernel_rfl⟩
instance : BytI Tryz.prog 79 8 := ⟨by kernel_rfl⟩
instance : AgI Tryz.prog 80 false := ⟨by kernel_rfl⟩
instance : InfoI Tryz.prog 80 1 (.nilFunc) := ⟨by kernel_rfl⟩
instance : BytI Tryz.prog 80 8 := ⟨by kernel_rfl⟩
instance : AgI Tryz.prog 81 false := ⟨by kernel_rfl⟩
instance : InfoI Tryz.prog 81 1 (.nilFunc) := ⟨by kernel_rfl⟩
instance : BytI Tryz.prog 81 8 := ⟨by kernel_rfl⟩
instance : AgI Tryz.prog 82 false := ⟨by kernel_rfl⟩
instance : InfoI Tryz.prog 82 1 (.nilFunc) := ⟨by kernel_rfl⟩
instance : BytI Tryz.prog 82 8 := ⟨by kernel_rfl⟩
instance : AgI Tryz.prog 83 true := ⟨by kernel_rfl⟩
instance : UnI Tryz.prog 83 (.array 6 22) := ⟨by kernel_rfl⟩
instance : InfoI Tryz.prog 83 6 (.agg #[.slice none 0 0, .slice none 0 0, .slice none 0 0, .slice none 0 0, .slice none 0 0, .slice none 0 0]) := ⟨by kernel_rfl⟩
instance : BytI Tryz.prog 83 144 := ⟨by kernel_rfl⟩
instance : AgI Tryz.prog 84 true := ⟨by kernel_rfl⟩
instance : InfoI Tryz.prog 84 5 (.agg #[.int .i64 0, .int .i64 0, .int .i64 0, .int .i64 0, .int .i64 0]) := ⟨by kernel_rfl⟩
instance : BytI Tryz.prog 84 40 := ⟨by kernel_rfl⟩
instance : StrI Tryz.prog 84 [(0, 1), (1, 1), (2, 1), (3, 1), (4, 1)] := ⟨by kernel_rfl⟩
instance : FldI Tryz.prog 84 0 0 3 := .mk' (by kernel_rfl)
instance : FldI Tryz.prog 84 1 1 3 := .mk' (by kernel_rfl)
instance : FldI Tryz.prog 84 2 2 3 := .mk' (by kernel_rfl)
instance : FldI Tryz.prog 84 3 3 3 := .mk' (by kernel_rfl)
instance : FldI Tryz.prog 84 4 4 3 := .mk' (by kernel_rfl)
instance : AgI Tryz.prog 85 true := ⟨by kernel_rfl⟩
instance : InfoI Tryz.prog 85 5 (.agg #[.int .i64 0, .int .i64 0, .int .i64 0, .int .i64 0, .int .i64 0]) := ⟨by kernel_rfl⟩
instance : BytI Tryz.prog 85 40 := ⟨by kernel_rfl⟩
instance : StrI Tryz.prog 85 [(0, 1), (1, 1), (2, 1), (3, 1), (4, 1)] := ⟨by kernel_rfl⟩
instance : FldI Tryz.prog 85 0 0 3 := .mk' (by kernel_rfl)
instance : FldI Tryz.prog 85 1 1 3 := .mk' (by kernel_rfl)
instance : FldI Tryz.prog 85 2 2 3 := .mk' (by kernel_rfl)
instance : FldI Tryz.prog 85 3 3 3 := .mk' (by kernel_rfl)
instance : FldI Tryz.prog 85 4 4 3 := .mk' (by kernel_rfl)
instance : AgI Tryz.prog 87 false := ⟨by kernel_rfl⟩
instance : InfoI Tryz.prog 87 1 (.nilFunc) := ⟨by kernel_rfl⟩
instance : BytI Tryz.prog 87 8 := ⟨by kernel_rfl⟩
instance : AgI Tryz.prog 88 false := ⟨by kernel_rfl⟩
instance : InfoI Tryz.prog 88 1 (.nilFunc) := ⟨by kernel_rfl⟩
instance : BytI Tryz.prog 88 8 := ⟨by kernel_rfl⟩
instance : AgI Tryz.prog 89 false := ⟨by kernel_rfl⟩
instance : InfoI Tryz.prog 89 1 (.nilFunc) := ⟨by kernel_rfl⟩
instance : BytI Tryz.prog 89 8 := ⟨by kernel_rfl⟩
instance : AgI Tryz.prog 90 false := ⟨by kernel_rfl⟩
instance : InfoI Tryz.prog 90 1 (.nilFunc) := ⟨by kernel_rfl⟩
instance : BytI Tryz.prog 90 8 := ⟨by kernel_rfl⟩
instance : AgI Tryz.prog 91 false := ⟨by kernel_rfl⟩
instance : InfoI Tryz.prog 91 1 (.nilFunc) := ⟨by kernel_rfl⟩
instance : BytI Tryz.prog 91 8 := ⟨by kernel_rfl⟩
instance : AgI Tryz.prog 92 false := ⟨by kernel_rfl⟩
instance : InfoI Tryz.prog 92 1 (.nilFunc) := ⟨by kernel_rfl⟩
instance : BytI Tryz.prog 92 8 := ⟨by kernel_rfl⟩
instance : AgI Tryz.prog 93 false := ⟨by kernel_rfl⟩
instance : InfoI Tryz.prog 93 1 (.nilFunc) := ⟨by kernel_rfl⟩
instance : BytI Tryz.prog 93 8 := ⟨by kernel_rfl⟩
instance : AgI Tryz.prog 94 false := ⟨by kernel_rfl⟩
instance : UnI Tryz.prog 94 (.pointer 96) := ⟨by kernel_rfl⟩
instance : InfoI Tryz.prog 94 1 (.pointer none) := ⟨by kernel_rfl⟩
instance : BytI Tryz.prog 94 8 := ⟨by kernel_rfl⟩
instance : AgI Tryz.prog 95 true := ⟨by kernel_rfl⟩
instance : InfoI Tryz.prog 95 41 (.agg #[.slice none 0 0, .int .i64 0, .slice none 0 0, .slice none 0 0, .int .u64 0, .int .u64 0, .int .u64 0, .int .u64 0, .int .u64 0, .int .u64 0, .int .u64 0, .slice none 0 0, .slice none 0 0, .bool false, .int .i64 0, .int .i64 0, .int .i64 0, .int .i64 0, .int .i64 0, .int .i64 0, .int .u8 0, .slice none 0 0, .slice none 0 0, .bool false, .bool false, .bool false, .int .u8 0, .int .u64 0, .int .u64 0, .int .u64 0, .int .u64 0, .int .u64 0, .int .u64 0, .int .u64 0, .bool false, .int .u64 0, .slice none 0 0, .slice none 0 0, .int .u64 0, .int .u64 0, .bool false]) := ⟨by kernel_rfl⟩
instance : BytI Tryz.prog 95 456 := ⟨by kernel_rfl⟩
instance : StrI Tryz.prog 95 [(0, 14), (14, 5), (19, 4), (23, 3), (26, 15)] := ⟨by kernel_rfl⟩
instance : FldI Tryz.prog 95 0 0 31 := .mk' (by kernel_rfl)
instance : FldI Tryz.prog 95 1 14 85 := .mk' (by kernel_rfl)
instance : FldI Tryz.prog 95 2 19 61 := .mk' (by kernel_rfl)
instance : FldI Tryz.prog 95 3 23 58 := .mk' (by kernel_rfl)
instance : FldI Tryz.prog 95 4 26 33 := .mk' (by kernel_rfl)
instance : AgI Tryz.prog 96 true := ⟨by kernel_rfl⟩
instance : InfoI Tryz.prog 96 41 (.agg #[.slice none 0 0, .int .i64 0, .slice none 0 0, .slice none 0 0, .int .u64 0, .int .u64 0, .int .u64 0, .int .u64 0, .int .u64 0, .int .u64 0, .int .u64 0, .slice none 0 0, .slice none 0 0, .bool false, .int .i64 0, .int .i64 0, .int .i64 0, .int .i64 0, .int .i64 0, .int .i64 0, .int .u8 0, .slice none 0 0, .slice none 0 0, .bool false, .bool false, .bool false, .int .u8 0, .int .u64 0, .int .u64 0, .int .u64 0, .int .u64 0, .int .u64 0, .int .u64 0, .int .u64 0, .bool false, .int .u64 0, .slice none 0 0, .slice none 0 0, .int .u64 0, .int .u64 0, .bool false]) := ⟨by kernel_rfl⟩
instance : BytI Tryz.prog 96 456 := ⟨by kernel_rfl⟩
instance : StrI Tryz.prog 96 [(0, 14), (14, 5), (19, 4), (23, 3), (26, 15)] := ⟨by kernel_rfl⟩
instance : FldI Tryz.prog 96 0 0 31 := .mk' (by kernel_rfl)
instance : FldI Tryz.prog 96 1 14 85 := .mk' (by kernel_rfl)
instance : FldI Tryz.prog 96 2 19 61 := .mk' (by kernel_rfl)
instance : FldI Tryz.prog 96 3 23 58 := .mk' (by kernel_rfl)
instance : FldI Tryz.prog 96 4 26 33 := .mk' (by kernel_rfl)
instance : AgI Tryz.prog 97 true := ⟨by kernel_rfl⟩
instance : InfoI Tryz.prog 97 0 (.agg #[]) := ⟨by kernel_rfl⟩
instance : BytI Tryz.prog 97 0 := ⟨by kernel_rfl⟩
instance : StrI Tryz.prog 97 [] := ⟨by kernel_rfl⟩
instance : AgI Tryz.prog 98 true := ⟨by kernel_rfl⟩
instance : InfoI Tryz.prog 98 0 (.agg #[]) := ⟨by kernel_rfl⟩
instance : BytI Tryz.prog 98 0 := ⟨by kernel_rfl⟩
instance : StrI Tryz.prog 98 [] := ⟨by kernel_rfl⟩
instance : AgI Tryz.prog 100 true := ⟨by kernel_rfl⟩
instance : UnI Tryz.prog 100 (.array 3 1) := ⟨by kernel_rfl⟩
instance : InfoI Tryz.prog 100 3 (.agg #[.nilFunc, .nilFunc, .nilFunc]) := ⟨by kernel_rfl⟩
instance : BytI Tryz.prog 100 24 := ⟨by kernel_rfl⟩
instance : AgI Tryz.prog 101 false := ⟨by kernel_rfl⟩
instance : InfoI Tryz.prog 101 1 (.nilFunc) := ⟨by kernel_rfl⟩
instance : BytI Tryz.prog 101 8 := ⟨by kernel_rfl⟩
instance : AgI Tryz.prog 102 false := ⟨by kernel_rfl⟩
instance : InfoI Tryz.prog 102 1 (.nilFunc) := ⟨by kernel_rfl⟩
instance : BytI Tryz.prog 102 8 := ⟨by kernel_rfl⟩
instance : AgI Tryz.prog 103 false := ⟨by kernel_rfl⟩
instance : InfoI Tryz.prog 103 1 (.nilFunc) := ⟨by kernel_rfl⟩
instance : BytI Tryz.prog 103 8 := ⟨by kernel_rfl⟩
instance : AgI Tryz.prog 104 false := ⟨by kernel_rfl⟩
instance : InfoI Tryz.prog 104 1 (.nilFunc) := ⟨by kernel_rfl⟩
instance : BytI Tryz.prog 104 8 := ⟨by kernel_rfl⟩
instance : AgI Tryz.prog 105 false := ⟨by kernel_rfl⟩
instance : InfoI Tryz.prog 105 1 (.nilFunc) := ⟨by kernel_rfl⟩
instance : BytI Tryz.prog 105 8 := ⟨by kernel_rfl⟩
instance : AgI Tryz.prog 106 true := ⟨by kernel_rfl⟩
instance : UnI Tryz.prog 106 (.array 32 5) := ⟨by kernel_rfl⟩
instance : InfoI Tryz.prog 106 32 (.agg #[.int .u8 0, .int .u8 0, .int .u8 0, .int .u8 0, .int .u8 0, .int .u8 0, .int .u8 0, .int .u8 0, .int .u8 0, .int .u8 0, .int .u8 0, .int .u8 0, .int .u8 0, .int .u8 0, .int .u8 0, .int .u8 0, .int .u8 0, .int .u8 0, .int .u8 0, .int .u8 0, .int .u8 0, .int .u8 0, .int .u8 0, .int .u8 0, .int .u8 0, .int .u8 0, .int .u8 0, .int .u8 0, .int .u8 0, .int .u8 0, .int .u8 0, .int .u8 0]) := ⟨by kernel_rfl⟩
instance : BytI Tryz.prog 106 32 := ⟨by kernel_rfl⟩
instance : EqI Tryz.prog 106 32 .u8 := .mk' (by kernel_rfl)
instance : AgI Tryz.prog 107 true := ⟨by kernel_rfl⟩
instance : UnI Tryz.prog 107 (.array 32 5) := ⟨by kernel_rfl⟩
instance : InfoI Tryz.prog 107 32 (.agg #[.int .u8 0, .int .u8 0, .int .u8 0, .int .u8 0, .int .u8 0, .int .u8 0, .int .u8 0, .int .u8 0, .int .u8 0, .int .u8 0, .int .u8 0, .int .u8 0, .int .u8 0, .int .u8 0, .int .u8 0, .int .u8 0, .int .u8 0, .int .u8 0, .int .u8 0, .int .u8 0, .int .u8 0, .int .u8 0, .int .u8 0, .int .u8 0, .int .u8 0, .int .u8 0, .int .u8 0, .int .u8 0, .int .u8 0, .int .u8 0, .int .u8 0, .int .u8 0]) := ⟨by kernel_rfl⟩
instance : BytI Tryz.prog 107 32 := ⟨by kernel_rfl⟩
instance : EqI Tryz.prog 107 32 .u8 := .mk' (by kernel_rfl)
instance : AgI Tryz.prog 108 false := ⟨by kernel_rfl⟩
instance : InfoI Tryz.prog 108 1 (.nilFunc) := ⟨by kernel_rfl⟩
instance : BytI Tryz.prog 108 8 := ⟨by kernel_rfl⟩
instance : AgI Tryz.prog 109 false := ⟨by kernel_rfl⟩
instance : InfoI Tryz.prog 109 1 (.nilFunc) := ⟨by kernel_rfl⟩
instance : BytI Tryz.prog 109 8 := ⟨by kernel_rfl⟩
instance : AgI Tryz.prog 110 false := ⟨by kernel_rfl⟩
instance : InfoI Tryz.prog 110 1 (.nilFunc) := ⟨by kernel_rfl⟩
instance : BytI Tryz.prog 110 8 := ⟨by kernel_rfl⟩
instance : AgI Tryz.prog 111 false := ⟨by kernel_rfl⟩
instance : InfoI Tryz.prog 111 1 (.nilFunc) := ⟨by kernel_rfl⟩
instance : BytI Tryz.prog 111 8 := ⟨by kernel_rfl⟩
instance : AgI Tryz.prog 113 false := ⟨by kernel_rfl⟩
instance : InfoI Tryz.prog 113 1 (.nilFunc) := ⟨by kernel_rfl⟩
instance : BytI Tryz.prog 113 8 := ⟨by kernel_rfl⟩
instance : AgI Tryz.prog 114 false := ⟨by kernel_rfl⟩
instance : InfoI Tryz.prog 114 1 (.nilFunc) := ⟨by kernel_rfl⟩
instance : BytI Tryz.prog 114 8 := ⟨by kernel_rfl⟩
instance : AgI Tryz.prog 115 false := ⟨by kernel_rfl⟩
instance : InfoI Tryz.prog 115 1 (.nilFunc) := ⟨by kernel_rfl⟩
instance : BytI Tryz.prog 115 8 := ⟨by kernel_rfl⟩
instance : AgI Tryz.prog 116 false := ⟨by kernel_rfl⟩
instance : UnI Tryz.prog 116 (.pointer 155) := ⟨by kernel_rfl⟩
instance : InfoI Tryz.prog 116 1 (.pointer none) := ⟨by kernel_rfl⟩
instance : BytI Tryz.prog 116 8 := ⟨by kernel_rfl⟩
instance : AgI Tryz.prog 117 false := ⟨by kernel_rfl⟩
instance : InfoI Tryz.prog 117 1 (.nilFunc) := ⟨by kernel_rfl⟩
instance : BytI Tryz.prog 117 8 := ⟨by kernel_rfl⟩
instance : AgI Tryz.prog 118 false := ⟨by kernel_rfl⟩
instance : InfoI Tryz.prog 118 1 (.nilFunc) := ⟨by kernel_rfl⟩
instance : BytI Tryz.prog 118 8 := ⟨by kernel_rfl⟩
instance : AgI Tryz.prog 119 false := ⟨by kernel_rfl⟩
instance : InfoI Tryz.prog 119 1 (.nilFunc) := ⟨by kernel_rfl⟩
instance : BytI Tryz.prog 119 8 := ⟨by kernel_rfl⟩
instance : AgI Tryz.prog 120 false := ⟨by kernel_rfl⟩
instance : InfoI Tryz.prog 120 1 (.nilFunc) := ⟨by kernel_rfl⟩
instance : BytI Tryz.prog 120 8 := ⟨by kernel_rfl⟩
instance : AgI Tryz.prog 121 false := ⟨by kernel_rfl⟩
instance : InfoI Tryz.prog 121 1 (.nilFunc) := ⟨by kernel_rfl⟩
instance : BytI Tryz.prog 121 8 := ⟨by kernel_rfl⟩
instance : AgI Tryz.prog 122 false := ⟨by kernel_rfl⟩
instance : InfoI Tryz.prog 122 1 (.nilFunc) := ⟨by kernel_rfl⟩
instance : BytI Tryz.prog 122 8 := ⟨by kernel_rfl⟩
instance : AgI Tryz.prog 123 false := ⟨by kernel_rfl⟩
instance : InfoI Tryz.prog 123 1 (.nilFunc) := ⟨by kernel_rfl⟩
instance : BytI Tryz.prog 123 8 := ⟨by kernel_rfl⟩
instance : AgI Tryz.prog 124 false := ⟨by kernel_rfl⟩
instance : InfoI Tryz.prog 124 1 (.nilFunc) := ⟨by kernel_rfl⟩
instance : BytI Tryz.prog 124 8 := ⟨by kernel_rfl⟩
instance : AgI Tryz.prog 125 false := ⟨by kernel_rfl⟩
instance : InfoI Tryz.prog 125 1 (.nilFunc) := ⟨by kernel_rfl⟩
instance : BytI Tryz.prog 125 8 := ⟨by kernel_rfl⟩
instance : AgI Tryz.prog 126 false := ⟨by kernel_rfl⟩
instance : UnI Tryz.prog 126 (.pointer 33) := ⟨by kernel_rfl⟩
instance : InfoI Tryz.prog 126 1 (.pointer none) := ⟨by kernel_rfl⟩
instance : BytI Tryz.prog 126 8 := ⟨by kernel_rfl⟩
instance : AgI Tryz.prog 127 false := ⟨by kernel_rfl⟩
instance : InfoI Tryz.prog 127 1 (.nilFunc) := ⟨by kernel_rfl⟩
instance : BytI Tryz.prog 127 8 := ⟨by kernel_rfl⟩
instance : AgI Tryz.prog 129 false := ⟨by kernel_rfl⟩
instance : InfoI Tryz.prog 129 1 (.nilFunc) := ⟨by kernel_rfl⟩
instance : BytI Tryz.prog 129 8 := ⟨by kernel_rfl⟩
instance : AgI Tryz.prog 130 false := ⟨by kernel_rfl⟩
instance : InfoI Tryz.prog 130 1 (.nilFunc) := ⟨by kernel_rfl⟩
instance : BytI Tryz.prog 130 8 := ⟨by kernel_rfl⟩
instance : AgI Tryz.prog 131 false := ⟨by kernel_rfl⟩
instance : InfoI Tryz.prog 131 1 (.nilFunc) := ⟨by kernel_rfl⟩
instance : BytI Tryz.prog 131 8 := ⟨by kernel_rfl⟩
instance : AgI Tryz.prog 133 false := ⟨by kernel_rfl⟩
instance : InfoI Tryz.prog 133 1 (.nilFunc) := ⟨by kernel_rfl⟩
instance : BytI Tryz.prog 133 8 := ⟨by kernel_rfl⟩
instance : AgI Tryz.prog 134 false := ⟨by kernel_rfl⟩
instance : InfoI Tryz.prog 134 1 (.nilFunc) := ⟨by kernel_rfl⟩
instance : BytI Tryz.prog 134 8 := ⟨by kernel_rfl⟩
instance : AgI Tryz.prog 135 true := ⟨by kernel_rfl⟩
instance : InfoI Tryz.prog 135 5 (.agg #[.int .u8 0, .string ⟨#[]⟩, .int .i64 0, .int .i64 0, .int .i64 0]) := ⟨by kernel_rfl⟩
instance : BytI Tryz.prog 135 48 := ⟨by kernel_rfl⟩
instance : StrI Tryz.prog 135 [(0, 1), (1, 1), (2, 1), (3, 1), (4, 1)] := ⟨by kernel_rfl⟩
instance : FldI Tryz.prog 135 0 0 5 := .mk' (by kernel_rfl)
instance : FldI Tryz.prog 135 1 1 9 := .mk' (by kernel_rfl)
instance : FldI Tryz.prog 135 2 2 3 := .mk' (by kernel_rfl)
instance : FldI Tryz.prog 135 3 3 3 := .mk' (by kernel_rfl)
instance : FldI Tryz.prog 135 4 4 3 := .mk' (by kernel_rfl)
instance : AgI Tryz.prog 136 true := ⟨by kernel_rfl⟩
instance : InfoI Tryz.prog 136 5 (.agg #[.int .u8 0, .string ⟨#[]⟩, .int .i64 0, .int .i64 0, .int .i64 0]) := ⟨by kernel_rfl⟩
instance : BytI Tryz.prog 136 48 := ⟨by kernel_rfl⟩
instance : StrI Tryz.prog 136 [(0, 1), (1, 1), (2, 1), (3, 1), (4, 1)] := ⟨by kernel_rfl⟩
instance : FldI Tryz.prog 136 0 0 5 := .mk' (by kernel_rfl)
instance : FldI Tryz.prog 136 1 1 9 := .mk' (by kernel_rfl)
instance : FldI Tryz.prog 136 2 2 3 := .mk' (by kernel_rfl)
instance : FldI Tryz.prog 136 3 3 3 := .mk' (by kernel_rfl)
instance : FldI Tryz.prog 136 4 4 3 := .mk' (by kernel_rfl)
instance : AgI Tryz.prog 138 false := ⟨by kernel_rfl⟩
instance : InfoI Tryz.prog 138 1 (.nilFunc) := ⟨by kernel_rfl⟩
instance : BytI Tryz.prog 138 8 := ⟨by kernel_rfl⟩
instance : AgI Tryz.prog 139 true := ⟨by kernel_rfl⟩
instance : UnI Tryz.prog 139 (.array 25 26) := ⟨by kernel_rfl⟩
instance : InfoI Tryz.prog 139 25 (.agg #[.int .u64 0, .int .u64 0, .int .u64 0, .int .u64 0, .int .u64 0, .int .u64 0, .int .u64 0, .int .u64 0, .int .u64 0, .int .u64 0, .int .u64 0, .int .u64 0, .int .u64 0, .int .u64 0, .int .u64 0, .int .u64 0, .int .u64 0, .int .u64 0, .int .u64 0, .int .u64 0, .int .u64 0, .int .u64 0, .int .u64 0, .int .u64 0, .int .u64 0]) := ⟨by kernel_rfl⟩
instance : BytI Tryz.prog 139 200 := ⟨by kernel_rfl⟩
instance : EqI Tryz.prog 139 25 .u64 := .mk' (by kernel_rfl)
instance : AgI Tryz.prog 140 true := ⟨by kernel_rfl⟩
instance : UnI Tryz.prog 140 (.array 25 26) := ⟨by kernel_rfl⟩
instance : InfoI Tryz.prog 140 25 (.agg #[.int .u64 0, .int .u64 0, .int .u64 0, .int .u64 0, .int .u64 0, .int .u64 0, .int .u64 0, .int .u64 0, .int .u64 0, .int .u64 0, .int .u64 0, .int .u64 0, .int .u64 0, .int .u64 0, .int .u64 0, .int .u64 0, .int .u64 0, .int .u64 0, .int .u64 0, .int .u64 0, .int .u64 0, .int .u64 0, .int .u64 0, .int .u64 0, .int .u64 0]) := ⟨by kernel_rfl⟩
instance : BytI Tryz.prog 140 200 := ⟨by kernel_rfl⟩
instance : EqI Tryz.prog 140 25 .u64 := .mk' (by kernel_rfl)
instance : AgI Tryz.prog 141 false := ⟨by kernel_rfl⟩
instance : InfoI Tryz.prog 141 1 (.nilFunc) := ⟨by kernel_rfl⟩
instance : BytI Tryz.prog 141 8 := ⟨by kernel_rfl⟩
instance : AgI Tryz.prog 142 false := ⟨by kernel_rfl⟩
instance : InfoI Tryz.prog 142 1 (.nilFunc) := ⟨by kernel_rfl⟩
instance : BytI Tryz.prog 142 8 := ⟨by kernel_rfl⟩
instance : AgI Tryz.prog 143 false := ⟨by kernel_rfl⟩
instance : InfoI Tryz.prog 143 1 (.nilFunc) := ⟨by kernel_rfl⟩
instance : BytI Tryz.prog 143 8 := ⟨by kernel_rfl⟩
instance : AgI Tryz.prog 144 false := ⟨by kernel_rfl⟩
instance : InfoI Tryz.prog 144 1 (.nilFunc) := ⟨by kernel_rfl⟩
instance : BytI Tryz.prog 144 8 := ⟨by kernel_rfl⟩
instance : AgI Tryz.prog 145 false := ⟨by kernel_rfl⟩
instance : UnI Tryz.prog 145 (.slice 22) := ⟨by kernel_rfl⟩
instance : InfoI Tryz.prog 145 1 (.slice none 0 0) := ⟨by kernel_rfl⟩
instance : BytI Tryz.prog 145 24 := ⟨by kernel_rfl⟩
instance : AgI Tryz.prog 146 false := ⟨by kernel_rfl⟩
instance : InfoI Tryz.prog 146 1 (.nilFunc) := ⟨by kernel_rfl⟩
instance : BytI Tryz.prog 146 8 := ⟨by kernel_rfl⟩
instance : AgI Tryz.prog 147 false := ⟨by kernel_rfl⟩
instance : UnI Tryz.prog 147 (.int .u64) := ⟨by kernel_rfl⟩
instance : InfoI Tryz.prog 147 1 (.int .u64 0) := ⟨by kernel_rfl⟩
instance : BytI Tryz.prog 147 8 := ⟨by kernel_rfl⟩
instance : AgI Tryz.prog 148 false := ⟨by kernel_rfl⟩
instance : InfoI Tryz.prog 148 1 (.nilFunc) := ⟨by kernel_rfl⟩
instance : BytI Tryz.prog 148 8 := ⟨by kernel_rfl⟩
instance : AgI Tryz.prog 149 false := ⟨by kernel_rfl⟩
instance : InfoI Tryz.prog 149 1 (.nilFunc) := ⟨by kernel_rfl⟩
instance : BytI Tryz.prog 149 8 := ⟨by kernel_rfl⟩
instance : AgI Tryz.prog 150 false := ⟨by kernel_rfl⟩
instance : InfoI Tryz.prog 150 1 (.nilFunc) := ⟨by kernel_rfl⟩
instance : BytI Tryz.prog 150 8 := ⟨by kernel_rfl⟩
instance : AgI Tryz.prog 151 true := ⟨by kernel_rfl⟩
instance : InfoI Tryz.prog 151 4 (.agg #[.int .u64 0, .int .u64 0, .int .u64 0, .int .u64 0]) := ⟨by kernel_rfl⟩
instance : BytI Tryz.prog 151 32 := ⟨by kernel_rfl⟩
instance : StrI Tryz.prog 151 [(0, 1), (1, 1), (2, 1), (3, 1)] := ⟨by kernel_rfl⟩
instance : FldI Tryz.prog 151 0 0 27 := .mk' (by kernel_rfl)
instance : FldI Tryz.prog 151 1 1 26 := .mk' (by kernel_rfl)
instance : FldI Tryz.prog 151 2 2 26 := .mk' (by kernel_rfl)
instance : FldI Tryz.prog 151 3 3 26 := .mk' (by kernel_rfl)
instance : AgI Tryz.prog 152 true := ⟨by kernel_rfl⟩
instance : InfoI Tryz.prog 152 4 (.agg #[.int .u64 0, .int .u64 0, .int .u64 0, .int .u64 0]) := ⟨by kernel_rfl⟩
instance : BytI Tryz.prog 152 32 := ⟨by kernel_rfl⟩
instance : StrI Tryz.prog 152 [(0, 1), (1, 1), (2, 1), (3, 1)] := ⟨by kernel_rfl⟩
instance : FldI Tryz.prog 152 0 0 27 := .mk' (by kernel_rfl)
instance : FldI Tryz.prog 152 1 1 26 := .mk' (by kernel_rfl)
instance : FldI Tryz.prog 152 2 2 26 := .mk' (by kernel_rfl)
instance : FldI Tryz.prog 152 3 3 26 := .mk' (by kernel_rfl)
instance : AgI Tryz.prog 153 false := ⟨by kernel_rfl⟩
instance : InfoI Tryz.prog 153 1 (.nilFunc) := ⟨by kernel_rfl⟩
instance : BytI Tryz.prog 153 8 := ⟨by kernel_rfl⟩
instance : AgI Tryz.prog 154 true := ⟨by kernel_rfl⟩
instance : InfoI Tryz.prog 154 23 (.agg #[.slice none 0 0, .int .i64 0, .slice none 0 0, .slice none 0 0, .int .u64 0, .int .u64 0, .int .u64 0, .int .u64 0, .int .u64 0, .int .u64 0, .int .u64 0, .slice none 0 0, .slice none 0 0, .bool false, .int .u64 0, .int .u64 0, .int .u64 0, .int .u64 0, .slice none 0 0, .int .i64 0, .int .u8 0, .slice none 0 0, .slice none 0 0]) := ⟨by kernel_rfl⟩
instance : BytI Tryz.prog 154 312 := ⟨by kernel_rfl⟩
instance : StrI Tryz.prog 154 [(0, 14), (14, 4), (18, 1), (19, 4)] := ⟨by kernel_rfl⟩
instance : FldI Tryz.prog 154 0 0 31 := .mk' (by kernel_rfl)
instance : FldI Tryz.prog 154 1 14 152 := .mk' (by kernel_rfl)
instance : FldI Tryz.prog 154 2 18 23 := .mk' (by kernel_rfl)
instance : FldI Tryz.prog 154 3 19 61 := .mk' (by kernel_rfl)
instance : AgI Tryz.prog 155 true := ⟨by kernel_rfl⟩
instance : InfoI Tryz.prog 155 23 (.agg #[.slice none 0 0, .int .i64 0, .slice none 0 0, .slice none 0 0, .int .u64 0, .int .u64 0, .int .u64 0, .int .u64 0, .int .u64 0, .int .u64 0, .int .u64 0, .slice none 0 0, .slice none 0 0, .bool false, .int .u64 0, .int .u64 0, .int .u64 0, .int .u64 0, .slice none 0 0, .int .i64 0, .int .u8 0, .slice none 0 0, .slice none 0 0]) := ⟨by kernel_rfl⟩
instance : BytI Tryz.prog 155 312 := ⟨by kernel_rfl⟩
instance : StrI Tryz.prog 155 [(0, 14), (14, 4), (18, 1), (19, 4)] := ⟨by kernel_rfl⟩
instance : FldI Tryz.prog 155 0 0 31 := .mk' (by kernel_rfl)
instance : FldI Tryz.prog 155 1 14 152 := .mk' (by kernel_rfl)
instance : FldI Tryz.prog 155 2 18 23 := .mk' (by kernel_rfl)
instance : FldI Tryz.prog 155 3 19 61 := .mk' (by kernel_rfl)
instance : AgI Tryz.prog 156 false := ⟨by kernel_rfl⟩
instance : UnI Tryz.prog 156 (.slice 26) := ⟨by kernel_rfl⟩
instance : InfoI Tryz.prog 156 1 (.slice none 0 0) := ⟨by kernel_rfl⟩
instance : BytI Tryz.prog 156 24 := ⟨by kernel_rfl⟩
instance : AgI Tryz.prog 158 false := ⟨by kernel_rfl⟩
instance : InfoI Tryz.prog 158 1 (.nilFunc) := ⟨by kernel_rfl⟩
instance : BytI Tryz.prog 158 8 := ⟨by kernel_rfl⟩
instance : AgI Tryz.prog 159 false := ⟨by kernel_rfl⟩
instance : InfoI Tryz.prog 159 1 (.nilFunc) := ⟨by kernel_rfl⟩
instance : BytI Tryz.prog 159 8 := ⟨by kernel_rfl⟩
instance : AgI Tryz.prog 160 false := ⟨by kernel_rfl⟩
instance : InfoI Tryz.prog 160 1 (.nilFunc) := ⟨by kernel_rfl⟩
instance : BytI Tryz.prog 160 8 := ⟨by kernel_rfl⟩
instance : AgI Tryz.prog 162 false := ⟨by kernel_rfl⟩
instance : InfoI Tryz.prog 162 1 (.nilFunc) := ⟨by kernel_rfl⟩
instance : BytI Tryz.prog 162 8 := ⟨by kernel_rfl⟩
instance : AgI Tryz.prog 163 false := ⟨by kernel_rfl⟩
instance : InfoI Tryz.prog 163 1 (.nilFunc) := ⟨by kernel_rfl⟩
instance : BytI Tryz.prog 163 8 := ⟨by kernel_rfl⟩
instance : AgI Tryz.prog 164 false := ⟨by kernel_rfl⟩
instance : InfoI Tryz.prog 164 1 (.nilFunc) := ⟨by kernel_rfl⟩
instance : BytI Tryz.prog 164 8 := ⟨by kernel_rfl⟩
instance : AgI Tryz.prog 166 false := ⟨by kernel_rfl⟩
instance : InfoI Tryz.prog 166 1 (.nilFunc) := ⟨by kernel_rfl⟩
instance : BytI Tryz.prog 166 8 := ⟨by kernel_rfl⟩
instance : AgI Tryz.prog 168 false := ⟨by kernel_rfl⟩
instance : InfoI Tryz.prog 168 1 (.nilFunc) := ⟨by kernel_rfl⟩
instance : BytI Tryz.prog 168 8 := ⟨by kernel_rfl⟩
instance : AgI Tryz.prog 169 false := ⟨by kernel_rfl⟩
instance : InfoI Tryz.prog 169 1 (.nilFunc) := ⟨by kernel_rfl⟩
instance : BytI Tryz.prog 169 8 := ⟨by kernel_rfl⟩
instance : AgI Tryz.prog 170 false := ⟨by kernel_rfl⟩
instance : InfoI Tryz.prog 170 1 (.nilFunc) := ⟨by kernel_rfl⟩
instance : BytI Tryz.prog 170 8 := ⟨by kernel_rfl⟩
instance : AgI Tryz.prog 171 false := ⟨by kernel_rfl⟩
instance : UnI Tryz.prog 171 (.slice 136) := ⟨by kernel_rfl⟩
instance : InfoI Tryz.prog 171 1 (.slice none 0 0) := ⟨by kernel_rfl⟩
instance : BytI Tryz.prog 171 24 := ⟨by kernel_rfl⟩
instance : AgI Tryz.prog 172 false := ⟨by kernel_rfl⟩
instance : InfoI Tryz.prog 172 1 (.nilFunc) := ⟨by kernel_rfl⟩
instance : BytI Tryz.prog 172 8 := ⟨by kernel_rfl⟩
instance : AgI Tryz.prog 173 false := ⟨by kernel_rfl⟩
instance : InfoI Tryz.prog 173 1 (.nilFunc) := ⟨by kernel_rfl⟩
instance : BytI Tryz.prog 173 8 := ⟨by kernel_rfl⟩
instance : AgI Tryz.prog 174 true := ⟨by kernel_rfl⟩
instance : UnI Tryz.prog 174 (.array 24 26) := ⟨by kernel_rfl⟩
instance : InfoI Tryz.prog 174 24 (.agg #[.int .u64 0, .int .u64 0, .int .u64 0, .int .u64 0, .int .u64 0, .int .u64 0, .int .u64 0, .int .u64 0, .int .u64 0, .int .u64 0, .int .u64 0, .int .u64 0, .int .u64 0, .int .u64 0, .int .u64 0, .int .u64 0, .int .u64 0, .int .u64 0, .int .u64 0, .int .u64 0, .int .u64 0, .int .u64 0, .int .u64 0, .int .u64 0]) := ⟨by kernel_rfl⟩
instance : BytI Tryz.prog 174 192 := ⟨by kernel_rfl⟩
instance : EqI Tryz.prog 174 24 .u64 := .mk' (by kernel_rfl)
instance : AgI Tryz.prog 175 false := ⟨by kernel_rfl⟩
instance : InfoI Tryz.prog 175 1 (.nilFunc) := ⟨by kernel_rfl⟩
instance : BytI Tryz.prog 175 8 := ⟨by kernel_rfl⟩
instance : AgI Tryz.prog 176 false := ⟨by kernel_rfl⟩
instance : InfoI Tryz.prog 176 1 (.nilFunc) := ⟨by kernel_rfl⟩
instance : BytI Tryz.prog 176 8 := ⟨by kernel_rfl⟩
instance : AgI Tryz.prog 177 false := ⟨by kernel_rfl⟩
instance : UnI Tryz.prog 177 (.int .u32) := ⟨by kernel_rfl⟩
instance : InfoI Tryz.prog 177 1 (.int .u32 0) := ⟨by kernel_rfl⟩
instance : BytI Tryz.prog 177 4 := ⟨by kernel_rfl⟩
instance : AgI Tryz.prog 179 false := ⟨by kernel_rfl⟩
instance : InfoI Tryz.prog 179 1 (.nilFunc) := ⟨by kernel_rfl⟩
instance : BytI Tryz.prog 179 8 := ⟨by kernel_rfl⟩
instance : AgI Tryz.prog 180 true := ⟨by kernel_rfl⟩
instance : InfoI Tryz.prog 180 0 (.agg #[]) := ⟨by kernel_rfl⟩
instance : BytI Tryz.prog 180 0 := ⟨by kernel_rfl⟩
instance : StrI Tryz.prog 180 [] := ⟨by kernel_rfl⟩
instance : AgI Tryz.prog 181 false := ⟨by kernel_rfl⟩
instance : InfoI Tryz.prog 181 1 (.nilFunc) := ⟨by kernel_rfl⟩
instance : BytI Tryz.prog 181 8 := ⟨by kernel_rfl⟩
instance : AgI Tryz.prog 183 false := ⟨by kernel_rfl⟩
instance : InfoI Tryz.prog 183 1 (.nilFunc) := ⟨by kernel_rfl⟩
instance : BytI Tryz.prog 183 8 := ⟨by kernel_rfl⟩
instance : AgI Tryz.prog 184 false := ⟨by kernel_rfl⟩
instance : UnI Tryz.prog 184 (.slice 3) := ⟨by kernel_rfl⟩
instance : InfoI Tryz.prog 184 1 (.slice none 0 0) := ⟨by kernel_rfl⟩
instance : BytI Tryz.prog 184 24 := ⟨by kernel_rfl⟩
instance : AgI Tryz.prog 185 false := ⟨by kernel_rfl⟩
instance : InfoI Tryz.prog 185 1 (.nilFunc) := ⟨by kernel_rfl⟩
instance : BytI Tryz.prog 185 8 := ⟨by kernel_rfl⟩
instance : AgI Tryz.prog 186 false := ⟨by kernel_rfl⟩
instance : InfoI Tryz.prog 186 1 (.nilFunc) := ⟨by kernel_rfl⟩
instance : BytI Tryz.prog 186 8 := ⟨by kernel_rfl⟩
instance : AgI Tryz.prog 187 false := ⟨by kernel_rfl⟩
instance : InfoI Tryz.prog 187 1 (.nilFunc) := ⟨by kernel_rfl⟩
instance : BytI Tryz.prog 187 8 := ⟨by kernel_rfl⟩
instance : AgI Tryz.prog 188 false := ⟨by kernel_rfl⟩
instance : InfoI Tryz.prog 188 1 (.nilFunc) := ⟨by kernel_rfl⟩
instance : BytI Tryz.prog 188 8 := ⟨by kernel_rfl⟩
instance : AgI Tryz.prog 189 false := ⟨by kernel_rfl⟩
instance : InfoI Tryz.prog 189 1 (.nilFunc) := ⟨by kernel_rfl⟩
instance : BytI Tryz.prog 189 8 := ⟨by kernel_rfl⟩
instance : AgI Tryz.prog 190 true := ⟨by kernel_rfl⟩
instance : UnI Tryz.prog 190 (.array 50 136) := ⟨by kernel_rfl⟩
instance : InfoI Tryz.prog 190 250 (.agg #[.int .u8 0, .string ⟨#[]⟩, .int .i64 0, .int .i64 0, .int .i64 0, .int .u8 0, .string ⟨#[]⟩, .int .i64 0, .int .i64 0, .int .i64 0, .int .u8 0, .string ⟨#[]⟩, .int .i64 0, .int .i64 0, .int .i64 0, .int .u8 0, .string ⟨#[]⟩, .int .i64 0, .int .i64 0, .int .i64 0, .int .u8 0, .string ⟨#[]⟩, .int .i64 0, .int .i64 0, .int .i64 0, .int .u8 0, .string ⟨#[]⟩, .int .i64 0, .int .i64 0, .int .i64 0, .int .u8 0, .string ⟨#[]⟩, .int .i64 0, .int .i64 0, .int .i64 0, .int .u8 0, .string ⟨#[]⟩, .int .i64 0, .int .i64 0, .int .i64 0, .int .u8 0, .string ⟨#[]⟩, .int .i64 0, .int .i64 0, .int .i64 0, .int .u8 0, .string ⟨#[]⟩, .int .i64 0, .int .i64 0, .int .i64 0, .int .u8 0, .string ⟨#[]⟩, .int .i64 0, .int .i64 0, .int .i64 0, .int .u8 0, .string ⟨#[]⟩, .int .i64 0, .int .i64 0, .int .i64 0, .int .u8 0, .string ⟨#[]⟩, .int .i64 0, .int .i64 0, .int .i64 0, .int .u8 0, .string ⟨#[]⟩, .int .i64 0, .int .i64 0, .int .i64 0, .int .u8 0, .string ⟨#[]⟩, .int .i64 0, .int .i64 0, .int .i64 0, .int .u8 0, .string ⟨#[]⟩, .int .i64 0, .int .i64 0, .int .i64 0, .int .u8 0, .string ⟨#[]⟩, .int .i64 0, .int .i64 0, .int .i64 0, .int .u8 0, .string ⟨#[]⟩, .int .i64 0, .int .i64 0, .int .i64 0, .int .u8 0, .string ⟨#[]⟩, .int .i64 0, .int .i64 0, .int .i64 0, .int .u8 0, .string ⟨#[]⟩, .int .i64 0, .int .i64 0, .int .i64 0, .int .u8 0, .string ⟨#[]⟩, .int .i64 0, .int .i64 0, .int .i64 0, .int .u8 0, .string ⟨#[]⟩, .int .i64 0, .int .i64 0, .int .i64 0, .int .u8 0, .string ⟨#[]⟩, .int .i64 0, .int .i64 0, .int .i64 0, .int .u8 0, .string ⟨#[]⟩, .int .i64 0, .int .i64 0, .int .i64 0, .int .u8 0, .string ⟨#[]⟩, .int .i64 0, .int .i64 0, .int .i64 0, .int .u8 0, .string ⟨#[]⟩, .int .i64 0, .int .i64 0, .int .i64 0, .int .u8 0, .string ⟨#[]⟩, .int .i64 0, .int .i64 0, .int .i64 0, .int .u8 0, .string ⟨#[]⟩, .int .i64 0, .int .i64 0, .int .i64 0, .int .u8 0, .string ⟨#[]⟩, .int .i64 0, .int .i64 0, .int .i64 0, .int .u8 0, .string ⟨#[]⟩, .int .i64 0, .int .i64 0, .int .i64 0, .int .u8 0, .string ⟨#[]⟩, .int .i64 0, .int .i64 0, .int .i64 0, .int .u8 0, .string ⟨#[]⟩, .int .i64 0, .int .i64 0, .int .i64 0, .int .u8 0, .string ⟨#[]⟩, .int .i64 0, .int .i64 0, .int .i64 0, .int .u8 0, .string ⟨#[]⟩, .int .i64 0, .int .i64 0, .int .i64 0, .int .u8 0, .string ⟨#[]⟩, .int .i64 0, .int .i64 0, .int .i64 0, .int .u8 0, .string ⟨#[]⟩, .int .i64 0, .int .i64 0, .int .i64 0, .int .u8 0, .string ⟨#[]⟩, .int .i64 0, .int .i64 0, .int .i64 0, .int .u8 0, .string ⟨#[]⟩, .int .i64 0, .int .i64 0, .int .i64 0, .int .u8 0, .string ⟨#[]⟩, .int .i64 0, .int .i64 0, .int .i64 0, .int .u8 0, .string ⟨#[]⟩, .int .i64 0, .int .i64 0, .int .i64 0, .int .u8 0, .string ⟨#[]⟩, .int .i64 0, .int .i64 0, .int .i64 0, .int .u8 0, .string ⟨#[]⟩, .int .i64 0, .int .i64 0, .int .i64 0, .int .u8 0, .string ⟨#[]⟩, .int .i64 0, .int .i64 0, .int .i64 0, .int .u8 0, .string ⟨#[]⟩, .int .i64 0, .int .i64 0, .int .i64 0, .int .u8 0, .string ⟨#[]⟩, .int .i64 0, .int .i64 0, .int .i64 0, .int .u8 0, .string ⟨#[]⟩, .int .i64 0, .int .i64 0, .int .i64 0, .int .u8 0, .string ⟨#[]⟩, .int .i64 0, .int .i64 0, .int .i64 0, .int .u8 0, .string ⟨#[]⟩, .int .i64 0, .int .i64 0, .int .i64 0, .int .u8 0, .string ⟨#[]⟩, .int .i64 0, .int .i64 0, .int .i64 0, .int .u8 0, .string ⟨#[]⟩, .int .i64 0, .int .i64 0, .int .i64 0]) := ⟨by kernel_rfl⟩
instance : BytI Tryz.prog 190 2400 := ⟨by kernel_rfl⟩
instance : AgI Tryz.prog 191 false := ⟨by kernel_rfl⟩
instance : InfoI Tryz.prog 191 1 (.nilFunc) := ⟨by kernel_rfl⟩
instance : BytI Tryz.prog 191 8 := ⟨by kernel_rfl⟩
instance : AgI Tryz.prog 192 false := ⟨by kernel_rfl⟩
instance : InfoI Tryz.prog 192 1 (.nilFunc) := ⟨by kernel_rfl⟩
instance : BytI Tryz.prog 192 8 := ⟨by kernel_rfl⟩
instance : AgI Tryz.prog 193 false := ⟨by kernel_rfl⟩
instance : InfoI Tryz.prog 193 1 (.nilFunc) := ⟨by kernel_rfl⟩
instance : BytI Tryz.prog 193 8 := ⟨by kernel_rfl⟩
instance : AgI Tryz.prog 194 false := ⟨by kernel_rfl⟩
instance : InfoI Tryz.prog 194 1 (.nilFunc) := ⟨by kernel_rfl⟩
instance : BytI Tryz.prog 194 8 := ⟨by kernel_rfl⟩
instance : AgI Tryz.prog 195 false := ⟨by kernel_rfl⟩
instance : InfoI Tryz.prog 195 1 (.nilFunc) := ⟨by kernel_rfl⟩
instance : BytI Tryz.prog 195 8 := ⟨by kernel_rfl⟩
instance : AgI Tryz.prog 196 false := ⟨by kernel_rfl⟩
instance : InfoI Tryz.prog 196 1 (.nilFunc) := ⟨by kernel_rfl⟩
instance : BytI Tryz.prog 196 8 := ⟨by kernel_rfl⟩
instance : AgI Tryz.prog 197 true := ⟨by kernel_rfl⟩
instance : UnI Tryz.prog 197 (.array 5 26) := ⟨by kernel_rfl⟩
instance : InfoI Tryz.prog 197 5 (.agg #[.int .u64 0, .int .u64 0, .int .u64 0, .int .u64 0, .int .u64 0]) := ⟨by kernel_rfl⟩
instance : BytI Tryz.prog 197 40 := ⟨by kernel_rfl⟩
instance : EqI Tryz.prog 197 5 .u64 := .mk' (by kernel_rfl)
instance : AgI Tryz.prog 198 false := ⟨by kernel_rfl⟩
instance : InfoI Tryz.prog 198 1 (.nilFunc) := ⟨by kernel_rfl⟩
instance : BytI Tryz.prog 198 8 := ⟨by kernel_rfl⟩
instance : AgI Tryz.prog 199 true := ⟨by kernel_rfl⟩
instance : UnI Tryz.prog 199 (.array 25 3) := ⟨by kernel_rfl⟩
instance : InfoI Tryz.prog 199 25 (.agg #[.int .i64 0, .int .i64 0, .int .i64 0, .int .i64 0, .int .i64 0, .int .i64 0, .int .i64 0, .int .i64 0, .int .i64 0, .int .i64 0, .int .i64 0, .int .i64 0, .int .i64 0, .int .i64 0, .int .i64 0, .int .i64 0, .int .i64 0, .int .i64 0, .int .i64 0, .int .i64 0, .int .i64 0, .int .i64 0, .int .i64 0, .int .i64 0, .int .i64 0]) := ⟨by kernel_rfl⟩
instance : BytI Tryz.prog 199 200 := ⟨by kernel_rfl⟩
instance : EqI Tryz.prog 199 25 .i64 := .mk' (by kernel_rfl)
instance : AgI Tryz.prog 200 false := ⟨by kernel_rfl⟩
instance : InfoI Tryz.prog 200 1 (.nilFunc) := ⟨by kernel_rfl⟩
instance : BytI Tryz.prog 200 8 := ⟨by kernel_rfl⟩
instance : AgI Tryz.prog 201 false := ⟨by kernel_rfl⟩
instance : InfoI Tryz.prog 201 1 (.nilFunc) := ⟨by kernel_rfl⟩
instance : BytI Tryz.prog 201 8 := ⟨by kernel_rfl⟩
instance : AgI Tryz.prog 202 false := ⟨by kernel_rfl⟩
instance : InfoI Tryz.prog 202 1 (.nilFunc) := ⟨by kernel_rfl⟩
instance : BytI Tryz.prog 202 8 := ⟨by kernel_rfl⟩
instance : AgI Tryz.prog 203 false := ⟨by kernel_rfl⟩
instance : InfoI Tryz.prog 203 1 (.nilFunc) := ⟨by kernel_rfl⟩
instance : BytI Tryz.prog 203 8 := ⟨by kernel_rfl⟩
instance : AgI Tryz.prog 204 true := ⟨by kernel_rfl⟩
instance : UnI Tryz.prog 204 (.array 24 5) := ⟨by kernel_rfl⟩
instance : InfoI Tryz.prog 204 24 (.agg #[.int .u8 0, .int .u8 0, .int .u8 0, .int .u8 0, .int .u8 0, .int .u8 0, .int .u8 0, .int .u8 0, .int .u8 0, .int .u8 0, .int .u8 0, .int .u8 0, .int .u8 0, .int .u8 0, .int .u8 0, .int .u8 0, .int .u8 0, .int .u8 0, .int .u8 0, .int .u8 0, .int .u8 0, .int .u8 0, .int .u8 0, .int .u8 0]) := ⟨by kernel_rfl⟩
instance : BytI Tryz.prog 204 24 := ⟨by kernel_rfl⟩
instance : EqI Tryz.prog 204 24 .u8 := .mk' (by kernel_rfl)
instance : AgI Tryz.prog 205 false := ⟨by kernel_rfl⟩
instance : InfoI Tryz.prog 205 1 (.nilFunc) := ⟨by kernel_rfl⟩
instance : BytI Tryz.prog 205 8 := ⟨by kernel_rfl⟩
instance : AgI Tryz.prog 206 false := ⟨by kernel_rfl⟩
instance : InfoI Tryz.prog 206 1 (.nilFunc) := ⟨by kernel_rfl⟩
instance : BytI Tryz.prog 206 8 := ⟨by kernel_rfl⟩
instance : AgI Tryz.prog 208 false := ⟨by kernel_rfl⟩
instance : InfoI Tryz.prog 208 1 (.nilFunc) := ⟨by kernel_rfl⟩
instance : BytI Tryz.prog 208 8 := ⟨by kernel_rfl⟩
instance : AgI Tryz.prog 209 false := ⟨by kernel_rfl⟩
instance : InfoI Tryz.prog 209 1 (.nilFunc) := ⟨by kernel_rfl⟩
instance : BytI Tryz.prog 209 8 := ⟨by kernel_rfl⟩
instance : AgI Tryz.prog 210 true := ⟨by kernel_rfl⟩
instance : UnI Tryz.prog 210 (.array 20 26) := ⟨by kernel_rfl⟩
instance : InfoI Tryz.prog 210 20 (.agg #[.int .u64 0, .int .u64 0, .int .u64 0, .int .u64 0, .int .u64 0, .int .u64 0, .int .u64 0, .int .u64 0, .int .u64 0, .int .u64 0, .int .u64 0, .int .u64 0, .int .u64 0, .int .u64 0, .int .u64 0, .int .u64 0, .int .u64 0, .int .u64 0, .int .u64 0, .int .u64 0]) := ⟨by kernel_rfl⟩
instance : BytI Tryz.prog 210 160 := ⟨by kernel_rfl⟩
instance : EqI Tryz.prog 210 20 .u64 := .mk' (by kernel_rfl)
instance : AgI Tryz.prog 211 true := ⟨by kernel_rfl⟩
instance : UnI Tryz.prog 211 (.array 65 5) := ⟨by kernel_rfl⟩
instance : InfoI Tryz.prog 211 65 (.agg #[.int .u8 0, .int .u8 0, .int .u8 0, .int .u8 0, .int .u8 0, .int .u8 0, .int .u8 0, .int .u8 0, .int .u8 0, .int .u8 0, .int .u8 0, .int .u8 0, .int .u8 0, .int .u8 0, .int .u8 0, .int .u8 0, .int .u8 0, .int .u8 0, .int .u8 0, .int .u8 0, .int .u8 0, .int .u8 0, .int .u8 0, .int .u8 0, .int .u8 0, .int .u8 0, .int .u8 0, .int .u8 0, .int .u8 0, .int .u8 0, .int .u8 0, .int .u8 0, .int .u8 0, .int .u8 0, .int .u8 0, .int .u8 0, .int .u8 0, .int .u8 0, .int .u8 0, .int .u8 0, .int .u8 0, .int .u8 0, .int .u8 0, .int .u8 0, .int .u8 0, .int .u8 0, .int .u8 0, .int .u8 0, .int .u8 0, .int .u8 0, .int .u8 0, .int .u8 0, .int .u8 0, .int .u8 0, .int .u8 0, .int .u8 0, .int .u8 0, .int .u8 0, .int .u8 0, .int .u8 0, .int .u8 0, .int .u8 0, .int .u8 0, .int .u8 0, .int .u8 0]) := ⟨by kernel_rfl⟩
instance : BytI Tryz.prog 211 65 := ⟨by kernel_rfl⟩
instance : EqI Tryz.prog 211 65 .u8 := .mk' (by kernel_rfl)
instance : AgI Tryz.prog 212 false := ⟨by kernel_rfl⟩
instance : InfoI Tryz.prog 212 1 (.nilFunc) := ⟨by kernel_rfl⟩
instance : BytI Tryz.prog 212 8 := ⟨by kernel_rfl⟩
instance : AgI Tryz.prog 213 false := ⟨by kernel_rfl⟩
instance : InfoI Tryz.prog 213 1 (.nilFunc) := ⟨by kernel_rfl⟩
instance : BytI Tryz.prog 213 8 := ⟨by kernel_rfl⟩
instance : AgI Tryz.prog 214 false := ⟨by kernel_rfl⟩
instance : InfoI Tryz.prog 214 1 (.nilFunc) := ⟨by kernel_rfl⟩
instance : BytI Tryz.prog 214 8 := ⟨by kernel_rfl⟩
instance : AgI Tryz.prog 215 true := ⟨by kernel_rfl⟩
instance : UnI Tryz.prog 215 (.array 64 5) := ⟨by kernel_rfl⟩
instance : InfoI Tryz.prog 215 64 (.agg #[.int .u8 0, .int .u8 0, .int .u8 0, .int .u8 0, .int .u8 0, .int .u8 0, .int .u8 0, .int .u8 0, .int .u8 0, .int .u8 0, .int .u8 0, .int .u8 0, .int .u8 0, .int .u8 0, .int .u8 0, .int .u8 0, .int .u8 0, .int .u8 0, .int .u8 0, .int .u8 0, .int .u8 0, .int .u8 0, .int .u8 0, .int .u8 0, .int .u8 0, .int .u8 0, .int .u8 0, .int .u8 0, .int .u8 0, .int .u8 0, .int .u8 0, .int .u8 0, .int .u8 0, .int .u8 0, .int .u8 0, .int .u8 0, .int .u8 0, .int .u8 0, .int .u8 0, .int .u8 0, .int .u8 0, .int .u8 0, .int .u8 0, .int .u8 0, .int .u8 0, .int .u8 0, .int .u8 0, .int .u8 0, .int .u8 0, .int .u8 0, .int .u8 0, .int .u8 0, .int .u8 0, .int .u8 0, .int .u8 0, .int .u8 0, .int .u8 0, .int .u8 0, .int .u8 0, .int .u8 0, .int .u8 0, .int .u8 0, .int .u8 0, .int .u8 0]) := ⟨by kernel_rfl⟩
instance : BytI Tryz.prog 215 64 := ⟨by kernel_rfl⟩
instance : EqI Tryz.prog 215 64 .u8 := .mk' (by kernel_rfl)
instance : AgI Tryz.prog 216 false := ⟨by kernel_rfl⟩
instance : InfoI Tryz.prog 216 1 (.nilFunc) := ⟨by kernel_rfl⟩
instance : BytI Tryz.prog 216 8 := ⟨by kernel_rfl⟩
instance : AgI Tryz.prog 217 true := ⟨by kernel_rfl⟩
instance : InfoI Tryz.prog 217 4 (.agg #[.pointer none, .pointer none, .pointer none, .string ⟨#[]⟩]) := ⟨by kernel_rfl⟩
instance : BytI Tryz.prog 217 40 := ⟨by kernel_rfl⟩
instance : StrI Tryz.prog 217 [(0, 1), (1, 1), (2, 1), (3, 1)] := ⟨by kernel_rfl⟩
instance : FldI Tryz.prog 217 0 0 17 := .mk' (by kernel_rfl)
instance : FldI Tryz.prog 217 1 1 17 := .mk' (by kernel_rfl)
instance : FldI Tryz.prog 217 2 2 17 := .mk' (by kernel_rfl)
instance : FldI Tryz.prog 217 3 3 9 := .mk' (by kernel_rfl)
instance : AgI Tryz.prog 218 true := ⟨by kernel_rfl⟩
instance : InfoI Tryz.prog 218 4 (.agg #[.pointer none, .pointer none, .pointer none, .string ⟨#[]⟩]) := ⟨by kernel_rfl⟩
instance : BytI Tryz.prog 218 40 := ⟨by kernel_rfl⟩
instance : StrI Tryz.prog 218 [(0, 1), (1, 1), (2, 1), (3, 1)] := ⟨by kernel_rfl⟩
instance : FldI Tryz.prog 218 0 0 17 := .mk' (by kernel_rfl)
instance : FldI Tryz.prog 218 1 1 17 := .mk' (by kernel_rfl)
instance : FldI Tryz.prog 218 2 2 17 := .mk' (by kernel_rfl)
instance : FldI Tryz.prog 218 3 3 9 := .mk' (by kernel_rfl)
instance : AgI Tryz.prog 219 true := ⟨by kernel_rfl⟩
instance : UnI Tryz.prog 219 (.array 0 16) := ⟨by kernel_rfl⟩
instance : InfoI Tryz.prog 219 0 (.agg #[]) := ⟨by kernel_rfl⟩
instance : BytI Tryz.prog 219 0 := ⟨by kernel_rfl⟩
instance : AgI Tryz.prog 220 true := ⟨by kernel_rfl⟩
instance : InfoI Tryz.prog 220 0 (.agg #[]) := ⟨by kernel_rfl⟩
instance : BytI Tryz.prog 220 0 := ⟨by kernel_rfl⟩
instance : StrI Tryz.prog 220 [(0, 0)] := ⟨by kernel_rfl⟩
instance : FldI Tryz.prog 220 0 0 219 := .mk' (by kernel_rfl)
instance : AgI Tryz.prog 221 true := ⟨by kernel_rfl⟩
instance : InfoI Tryz.prog 221 0 (.agg #[]) := ⟨by kernel_rfl⟩
instance : BytI Tryz.prog 221 0 := ⟨by kernel_rfl⟩
instance : StrI Tryz.prog 221 [(0, 0)] := ⟨by kernel_rfl⟩
instance : FldI Tryz.prog 221 0 0 219 := .mk' (by kernel_rfl)
instance : AgI Tryz.prog 222 false := ⟨by kernel_rfl⟩
instance : InfoI Tryz.prog 222 1 (.nilFunc) := ⟨by kernel_rfl⟩
instance : BytI Tryz.prog 222 8 := ⟨by kernel_rfl⟩
instance : AgI Tryz.prog 223 false := ⟨by kernel_rfl⟩
instance : UnI Tryz.prog 223 (.int .u8) := ⟨by kernel_rfl⟩
instance : InfoI Tryz.prog 223 1 (.int .u8 0) := ⟨by kernel_rfl⟩
instance : BytI Tryz.prog 223 1 := ⟨by kernel_rfl⟩
instance : AgI Tryz.prog 224 false := ⟨by kernel_rfl⟩
instance : UnI Tryz.prog 224 (.int .u8) := ⟨by kernel_rfl⟩
instance : InfoI Tryz.prog 224 1 (.int .u8 0) := ⟨by kernel_rfl⟩
instance : BytI Tryz.prog 224 1 := ⟨by kernel_rfl⟩
instance : AgI Tryz.prog 225 false := ⟨by kernel_rfl⟩
instance : InfoI Tryz.prog 225 1 (.nilFunc) := ⟨by kernel_rfl⟩
instance : BytI Tryz.prog 225 8 := ⟨by kernel_rfl⟩
instance : AgI Tryz.prog 226 false := ⟨by kernel_rfl⟩
instance : UnI Tryz.prog 226 (.pointer 5) := ⟨by kernel_rfl⟩
instance : InfoI Tryz.prog 226 1 (.pointer none) := ⟨by kernel_rfl⟩
instance : BytI Tryz.prog 226 8 := ⟨by kernel_rfl⟩
instance : AgI Tryz.prog 227 false := ⟨by kernel_rfl⟩
instance : UnI Tryz.prog 227 (.int .i32) := ⟨by kernel_rfl⟩
instance : InfoI Tryz.prog 227 1 (.int .i32 0) := ⟨by kernel_rfl⟩
instance : BytI Tryz.prog 227 4 := ⟨by kernel_rfl⟩
instance : AgI Tryz.prog 228 false := ⟨by kernel_rfl⟩
instance : UnI Tryz.prog 228 (.int .i32) := ⟨by kernel_rfl⟩
instance : InfoI Tryz.prog 228 1 (.int .i32 0) := ⟨by kernel_rfl⟩
instance : BytI Tryz.prog 228 4 := ⟨by kernel_rfl⟩
instance : AgI Tryz.prog 229 true := ⟨by kernel_rfl⟩
instance : InfoI Tryz.prog 229 11 (.agg #[.int .u64 0, .int .u64 0, .int .u32 0, .int .u8 0, .int .u8 0, .int .u8 0, .int .u8 0, .nilFunc, .pointer none, .int .i32 0, .int .i32 0]) := ⟨by kernel_rfl⟩
instance : BytI Tryz.prog 229 48 := ⟨by kernel_rfl⟩
instance : StrI Tryz.prog 229 [(0, 1), (1, 1), (2, 1), (3, 1), (4, 1), (5, 1), (6, 1), (7, 1), (8, 1), (9, 1), (10, 1)] := ⟨by kernel_rfl⟩
instance : FldI Tryz.prog 229 0 0 12 := .mk' (by kernel_rfl)
instance : FldI Tryz.prog 229 1 1 12 := .mk' (by kernel_rfl)
instance : FldI Tryz.prog 229 2 2 177 := .mk' (by kernel_rfl)
instance : FldI Tryz.prog 229 3 3 223 := .mk' (by kernel_rfl)
instance : FldI Tryz.prog 229 4 4 5 := .mk' (by kernel_rfl)
instance : FldI Tryz.prog 229 5 5 5 := .mk' (by kernel_rfl)
instance : FldI Tryz.prog 229 6 6 224 := .mk' (by kernel_rfl)
instance : FldI Tryz.prog 229 7 7 225 := .mk' (by kernel_rfl)
instance : FldI Tryz.prog 229 8 8 226 := .mk' (by kernel_rfl)
instance : FldI Tryz.prog 229 9 9 227 := .mk' (by kernel_rfl)
instance : FldI Tryz.prog 229 10 10 228 := .mk' (by kernel_rfl)
instance : AgI Tryz.prog 230 true := ⟨by kernel_rfl⟩
instance : InfoI Tryz.prog 230 11 (.agg #[.int .u64 0, .int .u64 0, .int .u32 0, .int .u8 0, .int .u8 0, .int .u8 0, .int .u8 0, .nilFunc, .pointer none, .int .i32 0, .int .i32 0]) := ⟨by kernel_rfl⟩
instance : BytI Tryz.prog 230 48 := ⟨by kernel_rfl⟩
instance : StrI Tryz.prog 230 [(0, 1), (1, 1), (2, 1), (3, 1), (4, 1), (5, 1), (6, 1), (7, 1), (8, 1), (9, 1), (10, 1)] := ⟨by kernel_rfl⟩
instance : FldI Tryz.prog 230 0 0 12 := .mk' (by kernel_rfl)
instance : FldI Tryz.prog 230 1 1 12 := .mk' (by kernel_rfl)
instance : FldI Tryz.prog 230 2 2 177 := .mk' (by kernel_rfl)
instance : FldI Tryz.prog 230 3 3 223 := .mk' (by kernel_rfl)
instance : FldI Tryz.prog 230 4 4 5 := .mk' (by kernel_rfl)
instance : FldI Tryz.prog 230 5 5 5 := .mk' (by kernel_rfl)
instance : FldI Tryz.prog 230 6 6 224 := .mk' (by kernel_rfl)
instance : FldI Tryz.prog 230 7 7 225 := .mk' (by kernel_rfl)
instance : FldI Tryz.prog 230 8 8 226 := .mk' (by kernel_rfl)
instance : FldI Tryz.prog 230 9 9 227 := .mk' (by kernel_rfl)
instance : FldI Tryz.prog 230 10 10 228 := .mk' (by kernel_rfl)
instance : AgI Tryz.prog 231 false := ⟨by kernel_rfl⟩
instance : UnI Tryz.prog 231 (.unsafePointer) := ⟨by kernel_rfl⟩
instance : InfoI Tryz.prog 231 1 (.pointer none) := ⟨by kernel_rfl⟩
instance : BytI Tryz.prog 231 8 := ⟨by kernel_rfl⟩
instance : FnI Tryz.prog 2 := .mk' Tryz.func2 (by kernel_rfl) (by kernel_rfl)
instance : FnI Tryz.prog 3 := .mk' Tryz.func3 (by kernel_rfl) (by kernel_rfl)
instance : FnI Tryz.prog 4 := .mk' Tryz.func4 (by kernel_rfl) (by kernel_rfl)
instance : FnI Tryz.prog 5 := .mk' Tryz.func5 (by kernel_rfl) (by kernel_rfl)
instance : FnI Tryz.prog 6 := .mk' Tryz.func6 (by kernel_rfl) (by kernel_rfl)
instance : FnI Tryz.prog 7 := .mk' Tryz.func7 (by kernel_rfl) (by kernel_rfl)
instance : FnI Tryz.prog 8 := .mk' Tryz.func8 (by kernel_rfl) (by kernel_rfl)
instance : FnI Tryz.prog 9 := .mk' Tryz.func9 (by kernel_rfl) (by kernel_rfl)
instance : FnI Tryz.prog 10 := .mk' Tryz.func10 (by kernel_rfl) (by kernel_rfl)
instance : FnI Tryz.prog 11 := .mk' Tryz.func11 (by kernel_rfl) (by kernel_rfl)
instance : FnI Tryz.prog 12 := .mk' Tryz.func12 (by kernel_rfl) (by kernel_rfl)
instance : FnI Tryz.prog 13 := .mk' Tryz.func13 (by kernel_rfl) (by kernel_rfl)
instance : FnI Tryz.prog 14 := .mk' Tryz.func14 (by kernel_rfl) (by kernel_rfl)
instance : FnI Tryz.prog 15 := .mk' Tryz.func15 (by kernel_rfl) (by kernel_rfl)
instance : FnI Tryz.prog 16 := .mk' Tryz.func16 (by kernel_rfl) (by kernel_rfl)
instance : FnI Tryz.prog 17 := .mk' Tryz.func17 (by kernel_rfl) (by kernel_rfl)
instance : FnI Tryz.prog 18 := .mk' Tryz.func18 (by kernel_rfl) (by kernel_rfl)
instance : FnI Tryz.prog 19 := .mk' Tryz.func19 (by kernel_rfl) (by kernel_rfl)
instance : FnI Tryz.prog 20 := .mk' Tryz.func20 (by kernel_rfl) (by kernel_rfl)
instance : FnI Tryz.prog 21 := .mk' Tryz.func21 (by kernel_rfl) (by kernel_rfl)
instance : FnI Tryz.prog 22 := .mk' Tryz.func22 (by kernel_rfl) (by kernel_rfl)
instance : FnI Tryz.prog 23 := .mk' Tryz.func23 (by kernel_rfl) (by kernel_rfl)
instance : FnI Tryz.prog 24 := .mk' Tryz.func24 (by kernel_rfl) (by kernel_rfl)
instance : FnI Tryz.prog 25 := .mk' Tryz.func25 (by kernel_rfl) (by kernel_rfl)
instance : FnI Tryz.prog 26 := .mk' Tryz.func26 (by kernel_rfl) (by kernel_rfl)
instance : FnI Tryz.prog 27 := .mk' Tryz.func27 (by kernel_rfl) (by kernel_rfl)
instance : FnI Tryz.prog 28 := .mk' Tryz.func28 (by kernel_rfl) (by kernel_rfl)
instance : FnI Tryz.prog 29 := .mk' Tryz.func29 (by kernel_rfl) (by kernel_rfl)
instance : FnI Tryz.prog 30 := .mk' Tryz.func30 (by kernel_rfl) (by kernel_rfl)
instance : FnI Tryz.prog 31 := .mk' Tryz.func31 (by kernel_rfl) (by kernel_rfl)
instance : FnI Tryz.prog 32 := .mk' Tryz.func32 (by kernel_rfl) (by kernel_rfl)
instance : FnI Tryz.prog 33 := .mk' Tryz.func33 (by kernel_rfl) (by kernel_rfl)
instance : FnI Tryz.prog 34 := .mk' Tryz.func34 (by kernel_rfl) (by kernel_rfl)
instance : FnI Tryz.prog 35 := .mk' Tryz.func35 (by kernel_rfl) (by kernel_rfl)
instance : FnI Tryz.prog 36 := .mk' Tryz.func36 (by kernel_rfl) (by kernel_rfl)
instance : FnI Tryz.prog 37 := .mk' Tryz.func37 (by kernel_rfl) (by kernel_rfl)
instance : FnI Tryz.prog 38 := .mk' Tryz.func38 (by kernel_rfl) (by kernel_rfl)
instance : FnI Tryz.prog 39 := .mk' Tryz.func39 (by kernel_rfl) (by kernel_rfl)
instance : FnI Tryz.prog 40 := .mk' Tryz.func40 (by kernel_rfl) (by kernel_rfl)
instance : FnI Tryz.prog 41 := .mk' Tryz.func41 (by kernel_rfl) (by kernel_rfl)
instance : FnI Tryz.prog 42 := .mk' Tryz.func42 (by kernel_rfl) (by kernel_rfl)
instance : FnI Tryz.prog 43 := .mk' Tryz.func43 (by kernel_rfl) (by kernel_rfl)
instance : FnI Tryz.prog 44 := .mk' Tryz.func44 (by kernel_rfl) (by kernel_rfl)
instance : FnI Tryz.prog 45 := .mk' Tryz.func45 (by kernel_rfl) (by kernel_rfl)
instance : FnI Tryz.prog 46 := .mk' Tryz.func46 (by kernel_rfl) (by kernel_rfl)
instance : FnI Tryz.prog 47 := .mk' Tryz.func47 (by kernel_rfl) (by kernel_rfl)
instance : FnI Tryz.prog 48 := .mk' Tryz.func48 (by kernel_rfl) (by kernel_rfl)
instance : FnI Tryz.prog 49 := .mk' Tryz.func49 (by kernel_rfl) (by kernel_rfl)
instance : FnI Tryz.prog 50 := .mk' Tryz.func50 (by kernel_rfl) (by kernel_rfl)
instance : FnI Tryz.prog 51 := .mk' Tryz.func51 (by kernel_rfl) (by kernel_rfl)
instance : FnI Tryz.prog 52 := .mk' Tryz.func52 (by kernel_rfl) (by kernel_rfl)
instance : FnI Tryz.prog 53 := .mk' Tryz.func53 (by kernel_rfl) (by kernel_rfl)
instance : FnI Tryz.prog 54 := .mk' Tryz.func54 (by kernel_rfl) (by kernel_rfl)
instance : FnI Tryz.prog 55 := .mk' Tryz.func55 (by kernel_rfl) (by kernel_rfl)
instance : FnI Tryz.prog 56 := .mk' Tryz.func56 (by kernel_rfl) (by kernel_rfl)
instance : FnI Tryz.prog 57 := .mk' Tryz.func57 (by kernel_rfl) (by kernel_rfl)
instance : FnI Tryz.prog 58 := .mk' Tryz.func58 (by kernel_rfl) (by kernel_rfl)
instance : FnI Tryz.prog 59 := .mk' Tryz.func59 (by kernel_rfl) (by kernel_rfl)
instance : FnI Tryz.prog 60 := .mk' Tryz.func60 (by kernel_rfl) (by kernel_rfl)
instance : FnI Tryz.prog 61 := .mk' Tryz.func61 (by kernel_rfl) (by kernel_rfl)
instance : FnI Tryz.prog 62 := .mk' Tryz.func62 (by kernel_rfl) (by kernel_rfl)
instance : FnI Tryz.prog 63 := .mk' Tryz.func63 (by kernel_rfl) (by kernel_rfl)
instance : FnI Tryz.prog 64 := .mk' Tryz.func64 (by kernel_rfl) (by kernel_rfl)
instance : FnI Tryz.prog 65 := .mk' Tryz.func65 (by kernel_rfl) (by kernel_rfl)
instance : FnI Tryz.prog 66 := .mk' Tryz.func66 (by kernel_rfl) (by kernel_rfl)
instance : FnI Tryz.prog 67 := .mk' Tryz.func67 (by kernel_rfl) (by kernel_rfl)
instance : FnI Tryz.prog 68 := .mk' Tryz.func68 (by kernel_rfl) (by kernel_rfl)
instance : FnI Tryz.prog 69 := .mk' Tryz.func69 (by kernel_rfl) (by kernel_rfl)
instance : FnI Tryz.prog 70 := .mk' Tryz.func70 (by kernel_rfl) (by kernel_rfl)
instance : FnI Tryz.prog 71 := .mk' Tryz.func71 (by kernel_rfl) (by kernel_rfl)
instance : FnI Tryz.prog 72 := .mk' Tryz.func72 (by kernel_rfl) (by kernel_rfl)
instance : FnI Tryz.prog 73 := .mk' Tryz.func73 (by kernel_rfl) (by kernel_rfl)
instance : FnI Tryz.prog 74 := .mk' Tryz.func74 (by kernel_rfl) (by kernel_rfl)
instance : FnI Tryz.prog 75 := .mk' Tryz.func75 (by kernel_rfl) (by kernel_rfl)
instance : FnI Tryz.prog 76 := .mk' Tryz.func76 (by kernel_rfl) (by kernel_rfl)
instance : FnI Tryz.prog 77 := .mk' Tryz.func77 (by kernel_rfl) (by kernel_rfl)
instance : FnI Tryz.prog 78 := .mk' Tryz.func78 (by kernel_rfl) (by kernel_rfl)
instance : FnI Tryz.prog 79 := .mk' Tryz.func79 (by kernel_rfl) (by kernel_rfl)
instance : FnI Tryz.prog 80 := .mk' Tryz.func80 (by kernel_rfl) (by kernel_rfl)
instance : FnI Tryz.prog 81 := .mk' Tryz.func81 (by kernel_rfl) (by kernel_rfl)
instance : FnI Tryz.prog 82 := .mk' Tryz.func82 (by kernel_rfl) (by kernel_rfl)
instance : FnI Tryz.prog 83 := .mk' Tryz.func83 (by kernel_rfl) (by kernel_rfl)
instance : FnI Tryz.prog 84 := .mk' Tryz.func84 (by kernel_rfl) (by kernel_rfl)
instance : FnI Tryz.prog 85 := .mk' Tryz.func85 (by kernel_rfl) (by kernel_rfl)
instance : FnI Tryz.prog 86 := .mk' Tryz.func86 (by kernel_rfl) (by kernel_rfl)
instance : FnI Tryz.prog 87 := .mk' Tryz.func87 (by kernel_rfl) (by kernel_rfl)
instance : FnI Tryz.prog 88 := .mk' Tryz.func88 (by kernel_rfl) (by kernel_rfl)
instance : FnI Tryz.prog 89 := .mk' Tryz.func89 (by kernel_rfl) (by kernel_rfl)
instance : FnI Tryz.prog 90 := .mk' Tryz.func90 (by kernel_rfl) (by kernel_rfl)
instance : FnI Tryz.prog 91 := .mk' Tryz.func91 (by kernel_rfl) (by kernel_rfl)
instance : FnI Tryz.prog 92 := .mk' Tryz.func92 (by kernel_rfl) (by kernel_rfl)
instance : FnI Tryz.prog 93 := .mk' Tryz.func93 (by kernel_rfl) (by kernel_rfl)
instance : FnI Tryz.prog 94 := .mk' Tryz.func94 (by kernel_rfl) (by kernel_rfl)
instance : FnI Tryz.prog 95 := .mk' Tryz.func95 (by kernel_rfl) (by kernel_rfl)
instance : FnI Tryz.prog 96 := .mk' Tryz.func96 (by kernel_rfl) (by kernel_rfl)
instance : FnI Tryz.prog 97 := .mk' Tryz.func97 (by kernel_rfl) (by kernel_rfl)
instance : FnI Tryz.prog 98 := .mk' Tryz.func98 (by kernel_rfl) (by kernel_rfl)
instance : FnI Tryz.prog 99 := .mk' Tryz.func99 (by kernel_rfl) (by kernel_rfl)
instance : FnI Tryz.prog 100 := .mk' Tryz.func100 (by kernel_rfl) (by kernel_rfl)
instance : FnI Tryz.prog 101 := .mk' Tryz.func101 (by kernel_rfl) (by kernel_rfl)
instance : FnI Tryz.prog 102 := .mk' Tryz.func102 (by kernel_rfl) (by kernel_rfl)
instance : FnI Tryz.prog 103 := .mk' Tryz.func103 (by kernel_rfl) (by kernel_rfl)
instance : FnI Tryz.prog 104 := .mk' Tryz.func104 (by kernel_rfl) (by kernel_rfl)
instance : FnI Tryz.prog 105 := .mk' Tryz.func105 (by kernel_rfl) (by kernel_rfl)
instance : FnI Tryz.prog 106 := .mk' Tryz.func106 (by kernel_rfl) (by kernel_rfl)
instance : FnI Tryz.prog 107 := .mk' Tryz.func107 (by kernel_rfl) (by kernel_rfl)
instance : FnI Tryz.prog 108 := .mk' Tryz.func108 (by kernel_rfl) (by kernel_rfl)
instance : FnI Tryz.prog 109 := .mk' Tryz.func109 (by kernel_rfl) (by kernel_rfl)
instance : FnI Tryz.prog 111 := .mk' Tryz.func111 (by kernel_rfl) (by kernel_rfl)
instance : FnI Tryz.prog 112 := .mk' Tryz.func112 (by kernel_rfl) (by kernel_rfl)
instance : FnI Tryz.prog 113 := .mk' Tryz.func113 (by kernel_rfl) (by kernel_rfl)
instance : FnI Tryz.prog 114 := .mk' Tryz.func114 (by kernel_rfl) (by kernel_rfl)
instance : FnI Tryz.prog 115 := .mk' Tryz.func115 (by kernel_rfl) (by kernel_rfl)
instance : FnI Tryz.prog 116 := .mk' Tryz.func116 (by kernel_rfl) (by kernel_rfl)
instance : FnI Tryz.prog 117 := .mk' Tryz.func117 (by kernel_rfl) (by kernel_rfl)
instance : FnI Tryz.prog 118 := .mk' Tryz.func118 (by kernel_rfl) (by kernel_rfl)
instance : FnI Tryz.prog 119 := .mk' Tryz.func119 (by kernel_rfl) (by kernel_rfl)
instance : FnI Tryz.prog 120 := .mk' Tryz.func120 (by kernel_rfl) (by kernel_rfl)
instance : FnI Tryz.prog 121 := .mk' Tryz.func121 (by kernel_rfl) (by kernel_rfl)
instance : FnI Tryz.prog 122 := .mk' Tryz.func122 (by kernel_rfl) (by kernel_rfl)
instance : FnI Tryz.prog 123 := .mk' Tryz.func123 (by kernel_rfl) (by kernel_rfl)
instance : FnI Tryz.prog 124 := .mk' Tryz.func124 (by kernel_rfl) (by kernel_rfl)
instance : FnI Tryz.prog 125 := .mk' Tryz.func125 (by kernel_rfl) (by kernel_rfl)
instance : FnI Tryz.prog 126 := .mk' Tryz.func126 (by kernel_rfl) (by kernel_rfl)
instance : FnI Tryz.prog 127 := .mk' Tryz.func127 (by kernel_rfl) (by kernel_rfl)
instance : FnI Tryz.prog 128 := .mk' Tryz.func128 (by kernel_rfl) (by kernel_rfl)
instance : FnI Tryz.prog 129 := .mk' Tryz.func129 (by kernel_rfl) (by kernel_rfl)
instance : FnI Tryz.prog 130 := .mk' Tryz.func130 (by kernel_rfl) (by kernel_rfl)
instance : FnI Tryz.prog 131 := .mk' Tryz.func131 (by kernel_rfl) (by kernel_rfl)
instance : FnI Tryz.prog 132 := .mk' Tryz.func132 (by kernel_rfl) (by kernel_rfl)
instance : FnI Tryz.prog 133 := .mk' Tryz.func133 (by kernel_rfl) (by kernel_rfl)
instance : FnI Tryz.prog 134 := .mk' Tryz.func134 (by kernel_rfl) (by kernel_rfl)
instance : FnI Tryz.prog 135 := .mk' Tryz.func135 (by kernel_rfl) (by kernel_rfl)
instance : FnI Tryz.prog 136 := .mk' Tryz.func136 (by kernel_rfl) (by kernel_rfl)
instance : FnI Tryz.prog 138 := .mk' Tryz.func138 (by kernel_rfl) (by kernel_rfl)
instance : FnI Tryz.prog 139 := .mk' Tryz.func139 (by kernel_rfl) (by kernel_rfl)
instance : FnI Tryz.prog 140 := .mk' Tryz.func140 (by kernel_rfl) (by kernel_rfl)
instance : FnI Tryz.prog 141 := .mk' Tryz.func141 (by kernel_rfl) (by kernel_rfl)
instance : FnI Tryz.prog 142 := .mk' Tryz.func142 (by kernel_rfl) (by kernel_rfl)
instance : FnI Tryz.prog 143 := .mk' Tryz.func143 (by kernel_rfl) (by kernel_rfl)
instance : FnI Tryz.prog 144 := .mk' Tryz.func144 (by kernel_rfl) (by kernel_rfl)
instance : FnI Tryz.prog 145 := .mk' Tryz.func145 (by kernel_rfl) (by kernel_rfl)
instance : FnI Tryz.prog 146 := .mk' Tryz.func146 (by kernel_rfl) (by kernel_rfl)
instance : FnI Tryz.prog 147 := .mk' Tryz.func147 (by kernel_rfl) (by kernel_rfl)
instance : FnI Tryz.prog 148 := .mk' Tryz.func148 (by kernel_rfl) (by kernel_rfl)
instance : FnI Tryz.prog 149 := .mk' Tryz.func149 (by kernel_rfl) (by kernel_rfl)
instance : FnI Tryz.prog 150 := .mk' Tryz.func150 (by kernel_rfl) (by kernel_rfl)
instance : FnI Tryz.prog 151 := .mk' Tryz.func151 (by kernel_rfl) (by kernel_rfl)
instance : FnI Tryz.prog 152 := .mk' Tryz.func152 (by kernel_rfl) (by kernel_rfl)
instance : FnI Tryz.prog 153 := .mk' Tryz.func153 (by kernel_rfl) (by kernel_rfl)
instance : FnI Tryz.prog 154 := .mk' Tryz.func154 (by kernel_rfl) (by kernel_rfl)
instance : FnI Tryz.prog 155 := .mk' Tryz.func155 (by kernel_rfl) (by kernel_rfl)
instance : FnI Tryz.prog 156 := .mk' Tryz.func156 (by kernel_rfl) (by kernel_rfl)
instance : FnI Tryz.prog 157 := .mk' Tryz.func157 (by kernel_rfl) (by kernel_rfl)
instance : FnI Tryz.prog 158 := .mk' Tryz.func158 (by kernel_rfl) (by kernel_rfl)
instance : FnI Tryz.prog 159 := .mk' Tryz.func159 (by kernel_rfl) (by kernel_rfl)
instance : FnI Tryz.prog 160 := .mk' Tryz.func160 (by kernel_rfl) (by kernel_rfl)
instance : FnI Tryz.prog 161 := .mk' Tryz.func161 (by kernel_rfl) (by kernel_rfl)
instance : FnI Tryz.prog 162 := .mk' Tryz.func162 (by kernel_rfl) (by kernel_rfl)
instance : FnI Tryz.prog 163 := .mk' Tryz.func163 (by kernel_rfl) (by kernel_rfl)
instance : FnI Tryz.prog 164 := .mk' Tryz.func164 (by kernel_rfl) (by kernel_rfl)
instance : FnI Tryz.prog 165 := .mk' Tryz.func165 (by kernel_rfl) (by kernel_rfl)
instance : FnI Tryz.prog 166 := .mk' Tryz.func166 (by kernel_rfl) (by kernel_rfl)
instance : FnI Tryz.prog 167 := .mk' Tryz.func167 (by kernel_rfl) (by kernel_rfl)
instance : FnI Tryz.prog 168 := .mk' Tryz.func168 (by kernel_rfl) (by kernel_rfl)
instance : FnI Tryz.prog 169 := .mk' Tryz.func169 (by kernel_rfl) (by kernel_rfl)
instance : FnI Tryz.prog 170 := .mk' Tryz.func170 (by kernel_rfl) (by kernel_rfl)
instance : FnI Tryz.prog 171 := .mk' Tryz.func171 (by kernel_rfl) (by kernel_rfl)
instance : FnI Tryz.prog 172 := .mk' Tryz.func172 (by kernel_rfl) (by kernel_rfl)
instance : FnI Tryz.prog 173 := .mk' Tryz.func173 (by kernel_rfl) (by kernel_rfl)
instance : FnI Tryz.prog 175 := .mk' Tryz.func175 (by kernel_rfl) (by kernel_rfl)
instance : FnI Tryz.prog 176 := .mk' Tryz.func176 (by kernel_rfl) (by kernel_rfl)
instance : FnI Tryz.prog 177 := .mk' Tryz.func177 (by kernel_rfl) (by kernel_rfl)
instance : FnI Tryz.prog 178 := .mk' Tryz.func178 (by kernel_rfl) (by kernel_rfl)
instance : FnI Tryz.prog 179 := .mk' Tryz.func179 (by kernel_rfl) (by kernel_rfl)
instance : FnI Tryz.prog 180 := .mk' Tryz.func180 (by kernel_rfl) (by kernel_rfl)
instance : FnI Tryz.prog 181 := .mk' Tryz.func181 (by kernel_rfl) (by kernel_rfl)
instance : FnI Tryz.prog 182 := .mk' Tryz.func182 (by kernel_rfl) (by kernel_rfl)
instance : FnI Tryz.prog 183 := .mk' Tryz.func183 (by kernel_rfl) (by kernel_rfl)
instance : FnI Tryz.prog 184 := .mk' Tryz.func184 (by kernel_rfl) (by kernel_rfl)
instance : FnI Tryz.prog 185 := .mk' Tryz.func185 (by kernel_rfl) (by kernel_rfl)
instance : FnI Tryz.prog 210 := .mk' Tryz.func210 (by kernel_rfl) (by kernel_rfl)
theorem mixed : Tryz.prog.follows .mixedOrders = true := by kernel_rfl
end Go.Proofs.YtpgdnfgjbhdbpaaGreatDoor

/-
  What fails leaves by a panic; what is tried comes back: contracts.
  Conditions: none.
-/
namespace Go.Proofs.YtpgdnfgjbhdbpaaGreatDoor
open Go Go.RowKit SL
set_option maxRecDepth 8000
set_option maxHeartbeats 4000000
set_option linter.unusedSimpArgs false
set_option linter.unusedVariables false
attribute [local irreducible] SL.CW SL.LW SL.DW Calls SL.Ret SL.RetG SL.beginQ SL.roundQ SL.rangeQ SL.inQ SL.RW SL.AnyW SL.thenQ SL.thenC SL.thenW SL.blkQ SL.finQ SL.ValP SL.NewP SL.SetP SL.CallP SL.Rd SL.Wr SL.Known
theorem outDI {C : Cu} {fn : Func} {dd : Deferred} {R : Ending → World → Prop} {x : Exit} {ds : List Deferred} {e : Env} {fs : Fs} (hx : x = .ret ∨ x = .normal) (hd : ds = [dd]) (h : ∀ a w, Sat (C.at [dd]) e fs a w → LeavesInM (FR none) 0 C.P fn a.tmps R [dd] .returning w) : ∃ dd, outD C fn dd R x ds e fs := by
  rcases hx with rfl | rfl
  · exact ⟨_, hd, h⟩
  · exact ⟨_, hd, h⟩
theorem outDP {C : Cu} {fn : Func} {dd : Deferred} {R : Ending → World → Prop} {ch : List PanicEntry} {ds : List Deferred} {e : Env} {fs : Fs} (hd : ds = [dd]) (h : ∀ a w, Sat (C.at [dd]) e fs a w → LeavesInM (FR none) 0 C.P fn a.tmps R [dd] (.panicking ch) w) : ∃ dd, outD C fn dd R (.panic ch) ds e fs := ⟨_, hd, h⟩
theorem leaves_end {C : Cu} {fn : Func} {e : Env} {fs : Fs} {ds : List Deferred} {a : Act} {w : World} {R : Ending → World → Prop} {rs : List ResultVar} {vs : List Value} {v : Value} (hr : fn.results.toList = rs) (ha : EnvOk C.N ds e a) (hs : St C.w0 C.S fs w) (h : ResL C e fs rs vs) (hv : tup vs = v) (hR : R (.returned v) w) :
    LeavesIn (FR none) 0 C.P fn a.tmps R [] .returning w := ⟨_, ResL.runS (by rw [hr]; exact h) ha hs, by rw [hv]; exact hR⟩
attribute [local irreducible] SL.inP SL.inD SL.outD
abbrev failV : Value := .iface 180 (.agg #[])
abbrev failC : List PanicEntry := [{ v := failV, recovered := false }]
def NeedK (fs : Fs) : Out := fun x fs' => x = .panicked failC ∧ fs' = fs
theorem need_true (w : World) : Calls Tryz.prog 117 #[.bool true] w (Ret w (.tuple #[])) := by
  refine enter (args := [_]) _ [] [] Tryz.func117 rfl Tryz.ntmps117 rfl (by simp) .nil ?_
  (refine sRz ?_; refine vMz ?_; refine lvz (.notT rfl (by with_reducible rfl)) ?_; refine nNz ?_; refine cFz ?_; refine CW.skip ?_)
  (apply finR; exact .inr rfl; rfl; rfl; rfl; exact ResL.nil)
  rfl
theorem need_false (w0 : World) (S : List Nat) (fs : Fs) (w : World) (hs : St w0 S fs w) : Calls Tryz.prog 117 #[.bool false] w (fun x w' => ∃ fs', NeedK fs x fs' ∧ St w0 S fs' w') := by
  refine calls_inlineP (args := [_]) Tryz.func117 rfl Tryz.ntmps117 rfl ?_ hs
  (refine sRz ?_; refine vMz ?_; refine lvz (.notF rfl (by with_reducible rfl)) ?_; refine nNz ?_; refine cTz ?_; refine CW.region ?_; apply LW.v0; rfl; rfl; apply ValP.buildT; infer_instance; infer_instance; exact PartsOk.nil; rfl; simp only [fillP, wrCells, Value.cells, List.getElem?_cons_zero, List.getElem?_cons_succ, List.toList_toArray, List.setIfInBounds_toArray, List.set_cons_succ, List.set_cons_zero, Nat.reduceAdd, Nat.zero_add]; rfl; apply LW.v0; rfl; rfl; apply ValP.mkIface; kernel_rfl; rfl; apply LW.panic; rfl)
  exact inPP .nil ⟨rfl, rfl⟩
theorem tries1_idle (w0 : World) (S : List Nat) (b : Nat) (x : Bool) (fs : Fs) (w : World) (hs : St w0 S ((b, .cells #[.bool x] 4 (0, 0)) :: fs) w) :
    CallsDIn (FR none) 0 Tryz.prog 139 #[.pointer (some ⟨b, 0, none⟩)] .returning w (fun e u' w' => u' = .returning ∧ ∃ fs', (e = .returned (.tuple #[]) ∧ fs' = (b, .cells #[.bool x] 4 (0, 0)) :: fs) ∧ St w0 S fs' w') := by
  refine callsD_cw (args := [_]) _ Tryz.func139 rfl Tryz.ntmps139 rfl (Rec1.one rfl) ?_ hs
  rw [recV_ret]
  (refine CW.block ?_; refine sRz ?_; apply LW.v0; rfl; rfl; apply ValP.eqNilT (U := 0); kernel_rfl; rfl; refine nNz ?_; refine cTz ?_; refine CW.region ?_; refine vAz ?_; apply LW.nil; refine blkN ?_)
  exact inDI (.inr rfl) rfl (by (exact ResL.nil)) rfl ⟨rfl, rfl⟩
theorem tries1_failed (w0 : World) (S : List Nat) (b : Nat) (x : Bool) (fs : Fs) (w : World) (hs : St w0 S ((b, .cells #[.bool x] 4 (0, 0)) :: fs) w) :
    CallsDIn (FR none) 0 Tryz.prog 139 #[.pointer (some ⟨b, 0, none⟩)] (.panicking failC) w (fun e u' w' => u' = .panicking [{ v := failV, recovered := true }] ∧ ∃ fs', (e = .returned (.tuple #[]) ∧ ∃ b2, fs' = b2 :: (b, .cells #[.bool false] 4 (0, 0)) :: fs) ∧ St w0 S fs' w') := by
  refine callsD_cw (args := [_]) _ Tryz.func139 rfl Tryz.ntmps139 rfl (Rec1.one rfl) ?_ hs
  rw [recV_pan]
  (refine CW.block ?_; refine sRz ?_; apply LW.v0; rfl; rfl; apply ValP.eqNilF; kernel_rfl; rfl; refine nNz ?_; refine cFz ?_; refine sRz ?_; apply LW.v0; rfl; rfl; apply ValP.assertHit; kernel_rfl; rfl; refine vEz ?_; refine vEz ?_; refine nNz ?_; refine cTz ?_; refine sRz ?_; apply LW.allocA; rfl; intro _; refine LW.store rfl rfl .head (.whole rfl rfl rfl) ?_; refine nNz ?_; refine CW.region ?_; apply LW.store; rfl; rfl; apply SetAt.tail; apply SetAt.head; apply Wr.cells; rfl; rfl; simp only [wc, List.size_toArray, List.length_cons, List.length_nil]; omega; simp only [fillC, wc, wrCells, Value.cells, List.toList_toArray, List.setIfInBounds_toArray, List.set_cons_succ, List.set_cons_zero, Nat.reduceAdd, Nat.reduceMul, Nat.zero_add, Nat.mul_one]; rfl; apply LW.nil; refine blkN ?_)
  exact inDI (.inr rfl) rfl (by (exact ResL.nil)) rfl ⟨rfl, _, rfl⟩
/-- Something is tried: it comes back, or it fails. -/
def TryK (K : Out) : Prop := ∀ x fs, K x fs → x = .returned (.tuple #[]) ∨ x = .panicked failC
theorem tries_calls (w0 : World) (S : List Nat) (f : FuncId) (cap : Array Value) (K : Out) (hK : TryK K) (hF : FnI Tryz.prog f) (own rest : Fs) (w : World)
    (hc : ∀ rest w', St w0 S (own ++ rest) w' → Calls Tryz.prog f cap w' (fun x w'' => ∃ fs', (∃ own', K x own' ∧ fs' = own' ++ rest) ∧ St w0 S fs' w'')) (hs : St w0 S (own ++ rest) w) :
    Calls Tryz.prog 114 #[.func (.func f) #[] cap] w (fun x w' => ∃ fs', (∃ ok own', x = .returned (.bool ok) ∧ K (match ok with | true => .returned (.tuple #[]) | false => .panicked failC) own' ∧ fs' = own' ++ rest) ∧ St w0 S fs' w') := by
  refine calls_inlineD (args := [_]) Tryz.func114 rfl Tryz.ntmps114 rfl ?_ hs
  (refine sRz ?_; apply LW.alloc1; rfl; rfl; intro _; refine nSz ?_; apply LW.v0; rfl; rfl; apply ValP.makeFunc; exact ArgsOk.nil; exact .cons rfl .nil)
  rename_i bok
  apply LW.defer
  rfl
  rfl
  (apply LW.nil; refine thenM ?_; refine sRz ?_; refine vMz ?_)
  refine LW.perm (fs' := own ++ (bok, .cells #[.bool false] 4 (0, 0)) :: rest) List.perm_middle ?_
  refine LW.callP (K := fun x fs' => ∃ own', K x own' ∧ fs' = own' ++ (bok, .cells #[.bool false] 4 (0, 0)) :: rest) rfl rfl hF (by (exact ArgsOk.nil)) rfl (fun fs ⟨own', h, _⟩ => by rcases hK _ _ h with h | h <;> cases h) (fun w' hst => by simpa using hc _ w' hst) ?_ ?_
  · rintro v fs' ⟨own', hKv, rfl⟩
    obtain rfl : v = .tuple #[] := by
      rcases hK _ _ hKv with h | h
      · exact Ending.returned.inj h
      · cases h
    refine LW.perm (fs' := (bok, .cells #[.bool false] 4 (0, 0)) :: (own' ++ rest)) List.perm_middle.symm ?_
    (refine nSz ?_; apply LW.store; rfl; rfl; apply SetAt.head; apply Wr.cells; rfl; rfl; simp only [wc, List.size_toArray, List.length_cons, List.length_nil]; omega; simp only [fillC, wc, wrCells, Value.cells, List.toList_toArray, List.setIfInBounds_toArray, List.set_cons_succ, List.set_cons_zero, Nat.reduceAdd, Nat.reduceMul, Nat.zero_add, Nat.mul_one]; rfl; refine nNz ?_; refine CW.ret ?_)
    refine outDI (.inl rfl) rfl fun a w2 s2 => ?_
    refine leaves_clo (K := fun e fs' => e = .returned (.tuple #[]) ∧ fs' = (bok, .cells #[.bool true] 4 (0, 0)) :: (own' ++ rest)) inferInstance (fun h => by cases h) (tries1_idle w0 S bok true (own' ++ rest) w2 s2.st) (fun fs h => by cases h.1) ?_ ?_
    · rintro v fs' w' ⟨_, rfl⟩ hst
      refine leaves_end (vs := [.bool true]) (w := w') rfl s2.env hst ?_ rfl ?_
      · (apply ResL.cons; apply Res.cell; rfl; apply Known.at; apply FsAt.head; exact Rd.one' rfl; exact ResL.nil)
      · refine ⟨own' ++ rest, ⟨true, own', rfl, hKv, rfl⟩, ?_⟩
        exact ⟨hst.bel, fun p hp => hst.own p (List.mem_cons_of_mem _ hp), (List.pairwise_cons.1 hst.nd).2⟩
    · rintro ch fs' w' ⟨h, _⟩
      cases h
  · rintro ch fs' ⟨own', hKv, rfl⟩
    obtain rfl : ch = failC := by
      rcases hK _ _ hKv with h | h
      · cases h
      · exact Ending.panicked.inj h
    refine thenP ?_
    refine outDP rfl fun a w2 s2 => ?_
    have s3 := s2.st.perm List.perm_middle.symm
    refine leaves_clo (K := fun e fs' => e = .returned (.tuple #[]) ∧ ∃ b2, fs' = b2 :: (bok, .cells #[.bool false] 4 (0, 0)) :: (own' ++ rest)) inferInstance (fun h => by cases h) (tries1_failed w0 S bok false (own' ++ rest) w2 s3) (fun fs h => by cases h.1) ?_ ?_
    · rintro v fs' w' ⟨_, b2, rfl⟩ hst
      refine leaves_end (vs := [.bool false]) (w := w') rfl s2.env hst ?_ rfl ?_
      · (apply ResL.cons; apply Res.cell; rfl; apply Known.at; apply FsAt.tail; apply FsAt.head; exact Rd.one' rfl; exact ResL.nil)
      · refine ⟨own' ++ rest, ⟨false, own', rfl, hKv, rfl⟩, ?_⟩
        exact ⟨hst.bel, fun p hp => hst.own p (List.mem_cons_of_mem _ (List.mem_cons_of_mem _ hp)), (List.pairwise_cons.1 (List.pairwise_cons.1 hst.nd).2).2⟩
    · rintro ch fs' w' ⟨h, _⟩
      cases h
end Go.Proofs.YtpgdnfgjbhdbpaaGreatDoor

/-
  A scratch: which may be.
  Conditions: none.
-/
namespace Go.Proofs.YtpgdnfgjbhdbpaaGreatDoor
open Go Go.RowKit SL
set_option maxRecDepth 8000
set_option maxHeartbeats 4000000
set_option linter.unusedSimpArgs false
set_option linter.unusedVariables false
attribute [local irreducible] SL.CW SL.LW SL.DW Calls SL.Ret SL.RetG SL.beginQ SL.roundQ SL.rangeQ SL.inQ SL.RW SL.AnyW SL.thenQ SL.thenC SL.thenW SL.blkQ SL.finQ SL.ValP SL.NewP SL.SetP SL.CallP SL.Rd SL.Wr SL.Known
/-- May a scratch of n words and k bytes be? -/
def okSc (n k : Nat) : Prop := n ≤ 64 ∧ k ≤ 1024 ∧ k % 32 = 0
instance (n k : Nat) : Decidable (okSc n k) := by unfold okSc; infer_instance
section rd
variable {P : Program} {T E : TypeId} {fr : Nat × Nat} {s m : Value}
theorem sc_rd0 [AgI P T false] : Rd P T (.cells #[s, m] E fr) 0 s := Rd.one rfl
theorem sc_rd1 [AgI P T false] : Rd P T (.cells #[s, m] E fr) 1 m := Rd.one rfl
end rd
theorem scCheck_calls (p q : Option Addr) (n c k d : Nat) (hn1 : n ≤ maxLen) (hk1 : k ≤ maxLen) (w : World) : Calls Tryz.prog 66 #[.agg #[.slice p n c, .slice q k d]] w (Ret w (.int .i64 (if okSc n k then 0 else 230))) := by
  obtain ⟨e, he⟩ : ∃ e : Int, e = if okSc n k then 0 else 230 := ⟨_, rfl⟩
  have hp : okSc n k → e = 0 := fun h => by rw [he, if_pos h]
  have hn : ¬ okSc n k → e = 230 := fun h => by rw [he, if_neg h]
  rw [← he]
  clear he
  unfold okSc at hp hn
  refine enter (args := [_]) _ [] [] Tryz.func66 rfl Tryz.ntmps66 rfl (by simp) .nil ?_
  (refine sRz ?_; apply LW.boxA; rfl; rfl; intro _; refine vAz ?_; refine nNz ?_; refine CW.seq ?_; refine sRz ?_; refine vFz ?_; refine ldz rfl .head sc_rd0 ?_; refine lvz (.lenR rfl inferInstance rfl) ?_; refine lvz (.gtr rfl rfl) ?_; refine vMz ?_)
  (refine LW.guardDF rfl rfl rfl (fun hsq hsp => ?_) (fun hsq hsp => ?_))
  (refine vFz ?_; refine gTaz ?_; refine ldz rfl .head sc_rd1 ?_; refine gTaz ?_; refine lvz (.lenR rfl inferInstance rfl) ?_; refine gTaz ?_; refine lvz (.gtr rfl rfl) ?_; refine pFaz ?_; refine vMz ?_; refine LW.guardDF rfl rfl rfl (fun hsq hsp => ?_) (fun hsq hsp => ?_); refine vFz ?_; refine gTaz ?_; refine ldz rfl .head sc_rd1 ?_; refine gTaz ?_; refine lvz (.lenR rfl inferInstance rfl) ?_; refine gTaz ?_; refine lvz (.remZL rfl rfl (by decide) (by omega)) ?_; refine gTaz ?_; refine lvz (.ne rfl rfl) ?_; refine pFaz ?_; refine nNz ?_; refine CW.condN rfl (fun hsq hsp => ?_) (fun hsq hsp => ?_); refine sRz ?_; refine vAz ?_; refine nNz ?_; refine CW.ret ?_; refine thenR (finR (.inl rfl) rfl rfl rfl (.cons (.tmp rfl) .nil) ?_); rw [hn (by omega)]; rfl; refine CW.skip ?_; refine thenN ?_; refine sRz ?_; refine vAz ?_; refine nNz ?_; refine CW.ret ?_; apply finR; exact .inl rfl; rfl; rfl; rfl; apply ResL.cons; exact Res.tmp rfl; exact ResL.nil; rw [hp (by omega)]; rfl; (iterate 4 refine gFaz ?_); refine pTaz ?_; refine nNz ?_; refine cTz ?_; refine sRz ?_; refine vAz ?_; refine nNz ?_; refine CW.ret ?_; refine thenR (finR (.inl rfl) rfl rfl rfl (.cons (.tmp rfl) .nil) ?_); rw [hn (by omega)]; rfl; (iterate 3 refine gFaz ?_); refine pTaz ?_; refine vMz ?_; (iterate 5 refine gFz ?_); refine pTz ?_; refine nNz ?_; refine cTz ?_; refine sRz ?_; refine vAz ?_; refine nNz ?_; refine CW.ret ?_; refine thenR (finR (.inl rfl) rfl rfl rfl (.cons (.tmp rfl) .nil) ?_); rw [hn (by omega)]; rfl)
end Go.Proofs.YtpgdnfgjbhdbpaaGreatDoor

/-
  Contracts of the word package: bit by bit, sums, differences, and how words stand; each function walked once.
  Conditions: none.
-/
namespace Go.Proofs.YtpgdnfgjbhdbpaaGreatDoor
open Go Go.RowKit SL
set_option maxRecDepth 8000
set_option maxHeartbeats 4000000
set_option linter.unusedSimpArgs false
set_option linter.unusedVariables false
attribute [local irreducible] SL.CW SL.LW SL.DW Calls SL.Ret SL.RetG SL.beginQ SL.roundQ SL.rangeQ SL.inQ SL.RW SL.AnyW SL.thenQ SL.thenC SL.thenW SL.blkQ SL.finQ SL.ValP SL.NewP SL.SetP SL.CallP SL.Rd SL.Wr SL.Known
end Go.Proofs.YtpgdnfgjbhdbpaaGreatDoor

/-
  Contracts of the word package: And, Or, Xor, Not; sums and differences; how words stand.
  Conditions: none.
-/
namespace Go.Proofs.YtpgdnfgjbhdbpaaGreatDoor
open Go Go.RowKit SL
set_option maxRecDepth 8000
set_option maxHeartbeats 4000000
set_option linter.unusedSimpArgs false
set_option linter.unusedVariables false
attribute [local irreducible] SL.CW SL.LW SL.DW Calls SL.Ret SL.RetG SL.beginQ SL.roundQ SL.rangeQ SL.inQ SL.RW SL.AnyW SL.thenQ SL.thenC SL.thenW SL.blkQ SL.finQ SL.ValP SL.NewP SL.SetP SL.CallP SL.Rd SL.Wr SL.Known
end Go.Proofs.YtpgdnfgjbhdbpaaGreatDoor

/-
  Contracts of the word package: sums and differences, how words stand, small words.
  Conditions: none.
-/
namespace Go.Proofs.YtpgdnfgjbhdbpaaGreatDoor
open Go Go.RowKit SL
set_option maxRecDepth 8000
set_option maxHeartbeats 4000000
set_option linter.unusedSimpArgs false
set_option linter.unusedVariables false
attribute [local irreducible] SL.CW SL.LW SL.DW Calls SL.Ret SL.RetG SL.beginQ SL.roundQ SL.rangeQ SL.inQ SL.RW SL.AnyW SL.thenQ SL.thenC SL.thenW SL.blkQ SL.finQ SL.ValP SL.NewP SL.SetP SL.CallP SL.Rd SL.Wr SL.Known
theorem add64_run (x y c : Nat) (hc : c ≤ 1) (w : World) : (callFunc 174 #[.int .u64 x, .int .u64 y, .int .u64 c]).run Tryz.prog w = .ok (.value (.tuple #[.int .u64 (((x + y + c) % 18446744073709551616 : Nat) : Int), .int .u64 (((x + y + c) / 18446744073709551616 : Nat) : Int)])) w := by
  rw [run_callFunc_extern Tryz.func174 (by kernel_rfl) (by kernel_rfl) (by kernel_rfl) (e := add64Entry) (by kernel_rfl), run_add64 x y c (by omega) (by omega) (by omega) (by omega)]
  simp only [Result.andThen]
  congr 5 <;> omega
theorem carried_calls (f : FuncId) (a0 a1 a2 a3 b0 b1 b2 b3 r0 r1 r2 r3 c1 c2 c3 c4 : Nat) (w : World)
    (h0 : ∀ w, (callFunc f #[.int .u64 a0, .int .u64 b0, .int .u64 (0 : Int)]).run Tryz.prog w = .ok (.value (.tuple #[.int .u64 r0, .int .u64 c1])) w)
    (h1 : ∀ w, (callFunc f #[.int .u64 a1, .int .u64 b1, .int .u64 c1]).run Tryz.prog w = .ok (.value (.tuple #[.int .u64 r1, .int .u64 c2])) w)
    (h2 : ∀ w, (callFunc f #[.int .u64 a2, .int .u64 b2, .int .u64 c2]).run Tryz.prog w = .ok (.value (.tuple #[.int .u64 r2, .int .u64 c3])) w)
    (h3 : ∀ w, (callFunc f #[.int .u64 a3, .int .u64 b3, .int .u64 c3]).run Tryz.prog w = .ok (.value (.tuple #[.int .u64 r3, .int .u64 c4])) w) :
    Calls Tryz.prog 173 #[.agg #[.int .u64 a0, .int .u64 a1, .int .u64 a2, .int .u64 a3], .agg #[.int .u64 b0, .int .u64 b1, .int .u64 b2, .int .u64 b3], .func (.func f) #[] #[]] w (Ret w (.tuple #[.agg #[.int .u64 r0, .int .u64 r1, .int .u64 r2, .int .u64 r3], .bool (!decide ((c4 : Int) = 0))])) := by
  refine enter (args := [_, _, _]) _ [] [] Tryz.func173 rfl Tryz.ntmps173 rfl (by simp) .nil ?_
  (refine sRz ?_; apply LW.boxA; rfl; rfl; intro _; apply LW.boxA; rfl; rfl; intro _; apply LW.allocW; rfl; intro _; refine vAz ?_; refine nSz ?_; refine vAz ?_; refine nNz ?_; refine CW.seq ?_; refine sRz ?_; refine vMz ?_; refine nNz ?_; refine CW.block ?_)
  apply CW.rounds 5
  (apply RW.step; refine sRz ?_; refine lvz (.lssT rfl rfl (by omega)) ?_; refine nNz ?_; refine CW.seq ?_; refine cTz ?_; refine CW.skip ?_; refine thenN ?_; refine CW.seq ?_; refine CW.block ?_; refine sRz ?_; refine vMz ?_; refine vAz ?_; refine nNz ?_; apply CW.pre; refine AnyW.any 15 mixed (by decide +kernel) ?_; (try simp only [tsOf_cons, tsOf_nil, tsOf_app]); refine dvz (.move rfl) ?_; refine dvz (.move rfl) ?_; refine dvz (.move rfl) ?_; refine dvz (.indexAddrL rfl rfl rfl) ?_; apply DW.loadO; rfl; rfl; rfl; exact WantT.none; rfl; apply TRead.tail; apply TRead.tail; apply TRead.head; exact ancB_nil; exact Rd.one' rfl; refine dvz (.move rfl) ?_; refine dvz (.indexAddrL rfl rfl rfl) ?_; apply DW.loadO; rfl; rfl; rfl; exact WantT.none; rfl; apply TRead.tail; apply TRead.head; exact ancB_nil; exact Rd.one' rfl; refine dvz (.move rfl) ?_; apply DW.callX; rfl; rfl; rfl; exact WantT.none; rfl; exact .cons rfl (.cons rfl (.cons rfl .nil)); rfl; exact h0; refine dvz (.move rfl) ?_; refine dvz (.extractN rfl rfl) ?_; refine dvz (.extractN rfl rfl) ?_; refine dvz (.indexAddrL rfl rfl rfl) ?_; apply DW.store; rfl; rfl; exact WantT.none; rfl; rfl; apply TSet.tail; apply TSet.tail; apply TSet.head; exact ancB_nil; kernel_rfl; apply Wr.cells; rfl; rfl; simp only [wc, List.size_toArray, List.length_cons, List.length_nil]; omega; simp only [fillC, wc, wrCells, Value.cells, List.toList_toArray, List.setIfInBounds_toArray, List.set_cons_succ, List.set_cons_zero, Nat.reduceAdd, Nat.reduceMul, Nat.zero_add, Nat.mul_one]; rfl; apply DW.nil; simp only [fsOf_cons, fsOf_nil, fsOf_app, fsOf_tsOf, fsOf_new]; refine vAz ?_; apply LW.nil; refine blkN ?_; refine thenN ?_; refine CW.region ?_; refine lvz (.addI rfl rfl (by omega) (by omega)) ?_; refine vMz ?_; apply LW.nil; refine thenL ?_)
  (apply RW.step; refine sRz ?_; refine lvz (.lssT rfl rfl (by omega)) ?_; refine nNz ?_; refine CW.seq ?_; refine cTz ?_; refine CW.skip ?_; refine thenN ?_; refine CW.seq ?_; refine CW.block ?_; refine sRz ?_; refine vMz ?_; refine vAz ?_; refine nNz ?_; apply CW.pre; refine AnyW.any 15 mixed (by decide +kernel) ?_; (try simp only [tsOf_cons, tsOf_nil, tsOf_app]); refine dvz (.move rfl) ?_; refine dvz (.move rfl) ?_; refine dvz (.move rfl) ?_; refine dvz (.indexAddrL rfl rfl rfl) ?_; apply DW.loadO; rfl; rfl; rfl; exact WantT.none; rfl; apply TRead.tail; apply TRead.tail; apply TRead.head; exact ancB_nil; exact Rd.one' rfl; refine dvz (.move rfl) ?_; refine dvz (.indexAddrL rfl rfl rfl) ?_; apply DW.loadO; rfl; rfl; rfl; exact WantT.none; rfl; apply TRead.tail; apply TRead.head; exact ancB_nil; exact Rd.one' rfl; refine dvz (.move rfl) ?_; apply DW.callX; rfl; rfl; rfl; exact WantT.none; rfl; exact .cons rfl (.cons rfl (.cons rfl .nil)); rfl; exact h1; refine dvz (.move rfl) ?_; refine dvz (.extractN rfl rfl) ?_; refine dvz (.extractN rfl rfl) ?_; refine dvz (.indexAddrL rfl rfl rfl) ?_; apply DW.store; rfl; rfl; exact WantT.none; rfl; rfl; apply TSet.tail; apply TSet.tail; apply TSet.head; exact ancB_nil; kernel_rfl; apply Wr.cells; rfl; rfl; simp only [wc, List.size_toArray, List.length_cons, List.length_nil]; omega; simp only [fillC, wc, wrCells, Value.cells, List.toList_toArray, List.setIfInBounds_toArray, List.set_cons_succ, List.set_cons_zero, Nat.reduceAdd, Nat.reduceMul, Nat.zero_add, Nat.mul_one]; rfl; apply DW.nil; simp only [fsOf_cons, fsOf_nil, fsOf_app, fsOf_tsOf, fsOf_new]; refine vAz ?_; apply LW.nil; refine blkN ?_; refine thenN ?_; refine CW.region ?_; refine lvz (.addI rfl rfl (by omega) (by omega)) ?_; refine vMz ?_; apply LW.nil; refine thenL ?_)
  (apply RW.step; refine sRz ?_; refine lvz (.lssT rfl rfl (by omega)) ?_; refine nNz ?_; refine CW.seq ?_; refine cTz ?_; refine CW.skip ?_; refine thenN ?_; refine CW.seq ?_; refine CW.block ?_; refine sRz ?_; refine vMz ?_; refine vAz ?_; refine nNz ?_; apply CW.pre; refine AnyW.any 15 mixed (by decide +kernel) ?_; (try simp only [tsOf_cons, tsOf_nil, tsOf_app]); refine dvz (.move rfl) ?_; refine dvz (.move rfl) ?_; refine dvz (.move rfl) ?_; refine dvz (.indexAddrL rfl rfl rfl) ?_; apply DW.loadO; rfl; rfl; rfl; exact WantT.none; rfl; apply TRead.tail; apply TRead.tail; apply TRead.head; exact ancB_nil; exact Rd.one' rfl; refine dvz (.move rfl) ?_; refine dvz (.indexAddrL rfl rfl rfl) ?_; apply DW.loadO; rfl; rfl; rfl; exact WantT.none; rfl; apply TRead.tail; apply TRead.head; exact ancB_nil; exact Rd.one' rfl; refine dvz (.move rfl) ?_; apply DW.callX; rfl; rfl; rfl; exact WantT.none; rfl; exact .cons rfl (.cons rfl (.cons rfl .nil)); rfl; exact h2; refine dvz (.move rfl) ?_; refine dvz (.extractN rfl rfl) ?_; refine dvz (.extractN rfl rfl) ?_; refine dvz (.indexAddrL rfl rfl rfl) ?_; apply DW.store; rfl; rfl; exact WantT.none; rfl; rfl; apply TSet.tail; apply TSet.tail; apply TSet.head; exact ancB_nil; kernel_rfl; apply Wr.cells; rfl; rfl; simp only [wc, List.size_toArray, List.length_cons, List.length_nil]; omega; simp only [fillC, wc, wrCells, Value.cells, List.toList_toArray, List.setIfInBounds_toArray, List.set_cons_succ, List.set_cons_zero, Nat.reduceAdd, Nat.reduceMul, Nat.zero_add, Nat.mul_one]; rfl; apply DW.nil; simp only [fsOf_cons, fsOf_nil, fsOf_app, fsOf_tsOf, fsOf_new]; refine vAz ?_; apply LW.nil; refine blkN ?_; refine thenN ?_; refine CW.region ?_; refine lvz (.addI rfl rfl (by omega) (by omega)) ?_; refine vMz ?_; apply LW.nil; refine thenL ?_)
  (apply RW.step; refine sRz ?_; refine lvz (.lssT rfl rfl (by omega)) ?_; refine nNz ?_; refine CW.seq ?_; refine cTz ?_; refine CW.skip ?_; refine thenN ?_; refine CW.seq ?_; refine CW.block ?_; refine sRz ?_; refine vMz ?_; refine vAz ?_; refine nNz ?_; apply CW.pre; refine AnyW.any 15 mixed (by decide +kernel) ?_; (try simp only [tsOf_cons, tsOf_nil, tsOf_app]); refine dvz (.move rfl) ?_; refine dvz (.move rfl) ?_; refine dvz (.move rfl) ?_; refine dvz (.indexAddrL rfl rfl rfl) ?_; apply DW.loadO; rfl; rfl; rfl; exact WantT.none; rfl; apply TRead.tail; apply TRead.tail; apply TRead.head; exact ancB_nil; exact Rd.one' rfl; refine dvz (.move rfl) ?_; refine dvz (.indexAddrL rfl rfl rfl) ?_; apply DW.loadO; rfl; rfl; rfl; exact WantT.none; rfl; apply TRead.tail; apply TRead.head; exact ancB_nil; exact Rd.one' rfl; refine dvz (.move rfl) ?_; apply DW.callX; rfl; rfl; rfl; exact WantT.none; rfl; exact .cons rfl (.cons rfl (.cons rfl .nil)); rfl; exact h3; refine dvz (.move rfl) ?_; refine dvz (.extractN rfl rfl) ?_; refine dvz (.extractN rfl rfl) ?_; refine dvz (.indexAddrL rfl rfl rfl) ?_; apply DW.store; rfl; rfl; exact WantT.none; rfl; rfl; apply TSet.tail; apply TSet.tail; apply TSet.head; exact ancB_nil; kernel_rfl; apply Wr.cells; rfl; rfl; simp only [wc, List.size_toArray, List.length_cons, List.length_nil]; omega; simp only [fillC, wc, wrCells, Value.cells, List.toList_toArray, List.setIfInBounds_toArray, List.set_cons_succ, List.set_cons_zero, Nat.reduceAdd, Nat.reduceMul, Nat.zero_add, Nat.mul_one]; rfl; apply DW.nil; simp only [fsOf_cons, fsOf_nil, fsOf_app, fsOf_tsOf, fsOf_new]; refine vAz ?_; apply LW.nil; refine blkN ?_; refine thenN ?_; refine CW.region ?_; refine lvz (.addI rfl rfl (by omega) (by omega)) ?_; refine vMz ?_; apply LW.nil; refine thenL ?_)
  (apply RW.step; refine sRz ?_; refine lvz (.lssF rfl rfl (by omega)) ?_; refine nNz ?_; refine CW.seq ?_; refine cFz ?_; refine CW.exit ?_; refine thenE ?_; refine thenE ?_; refine blkE rfl ?_; refine thenN ?_; refine sRz ?_; refine ldz rfl (.tail (.tail .head)) (Rd.whole rfl) ?_; refine vMz ?_; refine lvz (.ne rfl rfl) ?_; refine LW.store rfl rfl .head (.whole rfl rfl rfl) ?_; refine vAz ?_; refine nNz ?_; refine CW.ret ?_)
  (apply finR; exact .inl rfl; rfl; rfl; rfl; apply ResL.cons; apply Res.cell; rfl; apply Known.at; apply FsAt.head; exact Rd.whole rfl; apply ResL.cons; exact Res.tmp rfl; exact ResL.nil)
  rfl
theorem Of_calls (n : Nat) (hn : n < 18446744073709551616) (w : World) : Calls Tryz.prog 80 #[.int .u64 n] w (Ret w (wv n)) := by
  refine enter (args := [_]) _ [] [] Tryz.func80 rfl Tryz.ntmps80 rfl (by simp) .nil ?_
  (refine sRz ?_; apply LW.allocW; rfl; intro _; refine nSz ?_; refine vMz ?_; refine lvz (.buildW1 rfl (by omega)) ?_; refine LW.store rfl rfl .head (.whole rfl rfl rfl) ?_; refine nNz ?_; refine CW.ret ?_)
  (apply finR; exact .inl rfl; rfl; rfl; rfl; apply ResL.cons; apply Res.cell; rfl; apply Known.at; apply FsAt.head; exact Rd.whole rfl; exact ResL.nil)
  rfl
theorem small_or (a : Nat) (ha : a < M256) : (((a / 18446744073709551616 % 18446744073709551616 ||| a / 340282366920938463463374607431768211456 % 18446744073709551616 ||| a / 6277101735386680763835789423207666416102355444464034512896 % 18446744073709551616 : Nat) : Int) = 0) ↔ a < 18446744073709551616 := by
  simp only [M256] at ha
  rw [Int.natCast_eq_zero, Nat.or_eq_zero_iff, Nat.or_eq_zero_iff]
  omega
theorem Small_calls (a : Nat) (ha : a < M256) (w : World) : Calls Tryz.prog 121 #[wv a] w (Ret w (.tuple #[.int .u64 ((if a < 18446744073709551616 then a else 0 : Nat) : Int), .bool (decide (a < 18446744073709551616))])) := by
  refine enter (args := [_]) _ [] [] Tryz.func121 rfl Tryz.ntmps121 rfl (by simp) .nil ?_
  (refine sRz ?_; apply LW.boxA; rfl; rfl; intro _; refine vAz ?_; refine vAz ?_; refine nNz ?_; refine CW.seq ?_; refine sRz ?_; refine lvz (.indexAddrL rfl rfl rfl) ?_; refine ldz rfl .head (Rd.one' rfl) ?_; refine lvz (.indexAddrL rfl rfl rfl) ?_; refine ldz rfl .head (Rd.one' rfl) ?_; refine lvz (.orU rfl rfl (by omega) (by omega)) ?_; refine lvz (.indexAddrL rfl rfl rfl) ?_; refine ldz rfl .head (Rd.one' rfl) ?_; apply LW.v0; rfl; rfl; apply ValP.orU; rfl; rfl; apply or64; omega; omega; omega; refine lvz (.ne rfl rfl) ?_; refine nNz ?_)
  apply CW.cond
  rfl
  · intro hb
    have h : ¬ a < 18446744073709551616 := fun h => by rw [decide_eq_true ((small_or a ha).2 h)] at hb; cases hb
    (refine sRz ?_; refine vAz ?_; refine vAz ?_; refine nNz ?_; refine CW.ret ?_; refine thenR ?_)
    (apply finR; exact .inl rfl; rfl; rfl; rfl; apply ResL.cons; exact Res.tmp rfl; apply ResL.cons; exact Res.tmp rfl; exact ResL.nil)
    rw [if_neg h, decide_eq_false h]; rfl
  · intro hb
    have h : a < 18446744073709551616 := (small_or a ha).1 (by simpa using hb)
    (refine CW.skip ?_; refine thenN ?_; refine sRz ?_; refine lvz (.indexAddrL rfl rfl rfl) ?_; refine ldz rfl .head (Rd.one' rfl) ?_; refine vAz ?_; refine vAz ?_; refine nNz ?_; refine CW.ret ?_)
    (apply finR; exact .inl rfl; rfl; rfl; rfl; apply ResL.cons; exact Res.tmp rfl; apply ResL.cons; exact Res.tmp rfl; exact ResL.nil)
    rw [if_pos h, decide_eq_true h, show (a : Int) = ((a % 18446744073709551616 : Nat) : Int) by omega]; rfl
end Go.Proofs.YtpgdnfgjbhdbpaaGreatDoor

/-
  Contracts of the word package: Add, Sub, Cmp, Sum.
  Conditions: none.
-/
namespace Go.Proofs.YtpgdnfgjbhdbpaaGreatDoor
open Go Go.RowKit SL
set_option maxRecDepth 8000
set_option maxHeartbeats 4000000
set_option linter.unusedSimpArgs false
set_option linter.unusedVariables false
attribute [local irreducible] SL.CW SL.LW SL.DW Calls SL.Ret SL.RetG SL.beginQ SL.roundQ SL.rangeQ SL.inQ SL.RW SL.AnyW SL.thenQ SL.thenC SL.thenW SL.blkQ SL.finQ SL.ValP SL.NewP SL.SetP SL.CallP SL.Rd SL.Wr SL.Known
theorem val_limbs (a : Nat) (ha : a < M256) : a = a % 18446744073709551616 + 18446744073709551616 * (a / 18446744073709551616 % 18446744073709551616) + 340282366920938463463374607431768211456 * (a / 340282366920938463463374607431768211456 % 18446744073709551616) + 6277101735386680763835789423207666416102355444464034512896 * (a / 6277101735386680763835789423207666416102355444464034512896 % 18446744073709551616) := by
  simp only [M256] at ha
  omega
theorem over_of {c : Nat} {p : Prop} [Decidable p] (h : (c : Int) = 0 ↔ ¬ p) : (!decide ((c : Int) = 0)) = decide p := by
  by_cases hp : p
  · have : ¬ ((c : Int) = 0) := fun h' => (h.1 h') hp
    rw [decide_eq_false this, decide_eq_true hp]; rfl
  · rw [decide_eq_true (h.2 hp), decide_eq_false hp]; rfl
theorem lim_lt (a : Nat) : a % 18446744073709551616 < 18446744073709551616 ∧ a / 18446744073709551616 % 18446744073709551616 < 18446744073709551616 ∧ a / 340282366920938463463374607431768211456 % 18446744073709551616 < 18446744073709551616 ∧ a / 6277101735386680763835789423207666416102355444464034512896 % 18446744073709551616 < 18446744073709551616 := by
  refine ⟨?_, ?_, ?_, ?_⟩ <;> exact Nat.mod_lt _ (by decide)
theorem add_step (x y c : Nat) (hx : x < 18446744073709551616) (hy : y < 18446744073709551616) (hc : c ≤ 1) : ∃ r c', (∀ w, (callFunc 174 #[.int .u64 x, .int .u64 y, .int .u64 c]).run Tryz.prog w = .ok (.value (.tuple #[.int .u64 (r : Nat), .int .u64 (c' : Nat)])) w) ∧ r + 18446744073709551616 * c' = x + y + c ∧ r < 18446744073709551616 ∧ c' ≤ 1 :=
  ⟨_, _, fun w => add64_run x y c hc w, by omega, by omega, by omega⟩
theorem carried_finAdd (a b a0 a1 a2 a3 b0 b1 b2 b3 r0 r1 r2 r3 c1 c2 c3 c4 : Nat) (va : a = a0 + 18446744073709551616 * a1 + 340282366920938463463374607431768211456 * a2 + 6277101735386680763835789423207666416102355444464034512896 * a3) (vb : b = b0 + 18446744073709551616 * b1 + 340282366920938463463374607431768211456 * b2 + 6277101735386680763835789423207666416102355444464034512896 * b3) (e0 : r0 + 18446744073709551616 * c1 = a0 + b0 + 0) (e1 : r1 + 18446744073709551616 * c2 = a1 + b1 + c1) (e2 : r2 + 18446744073709551616 * c3 = a2 + b2 + c2) (e3 : r3 + 18446744073709551616 * c4 = a3 + b3 + c3) : r0 + 18446744073709551616 * r1 + 340282366920938463463374607431768211456 * r2 + 6277101735386680763835789423207666416102355444464034512896 * r3 + 115792089237316195423570985008687907853269984665640564039457584007913129639936 * c4 = a + b := by omega
theorem carried_valAdd (a b r0 r1 r2 r3 c4 : Nat) (ha : a < M256) (hb : b < M256) (f0 : r0 < 18446744073709551616) (f1 : r1 < 18446744073709551616) (f2 : r2 < 18446744073709551616) (f3 : r3 < 18446744073709551616) (g4 : c4 ≤ 1) (h : r0 + 18446744073709551616 * r1 + 340282366920938463463374607431768211456 * r2 + 6277101735386680763835789423207666416102355444464034512896 * r3 + 115792089237316195423570985008687907853269984665640564039457584007913129639936 * c4 = a + b) : #[Value.int .u64 (r0 : Int), .int .u64 (r1 : Int), .int .u64 (r2 : Int), .int .u64 (r3 : Int)] = wc ((a + b) % M256) :=
  wc_val f0 f1 f2 f3 (by simp only [M256] at *; omega)
theorem carried_overAdd (a b r0 r1 r2 r3 c4 : Nat) (ha : a < M256) (hb : b < M256) (f0 : r0 < 18446744073709551616) (f1 : r1 < 18446744073709551616) (f2 : r2 < 18446744073709551616) (f3 : r3 < 18446744073709551616) (g4 : c4 ≤ 1) (h : r0 + 18446744073709551616 * r1 + 340282366920938463463374607431768211456 * r2 + 6277101735386680763835789423207666416102355444464034512896 * r3 + 115792089237316195423570985008687907853269984665640564039457584007913129639936 * c4 = a + b) : (!decide ((c4 : Int) = 0)) = decide (M256 ≤ a + b) := by
  have : ((c4 : Int) = 0) ↔ ¬ (M256 ≤ a + b) := by simp only [M256] at *; omega
  exact over_of this
theorem carriedAdd_calls (a b : Nat) (ha : a < M256) (hb : b < M256) (w : World) : Calls Tryz.prog 173 #[wv a, wv b, .func (.func 174) #[] #[]] w (Ret w (.tuple #[wv ((a + b) % M256), .bool (decide (M256 ≤ a + b))])) := by
  obtain ⟨la0, la1, la2, la3⟩ := lim_lt a
  obtain ⟨lb0, lb1, lb2, lb3⟩ := lim_lt b
  have va := val_limbs a ha
  have vb := val_limbs b hb
  obtain ⟨r0, c1, h0, e0, f0, g1⟩ := add_step (a % 18446744073709551616) (b % 18446744073709551616) 0 la0 lb0 (by decide)
  obtain ⟨r1, c2, h1, e1, f1, g2⟩ := add_step (a / 18446744073709551616 % 18446744073709551616) (b / 18446744073709551616 % 18446744073709551616) c1 la1 lb1 g1
  obtain ⟨r2, c3, h2, e2, f2, g3⟩ := add_step (a / 340282366920938463463374607431768211456 % 18446744073709551616) (b / 340282366920938463463374607431768211456 % 18446744073709551616) c2 la2 lb2 g2
  obtain ⟨r3, c4, h3, e3, f3, g4⟩ := add_step (a / 6277101735386680763835789423207666416102355444464034512896 % 18446744073709551616) (b / 6277101735386680763835789423207666416102355444464034512896 % 18446744073709551616) c3 la3 lb3 g3
  have key := carried_calls 174 _ _ _ _ _ _ _ _ _ _ _ _ _ _ _ _ w h0 h1 h2 h3
  clear h0 h1 h2 h3
  have h : r0 + 18446744073709551616 * r1 + 340282366920938463463374607431768211456 * r2 + 6277101735386680763835789423207666416102355444464034512896 * r3 + 115792089237316195423570985008687907853269984665640564039457584007913129639936 * c4 = a + b := carried_finAdd _ _ _ _ _ _ _ _ _ _ _ _ _ _ _ _ _ _ va vb e0 e1 e2 e3
  rw [show #[Value.int .u64 (r0 : Int), .int .u64 (r1 : Int), .int .u64 (r2 : Int), .int .u64 (r3 : Int)] = wc ((a + b) % M256) from carried_valAdd _ _ _ _ _ _ _ ha hb f0 f1 f2 f3 g4 h, carried_overAdd _ _ _ _ _ _ _ ha hb f0 f1 f2 f3 g4 h] at key
  exact key
theorem Add_calls (a b : Nat) (ha : a < M256) (hb : b < M256) (w : World) : Calls Tryz.prog 167 #[wv a, wv b] w (Ret w (.tuple #[wv ((a + b) % M256), .bool (decide (M256 ≤ a + b))])) := by
  refine enter (args := [_, _]) _ [] [] Tryz.func167 rfl Tryz.ntmps167 rfl (by simp) .nil ?_
  (refine sRz ?_; apply LW.boxA; rfl; rfl; intro _; apply LW.boxA; rfl; rfl; intro _; apply LW.allocW; rfl; intro _; refine vAz ?_; refine nSz ?_; refine ldz rfl (.tail (.tail .head)) (Rd.whole rfl) ?_; refine ldz rfl (.tail .head) (Rd.whole rfl) ?_; apply LW.callE; rfl; rfl; infer_instance; exact .cons rfl (.cons rfl (.cons rfl .nil)); intro w _; refine carriedAdd_calls _ _ ?_ ?_ w; assumption; assumption; refine vEz ?_; refine vEz ?_; refine LW.store rfl rfl .head (.whole rfl rfl rfl) ?_; refine vAz ?_; refine nNz ?_; refine CW.ret ?_)
  (apply finR; exact .inl rfl; rfl; rfl; rfl; apply ResL.cons; apply Res.cell; rfl; apply Known.at; apply FsAt.head; exact Rd.whole rfl; apply ResL.cons; exact Res.tmp rfl; exact ResL.nil)
  rfl
end Go.Proofs.YtpgdnfgjbhdbpaaGreatDoor

/-
  Contracts of the word package: how words stand; how far a word is moved.
  Conditions: none.
-/
namespace Go.Proofs.YtpgdnfgjbhdbpaaGreatDoor
open Go Go.RowKit SL
set_option maxRecDepth 8000
set_option maxHeartbeats 4000000
set_option linter.unusedSimpArgs false
set_option linter.unusedVariables false
attribute [local irreducible] SL.CW SL.LW SL.DW Calls SL.Ret SL.RetG SL.beginQ SL.roundQ SL.rangeQ SL.inQ SL.RW SL.AnyW SL.thenQ SL.thenC SL.thenW SL.blkQ SL.finQ SL.ValP SL.NewP SL.SetP SL.CallP SL.Rd SL.Wr SL.Known
end Go.Proofs.YtpgdnfgjbhdbpaaGreatDoor

/-
  Contracts of the word package: how many times a word is in another one, and what is left.
  Conditions: none.
-/
namespace Go.Proofs.YtpgdnfgjbhdbpaaGreatDoor
open Go Go.RowKit SL
set_option maxRecDepth 8000
set_option maxHeartbeats 4000000
set_option linter.unusedSimpArgs false
set_option linter.unusedVariables false
attribute [local irreducible] SL.CW SL.LW SL.DW Calls SL.Ret SL.RetG SL.beginQ SL.roundQ SL.rangeQ SL.inQ SL.RW SL.AnyW SL.thenQ SL.thenC SL.thenW SL.blkQ SL.finQ SL.ValP SL.NewP SL.SetP SL.CallP SL.Rd SL.Wr SL.Known
end Go.Proofs.YtpgdnfgjbhdbpaaGreatDoor

/-
  Contracts of the word package: a word's digits.
  Conditions: none.
-/
namespace Go.Proofs.YtpgdnfgjbhdbpaaGreatDoor
open Go Go.RowKit SL
set_option maxRecDepth 8000
set_option maxHeartbeats 4000000
set_option linter.unusedSimpArgs false
set_option linter.unusedVariables false
attribute [local irreducible] SL.CW SL.LW SL.DW Calls SL.Ret SL.RetG SL.beginQ SL.roundQ SL.rangeQ SL.inQ SL.RW SL.AnyW SL.thenQ SL.thenC SL.thenW SL.blkQ SL.finQ SL.ValP SL.NewP SL.SetP SL.CallP SL.Rd SL.Wr SL.Known
/-! ### Digits to the base 16 -/
structure TX where
  m : Nat
  p : Value
  v : Value
  seg : Fs
  l : List UInt8
end Go.Proofs.YtpgdnfgjbhdbpaaGreatDoor

/-
  The layer does something; sets of bits.
  Conditions: none.
-/
namespace Go.Proofs.YtpgdnfgjbhdbpaaGreatDoor
open Go Go.RowKit SL
set_option maxRecDepth 8000
set_option maxHeartbeats 4000000
set_option linter.unusedSimpArgs false
set_option linter.unusedVariables false
attribute [local irreducible] SL.CW SL.LW SL.DW Calls SL.Ret SL.RetG SL.beginQ SL.roundQ SL.rangeQ SL.inQ SL.RW SL.AnyW SL.thenQ SL.thenC SL.thenW SL.blkQ SL.finQ SL.ValP SL.NewP SL.SetP SL.CallP SL.Rd SL.Wr SL.Known
/-! ### Sets of bits -/
end Go.Proofs.YtpgdnfgjbhdbpaaGreatDoor

/-
  Contracts of the word package: sums of many.
  Conditions: none.
-/
namespace Go.Proofs.YtpgdnfgjbhdbpaaGreatDoor
open Go Go.RowKit SL
set_option maxRecDepth 8000
set_option maxHeartbeats 4000000
set_option linter.unusedSimpArgs false
set_option linter.unusedVariables false
attribute [local irreducible] SL.CW SL.LW SL.DW Calls SL.Ret SL.RetG SL.beginQ SL.roundQ SL.rangeQ SL.inQ SL.RW SL.AnyW SL.thenQ SL.thenC SL.thenW SL.blkQ SL.finQ SL.ValP SL.NewP SL.SetP SL.CallP SL.Rd SL.Wr SL.Known
/-- The cells of words. -/
def wcs (l : List Nat) : List Value := l.flatMap fun a => (wc a).toList
theorem wcs_len (l : List Nat) : ∀ a ∈ l, ((wc a).toList).length = 4 := fun _ _ => rfl
theorem take_step (l : List Nat) (m : Nat) (h : m < l.length) : (l.take (m + 1)).sum = (l.take m).sum + l[m] := by
  rw [List.take_succ_eq_append_getElem h, List.sum_append]; simp
end Go.Proofs.YtpgdnfgjbhdbpaaGreatDoor

/-
  The document's answer in bits: contracts.
  Conditions: none.
-/
namespace Go.Proofs.YtpgdnfgjbhdbpaaGreatDoor
open Go Go.RowKit SL
set_option maxRecDepth 8000
set_option maxHeartbeats 4000000
set_option linter.unusedSimpArgs false
set_option linter.unusedVariables false
attribute [local irreducible] SL.CW SL.LW SL.DW Calls SL.Ret SL.RetG SL.beginQ SL.roundQ SL.rangeQ SL.inQ SL.RW SL.AnyW SL.thenQ SL.thenC SL.thenW SL.blkQ SL.finQ SL.ValP SL.NewP SL.SetP SL.CallP SL.Rd SL.Wr SL.Known
/-- The bits of a number, so many of them. -/
def bl (a m : Nat) : List Nat := (List.range m).map fun n => a / 2 ^ n % 2
structure RX where
  m : Nat
  v : Value
  seg : Fs
end Go.Proofs.YtpgdnfgjbhdbpaaGreatDoor

/-
  The document's answer in bits: sums, and the word of bits.
  Conditions: none.
-/
namespace Go.Proofs.YtpgdnfgjbhdbpaaGreatDoor
open Go Go.RowKit SL
set_option maxRecDepth 8000
set_option maxHeartbeats 4000000
set_option linter.unusedSimpArgs false
set_option linter.unusedVariables false
attribute [local irreducible] SL.CW SL.LW SL.DW Calls SL.Ret SL.RetG SL.beginQ SL.roundQ SL.rangeQ SL.inQ SL.RW SL.AnyW SL.thenQ SL.thenC SL.thenW SL.blkQ SL.finQ SL.ValP SL.NewP SL.SetP SL.CallP SL.Rd SL.Wr SL.Known
structure RC where
  m : Nat
  v : Value
  seg : Fs
end Go.Proofs.YtpgdnfgjbhdbpaaGreatDoor

/-
  The document's answer in bits: what is done bit by bit.
  Conditions: none.
-/
namespace Go.Proofs.YtpgdnfgjbhdbpaaGreatDoor
open Go Go.RowKit SL
set_option maxRecDepth 8000
set_option maxHeartbeats 4000000
set_option linter.unusedSimpArgs false
set_option linter.unusedVariables false
attribute [local irreducible] SL.CW SL.LW SL.DW Calls SL.Ret SL.RetG SL.beginQ SL.roundQ SL.rangeQ SL.inQ SL.RW SL.AnyW SL.thenQ SL.thenC SL.thenW SL.blkQ SL.finQ SL.ValP SL.NewP SL.SetP SL.CallP SL.Rd SL.Wr SL.Known
end Go.Proofs.YtpgdnfgjbhdbpaaGreatDoor

/-
  The document's answer in bits: sums, differences, and how words stand.
  Conditions: none.
-/
namespace Go.Proofs.YtpgdnfgjbhdbpaaGreatDoor
open Go Go.RowKit SL
set_option maxRecDepth 8000
set_option maxHeartbeats 4000000
set_option linter.unusedSimpArgs false
set_option linter.unusedVariables false
attribute [local irreducible] SL.CW SL.LW SL.DW Calls SL.Ret SL.RetG SL.beginQ SL.roundQ SL.rangeQ SL.inQ SL.RW SL.AnyW SL.thenQ SL.thenC SL.thenW SL.blkQ SL.finQ SL.ValP SL.NewP SL.SetP SL.CallP SL.Rd SL.Wr SL.Known
end Go.Proofs.YtpgdnfgjbhdbpaaGreatDoor
