/-
  A SMALL LOGIC OVER THE KIT's WALK, PART I: pointers seen as others, strings out of bytes; what strings.Builder needs.
  Conditions: none; over any program.
-/
import Derived.Test.YtahoghldnijnbaaSlh
import Derived.Lib.Builder
import Derived.Lib.UnsafeStr
namespace Go.Proofs.Ytahoghldnijnbaa.SL
set_option linter.unusedVariables false
set_option linter.unusedSimpArgs false
open Go Go.RowKit
section ptr
variable {P : Program} {e : Env} {T ty : TypeId} {x y : Operand}
theorem ValP.ptrSame {E n : TypeId} {z : Value} {a : Addr} [UnI P T (.pointer E)] [InfoI P E n z] (hx : e.ev x = some (.pointer (some a))) (hy : e.ev y = some (.pointer (some a))) : ValP P e [] (.binOp .neq T x y ty) (.bool false) := by
  obtain ⟨i, h1, _, _⟩ := info_of (P := P) (T := E)
  exact .bin hx hy (fun w => guard_ptr w) fun w => Lib.run_neq_ptr_same w a UnI.un h1
theorem ValP.toUnsafe {S D t n : TypeId} {z : Value} {b off : Nat} {cs : Array Value} {E : TypeId} {fr : Nat × Nat} [UnI P S (.pointer t)] [UnI P D .unsafePointer] [InfoI P t n z] (hn : Nat.blt 0 n = true) (hx : e.ev x = some (.pointer (some ⟨b, off, none⟩))) (hoff : off < cs.size) :
    ValP P e [(b, .cells cs E fr)] (.convert S D x) (.pointer (some ⟨b, off, none⟩)) := fun ρ w hρ hu d t' pos af g => by
  obtain ⟨i, h1, h2, _⟩ := info_of (P := P) (T := t)
  have hb : w.heap[b]? = some (.cells cs E fr) := by simpa using hu
  have hn0 : n ≠ 0 := Nat.ne_of_gt (by simpa [Nat.blt_eq] using hn)
  have := Lib.run_to_unsafe (P := P) w ⟨b, off, none⟩ (src := S) (dst := D) UnI.un UnI.un h1 (by rw [h2]; exact hn0) (e := E) (cells := cs.size) (by simp [World.shape?, hb]) hoff
  simp [execOp, hρ x _ hx, this]
theorem ValP.fromUnsafe {S D u n : TypeId} {z : Value} {b off : Nat} {cs : Array Value} {E : TypeId} {fr : Nat × Nat} [UnI P S .unsafePointer] [UnI P D (.pointer u)] [InfoI P u n z] (hx : e.ev x = some (.pointer (some ⟨b, off, none⟩))) (hl : liesAt P P.depth E (cs.size / P.cellsOf E) off u 1 = true) :
    ValP P e [(b, .cells cs E fr)] (.convert S D x) (.pointer (some ⟨b, off, none⟩)) := fun ρ w hρ hu d t' pos af g => by
  obtain ⟨i, h1, h2, _⟩ := info_of (P := P) (T := u)
  have hb : w.heap[b]? = some (.cells cs E fr) := by simpa using hu
  have := Lib.run_from_unsafe (P := P) w ⟨b, off, none⟩ (src := S) (dst := D) UnI.un UnI.un h1 (e := E) (cells := cs.size) (by simp [World.shape?, hb]) hl
  simp [execOp, hρ x _ hx, this]
theorem ValP.sliceData {tys : Array TypeId} {a : Addr} {n c : Nat} (hx : e.ev x = some (.slice (some a) n c)) (hc : Nat.blt 0 c = true) : ValP P e [] (.call { callee := .builtin .unsafeSliceData, args := #[x], argTypes := tys }) (.pointer (some a)) := fun ρ w hρ _ d t pos af g => by
  have := Lib.run_unsafeSliceData_row (P := P) (w := w) tys t a n c (Nat.ne_of_gt (by simpa [Nat.blt_eq] using hc))
  simp [execOp, resolve, invoke, builtin, hρ x _ hx, this]
theorem ValP.sliceDataR {tys : Array TypeId} {a : Addr} {n c : Nat} (hx : e.ev x = some (.slice (some a) n c)) (hc : 0 < c) : ValP P e [] (.call { callee := .builtin .unsafeSliceData, args := #[x], argTypes := tys }) (.pointer (some a)) := .sliceData hx (by simpa [Nat.blt_eq] using hc)
/-- A string's byte. -/
theorem ValP.indexStr {s : ByteArray} {ik : IntKind} {j : Int} {k : Nat} {b : UInt8} [UnI P T .string] (hx : e.ev x = some (.string s)) (hy : e.ev y = some (.int ik j)) (hj : j = (k : Int)) (hb : s[k]? = some b) : ValP P e [] (.index T x y) (.int .u8 (b.toNat : Nat)) := fun ρ w hρ _ d t pos af g => by
  subst hj
  simp [execOp, hρ x _ hx, hρ y _ hy, Instr.index, Sem.run_bind, run_un, asIntOf, hb]
end ptr

theorem freeze_putObj {w : World} {g n : Nat} {cur : Array Value} {E : TypeId} (h : w.heap[g]? = some (.cells cur E (0, 0))) (hn : n ≠ 0) : w.freeze ⟨g, 0, none⟩ n = w.putObj g (.cells cur E (0, n)) := by
  unfold World.freeze World.putObj
  rw [if_neg hn]
  have hlt := (Array.getElem?_eq_some_iff.1 h).1
  congr 1
  apply Array.ext_getElem?
  intro i
  by_cases hi : g = i
  · subst hi; rw [Array.getElem?_modify, if_pos rfl, h]; simp [hlt]
  · simp [Array.getElem?_modify, hi]

section us
variable {C : Cu} {ops : Array Oper} {Q : Post} {rest : List Oper} {e : Env} {fs fs' : Fs} {d : Nat} {op : Op} {t : TypeId} {pos : String} {af : Array Edge}
/-- An operation that yields v and turns a block that is known. -/
theorem LW.valset {v : Value} {b : Nat} {o o' : Obj} (hd : Nat.blt d C.N = true) (hnd : ∀ c, op ≠ .defer c) (hset : SetAt fs b o o' fs')
    (h : ∀ a w, Sat C e fs a w → w.heap[b]? = some o → (execOp a.eval ⟨some d, op, t, pos, af, none⟩).run C.P w = .ok (.value v) (w.putObj b o')) (k : LW C ops Q rest ((d, v) :: e) fs') :
    LW C ops Q (⟨some d, op, t, pos, af, none⟩ :: rest) e fs := fun a w hs => by
  refine wpListIn_take (wanted_none _ rfl _) ⟨fun _ _ => trivial, ?_⟩
  rw [semAt_FR hnd, h a w hs (hs.st.own _ hset.mem).2]
  exact k _ _ ⟨hs.env.put hd, hs.st.set hset⟩
/-- **A string out of bytes** of a row's bytes: the row is written no more. -/
theorem LW.unsafeString {x y : Operand} {pt it : TypeId} {tys : Array TypeId} {E : TypeId} {g : Nat} {cur : Array Value} {l : List UInt8} (hT : tys = #[pt, it]) (hU : UnI C.P pt (.pointer E)) (hc : C.P.cellsOf E = 1) (hd : Nat.blt d C.N = true) (hx : e.ev x = some (.pointer (some ⟨g, 0, none⟩))) (hy : e.ev y = some (.int .i64 (l.length : Int)))
    (h0 : l ≠ []) (h63 : l.length ≤ 9223372036854775807) (hr : ∀ (j : Nat) (u : UInt8), l[j]? = some u → cur[j]? = some (Value.int .u8 u.toNat)) (hset : SetAt fs g (.cells cur E (0, 0)) (.cells cur E (0, l.length)) fs') (k : LW C ops Q rest ((d, .string ⟨l.toArray⟩) :: e) fs') :
    LW C ops Q (⟨some d, .call { callee := .builtin .unsafeString, args := #[x, y], argTypes := tys }, t, pos, af, none⟩ :: rest) e fs := by
  subst hT
  refine LW.valset hd (fun c h => by cases h) hset (fun a w hs hg => ?_) k
  have hlen : l.length ≤ cur.size := by
    rcases Nat.lt_or_ge cur.size l.length with h | h
    · have h2 := hr cur.size (l[cur.size]'h) (by simp [h])
      rw [Array.getElem?_eq_none (Nat.le_refl _)] at h2; cases h2
    · exact h
  have := Lib.run_unsafeString_row (P := C.P) w pt it t E UnI.un hc g cur.size (by simp [World.shape?, hg]) l h0 hlen h63 (fun j u hu => by rw [addr_add, Nat.zero_add, cell_of hg]; exact hr j u hu)
  rw [freeze_putObj hg (by simpa using h0)] at this
  simp [execOp, resolve, invoke, builtin, hs.env.ev hx, hs.env.ev hy, this]
end us

section cu
variable {C : Cu} {ops : Array Oper} {Q : Post} {rest : List Oper} {e : Env} {fs : Fs} {d : Nat} {t' : TypeId} {pos : String} {af : Array Edge}
theorem LW.toUnsafe {x : Operand} {S D t n : TypeId} {z : Value} {b off : Nat} {cs : Array Value} {E : TypeId} {fr : Nat × Nat} [UnI C.P S (.pointer t)] [UnI C.P D .unsafePointer] [InfoI C.P t n z] (hd : Nat.blt d C.N = true) (hx : e.ev x = some (.pointer (some ⟨b, off, none⟩))) (hk : Known C fs (b, .cells cs E fr)) (hn : Nat.blt 0 n = true) (hoff : Nat.blt off cs.size = true)
    (k : LW C ops Q rest ((d, .pointer (some ⟨b, off, none⟩)) :: e) fs) : LW C ops Q (⟨some d, .convert S D x, t', pos, af, none⟩ :: rest) e fs := LW.v1 hd rfl (.toUnsafe hn hx (by simpa [Nat.blt_eq] using hoff)) hk k
theorem LW.fromUnsafe {x : Operand} {S D u n : TypeId} {z : Value} {b off : Nat} {cs : Array Value} {E : TypeId} {fr : Nat × Nat} [UnI C.P S .unsafePointer] [UnI C.P D (.pointer u)] [InfoI C.P u n z] (hd : Nat.blt d C.N = true) (hx : e.ev x = some (.pointer (some ⟨b, off, none⟩))) (hk : Known C fs (b, .cells cs E fr)) (hl : liesAt C.P C.P.depth E (cs.size / C.P.cellsOf E) off u 1 = true)
    (k : LW C ops Q rest ((d, .pointer (some ⟨b, off, none⟩)) :: e) fs) : LW C ops Q (⟨some d, .convert S D x, t', pos, af, none⟩ :: rest) e fs := LW.v1 hd rfl (.fromUnsafe hx hl) hk k
end cu

/-! ### The order of facts does not matter -/
theorem St.perm {w0 : World} {S : List Nat} {fs fs' : Fs} {w : World} (h : St w0 S fs w) (hp : fs'.Perm fs) : St w0 S fs' w :=
  ⟨h.bel, fun p hp' => h.own p (hp.subset hp'), (hp.pairwise_iff (fun {x y} h => Ne.symm h)).2 h.nd⟩
theorem LW.perm {C : Cu} {ops : Array Oper} {Q : Post} {l : List Oper} {e : Env} {fs fs' : Fs} (hp : fs'.Perm fs) (h : LW C ops Q l e fs') : LW C ops Q l e fs := fun a w hs => h a w ⟨hs.env, hs.st.perm hp⟩
theorem CW.perm {C : Cu} {c : Code} {Q : Post} {e : Env} {fs fs' : Fs} (hp : fs'.Perm fs) (h : CW C c Q e fs') : CW C c Q e fs := fun a w hs => h a w ⟨hs.env, hs.st.perm hp⟩
/-- A call of which it is known what becomes of all facts. -/
theorem LW.callSt {C : Cu} {ops : Array Oper} {Q : Post} {rest : List Oper} {e : Env} {fs : Fs} {d : Nat} {t : TypeId} {pos : String} {af : Array Edge} {fo : Operand} {args : Array Operand} {tys : Array TypeId} {f : FuncId} {vs : List Value} {K : Value → Fs → Prop} (hd : Nat.blt d C.N = true)
    (hf : e.ev fo = some (.func (.func f) #[] #[])) (hF : FnI C.P f) (ha : ArgsOk e args.toList vs) (hc : ∀ w, St C.w0 C.S fs w → Calls C.P f vs.toArray w (fun x w' => ∃ v fs', x = .returned v ∧ K v fs' ∧ St C.w0 C.S fs' w'))
    (k : ∀ v fs', K v fs' → LW C ops Q rest ((d, v) :: e) fs') : LW C ops Q (⟨some d, .call { callee := .value fo, args := args, argTypes := tys }, t, pos, af, none⟩ :: rest) e fs := fun a w hs => by
  refine wpListIn_take (wanted_none _ rfl _) ⟨fun _ _ => trivial, ?_⟩
  have hrun := CallP.fn (P := C.P) (tys := tys) hf ha a.eval w hs.env.Ev (some d) t pos af none
  rw [arr_id] at hrun
  rw [semAt_FR (fun c h => by cases h), hrun]
  refine ⟨fun h => (by cases h), CallsIn.mono (calls_FR (hc w hs.st)) fun x w' hx => ?_⟩
  obtain ⟨v, fs', rfl, hK, hw'⟩ := hx
  exact k _ _ hK _ _ ⟨hs.env.put hd, hw'⟩
end Go.Proofs.Ytahoghldnijnbaa.SL
