/-
  A SMALL LOGIC OVER THE KIT's WALK, PART C: what each operation does, as facts over a program whose types are known by instances.
  Conditions: none; over any program.
-/
import Derived.Test.YtahoghldnijnbaaSlb
import Derived.WalkKit
namespace Go.Proofs.Ytahoghldnijnbaa.SL
open Go Go.RowKit

/-- A type's underlying one. -/
class UnI (P : Program) (T : TypeId) (d : outParam TypeDesc) : Prop where
  un : P.underlying T = some d
/-- A type's size in cells, its zero value. -/
class InfoI (P : Program) (T : TypeId) (n : outParam Nat) (z : outParam Value) : Prop where
  info : (P.info? T).map (fun i => (i.size, i.zero)) = some (n, some z)
/-- A function that has a body. -/
class FnI (P : Program) (f : FuncId) : Prop where
  run : ∀ args w, (callFunc f args).run P w = .ok (.enter f args) w

theorem FnI.mk' {P : Program} {f : FuncId} {fn : Func} (h1 : P.funcs[f]? = some fn) (h2 : (fn.name == "runtime.NumGoroutine") = false) (h3 : fn.body.isNone = false) : FnI P f :=
  ⟨fun args w => by
    unfold callFunc
    rw [Sem.run_bind, run_program]
    simp only [Result.andThen_ok, h1, h2, h3, Bool.false_eq_true, if_false]
    rfl⟩

section
variable {P : Program}
theorem run_un {T : TypeId} {d : TypeDesc} [h : UnI P T d] (w : World) : (underlying T).run P w = .ok d w := run_underlying h.un w
theorem info_of {T : TypeId} {n : Nat} {z : Value} [h : InfoI P T n z] : ∃ i, P.info? T = some i ∧ i.size = n ∧ i.zero = some z := by
  have := h.info
  cases hq : P.info? T with
  | none => simp [hq] at this
  | some i => simp [hq] at this; exact ⟨i, rfl, this.1, this.2⟩
theorem run_size {T : TypeId} {n : Nat} {z : Value} [InfoI P T n z] (w : World) : (sizeOf T).run P w = .ok n w := by
  obtain ⟨i, h1, h2, _⟩ := info_of (P := P) (T := T)
  simp [sizeOf, typeInfo, Sem.run_bind, h1, h2]
theorem run_zero {T : TypeId} {n : Nat} {z : Value} [InfoI P T n z] (w : World) : (zeroValue T).run P w = .ok z w := by
  obtain ⟨i, h1, _, h3⟩ := info_of (P := P) (T := T)
  simp [zeroValue, typeInfo, Sem.run_bind, h1, h3]

def isAggD : TypeDesc → Bool
  | .struct _ | .array _ _ => true
  | _ => false
/-- Is it a struct's or an array's type? -/
class AgI (P : Program) (T : TypeId) (b : outParam Bool) : Prop where
  ag : (P.underlying T).map isAggD = some b
/-- A struct's field: where it stands, and its type. -/
class FldI (P : Program) (T : TypeId) (i : Nat) (off : outParam Nat) (ft : outParam TypeId) : Prop where
  fld : ∃ fs f, P.underlying T = some (.struct fs) ∧ fs[i]? = some f ∧ f.offset = off ∧ f.type = ft
def fldOf (P : Program) (T : TypeId) (i : Nat) : Option (Nat × TypeId) :=
  match P.underlying T with
  | some (.struct fs) => (fs[i]?).map fun f => (f.offset, f.type)
  | _ => none
theorem FldI.mk' {T i off ft : Nat} (h : fldOf P T i = some (off, ft)) : FldI P T i off ft := ⟨by
  unfold fldOf at h
  split at h
  · rename_i fs hu
    cases hf : fs[i]? with
    | none => simp [hf] at h
    | some f => simp [hf] at h; exact ⟨fs, f, hu, hf, h.1, h.2⟩
  · cases h⟩
theorem run_isAgg {T : TypeId} {b : Bool} [h : AgI P T b] (w : World) : (isAgg T).run P w = .ok b w := by
  have h1 := h.ag
  cases hu : P.underlying T with
  | none => simp [hu] at h1
  | some d =>
    simp only [hu, Option.map_some, Option.some.injEq] at h1
    subst h1
    unfold isAgg
    rw [Sem.run_bind, run_underlying hu w]
    cases d <;> rfl

/-! ### Reading and writing what a block holds -/
theorem cell_of {w : World} {b off : Nat} {c : Array Value} {E : TypeId} {fr : Nat × Nat} (h : w.heap[b]? = some (.cells c E fr)) : w.cell? ⟨b, off, none⟩ = c[off]? := by
  simp [World.cell?, h]

theorem addr_add (b off i : Nat) : (⟨b, off, none⟩ : Addr).add i = ⟨b, off + i, none⟩ := by
  unfold Addr.add; split <;> simp_all

/-- 'The variable of type T at offset off of a block that holds o reads v.' -/
def Rd (P : Program) (T : TypeId) (o : Obj) (off : Nat) (v : Value) : Prop := ∀ w b, w.heap[b]? = some o → (loadVar T ⟨b, off, none⟩).run P w = .ok v w

theorem run_loadVar_one {T : TypeId} [AgI P T false] {w : World} {a : Addr} {v : Value} (h : w.cell? a = some v) : (loadVar T a).run P w = .ok v w := by
  simp [loadVar, Sem.run_bind, run_isAgg, h]

theorem run_loadVar_agg {T : TypeId} {n : Nat} {z : Value} [AgI P T true] [InfoI P T n z] {w : World} {a : Addr} {cs : List Value} (hn : cs.length = n)
    (h : ∀ j v, cs[j]? = some v → w.cell? (a.add j) = some v) : (loadVar T a).run P w = .ok (.agg cs.toArray) w := by
  have h1 := run_loadCells_list (P := P) w a cs h
  rw [hn] at h1
  simp [loadVar, Sem.run_bind, run_isAgg, run_size, h1]

theorem Rd.one {T : TypeId} [AgI P T false] {c : Array Value} {E : TypeId} {fr : Nat × Nat} {off : Nat} {v : Value} (h : c[off]? = some v) : Rd P T (.cells c E fr) off v :=
  fun w b hb => run_loadVar_one (by rw [cell_of hb]; exact h)

/-- The n-th of a row. -/
def nth : List Value → Nat → Option Value
  | [], _ => none
  | v :: _, 0 => some v
  | _ :: r, n + 1 => nth r n
theorem nth_eq : ∀ (l : List Value) (n : Nat), nth l n = l[n]?
  | [], _ => by simp [nth]
  | v :: r, 0 => by simp [nth]
  | v :: r, n + 1 => by simp [nth, nth_eq r n]
theorem Rd.one' {T : TypeId} [AgI P T false] {l : List Value} {E : TypeId} {fr : Nat × Nat} {off : Nat} {v : Value} (h : nth l off = some v) : Rd P T (.cells l.toArray E fr) off v :=
  Rd.one (by rw [nth_eq] at h; simpa using h)

theorem Rd.whole {T : TypeId} {n : Nat} {z : Value} [AgI P T true] [InfoI P T n z] {c : Array Value} {E : TypeId} {fr : Nat × Nat} (h : c.size = n) : Rd P T (.cells c E fr) 0 (.agg c) :=
  fun w b hb => by
    have := run_loadVar_agg (P := P) (T := T) (w := w) (a := ⟨b, 0, none⟩) (cs := c.toList) (by simpa using h) (fun j v hv => by rw [addr_add, cell_of hb]; simpa using hv)
    simpa using this

theorem Rd.part {T : TypeId} {n : Nat} {z : Value} [AgI P T true] [InfoI P T n z] {c : Array Value} {E : TypeId} {fr : Nat × Nat} {off : Nat} {cs : List Value} (hn : cs.length = n)
    (h : ∀ j v, cs[j]? = some v → c[off + j]? = some v) : Rd P T (.cells c E fr) off (.agg cs.toArray) :=
  fun w b hb => run_loadVar_agg hn (fun j v hv => by rw [addr_add, cell_of hb]; exact h j v hv)

/-- Writing cells one behind the other. -/
def wrCells (c : Array Value) (off : Nat) : List Value → Array Value
  | [] => c
  | v :: r => wrCells (c.setIfInBounds off v) (off + 1) r

theorem setCell_putObj {w : World} {b off : Nat} {c : Array Value} {E : TypeId} {fr : Nat × Nat} {v : Value} (h : w.heap[b]? = some (.cells c E fr)) : w.setCell ⟨b, off, none⟩ v = w.putObj b (.cells (c.setIfInBounds off v) E fr) := by
  unfold World.setCell World.putObj
  have hlt := (Array.getElem?_eq_some_iff.1 h).1
  congr 1
  apply Array.ext_getElem?
  intro i
  by_cases hi : b = i
  · subst hi; rw [Array.getElem?_modify, if_pos rfl, h]; simp [hlt]
  · simp [Array.getElem?_modify, hi]

theorem putObj_putObj (w : World) (b : Nat) (o o' : Obj) : (w.putObj b o).putObj b o' = w.putObj b o' := by
  simp [World.putObj]

theorem run_storeCells : ∀ (vs : List Value) (w : World) (b off i : Nat) (c : Array Value) (E : TypeId), w.heap[b]? = some (.cells c E (0, 0)) → off + i + vs.length ≤ c.size → (∀ v ∈ vs, v.oneCell' = true) →
    (storeCells ⟨b, off, none⟩ vs i).run P w = .ok () (w.putObj b (.cells (wrCells c (off + i) vs) E (0, 0)))
  | [], w, b, off, i, c, E, hb, _, _ => by
    have : w.putObj b (.cells c E (0, 0)) = w := by
      unfold World.putObj
      congr 1
      apply Array.ext_getElem?
      intro k
      have hlt := (Array.getElem?_eq_some_iff.1 hb).1
      by_cases hk : b = k
      · subst hk; rw [hb]; simp [hlt]
      · simp [hk]
    simp [storeCells, wrCells, this]
  | v :: r, w, b, off, i, c, E, hb, hlen, hone => by
    simp only [List.length_cons] at hlen
    have hcell : w.cell? ⟨b, off + i, none⟩ = some c[off + i] := by rw [cell_of hb]; exact Array.getElem?_eq_getElem (by omega)
    have hfr : w.frozen? ⟨b, off + i, none⟩ = false := by simp [World.frozen?, hb]
    have hlt := (Array.getElem?_eq_some_iff.1 hb).1
    simp only [storeCells, Sem.run_bind, addr_add]
    rw [run_store P w _ v .plain (hone v (by simp))]
    simp only [hcell, hfr, Bool.false_eq_true, if_false, Result.andThen_ok]
    rw [setCell_putObj hb]
    have := run_storeCells r (w.putObj b (.cells (c.setIfInBounds (off + i) v) E (0, 0))) b off (i + 1) (c.setIfInBounds (off + i) v) E (World.putObj_heap_same hlt) (by simp; omega) (fun u hu => hone u (by simp [hu]))
    rw [this, putObj_putObj]
    rfl

/-- 'Storing v at offset off of a block that holds o, as a variable of type T, makes it hold o'.' -/
def Wr (P : Program) (T : TypeId) (o : Obj) (off : Nat) (v : Value) (o' : Obj) : Prop := ∀ w b, w.heap[b]? = some o → (storeVar T ⟨b, off, none⟩ v).run P w = .ok () (w.putObj b o')

theorem Wr.cells {T : TypeId} {n : Nat} {z : Value} [InfoI P T n z] {c c' : Array Value} {E : TypeId} {off : Nat} {v : Value} (hn : v.cells.size = n) (hone : v.cells.toList.all Value.oneCell' = true) (hl : off + n ≤ c.size) (hc : wrCells c off v.cells.toList = c') :
    Wr P T (.cells c E (0, 0)) off v (.cells c' E (0, 0)) := fun w b hb => by
  have h1 := run_storeCells (P := P) v.cells.toList w b off 0 c E hb (by simpa [hn] using hl) (fun v hv => List.all_eq_true.1 hone v hv)
  simp only [Nat.add_zero, hc] at h1
  simp [storeVar, Sem.run_bind, run_size, hn, h1]

/-! ### What operations do -/
def Ev (e : Env) (ρ : Operand → Value) : Prop := ∀ x v, e.ev x = some v → ρ x = v
theorem EnvOk.Ev {N : Nat} {ds : List Deferred} {e : Env} {a : Act} (h : EnvOk N ds e a) : Ev e a.eval := fun _ _ hx => h.ev hx

def ValP (P : Program) (e : Env) (u : Fs) (op : Op) (v : Value) : Prop :=
  ∀ ρ w, Ev e ρ → (∀ p ∈ u, w.heap[p.1]? = some p.2) → ∀ d t pos af g, (execOp ρ ⟨d, op, t, pos, af, g⟩).run P w = .ok (.value v) w
def NewP (P : Program) (e : Env) (op : Op) (s : Sh) (ob : Obj) : Prop :=
  ∀ ρ w, Ev e ρ → ∀ d t pos af g, (execOp ρ ⟨d, op, t, pos, af, g⟩).run P w = .ok (.value (s.val w.heap.size)) (w.alloc ob)
def SetP (P : Program) (e : Env) (op : Op) (b : Nat) (o o' : Obj) : Prop :=
  ∀ ρ w, Ev e ρ → w.heap[b]? = some o → ∀ d t pos af g, (execOp ρ ⟨d, op, t, pos, af, g⟩).run P w = .ok .skip (w.putObj b o')
def CallP (P : Program) (e : Env) (op : Op) (f : FuncId) (vs : Array Value) : Prop :=
  ∀ ρ w, Ev e ρ → ∀ d t pos af g, (execOp ρ ⟨d, op, t, pos, af, g⟩).run P w = .ok (.enter f vs) w

/-- What operands read, one behind the other. -/
inductive ArgsOk (e : Env) : List Operand → List Value → Prop
  | nil : ArgsOk e [] []
  | cons {x : Operand} {v : Value} {l : List Operand} {vs : List Value} (h : e.ev x = some v) (hs : ArgsOk e l vs) : ArgsOk e (x :: l) (v :: vs)
theorem ArgsOk.map {e : Env} {l : List Operand} {vs : List Value} (h : ArgsOk e l vs) {ρ : Operand → Value} (hρ : Ev e ρ) : l.map ρ = vs := by
  induction h with
  | nil => rfl
  | cons h _ ih => simp [hρ _ _ h, ih]
theorem ArgsOk.arr {e : Env} {l : Array Operand} {vs : List Value} (h : ArgsOk e l.toList vs) {ρ : Operand → Value} (hρ : Ev e ρ) : l.map ρ = vs.toArray := Array.toList_inj.1 (by simpa using h.map hρ)

def noDef : Op → Bool
  | .defer _ => false
  | _ => true
theorem noDef_ne {op : Op} (h : noDef op = true) (c : Call) : op ≠ .defer c := fun e => by subst e; cases h

section rows
variable {C : Cu} {ops : Array Oper} {Q : Post} {rest : List Oper} {e : Env} {fs : Fs} {d : Nat} {op : Op} {t : TypeId} {pos : String} {af : Array Edge}

/-- A block whose content is known: one of ours; or one that lay there when the call began, and that is not turned. -/
def Known (C : Cu) (fs : Fs) (p : Nat × Obj) : Prop := p ∈ fs ∨ (C.w0.heap[p.1]? = some p.2 ∧ p.1 ∉ C.S)

theorem Known.get {w : World} {p : Nat × Obj} (h : Known C fs p) (hs : St C.w0 C.S fs w) : w.heap[p.1]? = some p.2 := by
  rcases h with h | ⟨h1, h2⟩
  · exact (hs.own p h).2
  · rw [hs.bel.block _ (Array.getElem?_eq_some_iff.1 h1).1 h2]; exact h1

theorem LW.v0 {v : Value} (hd : Nat.blt d C.N = true) (hn : noDef op = true) (h : ValP C.P e [] op v) (k : LW C ops Q rest ((d, v) :: e) fs) : LW C ops Q (⟨some d, op, t, pos, af, none⟩ :: rest) e fs :=
  LW.val hd (noDef_ne hn) (fun a w hs => h a.eval w hs.env.Ev (by simp) _ _ _ _ _) k
theorem LW.v1 {p : Nat × Obj} {v : Value} (hd : Nat.blt d C.N = true) (hn : noDef op = true) (h : ValP C.P e [p] op v) (hp : Known C fs p) (k : LW C ops Q rest ((d, v) :: e) fs) :
    LW C ops Q (⟨some d, op, t, pos, af, none⟩ :: rest) e fs :=
  LW.val hd (noDef_ne hn) (fun a w hs => h a.eval w hs.env.Ev (by simpa using hp.get hs.st) _ _ _ _ _) k
theorem LW.n0 {s : Sh} {ob : Obj} (hd : Nat.blt d C.N = true) (hn : noDef op = true) (h : NewP C.P e op s ob) (k : ∀ b, LW C ops Q rest ((d, s.val b) :: e) ((b, ob) :: fs)) : LW C ops Q (⟨some d, op, t, pos, af, none⟩ :: rest) e fs :=
  LW.new hd (noDef_ne hn) (fun a w hs => h a.eval w hs.env.Ev _ _ _ _ _) k
theorem LW.s0 {b : Nat} {o o' : Obj} {fs' : Fs} (hn : noDef op = true) (hset : SetAt fs b o o' fs') (h : SetP C.P e op b o o') (k : LW C ops Q rest e fs') : LW C ops Q (⟨none, op, t, pos, af, none⟩ :: rest) e fs :=
  LW.set (noDef_ne hn) hset (fun a w hs hb => h a.eval w hs.env.Ev hb _ _ _ _ _) k
theorem LW.c0 {f : FuncId} {vs : Array Value} {Φ : Value → Fs → Prop} (hd : Nat.blt d C.N = true) (hn : noDef op = true) (h : CallP C.P e op f vs) (hc : ∀ w, St C.w0 C.S fs w → Calls C.P f vs w (RetG w [] Φ))
    (k : ∀ v gs, Φ v gs → LW C ops Q rest ((d, v) :: e) (gs ++ fs)) : LW C ops Q (⟨some d, op, t, pos, af, none⟩ :: rest) e fs :=
  LW.callG hd (noDef_ne hn) (fun a w hs => h a.eval w hs.env.Ev _ _ _ _ _) hc k
/-- A call that hands back the value v, and leaves all as it was. -/
theorem LW.cr {f : FuncId} {vs : Array Value} {v : Value} (hd : Nat.blt d C.N = true) (hn : noDef op = true) (h : CallP C.P e op f vs) (hc : ∀ w, St C.w0 C.S fs w → Calls C.P f vs w (Ret w v))
    (k : LW C ops Q rest ((d, v) :: e) fs) : LW C ops Q (⟨some d, op, t, pos, af, none⟩ :: rest) e fs :=
  LW.c0 hd hn h (fun w hs => (hc w hs).mono fun _ _ hr => RetG.of_ret hr) (fun u gs ⟨h1, h2⟩ => by subst h1; subst h2; exact k)
end rows

variable {e : Env}

theorem ValP.move {x : Operand} {v : Value} (h : e.ev x = some v) : ValP P e [] (.move x) v := fun ρ w hρ _ d t pos af g => by simp [execOp, hρ x v h]
theorem ValP.assign {x : Operand} {v : Value} (h : e.ev x = some v) : ValP P e [] (.assign x) v := fun ρ w hρ _ d t pos af g => by simp [execOp, hρ x v h]
theorem ValP.pickT {c x y : Operand} {v : Value} (hc : e.ev c = some (.bool true)) (h : e.ev x = some v) : ValP P e [] (.pick c x y) v := fun ρ w hρ _ d t pos af g => by
  simp [execOp, hρ x v h, hρ c _ hc, asBool]
theorem ValP.pickF {c x y : Operand} {v : Value} (hc : e.ev c = some (.bool false)) (h : e.ev y = some v) : ValP P e [] (.pick c x y) v := fun ρ w hρ _ d t pos af g => by
  simp [execOp, hρ y v h, hρ c _ hc, asBool]
theorem ValP.extract {x : Operand} {i : Nat} {vs : Array Value} {v : Value} (hx : e.ev x = some (.tuple vs)) (hi : vs[i]? = some v) : ValP P e [] (.extract x i) v := fun ρ w hρ _ d t pos af g => by
  simp [execOp, hρ x _ hx, Instr.extract, hi]
theorem ValP.notB {T : TypeId} {x : Operand} {b : Bool} (hx : e.ev x = some (.bool b)) : ValP P e [] (.unOp .not T x) (.bool (!b)) := fun ρ w hρ _ d t pos af g => by
  simp [execOp, hρ x _ hx, Op.unary]
theorem ValP.makeFunc {fn : Fn} {first cap : Array Operand} {vs us : List Value} (h1 : ArgsOk e first.toList vs) (h2 : ArgsOk e cap.toList us) : ValP P e [] (.makeFunc fn first cap) (.func fn vs.toArray us.toArray) := fun ρ w hρ _ d t pos af g => by
  simp [execOp, h1.arr hρ, h2.arr hρ, Instr.makeFunc]

theorem ValP.load {T : TypeId} {x : Operand} {b off : Nat} {o : Obj} {v : Value} (hx : e.ev x = some (.pointer (some ⟨b, off, none⟩))) (h : Rd P T o off v) : ValP P e [(b, o)] (.load T x) v := fun ρ w hρ hu d t pos af g => by
  have := h w b (by simpa using hu)
  simp [execOp, hρ x _ hx, Instr.loadAt, Instr.sureAddr, this]
theorem SetP.store {T : TypeId} {x y : Operand} {b off : Nat} {o o' : Obj} {v : Value} (hx : e.ev x = some (.pointer (some ⟨b, off, none⟩))) (hy : e.ev y = some v) (h : Wr P T o off v o') : SetP P e (.store T x y) b o o' := fun ρ w hρ hu d t pos af g => by
  have := h w b hu
  simp [execOp, hρ x _ hx, hρ y _ hy, Instr.storeAt, Instr.sureAddr, this]
theorem NewP.alloc {T : TypeId} {n : Nat} {z : Value} [InfoI P T n z] : NewP P e (.alloc T) .ptr (.cells z.cells T (0, 0)) := fun ρ w _ d t pos af g => by
  simp [execOp, Instr.alloc, run_zero, Sem.run_bind, newVar, newRow, Sh.val]
theorem NewP.box {T : TypeId} {x : Operand} {v : Value} (hx : e.ev x = some v) : NewP P e (.box T x) .ptr (.cells v.cells T (0, 0)) := fun ρ w hρ d t pos af g => by
  simp [execOp, hρ x _ hx, Instr.box, newVar, newRow, Sh.val]

section ls
variable {C : Cu} {ops : Array Oper} {Q : Post} {rest : List Oper} {e : Env} {fs : Fs} {d : Nat} {t : TypeId} {pos : String} {af : Array Edge}
theorem LW.load {T : TypeId} {x : Operand} {b off : Nat} {o : Obj} {v : Value} (hd : Nat.blt d C.N = true) (hx : e.ev x = some (.pointer (some ⟨b, off, none⟩))) (hp : Known C fs (b, o)) (h : Rd C.P T o off v) (k : LW C ops Q rest ((d, v) :: e) fs) :
    LW C ops Q (⟨some d, .load T x, t, pos, af, none⟩ :: rest) e fs := LW.v1 hd rfl (.load hx h) hp k
theorem LW.store {T : TypeId} {x y : Operand} {b off : Nat} {o o' : Obj} {v : Value} {fs' : Fs} (hx : e.ev x = some (.pointer (some ⟨b, off, none⟩))) (hy : e.ev y = some v) (hset : SetAt fs b o o' fs') (h : Wr C.P T o off v o') (k : LW C ops Q rest e fs') :
    LW C ops Q (⟨none, .store T x y, t, pos, af, none⟩ :: rest) e fs := LW.s0 rfl hset (.store hx hy h) k
theorem LW.allocA {T : TypeId} {n : Nat} {c : Array Value} [InfoI C.P T n (.agg c)] (hd : Nat.blt d C.N = true) (k : ∀ b, LW C ops Q rest ((d, .pointer (some ⟨b, 0, none⟩)) :: e) ((b, .cells c T (0, 0)) :: fs)) :
    LW C ops Q (⟨some d, .alloc T, t, pos, af, none⟩ :: rest) e fs := LW.n0 (s := .ptr) hd rfl .alloc k
theorem LW.alloc1 {T : TypeId} {n : Nat} {z : Value} [InfoI C.P T n z] (hd : Nat.blt d C.N = true) (hz : z.cells = #[z]) (k : ∀ b, LW C ops Q rest ((d, .pointer (some ⟨b, 0, none⟩)) :: e) ((b, .cells #[z] T (0, 0)) :: fs)) :
    LW C ops Q (⟨some d, .alloc T, t, pos, af, none⟩ :: rest) e fs := by rw [← hz] at k; exact LW.n0 (s := .ptr) hd rfl .alloc k
theorem LW.boxA {T : TypeId} {x : Operand} {c : Array Value} (hd : Nat.blt d C.N = true) (hx : e.ev x = some (.agg c)) (k : ∀ b, LW C ops Q rest ((d, .pointer (some ⟨b, 0, none⟩)) :: e) ((b, .cells c T (0, 0)) :: fs)) :
    LW C ops Q (⟨some d, .box T x, t, pos, af, none⟩ :: rest) e fs := LW.n0 (s := .ptr) hd rfl (.box hx) k
theorem LW.box1 {T : TypeId} {x : Operand} {v : Value} (hd : Nat.blt d C.N = true) (hx : e.ev x = some v) (hv : v.cells = #[v]) (k : ∀ b, LW C ops Q rest ((d, .pointer (some ⟨b, 0, none⟩)) :: e) ((b, .cells #[v] T (0, 0)) :: fs)) :
    LW C ops Q (⟨some d, .box T x, t, pos, af, none⟩ :: rest) e fs := by rw [← hv] at k; exact LW.n0 (s := .ptr) hd rfl (.box hx) k
end ls

theorem ValP.fieldAddr {T : TypeId} {x : Operand} {i : Nat} {b off fo : Nat} {ft : TypeId} {n : Nat} {z : Value} [hF : FldI P T i fo ft] [InfoI P ft n z] (hn : (n == 0) = false) (hx : e.ev x = some (.pointer (some ⟨b, off, none⟩))) :
    ValP P e [] (.fieldAddr T x i) (.pointer (some ⟨b, off + fo, none⟩)) := fun ρ w hρ _ d t pos af g => by
  have hn' : n ≠ 0 := by simpa using hn
  obtain ⟨fs, f, h1, h2, h3, h4⟩ := hF.fld
  subst h3; subst h4
  simp [execOp, hρ x _ hx, Instr.fieldAt, Sem.run_bind, run_underlying h1, h2, Instr.sureAddr, fieldPlace, run_size, hn', addr_add]

theorem ValP.indexAddrA {T : TypeId} {x i : Operand} {b off len : Nat} {E : TypeId} {k : Nat} {ik : IntKind} {j : Int} {n : Nat} {z : Value} [UnI P T (.array len E)] [InfoI P E n z] (hx : e.ev x = some (.pointer (some ⟨b, off, none⟩))) (hi : e.ev i = some (.int ik j))
    (hj : j = (k : Int)) (hk : k < len) : ValP P e [] (.indexAddr T x i) (.pointer (some ⟨b, off + k * n, none⟩)) := fun ρ w hρ _ d t pos af g => by
  subst hj
  simp [execOp, hρ x _ hx, hρ i _ hi, Instr.indexAt, Sem.run_bind, run_un, asIntOf, Instr.sureAddr, run_size, hk, addr_add]
theorem ValP.indexAddrL {T : TypeId} {x i : Operand} {b off len : Nat} {E : TypeId} {k : Nat} {ik : IntKind} {n : Nat} {z : Value} [UnI P T (.array len E)] [InfoI P E n z] (hx : e.ev x = some (.pointer (some ⟨b, off, none⟩))) (hi : e.ev i = some (.int ik (OfNat.ofNat k)))
    (hk : Nat.blt k len = true) : ValP P e [] (.indexAddr T x i) (.pointer (some ⟨b, off + k * n, none⟩)) := ValP.indexAddrA hx hi rfl (by simpa [Nat.blt_eq] using hk)
theorem ValP.indexAddrS {T : TypeId} {x i : Operand} {b off len cap : Nat} {E : TypeId} {k : Nat} {ik : IntKind} {j : Int} {n : Nat} {z : Value} [UnI P T (.slice E)] [InfoI P E n z] (hx : e.ev x = some (.slice (some ⟨b, off, none⟩) len cap)) (hi : e.ev i = some (.int ik j))
    (hj : j = (k : Int)) (hk : k < len) : ValP P e [] (.indexAddr T x i) (.pointer (some ⟨b, off + k * n, none⟩)) := fun ρ w hρ _ d t pos af g => by
  subst hj
  simp [execOp, hρ x _ hx, hρ i _ hi, Instr.indexAt, Sem.run_bind, run_un, asIntOf, run_size, hk, addr_add]

theorem ValP.lenS {T : TypeId} {x : Operand} {tys : Array TypeId} {a : Option Addr} {n c : Nat} (hT : tys = #[T]) {E : TypeId} [UnI P T (.slice E)] (hx : e.ev x = some (.slice a n c)) :
    ValP P e [] (.call { callee := .builtin .len, args := #[x], argTypes := tys }) (.int .i64 n) := fun ρ w hρ _ d t pos af g => by
  subst hT
  simp [execOp, resolve, invoke, builtin, hρ x _ hx, Builtin.len_, run_un, goInt]

theorem CallP.fn {fo : Operand} {args : Array Operand} {tys : Array TypeId} {f : FuncId} [FnI P f] {first cap : Array Value} {vs : List Value} (hf : e.ev fo = some (.func (.func f) first cap)) (ha : ArgsOk e args.toList vs) :
    CallP P e (.call { callee := .value fo, args := args, argTypes := tys }) f (first ++ vs.toArray ++ cap) := fun ρ w hρ d t pos af g => by
  simp [execOp, resolve, invoke, Deferred.ofValue, hρ fo _ hf, ha.arr hρ, FnI.run]
end
end Go.Proofs.Ytahoghldnijnbaa.SL
