/-
  A SMALL LOGIC OVER THE KIT's WALK, PART B: what is known of a frame (slots by number) and of memory (blocks and what they hold), and the rules of code: one after the other, tests, loops, regions.
  Conditions: none; over any program.
-/
import Derived.Test.YtahoghldnijnbaaSla
import Derived.LoopNIn
import Derived.RangeFuncLeaves
namespace Go.Proofs.Ytahoghldnijnbaa.SL
open Go Go.RowKit

/-! ### What is known of a frame -/
abbrev Env := List (Nat × Value)
abbrev Fs := List (Nat × Obj)

def Env.get : Env → Nat → Option Value
  | [], _ => none
  | (k, v) :: r, t => match Nat.beq k t with | true => some v | false => Env.get r t

def Env.ev (e : Env) : Operand → Option Value
  | .tmp t => e.get t
  | .const v => some v
  | .global g => some (.pointer (some ⟨g, 0, none⟩))
  | .func f => some (.func (.func f) #[] #[])

structure EnvOk (N : Nat) (ds : List Deferred) (e : Env) (a : Act) : Prop where
  size : a.tmps.size = N
  dfr : a.defers = ds
  get : ∀ t v, e.get t = some v → a.tmps[t]? = some v

theorem EnvOk.ev {N : Nat} {ds : List Deferred} {e : Env} {a : Act} (h : EnvOk N ds e a) {x : Operand} {v : Value} (hx : e.ev x = some v) : a.eval x = v := by
  cases x with
  | tmp t => simp [Act.eval, h.get t v hx]
  | const c => simpa [Env.ev, Act.eval] using hx
  | global g => simpa [Env.ev, Act.eval] using hx
  | func f => simpa [Env.ev, Act.eval] using hx

theorem EnvOk.put {N : Nat} {ds : List Deferred} {e : Env} {a : Act} (h : EnvOk N ds e a) {d : Nat} {v : Value} (hd : Nat.blt d N = true) : EnvOk N ds ((d, v) :: e) (a.put (some d) v) := by
  have hd' : d < a.tmps.size := by rw [h.size]; simpa [Nat.blt_eq] using hd
  refine ⟨by simp [Act.put, h.size], h.dfr, fun t u ht => ?_⟩
  simp only [Env.get] at ht
  simp only [Act.put]
  split at ht
  · rename_i hb
    have := Nat.eq_of_beq_eq_true hb
    subst this
    cases ht
    simp [hd']
  · rename_i hb
    have hne : d ≠ t := fun e => by subst e; simp at hb
    rw [Array.getElem?_setIfInBounds_ne hne]
    exact h.get t u ht

theorem EnvOk.putNone {N : Nat} {ds : List Deferred} {e : Env} {a : Act} (h : EnvOk N ds e a) {v : Value} : EnvOk N ds e (a.put none v) := h

theorem EnvOk.sub {N : Nat} {ds : List Deferred} {e e' : Env} {a : Act} (h : EnvOk N ds e a) (hs : ∀ t v, e'.get t = some v → e.get t = some v) : EnvOk N ds e' a :=
  ⟨h.size, h.dfr, fun t v ht => h.get t v (hs t v ht)⟩

/-- All that e' knows, e knows too. -/
def Env.le (e : Env) : Env → Prop
  | [] => True
  | (k, v) :: r => e.get k = some v ∧ Env.le e r

theorem Env.le_get {e : Env} : ∀ {e' : Env}, e.le e' → ∀ t v, e'.get t = some v → e.get t = some v
  | [], _, t, v, h => by simp [Env.get] at h
  | (k, u) :: r, hl, t, v, h => by
    simp only [Env.get] at h
    split at h
    · rename_i hb; have := Nat.eq_of_beq_eq_true hb; subst this; cases h; exact hl.1
    · exact Env.le_get hl.2 t v h

/-! ### What is known of memory -/
structure St (w0 : World) (S : List Nat) (fs : Fs) (w : World) : Prop where
  bel : Bel w0.heap.size S w0 w
  own : ∀ p ∈ fs, (w0.heap.size ≤ p.1 ∨ p.1 ∈ S) ∧ w.heap[p.1]? = some p.2
  nd : fs.Pairwise fun p q => p.1 ≠ q.1

/-- Where we are: the program, the world in which the call began, the blocks of the caller's that may be written, the frame's size, its deferred calls, the round (if any). -/
structure Cu where
  P : Program
  w0 : World
  S : List Nat
  N : Nat
  ds : List Deferred
  r : Option Nat

def Cu.cx (C : Cu) : Cx := ⟨C.P, C.w0, C.S⟩
/-- .. with other deferred calls. -/
def Cu.at (C : Cu) (ds : List Deferred) : Cu := ⟨C.P, C.w0, C.S, C.N, ds, C.r⟩

structure Sat (C : Cu) (e : Env) (fs : Fs) (a : Act) (w : World) : Prop where
  env : EnvOk C.N C.ds e a
  st : St C.w0 C.S fs w

abbrev Post := Exit → List Deferred → Env → Fs → Prop

def down (C : Cu) (Q : Post) : Exit → Act → World → Prop := fun x a w => ∃ ds e fs, Q x ds e fs ∧ Sat (C.at ds) e fs a w

/-- From all that is known here, the code c comes to Q. -/
def CW (C : Cu) (c : Code) (Q : Post) (e : Env) (fs : Fs) : Prop := ∀ a w, Sat C e fs a w → c.wpIn (FR C.r) 0 C.P (down C Q) a w
/-- The same of a row of operations. -/
def LW (C : Cu) (ops : Array Oper) (Q : Post) (l : List Oper) (e : Env) (fs : Fs) : Prop := ∀ a w, Sat C e fs a w → wpListIn (FR C.r) 0 C.P ops (down C Q) l a w

def thenQ (K : List Deferred → Env → Fs → Prop) (Q : Post) : Post
  | .normal, ds, e, fs => K ds e fs
  | x, ds, e, fs => Q x ds e fs
def thenC (C : Cu) (y : Code) (Q : Post) : List Deferred → Env → Fs → Prop := fun ds e fs => CW (C.at ds) y Q e fs
def blkQ (id : Nat) (Q : Post) : Post
  | .exit k, ds, e, fs => match Nat.beq k id with | true => Q .normal ds e fs | false => Q (.exit k) ds e fs
  | x, ds, e, fs => Q x ds e fs

theorem fs_sub {C : Cu} {e e' : Env} {fs fs' : Fs} {a : Act} {w : World} (h : Sat C e fs a w) (he : e.le e') (hf : List.Sublist fs' fs) : Sat C e' fs' a w :=
  ⟨h.env.sub (Env.le_get he), h.st.bel, fun p hp => h.st.own p (hf.subset hp), h.st.nd.sublist hf⟩

theorem CW.weak {C : Cu} {c : Code} {Q : Post} {e : Env} (e' : Env) {fs : Fs} (fs' : Fs) (he : e.le e') (hf : List.Sublist fs' fs) (h : CW C c Q e' fs') : CW C c Q e fs :=
  fun a w hs => h a w (fs_sub hs he hf)

theorem CW.mono {C : Cu} {c : Code} {Q Q' : Post} {e : Env} {fs : Fs} (hq : ∀ x ds e fs, Q x ds e fs → Q' x ds e fs) (h : CW C c Q e fs) : CW C c Q' e fs :=
  fun a w hs => Code.wpIn_mono (fun x _ _ ⟨ds, e, fs, q, s⟩ => ⟨ds, e, fs, hq x ds e fs q, s⟩) (h a w hs)

theorem CW.seq {C : Cu} {x y : Code} {Q : Post} {e : Env} {fs : Fs} (h : CW C x (thenQ (thenC C y Q) Q) e fs) : CW C (.seq x y) Q e fs :=
  fun a w hs => wpIn_seq (Code.wpIn_mono (fun x a w ⟨ds, e, fs, q, s⟩ => by
    cases x with
    | normal => exact q a w s
    | _ => exact ⟨ds, e, fs, q, s⟩) (h a w hs))

theorem CW.skip {C : Cu} {Q : Post} {e : Env} {fs : Fs} (h : Q .normal C.ds e fs) : CW C .skip Q e fs := fun _ _ hs => wpIn_skip ⟨C.ds, e, fs, h, hs⟩
theorem CW.label {C : Cu} {l : Nat} {Q : Post} {e : Env} {fs : Fs} (h : Q .normal C.ds e fs) : CW C (.label l) Q e fs := fun _ _ hs => wpIn_label ⟨C.ds, e, fs, h, hs⟩
theorem CW.ret {C : Cu} {Q : Post} {e : Env} {fs : Fs} (h : Q .ret C.ds e fs) : CW C .ret Q e fs := fun _ _ hs => wpIn_ret ⟨C.ds, e, fs, h, hs⟩
theorem CW.exit {C : Cu} {id : Nat} {Q : Post} {e : Env} {fs : Fs} (h : Q (.exit id) C.ds e fs) : CW C (.exit id) Q e fs := fun _ _ hs => wpIn_exit ⟨C.ds, e, fs, h, hs⟩
theorem CW.goto {C : Cu} {l : Nat} {Q : Post} {e : Env} {fs : Fs} (h : Q (.goto l) C.ds e fs) : CW C (.goto l) Q e fs := fun _ _ hs => wpIn_goto ⟨C.ds, e, fs, h, hs⟩

theorem CW.block {C : Cu} {id : Nat} {c : Code} {Q : Post} {e : Env} {fs : Fs} (h : CW C c (blkQ id Q) e fs) : CW C (.block id c) Q e fs :=
  fun a w hs => wpIn_block (Code.wpIn_mono (fun x a w ⟨ds, e, fs, q, s⟩ => by
    cases x with
    | exit k =>
      simp only [Exit.inBlock]
      simp only [blkQ] at q
      split at q
      · rename_i hb; rw [if_pos (Nat.eq_of_beq_eq_true hb)]; exact ⟨ds, e, fs, q, s⟩
      · rename_i hb; rw [if_neg (fun e => by subst e; simp at hb)]; exact ⟨ds, e, fs, q, s⟩
    | _ => exact ⟨ds, e, fs, q, s⟩) (h a w hs))

theorem CW.cond {C : Cu} {c : Operand} {x y : Code} {Q : Post} {e : Env} {fs : Fs} {b : Bool} (hc : e.ev c = some (.bool b)) (ht : b = true → CW C x Q e fs) (hf : b = false → CW C y Q e fs) :
    CW C (.cond c x y) Q e fs :=
  fun a w hs => wpIn_cond_split (hs.env.ev hc) (fun hb => ht hb a w hs) (fun hb => hf hb a w hs)
theorem CW.condT {C : Cu} {c : Operand} {x y : Code} {Q : Post} {e : Env} {fs : Fs} {b : Bool} (hc : e.ev c = some (.bool b)) (hb : b = true) (ht : CW C x Q e fs) : CW C (.cond c x y) Q e fs :=
  CW.cond hc (fun _ => ht) (fun h => by rw [hb] at h; cases h)
theorem CW.condF {C : Cu} {c : Operand} {x y : Code} {Q : Post} {e : Env} {fs : Fs} {b : Bool} (hc : e.ev c = some (.bool b)) (hb : b = false) (hf : CW C y Q e fs) : CW C (.cond c x y) Q e fs :=
  CW.cond hc (fun h => by rw [hb] at h; cases h) (fun _ => hf)

/-- A LOOP: at each round's head the state is that of some x; the measure falls. -/
theorem CW.loop {C : Cu} {c : Code} {Q : Post} {e : Env} {fs : Fs} {α : Type} (st : α → Env × Fs) (inv : α → Prop) (μ : α → Nat) (x0 : α) (h0 : inv x0) (he : e.le (st x0).1) (hf : List.Sublist (st x0).2 fs)
    (round : ∀ x, inv x → CW C c (thenQ (fun ds e fs => ds = C.ds ∧ ∃ x', inv x' ∧ μ x' < μ x ∧ e.le (st x').1 ∧ List.Sublist (st x').2 fs) Q) (st x).1 (st x).2) : CW C (.loop c) Q e fs := by
  intro a w hs
  have key : ∀ n x, μ x < n → inv x → ∀ a w, Sat C (st x).1 (st x).2 a w → Code.roundsIn (FR C.r) 0 C.P c (down C Q) n a w := by
    intro n
    induction n with
    | zero => intro x hn; omega
    | succ n ih =>
      intro x hn hx a w hs
      rw [roundsIn_succ]
      refine Code.wpIn_mono (fun y a w ⟨ds, e, fs, q, s⟩ => ?_) (round x hx a w hs)
      cases y with
      | normal =>
        obtain ⟨rfl, x', h1, h2, h3, h4⟩ := q
        exact ih x' (by omega) h1 a w (fs_sub s h3 h4)
      | _ => exact ⟨ds, e, fs, q, s⟩
  exact wpIn_loop_rounds (μ x0 + 1) (key _ x0 (by omega) h0 a w (fs_sub hs he hf))

/-! ### Regions and rows of operations, in order -/
theorem CW.region {C : Cu} {id : Nat} {l : List Oper} {Q : Post} {e : Env} {fs : Fs} (h : LW C l.toArray Q l e fs) : CW C (.region id l.toArray false) Q e fs :=
  fun a w hs => wpIn_region_lit (h a w hs)

section rows
variable {C : Cu} {ops : Array Oper} {Q : Post} {rest : List Oper} {e : Env} {fs : Fs} {dst : Option Tmp} {d : Nat} {op : Op} {t : TypeId} {pos : String} {af : Array Edge}

theorem LW.nil (h : Q .normal C.ds e fs) : LW C ops Q [] e fs := fun _ _ hs => wpListIn_nil ⟨C.ds, e, fs, h, hs⟩

theorem LW.weak (e' : Env) (fs' : Fs) {l : List Oper} (he : e.le e') (hf : List.Sublist fs' fs) (h : LW C ops Q l e' fs') : LW C ops Q l e fs :=
  fun a w hs => h a w (fs_sub hs he hf)

theorem wpListIn_take {F : Fence} {n : Nat} {P : Program} {Q : Exit → Act → World → Prop} {o : Oper} {a : Act} {w : World} (hw : Region.wanted o (yielded ops a.tmps) = true)
    (h : o.wpIn F n P a w (wpListIn F n P ops Q rest) Q) : wpListIn F n P ops Q (o :: rest) a w := by
  simp only [wpListIn, hw, if_true]; exact h

theorem wanted_none (o : Oper) (h : o.guard = none) (f : Nat → Option Bool) : Region.wanted o f = true := by simp [Region.wanted, h]

/-- A guard that holds: as if there were none. -/
theorem LW.guardT {j s : Nat} {g : Bool} (hs : (ops[j]?).bind (·.dst) = some s) (he : e.get s = some (.bool g)) (h : LW C ops Q (⟨dst, op, t, pos, af, none⟩ :: rest) e fs) :
    LW C ops Q (⟨dst, op, t, pos, af, some (j, g)⟩ :: rest) e fs := by
  intro a w hst
  have hy : yielded ops a.tmps j = some g := by simp [yielded, hs, hst.env.get s _ he]
  refine wpListIn_take (by simp [Region.wanted, hy]) ?_
  have h1 := h a w hst
  unfold wpListIn at h1
  rw [if_pos (wanted_none _ rfl _)] at h1
  exact h1

/-- A guard that does not hold: passed over. -/
theorem LW.guardF {j s : Nat} {g : Bool} (hs : (ops[j]?).bind (·.dst) = some s) (he : e.get s = some (.bool (!g))) (hd : Nat.blt d C.N = true) (h : LW C ops Q rest ((d, undef) :: e) fs) :
    LW C ops Q (⟨some d, op, t, pos, af, some (j, g)⟩ :: rest) e fs := by
  intro a w hst
  have h1 := h _ w ⟨hst.env.put (v := undef) hd, hst.st⟩
  have hy : yielded ops a.tmps j = some (!g) := by simp [yielded, hs, hst.env.get s _ he]
  unfold wpListIn
  rw [if_neg (by cases g <;> simp [Region.wanted, hy])]
  exact ⟨fun _ _ => trivial, h1⟩

theorem semAt_FR {r : Option Nat} {o : Oper} {ρ : Operand → Value} (hnd : ∀ c, o.op ≠ .defer c) : o.semAt (FR r).round ρ = execOp ρ o := Oper.semAt_eq _ _ _ hnd

/-- An operation that yields v, and leaves the world as it is. -/
theorem LW.val {v : Value} (hd : Nat.blt d C.N = true) (hnd : ∀ c, op ≠ .defer c)
    (h : ∀ a w, Sat C e fs a w → (execOp a.eval ⟨some d, op, t, pos, af, none⟩).run C.P w = .ok (.value v) w) (k : LW C ops Q rest ((d, v) :: e) fs) :
    LW C ops Q (⟨some d, op, t, pos, af, none⟩ :: rest) e fs := fun a w hs => by
  refine wpListIn_take (wanted_none _ rfl _) ⟨fun _ _ => trivial, ?_⟩
  rw [semAt_FR hnd, h a w hs]
  exact k _ w ⟨hs.env.put hd, hs.st⟩

theorem Sat.alloc {a : Act} {w : World} (hs : Sat C e fs a w) (ob : Obj) : St C.w0 C.S ((w.heap.size, ob) :: fs) (w.alloc ob) := by
  refine ⟨hs.st.bel.alloc hs.st.bel.size _, fun p hp => ?_, List.pairwise_cons.2 ⟨fun p hp he => ?_, hs.st.nd⟩⟩
  · rcases List.mem_cons.1 hp with rfl | hp
    · exact ⟨.inl hs.st.bel.size, World.alloc_heap_new w ob⟩
    · obtain ⟨h1, h2⟩ := hs.st.own p hp
      exact ⟨h1, by rw [Below.heap_alloc _ _ _ (Array.getElem?_eq_some_iff.1 h2).1]; exact h2⟩
  · obtain ⟨_, h2⟩ := hs.st.own p hp
    have := (Array.getElem?_eq_some_iff.1 h2).1
    have he' : w.heap.size = p.1 := he
    omega

/-- An operation that lays a new block. -/
theorem LW.new {s : Sh} {ob : Obj} (hd : Nat.blt d C.N = true) (hnd : ∀ c, op ≠ .defer c)
    (h : ∀ a w, Sat C e fs a w → (execOp a.eval ⟨some d, op, t, pos, af, none⟩).run C.P w = .ok (.value (s.val w.heap.size)) (w.alloc ob))
    (k : ∀ b, LW C ops Q rest ((d, s.val b) :: e) ((b, ob) :: fs)) : LW C ops Q (⟨some d, op, t, pos, af, none⟩ :: rest) e fs := fun a w hs => by
  refine wpListIn_take (wanted_none _ rfl _) ⟨fun _ _ => trivial, ?_⟩
  rw [semAt_FR hnd, h a w hs]
  exact k _ _ _ ⟨hs.env.put hd, hs.alloc ob⟩

/-- One fact turned. -/
inductive SetAt : Fs → Nat → Obj → Obj → Fs → Prop
  | head {b : Nat} {o o' : Obj} {r : Fs} : SetAt ((b, o) :: r) b o o' ((b, o') :: r)
  | tail {p : Nat × Obj} {b : Nat} {o o' : Obj} {r r' : Fs} (h : SetAt r b o o' r') : SetAt (p :: r) b o o' (p :: r')
  | app {s : Fs} {b : Nat} {o o' : Obj} {r r' : Fs} (h : SetAt r b o o' r') : SetAt (s ++ r) b o o' (s ++ r')

theorem SetAt.mem {fs fs' : Fs} {b : Nat} {o o' : Obj} (h : SetAt fs b o o' fs') : (b, o) ∈ fs := by
  induction h with
  | head => exact List.mem_cons_self
  | tail _ ih => exact List.mem_cons_of_mem _ ih
  | app _ ih => exact List.mem_append_right _ ih

theorem SetAt.fsts {fs fs' : Fs} {b : Nat} {o o' : Obj} (h : SetAt fs b o o' fs') : fs'.map Prod.fst = fs.map Prod.fst := by
  induction h with
  | head => rfl
  | tail _ ih => simp [ih]
  | app _ ih => simp [ih]

theorem SetAt.inv {fs fs' : Fs} {b : Nat} {o o' : Obj} (h : SetAt fs b o o' fs') (hn : fs.Pairwise fun p q => p.1 ≠ q.1) : ∀ p ∈ fs', p = (b, o') ∨ (p ∈ fs ∧ p.1 ≠ b) := by
  induction h with
  | head =>
    intro p hp
    rcases List.mem_cons.1 hp with rfl | hp
    · exact .inl rfl
    · exact .inr ⟨List.mem_cons_of_mem _ hp, fun e => (List.pairwise_cons.1 hn).1 p hp e.symm⟩
  | tail h ih =>
    intro p hp
    obtain ⟨h1, h2⟩ := List.pairwise_cons.1 hn
    rcases List.mem_cons.1 hp with rfl | hp
    · exact .inr ⟨List.mem_cons_self, h1 _ h.mem⟩
    · rcases ih h2 p hp with h | h
      · exact .inl h
      · exact .inr ⟨List.mem_cons_of_mem _ h.1, h.2⟩
  | app h ih =>
    intro p hp
    obtain ⟨h1, h2, h3⟩ := List.pairwise_append.1 hn
    rcases List.mem_append.1 hp with hp | hp
    · exact .inr ⟨List.mem_append_left _ hp, h3 _ hp _ h.mem⟩
    · rcases ih h2 p hp with h | h
      · exact .inl h
      · exact .inr ⟨List.mem_append_right _ h.1, h.2⟩

theorem pairwise_fst {fs : Fs} : (fs.Pairwise fun p q => p.1 ≠ q.1) ↔ (fs.map Prod.fst).Pairwise (· ≠ ·) := by
  rw [List.pairwise_map]

theorem St.set {w0 : World} {S : List Nat} {fs fs' : Fs} {w : World} {b : Nat} {o o' : Obj} (h : St w0 S fs w) (hs : SetAt fs b o o' fs') : St w0 S fs' (w.putObj b o') := by
  obtain ⟨hb1, hb2⟩ := h.own _ hs.mem
  refine ⟨h.bel.put hb1 _, fun p hp => ?_, ?_⟩
  · rcases hs.inv h.nd p hp with rfl | ⟨hp, hne⟩
    · exact ⟨hb1, World.putObj_heap_same (Array.getElem?_eq_some_iff.1 hb2).1⟩
    · obtain ⟨h1, h2⟩ := h.own p hp
      exact ⟨h1, by rw [World.putObj_heap_other hne]; exact h2⟩
  · rw [pairwise_fst, hs.fsts, ← pairwise_fst]; exact h.nd

/-- A store into a block that is known. -/
theorem LW.set {b : Nat} {o o' : Obj} {fs' : Fs} (hnd : ∀ c, op ≠ .defer c) (hset : SetAt fs b o o' fs')
    (h : ∀ a w, Sat C e fs a w → w.heap[b]? = some o → (execOp a.eval ⟨none, op, t, pos, af, none⟩).run C.P w = .ok .skip (w.putObj b o')) (k : LW C ops Q rest e fs') :
    LW C ops Q (⟨none, op, t, pos, af, none⟩ :: rest) e fs := fun a w hs => by
  refine wpListIn_take (wanted_none _ rfl _) ⟨fun _ _ => trivial, ?_⟩
  rw [semAt_FR hnd, h a w hs (hs.st.own _ hset.mem).2]
  exact k _ _ ⟨hs.env.putNone, hs.st.set hset⟩

theorem RetG.of_ret {w : World} {v : Value} {e : Ending} {w' : World} (h : Ret w v e w') : RetG w [] (fun u gs => u = v ∧ gs = []) e w' := ⟨v, [], h.1, ⟨rfl, rfl⟩, h.2, by simp, .nil⟩

theorem St.call {w0 : World} {S : List Nat} {fs gs : Fs} {w w' : World} (h : St w0 S fs w) (hb : Bel w.heap.size [] w w') (hg : ∀ p ∈ gs, (w.heap.size ≤ p.1 ∨ p.1 ∈ ([] : List Nat)) ∧ w'.heap[p.1]? = some p.2) (hn : gs.Pairwise fun p q => p.1 ≠ q.1) :
    St w0 S (gs ++ fs) w' := by
  have hlt : ∀ p ∈ fs, p.1 < w.heap.size := fun p hp => (Array.getElem?_eq_some_iff.1 (h.own p hp).2).1
  refine ⟨h.bel.trans (hb.mono h.bel.size (by simp)), fun p hp => ?_, List.pairwise_append.2 ⟨hn, h.nd, fun p hp q hq he => ?_⟩⟩
  · rcases List.mem_append.1 hp with hp | hp
    · obtain ⟨h1, h2⟩ := hg p hp
      exact ⟨.inl (Nat.le_trans h.bel.size (by simpa using h1)), h2⟩
    · obtain ⟨h1, h2⟩ := h.own p hp
      exact ⟨h1, by rw [hb.block _ (hlt p hp) (by simp)]; exact h2⟩
  · have h1 := (hg p hp).1
    have h2 := hlt q hq
    simp at h1
    omega

theorem St.callS {w0 : World} {S : List Nat} {fs fs' : Fs} {w w' : World} {b : Nat} {o o' : Obj} (h : St w0 S fs w) (hs : SetAt fs b o o' fs') (hb : Bel w.heap.size [b] w w') (hg : w'.heap[b]? = some o') : St w0 S fs' w' := by
  obtain ⟨hb1, hb2⟩ := h.own _ hs.mem
  refine ⟨h.bel.trans (hb.mono h.bel.size (fun x hx hlt => ?_)), fun p hp => ?_, ?_⟩
  · have : x = b := by simpa using hx
    subst this
    rcases hb1 with h1 | h1
    · exact absurd hlt (by have h1' : w0.heap.size ≤ x := h1; omega)
    · exact h1
  · rcases hs.inv h.nd p hp with rfl | ⟨hp, hne⟩
    · exact ⟨hb1, hg⟩
    · obtain ⟨h1, h2⟩ := h.own p hp
      exact ⟨h1, by rw [hb.block _ (Array.getElem?_eq_some_iff.1 h2).1 (by simpa using hne)]; exact h2⟩
  · rw [pairwise_fst, hs.fsts, ← pairwise_fst]; exact h.nd

/-- A call of a function with a body. -/
theorem LW.callG {f : FuncId} {vs : Array Value} {Φ : Value → Fs → Prop} (hd : Nat.blt d C.N = true) (hnd : ∀ c, op ≠ .defer c)
    (h : ∀ a w, Sat C e fs a w → (execOp a.eval ⟨some d, op, t, pos, af, none⟩).run C.P w = .ok (.enter f vs) w)
    (hc : ∀ w, St C.w0 C.S fs w → Calls C.P f vs w (RetG w [] Φ)) (k : ∀ v gs, Φ v gs → LW C ops Q rest ((d, v) :: e) (gs ++ fs)) :
    LW C ops Q (⟨some d, op, t, pos, af, none⟩ :: rest) e fs := fun a w hs => by
  refine wpListIn_take (wanted_none _ rfl _) ⟨fun _ _ => trivial, ?_⟩
  rw [semAt_FR hnd, h a w hs]
  refine ⟨fun h => (by cases h), CallsIn.mono (calls_FR (hc w hs.st)) fun x w' hx => ?_⟩
  obtain ⟨v, gs, rfl, hΦ, hb, hg, hn⟩ := hx
  exact k v gs hΦ _ _ ⟨hs.env.put hd, hs.st.call hb hg hn⟩

/-- .. that turns one block of ours. -/
theorem LW.callS {f : FuncId} {vs : Array Value} {b : Nat} {o : Obj} {Φ : Value → Obj → Prop} (hd : Nat.blt d C.N = true) (hnd : ∀ c, op ≠ .defer c) (hm : (b, o) ∈ fs)
    (h : ∀ a w, Sat C e fs a w → (execOp a.eval ⟨some d, op, t, pos, af, none⟩).run C.P w = .ok (.enter f vs) w)
    (hc : ∀ w, St C.w0 C.S fs w → Calls C.P f vs w (fun x w' => ∃ v o', x = .returned v ∧ Φ v o' ∧ Bel w.heap.size [b] w w' ∧ w'.heap[b]? = some o'))
    (k : ∀ v o' fs', Φ v o' → SetAt fs b o o' fs' → LW C ops Q rest ((d, v) :: e) fs') : LW C ops Q (⟨some d, op, t, pos, af, none⟩ :: rest) e fs := fun a w hs => by
  have hset : ∀ o', ∃ fs', SetAt fs b o o' fs' := fun o' => by
    clear k hc h hs
    induction fs with
    | nil => simp at hm
    | cons p r ih =>
      rcases List.mem_cons.1 hm with rfl | hm
      · exact ⟨_, .head⟩
      · obtain ⟨fs', h⟩ := ih hm; exact ⟨_, .tail h⟩
  refine wpListIn_take (wanted_none _ rfl _) ⟨fun _ _ => trivial, ?_⟩
  rw [semAt_FR hnd, h a w hs]
  refine ⟨fun h => (by cases h), CallsIn.mono (calls_FR (hc w hs.st)) fun x w' hx => ?_⟩
  obtain ⟨v, o', rfl, hΦ, hb, hg⟩ := hx
  obtain ⟨fs', hfs⟩ := hset o'
  exact k v o' fs' hΦ hfs _ _ ⟨hs.env.put hd, hs.st.callS hfs hb hg⟩
end rows
end Go.Proofs.Ytahoghldnijnbaa.SL
