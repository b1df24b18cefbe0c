/-
  A SMALL LOGIC OVER THE KIT's WALK, PART E: a function's contract from its body; what it hands back; a region that draws its order, walked once (rules).
  Conditions: none; over any program.
-/
import Derived.Test.YtahoghldnijnbaaSld
namespace Go.Proofs.Ytahoghldnijnbaa.SL
open Go Go.RowKit

/-! ### Small steps of a walk -/
theorem thenN {C : Cu} {y : Code} {Q Q' : Post} {e : Env} {fs : Fs} (h : CW C y Q e fs) : thenQ (thenC C y Q) Q' .normal C.ds e fs := h
theorem thenM {C : Cu} {y : Code} {Q Q' : Post} {ds : List Deferred} {e : Env} {fs : Fs} (h : CW ⟨C.P, C.w0, C.S, C.N, ds, C.r⟩ y Q e fs) : thenQ (thenC C y Q) Q' .normal ds e fs := h
theorem thenR {K : List Deferred → Env → Fs → Prop} {Q : Post} {ds : List Deferred} {e : Env} {fs : Fs} (h : Q .ret ds e fs) : thenQ K Q .ret ds e fs := h
theorem thenE {K : List Deferred → Env → Fs → Prop} {Q : Post} {ds : List Deferred} {e : Env} {fs : Fs} {id : Nat} (h : Q (.exit id) ds e fs) : thenQ K Q (.exit id) ds e fs := h
theorem blkN {id : Nat} {Q : Post} {ds : List Deferred} {e : Env} {fs : Fs} (h : Q .normal ds e fs) : blkQ id Q .normal ds e fs := h
theorem blkR {id : Nat} {Q : Post} {ds : List Deferred} {e : Env} {fs : Fs} (h : Q .ret ds e fs) : blkQ id Q .ret ds e fs := h
theorem blkE {id k : Nat} {Q : Post} {ds : List Deferred} {e : Env} {fs : Fs} (hk : Nat.beq k id = true) (h : Q .normal ds e fs) : blkQ id Q (.exit k) ds e fs := by simp only [blkQ, hk]; exact h
theorem blkO {id k : Nat} {Q : Post} {ds : List Deferred} {e : Env} {fs : Fs} (hk : Nat.beq k id = false) (h : Q (.exit k) ds e fs) : blkQ id Q (.exit k) ds e fs := by simp only [blkQ, hk]; exact h

/-- A loop of at most n rounds. -/
def RW (C : Cu) (c : Code) (Q : Post) (n : Nat) (e : Env) (fs : Fs) : Prop := ∀ a w, Sat C e fs a w → Code.roundsIn (FR C.r) 0 C.P c (down C Q) n a w
def thenW (C : Cu) (c : Code) (Q : Post) (n : Nat) : List Deferred → Env → Fs → Prop := fun ds e fs => RW (C.at ds) c Q n e fs
theorem thenL {C : Cu} {c : Code} {Q Q' : Post} {n : Nat} {e : Env} {fs : Fs} (h : RW C c Q n e fs) : thenQ (thenW C c Q n) Q' .normal C.ds e fs := h
theorem CW.rounds {C : Cu} {c : Code} {Q : Post} {e : Env} {fs : Fs} (n : Nat) (h : RW C c Q n e fs) : CW C (.loop c) Q e fs := fun a w hs => wpIn_loop_rounds n (h a w hs)
theorem RW.step {C : Cu} {c : Code} {Q : Post} {n : Nat} {e : Env} {fs : Fs} (h : CW C c (thenQ (thenW C c Q n) Q) e fs) : RW C c Q (n + 1) e fs := fun a w hs => by
  rw [roundsIn_succ]
  exact Code.wpIn_mono (fun x a w ⟨ds, e, fs, q, s⟩ => by
    cases x with
    | normal => exact q a w s
    | _ => exact ⟨ds, e, fs, q, s⟩) (h a w hs)

/-! ### In and out of a function -/
def Env.ofL : List Value → Nat → Env
  | [], _ => []
  | v :: r, k => (k, v) :: Env.ofL r (k + 1)

theorem Env.ofL_get : ∀ (l : List Value) (k t : Nat) (v : Value), (Env.ofL l k).get t = some v → k ≤ t ∧ l[t - k]? = some v
  | [], _, _, _, h => by simp [Env.ofL, Env.get] at h
  | u :: r, k, t, v, h => by
    simp only [Env.ofL, Env.get] at h
    split at h
    · rename_i hb; have := Nat.eq_of_beq_eq_true hb; subst this; cases h; simp
    · rename_i hb
      obtain ⟨h1, h2⟩ := Env.ofL_get r (k + 1) t v h
      refine ⟨by omega, ?_⟩
      rw [show t - k = (t - (k + 1)) + 1 by omega]
      simpa using h2

/-- The end of a function: off its body's end, or by return; its deferred calls are made; its results are read; R holds. -/
def finQ (C : Cu) (fn : Func) (R : Ending → World → Prop) : Post := fun x ds e fs =>
  (x = .ret ∨ x = .normal) ∧ ∀ a w, Sat (C.at ds) e fs a w → LeavesInM (FR none) 0 C.P fn a.tmps R a.defers .returning w

theorem enter {P : Program} {f : FuncId} {fn : Func} {c : Code} {args : List Value} {w : World} {R : Ending → World → Prop} (N : Nat) (S : List Nat) (fs : Fs) (hf : P.funcs[f]? = some fn) (hb : fn.body = some c) (hN : fn.ntmps = N) (hsz : Nat.ble args.length N = true)
    (hfs : ∀ p ∈ fs, p.1 ∈ S ∧ w.heap[p.1]? = some p.2) (hnd : fs.Pairwise fun p q => p.1 ≠ q.1) (h : CW ⟨P, w, S, N, [], none⟩ c (finQ ⟨P, w, S, N, [], none⟩ fn R) (Env.ofL args 0) fs) : Calls P f args.toArray w R := by
  have hs : Sat ⟨P, w, S, N, [], none⟩ (Env.ofL args 0) fs { tmps := args.toArray ++ Array.replicate (fn.ntmps - args.toArray.size) undef, defers := [] } w := by
    refine ⟨⟨by have := Nat.le_of_ble_eq_true hsz; simp [hN]; omega, rfl, fun t v ht => ?_⟩, Bel.refl _ _ _, fun p hp => ⟨.inr (hfs p hp).1, (hfs p hp).2⟩, hnd⟩
    obtain ⟨_, h2⟩ := Env.ofL_get _ _ _ _ ht
    have h3 : args[t]? = some v := by simpa using h2
    have hlt : t < args.length := (List.getElem?_eq_some_iff.1 h3).1
    show (args.toArray ++ Array.replicate (fn.ntmps - args.toArray.size) undef)[t]? = some v
    rw [Array.getElem?_append_left (by simpa using hlt)]
    simpa using h3
  refine (callsIn_wide (n := 0)).1 (callsIn_of_wp_marks (F := FR none) hf hb trivial ?_)
  refine Code.wpIn_mono (fun x a w' h' => ?_) (h _ w hs)
  obtain ⟨ds, e, fs, ⟨hx, q⟩, s⟩ := h'
  rcases hx with rfl | rfl
  · exact q a w' s
  · exact q a w' s

/-- What one of a function's results reads. -/
inductive Res (C : Cu) (e : Env) (fs : Fs) : ResultVar → Value → Prop
  | tmp {t : Nat} {v : Value} (h : e.get t = some v) : Res C e fs (.tmp t) v
  | cell {a : Nat} {T : TypeId} {b off : Nat} {o : Obj} {v : Value} (h : e.get a = some (.pointer (some ⟨b, off, none⟩))) (hk : Known C fs (b, o)) (hr : Rd C.P T o off v) : Res C e fs (.cell a T) v
inductive ResL (C : Cu) (e : Env) (fs : Fs) : List ResultVar → List Value → Prop
  | nil : ResL C e fs [] []
  | cons {r : ResultVar} {v : Value} {rs : List ResultVar} {vs : List Value} (h : Res C e fs r v) (hs : ResL C e fs rs vs) : ResL C e fs (r :: rs) (v :: vs)

def tup : List Value → Value
  | [v] => v
  | vs => .tuple vs.toArray

def rdRes (tmps : Array Value) : ResultVar → Sem Value
  | .tmp t => pure (tmps.getD t undef)
  | .cell x t => do loadVar t (← asAddr (tmps.getD x undef))

theorem Res.run {C : Cu} {e : Env} {fs : Fs} {r : ResultVar} {v : Value} (h : Res C e fs r v) {a : Act} {w : World} (hs : Sat C e fs a w) : (rdRes a.tmps r).run C.P w = .ok v w := by
  cases h with
  | tmp h => simp [rdRes, hs.env.get _ _ h]
  | cell h hk hr => simp [rdRes, hs.env.get _ _ h, asAddr, hr w _ (hk.get hs.st)]

theorem results_eq (fn : Func) (tmps : Array Value) : results fn tmps = (fn.results.mapM (rdRes tmps) >>= fun vs => pure (if h : vs.size = 1 then vs[0] else .tuple vs)) := by
  unfold results
  have : ∀ f : ResultVar → Sem Value, (∀ r, f r = rdRes tmps r) → (fn.results.mapM f >>= fun vs => (pure (if h : vs.size = 1 then vs[0] else .tuple vs) : Sem Value)) = (fn.results.mapM (rdRes tmps) >>= fun vs => pure (if h : vs.size = 1 then vs[0] else .tuple vs)) := fun f hf => by
    rw [show f = rdRes tmps from funext hf]
  exact this _ (fun r => by cases r <;> rfl)

theorem ResL.run {C : Cu} {e : Env} {fs : Fs} {fn : Func} {vs : List Value} (h : ResL C e fs fn.results.toList vs) {a : Act} {w : World} (hs : Sat C e fs a w) : (results fn a.tmps).run C.P w = .ok (tup vs) w := by
  have key : ∀ (l : List ResultVar) (vs : List Value), ResL C e fs l vs → (l.mapM (rdRes a.tmps)).run C.P w = .ok vs w := by
    intro l vs h
    induction h with
    | nil => simp
    | cons h _ ih =>
      rw [List.mapM_cons]
      simp [h.run hs, ih]
  have h1 := key _ _ h
  rw [results_eq, Array.mapM_eq_mapM_toList]
  simp only [Sem.run_bind, Sem.run_map, h1, Result.andThen_ok, Sem.run_pure]
  match vs with
  | [] => rfl
  | [v] => rfl
  | v :: u :: r => simp [tup]

theorem LeavesInM_nil {P : Program} {fn : Func} {tmps : Array Value} {R : Ending → World → Prop} {ds : List Deferred} {w : World} (h : ds = []) (h' : ∃ v, (results fn tmps).run P w = .ok v w ∧ R (.returned v) w) : LeavesInM (FR none) 0 P fn tmps R ds .returning w := by
  subst h; exact h'

/-- The end: what is handed back, and what is told of memory. -/
theorem fin {C : Cu} {fn : Func} {e : Env} {fs : Fs} {x : Exit} {rs : List ResultVar} {vs : List Value} (gs : Fs) {Φ : Value → Fs → Prop} (hx : x = .ret ∨ x = .normal) (hr : fn.results.toList = rs) (hds : C.ds = []) (h : ResL C e fs rs vs) (hg : List.Sublist gs fs) (hΦ : Φ (tup vs) gs) :
    finQ C fn (RetG C.w0 C.S Φ) x C.ds e fs := by
  refine ⟨hx, fun a w hs => LeavesInM_nil (by rw [hs.env.dfr]; exact hds) ⟨tup vs, ResL.run (by rw [hr]; exact h) hs, tup vs, gs, rfl, hΦ, hs.st.bel, fun p hp => hs.st.own p (hg.subset hp), hs.st.nd.sublist hg⟩⟩
theorem finR {C : Cu} {fn : Func} {e : Env} {fs : Fs} {x : Exit} {rs : List ResultVar} {vs : List Value} {v : Value} (hx : x = .ret ∨ x = .normal) (hr : fn.results.toList = rs) (hds : C.ds = []) (hS : C.S = []) (h : ResL C e fs rs vs) (hv : tup vs = v) :
    finQ C fn (Ret C.w0 v) x C.ds e fs := by
  refine ⟨hx, fun a w hs => LeavesInM_nil (by rw [hs.env.dfr]; exact hds) ⟨tup vs, ResL.run (by rw [hr]; exact h) hs, by rw [hv], ?_⟩⟩
  have this : Bel C.w0.heap.size C.S C.w0 w := hs.st.bel
  rw [hS] at this
  exact this
/-- .. where one block of the caller's is turned. -/
theorem finS {C : Cu} {fn : Func} {e : Env} {fs : Fs} {x : Exit} {rs : List ResultVar} {vs : List Value} {b : Nat} {o : Obj} {Φ : Value → Obj → Prop} (hx : x = .ret ∨ x = .normal) (hr : fn.results.toList = rs) (hds : C.ds = []) (hS : C.S = [b]) (h : ResL C e fs rs vs) (hm : (b, o) ∈ fs) (hΦ : Φ (tup vs) o) :
    finQ C fn (fun x w' => ∃ v o', x = .returned v ∧ Φ v o' ∧ Bel C.w0.heap.size [b] C.w0 w' ∧ w'.heap[b]? = some o') x C.ds e fs := by
  refine ⟨hx, fun a w hs => LeavesInM_nil (by rw [hs.env.dfr]; exact hds) ⟨tup vs, ResL.run (by rw [hr]; exact h) hs, tup vs, o, rfl, hΦ, ?_, (hs.st.own _ hm).2⟩⟩
  have this : Bel C.w0.heap.size C.S C.w0 w := hs.st.bel
  rw [hS] at this
  exact this

/-! ### A region that draws its order -/
abbrev Ts := List (Nat × Obj × List Nat × List Nat)

structure Rel (B : Nat) (ts : Ts) (φ : Facts) (tw tr : Tag) : Prop where
  fsome : ∀ p ∈ ts, φ p.1 = some p.2.1
  fdom : ∀ b, φ b ≠ none → ∃ p ∈ ts, p.1 = b
  ftw : ∀ p ∈ ts, ∀ k, tw p.1 k → k ∈ p.2.2.1
  ftr : ∀ p ∈ ts, ∀ k, tr p.1 k → k ∈ p.2.2.2
  old : ∀ b, φ b = none → ∀ k, ¬ tw b k
  oldr : ∀ b, φ b = none → B ≤ b → ∀ k, ¬ tr b k
  nd : ts.Pairwise fun p q => p.1 ≠ q.1

def tsOf (fs : Fs) : Ts := fs.map fun p => (p.1, p.2, [], [])
def fsOf (ts : Ts) : Fs := ts.map fun p => (p.1, p.2.1)

/-- Who has come before, by reckoning. -/
def ancF (ops : Array Oper) : Nat → List Nat → List Nat
  | 0, l => l
  | f + 1, l => ancF ops f (l ++ ((List.range ops.size).filter fun k => !l.contains k && l.any fun i => Region.waitsFor .any ops i k))
def ancB (ops : Array Oper) (i : Nat) (l : List Nat) : Bool :=
  let as := ancF ops ops.size ((List.range ops.size).filter fun k => Region.waitsFor .any ops i k)
  l.all fun k => as.contains k

theorem Anc.snoc {ops : Array Oper} {i j k : Nat} (h : Anc ops j i) (h' : Region.waitsFor .any ops j k = true) : Anc ops k i := by
  induction h with
  | one h => exact .more h (.one h')
  | more h _ ih => exact .more h (ih h')

theorem ancF_spec {ops : Array Oper} {i : Nat} : ∀ (f : Nat) (l : List Nat), (∀ k ∈ l, Anc ops k i) → ∀ k ∈ ancF ops f l, Anc ops k i
  | 0, _, h => h
  | f + 1, l, h => ancF_spec f _ (fun k hk => by
    rcases List.mem_append.1 hk with hk | hk
    · exact h k hk
    · have h1 := (List.mem_filter.1 hk).2
      simp only [Bool.and_eq_true, List.any_eq_true] at h1
      obtain ⟨_, j, hj, hw⟩ := h1
      exact (h j hj).snoc hw)

theorem ancB_spec {ops : Array Oper} {i : Nat} {l : List Nat} (h : ancB ops i l = true) : ∀ k ∈ l, Anc ops k i := fun k hk => by
  have h1 := List.all_eq_true.1 h k hk
  exact ancF_spec _ _ (fun j hj => .one (List.mem_filter.1 hj).2) k (by simpa using h1)

/-- The walk's end: the operations that stand behind it, in order. -/
def tailK (C : Cu) (ops : Array Oper) (Q : Post) (tl : List Oper) : Kont := fun a φ _ _ => C.cx.inv φ → ∀ w, C.cx.holds φ w → wpListIn (FR C.r) 0 C.P ops (down C Q) tl a w

def DW (C : Cu) (ops : Array Oper) (μ : Mu) (Q : Post) (tl : List Oper) (l : List Oper) (k : Nat) (e : Env) (ts : Ts) : Prop :=
  ∀ a φ tw tr, EnvOk C.N C.ds e a → Rel C.w0.heap.size ts φ tw tr → C.cx.inv φ → walk C.cx ops (Anc ops) μ (tailK C ops Q tl) l k a φ tw tr

def factsOf : Fs → Facts
  | [] => fun _ => none
  | p :: r => upd (factsOf r) p.1 p.2

theorem factsOf_mem {fs : Fs} (hn : fs.Pairwise fun p q => p.1 ≠ q.1) : ∀ p ∈ fs, factsOf fs p.1 = some p.2 := by
  induction fs with
  | nil => simp
  | cons q r ih =>
    intro p hp
    obtain ⟨h1, h2⟩ := List.pairwise_cons.1 hn
    rcases List.mem_cons.1 hp with rfl | hp
    · exact upd_same _ _ _
    · simp only [factsOf]; rw [upd_other _ _ (fun e => h1 p hp e.symm)]; exact ih h2 p hp

theorem factsOf_dom {fs : Fs} : ∀ b o, factsOf fs b = some o → (b, o) ∈ fs := by
  induction fs with
  | nil => simp [factsOf]
  | cons q r ih =>
    intro b o h
    simp only [factsOf] at h
    by_cases hb : b = q.1
    · subst hb; rw [upd_same] at h; cases h; exact List.mem_cons_self
    · rw [upd_other _ _ hb] at h; exact List.mem_cons_of_mem _ (ih b o h)

/-- **A REGION THAT DRAWS ITS ORDER**: its first n operations are walked by 'DW' (whatever order), the others by 'LW'. -/
theorem CW.any {C : Cu} {id : Nat} {l : List Oper} {Q : Post} {e : Env} {fs : Fs} (μ : Mu) (n : Nat) (hm : C.P.follows .mixedOrders = true) (hB : headB l.toArray n = true) (h : DW C l.toArray μ Q (l.drop n) (l.take n) 0 e (tsOf fs)) :
    CW C (.region id l.toArray true) Q e fs := fun a w hs => by
  have hnd := hs.st.nd
  have hholds : C.cx.holds (factsOf fs) w := ⟨hs.st.bel, fun b o hb => (hs.st.own _ (factsOf_dom b o hb)).2⟩
  have hinv : C.cx.inv (factsOf fs) := fun b hb => by
    obtain ⟨o, ho⟩ := Option.ne_none_iff_exists'.1 hb
    exact (hs.st.own _ (factsOf_dom b o ho)).1
  refine region_any (G := C.cx) (μ := μ) n hm hB hinv hholds ?_
  refine h a _ _ _ hs.env ⟨fun p hp => ?_, fun b hb => ?_, fun p hp k hk => hk.elim, fun p hp k hk => hk.elim, fun _ _ _ h => h, fun _ _ _ _ h => h, ?_⟩ hinv
  · obtain ⟨q, hq, rfl⟩ := List.mem_map.1 hp
    exact factsOf_mem hnd q hq
  · obtain ⟨o, ho⟩ := Option.ne_none_iff_exists'.1 hb
    exact ⟨(b, o, [], []), List.mem_map.2 ⟨(b, o), factsOf_dom b o ho, rfl⟩, rfl⟩
  · simp only [tsOf, List.pairwise_map]; exact hnd

/-- The operation's guard, if it has one, holds. -/
inductive WantT (ops : Array Oper) (e : Env) : Option (Nat × Bool) → Prop
  | none : WantT ops e none
  | some {j s : Nat} {g : Bool} (hs : (ops[j]?).bind (·.dst) = some s) (he : e.get s = some (.bool g)) : WantT ops e (some (j, g))

theorem WantT.wanted {ops : Array Oper} {N : Nat} {ds : List Deferred} {e : Env} {a : Act} {o : Oper} (h : WantT ops e o.guard) (ha : EnvOk N ds e a) : Region.wanted o (yielded ops a.tmps) = true := by
  generalize hg : o.guard = g at h
  cases h with
  | none => simp [Region.wanted, hg]
  | some hs he => simp [Region.wanted, hg, yielded, hs, ha.get _ _ he]

section lc
variable {C : Cu} {ops : Array Oper} {Q : Post} {rest : List Oper} {e : Env} {fs : Fs} {d : Nat} {t : TypeId} {pos : String} {af : Array Edge}
/-- A call that hands back v, and leaves all as it was. -/
theorem LW.call {fo : Operand} {args : Array Operand} {tys : Array TypeId} {f : FuncId} {first cap : Array Value} {vs : List Value} {v : Value} (hd : Nat.blt d C.N = true) (hf : e.ev fo = some (.func (.func f) first cap)) (hF : FnI C.P f) (ha : ArgsOk e args.toList vs)
    (hc : ∀ w, St C.w0 C.S fs w → Calls C.P f (first ++ vs.toArray ++ cap) w (Ret w v)) (kk : LW C ops Q rest ((d, v) :: e) fs) : LW C ops Q (⟨some d, .call { callee := .value fo, args := args, argTypes := tys }, t, pos, af, none⟩ :: rest) e fs :=
  LW.cr hd rfl (.fn hf ha) hc kk
/-- .. that hands back more: facts of new blocks. -/
theorem LW.callN {fo : Operand} {args : Array Operand} {tys : Array TypeId} {f : FuncId} {first cap : Array Value} {vs : List Value} {Φ : Value → Fs → Prop} (hd : Nat.blt d C.N = true) (hf : e.ev fo = some (.func (.func f) first cap)) (hF : FnI C.P f) (ha : ArgsOk e args.toList vs)
    (hc : ∀ w, St C.w0 C.S fs w → Calls C.P f (first ++ vs.toArray ++ cap) w (RetG w [] Φ)) (kk : ∀ v gs, Φ v gs → LW C ops Q rest ((d, v) :: e) (gs ++ fs)) : LW C ops Q (⟨some d, .call { callee := .value fo, args := args, argTypes := tys }, t, pos, af, none⟩ :: rest) e fs :=
  LW.c0 hd rfl (.fn hf ha) hc kk
end lc

section dw
variable {C : Cu} {ops : Array Oper} {Q : Post} {tl rest : List Oper} {e : Env} {ts : Ts} {μ : Mu} {k d : Nat} {op : Op} {t : TypeId} {pos : String} {af : Array Edge} {g : Option (Nat × Bool)}

theorem DW.nil (h : LW C ops Q tl e (fsOf ts)) : DW C ops μ Q tl [] k e ts := by
  intro a φ tw tr ha hr hinv
  refine fun _ w hw => h a w ⟨ha, hw.1, fun p hp => ?_, ?_⟩
  · obtain ⟨q, hq, rfl⟩ := List.mem_map.1 hp
    have h1 := hr.fsome q hq
    exact ⟨hinv _ (by rw [h1]; simp), hw.2 _ _ h1⟩
  · simp only [fsOf, List.pairwise_map]; exact hr.nd

def noTouch : Op → Bool
  | .load .. => false
  | .store .. => false
  | .call { callee := .builtin .len, .. } => true
  | .call { callee := .builtin .min, .. } => true
  | .call { callee := .builtin .max, .. } => true
  | .call _ => false
  | _ => true

theorem touch_none {op : Op} (h : noTouch op = true) {ρ : Operand → Value} {d : Option Nat} {t : TypeId} {pos : String} {af : Array Edge} {g : Option (Nat × Bool)} : touch ⟨d, op, t, pos, af, g⟩ ρ = [] := by
  unfold touch
  cases op <;> simp only [noTouch] at h ⊢ <;> try (cases h; done)
  rename_i c
  unfold touchC
  obtain ⟨callee, args, tys⟩ := c
  cases callee with
  | builtin b => cases b <;> simp_all
  | _ => simp_all

theorem tch_want {o : Oper} {a : Act} (hw : Region.wanted o (yielded ops a.tmps) = true) : tch ops o a = touch o a.eval := by unfold tch; rw [if_pos hw]

/-- An operation that touches no memory. -/
theorem DW.v0 {v : Value} (hk : ops[k]? = some ⟨some d, op, t, pos, af, g⟩) (hm : μ k = none) (hd : Nat.blt d C.N = true) (hg : WantT ops e g) (ht : noTouch op = true) (h : ValP C.P e [] op v) (kk : DW C ops μ Q tl rest (k + 1) ((d, v) :: e) ts) :
    DW C ops μ Q tl (⟨some d, op, t, pos, af, g⟩ :: rest) k e ts := by
  intro a φ tw tr ha hr hinv
  have hw := WantT.wanted (o := ⟨some d, op, t, pos, af, g⟩) hg ha
  have htch : tch ops ⟨some d, op, t, pos, af, g⟩ a = [] := by rw [tch_want hw]; exact touch_none ht
  unfold walk dOp
  simp only [hk]
  rw [htch]
  refine ⟨by simp, .inl ⟨.val v, .inl ⟨hw, hm, fun w _ => h _ w ha.Ev (by simp) _ _ _ _ _⟩, by simp [Eff.wr], ?_⟩⟩
  refine kk _ _ _ _ (ha.put hd) ⟨hr.fsome, hr.fdom, fun p hp j hj => ?_, fun p hp j hj => ?_, fun b hb j hj => ?_, fun b hb hB j hj => ?_, hr.nd⟩ hinv
  · rcases hj with hj | ⟨_, hj⟩
    · exact hr.ftw p hp j hj
    · simp [Eff.wr] at hj
  · rcases hj with hj | ⟨_, hj⟩
    · exact hr.ftr p hp j hj
    · simp at hj
  · rcases hj with hj | ⟨_, hj⟩
    · exact hr.old b hb j hj
    · simp [Eff.wr] at hj
  · rcases hj with hj | ⟨_, hj⟩
    · exact hr.oldr b hb hB j hj
    · simp at hj

/-- An operation whose guard does not hold. -/
theorem DW.skip {j s : Nat} {b : Bool} (hk : ops[k]? = some ⟨some d, op, t, pos, af, some (j, b)⟩) (hd : Nat.blt d C.N = true) (hs : (ops[j]?).bind (·.dst) = some s) (he : e.get s = some (.bool (!b))) (kk : DW C ops μ Q tl rest (k + 1) ((d, undef) :: e) ts) :
    DW C ops μ Q tl (⟨some d, op, t, pos, af, some (j, b)⟩ :: rest) k e ts := by
  intro a φ tw tr ha hr hinv
  have hw : Region.wanted ⟨some d, op, t, pos, af, some (j, b)⟩ (yielded ops a.tmps) = false := by
    have hy : yielded ops a.tmps j = some (!b) := by simp [yielded, hs, ha.get s _ he]
    cases b <;> simp [Region.wanted, hy]
  have htch : tch ops ⟨some d, op, t, pos, af, some (j, b)⟩ a = [] := by unfold tch; rw [if_neg (by rw [hw]; simp)]
  unfold walk dOp
  simp only [hk]
  rw [htch]
  refine ⟨by simp, .inl ⟨.val undef, .inr ⟨hw, rfl⟩, by simp [Eff.wr], ?_⟩⟩
  refine kk _ _ _ _ (ha.put hd) ⟨hr.fsome, hr.fdom, fun p hp j hj => ?_, fun p hp j hj => ?_, fun b hb j hj => ?_, fun b hb hB j hj => ?_, hr.nd⟩ hinv
  · rcases hj with hj | ⟨_, hj⟩
    · exact hr.ftw p hp _ hj
    · simp [Eff.wr] at hj
  · rcases hj with hj | ⟨_, hj⟩
    · exact hr.ftr p hp _ hj
    · simp at hj
  · rcases hj with hj | ⟨_, hj⟩
    · exact hr.old b hb _ hj
    · simp [Eff.wr] at hj
  · rcases hj with hj | ⟨_, hj⟩
    · exact hr.oldr b hb hB _ hj
    · simp at hj

/-- A fact that is looked at by operation k: it is tagged. -/
inductive TRead (ops : Array Oper) (k : Nat) : Ts → Nat → Obj → Ts → Prop
  | head {b : Nat} {o : Obj} {ws rs : List Nat} {r : Ts} (h : ancB ops k ws = true) : TRead ops k ((b, o, ws, rs) :: r) b o ((b, o, ws, k :: rs) :: r)
  | tail {p : Nat × Obj × List Nat × List Nat} {b : Nat} {o : Obj} {r r' : Ts} (h : TRead ops k r b o r') : TRead ops k (p :: r) b o (p :: r')
/-- A fact that is turned by operation k. -/
inductive TSet (ops : Array Oper) (k : Nat) (o' : Obj) : Ts → Nat → Obj → Ts → Prop
  | head {b : Nat} {o : Obj} {ws rs : List Nat} {r : Ts} (h : ancB ops k ws = true) (h' : ancB ops k rs = true) : TSet ops k o' ((b, o, ws, rs) :: r) b o ((b, o', k :: ws, k :: rs) :: r)
  | tail {p : Nat × Obj × List Nat × List Nat} {b : Nat} {o : Obj} {r r' : Ts} (h : TSet ops k o' r b o r') : TSet ops k o' (p :: r) b o (p :: r')

theorem TRead.mem {ts' : Ts} {b : Nat} {o : Obj} (h : TRead ops k ts b o ts') : ∃ ws rs, (b, o, ws, rs) ∈ ts ∧ ancB ops k ws = true := by
  induction h with
  | head h => exact ⟨_, _, List.mem_cons_self, h⟩
  | tail _ ih => obtain ⟨ws, rs, h1, h2⟩ := ih; exact ⟨ws, rs, List.mem_cons_of_mem _ h1, h2⟩
theorem TRead.fsts {ts' : Ts} {b : Nat} {o : Obj} (h : TRead ops k ts b o ts') : ts'.map (·.1) = ts.map (·.1) := by
  induction h with
  | head h => rfl
  | tail _ ih => simp [ih]
theorem TRead.inv {ts' : Ts} {b : Nat} {o : Obj} (h : TRead ops k ts b o ts') : ∀ p ∈ ts', ∃ q ∈ ts, q.1 = p.1 ∧ q.2.1 = p.2.1 ∧ q.2.2.1 = p.2.2.1 ∧ ((p.1 = b ∧ p.2.2.2 = k :: q.2.2.2) ∨ p = q) := by
  induction h with
  | head h =>
    intro p hp
    rcases List.mem_cons.1 hp with rfl | hp
    · exact ⟨_, List.mem_cons_self, rfl, rfl, rfl, .inl ⟨rfl, rfl⟩⟩
    · exact ⟨p, List.mem_cons_of_mem _ hp, rfl, rfl, rfl, .inr rfl⟩
  | tail _ ih =>
    intro p hp
    rcases List.mem_cons.1 hp with rfl | hp
    · exact ⟨_, List.mem_cons_self, rfl, rfl, rfl, .inr rfl⟩
    · obtain ⟨q, h1, h2⟩ := ih p hp; exact ⟨q, List.mem_cons_of_mem _ h1, h2⟩
theorem TSet.mem {ts' : Ts} {b : Nat} {o o' : Obj} (h : TSet ops k o' ts b o ts') : ∃ ws rs, (b, o, ws, rs) ∈ ts ∧ ancB ops k ws = true ∧ ancB ops k rs = true := by
  induction h with
  | head h h' => exact ⟨_, _, List.mem_cons_self, h, h'⟩
  | tail _ ih => obtain ⟨ws, rs, h1, h2⟩ := ih; exact ⟨ws, rs, List.mem_cons_of_mem _ h1, h2⟩
theorem TSet.fsts {ts' : Ts} {b : Nat} {o o' : Obj} (h : TSet ops k o' ts b o ts') : ts'.map (·.1) = ts.map (·.1) := by
  induction h with
  | head h => rfl
  | tail _ ih => simp [ih]
theorem TSet.inv {ts' : Ts} {b : Nat} {o o' : Obj} (h : TSet ops k o' ts b o ts') (hn : ts.Pairwise fun p q => p.1 ≠ q.1) :
    ∀ p ∈ ts', (p.1 = b ∧ p.2.1 = o' ∧ ∃ q ∈ ts, q.1 = b ∧ p.2.2.1 = k :: q.2.2.1 ∧ p.2.2.2 = k :: q.2.2.2) ∨ (p ∈ ts ∧ p.1 ≠ b) := by
  induction h with
  | head h =>
    intro p hp
    rcases List.mem_cons.1 hp with rfl | hp
    · exact .inl ⟨rfl, rfl, _, List.mem_cons_self, rfl, rfl, rfl⟩
    · exact .inr ⟨List.mem_cons_of_mem _ hp, fun e => (List.pairwise_cons.1 hn).1 p hp e.symm⟩
  | tail h ih =>
    intro p hp
    obtain ⟨h1, h2⟩ := List.pairwise_cons.1 hn
    rcases List.mem_cons.1 hp with rfl | hp
    · obtain ⟨ws, rs, hm, _⟩ := h.mem
      exact .inr ⟨List.mem_cons_self, h1 _ hm⟩
    · rcases ih h2 p hp with ⟨e1, e2, q, hq, e3⟩ | ⟨e1, e2⟩
      · exact .inl ⟨e1, e2, q, List.mem_cons_of_mem _ hq, e3⟩
      · exact .inr ⟨List.mem_cons_of_mem _ e1, e2⟩

theorem pairwise_map1 {ts ts' : Ts} (h : ts'.map (·.1) = ts.map (·.1)) (hn : ts.Pairwise fun p q => p.1 ≠ q.1) : ts'.Pairwise fun p q => p.1 ≠ q.1 := by
  have h1 : (ts.map (·.1)).Pairwise (· ≠ ·) := by rw [List.pairwise_map]; exact hn
  rw [← h, List.pairwise_map] at h1
  exact h1

/-- The blocks that a call's operands name: each is a fact of ours that is looked at, or lay there when the call began. -/
inductive ReadAll (C : Cu) (ops : Array Oper) (k : Nat) : List Nat → Ts → Fs → Ts → Prop
  | nil {ts : Ts} : ReadAll C ops k [] ts [] ts
  | own {b : Nat} {o : Obj} {bs : List Nat} {ts ts1 ts2 : Ts} {us : Fs} (h : TRead ops k ts b o ts1) (hs : ReadAll C ops k bs ts1 us ts2) : ReadAll C ops k (b :: bs) ts ((b, o) :: us) ts2
  | ext {b : Nat} {o : Obj} {bs : List Nat} {ts ts2 : Ts} {us : Fs} (h : C.w0.heap[b]? = some o) (hS : b ∉ C.S) (hs : ReadAll C ops k bs ts us ts2) : ReadAll C ops k (b :: bs) ts ((b, o) :: us) ts2

theorem TRead.tag {ts' : Ts} {b : Nat} {o : Obj} (h : TRead ops k ts b o ts') : (ts.Pairwise fun p q => p.1 ≠ q.1) → ∀ p ∈ ts', p.1 = b → k ∈ p.2.2.2 := by
  induction h with
  | head h =>
    intro hn p hp hpb
    rcases List.mem_cons.1 hp with rfl | hp
    · exact List.mem_cons_self
    · exact absurd hpb (fun e => (List.pairwise_cons.1 hn).1 p hp e.symm)
  | tail h ih =>
    intro hn p hp hpb
    obtain ⟨n1, n2⟩ := List.pairwise_cons.1 hn
    rcases List.mem_cons.1 hp with rfl | hp
    · obtain ⟨ws, rs, hm, _⟩ := h.mem
      exact absurd hpb (n1 _ hm)
    · exact ih n2 p hp hpb

theorem Rel.read {B : Nat} {φ : Facts} {tw tr : Tag} (hr : Rel B ts φ tw tr) {ts' : Ts} {b : Nat} {o : Obj} (h : TRead ops k ts b o ts') : Rel B ts' φ tw (addT tr [b] k) := by
  obtain ⟨ws, rs, hm, _⟩ := h.mem
  have hφ := hr.fsome _ hm
  refine ⟨fun p hp => ?_, fun x hx => ?_, fun p hp j hj => ?_, fun p hp j hj => ?_, hr.old, fun x hx hB j hj => ?_, pairwise_map1 h.fsts hr.nd⟩
  · obtain ⟨q, h1, h2, h3, h4, _⟩ := h.inv p hp; rw [← h2, ← h3]; exact hr.fsome q h1
  · obtain ⟨p, hp, rfl⟩ := hr.fdom x hx
    have : p.1 ∈ ts'.map (·.1) := by rw [h.fsts]; exact List.mem_map.2 ⟨p, hp, rfl⟩
    obtain ⟨q, hq, he⟩ := List.mem_map.1 this
    exact ⟨q, hq, he⟩
  · obtain ⟨q, h1, h2, h3, h4, _⟩ := h.inv p hp; rw [← h4]; exact hr.ftw q h1 j (by rw [h2]; exact hj)
  · obtain ⟨q, h1, h2, h3, h4, h5⟩ := h.inv p hp
    rcases hj with hj | ⟨rfl, hj⟩
    · have := hr.ftr q h1 j (by rw [h2]; exact hj)
      rcases h5 with ⟨_, h5⟩ | rfl
      · rw [h5]; exact List.mem_cons_of_mem _ this
      · exact this
    · exact h.tag hr.nd p hp (by simpa using hj)
  · rcases hj with hj | ⟨_, hj⟩
    · exact hr.oldr x hx hB j hj
    · have : x = b := by simpa using hj
      subst this
      rw [hφ] at hx
      cases hx

theorem addT_nil (t : Tag) (k : Nat) : addT t [] k = t := by funext b j; simp [addT]
theorem addT_app (t : Tag) (u v : List Nat) (k : Nat) : addT t (u ++ v) k = addT (addT t u k) v k := by
  funext b j
  simp only [addT, List.mem_append, and_or_left, or_assoc]

theorem ReadAll.rel {bs : List Nat} {us : Fs} {ts' : Ts} (h : ReadAll C ops k bs ts us ts') : ∀ {φ : Facts} {tw tr : Tag}, C.cx.inv φ → Rel C.w0.heap.size ts φ tw tr → Rel C.w0.heap.size ts' φ tw (addT tr bs k) ∧
    (∀ b ∈ bs, (φ b ≠ none ∨ b < C.w0.heap.size) ∧ ∀ j, tw b j → Anc ops j k) ∧ (∀ w, C.cx.on φ bs w → ∀ p ∈ us, w.heap[p.1]? = some p.2) := by
  induction h with
  | nil => intro φ tw tr _ hr; rw [addT_nil]; exact ⟨hr, by simp, by simp⟩
  | own h hs ih =>
    rename_i b o bs ts ts1 ts2 us
    intro φ tw tr hinv hr
    have h1 := hr.read h
    obtain ⟨i1, i2, i3⟩ := ih hinv h1
    obtain ⟨ws, rs, hm, hb⟩ := h.mem
    have hs1 := hr.fsome _ hm
    refine ⟨by rw [show b :: bs = [b] ++ bs from rfl, addT_app]; exact i1, fun x hx => ?_, fun w hw p hp => ?_⟩
    · rcases List.mem_cons.1 hx with rfl | hx
      · exact ⟨.inl (by rw [hs1]; simp), fun j hj => ancB_spec hb j (hr.ftw _ hm j hj)⟩
      · exact i2 x hx
    · rcases List.mem_cons.1 hp with rfl | hp
      · exact hw.2 b List.mem_cons_self o hs1
      · exact i3 w ⟨hw.1, fun y hy => hw.2 y (List.mem_cons_of_mem _ hy)⟩ p hp
  | ext h hS hs ih =>
    rename_i b o bs ts ts2 us
    intro φ tw tr hinv hr
    have hlt : b < C.w0.heap.size := (Array.getElem?_eq_some_iff.1 h).1
    have hb : φ b = none := by
      cases hb : φ b with
      | none => rfl
      | some x =>
        rcases hinv b (by rw [hb]; simp) with h1 | h1
        · exact absurd hlt (by simp only [Cu.cx] at h1; omega)
        · exact absurd h1 hS
    have h1 : Rel C.w0.heap.size ts φ tw (addT tr [b] k) := by
      refine ⟨hr.fsome, hr.fdom, hr.ftw, fun p hp j hj => ?_, hr.old, fun x hx hB j hj => ?_, hr.nd⟩
      · rcases hj with hj | ⟨_, hj⟩
        · exact hr.ftr p hp j hj
        · have : p.1 = b := by simpa using hj
          have h2 := hr.fsome p hp
          rw [this, hb] at h2
          cases h2
      · rcases hj with hj | ⟨_, hj⟩
        · exact hr.oldr x hx hB j hj
        · have : x = b := by simpa using hj
          omega
    obtain ⟨i1, i2, i3⟩ := ih hinv h1
    refine ⟨by rw [show b :: bs = [b] ++ bs from rfl, addT_app]; exact i1, fun x hx => ?_, fun w hw p hp => ?_⟩
    · rcases List.mem_cons.1 hx with rfl | hx
      · exact ⟨.inr hlt, fun j hj => absurd hj (hr.old _ hb j)⟩
      · exact i2 x hx
    · rcases List.mem_cons.1 hp with rfl | hp
      · show w.heap[b]? = some o
        rw [hw.1.block b hlt hS]; exact h
      · exact i3 w ⟨hw.1, fun y hy => hw.2 y (List.mem_cons_of_mem _ hy)⟩ p hp

/-- An operation that looks at memory. -/
theorem DW.vr {v : Value} {bs : List Nat} {us : Fs} {ts' : Ts} (hk : ops[k]? = some ⟨some d, op, t, pos, af, g⟩) (hm : μ k = none) (hd : Nat.blt d C.N = true) (hg : WantT ops e g) (ht : ∀ ρ, Ev e ρ → touch ⟨some d, op, t, pos, af, g⟩ ρ = bs) (h : ValP C.P e us op v)
    (hr : ReadAll C ops k bs ts us ts') (kk : DW C ops μ Q tl rest (k + 1) ((d, v) :: e) ts') : DW C ops μ Q tl (⟨some d, op, t, pos, af, g⟩ :: rest) k e ts := by
  intro a φ tw tr ha hrel hinv
  have hw := WantT.wanted (o := ⟨some d, op, t, pos, af, g⟩) hg ha
  have htch : tch ops ⟨some d, op, t, pos, af, g⟩ a = bs := by rw [tch_want hw]; exact ht _ ha.Ev
  obtain ⟨i1, i2, i3⟩ := hr.rel hinv hrel
  unfold walk dOp
  simp only [hk]
  rw [htch]
  refine ⟨i2, .inl ⟨.val v, .inl ⟨hw, hm, fun w hw' => ?_⟩, by simp [Eff.wr], ?_⟩⟩
  · rw [ht _ ha.Ev] at hw'
    exact h _ w ha.Ev (i3 w hw') _ _ _ _ _
  · simp only [Eff.wr, addT_nil]
    exact kk _ _ _ _ (ha.put hd) i1 hinv

/-- A call that hands back v, and leaves all as it was. -/
theorem DW.cr {f : FuncId} {vs : Array Value} {v : Value} {bs : List Nat} {us : Fs} {ts' : Ts} (hk : ops[k]? = some ⟨some d, op, t, pos, af, g⟩) (hm : μ k = none) (hd : Nat.blt d C.N = true) (hg : WantT ops e g) (ht : ∀ ρ, Ev e ρ → touch ⟨some d, op, t, pos, af, g⟩ ρ = bs) (h : CallP C.P e op f vs)
    (hr : ReadAll C ops k bs ts us ts') (hc : ∀ w, Bel C.w0.heap.size C.S C.w0 w → (∀ p ∈ us, w.heap[p.1]? = some p.2) → Calls C.P f vs w (Ret w v)) (kk : DW C ops μ Q tl rest (k + 1) ((d, v) :: e) ts') : DW C ops μ Q tl (⟨some d, op, t, pos, af, g⟩ :: rest) k e ts := by
  intro a φ tw tr ha hrel hinv
  have hw := WantT.wanted (o := ⟨some d, op, t, pos, af, g⟩) hg ha
  have htch : tch ops ⟨some d, op, t, pos, af, g⟩ a = bs := by rw [tch_want hw]; exact ht _ ha.Ev
  obtain ⟨i1, i2, i3⟩ := hr.rel hinv hrel
  unfold walk dOp
  simp only [hk]
  rw [htch]
  refine ⟨i2, .inl ⟨.call f vs v, .inl ⟨hw, hm, fun w hw' => ?_⟩, by simp [Eff.wr], ?_⟩⟩
  · rw [ht _ ha.Ev] at hw'
    exact ⟨h _ w ha.Ev _ _ _ _ _, hc w hw'.1 (i3 w hw')⟩
  · simp only [Eff.wr, addT_nil]
    exact kk _ _ _ _ (ha.put hd) i1 hinv

/-- An operation that lays a new block. -/
theorem DW.new {s : Sh} {ob : Obj} (hk : ops[k]? = some ⟨some d, op, t, pos, af, g⟩) (hm : μ k = none) (hd : Nat.blt d C.N = true) (hg : WantT ops e g) (ht : noTouch op = true) (h : NewP C.P e op s ob) (kk : ∀ b, DW C ops μ Q tl rest (k + 1) ((d, s.val b) :: e) ((b, ob, [k], []) :: ts)) :
    DW C ops μ Q tl (⟨some d, op, t, pos, af, g⟩ :: rest) k e ts := by
  intro a φ tw tr ha hrel hinv
  have hw := WantT.wanted (o := ⟨some d, op, t, pos, af, g⟩) hg ha
  have htch : tch ops ⟨some d, op, t, pos, af, g⟩ a = [] := by rw [tch_want hw]; exact touch_none ht
  unfold walk dOp
  simp only [hk]
  rw [htch]
  refine ⟨by simp, .inr ⟨newM s ob, ⟨hw, .inl ⟨hm, s, ob, fun w _ => h _ w ha.Ev _ _ _ _ _, rfl⟩⟩, fun v gs hM hf _ => ?_⟩⟩
  obtain ⟨b, rfl, rfl⟩ := hM
  obtain ⟨hb, hn⟩ := hf.1 b (by simp [keys])
  simp only [keys, List.map_cons, List.map_nil, upds]
  rw [addT_nil]
  have hne : ∀ p ∈ ts, p.1 ≠ b := fun p hp e => by have := hrel.fsome p hp; rw [e, hn] at this; cases this
  refine kk b _ _ _ _ (ha.put hd) ⟨fun p hp => ?_, fun x hx => ?_, fun p hp j hj => ?_, fun p hp j hj => ?_, fun x hx j hj => ?_, fun x hx hB j hj => ?_, List.pairwise_cons.2 ⟨fun p hp e => hne p hp e.symm, hrel.nd⟩⟩ (inv_upd hinv (.inl hb) _)
  · rcases List.mem_cons.1 hp with rfl | hp
    · exact upd_same _ _ _
    · rw [upd_other _ _ (hne p hp)]; exact hrel.fsome p hp
  · by_cases hxb : x = b
    · subst hxb; exact ⟨_, List.mem_cons_self, rfl⟩
    · rw [upd_other _ _ hxb] at hx
      obtain ⟨p, hp, he⟩ := hrel.fdom x hx
      exact ⟨p, List.mem_cons_of_mem _ hp, he⟩
  · rcases List.mem_cons.1 hp with rfl | hp
    · rcases hj with hj | ⟨rfl, _⟩
      · exact absurd hj (hrel.old _ hn j)
      · exact List.mem_cons_self
    · rcases hj with hj | ⟨_, hj⟩
      · exact hrel.ftw p hp j hj
      · exact absurd (by simpa using hj) (hne p hp)
  · rcases List.mem_cons.1 hp with rfl | hp
    · exact absurd hj (hrel.oldr _ hn hb j)
    · exact hrel.ftr p hp j hj
  · have hxb : x ≠ b := fun e => by subst e; rw [upd_same] at hx; cases hx
    rw [upd_other _ _ hxb] at hx
    rcases hj with hj | ⟨_, hj⟩
    · exact hrel.old x hx j hj
    · exact hxb (by simpa using hj)
  · have hxb : x ≠ b := fun e => by subst e; rw [upd_same] at hx; cases hx
    rw [upd_other _ _ hxb] at hx
    exact hrel.oldr x hx hB j hj

/-- New facts. -/
def tsNew (k : Nat) (gs : Fs) : Ts := gs.map fun p => (p.1, p.2, [k], [])
/-- A call that hands back facts of new blocks. -/
theorem DW.many {f : FuncId} {vs : Array Value} {M : Rel1} {bs : List Nat} {us : Fs} {ts' : Ts} (hk : ops[k]? = some ⟨some d, op, t, pos, af, g⟩) (hm : μ k = some M) (hd : Nat.blt d C.N = true) (hg : WantT ops e g) (ht : ∀ ρ, Ev e ρ → touch ⟨some d, op, t, pos, af, g⟩ ρ = bs) (h : CallP C.P e op f vs)
    (hr : ReadAll C ops k bs ts us ts') (hc : ∀ w, Bel C.w0.heap.size C.S C.w0 w → (∀ p ∈ us, w.heap[p.1]? = some p.2) → Calls C.P f vs w (RetG w [] M)) (kk : ∀ v gs, M v gs → DW C ops μ Q tl rest (k + 1) ((d, v) :: e) (tsNew k gs ++ ts')) : DW C ops μ Q tl (⟨some d, op, t, pos, af, g⟩ :: rest) k e ts := by
  intro a φ tw tr ha hrel0 hinv
  have hw := WantT.wanted (o := ⟨some d, op, t, pos, af, g⟩) hg ha
  have htch : tch ops ⟨some d, op, t, pos, af, g⟩ a = bs := by rw [tch_want hw]; exact ht _ ha.Ev
  obtain ⟨hrel, i2, i3⟩ := hr.rel hinv hrel0
  unfold walk dOp
  simp only [hk]
  rw [htch]
  refine ⟨i2, .inr ⟨M, ⟨hw, .inr ⟨hm, fun w hw' => ?_⟩⟩, fun v gs hM hf _ => ?_⟩⟩
  · rw [ht _ ha.Ev] at hw'
    exact ⟨f, vs, h _ w ha.Ev _ _ _ _ _, hc w hw'.1 (i3 w hw')⟩
  have hkey : ∀ p ∈ ts', p.1 ∉ keys gs := fun p hp hk' => by have := hrel.fsome p hp; rw [(hf.1 _ hk').2] at this; cases this
  have hin : ∀ p ∈ tsNew k gs, p.1 ∈ keys gs ∧ (p.1, p.2.1) ∈ gs ∧ p.2.2 = ([k], []) := fun p hp => by
    obtain ⟨q, hq, rfl⟩ := List.mem_map.1 hp
    exact ⟨List.mem_map.2 ⟨q, hq, rfl⟩, hq, rfl⟩
  have hup : ∀ q ∈ gs, upds φ gs q.1 = some q.2 := by
    have : ∀ l : Fs, (l.Pairwise fun p q => p.1 ≠ q.1) → ∀ q ∈ l, upds φ l q.1 = some q.2 := by
      intro l
      induction l with
      | nil => intro _ q hq; cases hq
      | cons x l ih =>
        intro hn q hq
        obtain ⟨n1, n2⟩ := List.pairwise_cons.1 hn
        simp only [upds]
        rcases List.mem_cons.1 hq with rfl | hq
        · exact upd_same _ _ _
        · rw [upd_other _ _ (fun e => n1 q hq e.symm)]; exact ih n2 q hq
    exact this gs hf.2
  refine kk v gs hM _ _ _ _ (ha.put hd) ⟨fun p hp => ?_, fun x hx => ?_, fun p hp j hj => ?_, fun p hp j hj => ?_, fun x hx j hj => ?_, fun x hx hB j hj => ?_, ?_⟩ (inv_upds hinv (fun b hb => (hf.1 b hb).1))
  · rcases List.mem_append.1 hp with hp | hp
    · exact hup _ (hin p hp).2.1
    · rw [upds_other (hkey p hp)]; exact hrel.fsome p hp
  · by_cases hxk : x ∈ keys gs
    · obtain ⟨q, hq, rfl⟩ := List.mem_map.1 hxk
      exact ⟨_, List.mem_append_left _ (List.mem_map.2 ⟨q, hq, rfl⟩), rfl⟩
    · rw [upds_other hxk] at hx
      obtain ⟨p, hp, he⟩ := hrel.fdom x hx
      exact ⟨p, List.mem_append_right _ hp, he⟩
  · rcases List.mem_append.1 hp with hp | hp
    · rw [(hin p hp).2.2]
      rcases hj with hj | ⟨rfl, _⟩
      · exact absurd hj (hrel.old _ (hf.1 _ (hin p hp).1).2 j)
      · exact List.mem_cons_self
    · rcases hj with hj | ⟨_, hj⟩
      · exact hrel.ftw p hp j hj
      · exact absurd hj (hkey p hp)
  · rcases List.mem_append.1 hp with hp | hp
    · obtain ⟨h1, h2⟩ := hf.1 _ (hin p hp).1
      exact absurd hj (hrel.oldr _ h2 h1 j)
    · exact hrel.ftr p hp j hj
  · have hxk : x ∉ keys gs := fun h => upds_key h hx
    rw [upds_other hxk] at hx
    rcases hj with hj | ⟨_, hj⟩
    · exact hrel.old x hx j hj
    · exact hxk hj
  · have hxk : x ∉ keys gs := fun h => upds_key h hx
    rw [upds_other hxk] at hx
    exact hrel.oldr x hx hB j hj
  · refine List.pairwise_append.2 ⟨?_, hrel.nd, fun p hp q hq e => hkey q hq (by rw [← e]; exact (hin p hp).1)⟩
    simp only [tsNew, List.pairwise_map]; exact hf.2

/-- A store into a block of ours. -/
theorem DW.set {b : Nat} {o o' : Obj} {ts' : Ts} (hk : ops[k]? = some ⟨none, op, t, pos, af, g⟩) (hm : μ k = none) (hg : WantT ops e g) (ht : ∀ ρ, Ev e ρ → touch ⟨none, op, t, pos, af, g⟩ ρ = [b] ∧ stBlk ⟨none, op, t, pos, af, g⟩ ρ = some b) (hs : TSet ops k o' ts b o ts') (h : SetP C.P e op b o o')
    (kk : DW C ops μ Q tl rest (k + 1) e ts') : DW C ops μ Q tl (⟨none, op, t, pos, af, g⟩ :: rest) k e ts := by
  have hmu := hm
  intro a φ tw tr ha hr hinv
  have hw := WantT.wanted (o := ⟨none, op, t, pos, af, g⟩) hg ha
  have htch : tch ops ⟨none, op, t, pos, af, g⟩ a = [b] := by rw [tch_want hw]; exact (ht _ ha.Ev).1
  obtain ⟨ws, rs, hm, hb1, hb2⟩ := hs.mem
  have hφ := hr.fsome _ hm
  have hne : φ b ≠ none := by rw [hφ]; simp
  unfold walk dOp
  simp only [hk]
  rw [htch]
  refine ⟨fun x hx => ?_, .inl ⟨.set b o', .inl ⟨hw, hmu, (ht _ ha.Ev).2, hne, fun w hw' => ?_⟩, fun x hx j hj => ?_, ?_⟩⟩
  · have : x = b := by simpa using hx
    subst this
    exact ⟨.inl hne, fun j hj => ancB_spec hb1 j (hr.ftw _ hm j hj)⟩
  · rw [(ht _ ha.Ev).1] at hw'
    exact h _ w ha.Ev (hw'.2 b (by simp) o hφ) _ _ _ _ _
  · have : x = b := by simpa [Eff.wr] using hx
    subst this
    exact ancB_spec hb2 j (hr.ftr _ hm j hj)
  · refine kk _ _ _ _ ha.putNone ⟨fun p hp => ?_, fun x hx => ?_, fun p hp j hj => ?_, fun p hp j hj => ?_, fun x hx j hj => ?_, fun x hx hB j hj => ?_, pairwise_map1 hs.fsts hr.nd⟩ (inv_upd hinv (hinv b hne) _)
    · rcases hs.inv hr.nd p hp with ⟨e1, e2, _⟩ | ⟨e1, e2⟩
      · rw [e1, e2]; exact upd_same _ _ _
      · exact (upd_other _ _ e2).trans (hr.fsome p e1)
    · have hx' : φ x ≠ none := by
        by_cases hxb : x = b
        · subst hxb; exact hne
        · intro h0; exact hx ((upd_other _ _ hxb).trans h0)
      obtain ⟨p, hp, rfl⟩ := hr.fdom x hx'
      have : p.1 ∈ ts'.map (·.1) := by rw [hs.fsts]; exact List.mem_map.2 ⟨p, hp, rfl⟩
      obtain ⟨q, hq, he⟩ := List.mem_map.1 this
      exact ⟨q, hq, he⟩
    · rcases hs.inv hr.nd p hp with ⟨e1, e2, q, hq, e3, e4, e5⟩ | ⟨e1, e2⟩
      · rcases hj with hj | ⟨rfl, _⟩
        · rw [e4]; exact List.mem_cons_of_mem _ (hr.ftw q hq j (by rw [e3, ← e1]; exact hj))
        · rw [e4]; exact List.mem_cons_self
      · rcases hj with hj | ⟨_, hj⟩
        · exact hr.ftw p e1 j hj
        · exact absurd (by simpa [Eff.wr] using hj) e2
    · rcases hs.inv hr.nd p hp with ⟨e1, e2, q, hq, e3, e4, e5⟩ | ⟨e1, e2⟩
      · rcases hj with hj | ⟨rfl, _⟩
        · rw [e5]; exact List.mem_cons_of_mem _ (hr.ftr q hq j (by rw [e3, ← e1]; exact hj))
        · rw [e5]; exact List.mem_cons_self
      · rcases hj with hj | ⟨_, hj⟩
        · exact hr.ftr p e1 j hj
        · exact absurd (by simpa using hj) e2
    · have hxb : x ≠ b := fun e => by
        subst e
        have : Eff.phi (.set x o') φ x = none := hx
        simp [Eff.phi, upd] at this
      have hx' : φ x = none := (upd_other φ o' hxb).symm.trans hx
      rcases hj with hj | ⟨_, hj⟩
      · exact hr.old x hx' j hj
      · exact hxb (by simpa [Eff.wr] using hj)
    · have hxb : x ≠ b := fun e => by
        subst e
        have : Eff.phi (.set x o') φ x = none := hx
        simp [Eff.phi, upd] at this
      have hx' : φ x = none := (upd_other φ o' hxb).symm.trans hx
      rcases hj with hj | ⟨_, hj⟩
      · exact hr.oldr x hx' hB j hj
      · exact hxb (by simpa using hj)

theorem ancB_nil {i : Nat} : ancB ops i [] = true := rfl
theorem blocks_ptr {b off : Nat} {s : Option Nat} : blocksN 4 (.pointer (some ⟨b, off, s⟩)) = [b] := rfl

theorem DW.loadO {T : TypeId} {x : Operand} {b off : Nat} {o : Obj} {v : Value} {ts' : Ts} (hk : ops[k]? = some ⟨some d, .load T x, t, pos, af, g⟩) (hm : μ k = none) (hd : Nat.blt d C.N = true) (hg : WantT ops e g) (hx : e.ev x = some (.pointer (some ⟨b, off, none⟩)))
    (hr : TRead ops k ts b o ts') (h : Rd C.P T o off v) (kk : DW C ops μ Q tl rest (k + 1) ((d, v) :: e) ts') : DW C ops μ Q tl (⟨some d, .load T x, t, pos, af, g⟩ :: rest) k e ts :=
  DW.vr hk hm hd hg (bs := [b]) (fun ρ hρ => by simp only [touch, hρ _ _ hx, blocks_ptr]) (.load hx h) (.own hr .nil) kk
theorem DW.loadX {T : TypeId} {x : Operand} {b off : Nat} {o : Obj} {v : Value} (hk : ops[k]? = some ⟨some d, .load T x, t, pos, af, g⟩) (hm : μ k = none) (hd : Nat.blt d C.N = true) (hg : WantT ops e g) (hx : e.ev x = some (.pointer (some ⟨b, off, none⟩)))
    (hr : C.w0.heap[b]? = some o) (hS : b ∉ C.S) (h : Rd C.P T o off v) (kk : DW C ops μ Q tl rest (k + 1) ((d, v) :: e) ts) : DW C ops μ Q tl (⟨some d, .load T x, t, pos, af, g⟩ :: rest) k e ts :=
  DW.vr hk hm hd hg (bs := [b]) (fun ρ hρ => by simp only [touch, hρ _ _ hx, blocks_ptr]) (.load hx h) (.ext hr hS .nil) kk
theorem DW.store {T : TypeId} {x y : Operand} {b off : Nat} {o o' : Obj} {v : Value} {ts' : Ts} (hk : ops[k]? = some ⟨none, .store T x y, t, pos, af, g⟩) (hm : μ k = none) (hg : WantT ops e g) (hx : e.ev x = some (.pointer (some ⟨b, off, none⟩))) (hy : e.ev y = some v)
    (hs : TSet ops k o' ts b o ts') (h : Wr C.P T o off v o') (kk : DW C ops μ Q tl rest (k + 1) e ts') : DW C ops μ Q tl (⟨none, .store T x y, t, pos, af, g⟩ :: rest) k e ts :=
  DW.set hk hm hg (fun ρ hρ => ⟨by simp only [touch, hρ _ _ hx, blocks_ptr], by simp only [stBlk, hρ _ _ hx]⟩) hs (.store hx hy h) kk
theorem DW.allocA {T : TypeId} {n : Nat} {c : Array Value} [InfoI C.P T n (.agg c)] (hk : ops[k]? = some ⟨some d, .alloc T, t, pos, af, g⟩) (hm : μ k = none) (hd : Nat.blt d C.N = true) (hg : WantT ops e g)
    (kk : ∀ b, DW C ops μ Q tl rest (k + 1) ((d, .pointer (some ⟨b, 0, none⟩)) :: e) ((b, .cells c T (0, 0), [k], []) :: ts)) : DW C ops μ Q tl (⟨some d, .alloc T, t, pos, af, g⟩ :: rest) k e ts := DW.new (s := .ptr) hk hm hd hg rfl .alloc kk
theorem DW.alloc1 {T : TypeId} {n : Nat} {z : Value} [InfoI C.P T n z] (hk : ops[k]? = some ⟨some d, .alloc T, t, pos, af, g⟩) (hm : μ k = none) (hd : Nat.blt d C.N = true) (hg : WantT ops e g) (hz : z.cells = #[z])
    (kk : ∀ b, DW C ops μ Q tl rest (k + 1) ((d, .pointer (some ⟨b, 0, none⟩)) :: e) ((b, .cells #[z] T (0, 0), [k], []) :: ts)) : DW C ops μ Q tl (⟨some d, .alloc T, t, pos, af, g⟩ :: rest) k e ts := by rw [← hz] at kk; exact DW.new (s := .ptr) hk hm hd hg rfl .alloc kk
theorem DW.boxA {T : TypeId} {x : Operand} {c : Array Value} (hk : ops[k]? = some ⟨some d, .box T x, t, pos, af, g⟩) (hm : μ k = none) (hd : Nat.blt d C.N = true) (hg : WantT ops e g) (hx : e.ev x = some (.agg c))
    (kk : ∀ b, DW C ops μ Q tl rest (k + 1) ((d, .pointer (some ⟨b, 0, none⟩)) :: e) ((b, .cells c T (0, 0), [k], []) :: ts)) : DW C ops μ Q tl (⟨some d, .box T x, t, pos, af, g⟩ :: rest) k e ts := DW.new (s := .ptr) hk hm hd hg rfl (.box hx) kk
theorem DW.box1 {T : TypeId} {x : Operand} {v : Value} (hk : ops[k]? = some ⟨some d, .box T x, t, pos, af, g⟩) (hm : μ k = none) (hd : Nat.blt d C.N = true) (hg : WantT ops e g) (hx : e.ev x = some v) (hv : v.cells = #[v])
    (kk : ∀ b, DW C ops μ Q tl rest (k + 1) ((d, .pointer (some ⟨b, 0, none⟩)) :: e) ((b, .cells #[v] T (0, 0), [k], []) :: ts)) : DW C ops μ Q tl (⟨some d, .box T x, t, pos, af, g⟩ :: rest) k e ts := by rw [← hv] at kk; exact DW.new (s := .ptr) hk hm hd hg rfl (.box hx) kk

theorem touch_call {fo : Operand} {args : Array Operand} {tys : Array TypeId} {vf : Value} {vs : List Value} {ρ : Operand → Value} {dd : Option Nat} (hf : e.ev fo = some vf) (ha : ArgsOk e args.toList vs) (hρ : Ev e ρ) :
    touch ⟨dd, .call { callee := .value fo, args := args, argTypes := tys }, t, pos, af, g⟩ ρ = (vf :: vs).flatMap (blocksN 4) := by
  have key : args.toList.flatMap (fun x => blocksN 4 (ρ x)) = vs.flatMap (blocksN 4) := by
    rw [← ha.map hρ, List.flatMap_map]
  show ((#[fo] ++ args).toList.flatMap fun x => blocksN 4 (ρ x)) = _
  simp only [Array.toList_append, List.flatMap_append, key, List.flatMap_cons]
  simp [hρ fo vf hf]

/-- A call that hands back v, and leaves all as it was (any order). -/
theorem DW.call {fo : Operand} {args : Array Operand} {tys : Array TypeId} {f : FuncId} {first cap : Array Value} {vs : List Value} {v : Value} {bs : List Nat} {us : Fs} {ts' : Ts} (hk : ops[k]? = some ⟨some d, .call { callee := .value fo, args := args, argTypes := tys }, t, pos, af, g⟩) (hm : μ k = none)
    (hd : Nat.blt d C.N = true) (hg : WantT ops e g) (hf : e.ev fo = some (.func (.func f) first cap)) (hF : FnI C.P f) (ha : ArgsOk e args.toList vs) (hb : (Value.func (.func f) first cap :: vs).flatMap (blocksN 4) = bs) (hr : ReadAll C ops k bs ts us ts')
    (hc : ∀ w, Bel C.w0.heap.size C.S C.w0 w → (∀ p ∈ us, w.heap[p.1]? = some p.2) → Calls C.P f (first ++ vs.toArray ++ cap) w (Ret w v)) (kk : DW C ops μ Q tl rest (k + 1) ((d, v) :: e) ts') :
    DW C ops μ Q tl (⟨some d, .call { callee := .value fo, args := args, argTypes := tys }, t, pos, af, g⟩ :: rest) k e ts :=
  DW.cr hk hm hd hg (fun ρ hρ => by rw [touch_call hf ha hρ, hb]) (.fn hf ha) hr hc kk
end dw
theorem Known.own {C : Cu} {fs : Fs} {p : Nat × Obj} (h : p ∈ fs) : Known C fs p := .inl h
theorem Known.ext {C : Cu} {fs : Fs} {b : Nat} {o : Obj} (h : C.w0.heap[b]? = some o) (h' : b ∉ C.S) : Known C fs (b, o) := .inr ⟨h, h'⟩
end Go.Proofs.Ytahoghldnijnbaa.SL
