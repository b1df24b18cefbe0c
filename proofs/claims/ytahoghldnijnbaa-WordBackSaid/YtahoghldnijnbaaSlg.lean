/-
  A SMALL LOGIC OVER THE KIT's WALK, PART G: a function's body walked where it is called; a range over a function; rounds; marks.
  Conditions: none; over any program.
-/
import Derived.Test.YtahoghldnijnbaaSlf
namespace Go.Proofs.Ytahoghldnijnbaa.SL
open Go Go.RowKit

/-! ### Marks among the deferred calls -/
abbrev markD (r : Nat) : Deferred := { target := .collected r, args := #[] }
inductive Shut : List Deferred → Fs → Fs → Prop
  | nil {fs : Fs} : Shut [] fs fs
  | cons {r : Nat} {ds : List Deferred} {fs fs1 fs2 : Fs} (h : SetAt fs r (.deferred (some [])) (.deferred none) fs1) (hs : Shut ds fs1 fs2) : Shut (markD r :: ds) fs fs2

theorem leaves_shut {P : Program} {w0 : World} {S : List Nat} {fn : Func} {tmps : Array Value} {R : Ending → World → Prop} {ds : List Deferred} {fs fs' : Fs} (h : Shut ds fs fs') : ∀ w, St w0 S fs w →
    (∀ w', St w0 S fs' w' → ∃ v, (results fn tmps).run P w' = .ok v w' ∧ R (.returned v) w') → LeavesInM (FR none) 0 P fn tmps R ds .returning w := by
  induction h with
  | nil => intro w hw hR; exact hR w hw
  | cons h _ ih =>
    intro w hw hR
    refine ⟨(fun h => by cases h), .inl ⟨_, _, rfl, run_takeDeferred (hw.own _ h.mem).2, ?_⟩⟩
    exact ih _ (hw.set h) hR

theorem ResL.runS {C : Cu} {e : Env} {fs : Fs} {fn : Func} {vs : List Value} (h : ResL C e fs fn.results.toList vs) {ds : List Deferred} {a : Act} {w : World} (ha : EnvOk C.N ds e a) (hs : St C.w0 C.S fs w) : (results fn a.tmps).run C.P w = .ok (tup vs) w :=
  ResL.run (C := C.at ds) (by
    have key : ∀ l vs, ResL C e fs l vs → ResL (C.at ds) e fs l vs := by
      intro l vs h
      induction h with
      | nil => exact .nil
      | cons h _ ih =>
        refine .cons ?_ ih
        cases h with
        | tmp h => exact .tmp h
        | cell h hk hr => exact .cell h hk hr
    exact key _ _ h) ⟨ha, hs⟩

theorem finRM {C : Cu} {fn : Func} {e : Env} {fs fs' : Fs} {x : Exit} {ds : List Deferred} {rs : List ResultVar} {vs : List Value} {v : Value} (hx : x = .ret ∨ x = .normal) (hsh : Shut ds fs fs') (hr : fn.results.toList = rs) (hS : C.S = []) (h : ResL C e fs' rs vs) (hv : tup vs = v) :
    finQ C fn (Ret C.w0 v) x ds e fs := by
  refine ⟨hx, fun a w hs => ?_⟩
  rw [show a.defers = ds from hs.env.dfr]
  refine leaves_shut hsh w hs.st fun w' hw' => ⟨tup vs, ResL.runS (by rw [hr]; exact h) hs.env hw', by rw [hv], ?_⟩
  have this : Bel C.w0.heap.size C.S C.w0 w' := hw'.bel
  rw [hS] at this
  exact this
theorem finM {C : Cu} {fn : Func} {e : Env} {fs fs' : Fs} {x : Exit} {ds : List Deferred} {rs : List ResultVar} {vs : List Value} (gs : Fs) {Φ : Value → Fs → Prop} (hx : x = .ret ∨ x = .normal) (hsh : Shut ds fs fs') (hr : fn.results.toList = rs) (h : ResL C e fs' rs vs) (hg : List.Sublist gs fs') (hΦ : Φ (tup vs) gs) :
    finQ C fn (RetG C.w0 C.S Φ) x ds e fs := by
  refine ⟨hx, fun a w hs => ?_⟩
  rw [show a.defers = ds from hs.env.dfr]
  exact leaves_shut hsh w hs.st fun w' hw' => ⟨tup vs, ResL.runS (by rw [hr]; exact h) hs.env hw', tup vs, gs, rfl, hΦ, hw'.bel, fun p hp => hw'.own p (hg.subset hp), hw'.nd.sublist hg⟩

/-! ### A function's body walked where it is called -/
/-- The end of such a body: its results are read; the walk goes on at K. -/
def inQ (C : Cu) (fn : Func) (K : Value → Fs → Prop) : Post := fun x ds e fs =>
  (x = .ret ∨ x = .normal) ∧ ∃ vs fs', Shut ds fs fs' ∧ ResL C e fs' fn.results.toList vs ∧ K (tup vs) fs'

theorem calls_inline {P : Program} {w0 : World} {S : List Nat} {f : FuncId} {fn : Func} {c : Code} {args : List Value} {N : Nat} {K : Value → Fs → Prop} {fs : Fs} {w : World} (hf : P.funcs[f]? = some fn) (hb : fn.body = some c) (hN : fn.ntmps = N) (hsz : Nat.ble args.length N = true)
    (h : CW ⟨P, w0, S, N, [], none⟩ c (inQ ⟨P, w0, S, N, [], none⟩ fn K) (Env.ofL args 0) fs) (hw : St w0 S fs w) :
    Calls P f args.toArray w (fun x w' => ∃ v fs', x = .returned v ∧ K v fs' ∧ St w0 S fs' w') := by
  have hs : Sat ⟨P, w0, S, N, [], none⟩ (Env.ofL args 0) fs { tmps := args.toArray ++ Array.replicate (fn.ntmps - args.toArray.size) undef, defers := [] } w := by
    refine ⟨⟨by have := Nat.le_of_ble_eq_true hsz; simp [hN]; omega, rfl, fun t v ht => ?_⟩, hw⟩
    obtain ⟨_, h2⟩ := Env.ofL_get _ _ _ _ ht
    have h3 : args[t]? = some v := by simpa using h2
    have hlt : t < args.length := (List.getElem?_eq_some_iff.1 h3).1
    show (args.toArray ++ Array.replicate (fn.ntmps - args.toArray.size) undef)[t]? = some v
    rw [Array.getElem?_append_left (by simpa using hlt)]
    simpa using h3
  refine (callsIn_wide (n := 0)).1 (callsIn_of_wp_marks (F := FR none) hf hb trivial ?_)
  refine Code.wpIn_mono (fun x a w' h' => ?_) (h _ w hs)
  obtain ⟨ds, e, fs1, ⟨hx, vs, fs', hsh, hr, hK⟩, s⟩ := h'
  have key : LeavesInM (FR none) 0 P fn a.tmps (fun x w' => ∃ v fs', x = .returned v ∧ K v fs' ∧ St w0 S fs' w') a.defers .returning w' := by
    rw [show a.defers = ds from s.env.dfr]
    exact leaves_shut hsh w' s.st fun w2 hw2 => ⟨tup vs, ResL.runS hr s.env hw2, tup vs, fs', rfl, hK, hw2⟩
  rcases hx with rfl | rfl
  · exact key
  · exact key

section inl
variable {C : Cu} {ops : Array Oper} {Q : Post} {rest : List Oper} {e : Env} {fs : Fs} {d : Nat} {t : TypeId} {pos : String} {af : Array Edge}
/-- A call, walked through. -/
theorem LW.inline {fo : Operand} {args : Array Operand} {tys : Array TypeId} {f : FuncId} {fn : Func} {c : Code} {N : Nat} {first cap : Array Value} {vs as : List Value} (hd : Nat.blt d C.N = true) (hfo : e.ev fo = some (.func (.func f) first cap)) (hF : FnI C.P f) (ha : ArgsOk e args.toList vs)
    (has : first.toList ++ vs ++ cap.toList = as) (hf : C.P.funcs[f]? = some fn) (hb : fn.body = some c) (hN : fn.ntmps = N) (hsz : Nat.ble as.length N = true)
    (h : CW ⟨C.P, C.w0, C.S, N, [], none⟩ c (inQ ⟨C.P, C.w0, C.S, N, [], none⟩ fn (fun v fs' => LW C ops Q rest ((d, v) :: e) fs')) (Env.ofL as 0) fs) :
    LW C ops Q (⟨some d, .call { callee := .value fo, args := args, argTypes := tys }, t, pos, af, none⟩ :: rest) e fs := fun a w hs => by
  refine wpListIn_take (wanted_none _ rfl _) ⟨fun _ _ => trivial, ?_⟩
  have hrun := CallP.fn (P := C.P) (tys := tys) hfo ha a.eval w hs.env.Ev (some d) t pos af none
  rw [semAt_FR (fun c h => by cases h), hrun]
  have e1 : first ++ vs.toArray ++ cap = as.toArray := by rw [← has]; apply Array.toList_inj.1; simp
  refine ⟨fun h => (by cases h), CallsIn.mono (calls_FR (e1 ▸ calls_inline hf hb hN hsz h hs.st)) fun x w' hx => ?_⟩
  obtain ⟨v, fs', rfl, hK, hw'⟩ := hx
  exact hK _ _ ⟨hs.env.put hd, hw'⟩
end inl

/-! ### A range over a function -/
/-- The loop's record, as the rounds need it. -/
structure RecOk (N : Nat) (e : Env) (rec : Loop) (ps : Array Tmp) (assign body : Code) : Prop where
  size : rec.tmps.size = N
  get : ∀ t v, e.get t = some v → rec.tmps[t]? = some v
  ps : rec.params = ps
  asg : rec.assign = assign
  bod : rec.body = body

abbrev rdy (rec : Loop) : Obj := .loop { rec with state := .ready, pending := none }
abbrev bsy (rec : Loop) : Obj := .loop { rec with state := .busy, pending := none }
abbrev dne (rec : Loop) (c : Code) : Obj := .loop { rec with state := .done, pending := some c }
abbrev exh (rec : Loop) (c : Option Code) : Obj := .loop { rec with state := .exhausted, pending := c }

def jumpQ (Q : Post) (ds : List Deferred) (e : Env) (fs : Fs) : Option Code → Prop
  | none => Q .normal ds e fs
  | some .ret => Q .ret ds e fs
  | some (.exit id) => Q (.exit id) ds e fs
  | _ => False

/-- The end of the function that is ranged over. -/
def rangeQ (C : Cu) (l r : Nat) (rec : Loop) (Q : Post) (e : Env) : Post := fun x ds _ fs =>
  (x = .ret ∨ x = .normal) ∧ ∃ fs1, Shut ds fs fs1 ∧ ((∃ fs', SetAt fs1 l (rdy rec) (exh rec none) fs' ∧ Q .normal (markD r :: C.ds) e fs') ∨
    (∃ c fs', SetAt fs1 l (dne rec c) (exh rec (some c)) fs' ∧ jumpQ Q (markD r :: C.ds) e fs' (some c)))

theorem results_none' {P : Program} {fn : Func} {tmps : Array Value} {w : World} (h : fn.results = #[]) : ∃ v, (results fn tmps).run P w = .ok v w := by
  refine ⟨tup [], ?_⟩
  rw [results_eq, h]
  simp [tup]

theorem CW.rangeFunc {C : Cu} {g : Operand} {ps : Array Tmp} {assign body : Code} {Q : Post} {e : Env} {fs : Fs} {gf : FuncId} {fn : Func} {c : Code} {N : Nat} {cap : Array Value} {as : List Value} (hr : C.r = none)
    (hg : e.ev g = some (.func (.func gf) #[] cap)) (hF : FnI C.P gf) (has : cap.toList = as) (hf : C.P.funcs[gf]? = some fn) (hb : fn.body = some c) (hN : fn.ntmps = N) (hsz : Nat.ble (as.length + 1) N = true) (hres : fn.results = #[])
    (h : ∀ l r rec, RecOk C.N e rec ps assign body → CW ⟨C.P, C.w0, C.S, N, [], none⟩ c (rangeQ C l r rec Q e) (Env.ofL (.func (.yield l) #[] #[] :: as) 0) ((l, rdy rec) :: (r, .deferred (some [])) :: fs)) :
    CW C (.rangeFunc g ps assign body) Q e fs := fun a w hs => by
  have hg' := hs.env.ev hg
  refine wpIn_rangeFunc fun fid _ => ?_
  have hro : (FR C.r).round = none := hr
  have hent := run_enterLoop_outer (P := C.P) (w := w) fid a.tmps ps assign body
  rw [← hro] at hent
  let rec0 : Loop := { state := .ready, pending := none, fn := fid, tmps := a.tmps, params := ps, assign := assign, body := body, defers := w.heap.size }
  have hst : St C.w0 C.S ((w.heap.size + 1, rdy rec0) :: (w.heap.size, .deferred (some [])) :: fs) ((w.alloc (.deferred (some []))).alloc (.loop rec0)) := by
    have h1 := hs.alloc (.deferred (some []))
    have h2 := Sat.alloc (C := C) (e := e) (a := a) ⟨hs.env, h1⟩ (.loop rec0)
    rw [World.size_alloc] at h2
    exact h2
  refine ⟨_, _, _, { target := .fn (.func gf) cap, args := #[.func (.yield (w.heap.size + 1)) #[] #[]] }, (w.alloc (.deferred (some []))).alloc (.loop rec0), gf, (Value.func (.yield (w.heap.size + 1)) #[] #[] :: as).toArray, (w.alloc (.deferred (some []))).alloc (.loop rec0), hent, ?_, fun _ _ => trivial, ?_, fun h => (by cases h), ?_⟩
  · have e1 : (#[Operand.const (.func (.yield (w.heap.size + 1)) #[] #[])] : Array Operand).map a.eval = #[.func (.yield (w.heap.size + 1)) #[] #[]] := by simp [Act.eval]
    unfold resolve
    simp only [e1, hg', Deferred.ofValue]
    simp; rfl
  · have := hF.run (#[.func (.yield (w.heap.size + 1)) #[] #[]] ++ cap) ((w.alloc (.deferred (some []))).alloc (.loop rec0))
    have e1 : #[Value.func (.yield (w.heap.size + 1)) #[] #[]] ++ cap = (Value.func (.yield (w.heap.size + 1)) #[] #[] :: as).toArray := by rw [← has]; apply Array.toList_inj.1; simp
    rw [e1] at this
    simp only [invoke, e1]
    exact this
  · have hbody := h (w.heap.size + 1) w.heap.size rec0 ⟨hs.env.size, hs.env.get, rfl, rfl, rfl⟩
    refine callsIn_of_wp_marks (F := FR C.r) hf hb trivial ?_ hro
    have hsat : Sat ⟨C.P, C.w0, C.S, N, [], none⟩ (Env.ofL (Value.func (.yield (w.heap.size + 1)) #[] #[] :: as) 0) ((w.heap.size + 1, rdy rec0) :: (w.heap.size, .deferred (some [])) :: fs)
        { tmps := (Value.func (.yield (w.heap.size + 1)) #[] #[] :: as).toArray ++ Array.replicate (fn.ntmps - (Value.func (.yield (w.heap.size + 1)) #[] #[] :: as).toArray.size) undef, defers := [] } ((w.alloc (.deferred (some []))).alloc (.loop rec0)) := by
      refine ⟨⟨by have := Nat.le_of_ble_eq_true hsz; simp [hN]; omega, rfl, fun t v ht => ?_⟩, hst⟩
      obtain ⟨_, h2⟩ := Env.ofL_get _ _ _ _ ht
      have h3 : (Value.func (.yield (w.heap.size + 1)) #[] #[] :: as)[t]? = some v := by simpa using h2
      have hlt : t < (Value.func (.yield (w.heap.size + 1)) #[] #[] :: as).length := (List.getElem?_eq_some_iff.1 h3).1
      show ((Value.func (.yield (w.heap.size + 1)) #[] #[] :: as).toArray ++ Array.replicate (fn.ntmps - (Value.func (.yield (w.heap.size + 1)) #[] #[] :: as).toArray.size) undef)[t]? = some v
      rw [Array.getElem?_append_left (by simpa using hlt)]
      simpa using h3
    have hcr : FR C.r = FR none := by rw [hr]
    rw [hcr]
    refine Code.wpIn_mono (fun x a1 w1 h' => ?_) (hbody _ _ hsat)
    obtain ⟨ds1, e1, fs1, ⟨hx, fs2, hsh, hq⟩, s1⟩ := h'
    have key : LeavesInM (FR none) (0 - 1) C.P fn a1.tmps (rangePost (FR none) 0 C.P (w.heap.size + 1) (down C Q) { a with defers := [{ target := .collected w.heap.size, args := #[] }] ++ a.defers }) a1.defers .returning w1 := by
      rw [show a1.defers = ds1 from s1.env.dfr]
      refine leaves_shut hsh w1 s1.st fun w2 hw2 => ?_
      obtain ⟨v, hv⟩ := results_none' (P := C.P) (tmps := a1.tmps) (w := w2) hres
      refine ⟨v, hv, ?_⟩
      have henv : EnvOk C.N (markD w.heap.size :: C.ds) e { a with defers := [{ target := .collected w.heap.size, args := #[] }] ++ a.defers } := ⟨hs.env.size, by rw [← hs.env.dfr]; rfl, hs.env.get⟩
      rcases hq with ⟨fs3, hset, hQ⟩ | ⟨c, fs3, hset, hQ⟩
      · exact ⟨none, _, run_endLoop (hw2.own _ hset.mem).2 (fun h => by cases h), _, e, fs3, hQ, henv, hw2.set hset⟩
      · refine ⟨some c, _, run_endLoop (hw2.own _ hset.mem).2 (fun h => by cases h), ?_⟩
        have hw3 := hw2.set hset
        cases c with
        | ret => exact wpIn_ret ⟨_, e, fs3, hQ, henv, hw3⟩
        | exit id => exact wpIn_exit ⟨_, e, fs3, hQ, henv, hw3⟩
        | _ => exact hQ.elim
    rcases hx with rfl | rfl
    · exact key
    · exact key

/-- The end of a round's body. -/
def roundQ (l : Nat) (rec : Loop) (K : Bool → Fs → Prop) : Post := fun x ds _ fs => ds = [] ∧
  match x with
  | .normal => ∃ fs', SetAt fs l (bsy rec) (rdy rec) fs' ∧ K true fs'
  | .ret => ∃ fs', SetAt fs l (bsy rec) (dne rec .ret) fs' ∧ K false fs'
  | .exit id => ∃ fs', SetAt fs l (bsy rec) (dne rec (.exit id)) fs' ∧ K false fs'
  | _ => False
/-- The assignments to the loop's left sides are done. -/
def beginQ (C : Cu) (l : Nat) (rec : Loop) (body : Code) (K : Bool → Fs → Prop) : Post := fun x ds e fs => x = .normal ∧ ds = [] ∧ ∃ fs', SetAt fs l (rdy rec) (bsy rec) fs' ∧ CW C body (roundQ l rec K) e fs'

def putPs : Env → List Tmp → List Value → Env
  | e, p :: ps, v :: vs => putPs ((p, v) :: e) ps vs
  | e, _, _ => e

theorem EnvOk.putPs {N : Nat} {ds : List Deferred} : ∀ (ps : List Tmp) (vs : List Value) {e : Env} {a : Act}, EnvOk N ds e a → ps.all (Nat.blt · N) = true →
    EnvOk N ds (SL.putPs e ps vs) { a with tmps := (ps.zip vs).foldl (fun tmps (p : Tmp × Value) => tmps.setIfInBounds p.1 p.2) a.tmps }
  | [], vs, e, a, h, _ => by cases vs <;> exact h
  | p :: ps, [], e, a, h, _ => h
  | p :: ps, v :: vs, e, a, h, hp => by
    simp only [List.all_cons, Bool.and_eq_true] at hp
    exact EnvOk.putPs ps vs (h.put hp.1) hp.2

section yl
variable {C : Cu} {ops : Array Oper} {Q : Post} {rest : List Oper} {e : Env} {fs : Fs} {d : Nat} {t : TypeId} {pos : String} {af : Array Edge}
/-- A call of yield: a round. -/
theorem LW.yield {fo : Operand} {args : Array Operand} {tys : Array TypeId} {l : Nat} {rec : Loop} {ps : Array Tmp} {assign body : Code} {N : Nat} {e0 : Env} {vs : List Value} (hd : Nat.blt d C.N = true) (hfo : e.ev fo = some (.func (.yield l) #[] #[])) (ha : ArgsOk e args.toList vs)
    (hrec : RecOk N e0 rec ps assign body) (hl : FsAt fs l (rdy rec)) (hps : ps.size = vs.length) (hpn : ps.toList.all (Nat.blt · N) = true)
    (h : CW ⟨C.P, C.w0, C.S, N, [], some l⟩ assign (beginQ ⟨C.P, C.w0, C.S, N, [], some l⟩ l rec body (fun b fs' => LW C ops Q rest ((d, .bool b) :: e) fs')) (putPs e0 ps.toList vs) fs) :
    LW C ops Q (⟨some d, .call { callee := .value fo, args := args, argTypes := tys }, t, pos, af, none⟩ :: rest) e fs := fun a w hs => by
  refine wpListIn_take (wanted_none _ rfl _) ⟨fun _ _ => trivial, ?_⟩
  have hw := (hs.st.own _ hl.mem).2
  have hy := run_yield (P := C.P) (w := w) (args := vs.toArray) hw (by simp [hrec.ps, hps])
  have hrun : (execOp a.eval ⟨some d, .call { callee := .value fo, args := args, argTypes := tys }, t, pos, af, none⟩).run C.P w = (Instr.yield l vs.toArray).run C.P w := by
    simp [execOp, resolve, invoke, Deferred.ofValue, hs.env.ev hfo, ha.arr hs.env.Ev]
  rw [semAt_FR (fun c h => by cases h), hrun, hy]
  refine ⟨fun h => (by cases h), RoundIn.mono (R := fun x w' => ∃ b fs', x = .returned (.bool b) ∧ LW C ops Q rest ((d, .bool b) :: e) fs' ∧ St C.w0 C.S fs' w') ?_ (fun x w' hx => ?_)⟩
  · refine roundIn_of_wpIn trivial ?_
    have henv : EnvOk N [] (putPs e0 ps.toList vs) { tmps := ((rec.params.zip vs.toArray).foldl (fun tmps (p : Tmp × Value) => tmps.setIfInBounds p.1 p.2) rec.tmps), defers := [] } := by
      have h0 : EnvOk N [] e0 { tmps := rec.tmps, defers := [] } := ⟨hrec.size, rfl, hrec.get⟩
      have h1 := EnvOk.putPs ps.toList vs h0 hpn
      have h2 : (rec.params.zip vs.toArray).foldl (fun tmps (p : Tmp × Value) => tmps.setIfInBounds p.1 p.2) rec.tmps = (ps.toList.zip vs).foldl (fun tmps (p : Tmp × Value) => tmps.setIfInBounds p.1 p.2) rec.tmps := by
        rw [hrec.ps, ← Array.foldl_toList, Array.toList_zip]
      rw [h2]
      exact h1
    have hF : (FR C.r).inRound l = FR (some l) := rfl
    rw [hF]
    show (rec.assign).wpIn (FR (some l)) (0 - 1) C.P _ _ _
    rw [hrec.asg]
    refine Code.wpIn_mono (fun x a1 w1 h' => ?_) (h _ w ⟨henv, hs.st⟩)
    obtain ⟨ds1, e1, fs1, ⟨rfl, rfl, fs2, hset, hbody⟩, s1⟩ := h'
    refine ⟨_, run_beginRound (s1.st.own _ hset.mem).2 rfl, ?_⟩
    have hbody' : CW ⟨C.P, C.w0, C.S, N, [], some l⟩ rec.body (roundQ l rec fun b fs' => LW C ops Q rest ((d, .bool b) :: e) fs') e1 fs2 := by rw [hrec.bod]; exact hbody
    have hw2 : St C.w0 C.S fs2 (w1.putObj l (bsy rec)) := s1.st.set hset
    refine Code.wpIn_mono (fun x a2 w2 h' => ?_) (hbody' a1 _ ⟨s1.env, hw2⟩)
    obtain ⟨ds2, e2, fs3, ⟨_, hx⟩, s2⟩ := h'
    cases x with
    | normal =>
      obtain ⟨fs4, hset4, hK⟩ := hx
      exact ⟨_, _, run_endRound none (s2.st.own _ hset4.mem).2, true, fs4, rfl, hK, s2.st.set hset4⟩
    | ret =>
      obtain ⟨fs4, hset4, hK⟩ := hx
      exact ⟨_, _, run_endRound (some .ret) (s2.st.own _ hset4.mem).2, false, fs4, rfl, hK, s2.st.set hset4⟩
    | exit id =>
      obtain ⟨fs4, hset4, hK⟩ := hx
      exact ⟨_, _, run_endRound (some (.exit id)) (s2.st.own _ hset4.mem).2, false, fs4, rfl, hK, s2.st.set hset4⟩
    | _ => exact hx.elim
  · obtain ⟨b, fs', rfl, hK, hw'⟩ := hx
    exact hK _ _ ⟨hs.env.put hd, hw'⟩
end yl

/-! ### Small steps of these -/
theorem beginI {C : Cu} {l : Nat} {rec : Loop} {body : Code} {K : Bool → Fs → Prop} {e : Env} {fs fs' : Fs} (hs : SetAt fs l (rdy rec) (bsy rec) fs') (h : CW C body (roundQ l rec K) e fs') : beginQ C l rec body K .normal [] e fs := ⟨rfl, rfl, fs', hs, h⟩
theorem roundN {l : Nat} {rec : Loop} {K : Bool → Fs → Prop} {e : Env} {fs fs' : Fs} (hs : SetAt fs l (bsy rec) (rdy rec) fs') (h : K true fs') : roundQ l rec K .normal [] e fs := ⟨rfl, fs', hs, h⟩
theorem roundR {l : Nat} {rec : Loop} {K : Bool → Fs → Prop} {e : Env} {fs fs' : Fs} (hs : SetAt fs l (bsy rec) (dne rec .ret) fs') (h : K false fs') : roundQ l rec K .ret [] e fs := ⟨rfl, fs', hs, h⟩
theorem roundE {l id : Nat} {rec : Loop} {K : Bool → Fs → Prop} {e : Env} {fs fs' : Fs} (hs : SetAt fs l (bsy rec) (dne rec (.exit id)) fs') (h : K false fs') : roundQ l rec K (.exit id) [] e fs := ⟨rfl, fs', hs, h⟩
theorem rangeN {C : Cu} {l r : Nat} {rec : Loop} {Q : Post} {e e' : Env} {x : Exit} {ds : List Deferred} {fs fs1 fs' : Fs} (hx : x = .ret ∨ x = .normal) (hsh : Shut ds fs fs1) (hs : SetAt fs1 l (rdy rec) (exh rec none) fs') (h : Q .normal (markD r :: C.ds) e fs') : rangeQ C l r rec Q e x ds e' fs :=
  ⟨hx, fs1, hsh, .inl ⟨fs', hs, h⟩⟩
theorem rangeR {C : Cu} {l r : Nat} {rec : Loop} {Q : Post} {e e' : Env} {x : Exit} {ds : List Deferred} {fs fs1 fs' : Fs} (hx : x = .ret ∨ x = .normal) (hsh : Shut ds fs fs1) (hs : SetAt fs1 l (dne rec .ret) (exh rec (some .ret)) fs') (h : Q .ret (markD r :: C.ds) e fs') : rangeQ C l r rec Q e x ds e' fs :=
  ⟨hx, fs1, hsh, .inr ⟨.ret, fs', hs, h⟩⟩
theorem rangeE {C : Cu} {l r id : Nat} {rec : Loop} {Q : Post} {e e' : Env} {x : Exit} {ds : List Deferred} {fs fs1 fs' : Fs} (hx : x = .ret ∨ x = .normal) (hsh : Shut ds fs fs1) (hs : SetAt fs1 l (dne rec (.exit id)) (exh rec (some (.exit id))) fs') (h : Q (.exit id) (markD r :: C.ds) e fs') : rangeQ C l r rec Q e x ds e' fs :=
  ⟨hx, fs1, hsh, .inr ⟨.exit id, fs', hs, h⟩⟩
theorem inI {C : Cu} {fn : Func} {K : Value → Fs → Prop} {x : Exit} {ds : List Deferred} {e : Env} {fs fs' : Fs} {rs : List ResultVar} {vs : List Value} {v : Value} (hx : x = .ret ∨ x = .normal) (hsh : Shut ds fs fs') (hr : fn.results.toList = rs) (h : ResL C e fs' rs vs) (hv : tup vs = v) (hK : K v fs') : inQ C fn K x ds e fs :=
  ⟨hx, vs, fs', hsh, by rw [hr]; exact h, by rw [hv]; exact hK⟩
theorem thenX {K : List Deferred → Env → Fs → Prop} {Q : Post} {ds : List Deferred} {e : Env} {fs : Fs} (h : K ds e fs) : thenQ K Q .normal ds e fs := h
/-- A block's content, told in other words. -/
theorem SetAt.same' {fs fs' : Fs} {b : Nat} {o o' : Obj} (h : SetAt fs b o o' fs') (ho : o = o') : fs' = fs := by
  induction h with
  | head => rw [ho]
  | tail _ ih => rw [ih ho]
  | app _ ih => rw [ih ho]
theorem CW.eqv {C : Cu} {c : Code} {Q : Post} {e : Env} {fs fs' : Fs} {b : Nat} {o o' : Obj} (hs : SetAt fs b o o' fs') (ho : o = o') (h : CW C c Q e fs') : CW C c Q e fs := by
  rw [hs.same' ho] at h; exact h

/-! ### Numbers not below 0, in the kind int -/
section ni
variable {P : Program} {e : Env} {T ty : TypeId} {x y : Operand} {m n : Nat}
theorem ValP.quoZ (hx : e.ev x = some (.int .i64 (m : Int))) (hy : e.ev y = some (.int .i64 (n : Int))) (hn : 0 < n) (hm : m < 9223372036854775808) : ValP P e [] (.binOp .quo T x y ty) (.int .i64 ((m / n : Nat) : Int)) := by
  have := ValP.quoI (P := P) (T := T) (ty := ty) hx hy (by omega) (by omega) (by omega)
  simpa using this
theorem ValP.remZ (hx : e.ev x = some (.int .i64 (m : Int))) (hy : e.ev y = some (.int .i64 (n : Int))) (hn : 0 < n) : ValP P e [] (.binOp .rem T x y ty) (.int .i64 ((m % n : Nat) : Int)) := by
  have := ValP.remI (P := P) (T := T) (ty := ty) hx hy (by omega) (by omega)
  simpa using this
theorem ValP.addZ (hx : e.ev x = some (.int .i64 (m : Int))) (hy : e.ev y = some (.int .i64 (n : Int))) (h : m + n < 9223372036854775808) : ValP P e [] (.binOp .add T x y ty) (.int .i64 ((m + n : Nat) : Int)) := by
  have := ValP.addI (P := P) (T := T) (ty := ty) hx hy (by omega) (by omega)
  simpa using this
theorem ValP.mulZ (hx : e.ev x = some (.int .i64 (m : Int))) (hy : e.ev y = some (.int .i64 (n : Int))) (h : m * n < 9223372036854775808) : ValP P e [] (.binOp .mul T x y ty) (.int .i64 ((m * n : Nat) : Int)) := by
  have := ValP.mulI (P := P) (T := T) (ty := ty) hx hy (by omega) (by rw [← Int.natCast_mul]; omega)
  simpa using this
theorem ValP.subZ (hx : e.ev x = some (.int .i64 (m : Int))) (hy : e.ev y = some (.int .i64 (n : Int))) (h : n ≤ m) (hm : m < 9223372036854775808) : ValP P e [] (.binOp .sub T x y ty) (.int .i64 ((m - n : Nat) : Int)) := by
  have := ValP.subI (P := P) (T := T) (ty := ty) hx hy (by omega) (by omega)
  rwa [show (m : Int) - n = ((m - n : Nat) : Int) by omega] at this
theorem ValP.quoZL (hx : e.ev x = some (.int .i64 (m : Int))) (hy : e.ev y = some (.int .i64 (OfNat.ofNat n))) (_ : n = n) (h0 : 0 < (OfNat.ofNat n : Nat)) (h1 : m < 9223372036854775808) : ValP P e [] (.binOp .quo T x y ty) (.int .i64 ((m / (OfNat.ofNat n : Nat) : Nat) : Int)) := .quoZ hx hy h0 h1
theorem ValP.quoZK (hx : e.ev x = some (.int .i64 (OfNat.ofNat m))) (hy : e.ev y = some (.int .i64 (n : Int))) (_ : m = m) (h0 : 0 < n) (h1 : (OfNat.ofNat m : Nat) < 9223372036854775808) : ValP P e [] (.binOp .quo T x y ty) (.int .i64 (((OfNat.ofNat m : Nat) / n : Nat) : Int)) := .quoZ hx hy h0 h1
theorem ValP.remZL (hx : e.ev x = some (.int .i64 (m : Int))) (hy : e.ev y = some (.int .i64 (OfNat.ofNat n))) (_ : n = n) (h0 : 0 < (OfNat.ofNat n : Nat)) : ValP P e [] (.binOp .rem T x y ty) (.int .i64 ((m % (OfNat.ofNat n : Nat) : Nat) : Int)) := .remZ hx hy h0
theorem ValP.remZK (hx : e.ev x = some (.int .i64 (OfNat.ofNat m))) (hy : e.ev y = some (.int .i64 (n : Int))) (_ : m = m) (h0 : 0 < n) : ValP P e [] (.binOp .rem T x y ty) (.int .i64 (((OfNat.ofNat m : Nat) % n : Nat) : Int)) := .remZ hx hy h0
theorem ValP.addZL (hx : e.ev x = some (.int .i64 (m : Int))) (hy : e.ev y = some (.int .i64 (OfNat.ofNat n))) (_ : n = n) (h0 : m + (OfNat.ofNat n : Nat) < 9223372036854775808) : ValP P e [] (.binOp .add T x y ty) (.int .i64 ((m + (OfNat.ofNat n : Nat) : Nat) : Int)) := .addZ hx hy h0
theorem ValP.addZK (hx : e.ev x = some (.int .i64 (OfNat.ofNat m))) (hy : e.ev y = some (.int .i64 (n : Int))) (_ : m = m) (h0 : (OfNat.ofNat m : Nat) + n < 9223372036854775808) : ValP P e [] (.binOp .add T x y ty) (.int .i64 (((OfNat.ofNat m : Nat) + n : Nat) : Int)) := .addZ hx hy h0
theorem ValP.mulZL (hx : e.ev x = some (.int .i64 (m : Int))) (hy : e.ev y = some (.int .i64 (OfNat.ofNat n))) (_ : n = n) (h0 : m * (OfNat.ofNat n : Nat) < 9223372036854775808) : ValP P e [] (.binOp .mul T x y ty) (.int .i64 ((m * (OfNat.ofNat n : Nat) : Nat) : Int)) := .mulZ hx hy h0
theorem ValP.mulZK (hx : e.ev x = some (.int .i64 (OfNat.ofNat m))) (hy : e.ev y = some (.int .i64 (n : Int))) (_ : m = m) (h0 : (OfNat.ofNat m : Nat) * n < 9223372036854775808) : ValP P e [] (.binOp .mul T x y ty) (.int .i64 (((OfNat.ofNat m : Nat) * n : Nat) : Int)) := .mulZ hx hy h0
theorem ValP.subZL (hx : e.ev x = some (.int .i64 (m : Int))) (hy : e.ev y = some (.int .i64 (OfNat.ofNat n))) (_ : n = n) (h0 : (OfNat.ofNat n : Nat) ≤ m) (h1 : m < 9223372036854775808) : ValP P e [] (.binOp .sub T x y ty) (.int .i64 ((m - (OfNat.ofNat n : Nat) : Nat) : Int)) := .subZ hx hy h0 h1
theorem ValP.subZK (hx : e.ev x = some (.int .i64 (OfNat.ofNat m))) (hy : e.ev y = some (.int .i64 (n : Int))) (_ : m = m) (h0 : n ≤ (OfNat.ofNat m : Nat)) (h1 : (OfNat.ofNat m : Nat) < 9223372036854775808) : ValP P e [] (.binOp .sub T x y ty) (.int .i64 (((OfNat.ofNat m : Nat) - n : Nat) : Int)) := .subZ hx hy h0 h1
theorem ValP.quoNL (hx : e.ev x = some (.int .u64 (m : Int))) (hy : e.ev y = some (.int .u64 (OfNat.ofNat n))) (_ : n = n) (h0 : 0 < (OfNat.ofNat n : Nat)) (h1 : m < 18446744073709551616) : ValP P e [] (.binOp .quo T x y ty) (.int .u64 ((m / (OfNat.ofNat n : Nat) : Nat) : Int)) := .quoN hx hy h0 h1
theorem ValP.quoNK (hx : e.ev x = some (.int .u64 (OfNat.ofNat m))) (hy : e.ev y = some (.int .u64 (n : Int))) (_ : m = m) (h0 : 0 < n) (h1 : (OfNat.ofNat m : Nat) < 18446744073709551616) : ValP P e [] (.binOp .quo T x y ty) (.int .u64 (((OfNat.ofNat m : Nat) / n : Nat) : Int)) := .quoN hx hy h0 h1
theorem ValP.remNL (hx : e.ev x = some (.int .u64 (m : Int))) (hy : e.ev y = some (.int .u64 (OfNat.ofNat n))) (_ : n = n) (h0 : 0 < (OfNat.ofNat n : Nat)) : ValP P e [] (.binOp .rem T x y ty) (.int .u64 ((m % (OfNat.ofNat n : Nat) : Nat) : Int)) := .remN hx hy h0
theorem ValP.remNK (hx : e.ev x = some (.int .u64 (OfNat.ofNat m))) (hy : e.ev y = some (.int .u64 (n : Int))) (_ : m = m) (h0 : 0 < n) : ValP P e [] (.binOp .rem T x y ty) (.int .u64 (((OfNat.ofNat m : Nat) % n : Nat) : Int)) := .remN hx hy h0
theorem ValP.addNL (hx : e.ev x = some (.int .u64 (m : Int))) (hy : e.ev y = some (.int .u64 (OfNat.ofNat n))) (_ : n = n)  : ValP P e [] (.binOp .add T x y ty) (.int .u64 (((m + (OfNat.ofNat n : Nat)) % 18446744073709551616 : Nat) : Int)) := .addN hx hy 
theorem ValP.addNK (hx : e.ev x = some (.int .u64 (OfNat.ofNat m))) (hy : e.ev y = some (.int .u64 (n : Int))) (_ : m = m)  : ValP P e [] (.binOp .add T x y ty) (.int .u64 ((((OfNat.ofNat m : Nat) + n) % 18446744073709551616 : Nat) : Int)) := .addN hx hy 
theorem ValP.mulNL (hx : e.ev x = some (.int .u64 (m : Int))) (hy : e.ev y = some (.int .u64 (OfNat.ofNat n))) (_ : n = n)  : ValP P e [] (.binOp .mul T x y ty) (.int .u64 ((m * (OfNat.ofNat n : Nat) % 18446744073709551616 : Nat) : Int)) := .mulN hx hy 
theorem ValP.mulNK (hx : e.ev x = some (.int .u64 (OfNat.ofNat m))) (hy : e.ev y = some (.int .u64 (n : Int))) (_ : m = m)  : ValP P e [] (.binOp .mul T x y ty) (.int .u64 (((OfNat.ofNat m : Nat) * n % 18446744073709551616 : Nat) : Int)) := .mulN hx hy 
theorem ValP.subNL (hx : e.ev x = some (.int .u64 (m : Int))) (hy : e.ev y = some (.int .u64 (OfNat.ofNat n))) (_ : n = n) (h0 : (OfNat.ofNat n : Nat) ≤ m) (h1 : m < 18446744073709551616) : ValP P e [] (.binOp .sub T x y ty) (.int .u64 ((m - (OfNat.ofNat n : Nat) : Nat) : Int)) := .subN hx hy h0 h1
theorem ValP.subNK (hx : e.ev x = some (.int .u64 (OfNat.ofNat m))) (hy : e.ev y = some (.int .u64 (n : Int))) (_ : m = m) (h0 : n ≤ (OfNat.ofNat m : Nat)) (h1 : (OfNat.ofNat m : Nat) < 18446744073709551616) : ValP P e [] (.binOp .sub T x y ty) (.int .u64 (((OfNat.ofNat m : Nat) - n : Nat) : Int)) := .subN hx hy h0 h1
theorem ValP.andUL (hx : e.ev x = some (.int .u64 (m : Int))) (hy : e.ev y = some (.int .u64 (OfNat.ofNat n))) (_ : n = n) (h0 : m < 18446744073709551616) (h1 : (OfNat.ofNat n : Nat) < 18446744073709551616) : ValP P e [] (.binOp .and T x y ty) (.int .u64 ((m &&& (OfNat.ofNat n : Nat) : Nat) : Int)) := .andU hx hy h0 h1
theorem ValP.andUK (hx : e.ev x = some (.int .u64 (OfNat.ofNat m))) (hy : e.ev y = some (.int .u64 (n : Int))) (_ : m = m) (h0 : (OfNat.ofNat m : Nat) < 18446744073709551616) (h1 : n < 18446744073709551616) : ValP P e [] (.binOp .and T x y ty) (.int .u64 (((OfNat.ofNat m : Nat) &&& n : Nat) : Int)) := .andU hx hy h0 h1
theorem ValP.orUL (hx : e.ev x = some (.int .u64 (m : Int))) (hy : e.ev y = some (.int .u64 (OfNat.ofNat n))) (_ : n = n) (h0 : m < 18446744073709551616) (h1 : (OfNat.ofNat n : Nat) < 18446744073709551616) : ValP P e [] (.binOp .or T x y ty) (.int .u64 ((m ||| (OfNat.ofNat n : Nat) : Nat) : Int)) := .orU hx hy h0 h1
theorem ValP.orUK (hx : e.ev x = some (.int .u64 (OfNat.ofNat m))) (hy : e.ev y = some (.int .u64 (n : Int))) (_ : m = m) (h0 : (OfNat.ofNat m : Nat) < 18446744073709551616) (h1 : n < 18446744073709551616) : ValP P e [] (.binOp .or T x y ty) (.int .u64 (((OfNat.ofNat m : Nat) ||| n : Nat) : Int)) := .orU hx hy h0 h1
theorem ValP.xorUL (hx : e.ev x = some (.int .u64 (m : Int))) (hy : e.ev y = some (.int .u64 (OfNat.ofNat n))) (_ : n = n) (h0 : m < 18446744073709551616) (h1 : (OfNat.ofNat n : Nat) < 18446744073709551616) : ValP P e [] (.binOp .xor T x y ty) (.int .u64 ((m ^^^ (OfNat.ofNat n : Nat) : Nat) : Int)) := .xorU hx hy h0 h1
theorem ValP.xorUK (hx : e.ev x = some (.int .u64 (OfNat.ofNat m))) (hy : e.ev y = some (.int .u64 (n : Int))) (_ : m = m) (h0 : (OfNat.ofNat m : Nat) < 18446744073709551616) (h1 : n < 18446744073709551616) : ValP P e [] (.binOp .xor T x y ty) (.int .u64 (((OfNat.ofNat m : Nat) ^^^ n : Nat) : Int)) := .xorU hx hy h0 h1
theorem ValP.shrUL {ik : IntKind} (hx : e.ev x = some (.int .u64 (m : Int))) (hy : e.ev y = some (.int ik (OfNat.ofNat n))) (_ : n = n) (hs : (OfNat.ofNat n : Nat) ≤ 64) : ValP P e [] (.binOp .shr T x y ty) (.int .u64 ((m / 2 ^ (OfNat.ofNat n : Nat) : Nat) : Int)) := .shrU hx hy hs
theorem ValP.shlUL {ik : IntKind} (hx : e.ev x = some (.int .u64 (m : Int))) (hy : e.ev y = some (.int ik (OfNat.ofNat n))) (_ : n = n) (hs : (OfNat.ofNat n : Nat) ≤ 64) : ValP P e [] (.binOp .shl T x y ty) (.int .u64 ((m * 2 ^ (OfNat.ofNat n : Nat) % 18446744073709551616 : Nat) : Int)) := .shlU hx hy hs
end ni
/-! ### Words that are built, and laid -/
theorem zero_wc : #[Value.int .u64 0, .int .u64 0, .int .u64 0, .int .u64 0] = wc 0 := rfl
section bw
variable {P : Program} {e : Env} {T : TypeId}
theorem ValP.buildW0 {E : TypeId} [UnI P T (.array 4 E)] [InfoI P E 1 (.int .u64 0)] [InfoI P T 4 (.agg #[.int .u64 0, .int .u64 0, .int .u64 0, .int .u64 0])] : ValP P e [] (.build T #[]) (.agg (wc 0)) :=
  ValP.buildA (z := #[.int .u64 0, .int .u64 0, .int .u64 0, .int .u64 0]) .nil rfl rfl
theorem ValP.buildW1 {E : TypeId} [UnI P T (.array 4 E)] [InfoI P E 1 (.int .u64 0)] [InfoI P T 4 (.agg #[.int .u64 0, .int .u64 0, .int .u64 0, .int .u64 0])] {x : Operand} {n : Nat} (hx : e.ev x = some (.int .u64 (n : Int))) (hn : n < 18446744073709551616) : ValP P e [] (.build T #[(0, x)]) (.agg (wc n)) :=
  ValP.buildA (sz := 1) (zE := .int .u64 0) (nT := 4) (E := E) (len := 4) (z := #[.int .u64 0, .int .u64 0, .int .u64 0, .int .u64 0]) (.cons hx .nil) rfl (show #[Value.int .u64 (n : Int), .int .u64 ((0 : Nat) : Int), .int .u64 ((0 : Nat) : Int), .int .u64 ((0 : Nat) : Int)] = wc n from wc_val hn (by decide) (by decide) (by decide) (by omega))
end bw
section aw
variable {C : Cu} {ops : Array Oper} {Q : Post} {tl rest : List Oper} {e : Env} {fs : Fs} {ts : Ts} {μ : Mu} {k d : Nat} {t : TypeId} {pos : String} {af : Array Edge} {g : Option (Nat × Bool)}
theorem LW.allocW {T : TypeId} [InfoI C.P T 4 (.agg #[.int .u64 0, .int .u64 0, .int .u64 0, .int .u64 0])] (hd : Nat.blt d C.N = true) (k : ∀ b, LW C ops Q rest ((d, .pointer (some ⟨b, 0, none⟩)) :: e) ((b, .cells (wc 0) T (0, 0)) :: fs)) :
    LW C ops Q (⟨some d, .alloc T, t, pos, af, none⟩ :: rest) e fs := LW.allocA (c := wc 0) (n := 4) hd k
theorem DW.allocW {T : TypeId} [InfoI C.P T 4 (.agg #[.int .u64 0, .int .u64 0, .int .u64 0, .int .u64 0])] (hk : ops[k]? = some ⟨some d, .alloc T, t, pos, af, g⟩) (hm : μ k = none) (hd : Nat.blt d C.N = true) (hg : WantT ops e g)
    (kk : ∀ b, DW C ops μ Q tl rest (k + 1) ((d, .pointer (some ⟨b, 0, none⟩)) :: e) ((b, .cells (wc 0) T (0, 0), [k], []) :: ts)) : DW C ops μ Q tl (⟨some d, .alloc T, t, pos, af, g⟩ :: rest) k e ts := DW.allocA (c := wc 0) (n := 4) hk hm hd hg kk
end aw
theorem nth_wc (a k : Nat) (h : k < 4) : nth (wc a).toList k = some (.int .u64 ((a / 2 ^ (64 * k) % 18446744073709551616 : Nat) : Int)) := by
  match k, h with
  | 0, _ => simp [wc, nth]
  | 1, _ => rfl
  | 2, _ => rfl
  | 3, _ => rfl
end Go.Proofs.Ytahoghldnijnbaa.SL
