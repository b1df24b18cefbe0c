/-
  A SMALL LOGIC OVER THE KIT's WALK, PART F: aggregates of integers compared, built, read; calls that the model answers at once; words of 256 bits as four limbs.
  Conditions: none; over any program.
-/
import Derived.Test.YtahoghldnijnbaaSle
import Derived.Laws.StructEq
import Derived.ChangeKeysEq
namespace Go.Proofs.Ytahoghldnijnbaa.SL
open Go Go.RowKit
variable {P : Program} {e : Env}

/-! ### Arrays of integers, compared -/
class EqI (P : Program) (T : TypeId) (n : outParam Nat) (k : outParam IntKind) : Prop where
  eqi : ∃ E i, P.underlying T = some (.array n E) ∧ P.info? E = some i ∧ P.cellsOf E = 1 ∧ P.underlying E = some (.int k) ∧ P.eqGuardType P.depth T = false

def eqiB (P : Program) (T n : Nat) (k : IntKind) : Bool :=
  match P.underlying T with
  | some (.array m E) => m == n && (P.info? E).isSome && P.cellsOf E == 1 && (match P.underlying E with | some (.int q) => decide (q = k) | _ => false) && !P.eqGuardType P.depth T
  | _ => false
theorem EqI.mk' {T n : Nat} {k : IntKind} (h : eqiB P T n k = true) : EqI P T n k := ⟨by
  unfold eqiB at h
  split at h
  · rename_i m E hu
    simp only [Bool.and_eq_true, beq_iff_eq, Bool.not_eq_true'] at h
    obtain ⟨⟨⟨⟨h1, h2⟩, h3⟩, h4⟩, h5⟩ := h
    subst h1
    split at h4
    · rename_i q hq
      have : q = k := by simpa using h4
      subst this
      cases hi : P.info? E with
      | none => simp [hi] at h2
      | some i => exact ⟨E, i, hu, hi, h3, hq, h5⟩
    · cases h4
  · cases h⟩

theorem part_int {E : TypeId} {k : IntKind} (hu : P.underlying E = some (.int k)) {xs : Array Value} {off : Nat} {v : Value} (hx : xs[off]? = some v) (w : World) : (part E xs off).run P w = .ok v w := by
  simp [part, isAgg, run_underlying hu, hx]

theorem eqItems_ints {E : TypeId} {k : IntKind} (hu : P.underlying E = some (.int k)) (d : Nat) (a b : List Int) (w : World) : ∀ (m i : Nat), i + m = a.length → a.length = b.length →
    (Op.eqItems (d + 1) E 1 (a.map (Value.int k)).toArray (b.map (Value.int k)).toArray (List.range' i m)).run P w = .ok (decide (a.drop i = b.drop i)) w
  | 0, i, h1, h2 => by
    have ha : a.drop i = [] := List.drop_eq_nil_of_le (by omega)
    have hb : b.drop i = [] := List.drop_eq_nil_of_le (by omega)
    simp [Op.eqItems, ha, hb]
  | m + 1, i, h1, h2 => by
    have hi : i < a.length := by omega
    have hi' : i < b.length := by omega
    have ha : a.drop i = a[i] :: a.drop (i + 1) := List.drop_eq_getElem_cons hi
    have hb : b.drop i = b[i] :: b.drop (i + 1) := List.drop_eq_getElem_cons hi'
    have p1 := part_int (P := P) hu (xs := (a.map (Value.int k)).toArray) (off := i * 1) (v := .int k a[i]) (by simp [hi]) w
    have p2 := part_int (P := P) hu (xs := (b.map (Value.int k)).toArray) (off := i * 1) (v := .int k b[i]) (by simp [hi']) w
    have ih := eqItems_ints hu d a b w m (i + 1) (by omega) h2
    simp only [List.range'_succ, Op.eqItems, Sem.run_bind, p1, p2, Result.andThen_ok, run_equalIn_int w d E k k _ _ hu]
    by_cases h : a[i] = b[i]
    · rw [ha, hb, h]; simp only [BEq.rfl, Bool.not_true, Bool.false_eq_true, if_false, ih, List.cons.injEq, true_and]
    · rw [ha, hb]; have h' : (a[i] == b[i]) = false := by simpa using h
      simp only [h', Bool.not_false, if_true, Sem.run_pure, List.cons.injEq, h, false_and, decide_false]

def getInts (k : IntKind) : List Value → Option (List Int)
  | [] => some []
  | .int k' n :: r => match IntKind.beqK k' k with
    | true => (getInts k r).map (n :: ·)
    | false => none
  | _ => none
where IntKind.beqK : IntKind → IntKind → Bool := fun a b => decide (a = b)

theorem getInts_map {k : IntKind} : ∀ {l : List Value} {a : List Int}, getInts k l = some a → l = a.map (Value.int k)
  | [], a, h => by simp [getInts] at h; subst h; rfl
  | v :: r, a, h => by
    cases v with
    | int k' n =>
      simp only [getInts] at h
      split at h
      · rename_i hb
        simp only [getInts.IntKind.beqK, decide_eq_true_eq] at hb
        subst hb
        simp only [Option.map_eq_some_iff] at h
        obtain ⟨a', h1, rfl⟩ := h
        simp [getInts_map h1]
      · cases h
    | _ => simp [getInts] at h

theorem run_eq_ints {T n : Nat} {k : IntKind} [h : EqI P T n k] {xs ys : Array Value} {a b : List Int} (hx : getInts k xs.toList = some a) (hy : getInts k ys.toList = some b) (ha : a.length = n) (hb : b.length = n) (w : World) :
    (Op.equal T (.agg xs) (.agg ys)).run P w = .ok (decide (a = b)) w := by
  obtain ⟨E, i, h1, h2, h3, h4, _⟩ := h.eqi
  have ex : xs = (a.map (Value.int k)).toArray := by rw [← getInts_map hx]
  have ey : ys = (b.map (Value.int k)).toArray := by rw [← getInts_map hy]
  subst ex; subst ey
  unfold Op.equal
  rw [show Op.maxDepth = (Op.maxDepth - 1) + 1 from rfl, run_equalIn_array w _ _ _ h1 h2, h3, List.range_eq_range', show Op.maxDepth - 1 = (Op.maxDepth - 2) + 1 from rfl]
  have := eqItems_ints h4 (Op.maxDepth - 2) a b w n 0 (by omega) (by omega)
  simpa using this

theorem guard_agg {op : BinOp} {T n : Nat} {k : IntKind} [h : EqI P T n k] {x y : Operand} {xs ys : Array Value} (w : World) : (eqGuard op T x y (.agg xs) (.agg ys)).run P w = .ok () w := by
  obtain ⟨E, i, h1, h2, h3, h4, h5⟩ := h.eqi
  unfold eqGuard
  cases op <;> simp [Sem.run_bind, run_program, h5]

section eqs
variable {T ty n : Nat} {k : IntKind} [EqI P T n k] {x y : Operand} {xs ys : Array Value} {a b : List Int}
theorem ValP.eqlA (hx : e.ev x = some (.agg xs)) (hy : e.ev y = some (.agg ys)) (h1 : getInts k xs.toList = some a) (h2 : getInts k ys.toList = some b) (ha : a.length = n) (hb : b.length = n) :
    ValP P e [] (.binOp .eql T x y ty) (.bool (decide (a = b))) :=
  .bin hx hy (fun w => guard_agg w) fun w => by simp [binOp, run_eq_ints h1 h2 ha hb]
theorem ValP.neqA (hx : e.ev x = some (.agg xs)) (hy : e.ev y = some (.agg ys)) (h1 : getInts k xs.toList = some a) (h2 : getInts k ys.toList = some b) (ha : a.length = n) (hb : b.length = n) :
    ValP P e [] (.binOp .neq T x y ty) (.bool (!decide (a = b))) :=
  .bin hx hy (fun w => guard_agg w) fun w => by simp [binOp, run_eq_ints h1 h2 ha hb]
end eqs

/-! ### Arrays built and read -/
def fillC (sz : Nat) : Array Value → List (Nat × Value) → Array Value
  | z, [] => z
  | z, (i, v) :: r => fillC sz (wrCells z (i * sz) v.cells.toList) r
def fillOk (sz len : Nat) : List (Nat × Value) → Bool
  | [] => true
  | (i, v) :: r => v.cells.size == sz && Nat.ble (i * sz + sz) len && fillOk sz len r

theorem wrCells_size : ∀ (vs : List Value) (c : Array Value) (off : Nat), (wrCells c off vs).size = c.size
  | [], _, _ => rfl
  | v :: r, c, off => by simp [wrCells, wrCells_size r]

theorem foldl_wr : ∀ (vs : List Value) (c : Array Value) (off j : Nat), (vs.zipIdx j).foldl (fun cs (p : Value × Nat) => cs.setIfInBounds (off + p.2) p.1) c = wrCells c (off + j) vs
  | [], _, _, _ => rfl
  | v :: r, c, off, j => by
    simp only [List.zipIdx_cons, List.foldl_cons, wrCells]
    rw [foldl_wr r _ off (j + 1)]
    rfl

theorem fill_eq {sz : Nat} : ∀ (parts : List (Nat × Value)) (z : Array Value), fillOk sz z.size parts = true → Instr.fill (fun i => some (i * sz, sz)) z parts = some (fillC sz z parts)
  | [], z, _ => rfl
  | (i, v) :: r, z, h => by
    simp only [fillOk, Bool.and_eq_true, beq_iff_eq] at h
    obtain ⟨⟨h1, h2⟩, h3⟩ := h
    have h2 := Nat.le_of_ble_eq_true h2
    have hf : (v.cells.zipIdx.foldl (fun cs (p : Value × Nat) => cs.setIfInBounds (i * sz + p.2) p.1) z) = wrCells z (i * sz) v.cells.toList := by
      have := foldl_wr v.cells.toList z (i * sz) 0
      rw [← Array.foldl_toList]
      simpa using this
    have ih := fill_eq r (wrCells z (i * sz) v.cells.toList) (by rw [wrCells_size]; exact h3)
    simp only [Instr.fill, fillC]
    rw [if_neg (by simp [h1]; omega)]
    exact (congrArg (fun q => Instr.fill (fun i => some (i * sz, sz)) q r) hf).trans ih

inductive PartsOk (e : Env) : List (Nat × Operand) → List (Nat × Value) → Prop
  | nil : PartsOk e [] []
  | cons {i : Nat} {x : Operand} {v : Value} {l : List (Nat × Operand)} {vs : List (Nat × Value)} (h : e.ev x = some v) (hs : PartsOk e l vs) : PartsOk e ((i, x) :: l) ((i, v) :: vs)
theorem PartsOk.map {l : List (Nat × Operand)} {vs : List (Nat × Value)} (h : PartsOk e l vs) {ρ : Operand → Value} (hρ : Ev e ρ) : l.map (fun p => (p.1, ρ p.2)) = vs := by
  induction h with
  | nil => rfl
  | cons h _ ih => simp [hρ _ _ h, ih]

theorem ValP.buildA {T len E sz nT : Nat} {zE : Value} {z : Array Value} {parts : Array (Nat × Operand)} {vs : List (Nat × Value)} {c : Array Value} [UnI P T (.array len E)] [InfoI P E sz zE] [InfoI P T nT (.agg z)] (hp : PartsOk e parts.toList vs)
    (hok : fillOk sz z.size vs = true) (hc : fillC sz z vs = c) : ValP P e [] (.build T parts) (.agg c) := fun ρ w hρ _ d t pos af g => by
  have h1 : (parts.map fun p => (p.1, ρ p.2)).toList = vs := by simpa using hp.map hρ
  have h2 : (Value.agg z).cells = z := rfl
  have h3 := fill_eq vs z hok
  rw [hc] at h3
  have h4 : (Instr.build T (parts.map fun p => (p.1, ρ p.2))).run P w = .ok (.agg c) w := by
    unfold Instr.build
    simp only [Sem.run_bind, run_zero, Result.andThen_ok, run_un, run_size, h1, h2, h3]
    simp
  simp only [execOp]
  exact (show ((do pure (.value (← Instr.build T (parts.map fun p => (p.1, ρ p.2)))) : Sem Next)).run P w = .ok (.value (.agg c)) w by simp [h4])

/-- A whole aggregate laid over a variable's block. -/
theorem Wr.whole {T n : Nat} {z : Value} [InfoI P T n z] {c c' : Array Value} {E : TypeId} (h1 : c.size = n) (h2 : c'.size = n) (hone : c'.toList.all Value.oneCell' = true) : Wr P T (.cells c E (0, 0)) 0 (.agg c') (.cells c' E (0, 0)) := by
  refine Wr.cells (n := n) (z := z) (by simpa [Value.cells] using h2) hone (by omega) ?_
  have key : ∀ (vs : List Value) (c : Array Value) (off : Nat), off + vs.length = c.size → wrCells c off vs = (c.toList.take off ++ vs).toArray := by
    intro vs
    induction vs with
    | nil => intro c off h; simp at h; subst h; rw [wrCells, List.append_nil, List.take_of_length_le (by simp)]
    | cons v r ih =>
      intro c off h
      simp only [List.length_cons] at h
      rw [wrCells, ih _ _ (by simp; omega)]
      congr 1
      have hlt : off < c.toList.length := by simp; omega
      simp only [Array.toList_setIfInBounds]
      have hl : (c.toList.take off).length = off := by simp; omega
      rw [List.take_set, List.take_succ_eq_append_getElem hlt, List.set_append_right _ _ (by rw [hl]; exact Nat.le_refl _), hl, Nat.sub_self]
      simp
  have := key c'.toList c 0 (by simp; omega)
  simpa [Value.cells] using this

theorem ValP.indexA {T len E : Nat} {x i : Operand} {c : Array Value} {ik : IntKind} {j : Int} {k sz : Nat} {zE v : Value} [UnI P T (.array len E)] [AgI P E false] [InfoI P E sz zE] (hsz : (sz == 1) = true) (hx : e.ev x = some (.agg c)) (hi : e.ev i = some (.int ik j))
    (hj : j = (k : Int)) (hk : k < len) (hv : nth c.toList k = some v) : ValP P e [] (.index T x i) v := fun ρ w hρ _ d t pos af g => by
  subst hj
  have h1 : sz = 1 := by simpa using hsz
  subst h1
  have h2 : c[k]? = some v := by rw [nth_eq] at hv; simpa using hv
  simp [execOp, hρ x _ hx, hρ i _ hi, Instr.index, Sem.run_bind, run_un, asIntOf, run_size, hk, part, run_isAgg, h2]
theorem ValP.indexAL {T len E : Nat} {x i : Operand} {c : Array Value} {ik : IntKind} {k sz : Nat} {zE v : Value} [UnI P T (.array len E)] [AgI P E false] [InfoI P E sz zE] (hsz : (sz == 1) = true) (hx : e.ev x = some (.agg c)) (hi : e.ev i = some (.int ik (OfNat.ofNat k)))
    (hk : Nat.blt k len = true) (hv : nth c.toList k = some v) : ValP P e [] (.index T x i) v := ValP.indexA hsz hx hi rfl (by simpa [Nat.blt_eq] using hk) hv

/-! ### Truth values, seen before they are used -/
theorem CW.condT' {C : Cu} {c : Operand} {x y : Code} {Q : Post} {fs : Fs} {b : Bool} (hc : e.ev c = some (.bool b)) (hb : b = true) (ht : CW C x Q e fs) : CW C (.cond c x y) Q e fs := CW.condT hc hb ht
theorem LW.guardT' {C : Cu} {ops : Array Oper} {Q : Post} {rest : List Oper} {fs : Fs} {dst : Option Tmp} {op : Op} {t : TypeId} {pos : String} {af : Array Edge} {j s : Nat} {g b : Bool} (hs : (ops[j]?).bind (·.dst) = some s) (he : e.get s = some (.bool b)) (hb : b = g)
    (h : LW C ops Q (⟨dst, op, t, pos, af, none⟩ :: rest) e fs) : LW C ops Q (⟨dst, op, t, pos, af, some (j, g)⟩ :: rest) e fs := LW.guardT hs (by rw [he, hb]) h
theorem LW.guardF' {C : Cu} {ops : Array Oper} {Q : Post} {rest : List Oper} {fs : Fs} {d : Nat} {op : Op} {t : TypeId} {pos : String} {af : Array Edge} {j s : Nat} {g b : Bool} (hs : (ops[j]?).bind (·.dst) = some s) (he : e.get s = some (.bool b)) (hb : b = !g) (hd : Nat.blt d C.N = true)
    (h : LW C ops Q rest ((d, undef) :: e) fs) : LW C ops Q (⟨some d, op, t, pos, af, some (j, g)⟩ :: rest) e fs := LW.guardF hs (by rw [he, hb]) hd h
theorem wantYes {ops : Array Oper} {j s : Nat} {g b : Bool} (hs : (ops[j]?).bind (·.dst) = some s) (he : e.get s = some (.bool b)) (hb : b = g) : WantT ops e (some (j, g)) := WantT.some hs (by rw [he, hb])
theorem DW.skip' {C : Cu} {ops : Array Oper} {Q : Post} {tl rest : List Oper} {ts : Ts} {μ : Mu} {k d : Nat} {op : Op} {t : TypeId} {pos : String} {af : Array Edge} {j s : Nat} {g b : Bool} (hk : ops[k]? = some ⟨some d, op, t, pos, af, some (j, g)⟩) (hd : Nat.blt d C.N = true) (hs : (ops[j]?).bind (·.dst) = some s)
    (he : e.get s = some (.bool b)) (hb : b = !g) (kk : DW C ops μ Q tl rest (k + 1) ((d, undef) :: e) ts) : DW C ops μ Q tl (⟨some d, op, t, pos, af, some (j, g)⟩ :: rest) k e ts := DW.skip hk hd hs (by rw [he, hb]) kk
theorem ValP.pickT' {c x y : Operand} {v : Value} {b : Bool} (hc : e.ev c = some (.bool b)) (hb : b = true) (h : e.ev x = some v) : ValP P e [] (.pick c x y) v := .pickT (by rw [hc, hb]) h
theorem ValP.pickF' {c x y : Operand} {v : Value} {b : Bool} (hc : e.ev c = some (.bool b)) (hb : b = false) (h : e.ev y = some v) : ValP P e [] (.pick c x y) v := .pickF (by rw [hc, hb]) h
theorem ValP.notT {T : TypeId} {x : Operand} {b : Bool} (hx : e.ev x = some (.bool b)) (hb : b = true) : ValP P e [] (.unOp .not T x) (.bool false) := by subst hb; exact .notB hx
theorem ValP.notF {T : TypeId} {x : Operand} {b : Bool} (hx : e.ev x = some (.bool b)) (hb : b = false) : ValP P e [] (.unOp .not T x) (.bool true) := by subst hb; exact .notB hx
theorem ValP.pick {c x y : Operand} {v : Bool} {b u : Bool} (hc : e.ev c = some (.bool b)) (h : e.ev x = some (.bool v)) (h' : e.ev y = some (.bool u)) : ValP P e [] (.pick c x y) (.bool (bif b then v else u)) := by
  cases b
  · exact .pickF hc h'
  · exact .pickT hc h

/-! ### Calls of plain functions -/
theorem arr_id (l : List Value) : (#[] : Array Value) ++ l.toArray ++ (#[] : Array Value) = l.toArray := by simp
section ce
variable {C : Cu} {ops : Array Oper} {Q : Post} {tl rest : List Oper} {fs : Fs} {ts : Ts} {μ : Mu} {k d : Nat} {t : TypeId} {pos : String} {af : Array Edge} {g : Option (Nat × Bool)}
theorem LW.callE {fo : Operand} {args : Array Operand} {tys : Array TypeId} {f : FuncId} {vs : List Value} {v : Value} (hd : Nat.blt d C.N = true) (hf : e.ev fo = some (.func (.func f) #[] #[])) (hF : FnI C.P f) (ha : ArgsOk e args.toList vs)
    (hc : ∀ w, St C.w0 C.S fs w → Calls C.P f vs.toArray w (Ret w v)) (kk : LW C ops Q rest ((d, v) :: e) fs) : LW C ops Q (⟨some d, .call { callee := .value fo, args := args, argTypes := tys }, t, pos, af, none⟩ :: rest) e fs :=
  LW.call hd hf hF ha (fun w hw => by rw [arr_id]; exact hc w hw) kk
theorem DW.callE {fo : Operand} {args : Array Operand} {tys : Array TypeId} {f : FuncId} {vs : List Value} {v : Value} {bs : List Nat} {us : Fs} {ts' : Ts} (hk : ops[k]? = some ⟨some d, .call { callee := .value fo, args := args, argTypes := tys }, t, pos, af, g⟩) (hm : μ k = none)
    (hd : Nat.blt d C.N = true) (hg : WantT ops e g) (hf : e.ev fo = some (.func (.func f) #[] #[])) (hF : FnI C.P f) (ha : ArgsOk e args.toList vs) (hb : (Value.func (.func f) #[] #[] :: vs).flatMap (blocksN 4) = bs) (hr : ReadAll C ops k bs ts us ts')
    (hc : ∀ w, Bel C.w0.heap.size C.S C.w0 w → (∀ p ∈ us, w.heap[p.1]? = some p.2) → Calls C.P f vs.toArray w (Ret w v)) (kk : DW C ops μ Q tl rest (k + 1) ((d, v) :: e) ts') :
    DW C ops μ Q tl (⟨some d, .call { callee := .value fo, args := args, argTypes := tys }, t, pos, af, g⟩ :: rest) k e ts :=
  DW.call hk hm hd hg hf hF ha hb hr (fun w h1 h2 => by rw [arr_id]; exact hc w h1 h2) kk
/-- A call that hands back facts of new blocks (any order). -/
theorem DW.manyE {fo : Operand} {args : Array Operand} {tys : Array TypeId} {f : FuncId} {vs : List Value} {M : Rel1} {bs : List Nat} {us : Fs} {ts' : Ts} (hk : ops[k]? = some ⟨some d, .call { callee := .value fo, args := args, argTypes := tys }, t, pos, af, g⟩) (hm : μ k = some M)
    (hd : Nat.blt d C.N = true) (hg : WantT ops e g) (hf : e.ev fo = some (.func (.func f) #[] #[])) (hF : FnI C.P f) (ha : ArgsOk e args.toList vs) (hb : (Value.func (.func f) #[] #[] :: vs).flatMap (blocksN 4) = bs) (hr : ReadAll C ops k bs ts us ts')
    (hc : ∀ w, Bel C.w0.heap.size C.S C.w0 w → (∀ p ∈ us, w.heap[p.1]? = some p.2) → Calls C.P f vs.toArray w (RetG w [] M)) (kk : ∀ v gs, M v gs → DW C ops μ Q tl rest (k + 1) ((d, v) :: e) (tsNew k gs ++ ts')) :
    DW C ops μ Q tl (⟨some d, .call { callee := .value fo, args := args, argTypes := tys }, t, pos, af, g⟩ :: rest) k e ts :=
  DW.many hk hm hd hg (fun ρ hρ => by rw [touch_call hf ha hρ, hb]) (.fn hf ha) hr (fun w h1 h2 => by rw [arr_id]; exact hc w h1 h2) kk
theorem fsOf_new {k : Nat} {gs : Fs} : fsOf (tsNew k gs) = gs := by
  simp only [fsOf, tsNew, List.map_map]
  exact List.map_id _
end ce

/-! ### Conversions of integers, by kinds -/
section cv
variable {S T : TypeId} {x : Operand} {k : IntKind}
theorem ValP.convI {n : Int} {dd : TypeDesc} [UnI P S dd] [UnI P T (.int .i64)] (hx : e.ev x = some (.int k n)) (h0 : -9223372036854775808 ≤ n) (h1 : n ≤ 9223372036854775807) : ValP P e [] (.convert S T x) (.int .i64 n) := .conv_in (ds := dd) hx (wrapI n h0 h1)
theorem ValP.convN {n : Int} {dd : TypeDesc} [UnI P S dd] [UnI P T (.int .u64)] (hx : e.ev x = some (.int k n)) (h0 : 0 ≤ n) (h1 : n < 18446744073709551616) : ValP P e [] (.convert S T x) (.int .u64 n) := .conv_in (ds := dd) hx (by rw [wrapU]; omega)
theorem ValP.convB {n : Nat} {dd : TypeDesc} [UnI P S dd] [UnI P T (.int .u8)] (hx : e.ev x = some (.int k (n : Int))) : ValP P e [] (.convert S T x) (.int .u8 ((n % 256 : Nat) : Int)) := by
  have h := ValP.conv (P := P) (S := S) (T := T) (ds := dd) (k' := .u8) hx
  rwa [wrapB, show (n : Int) % 256 = ((n % 256 : Nat) : Int) by omega] at h
end cv

/-! ### A tuple's part -/
theorem ValP.extractN {x : Operand} {i : Nat} {vs : Array Value} {v : Value} (hx : e.ev x = some (.tuple vs)) (hi : nth vs.toList i = some v) : ValP P e [] (.extract x i) v := ValP.extract hx (by rw [nth_eq] at hi; simpa using hi)

/-! ### Integers without sign, as natural numbers -/
theorem or64 {a b : Nat} (ha : a < 18446744073709551616) (hb : b < 18446744073709551616) : a ||| b < 18446744073709551616 := Nat.or_lt_two_pow (n := 64) ha hb
theorem xor64 {a b : Nat} (ha : a < 18446744073709551616) (hb : b < 18446744073709551616) : a ^^^ b < 18446744073709551616 := Nat.xor_lt_two_pow (n := 64) ha hb
theorem div64 {a b : Nat} (ha : a < 18446744073709551616) : a / b < 18446744073709551616 := Nat.lt_of_le_of_lt (Nat.div_le_self _ _) ha
theorem and64 {a b : Nat} (ha : a < 18446744073709551616) : a &&& b < 18446744073709551616 := Nat.lt_of_le_of_lt Nat.and_le_left ha
section nats
variable {T ty : TypeId} {x y : Operand} {m n : Nat}
theorem ValP.addN (hx : e.ev x = some (.int .u64 (m : Int))) (hy : e.ev y = some (.int .u64 (n : Int))) : ValP P e [] (.binOp .add T x y ty) (.int .u64 (((m + n) % 18446744073709551616 : Nat) : Int)) := by
  have := ValP.addU (P := P) (T := T) (ty := ty) hx hy
  simpa using this
theorem ValP.subN (hx : e.ev x = some (.int .u64 (m : Int))) (hy : e.ev y = some (.int .u64 (n : Int))) (h : n ≤ m) (hm : m < 18446744073709551616) : ValP P e [] (.binOp .sub T x y ty) (.int .u64 ((m - n : Nat) : Int)) := by
  have := ValP.subU (P := P) (T := T) (ty := ty) hx hy
  have h1 : ((m : Int) - n) % 18446744073709551616 = ((m - n : Nat) : Int) := by omega
  rwa [h1] at this
theorem ValP.mulN (hx : e.ev x = some (.int .u64 (m : Int))) (hy : e.ev y = some (.int .u64 (n : Int))) : ValP P e [] (.binOp .mul T x y ty) (.int .u64 ((m * n % 18446744073709551616 : Nat) : Int)) := by
  have := ValP.mulU (P := P) (T := T) (ty := ty) hx hy
  simpa using this
theorem ValP.quoN (hx : e.ev x = some (.int .u64 (m : Int))) (hy : e.ev y = some (.int .u64 (n : Int))) (hn : 0 < n) (hm : m < 18446744073709551616) : ValP P e [] (.binOp .quo T x y ty) (.int .u64 ((m / n : Nat) : Int)) := by
  have := ValP.quoU (P := P) (T := T) (ty := ty) hx hy (by omega) (by omega) (by omega)
  simpa using this
theorem ValP.remN (hx : e.ev x = some (.int .u64 (m : Int))) (hy : e.ev y = some (.int .u64 (n : Int))) (hn : 0 < n) : ValP P e [] (.binOp .rem T x y ty) (.int .u64 ((m % n : Nat) : Int)) := by
  have := ValP.remU (P := P) (T := T) (ty := ty) hx hy (by omega) (by omega)
  simpa using this
end nats

/-! ### Calls that the model answers at once -/
class ExI (P : Program) (f : FuncId) (F : outParam (List Value → Option Value)) : Prop where
  ext : ∀ vs v w, F vs = some v → (callFunc f vs.toArray).run P w = .ok (.value v) w

theorem ValP.callX {fo : Operand} {args : Array Operand} {tys : Array TypeId} {f : FuncId} {vs : List Value} {v : Value} (hf : e.ev fo = some (.func (.func f) #[] #[])) (ha : ArgsOk e args.toList vs) (h : ∀ w, (callFunc f vs.toArray).run P w = .ok (.value v) w) :
    ValP P e [] (.call { callee := .value fo, args := args, argTypes := tys }) v := fun ρ w hρ _ d t pos af g => by
  simp [execOp, resolve, invoke, Deferred.ofValue, hρ fo _ hf, ha.arr hρ, h]

section dx
variable {C : Cu} {ops : Array Oper} {Q : Post} {tl rest : List Oper} {ts : Ts} {μ : Mu} {k d : Nat} {t : TypeId} {pos : String} {af : Array Edge} {g : Option (Nat × Bool)}
theorem DW.callX {fo : Operand} {args : Array Operand} {tys : Array TypeId} {f : FuncId} {vs : List Value} {v : Value} (hk : ops[k]? = some ⟨some d, .call { callee := .value fo, args := args, argTypes := tys }, t, pos, af, g⟩) (hm : μ k = none)
    (hd : Nat.blt d C.N = true) (hg : WantT ops e g) (hf : e.ev fo = some (.func (.func f) #[] #[])) (ha : ArgsOk e args.toList vs) (hb : (Value.func (.func f) #[] #[] :: vs).flatMap (blocksN 4) = []) (h : ∀ w, (callFunc f vs.toArray).run C.P w = .ok (.value v) w)
    (kk : DW C ops μ Q tl rest (k + 1) ((d, v) :: e) ts) : DW C ops μ Q tl (⟨some d, .call { callee := .value fo, args := args, argTypes := tys }, t, pos, af, g⟩ :: rest) k e ts :=
  DW.vr hk hm hd hg (fun ρ hρ => by rw [touch_call hf ha hρ, hb]) (.callX hf ha h) .nil kk
end dx

/-! ### Where a fact stands -/
inductive FsAt : Fs → Nat → Obj → Prop
  | head {b : Nat} {o : Obj} {r : Fs} : FsAt ((b, o) :: r) b o
  | tail {p : Nat × Obj} {b : Nat} {o : Obj} {r : Fs} (h : FsAt r b o) : FsAt (p :: r) b o
  | app {s : Fs} {b : Nat} {o : Obj} {r : Fs} (h : FsAt r b o) : FsAt (s ++ r) b o
theorem FsAt.mem {fs : Fs} {b : Nat} {o : Obj} (h : FsAt fs b o) : (b, o) ∈ fs := by
  induction h with
  | head => exact List.mem_cons_self
  | tail _ ih => exact List.mem_cons_of_mem _ ih
  | app _ ih => exact List.mem_append_right _ ih
theorem Known.at {C : Cu} {fs : Fs} {b : Nat} {o : Obj} (h : FsAt fs b o) : Known C fs (b, o) := .inl h.mem

/-! ### A region that draws its order: first seen to be one -/
theorem tsOf_nil : tsOf [] = [] := rfl
theorem tsOf_cons {b : Nat} {o : Obj} {fs : Fs} : tsOf ((b, o) :: fs) = (b, o, [], []) :: tsOf fs := rfl
theorem tsOf_app {s fs : Fs} : tsOf (s ++ fs) = tsOf s ++ tsOf fs := by simp [tsOf]
theorem fsOf_nil : fsOf [] = [] := rfl
theorem fsOf_cons {b : Nat} {o : Obj} {ws rs : List Nat} {ts : Ts} : fsOf ((b, o, ws, rs) :: ts) = (b, o) :: fsOf ts := rfl
theorem fsOf_app {s ts : Ts} : fsOf (s ++ ts) = fsOf s ++ fsOf ts := by simp [fsOf]
theorem fsOf_tsOf {fs : Fs} : fsOf (tsOf fs) = fs := by
  induction fs with
  | nil => rfl
  | cons p r ih => show (p.1, p.2) :: fsOf (tsOf r) = _; rw [ih]
theorem TRead.app {ops : Array Oper} {k : Nat} {s r r' : Ts} {b : Nat} {o : Obj} (h : TRead ops k r b o r') : TRead ops k (s ++ r) b o (s ++ r') := by
  induction s with
  | nil => exact h
  | cons p t ih => exact .tail ih
theorem TSet.app {ops : Array Oper} {k : Nat} {s r r' : Ts} {b : Nat} {o o' : Obj} (h : TSet ops k o' r b o r') : TSet ops k o' (s ++ r) b o (s ++ r') := by
  induction s with
  | nil => exact h
  | cons p t ih => exact .tail ih
def AnyW (C : Cu) (id : Nat) (l : List Oper) (Q : Post) (e : Env) (fs : Fs) : Prop := CW C (.region id l.toArray true) Q e fs
theorem CW.pre {C : Cu} {id : Nat} {l : List Oper} {Q : Post} {fs : Fs} (h : AnyW C id l Q e fs) : CW C (.region id l.toArray true) Q e fs := h
/-- Where nothing is told. -/
def noMu : Mu := fun _ => none
theorem AnyW.any {C : Cu} {id : Nat} {l : List Oper} {Q : Post} {fs : Fs} (n : Nat) (hm : C.P.follows .mixedOrders = true) (hB : headB l.toArray n = true) (h : DW C l.toArray noMu Q (l.drop n) (l.take n) 0 e (tsOf fs)) :
    AnyW C id l Q e fs := CW.any noMu n hm hB h
/-- What the operations at these places hand back. -/
def muL (l : List (Nat × Rel1)) : Mu := fun k => (l.find? fun p => Nat.beq p.1 k).map (·.2)
theorem AnyW.anyM {C : Cu} {id : Nat} {l : List Oper} {Q : Post} {fs : Fs} (ms : List (Nat × Rel1)) (n : Nat) (hm : C.P.follows .mixedOrders = true) (hB : headB l.toArray n = true) (h : DW C l.toArray (muL ms) Q (l.drop n) (l.take n) 0 e (tsOf fs)) :
    AnyW C id l Q e fs := CW.any (muL ms) n hm hB h

/-! ### Words of 256 bits -/
/-- A number below 2^256 as four limbs, the least one first. -/
def wc (n : Nat) : Array Value := #[.int .u64 ((n % 18446744073709551616 : Nat) : Int), .int .u64 ((n / 18446744073709551616 % 18446744073709551616 : Nat) : Int), .int .u64 ((n / 340282366920938463463374607431768211456 % 18446744073709551616 : Nat) : Int), .int .u64 ((n / 6277101735386680763835789423207666416102355444464034512896 % 18446744073709551616 : Nat) : Int)]
abbrev wv (n : Nat) : Value := .agg (wc n)
abbrev M256 : Nat := 115792089237316195423570985008687907853269984665640564039457584007913129639936
theorem wc_of (a b c d : Nat) (ha : a < 18446744073709551616) (hb : b < 18446744073709551616) (hc : c < 18446744073709551616) (hd : d < 18446744073709551616) :
    #[Value.int .u64 (a : Int), .int .u64 (b : Int), .int .u64 (c : Int), .int .u64 (d : Int)] = wc (a + 18446744073709551616 * b + 340282366920938463463374607431768211456 * c + 6277101735386680763835789423207666416102355444464034512896 * d) := by
  have e0 : (a + 18446744073709551616 * b + 340282366920938463463374607431768211456 * c + 6277101735386680763835789423207666416102355444464034512896 * d) % 18446744073709551616 = a := by omega
  have e1 : (a + 18446744073709551616 * b + 340282366920938463463374607431768211456 * c + 6277101735386680763835789423207666416102355444464034512896 * d) / 18446744073709551616 % 18446744073709551616 = b := by omega
  have e2 : (a + 18446744073709551616 * b + 340282366920938463463374607431768211456 * c + 6277101735386680763835789423207666416102355444464034512896 * d) / 340282366920938463463374607431768211456 % 18446744073709551616 = c := by omega
  have e3 : (a + 18446744073709551616 * b + 340282366920938463463374607431768211456 * c + 6277101735386680763835789423207666416102355444464034512896 * d) / 6277101735386680763835789423207666416102355444464034512896 % 18446744073709551616 = d := by omega
  unfold wc
  rw [e0, e1, e2, e3]
theorem wc_val {n a b c d : Nat} (ha : a < 18446744073709551616) (hb : b < 18446744073709551616) (hc : c < 18446744073709551616) (hd : d < 18446744073709551616)
    (h : n = a + 18446744073709551616 * b + 340282366920938463463374607431768211456 * c + 6277101735386680763835789423207666416102355444464034512896 * d) :
    #[Value.int .u64 (a : Int), .int .u64 (b : Int), .int .u64 (c : Int), .int .u64 (d : Int)] = wc n := by rw [h]; exact wc_of a b c d ha hb hc hd
def wl (n : Nat) : List Int := [((n % 18446744073709551616 : Nat) : Int), ((n / 18446744073709551616 % 18446744073709551616 : Nat) : Int), ((n / 340282366920938463463374607431768211456 % 18446744073709551616 : Nat) : Int), ((n / 6277101735386680763835789423207666416102355444464034512896 % 18446744073709551616 : Nat) : Int)]
theorem getInts_wc (n : Nat) : getInts .u64 (wc n).toList = some (wl n) := rfl
theorem wl_eq {a b : Nat} (ha : a < M256) (hb : b < M256) : (wl a = wl b) ↔ a = b := by
  refine ⟨fun h => ?_, fun h => by rw [h]⟩
  simp only [wl, List.cons.injEq, and_true] at h
  simp only [M256] at ha hb
  omega
section weq
variable {T ty : Nat} [EqI P T 4 .u64] {x y : Operand} {a b : Nat}
theorem ValP.eqW (hx : e.ev x = some (.agg (wc a))) (hy : e.ev y = some (.agg (wc b))) (ha : a < M256) (hb : b < M256) : ValP P e [] (.binOp .eql T x y ty) (.bool (decide (a = b))) := by
  have := ValP.eqlA (P := P) (T := T) (ty := ty) hx hy (getInts_wc a) (getInts_wc b) rfl rfl
  simpa only [wl_eq ha hb] using this
theorem ValP.neW (hx : e.ev x = some (.agg (wc a))) (hy : e.ev y = some (.agg (wc b))) (ha : a < M256) (hb : b < M256) : ValP P e [] (.binOp .neq T x y ty) (.bool (!decide (a = b))) := by
  have := ValP.neqA (P := P) (T := T) (ty := ty) hx hy (getInts_wc a) (getInts_wc b) rfl rfl
  simpa only [wl_eq ha hb] using this
theorem ValP.eqWT (hx : e.ev x = some (.agg (wc a))) (hy : e.ev y = some (.agg (wc b))) (h : a = b) : ValP P e [] (.binOp .eql T x y ty) (.bool true) := by
  subst h
  simpa using ValP.eqlA (P := P) (T := T) (ty := ty) hx hy (getInts_wc a) (getInts_wc a) rfl rfl
theorem ValP.neWF (hx : e.ev x = some (.agg (wc a))) (hy : e.ev y = some (.agg (wc b))) (h : a = b) : ValP P e [] (.binOp .neq T x y ty) (.bool false) := by
  subst h
  simpa using ValP.neqA (P := P) (T := T) (ty := ty) hx hy (getInts_wc a) (getInts_wc a) rfl rfl
theorem ValP.eqWF (hx : e.ev x = some (.agg (wc a))) (hy : e.ev y = some (.agg (wc b))) (ha : a < M256) (hb : b < M256) (h : a ≠ b) : ValP P e [] (.binOp .eql T x y ty) (.bool false) := by
  have := ValP.eqW (P := P) (T := T) (ty := ty) hx hy ha hb
  rwa [decide_eq_false h] at this
theorem ValP.neWT (hx : e.ev x = some (.agg (wc a))) (hy : e.ev y = some (.agg (wc b))) (ha : a < M256) (hb : b < M256) (h : a ≠ b) : ValP P e [] (.binOp .neq T x y ty) (.bool true) := by
  have := ValP.neW (P := P) (T := T) (ty := ty) hx hy ha hb
  rwa [decide_eq_false h] at this
end weq
end Go.Proofs.Ytahoghldnijnbaa.SL
