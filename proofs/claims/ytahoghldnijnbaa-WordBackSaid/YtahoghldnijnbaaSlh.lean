/-
  A SMALL LOGIC OVER THE KIT's WALK, PART H: rows that grow (append), made and built slices.
  Conditions: none; over any program.
-/
import Derived.Test.YtahoghldnijnbaaSlg
import Derived.Laws.AppendOwn
namespace Go.Proofs.Ytahoghldnijnbaa.SL
set_option linter.unusedVariables false
set_option linter.unusedSimpArgs false
open Go Go.RowKit

/-- A slice of ours that may grow: nil; or n elements, each of so many cells, at the front of a block of its own. -/
inductive IsRow (E : TypeId) (size : Nat) : Value → Nat → List Value → Fs → Prop
  | nil : IsRow E size (.slice none 0 0) 0 [] []
  | own {g n cap : Nat} {cur : Array Value} {xs : List Value} (hn : n ≤ cap) (hm : cap ≤ maxLen) (hc : cur.size = cap * size) (ht : cur.toList.take (n * size) = xs) (hl : xs.length = n * size) : IsRow E size (.slice (some ⟨g, 0, none⟩) n cap) n xs [(g, .cells cur E (0, 0))]

theorem IsRow.len {E : TypeId} {size n : Nat} {v : Value} {xs : List Value} {seg : Fs} (h : IsRow E size v n xs seg) : xs.length = n * size := by
  cases h with
  | nil => simp
  | own _ _ _ _ hl => exact hl

theorem Bel.set {B : Nat} {S : List Nat} {a w : World} (h : Bel B S a w) : Bel B S a w.drew := h.drew

theorem St.swap {w0 : World} {S : List Nat} {pre post : Fs} {b b' : Nat} {o o' : Obj} {w w' : World} (h : St w0 S (pre ++ (b, o) :: post) w) (hb : Bel w0.heap.size S w0 w') (hn : w'.heap[b']? = some o') (hlo : w0.heap.size ≤ b' ∨ b' ∈ S) (hne : b' = b ∨ w.heap.size ≤ b') (hk : ∀ k, k < w.heap.size → k ≠ b' → w'.heap[k]? = w.heap[k]?) :
    St w0 S (pre ++ (b', o') :: post) w' := by
  have hlt : ∀ p ∈ pre ++ (b, o) :: post, p.1 < w.heap.size := fun p hp => (Array.getElem?_eq_some_iff.1 (h.own p hp).2).1
  obtain ⟨n1, n2, n3⟩ := List.pairwise_append.1 h.nd
  obtain ⟨n4, n5⟩ := List.pairwise_cons.1 n2
  have hpre : ∀ p ∈ pre, p.1 ≠ b' := fun p hp e => by
    rcases hne with rfl | hge
    · exact n3 p hp (b', o) List.mem_cons_self e
    · have := hlt p (List.mem_append_left _ hp); omega
  have hpost : ∀ p ∈ post, b' ≠ p.1 := fun p hp e => by
    rcases hne with rfl | hge
    · exact n4 p hp e
    · have := hlt p (List.mem_append_right _ (List.mem_cons_of_mem _ hp)); omega
  refine ⟨hb, fun p hp => ?_, List.pairwise_append.2 ⟨n1, List.pairwise_cons.2 ⟨fun p hp => hpost p hp, n5⟩, fun p hp q hq => ?_⟩⟩
  · rcases List.mem_append.1 hp with hp | hp
    · obtain ⟨h1, h2⟩ := h.own p (List.mem_append_left _ hp)
      exact ⟨h1, by rw [hk _ (hlt p (List.mem_append_left _ hp)) (hpre p hp)]; exact h2⟩
    · rcases List.mem_cons.1 hp with rfl | hp
      · exact ⟨hlo, hn⟩
      · obtain ⟨h1, h2⟩ := h.own p (List.mem_append_right _ (List.mem_cons_of_mem _ hp))
        exact ⟨h1, by rw [hk _ (hlt p (List.mem_append_right _ (List.mem_cons_of_mem _ hp))) (fun e => hpost p hp e.symm)]; exact h2⟩
  · rcases List.mem_cons.1 hq with rfl | hq
    · exact hpre p hp
    · exact n3 p hp q (List.mem_cons_of_mem _ hq)

theorem St.lay {w0 : World} {S : List Nat} {pre post : Fs} {b' : Nat} {o' : Obj} {w w' : World} (h : St w0 S (pre ++ post) w) (hb : Bel w0.heap.size S w0 w') (hn : w'.heap[b']? = some o') (hge : w.heap.size ≤ b') (hk : ∀ k, k < w.heap.size → w'.heap[k]? = w.heap[k]?) :
    St w0 S (pre ++ (b', o') :: post) w' := by
  have hlt : ∀ p ∈ pre ++ post, p.1 < w.heap.size := fun p hp => (Array.getElem?_eq_some_iff.1 (h.own p hp).2).1
  obtain ⟨n1, n2, n3⟩ := List.pairwise_append.1 h.nd
  refine ⟨hb, fun p hp => ?_, List.pairwise_append.2 ⟨n1, List.pairwise_cons.2 ⟨fun p hp e => ?_, n2⟩, fun p hp q hq => ?_⟩⟩
  · rcases List.mem_append.1 hp with hp | hp
    · obtain ⟨h1, h2⟩ := h.own p (List.mem_append_left _ hp)
      exact ⟨h1, by rw [hk _ (hlt p (List.mem_append_left _ hp))]; exact h2⟩
    · rcases List.mem_cons.1 hp with rfl | hp
      · exact ⟨.inl (Nat.le_trans h.bel.size hge), hn⟩
      · obtain ⟨h1, h2⟩ := h.own p (List.mem_append_right _ hp)
        exact ⟨h1, by rw [hk _ (hlt p (List.mem_append_right _ hp))]; exact h2⟩
  · have := hlt p (List.mem_append_right _ hp); have e' : b' = p.1 := e; omega
  · rcases List.mem_cons.1 hq with rfl | hq
    · intro e; have := hlt p (List.mem_append_left _ hp); have e' : p.1 = b' := e; omega
    · exact n3 p hp q hq

/-- **append**, on a row of ours: the row is longer; all else is as it was. -/
theorem row_append {P : Program} {T E ty : TypeId} {i : TypeInfo} {z : Value} {size : Nat} (ht : P.underlying T = some (.slice E)) (hi : P.info? E = some i) (hz : i.zero = some z) (hsz : i.size = size) (hzs : z.cells.size = size)
    {v : Value} {n : Nat} {xs : List Value} {seg pre post : Fs} {w0 : World} {S : List Nat} {w : World} (h : IsRow E size v n xs seg) (hs : St w0 S (pre ++ (seg ++ post)) w)
    (a : Addr) (m c : Nat) (news : List Value) (hl : news.length = m * size) (hnews : ∀ j u, news[j]? = some u → w.cell? (a.add j) = some u) (h1 : ∀ u ∈ news, u.oneCell' = true) (hm : 0 < m) (h63 : n + m ≤ maxLen) (hbytes : (n + m) * i.bytes ≤ 140737488355328) :
    ∃ v' seg' w', (Builtin.append_ #[T, T] ty #[v, .slice (some a) m c]).run P w = .ok v' w' ∧ IsRow E size v' (n + m) (xs ++ news) seg' ∧ St w0 S (pre ++ (seg' ++ post)) w' := by
  subst hsz
  have h63' : n + m ≤ 9223372036854775807 := by simp only [maxLen] at h63; omega
  have fresh : ∀ (old : Nat) (o : Obj), Bel w0.heap.size S w0 (w.drew.alloc o) := fun old o => (hs.bel.drew).alloc (by have := hs.bel.size; simpa [World.drew] using this) o
  have alike : ∀ (o : Obj) k, k < w.heap.size → (w.drew.alloc o).heap[k]? = w.heap[k]? := fun o k hk => Below.heap_alloc w.drew o k hk
  have cells : ∀ (old : Nat) (ys : List Value), ys.length = n * i.size → ((ys.toArray ++ news.toArray ++ Builtin.zeroCells z.cells (grownCap w (n + m) old E - (n + m))).size = grownCap w (n + m) old E * i.size) ∧
      (ys.toArray ++ news.toArray ++ Builtin.zeroCells z.cells (grownCap w (n + m) old E - (n + m))).toList.take ((n + m) * i.size) = ys ++ news := fun old ys hys => by
    have hge := grownCap_ge w (n + m) old E
    constructor
    · simp only [Array.size_append, List.size_toArray, size_zeroCells, hzs, hys, hl, ← Nat.add_mul]
      congr 1
      omega
    · have hlen : (ys ++ news).length = (n + m) * i.size := by rw [List.length_append, hys, hl, Nat.add_mul]
      simp only [Array.toList_append, List.append_assoc]
      rw [← List.append_assoc, ← hlen]
      exact List.take_left
  cases h with
  | nil =>
    simp only [Nat.zero_add] at *
    have hr := run_append_nil (P := P) w T ty E i z ht hi hz a m c news hl hnews hm (by omega) (by omega)
    obtain ⟨c1, c2⟩ := cells 0 [] (by simp)
    simp only [List.nil_append, Array.empty_append] at c1 c2
    refine ⟨_, [(w.heap.size, .cells (news.toArray ++ Builtin.zeroCells z.cells (grownCap w m 0 E - m)) E (0, 0))], _, hr, .own (grownCap_ge w m 0 E) (grownCap_le_maxLen w m 0 E h63) c1 c2 hl, ?_⟩
    exact St.lay (w := w) hs (fresh 0 _) (World.alloc_heap_new w.drew _) (Nat.le_refl _) (alike _)
  | @own g _ cap cur _ hn hmx hc htk hlx =>
    obtain ⟨hg1, hg2⟩ := hs.own (g, .cells cur E (0, 0)) (List.mem_append_right _ (by simp))
    by_cases hroom : n + m ≤ cap
    · have hfit : n * i.size + news.length ≤ cur.size := by rw [hl, hc, ← Nat.add_mul]; exact Nat.mul_le_mul_right _ hroom
      have hr := run_append_room (P := P) w T ty E i ht hi g n cap cur hg2 a m c news hl hnews h1 hroom hfit
      refine ⟨_, [(g, .cells (cur.toList.take (n * i.size) ++ news ++ cur.toList.drop (n * i.size + news.length)).toArray E (0, 0))], _, hr, .own hroom hmx ?_ ?_ (by rw [List.length_append, hlx, hl, Nat.add_mul]), ?_⟩
      · simp only [List.size_toArray, List.length_append, List.length_take, List.length_drop, Array.length_toList]
        omega
      · rw [htk, ← show (xs ++ news).length = (n + m) * i.size by rw [List.length_append, hlx, hl, Nat.add_mul]]
        exact List.take_left
      · refine St.swap (w := w) hs (hs.bel.trans ⟨rfl, rfl, rfl, by simp, fun k hk hS => setRow_other w g k _ (fun e => ?_)⟩) (setRow_heap w g cur _ E _ hg2) hg1 (.inl rfl) (fun k _ hk => setRow_other w g k _ hk)
        subst e
        rcases hg1 with hg1 | hg1
        · exact absurd hk (by have : w0.heap.size ≤ k := hg1; omega)
        · exact hS hg1
    · have holds : ∀ j u, xs[j]? = some u → w.cell? ((⟨g, 0, none⟩ : Addr).add j) = some u := fun j u hu => by
        rw [addr_add, Nat.zero_add, cell_of hg2]
        rw [← htk, List.getElem?_take] at hu
        split at hu
        · simpa using hu
        · cases hu
      have hr := run_append_grow (P := P) w T ty E i z ht hi hz ⟨g, 0, none⟩ n cap xs hlx holds a m c news hl hnews (by omega) (by omega) (growslice_fits (by omega) hbytes)
      obtain ⟨c1, c2⟩ := cells cap xs hlx
      refine ⟨_, [(w.heap.size, .cells (xs.toArray ++ news.toArray ++ Builtin.zeroCells z.cells (grownCap w (n + m) cap E - (n + m))) E (0, 0))], _, hr, .own (grownCap_ge w (n + m) cap E) (grownCap_le_maxLen w (n + m) cap E h63) c1 c2 (by rw [List.length_append, hlx, hl, Nat.add_mul]), ?_⟩
      exact St.swap (w := w) hs (fresh 0 _) (World.alloc_heap_new w.drew _) (.inl hs.bel.size) (.inr (Nat.le_refl _)) (fun k hk _ => alike _ k hk)

/-- A type's size in bytes. -/
class BytI (P : Program) (T : TypeId) (b : outParam Nat) : Prop where
  byt : (P.info? T).map (·.bytes) = some b

theorem info_all {P : Program} {T : TypeId} {n b : Nat} {z : Value} [h : InfoI P T n z] [h' : BytI P T b] : ∃ i, P.info? T = some i ∧ i.size = n ∧ i.zero = some z ∧ i.bytes = b := by
  obtain ⟨i, h1, h2, h3⟩ := info_of (P := P) (T := T)
  have := h'.byt
  rw [h1] at this
  exact ⟨i, h1, h2, h3, by simpa using this⟩

/-- Where a segment of facts stands. -/
inductive AtSeg : Fs → Fs → Fs → Fs → Prop
  | head {seg post : Fs} : AtSeg (seg ++ post) [] seg post
  | cons {p : Nat × Obj} {r pre seg post : Fs} (h : AtSeg r pre seg post) : AtSeg (p :: r) (p :: pre) seg post
  | app {s r pre seg post : Fs} (h : AtSeg r pre seg post) : AtSeg (s ++ r) (s ++ pre) seg post
theorem AtSeg.eq {fs pre seg post : Fs} (h : AtSeg fs pre seg post) : fs = pre ++ (seg ++ post) := by
  induction h with
  | head => rfl
  | cons _ ih => rw [ih]; rfl
  | app _ ih => rw [ih, List.append_assoc]

section ap
variable {C : Cu} {ops : Array Oper} {Q : Post} {rest : List Oper} {e : Env} {fs : Fs} {d : Nat} {t : TypeId} {pos : String} {af : Array Edge}
/-- **append(s, x...)**, s a row of ours; x: m elements that are known: the cells of a block, from off on. -/
theorem LW.append {s x : Operand} {tys : Array TypeId} {T E : TypeId} {size bytes : Nat} {z v : Value} {n m c b off : Nat} {cs : Array Value} {E' : TypeId} {fr : Nat × Nat} {xs news : List Value} {seg pre post : Fs} (hd : Nat.blt d C.N = true) (hT : tys = #[T, T]) (hU : UnI C.P T (.slice E)) (hI : InfoI C.P E size z) (hB : BytI C.P E bytes)
    (hz : z.cells.size = size) (hs : e.ev s = some v) (hx : e.ev x = some (.slice (some ⟨b, off, none⟩) m c)) (hseg : AtSeg fs pre seg post) (hrow : IsRow E size v n xs seg) (hk : Known C fs (b, .cells cs E' fr)) (hnews : (cs.toList.drop off).take (m * size) = news) (hl : news.length = m * size)
    (h1 : news.all Value.oneCell' = true) (hm : 0 < m) (h63 : n + m ≤ maxLen) (hb : (n + m) * bytes ≤ 140737488355328)
    (k : ∀ v' seg', IsRow E size v' (n + m) (xs ++ news) seg' → ∃ fs', AtSeg fs' pre seg' post ∧ LW C ops Q rest ((d, v') :: e) fs') :
    LW C ops Q (⟨some d, .call { callee := .builtin .append, args := #[s, x], argTypes := tys }, t, pos, af, none⟩ :: rest) e fs := fun a w hsat => by
  subst hT
  obtain ⟨i, i1, i2, i3, i4⟩ := info_all (P := C.P) (T := E)
  have hblk := hk.get hsat.st
  have hst := hsat.st
  rw [hseg.eq] at hst
  have hu : C.P.underlying T = some (.slice E) := UnI.un
  obtain ⟨v', seg', w', hr, hrow', hw'⟩ := row_append (P := C.P) (ty := t) hu i1 i3 i2 hz hrow hst ⟨b, off, none⟩ m c news hl (fun j u hj => by
    rw [addr_add, cell_of hblk]
    subst hnews
    rw [List.getElem?_take, List.getElem?_drop] at hj
    split at hj
    · simpa using hj
    · cases hj) (fun u hu => List.all_eq_true.1 h1 u hu) hm h63 (by rw [i4]; exact hb)
  obtain ⟨fs', hat, hK⟩ := k v' seg' hrow'
  have hrun : (execOp a.eval ⟨some d, .call { callee := .builtin .append, args := #[s, x], argTypes := #[T, T] }, t, pos, af, none⟩).run C.P w = .ok (.value v') w' := by
    simp [execOp, resolve, invoke, builtin, hsat.env.ev hs, hsat.env.ev hx, hr]
  refine wpListIn_take (wanted_none _ rfl _) ⟨fun _ _ => trivial, ?_⟩
  rw [semAt_FR (fun c h => by cases h), hrun]
  exact hK _ _ ⟨hsat.env.put hd, by rw [hat.eq]; exact hw'⟩
end ap

theorem wrCells_full : ∀ (vs : List Value) (c : Array Value) (off : Nat), off + vs.length = c.size → wrCells c off vs = (c.toList.take off ++ vs).toArray := by
  intro vs
  induction vs with
  | nil => intro c off h; simp at h; subst h; rw [wrCells, List.append_nil, List.take_of_length_le (by simp)]
  | cons v r ih =>
    intro c off h
    simp only [List.length_cons] at h
    rw [wrCells, ih _ _ (by simp; omega)]
    congr 1
    have hlt : off < c.toList.length := by simp; omega
    simp only [Array.toList_setIfInBounds]
    have hl : (c.toList.take off).length = off := by simp; omega
    rw [List.take_set, List.take_succ_eq_append_getElem hlt, List.set_append_right _ _ (by rw [hl]; exact Nat.le_refl _), hl, Nat.sub_self]
    simp

/-- A slice of one element. -/
theorem NewP.buildS1 {P : Program} {e : Env} {T E : TypeId} {size : Nat} {z v : Value} {x : Operand} [UnI P T (.slice E)] [InfoI P E size z] (hz : z.cells.size = size) (hs : Nat.blt 0 size = true) (hs' : Nat.ble size 1000000 = true) (hx : e.ev x = some v) (hv : v.cells.size = size) :
    NewP P e (.buildSlice T 1 #[(0, x)]) (.sl 1 1) (.cells v.cells E (0, 0)) := fun ρ w hρ d t pos af g => by
  have h0 : 0 < size := by simpa [Nat.blt_eq] using hs
  have h1 := Nat.le_of_ble_eq_true hs'
  have hf := fill_eq (sz := size) [(0, v)] ((Array.range (1 * size)).map (z.cells[· % z.cells.size]!)) (by simp [fillOk, hv])
  have hc : fillC size ((Array.range (1 * size)).map (z.cells[· % z.cells.size]!)) [(0, v)] = v.cells := by
    simp only [fillC, Nat.zero_mul]
    rw [wrCells_full _ _ _ (by simp [hv])]
    simp
  rw [hc] at hf
  have hr : (Instr.buildSlice T 1 ((#[(0, x)] : Array (Nat × Operand)).map fun p => (p.1, ρ p.2))).run P w = .ok ((Sh.sl 1 1).val w.heap.size) (w.alloc (.cells v.cells E (0, 0))) := by
    unfold Instr.buildSlice
    simp only [Sem.run_bind, run_un, run_size, Result.andThen_ok]
    have hne : ¬ (1 * size > 2 ^ 24) := by omega
    have hnz : ¬ (1 * size = 0) := by omega
    have hp : ((#[(0, x)] : Array (Nat × Operand)).map fun p => (p.1, ρ p.2)).toList = [(0, v)] := by simp [hρ x v hx]
    simp only [hne, hnz, if_false, Sem.run_bind, run_zero, Result.andThen_ok, Sem.run_pure, hp, hf]
    simp [newRow, Sh.val]
  simp only [execOp]
  exact (show ((do pure (.value (← Instr.buildSlice T 1 ((#[(0, x)] : Array (Nat × Operand)).map fun p => (p.1, ρ p.2)))) : Sem Next)).run P w = _ by simp only [Sem.run_bind, hr]; rfl)

/-! ### Pointers -/
section ptr
variable {P : Program} {e : Env} {T ty : TypeId} {x y : Operand}
theorem ValP.nilCheck {a : Addr} (hx : e.ev x = some (.pointer (some a))) : ValP P e [] (.nilCheck x) (.pointer (some a)) := fun ρ w hρ _ d t pos af g => by
  simp [execOp, hρ x _ hx]
theorem guard_ptr {op : BinOp} {p : Option Addr} {v : Value} (w : World) : (eqGuard op T x y (.pointer p) v).run P w = .ok () w := by
  unfold eqGuard; cases op <;> cases v <;> simp
theorem eqIn_nn {E : TypeId} [UnI P T (.pointer E)] (d : Nat) (w : World) : (Op.equalIn (d + 1) T (.pointer none) (.pointer none)).run P w = .ok true w := by
  rw [Op.equalIn.eq_def]; simp only [Sem.run_bind, run_un (P := P) (T := T), Result.andThen_ok]; rfl
theorem eqIn_sn {E : TypeId} {a : Addr} [UnI P T (.pointer E)] (d : Nat) (w : World) : (Op.equalIn (d + 1) T (.pointer (some a)) (.pointer none)).run P w = .ok false w := by
  rw [Op.equalIn.eq_def]; simp only [Sem.run_bind, run_un (P := P) (T := T), Result.andThen_ok]; rfl
theorem ValP.ptrNilT {E : TypeId} [UnI P T (.pointer E)] (hx : e.ev x = some (.pointer none)) (hy : e.ev y = some (.pointer none)) : ValP P e [] (.binOp .eql T x y ty) (.bool true) :=
  .bin hx hy (fun w => guard_ptr w) fun w => by
    have := eqIn_nn (P := P) (T := T) (Op.maxDepth - 1) w
    simp only [binOp, Op.equal, Sem.run_bind]
    rw [show Op.maxDepth = Op.maxDepth - 1 + 1 from rfl, this]; rfl
theorem ValP.ptrNilF {E : TypeId} {a : Addr} [UnI P T (.pointer E)] (hx : e.ev x = some (.pointer (some a))) (hy : e.ev y = some (.pointer none)) : ValP P e [] (.binOp .eql T x y ty) (.bool false) :=
  .bin hx hy (fun w => guard_ptr w) fun w => by
    have := eqIn_sn (P := P) (T := T) (a := a) (Op.maxDepth - 1) w
    simp only [binOp, Op.equal, Sem.run_bind]
    rw [show Op.maxDepth = Op.maxDepth - 1 + 1 from rfl, this]; rfl
end ptr
end Go.Proofs.Ytahoghldnijnbaa.SL
