/-
  Texts that were built apart, put behind one another (4 of 6): C6 C7 C8 C9 CA CB CC CD.
  Conditions: none.
-/
import Derived.Test.YtbhicncgjplnoaaDoorP3
/-
  The places at which an operation is read; the places to jump to: contracts.
  Conditions: none.
-/
namespace Go.Proofs.YtbhicncgjplnoaaDoor
open Go Go.RowKit SL
set_option maxRecDepth 8000
set_option maxHeartbeats 4000000
set_option linter.unusedSimpArgs false
set_option linter.unusedVariables false
attribute [local irreducible] SL.CW SL.LW SL.DW Calls SL.Ret SL.RetG SL.beginQ SL.roundQ SL.rangeQ SL.inQ SL.RW SL.AnyW SL.thenQ SL.thenC SL.thenW SL.blkQ SL.finQ SL.ValP SL.NewP SL.SetP SL.CallP SL.Rd SL.Wr SL.Known
/-- The operation of a byte; that of none: without a name. -/
def opAt (b : Nat) : OpV := match opOf b with
  | some x => x
  | none => ⟨b, [], 0, 0, 0⟩
theorem opAt_dt (b : Nat) : (opAt b).dt = szOf b := by unfold opAt szOf; cases opOf b <;> rfl
theorem row_c {b : Nat} {x : OpV} (h : rowOp b = some x) : x.c = b := by
  unfold rowOp at h
  split at h
  · cases h; rfl
  · split at h
    · cases h; rfl
    · split at h
      · cases h; rfl
      · cases h
theorem opOf_c {b : Nat} {x : OpV} (h : opOf b = some x) : x.c = b := by
  unfold opOf at h
  cases hr : rowOp b with
  | some y => rw [hr] at h; cases h; exact row_c hr
  | none => rw [hr] at h; simpa using List.find?_some h
theorem opAt_c (b : Nat) : (opAt b).c = b := by
  unfold opAt
  cases h : opOf b with
  | none => rfl
  | some x => exact opOf_c h
theorem row_dt {b : Nat} {x : OpV} (h : rowOp b = some x) : x.dt ≤ 32 := by
  unfold rowOp at h
  split at h
  · cases h; dsimp only; omega
  · split at h
    · cases h; exact Nat.zero_le _
    · split at h
      · cases h; exact Nat.zero_le _
      · cases h
theorem plain_dt : ∀ x ∈ plainOps, x.dt = 0 := by decide
theorem opOf_dt {b : Nat} {x : OpV} (h : opOf b = some x) : x.dt ≤ 32 := by
  unfold opOf at h
  cases hr : rowOp b with
  | some y => rw [hr] at h; cases h; exact row_dt hr
  | none => rw [hr] at h; rw [plain_dt x (List.mem_of_find?_eq_some h)]; exact Nat.zero_le _
theorem szOf_le (b : Nat) : szOf b ≤ 32 := by
  unfold szOf
  cases h : opOf b with
  | none => exact Nat.zero_le _
  | some x => exact opOf_dt h
attribute [local irreducible] opOf
/-- The places at which an operation is read (p: the first byte's place), with the byte and the data that is there. -/
def segsAt (p : Nat) (bs : List UInt8) : List (Nat × UInt8 × List UInt8) := match bs with
  | [] => []
  | b :: r => (p, b, r.take (szOf b.toNat)) :: segsAt (p + 1 + szOf b.toNat) (r.drop (szOf b.toNat))
termination_by bs.length
decreasing_by simp [List.length_drop]; omega
theorem segsAt_nil (p : Nat) : segsAt p [] = [] := by rw [segsAt]
theorem segsAt_cons (p : Nat) (b : UInt8) (r : List UInt8) : segsAt p (b :: r) = (p, b, r.take (szOf b.toNat)) :: segsAt (p + 1 + szOf b.toNat) (r.drop (szOf b.toNat)) := by rw [segsAt]
/-- One round's step: what is read at a place of a program. -/
theorem segs_step (bs : List UInt8) (p : Nat) (h : p < bs.length) : segsAt p (bs.drop p) = (p, bs.getD p 0, (bs.drop (p + 1)).take (szOf (bs.getD p 0).toNat)) :: segsAt (p + szOf (bs.getD p 0).toNat + 1) (bs.drop (p + szOf (bs.getD p 0).toNat + 1)) := by
  rw [List.drop_eq_getElem_cons h, segsAt_cons, List.drop_drop, show bs[p] = bs.getD p 0 by simp [h], Nat.add_right_comm p 1]
theorem segs_end (bs : List UInt8) (p q : Nat) (h : bs.length ≤ p) : segsAt q (bs.drop p) = [] := by rw [List.drop_eq_nil_of_le h, segsAt_nil]
/-! ### The places to jump to -/
def jmpOf (L : List (Nat × UInt8 × List UInt8)) : List Nat := L.filterMap fun s => if s.2.1.toNat = 91 then some s.1 else none
def jumpsL (bs : List UInt8) : List Nat := jmpOf (segsAt 0 bs)
theorem jmpOf_hit {p : Nat} {u : UInt8} {d : List UInt8} {L : List (Nat × UInt8 × List UInt8)} (h : u.toNat = 91) : jmpOf ((p, u, d) :: L) = p :: jmpOf L := by unfold jmpOf; exact List.filterMap_cons_some (if_pos h)
theorem jmpOf_miss {p : Nat} {u : UInt8} {d : List UInt8} {L : List (Nat × UInt8 × List UInt8)} (h : ¬ u.toNat = 91) : jmpOf ((p, u, d) :: L) = jmpOf L := by unfold jmpOf; exact List.filterMap_cons_none (if_neg h)
structure JX where
  p : Nat
  J : List Nat
  v : Value
  seg : Fs
def JumpsR (bs : List UInt8) (v : Value) (gs : Fs) : Prop := IsRow 3 1 v (if bs.length ≤ 200 then jumpsL bs else []).length (ics (if bs.length ≤ 200 then jumpsL bs else [])) gs
theorem Jumps_calls (bs : List UInt8) (v : Value) (w : World) (hv : RowAt w 1 v bs.length (ucs bs)) : Calls Tryd.prog 22 #[v] w (RetG w [] (JumpsR bs)) := by
  have hCk0 : ∀ w' {fs}, St w [] fs w' → Calls Tryd.prog 20 #[v] w' (Ret w' (.int .i64 (if bs.length ≤ 200 then 0 else 3))) := fun w' fs hst => CheckC_calls v bs.length (ucs bs) w' (hv.st hst)
  obtain ⟨p0, c0, rfl, _, _⟩ := hv.form
  unfold JumpsR
  refine enter (args := [_]) _ [] [] Tryd.func22 rfl Tryd.ntmps22 rfl (by simp) .nil ?_
  rcases Nat.lt_or_ge 200 bs.length with hgt | hle
  · rw [if_neg (by omega)]
    have hCk : ∀ w' {fs}, St w [] fs w' → Calls Tryd.prog 20 #[.slice p0 bs.length c0] w' (Ret w' (.int .i64 3)) := by rw [if_neg (by omega)] at hCk0; exact hCk0
    (refine CW.seq ?_; refine CW.region ?_; apply LW.v0; rfl; rfl; apply ValP.assign; rfl; apply LW.nil; refine thenN ?_; refine CW.seq ?_; refine CW.region ?_; apply LW.alloc1; rfl; rfl; intro _; apply LW.nil; refine thenN ?_; refine CW.seq ?_; refine CW.seq ?_; refine CW.region ?_; apply LW.v0; rfl; rfl; apply ValP.move; rfl)
    apply LW.inline
    rfl
    rfl
    infer_instance
    (apply ArgsOk.cons; rfl; exact ArgsOk.nil)
    rfl
    exact Tryd.func38
    rfl
    exact Tryd.ntmps38
    rfl
    (refine CW.seq ?_; refine CW.region ?_; apply LW.box1; rfl; rfl; rfl; intro _; apply LW.v0; rfl; rfl; apply ValP.assign; rfl; apply LW.nil; refine thenN ?_; refine CW.seq ?_; refine CW.region ?_; apply LW.v0; rfl; rfl; apply ValP.makeFunc; exact ArgsOk.nil; apply ArgsOk.cons; rfl; exact ArgsOk.nil; apply LW.v0; rfl; rfl; apply ValP.assign; rfl; apply LW.nil; refine thenN ?_; refine CW.ret ?_)
    apply inI
    (exact .inl rfl)
    (exact Shut.nil)
    rfl
    (apply ResL.cons; exact Res.tmp rfl; exact ResL.nil)
    rfl
    (apply LW.nil; refine thenN ?_; refine CW.block ?_)
    apply CW.rangeFunc
    rfl
    rfl
    infer_instance
    rfl
    exact Tryd.func50
    rfl
    exact Tryd.ntmps50
    rfl
    rfl
    intro l r rec hrec
    (refine CW.seq ?_; refine CW.seq ?_; refine CW.region ?_; apply LW.load; rfl; rfl; apply Known.at; apply FsAt.tail; apply FsAt.tail; apply FsAt.head; exact Rd.one' rfl; apply LW.callE; rfl; rfl; infer_instance; apply ArgsOk.cons; rfl; exact ArgsOk.nil; intro w _; exact hCk w (by assumption); apply LW.v0; rfl; rfl; apply ValP.neT; rfl; rfl; omega; apply LW.nil; refine thenN ?_; apply CW.condT; rfl; (with_reducible rfl); refine CW.ret ?_; refine thenR ?_)
    apply rangeN
    (exact .inl rfl)
    (exact Shut.nil)
    (apply SetAt.head)
    (refine blkN ?_; refine thenM ?_; refine CW.seq ?_; refine CW.region ?_; apply LW.load; rfl; rfl; apply Known.at; apply FsAt.tail; apply FsAt.tail; apply FsAt.tail; apply FsAt.head; exact Rd.one' rfl; apply LW.v0; rfl; rfl; apply ValP.assign; rfl; apply LW.nil; refine thenN ?_; refine CW.ret ?_)
    apply finM []; (exact .inl rfl); (apply Shut.cons; apply SetAt.tail; apply SetAt.head; exact Shut.nil); rfl; (apply ResL.cons; exact Res.tmp rfl; exact ResL.nil); exact List.nil_sublist _
    exact .nil
  · rw [if_pos hle]
    have hCk : ∀ w' {fs}, St w [] fs w' → Calls Tryd.prog 20 #[.slice p0 bs.length c0] w' (Ret w' (.int .i64 0)) := by rw [if_pos hle] at hCk0; exact hCk0
    obtain ⟨T, hT⟩ : ∃ T, jumpsL bs = T := ⟨_, rfl⟩
    rw [hT]
    (refine CW.seq ?_; refine CW.region ?_; apply LW.v0; rfl; rfl; apply ValP.assign; rfl; apply LW.nil; refine thenN ?_; refine CW.seq ?_; refine CW.region ?_; apply LW.alloc1; rfl; rfl; intro _; apply LW.nil; refine thenN ?_; refine CW.seq ?_; refine CW.seq ?_; refine CW.region ?_; apply LW.v0; rfl; rfl; apply ValP.move; rfl)
    apply LW.inline
    rfl
    rfl
    infer_instance
    (apply ArgsOk.cons; rfl; exact ArgsOk.nil)
    rfl
    exact Tryd.func38
    rfl
    exact Tryd.ntmps38
    rfl
    (refine CW.seq ?_; refine CW.region ?_; apply LW.box1; rfl; rfl; rfl; intro _; apply LW.v0; rfl; rfl; apply ValP.assign; rfl; apply LW.nil; refine thenN ?_; refine CW.seq ?_; refine CW.region ?_; apply LW.v0; rfl; rfl; apply ValP.makeFunc; exact ArgsOk.nil; apply ArgsOk.cons; rfl; exact ArgsOk.nil; apply LW.v0; rfl; rfl; apply ValP.assign; rfl; apply LW.nil; refine thenN ?_; refine CW.ret ?_)
    apply inI
    (exact .inl rfl)
    (exact Shut.nil)
    rfl
    (apply ResL.cons; exact Res.tmp rfl; exact ResL.nil)
    rfl
    (apply LW.nil; refine thenN ?_; refine CW.block ?_)
    apply CW.rangeFunc
    rfl
    rfl
    infer_instance
    rfl
    exact Tryd.func50
    rfl
    exact Tryd.ntmps50
    rfl
    rfl
    intro l r rec hrec
    (refine CW.seq ?_; refine CW.seq ?_; refine CW.region ?_; apply LW.load; rfl; rfl; apply Known.at; apply FsAt.tail; apply FsAt.tail; apply FsAt.head; exact Rd.one' rfl; apply LW.callE; rfl; rfl; infer_instance; apply ArgsOk.cons; rfl; exact ArgsOk.nil; intro w _; exact hCk w (by assumption); apply LW.v0; rfl; rfl; apply ValP.neF; rfl; rfl; omega; apply LW.nil; refine thenN ?_; apply CW.condF; rfl; (with_reducible rfl); refine CW.skip ?_; refine thenN ?_; refine CW.seq ?_; refine CW.region ?_; apply LW.v0; rfl; rfl; apply ValP.assign; rfl; apply LW.nil; refine thenN ?_; refine CW.block ?_)
    rename_i bo bb
    refine CW.loop (fun x : JX => ([(3, .int .i64 (x.p : Int)), (0, .func (.yield l) #[] #[]), (1, .pointer (some ⟨bb, 0, none⟩))],
      x.seg ++ [(l, rdy rec), (r, .deferred (some [])), (bb, .cells #[.slice p0 bs.length c0] 33 (0, 0)), (bo, .cells #[x.v] 45 (0, 0))]))
      (fun x => x.J ++ jmpOf (segsAt x.p (bs.drop x.p)) = T ∧ x.p ≤ 300 ∧ x.J.length ≤ x.p ∧ IsRow 3 1 x.v x.J.length (ics x.J) x.seg) (fun x => bs.length - x.p) ⟨0, [], .slice none 0 0, []⟩ ⟨by rw [List.drop_zero]; exact hT, by decide, by decide, .nil⟩ ⟨rfl, rfl, rfl, trivial⟩ (List.Sublist.refl _) ?_
    rintro ⟨p, J, v, seg⟩ ⟨hJ, hp, hJl, hrow⟩
    dsimp only at hJ hp hJl hrow ⊢
    rcases Nat.lt_or_ge p bs.length with hlt | hge
    · obtain ⟨b, off, c', cs, E, fr, heq, hbk, hx⟩ := hv.pos (by omega)
      cases heq
      have hst := segs_step bs p hlt
      obtain ⟨u, hu⟩ : ∃ u, bs.getD p 0 = u := ⟨_, rfl⟩
      rw [hu] at hst
      rw [hst] at hJ
      have hrd : Rd Tryd.prog 5 (.cells cs E fr) (off + p * 1) (.int .u8 (u.toNat : Int)) := Rd.elem1 hx (ucs_one bs) (List.getElem?_eq_getElem hlt) (by rw [← hu]; simp [hlt])
      have hub : u.toNat < 256 := u.toNat_lt
      have hOf0 := Of_op_calls u.toNat hub
      have hzl := szOf_le u.toNat
      have hxc := opAt_c u.toNat
      have hxd := opAt_dt u.toNat
      obtain ⟨x, hx0⟩ : ∃ x, opAt u.toNat = x := ⟨_, rfl⟩
      rw [hx0] at hxc hxd
      rw [← hxd] at hzl hJ
      unfold opAt at hx0
      cases ho : opOf u.toNat with
      | none =>
        rw [ho] at hx0 hOf0
        dsimp only at hx0
        subst hx0
        have hOf : ∀ w, Calls Tryd.prog 11 #[.int .u8 (u.toNat : Int)] w (Ret w (.tuple #[.agg (opc zeroOp), .int .i64 4])) := hOf0
        (refine CW.seq ?_; refine CW.seq ?_; refine CW.region ?_; apply LW.v0; rfl; rfl; apply ValP.move; rfl; apply LW.load; rfl; rfl; apply Known.at; apply FsAt.app; apply FsAt.tail; apply FsAt.tail; apply FsAt.head; exact Rd.one' rfl; apply LW.v0; rfl; rfl; apply ValP.lenR; rfl; infer_instance; rfl; apply LW.v0; rfl; rfl; apply ValP.lssT; rfl; rfl; omega; apply LW.nil; refine thenN ?_; apply CW.condT; rfl; (with_reducible rfl); refine CW.skip ?_; refine thenN ?_; refine CW.seq ?_; refine CW.block ?_; refine CW.seq ?_; refine CW.region ?_; apply LW.load; rfl; rfl; apply Known.at; apply FsAt.app; apply FsAt.tail; apply FsAt.tail; apply FsAt.head; exact Rd.one' rfl; apply LW.v0; rfl; rfl; apply ValP.move; rfl; apply LW.v0; rfl; rfl; apply ValP.indexAddrS; rfl; rfl; rfl; omega; apply LW.load; rfl; rfl; exact Known.ext (by assumption) (by simp); assumption; apply LW.callE; rfl; rfl; infer_instance; apply ArgsOk.cons; rfl; exact ArgsOk.nil; intro w _; exact hOf w; apply LW.v0; rfl; rfl; apply ValP.move; rfl; apply LW.v0; rfl; rfl; apply ValP.extractN; rfl; rfl; apply LW.v0; rfl; rfl; apply ValP.extractN; rfl; rfl; apply LW.allocA; rfl; intro _; apply LW.store; rfl; rfl; apply SetAt.head; apply Wr.whole; rfl; rfl; rfl; apply LW.v0; rfl; rfl; apply ValP.assign; rfl; apply LW.nil; refine thenN ?_; refine CW.seq ?_; refine CW.seq ?_; refine CW.region ?_; apply LW.v0; rfl; rfl; apply ValP.move; rfl; apply LW.v0; rfl; rfl; apply ValP.neT; rfl; rfl; omega; apply LW.nil; refine thenN ?_; apply CW.condT; rfl; (with_reducible rfl); refine CW.region ?_; apply LW.load; rfl; rfl; apply Known.at; apply FsAt.tail; apply FsAt.app; apply FsAt.tail; apply FsAt.tail; apply FsAt.head; exact Rd.one' rfl; apply LW.v0; rfl; rfl; apply ValP.move; rfl; apply LW.v0; rfl; rfl; apply ValP.indexAddrS; rfl; rfl; rfl; omega; apply LW.load; rfl; rfl; exact Known.ext (by assumption) (by simp); assumption; apply LW.v0; rfl; rfl; apply ValP.buildT; infer_instance; infer_instance; apply PartsOk.cons; rfl; exact PartsOk.nil; rfl; simp only [fillP, wrCells, Value.cells, List.getElem?_cons_zero, List.getElem?_cons_succ, List.toList_toArray, List.setIfInBounds_toArray, List.set_cons_succ, List.set_cons_zero, Nat.reduceAdd, Nat.zero_add]; rfl; apply LW.store; rfl; rfl; apply SetAt.head; apply Wr.whole; rfl; rfl; rfl; apply LW.nil; refine thenN ?_; refine CW.seq ?_; refine CW.seq ?_; refine CW.region ?_; apply LW.v0; rfl; rfl; apply ValP.move; rfl; apply LW.v0; rfl; rfl; apply ValP.move; rfl; apply LW.load; rfl; rfl; apply Known.at; apply FsAt.head; exact Rd.whole rfl)
        try dsimp only at hJ hzl
        by_cases h91 : u.toNat = 91
        · rw [jmpOf_hit h91] at hJ
          apply LW.yield
          rfl
          rfl
          (apply ArgsOk.cons; rfl; apply ArgsOk.cons; rfl; exact ArgsOk.nil)
          exact hrec
          (apply FsAt.tail; apply FsAt.app; apply FsAt.head)
          rfl
          rfl
          (refine CW.seq ?_; refine CW.region ?_; apply LW.v0; rfl; rfl; apply ValP.assign; rfl; apply LW.nil; refine thenN ?_; refine CW.region ?_; apply LW.allocA; rfl; intro _; apply LW.store; rfl; rfl; apply SetAt.head; apply Wr.whole; rfl; rfl; rfl; apply LW.nil; apply beginI; apply SetAt.tail; apply SetAt.tail; apply SetAt.app; apply SetAt.head; refine CW.block ?_; refine CW.seq ?_; refine CW.region ?_; apply LW.v0; rfl; rfl; apply ValP.fieldAddr; rfl; rfl; apply LW.load; rfl; rfl; apply Known.at; apply FsAt.head; exact Rd.one' rfl; apply LW.v0; rfl; rfl; apply ValP.eqT; rfl; rfl; omega; apply LW.nil; refine thenN ?_; apply CW.condT; rfl; (with_reducible rfl); refine CW.region ?_; apply LW.load; rfl; rfl; apply Known.at; apply FsAt.tail; apply FsAt.tail; apply FsAt.app; apply FsAt.tail; apply FsAt.tail; apply FsAt.tail; apply FsAt.head; exact Rd.one' rfl; apply LW.v0; rfl; rfl; apply ValP.move; rfl; apply LW.lay1; rfl; infer_instance; infer_instance; rfl; rfl; rfl; rfl; rfl; rfl; intro _)
          (apply LW.append; rfl; rfl; infer_instance; infer_instance; infer_instance; rfl; rfl; rfl; (case hrow => assumption); apply AtSeg.cons; apply AtSeg.cons; apply AtSeg.cons; exact AtSeg.head; apply Known.at; apply FsAt.head; rfl; rfl; rfl; omega; simp only [maxLen]; omega; omega; intro v' seg' hrow'; obtain ⟨p', c', rfl⟩ := hrow'.form; (refine ⟨_, (by (repeat (first | exact AtSeg.head | apply AtSeg.cons | apply AtSeg.app))), ?_⟩); (try simp only [List.cons_append, List.nil_append]))
          (apply LW.store; rfl; rfl; apply SetAt.tail; apply SetAt.tail; apply SetAt.tail; apply SetAt.app; apply SetAt.tail; apply SetAt.tail; apply SetAt.tail; apply SetAt.head; apply Wr.cells; rfl; rfl; simp only [List.size_toArray, List.length_cons, List.length_nil]; omega; simp only [fillC, wc, wrCells, Value.cells, List.toList_toArray, List.setIfInBounds_toArray, List.set_cons_succ, List.set_cons_zero, Nat.reduceAdd, Nat.reduceMul, Nat.zero_add, Nat.mul_one]; rfl; apply LW.nil; refine blkN ?_; apply roundN; apply SetAt.tail; apply SetAt.tail; apply SetAt.tail; apply SetAt.app; apply SetAt.head; apply LW.v0; rfl; rfl; apply ValP.notT; rfl; (with_reducible rfl); apply LW.nil; refine thenN ?_; apply CW.condF; rfl; (with_reducible rfl); refine CW.skip ?_; refine thenN ?_; refine CW.region ?_; apply LW.v0; rfl; rfl; apply ValP.move; rfl; apply LW.v0; rfl; rfl; apply ValP.fieldAddr; rfl; rfl; apply LW.load; rfl; rfl; apply Known.at; apply FsAt.tail; apply FsAt.tail; apply FsAt.head; exact Rd.one' rfl; apply LW.v0; rfl; rfl; apply ValP.addZL; rfl; rfl; decide; omega; apply LW.v0; rfl; rfl; apply ValP.assign; rfl; apply LW.nil; refine blkN ?_; refine thenN ?_; refine CW.region ?_; apply LW.v0; rfl; rfl; apply ValP.move; rfl; apply LW.v0; rfl; rfl; apply ValP.addZL; rfl; rfl; decide; omega; apply LW.v0; rfl; rfl; apply ValP.assign; rfl; apply LW.nil)
          apply thenX
          refine ⟨rfl, ⟨_, J ++ [p], _, seg'⟩, ⟨(List.append_assoc _ _ _).trans hJ, by dsimp only; omega, by rw [List.length_append]; simp; omega, by rw [List.length_append, ics_app]; exact hrow'⟩, by dsimp only; omega, ⟨rfl, rfl, rfl, trivial⟩, by (apply List.Sublist.cons; apply List.Sublist.cons; apply List.Sublist.cons; exact List.Sublist.refl _)⟩
        · rw [jmpOf_miss h91] at hJ
          apply LW.yield
          rfl
          rfl
          (apply ArgsOk.cons; rfl; apply ArgsOk.cons; rfl; exact ArgsOk.nil)
          exact hrec
          (apply FsAt.tail; apply FsAt.app; apply FsAt.head)
          rfl
          rfl
          (refine CW.seq ?_; refine CW.region ?_; apply LW.v0; rfl; rfl; apply ValP.assign; rfl; apply LW.nil; refine thenN ?_; refine CW.region ?_; apply LW.allocA; rfl; intro _; apply LW.store; rfl; rfl; apply SetAt.head; apply Wr.whole; rfl; rfl; rfl; apply LW.nil; apply beginI; apply SetAt.tail; apply SetAt.tail; apply SetAt.app; apply SetAt.head; refine CW.block ?_; refine CW.seq ?_; refine CW.region ?_; apply LW.v0; rfl; rfl; apply ValP.fieldAddr; rfl; rfl; apply LW.load; rfl; rfl; apply Known.at; apply FsAt.head; exact Rd.one' rfl; apply LW.v0; rfl; rfl; apply ValP.eqF; rfl; rfl; omega; apply LW.nil; refine thenN ?_; apply CW.condF; rfl; (with_reducible rfl); refine CW.skip ?_; refine blkN ?_; apply roundN; apply SetAt.tail; apply SetAt.tail; apply SetAt.app; apply SetAt.head; apply LW.v0; rfl; rfl; apply ValP.notT; rfl; (with_reducible rfl); apply LW.nil; refine thenN ?_; apply CW.condF; rfl; (with_reducible rfl); refine CW.skip ?_; refine thenN ?_; refine CW.region ?_; apply LW.v0; rfl; rfl; apply ValP.move; rfl; apply LW.v0; rfl; rfl; apply ValP.fieldAddr; rfl; rfl; apply LW.load; rfl; rfl; apply Known.at; apply FsAt.tail; apply FsAt.head; exact Rd.one' rfl; apply LW.v0; rfl; rfl; apply ValP.addZL; rfl; rfl; decide; omega; apply LW.v0; rfl; rfl; apply ValP.assign; rfl; apply LW.nil; refine blkN ?_; refine thenN ?_; refine CW.region ?_; apply LW.v0; rfl; rfl; apply ValP.move; rfl; apply LW.v0; rfl; rfl; apply ValP.addZL; rfl; rfl; decide; omega; apply LW.v0; rfl; rfl; apply ValP.assign; rfl; apply LW.nil)
          apply thenX
          refine ⟨rfl, ⟨_, J, v, seg⟩, ⟨hJ, by dsimp only; omega, by dsimp only; omega, hrow⟩, by dsimp only; omega, ⟨rfl, rfl, rfl, trivial⟩, by (apply List.Sublist.cons; apply List.Sublist.cons; exact List.Sublist.refl _)⟩
      | some y =>
        rw [ho] at hx0 hOf0
        dsimp only at hx0
        subst hx0
        have hOf : ∀ w, Calls Tryd.prog 11 #[.int .u8 (u.toNat : Int)] w (Ret w (.tuple #[.agg (opc y), .int .i64 0])) := hOf0
        (refine CW.seq ?_; refine CW.seq ?_; refine CW.region ?_; apply LW.v0; rfl; rfl; apply ValP.move; rfl; apply LW.load; rfl; rfl; apply Known.at; apply FsAt.app; apply FsAt.tail; apply FsAt.tail; apply FsAt.head; exact Rd.one' rfl; apply LW.v0; rfl; rfl; apply ValP.lenR; rfl; infer_instance; rfl; apply LW.v0; rfl; rfl; apply ValP.lssT; rfl; rfl; omega; apply LW.nil; refine thenN ?_; apply CW.condT; rfl; (with_reducible rfl); refine CW.skip ?_; refine thenN ?_; refine CW.seq ?_; refine CW.block ?_; refine CW.seq ?_; refine CW.region ?_; apply LW.load; rfl; rfl; apply Known.at; apply FsAt.app; apply FsAt.tail; apply FsAt.tail; apply FsAt.head; exact Rd.one' rfl; apply LW.v0; rfl; rfl; apply ValP.move; rfl; apply LW.v0; rfl; rfl; apply ValP.indexAddrS; rfl; rfl; rfl; omega; apply LW.load; rfl; rfl; exact Known.ext (by assumption) (by simp); assumption; apply LW.callE; rfl; rfl; infer_instance; apply ArgsOk.cons; rfl; exact ArgsOk.nil; intro w _; exact hOf w; apply LW.v0; rfl; rfl; apply ValP.move; rfl; apply LW.v0; rfl; rfl; apply ValP.extractN; rfl; rfl; apply LW.v0; rfl; rfl; apply ValP.extractN; rfl; rfl; apply LW.allocA; rfl; intro _; apply LW.store; rfl; rfl; apply SetAt.head; apply Wr.whole; rfl; rfl; rfl; apply LW.v0; rfl; rfl; apply ValP.assign; rfl; apply LW.nil; refine thenN ?_; refine CW.seq ?_; refine CW.seq ?_; refine CW.region ?_; apply LW.v0; rfl; rfl; apply ValP.move; rfl; apply LW.v0; rfl; rfl; apply ValP.neF; rfl; rfl; omega; apply LW.nil; refine thenN ?_; apply CW.condF; rfl; (with_reducible rfl); refine CW.skip ?_; refine thenN ?_; refine CW.seq ?_; refine CW.seq ?_; refine CW.region ?_; apply LW.v0; rfl; rfl; apply ValP.move; rfl; apply LW.v0; rfl; rfl; apply ValP.move; rfl; apply LW.load; rfl; rfl; apply Known.at; apply FsAt.head; exact Rd.whole rfl)
        try dsimp only at hJ hzl
        by_cases h91 : u.toNat = 91
        · rw [jmpOf_hit h91] at hJ
          apply LW.yield
          rfl
          rfl
          (apply ArgsOk.cons; rfl; apply ArgsOk.cons; rfl; exact ArgsOk.nil)
          exact hrec
          (apply FsAt.tail; apply FsAt.app; apply FsAt.head)
          rfl
          rfl
          (refine CW.seq ?_; refine CW.region ?_; apply LW.v0; rfl; rfl; apply ValP.assign; rfl; apply LW.nil; refine thenN ?_; refine CW.region ?_; apply LW.allocA; rfl; intro _; apply LW.store; rfl; rfl; apply SetAt.head; apply Wr.whole; rfl; rfl; rfl; apply LW.nil; apply beginI; apply SetAt.tail; apply SetAt.tail; apply SetAt.app; apply SetAt.head; refine CW.block ?_; refine CW.seq ?_; refine CW.region ?_; apply LW.v0; rfl; rfl; apply ValP.fieldAddr; rfl; rfl; apply LW.load; rfl; rfl; apply Known.at; apply FsAt.head; exact Rd.one' rfl; apply LW.v0; rfl; rfl; apply ValP.eqT; rfl; rfl; omega; apply LW.nil; refine thenN ?_; apply CW.condT; rfl; (with_reducible rfl); refine CW.region ?_; apply LW.load; rfl; rfl; apply Known.at; apply FsAt.tail; apply FsAt.tail; apply FsAt.app; apply FsAt.tail; apply FsAt.tail; apply FsAt.tail; apply FsAt.head; exact Rd.one' rfl; apply LW.v0; rfl; rfl; apply ValP.move; rfl; apply LW.lay1; rfl; infer_instance; infer_instance; rfl; rfl; rfl; rfl; rfl; rfl; intro _)
          (apply LW.append; rfl; rfl; infer_instance; infer_instance; infer_instance; rfl; rfl; rfl; (case hrow => assumption); apply AtSeg.cons; apply AtSeg.cons; apply AtSeg.cons; exact AtSeg.head; apply Known.at; apply FsAt.head; rfl; rfl; rfl; omega; simp only [maxLen]; omega; omega; intro v' seg' hrow'; obtain ⟨p', c', rfl⟩ := hrow'.form; (refine ⟨_, (by (repeat (first | exact AtSeg.head | apply AtSeg.cons | apply AtSeg.app))), ?_⟩); (try simp only [List.cons_append, List.nil_append]))
          (apply LW.store; rfl; rfl; apply SetAt.tail; apply SetAt.tail; apply SetAt.tail; apply SetAt.app; apply SetAt.tail; apply SetAt.tail; apply SetAt.tail; apply SetAt.head; apply Wr.cells; rfl; rfl; simp only [List.size_toArray, List.length_cons, List.length_nil]; omega; simp only [fillC, wc, wrCells, Value.cells, List.toList_toArray, List.setIfInBounds_toArray, List.set_cons_succ, List.set_cons_zero, Nat.reduceAdd, Nat.reduceMul, Nat.zero_add, Nat.mul_one]; rfl; apply LW.nil; refine blkN ?_; apply roundN; apply SetAt.tail; apply SetAt.tail; apply SetAt.tail; apply SetAt.app; apply SetAt.head; apply LW.v0; rfl; rfl; apply ValP.notT; rfl; (with_reducible rfl); apply LW.nil; refine thenN ?_; apply CW.condF; rfl; (with_reducible rfl); refine CW.skip ?_; refine thenN ?_; refine CW.region ?_; apply LW.v0; rfl; rfl; apply ValP.move; rfl; apply LW.v0; rfl; rfl; apply ValP.fieldAddr; rfl; rfl; apply LW.load; rfl; rfl; apply Known.at; apply FsAt.tail; apply FsAt.tail; apply FsAt.head; exact Rd.one' rfl; apply LW.v0; rfl; rfl; apply ValP.addZ; rfl; rfl; omega; apply LW.v0; rfl; rfl; apply ValP.assign; rfl; apply LW.nil; refine blkN ?_; refine thenN ?_; refine CW.region ?_; apply LW.v0; rfl; rfl; apply ValP.move; rfl; apply LW.v0; rfl; rfl; apply ValP.addZL; rfl; rfl; decide; omega; apply LW.v0; rfl; rfl; apply ValP.assign; rfl; apply LW.nil)
          apply thenX
          refine ⟨rfl, ⟨_, J ++ [p], _, seg'⟩, ⟨(List.append_assoc _ _ _).trans hJ, by dsimp only; omega, by rw [List.length_append]; simp; omega, by rw [List.length_append, ics_app]; exact hrow'⟩, by dsimp only; omega, ⟨rfl, rfl, rfl, trivial⟩, by (apply List.Sublist.cons; apply List.Sublist.cons; apply List.Sublist.cons; exact List.Sublist.refl _)⟩
        · rw [jmpOf_miss h91] at hJ
          apply LW.yield
          rfl
          rfl
          (apply ArgsOk.cons; rfl; apply ArgsOk.cons; rfl; exact ArgsOk.nil)
          exact hrec
          (apply FsAt.tail; apply FsAt.app; apply FsAt.head)
          rfl
          rfl
          (refine CW.seq ?_; refine CW.region ?_; apply LW.v0; rfl; rfl; apply ValP.assign; rfl; apply LW.nil; refine thenN ?_; refine CW.region ?_; apply LW.allocA; rfl; intro _; apply LW.store; rfl; rfl; apply SetAt.head; apply Wr.whole; rfl; rfl; rfl; apply LW.nil; apply beginI; apply SetAt.tail; apply SetAt.tail; apply SetAt.app; apply SetAt.head; refine CW.block ?_; refine CW.seq ?_; refine CW.region ?_; apply LW.v0; rfl; rfl; apply ValP.fieldAddr; rfl; rfl; apply LW.load; rfl; rfl; apply Known.at; apply FsAt.head; exact Rd.one' rfl; apply LW.v0; rfl; rfl; apply ValP.eqF; rfl; rfl; omega; apply LW.nil; refine thenN ?_; apply CW.condF; rfl; (with_reducible rfl); refine CW.skip ?_; refine blkN ?_; apply roundN; apply SetAt.tail; apply SetAt.tail; apply SetAt.app; apply SetAt.head; apply LW.v0; rfl; rfl; apply ValP.notT; rfl; (with_reducible rfl); apply LW.nil; refine thenN ?_; apply CW.condF; rfl; (with_reducible rfl); refine CW.skip ?_; refine thenN ?_; refine CW.region ?_; apply LW.v0; rfl; rfl; apply ValP.move; rfl; apply LW.v0; rfl; rfl; apply ValP.fieldAddr; rfl; rfl; apply LW.load; rfl; rfl; apply Known.at; apply FsAt.tail; apply FsAt.head; exact Rd.one' rfl; apply LW.v0; rfl; rfl; apply ValP.addZ; rfl; rfl; omega; apply LW.v0; rfl; rfl; apply ValP.assign; rfl; apply LW.nil; refine blkN ?_; refine thenN ?_; refine CW.region ?_; apply LW.v0; rfl; rfl; apply ValP.move; rfl; apply LW.v0; rfl; rfl; apply ValP.addZL; rfl; rfl; decide; omega; apply LW.v0; rfl; rfl; apply ValP.assign; rfl; apply LW.nil)
          apply thenX
          refine ⟨rfl, ⟨_, J, v, seg⟩, ⟨hJ, by dsimp only; omega, by dsimp only; omega, hrow⟩, by dsimp only; omega, ⟨rfl, rfl, rfl, trivial⟩, by (apply List.Sublist.cons; apply List.Sublist.cons; exact List.Sublist.refl _)⟩
    · rw [segs_end bs p p hge] at hJ
      have hJ' : J = T := by rw [← hJ]; simp [jmpOf]
      subst hJ'
      (refine CW.seq ?_; refine CW.seq ?_; refine CW.region ?_; apply LW.v0; rfl; rfl; apply ValP.move; rfl; apply LW.load; rfl; rfl; apply Known.at; apply FsAt.app; apply FsAt.tail; apply FsAt.tail; apply FsAt.head; exact Rd.one' rfl; apply LW.v0; rfl; rfl; apply ValP.lenR; rfl; infer_instance; rfl; apply LW.v0; rfl; rfl; apply ValP.lssF; rfl; rfl; omega; apply LW.nil; refine thenN ?_; apply CW.condF; rfl; (with_reducible rfl); refine CW.exit ?_; refine thenE ?_; refine thenE ?_; refine blkE rfl ?_)
      apply rangeN
      (exact .inr rfl)
      (exact Shut.nil)
      (apply SetAt.app; apply SetAt.head)
      (refine blkN ?_; refine thenM ?_; refine CW.seq ?_; refine CW.region ?_; apply LW.load; rfl; rfl; apply Known.at; apply FsAt.app; apply FsAt.tail; apply FsAt.tail; apply FsAt.tail; apply FsAt.head; exact Rd.one' rfl; apply LW.v0; rfl; rfl; apply ValP.assign; rfl; apply LW.nil; refine thenN ?_; refine CW.ret ?_)
      apply finM seg; (exact .inl rfl); (apply Shut.cons; apply SetAt.app; apply SetAt.tail; apply SetAt.head; exact Shut.nil); rfl; (apply ResL.cons; exact Res.tmp rfl; exact ResL.nil); exact List.sublist_append_left _ _
      exact hrow
end Go.Proofs.YtbhicncgjplnoaaDoor

/-
  Places to jump to, asked one by one; the document's places: contracts.
  Conditions: none.
-/
namespace Go.Proofs.YtbhicncgjplnoaaDoor
open Go Go.RowKit SL
set_option maxRecDepth 8000
set_option maxHeartbeats 4000000
set_option linter.unusedSimpArgs false
set_option linter.unusedVariables false
attribute [local irreducible] SL.CW SL.LW SL.DW Calls SL.Ret SL.RetG SL.beginQ SL.roundQ SL.rangeQ SL.inQ SL.RW SL.AnyW SL.thenQ SL.thenC SL.thenW SL.blkQ SL.finQ SL.ValP SL.NewP SL.SetP SL.CallP SL.Rd SL.Wr SL.Known
attribute [local irreducible] opOf
/-! ### Is a number one of a row? -/
def idxN (l : List Nat) (x : Nat) : Int := match l.findIdx? (· == x) with
  | some i => (i : Int)
  | none => -1
theorem idxN_mem (l : List Nat) (x : Nat) : decide (0 ≤ idxN l x) = l.contains x := by
  unfold idxN
  cases h : l.findIdx? (· == x) with
  | none =>
    have := List.findIdx?_eq_none_iff.1 h
    rw [decide_eq_false (by decide)]
    symm
    rw [Bool.eq_false_iff]
    intro hc
    have hm := List.contains_iff_mem.1 hc
    have := this x hm
    simp at this
  | some i =>
    obtain ⟨hlt, hc, _⟩ := List.findIdx?_eq_some_iff_getElem.1 h
    rw [decide_eq_true (by dsimp only; omega)]
    symm
    have : l[i] = x := by simpa using hc
    exact List.contains_iff_mem.2 (this ▸ List.getElem_mem hlt)
theorem Index_n_calls (l : List Nat) (x : Nat) (hx : x < 1000) (v : Value) (w : World) (hv : RowAt w 1 v l.length (ics l)) : Calls Tryd.prog 56 #[v, .int .i64 (x : Int)] w (Ret w (.int .i64 (idxN l x))) := by
  obtain ⟨p0, c0, rfl, hc0, hm0⟩ := hv.form
  simp only [maxLen] at hm0
  refine enter (args := [_, _]) _ [] [] Tryd.func56 rfl Tryd.ntmps56 rfl (by simp) .nil ?_
  (refine CW.seq ?_; refine CW.region ?_; apply LW.v0; rfl; rfl; apply ValP.assign; rfl; apply LW.nil; refine thenN ?_; refine CW.seq ?_; refine CW.seq ?_; refine CW.region ?_; apply LW.v0; rfl; rfl; apply ValP.move; rfl; apply LW.v0; rfl; rfl; apply ValP.lenR; rfl; infer_instance; rfl; apply LW.v0; rfl; rfl; apply ValP.move; rfl; apply LW.nil; refine thenN ?_; refine CW.block ?_)
  refine CW.loop (fun k : Nat => ([(0, .slice p0 l.length c0), (1, .int .i64 (x : Int)), (4, .int .i64 0), (7, .int .i64 (l.length : Int)), (8, .int .i64 (k : Int))], []))
    (fun k => k ≤ l.length ∧ ∀ j (hj : j < l.length), j < k → l[j] ≠ x) (fun k => l.length - k) 0 ⟨Nat.zero_le _, fun j hj h => absurd h (Nat.not_lt_zero _)⟩ ⟨rfl, rfl, rfl, rfl, rfl, trivial⟩ (List.Sublist.refl _) ?_
  rintro k ⟨hk, hall⟩
  dsimp only
  rcases Nat.lt_or_ge k l.length with hlt | hge
  · obtain ⟨b, off, c', cs, E, fr, heq, hbk, hx'⟩ := hv.pos (by omega)
    cases heq
    have hrd : Rd Tryd.prog 3 (.cells cs E fr) (off + k * 1) (.int .i64 (l[k] : Int)) := Rd.elem1 hx' (ics_len l) (List.getElem?_eq_getElem hlt) rfl
    by_cases he : l[k] = x
    · have hi : idxN l x = (k : Int) := by
        unfold idxN
        rw [List.findIdx?_eq_some_iff_getElem.2 ⟨hlt, by simpa using he, fun j hj => by simpa using hall j (by omega) hj⟩]
      rw [hi]
      have he' : (x : Int) = (l[k] : Int) := by omega
      obtain ⟨y, hy⟩ : ∃ y, l[k] = y := ⟨_, rfl⟩
      rw [hy] at hrd he'
      (refine CW.seq ?_; refine CW.region ?_; apply LW.v0; rfl; rfl; apply ValP.lssT; rfl; rfl; omega; apply LW.nil; refine thenN ?_; refine CW.seq ?_; apply CW.condT; rfl; (with_reducible rfl); refine CW.skip ?_; refine thenN ?_; refine CW.seq ?_; refine CW.block ?_; refine CW.seq ?_; refine CW.region ?_; apply LW.v0; rfl; rfl; apply ValP.move; rfl; apply LW.v0; rfl; rfl; apply ValP.assign; rfl; apply LW.nil; refine thenN ?_; refine CW.seq ?_; refine CW.region ?_; apply LW.v0; rfl; rfl; apply ValP.move; rfl; apply LW.v0; rfl; rfl; apply ValP.move; rfl; apply LW.v0; rfl; rfl; apply ValP.move; rfl; apply LW.v0; rfl; rfl; apply ValP.indexAddrS; rfl; rfl; rfl; omega; apply LW.load; rfl; rfl; exact Known.ext (by assumption) (by simp); assumption; apply LW.v0; rfl; rfl; apply ValP.eqT; rfl; rfl; omega; apply LW.nil; refine thenN ?_; apply CW.condT; rfl; (with_reducible rfl); refine CW.seq ?_; refine CW.region ?_; apply LW.v0; rfl; rfl; apply ValP.move; rfl; apply LW.v0; rfl; rfl; apply ValP.assign; rfl; apply LW.nil; refine thenN ?_; refine CW.ret ?_; refine blkR ?_; refine thenR ?_; refine thenR ?_; refine blkR ?_; refine thenR ?_)
      (apply finR; exact .inl rfl; rfl; rfl; rfl; apply ResL.cons; exact Res.tmp rfl; exact ResL.nil)
      rfl
    · have he' : ¬ (x : Int) = (l[k] : Int) := by omega
      obtain ⟨y, hy⟩ : ∃ y, l[k] = y := ⟨_, rfl⟩
      rw [hy] at hrd he'
      (refine CW.seq ?_; refine CW.region ?_; apply LW.v0; rfl; rfl; apply ValP.lssT; rfl; rfl; omega; apply LW.nil; refine thenN ?_; refine CW.seq ?_; apply CW.condT; rfl; (with_reducible rfl); refine CW.skip ?_; refine thenN ?_; refine CW.seq ?_; refine CW.block ?_; refine CW.seq ?_; refine CW.region ?_; apply LW.v0; rfl; rfl; apply ValP.move; rfl; apply LW.v0; rfl; rfl; apply ValP.assign; rfl; apply LW.nil; refine thenN ?_; refine CW.seq ?_; refine CW.region ?_; apply LW.v0; rfl; rfl; apply ValP.move; rfl; apply LW.v0; rfl; rfl; apply ValP.move; rfl; apply LW.v0; rfl; rfl; apply ValP.move; rfl; apply LW.v0; rfl; rfl; apply ValP.indexAddrS; rfl; rfl; rfl; omega; apply LW.load; rfl; rfl; exact Known.ext (by assumption) (by simp); assumption; apply LW.v0; rfl; rfl; apply ValP.eqF; rfl; rfl; omega; apply LW.nil; refine thenN ?_; apply CW.condF; rfl; (with_reducible rfl); refine CW.skip ?_; refine blkN ?_; refine thenN ?_; refine CW.region ?_; apply LW.v0; rfl; rfl; apply ValP.addZL; rfl; rfl; decide; omega; apply LW.v0; rfl; rfl; apply ValP.move; rfl; apply LW.nil)
      apply thenX
      refine ⟨rfl, k + 1, ⟨hlt, fun j hj hjk => ?_⟩, by omega, ⟨rfl, rfl, rfl, rfl, rfl, trivial⟩, List.Sublist.refl _⟩
      rcases Nat.lt_or_ge j k with h | h
      · exact hall j hj h
      · obtain rfl : j = k := by omega
        exact he
  · have hi : idxN l x = -1 := by
      unfold idxN
      rw [List.findIdx?_eq_none_iff.2 fun y hy => by
        obtain ⟨j, hj, rfl⟩ := List.mem_iff_getElem.1 hy
        simpa using hall j hj (by omega)]
    rw [hi]
    (refine CW.seq ?_; refine CW.region ?_; apply LW.v0; rfl; rfl; apply ValP.lssF; rfl; rfl; omega; apply LW.nil; refine thenN ?_; refine CW.seq ?_; apply CW.condF; rfl; (with_reducible rfl); refine CW.exit ?_; refine thenE ?_; refine thenE ?_; refine blkE rfl ?_; refine thenN ?_; refine CW.seq ?_; refine CW.region ?_; apply LW.v0; rfl; rfl; apply ValP.assign; rfl; apply LW.nil; refine thenN ?_; refine CW.ret ?_)
    (apply finR; exact .inl rfl; rfl; rfl; rfl; apply ResL.cons; exact Res.tmp rfl; exact ResL.nil)
    rfl
theorem Contains_calls (l : List Nat) (x : Nat) (hx : x < 1000) (v : Value) (w : World) (hv : RowAt w 1 v l.length (ics l)) : Calls Tryd.prog 44 #[v, .int .i64 (x : Int)] w (Ret w (.bool (l.contains x))) := by
  have hIx : ∀ w' {fs}, St w [] fs w' → Calls Tryd.prog 56 #[v, .int .i64 (x : Int)] w' (Ret w' (.int .i64 (idxN l x))) := fun w' fs hst => Index_n_calls l x hx v w' (hv.st hst)
  refine enter (args := [_, _]) _ [] [] Tryd.func44 rfl Tryd.ntmps44 rfl (by simp) .nil ?_
  (refine CW.seq ?_; refine CW.region ?_; apply LW.v0; rfl; rfl; apply ValP.assign; rfl; apply LW.nil; refine thenN ?_; refine CW.seq ?_; refine CW.region ?_; apply LW.v0; rfl; rfl; apply ValP.move; rfl; apply LW.v0; rfl; rfl; apply ValP.move; rfl; apply LW.callE; rfl; rfl; infer_instance; apply ArgsOk.cons; rfl; apply ArgsOk.cons; rfl; exact ArgsOk.nil; intro w _; exact hIx w (by assumption); apply LW.v0; rfl; rfl; apply ValP.geq; rfl; rfl; apply LW.v0; rfl; rfl; apply ValP.assign; rfl; apply LW.nil; refine thenN ?_; refine CW.ret ?_)
  (apply finR; exact .inl rfl; rfl; rfl; rfl; apply ResL.cons; exact Res.tmp rfl; exact ResL.nil)
  rw [← idxN_mem]
  rfl
def jumpsC (bs : List UInt8) : List Nat := if bs.length ≤ 200 then jumpsL bs else []
def jumpC (bs : List UInt8) (n : Nat) : Bool := decide (n < 200) && (jumpsC bs).contains n
theorem Jump_calls (bs : List UInt8) (n : Nat) (hn : n < 18446744073709551616) (v : Value) (w : World) (hv : RowAt w 1 v bs.length (ucs bs)) : Calls Tryd.prog 23 #[v, .int .u64 (n : Int)] w (Ret w (.bool (jumpC bs n))) := by
  unfold jumpC
  refine enter (args := [_, _]) _ [] [] Tryd.func23 rfl Tryd.ntmps23 rfl (by simp) .nil ?_
  rcases Nat.lt_or_ge n 200 with h | h
  · rw [decide_eq_true h, Bool.true_and]
    (refine CW.seq ?_; refine CW.region ?_; apply LW.v0; rfl; rfl; apply ValP.assign; rfl; apply LW.nil; refine thenN ?_; refine CW.seq ?_; refine CW.region ?_; apply LW.v0; rfl; rfl; apply ValP.move; rfl; apply LW.v0; rfl; rfl; apply ValP.lssT; rfl; rfl; omega; apply LW.v0; rfl; rfl; apply ValP.move; rfl; apply LW.guardT'; rfl; rfl; (with_reducible rfl); apply LW.v0; rfl; rfl; apply ValP.move; rfl; apply LW.guardT'; rfl; rfl; (with_reducible rfl))
    refine LW.callR rfl rfl inferInstance (by (apply ArgsOk.cons; rfl; exact ArgsOk.nil)) (fun w' hst => Jumps_calls bs v w' (hv.st hst)) ?_
    intro v1 gs1 hr1
    have hCo : ∀ w', St w [] (gs1 ++ []) w' → Calls Tryd.prog 44 #[v1, .int .i64 (n : Int)] w' (Ret w' (.bool ((jumpsC bs).contains n))) := fun w' hst => Contains_calls (jumpsC bs) n (by omega) v1 w' (IsRow.at (pre := []) (post := []) hr1 hst)
    (apply LW.guardT'; rfl; rfl; (with_reducible rfl); apply LW.v0; rfl; rfl; apply ValP.move; rfl; apply LW.guardT'; rfl; rfl; (with_reducible rfl); apply LW.v0; rfl; rfl; apply ValP.convI; rfl; omega; omega; apply LW.guardT'; rfl; rfl; (with_reducible rfl); apply LW.callE; rfl; rfl; infer_instance; apply ArgsOk.cons; rfl; apply ArgsOk.cons; rfl; exact ArgsOk.nil; intro w _; exact hCo w (by assumption); apply LW.v0; rfl; rfl; apply ValP.pickT'; rfl; (with_reducible rfl); rfl; apply LW.v0; rfl; rfl; apply ValP.assign; rfl; apply LW.nil; refine thenN ?_; refine CW.ret ?_)
    (apply finR; exact .inl rfl; rfl; rfl; rfl; apply ResL.cons; exact Res.tmp rfl; exact ResL.nil)
    rfl
  · rw [decide_eq_false (by omega), Bool.false_and]
    (refine CW.seq ?_; refine CW.region ?_; apply LW.v0; rfl; rfl; apply ValP.assign; rfl; apply LW.nil; refine thenN ?_; refine CW.seq ?_; refine CW.region ?_; apply LW.v0; rfl; rfl; apply ValP.move; rfl; apply LW.v0; rfl; rfl; apply ValP.lssF; rfl; rfl; omega; apply LW.v0; rfl; rfl; apply ValP.move; rfl; apply LW.guardF'; rfl; rfl; simp only [Bool.not_true, Bool.not_false]; rfl; apply LW.guardF'; rfl; rfl; simp only [Bool.not_true, Bool.not_false]; rfl; apply LW.guardF'; rfl; rfl; simp only [Bool.not_true, Bool.not_false]; rfl; apply LW.guardF'; rfl; rfl; simp only [Bool.not_true, Bool.not_false]; rfl; apply LW.guardF'; rfl; rfl; simp only [Bool.not_true, Bool.not_false]; rfl; apply LW.v0; rfl; rfl; apply ValP.pickF'; rfl; (with_reducible rfl); rfl; apply LW.v0; rfl; rfl; apply ValP.assign; rfl; apply LW.nil; refine thenN ?_; refine CW.ret ?_)
    (apply finR; exact .inl rfl; rfl; rfl; rfl; apply ResL.cons; exact Res.tmp rfl; exact ResL.nil)
    rfl
/-! ### The document's: is an operation read there? -/
def readB (bs : List UInt8) (i : Int) : Bool := (segsAt 0 bs).any fun s => decide ((s.1 : Int) = i)
def readFrom (bs : List UInt8) (p : Nat) (i : Int) : Bool := (segsAt p (bs.drop p)).any fun s => decide ((s.1 : Int) = i)
theorem segsAt_ge (n : Nat) : ∀ (bs : List UInt8) (p : Nat), bs.length ≤ n → ∀ s ∈ segsAt p bs, p ≤ s.1 := by
  induction n with
  | zero =>
    intro bs p h s hs
    rw [List.eq_nil_of_length_eq_zero (show bs.length = 0 by omega), segsAt_nil] at hs
    cases hs
  | succ n ih =>
    intro bs p h s hs
    cases bs with
    | nil => rw [segsAt_nil] at hs; cases hs
    | cons b r =>
      rw [segsAt_cons] at hs
      rcases List.mem_cons.1 hs with rfl | hs
      · exact Nat.le_refl _
      · have := ih (r.drop (szOf b.toNat)) (p + 1 + szOf b.toNat) (by simp at h ⊢; omega) s hs
        omega
theorem readFrom_gt {bs : List UInt8} {p : Nat} {i : Int} (h : i < (p : Int)) : readFrom bs p i = false := by
  unfold readFrom
  refine List.any_eq_false.2 fun s hs => ?_
  have := segsAt_ge _ _ p (Nat.le_refl _) s hs
  simp; omega
theorem readFrom_end {bs : List UInt8} {p : Nat} {i : Int} (h : bs.length ≤ p) : readFrom bs p i = false := by
  unfold readFrom; rw [segs_end bs p p h]; rfl
theorem readFrom_hit {bs : List UInt8} {p : Nat} (h : p < bs.length) : readFrom bs p (p : Int) = true := by
  unfold readFrom; rw [segs_step bs p h, List.any_cons]; simp
theorem readFrom_step {bs : List UInt8} {p : Nat} {i : Int} (h : p < bs.length) (hi : (p : Int) < i) : readFrom bs (p + 1 + szOf (bs.getD p 0).toNat) i = readFrom bs p i := by
  unfold readFrom
  rw [segs_step bs p h, List.any_cons, decide_eq_false (by dsimp only; omega), Bool.false_or, Nat.add_right_comm p 1]
theorem Read_calls (bs : List UInt8) (hb : bs.length ≤ 1000) (i : Int) (v : Value) (w : World) (hv : RowAt w 1 v bs.length (ucs bs)) : Calls Tryd.prog 45 #[v, .int .i64 i] w (Ret w (.bool (readB bs i))) := by
  obtain ⟨p0, c0, rfl, hc0, hm0⟩ := hv.form
  have h0 : readFrom bs 0 i = readB bs i := by unfold readFrom readB; rw [List.drop_zero]
  refine enter (args := [_, _]) _ [] [] Tryd.func45 rfl Tryd.ntmps45 rfl (by simp) .nil ?_
  (refine CW.seq ?_; refine CW.region ?_; apply LW.v0; rfl; rfl; apply ValP.assign; rfl; apply LW.nil; refine thenN ?_; refine CW.seq ?_; refine CW.region ?_; apply LW.v0; rfl; rfl; apply ValP.assign; rfl; apply LW.nil; refine thenN ?_; refine CW.seq ?_; refine CW.block ?_)
  refine CW.loop (fun k : Nat => ([(0, .slice p0 bs.length c0), (1, .int .i64 i), (4, .bool false), (5, .int .i64 (k : Int))], []))
    (fun k => k ≤ 2000 ∧ readFrom bs k i = readB bs i) (fun k => bs.length - k) 0 ⟨Nat.zero_le _, h0⟩ ⟨rfl, rfl, rfl, rfl, trivial⟩ (List.Sublist.refl _) ?_
  rintro k ⟨hk, hr⟩
  dsimp only
  rcases Nat.lt_or_ge k bs.length with hlt | hge
  · rcases Int.lt_or_le (k : Int) i with hki | hki
    · obtain ⟨b, off, c', cs, E, fr, heq, hbk, hx⟩ := hv.pos (by omega)
      cases heq
      have hst := readFrom_step hlt hki
      obtain ⟨u, hu⟩ : ∃ u, bs.getD k 0 = u := ⟨_, rfl⟩
      rw [hu, hr] at hst
      have hrd : Rd Tryd.prog 5 (.cells cs E fr) (off + k * 1) (.int .u8 (u.toNat : Int)) := Rd.elem1 hx (ucs_one bs) (List.getElem?_eq_getElem hlt) (by rw [← hu]; simp [hlt])
      have hSz := size_calls u.toNat u.toNat_lt
      have hzl := szOf_le u.toNat
      obtain ⟨z, hz⟩ : ∃ z, szOf u.toNat = z := ⟨_, rfl⟩
      rw [hz] at hSz hzl hst
      (refine CW.seq ?_; refine CW.seq ?_; refine CW.region ?_; apply LW.v0; rfl; rfl; apply ValP.move; rfl; apply LW.v0; rfl; rfl; apply ValP.move; rfl; apply LW.v0; rfl; rfl; apply ValP.lenR; rfl; infer_instance; rfl; apply LW.v0; rfl; rfl; apply ValP.lssT; rfl; rfl; omega; apply LW.v0; rfl; rfl; apply ValP.move; rfl; apply LW.guardT'; rfl; rfl; (with_reducible rfl); apply LW.v0; rfl; rfl; apply ValP.move; rfl; apply LW.guardT'; rfl; rfl; (with_reducible rfl); apply LW.v0; rfl; rfl; apply ValP.move; rfl; apply LW.guardT'; rfl; rfl; (with_reducible rfl); apply LW.v0; rfl; rfl; apply ValP.lssT; rfl; rfl; omega; apply LW.v0; rfl; rfl; apply ValP.pickT'; rfl; (with_reducible rfl); rfl; apply LW.nil; refine thenN ?_; apply CW.condT; rfl; (with_reducible rfl); refine CW.skip ?_; refine thenN ?_; refine CW.block ?_; refine CW.region ?_; apply LW.v0; rfl; rfl; apply ValP.move; rfl; apply LW.v0; rfl; rfl; apply ValP.addZL; rfl; rfl; decide; omega; apply LW.v0; rfl; rfl; apply ValP.move; rfl; apply LW.v0; rfl; rfl; apply ValP.move; rfl; apply LW.v0; rfl; rfl; apply ValP.indexAddrS; rfl; rfl; rfl; omega; apply LW.load; rfl; rfl; exact Known.ext (by assumption) (by simp); assumption; apply LW.callE; rfl; rfl; infer_instance; apply ArgsOk.cons; rfl; exact ArgsOk.nil; intro w _; exact hSz w; apply LW.v0; rfl; rfl; apply ValP.addZ; rfl; rfl; omega; apply LW.v0; rfl; rfl; apply ValP.assign; rfl; apply LW.nil; refine blkN ?_)
      apply thenX
      exact ⟨rfl, k + 1 + z, ⟨by omega, hst⟩, by omega, ⟨rfl, rfl, rfl, rfl, trivial⟩, List.Sublist.refl _⟩
    · rcases Int.lt_or_eq_of_le hki with hlt' | heq
      · rw [← hr, readFrom_gt hlt']
        have hne : ¬ (k : Int) = i := by omega
        (refine CW.seq ?_; refine CW.seq ?_; refine CW.region ?_; apply LW.v0; rfl; rfl; apply ValP.move; rfl; apply LW.v0; rfl; rfl; apply ValP.move; rfl; apply LW.v0; rfl; rfl; apply ValP.lenR; rfl; infer_instance; rfl; apply LW.v0; rfl; rfl; apply ValP.lssT; rfl; rfl; omega; apply LW.v0; rfl; rfl; apply ValP.move; rfl; apply LW.guardT'; rfl; rfl; (with_reducible rfl); apply LW.v0; rfl; rfl; apply ValP.move; rfl; apply LW.guardT'; rfl; rfl; (with_reducible rfl); apply LW.v0; rfl; rfl; apply ValP.move; rfl; apply LW.guardT'; rfl; rfl; (with_reducible rfl); apply LW.v0; rfl; rfl; apply ValP.lssF; rfl; rfl; omega; apply LW.v0; rfl; rfl; apply ValP.pickT'; rfl; (with_reducible rfl); rfl; apply LW.nil; refine thenN ?_; apply CW.condF; rfl; (with_reducible rfl); refine CW.exit ?_; refine thenE ?_; refine thenE ?_; refine blkE rfl ?_; refine thenN ?_; refine CW.seq ?_; refine CW.region ?_; apply LW.v0; rfl; rfl; apply ValP.move; rfl; apply LW.v0; rfl; rfl; apply ValP.move; rfl; apply LW.v0; rfl; rfl; apply ValP.eqF; rfl; rfl; omega; apply LW.v0; rfl; rfl; apply ValP.move; rfl; apply LW.guardF'; rfl; rfl; simp only [Bool.not_true, Bool.not_false]; rfl; apply LW.guardF'; rfl; rfl; simp only [Bool.not_true, Bool.not_false]; rfl; apply LW.v0; rfl; rfl; apply ValP.pickF'; rfl; (with_reducible rfl); rfl; apply LW.v0; rfl; rfl; apply ValP.move; rfl; apply LW.guardF'; rfl; rfl; simp only [Bool.not_true, Bool.not_false]; rfl; apply LW.guardF'; rfl; rfl; simp only [Bool.not_true, Bool.not_false]; rfl; apply LW.guardF'; rfl; rfl; simp only [Bool.not_true, Bool.not_false]; rfl; apply LW.guardF'; rfl; rfl; simp only [Bool.not_true, Bool.not_false]; rfl; apply LW.v0; rfl; rfl; apply ValP.pickF'; rfl; (with_reducible rfl); rfl; apply LW.v0; rfl; rfl; apply ValP.assign; rfl; apply LW.nil; refine thenN ?_; refine CW.ret ?_)
        (apply finR; exact .inl rfl; rfl; rfl; rfl; apply ResL.cons; exact Res.tmp rfl; exact ResL.nil)
        rfl
      · subst heq
        rw [← hr, readFrom_hit hlt]
        (refine CW.seq ?_; refine CW.seq ?_; refine CW.region ?_; apply LW.v0; rfl; rfl; apply ValP.move; rfl; apply LW.v0; rfl; rfl; apply ValP.move; rfl; apply LW.v0; rfl; rfl; apply ValP.lenR; rfl; infer_instance; rfl; apply LW.v0; rfl; rfl; apply ValP.lssT; rfl; rfl; omega; apply LW.v0; rfl; rfl; apply ValP.move; rfl; apply LW.guardT'; rfl; rfl; (with_reducible rfl); apply LW.v0; rfl; rfl; apply ValP.move; rfl; apply LW.guardT'; rfl; rfl; (with_reducible rfl); apply LW.v0; rfl; rfl; apply ValP.move; rfl; apply LW.guardT'; rfl; rfl; (with_reducible rfl); apply LW.v0; rfl; rfl; apply ValP.lssF; rfl; rfl; omega; apply LW.v0; rfl; rfl; apply ValP.pickT'; rfl; (with_reducible rfl); rfl; apply LW.nil; refine thenN ?_; apply CW.condF; rfl; (with_reducible rfl); refine CW.exit ?_; refine thenE ?_; refine thenE ?_; refine blkE rfl ?_; refine thenN ?_; refine CW.seq ?_; refine CW.region ?_; apply LW.v0; rfl; rfl; apply ValP.move; rfl; apply LW.v0; rfl; rfl; apply ValP.move; rfl; apply LW.v0; rfl; rfl; apply ValP.eqT; rfl; rfl; omega; apply LW.v0; rfl; rfl; apply ValP.move; rfl; apply LW.guardT'; rfl; rfl; (with_reducible rfl); apply LW.v0; rfl; rfl; apply ValP.move; rfl; apply LW.guardT'; rfl; rfl; (with_reducible rfl); apply LW.v0; rfl; rfl; apply ValP.geqT; rfl; rfl; omega; apply LW.v0; rfl; rfl; apply ValP.pickT'; rfl; (with_reducible rfl); rfl; apply LW.v0; rfl; rfl; apply ValP.move; rfl; apply LW.guardT'; rfl; rfl; (with_reducible rfl); apply LW.v0; rfl; rfl; apply ValP.move; rfl; apply LW.guardT'; rfl; rfl; (with_reducible rfl); apply LW.v0; rfl; rfl; apply ValP.move; rfl; apply LW.guardT'; rfl; rfl; (with_reducible rfl); apply LW.v0; rfl; rfl; apply ValP.lenR; rfl; infer_instance; rfl; apply LW.guardT'; rfl; rfl; (with_reducible rfl); apply LW.v0; rfl; rfl; apply ValP.lssT; rfl; rfl; omega; apply LW.v0; rfl; rfl; apply ValP.pickT'; rfl; (with_reducible rfl); rfl; apply LW.v0; rfl; rfl; apply ValP.assign; rfl; apply LW.nil; refine thenN ?_; refine CW.ret ?_)
        (apply finR; exact .inl rfl; rfl; rfl; rfl; apply ResL.cons; exact Res.tmp rfl; exact ResL.nil)
        rfl
  · rw [← hr, readFrom_end hge]
    by_cases heq : (k : Int) = i
    · subst heq
      (refine CW.seq ?_; refine CW.seq ?_; refine CW.region ?_; apply LW.v0; rfl; rfl; apply ValP.move; rfl; apply LW.v0; rfl; rfl; apply ValP.move; rfl; apply LW.v0; rfl; rfl; apply ValP.lenR; rfl; infer_instance; rfl; apply LW.v0; rfl; rfl; apply ValP.lssF; rfl; rfl; omega; apply LW.v0; rfl; rfl; apply ValP.move; rfl; apply LW.guardF'; rfl; rfl; simp only [Bool.not_true, Bool.not_false]; rfl; apply LW.guardF'; rfl; rfl; simp only [Bool.not_true, Bool.not_false]; rfl; apply LW.guardF'; rfl; rfl; simp only [Bool.not_true, Bool.not_false]; rfl; apply LW.v0; rfl; rfl; apply ValP.pickF'; rfl; (with_reducible rfl); rfl; apply LW.nil; refine thenN ?_; apply CW.condF; rfl; (with_reducible rfl); refine CW.exit ?_; refine thenE ?_; refine thenE ?_; refine blkE rfl ?_; refine thenN ?_; refine CW.seq ?_; refine CW.region ?_; apply LW.v0; rfl; rfl; apply ValP.move; rfl; apply LW.v0; rfl; rfl; apply ValP.move; rfl; apply LW.v0; rfl; rfl; apply ValP.eqT; rfl; rfl; omega; apply LW.v0; rfl; rfl; apply ValP.move; rfl; apply LW.guardT'; rfl; rfl; (with_reducible rfl); apply LW.v0; rfl; rfl; apply ValP.move; rfl; apply LW.guardT'; rfl; rfl; (with_reducible rfl); apply LW.v0; rfl; rfl; apply ValP.geqT; rfl; rfl; omega; apply LW.v0; rfl; rfl; apply ValP.pickT'; rfl; (with_reducible rfl); rfl; apply LW.v0; rfl; rfl; apply ValP.move; rfl; apply LW.guardT'; rfl; rfl; (with_reducible rfl); apply LW.v0; rfl; rfl; apply ValP.move; rfl; apply LW.guardT'; rfl; rfl; (with_reducible rfl); apply LW.v0; rfl; rfl; apply ValP.move; rfl; apply LW.guardT'; rfl; rfl; (with_reducible rfl); apply LW.v0; rfl; rfl; apply ValP.lenR; rfl; infer_instance; rfl; apply LW.guardT'; rfl; rfl; (with_reducible rfl); apply LW.v0; rfl; rfl; apply ValP.lssF; rfl; rfl; omega; apply LW.v0; rfl; rfl; apply ValP.pickT'; rfl; (with_reducible rfl); rfl; apply LW.v0; rfl; rfl; apply ValP.assign; rfl; apply LW.nil; refine thenN ?_; refine CW.ret ?_)
      (apply finR; exact .inl rfl; rfl; rfl; rfl; apply ResL.cons; exact Res.tmp rfl; exact ResL.nil)
      rfl
    · (refine CW.seq ?_; refine CW.seq ?_; refine CW.region ?_; apply LW.v0; rfl; rfl; apply ValP.move; rfl; apply LW.v0; rfl; rfl; apply ValP.move; rfl; apply LW.v0; rfl; rfl; apply ValP.lenR; rfl; infer_instance; rfl; apply LW.v0; rfl; rfl; apply ValP.lssF; rfl; rfl; omega; apply LW.v0; rfl; rfl; apply ValP.move; rfl; apply LW.guardF'; rfl; rfl; simp only [Bool.not_true, Bool.not_false]; rfl; apply LW.guardF'; rfl; rfl; simp only [Bool.not_true, Bool.not_false]; rfl; apply LW.guardF'; rfl; rfl; simp only [Bool.not_true, Bool.not_false]; rfl; apply LW.v0; rfl; rfl; apply ValP.pickF'; rfl; (with_reducible rfl); rfl; apply LW.nil; refine thenN ?_; apply CW.condF; rfl; (with_reducible rfl); refine CW.exit ?_; refine thenE ?_; refine thenE ?_; refine blkE rfl ?_; refine thenN ?_; refine CW.seq ?_; refine CW.region ?_; apply LW.v0; rfl; rfl; apply ValP.move; rfl; apply LW.v0; rfl; rfl; apply ValP.move; rfl; apply LW.v0; rfl; rfl; apply ValP.eqF; rfl; rfl; omega; apply LW.v0; rfl; rfl; apply ValP.move; rfl; apply LW.guardF'; rfl; rfl; simp only [Bool.not_true, Bool.not_false]; rfl; apply LW.guardF'; rfl; rfl; simp only [Bool.not_true, Bool.not_false]; rfl; apply LW.v0; rfl; rfl; apply ValP.pickF'; rfl; (with_reducible rfl); rfl; apply LW.v0; rfl; rfl; apply ValP.move; rfl; apply LW.guardF'; rfl; rfl; simp only [Bool.not_true, Bool.not_false]; rfl; apply LW.guardF'; rfl; rfl; simp only [Bool.not_true, Bool.not_false]; rfl; apply LW.guardF'; rfl; rfl; simp only [Bool.not_true, Bool.not_false]; rfl; apply LW.guardF'; rfl; rfl; simp only [Bool.not_true, Bool.not_false]; rfl; apply LW.v0; rfl; rfl; apply ValP.pickF'; rfl; (with_reducible rfl); rfl; apply LW.v0; rfl; rfl; apply ValP.assign; rfl; apply LW.nil; refine thenN ?_; refine CW.ret ?_)
      (apply finR; exact .inl rfl; rfl; rfl; rfl; apply ResL.cons; exact Res.tmp rfl; exact ResL.nil)
      rfl
/-! ### The document's places to jump to -/
def hitB (bs : List UInt8) (i : Nat) : Bool := decide ((bs.getD i 0).toNat = 91) && readB bs (i : Int)
def jmpR (bs : List UInt8) (k : Nat) : List Nat := (List.range k).filter (hitB bs)
theorem jmpR_hit {bs : List UInt8} {k : Nat} (h1 : (bs.getD k 0).toNat = 91) (h2 : readB bs (k : Int) = true) : jmpR bs (k + 1) = jmpR bs k ++ [k] := by
  have h : hitB bs k = true := by unfold hitB; rw [decide_eq_true h1, h2]; rfl
  unfold jmpR; rw [List.range_succ, List.filter_append]; simp [h]
theorem jmpR_miss1 {bs : List UInt8} {k : Nat} (h1 : ¬ (bs.getD k 0).toNat = 91) : jmpR bs (k + 1) = jmpR bs k := by
  have h : hitB bs k = false := by unfold hitB; rw [decide_eq_false h1]; rfl
  unfold jmpR; rw [List.range_succ, List.filter_append]; simp [h]
theorem jmpR_miss2 {bs : List UInt8} {k : Nat} (h2 : readB bs (k : Int) = false) : jmpR bs (k + 1) = jmpR bs k := by
  have h : hitB bs k = false := by unfold hitB; rw [h2, Bool.and_false]
  unfold jmpR; rw [List.range_succ, List.filter_append]; simp [h]
theorem jmpR_len (bs : List UInt8) (k : Nat) : (jmpR bs k).length ≤ k := by
  have := List.length_filter_le (hitB bs) (List.range k)
  rw [List.length_range] at this
  exact this
structure RJ where
  k : Nat
  v : Value
  seg : Fs
theorem rJumps_calls (bs : List UInt8) (hb : bs.length ≤ 1000) (v : Value) (w : World) (hv : RowAt w 1 v bs.length (ucs bs)) : Calls Tryd.prog 25 #[v] w (RetG w [] fun v gs => IsRow 3 1 v (jmpR bs bs.length).length (ics (jmpR bs bs.length)) gs) := by
  have hRd0 : ∀ i w' {fs}, St w [] fs w' → Calls Tryd.prog 45 #[v, .int .i64 i] w' (Ret w' (.bool (readB bs i))) := fun i w' fs hst => Read_calls bs hb i v w' (hv.st hst)
  obtain ⟨p0, c0, rfl, hc0, hm0⟩ := hv.form
  refine enter (args := [_]) _ [] [] Tryd.func25 rfl Tryd.ntmps25 rfl (by simp) .nil ?_
  (refine CW.seq ?_; refine CW.region ?_; apply LW.v0; rfl; rfl; apply ValP.assign; rfl; apply LW.nil; refine thenN ?_; refine CW.seq ?_; refine CW.region ?_; apply LW.v0; rfl; rfl; apply ValP.assign; rfl; apply LW.nil; refine thenN ?_; refine CW.seq ?_; refine CW.seq ?_; refine CW.region ?_; apply LW.v0; rfl; rfl; apply ValP.assign; rfl; apply LW.nil; refine thenN ?_; refine CW.block ?_)
  refine CW.loop (fun x : RJ => ([(0, .slice p0 bs.length c0), (3, x.v), (4, .int .i64 (x.k : Int))], x.seg ++ []))
    (fun x => x.k ≤ bs.length ∧ IsRow 3 1 x.v (jmpR bs x.k).length (ics (jmpR bs x.k)) x.seg) (fun x => bs.length - x.k) ⟨0, .slice none 0 0, []⟩ ⟨Nat.zero_le _, .nil⟩ ⟨rfl, rfl, rfl, trivial⟩ (List.Sublist.refl _) ?_
  rintro ⟨k, v, seg⟩ ⟨hk, hrow⟩
  dsimp only at hk hrow ⊢
  have hkl := jmpR_len bs k
  rcases Nat.lt_or_ge k bs.length with hlt | hge
  · obtain ⟨b, off, c', cs, E, fr, heq, hbk, hx⟩ := hv.pos (by omega)
    cases heq
    obtain ⟨u, hu⟩ : ∃ u, bs.getD k 0 = u := ⟨_, rfl⟩
    have hrd : Rd Tryd.prog 5 (.cells cs E fr) (off + k * 1) (.int .u8 (u.toNat : Int)) := Rd.elem1 hx (ucs_one bs) (List.getElem?_eq_getElem hlt) (by rw [← hu]; simp [hlt])
    have hub := u.toNat_lt
    by_cases h91 : u.toNat = 91
    · cases hrk : readB bs (k : Int) with
      | true =>
        have hst := jmpR_hit (by rw [hu]; exact h91) hrk
        have hRd := hRd0 (k : Int)
        rw [hrk] at hRd
        obtain ⟨J, hJ⟩ : ∃ J, jmpR bs k = J := ⟨_, rfl⟩
        rw [hJ] at hrow hst hkl
        (refine CW.seq ?_; refine CW.seq ?_; refine CW.region ?_; apply LW.v0; rfl; rfl; apply ValP.move; rfl; apply LW.v0; rfl; rfl; apply ValP.move; rfl; apply LW.v0; rfl; rfl; apply ValP.lenR; rfl; infer_instance; rfl; apply LW.v0; rfl; rfl; apply ValP.lssT; rfl; rfl; omega; apply LW.nil; refine thenN ?_; apply CW.condT; rfl; (with_reducible rfl); refine CW.skip ?_; refine thenN ?_; refine CW.seq ?_; refine CW.block ?_; refine CW.seq ?_; refine CW.region ?_; apply LW.v0; rfl; rfl; apply ValP.move; rfl; apply LW.v0; rfl; rfl; apply ValP.move; rfl; apply LW.v0; rfl; rfl; apply ValP.indexAddrS; rfl; rfl; rfl; omega; apply LW.load; rfl; rfl; exact Known.ext (by assumption) (by simp); assumption; apply LW.v0; rfl; rfl; apply ValP.eqT; rfl; rfl; omega; apply LW.v0; rfl; rfl; apply ValP.move; rfl; apply LW.guardT'; rfl; rfl; (with_reducible rfl); apply LW.v0; rfl; rfl; apply ValP.move; rfl; apply LW.guardT'; rfl; rfl; (with_reducible rfl); apply LW.v0; rfl; rfl; apply ValP.move; rfl; apply LW.guardT'; rfl; rfl; (with_reducible rfl); apply LW.callE; rfl; rfl; infer_instance; apply ArgsOk.cons; rfl; apply ArgsOk.cons; rfl; exact ArgsOk.nil; intro w _; exact hRd w (by assumption); apply LW.v0; rfl; rfl; apply ValP.pickT'; rfl; (with_reducible rfl); rfl; apply LW.nil; refine thenN ?_; apply CW.condT; rfl; (with_reducible rfl); refine CW.region ?_; apply LW.v0; rfl; rfl; apply ValP.move; rfl; apply LW.v0; rfl; rfl; apply ValP.move; rfl; apply LW.lay1; rfl; infer_instance; infer_instance; rfl; rfl; rfl; rfl; rfl; rfl; intro _)
        (apply LW.append; rfl; rfl; infer_instance; infer_instance; infer_instance; rfl; rfl; rfl; (case hrow => assumption); apply AtSeg.cons; exact AtSeg.head; apply Known.at; apply FsAt.head; rfl; rfl; rfl; omega; simp only [maxLen]; omega; omega; intro v' seg' hrow'; obtain ⟨p', c', rfl⟩ := hrow'.form; (refine ⟨_, (by (repeat (first | exact AtSeg.head | apply AtSeg.cons | apply AtSeg.app))), ?_⟩); (try simp only [List.cons_append, List.nil_append]))
        (apply LW.v0; rfl; rfl; apply ValP.assign; rfl; apply LW.nil; refine blkN ?_; refine thenN ?_; refine CW.region ?_; apply LW.v0; rfl; rfl; apply ValP.move; rfl; apply LW.v0; rfl; rfl; apply ValP.addZL; rfl; rfl; decide; omega; apply LW.v0; rfl; rfl; apply ValP.assign; rfl; apply LW.nil)
        apply thenX
        exact ⟨rfl, ⟨k + 1, _, seg'⟩, ⟨hlt, by dsimp only; rw [hst, List.length_append, ics_app]; exact hrow'⟩, by dsimp only; omega, ⟨rfl, rfl, rfl, trivial⟩, by (apply List.Sublist.cons; exact List.Sublist.refl _)⟩
      | false =>
        have hst := jmpR_miss2 hrk
        have hRd := hRd0 (k : Int)
        rw [hrk] at hRd
        (refine CW.seq ?_; refine CW.seq ?_; refine CW.region ?_; apply LW.v0; rfl; rfl; apply ValP.move; rfl; apply LW.v0; rfl; rfl; apply ValP.move; rfl; apply LW.v0; rfl; rfl; apply ValP.lenR; rfl; infer_instance; rfl; apply LW.v0; rfl; rfl; apply ValP.lssT; rfl; rfl; omega; apply LW.nil; refine thenN ?_; apply CW.condT; rfl; (with_reducible rfl); refine CW.skip ?_; refine thenN ?_; refine CW.seq ?_; refine CW.block ?_; refine CW.seq ?_; refine CW.region ?_; apply LW.v0; rfl; rfl; apply ValP.move; rfl; apply LW.v0; rfl; rfl; apply ValP.move; rfl; apply LW.v0; rfl; rfl; apply ValP.indexAddrS; rfl; rfl; rfl; omega; apply LW.load; rfl; rfl; exact Known.ext (by assumption) (by simp); assumption; apply LW.v0; rfl; rfl; apply ValP.eqT; rfl; rfl; omega; apply LW.v0; rfl; rfl; apply ValP.move; rfl; apply LW.guardT'; rfl; rfl; (with_reducible rfl); apply LW.v0; rfl; rfl; apply ValP.move; rfl; apply LW.guardT'; rfl; rfl; (with_reducible rfl); apply LW.v0; rfl; rfl; apply ValP.move; rfl; apply LW.guardT'; rfl; rfl; (with_reducible rfl); apply LW.callE; rfl; rfl; infer_instance; apply ArgsOk.cons; rfl; apply ArgsOk.cons; rfl; exact ArgsOk.nil; intro w _; exact hRd w (by assumption); apply LW.v0; rfl; rfl; apply ValP.pickT'; rfl; (with_reducible rfl); rfl; apply LW.nil; refine thenN ?_; apply CW.condF; rfl; (with_reducible rfl); refine CW.skip ?_; refine blkN ?_; refine thenN ?_; refine CW.region ?_; apply LW.v0; rfl; rfl; apply ValP.move; rfl; apply LW.v0; rfl; rfl; apply ValP.addZL; rfl; rfl; decide; omega; apply LW.v0; rfl; rfl; apply ValP.assign; rfl; apply LW.nil)
        apply thenX
        exact ⟨rfl, ⟨k + 1, v, seg⟩, ⟨hlt, by dsimp only; rw [hst]; exact hrow⟩, by dsimp only; omega, ⟨rfl, rfl, rfl, trivial⟩, by (exact List.Sublist.refl _)⟩
    · have hst := jmpR_miss1 (bs := bs) (k := k) (by rw [hu]; exact h91)
      (refine CW.seq ?_; refine CW.seq ?_; refine CW.region ?_; apply LW.v0; rfl; rfl; apply ValP.move; rfl; apply LW.v0; rfl; rfl; apply ValP.move; rfl; apply LW.v0; rfl; rfl; apply ValP.lenR; rfl; infer_instance; rfl; apply LW.v0; rfl; rfl; apply ValP.lssT; rfl; rfl; omega; apply LW.nil; refine thenN ?_; apply CW.condT; rfl; (with_reducible rfl); refine CW.skip ?_; refine thenN ?_; refine CW.seq ?_; refine CW.block ?_; refine CW.seq ?_; refine CW.region ?_; apply LW.v0; rfl; rfl; apply ValP.move; rfl; apply LW.v0; rfl; rfl; apply ValP.move; rfl; apply LW.v0; rfl; rfl; apply ValP.indexAddrS; rfl; rfl; rfl; omega; apply LW.load; rfl; rfl; exact Known.ext (by assumption) (by simp); assumption; apply LW.v0; rfl; rfl; apply ValP.eqF; rfl; rfl; omega; apply LW.v0; rfl; rfl; apply ValP.move; rfl; apply LW.guardF'; rfl; rfl; simp only [Bool.not_true, Bool.not_false]; rfl; apply LW.guardF'; rfl; rfl; simp only [Bool.not_true, Bool.not_false]; rfl; apply LW.guardF'; rfl; rfl; simp only [Bool.not_true, Bool.not_false]; rfl; apply LW.v0; rfl; rfl; apply ValP.pickF'; rfl; (with_reducible rfl); rfl; apply LW.nil; refine thenN ?_; apply CW.condF; rfl; (with_reducible rfl); refine CW.skip ?_; refine blkN ?_; refine thenN ?_; refine CW.region ?_; apply LW.v0; rfl; rfl; apply ValP.move; rfl; apply LW.v0; rfl; rfl; apply ValP.addZL; rfl; rfl; decide; omega; apply LW.v0; rfl; rfl; apply ValP.assign; rfl; apply LW.nil)
      apply thenX
      exact ⟨rfl, ⟨k + 1, v, seg⟩, ⟨hlt, by dsimp only; rw [hst]; exact hrow⟩, by dsimp only; omega, ⟨rfl, rfl, rfl, trivial⟩, by (exact List.Sublist.refl _)⟩
  · obtain rfl : k = bs.length := by omega
    (refine CW.seq ?_; refine CW.seq ?_; refine CW.region ?_; apply LW.v0; rfl; rfl; apply ValP.move; rfl; apply LW.v0; rfl; rfl; apply ValP.move; rfl; apply LW.v0; rfl; rfl; apply ValP.lenR; rfl; infer_instance; rfl; apply LW.v0; rfl; rfl; apply ValP.lssF; rfl; rfl; omega; apply LW.nil; refine thenN ?_; apply CW.condF; rfl; (with_reducible rfl); refine CW.exit ?_; refine thenE ?_; refine thenE ?_; refine blkE rfl ?_; refine thenN ?_; refine CW.seq ?_; refine CW.region ?_; apply LW.v0; rfl; rfl; apply ValP.move; rfl; apply LW.v0; rfl; rfl; apply ValP.assign; rfl; apply LW.nil; refine thenN ?_; refine CW.ret ?_)
    apply finM seg; (exact .inl rfl); (exact Shut.nil); rfl; (apply ResL.cons; exact Res.tmp rfl; exact ResL.nil); exact List.sublist_append_left _ _
    exact hrow
def rJumpC (bs : List UInt8) (n : Nat) : Bool := decide (n < bs.length) && hitB bs n
theorem rJump_calls (bs : List UInt8) (hb : bs.length ≤ 1000) (n : Nat) (hn : n < 18446744073709551616) (v : Value) (w : World) (hv : RowAt w 1 v bs.length (ucs bs)) : Calls Tryd.prog 26 #[v, .int .u64 (n : Int)] w (Ret w (.bool (rJumpC bs n))) := by
  have hRd0 : ∀ i w' {fs}, St w [] fs w' → Calls Tryd.prog 45 #[v, .int .i64 i] w' (Ret w' (.bool (readB bs i))) := fun i w' fs hst => Read_calls bs hb i v w' (hv.st hst)
  obtain ⟨p0, c0, rfl, hc0, hm0⟩ := hv.form
  unfold rJumpC
  refine enter (args := [_, _]) _ [] [] Tryd.func26 rfl Tryd.ntmps26 rfl (by simp) .nil ?_
  rcases Nat.lt_or_ge n bs.length with hlt | hge
  · obtain ⟨b, off, c', cs, E, fr, heq, hbk, hx⟩ := hv.pos (by omega)
    cases heq
    obtain ⟨u, hu⟩ : ∃ u, bs.getD n 0 = u := ⟨_, rfl⟩
    have hrd : Rd Tryd.prog 5 (.cells cs E fr) (off + n * 1) (.int .u8 (u.toNat : Int)) := Rd.elem1 hx (ucs_one bs) (List.getElem?_eq_getElem hlt) (by rw [← hu]; simp [hlt])
    have hub := u.toNat_lt
    have hRd := hRd0 (n : Int)
    unfold hitB
    rw [decide_eq_true hlt, Bool.true_and, hu]
    by_cases h91 : u.toNat = 91
    · rw [decide_eq_true h91, Bool.true_and]
      (refine CW.seq ?_; refine CW.region ?_; apply LW.v0; rfl; rfl; apply ValP.assign; rfl; apply LW.nil; refine thenN ?_; refine CW.seq ?_; refine CW.region ?_; apply LW.v0; rfl; rfl; apply ValP.move; rfl; apply LW.v0; rfl; rfl; apply ValP.move; rfl; apply LW.v0; rfl; rfl; apply ValP.lenR; rfl; infer_instance; rfl; apply LW.v0; rfl; rfl; apply ValP.convN; rfl; omega; omega; apply LW.v0; rfl; rfl; apply ValP.lssT; rfl; rfl; omega; apply LW.v0; rfl; rfl; apply ValP.move; rfl; apply LW.guardT'; rfl; rfl; (with_reducible rfl); apply LW.v0; rfl; rfl; apply ValP.move; rfl; apply LW.guardT'; rfl; rfl; (with_reducible rfl); apply LW.v0; rfl; rfl; apply ValP.move; rfl; apply LW.guardT'; rfl; rfl; (with_reducible rfl); apply LW.v0; rfl; rfl; apply ValP.indexAddrS; rfl; rfl; rfl; omega; apply LW.guardT'; rfl; rfl; (with_reducible rfl); apply LW.load; rfl; rfl; exact Known.ext (by assumption) (by simp); assumption; apply LW.guardT'; rfl; rfl; (with_reducible rfl); apply LW.v0; rfl; rfl; apply ValP.eqT; rfl; rfl; omega; apply LW.v0; rfl; rfl; apply ValP.pickT'; rfl; (with_reducible rfl); rfl; apply LW.v0; rfl; rfl; apply ValP.move; rfl; apply LW.guardT'; rfl; rfl; (with_reducible rfl); apply LW.v0; rfl; rfl; apply ValP.move; rfl; apply LW.guardT'; rfl; rfl; (with_reducible rfl); apply LW.v0; rfl; rfl; apply ValP.move; rfl; apply LW.guardT'; rfl; rfl; (with_reducible rfl); apply LW.v0; rfl; rfl; apply ValP.convI; rfl; omega; omega; apply LW.guardT'; rfl; rfl; (with_reducible rfl); apply LW.callE; rfl; rfl; infer_instance; apply ArgsOk.cons; rfl; apply ArgsOk.cons; rfl; exact ArgsOk.nil; intro w _; exact hRd w (by assumption); apply LW.v0; rfl; rfl; apply ValP.pickT'; rfl; (with_reducible rfl); rfl; apply LW.v0; rfl; rfl; apply ValP.assign; rfl; apply LW.nil; refine thenN ?_; refine CW.ret ?_)
      (apply finR; exact .inl rfl; rfl; rfl; rfl; apply ResL.cons; exact Res.tmp rfl; exact ResL.nil)
      rfl
    · rw [decide_eq_false h91, Bool.false_and]
      (refine CW.seq ?_; refine CW.region ?_; apply LW.v0; rfl; rfl; apply ValP.assign; rfl; apply LW.nil; refine thenN ?_; refine CW.seq ?_; refine CW.region ?_; apply LW.v0; rfl; rfl; apply ValP.move; rfl; apply LW.v0; rfl; rfl; apply ValP.move; rfl; apply LW.v0; rfl; rfl; apply ValP.lenR; rfl; infer_instance; rfl; apply LW.v0; rfl; rfl; apply ValP.convN; rfl; omega; omega; apply LW.v0; rfl; rfl; apply ValP.lssT; rfl; rfl; omega; apply LW.v0; rfl; rfl; apply ValP.move; rfl; apply LW.guardT'; rfl; rfl; (with_reducible rfl); apply LW.v0; rfl; rfl; apply ValP.move; rfl; apply LW.guardT'; rfl; rfl; (with_reducible rfl); apply LW.v0; rfl; rfl; apply ValP.move; rfl; apply LW.guardT'; rfl; rfl; (with_reducible rfl); apply LW.v0; rfl; rfl; apply ValP.indexAddrS; rfl; rfl; rfl; omega; apply LW.guardT'; rfl; rfl; (with_reducible rfl); apply LW.load; rfl; rfl; exact Known.ext (by assumption) (by simp); assumption; apply LW.guardT'; rfl; rfl; (with_reducible rfl); apply LW.v0; rfl; rfl; apply ValP.eqF; rfl; rfl; omega; apply LW.v0; rfl; rfl; apply ValP.pickT'; rfl; (with_reducible rfl); rfl; apply LW.v0; rfl; rfl; apply ValP.move; rfl; apply LW.guardF'; rfl; rfl; simp only [Bool.not_true, Bool.not_false]; rfl; apply LW.guardF'; rfl; rfl; simp only [Bool.not_true, Bool.not_false]; rfl; apply LW.guardF'; rfl; rfl; simp only [Bool.not_true, Bool.not_false]; rfl; apply LW.guardF'; rfl; rfl; simp only [Bool.not_true, Bool.not_false]; rfl; apply LW.v0; rfl; rfl; apply ValP.pickF'; rfl; (with_reducible rfl); rfl; apply LW.v0; rfl; rfl; apply ValP.assign; rfl; apply LW.nil; refine thenN ?_; refine CW.ret ?_)
      (apply finR; exact .inl rfl; rfl; rfl; rfl; apply ResL.cons; exact Res.tmp rfl; exact ResL.nil)
      rfl
  · rw [decide_eq_false (by omega), Bool.false_and]
    (refine CW.seq ?_; refine CW.region ?_; apply LW.v0; rfl; rfl; apply ValP.assign; rfl; apply LW.nil; refine thenN ?_; refine CW.seq ?_; refine CW.region ?_; apply LW.v0; rfl; rfl; apply ValP.move; rfl; apply LW.v0; rfl; rfl; apply ValP.move; rfl; apply LW.v0; rfl; rfl; apply ValP.lenR; rfl; infer_instance; rfl; apply LW.v0; rfl; rfl; apply ValP.convN; rfl; omega; omega; apply LW.v0; rfl; rfl; apply ValP.lssF; rfl; rfl; omega; apply LW.v0; rfl; rfl; apply ValP.move; rfl; apply LW.guardF'; rfl; rfl; simp only [Bool.not_true, Bool.not_false]; rfl; apply LW.guardF'; rfl; rfl; simp only [Bool.not_true, Bool.not_false]; rfl; apply LW.guardF'; rfl; rfl; simp only [Bool.not_true, Bool.not_false]; rfl; apply LW.guardF'; rfl; rfl; simp only [Bool.not_true, Bool.not_false]; rfl; apply LW.guardF'; rfl; rfl; simp only [Bool.not_true, Bool.not_false]; rfl; apply LW.v0; rfl; rfl; apply ValP.pickF'; rfl; (with_reducible rfl); rfl; apply LW.v0; rfl; rfl; apply ValP.move; rfl; apply LW.guardF'; rfl; rfl; simp only [Bool.not_true, Bool.not_false]; rfl; apply LW.guardF'; rfl; rfl; simp only [Bool.not_true, Bool.not_false]; rfl; apply LW.guardF'; rfl; rfl; simp only [Bool.not_true, Bool.not_false]; rfl; apply LW.guardF'; rfl; rfl; simp only [Bool.not_true, Bool.not_false]; rfl; apply LW.v0; rfl; rfl; apply ValP.pickF'; rfl; (with_reducible rfl); rfl; apply LW.v0; rfl; rfl; apply ValP.assign; rfl; apply LW.nil; refine thenN ?_; refine CW.ret ?_)
    (apply finR; exact .inl rfl; rfl; rfl; rfl; apply ResL.cons; exact Res.tmp rfl; exact ResL.nil)
    rfl
/-! ### The same bytes -/
theorem Same_calls (a b : List UInt8) (va vb : Value) (w : World) (ha : RowAt w 1 va a.length (ucs a)) (hb : RowAt w 1 vb b.length (ucs b)) : Calls Tryd.prog 19 #[va, vb] w (Ret w (.bool (decide (a = b)))) := by
  obtain ⟨p0, c0, rfl, hc0, hm0⟩ := ha.form
  obtain ⟨p1, c1, rfl, hc1, hm1⟩ := hb.form
  simp only [maxLen] at hm0 hm1
  refine enter (args := [_, _]) _ [] [] Tryd.func19 rfl Tryd.ntmps19 rfl (by simp) .nil ?_
  by_cases hl : a.length = b.length
  · (refine CW.seq ?_; refine CW.region ?_; apply LW.v0; rfl; rfl; apply ValP.assign; rfl; apply LW.nil; refine thenN ?_; refine CW.seq ?_; refine CW.seq ?_; refine CW.region ?_; apply LW.v0; rfl; rfl; apply ValP.move; rfl; apply LW.v0; rfl; rfl; apply ValP.lenR; rfl; infer_instance; rfl; apply LW.v0; rfl; rfl; apply ValP.move; rfl; apply LW.v0; rfl; rfl; apply ValP.lenR; rfl; infer_instance; rfl; apply LW.v0; rfl; rfl; apply ValP.neF; rfl; rfl; omega; apply LW.nil; refine thenN ?_; apply CW.condF; rfl; (with_reducible rfl); refine CW.skip ?_; refine thenN ?_; refine CW.seq ?_; refine CW.seq ?_; refine CW.region ?_; apply LW.v0; rfl; rfl; apply ValP.assign; rfl; apply LW.nil; refine thenN ?_; refine CW.block ?_)
    refine CW.loop (fun k : Nat => ([(0, .slice p0 a.length c0), (1, .slice p1 b.length c1), (4, .bool false), (5, .int .i64 (k : Int))], []))
      (fun k => k ≤ a.length ∧ ∀ j, j < k → a[j]? = b[j]?) (fun k => a.length - k) 0 ⟨Nat.zero_le _, fun j h => absurd h (Nat.not_lt_zero _)⟩ ⟨rfl, rfl, rfl, rfl, trivial⟩ (List.Sublist.refl _) ?_
    rintro k ⟨hk, hall⟩
    dsimp only
    rcases Nat.lt_or_ge k a.length with hlt | hge
    · obtain ⟨b1, off1, c', cs1, E1, fr1, heq, hbk1, hx1⟩ := ha.pos (by omega)
      cases heq
      obtain ⟨b2, off2, c', cs2, E2, fr2, heq, hbk2, hx2⟩ := hb.pos (by omega)
      cases heq
      have hlt2 : k < b.length := by omega
      obtain ⟨x, hx⟩ : ∃ x, a[k] = x := ⟨_, rfl⟩
      obtain ⟨y, hy⟩ : ∃ y, b[k] = y := ⟨_, rfl⟩
      have hrd1 : Rd Tryd.prog 5 (.cells cs1 E1 fr1) (off1 + k * 1) (.int .u8 (x.toNat : Int)) := Rd.elem1 hx1 (ucs_one a) (List.getElem?_eq_getElem hlt) (by rw [hx])
      have hrd2 : Rd Tryd.prog 5 (.cells cs2 E2 fr2) (off2 + k * 1) (.int .u8 (y.toNat : Int)) := Rd.elem1 hx2 (ucs_one b) (List.getElem?_eq_getElem hlt2) (by rw [hy])
      by_cases he : x = y
      · subst he
        (refine CW.seq ?_; refine CW.seq ?_; refine CW.region ?_; apply LW.v0; rfl; rfl; apply ValP.move; rfl; apply LW.v0; rfl; rfl; apply ValP.move; rfl; apply LW.v0; rfl; rfl; apply ValP.lenR; rfl; infer_instance; rfl; apply LW.v0; rfl; rfl; apply ValP.lssT; rfl; rfl; omega; apply LW.nil; refine thenN ?_; apply CW.condT; rfl; (with_reducible rfl); refine CW.skip ?_; refine thenN ?_; refine CW.seq ?_; refine CW.block ?_; refine CW.seq ?_; refine CW.quiet rfl mixed (by decide +kernel) ?_; apply QW.v0; rfl; exact WantT.none; apply ValP.move; rfl; apply QW.v0; rfl; exact WantT.none; apply ValP.move; rfl; apply QW.v0; rfl; exact WantT.none; apply ValP.indexAddrS; rfl; rfl; rfl; omega; apply QW.load; rfl; exact WantT.none; rfl; exact Known.ext (by assumption) (by simp); assumption; apply QW.v0; rfl; exact WantT.none; apply ValP.move; rfl; apply QW.v0; rfl; exact WantT.none; apply ValP.move; rfl; apply QW.v0; rfl; exact WantT.none; apply ValP.indexAddrS; rfl; rfl; rfl; omega; apply QW.load; rfl; exact WantT.none; rfl; exact Known.ext (by assumption) (by simp); assumption; apply QW.v0; rfl; exact WantT.none; apply ValP.neF; rfl; rfl; omega; refine QW.nil ?_; refine thenN ?_; apply CW.condF; rfl; (with_reducible rfl); refine CW.skip ?_; refine blkN ?_; refine thenN ?_; refine CW.region ?_; apply LW.v0; rfl; rfl; apply ValP.move; rfl; apply LW.v0; rfl; rfl; apply ValP.addZL; rfl; rfl; decide; omega; apply LW.v0; rfl; rfl; apply ValP.assign; rfl; apply LW.nil)
        apply thenX
        refine ⟨rfl, k + 1, ⟨hlt, fun j hj => ?_⟩, by omega, ⟨rfl, rfl, rfl, rfl, trivial⟩, List.Sublist.refl _⟩
        rcases Nat.lt_or_ge j k with h | h
        · exact hall j h
        · obtain rfl : j = k := by omega
          rw [List.getElem?_eq_getElem hlt, List.getElem?_eq_getElem hlt2, hx, hy]
      · have hne : ¬ (x.toNat : Int) = (y.toNat : Int) := fun h => he (UInt8.toNat_inj.1 (by omega))
        rw [decide_eq_false (fun h : a = b => he (by rw [← hx, ← hy]; subst h; rfl))]
        (refine CW.seq ?_; refine CW.seq ?_; refine CW.region ?_; apply LW.v0; rfl; rfl; apply ValP.move; rfl; apply LW.v0; rfl; rfl; apply ValP.move; rfl; apply LW.v0; rfl; rfl; apply ValP.lenR; rfl; infer_instance; rfl; apply LW.v0; rfl; rfl; apply ValP.lssT; rfl; rfl; omega; apply LW.nil; refine thenN ?_; apply CW.condT; rfl; (with_reducible rfl); refine CW.skip ?_; refine thenN ?_; refine CW.seq ?_; refine CW.block ?_; refine CW.seq ?_; refine CW.quiet rfl mixed (by decide +kernel) ?_; apply QW.v0; rfl; exact WantT.none; apply ValP.move; rfl; apply QW.v0; rfl; exact WantT.none; apply ValP.move; rfl; apply QW.v0; rfl; exact WantT.none; apply ValP.indexAddrS; rfl; rfl; rfl; omega; apply QW.load; rfl; exact WantT.none; rfl; exact Known.ext (by assumption) (by simp); assumption; apply QW.v0; rfl; exact WantT.none; apply ValP.move; rfl; apply QW.v0; rfl; exact WantT.none; apply ValP.move; rfl; apply QW.v0; rfl; exact WantT.none; apply ValP.indexAddrS; rfl; rfl; rfl; omega; apply QW.load; rfl; exact WantT.none; rfl; exact Known.ext (by assumption) (by simp); assumption; apply QW.v0; rfl; exact WantT.none; apply ValP.neT; rfl; rfl; omega; refine QW.nil ?_; refine thenN ?_; apply CW.condT; rfl; (with_reducible rfl); refine CW.seq ?_; refine CW.region ?_; apply LW.v0; rfl; rfl; apply ValP.assign; rfl; apply LW.nil; refine thenN ?_; refine CW.ret ?_; refine blkR ?_; refine thenR ?_; refine thenR ?_; refine blkR ?_; refine thenR ?_)
        (apply finR; exact .inl rfl; rfl; rfl; rfl; apply ResL.cons; exact Res.tmp rfl; exact ResL.nil)
        rfl
    · rw [decide_eq_true (List.ext_getElem? fun j => by
        rcases Nat.lt_or_ge j k with h | h
        · exact hall j h
        · rw [List.getElem?_eq_none (by omega), List.getElem?_eq_none (by omega)])]
      (refine CW.seq ?_; refine CW.seq ?_; refine CW.region ?_; apply LW.v0; rfl; rfl; apply ValP.move; rfl; apply LW.v0; rfl; rfl; apply ValP.move; rfl; apply LW.v0; rfl; rfl; apply ValP.lenR; rfl; infer_instance; rfl; apply LW.v0; rfl; rfl; apply ValP.lssF; rfl; rfl; omega; apply LW.nil; refine thenN ?_; apply CW.condF; rfl; (with_reducible rfl); refine CW.exit ?_; refine thenE ?_; refine thenE ?_; refine blkE rfl ?_; refine thenN ?_; refine CW.seq ?_; refine CW.region ?_; apply LW.v0; rfl; rfl; apply ValP.assign; rfl; apply LW.nil; refine thenN ?_; refine CW.ret ?_)
      (apply finR; exact .inl rfl; rfl; rfl; rfl; apply ResL.cons; exact Res.tmp rfl; exact ResL.nil)
      rfl
  · rw [decide_eq_false (fun h : a = b => hl (by rw [h]))]
    (refine CW.seq ?_; refine CW.region ?_; apply LW.v0; rfl; rfl; apply ValP.assign; rfl; apply LW.nil; refine thenN ?_; refine CW.seq ?_; refine CW.seq ?_; refine CW.region ?_; apply LW.v0; rfl; rfl; apply ValP.move; rfl; apply LW.v0; rfl; rfl; apply ValP.lenR; rfl; infer_instance; rfl; apply LW.v0; rfl; rfl; apply ValP.move; rfl; apply LW.v0; rfl; rfl; apply ValP.lenR; rfl; infer_instance; rfl; apply LW.v0; rfl; rfl; apply ValP.neT; rfl; rfl; omega; apply LW.nil; refine thenN ?_; apply CW.condT; rfl; (with_reducible rfl); refine CW.seq ?_; refine CW.region ?_; apply LW.v0; rfl; rfl; apply ValP.assign; rfl; apply LW.nil; refine thenN ?_; refine CW.ret ?_; refine thenR ?_)
    (apply finR; exact .inl rfl; rfl; rfl; rfl; apply ResL.cons; exact Res.tmp rfl; exact ResL.nil)
    rfl
end Go.Proofs.YtbhicncgjplnoaaDoor

/-
  The data of the operation at a place: contracts.
  Conditions: none.
-/
namespace Go.Proofs.YtbhicncgjplnoaaDoor
open Go Go.RowKit SL
set_option maxRecDepth 8000
set_option maxHeartbeats 4000000
set_option linter.unusedSimpArgs false
set_option linter.unusedVariables false
attribute [local irreducible] SL.CW SL.LW SL.DW Calls SL.Ret SL.RetG SL.beginQ SL.roundQ SL.rangeQ SL.inQ SL.RW SL.AnyW SL.thenQ SL.thenC SL.thenW SL.blkQ SL.finQ SL.ValP SL.NewP SL.SetP SL.CallP SL.Rd SL.Wr SL.Known
attribute [local irreducible] opOf
/-- **copy(x, y)**: x a row of ours, y a row that may be read, not shorter. -/
theorem LW.copyFull {C : Cu} {ops : Array Oper} {Q : Post} {rest : List Oper} {e : Env} {fs : Fs} {d : Nat} {t : TypeId} {pos : String} {af : Array Edge} {x y : Operand} {tys : Array TypeId} {T E bytes : TypeId} {z vx : Value} {g off dLen dCap m : Nat} {cur : Array Value} {E' : TypeId} {news : List Value} {fs' : Fs} (hd : Nat.blt d C.N = true) (hT : tys = #[T, T]) (hU : UnI C.P T (.slice E)) (hI : InfoI C.P E 1 z) (hB : BytI C.P E bytes)
    (hx : e.ev x = some (.slice (some ⟨g, off, none⟩) dLen dCap)) (hy : e.ev y = some vx) (hat : ∀ w, St C.w0 C.S fs w → RowAt w 1 vx m news) (h1 : ∀ u ∈ news, u.oneCell' = true) (h0 : 0 < dLen) (hm : dLen ≤ m) (hfit : off + dLen ≤ cur.size)
    (hset : SetAt fs g (.cells cur E' (0, 0)) (.cells (cur.toList.take off ++ news.take dLen ++ cur.toList.drop (off + dLen)).toArray E' (0, 0)) fs')
    (k : LW C ops Q rest ((d, .int .i64 (dLen : Int)) :: e) fs') :
    LW C ops Q (⟨some d, .call { callee := .builtin .copy, args := #[x, y], argTypes := tys }, t, pos, af, none⟩ :: rest) e fs := by
  subst hT
  refine LW.valset hd (fun c h => by cases h) hset (fun a w hs hg => ?_) k
  have hA := hat w hs.st
  have hl : (news.take dLen).length = dLen := by have := hA.len; rw [List.length_take]; omega
  have hsz : (C.P.info? E).map (·.size) = some 1 := by
    obtain ⟨i, i1, i2, i3, i4⟩ := info_all (P := C.P) (T := E); rw [i1]; simp [i2]
  obtain ⟨b, o2, c, cs, E2, fr, rfl, hblk, hnx⟩ := hA.pos (by omega)
  have hrun := run_copy_row (P := C.P) w T T t E g off dLen dCap ⟨b, o2, none⟩ m c cur E' (news.take dLen) hU.un hsz hg (by rw [hl]; exact (Nat.min_eq_right hm).symm) (fun j u hj => by
    rw [addr_add, cell_of hblk]
    rw [List.getElem?_take] at hj
    split at hj
    · exact cut_get hnx hj
    · cases hj) (by rw [hl]; exact hfit) (fun u hu => h1 u (List.mem_of_mem_take hu))
  rw [hl] at hrun
  have hput : w.setRow g (cur.toList.take off ++ news.take dLen ++ cur.toList.drop (off + dLen)).toArray = w.putObj g (.cells (cur.toList.take off ++ news.take dLen ++ cur.toList.drop (off + dLen)).toArray E' (0, 0)) := setRow_put hg
  rw [hput] at hrun
  simp [execOp, resolve, invoke, builtin, hs.env.ev hx, hs.env.ev hy, hrun, goInt]
/-- The k bytes behind place n; what is not there is 0. -/
def datF (bs : List UInt8) (n k : Nat) : List UInt8 := (List.range k).map fun i => bs.getD (n + 1 + i) 0
theorem datF_len (bs : List UInt8) (n k : Nat) : (datF bs n k).length = k := by simp [datF]
theorem datF_succ (bs : List UInt8) (n k : Nat) : datF bs n (k + 1) = datF bs n k ++ [bs.getD (n + 1 + k) 0] := by unfold datF; rw [List.range_succ, List.map_append]; rfl
theorem datF_get (bs : List UInt8) (n k i : Nat) : (datF bs n k)[i]? = if i < k then some (bs.getD (n + 1 + i) 0) else none := by
  unfold datF
  rw [List.getElem?_map]
  split
  · rename_i h; rw [List.getElem?_range h]; rfl
  · rename_i h; rw [List.getElem?_eq_none (by simp; omega)]; rfl
theorem datF_eq (bs : List UInt8) (n k : Nat) : datF bs n k = (bs.drop (n + 1)).take k ++ List.replicate (k - (bs.length - (n + 1))) 0 := by
  refine List.ext_getElem? fun i => ?_
  rw [datF_get, List.getElem?_append, List.length_take, List.length_drop]
  split
  · rename_i h
    split
    · rename_i h2
      rw [List.getElem?_take, if_pos h, List.getElem?_drop, List.getD_eq_getElem?_getD, List.getElem?_eq_getElem (show n + 1 + i < bs.length by omega)]; rfl
    · rename_i h2
      rw [List.getElem?_replicate, if_pos (by omega), List.getD_eq_getElem?_getD, List.getElem?_eq_none (by omega)]; rfl
  · rename_i h
    rw [if_neg (by omega), List.getElem?_replicate, if_neg (by omega)]
def dataL (bs : List UInt8) (i : Int) : List UInt8 := if readB bs i = true then datF bs i.toNat (szOf (bs.getD i.toNat 0).toNat) else []
def dataC (bs : List UInt8) (i : Int) : List UInt8 := if bs.length ≤ 200 then dataL bs i else []
theorem readB_range {bs : List UInt8} {i : Int} (h : readB bs i = true) : 0 ≤ i ∧ i < bs.length := by
  unfold readB at h
  obtain ⟨s, hs, he⟩ := List.any_eq_true.1 h
  have he' : (s.1 : Int) = i := by simpa using he
  refine ⟨by omega, ?_⟩
  have key : ∀ n (bs : List UInt8) p, bs.length ≤ n → ∀ s ∈ segsAt p bs, s.1 < p + bs.length := by
    intro n
    induction n with
    | zero =>
      intro bs p h s hs
      rw [List.eq_nil_of_length_eq_zero (show bs.length = 0 by omega), segsAt_nil] at hs
      cases hs
    | succ n ih =>
      intro bs p h s hs
      cases bs with
      | nil => rw [segsAt_nil] at hs; cases hs
      | cons b r =>
        rw [segsAt_cons] at hs
        rcases List.mem_cons.1 hs with rfl | hs
        · simp
        · have h1 := ih (r.drop (szOf b.toNat)) (p + 1 + szOf b.toNat) (by simp at h ⊢; omega) s hs
          have h2 := segsAt_ge _ _ _ (Nat.le_refl _) s hs
          simp at h1 ⊢
          omega
  have := key _ bs 0 (Nat.le_refl _) s hs
  omega
structure RJ2 where
  k : Nat
  v : Value
  seg : Fs
theorem rData_calls (bs : List UInt8) (hb : bs.length ≤ 1000) (i : Int) (v : Value) (w : World) (hv : RowAt w 1 v bs.length (ucs bs)) : Calls Tryd.prog 27 #[v, .int .i64 i] w (RetG w [] fun v gs => IsRow 5 1 v (dataL bs i).length (ucs (dataL bs i)) gs) := by
  have hRd0 : ∀ w' {fs}, St w [] fs w' → Calls Tryd.prog 45 #[v, .int .i64 i] w' (Ret w' (.bool (readB bs i))) := fun w' fs hst => Read_calls bs hb i v w' (hv.st hst)
  obtain ⟨p0, c0, rfl, hc0, hm0⟩ := hv.form
  unfold dataL
  refine enter (args := [_, _]) _ [] [] Tryd.func27 rfl Tryd.ntmps27 rfl (by simp) .nil ?_
  cases hrk : readB bs i with
  | false =>
    have hRd := hRd0
    rw [hrk] at hRd
    rw [if_neg (by decide)]
    (refine CW.seq ?_; refine CW.region ?_; apply LW.v0; rfl; rfl; apply ValP.assign; rfl; apply LW.nil; refine thenN ?_; refine CW.seq ?_; refine CW.seq ?_; refine CW.region ?_; apply LW.v0; rfl; rfl; apply ValP.move; rfl; apply LW.v0; rfl; rfl; apply ValP.move; rfl; apply LW.callE; rfl; rfl; infer_instance; apply ArgsOk.cons; rfl; apply ArgsOk.cons; rfl; exact ArgsOk.nil; intro w _; exact hRd w (by assumption); apply LW.v0; rfl; rfl; apply ValP.notF; rfl; (with_reducible rfl); apply LW.nil; refine thenN ?_; apply CW.condT; rfl; (with_reducible rfl); refine CW.seq ?_; refine CW.region ?_; apply LW.v0; rfl; rfl; apply ValP.assign; rfl; apply LW.nil; refine thenN ?_; refine CW.ret ?_; refine thenR ?_)
    apply finM []; (exact .inl rfl); (exact Shut.nil); rfl; (apply ResL.cons; exact Res.tmp rfl; exact ResL.nil); exact List.nil_sublist _
    exact .nil
  | true =>
    have hRd := hRd0
    rw [hrk] at hRd
    rw [if_pos rfl]
    obtain ⟨hi0, hi1⟩ := readB_range hrk
    obtain ⟨n, rfl⟩ : ∃ n : Nat, i = (n : Int) := ⟨i.toNat, by omega⟩
    rw [Int.toNat_natCast]
    have hlt : n < bs.length := by omega
    obtain ⟨b, off, c', cs, E, fr, heq, hbk, hx⟩ := hv.pos (by omega)
    cases heq
    obtain ⟨u, hu⟩ : ∃ u, bs.getD n 0 = u := ⟨_, rfl⟩
    have hrd : Rd Tryd.prog 5 (.cells cs E fr) (off + n * 1) (.int .u8 (u.toNat : Int)) := Rd.elem1 hx (ucs_one bs) (List.getElem?_eq_getElem hlt) (by rw [← hu]; simp [hlt])
    have hSz := size_calls u.toNat u.toNat_lt
    have hzl := szOf_le u.toNat
    rw [hu]
    obtain ⟨z, hz⟩ : ∃ z, szOf u.toNat = z := ⟨_, rfl⟩
    rw [hz] at hSz hzl ⊢
    (refine CW.seq ?_; refine CW.region ?_; apply LW.v0; rfl; rfl; apply ValP.assign; rfl; apply LW.nil; refine thenN ?_; refine CW.seq ?_; refine CW.seq ?_; refine CW.region ?_; apply LW.v0; rfl; rfl; apply ValP.move; rfl; apply LW.v0; rfl; rfl; apply ValP.move; rfl; apply LW.callE; rfl; rfl; infer_instance; apply ArgsOk.cons; rfl; apply ArgsOk.cons; rfl; exact ArgsOk.nil; intro w _; exact hRd w (by assumption); apply LW.v0; rfl; rfl; apply ValP.notT; rfl; (with_reducible rfl); apply LW.nil; refine thenN ?_; apply CW.condF; rfl; (with_reducible rfl); refine CW.skip ?_; refine thenN ?_; refine CW.seq ?_; refine CW.region ?_; apply LW.v0; rfl; rfl; apply ValP.assign; rfl; apply LW.nil; refine thenN ?_; refine CW.seq ?_; refine CW.seq ?_; refine CW.region ?_; apply LW.v0; rfl; rfl; apply ValP.assign; rfl; apply LW.nil; refine thenN ?_; refine CW.block ?_)
    refine CW.loop (fun x : RJ2 => ([(0, .slice (some ⟨b, off, none⟩) bs.length c0), (1, .int .i64 (n : Int)), (5, x.v), (6, .int .i64 ((x.k + 1 : Nat) : Int))], x.seg ++ []))
      (fun x => x.k ≤ z ∧ IsRow 5 1 x.v x.k (ucs (datF bs n x.k)) x.seg) (fun x => z - x.k) ⟨0, .slice none 0 0, []⟩ ⟨Nat.zero_le _, .nil⟩ ⟨rfl, rfl, rfl, rfl, trivial⟩ (List.Sublist.refl _) ?_
    rintro ⟨k, v, seg⟩ ⟨hk, hrow⟩
    dsimp only at hk hrow ⊢
    have hst := datF_succ bs n k
    rcases Nat.lt_or_ge k z with hkz | hkz
    · rcases Nat.lt_or_ge (n + 1 + k) bs.length with hin | hout
      · obtain ⟨y, hy⟩ : ∃ y, bs.getD (n + 1 + k) 0 = y := ⟨_, rfl⟩
        rw [hy] at hst
        have hrd2 : Rd Tryd.prog 5 (.cells cs E fr) (off + (n + (k + 1)) * 1) (.int .u8 (y.toNat : Int)) := Rd.elem1 hx (ucs_one bs) (List.getElem?_eq_getElem (show n + (k + 1) < bs.length by omega)) (by rw [← hy, show n + 1 + k = n + (k + 1) by omega]; simp [show n + (k + 1) < bs.length by omega])
        (refine CW.seq ?_; refine CW.seq ?_; refine CW.region ?_; apply LW.v0; rfl; rfl; apply ValP.move; rfl; apply LW.v0; rfl; rfl; apply ValP.move; rfl; apply LW.v0; rfl; rfl; apply ValP.move; rfl; apply LW.v0; rfl; rfl; apply ValP.indexAddrS; rfl; rfl; rfl; omega; apply LW.load; rfl; rfl; exact Known.ext (by assumption) (by simp); assumption; apply LW.callE; rfl; rfl; infer_instance; apply ArgsOk.cons; rfl; exact ArgsOk.nil; intro w _; exact hSz w; apply LW.v0; rfl; rfl; apply ValP.leqT; rfl; rfl; omega; apply LW.nil; refine thenN ?_; apply CW.condT; rfl; (with_reducible rfl); refine CW.skip ?_; refine thenN ?_; refine CW.seq ?_; refine CW.block ?_; refine CW.seq ?_; refine CW.region ?_; apply LW.v0; rfl; rfl; apply ValP.move; rfl; apply LW.v0; rfl; rfl; apply ValP.move; rfl; apply LW.v0; rfl; rfl; apply ValP.addZ; rfl; rfl; omega; apply LW.v0; rfl; rfl; apply ValP.move; rfl; apply LW.v0; rfl; rfl; apply ValP.lenR; rfl; infer_instance; rfl; apply LW.v0; rfl; rfl; apply ValP.lssT; rfl; rfl; omega; apply LW.nil; refine thenN ?_; apply CW.condT; rfl; (with_reducible rfl); refine CW.region ?_; apply LW.v0; rfl; rfl; apply ValP.move; rfl; apply LW.v0; rfl; rfl; apply ValP.move; rfl; apply LW.v0; rfl; rfl; apply ValP.move; rfl; apply LW.v0; rfl; rfl; apply ValP.move; rfl; apply LW.v0; rfl; rfl; apply ValP.addZ; rfl; rfl; omega; apply LW.v0; rfl; rfl; apply ValP.indexAddrS; rfl; rfl; rfl; omega; apply LW.load; rfl; rfl; exact Known.ext (by assumption) (by simp); assumption; apply LW.lay1; rfl; infer_instance; infer_instance; rfl; rfl; rfl; rfl; rfl; rfl; intro _)
        (apply LW.append; rfl; rfl; infer_instance; infer_instance; infer_instance; rfl; rfl; rfl; (case hrow => assumption); apply AtSeg.cons; exact AtSeg.head; apply Known.at; apply FsAt.head; rfl; rfl; rfl; omega; simp only [maxLen]; omega; omega; intro v' seg' hrow'; obtain ⟨p', c', rfl⟩ := hrow'.form; (refine ⟨_, (by (repeat (first | exact AtSeg.head | apply AtSeg.cons | apply AtSeg.app))), ?_⟩); (try simp only [List.cons_append, List.nil_append]))
        (apply LW.v0; rfl; rfl; apply ValP.assign; rfl; apply LW.nil; refine blkN ?_; refine thenN ?_; refine CW.region ?_; apply LW.v0; rfl; rfl; apply ValP.move; rfl; apply LW.v0; rfl; rfl; apply ValP.addZL; rfl; rfl; decide; omega; apply LW.v0; rfl; rfl; apply ValP.assign; rfl; apply LW.nil)
        apply thenX
        exact ⟨rfl, ⟨k + 1, _, seg'⟩, ⟨hkz, by dsimp only; rw [hst, ucs_app]; exact hrow'⟩, by dsimp only; omega, ⟨rfl, rfl, rfl, rfl, trivial⟩, by (apply List.Sublist.cons; exact List.Sublist.refl _)⟩
      · rw [show bs.getD (n + 1 + k) 0 = 0 by rw [List.getD_eq_getElem?_getD, List.getElem?_eq_none (by omega)]; rfl] at hst
        (refine CW.seq ?_; refine CW.seq ?_; refine CW.region ?_; apply LW.v0; rfl; rfl; apply ValP.move; rfl; apply LW.v0; rfl; rfl; apply ValP.move; rfl; apply LW.v0; rfl; rfl; apply ValP.move; rfl; apply LW.v0; rfl; rfl; apply ValP.indexAddrS; rfl; rfl; rfl; omega; apply LW.load; rfl; rfl; exact Known.ext (by assumption) (by simp); assumption; apply LW.callE; rfl; rfl; infer_instance; apply ArgsOk.cons; rfl; exact ArgsOk.nil; intro w _; exact hSz w; apply LW.v0; rfl; rfl; apply ValP.leqT; rfl; rfl; omega; apply LW.nil; refine thenN ?_; apply CW.condT; rfl; (with_reducible rfl); refine CW.skip ?_; refine thenN ?_; refine CW.seq ?_; refine CW.block ?_; refine CW.seq ?_; refine CW.region ?_; apply LW.v0; rfl; rfl; apply ValP.move; rfl; apply LW.v0; rfl; rfl; apply ValP.move; rfl; apply LW.v0; rfl; rfl; apply ValP.addZ; rfl; rfl; omega; apply LW.v0; rfl; rfl; apply ValP.move; rfl; apply LW.v0; rfl; rfl; apply ValP.lenR; rfl; infer_instance; rfl; apply LW.v0; rfl; rfl; apply ValP.lssF; rfl; rfl; omega; apply LW.nil; refine thenN ?_; apply CW.condF; rfl; (with_reducible rfl); refine CW.region ?_; apply LW.v0; rfl; rfl; apply ValP.move; rfl; apply LW.lay1; rfl; infer_instance; infer_instance; rfl; rfl; rfl; rfl; rfl; rfl; intro _)
        (apply LW.append; rfl; rfl; infer_instance; infer_instance; infer_instance; rfl; rfl; rfl; (case hrow => assumption); apply AtSeg.cons; exact AtSeg.head; apply Known.at; apply FsAt.head; rfl; rfl; rfl; omega; simp only [maxLen]; omega; omega; intro v' seg' hrow'; obtain ⟨p', c', rfl⟩ := hrow'.form; (refine ⟨_, (by (repeat (first | exact AtSeg.head | apply AtSeg.cons | apply AtSeg.app))), ?_⟩); (try simp only [List.cons_append, List.nil_append]))
        (apply LW.v0; rfl; rfl; apply ValP.assign; rfl; apply LW.nil; refine blkN ?_; refine thenN ?_; refine CW.region ?_; apply LW.v0; rfl; rfl; apply ValP.move; rfl; apply LW.v0; rfl; rfl; apply ValP.addZL; rfl; rfl; decide; omega; apply LW.v0; rfl; rfl; apply ValP.assign; rfl; apply LW.nil)
        apply thenX
        exact ⟨rfl, ⟨k + 1, _, seg'⟩, ⟨hkz, by dsimp only; rw [hst, ucs_app]; exact hrow'⟩, by dsimp only; omega, ⟨rfl, rfl, rfl, rfl, trivial⟩, by (apply List.Sublist.cons; exact List.Sublist.refl _)⟩
    · obtain rfl : k = z := by omega
      (refine CW.seq ?_; refine CW.seq ?_; refine CW.region ?_; apply LW.v0; rfl; rfl; apply ValP.move; rfl; apply LW.v0; rfl; rfl; apply ValP.move; rfl; apply LW.v0; rfl; rfl; apply ValP.move; rfl; apply LW.v0; rfl; rfl; apply ValP.indexAddrS; rfl; rfl; rfl; omega; apply LW.load; rfl; rfl; exact Known.ext (by assumption) (by simp); assumption; apply LW.callE; rfl; rfl; infer_instance; apply ArgsOk.cons; rfl; exact ArgsOk.nil; intro w _; exact hSz w; apply LW.v0; rfl; rfl; apply ValP.leqF; rfl; rfl; omega; apply LW.nil; refine thenN ?_; apply CW.condF; rfl; (with_reducible rfl); refine CW.exit ?_; refine thenE ?_; refine thenE ?_; refine blkE rfl ?_; refine thenN ?_; refine CW.seq ?_; refine CW.region ?_; apply LW.v0; rfl; rfl; apply ValP.move; rfl; apply LW.v0; rfl; rfl; apply ValP.assign; rfl; apply LW.nil; refine thenN ?_; refine CW.ret ?_)
      apply finM seg; (exact .inl rfl); (exact Shut.nil); rfl; (apply ResL.cons; exact Res.tmp rfl; exact ResL.nil); exact List.sublist_append_left _ _
      rw [datF_len]
      exact hrow
theorem readFrom_step' {bs : List UInt8} {p : Nat} {i : Int} (h : p < bs.length) (hi : (p : Int) < i) : readFrom bs (p + szOf (bs.getD p 0).toNat + 1) i = readFrom bs p i := by
  rw [← readFrom_step h hi, Nat.add_right_comm p 1]
theorem dataL_none {bs : List UInt8} {i : Int} (h : readB bs i = false) : dataL bs i = [] := by unfold dataL; rw [h]; exact if_neg (by decide)
theorem dataL_some {bs : List UInt8} {n : Nat} (h : readB bs n = true) : dataL bs n = datF bs n (szOf (bs.getD n 0).toNat) := by unfold dataL; rw [h]; exact if_pos rfl
theorem Data_calls (bs : List UInt8) (i : Int) (v : Value) (w : World) (hv : RowAt w 1 v bs.length (ucs bs)) : Calls Tryd.prog 24 #[v, .int .i64 i] w (RetG w [] fun v gs => IsRow 5 1 v (dataC bs i).length (ucs (dataC bs i)) gs) := by
  have hCk0 : ∀ w' {fs}, St w [] fs w' → Calls Tryd.prog 20 #[v] w' (Ret w' (.int .i64 (if bs.length ≤ 200 then 0 else 3))) := fun w' fs hst => CheckC_calls v bs.length (ucs bs) w' (hv.st hst)
  obtain ⟨p0, c0, rfl, _, _⟩ := hv.form
  unfold dataC
  refine enter (args := [_, _]) _ [] [] Tryd.func24 rfl Tryd.ntmps24 rfl (by simp) .nil ?_
  rcases Nat.lt_or_ge 200 bs.length with hgt | hle
  · rw [if_neg (by omega)]
    have hCk : ∀ w' {fs}, St w [] fs w' → Calls Tryd.prog 20 #[.slice p0 bs.length c0] w' (Ret w' (.int .i64 3)) := by rw [if_neg (by omega)] at hCk0; exact hCk0
    (refine CW.seq ?_; refine CW.region ?_; apply LW.box1; rfl; rfl; rfl; intro _; apply LW.box1; rfl; rfl; rfl; intro _; apply LW.alloc1; rfl; rfl; intro _; apply LW.nil; refine thenN ?_; refine CW.seq ?_; refine CW.seq ?_; refine CW.region ?_; apply LW.load; rfl; rfl; apply Known.at; apply FsAt.tail; apply FsAt.tail; apply FsAt.head; exact Rd.one' rfl)
    apply LW.inline
    rfl
    rfl
    infer_instance
    (apply ArgsOk.cons; rfl; exact ArgsOk.nil)
    rfl
    exact Tryd.func38
    rfl
    exact Tryd.ntmps38
    rfl
    (refine CW.seq ?_; refine CW.region ?_; apply LW.box1; rfl; rfl; rfl; intro _; apply LW.v0; rfl; rfl; apply ValP.assign; rfl; apply LW.nil; refine thenN ?_; refine CW.seq ?_; refine CW.region ?_; apply LW.v0; rfl; rfl; apply ValP.makeFunc; exact ArgsOk.nil; apply ArgsOk.cons; rfl; exact ArgsOk.nil; apply LW.v0; rfl; rfl; apply ValP.assign; rfl; apply LW.nil; refine thenN ?_; refine CW.ret ?_)
    apply inI
    (exact .inl rfl)
    (exact Shut.nil)
    rfl
    (apply ResL.cons; exact Res.tmp rfl; exact ResL.nil)
    rfl
    (apply LW.nil; refine thenN ?_; refine CW.block ?_)
    apply CW.rangeFunc
    rfl
    rfl
    infer_instance
    rfl
    exact Tryd.func50
    rfl
    exact Tryd.ntmps50
    rfl
    rfl
    intro l r rec hrec
    (refine CW.seq ?_; refine CW.seq ?_; refine CW.region ?_; apply LW.load; rfl; rfl; apply Known.at; apply FsAt.tail; apply FsAt.tail; apply FsAt.head; exact Rd.one' rfl; apply LW.callE; rfl; rfl; infer_instance; apply ArgsOk.cons; rfl; exact ArgsOk.nil; intro w _; exact hCk w (by assumption); apply LW.v0; rfl; rfl; apply ValP.neT; rfl; rfl; omega; apply LW.nil; refine thenN ?_; apply CW.condT; rfl; (with_reducible rfl); refine CW.ret ?_; refine thenR ?_)
    apply rangeN
    (exact .inl rfl)
    (exact Shut.nil)
    (apply SetAt.head)
    (refine blkN ?_; refine thenM ?_; refine CW.seq ?_; refine CW.region ?_; apply LW.store; rfl; rfl; apply SetAt.tail; apply SetAt.tail; apply SetAt.tail; apply SetAt.head; apply Wr.cells; rfl; rfl; simp only [List.size_toArray, List.length_cons, List.length_nil]; omega; simp only [fillC, wc, wrCells, Value.cells, List.toList_toArray, List.setIfInBounds_toArray, List.set_cons_succ, List.set_cons_zero, Nat.reduceAdd, Nat.reduceMul, Nat.zero_add, Nat.mul_one]; rfl; apply LW.nil; refine thenN ?_; refine CW.ret ?_)
    apply finM []; (exact .inl rfl); (apply Shut.cons; apply SetAt.tail; apply SetAt.head; exact Shut.nil); rfl; (apply ResL.cons; apply Res.cell; rfl; apply Known.at; apply FsAt.tail; apply FsAt.tail; apply FsAt.tail; apply FsAt.head; exact Rd.one' rfl; exact ResL.nil); exact List.nil_sublist _
    exact .nil
  · rw [if_pos hle]
    have hCk : ∀ w' {fs}, St w [] fs w' → Calls Tryd.prog 20 #[.slice p0 bs.length c0] w' (Ret w' (.int .i64 0)) := by rw [if_pos hle] at hCk0; exact hCk0
    obtain ⟨T, hT⟩ : ∃ T, dataL bs i = T := ⟨_, rfl⟩
    rw [hT]
    (refine CW.seq ?_; refine CW.region ?_; apply LW.box1; rfl; rfl; rfl; intro _; apply LW.box1; rfl; rfl; rfl; intro _; apply LW.alloc1; rfl; rfl; intro _; apply LW.nil; refine thenN ?_; refine CW.seq ?_; refine CW.seq ?_; refine CW.region ?_; apply LW.load; rfl; rfl; apply Known.at; apply FsAt.tail; apply FsAt.tail; apply FsAt.head; exact Rd.one' rfl)
    apply LW.inline
    rfl
    rfl
    infer_instance
    (apply ArgsOk.cons; rfl; exact ArgsOk.nil)
    rfl
    exact Tryd.func38
    rfl
    exact Tryd.ntmps38
    rfl
    (refine CW.seq ?_; refine CW.region ?_; apply LW.box1; rfl; rfl; rfl; intro _; apply LW.v0; rfl; rfl; apply ValP.assign; rfl; apply LW.nil; refine thenN ?_; refine CW.seq ?_; refine CW.region ?_; apply LW.v0; rfl; rfl; apply ValP.makeFunc; exact ArgsOk.nil; apply ArgsOk.cons; rfl; exact ArgsOk.nil; apply LW.v0; rfl; rfl; apply ValP.assign; rfl; apply LW.nil; refine thenN ?_; refine CW.ret ?_)
    apply inI
    (exact .inl rfl)
    (exact Shut.nil)
    rfl
    (apply ResL.cons; exact Res.tmp rfl; exact ResL.nil)
    rfl
    (apply LW.nil; refine thenN ?_; refine CW.block ?_)
    apply CW.rangeFunc
    rfl
    rfl
    infer_instance
    rfl
    exact Tryd.func50
    rfl
    exact Tryd.ntmps50
    rfl
    rfl
    intro l r rec hrec
    (refine CW.seq ?_; refine CW.seq ?_; refine CW.region ?_; apply LW.load; rfl; rfl; apply Known.at; apply FsAt.tail; apply FsAt.tail; apply FsAt.head; exact Rd.one' rfl; apply LW.callE; rfl; rfl; infer_instance; apply ArgsOk.cons; rfl; exact ArgsOk.nil; intro w _; exact hCk w (by assumption); apply LW.v0; rfl; rfl; apply ValP.neF; rfl; rfl; omega; apply LW.nil; refine thenN ?_; apply CW.condF; rfl; (with_reducible rfl); refine CW.skip ?_; refine thenN ?_; refine CW.seq ?_; refine CW.region ?_; apply LW.v0; rfl; rfl; apply ValP.assign; rfl; apply LW.nil; refine thenN ?_; refine CW.block ?_)
    rename_i b1 b2 b3 bb
    refine CW.loop (fun p : Nat => ([(3, .int .i64 (p : Int)), (0, .func (.yield l) #[] #[]), (1, .pointer (some ⟨bb, 0, none⟩))],
      [(l, rdy rec), (r, .deferred (some [])), (bb, .cells #[.slice p0 bs.length c0] 33 (0, 0)), (b3, .cells #[.slice none 0 0] 33 (0, 0)), (b2, .cells #[.int .i64 i] 3 (0, 0)), (b1, .cells #[.slice p0 bs.length c0] 33 (0, 0))]))
      (fun p => p ≤ 300 ∧ (readFrom bs p i = readB bs i ∨ (i < (p : Int) ∧ T = []))) (fun p => bs.length - p) 0 ⟨by decide, .inl (by unfold readFrom readB; rw [List.drop_zero])⟩ ⟨rfl, rfl, rfl, trivial⟩ (List.Sublist.refl _) ?_
    rintro p ⟨hp, hinv⟩
    dsimp only at hp hinv ⊢
    rcases Nat.lt_or_ge p bs.length with hlt | hge
    · obtain ⟨b, off, c', cs, E, fr, heq, hbk, hx⟩ := hv.pos (by omega)
      cases heq
      obtain ⟨u, hu⟩ : ∃ u, bs.getD p 0 = u := ⟨_, rfl⟩
      have hrd : Rd Tryd.prog 5 (.cells cs E fr) (off + p * 1) (.int .u8 (u.toNat : Int)) := Rd.elem1 hx (ucs_one bs) (List.getElem?_eq_getElem hlt) (by rw [← hu]; simp [hlt])
      have hub : u.toNat < 256 := u.toNat_lt
      have hOf0 := Of_op_calls u.toNat hub
      have hzl := szOf_le u.toNat
      have hxd := opAt_dt u.toNat
      obtain ⟨x, hx0⟩ : ∃ x, opAt u.toNat = x := ⟨_, rfl⟩
      rw [hx0] at hxd
      rw [← hxd] at hzl
      unfold opAt at hx0
      cases ho : opOf u.toNat with
      | none =>
        rw [ho] at hx0 hOf0
        dsimp only at hx0
        subst hx0
        have hOf : ∀ w, Calls Tryd.prog 11 #[.int .u8 (u.toNat : Int)] w (Ret w (.tuple #[.agg (opc zeroOp), .int .i64 4])) := hOf0
        dsimp only at hzl hxd
        (refine CW.seq ?_; refine CW.seq ?_; refine CW.region ?_; apply LW.v0; rfl; rfl; apply ValP.move; rfl; apply LW.load; rfl; rfl; apply Known.at; apply FsAt.tail; apply FsAt.tail; apply FsAt.head; exact Rd.one' rfl; apply LW.v0; rfl; rfl; apply ValP.lenR; rfl; infer_instance; rfl; apply LW.v0; rfl; rfl; apply ValP.lssT; rfl; rfl; omega; apply LW.nil; refine thenN ?_; apply CW.condT; rfl; (with_reducible rfl); refine CW.skip ?_; refine thenN ?_; refine CW.seq ?_; refine CW.block ?_; refine CW.seq ?_; refine CW.region ?_; apply LW.load; rfl; rfl; apply Known.at; apply FsAt.tail; apply FsAt.tail; apply FsAt.head; exact Rd.one' rfl; apply LW.v0; rfl; rfl; apply ValP.move; rfl; apply LW.v0; rfl; rfl; apply ValP.indexAddrS; rfl; rfl; rfl; omega; apply LW.load; rfl; rfl; exact Known.ext (by assumption) (by simp); assumption; apply LW.callE; rfl; rfl; infer_instance; apply ArgsOk.cons; rfl; exact ArgsOk.nil; intro w _; exact hOf w; apply LW.v0; rfl; rfl; apply ValP.move; rfl; apply LW.v0; rfl; rfl; apply ValP.extractN; rfl; rfl; apply LW.v0; rfl; rfl; apply ValP.extractN; rfl; rfl; apply LW.allocA; rfl; intro _; apply LW.store; rfl; rfl; apply SetAt.head; apply Wr.whole; rfl; rfl; rfl; apply LW.v0; rfl; rfl; apply ValP.assign; rfl; apply LW.nil; refine thenN ?_; refine CW.seq ?_; refine CW.seq ?_; refine CW.region ?_; apply LW.v0; rfl; rfl; apply ValP.move; rfl; apply LW.v0; rfl; rfl; apply ValP.neT; rfl; rfl; omega; apply LW.nil; refine thenN ?_; apply CW.condT; rfl; (with_reducible rfl); refine CW.region ?_; apply LW.load; rfl; rfl; apply Known.at; apply FsAt.tail; apply FsAt.tail; apply FsAt.tail; apply FsAt.head; exact Rd.one' rfl; apply LW.v0; rfl; rfl; apply ValP.move; rfl; apply LW.v0; rfl; rfl; apply ValP.indexAddrS; rfl; rfl; rfl; omega; apply LW.load; rfl; rfl; exact Known.ext (by assumption) (by simp); assumption; apply LW.v0; rfl; rfl; apply ValP.buildT; infer_instance; infer_instance; apply PartsOk.cons; rfl; exact PartsOk.nil; rfl; simp only [fillP, wrCells, Value.cells, List.getElem?_cons_zero, List.getElem?_cons_succ, List.toList_toArray, List.setIfInBounds_toArray, List.set_cons_succ, List.set_cons_zero, Nat.reduceAdd, Nat.zero_add]; rfl; apply LW.store; rfl; rfl; apply SetAt.head; apply Wr.whole; rfl; rfl; rfl; apply LW.nil; refine thenN ?_; refine CW.seq ?_; refine CW.seq ?_; refine CW.region ?_; apply LW.v0; rfl; rfl; apply ValP.move; rfl; apply LW.v0; rfl; rfl; apply ValP.move; rfl; apply LW.load; rfl; rfl; apply Known.at; apply FsAt.head; exact Rd.whole rfl)
        by_cases hpi : (p : Int) = i
        · have hno : ¬ i < (p : Int) := by omega
          have hrb : readB bs i = true := by
            rcases hinv with h | ⟨h, _⟩
            · rw [← h, ← hpi]; exact readFrom_hit hlt
            · exact absurd h hno
          rcases Nat.eq_zero_or_pos 0 with hz | hz
          · have hT0 : T = [] := by rw [← hT, ← hpi, dataL_some (by rw [hpi]; exact hrb), hu, ← hxd]; exact List.eq_nil_of_length_eq_zero ((datF_len _ _ _).trans hz)
            apply LW.yield
            rfl
            rfl
            (apply ArgsOk.cons; rfl; apply ArgsOk.cons; rfl; exact ArgsOk.nil)
            exact hrec
            (apply FsAt.tail; apply FsAt.head)
            rfl
            rfl
            (refine CW.seq ?_; refine CW.region ?_; apply LW.v0; rfl; rfl; apply ValP.assign; rfl; apply LW.nil; refine thenN ?_; refine CW.region ?_; apply LW.allocA; rfl; intro _; apply LW.store; rfl; rfl; apply SetAt.head; apply Wr.whole; rfl; rfl; rfl; apply LW.nil; apply beginI; apply SetAt.tail; apply SetAt.tail; apply SetAt.head; refine CW.block ?_; refine CW.seq ?_; refine CW.region ?_; apply LW.v0; rfl; rfl; apply ValP.move; rfl; apply LW.load; rfl; rfl; apply Known.at; apply FsAt.tail; apply FsAt.tail; apply FsAt.tail; apply FsAt.tail; apply FsAt.tail; apply FsAt.tail; apply FsAt.head; exact Rd.one' rfl; apply LW.v0; rfl; rfl; apply ValP.eqT; rfl; rfl; omega; apply LW.v0; rfl; rfl; apply ValP.move; rfl; apply LW.guardT'; rfl; rfl; (with_reducible rfl); apply LW.v0; rfl; rfl; apply ValP.fieldAddr; rfl; rfl; apply LW.guardT'; rfl; rfl; (with_reducible rfl); apply LW.load; rfl; rfl; apply Known.at; apply FsAt.head; exact Rd.one' rfl; apply LW.guardT'; rfl; rfl; (with_reducible rfl); apply LW.v0; rfl; rfl; apply ValP.gtrF; rfl; rfl; omega; apply LW.v0; rfl; rfl; apply ValP.pickT'; rfl; (with_reducible rfl); rfl; apply LW.nil; refine thenN ?_; apply CW.condF; rfl; (with_reducible rfl); refine CW.skip ?_; refine blkN ?_; apply roundN; apply SetAt.tail; apply SetAt.tail; apply SetAt.head; apply LW.v0; rfl; rfl; apply ValP.notT; rfl; (with_reducible rfl); apply LW.nil; refine thenN ?_; apply CW.condF; rfl; (with_reducible rfl); refine CW.skip ?_; refine thenN ?_; refine CW.region ?_; apply LW.v0; rfl; rfl; apply ValP.move; rfl; apply LW.v0; rfl; rfl; apply ValP.fieldAddr; rfl; rfl; apply LW.load; rfl; rfl; apply Known.at; apply FsAt.tail; apply FsAt.head; exact Rd.one' rfl; apply LW.v0; rfl; rfl; apply ValP.addZL; rfl; rfl; decide; omega; apply LW.v0; rfl; rfl; apply ValP.assign; rfl; apply LW.nil; refine blkN ?_; refine thenN ?_; refine CW.region ?_; apply LW.v0; rfl; rfl; apply ValP.move; rfl; apply LW.v0; rfl; rfl; apply ValP.addZL; rfl; rfl; decide; omega; apply LW.v0; rfl; rfl; apply ValP.assign; rfl; apply LW.nil)
            apply thenX
            exact ⟨rfl, p + 0 + 1, ⟨by omega, .inr ⟨by omega, hT0⟩⟩, by omega, ⟨rfl, rfl, rfl, trivial⟩, by (apply List.Sublist.cons; apply List.Sublist.cons; exact List.Sublist.refl _)⟩
          · omega
        · have hnext : readFrom bs (p + 0 + 1) i = readB bs i ∨ (i < ((p + 0 + 1 : Nat) : Int) ∧ T = []) := by
            rcases Int.lt_or_gt_of_ne hpi with h | h
            · rcases hinv with h' | ⟨h', _⟩
              · left; rw [← h', hxd, ← hu]; exact readFrom_step' hlt h
              · omega
            · right
              refine ⟨by omega, ?_⟩
              rcases hinv with h' | ⟨_, h'⟩
              · rw [readFrom_gt h] at h'; rw [← hT]; exact dataL_none h'.symm
              · exact h'
          apply LW.yield
          rfl
          rfl
          (apply ArgsOk.cons; rfl; apply ArgsOk.cons; rfl; exact ArgsOk.nil)
          exact hrec
          (apply FsAt.tail; apply FsAt.head)
          rfl
          rfl
          (refine CW.seq ?_; refine CW.region ?_; apply LW.v0; rfl; rfl; apply ValP.assign; rfl; apply LW.nil; refine thenN ?_; refine CW.region ?_; apply LW.allocA; rfl; intro _; apply LW.store; rfl; rfl; apply SetAt.head; apply Wr.whole; rfl; rfl; rfl; apply LW.nil; apply beginI; apply SetAt.tail; apply SetAt.tail; apply SetAt.head; refine CW.block ?_; refine CW.seq ?_; refine CW.region ?_; apply LW.v0; rfl; rfl; apply ValP.move; rfl; apply LW.load; rfl; rfl; apply Known.at; apply FsAt.tail; apply FsAt.tail; apply FsAt.tail; apply FsAt.tail; apply FsAt.tail; apply FsAt.tail; apply FsAt.head; exact Rd.one' rfl; apply LW.v0; rfl; rfl; apply ValP.eqF; rfl; rfl; omega; apply LW.v0; rfl; rfl; apply ValP.move; rfl; apply LW.guardF'; rfl; rfl; simp only [Bool.not_true, Bool.not_false]; rfl; apply LW.guardF'; rfl; rfl; simp only [Bool.not_true, Bool.not_false]; rfl; apply LW.guardF'; rfl; rfl; simp only [Bool.not_true, Bool.not_false]; rfl; apply LW.v0; rfl; rfl; apply ValP.pickF'; rfl; (with_reducible rfl); rfl; apply LW.nil; refine thenN ?_; apply CW.condF; rfl; (with_reducible rfl); refine CW.skip ?_; refine blkN ?_; apply roundN; apply SetAt.tail; apply SetAt.tail; apply SetAt.head; apply LW.v0; rfl; rfl; apply ValP.notT; rfl; (with_reducible rfl); apply LW.nil; refine thenN ?_; apply CW.condF; rfl; (with_reducible rfl); refine CW.skip ?_; refine thenN ?_; refine CW.region ?_; apply LW.v0; rfl; rfl; apply ValP.move; rfl; apply LW.v0; rfl; rfl; apply ValP.fieldAddr; rfl; rfl; apply LW.load; rfl; rfl; apply Known.at; apply FsAt.tail; apply FsAt.head; exact Rd.one' rfl; apply LW.v0; rfl; rfl; apply ValP.addZL; rfl; rfl; decide; omega; apply LW.v0; rfl; rfl; apply ValP.assign; rfl; apply LW.nil; refine blkN ?_; refine thenN ?_; refine CW.region ?_; apply LW.v0; rfl; rfl; apply ValP.move; rfl; apply LW.v0; rfl; rfl; apply ValP.addZL; rfl; rfl; decide; omega; apply LW.v0; rfl; rfl; apply ValP.assign; rfl; apply LW.nil)
          apply thenX
          exact ⟨rfl, p + 0 + 1, ⟨by omega, hnext⟩, by omega, ⟨rfl, rfl, rfl, trivial⟩, by (apply List.Sublist.cons; apply List.Sublist.cons; exact List.Sublist.refl _)⟩
      | some y =>
        rw [ho] at hx0 hOf0
        dsimp only at hx0
        subst hx0
        have hOf : ∀ w, Calls Tryd.prog 11 #[.int .u8 (u.toNat : Int)] w (Ret w (.tuple #[.agg (opc y), .int .i64 0])) := hOf0
        (refine CW.seq ?_; refine CW.seq ?_; refine CW.region ?_; apply LW.v0; rfl; rfl; apply ValP.move; rfl; apply LW.load; rfl; rfl; apply Known.at; apply FsAt.tail; apply FsAt.tail; apply FsAt.head; exact Rd.one' rfl; apply LW.v0; rfl; rfl; apply ValP.lenR; rfl; infer_instance; rfl; apply LW.v0; rfl; rfl; apply ValP.lssT; rfl; rfl; omega; apply LW.nil; refine thenN ?_; apply CW.condT; rfl; (with_reducible rfl); refine CW.skip ?_; refine thenN ?_; refine CW.seq ?_; refine CW.block ?_; refine CW.seq ?_; refine CW.region ?_; apply LW.load; rfl; rfl; apply Known.at; apply FsAt.tail; apply FsAt.tail; apply FsAt.head; exact Rd.one' rfl; apply LW.v0; rfl; rfl; apply ValP.move; rfl; apply LW.v0; rfl; rfl; apply ValP.indexAddrS; rfl; rfl; rfl; omega; apply LW.load; rfl; rfl; exact Known.ext (by assumption) (by simp); assumption; apply LW.callE; rfl; rfl; infer_instance; apply ArgsOk.cons; rfl; exact ArgsOk.nil; intro w _; exact hOf w; apply LW.v0; rfl; rfl; apply ValP.move; rfl; apply LW.v0; rfl; rfl; apply ValP.extractN; rfl; rfl; apply LW.v0; rfl; rfl; apply ValP.extractN; rfl; rfl; apply LW.allocA; rfl; intro _; apply LW.store; rfl; rfl; apply SetAt.head; apply Wr.whole; rfl; rfl; rfl; apply LW.v0; rfl; rfl; apply ValP.assign; rfl; apply LW.nil; refine thenN ?_; refine CW.seq ?_; refine CW.seq ?_; refine CW.region ?_; apply LW.v0; rfl; rfl; apply ValP.move; rfl; apply LW.v0; rfl; rfl; apply ValP.neF; rfl; rfl; omega; apply LW.nil; refine thenN ?_; apply CW.condF; rfl; (with_reducible rfl); refine CW.skip ?_; refine thenN ?_; refine CW.seq ?_; refine CW.seq ?_; refine CW.region ?_; apply LW.v0; rfl; rfl; apply ValP.move; rfl; apply LW.v0; rfl; rfl; apply ValP.move; rfl; apply LW.load; rfl; rfl; apply Known.at; apply FsAt.head; exact Rd.whole rfl)
        by_cases hpi : (p : Int) = i
        · have hno : ¬ i < (p : Int) := by omega
          have hrb : readB bs i = true := by
            rcases hinv with h | ⟨h, _⟩
            · rw [← h, ← hpi]; exact readFrom_hit hlt
            · exact absurd h hno
          rcases Nat.eq_zero_or_pos y.dt with hz | hz
          · have hT0 : T = [] := by rw [← hT, ← hpi, dataL_some (by rw [hpi]; exact hrb), hu, ← hxd]; exact List.eq_nil_of_length_eq_zero ((datF_len _ _ _).trans hz)
            apply LW.yield
            rfl
            rfl
            (apply ArgsOk.cons; rfl; apply ArgsOk.cons; rfl; exact ArgsOk.nil)
            exact hrec
            (apply FsAt.tail; apply FsAt.head)
            rfl
            rfl
            (refine CW.seq ?_; refine CW.region ?_; apply LW.v0; rfl; rfl; apply ValP.assign; rfl; apply LW.nil; refine thenN ?_; refine CW.region ?_; apply LW.allocA; rfl; intro _; apply LW.store; rfl; rfl; apply SetAt.head; apply Wr.whole; rfl; rfl; rfl; apply LW.nil; apply beginI; apply SetAt.tail; apply SetAt.tail; apply SetAt.head; refine CW.block ?_; refine CW.seq ?_; refine CW.region ?_; apply LW.v0; rfl; rfl; apply ValP.move; rfl; apply LW.load; rfl; rfl; apply Known.at; apply FsAt.tail; apply FsAt.tail; apply FsAt.tail; apply FsAt.tail; apply FsAt.tail; apply FsAt.tail; apply FsAt.head; exact Rd.one' rfl; apply LW.v0; rfl; rfl; apply ValP.eqT; rfl; rfl; omega; apply LW.v0; rfl; rfl; apply ValP.move; rfl; apply LW.guardT'; rfl; rfl; (with_reducible rfl); apply LW.v0; rfl; rfl; apply ValP.fieldAddr; rfl; rfl; apply LW.guardT'; rfl; rfl; (with_reducible rfl); apply LW.load; rfl; rfl; apply Known.at; apply FsAt.head; exact Rd.one' rfl; apply LW.guardT'; rfl; rfl; (with_reducible rfl); apply LW.v0; rfl; rfl; apply ValP.gtrF; rfl; rfl; omega; apply LW.v0; rfl; rfl; apply ValP.pickT'; rfl; (with_reducible rfl); rfl; apply LW.nil; refine thenN ?_; apply CW.condF; rfl; (with_reducible rfl); refine CW.skip ?_; refine blkN ?_; apply roundN; apply SetAt.tail; apply SetAt.tail; apply SetAt.head; apply LW.v0; rfl; rfl; apply ValP.notT; rfl; (with_reducible rfl); apply LW.nil; refine thenN ?_; apply CW.condF; rfl; (with_reducible rfl); refine CW.skip ?_; refine thenN ?_; refine CW.region ?_; apply LW.v0; rfl; rfl; apply ValP.move; rfl; apply LW.v0; rfl; rfl; apply ValP.fieldAddr; rfl; rfl; apply LW.load; rfl; rfl; apply Known.at; apply FsAt.tail; apply FsAt.head; exact Rd.one' rfl; apply LW.v0; rfl; rfl; apply ValP.addZ; rfl; rfl; omega; apply LW.v0; rfl; rfl; apply ValP.assign; rfl; apply LW.nil; refine blkN ?_; refine thenN ?_; refine CW.region ?_; apply LW.v0; rfl; rfl; apply ValP.move; rfl; apply LW.v0; rfl; rfl; apply ValP.addZL; rfl; rfl; decide; omega; apply LW.v0; rfl; rfl; apply ValP.assign; rfl; apply LW.nil)
            apply thenX
            exact ⟨rfl, p + y.dt + 1, ⟨by omega, .inr ⟨by omega, hT0⟩⟩, by omega, ⟨rfl, rfl, rfl, trivial⟩, by (apply List.Sublist.cons; apply List.Sublist.cons; exact List.Sublist.refl _)⟩
          · have hTe : T = datF bs p y.dt := by rw [← hT, ← hpi, dataL_some (by rw [hpi]; exact hrb), hu, ← hxd]
            have hTl : T.length = y.dt := by rw [hTe, datF_len]
            have hcut := RowAt.drop (k := p + 1) hv (by omega)
            rw [ucs_drop] at hcut
            apply LW.yield
            rfl
            rfl
            (apply ArgsOk.cons; rfl; apply ArgsOk.cons; rfl; exact ArgsOk.nil)
            exact hrec
            (apply FsAt.tail; apply FsAt.head)
            rfl
            rfl
            (refine CW.seq ?_; refine CW.region ?_; apply LW.v0; rfl; rfl; apply ValP.assign; rfl; apply LW.nil; refine thenN ?_; refine CW.region ?_; apply LW.allocA; rfl; intro _; apply LW.store; rfl; rfl; apply SetAt.head; apply Wr.whole; rfl; rfl; rfl; apply LW.nil; apply beginI; apply SetAt.tail; apply SetAt.tail; apply SetAt.head; refine CW.block ?_; refine CW.seq ?_; refine CW.region ?_; apply LW.v0; rfl; rfl; apply ValP.move; rfl; apply LW.load; rfl; rfl; apply Known.at; apply FsAt.tail; apply FsAt.tail; apply FsAt.tail; apply FsAt.tail; apply FsAt.tail; apply FsAt.tail; apply FsAt.head; exact Rd.one' rfl; apply LW.v0; rfl; rfl; apply ValP.eqT; rfl; rfl; omega; apply LW.v0; rfl; rfl; apply ValP.move; rfl; apply LW.guardT'; rfl; rfl; (with_reducible rfl); apply LW.v0; rfl; rfl; apply ValP.fieldAddr; rfl; rfl; apply LW.guardT'; rfl; rfl; (with_reducible rfl); apply LW.load; rfl; rfl; apply Known.at; apply FsAt.head; exact Rd.one' rfl; apply LW.guardT'; rfl; rfl; (with_reducible rfl); apply LW.v0; rfl; rfl; apply ValP.gtrT; rfl; rfl; omega; apply LW.v0; rfl; rfl; apply ValP.pickT'; rfl; (with_reducible rfl); rfl; apply LW.nil; refine thenN ?_; apply CW.condT; rfl; (with_reducible rfl); refine CW.seq ?_; refine CW.region ?_; apply LW.v0; rfl; rfl; apply ValP.fieldAddr; rfl; rfl; apply LW.load; rfl; rfl; apply Known.at; apply FsAt.head; exact Rd.one' rfl)
            refine LW.makeOwn rfl inferInstance inferInstance inferInstance rfl rfl (by omega) (by simp only [maxLen]; omega) fun g => ?_
            subst hpi
            (apply LW.v0; rfl; rfl; apply ValP.assign; rfl; apply LW.nil; refine thenN ?_; refine CW.seq ?_; refine CW.region ?_; apply LW.v0; rfl; rfl; apply ValP.move; rfl; apply LW.load; rfl; rfl; apply Known.at; apply FsAt.tail; apply FsAt.tail; apply FsAt.tail; apply FsAt.tail; apply FsAt.tail; apply FsAt.tail; apply FsAt.tail; apply FsAt.tail; apply FsAt.head; exact Rd.one' rfl; apply LW.load; rfl; rfl; apply Known.at; apply FsAt.tail; apply FsAt.tail; apply FsAt.tail; apply FsAt.tail; apply FsAt.tail; apply FsAt.tail; apply FsAt.tail; apply FsAt.head; exact Rd.one' rfl; apply LW.v0; rfl; rfl; apply ValP.addZL; rfl; rfl; decide; omega; apply LW.v0; rfl; rfl; apply ValP.cutFrom; infer_instance; infer_instance; rfl; rfl; omega)
            have fin : ∀ cur : Array Value, cur.toList = ucs T → IsRow 5 1 (.slice (some ⟨g, 0, none⟩) y.dt y.dt) T.length (ucs T) [(g, .cells cur 5 (0, 0))] := fun cur hc => by
              have h1 : cur.size = y.dt := by rw [← Array.length_toList, hc, ucs_len, hTl]
              have := IsRow.own (E := 5) (size := 1) (g := g) (n := y.dt) (cap := y.dt) (cur := cur) (xs := ucs T) (Nat.le_refl _) (by simp only [maxLen]; omega) (by rw [h1, Nat.mul_one]) (by rw [hc]; exact List.take_of_length_le (by rw [ucs_len, hTl, Nat.mul_one]; exact Nat.le_refl _)) (by rw [ucs_len, hTl, Nat.mul_one])
              rw [hTl]
              exact this
            have hz0 : (List.replicate y.dt (Value.int .u8 0)) = ucs (List.replicate y.dt 0) := (ucs_zero _).symm
            rcases Nat.lt_or_ge (bs.length - (p + 1)) y.dt with hsh | hfull
            · refine LW.copyAt (cur := (List.replicate y.dt (Value.int .u8 0)).toArray) (E' := 5) (m := bs.length - (p + 1)) (news := ucs (bs.drop (p + 1))) rfl rfl inferInstance inferInstance inferInstance rfl rfl (fun w' hst => hcut.st hst) (ucs_cells _) (by omega) (by simp; omega) (by (apply SetAt.head)) ?_
              have hc : ((List.replicate y.dt (Value.int .u8 0)).toArray.toList.take 0 ++ ucs (bs.drop (p + 1)) ++ (List.replicate y.dt (Value.int .u8 0)).toArray.toList.drop (0 + (bs.length - (p + 1)))).toArray.toList = ucs T := by
                rw [hTe, datF_eq, ucs_app, ucs_zero, List.take_of_length_le (show (bs.drop (p + 1)).length ≤ y.dt by rw [List.length_drop]; omega)]
                simp
              (apply LW.nil; refine thenN ?_; refine CW.seq ?_; refine CW.region ?_; apply LW.v0; rfl; rfl; apply ValP.move; rfl; apply LW.store; rfl; rfl; apply SetAt.tail; apply SetAt.tail; apply SetAt.tail; apply SetAt.tail; apply SetAt.tail; apply SetAt.tail; apply SetAt.head; apply Wr.cells; rfl; rfl; simp only [List.size_toArray, List.length_cons, List.length_nil]; omega; simp only [fillC, wc, wrCells, Value.cells, List.toList_toArray, List.setIfInBounds_toArray, List.set_cons_succ, List.set_cons_zero, Nat.reduceAdd, Nat.reduceMul, Nat.zero_add, Nat.mul_one]; rfl; apply LW.nil; refine thenN ?_; refine CW.ret ?_; refine blkR ?_)
              apply roundR
              (apply SetAt.tail; apply SetAt.tail; apply SetAt.tail; apply SetAt.head)
              (apply LW.v0; rfl; rfl; apply ValP.notF; rfl; (with_reducible rfl); apply LW.nil; refine thenN ?_; apply CW.condT; rfl; (with_reducible rfl); refine CW.ret ?_; refine thenR ?_; refine blkR ?_; refine thenR ?_; refine thenR ?_; refine blkR ?_)
              apply rangeR
              (exact .inl rfl)
              (exact Shut.nil)
              (apply SetAt.tail; apply SetAt.tail; apply SetAt.tail; apply SetAt.head)
              (refine blkR ?_; refine thenR ?_)
              have hfin := fin _ hc
              apply finM [_]; (exact .inl rfl); (apply Shut.cons; apply SetAt.tail; apply SetAt.tail; apply SetAt.tail; apply SetAt.tail; apply SetAt.head; exact Shut.nil); rfl; (apply ResL.cons; apply Res.cell; rfl; apply Known.at; apply FsAt.tail; apply FsAt.tail; apply FsAt.tail; apply FsAt.tail; apply FsAt.tail; apply FsAt.tail; apply FsAt.head; exact Rd.one' rfl; exact ResL.nil)
              case hg => exact List.singleton_sublist.2 (by (exact List.Mem.head _))
              exact hfin
            · refine LW.copyFull (cur := (List.replicate y.dt (Value.int .u8 0)).toArray) (E' := 5) (m := bs.length - (p + 1)) (news := ucs (bs.drop (p + 1))) rfl rfl inferInstance inferInstance inferInstance rfl rfl (fun w' hst => hcut.st hst) (ucs_cells _) hz (by omega) (by simp) (by (apply SetAt.head)) ?_
              have hc : ((List.replicate y.dt (Value.int .u8 0)).toArray.toList.take 0 ++ (ucs (bs.drop (p + 1))).take y.dt ++ (List.replicate y.dt (Value.int .u8 0)).toArray.toList.drop (0 + y.dt)).toArray.toList = ucs T := by
                rw [hTe, datF_eq, ucs_app, ucs_zero, show y.dt - (bs.length - (p + 1)) = 0 by omega, ← ucs_take, Nat.mul_one]
                simp
              (apply LW.nil; refine thenN ?_; refine CW.seq ?_; refine CW.region ?_; apply LW.v0; rfl; rfl; apply ValP.move; rfl; apply LW.store; rfl; rfl; apply SetAt.tail; apply SetAt.tail; apply SetAt.tail; apply SetAt.tail; apply SetAt.tail; apply SetAt.tail; apply SetAt.head; apply Wr.cells; rfl; rfl; simp only [List.size_toArray, List.length_cons, List.length_nil]; omega; simp only [fillC, wc, wrCells, Value.cells, List.toList_toArray, List.setIfInBounds_toArray, List.set_cons_succ, List.set_cons_zero, Nat.reduceAdd, Nat.reduceMul, Nat.zero_add, Nat.mul_one]; rfl; apply LW.nil; refine thenN ?_; refine CW.ret ?_; refine blkR ?_)
              apply roundR
              (apply SetAt.tail; apply SetAt.tail; apply SetAt.tail; apply SetAt.head)
              (apply LW.v0; rfl; rfl; apply ValP.notF; rfl; (with_reducible rfl); apply LW.nil; refine thenN ?_; apply CW.condT; rfl; (with_reducible rfl); refine CW.ret ?_; refine thenR ?_; refine blkR ?_; refine thenR ?_; refine thenR ?_; refine blkR ?_)
              apply rangeR
              (exact .inl rfl)
              (exact Shut.nil)
              (apply SetAt.tail; apply SetAt.tail; apply SetAt.tail; apply SetAt.head)
              (refine blkR ?_; refine thenR ?_)
              have hfin := fin _ hc
              apply finM [_]; (exact .inl rfl); (apply Shut.cons; apply SetAt.tail; apply SetAt.tail; apply SetAt.tail; apply SetAt.tail; apply SetAt.head; exact Shut.nil); rfl; (apply ResL.cons; apply Res.cell; rfl; apply Known.at; apply FsAt.tail; apply FsAt.tail; apply FsAt.tail; apply FsAt.tail; apply FsAt.tail; apply FsAt.tail; apply FsAt.head; exact Rd.one' rfl; exact ResL.nil)
              case hg => exact List.singleton_sublist.2 (by (exact List.Mem.head _))
              exact hfin
        · have hnext : readFrom bs (p + y.dt + 1) i = readB bs i ∨ (i < ((p + y.dt + 1 : Nat) : Int) ∧ T = []) := by
            rcases Int.lt_or_gt_of_ne hpi with h | h
            · rcases hinv with h' | ⟨h', _⟩
              · left; rw [← h', hxd, ← hu]; exact readFrom_step' hlt h
              · omega
            · right
              refine ⟨by omega, ?_⟩
              rcases hinv with h' | ⟨_, h'⟩
              · rw [readFrom_gt h] at h'; rw [← hT]; exact dataL_none h'.symm
              · exact h'
          apply LW.yield
          rfl
          rfl
          (apply ArgsOk.cons; rfl; apply ArgsOk.cons; rfl; exact ArgsOk.nil)
          exact hrec
          (apply FsAt.tail; apply FsAt.head)
          rfl
          rfl
          (refine CW.seq ?_; refine CW.region ?_; apply LW.v0; rfl; rfl; apply ValP.assign; rfl; apply LW.nil; refine thenN ?_; refine CW.region ?_; apply LW.allocA; rfl; intro _; apply LW.store; rfl; rfl; apply SetAt.head; apply Wr.whole; rfl; rfl; rfl; apply LW.nil; apply beginI; apply SetAt.tail; apply SetAt.tail; apply SetAt.head; refine CW.block ?_; refine CW.seq ?_; refine CW.region ?_; apply LW.v0; rfl; rfl; apply ValP.move; rfl; apply LW.load; rfl; rfl; apply Known.at; apply FsAt.tail; apply FsAt.tail; apply FsAt.tail; apply FsAt.tail; apply FsAt.tail; apply FsAt.tail; apply FsAt.head; exact Rd.one' rfl; apply LW.v0; rfl; rfl; apply ValP.eqF; rfl; rfl; omega; apply LW.v0; rfl; rfl; apply ValP.move; rfl; apply LW.guardF'; rfl; rfl; simp only [Bool.not_true, Bool.not_false]; rfl; apply LW.guardF'; rfl; rfl; simp only [Bool.not_true, Bool.not_false]; rfl; apply LW.guardF'; rfl; rfl; simp only [Bool.not_true, Bool.not_false]; rfl; apply LW.v0; rfl; rfl; apply ValP.pickF'; rfl; (with_reducible rfl); rfl; apply LW.nil; refine thenN ?_; apply CW.condF; rfl; (with_reducible rfl); refine CW.skip ?_; refine blkN ?_; apply roundN; apply SetAt.tail; apply SetAt.tail; apply SetAt.head; apply LW.v0; rfl; rfl; apply ValP.notT; rfl; (with_reducible rfl); apply LW.nil; refine thenN ?_; apply CW.condF; rfl; (with_reducible rfl); refine CW.skip ?_; refine thenN ?_; refine CW.region ?_; apply LW.v0; rfl; rfl; apply ValP.move; rfl; apply LW.v0; rfl; rfl; apply ValP.fieldAddr; rfl; rfl; apply LW.load; rfl; rfl; apply Known.at; apply FsAt.tail; apply FsAt.head; exact Rd.one' rfl; apply LW.v0; rfl; rfl; apply ValP.addZ; rfl; rfl; omega; apply LW.v0; rfl; rfl; apply ValP.assign; rfl; apply LW.nil; refine blkN ?_; refine thenN ?_; refine CW.region ?_; apply LW.v0; rfl; rfl; apply ValP.move; rfl; apply LW.v0; rfl; rfl; apply ValP.addZL; rfl; rfl; decide; omega; apply LW.v0; rfl; rfl; apply ValP.assign; rfl; apply LW.nil)
          apply thenX
          exact ⟨rfl, p + y.dt + 1, ⟨by omega, hnext⟩, by omega, ⟨rfl, rfl, rfl, trivial⟩, by (apply List.Sublist.cons; apply List.Sublist.cons; exact List.Sublist.refl _)⟩
    · have hT0 : T = [] := by
        rcases hinv with h | ⟨_, h⟩
        · rw [readFrom_end hge] at h; rw [← hT]; exact dataL_none h.symm
        · exact h
      subst hT0
      (refine CW.seq ?_; refine CW.seq ?_; refine CW.region ?_; apply LW.v0; rfl; rfl; apply ValP.move; rfl; apply LW.load; rfl; rfl; apply Known.at; apply FsAt.tail; apply FsAt.tail; apply FsAt.head; exact Rd.one' rfl; apply LW.v0; rfl; rfl; apply ValP.lenR; rfl; infer_instance; rfl; apply LW.v0; rfl; rfl; apply ValP.lssF; rfl; rfl; omega; apply LW.nil; refine thenN ?_; apply CW.condF; rfl; (with_reducible rfl); refine CW.exit ?_; refine thenE ?_; refine thenE ?_; refine blkE rfl ?_)
      apply rangeN
      (exact .inr rfl)
      (exact Shut.nil)
      (apply SetAt.head)
      (refine blkN ?_; refine thenM ?_; refine CW.seq ?_; refine CW.region ?_; apply LW.store; rfl; rfl; apply SetAt.tail; apply SetAt.tail; apply SetAt.tail; apply SetAt.head; apply Wr.cells; rfl; rfl; simp only [List.size_toArray, List.length_cons, List.length_nil]; omega; simp only [fillC, wc, wrCells, Value.cells, List.toList_toArray, List.setIfInBounds_toArray, List.set_cons_succ, List.set_cons_zero, Nat.reduceAdd, Nat.reduceMul, Nat.zero_add, Nat.mul_one]; rfl; apply LW.nil; refine thenN ?_; refine CW.ret ?_)
      apply finM []; (exact .inl rfl); (apply Shut.cons; apply SetAt.tail; apply SetAt.head; exact Shut.nil); rfl; (apply ResL.cons; apply Res.cell; rfl; apply Known.at; apply FsAt.tail; apply FsAt.tail; apply FsAt.tail; apply FsAt.head; exact Rd.one' rfl; exact ResL.nil); exact List.nil_sublist _
      exact .nil
end Go.Proofs.YtbhicncgjplnoaaDoor

/-
  Digits of bytes, bytes of digits: contracts.
  Conditions: none.
-/
namespace Go.Proofs.YtbhicncgjplnoaaDoor
open Go Go.RowKit SL
set_option maxRecDepth 8000
set_option maxHeartbeats 4000000
set_option linter.unusedSimpArgs false
set_option linter.unusedVariables false
attribute [local irreducible] SL.CW SL.LW SL.DW Calls SL.Ret SL.RetG SL.beginQ SL.roundQ SL.rangeQ SL.inQ SL.RW SL.AnyW SL.thenQ SL.thenC SL.thenW SL.blkQ SL.finQ SL.ValP SL.NewP SL.SetP SL.CallP SL.Rd SL.Wr SL.Known
attribute [local irreducible] opOf
section num
variable {P : Program} {e : Env} {T ty : TypeId} {x y : Operand} {m n : Nat}
theorem ValP.shrB {s : Nat} {ik : IntKind} (hx : e.ev x = some (.int .u8 (m : Int))) (hy : e.ev y = some (.int ik (s : Int))) (hs : s ≤ 8) : ValP P e [] (.binOp .shr T x y ty) (.int .u8 ((m / 2 ^ s : Nat) : Int)) :=
  .bin hx hy (fun w => guard_int w) fun w => by
    rw [binOp_shr, shift_shr .u8 ik _ _ (by omega) (by simp [IntKind.bits]; omega)]
    simp
theorem ValP.andB (hx : e.ev x = some (.int .u8 (m : Int))) (hy : e.ev y = some (.int .u8 (n : Int))) (hm : m < 256) (hn : n < 256) : ValP P e [] (.binOp .and T x y ty) (.int .u8 ((m &&& n : Nat) : Int)) :=
  .bin hx hy (fun w => guard_int w) fun w => by
    have h : m &&& n < 256 := Nat.lt_of_le_of_lt Nat.and_le_left hm
    have hb : bits .and .u8 (m : Int) (n : Int) = ((m &&& n : Nat) : Int) := by
      show IntKind.u8.wrap (((BitVec.ofInt 8 (m : Int) &&& BitVec.ofInt 8 (n : Int)).toNat : Nat) : Int) = _
      rw [BitVec.toNat_and, ofInt8 m hm, ofInt8 n hn, wrapB]
      omega
    rw [binOp_and, intBits_and, hb]; rfl
end num
/-- A byte's two digits. -/
def hx2 (u : UInt8) : List UInt8 := [hexd (u.toNat / 16), hexd (u.toNat % 16)]
def hxs (bs : List UInt8) : List UInt8 := bs.flatMap hx2
theorem hxs_len (bs : List UInt8) : (hxs bs).length = 2 * bs.length := by
  induction bs with
  | nil => rfl
  | cons b r ih => unfold hxs at *; rw [List.flatMap_cons, List.length_append, ih]; simp [hx2]; omega
theorem hxs_snoc (bs : List UInt8) (u : UInt8) : hxs (bs ++ [u]) = hxs bs ++ [hexd (u.toNat / 16)] ++ [hexd (u.toNat % 16)] := by simp [hxs, hx2]
theorem hxs_succ (bs : List UInt8) (k : Nat) (h : k < bs.length) : hxs (bs.take (k + 1)) = hxs (bs.take k) ++ [hexd (bs[k].toNat / 16)] ++ [hexd (bs[k].toNat % 16)] := by
  rw [List.take_succ_eq_append_getElem h, hxs_snoc]
theorem hexd_pick (d : Nat) (hd : d < 16) : hexdigits[d]? = some (hexd d) := by
  revert d; decide
theorem and15 (n : Nat) : n &&& 15 = n % 16 := by
  have : n &&& (2 ^ 4 - 1) = n % 2 ^ 4 := Nat.and_two_pow_sub_one_eq_mod n 4
  simpa using this
structure DX where
  k : Nat
  p : Value
  v : Value
  seg : Fs
theorem digits_calls (bs : List UInt8) (hb : bs.length ≤ 1000) (v : Value) (w : World) (hv : RowAt w 1 v bs.length (ucs bs)) : Calls Tryd.prog 39 #[v] w (Ret w (sv (hxs bs))) := by
  obtain ⟨p0, c0, rfl, hc0, hm0⟩ := hv.form
  refine enter (args := [_]) _ [] [] Tryd.func39 rfl Tryd.ntmps39 rfl (by simp) .nil ?_
  (refine CW.seq ?_; refine CW.region ?_; apply LW.v0; rfl; rfl; apply ValP.assign; rfl; apply LW.nil; refine thenN ?_; refine CW.seq ?_; refine CW.region ?_; apply LW.allocA; rfl; intro _; apply LW.nil; refine thenN ?_; refine CW.seq ?_; refine CW.seq ?_; refine CW.region ?_; apply LW.v0; rfl; rfl; apply ValP.move; rfl; apply LW.v0; rfl; rfl; apply ValP.lenR; rfl; infer_instance; rfl; apply LW.v0; rfl; rfl; apply ValP.move; rfl; apply LW.nil; refine thenN ?_; refine CW.block ?_)
  rename_i bb
  refine CW.loop (fun x : DX => ([(3, .pointer (some ⟨bb, 0, none⟩)), (8, .slice p0 bs.length c0), (9, .int .i64 (bs.length : Int)), (10, .int .i64 (x.k : Int))], bB bb x.p x.v :: (x.seg ++ [])))
    (fun x => x.k ≤ bs.length ∧ (x.p = .pointer none ∨ x.p = .pointer (some ⟨bb, 0, none⟩)) ∧ (x.k = 0 → x.v = .slice none 0 0) ∧ IsRow 5 1 x.v (hxs (bs.take x.k)).length (ucs (hxs (bs.take x.k))) x.seg) (fun x => bs.length - x.k) ⟨0, .pointer none, .slice none 0 0, []⟩ ⟨Nat.zero_le _, .inl rfl, fun _ => rfl, .nil⟩ ⟨rfl, rfl, rfl, rfl, trivial⟩ (List.Sublist.refl _) ?_
  rintro ⟨k, p, v, seg⟩ ⟨hk, hp, hv0, hrow⟩
  dsimp only at hk hp hv0 hrow ⊢
  have hln := hxs_len (bs.take k)
  rw [List.length_take] at hln
  rcases Nat.lt_or_ge k bs.length with hlt | hge
  · obtain ⟨b, off, c', cs, E, fr, heq, hbk, hx⟩ := hv.pos (by omega)
    cases heq
    obtain ⟨u, hu⟩ : ∃ u, bs[k] = u := ⟨_, rfl⟩
    have hrd : Rd Tryd.prog 5 (.cells cs E fr) (off + k * 1) (.int .u8 (u.toNat : Int)) := Rd.elem1 hx (ucs_one bs) (List.getElem?_eq_getElem hlt) (by rw [hu])
    have hub := u.toNat_lt
    have hst := hxs_succ bs k hlt
    rw [hu] at hst
    have h15 := and15 u.toNat
    obtain ⟨L, hL⟩ : ∃ L, hxs (bs.take k) = L := ⟨_, rfl⟩
    rw [hL] at hrow hln hst
    have hd1 : hexdigits[u.toNat / 2 ^ 4]? = some (hexd (u.toNat / 16)) := hexd_pick (u.toNat / 16) (by omega)
    have hd2 : hexdigits[u.toNat % 16]? = some (hexd (u.toNat % 16)) := hexd_pick (u.toNat % 16) (by omega)
    have hu1 := (hexd (u.toNat / 16)).toNat_lt
    have hu2 := (hexd (u.toNat % 16)).toNat_lt
    have hl1 : (hxs (bs.take (k + 1))).length = L.length + 1 + 1 := by rw [hst]; simp
    have hl2 := hxs_len (bs.take (k + 1))
    (refine CW.seq ?_; refine CW.region ?_; apply LW.v0; rfl; rfl; apply ValP.lssT; rfl; rfl; omega; apply LW.nil; refine thenN ?_; refine CW.seq ?_; apply CW.condT; rfl; (with_reducible rfl); refine CW.skip ?_; refine thenN ?_; refine CW.seq ?_; refine CW.block ?_; refine CW.seq ?_; refine CW.region ?_; apply LW.v0; rfl; rfl; apply ValP.indexAddrS; rfl; rfl; rfl; omega; apply LW.load; rfl; rfl; exact Known.ext (by assumption) (by simp); assumption; apply LW.v0; rfl; rfl; apply ValP.assign; rfl; apply LW.nil; refine thenN ?_; refine CW.seq ?_; refine CW.region ?_; apply LW.v0; rfl; rfl; apply ValP.move; rfl; apply LW.v0; rfl; rfl; apply ValP.shrB (s := 4); rfl; rfl; decide; apply LW.v0; rfl; rfl; apply ValP.move; rfl; apply LW.v0; rfl; rfl; apply ValP.andB (n := 15); rfl; rfl; omega; decide; apply LW.v0; rfl; rfl; apply ValP.buildA; apply PartsOk.cons; rfl; apply PartsOk.cons; rfl; exact PartsOk.nil; rfl; simp only [fillC, wc, wrCells, Value.cells, List.toList_toArray, List.setIfInBounds_toArray, List.set_cons_succ, List.set_cons_zero, Nat.reduceAdd, Nat.reduceMul, Nat.zero_add, Nat.mul_one]; rfl; apply LW.v0; rfl; rfl; apply ValP.move; rfl; apply LW.nil; refine thenN ?_; refine CW.block ?_)
    rw [h15]
    apply CW.rounds 3
    (apply RW.step; refine CW.seq ?_; refine CW.region ?_; apply LW.v0; rfl; rfl; apply ValP.lssT; rfl; rfl; omega; apply LW.nil; refine thenN ?_; refine CW.seq ?_; apply CW.condT; rfl; (with_reducible rfl); refine CW.skip ?_; refine thenN ?_; refine CW.seq ?_; refine CW.block ?_; refine CW.seq ?_; refine CW.region ?_; apply LW.v0; rfl; rfl; apply ValP.indexAL; rfl; rfl; rfl; rfl; rfl; apply LW.v0; rfl; rfl; apply ValP.assign; rfl; apply LW.nil; refine thenN ?_; refine CW.region ?_; apply LW.v0; rfl; rfl; apply ValP.move; rfl; apply LW.v0; rfl; rfl; apply ValP.indexSv; infer_instance; rfl; rfl; rfl; assumption)
    refine LW.callStF rfl rfl inferInstance (by (apply ArgsOk.cons; rfl; apply ArgsOk.cons; rfl; exact ArgsOk.nil)) rfl (fun w' hst => WByte_calls w [] bb p v hp L.length (hexd (u.toNat / 16)).toNat (by omega) hu1 (ucs L) seg _ hrow w' hst) ?_
    rintro vg fs' ⟨v1, seg1, rfl, hr1, rfl⟩
    have hp1 : Value.pointer (some ⟨bb, 0, none⟩) = .pointer none ∨ Value.pointer (some ⟨bb, 0, none⟩) = .pointer (some ⟨bb, 0, none⟩) := .inr rfl
    (apply LW.nil; refine blkN ?_; refine thenN ?_; refine CW.region ?_; apply LW.v0; rfl; rfl; apply ValP.addI; rfl; rfl; omega; omega; apply LW.v0; rfl; rfl; apply ValP.move; rfl; apply LW.nil; refine thenL ?_)
    (apply RW.step; refine CW.seq ?_; refine CW.region ?_; apply LW.v0; rfl; rfl; apply ValP.lssT; rfl; rfl; omega; apply LW.nil; refine thenN ?_; refine CW.seq ?_; apply CW.condT; rfl; (with_reducible rfl); refine CW.skip ?_; refine thenN ?_; refine CW.seq ?_; refine CW.block ?_; refine CW.seq ?_; refine CW.region ?_; apply LW.v0; rfl; rfl; apply ValP.indexAL; rfl; rfl; rfl; rfl; rfl; apply LW.v0; rfl; rfl; apply ValP.assign; rfl; apply LW.nil; refine thenN ?_; refine CW.region ?_; apply LW.v0; rfl; rfl; apply ValP.move; rfl; apply LW.v0; rfl; rfl; apply ValP.indexSv; infer_instance; rfl; rfl; rfl; assumption)
    refine LW.callStF rfl rfl inferInstance (by (apply ArgsOk.cons; rfl; apply ArgsOk.cons; rfl; exact ArgsOk.nil)) rfl (fun w' hst => WByte_calls w [] bb _ v1 hp1 (L.length + 1) (hexd (u.toNat % 16)).toNat (by omega) hu2 (ucs L ++ ucs [hexd (u.toNat / 16)]) seg1 _ hr1 w' hst) ?_
    rintro vg fs' ⟨v2, seg2, rfl, hr2, rfl⟩
    (apply LW.nil; refine blkN ?_; refine thenN ?_; refine CW.region ?_; apply LW.v0; rfl; rfl; apply ValP.addI; rfl; rfl; omega; omega; apply LW.v0; rfl; rfl; apply ValP.move; rfl; apply LW.nil; refine thenL ?_)
    (apply RW.step; refine CW.seq ?_; refine CW.region ?_; apply LW.v0; rfl; rfl; apply ValP.lssF; rfl; rfl; omega; apply LW.nil; refine thenN ?_; refine CW.seq ?_; apply CW.condF; rfl; (with_reducible rfl); refine CW.exit ?_; refine thenE ?_; refine thenE ?_; refine blkE rfl ?_; refine blkN ?_; refine thenN ?_; refine CW.region ?_; apply LW.v0; rfl; rfl; apply ValP.addZL; rfl; rfl; decide; omega; apply LW.v0; rfl; rfl; apply ValP.move; rfl; apply LW.nil)
    apply thenX
    exact ⟨rfl, ⟨k + 1, _, v2, seg2⟩, ⟨hlt, hp1, fun h => absurd h (Nat.succ_ne_zero k), by dsimp only; rw [hl1, hst, ucs_app, ucs_app]; exact hr2⟩, by dsimp only; omega, ⟨rfl, rfl, rfl, rfl, trivial⟩, List.Sublist.refl _⟩
  · obtain rfl : k = bs.length := by omega
    rw [List.take_length] at hrow hln
    rcases Nat.eq_zero_or_pos bs.length with h0 | h0
    · obtain rfl := hv0 h0
      have hnil : hxs bs = [] := List.eq_nil_of_length_eq_zero (by omega)
      rw [hnil] at hrow ⊢
      cases hrow
      (refine CW.seq ?_; refine CW.region ?_; apply LW.v0; rfl; rfl; apply ValP.lssF; rfl; rfl; omega; apply LW.nil; refine thenN ?_; refine CW.seq ?_; apply CW.condF; rfl; (with_reducible rfl); refine CW.exit ?_; refine thenE ?_; refine thenE ?_; refine blkE rfl ?_; refine thenN ?_; refine CW.seq ?_; refine CW.region ?_)
      refine LW.callStF rfl rfl inferInstance (by (apply ArgsOk.cons; rfl; exact ArgsOk.nil)) rfl (fun w' hst => String0_calls w [] bb _ _ w' hst) ?_
      rintro vg fs' ⟨rfl, rfl⟩
      (apply LW.v0; rfl; rfl; apply ValP.assign; rfl; apply LW.nil; refine thenN ?_; refine CW.ret ?_)
      (apply finR; exact .inl rfl; rfl; rfl; rfl; apply ResL.cons; exact Res.tmp rfl; exact ResL.nil)
      rfl
    · obtain ⟨L, hL⟩ : ∃ L, hxs bs = L := ⟨_, rfl⟩
      rw [hL] at hrow hln ⊢
      have hLl : L.length = 2 * bs.length := by rw [hln, Nat.min_self]
      (refine CW.seq ?_; refine CW.region ?_; apply LW.v0; rfl; rfl; apply ValP.lssF; rfl; rfl; omega; apply LW.nil; refine thenN ?_; refine CW.seq ?_; apply CW.condF; rfl; (with_reducible rfl); refine CW.exit ?_; refine thenE ?_; refine thenE ?_; refine blkE rfl ?_; refine thenN ?_; refine CW.seq ?_; refine CW.region ?_)
      refine LW.callStF rfl rfl inferInstance (by (apply ArgsOk.cons; rfl; exact ArgsOk.nil)) rfl (fun w' hst => StringG_calls w [] bb _ v L.length (by omega) (by omega) L seg _ hrow w' hst) ?_
      rintro vg fs' ⟨rfl, rfl⟩
      (apply LW.v0; rfl; rfl; apply ValP.assign; rfl; apply LW.nil; refine thenN ?_; refine CW.ret ?_)
      (apply finR; exact .inl rfl; rfl; rfl; rfl; apply ResL.cons; exact Res.tmp rfl; exact ResL.nil)
      rfl
/-! ### Bytes of digits -/
def nib (u : UInt8) : Nat := match hexu u with
  | some d => d
  | none => 0
theorem nib_lt (u : UInt8) : nib u < 16 := by
  unfold nib
  cases h : hexu u with
  | none => decide
  | some d => exact hexu_lt h
def hxOut : List UInt8 → List UInt8
  | a :: b :: r => UInt8.ofNat (16 * nib a + nib b) :: hxOut r
  | _ => []
theorem hxOut_one : ∀ (n : Nat) (p : List UInt8) (a : UInt8), p.length = 2 * n → hxOut (p ++ [a]) = hxOut p
  | 0, p, a, h => by rw [List.eq_nil_of_length_eq_zero (show p.length = 0 by omega)]; rfl
  | n + 1, p, a, h => by
    match p, h with
    | x :: y :: r, h => simp only [List.cons_append, hxOut]; rw [hxOut_one n r a (by simp at h; omega)]
theorem hxOut_two : ∀ (n : Nat) (p : List UInt8) (a b : UInt8), p.length = 2 * n → hxOut (p ++ [a, b]) = hxOut p ++ [UInt8.ofNat (16 * nib a + nib b)]
  | 0, p, a, b, h => by rw [List.eq_nil_of_length_eq_zero (show p.length = 0 by omega)]; rfl
  | n + 1, p, a, b, h => by
    match p, h with
    | x :: y :: r, h => simp only [List.cons_append, hxOut]; rw [hxOut_two n r a b (by simp at h; omega)]
theorem hxOut_len (n : Nat) : ∀ p : List UInt8, p.length ≤ n → 2 * (hxOut p).length ≤ p.length := by
  induction n using Nat.strongRecOn with
  | ind n ih =>
    intro p h
    match p with
    | [] => simp [hxOut]
    | [a] => simp [hxOut]
    | a :: b :: r =>
      have := ih (n - 2) (by simp at h; omega) r (by simp at h; omega)
      simp only [hxOut, List.length_cons]; omega
theorem hxOut_even (s : List UInt8) (m : Nat) (hm : m < s.length) (he : m % 2 = 0) : hxOut (s.take (m + 1)) = hxOut (s.take m) := by
  rw [List.take_succ_eq_append_getElem hm]
  exact hxOut_one (m / 2) _ _ (by rw [List.length_take]; omega)
theorem hxOut_odd (s : List UInt8) (m : Nat) (hm : m < s.length) (he : m % 2 = 1) : hxOut (s.take (m + 1)) = hxOut (s.take m) ++ [UInt8.ofNat (16 * nib (s.getD (m - 1) 0) + nib s[m])] := by
  obtain ⟨k, rfl⟩ : ∃ k, m = k + 1 := ⟨m - 1, by omega⟩
  rw [hxOut_even s k (by omega) (by omega), List.take_succ_eq_append_getElem hm, List.take_succ_eq_append_getElem (show k < s.length by omega), List.append_assoc]
  have h := hxOut_two (k / 2) (s.take k) s[k] s[k + 1] (by rw [List.length_take]; omega)
  rw [show s.getD (k + 1 - 1) 0 = s[k] by simp [show k < s.length by omega]]
  exact h
def hexR (s : List UInt8) : List UInt8 × Bool := if s.all (fun u => (hexu u).isSome) = true then (hxOut s, decide (s.length % 2 = 0)) else ([], false)
theorem hexR_bad {s : List UInt8} {m : Nat} (hm : m < s.length) (h : hexu s[m] = none) : hexR s = ([], false) := by
  unfold hexR
  refine if_neg fun hc => ?_
  have := List.all_eq_true.1 hc s[m] (List.getElem_mem hm)
  rw [h] at this; cases this
theorem hexi_some {u : UInt8} {d : Nat} (h : hexu u = some d) : hexi (u.toNat % 256) = (d : Int) := by
  unfold hexi; rw [Nat.mod_eq_of_lt u.toNat_lt, UInt8.ofNat_toNat, h]
theorem hexi_none {u : UInt8} (h : hexu u = none) : hexi (u.toNat % 256) = -1 := by
  unfold hexi; rw [Nat.mod_eq_of_lt u.toNat_lt, UInt8.ofNat_toNat, h]
theorem hexu_hi {u : UInt8} (h : 128 ≤ u.toNat) : hexu u = none := by
  cases hx : hexu u with
  | none => rfl
  | some d => have := hexu_small hx; omega
theorem or_nib (h d : Nat) (hh : h < 256) (hd : d < 16) : (h * 2 ^ 4 % 256 ||| d % 256) = 16 * (h % 16) + d := by
  have e1 : h * 2 ^ 4 % 256 = 2 ^ 4 * (h % 16) := by omega
  rw [e1, Nat.mod_eq_of_lt (show d < 256 by omega), ← Nat.two_pow_add_eq_or_of_lt (show d < 2 ^ 4 by omega)]
def hexG (s : List UInt8) (v : Value) (gs : Fs) : Prop := ∃ rv, v = .tuple #[rv, .bool (hexR s).2] ∧ IsRow 5 1 rv (hexR s).1.length (ucs (hexR s).1) gs
structure HX where
  m : Nat
  h : Nat
  v : Value
  seg : Fs
theorem hex_calls (s : List UInt8) (hs : s.length ≤ 100000) (w : World) : Calls Tryd.prog 55 #[sv s] w (RetG w [] (hexG s)) := by
  refine enter (args := [_]) _ [] [] Tryd.func55 rfl Tryd.ntmps55 rfl (by simp) .nil ?_
  (refine CW.seq ?_; refine CW.region ?_; apply LW.v0; rfl; rfl; apply ValP.assign; rfl; apply LW.v0; rfl; rfl; apply ValP.assign; rfl; apply LW.nil; refine thenN ?_; refine CW.seq ?_; refine CW.region ?_; apply LW.v0; rfl; rfl; apply ValP.assign; rfl; apply LW.nil; refine thenN ?_; refine CW.seq ?_; refine CW.region ?_; apply LW.v0; rfl; rfl; apply ValP.assign; rfl; apply LW.nil; refine thenN ?_; refine CW.seq ?_; refine CW.seq ?_; refine CW.region ?_; apply LW.v0; rfl; rfl; apply ValP.move; rfl)
  (apply LW.rangeStr; rfl; infer_instance; rfl; intro _)
  (apply LW.nil; refine thenN ?_; refine CW.block ?_)
  rename_i it
  refine CW.loop (fun x : HX => ([(0, sv s), (4, x.v), (5, .int .u8 (x.h : Int)), (10, .pointer (some ⟨it, 0, none⟩))], x.seg ++ [(it, .stringIter ⟨s.toArray⟩ x.m)]))
    (fun x => x.m ≤ s.length ∧ x.h < 256 ∧ (x.m % 2 = 1 → x.h % 16 = nib (s.getD (x.m - 1) 0)) ∧ (∀ j (hj : j < s.length), j < x.m → hexu s[j] ≠ none) ∧ IsRow 5 1 x.v (hxOut (s.take x.m)).length (ucs (hxOut (s.take x.m))) x.seg) (fun x => s.length - x.m) ⟨0, 0, .slice none 0 0, []⟩ ⟨Nat.zero_le _, by decide, fun h => absurd h (by decide), fun j hj h => absurd h (Nat.not_lt_zero _), .nil⟩ ⟨rfl, rfl, rfl, rfl, trivial⟩ (List.Sublist.refl _) ?_
  rintro ⟨m, h, v, seg⟩ ⟨hm, hh, hodd, hall, hrow⟩
  dsimp only at hm hh hodd hall hrow ⊢
  have hol := hxOut_len _ (s.take m) (Nat.le_refl _)
  rw [List.length_take] at hol
  rcases Nat.lt_or_ge m s.length with hlt | hge
  · obtain ⟨u, hu⟩ : ∃ u, u = s[m] := ⟨_, rfl⟩
    rcases Nat.lt_or_ge u.toNat 128 with hu7 | hu7
    · have hdec := decode_lo s m hlt (by rw [← hu]; exact hu7)
      rw [← hu] at hdec
      cases hx : hexu u with
      | none =>
        have hn : hexR s = ([], false) := hexR_bad hlt (by rw [← hu]; exact hx)
        have hIdx : ∀ w, Calls Tryd.prog 63 #[sv hexdigits, .int .u8 ((u.toNat % 256 : Nat) : Int)] w (Ret w (.int .i64 (-1))) := fun w => by
          have := IndexByte_calls (u.toNat % 256) (Nat.mod_lt _ (by decide)) w
          rwa [hexi_none hx] at this
        (refine CW.seq ?_; refine CW.region ?_)
        (apply LW.nextStr; rfl; rfl; apply SetAt.app; apply SetAt.head; assumption)
        rw [hdec]
        (apply LW.v0; rfl; rfl; apply ValP.extractN; rfl; rfl; apply LW.nil; refine thenN ?_; refine CW.seq ?_; apply CW.condT; rfl; (with_reducible rfl); refine CW.skip ?_; refine thenN ?_; refine CW.block ?_; refine CW.seq ?_; refine CW.region ?_; apply LW.v0; rfl; rfl; apply ValP.extractN; rfl; rfl; apply LW.v0; rfl; rfl; apply ValP.extractN; rfl; rfl; apply LW.v0; rfl; rfl; apply ValP.assign; rfl; apply LW.v0; rfl; rfl; apply ValP.assign; rfl; apply LW.nil; refine thenN ?_; refine CW.seq ?_; refine CW.region ?_; apply LW.v0; rfl; rfl; apply ValP.move; rfl; apply LW.v0; rfl; rfl; apply ValP.convB; rfl; apply LW.callE; rfl; rfl; infer_instance; apply ArgsOk.cons; rfl; apply ArgsOk.cons; rfl; exact ArgsOk.nil; intro w _; exact hIdx w; apply LW.v0; rfl; rfl; apply ValP.assign; rfl; apply LW.nil; refine thenN ?_; refine CW.seq ?_; refine CW.seq ?_; refine CW.region ?_; apply LW.v0; rfl; rfl; apply ValP.move; rfl; apply LW.v0; rfl; rfl; apply ValP.gtrF; rfl; rfl; omega; apply LW.v0; rfl; rfl; apply ValP.move; rfl; apply LW.guardT'; rfl; rfl; (with_reducible rfl); apply LW.v0; rfl; rfl; apply ValP.move; rfl; apply LW.guardT'; rfl; rfl; (with_reducible rfl); apply LW.v0; rfl; rfl; apply ValP.lssT; rfl; rfl; omega; apply LW.v0; rfl; rfl; apply ValP.pickF'; rfl; (with_reducible rfl); rfl; apply LW.nil; refine thenN ?_; apply CW.condT; rfl; (with_reducible rfl); refine CW.seq ?_; refine CW.region ?_; apply LW.v0; rfl; rfl; apply ValP.assign; rfl; apply LW.v0; rfl; rfl; apply ValP.assign; rfl; apply LW.nil; refine thenN ?_; refine CW.ret ?_; refine thenR ?_; refine blkR ?_; refine thenR ?_; refine blkR ?_; refine thenR ?_)
        apply finM []; (exact .inl rfl); (exact Shut.nil); rfl; (apply ResL.cons; exact Res.tmp rfl; apply ResL.cons; exact Res.tmp rfl; exact ResL.nil); exact List.nil_sublist _
        exact ⟨.slice none 0 0, by rw [hn]; rfl, by rw [hn]; exact .nil⟩
      | some d =>
        have hd16 := hexu_lt hx
        have hnib : nib u = d := by unfold nib; rw [hx]
        have hIdx : ∀ w, Calls Tryd.prog 63 #[sv hexdigits, .int .u8 ((u.toNat % 256 : Nat) : Int)] w (Ret w (.int .i64 (d : Int))) := fun w => by
          have := IndexByte_calls (u.toNat % 256) (Nat.mod_lt _ (by decide)) w
          rwa [hexi_some hx] at this
        have hor := or_nib h d hh hd16
        have hall' : ∀ j (hj : j < s.length), j < m + 1 → hexu s[j] ≠ none := fun j hj hjm => by
          rcases Nat.lt_or_ge j m with h | h
          · exact hall j hj h
          · obtain rfl : j = m := by omega
            rw [← hu, hx]; exact fun h => nomatch h
        have hlast : (s.getD (m + 1 - 1) 0) = u := by rw [hu]; simp [hlt]
        rcases Nat.mod_two_eq_zero_or_one m with hpar | hpar
        · have hst := hxOut_even s m hlt hpar
          (refine CW.seq ?_; refine CW.region ?_)
          (apply LW.nextStr; rfl; rfl; apply SetAt.app; apply SetAt.head; assumption)
          rw [hdec]
          (apply LW.v0; rfl; rfl; apply ValP.extractN; rfl; rfl; apply LW.nil; refine thenN ?_; refine CW.seq ?_; apply CW.condT; rfl; (with_reducible rfl); refine CW.skip ?_; refine thenN ?_; refine CW.block ?_; refine CW.seq ?_; refine CW.region ?_; apply LW.v0; rfl; rfl; apply ValP.extractN; rfl; rfl; apply LW.v0; rfl; rfl; apply ValP.extractN; rfl; rfl; apply LW.v0; rfl; rfl; apply ValP.assign; rfl; apply LW.v0; rfl; rfl; apply ValP.assign; rfl; apply LW.nil; refine thenN ?_; refine CW.seq ?_; refine CW.region ?_; apply LW.v0; rfl; rfl; apply ValP.move; rfl; apply LW.v0; rfl; rfl; apply ValP.convB; rfl; apply LW.callE; rfl; rfl; infer_instance; apply ArgsOk.cons; rfl; apply ArgsOk.cons; rfl; exact ArgsOk.nil; intro w _; exact hIdx w; apply LW.v0; rfl; rfl; apply ValP.assign; rfl; apply LW.nil; refine thenN ?_; refine CW.seq ?_; refine CW.seq ?_; refine CW.region ?_; apply LW.v0; rfl; rfl; apply ValP.move; rfl; apply LW.v0; rfl; rfl; apply ValP.gtrF; rfl; rfl; omega; apply LW.v0; rfl; rfl; apply ValP.move; rfl; apply LW.guardT'; rfl; rfl; (with_reducible rfl); apply LW.v0; rfl; rfl; apply ValP.move; rfl; apply LW.guardT'; rfl; rfl; (with_reducible rfl); apply LW.v0; rfl; rfl; apply ValP.lssF; rfl; rfl; omega; apply LW.v0; rfl; rfl; apply ValP.pickF'; rfl; (with_reducible rfl); rfl; apply LW.nil; refine thenN ?_; apply CW.condF; rfl; (with_reducible rfl); refine CW.skip ?_; refine thenN ?_; refine CW.seq ?_; refine CW.region ?_; apply LW.v0; rfl; rfl; apply ValP.move; rfl; apply LW.v0; rfl; rfl; apply ValP.shlB (s := 4); rfl; rfl; decide; apply LW.v0; rfl; rfl; apply ValP.move; rfl; apply LW.v0; rfl; rfl; apply ValP.convB; rfl; apply LW.v0; rfl; rfl; apply ValP.orB; rfl; rfl; omega; omega; apply LW.v0; rfl; rfl; apply ValP.assign; rfl; apply LW.nil; refine thenN ?_; refine CW.seq ?_; refine CW.region ?_; apply LW.v0; rfl; rfl; apply ValP.move; rfl; apply LW.v0; rfl; rfl; apply ValP.remZL; rfl; rfl; decide; omega; apply LW.v0; rfl; rfl; apply ValP.eqF; rfl; rfl; omega; apply LW.nil; refine thenN ?_; apply CW.condF; rfl; (with_reducible rfl); refine CW.skip ?_; refine blkN ?_)
          rw [hor]
          apply thenX
          exact ⟨rfl, ⟨m + 1, 16 * (h % 16) + d, v, seg⟩, ⟨hlt, by dsimp only; omega, fun _ => by dsimp only; rw [hlast, hnib]; omega, hall', by dsimp only; rw [hst]; exact hrow⟩, by dsimp only; omega, ⟨rfl, rfl, rfl, rfl, trivial⟩, List.Sublist.refl _⟩
        · have hst := hxOut_odd s m hlt hpar
          rw [← hu, ← hodd hpar, hnib] at hst
          obtain ⟨L, hL⟩ : ∃ L, hxOut (s.take m) = L := ⟨_, rfl⟩
          rw [hL] at hrow hol hst
          (refine CW.seq ?_; refine CW.region ?_)
          (apply LW.nextStr; rfl; rfl; apply SetAt.app; apply SetAt.head; assumption)
          rw [hdec]
          (apply LW.v0; rfl; rfl; apply ValP.extractN; rfl; rfl; apply LW.nil; refine thenN ?_; refine CW.seq ?_; apply CW.condT; rfl; (with_reducible rfl); refine CW.skip ?_; refine thenN ?_; refine CW.block ?_; refine CW.seq ?_; refine CW.region ?_; apply LW.v0; rfl; rfl; apply ValP.extractN; rfl; rfl; apply LW.v0; rfl; rfl; apply ValP.extractN; rfl; rfl; apply LW.v0; rfl; rfl; apply ValP.assign; rfl; apply LW.v0; rfl; rfl; apply ValP.assign; rfl; apply LW.nil; refine thenN ?_; refine CW.seq ?_; refine CW.region ?_; apply LW.v0; rfl; rfl; apply ValP.move; rfl; apply LW.v0; rfl; rfl; apply ValP.convB; rfl; apply LW.callE; rfl; rfl; infer_instance; apply ArgsOk.cons; rfl; apply ArgsOk.cons; rfl; exact ArgsOk.nil; intro w _; exact hIdx w; apply LW.v0; rfl; rfl; apply ValP.assign; rfl; apply LW.nil; refine thenN ?_; refine CW.seq ?_; refine CW.seq ?_; refine CW.region ?_; apply LW.v0; rfl; rfl; apply ValP.move; rfl; apply LW.v0; rfl; rfl; apply ValP.gtrF; rfl; rfl; omega; apply LW.v0; rfl; rfl; apply ValP.move; rfl; apply LW.guardT'; rfl; rfl; (with_reducible rfl); apply LW.v0; rfl; rfl; apply ValP.move; rfl; apply LW.guardT'; rfl; rfl; (with_reducible rfl); apply LW.v0; rfl; rfl; apply ValP.lssF; rfl; rfl; omega; apply LW.v0; rfl; rfl; apply ValP.pickF'; rfl; (with_reducible rfl); rfl; apply LW.nil; refine thenN ?_; apply CW.condF; rfl; (with_reducible rfl); refine CW.skip ?_; refine thenN ?_; refine CW.seq ?_; refine CW.region ?_; apply LW.v0; rfl; rfl; apply ValP.move; rfl; apply LW.v0; rfl; rfl; apply ValP.shlB (s := 4); rfl; rfl; decide; apply LW.v0; rfl; rfl; apply ValP.move; rfl; apply LW.v0; rfl; rfl; apply ValP.convB; rfl; apply LW.v0; rfl; rfl; apply ValP.orB; rfl; rfl; omega; omega; apply LW.v0; rfl; rfl; apply ValP.assign; rfl; apply LW.nil; refine thenN ?_; refine CW.seq ?_; refine CW.region ?_; apply LW.v0; rfl; rfl; apply ValP.move; rfl; apply LW.v0; rfl; rfl; apply ValP.remZL; rfl; rfl; decide; omega; apply LW.v0; rfl; rfl; apply ValP.eqT; rfl; rfl; omega; apply LW.nil; refine thenN ?_; apply CW.condT; rfl; (with_reducible rfl); refine CW.region ?_; apply LW.v0; rfl; rfl; apply ValP.move; rfl; apply LW.v0; rfl; rfl; apply ValP.move; rfl; apply LW.lay1; rfl; infer_instance; infer_instance; rfl; rfl; rfl; rfl; rfl; rfl; intro _)
          rw [hor]
          have huc : [Value.int .u8 ((16 * (h % 16) + d : Nat) : Int)] = ucs [UInt8.ofNat (16 * (h % 16) + d)] := by
            show _ = [Value.int .u8 (((UInt8.ofNat (16 * (h % 16) + d)).toNat : Nat) : Int)]
            rw [UInt8.toNat_ofNat', Nat.mod_eq_of_lt (show 16 * (h % 16) + d < 256 by omega)]
          (apply LW.append; rfl; rfl; infer_instance; infer_instance; infer_instance; rfl; rfl; rfl; (case hrow => assumption); apply AtSeg.cons; exact AtSeg.head; apply Known.at; apply FsAt.head; rfl; rfl; rfl; omega; simp only [maxLen]; omega; omega; intro v' seg' hrow'; obtain ⟨p', c', rfl⟩ := hrow'.form; (refine ⟨_, (by (repeat (first | exact AtSeg.head | apply AtSeg.cons | apply AtSeg.app))), ?_⟩); (try simp only [List.cons_append, List.nil_append]))
          (apply LW.v0; rfl; rfl; apply ValP.assign; rfl; apply LW.nil; refine blkN ?_)
          apply thenX
          exact ⟨rfl, ⟨m + 1, 16 * (h % 16) + d, _, seg'⟩, ⟨hlt, by dsimp only; omega, fun _ => by dsimp only; rw [hlast, hnib]; omega, hall', by dsimp only; rw [hst, ucs_app, ← huc, List.length_append]; exact hrow'⟩, by dsimp only; omega, ⟨rfl, rfl, rfl, rfl, trivial⟩, by (apply List.Sublist.cons; exact List.Sublist.refl _)⟩
    · have hn : hexR s = ([], false) := hexR_bad hlt (by rw [← hu]; exact hexu_hi hu7)
      obtain ⟨hc1, hc2⟩ := decode_hi s m hlt (by rw [← hu]; exact hu7)
      obtain ⟨c, hc⟩ : ∃ c, c = (Utf8.decode ⟨s.toArray⟩ m).1 := ⟨_, rfl⟩
      rw [← hc] at hc1 hc2
      have hIdx : ∀ w, Calls Tryd.prog 63 #[sv hexdigits, .int .u8 ((c % 256 : Nat) : Int)] w (Ret w (.int .i64 (hexi (c % 256)))) := IndexByte_calls (c % 256) (Nat.mod_lt _ (by decide))
      (refine CW.seq ?_; refine CW.region ?_)
      (apply LW.nextStr; rfl; rfl; apply SetAt.app; apply SetAt.head; assumption)
      rw [← hc]
      (apply LW.v0; rfl; rfl; apply ValP.extractN; rfl; rfl; apply LW.nil; refine thenN ?_; refine CW.seq ?_; apply CW.condT; rfl; (with_reducible rfl); refine CW.skip ?_; refine thenN ?_; refine CW.block ?_; refine CW.seq ?_; refine CW.region ?_; apply LW.v0; rfl; rfl; apply ValP.extractN; rfl; rfl; apply LW.v0; rfl; rfl; apply ValP.extractN; rfl; rfl; apply LW.v0; rfl; rfl; apply ValP.assign; rfl; apply LW.v0; rfl; rfl; apply ValP.assign; rfl; apply LW.nil; refine thenN ?_; refine CW.seq ?_; refine CW.region ?_; apply LW.v0; rfl; rfl; apply ValP.move; rfl; apply LW.v0; rfl; rfl; apply ValP.convB; rfl; apply LW.callE; rfl; rfl; infer_instance; apply ArgsOk.cons; rfl; apply ArgsOk.cons; rfl; exact ArgsOk.nil; intro w _; exact hIdx w; apply LW.v0; rfl; rfl; apply ValP.assign; rfl; apply LW.nil; refine thenN ?_; refine CW.seq ?_; refine CW.seq ?_; refine CW.region ?_; apply LW.v0; rfl; rfl; apply ValP.move; rfl; apply LW.v0; rfl; rfl; apply ValP.gtrT; rfl; rfl; omega; apply LW.v0; rfl; rfl; apply ValP.move; rfl; apply LW.guardF'; rfl; rfl; simp only [Bool.not_true, Bool.not_false]; rfl; apply LW.guardF'; rfl; rfl; simp only [Bool.not_true, Bool.not_false]; rfl; apply LW.v0; rfl; rfl; apply ValP.pickT'; rfl; (with_reducible rfl); rfl; apply LW.nil; refine thenN ?_; apply CW.condT; rfl; (with_reducible rfl); refine CW.seq ?_; refine CW.region ?_; apply LW.v0; rfl; rfl; apply ValP.assign; rfl; apply LW.v0; rfl; rfl; apply ValP.assign; rfl; apply LW.nil; refine thenN ?_; refine CW.ret ?_; refine thenR ?_; refine blkR ?_; refine thenR ?_; refine blkR ?_; refine thenR ?_)
      apply finM []; (exact .inl rfl); (exact Shut.nil); rfl; (apply ResL.cons; exact Res.tmp rfl; apply ResL.cons; exact Res.tmp rfl; exact ResL.nil); exact List.nil_sublist _
      exact ⟨.slice none 0 0, by rw [hn]; rfl, by rw [hn]; exact .nil⟩
  · obtain rfl : m = s.length := by omega
    rw [List.take_length] at hrow
    have hn : hexR s = (hxOut s, decide (s.length % 2 = 0)) := by
      unfold hexR
      refine if_pos (List.all_eq_true.2 fun x hx => ?_)
      obtain ⟨j, hj, rfl⟩ := List.mem_iff_getElem.1 hx
      have := hall j hj hj
      cases hh : hexu s[j] with
      | none => exact absurd hh this
      | some d => rfl
    (refine CW.seq ?_; refine CW.region ?_)
    (apply LW.nextEnd; rfl; rfl; apply Known.at; apply FsAt.app; apply FsAt.head; assumption)
    (apply LW.v0; rfl; rfl; apply ValP.extractN; rfl; rfl; apply LW.nil; refine thenN ?_; refine CW.seq ?_; apply CW.condF; rfl; (with_reducible rfl); refine CW.exit ?_; refine thenE ?_; refine thenE ?_; refine blkE rfl ?_; refine thenN ?_; refine CW.seq ?_; refine CW.region ?_; apply LW.v0; rfl; rfl; apply ValP.move; rfl; apply LW.v0; rfl; rfl; apply ValP.move; rfl; apply LW.v0; rfl; rfl; apply ValP.lenStr; rfl; infer_instance; rfl; apply LW.v0; rfl; rfl; apply ValP.remZL; rfl; rfl; decide; omega; apply LW.v0; rfl; rfl; apply ValP.eq; rfl; rfl; apply LW.v0; rfl; rfl; apply ValP.assign; rfl; apply LW.v0; rfl; rfl; apply ValP.assign; rfl; apply LW.nil; refine thenN ?_; refine CW.ret ?_)
    apply finM seg; (exact .inl rfl); (exact Shut.nil); rfl; (apply ResL.cons; exact Res.tmp rfl; apply ResL.cons; exact Res.tmp rfl; exact ResL.nil); exact List.sublist_append_left _ _
    refine ⟨v, ?_, by rw [hn]; exact hrow⟩
    rw [hn]
    show Value.tuple #[v, .bool (decide (((s.length % 2 : Nat) : Int) = 0))] = .tuple #[v, .bool (decide (s.length % 2 = 0))]
    rw [show decide (((s.length % 2 : Nat) : Int) = 0) = decide (s.length % 2 = 0) from decide_eq_decide.2 (by omega)]
end Go.Proofs.YtbhicncgjplnoaaDoor

/-
  The text of a program: contracts.
  Conditions: none.
-/
namespace Go.Proofs.YtbhicncgjplnoaaDoor
open Go Go.RowKit SL
set_option maxRecDepth 8000
set_option maxHeartbeats 4000000
set_option linter.unusedSimpArgs false
set_option linter.unusedVariables false
attribute [local irreducible] SL.CW SL.LW SL.DW Calls SL.Ret SL.RetG SL.beginQ SL.roundQ SL.rangeQ SL.inQ SL.RW SL.AnyW SL.thenQ SL.thenC SL.thenW SL.blkQ SL.finQ SL.ValP SL.NewP SL.SetP SL.CallP SL.Rd SL.Wr SL.Known
/-! ### Plain: the words of a program -/
theorem opOf_nm : ∀ b, b < 256 → (match opOf b with | some x => decide (x.nm ≠ [] ∧ x.nm.length ≤ 12) | none => true) = true := by decide +kernel
theorem opAt_nm_some {b : Nat} {x : OpV} (hb : b < 256) (h : opOf b = some x) : x.nm ≠ [] ∧ x.nm.length ≤ 12 := by
  have := opOf_nm b hb; rw [h] at this; simpa using this
attribute [local irreducible] opOf
def wordsOf (u : UInt8) (d : List UInt8) : List (List UInt8) := match opOf u.toNat with
  | none => [46 :: hx2 u]
  | some x => if 0 < x.dt then [x.nm, hxs d] else [x.nm]
def wordsS (L : List (Nat × UInt8 × List UInt8)) : List (List UInt8) := L.flatMap fun s => wordsOf s.2.1 s.2.2
theorem wordsS_cons (p : Nat) (u : UInt8) (d : List UInt8) (L : List (Nat × UInt8 × List UInt8)) : wordsS ((p, u, d) :: L) = wordsOf u d ++ wordsS L := rfl
def wordsL (bs : List UInt8) : List (List UInt8) := wordsS (segsAt 0 bs)
def textL (bs : List UInt8) : List UInt8 := joinW (wordsL bs)
theorem wordsOf_len (u : UInt8) (d : List UInt8) : (wordsOf u d).length ≤ 2 := by
  unfold wordsOf
  split
  · simp
  · split <;> simp
def lenS (L : List (List UInt8)) : Nat := (L.map fun x => x.length + 1).sum
theorem lenS_app (a b : List (List UInt8)) : lenS (a ++ b) = lenS a + lenS b := by simp [lenS]
theorem joinW_le (L : List (List UInt8)) : (joinW L).length ≤ lenS L := by
  cases L with
  | nil => exact Nat.le_refl _
  | cons x R =>
    have h := jn_len x R
    show (jn x R).length ≤ _
    rw [h]
    have : ∀ l : List (List UInt8), lenS l = l.length + (l.map List.length).sum := fun l => by
      induction l with
      | nil => rfl
      | cons y r ih => simp only [lenS, List.map_cons, List.sum_cons, List.length_cons] at *; omega
    rw [this]; simp
theorem wordsOf_sum (u : UInt8) (d : List UInt8) : lenS (wordsOf u d) ≤ 14 * (1 + d.length) := by
  unfold wordsOf
  split
  · show 4 ≤ _
    omega
  · rename_i x hx
    have := (opAt_nm_some u.toNat_lt hx).2
    have hd := hxs_len d
    split <;> simp [lenS] <;> omega
theorem segs_sum (n : Nat) : ∀ (bs : List UInt8) (p : Nat), bs.length ≤ n → lenS (wordsS (segsAt p bs)) ≤ 14 * bs.length := by
  induction n with
  | zero =>
    intro bs p h
    rw [List.eq_nil_of_length_eq_zero (show bs.length = 0 by omega), segsAt_nil]
    exact Nat.zero_le _
  | succ n ih =>
    intro bs p h
    cases bs with
    | nil => rw [segsAt_nil]; exact Nat.zero_le _
    | cons b r =>
      have h1 := ih (r.drop (szOf b.toNat)) (p + 1 + szOf b.toNat) (by simp at h ⊢; omega)
      have h2 := wordsOf_sum b (r.take (szOf b.toNat))
      have h3 : (r.take (szOf b.toNat)).length + (r.drop (szOf b.toNat)).length = r.length := by rw [List.length_take, List.length_drop]; omega
      rw [segsAt_cons]
      unfold wordsS at *
      rw [List.flatMap_cons, lenS_app, List.length_cons]
      dsimp only
      omega
theorem textL_len (bs : List UInt8) : (textL bs).length ≤ 14 * bs.length := Nat.le_trans (joinW_le _) (segs_sum _ bs 0 (Nat.le_refl _))
/-! ### The walk -/
structure WX where
  p : Nat
  W : List (List UInt8)
  v : Value
  seg : Fs
def TextV (bs : List UInt8) : Value := if bs.length ≤ 200 then .tuple #[sv (textL bs), .int .i64 0] else .tuple #[sv [], .int .i64 3]
theorem Text_calls (bs : List UInt8) (v : Value) (w : World) (hv : RowAt w 1 v bs.length (ucs bs)) : Calls Tryd.prog 15 #[v] w (Ret w (TextV bs)) := by
  have hCk0 : ∀ w' {fs}, St w [] fs w' → Calls Tryd.prog 20 #[v] w' (Ret w' (.int .i64 (if bs.length ≤ 200 then 0 else 3))) := fun w' fs hst => CheckC_calls v bs.length (ucs bs) w' (hv.st hst)
  obtain ⟨p0, c0, rfl, _, _⟩ := hv.form
  unfold TextV
  refine enter (args := [_]) _ [] [] Tryd.func15 rfl Tryd.ntmps15 rfl (by simp) .nil ?_
  rcases Nat.lt_or_ge 200 bs.length with hgt | hle
  · rw [if_neg (by omega)]
    have hCk : ∀ w' {fs}, St w [] fs w' → Calls Tryd.prog 20 #[.slice p0 bs.length c0] w' (Ret w' (.int .i64 3)) := by rw [if_neg (by omega)] at hCk0; exact hCk0
    (refine CW.seq ?_; refine CW.region ?_; apply LW.box1; rfl; rfl; rfl; intro _; apply LW.v0; rfl; rfl; apply ValP.assign; rfl; apply LW.v0; rfl; rfl; apply ValP.assign; rfl; apply LW.nil; refine thenN ?_; refine CW.seq ?_; refine CW.seq ?_; refine CW.region ?_; apply LW.load; rfl; rfl; apply Known.at; apply FsAt.head; exact Rd.one' rfl; apply LW.callE; rfl; rfl; infer_instance; apply ArgsOk.cons; rfl; exact ArgsOk.nil; intro w _; exact hCk w (by assumption); apply LW.v0; rfl; rfl; apply ValP.assign; rfl; apply LW.nil; refine thenN ?_; refine CW.seq ?_; refine CW.region ?_; apply LW.v0; rfl; rfl; apply ValP.move; rfl; apply LW.v0; rfl; rfl; apply ValP.neT; rfl; rfl; omega; apply LW.nil; refine thenN ?_; apply CW.condT; rfl; (with_reducible rfl); refine CW.seq ?_; refine CW.region ?_; apply LW.v0; rfl; rfl; apply ValP.move; rfl; apply LW.v0; rfl; rfl; apply ValP.assign; rfl; apply LW.v0; rfl; rfl; apply ValP.assign; rfl; apply LW.nil; refine thenN ?_; refine CW.ret ?_; refine thenR ?_)
    (apply finR; exact .inl rfl; rfl; rfl; rfl; apply ResL.cons; exact Res.tmp rfl; apply ResL.cons; exact Res.tmp rfl; exact ResL.nil)
    rfl
  · rw [if_pos hle]
    have hCk : ∀ w' {fs}, St w [] fs w' → Calls Tryd.prog 20 #[.slice p0 bs.length c0] w' (Ret w' (.int .i64 0)) := by rw [if_pos hle] at hCk0; exact hCk0
    have htl := textL_len bs
    unfold textL at htl ⊢
    obtain ⟨T, hT⟩ : ∃ T, wordsL bs = T := ⟨_, rfl⟩
    rw [hT] at htl ⊢
    (refine CW.seq ?_; refine CW.region ?_; apply LW.box1; rfl; rfl; rfl; intro _; apply LW.v0; rfl; rfl; apply ValP.assign; rfl; apply LW.v0; rfl; rfl; apply ValP.assign; rfl; apply LW.nil; refine thenN ?_; refine CW.seq ?_; refine CW.seq ?_; refine CW.region ?_; apply LW.load; rfl; rfl; apply Known.at; apply FsAt.head; exact Rd.one' rfl; apply LW.callE; rfl; rfl; infer_instance; apply ArgsOk.cons; rfl; exact ArgsOk.nil; intro w _; exact hCk w (by assumption); apply LW.v0; rfl; rfl; apply ValP.assign; rfl; apply LW.nil; refine thenN ?_; refine CW.seq ?_; refine CW.region ?_; apply LW.v0; rfl; rfl; apply ValP.move; rfl; apply LW.v0; rfl; rfl; apply ValP.neF; rfl; rfl; omega; apply LW.nil; refine thenN ?_; apply CW.condF; rfl; (with_reducible rfl); refine CW.skip ?_; refine thenN ?_; refine CW.seq ?_; refine CW.region ?_; apply LW.alloc1; rfl; rfl; intro _; apply LW.nil; refine thenN ?_; refine CW.seq ?_; refine CW.seq ?_; refine CW.region ?_; apply LW.load; rfl; rfl; apply Known.at; apply FsAt.tail; apply FsAt.head; exact Rd.one' rfl)
    apply LW.inline
    rfl
    rfl
    infer_instance
    (apply ArgsOk.cons; rfl; exact ArgsOk.nil)
    rfl
    exact Tryd.func38
    rfl
    exact Tryd.ntmps38
    rfl
    (refine CW.seq ?_; refine CW.region ?_; apply LW.box1; rfl; rfl; rfl; intro _; apply LW.v0; rfl; rfl; apply ValP.assign; rfl; apply LW.nil; refine thenN ?_; refine CW.seq ?_; refine CW.region ?_; apply LW.v0; rfl; rfl; apply ValP.makeFunc; exact ArgsOk.nil; apply ArgsOk.cons; rfl; exact ArgsOk.nil; apply LW.v0; rfl; rfl; apply ValP.assign; rfl; apply LW.nil; refine thenN ?_; refine CW.ret ?_)
    apply inI
    (exact .inl rfl)
    (exact Shut.nil)
    rfl
    (apply ResL.cons; exact Res.tmp rfl; exact ResL.nil)
    rfl
    (apply LW.nil; refine thenN ?_; refine CW.block ?_)
    apply CW.rangeFunc
    rfl
    rfl
    infer_instance
    rfl
    exact Tryd.func50
    rfl
    exact Tryd.ntmps50
    rfl
    rfl
    intro l r rec hrec
    (refine CW.seq ?_; refine CW.seq ?_; refine CW.region ?_; apply LW.load; rfl; rfl; apply Known.at; apply FsAt.tail; apply FsAt.tail; apply FsAt.head; exact Rd.one' rfl; apply LW.callE; rfl; rfl; infer_instance; apply ArgsOk.cons; rfl; exact ArgsOk.nil; intro w _; exact hCk w (by assumption); apply LW.v0; rfl; rfl; apply ValP.neF; rfl; rfl; omega; apply LW.nil; refine thenN ?_; apply CW.condF; rfl; (with_reducible rfl); refine CW.skip ?_; refine thenN ?_; refine CW.seq ?_; refine CW.region ?_; apply LW.v0; rfl; rfl; apply ValP.assign; rfl; apply LW.nil; refine thenN ?_; refine CW.block ?_)
    rename_i b1 bo bb
    refine CW.loop (fun x : WX => ([(3, .int .i64 (x.p : Int)), (0, .func (.yield l) #[] #[]), (1, .pointer (some ⟨bb, 0, none⟩))],
      x.seg ++ [(l, rdy rec), (r, .deferred (some [])), (bb, .cells #[.slice p0 bs.length c0] 33 (0, 0)), (bo, .cells #[x.v] 51 (0, 0)), (b1, .cells #[.slice p0 bs.length c0] 33 (0, 0))]))
      (fun x => x.W ++ wordsS (segsAt x.p (bs.drop x.p)) = T ∧ x.p ≤ 300 ∧ x.W.length ≤ 2 * x.p ∧ (x.v = .slice none 0 0 ∨ 0 < x.W.length) ∧ IsRow 9 1 x.v x.W.length (scs x.W) x.seg) (fun x => bs.length - x.p) ⟨0, [], .slice none 0 0, []⟩ ⟨by rw [List.drop_zero]; exact hT, by decide, by decide, .inl rfl, .nil⟩ ⟨rfl, rfl, rfl, trivial⟩ (List.Sublist.refl _) ?_
    rintro ⟨p, W, v, seg⟩ ⟨hJ, hp, hJl, h0, hrow⟩
    dsimp only at hJ hp hJl h0 hrow ⊢
    rcases Nat.lt_or_ge p bs.length with hlt | hge
    · obtain ⟨b, off, c', cs, E, fr, heq, hbk, hx⟩ := hv.pos (by omega)
      cases heq
      have hst := segs_step bs p hlt
      obtain ⟨u, hu⟩ : ∃ u, bs.getD p 0 = u := ⟨_, rfl⟩
      rw [hu] at hst
      rw [hst] at hJ
      have hrd : Rd Tryd.prog 5 (.cells cs E fr) (off + p * 1) (.int .u8 (u.toNat : Int)) := Rd.elem1 hx (ucs_one bs) (List.getElem?_eq_getElem hlt) (by rw [← hu]; simp [hlt])
      have hub : u.toNat < 256 := u.toNat_lt
      have hOf0 := Of_op_calls u.toNat hub
      have hzl := szOf_le u.toNat
      have hxd := opAt_dt u.toNat
      obtain ⟨x, hx0⟩ : ∃ x, opAt u.toNat = x := ⟨_, rfl⟩
      rw [hx0] at hxd
      rw [← hxd] at hzl hJ
      unfold opAt at hx0
      cases ho : opOf u.toNat with
      | none =>
        rw [ho] at hx0 hOf0
        dsimp only at hx0
        subst hx0
        dsimp only at hzl hxd hJ
        have hOf : ∀ w, Calls Tryd.prog 11 #[.int .u8 (u.toNat : Int)] w (Ret w (.tuple #[.agg (opc zeroOp), .int .i64 4])) := hOf0
        have hwo : wordsOf u [] = [46 :: hx2 u] := by unfold wordsOf; rw [ho]
        (refine CW.seq ?_; refine CW.seq ?_; refine CW.region ?_; apply LW.v0; rfl; rfl; apply ValP.move; rfl; apply LW.load; rfl; rfl; apply Known.at; apply FsAt.app; apply FsAt.tail; apply FsAt.tail; apply FsAt.head; exact Rd.one' rfl; apply LW.v0; rfl; rfl; apply ValP.lenR; rfl; infer_instance; rfl; apply LW.v0; rfl; rfl; apply ValP.lssT; rfl; rfl; omega; apply LW.nil; refine thenN ?_; apply CW.condT; rfl; (with_reducible rfl); refine CW.skip ?_; refine thenN ?_; refine CW.seq ?_; refine CW.block ?_; refine CW.seq ?_; refine CW.region ?_; apply LW.load; rfl; rfl; apply Known.at; apply FsAt.app; apply FsAt.tail; apply FsAt.tail; apply FsAt.head; exact Rd.one' rfl; apply LW.v0; rfl; rfl; apply ValP.move; rfl; apply LW.v0; rfl; rfl; apply ValP.indexAddrS; rfl; rfl; rfl; omega; apply LW.load; rfl; rfl; exact Known.ext (by assumption) (by simp); assumption; apply LW.callE; rfl; rfl; infer_instance; apply ArgsOk.cons; rfl; exact ArgsOk.nil; intro w _; exact hOf w; apply LW.v0; rfl; rfl; apply ValP.move; rfl; apply LW.v0; rfl; rfl; apply ValP.extractN; rfl; rfl; apply LW.v0; rfl; rfl; apply ValP.extractN; rfl; rfl; apply LW.allocA; rfl; intro _; apply LW.store; rfl; rfl; apply SetAt.head; apply Wr.whole; rfl; rfl; rfl; apply LW.v0; rfl; rfl; apply ValP.assign; rfl; apply LW.nil; refine thenN ?_; refine CW.seq ?_; refine CW.seq ?_; refine CW.region ?_; apply LW.v0; rfl; rfl; apply ValP.move; rfl; apply LW.v0; rfl; rfl; apply ValP.neT; rfl; rfl; omega; apply LW.nil; refine thenN ?_; apply CW.condT; rfl; (with_reducible rfl); refine CW.region ?_; apply LW.load; rfl; rfl; apply Known.at; apply FsAt.tail; apply FsAt.app; apply FsAt.tail; apply FsAt.tail; apply FsAt.head; exact Rd.one' rfl; apply LW.v0; rfl; rfl; apply ValP.move; rfl; apply LW.v0; rfl; rfl; apply ValP.indexAddrS; rfl; rfl; rfl; omega; apply LW.load; rfl; rfl; exact Known.ext (by assumption) (by simp); assumption; apply LW.v0; rfl; rfl; apply ValP.buildT; infer_instance; infer_instance; apply PartsOk.cons; rfl; exact PartsOk.nil; rfl; simp only [fillP, wrCells, Value.cells, List.getElem?_cons_zero, List.getElem?_cons_succ, List.toList_toArray, List.setIfInBounds_toArray, List.set_cons_succ, List.set_cons_zero, Nat.reduceAdd, Nat.zero_add]; rfl; apply LW.store; rfl; rfl; apply SetAt.head; apply Wr.whole; rfl; rfl; rfl; apply LW.nil; refine thenN ?_; refine CW.seq ?_; refine CW.seq ?_; refine CW.region ?_; apply LW.v0; rfl; rfl; apply ValP.move; rfl; apply LW.v0; rfl; rfl; apply ValP.move; rfl; apply LW.load; rfl; rfl; apply Known.at; apply FsAt.head; exact Rd.whole rfl)
        have hmid := hv.midU (i := p) (j := p + 1) (by omega) (by omega)
        have hsub : (bs.drop p).take (p + 1 - p) = [u] := by
          rw [List.drop_eq_getElem_cons hlt, show p + 1 - p = 1 by omega, ← hu, List.take_succ_cons, List.take_zero]; simp [hlt]
        rw [hsub] at hmid
        have hdu : [46] ++ hxs [u] = 46 :: hx2 u := rfl
        have hDig0 : ∀ w', Bel w.heap.size [] w w' → Calls Tryd.prog 39 #[cutAt (some ⟨b, off, none⟩) p (p + 1) c0 1] w' (Ret w' (sv (hxs [u]))) := fun w' hb => digits_calls [u] (by show 1 ≤ 1000; decide) _ w' (hmid.bel hb)
        have hDll := hxs_len [u]
        rw [List.length_singleton] at hDll
        obtain ⟨D, hD⟩ : ∃ D, hxs [u] = D := ⟨_, rfl⟩
        rw [hD] at hdu hDig0 hDll
        have hDig := hDig0
        apply LW.yield
        rfl
        rfl
        (apply ArgsOk.cons; rfl; apply ArgsOk.cons; rfl; exact ArgsOk.nil)
        exact hrec
        (apply FsAt.tail; apply FsAt.app; apply FsAt.head)
        rfl
        rfl
        (refine CW.seq ?_; refine CW.region ?_; apply LW.v0; rfl; rfl; apply ValP.assign; rfl; apply LW.nil; refine thenN ?_; refine CW.region ?_; apply LW.allocA; rfl; intro _; apply LW.store; rfl; rfl; apply SetAt.head; apply Wr.whole; rfl; rfl; rfl; apply LW.nil; apply beginI; apply SetAt.tail; apply SetAt.tail; apply SetAt.app; apply SetAt.head; refine CW.block ?_; refine CW.block ?_; refine CW.seq ?_; refine CW.region ?_; apply LW.v0; rfl; rfl; apply ValP.fieldAddr; rfl; rfl; apply LW.load; rfl; rfl; apply Known.at; apply FsAt.head; exact Rd.one' rfl; apply LW.v0; rfl; rfl; apply ValP.strEqT; rfl; rfl; (with_reducible rfl); apply LW.v0; rfl; rfl; apply ValP.assign; rfl; apply LW.nil; refine thenN ?_; apply CW.condT; rfl; (with_reducible rfl); apply CW.pre; refine AnyW.any 9 mixed (by decide +kernel) ?_; (try simp only [tsOf_cons, tsOf_nil, tsOf_app]); apply DW.loadO; rfl; rfl; rfl; exact WantT.none; rfl; apply TRead.tail; apply TRead.tail; apply TRead.app; apply TRead.tail; apply TRead.tail; apply TRead.tail; apply TRead.head; exact ancB_nil; exact Rd.one' rfl; apply DW.loadO; rfl; rfl; rfl; exact WantT.none; rfl; apply TRead.tail; apply TRead.tail; apply TRead.app; apply TRead.tail; apply TRead.tail; apply TRead.tail; apply TRead.tail; apply TRead.head; exact ancB_nil; exact Rd.one' rfl; apply DW.v0; rfl; rfl; rfl; exact WantT.none; rfl; apply ValP.move; rfl; apply DW.v0; rfl; rfl; rfl; exact WantT.none; rfl; apply ValP.move; rfl; apply DW.v0; rfl; rfl; rfl; exact WantT.none; rfl; apply ValP.addZL; rfl; rfl; decide; omega; apply DW.v0; rfl; rfl; rfl; exact WantT.none; rfl; apply ValP.cutMid; infer_instance; infer_instance; rfl; rfl; rfl; omega; omega; apply DW.callV; rfl; rfl; rfl; exact WantT.none; rfl; infer_instance; apply ArgsOk.cons; rfl; exact ArgsOk.nil; apply RdV.ext; assumption; rfl; exact RdV.nil; intro w _ _; exact hDig w (by assumption); apply DW.v0; rfl; rfl; rfl; exact WantT.none; rfl; apply ValP.addStr; rfl; rfl; simp; omega; apply DW.lay1; rfl; rfl; rfl; exact WantT.none; infer_instance; infer_instance; rfl; rfl; rfl; rfl; rfl; rfl; intro _; apply DW.nil; simp only [fsOf_cons, fsOf_nil, fsOf_app, fsOf_tsOf, fsOf_new, fsOf_tag])
        rw [hdu]
        (apply LW.append; rfl; rfl; infer_instance; infer_instance; infer_instance; rfl; rfl; rfl; (case hrow => assumption); apply AtSeg.cons; apply AtSeg.cons; apply AtSeg.cons; exact AtSeg.head; apply Known.at; apply FsAt.head; rfl; rfl; rfl; omega; simp only [maxLen]; omega; omega; intro v' seg' hrow'; obtain ⟨p', c', rfl⟩ := hrow'.form; (refine ⟨_, (by (repeat (first | exact AtSeg.head | apply AtSeg.cons | apply AtSeg.app))), ?_⟩); (try simp only [List.cons_append, List.nil_append]))
        (apply LW.store; rfl; rfl; apply SetAt.tail; apply SetAt.tail; apply SetAt.tail; apply SetAt.app; apply SetAt.tail; apply SetAt.tail; apply SetAt.tail; apply SetAt.head; apply Wr.cells; rfl; rfl; simp only [List.size_toArray, List.length_cons, List.length_nil]; omega; simp only [fillC, wc, wrCells, Value.cells, List.toList_toArray, List.setIfInBounds_toArray, List.set_cons_succ, List.set_cons_zero, Nat.reduceAdd, Nat.reduceMul, Nat.zero_add, Nat.mul_one]; rfl; apply LW.nil; refine blkN ?_; refine blkN ?_; apply roundN; apply SetAt.tail; apply SetAt.tail; apply SetAt.tail; apply SetAt.app; apply SetAt.head; apply LW.v0; rfl; rfl; apply ValP.notT; rfl; (with_reducible rfl); apply LW.nil; refine thenN ?_; apply CW.condF; rfl; (with_reducible rfl); refine CW.skip ?_; refine thenN ?_; refine CW.region ?_; apply LW.v0; rfl; rfl; apply ValP.move; rfl; apply LW.v0; rfl; rfl; apply ValP.fieldAddr; rfl; rfl; apply LW.load; rfl; rfl; apply Known.at; apply FsAt.tail; apply FsAt.tail; apply FsAt.head; exact Rd.one' rfl; apply LW.v0; rfl; rfl; apply ValP.addZL; rfl; rfl; decide; omega; apply LW.v0; rfl; rfl; apply ValP.assign; rfl; apply LW.nil; refine blkN ?_; refine thenN ?_; refine CW.region ?_; apply LW.v0; rfl; rfl; apply ValP.move; rfl; apply LW.v0; rfl; rfl; apply ValP.addZL; rfl; rfl; decide; omega; apply LW.v0; rfl; rfl; apply ValP.assign; rfl; apply LW.nil)
        apply thenX
        refine ⟨rfl, ⟨p + 0 + 1, W ++ [46 :: hx2 u], _, seg'⟩, ⟨?_, by dsimp only; omega, by rw [List.length_append, List.length_singleton]; dsimp only; omega, .inr (by rw [List.length_append, List.length_singleton]; omega), by rw [List.length_append, scs_app]; exact hrow'⟩, by dsimp only; omega, ⟨rfl, rfl, rfl, trivial⟩, by (apply List.Sublist.cons; apply List.Sublist.cons; apply List.Sublist.cons; exact List.Sublist.refl _)⟩
        rw [← hJ, List.append_assoc, wordsS_cons, List.take_zero, hwo]
      | some y =>
        rw [ho] at hx0 hOf0
        dsimp only at hx0
        subst hx0
        obtain ⟨hnm, hnl⟩ := opAt_nm_some hub ho
        have hOf : ∀ w, Calls Tryd.prog 11 #[.int .u8 (u.toNat : Int)] w (Ret w (.tuple #[.agg (opc y), .int .i64 0])) := hOf0
        rcases Nat.eq_zero_or_pos y.dt with hz | hz
        · have hwo : ∀ d, wordsOf u d = [y.nm] := fun d => by unfold wordsOf; rw [ho]; exact if_neg (by omega)
          have hne : (⟨y.nm.toArray⟩ : ByteArray) ≠ ⟨([] : List UInt8).toArray⟩ := sv_inj hnm
          (refine CW.seq ?_; refine CW.seq ?_; refine CW.region ?_; apply LW.v0; rfl; rfl; apply ValP.move; rfl; apply LW.load; rfl; rfl; apply Known.at; apply FsAt.app; apply FsAt.tail; apply FsAt.tail; apply FsAt.head; exact Rd.one' rfl; apply LW.v0; rfl; rfl; apply ValP.lenR; rfl; infer_instance; rfl; apply LW.v0; rfl; rfl; apply ValP.lssT; rfl; rfl; omega; apply LW.nil; refine thenN ?_; apply CW.condT; rfl; (with_reducible rfl); refine CW.skip ?_; refine thenN ?_; refine CW.seq ?_; refine CW.block ?_; refine CW.seq ?_; refine CW.region ?_; apply LW.load; rfl; rfl; apply Known.at; apply FsAt.app; apply FsAt.tail; apply FsAt.tail; apply FsAt.head; exact Rd.one' rfl; apply LW.v0; rfl; rfl; apply ValP.move; rfl; apply LW.v0; rfl; rfl; apply ValP.indexAddrS; rfl; rfl; rfl; omega; apply LW.load; rfl; rfl; exact Known.ext (by assumption) (by simp); assumption; apply LW.callE; rfl; rfl; infer_instance; apply ArgsOk.cons; rfl; exact ArgsOk.nil; intro w _; exact hOf w; apply LW.v0; rfl; rfl; apply ValP.move; rfl; apply LW.v0; rfl; rfl; apply ValP.extractN; rfl; rfl; apply LW.v0; rfl; rfl; apply ValP.extractN; rfl; rfl; apply LW.allocA; rfl; intro _; apply LW.store; rfl; rfl; apply SetAt.head; apply Wr.whole; rfl; rfl; rfl; apply LW.v0; rfl; rfl; apply ValP.assign; rfl; apply LW.nil; refine thenN ?_; refine CW.seq ?_; refine CW.seq ?_; refine CW.region ?_; apply LW.v0; rfl; rfl; apply ValP.move; rfl; apply LW.v0; rfl; rfl; apply ValP.neF; rfl; rfl; omega; apply LW.nil; refine thenN ?_; apply CW.condF; rfl; (with_reducible rfl); refine CW.skip ?_; refine thenN ?_; refine CW.seq ?_; refine CW.seq ?_; refine CW.region ?_; apply LW.v0; rfl; rfl; apply ValP.move; rfl; apply LW.v0; rfl; rfl; apply ValP.move; rfl; apply LW.load; rfl; rfl; apply Known.at; apply FsAt.head; exact Rd.whole rfl)
          apply LW.yield
          rfl
          rfl
          (apply ArgsOk.cons; rfl; apply ArgsOk.cons; rfl; exact ArgsOk.nil)
          exact hrec
          (apply FsAt.tail; apply FsAt.app; apply FsAt.head)
          rfl
          rfl
          (refine CW.seq ?_; refine CW.region ?_; apply LW.v0; rfl; rfl; apply ValP.assign; rfl; apply LW.nil; refine thenN ?_; refine CW.region ?_; apply LW.allocA; rfl; intro _; apply LW.store; rfl; rfl; apply SetAt.head; apply Wr.whole; rfl; rfl; rfl; apply LW.nil; apply beginI; apply SetAt.tail; apply SetAt.tail; apply SetAt.app; apply SetAt.head; refine CW.block ?_; refine CW.block ?_; refine CW.seq ?_; refine CW.region ?_; apply LW.v0; rfl; rfl; apply ValP.fieldAddr; rfl; rfl; apply LW.load; rfl; rfl; apply Known.at; apply FsAt.head; exact Rd.one' rfl; apply LW.v0; rfl; rfl; apply ValP.strEqF; rfl; rfl; assumption; apply LW.v0; rfl; rfl; apply ValP.assign; rfl; apply LW.nil; refine thenN ?_; apply CW.condF; rfl; (with_reducible rfl); refine CW.seq ?_; refine CW.region ?_; apply LW.v0; rfl; rfl; apply ValP.fieldAddr; rfl; rfl; apply LW.load; rfl; rfl; apply Known.at; apply FsAt.head; exact Rd.one' rfl; apply LW.v0; rfl; rfl; apply ValP.gtrF; rfl; rfl; omega; apply LW.v0; rfl; rfl; apply ValP.assign; rfl; apply LW.nil; refine thenN ?_; apply CW.condF; rfl; (with_reducible rfl); refine CW.region ?_; apply LW.load; rfl; rfl; apply Known.at; apply FsAt.tail; apply FsAt.tail; apply FsAt.app; apply FsAt.tail; apply FsAt.tail; apply FsAt.tail; apply FsAt.head; exact Rd.one' rfl; apply LW.v0; rfl; rfl; apply ValP.fieldAddr; rfl; rfl; apply LW.load; rfl; rfl; apply Known.at; apply FsAt.head; exact Rd.one' rfl; apply LW.lay1; rfl; infer_instance; infer_instance; rfl; rfl; rfl; rfl; rfl; rfl; intro _)
          (apply LW.append; rfl; rfl; infer_instance; infer_instance; infer_instance; rfl; rfl; rfl; (case hrow => assumption); apply AtSeg.cons; apply AtSeg.cons; apply AtSeg.cons; exact AtSeg.head; apply Known.at; apply FsAt.head; rfl; rfl; rfl; omega; simp only [maxLen]; omega; omega; intro v' seg' hrow'; obtain ⟨p', c', rfl⟩ := hrow'.form; (refine ⟨_, (by (repeat (first | exact AtSeg.head | apply AtSeg.cons | apply AtSeg.app))), ?_⟩); (try simp only [List.cons_append, List.nil_append]))
          (apply LW.store; rfl; rfl; apply SetAt.tail; apply SetAt.tail; apply SetAt.tail; apply SetAt.app; apply SetAt.tail; apply SetAt.tail; apply SetAt.tail; apply SetAt.head; apply Wr.cells; rfl; rfl; simp only [List.size_toArray, List.length_cons, List.length_nil]; omega; simp only [fillC, wc, wrCells, Value.cells, List.toList_toArray, List.setIfInBounds_toArray, List.set_cons_succ, List.set_cons_zero, Nat.reduceAdd, Nat.reduceMul, Nat.zero_add, Nat.mul_one]; rfl; apply LW.nil; refine blkN ?_; refine blkN ?_; apply roundN; apply SetAt.tail; apply SetAt.tail; apply SetAt.tail; apply SetAt.app; apply SetAt.head; apply LW.v0; rfl; rfl; apply ValP.notT; rfl; (with_reducible rfl); apply LW.nil; refine thenN ?_; apply CW.condF; rfl; (with_reducible rfl); refine CW.skip ?_; refine thenN ?_; refine CW.region ?_; apply LW.v0; rfl; rfl; apply ValP.move; rfl; apply LW.v0; rfl; rfl; apply ValP.fieldAddr; rfl; rfl; apply LW.load; rfl; rfl; apply Known.at; apply FsAt.tail; apply FsAt.tail; apply FsAt.head; exact Rd.one' rfl; apply LW.v0; rfl; rfl; apply ValP.addZ; rfl; rfl; omega; apply LW.v0; rfl; rfl; apply ValP.assign; rfl; apply LW.nil; refine blkN ?_; refine thenN ?_; refine CW.region ?_; apply LW.v0; rfl; rfl; apply ValP.move; rfl; apply LW.v0; rfl; rfl; apply ValP.addZL; rfl; rfl; decide; omega; apply LW.v0; rfl; rfl; apply ValP.assign; rfl; apply LW.nil)
          apply thenX
          refine ⟨rfl, ⟨p + y.dt + 1, W ++ [y.nm], _, seg'⟩, ⟨?_, by dsimp only; omega, by rw [List.length_append, List.length_singleton]; dsimp only; omega, .inr (by rw [List.length_append, List.length_singleton]; omega), by rw [List.length_append, scs_app]; exact hrow'⟩, by dsimp only; omega, ⟨rfl, rfl, rfl, trivial⟩, by (apply List.Sublist.cons; apply List.Sublist.cons; apply List.Sublist.cons; exact List.Sublist.refl _)⟩
          rw [← hJ, List.append_assoc, wordsS_cons, hwo]
        · have hne : (⟨y.nm.toArray⟩ : ByteArray) ≠ ⟨([] : List UInt8).toArray⟩ := sv_inj hnm
          obtain ⟨D, hD⟩ : ∃ D, (bs.drop (p + 1)).take y.dt = D := ⟨_, rfl⟩
          have hwo : wordsOf u D = [y.nm, hxs D] := by unfold wordsOf; rw [ho]; exact if_pos hz
          have hmid := hv.midU (i := p + 1) (j := min (p + 1 + y.dt) bs.length) (by omega) (by omega)
          have hsub : (bs.drop (p + 1)).take (min (p + 1 + y.dt) bs.length - (p + 1)) = D := by
            rw [← hD]
            rcases Nat.le_total (p + 1 + y.dt) bs.length with h | h
            · rw [Nat.min_eq_left h, show p + 1 + y.dt - (p + 1) = y.dt by omega]
            · rw [Nat.min_eq_right h, List.take_of_length_le (by rw [List.length_drop]; omega), List.take_of_length_le (by rw [List.length_drop]; omega)]
          rw [hsub] at hmid
          have hDl : D.length ≤ 1000 := by rw [← hD, List.length_take]; omega
          have hDig : ∀ w', Bel w.heap.size [] w w' → Calls Tryd.prog 39 #[cutAt (some ⟨b, off, none⟩) (p + 1) (min (p + 1 + y.dt) bs.length) c0 1] w' (Ret w' (sv (hxs D))) := fun w' hb => digits_calls D hDl _ w' (hmid.bel hb)
          (refine CW.seq ?_; refine CW.seq ?_; refine CW.region ?_; apply LW.v0; rfl; rfl; apply ValP.move; rfl; apply LW.load; rfl; rfl; apply Known.at; apply FsAt.app; apply FsAt.tail; apply FsAt.tail; apply FsAt.head; exact Rd.one' rfl; apply LW.v0; rfl; rfl; apply ValP.lenR; rfl; infer_instance; rfl; apply LW.v0; rfl; rfl; apply ValP.lssT; rfl; rfl; omega; apply LW.nil; refine thenN ?_; apply CW.condT; rfl; (with_reducible rfl); refine CW.skip ?_; refine thenN ?_; refine CW.seq ?_; refine CW.block ?_; refine CW.seq ?_; refine CW.region ?_; apply LW.load; rfl; rfl; apply Known.at; apply FsAt.app; apply FsAt.tail; apply FsAt.tail; apply FsAt.head; exact Rd.one' rfl; apply LW.v0; rfl; rfl; apply ValP.move; rfl; apply LW.v0; rfl; rfl; apply ValP.indexAddrS; rfl; rfl; rfl; omega; apply LW.load; rfl; rfl; exact Known.ext (by assumption) (by simp); assumption; apply LW.callE; rfl; rfl; infer_instance; apply ArgsOk.cons; rfl; exact ArgsOk.nil; intro w _; exact hOf w; apply LW.v0; rfl; rfl; apply ValP.move; rfl; apply LW.v0; rfl; rfl; apply ValP.extractN; rfl; rfl; apply LW.v0; rfl; rfl; apply ValP.extractN; rfl; rfl; apply LW.allocA; rfl; intro _; apply LW.store; rfl; rfl; apply SetAt.head; apply Wr.whole; rfl; rfl; rfl; apply LW.v0; rfl; rfl; apply ValP.assign; rfl; apply LW.nil; refine thenN ?_; refine CW.seq ?_; refine CW.seq ?_; refine CW.region ?_; apply LW.v0; rfl; rfl; apply ValP.move; rfl; apply LW.v0; rfl; rfl; apply ValP.neF; rfl; rfl; omega; apply LW.nil; refine thenN ?_; apply CW.condF; rfl; (with_reducible rfl); refine CW.skip ?_; refine thenN ?_; refine CW.seq ?_; refine CW.seq ?_; refine CW.region ?_; apply LW.v0; rfl; rfl; apply ValP.move; rfl; apply LW.v0; rfl; rfl; apply ValP.move; rfl; apply LW.load; rfl; rfl; apply Known.at; apply FsAt.head; exact Rd.whole rfl)
          apply LW.yield
          rfl
          rfl
          (apply ArgsOk.cons; rfl; apply ArgsOk.cons; rfl; exact ArgsOk.nil)
          exact hrec
          (apply FsAt.tail; apply FsAt.app; apply FsAt.head)
          rfl
          rfl
          (refine CW.seq ?_; refine CW.region ?_; apply LW.v0; rfl; rfl; apply ValP.assign; rfl; apply LW.nil; refine thenN ?_; refine CW.region ?_; apply LW.allocA; rfl; intro _; apply LW.store; rfl; rfl; apply SetAt.head; apply Wr.whole; rfl; rfl; rfl; apply LW.nil; apply beginI; apply SetAt.tail; apply SetAt.tail; apply SetAt.app; apply SetAt.head; refine CW.block ?_; refine CW.block ?_; refine CW.seq ?_; refine CW.region ?_; apply LW.v0; rfl; rfl; apply ValP.fieldAddr; rfl; rfl; apply LW.load; rfl; rfl; apply Known.at; apply FsAt.head; exact Rd.one' rfl; apply LW.v0; rfl; rfl; apply ValP.strEqF; rfl; rfl; assumption; apply LW.v0; rfl; rfl; apply ValP.assign; rfl; apply LW.nil; refine thenN ?_; apply CW.condF; rfl; (with_reducible rfl); refine CW.seq ?_; refine CW.region ?_; apply LW.v0; rfl; rfl; apply ValP.fieldAddr; rfl; rfl; apply LW.load; rfl; rfl; apply Known.at; apply FsAt.head; exact Rd.one' rfl; apply LW.v0; rfl; rfl; apply ValP.gtrT; rfl; rfl; omega; apply LW.v0; rfl; rfl; apply ValP.assign; rfl; apply LW.nil; refine thenN ?_; apply CW.condT; rfl; (with_reducible rfl); apply CW.pre; refine AnyW.any 17 mixed (by decide +kernel) ?_; (try simp only [tsOf_cons, tsOf_nil, tsOf_app]); apply DW.loadO; rfl; rfl; rfl; exact WantT.none; rfl; apply TRead.tail; apply TRead.tail; apply TRead.app; apply TRead.tail; apply TRead.tail; apply TRead.tail; apply TRead.head; exact ancB_nil; exact Rd.one' rfl; apply DW.v0; rfl; rfl; rfl; exact WantT.none; rfl; apply ValP.fieldAddr; rfl; rfl; apply DW.loadO; rfl; rfl; rfl; exact WantT.none; rfl; apply TRead.head; exact ancB_nil; exact Rd.one' rfl; apply DW.loadO; rfl; rfl; rfl; exact WantT.none; rfl; apply TRead.tail; apply TRead.tail; apply TRead.app; apply TRead.tail; apply TRead.tail; apply TRead.tail; apply TRead.tail; apply TRead.head; exact ancB_nil; exact Rd.one' rfl; apply DW.v0; rfl; rfl; rfl; exact WantT.none; rfl; apply ValP.move; rfl; apply DW.v0; rfl; rfl; rfl; exact WantT.none; rfl; apply ValP.addZL; rfl; rfl; decide; omega; apply DW.v0; rfl; rfl; rfl; exact WantT.none; rfl; apply ValP.move; rfl; apply DW.v0; rfl; rfl; rfl; exact WantT.none; rfl; apply ValP.addZL; rfl; rfl; decide; omega; apply DW.v0; rfl; rfl; rfl; exact WantT.none; rfl; apply ValP.fieldAddr; rfl; rfl; apply DW.loadO; rfl; rfl; rfl; exact WantT.none; rfl; apply TRead.head; exact ancB_nil; exact Rd.one' rfl; apply DW.v0; rfl; rfl; rfl; exact WantT.none; rfl; apply ValP.addZ; rfl; rfl; omega; apply DW.loadO; rfl; rfl; rfl; exact WantT.none; rfl; apply TRead.tail; apply TRead.tail; apply TRead.app; apply TRead.tail; apply TRead.tail; apply TRead.tail; apply TRead.tail; apply TRead.head; exact ancB_nil; exact Rd.one' rfl; apply DW.v0; rfl; rfl; rfl; exact WantT.none; rfl; apply ValP.lenR; rfl; infer_instance; rfl; apply DW.v0; rfl; rfl; rfl; exact WantT.none; rfl; apply ValP.minZ; rfl; rfl; apply DW.v0; rfl; rfl; rfl; exact WantT.none; rfl; apply ValP.cutMid; infer_instance; infer_instance; rfl; rfl; rfl; omega; omega; apply DW.callV; rfl; rfl; rfl; exact WantT.none; rfl; infer_instance; apply ArgsOk.cons; rfl; exact ArgsOk.nil; apply RdV.ext; assumption; rfl; exact RdV.nil; intro w _ _; exact hDig w (by assumption))
          obtain ⟨D2, hD2⟩ : ∃ D2, hxs D = D2 := ⟨_, rfl⟩
          rw [hD2]
          rw [hD2] at hwo
          refine DW.new rfl rfl rfl (by (exact WantT.none)) rfl (NewP.buildSN (vs := [(0, sv y.nm), (1, sv D2)]) (c := #[sv y.nm, sv D2]) inferInstance inferInstance (by (apply PartsOk.cons; rfl; apply PartsOk.cons; rfl; exact PartsOk.nil)) rfl rfl (by kernel_rfl) (by kernel_rfl)) fun g => ?_
          ((try simp only [tsOf_cons, tsOf_nil, tsOf_app]); apply DW.nil; simp only [fsOf_cons, fsOf_nil, fsOf_app, fsOf_tsOf, fsOf_new, fsOf_tag])
          (apply LW.append; rfl; rfl; infer_instance; infer_instance; infer_instance; rfl; rfl; rfl; (case hrow => assumption); apply AtSeg.cons; apply AtSeg.cons; apply AtSeg.cons; exact AtSeg.head; apply Known.at; apply FsAt.head; rfl; rfl; rfl; omega; simp only [maxLen]; omega; omega; intro v' seg' hrow'; obtain ⟨p', c', rfl⟩ := hrow'.form; (refine ⟨_, (by (repeat (first | exact AtSeg.head | apply AtSeg.cons | apply AtSeg.app))), ?_⟩); (try simp only [List.cons_append, List.nil_append]))
          (apply LW.store; rfl; rfl; apply SetAt.tail; apply SetAt.tail; apply SetAt.tail; apply SetAt.app; apply SetAt.tail; apply SetAt.tail; apply SetAt.tail; apply SetAt.head; apply Wr.cells; rfl; rfl; simp only [List.size_toArray, List.length_cons, List.length_nil]; omega; simp only [fillC, wc, wrCells, Value.cells, List.toList_toArray, List.setIfInBounds_toArray, List.set_cons_succ, List.set_cons_zero, Nat.reduceAdd, Nat.reduceMul, Nat.zero_add, Nat.mul_one]; rfl; apply LW.nil; refine blkN ?_; refine blkN ?_; apply roundN; apply SetAt.tail; apply SetAt.tail; apply SetAt.tail; apply SetAt.app; apply SetAt.head; apply LW.v0; rfl; rfl; apply ValP.notT; rfl; (with_reducible rfl); apply LW.nil; refine thenN ?_; apply CW.condF; rfl; (with_reducible rfl); refine CW.skip ?_; refine thenN ?_; refine CW.region ?_; apply LW.v0; rfl; rfl; apply ValP.move; rfl; apply LW.v0; rfl; rfl; apply ValP.fieldAddr; rfl; rfl; apply LW.load; rfl; rfl; apply Known.at; apply FsAt.tail; apply FsAt.tail; apply FsAt.head; exact Rd.one' rfl; apply LW.v0; rfl; rfl; apply ValP.addZ; rfl; rfl; omega; apply LW.v0; rfl; rfl; apply ValP.assign; rfl; apply LW.nil; refine blkN ?_; refine thenN ?_; refine CW.region ?_; apply LW.v0; rfl; rfl; apply ValP.move; rfl; apply LW.v0; rfl; rfl; apply ValP.addZL; rfl; rfl; decide; omega; apply LW.v0; rfl; rfl; apply ValP.assign; rfl; apply LW.nil)
          apply thenX
          refine ⟨rfl, ⟨p + y.dt + 1, W ++ [y.nm, D2], _, seg'⟩, ⟨?_, by dsimp only; omega, by rw [List.length_append]; dsimp only [List.length_cons, List.length_nil]; omega, .inr (by rw [List.length_append]; dsimp only [List.length_cons, List.length_nil]; omega), by rw [List.length_append, scs_app]; exact hrow'⟩, by dsimp only; omega, ⟨rfl, rfl, rfl, trivial⟩, by (apply List.Sublist.cons; apply List.Sublist.cons; apply List.Sublist.cons; exact List.Sublist.refl _)⟩
          rw [← hJ, List.append_assoc, wordsS_cons, hD, hwo]
    · rw [segs_end bs p p hge] at hJ
      have hJ' : W = T := by rw [← hJ]; simp [wordsS]
      subst hJ'
      have hJo : ∀ post w', St w [] (seg ++ post) w' → Calls Tryd.prog 40 #[v, sv [32]] w' (Ret w' (sv (joinW W))) := fun post w' hst => Join_calls v W (by omega) w' (IsRow.at (pre := []) hrow hst)
      (refine CW.seq ?_; refine CW.seq ?_; refine CW.region ?_; apply LW.v0; rfl; rfl; apply ValP.move; rfl; apply LW.load; rfl; rfl; apply Known.at; apply FsAt.app; apply FsAt.tail; apply FsAt.tail; apply FsAt.head; exact Rd.one' rfl; apply LW.v0; rfl; rfl; apply ValP.lenR; rfl; infer_instance; rfl; apply LW.v0; rfl; rfl; apply ValP.lssF; rfl; rfl; omega; apply LW.nil; refine thenN ?_; apply CW.condF; rfl; (with_reducible rfl); refine CW.exit ?_; refine thenE ?_; refine thenE ?_; refine blkE rfl ?_)
      apply rangeN
      (exact .inr rfl)
      (exact Shut.nil)
      (apply SetAt.app; apply SetAt.head)
      (refine blkN ?_; refine thenM ?_; refine CW.seq ?_; refine CW.region ?_; apply LW.load; rfl; rfl; apply Known.at; apply FsAt.app; apply FsAt.tail; apply FsAt.tail; apply FsAt.tail; apply FsAt.head; exact Rd.one' rfl; apply LW.callE; rfl; rfl; infer_instance; apply ArgsOk.cons; rfl; apply ArgsOk.cons; rfl; exact ArgsOk.nil; intro w _; exact hJo _ w (by assumption); apply LW.v0; rfl; rfl; apply ValP.assign; rfl; apply LW.v0; rfl; rfl; apply ValP.assign; rfl; apply LW.nil; refine thenN ?_; refine CW.ret ?_)
      (apply finRM; exact .inl rfl; apply Shut.cons; apply SetAt.app; apply SetAt.tail; apply SetAt.head; exact Shut.nil; rfl; rfl; apply ResL.cons; exact Res.tmp rfl; apply ResL.cons; exact Res.tmp rfl; exact ResL.nil)
      rfl
end Go.Proofs.YtbhicncgjplnoaaDoor

/-
  A text's words, one by one: contracts.
  Conditions: none.
-/
namespace Go.Proofs.YtbhicncgjplnoaaDoor
open Go Go.RowKit SL
set_option maxRecDepth 8000
set_option maxHeartbeats 4000000
set_option linter.unusedSimpArgs false
set_option linter.unusedVariables false
attribute [local irreducible] SL.CW SL.LW SL.DW Calls SL.Ret SL.RetG SL.beginQ SL.roundQ SL.rangeQ SL.inQ SL.RW SL.AnyW SL.thenQ SL.thenC SL.thenW SL.blkQ SL.finQ SL.ValP SL.NewP SL.SetP SL.CallP SL.Rd SL.Wr SL.Known
attribute [local irreducible] opOf
/-- The words that are left: behind k of n. -/
def WAt (g n k : Nat) (v : Value) : Prop := ∃ a c, v = .slice a (n - k) c ∧ n - k ≤ c ∧ (k < n → a = some ⟨g, k, none⟩)
abbrev wrB (b : Nat) (wv ov : Value) : Nat × Obj := (b, .cells #[wv, ov] 69 (0, 0))
def nextV (L : List (List UInt8)) (k : Nat) : Value := if k < L.length then .tuple #[sv (L.getD k []), .bool true] else .tuple #[sv [], .bool false]
theorem nextV_eq (L : List (List UInt8)) (k : Nat) : nextV L k = .tuple #[sv (L.getD k []), .bool (decide (k < L.length))] := by
  unfold nextV
  split
  · rename_i h; rw [decide_eq_true h]
  · rename_i h; rw [decide_eq_false h, show L.getD k [] = [] by simp [Nat.le_of_not_lt h]]
def nextK (L : List (List UInt8)) (k : Nat) : Nat := if k < L.length then k + 1 else k
theorem next_calls (w0 : World) (S : List Nat) (b g k : Nat) (wv ov : Value) (L : List (List UInt8)) (cur : Array Value) (E : TypeId) (hcur : cur.toList.take (L.length * 1) = scs L) (hW : WAt g L.length k wv) (fs : Fs) (w : World) (hs : St w0 S (wrB b wv ov :: (g, .cells cur E (0, 0)) :: fs) w) :
    Calls Tryd.prog 41 #[.pointer (some ⟨b, 0, none⟩)] w (fun x w' => ∃ y fs', x = .returned y ∧ (y = nextV L k ∧ ∃ wv', WAt g L.length (nextK L k) wv' ∧ fs' = wrB b wv' ov :: (g, .cells cur E (0, 0)) :: fs) ∧ St w0 S fs' w') := by
  refine calls_inline (args := [_]) Tryd.func41 rfl Tryd.ntmps41 rfl ?_ hs
  obtain ⟨a, c, rfl, hc, ha⟩ := hW
  unfold nextV nextK
  rcases Nat.lt_or_ge k L.length with hlt | hge
  · rw [if_pos hlt, if_pos hlt]
    obtain rfl := ha hlt
    have hrd : Rd Tryd.prog 9 (.cells cur E (0, 0)) (0 + k * 1) (sv (L.getD k [])) := Rd.elem1 (off := 0) (g := fun x => [sv x]) (l := L) (a := L.getD k []) (by rw [List.drop_zero, hcur, scs_flat]) (scs_one L) (by simp [hlt]) rfl
    rw [Nat.zero_add, Nat.mul_one] at hrd
    (refine CW.seq ?_; refine CW.region ?_; apply LW.v0; rfl; rfl; apply ValP.assign; rfl; apply LW.v0; rfl; rfl; apply ValP.assign; rfl; apply LW.nil; refine thenN ?_; refine CW.seq ?_; refine CW.seq ?_; refine CW.region ?_; apply LW.v0; rfl; rfl; apply ValP.move; rfl; apply LW.v0; rfl; rfl; apply ValP.nilCheck; rfl; apply LW.v0; rfl; rfl; apply ValP.fieldAddr; rfl; rfl; apply LW.load; rfl; rfl; apply Known.at; apply FsAt.head; exact Rd.one' rfl; apply LW.v0; rfl; rfl; apply ValP.lenR; rfl; infer_instance; rfl; apply LW.v0; rfl; rfl; apply ValP.eqF; rfl; rfl; omega; apply LW.nil; refine thenN ?_; apply CW.condF; rfl; (with_reducible rfl); refine CW.skip ?_; refine thenN ?_; refine CW.seq ?_; refine CW.region ?_; apply LW.v0; rfl; rfl; apply ValP.move; rfl; apply LW.v0; rfl; rfl; apply ValP.nilCheck; rfl; apply LW.v0; rfl; rfl; apply ValP.fieldAddr; rfl; rfl; apply LW.load; rfl; rfl; apply Known.at; apply FsAt.head; exact Rd.one' rfl; apply LW.v0; rfl; rfl; apply ValP.indexAddrSL; rfl; rfl; decide; omega; apply LW.load; rfl; rfl; apply Known.at; apply FsAt.tail; apply FsAt.head; assumption; apply LW.v0; rfl; rfl; apply ValP.assign; rfl; apply LW.nil; refine thenN ?_; refine CW.seq ?_; refine CW.region ?_; apply LW.v0; rfl; rfl; apply ValP.move; rfl; apply LW.v0; rfl; rfl; apply ValP.move; rfl; apply LW.v0; rfl; rfl; apply ValP.nilCheck; rfl; apply LW.v0; rfl; rfl; apply ValP.fieldAddr; rfl; rfl; apply LW.load; rfl; rfl; apply Known.at; apply FsAt.head; exact Rd.one' rfl; apply LW.v0; rfl; rfl; apply ValP.cutFromL; infer_instance; infer_instance; rfl; rfl; decide; omega; apply LW.v0; rfl; rfl; apply ValP.nilCheck; rfl; apply LW.v0; rfl; rfl; apply ValP.fieldAddr; rfl; rfl; apply LW.store; rfl; rfl; apply SetAt.head; apply Wr.cells; rfl; rfl; simp only [List.size_toArray, List.length_cons, List.length_nil]; omega; simp only [fillC, wc, wrCells, Value.cells, List.toList_toArray, List.setIfInBounds_toArray, List.set_cons_succ, List.set_cons_zero, Nat.reduceAdd, Nat.reduceMul, Nat.zero_add, Nat.mul_one]; rfl; apply LW.nil; refine thenN ?_; refine CW.seq ?_; refine CW.region ?_; apply LW.v0; rfl; rfl; apply ValP.move; rfl; apply LW.v0; rfl; rfl; apply ValP.assign; rfl; apply LW.v0; rfl; rfl; apply ValP.assign; rfl; apply LW.nil; refine thenN ?_; refine CW.ret ?_)
    (apply inI; exact .inl rfl; exact Shut.nil; rfl; apply ResL.cons; exact Res.tmp rfl; apply ResL.cons; exact Res.tmp rfl; exact ResL.nil; rfl)
    refine ⟨rfl, cutAt (some ⟨g, k, none⟩) 1 (L.length - k) c 1, ⟨_, c - 1, by unfold cutAt; rw [show L.length - (k + 1) = L.length - k - 1 by omega], by omega, fun h => ?_⟩, rfl⟩
    rw [if_neg (by omega)]
    rfl
  · rw [if_neg (by omega), if_neg (by omega)]
    have h0 : L.length - k = 0 := by omega
    rw [h0]
    (refine CW.seq ?_; refine CW.region ?_; apply LW.v0; rfl; rfl; apply ValP.assign; rfl; apply LW.v0; rfl; rfl; apply ValP.assign; rfl; apply LW.nil; refine thenN ?_; refine CW.seq ?_; refine CW.seq ?_; refine CW.region ?_; apply LW.v0; rfl; rfl; apply ValP.move; rfl; apply LW.v0; rfl; rfl; apply ValP.nilCheck; rfl; apply LW.v0; rfl; rfl; apply ValP.fieldAddr; rfl; rfl; apply LW.load; rfl; rfl; apply Known.at; apply FsAt.head; exact Rd.one' rfl; apply LW.v0; rfl; rfl; apply ValP.lenR; rfl; infer_instance; rfl; apply LW.v0; rfl; rfl; apply ValP.eqT; rfl; rfl; omega; apply LW.nil; refine thenN ?_; apply CW.condT; rfl; (with_reducible rfl); refine CW.seq ?_; refine CW.region ?_; apply LW.v0; rfl; rfl; apply ValP.assign; rfl; apply LW.v0; rfl; rfl; apply ValP.assign; rfl; apply LW.nil; refine thenN ?_; refine CW.ret ?_; refine thenR ?_)
    (apply inI; exact .inl rfl; exact Shut.nil; rfl; apply ResL.cons; exact Res.tmp rfl; apply ResL.cons; exact Res.tmp rfl; exact ResL.nil; rfl)
    exact ⟨rfl, _, ⟨a, c, by rw [h0], by omega, fun h => absurd h (by omega)⟩, rfl⟩
/-! ### One word -/
theorem calls_sub3 {P : Program} {f : FuncId} {args : Array Value} {w w0 : World} {S : List Nat} {K : Value → Fs → Prop} (h : Calls P f args w (fun x w' => ∃ v fs', x = .returned v ∧ (∃ fs2 fs3, List.Sublist fs2 fs' ∧ fs3.Perm fs2 ∧ K v fs3) ∧ St w0 S fs' w')) :
    Calls P f args w (fun x w' => ∃ v fs', x = .returned v ∧ K v fs' ∧ St w0 S fs' w') :=
  Calls.mono h fun x w' ⟨v, fs', hx, ⟨fs2, fs3, hf, hp, hK⟩, hs⟩ => ⟨v, fs3, hx, hK, St.perm ⟨hs.bel, fun p hp => hs.own p (hf.subset hp), hs.nd.sublist hf⟩ hp⟩
theorem permA {α : Type} {x y : α} {s r : List α} : (x :: y :: (s ++ r)).Perm (s ++ x :: y :: r) :=
  (List.perm_middle.symm.cons x).trans List.perm_middle.symm
structure WS where
  k : Nat
  out : List UInt8
/-- What becomes of a word: whether it can be laid, how many words are taken then, and what is laid. -/
def wordU (L : List (List UInt8)) (x : WS) (s : List UInt8) : Bool × WS :=
  if s.take 1 = [46] then
    (if (hexR (s.drop 1)).2 = true ∧ (hexR (s.drop 1)).1.length = 1 then (true, ⟨x.k, x.out ++ (hexR (s.drop 1)).1⟩) else (false, x))
  else match named s with
    | none => (false, x)
    | some y => if y.dt = 0 then (true, ⟨x.k, x.out ++ [UInt8.ofNat y.c]⟩)
      else ((hexR (L.getD x.k [])).2, ⟨nextK L x.k, x.out ++ [UInt8.ofNat y.c] ++ (hexR (L.getD x.k [])).1⟩)
theorem named_c {s : List UInt8} {y : OpV} (h : named s = some y) : y.c < 256 := by
  unfold named at h
  obtain ⟨b, hb, he⟩ := List.exists_of_findSome?_eq_some h
  unfold hit at he
  split at he
  · rename_i x hx
    split at he
    · cases he; rw [opOf_c hx]; exact List.mem_range.1 hb
    · cases he
  · cases he
theorem hexR_len (s : List UInt8) : 2 * (hexR s).1.length ≤ s.length := by
  unfold hexR
  split
  · exact hxOut_len _ s (Nat.le_refl _)
  · exact Nat.zero_le _
theorem word_calls (w0 : World) (b g : Nat) (wv ov : Value) (L : List (List UInt8)) (x : WS) (s : List UInt8) (hs0 : s.length ≤ 5000) (hd0 : (L.getD x.k []).length ≤ 5000) (ho : x.out.length ≤ 100000) (cur : Array Value) (E : TypeId) (hcur : cur.toList.take (L.length * 1) = scs L) (hW : WAt g L.length x.k wv) (segO fs : Fs) (hrow : IsRow 5 1 ov x.out.length (ucs x.out) segO) (h0 : ov = .slice none 0 0 ∨ 0 < x.out.length) (w : World) (hs : St w0 [] (wrB b wv ov :: (g, .cells cur E (0, 0)) :: (segO ++ fs)) w) :
    Calls Tryd.prog 42 #[.pointer (some ⟨b, 0, none⟩), sv s] w (fun e w' => ∃ y fs', e = .returned y ∧ (y = .bool (wordU L x s).1 ∧ ∃ wv' ov' segO', WAt g L.length (wordU L x s).2.k wv' ∧ IsRow 5 1 ov' (wordU L x s).2.out.length (ucs (wordU L x s).2.out) segO' ∧ (ov' = .slice none 0 0 ∨ 0 < (wordU L x s).2.out.length) ∧ fs' = wrB b wv' ov' :: (g, .cells cur E (0, 0)) :: (segO' ++ fs)) ∧ St w0 [] fs' w') := by
  refine calls_sub3 ?_
  refine calls_inline (args := [_, _]) Tryd.func42 rfl Tryd.ntmps42 rfl ?_ hs
  unfold wordU
  obtain ⟨k, out⟩ := x
  dsimp only at hd0 ho hW hrow h0 ⊢
  by_cases hdot : s.take 1 = [46]
  · rw [if_pos hdot]
    have hsl : 1 ≤ s.length := by
      rcases s with _ | ⟨a, r⟩
      · cases hdot
      · simp
    have hH : ∀ w, Calls Tryd.prog 29 #[sv s, sv [46]] w (Ret w (.bool true)) := fun w => by
      have := Has_calls s w; rwa [decide_eq_true hdot] at this
    (refine CW.seq ?_; refine CW.region ?_; apply LW.v0; rfl; rfl; apply ValP.assign; rfl; apply LW.nil; refine thenN ?_; refine CW.seq ?_; refine CW.seq ?_; refine CW.region ?_; apply LW.v0; rfl; rfl; apply ValP.move; rfl; apply LW.callE; rfl; rfl; infer_instance; apply ArgsOk.cons; rfl; apply ArgsOk.cons; rfl; exact ArgsOk.nil; intro w _; exact hH w; apply LW.nil; refine thenN ?_; apply CW.condT; rfl; (with_reducible rfl); refine CW.seq ?_; refine CW.region ?_; apply LW.v0; rfl; rfl; apply ValP.move; rfl; apply LW.v0; rfl; rfl; apply ValP.cutStrFrom; infer_instance; rfl; rfl; omega)
    refine LW.callR rfl rfl inferInstance (by (apply ArgsOk.cons; rfl; exact ArgsOk.nil)) (fun w' hst => hex_calls (s.drop 1) (by rw [List.length_drop]; omega) w') ?_
    rintro vh gsh ⟨rv, rfl, hrv⟩
    obtain ⟨⟨o, ok⟩, ho⟩ : ∃ r, hexR (s.drop 1) = r := ⟨_, rfl⟩
    rw [ho] at hrv ⊢
    dsimp only at hrv ⊢
    obtain ⟨pr, cr, rfl⟩ := hrv.form
    cases ok with
    | false =>
      rw [if_neg (fun h => by cases h.1)]
      (apply LW.v0; rfl; rfl; apply ValP.move; rfl; apply LW.v0; rfl; rfl; apply ValP.extractN; rfl; rfl; apply LW.v0; rfl; rfl; apply ValP.extractN; rfl; rfl; apply LW.v0; rfl; rfl; apply ValP.assign; rfl; apply LW.v0; rfl; rfl; apply ValP.assign; rfl; apply LW.nil; refine thenN ?_; refine CW.seq ?_; refine CW.seq ?_; refine CW.region ?_; apply LW.v0; rfl; rfl; apply ValP.move; rfl; apply LW.v0; rfl; rfl; apply ValP.notF; rfl; (with_reducible rfl); apply LW.v0; rfl; rfl; apply ValP.move; rfl; apply LW.guardF'; rfl; rfl; simp only [Bool.not_true, Bool.not_false]; rfl; apply LW.guardF'; rfl; rfl; simp only [Bool.not_true, Bool.not_false]; rfl; apply LW.guardF'; rfl; rfl; simp only [Bool.not_true, Bool.not_false]; rfl; apply LW.v0; rfl; rfl; apply ValP.pickT'; rfl; (with_reducible rfl); rfl; apply LW.nil; refine thenN ?_; apply CW.condT; rfl; (with_reducible rfl); refine CW.seq ?_; refine CW.region ?_; apply LW.v0; rfl; rfl; apply ValP.assign; rfl; apply LW.nil; refine thenN ?_; refine CW.ret ?_; refine thenR ?_; refine thenR ?_)
      (apply inI; exact .inl rfl; exact Shut.nil; rfl; apply ResL.cons; exact Res.tmp rfl; exact ResL.nil; rfl)
      exact ⟨_, _, List.sublist_append_right _ _, List.Perm.refl _, rfl, wv, _, segO, hW, hrow, h0, rfl⟩
    | true =>
      by_cases hl1 : o.length = 1
      · rw [if_pos ⟨rfl, hl1⟩]
        obtain ⟨c, rfl⟩ : ∃ c, o = [c] := List.length_eq_one_iff.1 hl1
        obtain ⟨g2, cur2, rfl, rfl, hn2, hm2, hs2, ht2⟩ := hrv.pos (by rw [hl1]; decide)
        rw [hl1]
        rw [hl1] at hn2 ht2
        obtain ⟨pO, cO, rfl⟩ := hrow.form
        have hcr : 0 < cr := by omega
        have hrd : Rd Tryd.prog 5 (.cells cur2 5 (0, 0)) (0 + 0 * 1) (.int .u8 (c.toNat : Int)) := Rd.elem1 (off := 0) (l := [c]) (i := 0) (by rw [List.drop_zero]; exact ht2) (ucs_one [c]) rfl rfl
        (apply LW.v0; rfl; rfl; apply ValP.move; rfl; apply LW.v0; rfl; rfl; apply ValP.extractN; rfl; rfl; apply LW.v0; rfl; rfl; apply ValP.extractN; rfl; rfl; apply LW.v0; rfl; rfl; apply ValP.assign; rfl; apply LW.v0; rfl; rfl; apply ValP.assign; rfl; apply LW.nil; refine thenN ?_; refine CW.seq ?_; refine CW.seq ?_; refine CW.region ?_; apply LW.v0; rfl; rfl; apply ValP.move; rfl; apply LW.v0; rfl; rfl; apply ValP.notT; rfl; (with_reducible rfl); apply LW.v0; rfl; rfl; apply ValP.move; rfl; apply LW.guardT'; rfl; rfl; (with_reducible rfl); apply LW.v0; rfl; rfl; apply ValP.move; rfl; apply LW.guardT'; rfl; rfl; (with_reducible rfl); apply LW.v0; rfl; rfl; apply ValP.lenR; rfl; infer_instance; rfl; apply LW.guardT'; rfl; rfl; (with_reducible rfl); apply LW.v0; rfl; rfl; apply ValP.neF; rfl; rfl; omega; apply LW.v0; rfl; rfl; apply ValP.pickF'; rfl; (with_reducible rfl); rfl; apply LW.nil; refine thenN ?_; apply CW.condF; rfl; (with_reducible rfl); refine CW.skip ?_; refine thenN ?_; refine CW.seq ?_)
        apply CW.pre
        (refine AnyW.anyM [(9, fun v gs => IsRow 5 1 v (out.length + 1) (ucs out ++ ucs [c]) gs)] 10 mixed (by decide +kernel) ?_)
        ((try simp only [tsOf_cons, tsOf_nil, tsOf_app]); apply DW.v0; rfl; rfl; rfl; exact WantT.none; rfl; apply ValP.move; rfl; apply DW.v0; rfl; rfl; rfl; exact WantT.none; rfl; apply ValP.move; rfl; apply DW.v0; rfl; rfl; rfl; exact WantT.none; rfl; apply ValP.nilCheck; rfl; apply DW.v0; rfl; rfl; rfl; exact WantT.none; rfl; apply ValP.fieldAddr; rfl; rfl; apply DW.loadO; rfl; rfl; rfl; exact WantT.none; rfl; apply TRead.tail; apply TRead.head; exact ancB_nil; exact Rd.one' rfl; apply DW.v0; rfl; rfl; rfl; exact WantT.none; rfl; apply ValP.move; rfl; apply DW.v0; rfl; rfl; rfl; exact WantT.none; rfl; apply ValP.indexAddrSL; rfl; rfl; decide; omega; apply DW.loadO; rfl; rfl; rfl; exact WantT.none; rfl; apply TRead.head; exact ancB_nil; assumption; apply DW.lay1; rfl; rfl; rfl; exact WantT.none; infer_instance; infer_instance; rfl; rfl; rfl; rfl; rfl; rfl; intro _)
        refine DW.appendV (news := ucs [c]) rfl rfl rfl (by (exact WantT.none)) rfl inferInstance inferInstance inferInstance rfl rfl rfl hrow h0 (by (apply TOut.cons; apply TOut.cons; apply TOut.cons; apply TOut.cons; exact TOut.old)) (by (apply RdV.own; omega; apply TRead.head; kernel_rfl; exact RdV.nil)) (fun w' hbel hus => row_cells (hus _ (List.Mem.head _)) rfl rfl (by decide)) (ucs_cells _) (by simp only [maxLen]; omega) (by omega) ?_
        intro v3 seg3 hrow3
        obtain ⟨p3, c3, rfl⟩ := hrow3.form
        ((try simp only [tsOf_cons, tsOf_nil, tsOf_app]); apply DW.nil; simp only [fsOf_cons, fsOf_nil, fsOf_app, fsOf_tsOf, fsOf_new, fsOf_tag])
        (apply LW.v0; rfl; rfl; apply ValP.nilCheck; rfl; apply LW.v0; rfl; rfl; apply ValP.fieldAddr; rfl; rfl; apply LW.store; rfl; rfl; apply SetAt.app; apply SetAt.tail; apply SetAt.tail; apply SetAt.head; apply Wr.cells; rfl; rfl; simp only [List.size_toArray, List.length_cons, List.length_nil]; omega; simp only [fillC, wc, wrCells, Value.cells, List.toList_toArray, List.setIfInBounds_toArray, List.set_cons_succ, List.set_cons_zero, Nat.reduceAdd, Nat.reduceMul, Nat.zero_add, Nat.mul_one]; rfl; apply LW.nil; refine thenN ?_; refine CW.seq ?_; refine CW.region ?_; apply LW.v0; rfl; rfl; apply ValP.assign; rfl; apply LW.nil; refine thenN ?_; refine CW.ret ?_; refine thenR ?_)
        (apply inI; exact .inl rfl; exact Shut.nil; rfl; apply ResL.cons; exact Res.tmp rfl; exact ResL.nil; rfl)
        exact ⟨_, _, by (apply List.Sublist.append_left; apply List.Sublist.cons; apply List.Sublist.cons; exact List.Sublist.refl _), permA, rfl, wv, _, seg3, hW, by rw [List.length_append, ucs_app]; exact hrow3, .inr (by rw [List.length_append, List.length_singleton]; omega), rfl⟩
      · rw [if_neg (fun h => hl1 h.2)]
        (apply LW.v0; rfl; rfl; apply ValP.move; rfl; apply LW.v0; rfl; rfl; apply ValP.extractN; rfl; rfl; apply LW.v0; rfl; rfl; apply ValP.extractN; rfl; rfl; apply LW.v0; rfl; rfl; apply ValP.assign; rfl; apply LW.v0; rfl; rfl; apply ValP.assign; rfl; apply LW.nil; refine thenN ?_; refine CW.seq ?_; refine CW.seq ?_; refine CW.region ?_; apply LW.v0; rfl; rfl; apply ValP.move; rfl; apply LW.v0; rfl; rfl; apply ValP.notT; rfl; (with_reducible rfl); apply LW.v0; rfl; rfl; apply ValP.move; rfl; apply LW.guardT'; rfl; rfl; (with_reducible rfl); apply LW.v0; rfl; rfl; apply ValP.move; rfl; apply LW.guardT'; rfl; rfl; (with_reducible rfl); apply LW.v0; rfl; rfl; apply ValP.lenR; rfl; infer_instance; rfl; apply LW.guardT'; rfl; rfl; (with_reducible rfl); apply LW.v0; rfl; rfl; apply ValP.neT; rfl; rfl; omega; apply LW.v0; rfl; rfl; apply ValP.pickF'; rfl; (with_reducible rfl); rfl; apply LW.nil; refine thenN ?_; apply CW.condT; rfl; (with_reducible rfl); refine CW.seq ?_; refine CW.region ?_; apply LW.v0; rfl; rfl; apply ValP.assign; rfl; apply LW.nil; refine thenN ?_; refine CW.ret ?_; refine thenR ?_; refine thenR ?_)
        (apply inI; exact .inl rfl; exact Shut.nil; rfl; apply ResL.cons; exact Res.tmp rfl; exact ResL.nil; rfl)
        exact ⟨_, _, List.sublist_append_right _ _, List.Perm.refl _, rfl, wv, _, segO, hW, hrow, h0, rfl⟩
  · rw [if_neg hdot]
    have hH : ∀ w, Calls Tryd.prog 29 #[sv s, sv [46]] w (Ret w (.bool false)) := fun w => by
      have := Has_calls s w; rwa [decide_eq_false hdot] at this
    have hN := Named_calls s
    cases hn : named s with
    | none =>
      rw [hn] at hN
      have hNm : ∀ w, Calls Tryd.prog 13 #[sv s] w (Ret w (.tuple #[.agg (opc zeroOp), .int .i64 4])) := hN
      dsimp only
      (refine CW.seq ?_; refine CW.region ?_; apply LW.v0; rfl; rfl; apply ValP.assign; rfl; apply LW.nil; refine thenN ?_; refine CW.seq ?_; refine CW.seq ?_; refine CW.region ?_; apply LW.v0; rfl; rfl; apply ValP.move; rfl; apply LW.callE; rfl; rfl; infer_instance; apply ArgsOk.cons; rfl; apply ArgsOk.cons; rfl; exact ArgsOk.nil; intro w _; exact hH w; apply LW.nil; refine thenN ?_; apply CW.condF; rfl; (with_reducible rfl); refine CW.skip ?_; refine thenN ?_; refine CW.seq ?_; refine CW.region ?_; apply LW.v0; rfl; rfl; apply ValP.move; rfl; apply LW.callE; rfl; rfl; infer_instance; apply ArgsOk.cons; rfl; exact ArgsOk.nil; intro w _; exact hNm w; apply LW.v0; rfl; rfl; apply ValP.move; rfl; apply LW.v0; rfl; rfl; apply ValP.extractN; rfl; rfl; apply LW.v0; rfl; rfl; apply ValP.extractN; rfl; rfl; apply LW.allocA; rfl; intro _; apply LW.store; rfl; rfl; apply SetAt.head; apply Wr.whole; rfl; rfl; rfl; apply LW.v0; rfl; rfl; apply ValP.assign; rfl; apply LW.nil; refine thenN ?_; refine CW.seq ?_; refine CW.seq ?_; refine CW.region ?_; apply LW.v0; rfl; rfl; apply ValP.move; rfl; apply LW.v0; rfl; rfl; apply ValP.neT; rfl; rfl; omega; apply LW.nil; refine thenN ?_; apply CW.condT; rfl; (with_reducible rfl); refine CW.seq ?_; refine CW.region ?_; apply LW.v0; rfl; rfl; apply ValP.assign; rfl; apply LW.nil; refine thenN ?_; refine CW.ret ?_; refine thenR ?_)
      (apply inI; exact .inl rfl; exact Shut.nil; rfl; apply ResL.cons; exact Res.tmp rfl; exact ResL.nil; rfl)
      exact ⟨_, _, List.sublist_cons_self _ _, List.Perm.refl _, rfl, wv, _, segO, hW, hrow, h0, rfl⟩
    | some y =>
      rw [hn] at hN
      have hNm : ∀ w, Calls Tryd.prog 13 #[sv s] w (Ret w (.tuple #[.agg (opc y), .int .i64 0])) := hN
      dsimp only
      obtain ⟨pO, cO, rfl⟩ := hrow.form
      (refine CW.seq ?_; refine CW.region ?_; apply LW.v0; rfl; rfl; apply ValP.assign; rfl; apply LW.nil; refine thenN ?_; refine CW.seq ?_; refine CW.seq ?_; refine CW.region ?_; apply LW.v0; rfl; rfl; apply ValP.move; rfl; apply LW.callE; rfl; rfl; infer_instance; apply ArgsOk.cons; rfl; apply ArgsOk.cons; rfl; exact ArgsOk.nil; intro w _; exact hH w; apply LW.nil; refine thenN ?_; apply CW.condF; rfl; (with_reducible rfl); refine CW.skip ?_; refine thenN ?_; refine CW.seq ?_; refine CW.region ?_; apply LW.v0; rfl; rfl; apply ValP.move; rfl; apply LW.callE; rfl; rfl; infer_instance; apply ArgsOk.cons; rfl; exact ArgsOk.nil; intro w _; exact hNm w; apply LW.v0; rfl; rfl; apply ValP.move; rfl; apply LW.v0; rfl; rfl; apply ValP.extractN; rfl; rfl; apply LW.v0; rfl; rfl; apply ValP.extractN; rfl; rfl; apply LW.allocA; rfl; intro _; apply LW.store; rfl; rfl; apply SetAt.head; apply Wr.whole; rfl; rfl; rfl; apply LW.v0; rfl; rfl; apply ValP.assign; rfl; apply LW.nil; refine thenN ?_; refine CW.seq ?_; refine CW.seq ?_; refine CW.region ?_; apply LW.v0; rfl; rfl; apply ValP.move; rfl; apply LW.v0; rfl; rfl; apply ValP.neF; rfl; rfl; omega; apply LW.nil; refine thenN ?_; apply CW.condF; rfl; (with_reducible rfl); refine CW.skip ?_; refine thenN ?_; refine CW.seq ?_)
      apply CW.pre
      have hyc : [Value.int .u8 (y.c : Int)] = ucs [UInt8.ofNat y.c] := by
        show _ = [Value.int .u8 (((UInt8.ofNat y.c).toNat : Nat) : Int)]
        rw [UInt8.toNat_ofNat', Nat.mod_eq_of_lt (named_c hn)]
      (refine AnyW.anyM [(8, fun v gs => IsRow 5 1 v (out.length + 1) (ucs out ++ [Value.int .u8 (y.c : Int)]) gs)] 9 mixed (by decide +kernel) ?_)
      ((try simp only [tsOf_cons, tsOf_nil, tsOf_app]); apply DW.v0; rfl; rfl; rfl; exact WantT.none; rfl; apply ValP.move; rfl; apply DW.v0; rfl; rfl; rfl; exact WantT.none; rfl; apply ValP.move; rfl; apply DW.v0; rfl; rfl; rfl; exact WantT.none; rfl; apply ValP.nilCheck; rfl; apply DW.v0; rfl; rfl; rfl; exact WantT.none; rfl; apply ValP.fieldAddr; rfl; rfl; apply DW.loadO; rfl; rfl; rfl; exact WantT.none; rfl; apply TRead.tail; apply TRead.head; exact ancB_nil; exact Rd.one' rfl; apply DW.v0; rfl; rfl; rfl; exact WantT.none; rfl; apply ValP.fieldAddr; rfl; rfl; apply DW.loadO; rfl; rfl; rfl; exact WantT.none; rfl; apply TRead.head; exact ancB_nil; exact Rd.one' rfl; apply DW.lay1; rfl; rfl; rfl; exact WantT.none; infer_instance; infer_instance; rfl; rfl; rfl; rfl; rfl; rfl; intro _)
      refine DW.appendV (news := [Value.int .u8 (y.c : Int)]) rfl rfl rfl (by (exact WantT.none)) rfl inferInstance inferInstance inferInstance rfl rfl rfl hrow h0 (by (apply TOut.cons; apply TOut.cons; apply TOut.cons; apply TOut.cons; exact TOut.old)) (by (apply RdV.own; omega; apply TRead.head; kernel_rfl; exact RdV.nil)) (fun w' hbel hus => row_cells (hus _ (List.Mem.head _)) rfl rfl (by decide)) (fun u hu => by obtain rfl := List.mem_singleton.1 hu; rfl) (by simp only [maxLen]; omega) (by omega) ?_
      intro v3 seg3 hrow3
      obtain ⟨p3, c3, rfl⟩ := hrow3.form
      rw [hyc, ← ucs_app] at hrow3
      have hl3 : (out ++ [UInt8.ofNat y.c]).length = out.length + 1 := by rw [List.length_append, List.length_singleton]
      by_cases hz : y.dt = 0
      · rw [if_pos hz]
        ((try simp only [tsOf_cons, tsOf_nil, tsOf_app]); apply DW.nil; simp only [fsOf_cons, fsOf_nil, fsOf_app, fsOf_tsOf, fsOf_new, fsOf_tag])
        (apply LW.v0; rfl; rfl; apply ValP.nilCheck; rfl; apply LW.v0; rfl; rfl; apply ValP.fieldAddr; rfl; rfl; apply LW.store; rfl; rfl; apply SetAt.app; apply SetAt.tail; apply SetAt.tail; apply SetAt.head; apply Wr.cells; rfl; rfl; simp only [List.size_toArray, List.length_cons, List.length_nil]; omega; simp only [fillC, wc, wrCells, Value.cells, List.toList_toArray, List.setIfInBounds_toArray, List.set_cons_succ, List.set_cons_zero, Nat.reduceAdd, Nat.reduceMul, Nat.zero_add, Nat.mul_one]; rfl; apply LW.nil; refine thenN ?_; refine CW.seq ?_; refine CW.seq ?_; refine CW.region ?_; apply LW.v0; rfl; rfl; apply ValP.fieldAddr; rfl; rfl; apply LW.load; rfl; rfl; apply Known.at; apply FsAt.app; apply FsAt.tail; apply FsAt.head; exact Rd.one' rfl; apply LW.v0; rfl; rfl; apply ValP.eqT; rfl; rfl; omega; apply LW.nil; refine thenN ?_; apply CW.condT; rfl; (with_reducible rfl); refine CW.seq ?_; refine CW.region ?_; apply LW.v0; rfl; rfl; apply ValP.assign; rfl; apply LW.nil; refine thenN ?_; refine CW.ret ?_; refine thenR ?_)
        (apply inI; exact .inl rfl; exact Shut.nil; rfl; apply ResL.cons; exact Res.tmp rfl; exact ResL.nil; rfl)
        exact ⟨_, _, by (apply List.Sublist.append_left; apply List.Sublist.cons; apply List.Sublist.cons; exact List.Sublist.refl _), permA, rfl, wv, _, seg3, hW, by rw [hl3]; exact hrow3, .inr (by rw [hl3]; omega), rfl⟩
      · rw [if_neg hz]
        ((try simp only [tsOf_cons, tsOf_nil, tsOf_app]); apply DW.nil; simp only [fsOf_cons, fsOf_nil, fsOf_app, fsOf_tsOf, fsOf_new, fsOf_tag])
        (apply LW.v0; rfl; rfl; apply ValP.nilCheck; rfl; apply LW.v0; rfl; rfl; apply ValP.fieldAddr; rfl; rfl; apply LW.store; rfl; rfl; apply SetAt.app; apply SetAt.tail; apply SetAt.tail; apply SetAt.head; apply Wr.cells; rfl; rfl; simp only [List.size_toArray, List.length_cons, List.length_nil]; omega; simp only [fillC, wc, wrCells, Value.cells, List.toList_toArray, List.setIfInBounds_toArray, List.set_cons_succ, List.set_cons_zero, Nat.reduceAdd, Nat.reduceMul, Nat.zero_add, Nat.mul_one]; rfl; apply LW.nil; refine thenN ?_; refine CW.seq ?_; refine CW.seq ?_; refine CW.region ?_; apply LW.v0; rfl; rfl; apply ValP.fieldAddr; rfl; rfl; apply LW.load; rfl; rfl; apply Known.at; apply FsAt.app; apply FsAt.tail; apply FsAt.head; exact Rd.one' rfl; apply LW.v0; rfl; rfl; apply ValP.eqF; rfl; rfl; omega; apply LW.nil; refine thenN ?_; apply CW.condF; rfl; (with_reducible rfl); refine CW.skip ?_; refine thenN ?_; refine CW.seq ?_; refine CW.region ?_; apply LW.v0; rfl; rfl; apply ValP.move; rfl; apply LW.v0; rfl; rfl; apply ValP.nilCheck; rfl; apply LW.v0; rfl; rfl; apply ValP.fieldAddr; rfl; rfl)
        refine LW.drop (seg3 ++ wrB b wv (.slice p3 (out.length + 1) c3) :: (g, .cells cur E (0, 0)) :: fs) (by (apply List.Sublist.append_left; apply List.Sublist.cons; apply List.Sublist.cons; exact List.Sublist.refl _)) ?_
        refine LW.perm (fs' := wrB b wv (.slice p3 (out.length + 1) c3) :: (g, .cells cur E (0, 0)) :: (seg3 ++ fs)) permA ?_
        refine LW.callStF rfl rfl inferInstance (by (apply ArgsOk.cons; rfl; exact ArgsOk.nil)) rfl (fun w' hst => next_calls w0 [] b g k wv _ L cur E hcur hW _ w' hst) ?_
        rintro vn fs' ⟨rfl, wv', hW', rfl⟩
        rw [nextV_eq]
        obtain ⟨D, hD⟩ : ∃ D, L.getD k [] = D := ⟨_, rfl⟩
        rw [hD] at hd0 ⊢
        (apply LW.v0; rfl; rfl; apply ValP.move; rfl; apply LW.v0; rfl; rfl; apply ValP.extractN; rfl; rfl; apply LW.v0; rfl; rfl; apply ValP.extractN; rfl; rfl; apply LW.v0; rfl; rfl; apply ValP.assign; rfl; apply LW.v0; rfl; rfl; apply ValP.assign; rfl; apply LW.nil; refine thenN ?_; refine CW.seq ?_; refine CW.region ?_; apply LW.v0; rfl; rfl; apply ValP.move; rfl)
        refine LW.callR rfl rfl inferInstance (by (apply ArgsOk.cons; rfl; exact ArgsOk.nil)) (fun w' hst => hex_calls D (by omega) w') ?_
        rintro vh gsh ⟨rv, rfl, hrv⟩
        have hHl := hexR_len D
        obtain ⟨⟨o, ok⟩, ho⟩ : ∃ r, hexR D = r := ⟨_, rfl⟩
        rw [ho] at hrv hHl ⊢
        dsimp only at hrv hHl ⊢
        obtain ⟨pr, cr, rfl⟩ := hrv.form
        have hrow := hrow3
        rw [← hl3] at hrow
        rw [← hl3]
        (apply LW.v0; rfl; rfl; apply ValP.move; rfl; apply LW.v0; rfl; rfl; apply ValP.extractN; rfl; rfl; apply LW.v0; rfl; rfl; apply ValP.extractN; rfl; rfl; apply LW.v0; rfl; rfl; apply ValP.assign; rfl; apply LW.v0; rfl; rfl; apply ValP.assign; rfl; apply LW.nil; refine thenN ?_; refine CW.seq ?_; refine CW.region ?_; apply LW.v0; rfl; rfl; apply ValP.move; rfl; apply LW.v0; rfl; rfl; apply ValP.move; rfl; apply LW.v0; rfl; rfl; apply ValP.nilCheck; rfl; apply LW.v0; rfl; rfl; apply ValP.fieldAddr; rfl; rfl; apply LW.load; rfl; rfl; apply Known.at; apply FsAt.app; apply FsAt.head; exact Rd.one' rfl; apply LW.v0; rfl; rfl; apply ValP.move; rfl)
        (apply LW.appendAny; (case hrow => assumption); rfl; rfl; infer_instance; infer_instance; infer_instance; rfl; rfl; rfl; apply AtSeg.app; apply AtSeg.cons; apply AtSeg.cons; exact AtSeg.head)
        · exact fun w' hs => IsRow.at (pre := []) hrv hs
        · exact ucs_cells _
        · simp only [maxLen]; omega
        · omega
        intro v5 seg5 hrow5
        refine ⟨_, (by (apply AtSeg.app; apply AtSeg.cons; apply AtSeg.cons; exact AtSeg.head)), ?_⟩
        obtain ⟨p5, c5, rfl⟩ := hrow5.form
        (apply LW.v0; rfl; rfl; apply ValP.nilCheck; rfl; apply LW.v0; rfl; rfl; apply ValP.fieldAddr; rfl; rfl; apply LW.store; rfl; rfl; apply SetAt.app; apply SetAt.head; apply Wr.cells; rfl; rfl; simp only [List.size_toArray, List.length_cons, List.length_nil]; omega; simp only [fillC, wc, wrCells, Value.cells, List.toList_toArray, List.setIfInBounds_toArray, List.set_cons_succ, List.set_cons_zero, Nat.reduceAdd, Nat.reduceMul, Nat.zero_add, Nat.mul_one]; rfl; apply LW.nil; refine thenN ?_; refine CW.seq ?_; refine CW.region ?_; apply LW.v0; rfl; rfl; apply ValP.move; rfl; apply LW.v0; rfl; rfl; apply ValP.assign; rfl; apply LW.nil; refine thenN ?_; refine CW.ret ?_)
        (apply inI; exact .inl rfl; exact Shut.nil; rfl; apply ResL.cons; exact Res.tmp rfl; exact ResL.nil; rfl)
        exact ⟨_, _, List.sublist_append_right _ _, List.Perm.refl _, rfl, wv', _, seg5, hW', by rw [show (out ++ [UInt8.ofNat y.c] ++ o).length = (out ++ [UInt8.ofNat y.c]).length + o.length from List.length_append, ucs_app (out ++ [UInt8.ofNat y.c])]; exact hrow5, .inr (by rw [List.length_append, hl3]; omega), rfl⟩
/-! ### A text -/
def wordsT (s : List UInt8) : List (List UInt8) := if s = [] then [] else spl s
/-- All words behind the first k, laid. -/
def layU (L : List (List UInt8)) : Nat → WS → Option (List UInt8)
  | 0, _ => none
  | n + 1, x => if x.k < L.length then
      (if (wordU L ⟨x.k + 1, x.out⟩ (L.getD x.k [])).1 = true then layU L n (wordU L ⟨x.k + 1, x.out⟩ (L.getD x.k [])).2 else none)
    else some x.out
theorem wordU_k (L : List (List UInt8)) (x : WS) (s : List UInt8) : x.k ≤ (wordU L x s).2.k := by
  unfold wordU nextK
  split
  · split
    · exact Nat.le_refl _
    · exact Nat.le_refl _
  · split
    · exact Nat.le_refl _
    · split
      · exact Nat.le_refl _
      · dsimp only; split
        · exact Nat.le_succ _
        · exact Nat.le_refl _
def parseU (s : List UInt8) : Option (List UInt8) := if s.length ≤ 4000 then
    (match layU (wordsT s) ((wordsT s).length + 1) ⟨0, []⟩ with
     | some o => if o.length ≤ 200 ∧ textL o = s then some o else none
     | none => none) else none
end Go.Proofs.YtbhicncgjplnoaaDoor

/-
  The program of a text: contracts.
  Conditions: none.
-/
namespace Go.Proofs.YtbhicncgjplnoaaDoor
open Go Go.RowKit SL
set_option maxRecDepth 8000
set_option maxHeartbeats 4000000
set_option linter.unusedSimpArgs false
set_option linter.unusedVariables false
attribute [local irreducible] SL.CW SL.LW SL.DW Calls SL.Ret SL.RetG SL.beginQ SL.roundQ SL.rangeQ SL.inQ SL.RW SL.AnyW SL.thenQ SL.thenC SL.thenW SL.blkQ SL.finQ SL.ValP SL.NewP SL.SetP SL.CallP SL.Rd SL.Wr SL.Known
attribute [local irreducible] opOf named
structure PX where
  x : WS
  wv : Value
  ov : Value
  seg : Fs
theorem lenS_drop (L : List (List UInt8)) (k : Nat) (h : k < L.length) : lenS (L.drop k) = (L.getD k []).length + 1 + lenS (L.drop (k + 1)) := by
  rw [List.drop_eq_getElem_cons h, show L.getD k [] = L[k] by simp [h]]
  rfl
theorem wordU_out (L : List (List UInt8)) (x : WS) (s : List UInt8) : (wordU L x s).2.out.length + lenS (L.drop (wordU L x s).2.k) ≤ x.out.length + 1 + lenS (L.drop x.k) := by
  unfold wordU
  split
  · split
    · rename_i h; rw [List.length_append, h.2]; dsimp only; omega
    · dsimp only; omega
  · split
    · dsimp only; omega
    · split
      · rw [List.length_append]; simp
      · have h1 := hexR_len (L.getD x.k [])
        dsimp only
        unfold nextK
        split
        · rename_i h
          have := lenS_drop L x.k h
          rw [List.length_append, List.length_append, List.length_singleton]
          omega
        · rename_i h
          rw [show L.getD x.k [] = [] by simp [Nat.le_of_not_lt h]] at h1 ⊢
          rw [List.length_append, List.length_append, List.length_singleton]
          simp at h1
          omega
theorem spl_sum : ∀ s : List UInt8, lenS (spl s) = s.length + 1
  | [] => rfl
  | c :: r => by
    have ih := spl_sum r
    unfold spl
    split
    · simp only [lenS, List.map_cons, List.sum_cons, List.length_nil, List.length_cons] at *; omega
    · split
      · rename_i he; exact absurd he (spl_ne r)
      · rename_i p ps he
        rw [he] at ih
        simp only [lenS, List.map_cons, List.sum_cons, List.length_cons] at *; omega
def ParseR (s : List UInt8) (v : Value) (gs : Fs) : Prop := match parseU s with
  | some o => ∃ rv, v = .tuple #[rv, .int .i64 0] ∧ IsRow 5 1 rv o.length (ucs o) gs
  | none => v = .tuple #[.slice none 0 0, .int .i64 210] ∧ gs = []
theorem Parse_calls (s : List UInt8) (w : World) : Calls Tryd.prog 17 #[sv s] w (RetG w [] (ParseR s)) := by
  unfold ParseR parseU
  refine enter (args := [_]) _ [] [] Tryd.func17 rfl Tryd.ntmps17 rfl (by simp) .nil ?_
  rcases Nat.lt_or_ge 4000 s.length with hgt | hle
  · rw [if_neg (by omega)]
    (refine CW.seq ?_; refine CW.region ?_; apply LW.v0; rfl; rfl; apply ValP.assign; rfl; apply LW.v0; rfl; rfl; apply ValP.assign; rfl; apply LW.nil; refine thenN ?_; refine CW.seq ?_; refine CW.seq ?_; refine CW.region ?_; apply LW.v0; rfl; rfl; apply ValP.move; rfl; apply LW.v0; rfl; rfl; apply ValP.lenStr; rfl; infer_instance; rfl; apply LW.v0; rfl; rfl; apply ValP.gtrT; rfl; rfl; omega; apply LW.nil; refine thenN ?_; apply CW.condT; rfl; (with_reducible rfl); refine CW.seq ?_; refine CW.region ?_; apply LW.v0; rfl; rfl; apply ValP.assign; rfl; apply LW.v0; rfl; rfl; apply ValP.assign; rfl; apply LW.nil; refine thenN ?_; refine CW.ret ?_; refine thenR ?_)
    apply finM []; (exact .inl rfl); (exact Shut.nil); rfl; (apply ResL.cons; exact Res.tmp rfl; apply ResL.cons; exact Res.tmp rfl; exact ResL.nil); exact List.nil_sublist _
    exact ⟨rfl, rfl⟩
  · rw [if_pos hle]
    (refine CW.seq ?_; refine CW.region ?_; apply LW.v0; rfl; rfl; apply ValP.assign; rfl; apply LW.v0; rfl; rfl; apply ValP.assign; rfl; apply LW.nil; refine thenN ?_; refine CW.seq ?_; refine CW.seq ?_; refine CW.region ?_; apply LW.v0; rfl; rfl; apply ValP.move; rfl; apply LW.v0; rfl; rfl; apply ValP.lenStr; rfl; infer_instance; rfl; apply LW.v0; rfl; rfl; apply ValP.gtrF; rfl; rfl; omega; apply LW.nil; refine thenN ?_; apply CW.condF; rfl; (with_reducible rfl); refine CW.skip ?_; refine thenN ?_; refine CW.seq ?_; refine CW.region ?_; apply LW.v0; rfl; rfl; apply ValP.move; rfl)
    refine LW.callR rfl rfl inferInstance (by (apply ArgsOk.cons; rfl; apply ArgsOk.cons; rfl; exact ArgsOk.nil)) (fun w' hst => Split_calls s (by omega) w') ?_
    intro vS gsS hS
    have hsl := spl_len s
    have hss := spl_sum s
    unfold SplR at hS
    obtain ⟨pS, cS, rfl⟩ := hS.form
    obtain ⟨g, cur, rfl, rfl, hnS, hmS, hsS, htS⟩ := hS.pos (by omega)
    by_cases hs0 : s = []
    · have hse : (⟨s.toArray⟩ : ByteArray) = ⟨([] : List UInt8).toArray⟩ := by rw [hs0]
      obtain ⟨L, hL⟩ : ∃ L, wordsT s = L := ⟨_, rfl⟩
      have hL0 : L = [] := by rw [← hL]; exact if_pos hs0
      have hcur : cur.toList.take (L.length * 1) = scs L := by rw [hL0]; rfl
      have hsum : lenS L ≤ 4001 := by rw [hL0]; decide
      rw [hL]
      obtain ⟨R, hR⟩ : ∃ R, layU L (L.length + 1) ⟨0, []⟩ = R := ⟨_, rfl⟩
      rw [hR]
      (apply LW.v0; rfl; rfl; apply ValP.buildT; infer_instance; infer_instance; apply PartsOk.cons; rfl; exact PartsOk.nil; rfl; simp only [fillP, wrCells, Value.cells, List.getElem?_cons_zero, List.getElem?_cons_succ, List.toList_toArray, List.setIfInBounds_toArray, List.set_cons_succ, List.set_cons_zero, Nat.reduceAdd, Nat.zero_add]; rfl; apply LW.v0; rfl; rfl; apply ValP.buildT; infer_instance; infer_instance; apply PartsOk.cons; rfl; exact PartsOk.nil; rfl; simp only [fillP, wrCells, Value.cells, List.getElem?_cons_zero, List.getElem?_cons_succ, List.toList_toArray, List.setIfInBounds_toArray, List.set_cons_succ, List.set_cons_zero, Nat.reduceAdd, Nat.zero_add]; rfl; apply LW.boxA; rfl; rfl; intro _; apply LW.v0; rfl; rfl; apply ValP.assign; rfl; apply LW.nil; refine thenN ?_; refine CW.seq ?_; refine CW.seq ?_; refine CW.region ?_; apply LW.v0; rfl; rfl; apply ValP.move; rfl; apply LW.v0; rfl; rfl; apply ValP.strEqT; rfl; rfl; assumption; apply LW.nil; refine thenN ?_; apply CW.condT; rfl; (with_reducible rfl); refine CW.region ?_; apply LW.v0; rfl; rfl; apply ValP.move; rfl; apply LW.v0; rfl; rfl; apply ValP.nilCheck; rfl; apply LW.v0; rfl; rfl; apply ValP.fieldAddr; rfl; rfl; apply LW.v0; rfl; rfl; apply ValP.fieldAddr; rfl; rfl; apply LW.store; rfl; rfl; apply SetAt.head; apply Wr.cells; rfl; rfl; simp only [List.size_toArray, List.length_cons, List.length_nil]; omega; simp only [fillC, wc, wrCells, Value.cells, List.toList_toArray, List.setIfInBounds_toArray, List.set_cons_succ, List.set_cons_zero, Nat.reduceAdd, Nat.reduceMul, Nat.zero_add, Nat.mul_one]; rfl; apply LW.nil; refine thenN ?_; refine CW.seq ?_; refine CW.seq ?_; refine CW.region ?_; apply LW.v0; rfl; rfl; apply ValP.move; rfl; apply LW.v0; rfl; rfl; apply ValP.nilCheck; rfl; apply LW.v0; rfl; rfl; apply ValP.fieldAddr; rfl; rfl)
      have hW0 : WAt g L.length 0 (.slice none 0 0) := ⟨none, 0, by rw [hL0]; rfl, by rw [hL0]; exact Nat.le_refl _, fun h => by rw [hL0] at h; cases h⟩
      rename_i b
      refine LW.callStF rfl rfl inferInstance (by (apply ArgsOk.cons; rfl; exact ArgsOk.nil)) rfl (fun w' hst => next_calls w [] b g 0 _ _ L cur 9 hcur hW0 _ w' hst) ?_
      rintro vn fs' ⟨rfl, wv1, hW1, rfl⟩
      rw [nextV_eq]
      (apply LW.v0; rfl; rfl; apply ValP.move; rfl; apply LW.v0; rfl; rfl; apply ValP.extractN; rfl; rfl; apply LW.v0; rfl; rfl; apply ValP.extractN; rfl; rfl; apply LW.v0; rfl; rfl; apply ValP.assign; rfl; apply LW.v0; rfl; rfl; apply ValP.assign; rfl; apply LW.nil; refine thenN ?_; refine CW.block ?_)
      refine CW.loop (fun x : PX => ([(0, sv s), (4, .pointer (some ⟨b, 0, none⟩)), (5, sv (L.getD x.x.k [])), (6, .bool (decide (x.x.k < L.length)))], wrB b x.wv x.ov :: (g, .cells cur 9 (0, 0)) :: (x.seg ++ [])))
        (fun x => WAt g L.length (nextK L x.x.k) x.wv ∧ IsRow 5 1 x.ov x.x.out.length (ucs x.x.out) x.seg ∧ (x.ov = .slice none 0 0 ∨ 0 < x.x.out.length) ∧ (∃ n, L.length - x.x.k < n ∧ layU L n x.x = R) ∧ x.x.out.length + lenS (L.drop x.x.k) ≤ 4001) (fun x => L.length - x.x.k) ⟨⟨0, []⟩, wv1, .slice none 0 0, []⟩
        ⟨hW1, .nil, .inl rfl, ⟨_, Nat.lt_succ_self _, hR⟩, by rw [List.drop_zero]; exact Nat.le_trans (Nat.le_of_eq (Nat.zero_add _)) hsum⟩ ⟨rfl, rfl, rfl, rfl, trivial⟩ (List.Sublist.refl _) ?_
      rintro ⟨⟨k, out⟩, wv, ov, seg⟩ ⟨hW, hrow, h0, ⟨n, hn, hlay⟩, hsz⟩
      dsimp only at hW hrow h0 hn hlay hsz ⊢
      obtain ⟨pO, cO, rfl⟩ := hrow.form
      rcases Nat.lt_or_ge k L.length with hlt | hge
      · have hnk : nextK L k = k + 1 := if_pos hlt
        rw [hnk] at hW
        have hd1 := lenS_drop L k hlt
        have hwo := wordU_out L ⟨k + 1, out⟩ (L.getD k [])
        have hwk := wordU_k L ⟨k + 1, out⟩ (L.getD k [])
        dsimp only at hwo hwk
        have hdk : (L.getD (k + 1) []).length ≤ 5000 := by
          rcases Nat.lt_or_ge (k + 1) L.length with h | h
          · have := lenS_drop L (k + 1) h; omega
          · rw [show L.getD (k + 1) [] = [] by simp [h]]; exact Nat.zero_le _
        obtain ⟨m, rfl⟩ : ∃ m, n = m + 1 := ⟨n - 1, by omega⟩
        unfold layU at hlay
        dsimp only at hlay
        rw [if_pos hlt] at hlay
        rw [decide_eq_true hlt]
        obtain ⟨D, hD⟩ : ∃ D, L.getD k [] = D := ⟨_, rfl⟩
        rw [hD] at hd1 hwo hwk hlay ⊢
        (refine CW.seq ?_; refine CW.seq ?_; refine CW.region ?_; apply LW.v0; rfl; rfl; apply ValP.move; rfl; apply LW.nil; refine thenN ?_; apply CW.condT; rfl; (with_reducible rfl); refine CW.skip ?_; refine thenN ?_; refine CW.seq ?_; refine CW.block ?_; refine CW.seq ?_; refine CW.region ?_; apply LW.v0; rfl; rfl; apply ValP.move; rfl; apply LW.v0; rfl; rfl; apply ValP.move; rfl)
        refine LW.callStF rfl rfl inferInstance (by (apply ArgsOk.cons; rfl; apply ArgsOk.cons; rfl; exact ArgsOk.nil)) rfl (fun w' hst => word_calls w b g wv _ L ⟨k + 1, out⟩ D (by omega) hdk (by dsimp only; omega) cur 9 hcur hW seg [] hrow h0 w' hst) ?_
        rintro vn fs' ⟨rfl, wv2, ov2, seg2, hW2, hrow2, h02, rfl⟩
        obtain ⟨⟨ok, ⟨k2, out2⟩⟩, hwe⟩ : ∃ r, wordU L ⟨k + 1, out⟩ D = r := ⟨_, rfl⟩
        rw [hwe] at hwo hwk hlay hW2 hrow2 h02 ⊢
        dsimp only at hwo hwk hlay hW2 hrow2 h02 ⊢
        cases ok with
        | false =>
          rw [if_neg (by decide)] at hlay
          subst hlay
          (apply LW.v0; rfl; rfl; apply ValP.notF; rfl; (with_reducible rfl); apply LW.nil; refine thenN ?_; apply CW.condT; rfl; (with_reducible rfl); refine CW.seq ?_; refine CW.region ?_; apply LW.v0; rfl; rfl; apply ValP.assign; rfl; apply LW.v0; rfl; rfl; apply ValP.assign; rfl; apply LW.nil; refine thenN ?_; refine CW.ret ?_; refine blkR ?_; refine thenR ?_; refine thenR ?_; refine blkR ?_; refine thenR ?_)
          apply finM []; (exact .inl rfl); (exact Shut.nil); rfl; (apply ResL.cons; exact Res.tmp rfl; apply ResL.cons; exact Res.tmp rfl; exact ResL.nil); exact List.nil_sublist _
          exact ⟨rfl, rfl⟩
        | true =>
          rw [if_pos rfl] at hlay
          (apply LW.v0; rfl; rfl; apply ValP.notT; rfl; (with_reducible rfl); apply LW.nil; refine thenN ?_; apply CW.condF; rfl; (with_reducible rfl); refine CW.skip ?_; refine blkN ?_; refine thenN ?_; refine CW.region ?_; apply LW.v0; rfl; rfl; apply ValP.move; rfl; apply LW.v0; rfl; rfl; apply ValP.nilCheck; rfl; apply LW.v0; rfl; rfl; apply ValP.fieldAddr; rfl; rfl)
          refine LW.callStF rfl rfl inferInstance (by (apply ArgsOk.cons; rfl; exact ArgsOk.nil)) rfl (fun w' hst => next_calls w [] b g k2 _ _ L cur 9 hcur hW2 _ w' hst) ?_
          rintro vn fs' ⟨rfl, wv3, hW3, rfl⟩
          rw [nextV_eq]
          (apply LW.v0; rfl; rfl; apply ValP.move; rfl; apply LW.v0; rfl; rfl; apply ValP.extractN; rfl; rfl; apply LW.v0; rfl; rfl; apply ValP.extractN; rfl; rfl; apply LW.v0; rfl; rfl; apply ValP.assign; rfl; apply LW.v0; rfl; rfl; apply ValP.assign; rfl; apply LW.nil)
          apply thenX
          exact ⟨rfl, ⟨⟨k2, out2⟩, wv3, ov2, seg2⟩, ⟨hW3, hrow2, h02, ⟨m, by dsimp only; omega, hlay⟩, by dsimp only; omega⟩, by dsimp only; omega, ⟨rfl, rfl, rfl, rfl, trivial⟩, List.Sublist.refl _⟩
      · rw [decide_eq_false (by omega)]
        obtain ⟨m, rfl⟩ : ∃ m, n = m + 1 := ⟨n - 1, by omega⟩
        unfold layU at hlay
        dsimp only at hlay
        rw [if_neg (by omega)] at hlay
        subst hlay
        have hTx0 : ∀ post w', St w [] (wrB b wv (.slice pO out.length cO) :: (g, .cells cur 9 (0, 0)) :: (seg ++ post)) w' → Calls Tryd.prog 15 #[.slice pO out.length cO] w' (Ret w' (TextV out)) := fun post w' hst => Text_calls out _ w' (IsRow.at (pre := [_, _]) hrow hst)
        unfold TextV at hTx0
        dsimp only
        by_cases ho2 : out.length ≤ 200
        · rw [if_pos ho2] at hTx0
          have hTx := hTx0
          by_cases hte : textL out = s
          · rw [if_pos ⟨ho2, hte⟩]
            have hte2 : (⟨(textL out).toArray⟩ : ByteArray) = ⟨s.toArray⟩ := by rw [hte]
            (refine CW.seq ?_; refine CW.seq ?_; refine CW.region ?_; apply LW.v0; rfl; rfl; apply ValP.move; rfl; apply LW.nil; refine thenN ?_; apply CW.condF; rfl; (with_reducible rfl); refine CW.exit ?_; refine thenE ?_; refine thenE ?_; refine blkE rfl ?_; refine thenN ?_; refine CW.seq ?_; refine CW.seq ?_; refine CW.region ?_; apply LW.v0; rfl; rfl; apply ValP.move; rfl; apply LW.v0; rfl; rfl; apply ValP.nilCheck; rfl; apply LW.v0; rfl; rfl; apply ValP.fieldAddr; rfl; rfl; apply LW.load; rfl; rfl; apply Known.at; apply FsAt.head; exact Rd.one' rfl; apply LW.callE; rfl; rfl; infer_instance; apply ArgsOk.cons; rfl; exact ArgsOk.nil; intro w _; exact hTx _ w (by assumption); apply LW.v0; rfl; rfl; apply ValP.move; rfl; apply LW.v0; rfl; rfl; apply ValP.extractN; rfl; rfl; apply LW.v0; rfl; rfl; apply ValP.extractN; rfl; rfl; apply LW.v0; rfl; rfl; apply ValP.assign; rfl; apply LW.v0; rfl; rfl; apply ValP.assign; rfl; apply LW.nil; refine thenN ?_; refine CW.seq ?_; refine CW.region ?_; apply LW.v0; rfl; rfl; apply ValP.move; rfl; apply LW.v0; rfl; rfl; apply ValP.neF; rfl; rfl; omega; apply LW.v0; rfl; rfl; apply ValP.move; rfl; apply LW.guardT'; rfl; rfl; (with_reducible rfl); apply LW.v0; rfl; rfl; apply ValP.move; rfl; apply LW.guardT'; rfl; rfl; (with_reducible rfl); apply LW.v0; rfl; rfl; apply ValP.move; rfl; apply LW.guardT'; rfl; rfl; (with_reducible rfl); apply LW.v0; rfl; rfl; apply ValP.strNeF; rfl; rfl; assumption; apply LW.v0; rfl; rfl; apply ValP.pickF'; rfl; (with_reducible rfl); rfl; apply LW.nil; refine thenN ?_; apply CW.condF; rfl; (with_reducible rfl); refine CW.skip ?_; refine thenN ?_; refine CW.seq ?_; refine CW.region ?_; apply LW.v0; rfl; rfl; apply ValP.move; rfl; apply LW.v0; rfl; rfl; apply ValP.nilCheck; rfl; apply LW.v0; rfl; rfl; apply ValP.fieldAddr; rfl; rfl; apply LW.load; rfl; rfl; apply Known.at; apply FsAt.head; exact Rd.one' rfl; apply LW.v0; rfl; rfl; apply ValP.assign; rfl; apply LW.v0; rfl; rfl; apply ValP.assign; rfl; apply LW.nil; refine thenN ?_; refine CW.ret ?_)
            apply finM seg; (exact .inl rfl); (exact Shut.nil); rfl; (apply ResL.cons; exact Res.tmp rfl; apply ResL.cons; exact Res.tmp rfl; exact ResL.nil)
            · exact List.Sublist.cons _ (List.Sublist.cons _ (List.sublist_append_left _ _))
            · exact ⟨_, rfl, hrow⟩
          · rw [if_neg (fun h => hte h.2)]
            have hte2 : (⟨(textL out).toArray⟩ : ByteArray) ≠ ⟨s.toArray⟩ := sv_inj hte
            (refine CW.seq ?_; refine CW.seq ?_; refine CW.region ?_; apply LW.v0; rfl; rfl; apply ValP.move; rfl; apply LW.nil; refine thenN ?_; apply CW.condF; rfl; (with_reducible rfl); refine CW.exit ?_; refine thenE ?_; refine thenE ?_; refine blkE rfl ?_; refine thenN ?_; refine CW.seq ?_; refine CW.seq ?_; refine CW.region ?_; apply LW.v0; rfl; rfl; apply ValP.move; rfl; apply LW.v0; rfl; rfl; apply ValP.nilCheck; rfl; apply LW.v0; rfl; rfl; apply ValP.fieldAddr; rfl; rfl; apply LW.load; rfl; rfl; apply Known.at; apply FsAt.head; exact Rd.one' rfl; apply LW.callE; rfl; rfl; infer_instance; apply ArgsOk.cons; rfl; exact ArgsOk.nil; intro w _; exact hTx _ w (by assumption); apply LW.v0; rfl; rfl; apply ValP.move; rfl; apply LW.v0; rfl; rfl; apply ValP.extractN; rfl; rfl; apply LW.v0; rfl; rfl; apply ValP.extractN; rfl; rfl; apply LW.v0; rfl; rfl; apply ValP.assign; rfl; apply LW.v0; rfl; rfl; apply ValP.assign; rfl; apply LW.nil; refine thenN ?_; refine CW.seq ?_; refine CW.region ?_; apply LW.v0; rfl; rfl; apply ValP.move; rfl; apply LW.v0; rfl; rfl; apply ValP.neF; rfl; rfl; omega; apply LW.v0; rfl; rfl; apply ValP.move; rfl; apply LW.guardT'; rfl; rfl; (with_reducible rfl); apply LW.v0; rfl; rfl; apply ValP.move; rfl; apply LW.guardT'; rfl; rfl; (with_reducible rfl); apply LW.v0; rfl; rfl; apply ValP.move; rfl; apply LW.guardT'; rfl; rfl; (with_reducible rfl); apply LW.v0; rfl; rfl; apply ValP.strNeT; rfl; rfl; assumption; apply LW.v0; rfl; rfl; apply ValP.pickF'; rfl; (with_reducible rfl); rfl; apply LW.nil; refine thenN ?_; apply CW.condT; rfl; (with_reducible rfl); refine CW.seq ?_; refine CW.region ?_; apply LW.v0; rfl; rfl; apply ValP.assign; rfl; apply LW.v0; rfl; rfl; apply ValP.assign; rfl; apply LW.nil; refine thenN ?_; refine CW.ret ?_; refine thenR ?_)
            apply finM []; (exact .inl rfl); (exact Shut.nil); rfl; (apply ResL.cons; exact Res.tmp rfl; apply ResL.cons; exact Res.tmp rfl; exact ResL.nil); exact List.nil_sublist _
            exact ⟨rfl, rfl⟩
        · rw [if_neg ho2] at hTx0
          have hTx := hTx0
          rw [if_neg (fun h => ho2 h.1)]
          (refine CW.seq ?_; refine CW.seq ?_; refine CW.region ?_; apply LW.v0; rfl; rfl; apply ValP.move; rfl; apply LW.nil; refine thenN ?_; apply CW.condF; rfl; (with_reducible rfl); refine CW.exit ?_; refine thenE ?_; refine thenE ?_; refine blkE rfl ?_; refine thenN ?_; refine CW.seq ?_; refine CW.seq ?_; refine CW.region ?_; apply LW.v0; rfl; rfl; apply ValP.move; rfl; apply LW.v0; rfl; rfl; apply ValP.nilCheck; rfl; apply LW.v0; rfl; rfl; apply ValP.fieldAddr; rfl; rfl; apply LW.load; rfl; rfl; apply Known.at; apply FsAt.head; exact Rd.one' rfl; apply LW.callE; rfl; rfl; infer_instance; apply ArgsOk.cons; rfl; exact ArgsOk.nil; intro w _; exact hTx _ w (by assumption); apply LW.v0; rfl; rfl; apply ValP.move; rfl; apply LW.v0; rfl; rfl; apply ValP.extractN; rfl; rfl; apply LW.v0; rfl; rfl; apply ValP.extractN; rfl; rfl; apply LW.v0; rfl; rfl; apply ValP.assign; rfl; apply LW.v0; rfl; rfl; apply ValP.assign; rfl; apply LW.nil; refine thenN ?_; refine CW.seq ?_; refine CW.region ?_; apply LW.v0; rfl; rfl; apply ValP.move; rfl; apply LW.v0; rfl; rfl; apply ValP.neT; rfl; rfl; omega; apply LW.v0; rfl; rfl; apply ValP.move; rfl; apply LW.guardF'; rfl; rfl; simp only [Bool.not_true, Bool.not_false]; rfl; apply LW.guardF'; rfl; rfl; simp only [Bool.not_true, Bool.not_false]; rfl; apply LW.guardF'; rfl; rfl; simp only [Bool.not_true, Bool.not_false]; rfl; apply LW.v0; rfl; rfl; apply ValP.pickT'; rfl; (with_reducible rfl); rfl; apply LW.nil; refine thenN ?_; apply CW.condT; rfl; (with_reducible rfl); refine CW.seq ?_; refine CW.region ?_; apply LW.v0; rfl; rfl; apply ValP.assign; rfl; apply LW.v0; rfl; rfl; apply ValP.assign; rfl; apply LW.nil; refine thenN ?_; refine CW.ret ?_; refine thenR ?_)
          apply finM []; (exact .inl rfl); (exact Shut.nil); rfl; (apply ResL.cons; exact Res.tmp rfl; apply ResL.cons; exact Res.tmp rfl; exact ResL.nil); exact List.nil_sublist _
          exact ⟨rfl, rfl⟩
    · have hsn : (⟨s.toArray⟩ : ByteArray) ≠ ⟨([] : List UInt8).toArray⟩ := sv_inj hs0
      obtain ⟨L, hL⟩ : ∃ L, wordsT s = L := ⟨_, rfl⟩
      have hL0 : L = spl s := by rw [← hL]; exact if_neg hs0
      rw [← hL0] at hsl hss htS hnS ⊢
      rw [hL]
      have hcur : cur.toList.take (L.length * 1) = scs L := htS
      have hsum : lenS L ≤ 4001 := by omega
      obtain ⟨R, hR⟩ : ∃ R, layU L (L.length + 1) ⟨0, []⟩ = R := ⟨_, rfl⟩
      rw [hR]
      (apply LW.v0; rfl; rfl; apply ValP.buildT; infer_instance; infer_instance; apply PartsOk.cons; rfl; exact PartsOk.nil; rfl; simp only [fillP, wrCells, Value.cells, List.getElem?_cons_zero, List.getElem?_cons_succ, List.toList_toArray, List.setIfInBounds_toArray, List.set_cons_succ, List.set_cons_zero, Nat.reduceAdd, Nat.zero_add]; rfl; apply LW.v0; rfl; rfl; apply ValP.buildT; infer_instance; infer_instance; apply PartsOk.cons; rfl; exact PartsOk.nil; rfl; simp only [fillP, wrCells, Value.cells, List.getElem?_cons_zero, List.getElem?_cons_succ, List.toList_toArray, List.setIfInBounds_toArray, List.set_cons_succ, List.set_cons_zero, Nat.reduceAdd, Nat.zero_add]; rfl; apply LW.boxA; rfl; rfl; intro _; apply LW.v0; rfl; rfl; apply ValP.assign; rfl; apply LW.nil; refine thenN ?_; refine CW.seq ?_; refine CW.seq ?_; refine CW.region ?_; apply LW.v0; rfl; rfl; apply ValP.move; rfl; apply LW.v0; rfl; rfl; apply ValP.strEqF; rfl; rfl; assumption; apply LW.nil; refine thenN ?_; apply CW.condF; rfl; (with_reducible rfl); refine CW.skip ?_; refine thenN ?_; refine CW.seq ?_; refine CW.seq ?_; refine CW.region ?_; apply LW.v0; rfl; rfl; apply ValP.move; rfl; apply LW.v0; rfl; rfl; apply ValP.nilCheck; rfl; apply LW.v0; rfl; rfl; apply ValP.fieldAddr; rfl; rfl)
      have hW0 : WAt g L.length 0 (.slice (some ⟨g, 0, none⟩) L.length cS) := ⟨_, cS, by rw [Nat.sub_zero], by omega, fun _ => rfl⟩
      rename_i b
      refine LW.callStF rfl rfl inferInstance (by (apply ArgsOk.cons; rfl; exact ArgsOk.nil)) rfl (fun w' hst => next_calls w [] b g 0 _ _ L cur 9 hcur hW0 _ w' hst) ?_
      rintro vn fs' ⟨rfl, wv1, hW1, rfl⟩
      rw [nextV_eq]
      (apply LW.v0; rfl; rfl; apply ValP.move; rfl; apply LW.v0; rfl; rfl; apply ValP.extractN; rfl; rfl; apply LW.v0; rfl; rfl; apply ValP.extractN; rfl; rfl; apply LW.v0; rfl; rfl; apply ValP.assign; rfl; apply LW.v0; rfl; rfl; apply ValP.assign; rfl; apply LW.nil; refine thenN ?_; refine CW.block ?_)
      refine CW.loop (fun x : PX => ([(0, sv s), (4, .pointer (some ⟨b, 0, none⟩)), (5, sv (L.getD x.x.k [])), (6, .bool (decide (x.x.k < L.length)))], wrB b x.wv x.ov :: (g, .cells cur 9 (0, 0)) :: (x.seg ++ [])))
        (fun x => WAt g L.length (nextK L x.x.k) x.wv ∧ IsRow 5 1 x.ov x.x.out.length (ucs x.x.out) x.seg ∧ (x.ov = .slice none 0 0 ∨ 0 < x.x.out.length) ∧ (∃ n, L.length - x.x.k < n ∧ layU L n x.x = R) ∧ x.x.out.length + lenS (L.drop x.x.k) ≤ 4001) (fun x => L.length - x.x.k) ⟨⟨0, []⟩, wv1, .slice none 0 0, []⟩
        ⟨hW1, .nil, .inl rfl, ⟨_, Nat.lt_succ_self _, hR⟩, by rw [List.drop_zero]; exact Nat.le_trans (Nat.le_of_eq (Nat.zero_add _)) hsum⟩ ⟨rfl, rfl, rfl, rfl, trivial⟩ (List.Sublist.refl _) ?_
      rintro ⟨⟨k, out⟩, wv, ov, seg⟩ ⟨hW, hrow, h0, ⟨n, hn, hlay⟩, hsz⟩
      dsimp only at hW hrow h0 hn hlay hsz ⊢
      obtain ⟨pO, cO, rfl⟩ := hrow.form
      rcases Nat.lt_or_ge k L.length with hlt | hge
      · have hnk : nextK L k = k + 1 := if_pos hlt
        rw [hnk] at hW
        have hd1 := lenS_drop L k hlt
        have hwo := wordU_out L ⟨k + 1, out⟩ (L.getD k [])
        have hwk := wordU_k L ⟨k + 1, out⟩ (L.getD k [])
        dsimp only at hwo hwk
        have hdk : (L.getD (k + 1) []).length ≤ 5000 := by
          rcases Nat.lt_or_ge (k + 1) L.length with h | h
          · have := lenS_drop L (k + 1) h; omega
          · rw [show L.getD (k + 1) [] = [] by simp [h]]; exact Nat.zero_le _
        obtain ⟨m, rfl⟩ : ∃ m, n = m + 1 := ⟨n - 1, by omega⟩
        unfold layU at hlay
        dsimp only at hlay
        rw [if_pos hlt] at hlay
        rw [decide_eq_true hlt]
        obtain ⟨D, hD⟩ : ∃ D, L.getD k [] = D := ⟨_, rfl⟩
        rw [hD] at hd1 hwo hwk hlay ⊢
        (refine CW.seq ?_; refine CW.seq ?_; refine CW.region ?_; apply LW.v0; rfl; rfl; apply ValP.move; rfl; apply LW.nil; refine thenN ?_; apply CW.condT; rfl; (with_reducible rfl); refine CW.skip ?_; refine thenN ?_; refine CW.seq ?_; refine CW.block ?_; refine CW.seq ?_; refine CW.region ?_; apply LW.v0; rfl; rfl; apply ValP.move; rfl; apply LW.v0; rfl; rfl; apply ValP.move; rfl)
        refine LW.callStF rfl rfl inferInstance (by (apply ArgsOk.cons; rfl; apply ArgsOk.cons; rfl; exact ArgsOk.nil)) rfl (fun w' hst => word_calls w b g wv _ L ⟨k + 1, out⟩ D (by omega) hdk (by dsimp only; omega) cur 9 hcur hW seg [] hrow h0 w' hst) ?_
        rintro vn fs' ⟨rfl, wv2, ov2, seg2, hW2, hrow2, h02, rfl⟩
        obtain ⟨⟨ok, ⟨k2, out2⟩⟩, hwe⟩ : ∃ r, wordU L ⟨k + 1, out⟩ D = r := ⟨_, rfl⟩
        rw [hwe] at hwo hwk hlay hW2 hrow2 h02 ⊢
        dsimp only at hwo hwk hlay hW2 hrow2 h02 ⊢
        cases ok with
        | false =>
          rw [if_neg (by decide)] at hlay
          subst hlay
          (apply LW.v0; rfl; rfl; apply ValP.notF; rfl; (with_reducible rfl); apply LW.nil; refine thenN ?_; apply CW.condT; rfl; (with_reducible rfl); refine CW.seq ?_; refine CW.region ?_; apply LW.v0; rfl; rfl; apply ValP.assign; rfl; apply LW.v0; rfl; rfl; apply ValP.assign; rfl; apply LW.nil; refine thenN ?_; refine CW.ret ?_; refine blkR ?_; refine thenR ?_; refine thenR ?_; refine blkR ?_; refine thenR ?_)
          apply finM []; (exact .inl rfl); (exact Shut.nil); rfl; (apply ResL.cons; exact Res.tmp rfl; apply ResL.cons; exact Res.tmp rfl; exact ResL.nil); exact List.nil_sublist _
          exact ⟨rfl, rfl⟩
        | true =>
          rw [if_pos rfl] at hlay
          (apply LW.v0; rfl; rfl; apply ValP.notT; rfl; (with_reducible rfl); apply LW.nil; refine thenN ?_; apply CW.condF; rfl; (with_reducible rfl); refine CW.skip ?_; refine blkN ?_; refine thenN ?_; refine CW.region ?_; apply LW.v0; rfl; rfl; apply ValP.move; rfl; apply LW.v0; rfl; rfl; apply ValP.nilCheck; rfl; apply LW.v0; rfl; rfl; apply ValP.fieldAddr; rfl; rfl)
          refine LW.callStF rfl rfl inferInstance (by (apply ArgsOk.cons; rfl; exact ArgsOk.nil)) rfl (fun w' hst => next_calls w [] b g k2 _ _ L cur 9 hcur hW2 _ w' hst) ?_
          rintro vn fs' ⟨rfl, wv3, hW3, rfl⟩
          rw [nextV_eq]
          (apply LW.v0; rfl; rfl; apply ValP.move; rfl; apply LW.v0; rfl; rfl; apply ValP.extractN; rfl; rfl; apply LW.v0; rfl; rfl; apply ValP.extractN; rfl; rfl; apply LW.v0; rfl; rfl; apply ValP.assign; rfl; apply LW.v0; rfl; rfl; apply ValP.assign; rfl; apply LW.nil)
          apply thenX
          exact ⟨rfl, ⟨⟨k2, out2⟩, wv3, ov2, seg2⟩, ⟨hW3, hrow2, h02, ⟨m, by dsimp only; omega, hlay⟩, by dsimp only; omega⟩, by dsimp only; omega, ⟨rfl, rfl, rfl, rfl, trivial⟩, List.Sublist.refl _⟩
      · rw [decide_eq_false (by omega)]
        obtain ⟨m, rfl⟩ : ∃ m, n = m + 1 := ⟨n - 1, by omega⟩
        unfold layU at hlay
        dsimp only at hlay
        rw [if_neg (by omega)] at hlay
        subst hlay
        have hTx0 : ∀ post w', St w [] (wrB b wv (.slice pO out.length cO) :: (g, .cells cur 9 (0, 0)) :: (seg ++ post)) w' → Calls Tryd.prog 15 #[.slice pO out.length cO] w' (Ret w' (TextV out)) := fun post w' hst => Text_calls out _ w' (IsRow.at (pre := [_, _]) hrow hst)
        unfold TextV at hTx0
        dsimp only
        by_cases ho2 : out.length ≤ 200
        · rw [if_pos ho2] at hTx0
          have hTx := hTx0
          by_cases hte : textL out = s
          · rw [if_pos ⟨ho2, hte⟩]
            have hte2 : (⟨(textL out).toArray⟩ : ByteArray) = ⟨s.toArray⟩ := by rw [hte]
            (refine CW.seq ?_; refine CW.seq ?_; refine CW.region ?_; apply LW.v0; rfl; rfl; apply ValP.move; rfl; apply LW.nil; refine thenN ?_; apply CW.condF; rfl; (with_reducible rfl); refine CW.exit ?_; refine thenE ?_; refine thenE ?_; refine blkE rfl ?_; refine thenN ?_; refine CW.seq ?_; refine CW.seq ?_; refine CW.region ?_; apply LW.v0; rfl; rfl; apply ValP.move; rfl; apply LW.v0; rfl; rfl; apply ValP.nilCheck; rfl; apply LW.v0; rfl; rfl; apply ValP.fieldAddr; rfl; rfl; apply LW.load; rfl; rfl; apply Known.at; apply FsAt.head; exact Rd.one' rfl; apply LW.callE; rfl; rfl; infer_instance; apply ArgsOk.cons; rfl; exact ArgsOk.nil; intro w _; exact hTx _ w (by assumption); apply LW.v0; rfl; rfl; apply ValP.move; rfl; apply LW.v0; rfl; rfl; apply ValP.extractN; rfl; rfl; apply LW.v0; rfl; rfl; apply ValP.extractN; rfl; rfl; apply LW.v0; rfl; rfl; apply ValP.assign; rfl; apply LW.v0; rfl; rfl; apply ValP.assign; rfl; apply LW.nil; refine thenN ?_; refine CW.seq ?_; refine CW.region ?_; apply LW.v0; rfl; rfl; apply ValP.move; rfl; apply LW.v0; rfl; rfl; apply ValP.neF; rfl; rfl; omega; apply LW.v0; rfl; rfl; apply ValP.move; rfl; apply LW.guardT'; rfl; rfl; (with_reducible rfl); apply LW.v0; rfl; rfl; apply ValP.move; rfl; apply LW.guardT'; rfl; rfl; (with_reducible rfl); apply LW.v0; rfl; rfl; apply ValP.move; rfl; apply LW.guardT'; rfl; rfl; (with_reducible rfl); apply LW.v0; rfl; rfl; apply ValP.strNeF; rfl; rfl; assumption; apply LW.v0; rfl; rfl; apply ValP.pickF'; rfl; (with_reducible rfl); rfl; apply LW.nil; refine thenN ?_; apply CW.condF; rfl; (with_reducible rfl); refine CW.skip ?_; refine thenN ?_; refine CW.seq ?_; refine CW.region ?_; apply LW.v0; rfl; rfl; apply ValP.move; rfl; apply LW.v0; rfl; rfl; apply ValP.nilCheck; rfl; apply LW.v0; rfl; rfl; apply ValP.fieldAddr; rfl; rfl; apply LW.load; rfl; rfl; apply Known.at; apply FsAt.head; exact Rd.one' rfl; apply LW.v0; rfl; rfl; apply ValP.assign; rfl; apply LW.v0; rfl; rfl; apply ValP.assign; rfl; apply LW.nil; refine thenN ?_; refine CW.ret ?_)
            apply finM seg; (exact .inl rfl); (exact Shut.nil); rfl; (apply ResL.cons; exact Res.tmp rfl; apply ResL.cons; exact Res.tmp rfl; exact ResL.nil)
            · exact List.Sublist.cons _ (List.Sublist.cons _ (List.sublist_append_left _ _))
            · exact ⟨_, rfl, hrow⟩
          · rw [if_neg (fun h => hte h.2)]
            have hte2 : (⟨(textL out).toArray⟩ : ByteArray) ≠ ⟨s.toArray⟩ := sv_inj hte
            (refine CW.seq ?_; refine CW.seq ?_; refine CW.region ?_; apply LW.v0; rfl; rfl; apply ValP.move; rfl; apply LW.nil; refine thenN ?_; apply CW.condF; rfl; (with_reducible rfl); refine CW.exit ?_; refine thenE ?_; refine thenE ?_; refine blkE rfl ?_; refine thenN ?_; refine CW.seq ?_; refine CW.seq ?_; refine CW.region ?_; apply LW.v0; rfl; rfl; apply ValP.move; rfl; apply LW.v0; rfl; rfl; apply ValP.nilCheck; rfl; apply LW.v0; rfl; rfl; apply ValP.fieldAddr; rfl; rfl; apply LW.load; rfl; rfl; apply Known.at; apply FsAt.head; exact Rd.one' rfl; apply LW.callE; rfl; rfl; infer_instance; apply ArgsOk.cons; rfl; exact ArgsOk.nil; intro w _; exact hTx _ w (by assumption); apply LW.v0; rfl; rfl; apply ValP.move; rfl; apply LW.v0; rfl; rfl; apply ValP.extractN; rfl; rfl; apply LW.v0; rfl; rfl; apply ValP.extractN; rfl; rfl; apply LW.v0; rfl; rfl; apply ValP.assign; rfl; apply LW.v0; rfl; rfl; apply ValP.assign; rfl; apply LW.nil; refine thenN ?_; refine CW.seq ?_; refine CW.region ?_; apply LW.v0; rfl; rfl; apply ValP.move; rfl; apply LW.v0; rfl; rfl; apply ValP.neF; rfl; rfl; omega; apply LW.v0; rfl; rfl; apply ValP.move; rfl; apply LW.guardT'; rfl; rfl; (with_reducible rfl); apply LW.v0; rfl; rfl; apply ValP.move; rfl; apply LW.guardT'; rfl; rfl; (with_reducible rfl); apply LW.v0; rfl; rfl; apply ValP.move; rfl; apply LW.guardT'; rfl; rfl; (with_reducible rfl); apply LW.v0; rfl; rfl; apply ValP.strNeT; rfl; rfl; assumption; apply LW.v0; rfl; rfl; apply ValP.pickF'; rfl; (with_reducible rfl); rfl; apply LW.nil; refine thenN ?_; apply CW.condT; rfl; (with_reducible rfl); refine CW.seq ?_; refine CW.region ?_; apply LW.v0; rfl; rfl; apply ValP.assign; rfl; apply LW.v0; rfl; rfl; apply ValP.assign; rfl; apply LW.nil; refine thenN ?_; refine CW.ret ?_; refine thenR ?_)
            apply finM []; (exact .inl rfl); (exact Shut.nil); rfl; (apply ResL.cons; exact Res.tmp rfl; apply ResL.cons; exact Res.tmp rfl; exact ResL.nil); exact List.nil_sublist _
            exact ⟨rfl, rfl⟩
        · rw [if_neg ho2] at hTx0
          have hTx := hTx0
          rw [if_neg (fun h => ho2 h.1)]
          (refine CW.seq ?_; refine CW.seq ?_; refine CW.region ?_; apply LW.v0; rfl; rfl; apply ValP.move; rfl; apply LW.nil; refine thenN ?_; apply CW.condF; rfl; (with_reducible rfl); refine CW.exit ?_; refine thenE ?_; refine thenE ?_; refine blkE rfl ?_; refine thenN ?_; refine CW.seq ?_; refine CW.seq ?_; refine CW.region ?_; apply LW.v0; rfl; rfl; apply ValP.move; rfl; apply LW.v0; rfl; rfl; apply ValP.nilCheck; rfl; apply LW.v0; rfl; rfl; apply ValP.fieldAddr; rfl; rfl; apply LW.load; rfl; rfl; apply Known.at; apply FsAt.head; exact Rd.one' rfl; apply LW.callE; rfl; rfl; infer_instance; apply ArgsOk.cons; rfl; exact ArgsOk.nil; intro w _; exact hTx _ w (by assumption); apply LW.v0; rfl; rfl; apply ValP.move; rfl; apply LW.v0; rfl; rfl; apply ValP.extractN; rfl; rfl; apply LW.v0; rfl; rfl; apply ValP.extractN; rfl; rfl; apply LW.v0; rfl; rfl; apply ValP.assign; rfl; apply LW.v0; rfl; rfl; apply ValP.assign; rfl; apply LW.nil; refine thenN ?_; refine CW.seq ?_; refine CW.region ?_; apply LW.v0; rfl; rfl; apply ValP.move; rfl; apply LW.v0; rfl; rfl; apply ValP.neT; rfl; rfl; omega; apply LW.v0; rfl; rfl; apply ValP.move; rfl; apply LW.guardF'; rfl; rfl; simp only [Bool.not_true, Bool.not_false]; rfl; apply LW.guardF'; rfl; rfl; simp only [Bool.not_true, Bool.not_false]; rfl; apply LW.guardF'; rfl; rfl; simp only [Bool.not_true, Bool.not_false]; rfl; apply LW.v0; rfl; rfl; apply ValP.pickT'; rfl; (with_reducible rfl); rfl; apply LW.nil; refine thenN ?_; apply CW.condT; rfl; (with_reducible rfl); refine CW.seq ?_; refine CW.region ?_; apply LW.v0; rfl; rfl; apply ValP.assign; rfl; apply LW.v0; rfl; rfl; apply ValP.assign; rfl; apply LW.nil; refine thenN ?_; refine CW.ret ?_; refine thenR ?_)
          apply finM []; (exact .inl rfl); (exact Shut.nil); rfl; (apply ResL.cons; exact Res.tmp rfl; apply ResL.cons; exact Res.tmp rfl; exact ResL.nil); exact List.nil_sublist _
          exact ⟨rfl, rfl⟩
end Go.Proofs.YtbhicncgjplnoaaDoor

/-
  Plain: texts lead back to their programs.
  Conditions: none.
-/
namespace Go.Proofs.YtbhicncgjplnoaaDoor
open Go Go.RowKit SL
set_option maxRecDepth 8000
/-! ### Digits lead back -/
theorem nib_hexd (d : Nat) (h : d < 16) : nib (hexd d) = d := by unfold nib; rw [hexu_hexd d h]
theorem hxOut_hxs : ∀ bs : List UInt8, hxOut (hxs bs) = bs
  | [] => rfl
  | b :: r => by
    have hb := b.toNat_lt
    have e : hxs (b :: r) = hexd (b.toNat / 16) :: hexd (b.toNat % 16) :: hxs r := rfl
    rw [e, hxOut, hxOut_hxs r, nib_hexd _ (by omega), nib_hexd _ (by omega), show 16 * (b.toNat / 16) + b.toNat % 16 = b.toNat by omega, UInt8.ofNat_toNat]
theorem hxs_dig : ∀ bs : List UInt8, (hxs bs).all (fun u => (hexu u).isSome) = true
  | [] => rfl
  | b :: r => by
    have hb := b.toNat_lt
    have e : hxs (b :: r) = hexd (b.toNat / 16) :: hexd (b.toNat % 16) :: hxs r := rfl
    rw [e, List.all_cons, List.all_cons, hxs_dig r, hexu_hexd _ (by omega), hexu_hexd _ (by omega)]; rfl
theorem hexR_hxs (bs : List UInt8) : hexR (hxs bs) = (bs, true) := by
  unfold hexR
  rw [if_pos (hxs_dig bs), hxOut_hxs, hxs_len, decide_eq_true (by omega)]
/-! ### Names -/
def nmOk (s : List UInt8) : Bool := !(s.contains 32) && !(s.take 1 == [46]) && !(s.isEmpty) && s.any (fun u => (hexu u).isNone)
theorem nms_ok : ∀ b, b < 256 → (match opOf b with | some x => nmOk x.nm | none => true) = true := by decide +kernel
theorem nms_nodup : ((List.range 256).filterMap fun b => (opOf b).map (·.nm)).Nodup := by decide +kernel
attribute [local irreducible] opOf
theorem nm_ok {b : Nat} {x : OpV} (hb : b < 256) (h : opOf b = some x) : 32 ∉ x.nm ∧ x.nm.take 1 ≠ [46] ∧ x.nm ≠ [] ∧ ∃ u ∈ x.nm, hexu u = none := by
  have := nms_ok b hb
  rw [h] at this
  simp only [nmOk, Bool.and_eq_true, Bool.not_eq_true', List.any_eq_true, Option.isNone_iff_eq_none] at this
  obtain ⟨⟨⟨h1, h2⟩, h3⟩, h4⟩ := this
  refine ⟨fun hm => ?_, fun he => ?_, fun he => ?_, h4⟩
  · rw [List.contains_iff_mem.2 hm] at h1; cases h1
  · rw [he] at h2; cases h2
  · rw [he] at h3; cases h3
theorem nm_inj {a b : Nat} {x y : OpV} (hab : a < b) (hb : b < 256) (hx : opOf a = some x) (hy : opOf b = some y) : x.nm ≠ y.nm := by
  have h := List.pairwise_filterMap.1 nms_nodup
  have h2 := List.pairwise_iff_getElem.1 h a b (by rw [List.length_range]; omega) (by rw [List.length_range]; omega) hab
  rw [List.getElem_range, List.getElem_range] at h2
  exact h2 x.nm (by rw [hx]; rfl) y.nm (by rw [hy]; rfl)
theorem named_nm {b : Nat} {x : OpV} (hb : b < 256) (h : opOf b = some x) : named x.nm = some x := by
  refine named_some hb (fun j hj => ?_) (by unfold hit; rw [h]; exact if_pos rfl)
  unfold hit
  cases hy : opOf j with
  | none => rfl
  | some y => exact if_neg (nm_inj hj hb hy h)
theorem named_inv {s : List UInt8} {x : OpV} (h : named s = some x) : ∃ b, b < 256 ∧ opOf b = some x ∧ x.nm = s := by
  unfold named at h
  obtain ⟨b, hb, he⟩ := List.exists_of_findSome?_eq_some h
  unfold hit at he
  split at he
  · rename_i y hy
    split at he
    · rename_i hn; cases he; exact ⟨b, List.mem_range.1 hb, hy, hn⟩
    · cases he
  · cases he
theorem named_hxs (d : List UInt8) : named (hxs d) = none := by
  cases h : named (hxs d) with
  | none => rfl
  | some x =>
    obtain ⟨b, hb, ho, hn⟩ := named_inv h
    obtain ⟨_, _, _, u, hu, hh⟩ := nm_ok hb ho
    rw [hn] at hu
    have := List.all_eq_true.1 (hxs_dig d) u hu
    rw [hh] at this; cases this
/-! ### Words and blanks -/
theorem spl_cons (u : UInt8) (r : List UInt8) (hu : u ≠ 32) {x : List UInt8} {R : List (List UInt8)} (h : spl r = x :: R) : spl (u :: r) = (u :: x) :: R := by
  rw [spl, if_neg hu, h]
theorem spl_word : ∀ (x r : List UInt8) (R : List (List UInt8)) (y : List UInt8), 32 ∉ x → spl r = y :: R → spl (x ++ r) = (x ++ y) :: R
  | [], r, R, y, _, h => h
  | u :: x, r, R, y, hx, h => spl_cons u _ (fun e => hx (by rw [e]; exact List.mem_cons_self)) (spl_word x r R y (fun hm => hx (List.mem_cons_of_mem _ hm)) h)
theorem spl_jn (x : List UInt8) (R : List (List UInt8)) (hx : 32 ∉ x) (hR : ∀ y ∈ R, 32 ∉ y) : spl (jn x R) = x :: R := by
  induction R generalizing x with
  | nil =>
    have := spl_word x [] [] [] hx rfl
    simpa [jn] using this
  | cons y R ih =>
    have h1 := ih y (hR y List.mem_cons_self) (fun z hz => hR z (List.mem_cons_of_mem _ hz))
    have h2 : spl (32 :: jn y R) = [] :: (y :: R) := by rw [spl, if_pos rfl, h1]
    have h3 := spl_word x _ _ _ hx h2
    rw [List.append_nil] at h3
    rw [← h3]
    simp [jn]
theorem hexd_ne (d : Nat) (h : d < 16) : hexd d ≠ 32 ∧ hexd d ≠ 46 := by revert d; decide
theorem hxs_blank : ∀ bs : List UInt8, 32 ∉ hxs bs
  | [] => by simp [hxs]
  | b :: r => by
    have hb := b.toNat_lt
    have e : hxs (b :: r) = hexd (b.toNat / 16) :: hexd (b.toNat % 16) :: hxs r := rfl
    rw [e]
    intro h
    rcases List.mem_cons.1 h with h | h
    · exact (hexd_ne _ (by omega)).1 h.symm
    · rcases List.mem_cons.1 h with h | h
      · exact (hexd_ne _ (by omega)).1 h.symm
      · exact hxs_blank r h
theorem wordsOf_blank (u : UInt8) (d : List UInt8) : ∀ x ∈ wordsOf u d, 32 ∉ x := by
  unfold wordsOf
  intro x hx
  cases ho : opOf u.toNat with
  | none =>
    rw [ho] at hx
    obtain rfl := List.mem_singleton.1 hx
    have := hxs_blank [u]
    intro h
    rcases List.mem_cons.1 h with h | h
    · cases h
    · exact this (by simpa [hxs] using h)
  | some y =>
    rw [ho] at hx
    have h1 := (nm_ok u.toNat_lt ho).1
    dsimp only at hx
    split at hx
    · rcases List.mem_cons.1 hx with rfl | hx
      · exact h1
      · obtain rfl := List.mem_singleton.1 hx; exact hxs_blank d
    · obtain rfl := List.mem_singleton.1 hx; exact h1
theorem wordsS_blank (L : List (Nat × UInt8 × List UInt8)) : ∀ x ∈ wordsS L, 32 ∉ x := fun x hx => by
  obtain ⟨s, _, hs⟩ := List.mem_flatMap.1 hx
  exact wordsOf_blank _ _ x hs
theorem wordsOf_ne (u : UInt8) (d : List UInt8) : ∃ x R, wordsOf u d = x :: R ∧ x ≠ [] := by
  unfold wordsOf
  cases ho : opOf u.toNat with
  | none => exact ⟨_, [], rfl, by simp⟩
  | some y =>
    have h1 := (nm_ok u.toNat_lt ho).2.2.1
    dsimp only
    split
    · exact ⟨_, _, rfl, h1⟩
    · exact ⟨_, _, rfl, h1⟩
theorem wordsT_text (bs : List UInt8) : wordsT (textL bs) = wordsL bs := by
  unfold wordsT
  cases bs with
  | nil => unfold textL wordsL; rw [segsAt_nil]; exact if_pos rfl
  | cons b r =>
    obtain ⟨x, R, hx, hne⟩ := wordsOf_ne b (r.take (szOf b.toNat))
    have hw : wordsL (b :: r) = x :: (R ++ wordsS (segsAt (0 + 1 + szOf b.toNat) (r.drop (szOf b.toNat)))) := by
      unfold wordsL; rw [segsAt_cons, wordsS_cons, hx]; rfl
    have hbl := wordsS_blank (segsAt 0 (b :: r))
    rw [show wordsS (segsAt 0 (b :: r)) = wordsL (b :: r) from rfl, hw] at hbl
    unfold textL
    rw [hw]
    show (if jn x _ = [] then [] else spl (jn x _)) = _
    rw [if_neg (show ¬ jn x _ = [] from fun h => hne (List.append_eq_nil_iff.1 h).1)]
    exact spl_jn x _ (hbl x List.mem_cons_self) (fun y hy => hbl y (List.mem_cons_of_mem _ hy))
/-! ### Laid again -/
theorem drop_get {α : Type} {L R : List α} {k : Nat} {x : α} (h : L.drop k = x :: R) : k < L.length ∧ L.drop (k + 1) = R ∧ ∀ d, L.getD k d = x := by
  have hk : k < L.length := by
    rcases Nat.lt_or_ge k L.length with h' | h'
    · exact h'
    · rw [List.drop_eq_nil_of_le h'] at h; cases h
  rw [List.drop_eq_getElem_cons hk] at h
  injection h with h1 h2
  exact ⟨hk, h2, fun d => by simp [hk, h1]⟩
theorem szOf_none {b : Nat} (h : opOf b = none) : szOf b = 0 := by unfold szOf; rw [h]
theorem szOf_some {b : Nat} {x : OpV} (h : opOf b = some x) : szOf b = x.dt := by unfold szOf; rw [h]
theorem lay_back (L : List (List UInt8)) (N : Nat) : ∀ (bs : List UInt8) (p k n : Nat) (out : List UInt8), bs.length ≤ N → L.drop k = wordsS (segsAt p bs) → L.length - k < n → layU L n ⟨k, out⟩ = some (out ++ bs) := by
  induction N with
  | zero =>
    intro bs p k n out hb hL hn
    obtain rfl := List.eq_nil_of_length_eq_zero (show bs.length = 0 by omega)
    rw [segsAt_nil] at hL
    have hk := List.drop_eq_nil_iff.1 hL
    obtain ⟨m, rfl⟩ : ∃ m, n = m + 1 := ⟨n - 1, by omega⟩
    unfold layU
    dsimp only
    rw [if_neg (by omega), List.append_nil]
  | succ N ih =>
    intro bs p k n out hb hL hn
    obtain ⟨m, rfl⟩ : ∃ m, n = m + 1 := ⟨n - 1, by omega⟩
    cases bs with
    | nil =>
      rw [segsAt_nil] at hL
      have hk := List.drop_eq_nil_iff.1 hL
      unfold layU
      dsimp only
      rw [if_neg (by omega), List.append_nil]
    | cons b r =>
      rw [segsAt_cons, wordsS_cons] at hL
      have hu := b.toNat_lt
      have hr : (r.drop (szOf b.toNat)).length ≤ N := by simp at hb ⊢; omega
      unfold layU
      dsimp only
      cases ho : opOf b.toNat with
      | none =>
        have hw : wordsOf b (r.take (szOf b.toNat)) = [46 :: hx2 b] := by unfold wordsOf; rw [ho]
        have hz := szOf_none ho
        rw [hw] at hL
        obtain ⟨hk, hd, hg⟩ := drop_get hL
        rw [if_pos hk, hg]
        have hx : hexR ((46 :: hx2 b).drop 1) = ([b], true) := by
          have := hexR_hxs [b]
          exact this
        have hwu : wordU L ⟨k + 1, out⟩ (46 :: hx2 b) = (true, ⟨k + 1, out ++ [b]⟩) := by
          unfold wordU
          rw [if_pos (show (46 :: hx2 b).take 1 = [46] from rfl), hx]
          exact if_pos ⟨rfl, rfl⟩
        rw [hwu, if_pos rfl]
        have := ih (r.drop (szOf b.toNat)) _ (k + 1) m (out ++ [b]) hr hd (by omega)
        dsimp only
        rw [this, hz, List.drop_zero, List.append_assoc]; rfl
      | some y =>
        obtain ⟨_, hn1, hn2, _⟩ := nm_ok hu ho
        have hnm := named_nm hu ho
        have hz := szOf_some ho
        have hyc : UInt8.ofNat y.c = b := by rw [opOf_c ho, UInt8.ofNat_toNat]
        by_cases hd0 : y.dt = 0
        · have hw : wordsOf b (r.take (szOf b.toNat)) = [y.nm] := by unfold wordsOf; rw [ho]; exact if_neg (by omega)
          rw [hw] at hL
          obtain ⟨hk, hd, hg⟩ := drop_get hL
          rw [if_pos hk, hg]
          have hwu : wordU L ⟨k + 1, out⟩ y.nm = (true, ⟨k + 1, out ++ [b]⟩) := by
            unfold wordU
            rw [if_neg hn1, hnm]
            dsimp only
            rw [if_pos hd0, hyc]
          rw [hwu, if_pos rfl]
          have := ih (r.drop (szOf b.toNat)) _ (k + 1) m (out ++ [b]) hr hd (by omega)
          dsimp only
          rw [this, hz, hd0, List.drop_zero, List.append_assoc]; rfl
        · have hw : wordsOf b (r.take (szOf b.toNat)) = [y.nm, hxs (r.take (szOf b.toNat))] := by unfold wordsOf; rw [ho]; exact if_pos (by omega)
          rw [hw] at hL
          obtain ⟨hk, hd, hg⟩ := drop_get hL
          obtain ⟨hk2, hd2, hg2⟩ := drop_get hd
          rw [if_pos hk, hg]
          have hwu : wordU L ⟨k + 1, out⟩ y.nm = (true, ⟨k + 1 + 1, out ++ [b] ++ r.take (szOf b.toNat)⟩) := by
            unfold wordU
            rw [if_neg hn1, hnm]
            dsimp only
            rw [if_neg hd0, hyc, hg2, hexR_hxs]
            unfold nextK
            rw [if_pos hk2]
          rw [hwu, if_pos rfl]
          have := ih (r.drop (szOf b.toNat)) _ (k + 1 + 1) m (out ++ [b] ++ r.take (szOf b.toNat)) hr hd2 (by omega)
          dsimp only
          rw [this, List.append_assoc, List.take_append_drop, List.append_assoc]; rfl
/-- THE ROUND TRIP -/
theorem parse_text (bs : List UInt8) (h : bs.length ≤ 200) : parseU (textL bs) = some bs := by
  unfold parseU
  have hl := textL_len bs
  rw [if_pos (by omega), wordsT_text, lay_back (wordsL bs) bs.length bs 0 0 _ [] (Nat.le_refl _) (by rw [List.drop_zero]; rfl) (by omega)]
  exact if_pos ⟨h, rfl⟩
theorem parse_inv {s o : List UInt8} (h : parseU s = some o) : o.length ≤ 200 ∧ textL o = s := by
  unfold parseU at h
  split at h
  · split at h
    · split at h
      · rename_i hc; cases h; exact hc
      · cases h
    · cases h
  · cases h
theorem text_inj {a b : List UInt8} (ha : a.length ≤ 200) (hb : b.length ≤ 200) (h : textL a = textL b) : a = b := by
  have h1 := parse_text a ha
  rw [h, parse_text b hb] at h1
  exact (Option.some.inj h1).symm
end Go.Proofs.YtbhicncgjplnoaaDoor
