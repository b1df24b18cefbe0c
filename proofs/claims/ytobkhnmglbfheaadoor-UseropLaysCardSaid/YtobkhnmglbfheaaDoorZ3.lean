/-
  Texts that were built apart, put behind one another (3 of 5): P4 P5 P6 P7 P8 P9 PA PB PC PD PE Smk PF Sml U1 U2 U3.
  Conditions: none.
-/
import Derived.Test.YtobkhnmglbfheaaDoorZ2
/-
  Contracts of the pack: the bytes of parts.
  Conditions: none.
-/
namespace Go.Proofs.YtobkhnmglbfheaaDoor
open Go Go.RowKit SL
set_option maxRecDepth 8000
set_option maxHeartbeats 4000000
set_option linter.unusedSimpArgs false
set_option linter.unusedVariables false
attribute [local irreducible] SL.CW SL.LW SL.DW Calls SL.Ret SL.RetG SL.beginQ SL.roundQ SL.rangeQ SL.inQ SL.RW SL.AnyW SL.thenQ SL.thenC SL.thenW SL.blkQ SL.finQ SL.ValP SL.NewP SL.SetP SL.CallP SL.Rd SL.Wr SL.Known
/-! ### The layout -/
def p00 : PartV := ⟨false, 0, .slice none 0 0, []⟩
/-- The part at a place. -/
def pt (l : List PartV) (k : Nat) : PartV := l.getD k p00
theorem pt_eq {l : List PartV} {k : Nat} (h : k < l.length) : pt l k = l[k] := by simp [pt, h]
/-- A Long part's tail. -/
def tlB (b : List UInt8) : List UInt8 := beb 32 b.length ++ (b ++ List.replicate (whl b.length - b.length) 0)
theorem tlB_len (b : List UInt8) : (tlB b).length = 32 + whl b.length := by
  have := whl_le b.length
  simp [tlB, beb_len]; omega
/-- The tails of the first k parts. -/
def behK (l : List PartV) : Nat → List UInt8
  | 0 => []
  | k + 1 => behK l k ++ (if (pt l k).lg then tlB (pt l k).db else [])
/-- Where the tail of the k-th part begins. -/
def atF (l : List PartV) (k : Nat) : Nat := 32 * l.length + (behK l k).length
/-- The places of the first k parts' tails. -/
def plcK (l : List PartV) : Nat → List Nat
  | 0 => []
  | k + 1 => plcK l k ++ (if (pt l k).lg then [atF l k] else [])
/-- The heads of the first k parts. -/
def hdK (l : List PartV) : Nat → List UInt8
  | 0 => []
  | k + 1 => hdK l k ++ (if (pt l k).lg then beb 32 (atF l k) else beb 32 (pt l k).wd)
/-- The bytes of parts. -/
def layF (l : List PartV) : List UInt8 := hdK l l.length ++ behK l l.length
theorem behK_zero (l : List PartV) : behK l 0 = [] := rfl
theorem behK_long {l : List PartV} {k : Nat} (h : (pt l k).lg = true) : behK l (k + 1) = behK l k ++ tlB (pt l k).db := by rw [behK, if_pos h]
theorem behK_short {l : List PartV} {k : Nat} (h : (pt l k).lg = false) : behK l (k + 1) = behK l k := by rw [behK, if_neg (by simp [h]), List.append_nil]
theorem plcK_zero (l : List PartV) : plcK l 0 = [] := rfl
theorem plcK_long {l : List PartV} {k : Nat} (h : (pt l k).lg = true) : plcK l (k + 1) = plcK l k ++ [atF l k] := by rw [plcK, if_pos h]
theorem plcK_short {l : List PartV} {k : Nat} (h : (pt l k).lg = false) : plcK l (k + 1) = plcK l k := by rw [plcK, if_neg (by simp [h]), List.append_nil]
theorem hdK_zero (l : List PartV) : hdK l 0 = [] := rfl
theorem hdK_long {l : List PartV} {k : Nat} (h : (pt l k).lg = true) : hdK l (k + 1) = hdK l k ++ beb 32 (atF l k) := by rw [hdK, if_pos h]
theorem hdK_short {l : List PartV} {k : Nat} (h : (pt l k).lg = false) : hdK l (k + 1) = hdK l k ++ beb 32 (pt l k).wd := by rw [hdK, if_neg (by simp [h])]
theorem hdK_len (l : List PartV) (k : Nat) : (hdK l k).length = 32 * k := by
  induction k with
  | zero => rfl
  | succ k ih =>
    cases h : (pt l k).lg with
    | true => rw [hdK_long h, List.length_append, beb_len, ih]; omega
    | false => rw [hdK_short h, List.length_append, beb_len, ih]; omega
attribute [local irreducible] behK plcK hdK
theorem atF_zero (l : List PartV) : atF l 0 = 32 * l.length := by simp [atF, behK_zero]
theorem atF_long {l : List PartV} {k : Nat} (h : (pt l k).lg = true) : atF l (k + 1) = atF l k + (32 + whl (pt l k).db.length) := by
  rw [atF, behK_long h, List.length_append, tlB_len, ← Nat.add_assoc]; rfl
theorem atF_short {l : List PartV} {k : Nat} (h : (pt l k).lg = false) : atF l (k + 1) = atF l k := by rw [atF, behK_short h]; rfl
theorem plc_len (l : List PartV) (k : Nat) : (plcK l k).length ≤ k := by
  induction k with
  | zero => rw [plcK_zero]; exact Nat.le_refl _
  | succ k ih =>
    cases h : (pt l k).lg with
    | true => rw [plcK_long h]; simpa using ih
    | false => rw [plcK_short h]; omega
theorem plc_pre (l : List PartV) (k d : Nat) : ∃ r, plcK l (k + d) = plcK l k ++ r := by
  induction d with
  | zero => exact ⟨[], (List.append_nil _).symm⟩
  | succ d ih =>
    obtain ⟨r, hr⟩ := ih
    rw [← Nat.add_assoc]
    cases h : (pt l (k + d)).lg with
    | true => exact ⟨r ++ [atF l (k + d)], by rw [plcK_long h, hr, List.append_assoc]⟩
    | false => exact ⟨r, by rw [plcK_short h, hr]⟩
theorem plc_get {l : List PartV} {k : Nat} (hk : k < l.length) (h : (pt l k).lg = true) : (plcK l l.length)[(plcK l k).length]? = some (atF l k) ∧ (plcK l k).length < (plcK l l.length).length := by
  obtain ⟨r, hr⟩ := plc_pre l (k + 1) (l.length - (k + 1))
  rw [show k + 1 + (l.length - (k + 1)) = l.length by omega, plcK_long h] at hr
  rw [hr]
  simp
theorem beh_cells (b : List UInt8) (xs : List Value) : xs ++ ucs (beb 32 b.length) ++ ucs b ++ List.replicate (whl b.length - b.length) (Value.int .u8 0) = xs ++ ucs (tlB b) := by
  rw [tlB, ucs_app, ucs_app, ucs_zero]; simp only [List.append_assoc]
/-- Parts that are not great. -/
def small200 (l : List PartV) : Prop := l.length ≤ 16 ∧ ∀ k, (pt l k).db.length ≤ 200
theorem beh_len {l : List PartV} (h : small200 l) (k : Nat) : (behK l k).length ≤ 300 * k := by
  induction k with
  | zero => rw [behK_zero]; exact Nat.le_refl _
  | succ k ih =>
    cases hl : (pt l k).lg with
    | true =>
      rw [behK_long hl, List.length_append, tlB_len]
      have := h.2 k
      have := whl_lt (pt l k).db.length
      omega
    | false => rw [behK_short hl]; omega
theorem right_small {l : List PartV} (h : chkP l = 0) : small200 l := by
  unfold chkP at h
  split at h
  · cases h
  · split at h
    · rename_i h1 h2
      refine ⟨by omega, fun k => ?_⟩
      unfold pt
      rw [List.getD_eq_getElem?_getD]
      cases hk : l[k]? with
      | none => simp [p00]
      | some p =>
        simp only [Option.getD_some]
        have hm : p ∈ l := List.mem_of_getElem? hk
        have := List.all_eq_true.1 h2 p hm
        unfold rightP at this
        split at this
        · simp only [Bool.and_eq_true, decide_eq_true_eq] at this; exact this.2
        · simp only [decide_eq_true_eq] at this; omega
    · cases h
/-! ### Lay -/
theorem Lay_bad (l : List PartV) (v : Value) (w : World) (hv : PartsAt w v l) (h : chkP l ≠ 0) : Calls Tryd.prog 38 #[v] w (Ret w (.tuple #[.slice none 0 0, .int .i64 (chkP l)])) := by
  have hK : ∀ w' {fs}, St w [] fs w' → Calls Tryd.prog 54 #[v] w' (Ret w' (.int .i64 (chkP l))) := fun w' fs hst => Check_calls l v w' (hv.st hst)
  refine enter (args := [_]) _ [] [] Tryd.func38 rfl Tryd.ntmps38 rfl (by simp) .nil ?_
  (refine CW.seq ?_; refine CW.region ?_; apply LW.v0; rfl; rfl; apply ValP.assign; rfl; apply LW.v0; rfl; rfl; apply ValP.assign; rfl; apply LW.nil; refine thenN ?_; refine CW.seq ?_; refine CW.seq ?_; refine CW.region ?_; apply LW.v0; rfl; rfl; apply ValP.move; rfl; apply LW.callE; rfl; rfl; infer_instance; apply ArgsOk.cons; rfl; exact ArgsOk.nil; intro w _; exact hK w (by assumption); apply LW.v0; rfl; rfl; apply ValP.assign; rfl; apply LW.nil; refine thenN ?_; refine CW.seq ?_; refine CW.region ?_; apply LW.v0; rfl; rfl; apply ValP.move; rfl; apply LW.v0; rfl; rfl; apply ValP.neT; rfl; rfl; omega; apply LW.nil; refine thenN ?_; apply CW.condT; rfl; (with_reducible rfl); refine CW.seq ?_; refine CW.region ?_; apply LW.v0; rfl; rfl; apply ValP.move; rfl; apply LW.v0; rfl; rfl; apply ValP.assign; rfl; apply LW.v0; rfl; rfl; apply ValP.assign; rfl; apply LW.nil; refine thenN ?_; refine CW.ret ?_; refine thenR ?_)
  (apply finR; exact .inl rfl; rfl; rfl; rfl; apply ResL.cons; exact Res.tmp rfl; apply ResL.cons; exact Res.tmp rfl; exact ResL.nil)
  rfl
theorem IsRow.room {E : TypeId} {sz n : Nat} {v : Value} {xs : List Value} {seg : Fs} (h : IsRow E sz v n xs seg) : ∀ p c, v = .slice p n c → n ≤ c := by
  cases h with
  | nil => intro p c he; cases he; exact Nat.le_refl _
  | own h _ _ _ _ => intro p c he; cases he; exact h
structure LX where
  k : Nat
  ov : Value
  segO : Fs
  q : Option Addr
  c : Nat
structure TLX where
  m : Nat
  bv : Value
  segB : Fs
  pv : Value
  segP : Fs
theorem Lay_ok (l : List PartV) (v : Value) (w : World) (hv : PartsAt w v l) (h : chkP l = 0) : Calls Tryd.prog 38 #[v] w (RetG w [] (fun v' gs => ∃ bv, v' = .tuple #[bv, .int .i64 0] ∧ IsRow 5 1 bv (layF l).length (ucs (layF l)) gs)) := by
  have hK0 : ∀ w' {fs}, St w [] fs w' → Calls Tryd.prog 54 #[v] w' (Ret w' (.int .i64 (chkP l))) := fun w' fs hst => Check_calls l v w' (hv.st hst)
  rw [h] at hK0
  have hK := hK0
  obtain ⟨p, c, rfl, hc, hm⟩ := hv.row.form
  simp only [maxLen] at hm
  have hsm := right_small h
  have hl16 := hsm.1
  refine enter (args := [_]) _ [] [] Tryd.func38 rfl Tryd.ntmps38 rfl (by simp) .nil ?_
  (refine CW.seq ?_; refine CW.region ?_; apply LW.v0; rfl; rfl; apply ValP.assign; rfl; apply LW.v0; rfl; rfl; apply ValP.assign; rfl; apply LW.nil; refine thenN ?_; refine CW.seq ?_; refine CW.seq ?_; refine CW.region ?_; apply LW.v0; rfl; rfl; apply ValP.move; rfl; apply LW.callE; rfl; rfl; infer_instance; apply ArgsOk.cons; rfl; exact ArgsOk.nil; intro w _; exact hK w (by assumption); apply LW.v0; rfl; rfl; apply ValP.assign; rfl; apply LW.nil; refine thenN ?_; refine CW.seq ?_; refine CW.region ?_; apply LW.v0; rfl; rfl; apply ValP.move; rfl; apply LW.v0; rfl; rfl; apply ValP.neF; rfl; rfl; omega; apply LW.nil; refine thenN ?_; apply CW.condF; rfl; (with_reducible rfl); refine CW.skip ?_; refine thenN ?_; refine CW.seq ?_; refine CW.region ?_; apply LW.alloc1; rfl; rfl; intro _; apply LW.nil; refine thenN ?_; refine CW.seq ?_; refine CW.region ?_; apply LW.alloc1; rfl; rfl; intro _; apply LW.nil; refine thenN ?_; refine CW.seq ?_; refine CW.region ?_; apply LW.v0; rfl; rfl; apply ValP.move; rfl; apply LW.v0; rfl; rfl; apply ValP.makeFunc; exact ArgsOk.nil; apply ArgsOk.cons; rfl; apply ArgsOk.cons; rfl; exact ArgsOk.nil)
  rename_i b5 b6
  apply LW.inline
  rfl
  rfl
  infer_instance
  (apply ArgsOk.cons; rfl; apply ArgsOk.cons; rfl; exact ArgsOk.nil)
  rfl
  exact Tryd.func55
  rfl
  exact Tryd.ntmps55
  rfl
  (refine CW.seq ?_; refine CW.region ?_; apply LW.v0; rfl; rfl; apply ValP.move; rfl; apply LW.v0; rfl; rfl; apply ValP.lenR; rfl; infer_instance; rfl; apply LW.v0; rfl; rfl; apply ValP.mulZK; rfl; rfl; decide; omega; apply LW.v0; rfl; rfl; apply ValP.assign; rfl; apply LW.nil; refine thenN ?_; refine CW.seq ?_; refine CW.region ?_; apply LW.v0; rfl; rfl; apply ValP.move; rfl; apply LW.v0; rfl; rfl; apply ValP.lenR; rfl; infer_instance; rfl; apply LW.v0; rfl; rfl; apply ValP.move; rfl; apply LW.nil; refine thenN ?_; refine CW.block ?_)
  refine CW.loop (fun x : TLX => ([(12, .int .i64 (x.m : Int)), (11, .int .i64 (l.length : Int)), (10, .slice p l.length c), (4, .int .i64 (atF l x.m : Int)), (0, .slice p l.length c), (1, .func (.func 56) #[] #[.pointer (some ⟨b5, 0, none⟩), .pointer (some ⟨b6, 0, none⟩)])],
      x.segB ++ (x.segP ++ [(b6, .cells #[x.bv] 28 (0, 0)), (b5, .cells #[x.pv] 96 (0, 0))])))
    (fun x => x.m ≤ l.length ∧ IsRow 5 1 x.bv (behK l x.m).length (ucs (behK l x.m)) x.segB ∧ IsRow 3 1 x.pv (plcK l x.m).length (ics (plcK l x.m)) x.segP ∧ (x.bv = .slice none 0 0 ∨ 0 < (behK l x.m).length)) (fun x => l.length - x.m) ⟨0, .slice none 0 0, [], .slice none 0 0, []⟩
    ⟨Nat.zero_le _, by rw [behK_zero]; exact .nil, by rw [plcK_zero]; exact .nil, .inl rfl⟩ ⟨rfl, rfl, rfl, by rw [atF_zero]; rfl, rfl, rfl, trivial⟩ (List.Sublist.refl _) ?_
  rintro ⟨m, bv, segB, pv, segP⟩ ⟨hm2, hB, hP, h0⟩
  dsimp only at hm2 hB hP h0 ⊢
  obtain ⟨qb, cb, rfl⟩ := hB.form
  obtain ⟨qp, cp, rfl⟩ := hP.form
  rcases Nat.lt_or_ge m l.length with hlt | hge
  · obtain ⟨b, off, c', cs, E, fr, heq, hb, hrd0⟩ := part_rd hv m hlt
    cases heq
    have hrd : Rd Tryd.prog 61 (.cells cs E fr) (off + m * 6) (.agg (psa l[m])) := hrd0
    clear hrd0
    have ho := hv.one _ (List.getElem_mem hlt)
    have hdv := hv.data _ (List.getElem_mem hlt)
    have hpt := pt_eq hlt
    have hd200 := hsm.2 m
    have hbl := beh_len hsm m
    have hpl := plc_len l m
    have hwl := whl_le l[m].db.length
    have hwt := whl_lt l[m].db.length
    have hal : atF l m ≤ 100000 := by unfold atF; omega
    rw [hpt] at hd200
    obtain ⟨q, cq, hq, hcq, _⟩ := hdv.form
    have hr2 : ∀ {E fr} , Rd Tryd.prog 28 (.cells (psa l[m]) E fr) 5 (.slice q l[m].db.length cq) := fun {E fr} => by rw [← hq]; exact ps_rd2
    rw [hq] at hdv
    cases hlg : (pt l m).lg with
    | false =>
      have hlg' : l[m].lg = false := by rw [← hpt]; exact hlg
      have ha1 := atF_short hlg
      have hb1 := behK_short hlg
      have hp1 := plcK_short hlg
      have hr0 : ∀ {E fr} , Rd Tryd.prog 4 (.cells (psa l[m]) E fr) 0 (.bool false) := fun {E fr} => by rw [← hlg']; exact ps_rd0
      (refine CW.seq ?_; refine CW.region ?_; apply LW.v0; rfl; rfl; apply ValP.lssT; rfl; rfl; omega; apply LW.nil; refine thenN ?_; refine CW.seq ?_; apply CW.condT; rfl; (with_reducible rfl); refine CW.skip ?_; refine thenN ?_; refine CW.seq ?_; refine CW.block ?_; refine CW.seq ?_; refine CW.region ?_; apply LW.v0; rfl; rfl; apply ValP.indexAddrS; rfl; rfl; rfl; omega; apply LW.load; rfl; rfl; exact Known.ext (by assumption) (by simp); assumption; apply LW.allocA; rfl; intro _; apply LW.store; rfl; rfl; apply SetAt.head; apply ps_wrW; rfl; assumption; apply LW.nil; refine thenN ?_; refine CW.seq ?_; refine CW.region ?_; apply LW.v0; rfl; rfl; apply ValP.fieldAddr; rfl; rfl; apply LW.load; rfl; rfl; apply Known.at; apply FsAt.head; exact hr0; apply LW.nil; refine thenN ?_; apply CW.condF; rfl; (with_reducible rfl); refine CW.skip ?_; refine blkN ?_; refine thenN ?_; refine CW.region ?_; apply LW.v0; rfl; rfl; apply ValP.addZL; rfl; rfl; decide; omega; apply LW.v0; rfl; rfl; apply ValP.move; rfl; apply LW.nil)
      apply thenX
      refine ⟨rfl, ⟨m + 1, _, segB, _, segP⟩, ⟨hlt, by rw [hb1]; exact hB, by rw [hp1]; exact hP, by rw [hb1]; exact h0⟩, by show l.length - (m + 1) < l.length - m; omega, ⟨rfl, rfl, rfl, by rw [ha1]; rfl, rfl, rfl, trivial⟩, ?_⟩
      dsimp only
      exact List.Sublist.cons _ (List.Sublist.refl _)
    | true =>
      have hlg' : l[m].lg = true := by rw [← hpt]; exact hlg
      have ha1 := atF_long hlg
      have hb1 := behK_long hlg
      have hp1 := plcK_long hlg
      rw [hpt] at ha1 hb1
      have hr0 : ∀ {E fr} , Rd Tryd.prog 4 (.cells (psa l[m]) E fr) 0 (.bool true) := fun {E fr} => by rw [← hlg']; exact ps_rd0
      (refine CW.seq ?_; refine CW.region ?_; apply LW.v0; rfl; rfl; apply ValP.lssT; rfl; rfl; omega; apply LW.nil; refine thenN ?_; refine CW.seq ?_; apply CW.condT; rfl; (with_reducible rfl); refine CW.skip ?_; refine thenN ?_; refine CW.seq ?_; refine CW.block ?_; refine CW.seq ?_; refine CW.region ?_; apply LW.v0; rfl; rfl; apply ValP.indexAddrS; rfl; rfl; rfl; omega; apply LW.load; rfl; rfl; exact Known.ext (by assumption) (by simp); assumption; apply LW.allocA; rfl; intro _; apply LW.store; rfl; rfl; apply SetAt.head; apply ps_wrW; rfl; assumption; apply LW.nil; refine thenN ?_; refine CW.seq ?_; refine CW.region ?_; apply LW.v0; rfl; rfl; apply ValP.fieldAddr; rfl; rfl; apply LW.load; rfl; rfl; apply Known.at; apply FsAt.head; exact hr0; apply LW.nil; refine thenN ?_; apply CW.condT; rfl; (with_reducible rfl); refine CW.seq ?_; refine CW.region ?_; apply LW.v0; rfl; rfl; apply ValP.move; rfl; apply LW.v0; rfl; rfl; apply ValP.move; rfl; apply LW.v0; rfl; rfl; apply ValP.fieldAddr; rfl; rfl; apply LW.load; rfl; rfl; apply Known.at; apply FsAt.head; exact hr2)
      apply LW.inline
      rfl
      rfl
      infer_instance
      (apply ArgsOk.cons; rfl; apply ArgsOk.cons; rfl; exact ArgsOk.nil)
      rfl
      exact Tryd.func56
      rfl
      exact Tryd.ntmps56
      rfl
      (refine CW.seq ?_; refine CW.region ?_; apply LW.load; rfl; rfl; apply Known.at; apply FsAt.tail; apply FsAt.app; apply FsAt.app; apply FsAt.tail; apply FsAt.head; exact Rd.one' rfl; apply LW.v0; rfl; rfl; apply ValP.move; rfl; apply LW.lay1; rfl; infer_instance; infer_instance; rfl; rfl; rfl; rfl; rfl; rfl; intro _)
      (apply LW.append; rfl; rfl; infer_instance; infer_instance; infer_instance; rfl; rfl; rfl; (case hrow => assumption); apply AtSeg.cons; apply AtSeg.cons; apply AtSeg.app; exact AtSeg.head; apply Known.at; apply FsAt.head; rfl; rfl; rfl; omega; simp only [maxLen]; omega; omega; intro v' seg' hrow'; obtain ⟨p', c', rfl⟩ := hrow'.form; (refine ⟨_, (by (repeat (first | exact AtSeg.head | apply AtSeg.cons | apply AtSeg.app))), ?_⟩); (try simp only [List.cons_append, List.nil_append]))
      (apply LW.store; rfl; rfl; apply SetAt.tail; apply SetAt.tail; apply SetAt.app; apply SetAt.app; apply SetAt.tail; apply SetAt.head; apply Wr.cells; rfl; rfl; simp only [List.size_toArray, List.length_cons, List.length_nil]; omega; simp only [fillC, wc, wrCells, Value.cells, List.toList_toArray, List.setIfInBounds_toArray, List.set_cons_succ, List.set_cons_zero, Nat.reduceAdd, Nat.reduceMul, Nat.zero_add, Nat.mul_one]; rfl; apply LW.nil; refine thenN ?_; refine CW.seq ?_)
      apply CW.pre
      (refine AnyW.anyM [(3, fun v gs => IsRow 5 1 v 32 (ucs (beb 32 l[m].db.length)) gs), (4, fun v gs => IsRow 5 1 v ((behK l m).length + 32) (ucs (behK l m) ++ ucs (beb 32 l[m].db.length)) gs)] 6 mixed (by decide +kernel) ?_)
      ((try simp only [tsOf_cons, tsOf_nil, tsOf_app]); apply DW.loadO; rfl; rfl; rfl; exact WantT.none; rfl; apply TRead.tail; apply TRead.tail; apply TRead.app; apply TRead.app; apply TRead.head; exact ancB_nil; exact Rd.one' rfl; apply DW.v0; rfl; rfl; rfl; exact WantT.none; rfl; apply ValP.move; rfl; apply DW.v0; rfl; rfl; rfl; exact WantT.none; rfl; apply ValP.lenR; rfl; infer_instance; rfl)
      (apply DW.manyE; rfl; rfl; rfl; exact WantT.none; rfl; infer_instance; apply ArgsOk.cons; rfl; exact ArgsOk.nil; rfl; exact ReadAll.nil; intro w _ _)
      exact number_calls _ (by omega) w
      intro v1 gs1 hrow1
      obtain ⟨p1, c1, rfl⟩ := hrow1.form
      obtain ⟨g1, cur1, rfl, rfl, hn1, hm1, hs1, ht1⟩ := hrow1.pos (by decide)
      have hc1 : 0 < c1 := by omega
      ((try simp only [tsOf_cons, tsOf_nil, tsOf_app]))
      refine DW.appendV (news := ucs (beb 32 l[m].db.length)) rfl rfl rfl (by (exact WantT.none)) rfl inferInstance inferInstance inferInstance rfl rfl rfl hB h0 (by (apply TOut.cons; apply TOut.cons; apply TOut.cons; exact TOut.old)) (by (apply RdV.own; assumption; apply TRead.head; kernel_rfl; exact RdV.nil)) (fun w' hbel hus => RowAt.us hus hn1 hm1 ht1 (by rw [ucs_len, beb_len])) (ucs_cells _) (by simp only [maxLen]; omega) (by omega) ?_
      intro v2 seg2 hrow2
      obtain ⟨p2, c2, rfl⟩ := hrow2.form
      ((try simp only [tsOf_cons, tsOf_nil, tsOf_app]); apply DW.v0; rfl; rfl; rfl; exact WantT.none; rfl; apply ValP.move; rfl; apply DW.nil; simp only [fsOf_cons, fsOf_nil, fsOf_app, fsOf_tsOf, fsOf_new, fsOf_tag])
      (apply LW.appendAny; (case hrow => assumption); rfl; rfl; infer_instance; infer_instance; infer_instance; rfl; rfl; rfl; exact AtSeg.head)
      · exact fun w hs => hdv.st hs
      · exact ucs_cells _
      · simp only [maxLen]; omega
      · omega
      intro v3 seg3 hrow3
      refine ⟨_, (by (exact AtSeg.head)), ?_⟩
      obtain ⟨p3, c3, rfl⟩ := hrow3.form
      (apply LW.store; rfl; rfl; apply SetAt.app; apply SetAt.tail; apply SetAt.tail; apply SetAt.tail; apply SetAt.app; apply SetAt.head; apply Wr.cells; rfl; rfl; simp only [List.size_toArray, List.length_cons, List.length_nil]; omega; simp only [fillC, wc, wrCells, Value.cells, List.toList_toArray, List.setIfInBounds_toArray, List.set_cons_succ, List.set_cons_zero, Nat.reduceAdd, Nat.reduceMul, Nat.zero_add, Nat.mul_one]; rfl; apply LW.nil; refine thenN ?_; apply CW.pre; refine AnyW.any 7 mixed (by decide +kernel) ?_; (try simp only [tsOf_cons, tsOf_nil, tsOf_app]); apply DW.loadO; rfl; rfl; rfl; exact WantT.none; rfl; apply TRead.app; apply TRead.tail; apply TRead.tail; apply TRead.tail; apply TRead.app; apply TRead.head; exact ancB_nil; exact Rd.one' rfl; apply DW.v0; rfl; rfl; rfl; exact WantT.none; rfl; apply ValP.move; rfl; apply DW.v0; rfl; rfl; rfl; exact WantT.none; rfl; apply ValP.lenR; rfl; infer_instance; rfl; apply DW.callE; rfl; rfl; rfl; exact WantT.none; rfl; infer_instance; apply ArgsOk.cons; rfl; exact ArgsOk.nil; rfl; exact ReadAll.nil; intro w _ _; exact whole_calls _ (by omega) w; apply DW.v0; rfl; rfl; rfl; exact WantT.none; rfl; apply ValP.move; rfl; apply DW.v0; rfl; rfl; rfl; exact WantT.none; rfl; apply ValP.lenR; rfl; infer_instance; rfl; apply DW.v0; rfl; rfl; rfl; exact WantT.none; rfl; apply ValP.subZ; rfl; rfl; omega; omega; apply DW.nil; simp only [fsOf_cons, fsOf_nil, fsOf_app, fsOf_tsOf, fsOf_new, fsOf_tag])
      refine LW.appendZ (m := whl l[m].db.length - l[m].db.length) rfl rfl inferInstance inferInstance inferInstance inferInstance rfl rfl rfl rfl (by (exact AtSeg.head)) hrow3 (by simp only [maxLen]; omega) (by omega) ?_
      intro v4 seg4 hrow4
      refine ⟨_, (by (exact AtSeg.head)), ?_⟩
      obtain ⟨p4, c4, rfl⟩ := hrow4.form
      (apply LW.store; rfl; rfl; apply SetAt.app; apply SetAt.tail; apply SetAt.tail; apply SetAt.tail; apply SetAt.app; apply SetAt.head; apply Wr.cells; rfl; rfl; simp only [List.size_toArray, List.length_cons, List.length_nil]; omega; simp only [fillC, wc, wrCells, Value.cells, List.toList_toArray, List.setIfInBounds_toArray, List.set_cons_succ, List.set_cons_zero, Nat.reduceAdd, Nat.reduceMul, Nat.zero_add, Nat.mul_one]; rfl; apply LW.nil)
      apply inI
      (exact .inr rfl)
      (exact Shut.nil)
      rfl
      (exact ResL.nil)
      rfl
      (apply LW.nil; refine thenN ?_; refine CW.region ?_; apply LW.v0; rfl; rfl; apply ValP.move; rfl; apply LW.v0; rfl; rfl; apply ValP.fieldAddr; rfl; rfl; apply LW.load; rfl; rfl; apply Known.at; apply FsAt.app; apply FsAt.tail; apply FsAt.tail; apply FsAt.head; exact hr2; apply LW.v0; rfl; rfl; apply ValP.lenR; rfl; infer_instance; rfl; apply LW.callE; rfl; rfl; infer_instance; apply ArgsOk.cons; rfl; exact ArgsOk.nil; intro w _; exact whole_calls _ (by omega) w; apply LW.v0; rfl; rfl; apply ValP.addZK; rfl; rfl; decide; omega; apply LW.v0; rfl; rfl; apply ValP.addZ; rfl; rfl; omega; apply LW.v0; rfl; rfl; apply ValP.assign; rfl; apply LW.nil; refine blkN ?_; refine thenN ?_; refine CW.region ?_; apply LW.v0; rfl; rfl; apply ValP.addZL; rfl; rfl; decide; omega; apply LW.v0; rfl; rfl; apply ValP.move; rfl; apply LW.nil)
      apply thenX
      refine ⟨rfl, ⟨m + 1, .slice p4 ((behK l m).length + 32 + l[m].db.length + (whl l[m].db.length - l[m].db.length)) c4, seg4, .slice p' ((plcK l m).length + 1) c', seg'⟩, ⟨hlt, ?_, ?_, .inr ?_⟩, by show l.length - (m + 1) < l.length - m; omega, ⟨rfl, rfl, rfl, by rw [ha1]; rfl, rfl, rfl, trivial⟩, ?_⟩
      · dsimp only
        rw [hb1, ucs_app, ← beh_cells, List.length_append, tlB_len, show (behK l m).length + (32 + whl l[m].db.length) = (behK l m).length + 32 + l[m].db.length + (whl l[m].db.length - l[m].db.length) by omega]
        exact hrow4
      · dsimp only
        rw [hp1, List.length_append, ics_app]
        exact hrow'
      · dsimp only
        rw [hb1, List.length_append, tlB_len]; omega
      · (apply List.Sublist.append_left; apply List.Sublist.cons; apply List.Sublist.cons; apply List.Sublist.cons; exact List.Sublist.refl _)
  · obtain rfl : m = l.length := by omega
    (refine CW.seq ?_; refine CW.region ?_; apply LW.v0; rfl; rfl; apply ValP.lssF; rfl; rfl; omega; apply LW.nil; refine thenN ?_; refine CW.seq ?_; apply CW.condF; rfl; (with_reducible rfl); refine CW.exit ?_; refine thenE ?_; refine thenE ?_; refine blkE rfl ?_)
    apply inI
    (exact .inr rfl)
    (exact Shut.nil)
    rfl
    (exact ResL.nil)
    rfl
    (apply LW.nil; refine thenN ?_; refine CW.seq ?_; refine CW.region ?_; apply LW.v0; rfl; rfl; apply ValP.assign; rfl; apply LW.nil; refine thenN ?_; refine CW.seq ?_; refine CW.seq ?_; refine CW.region ?_; apply LW.v0; rfl; rfl; apply ValP.move; rfl; apply LW.v0; rfl; rfl; apply ValP.lenR; rfl; infer_instance; rfl; apply LW.v0; rfl; rfl; apply ValP.move; rfl; apply LW.nil; refine thenN ?_; refine CW.block ?_)
    refine CW.loop (fun x : LX => ([(20, .int .i64 (x.k : Int)), (19, .int .i64 (l.length : Int)), (18, .slice p l.length c), (7, x.ov), (6, .pointer (some ⟨b6, 0, none⟩)), (5, .pointer (some ⟨b5, 0, none⟩))],
        x.segO ++ (segB ++ (segP ++ [(b6, .cells #[.slice qb (behK l l.length).length cb] 28 (0, 0)), (b5, .cells #[.slice x.q ((plcK l l.length).length - (plcK l x.k).length) x.c] 96 (0, 0))]))))
      (fun x => x.k ≤ l.length ∧ IsRow 5 1 x.ov (32 * x.k) (ucs (hdK l x.k)) x.segO ∧ (x.ov = .slice none 0 0 ∨ 0 < 32 * x.k) ∧ (plcK l l.length).length - (plcK l x.k).length ≤ x.c ∧ (∀ g, qp = some ⟨g, 0, none⟩ → (plcK l x.k).length < (plcK l l.length).length → x.q = some ⟨g, (plcK l x.k).length, none⟩)) (fun x => l.length - x.k) ⟨0, .slice none 0 0, [], qp, cp⟩
      ⟨Nat.zero_le _, by rw [hdK_zero]; exact .nil, .inl rfl, ?_, fun g h1 h2 => by rw [plcK_zero]; exact h1⟩ ⟨rfl, rfl, rfl, rfl, rfl, rfl, trivial⟩ ?_ ?_
    · exact Nat.le_trans (Nat.sub_le _ _) (IsRow.room hP _ _ rfl)
    · dsimp only; rw [plcK_zero]; exact List.Sublist.refl _
    rintro ⟨k, ov, segO, q, c1⟩ ⟨hk2, hO, hO0, hc1, hq⟩
    dsimp only at hk2 hO hO0 hc1 hq ⊢
    obtain ⟨po, co, rfl⟩ := hO.form
    rcases Nat.lt_or_ge k l.length with hlt | hge
    · obtain ⟨b, off, c', cs, E, fr, heq, hb, hrd0⟩ := part_rd hv k hlt
      cases heq
      have hrd : Rd Tryd.prog 61 (.cells cs E fr) (off + k * 6) (.agg (psa l[k])) := hrd0
      clear hrd0
      have ho := hv.one _ (List.getElem_mem hlt)
      have hwd := hv.small _ (List.getElem_mem hlt)
      have hpt := pt_eq hlt
      have hbl := beh_len hsm k
      have hpl := plc_len l k
      have hal : atF l k ≤ 100000 := by unfold atF; omega
      have hr2 : True := trivial
      cases hlg : (pt l k).lg with
      | false =>
        have hlg' : l[k].lg = false := by rw [← hpt]; exact hlg
        have hb1 := hdK_short hlg
        have hp1 := plcK_short hlg
        rw [hpt] at hb1
        have hr0 : ∀ {E fr} , Rd Tryd.prog 4 (.cells (psa l[k]) E fr) 0 (.bool false) := fun {E fr} => by rw [← hlg']; exact ps_rd0
        (refine CW.seq ?_; refine CW.region ?_; apply LW.v0; rfl; rfl; apply ValP.lssT; rfl; rfl; omega; apply LW.nil; refine thenN ?_; refine CW.seq ?_; apply CW.condT; rfl; (with_reducible rfl); refine CW.skip ?_; refine thenN ?_; refine CW.seq ?_; refine CW.block ?_; refine CW.seq ?_; refine CW.region ?_; apply LW.v0; rfl; rfl; apply ValP.indexAddrS; rfl; rfl; rfl; omega; apply LW.load; rfl; rfl; exact Known.ext (by assumption) (by simp); assumption; apply LW.allocA; rfl; intro _; apply LW.store; rfl; rfl; apply SetAt.head; apply ps_wrW; rfl; assumption; apply LW.nil; refine thenN ?_; refine CW.seq ?_; refine CW.seq ?_; refine CW.region ?_; apply LW.v0; rfl; rfl; apply ValP.fieldAddr; rfl; rfl; apply LW.load; rfl; rfl; apply Known.at; apply FsAt.head; exact hr0; apply LW.v0; rfl; rfl; apply ValP.notF; rfl; (with_reducible rfl); apply LW.nil; refine thenN ?_; apply CW.condT; rfl; (with_reducible rfl); refine CW.seq ?_; refine CW.region ?_; apply LW.v0; rfl; rfl; apply ValP.move; rfl; apply LW.v0; rfl; rfl; apply ValP.fieldAddr; rfl; rfl; apply LW.load; rfl; rfl; apply Known.at; apply FsAt.head; exact ps_rd1)
        refine LW.callR rfl rfl inferInstance (by (apply ArgsOk.cons; rfl; exact ArgsOk.nil)) (fun w hst => Bytes_calls _ hwd w) ?_
        intro v1 gs1 hrow1
        skip
        refine LW.appendAny (m := 32) (news := ucs (beb 32 l[k].wd)) rfl rfl inferInstance inferInstance inferInstance rfl rfl rfl (by (apply AtSeg.app; apply AtSeg.cons; exact AtSeg.head)) hO (fun w' hst => hrow1.atSeg (by (exact AtSeg.head)) hst) (ucs_cells _) (by simp only [maxLen]; omega) (by omega) ?_
        intro v2 seg2 hrow2
        refine ⟨_, (by (apply AtSeg.app; apply AtSeg.cons; exact AtSeg.head)), ?_⟩
        (apply LW.v0; rfl; rfl; apply ValP.assign; rfl; apply LW.nil; refine thenN ?_; refine CW.exit ?_; refine thenE ?_; refine blkE rfl ?_; refine thenN ?_; refine CW.region ?_; apply LW.v0; rfl; rfl; apply ValP.addZL; rfl; rfl; decide; omega; apply LW.v0; rfl; rfl; apply ValP.move; rfl; apply LW.nil)
        apply thenX
        refine ⟨rfl, ⟨k + 1, v2, seg2, q, c1⟩, ⟨hlt, ?_, .inr (by show 0 < 32 * (k + 1); omega), by rw [hp1]; exact hc1, by rw [hp1]; exact hq⟩, by show l.length - (k + 1) < l.length - k; omega, ⟨rfl, rfl, rfl, rfl, rfl, rfl, trivial⟩, ?_⟩
        · dsimp only
          rw [hb1, ucs_app, Nat.mul_succ]
          exact hrow2
        · dsimp only
          rw [hp1]
          (apply List.sublist_append_of_sublist_right; apply List.Sublist.cons; exact List.Sublist.refl _)
      | true =>
        have hlg' : l[k].lg = true := by rw [← hpt]; exact hlg
        have hb1 := hdK_long hlg
        have hp1 := plcK_long hlg
        have hr0 : ∀ {E fr} , Rd Tryd.prog 4 (.cells (psa l[k]) E fr) 0 (.bool true) := fun {E fr} => by rw [← hlg']; exact ps_rd0
        obtain ⟨hg1, hg2⟩ := plc_get hlt hlg
        obtain ⟨g, cur, hqp, hsegP, hn1, hm1, hs1, ht1⟩ := hP.pos (by omega)
        have hq1 := hq g hqp hg2
        subst hq1
        subst hsegP
        have hrdp : Rd Tryd.prog 3 (.cells cur 3 (0, 0)) ((plcK l k).length + 0 * 1) (.int .i64 (atF l k : Int)) := by
          rw [show (plcK l k).length + 0 * 1 = 0 + (plcK l k).length * 1 by omega]
          exact Rd.elem1 (g := fun b : Nat => [Value.int .i64 (b : Int)]) (by rw [List.drop_zero]; exact ht1) (ics_len _) hg1 rfl
        have hcut : cutAt (some ⟨g, (plcK l k).length, none⟩) 1 ((plcK l l.length).length - (plcK l k).length) c1 1 = .slice (if c1 = 1 then some ⟨g, (plcK l k).length, none⟩ else some ⟨g, (plcK l k).length + 1, none⟩) ((plcK l l.length).length - ((plcK l k).length + 1)) (c1 - 1) := by
          unfold cutAt
          split <;> rfl
        (refine CW.seq ?_; refine CW.region ?_; apply LW.v0; rfl; rfl; apply ValP.lssT; rfl; rfl; omega; apply LW.nil; refine thenN ?_; refine CW.seq ?_; apply CW.condT; rfl; (with_reducible rfl); refine CW.skip ?_; refine thenN ?_; refine CW.seq ?_; refine CW.block ?_; refine CW.seq ?_; refine CW.region ?_; apply LW.v0; rfl; rfl; apply ValP.indexAddrS; rfl; rfl; rfl; omega; apply LW.load; rfl; rfl; exact Known.ext (by assumption) (by simp); assumption; apply LW.allocA; rfl; intro _; apply LW.store; rfl; rfl; apply SetAt.head; apply ps_wrW; rfl; assumption; apply LW.nil; refine thenN ?_; refine CW.seq ?_; refine CW.seq ?_; refine CW.region ?_; apply LW.v0; rfl; rfl; apply ValP.fieldAddr; rfl; rfl; apply LW.load; rfl; rfl; apply Known.at; apply FsAt.head; exact hr0; apply LW.v0; rfl; rfl; apply ValP.notT; rfl; (with_reducible rfl); apply LW.nil; refine thenN ?_; apply CW.condF; rfl; (with_reducible rfl); refine CW.skip ?_; refine thenN ?_)
        apply CW.pre
        (refine AnyW.anyM [(4, fun v gs => IsRow 5 1 v 32 (ucs (beb 32 (atF l k))) gs), (5, fun v gs => IsRow 5 1 v (32 * k + 32) (ucs (hdK l k) ++ ucs (beb 32 (atF l k))) gs)] 9 mixed (by decide +kernel) ?_)
        ((try simp only [tsOf_cons, tsOf_nil, tsOf_app]); apply DW.v0; rfl; rfl; rfl; exact WantT.none; rfl; apply ValP.move; rfl; apply DW.loadO; rfl; rfl; rfl; exact WantT.none; rfl; apply TRead.tail; apply TRead.app; apply TRead.app; apply TRead.tail; apply TRead.tail; apply TRead.head; exact ancB_nil; exact Rd.one' rfl; apply DW.v0; rfl; rfl; rfl; exact WantT.none; rfl; apply ValP.indexAddrSL; rfl; rfl; decide; omega; apply DW.loadO; rfl; rfl; rfl; exact WantT.none; rfl; apply TRead.tail; apply TRead.app; apply TRead.app; apply TRead.head; exact ancB_nil; assumption)
        (apply DW.manyE; rfl; rfl; rfl; exact WantT.none; rfl; infer_instance; apply ArgsOk.cons; rfl; exact ArgsOk.nil; rfl; exact ReadAll.nil; intro w _ _)
        exact number_calls _ (by omega) w
        intro v1 gs1 hrow1
        obtain ⟨p1, c3, rfl⟩ := hrow1.form
        obtain ⟨g1, cur1, rfl, rfl, hn3, hm3, hs3, ht3⟩ := hrow1.pos (by decide)
        have hc3 : 0 < c3 := by omega
        ((try simp only [tsOf_cons, tsOf_nil, tsOf_app]))
        refine DW.appendV (news := ucs (beb 32 (atF l k))) rfl rfl rfl (by (exact WantT.none)) rfl inferInstance inferInstance inferInstance rfl rfl rfl hO hO0 (by (apply TOut.cons; apply TOut.cons; exact TOut.old)) (by (apply RdV.own; assumption; apply TRead.head; kernel_rfl; exact RdV.nil)) (fun w' hbel hus => RowAt.us hus hn3 hm3 ht3 (by rw [ucs_len, beb_len])) (ucs_cells _) (by simp only [maxLen]; omega) (by omega) ?_
        intro v2 seg2 hrow2
        obtain ⟨p2, c4, rfl⟩ := hrow2.form
        ((try simp only [tsOf_cons, tsOf_nil, tsOf_app]); apply DW.loadO; rfl; rfl; rfl; exact WantT.none; rfl; apply TRead.app; apply TRead.tail; apply TRead.tail; apply TRead.app; apply TRead.tail; apply TRead.tail; apply TRead.head; exact ancB_nil; exact Rd.one' rfl; apply DW.v0; rfl; rfl; rfl; exact WantT.none; rfl; apply ValP.cutFromL; infer_instance; infer_instance; rfl; rfl; decide; omega; apply DW.v0; rfl; rfl; rfl; exact WantT.none; rfl; apply ValP.assign; rfl; apply DW.nil; simp only [fsOf_cons, fsOf_nil, fsOf_app, fsOf_tsOf, fsOf_new, fsOf_tag])
        rw [hcut]
        (apply LW.store; rfl; rfl; apply SetAt.app; apply SetAt.tail; apply SetAt.tail; apply SetAt.app; apply SetAt.tail; apply SetAt.tail; apply SetAt.head; apply Wr.cells; rfl; rfl; simp only [List.size_toArray, List.length_cons, List.length_nil]; omega; simp only [fillC, wc, wrCells, Value.cells, List.toList_toArray, List.setIfInBounds_toArray, List.set_cons_succ, List.set_cons_zero, Nat.reduceAdd, Nat.reduceMul, Nat.zero_add, Nat.mul_one]; rfl; apply LW.nil; refine blkN ?_; refine thenN ?_; refine CW.region ?_; apply LW.v0; rfl; rfl; apply ValP.addZL; rfl; rfl; decide; omega; apply LW.v0; rfl; rfl; apply ValP.move; rfl; apply LW.nil)
        apply thenX
        refine ⟨rfl, ⟨k + 1, .slice p2 (32 * k + 32) c4, seg2, (if c1 = 1 then some ⟨g, (plcK l k).length, none⟩ else some ⟨g, (plcK l k).length + 1, none⟩), c1 - 1⟩, ⟨hlt, ?_, .inr (by show 0 < 32 * (k + 1); omega), ?_, ?_⟩, by show l.length - (k + 1) < l.length - k; omega, ⟨rfl, rfl, rfl, rfl, rfl, rfl, trivial⟩, ?_⟩
        · dsimp only
          rw [hb1, ucs_app, Nat.mul_succ]
          exact hrow2
        · dsimp only
          rw [hp1, List.length_append, List.length_singleton]; omega
        rotate_left
        · dsimp only
          rw [hp1, List.length_append, List.length_singleton]
          (apply List.Sublist.append_left; apply List.Sublist.cons; apply List.Sublist.cons; exact List.Sublist.refl _)
        · intro g' h1 h2
          dsimp only at h2 ⊢
          rw [hqp] at h1
          cases h1
          rw [hp1, List.length_append, List.length_singleton] at h2 ⊢
          rw [if_neg (by omega)]
    · obtain rfl : k = l.length := by omega
      (refine CW.seq ?_; refine CW.region ?_; apply LW.v0; rfl; rfl; apply ValP.lssF; rfl; rfl; omega; apply LW.nil; refine thenN ?_; refine CW.seq ?_; apply CW.condF; rfl; (with_reducible rfl); refine CW.exit ?_; refine thenE ?_; refine thenE ?_; refine blkE rfl ?_; refine thenN ?_; refine CW.seq ?_; refine CW.region ?_; apply LW.v0; rfl; rfl; apply ValP.move; rfl; apply LW.load; rfl; rfl; apply Known.at; apply FsAt.app; apply FsAt.app; apply FsAt.app; apply FsAt.head; exact Rd.one' rfl)
      refine LW.appendAny (m := (behK l l.length).length) (news := ucs (behK l l.length)) rfl rfl inferInstance inferInstance inferInstance rfl rfl rfl (by (exact AtSeg.head)) hO (fun w' hst => hB.atSeg (by (apply AtSeg.app; exact AtSeg.head)) hst) (ucs_cells _) (by simp only [maxLen]; have := beh_len hsm l.length; omega) (by have := beh_len hsm l.length; omega) ?_
      intro v2 seg2 hrow2
      refine ⟨_, (by (exact AtSeg.head)), ?_⟩
      (apply LW.v0; rfl; rfl; apply ValP.assign; rfl; apply LW.v0; rfl; rfl; apply ValP.assign; rfl; apply LW.nil; refine thenN ?_; refine CW.ret ?_)
      refine fin (vs := [v2, .int .i64 0]) seg2 (.inl rfl) rfl rfl (by (apply ResL.cons; exact Res.tmp rfl; apply ResL.cons; exact Res.tmp rfl; exact ResL.nil)) ?_ ⟨v2, rfl, ?_⟩
      · exact List.sublist_append_left _ _
      · rw [layF, ucs_app, List.length_append, hdK_len]
        exact hrow2
end Go.Proofs.YtobkhnmglbfheaaDoor

/-
  Contracts of the pack: how many bytes parts have.
  Conditions: none.
-/
namespace Go.Proofs.YtobkhnmglbfheaaDoor
open Go Go.RowKit SL
set_option maxRecDepth 8000
set_option maxHeartbeats 4000000
set_option linter.unusedSimpArgs false
set_option linter.unusedVariables false
attribute [local irreducible] SL.CW SL.LW SL.DW Calls SL.Ret SL.RetG SL.beginQ SL.roundQ SL.rangeQ SL.inQ SL.RW SL.AnyW SL.thenQ SL.thenC SL.thenW SL.blkQ SL.finQ SL.ValP SL.NewP SL.SetP SL.CallP SL.Rd SL.Wr SL.Known
theorem layF_len (l : List PartV) : (layF l).length = atF l l.length := by rw [layF, List.length_append, hdK_len, atF]
end Go.Proofs.YtobkhnmglbfheaaDoor

/-
  Contracts of the pack: what is left of bytes.
  Conditions: none.
-/
namespace Go.Proofs.YtobkhnmglbfheaaDoor
open Go Go.RowKit SL
set_option maxRecDepth 8000
set_option maxHeartbeats 4000000
set_option linter.unusedSimpArgs false
set_option linter.unusedVariables false
attribute [local irreducible] SL.CW SL.LW SL.DW Calls SL.Ret SL.RetG SL.beginQ SL.roundQ SL.rangeQ SL.inQ SL.RW SL.AnyW SL.thenQ SL.thenC SL.thenW SL.blkQ SL.finQ SL.ValP SL.NewP SL.SetP SL.CallP SL.Rd SL.Wr SL.Known
/-! ### Taking bytes -/
def tkBad (bad : Bool) (l : List UInt8) (n : Nat) : Bool := bad || decide (l.length < n)
def tkB (bad : Bool) (l : List UInt8) (n : Nat) : List UInt8 := if tkBad bad l n then [] else l.take n
def tkL (bad : Bool) (l : List UInt8) (n : Nat) : List UInt8 := if tkBad bad l n then l else l.drop n
theorem tkB_bad {bad : Bool} {l : List UInt8} {n : Nat} (h : tkBad bad l n = true) : tkB bad l n = [] := by rw [tkB, if_pos h]
theorem tkL_bad {bad : Bool} {l : List UInt8} {n : Nat} (h : tkBad bad l n = true) : tkL bad l n = l := by rw [tkL, if_pos h]
theorem tkB_ok {bad : Bool} {l : List UInt8} {n : Nat} (h : tkBad bad l n = false) : tkB bad l n = l.take n := by rw [tkB, if_neg (by simp [h])]
theorem tkL_ok {bad : Bool} {l : List UInt8} {n : Nat} (h : tkBad bad l n = false) : tkL bad l n = l.drop n := by rw [tkL, if_neg (by simp [h])]
theorem tkB_len (bad : Bool) (l : List UInt8) (n : Nat) : (tkB bad l n).length ≤ n := by
  cases h : tkBad bad l n with
  | true => rw [tkB_bad h]; exact Nat.zero_le _
  | false => rw [tkB_ok h, List.length_take]; exact Nat.min_le_left _ _
theorem cells_cut (p : Option Addr) (k n c sz : Nat) : (cutAt p k n c sz).cells = #[cutAt p k n c sz] := rfl
theorem row_taken {W : World} {l : List UInt8} {n : Nat} {p : Option Addr} {c : Nat} (h : RowAt W 1 (.slice p l.length c) l.length (ucs l)) (hn : n ≤ l.length) : RowAt W 1 (.slice p n c) (l.take n).length (ucs (l.take n)) := by
  have := h.take (k := n) hn
  rw [ucs_take] at this
  rwa [List.length_take, Nat.min_eq_left hn]
theorem row_left {W : World} {l : List UInt8} {n : Nat} {p : Option Addr} {c : Nat} (h : RowAt W 1 (.slice p l.length c) l.length (ucs l)) (hn : n ≤ l.length) : RowAt W 1 (cutAt p n l.length c 1) (l.drop n).length (ucs (l.drop n)) := by
  have := h.drop (k := n) hn
  rw [ucs_drop] at this
  rwa [List.length_drop]
theorem take_calls {W w0 : World} {S : List Nat} {b E : Nat} {lv : Value} {bad : Bool} {rs : List Value} {l : List UInt8} (hrow : RowAt W 1 lv l.length (ucs l)) (n : Nat) (hn : n ≤ 1000000000) (pre post : Fs) (w : World) (hs : St w0 S (pre ++ (b, .cells (lv :: .bool bad :: rs).toArray E (0, 0)) :: post) w) :
    Calls Tryd.prog 68 #[.pointer (some ⟨b, 0, none⟩), .int .i64 (n : Int)] w (fun x w' => ∃ v fs', x = .returned v ∧ (∃ lv', RowAt W 1 v (tkB bad l n).length (ucs (tkB bad l n)) ∧ RowAt W 1 lv' (tkL bad l n).length (ucs (tkL bad l n)) ∧ fs' = pre ++ (b, .cells (lv' :: .bool (tkBad bad l n) :: rs).toArray E (0, 0)) :: post) ∧ St w0 S fs' w') := by
  obtain ⟨p, c, rfl, hc, hm⟩ := hrow.form
  refine calls_inline (args := [_, _]) Tryd.func68 rfl Tryd.ntmps68 rfl ?_ hs
  cases bad with
  | true =>
    have hb : tkBad true l n = true := rfl
    rw [tkB_bad hb, tkL_bad hb, hb]
    (refine CW.seq ?_; refine CW.region ?_; apply LW.v0; rfl; rfl; apply ValP.assign; rfl; apply LW.nil; refine thenN ?_; refine CW.seq ?_; refine CW.seq ?_; refine CW.region ?_; apply LW.v0; rfl; rfl; apply ValP.move; rfl; apply LW.v0; rfl; rfl; apply ValP.nilCheck; rfl; apply LW.v0; rfl; rfl; apply ValP.fieldAddr; rfl; rfl; apply LW.load; rfl; rfl; apply Known.at; apply FsAt.app; apply FsAt.head; apply Rd.one'; rfl; apply LW.v0; rfl; rfl; apply ValP.move; rfl; apply LW.guardF'; rfl; rfl; simp only [Bool.not_true, Bool.not_false]; rfl; apply LW.guardF'; rfl; rfl; simp only [Bool.not_true, Bool.not_false]; rfl; apply LW.guardF'; rfl; rfl; simp only [Bool.not_true, Bool.not_false]; rfl; apply LW.guardF'; rfl; rfl; simp only [Bool.not_true, Bool.not_false]; rfl; apply LW.guardF'; rfl; rfl; simp only [Bool.not_true, Bool.not_false]; rfl; apply LW.guardF'; rfl; rfl; simp only [Bool.not_true, Bool.not_false]; rfl; apply LW.guardF'; rfl; rfl; simp only [Bool.not_true, Bool.not_false]; rfl; apply LW.v0; rfl; rfl; apply ValP.pickT'; rfl; (with_reducible rfl); rfl; apply LW.nil; refine thenN ?_; apply CW.condT; rfl; (with_reducible rfl); refine CW.seq ?_; refine CW.region ?_; apply LW.v0; rfl; rfl; apply ValP.move; rfl; apply LW.v0; rfl; rfl; apply ValP.nilCheck; rfl; apply LW.v0; rfl; rfl; apply ValP.fieldAddr; rfl; rfl; apply LW.store; rfl; rfl; apply SetAt.app; apply SetAt.head; apply Wr.cells; rfl; rfl; simp only [List.size_toArray, List.length_cons, List.length_nil]; omega; simp only [cells_cut, wrCells, List.setIfInBounds_toArray, List.set_cons_succ, List.set_cons_zero, Nat.reduceAdd, Nat.zero_add]; rfl; apply LW.nil; refine thenN ?_; refine CW.seq ?_; refine CW.region ?_; apply LW.v0; rfl; rfl; apply ValP.assign; rfl; apply LW.nil; refine thenN ?_; refine CW.ret ?_; refine thenR ?_)
    apply inI
    (exact .inl rfl)
    (exact Shut.nil)
    rfl
    (apply ResL.cons; exact Res.tmp rfl; exact ResL.nil)
    rfl
    exact ⟨_, RowAt.nil, hrow, rfl⟩
  | false =>
    rcases Nat.lt_or_ge l.length n with hlt | hge
    · have hb : tkBad false l n = true := by simp [tkBad, hlt]
      rw [tkB_bad hb, tkL_bad hb, hb]
      (refine CW.seq ?_; refine CW.region ?_; apply LW.v0; rfl; rfl; apply ValP.assign; rfl; apply LW.nil; refine thenN ?_; refine CW.seq ?_; refine CW.seq ?_; refine CW.region ?_; apply LW.v0; rfl; rfl; apply ValP.move; rfl; apply LW.v0; rfl; rfl; apply ValP.nilCheck; rfl; apply LW.v0; rfl; rfl; apply ValP.fieldAddr; rfl; rfl; apply LW.load; rfl; rfl; apply Known.at; apply FsAt.app; apply FsAt.head; apply Rd.one'; rfl; apply LW.v0; rfl; rfl; apply ValP.move; rfl; apply LW.guardT'; rfl; rfl; (with_reducible rfl); apply LW.v0; rfl; rfl; apply ValP.move; rfl; apply LW.guardT'; rfl; rfl; (with_reducible rfl); apply LW.v0; rfl; rfl; apply ValP.move; rfl; apply LW.guardT'; rfl; rfl; (with_reducible rfl); apply LW.v0; rfl; rfl; apply ValP.nilCheck; rfl; apply LW.guardT'; rfl; rfl; (with_reducible rfl); apply LW.v0; rfl; rfl; apply ValP.fieldAddr; rfl; rfl; apply LW.guardT'; rfl; rfl; (with_reducible rfl); apply LW.load; rfl; rfl; apply Known.at; apply FsAt.app; apply FsAt.head; apply Rd.one'; rfl; apply LW.guardT'; rfl; rfl; (with_reducible rfl); apply LW.v0; rfl; rfl; apply ValP.lenR; rfl; infer_instance; rfl; apply LW.guardT'; rfl; rfl; (with_reducible rfl); apply LW.v0; rfl; rfl; apply ValP.gtrT; rfl; rfl; omega; apply LW.v0; rfl; rfl; apply ValP.pickF'; rfl; (with_reducible rfl); rfl; apply LW.nil; refine thenN ?_; apply CW.condT; rfl; (with_reducible rfl); refine CW.seq ?_; refine CW.region ?_; apply LW.v0; rfl; rfl; apply ValP.move; rfl; apply LW.v0; rfl; rfl; apply ValP.nilCheck; rfl; apply LW.v0; rfl; rfl; apply ValP.fieldAddr; rfl; rfl; apply LW.store; rfl; rfl; apply SetAt.app; apply SetAt.head; apply Wr.cells; rfl; rfl; simp only [List.size_toArray, List.length_cons, List.length_nil]; omega; simp only [cells_cut, wrCells, List.setIfInBounds_toArray, List.set_cons_succ, List.set_cons_zero, Nat.reduceAdd, Nat.zero_add]; rfl; apply LW.nil; refine thenN ?_; refine CW.seq ?_; refine CW.region ?_; apply LW.v0; rfl; rfl; apply ValP.assign; rfl; apply LW.nil; refine thenN ?_; refine CW.ret ?_; refine thenR ?_)
      apply inI
      (exact .inl rfl)
      (exact Shut.nil)
      rfl
      (apply ResL.cons; exact Res.tmp rfl; exact ResL.nil)
      rfl
      exact ⟨_, RowAt.nil, hrow, rfl⟩
    · have hb : tkBad false l n = false := by simp [tkBad, hge]
      rw [tkB_ok hb, tkL_ok hb, hb]
      (refine CW.seq ?_; refine CW.region ?_; apply LW.v0; rfl; rfl; apply ValP.assign; rfl; apply LW.nil; refine thenN ?_; refine CW.seq ?_; refine CW.seq ?_; refine CW.region ?_; apply LW.v0; rfl; rfl; apply ValP.move; rfl; apply LW.v0; rfl; rfl; apply ValP.nilCheck; rfl; apply LW.v0; rfl; rfl; apply ValP.fieldAddr; rfl; rfl; apply LW.load; rfl; rfl; apply Known.at; apply FsAt.app; apply FsAt.head; apply Rd.one'; rfl; apply LW.v0; rfl; rfl; apply ValP.move; rfl; apply LW.guardT'; rfl; rfl; (with_reducible rfl); apply LW.v0; rfl; rfl; apply ValP.move; rfl; apply LW.guardT'; rfl; rfl; (with_reducible rfl); apply LW.v0; rfl; rfl; apply ValP.move; rfl; apply LW.guardT'; rfl; rfl; (with_reducible rfl); apply LW.v0; rfl; rfl; apply ValP.nilCheck; rfl; apply LW.guardT'; rfl; rfl; (with_reducible rfl); apply LW.v0; rfl; rfl; apply ValP.fieldAddr; rfl; rfl; apply LW.guardT'; rfl; rfl; (with_reducible rfl); apply LW.load; rfl; rfl; apply Known.at; apply FsAt.app; apply FsAt.head; apply Rd.one'; rfl; apply LW.guardT'; rfl; rfl; (with_reducible rfl); apply LW.v0; rfl; rfl; apply ValP.lenR; rfl; infer_instance; rfl; apply LW.guardT'; rfl; rfl; (with_reducible rfl); apply LW.v0; rfl; rfl; apply ValP.gtrF; rfl; rfl; omega; apply LW.v0; rfl; rfl; apply ValP.pickF'; rfl; (with_reducible rfl); rfl; apply LW.nil; refine thenN ?_; apply CW.condF; rfl; (with_reducible rfl); refine CW.skip ?_; refine thenN ?_; refine CW.seq ?_; refine CW.region ?_; apply LW.v0; rfl; rfl; apply ValP.move; rfl; apply LW.v0; rfl; rfl; apply ValP.nilCheck; rfl; apply LW.v0; rfl; rfl; apply ValP.fieldAddr; rfl; rfl; apply LW.load; rfl; rfl; apply Known.at; apply FsAt.app; apply FsAt.head; apply Rd.one'; rfl; apply LW.v0; rfl; rfl; apply ValP.move; rfl; apply LW.v0; rfl; rfl; apply ValP.cutTo; infer_instance; infer_instance; rfl; rfl; omega; apply LW.v0; rfl; rfl; apply ValP.assign; rfl; apply LW.nil; refine thenN ?_; refine CW.seq ?_; refine CW.region ?_; apply LW.v0; rfl; rfl; apply ValP.move; rfl; apply LW.v0; rfl; rfl; apply ValP.move; rfl; apply LW.v0; rfl; rfl; apply ValP.nilCheck; rfl; apply LW.v0; rfl; rfl; apply ValP.fieldAddr; rfl; rfl; apply LW.load; rfl; rfl; apply Known.at; apply FsAt.app; apply FsAt.head; apply Rd.one'; rfl; apply LW.v0; rfl; rfl; apply ValP.move; rfl; apply LW.v0; rfl; rfl; apply ValP.cutFrom; infer_instance; infer_instance; rfl; rfl; omega; apply LW.v0; rfl; rfl; apply ValP.nilCheck; rfl; apply LW.v0; rfl; rfl; apply ValP.fieldAddr; rfl; rfl; apply LW.store; rfl; rfl; apply SetAt.app; apply SetAt.head; apply Wr.cells; rfl; rfl; simp only [List.size_toArray, List.length_cons, List.length_nil]; omega; simp only [cells_cut, wrCells, List.setIfInBounds_toArray, List.set_cons_succ, List.set_cons_zero, Nat.reduceAdd, Nat.zero_add]; rfl; apply LW.nil; refine thenN ?_; refine CW.seq ?_; refine CW.region ?_; apply LW.v0; rfl; rfl; apply ValP.move; rfl; apply LW.v0; rfl; rfl; apply ValP.assign; rfl; apply LW.nil; refine thenN ?_; refine CW.ret ?_)
      apply inI
      (exact .inl rfl)
      (exact Shut.nil)
      rfl
      (apply ResL.cons; exact Res.tmp rfl; exact ResL.nil)
      rfl
      exact ⟨_, row_taken hrow hge, row_left hrow hge, rfl⟩
theorem calls_sub {P : Program} {f : FuncId} {args : Array Value} {w w0 : World} {S : List Nat} {K : Value → Fs → Prop} (h : Calls P f args w (fun x w' => ∃ v fs', x = .returned v ∧ (∃ fs2, List.Sublist fs2 fs' ∧ K v fs2) ∧ St w0 S fs' w')) :
    Calls P f args w (fun x w' => ∃ v fs', x = .returned v ∧ K v fs' ∧ St w0 S fs' w') :=
  Calls.mono h fun x w' ⟨v, fs', hx, ⟨fs2, hf, hK⟩, hs⟩ => ⟨v, fs2, hx, hK, hs.bel, fun p hp => hs.own p (hf.subset hp), hs.nd.sublist hf⟩
theorem atSeg_one {b : Nat} {o : Obj} {post : Fs} : AtSeg ((b, o) :: post) [] [(b, o)] post := AtSeg.head (seg := [(b, o)])
section lw
variable {w0 : World} {S : List Nat} {N : Nat} {ds : List Deferred} {r : Option Nat} {ops : Array Oper} {Q : Post} {rest : List Oper} {e : Env} {fs : Fs} {d : Nat} {t : TypeId} {pos : String} {af : Array Edge}
/-- A call of take. -/
theorem LW.takeR {fo : Operand} {args : Array Operand} {tys : Array TypeId} {W : World} {b E n : Nat} {lv : Value} {bad : Bool} {rs : List Value} {l : List UInt8} {pre post : Fs} (hd : Nat.blt d N = true) (hf : e.ev fo = some (.func (.func 68) #[] #[])) (ha : ArgsOk e args.toList [.pointer (some ⟨b, 0, none⟩), .int .i64 (n : Int)])
    (hrow : RowAt W 1 lv l.length (ucs l)) (hn : n ≤ 1000000000) (hseg : AtSeg fs pre [(b, .cells (lv :: .bool bad :: rs).toArray E (0, 0))] post)
    (k : ∀ v lv', RowAt W 1 v (tkB bad l n).length (ucs (tkB bad l n)) → RowAt W 1 lv' (tkL bad l n).length (ucs (tkL bad l n)) → ∃ fs', AtSeg fs' pre [(b, .cells (lv' :: .bool (tkBad bad l n) :: rs).toArray E (0, 0))] post ∧ LW ⟨Tryd.prog, w0, S, N, ds, r⟩ ops Q rest ((d, v) :: e) fs') :
    LW ⟨Tryd.prog, w0, S, N, ds, r⟩ ops Q (⟨some d, .call { callee := .value fo, args := args, argTypes := tys }, t, pos, af, none⟩ :: rest) e fs := by
  refine LW.callSt (C := ⟨Tryd.prog, w0, S, N, ds, r⟩) hd hf inferInstance ha (fun w hs => take_calls hrow n hn pre post w (by have h := hs; rw [hseg.eq] at h; exact h)) ?_
  rintro v fs' ⟨lv', h1, h2, rfl⟩
  obtain ⟨fs2, h3, h4⟩ := k v lv' h1 h2
  rw [h3.eq] at h4
  exact h4
end lw
theorem word_calls {w0 : World} {b E : Nat} {lv : Value} {bad : Bool} {rs : List Value} {l : List UInt8} (hrow : RowAt w0 1 lv l.length (ucs l)) (pre post : Fs) (w : World) (hs : St w0 [] (pre ++ (b, .cells (lv :: .bool bad :: rs).toArray E (0, 0)) :: post) w) :
    Calls Tryd.prog 65 #[.pointer (some ⟨b, 0, none⟩)] w (fun x w' => ∃ v fs', x = .returned v ∧ (v = wv (bev (tkB bad l 32)) ∧ ∃ lv', RowAt w0 1 lv' (tkL bad l 32).length (ucs (tkL bad l 32)) ∧ fs' = pre ++ (b, .cells (lv' :: .bool (tkBad bad l 32) :: rs).toArray E (0, 0)) :: post) ∧ St w0 [] fs' w') := by
  refine calls_sub ?_
  refine calls_inline (args := [_]) Tryd.func65 rfl Tryd.ntmps65 rfl ?_ hs
  (refine CW.seq ?_; refine CW.region ?_; apply LW.allocW; rfl; intro _; apply LW.nil; refine thenN ?_; refine CW.seq ?_; refine CW.region ?_; apply LW.v0; rfl; rfl; apply ValP.move; rfl)
  refine LW.takeR (n := 32) rfl rfl (by (apply ArgsOk.cons; rfl; apply ArgsOk.cons; rfl; exact ArgsOk.nil)) hrow (by omega) (by (apply AtSeg.cons; apply AtSeg.app; exact atSeg_one)) ?_
  intro v lv' hv hl
  refine ⟨_, (by (apply AtSeg.cons; apply AtSeg.app; exact AtSeg.head)), ?_⟩
  (apply LW.callE; rfl; rfl; infer_instance; apply ArgsOk.cons; rfl; exact ArgsOk.nil; intro w _; exact Read_calls v _ w (hv.st (by assumption)) (tkB_len _ _ _); apply LW.v0; rfl; rfl; apply ValP.move; rfl; apply LW.v0; rfl; rfl; apply ValP.extractN; rfl; rfl; apply LW.v0; rfl; rfl; apply ValP.extractN; rfl; rfl; apply LW.allocW; rfl; intro _; apply LW.store; rfl; rfl; apply SetAt.head; apply Wr.whole; rfl; rfl; rfl; apply LW.v0; rfl; rfl; apply ValP.assign; rfl; apply LW.nil; refine thenN ?_; refine CW.seq ?_; refine CW.region ?_; apply LW.load; rfl; rfl; apply Known.at; apply FsAt.head; exact Rd.whole rfl; apply LW.store; rfl; rfl; apply SetAt.tail; apply SetAt.head; apply Wr.whole; rfl; rfl; rfl; apply LW.nil; refine thenN ?_; refine CW.ret ?_)
  apply inI
  (exact .inl rfl)
  (exact Shut.nil)
  rfl
  (apply ResL.cons; apply Res.cell; rfl; apply Known.at; apply FsAt.tail; apply FsAt.head; exact Rd.whole rfl; exact ResL.nil)
  rfl
  exact ⟨_, List.Sublist.cons _ (List.Sublist.cons _ (List.Sublist.refl _)), rfl, _, hl, rfl⟩
/-- A call of word. -/
theorem LW.wordR {w0 : World} {N : Nat} {ds : List Deferred} {r : Option Nat} {ops : Array Oper} {Q : Post} {rest : List Oper} {e : Env} {fs : Fs} {d : Nat} {t : TypeId} {pos : String} {af : Array Edge} {fo : Operand} {args : Array Operand} {tys : Array TypeId} {b E : Nat} {lv : Value} {bad : Bool} {rs : List Value} {l : List UInt8} {pre post : Fs}
    (hd : Nat.blt d N = true) (hf : e.ev fo = some (.func (.func 65) #[] #[])) (ha : ArgsOk e args.toList [.pointer (some ⟨b, 0, none⟩)])
    (hrow : RowAt w0 1 lv l.length (ucs l)) (hseg : AtSeg fs pre [(b, .cells (lv :: .bool bad :: rs).toArray E (0, 0))] post)
    (k : ∀ lv', RowAt w0 1 lv' (tkL bad l 32).length (ucs (tkL bad l 32)) → ∃ fs', AtSeg fs' pre [(b, .cells (lv' :: .bool (tkBad bad l 32) :: rs).toArray E (0, 0))] post ∧ LW ⟨Tryd.prog, w0, [], N, ds, r⟩ ops Q rest ((d, wv (bev (tkB bad l 32))) :: e) fs') :
    LW ⟨Tryd.prog, w0, [], N, ds, r⟩ ops Q (⟨some d, .call { callee := .value fo, args := args, argTypes := tys }, t, pos, af, none⟩ :: rest) e fs := by
  refine LW.callSt (C := ⟨Tryd.prog, w0, [], N, ds, r⟩) hd hf inferInstance ha (fun w hs => word_calls hrow pre post w (by have h := hs; rw [hseg.eq] at h; exact h)) ?_
  rintro v fs' ⟨rfl, lv', h2, rfl⟩
  obtain ⟨fs2, h3, h4⟩ := k lv' h2
  rw [h3.eq] at h4
  exact h4
end Go.Proofs.YtobkhnmglbfheaaDoor

/-
  Contracts of the pack: parts read.
  Conditions: none.
-/
namespace Go.Proofs.YtobkhnmglbfheaaDoor
open Go Go.RowKit SL
set_option maxRecDepth 8000
set_option maxHeartbeats 4000000
set_option linter.unusedSimpArgs false
set_option linter.unusedVariables false
attribute [local irreducible] SL.CW SL.LW SL.DW Calls SL.Ret SL.RetG SL.beginQ SL.roundQ SL.rangeQ SL.inQ SL.RW SL.AnyW SL.thenQ SL.thenC SL.thenW SL.blkQ SL.finQ SL.ValP SL.NewP SL.SetP SL.CallP SL.Rd SL.Wr SL.Known
theorem bev_m256 {l : List UInt8} (h : l.length ≤ 32) : bev l < M256 :=
  Nat.lt_of_lt_of_le (bev_lt l) (show 2 ^ (8 * l.length) ≤ 2 ^ 256 from Nat.pow_le_pow_right (by decide) (by omega))
/-- What is left. -/
structure RS where
  hl : List UInt8
  hb : Bool
  tl : List UInt8
  tb : Bool
  pl : Nat
def hd32 (s : RS) : Nat := bev (tkB s.hb s.hl 32)
def lgN (s : RS) : Nat := bev (tkB s.tb s.tl 32)
def lgT1 (s : RS) : List UInt8 := tkL s.tb s.tl 32
def lgB1 (s : RS) : Bool := tkBad s.tb s.tl 32
def lgD (s : RS) : List UInt8 := tkB (lgB1 s) (lgT1 s) (lgN s)
def lgT2 (s : RS) : List UInt8 := tkL (lgB1 s) (lgT1 s) (lgN s)
def lgB2 (s : RS) : Bool := tkBad (lgB1 s) (lgT1 s) (lgN s)
def lgP (s : RS) : List UInt8 := tkB (lgB2 s) (lgT2 s) (whl (lgN s) - lgN s)
def lgT3 (s : RS) : List UInt8 := tkL (lgB2 s) (lgT2 s) (whl (lgN s) - lgN s)
def lgB3 (s : RS) : Bool := tkBad (lgB2 s) (lgT2 s) (whl (lgN s) - lgN s)
def nz (l : List UInt8) : Bool := l.any (fun u => decide (u.toNat ≠ 0))
def lgOk (s : RS) : Bool := decide (hd32 s = s.pl ∧ lgN s ≤ 200)
/-- What is left behind a Long part. -/
def lgS (s : RS) : RS := if lgOk s then ⟨tkL s.hb s.hl 32, tkBad s.hb s.hl 32 || nz (lgP s), lgT3 s, lgB3 s, s.pl + (32 + whl (lgN s))⟩ else ⟨tkL s.hb s.hl 32, true, lgT1 s, lgB1 s, s.pl⟩
/-- What is left behind a word. -/
def shS (s : RS) : RS := ⟨tkL s.hb s.hl 32, tkBad s.hb s.hl 32, s.tl, s.tb, s.pl⟩
/-- The facts of a reader. -/
def rfs (bR bT : Nat) (hv tv : Value) (s : RS) : Fs := [(bR, .cells #[hv, .bool s.hb, .pointer (some ⟨bT, 0, none⟩), .int .i64 (s.pl : Int)] 87 (0, 0)), (bT, .cells #[tv, .bool s.tb] 84 (0, 0))]
theorem short_calls {w0 : World} {bR bT : Nat} {hv tv : Value} {s : RS} (hrow : RowAt w0 1 hv s.hl.length (ucs s.hl)) (pre post : Fs) (w : World) (hs : St w0 [] (pre ++ (rfs bR bT hv tv s ++ post)) w) :
    Calls Tryd.prog 45 #[.pointer (some ⟨bR, 0, none⟩)] w (fun x w' => ∃ v fs', x = .returned v ∧ (v = .agg (psa (ofP (hd32 s))) ∧ ∃ hv', RowAt w0 1 hv' (shS s).hl.length (ucs (shS s).hl) ∧ fs' = pre ++ (rfs bR bT hv' tv (shS s) ++ post)) ∧ St w0 [] fs' w') := by
  refine calls_sub ?_
  refine calls_inline (args := [_]) Tryd.func45 rfl Tryd.ntmps45 rfl ?_ hs
  simp only [rfs, List.cons_append, List.nil_append]
  (refine CW.seq ?_; refine CW.region ?_; apply LW.allocA; rfl; intro _; apply LW.nil; refine thenN ?_; refine CW.seq ?_; refine CW.region ?_; apply LW.v0; rfl; rfl; apply ValP.move; rfl; apply LW.v0; rfl; rfl; apply ValP.nilCheck; rfl; apply LW.v0; rfl; rfl; apply ValP.fieldAddr; rfl; rfl)
  refine LW.wordR rfl rfl (by (apply ArgsOk.cons; rfl; exact ArgsOk.nil)) hrow (by (apply AtSeg.cons; apply AtSeg.app; exact atSeg_one)) ?_
  intro lv' hl
  refine ⟨_, (by (apply AtSeg.cons; apply AtSeg.app; exact AtSeg.head)), ?_⟩
  simp only [List.cons_append, List.nil_append]
  (apply LW.callE; rfl; rfl; infer_instance; apply ArgsOk.cons; rfl; exact ArgsOk.nil; intro w _; exact pOf_calls _ (bev_m256 (tkB_len _ _ _)) w; apply LW.store; rfl; rfl; apply SetAt.head; apply Wr.whole; rfl; rfl; rfl; apply LW.nil; refine thenN ?_; refine CW.ret ?_)
  apply inI
  (exact .inl rfl)
  (exact Shut.nil)
  rfl
  (apply ResL.cons; apply Res.cell; rfl; apply Known.at; apply FsAt.head; exact Rd.whole rfl; exact ResL.nil)
  rfl
  exact ⟨_, List.Sublist.cons _ (List.Sublist.refl _), rfl, _, hl, rfl⟩
/-- What take hands back. -/
def takeM (W : World) (b E : Nat) (rs : List Value) (bad : Bool) (l : List UInt8) (n : Nat) (v : Value) (gs : Fs) : Prop :=
  ∃ lv', RowAt W 1 v (tkB bad l n).length (ucs (tkB bad l n)) ∧ RowAt W 1 lv' (tkL bad l n).length (ucs (tkL bad l n)) ∧ gs = [(b, .cells (lv' :: .bool (tkBad bad l n) :: rs).toArray E (0, 0))]
theorem take_ret {W : World} {b E : Nat} {lv : Value} {bad : Bool} {rs : List Value} {l : List UInt8} (hrow : RowAt W 1 lv l.length (ucs l)) (n : Nat) (hn : n ≤ 1000000000) (w : World) (hb : w.heap[b]? = some (.cells (lv :: .bool bad :: rs).toArray E (0, 0))) :
    Calls Tryd.prog 68 #[.pointer (some ⟨b, 0, none⟩), .int .i64 (n : Int)] w (RetG w [b] (takeM W b E rs bad l n)) := by
  refine Calls.mono (take_calls (w0 := w) (S := [b]) (E := E) (rs := rs) (bad := bad) hrow n hn [] [] w ⟨Bel.refl _ _ _, fun p hp => ?_, by simp⟩) fun x w' h => retG_of ?_
  · obtain rfl : p = _ := by simpa using hp
    exact ⟨.inr (by simp), hb⟩
  · exact h
/-- The part that is read. -/
def lgR (s : RS) (dv : Value) : PartV := if lgOk s then byP dv (lgD s) else p00
theorem long_calls {w0 : World} {bR bT : Nat} {hv tv : Value} {s : RS} (hrow : RowAt w0 1 hv s.hl.length (ucs s.hl)) (trow : RowAt w0 1 tv s.tl.length (ucs s.tl)) (hpl : s.pl ≤ 1000000) (pre post : Fs) (w : World) (hs : St w0 [] (pre ++ (rfs bR bT hv tv s ++ post)) w) :
    Calls Tryd.prog 46 #[.pointer (some ⟨bR, 0, none⟩)] w (fun x w' => ∃ v fs', x = .returned v ∧ (∃ dv seg hv' tv', v = .agg (psa (lgR s dv)) ∧ IsRow 5 1 (lgR s dv).dv (lgR s dv).db.length (ucs (lgR s dv).db) seg ∧ RowAt w0 1 hv' (lgS s).hl.length (ucs (lgS s).hl) ∧ RowAt w0 1 tv' (lgS s).tl.length (ucs (lgS s).tl) ∧ fs' = seg ++ (pre ++ (rfs bR bT hv' tv' (lgS s) ++ post))) ∧ St w0 [] fs' w') := by
  obtain ⟨h, hh⟩ : ∃ h, hd32 s = h := ⟨_, rfl⟩
  obtain ⟨n, hn⟩ : ∃ n, lgN s = n := ⟨_, rfl⟩
  have hlt : h < M256 := by rw [← hh]; exact bev_m256 (tkB_len _ _ _)
  have hnt : n < M256 := by rw [← hn]; exact bev_m256 (tkB_len _ _ _)
  have hA0 := Small_calls h hlt
  have hN0 := Small_calls n hnt
  have hwl := whl_le n
  have hwt := whl_lt n
  have hh' : bev (tkB s.hb s.hl 32) = h := hh
  have hn' : bev (tkB s.tb s.tl 32) = n := hn
  refine calls_sub ?_
  refine calls_inline (args := [_]) Tryd.func46 rfl Tryd.ntmps46 rfl ?_ hs
  simp only [rfs, List.cons_append, List.nil_append]
  rcases Nat.lt_or_ge h 18446744073709551616 with h64 | h64
  · rw [if_pos h64, decide_eq_true h64] at hA0
    have hA := hA0
    rcases Nat.lt_or_ge n 18446744073709551616 with n64 | n64
    · rw [if_pos n64, decide_eq_true n64] at hN0
      have hN := hN0
      by_cases hp : h = s.pl
      · rcases Nat.lt_or_ge 200 n with hn2 | hn2
        · (refine CW.seq ?_; refine CW.region ?_; apply LW.allocA; rfl; intro _; apply LW.nil; refine thenN ?_; refine CW.seq ?_; refine CW.region ?_; apply LW.v0; rfl; rfl; apply ValP.move; rfl; apply LW.v0; rfl; rfl; apply ValP.nilCheck; rfl; apply LW.v0; rfl; rfl; apply ValP.fieldAddr; rfl; rfl)
          rename_i b2
          refine LW.wordR rfl rfl (by (apply ArgsOk.cons; rfl; exact ArgsOk.nil)) hrow (by (apply AtSeg.cons; apply AtSeg.app; exact atSeg_one)) ?_
          intro lv1 hl1
          refine ⟨_, (by (apply AtSeg.cons; apply AtSeg.app; exact AtSeg.head)), ?_⟩
          simp only [List.cons_append, List.nil_append]
          rw [hh']
          (apply LW.callE; rfl; rfl; infer_instance; apply ArgsOk.cons; rfl; exact ArgsOk.nil; intro w _; exact hA w; apply LW.v0; rfl; rfl; apply ValP.move; rfl; apply LW.v0; rfl; rfl; apply ValP.extractN; rfl; rfl; apply LW.v0; rfl; rfl; apply ValP.extractN; rfl; rfl; apply LW.v0; rfl; rfl; apply ValP.assign; rfl; apply LW.v0; rfl; rfl; apply ValP.assign; rfl; apply LW.nil; refine thenN ?_; refine CW.seq ?_; refine CW.region ?_; apply LW.v0; rfl; rfl; apply ValP.move; rfl; apply LW.v0; rfl; rfl; apply ValP.nilCheck; rfl; apply LW.v0; rfl; rfl; apply ValP.fieldAddr; rfl; rfl; apply LW.load; rfl; rfl; apply Known.at; apply FsAt.tail; apply FsAt.app; apply FsAt.head; apply Rd.one'; rfl)
          refine LW.wordR rfl rfl (by (apply ArgsOk.cons; rfl; exact ArgsOk.nil)) trow (by (apply AtSeg.cons; apply AtSeg.app; apply AtSeg.cons; exact atSeg_one)) ?_
          intro lv2 hl2
          refine ⟨_, (by (apply AtSeg.cons; apply AtSeg.app; apply AtSeg.cons; exact AtSeg.head)), ?_⟩
          simp only [List.cons_append, List.nil_append]
          rw [hn']
          (apply LW.callE; rfl; rfl; infer_instance; apply ArgsOk.cons; rfl; exact ArgsOk.nil; intro w _; exact hN w; apply LW.v0; rfl; rfl; apply ValP.move; rfl; apply LW.v0; rfl; rfl; apply ValP.extractN; rfl; rfl; apply LW.v0; rfl; rfl; apply ValP.extractN; rfl; rfl; apply LW.v0; rfl; rfl; apply ValP.assign; rfl; apply LW.v0; rfl; rfl; apply ValP.assign; rfl; apply LW.nil; refine thenN ?_; refine CW.seq ?_; refine CW.seq ?_; refine CW.region ?_; apply LW.v0; rfl; rfl; apply ValP.move; rfl; apply LW.v0; rfl; rfl; apply ValP.notT; rfl; (with_reducible rfl); apply LW.v0; rfl; rfl; apply ValP.move; rfl; apply LW.guardT'; rfl; rfl; (with_reducible rfl); apply LW.v0; rfl; rfl; apply ValP.move; rfl; apply LW.guardT'; rfl; rfl; (with_reducible rfl); apply LW.v0; rfl; rfl; apply ValP.notT; rfl; (with_reducible rfl); apply LW.v0; rfl; rfl; apply ValP.pickF'; rfl; (with_reducible rfl); rfl; apply LW.v0; rfl; rfl; apply ValP.move; rfl; apply LW.guardT'; rfl; rfl; (with_reducible rfl); apply LW.v0; rfl; rfl; apply ValP.move; rfl; apply LW.guardT'; rfl; rfl; (with_reducible rfl); apply LW.v0; rfl; rfl; apply ValP.move; rfl; apply LW.guardT'; rfl; rfl; (with_reducible rfl); apply LW.v0; rfl; rfl; apply ValP.nilCheck; rfl; apply LW.guardT'; rfl; rfl; (with_reducible rfl); apply LW.v0; rfl; rfl; apply ValP.fieldAddr; rfl; rfl; apply LW.guardT'; rfl; rfl; (with_reducible rfl); apply LW.load; rfl; rfl; apply Known.at; apply FsAt.tail; apply FsAt.app; apply FsAt.head; apply Rd.one'; rfl; apply LW.guardT'; rfl; rfl; (with_reducible rfl); apply LW.v0; rfl; rfl; apply ValP.convN; rfl; omega; omega; apply LW.guardT'; rfl; rfl; (with_reducible rfl); apply LW.v0; rfl; rfl; apply ValP.neF; rfl; rfl; omega; apply LW.v0; rfl; rfl; apply ValP.pickF'; rfl; (with_reducible rfl); rfl; apply LW.v0; rfl; rfl; apply ValP.move; rfl; apply LW.guardT'; rfl; rfl; (with_reducible rfl); apply LW.v0; rfl; rfl; apply ValP.move; rfl; apply LW.guardT'; rfl; rfl; (with_reducible rfl); apply LW.v0; rfl; rfl; apply ValP.gtrT; rfl; rfl; omega; apply LW.v0; rfl; rfl; apply ValP.pickF'; rfl; (with_reducible rfl); rfl; apply LW.nil; refine thenN ?_; apply CW.condT; rfl; (with_reducible rfl); refine CW.seq ?_; refine CW.region ?_; apply LW.v0; rfl; rfl; apply ValP.move; rfl; apply LW.v0; rfl; rfl; apply ValP.nilCheck; rfl; apply LW.v0; rfl; rfl; apply ValP.fieldAddr; rfl; rfl; apply LW.v0; rfl; rfl; apply ValP.fieldAddr; rfl; rfl; apply LW.store; rfl; rfl; apply SetAt.tail; apply SetAt.app; apply SetAt.head; apply Wr.cells; rfl; rfl; simp only [List.size_toArray, List.length_cons, List.length_nil]; omega; simp only [fillC, wc, wrCells, Value.cells, List.toList_toArray, List.setIfInBounds_toArray, List.set_cons_succ, List.set_cons_zero, Nat.reduceAdd, Nat.reduceMul, Nat.zero_add, Nat.mul_one]; rfl; apply LW.nil; refine thenN ?_; refine CW.seq ?_; refine CW.region ?_; apply LW.v0; rfl; rfl; apply ValP.buildT; infer_instance; infer_instance; exact PartsOk.nil; rfl; simp only [fillP, wrCells, Value.cells, List.getElem?_cons_zero, List.getElem?_cons_succ, List.toList_toArray, List.setIfInBounds_toArray, List.set_cons_succ, List.set_cons_zero, Nat.reduceAdd, Nat.zero_add]; rfl; apply LW.store; rfl; rfl; apply SetAt.head; apply Wr.whole; rfl; rfl; rfl; apply LW.nil; refine thenN ?_; refine CW.ret ?_; refine thenR ?_)
          apply inI
          (exact .inl rfl)
          (exact Shut.nil)
          rfl
          (apply ResL.cons; apply Res.cell; rfl; apply Known.at; apply FsAt.head; exact Rd.whole rfl; exact ResL.nil)
          rfl
          subst hn
          subst hh
          have hok : lgOk s = false := decide_eq_false (fun h => by omega)
          rw [lgS, if_neg (by simp [hok])]
          refine ⟨_, ?_, .slice none 0 0, [], lv1, lv2, ?_, ?_, hl1, hl2, rfl⟩
          · exact List.Sublist.cons _ (List.Sublist.refl _)
          · rw [lgR, if_neg (by simp [hok])]; simp [tup, psa, psc, p00, wc]
          · rw [lgR, if_neg (by simp [hok])]; exact .nil
        · (refine CW.seq ?_; refine CW.region ?_; apply LW.allocA; rfl; intro _; apply LW.nil; refine thenN ?_; refine CW.seq ?_; refine CW.region ?_; apply LW.v0; rfl; rfl; apply ValP.move; rfl; apply LW.v0; rfl; rfl; apply ValP.nilCheck; rfl; apply LW.v0; rfl; rfl; apply ValP.fieldAddr; rfl; rfl)
          rename_i b2
          refine LW.wordR rfl rfl (by (apply ArgsOk.cons; rfl; exact ArgsOk.nil)) hrow (by (apply AtSeg.cons; apply AtSeg.app; exact atSeg_one)) ?_
          intro lv1 hl1
          refine ⟨_, (by (apply AtSeg.cons; apply AtSeg.app; exact AtSeg.head)), ?_⟩
          simp only [List.cons_append, List.nil_append]
          rw [hh']
          (apply LW.callE; rfl; rfl; infer_instance; apply ArgsOk.cons; rfl; exact ArgsOk.nil; intro w _; exact hA w; apply LW.v0; rfl; rfl; apply ValP.move; rfl; apply LW.v0; rfl; rfl; apply ValP.extractN; rfl; rfl; apply LW.v0; rfl; rfl; apply ValP.extractN; rfl; rfl; apply LW.v0; rfl; rfl; apply ValP.assign; rfl; apply LW.v0; rfl; rfl; apply ValP.assign; rfl; apply LW.nil; refine thenN ?_; refine CW.seq ?_; refine CW.region ?_; apply LW.v0; rfl; rfl; apply ValP.move; rfl; apply LW.v0; rfl; rfl; apply ValP.nilCheck; rfl; apply LW.v0; rfl; rfl; apply ValP.fieldAddr; rfl; rfl; apply LW.load; rfl; rfl; apply Known.at; apply FsAt.tail; apply FsAt.app; apply FsAt.head; apply Rd.one'; rfl)
          refine LW.wordR rfl rfl (by (apply ArgsOk.cons; rfl; exact ArgsOk.nil)) trow (by (apply AtSeg.cons; apply AtSeg.app; apply AtSeg.cons; exact atSeg_one)) ?_
          intro lv2 hl2
          refine ⟨_, (by (apply AtSeg.cons; apply AtSeg.app; apply AtSeg.cons; exact AtSeg.head)), ?_⟩
          simp only [List.cons_append, List.nil_append]
          rw [hn']
          (apply LW.callE; rfl; rfl; infer_instance; apply ArgsOk.cons; rfl; exact ArgsOk.nil; intro w _; exact hN w; apply LW.v0; rfl; rfl; apply ValP.move; rfl; apply LW.v0; rfl; rfl; apply ValP.extractN; rfl; rfl; apply LW.v0; rfl; rfl; apply ValP.extractN; rfl; rfl; apply LW.v0; rfl; rfl; apply ValP.assign; rfl; apply LW.v0; rfl; rfl; apply ValP.assign; rfl; apply LW.nil; refine thenN ?_; refine CW.seq ?_; refine CW.seq ?_; refine CW.region ?_; apply LW.v0; rfl; rfl; apply ValP.move; rfl; apply LW.v0; rfl; rfl; apply ValP.notT; rfl; (with_reducible rfl); apply LW.v0; rfl; rfl; apply ValP.move; rfl; apply LW.guardT'; rfl; rfl; (with_reducible rfl); apply LW.v0; rfl; rfl; apply ValP.move; rfl; apply LW.guardT'; rfl; rfl; (with_reducible rfl); apply LW.v0; rfl; rfl; apply ValP.notT; rfl; (with_reducible rfl); apply LW.v0; rfl; rfl; apply ValP.pickF'; rfl; (with_reducible rfl); rfl; apply LW.v0; rfl; rfl; apply ValP.move; rfl; apply LW.guardT'; rfl; rfl; (with_reducible rfl); apply LW.v0; rfl; rfl; apply ValP.move; rfl; apply LW.guardT'; rfl; rfl; (with_reducible rfl); apply LW.v0; rfl; rfl; apply ValP.move; rfl; apply LW.guardT'; rfl; rfl; (with_reducible rfl); apply LW.v0; rfl; rfl; apply ValP.nilCheck; rfl; apply LW.guardT'; rfl; rfl; (with_reducible rfl); apply LW.v0; rfl; rfl; apply ValP.fieldAddr; rfl; rfl; apply LW.guardT'; rfl; rfl; (with_reducible rfl); apply LW.load; rfl; rfl; apply Known.at; apply FsAt.tail; apply FsAt.app; apply FsAt.head; apply Rd.one'; rfl; apply LW.guardT'; rfl; rfl; (with_reducible rfl); apply LW.v0; rfl; rfl; apply ValP.convN; rfl; omega; omega; apply LW.guardT'; rfl; rfl; (with_reducible rfl); apply LW.v0; rfl; rfl; apply ValP.neF; rfl; rfl; omega; apply LW.v0; rfl; rfl; apply ValP.pickF'; rfl; (with_reducible rfl); rfl; apply LW.v0; rfl; rfl; apply ValP.move; rfl; apply LW.guardT'; rfl; rfl; (with_reducible rfl); apply LW.v0; rfl; rfl; apply ValP.move; rfl; apply LW.guardT'; rfl; rfl; (with_reducible rfl); apply LW.v0; rfl; rfl; apply ValP.gtrF; rfl; rfl; omega; apply LW.v0; rfl; rfl; apply ValP.pickF'; rfl; (with_reducible rfl); rfl; apply LW.nil; refine thenN ?_; apply CW.condF; rfl; (with_reducible rfl); refine CW.skip ?_; refine thenN ?_; refine CW.seq ?_; refine CW.region ?_; apply LW.v0; rfl; rfl; apply ValP.move; rfl; apply LW.v0; rfl; rfl; apply ValP.nilCheck; rfl; apply LW.v0; rfl; rfl; apply ValP.fieldAddr; rfl; rfl; apply LW.load; rfl; rfl; apply Known.at; apply FsAt.tail; apply FsAt.app; apply FsAt.head; apply Rd.one'; rfl; apply LW.v0; rfl; rfl; apply ValP.move; rfl; apply LW.v0; rfl; rfl; apply ValP.convI; rfl; omega; omega)
          refine LW.takeR (n := n) rfl rfl (by (apply ArgsOk.cons; rfl; apply ArgsOk.cons; rfl; exact ArgsOk.nil)) hl2 (by omega) (by (apply AtSeg.cons; apply AtSeg.app; apply AtSeg.cons; exact atSeg_one)) ?_
          intro v3 lv3 hv3 hl3
          refine ⟨_, (by (apply AtSeg.cons; apply AtSeg.app; apply AtSeg.cons; exact AtSeg.head)), ?_⟩
          simp only [List.cons_append, List.nil_append]
          refine LW.callR rfl rfl inferInstance (by (apply ArgsOk.cons; rfl; exact ArgsOk.nil)) (fun w hst => pBytes_calls _ v3 w (hv3.st hst) (Nat.le_trans (tkB_len _ _ _) (by omega))) ?_
          rintro v4 gs4 ⟨dv, rfl, hrow4⟩
          obtain ⟨pd, cd, rfl⟩ := hrow4.form
          (apply LW.allocA; rfl; intro _; apply LW.store; rfl; rfl; apply SetAt.head; apply Wr.whole; rfl; rfl; rfl; apply LW.nil; refine thenN ?_; refine CW.seq ?_; refine CW.seq ?_)
          rename_i b7
          apply CW.pre
          (refine AnyW.anyT [(10, takeM w0 bT 84 [] (tkBad (tkBad s.tb s.tl 32) (tkL s.tb s.tl 32) n) (tkL (tkBad s.tb s.tl 32) (tkL s.tb s.tl 32) n) (whl n - n), true)] 13 mixed (by decide +kernel) ?_)
          ((try simp only [tsOf_cons, tsOf_nil, tsOf_app]); apply DW.v0; rfl; rfl; rfl; exact WantT.none; rfl; apply ValP.move; rfl; apply DW.v0; rfl; rfl; rfl; exact WantT.none; rfl; apply ValP.nilCheck; rfl; apply DW.v0; rfl; rfl; rfl; exact WantT.none; rfl; apply ValP.fieldAddr; rfl; rfl; apply DW.loadO; rfl; rfl; rfl; exact WantT.none; rfl; apply TRead.tail; apply TRead.app; apply TRead.tail; apply TRead.app; apply TRead.head; exact ancB_nil; apply Rd.one'; rfl; apply DW.v0; rfl; rfl; rfl; exact WantT.none; rfl; apply ValP.move; rfl; apply DW.v0; rfl; rfl; rfl; exact WantT.none; rfl; apply ValP.convI; rfl; omega; omega; apply DW.callE; rfl; rfl; rfl; exact WantT.none; rfl; infer_instance; apply ArgsOk.cons; rfl; exact ArgsOk.nil; rfl; exact ReadAll.nil; intro w _ _; exact whole_calls _ (by omega) w; apply DW.v0; rfl; rfl; rfl; exact WantT.none; rfl; apply ValP.move; rfl; apply DW.v0; rfl; rfl; rfl; exact WantT.none; rfl; apply ValP.convI; rfl; omega; omega; apply DW.v0; rfl; rfl; rfl; exact WantT.none; rfl; apply ValP.subZ; rfl; rfl; omega; omega)
          refine DW.callMv (seg := [(bT, .cells #[lv3, .bool (tkBad (tkBad s.tb s.tl 32) (tkL s.tb s.tl 32) n)] 84 (0, 0))]) rfl rfl rfl (by (exact WantT.none)) rfl inferInstance (by (apply ArgsOk.cons; rfl; apply ArgsOk.cons; rfl; exact ArgsOk.nil)) ⟨rfl, rfl⟩ (by (apply TOut.cons; apply TOut.app; apply TOut.cons; apply TOut.app; apply TOut.cons; (refine TOut.one ?_ ?_ <;> (first | exact ancB_nil | kernel_rfl)))) (by (apply RdV.plain; rfl; exact RdV.nil)) (fun w' hbel hseg hnd hus => take_ret hl3 _ (by omega) w' (hseg _ (List.Mem.head _))) ?_ ?_
          · rintro v gs ⟨lv, _, _, rfl⟩ b hb; exact hb
          rintro v5 gs5 ⟨lv5, hv5, hl5, rfl⟩
          obtain ⟨p5, c5, rfl, _, _⟩ := hv5.form
          ((try simp only [tsOf_cons, tsOf_nil, tsOf_app]); apply DW.v0; rfl; rfl; rfl; exact WantT.none; rfl; apply ValP.lenR; rfl; infer_instance; rfl; apply DW.v0; rfl; rfl; rfl; exact WantT.none; rfl; apply ValP.move; rfl; apply DW.nil; simp only [fsOf_cons, fsOf_nil, fsOf_app, fsOf_tsOf, fsOf_new, fsOf_tag])
          simp only [List.cons_append, List.nil_append]
          refine LW.perm (ins_cons (ins_app (ins_cons (ins_app (ins_cons (List.Perm.refl _)))))).symm ?_
          (apply LW.nil; refine thenN ?_; refine CW.block ?_)
          obtain ⟨pad, hpad⟩ : ∃ pad, tkB (tkBad (tkBad s.tb s.tl 32) (tkL s.tb s.tl 32) n) (tkL (tkBad s.tb s.tl 32) (tkL s.tb s.tl 32) n) (whl n - n) = pad := ⟨_, rfl⟩
          have hpl2 : pad.length ≤ 32 := by rw [← hpad]; exact Nat.le_trans (tkB_len _ _ _) (by omega)
          rw [hpad] at hv5 ⊢
          refine CW.loop (fun j : Nat => ([(71, .int .i64 (j : Int)), (70, .int .i64 (pad.length : Int)), (69, .slice p5 pad.length c5), (0, .pointer (some ⟨bR, 0, none⟩)), (5, .int .u64 (n : Int)), (7, .pointer (some ⟨b7, 0, none⟩)), (2, .pointer (some ⟨b2, 0, none⟩))],
              (b7, .cells (psa (byP (.slice pd (tkB (tkBad s.tb s.tl 32) (tkL s.tb s.tl 32) n).length cd) (tkB (tkBad s.tb s.tl 32) (tkL s.tb s.tl 32) n))) 61 (0, 0)) :: (gs4 ++ (b2, .cells #[.bool false, .int .u64 0, .int .u64 0, .int .u64 0, .int .u64 0, .slice none 0 0] 61 (0, 0)) :: (pre ++ (bR, .cells #[lv1, .bool (tkBad s.hb s.hl 32 || nz (pad.take j)), .pointer (some ⟨bT, 0, none⟩), .int .i64 (s.pl : Int)] 87 (0, 0)) :: (bT, .cells #[lv5, .bool (tkBad (tkBad (tkBad s.tb s.tl 32) (tkL s.tb s.tl 32) n) (tkL (tkBad s.tb s.tl 32) (tkL s.tb s.tl 32) n) (whl n - n))] 84 (0, 0)) :: post))))
            (fun j => j ≤ pad.length) (fun j => pad.length - j) 0 (Nat.zero_le _) ⟨rfl, rfl, rfl, rfl, rfl, rfl, rfl, trivial⟩ (by rw [List.take_zero, show nz [] = false from rfl, Bool.or_false]; exact List.Sublist.refl _) ?_
          intro j hj
          dsimp only at hj ⊢
          rcases Nat.lt_or_ge j pad.length with hlt2 | hge
          · obtain ⟨b, off, c', cs, E, fr, heq, hb, hx⟩ := hv5.pos (by omega)
            cases heq
            obtain ⟨u, hu⟩ : ∃ u, u = pad[j] := ⟨_, rfl⟩
            have hrd : Rd Tryd.prog 5 (.cells cs E fr) (off + j * 1) (.int .u8 (u.toNat : Int)) := Rd.elem1 hx (ucs_one pad) (by rw [hu]; exact List.getElem?_eq_getElem hlt2) rfl
            have hnz : nz (pad.take (j + 1)) = (nz (pad.take j) || decide (u.toNat ≠ 0)) := by rw [List.take_succ_eq_append_getElem hlt2, nz, nz, List.any_append, hu]; simp
            obtain ⟨bd, hbd⟩ : ∃ bd, (tkBad s.hb s.hl 32 || nz (pad.take j)) = bd := ⟨_, rfl⟩
            rw [hbd]
            cases bd with
            | true =>
              (refine CW.seq ?_; refine CW.region ?_; apply LW.v0; rfl; rfl; apply ValP.lssT; rfl; rfl; omega; apply LW.nil; refine thenN ?_; refine CW.seq ?_; apply CW.condT; rfl; (with_reducible rfl); refine CW.skip ?_; refine thenN ?_; refine CW.seq ?_; refine CW.block ?_; refine CW.seq ?_; refine CW.region ?_; apply LW.v0; rfl; rfl; apply ValP.indexAddrS; rfl; rfl; rfl; omega; apply LW.load; rfl; rfl; exact Known.ext (by assumption) (by simp); assumption; apply LW.v0; rfl; rfl; apply ValP.assign; rfl; apply LW.nil; refine thenN ?_; refine CW.region ?_; apply LW.v0; rfl; rfl; apply ValP.move; rfl; apply LW.v0; rfl; rfl; apply ValP.move; rfl; apply LW.v0; rfl; rfl; apply ValP.nilCheck; rfl; apply LW.v0; rfl; rfl; apply ValP.fieldAddr; rfl; rfl; apply LW.v0; rfl; rfl; apply ValP.fieldAddr; rfl; rfl; apply LW.load; rfl; rfl; apply Known.at; apply FsAt.tail; apply FsAt.app; apply FsAt.tail; apply FsAt.app; apply FsAt.head; apply Rd.one'; rfl; apply LW.v0; rfl; rfl; apply ValP.move; rfl; apply LW.guardF'; rfl; rfl; simp only [Bool.not_true, Bool.not_false]; rfl; apply LW.guardF'; rfl; rfl; simp only [Bool.not_true, Bool.not_false]; rfl; apply LW.v0; rfl; rfl; apply ValP.pickT'; rfl; (with_reducible rfl); rfl; apply LW.v0; rfl; rfl; apply ValP.nilCheck; rfl; apply LW.v0; rfl; rfl; apply ValP.fieldAddr; rfl; rfl; apply LW.v0; rfl; rfl; apply ValP.fieldAddr; rfl; rfl; apply LW.store; rfl; rfl; apply SetAt.tail; apply SetAt.app; apply SetAt.tail; apply SetAt.app; apply SetAt.head; apply Wr.cells; rfl; rfl; simp only [List.size_toArray, List.length_cons, List.length_nil]; omega; simp only [fillC, wc, wrCells, Value.cells, List.toList_toArray, List.setIfInBounds_toArray, List.set_cons_succ, List.set_cons_zero, Nat.reduceAdd, Nat.reduceMul, Nat.zero_add, Nat.mul_one]; rfl; apply LW.nil; refine blkN ?_; refine thenN ?_; refine CW.region ?_; apply LW.v0; rfl; rfl; apply ValP.addZL; rfl; rfl; decide; omega; apply LW.v0; rfl; rfl; apply ValP.move; rfl; apply LW.nil)
              apply thenX
              refine ⟨rfl, j + 1, hlt2, by omega, ⟨rfl, rfl, rfl, rfl, rfl, rfl, rfl, trivial⟩, ?_⟩
              rw [hnz, ← Bool.or_assoc, hbd, Bool.true_or]
              exact List.Sublist.refl _
            | false =>
              by_cases h0 : u.toNat = 0
              · (refine CW.seq ?_; refine CW.region ?_; apply LW.v0; rfl; rfl; apply ValP.lssT; rfl; rfl; omega; apply LW.nil; refine thenN ?_; refine CW.seq ?_; apply CW.condT; rfl; (with_reducible rfl); refine CW.skip ?_; refine thenN ?_; refine CW.seq ?_; refine CW.block ?_; refine CW.seq ?_; refine CW.region ?_; apply LW.v0; rfl; rfl; apply ValP.indexAddrS; rfl; rfl; rfl; omega; apply LW.load; rfl; rfl; exact Known.ext (by assumption) (by simp); assumption; apply LW.v0; rfl; rfl; apply ValP.assign; rfl; apply LW.nil; refine thenN ?_; refine CW.region ?_; apply LW.v0; rfl; rfl; apply ValP.move; rfl; apply LW.v0; rfl; rfl; apply ValP.move; rfl; apply LW.v0; rfl; rfl; apply ValP.nilCheck; rfl; apply LW.v0; rfl; rfl; apply ValP.fieldAddr; rfl; rfl; apply LW.v0; rfl; rfl; apply ValP.fieldAddr; rfl; rfl; apply LW.load; rfl; rfl; apply Known.at; apply FsAt.tail; apply FsAt.app; apply FsAt.tail; apply FsAt.app; apply FsAt.head; apply Rd.one'; rfl; apply LW.v0; rfl; rfl; apply ValP.move; rfl; apply LW.guardT'; rfl; rfl; (with_reducible rfl); apply LW.v0; rfl; rfl; apply ValP.move; rfl; apply LW.guardT'; rfl; rfl; (with_reducible rfl); apply LW.v0; rfl; rfl; apply ValP.neF; rfl; rfl; omega; apply LW.v0; rfl; rfl; apply ValP.pickF'; rfl; (with_reducible rfl); rfl; apply LW.v0; rfl; rfl; apply ValP.nilCheck; rfl; apply LW.v0; rfl; rfl; apply ValP.fieldAddr; rfl; rfl; apply LW.v0; rfl; rfl; apply ValP.fieldAddr; rfl; rfl; apply LW.store; rfl; rfl; apply SetAt.tail; apply SetAt.app; apply SetAt.tail; apply SetAt.app; apply SetAt.head; apply Wr.cells; rfl; rfl; simp only [List.size_toArray, List.length_cons, List.length_nil]; omega; simp only [fillC, wc, wrCells, Value.cells, List.toList_toArray, List.setIfInBounds_toArray, List.set_cons_succ, List.set_cons_zero, Nat.reduceAdd, Nat.reduceMul, Nat.zero_add, Nat.mul_one]; rfl; apply LW.nil; refine blkN ?_; refine thenN ?_; refine CW.region ?_; apply LW.v0; rfl; rfl; apply ValP.addZL; rfl; rfl; decide; omega; apply LW.v0; rfl; rfl; apply ValP.move; rfl; apply LW.nil)
                apply thenX
                refine ⟨rfl, j + 1, hlt2, by omega, ⟨rfl, rfl, rfl, rfl, rfl, rfl, rfl, trivial⟩, ?_⟩
                rw [hnz, ← Bool.or_assoc, hbd, Bool.false_or, decide_eq_false (by simpa using h0)]
                exact List.Sublist.refl _
              · (refine CW.seq ?_; refine CW.region ?_; apply LW.v0; rfl; rfl; apply ValP.lssT; rfl; rfl; omega; apply LW.nil; refine thenN ?_; refine CW.seq ?_; apply CW.condT; rfl; (with_reducible rfl); refine CW.skip ?_; refine thenN ?_; refine CW.seq ?_; refine CW.block ?_; refine CW.seq ?_; refine CW.region ?_; apply LW.v0; rfl; rfl; apply ValP.indexAddrS; rfl; rfl; rfl; omega; apply LW.load; rfl; rfl; exact Known.ext (by assumption) (by simp); assumption; apply LW.v0; rfl; rfl; apply ValP.assign; rfl; apply LW.nil; refine thenN ?_; refine CW.region ?_; apply LW.v0; rfl; rfl; apply ValP.move; rfl; apply LW.v0; rfl; rfl; apply ValP.move; rfl; apply LW.v0; rfl; rfl; apply ValP.nilCheck; rfl; apply LW.v0; rfl; rfl; apply ValP.fieldAddr; rfl; rfl; apply LW.v0; rfl; rfl; apply ValP.fieldAddr; rfl; rfl; apply LW.load; rfl; rfl; apply Known.at; apply FsAt.tail; apply FsAt.app; apply FsAt.tail; apply FsAt.app; apply FsAt.head; apply Rd.one'; rfl; apply LW.v0; rfl; rfl; apply ValP.move; rfl; apply LW.guardT'; rfl; rfl; (with_reducible rfl); apply LW.v0; rfl; rfl; apply ValP.move; rfl; apply LW.guardT'; rfl; rfl; (with_reducible rfl); apply LW.v0; rfl; rfl; apply ValP.neT; rfl; rfl; omega; apply LW.v0; rfl; rfl; apply ValP.pickF'; rfl; (with_reducible rfl); rfl; apply LW.v0; rfl; rfl; apply ValP.nilCheck; rfl; apply LW.v0; rfl; rfl; apply ValP.fieldAddr; rfl; rfl; apply LW.v0; rfl; rfl; apply ValP.fieldAddr; rfl; rfl; apply LW.store; rfl; rfl; apply SetAt.tail; apply SetAt.app; apply SetAt.tail; apply SetAt.app; apply SetAt.head; apply Wr.cells; rfl; rfl; simp only [List.size_toArray, List.length_cons, List.length_nil]; omega; simp only [fillC, wc, wrCells, Value.cells, List.toList_toArray, List.setIfInBounds_toArray, List.set_cons_succ, List.set_cons_zero, Nat.reduceAdd, Nat.reduceMul, Nat.zero_add, Nat.mul_one]; rfl; apply LW.nil; refine blkN ?_; refine thenN ?_; refine CW.region ?_; apply LW.v0; rfl; rfl; apply ValP.addZL; rfl; rfl; decide; omega; apply LW.v0; rfl; rfl; apply ValP.move; rfl; apply LW.nil)
                apply thenX
                refine ⟨rfl, j + 1, hlt2, by omega, ⟨rfl, rfl, rfl, rfl, rfl, rfl, rfl, trivial⟩, ?_⟩
                rw [hnz, ← Bool.or_assoc, hbd, Bool.false_or, decide_eq_true h0]
                exact List.Sublist.refl _
          · obtain rfl : j = pad.length := by omega
            rw [List.take_length]
            (refine CW.seq ?_; refine CW.region ?_; apply LW.v0; rfl; rfl; apply ValP.lssF; rfl; rfl; omega; apply LW.nil; refine thenN ?_; refine CW.seq ?_; apply CW.condF; rfl; (with_reducible rfl); refine CW.exit ?_; refine thenE ?_; refine thenE ?_; refine blkE rfl ?_; refine thenN ?_; refine CW.seq ?_; apply CW.pre; refine AnyW.any 8 mixed (by decide +kernel) ?_; (try simp only [tsOf_cons, tsOf_nil, tsOf_app]); apply DW.v0; rfl; rfl; rfl; exact WantT.none; rfl; apply ValP.move; rfl; apply DW.v0; rfl; rfl; rfl; exact WantT.none; rfl; apply ValP.nilCheck; rfl; apply DW.v0; rfl; rfl; rfl; exact WantT.none; rfl; apply ValP.fieldAddr; rfl; rfl; apply DW.loadO; rfl; rfl; rfl; exact WantT.none; rfl; apply TRead.tail; apply TRead.app; apply TRead.tail; apply TRead.app; apply TRead.head; exact ancB_nil; apply Rd.one'; rfl; apply DW.v0; rfl; rfl; rfl; exact WantT.none; rfl; apply ValP.move; rfl; apply DW.v0; rfl; rfl; rfl; exact WantT.none; rfl; apply ValP.convI; rfl; omega; omega; apply DW.callE; rfl; rfl; rfl; exact WantT.none; rfl; infer_instance; apply ArgsOk.cons; rfl; exact ArgsOk.nil; rfl; exact ReadAll.nil; intro w _ _; exact whole_calls _ (by omega) w; apply DW.v0; rfl; rfl; rfl; exact WantT.none; rfl; apply ValP.addZK; rfl; rfl; decide; omega; apply DW.nil; simp only [fsOf_cons, fsOf_nil, fsOf_app, fsOf_tsOf, fsOf_new, fsOf_tag]; apply LW.v0; rfl; rfl; apply ValP.addZ; rfl; rfl; omega; apply LW.v0; rfl; rfl; apply ValP.nilCheck; rfl; apply LW.v0; rfl; rfl; apply ValP.fieldAddr; rfl; rfl; apply LW.store; rfl; rfl; apply SetAt.tail; apply SetAt.app; apply SetAt.tail; apply SetAt.app; apply SetAt.head; apply Wr.cells; rfl; rfl; simp only [List.size_toArray, List.length_cons, List.length_nil]; omega; simp only [fillC, wc, wrCells, Value.cells, List.toList_toArray, List.setIfInBounds_toArray, List.set_cons_succ, List.set_cons_zero, Nat.reduceAdd, Nat.reduceMul, Nat.zero_add, Nat.mul_one]; rfl; apply LW.nil; refine thenN ?_; refine CW.seq ?_; refine CW.region ?_; apply LW.load; rfl; rfl; apply Known.at; apply FsAt.head; exact Rd.whole rfl; apply LW.store; rfl; rfl; apply SetAt.tail; apply SetAt.app; apply SetAt.head; apply Wr.whole; rfl; rfl; rfl; apply LW.nil; refine thenN ?_; refine CW.ret ?_)
            apply inI
            (exact .inl rfl)
            (exact Shut.nil)
            rfl
            (apply ResL.cons; apply Res.cell; rfl; apply Known.at; apply FsAt.tail; apply FsAt.app; apply FsAt.head; exact Rd.whole rfl; exact ResL.nil)
            rfl
            subst hn
            subst hh
            subst hpad
            have hok : lgOk s = true := decide_eq_true ⟨hp, hn2⟩
            rw [lgS, if_pos hok]
            refine ⟨_, ?_, .slice pd (lgD s).length cd, gs4, lv1, lv5, ?_, ?_, hl1, hl5, rfl⟩
            · exact List.Sublist.cons _ (List.Sublist.append_left (List.Sublist.cons _ (List.Sublist.refl _)) _)
            · rw [lgR, if_pos hok]; rfl
            · rw [lgR, if_pos hok]; exact hrow4
      · (refine CW.seq ?_; refine CW.region ?_; apply LW.allocA; rfl; intro _; apply LW.nil; refine thenN ?_; refine CW.seq ?_; refine CW.region ?_; apply LW.v0; rfl; rfl; apply ValP.move; rfl; apply LW.v0; rfl; rfl; apply ValP.nilCheck; rfl; apply LW.v0; rfl; rfl; apply ValP.fieldAddr; rfl; rfl)
        rename_i b2
        refine LW.wordR rfl rfl (by (apply ArgsOk.cons; rfl; exact ArgsOk.nil)) hrow (by (apply AtSeg.cons; apply AtSeg.app; exact atSeg_one)) ?_
        intro lv1 hl1
        refine ⟨_, (by (apply AtSeg.cons; apply AtSeg.app; exact AtSeg.head)), ?_⟩
        simp only [List.cons_append, List.nil_append]
        rw [hh']
        (apply LW.callE; rfl; rfl; infer_instance; apply ArgsOk.cons; rfl; exact ArgsOk.nil; intro w _; exact hA w; apply LW.v0; rfl; rfl; apply ValP.move; rfl; apply LW.v0; rfl; rfl; apply ValP.extractN; rfl; rfl; apply LW.v0; rfl; rfl; apply ValP.extractN; rfl; rfl; apply LW.v0; rfl; rfl; apply ValP.assign; rfl; apply LW.v0; rfl; rfl; apply ValP.assign; rfl; apply LW.nil; refine thenN ?_; refine CW.seq ?_; refine CW.region ?_; apply LW.v0; rfl; rfl; apply ValP.move; rfl; apply LW.v0; rfl; rfl; apply ValP.nilCheck; rfl; apply LW.v0; rfl; rfl; apply ValP.fieldAddr; rfl; rfl; apply LW.load; rfl; rfl; apply Known.at; apply FsAt.tail; apply FsAt.app; apply FsAt.head; apply Rd.one'; rfl)
        refine LW.wordR rfl rfl (by (apply ArgsOk.cons; rfl; exact ArgsOk.nil)) trow (by (apply AtSeg.cons; apply AtSeg.app; apply AtSeg.cons; exact atSeg_one)) ?_
        intro lv2 hl2
        refine ⟨_, (by (apply AtSeg.cons; apply AtSeg.app; apply AtSeg.cons; exact AtSeg.head)), ?_⟩
        simp only [List.cons_append, List.nil_append]
        rw [hn']
        (apply LW.callE; rfl; rfl; infer_instance; apply ArgsOk.cons; rfl; exact ArgsOk.nil; intro w _; exact hN w; apply LW.v0; rfl; rfl; apply ValP.move; rfl; apply LW.v0; rfl; rfl; apply ValP.extractN; rfl; rfl; apply LW.v0; rfl; rfl; apply ValP.extractN; rfl; rfl; apply LW.v0; rfl; rfl; apply ValP.assign; rfl; apply LW.v0; rfl; rfl; apply ValP.assign; rfl; apply LW.nil; refine thenN ?_; refine CW.seq ?_; refine CW.seq ?_; refine CW.region ?_; apply LW.v0; rfl; rfl; apply ValP.move; rfl; apply LW.v0; rfl; rfl; apply ValP.notT; rfl; (with_reducible rfl); apply LW.v0; rfl; rfl; apply ValP.move; rfl; apply LW.guardT'; rfl; rfl; (with_reducible rfl); apply LW.v0; rfl; rfl; apply ValP.move; rfl; apply LW.guardT'; rfl; rfl; (with_reducible rfl); apply LW.v0; rfl; rfl; apply ValP.notT; rfl; (with_reducible rfl); apply LW.v0; rfl; rfl; apply ValP.pickF'; rfl; (with_reducible rfl); rfl; apply LW.v0; rfl; rfl; apply ValP.move; rfl; apply LW.guardT'; rfl; rfl; (with_reducible rfl); apply LW.v0; rfl; rfl; apply ValP.move; rfl; apply LW.guardT'; rfl; rfl; (with_reducible rfl); apply LW.v0; rfl; rfl; apply ValP.move; rfl; apply LW.guardT'; rfl; rfl; (with_reducible rfl); apply LW.v0; rfl; rfl; apply ValP.nilCheck; rfl; apply LW.guardT'; rfl; rfl; (with_reducible rfl); apply LW.v0; rfl; rfl; apply ValP.fieldAddr; rfl; rfl; apply LW.guardT'; rfl; rfl; (with_reducible rfl); apply LW.load; rfl; rfl; apply Known.at; apply FsAt.tail; apply FsAt.app; apply FsAt.head; apply Rd.one'; rfl; apply LW.guardT'; rfl; rfl; (with_reducible rfl); apply LW.v0; rfl; rfl; apply ValP.convN; rfl; omega; omega; apply LW.guardT'; rfl; rfl; (with_reducible rfl); apply LW.v0; rfl; rfl; apply ValP.neT; rfl; rfl; omega; apply LW.v0; rfl; rfl; apply ValP.pickF'; rfl; (with_reducible rfl); rfl; apply LW.v0; rfl; rfl; apply ValP.move; rfl; apply LW.guardF'; rfl; rfl; simp only [Bool.not_true, Bool.not_false]; rfl; apply LW.guardF'; rfl; rfl; simp only [Bool.not_true, Bool.not_false]; rfl; apply LW.v0; rfl; rfl; apply ValP.pickT'; rfl; (with_reducible rfl); rfl; apply LW.nil; refine thenN ?_; apply CW.condT; rfl; (with_reducible rfl); refine CW.seq ?_; refine CW.region ?_; apply LW.v0; rfl; rfl; apply ValP.move; rfl; apply LW.v0; rfl; rfl; apply ValP.nilCheck; rfl; apply LW.v0; rfl; rfl; apply ValP.fieldAddr; rfl; rfl; apply LW.v0; rfl; rfl; apply ValP.fieldAddr; rfl; rfl; apply LW.store; rfl; rfl; apply SetAt.tail; apply SetAt.app; apply SetAt.head; apply Wr.cells; rfl; rfl; simp only [List.size_toArray, List.length_cons, List.length_nil]; omega; simp only [fillC, wc, wrCells, Value.cells, List.toList_toArray, List.setIfInBounds_toArray, List.set_cons_succ, List.set_cons_zero, Nat.reduceAdd, Nat.reduceMul, Nat.zero_add, Nat.mul_one]; rfl; apply LW.nil; refine thenN ?_; refine CW.seq ?_; refine CW.region ?_; apply LW.v0; rfl; rfl; apply ValP.buildT; infer_instance; infer_instance; exact PartsOk.nil; rfl; simp only [fillP, wrCells, Value.cells, List.getElem?_cons_zero, List.getElem?_cons_succ, List.toList_toArray, List.setIfInBounds_toArray, List.set_cons_succ, List.set_cons_zero, Nat.reduceAdd, Nat.zero_add]; rfl; apply LW.store; rfl; rfl; apply SetAt.head; apply Wr.whole; rfl; rfl; rfl; apply LW.nil; refine thenN ?_; refine CW.ret ?_; refine thenR ?_)
        apply inI
        (exact .inl rfl)
        (exact Shut.nil)
        rfl
        (apply ResL.cons; apply Res.cell; rfl; apply Known.at; apply FsAt.head; exact Rd.whole rfl; exact ResL.nil)
        rfl
        subst hn
        subst hh
        have hok : lgOk s = false := decide_eq_false (fun h => by omega)
        rw [lgS, if_neg (by simp [hok])]
        refine ⟨_, ?_, .slice none 0 0, [], lv1, lv2, ?_, ?_, hl1, hl2, rfl⟩
        · exact List.Sublist.cons _ (List.Sublist.refl _)
        · rw [lgR, if_neg (by simp [hok])]; simp [tup, psa, psc, p00, wc]
        · rw [lgR, if_neg (by simp [hok])]; exact .nil
    · rw [if_neg (by omega), decide_eq_false (by omega)] at hN0
      have hN := hN0
      (refine CW.seq ?_; refine CW.region ?_; apply LW.allocA; rfl; intro _; apply LW.nil; refine thenN ?_; refine CW.seq ?_; refine CW.region ?_; apply LW.v0; rfl; rfl; apply ValP.move; rfl; apply LW.v0; rfl; rfl; apply ValP.nilCheck; rfl; apply LW.v0; rfl; rfl; apply ValP.fieldAddr; rfl; rfl)
      rename_i b2
      refine LW.wordR rfl rfl (by (apply ArgsOk.cons; rfl; exact ArgsOk.nil)) hrow (by (apply AtSeg.cons; apply AtSeg.app; exact atSeg_one)) ?_
      intro lv1 hl1
      refine ⟨_, (by (apply AtSeg.cons; apply AtSeg.app; exact AtSeg.head)), ?_⟩
      simp only [List.cons_append, List.nil_append]
      rw [hh']
      (apply LW.callE; rfl; rfl; infer_instance; apply ArgsOk.cons; rfl; exact ArgsOk.nil; intro w _; exact hA w; apply LW.v0; rfl; rfl; apply ValP.move; rfl; apply LW.v0; rfl; rfl; apply ValP.extractN; rfl; rfl; apply LW.v0; rfl; rfl; apply ValP.extractN; rfl; rfl; apply LW.v0; rfl; rfl; apply ValP.assign; rfl; apply LW.v0; rfl; rfl; apply ValP.assign; rfl; apply LW.nil; refine thenN ?_; refine CW.seq ?_; refine CW.region ?_; apply LW.v0; rfl; rfl; apply ValP.move; rfl; apply LW.v0; rfl; rfl; apply ValP.nilCheck; rfl; apply LW.v0; rfl; rfl; apply ValP.fieldAddr; rfl; rfl; apply LW.load; rfl; rfl; apply Known.at; apply FsAt.tail; apply FsAt.app; apply FsAt.head; apply Rd.one'; rfl)
      refine LW.wordR rfl rfl (by (apply ArgsOk.cons; rfl; exact ArgsOk.nil)) trow (by (apply AtSeg.cons; apply AtSeg.app; apply AtSeg.cons; exact atSeg_one)) ?_
      intro lv2 hl2
      refine ⟨_, (by (apply AtSeg.cons; apply AtSeg.app; apply AtSeg.cons; exact AtSeg.head)), ?_⟩
      simp only [List.cons_append, List.nil_append]
      rw [hn']
      (apply LW.callE; rfl; rfl; infer_instance; apply ArgsOk.cons; rfl; exact ArgsOk.nil; intro w _; exact hN w; apply LW.v0; rfl; rfl; apply ValP.move; rfl; apply LW.v0; rfl; rfl; apply ValP.extractN; rfl; rfl; apply LW.v0; rfl; rfl; apply ValP.extractN; rfl; rfl; apply LW.v0; rfl; rfl; apply ValP.assign; rfl; apply LW.v0; rfl; rfl; apply ValP.assign; rfl; apply LW.nil; refine thenN ?_; refine CW.seq ?_; refine CW.seq ?_; refine CW.region ?_; apply LW.v0; rfl; rfl; apply ValP.move; rfl; apply LW.v0; rfl; rfl; apply ValP.notT; rfl; (with_reducible rfl); apply LW.v0; rfl; rfl; apply ValP.move; rfl; apply LW.guardT'; rfl; rfl; (with_reducible rfl); apply LW.v0; rfl; rfl; apply ValP.move; rfl; apply LW.guardT'; rfl; rfl; (with_reducible rfl); apply LW.v0; rfl; rfl; apply ValP.notF; rfl; (with_reducible rfl); apply LW.v0; rfl; rfl; apply ValP.pickF'; rfl; (with_reducible rfl); rfl; apply LW.v0; rfl; rfl; apply ValP.move; rfl; apply LW.guardF'; rfl; rfl; simp only [Bool.not_true, Bool.not_false]; rfl; apply LW.guardF'; rfl; rfl; simp only [Bool.not_true, Bool.not_false]; rfl; apply LW.guardF'; rfl; rfl; simp only [Bool.not_true, Bool.not_false]; rfl; apply LW.guardF'; rfl; rfl; simp only [Bool.not_true, Bool.not_false]; rfl; apply LW.guardF'; rfl; rfl; simp only [Bool.not_true, Bool.not_false]; rfl; apply LW.guardF'; rfl; rfl; simp only [Bool.not_true, Bool.not_false]; rfl; apply LW.guardF'; rfl; rfl; simp only [Bool.not_true, Bool.not_false]; rfl; apply LW.v0; rfl; rfl; apply ValP.pickT'; rfl; (with_reducible rfl); rfl; apply LW.v0; rfl; rfl; apply ValP.move; rfl; apply LW.guardF'; rfl; rfl; simp only [Bool.not_true, Bool.not_false]; rfl; apply LW.guardF'; rfl; rfl; simp only [Bool.not_true, Bool.not_false]; rfl; apply LW.v0; rfl; rfl; apply ValP.pickT'; rfl; (with_reducible rfl); rfl; apply LW.nil; refine thenN ?_; apply CW.condT; rfl; (with_reducible rfl); refine CW.seq ?_; refine CW.region ?_; apply LW.v0; rfl; rfl; apply ValP.move; rfl; apply LW.v0; rfl; rfl; apply ValP.nilCheck; rfl; apply LW.v0; rfl; rfl; apply ValP.fieldAddr; rfl; rfl; apply LW.v0; rfl; rfl; apply ValP.fieldAddr; rfl; rfl; apply LW.store; rfl; rfl; apply SetAt.tail; apply SetAt.app; apply SetAt.head; apply Wr.cells; rfl; rfl; simp only [List.size_toArray, List.length_cons, List.length_nil]; omega; simp only [fillC, wc, wrCells, Value.cells, List.toList_toArray, List.setIfInBounds_toArray, List.set_cons_succ, List.set_cons_zero, Nat.reduceAdd, Nat.reduceMul, Nat.zero_add, Nat.mul_one]; rfl; apply LW.nil; refine thenN ?_; refine CW.seq ?_; refine CW.region ?_; apply LW.v0; rfl; rfl; apply ValP.buildT; infer_instance; infer_instance; exact PartsOk.nil; rfl; simp only [fillP, wrCells, Value.cells, List.getElem?_cons_zero, List.getElem?_cons_succ, List.toList_toArray, List.setIfInBounds_toArray, List.set_cons_succ, List.set_cons_zero, Nat.reduceAdd, Nat.zero_add]; rfl; apply LW.store; rfl; rfl; apply SetAt.head; apply Wr.whole; rfl; rfl; rfl; apply LW.nil; refine thenN ?_; refine CW.ret ?_; refine thenR ?_)
      apply inI
      (exact .inl rfl)
      (exact Shut.nil)
      rfl
      (apply ResL.cons; apply Res.cell; rfl; apply Known.at; apply FsAt.head; exact Rd.whole rfl; exact ResL.nil)
      rfl
      subst hn
      subst hh
      have hok : lgOk s = false := decide_eq_false (fun h => by omega)
      rw [lgS, if_neg (by simp [hok])]
      refine ⟨_, ?_, .slice none 0 0, [], lv1, lv2, ?_, ?_, hl1, hl2, rfl⟩
      · exact List.Sublist.cons _ (List.Sublist.refl _)
      · rw [lgR, if_neg (by simp [hok])]; simp [tup, psa, psc, p00, wc]
      · rw [lgR, if_neg (by simp [hok])]; exact .nil
  · rw [if_neg (by omega), decide_eq_false (by omega)] at hA0
    have hA := hA0
    rcases Nat.lt_or_ge n 18446744073709551616 with n64 | n64
    · rw [if_pos n64, decide_eq_true n64] at hN0
      have hN := hN0
      (refine CW.seq ?_; refine CW.region ?_; apply LW.allocA; rfl; intro _; apply LW.nil; refine thenN ?_; refine CW.seq ?_; refine CW.region ?_; apply LW.v0; rfl; rfl; apply ValP.move; rfl; apply LW.v0; rfl; rfl; apply ValP.nilCheck; rfl; apply LW.v0; rfl; rfl; apply ValP.fieldAddr; rfl; rfl)
      rename_i b2
      refine LW.wordR rfl rfl (by (apply ArgsOk.cons; rfl; exact ArgsOk.nil)) hrow (by (apply AtSeg.cons; apply AtSeg.app; exact atSeg_one)) ?_
      intro lv1 hl1
      refine ⟨_, (by (apply AtSeg.cons; apply AtSeg.app; exact AtSeg.head)), ?_⟩
      simp only [List.cons_append, List.nil_append]
      rw [hh']
      (apply LW.callE; rfl; rfl; infer_instance; apply ArgsOk.cons; rfl; exact ArgsOk.nil; intro w _; exact hA w; apply LW.v0; rfl; rfl; apply ValP.move; rfl; apply LW.v0; rfl; rfl; apply ValP.extractN; rfl; rfl; apply LW.v0; rfl; rfl; apply ValP.extractN; rfl; rfl; apply LW.v0; rfl; rfl; apply ValP.assign; rfl; apply LW.v0; rfl; rfl; apply ValP.assign; rfl; apply LW.nil; refine thenN ?_; refine CW.seq ?_; refine CW.region ?_; apply LW.v0; rfl; rfl; apply ValP.move; rfl; apply LW.v0; rfl; rfl; apply ValP.nilCheck; rfl; apply LW.v0; rfl; rfl; apply ValP.fieldAddr; rfl; rfl; apply LW.load; rfl; rfl; apply Known.at; apply FsAt.tail; apply FsAt.app; apply FsAt.head; apply Rd.one'; rfl)
      refine LW.wordR rfl rfl (by (apply ArgsOk.cons; rfl; exact ArgsOk.nil)) trow (by (apply AtSeg.cons; apply AtSeg.app; apply AtSeg.cons; exact atSeg_one)) ?_
      intro lv2 hl2
      refine ⟨_, (by (apply AtSeg.cons; apply AtSeg.app; apply AtSeg.cons; exact AtSeg.head)), ?_⟩
      simp only [List.cons_append, List.nil_append]
      rw [hn']
      (apply LW.callE; rfl; rfl; infer_instance; apply ArgsOk.cons; rfl; exact ArgsOk.nil; intro w _; exact hN w; apply LW.v0; rfl; rfl; apply ValP.move; rfl; apply LW.v0; rfl; rfl; apply ValP.extractN; rfl; rfl; apply LW.v0; rfl; rfl; apply ValP.extractN; rfl; rfl; apply LW.v0; rfl; rfl; apply ValP.assign; rfl; apply LW.v0; rfl; rfl; apply ValP.assign; rfl; apply LW.nil; refine thenN ?_; refine CW.seq ?_; refine CW.seq ?_; refine CW.region ?_; apply LW.v0; rfl; rfl; apply ValP.move; rfl; apply LW.v0; rfl; rfl; apply ValP.notF; rfl; (with_reducible rfl); apply LW.v0; rfl; rfl; apply ValP.move; rfl; apply LW.guardF'; rfl; rfl; simp only [Bool.not_true, Bool.not_false]; rfl; apply LW.guardF'; rfl; rfl; simp only [Bool.not_true, Bool.not_false]; rfl; apply LW.v0; rfl; rfl; apply ValP.pickT'; rfl; (with_reducible rfl); rfl; apply LW.v0; rfl; rfl; apply ValP.move; rfl; apply LW.guardF'; rfl; rfl; simp only [Bool.not_true, Bool.not_false]; rfl; apply LW.guardF'; rfl; rfl; simp only [Bool.not_true, Bool.not_false]; rfl; apply LW.guardF'; rfl; rfl; simp only [Bool.not_true, Bool.not_false]; rfl; apply LW.guardF'; rfl; rfl; simp only [Bool.not_true, Bool.not_false]; rfl; apply LW.guardF'; rfl; rfl; simp only [Bool.not_true, Bool.not_false]; rfl; apply LW.guardF'; rfl; rfl; simp only [Bool.not_true, Bool.not_false]; rfl; apply LW.guardF'; rfl; rfl; simp only [Bool.not_true, Bool.not_false]; rfl; apply LW.v0; rfl; rfl; apply ValP.pickT'; rfl; (with_reducible rfl); rfl; apply LW.v0; rfl; rfl; apply ValP.move; rfl; apply LW.guardF'; rfl; rfl; simp only [Bool.not_true, Bool.not_false]; rfl; apply LW.guardF'; rfl; rfl; simp only [Bool.not_true, Bool.not_false]; rfl; apply LW.v0; rfl; rfl; apply ValP.pickT'; rfl; (with_reducible rfl); rfl; apply LW.nil; refine thenN ?_; apply CW.condT; rfl; (with_reducible rfl); refine CW.seq ?_; refine CW.region ?_; apply LW.v0; rfl; rfl; apply ValP.move; rfl; apply LW.v0; rfl; rfl; apply ValP.nilCheck; rfl; apply LW.v0; rfl; rfl; apply ValP.fieldAddr; rfl; rfl; apply LW.v0; rfl; rfl; apply ValP.fieldAddr; rfl; rfl; apply LW.store; rfl; rfl; apply SetAt.tail; apply SetAt.app; apply SetAt.head; apply Wr.cells; rfl; rfl; simp only [List.size_toArray, List.length_cons, List.length_nil]; omega; simp only [fillC, wc, wrCells, Value.cells, List.toList_toArray, List.setIfInBounds_toArray, List.set_cons_succ, List.set_cons_zero, Nat.reduceAdd, Nat.reduceMul, Nat.zero_add, Nat.mul_one]; rfl; apply LW.nil; refine thenN ?_; refine CW.seq ?_; refine CW.region ?_; apply LW.v0; rfl; rfl; apply ValP.buildT; infer_instance; infer_instance; exact PartsOk.nil; rfl; simp only [fillP, wrCells, Value.cells, List.getElem?_cons_zero, List.getElem?_cons_succ, List.toList_toArray, List.setIfInBounds_toArray, List.set_cons_succ, List.set_cons_zero, Nat.reduceAdd, Nat.zero_add]; rfl; apply LW.store; rfl; rfl; apply SetAt.head; apply Wr.whole; rfl; rfl; rfl; apply LW.nil; refine thenN ?_; refine CW.ret ?_; refine thenR ?_)
      apply inI
      (exact .inl rfl)
      (exact Shut.nil)
      rfl
      (apply ResL.cons; apply Res.cell; rfl; apply Known.at; apply FsAt.head; exact Rd.whole rfl; exact ResL.nil)
      rfl
      subst hn
      subst hh
      have hok : lgOk s = false := decide_eq_false (fun h => by omega)
      rw [lgS, if_neg (by simp [hok])]
      refine ⟨_, ?_, .slice none 0 0, [], lv1, lv2, ?_, ?_, hl1, hl2, rfl⟩
      · exact List.Sublist.cons _ (List.Sublist.refl _)
      · rw [lgR, if_neg (by simp [hok])]; simp [tup, psa, psc, p00, wc]
      · rw [lgR, if_neg (by simp [hok])]; exact .nil
    · rw [if_neg (by omega), decide_eq_false (by omega)] at hN0
      have hN := hN0
      (refine CW.seq ?_; refine CW.region ?_; apply LW.allocA; rfl; intro _; apply LW.nil; refine thenN ?_; refine CW.seq ?_; refine CW.region ?_; apply LW.v0; rfl; rfl; apply ValP.move; rfl; apply LW.v0; rfl; rfl; apply ValP.nilCheck; rfl; apply LW.v0; rfl; rfl; apply ValP.fieldAddr; rfl; rfl)
      rename_i b2
      refine LW.wordR rfl rfl (by (apply ArgsOk.cons; rfl; exact ArgsOk.nil)) hrow (by (apply AtSeg.cons; apply AtSeg.app; exact atSeg_one)) ?_
      intro lv1 hl1
      refine ⟨_, (by (apply AtSeg.cons; apply AtSeg.app; exact AtSeg.head)), ?_⟩
      simp only [List.cons_append, List.nil_append]
      rw [hh']
      (apply LW.callE; rfl; rfl; infer_instance; apply ArgsOk.cons; rfl; exact ArgsOk.nil; intro w _; exact hA w; apply LW.v0; rfl; rfl; apply ValP.move; rfl; apply LW.v0; rfl; rfl; apply ValP.extractN; rfl; rfl; apply LW.v0; rfl; rfl; apply ValP.extractN; rfl; rfl; apply LW.v0; rfl; rfl; apply ValP.assign; rfl; apply LW.v0; rfl; rfl; apply ValP.assign; rfl; apply LW.nil; refine thenN ?_; refine CW.seq ?_; refine CW.region ?_; apply LW.v0; rfl; rfl; apply ValP.move; rfl; apply LW.v0; rfl; rfl; apply ValP.nilCheck; rfl; apply LW.v0; rfl; rfl; apply ValP.fieldAddr; rfl; rfl; apply LW.load; rfl; rfl; apply Known.at; apply FsAt.tail; apply FsAt.app; apply FsAt.head; apply Rd.one'; rfl)
      refine LW.wordR rfl rfl (by (apply ArgsOk.cons; rfl; exact ArgsOk.nil)) trow (by (apply AtSeg.cons; apply AtSeg.app; apply AtSeg.cons; exact atSeg_one)) ?_
      intro lv2 hl2
      refine ⟨_, (by (apply AtSeg.cons; apply AtSeg.app; apply AtSeg.cons; exact AtSeg.head)), ?_⟩
      simp only [List.cons_append, List.nil_append]
      rw [hn']
      (apply LW.callE; rfl; rfl; infer_instance; apply ArgsOk.cons; rfl; exact ArgsOk.nil; intro w _; exact hN w; apply LW.v0; rfl; rfl; apply ValP.move; rfl; apply LW.v0; rfl; rfl; apply ValP.extractN; rfl; rfl; apply LW.v0; rfl; rfl; apply ValP.extractN; rfl; rfl; apply LW.v0; rfl; rfl; apply ValP.assign; rfl; apply LW.v0; rfl; rfl; apply ValP.assign; rfl; apply LW.nil; refine thenN ?_; refine CW.seq ?_; refine CW.seq ?_; refine CW.region ?_; apply LW.v0; rfl; rfl; apply ValP.move; rfl; apply LW.v0; rfl; rfl; apply ValP.notF; rfl; (with_reducible rfl); apply LW.v0; rfl; rfl; apply ValP.move; rfl; apply LW.guardF'; rfl; rfl; simp only [Bool.not_true, Bool.not_false]; rfl; apply LW.guardF'; rfl; rfl; simp only [Bool.not_true, Bool.not_false]; rfl; apply LW.v0; rfl; rfl; apply ValP.pickT'; rfl; (with_reducible rfl); rfl; apply LW.v0; rfl; rfl; apply ValP.move; rfl; apply LW.guardF'; rfl; rfl; simp only [Bool.not_true, Bool.not_false]; rfl; apply LW.guardF'; rfl; rfl; simp only [Bool.not_true, Bool.not_false]; rfl; apply LW.guardF'; rfl; rfl; simp only [Bool.not_true, Bool.not_false]; rfl; apply LW.guardF'; rfl; rfl; simp only [Bool.not_true, Bool.not_false]; rfl; apply LW.guardF'; rfl; rfl; simp only [Bool.not_true, Bool.not_false]; rfl; apply LW.guardF'; rfl; rfl; simp only [Bool.not_true, Bool.not_false]; rfl; apply LW.guardF'; rfl; rfl; simp only [Bool.not_true, Bool.not_false]; rfl; apply LW.v0; rfl; rfl; apply ValP.pickT'; rfl; (with_reducible rfl); rfl; apply LW.v0; rfl; rfl; apply ValP.move; rfl; apply LW.guardF'; rfl; rfl; simp only [Bool.not_true, Bool.not_false]; rfl; apply LW.guardF'; rfl; rfl; simp only [Bool.not_true, Bool.not_false]; rfl; apply LW.v0; rfl; rfl; apply ValP.pickT'; rfl; (with_reducible rfl); rfl; apply LW.nil; refine thenN ?_; apply CW.condT; rfl; (with_reducible rfl); refine CW.seq ?_; refine CW.region ?_; apply LW.v0; rfl; rfl; apply ValP.move; rfl; apply LW.v0; rfl; rfl; apply ValP.nilCheck; rfl; apply LW.v0; rfl; rfl; apply ValP.fieldAddr; rfl; rfl; apply LW.v0; rfl; rfl; apply ValP.fieldAddr; rfl; rfl; apply LW.store; rfl; rfl; apply SetAt.tail; apply SetAt.app; apply SetAt.head; apply Wr.cells; rfl; rfl; simp only [List.size_toArray, List.length_cons, List.length_nil]; omega; simp only [fillC, wc, wrCells, Value.cells, List.toList_toArray, List.setIfInBounds_toArray, List.set_cons_succ, List.set_cons_zero, Nat.reduceAdd, Nat.reduceMul, Nat.zero_add, Nat.mul_one]; rfl; apply LW.nil; refine thenN ?_; refine CW.seq ?_; refine CW.region ?_; apply LW.v0; rfl; rfl; apply ValP.buildT; infer_instance; infer_instance; exact PartsOk.nil; rfl; simp only [fillP, wrCells, Value.cells, List.getElem?_cons_zero, List.getElem?_cons_succ, List.toList_toArray, List.setIfInBounds_toArray, List.set_cons_succ, List.set_cons_zero, Nat.reduceAdd, Nat.zero_add]; rfl; apply LW.store; rfl; rfl; apply SetAt.head; apply Wr.whole; rfl; rfl; rfl; apply LW.nil; refine thenN ?_; refine CW.ret ?_; refine thenR ?_)
      apply inI
      (exact .inl rfl)
      (exact Shut.nil)
      rfl
      (apply ResL.cons; apply Res.cell; rfl; apply Known.at; apply FsAt.head; exact Rd.whole rfl; exact ResL.nil)
      rfl
      subst hn
      subst hh
      have hok : lgOk s = false := decide_eq_false (fun h => by omega)
      rw [lgS, if_neg (by simp [hok])]
      refine ⟨_, ?_, .slice none 0 0, [], lv1, lv2, ?_, ?_, hl1, hl2, rfl⟩
      · exact List.Sublist.cons _ (List.Sublist.refl _)
      · rw [lgR, if_neg (by simp [hok])]; simp [tup, psa, psc, p00, wc]
      · rw [lgR, if_neg (by simp [hok])]; exact .nil
end Go.Proofs.YtobkhnmglbfheaaDoor

/-
  Contracts of the pack: parts of bytes.
  Conditions: none.
-/
namespace Go.Proofs.YtobkhnmglbfheaaDoor
open Go Go.RowKit SL
set_option maxRecDepth 8000
set_option maxHeartbeats 4000000
set_option linter.unusedSimpArgs false
set_option linter.unusedVariables false
attribute [local irreducible] SL.CW SL.LW SL.DW Calls SL.Ret SL.RetG SL.beginQ SL.roundQ SL.rangeQ SL.inQ SL.RW SL.AnyW SL.thenQ SL.thenC SL.thenW SL.blkQ SL.finQ SL.ValP SL.NewP SL.SetP SL.CallP SL.Rd SL.Wr SL.Known
/-- Truth values as cells. -/
def bls (l : List Bool) : List Value := l.flatMap fun b => [Value.bool b]
theorem bls_one (l : List Bool) : ∀ b ∈ l, ([Value.bool b] : List Value).length = 1 := fun _ _ => rfl
/-- What is left behind the first k parts. -/
def rsK (b : List UInt8) (fm : List Bool) : Nat → RS
  | 0 => ⟨b.take (32 * fm.length), false, b.drop (32 * fm.length), false, 32 * fm.length⟩
  | k + 1 => if fm.getD k false then lgS (rsK b fm k) else shS (rsK b fm k)
theorem rsK_zero (b : List UInt8) (fm : List Bool) : rsK b fm 0 = ⟨b.take (32 * fm.length), false, b.drop (32 * fm.length), false, 32 * fm.length⟩ := rfl
theorem rsK_long {b : List UInt8} {fm : List Bool} {k : Nat} (h : fm.getD k false = true) : rsK b fm (k + 1) = lgS (rsK b fm k) := by rw [rsK, if_pos h]
theorem rsK_short {b : List UInt8} {fm : List Bool} {k : Nat} (h : fm.getD k false = false) : rsK b fm (k + 1) = shS (rsK b fm k) := by rw [rsK, h]; rfl
attribute [local irreducible] rsK
/-- What a part says, but for its place in memory. -/
def dat (p : PartV) : Bool × Nat × List UInt8 := (p.lg, p.wd, p.db)
/-- The k-th part that is read. -/
def rdP (b : List UInt8) (fm : List Bool) (k : Nat) : Bool × Nat × List UInt8 :=
  if fm.getD k false then dat (lgR (rsK b fm k) (.slice none 0 0)) else dat (ofP (hd32 (rsK b fm k)))
/-- The first k parts that are read. -/
def rdK (b : List UInt8) (fm : List Bool) (k : Nat) : List (Bool × Nat × List UInt8) := (List.range k).map (rdP b fm)
theorem rdK_succ (b : List UInt8) (fm : List Bool) (k : Nat) : rdK b fm (k + 1) = rdK b fm k ++ [rdP b fm k] := by rw [rdK, List.range_succ, List.map_append]; rfl
theorem lgS_pl (s : RS) : (lgS s).pl ≤ s.pl + 300 := by
  unfold lgS
  split
  · rename_i h
    have := (of_decide_eq_true h).2
    have := whl_lt (lgN s)
    show s.pl + (32 + whl (lgN s)) ≤ _
    omega
  · exact Nat.le_add_right _ _
theorem rsK_pl (b : List UInt8) (fm : List Bool) (k : Nat) : (rsK b fm k).pl ≤ 32 * fm.length + 300 * k := by
  induction k with
  | zero => rw [rsK_zero]; exact Nat.le_refl _
  | succ k ih =>
    cases h : fm.getD k false with
    | true => rw [rsK_long h]; have := lgS_pl (rsK b fm k); omega
    | false => rw [rsK_short h]; show (rsK b fm k).pl ≤ _; omega
def rsBad (s : RS) : Bool := s.hb || s.tb || decide (0 < s.tl.length)
/-- Which errno Read hands back. -/
def rdE (b : List UInt8) (fm : List Bool) : Int := if 16 < fm.length then 3 else if b.length < 32 * fm.length then 141 else if rsBad (rsK b fm fm.length) then 141 else 0
/-- The parts' bytes lie where these facts say. -/
def DatAt (gs : Fs) (ps : List PartV) : Prop := ∀ w : World, (∀ q ∈ gs, w.heap[q.1]? = some q.2) → ∀ p ∈ ps, RowAt w 1 p.dv p.db.length (ucs p.db)
theorem DatAt.nil {gs : Fs} : DatAt gs [] := fun _ _ _ h => by cases h
theorem DatAt.app {gs hs : Fs} {ps qs : List PartV} (h : DatAt gs ps) (k : DatAt hs qs) : DatAt (hs ++ gs) (ps ++ qs) := fun w hw p hp => by
  rcases List.mem_append.1 hp with hp | hp
  · exact h w (fun q hq => hw q (List.mem_append_right _ hq)) p hp
  · exact k w (fun q hq => hw q (List.mem_append_left _ hq)) p hp
structure GX where
  k : Nat
  ov : Value
  segO : Fs
  ps : List PartV
  gsD : Fs
  hv : Value
  tv : Value
theorem cells_sl (p : Option Addr) (n c : Nat) : (Value.slice p n c).cells = #[.slice p n c] := rfl
theorem cells_ptr (p : Option Addr) : (Value.pointer p).cells = #[.pointer p] := rfl
theorem cells_int (k : IntKind) (n : Int) : (Value.int k n).cells = #[.int k n] := rfl
theorem cells_bool (b : Bool) : (Value.bool b).cells = #[.bool b] := rfl
theorem cells_agg (cs : Array Value) : (Value.agg cs).cells = cs := rfl
/-- Parts that lie where these facts say. -/
def PartsGs (ps : List PartV) (v : Value) (gs : Fs) : Prop := ∃ gsD segO, gs = gsD ++ segO ∧ IsRow 61 6 v ps.length (ps.flatMap psc) segO ∧ DatAt gsD ps ∧ ∀ p ∈ ps, p.wd < M256
theorem PartsGs.at {ps : List PartV} {v : Value} {gs : Fs} (h : PartsGs ps v gs) {w : World} (hw : ∀ q ∈ gs, w.heap[q.1]? = some q.2) : PartsAt w v ps := by
  obtain ⟨gsD, segO, rfl, hO, hD, hs⟩ := h
  exact ⟨hO.us (fun q hq => hw q (List.mem_append_right _ hq)) (List.Sublist.refl _), hs, fun p hp => hD w (fun q hq => hw q (List.mem_append_left _ hq)) p hp⟩
theorem psc_one {p : PartV} (h : p.dv.oneCell' = true) : (psc p).all Value.oneCell' = true := by
  simp only [psc, wc, List.cons_append, List.nil_append, List.all_cons, List.all_nil, h]; rfl
theorem flat_snoc {ps : List PartV} {p : PartV} : (ps ++ [p]).flatMap psc = ps.flatMap psc ++ psc p := by simp
/-- What Read hands back. -/
def ReadR (b : List UInt8) (fm : List Bool) (v : Value) (gs : Fs) : Prop :=
  ∃ ov, v = .tuple #[ov, .int .i64 (rdE b fm)] ∧ (rdE b fm = 0 → ∃ ps, ps.map dat = rdK b fm fm.length ∧ PartsGs ps ov gs) ∧ (rdE b fm ≠ 0 → ov = .slice none 0 0)
theorem row_is {E : TypeId} {n : Nat} {v : Value} {l : List UInt8} {seg : Fs} {p : PartV} (h : IsRow E 1 v n (ucs l) seg) (h1 : p.dv = v) (h2 : p.db = l) (h3 : l.length = n) : DatAt seg [p] := fun w hw q hq => by
  obtain rfl : q = p := by simpa using hq
  rw [h1, h2, h3]
  exact h.us hw (List.Sublist.refl _)
theorem dat_lgR (s : RS) (v u : Value) : dat (lgR s v) = dat (lgR s u) := by unfold lgR; split <;> rfl
theorem wd_lgR (s : RS) (v : Value) : (lgR s v).wd < M256 := by unfold lgR; split <;> exact (by decide : (0 : Nat) < M256)
theorem Read_ok (b : List UInt8) (fm : List Bool) (bv fv : Value) (w : World) (hb : RowAt w 1 bv b.length (ucs b)) (hf : RowAt w 1 fv fm.length (bls fm)) (h16 : fm.length ≤ 16) (hlen : 32 * fm.length ≤ b.length) :
    Calls Tryd.prog 32 #[bv, fv] w (RetG w [] (ReadR b fm)) := by
  obtain ⟨p, c, rfl, hc, hm⟩ := hb.form
  obtain ⟨q, d, rfl, hd, hn⟩ := hf.form
  simp only [maxLen] at hm hn
  refine enter (args := [_, _]) _ [] [] Tryd.func32 rfl Tryd.ntmps32 rfl (by simp) .nil ?_
  (refine CW.seq ?_; refine CW.region ?_; apply LW.v0; rfl; rfl; apply ValP.assign; rfl; apply LW.v0; rfl; rfl; apply ValP.assign; rfl; apply LW.nil; refine thenN ?_; refine CW.seq ?_; refine CW.region ?_; apply LW.v0; rfl; rfl; apply ValP.move; rfl; apply LW.v0; rfl; rfl; apply ValP.lenR; rfl; infer_instance; rfl; apply LW.v0; rfl; rfl; apply ValP.mulZK; rfl; rfl; decide; omega; apply LW.v0; rfl; rfl; apply ValP.assign; rfl; apply LW.nil; refine thenN ?_; refine CW.seq ?_; refine CW.block ?_; refine CW.seq ?_; refine CW.region ?_; apply LW.v0; rfl; rfl; apply ValP.move; rfl; apply LW.v0; rfl; rfl; apply ValP.lenR; rfl; infer_instance; rfl; apply LW.v0; rfl; rfl; apply ValP.gtrF; rfl; rfl; omega; apply LW.v0; rfl; rfl; apply ValP.assign; rfl; apply LW.nil; refine thenN ?_; apply CW.condF; rfl; (with_reducible rfl); refine CW.seq ?_; refine CW.region ?_; apply LW.v0; rfl; rfl; apply ValP.move; rfl; apply LW.v0; rfl; rfl; apply ValP.lenR; rfl; infer_instance; rfl; apply LW.v0; rfl; rfl; apply ValP.move; rfl; apply LW.v0; rfl; rfl; apply ValP.lssF; rfl; rfl; omega; apply LW.v0; rfl; rfl; apply ValP.assign; rfl; apply LW.nil; refine thenN ?_; apply CW.condF; rfl; (with_reducible rfl); refine CW.skip ?_; refine blkN ?_; refine thenN ?_; refine CW.seq ?_; apply CW.pre; refine AnyW.any 10 mixed (by decide +kernel) ?_; (try simp only [tsOf_cons, tsOf_nil, tsOf_app]); apply DW.v0; rfl; rfl; rfl; exact WantT.none; rfl; apply ValP.move; rfl; apply DW.v0; rfl; rfl; rfl; exact WantT.none; rfl; apply ValP.move; rfl; apply DW.v0; rfl; rfl; rfl; exact WantT.none; rfl; apply ValP.cutTo; infer_instance; infer_instance; rfl; rfl; omega; apply DW.v0; rfl; rfl; rfl; exact WantT.none; rfl; apply ValP.buildT; infer_instance; infer_instance; apply PartsOk.cons; rfl; exact PartsOk.nil; rfl; simp only [cells_cut, cells_sl, cells_ptr, cells_int, cells_bool, cells_agg, fillP, wrCells, List.getElem?_cons_zero, List.getElem?_cons_succ, List.toList_toArray, List.setIfInBounds_toArray, List.set_cons_succ, List.set_cons_zero, Nat.reduceAdd, Nat.zero_add]; rfl; apply DW.v0; rfl; rfl; rfl; exact WantT.none; rfl; apply ValP.move; rfl; apply DW.v0; rfl; rfl; rfl; exact WantT.none; rfl; apply ValP.move; rfl; apply DW.v0; rfl; rfl; rfl; exact WantT.none; rfl; apply ValP.cutFrom; infer_instance; infer_instance; rfl; rfl; omega; apply DW.v0; rfl; rfl; rfl; exact WantT.none; rfl; apply ValP.buildT; infer_instance; infer_instance; apply PartsOk.cons; rfl; exact PartsOk.nil; rfl; simp only [cells_cut, cells_sl, cells_ptr, cells_int, cells_bool, cells_agg, fillP, wrCells, List.getElem?_cons_zero, List.getElem?_cons_succ, List.toList_toArray, List.setIfInBounds_toArray, List.set_cons_succ, List.set_cons_zero, Nat.reduceAdd, Nat.zero_add]; rfl; apply DW.boxA; rfl; rfl; rfl; exact WantT.none; rfl; intro _; apply DW.v0; rfl; rfl; rfl; exact WantT.none; rfl; apply ValP.move; rfl; apply DW.nil; simp only [fsOf_cons, fsOf_nil, fsOf_app, fsOf_tsOf, fsOf_new]; apply LW.v0; rfl; rfl; apply ValP.buildT; infer_instance; infer_instance; apply PartsOk.cons; rfl; apply PartsOk.cons; rfl; apply PartsOk.cons; rfl; exact PartsOk.nil; rfl; simp only [cells_cut, cells_sl, cells_ptr, cells_int, cells_bool, cells_agg, fillP, wrCells, List.getElem?_cons_zero, List.getElem?_cons_succ, List.toList_toArray, List.setIfInBounds_toArray, List.set_cons_succ, List.set_cons_zero, Nat.reduceAdd, Nat.zero_add]; rfl; apply LW.boxA; rfl; rfl; intro _; apply LW.v0; rfl; rfl; apply ValP.assign; rfl; apply LW.nil; refine thenN ?_; refine CW.seq ?_; refine CW.region ?_; apply LW.makeMap; rfl; intro _; apply LW.v0; rfl; rfl; apply ValP.move; rfl; apply LW.v0; rfl; rfl; apply ValP.makeFunc; apply ArgsOk.cons; rfl; exact ArgsOk.nil; exact ArgsOk.nil)
  apply LW.mapIns
  infer_instance
  infer_instance
  rfl
  rfl
  rfl
  (apply SetAt.head)
  trivial
  rfl
  (apply LW.v0; rfl; rfl; apply ValP.move; rfl; apply LW.v0; rfl; rfl; apply ValP.makeFunc; apply ArgsOk.cons; rfl; exact ArgsOk.nil; exact ArgsOk.nil)
  apply LW.mapIns
  infer_instance
  infer_instance
  rfl
  rfl
  rfl
  (apply SetAt.head)
  trivial
  rfl
  (apply LW.v0; rfl; rfl; apply ValP.move; rfl; apply LW.v0; rfl; rfl; apply ValP.assign; rfl; apply LW.nil; refine thenN ?_; refine CW.seq ?_; refine CW.region ?_; apply LW.v0; rfl; rfl; apply ValP.assign; rfl; apply LW.nil; refine thenN ?_; refine CW.seq ?_; refine CW.seq ?_; refine CW.region ?_; apply LW.v0; rfl; rfl; apply ValP.move; rfl; apply LW.v0; rfl; rfl; apply ValP.lenR; rfl; infer_instance; rfl; apply LW.v0; rfl; rfl; apply ValP.move; rfl; apply LW.nil; refine thenN ?_; refine CW.block ?_)
  rename_i bT bR bM
  refine CW.loop (fun x : GX => ([(44, .int .i64 (x.k : Int)), (43, .int .i64 (fm.length : Int)), (42, .slice q fm.length d), (9, x.ov), (8, .map (some bM)), (7, .pointer (some ⟨bR, 0, none⟩))],
      x.gsD ++ (x.segO ++ ((bM, .map #[⟨.bool false, .func (.func 45) #[.pointer (some ⟨bR, 0, none⟩)] #[], 0⟩, ⟨.bool true, .func (.func 46) #[.pointer (some ⟨bR, 0, none⟩)] #[], 1⟩] 2) :: (rfs bR bT x.hv x.tv (rsK b fm x.k) ++ [])))))
    (fun x => x.k ≤ fm.length ∧ IsRow 61 6 x.ov x.k (x.ps.flatMap psc) x.segO ∧ DatAt x.gsD x.ps ∧ x.ps.map dat = rdK b fm x.k ∧ (∀ p ∈ x.ps, p.wd < M256) ∧ RowAt w 1 x.hv (rsK b fm x.k).hl.length (ucs (rsK b fm x.k).hl) ∧ RowAt w 1 x.tv (rsK b fm x.k).tl.length (ucs (rsK b fm x.k).tl))
    (fun x => fm.length - x.k) ⟨0, .slice none 0 0, [], [], [], .slice p (32 * fm.length) c, cutAt p (32 * fm.length) b.length c 1⟩
    ⟨Nat.zero_le _, .nil, DatAt.nil, rfl, (fun _ h => by cases h), (by rw [rsK_zero]; exact row_taken hb hlen), (by rw [rsK_zero]; exact row_left hb hlen)⟩ ⟨rfl, rfl, rfl, rfl, rfl, rfl, trivial⟩ (by dsimp only; rw [rsK_zero]; exact List.Sublist.refl _) ?_
  rintro ⟨k, ov, segO, ps, gsD, hv, tv⟩ ⟨hk, hO, hD, hps, hsm, hhv, htv⟩
  dsimp only at hk hO hD hps hsm hhv htv ⊢
  have hpl := rsK_pl b fm k
  obtain ⟨po, co, rfl⟩ := hO.form
  rcases Nat.lt_or_ge k fm.length with hlt | hge
  · obtain ⟨b0, off, c', cs, E, fr, heq, hb0, hx⟩ := hf.pos (by omega)
    cases heq
    have hgd : fm.getD k false = fm[k] := by simp [hlt]
    have hrd : Rd Tryd.prog 4 (.cells cs E fr) (off + k * 1) (.bool fm[k]) := Rd.elem1 hx (bls_one fm) (List.getElem?_eq_getElem hlt) rfl
    cases hfk : fm[k] with
    | false =>
      rw [hfk] at hrd hgd
      have hr1 := rsK_short (b := b) hgd
      (refine CW.seq ?_; refine CW.region ?_; apply LW.v0; rfl; rfl; apply ValP.lssT; rfl; rfl; omega; apply LW.nil; refine thenN ?_; refine CW.seq ?_; apply CW.condT; rfl; (with_reducible rfl); refine CW.skip ?_; refine thenN ?_; refine CW.seq ?_; refine CW.block ?_; refine CW.seq ?_; refine CW.region ?_; apply LW.v0; rfl; rfl; apply ValP.indexAddrS; rfl; rfl; rfl; omega; apply LW.load; rfl; rfl; exact Known.ext (by assumption) (by simp); assumption; apply LW.v0; rfl; rfl; apply ValP.assign; rfl; apply LW.nil; refine thenN ?_; refine CW.region ?_; apply LW.v0; rfl; rfl; apply ValP.move; rfl; apply LW.v0; rfl; rfl; apply ValP.move; rfl; apply LW.v0; rfl; rfl; apply ValP.move; rfl)
      apply LW.mapGet
      rfl
      infer_instance
      infer_instance
      infer_instance
      rfl
      rfl
      (apply Known.at; apply FsAt.app; apply FsAt.app; apply FsAt.head)
      trivial
      rfl
      rfl
      refine LW.callStF (aas := [_]) rfl rfl inferInstance .nil rfl (fun w' hs => short_calls (s := rsK b fm k) hhv (gsD ++ (segO ++ [(bM, _)])) [] w' (by rw [List.append_assoc, List.append_assoc]; exact hs)) ?_
      rintro v fs' ⟨rfl, hv', hhv', rfl⟩
      rw [List.append_assoc, List.append_assoc]
      simp only [List.cons_append, List.nil_append]
      obtain ⟨P, hP⟩ : ∃ P, ofP (hd32 (rsK b fm k)) = P := ⟨_, rfl⟩
      have hP1 : P.dv.oneCell' = true := by rw [← hP]; rfl
      rw [hP]
      (apply LW.layA; rfl; infer_instance; infer_instance; rfl; rfl; rfl; rfl; rfl; intro _)
      rename_i b9
      refine LW.append (n := k) (m := 1) (news := psc P) rfl rfl inferInstance inferInstance inferInstance rfl rfl rfl (by (apply AtSeg.cons; apply AtSeg.app; exact AtSeg.head)) hO (by (apply Known.at; apply FsAt.head)) rfl rfl (psc_one hP1) (by omega) (by simp only [maxLen]; omega) (by omega) ?_
      intro ov' segO' hO'
      refine ⟨_, (by (apply AtSeg.cons; apply AtSeg.app; exact AtSeg.head)), ?_⟩
      (apply LW.v0; rfl; rfl; apply ValP.assign; rfl; apply LW.nil; refine blkN ?_; refine thenN ?_; refine CW.region ?_; apply LW.v0; rfl; rfl; apply ValP.addZL; rfl; rfl; decide; omega; apply LW.v0; rfl; rfl; apply ValP.move; rfl; apply LW.nil)
      apply thenX
      refine ⟨rfl, ⟨k + 1, ov', segO', ps ++ [P], gsD, hv', tv⟩, ⟨hlt, ?_, ?_, ?_, ?_, ?_, ?_⟩, by show fm.length - (k + 1) < fm.length - k; omega, ⟨rfl, rfl, rfl, rfl, rfl, rfl, trivial⟩, ?_⟩
      · dsimp only; rw [flat_snoc]; exact hO'
      · have := hD.app (hs := []) (qs := [P]) (fun w' _ q hq => by
          obtain rfl : q = P := by simpa using hq
          rw [← hP]; exact RowAt.nil)
        exact this
      · dsimp only
        rw [List.map_append, hps, rdK_succ, rdP, if_neg (by simpa using hgd), hP]; rfl
      · intro p hp
        rcases List.mem_append.1 hp with hp | hp
        · exact hsm p hp
        · obtain rfl : p = P := by simpa using hp
          rw [← hP]; exact bev_m256 (tkB_len _ _ _)
      · dsimp only; rw [hr1]; exact hhv'
      · dsimp only; rw [hr1]; exact htv
      · dsimp only
        rw [hr1]
        exact List.Sublist.cons _ (List.Sublist.refl _)
    | true =>
      rw [hfk] at hrd hgd
      have hr1 := rsK_long (b := b) hgd
      (refine CW.seq ?_; refine CW.region ?_; apply LW.v0; rfl; rfl; apply ValP.lssT; rfl; rfl; omega; apply LW.nil; refine thenN ?_; refine CW.seq ?_; apply CW.condT; rfl; (with_reducible rfl); refine CW.skip ?_; refine thenN ?_; refine CW.seq ?_; refine CW.block ?_; refine CW.seq ?_; refine CW.region ?_; apply LW.v0; rfl; rfl; apply ValP.indexAddrS; rfl; rfl; rfl; omega; apply LW.load; rfl; rfl; exact Known.ext (by assumption) (by simp); assumption; apply LW.v0; rfl; rfl; apply ValP.assign; rfl; apply LW.nil; refine thenN ?_; refine CW.region ?_; apply LW.v0; rfl; rfl; apply ValP.move; rfl; apply LW.v0; rfl; rfl; apply ValP.move; rfl; apply LW.v0; rfl; rfl; apply ValP.move; rfl)
      apply LW.mapGet
      rfl
      infer_instance
      infer_instance
      infer_instance
      rfl
      rfl
      (apply Known.at; apply FsAt.app; apply FsAt.app; apply FsAt.head)
      trivial
      rfl
      rfl
      refine LW.callStF (aas := [_]) rfl rfl inferInstance .nil rfl (fun w' hs => long_calls (s := rsK b fm k) hhv htv (by omega) (gsD ++ (segO ++ [(bM, _)])) [] w' (by rw [List.append_assoc, List.append_assoc]; exact hs)) ?_
      rintro v fs' ⟨dv, segD, hv', tv', rfl, hseg, hhv', htv', rfl⟩
      rw [List.append_assoc, List.append_assoc]
      simp only [List.cons_append, List.nil_append]
      obtain ⟨P, hP⟩ : ∃ P, lgR (rsK b fm k) dv = P := ⟨_, rfl⟩
      rw [hP] at hseg ⊢
      have hP1 : P.dv.oneCell' = true := by obtain ⟨a1, a2, a3⟩ := hseg.form; rw [a3]; rfl
      (apply LW.layA; rfl; infer_instance; infer_instance; rfl; rfl; rfl; rfl; rfl; intro _)
      rename_i b9
      refine LW.append (n := k) (m := 1) (news := psc P) rfl rfl inferInstance inferInstance inferInstance rfl rfl rfl (by (apply AtSeg.cons; apply AtSeg.app; apply AtSeg.app; exact AtSeg.head)) hO (by (apply Known.at; apply FsAt.head)) rfl rfl (psc_one hP1) (by omega) (by simp only [maxLen]; omega) (by omega) ?_
      intro ov' segO' hO'
      refine ⟨_, (by (apply AtSeg.cons; apply AtSeg.app; apply AtSeg.app; exact AtSeg.head)), ?_⟩
      (apply LW.v0; rfl; rfl; apply ValP.assign; rfl; apply LW.nil; refine blkN ?_; refine thenN ?_; refine CW.region ?_; apply LW.v0; rfl; rfl; apply ValP.addZL; rfl; rfl; decide; omega; apply LW.v0; rfl; rfl; apply ValP.move; rfl; apply LW.nil)
      apply thenX
      refine ⟨rfl, ⟨k + 1, ov', segO', ps ++ [P], segD ++ gsD, hv', tv'⟩, ⟨hlt, ?_, ?_, ?_, ?_, ?_, ?_⟩, by show fm.length - (k + 1) < fm.length - k; omega, ⟨rfl, rfl, rfl, rfl, rfl, rfl, trivial⟩, ?_⟩
      · dsimp only; rw [flat_snoc]; exact hO'
      · exact hD.app (row_is hseg rfl rfl rfl)
      · dsimp only
        rw [List.map_append, hps, rdK_succ, rdP, if_pos hgd, dat_lgR _ _ dv, hP]; rfl
      · intro p hp
        rcases List.mem_append.1 hp with hp | hp
        · exact hsm p hp
        · obtain rfl : p = P := by simpa using hp
          rw [← hP]; exact wd_lgR _ _
      · dsimp only; rw [hr1]; exact hhv'
      · dsimp only; rw [hr1]; exact htv'
      · dsimp only
        rw [hr1, List.append_assoc]
        exact List.Sublist.cons _ (List.Sublist.refl _)
  · obtain rfl : k = fm.length := by omega
    simp only [rfs, List.cons_append, List.nil_append]
    obtain ⟨S, hS⟩ : ∃ S, rsK b fm fm.length = S := ⟨_, rfl⟩
    rw [hS] at htv ⊢
    obtain ⟨hl, hb1, tl, tb1, pl⟩ := S
    dsimp only at htv ⊢
    obtain ⟨pt1, ct1, rfl, _, htm⟩ := htv.form
    simp only [maxLen] at htm
    have hE : rdE b fm = if hb1 || tb1 || decide (0 < tl.length) then 141 else 0 := by rw [rdE, if_neg (by omega), if_neg (by omega), hS]; rfl
    cases hb1 with
    | true =>
      rw [if_pos (by rfl)] at hE
      (refine CW.seq ?_; refine CW.region ?_; apply LW.v0; rfl; rfl; apply ValP.lssF; rfl; rfl; omega; apply LW.nil; refine thenN ?_; refine CW.seq ?_; apply CW.condF; rfl; (with_reducible rfl); refine CW.exit ?_; refine thenE ?_; refine thenE ?_; refine blkE rfl ?_; refine thenN ?_; refine CW.seq ?_; refine CW.seq ?_; refine CW.region ?_; apply LW.v0; rfl; rfl; apply ValP.move; rfl; apply LW.v0; rfl; rfl; apply ValP.nilCheck; rfl; apply LW.v0; rfl; rfl; apply ValP.fieldAddr; rfl; rfl; apply LW.v0; rfl; rfl; apply ValP.fieldAddr; rfl; rfl; apply LW.load; rfl; rfl; apply Known.at; apply FsAt.app; apply FsAt.app; apply FsAt.tail; apply FsAt.head; exact Rd.one' rfl; apply LW.v0; rfl; rfl; apply ValP.move; rfl; apply LW.guardF'; rfl; rfl; simp only [Bool.not_true, Bool.not_false]; rfl; apply LW.guardF'; rfl; rfl; simp only [Bool.not_true, Bool.not_false]; rfl; apply LW.guardF'; rfl; rfl; simp only [Bool.not_true, Bool.not_false]; rfl; apply LW.guardF'; rfl; rfl; simp only [Bool.not_true, Bool.not_false]; rfl; apply LW.guardF'; rfl; rfl; simp only [Bool.not_true, Bool.not_false]; rfl; apply LW.guardF'; rfl; rfl; simp only [Bool.not_true, Bool.not_false]; rfl; apply LW.guardF'; rfl; rfl; simp only [Bool.not_true, Bool.not_false]; rfl; apply LW.v0; rfl; rfl; apply ValP.pickT'; rfl; (with_reducible rfl); rfl; apply LW.v0; rfl; rfl; apply ValP.move; rfl; apply LW.guardF'; rfl; rfl; simp only [Bool.not_true, Bool.not_false]; rfl; apply LW.guardF'; rfl; rfl; simp only [Bool.not_true, Bool.not_false]; rfl; apply LW.guardF'; rfl; rfl; simp only [Bool.not_true, Bool.not_false]; rfl; apply LW.guardF'; rfl; rfl; simp only [Bool.not_true, Bool.not_false]; rfl; apply LW.guardF'; rfl; rfl; simp only [Bool.not_true, Bool.not_false]; rfl; apply LW.guardF'; rfl; rfl; simp only [Bool.not_true, Bool.not_false]; rfl; apply LW.guardF'; rfl; rfl; simp only [Bool.not_true, Bool.not_false]; rfl; apply LW.guardF'; rfl; rfl; simp only [Bool.not_true, Bool.not_false]; rfl; apply LW.guardF'; rfl; rfl; simp only [Bool.not_true, Bool.not_false]; rfl; apply LW.v0; rfl; rfl; apply ValP.pickT'; rfl; (with_reducible rfl); rfl; apply LW.nil; refine thenN ?_; apply CW.condT; rfl; (with_reducible rfl); refine CW.seq ?_; refine CW.region ?_; apply LW.v0; rfl; rfl; apply ValP.assign; rfl; apply LW.v0; rfl; rfl; apply ValP.assign; rfl; apply LW.nil; refine thenN ?_; refine CW.ret ?_; refine thenR ?_)
      refine fin [] (.inl rfl) rfl rfl (by (apply ResL.cons; exact Res.tmp rfl; apply ResL.cons; exact Res.tmp rfl; exact ResL.nil)) (List.nil_sublist _) ⟨.slice none 0 0, by rw [hE]; rfl, fun h => ?_, fun _ => rfl⟩
      rw [hE] at h
      cases h
    | false =>
      cases tb1 with
      | true =>
        rw [if_pos (by rfl)] at hE
        (refine CW.seq ?_; refine CW.region ?_; apply LW.v0; rfl; rfl; apply ValP.lssF; rfl; rfl; omega; apply LW.nil; refine thenN ?_; refine CW.seq ?_; apply CW.condF; rfl; (with_reducible rfl); refine CW.exit ?_; refine thenE ?_; refine thenE ?_; refine blkE rfl ?_; refine thenN ?_; refine CW.seq ?_; refine CW.seq ?_; refine CW.region ?_; apply LW.v0; rfl; rfl; apply ValP.move; rfl; apply LW.v0; rfl; rfl; apply ValP.nilCheck; rfl; apply LW.v0; rfl; rfl; apply ValP.fieldAddr; rfl; rfl; apply LW.v0; rfl; rfl; apply ValP.fieldAddr; rfl; rfl; apply LW.load; rfl; rfl; apply Known.at; apply FsAt.app; apply FsAt.app; apply FsAt.tail; apply FsAt.head; exact Rd.one' rfl; apply LW.v0; rfl; rfl; apply ValP.move; rfl; apply LW.guardT'; rfl; rfl; (with_reducible rfl); apply LW.v0; rfl; rfl; apply ValP.move; rfl; apply LW.guardT'; rfl; rfl; (with_reducible rfl); apply LW.v0; rfl; rfl; apply ValP.nilCheck; rfl; apply LW.guardT'; rfl; rfl; (with_reducible rfl); apply LW.v0; rfl; rfl; apply ValP.fieldAddr; rfl; rfl; apply LW.guardT'; rfl; rfl; (with_reducible rfl); apply LW.load; rfl; rfl; apply Known.at; apply FsAt.app; apply FsAt.app; apply FsAt.tail; apply FsAt.head; exact Rd.one' rfl; apply LW.guardT'; rfl; rfl; (with_reducible rfl); apply LW.v0; rfl; rfl; apply ValP.nilCheck; rfl; apply LW.guardT'; rfl; rfl; (with_reducible rfl); apply LW.v0; rfl; rfl; apply ValP.fieldAddr; rfl; rfl; apply LW.guardT'; rfl; rfl; (with_reducible rfl); apply LW.load; rfl; rfl; apply Known.at; apply FsAt.app; apply FsAt.app; apply FsAt.tail; apply FsAt.tail; apply FsAt.head; exact Rd.one' rfl; apply LW.v0; rfl; rfl; apply ValP.pickF'; rfl; (with_reducible rfl); rfl; apply LW.v0; rfl; rfl; apply ValP.move; rfl; apply LW.guardF'; rfl; rfl; simp only [Bool.not_true, Bool.not_false]; rfl; apply LW.guardF'; rfl; rfl; simp only [Bool.not_true, Bool.not_false]; rfl; apply LW.guardF'; rfl; rfl; simp only [Bool.not_true, Bool.not_false]; rfl; apply LW.guardF'; rfl; rfl; simp only [Bool.not_true, Bool.not_false]; rfl; apply LW.guardF'; rfl; rfl; simp only [Bool.not_true, Bool.not_false]; rfl; apply LW.guardF'; rfl; rfl; simp only [Bool.not_true, Bool.not_false]; rfl; apply LW.guardF'; rfl; rfl; simp only [Bool.not_true, Bool.not_false]; rfl; apply LW.guardF'; rfl; rfl; simp only [Bool.not_true, Bool.not_false]; rfl; apply LW.guardF'; rfl; rfl; simp only [Bool.not_true, Bool.not_false]; rfl; apply LW.v0; rfl; rfl; apply ValP.pickT'; rfl; (with_reducible rfl); rfl; apply LW.nil; refine thenN ?_; apply CW.condT; rfl; (with_reducible rfl); refine CW.seq ?_; refine CW.region ?_; apply LW.v0; rfl; rfl; apply ValP.assign; rfl; apply LW.v0; rfl; rfl; apply ValP.assign; rfl; apply LW.nil; refine thenN ?_; refine CW.ret ?_; refine thenR ?_)
        refine fin [] (.inl rfl) rfl rfl (by (apply ResL.cons; exact Res.tmp rfl; apply ResL.cons; exact Res.tmp rfl; exact ResL.nil)) (List.nil_sublist _) ⟨.slice none 0 0, by rw [hE]; rfl, fun h => ?_, fun _ => rfl⟩
        rw [hE] at h
        cases h
      | false =>
        rcases Nat.eq_zero_or_pos tl.length with h0 | h0
        · rw [if_neg (by simp [h0])] at hE
          (refine CW.seq ?_; refine CW.region ?_; apply LW.v0; rfl; rfl; apply ValP.lssF; rfl; rfl; omega; apply LW.nil; refine thenN ?_; refine CW.seq ?_; apply CW.condF; rfl; (with_reducible rfl); refine CW.exit ?_; refine thenE ?_; refine thenE ?_; refine blkE rfl ?_; refine thenN ?_; refine CW.seq ?_; refine CW.seq ?_; refine CW.region ?_; apply LW.v0; rfl; rfl; apply ValP.move; rfl; apply LW.v0; rfl; rfl; apply ValP.nilCheck; rfl; apply LW.v0; rfl; rfl; apply ValP.fieldAddr; rfl; rfl; apply LW.v0; rfl; rfl; apply ValP.fieldAddr; rfl; rfl; apply LW.load; rfl; rfl; apply Known.at; apply FsAt.app; apply FsAt.app; apply FsAt.tail; apply FsAt.head; exact Rd.one' rfl; apply LW.v0; rfl; rfl; apply ValP.move; rfl; apply LW.guardT'; rfl; rfl; (with_reducible rfl); apply LW.v0; rfl; rfl; apply ValP.move; rfl; apply LW.guardT'; rfl; rfl; (with_reducible rfl); apply LW.v0; rfl; rfl; apply ValP.nilCheck; rfl; apply LW.guardT'; rfl; rfl; (with_reducible rfl); apply LW.v0; rfl; rfl; apply ValP.fieldAddr; rfl; rfl; apply LW.guardT'; rfl; rfl; (with_reducible rfl); apply LW.load; rfl; rfl; apply Known.at; apply FsAt.app; apply FsAt.app; apply FsAt.tail; apply FsAt.head; exact Rd.one' rfl; apply LW.guardT'; rfl; rfl; (with_reducible rfl); apply LW.v0; rfl; rfl; apply ValP.nilCheck; rfl; apply LW.guardT'; rfl; rfl; (with_reducible rfl); apply LW.v0; rfl; rfl; apply ValP.fieldAddr; rfl; rfl; apply LW.guardT'; rfl; rfl; (with_reducible rfl); apply LW.load; rfl; rfl; apply Known.at; apply FsAt.app; apply FsAt.app; apply FsAt.tail; apply FsAt.tail; apply FsAt.head; exact Rd.one' rfl; apply LW.v0; rfl; rfl; apply ValP.pickF'; rfl; (with_reducible rfl); rfl; apply LW.v0; rfl; rfl; apply ValP.move; rfl; apply LW.guardT'; rfl; rfl; (with_reducible rfl); apply LW.v0; rfl; rfl; apply ValP.move; rfl; apply LW.guardT'; rfl; rfl; (with_reducible rfl); apply LW.v0; rfl; rfl; apply ValP.nilCheck; rfl; apply LW.guardT'; rfl; rfl; (with_reducible rfl); apply LW.v0; rfl; rfl; apply ValP.fieldAddr; rfl; rfl; apply LW.guardT'; rfl; rfl; (with_reducible rfl); apply LW.load; rfl; rfl; apply Known.at; apply FsAt.app; apply FsAt.app; apply FsAt.tail; apply FsAt.head; exact Rd.one' rfl; apply LW.guardT'; rfl; rfl; (with_reducible rfl); apply LW.v0; rfl; rfl; apply ValP.nilCheck; rfl; apply LW.guardT'; rfl; rfl; (with_reducible rfl); apply LW.v0; rfl; rfl; apply ValP.fieldAddr; rfl; rfl; apply LW.guardT'; rfl; rfl; (with_reducible rfl); apply LW.load; rfl; rfl; apply Known.at; apply FsAt.app; apply FsAt.app; apply FsAt.tail; apply FsAt.tail; apply FsAt.head; exact Rd.one' rfl; apply LW.guardT'; rfl; rfl; (with_reducible rfl); apply LW.v0; rfl; rfl; apply ValP.lenR; rfl; infer_instance; rfl; apply LW.guardT'; rfl; rfl; (with_reducible rfl); apply LW.v0; rfl; rfl; apply ValP.gtrF; rfl; rfl; omega; apply LW.v0; rfl; rfl; apply ValP.pickF'; rfl; (with_reducible rfl); rfl; apply LW.nil; refine thenN ?_; apply CW.condF; rfl; (with_reducible rfl); refine CW.skip ?_; refine thenN ?_; refine CW.seq ?_; refine CW.region ?_; apply LW.v0; rfl; rfl; apply ValP.move; rfl; apply LW.v0; rfl; rfl; apply ValP.assign; rfl; apply LW.v0; rfl; rfl; apply ValP.assign; rfl; apply LW.nil; refine thenN ?_; refine CW.ret ?_)
          refine fin (vs := [.slice po fm.length co, .int .i64 0]) (gsD ++ segO) (.inl rfl) rfl rfl (by (apply ResL.cons; exact Res.tmp rfl; apply ResL.cons; exact Res.tmp rfl; exact ResL.nil)) ?_ ⟨.slice po fm.length co, by rw [hE]; rfl, fun _ => ⟨ps, hps, gsD, segO, rfl, ?_, hD, hsm⟩, fun h => absurd hE h⟩
          · exact List.Sublist.append_left (List.sublist_append_left _ _) _
          · have hl := congrArg List.length hps
            rw [List.length_map, rdK, List.length_map, List.length_range] at hl
            rw [hl]
            exact hO
        · rw [if_pos (by simp [h0])] at hE
          (refine CW.seq ?_; refine CW.region ?_; apply LW.v0; rfl; rfl; apply ValP.lssF; rfl; rfl; omega; apply LW.nil; refine thenN ?_; refine CW.seq ?_; apply CW.condF; rfl; (with_reducible rfl); refine CW.exit ?_; refine thenE ?_; refine thenE ?_; refine blkE rfl ?_; refine thenN ?_; refine CW.seq ?_; refine CW.seq ?_; refine CW.region ?_; apply LW.v0; rfl; rfl; apply ValP.move; rfl; apply LW.v0; rfl; rfl; apply ValP.nilCheck; rfl; apply LW.v0; rfl; rfl; apply ValP.fieldAddr; rfl; rfl; apply LW.v0; rfl; rfl; apply ValP.fieldAddr; rfl; rfl; apply LW.load; rfl; rfl; apply Known.at; apply FsAt.app; apply FsAt.app; apply FsAt.tail; apply FsAt.head; exact Rd.one' rfl; apply LW.v0; rfl; rfl; apply ValP.move; rfl; apply LW.guardT'; rfl; rfl; (with_reducible rfl); apply LW.v0; rfl; rfl; apply ValP.move; rfl; apply LW.guardT'; rfl; rfl; (with_reducible rfl); apply LW.v0; rfl; rfl; apply ValP.nilCheck; rfl; apply LW.guardT'; rfl; rfl; (with_reducible rfl); apply LW.v0; rfl; rfl; apply ValP.fieldAddr; rfl; rfl; apply LW.guardT'; rfl; rfl; (with_reducible rfl); apply LW.load; rfl; rfl; apply Known.at; apply FsAt.app; apply FsAt.app; apply FsAt.tail; apply FsAt.head; exact Rd.one' rfl; apply LW.guardT'; rfl; rfl; (with_reducible rfl); apply LW.v0; rfl; rfl; apply ValP.nilCheck; rfl; apply LW.guardT'; rfl; rfl; (with_reducible rfl); apply LW.v0; rfl; rfl; apply ValP.fieldAddr; rfl; rfl; apply LW.guardT'; rfl; rfl; (with_reducible rfl); apply LW.load; rfl; rfl; apply Known.at; apply FsAt.app; apply FsAt.app; apply FsAt.tail; apply FsAt.tail; apply FsAt.head; exact Rd.one' rfl; apply LW.v0; rfl; rfl; apply ValP.pickF'; rfl; (with_reducible rfl); rfl; apply LW.v0; rfl; rfl; apply ValP.move; rfl; apply LW.guardT'; rfl; rfl; (with_reducible rfl); apply LW.v0; rfl; rfl; apply ValP.move; rfl; apply LW.guardT'; rfl; rfl; (with_reducible rfl); apply LW.v0; rfl; rfl; apply ValP.nilCheck; rfl; apply LW.guardT'; rfl; rfl; (with_reducible rfl); apply LW.v0; rfl; rfl; apply ValP.fieldAddr; rfl; rfl; apply LW.guardT'; rfl; rfl; (with_reducible rfl); apply LW.load; rfl; rfl; apply Known.at; apply FsAt.app; apply FsAt.app; apply FsAt.tail; apply FsAt.head; exact Rd.one' rfl; apply LW.guardT'; rfl; rfl; (with_reducible rfl); apply LW.v0; rfl; rfl; apply ValP.nilCheck; rfl; apply LW.guardT'; rfl; rfl; (with_reducible rfl); apply LW.v0; rfl; rfl; apply ValP.fieldAddr; rfl; rfl; apply LW.guardT'; rfl; rfl; (with_reducible rfl); apply LW.load; rfl; rfl; apply Known.at; apply FsAt.app; apply FsAt.app; apply FsAt.tail; apply FsAt.tail; apply FsAt.head; exact Rd.one' rfl; apply LW.guardT'; rfl; rfl; (with_reducible rfl); apply LW.v0; rfl; rfl; apply ValP.lenR; rfl; infer_instance; rfl; apply LW.guardT'; rfl; rfl; (with_reducible rfl); apply LW.v0; rfl; rfl; apply ValP.gtrT; rfl; rfl; omega; apply LW.v0; rfl; rfl; apply ValP.pickF'; rfl; (with_reducible rfl); rfl; apply LW.nil; refine thenN ?_; apply CW.condT; rfl; (with_reducible rfl); refine CW.seq ?_; refine CW.region ?_; apply LW.v0; rfl; rfl; apply ValP.assign; rfl; apply LW.v0; rfl; rfl; apply ValP.assign; rfl; apply LW.nil; refine thenN ?_; refine CW.ret ?_; refine thenR ?_)
          refine fin [] (.inl rfl) rfl rfl (by (apply ResL.cons; exact Res.tmp rfl; apply ResL.cons; exact Res.tmp rfl; exact ResL.nil)) (List.nil_sublist _) ⟨.slice none 0 0, by rw [hE]; rfl, fun h => ?_, fun _ => rfl⟩
          rw [hE] at h
          cases h
theorem Read_less (b : List UInt8) (fm : List Bool) (bv fv : Value) (w : World) (hb : RowAt w 1 bv b.length (ucs b)) (hf : RowAt w 1 fv fm.length (bls fm)) (h16 : fm.length ≤ 16) (h : b.length < 32 * fm.length) :
    Calls Tryd.prog 32 #[bv, fv] w (RetG w [] (ReadR b fm)) := by
  obtain ⟨p, c, rfl, hc, hm⟩ := hb.form
  obtain ⟨q, d, rfl, hd, hn⟩ := hf.form
  simp only [maxLen] at hm hn
  have hE : rdE b fm = 141 := by rw [rdE, if_neg (by omega), if_pos (by omega)]
  refine enter (args := [_, _]) _ [] [] Tryd.func32 rfl Tryd.ntmps32 rfl (by simp) .nil ?_
  (refine CW.seq ?_; refine CW.region ?_; apply LW.v0; rfl; rfl; apply ValP.assign; rfl; apply LW.v0; rfl; rfl; apply ValP.assign; rfl; apply LW.nil; refine thenN ?_; refine CW.seq ?_; refine CW.region ?_; apply LW.v0; rfl; rfl; apply ValP.move; rfl; apply LW.v0; rfl; rfl; apply ValP.lenR; rfl; infer_instance; rfl; apply LW.v0; rfl; rfl; apply ValP.mulZK; rfl; rfl; decide; omega; apply LW.v0; rfl; rfl; apply ValP.assign; rfl; apply LW.nil; refine thenN ?_; refine CW.seq ?_; refine CW.block ?_; refine CW.seq ?_; refine CW.region ?_; apply LW.v0; rfl; rfl; apply ValP.move; rfl; apply LW.v0; rfl; rfl; apply ValP.lenR; rfl; infer_instance; rfl; apply LW.v0; rfl; rfl; apply ValP.gtrF; rfl; rfl; omega; apply LW.v0; rfl; rfl; apply ValP.assign; rfl; apply LW.nil; refine thenN ?_; apply CW.condF; rfl; (with_reducible rfl); refine CW.seq ?_; refine CW.region ?_; apply LW.v0; rfl; rfl; apply ValP.move; rfl; apply LW.v0; rfl; rfl; apply ValP.lenR; rfl; infer_instance; rfl; apply LW.v0; rfl; rfl; apply ValP.move; rfl; apply LW.v0; rfl; rfl; apply ValP.lssT; rfl; rfl; omega; apply LW.v0; rfl; rfl; apply ValP.assign; rfl; apply LW.nil; refine thenN ?_; apply CW.condT; rfl; (with_reducible rfl); refine CW.seq ?_; refine CW.region ?_; apply LW.v0; rfl; rfl; apply ValP.assign; rfl; apply LW.v0; rfl; rfl; apply ValP.assign; rfl; apply LW.nil; refine thenN ?_; refine CW.ret ?_; refine blkR ?_; refine thenR ?_)
  refine fin [] (.inl rfl) rfl rfl (by (apply ResL.cons; exact Res.tmp rfl; apply ResL.cons; exact Res.tmp rfl; exact ResL.nil)) (List.nil_sublist _) ⟨.slice none 0 0, by rw [hE]; rfl, fun h => ?_, fun _ => rfl⟩
  rw [hE] at h
  cases h
theorem mulWrap {P : Program} {T ty : TypeId} {e : Env} {x y : Operand} {a b : Int} (hx : e.ev x = some (.int .i64 a)) (hy : e.ev y = some (.int .i64 b)) : ValP P e [] (.binOp .mul T x y ty) (.int .i64 (IntKind.i64.wrap (a * b))) :=
  ValP.arW (c := a * b) hx hy (by simp [Op.intArith]) (by simp [binOp_mul])
theorem Read_many (b : List UInt8) (fm : List Bool) (bv fv : Value) (w : World) (hb : RowAt w 1 bv b.length (ucs b)) (hf : RowAt w 1 fv fm.length (bls fm)) (h16 : 16 < fm.length) :
    Calls Tryd.prog 32 #[bv, fv] w (RetG w [] (ReadR b fm)) := by
  obtain ⟨p, c, rfl, hc, hm⟩ := hb.form
  obtain ⟨q, d, rfl, hd, hn⟩ := hf.form
  simp only [maxLen] at hm hn
  have hE : rdE b fm = 3 := by rw [rdE, if_pos h16]
  refine enter (args := [_, _]) _ [] [] Tryd.func32 rfl Tryd.ntmps32 rfl (by simp) .nil ?_
  (refine CW.seq ?_; refine CW.region ?_; apply LW.v0; rfl; rfl; apply ValP.assign; rfl; apply LW.v0; rfl; rfl; apply ValP.assign; rfl; apply LW.nil; refine thenN ?_; refine CW.seq ?_; refine CW.region ?_; apply LW.v0; rfl; rfl; apply ValP.move; rfl; apply LW.v0; rfl; rfl; apply ValP.lenR; rfl; infer_instance; rfl; apply LW.v0; rfl; rfl; apply mulWrap; rfl; rfl; apply LW.v0; rfl; rfl; apply ValP.assign; rfl; apply LW.nil; refine thenN ?_; refine CW.seq ?_; refine CW.block ?_; refine CW.seq ?_; refine CW.region ?_; apply LW.v0; rfl; rfl; apply ValP.move; rfl; apply LW.v0; rfl; rfl; apply ValP.lenR; rfl; infer_instance; rfl; apply LW.v0; rfl; rfl; apply ValP.gtrT; rfl; rfl; omega; apply LW.v0; rfl; rfl; apply ValP.assign; rfl; apply LW.nil; refine thenN ?_; apply CW.condT; rfl; (with_reducible rfl); refine CW.seq ?_; refine CW.region ?_; apply LW.v0; rfl; rfl; apply ValP.assign; rfl; apply LW.v0; rfl; rfl; apply ValP.assign; rfl; apply LW.nil; refine thenN ?_; refine CW.ret ?_; refine blkR ?_; refine thenR ?_)
  refine fin [] (.inl rfl) rfl rfl (by (apply ResL.cons; exact Res.tmp rfl; apply ResL.cons; exact Res.tmp rfl; exact ResL.nil)) (List.nil_sublist _) ⟨.slice none 0 0, by rw [hE]; rfl, fun h => ?_, fun _ => rfl⟩
  rw [hE] at h
  cases h
theorem Read_pack (b : List UInt8) (fm : List Bool) (bv fv : Value) (w : World) (hb : RowAt w 1 bv b.length (ucs b)) (hf : RowAt w 1 fv fm.length (bls fm)) :
    Calls Tryd.prog 32 #[bv, fv] w (RetG w [] (ReadR b fm)) := by
  rcases Nat.lt_or_ge 16 fm.length with h16 | h16
  · exact Read_many b fm bv fv w hb hf h16
  · rcases Nat.lt_or_ge b.length (32 * fm.length) with h | h
    · exact Read_less b fm bv fv w hb hf h16 h
    · exact Read_ok b fm bv fv w hb hf h16 h
end Go.Proofs.YtobkhnmglbfheaaDoor

/-
  Contracts of the pack's laws: does the layer do anything?
  Conditions: none.
-/
namespace Go.Proofs.YtobkhnmglbfheaaDoor
open Go Go.RowKit SL
set_option maxRecDepth 8000
set_option maxHeartbeats 4000000
set_option linter.unusedSimpArgs false
set_option linter.unusedVariables false
attribute [local irreducible] SL.CW SL.LW SL.DW Calls SL.Ret SL.RetG SL.beginQ SL.roundQ SL.rangeQ SL.inQ SL.RW SL.AnyW SL.thenQ SL.thenC SL.thenW SL.blkQ SL.finQ SL.ValP SL.NewP SL.SetP SL.CallP SL.Rd SL.Wr SL.Known
theorem LW.st {C : Cu} {ops : Array Oper} {Q : Post} {l : List Oper} {e : Env} {fs : Fs} (h : ∀ w, St C.w0 C.S fs w → LW C ops Q l e fs) : LW C ops Q l e fs := by
  unfold SL.LW at h ⊢
  exact fun a w hs => h w hs.st a w hs
/-- Lay's bytes, whatever parts. -/
theorem Lay_calls (l : List PartV) (v : Value) (w : World) (hv : PartsAt w v l) : Calls Tryd.prog 38 #[v] w (RetG w [] (fun v' gs => ∃ bv, v' = .tuple #[bv, .int .i64 (chkP l)] ∧ IsRow 5 1 bv (if chkP l = 0 then (layF l).length else 0) (ucs (if chkP l = 0 then layF l else [])) gs)) := by
  by_cases h : chkP l = 0
  · have := Lay_ok l v w hv h
    rw [h, if_pos rfl, if_pos rfl]
    exact this
  · rw [if_neg h, if_neg h]
    refine Calls.mono (Lay_bad l v w hv h) fun x w' hr => ?_
    unfold SL.Ret at hr
    unfold SL.RetG
    exact ⟨_, [], hr.1, ⟨.slice none 0 0, rfl, .nil⟩, hr.2, (fun p hp => by cases hp), .nil⟩
theorem st_us {w0 w : World} {S : List Nat} {fs gs : Fs} (hs : St w0 S fs w) (h : List.Sublist gs fs) : ∀ q ∈ gs, w.heap[q.1]? = some q.2 := fun q hq => (hs.own q (h.subset hq)).2
end Go.Proofs.YtobkhnmglbfheaaDoor

/-
  Contracts of the pack's references: which bytes, and which parts, are the same.
  Conditions: none.
-/
namespace Go.Proofs.YtobkhnmglbfheaaDoor
open Go Go.RowKit SL
set_option maxRecDepth 8000
set_option maxHeartbeats 4000000
set_option linter.unusedSimpArgs false
set_option linter.unusedVariables false
attribute [local irreducible] SL.CW SL.LW SL.DW Calls SL.Ret SL.RetG SL.beginQ SL.roundQ SL.rangeQ SL.inQ SL.RW SL.AnyW SL.thenQ SL.thenC SL.thenW SL.blkQ SL.finQ SL.ValP SL.NewP SL.SetP SL.CallP SL.Rd SL.Wr SL.Known
theorem rSameB_calls (a b : List UInt8) (va vb : Value) (w : World) (ha : RowAt w 1 va a.length (ucs a)) (hb : RowAt w 1 vb b.length (ucs b)) : Calls Tryd.prog 37 #[va, vb] w (Ret w (.bool (decide (a = b)))) := by
  obtain ⟨p, c, rfl, hc, hm⟩ := ha.form
  obtain ⟨q, d, rfl, hd, hn⟩ := hb.form
  simp only [maxLen] at hm hn
  by_cases hll : a.length = b.length
  · refine enter (args := [_, _]) _ [] [] Tryd.func37 rfl Tryd.ntmps37 rfl (by simp) .nil ?_
    (refine CW.seq ?_; refine CW.region ?_; apply LW.v0; rfl; rfl; apply ValP.assign; rfl; apply LW.nil; refine thenN ?_; refine CW.seq ?_; refine CW.seq ?_; refine CW.region ?_; apply LW.v0; rfl; rfl; apply ValP.move; rfl; apply LW.v0; rfl; rfl; apply ValP.lenR; rfl; infer_instance; rfl; apply LW.v0; rfl; rfl; apply ValP.move; rfl; apply LW.v0; rfl; rfl; apply ValP.lenR; rfl; infer_instance; rfl; apply LW.v0; rfl; rfl; apply ValP.neF; rfl; rfl; omega; apply LW.nil; refine thenN ?_; apply CW.condF; rfl; (with_reducible rfl); refine CW.skip ?_; refine thenN ?_; refine CW.seq ?_; refine CW.seq ?_; refine CW.region ?_; apply LW.v0; rfl; rfl; apply ValP.move; rfl; apply LW.v0; rfl; rfl; apply ValP.lenR; rfl; infer_instance; rfl; apply LW.v0; rfl; rfl; apply ValP.move; rfl; apply LW.nil; refine thenN ?_; refine CW.block ?_)
    refine CW.loop (fun k : Nat => ([(13, .int .i64 (k : Int)), (12, .int .i64 (a.length : Int)), (0, .slice p a.length c), (1, .slice q b.length d)], []))
      (fun k => k ≤ a.length ∧ a.take k = b.take k) (fun k => a.length - k) 0 ⟨Nat.zero_le _, rfl⟩ ⟨rfl, rfl, rfl, rfl, trivial⟩ (List.nil_sublist _) ?_
    rintro k ⟨hk, ht⟩
    dsimp only at hk ht ⊢
    rcases Nat.lt_or_ge k a.length with hlt | hge
    · have hlt2 : k < b.length := by omega
      obtain ⟨b1, off1, c', cs1, E1, fr1, heq, hb1, hx1⟩ := ha.pos (by omega)
      cases heq
      obtain ⟨b2, off2, c'', cs2, E2, fr2, heq, hb2, hx2⟩ := hb.pos (by omega)
      cases heq
      obtain ⟨u, hu⟩ : ∃ u, u = a[k] := ⟨_, rfl⟩
      obtain ⟨v, hv⟩ : ∃ v, v = b[k] := ⟨_, rfl⟩
      have hrd1 : Rd Tryd.prog 5 (.cells cs1 E1 fr1) (off1 + k * 1) (.int .u8 (u.toNat : Int)) := Rd.elem1 hx1 (ucs_one a) (by rw [hu]; exact List.getElem?_eq_getElem hlt) rfl
      have hrd2 : Rd Tryd.prog 5 (.cells cs2 E2 fr2) (off2 + k * 1) (.int .u8 (v.toNat : Int)) := Rd.elem1 hx2 (ucs_one b) (by rw [hv]; exact List.getElem?_eq_getElem hlt2) rfl
      by_cases huv : u = v
      · have hn : u.toNat = v.toNat := by rw [huv]
        (refine CW.seq ?_; refine CW.region ?_; apply LW.v0; rfl; rfl; apply ValP.lssT; rfl; rfl; omega; apply LW.nil; refine thenN ?_; refine CW.seq ?_; apply CW.condT; rfl; (with_reducible rfl); refine CW.skip ?_; refine thenN ?_; refine CW.seq ?_; refine CW.block ?_; refine CW.seq ?_; refine CW.region ?_; apply LW.v0; rfl; rfl; apply ValP.move; rfl; apply LW.v0; rfl; rfl; apply ValP.assign; rfl; apply LW.nil; refine thenN ?_; refine CW.seq ?_; apply CW.pre; refine AnyW.any 8 mixed (by decide +kernel) ?_; (try simp only [tsOf_cons, tsOf_nil, tsOf_app]); apply DW.v0; rfl; rfl; rfl; exact WantT.none; rfl; apply ValP.move; rfl; apply DW.v0; rfl; rfl; rfl; exact WantT.none; rfl; apply ValP.move; rfl; apply DW.v0; rfl; rfl; rfl; exact WantT.none; rfl; apply ValP.indexAddrS; rfl; rfl; rfl; omega; apply DW.loadX; rfl; rfl; rfl; exact WantT.none; rfl; assumption; simp; assumption; apply DW.v0; rfl; rfl; rfl; exact WantT.none; rfl; apply ValP.move; rfl; apply DW.v0; rfl; rfl; rfl; exact WantT.none; rfl; apply ValP.move; rfl; apply DW.v0; rfl; rfl; rfl; exact WantT.none; rfl; apply ValP.indexAddrS; rfl; rfl; rfl; omega; apply DW.loadX; rfl; rfl; rfl; exact WantT.none; rfl; assumption; simp; assumption; apply DW.nil; simp only [fsOf_cons, fsOf_nil, fsOf_app, fsOf_tsOf, fsOf_new]; apply LW.v0; rfl; rfl; apply ValP.neF; rfl; rfl; omega; apply LW.nil; refine thenN ?_; apply CW.condF; rfl; (with_reducible rfl); refine CW.skip ?_; refine blkN ?_; refine thenN ?_; refine CW.region ?_; apply LW.v0; rfl; rfl; apply ValP.addZL; rfl; rfl; decide; omega; apply LW.v0; rfl; rfl; apply ValP.move; rfl; apply LW.nil)
        apply thenX
        refine ⟨rfl, k + 1, ⟨hlt, ?_⟩, by omega, ⟨rfl, rfl, rfl, rfl, trivial⟩, List.nil_sublist _⟩
        rw [List.take_succ_eq_append_getElem hlt, List.take_succ_eq_append_getElem hlt2, ht, ← hu, ← hv, huv]
      · have hn : u.toNat ≠ v.toNat := fun h => huv (UInt8.toNat_inj.1 h)
        have hne : a ≠ b := fun h => huv (by rw [hu, hv]; congr 1)
        rw [decide_eq_false hne]
        (refine CW.seq ?_; refine CW.region ?_; apply LW.v0; rfl; rfl; apply ValP.lssT; rfl; rfl; omega; apply LW.nil; refine thenN ?_; refine CW.seq ?_; apply CW.condT; rfl; (with_reducible rfl); refine CW.skip ?_; refine thenN ?_; refine CW.seq ?_; refine CW.block ?_; refine CW.seq ?_; refine CW.region ?_; apply LW.v0; rfl; rfl; apply ValP.move; rfl; apply LW.v0; rfl; rfl; apply ValP.assign; rfl; apply LW.nil; refine thenN ?_; refine CW.seq ?_; apply CW.pre; refine AnyW.any 8 mixed (by decide +kernel) ?_; (try simp only [tsOf_cons, tsOf_nil, tsOf_app]); apply DW.v0; rfl; rfl; rfl; exact WantT.none; rfl; apply ValP.move; rfl; apply DW.v0; rfl; rfl; rfl; exact WantT.none; rfl; apply ValP.move; rfl; apply DW.v0; rfl; rfl; rfl; exact WantT.none; rfl; apply ValP.indexAddrS; rfl; rfl; rfl; omega; apply DW.loadX; rfl; rfl; rfl; exact WantT.none; rfl; assumption; simp; assumption; apply DW.v0; rfl; rfl; rfl; exact WantT.none; rfl; apply ValP.move; rfl; apply DW.v0; rfl; rfl; rfl; exact WantT.none; rfl; apply ValP.move; rfl; apply DW.v0; rfl; rfl; rfl; exact WantT.none; rfl; apply ValP.indexAddrS; rfl; rfl; rfl; omega; apply DW.loadX; rfl; rfl; rfl; exact WantT.none; rfl; assumption; simp; assumption; apply DW.nil; simp only [fsOf_cons, fsOf_nil, fsOf_app, fsOf_tsOf, fsOf_new]; apply LW.v0; rfl; rfl; apply ValP.neT; rfl; rfl; omega; apply LW.nil; refine thenN ?_; apply CW.condT; rfl; (with_reducible rfl); refine CW.seq ?_; refine CW.region ?_; apply LW.v0; rfl; rfl; apply ValP.assign; rfl; apply LW.nil; refine thenN ?_; refine CW.ret ?_; refine blkR ?_; refine thenR ?_; refine thenR ?_; refine blkR ?_; refine thenR ?_)
        (apply finR; exact .inl rfl; rfl; rfl; rfl; apply ResL.cons; exact Res.tmp rfl; exact ResL.nil)
        rfl
    · obtain rfl : k = a.length := by omega
      have he : a = b := by rwa [List.take_length, hll, List.take_length] at ht
      rw [decide_eq_true he]
      (refine CW.seq ?_; refine CW.region ?_; apply LW.v0; rfl; rfl; apply ValP.lssF; rfl; rfl; omega; apply LW.nil; refine thenN ?_; refine CW.seq ?_; apply CW.condF; rfl; (with_reducible rfl); refine CW.exit ?_; refine thenE ?_; refine thenE ?_; refine blkE rfl ?_; refine thenN ?_; refine CW.seq ?_; refine CW.region ?_; apply LW.v0; rfl; rfl; apply ValP.assign; rfl; apply LW.nil; refine thenN ?_; refine CW.ret ?_)
      (apply finR; exact .inl rfl; rfl; rfl; rfl; apply ResL.cons; exact Res.tmp rfl; exact ResL.nil)
      rfl
  · rw [decide_eq_false (fun h => hll (by rw [h]))]
    refine enter (args := [_, _]) _ [] [] Tryd.func37 rfl Tryd.ntmps37 rfl (by simp) .nil ?_
    (refine CW.seq ?_; refine CW.region ?_; apply LW.v0; rfl; rfl; apply ValP.assign; rfl; apply LW.nil; refine thenN ?_; refine CW.seq ?_; refine CW.seq ?_; refine CW.region ?_; apply LW.v0; rfl; rfl; apply ValP.move; rfl; apply LW.v0; rfl; rfl; apply ValP.lenR; rfl; infer_instance; rfl; apply LW.v0; rfl; rfl; apply ValP.move; rfl; apply LW.v0; rfl; rfl; apply ValP.lenR; rfl; infer_instance; rfl; apply LW.v0; rfl; rfl; apply ValP.neT; rfl; rfl; omega; apply LW.nil; refine thenN ?_; apply CW.condT; rfl; (with_reducible rfl); refine CW.seq ?_; refine CW.region ?_; apply LW.v0; rfl; rfl; apply ValP.assign; rfl; apply LW.nil; refine thenN ?_; refine CW.ret ?_; refine thenR ?_)
    (apply finR; exact .inl rfl; rfl; rfl; rfl; apply ResL.cons; exact Res.tmp rfl; exact ResL.nil)
    rfl
end Go.Proofs.YtobkhnmglbfheaaDoor

/-
  Contracts of the pack's laws: forms, copies; which parts may be.
  Conditions: none.
-/
namespace Go.Proofs.YtobkhnmglbfheaaDoor
open Go Go.RowKit SL
set_option maxRecDepth 8000
set_option maxHeartbeats 4000000
set_option linter.unusedSimpArgs false
set_option linter.unusedVariables false
attribute [local irreducible] SL.CW SL.LW SL.DW Calls SL.Ret SL.RetG SL.beginQ SL.roundQ SL.rangeQ SL.inQ SL.RW SL.AnyW SL.thenQ SL.thenC SL.thenW SL.blkQ SL.finQ SL.ValP SL.NewP SL.SetP SL.CallP SL.Rd SL.Wr SL.Known
/-! ### form -/
structure FX where
  k : Nat
  ov : Value
  seg : Fs
/-- Which parts are Long. -/
def fmP (l : List PartV) : List Bool := l.map (·.lg)
/-! ### few -/
end Go.Proofs.YtobkhnmglbfheaaDoor

/-
  Contracts of the pack's references: words compared; which parts may be; tails; the bytes of parts.
  Conditions: none.
-/
namespace Go.Proofs.YtobkhnmglbfheaaDoor
open Go Go.RowKit SL
set_option maxRecDepth 8000
set_option maxHeartbeats 4000000
set_option linter.unusedSimpArgs false
set_option linter.unusedVariables false
attribute [local irreducible] SL.CW SL.LW SL.DW Calls SL.Ret SL.RetG SL.beginQ SL.roundQ SL.rangeQ SL.inQ SL.RW SL.AnyW SL.thenQ SL.thenC SL.thenW SL.blkQ SL.finQ SL.ValP SL.NewP SL.SetP SL.CallP SL.Rd SL.Wr SL.Known
/-! ### Which parts may be -/
theorem ok_iff (l : List PartV) : okP l = true ↔ ∀ j (h : j < l.length), rightP l[j] = true := by
  rw [okP, List.all_eq_true]
  constructor
  · intro h j hj; exact h _ (List.getElem_mem hj)
  · intro h x hx
    obtain ⟨j, hj, rfl⟩ := List.getElem_of_mem hx
    exact h j hj
end Go.Proofs.YtobkhnmglbfheaaDoor

/-
  Contracts of the pack's references: tails, the bytes of parts.
  Conditions: none.
-/
namespace Go.Proofs.YtobkhnmglbfheaaDoor
open Go Go.RowKit SL
set_option maxRecDepth 8000
set_option maxHeartbeats 4000000
set_option linter.unusedSimpArgs false
set_option linter.unusedVariables false
attribute [local irreducible] SL.CW SL.LW SL.DW Calls SL.Ret SL.RetG SL.beginQ SL.roundQ SL.rangeQ SL.inQ SL.RW SL.AnyW SL.thenQ SL.thenC SL.thenW SL.blkQ SL.finQ SL.ValP SL.NewP SL.SetP SL.CallP SL.Rd SL.Wr SL.Known
theorem ucs_snoc0 (l : List UInt8) (k : Nat) : ucs (l ++ List.replicate k 0) ++ [Value.int .u8 0] = ucs (l ++ List.replicate (k + 1) 0) := by
  rw [List.replicate_succ', ← List.append_assoc, ucs_app (l ++ _)]; rfl
theorem rTail_calls (l : List UInt8) (v : Value) (w : World) (hv : RowAt w 1 v l.length (ucs l)) (hl : l.length ≤ 100000) : Calls Tryd.prog 43 #[v] w (RetG w [] fun v' gs => IsRow 5 1 v' (tlB l).length (ucs (tlB l)) gs) := by
  obtain ⟨p, c, rfl, hc, hm⟩ := hv.form
  simp only [maxLen] at hm
  have hw1 := whl_le l.length
  have hw2 := whl_lt l.length
  have hw3 := whl_mod l.length
  refine enter (args := [_]) _ [] [] Tryd.func43 rfl Tryd.ntmps43 rfl (by simp) .nil ?_
  (refine CW.seq ?_; refine CW.region ?_; apply LW.v0; rfl; rfl; apply ValP.assign; rfl; apply LW.nil; refine thenN ?_; refine CW.seq ?_; refine CW.region ?_; apply LW.v0; rfl; rfl; apply ValP.move; rfl; apply LW.v0; rfl; rfl; apply ValP.lenR; rfl; infer_instance; rfl; apply LW.v0; rfl; rfl; apply ValP.convN; rfl; omega; omega; apply LW.v0; rfl; rfl; apply ValP.buildW1; rfl; omega)
  refine LW.callR rfl rfl inferInstance (by (apply ArgsOk.cons; rfl; exact ArgsOk.nil)) (fun w hst => rBytes_calls l.length (by simp only [M256]; omega) w) ?_
  intro v1 seg1 hrow1
  (apply LW.v0; rfl; rfl; apply ValP.move; rfl)
  refine LW.appendAny (n := 32) (m := l.length) (news := ucs l) rfl rfl inferInstance inferInstance inferInstance rfl rfl rfl (by (exact AtSeg.head)) hrow1 (fun w hs => hv.st hs) (ucs_cells _) (by simp only [maxLen]; omega) (by omega) ?_
  intro v2 seg2 hrow2
  refine ⟨_, (by (exact AtSeg.head)), ?_⟩
  rw [← ucs_app] at hrow2
  (apply LW.v0; rfl; rfl; apply ValP.assign; rfl; apply LW.nil; refine thenN ?_; refine CW.seq ?_; refine CW.block ?_)
  refine CW.loop (fun x : FX => ([(3, x.ov)], x.seg ++ []))
    (fun x => x.k ≤ whl l.length - l.length ∧ IsRow 5 1 x.ov (32 + l.length + x.k) (ucs ((beb 32 l.length ++ l) ++ List.replicate x.k 0)) x.seg) (fun x => whl l.length - l.length - x.k) ⟨0, v2, seg2⟩
    ⟨Nat.zero_le _, by rw [List.replicate_zero, List.append_nil]; exact hrow2⟩ ⟨rfl, trivial⟩ (List.Sublist.refl _) ?_
  rintro ⟨k, ov, seg⟩ ⟨hk, hO⟩
  dsimp only at hk hO ⊢
  obtain ⟨po, co, rfl⟩ := hO.form
  rcases Nat.lt_or_ge k (whl l.length - l.length) with hlt | hge
  · have hpos : 0 < (32 + l.length + k) % 32 := by omega
    (refine CW.seq ?_; refine CW.seq ?_; refine CW.region ?_; apply LW.v0; rfl; rfl; apply ValP.move; rfl; apply LW.v0; rfl; rfl; apply ValP.lenR; rfl; infer_instance; rfl; apply LW.v0; rfl; rfl; apply ValP.remZL; rfl; rfl; decide; omega; apply LW.v0; rfl; rfl; apply ValP.gtrT; rfl; rfl; omega; apply LW.nil; refine thenN ?_; apply CW.condT; rfl; (with_reducible rfl); refine CW.skip ?_; refine thenN ?_; refine CW.block ?_; refine CW.region ?_; apply LW.v0; rfl; rfl; apply ValP.move; rfl; apply LW.lay1; rfl; infer_instance; infer_instance; rfl; rfl; rfl; rfl; rfl; rfl; intro _)
    refine LW.append (n := 32 + l.length + k) (m := 1) (news := [.int .u8 0]) rfl rfl inferInstance inferInstance inferInstance rfl rfl rfl (by (apply AtSeg.cons; exact AtSeg.head)) hO (by (apply Known.at; apply FsAt.head)) rfl rfl rfl (by omega) (by simp only [maxLen]; omega) (by omega) ?_
    intro ov' seg' hO'
    refine ⟨_, (by (apply AtSeg.cons; exact AtSeg.head)), ?_⟩
    rw [ucs_snoc0] at hO'
    (apply LW.v0; rfl; rfl; apply ValP.assign; rfl; apply LW.nil; refine blkN ?_)
    apply thenX
    refine ⟨rfl, ⟨k + 1, ov', seg'⟩, ⟨hlt, hO'⟩, by show _ - (k + 1) < _ - k; omega, ⟨rfl, trivial⟩, by dsimp only; (apply List.Sublist.cons; exact List.Sublist.refl _)⟩
  · obtain rfl : k = whl l.length - l.length := by omega
    have hz : (32 + l.length + (whl l.length - l.length)) % 32 = 0 := by omega
    (refine CW.seq ?_; refine CW.seq ?_; refine CW.region ?_; apply LW.v0; rfl; rfl; apply ValP.move; rfl; apply LW.v0; rfl; rfl; apply ValP.lenR; rfl; infer_instance; rfl; apply LW.v0; rfl; rfl; apply ValP.remZL; rfl; rfl; decide; omega; apply LW.v0; rfl; rfl; apply ValP.gtrF; rfl; rfl; omega; apply LW.nil; refine thenN ?_; apply CW.condF; rfl; (with_reducible rfl); refine CW.exit ?_; refine thenE ?_; refine thenE ?_; refine blkE rfl ?_; refine thenN ?_; refine CW.seq ?_; refine CW.region ?_; apply LW.v0; rfl; rfl; apply ValP.move; rfl; apply LW.v0; rfl; rfl; apply ValP.assign; rfl; apply LW.nil; refine thenN ?_; refine CW.ret ?_)
    refine fin (vs := [.slice po _ co]) seg (.inl rfl) rfl rfl (by (apply ResL.cons; exact Res.tmp rfl; exact ResL.nil)) (List.sublist_append_left _ _) ?_
    rw [tlB_len, tlB, ← List.append_assoc, show 32 + whl l.length = 32 + l.length + (whl l.length - l.length) by omega]
    exact hO
structure HX where
  k : Nat
  hv : Value
  segH : Fs
  tv : Value
  segT : Fs
theorem rBytesL_calls (l : List PartV) (v : Value) (w : World) (hv : PartsAt w v l) (hsm : small200 l) : Calls Tryd.prog 27 #[v] w (RetG w [] fun v' gs => IsRow 5 1 v' (layF l).length (ucs (layF l)) gs) := by
  obtain ⟨p, c, rfl, hc, hm⟩ := hv.row.form
  simp only [maxLen] at hm
  have hl16 := hsm.1
  refine enter (args := [_]) _ [] [] Tryd.func27 rfl Tryd.ntmps27 rfl (by simp) .nil ?_
  (refine CW.seq ?_; refine CW.region ?_; apply LW.v0; rfl; rfl; apply ValP.assign; rfl; apply LW.nil; refine thenN ?_; refine CW.seq ?_; refine CW.region ?_; apply LW.v0; rfl; rfl; apply ValP.assign; rfl; apply LW.v0; rfl; rfl; apply ValP.assign; rfl; apply LW.nil; refine thenN ?_; refine CW.seq ?_; refine CW.seq ?_; refine CW.region ?_; apply LW.v0; rfl; rfl; apply ValP.move; rfl; apply LW.v0; rfl; rfl; apply ValP.lenR; rfl; infer_instance; rfl; apply LW.v0; rfl; rfl; apply ValP.move; rfl; apply LW.nil; refine thenN ?_; refine CW.block ?_)
  refine CW.loop (fun x : HX => ([(9, .int .i64 (x.k : Int)), (8, .int .i64 (l.length : Int)), (7, .slice p l.length c), (0, .slice p l.length c), (3, x.hv), (4, x.tv)], x.segH ++ (x.segT ++ [])))
    (fun x => x.k ≤ l.length ∧ IsRow 5 1 x.hv (32 * x.k) (ucs (hdK l x.k)) x.segH ∧ IsRow 5 1 x.tv (behK l x.k).length (ucs (behK l x.k)) x.segT) (fun x => l.length - x.k) ⟨0, .slice none 0 0, [], .slice none 0 0, []⟩
    ⟨Nat.zero_le _, by rw [hdK_zero]; exact .nil, by rw [behK_zero]; exact .nil⟩ ⟨rfl, rfl, rfl, rfl, rfl, rfl, trivial⟩ (List.Sublist.refl _) ?_
  rintro ⟨k, hv1, segH, tv, segT⟩ ⟨hk, hH, hT⟩
  dsimp only at hk hH hT ⊢
  obtain ⟨ph, ch, rfl⟩ := hH.form
  obtain ⟨pT, cT, rfl⟩ := hT.form
  have hbl := beh_len hsm k
  rcases Nat.lt_or_ge k l.length with hlt | hge
  · obtain ⟨b, off, c', cs, E, fr, heq, hb, hrd0⟩ := part_rd hv k hlt
    cases heq
    have hrd : Rd Tryd.prog 61 (.cells cs E fr) (off + k * 6) (.agg (psa l[k])) := hrd0
    clear hrd0
    have ho := hv.one _ (List.getElem_mem hlt)
    have hdv := hv.data _ (List.getElem_mem hlt)
    have hwd := hv.small _ (List.getElem_mem hlt)
    have hpt := pt_eq hlt
    have hd200 := hsm.2 k
    have hal : atF l k ≤ 100000 := by unfold atF; omega
    have hat : 32 * l.length + (behK l k).length = atF l k := rfl
    rw [hpt] at hd200
    obtain ⟨P, hP⟩ : ∃ P, l[k] = P := ⟨_, rfl⟩
    rw [hP] at hrd ho hdv hwd hd200 hpt
    obtain ⟨q, cq, hq, hcq, _⟩ := hdv.form
    have hr2 : ∀ {E fr} , Rd Tryd.prog 28 (.cells (psa P) E fr) 5 (.slice q P.db.length cq) := fun {E fr} => by rw [← hq]; exact ps_rd2
    rw [hq] at hdv
    cases hlg : P.lg with
    | false =>
      have hr0 : ∀ {E fr} , Rd Tryd.prog 4 (.cells (psa P) E fr) 0 (.bool false) := fun {E fr} => by rw [← hlg]; exact ps_rd0
      have hlg' : (pt l k).lg = false := by rw [hpt]; exact hlg
      have hh1 := hdK_short hlg'
      have hb1 := behK_short hlg'
      rw [hpt] at hh1
      (refine CW.seq ?_; refine CW.region ?_; apply LW.v0; rfl; rfl; apply ValP.lssT; rfl; rfl; omega; apply LW.nil; refine thenN ?_; refine CW.seq ?_; apply CW.condT; rfl; (with_reducible rfl); refine CW.skip ?_; refine thenN ?_; refine CW.seq ?_; refine CW.block ?_; refine CW.seq ?_; refine CW.region ?_; apply LW.v0; rfl; rfl; apply ValP.indexAddrS; rfl; rfl; rfl; omega; apply LW.load; rfl; rfl; exact Known.ext (by assumption) (by simp); assumption; apply LW.allocA; rfl; intro _; apply LW.store; rfl; rfl; apply SetAt.head; apply ps_wrW; rfl; assumption; apply LW.nil; refine thenN ?_; refine CW.seq ?_; refine CW.seq ?_; refine CW.region ?_; apply LW.v0; rfl; rfl; apply ValP.fieldAddr; rfl; rfl; apply LW.load; rfl; rfl; apply Known.at; apply FsAt.head; exact hr0; apply LW.v0; rfl; rfl; apply ValP.notF; rfl; (with_reducible rfl); apply LW.nil; refine thenN ?_; apply CW.condT; rfl; (with_reducible rfl); refine CW.seq ?_; refine CW.region ?_; apply LW.v0; rfl; rfl; apply ValP.move; rfl; apply LW.v0; rfl; rfl; apply ValP.fieldAddr; rfl; rfl; apply LW.load; rfl; rfl; apply Known.at; apply FsAt.head; exact ps_rd1)
      refine LW.callR rfl rfl inferInstance (by (apply ArgsOk.cons; rfl; exact ArgsOk.nil)) (fun w hst => rBytes_calls P.wd hwd w) ?_
      intro v1 seg1 hrow1
      skip
      refine LW.appendAny (n := 32 * k) (m := 32) (news := ucs (beb 32 P.wd)) rfl rfl inferInstance inferInstance inferInstance rfl rfl rfl (by (apply AtSeg.app; apply AtSeg.cons; exact AtSeg.head)) hH (fun w hst => hrow1.atSeg (by (exact AtSeg.head)) hst) (ucs_cells _) (by simp only [maxLen]; omega) (by omega) ?_
      intro v2 seg2 hrow2
      refine ⟨_, (by (apply AtSeg.app; apply AtSeg.cons; exact AtSeg.head)), ?_⟩
      rw [← ucs_app, ← hh1] at hrow2
      (apply LW.v0; rfl; rfl; apply ValP.assign; rfl; apply LW.nil; refine thenN ?_; refine CW.exit ?_; refine thenE ?_; refine blkE rfl ?_; refine thenN ?_; refine CW.region ?_; apply LW.v0; rfl; rfl; apply ValP.addZL; rfl; rfl; decide; omega; apply LW.v0; rfl; rfl; apply ValP.move; rfl; apply LW.nil)
      apply thenX
      refine ⟨rfl, ⟨k + 1, v2, seg2, .slice pT (behK l k).length cT, segT⟩, ⟨hlt, hrow2, by dsimp only; rw [hb1]; exact hT⟩, by show l.length - (k + 1) < l.length - k; omega, ⟨rfl, rfl, rfl, rfl, rfl, rfl, trivial⟩, by dsimp only; (apply List.sublist_append_of_sublist_right; apply List.Sublist.cons; exact List.Sublist.refl _)⟩
    | true =>
      have hr0 : ∀ {E fr} , Rd Tryd.prog 4 (.cells (psa P) E fr) 0 (.bool true) := fun {E fr} => by rw [← hlg]; exact ps_rd0
      have hlg' : (pt l k).lg = true := by rw [hpt]; exact hlg
      have hh1 := hdK_long hlg'
      have hb1 := behK_long hlg'
      rw [hpt] at hb1
      (refine CW.seq ?_; refine CW.region ?_; apply LW.v0; rfl; rfl; apply ValP.lssT; rfl; rfl; omega; apply LW.nil; refine thenN ?_; refine CW.seq ?_; apply CW.condT; rfl; (with_reducible rfl); refine CW.skip ?_; refine thenN ?_; refine CW.seq ?_; refine CW.block ?_; refine CW.seq ?_; refine CW.region ?_; apply LW.v0; rfl; rfl; apply ValP.indexAddrS; rfl; rfl; rfl; omega; apply LW.load; rfl; rfl; exact Known.ext (by assumption) (by simp); assumption; apply LW.allocA; rfl; intro _; apply LW.store; rfl; rfl; apply SetAt.head; apply ps_wrW; rfl; assumption; apply LW.nil; refine thenN ?_; refine CW.seq ?_; refine CW.seq ?_; refine CW.region ?_; apply LW.v0; rfl; rfl; apply ValP.fieldAddr; rfl; rfl; apply LW.load; rfl; rfl; apply Known.at; apply FsAt.head; exact hr0; apply LW.v0; rfl; rfl; apply ValP.notT; rfl; (with_reducible rfl); apply LW.nil; refine thenN ?_; apply CW.condF; rfl; (with_reducible rfl); refine CW.skip ?_; refine thenN ?_; refine CW.seq ?_; refine CW.region ?_; apply LW.v0; rfl; rfl; apply ValP.move; rfl; apply LW.v0; rfl; rfl; apply ValP.move; rfl; apply LW.v0; rfl; rfl; apply ValP.lenR; rfl; infer_instance; rfl; apply LW.v0; rfl; rfl; apply ValP.mulZK; rfl; rfl; decide; omega; apply LW.v0; rfl; rfl; apply ValP.move; rfl; apply LW.v0; rfl; rfl; apply ValP.lenR; rfl; infer_instance; rfl; apply LW.v0; rfl; rfl; apply ValP.addZ; rfl; rfl; omega; apply LW.v0; rfl; rfl; apply ValP.convN; rfl; omega; omega; apply LW.v0; rfl; rfl; apply ValP.buildW1; rfl; omega)
      rw [hat]
      refine LW.callR rfl rfl inferInstance (by (apply ArgsOk.cons; rfl; exact ArgsOk.nil)) (fun w hst => rBytes_calls (atF l k) (by simp only [M256]; omega) w) ?_
      intro v1 seg1 hrow1
      skip
      refine LW.appendAny (n := 32 * k) (m := 32) (news := ucs (beb 32 (atF l k))) rfl rfl inferInstance inferInstance inferInstance rfl rfl rfl (by (apply AtSeg.app; apply AtSeg.cons; exact AtSeg.head)) hH (fun w hst => hrow1.atSeg (by (exact AtSeg.head)) hst) (ucs_cells _) (by simp only [maxLen]; omega) (by omega) ?_
      intro v2 seg2 hrow2
      refine ⟨_, (by (apply AtSeg.app; apply AtSeg.cons; exact AtSeg.head)), ?_⟩
      rw [← ucs_app, ← hh1] at hrow2
      (apply LW.v0; rfl; rfl; apply ValP.assign; rfl; apply LW.nil; refine thenN ?_; refine CW.region ?_; apply LW.v0; rfl; rfl; apply ValP.move; rfl; apply LW.v0; rfl; rfl; apply ValP.fieldAddr; rfl; rfl; apply LW.load; rfl; rfl; apply Known.at; apply FsAt.app; apply FsAt.head; exact hr2)
      refine LW.callR rfl rfl inferInstance (by (apply ArgsOk.cons; rfl; exact ArgsOk.nil)) (fun w hst => rTail_calls P.db _ w (hdv.st hst) (by omega)) ?_
      intro v3 seg3 hrow3
      have htl := tlB_len P.db
      have hwt := whl_lt P.db.length
      skip
      refine LW.appendAny (n := (behK l k).length) (m := (tlB P.db).length) (news := ucs (tlB P.db)) rfl rfl inferInstance inferInstance inferInstance rfl rfl rfl (by (apply AtSeg.app; apply AtSeg.app; apply AtSeg.cons; apply AtSeg.app; exact AtSeg.head)) hT (fun w hst => hrow3.atSeg (by (exact AtSeg.head)) hst) (ucs_cells _) (by simp only [maxLen]; omega) (by omega) ?_
      intro v4 seg4 hrow4
      refine ⟨_, (by (apply AtSeg.app; apply AtSeg.app; apply AtSeg.cons; apply AtSeg.app; exact AtSeg.head)), ?_⟩
      rw [← ucs_app, ← List.length_append, ← hb1] at hrow4
      (apply LW.v0; rfl; rfl; apply ValP.assign; rfl; apply LW.nil; refine blkN ?_; refine thenN ?_; refine CW.region ?_; apply LW.v0; rfl; rfl; apply ValP.addZL; rfl; rfl; decide; omega; apply LW.v0; rfl; rfl; apply ValP.move; rfl; apply LW.nil)
      apply thenX
      refine ⟨rfl, ⟨k + 1, v2, seg2, v4, seg4⟩, ⟨hlt, hrow2, hrow4⟩, by show l.length - (k + 1) < l.length - k; omega, ⟨rfl, rfl, rfl, rfl, rfl, rfl, trivial⟩, by dsimp only; (apply List.sublist_append_of_sublist_right; apply List.sublist_append_of_sublist_right; apply List.Sublist.cons; exact List.Sublist.refl _)⟩
  · obtain rfl : k = l.length := by omega
    (refine CW.seq ?_; refine CW.region ?_; apply LW.v0; rfl; rfl; apply ValP.lssF; rfl; rfl; omega; apply LW.nil; refine thenN ?_; refine CW.seq ?_; apply CW.condF; rfl; (with_reducible rfl); refine CW.exit ?_; refine thenE ?_; refine thenE ?_; refine blkE rfl ?_; refine thenN ?_; refine CW.seq ?_; refine CW.region ?_; apply LW.v0; rfl; rfl; apply ValP.move; rfl; apply LW.v0; rfl; rfl; apply ValP.move; rfl)
    refine LW.appendAny (n := 32 * l.length) (m := (behK l l.length).length) (news := ucs (behK l l.length)) rfl rfl inferInstance inferInstance inferInstance rfl rfl rfl (by (exact AtSeg.head)) hH (fun w hst => hT.atSeg (by (apply AtSeg.app; exact AtSeg.head)) hst) (ucs_cells _) (by simp only [maxLen]; omega) (by omega) ?_
    intro v2 seg2 hrow2
    refine ⟨_, (by (exact AtSeg.head)), ?_⟩
    (apply LW.v0; rfl; rfl; apply ValP.assign; rfl; apply LW.nil; refine thenN ?_; refine CW.ret ?_)
    refine fin (vs := [v2]) seg2 (.inl rfl) rfl rfl (by (apply ResL.cons; exact Res.tmp rfl; exact ResL.nil)) (List.sublist_append_left _ _) ?_
    rw [layF, ucs_app, List.length_append, hdK_len]
    exact hrow2
end Go.Proofs.YtobkhnmglbfheaaDoor

/-
  The pack in plain words: parts and their bytes lead back to one another.
  Conditions: none.
-/
namespace Go.Proofs.YtobkhnmglbfheaaDoor
open Go Go.RowKit SL
/-! ### Bytes of a word -/
/-! ### Only what the parts say matters -/
abbrev PD := Bool × Nat × List UInt8
def toP (d : PD) : PartV := ⟨d.1, d.2.1, .slice none 0 0, d.2.2⟩
theorem dat_toP (d : PD) : dat (toP d) = d := rfl
theorem pt_dat {l m : List PartV} (h : l.map dat = m.map dat) (k : Nat) : dat (pt l k) = dat (pt m k) := by
  have hk : (l.map dat)[k]? = (m.map dat)[k]? := by rw [h]
  rw [List.getElem?_map, List.getElem?_map] at hk
  unfold pt
  rw [List.getD_eq_getElem?_getD, List.getD_eq_getElem?_getD]
  cases h1 : l[k]? with
  | none => cases h2 : m[k]? with
    | none => rfl
    | some q => rw [h1, h2] at hk; cases hk
  | some p => cases h2 : m[k]? with
    | none => rw [h1, h2] at hk; cases hk
    | some q => rw [h1, h2] at hk; exact Option.some.inj hk
theorem dat_len {l m : List PartV} (h : l.map dat = m.map dat) : l.length = m.length := by simpa using congrArg List.length h
theorem beh_dat {l m : List PartV} (h : l.map dat = m.map dat) (k : Nat) : behK l k = behK m k := by
  induction k with
  | zero => rw [behK_zero, behK_zero]
  | succ k ih =>
    have hp := pt_dat h k
    have h1 : (pt l k).lg = (pt m k).lg := congrArg (·.1) hp
    have h3 : (pt l k).db = (pt m k).db := congrArg (·.2.2) hp
    cases hl : (pt l k).lg with
    | true => rw [behK_long hl, behK_long (h1 ▸ hl), ih, h3]
    | false => rw [behK_short hl, behK_short (h1 ▸ hl), ih]
theorem at_dat {l m : List PartV} (h : l.map dat = m.map dat) (k : Nat) : atF l k = atF m k := by rw [atF, atF, beh_dat h, dat_len h]
theorem hd_dat {l m : List PartV} (h : l.map dat = m.map dat) (k : Nat) : hdK l k = hdK m k := by
  induction k with
  | zero => rw [hdK_zero, hdK_zero]
  | succ k ih =>
    have hp := pt_dat h k
    have h1 : (pt l k).lg = (pt m k).lg := congrArg (·.1) hp
    have h2 : (pt l k).wd = (pt m k).wd := congrArg (·.2.1) hp
    cases hl : (pt l k).lg with
    | true => rw [hdK_long hl, hdK_long (h1 ▸ hl), ih, at_dat h]
    | false => rw [hdK_short hl, hdK_short (h1 ▸ hl), ih, h2]
theorem lay_dat {l m : List PartV} (h : l.map dat = m.map dat) : layF l = layF m := by rw [layF, layF, hd_dat h, beh_dat h, dat_len h]
theorem right_dat {p q : PartV} (h : dat p = dat q) : rightP p = rightP q := by
  have h1 : p.lg = q.lg := congrArg (·.1) h
  have h2 : p.wd = q.wd := congrArg (·.2.1) h
  have h3 : p.db = q.db := congrArg (·.2.2) h
  rw [rightP, rightP, h1, h2, h3]
theorem ok_dat : ∀ {l m : List PartV}, l.map dat = m.map dat → okP l = okP m
  | [], [], _ => rfl
  | [], _ :: _, h => by cases h
  | _ :: _, [], h => by cases h
  | a :: l, b :: m, h => by
    rw [List.map_cons, List.map_cons] at h
    injection h with h1 h2
    have ih := ok_dat h2
    unfold okP at ih ⊢
    rw [List.all_cons, List.all_cons, ih, right_dat h1]
theorem chk_dat {l m : List PartV} (h : l.map dat = m.map dat) : chkP l = chkP m := by rw [chkP, chkP, ok_dat h, dat_len h]
/-! ### What is laid is read -/
theorem tk_app {x r : List UInt8} {n : Nat} (h : x.length = n) : tkBad false (x ++ r) n = false ∧ tkB false (x ++ r) n = x ∧ tkL false (x ++ r) n = r := by
  have h1 : tkBad false (x ++ r) n = false := by simp [tkBad]; omega
  exact ⟨h1, by rw [tkB_ok h1, ← h, List.take_left], by rw [tkL_ok h1, ← h, List.drop_left]⟩
theorem hd_pre (l : List PartV) (k d : Nat) : ∃ r, hdK l (k + d) = hdK l k ++ r := by
  induction d with
  | zero => exact ⟨[], (List.append_nil _).symm⟩
  | succ d ih =>
    obtain ⟨r, hr⟩ := ih
    rw [← Nat.add_assoc]
    cases h : (pt l (k + d)).lg with
    | true => exact ⟨_, by rw [hdK_long h, hr, List.append_assoc]⟩
    | false => exact ⟨_, by rw [hdK_short h, hr, List.append_assoc]⟩
theorem beh_pre (l : List PartV) (k d : Nat) : ∃ r, behK l (k + d) = behK l k ++ r := by
  induction d with
  | zero => exact ⟨[], (List.append_nil _).symm⟩
  | succ d ih =>
    obtain ⟨r, hr⟩ := ih
    rw [← Nat.add_assoc]
    cases h : (pt l (k + d)).lg with
    | true => exact ⟨_, by rw [behK_long h, hr, List.append_assoc]⟩
    | false => exact ⟨r, by rw [behK_short h, hr]⟩
theorem nz_zeros (n : Nat) : nz (List.replicate n 0) = false := by
  rw [nz, List.any_eq_false]
  intro u hu
  obtain rfl := List.eq_of_mem_replicate hu
  simp
/-- What is left behind a Long part that is laid. -/
theorem lgS_laid {a : Nat} {r db r' : List UInt8} (ha : a < M256) (hd : db.length ≤ 200) :
    lgS ⟨beb 32 a ++ r, false, tlB db ++ r', false, a⟩ = ⟨r, false, r', false, a + (32 + whl db.length)⟩ ∧ ∀ v, lgR ⟨beb 32 a ++ r, false, tlB db ++ r', false, a⟩ v = byP v db := by
  have e : tlB db ++ r' = beb 32 db.length ++ (db ++ (List.replicate (whl db.length - db.length) 0 ++ r')) := by simp [tlB, List.append_assoc]
  rw [e]
  obtain ⟨h1, h2, h3⟩ := tk_app (x := beb 32 a) (r := r) (beb_len 32 a)
  obtain ⟨g1, g2, g3⟩ := tk_app (x := beb 32 db.length) (r := db ++ (List.replicate (whl db.length - db.length) 0 ++ r')) (beb_len 32 _)
  obtain ⟨k1, k2, k3⟩ := tk_app (x := db) (r := List.replicate (whl db.length - db.length) 0 ++ r') rfl
  obtain ⟨m1, m2, m3⟩ := tk_app (x := List.replicate (whl db.length - db.length) (0 : UInt8)) (r := r') (n := whl db.length - db.length) (by simp)
  obtain ⟨s, hs⟩ : ∃ s : RS, s = ⟨beb 32 a ++ r, false, beb 32 db.length ++ (db ++ (List.replicate (whl db.length - db.length) 0 ++ r')), false, a⟩ := ⟨_, rfl⟩
  rw [← hs]
  have q1 : hd32 s = a := by rw [hs]; show bev (tkB false _ 32) = a; rw [h2, bev_back a ha]
  have q2 : lgN s = db.length := by rw [hs]; show bev (tkB false _ 32) = _; rw [g2, bev_back _ (by simp only [M256]; omega)]
  have q3 : lgB1 s = false := by rw [hs]; exact g1
  have q4 : lgT1 s = db ++ (List.replicate (whl db.length - db.length) 0 ++ r') := by rw [hs]; exact g3
  have q5 : lgD s = db := by rw [lgD, q2, q3, q4]; exact k2
  have q6 : lgB2 s = false := by rw [lgB2, q2, q3, q4]; exact k1
  have q7 : lgT2 s = List.replicate (whl db.length - db.length) 0 ++ r' := by rw [lgT2, q2, q3, q4]; exact k3
  have q8 : lgP s = List.replicate (whl db.length - db.length) 0 := by rw [lgP, q2, q6, q7]; exact m2
  have q9 : lgB3 s = false := by rw [lgB3, q2, q6, q7]; exact m1
  have q10 : lgT3 s = r' := by rw [lgT3, q2, q6, q7]; exact m3
  have q11 : lgOk s = true := by rw [lgOk, q1, q2]; exact decide_eq_true ⟨by rw [hs], hd⟩
  refine ⟨?_, fun v => ?_⟩
  · rw [lgS, if_pos q11, q8, q9, q10, q2, nz_zeros, Bool.or_false, hs]
    show RS.mk (tkL false _ 32) (tkBad false _ 32) _ _ _ = _
    rw [h1, h3]
  · rw [lgR, if_pos q11, q5]
theorem fm_get (l : List PartV) (k : Nat) : (fmP l).getD k false = (pt l k).lg := by
  rw [fmP, pt, List.getD_eq_getElem?_getD, List.getD_eq_getElem?_getD, List.getElem?_map]
  cases l[k]? <;> rfl
theorem rs_laid {l : List PartV} (h : chkP l = 0) (hs : ∀ p ∈ l, p.wd < M256) (k : Nat) (hk : k ≤ l.length) :
    ∃ hr tr, hdK l l.length = hdK l k ++ hr ∧ behK l l.length = behK l k ++ tr ∧ rsK (layF l) (fmP l) k = ⟨hr, false, tr, false, atF l k⟩ ∧ rdK (layF l) (fmP l) k = (l.take k).map dat := by
  have hsm := right_small h
  have hfl : (fmP l).length = l.length := by simp [fmP]
  have hhd : (hdK l l.length).length = 32 * l.length := hdK_len l l.length
  induction k with
  | zero =>
    refine ⟨hdK l l.length, behK l l.length, by rw [hdK_zero]; rfl, by rw [behK_zero]; rfl, ?_, rfl⟩
    rw [rsK_zero, hfl, layF, ← hhd, List.take_left, List.drop_left, atF_zero, hhd]
  | succ k ih =>
    obtain ⟨hr, tr, h1, h2, h3, h4⟩ := ih (by omega)
    have hlt : k < l.length := by omega
    have hpt := pt_eq hlt
    have hwd : (pt l k).wd < M256 := by rw [hpt]; exact hs _ (List.getElem_mem hlt)
    have hd := hsm.2 k
    have hbl := beh_len hsm k
    have hat : atF l k < M256 := by unfold atF; simp only [M256]; have := hsm.1; omega
    obtain ⟨hr', h1'⟩ := hd_pre l (k + 1) (l.length - (k + 1))
    obtain ⟨tr', h2'⟩ := beh_pre l (k + 1) (l.length - (k + 1))
    rw [show k + 1 + (l.length - (k + 1)) = l.length by omega] at h1' h2'
    have hfm := fm_get l k
    have htk : (l.take (k + 1)).map dat = (l.take k).map dat ++ [dat (pt l k)] := by rw [List.take_succ_eq_append_getElem hlt, List.map_append, hpt]; rfl
    refine ⟨hr', tr', h1', h2', ?_⟩
    cases hlg : (pt l k).lg with
    | true =>
      rw [hlg] at hfm
      have e1 : hr = beb 32 (atF l k) ++ hr' := by
        rw [h1, hdK_long hlg, List.append_assoc] at h1'
        exact List.append_cancel_left h1'
      have e2 : tr = tlB (pt l k).db ++ tr' := by
        rw [h2, behK_long hlg, List.append_assoc] at h2'
        exact List.append_cancel_left h2'
      obtain ⟨g1, g2⟩ := lgS_laid (a := atF l k) (r := hr') (db := (pt l k).db) (r' := tr') hat hd
      rw [← e1, ← e2] at g1 g2
      refine ⟨by rw [rsK_long hfm, h3, g1, atF_long hlg], ?_⟩
      rw [rdK_succ, h4, htk, rdP, if_pos hfm, h3, g2]
      have hwd0 : (pt l k).wd = 0 := by
        have hr := (ok_iff l).1 (by
          unfold chkP at h
          split at h
          · cases h
          · split at h
            · assumption
            · cases h) k hlt
        rw [← hpt, rightP_long hlg] at hr
        simp only [Bool.and_eq_true, decide_eq_true_eq] at hr
        exact hr.1
      simp only [dat, byP, hlg, hwd0]
    | false =>
      rw [hlg] at hfm
      have e1 : hr = beb 32 (pt l k).wd ++ hr' := by
        rw [h1, hdK_short hlg, List.append_assoc] at h1'
        exact List.append_cancel_left h1'
      have e2 : tr = tr' := by
        rw [h2, behK_short hlg] at h2'
        exact List.append_cancel_left h2'
      obtain ⟨g1, g2, g3⟩ := tk_app (x := beb 32 (pt l k).wd) (r := hr') (beb_len 32 _)
      rw [← e1] at g1 g2 g3
      refine ⟨by rw [rsK_short hfm, h3, shS, atF_short hlg, ← e2]; show RS.mk (tkL false hr 32) (tkBad false hr 32) _ _ _ = _; rw [g1, g3], ?_⟩
      rw [rdK_succ, h4, htk, rdP, if_neg (by rw [hfm]; simp), h3]
      have hdb : (pt l k).db = [] := by
        have hr := (ok_iff l).1 (by
          unfold chkP at h
          split at h
          · cases h
          · split at h
            · assumption
            · cases h) k hlt
        rw [← hpt, rightP_short hlg] at hr
        exact List.length_eq_zero_iff.1 (of_decide_eq_true hr)
      show _ ++ [dat (ofP (bev (tkB false hr 32)))] = _
      rw [g2, bev_back _ hwd]
      simp only [dat, ofP, hlg, hdb]
/-- What is laid is read. -/
theorem read_laid {l : List PartV} (h : chkP l = 0) (hs : ∀ p ∈ l, p.wd < M256) : rdE (layF l) (fmP l) = 0 ∧ rdK (layF l) (fmP l) (fmP l).length = l.map dat := by
  have hfl : (fmP l).length = l.length := by simp [fmP]
  obtain ⟨hr, tr, h1, h2, h3, h4⟩ := rs_laid h hs l.length (Nat.le_refl _)
  have e2 : tr = [] := List.append_cancel_left («as» := behK l l.length) (by rw [List.append_nil]; exact h2.symm)
  have hsm := right_small h
  rw [hfl]
  refine ⟨?_, by rw [h4, List.take_length]⟩
  rw [rdE, hfl, if_neg (by have := hsm.1; omega), if_neg (by rw [layF_len, atF]; omega), h3, e2]
  rfl
/-! ### What is read is laid -/
/-- The parts that are read. -/
def rdL (b : List UInt8) (fm : List Bool) : List PartV := (rdK b fm fm.length).map toP
theorem rdL_dat (b : List UInt8) (fm : List Bool) : (rdL b fm).map dat = rdK b fm fm.length := by
  rw [rdL, List.map_map]
  exact (List.map_congr_left (fun d _ => dat_toP d)).trans (List.map_id _)
end Go.Proofs.YtobkhnmglbfheaaDoor

/-
  A SMALL LOGIC OVER THE KIT's WALK, PART MK: cuts with two bounds.
  Conditions: none; over any program.
-/
namespace Go.Proofs.YtobkhnmglbfheaaDoor
open Go Go.RowKit
namespace SL
section cut
variable {P : Program} {e : Env} {T E : TypeId} {x lo hi : Operand} {p : Option Addr} {n c : Nat}
end cut
theorem RowAt.mid {w : World} {sz n c i j : Nat} {p : Option Addr} {xs : List Value} (h : RowAt w sz (.slice p n c) n xs) (hij : i ≤ j) (hj : j ≤ n) : RowAt w sz (cutAt p i j c sz) (j - i) ((xs.drop (i * sz)).take ((j - i) * sz)) := by
  have := (h.take hj).drop hij
  rwa [List.drop_take, ← Nat.sub_mul] at this
section xb
variable {P : Program} {e : Env} {T ty : TypeId} {x y : Operand} {m n : Nat}
end xb
end SL
end Go.Proofs.YtobkhnmglbfheaaDoor

/-
  The document's parts of bytes.
  Conditions: none.
-/
namespace Go.Proofs.YtobkhnmglbfheaaDoor
open Go Go.RowKit SL
set_option maxRecDepth 8000
set_option maxHeartbeats 4000000
set_option linter.unusedSimpArgs false
set_option linter.unusedVariables false
attribute [local irreducible] SL.CW SL.LW SL.DW Calls SL.Ret SL.RetG SL.beginQ SL.roundQ SL.rangeQ SL.inQ SL.RW SL.AnyW SL.thenQ SL.thenC SL.thenW SL.blkQ SL.finQ SL.ValP SL.NewP SL.SetP SL.CallP SL.Rd SL.Wr SL.Known
/-- Parts of this form whose bytes these are. -/
structure Cand (b : List UInt8) (fm : List Bool) (l : List PartV) : Prop where
  form : fmP l = fm
  ok : chkP l = 0
  lay : layF l = b
  small : ∀ p ∈ l, p.wd < M256
theorem Cand.read {b : List UInt8} {fm : List Bool} {l : List PartV} (h : Cand b fm l) : rdE b fm = 0 ∧ rdK b fm fm.length = l.map dat := by
  have := read_laid h.ok h.small
  rwa [h.lay, h.form] at this
theorem Cand.len {b : List UInt8} {fm : List Bool} {l : List PartV} (h : Cand b fm l) : l.length = fm.length := by rw [← h.form]; simp [fmP]
theorem Cand.lg {b : List UInt8} {fm : List Bool} {l : List PartV} (h : Cand b fm l) (k : Nat) : (pt l k).lg = fm.getD k false := by rw [← h.form, fm_get]
theorem Cand.take {b : List UInt8} {fm : List Bool} {l : List PartV} (h : Cand b fm l) {k : Nat} (hk : k < fm.length) : (l.take (k + 1)).map dat = (l.take k).map dat ++ [dat (pt l k)] := by
  have hk' : k < l.length := by rw [h.len]; exact hk
  rw [List.take_succ_eq_append_getElem hk', List.map_append, pt_eq hk']; rfl
structure VX where
  k : Nat
  ov : Value
  segO : Fs
  ps : List PartV
  gsD : Fs
  pl : Nat
end Go.Proofs.YtobkhnmglbfheaaDoor

/-
  A SMALL LOGIC OVER THE KIT's WALK, PART ML: max of four; what is behind a row of operations told once.
  Conditions: none; over any program.
-/
namespace Go.Proofs.YtobkhnmglbfheaaDoor.SL
set_option linter.unusedVariables false
set_option linter.unusedSimpArgs false
open Go Go.RowKit
section mm
variable {P : Program} {e : Env} {ik : IntKind} {m n k l : Nat} {x y z u : Operand} {tys : Array TypeId}
theorem ValP.max4 (hx : e.ev x = some (.int ik (m : Int))) (hy : e.ev y = some (.int ik (n : Int))) (hz : e.ev z = some (.int ik (k : Int))) (hu : e.ev u = some (.int ik (l : Int))) : ValP P e [] (.call { callee := .builtin .max, args := #[x, y, z, u], argTypes := tys }) (.int ik ((max (max (max m n) k) l : Nat) : Int)) := fun ρ w hρ _ d t pos af g => by
  have h2 : (Builtin.max_ tys t #[.int ik (m : Int), .int ik (n : Int), .int ik (k : Int), .int ik (l : Int)]).run P w = .ok (.int ik ((max (max (max m n) k) l : Nat) : Int)) w := by
    have h0 : ∀ a b : Nat, (if (b : Int) > (a : Int) then (b : Int) else (a : Int)) = ((max a b : Nat) : Int) := fun a b => by split <;> omega
    have h : (if (l : Int) > (if (k : Int) > (if (n : Int) > (m : Int) then (n : Int) else (m : Int)) then (k : Int) else (if (n : Int) > (m : Int) then (n : Int) else (m : Int))) then (l : Int) else (if (k : Int) > (if (n : Int) > (m : Int) then (n : Int) else (m : Int)) then (k : Int) else (if (n : Int) > (m : Int) then (n : Int) else (m : Int)))) = ((max (max (max m n) k) l : Nat) : Int) := by rw [h0, h0, h0]
    rw [← h]
    simp [Builtin.max_, Builtin.max2]
  simp [execOp, resolve, invoke, builtin, hρ x _ hx, hρ y _ hy, hρ z _ hz, hρ u _ hu, h2]
end mm
theorem oper_mono {F : Fence} {n : Nat} {P : Program} {o : Oper} {a : Act} {w : World} {K K' : Act → World → Prop} {Q Q' : Exit → Act → World → Prop} (h : ∀ a w, K a w → K' a w) (hq : ∀ x a w, Q x a w → Q' x a w)
    (hh : o.wpIn F n P a w K Q) : o.wpIn F n P a w K' Q' := by
  unfold Oper.wpIn at *
  refine ⟨hh.1, ?_⟩
  have hh := hh.2
  generalize (o.semAt F.round a.eval).run P w = r at *
  have hl : LetsOut Q → LetsOut Q' := fun ⟨a, w, h⟩ => ⟨a, w, hq _ _ _ h⟩
  cases r with
  | ok x w' =>
    cases x <;> simp only [Oper.uponIn] at hh ⊢ <;>
      first
        | exact h _ _ hh
        | exact ⟨hh.1, CallsIn.mono hh.2 (fun e w'' he => by cases e <;> first | exact h _ _ he | exact hq _ _ _ he | exact hl he)⟩
        | exact ⟨hh.1, RowsIn.mono hh.2 (fun _ _ he => h _ _ he)⟩
        | exact ⟨hh.1, RoundIn.mono hh.2 (fun e w'' he => by cases e <;> first | exact h _ _ he | exact hq _ _ _ he | exact hl he)⟩
  | halt x w' => cases x <;> simp only [Oper.uponIn] at hh ⊢ <;> first | exact hh | exact hq _ _ _ hh | exact hl hh
theorem wpList_mono {F : Fence} {n : Nat} {P : Program} {ops : Array Oper} {Q Q' : Exit → Act → World → Prop} (hq : ∀ x a w, Q x a w → Q' x a w) : ∀ (l : List Oper) (a : Act) (w : World), wpListIn F n P ops Q l a w → wpListIn F n P ops Q' l a w
  | [], a, w, h => hq _ _ _ h
  | o :: rest, a, w, h => by
    unfold wpListIn at h ⊢
    split
    · rename_i hw
      rw [if_pos hw] at h
      exact oper_mono (fun a w h => wpList_mono hq rest a w h) hq h
    · rename_i hw
      rw [if_neg hw] at h
      exact ⟨h.1, wpList_mono hq rest _ _ h.2⟩
theorem LW.mono {C : Cu} {ops : Array Oper} {Q Q' : Post} {l : List Oper} {e : Env} {fs : Fs} (hq : ∀ x ds e fs, Q x ds e fs → Q' x ds e fs) (h : LW C ops Q l e fs) : LW C ops Q' l e fs :=
  fun a w hs => wpList_mono (fun x _ _ ⟨ds, e, fs, q, s⟩ => ⟨ds, e, fs, hq x ds e fs q, s⟩) l a w (h a w hs)
/-- All that is behind is told once, from less that is known. -/
theorem LW.cut {C : Cu} {ops : Array Oper} {l : List Oper} {y : Code} {Q Q' : Post} {e : Env} {fs : Fs} (e1 : Env) (fs1 : Fs) (k : CW C y Q e1 fs1) (h : LW C ops (thenQ (cutQ C e1 fs1) Q') l e fs) : LW C ops (thenQ (thenC C y Q) Q') l e fs :=
  LW.mono (fun x ds e fs hx => by
    cases x with
    | normal => obtain ⟨rfl, h2, h3⟩ := hx; exact CW.weak (C := C) e1 fs1 h2 h3 k
    | _ => exact hx) h
/-! ### Guards and tests that are not known: both ways -/
section gc
variable {C : Cu} {ops : Array Oper} {Q : Post} {rest : List Oper} {e : Env} {fs : Fs} {d : Nat} {op : Op} {t : TypeId} {pos : String} {af : Array Edge} {j s : Nat} {b : Bool} {p : Prop} [Decidable p]
theorem LW.guardCT (hs : (ops[j]?).bind (·.dst) = some s) (he : e.get s = some (.bool b)) (hd : Nat.blt d C.N = true) (h1 : b = true → LW C ops Q (⟨some d, op, t, pos, af, none⟩ :: rest) e fs) (h2 : b = false → LW C ops Q rest ((d, undef) :: e) fs) :
    LW C ops Q (⟨some d, op, t, pos, af, some (j, true)⟩ :: rest) e fs := by
  cases b with
  | true => exact LW.guardT hs he (h1 rfl)
  | false => exact LW.guardF hs he hd (h2 rfl)
theorem LW.guardCF (hs : (ops[j]?).bind (·.dst) = some s) (he : e.get s = some (.bool b)) (hd : Nat.blt d C.N = true) (h1 : b = false → LW C ops Q (⟨some d, op, t, pos, af, none⟩ :: rest) e fs) (h2 : b = true → LW C ops Q rest ((d, undef) :: e) fs) :
    LW C ops Q (⟨some d, op, t, pos, af, some (j, false)⟩ :: rest) e fs := by
  cases b with
  | true => exact LW.guardF hs he hd (h2 rfl)
  | false => exact LW.guardT hs he (h1 rfl)
theorem LW.guardDT (hs : (ops[j]?).bind (·.dst) = some s) (he : e.get s = some (.bool (decide p))) (hd : Nat.blt d C.N = true) (h1 : p → decide p = true → LW C ops Q (⟨some d, op, t, pos, af, none⟩ :: rest) e fs) (h2 : ¬ p → decide p = false → LW C ops Q rest ((d, undef) :: e) fs) :
    LW C ops Q (⟨some d, op, t, pos, af, some (j, true)⟩ :: rest) e fs :=
  LW.guardCT hs he hd (fun h => h1 (of_decide_eq_true h) h) (fun h => h2 (of_decide_eq_false h) h)
theorem LW.guardDF (hs : (ops[j]?).bind (·.dst) = some s) (he : e.get s = some (.bool (decide p))) (hd : Nat.blt d C.N = true) (h1 : ¬ p → decide p = false → LW C ops Q (⟨some d, op, t, pos, af, none⟩ :: rest) e fs) (h2 : p → decide p = true → LW C ops Q rest ((d, undef) :: e) fs) :
    LW C ops Q (⟨some d, op, t, pos, af, some (j, false)⟩ :: rest) e fs :=
  LW.guardCF hs he hd (fun h => h1 (of_decide_eq_false h) h) (fun h => h2 (of_decide_eq_true h) h)
theorem LW.guardNT (hs : (ops[j]?).bind (·.dst) = some s) (he : e.get s = some (.bool (!decide p))) (hd : Nat.blt d C.N = true) (h1 : ¬ p → (!decide p) = true → LW C ops Q (⟨some d, op, t, pos, af, none⟩ :: rest) e fs) (h2 : p → (!decide p) = false → LW C ops Q rest ((d, undef) :: e) fs) :
    LW C ops Q (⟨some d, op, t, pos, af, some (j, true)⟩ :: rest) e fs :=
  LW.guardCT hs he hd (fun h => h1 (by simpa using h) h) (fun h => h2 (by simpa using h) h)
theorem LW.guardNF (hs : (ops[j]?).bind (·.dst) = some s) (he : e.get s = some (.bool (!decide p))) (hd : Nat.blt d C.N = true) (h1 : p → (!decide p) = false → LW C ops Q (⟨some d, op, t, pos, af, none⟩ :: rest) e fs) (h2 : ¬ p → (!decide p) = true → LW C ops Q rest ((d, undef) :: e) fs) :
    LW C ops Q (⟨some d, op, t, pos, af, some (j, false)⟩ :: rest) e fs :=
  LW.guardCF hs he hd (fun h => h1 (by simpa using h) h) (fun h => h2 (by simpa using h) h)
variable {c : Operand} {x y : Code}
theorem CW.condD (hc : e.ev c = some (.bool (decide p))) (ht : p → decide p = true → CW C x Q e fs) (hf : ¬ p → decide p = false → CW C y Q e fs) : CW C (.cond c x y) Q e fs :=
  CW.cond hc (fun h => ht (of_decide_eq_true h) h) (fun h => hf (of_decide_eq_false h) h)
theorem CW.condN (hc : e.ev c = some (.bool (!decide p))) (ht : ¬ p → (!decide p) = true → CW C x Q e fs) (hf : p → (!decide p) = false → CW C y Q e fs) : CW C (.cond c x y) Q e fs :=
  CW.cond hc (fun h => ht (by simpa using h) h) (fun h => hf (by simpa using h) h)
theorem CW.condM (hc : e.ev c = some (.bool (!!decide p))) (ht : p → (!!decide p) = true → CW C x Q e fs) (hf : ¬ p → (!!decide p) = false → CW C y Q e fs) : CW C (.cond c x y) Q e fs :=
  CW.cond hc (fun h => ht (by simpa using h) h) (fun h => hf (by simpa using h) h)
theorem getB {k : Nat} {b b' : Bool} (h : e.get k = some (.bool b)) (hb : b = b') : e.get k = some (.bool b') := by rw [h, hb]
end gc
end Go.Proofs.YtobkhnmglbfheaaDoor.SL

/-
  Operations of accounts: what their values say; addresses read; the greatest of numbers.
  Conditions: none.
-/
namespace Go.Proofs.YtobkhnmglbfheaaDoor
open Go Go.RowKit SL
set_option maxRecDepth 8000
set_option maxHeartbeats 4000000
set_option linter.unusedSimpArgs false
set_option linter.unusedVariables false
attribute [local irreducible] SL.CW SL.LW SL.DW Calls SL.Ret SL.RetG SL.beginQ SL.roundQ SL.rangeQ SL.inQ SL.RW SL.AnyW SL.thenQ SL.thenC SL.thenW SL.blkQ SL.finQ SL.ValP SL.NewP SL.SetP SL.CallP SL.Rd SL.Wr SL.Known
/-- An operation: its numbers, the values of its bytes, and the bytes. -/
structure OpV where
  sd : Nat
  no : Nat
  iv : Value
  ib : List UInt8
  cv : Value
  cb : List UInt8
  vg : Nat
  cg : Nat
  pg : Nat
  mf : Nat
  mp : Nat
  py : Nat
  pv : Nat
  pp : Nat
  dv : Value
  db : List UInt8
  gv : Value
  gb : List UInt8
def opc (u : OpV) : List Value := .int .u64 (u.sd : Int) :: ((wc u.no).toList ++ [u.iv, u.cv, .int .u64 (u.vg : Int), .int .u64 (u.cg : Int), .int .u64 (u.pg : Int), .int .u64 (u.mf : Int), .int .u64 (u.mp : Int), .int .u64 (u.py : Int), .int .u64 (u.pv : Int), .int .u64 (u.pp : Int), u.dv, u.gv])
def opa (u : OpV) : Array Value := (opc u).toArray
theorem opc_len (l : List OpV) : ∀ u ∈ l, (opc u).length = 17 := fun _ _ => rfl
section rd
variable {P : Program} {T E : TypeId} {fr : Nat × Nat} {u : OpV}
theorem op_rd0 [AgI P T false] : Rd P T (.cells (opa u) E fr) 0 (.int .u64 (u.sd : Int)) := Rd.one rfl
theorem op_rd1 {z : Value} [AgI P T true] [InfoI P T 4 z] : Rd P T (.cells (opa u) E fr) 1 (wv u.no) := Rd.mid (cs := (wc u.no).toList) rfl rfl
theorem op_rd5 [AgI P T false] : Rd P T (.cells (opa u) E fr) 5 u.iv := Rd.one rfl
theorem op_rd6 [AgI P T false] : Rd P T (.cells (opa u) E fr) 6 u.cv := Rd.one rfl
theorem op_rd7 [AgI P T false] : Rd P T (.cells (opa u) E fr) 7 (.int .u64 (u.vg : Int)) := Rd.one rfl
theorem op_rd8 [AgI P T false] : Rd P T (.cells (opa u) E fr) 8 (.int .u64 (u.cg : Int)) := Rd.one rfl
theorem op_rd9 [AgI P T false] : Rd P T (.cells (opa u) E fr) 9 (.int .u64 (u.pg : Int)) := Rd.one rfl
theorem op_rd10 [AgI P T false] : Rd P T (.cells (opa u) E fr) 10 (.int .u64 (u.mf : Int)) := Rd.one rfl
theorem op_rd11 [AgI P T false] : Rd P T (.cells (opa u) E fr) 11 (.int .u64 (u.mp : Int)) := Rd.one rfl
theorem op_rd12 [AgI P T false] : Rd P T (.cells (opa u) E fr) 12 (.int .u64 (u.py : Int)) := Rd.one rfl
theorem op_rd13 [AgI P T false] : Rd P T (.cells (opa u) E fr) 13 (.int .u64 (u.pv : Int)) := Rd.one rfl
theorem op_rd14 [AgI P T false] : Rd P T (.cells (opa u) E fr) 14 (.int .u64 (u.pp : Int)) := Rd.one rfl
theorem op_rd15 [AgI P T false] : Rd P T (.cells (opa u) E fr) 15 u.dv := Rd.one rfl
theorem op_rd16 [AgI P T false] : Rd P T (.cells (opa u) E fr) 16 u.gv := Rd.one rfl
theorem op_rdW {z : Value} [AgI P T true] [InfoI P T 17 z] : Rd P T (.cells (opa u) E fr) 0 (.agg (opa u)) := Rd.whole rfl
end rd
/-- An operation's numbers are numbers, and its bytes may be read. -/
structure OpNum (u : OpV) : Prop where
  sd : u.sd < 18446744073709551616
  no : u.no < M256
  vg : u.vg < 18446744073709551616
  cg : u.cg < 18446744073709551616
  pg : u.pg < 18446744073709551616
  mf : u.mf < 18446744073709551616
  mp : u.mp < 18446744073709551616
  py : u.py < 18446744073709551616
  pv : u.pv < 18446744073709551616
  pp : u.pp < 18446744073709551616
structure OpAt (w : World) (u : OpV) : Prop where
  num : OpNum u
  i : RowAt w 1 u.iv u.ib.length (ucs u.ib)
  c : RowAt w 1 u.cv u.cb.length (ucs u.cb)
  d : RowAt w 1 u.dv u.db.length (ucs u.db)
  g : RowAt w 1 u.gv u.gb.length (ucs u.gb)
theorem OpAt.st {w0 w : World} {u : OpV} {fs : Fs} (h : OpAt w0 u) (hs : St w0 [] fs w) : OpAt w u := ⟨h.num, h.i.st hs, h.c.st hs, h.d.st hs, h.g.st hs⟩
theorem OpAt.bel {w0 w : World} {u : OpV} (h : OpAt w0 u) (hb : Bel w0.heap.size [] w0 w) : OpAt w u := ⟨h.num, h.i.bel hb, h.c.bel hb, h.d.bel hb, h.g.bel hb⟩
/-! ### Addresses -/
theorem Kept_calls (a : Nat) (w : World) : Calls Tryd.prog 21 #[.int .u64 (a : Int)] w (Ret w (.bool (decide (a < 16)))) := by
  refine enter (args := [_]) _ [] [] Tryd.func21 rfl Tryd.ntmps21 rfl (by simp) .nil ?_
  rcases Nat.lt_or_ge a 16 with h | h
  · (refine CW.seq ?_; refine CW.region ?_; apply LW.v0; rfl; rfl; apply ValP.assign; rfl; apply LW.nil; refine thenN ?_; refine CW.seq ?_; refine CW.region ?_; apply LW.v0; rfl; rfl; apply ValP.move; rfl; apply LW.v0; rfl; rfl; apply ValP.lssT; rfl; rfl; omega; apply LW.v0; rfl; rfl; apply ValP.assign; rfl; apply LW.nil; refine thenN ?_; refine CW.ret ?_)
    (apply finR; exact .inl rfl; rfl; rfl; rfl; apply ResL.cons; exact Res.tmp rfl; exact ResL.nil)
    rw [decide_eq_true h]; rfl
  · (refine CW.seq ?_; refine CW.region ?_; apply LW.v0; rfl; rfl; apply ValP.assign; rfl; apply LW.nil; refine thenN ?_; refine CW.seq ?_; refine CW.region ?_; apply LW.v0; rfl; rfl; apply ValP.move; rfl; apply LW.v0; rfl; rfl; apply ValP.lssF; rfl; rfl; omega; apply LW.v0; rfl; rfl; apply ValP.assign; rfl; apply LW.nil; refine thenN ?_; refine CW.ret ?_)
    (apply finR; exact .inl rfl; rfl; rfl; rfl; apply ResL.cons; exact Res.tmp rfl; exact ResL.nil)
    rw [decide_eq_false (by omega)]; rfl
theorem bev_shift (l : List UInt8) (m : Nat) (h : m < l.length) : bev (l.take m) * 256 ||| l[m].toNat = bev (l.take (m + 1)) := by
  have hu := l[m].toNat_lt
  rw [or_low (R := 256) (r := 8) rfl ⟨bev (l.take m), Nat.mul_comm _ _⟩ hu, List.take_succ_eq_append_getElem h, bev_snoc, Nat.mul_comm]
theorem bev8 {l : List UInt8} {m : Nat} (h : m ≤ 8) : bev (l.take m) < 2 ^ (8 * m) := by
  refine Nat.lt_of_lt_of_le (bev_lt _) (Nat.pow_le_pow_right (by decide) ?_)
  rw [List.length_take]; omega
/-- The address that bytes begin with. -/
def adr (l : List UInt8) : Nat := bev (l.take 8)
theorem aRead_calls (l : List UInt8) (v : Value) (w : World) (hv : RowAt w 1 v l.length (ucs l)) (hl : 8 ≤ l.length) : Calls Tryd.prog 22 #[v] w (Ret w (.tuple #[.int .u64 (adr l : Int), .int .i64 0])) := by
  obtain ⟨p, c, rfl, hc, hm⟩ := hv.form
  simp only [maxLen] at hm
  refine enter (args := [_]) _ [] [] Tryd.func22 rfl Tryd.ntmps22 rfl (by simp) .nil ?_
  (refine CW.seq ?_; refine CW.region ?_; apply LW.v0; rfl; rfl; apply ValP.assign; rfl; apply LW.v0; rfl; rfl; apply ValP.assign; rfl; apply LW.nil; refine thenN ?_; refine CW.seq ?_; refine CW.seq ?_; refine CW.region ?_; apply LW.v0; rfl; rfl; apply ValP.move; rfl; apply LW.v0; rfl; rfl; apply ValP.lenR; rfl; infer_instance; rfl; apply LW.v0; rfl; rfl; apply ValP.lssF; rfl; rfl; omega; apply LW.nil; refine thenN ?_; apply CW.condF; rfl; (with_reducible rfl); refine CW.skip ?_; refine thenN ?_; refine CW.seq ?_; refine CW.region ?_; apply LW.v0; rfl; rfl; apply ValP.assign; rfl; apply LW.nil; refine thenN ?_; refine CW.seq ?_; refine CW.seq ?_; refine CW.region ?_; apply LW.v0; rfl; rfl; apply ValP.move; rfl; apply LW.nil; refine thenN ?_; refine CW.block ?_)
  refine CW.loop (fun m : Nat => ([(9, .int .i64 (m : Int)), (4, .int .u64 (bev (l.take m) : Int)), (0, .slice p l.length c)], [])) (fun m => m ≤ 8) (fun m => 8 - m) 0 (Nat.zero_le _) ⟨rfl, rfl, rfl, trivial⟩ (List.nil_sublist _) ?_
  rintro m hm
  dsimp only at hm ⊢
  rcases Nat.lt_or_ge m 8 with hlt | hge
  · obtain ⟨b, off, c', cs, E, fr, heq, hb, hx⟩ := hv.pos (by omega)
    cases heq
    have hml : m < l.length := by omega
    obtain ⟨u, hu⟩ : ∃ u, u = l[m] := ⟨_, rfl⟩
    have hu8 := u.toNat_lt
    have hrd : Rd Tryd.prog 5 (.cells cs E fr) (off + m * 1) (.int .u8 (u.toNat : Int)) := Rd.elem1 hx (ucs_one l) (by rw [hu]; exact List.getElem?_eq_getElem hml) rfl
    have hb8 := bev8 (l := l) (m := m) (by omega)
    have hb7 : bev (l.take m) < 72057594037927936 := Nat.lt_of_lt_of_le hb8 (show 2 ^ (8 * m) ≤ 2 ^ 56 from Nat.pow_le_pow_right (by decide) (by omega))
    have hsh := bev_shift l m hml
    rw [← hu] at hsh
    obtain ⟨x, hx1⟩ : ∃ x, bev (l.take m) = x := ⟨_, rfl⟩
    rw [hx1] at hsh hb7 ⊢
    have e : x * 2 ^ 8 % 18446744073709551616 = x * 256 := Nat.mod_eq_of_lt (by omega)
    (refine CW.seq ?_; refine CW.region ?_; apply LW.v0; rfl; rfl; apply ValP.lssT; rfl; rfl; omega; apply LW.nil; refine thenN ?_; refine CW.seq ?_; apply CW.condT; rfl; (with_reducible rfl); refine CW.skip ?_; refine thenN ?_; refine CW.seq ?_; refine CW.block ?_; refine CW.seq ?_; refine CW.region ?_; apply LW.v0; rfl; rfl; apply ValP.move; rfl; apply LW.v0; rfl; rfl; apply ValP.assign; rfl; apply LW.nil; refine thenN ?_; refine CW.region ?_; apply LW.v0; rfl; rfl; apply ValP.move; rfl; apply LW.v0; rfl; rfl; apply ValP.shlUL; rfl; rfl; decide; omega; apply LW.v0; rfl; rfl; apply ValP.move; rfl; apply LW.v0; rfl; rfl; apply ValP.move; rfl; apply LW.v0; rfl; rfl; apply ValP.indexAddrS; rfl; rfl; rfl; omega; apply LW.load; rfl; rfl; exact Known.ext (by assumption) (by simp); assumption; apply LW.v0; rfl; rfl; apply ValP.convN; rfl; omega; omega; apply LW.v0; rfl; rfl; apply ValP.orU; rfl; rfl; omega; omega; apply LW.v0; rfl; rfl; apply ValP.assign; rfl; apply LW.nil; refine blkN ?_; refine thenN ?_; refine CW.region ?_; apply LW.v0; rfl; rfl; apply ValP.addZL; rfl; rfl; decide; omega; apply LW.v0; rfl; rfl; apply ValP.move; rfl; apply LW.nil)
    rw [e, hsh]
    apply thenX
    exact ⟨rfl, m + 1, hlt, by omega, ⟨rfl, rfl, rfl, trivial⟩, List.nil_sublist _⟩
  · obtain rfl : m = 8 := by omega
    (refine CW.seq ?_; refine CW.region ?_; apply LW.v0; rfl; rfl; apply ValP.lssF; rfl; rfl; omega; apply LW.nil; refine thenN ?_; refine CW.seq ?_; apply CW.condF; rfl; (with_reducible rfl); refine CW.exit ?_; refine thenE ?_; refine thenE ?_; refine blkE rfl ?_; refine thenN ?_; refine CW.seq ?_; refine CW.region ?_; apply LW.v0; rfl; rfl; apply ValP.move; rfl; apply LW.v0; rfl; rfl; apply ValP.assign; rfl; apply LW.v0; rfl; rfl; apply ValP.assign; rfl; apply LW.nil; refine thenN ?_; refine CW.ret ?_)
    (apply finR; exact .inl rfl; rfl; rfl; rfl; apply ResL.cons; exact Res.tmp rfl; apply ResL.cons; exact Res.tmp rfl; exact ResL.nil)
    rfl
theorem aReadShort_calls (l : List UInt8) (v : Value) (w : World) (hv : RowAt w 1 v l.length (ucs l)) (hl : l.length < 8) : Calls Tryd.prog 22 #[v] w (Ret w (.tuple #[.int .u64 0, .int .i64 7])) := by
  obtain ⟨p, c, rfl, hc, hm⟩ := hv.form
  simp only [maxLen] at hm
  refine enter (args := [_]) _ [] [] Tryd.func22 rfl Tryd.ntmps22 rfl (by simp) .nil ?_
  (refine CW.seq ?_; refine CW.region ?_; apply LW.v0; rfl; rfl; apply ValP.assign; rfl; apply LW.v0; rfl; rfl; apply ValP.assign; rfl; apply LW.nil; refine thenN ?_; refine CW.seq ?_; refine CW.seq ?_; refine CW.region ?_; apply LW.v0; rfl; rfl; apply ValP.move; rfl; apply LW.v0; rfl; rfl; apply ValP.lenR; rfl; infer_instance; rfl; apply LW.v0; rfl; rfl; apply ValP.lssT; rfl; rfl; omega; apply LW.nil; refine thenN ?_; apply CW.condT; rfl; (with_reducible rfl); refine CW.seq ?_; refine CW.region ?_; apply LW.v0; rfl; rfl; apply ValP.assign; rfl; apply LW.v0; rfl; rfl; apply ValP.assign; rfl; apply LW.nil; refine thenN ?_; refine CW.ret ?_; refine thenR ?_)
  (apply finR; exact .inl rfl; rfl; rfl; rfl; apply ResL.cons; exact Res.tmp rfl; apply ResL.cons; exact Res.tmp rfl; exact ResL.nil)
  rfl
/-! ### The greatest of numbers -/
def mxL (l : List Nat) : Nat := l.foldl max 0
theorem mxL_snoc (l : List Nat) (a : Nat) : mxL (l ++ [a]) = max (mxL l) a := by simp [mxL, List.foldl_append]
theorem Max_calls (l : List Nat) (v : Value) (w : World) (hv : RowAt w 1 v l.length (ncs l)) (h0 : 0 < l.length) : Calls Tryd.prog 20 #[v] w (Ret w (.int .u64 (mxL l : Int))) := by
  obtain ⟨p, c, rfl, hc, hm⟩ := hv.form
  simp only [maxLen] at hm
  obtain ⟨b, off, c', cs, E, fr, heq, hb, hx⟩ := hv.pos h0
  cases heq
  have hrd0 : Rd Tryd.prog 23 (.cells cs E fr) (off + 0 * 1) (.int .u64 ((l[0] : Nat) : Int)) := Rd.elem1 hx (ncs_one l) (List.getElem?_eq_getElem h0) rfl
  refine enter (args := [_]) _ [] [] Tryd.func20 rfl Tryd.ntmps20 rfl (by simp) .nil ?_
  (refine CW.seq ?_; refine CW.region ?_; apply LW.v0; rfl; rfl; apply ValP.assign; rfl; apply LW.nil; refine thenN ?_; refine CW.seq ?_; refine CW.seq ?_; refine CW.region ?_; apply LW.v0; rfl; rfl; apply ValP.move; rfl; apply LW.v0; rfl; rfl; apply ValP.lenR; rfl; infer_instance; rfl; apply LW.v0; rfl; rfl; apply ValP.lssF; rfl; rfl; omega; apply LW.nil; refine thenN ?_; apply CW.condF; rfl; (with_reducible rfl); refine CW.skip ?_; refine thenN ?_; refine CW.seq ?_; refine CW.region ?_; apply LW.v0; rfl; rfl; apply ValP.move; rfl; apply LW.v0; rfl; rfl; apply ValP.indexAddrSL; rfl; rfl; decide; omega; apply LW.load; rfl; rfl; exact Known.ext (by assumption) (by simp); assumption; apply LW.v0; rfl; rfl; apply ValP.assign; rfl; apply LW.nil; refine thenN ?_; refine CW.seq ?_; refine CW.seq ?_; refine CW.region ?_; apply LW.v0; rfl; rfl; apply ValP.assign; rfl; apply LW.nil; refine thenN ?_; refine CW.block ?_)
  refine CW.loop (fun m : Nat => ([(4, .int .i64 (m : Int)), (3, .int .u64 (mxL (l.take m) : Int)), (0, .slice (some ⟨b, off, none⟩) l.length c)], [])) (fun m => 0 < m ∧ m ≤ l.length) (fun m => l.length - m) 1 ⟨by decide, h0⟩ ⟨rfl, ?_, rfl, trivial⟩ (List.nil_sublist _) ?_
  · obtain ⟨a, r, rfl⟩ := List.exists_cons_of_length_pos h0
    simp [mxL]; rfl
  rintro m ⟨hm0, hml⟩
  dsimp only at hm0 hml ⊢
  rcases Nat.lt_or_ge m l.length with hlt | hge
  · have hrd : Rd Tryd.prog 23 (.cells cs E fr) (off + m * 1) (.int .u64 ((l[m] : Nat) : Int)) := Rd.elem1 hx (ncs_one l) (List.getElem?_eq_getElem hlt) rfl
    have hmx := mxL_snoc (l.take m) l[m]
    rw [← List.take_succ_eq_append_getElem hlt] at hmx
    (refine CW.seq ?_; refine CW.seq ?_; refine CW.region ?_; apply LW.v0; rfl; rfl; apply ValP.move; rfl; apply LW.v0; rfl; rfl; apply ValP.move; rfl; apply LW.v0; rfl; rfl; apply ValP.lenR; rfl; infer_instance; rfl; apply LW.v0; rfl; rfl; apply ValP.lssT; rfl; rfl; omega; apply LW.nil; refine thenN ?_; apply CW.condT; rfl; (with_reducible rfl); refine CW.skip ?_; refine thenN ?_; refine CW.seq ?_; refine CW.block ?_; refine CW.region ?_; apply LW.v0; rfl; rfl; apply ValP.move; rfl; apply LW.v0; rfl; rfl; apply ValP.move; rfl; apply LW.v0; rfl; rfl; apply ValP.move; rfl; apply LW.v0; rfl; rfl; apply ValP.indexAddrS; rfl; rfl; rfl; omega; apply LW.load; rfl; rfl; exact Known.ext (by assumption) (by simp); assumption; apply LW.v0; rfl; rfl; apply ValP.maxZ; rfl; rfl; apply LW.v0; rfl; rfl; apply ValP.assign; rfl; apply LW.nil; refine blkN ?_; refine thenN ?_; refine CW.region ?_; apply LW.v0; rfl; rfl; apply ValP.move; rfl; apply LW.v0; rfl; rfl; apply ValP.addZL; rfl; rfl; decide; omega; apply LW.v0; rfl; rfl; apply ValP.assign; rfl; apply LW.nil)
    apply thenX
    exact ⟨rfl, m + 1, ⟨by omega, hlt⟩, by omega, ⟨rfl, by rw [hmx]; rfl, rfl, trivial⟩, List.nil_sublist _⟩
  · obtain rfl : m = l.length := by omega
    rw [List.take_length]
    (refine CW.seq ?_; refine CW.seq ?_; refine CW.region ?_; apply LW.v0; rfl; rfl; apply ValP.move; rfl; apply LW.v0; rfl; rfl; apply ValP.move; rfl; apply LW.v0; rfl; rfl; apply ValP.lenR; rfl; infer_instance; rfl; apply LW.v0; rfl; rfl; apply ValP.lssF; rfl; rfl; omega; apply LW.nil; refine thenN ?_; apply CW.condF; rfl; (with_reducible rfl); refine CW.exit ?_; refine thenE ?_; refine thenE ?_; refine blkE rfl ?_; refine thenN ?_; refine CW.seq ?_; refine CW.region ?_; apply LW.v0; rfl; rfl; apply ValP.move; rfl; apply LW.v0; rfl; rfl; apply ValP.assign; rfl; apply LW.nil; refine thenN ?_; refine CW.ret ?_)
    (apply finR; exact .inl rfl; rfl; rfl; rfl; apply ResL.cons; exact Res.tmp rfl; exact ResL.nil)
    rfl
end Go.Proofs.YtobkhnmglbfheaaDoor

/-
  Operations of accounts: which may be.
  Conditions: none.
-/
namespace Go.Proofs.YtobkhnmglbfheaaDoor
open Go Go.RowKit SL
set_option maxRecDepth 8000
set_option maxHeartbeats 4000000
set_option linter.unusedSimpArgs false
set_option linter.unusedVariables false
attribute [local irreducible] SL.CW SL.LW SL.DW Calls SL.Ret SL.RetG SL.beginQ SL.roundQ SL.rangeQ SL.inQ SL.RW SL.AnyW SL.thenQ SL.thenC SL.thenW SL.blkQ SL.finQ SL.ValP SL.NewP SL.SetP SL.CallP SL.Rd SL.Wr SL.Known
/-- May an operation be? -/
def okU (u : OpV) : Prop := (16 ≤ u.sd ∧ u.mp ≤ u.mf) ∧ (u.vg ≤ 20000 ∧ u.cg ≤ 20000 ∧ u.pg ≤ 20000 ∧ u.pv ≤ 20000 ∧ u.pp ≤ 20000) ∧ (u.ib.length ≤ 200 ∧ u.cb.length ≤ 200 ∧ u.db.length ≤ 200 ∧ u.gb.length ≤ 200) ∧
  (u.py = 0 → u.pv = 0 ∧ u.pp = 0 ∧ u.db.length = 0) ∧ (u.ib.length = 0 ∨ 8 ≤ u.ib.length ∧ adr u.ib ≠ 0)
instance (u : OpV) : Decidable (okU u) := by unfold okU; infer_instance
theorem mx5 (a b c d e : Nat) : mxL [a, b, c, d, e] = max (max (max (max a b) c) d) e := by simp [mxL]
theorem Check_u_calls (u : OpV) (w : World) (hu : OpAt w u) : Calls Tryd.prog 8 #[.agg (opa u)] w (Ret w (.int .i64 (if okU u then 0 else 280))) := by
  obtain ⟨p5, c5, h5, _, _⟩ := hu.i.form
  obtain ⟨p6, c6, h6, _, _⟩ := hu.c.form
  obtain ⟨p15, c15, h15, _, _⟩ := hu.d.form
  obtain ⟨p16, c16, h16, _, _⟩ := hu.g.form
  have hr5 : ∀ {E fr}, Rd Tryd.prog 28 (.cells (opa u) E fr) 5 (.slice p5 u.ib.length c5) := fun {E fr} => by rw [← h5]; exact op_rd5
  have hr6 : ∀ {E fr}, Rd Tryd.prog 28 (.cells (opa u) E fr) 6 (.slice p6 u.cb.length c6) := fun {E fr} => by rw [← h6]; exact op_rd6
  have hr15 : ∀ {E fr}, Rd Tryd.prog 28 (.cells (opa u) E fr) 15 (.slice p15 u.db.length c15) := fun {E fr} => by rw [← h15]; exact op_rd15
  have hr16 : ∀ {E fr}, Rd Tryd.prog 28 (.cells (opa u) E fr) 16 (.slice p16 u.gb.length c16) := fun {E fr} => by rw [← h16]; exact op_rd16
  have hi := hu.i
  rw [h5] at hi
  clear h5 h6 h15 h16
  obtain ⟨P1, hP1⟩ : ∃ P1 : Prop, P1 = ((16 ≤ u.sd ∧ u.mp ≤ u.mf) ∧ (u.vg ≤ 20000 ∧ u.cg ≤ 20000 ∧ u.pg ≤ 20000 ∧ u.pv ≤ 20000 ∧ u.pp ≤ 20000) ∧ (u.ib.length ≤ 200 ∧ u.cb.length ≤ 200 ∧ u.db.length ≤ 200 ∧ u.gb.length ≤ 200)) := ⟨_, rfl⟩
  obtain ⟨e, he⟩ : ∃ e : Int, e = if okU u then 0 else 280 := ⟨_, rfl⟩
  have hp : okU u → e = 0 := fun h => by rw [he, if_pos h]
  have hn : ¬ okU u → e = 280 := fun h => by rw [he, if_neg h]
  rw [← he]
  clear he
  unfold okU at hp hn
  refine enter (args := [_]) _ [] [] Tryd.func8 rfl Tryd.ntmps8 rfl (by simp) .nil ?_
  (refine CW.seq ?_; refine CW.region ?_; apply LW.boxA; rfl; rfl; intro _; apply LW.v0; rfl; rfl; apply ValP.assign; rfl; apply LW.nil; refine thenN ?_; refine CW.seq ?_; refine CW.region ?_; apply LW.v0; rfl; rfl; apply ValP.fieldAddr; rfl; rfl; apply LW.load; rfl; rfl; apply Known.at; apply FsAt.head; exact op_rd7; apply LW.v0; rfl; rfl; apply ValP.fieldAddr; rfl; rfl; apply LW.load; rfl; rfl; apply Known.at; apply FsAt.head; exact op_rd8; apply LW.v0; rfl; rfl; apply ValP.fieldAddr; rfl; rfl; apply LW.load; rfl; rfl; apply Known.at; apply FsAt.head; exact op_rd9; apply LW.v0; rfl; rfl; apply ValP.fieldAddr; rfl; rfl; apply LW.load; rfl; rfl; apply Known.at; apply FsAt.head; exact op_rd13; apply LW.v0; rfl; rfl; apply ValP.fieldAddr; rfl; rfl; apply LW.load; rfl; rfl; apply Known.at; apply FsAt.head; exact op_rd14)
  refine LW.n0 rfl rfl (NewP.buildSN (vs := [(0, .int .u64 (u.vg : Int)), (1, .int .u64 (u.cg : Int)), (2, .int .u64 (u.pg : Int)), (3, .int .u64 (u.pv : Int)), (4, .int .u64 (u.pp : Int))]) (c := #[.int .u64 (u.vg : Int), .int .u64 (u.cg : Int), .int .u64 (u.pg : Int), .int .u64 (u.pv : Int), .int .u64 (u.pp : Int)]) inferInstance inferInstance (by (apply PartsOk.cons; rfl; apply PartsOk.cons; rfl; apply PartsOk.cons; rfl; apply PartsOk.cons; rfl; apply PartsOk.cons; rfl; exact PartsOk.nil)) rfl rfl (by kernel_rfl) (by kernel_rfl)) fun g => ?_
  (apply LW.callE; rfl; rfl; infer_instance; apply ArgsOk.cons; rfl; exact ArgsOk.nil; intro w _)
  rename_i hst
  exact Max_calls [u.vg, u.cg, u.pg, u.pv, u.pp] _ w (row_cells (hst.own (g, _) (List.Mem.head _)).2 rfl rfl (by simp [maxLen])) (by simp)
  rw [mx5]
  (apply LW.v0; rfl; rfl; apply ValP.assign; rfl; apply LW.nil; refine thenN ?_; refine CW.seq ?_; refine CW.region ?_; apply LW.v0; rfl; rfl; apply ValP.fieldAddr; rfl; rfl; apply LW.load; rfl; rfl; apply Known.at; apply FsAt.tail; apply FsAt.head; exact hr5; apply LW.v0; rfl; rfl; apply ValP.lenR; rfl; infer_instance; rfl; apply LW.v0; rfl; rfl; apply ValP.fieldAddr; rfl; rfl; apply LW.load; rfl; rfl; apply Known.at; apply FsAt.tail; apply FsAt.head; exact hr6; apply LW.v0; rfl; rfl; apply ValP.lenR; rfl; infer_instance; rfl; apply LW.v0; rfl; rfl; apply ValP.fieldAddr; rfl; rfl; apply LW.load; rfl; rfl; apply Known.at; apply FsAt.tail; apply FsAt.head; exact hr15; apply LW.v0; rfl; rfl; apply ValP.lenR; rfl; infer_instance; rfl; apply LW.v0; rfl; rfl; apply ValP.fieldAddr; rfl; rfl; apply LW.load; rfl; rfl; apply Known.at; apply FsAt.tail; apply FsAt.head; exact hr16; apply LW.v0; rfl; rfl; apply ValP.lenR; rfl; infer_instance; rfl; apply LW.v0; rfl; rfl; apply ValP.max4; rfl; rfl; rfl; rfl; apply LW.v0; rfl; rfl; apply ValP.assign; rfl; apply LW.nil; refine thenN ?_; refine CW.seq ?_; refine CW.region ?_; apply LW.v0; rfl; rfl; apply ValP.fieldAddr; rfl; rfl; apply LW.load; rfl; rfl; apply Known.at; apply FsAt.tail; apply FsAt.head; exact op_rd0; apply LW.callE; rfl; rfl; infer_instance; apply ArgsOk.cons; rfl; exact ArgsOk.nil; intro w _; exact Kept_calls _ w; apply LW.v0; rfl; rfl; apply ValP.notB; rfl; apply LW.v0; rfl; rfl; apply ValP.move; rfl)
  rename_i b1
  refine LW.cut [(5, .bool (decide ((16 ≤ u.sd ∧ u.mp ≤ u.mf) ∧ (u.vg ≤ 20000 ∧ u.cg ≤ 20000 ∧ u.pg ≤ 20000 ∧ u.pv ≤ 20000 ∧ u.pp ≤ 20000) ∧ (u.ib.length ≤ 200 ∧ u.cb.length ≤ 200 ∧ u.db.length ≤ 200 ∧ u.gb.length ≤ 200)))), (1, .pointer (some ⟨b1, 0, none⟩))] [(b1, .cells (opa u) 30 (0, 0))] ?_ ?_
  · (refine CW.seq ?_; refine CW.seq ?_; refine CW.region ?_; apply LW.v0; rfl; rfl; apply ValP.fieldAddr; rfl; rfl; apply LW.load; rfl; rfl; apply Known.at; apply FsAt.head; exact op_rd12; apply LW.v0; rfl; rfl; apply ValP.eq; rfl; rfl; apply LW.nil; refine thenN ?_)
    refine CW.cut [(5, .bool (decide (((16 ≤ u.sd ∧ u.mp ≤ u.mf) ∧ (u.vg ≤ 20000 ∧ u.cg ≤ 20000 ∧ u.pg ≤ 20000 ∧ u.pv ≤ 20000 ∧ u.pp ≤ 20000) ∧ (u.ib.length ≤ 200 ∧ u.cb.length ≤ 200 ∧ u.db.length ≤ 200 ∧ u.gb.length ≤ 200)) ∧ (u.py = 0 → u.pv = 0 ∧ u.pp = 0 ∧ u.db.length = 0)))), (1, .pointer (some ⟨b1, 0, none⟩))] [(b1, .cells (opa u) 30 (0, 0))] ?_ ?_
    · rcases Nat.lt_or_ge u.ib.length 8 with hl | hl
      · have hA : ∀ w' {fs}, St w [] fs w' → Calls Tryd.prog 22 #[.slice p5 u.ib.length c5] w' (Ret w' (.tuple #[.int .u64 0, .int .i64 7])) := fun w' fs hst => aReadShort_calls u.ib _ w' (hi.st hst) hl
        (refine CW.seq ?_; refine CW.seq ?_; refine CW.region ?_; apply LW.v0; rfl; rfl; apply ValP.fieldAddr; rfl; rfl; apply LW.load; rfl; rfl; apply Known.at; apply FsAt.head; exact hr5; apply LW.v0; rfl; rfl; apply ValP.lenR; rfl; infer_instance; rfl; apply LW.v0; rfl; rfl; apply ValP.gtr; rfl; rfl; apply LW.nil; refine thenN ?_; refine CW.condD rfl (fun hsq hsp => ?_) (fun hsq hsp => ?_); refine CW.seq ?_; refine CW.region ?_; apply LW.v0; rfl; rfl; apply ValP.fieldAddr; rfl; rfl; apply LW.load; rfl; rfl; apply Known.at; apply FsAt.head; exact hr5; apply LW.callE; rfl; rfl; infer_instance; apply ArgsOk.cons; rfl; exact ArgsOk.nil; intro w _; exact hA w (by assumption); apply LW.v0; rfl; rfl; apply ValP.move; rfl; apply LW.v0; rfl; rfl; apply ValP.extractN; rfl; rfl; apply LW.v0; rfl; rfl; apply ValP.extractN; rfl; rfl; apply LW.v0; rfl; rfl; apply ValP.assign; rfl; apply LW.v0; rfl; rfl; apply ValP.assign; rfl; apply LW.nil; refine thenN ?_; refine CW.region ?_; apply LW.v0; rfl; rfl; apply ValP.move; rfl; apply LW.v0; rfl; rfl; apply ValP.move; rfl; refine LW.guardDT rfl rfl rfl (fun hsq hsp => ?_) (fun hsq hsp => ?_); apply LW.v0; rfl; rfl; apply ValP.move; rfl; apply LW.guardT'; rfl; rfl; (with_reducible assumption); apply LW.v0; rfl; rfl; apply ValP.eqF; rfl; rfl; omega; apply LW.v0; rfl; rfl; apply ValP.pickT'; rfl; (with_reducible assumption); rfl; apply LW.v0; rfl; rfl; apply ValP.move; rfl; apply LW.guardF'; rfl; rfl; simp only [Bool.not_true, Bool.not_false]; rfl; apply LW.guardF'; rfl; rfl; simp only [Bool.not_true, Bool.not_false]; rfl; apply LW.v0; rfl; rfl; apply ValP.pickF'; rfl; (with_reducible rfl); rfl; apply LW.v0; rfl; rfl; apply ValP.assign; rfl; apply LW.nil; refine thenN ?_; refine CW.seq ?_; refine CW.seq ?_; refine CW.region ?_; apply LW.v0; rfl; rfl; apply ValP.move; rfl; apply LW.v0; rfl; rfl; apply ValP.notF; rfl; (with_reducible rfl); apply LW.nil; refine thenN ?_; apply CW.condT; rfl; (with_reducible rfl); refine CW.seq ?_; refine CW.region ?_; apply LW.v0; rfl; rfl; apply ValP.assign; rfl; apply LW.nil; refine thenN ?_; refine CW.ret ?_; refine thenR ?_; apply finR; exact .inl rfl; rfl; rfl; rfl; apply ResL.cons; exact Res.tmp rfl; exact ResL.nil; rw [hn (by omega)]; rfl; apply LW.guardF'; rfl; rfl; simp only [Bool.not_true, Bool.not_false]; (with_reducible assumption); rfl; apply LW.v0; rfl; rfl; apply ValP.pickF'; rfl; (with_reducible assumption); rfl; apply LW.v0; rfl; rfl; apply ValP.move; rfl; apply LW.guardF'; rfl; rfl; simp only [Bool.not_true, Bool.not_false]; rfl; apply LW.guardF'; rfl; rfl; simp only [Bool.not_true, Bool.not_false]; rfl; apply LW.v0; rfl; rfl; apply ValP.pickF'; rfl; (with_reducible rfl); rfl; apply LW.v0; rfl; rfl; apply ValP.assign; rfl; apply LW.nil; refine thenN ?_; refine CW.seq ?_; refine CW.seq ?_; refine CW.region ?_; apply LW.v0; rfl; rfl; apply ValP.move; rfl; apply LW.v0; rfl; rfl; apply ValP.notF; rfl; (with_reducible rfl); apply LW.nil; refine thenN ?_; apply CW.condT; rfl; (with_reducible rfl); refine CW.seq ?_; refine CW.region ?_; apply LW.v0; rfl; rfl; apply ValP.assign; rfl; apply LW.nil; refine thenN ?_; refine CW.ret ?_; refine thenR ?_; apply finR; exact .inl rfl; rfl; rfl; rfl; apply ResL.cons; exact Res.tmp rfl; exact ResL.nil; rw [hn (by omega)]; rfl; refine CW.skip ?_; refine thenN ?_; refine CW.seq ?_; refine CW.seq ?_; refine CW.region ?_; apply LW.v0; rfl; rfl; apply ValP.move; rfl; apply LW.v0; rfl; rfl; apply ValP.notB; rfl; apply LW.nil; refine thenN ?_; refine CW.condN rfl (fun hsq hsp => ?_) (fun hsq hsp => ?_); refine CW.seq ?_; refine CW.region ?_; apply LW.v0; rfl; rfl; apply ValP.assign; rfl; apply LW.nil; refine thenN ?_; refine CW.ret ?_; refine thenR ?_; apply finR; exact .inl rfl; rfl; rfl; rfl; apply ResL.cons; exact Res.tmp rfl; exact ResL.nil; rw [hn (by omega)]; rfl; refine CW.skip ?_; refine thenN ?_; refine CW.seq ?_; refine CW.region ?_; apply LW.v0; rfl; rfl; apply ValP.assign; rfl; apply LW.nil; refine thenN ?_; refine CW.ret ?_; apply finR; exact .inl rfl; rfl; rfl; rfl; apply ResL.cons; exact Res.tmp rfl; exact ResL.nil; rw [hp (by omega)]; rfl)
      · have hA : ∀ w' {fs}, St w [] fs w' → Calls Tryd.prog 22 #[.slice p5 u.ib.length c5] w' (Ret w' (.tuple #[.int .u64 (adr u.ib : Int), .int .i64 0])) := fun w' fs hst => aRead_calls u.ib _ w' (hi.st hst) hl
        (refine CW.seq ?_; refine CW.seq ?_; refine CW.region ?_; apply LW.v0; rfl; rfl; apply ValP.fieldAddr; rfl; rfl; apply LW.load; rfl; rfl; apply Known.at; apply FsAt.head; exact hr5; apply LW.v0; rfl; rfl; apply ValP.lenR; rfl; infer_instance; rfl; apply LW.v0; rfl; rfl; apply ValP.gtrT; rfl; rfl; omega; apply LW.nil; refine thenN ?_; apply CW.condT; rfl; (with_reducible rfl); refine CW.seq ?_; refine CW.region ?_; apply LW.v0; rfl; rfl; apply ValP.fieldAddr; rfl; rfl; apply LW.load; rfl; rfl; apply Known.at; apply FsAt.head; exact hr5; apply LW.callE; rfl; rfl; infer_instance; apply ArgsOk.cons; rfl; exact ArgsOk.nil; intro w _; exact hA w (by assumption); apply LW.v0; rfl; rfl; apply ValP.move; rfl; apply LW.v0; rfl; rfl; apply ValP.extractN; rfl; rfl; apply LW.v0; rfl; rfl; apply ValP.extractN; rfl; rfl; apply LW.v0; rfl; rfl; apply ValP.assign; rfl; apply LW.v0; rfl; rfl; apply ValP.assign; rfl; apply LW.nil; refine thenN ?_; refine CW.region ?_; apply LW.v0; rfl; rfl; apply ValP.move; rfl; apply LW.v0; rfl; rfl; apply ValP.move; rfl; refine LW.guardDT rfl rfl rfl (fun hsq hsp => ?_) (fun hsq hsp => ?_); apply LW.v0; rfl; rfl; apply ValP.move; rfl; apply LW.guardT'; rfl; rfl; (with_reducible assumption); apply LW.v0; rfl; rfl; apply ValP.eqT; rfl; rfl; omega; apply LW.v0; rfl; rfl; apply ValP.pickT'; rfl; (with_reducible assumption); rfl; apply LW.v0; rfl; rfl; apply ValP.move; rfl; apply LW.guardT'; rfl; rfl; (with_reducible rfl); apply LW.v0; rfl; rfl; apply ValP.move; rfl; apply LW.guardT'; rfl; rfl; (with_reducible rfl); apply LW.v0; rfl; rfl; apply ValP.ne; rfl; rfl; apply LW.v0; rfl; rfl; apply ValP.pickT'; rfl; (with_reducible rfl); rfl; apply LW.v0; rfl; rfl; apply ValP.assign; rfl; apply LW.nil; refine thenN ?_; refine CW.seq ?_; refine CW.seq ?_; refine CW.region ?_; apply LW.v0; rfl; rfl; apply ValP.move; rfl; apply LW.v0; rfl; rfl; apply ValP.notB; rfl; apply LW.nil; refine thenN ?_; refine CW.condM rfl (fun hsq hsp => ?_) (fun hsq hsp => ?_); refine CW.seq ?_; refine CW.region ?_; apply LW.v0; rfl; rfl; apply ValP.assign; rfl; apply LW.nil; refine thenN ?_; refine CW.ret ?_; refine thenR ?_; apply finR; exact .inl rfl; rfl; rfl; rfl; apply ResL.cons; exact Res.tmp rfl; exact ResL.nil; rw [hn (by omega)]; rfl; refine CW.skip ?_; refine thenN ?_; refine CW.seq ?_; refine CW.region ?_; apply LW.v0; rfl; rfl; apply ValP.assign; rfl; apply LW.nil; refine thenN ?_; refine CW.ret ?_; apply finR; exact .inl rfl; rfl; rfl; rfl; apply ResL.cons; exact Res.tmp rfl; exact ResL.nil; rw [hp (by omega)]; rfl; apply LW.guardF'; rfl; rfl; simp only [Bool.not_true, Bool.not_false]; (with_reducible assumption); rfl; apply LW.v0; rfl; rfl; apply ValP.pickF'; rfl; (with_reducible assumption); rfl; apply LW.v0; rfl; rfl; apply ValP.move; rfl; apply LW.guardF'; rfl; rfl; simp only [Bool.not_true, Bool.not_false]; rfl; apply LW.guardF'; rfl; rfl; simp only [Bool.not_true, Bool.not_false]; rfl; apply LW.v0; rfl; rfl; apply ValP.pickF'; rfl; (with_reducible rfl); rfl; apply LW.v0; rfl; rfl; apply ValP.assign; rfl; apply LW.nil; refine thenN ?_; refine CW.seq ?_; refine CW.seq ?_; refine CW.region ?_; apply LW.v0; rfl; rfl; apply ValP.move; rfl; apply LW.v0; rfl; rfl; apply ValP.notF; rfl; (with_reducible rfl); apply LW.nil; refine thenN ?_; apply CW.condT; rfl; (with_reducible rfl); refine CW.seq ?_; refine CW.region ?_; apply LW.v0; rfl; rfl; apply ValP.assign; rfl; apply LW.nil; refine thenN ?_; refine CW.ret ?_; refine thenR ?_; apply finR; exact .inl rfl; rfl; rfl; rfl; apply ResL.cons; exact Res.tmp rfl; exact ResL.nil; rw [hn (by omega)]; rfl)
    · (refine CW.condD rfl (fun hsq hsp => ?_) (fun hsq hsp => ?_); refine CW.region ?_; apply LW.v0; rfl; rfl; apply ValP.move; rfl; apply LW.v0; rfl; rfl; apply ValP.move; rfl; refine LW.guardDT rfl rfl rfl (fun hsq hsp => ?_) (fun hsq hsp => ?_); apply LW.v0; rfl; rfl; apply ValP.fieldAddr; rfl; rfl; apply LW.guardT'; rfl; rfl; (with_reducible assumption); apply LW.load; rfl; rfl; apply Known.at; apply FsAt.head; exact op_rd13; apply LW.guardT'; rfl; rfl; (with_reducible assumption); apply LW.v0; rfl; rfl; apply ValP.eq; rfl; rfl; apply LW.v0; rfl; rfl; apply ValP.pickT'; rfl; (with_reducible assumption); rfl; apply LW.v0; rfl; rfl; apply ValP.move; rfl; refine LW.guardDT rfl rfl rfl (fun hsq hsp => ?_) (fun hsq hsp => ?_); apply LW.v0; rfl; rfl; apply ValP.fieldAddr; rfl; rfl; apply LW.guardT'; rfl; rfl; (with_reducible assumption); apply LW.load; rfl; rfl; apply Known.at; apply FsAt.head; exact op_rd14; apply LW.guardT'; rfl; rfl; (with_reducible assumption); apply LW.v0; rfl; rfl; apply ValP.eq; rfl; rfl; apply LW.v0; rfl; rfl; apply ValP.pickT'; rfl; (with_reducible assumption); rfl; apply LW.v0; rfl; rfl; apply ValP.move; rfl; refine LW.guardDT rfl rfl rfl (fun hsq hsp => ?_) (fun hsq hsp => ?_); apply LW.v0; rfl; rfl; apply ValP.fieldAddr; rfl; rfl; apply LW.guardT'; rfl; rfl; (with_reducible assumption); apply LW.load; rfl; rfl; apply Known.at; apply FsAt.head; exact hr15; apply LW.guardT'; rfl; rfl; (with_reducible assumption); apply LW.v0; rfl; rfl; apply ValP.lenR; rfl; infer_instance; rfl; apply LW.guardT'; rfl; rfl; (with_reducible assumption); apply LW.v0; rfl; rfl; apply ValP.eq; rfl; rfl; apply LW.v0; rfl; rfl; apply ValP.pickT'; rfl; (with_reducible assumption); rfl; apply LW.v0; rfl; rfl; apply ValP.assign; rfl; apply LW.nil; refine cutI rfl ⟨getB rfl ?_, rfl, trivial⟩ ?_; exact decide_eq_decide.2 (by omega); exact List.Sublist.refl _; apply LW.guardF'; rfl; rfl; simp only [Bool.not_true, Bool.not_false]; (with_reducible assumption); rfl; apply LW.guardF'; rfl; rfl; simp only [Bool.not_true, Bool.not_false]; (with_reducible assumption); rfl; apply LW.guardF'; rfl; rfl; simp only [Bool.not_true, Bool.not_false]; (with_reducible assumption); rfl; apply LW.v0; rfl; rfl; apply ValP.pickF'; rfl; (with_reducible assumption); rfl; apply LW.v0; rfl; rfl; apply ValP.assign; rfl; apply LW.nil; refine cutI rfl ⟨getB rfl ?_, rfl, trivial⟩ ?_; exact (decide_eq_false (by omega)).symm; exact List.Sublist.refl _; apply LW.guardF'; rfl; rfl; simp only [Bool.not_true, Bool.not_false]; (with_reducible assumption); rfl; apply LW.guardF'; rfl; rfl; simp only [Bool.not_true, Bool.not_false]; (with_reducible assumption); rfl; apply LW.v0; rfl; rfl; apply ValP.pickF'; rfl; (with_reducible assumption); rfl; apply LW.v0; rfl; rfl; apply ValP.move; rfl; apply LW.guardF'; rfl; rfl; simp only [Bool.not_true, Bool.not_false]; rfl; apply LW.guardF'; rfl; rfl; simp only [Bool.not_true, Bool.not_false]; rfl; apply LW.guardF'; rfl; rfl; simp only [Bool.not_true, Bool.not_false]; rfl; apply LW.guardF'; rfl; rfl; simp only [Bool.not_true, Bool.not_false]; rfl; apply LW.v0; rfl; rfl; apply ValP.pickF'; rfl; (with_reducible rfl); rfl; apply LW.v0; rfl; rfl; apply ValP.assign; rfl; apply LW.nil; refine cutI rfl ⟨getB rfl ?_, rfl, trivial⟩ ?_; exact (decide_eq_false (by omega)).symm; exact List.Sublist.refl _; apply LW.guardF'; rfl; rfl; simp only [Bool.not_true, Bool.not_false]; (with_reducible assumption); rfl; apply LW.guardF'; rfl; rfl; simp only [Bool.not_true, Bool.not_false]; (with_reducible assumption); rfl; apply LW.v0; rfl; rfl; apply ValP.pickF'; rfl; (with_reducible assumption); rfl; apply LW.v0; rfl; rfl; apply ValP.move; rfl; apply LW.guardF'; rfl; rfl; simp only [Bool.not_true, Bool.not_false]; rfl; apply LW.guardF'; rfl; rfl; simp only [Bool.not_true, Bool.not_false]; rfl; apply LW.guardF'; rfl; rfl; simp only [Bool.not_true, Bool.not_false]; rfl; apply LW.v0; rfl; rfl; apply ValP.pickF'; rfl; (with_reducible rfl); rfl; apply LW.v0; rfl; rfl; apply ValP.move; rfl; apply LW.guardF'; rfl; rfl; simp only [Bool.not_true, Bool.not_false]; rfl; apply LW.guardF'; rfl; rfl; simp only [Bool.not_true, Bool.not_false]; rfl; apply LW.guardF'; rfl; rfl; simp only [Bool.not_true, Bool.not_false]; rfl; apply LW.guardF'; rfl; rfl; simp only [Bool.not_true, Bool.not_false]; rfl; apply LW.v0; rfl; rfl; apply ValP.pickF'; rfl; (with_reducible rfl); rfl; apply LW.v0; rfl; rfl; apply ValP.assign; rfl; apply LW.nil; refine cutI rfl ⟨getB rfl ?_, rfl, trivial⟩ ?_; exact (decide_eq_false (by omega)).symm; exact List.Sublist.refl _; refine CW.skip ?_; refine cutI rfl ⟨getB rfl ?_, rfl, trivial⟩ ?_; exact decide_eq_decide.2 (by omega); exact List.Sublist.refl _)
  · (refine LW.guardNT rfl rfl rfl (fun hsq hsp => ?_) (fun hsq hsp => ?_); apply LW.v0; rfl; rfl; apply ValP.fieldAddr; rfl; rfl; apply LW.guardT'; rfl; rfl; (with_reducible assumption); apply LW.load; rfl; rfl; apply Known.at; apply FsAt.tail; apply FsAt.head; exact op_rd11; apply LW.guardT'; rfl; rfl; (with_reducible assumption); apply LW.v0; rfl; rfl; apply ValP.fieldAddr; rfl; rfl; apply LW.guardT'; rfl; rfl; (with_reducible assumption); apply LW.load; rfl; rfl; apply Known.at; apply FsAt.tail; apply FsAt.head; exact op_rd10; apply LW.guardT'; rfl; rfl; (with_reducible assumption); apply LW.v0; rfl; rfl; apply ValP.leq; rfl; rfl; apply LW.v0; rfl; rfl; apply ValP.pickT'; rfl; (with_reducible assumption); rfl; apply LW.v0; rfl; rfl; apply ValP.move; rfl; refine LW.guardDT rfl rfl rfl (fun hsq hsp => ?_) (fun hsq hsp => ?_); apply LW.v0; rfl; rfl; apply ValP.move; rfl; apply LW.guardT'; rfl; rfl; (with_reducible assumption); apply LW.v0; rfl; rfl; apply ValP.leq; rfl; rfl; apply LW.v0; rfl; rfl; apply ValP.pickT'; rfl; (with_reducible assumption); rfl; apply LW.v0; rfl; rfl; apply ValP.move; rfl; refine LW.guardDT rfl rfl rfl (fun hsq hsp => ?_) (fun hsq hsp => ?_); apply LW.v0; rfl; rfl; apply ValP.move; rfl; apply LW.guardT'; rfl; rfl; (with_reducible assumption); apply LW.v0; rfl; rfl; apply ValP.leq; rfl; rfl; apply LW.v0; rfl; rfl; apply ValP.pickT'; rfl; (with_reducible assumption); rfl; apply LW.v0; rfl; rfl; apply ValP.assign; rfl; apply LW.nil; refine cutI rfl ⟨getB rfl ?_, rfl, trivial⟩ ?_; exact decide_eq_decide.2 (by omega); apply List.Sublist.cons; exact List.Sublist.refl _; apply LW.guardF'; rfl; rfl; simp only [Bool.not_true, Bool.not_false]; (with_reducible assumption); rfl; apply LW.v0; rfl; rfl; apply ValP.pickF'; rfl; (with_reducible assumption); rfl; apply LW.v0; rfl; rfl; apply ValP.assign; rfl; apply LW.nil; refine cutI rfl ⟨getB rfl ?_, rfl, trivial⟩ ?_; exact (decide_eq_false (by omega)).symm; apply List.Sublist.cons; exact List.Sublist.refl _; apply LW.guardF'; rfl; rfl; simp only [Bool.not_true, Bool.not_false]; (with_reducible assumption); rfl; apply LW.v0; rfl; rfl; apply ValP.pickF'; rfl; (with_reducible assumption); rfl; apply LW.v0; rfl; rfl; apply ValP.move; rfl; apply LW.guardF'; rfl; rfl; simp only [Bool.not_true, Bool.not_false]; rfl; apply LW.guardF'; rfl; rfl; simp only [Bool.not_true, Bool.not_false]; rfl; apply LW.v0; rfl; rfl; apply ValP.pickF'; rfl; (with_reducible rfl); rfl; apply LW.v0; rfl; rfl; apply ValP.assign; rfl; apply LW.nil; refine cutI rfl ⟨getB rfl ?_, rfl, trivial⟩ ?_; exact (decide_eq_false (by omega)).symm; apply List.Sublist.cons; exact List.Sublist.refl _; apply LW.guardF'; rfl; rfl; simp only [Bool.not_true, Bool.not_false]; (with_reducible assumption); rfl; apply LW.guardF'; rfl; rfl; simp only [Bool.not_true, Bool.not_false]; (with_reducible assumption); rfl; apply LW.guardF'; rfl; rfl; simp only [Bool.not_true, Bool.not_false]; (with_reducible assumption); rfl; apply LW.guardF'; rfl; rfl; simp only [Bool.not_true, Bool.not_false]; (with_reducible assumption); rfl; apply LW.v0; rfl; rfl; apply ValP.pickF'; rfl; (with_reducible assumption); rfl; apply LW.v0; rfl; rfl; apply ValP.move; rfl; apply LW.guardF'; rfl; rfl; simp only [Bool.not_true, Bool.not_false]; rfl; apply LW.guardF'; rfl; rfl; simp only [Bool.not_true, Bool.not_false]; rfl; apply LW.v0; rfl; rfl; apply ValP.pickF'; rfl; (with_reducible rfl); rfl; apply LW.v0; rfl; rfl; apply ValP.move; rfl; apply LW.guardF'; rfl; rfl; simp only [Bool.not_true, Bool.not_false]; rfl; apply LW.guardF'; rfl; rfl; simp only [Bool.not_true, Bool.not_false]; rfl; apply LW.v0; rfl; rfl; apply ValP.pickF'; rfl; (with_reducible rfl); rfl; apply LW.v0; rfl; rfl; apply ValP.assign; rfl; apply LW.nil; refine cutI rfl ⟨getB rfl ?_, rfl, trivial⟩ ?_; exact (decide_eq_false (by omega)).symm; apply List.Sublist.cons; exact List.Sublist.refl _)
end Go.Proofs.YtobkhnmglbfheaaDoor

/-
  Operations of accounts: which may be, by the document.
  Conditions: none.
-/
namespace Go.Proofs.YtobkhnmglbfheaaDoor
open Go Go.RowKit SL
set_option maxRecDepth 8000
set_option maxHeartbeats 4000000
set_option linter.unusedSimpArgs false
set_option linter.unusedVariables false
attribute [local irreducible] SL.CW SL.LW SL.DW Calls SL.Ret SL.RetG SL.beginQ SL.roundQ SL.rangeQ SL.inQ SL.RW SL.AnyW SL.thenQ SL.thenC SL.thenW SL.blkQ SL.finQ SL.ValP SL.NewP SL.SetP SL.CallP SL.Rd SL.Wr SL.Known
theorem rARead_calls (l : List UInt8) (v : Value) (w : World) (hv : RowAt w 1 v l.length (ucs l)) (hl : 8 ≤ l.length) : Calls Tryd.prog 19 #[v] w (Ret w (.int .u64 (adr l : Int))) := by
  obtain ⟨p, c, rfl, hc, hm⟩ := hv.form
  simp only [maxLen] at hm
  refine enter (args := [_]) _ [] [] Tryd.func19 rfl Tryd.ntmps19 rfl (by simp) .nil ?_
  (refine CW.seq ?_; refine CW.region ?_; apply LW.v0; rfl; rfl; apply ValP.assign; rfl; apply LW.nil; refine thenN ?_; refine CW.seq ?_; refine CW.region ?_; apply LW.v0; rfl; rfl; apply ValP.assign; rfl; apply LW.nil; refine thenN ?_; refine CW.seq ?_; refine CW.seq ?_; refine CW.region ?_; apply LW.v0; rfl; rfl; apply ValP.assign; rfl; apply LW.nil; refine thenN ?_; refine CW.block ?_)
  refine CW.loop (fun m : Nat => ([(4, .int .i64 (m : Int)), (3, .int .u64 (bev (l.take m) : Int)), (0, .slice p l.length c)], [])) (fun m => m ≤ 8) (fun m => 8 - m) 0 (Nat.zero_le _) ⟨rfl, rfl, rfl, trivial⟩ (List.nil_sublist _) ?_
  rintro m hm
  dsimp only at hm ⊢
  rcases Nat.lt_or_ge m 8 with hlt | hge
  · obtain ⟨b, off, c', cs, E, fr, heq, hb, hx⟩ := hv.pos (by omega)
    cases heq
    have hml : m < l.length := by omega
    obtain ⟨u, hu⟩ : ∃ u, u = l[m] := ⟨_, rfl⟩
    have hu8 := u.toNat_lt
    have hrd : Rd Tryd.prog 5 (.cells cs E fr) (off + m * 1) (.int .u8 (u.toNat : Int)) := Rd.elem1 hx (ucs_one l) (by rw [hu]; exact List.getElem?_eq_getElem hml) rfl
    have hb8 := bev8 (l := l) (m := m) (by omega)
    have hb7 : bev (l.take m) < 72057594037927936 := Nat.lt_of_lt_of_le hb8 (show 2 ^ (8 * m) ≤ 2 ^ 56 from Nat.pow_le_pow_right (by decide) (by omega))
    have hsh := bev_shift l m hml
    rw [← hu] at hsh
    obtain ⟨x, hx1⟩ : ∃ x, bev (l.take m) = x := ⟨_, rfl⟩
    rw [hx1] at hsh hb7 ⊢
    have e : x * 2 ^ 8 % 18446744073709551616 = x * 256 := Nat.mod_eq_of_lt (by omega)
    (refine CW.seq ?_; refine CW.seq ?_; refine CW.region ?_; apply LW.v0; rfl; rfl; apply ValP.move; rfl; apply LW.v0; rfl; rfl; apply ValP.lssT; rfl; rfl; omega; apply LW.nil; refine thenN ?_; apply CW.condT; rfl; (with_reducible rfl); refine CW.skip ?_; refine thenN ?_; refine CW.seq ?_; refine CW.block ?_; refine CW.region ?_; apply LW.v0; rfl; rfl; apply ValP.move; rfl; apply LW.v0; rfl; rfl; apply ValP.shlUL; rfl; rfl; decide; omega; apply LW.v0; rfl; rfl; apply ValP.move; rfl; apply LW.v0; rfl; rfl; apply ValP.move; rfl; apply LW.v0; rfl; rfl; apply ValP.indexAddrS; rfl; rfl; rfl; omega; apply LW.load; rfl; rfl; exact Known.ext (by assumption) (by simp); assumption; apply LW.v0; rfl; rfl; apply ValP.convN; rfl; omega; omega; apply LW.v0; rfl; rfl; apply ValP.orU; rfl; rfl; omega; omega; apply LW.v0; rfl; rfl; apply ValP.assign; rfl; apply LW.nil; refine blkN ?_; refine thenN ?_; refine CW.region ?_; apply LW.v0; rfl; rfl; apply ValP.move; rfl; apply LW.v0; rfl; rfl; apply ValP.addZL; rfl; rfl; decide; omega; apply LW.v0; rfl; rfl; apply ValP.assign; rfl; apply LW.nil)
    rw [e, hsh]
    apply thenX
    exact ⟨rfl, m + 1, hlt, by omega, ⟨rfl, rfl, rfl, trivial⟩, List.nil_sublist _⟩
  · obtain rfl : m = 8 := by omega
    (refine CW.seq ?_; refine CW.seq ?_; refine CW.region ?_; apply LW.v0; rfl; rfl; apply ValP.move; rfl; apply LW.v0; rfl; rfl; apply ValP.lssF; rfl; rfl; omega; apply LW.nil; refine thenN ?_; apply CW.condF; rfl; (with_reducible rfl); refine CW.exit ?_; refine thenE ?_; refine thenE ?_; refine blkE rfl ?_; refine thenN ?_; refine CW.seq ?_; refine CW.region ?_; apply LW.v0; rfl; rfl; apply ValP.move; rfl; apply LW.v0; rfl; rfl; apply ValP.assign; rfl; apply LW.nil; refine thenN ?_; refine CW.ret ?_)
    (apply finR; exact .inl rfl; rfl; rfl; rfl; apply ResL.cons; exact Res.tmp rfl; exact ResL.nil)
    rfl
theorem Right_calls (u : OpV) (w : World) (hu : OpAt w u) : Calls Tryd.prog 7 #[.agg (opa u)] w (Ret w (.bool (decide (okU u)))) := by
  obtain ⟨p5, c5, h5, _, _⟩ := hu.i.form
  obtain ⟨p6, c6, h6, _, _⟩ := hu.c.form
  obtain ⟨p15, c15, h15, _, _⟩ := hu.d.form
  obtain ⟨p16, c16, h16, _, _⟩ := hu.g.form
  have hr5 : ∀ {E fr}, Rd Tryd.prog 28 (.cells (opa u) E fr) 5 (.slice p5 u.ib.length c5) := fun {E fr} => by rw [← h5]; exact op_rd5
  have hr6 : ∀ {E fr}, Rd Tryd.prog 28 (.cells (opa u) E fr) 6 (.slice p6 u.cb.length c6) := fun {E fr} => by rw [← h6]; exact op_rd6
  have hr15 : ∀ {E fr}, Rd Tryd.prog 28 (.cells (opa u) E fr) 15 (.slice p15 u.db.length c15) := fun {E fr} => by rw [← h15]; exact op_rd15
  have hr16 : ∀ {E fr}, Rd Tryd.prog 28 (.cells (opa u) E fr) 16 (.slice p16 u.gb.length c16) := fun {E fr} => by rw [← h16]; exact op_rd16
  have hi := hu.i
  rw [h5] at hi
  clear h5 h6 h15 h16
  obtain ⟨B, hB⟩ : ∃ B : Bool, B = decide (okU u) := ⟨_, rfl⟩
  have hp : okU u → B = true := fun h => by rw [hB, decide_eq_true h]
  have hn : ¬ okU u → B = false := fun h => by rw [hB, decide_eq_false h]
  rw [← hB]
  clear hB
  unfold okU at hp hn
  refine enter (args := [_]) _ [] [] Tryd.func7 rfl Tryd.ntmps7 rfl (by simp) .nil ?_
  (refine CW.seq ?_; refine CW.region ?_; apply LW.boxA; rfl; rfl; intro _; apply LW.v0; rfl; rfl; apply ValP.assign; rfl; apply LW.nil; refine thenN ?_; refine CW.seq ?_; refine CW.seq ?_; refine CW.region ?_; apply LW.v0; rfl; rfl; apply ValP.fieldAddr; rfl; rfl; apply LW.load; rfl; rfl; apply Known.at; apply FsAt.head; exact op_rd0; apply LW.v0; rfl; rfl; apply ValP.lss; rfl; rfl; apply LW.v0; rfl; rfl; apply ValP.move; rfl)
  rename_i b1
  refine LW.cut [(16, .bool (decide (¬ (16 ≤ u.sd ∧ u.mp ≤ u.mf)))), (1, .pointer (some ⟨b1, 0, none⟩))] [(b1, .cells (opa u) 30 (0, 0))] ?_ ?_
  · refine CW.condD rfl (fun hsq hsp => ?_) (fun hsq hsp => ?_)
    · rw [hn (by omega)]
      (refine CW.seq ?_; refine CW.region ?_; apply LW.v0; rfl; rfl; apply ValP.assign; rfl; apply LW.nil; refine thenN ?_; refine CW.ret ?_; refine thenR ?_)
      (apply finR; exact .inl rfl; rfl; rfl; rfl; apply ResL.cons; exact Res.tmp rfl; exact ResL.nil)
      rfl
    (refine CW.skip ?_; refine thenN ?_; refine CW.seq ?_; refine CW.seq ?_; refine CW.region ?_; apply LW.v0; rfl; rfl; apply ValP.fieldAddr; rfl; rfl; apply LW.load; rfl; rfl; apply Known.at; apply FsAt.head; exact op_rd7; apply LW.v0; rfl; rfl; apply ValP.fieldAddr; rfl; rfl; apply LW.load; rfl; rfl; apply Known.at; apply FsAt.head; exact op_rd8; apply LW.v0; rfl; rfl; apply ValP.fieldAddr; rfl; rfl; apply LW.load; rfl; rfl; apply Known.at; apply FsAt.head; exact op_rd9; apply LW.v0; rfl; rfl; apply ValP.fieldAddr; rfl; rfl; apply LW.load; rfl; rfl; apply Known.at; apply FsAt.head; exact op_rd13; apply LW.v0; rfl; rfl; apply ValP.fieldAddr; rfl; rfl; apply LW.load; rfl; rfl; apply Known.at; apply FsAt.head; exact op_rd14)
    refine LW.n0 rfl rfl (NewP.buildSN (vs := [(0, .int .u64 (u.vg : Int)), (1, .int .u64 (u.cg : Int)), (2, .int .u64 (u.pg : Int)), (3, .int .u64 (u.pv : Int)), (4, .int .u64 (u.pp : Int))]) (c := #[.int .u64 (u.vg : Int), .int .u64 (u.cg : Int), .int .u64 (u.pg : Int), .int .u64 (u.pv : Int), .int .u64 (u.pp : Int)]) inferInstance inferInstance (by (apply PartsOk.cons; rfl; apply PartsOk.cons; rfl; apply PartsOk.cons; rfl; apply PartsOk.cons; rfl; apply PartsOk.cons; rfl; exact PartsOk.nil)) rfl rfl (by kernel_rfl) (by kernel_rfl)) fun g => ?_
    (apply LW.v0; rfl; rfl; apply ValP.lenR; rfl; infer_instance; rfl; apply LW.v0; rfl; rfl; apply ValP.move; rfl; apply LW.nil; refine thenN ?_; refine CW.block ?_)
    obtain ⟨L, hL⟩ : ∃ L, L = [u.vg, u.cg, u.pg, u.pv, u.pp] := ⟨_, rfl⟩
    have hLl : L.length = 5 := by rw [hL]; rfl
    have hcs : (#[.int .u64 (u.vg : Int), .int .u64 (u.cg : Int), .int .u64 (u.pg : Int), .int .u64 (u.pv : Int), .int .u64 (u.pp : Int)] : Array Value) = (ncs L).toArray := by rw [hL]; rfl
    rw [hcs]
    refine CW.loop (fun m : Nat => ([(29, .int .i64 (m : Int)), (28, .int .i64 5), (27, .slice (some ⟨g, 0, none⟩) 5 5), (1, .pointer (some ⟨b1, 0, none⟩))], [(g, .cells (ncs L).toArray 23 (0, 0)), (b1, .cells (opa u) 30 (0, 0))]))
      (fun m => m ≤ 5 ∧ ∀ j (_ : j < m) (h : j < L.length), L[j] ≤ 20000) (fun m => 5 - m) 0 ⟨Nat.zero_le _, fun j h => by omega⟩ ⟨rfl, rfl, rfl, rfl, trivial⟩ (List.Sublist.refl _) ?_
    rintro m ⟨hm, hall⟩
    dsimp only at hm hall ⊢
    rcases Nat.lt_or_ge m 5 with hlt | hge
    · have hml : m < L.length := by omega
      have hrd : Rd Tryd.prog 23 (.cells (ncs L).toArray 23 (0, 0)) (0 + m * 1) (.int .u64 ((L[m] : Nat) : Int)) := Rd.elem1 (m := (ncs L).length) (by rw [List.drop_zero, List.toList_toArray, List.take_length]; rfl) (ncs_one L) (List.getElem?_eq_getElem hml) rfl
      rcases Nat.lt_or_ge 20000 L[m] with h2 | h2
      · have hno : B = false := hn (fun h => by
          have hm' : L[m] ∈ L := List.getElem_mem hml
          obtain ⟨x, hx⟩ : ∃ x, L[m] = x := ⟨_, rfl⟩
          rw [hx, hL] at hm'
          simp only [List.mem_cons, List.not_mem_nil, or_false] at hm'
          omega)
        rw [hno]
        (refine CW.seq ?_; refine CW.region ?_; apply LW.v0; rfl; rfl; apply ValP.lssT; rfl; rfl; omega; apply LW.nil; refine thenN ?_; refine CW.seq ?_; apply CW.condT; rfl; (with_reducible rfl); refine CW.skip ?_; refine thenN ?_; refine CW.seq ?_; refine CW.block ?_; refine CW.seq ?_; refine CW.region ?_; apply LW.v0; rfl; rfl; apply ValP.indexAddrS; rfl; rfl; rfl; omega; apply LW.load; rfl; rfl; apply Known.at; apply FsAt.head; assumption; apply LW.v0; rfl; rfl; apply ValP.assign; rfl; apply LW.nil; refine thenN ?_; refine CW.seq ?_; refine CW.region ?_; apply LW.v0; rfl; rfl; apply ValP.move; rfl; apply LW.v0; rfl; rfl; apply ValP.gtrT; rfl; rfl; omega; apply LW.nil; refine thenN ?_; apply CW.condT; rfl; (with_reducible rfl); refine CW.seq ?_; refine CW.region ?_; apply LW.v0; rfl; rfl; apply ValP.assign; rfl; apply LW.nil; refine thenN ?_; refine CW.ret ?_; refine blkR ?_; refine thenR ?_; refine thenR ?_; refine blkR ?_; refine thenR ?_)
        (apply finR; exact .inl rfl; rfl; rfl; rfl; apply ResL.cons; exact Res.tmp rfl; exact ResL.nil)
        rfl
      · (refine CW.seq ?_; refine CW.region ?_; apply LW.v0; rfl; rfl; apply ValP.lssT; rfl; rfl; omega; apply LW.nil; refine thenN ?_; refine CW.seq ?_; apply CW.condT; rfl; (with_reducible rfl); refine CW.skip ?_; refine thenN ?_; refine CW.seq ?_; refine CW.block ?_; refine CW.seq ?_; refine CW.region ?_; apply LW.v0; rfl; rfl; apply ValP.indexAddrS; rfl; rfl; rfl; omega; apply LW.load; rfl; rfl; apply Known.at; apply FsAt.head; assumption; apply LW.v0; rfl; rfl; apply ValP.assign; rfl; apply LW.nil; refine thenN ?_; refine CW.seq ?_; refine CW.region ?_; apply LW.v0; rfl; rfl; apply ValP.move; rfl; apply LW.v0; rfl; rfl; apply ValP.gtrF; rfl; rfl; omega; apply LW.nil; refine thenN ?_; apply CW.condF; rfl; (with_reducible rfl); refine CW.skip ?_; refine blkN ?_; refine thenN ?_; refine CW.region ?_; apply LW.v0; rfl; rfl; apply ValP.addZL; rfl; rfl; decide; omega; apply LW.v0; rfl; rfl; apply ValP.move; rfl; apply LW.nil)
        apply thenX
        refine ⟨rfl, m + 1, ⟨hlt, fun j hj hjl => ?_⟩, by omega, ⟨rfl, rfl, rfl, rfl, trivial⟩, List.Sublist.refl _⟩
        rcases Nat.lt_or_ge j m with hjm | hjm
        · exact hall j hjm hjl
        · obtain rfl : j = m := by omega
          exact h2
    · obtain rfl : m = 5 := by omega
      have hg5 : u.vg ≤ 20000 ∧ u.cg ≤ 20000 ∧ u.pg ≤ 20000 ∧ u.pv ≤ 20000 ∧ u.pp ≤ 20000 := by
        subst hL
        exact ⟨hall 0 (by decide) (by simp), hall 1 (by decide) (by simp), hall 2 (by decide) (by simp), hall 3 (by decide) (by simp), hall 4 (by decide) (by simp)⟩
      refine CW.drop [(b1, .cells (opa u) 30 (0, 0))] (List.Sublist.cons _ (List.Sublist.refl _)) ?_
      (refine CW.seq ?_; refine CW.region ?_; apply LW.v0; rfl; rfl; apply ValP.lssF; rfl; rfl; omega; apply LW.nil; refine thenN ?_; refine CW.seq ?_; apply CW.condF; rfl; (with_reducible rfl); refine CW.exit ?_; refine thenE ?_; refine thenE ?_; refine blkE rfl ?_; refine thenN ?_; refine CW.seq ?_; refine CW.seq ?_; refine CW.region ?_; apply LW.v0; rfl; rfl; apply ValP.fieldAddr; rfl; rfl; apply LW.load; rfl; rfl; apply Known.at; apply FsAt.head; exact hr5; apply LW.v0; rfl; rfl; apply ValP.fieldAddr; rfl; rfl; apply LW.load; rfl; rfl; apply Known.at; apply FsAt.head; exact hr6; apply LW.v0; rfl; rfl; apply ValP.fieldAddr; rfl; rfl; apply LW.load; rfl; rfl; apply Known.at; apply FsAt.head; exact hr15; apply LW.v0; rfl; rfl; apply ValP.fieldAddr; rfl; rfl; apply LW.load; rfl; rfl; apply Known.at; apply FsAt.head; exact hr16)
      refine LW.n0 rfl rfl (NewP.buildSN (vs := [(0, .slice p5 u.ib.length c5), (1, .slice p6 u.cb.length c6), (2, .slice p15 u.db.length c15), (3, .slice p16 u.gb.length c16)]) (c := #[.slice p5 u.ib.length c5, .slice p6 u.cb.length c6, .slice p15 u.db.length c15, .slice p16 u.gb.length c16]) inferInstance inferInstance (by (apply PartsOk.cons; rfl; apply PartsOk.cons; rfl; apply PartsOk.cons; rfl; apply PartsOk.cons; rfl; exact PartsOk.nil)) rfl rfl (by kernel_rfl) (by kernel_rfl)) fun g2 => ?_
      (apply LW.v0; rfl; rfl; apply ValP.lenR; rfl; infer_instance; rfl; apply LW.v0; rfl; rfl; apply ValP.move; rfl; apply LW.nil; refine thenN ?_; refine CW.block ?_)
      obtain ⟨L, hL⟩ : ∃ L : List (Option Addr × Nat × Nat), L = [(p5, u.ib.length, c5), (p6, u.cb.length, c6), (p15, u.db.length, c15), (p16, u.gb.length, c16)] := ⟨_, rfl⟩
      have hLl : L.length = 4 := by rw [hL]; rfl
      have hcs : (#[.slice p5 u.ib.length c5, .slice p6 u.cb.length c6, .slice p15 u.db.length c15, .slice p16 u.gb.length c16] : Array Value) = (L.flatMap fun x => [Value.slice x.1 x.2.1 x.2.2]).toArray := by rw [hL]; rfl
      rw [hcs]
      refine CW.loop (fun m : Nat => ([(46, .int .i64 (m : Int)), (45, .int .i64 4), (44, .slice (some ⟨g2, 0, none⟩) 4 4), (1, .pointer (some ⟨b1, 0, none⟩))], [(g2, .cells (L.flatMap fun x => [Value.slice x.1 x.2.1 x.2.2]).toArray 28 (0, 0)), (b1, .cells (opa u) 30 (0, 0))]))
        (fun m => m ≤ 4 ∧ ∀ j (_ : j < m) (h : j < L.length), L[j].2.1 ≤ 200) (fun m => 4 - m) 0 ⟨Nat.zero_le _, fun j h => by omega⟩ ⟨rfl, rfl, rfl, rfl, trivial⟩ (by (exact List.Sublist.refl _)) ?_
      rintro m ⟨hm, hall⟩
      dsimp only at hm hall ⊢
      rcases Nat.lt_or_ge m 4 with hlt | hge
      · have hml : m < L.length := by omega
        have hrd : Rd Tryd.prog 28 (.cells (L.flatMap fun x => [Value.slice x.1 x.2.1 x.2.2]).toArray 28 (0, 0)) (0 + m * 1) (.slice L[m].1 L[m].2.1 L[m].2.2) := Rd.elem1 (g := fun x : Option Addr × Nat × Nat => [Value.slice x.1 x.2.1 x.2.2]) (l := L) (m := (L.flatMap fun x => [Value.slice x.1 x.2.1 x.2.2]).length) (by rw [List.drop_zero, List.toList_toArray, List.take_length]) (fun _ _ => rfl) (List.getElem?_eq_getElem hml) rfl
        rcases Nat.lt_or_ge 200 L[m].2.1 with h2 | h2
        · have hno : B = false := hn (fun h => by
            have hm' : L[m] ∈ L := List.getElem_mem hml
            obtain ⟨x, hx⟩ : ∃ x, L[m] = x := ⟨_, rfl⟩
            rw [hx] at h2
            rw [hx, hL] at hm'
            simp only [List.mem_cons, List.not_mem_nil, or_false] at hm'
            rcases hm' with rfl | rfl | rfl | rfl <;> dsimp only at h2 <;> omega)
          rw [hno]
          (refine CW.seq ?_; refine CW.region ?_; apply LW.v0; rfl; rfl; apply ValP.lssT; rfl; rfl; omega; apply LW.nil; refine thenN ?_; refine CW.seq ?_; apply CW.condT; rfl; (with_reducible rfl); refine CW.skip ?_; refine thenN ?_; refine CW.seq ?_; refine CW.block ?_; refine CW.seq ?_; refine CW.region ?_; apply LW.v0; rfl; rfl; apply ValP.indexAddrS; rfl; rfl; rfl; omega; apply LW.load; rfl; rfl; apply Known.at; apply FsAt.head; assumption; apply LW.v0; rfl; rfl; apply ValP.assign; rfl; apply LW.nil; refine thenN ?_; refine CW.seq ?_; refine CW.region ?_; apply LW.v0; rfl; rfl; apply ValP.move; rfl; apply LW.v0; rfl; rfl; apply ValP.lenR; rfl; infer_instance; rfl; apply LW.v0; rfl; rfl; apply ValP.gtrT; rfl; rfl; omega; apply LW.nil; refine thenN ?_; apply CW.condT; rfl; (with_reducible rfl); refine CW.seq ?_; refine CW.region ?_; apply LW.v0; rfl; rfl; apply ValP.assign; rfl; apply LW.nil; refine thenN ?_; refine CW.ret ?_; refine blkR ?_; refine thenR ?_; refine thenR ?_; refine blkR ?_; refine thenR ?_)
          (apply finR; exact .inl rfl; rfl; rfl; rfl; apply ResL.cons; exact Res.tmp rfl; exact ResL.nil)
          rfl
        · (refine CW.seq ?_; refine CW.region ?_; apply LW.v0; rfl; rfl; apply ValP.lssT; rfl; rfl; omega; apply LW.nil; refine thenN ?_; refine CW.seq ?_; apply CW.condT; rfl; (with_reducible rfl); refine CW.skip ?_; refine thenN ?_; refine CW.seq ?_; refine CW.block ?_; refine CW.seq ?_; refine CW.region ?_; apply LW.v0; rfl; rfl; apply ValP.indexAddrS; rfl; rfl; rfl; omega; apply LW.load; rfl; rfl; apply Known.at; apply FsAt.head; assumption; apply LW.v0; rfl; rfl; apply ValP.assign; rfl; apply LW.nil; refine thenN ?_; refine CW.seq ?_; refine CW.region ?_; apply LW.v0; rfl; rfl; apply ValP.move; rfl; apply LW.v0; rfl; rfl; apply ValP.lenR; rfl; infer_instance; rfl; apply LW.v0; rfl; rfl; apply ValP.gtrF; rfl; rfl; omega; apply LW.nil; refine thenN ?_; apply CW.condF; rfl; (with_reducible rfl); refine CW.skip ?_; refine blkN ?_; refine thenN ?_; refine CW.region ?_; apply LW.v0; rfl; rfl; apply ValP.addZL; rfl; rfl; decide; omega; apply LW.v0; rfl; rfl; apply ValP.move; rfl; apply LW.nil)
          apply thenX
          refine ⟨rfl, m + 1, ⟨hlt, fun j hj hjl => ?_⟩, by omega, ⟨rfl, rfl, rfl, rfl, trivial⟩, List.Sublist.refl _⟩
          rcases Nat.lt_or_ge j m with hjm | hjm
          · exact hall j hjm hjl
          · obtain rfl : j = m := by omega
            exact h2
      · obtain rfl : m = 4 := by omega
        have hg4 : u.ib.length ≤ 200 ∧ u.cb.length ≤ 200 ∧ u.db.length ≤ 200 ∧ u.gb.length ≤ 200 := by
          subst hL
          exact ⟨hall 0 (by decide) (by simp), hall 1 (by decide) (by simp), hall 2 (by decide) (by simp), hall 3 (by decide) (by simp)⟩
        refine CW.drop [(b1, .cells (opa u) 30 (0, 0))] (List.Sublist.cons _ (List.Sublist.refl _)) ?_
        (refine CW.seq ?_; refine CW.region ?_; apply LW.v0; rfl; rfl; apply ValP.lssF; rfl; rfl; omega; apply LW.nil; refine thenN ?_; refine CW.seq ?_; apply CW.condF; rfl; (with_reducible rfl); refine CW.exit ?_; refine thenE ?_; refine thenE ?_; refine blkE rfl ?_; refine thenN ?_; refine CW.seq ?_; refine CW.seq ?_; refine CW.region ?_; apply LW.v0; rfl; rfl; apply ValP.fieldAddr; rfl; rfl; apply LW.load; rfl; rfl; apply Known.at; apply FsAt.head; exact op_rd12; apply LW.v0; rfl; rfl; apply ValP.eq; rfl; rfl; apply LW.v0; rfl; rfl; apply ValP.move; rfl)
        refine LW.cut [(72, .bool (decide (u.py = 0 ∧ ¬ (u.pv = 0 ∧ u.pp = 0 ∧ u.db.length = 0)))), (1, .pointer (some ⟨b1, 0, none⟩))] [(b1, .cells (opa u) 30 (0, 0))] ?_ ?_
        · refine CW.condD rfl (fun hsq hsp => ?_) (fun hsq hsp => ?_)
          · rw [hn (by omega)]
            (refine CW.seq ?_; refine CW.region ?_; apply LW.v0; rfl; rfl; apply ValP.assign; rfl; apply LW.nil; refine thenN ?_; refine CW.ret ?_; refine thenR ?_)
            (apply finR; exact .inl rfl; rfl; rfl; rfl; apply ResL.cons; exact Res.tmp rfl; exact ResL.nil)
            rfl
          rcases Nat.lt_or_ge u.ib.length 8 with hl | hl
          · rcases Nat.eq_zero_or_pos u.ib.length with h0 | h0
            · rw [hp (by omega)]
              (refine CW.skip ?_; refine thenN ?_; refine CW.seq ?_; refine CW.region ?_; apply LW.v0; rfl; rfl; apply ValP.fieldAddr; rfl; rfl; apply LW.load; rfl; rfl; apply Known.at; apply FsAt.head; exact hr5; apply LW.v0; rfl; rfl; apply ValP.lenR; rfl; infer_instance; rfl; apply LW.v0; rfl; rfl; apply ValP.eqT; rfl; rfl; omega; apply LW.v0; rfl; rfl; apply ValP.move; rfl; apply LW.guardF'; rfl; rfl; simp only [Bool.not_true, Bool.not_false]; rfl; apply LW.guardF'; rfl; rfl; simp only [Bool.not_true, Bool.not_false]; rfl; apply LW.guardF'; rfl; rfl; simp only [Bool.not_true, Bool.not_false]; rfl; apply LW.guardF'; rfl; rfl; simp only [Bool.not_true, Bool.not_false]; rfl; apply LW.guardF'; rfl; rfl; simp only [Bool.not_true, Bool.not_false]; rfl; apply LW.guardU; rfl; rfl; rfl; apply LW.guardU; rfl; rfl; rfl; apply LW.guardU; rfl; rfl; rfl; apply LW.guardU; rfl; rfl; rfl; apply LW.guardF'; rfl; rfl; simp only [Bool.not_true, Bool.not_false]; rfl; apply LW.v0; rfl; rfl; apply ValP.pickT'; rfl; (with_reducible rfl); rfl; apply LW.v0; rfl; rfl; apply ValP.assign; rfl; apply LW.nil; refine thenN ?_; refine CW.ret ?_)
              (apply finR; exact .inl rfl; rfl; rfl; rfl; apply ResL.cons; exact Res.tmp rfl; exact ResL.nil)
              rfl
            · rw [hn (by omega)]
              (refine CW.skip ?_; refine thenN ?_; refine CW.seq ?_; refine CW.region ?_; apply LW.v0; rfl; rfl; apply ValP.fieldAddr; rfl; rfl; apply LW.load; rfl; rfl; apply Known.at; apply FsAt.head; exact hr5; apply LW.v0; rfl; rfl; apply ValP.lenR; rfl; infer_instance; rfl; apply LW.v0; rfl; rfl; apply ValP.eqF; rfl; rfl; omega; apply LW.v0; rfl; rfl; apply ValP.move; rfl; apply LW.guardT'; rfl; rfl; (with_reducible rfl); apply LW.v0; rfl; rfl; apply ValP.fieldAddr; rfl; rfl; apply LW.guardT'; rfl; rfl; (with_reducible rfl); apply LW.load; rfl; rfl; apply Known.at; apply FsAt.head; exact hr5; apply LW.guardT'; rfl; rfl; (with_reducible rfl); apply LW.v0; rfl; rfl; apply ValP.lenR; rfl; infer_instance; rfl; apply LW.guardT'; rfl; rfl; (with_reducible rfl); apply LW.v0; rfl; rfl; apply ValP.geqF; rfl; rfl; omega; apply LW.guardT'; rfl; rfl; (with_reducible rfl); apply LW.v0; rfl; rfl; apply ValP.move; rfl; apply LW.guardF'; rfl; rfl; simp only [Bool.not_true, Bool.not_false]; rfl; apply LW.guardF'; rfl; rfl; simp only [Bool.not_true, Bool.not_false]; rfl; apply LW.guardF'; rfl; rfl; simp only [Bool.not_true, Bool.not_false]; rfl; apply LW.guardF'; rfl; rfl; simp only [Bool.not_true, Bool.not_false]; rfl; apply LW.guardT'; rfl; rfl; (with_reducible rfl); apply LW.v0; rfl; rfl; apply ValP.pickF'; rfl; (with_reducible rfl); rfl; apply LW.v0; rfl; rfl; apply ValP.pickF'; rfl; (with_reducible rfl); rfl; apply LW.v0; rfl; rfl; apply ValP.assign; rfl; apply LW.nil; refine thenN ?_; refine CW.ret ?_)
              (apply finR; exact .inl rfl; rfl; rfl; rfl; apply ResL.cons; exact Res.tmp rfl; exact ResL.nil)
              rfl
          · have hA : ∀ w' {fs}, St w [] fs w' → Calls Tryd.prog 19 #[.slice p5 u.ib.length c5] w' (Ret w' (.int .u64 (adr u.ib : Int))) := fun w' fs hst => rARead_calls u.ib _ w' (hi.st hst) hl
            by_cases ha : adr u.ib = 0
            · rw [hn (by omega)]
              (refine CW.skip ?_; refine thenN ?_; refine CW.seq ?_; refine CW.region ?_; apply LW.v0; rfl; rfl; apply ValP.fieldAddr; rfl; rfl; apply LW.load; rfl; rfl; apply Known.at; apply FsAt.head; exact hr5; apply LW.v0; rfl; rfl; apply ValP.lenR; rfl; infer_instance; rfl; apply LW.v0; rfl; rfl; apply ValP.eqF; rfl; rfl; omega; apply LW.v0; rfl; rfl; apply ValP.move; rfl; apply LW.guardT'; rfl; rfl; (with_reducible rfl); apply LW.v0; rfl; rfl; apply ValP.fieldAddr; rfl; rfl; apply LW.guardT'; rfl; rfl; (with_reducible rfl); apply LW.load; rfl; rfl; apply Known.at; apply FsAt.head; exact hr5; apply LW.guardT'; rfl; rfl; (with_reducible rfl); apply LW.v0; rfl; rfl; apply ValP.lenR; rfl; infer_instance; rfl; apply LW.guardT'; rfl; rfl; (with_reducible rfl); apply LW.v0; rfl; rfl; apply ValP.geqT; rfl; rfl; omega; apply LW.guardT'; rfl; rfl; (with_reducible rfl); apply LW.v0; rfl; rfl; apply ValP.move; rfl; apply LW.guardT'; rfl; rfl; (with_reducible rfl); apply LW.v0; rfl; rfl; apply ValP.fieldAddr; rfl; rfl; apply LW.guardT'; rfl; rfl; (with_reducible rfl); apply LW.load; rfl; rfl; apply Known.at; apply FsAt.head; exact hr5; apply LW.guardT'; rfl; rfl; (with_reducible rfl); apply LW.callE; rfl; rfl; infer_instance; apply ArgsOk.cons; rfl; exact ArgsOk.nil; intro w _; exact hA w (by assumption); apply LW.guardT'; rfl; rfl; (with_reducible rfl); apply LW.v0; rfl; rfl; apply ValP.neF; rfl; rfl; omega; apply LW.guardT'; rfl; rfl; (with_reducible rfl); apply LW.v0; rfl; rfl; apply ValP.pickT'; rfl; (with_reducible rfl); rfl; apply LW.v0; rfl; rfl; apply ValP.pickF'; rfl; (with_reducible rfl); rfl; apply LW.v0; rfl; rfl; apply ValP.assign; rfl; apply LW.nil; refine thenN ?_; refine CW.ret ?_)
              (apply finR; exact .inl rfl; rfl; rfl; rfl; apply ResL.cons; exact Res.tmp rfl; exact ResL.nil)
              rfl
            · rw [hp (by omega)]
              (refine CW.skip ?_; refine thenN ?_; refine CW.seq ?_; refine CW.region ?_; apply LW.v0; rfl; rfl; apply ValP.fieldAddr; rfl; rfl; apply LW.load; rfl; rfl; apply Known.at; apply FsAt.head; exact hr5; apply LW.v0; rfl; rfl; apply ValP.lenR; rfl; infer_instance; rfl; apply LW.v0; rfl; rfl; apply ValP.eqF; rfl; rfl; omega; apply LW.v0; rfl; rfl; apply ValP.move; rfl; apply LW.guardT'; rfl; rfl; (with_reducible rfl); apply LW.v0; rfl; rfl; apply ValP.fieldAddr; rfl; rfl; apply LW.guardT'; rfl; rfl; (with_reducible rfl); apply LW.load; rfl; rfl; apply Known.at; apply FsAt.head; exact hr5; apply LW.guardT'; rfl; rfl; (with_reducible rfl); apply LW.v0; rfl; rfl; apply ValP.lenR; rfl; infer_instance; rfl; apply LW.guardT'; rfl; rfl; (with_reducible rfl); apply LW.v0; rfl; rfl; apply ValP.geqT; rfl; rfl; omega; apply LW.guardT'; rfl; rfl; (with_reducible rfl); apply LW.v0; rfl; rfl; apply ValP.move; rfl; apply LW.guardT'; rfl; rfl; (with_reducible rfl); apply LW.v0; rfl; rfl; apply ValP.fieldAddr; rfl; rfl; apply LW.guardT'; rfl; rfl; (with_reducible rfl); apply LW.load; rfl; rfl; apply Known.at; apply FsAt.head; exact hr5; apply LW.guardT'; rfl; rfl; (with_reducible rfl); apply LW.callE; rfl; rfl; infer_instance; apply ArgsOk.cons; rfl; exact ArgsOk.nil; intro w _; exact hA w (by assumption); apply LW.guardT'; rfl; rfl; (with_reducible rfl); apply LW.v0; rfl; rfl; apply ValP.neT; rfl; rfl; omega; apply LW.guardT'; rfl; rfl; (with_reducible rfl); apply LW.v0; rfl; rfl; apply ValP.pickT'; rfl; (with_reducible rfl); rfl; apply LW.v0; rfl; rfl; apply ValP.pickF'; rfl; (with_reducible rfl); rfl; apply LW.v0; rfl; rfl; apply ValP.assign; rfl; apply LW.nil; refine thenN ?_; refine CW.ret ?_)
              (apply finR; exact .inl rfl; rfl; rfl; rfl; apply ResL.cons; exact Res.tmp rfl; exact ResL.nil)
              rfl
        · (refine LW.guardDT rfl rfl rfl (fun hsq hsp => ?_) (fun hsq hsp => ?_); apply LW.v0; rfl; rfl; apply ValP.fieldAddr; rfl; rfl; apply LW.guardT'; rfl; rfl; (with_reducible assumption); apply LW.load; rfl; rfl; apply Known.at; apply FsAt.head; exact op_rd13; apply LW.guardT'; rfl; rfl; (with_reducible assumption); apply LW.v0; rfl; rfl; apply ValP.gtr; rfl; rfl; apply LW.guardT'; rfl; rfl; (with_reducible assumption); apply LW.v0; rfl; rfl; apply ValP.move; rfl; refine LW.guardDF rfl rfl rfl (fun hsq hsp => ?_) (fun hsq hsp => ?_); apply LW.v0; rfl; rfl; apply ValP.fieldAddr; rfl; rfl; apply LW.guardT'; rfl; rfl; (with_reducible assumption); apply LW.load; rfl; rfl; apply Known.at; apply FsAt.head; exact op_rd14; apply LW.guardT'; rfl; rfl; (with_reducible assumption); apply LW.v0; rfl; rfl; apply ValP.gtr; rfl; rfl; apply LW.guardT'; rfl; rfl; (with_reducible assumption); apply LW.v0; rfl; rfl; apply ValP.pickF'; rfl; (with_reducible assumption); rfl; apply LW.guardT'; rfl; rfl; (with_reducible assumption); apply LW.v0; rfl; rfl; apply ValP.move; rfl; refine LW.guardDF rfl rfl rfl (fun hsq hsp => ?_) (fun hsq hsp => ?_); apply LW.v0; rfl; rfl; apply ValP.fieldAddr; rfl; rfl; apply LW.guardT'; rfl; rfl; (with_reducible assumption); apply LW.load; rfl; rfl; apply Known.at; apply FsAt.head; exact hr15; apply LW.guardT'; rfl; rfl; (with_reducible assumption); apply LW.v0; rfl; rfl; apply ValP.lenR; rfl; infer_instance; rfl; apply LW.guardT'; rfl; rfl; (with_reducible assumption); apply LW.v0; rfl; rfl; apply ValP.gtr; rfl; rfl; apply LW.guardT'; rfl; rfl; (with_reducible assumption); apply LW.v0; rfl; rfl; apply ValP.pickF'; rfl; (with_reducible assumption); rfl; apply LW.v0; rfl; rfl; apply ValP.pickT'; rfl; (with_reducible assumption); rfl; apply LW.nil; refine cutI rfl ⟨getB rfl ?_, rfl, trivial⟩ ?_; exact decide_eq_decide.2 (by omega); exact List.Sublist.refl _; apply LW.guardF'; rfl; rfl; simp only [Bool.not_true, Bool.not_false]; (with_reducible assumption); rfl; apply LW.guardF'; rfl; rfl; simp only [Bool.not_true, Bool.not_false]; (with_reducible assumption); rfl; apply LW.guardF'; rfl; rfl; simp only [Bool.not_true, Bool.not_false]; (with_reducible assumption); rfl; apply LW.guardT'; rfl; rfl; (with_reducible assumption); apply LW.v0; rfl; rfl; apply ValP.pickT'; rfl; (with_reducible assumption); rfl; apply LW.v0; rfl; rfl; apply ValP.pickT'; rfl; (with_reducible assumption); rfl; apply LW.nil; refine cutI rfl ⟨getB rfl ?_, rfl, trivial⟩ ?_; exact (decide_eq_true (by omega)).symm; exact List.Sublist.refl _; apply LW.guardF'; rfl; rfl; simp only [Bool.not_true, Bool.not_false]; (with_reducible assumption); rfl; apply LW.guardF'; rfl; rfl; simp only [Bool.not_true, Bool.not_false]; (with_reducible assumption); rfl; apply LW.guardT'; rfl; rfl; (with_reducible assumption); apply LW.v0; rfl; rfl; apply ValP.pickT'; rfl; (with_reducible assumption); rfl; apply LW.guardT'; rfl; rfl; (with_reducible assumption); apply LW.v0; rfl; rfl; apply ValP.move; rfl; apply LW.guardF'; rfl; rfl; simp only [Bool.not_true, Bool.not_false]; rfl; apply LW.guardF'; rfl; rfl; simp only [Bool.not_true, Bool.not_false]; rfl; apply LW.guardF'; rfl; rfl; simp only [Bool.not_true, Bool.not_false]; rfl; apply LW.guardF'; rfl; rfl; simp only [Bool.not_true, Bool.not_false]; rfl; apply LW.guardT'; rfl; rfl; (with_reducible assumption); apply LW.v0; rfl; rfl; apply ValP.pickT'; rfl; (with_reducible rfl); rfl; apply LW.v0; rfl; rfl; apply ValP.pickT'; rfl; (with_reducible assumption); rfl; apply LW.nil; refine cutI rfl ⟨getB rfl ?_, rfl, trivial⟩ ?_; exact (decide_eq_true (by omega)).symm; exact List.Sublist.refl _; apply LW.guardF'; rfl; rfl; simp only [Bool.not_true, Bool.not_false]; (with_reducible assumption); rfl; apply LW.guardF'; rfl; rfl; simp only [Bool.not_true, Bool.not_false]; (with_reducible assumption); rfl; apply LW.guardF'; rfl; rfl; simp only [Bool.not_true, Bool.not_false]; (with_reducible assumption); rfl; apply LW.guardU; rfl; rfl; rfl; apply LW.guardU; rfl; rfl; rfl; apply LW.guardU; rfl; rfl; rfl; apply LW.guardF'; rfl; rfl; simp only [Bool.not_true, Bool.not_false]; (with_reducible assumption); rfl; apply LW.guardF'; rfl; rfl; simp only [Bool.not_true, Bool.not_false]; (with_reducible assumption); rfl; apply LW.guardU; rfl; rfl; rfl; apply LW.guardU; rfl; rfl; rfl; apply LW.guardU; rfl; rfl; rfl; apply LW.guardU; rfl; rfl; rfl; apply LW.guardF'; rfl; rfl; simp only [Bool.not_true, Bool.not_false]; (with_reducible assumption); rfl; apply LW.v0; rfl; rfl; apply ValP.pickF'; rfl; (with_reducible assumption); rfl; apply LW.nil; refine cutI rfl ⟨getB rfl ?_, rfl, trivial⟩ ?_; exact (decide_eq_false (by omega)).symm; exact List.Sublist.refl _)
  · (refine LW.guardDF rfl rfl rfl (fun hsq hsp => ?_) (fun hsq hsp => ?_); apply LW.v0; rfl; rfl; apply ValP.fieldAddr; rfl; rfl; apply LW.guardT'; rfl; rfl; (with_reducible assumption); apply LW.load; rfl; rfl; apply Known.at; apply FsAt.head; exact op_rd11; apply LW.guardT'; rfl; rfl; (with_reducible assumption); apply LW.v0; rfl; rfl; apply ValP.fieldAddr; rfl; rfl; apply LW.guardT'; rfl; rfl; (with_reducible assumption); apply LW.load; rfl; rfl; apply Known.at; apply FsAt.head; exact op_rd10; apply LW.guardT'; rfl; rfl; (with_reducible assumption); apply LW.v0; rfl; rfl; apply ValP.gtr; rfl; rfl; apply LW.v0; rfl; rfl; apply ValP.pickF'; rfl; (with_reducible assumption); rfl; apply LW.nil; refine cutI rfl ⟨getB rfl ?_, rfl, trivial⟩ ?_; exact decide_eq_decide.2 (by omega); exact List.Sublist.refl _; apply LW.guardF'; rfl; rfl; simp only [Bool.not_true, Bool.not_false]; (with_reducible assumption); rfl; apply LW.guardF'; rfl; rfl; simp only [Bool.not_true, Bool.not_false]; (with_reducible assumption); rfl; apply LW.guardF'; rfl; rfl; simp only [Bool.not_true, Bool.not_false]; (with_reducible assumption); rfl; apply LW.guardF'; rfl; rfl; simp only [Bool.not_true, Bool.not_false]; (with_reducible assumption); rfl; apply LW.v0; rfl; rfl; apply ValP.pickT'; rfl; (with_reducible assumption); rfl; apply LW.nil; refine cutI rfl ⟨getB rfl ?_, rfl, trivial⟩ ?_; exact (decide_eq_true (by omega)).symm; exact List.Sublist.refl _)
end Go.Proofs.YtobkhnmglbfheaaDoor
