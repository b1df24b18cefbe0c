/-
  Texts that were built apart, put behind one another (3 of 6): G2 G3 G4 G5 G6 G8 G9 G14 W14 W15 W16 W17 W18 W19 W20 W22 W23 W26 P0 P1 P2 P3 P4 P5 P6 P7 P8 P9 PA PB PC PD PE U1 U2 U3 N3 K6 K7 K8 K1 K2 K3 K4 K5 K9 KA KB KD N4 N5 N6 Smx N7 N8 C1 C2 C3 C4 C5 C6 C7 N9 NA NB NC ND NE.
  Conditions: none.
-/
import Derived.Test.YtpgdnfgjbhdbpaaGreatDoorZ2
import Derived.Lib.Mul64
import Derived.Laws.Externs
import Derived.Lib.BytesEntry
import Derived.Lib.Bytealg
/-
  The operation of a byte: contracts.
  Conditions: none.
-/
namespace Go.Proofs.YtpgdnfgjbhdbpaaGreatDoor
open Go Go.RowKit SL
set_option maxRecDepth 8000
set_option maxHeartbeats 4000000
set_option linter.unusedSimpArgs false
set_option linter.unusedVariables false
attribute [local irreducible] SL.CW SL.LW SL.DW Calls SL.Ret SL.RetG SL.beginQ SL.roundQ SL.rangeQ SL.inQ SL.RW SL.AnyW SL.thenQ SL.thenC SL.thenW SL.blkQ SL.finQ SL.ValP SL.NewP SL.SetP SL.CallP SL.Rd SL.Wr SL.Known
theorem Of1_calls (x : OpV) (k bb : Nat) (E : TypeId) (fr : Nat × Nat) (w : World) (hb : w.heap[bb]? = some (.cells #[.int .u8 (k : Int)] E fr)) : Calls Tryz.prog 133 #[.agg (opc x), .pointer (some ⟨bb, 0, none⟩)] w (Ret w (.bool (decide (x.c = k)))) := by
  refine enter (args := [_, _]) _ [] [] Tryz.func133 rfl Tryz.ntmps133 rfl (by simp) .nil ?_
  (refine CW.seq ?_; refine CW.region ?_; apply LW.boxA; rfl; rfl; intro _; apply LW.v0; rfl; rfl; apply ValP.assign; rfl; apply LW.nil; refine thenN ?_; refine CW.seq ?_; refine CW.region ?_; apply LW.v0; rfl; rfl; apply ValP.fieldAddr; rfl; rfl; apply LW.load; rfl; rfl; apply Known.at; apply FsAt.head; exact Rd.one' rfl; apply LW.load; rfl; rfl; exact Known.ext (by assumption) (by simp); exact Rd.one' rfl; apply LW.v0; rfl; rfl; apply ValP.eq; rfl; rfl; apply LW.v0; rfl; rfl; apply ValP.assign; rfl; apply LW.nil; refine thenN ?_; refine CW.ret ?_)
  (apply finR; exact .inl rfl; rfl; rfl; rfl; apply ResL.cons; exact Res.tmp rfl; exact ResL.nil)
  exact congrArg Value.bool (decide_eq_decide.2 Int.natCast_inj)
/-- The place of the first operation of that byte. -/
def idxOf (l : List OpV) (k : Nat) : Int := match l.findIdx? (fun x => x.c == k) with
  | some i => (i : Int)
  | none => -1
theorem idxOf_hit {l : List OpV} {k m : Nat} (hm : m < l.length) (h : ∀ i (hi : i < m), l[i].c ≠ k) (he : l[m].c = k) : idxOf l k = (m : Int) := by
  unfold idxOf
  rw [List.findIdx?_eq_some_iff_getElem.2 ⟨hm, by simpa using he, fun i hi => by simpa using h i hi⟩]
theorem idxOf_miss {l : List OpV} {k : Nat} (h : ∀ i (hi : i < l.length), l[i].c ≠ k) : idxOf l k = -1 := by
  unfold idxOf
  rw [List.findIdx?_eq_none_iff.2 fun x hx => by obtain ⟨i, hi, rfl⟩ := List.getElem_of_mem hx; simpa using h i hi]
theorem IndexFunc_calls (l : List OpV) (k : Nat) (v : Value) (bb : Nat) (E : TypeId) (fr : Nat × Nat) (w : World) (hv : RowAt w 5 v l.length (opcs l)) (hb : w.heap[bb]? = some (.cells #[.int .u8 (k : Int)] E fr)) :
    Calls Tryz.prog 131 #[v, .func (.func 133) #[] #[.pointer (some ⟨bb, 0, none⟩)]] w (Ret w (.int .i64 (idxOf l k))) := by
  obtain ⟨p, c, rfl, hc, hm⟩ := hv.form
  simp only [maxLen] at hm
  refine enter (args := [_, _]) _ [] [] Tryz.func131 rfl Tryz.ntmps131 rfl (by simp) .nil ?_
  (refine CW.seq ?_; refine CW.region ?_; apply LW.v0; rfl; rfl; apply ValP.assign; rfl; apply LW.nil; refine thenN ?_; refine CW.seq ?_; refine CW.seq ?_; refine CW.region ?_; apply LW.v0; rfl; rfl; apply ValP.move; rfl; apply LW.v0; rfl; rfl; apply ValP.lenR; rfl; infer_instance; rfl; apply LW.v0; rfl; rfl; apply ValP.move; rfl; apply LW.nil; refine thenN ?_; refine CW.block ?_)
  refine CW.loop (fun m : Nat => ([(8, .int .i64 (m : Int)), (7, .int .i64 (l.length : Int)), (0, .slice p l.length c), (1, .func (.func 133) #[] #[.pointer (some ⟨bb, 0, none⟩)])], []))
    (fun m => m ≤ l.length ∧ ∀ i (hi : i < m) (hl : i < l.length), l[i].c ≠ k) (fun m => l.length - m) 0 ⟨Nat.zero_le _, fun i hi => by omega⟩ ⟨rfl, rfl, rfl, rfl, trivial⟩ (List.Sublist.refl _) ?_
  rintro m ⟨hml, hall⟩
  dsimp only
  rcases Nat.lt_or_ge m l.length with hlt | hge
  · obtain ⟨b, off, c', cs, E', fr', heq, hbk, hx⟩ := hv.pos (by omega)
    cases heq
    have hrd : Rd Tryz.prog 136 (.cells cs E' fr') (off + m * 5) (.agg (opc l[m])) := Rd.elemA (g := opl) (l := l) (a := l[m]) hx (opl_len l) (List.getElem?_eq_getElem hlt)
    (refine CW.seq ?_; refine CW.region ?_; apply LW.v0; rfl; rfl; apply ValP.lssT; rfl; rfl; omega; apply LW.nil; refine thenN ?_; refine CW.seq ?_; apply CW.condT; rfl; (with_reducible rfl); refine CW.skip ?_; refine thenN ?_; refine CW.seq ?_; refine CW.block ?_; refine CW.seq ?_; refine CW.region ?_; apply LW.v0; rfl; rfl; apply ValP.move; rfl; apply LW.v0; rfl; rfl; apply ValP.assign; rfl; apply LW.nil; refine thenN ?_; refine CW.seq ?_; refine CW.region ?_; apply LW.v0; rfl; rfl; apply ValP.move; rfl; apply LW.v0; rfl; rfl; apply ValP.move; rfl; apply LW.v0; rfl; rfl; apply ValP.move; rfl; apply LW.v0; rfl; rfl; apply ValP.indexAddrS; rfl; rfl; rfl; omega; apply LW.load; rfl; rfl; exact Known.ext (by assumption) (by simp); assumption)
    apply LW.call
    rfl
    rfl
    infer_instance
    (apply ArgsOk.cons; rfl; exact ArgsOk.nil)
    · intro w' hs
      exact Of1_calls l[m] k bb E fr w' (by rw [hs.bel.block bb (Array.getElem?_eq_some_iff.1 hb).1 (by simp)]; exact hb)
    by_cases he : l[m].c = k
    · have hi := idxOf_hit hlt (fun i hi => hall i hi (by omega)) he
      rw [decide_eq_true he, hi]
      (apply LW.nil; refine thenN ?_; apply CW.condT; rfl; (with_reducible rfl); refine CW.seq ?_; refine CW.region ?_; apply LW.v0; rfl; rfl; apply ValP.move; rfl; apply LW.v0; rfl; rfl; apply ValP.assign; rfl; apply LW.nil; refine thenN ?_; refine CW.ret ?_; refine blkR ?_; refine thenR ?_; refine thenR ?_; refine blkR ?_; refine thenR ?_)
      (apply finR; exact .inl rfl; rfl; rfl; rfl; apply ResL.cons; exact Res.tmp rfl; exact ResL.nil)
      rfl
    · rw [decide_eq_false he]
      (apply LW.nil; refine thenN ?_; apply CW.condF; rfl; (with_reducible rfl); refine CW.skip ?_; refine blkN ?_; refine thenN ?_; refine CW.region ?_; apply LW.v0; rfl; rfl; apply ValP.addZL; rfl; rfl; decide; omega; apply LW.v0; rfl; rfl; apply ValP.move; rfl; apply LW.nil)
      apply thenX
      exact ⟨rfl, m + 1, ⟨hlt, fun i hi hl => by
        rcases Nat.lt_or_ge i m with h | h
        · exact hall i h hl
        · obtain rfl : i = m := by omega
          exact he⟩, by omega, ⟨rfl, rfl, rfl, rfl, trivial⟩, List.Sublist.refl _⟩
  · have hi := idxOf_miss (l := l) (k := k) fun i hi => hall i (by omega) hi
    rw [hi]
    (refine CW.seq ?_; refine CW.region ?_; apply LW.v0; rfl; rfl; apply ValP.lssF; rfl; rfl; omega; apply LW.nil; refine thenN ?_; refine CW.seq ?_; apply CW.condF; rfl; (with_reducible rfl); refine CW.exit ?_; refine thenE ?_; refine thenE ?_; refine blkE rfl ?_; refine thenN ?_; refine CW.seq ?_; refine CW.region ?_; apply LW.v0; rfl; rfl; apply ValP.assign; rfl; apply LW.nil; refine thenN ?_; refine CW.ret ?_)
    (apply finR; exact .inl rfl; rfl; rfl; rfl; apply ResL.cons; exact Res.tmp rfl; exact ResL.nil)
    rfl
end Go.Proofs.YtpgdnfgjbhdbpaaGreatDoor

/-
  What an operation costs in any case: contracts.
  Conditions: none.
-/
namespace Go.Proofs.YtpgdnfgjbhdbpaaGreatDoor
open Go Go.RowKit SL
set_option maxRecDepth 8000
set_option maxHeartbeats 4000000
set_option linter.unusedSimpArgs false
set_option linter.unusedVariables false
attribute [local irreducible] SL.CW SL.LW SL.DW Calls SL.Ret SL.RetG SL.beginQ SL.roundQ SL.rangeQ SL.inQ SL.RW SL.AnyW SL.thenQ SL.thenC SL.thenW SL.blkQ SL.finQ SL.ValP SL.NewP SL.SetP SL.CallP SL.Rd SL.Wr SL.Known
def zeroOp : OpV := ⟨0, [], 0, 0, 0⟩
def OfV (o : Option OpV) : Value := match o with
  | some x => .tuple #[.agg (opc x), .int .i64 0]
  | none => .tuple #[.agg (opc zeroOp), .int .i64 4]
theorem st_us {w0 w : World} {S : List Nat} {fs : Fs} (hs : St w0 S fs w) : ∀ p ∈ fs, w.heap[p.1]? = some p.2 := fun p hp => (hs.own p hp).2
theorem plain_rd (i : Nat) (hi : i < plainOps.length) {E : TypeId} {fr : Nat × Nat} : Rd Tryz.prog 136 (.cells (opcs plainOps).toArray E fr) (0 + i * 5) (.agg (opc plainOps[i])) :=
  Rd.elemA (g := opl) (l := plainOps) (a := plainOps[i]) (m := 250) (by rw [List.drop_zero]; exact List.take_of_length_le (by rw [List.toList_toArray, plain_len]; decide)) (opl_len _) (List.getElem?_eq_getElem hi)
theorem Of_op_calls (b : Nat) (hb : b < 256) (w : World) : Calls Tryz.prog 102 #[.int .u8 (b : Int)] w (Ret w (OfV (opOf b))) := by
  have hRow0 := row_calls b hb
  refine enter (args := [_]) _ [] [] Tryz.func102 rfl Tryz.ntmps102 rfl (by simp) .nil ?_
  cases hr : rowOp b with
  | some x =>
    rw [hr] at hRow0
    have hRow : ∀ w, Calls Tryz.prog 130 #[.int .u8 (b : Int)] w (Ret w (.tuple #[.agg (opc x), .bool true])) := hRow0
    rw [show opOf b = some x by unfold opOf; rw [hr]]
    (refine CW.seq ?_; refine CW.region ?_; apply LW.box1; rfl; rfl; rfl; intro _; apply LW.allocA; rfl; intro _; apply LW.v0; rfl; rfl; apply ValP.assign; rfl; apply LW.nil; refine thenN ?_; refine CW.seq ?_; refine CW.seq ?_; refine CW.region ?_; apply LW.load; rfl; rfl; apply Known.at; apply FsAt.tail; apply FsAt.head; exact Rd.one' rfl; apply LW.callE; rfl; rfl; infer_instance; apply ArgsOk.cons; rfl; exact ArgsOk.nil; intro w _; exact hRow w; apply LW.v0; rfl; rfl; apply ValP.move; rfl; apply LW.v0; rfl; rfl; apply ValP.extractN; rfl; rfl; apply LW.v0; rfl; rfl; apply ValP.extractN; rfl; rfl; apply LW.allocA; rfl; intro _; apply LW.store; rfl; rfl; apply SetAt.head; apply Wr.whole; rfl; rfl; rfl; apply LW.v0; rfl; rfl; apply ValP.assign; rfl; apply LW.nil; refine thenN ?_; refine CW.seq ?_; refine CW.region ?_; apply LW.v0; rfl; rfl; apply ValP.move; rfl; apply LW.nil; refine thenN ?_; apply CW.condT; rfl; (with_reducible rfl); refine CW.seq ?_; refine CW.region ?_; apply LW.load; rfl; rfl; apply Known.at; apply FsAt.head; exact Rd.whole rfl; apply LW.store; rfl; rfl; apply SetAt.tail; apply SetAt.head; apply Wr.whole; rfl; rfl; rfl; apply LW.v0; rfl; rfl; apply ValP.assign; rfl; apply LW.nil; refine thenN ?_; refine CW.ret ?_; refine thenR ?_)
    (apply finR; exact .inl rfl; rfl; rfl; rfl; apply ResL.cons; apply Res.cell; rfl; apply Known.at; apply FsAt.tail; apply FsAt.head; exact Rd.whole rfl; apply ResL.cons; exact Res.tmp rfl; exact ResL.nil)
    rfl
  | none =>
    rw [hr] at hRow0
    have hRow : ∀ w, Calls Tryz.prog 130 #[.int .u8 (b : Int)] w (Ret w (.tuple #[.agg (opc zeroOp), .bool false])) := hRow0
    (refine CW.seq ?_; refine CW.region ?_; apply LW.box1; rfl; rfl; rfl; intro _; apply LW.allocA; rfl; intro _; apply LW.v0; rfl; rfl; apply ValP.assign; rfl; apply LW.nil; refine thenN ?_; refine CW.seq ?_; refine CW.seq ?_; refine CW.region ?_; apply LW.load; rfl; rfl; apply Known.at; apply FsAt.tail; apply FsAt.head; exact Rd.one' rfl; apply LW.callE; rfl; rfl; infer_instance; apply ArgsOk.cons; rfl; exact ArgsOk.nil; intro w _; exact hRow w; apply LW.v0; rfl; rfl; apply ValP.move; rfl; apply LW.v0; rfl; rfl; apply ValP.extractN; rfl; rfl; apply LW.v0; rfl; rfl; apply ValP.extractN; rfl; rfl; apply LW.allocA; rfl; intro _; apply LW.store; rfl; rfl; apply SetAt.head; apply Wr.whole; rfl; rfl; rfl; apply LW.v0; rfl; rfl; apply ValP.assign; rfl; apply LW.nil; refine thenN ?_; refine CW.seq ?_; refine CW.region ?_; apply LW.v0; rfl; rfl; apply ValP.move; rfl; apply LW.nil; refine thenN ?_; apply CW.condF; rfl; (with_reducible rfl); refine CW.skip ?_; refine thenN ?_; refine CW.seq ?_; refine CW.region ?_)
    rename_i bx b2 b4
    (apply LW.callR; rfl; rfl; infer_instance; exact ArgsOk.nil; intro w hs)
    exact plain_calls w
    intro vp gp hpl
    obtain ⟨bp, rfl, rfl⟩ := id hpl
    cases hi : plainOps.findIdx? (fun x => x.c == b) with
    | none =>
      have hidx : idxOf plainOps b = -1 := by unfold idxOf; rw [hi]
      rw [show opOf b = none by unfold opOf; rw [hr]; exact List.find?_eq_none.2 (by simpa using List.findIdx?_eq_none_iff.1 hi)]
      (apply LW.v0; rfl; rfl; apply ValP.makeFunc; exact ArgsOk.nil; apply ArgsOk.cons; rfl; exact ArgsOk.nil; apply LW.callE; rfl; rfl; infer_instance; apply ArgsOk.cons; rfl; apply ArgsOk.cons; rfl; exact ArgsOk.nil; intro w _; rename_i hst; (exact IndexFunc_calls plainOps b _ _ _ _ w (hpl.us (st_us hst) (by exact List.singleton_sublist.2 (by (repeat (first | exact List.Mem.head _ | apply List.Mem.tail))))) ((hst.own (bx, _) (by (repeat (first | exact List.Mem.head _ | apply List.Mem.tail)))).2)); apply LW.v0; rfl; rfl; apply ValP.assign; rfl; apply LW.nil; refine thenN ?_; refine CW.seq ?_; refine CW.seq ?_; refine CW.region ?_; apply LW.v0; rfl; rfl; apply ValP.move; rfl; apply LW.v0; rfl; rfl; apply ValP.lssT; rfl; rfl; omega; apply LW.nil; refine thenN ?_; apply CW.condT; rfl; (with_reducible rfl); refine CW.seq ?_; refine CW.region ?_; apply LW.v0; rfl; rfl; apply ValP.buildT; infer_instance; infer_instance; exact PartsOk.nil; rfl; simp only [fillP, wrCells, Value.cells, List.getElem?_cons_zero, List.getElem?_cons_succ, List.toList_toArray, List.setIfInBounds_toArray, List.set_cons_succ, List.set_cons_zero, Nat.reduceAdd, Nat.zero_add]; rfl; apply LW.store; rfl; rfl; apply SetAt.tail; apply SetAt.tail; apply SetAt.head; apply Wr.whole; rfl; rfl; rfl; apply LW.v0; rfl; rfl; apply ValP.assign; rfl; apply LW.nil; refine thenN ?_; refine CW.ret ?_; refine thenR ?_)
      (apply finR; exact .inl rfl; rfl; rfl; rfl; apply ResL.cons; apply Res.cell; rfl; apply Known.at; apply FsAt.tail; apply FsAt.tail; apply FsAt.head; exact Rd.whole rfl; apply ResL.cons; exact Res.tmp rfl; exact ResL.nil)
      rfl
    | some i =>
      have hidx : idxOf plainOps b = (i : Int) := by unfold idxOf; rw [hi]
      obtain ⟨hlt, hc, hall⟩ := List.findIdx?_eq_some_iff_getElem.1 hi
      have hlt50 : i < 50 := hlt
      have hrd := plain_rd i hlt (E := 190) (fr := (0, 0))
      rw [show opOf b = some plainOps[i] by unfold opOf; rw [hr]; exact List.find?_eq_some_iff_getElem.2 ⟨hc, i, hlt, rfl, fun j hj => by simpa using hall j hj⟩]
      (apply LW.v0; rfl; rfl; apply ValP.makeFunc; exact ArgsOk.nil; apply ArgsOk.cons; rfl; exact ArgsOk.nil; apply LW.callE; rfl; rfl; infer_instance; apply ArgsOk.cons; rfl; apply ArgsOk.cons; rfl; exact ArgsOk.nil; intro w _; rename_i hst; (exact IndexFunc_calls plainOps b _ _ _ _ w (hpl.us (st_us hst) (by exact List.singleton_sublist.2 (by (repeat (first | exact List.Mem.head _ | apply List.Mem.tail))))) ((hst.own (bx, _) (by (repeat (first | exact List.Mem.head _ | apply List.Mem.tail)))).2)); apply LW.v0; rfl; rfl; apply ValP.assign; rfl; apply LW.nil; refine thenN ?_; refine CW.seq ?_; refine CW.seq ?_; refine CW.region ?_; apply LW.v0; rfl; rfl; apply ValP.move; rfl; apply LW.v0; rfl; rfl; apply ValP.lssF; rfl; rfl; omega; apply LW.nil; refine thenN ?_; apply CW.condF; rfl; (with_reducible rfl); refine CW.skip ?_; refine thenN ?_; refine CW.seq ?_; refine CW.region ?_)
      rw [hidx]
      skip
      (apply LW.callR; rfl; rfl; infer_instance; exact ArgsOk.nil; intro w hs)
      exact plain_calls w
      intro vq gq hpq
      obtain ⟨bq, rfl, rfl⟩ := id hpq
      (apply LW.v0; rfl; rfl; apply ValP.move; rfl; apply LW.v0; rfl; rfl; apply ValP.indexAddrS; rfl; rfl; rfl; omega; apply LW.load; rfl; rfl; apply Known.at; apply FsAt.head; assumption; apply LW.store; rfl; rfl; apply SetAt.tail; apply SetAt.tail; apply SetAt.tail; apply SetAt.head; apply Wr.whole; rfl; rfl; rfl; apply LW.v0; rfl; rfl; apply ValP.assign; rfl; apply LW.nil; refine thenN ?_; refine CW.ret ?_)
      (apply finR; exact .inl rfl; rfl; rfl; rfl; apply ResL.cons; apply Res.cell; rfl; apply Known.at; apply FsAt.tail; apply FsAt.tail; apply FsAt.tail; apply FsAt.head; exact Rd.whole rfl; apply ResL.cons; exact Res.tmp rfl; exact ResL.nil)
      rfl
end Go.Proofs.YtpgdnfgjbhdbpaaGreatDoor

/-
  What an operation costs in any case: contracts.
  Conditions: none.
-/
namespace Go.Proofs.YtpgdnfgjbhdbpaaGreatDoor
open Go Go.RowKit SL
set_option maxRecDepth 8000
set_option maxHeartbeats 4000000
set_option linter.unusedSimpArgs false
set_option linter.unusedVariables false
attribute [local irreducible] SL.CW SL.LW SL.DW Calls SL.Ret SL.RetG SL.beginQ SL.roundQ SL.rangeQ SL.inQ SL.RW SL.AnyW SL.thenQ SL.thenC SL.thenW SL.blkQ SL.finQ SL.ValP SL.NewP SL.SetP SL.CallP SL.Rd SL.Wr SL.Known
end Go.Proofs.YtpgdnfgjbhdbpaaGreatDoor

/-
  What memory costs, what is lent, what is spent: contracts.
  Conditions: none.
-/
namespace Go.Proofs.YtpgdnfgjbhdbpaaGreatDoor
open Go Go.RowKit SL
set_option maxRecDepth 8000
set_option maxHeartbeats 4000000
set_option linter.unusedSimpArgs false
set_option linter.unusedVariables false
attribute [local irreducible] SL.CW SL.LW SL.DW Calls SL.Ret SL.RetG SL.beginQ SL.roundQ SL.rangeQ SL.inQ SL.RW SL.AnyW SL.thenQ SL.thenC SL.thenW SL.blkQ SL.finQ SL.ValP SL.NewP SL.SetP SL.CallP SL.Rd SL.Wr SL.Known
theorem Words_calls (n : Nat) (hn : n < 18446744073709551616) (w : World) : Calls Tryz.prog 144 #[.int .u64 (n : Int)] w (Ret w (.int .u64 (((n + 31) / 32 : Nat) : Int))) := by
  refine enter (args := [_]) _ [] [] Tryz.func144 rfl Tryz.ntmps144 rfl (by simp) .nil ?_
  rcases Nat.eq_zero_or_pos (n % 32) with h | h
  · rw [show (n + 31) / 32 = n / 32 by omega]
    (refine CW.seq ?_; refine CW.region ?_; apply LW.v0; rfl; rfl; apply ValP.assign; rfl; apply LW.nil; refine thenN ?_; refine CW.seq ?_; refine CW.region ?_; apply LW.v0; rfl; rfl; apply ValP.move; rfl; apply LW.v0; rfl; rfl; apply ValP.quoNL; rfl; rfl; decide; omega; omega; apply LW.v0; rfl; rfl; apply ValP.assign; rfl; apply LW.nil; refine thenN ?_; refine CW.seq ?_; refine CW.seq ?_; refine CW.region ?_; apply LW.v0; rfl; rfl; apply ValP.move; rfl; apply LW.v0; rfl; rfl; apply ValP.remNL; rfl; rfl; decide; omega; apply LW.v0; rfl; rfl; apply ValP.gtrF; rfl; rfl; omega; apply LW.nil; refine thenN ?_; apply CW.condF; rfl; (with_reducible rfl); refine CW.skip ?_; refine thenN ?_; refine CW.seq ?_; refine CW.region ?_; apply LW.v0; rfl; rfl; apply ValP.move; rfl; apply LW.v0; rfl; rfl; apply ValP.assign; rfl; apply LW.nil; refine thenN ?_; refine CW.ret ?_)
    (apply finR; exact .inl rfl; rfl; rfl; rfl; apply ResL.cons; exact Res.tmp rfl; exact ResL.nil)
    rfl
  · rw [show (n + 31) / 32 = (n / 32 + 1) % 18446744073709551616 by omega]
    (refine CW.seq ?_; refine CW.region ?_; apply LW.v0; rfl; rfl; apply ValP.assign; rfl; apply LW.nil; refine thenN ?_; refine CW.seq ?_; refine CW.region ?_; apply LW.v0; rfl; rfl; apply ValP.move; rfl; apply LW.v0; rfl; rfl; apply ValP.quoNL; rfl; rfl; decide; omega; omega; apply LW.v0; rfl; rfl; apply ValP.assign; rfl; apply LW.nil; refine thenN ?_; refine CW.seq ?_; refine CW.seq ?_; refine CW.region ?_; apply LW.v0; rfl; rfl; apply ValP.move; rfl; apply LW.v0; rfl; rfl; apply ValP.remNL; rfl; rfl; decide; omega; apply LW.v0; rfl; rfl; apply ValP.gtrT; rfl; rfl; omega; apply LW.nil; refine thenN ?_; apply CW.condT; rfl; (with_reducible rfl); refine CW.region ?_; apply LW.v0; rfl; rfl; apply ValP.move; rfl; apply LW.v0; rfl; rfl; apply ValP.addNL; rfl; rfl; decide; apply LW.v0; rfl; rfl; apply ValP.assign; rfl; apply LW.nil; refine thenN ?_; refine CW.seq ?_; refine CW.region ?_; apply LW.v0; rfl; rfl; apply ValP.move; rfl; apply LW.v0; rfl; rfl; apply ValP.assign; rfl; apply LW.nil; refine thenN ?_; refine CW.ret ?_)
    (apply finR; exact .inl rfl; rfl; rfl; rfl; apply ResL.cons; exact Res.tmp rfl; exact ResL.nil)
    rfl
def memW (x : Nat) : Nat := 3 * x + x * x / 512
theorem memW_eq (x : Nat) (hx : x ≤ 1000) : (3 * x % 18446744073709551616 + x * x % 18446744073709551616 / 512) % 18446744073709551616 = memW x := by
  have h := Nat.mul_le_mul hx hx
  unfold memW
  omega
theorem words_calls (x : Nat) (hx : x ≤ 1000) (w : World) : Calls Tryz.prog 168 #[.int .u64 (x : Int)] w (Ret w (.int .u64 ((memW x : Nat) : Int))) := by
  refine enter (args := [_]) _ [] [] Tryz.func168 rfl Tryz.ntmps168 rfl (by simp) .nil ?_
  rw [← memW_eq x hx]
  (refine CW.seq ?_; refine CW.region ?_; apply LW.v0; rfl; rfl; apply ValP.assign; rfl; apply LW.nil; refine thenN ?_; refine CW.seq ?_; refine CW.region ?_; apply LW.v0; rfl; rfl; apply ValP.move; rfl; apply LW.v0; rfl; rfl; apply ValP.mulNK; rfl; rfl; decide; apply LW.v0; rfl; rfl; apply ValP.move; rfl; apply LW.v0; rfl; rfl; apply ValP.move; rfl; apply LW.v0; rfl; rfl; apply ValP.mulN; rfl; rfl; apply LW.v0; rfl; rfl; apply ValP.quoNL; rfl; rfl; decide; omega; omega; apply LW.v0; rfl; rfl; apply ValP.addN; rfl; rfl; apply LW.v0; rfl; rfl; apply ValP.assign; rfl; apply LW.nil; refine thenN ?_; refine CW.ret ?_)
  (apply finR; exact .inl rfl; rfl; rfl; rfl; apply ResL.cons; exact Res.tmp rfl; exact ResL.nil)
  rfl
theorem memW_mono {x y : Nat} (h : x ≤ y) : memW x ≤ memW y := by
  unfold memW
  have := Nat.mul_le_mul h h
  have := Nat.div_le_div_right (c := 512) this
  omega
def memV (a b : Nat) : Nat := if b ≤ a then 0 else if 1024 < b then 1099511627776 else memW ((b + 31) / 32) - memW ((a + 31) / 32)
theorem Memory_calls (a b : Nat) (ha : a < 18446744073709551616) (hb : b < 18446744073709551616) (w : World) : Calls Tryz.prog 159 #[.int .u64 (a : Int), .int .u64 (b : Int)] w (Ret w (.int .u64 ((memV a b : Nat) : Int))) := by
  refine enter (args := [_, _]) _ [] [] Tryz.func159 rfl Tryz.ntmps159 rfl (by simp) .nil ?_
  unfold memV
  by_cases h1 : b ≤ a
  · rw [if_pos h1]
    (refine CW.seq ?_; refine CW.region ?_; apply LW.v0; rfl; rfl; apply ValP.assign; rfl; apply LW.nil; refine thenN ?_; refine CW.seq ?_; refine CW.block ?_; refine CW.seq ?_; refine CW.region ?_; apply LW.v0; rfl; rfl; apply ValP.move; rfl; apply LW.v0; rfl; rfl; apply ValP.move; rfl; apply LW.v0; rfl; rfl; apply ValP.leqT; rfl; rfl; omega; apply LW.v0; rfl; rfl; apply ValP.assign; rfl; apply LW.nil; refine thenN ?_; apply CW.condT; rfl; (with_reducible rfl); refine CW.seq ?_; refine CW.region ?_; apply LW.v0; rfl; rfl; apply ValP.assign; rfl; apply LW.nil; refine thenN ?_; refine CW.ret ?_; refine blkR ?_; refine thenR ?_)
    (apply finR; exact .inl rfl; rfl; rfl; rfl; apply ResL.cons; exact Res.tmp rfl; exact ResL.nil)
    rfl
  · rw [if_neg h1]
    by_cases h2 : 1024 < b
    · rw [if_pos h2]
      (refine CW.seq ?_; refine CW.region ?_; apply LW.v0; rfl; rfl; apply ValP.assign; rfl; apply LW.nil; refine thenN ?_; refine CW.seq ?_; refine CW.block ?_; refine CW.seq ?_; refine CW.region ?_; apply LW.v0; rfl; rfl; apply ValP.move; rfl; apply LW.v0; rfl; rfl; apply ValP.move; rfl; apply LW.v0; rfl; rfl; apply ValP.leqF; rfl; rfl; omega; apply LW.v0; rfl; rfl; apply ValP.assign; rfl; apply LW.nil; refine thenN ?_; apply CW.condF; rfl; (with_reducible rfl); refine CW.seq ?_; refine CW.region ?_; apply LW.v0; rfl; rfl; apply ValP.move; rfl; apply LW.v0; rfl; rfl; apply ValP.gtrT; rfl; rfl; omega; apply LW.v0; rfl; rfl; apply ValP.assign; rfl; apply LW.nil; refine thenN ?_; apply CW.condT; rfl; (with_reducible rfl); refine CW.seq ?_; refine CW.region ?_; apply LW.v0; rfl; rfl; apply ValP.assign; rfl; apply LW.nil; refine thenN ?_; refine CW.ret ?_; refine blkR ?_; refine thenR ?_)
      (apply finR; exact .inl rfl; rfl; rfl; rfl; apply ResL.cons; exact Res.tmp rfl; exact ResL.nil)
      rfl
    · rw [if_neg h2]
      have hm := memW_mono (show (a + 31) / 32 ≤ (b + 31) / 32 by omega)
      have hm2 := memW_mono (show (b + 31) / 32 ≤ 32 by omega)
      have hm3 : memW 32 = 98 := by decide
      (refine CW.seq ?_; refine CW.region ?_; apply LW.v0; rfl; rfl; apply ValP.assign; rfl; apply LW.nil; refine thenN ?_; refine CW.seq ?_; refine CW.block ?_; refine CW.seq ?_; refine CW.region ?_; apply LW.v0; rfl; rfl; apply ValP.move; rfl; apply LW.v0; rfl; rfl; apply ValP.move; rfl; apply LW.v0; rfl; rfl; apply ValP.leqF; rfl; rfl; omega; apply LW.v0; rfl; rfl; apply ValP.assign; rfl; apply LW.nil; refine thenN ?_; apply CW.condF; rfl; (with_reducible rfl); refine CW.seq ?_; refine CW.region ?_; apply LW.v0; rfl; rfl; apply ValP.move; rfl; apply LW.v0; rfl; rfl; apply ValP.gtrF; rfl; rfl; omega; apply LW.v0; rfl; rfl; apply ValP.assign; rfl; apply LW.nil; refine thenN ?_; apply CW.condF; rfl; (with_reducible rfl); refine CW.skip ?_; refine blkN ?_; refine thenN ?_; refine CW.seq ?_; refine CW.region ?_; apply LW.v0; rfl; rfl; apply ValP.move; rfl; apply LW.callE; rfl; rfl; infer_instance; apply ArgsOk.cons; rfl; exact ArgsOk.nil; intro w _; refine Words_calls _ ?_ w; omega; apply LW.callE; rfl; rfl; infer_instance; apply ArgsOk.cons; rfl; exact ArgsOk.nil; intro w _; refine words_calls _ ?_ w; omega; apply LW.v0; rfl; rfl; apply ValP.move; rfl; apply LW.callE; rfl; rfl; infer_instance; apply ArgsOk.cons; rfl; exact ArgsOk.nil; intro w _; refine Words_calls _ ?_ w; omega; apply LW.callE; rfl; rfl; infer_instance; apply ArgsOk.cons; rfl; exact ArgsOk.nil; intro w _; refine words_calls _ ?_ w; omega; apply LW.v0; rfl; rfl; apply ValP.subN; rfl; rfl; omega; omega; apply LW.v0; rfl; rfl; apply ValP.assign; rfl; apply LW.nil; refine thenN ?_; refine CW.ret ?_)
      (apply finR; exact .inl rfl; rfl; rfl; rfl; apply ResL.cons; exact Res.tmp rfl; exact ResL.nil)
      rfl
theorem Part_calls (n : Nat) (hn : n < 18446744073709551616) (w : World) : Calls Tryz.prog 33 #[.int .u64 (n : Int)] w (Ret w (.int .u64 ((n - n / 64 : Nat) : Int))) := by
  refine enter (args := [_]) _ [] [] Tryz.func33 rfl Tryz.ntmps33 rfl (by simp) .nil ?_
  (refine CW.seq ?_; refine CW.region ?_; apply LW.v0; rfl; rfl; apply ValP.assign; rfl; apply LW.nil; refine thenN ?_; refine CW.seq ?_; refine CW.region ?_; apply LW.v0; rfl; rfl; apply ValP.move; rfl; apply LW.v0; rfl; rfl; apply ValP.move; rfl; apply LW.v0; rfl; rfl; apply ValP.quoNL; rfl; rfl; decide; omega; omega; apply LW.v0; rfl; rfl; apply ValP.subN; rfl; rfl; omega; omega; apply LW.v0; rfl; rfl; apply ValP.assign; rfl; apply LW.nil; refine thenN ?_; refine CW.ret ?_)
  (apply finR; exact .inl rfl; rfl; rfl; rfl; apply ResL.cons; exact Res.tmp rfl; exact ResL.nil)
  rfl
/-! ### What is spent -/
theorem take_le (l : List Nat) (m : Nat) : (l.take m).sum ≤ l.sum := by
  conv => rhs; rw [← List.take_append_drop m l]
  rw [List.sum_append]; omega
def spendV (left : Nat) (l : List Nat) : Value := if l.sum ≤ left then .tuple #[.int .u64 ((left - l.sum : Nat) : Int), .bool true] else .tuple #[.int .u64 0, .bool false]
theorem Spend_calls (left : Nat) (l : List Nat) (hl : left < 18446744073709551616) (v : Value) (w : World) (hv : RowAt w 1 v l.length (ncs l)) : Calls Tryz.prog 116 #[.int .u64 (left : Int), v] w (Ret w (spendV left l)) := by
  obtain ⟨p, c, rfl, hc, hm⟩ := hv.form
  simp only [maxLen] at hm
  refine enter (args := [_, _]) _ [] [] Tryz.func116 rfl Tryz.ntmps116 rfl (by simp) .nil ?_
  (refine CW.seq ?_; refine CW.region ?_; apply LW.v0; rfl; rfl; apply ValP.assign; rfl; apply LW.v0; rfl; rfl; apply ValP.assign; rfl; apply LW.nil; refine thenN ?_; refine CW.scope ?_; refine CW.seq ?_; refine CW.region ?_; apply LW.v0; rfl; rfl; apply ValP.assign; rfl; apply LW.nil; refine thenN ?_; refine CW.seq ?_; refine CW.label ?_; refine thenN ?_; refine CW.seq ?_; refine CW.seq ?_; refine CW.region ?_; apply LW.v0; rfl; rfl; apply ValP.move; rfl; apply LW.v0; rfl; rfl; apply ValP.lenR; rfl; infer_instance; rfl; apply LW.v0; rfl; rfl; apply ValP.move; rfl; apply LW.nil; refine thenN ?_; refine CW.block ?_)
  refine CW.loop (fun m : Nat => ([(11, .int .i64 (m : Int)), (10, .int .i64 (l.length : Int)), (9, .slice p l.length c), (6, .bool true), (0, .int .u64 ((left - (l.take m).sum : Nat) : Int))], []))
    (fun m => m ≤ l.length ∧ (l.take m).sum ≤ left) (fun m => l.length - m) 0 ⟨Nat.zero_le _, Nat.zero_le _⟩ ⟨rfl, rfl, rfl, rfl, rfl, trivial⟩ (List.Sublist.refl _) ?_
  rintro m ⟨hml, hS⟩
  dsimp only
  rcases Nat.lt_or_ge m l.length with hlt | hge
  · obtain ⟨b, off, c', cs, E, fr, heq, hb, hx⟩ := hv.pos (by omega)
    cases heq
    obtain ⟨n, hn⟩ : ∃ n, n = l[m] := ⟨_, rfl⟩
    have hrd : Rd Tryz.prog 26 (.cells cs E fr) (off + m * 1) (.int .u64 (n : Int)) := Rd.elem1 hx (ncs_one l) (by rw [hn]; exact List.getElem?_eq_getElem hlt) rfl
    have hst := take_step l m hlt
    have htot := take_le l (m + 1)
    rw [← hn] at hst
    by_cases hle : n ≤ left - (l.take m).sum
    · (refine CW.seq ?_; refine CW.region ?_; apply LW.v0; rfl; rfl; apply ValP.lssT; rfl; rfl; omega; apply LW.nil; refine thenN ?_; refine CW.seq ?_; apply CW.condT; rfl; (with_reducible rfl); refine CW.skip ?_; refine thenN ?_; refine CW.seq ?_; refine CW.block ?_; refine CW.seq ?_; refine CW.region ?_; apply LW.v0; rfl; rfl; apply ValP.indexAddrS; rfl; rfl; rfl; omega; apply LW.load; rfl; rfl; exact Known.ext (by assumption) (by simp); assumption; apply LW.v0; rfl; rfl; apply ValP.assign; rfl; apply LW.nil; refine thenN ?_; refine CW.seq ?_; refine CW.seq ?_; refine CW.region ?_; apply LW.v0; rfl; rfl; apply ValP.move; rfl; apply LW.v0; rfl; rfl; apply ValP.move; rfl; apply LW.v0; rfl; rfl; apply ValP.leqT; rfl; rfl; omega; apply LW.v0; rfl; rfl; apply ValP.assign; rfl; apply LW.nil; refine thenN ?_; refine CW.seq ?_; refine CW.region ?_; apply LW.v0; rfl; rfl; apply ValP.move; rfl; apply LW.v0; rfl; rfl; apply ValP.notT; rfl; (with_reducible rfl); apply LW.nil; refine thenN ?_; apply CW.condF; rfl; (with_reducible rfl); refine CW.skip ?_; refine thenN ?_; refine CW.region ?_; apply LW.v0; rfl; rfl; apply ValP.move; rfl; apply LW.v0; rfl; rfl; apply ValP.move; rfl; apply LW.v0; rfl; rfl; apply ValP.subN; rfl; rfl; omega; omega; apply LW.v0; rfl; rfl; apply ValP.assign; rfl; apply LW.nil; refine blkN ?_; refine thenN ?_; refine CW.region ?_; apply LW.v0; rfl; rfl; apply ValP.addZL; rfl; rfl; decide; omega; apply LW.v0; rfl; rfl; apply ValP.move; rfl; apply LW.nil)
      apply thenX
      refine ⟨rfl, m + 1, ⟨hlt, by omega⟩, by omega, ⟨rfl, rfl, rfl, rfl, ?_, trivial⟩, List.Sublist.refl _⟩
      rw [hst, ← Nat.sub_sub]; rfl
    · unfold spendV
      rw [if_neg (by omega)]
      (refine CW.seq ?_; refine CW.region ?_; apply LW.v0; rfl; rfl; apply ValP.lssT; rfl; rfl; omega; apply LW.nil; refine thenN ?_; refine CW.seq ?_; apply CW.condT; rfl; (with_reducible rfl); refine CW.skip ?_; refine thenN ?_; refine CW.seq ?_; refine CW.block ?_; refine CW.seq ?_; refine CW.region ?_; apply LW.v0; rfl; rfl; apply ValP.indexAddrS; rfl; rfl; rfl; omega; apply LW.load; rfl; rfl; exact Known.ext (by assumption) (by simp); assumption; apply LW.v0; rfl; rfl; apply ValP.assign; rfl; apply LW.nil; refine thenN ?_; refine CW.seq ?_; refine CW.seq ?_; refine CW.region ?_; apply LW.v0; rfl; rfl; apply ValP.move; rfl; apply LW.v0; rfl; rfl; apply ValP.move; rfl; apply LW.v0; rfl; rfl; apply ValP.leqF; rfl; rfl; omega; apply LW.v0; rfl; rfl; apply ValP.assign; rfl; apply LW.nil; refine thenN ?_; refine CW.seq ?_; refine CW.region ?_; apply LW.v0; rfl; rfl; apply ValP.move; rfl; apply LW.v0; rfl; rfl; apply ValP.notF; rfl; (with_reducible rfl); apply LW.nil; refine thenN ?_; apply CW.condT; rfl; (with_reducible rfl); refine CW.exit ?_; refine thenE ?_; refine blkO rfl ?_; refine thenE ?_; refine thenE ?_; refine blkE rfl ?_; refine thenN ?_; refine CW.seq ?_; refine CW.seq ?_; refine CW.region ?_; apply LW.v0; rfl; rfl; apply ValP.move; rfl; apply LW.v0; rfl; rfl; apply ValP.notF; rfl; (with_reducible rfl); apply LW.nil; refine thenN ?_; apply CW.condT; rfl; (with_reducible rfl); refine CW.seq ?_; refine CW.region ?_; apply LW.v0; rfl; rfl; apply ValP.assign; rfl; apply LW.v0; rfl; rfl; apply ValP.assign; rfl; apply LW.nil; refine thenN ?_; refine CW.ret ?_; refine thenR ?_; refine scopeQ.r ?_)
      (apply finR; exact .inl rfl; rfl; rfl; rfl; apply ResL.cons; exact Res.tmp rfl; apply ResL.cons; exact Res.tmp rfl; exact ResL.nil)
      rfl
  · obtain rfl : m = l.length := by omega
    rw [List.take_length] at hS ⊢
    unfold spendV
    rw [if_pos hS]
    (refine CW.seq ?_; refine CW.region ?_; apply LW.v0; rfl; rfl; apply ValP.lssF; rfl; rfl; omega; apply LW.nil; refine thenN ?_; refine CW.seq ?_; apply CW.condF; rfl; (with_reducible rfl); refine CW.exit ?_; refine thenE ?_; refine thenE ?_; refine blkE rfl ?_; refine thenN ?_; refine CW.seq ?_; refine CW.seq ?_; refine CW.region ?_; apply LW.v0; rfl; rfl; apply ValP.move; rfl; apply LW.v0; rfl; rfl; apply ValP.notT; rfl; (with_reducible rfl); apply LW.nil; refine thenN ?_; apply CW.condF; rfl; (with_reducible rfl); refine CW.skip ?_; refine thenN ?_; refine CW.seq ?_; refine CW.region ?_; apply LW.v0; rfl; rfl; apply ValP.move; rfl; apply LW.v0; rfl; rfl; apply ValP.assign; rfl; apply LW.v0; rfl; rfl; apply ValP.assign; rfl; apply LW.nil; refine thenN ?_; refine CW.ret ?_; refine scopeQ.r ?_)
    (apply finR; exact .inl rfl; rfl; rfl; rfl; apply ResL.cons; exact Res.tmp rfl; apply ResL.cons; exact Res.tmp rfl; exact ResL.nil)
    rfl
end Go.Proofs.YtpgdnfgjbhdbpaaGreatDoor

/-
  The layer does something.
  Conditions: none.
-/
namespace Go.Proofs.YtpgdnfgjbhdbpaaGreatDoor
open Go Go.RowKit SL
set_option maxRecDepth 8000
set_option maxHeartbeats 4000000
set_option linter.unusedSimpArgs false
set_option linter.unusedVariables false
attribute [local irreducible] SL.CW SL.LW SL.DW Calls SL.Ret SL.RetG SL.beginQ SL.roundQ SL.rangeQ SL.inQ SL.RW SL.AnyW SL.thenQ SL.thenC SL.thenW SL.blkQ SL.finQ SL.ValP SL.NewP SL.SetP SL.CallP SL.Rd SL.Wr SL.Known
end Go.Proofs.YtpgdnfgjbhdbpaaGreatDoor

/-
  What bytes cost, where they end, what is lent: contracts.
  Conditions: none.
-/
namespace Go.Proofs.YtpgdnfgjbhdbpaaGreatDoor
open Go Go.RowKit SL
set_option maxRecDepth 8000
set_option maxHeartbeats 4000000
set_option linter.unusedSimpArgs false
set_option linter.unusedVariables false
attribute [local irreducible] SL.CW SL.LW SL.DW Calls SL.Ret SL.RetG SL.beginQ SL.roundQ SL.rangeQ SL.inQ SL.RW SL.AnyW SL.thenQ SL.thenC SL.thenW SL.blkQ SL.finQ SL.ValP SL.NewP SL.SetP SL.CallP SL.Rd SL.Wr SL.Known
abbrev NOG : Nat := 1099511627776
/-! ### Where bytes end -/
def endV (a n : Nat) : Nat := if n = 0 then 0 else min (a + n) NOG
theorem End_calls (a n : Nat) (ha : a < M256) (hn : n < M256) (w : World) : Calls Tryz.prog 158 #[wv a, wv n] w (Ret w (.int .u64 ((endV a n : Nat) : Int))) := by
  refine enter (args := [_, _]) _ [] [] Tryz.func158 rfl Tryz.ntmps158 rfl (by simp) .nil ?_
  unfold endV
  have hz : (0 : Nat) < M256 := by decide
  by_cases h0 : n = 0
  · subst h0
    rw [if_pos rfl]
    (refine CW.seq ?_; refine CW.region ?_; apply LW.boxA; rfl; rfl; intro _; apply LW.boxA; rfl; rfl; intro _; apply LW.v0; rfl; rfl; apply ValP.assign; rfl; apply LW.nil; refine thenN ?_; refine CW.seq ?_; refine CW.seq ?_; refine CW.region ?_; apply LW.load; rfl; rfl; apply Known.at; apply FsAt.head; exact Rd.whole rfl; apply LW.v0; rfl; rfl; exact ValP.buildW0; apply LW.v0; rfl; rfl; apply ValP.eqWT; rfl; rfl; (with_reducible rfl); apply LW.nil; refine thenN ?_; apply CW.condT; rfl; (with_reducible rfl); refine CW.seq ?_; refine CW.region ?_; apply LW.v0; rfl; rfl; apply ValP.assign; rfl; apply LW.nil; refine thenN ?_; refine CW.ret ?_; refine thenR ?_)
    (apply finR; exact .inl rfl; rfl; rfl; rfl; apply ResL.cons; exact Res.tmp rfl; exact ResL.nil)
    rfl
  · rw [if_neg h0]
    have hA0 := Add_calls a n ha hn
    have hS0 := Small_calls ((a + n) % M256) (Nat.mod_lt _ (by decide))
    rcases Nat.lt_or_ge (a + n) M256 with h | h
    · rw [Nat.mod_eq_of_lt h] at hA0 hS0
      rw [decide_eq_false (Nat.not_le.2 h)] at hA0
      have hA := hA0
      rcases Nat.lt_or_ge (a + n) 18446744073709551616 with hs | hs
      · rw [if_pos hs, decide_eq_true hs] at hS0
        have hS := hS0
        (refine CW.seq ?_; refine CW.region ?_; apply LW.boxA; rfl; rfl; intro _; apply LW.boxA; rfl; rfl; intro _; apply LW.v0; rfl; rfl; apply ValP.assign; rfl; apply LW.nil; refine thenN ?_; refine CW.seq ?_; refine CW.seq ?_; refine CW.region ?_; apply LW.load; rfl; rfl; apply Known.at; apply FsAt.head; exact Rd.whole rfl; apply LW.v0; rfl; rfl; exact ValP.buildW0; apply LW.v0; rfl; rfl; apply ValP.eqWF; rfl; rfl; assumption; assumption; assumption; apply LW.nil; refine thenN ?_; apply CW.condF; rfl; (with_reducible rfl); refine CW.skip ?_; refine thenN ?_; refine CW.seq ?_; refine CW.region ?_; apply LW.load; rfl; rfl; apply Known.at; apply FsAt.tail; apply FsAt.head; exact Rd.whole rfl; apply LW.load; rfl; rfl; apply Known.at; apply FsAt.head; exact Rd.whole rfl; apply LW.callE; rfl; rfl; infer_instance; apply ArgsOk.cons; rfl; apply ArgsOk.cons; rfl; exact ArgsOk.nil; intro w _; exact hA w; apply LW.v0; rfl; rfl; apply ValP.move; rfl; apply LW.v0; rfl; rfl; apply ValP.extractN; rfl; rfl; apply LW.v0; rfl; rfl; apply ValP.extractN; rfl; rfl; apply LW.allocW; rfl; intro _; apply LW.store; rfl; rfl; apply SetAt.head; apply Wr.whole; rfl; rfl; rfl; apply LW.v0; rfl; rfl; apply ValP.assign; rfl; apply LW.nil; refine thenN ?_; refine CW.seq ?_; refine CW.region ?_; apply LW.load; rfl; rfl; apply Known.at; apply FsAt.head; exact Rd.whole rfl; apply LW.callE; rfl; rfl; infer_instance; apply ArgsOk.cons; rfl; exact ArgsOk.nil; intro w _; exact hS w; apply LW.v0; rfl; rfl; apply ValP.move; rfl; apply LW.v0; rfl; rfl; apply ValP.extractN; rfl; rfl; apply LW.v0; rfl; rfl; apply ValP.extractN; rfl; rfl; apply LW.v0; rfl; rfl; apply ValP.assign; rfl; apply LW.v0; rfl; rfl; apply ValP.assign; rfl; apply LW.nil; refine thenN ?_; refine CW.seq ?_; refine CW.seq ?_; refine CW.region ?_; apply LW.v0; rfl; rfl; apply ValP.move; rfl; apply LW.v0; rfl; rfl; apply ValP.move; rfl; apply LW.guardT'; rfl; rfl; (with_reducible rfl); apply LW.v0; rfl; rfl; apply ValP.move; rfl; apply LW.guardT'; rfl; rfl; (with_reducible rfl); apply LW.v0; rfl; rfl; apply ValP.notT; rfl; (with_reducible rfl); apply LW.v0; rfl; rfl; apply ValP.pickF'; rfl; (with_reducible rfl); rfl; apply LW.nil; refine thenN ?_; apply CW.condF; rfl; (with_reducible rfl); refine CW.skip ?_; refine thenN ?_; refine CW.seq ?_; refine CW.region ?_; apply LW.v0; rfl; rfl; apply ValP.move; rfl; apply LW.v0; rfl; rfl; apply ValP.minZL; rfl; rfl; decide; apply LW.v0; rfl; rfl; apply ValP.assign; rfl; apply LW.nil; refine thenN ?_; refine CW.ret ?_)
        (apply finR; exact .inl rfl; rfl; rfl; rfl; apply ResL.cons; exact Res.tmp rfl; exact ResL.nil)
        rfl
      · rw [if_neg (Nat.not_lt.2 hs), decide_eq_false (Nat.not_lt.2 hs)] at hS0
        have hS := hS0
        rw [Nat.min_eq_right (by simp only [NOG]; omega)]
        (refine CW.seq ?_; refine CW.region ?_; apply LW.boxA; rfl; rfl; intro _; apply LW.boxA; rfl; rfl; intro _; apply LW.v0; rfl; rfl; apply ValP.assign; rfl; apply LW.nil; refine thenN ?_; refine CW.seq ?_; refine CW.seq ?_; refine CW.region ?_; apply LW.load; rfl; rfl; apply Known.at; apply FsAt.head; exact Rd.whole rfl; apply LW.v0; rfl; rfl; exact ValP.buildW0; apply LW.v0; rfl; rfl; apply ValP.eqWF; rfl; rfl; assumption; assumption; assumption; apply LW.nil; refine thenN ?_; apply CW.condF; rfl; (with_reducible rfl); refine CW.skip ?_; refine thenN ?_; refine CW.seq ?_; refine CW.region ?_; apply LW.load; rfl; rfl; apply Known.at; apply FsAt.tail; apply FsAt.head; exact Rd.whole rfl; apply LW.load; rfl; rfl; apply Known.at; apply FsAt.head; exact Rd.whole rfl; apply LW.callE; rfl; rfl; infer_instance; apply ArgsOk.cons; rfl; apply ArgsOk.cons; rfl; exact ArgsOk.nil; intro w _; exact hA w; apply LW.v0; rfl; rfl; apply ValP.move; rfl; apply LW.v0; rfl; rfl; apply ValP.extractN; rfl; rfl; apply LW.v0; rfl; rfl; apply ValP.extractN; rfl; rfl; apply LW.allocW; rfl; intro _; apply LW.store; rfl; rfl; apply SetAt.head; apply Wr.whole; rfl; rfl; rfl; apply LW.v0; rfl; rfl; apply ValP.assign; rfl; apply LW.nil; refine thenN ?_; refine CW.seq ?_; refine CW.region ?_; apply LW.load; rfl; rfl; apply Known.at; apply FsAt.head; exact Rd.whole rfl; apply LW.callE; rfl; rfl; infer_instance; apply ArgsOk.cons; rfl; exact ArgsOk.nil; intro w _; exact hS w; apply LW.v0; rfl; rfl; apply ValP.move; rfl; apply LW.v0; rfl; rfl; apply ValP.extractN; rfl; rfl; apply LW.v0; rfl; rfl; apply ValP.extractN; rfl; rfl; apply LW.v0; rfl; rfl; apply ValP.assign; rfl; apply LW.v0; rfl; rfl; apply ValP.assign; rfl; apply LW.nil; refine thenN ?_; refine CW.seq ?_; refine CW.seq ?_; refine CW.region ?_; apply LW.v0; rfl; rfl; apply ValP.move; rfl; apply LW.v0; rfl; rfl; apply ValP.move; rfl; apply LW.guardT'; rfl; rfl; (with_reducible rfl); apply LW.v0; rfl; rfl; apply ValP.move; rfl; apply LW.guardT'; rfl; rfl; (with_reducible rfl); apply LW.v0; rfl; rfl; apply ValP.notF; rfl; (with_reducible rfl); apply LW.v0; rfl; rfl; apply ValP.pickF'; rfl; (with_reducible rfl); rfl; apply LW.nil; refine thenN ?_; apply CW.condT; rfl; (with_reducible rfl); refine CW.seq ?_; refine CW.region ?_; apply LW.v0; rfl; rfl; apply ValP.assign; rfl; apply LW.nil; refine thenN ?_; refine CW.ret ?_; refine thenR ?_)
        (apply finR; exact .inl rfl; rfl; rfl; rfl; apply ResL.cons; exact Res.tmp rfl; exact ResL.nil)
        rfl
    · rw [decide_eq_true h] at hA0
      have hA := hA0
      rw [Nat.min_eq_right (by simp only [NOG]; simp only [M256] at h; omega)]
      obtain ⟨x, y, hS⟩ : ∃ x y, ∀ w, Calls Tryz.prog 121 #[wv ((a + n) % M256)] w (Ret w (.tuple #[.int .u64 ((x : Nat) : Int), .bool y])) := ⟨_, _, hS0⟩
      (refine CW.seq ?_; refine CW.region ?_; apply LW.boxA; rfl; rfl; intro _; apply LW.boxA; rfl; rfl; intro _; apply LW.v0; rfl; rfl; apply ValP.assign; rfl; apply LW.nil; refine thenN ?_; refine CW.seq ?_; refine CW.seq ?_; refine CW.region ?_; apply LW.load; rfl; rfl; apply Known.at; apply FsAt.head; exact Rd.whole rfl; apply LW.v0; rfl; rfl; exact ValP.buildW0; apply LW.v0; rfl; rfl; apply ValP.eqWF; rfl; rfl; assumption; assumption; assumption; apply LW.nil; refine thenN ?_; apply CW.condF; rfl; (with_reducible rfl); refine CW.skip ?_; refine thenN ?_; refine CW.seq ?_; refine CW.region ?_; apply LW.load; rfl; rfl; apply Known.at; apply FsAt.tail; apply FsAt.head; exact Rd.whole rfl; apply LW.load; rfl; rfl; apply Known.at; apply FsAt.head; exact Rd.whole rfl; apply LW.callE; rfl; rfl; infer_instance; apply ArgsOk.cons; rfl; apply ArgsOk.cons; rfl; exact ArgsOk.nil; intro w _; exact hA w; apply LW.v0; rfl; rfl; apply ValP.move; rfl; apply LW.v0; rfl; rfl; apply ValP.extractN; rfl; rfl; apply LW.v0; rfl; rfl; apply ValP.extractN; rfl; rfl; apply LW.allocW; rfl; intro _; apply LW.store; rfl; rfl; apply SetAt.head; apply Wr.whole; rfl; rfl; rfl; apply LW.v0; rfl; rfl; apply ValP.assign; rfl; apply LW.nil; refine thenN ?_; refine CW.seq ?_; refine CW.region ?_; apply LW.load; rfl; rfl; apply Known.at; apply FsAt.head; exact Rd.whole rfl; apply LW.callE; rfl; rfl; infer_instance; apply ArgsOk.cons; rfl; exact ArgsOk.nil; intro w _; exact hS w; apply LW.v0; rfl; rfl; apply ValP.move; rfl; apply LW.v0; rfl; rfl; apply ValP.extractN; rfl; rfl; apply LW.v0; rfl; rfl; apply ValP.extractN; rfl; rfl; apply LW.v0; rfl; rfl; apply ValP.assign; rfl; apply LW.v0; rfl; rfl; apply ValP.assign; rfl; apply LW.nil; refine thenN ?_; refine CW.seq ?_; refine CW.seq ?_; refine CW.region ?_; apply LW.v0; rfl; rfl; apply ValP.move; rfl; apply LW.v0; rfl; rfl; apply ValP.move; rfl; apply LW.guardF'; rfl; rfl; simp only [Bool.not_true, Bool.not_false]; rfl; apply LW.guardF'; rfl; rfl; simp only [Bool.not_true, Bool.not_false]; rfl; apply LW.v0; rfl; rfl; apply ValP.pickT'; rfl; (with_reducible rfl); rfl; apply LW.nil; refine thenN ?_; apply CW.condT; rfl; (with_reducible rfl); refine CW.seq ?_; refine CW.region ?_; apply LW.v0; rfl; rfl; apply ValP.assign; rfl; apply LW.nil; refine thenN ?_; refine CW.ret ?_; refine thenR ?_)
      (apply finR; exact .inl rfl; rfl; rfl; rfl; apply ResL.cons; exact Res.tmp rfl; exact ResL.nil)
      rfl
theorem Lend_calls (left asked : Nat) (hl : left < 18446744073709551616) (ha : asked < M256) (w : World) : Calls Tryz.prog 87 #[.int .u64 (left : Int), wv asked] w (Ret w (.int .u64 ((min asked (left - left / 64) : Nat) : Int))) := by
  have hS0 := Small_calls asked ha
  refine enter (args := [_, _]) _ [] [] Tryz.func87 rfl Tryz.ntmps87 rfl (by simp) .nil ?_
  rcases Nat.lt_or_ge asked 18446744073709551616 with hs | hs
  · rw [if_pos hs, decide_eq_true hs] at hS0
    have hS := hS0
    (refine CW.seq ?_; refine CW.region ?_; apply LW.boxA; rfl; rfl; intro _; apply LW.v0; rfl; rfl; apply ValP.assign; rfl; apply LW.nil; refine thenN ?_; refine CW.seq ?_; refine CW.region ?_; apply LW.load; rfl; rfl; apply Known.at; apply FsAt.head; exact Rd.whole rfl; apply LW.callE; rfl; rfl; infer_instance; apply ArgsOk.cons; rfl; exact ArgsOk.nil; intro w _; exact hS w; apply LW.v0; rfl; rfl; apply ValP.move; rfl; apply LW.v0; rfl; rfl; apply ValP.extractN; rfl; rfl; apply LW.v0; rfl; rfl; apply ValP.extractN; rfl; rfl; apply LW.v0; rfl; rfl; apply ValP.assign; rfl; apply LW.v0; rfl; rfl; apply ValP.assign; rfl; apply LW.nil; refine thenN ?_; refine CW.seq ?_; refine CW.seq ?_; refine CW.region ?_; apply LW.v0; rfl; rfl; apply ValP.move; rfl; apply LW.v0; rfl; rfl; apply ValP.notT; rfl; (with_reducible rfl); apply LW.nil; refine thenN ?_; apply CW.condF; rfl; (with_reducible rfl); refine CW.skip ?_; refine thenN ?_; refine CW.seq ?_; refine CW.region ?_; apply LW.v0; rfl; rfl; apply ValP.move; rfl; apply LW.v0; rfl; rfl; apply ValP.move; rfl; apply LW.callE; rfl; rfl; infer_instance; apply ArgsOk.cons; rfl; exact ArgsOk.nil; intro w _; refine Part_calls _ ?_ w; omega; apply LW.v0; rfl; rfl; apply ValP.minZ; rfl; rfl; apply LW.v0; rfl; rfl; apply ValP.assign; rfl; apply LW.nil; refine thenN ?_; refine CW.ret ?_)
    (apply finR; exact .inl rfl; rfl; rfl; rfl; apply ResL.cons; exact Res.tmp rfl; exact ResL.nil)
    rfl
  · rw [if_neg (Nat.not_lt.2 hs), decide_eq_false (Nat.not_lt.2 hs)] at hS0
    have hS := hS0
    rw [Nat.min_eq_right (by omega)]
    (refine CW.seq ?_; refine CW.region ?_; apply LW.boxA; rfl; rfl; intro _; apply LW.v0; rfl; rfl; apply ValP.assign; rfl; apply LW.nil; refine thenN ?_; refine CW.seq ?_; refine CW.region ?_; apply LW.load; rfl; rfl; apply Known.at; apply FsAt.head; exact Rd.whole rfl; apply LW.callE; rfl; rfl; infer_instance; apply ArgsOk.cons; rfl; exact ArgsOk.nil; intro w _; exact hS w; apply LW.v0; rfl; rfl; apply ValP.move; rfl; apply LW.v0; rfl; rfl; apply ValP.extractN; rfl; rfl; apply LW.v0; rfl; rfl; apply ValP.extractN; rfl; rfl; apply LW.v0; rfl; rfl; apply ValP.assign; rfl; apply LW.v0; rfl; rfl; apply ValP.assign; rfl; apply LW.nil; refine thenN ?_; refine CW.seq ?_; refine CW.seq ?_; refine CW.region ?_; apply LW.v0; rfl; rfl; apply ValP.move; rfl; apply LW.v0; rfl; rfl; apply ValP.notF; rfl; (with_reducible rfl); apply LW.nil; refine thenN ?_; apply CW.condT; rfl; (with_reducible rfl); refine CW.seq ?_; refine CW.region ?_; apply LW.v0; rfl; rfl; apply ValP.move; rfl; apply LW.callE; rfl; rfl; infer_instance; apply ArgsOk.cons; rfl; exact ArgsOk.nil; intro w _; refine Part_calls _ ?_ w; omega; apply LW.v0; rfl; rfl; apply ValP.assign; rfl; apply LW.nil; refine thenN ?_; refine CW.ret ?_; refine thenR ?_)
    (apply finR; exact .inl rfl; rfl; rfl; rfl; apply ResL.cons; exact Res.tmp rfl; exact ResL.nil)
    rfl
end Go.Proofs.YtpgdnfgjbhdbpaaGreatDoor

/-
  What is lent; what is spent together; where bytes end: the laws.
  Conditions: none.
-/
namespace Go.Proofs.YtpgdnfgjbhdbpaaGreatDoor
open Go Go.RowKit SL
set_option maxRecDepth 8000
set_option maxHeartbeats 4000000
set_option linter.unusedSimpArgs false
set_option linter.unusedVariables false
attribute [local irreducible] SL.CW SL.LW SL.DW Calls SL.Ret SL.RetG SL.beginQ SL.roundQ SL.rangeQ SL.inQ SL.RW SL.AnyW SL.thenQ SL.thenC SL.thenW SL.blkQ SL.finQ SL.ValP SL.NewP SL.SetP SL.CallP SL.Rd SL.Wr SL.Known
/-! ### Where bytes end -/
end Go.Proofs.YtpgdnfgjbhdbpaaGreatDoor

/-
  The document's answers on bytes: contracts.
  Conditions: none.
-/
namespace Go.Proofs.YtpgdnfgjbhdbpaaGreatDoor
open Go Go.RowKit SL
set_option maxRecDepth 8000
set_option maxHeartbeats 4000000
set_option linter.unusedSimpArgs false
set_option linter.unusedVariables false
attribute [local irreducible] SL.CW SL.LW SL.DW Calls SL.Ret SL.RetG SL.beginQ SL.roundQ SL.rangeQ SL.inQ SL.RW SL.AnyW SL.thenQ SL.thenC SL.thenW SL.blkQ SL.finQ SL.ValP SL.NewP SL.SetP SL.CallP SL.Rd SL.Wr SL.Known
end Go.Proofs.YtpgdnfgjbhdbpaaGreatDoor

/-
  Sums, differences, and how words stand: the law.
  Conditions: none.
-/
namespace Go.Proofs.YtpgdnfgjbhdbpaaGreatDoor
open Go Go.RowKit SL
set_option maxRecDepth 8000
set_option maxHeartbeats 4000000
set_option linter.unusedSimpArgs false
set_option linter.unusedVariables false
attribute [local irreducible] SL.CW SL.LW SL.DW Calls SL.Ret SL.RetG SL.beginQ SL.roundQ SL.rangeQ SL.inQ SL.RW SL.AnyW SL.thenQ SL.thenC SL.thenW SL.blkQ SL.finQ SL.ValP SL.NewP SL.SetP SL.CallP SL.Rd SL.Wr SL.Known
theorem wcs_app (l r : List Nat) : wcs (l ++ r) = wcs l ++ wcs r := by simp [wcs]
end Go.Proofs.YtpgdnfgjbhdbpaaGreatDoor

/-
  The sum of many: the law.
  Conditions: none.
-/
namespace Go.Proofs.YtpgdnfgjbhdbpaaGreatDoor
open Go Go.RowKit SL
set_option maxRecDepth 8000
set_option maxHeartbeats 4000000
set_option linter.unusedSimpArgs false
set_option linter.unusedVariables false
attribute [local irreducible] SL.CW SL.LW SL.DW Calls SL.Ret SL.RetG SL.beginQ SL.roundQ SL.rangeQ SL.inQ SL.RW SL.AnyW SL.thenQ SL.thenC SL.thenW SL.blkQ SL.finQ SL.ValP SL.NewP SL.SetP SL.CallP SL.Rd SL.Wr SL.Known
theorem wcs_cells (l : List Nat) : ∀ u ∈ wcs l, u.oneCell' = true := fun u hu => by
  obtain ⟨a, _, hb⟩ := List.mem_flatMap.1 hu
  simp only [wc, List.mem_cons, List.not_mem_nil, or_false] at hb
  rcases hb with rfl | rfl | rfl | rfl <;> rfl
structure RW1 where
  m : Nat
  seg : Fs
end Go.Proofs.YtpgdnfgjbhdbpaaGreatDoor

/-
  The document's answer in bits: products.
  Conditions: none.
-/
namespace Go.Proofs.YtpgdnfgjbhdbpaaGreatDoor
open Go Go.RowKit SL
set_option maxRecDepth 8000
set_option maxHeartbeats 4000000
set_option linter.unusedSimpArgs false
set_option linter.unusedVariables false
attribute [local irreducible] SL.CW SL.LW SL.DW Calls SL.Ret SL.RetG SL.beginQ SL.roundQ SL.rangeQ SL.inQ SL.RW SL.AnyW SL.thenQ SL.thenC SL.thenW SL.blkQ SL.finQ SL.ValP SL.NewP SL.SetP SL.CallP SL.Rd SL.Wr SL.Known
end Go.Proofs.YtpgdnfgjbhdbpaaGreatDoor

/-
  Products of words: contracts.
  Conditions: none.
-/
namespace Go.Proofs.YtpgdnfgjbhdbpaaGreatDoor
open Go Go.RowKit SL
set_option maxRecDepth 8000
set_option maxHeartbeats 4000000
set_option linter.unusedSimpArgs false
set_option linter.unusedVariables false
attribute [local irreducible] SL.CW SL.LW SL.DW Calls SL.Ret SL.RetG SL.beginQ SL.roundQ SL.rangeQ SL.inQ SL.RW SL.AnyW SL.thenQ SL.thenC SL.thenW SL.blkQ SL.finQ SL.ValP SL.NewP SL.SetP SL.CallP SL.Rd SL.Wr SL.Known
/-! ### Limbs -/
/-- A row of limbs' number. -/
def val : List Nat → Nat
  | [] => 0
  | x :: r => x + 18446744073709551616 * val r
structure MO where
  i : Nat
  L : List Nat
structure MI where
  k : Nat
  c : Nat
  L : List Nat
end Go.Proofs.YtpgdnfgjbhdbpaaGreatDoor

/-
  Sums and products hang on no order; what is divided, multiplied and added, is the word again: the laws.
  Conditions: none.
-/
namespace Go.Proofs.YtpgdnfgjbhdbpaaGreatDoor
open Go Go.RowKit SL
set_option maxRecDepth 8000
set_option maxHeartbeats 4000000
set_option linter.unusedSimpArgs false
set_option linter.unusedVariables false
attribute [local irreducible] SL.CW SL.LW SL.DW Calls SL.Ret SL.RetG SL.beginQ SL.roundQ SL.rangeQ SL.inQ SL.RW SL.AnyW SL.thenQ SL.thenC SL.thenW SL.blkQ SL.finQ SL.ValP SL.NewP SL.SetP SL.CallP SL.Rd SL.Wr SL.Known
end Go.Proofs.YtpgdnfgjbhdbpaaGreatDoor

/-
  The document's answer in bits: how many times a word is in another one; products: the law.
  Conditions: none.
-/
namespace Go.Proofs.YtpgdnfgjbhdbpaaGreatDoor
open Go Go.RowKit SL
set_option maxRecDepth 8000
set_option maxHeartbeats 4000000
set_option linter.unusedSimpArgs false
set_option linter.unusedVariables false
attribute [local irreducible] SL.CW SL.LW SL.DW Calls SL.Ret SL.RetG SL.beginQ SL.roundQ SL.rangeQ SL.inQ SL.RW SL.AnyW SL.thenQ SL.thenC SL.thenW SL.blkQ SL.finQ SL.ValP SL.NewP SL.SetP SL.CallP SL.Rd SL.Wr SL.Known
theorem SL.AtSeg.one {p : Nat × Obj} {r : Fs} : AtSeg (p :: r) [] [p] r := AtSeg.head (seg := [p])
end Go.Proofs.YtpgdnfgjbhdbpaaGreatDoor

/-
  Words moved up and down: contracts.
  Conditions: none.
-/
namespace Go.Proofs.YtpgdnfgjbhdbpaaGreatDoor
open Go Go.RowKit SL
set_option maxRecDepth 8000
set_option maxHeartbeats 4000000
set_option linter.unusedSimpArgs false
set_option linter.unusedVariables false
attribute [local irreducible] SL.CW SL.LW SL.DW Calls SL.Ret SL.RetG SL.beginQ SL.roundQ SL.rangeQ SL.inQ SL.RW SL.AnyW SL.thenQ SL.thenC SL.thenW SL.blkQ SL.finQ SL.ValP SL.NewP SL.SetP SL.CallP SL.Rd SL.Wr SL.Known
/-! ### Limbs of words that are moved -/
end Go.Proofs.YtpgdnfgjbhdbpaaGreatDoor

/-
  Words moved up and down: the walks.
  Conditions: none.
-/
namespace Go.Proofs.YtpgdnfgjbhdbpaaGreatDoor
open Go Go.RowKit SL
set_option maxRecDepth 8000
set_option maxHeartbeats 4000000
set_option linter.unusedSimpArgs false
set_option linter.unusedVariables false
attribute [local irreducible] SL.CW SL.LW SL.DW Calls SL.Ret SL.RetG SL.beginQ SL.roundQ SL.rangeQ SL.inQ SL.RW SL.AnyW SL.thenQ SL.thenC SL.thenW SL.blkQ SL.finQ SL.ValP SL.NewP SL.SetP SL.CallP SL.Rd SL.Wr SL.Known
end Go.Proofs.YtpgdnfgjbhdbpaaGreatDoor

/-
  Words moved down: the walk.
  Conditions: none.
-/
namespace Go.Proofs.YtpgdnfgjbhdbpaaGreatDoor
open Go Go.RowKit SL
set_option maxRecDepth 8000
set_option maxHeartbeats 4000000
set_option linter.unusedSimpArgs false
set_option linter.unusedVariables false
attribute [local irreducible] SL.CW SL.LW SL.DW Calls SL.Ret SL.RetG SL.beginQ SL.roundQ SL.rangeQ SL.inQ SL.RW SL.AnyW SL.thenQ SL.thenC SL.thenW SL.blkQ SL.finQ SL.ValP SL.NewP SL.SetP SL.CallP SL.Rd SL.Wr SL.Known
end Go.Proofs.YtpgdnfgjbhdbpaaGreatDoor

/-
  Words and their bytes: contracts.
  Conditions: none.
-/
namespace Go.Proofs.YtpgdnfgjbhdbpaaGreatDoor
open Go Go.RowKit SL
set_option maxRecDepth 8000
set_option maxHeartbeats 4000000
set_option linter.unusedSimpArgs false
set_option linter.unusedVariables false
attribute [local irreducible] SL.CW SL.LW SL.DW Calls SL.Ret SL.RetG SL.beginQ SL.roundQ SL.rangeQ SL.inQ SL.RW SL.AnyW SL.thenQ SL.thenC SL.thenW SL.blkQ SL.finQ SL.ValP SL.NewP SL.SetP SL.CallP SL.Rd SL.Wr SL.Known
/-! ### The same bytes? -/
/-! ### Bytes of a number, the highest one first -/
def beb (m a : Nat) : List UInt8 := (List.range m).map fun i => UInt8.ofNat (a / 256 ^ (m - 1 - i))
structure BX where
  m : Nat
  seg : Fs
/-! ### The word of bytes -/
def bev (l : List UInt8) : Nat := l.foldl (fun n u => 256 * n + u.toNat) 0
end Go.Proofs.YtpgdnfgjbhdbpaaGreatDoor

/-
  Bytes of words (for a seat that has the texts of words).
  Conditions: none.
-/
namespace Go.Proofs.YtpgdnfgjbhdbpaaGreatDoor.UK
open Go Go.RowKit SL
end Go.Proofs.YtpgdnfgjbhdbpaaGreatDoor.UK

/-
  Contracts of the pack: parts, which may be, which are the same.
  Conditions: none.
-/
namespace Go.Proofs.YtpgdnfgjbhdbpaaGreatDoor.UK
open Go Go.RowKit SL
set_option maxRecDepth 8000
set_option maxHeartbeats 4000000
set_option linter.unusedSimpArgs false
set_option linter.unusedVariables false
attribute [local irreducible] SL.CW SL.LW SL.DW Calls SL.Ret SL.RetG SL.beginQ SL.roundQ SL.rangeQ SL.inQ SL.RW SL.AnyW SL.thenQ SL.thenC SL.thenW SL.blkQ SL.finQ SL.ValP SL.NewP SL.SetP SL.CallP SL.Rd SL.Wr SL.Known
/-- A part: its mark, its word, the value of its bytes, and the bytes. -/
structure PartV where
  lg : Bool
  wd : Nat
  dv : Value
  db : List UInt8
def psc (p : PartV) : List Value := .bool p.lg :: ((wc p.wd).toList ++ [p.dv])
section rd
variable {P : Program} {T E : TypeId} {fr : Nat × Nat} {p : PartV}
end rd
/-- What a part's value says. -/
structure PartOk (p : PartV) : Prop where
  small : p.wd < M256
  form : ∃ q c, p.dv = .slice q p.db.length c
/-- Parts that may be read. -/
structure PartsAt (w : World) (v : Value) (l : List PartV) : Prop where
  row : RowAt w 6 v l.length (l.flatMap psc)
  small : ∀ p ∈ l, p.wd < M256
  data : ∀ p ∈ l, RowAt w 1 p.dv p.db.length (ucs p.db)
theorem PartsAt.st {w0 w : World} {v : Value} {l : List PartV} {fs : Fs} (h : PartsAt w0 v l) (hs : St w0 [] fs w) : PartsAt w v l :=
  ⟨h.row.st hs, h.small, fun p hp => (h.data p hp).st hs⟩
theorem PartsAt.ok {w : World} {v : Value} {l : List PartV} (h : PartsAt w v l) : ∀ p ∈ l, PartOk p := fun p hp => by
  obtain ⟨q, c, e, _, _⟩ := (h.data p hp).form
  exact ⟨h.small p hp, q, c, e⟩
theorem PartsAt.one {w : World} {v : Value} {l : List PartV} (h : PartsAt w v l) : ∀ p ∈ l, p.dv.oneCell' = true := fun p hp => by
  obtain ⟨q, c, e, _, _⟩ := (h.data p hp).form
  rw [e]; rfl
end Go.Proofs.YtpgdnfgjbhdbpaaGreatDoor.UK

/-
  Contracts of the pack: numbers, copies, which parts are the same.
  Conditions: none.
-/
namespace Go.Proofs.YtpgdnfgjbhdbpaaGreatDoor.UK
open Go Go.RowKit SL
set_option maxRecDepth 8000
set_option maxHeartbeats 4000000
set_option linter.unusedSimpArgs false
set_option linter.unusedVariables false
attribute [local irreducible] SL.CW SL.LW SL.DW Calls SL.Ret SL.RetG SL.beginQ SL.roundQ SL.rangeQ SL.inQ SL.RW SL.AnyW SL.thenQ SL.thenC SL.thenW SL.blkQ SL.finQ SL.ValP SL.NewP SL.SetP SL.CallP SL.Rd SL.Wr SL.Known
/-- A number of bytes, filled up to whole heads. -/
def whl (n : Nat) : Nat := (n + 31) / 32 * 32
end Go.Proofs.YtpgdnfgjbhdbpaaGreatDoor.UK

/-
  Contracts of the pack: which parts are the same.
  Conditions: none.
-/
namespace Go.Proofs.YtpgdnfgjbhdbpaaGreatDoor.UK
open Go Go.RowKit SL
set_option maxRecDepth 8000
set_option maxHeartbeats 4000000
set_option linter.unusedSimpArgs false
set_option linter.unusedVariables false
attribute [local irreducible] SL.CW SL.LW SL.DW Calls SL.Ret SL.RetG SL.beginQ SL.roundQ SL.rangeQ SL.inQ SL.RW SL.AnyW SL.thenQ SL.thenC SL.thenW SL.blkQ SL.finQ SL.ValP SL.NewP SL.SetP SL.CallP SL.Rd SL.Wr SL.Known
end Go.Proofs.YtpgdnfgjbhdbpaaGreatDoor.UK

/-
  Contracts of the pack: the bytes of parts.
  Conditions: none.
-/
namespace Go.Proofs.YtpgdnfgjbhdbpaaGreatDoor.UK
open Go Go.RowKit SL
set_option maxRecDepth 8000
set_option maxHeartbeats 4000000
set_option linter.unusedSimpArgs false
set_option linter.unusedVariables false
attribute [local irreducible] SL.CW SL.LW SL.DW Calls SL.Ret SL.RetG SL.beginQ SL.roundQ SL.rangeQ SL.inQ SL.RW SL.AnyW SL.thenQ SL.thenC SL.thenW SL.blkQ SL.finQ SL.ValP SL.NewP SL.SetP SL.CallP SL.Rd SL.Wr SL.Known
/-! ### The layout -/
def p00 : PartV := ⟨false, 0, .slice none 0 0, []⟩
/-- The part at a place. -/
def pt (l : List PartV) (k : Nat) : PartV := l.getD k p00
/-- A Long part's tail. -/
def tlB (b : List UInt8) : List UInt8 := beb 32 b.length ++ (b ++ List.replicate (whl b.length - b.length) 0)
/-- The tails of the first k parts. -/
def behK (l : List PartV) : Nat → List UInt8
  | 0 => []
  | k + 1 => behK l k ++ (if (pt l k).lg then tlB (pt l k).db else [])
/-- Where the tail of the k-th part begins. -/
def atF (l : List PartV) (k : Nat) : Nat := 32 * l.length + (behK l k).length
/-- The places of the first k parts' tails. -/
def plcK (l : List PartV) : Nat → List Nat
  | 0 => []
  | k + 1 => plcK l k ++ (if (pt l k).lg then [atF l k] else [])
/-- The heads of the first k parts. -/
def hdK (l : List PartV) : Nat → List UInt8
  | 0 => []
  | k + 1 => hdK l k ++ (if (pt l k).lg then beb 32 (atF l k) else beb 32 (pt l k).wd)
attribute [local irreducible] behK plcK hdK
/-! ### Lay -/
structure LX where
  k : Nat
  ov : Value
  segO : Fs
  q : Option Addr
  c : Nat
structure TLX where
  m : Nat
  bv : Value
  segB : Fs
  pv : Value
  segP : Fs
end Go.Proofs.YtpgdnfgjbhdbpaaGreatDoor.UK

/-
  Contracts of the pack: how many bytes parts have.
  Conditions: none.
-/
namespace Go.Proofs.YtpgdnfgjbhdbpaaGreatDoor.UK
open Go Go.RowKit SL
set_option maxRecDepth 8000
set_option maxHeartbeats 4000000
set_option linter.unusedSimpArgs false
set_option linter.unusedVariables false
attribute [local irreducible] SL.CW SL.LW SL.DW Calls SL.Ret SL.RetG SL.beginQ SL.roundQ SL.rangeQ SL.inQ SL.RW SL.AnyW SL.thenQ SL.thenC SL.thenW SL.blkQ SL.finQ SL.ValP SL.NewP SL.SetP SL.CallP SL.Rd SL.Wr SL.Known
end Go.Proofs.YtpgdnfgjbhdbpaaGreatDoor.UK

/-
  Contracts of the pack: what is left of bytes.
  Conditions: none.
-/
namespace Go.Proofs.YtpgdnfgjbhdbpaaGreatDoor.UK
open Go Go.RowKit SL
set_option maxRecDepth 8000
set_option maxHeartbeats 4000000
set_option linter.unusedSimpArgs false
set_option linter.unusedVariables false
attribute [local irreducible] SL.CW SL.LW SL.DW Calls SL.Ret SL.RetG SL.beginQ SL.roundQ SL.rangeQ SL.inQ SL.RW SL.AnyW SL.thenQ SL.thenC SL.thenW SL.blkQ SL.finQ SL.ValP SL.NewP SL.SetP SL.CallP SL.Rd SL.Wr SL.Known
/-! ### Taking bytes -/
def tkBad (bad : Bool) (l : List UInt8) (n : Nat) : Bool := bad || decide (l.length < n)
def tkB (bad : Bool) (l : List UInt8) (n : Nat) : List UInt8 := if tkBad bad l n then [] else l.take n
def tkL (bad : Bool) (l : List UInt8) (n : Nat) : List UInt8 := if tkBad bad l n then l else l.drop n
section lw
variable {w0 : World} {S : List Nat} {N : Nat} {ds : List Deferred} {r : Option Nat} {ops : Array Oper} {Q : Post} {rest : List Oper} {e : Env} {fs : Fs} {d : Nat} {t : TypeId} {pos : String} {af : Array Edge}
end lw
end Go.Proofs.YtpgdnfgjbhdbpaaGreatDoor.UK

/-
  Contracts of the pack: parts read.
  Conditions: none.
-/
namespace Go.Proofs.YtpgdnfgjbhdbpaaGreatDoor.UK
open Go Go.RowKit SL
set_option maxRecDepth 8000
set_option maxHeartbeats 4000000
set_option linter.unusedSimpArgs false
set_option linter.unusedVariables false
attribute [local irreducible] SL.CW SL.LW SL.DW Calls SL.Ret SL.RetG SL.beginQ SL.roundQ SL.rangeQ SL.inQ SL.RW SL.AnyW SL.thenQ SL.thenC SL.thenW SL.blkQ SL.finQ SL.ValP SL.NewP SL.SetP SL.CallP SL.Rd SL.Wr SL.Known
/-- What is left. -/
structure RS where
  hl : List UInt8
  hb : Bool
  tl : List UInt8
  tb : Bool
  pl : Nat
def hd32 (s : RS) : Nat := bev (tkB s.hb s.hl 32)
def lgN (s : RS) : Nat := bev (tkB s.tb s.tl 32)
def lgT1 (s : RS) : List UInt8 := tkL s.tb s.tl 32
def lgB1 (s : RS) : Bool := tkBad s.tb s.tl 32
def lgT2 (s : RS) : List UInt8 := tkL (lgB1 s) (lgT1 s) (lgN s)
def lgB2 (s : RS) : Bool := tkBad (lgB1 s) (lgT1 s) (lgN s)
def lgP (s : RS) : List UInt8 := tkB (lgB2 s) (lgT2 s) (whl (lgN s) - lgN s)
def lgT3 (s : RS) : List UInt8 := tkL (lgB2 s) (lgT2 s) (whl (lgN s) - lgN s)
def lgB3 (s : RS) : Bool := tkBad (lgB2 s) (lgT2 s) (whl (lgN s) - lgN s)
def nz (l : List UInt8) : Bool := l.any (fun u => decide (u.toNat ≠ 0))
def lgOk (s : RS) : Bool := decide (hd32 s = s.pl ∧ lgN s ≤ 200)
/-- What is left behind a Long part. -/
def lgS (s : RS) : RS := if lgOk s then ⟨tkL s.hb s.hl 32, tkBad s.hb s.hl 32 || nz (lgP s), lgT3 s, lgB3 s, s.pl + (32 + whl (lgN s))⟩ else ⟨tkL s.hb s.hl 32, true, lgT1 s, lgB1 s, s.pl⟩
/-- What is left behind a word. -/
def shS (s : RS) : RS := ⟨tkL s.hb s.hl 32, tkBad s.hb s.hl 32, s.tl, s.tb, s.pl⟩
end Go.Proofs.YtpgdnfgjbhdbpaaGreatDoor.UK

/-
  Contracts of the pack: parts of bytes.
  Conditions: none.
-/
namespace Go.Proofs.YtpgdnfgjbhdbpaaGreatDoor.UK
open Go Go.RowKit SL
set_option maxRecDepth 8000
set_option maxHeartbeats 4000000
set_option linter.unusedSimpArgs false
set_option linter.unusedVariables false
attribute [local irreducible] SL.CW SL.LW SL.DW Calls SL.Ret SL.RetG SL.beginQ SL.roundQ SL.rangeQ SL.inQ SL.RW SL.AnyW SL.thenQ SL.thenC SL.thenW SL.blkQ SL.finQ SL.ValP SL.NewP SL.SetP SL.CallP SL.Rd SL.Wr SL.Known
/-- What is left behind the first k parts. -/
def rsK (b : List UInt8) (fm : List Bool) : Nat → RS
  | 0 => ⟨b.take (32 * fm.length), false, b.drop (32 * fm.length), false, 32 * fm.length⟩
  | k + 1 => if fm.getD k false then lgS (rsK b fm k) else shS (rsK b fm k)
attribute [local irreducible] rsK
/-- The parts' bytes lie where these facts say. -/
def DatAt (gs : Fs) (ps : List PartV) : Prop := ∀ w : World, (∀ q ∈ gs, w.heap[q.1]? = some q.2) → ∀ p ∈ ps, RowAt w 1 p.dv p.db.length (ucs p.db)
theorem DatAt.nil {gs : Fs} : DatAt gs [] := fun _ _ _ h => by cases h
theorem DatAt.app {gs hs : Fs} {ps qs : List PartV} (h : DatAt gs ps) (k : DatAt hs qs) : DatAt (hs ++ gs) (ps ++ qs) := fun w hw p hp => by
  rcases List.mem_append.1 hp with hp | hp
  · exact h w (fun q hq => hw q (List.mem_append_right _ hq)) p hp
  · exact k w (fun q hq => hw q (List.mem_append_left _ hq)) p hp
structure GX where
  k : Nat
  ov : Value
  segO : Fs
  ps : List PartV
  gsD : Fs
  hv : Value
  tv : Value
end Go.Proofs.YtpgdnfgjbhdbpaaGreatDoor.UK

/-
  Contracts of the pack's laws: does the layer do anything?
  Conditions: none.
-/
namespace Go.Proofs.YtpgdnfgjbhdbpaaGreatDoor.UK
open Go Go.RowKit SL
set_option maxRecDepth 8000
set_option maxHeartbeats 4000000
set_option linter.unusedSimpArgs false
set_option linter.unusedVariables false
attribute [local irreducible] SL.CW SL.LW SL.DW Calls SL.Ret SL.RetG SL.beginQ SL.roundQ SL.rangeQ SL.inQ SL.RW SL.AnyW SL.thenQ SL.thenC SL.thenW SL.blkQ SL.finQ SL.ValP SL.NewP SL.SetP SL.CallP SL.Rd SL.Wr SL.Known
theorem LW.st {C : Cu} {ops : Array Oper} {Q : Post} {l : List Oper} {e : Env} {fs : Fs} (h : ∀ w, St C.w0 C.S fs w → LW C ops Q l e fs) : LW C ops Q l e fs := by
  unfold SL.LW at h ⊢
  exact fun a w hs => h w hs.st a w hs
theorem st_us {w0 w : World} {S : List Nat} {fs gs : Fs} (hs : St w0 S fs w) (h : List.Sublist gs fs) : ∀ q ∈ gs, w.heap[q.1]? = some q.2 := fun q hq => (hs.own q (h.subset hq)).2
end Go.Proofs.YtpgdnfgjbhdbpaaGreatDoor.UK

/-
  Contracts of the pack's references: which bytes, and which parts, are the same.
  Conditions: none.
-/
namespace Go.Proofs.YtpgdnfgjbhdbpaaGreatDoor.UK
open Go Go.RowKit SL
set_option maxRecDepth 8000
set_option maxHeartbeats 4000000
set_option linter.unusedSimpArgs false
set_option linter.unusedVariables false
attribute [local irreducible] SL.CW SL.LW SL.DW Calls SL.Ret SL.RetG SL.beginQ SL.roundQ SL.rangeQ SL.inQ SL.RW SL.AnyW SL.thenQ SL.thenC SL.thenW SL.blkQ SL.finQ SL.ValP SL.NewP SL.SetP SL.CallP SL.Rd SL.Wr SL.Known
end Go.Proofs.YtpgdnfgjbhdbpaaGreatDoor.UK

/-
  Contracts of the pack's laws: forms, copies; which parts may be.
  Conditions: none.
-/
namespace Go.Proofs.YtpgdnfgjbhdbpaaGreatDoor.UK
open Go Go.RowKit SL
set_option maxRecDepth 8000
set_option maxHeartbeats 4000000
set_option linter.unusedSimpArgs false
set_option linter.unusedVariables false
attribute [local irreducible] SL.CW SL.LW SL.DW Calls SL.Ret SL.RetG SL.beginQ SL.roundQ SL.rangeQ SL.inQ SL.RW SL.AnyW SL.thenQ SL.thenC SL.thenW SL.blkQ SL.finQ SL.ValP SL.NewP SL.SetP SL.CallP SL.Rd SL.Wr SL.Known
/-! ### form -/
structure FX where
  k : Nat
  ov : Value
  seg : Fs
/-! ### few -/
end Go.Proofs.YtpgdnfgjbhdbpaaGreatDoor.UK

/-
  Contracts of the pack's references: words compared; which parts may be; tails; the bytes of parts.
  Conditions: none.
-/
namespace Go.Proofs.YtpgdnfgjbhdbpaaGreatDoor.UK
open Go Go.RowKit SL
set_option maxRecDepth 8000
set_option maxHeartbeats 4000000
set_option linter.unusedSimpArgs false
set_option linter.unusedVariables false
attribute [local irreducible] SL.CW SL.LW SL.DW Calls SL.Ret SL.RetG SL.beginQ SL.roundQ SL.rangeQ SL.inQ SL.RW SL.AnyW SL.thenQ SL.thenC SL.thenW SL.blkQ SL.finQ SL.ValP SL.NewP SL.SetP SL.CallP SL.Rd SL.Wr SL.Known
/-! ### Which parts may be -/
end Go.Proofs.YtpgdnfgjbhdbpaaGreatDoor.UK

/-
  Contracts of the pack's references: tails, the bytes of parts.
  Conditions: none.
-/
namespace Go.Proofs.YtpgdnfgjbhdbpaaGreatDoor.UK
open Go Go.RowKit SL
set_option maxRecDepth 8000
set_option maxHeartbeats 4000000
set_option linter.unusedSimpArgs false
set_option linter.unusedVariables false
attribute [local irreducible] SL.CW SL.LW SL.DW Calls SL.Ret SL.RetG SL.beginQ SL.roundQ SL.rangeQ SL.inQ SL.RW SL.AnyW SL.thenQ SL.thenC SL.thenW SL.blkQ SL.finQ SL.ValP SL.NewP SL.SetP SL.CallP SL.Rd SL.Wr SL.Known
structure HX where
  k : Nat
  hv : Value
  segH : Fs
  tv : Value
  segT : Fs
end Go.Proofs.YtpgdnfgjbhdbpaaGreatDoor.UK

/-
  The pack in plain words: parts and their bytes lead back to one another.
  Conditions: none.
-/
namespace Go.Proofs.YtpgdnfgjbhdbpaaGreatDoor.UK
open Go Go.RowKit SL
/-! ### Bytes of a word -/
/-! ### Only what the parts say matters -/
/-! ### What is laid is read -/
/-! ### What is read is laid -/
end Go.Proofs.YtpgdnfgjbhdbpaaGreatDoor.UK

/-
  Operations of accounts: what their values say; addresses read; the greatest of numbers.
  Conditions: none.
-/
namespace Go.Proofs.YtpgdnfgjbhdbpaaGreatDoor.UK
open Go Go.RowKit SL
set_option maxRecDepth 8000
set_option maxHeartbeats 4000000
set_option linter.unusedSimpArgs false
set_option linter.unusedVariables false
attribute [local irreducible] SL.CW SL.LW SL.DW Calls SL.Ret SL.RetG SL.beginQ SL.roundQ SL.rangeQ SL.inQ SL.RW SL.AnyW SL.thenQ SL.thenC SL.thenW SL.blkQ SL.finQ SL.ValP SL.NewP SL.SetP SL.CallP SL.Rd SL.Wr SL.Known
/-- An operation: its numbers, the values of its bytes, and the bytes. -/
structure OpV where
  sd : Nat
  no : Nat
  iv : Value
  ib : List UInt8
  cv : Value
  cb : List UInt8
  vg : Nat
  cg : Nat
  pg : Nat
  mf : Nat
  mp : Nat
  py : Nat
  pv : Nat
  pp : Nat
  dv : Value
  db : List UInt8
  gv : Value
  gb : List UInt8
def opc (u : OpV) : List Value := .int .u64 (u.sd : Int) :: ((wc u.no).toList ++ [u.iv, u.cv, .int .u64 (u.vg : Int), .int .u64 (u.cg : Int), .int .u64 (u.pg : Int), .int .u64 (u.mf : Int), .int .u64 (u.mp : Int), .int .u64 (u.py : Int), .int .u64 (u.pv : Int), .int .u64 (u.pp : Int), u.dv, u.gv])
section rd
variable {P : Program} {T E : TypeId} {fr : Nat × Nat} {u : OpV}
end rd
/-- An operation's numbers are numbers, and its bytes may be read. -/
structure OpNum (u : OpV) : Prop where
  sd : u.sd < 18446744073709551616
  no : u.no < M256
  vg : u.vg < 18446744073709551616
  cg : u.cg < 18446744073709551616
  pg : u.pg < 18446744073709551616
  mf : u.mf < 18446744073709551616
  mp : u.mp < 18446744073709551616
  py : u.py < 18446744073709551616
  pv : u.pv < 18446744073709551616
  pp : u.pp < 18446744073709551616
structure OpAt (w : World) (u : OpV) : Prop where
  num : OpNum u
  i : RowAt w 1 u.iv u.ib.length (ucs u.ib)
  c : RowAt w 1 u.cv u.cb.length (ucs u.cb)
  d : RowAt w 1 u.dv u.db.length (ucs u.db)
  g : RowAt w 1 u.gv u.gb.length (ucs u.gb)
theorem OpAt.st {w0 w : World} {u : OpV} {fs : Fs} (h : OpAt w0 u) (hs : St w0 [] fs w) : OpAt w u := ⟨h.num, h.i.st hs, h.c.st hs, h.d.st hs, h.g.st hs⟩
theorem OpAt.bel {w0 w : World} {u : OpV} (h : OpAt w0 u) (hb : Bel w0.heap.size [] w0 w) : OpAt w u := ⟨h.num, h.i.bel hb, h.c.bel hb, h.d.bel hb, h.g.bel hb⟩
/-! ### Addresses -/
/-- The address that bytes begin with. -/
def adr (l : List UInt8) : Nat := bev (l.take 8)
/-! ### The greatest of numbers -/
end Go.Proofs.YtpgdnfgjbhdbpaaGreatDoor.UK

/-
  Operations of accounts: which may be.
  Conditions: none.
-/
namespace Go.Proofs.YtpgdnfgjbhdbpaaGreatDoor.UK
open Go Go.RowKit SL
set_option maxRecDepth 8000
set_option maxHeartbeats 4000000
set_option linter.unusedSimpArgs false
set_option linter.unusedVariables false
attribute [local irreducible] SL.CW SL.LW SL.DW Calls SL.Ret SL.RetG SL.beginQ SL.roundQ SL.rangeQ SL.inQ SL.RW SL.AnyW SL.thenQ SL.thenC SL.thenW SL.blkQ SL.finQ SL.ValP SL.NewP SL.SetP SL.CallP SL.Rd SL.Wr SL.Known
/-- May an operation be? -/
def okU (u : OpV) : Prop := (16 ≤ u.sd ∧ u.mp ≤ u.mf) ∧ (u.vg ≤ 20000 ∧ u.cg ≤ 20000 ∧ u.pg ≤ 20000 ∧ u.pv ≤ 20000 ∧ u.pp ≤ 20000) ∧ (u.ib.length ≤ 200 ∧ u.cb.length ≤ 200 ∧ u.db.length ≤ 200 ∧ u.gb.length ≤ 200) ∧
  (u.py = 0 → u.pv = 0 ∧ u.pp = 0 ∧ u.db.length = 0) ∧ (u.ib.length = 0 ∨ 8 ≤ u.ib.length ∧ adr u.ib ≠ 0)
instance (u : OpV) : Decidable (okU u) := by unfold okU; infer_instance
end Go.Proofs.YtpgdnfgjbhdbpaaGreatDoor.UK

/-
  Operations of accounts: which may be, by the document.
  Conditions: none.
-/
namespace Go.Proofs.YtpgdnfgjbhdbpaaGreatDoor.UK
open Go Go.RowKit SL
set_option maxRecDepth 8000
set_option maxHeartbeats 4000000
set_option linter.unusedSimpArgs false
set_option linter.unusedVariables false
attribute [local irreducible] SL.CW SL.LW SL.DW Calls SL.Ret SL.RetG SL.beginQ SL.roundQ SL.rangeQ SL.inQ SL.RW SL.AnyW SL.thenQ SL.thenC SL.thenW SL.blkQ SL.finQ SL.ValP SL.NewP SL.SetP SL.CallP SL.Rd SL.Wr SL.Known
end Go.Proofs.YtpgdnfgjbhdbpaaGreatDoor.UK

/-
  A machine: its block; gas spent.
  Conditions: none.
-/
namespace Go.Proofs.YtpgdnfgjbhdbpaaGreatDoor
open Go Go.RowKit SL
set_option maxRecDepth 8000
set_option maxHeartbeats 4000000
set_option linter.unusedSimpArgs false
set_option linter.unusedVariables false
attribute [local irreducible] SL.CW SL.LW SL.DW Calls SL.Ret SL.RetG SL.beginQ SL.roundQ SL.rangeQ SL.inQ SL.RW SL.AnyW SL.thenQ SL.thenC SL.thenW SL.blkQ SL.finQ SL.ValP SL.NewP SL.SetP SL.CallP SL.Rd SL.Wr SL.Known
/-- What a frame's cells say. -/
structure FrV where
  code : Value
  pc : Int
  stk : Value
  mem : Value
  gas : Nat
  self : Nat
  frm : Nat
  val : Nat
  inp : Value
  back : Value
  stat : Bool
def frc (f : FrV) : List Value := f.code :: .int .i64 f.pc :: f.stk :: f.mem :: .int .u64 (f.gas : Int) :: .int .u64 (f.self : Int) :: .int .u64 (f.frm : Int) :: ((wc f.val).toList ++ [f.inp, f.back, .bool f.stat])
/-- What a machine's cells say. -/
structure MaV where
  fr : FrV
  e0 : Nat
  e1 : Nat
  e2 : Nat
  e3 : Nat
  took : Value
  kind : Int
  op : Nat
  words : Value
  data : Value
def mcl (m : MaV) : List Value := frc m.fr ++ [.int .u64 (m.e0 : Int), .int .u64 (m.e1 : Int), .int .u64 (m.e2 : Int), .int .u64 (m.e3 : Int), m.took, .int .i64 m.kind, .int .u8 (m.op : Int), m.words, m.data]
def mca (m : MaV) : Array Value := (mcl m).toArray
abbrev maO (m : MaV) : Obj := .cells (mca m) 155 (0, 0)
def MaV.setGas (m : MaV) (g : Nat) : MaV := { m with fr := { m.fr with gas := g } }
def MaV.setSc (m : MaV) (s k : Value) : MaV := { m with fr := { m.fr with stk := s, mem := k } }
section rd
variable {P : Program} {T E : TypeId} {fr : Nat × Nat} {m : MaV}
theorem ma_rd4 [AgI P T false] : Rd P T (.cells (mca m) E fr) 4 (.int .u64 (m.fr.gas : Int)) := Rd.one rfl
theorem ma_rd3 [AgI P T false] : Rd P T (.cells (mca m) E fr) 3 m.fr.mem := Rd.one rfl
theorem ma_rd2 [AgI P T true] {z : Value} [InfoI P T 2 z] : Rd P T (.cells (mca m) E fr) 2 (.agg #[m.fr.stk, m.fr.mem]) := Rd.mid (cs := [m.fr.stk, m.fr.mem]) rfl rfl
theorem ma_wr4 {z : Value} {g : Nat} [InfoI P T 1 z] : Wr P T (.cells (mca m) E (0, 0)) 4 (.int .u64 (g : Int)) (.cells (mca (m.setGas g)) E (0, 0)) := Wr.cells (n := 1) (z := z) rfl rfl (by show 4 + 1 ≤ 23; omega) rfl
theorem ma_wr2 {z s k : Value} [InfoI P T 2 z] (hs : s.oneCell' = true) (hk : k.oneCell' = true) (hsc : s.cells = #[s]) (hkc : k.cells = #[k]) : Wr P T (.cells (mca m) E (0, 0)) 2 (.agg #[s, k]) (.cells (mca (m.setSc s k)) E (0, 0)) :=
  Wr.cells (n := 2) (z := z) rfl (by show (s.oneCell' && (k.oneCell' && true)) = true; rw [hs, hk]; rfl) (by show 2 + 2 ≤ 23; omega) rfl
end rd
attribute [local irreducible] SL.inP
def MaK (b : Nat) (m : MaV) (r : Option MaV) (rest : Fs) : Out := fun x fs' => match r with
  | some m' => x = .returned (.tuple #[]) ∧ fs' = (b, maO m') :: rest
  | none => x = .panicked failC ∧ fs' = (b, maO m) :: rest
def spendM (m : MaV) (l : List Nat) : Option MaV := if l.sum ≤ m.fr.gas then some (m.setGas (m.fr.gas - l.sum)) else none
theorem spend_calls (w0 : World) (S : List Nat) (b : Nat) (m : MaV) (l : List Nat) (hg : m.fr.gas < 18446744073709551616) (v : Value) (rest : Fs) (w : World) (hs : St w0 S ((b, maO m) :: rest) w) (hv : ∀ w', St w0 S ((b, maO m) :: rest) w' → RowAt w' 1 v l.length (ncs l)) :
    Calls Tryz.prog 77 #[.pointer (some ⟨b, 0, none⟩), v] w (fun x w' => ∃ fs', MaK b m (spendM m l) rest x fs' ∧ St w0 S fs' w') := by
  by_cases hle : l.sum ≤ m.fr.gas
  · have hSp : ∀ w', St w0 S ((b, maO m) :: rest) w' → Calls Tryz.prog 116 #[.int .u64 (m.fr.gas : Int), v] w' (Ret w' (.tuple #[.int .u64 ((m.fr.gas - l.sum : Nat) : Int), .bool true])) := fun w' hw => by
      have h := Spend_calls m.fr.gas l hg v w' (hv w' hw)
      rwa [spendV, if_pos hle] at h
    refine calls_inlineP (args := [_, _]) Tryz.func77 rfl Tryz.ntmps77 rfl ?_ hs
    (refine sRz ?_; refine vMz ?_; refine vNz ?_; refine vFz ?_; refine vFz ?_; refine ldz rfl .head ma_rd4 ?_; refine vMz ?_; apply LW.callE; rfl; rfl; infer_instance; exact .cons rfl (.cons rfl .nil); intro w _; exact hSp w (by assumption); refine vMz ?_; refine vEz ?_; refine vEz ?_; refine vAz ?_; refine vAz ?_; refine nSz ?_; refine vMz ?_; apply LW.callE; rfl; rfl; infer_instance; exact .cons rfl .nil; intro w _; exact need_true w; refine nNz ?_; refine CW.region ?_; refine vMz ?_; refine vMz ?_; refine vNz ?_; refine vFz ?_; refine vFz ?_; apply LW.store; rfl; rfl; apply SetAt.head; apply ma_wr4 (z := .int .u64 0); apply LW.nil)
    exact inPI (.inr rfl) .nil rfl .nil rfl (by unfold spendM; rw [if_pos hle]; exact ⟨rfl, rfl⟩)
  · have hSp : ∀ w', St w0 S ((b, maO m) :: rest) w' → Calls Tryz.prog 116 #[.int .u64 (m.fr.gas : Int), v] w' (Ret w' (.tuple #[.int .u64 0, .bool false])) := fun w' hw => by
      have h := Spend_calls m.fr.gas l hg v w' (hv w' hw)
      rwa [spendV, if_neg hle] at h
    refine calls_inlineP (args := [_, _]) Tryz.func77 rfl Tryz.ntmps77 rfl ?_ hs
    (refine sRz ?_; refine vMz ?_; refine vNz ?_; refine vFz ?_; refine vFz ?_; refine ldz rfl .head ma_rd4 ?_; refine vMz ?_; apply LW.callE; rfl; rfl; infer_instance; exact .cons rfl (.cons rfl .nil); intro w _; exact hSp w (by assumption); refine vMz ?_; refine vEz ?_; refine vEz ?_; refine vAz ?_; refine vAz ?_; refine nSz ?_; refine vMz ?_)
    refine LW.callP (K := NeedK ((b, maO m) :: rest)) rfl rfl inferInstance (by (exact .cons rfl .nil)) rfl (fun fs h => by cases h.1) (fun w' hst => need_false w0 S _ w' hst) ?_ ?_
    · rintro v fs' ⟨h, _⟩
      cases h
    · rintro ch fs' ⟨h, rfl⟩
      cases h
      refine thenP ?_
      exact inPP .nil (by unfold spendM; rw [if_neg hle]; exact ⟨rfl, rfl⟩)
end Go.Proofs.YtpgdnfgjbhdbpaaGreatDoor

/-
  Contracts of the library: strings that are built, bytes compared, digits.
  Conditions: none.
-/
namespace Go.Proofs.YtpgdnfgjbhdbpaaGreatDoor.SK
open Go Go.RowKit SL
set_option maxRecDepth 8000
set_option maxHeartbeats 4000000
set_option linter.unusedSimpArgs false
set_option linter.unusedVariables false
attribute [local irreducible] SL.CW SL.LW SL.DW Calls SL.Ret SL.RetG SL.beginQ SL.roundQ SL.rangeQ SL.inQ SL.RW SL.AnyW SL.thenQ SL.thenC SL.thenW SL.blkQ SL.finQ SL.ValP SL.NewP SL.SetP SL.CallP SL.Rd SL.Wr SL.Known
def bev (l : List UInt8) : Nat := l.foldl (fun n u => 256 * n + u.toNat) 0
def hexu (u : UInt8) : Option Nat := if 48 ≤ u.toNat ∧ u.toNat ≤ 57 then some (u.toNat - 48) else if 97 ≤ u.toNat ∧ u.toNat ≤ 102 then some (u.toNat - 87) else none
def hexi (c : Nat) : Int := match hexu (UInt8.ofNat c) with | some d => (d : Int) | none => -1
end Go.Proofs.YtpgdnfgjbhdbpaaGreatDoor.SK

/-
  Contracts of the sponge: digests in digits.
  Conditions: none.
-/
namespace Go.Proofs.YtpgdnfgjbhdbpaaGreatDoor.SK
open Go Go.RowKit SL
set_option maxRecDepth 8000
set_option maxHeartbeats 4000000
set_option linter.unusedSimpArgs false
set_option linter.unusedVariables false
attribute [local irreducible] SL.CW SL.LW SL.DW Calls SL.Ret SL.RetG SL.beginQ SL.roundQ SL.rangeQ SL.inQ SL.RW SL.AnyW SL.thenQ SL.thenC SL.thenW SL.blkQ SL.finQ SL.ValP SL.NewP SL.SetP SL.CallP SL.Rd SL.Wr SL.Known
structure TX where
  m : Nat
  p : Value
  v : Value
  seg : Fs
/-! ### The document's -/
end Go.Proofs.YtpgdnfgjbhdbpaaGreatDoor.SK

/-
  Contracts of the sponge: how digests stand.
  Conditions: none.
-/
namespace Go.Proofs.YtpgdnfgjbhdbpaaGreatDoor.SK
open Go Go.RowKit SL
set_option maxRecDepth 8000
set_option maxHeartbeats 4000000
set_option linter.unusedSimpArgs false
set_option linter.unusedVariables false
attribute [local irreducible] SL.CW SL.LW SL.DW Calls SL.Ret SL.RetG SL.beginQ SL.roundQ SL.rangeQ SL.inQ SL.RW SL.AnyW SL.thenQ SL.thenC SL.thenW SL.blkQ SL.finQ SL.ValP SL.NewP SL.SetP SL.CallP SL.Rd SL.Wr SL.Known
/-! ### The document's -/
end Go.Proofs.YtpgdnfgjbhdbpaaGreatDoor.SK

/-
  Contracts of the sponge: places, turns.
  Conditions: none.
-/
namespace Go.Proofs.YtpgdnfgjbhdbpaaGreatDoor.SK
open Go Go.RowKit SL
set_option maxRecDepth 8000
set_option maxHeartbeats 4000000
set_option linter.unusedSimpArgs false
set_option linter.unusedVariables false
attribute [local irreducible] SL.CW SL.LW SL.DW Calls SL.Ret SL.RetG SL.beginQ SL.roundQ SL.rangeQ SL.inQ SL.RW SL.AnyW SL.thenQ SL.thenC SL.thenW SL.blkQ SL.finQ SL.ValP SL.NewP SL.SetP SL.CallP SL.Rd SL.Wr SL.Known
def rotl (x n : Nat) : Nat := (x * 2 ^ n % 18446744073709551616) ||| (x / 2 ^ (64 - n))
/-! ### Rows -/
def rowV (L : List Nat) (x y : Nat) : Nat := L.getD (5 * (y % 5) + x % 5) 0 ^^^ ((18446744073709551615 - L.getD (5 * (y % 5) + (x + 1) % 5) 0) &&& L.getD (5 * (y % 5) + (x + 2) % 5) 0)
def rowsF (L : List Nat) : Nat → List Nat
  | 0 => List.replicate 25 0
  | k + 1 => (rowsF L k).set (5 * (k / 5 % 5) + k % 5 % 5) (rowV L (k % 5) (k / 5))
end Go.Proofs.YtpgdnfgjbhdbpaaGreatDoor.SK

/-
  Contracts of the sponge: lanes mixed.
  Conditions: none.
-/
namespace Go.Proofs.YtpgdnfgjbhdbpaaGreatDoor.SK
open Go Go.RowKit SL
set_option maxRecDepth 8000
set_option maxHeartbeats 4000000
set_option linter.unusedSimpArgs false
set_option linter.unusedVariables false
attribute [local irreducible] SL.CW SL.LW SL.DW Calls SL.Ret SL.RetG SL.beginQ SL.roundQ SL.rangeQ SL.inQ SL.RW SL.AnyW SL.thenQ SL.thenC SL.thenW SL.blkQ SL.finQ SL.ValP SL.NewP SL.SetP SL.CallP SL.Rd SL.Wr SL.Known
/-! ### The tables that are laid -/
def turnL : List Nat := [0, 1, 62, 28, 27, 36, 44, 6, 55, 20, 3, 10, 43, 25, 39, 41, 45, 15, 21, 8, 18, 2, 61, 56, 14]
def numL : List Nat := [1, 32898, 9223372036854808714, 9223372039002292224, 32907, 2147483649, 9223372039002292353, 9223372036854808585, 138, 136, 2147516425, 2147483658, 2147516555, 9223372036854775947, 9223372036854808713, 9223372036854808579, 9223372036854808578, 9223372036854775936, 32778, 9223372039002259466, 9223372039002292353, 9223372036854808704, 2147483649, 9223372039002292232]
def ica (L : List Nat) : Array Value := (ics L).toArray
def NumAt (w : World) : Prop := ∃ E fr, w.heap[1]? = some (.cells (nca numL) E fr)
def TurnAt (w : World) : Prop := ∃ E fr, w.heap[2]? = some (.cells (ica turnL) E fr)
theorem NumAt.st {w w' : World} {fs : Fs} (h : NumAt w) (hs : St w [] fs w') : NumAt w' := by
  obtain ⟨E, fr, h⟩ := h
  exact ⟨E, fr, by rw [hs.bel.block _ (Array.getElem?_eq_some_iff.1 h).1 (by simp)]; exact h⟩
theorem TurnAt.st {w w' : World} {fs : Fs} (h : TurnAt w) (hs : St w [] fs w') : TurnAt w' := by
  obtain ⟨E, fr, h⟩ := h
  exact ⟨E, fr, by rw [hs.bel.block _ (Array.getElem?_eq_some_iff.1 h).1 (by simp)]; exact h⟩
/-! ### Mix -/
def cF (L : List Nat) : Nat → List Nat
  | 0 => List.replicate 5 0
  | k + 1 => (cF L k).set (k % 5) ((cF L k).getD (k % 5) 0 ^^^ L.getD (5 * (k / 5 % 5) + k % 5 % 5) 0)
def mixV (L C : List Nat) (x y : Nat) : Nat := rotl (L.getD (5 * (y % 5) + x % 5) 0 ^^^ (C.getD ((x + 5 - 1) % 5) 0 ^^^ rotl (C.getD ((x + 1) % 5) 0) 1)) (turnL.getD (5 * (y % 5) + x % 5) 0)
def mixF (L C : List Nat) : Nat → List Nat
  | 0 => List.replicate 25 0
  | k + 1 => (mixF L C k).set (5 * ((2 * (k % 5) + 3 * (k / 5)) % 5) + k / 5 % 5) (mixV L C (k % 5) (k / 5))
def mixL (L : List Nat) : List Nat := mixF L (cF L 25) 25
attribute [local irreducible] turnL cF mixF
end Go.Proofs.YtpgdnfgjbhdbpaaGreatDoor.SK

/-
  Contracts of the sponge: rounds.
  Conditions: none.
-/
namespace Go.Proofs.YtpgdnfgjbhdbpaaGreatDoor.SK
open Go Go.RowKit SL
set_option maxRecDepth 8000
set_option maxHeartbeats 4000000
set_option linter.unusedSimpArgs false
set_option linter.unusedVariables false
attribute [local irreducible] SL.CW SL.LW SL.DW Calls SL.Ret SL.RetG SL.beginQ SL.roundQ SL.rangeQ SL.inQ SL.RW SL.AnyW SL.thenQ SL.thenC SL.thenW SL.blkQ SL.finQ SL.ValP SL.NewP SL.SetP SL.CallP SL.Rd SL.Wr SL.Known
attribute [local irreducible] turnL cF mixF mixL
def rowsL (L : List Nat) : List Nat := rowsF L 25
def roundL (L : List Nat) (n : Nat) : List Nat := (rowsL (mixL L)).set 0 ((rowsL (mixL L)).getD 0 0 ^^^ n)
def permF (L : List Nat) : Nat → List Nat
  | 0 => L
  | k + 1 => roundL (permF L k) (numL.getD k 0)
def permL (L : List Nat) : List Nat := permF L 24
attribute [local irreducible] rowsL
attribute [local irreducible] roundL
attribute [local irreducible] numL
end Go.Proofs.YtpgdnfgjbhdbpaaGreatDoor.SK

/-
  Contracts of the sponge: padded bytes.
  Conditions: none.
-/
namespace Go.Proofs.YtpgdnfgjbhdbpaaGreatDoor.SK
open Go Go.RowKit SL
set_option maxRecDepth 8000
set_option maxHeartbeats 4000000
set_option linter.unusedSimpArgs false
set_option linter.unusedVariables false
attribute [local irreducible] SL.CW SL.LW SL.DW Calls SL.Ret SL.RetG SL.beginQ SL.roundQ SL.rangeQ SL.inQ SL.RW SL.AnyW SL.thenQ SL.thenC SL.thenW SL.blkQ SL.finQ SL.ValP SL.NewP SL.SetP SL.CallP SL.Rd SL.Wr SL.Known
/-- how many bytes the padded ones are. -/
def padN (n : Nat) : Nat := (n / 136 + 1) * 136
def pad1 (b : List UInt8) : List UInt8 := (b ++ List.replicate (padN b.length - b.length) 0).set b.length 1
def padB (b : List UInt8) : List UInt8 := (pad1 b).set (padN b.length - 1) ((pad1 b).getD (padN b.length - 1) 0 ||| 128)
end Go.Proofs.YtpgdnfgjbhdbpaaGreatDoor.SK

/-
  Contracts of the sponge: digests.
  Conditions: none.
-/
namespace Go.Proofs.YtpgdnfgjbhdbpaaGreatDoor.SK
open Go Go.RowKit SL
set_option maxRecDepth 8000
set_option maxHeartbeats 4000000
set_option linter.unusedSimpArgs false
set_option linter.unusedVariables false
attribute [local irreducible] SL.CW SL.LW SL.DW Calls SL.Ret SL.RetG SL.beginQ SL.roundQ SL.rangeQ SL.inQ SL.RW SL.AnyW SL.thenQ SL.thenC SL.thenW SL.blkQ SL.finQ SL.ValP SL.NewP SL.SetP SL.CallP SL.Rd SL.Wr SL.Known
def soakF (L : List Nat) (p : List UInt8) (o : Nat) : Nat → List Nat
  | 0 => L
  | k + 1 => (soakF L p o k).set (k / 8) ((soakF L p o k).getD (k / 8) 0 ^^^ ((p.getD (o + k) 0).toNat * 2 ^ (8 * (k % 8)) % 18446744073709551616))
def sumF (p : List UInt8) : Nat → List Nat
  | 0 => List.replicate 25 0
  | c + 1 => permL (soakF (sumF p c) p (136 * c) 136)
def idF (L : List Nat) : Nat → List UInt8
  | 0 => List.replicate 32 0
  | k + 1 => (idF L k).set k (UInt8.ofNat (L.getD (k / 8) 0 / 2 ^ (8 * (k % 8)) % 256))
theorem ValP.cut3o {P : Program} {e : Env} {T : TypeId} {x : Operand} {g o o' m n : Nat} {ik il im : IntKind} {E i j k c : Nat} {z : Value} {lo hi mx : Operand} (hU : UnI P T (.slice E)) (hI : InfoI P E 1 z) (hx : e.ev x = some (.slice (some ⟨g, o, none⟩) n c)) (hl : e.ev lo = some (.int il (i : Int))) (hh : e.ev hi = some (.int ik (j : Int))) (hm : e.ev mx = some (.int im (k : Int))) (h1 : j = i + m) (h2 : k = i + m) (h3 : i + m ≤ c) (h4 : 0 < m) (h5 : o' = o + i) :
    ValP P e [] (.slice T x (some lo) (some hi) (some mx)) (.slice (some ⟨g, o', none⟩) m m) := by
  subst h1 h2 h5
  have h := ValP.cut3 (P := P) (e := e) hU hI hx hl hh hm (by omega) (by omega) h3 (by omega)
  have e1 : i + m - i = m := by omega
  have e2 : (Option.map (fun x => Addr.add x (i * 1)) (some ⟨g, o, none⟩)) = some ⟨g, o + i, none⟩ := by simp [Addr.add]
  rw [e1] at h
  rw [← e2]
  exact h
attribute [local irreducible] permL padB soakF sumF idF
end Go.Proofs.YtpgdnfgjbhdbpaaGreatDoor.SK

/-
  Contracts of the sponge: digests out of digits.
  Conditions: none.
-/
namespace Go.Proofs.YtpgdnfgjbhdbpaaGreatDoor.SK
open Go Go.RowKit SL
set_option maxRecDepth 8000
set_option maxHeartbeats 4000000
set_option linter.unusedSimpArgs false
set_option linter.unusedVariables false
attribute [local irreducible] SL.CW SL.LW SL.DW Calls SL.Ret SL.RetG SL.beginQ SL.roundQ SL.rangeQ SL.inQ SL.RW SL.AnyW SL.thenQ SL.thenC SL.thenW SL.blkQ SL.finQ SL.ValP SL.NewP SL.SetP SL.CallP SL.Rd SL.Wr SL.Known
/-! ### What digits say -/
/-- the digest of the digits ahead: none, if one of them is no digit. -/
def parF (s : List UInt8) : Nat → List UInt8
  | 0 => List.replicate 32 0
  | k + 1 => (parF s k).set (k / 2) (UInt8.ofNat ((16 * ((parF s k).getD (k / 2) 0).toNat % 256 + (hexi (s.getD k 0).toNat).toNat % 256) % 256))
attribute [local irreducible] parF
/-! ### The document's -/
end Go.Proofs.YtpgdnfgjbhdbpaaGreatDoor.SK

/-
  The sponge: what the law's first line reckons.
  Conditions: none.
-/
namespace Go.Proofs.YtpgdnfgjbhdbpaaGreatDoor.SK
open Go Go.RowKit SL
set_option maxRecDepth 100000
end Go.Proofs.YtpgdnfgjbhdbpaaGreatDoor.SK

/-
  The sponge: the law's first line.
  Conditions: none.
-/
namespace Go.Proofs.YtpgdnfgjbhdbpaaGreatDoor.SK
open Go Go.RowKit SL
set_option maxRecDepth 8000
set_option maxHeartbeats 4000000
set_option linter.unusedSimpArgs false
set_option linter.unusedVariables false
attribute [local irreducible] SL.CW SL.LW SL.DW Calls SL.Ret SL.RetG SL.beginQ SL.roundQ SL.rangeQ SL.inQ SL.RW SL.AnyW SL.thenQ SL.thenC SL.thenW SL.blkQ SL.finQ SL.ValP SL.NewP SL.SetP SL.CallP SL.Rd SL.Wr SL.Known
theorem TurnAt.bel {w w' : World} (h : TurnAt w) (hb : Bel w.heap.size [] w w') : TurnAt w' := by
  obtain ⟨E, fr, h⟩ := h
  exact ⟨E, fr, by rw [hb.block _ (Array.getElem?_eq_some_iff.1 h).1 (by simp)]; exact h⟩
theorem NumAt.bel {w w' : World} (h : NumAt w) (hb : Bel w.heap.size [] w w') : NumAt w' := by
  obtain ⟨E, fr, h⟩ := h
  exact ⟨E, fr, by rw [hb.block _ (Array.getElem?_eq_some_iff.1 h).1 (by simp)]; exact h⟩
end Go.Proofs.YtpgdnfgjbhdbpaaGreatDoor.SK

/-
  The sponge: what the laws do with bytes.
  Conditions: none.
-/
namespace Go.Proofs.YtpgdnfgjbhdbpaaGreatDoor.SK
open Go Go.RowKit SL
set_option maxRecDepth 8000
set_option maxHeartbeats 4000000
set_option linter.unusedSimpArgs false
set_option linter.unusedVariables false
attribute [local irreducible] SL.CW SL.LW SL.DW Calls SL.Ret SL.RetG SL.beginQ SL.roundQ SL.rangeQ SL.inQ SL.RW SL.AnyW SL.thenQ SL.thenC SL.thenW SL.blkQ SL.finQ SL.ValP SL.NewP SL.SetP SL.CallP SL.Rd SL.Wr SL.Known
theorem Clone_calls (l : List UInt8) (v : Value) (w : World) (hv : RowAt w 1 v l.length (ucs l)) (hl : l.length ≤ 100000) : Calls Tryz.prog 12 #[v] w (RetG w [] (fun v' gs => IsRow 5 1 v' l.length (ucs l) gs)) := by
  obtain ⟨p, c, rfl, _, _⟩ := hv.form
  cases p with
  | none =>
    have h0 : l.length = 0 := by
      rcases Nat.eq_zero_or_pos l.length with h | h
      · exact h
      · obtain ⟨_, _, _, _, _, _, he, _, _⟩ := hv.pos h
        cases he
    have hn : l = [] := List.length_eq_zero_iff.1 h0
    subst hn
    refine enter (args := [_]) _ [] [] Tryz.func12 rfl Tryz.ntmps12 rfl (by simp) .nil ?_
    (refine CW.seq ?_; refine CW.region ?_; apply LW.v0; rfl; rfl; apply ValP.assign; rfl; apply LW.nil; refine thenN ?_; refine CW.seq ?_; refine CW.seq ?_; refine CW.region ?_; apply LW.v0; rfl; rfl; apply ValP.move; rfl; apply LW.v0; rfl; rfl; apply ValP.sliNilT; rfl; rfl; apply LW.nil; refine thenN ?_; apply CW.condT; rfl; (with_reducible rfl); refine CW.seq ?_; refine CW.region ?_; apply LW.v0; rfl; rfl; apply ValP.assign; rfl; apply LW.nil; refine thenN ?_; refine CW.ret ?_; refine thenR ?_)
    exact fin [] (.inl rfl) rfl rfl (by (apply ResL.cons; exact Res.tmp rfl; exact ResL.nil)) (List.Sublist.refl _) .nil
  | some a =>
    refine enter (args := [_]) _ [] [] Tryz.func12 rfl Tryz.ntmps12 rfl (by simp) .nil ?_
    (refine CW.seq ?_; refine CW.region ?_; apply LW.v0; rfl; rfl; apply ValP.assign; rfl; apply LW.nil; refine thenN ?_; refine CW.seq ?_; refine CW.seq ?_; refine CW.region ?_; apply LW.v0; rfl; rfl; apply ValP.move; rfl; apply LW.v0; rfl; rfl; apply ValP.sliNilF; rfl; rfl; apply LW.nil; refine thenN ?_; apply CW.condF; rfl; (with_reducible rfl); refine CW.skip ?_; refine thenN ?_; refine CW.seq ?_; refine CW.region ?_)
    refine LW.lay0 rfl inferInstance inferInstance fun v0 seg hrow => ?_
    (apply LW.v0; rfl; rfl; apply ValP.move; rfl)
    (apply LW.appendAny; (case hrow => assumption); rfl; rfl; infer_instance; infer_instance; infer_instance; rfl; rfl; rfl; exact AtSeg.head)
    · exact fun w hs => hv.st hs
    · exact ucs_cells l
    · simp only [maxLen]; omega
    · omega
    intro v1 seg1 hrow1
    refine ⟨_, (by (exact AtSeg.head)), ?_⟩
    simp only [List.nil_append, Nat.zero_add, List.append_nil] at hrow1 ⊢
    (apply LW.v0; rfl; rfl; apply ValP.assign; rfl; apply LW.nil; refine thenN ?_; refine CW.ret ?_)
    refine fin (vs := [v1]) seg1 (.inl rfl) rfl rfl (by (apply ResL.cons; exact Res.tmp rfl; exact ResL.nil)) ?_ hrow1
    (exact List.Sublist.refl _)
/-! ### Bytes compared -/
def litF (l : List UInt8) : Nat → Nat
  | 0 => 0
  | k + 1 => litF l k ||| ((l.getD k 0).toNat * 2 ^ (8 * k) % 18446744073709551616)
attribute [local irreducible] litF
end Go.Proofs.YtpgdnfgjbhdbpaaGreatDoor.SK

/-
  A scratch: copies, pushes.
  Conditions: none.
-/
namespace Go.Proofs.YtpgdnfgjbhdbpaaGreatDoor
open Go Go.RowKit SL
set_option maxRecDepth 8000
set_option maxHeartbeats 4000000
set_option linter.unusedSimpArgs false
set_option linter.unusedVariables false
attribute [local irreducible] SL.CW SL.LW SL.DW Calls SL.Ret SL.RetG SL.beginQ SL.roundQ SL.rangeQ SL.inQ SL.RW SL.AnyW SL.thenQ SL.thenC SL.thenW SL.blkQ SL.finQ SL.ValP SL.NewP SL.SetP SL.CallP SL.Rd SL.Wr SL.Known
theorem CloneW_calls (l : List Nat) (v : Value) (w : World) (hv : RowAt w 4 v l.length (wcs l)) (hl : l.length ≤ 100000) : Calls Tryz.prog 38 #[v] w (RetG w [] (fun v' gs => IsRow 29 4 v' l.length (wcs l) gs)) := by
  obtain ⟨p, c, rfl, _, _⟩ := hv.form
  cases p with
  | none =>
    have h0 : l.length = 0 := by
      rcases Nat.eq_zero_or_pos l.length with h | h
      · exact h
      · obtain ⟨_, _, _, _, _, _, he, _, _⟩ := hv.pos h
        cases he
    have hn : l = [] := List.length_eq_zero_iff.1 h0
    subst hn
    refine enter (args := [_]) _ [] [] Tryz.func38 rfl Tryz.ntmps38 rfl (by simp) .nil ?_
    (refine sRz ?_; refine vAz ?_; refine nNz ?_; refine CW.seq ?_; refine sRz ?_; refine vMz ?_; apply LW.v0; rfl; rfl; apply ValP.sliNilT; rfl; rfl; refine nNz ?_; refine cTz ?_; refine sRz ?_; refine vAz ?_; refine nNz ?_; refine CW.ret ?_; refine thenR ?_)
    exact fin [] (.inl rfl) rfl rfl (by (apply ResL.cons; exact Res.tmp rfl; exact ResL.nil)) (List.Sublist.refl _) .nil
  | some a =>
    refine enter (args := [_]) _ [] [] Tryz.func38 rfl Tryz.ntmps38 rfl (by simp) .nil ?_
    (refine sRz ?_; refine vAz ?_; refine nNz ?_; refine CW.seq ?_; refine sRz ?_; refine vMz ?_; apply LW.v0; rfl; rfl; apply ValP.sliNilF; rfl; rfl; refine nNz ?_; refine cFz ?_; refine CW.skip ?_; refine thenN ?_; refine sRz ?_)
    refine LW.lay0 rfl inferInstance inferInstance fun v0 seg hrow => ?_
    (refine vMz ?_)
    (apply LW.appendAny; (case hrow => assumption); rfl; rfl; infer_instance; infer_instance; infer_instance; rfl; rfl; rfl; exact AtSeg.head)
    · exact fun w hs => hv.st hs
    · exact wcs_cells l
    · simp only [maxLen]; omega
    · omega
    intro v1 seg1 hrow1
    refine ⟨_, (by (exact AtSeg.head)), ?_⟩
    simp only [List.nil_append, Nat.zero_add, List.append_nil] at hrow1 ⊢
    (refine vAz ?_; refine nNz ?_; refine CW.ret ?_)
    refine fin (vs := [v1]) seg1 (.inl rfl) rfl rfl (by (apply ResL.cons; exact Res.tmp rfl; exact ResL.nil)) ?_ hrow1
    (exact List.Sublist.refl _)
def wM (l : List Nat) (v : Value) (gs : Fs) : Prop := IsRow 29 4 v l.length (wcs l) gs
def bM (l : List UInt8) (v : Value) (gs : Fs) : Prop := IsRow 5 1 v l.length (ucs l) gs
/-- A scratch of its own. -/
def ScO (ws : List Nat) (ms : List UInt8) (v : Value) (gs : Fs) : Prop := ∃ s m g1 g2, v = .agg #[s, m] ∧ gs = g2 ++ g1 ∧ wM ws s g1 ∧ bM ms m g2
theorem copied_calls (ws : List Nat) (ms : List UInt8) (s m : Value) (w : World) (hs : RowAt w 4 s ws.length (wcs ws)) (hm : RowAt w 1 m ms.length (ucs ms)) (hl : ws.length ≤ 100000) (hl2 : ms.length ≤ 100000) :
    Calls Tryz.prog 140 #[.agg #[s, m]] w (RetG w [] (ScO ws ms)) := by
  obtain ⟨p, c, rfl, _, _⟩ := hs.form
  obtain ⟨p2, c2, rfl, _, _⟩ := hm.form
  refine enter (args := [_]) _ [] [] Tryz.func140 rfl Tryz.ntmps140 rfl (by simp) .nil ?_
  (refine sRz ?_; apply LW.boxA; rfl; rfl; intro _; apply LW.allocA; rfl; intro _; refine nNz ?_; refine CW.seq ?_)
  rename_i b1 b2
  apply CW.pre
  (refine AnyW.anyM [(2, wM ws), (5, bM ms)] 5 mixed (by decide +kernel) ?_)
  ((try simp only [tsOf_cons, tsOf_nil, tsOf_app]); refine dvz (.fieldAddr rfl rfl) ?_; apply DW.loadO; rfl; rfl; rfl; exact WantT.none; rfl; apply TRead.tail; apply TRead.head; exact ancB_nil; exact sc_rd0)
  (apply DW.manyV; rfl; rfl; rfl; exact WantT.none; rfl; infer_instance; exact .cons rfl .nil; apply RdV.ext; assumption; rfl; exact RdV.nil; intro w _ _)
  exact CloneW_calls _ _ w (hs.bel (by assumption)) hl
  intro v1 g1 h1
  ((try simp only [tsOf_cons, tsOf_nil, tsOf_app]); refine dvz (.fieldAddr rfl rfl) ?_; apply DW.loadO; rfl; rfl; rfl; exact WantT.none; rfl; apply TRead.app; apply TRead.tail; apply TRead.head; exact ancB_nil; exact sc_rd1; apply DW.nil; simp only [fsOf_cons, fsOf_nil, fsOf_app, fsOf_tsOf, fsOf_new, fsOf_tag])
  (apply LW.callR; rfl; rfl; infer_instance; exact .cons rfl .nil; intro w hs)
  exact SK.Clone_calls _ _ w (hm.st hs) hl2
  intro v2 g2 h2
  have h1' := h1
  have h2' := h2
  unfold wM at h1'
  unfold bM at h2'
  obtain ⟨q1, k1, rfl⟩ := h1'.form
  obtain ⟨q2, k2, rfl⟩ := h2'.form
  (apply LW.v0; rfl; rfl; apply ValP.buildT; infer_instance; infer_instance; apply PartsOk.cons; rfl; apply PartsOk.cons; rfl; exact PartsOk.nil; rfl; simp only [fillP, wrCells, Value.cells, List.getElem?_cons_zero, List.getElem?_cons_succ, List.toList_toArray, List.setIfInBounds_toArray, List.set_cons_succ, List.set_cons_zero, Nat.reduceAdd, Nat.zero_add]; rfl; refine LW.store rfl rfl (.app (.app .head)) (.whole rfl rfl rfl) ?_; refine nNz ?_; refine CW.ret ?_)
  refine fin (vs := [.agg #[.slice q1 ws.length k1, .slice q2 ms.length k2]]) (g2 ++ g1) (.inl rfl) rfl rfl (by (apply ResL.cons; apply Res.cell; rfl; apply Known.at; apply FsAt.app; apply FsAt.app; apply FsAt.head; exact Rd.whole rfl; exact ResL.nil)) ?_ ⟨_, _, g1, g2, rfl, rfl, h1, h2⟩
  exact List.Sublist.append_left (List.sublist_append_left _ _) _
end Go.Proofs.YtpgdnfgjbhdbpaaGreatDoor

/-
  A scratch: words pushed.
  Conditions: none.
-/
namespace Go.Proofs.YtpgdnfgjbhdbpaaGreatDoor
open Go Go.RowKit SL
set_option maxRecDepth 8000
set_option maxHeartbeats 4000000
set_option linter.unusedSimpArgs false
set_option linter.unusedVariables false
attribute [local irreducible] SL.CW SL.LW SL.DW Calls SL.Ret SL.RetG SL.beginQ SL.roundQ SL.rangeQ SL.inQ SL.RW SL.AnyW SL.thenQ SL.thenC SL.thenW SL.blkQ SL.finQ SL.ValP SL.NewP SL.SetP SL.CallP SL.Rd SL.Wr SL.Known
section wr
variable {P : Program} {T E : TypeId} {s m z : Value} {p : Option Addr} {n c : Nat}
theorem sc_wr0 [InfoI P T 1 z] : Wr P T (.cells #[s, m] E (0, 0)) 0 (.slice p n c) (.cells #[.slice p n c, m] E (0, 0)) := Wr.cells (n := 1) (z := z) rfl rfl (by show 0 + 1 ≤ 2; omega) rfl
theorem sc_wr1 [InfoI P T 1 z] : Wr P T (.cells #[s, m] E (0, 0)) 1 (.slice p n c) (.cells #[s, .slice p n c] E (0, 0)) := Wr.cells (n := 1) (z := z) rfl rfl (by show 1 + 1 ≤ 2; omega) rfl
end wr
theorem push_full (ws : List Nat) (ms : List UInt8) (l : List Nat) (s m v : Value) (w : World) (hs : RowAt w 4 s ws.length (wcs ws)) (hm : RowAt w 1 m ms.length (ucs ms)) (hv : RowAt w 4 v l.length (wcs l)) (hok : okSc ws.length ms.length) (hll : l.length ≤ 100000) (hf : 64 < ws.length + l.length) :
    Calls Tryz.prog 118 #[.agg #[s, m], v] w (Ret w (.tuple #[.agg #[.slice none 0 0, .slice none 0 0], .int .i64 6])) := by
  obtain ⟨p, c, rfl, _, hc⟩ := hs.form
  obtain ⟨p2, c2, rfl, _, hc2⟩ := hm.form
  obtain ⟨p3, c3, rfl, _, _⟩ := hv.form
  have hC : ∀ w, Calls Tryz.prog 66 #[.agg #[.slice p ws.length c, .slice p2 ms.length c2]] w (Ret w (.int .i64 0)) := fun w => by
    have h := scCheck_calls p p2 ws.length c ms.length c2 (by omega) (by omega) w
    rwa [if_pos hok] at h
  have hok2 := hok
  unfold okSc at hok2
  obtain ⟨hn1, hk1, hk2⟩ := hok2
  refine enter (args := [_, _]) _ [] [] Tryz.func118 rfl Tryz.ntmps118 rfl (by simp) .nil ?_
  (refine sRz ?_; apply LW.boxA; rfl; rfl; intro _; apply LW.allocA; rfl; intro _; refine vAz ?_; refine nNz ?_; refine CW.seq ?_; refine sRz ?_; refine ldz rfl (.tail .head) (Rd.whole rfl) ?_; apply LW.callE; rfl; rfl; infer_instance; exact .cons rfl .nil; intro w _; exact hC w; refine vAz ?_; refine nSz ?_; refine vMz ?_; refine lvz (.neF rfl rfl (by omega)) ?_; refine nNz ?_; refine cFz ?_; refine CW.skip ?_; refine thenN ?_; refine CW.seq ?_; refine sRz ?_; refine vFz ?_; refine ldz rfl (.tail .head) sc_rd0 ?_; refine lvz (.lenR rfl inferInstance rfl) ?_; refine vMz ?_; refine lvz (.lenR rfl inferInstance rfl) ?_; refine lvz (.addZ rfl rfl (by omega)) ?_; refine lvz (.gtrT rfl rfl (by omega)) ?_; refine nNz ?_; refine cTz ?_; refine sRz ?_; apply LW.v0; rfl; rfl; apply ValP.buildT; infer_instance; infer_instance; exact PartsOk.nil; rfl; simp only [fillP, wrCells, Value.cells, List.getElem?_cons_zero, List.getElem?_cons_succ, List.toList_toArray, List.setIfInBounds_toArray, List.set_cons_succ, List.set_cons_zero, Nat.reduceAdd, Nat.zero_add]; rfl; refine LW.store rfl rfl .head (.whole rfl rfl rfl) ?_; refine vAz ?_; refine nNz ?_; refine CW.ret ?_; refine thenR ?_)
  (apply finR; exact .inl rfl; rfl; rfl; rfl; apply ResL.cons; apply Res.cell; rfl; apply Known.at; apply FsAt.head; exact Rd.whole rfl; apply ResL.cons; exact Res.tmp rfl; exact ResL.nil)
  rfl
theorem push_ok (ws : List Nat) (ms : List UInt8) (l : List Nat) (s m v : Value) (w : World) (hs : RowAt w 4 s ws.length (wcs ws)) (hm : RowAt w 1 m ms.length (ucs ms)) (hv : RowAt w 4 v l.length (wcs l)) (hok : okSc ws.length ms.length) (hll : l.length ≤ 100000) (hf : ws.length + l.length ≤ 64) :
    Calls Tryz.prog 118 #[.agg #[s, m], v] w (RetG w [] (fun r gs => ∃ o, r = .tuple #[o, .int .i64 0] ∧ ScO (ws ++ l) ms o gs)) := by
  have hs0 := hs
  have hm0 := hm
  obtain ⟨p, c, rfl, _, hc⟩ := hs.form
  obtain ⟨p2, c2, rfl, _, hc2⟩ := hm.form
  obtain ⟨p3, c3, rfl, _, _⟩ := id hv.form
  have hC : ∀ w, Calls Tryz.prog 66 #[.agg #[.slice p ws.length c, .slice p2 ms.length c2]] w (Ret w (.int .i64 0)) := fun w => by
    have h := scCheck_calls p p2 ws.length c ms.length c2 (by omega) (by omega) w
    rwa [if_pos hok] at h
  have hok2 := hok
  unfold okSc at hok2
  obtain ⟨hn1, hk1, hk2⟩ := hok2
  refine enter (args := [_, _]) _ [] [] Tryz.func118 rfl Tryz.ntmps118 rfl (by simp) .nil ?_
  (refine sRz ?_; apply LW.boxA; rfl; rfl; intro _; apply LW.allocA; rfl; intro _; refine vAz ?_; refine nNz ?_; refine CW.seq ?_; refine sRz ?_; refine ldz rfl (.tail .head) (Rd.whole rfl) ?_; apply LW.callE; rfl; rfl; infer_instance; exact .cons rfl .nil; intro w _; exact hC w; refine vAz ?_; refine nSz ?_; refine vMz ?_; refine lvz (.neF rfl rfl (by omega)) ?_; refine nNz ?_; refine cFz ?_; refine CW.skip ?_; refine thenN ?_; refine CW.seq ?_; refine sRz ?_; refine vFz ?_; refine ldz rfl (.tail .head) sc_rd0 ?_; refine lvz (.lenR rfl inferInstance rfl) ?_; refine vMz ?_; refine lvz (.lenR rfl inferInstance rfl) ?_; refine lvz (.addZ rfl rfl (by omega)) ?_; refine lvz (.gtrF rfl rfl (by omega)) ?_; refine nNz ?_; refine cFz ?_; refine CW.skip ?_; refine thenN ?_; refine sRz ?_; refine ldz rfl (.tail .head) (Rd.whole rfl) ?_)
  (apply LW.callR; rfl; rfl; infer_instance; exact .cons rfl .nil; intro w hs)
  exact copied_calls ws ms _ _ w (hs0.st hs) (hm0.st hs) (by omega) (by omega)
  rintro vo gso ⟨s1, m1, g1, g2, rfl, rfl, h1, h2⟩
  have h1' := h1
  have h2' := h2
  unfold wM at h1'
  unfold bM at h2'
  obtain ⟨q1, k1, rfl⟩ := h1'.form
  obtain ⟨q2, k2, rfl⟩ := h2'.form
  (apply LW.allocA; rfl; intro _; refine LW.store rfl rfl .head (.whole rfl rfl rfl) ?_; refine nSz ?_; refine vFz ?_; refine ldz rfl .head sc_rd0 ?_; refine vMz ?_)
  rw [List.append_assoc]
  (apply LW.appendAny; (case hrow => exact h1'); rfl; rfl; infer_instance; infer_instance; infer_instance; rfl; rfl; rfl; (apply AtSeg.cons; apply AtSeg.app; exact AtSeg.head))
  · exact fun w hs => hv.st hs
  · exact wcs_cells l
  · simp only [maxLen]; omega
  · omega
  intro v1 seg1 hrow1
  refine ⟨_, (by (apply AtSeg.cons; apply AtSeg.app; exact AtSeg.head)), ?_⟩
  simp only [List.nil_append, Nat.zero_add, List.append_nil] at hrow1 ⊢
  obtain ⟨q3, k3, rfl⟩ := hrow1.form
  (refine vFz ?_; refine LW.store rfl rfl .head sc_wr0 ?_; refine nSz ?_; refine ldz rfl .head (Rd.whole rfl) ?_; refine LW.store rfl rfl (.tail (.app (.app .head))) (.whole rfl rfl rfl) ?_; refine vAz ?_; refine nNz ?_; refine CW.ret ?_)
  refine fin (vs := [.agg #[.slice q3 (ws.length + l.length) k3, .slice q2 ms.length k2], .int .i64 0]) (g2 ++ seg1) (.inl rfl) rfl rfl (by (apply ResL.cons; apply Res.cell; rfl; apply Known.at; apply FsAt.tail; apply FsAt.app; apply FsAt.app; apply FsAt.head; exact Rd.whole rfl; apply ResL.cons; exact Res.tmp rfl; exact ResL.nil)) ?_ ⟨_, rfl, _, _, seg1, g2, rfl, rfl, ?_, h2⟩
  · exact List.Sublist.cons _ (List.Sublist.append_left (List.sublist_append_left _ _) _)
  · unfold wM
    rw [List.length_append, wcs_app]
    exact hrow1
end Go.Proofs.YtpgdnfgjbhdbpaaGreatDoor

/-
  A machine: words laid.
  Conditions: none.
-/
namespace Go.Proofs.YtpgdnfgjbhdbpaaGreatDoor
open Go Go.RowKit SL
set_option maxRecDepth 8000
set_option maxHeartbeats 4000000
set_option linter.unusedSimpArgs false
set_option linter.unusedVariables false
attribute [local irreducible] SL.CW SL.LW SL.DW Calls SL.Ret SL.RetG SL.beginQ SL.roundQ SL.rangeQ SL.inQ SL.RW SL.AnyW SL.thenQ SL.thenC SL.thenW SL.blkQ SL.finQ SL.ValP SL.NewP SL.SetP SL.CallP SL.Rd SL.Wr SL.Known
attribute [local irreducible] SL.inP
theorem lay_ok (w0 : World) (S : List Nat) (b : Nat) (m : MaV) (ws : List Nat) (ms : List UInt8) (l : List Nat) (v : Value) (rest : Fs) (w : World) (hs : St w0 S ((b, maO m) :: rest) w)
    (h1 : ∀ w', St w0 S ((b, maO m) :: rest) w' → RowAt w' 4 m.fr.stk ws.length (wcs ws) ∧ RowAt w' 1 m.fr.mem ms.length (ucs ms) ∧ RowAt w' 4 v l.length (wcs l)) (hok : okSc ws.length ms.length) (hll : l.length ≤ 100000) (hf : ws.length + l.length ≤ 64) :
    Calls Tryz.prog 78 #[.pointer (some ⟨b, 0, none⟩), v] w (fun x w' => ∃ fs', (x = .returned (.tuple #[]) ∧ ∃ s k gs c4, ScO (ws ++ l) ms (.agg #[s, k]) gs ∧ fs' = c4 :: (gs ++ (b, maO (m.setSc s k)) :: rest)) ∧ St w0 S fs' w') := by
  refine calls_inlineP (K := fun x fs' => x = .returned (.tuple #[]) ∧ ∃ s k gs c4, ScO (ws ++ l) ms (.agg #[s, k]) gs ∧ fs' = c4 :: (gs ++ (b, maO (m.setSc s k)) :: rest)) (args := [_, _]) Tryz.func78 rfl Tryz.ntmps78 rfl ?_ hs
  (refine sRz ?_; refine vMz ?_; refine vNz ?_; refine vFz ?_; refine vFz ?_; refine ldz rfl .head ma_rd2 ?_; refine vMz ?_)
  (apply LW.callR; rfl; rfl; infer_instance; exact .cons rfl (.cons rfl .nil); intro w hs)
  exact push_ok ws ms l _ _ _ w (h1 w hs).1 (h1 w hs).2.1 (h1 w hs).2.2 hok hll hf
  rintro vo gso ⟨o, rfl, s1, m1, g1, g2, rfl, rfl, hw1, hb1⟩
  have hw1' := hw1
  have hb1' := hb1
  unfold wM at hw1'
  unfold bM at hb1'
  obtain ⟨q1, k1, rfl⟩ := hw1'.form
  obtain ⟨q2, k2, rfl⟩ := hb1'.form
  (refine vMz ?_; refine vEz ?_; refine vEz ?_; apply LW.allocA; rfl; intro _; refine LW.store rfl rfl .head (.whole rfl rfl rfl) ?_; refine vAz ?_; refine nSz ?_; refine vMz ?_; refine lvz (.eqT rfl rfl (by omega)) ?_; apply LW.callE; rfl; rfl; infer_instance; exact .cons rfl .nil; intro w _; exact need_true w; refine nNz ?_; refine CW.region ?_; refine vMz ?_; refine ldz rfl .head (Rd.whole rfl) ?_; refine vNz ?_; refine vFz ?_; refine vFz ?_; refine LW.store rfl rfl (.tail (.app .head)) (ma_wr2 rfl rfl rfl rfl) ?_; apply LW.nil)
  exact inPI (.inr rfl) .nil rfl .nil rfl ⟨rfl, _, _, g2 ++ g1, _, ⟨_, _, g1, g2, rfl, rfl, hw1, hb1⟩, rfl⟩
theorem lay_full (w0 : World) (S : List Nat) (b : Nat) (m : MaV) (ws : List Nat) (ms : List UInt8) (l : List Nat) (v : Value) (rest : Fs) (w : World) (hs : St w0 S ((b, maO m) :: rest) w)
    (h1 : ∀ w', St w0 S ((b, maO m) :: rest) w' → RowAt w' 4 m.fr.stk ws.length (wcs ws) ∧ RowAt w' 1 m.fr.mem ms.length (ucs ms) ∧ RowAt w' 4 v l.length (wcs l)) (hok : okSc ws.length ms.length) (hll : l.length ≤ 100000) (hf : 64 < ws.length + l.length) :
    Calls Tryz.prog 78 #[.pointer (some ⟨b, 0, none⟩), v] w (fun x w' => ∃ fs', (x = .panicked failC ∧ ∃ c4, fs' = c4 :: (b, maO m) :: rest) ∧ St w0 S fs' w') := by
  have hP : ∀ w', St w0 S ((b, maO m) :: rest) w' → Calls Tryz.prog 118 #[.agg #[m.fr.stk, m.fr.mem], v] w' (Ret w' (.tuple #[.agg #[.slice none 0 0, .slice none 0 0], .int .i64 6])) := fun w' hst =>
    push_full ws ms l _ _ _ w' (h1 w' hst).1 (h1 w' hst).2.1 (h1 w' hst).2.2 hok hll hf
  refine calls_inlineP (K := fun x fs' => x = .panicked failC ∧ ∃ c4, fs' = c4 :: (b, maO m) :: rest) (args := [_, _]) Tryz.func78 rfl Tryz.ntmps78 rfl ?_ hs
  (refine sRz ?_; refine vMz ?_; refine vNz ?_; refine vFz ?_; refine vFz ?_; refine ldz rfl .head ma_rd2 ?_; refine vMz ?_; apply LW.callE; rfl; rfl; infer_instance; exact .cons rfl (.cons rfl .nil); intro w _; exact hP w (by assumption); refine vMz ?_; refine vEz ?_; refine vEz ?_; apply LW.allocA; rfl; intro _; refine LW.store rfl rfl .head (.whole rfl rfl rfl) ?_; refine vAz ?_; refine nSz ?_; refine vMz ?_; refine lvz (.eqF rfl rfl (by omega)) ?_)
  rename_i b4
  refine LW.callP (K := NeedK ((b4, .cells #[.slice none 0 0, .slice none 0 0] 25 (0, 0)) :: (b, maO m) :: rest)) rfl rfl inferInstance (by (exact .cons rfl .nil)) rfl (fun fs h => by cases h.1) (fun w' hst => need_false w0 S _ w' hst) ?_ ?_
  · rintro v fs' ⟨h, _⟩
    cases h
  · rintro ch fs' ⟨h, rfl⟩
    cases h
    refine thenP ?_
    exact inPP .nil ⟨rfl, _, rfl⟩
end Go.Proofs.YtpgdnfgjbhdbpaaGreatDoor

/-
  A SMALL LOGIC OVER THE KIT's WALK, PART MX: the greater of a difference and nought.
  Conditions: none; over any program.
-/
namespace Go.Proofs.YtpgdnfgjbhdbpaaGreatDoor.SL
set_option linter.unusedVariables false
open Go Go.RowKit
section mm
variable {P : Program} {e : Env} {x y : Operand} {tys : Array TypeId} {m n : Nat} {ik : IntKind}
/-- The greater of a difference and nought. -/
theorem ValP.maxD (hx : e.ev x = some (.int ik ((m : Int) - (n : Int)))) (hy : e.ev y = some (.int ik 0)) : ValP P e [] (.call { callee := .builtin .max, args := #[x, y], argTypes := tys }) (.int ik ((m - n : Nat) : Int)) := fun ρ w hρ _ d t pos af g => by
  have h : (if (0 : Int) > (m : Int) - (n : Int) then (0 : Int) else (m : Int) - (n : Int)) = ((m - n : Nat) : Int) := by split <;> omega
  have h2 := run_max_int2 (P := P) (w := w) tys t ik ik ((m : Int) - (n : Int)) 0
  rw [h] at h2
  simp [execOp, resolve, invoke, builtin, hρ x _ hx, hρ y _ hy, h2]
end mm
end Go.Proofs.YtpgdnfgjbhdbpaaGreatDoor.SL

/-
  A scratch: bytes reached.
  Conditions: none.
-/
namespace Go.Proofs.YtpgdnfgjbhdbpaaGreatDoor
open Go Go.RowKit SL
set_option maxRecDepth 8000
set_option maxHeartbeats 4000000
set_option linter.unusedSimpArgs false
set_option linter.unusedVariables false
attribute [local irreducible] SL.CW SL.LW SL.DW Calls SL.Ret SL.RetG SL.beginQ SL.roundQ SL.rangeQ SL.inQ SL.RW SL.AnyW SL.thenQ SL.thenC SL.thenW SL.blkQ SL.finQ SL.ValP SL.NewP SL.SetP SL.CallP SL.Rd SL.Wr SL.Known
/-- The bytes of the words that n bytes touch. -/
def upW (n : Nat) : Nat := (n + 31) / 32 * 32
theorem grow_ok (ws : List Nat) (ms : List UInt8) (n : Nat) (s m : Value) (w : World) (hs : RowAt w 4 s ws.length (wcs ws)) (hm : RowAt w 1 m ms.length (ucs ms)) (hok : okSc ws.length ms.length) (hn : 0 < n) (hn2 : n ≤ 1024) :
    Calls Tryz.prog 147 #[.agg #[s, m], .int .u64 0, .int .u64 (n : Int)] w (RetG w [] (fun r gs => ∃ o, r = .tuple #[o, .int .i64 0] ∧ ScO ws (ms ++ List.replicate (upW n - ms.length) 0) o gs)) := by
  have hs0 := hs
  have hm0 := hm
  obtain ⟨p, c, rfl, _, hc⟩ := hs.form
  obtain ⟨p2, c2, rfl, _, hc2⟩ := hm.form
  have hC : ∀ w, Calls Tryz.prog 66 #[.agg #[.slice p ws.length c, .slice p2 ms.length c2]] w (Ret w (.int .i64 0)) := fun w => by
    have h := scCheck_calls p p2 ws.length c ms.length c2 (by omega) (by omega) w
    rwa [if_pos hok] at h
  have hok2 := hok
  unfold okSc at hok2
  obtain ⟨hn1, hk1, hk2⟩ := hok2
  refine enter (args := [_, _, _]) _ [] [] Tryz.func147 rfl Tryz.ntmps147 rfl (by simp) .nil ?_
  (refine sRz ?_; apply LW.boxA; rfl; rfl; intro _; apply LW.allocA; rfl; intro _; refine vAz ?_; refine nNz ?_; refine CW.seq ?_; refine sRz ?_; refine ldz rfl (.tail .head) (Rd.whole rfl) ?_; apply LW.callE; rfl; rfl; infer_instance; exact .cons rfl .nil; intro w _; exact hC w; refine vAz ?_; refine nSz ?_; refine vMz ?_; refine lvz (.neF rfl rfl (by omega)) ?_; refine nNz ?_; refine cFz ?_; refine CW.skip ?_; refine thenN ?_; refine sRz ?_; refine ldz rfl (.tail .head) (Rd.whole rfl) ?_)
  (apply LW.callR; rfl; rfl; infer_instance; exact .cons rfl .nil; intro w hs)
  exact copied_calls ws ms _ _ w (hs0.st hs) (hm0.st hs) (by omega) (by omega)
  rintro vo gso ⟨s1, m1, g1, g2, rfl, rfl, h1, h2⟩
  have h1' := h1
  have h2' := h2
  unfold wM at h1'
  unfold bM at h2'
  obtain ⟨q1, k1, rfl⟩ := h1'.form
  obtain ⟨q2, k2, rfl⟩ := h2'.form
  (apply LW.allocA; rfl; intro _; refine LW.store rfl rfl .head (.whole rfl rfl rfl) ?_; refine nNz ?_; refine CW.seq ?_; refine sRz ?_; refine vMz ?_; refine lvz (.eqF rfl rfl (by omega)) ?_; refine nNz ?_; refine cFz ?_; refine CW.skip ?_; refine thenN ?_; refine CW.seq ?_; refine sRz ?_; refine vMz ?_; refine lvz (.gtrF rfl rfl (by omega)) ?_; refine vMz ?_; refine gTz ?_; refine vMz ?_; refine gTz ?_; refine lvz (.gtrF rfl rfl (by omega)) ?_; refine pFz ?_; refine vMz ?_; refine gTz ?_; refine vMz ?_; refine gTz ?_; refine vMz ?_; refine gTz ?_; refine lvz (.addNK rfl rfl (by decide)) ?_; refine gTz ?_; refine lvz (.gtrF rfl rfl (by omega)) ?_; refine pFz ?_; refine nNz ?_; refine cFz ?_; refine CW.skip ?_; refine thenN ?_; refine sRz ?_; refine vMz ?_; refine vMz ?_; refine lvz (.addNK rfl rfl (by decide)) ?_; refine lvz (.convI rfl (by omega) (by omega)) ?_; refine lvz (.addZL rfl rfl (by decide) (by omega)) ?_; refine lvz (.subZL rfl rfl (by decide) (by omega) (by omega)) ?_; refine lvz (.quoZL rfl rfl (by decide) (by omega) (by omega)) ?_; refine lvz (.mulZL rfl rfl (by decide) (by omega)) ?_; refine vAz ?_; refine nNz ?_; refine CW.seq ?_; refine sRz ?_; refine vMz ?_; refine vFz ?_; refine ldz rfl .head sc_rd1 ?_; refine lvz (.lenR rfl inferInstance rfl) ?_; refine lvz (.subI rfl rfl (by omega) (by omega)) ?_; apply LW.v0; rfl; rfl; apply ValP.maxD; rfl; rfl; refine vMz ?_; refine nNz ?_; refine CW.block ?_)
  rename_i b3 b6 b9
  obtain ⟨D, hD⟩ : ∃ D, D = ((0 + n) % 18446744073709551616 + 32 - 1) / 32 * 32 - ms.length := ⟨_, rfl⟩
  have hDu : D = upW n - ms.length := by unfold upW; omega
  rw [← hD]
  refine CW.loop (fun x : Nat × Option Addr × Nat × Fs => ([(9, .pointer (some ⟨b9, 0, none⟩)), (6, .pointer (some ⟨b6, 0, none⟩)), (48, .int .i64 (D : Int)), (49, .int .i64 (x.1 : Int))], (b9, .cells #[.slice q1 ws.length k1, .slice x.2.1 (ms.length + x.1) x.2.2.1] 25 (0, 0)) :: (x.2.2.2 ++ (g1 ++ [(b6, .cells #[.slice none 0 0, .slice none 0 0] 25 (0, 0))]))))
    (fun x => x.1 ≤ D ∧ IsRow 5 1 (.slice x.2.1 (ms.length + x.1) x.2.2.1) (ms.length + x.1) (ucs (ms ++ List.replicate x.1 0)) x.2.2.2) (fun x => D - x.1) (0, q2, k2, g2) ⟨Nat.zero_le _, by simpa using h2'⟩ ⟨rfl, rfl, rfl, rfl, trivial⟩ (by simp) ?_
  rintro ⟨k, q, kc, seg⟩ ⟨hk, hrow⟩
  dsimp only at hk hrow ⊢
  rcases Nat.lt_or_ge k D with hlt | hge
  · (refine sRz ?_; refine lvz (.lssT rfl rfl (by omega)) ?_; refine nNz ?_; refine CW.seq ?_; refine cTz ?_; refine CW.skip ?_; refine thenN ?_; refine CW.seq ?_; refine CW.block ?_; refine CW.region ?_; refine vFz ?_; refine ldz rfl .head sc_rd1 ?_; apply LW.lay1; rfl; infer_instance; infer_instance; rfl; rfl; rfl; rfl; rfl; rfl; intro _)
    (apply LW.append; rfl; rfl; infer_instance; infer_instance; infer_instance; rfl; rfl; rfl; (case hrow => assumption); apply AtSeg.cons; apply AtSeg.cons; exact AtSeg.head; apply Known.at; apply FsAt.head; rfl; rfl; rfl; omega; simp only [maxLen]; omega; omega; intro v' seg' hrow'; obtain ⟨p', c', rfl⟩ := hrow'.form; (refine ⟨_, (by (repeat (first | exact AtSeg.head | apply AtSeg.cons | apply AtSeg.app))), ?_⟩); (try simp only [List.cons_append, List.nil_append]))
    (refine vFz ?_; refine LW.store rfl rfl (.tail .head) sc_wr1 ?_; apply LW.nil; refine blkN ?_; refine thenN ?_; refine CW.region ?_; refine lvz (.addZL rfl rfl (by decide) (by omega)) ?_; refine vMz ?_; apply LW.nil)
    apply thenX
    refine ⟨rfl, (k + 1, p', c', seg'), ⟨hlt, ?_⟩, by show D - (k + 1) < D - k; omega, ⟨rfl, rfl, rfl, rfl, trivial⟩, List.Sublist.cons _ (List.Sublist.refl _)⟩
    have e : ucs (ms ++ List.replicate (k + 1) 0) = ucs (ms ++ List.replicate k 0) ++ [.int .u8 0] := by
      rw [List.replicate_succ', ← List.append_assoc]
      simp [ucs]
    dsimp only
    rw [e]
    exact hrow'
  · (refine sRz ?_; refine lvz (.lssF rfl rfl (by omega)) ?_; refine nNz ?_; refine CW.seq ?_; refine cFz ?_; refine CW.exit ?_; refine thenE ?_; refine thenE ?_; refine blkE rfl ?_; refine thenN ?_; refine sRz ?_; refine ldz rfl .head (Rd.whole rfl) ?_; refine LW.store rfl rfl (.tail (.app (.app .head))) (.whole rfl rfl rfl) ?_; refine vAz ?_; refine nNz ?_; refine CW.ret ?_)
    obtain rfl : k = D := by omega
    rw [← hDu]
    refine fin (vs := [.agg #[.slice q1 ws.length k1, .slice q (ms.length + k) kc], .int .i64 0]) (seg ++ g1) (.inl rfl) rfl rfl (by (apply ResL.cons; apply Res.cell; rfl; apply Known.at; apply FsAt.tail; apply FsAt.app; apply FsAt.app; apply FsAt.head; exact Rd.whole rfl; apply ResL.cons; exact Res.tmp rfl; exact ResL.nil)) ?_ ⟨_, rfl, _, _, g1, seg, rfl, rfl, h1, ?_⟩
    · exact List.Sublist.cons _ (List.Sublist.append_left (List.sublist_append_left _ _) _)
    · unfold bM
      rw [List.length_append, List.length_replicate]
      exact hrow
end Go.Proofs.YtpgdnfgjbhdbpaaGreatDoor

/-
  A machine: memory reached.
  Conditions: none.
-/
namespace Go.Proofs.YtpgdnfgjbhdbpaaGreatDoor
open Go Go.RowKit SL
set_option maxRecDepth 8000
set_option maxHeartbeats 4000000
set_option linter.unusedSimpArgs false
set_option linter.unusedVariables false
attribute [local irreducible] SL.CW SL.LW SL.DW Calls SL.Ret SL.RetG SL.beginQ SL.roundQ SL.rangeQ SL.inQ SL.RW SL.AnyW SL.thenQ SL.thenC SL.thenW SL.blkQ SL.finQ SL.ValP SL.NewP SL.SetP SL.CallP SL.Rd SL.Wr SL.Known
/-- What is left over may be forgotten. -/
theorem st_sub {w0 w : World} {S : List Nat} {fs gs : Fs} (h : St w0 S fs w) (hg : List.Sublist gs fs) : St w0 S gs w := ⟨h.bel, fun p hp => h.own p (hg.subset hp), h.nd.sublist hg⟩
attribute [local irreducible] SL.inP
theorem reach_gas (w0 : World) (S : List Nat) (b : Nat) (m : MaV) (a n k : Nat) (p2 : Option Addr) (c2 : Nat) (ha : a < M256) (hn : n < M256) (hE : endV a n < 18446744073709551616) (hk : k ≤ 1024) (hg : m.fr.gas < 18446744073709551616) (hm : m.fr.mem = .slice p2 k c2) (rest : Fs) (w : World) (hs : St w0 S ((b, maO m) :: rest) w)
    (hcost : m.fr.gas < memV k (endV a n)) :
    Calls Tryz.prog 146 #[.pointer (some ⟨b, 0, none⟩), wv a, wv n] w (fun x w' => ∃ fs', (x = .panicked failC ∧ ∃ ex, fs' = (b, maO m) :: (ex ++ rest)) ∧ St w0 S fs' w') := by
  have hmem : ∀ {E fr}, Rd Tryz.prog 22 (.cells (mca m) E fr) 3 (.slice p2 k c2) := fun {E fr} => by rw [← hm]; exact ma_rd3
  refine calls_inlineP (K := fun x fs' => x = .panicked failC ∧ ∃ ex, fs' = (b, maO m) :: (ex ++ rest)) (args := [_, _, _]) Tryz.func146 rfl Tryz.ntmps146 rfl ?_ hs
  (refine sRz ?_; apply LW.boxA; rfl; rfl; intro _; apply LW.boxA; rfl; rfl; intro _; refine vAz ?_; refine vAz ?_; refine nSz ?_; refine ldz rfl (.tail .head) (Rd.whole rfl) ?_; refine ldz rfl .head (Rd.whole rfl) ?_; apply LW.callE; rfl; rfl; infer_instance; exact .cons rfl (.cons rfl .nil); intro w _; exact End_calls a n ha hn w; refine vAz ?_; refine nSz ?_; refine vMz ?_; refine vMz ?_; refine vNz ?_; refine vFz ?_; refine vFz ?_; refine vFz ?_; refine ldz rfl (.tail (.tail .head)) hmem ?_; refine lvz (.lenR rfl inferInstance rfl) ?_; refine lvz (.convN rfl (by omega) (by omega)) ?_; refine vMz ?_; apply LW.callE; rfl; rfl; infer_instance; exact .cons rfl (.cons rfl .nil); intro w _; exact Memory_calls _ _ (by omega) hE w; apply LW.lay1; rfl; infer_instance; infer_instance; rfl; rfl; rfl; rfl; rfl; rfl; intro _)
  rename_i b4 b5 b29
  obtain ⟨c, hc⟩ : ∃ c, c = memV k (endV a n) := ⟨_, rfl⟩
  rw [← hc] at hcost ⊢
  have hsp : spendM m [c] = none := by unfold spendM; rw [if_neg (by simp; omega)]
  refine LW.perm (fs' := (b, maO m) :: (b29, .cells #[.int .u64 (c : Int)] 26 (0, 0)) :: (b5, .cells (wc n) 29 (0, 0)) :: (b4, .cells (wc a) 29 (0, 0)) :: rest) (by exact (List.perm_middle (l₁ := [_, _, _])).symm) ?_
  refine LW.callP (K := MaK b m (spendM m [c]) _) rfl rfl inferInstance (by (exact .cons rfl (.cons rfl .nil))) rfl (fun fs h => ?_) (fun w' hst => spend_calls w0 S b m [c] hg _ _ w' hst (fun w2 h2 => row_cells (h2.own (b29, _) (List.Mem.tail _ (List.Mem.head _))).2 rfl rfl (by simp [maxLen]))) ?_ ?_
  · rw [hsp] at h; cases h.1
  · rintro v fs' h
    rw [hsp] at h; cases h.1
  · rintro ch fs' h
    rw [hsp] at h
    obtain ⟨h, rfl⟩ := h
    cases h
    refine thenP ?_
    exact inPP .nil ⟨rfl, [_, _, _], rfl⟩
theorem reach_none (w0 : World) (S : List Nat) (b : Nat) (m : MaV) (a n k : Nat) (hn0 : n = 0) (p2 : Option Addr) (c2 : Nat) (ha : a < M256) (hk : k ≤ 1024) (hg : m.fr.gas < 18446744073709551616) (hm : m.fr.mem = .slice p2 k c2) (rest : Fs) (w : World) (hs : St w0 S ((b, maO m) :: rest) w) :
    Calls Tryz.prog 146 #[.pointer (some ⟨b, 0, none⟩), wv a, wv n] w (fun x w' => ∃ fs', (x = .returned (.tuple #[.int .u64 0, .int .u64 0]) ∧ ∃ ex, fs' = (b, maO m) :: (ex ++ rest)) ∧ St w0 S fs' w') := by
  have hmem : ∀ {E fr}, Rd Tryz.prog 22 (.cells (mca m) E fr) 3 (.slice p2 k c2) := fun {E fr} => by rw [← hm]; exact ma_rd3
  have hE : endV a n < 18446744073709551616 := by simp [endV, hn0]
  have hn : n < M256 := by rw [hn0]; decide
  have he : endV a n = 0 := by simp [endV, hn0]
  refine calls_inlineP (K := fun x fs' => x = .returned (.tuple #[.int .u64 0, .int .u64 0]) ∧ ∃ ex, fs' = (b, maO m) :: (ex ++ rest)) (args := [_, _, _]) Tryz.func146 rfl Tryz.ntmps146 rfl ?_ hs
  (refine sRz ?_; apply LW.boxA; rfl; rfl; intro _; apply LW.boxA; rfl; rfl; intro _; refine vAz ?_; refine vAz ?_; refine nSz ?_; refine ldz rfl (.tail .head) (Rd.whole rfl) ?_; refine ldz rfl .head (Rd.whole rfl) ?_; apply LW.callE; rfl; rfl; infer_instance; exact .cons rfl (.cons rfl .nil); intro w _; exact End_calls a n ha hn w; refine vAz ?_; refine nSz ?_; refine vMz ?_; refine vMz ?_; refine vNz ?_; refine vFz ?_; refine vFz ?_; refine vFz ?_; refine ldz rfl (.tail (.tail .head)) hmem ?_; refine lvz (.lenR rfl inferInstance rfl) ?_; refine lvz (.convN rfl (by omega) (by omega)) ?_; refine vMz ?_; apply LW.callE; rfl; rfl; infer_instance; exact .cons rfl (.cons rfl .nil); intro w _; exact Memory_calls _ _ (by omega) hE w; apply LW.lay1; rfl; infer_instance; infer_instance; rfl; rfl; rfl; rfl; rfl; rfl; intro _)
  rename_i b4 b5 b29
  have hc : memV k (endV a n) = 0 := by rw [he]; simp [memV]
  rw [hc, he]
  have hsp : spendM m [0] = some m := by unfold spendM; rw [if_pos (by simp)]; rfl
  refine LW.perm (fs' := (b, maO m) :: (b29, .cells #[.int .u64 ((0 : Nat) : Int)] 26 (0, 0)) :: (b5, .cells (wc n) 29 (0, 0)) :: (b4, .cells (wc a) 29 (0, 0)) :: rest) (by exact (List.perm_middle (l₁ := [_, _, _])).symm) ?_
  refine LW.callP (K := MaK b m (spendM m [0]) _) rfl rfl inferInstance (by (exact .cons rfl (.cons rfl .nil))) rfl (fun fs h => ?_) (fun w' hst => spend_calls w0 S b m [0] hg _ _ w' hst (fun w2 h2 => row_cells (h2.own (b29, _) (List.Mem.tail _ (List.Mem.head _))).2 rfl rfl (by simp [maxLen]))) ?_ ?_
  · rw [hsp] at h; cases h.1
  · rintro v fs' h
    rw [hsp] at h
    obtain ⟨h, rfl⟩ := h
    (refine nNz ?_; refine CW.seq ?_; refine sRz ?_; refine vMz ?_; refine lvz (.eqT rfl rfl (by omega)) ?_; refine nNz ?_; refine cTz ?_; refine sRz ?_; refine vAz ?_; refine vAz ?_; refine nNz ?_; refine CW.ret ?_; refine thenR ?_)
    exact inPI (.inl rfl) .nil rfl (by (apply ResL.cons; exact Res.tmp rfl; apply ResL.cons; exact Res.tmp rfl; exact ResL.nil)) rfl ⟨rfl, [_, _, _], rfl⟩
  · rintro ch fs' h
    rw [hsp] at h; cases h.1
end Go.Proofs.YtpgdnfgjbhdbpaaGreatDoor

/-
  Strings searched, and cut at blanks.
  Conditions: none.
-/
namespace Go.Proofs.YtpgdnfgjbhdbpaaGreatDoor.CK
open Go Go.RowKit SL
set_option maxRecDepth 8000
set_option maxHeartbeats 4000000
set_option linter.unusedSimpArgs false
set_option linter.unusedVariables false
attribute [local irreducible] SL.CW SL.LW SL.DW Calls SL.Ret SL.RetG SL.beginQ SL.roundQ SL.rangeQ SL.inQ SL.RW SL.AnyW SL.thenQ SL.thenC SL.thenW SL.blkQ SL.finQ SL.ValP SL.NewP SL.SetP SL.CallP SL.Rd SL.Wr SL.Known
end Go.Proofs.YtpgdnfgjbhdbpaaGreatDoor.CK

/-
  strings.Split at blanks, HasPrefix of a point.
  Conditions: none.
-/
namespace Go.Proofs.YtpgdnfgjbhdbpaaGreatDoor.CK
open Go Go.RowKit SL
set_option maxRecDepth 8000
set_option maxHeartbeats 4000000
set_option linter.unusedSimpArgs false
set_option linter.unusedVariables false
attribute [local irreducible] SL.CW SL.LW SL.DW Calls SL.Ret SL.RetG SL.beginQ SL.roundQ SL.rangeQ SL.inQ SL.RW SL.AnyW SL.thenQ SL.thenC SL.thenW SL.blkQ SL.finQ SL.ValP SL.NewP SL.SetP SL.CallP SL.Rd SL.Wr SL.Known
structure SX where
  k : Nat
  r : List UInt8
  seg : Fs
end Go.Proofs.YtpgdnfgjbhdbpaaGreatDoor.CK

/-
  A Builder that grows ahead; strings.Join at blanks.
  Conditions: none.
-/
namespace Go.Proofs.YtpgdnfgjbhdbpaaGreatDoor.CK
open Go Go.RowKit SL
set_option maxRecDepth 8000
set_option maxHeartbeats 4000000
set_option linter.unusedSimpArgs false
set_option linter.unusedVariables false
attribute [local irreducible] SL.CW SL.LW SL.DW Calls SL.Ret SL.RetG SL.beginQ SL.roundQ SL.rangeQ SL.inQ SL.RW SL.AnyW SL.thenQ SL.thenC SL.thenW SL.blkQ SL.finQ SL.ValP SL.NewP SL.SetP SL.CallP SL.Rd SL.Wr SL.Known
theorem ucs_app (a b : List UInt8) : ucs (a ++ b) = ucs a ++ ucs b := by simp [ucs]
structure BX where
  k : Nat
  v : Value
  seg : Fs
end Go.Proofs.YtpgdnfgjbhdbpaaGreatDoor.CK

/-
  The operation of a byte and of a name, by the document's answer too: contracts.
  Conditions: none.
-/
namespace Go.Proofs.YtpgdnfgjbhdbpaaGreatDoor.CK
open Go Go.RowKit SL
set_option maxRecDepth 8000
set_option maxHeartbeats 4000000
set_option linter.unusedSimpArgs false
set_option linter.unusedVariables false
attribute [local irreducible] SL.CW SL.LW SL.DW Calls SL.Ret SL.RetG SL.beginQ SL.roundQ SL.rangeQ SL.inQ SL.RW SL.AnyW SL.thenQ SL.thenC SL.thenW SL.blkQ SL.finQ SL.ValP SL.NewP SL.SetP SL.CallP SL.Rd SL.Wr SL.Known
end Go.Proofs.YtpgdnfgjbhdbpaaGreatDoor.CK

/-
  The operation of a name; which bytes are programs; how much data belongs to a byte: contracts.
  Conditions: none.
-/
namespace Go.Proofs.YtpgdnfgjbhdbpaaGreatDoor.CK
open Go Go.RowKit SL
set_option maxRecDepth 8000
set_option maxHeartbeats 4000000
set_option linter.unusedSimpArgs false
set_option linter.unusedVariables false
attribute [local irreducible] SL.CW SL.LW SL.DW Calls SL.Ret SL.RetG SL.beginQ SL.roundQ SL.rangeQ SL.inQ SL.RW SL.AnyW SL.thenQ SL.thenC SL.thenW SL.blkQ SL.finQ SL.ValP SL.NewP SL.SetP SL.CallP SL.Rd SL.Wr SL.Known
attribute [local irreducible] opOf
/-- The operation of byte b, if its name is s. -/
def hit (s : List UInt8) (b : Nat) : Option OpV := match opOf b with
  | some x => if x.nm = s then some x else none
  | none => none
def named (s : List UInt8) : Option OpV := (List.range 256).findSome? (hit s)
attribute [local irreducible] named
/-! ### Sizes -/
/-- The data that belongs to a byte. -/
def szOf (b : Nat) : Nat := match opOf b with
  | some x => x.dt
  | none => 0
attribute [local irreducible] szOf
theorem CheckC_calls (v : Value) (n : Nat) (xs : List Value) (w : World) (hv : RowAt w 1 v n xs) : Calls Tryz.prog 48 #[v] w (Ret w (.int .i64 (if n ≤ 200 then 0 else 3))) := by
  obtain ⟨p, c, rfl, hc, hm⟩ := hv.form
  refine enter (args := [_]) _ [] [] Tryz.func48 rfl Tryz.ntmps48 rfl (by simp) .nil ?_
  rcases Nat.lt_or_ge 200 n with h | h
  · rw [if_neg (by omega)]
    (refine CW.seq ?_; refine CW.region ?_; apply LW.v0; rfl; rfl; apply ValP.assign; rfl; apply LW.nil; refine thenN ?_; refine CW.seq ?_; refine CW.seq ?_; refine CW.region ?_; apply LW.v0; rfl; rfl; apply ValP.move; rfl; apply LW.v0; rfl; rfl; apply ValP.lenR; rfl; infer_instance; rfl; apply LW.v0; rfl; rfl; apply ValP.gtrT; rfl; rfl; omega; apply LW.nil; refine thenN ?_; apply CW.condT; rfl; (with_reducible rfl); refine CW.seq ?_; refine CW.region ?_; apply LW.v0; rfl; rfl; apply ValP.assign; rfl; apply LW.nil; refine thenN ?_; refine CW.ret ?_; refine thenR ?_)
    (apply finR; exact .inl rfl; rfl; rfl; rfl; apply ResL.cons; exact Res.tmp rfl; exact ResL.nil)
    rfl
  · rw [if_pos h]
    (refine CW.seq ?_; refine CW.region ?_; apply LW.v0; rfl; rfl; apply ValP.assign; rfl; apply LW.nil; refine thenN ?_; refine CW.seq ?_; refine CW.seq ?_; refine CW.region ?_; apply LW.v0; rfl; rfl; apply ValP.move; rfl; apply LW.v0; rfl; rfl; apply ValP.lenR; rfl; infer_instance; rfl; apply LW.v0; rfl; rfl; apply ValP.gtrF; rfl; rfl; omega; apply LW.nil; refine thenN ?_; apply CW.condF; rfl; (with_reducible rfl); refine CW.skip ?_; refine thenN ?_; refine CW.seq ?_; refine CW.region ?_; apply LW.v0; rfl; rfl; apply ValP.assign; rfl; apply LW.nil; refine thenN ?_; refine CW.ret ?_)
    (apply finR; exact .inl rfl; rfl; rfl; rfl; apply ResL.cons; exact Res.tmp rfl; exact ResL.nil)
    rfl
end Go.Proofs.YtpgdnfgjbhdbpaaGreatDoor.CK

/-
  The places at which an operation is read; the places to jump to: contracts.
  Conditions: none.
-/
namespace Go.Proofs.YtpgdnfgjbhdbpaaGreatDoor.CK
open Go Go.RowKit SL
set_option maxRecDepth 8000
set_option maxHeartbeats 4000000
set_option linter.unusedSimpArgs false
set_option linter.unusedVariables false
attribute [local irreducible] SL.CW SL.LW SL.DW Calls SL.Ret SL.RetG SL.beginQ SL.roundQ SL.rangeQ SL.inQ SL.RW SL.AnyW SL.thenQ SL.thenC SL.thenW SL.blkQ SL.finQ SL.ValP SL.NewP SL.SetP SL.CallP SL.Rd SL.Wr SL.Known
theorem row_dt {b : Nat} {x : OpV} (h : rowOp b = some x) : x.dt ≤ 32 := by
  unfold rowOp at h
  split at h
  · cases h; dsimp only; omega
  · split at h
    · cases h; exact Nat.zero_le _
    · split at h
      · cases h; exact Nat.zero_le _
      · cases h
theorem plain_dt : ∀ x ∈ plainOps, x.dt = 0 := by decide
theorem opOf_dt {b : Nat} {x : OpV} (h : opOf b = some x) : x.dt ≤ 32 := by
  unfold opOf at h
  cases hr : rowOp b with
  | some y => rw [hr] at h; cases h; exact row_dt hr
  | none => rw [hr] at h; rw [plain_dt x (List.mem_of_find?_eq_some h)]; exact Nat.zero_le _
theorem szOf_le (b : Nat) : szOf b ≤ 32 := by
  unfold szOf
  cases h : opOf b with
  | none => exact Nat.zero_le _
  | some x => exact opOf_dt h
attribute [local irreducible] opOf
/-- The places at which an operation is read (p: the first byte's place), with the byte and the data that is there. -/
def segsAt (p : Nat) (bs : List UInt8) : List (Nat × UInt8 × List UInt8) := match bs with
  | [] => []
  | b :: r => (p, b, r.take (szOf b.toNat)) :: segsAt (p + 1 + szOf b.toNat) (r.drop (szOf b.toNat))
termination_by bs.length
decreasing_by simp [List.length_drop]; omega
theorem segsAt_nil (p : Nat) : segsAt p [] = [] := by rw [segsAt]
theorem segsAt_cons (p : Nat) (b : UInt8) (r : List UInt8) : segsAt p (b :: r) = (p, b, r.take (szOf b.toNat)) :: segsAt (p + 1 + szOf b.toNat) (r.drop (szOf b.toNat)) := by rw [segsAt]
/-- One round's step: what is read at a place of a program. -/
theorem segs_step (bs : List UInt8) (p : Nat) (h : p < bs.length) : segsAt p (bs.drop p) = (p, bs.getD p 0, (bs.drop (p + 1)).take (szOf (bs.getD p 0).toNat)) :: segsAt (p + szOf (bs.getD p 0).toNat + 1) (bs.drop (p + szOf (bs.getD p 0).toNat + 1)) := by
  rw [List.drop_eq_getElem_cons h, segsAt_cons, List.drop_drop, show bs[p] = bs.getD p 0 by simp [h], Nat.add_right_comm p 1]
theorem segs_end (bs : List UInt8) (p q : Nat) (h : bs.length ≤ p) : segsAt q (bs.drop p) = [] := by rw [List.drop_eq_nil_of_le h, segsAt_nil]
/-! ### The places to jump to -/
structure JX where
  p : Nat
  J : List Nat
  v : Value
  seg : Fs
end Go.Proofs.YtpgdnfgjbhdbpaaGreatDoor.CK

/-
  Places to jump to, asked one by one; the document's places: contracts.
  Conditions: none.
-/
namespace Go.Proofs.YtpgdnfgjbhdbpaaGreatDoor.CK
open Go Go.RowKit SL
set_option maxRecDepth 8000
set_option maxHeartbeats 4000000
set_option linter.unusedSimpArgs false
set_option linter.unusedVariables false
attribute [local irreducible] SL.CW SL.LW SL.DW Calls SL.Ret SL.RetG SL.beginQ SL.roundQ SL.rangeQ SL.inQ SL.RW SL.AnyW SL.thenQ SL.thenC SL.thenW SL.blkQ SL.finQ SL.ValP SL.NewP SL.SetP SL.CallP SL.Rd SL.Wr SL.Known
attribute [local irreducible] opOf
/-! ### Is a number one of a row? -/
/-! ### The document's: is an operation read there? -/
def readB (bs : List UInt8) (i : Int) : Bool := (segsAt 0 bs).any fun s => decide ((s.1 : Int) = i)
def readFrom (bs : List UInt8) (p : Nat) (i : Int) : Bool := (segsAt p (bs.drop p)).any fun s => decide ((s.1 : Int) = i)
theorem segsAt_ge (n : Nat) : ∀ (bs : List UInt8) (p : Nat), bs.length ≤ n → ∀ s ∈ segsAt p bs, p ≤ s.1 := by
  induction n with
  | zero =>
    intro bs p h s hs
    rw [List.eq_nil_of_length_eq_zero (show bs.length = 0 by omega), segsAt_nil] at hs
    cases hs
  | succ n ih =>
    intro bs p h s hs
    cases bs with
    | nil => rw [segsAt_nil] at hs; cases hs
    | cons b r =>
      rw [segsAt_cons] at hs
      rcases List.mem_cons.1 hs with rfl | hs
      · exact Nat.le_refl _
      · have := ih (r.drop (szOf b.toNat)) (p + 1 + szOf b.toNat) (by simp at h ⊢; omega) s hs
        omega
theorem readFrom_gt {bs : List UInt8} {p : Nat} {i : Int} (h : i < (p : Int)) : readFrom bs p i = false := by
  unfold readFrom
  refine List.any_eq_false.2 fun s hs => ?_
  have := segsAt_ge _ _ p (Nat.le_refl _) s hs
  simp; omega
theorem readFrom_end {bs : List UInt8} {p : Nat} {i : Int} (h : bs.length ≤ p) : readFrom bs p i = false := by
  unfold readFrom; rw [segs_end bs p p h]; rfl
theorem readFrom_hit {bs : List UInt8} {p : Nat} (h : p < bs.length) : readFrom bs p (p : Int) = true := by
  unfold readFrom; rw [segs_step bs p h, List.any_cons]; simp
theorem readFrom_step {bs : List UInt8} {p : Nat} {i : Int} (h : p < bs.length) (hi : (p : Int) < i) : readFrom bs (p + 1 + szOf (bs.getD p 0).toNat) i = readFrom bs p i := by
  unfold readFrom
  rw [segs_step bs p h, List.any_cons, decide_eq_false (by dsimp only; omega), Bool.false_or, Nat.add_right_comm p 1]
/-! ### The document's places to jump to -/
structure RJ where
  k : Nat
  v : Value
  seg : Fs
/-! ### The same bytes -/
end Go.Proofs.YtpgdnfgjbhdbpaaGreatDoor.CK

/-
  Frames: which may be.
  Conditions: none.
-/
namespace Go.Proofs.YtpgdnfgjbhdbpaaGreatDoor
open Go Go.RowKit SL
open CK (readB readFrom readFrom_step readFrom_hit readFrom_gt readFrom_end szOf szOf_le CheckC_calls)
set_option maxRecDepth 8000
set_option maxHeartbeats 4000000
set_option linter.unusedSimpArgs false
set_option linter.unusedVariables false
attribute [local irreducible] SL.CW SL.LW SL.DW Calls SL.Ret SL.RetG SL.beginQ SL.roundQ SL.rangeQ SL.inQ SL.RW SL.AnyW SL.thenQ SL.thenC SL.thenW SL.blkQ SL.finQ SL.ValP SL.NewP SL.SetP SL.CallP SL.Rd SL.Wr SL.Known
attribute [local irreducible] opOf szOf
/-! ### Is an operation read at a place? -/
def opX (b : Nat) : OpV := (opOf b).getD zeroOp
theorem opX_dt (b : Nat) : (opX b).dt = szOf b := by
  unfold opX szOf
  cases opOf b <;> rfl
theorem OfX_calls (b : Nat) (hb : b < 256) (w : World) : ∃ e : Int, (∀ w, Calls Tryz.prog 102 #[.int .u8 (b : Int)] w (Ret w (.tuple #[.agg (opc (opX b)), .int .i64 e]))) ∧ e = (if (opOf b).isSome then 0 else 4) := by
  cases ho : opOf b with
  | none => exact ⟨4, fun w => by have h := Of_op_calls b hb w; rw [ho] at h; unfold opX; rw [ho]; exact h, rfl⟩
  | some x => exact ⟨0, fun w => by have h := Of_op_calls b hb w; rw [ho] at h; unfold opX; rw [ho]; exact h, rfl⟩
attribute [local irreducible] opX
theorem fread_calls (bs : List UInt8) (hb : bs.length ≤ 1000) (i : Int) (v : Value) (w : World) (hv : RowAt w 1 v bs.length (ucs bs)) : Calls Tryz.prog 67 #[v, .int .i64 i] w (Ret w (.bool (readB bs i))) := by
  obtain ⟨p0, c0, rfl, hc0, hm0⟩ := hv.form
  have h0 : readFrom bs 0 i = readB bs i := by unfold readFrom readB; rw [List.drop_zero]
  refine enter (args := [_, _]) _ [] [] Tryz.func67 rfl Tryz.ntmps67 rfl (by simp) .nil ?_
  (refine sRz ?_; refine vAz ?_; refine nSz ?_; refine vAz ?_; refine nNz ?_; refine CW.seq ?_; refine CW.block ?_)
  refine CW.loop (fun k : Nat => ([(0, .slice p0 bs.length c0), (1, .int .i64 i), (4, .bool false), (5, .int .i64 (k : Int))], []))
    (fun k => k ≤ 2000 ∧ readFrom bs k i = readB bs i) (fun k => bs.length - k) 0 ⟨Nat.zero_le _, h0⟩ ⟨rfl, rfl, rfl, rfl, trivial⟩ (List.Sublist.refl _) ?_
  rintro k ⟨hk, hr⟩
  dsimp only
  rcases Nat.lt_or_ge k bs.length with hlt | hge
  · rcases Int.lt_or_le (k : Int) i with hki | hki
    · obtain ⟨b, off, c', cs, E, fr, heq, hbk, hx⟩ := hv.pos (by omega)
      cases heq
      have hst := readFrom_step hlt hki
      obtain ⟨u, hu⟩ : ∃ u, bs.getD k 0 = u := ⟨_, rfl⟩
      rw [hu, hr] at hst
      have hrd : Rd Tryz.prog 5 (.cells cs E fr) (off + k * 1) (.int .u8 (u.toNat : Int)) := Rd.elem1 hx (ucs_one bs) (List.getElem?_eq_getElem hlt) (by rw [← hu]; simp [hlt])
      obtain ⟨e, hOf, _⟩ := OfX_calls u.toNat u.toNat_lt w
      have hzl := szOf_le u.toNat
      rw [← opX_dt] at hst hzl
      rw [Nat.add_assoc] at hst
      (refine CW.seq ?_; refine sRz ?_; refine vMz ?_; refine vMz ?_; refine lvz (.lssT rfl rfl (by omega)) ?_; refine vMz ?_; refine gTz ?_; refine vMz ?_; refine gTz ?_; refine vMz ?_; refine gTz ?_; refine lvz (.lenR rfl inferInstance rfl) ?_; refine gTz ?_; refine lvz (.lssT rfl rfl (by omega)) ?_; refine pTz ?_; refine nNz ?_; refine cTz ?_; refine CW.skip ?_; refine thenN ?_; refine CW.block ?_; refine sRz ?_; refine vMz ?_; refine vMz ?_; refine lvz (.indexAddrS rfl rfl rfl (by omega)) ?_; apply LW.load; rfl; rfl; exact Known.ext (by assumption) (by simp); assumption; apply LW.callE; rfl; rfl; infer_instance; exact .cons rfl .nil; intro w _; exact hOf w; refine vMz ?_; refine vEz ?_; refine vEz ?_; apply LW.allocA; rfl; intro _; refine LW.store rfl rfl .head (.whole rfl rfl rfl) ?_; refine vAz ?_; refine nNz ?_; refine CW.region ?_; refine vMz ?_; refine vFz ?_; refine ldz rfl .head (Rd.one' rfl) ?_; refine lvz (.addZK rfl rfl (by decide) (by omega)) ?_; refine lvz (.addZ rfl rfl (by omega)) ?_; refine vAz ?_; apply LW.nil; refine blkN ?_)
      apply thenX
      exact ⟨rfl, k + (1 + (opX u.toNat).dt), ⟨by omega, hst⟩, by omega, ⟨rfl, rfl, rfl, rfl, trivial⟩, List.nil_sublist _⟩
    · rcases Int.lt_or_eq_of_le hki with hlt' | heq
      · rw [← hr, readFrom_gt hlt']
        have hne : ¬ (k : Int) = i := by omega
        (refine CW.seq ?_; refine sRz ?_; refine vMz ?_; refine vMz ?_; refine lvz (.lssF rfl rfl (by omega)) ?_; refine vMz ?_; (iterate 4 refine gFz ?_); refine pFz ?_; refine nNz ?_; refine cFz ?_; refine CW.exit ?_; refine thenE ?_; refine thenE ?_; refine blkE rfl ?_; refine thenN ?_; refine sRz ?_; refine vMz ?_; refine vMz ?_; refine lvz (.eqF rfl rfl (by omega)) ?_; refine vMz ?_; (iterate 4 refine gFz ?_); refine pFz ?_; refine vAz ?_; refine nNz ?_; refine CW.ret ?_)
        (apply finR; exact .inl rfl; rfl; rfl; rfl; apply ResL.cons; exact Res.tmp rfl; exact ResL.nil)
        rfl
      · subst heq
        rw [← hr, readFrom_hit hlt]
        (refine CW.seq ?_; refine sRz ?_; refine vMz ?_; refine vMz ?_; refine lvz (.lssF rfl rfl (by omega)) ?_; refine vMz ?_; (iterate 4 refine gFz ?_); refine pFz ?_; refine nNz ?_; refine cFz ?_; refine CW.exit ?_; refine thenE ?_; refine thenE ?_; refine blkE rfl ?_; refine thenN ?_; refine sRz ?_; refine vMz ?_; refine vMz ?_; refine lvz (.eqT rfl rfl (by omega)) ?_; refine vMz ?_; refine gTz ?_; refine vMz ?_; refine gTz ?_; refine vMz ?_; refine gTz ?_; refine lvz (.lenR rfl inferInstance rfl) ?_; refine gTz ?_; refine lvz (.lssT rfl rfl (by omega)) ?_; refine pTz ?_; refine vAz ?_; refine nNz ?_; refine CW.ret ?_)
        (apply finR; exact .inl rfl; rfl; rfl; rfl; apply ResL.cons; exact Res.tmp rfl; exact ResL.nil)
        rfl
  · rw [← hr, readFrom_end hge]
    rcases Int.lt_or_le (k : Int) i with hki | hki
    · have hne : ¬ (k : Int) = i := by omega
      (refine CW.seq ?_; refine sRz ?_; refine vMz ?_; refine vMz ?_; refine lvz (.lssT rfl rfl (by omega)) ?_; refine vMz ?_; refine gTz ?_; refine vMz ?_; refine gTz ?_; refine vMz ?_; refine gTz ?_; refine lvz (.lenR rfl inferInstance rfl) ?_; refine gTz ?_; refine lvz (.lssF rfl rfl (by omega)) ?_; refine pTz ?_; refine nNz ?_; refine cFz ?_; refine CW.exit ?_; refine thenE ?_; refine thenE ?_; refine blkE rfl ?_; refine thenN ?_; refine sRz ?_; refine vMz ?_; refine vMz ?_; refine lvz (.eqF rfl rfl (by omega)) ?_; refine vMz ?_; (iterate 4 refine gFz ?_); refine pFz ?_; refine vAz ?_; refine nNz ?_; refine CW.ret ?_)
      (apply finR; exact .inl rfl; rfl; rfl; rfl; apply ResL.cons; exact Res.tmp rfl; exact ResL.nil)
      rfl
    · by_cases heq : (k : Int) = i
      · subst heq
        (refine CW.seq ?_; refine sRz ?_; refine vMz ?_; refine vMz ?_; refine lvz (.lssF rfl rfl (by omega)) ?_; refine vMz ?_; (iterate 4 refine gFz ?_); refine pFz ?_; refine nNz ?_; refine cFz ?_; refine CW.exit ?_; refine thenE ?_; refine thenE ?_; refine blkE rfl ?_; refine thenN ?_; refine sRz ?_; refine vMz ?_; refine vMz ?_; refine lvz (.eqT rfl rfl (by omega)) ?_; refine vMz ?_; refine gTz ?_; refine vMz ?_; refine gTz ?_; refine vMz ?_; refine gTz ?_; refine lvz (.lenR rfl inferInstance rfl) ?_; refine gTz ?_; refine lvz (.lssF rfl rfl (by omega)) ?_; refine pTz ?_; refine vAz ?_; refine nNz ?_; refine CW.ret ?_)
        (apply finR; exact .inl rfl; rfl; rfl; rfl; apply ResL.cons; exact Res.tmp rfl; exact ResL.nil)
        rfl
      · (refine CW.seq ?_; refine sRz ?_; refine vMz ?_; refine vMz ?_; refine lvz (.lssF rfl rfl (by omega)) ?_; refine vMz ?_; (iterate 4 refine gFz ?_); refine pFz ?_; refine nNz ?_; refine cFz ?_; refine CW.exit ?_; refine thenE ?_; refine thenE ?_; refine blkE rfl ?_; refine thenN ?_; refine sRz ?_; refine vMz ?_; refine vMz ?_; refine lvz (.eqF rfl rfl (by omega)) ?_; refine vMz ?_; (iterate 4 refine gFz ?_); refine pFz ?_; refine vAz ?_; refine nNz ?_; refine CW.ret ?_)
        (apply finR; exact .inl rfl; rfl; rfl; rfl; apply ResL.cons; exact Res.tmp rfl; exact ResL.nil)
        rfl
/-! ### Frames -/
/-- What a frame's rows hold. -/
structure FrL where
  cl : List UInt8
  ws : List Nat
  ms : List UInt8
  il : List UInt8
  bl : List UInt8
structure FrRows (w : World) (f : FrV) (L : FrL) : Prop where
  c : RowAt w 1 f.code L.cl.length (ucs L.cl)
  s : RowAt w 4 f.stk L.ws.length (wcs L.ws)
  m : RowAt w 1 f.mem L.ms.length (ucs L.ms)
  i : RowAt w 1 f.inp L.il.length (ucs L.il)
  b : RowAt w 1 f.back L.bl.length (ucs L.bl)
theorem FrRows.st {w0 w : World} {f : FrV} {L : FrL} {fs : Fs} (h : FrRows w0 f L) (hs : St w0 [] fs w) : FrRows w f L := ⟨h.c.st hs, h.s.st hs, h.m.st hs, h.i.st hs, h.b.st hs⟩
theorem FrRows.bel {w0 w : World} {f : FrV} {L : FrL} (h : FrRows w0 f L) (hb : Bel w0.heap.size [] w0 w) : FrRows w f L := ⟨h.c.bel hb, h.s.bel hb, h.m.bel hb, h.i.bel hb, h.b.bel hb⟩
abbrev fra (f : FrV) : Array Value := (frc f).toArray
abbrev frv (f : FrV) : Value := .agg (fra f)
section rd
variable {P : Program} {T E : TypeId} {fr : Nat × Nat} {code stk mem inp back : Value} {pc : Int} {gas self frm val : Nat} {stat : Bool}
theorem fr_rd0 [AgI P T false] : Rd P T (.cells (fra ⟨code, pc, stk, mem, gas, self, frm, val, inp, back, stat⟩) E fr) 0 code := Rd.one rfl
theorem fr_rd1 [AgI P T false] : Rd P T (.cells (fra ⟨code, pc, stk, mem, gas, self, frm, val, inp, back, stat⟩) E fr) 1 (.int .i64 pc) := Rd.one rfl
theorem fr_rd2 [AgI P T true] {z : Value} [InfoI P T 2 z] : Rd P T (.cells (fra ⟨code, pc, stk, mem, gas, self, frm, val, inp, back, stat⟩) E fr) 2 (.agg #[stk, mem]) := Rd.mid (cs := [stk, mem]) rfl rfl
theorem fr_rd2s [AgI P T false] : Rd P T (.cells (fra ⟨code, pc, stk, mem, gas, self, frm, val, inp, back, stat⟩) E fr) 2 stk := Rd.one rfl
theorem fr_rd3 [AgI P T false] : Rd P T (.cells (fra ⟨code, pc, stk, mem, gas, self, frm, val, inp, back, stat⟩) E fr) 3 mem := Rd.one rfl
theorem fr_rd4 [AgI P T false] : Rd P T (.cells (fra ⟨code, pc, stk, mem, gas, self, frm, val, inp, back, stat⟩) E fr) 4 (.int .u64 (gas : Int)) := Rd.one rfl
theorem fr_rd5 [AgI P T false] : Rd P T (.cells (fra ⟨code, pc, stk, mem, gas, self, frm, val, inp, back, stat⟩) E fr) 5 (.int .u64 (self : Int)) := Rd.one rfl
theorem fr_rd6 [AgI P T false] : Rd P T (.cells (fra ⟨code, pc, stk, mem, gas, self, frm, val, inp, back, stat⟩) E fr) 6 (.int .u64 (frm : Int)) := Rd.one rfl
theorem fr_rd7 [AgI P T true] {z : Value} [InfoI P T 4 z] : Rd P T (.cells (fra ⟨code, pc, stk, mem, gas, self, frm, val, inp, back, stat⟩) E fr) 7 (wv val) := Rd.mid (cs := (wc val).toList) rfl rfl
theorem fr_rd11 [AgI P T false] : Rd P T (.cells (fra ⟨code, pc, stk, mem, gas, self, frm, val, inp, back, stat⟩) E fr) 11 inp := Rd.one rfl
theorem fr_rd12 [AgI P T false] : Rd P T (.cells (fra ⟨code, pc, stk, mem, gas, self, frm, val, inp, back, stat⟩) E fr) 12 back := Rd.one rfl
theorem fr_rd13 [AgI P T false] : Rd P T (.cells (fra ⟨code, pc, stk, mem, gas, self, frm, val, inp, back, stat⟩) E fr) 13 (.bool stat) := Rd.one rfl
theorem fr_rdW {f : FrV} {z : Value} [AgI P T true] [InfoI P T 14 z] : Rd P T (.cells (fra f) E fr) 0 (frv f) := Rd.whole rfl
end rd
/-- May a frame be? -/
def okF (f : FrV) (L : FrL) : Prop := (L.il.length ≤ 1024 ∧ L.bl.length ≤ 1024 ∧ f.gas ≤ 20000) ∧ ¬ f.self = 0 ∧ L.cl.length ≤ 200 ∧ okSc L.ws.length L.ms.length ∧ (f.pc = (L.cl.length : Int) ∨ readB L.cl f.pc = true)
instance (f : FrV) (L : FrL) : Decidable (okF f L) := by unfold okF; infer_instance
theorem fCheck_calls (f : FrV) (L : FrL) (w : World) (h : FrRows w f L) : Calls Tryz.prog 31 #[frv f] w (Ret w (.int .i64 (if okF f L then 0 else 240))) := by
  obtain ⟨e, he⟩ : ∃ e : Int, e = if okF f L then 0 else 240 := ⟨_, rfl⟩
  have hp : okF f L → e = 0 := fun h => by rw [he, if_pos h]
  have hn : ¬ okF f L → e = 240 := fun h => by rw [he, if_neg h]
  rw [← he]
  clear he
  unfold okF at hp hn
  obtain ⟨code, pc, stk, mem, gas, self, frm, val, inp, back, stat⟩ := f
  obtain ⟨h0, h2, h3, h11, h12⟩ := h
  dsimp only at h0 h2 h3 h11 h12 hp hn
  obtain ⟨p0, c0, rfl, _, hm0⟩ := h0.form
  obtain ⟨p2, c2, rfl, _, hm2⟩ := h2.form
  obtain ⟨p3, c3, rfl, _, hm3⟩ := h3.form
  obtain ⟨p11, c11, rfl, _, hm11⟩ := h11.form
  obtain ⟨p12, c12, rfl, _, hm12⟩ := h12.form
  have hS0 := scCheck_calls p2 p3 L.ws.length c2 L.ms.length c3 (by omega) (by omega)
  have hC0 : ∀ w' {fs}, St w [] fs w' → Calls Tryz.prog 48 #[.slice p0 L.cl.length c0] w' (Ret w' (.int .i64 (if L.cl.length ≤ 200 then 0 else 3))) := fun w' fs hst => CheckC_calls _ _ _ w' (h0.st hst)
  simp only [maxLen] at hm0 hm2 hm3 hm11 hm12
  refine enter (args := [_]) _ [] [] Tryz.func31 rfl Tryz.ntmps31 rfl (by simp) .nil ?_
  by_cases hc : L.cl.length ≤ 200
  · have hRd0 : ∀ w' {fs}, St w [] fs w' → Calls Tryz.prog 67 #[.slice p0 L.cl.length c0, .int .i64 pc] w' (Ret w' (.bool (readB L.cl pc))) := fun w' fs hst => fread_calls _ (by omega) _ _ w' (h0.st hst)
    rw [if_pos hc] at hC0
    have hC : ∀ w' {fs}, St w [] fs w' → Calls Tryz.prog 48 #[.slice p0 L.cl.length c0] w' (Ret w' (.int .i64 0)) := hC0
    by_cases hs : okSc L.ws.length L.ms.length
    · rw [if_pos hs] at hS0
      have hS : ∀ w', Calls Tryz.prog 66 #[.agg #[.slice p2 L.ws.length c2, .slice p3 L.ms.length c3]] w' (Ret w' (.int .i64 0)) := hS0
      simp only [hs, true_and] at hp hn
      by_cases hpc : pc = (L.cl.length : Int)
      · simp only [hpc, true_or, and_true] at hp hn
        subst hpc
        (refine sRz ?_; apply LW.boxA; rfl; rfl; intro _; refine vAz ?_; refine nSz ?_; refine vFz ?_; refine ldz rfl .head fr_rd11 ?_; refine lvz (.lenR rfl inferInstance rfl) ?_; refine lvz (.gtr rfl rfl) ?_; refine vMz ?_)
        (refine LW.guardDF rfl rfl rfl (fun hsq hsp => ?_) (fun hsq hsp => ?_))
        (refine vFz ?_; refine gTaz ?_; refine ldz rfl .head fr_rd12 ?_; refine gTaz ?_; refine lvz (.lenR rfl inferInstance rfl) ?_; refine gTaz ?_; refine lvz (.gtr rfl rfl) ?_; refine pFaz ?_; refine vMz ?_; refine LW.guardDF rfl rfl rfl (fun hsq hsp => ?_) (fun hsq hsp => ?_); refine vFz ?_; refine gTaz ?_; refine ldz rfl .head fr_rd4 ?_; refine gTaz ?_; refine lvz (.gtr rfl rfl) ?_; refine pFaz ?_; refine vAz ?_; refine nNz ?_; refine CW.seq ?_; refine sRz ?_; refine vMz ?_; refine vMz ?_; refine LW.guardDF rfl rfl rfl (fun hsq hsp => ?_) (fun hsq hsp => ?_); refine vFz ?_; refine gTaz ?_; refine ldz rfl .head fr_rd5 ?_; refine gTaz ?_; refine lvz (.eq rfl rfl) ?_; refine pFaz ?_; refine vMz ?_; refine LW.guardDF rfl rfl rfl (fun hsq hsp => ?_) (fun hsq hsp => ?_); refine vFz ?_; refine gTaz ?_; refine ldz rfl .head fr_rd0 ?_; refine gTaz ?_; apply LW.callE; rfl; rfl; infer_instance; exact .cons rfl .nil; intro w _; exact hC w (by assumption); refine gTaz ?_; refine lvz (.neF rfl rfl (by omega)) ?_; refine pFaz ?_; refine vMz ?_; refine gTz ?_; refine vFz ?_; refine gTz ?_; refine ldz rfl .head fr_rd2 ?_; refine gTz ?_; apply LW.callE; rfl; rfl; infer_instance; exact .cons rfl .nil; intro w _; exact hS w; refine gTz ?_; refine lvz (.neF rfl rfl (by omega)) ?_; refine pFz ?_; refine nNz ?_; refine cFz ?_; refine CW.skip ?_; refine thenN ?_; refine CW.seq ?_; refine sRz ?_; refine vFz ?_; refine ldz rfl .head fr_rd1 ?_; refine vFz ?_; refine ldz rfl .head fr_rd0 ?_; refine lvz (.lenR rfl inferInstance rfl) ?_; refine lvz (.neF rfl rfl (by omega)) ?_; refine vMz ?_; (iterate 6 refine gFz ?_); refine pFz ?_; refine nNz ?_; refine cFz ?_; refine CW.skip ?_; refine thenN ?_; refine sRz ?_; refine vAz ?_; refine nNz ?_; refine CW.ret ?_; apply finR; exact .inl rfl; rfl; rfl; rfl; apply ResL.cons; exact Res.tmp rfl; exact ResL.nil; rw [hp (by omega)]; rfl; (iterate 3 refine gFaz ?_); refine pTaz ?_; refine vMz ?_; (iterate 4 refine gFz ?_); refine pTz ?_; refine nNz ?_; refine cTz ?_; refine sRz ?_; refine vAz ?_; refine nNz ?_; refine CW.ret ?_; refine thenR (finR (.inl rfl) rfl rfl rfl (.cons (.tmp rfl) .nil) ?_); rw [hn (by omega)]; rfl; refine gFaz ?_; refine gFaz ?_; refine pTaz ?_; refine vMz ?_; (iterate 4 refine gFz ?_); refine pTz ?_; refine vMz ?_; (iterate 4 refine gFz ?_); refine pTz ?_; refine nNz ?_; refine cTz ?_; refine sRz ?_; refine vAz ?_; refine nNz ?_; refine CW.ret ?_; refine thenR (finR (.inl rfl) rfl rfl rfl (.cons (.tmp rfl) .nil) ?_); rw [hn (by omega)]; rfl; refine gFaz ?_; refine gFaz ?_; refine pTaz ?_; refine vAz ?_; refine nNz ?_; refine CW.seq ?_; refine sRz ?_; refine vMz ?_; refine vMz ?_; (iterate 3 refine gFz ?_); refine pTz ?_; refine vMz ?_; (iterate 4 refine gFz ?_); refine pTz ?_; refine vMz ?_; (iterate 4 refine gFz ?_); refine pTz ?_; refine nNz ?_; refine cTz ?_; refine sRz ?_; refine vAz ?_; refine nNz ?_; refine CW.ret ?_; refine thenR (finR (.inl rfl) rfl rfl rfl (.cons (.tmp rfl) .nil) ?_); rw [hn (by omega)]; rfl; (iterate 3 refine gFaz ?_); refine pTaz ?_; refine vMz ?_; (iterate 3 refine gFz ?_); refine pTz ?_; refine vAz ?_; refine nNz ?_; refine CW.seq ?_; refine sRz ?_; refine vMz ?_; refine vMz ?_; (iterate 3 refine gFz ?_); refine pTz ?_; refine vMz ?_; (iterate 4 refine gFz ?_); refine pTz ?_; refine vMz ?_; (iterate 4 refine gFz ?_); refine pTz ?_; refine nNz ?_; refine cTz ?_; refine sRz ?_; refine vAz ?_; refine nNz ?_; refine CW.ret ?_; refine thenR (finR (.inl rfl) rfl rfl rfl (.cons (.tmp rfl) .nil) ?_); rw [hn (by omega)]; rfl)
      · cases hr : readB L.cl pc with
        | true =>
          rw [hr] at hRd0 hp hn
          have hRd : ∀ w' {fs}, St w [] fs w' → Calls Tryz.prog 67 #[.slice p0 L.cl.length c0, .int .i64 pc] w' (Ret w' (.bool true)) := hRd0
          simp only [or_true, and_true] at hp hn
          (refine sRz ?_; apply LW.boxA; rfl; rfl; intro _; refine vAz ?_; refine nSz ?_; refine vFz ?_; refine ldz rfl .head fr_rd11 ?_; refine lvz (.lenR rfl inferInstance rfl) ?_; refine lvz (.gtr rfl rfl) ?_; refine vMz ?_)
          (refine LW.guardDF rfl rfl rfl (fun hsq hsp => ?_) (fun hsq hsp => ?_))
          (refine vFz ?_; refine gTaz ?_; refine ldz rfl .head fr_rd12 ?_; refine gTaz ?_; refine lvz (.lenR rfl inferInstance rfl) ?_; refine gTaz ?_; refine lvz (.gtr rfl rfl) ?_; refine pFaz ?_; refine vMz ?_; refine LW.guardDF rfl rfl rfl (fun hsq hsp => ?_) (fun hsq hsp => ?_); refine vFz ?_; refine gTaz ?_; refine ldz rfl .head fr_rd4 ?_; refine gTaz ?_; refine lvz (.gtr rfl rfl) ?_; refine pFaz ?_; refine vAz ?_; refine nNz ?_; refine CW.seq ?_; refine sRz ?_; refine vMz ?_; refine vMz ?_; refine LW.guardDF rfl rfl rfl (fun hsq hsp => ?_) (fun hsq hsp => ?_); refine vFz ?_; refine gTaz ?_; refine ldz rfl .head fr_rd5 ?_; refine gTaz ?_; refine lvz (.eq rfl rfl) ?_; refine pFaz ?_; refine vMz ?_; refine LW.guardDF rfl rfl rfl (fun hsq hsp => ?_) (fun hsq hsp => ?_); refine vFz ?_; refine gTaz ?_; refine ldz rfl .head fr_rd0 ?_; refine gTaz ?_; apply LW.callE; rfl; rfl; infer_instance; exact .cons rfl .nil; intro w _; exact hC w (by assumption); refine gTaz ?_; refine lvz (.neF rfl rfl (by omega)) ?_; refine pFaz ?_; refine vMz ?_; refine gTz ?_; refine vFz ?_; refine gTz ?_; refine ldz rfl .head fr_rd2 ?_; refine gTz ?_; apply LW.callE; rfl; rfl; infer_instance; exact .cons rfl .nil; intro w _; exact hS w; refine gTz ?_; refine lvz (.neF rfl rfl (by omega)) ?_; refine pFz ?_; refine nNz ?_; refine cFz ?_; refine CW.skip ?_; refine thenN ?_; refine CW.seq ?_; refine sRz ?_; refine vFz ?_; refine ldz rfl .head fr_rd1 ?_; refine vFz ?_; refine ldz rfl .head fr_rd0 ?_; refine lvz (.lenR rfl inferInstance rfl) ?_; refine lvz (.neT rfl rfl (by omega)) ?_; refine vMz ?_; refine gTz ?_; refine vFz ?_; refine gTz ?_; refine ldz rfl .head fr_rd0 ?_; refine gTz ?_; refine vFz ?_; refine gTz ?_; refine ldz rfl .head fr_rd1 ?_; refine gTz ?_; apply LW.callE; rfl; rfl; infer_instance; exact .cons rfl (.cons rfl .nil); intro w _; exact hRd w (by assumption); refine gTz ?_; refine lvz (.notT rfl (by with_reducible rfl)) ?_; refine pTz ?_; refine nNz ?_; refine cFz ?_; refine CW.skip ?_; refine thenN ?_; refine sRz ?_; refine vAz ?_; refine nNz ?_; refine CW.ret ?_; apply finR; exact .inl rfl; rfl; rfl; rfl; apply ResL.cons; exact Res.tmp rfl; exact ResL.nil; rw [hp (by omega)]; rfl; (iterate 3 refine gFaz ?_); refine pTaz ?_; refine vMz ?_; (iterate 4 refine gFz ?_); refine pTz ?_; refine nNz ?_; refine cTz ?_; refine sRz ?_; refine vAz ?_; refine nNz ?_; refine CW.ret ?_; refine thenR (finR (.inl rfl) rfl rfl rfl (.cons (.tmp rfl) .nil) ?_); rw [hn (by omega)]; rfl; refine gFaz ?_; refine gFaz ?_; refine pTaz ?_; refine vMz ?_; (iterate 4 refine gFz ?_); refine pTz ?_; refine vMz ?_; (iterate 4 refine gFz ?_); refine pTz ?_; refine nNz ?_; refine cTz ?_; refine sRz ?_; refine vAz ?_; refine nNz ?_; refine CW.ret ?_; refine thenR (finR (.inl rfl) rfl rfl rfl (.cons (.tmp rfl) .nil) ?_); rw [hn (by omega)]; rfl; refine gFaz ?_; refine gFaz ?_; refine pTaz ?_; refine vAz ?_; refine nNz ?_; refine CW.seq ?_; refine sRz ?_; refine vMz ?_; refine vMz ?_; (iterate 3 refine gFz ?_); refine pTz ?_; refine vMz ?_; (iterate 4 refine gFz ?_); refine pTz ?_; refine vMz ?_; (iterate 4 refine gFz ?_); refine pTz ?_; refine nNz ?_; refine cTz ?_; refine sRz ?_; refine vAz ?_; refine nNz ?_; refine CW.ret ?_; refine thenR (finR (.inl rfl) rfl rfl rfl (.cons (.tmp rfl) .nil) ?_); rw [hn (by omega)]; rfl; (iterate 3 refine gFaz ?_); refine pTaz ?_; refine vMz ?_; (iterate 3 refine gFz ?_); refine pTz ?_; refine vAz ?_; refine nNz ?_; refine CW.seq ?_; refine sRz ?_; refine vMz ?_; refine vMz ?_; (iterate 3 refine gFz ?_); refine pTz ?_; refine vMz ?_; (iterate 4 refine gFz ?_); refine pTz ?_; refine vMz ?_; (iterate 4 refine gFz ?_); refine pTz ?_; refine nNz ?_; refine cTz ?_; refine sRz ?_; refine vAz ?_; refine nNz ?_; refine CW.ret ?_; refine thenR (finR (.inl rfl) rfl rfl rfl (.cons (.tmp rfl) .nil) ?_); rw [hn (by omega)]; rfl)
        | false =>
          rw [hr] at hRd0 hp hn
          have hRd : ∀ w' {fs}, St w [] fs w' → Calls Tryz.prog 67 #[.slice p0 L.cl.length c0, .int .i64 pc] w' (Ret w' (.bool false)) := hRd0
          simp only [Bool.false_eq_true, or_false] at hp hn
          (refine sRz ?_; apply LW.boxA; rfl; rfl; intro _; refine vAz ?_; refine nSz ?_; refine vFz ?_; refine ldz rfl .head fr_rd11 ?_; refine lvz (.lenR rfl inferInstance rfl) ?_; refine lvz (.gtr rfl rfl) ?_; refine vMz ?_)
          (refine LW.guardDF rfl rfl rfl (fun hsq hsp => ?_) (fun hsq hsp => ?_))
          (refine vFz ?_; refine gTaz ?_; refine ldz rfl .head fr_rd12 ?_; refine gTaz ?_; refine lvz (.lenR rfl inferInstance rfl) ?_; refine gTaz ?_; refine lvz (.gtr rfl rfl) ?_; refine pFaz ?_; refine vMz ?_; refine LW.guardDF rfl rfl rfl (fun hsq hsp => ?_) (fun hsq hsp => ?_); refine vFz ?_; refine gTaz ?_; refine ldz rfl .head fr_rd4 ?_; refine gTaz ?_; refine lvz (.gtr rfl rfl) ?_; refine pFaz ?_; refine vAz ?_; refine nNz ?_; refine CW.seq ?_; refine sRz ?_; refine vMz ?_; refine vMz ?_; refine LW.guardDF rfl rfl rfl (fun hsq hsp => ?_) (fun hsq hsp => ?_); refine vFz ?_; refine gTaz ?_; refine ldz rfl .head fr_rd5 ?_; refine gTaz ?_; refine lvz (.eq rfl rfl) ?_; refine pFaz ?_; refine vMz ?_; refine LW.guardDF rfl rfl rfl (fun hsq hsp => ?_) (fun hsq hsp => ?_); refine vFz ?_; refine gTaz ?_; refine ldz rfl .head fr_rd0 ?_; refine gTaz ?_; apply LW.callE; rfl; rfl; infer_instance; exact .cons rfl .nil; intro w _; exact hC w (by assumption); refine gTaz ?_; refine lvz (.neF rfl rfl (by omega)) ?_; refine pFaz ?_; refine vMz ?_; refine gTz ?_; refine vFz ?_; refine gTz ?_; refine ldz rfl .head fr_rd2 ?_; refine gTz ?_; apply LW.callE; rfl; rfl; infer_instance; exact .cons rfl .nil; intro w _; exact hS w; refine gTz ?_; refine lvz (.neF rfl rfl (by omega)) ?_; refine pFz ?_; refine nNz ?_; refine cFz ?_; refine CW.skip ?_; refine thenN ?_; refine CW.seq ?_; refine sRz ?_; refine vFz ?_; refine ldz rfl .head fr_rd1 ?_; refine vFz ?_; refine ldz rfl .head fr_rd0 ?_; refine lvz (.lenR rfl inferInstance rfl) ?_; refine lvz (.neT rfl rfl (by omega)) ?_; refine vMz ?_; refine gTz ?_; refine vFz ?_; refine gTz ?_; refine ldz rfl .head fr_rd0 ?_; refine gTz ?_; refine vFz ?_; refine gTz ?_; refine ldz rfl .head fr_rd1 ?_; refine gTz ?_; apply LW.callE; rfl; rfl; infer_instance; exact .cons rfl (.cons rfl .nil); intro w _; exact hRd w (by assumption); refine gTz ?_; refine lvz (.notF rfl (by with_reducible rfl)) ?_; refine pTz ?_; refine nNz ?_; refine cTz ?_; refine sRz ?_; refine vAz ?_; refine nNz ?_; refine CW.ret ?_; refine thenR (finR (.inl rfl) rfl rfl rfl (.cons (.tmp rfl) .nil) ?_); rw [hn (by omega)]; rfl; (iterate 3 refine gFaz ?_); refine pTaz ?_; refine vMz ?_; (iterate 4 refine gFz ?_); refine pTz ?_; refine nNz ?_; refine cTz ?_; refine sRz ?_; refine vAz ?_; refine nNz ?_; refine CW.ret ?_; refine thenR (finR (.inl rfl) rfl rfl rfl (.cons (.tmp rfl) .nil) ?_); rw [hn (by omega)]; rfl; refine gFaz ?_; refine gFaz ?_; refine pTaz ?_; refine vMz ?_; (iterate 4 refine gFz ?_); refine pTz ?_; refine vMz ?_; (iterate 4 refine gFz ?_); refine pTz ?_; refine nNz ?_; refine cTz ?_; refine sRz ?_; refine vAz ?_; refine nNz ?_; refine CW.ret ?_; refine thenR (finR (.inl rfl) rfl rfl rfl (.cons (.tmp rfl) .nil) ?_); rw [hn (by omega)]; rfl; refine gFaz ?_; refine gFaz ?_; refine pTaz ?_; refine vAz ?_; refine nNz ?_; refine CW.seq ?_; refine sRz ?_; refine vMz ?_; refine vMz ?_; (iterate 3 refine gFz ?_); refine pTz ?_; refine vMz ?_; (iterate 4 refine gFz ?_); refine pTz ?_; refine vMz ?_; (iterate 4 refine gFz ?_); refine pTz ?_; refine nNz ?_; refine cTz ?_; refine sRz ?_; refine vAz ?_; refine nNz ?_; refine CW.ret ?_; refine thenR (finR (.inl rfl) rfl rfl rfl (.cons (.tmp rfl) .nil) ?_); rw [hn (by omega)]; rfl; (iterate 3 refine gFaz ?_); refine pTaz ?_; refine vMz ?_; (iterate 3 refine gFz ?_); refine pTz ?_; refine vAz ?_; refine nNz ?_; refine CW.seq ?_; refine sRz ?_; refine vMz ?_; refine vMz ?_; (iterate 3 refine gFz ?_); refine pTz ?_; refine vMz ?_; (iterate 4 refine gFz ?_); refine pTz ?_; refine vMz ?_; (iterate 4 refine gFz ?_); refine pTz ?_; refine nNz ?_; refine cTz ?_; refine sRz ?_; refine vAz ?_; refine nNz ?_; refine CW.ret ?_; refine thenR (finR (.inl rfl) rfl rfl rfl (.cons (.tmp rfl) .nil) ?_); rw [hn (by omega)]; rfl)
    · rw [if_neg hs] at hS0
      have hS : ∀ w', Calls Tryz.prog 66 #[.agg #[.slice p2 L.ws.length c2, .slice p3 L.ms.length c3]] w' (Ret w' (.int .i64 230)) := hS0
      rw [hn (fun h => hs h.2.2.2.1)] at *
      clear hp hn
      (refine sRz ?_; apply LW.boxA; rfl; rfl; intro _; refine vAz ?_; refine nSz ?_; refine vFz ?_; refine ldz rfl .head fr_rd11 ?_; refine lvz (.lenR rfl inferInstance rfl) ?_; refine lvz (.gtr rfl rfl) ?_; refine vMz ?_)
      (refine LW.guardDF rfl rfl rfl (fun hsq hsp => ?_) (fun hsq hsp => ?_))
      (refine vFz ?_; refine gTaz ?_; refine ldz rfl .head fr_rd12 ?_; refine gTaz ?_; refine lvz (.lenR rfl inferInstance rfl) ?_; refine gTaz ?_; refine lvz (.gtr rfl rfl) ?_; refine pFaz ?_; refine vMz ?_; refine LW.guardDF rfl rfl rfl (fun hsq hsp => ?_) (fun hsq hsp => ?_); refine vFz ?_; refine gTaz ?_; refine ldz rfl .head fr_rd4 ?_; refine gTaz ?_; refine lvz (.gtr rfl rfl) ?_; refine pFaz ?_; refine vAz ?_; refine nNz ?_; refine CW.seq ?_; refine sRz ?_; refine vMz ?_; refine vMz ?_; refine LW.guardDF rfl rfl rfl (fun hsq hsp => ?_) (fun hsq hsp => ?_); refine vFz ?_; refine gTaz ?_; refine ldz rfl .head fr_rd5 ?_; refine gTaz ?_; refine lvz (.eq rfl rfl) ?_; refine pFaz ?_; refine vMz ?_; refine LW.guardDF rfl rfl rfl (fun hsq hsp => ?_) (fun hsq hsp => ?_); refine vFz ?_; refine gTaz ?_; refine ldz rfl .head fr_rd0 ?_; refine gTaz ?_; apply LW.callE; rfl; rfl; infer_instance; exact .cons rfl .nil; intro w _; exact hC w (by assumption); refine gTaz ?_; refine lvz (.neF rfl rfl (by omega)) ?_; refine pFaz ?_; refine vMz ?_; refine gTz ?_; refine vFz ?_; refine gTz ?_; refine ldz rfl .head fr_rd2 ?_; refine gTz ?_; apply LW.callE; rfl; rfl; infer_instance; exact .cons rfl .nil; intro w _; exact hS w; refine gTz ?_; refine lvz (.neT rfl rfl (by omega)) ?_; refine pFz ?_; refine nNz ?_; refine cTz ?_; refine sRz ?_; refine vAz ?_; refine nNz ?_; refine CW.ret ?_; refine thenR (finR (.inl rfl) rfl rfl rfl (.cons (.tmp rfl) .nil) ?_); rfl; (iterate 3 refine gFaz ?_); refine pTaz ?_; refine vMz ?_; (iterate 4 refine gFz ?_); refine pTz ?_; refine nNz ?_; refine cTz ?_; refine sRz ?_; refine vAz ?_; refine nNz ?_; refine CW.ret ?_; refine thenR (finR (.inl rfl) rfl rfl rfl (.cons (.tmp rfl) .nil) ?_); rfl; refine gFaz ?_; refine gFaz ?_; refine pTaz ?_; refine vMz ?_; (iterate 4 refine gFz ?_); refine pTz ?_; refine vMz ?_; (iterate 4 refine gFz ?_); refine pTz ?_; refine nNz ?_; refine cTz ?_; refine sRz ?_; refine vAz ?_; refine nNz ?_; refine CW.ret ?_; refine thenR (finR (.inl rfl) rfl rfl rfl (.cons (.tmp rfl) .nil) ?_); rfl; refine gFaz ?_; refine gFaz ?_; refine pTaz ?_; refine vAz ?_; refine nNz ?_; refine CW.seq ?_; refine sRz ?_; refine vMz ?_; refine vMz ?_; (iterate 3 refine gFz ?_); refine pTz ?_; refine vMz ?_; (iterate 4 refine gFz ?_); refine pTz ?_; refine vMz ?_; (iterate 4 refine gFz ?_); refine pTz ?_; refine nNz ?_; refine cTz ?_; refine sRz ?_; refine vAz ?_; refine nNz ?_; refine CW.ret ?_; refine thenR (finR (.inl rfl) rfl rfl rfl (.cons (.tmp rfl) .nil) ?_); rfl; (iterate 3 refine gFaz ?_); refine pTaz ?_; refine vMz ?_; (iterate 3 refine gFz ?_); refine pTz ?_; refine vAz ?_; refine nNz ?_; refine CW.seq ?_; refine sRz ?_; refine vMz ?_; refine vMz ?_; (iterate 3 refine gFz ?_); refine pTz ?_; refine vMz ?_; (iterate 4 refine gFz ?_); refine pTz ?_; refine vMz ?_; (iterate 4 refine gFz ?_); refine pTz ?_; refine nNz ?_; refine cTz ?_; refine sRz ?_; refine vAz ?_; refine nNz ?_; refine CW.ret ?_; refine thenR (finR (.inl rfl) rfl rfl rfl (.cons (.tmp rfl) .nil) ?_); rfl)
  · rw [if_neg hc] at hC0
    have hC : ∀ w' {fs}, St w [] fs w' → Calls Tryz.prog 48 #[.slice p0 L.cl.length c0] w' (Ret w' (.int .i64 3)) := hC0
    rw [hn (fun h => hc h.2.2.1)] at *
    clear hp hn
    (refine sRz ?_; apply LW.boxA; rfl; rfl; intro _; refine vAz ?_; refine nSz ?_; refine vFz ?_; refine ldz rfl .head fr_rd11 ?_; refine lvz (.lenR rfl inferInstance rfl) ?_; refine lvz (.gtr rfl rfl) ?_; refine vMz ?_)
    (refine LW.guardDF rfl rfl rfl (fun hsq hsp => ?_) (fun hsq hsp => ?_))
    (refine vFz ?_; refine gTaz ?_; refine ldz rfl .head fr_rd12 ?_; refine gTaz ?_; refine lvz (.lenR rfl inferInstance rfl) ?_; refine gTaz ?_; refine lvz (.gtr rfl rfl) ?_; refine pFaz ?_; refine vMz ?_; refine LW.guardDF rfl rfl rfl (fun hsq hsp => ?_) (fun hsq hsp => ?_); refine vFz ?_; refine gTaz ?_; refine ldz rfl .head fr_rd4 ?_; refine gTaz ?_; refine lvz (.gtr rfl rfl) ?_; refine pFaz ?_; refine vAz ?_; refine nNz ?_; refine CW.seq ?_; refine sRz ?_; refine vMz ?_; refine vMz ?_; refine LW.guardDF rfl rfl rfl (fun hsq hsp => ?_) (fun hsq hsp => ?_); refine vFz ?_; refine gTaz ?_; refine ldz rfl .head fr_rd5 ?_; refine gTaz ?_; refine lvz (.eq rfl rfl) ?_; refine pFaz ?_; refine vMz ?_; refine LW.guardDF rfl rfl rfl (fun hsq hsp => ?_) (fun hsq hsp => ?_); refine vFz ?_; refine gTaz ?_; refine ldz rfl .head fr_rd0 ?_; refine gTaz ?_; apply LW.callE; rfl; rfl; infer_instance; exact .cons rfl .nil; intro w _; exact hC w (by assumption); refine gTaz ?_; refine lvz (.neT rfl rfl (by omega)) ?_; refine pFaz ?_; refine vMz ?_; (iterate 4 refine gFz ?_); refine pTz ?_; refine nNz ?_; refine cTz ?_; refine sRz ?_; refine vAz ?_; refine nNz ?_; refine CW.ret ?_; refine thenR (finR (.inl rfl) rfl rfl rfl (.cons (.tmp rfl) .nil) ?_); rfl; (iterate 3 refine gFaz ?_); refine pTaz ?_; refine vMz ?_; (iterate 4 refine gFz ?_); refine pTz ?_; refine nNz ?_; refine cTz ?_; refine sRz ?_; refine vAz ?_; refine nNz ?_; refine CW.ret ?_; refine thenR (finR (.inl rfl) rfl rfl rfl (.cons (.tmp rfl) .nil) ?_); rfl; refine gFaz ?_; refine gFaz ?_; refine pTaz ?_; refine vMz ?_; (iterate 4 refine gFz ?_); refine pTz ?_; refine vMz ?_; (iterate 4 refine gFz ?_); refine pTz ?_; refine nNz ?_; refine cTz ?_; refine sRz ?_; refine vAz ?_; refine nNz ?_; refine CW.ret ?_; refine thenR (finR (.inl rfl) rfl rfl rfl (.cons (.tmp rfl) .nil) ?_); rfl; refine gFaz ?_; refine gFaz ?_; refine pTaz ?_; refine vAz ?_; refine nNz ?_; refine CW.seq ?_; refine sRz ?_; refine vMz ?_; refine vMz ?_; (iterate 3 refine gFz ?_); refine pTz ?_; refine vMz ?_; (iterate 4 refine gFz ?_); refine pTz ?_; refine vMz ?_; (iterate 4 refine gFz ?_); refine pTz ?_; refine nNz ?_; refine cTz ?_; refine sRz ?_; refine vAz ?_; refine nNz ?_; refine CW.ret ?_; refine thenR (finR (.inl rfl) rfl rfl rfl (.cons (.tmp rfl) .nil) ?_); rfl; (iterate 3 refine gFaz ?_); refine pTaz ?_; refine vMz ?_; (iterate 3 refine gFz ?_); refine pTz ?_; refine vAz ?_; refine nNz ?_; refine CW.seq ?_; refine sRz ?_; refine vMz ?_; refine vMz ?_; (iterate 3 refine gFz ?_); refine pTz ?_; refine vMz ?_; (iterate 4 refine gFz ?_); refine pTz ?_; refine vMz ?_; (iterate 4 refine gFz ?_); refine pTz ?_; refine nNz ?_; refine cTz ?_; refine sRz ?_; refine vAz ?_; refine nNz ?_; refine CW.ret ?_; refine thenR (finR (.inl rfl) rfl rfl rfl (.cons (.tmp rfl) .nil) ?_); rfl)
end Go.Proofs.YtpgdnfgjbhdbpaaGreatDoor

/-
  A machine: memory reached, whatever is asked.
  Conditions: none.
-/
namespace Go.Proofs.YtpgdnfgjbhdbpaaGreatDoor
open Go Go.RowKit SL
set_option maxRecDepth 8000
set_option maxHeartbeats 4000000
set_option linter.unusedSimpArgs false
set_option linter.unusedVariables false
attribute [local irreducible] SL.CW SL.LW SL.DW Calls SL.Ret SL.RetG SL.beginQ SL.roundQ SL.rangeQ SL.inQ SL.RW SL.AnyW SL.thenQ SL.thenC SL.thenW SL.blkQ SL.finQ SL.ValP SL.NewP SL.SetP SL.CallP SL.Rd SL.Wr SL.Known
/-! ### Facts in another order -/
def catI {α : Type} (env : List (List α)) (xs : List Nat) (tail : List α) : List α := xs.foldr (fun i acc => env.getD i [] ++ acc) tail
theorem perm_ix {α : Type} (env : List (List α)) {xs ys : List Nat} (tail : List α) (h : xs.isPerm ys = true) : (catI env xs tail).Perm (catI env ys tail) := by
  have hp : xs.Perm ys := List.isPerm_iff.1 h
  clear h
  unfold catI
  induction hp with
  | nil => exact .refl _
  | cons x _ ih => exact List.Perm.append_left _ ih
  | swap x y l =>
    simp only [List.foldr_cons, ← List.append_assoc]
    exact List.Perm.append_right _ List.perm_append_comm
  | trans _ _ ih1 ih2 => exact ih1.trans ih2
/-- Some of these facts, in whatever order. -/
def SubP {α : Type} (l l' : List α) : Prop := ∃ m, l.Sublist m ∧ m.Perm l'
theorem catI_tail {α : Type} (env : List (List α)) (zs : List Nat) (tail : List α) : tail.Sublist (catI env zs tail) := by
  induction zs with
  | nil => exact .refl _
  | cons z zs ih => exact List.Sublist.trans ih (List.sublist_append_right _ _)
theorem catI_app {α : Type} (env : List (List α)) (xs zs : List Nat) (tail : List α) : (catI env xs tail).Sublist (catI env (xs ++ zs) tail) := by
  induction xs with
  | nil => exact catI_tail env zs tail
  | cons x xs ih => exact List.Sublist.append_left ih _
theorem subp_ix {α : Type} (env : List (List α)) {xs ys : List Nat} (tail : List α) (h : (xs ++ ys.filter fun y => !xs.contains y).isPerm ys = true) : SubP (catI env xs tail) (catI env ys tail) := ⟨_, catI_app env xs _ tail, perm_ix env tail h⟩
theorem SubP.st {w0 w : World} {S : List Nat} {fs gs : Fs} (h : SubP gs fs) (hs : St w0 S fs w) : St w0 S gs w := by
  obtain ⟨m, h1, h2⟩ := h
  exact st_sub (hs.perm h2) h1
theorem LW.subP {C : Cu} {ops : Array Oper} {Q : Post} {l : List Oper} {e : Env} {fs fs' : Fs} (hp : SubP fs' fs) (h : LW C ops Q l e fs') : LW C ops Q l e fs := by
  unfold LW at h ⊢
  exact fun a w hs => h a w ⟨hs.env, hp.st hs.st⟩
/-- An outcome, some of its facts told, in whatever order. -/
def anyO (K : Out) : Out := fun x fs' => ∃ fs'', K x fs'' ∧ SubP fs'' fs'
theorem calls_anyO {P : Program} {f : FuncId} {args : Array Value} {w0 w : World} {S : List Nat} {K : Out} (h : Calls P f args w (fun x w' => ∃ fs', anyO K x fs' ∧ St w0 S fs' w')) : Calls P f args w (fun x w' => ∃ fs', K x fs' ∧ St w0 S fs' w') :=
  Calls.mono h fun x w' ⟨fs', ⟨fs'', hk, hp⟩, hst⟩ => ⟨fs'', hk, hp.st hst⟩
/-- A frame whose rows are of its own. -/
def FrO (f : FrV) (L : FrL) (gs : Fs) : Prop := ∃ g1 g2 g3 g4 g5, (g1 ++ (g2 ++ (g3 ++ (g4 ++ g5)))).Perm gs ∧ bM L.cl f.code g1 ∧ wM L.ws f.stk g2 ∧ bM L.ms f.mem g3 ∧ bM L.il f.inp g4 ∧ bM L.bl f.back g5
theorem bM_at {l : List UInt8} {v : Value} {g : Fs} {w : World} (h : bM l v g) (hw : ∀ p ∈ g, w.heap[p.1]? = some p.2) : RowAt w 1 v l.length (ucs l) := IsRow.us h hw (List.Sublist.refl _)
theorem wM_at {l : List Nat} {v : Value} {g : Fs} {w : World} (h : wM l v g) (hw : ∀ p ∈ g, w.heap[p.1]? = some p.2) : RowAt w 4 v l.length (wcs l) := IsRow.us h hw (List.Sublist.refl _)
theorem FrO.rows {f : FrV} {L : FrL} {gs : Fs} {w : World} (h : FrO f L gs) (hw : ∀ p ∈ gs, w.heap[p.1]? = some p.2) : FrRows w f L := by
  obtain ⟨g1, g2, g3, g4, g5, hp, h1, h2, h3, h4, h5⟩ := h
  replace hw : ∀ p ∈ g1 ++ (g2 ++ (g3 ++ (g4 ++ g5))), w.heap[p.1]? = some p.2 := fun p h => hw p (hp.subset h)
  exact ⟨bM_at h1 fun p hp => hw p (by simp [hp]), wM_at h2 fun p hp => hw p (by simp [hp]), bM_at h3 fun p hp => hw p (by simp [hp]), bM_at h4 fun p hp => hw p (by simp [hp]), bM_at h5 fun p hp => hw p (by simp [hp])⟩
theorem FrO.st {f : FrV} {L : FrL} {gs fs : Fs} {w0 w : World} {S : List Nat} (h : FrO f L gs) (hs : St w0 S fs w) (hg : ∀ p ∈ gs, p ∈ fs) : FrRows w f L := h.rows fun p hp => (hs.own p (hg p hp)).2
attribute [local irreducible] SL.inP
def FrL.setM (L : FrL) (ms : List UInt8) : FrL := { L with ms := ms }
theorem FrO.setSc {f : FrV} {L : FrL} {g1 g2 g3 g4 g5 s1 s2 : Fs} {ms : List UInt8} {s k : Value} {g : Nat} (h : bM L.cl f.code g1 ∧ wM L.ws f.stk g2 ∧ bM L.ms f.mem g3 ∧ bM L.il f.inp g4 ∧ bM L.bl f.back g5) (h1 : wM L.ws s s1) (h2 : bM ms k s2) :
    FrO { f with gas := g, stk := s, mem := k } (L.setM ms) (g1 ++ (s1 ++ (s2 ++ (g4 ++ g5)))) := ⟨g1, s1, s2, g4, g5, .refl _, h.1, h1, h2, h.2.2.2.1, h.2.2.2.2⟩
theorem reach_ok (w0 : World) (S : List Nat) (b : Nat) (m : MaV) (L : FrL) (gs : Fs) (a n : Nat) (ha : a < M256) (hn0 : 0 < n) (hn : n < M256) (hE2 : endV a n ≤ 1024) (hok : okSc L.ws.length L.ms.length) (hg : m.fr.gas < 18446744073709551616) (hfr : FrO m.fr L gs) (rest : Fs) (w : World) (hs : St w0 S ((b, maO m) :: (gs ++ rest)) w)
    (hcost : memV L.ms.length (endV a n) ≤ m.fr.gas) :
    Calls Tryz.prog 146 #[.pointer (some ⟨b, 0, none⟩), wv a, wv n] w (fun x w' => ∃ fs', (x = .returned (.tuple #[.int .u64 (a : Int), .int .u64 (n : Int)]) ∧ ∃ s k gs', FrO { m.fr with gas := m.fr.gas - memV L.ms.length (endV a n), stk := s, mem := k } (L.setM (L.ms ++ List.replicate (upW (endV a n) - L.ms.length) 0)) gs' ∧ fs' = (b, maO ((m.setGas (m.fr.gas - memV L.ms.length (endV a n))).setSc s k)) :: (gs' ++ rest)) ∧ St w0 S fs' w') := by
  obtain ⟨g1, g2, g3, g4, g5, hp, hall⟩ := hfr
  replace hs : St w0 S ((b, maO m) :: (g1 ++ (g2 ++ (g3 ++ (g4 ++ g5))) ++ rest)) w := hs.perm (List.Perm.cons _ (hp.append_right rest))
  clear hp
  obtain ⟨_, _, hm3, _, _⟩ := id hall
  unfold bM at hm3
  obtain ⟨p2, c2, hmv⟩ := hm3.form
  have hk : L.ms.length ≤ 1024 := hok.2.1
  have hmem : ∀ {E fr}, Rd Tryz.prog 22 (.cells (mca m) E fr) 3 (.slice p2 L.ms.length c2) := fun {E fr} => by rw [← hmv]; exact ma_rd3
  have hEnd0 := End_calls a n ha hn
  have hMem0 := Memory_calls L.ms.length (endV a n) (by omega) (by omega)
  have hEa : a + n ≤ endV a n := by
    unfold endV at hE2 ⊢
    rw [if_neg (by omega)] at hE2 ⊢
    unfold NOG at hE2 ⊢
    omega
  have hSa0 := Small_calls a ha
  have hSn0 := Small_calls n hn
  obtain ⟨E, hE⟩ : ∃ E, E = endV a n := ⟨_, rfl⟩
  rw [← hE] at hEnd0 hMem0 hE2 hcost hEa ⊢
  clear hE
  obtain ⟨c, hc⟩ : ∃ c, c = memV L.ms.length E := ⟨_, rfl⟩
  rw [← hc] at hMem0 hcost ⊢
  clear hc
  rw [if_pos (by omega), decide_eq_true (by omega)] at hSa0 hSn0
  have hEnd : ∀ w, Calls Tryz.prog 158 #[wv a, wv n] w (Ret w (.int .u64 (E : Int))) := hEnd0
  have hMem : ∀ w, Calls Tryz.prog 159 #[.int .u64 (L.ms.length : Int), .int .u64 (E : Int)] w (Ret w (.int .u64 (c : Int))) := hMem0
  have hSa : ∀ w, Calls Tryz.prog 121 #[wv a] w (Ret w (.tuple #[.int .u64 (a : Int), .bool true])) := hSa0
  have hSn : ∀ w, Calls Tryz.prog 121 #[wv n] w (Ret w (.tuple #[.int .u64 (n : Int), .bool true])) := hSn0
  have hsp : spendM m [c] = some (m.setGas (m.fr.gas - c)) := by unfold spendM; rw [if_pos (by simp; omega)]; simp
  refine calls_anyO (calls_inlineP (K := anyO fun x fs' => x = .returned (.tuple #[.int .u64 (a : Int), .int .u64 (n : Int)]) ∧ ∃ s k gs', FrO { m.fr with gas := m.fr.gas - c, stk := s, mem := k } (L.setM (L.ms ++ List.replicate (upW E - L.ms.length) 0)) gs' ∧ fs' = (b, maO ((m.setGas (m.fr.gas - c)).setSc s k)) :: (gs' ++ rest)) (args := [_, _, _]) Tryz.func146 rfl Tryz.ntmps146 rfl ?_ hs)
  (refine sRz ?_; apply LW.boxA; rfl; rfl; intro _; apply LW.boxA; rfl; rfl; intro _; refine vAz ?_; refine vAz ?_; refine nSz ?_; refine ldz rfl (.tail .head) (Rd.whole rfl) ?_; refine ldz rfl .head (Rd.whole rfl) ?_; apply LW.callE; rfl; rfl; infer_instance; exact .cons rfl (.cons rfl .nil); intro w _; exact hEnd w; refine vAz ?_; refine nSz ?_; refine vMz ?_; refine vMz ?_; refine vNz ?_; refine vFz ?_; refine vFz ?_; refine vFz ?_; refine ldz rfl (.tail (.tail .head)) hmem ?_; refine lvz (.lenR rfl inferInstance rfl) ?_; refine lvz (.convN rfl (by omega) (by omega)) ?_; refine vMz ?_; apply LW.callE; rfl; rfl; infer_instance; exact .cons rfl (.cons rfl .nil); intro w _; exact hMem w; apply LW.lay1; rfl; infer_instance; infer_instance; rfl; rfl; rfl; rfl; rfl; rfl; intro _)
  rename_i b4 b5 b29
  refine LW.perm (fs' := (b, maO m) :: (b29, .cells #[.int .u64 (c : Int)] 26 (0, 0)) :: (b5, .cells (wc n) 29 (0, 0)) :: (b4, .cells (wc a) 29 (0, 0)) :: (g1 ++ (g2 ++ (g3 ++ (g4 ++ g5))) ++ rest)) (by exact (List.perm_middle (l₁ := [_, _, _])).symm) ?_
  refine LW.callP (K := MaK b m (spendM m [c]) _) rfl rfl inferInstance (by (exact .cons rfl (.cons rfl .nil))) rfl (fun fs h => ?_) (fun w' hst => spend_calls w0 S b m [c] hg _ _ w' hst (fun w2 h2 => row_cells (h2.own (b29, _) (List.Mem.tail _ (List.Mem.head _))).2 rfl rfl (by simp [maxLen]))) ?_ ?_
  · rw [hsp] at h; cases h.1
  · rintro v fs' h
    rw [hsp] at h
    obtain ⟨h, rfl⟩ := h
    have hmem : ∀ {E fr}, Rd Tryz.prog 22 (.cells (mca (m.setGas (m.fr.gas - c))) E fr) 3 (.slice p2 L.ms.length c2) := fun {E fr} => by rw [← hmv]; exact ma_rd3 (m := m.setGas (m.fr.gas - c))
    (refine nNz ?_; refine CW.seq ?_; refine sRz ?_; refine vMz ?_; refine lvz (.eqF rfl rfl (by omega)) ?_; refine nNz ?_; refine cFz ?_; refine CW.skip ?_; refine thenN ?_; refine sRz ?_; refine vMz ?_; refine vNz ?_; refine vFz ?_; refine vFz ?_; refine ldz rfl .head ma_rd2 ?_; refine vMz ?_)
    (apply LW.callR; rfl; rfl; infer_instance; exact .cons rfl (.cons rfl (.cons rfl .nil)); intro w hs)
    exact grow_ok L.ws L.ms E _ _ w ((FrO.st (f := m.fr) (L := L) (gs := g1 ++ (g2 ++ (g3 ++ (g4 ++ g5)))) ⟨g1, g2, g3, g4, g5, .refl _, hall⟩ hs (fun p hp => List.mem_cons_of_mem _ (by simp only [List.mem_cons, List.mem_append] at hp ⊢; simp [hp]))).s) ((FrO.st (f := m.fr) (L := L) (gs := g1 ++ (g2 ++ (g3 ++ (g4 ++ g5)))) ⟨g1, g2, g3, g4, g5, .refl _, hall⟩ hs (fun p hp => List.mem_cons_of_mem _ (by simp only [List.mem_cons, List.mem_append] at hp ⊢; simp [hp]))).m) hok (by omega) hE2
    rintro vo gso ⟨o, rfl, s1, m1, gg1, gg2, rfl, rfl, hw1, hb1⟩
    have hw1' := hw1
    have hb1' := hb1
    unfold wM at hw1'
    unfold bM at hb1'
    obtain ⟨q1, k1, rfl⟩ := hw1'.form
    obtain ⟨q2, k2, rfl⟩ := hb1'.form
    (refine vMz ?_; refine vEz ?_; refine vEz ?_; apply LW.allocA; rfl; intro _; refine LW.store rfl rfl .head (.whole rfl rfl rfl) ?_; refine vAz ?_; refine nSz ?_; refine vMz ?_; refine lvz (.eqT rfl rfl (by omega)) ?_; apply LW.callE; rfl; rfl; infer_instance; exact .cons rfl .nil; intro w _; exact need_true w; refine nSz ?_; refine vMz ?_; refine ldz rfl .head (Rd.whole rfl) ?_; refine vNz ?_; refine vFz ?_; refine vFz ?_; refine LW.store rfl rfl (.tail (.app .head)) (ma_wr2 rfl rfl rfl rfl) ?_; refine nSz ?_; refine ldz rfl (.tail (.app (.tail (.tail (.tail .head))))) (Rd.whole rfl) ?_; apply LW.callE; rfl; rfl; infer_instance; exact .cons rfl .nil; intro w _; exact hSa w; refine vMz ?_; refine vEz ?_; refine vEz ?_; refine vAz ?_; refine vAz ?_; refine nSz ?_; refine ldz rfl (.tail (.app (.tail (.tail .head)))) (Rd.whole rfl) ?_; apply LW.callE; rfl; rfl; infer_instance; exact .cons rfl .nil; intro w _; exact hSn w; refine vMz ?_; refine vEz ?_; refine vEz ?_; refine vAz ?_; refine vAz ?_; refine nSz ?_; refine vMz ?_; refine vMz ?_; refine vAz ?_; refine vAz ?_; refine nNz ?_; refine CW.ret ?_)
    refine inPI (.inl rfl) .nil rfl (by (apply ResL.cons; exact Res.tmp rfl; apply ResL.cons; exact Res.tmp rfl; exact ResL.nil)) rfl ⟨_, ⟨rfl, _, _, _, FrO.setSc hall hw1 hb1, rfl⟩, ?_⟩
    simp only [List.append_assoc, List.cons_append, List.nil_append]
    exact subp_ix [[_], [_], gg2, gg1, [_], [_], [_], g1, g2, g3, g4, g5] (xs := [4, 7, 3, 2, 10, 11]) (ys := [0, 2, 3, 4, 1, 5, 6, 7, 8, 9, 10, 11]) rest rfl
  · rintro ch fs' h
    rw [hsp] at h; cases h.1
/-! ### Whatever is asked -/
def costR (L : FrL) (a n : Nat) : Nat := memV L.ms.length (endV a n)
def memR (L : FrL) (a n : Nat) : FrL := L.setM (L.ms ++ List.replicate (upW (endV a n) - L.ms.length) 0)
def frR (f : FrV) (L : FrL) (a n : Nat) (s k : Value) : FrV := { f with gas := f.gas - costR L a n, stk := s, mem := k }
def MaV.setF (m : MaV) (f : FrV) : MaV := { m with fr := f }
def ReachK (b : Nat) (m : MaV) (L : FrL) (gs : Fs) (a n : Nat) (rest : Fs) : Out := fun x fs' =>
  (m.fr.gas < costR L a n ∧ x = .panicked failC ∧ fs' = (b, maO m) :: (gs ++ rest)) ∨
  (costR L a n ≤ m.fr.gas ∧ ∃ s k gs', x = .returned (.tuple #[.int .u64 ((if n = 0 then 0 else a : Nat) : Int), .int .u64 (n : Int)]) ∧ FrO (frR m.fr L a n s k) (memR L a n) gs' ∧ fs' = (b, maO (m.setF (frR m.fr L a n s k))) :: (gs' ++ rest))
theorem memV_le {k E g : Nat} (hk : k ≤ 1024) (hg : g ≤ 20000) (h : memV k E ≤ g) : E ≤ 1024 := by
  unfold memV at h
  split at h
  · omega
  · split at h <;> omega
theorem endV_lt (a n : Nat) : endV a n < 18446744073709551616 := by
  unfold endV NOG
  split <;> omega
theorem reach_calls (w0 : World) (S : List Nat) (b : Nat) (m : MaV) (L : FrL) (gs : Fs) (a n : Nat) (ha : a < M256) (hn : n < M256) (hok : okSc L.ws.length L.ms.length) (hg : m.fr.gas ≤ 20000) (hfr : FrO m.fr L gs) (rest : Fs) (w : World) (hs : St w0 S ((b, maO m) :: (gs ++ rest)) w) :
    Calls Tryz.prog 146 #[.pointer (some ⟨b, 0, none⟩), wv a, wv n] w (fun x w' => ∃ fs', ReachK b m L gs a n rest x fs' ∧ St w0 S fs' w') := by
  have hk : L.ms.length ≤ 1024 := hok.2.1
  have hm : ∃ p2 c2, m.fr.mem = .slice p2 L.ms.length c2 := by
    obtain ⟨g1, g2, g3, g4, g5, _, h1, h2, h3, h4, h5⟩ := hfr
    unfold bM at h3
    exact h3.form
  obtain ⟨p2, c2, hm⟩ := hm
  rcases Nat.lt_or_ge m.fr.gas (costR L a n) with hlt | hge
  · refine Calls.mono (reach_gas w0 S b m a n L.ms.length p2 c2 ha hn (endV_lt a n) hk (by omega) hm (gs ++ rest) w hs hlt) ?_
    rintro x w' ⟨fs', ⟨rfl, ex, rfl⟩, hst⟩
    exact ⟨_, .inl ⟨hlt, rfl, rfl⟩, st_sub hst (List.Sublist.cons_cons _ (List.sublist_append_right _ _))⟩
  · rcases Nat.eq_zero_or_pos n with rfl | hn0
    · refine Calls.mono (reach_none w0 S b m a 0 L.ms.length rfl p2 c2 ha hk (by omega) hm (gs ++ rest) w hs) ?_
      rintro x w' ⟨fs', ⟨rfl, ex, rfl⟩, hst⟩
      have he : endV a 0 = 0 := by simp [endV]
      have hc : costR L a 0 = 0 := by unfold costR; rw [he]; simp [memV]
      have hmr : memR L a 0 = L := by unfold memR FrL.setM; rw [he]; simp [upW]
      have hfr2 : frR m.fr L a 0 m.fr.stk m.fr.mem = m.fr := by unfold frR; rw [hc]; rfl
      refine ⟨_, .inr ⟨hge, m.fr.stk, m.fr.mem, gs, rfl, ?_, ?_⟩, st_sub hst (List.Sublist.cons_cons _ (List.sublist_append_right ex _))⟩
      · rw [hmr, hfr2]; exact hfr
      · rw [hfr2]; rfl
    · refine Calls.mono (reach_ok w0 S b m L gs a n ha hn0 hn (memV_le hk hg hge) hok (by omega) hfr rest w hs hge) ?_
      rintro x w' ⟨fs', ⟨rfl, s, k, gs', h1, rfl⟩, hst⟩
      refine ⟨_, .inr ⟨hge, s, k, gs', ?_, h1, rfl⟩, hst⟩
      rw [if_neg (by omega)]
end Go.Proofs.YtpgdnfgjbhdbpaaGreatDoor

/-
  Frames in memory of their own.
  Conditions: none.
-/
namespace Go.Proofs.YtpgdnfgjbhdbpaaGreatDoor
open Go Go.RowKit SL
set_option maxRecDepth 8000
set_option maxHeartbeats 4000000
set_option linter.unusedSimpArgs false
set_option linter.unusedVariables false
attribute [local irreducible] SL.CW SL.LW SL.DW Calls SL.Ret SL.RetG SL.beginQ SL.roundQ SL.rangeQ SL.inQ SL.RW SL.AnyW SL.thenQ SL.thenC SL.thenW SL.blkQ SL.finQ SL.ValP SL.NewP SL.SetP SL.CallP SL.Rd SL.Wr SL.Known
/-- A frame with other rows. -/
def FrV.rows (f : FrV) (c s m i b : Value) : FrV := ⟨c, f.pc, s, m, f.gas, f.self, f.frm, f.val, i, b, f.stat⟩
section wr
variable {P : Program} {T E : TypeId} {code stk mem inp back z : Value} {pc : Int} {gas self frm val n c : Nat} {stat : Bool} {p : Option Addr} {g : Nat}
theorem fr_wr0 [InfoI P T 1 z] : Wr P T (.cells (fra ⟨code, pc, stk, mem, gas, self, frm, val, inp, back, stat⟩) E (0, 0)) (0 + 0) (.slice p n c) (.cells (fra ⟨.slice p n c, pc, stk, mem, gas, self, frm, val, inp, back, stat⟩) E (0, 0)) := Wr.cells (n := 1) (z := z) rfl rfl (by show 0 + 0 + 1 ≤ 14; omega) rfl
theorem fr_wr2 [InfoI P T 1 z] : Wr P T (.cells (fra ⟨code, pc, stk, mem, gas, self, frm, val, inp, back, stat⟩) E (0, 0)) (0 + 2 + 0) (.slice p n c) (.cells (fra ⟨code, pc, .slice p n c, mem, gas, self, frm, val, inp, back, stat⟩) E (0, 0)) := Wr.cells (n := 1) (z := z) rfl rfl (by show 0 + 2 + 0 + 1 ≤ 14; omega) rfl
theorem fr_wr3 [InfoI P T 1 z] : Wr P T (.cells (fra ⟨code, pc, stk, mem, gas, self, frm, val, inp, back, stat⟩) E (0, 0)) (0 + 2 + 1) (.slice p n c) (.cells (fra ⟨code, pc, stk, .slice p n c, gas, self, frm, val, inp, back, stat⟩) E (0, 0)) := Wr.cells (n := 1) (z := z) rfl rfl (by show 0 + 2 + 1 + 1 ≤ 14; omega) rfl
theorem fr_wr4 {x : Nat} [InfoI P T 1 z] : Wr P T (.cells (fra ⟨code, pc, stk, mem, gas, self, frm, val, inp, back, stat⟩) E (0, 0)) (0 + 4) (.int .u64 (x : Int)) (.cells (fra ⟨code, pc, stk, mem, x, self, frm, val, inp, back, stat⟩) E (0, 0)) := Wr.cells (n := 1) (z := z) rfl rfl (by show 0 + 4 + 1 ≤ 14; omega) rfl
theorem fr_wr11 [InfoI P T 1 z] : Wr P T (.cells (fra ⟨code, pc, stk, mem, gas, self, frm, val, inp, back, stat⟩) E (0, 0)) (0 + 11) (.slice p n c) (.cells (fra ⟨code, pc, stk, mem, gas, self, frm, val, .slice p n c, back, stat⟩) E (0, 0)) := Wr.cells (n := 1) (z := z) rfl rfl (by show 0 + 11 + 1 ≤ 14; omega) rfl
theorem fr_wr12 [InfoI P T 1 z] : Wr P T (.cells (fra ⟨code, pc, stk, mem, gas, self, frm, val, inp, back, stat⟩) E (0, 0)) (0 + 12) (.slice p n c) (.cells (fra ⟨code, pc, stk, mem, gas, self, frm, val, inp, .slice p n c, stat⟩) E (0, 0)) := Wr.cells (n := 1) (z := z) rfl rfl (by show 0 + 12 + 1 ≤ 14; omega) rfl
end wr
/-- The values of a frame's rows are slices. -/
structure FrSl (f : FrV) : Prop where
  c : ∃ p n c, f.code = .slice p n c
  s : ∃ p n c, f.stk = .slice p n c
  m : ∃ p n c, f.mem = .slice p n c
  i : ∃ p n c, f.inp = .slice p n c
  b : ∃ p n c, f.back = .slice p n c
theorem FrRows.sl {w : World} {f : FrV} {L : FrL} (h : FrRows w f L) : FrSl f := by
  obtain ⟨a, b, h1, _⟩ := h.c.form
  obtain ⟨a2, b2, h2, _⟩ := h.s.form
  obtain ⟨a3, b3, h3, _⟩ := h.m.form
  obtain ⟨a4, b4, h4, _⟩ := h.i.form
  obtain ⟨a5, b5, h5, _⟩ := h.b.form
  exact ⟨⟨_, _, _, h1⟩, ⟨_, _, _, h2⟩, ⟨_, _, _, h3⟩, ⟨_, _, _, h4⟩, ⟨_, _, _, h5⟩⟩
theorem fr_cells {f : FrV} (h : FrSl f) : (fra f).toList.all Value.oneCell' = true := by
  obtain ⟨⟨_, _, _, h1⟩, ⟨_, _, _, h2⟩, ⟨_, _, _, h3⟩, ⟨_, _, _, h4⟩, ⟨_, _, _, h5⟩⟩ := h
  simp only [fra, frc, wc, List.cons_append, List.nil_append, List.all_cons, List.all_nil, h1, h2, h3, h4, h5]; rfl
theorem fr_wrW {P : Program} {T E : TypeId} {f : FrV} {z : Value} {cs : Array Value} [InfoI P T 14 z] (h : cs.size = 14) (hf : FrSl f) : Wr P T (.cells cs E (0, 0)) 0 (frv f) (.cells (fra f) E (0, 0)) := Wr.whole h rfl (fr_cells hf)
theorem perm5 {α : Type} (g1 g2 g3 g4 g5 : List α) : (g1 ++ (g2 ++ (g3 ++ (g4 ++ g5)))).Perm (g3 ++ (g2 ++ (g5 ++ (g4 ++ g1)))) := by
  have h := perm_ix [g1, g2, g3, g4, g5] (xs := [0, 1, 2, 3, 4]) (ys := [2, 1, 4, 3, 0]) [] rfl
  simpa [catI] using h
/-- Rows that are not too long. -/
def FrL.short (L : FrL) : Prop := L.cl.length ≤ 100000 ∧ L.ws.length ≤ 100000 ∧ L.ms.length ≤ 100000 ∧ L.il.length ≤ 100000 ∧ L.bl.length ≤ 100000
def CopyR (f : FrV) (L : FrL) (v : Value) (gs : Fs) : Prop := ∃ c s m i b, v = frv (f.rows c s m i b) ∧ FrO (f.rows c s m i b) L gs
theorem callCopied_calls (f : FrV) (L : FrL) (hl : L.short) (w : World) (h : FrRows w f L) : Calls Tryz.prog 41 #[frv f] w (RetG w [] (CopyR f L)) := by
  obtain ⟨code, pc, stk, mem, gas, self, frm, val, inp, back, stat⟩ := f
  obtain ⟨h0, h2, h3, h11, h12⟩ := h
  dsimp only at h0 h2 h3 h11 h12
  obtain ⟨p0, c0, rfl, _, hm0⟩ := id h0.form
  obtain ⟨p2, c2, rfl, _, hm2⟩ := id h2.form
  obtain ⟨p3, c3, rfl, _, hm3⟩ := id h3.form
  obtain ⟨p11, c11, rfl, _, hm11⟩ := id h11.form
  obtain ⟨p12, c12, rfl, _, hm12⟩ := id h12.form
  refine enter (args := [_]) _ [] [] Tryz.func41 rfl Tryz.ntmps41 rfl (by simp) .nil ?_
  (refine sRz ?_; apply LW.boxA; rfl; rfl; intro _; apply LW.allocA; rfl; intro _; refine nNz ?_; refine CW.seq ?_)
  rename_i b1 b2
  apply CW.pre
  (refine AnyW.anyM [(2, bM L.cl), (5, bM L.il), (8, bM L.bl)] 10 mixed (by decide +kernel) ?_)
  ((try simp only [tsOf_cons, tsOf_nil, tsOf_app]); refine dvz (.fieldAddr rfl rfl) ?_; apply DW.loadO; rfl; rfl; rfl; exact WantT.none; rfl; apply TRead.tail; apply TRead.head; exact ancB_nil; exact fr_rd0)
  (apply DW.manyV; rfl; rfl; rfl; exact WantT.none; rfl; infer_instance; exact .cons rfl .nil; apply RdV.ext; assumption; rfl; exact RdV.nil; intro w _ _)
  exact SK.Clone_calls _ _ w (h0.bel (by assumption)) hl.1
  intro v1 g1 h1
  ((try simp only [tsOf_cons, tsOf_nil, tsOf_app]); refine dvz (.fieldAddr rfl rfl) ?_; apply DW.loadO; rfl; rfl; rfl; exact WantT.none; rfl; apply TRead.app; apply TRead.tail; apply TRead.head; exact ancB_nil; exact fr_rd11)
  (apply DW.manyV; rfl; rfl; rfl; exact WantT.none; rfl; infer_instance; exact .cons rfl .nil; apply RdV.ext; assumption; rfl; exact RdV.nil; intro w _ _)
  exact SK.Clone_calls _ _ w (h11.bel (by assumption)) hl.2.2.2.1
  intro v4 g4 h4
  ((try simp only [tsOf_cons, tsOf_nil, tsOf_app]); refine dvz (.fieldAddr rfl rfl) ?_; apply DW.loadO; rfl; rfl; rfl; exact WantT.none; rfl; apply TRead.app; apply TRead.app; apply TRead.tail; apply TRead.head; exact ancB_nil; exact fr_rd12)
  (apply DW.manyV; rfl; rfl; rfl; exact WantT.none; rfl; infer_instance; exact .cons rfl .nil; apply RdV.ext; assumption; rfl; exact RdV.nil; intro w _ _)
  exact SK.Clone_calls _ _ w (h12.bel (by assumption)) hl.2.2.2.2
  intro v5 g5 h5
  have h1' := h1
  have h4' := h4
  have h5' := h5
  unfold bM at h1' h4' h5'
  obtain ⟨q1, k1, rfl⟩ := h1'.form
  obtain ⟨q4, k4, rfl⟩ := h4'.form
  obtain ⟨q5, k5, rfl⟩ := h5'.form
  ((try simp only [tsOf_cons, tsOf_nil, tsOf_app]); refine dvz (.fieldAddr rfl rfl) ?_; apply DW.nil; simp only [fsOf_cons, fsOf_nil, fsOf_app, fsOf_tsOf, fsOf_new, fsOf_tag])
  (refine LW.store rfl rfl (.app (.app (.app (.tail .head)))) fr_wr0 ?_; refine vFz ?_; refine LW.store rfl rfl (.app (.app (.app (.tail .head)))) fr_wr11 ?_; refine vFz ?_; refine LW.store rfl rfl (.app (.app (.app (.tail .head)))) fr_wr12 ?_; refine nNz ?_; refine CW.seq ?_)
  apply CW.pre
  (refine AnyW.anyM [(3, wM L.ws), (7, bM L.ms)] 10 mixed (by decide +kernel) ?_)
  ((try simp only [tsOf_cons, tsOf_nil, tsOf_app]); refine dvz (.fieldAddr rfl rfl) ?_; refine dvz (.fieldAddr rfl rfl) ?_; apply DW.loadO; rfl; rfl; rfl; exact WantT.none; rfl; apply TRead.app; apply TRead.app; apply TRead.app; apply TRead.tail; apply TRead.head; exact ancB_nil; exact fr_rd2s)
  (apply DW.manyV; rfl; rfl; rfl; exact WantT.none; rfl; infer_instance; exact .cons rfl .nil; apply RdV.ext; assumption; rfl; exact RdV.nil; intro w _ _)
  exact CloneW_calls _ _ w (h2.bel (by assumption)) hl.2.1
  intro v2 g2 hh2
  ((try simp only [tsOf_cons, tsOf_nil, tsOf_app]); refine dvz (.fieldAddr rfl rfl) ?_; refine dvz (.fieldAddr rfl rfl) ?_; apply DW.loadO; rfl; rfl; rfl; exact WantT.none; rfl; apply TRead.app; apply TRead.app; apply TRead.app; apply TRead.app; apply TRead.tail; apply TRead.head; exact ancB_nil; exact fr_rd3)
  (apply DW.manyV; rfl; rfl; rfl; exact WantT.none; rfl; infer_instance; exact .cons rfl .nil; apply RdV.ext; assumption; rfl; exact RdV.nil; intro w _ _)
  exact SK.Clone_calls _ _ w (h3.bel (by assumption)) hl.2.2.1
  intro v3 g3 hh3
  have h2' := hh2
  have h3' := hh3
  unfold wM at h2'
  unfold bM at h3'
  obtain ⟨q2, k2, rfl⟩ := h2'.form
  obtain ⟨q3, k3, rfl⟩ := h3'.form
  ((try simp only [tsOf_cons, tsOf_nil, tsOf_app]); refine dvz (.fieldAddr rfl rfl) ?_; refine dvz (.fieldAddr rfl rfl) ?_; apply DW.nil; simp only [fsOf_cons, fsOf_nil, fsOf_app, fsOf_tsOf, fsOf_new, fsOf_tag])
  have hsl : FrSl ⟨.slice q1 L.cl.length k1, pc, .slice q2 L.ws.length k2, .slice q3 L.ms.length k3, gas, self, frm, val, .slice q4 L.il.length k4, .slice q5 L.bl.length k5, stat⟩ := ⟨⟨_, _, _, rfl⟩, ⟨_, _, _, rfl⟩, ⟨_, _, _, rfl⟩, ⟨_, _, _, rfl⟩, ⟨_, _, _, rfl⟩⟩
  (refine LW.store rfl rfl (.app (.app (.app (.app (.app (.tail .head)))))) fr_wr2 ?_; refine vFz ?_; refine vFz ?_; refine LW.store rfl rfl (.app (.app (.app (.app (.app (.tail .head)))))) fr_wr3 ?_; refine nSz ?_; refine ldz rfl (.app (.app (.app (.app (.app (.tail .head)))))) fr_rdW ?_; apply LW.store; rfl; rfl; apply SetAt.app; apply SetAt.app; apply SetAt.app; apply SetAt.app; apply SetAt.app; apply SetAt.head; apply fr_wrW; rfl; assumption; refine nNz ?_; refine CW.ret ?_)
  refine fin (vs := [frv ⟨.slice q1 L.cl.length k1, pc, .slice q2 L.ws.length k2, .slice q3 L.ms.length k3, gas, self, frm, val, .slice q4 L.il.length k4, .slice q5 L.bl.length k5, stat⟩]) (g3 ++ (g2 ++ (g5 ++ (g4 ++ g1)))) (.inl rfl) rfl rfl (by (apply ResL.cons; apply Res.cell; rfl; apply Known.at; apply FsAt.app; apply FsAt.app; apply FsAt.app; apply FsAt.app; apply FsAt.app; apply FsAt.head; exact fr_rdW; exact ResL.nil)) ?_ ⟨_, _, _, _, _, rfl, g1, g2, g3, g4, g5, ?_, h1, hh2, hh3, h4, h5⟩
  · exact List.Sublist.append_left (List.Sublist.append_left (List.Sublist.append_left (List.Sublist.append_left (List.sublist_append_left _ _) _) _) _) _
  · exact perm5 g1 g2 g3 g4 g5
/-- A machine that has done nothing yet. -/
def ma0 (f : FrV) (e0 e1 e2 e3 : Nat) : MaV := ⟨f, e0, e1, e2, e3, .slice none 0 0, 0, 0, .slice none 0 0, .slice none 0 0⟩
def OfR (f : FrV) (L : FrL) (e0 e1 e2 e3 : Nat) (v : Value) (gs : Fs) : Prop := ∃ bm c s m i b g, v = .pointer (some ⟨bm, 0, none⟩) ∧ gs = (bm, maO (ma0 (f.rows c s m i b) e0 e1 e2 e3)) :: g ∧ FrO (f.rows c s m i b) L g
def enva (e0 e1 e2 e3 : Nat) : Array Value := #[.int .u64 (e0 : Int), .int .u64 (e1 : Int), .int .u64 (e2 : Int), .int .u64 (e3 : Int)]
theorem fOf_calls (f : FrV) (L : FrL) (e0 e1 e2 e3 : Nat) (hl : L.short) (w : World) (h : FrRows w f L) : Calls Tryz.prog 113 #[frv f, .agg (enva e0 e1 e2 e3)] w (RetG w [] (OfR f L e0 e1 e2 e3)) := by
  obtain ⟨code, pc, stk, mem, gas, self, frm, val, inp, back, stat⟩ := f
  obtain ⟨h0, h2, h3, h11, h12⟩ := h
  dsimp only at h0 h2 h3 h11 h12
  obtain ⟨p0, c0, rfl, _, hm0⟩ := id h0.form
  obtain ⟨p2, c2, rfl, _, hm2⟩ := id h2.form
  obtain ⟨p3, c3, rfl, _, hm3⟩ := id h3.form
  obtain ⟨p11, c11, rfl, _, hm11⟩ := id h11.form
  obtain ⟨p12, c12, rfl, _, hm12⟩ := id h12.form
  refine enter (args := [_, _]) _ [] [] Tryz.func113 rfl Tryz.ntmps113 rfl (by simp) .nil ?_
  (refine sRz ?_; apply LW.boxA; rfl; rfl; intro _; apply LW.boxA; rfl; rfl; intro _; refine vAz ?_; refine nNz ?_; refine CW.seq ?_)
  rename_i b1 b2
  apply CW.pre
  (refine AnyW.anyM [(2, bM L.cl), (5, bM L.il), (8, bM L.bl)] 10 mixed (by decide +kernel) ?_)
  ((try simp only [tsOf_cons, tsOf_nil, tsOf_app]); refine dvz (.fieldAddr rfl rfl) ?_; apply DW.loadO; rfl; rfl; rfl; exact WantT.none; rfl; apply TRead.tail; apply TRead.head; exact ancB_nil; exact fr_rd0)
  (apply DW.manyV; rfl; rfl; rfl; exact WantT.none; rfl; infer_instance; exact .cons rfl .nil; apply RdV.ext; assumption; rfl; exact RdV.nil; intro w _ _)
  exact SK.Clone_calls _ _ w (h0.bel (by assumption)) hl.1
  intro v1 g1 h1
  ((try simp only [tsOf_cons, tsOf_nil, tsOf_app]); refine dvz (.fieldAddr rfl rfl) ?_; apply DW.loadO; rfl; rfl; rfl; exact WantT.none; rfl; apply TRead.app; apply TRead.tail; apply TRead.head; exact ancB_nil; exact fr_rd11)
  (apply DW.manyV; rfl; rfl; rfl; exact WantT.none; rfl; infer_instance; exact .cons rfl .nil; apply RdV.ext; assumption; rfl; exact RdV.nil; intro w _ _)
  exact SK.Clone_calls _ _ w (h11.bel (by assumption)) hl.2.2.2.1
  intro v4 g4 h4
  ((try simp only [tsOf_cons, tsOf_nil, tsOf_app]); refine dvz (.fieldAddr rfl rfl) ?_; apply DW.loadO; rfl; rfl; rfl; exact WantT.none; rfl; apply TRead.app; apply TRead.app; apply TRead.tail; apply TRead.head; exact ancB_nil; exact fr_rd12)
  (apply DW.manyV; rfl; rfl; rfl; exact WantT.none; rfl; infer_instance; exact .cons rfl .nil; apply RdV.ext; assumption; rfl; exact RdV.nil; intro w _ _)
  exact SK.Clone_calls _ _ w (h12.bel (by assumption)) hl.2.2.2.2
  intro v5 g5 h5
  have h1' := h1
  have h4' := h4
  have h5' := h5
  unfold bM at h1' h4' h5'
  obtain ⟨q1, k1, rfl⟩ := h1'.form
  obtain ⟨q4, k4, rfl⟩ := h4'.form
  obtain ⟨q5, k5, rfl⟩ := h5'.form
  ((try simp only [tsOf_cons, tsOf_nil, tsOf_app]); refine dvz (.fieldAddr rfl rfl) ?_; apply DW.nil; simp only [fsOf_cons, fsOf_nil, fsOf_app, fsOf_tsOf, fsOf_new, fsOf_tag])
  (refine LW.store rfl rfl (.app (.app (.app (.tail .head)))) fr_wr0 ?_; refine vFz ?_; refine LW.store rfl rfl (.app (.app (.app (.tail .head)))) fr_wr11 ?_; refine vFz ?_; refine LW.store rfl rfl (.app (.app (.app (.tail .head)))) fr_wr12 ?_; refine nNz ?_; refine CW.seq ?_)
  apply CW.pre
  (refine AnyW.anyM [(3, wM L.ws), (7, bM L.ms)] 10 mixed (by decide +kernel) ?_)
  ((try simp only [tsOf_cons, tsOf_nil, tsOf_app]); refine dvz (.fieldAddr rfl rfl) ?_; refine dvz (.fieldAddr rfl rfl) ?_; apply DW.loadO; rfl; rfl; rfl; exact WantT.none; rfl; apply TRead.app; apply TRead.app; apply TRead.app; apply TRead.tail; apply TRead.head; exact ancB_nil; exact fr_rd2s)
  (apply DW.manyV; rfl; rfl; rfl; exact WantT.none; rfl; infer_instance; exact .cons rfl .nil; apply RdV.ext; assumption; rfl; exact RdV.nil; intro w _ _)
  exact CloneW_calls _ _ w (h2.bel (by assumption)) hl.2.1
  intro v2 g2 hh2
  ((try simp only [tsOf_cons, tsOf_nil, tsOf_app]); refine dvz (.fieldAddr rfl rfl) ?_; refine dvz (.fieldAddr rfl rfl) ?_; apply DW.loadO; rfl; rfl; rfl; exact WantT.none; rfl; apply TRead.app; apply TRead.app; apply TRead.app; apply TRead.app; apply TRead.tail; apply TRead.head; exact ancB_nil; exact fr_rd3)
  (apply DW.manyV; rfl; rfl; rfl; exact WantT.none; rfl; infer_instance; exact .cons rfl .nil; apply RdV.ext; assumption; rfl; exact RdV.nil; intro w _ _)
  exact SK.Clone_calls _ _ w (h3.bel (by assumption)) hl.2.2.1
  intro v3 g3 hh3
  have h2' := hh2
  have h3' := hh3
  unfold wM at h2'
  unfold bM at h3'
  obtain ⟨q2, k2, rfl⟩ := h2'.form
  obtain ⟨q3, k3, rfl⟩ := h3'.form
  ((try simp only [tsOf_cons, tsOf_nil, tsOf_app]); refine dvz (.fieldAddr rfl rfl) ?_; refine dvz (.fieldAddr rfl rfl) ?_; apply DW.nil; simp only [fsOf_cons, fsOf_nil, fsOf_app, fsOf_tsOf, fsOf_new, fsOf_tag])
  have hsl : FrSl ⟨.slice q1 L.cl.length k1, pc, .slice q2 L.ws.length k2, .slice q3 L.ms.length k3, gas, self, frm, val, .slice q4 L.il.length k4, .slice q5 L.bl.length k5, stat⟩ := ⟨⟨_, _, _, rfl⟩, ⟨_, _, _, rfl⟩, ⟨_, _, _, rfl⟩, ⟨_, _, _, rfl⟩, ⟨_, _, _, rfl⟩⟩
  (refine LW.store rfl rfl (.app (.app (.app (.app (.app (.tail .head)))))) fr_wr2 ?_; refine vFz ?_; refine vFz ?_; refine LW.store rfl rfl (.app (.app (.app (.app (.app (.tail .head)))))) fr_wr3 ?_; refine nSz ?_; refine ldz rfl (.app (.app (.app (.app (.app (.tail .head)))))) fr_rdW ?_; refine ldz rfl (.app (.app (.app (.app (.app .head))))) (Rd.whole rfl) ?_; apply LW.v0; rfl; rfl; apply ValP.buildT; infer_instance; infer_instance; apply PartsOk.cons; rfl; apply PartsOk.cons; rfl; exact PartsOk.nil; rfl; simp only [fillP, wrCells, fra, frc, enva, wc, Value.cells, List.getElem?_cons_zero, List.getElem?_cons_succ, List.toList_toArray, List.setIfInBounds_toArray, List.set_cons_succ, List.set_cons_zero, List.cons_append, List.nil_append, Nat.reduceAdd, Nat.zero_add]; rfl; apply LW.boxA; rfl; rfl; intro _; refine vAz ?_; refine nNz ?_; refine CW.ret ?_)
  rename_i bm
  refine fin (vs := [.pointer (some ⟨bm, 0, none⟩)]) ((bm, maO (ma0 ⟨.slice q1 L.cl.length k1, pc, .slice q2 L.ws.length k2, .slice q3 L.ms.length k3, gas, self, frm, val, .slice q4 L.il.length k4, .slice q5 L.bl.length k5, stat⟩ e0 e1 e2 e3)) :: (g3 ++ (g2 ++ (g5 ++ (g4 ++ g1))))) (.inl rfl) rfl rfl (by (apply ResL.cons; exact Res.tmp rfl; exact ResL.nil)) ?_ ⟨bm, _, _, _, _, _, _, rfl, rfl, g1, g2, g3, g4, g5, perm5 g1 g2 g3 g4 g5, h1, hh2, hh3, h4, h5⟩
  exact List.Sublist.cons_cons _ (List.Sublist.append_left (List.Sublist.append_left (List.Sublist.append_left (List.Sublist.append_left (List.sublist_append_left _ _) _) _) _) _)
end Go.Proofs.YtpgdnfgjbhdbpaaGreatDoor

/-
  Frames that are told what they asked for, and in which memory is reached.
  Conditions: none.
-/
namespace Go.Proofs.YtpgdnfgjbhdbpaaGreatDoor
open Go Go.RowKit SL
set_option maxRecDepth 8000
set_option maxHeartbeats 4000000
set_option linter.unusedSimpArgs false
set_option linter.unusedVariables false
attribute [local irreducible] SL.CW SL.LW SL.DW Calls SL.Ret SL.RetG SL.beginQ SL.roundQ SL.rangeQ SL.inQ SL.RW SL.AnyW SL.thenQ SL.thenC SL.thenW SL.blkQ SL.finQ SL.ValP SL.NewP SL.SetP SL.CallP SL.Rd SL.Wr SL.Known
attribute [local irreducible] SL.inP
/-- A frame with another gas, and other words and bytes. -/
def FrV.setR (f : FrV) (g : Nat) (s k : Value) : FrV := { f with gas := g, stk := s, mem := k }
/-- A frame with another gas, and other rows. -/
def FrV.rowsG (f : FrV) (g : Nat) (c s m i b : Value) : FrV := ⟨c, f.pc, s, m, g, f.self, f.frm, f.val, i, b, f.stat⟩
def FrL.setW (L : FrL) (ws : List Nat) : FrL := { L with ws := ws }
theorem FrO.sl {f : FrV} {L : FrL} {gs : Fs} (h : FrO f L gs) : FrSl f := by
  obtain ⟨g1, g2, g3, g4, g5, _, h1, h2, h3, h4, h5⟩ := h
  unfold bM at h1 h3 h4 h5
  unfold wM at h2
  obtain ⟨_, _, h1⟩ := h1.form
  obtain ⟨_, _, h2⟩ := h2.form
  obtain ⟨_, _, h3⟩ := h3.form
  obtain ⟨_, _, h4⟩ := h4.form
  obtain ⟨_, _, h5⟩ := h5.form
  exact ⟨⟨_, _, _, h1⟩, ⟨_, _, _, h2⟩, ⟨_, _, _, h3⟩, ⟨_, _, _, h4⟩, ⟨_, _, _, h5⟩⟩
/-! ### Words laid -/
def LayK (b : Nat) (m : MaV) (L : FrL) (gs : Fs) (l : List Nat) (rest : Fs) : Out := fun x fs' =>
  (64 < L.ws.length + l.length ∧ x = .panicked failC ∧ fs' = (b, maO m) :: (gs ++ rest)) ∨
  (L.ws.length + l.length ≤ 64 ∧ ∃ s k gs', x = .returned (.tuple #[]) ∧ FrO (m.fr.setR m.fr.gas s k) (L.setW (L.ws ++ l)) gs' ∧ fs' = (b, maO (m.setF (m.fr.setR m.fr.gas s k))) :: (gs' ++ rest))
theorem lay_calls (w0 : World) (S : List Nat) (b : Nat) (m : MaV) (L : FrL) (gs : Fs) (l : List Nat) (v : Value) (hok : okSc L.ws.length L.ms.length) (hll : l.length ≤ 100000) (hfr : FrO m.fr L gs) (rest : Fs) (w : World)
    (hv : ∀ w', St w0 S ((b, maO m) :: (gs ++ rest)) w' → RowAt w' 4 v l.length (wcs l)) (hs : St w0 S ((b, maO m) :: (gs ++ rest)) w) :
    Calls Tryz.prog 78 #[.pointer (some ⟨b, 0, none⟩), v] w (fun x w' => ∃ fs', LayK b m L gs l rest x fs' ∧ St w0 S fs' w') := by
  have h1 : ∀ w', St w0 S ((b, maO m) :: (gs ++ rest)) w' → RowAt w' 4 m.fr.stk L.ws.length (wcs L.ws) ∧ RowAt w' 1 m.fr.mem L.ms.length (ucs L.ms) ∧ RowAt w' 4 v l.length (wcs l) := fun w' h => by
    have hr := hfr.st h fun p hp => List.mem_cons_of_mem _ (List.mem_append_left _ hp)
    exact ⟨hr.s, hr.m, hv w' h⟩
  rcases Nat.lt_or_ge 64 (L.ws.length + l.length) with hlt | hge
  · refine Calls.mono (lay_full w0 S b m L.ws L.ms l v (gs ++ rest) w hs h1 hok hll hlt) ?_
    rintro x w' ⟨fs', ⟨rfl, c4, rfl⟩, hst⟩
    exact ⟨_, .inl ⟨hlt, rfl, rfl⟩, st_sub hst (List.Sublist.cons _ (List.Sublist.refl _))⟩
  · refine Calls.mono (lay_ok w0 S b m L.ws L.ms l v (gs ++ rest) w hs h1 hok hll hge) ?_
    rintro x w' ⟨fs', ⟨rfl, s, k, gs2, c4, ⟨s', k', gg1, gg2, he, rfl, hw1, hb1⟩, rfl⟩, hst⟩
    cases he
    obtain ⟨g1, g2, g3, g4, g5, hp, hall⟩ := hfr
    replace hst := hst.perm (fs' := c4 :: ((gg2 ++ gg1) ++ (b, maO (m.setSc s k)) :: ((g1 ++ (g2 ++ (g3 ++ (g4 ++ g5)))) ++ rest))) (List.Perm.cons _ (List.Perm.append_left _ (List.Perm.cons _ (hp.append_right rest))))
    refine ⟨_, .inr ⟨hge, s, k, g1 ++ (gg1 ++ (gg2 ++ (g4 ++ g5))), rfl, ⟨g1, gg1, gg2, g4, g5, .refl _, hall.1, hw1, hb1, hall.2.2.2.1, hall.2.2.2.2⟩, rfl⟩, SubP.st ?_ hst⟩
    simp only [List.append_assoc, List.cons_append, List.nil_append]
    exact subp_ix [[_], gg2, gg1, [_], g1, g2, g3, g4, g5] (xs := [3, 4, 2, 1, 7, 8]) (ys := [0, 1, 2, 3, 4, 5, 6, 7, 8]) rest rfl
/-! ### Something is done to a frame -/
def DoK (b : Nat) (f : FrV) (R : Option (Nat × FrL)) (rest : Fs) : Out := fun x fs' => match R with
  | none => x = .panicked failC ∧ fs' = rest
  | some (g, L') => ∃ s k gs', x = .returned (.tuple #[]) ∧ FrO (f.setR g s k) L' gs' ∧ fs' = (b, maO (ma0 (f.setR g s k) 0 0 0 0)) :: (gs' ++ rest)
def zeroF : FrV := ⟨.slice none 0 0, 0, .slice none 0 0, .slice none 0 0, 0, 0, 0, 0, .slice none 0 0, .slice none 0 0, false⟩
def zeroL : FrL := ⟨[], [], [], [], []⟩
theorem zero_frO : FrO zeroF zeroL [] := ⟨[], [], [], [], [], .refl _, .nil, .nil, .nil, .nil, .nil⟩
def ToldK (f : FrV) (R : Option (Nat × FrL)) (fs : Fs) : Out := fun x fs' => match R with
  | none => x = .returned (.tuple #[frv zeroF, .bool false]) ∧ fs' = fs
  | some (g, L') => ∃ c s m i b gs', x = .returned (.tuple #[frv (f.rowsG g c s m i b), .bool true]) ∧ FrO (f.rowsG g c s m i b) L' gs' ∧ fs' = gs' ++ fs
/-- What a function does to each machine that begins as this frame. -/
def Does (w0 : World) (S : List Nat) (f : FrV) (L : FrL) (fs : Fs) (fn : FuncId) (cap : Array Value) (R : Option (Nat × FrL)) : Prop :=
  ∀ b c s m i b5 gs rest w', FrO (f.rows c s m i b5) L gs → (∀ p ∈ fs, p ∈ rest) → St w0 S ((b, maO (ma0 (f.rows c s m i b5) 0 0 0 0)) :: (gs ++ rest)) w' →
    Calls Tryz.prog fn (Value.pointer (some ⟨b, 0, none⟩) :: cap.toList).toArray w' (fun x w'' => ∃ fs', DoK b (f.rows c s m i b5) R rest x fs' ∧ St w0 S fs' w'')
theorem told1_calls (w0 : World) (S : List Nat) (f : FrV) (L : FrL) (fs : Fs) (fn : FuncId) (cap : Array Value) (R : Option (Nat × FrL)) (hF : FnI Tryz.prog fn) (hd : Does w0 S f L fs fn cap R) (b b3 b6 : Nat) (c s m i b5 : Value) (gs R0 : Fs) (hfr : FrO (f.rows c s m i b5) L gs)
    (hsub : ∀ p ∈ fs, p ∈ R0) (h3 : (b3, Obj.cells #[.func (.func fn) #[] cap] 119 (0, 0)) ∈ R0) (h6 : (b6, Obj.cells #[.pointer (some ⟨b, 0, none⟩)] 116 (0, 0)) ∈ R0) (w : World) (hs : St w0 S ((b, maO (ma0 (f.rows c s m i b5) 0 0 0 0)) :: (gs ++ R0)) w) :
    Calls Tryz.prog 115 #[.pointer (some ⟨b3, 0, none⟩), .pointer (some ⟨b6, 0, none⟩)] w (fun x w' => ∃ fs', DoK b (f.rows c s m i b5) R R0 x fs' ∧ St w0 S fs' w') := by
  have k3 : (b3, Obj.cells #[.func (.func fn) #[] cap] 119 (0, 0)) ∈ (b, maO (ma0 (f.rows c s m i b5) 0 0 0 0)) :: (gs ++ R0) := List.mem_cons_of_mem _ (List.mem_append_right _ h3)
  have k6 : (b6, Obj.cells #[.pointer (some ⟨b, 0, none⟩)] 116 (0, 0)) ∈ (b, maO (ma0 (f.rows c s m i b5) 0 0 0 0)) :: (gs ++ R0) := List.mem_cons_of_mem _ (List.mem_append_right _ h6)
  refine calls_inlineP (K := DoK b (f.rows c s m i b5) R R0) (args := [_, _]) Tryz.func115 rfl Tryz.ntmps115 rfl ?_ hs
  (refine CW.region ?_; apply LW.load; rfl; rfl; exact Known.own k3; exact Rd.one' rfl; apply LW.load; rfl; rfl; exact Known.own k6; exact Rd.one' rfl)
  refine LW.callP (K := DoK b (f.rows c s m i b5) R R0) (aas := .pointer (some ⟨b, 0, none⟩) :: cap.toList) rfl rfl hF (by (exact .cons rfl .nil)) rfl (fun fs h => ?_) (fun w' hst => hd b c s m i b5 gs R0 w' hfr hsub hst) ?_ ?_
  · unfold DoK at h
    cases R with
    | none => cases h.1
    | some x => obtain ⟨_, _, _, h, _⟩ := h; cases h
  · intro v fs' h
    cases R with
    | none => cases h.1
    | some x =>
      obtain ⟨s', k', gs', h1, h2, h3⟩ := h
      cases h1
      (apply LW.nil)
      exact inPI (.inr rfl) .nil rfl .nil rfl ⟨s', k', gs', rfl, h2, h3⟩
  · intro ch fs' h
    cases R with
    | none =>
      obtain ⟨h1, h2⟩ := h
      cases h1
      exact inPP .nil ⟨rfl, h2⟩
    | some x => obtain ⟨_, _, _, h, _⟩ := h; cases h
theorem DoK.try {b : Nat} {f : FrV} {R : Option (Nat × FrL)} {fs : Fs} : TryK (DoK b f R fs) := fun x fs' h => by
  cases R with
  | none => exact .inr h.1
  | some x => obtain ⟨_, _, _, h, _⟩ := h; exact .inl h
theorem DoK.app {b : Nat} {f : FrV} {R : Option (Nat × FrL)} {R0 rest : Fs} {x : Ending} {fs' : Fs} (h : DoK b f R (R0 ++ rest) x fs') : ∃ own', DoK b f R R0 x own' ∧ fs' = own' ++ rest := by
  cases R with
  | none =>
    obtain ⟨h1, rfl⟩ := h
    exact ⟨R0, ⟨h1, rfl⟩, rfl⟩
  | some x =>
    obtain ⟨s, k, gs', h1, h2, rfl⟩ := h
    exact ⟨_, ⟨s, k, gs', h1, h2, rfl⟩, by simp⟩
section rd
variable {P : Program} {T E : TypeId} {fr : Nat × Nat} {m : MaV}
theorem ma_rdF [AgI P T true] {z : Value} [InfoI P T 14 z] : Rd P T (.cells (mca m) E fr) 0 (frv m.fr) := Rd.mid (cs := frc m.fr) rfl rfl
end rd
theorem told_calls (w0 : World) (S : List Nat) (f : FrV) (L : FrL) (fs : Fs) (fn : FuncId) (cap : Array Value) (R : Option (Nat × FrL)) (hl : L.short) (hF : FnI Tryz.prog fn) (hd : Does w0 S f L fs fn cap R) (hok : okF f L) (w : World) (hs : St w0 S fs w) (hf : ∀ w', Bel w0.heap.size S w0 w' → FrRows w' f L) :
    Calls Tryz.prog 75 #[frv f, .func (.func fn) #[] cap] w (fun x w' => ∃ fs', ToldK f R fs x fs' ∧ St w0 S fs' w') := by
  refine calls_anyO (calls_inlineP (K := anyO (ToldK f R fs)) (args := [_, _]) Tryz.func75 rfl Tryz.ntmps75 rfl ?_ hs)
  (refine sRz ?_; apply LW.boxA; rfl; rfl; intro _; apply LW.box1; rfl; rfl; rfl; intro _; apply LW.allocA; rfl; intro _; refine vAz ?_; refine nNz ?_; refine CW.seq ?_; refine sRz ?_; refine ldz rfl (.tail (.tail .head)) (Rd.whole rfl) ?_)
  (apply LW.callE; rfl; rfl; infer_instance; exact .cons rfl .nil; intro w _)
  rename_i hst
  have h0 := fCheck_calls f L w (hf w hst.bel)
  rw [if_pos hok] at h0
  exact h0
  (refine lvz (.neF rfl rfl (by omega)) ?_; refine nNz ?_; refine cFz ?_; refine CW.skip ?_; refine thenN ?_; refine sRz ?_; refine ldz rfl (.tail (.tail .head)) (Rd.whole rfl) ?_; apply LW.v0; rfl; rfl; apply ValP.buildT; infer_instance; infer_instance; exact PartsOk.nil; rfl; simp only [fillP, wrCells, Value.cells, List.getElem?_cons_zero, List.getElem?_cons_succ, List.toList_toArray, List.setIfInBounds_toArray, List.set_cons_succ, List.set_cons_zero, Nat.reduceAdd, Nat.zero_add]; rfl)
  (apply LW.callR; rfl; rfl; infer_instance; exact .cons rfl (.cons rfl .nil); intro w hs)
  exact fOf_calls f L 0 0 0 0 hl w (hf w hs.bel)
  rintro v gso ⟨bm, c, s, m, i, b5, g, rfl, rfl, hfr⟩
  rename_i b2 b3 b4
  (apply LW.alloc1; rfl; rfl; intro _; apply LW.store; rfl; rfl; apply SetAt.head; apply Wr.cells; rfl; rfl; simp only [wc, List.size_toArray, List.length_cons, List.length_nil]; omega; simp only [fillC, wc, wrCells, Value.cells, List.toList_toArray, List.setIfInBounds_toArray, List.set_cons_succ, List.set_cons_zero, Nat.reduceAdd, Nat.reduceMul, Nat.zero_add, Nat.mul_one]; rfl; refine nNz ?_; refine CW.seq ?_; refine sRz ?_; apply LW.v0; rfl; rfl; apply ValP.makeFunc; exact ArgsOk.nil; exact .cons rfl (.cons rfl .nil))
  rename_i b6
  refine LW.perm (fs' := (bm, maO (ma0 (f.rows c s m i b5) 0 0 0 0)) :: (g ++ ((b6, .cells #[.pointer (some ⟨bm, 0, none⟩)] 116 (0, 0)) :: (b4, .cells #[.slice none 0 0, .int .i64 0, .slice none 0 0, .slice none 0 0, .int .u64 0, .int .u64 0, .int .u64 0, .int .u64 0, .int .u64 0, .int .u64 0, .int .u64 0, .slice none 0 0, .slice none 0 0, .bool false] 31 (0, 0)) :: (b3, .cells #[.func (.func fn) #[] cap] 119 (0, 0)) :: (b2, .cells (fra f) 31 (0, 0)) :: fs))) ?_ ?_
  · simp only [List.cons_append]
    exact perm_ix [[_], [_], g, [_], [_], [_]] (xs := [1, 2, 0, 3, 4, 5]) (ys := [0, 1, 2, 3, 4, 5]) fs rfl
  generalize hR0 : ((b6, Obj.cells #[.pointer (some ⟨bm, 0, none⟩)] 116 (0, 0)) :: (b4, Obj.cells #[.slice none 0 0, .int .i64 0, .slice none 0 0, .slice none 0 0, .int .u64 0, .int .u64 0, .int .u64 0, .int .u64 0, .int .u64 0, .int .u64 0, .int .u64 0, .slice none 0 0, .slice none 0 0, .bool false] 31 (0, 0)) :: (b3, Obj.cells #[.func (.func fn) #[] cap] 119 (0, 0)) :: (b2, Obj.cells (fra f) 31 (0, 0)) :: fs) = R0
  refine LW.callP (K := fun x fs' => ∃ ok own', x = .returned (.bool ok) ∧ DoK bm (f.rows c s m i b5) R R0 (match ok with | true => .returned (.tuple #[]) | false => .panicked failC) own' ∧ fs' = own' ++ []) rfl rfl inferInstance (by (exact .cons rfl .nil)) rfl (fun fs h => by obtain ⟨_, _, h, _⟩ := h; cases h)
    (fun w' hst => tries_calls w0 S 115 #[.pointer (some ⟨b3, 0, none⟩), .pointer (some ⟨b6, 0, none⟩)] (DoK bm (f.rows c s m i b5) R R0) DoK.try inferInstance ((bm, maO (ma0 (f.rows c s m i b5) 0 0 0 0)) :: (g ++ R0)) [] w' (fun rest w2 h2 => ?_) (by rw [List.append_nil]; exact hst)) ?_ ?_
  · rw [List.cons_append, List.append_assoc] at h2
    refine Calls.mono (told1_calls w0 S f L fs fn cap R hF hd bm b3 b6 c s m i b5 g (R0 ++ rest) hfr ?_ ?_ ?_ w2 h2) ?_
    · intro p hp; rw [← hR0]; simp [hp]
    · rw [← hR0]; simp
    · rw [← hR0]; simp
    · rintro x w3 ⟨fs', hk, h3⟩
      obtain ⟨own', h4, rfl⟩ := hk.app
      exact ⟨_, ⟨own', h4, rfl⟩, h3⟩
  · rintro v fs' ⟨ok, own', h1, h2, rfl⟩
    cases h1
    rw [List.append_nil]
    cases R with
    | none =>
      obtain ⟨h3, rfl⟩ := h2
      cases ok with
      | true => cases h3
      | false =>
        subst hR0
        (refine lvz (.notF rfl (by with_reducible rfl)) ?_; refine nNz ?_; refine cTz ?_; refine sRz ?_; apply LW.v0; rfl; rfl; apply ValP.buildT; infer_instance; infer_instance; exact PartsOk.nil; rfl; simp only [fillP, wrCells, Value.cells, List.getElem?_cons_zero, List.getElem?_cons_succ, List.toList_toArray, List.setIfInBounds_toArray, List.set_cons_succ, List.set_cons_zero, Nat.reduceAdd, Nat.zero_add]; rfl; refine LW.store rfl rfl (.tail .head) (.whole rfl rfl rfl) ?_; refine vAz ?_; refine nNz ?_; refine CW.ret ?_; refine thenR ?_)
        refine inPI (.inl rfl) .nil rfl (by (apply ResL.cons; apply Res.cell; rfl; apply Known.at; apply FsAt.tail; apply FsAt.head; exact Rd.whole rfl; apply ResL.cons; exact Res.tmp rfl; exact ResL.nil)) rfl ⟨fs, ⟨rfl, rfl⟩, subp_ix [[_], [_], [_], [_]] (xs := []) (ys := [0, 1, 2, 3]) fs rfl⟩
    | some x =>
      obtain ⟨gg, L'⟩ := x
      obtain ⟨s', k', gs', h3, h4, rfl⟩ := h2
      cases ok with
      | false => cases h3
      | true =>
        subst hR0
        have hsl : FrSl (ma0 ((f.rows c s m i b5).setR gg s' k') 0 0 0 0).fr := h4.sl
        (refine lvz (.notT rfl (by with_reducible rfl)) ?_; refine nNz ?_; refine cFz ?_; refine CW.skip ?_; refine thenN ?_; refine sRz ?_; refine ldz rfl (.tail (.app .head)) (Rd.one' rfl) ?_; refine vNz ?_; refine vFz ?_; refine ldz rfl .head ma_rdF ?_; apply LW.store; rfl; rfl; apply SetAt.tail; apply SetAt.app; apply SetAt.tail; apply SetAt.head; apply fr_wrW; rfl; assumption; refine vAz ?_; refine nNz ?_; refine CW.ret ?_)
        refine inPI (.inl rfl) .nil rfl (by (apply ResL.cons; apply Res.cell; rfl; apply Known.at; apply FsAt.tail; apply FsAt.app; apply FsAt.tail; apply FsAt.head; exact Rd.whole rfl; apply ResL.cons; exact Res.tmp rfl; exact ResL.nil)) rfl ⟨gs' ++ fs, ⟨c, s', k', i, b5, gs', rfl, h4, rfl⟩, subp_ix [[_], gs', [_], [_], [_], [_]] (xs := [1]) (ys := [0, 1, 2, 3, 4, 5]) fs rfl⟩
  · rintro ch fs' ⟨_, _, h, _⟩
    cases h
end Go.Proofs.YtpgdnfgjbhdbpaaGreatDoor

/-
  Frames in which memory is reached; frames that are told what they asked for.
  Conditions: none.
-/
namespace Go.Proofs.YtpgdnfgjbhdbpaaGreatDoor
open Go Go.RowKit SL
set_option maxRecDepth 8000
set_option maxHeartbeats 4000000
set_option linter.unusedSimpArgs false
set_option linter.unusedVariables false
attribute [local irreducible] SL.CW SL.LW SL.DW Calls SL.Ret SL.RetG SL.beginQ SL.roundQ SL.rangeQ SL.inQ SL.RW SL.AnyW SL.thenQ SL.thenC SL.thenW SL.blkQ SL.finQ SL.ValP SL.NewP SL.SetP SL.CallP SL.Rd SL.Wr SL.Known
attribute [local irreducible] SL.inP
def ToldR (f : FrV) (R : Option (Nat × FrL)) (v : Value) (gs : Fs) : Prop := match R with
  | none => v = .tuple #[frv zeroF, .bool false] ∧ gs = []
  | some (g, L') => ∃ c s m i b, v = .tuple #[frv (f.rowsG g c s m i b), .bool true] ∧ FrO (f.rowsG g c s m i b) L' gs
def reachR (f : FrV) (L : FrL) (a n : Nat) : Option (Nat × FrL) := if costR L a n ≤ f.gas then some (f.gas - costR L a n, memR L a n) else none
def tellR (f : FrV) (L : FrL) (cost : Nat) (l : List Nat) : Option (Nat × FrL) := if cost ≤ f.gas ∧ L.ws.length + l.length ≤ 64 then some (f.gas - cost, L.setW (L.ws ++ l)) else none
theorem okF.short {f : FrV} {L : FrL} (h : okF f L) : L.short := by
  obtain ⟨⟨h1, h2, _⟩, _, h4, ⟨h5, h6, _⟩, _⟩ := h
  exact ⟨by omega, by omega, by omega, by omega, by omega⟩
/-! ### Frames that may not be -/
theorem told_bad (w0 : World) (S : List Nat) (f : FrV) (L : FrL) (fs : Fs) (fn : FuncId) (cap : Array Value) (hok : ¬ okF f L) (w : World) (hs : St w0 S fs w) (hf : ∀ w', Bel w0.heap.size S w0 w' → FrRows w' f L) :
    Calls Tryz.prog 75 #[frv f, .func (.func fn) #[] cap] w (fun x w' => ∃ fs', ToldK f none fs x fs' ∧ St w0 S fs' w') := by
  have hC : ∀ w' {fs}, St w0 S fs w' → Calls Tryz.prog 31 #[frv f] w' (Ret w' (.int .i64 240)) := fun w' fs hst => by
    have h0 := fCheck_calls f L w' (hf w' hst.bel)
    rw [if_neg hok] at h0
    exact h0
  refine calls_anyO (calls_inlineP (K := anyO (ToldK f none fs)) (args := [_, _]) Tryz.func75 rfl Tryz.ntmps75 rfl ?_ hs)
  (refine sRz ?_; apply LW.boxA; rfl; rfl; intro _; apply LW.box1; rfl; rfl; rfl; intro _; apply LW.allocA; rfl; intro _; refine vAz ?_; refine nNz ?_; refine CW.seq ?_; refine sRz ?_; refine ldz rfl (.tail (.tail .head)) (Rd.whole rfl) ?_; apply LW.callE; rfl; rfl; infer_instance; exact .cons rfl .nil; intro w _; exact hC w (by assumption); refine lvz (.neT rfl rfl (by omega)) ?_; refine nNz ?_; refine cTz ?_; refine sRz ?_; apply LW.v0; rfl; rfl; apply ValP.buildT; infer_instance; infer_instance; exact PartsOk.nil; rfl; simp only [fillP, wrCells, Value.cells, List.getElem?_cons_zero, List.getElem?_cons_succ, List.toList_toArray, List.setIfInBounds_toArray, List.set_cons_succ, List.set_cons_zero, Nat.reduceAdd, Nat.zero_add]; rfl; refine LW.store rfl rfl .head (.whole rfl rfl rfl) ?_; refine vAz ?_; refine nNz ?_; refine CW.ret ?_; refine thenR ?_)
  refine inPI (.inl rfl) .nil rfl (by (apply ResL.cons; apply Res.cell; rfl; apply Known.at; apply FsAt.head; exact Rd.whole rfl; apply ResL.cons; exact Res.tmp rfl; exact ResL.nil)) rfl ⟨fs, ⟨rfl, rfl⟩, subp_ix [[_], [_], [_]] (xs := []) (ys := [0, 1, 2]) fs rfl⟩
/-! ### Memory reached -/
theorem reach1_does (w0 : World) (S : List Nat) (f : FrV) (L : FrL) (a n : Nat) (ha : a < M256) (hn : n < M256) (hok : okF f L) (fs : Fs) (b4 b5 : Nat) (k4 : (b4, Obj.cells (wc a) 29 (0, 0)) ∈ fs) (k5 : (b5, Obj.cells (wc n) 29 (0, 0)) ∈ fs) :
    Does w0 S f L fs 145 #[.pointer (some ⟨b4, 0, none⟩), .pointer (some ⟨b5, 0, none⟩)] (reachR f L a n) := by
  intro b c s m i b0 gs rest w hfr hsub hs
  have k4 := List.mem_cons_of_mem (b, maO (ma0 (f.rows c s m i b0) 0 0 0 0)) (List.mem_append_right gs (hsub _ k4))
  have k5 := List.mem_cons_of_mem (b, maO (ma0 (f.rows c s m i b0) 0 0 0 0)) (List.mem_append_right gs (hsub _ k5))
  refine calls_anyO (calls_inlineP (K := anyO (DoK b (f.rows c s m i b0) (reachR f L a n) rest)) (args := [_, _, _]) Tryz.func145 rfl Tryz.ntmps145 rfl ?_ hs)
  (refine CW.region ?_; refine vMz ?_; apply LW.load; rfl; rfl; exact Known.own k4; exact Rd.whole rfl; apply LW.load; rfl; rfl; exact Known.own k5; exact Rd.whole rfl)
  refine LW.callP (K := ReachK b (ma0 (f.rows c s m i b0) 0 0 0 0) L gs a n rest) rfl rfl inferInstance (by (exact .cons rfl (.cons rfl (.cons rfl .nil)))) rfl (fun fs h => by rcases h with ⟨_, h, _⟩ | ⟨_, _, _, _, h, _⟩ <;> cases h) (fun w' hst => reach_calls w0 S b _ L gs a n ha hn hok.2.2.2.1 hok.1.2.2 hfr rest w' hst) ?_ ?_
  · rintro v fs' (⟨_, h, _⟩ | ⟨hc, s', k', gs', h, hfr', rfl⟩)
    · cases h
    · have hR : reachR f L a n = some (f.gas - costR L a n, memR L a n) := by unfold reachR; exact if_pos hc
      rw [hR]
      cases h
      (apply LW.nil)
      exact inPI (.inr rfl) .nil rfl .nil rfl ⟨_, ⟨s', k', gs', rfl, hfr', rfl⟩, _, .refl _, .refl _⟩
  · rintro ch fs' (⟨hc, h, rfl⟩ | ⟨_, _, _, _, h, _⟩)
    · have hR : reachR f L a n = none := by unfold reachR; exact if_neg (Nat.not_le.2 hc)
      rw [hR]
      cases h
      exact inPP .nil ⟨rest, ⟨rfl, rfl⟩, _, List.Sublist.cons _ (List.sublist_append_right _ _), .refl _⟩
    · cases h
theorem zero_sl : FrSl zeroF := zero_frO.sl
theorem ToldK.ret {f : FrV} {R : Option (Nat × FrL)} {fs fs' : Fs} {x : Ending} (h : ToldK f R fs x fs') : ∃ v, x = .returned v := by
  cases R with
  | none => exact ⟨_, h.1⟩
  | some x => obtain ⟨_, _, _, _, _, _, h, _⟩ := h; exact ⟨_, h⟩
theorem Reach_calls (f : FrV) (L : FrL) (a n : Nat) (ha : a < M256) (hn : n < M256) (w : World) (h : FrRows w f L) : Calls Tryz.prog 123 #[frv f, wv a, wv n] w (RetG w [] (ToldR f (if okF f L then reachR f L a n else none))) := by
  refine enter (args := [_, _, _]) _ [] [] Tryz.func123 rfl Tryz.ntmps123 rfl (by simp) .nil ?_
  have hzs := zero_sl
  (refine sRz ?_; apply LW.boxA; rfl; rfl; intro _; apply LW.boxA; rfl; rfl; intro _; apply LW.boxA; rfl; rfl; intro _; apply LW.allocA; rfl; intro _; refine vAz ?_; refine nSz ?_; refine ldz rfl (.tail (.tail (.tail .head))) (Rd.whole rfl) ?_; apply LW.v0; rfl; rfl; apply ValP.makeFunc; exact ArgsOk.nil; exact .cons rfl (.cons rfl .nil))
  rename_i b3 b4 b5 b6
  refine LW.callP (K := ToldK f (if okF f L then reachR f L a n else none) ((b6, Obj.cells (fra zeroF) 31 (0, 0)) :: (b5, Obj.cells (wc n) 29 (0, 0)) :: (b4, Obj.cells (wc a) 29 (0, 0)) :: (b3, Obj.cells (fra f) 31 (0, 0)) :: [])) rfl rfl inferInstance (by (exact .cons rfl (.cons rfl .nil))) rfl (fun fs h => ?_) (fun w' hst => ?_) ?_ ?_
  · obtain ⟨_, h⟩ := h.ret; cases h
  · by_cases hok : okF f L
    · rw [if_pos hok]
      exact told_calls w [] f L _ _ _ _ hok.short inferInstance (reach1_does w [] f L a n ha hn hok _ b4 b5 (by simp) (by simp)) hok w' hst fun w2 hb => h.bel hb
    · rw [if_neg hok]
      exact told_bad w [] f L _ _ _ hok w' hst fun w2 hb => h.bel hb
  · intro v fs' hk
    cases hR : (if okF f L then reachR f L a n else none) with
    | none =>
      rw [hR] at hk
      obtain ⟨h1, rfl⟩ := hk
      cases h1
      (refine vEz ?_; refine vEz ?_; refine LW.store rfl rfl .head (.whole rfl rfl rfl) ?_; refine vAz ?_; refine nNz ?_; refine CW.ret ?_)
      exact fin (vs := [frv zeroF, .bool false]) [] (.inl rfl) rfl rfl (by (apply ResL.cons; apply Res.cell; rfl; apply Known.at; apply FsAt.head; exact Rd.whole rfl; apply ResL.cons; exact Res.tmp rfl; exact ResL.nil)) (List.nil_sublist _) ⟨rfl, rfl⟩
    | some x =>
      rw [hR] at hk
      obtain ⟨g, L'⟩ := x
      obtain ⟨c, s, m, i, b, gs', h1, hfr, rfl⟩ := hk
      cases h1
      have hsl := hfr.sl
      (refine vEz ?_; refine vEz ?_; apply LW.store; rfl; rfl; apply SetAt.app; apply SetAt.head; apply fr_wrW; rfl; assumption; refine vAz ?_; refine nNz ?_; refine CW.ret ?_)
      exact fin (vs := [frv (f.rowsG g c s m i b), .bool true]) gs' (.inl rfl) rfl rfl (by (apply ResL.cons; apply Res.cell; rfl; apply Known.at; apply FsAt.app; apply FsAt.head; exact Rd.whole rfl; apply ResL.cons; exact Res.tmp rfl; exact ResL.nil)) (List.sublist_append_left _ _) ⟨c, s, m, i, b, rfl, hfr⟩
  · intro ch fs' h
    obtain ⟨_, h⟩ := h.ret
    cases h
/-! ### Words told -/
theorem tell1_does (w0 : World) (S : List Nat) (f : FrV) (L : FrL) (cost : Nat) (l : List Nat) (v : Value) (hll : l.length ≤ 100000) (hv : ∀ w', Bel w0.heap.size S w0 w' → RowAt w' 4 v l.length (wcs l)) (hok : okF f L) (fs : Fs) (b4 b5 : Nat) (k4 : (b4, Obj.cells #[.int .u64 (cost : Int)] 26 (0, 0)) ∈ fs) (k5 : (b5, Obj.cells #[v] 23 (0, 0)) ∈ fs) :
    Does w0 S f L fs 76 #[.pointer (some ⟨b4, 0, none⟩), .pointer (some ⟨b5, 0, none⟩)] (tellR f L cost l) := by
  intro b c s m i b0 gs rest w hfr hsub hs
  have k4 := List.mem_cons_of_mem (b, maO (ma0 (f.rows c s m i b0) 0 0 0 0)) (List.mem_append_right gs (hsub _ k4))
  have k50 := List.mem_cons_of_mem (b, maO (ma0 (f.rows c s m i b0) 0 0 0 0)) (List.mem_append_right gs (hsub _ k5))
  refine calls_anyO (calls_inlineP (K := anyO (DoK b (f.rows c s m i b0) (tellR f L cost l) rest)) (args := [_, _, _]) Tryz.func76 rfl Tryz.ntmps76 rfl ?_ hs)
  (refine sRz ?_; refine vMz ?_; apply LW.load; rfl; rfl; exact Known.own k4; exact Rd.one' rfl; apply LW.lay1; rfl; infer_instance; infer_instance; rfl; rfl; rfl; rfl; rfl; rfl; intro _)
  rename_i b6
  refine LW.perm (fs' := (b, maO (ma0 (f.rows c s m i b0) 0 0 0 0)) :: (gs ++ ((b6, .cells #[.int .u64 (cost : Int)] 26 (0, 0)) :: rest))) ?_ ?_
  · exact perm_ix [[_], [_], gs] (xs := [1, 2, 0]) (ys := [0, 1, 2]) rest rfl
  refine LW.callP (K := MaK b (ma0 (f.rows c s m i b0) 0 0 0 0) (spendM (ma0 (f.rows c s m i b0) 0 0 0 0) [cost]) (gs ++ ((b6, .cells #[.int .u64 (cost : Int)] 26 (0, 0)) :: rest))) rfl rfl inferInstance (by (exact .cons rfl (.cons rfl .nil))) rfl (fun fs h => ?_) (fun w' hst => spend_calls w0 S b _ [cost] (Nat.lt_of_le_of_lt hok.1.2.2 (by decide)) _ _ w' hst (fun w2 h2 => row_cells (h2.own (b6, _) (List.mem_cons_of_mem _ (List.mem_append_right _ List.mem_cons_self))).2 rfl rfl (by simp [maxLen]))) ?_ ?_
  · unfold MaK at h
    split at h <;> cases h.1
  · rcases Nat.lt_or_ge f.gas cost with hlt | hge
    · have hsp : spendM (ma0 (f.rows c s m i b0) 0 0 0 0) [cost] = none := by unfold spendM; rw [if_neg (by simp; exact hlt)]
      rw [hsp]
      rintro v fs' ⟨h, _⟩
      cases h
    · have hsp : spendM (ma0 (f.rows c s m i b0) 0 0 0 0) [cost] = some (ma0 ((f.rows c s m i b0).setR (f.gas - cost) s m) 0 0 0 0) := by unfold spendM; rw [if_pos (by simp; exact hge)]; simp; rfl
      rw [hsp]
      rintro v fs' ⟨h, rfl⟩
      cases h
      have k5 : (b5, Obj.cells #[v] 23 (0, 0)) ∈ (b, maO (ma0 ((f.rows c s m i b0).setR (f.gas - cost) s m) 0 0 0 0)) :: (gs ++ (b6, Obj.cells #[.int .u64 (cost : Int)] 26 (0, 0)) :: rest) := List.mem_cons_of_mem _ (List.mem_append_right _ (List.mem_cons_of_mem _ (hsub _ k5)))
      (refine nNz ?_; refine CW.region ?_; refine vMz ?_; apply LW.load; rfl; rfl; exact Known.own k5; exact Rd.one' rfl)
      have hfr1 : FrO ((f.rows c s m i b0).setR (f.gas - cost) s m) L gs := hfr
      refine LW.callP (K := LayK b (ma0 ((f.rows c s m i b0).setR (f.gas - cost) s m) 0 0 0 0) L gs l ((b6, Obj.cells #[.int .u64 (cost : Int)] 26 (0, 0)) :: rest)) rfl rfl inferInstance (by (exact .cons rfl (.cons rfl .nil))) rfl (fun fs h => by rcases h with ⟨_, h, _⟩ | ⟨_, _, _, _, h, _⟩ <;> cases h) (fun w' hst => lay_calls w0 S b _ L gs l v hok.2.2.2.1 hll hfr1 _ w' (fun w2 h2 => hv w2 h2.bel) hst) ?_ ?_
      · rintro v fs' (⟨_, h, _⟩ | ⟨hc, s', k', gs', h, hfr', rfl⟩)
        · cases h
        · have hR : tellR f L cost l = some (f.gas - cost, L.setW (L.ws ++ l)) := by unfold tellR; exact if_pos ⟨hge, hc⟩
          rw [hR]
          cases h
          (apply LW.nil)
          exact inPI (.inr rfl) .nil rfl .nil rfl ⟨_, ⟨s', k', gs', rfl, hfr', rfl⟩, _, List.Sublist.cons_cons _ (List.Sublist.append_left (List.sublist_cons_self _ _) _), .refl _⟩
      · rintro ch fs' (⟨hc, h, rfl⟩ | ⟨_, _, _, _, h, _⟩)
        · have hR : tellR f L cost l = none := by unfold tellR; exact if_neg (fun h => by omega)
          rw [hR]
          cases h
          exact inPP .nil ⟨rest, ⟨rfl, rfl⟩, _, List.Sublist.cons _ (List.Sublist.trans (List.sublist_cons_self _ _) (List.sublist_append_right _ _)), .refl _⟩
        · cases h
  · rcases Nat.lt_or_ge f.gas cost with hlt | hge
    · have hsp : spendM (ma0 (f.rows c s m i b0) 0 0 0 0) [cost] = none := by unfold spendM; rw [if_neg (by simp; exact hlt)]
      rw [hsp]
      rintro ch fs' ⟨h, rfl⟩
      have hR : tellR f L cost l = none := by unfold tellR; exact if_neg (fun h => by omega)
      rw [hR]
      cases h
      refine thenP ?_
      exact inPP .nil ⟨rest, ⟨rfl, rfl⟩, _, List.Sublist.cons _ (List.Sublist.trans (List.sublist_cons_self _ _) (List.sublist_append_right _ _)), .refl _⟩
    · have hsp : spendM (ma0 (f.rows c s m i b0) 0 0 0 0) [cost] = some (ma0 ((f.rows c s m i b0).setR (f.gas - cost) s m) 0 0 0 0) := by unfold spendM; rw [if_pos (by simp; exact hge)]; simp; rfl
      rw [hsp]
      rintro ch fs' ⟨h, _⟩
      cases h
theorem Tell_calls (f : FrV) (L : FrL) (cost : Nat) (l : List Nat) (v : Value) (hll : l.length ≤ 100000) (w : World) (hv : RowAt w 4 v l.length (wcs l)) (h : FrRows w f L) : Calls Tryz.prog 39 #[frv f, .int .u64 (cost : Int), v] w (RetG w [] (ToldR f (if okF f L then tellR f L cost l else none))) := by
  obtain ⟨p, cc, rfl, _, _⟩ := id hv.form
  refine enter (args := [_, _, _]) _ [] [] Tryz.func39 rfl Tryz.ntmps39 rfl (by simp) .nil ?_
  have hzs := zero_sl
  (refine sRz ?_; apply LW.boxA; rfl; rfl; intro _; apply LW.box1; rfl; rfl; rfl; intro _; apply LW.box1; rfl; rfl; rfl; intro _; apply LW.allocA; rfl; intro _; refine vAz ?_; refine nSz ?_; refine ldz rfl (.tail (.tail (.tail .head))) (Rd.whole rfl) ?_; apply LW.v0; rfl; rfl; apply ValP.makeFunc; exact ArgsOk.nil; exact .cons rfl (.cons rfl .nil))
  rename_i b3 b4 b5 b6
  refine LW.callP (K := ToldK f (if okF f L then tellR f L cost l else none) ((b6, Obj.cells (fra zeroF) 31 (0, 0)) :: (b5, Obj.cells #[.slice p l.length cc] 23 (0, 0)) :: (b4, Obj.cells #[.int .u64 (cost : Int)] 26 (0, 0)) :: (b3, Obj.cells (fra f) 31 (0, 0)) :: [])) rfl rfl inferInstance (by (exact .cons rfl (.cons rfl .nil))) rfl (fun fs h => ?_) (fun w' hst => ?_) ?_ ?_
  · obtain ⟨_, h⟩ := h.ret; cases h
  · by_cases hok : okF f L
    · rw [if_pos hok]
      exact told_calls w [] f L _ _ _ _ hok.short inferInstance (tell1_does w [] f L cost l _ hll (fun w2 hb => hv.bel hb) hok _ b4 b5 (by simp) (by simp)) hok w' hst fun w2 hb => h.bel hb
    · rw [if_neg hok]
      exact told_bad w [] f L _ _ _ hok w' hst fun w2 hb => h.bel hb
  · intro v fs' hk
    cases hR : (if okF f L then tellR f L cost l else none) with
    | none =>
      rw [hR] at hk
      obtain ⟨h1, rfl⟩ := hk
      cases h1
      (refine vEz ?_; refine vEz ?_; refine LW.store rfl rfl .head (.whole rfl rfl rfl) ?_; refine vAz ?_; refine nNz ?_; refine CW.ret ?_)
      exact fin (vs := [frv zeroF, .bool false]) [] (.inl rfl) rfl rfl (by (apply ResL.cons; apply Res.cell; rfl; apply Known.at; apply FsAt.head; exact Rd.whole rfl; apply ResL.cons; exact Res.tmp rfl; exact ResL.nil)) (List.nil_sublist _) ⟨rfl, rfl⟩
    | some x =>
      rw [hR] at hk
      obtain ⟨g, L'⟩ := x
      obtain ⟨c, s, m, i, b, gs', h1, hfr, rfl⟩ := hk
      cases h1
      have hsl := hfr.sl
      (refine vEz ?_; refine vEz ?_; apply LW.store; rfl; rfl; apply SetAt.app; apply SetAt.head; apply fr_wrW; rfl; assumption; refine vAz ?_; refine nNz ?_; refine CW.ret ?_)
      exact fin (vs := [frv (f.rowsG g c s m i b), .bool true]) gs' (.inl rfl) rfl rfl (by (apply ResL.cons; apply Res.cell; rfl; apply Known.at; apply FsAt.app; apply FsAt.head; exact Rd.whole rfl; apply ResL.cons; exact Res.tmp rfl; exact ResL.nil)) (List.sublist_append_left _ _) ⟨c, s, m, i, b, rfl, hfr⟩
  · intro ch fs' h
    obtain ⟨_, h⟩ := h.ret
    cases h
end Go.Proofs.YtpgdnfgjbhdbpaaGreatDoor

/-
  Calls: their shapes; which may be; who is called; what their ends lay.
  Conditions: none.
-/
namespace Go.Proofs.YtpgdnfgjbhdbpaaGreatDoor
open Go Go.RowKit SL
open CK (CheckC_calls)
set_option maxRecDepth 8000
set_option maxHeartbeats 4000000
set_option linter.unusedSimpArgs false
set_option linter.unusedVariables false
attribute [local irreducible] SL.CW SL.LW SL.DW Calls SL.Ret SL.RetG SL.beginQ SL.roundQ SL.rangeQ SL.inQ SL.RW SL.AnyW SL.thenQ SL.thenC SL.thenW SL.blkQ SL.finQ SL.ValP SL.NewP SL.SetP SL.CallP SL.Rd SL.Wr SL.Known
/-! ### Addresses -/
theorem aOf_calls (a : Nat) (w : World) : Calls Tryz.prog 65 #[wv a] w (Ret w (.int .u64 ((a % 18446744073709551616 : Nat) : Int))) := by
  refine enter (args := [_]) _ [] [] Tryz.func65 rfl Tryz.ntmps65 rfl (by simp) .nil ?_
  (refine sRz ?_; apply LW.boxA; rfl; rfl; intro _; refine vAz ?_; refine nSz ?_; refine lvz (.indexAddrL rfl rfl rfl) ?_; refine ldz rfl .head (Rd.one' rfl) ?_; refine vAz ?_; refine nNz ?_; refine CW.ret ?_)
  (apply finR; exact .inl rfl; rfl; rfl; rfl; apply ResL.cons; exact Res.tmp rfl; exact ResL.nil)
  rfl
theorem aWord_calls (a : Nat) (ha : a < 18446744073709551616) (w : World) : Calls Tryz.prog 79 #[.int .u64 (a : Int)] w (Ret w (wv a)) := by
  refine enter (args := [_]) _ [] [] Tryz.func79 rfl Tryz.ntmps79 rfl (by simp) .nil ?_
  (refine sRz ?_; apply LW.allocW; rfl; intro _; refine nSz ?_; refine vMz ?_; apply LW.callE; rfl; rfl; infer_instance; exact .cons rfl .nil; intro w _; exact Of_calls a ha w; refine LW.store rfl rfl .head (.whole rfl rfl rfl) ?_; refine nNz ?_; refine CW.ret ?_)
  (apply finR; exact .inl rfl; rfl; rfl; rfl; apply ResL.cons; apply Res.cell; rfl; apply Known.at; apply FsAt.head; exact Rd.whole rfl; exact ResL.nil)
  rfl
/-! ### Shapes -/
/-- The shape of an operation. -/
def shq (op : Nat) : Int × Int × Int × Int × Int × Bool := if op = 241 then (7, 1, 2, 3, 5, true) else if op = 244 ∨ op = 250 then (6, 1, -1, 2, 4, true) else if op = 245 then (4, -1, 0, 1, -1, true) else (0, 0, 0, 0, 0, false)
def shc (op : Nat) : List Value := [.int .i64 (shq op).1, .int .i64 (shq op).2.1, .int .i64 (shq op).2.2.1, .int .i64 (shq op).2.2.2.1, .int .i64 (shq op).2.2.2.2.1]
theorem shaped_calls (op : Nat) (w : World) : Calls Tryz.prog 47 #[.int .u8 (op : Int)] w (Ret w (.tuple #[.agg (shc op).toArray, .bool (shq op).2.2.2.2.2])) := by
  refine enter (args := [_]) _ [] [] Tryz.func47 rfl Tryz.ntmps47 rfl (by simp) .nil ?_
  by_cases h1 : op = 241
  · have hs : shq op = (7, 1, 2, 3, 5, true) := if_pos h1
    unfold shc
    rw [hs]
    (refine sRz ?_; apply LW.allocA; rfl; intro _; refine vAz ?_; refine nNz ?_; refine CW.seq ?_; refine sRz ?_; refine vMz ?_; refine nNz ?_; refine CW.block ?_; refine sRz ?_; refine lvz (.eqT rfl rfl (by omega)) ?_; refine vAz ?_; refine nNz ?_; refine cTz ?_; refine sRz ?_; apply LW.v0; rfl; rfl; apply ValP.buildT; infer_instance; infer_instance; apply PartsOk.cons; rfl; apply PartsOk.cons; rfl; apply PartsOk.cons; rfl; apply PartsOk.cons; rfl; apply PartsOk.cons; rfl; exact PartsOk.nil; rfl; simp only [fillP, wrCells, Value.cells, List.getElem?_cons_zero, List.getElem?_cons_succ, List.toList_toArray, List.setIfInBounds_toArray, List.set_cons_succ, List.set_cons_zero, Nat.reduceAdd, Nat.zero_add]; rfl; refine LW.store rfl rfl .head (.whole rfl rfl rfl) ?_; refine vAz ?_; refine nNz ?_; refine CW.ret ?_; refine blkR ?_; refine thenR ?_)
    (apply finR; exact .inl rfl; rfl; rfl; rfl; apply ResL.cons; apply Res.cell; rfl; apply Known.at; apply FsAt.head; exact Rd.whole rfl; apply ResL.cons; exact Res.tmp rfl; exact ResL.nil)
    rfl
  · by_cases h2 : op = 244 ∨ op = 250
    · have hs : shq op = (6, 1, -1, 2, 4, true) := by unfold shq; rw [if_neg h1, if_pos h2]
      unfold shc
      rw [hs]
      rcases h2 with h2 | h2
      · (refine sRz ?_; apply LW.allocA; rfl; intro _; refine vAz ?_; refine nNz ?_; refine CW.seq ?_; refine sRz ?_; refine vMz ?_; refine nNz ?_; refine CW.block ?_; refine sRz ?_; refine lvz (.eqF rfl rfl (by omega)) ?_; refine vAz ?_; refine nNz ?_; refine cFz ?_; refine CW.seq ?_; refine sRz ?_; refine lvz (.eqT rfl rfl (by omega)) ?_; refine vAz ?_; refine nNz ?_; refine cTz ?_; refine CW.skip ?_; refine thenN ?_; refine cTz ?_; refine sRz ?_; apply LW.v0; rfl; rfl; apply ValP.buildT; infer_instance; infer_instance; apply PartsOk.cons; rfl; apply PartsOk.cons; rfl; apply PartsOk.cons; rfl; apply PartsOk.cons; rfl; apply PartsOk.cons; rfl; exact PartsOk.nil; rfl; simp only [fillP, wrCells, Value.cells, List.getElem?_cons_zero, List.getElem?_cons_succ, List.toList_toArray, List.setIfInBounds_toArray, List.set_cons_succ, List.set_cons_zero, Nat.reduceAdd, Nat.zero_add]; rfl; refine LW.store rfl rfl .head (.whole rfl rfl rfl) ?_; refine vAz ?_; refine nNz ?_; refine CW.ret ?_; refine blkR ?_; refine thenR ?_)
        (apply finR; exact .inl rfl; rfl; rfl; rfl; apply ResL.cons; apply Res.cell; rfl; apply Known.at; apply FsAt.head; exact Rd.whole rfl; apply ResL.cons; exact Res.tmp rfl; exact ResL.nil)
        rfl
      · (refine sRz ?_; apply LW.allocA; rfl; intro _; refine vAz ?_; refine nNz ?_; refine CW.seq ?_; refine sRz ?_; refine vMz ?_; refine nNz ?_; refine CW.block ?_; refine sRz ?_; refine lvz (.eqF rfl rfl (by omega)) ?_; refine vAz ?_; refine nNz ?_; refine cFz ?_; refine CW.seq ?_; refine sRz ?_; refine lvz (.eqF rfl rfl (by omega)) ?_; refine vAz ?_; refine nNz ?_; refine cFz ?_; refine CW.region ?_; refine lvz (.eqT rfl rfl (by omega)) ?_; refine vAz ?_; refine nNz ?_; refine cTz ?_; refine sRz ?_; apply LW.v0; rfl; rfl; apply ValP.buildT; infer_instance; infer_instance; apply PartsOk.cons; rfl; apply PartsOk.cons; rfl; apply PartsOk.cons; rfl; apply PartsOk.cons; rfl; apply PartsOk.cons; rfl; exact PartsOk.nil; rfl; simp only [fillP, wrCells, Value.cells, List.getElem?_cons_zero, List.getElem?_cons_succ, List.toList_toArray, List.setIfInBounds_toArray, List.set_cons_succ, List.set_cons_zero, Nat.reduceAdd, Nat.zero_add]; rfl; refine LW.store rfl rfl .head (.whole rfl rfl rfl) ?_; refine vAz ?_; refine nNz ?_; refine CW.ret ?_; refine blkR ?_; refine thenR ?_)
        (apply finR; exact .inl rfl; rfl; rfl; rfl; apply ResL.cons; apply Res.cell; rfl; apply Known.at; apply FsAt.head; exact Rd.whole rfl; apply ResL.cons; exact Res.tmp rfl; exact ResL.nil)
        rfl
    · by_cases h3 : op = 245
      · have hs : shq op = (4, -1, 0, 1, -1, true) := by unfold shq; rw [if_neg h1, if_neg h2, if_pos h3]
        unfold shc
        rw [hs]
        (refine sRz ?_; apply LW.allocA; rfl; intro _; refine vAz ?_; refine nNz ?_; refine CW.seq ?_; refine sRz ?_; refine vMz ?_; refine nNz ?_; refine CW.block ?_; refine sRz ?_; refine lvz (.eqF rfl rfl (by omega)) ?_; refine vAz ?_; refine nNz ?_; refine cFz ?_; refine CW.seq ?_; refine sRz ?_; refine lvz (.eqF rfl rfl (by omega)) ?_; refine vAz ?_; refine nNz ?_; refine cFz ?_; refine CW.region ?_; refine lvz (.eqF rfl rfl (by omega)) ?_; refine vAz ?_; refine nNz ?_; refine cFz ?_; refine sRz ?_; refine lvz (.eqT rfl rfl (by omega)) ?_; refine vAz ?_; refine nNz ?_; refine cTz ?_; refine sRz ?_; apply LW.v0; rfl; rfl; apply ValP.buildT; infer_instance; infer_instance; apply PartsOk.cons; rfl; apply PartsOk.cons; rfl; apply PartsOk.cons; rfl; apply PartsOk.cons; rfl; apply PartsOk.cons; rfl; exact PartsOk.nil; rfl; simp only [fillP, wrCells, Value.cells, List.getElem?_cons_zero, List.getElem?_cons_succ, List.toList_toArray, List.setIfInBounds_toArray, List.set_cons_succ, List.set_cons_zero, Nat.reduceAdd, Nat.zero_add]; rfl; refine LW.store rfl rfl .head (.whole rfl rfl rfl) ?_; refine vAz ?_; refine nNz ?_; refine CW.ret ?_; refine blkR ?_; refine thenR ?_)
        (apply finR; exact .inl rfl; rfl; rfl; rfl; apply ResL.cons; apply Res.cell; rfl; apply Known.at; apply FsAt.head; exact Rd.whole rfl; apply ResL.cons; exact Res.tmp rfl; exact ResL.nil)
        rfl
      · have hs : shq op = (0, 0, 0, 0, 0, false) := by unfold shq; rw [if_neg h1, if_neg h2, if_neg h3]
        unfold shc
        rw [hs]
        (refine sRz ?_; apply LW.allocA; rfl; intro _; refine vAz ?_; refine nNz ?_; refine CW.seq ?_; refine sRz ?_; refine vMz ?_; refine nNz ?_; refine CW.block ?_; refine sRz ?_; refine lvz (.eqF rfl rfl (by omega)) ?_; refine vAz ?_; refine nNz ?_; refine cFz ?_; refine CW.seq ?_; refine sRz ?_; refine lvz (.eqF rfl rfl (by omega)) ?_; refine vAz ?_; refine nNz ?_; refine cFz ?_; refine CW.region ?_; refine lvz (.eqF rfl rfl (by omega)) ?_; refine vAz ?_; refine nNz ?_; refine cFz ?_; refine sRz ?_; refine lvz (.eqF rfl rfl (by omega)) ?_; refine vAz ?_; refine nNz ?_; refine cFz ?_; refine CW.skip ?_; refine blkN ?_; refine thenN ?_; refine sRz ?_; apply LW.v0; rfl; rfl; apply ValP.buildT; infer_instance; infer_instance; exact PartsOk.nil; rfl; simp only [fillP, wrCells, Value.cells, List.getElem?_cons_zero, List.getElem?_cons_succ, List.toList_toArray, List.setIfInBounds_toArray, List.set_cons_succ, List.set_cons_zero, Nat.reduceAdd, Nat.zero_add]; rfl; refine LW.store rfl rfl .head (.whole rfl rfl rfl) ?_; refine vAz ?_; refine nNz ?_; refine CW.ret ?_)
        (apply finR; exact .inl rfl; rfl; rfl; rfl; apply ResL.cons; apply Res.cell; rfl; apply Known.at; apply FsAt.head; exact Rd.whole rfl; apply ResL.cons; exact Res.tmp rfl; exact ResL.nil)
        rfl
/-- What is asked for. -/
def aska (kind : Int) (op : Nat) (ws dt : Value) : Array Value := #[.int .i64 kind, .int .u8 (op : Int), ws, dt]
/-- Is it a call that is asked for, with as many words as that has? -/
def askB (kind : Int) (op n : Nat) : Bool := (shq op).2.2.2.2.2 && (decide (kind = 2) && decide ((n : Int) = (shq op).1))
section rd
variable {P : Program} {T E : TypeId} {fr : Nat × Nat} {kind : Int} {op : Nat} {ws dt : Value}
theorem ask_rd0 [AgI P T false] : Rd P T (.cells (aska kind op ws dt) E fr) 0 (.int .i64 kind) := Rd.one rfl
theorem ask_rd1 [AgI P T false] : Rd P T (.cells (aska kind op ws dt) E fr) 1 (.int .u8 (op : Int)) := Rd.one rfl
theorem ask_rd2 [AgI P T false] : Rd P T (.cells (aska kind op ws dt) E fr) 2 ws := Rd.one rfl
theorem ask_rdW {z : Value} [AgI P T true] [InfoI P T 4 z] : Rd P T (.cells (aska kind op ws dt) E fr) 0 (.agg (aska kind op ws dt)) := Rd.whole rfl
theorem sh_rd0 [AgI P T false] : Rd P T (.cells (shc op).toArray E fr) 0 (.int .i64 (shq op).1) := Rd.one rfl
theorem sh_rdW {z : Value} [AgI P T true] [InfoI P T 5 z] : Rd P T (.cells (shc op).toArray E fr) 0 (.agg (shc op).toArray) := Rd.whole rfl
end rd
attribute [local irreducible] shq
theorem shapeOf_calls (kind : Int) (op n c : Nat) (p : Option Addr) (q : Option Addr) (d e : Nat) (w : World) : Calls Tryz.prog 53 #[.agg (aska kind op (.slice p n c) (.slice q d e))] w (Ret w (.tuple #[.agg (shc op).toArray, .bool (askB kind op n)])) := by
  have hSh0 := shaped_calls op
  unfold askB
  refine enter (args := [_]) _ [] [] Tryz.func53 rfl Tryz.ntmps53 rfl (by simp) .nil ?_
  cases hb : (shq op).2.2.2.2.2 with
  | false =>
    rw [hb] at hSh0
    have hSh : ∀ w, Calls Tryz.prog 47 #[.int .u8 (op : Int)] w (Ret w (.tuple #[.agg (shc op).toArray, .bool false])) := hSh0
    (refine sRz ?_; apply LW.boxA; rfl; rfl; intro _; apply LW.allocA; rfl; intro _; refine vAz ?_; refine nSz ?_; refine vFz ?_; refine ldz rfl (.tail .head) ask_rd1 ?_; apply LW.callE; rfl; rfl; infer_instance; exact .cons rfl .nil; intro w _; exact hSh w; refine vMz ?_; refine vEz ?_; refine vEz ?_; apply LW.allocA; rfl; intro _; refine LW.store rfl rfl .head (.whole rfl rfl rfl) ?_; refine vAz ?_; refine nNz ?_; refine CW.seq ?_; apply CW.pre; refine AnyW.any 16 mixed (by decide +kernel) ?_; (try simp only [tsOf_cons, tsOf_nil, tsOf_app]); apply DW.loadO; rfl; rfl; rfl; exact WantT.none; rfl; apply TRead.head; exact ancB_nil; exact sh_rdW; refine dvz (.move rfl) ?_; refine dvz (.move rfl) ?_; (iterate 3 refine dSz ?_); refine dvz (.pickF' rfl (by with_reducible rfl) rfl) ?_; refine dvz (.move rfl) ?_; (iterate 6 refine dSz ?_); refine dvz (.pickF' rfl (by with_reducible rfl) rfl) ?_; apply DW.store; rfl; rfl; exact WantT.none; rfl; rfl; apply TSet.tail; apply TSet.head; exact ancB_nil; exact ancB_nil; apply Wr.whole; rfl; rfl; rfl; apply DW.nil; simp only [fsOf_cons, fsOf_nil, fsOf_app, fsOf_tsOf, fsOf_new]; refine vAz ?_; refine nNz ?_; refine CW.ret ?_)
    (apply finR; exact .inl rfl; rfl; rfl; rfl; apply ResL.cons; apply Res.cell; rfl; apply Known.at; apply FsAt.tail; apply FsAt.head; exact sh_rdW; apply ResL.cons; exact Res.tmp rfl; exact ResL.nil)
    rfl
  | true =>
    rw [hb] at hSh0
    have hSh : ∀ w, Calls Tryz.prog 47 #[.int .u8 (op : Int)] w (Ret w (.tuple #[.agg (shc op).toArray, .bool true])) := hSh0
    by_cases hk : kind = 2
    · subst hk
      by_cases hn : (n : Int) = (shq op).1
      · rw [decide_eq_true hn]
        (refine sRz ?_; apply LW.boxA; rfl; rfl; intro _; apply LW.allocA; rfl; intro _; refine vAz ?_; refine nSz ?_; refine vFz ?_; refine ldz rfl (.tail .head) ask_rd1 ?_; apply LW.callE; rfl; rfl; infer_instance; exact .cons rfl .nil; intro w _; exact hSh w; refine vMz ?_; refine vEz ?_; refine vEz ?_; apply LW.allocA; rfl; intro _; refine LW.store rfl rfl .head (.whole rfl rfl rfl) ?_; refine vAz ?_; refine nNz ?_; refine CW.seq ?_; apply CW.pre; refine AnyW.any 16 mixed (by decide +kernel) ?_; (try simp only [tsOf_cons, tsOf_nil, tsOf_app]); apply DW.loadO; rfl; rfl; rfl; exact WantT.none; rfl; apply TRead.head; exact ancB_nil; exact sh_rdW; refine dvz (.move rfl) ?_; refine dvz (.move rfl) ?_; refine dwz (.fieldAddr rfl rfl) ?_; apply DW.loadO; rfl; rfl; rfl; apply wantYes; rfl; rfl; (with_reducible rfl); rfl; apply TRead.tail; apply TRead.tail; apply TRead.head; exact ancB_nil; exact ask_rd0; refine dwz (.eqT rfl rfl (by omega)) ?_; refine dvz (.pickT' rfl (by with_reducible rfl) rfl) ?_; refine dvz (.move rfl) ?_; refine dwz (.fieldAddr rfl rfl) ?_; apply DW.loadO; rfl; rfl; rfl; apply wantYes; rfl; rfl; (with_reducible rfl); rfl; apply TRead.tail; apply TRead.tail; apply TRead.head; exact ancB_nil; exact ask_rd2; refine dwz (.lenR rfl inferInstance rfl) ?_; refine dwz (.fieldAddr rfl rfl) ?_; apply DW.loadO; rfl; rfl; rfl; apply wantYes; rfl; rfl; (with_reducible rfl); rfl; apply TRead.head; exact ancB_nil; exact sh_rd0; refine dwz (.eqT rfl rfl (by omega)) ?_; refine dvz (.pickT' rfl (by with_reducible rfl) rfl) ?_; apply DW.store; rfl; rfl; exact WantT.none; rfl; rfl; apply TSet.tail; apply TSet.head; exact ancB_nil; exact ancB_nil; apply Wr.whole; rfl; rfl; rfl; apply DW.nil; simp only [fsOf_cons, fsOf_nil, fsOf_app, fsOf_tsOf, fsOf_new]; refine vAz ?_; refine nNz ?_; refine CW.ret ?_)
        (apply finR; exact .inl rfl; rfl; rfl; rfl; apply ResL.cons; apply Res.cell; rfl; apply Known.at; apply FsAt.tail; apply FsAt.head; exact sh_rdW; apply ResL.cons; exact Res.tmp rfl; exact ResL.nil)
        rfl
      · rw [decide_eq_false hn]
        (refine sRz ?_; apply LW.boxA; rfl; rfl; intro _; apply LW.allocA; rfl; intro _; refine vAz ?_; refine nSz ?_; refine vFz ?_; refine ldz rfl (.tail .head) ask_rd1 ?_; apply LW.callE; rfl; rfl; infer_instance; exact .cons rfl .nil; intro w _; exact hSh w; refine vMz ?_; refine vEz ?_; refine vEz ?_; apply LW.allocA; rfl; intro _; refine LW.store rfl rfl .head (.whole rfl rfl rfl) ?_; refine vAz ?_; refine nNz ?_; refine CW.seq ?_; apply CW.pre; refine AnyW.any 16 mixed (by decide +kernel) ?_; (try simp only [tsOf_cons, tsOf_nil, tsOf_app]); apply DW.loadO; rfl; rfl; rfl; exact WantT.none; rfl; apply TRead.head; exact ancB_nil; exact sh_rdW; refine dvz (.move rfl) ?_; refine dvz (.move rfl) ?_; refine dwz (.fieldAddr rfl rfl) ?_; apply DW.loadO; rfl; rfl; rfl; apply wantYes; rfl; rfl; (with_reducible rfl); rfl; apply TRead.tail; apply TRead.tail; apply TRead.head; exact ancB_nil; exact ask_rd0; refine dwz (.eqT rfl rfl (by omega)) ?_; refine dvz (.pickT' rfl (by with_reducible rfl) rfl) ?_; refine dvz (.move rfl) ?_; refine dwz (.fieldAddr rfl rfl) ?_; apply DW.loadO; rfl; rfl; rfl; apply wantYes; rfl; rfl; (with_reducible rfl); rfl; apply TRead.tail; apply TRead.tail; apply TRead.head; exact ancB_nil; exact ask_rd2; refine dwz (.lenR rfl inferInstance rfl) ?_; refine dwz (.fieldAddr rfl rfl) ?_; apply DW.loadO; rfl; rfl; rfl; apply wantYes; rfl; rfl; (with_reducible rfl); rfl; apply TRead.head; exact ancB_nil; exact sh_rd0; refine dwz (.eqF rfl rfl (by omega)) ?_; refine dvz (.pickT' rfl (by with_reducible rfl) rfl) ?_; apply DW.store; rfl; rfl; exact WantT.none; rfl; rfl; apply TSet.tail; apply TSet.head; exact ancB_nil; exact ancB_nil; apply Wr.whole; rfl; rfl; rfl; apply DW.nil; simp only [fsOf_cons, fsOf_nil, fsOf_app, fsOf_tsOf, fsOf_new]; refine vAz ?_; refine nNz ?_; refine CW.ret ?_)
        (apply finR; exact .inl rfl; rfl; rfl; rfl; apply ResL.cons; apply Res.cell; rfl; apply Known.at; apply FsAt.tail; apply FsAt.head; exact sh_rdW; apply ResL.cons; exact Res.tmp rfl; exact ResL.nil)
        rfl
    · rw [decide_eq_false hk]
      (refine sRz ?_; apply LW.boxA; rfl; rfl; intro _; apply LW.allocA; rfl; intro _; refine vAz ?_; refine nSz ?_; refine vFz ?_; refine ldz rfl (.tail .head) ask_rd1 ?_; apply LW.callE; rfl; rfl; infer_instance; exact .cons rfl .nil; intro w _; exact hSh w; refine vMz ?_; refine vEz ?_; refine vEz ?_; apply LW.allocA; rfl; intro _; refine LW.store rfl rfl .head (.whole rfl rfl rfl) ?_; refine vAz ?_; refine nNz ?_; refine CW.seq ?_; apply CW.pre; refine AnyW.any 16 mixed (by decide +kernel) ?_; (try simp only [tsOf_cons, tsOf_nil, tsOf_app]); apply DW.loadO; rfl; rfl; rfl; exact WantT.none; rfl; apply TRead.head; exact ancB_nil; exact sh_rdW; refine dvz (.move rfl) ?_; refine dvz (.move rfl) ?_; refine dwz (.fieldAddr rfl rfl) ?_; apply DW.loadO; rfl; rfl; rfl; apply wantYes; rfl; rfl; (with_reducible rfl); rfl; apply TRead.tail; apply TRead.tail; apply TRead.head; exact ancB_nil; exact ask_rd0; refine dwz (.eqF rfl rfl (by omega)) ?_; refine dvz (.pickT' rfl (by with_reducible rfl) rfl) ?_; refine dvz (.move rfl) ?_; (iterate 6 refine dSz ?_); refine dvz (.pickF' rfl (by with_reducible rfl) rfl) ?_; apply DW.store; rfl; rfl; exact WantT.none; rfl; rfl; apply TSet.tail; apply TSet.head; exact ancB_nil; exact ancB_nil; apply Wr.whole; rfl; rfl; rfl; apply DW.nil; simp only [fsOf_cons, fsOf_nil, fsOf_app, fsOf_tsOf, fsOf_new]; refine vAz ?_; refine nNz ?_; refine CW.ret ?_)
      (apply finR; exact .inl rfl; rfl; rfl; rfl; apply ResL.cons; apply Res.cell; rfl; apply Known.at; apply FsAt.tail; apply FsAt.head; exact sh_rdW; apply ResL.cons; exact Res.tmp rfl; exact ResL.nil)
      rfl
/-! ### Who is called -/
theorem word_rd {P : Program} {T E : TypeId} {fr : Nat × Nat} {cs : Array Value} {off m : Nat} {l : List Nat} [AgI P T true] {z : Value} [InfoI P T 4 z] (hx : (cs.toList.drop off).take m = wcs l) (i : Nat) (hi : i < l.length) : Rd P T (.cells cs E fr) (off + i * 4) (wv (l.getD i 0)) := by
  have h := Rd.elemA (P := P) (T := T) (E := E) (fr := fr) (g := fun a => (wc a).toList) (l := l) (a := l[i]) hx (wcs_len l) (List.getElem?_eq_getElem hi)
  rw [List.getD_eq_getElem?_getD, List.getElem?_eq_getElem hi]
  exact h
theorem shq_ok {op : Nat} (h : (shq op).2.2.2.2.2 = true) : (op = 241 ∧ shq op = (7, 1, 2, 3, 5, true)) ∨ ((op = 244 ∨ op = 250) ∧ shq op = (6, 1, -1, 2, 4, true)) ∨ (op = 245 ∧ shq op = (4, -1, 0, 1, -1, true)) := by
  unfold shq at h ⊢
  by_cases h1 : op = 241
  · rw [if_pos h1] at h ⊢; exact .inl ⟨h1, rfl⟩
  · rw [if_neg h1] at h ⊢
    by_cases h2 : op = 244 ∨ op = 250
    · rw [if_pos h2] at h ⊢; exact .inr (.inl ⟨h2, rfl⟩)
    · rw [if_neg h2] at h ⊢
      by_cases h3 : op = 245
      · rw [if_pos h3] at h ⊢; exact .inr (.inr ⟨h3, rfl⟩)
      · rw [if_neg h3] at h; cases h
end Go.Proofs.YtpgdnfgjbhdbpaaGreatDoor
