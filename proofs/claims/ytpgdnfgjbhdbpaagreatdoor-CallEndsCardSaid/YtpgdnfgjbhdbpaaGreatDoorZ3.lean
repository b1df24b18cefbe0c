/-
  Texts that were built apart, put behind one another (3 of 6): G2 G3 G4 G5 G6 G8 G9 G14 W14 W15 W16 W17 W18 W19 W20 W22 W23 W26 P0 P1 P2 P3 P4 P5 P6 P7 P8 P9 PA PB PC PD PE U1 U2 U3 N3 K6 K7 K8 K1 K2 K3 K4 K5 K9 KA KB KD N4 N5 N6 Smx N7 N8 C1 C2 C3 C4 C5 C6 C7 N9 NA NB.
  Conditions: none.
-/
import Derived.Test.YtpgdnfgjbhdbpaaGreatDoorZ2
import Derived.Lib.Mul64
import Derived.Laws.Externs
import Derived.Lib.BytesEntry
import Derived.Lib.Bytealg
/-
  The operation of a byte: contracts.
  Conditions: none.
-/
namespace Go.Proofs.YtpgdnfgjbhdbpaaGreatDoor
open Go Go.RowKit SL
set_option maxRecDepth 8000
set_option maxHeartbeats 4000000
set_option linter.unusedSimpArgs false
set_option linter.unusedVariables false
attribute [local irreducible] SL.CW SL.LW SL.DW Calls SL.Ret SL.RetG SL.beginQ SL.roundQ SL.rangeQ SL.inQ SL.RW SL.AnyW SL.thenQ SL.thenC SL.thenW SL.blkQ SL.finQ SL.ValP SL.NewP SL.SetP SL.CallP SL.Rd SL.Wr SL.Known
theorem Of1_calls (x : OpV) (k bb : Nat) (E : TypeId) (fr : Nat × Nat) (w : World) (hb : w.heap[bb]? = some (.cells #[.int .u8 (k : Int)] E fr)) : Calls Tryz.prog 133 #[.agg (opc x), .pointer (some ⟨bb, 0, none⟩)] w (Ret w (.bool (decide (x.c = k)))) := by
  refine enter (args := [_, _]) _ [] [] Tryz.func133 rfl Tryz.ntmps133 rfl (by simp) .nil ?_
  (refine CW.seq ?_; refine CW.region ?_; apply LW.boxA; rfl; rfl; intro _; apply LW.v0; rfl; rfl; apply ValP.assign; rfl; apply LW.nil; refine thenN ?_; refine CW.seq ?_; refine CW.region ?_; apply LW.v0; rfl; rfl; apply ValP.fieldAddr; rfl; rfl; apply LW.load; rfl; rfl; apply Known.at; apply FsAt.head; exact Rd.one' rfl; apply LW.load; rfl; rfl; exact Known.ext (by assumption) (by simp); exact Rd.one' rfl; apply LW.v0; rfl; rfl; apply ValP.eq; rfl; rfl; apply LW.v0; rfl; rfl; apply ValP.assign; rfl; apply LW.nil; refine thenN ?_; refine CW.ret ?_)
  (apply finR; exact .inl rfl; rfl; rfl; rfl; apply ResL.cons; exact Res.tmp rfl; exact ResL.nil)
  exact congrArg Value.bool (decide_eq_decide.2 Int.natCast_inj)
/-- The place of the first operation of that byte. -/
def idxOf (l : List OpV) (k : Nat) : Int := match l.findIdx? (fun x => x.c == k) with
  | some i => (i : Int)
  | none => -1
theorem idxOf_hit {l : List OpV} {k m : Nat} (hm : m < l.length) (h : ∀ i (hi : i < m), l[i].c ≠ k) (he : l[m].c = k) : idxOf l k = (m : Int) := by
  unfold idxOf
  rw [List.findIdx?_eq_some_iff_getElem.2 ⟨hm, by simpa using he, fun i hi => by simpa using h i hi⟩]
theorem idxOf_miss {l : List OpV} {k : Nat} (h : ∀ i (hi : i < l.length), l[i].c ≠ k) : idxOf l k = -1 := by
  unfold idxOf
  rw [List.findIdx?_eq_none_iff.2 fun x hx => by obtain ⟨i, hi, rfl⟩ := List.getElem_of_mem hx; simpa using h i hi]
theorem IndexFunc_calls (l : List OpV) (k : Nat) (v : Value) (bb : Nat) (E : TypeId) (fr : Nat × Nat) (w : World) (hv : RowAt w 5 v l.length (opcs l)) (hb : w.heap[bb]? = some (.cells #[.int .u8 (k : Int)] E fr)) :
    Calls Tryz.prog 131 #[v, .func (.func 133) #[] #[.pointer (some ⟨bb, 0, none⟩)]] w (Ret w (.int .i64 (idxOf l k))) := by
  obtain ⟨p, c, rfl, hc, hm⟩ := hv.form
  simp only [maxLen] at hm
  refine enter (args := [_, _]) _ [] [] Tryz.func131 rfl Tryz.ntmps131 rfl (by simp) .nil ?_
  (refine CW.seq ?_; refine CW.region ?_; apply LW.v0; rfl; rfl; apply ValP.assign; rfl; apply LW.nil; refine thenN ?_; refine CW.seq ?_; refine CW.seq ?_; refine CW.region ?_; apply LW.v0; rfl; rfl; apply ValP.move; rfl; apply LW.v0; rfl; rfl; apply ValP.lenR; rfl; infer_instance; rfl; apply LW.v0; rfl; rfl; apply ValP.move; rfl; apply LW.nil; refine thenN ?_; refine CW.block ?_)
  refine CW.loop (fun m : Nat => ([(8, .int .i64 (m : Int)), (7, .int .i64 (l.length : Int)), (0, .slice p l.length c), (1, .func (.func 133) #[] #[.pointer (some ⟨bb, 0, none⟩)])], []))
    (fun m => m ≤ l.length ∧ ∀ i (hi : i < m) (hl : i < l.length), l[i].c ≠ k) (fun m => l.length - m) 0 ⟨Nat.zero_le _, fun i hi => by omega⟩ ⟨rfl, rfl, rfl, rfl, trivial⟩ (List.Sublist.refl _) ?_
  rintro m ⟨hml, hall⟩
  dsimp only
  rcases Nat.lt_or_ge m l.length with hlt | hge
  · obtain ⟨b, off, c', cs, E', fr', heq, hbk, hx⟩ := hv.pos (by omega)
    cases heq
    have hrd : Rd Tryz.prog 136 (.cells cs E' fr') (off + m * 5) (.agg (opc l[m])) := Rd.elemA (g := opl) (l := l) (a := l[m]) hx (opl_len l) (List.getElem?_eq_getElem hlt)
    (refine CW.seq ?_; refine CW.region ?_; apply LW.v0; rfl; rfl; apply ValP.lssT; rfl; rfl; omega; apply LW.nil; refine thenN ?_; refine CW.seq ?_; apply CW.condT; rfl; (with_reducible rfl); refine CW.skip ?_; refine thenN ?_; refine CW.seq ?_; refine CW.block ?_; refine CW.seq ?_; refine CW.region ?_; apply LW.v0; rfl; rfl; apply ValP.move; rfl; apply LW.v0; rfl; rfl; apply ValP.assign; rfl; apply LW.nil; refine thenN ?_; refine CW.seq ?_; refine CW.region ?_; apply LW.v0; rfl; rfl; apply ValP.move; rfl; apply LW.v0; rfl; rfl; apply ValP.move; rfl; apply LW.v0; rfl; rfl; apply ValP.move; rfl; apply LW.v0; rfl; rfl; apply ValP.indexAddrS; rfl; rfl; rfl; omega; apply LW.load; rfl; rfl; exact Known.ext (by assumption) (by simp); assumption)
    apply LW.call
    rfl
    rfl
    infer_instance
    (apply ArgsOk.cons; rfl; exact ArgsOk.nil)
    · intro w' hs
      exact Of1_calls l[m] k bb E fr w' (by rw [hs.bel.block bb (Array.getElem?_eq_some_iff.1 hb).1 (by simp)]; exact hb)
    by_cases he : l[m].c = k
    · have hi := idxOf_hit hlt (fun i hi => hall i hi (by omega)) he
      rw [decide_eq_true he, hi]
      (apply LW.nil; refine thenN ?_; apply CW.condT; rfl; (with_reducible rfl); refine CW.seq ?_; refine CW.region ?_; apply LW.v0; rfl; rfl; apply ValP.move; rfl; apply LW.v0; rfl; rfl; apply ValP.assign; rfl; apply LW.nil; refine thenN ?_; refine CW.ret ?_; refine blkR ?_; refine thenR ?_; refine thenR ?_; refine blkR ?_; refine thenR ?_)
      (apply finR; exact .inl rfl; rfl; rfl; rfl; apply ResL.cons; exact Res.tmp rfl; exact ResL.nil)
      rfl
    · rw [decide_eq_false he]
      (apply LW.nil; refine thenN ?_; apply CW.condF; rfl; (with_reducible rfl); refine CW.skip ?_; refine blkN ?_; refine thenN ?_; refine CW.region ?_; apply LW.v0; rfl; rfl; apply ValP.addZL; rfl; rfl; decide; omega; apply LW.v0; rfl; rfl; apply ValP.move; rfl; apply LW.nil)
      apply thenX
      exact ⟨rfl, m + 1, ⟨hlt, fun i hi hl => by
        rcases Nat.lt_or_ge i m with h | h
        · exact hall i h hl
        · obtain rfl : i = m := by omega
          exact he⟩, by omega, ⟨rfl, rfl, rfl, rfl, trivial⟩, List.Sublist.refl _⟩
  · have hi := idxOf_miss (l := l) (k := k) fun i hi => hall i (by omega) hi
    rw [hi]
    (refine CW.seq ?_; refine CW.region ?_; apply LW.v0; rfl; rfl; apply ValP.lssF; rfl; rfl; omega; apply LW.nil; refine thenN ?_; refine CW.seq ?_; apply CW.condF; rfl; (with_reducible rfl); refine CW.exit ?_; refine thenE ?_; refine thenE ?_; refine blkE rfl ?_; refine thenN ?_; refine CW.seq ?_; refine CW.region ?_; apply LW.v0; rfl; rfl; apply ValP.assign; rfl; apply LW.nil; refine thenN ?_; refine CW.ret ?_)
    (apply finR; exact .inl rfl; rfl; rfl; rfl; apply ResL.cons; exact Res.tmp rfl; exact ResL.nil)
    rfl
end Go.Proofs.YtpgdnfgjbhdbpaaGreatDoor

/-
  What an operation costs in any case: contracts.
  Conditions: none.
-/
namespace Go.Proofs.YtpgdnfgjbhdbpaaGreatDoor
open Go Go.RowKit SL
set_option maxRecDepth 8000
set_option maxHeartbeats 4000000
set_option linter.unusedSimpArgs false
set_option linter.unusedVariables false
attribute [local irreducible] SL.CW SL.LW SL.DW Calls SL.Ret SL.RetG SL.beginQ SL.roundQ SL.rangeQ SL.inQ SL.RW SL.AnyW SL.thenQ SL.thenC SL.thenW SL.blkQ SL.finQ SL.ValP SL.NewP SL.SetP SL.CallP SL.Rd SL.Wr SL.Known
def zeroOp : OpV := ⟨0, [], 0, 0, 0⟩
def OfV (o : Option OpV) : Value := match o with
  | some x => .tuple #[.agg (opc x), .int .i64 0]
  | none => .tuple #[.agg (opc zeroOp), .int .i64 4]
theorem st_us {w0 w : World} {S : List Nat} {fs : Fs} (hs : St w0 S fs w) : ∀ p ∈ fs, w.heap[p.1]? = some p.2 := fun p hp => (hs.own p hp).2
theorem plain_rd (i : Nat) (hi : i < plainOps.length) {E : TypeId} {fr : Nat × Nat} : Rd Tryz.prog 136 (.cells (opcs plainOps).toArray E fr) (0 + i * 5) (.agg (opc plainOps[i])) :=
  Rd.elemA (g := opl) (l := plainOps) (a := plainOps[i]) (m := 250) (by rw [List.drop_zero]; exact List.take_of_length_le (by rw [List.toList_toArray, plain_len]; decide)) (opl_len _) (List.getElem?_eq_getElem hi)
theorem Of_op_calls (b : Nat) (hb : b < 256) (w : World) : Calls Tryz.prog 102 #[.int .u8 (b : Int)] w (Ret w (OfV (opOf b))) := by
  have hRow0 := row_calls b hb
  refine enter (args := [_]) _ [] [] Tryz.func102 rfl Tryz.ntmps102 rfl (by simp) .nil ?_
  cases hr : rowOp b with
  | some x =>
    rw [hr] at hRow0
    have hRow : ∀ w, Calls Tryz.prog 130 #[.int .u8 (b : Int)] w (Ret w (.tuple #[.agg (opc x), .bool true])) := hRow0
    rw [show opOf b = some x by unfold opOf; rw [hr]]
    (refine CW.seq ?_; refine CW.region ?_; apply LW.box1; rfl; rfl; rfl; intro _; apply LW.allocA; rfl; intro _; apply LW.v0; rfl; rfl; apply ValP.assign; rfl; apply LW.nil; refine thenN ?_; refine CW.seq ?_; refine CW.seq ?_; refine CW.region ?_; apply LW.load; rfl; rfl; apply Known.at; apply FsAt.tail; apply FsAt.head; exact Rd.one' rfl; apply LW.callE; rfl; rfl; infer_instance; apply ArgsOk.cons; rfl; exact ArgsOk.nil; intro w _; exact hRow w; apply LW.v0; rfl; rfl; apply ValP.move; rfl; apply LW.v0; rfl; rfl; apply ValP.extractN; rfl; rfl; apply LW.v0; rfl; rfl; apply ValP.extractN; rfl; rfl; apply LW.allocA; rfl; intro _; apply LW.store; rfl; rfl; apply SetAt.head; apply Wr.whole; rfl; rfl; rfl; apply LW.v0; rfl; rfl; apply ValP.assign; rfl; apply LW.nil; refine thenN ?_; refine CW.seq ?_; refine CW.region ?_; apply LW.v0; rfl; rfl; apply ValP.move; rfl; apply LW.nil; refine thenN ?_; apply CW.condT; rfl; (with_reducible rfl); refine CW.seq ?_; refine CW.region ?_; apply LW.load; rfl; rfl; apply Known.at; apply FsAt.head; exact Rd.whole rfl; apply LW.store; rfl; rfl; apply SetAt.tail; apply SetAt.head; apply Wr.whole; rfl; rfl; rfl; apply LW.v0; rfl; rfl; apply ValP.assign; rfl; apply LW.nil; refine thenN ?_; refine CW.ret ?_; refine thenR ?_)
    (apply finR; exact .inl rfl; rfl; rfl; rfl; apply ResL.cons; apply Res.cell; rfl; apply Known.at; apply FsAt.tail; apply FsAt.head; exact Rd.whole rfl; apply ResL.cons; exact Res.tmp rfl; exact ResL.nil)
    rfl
  | none =>
    rw [hr] at hRow0
    have hRow : ∀ w, Calls Tryz.prog 130 #[.int .u8 (b : Int)] w (Ret w (.tuple #[.agg (opc zeroOp), .bool false])) := hRow0
    (refine CW.seq ?_; refine CW.region ?_; apply LW.box1; rfl; rfl; rfl; intro _; apply LW.allocA; rfl; intro _; apply LW.v0; rfl; rfl; apply ValP.assign; rfl; apply LW.nil; refine thenN ?_; refine CW.seq ?_; refine CW.seq ?_; refine CW.region ?_; apply LW.load; rfl; rfl; apply Known.at; apply FsAt.tail; apply FsAt.head; exact Rd.one' rfl; apply LW.callE; rfl; rfl; infer_instance; apply ArgsOk.cons; rfl; exact ArgsOk.nil; intro w _; exact hRow w; apply LW.v0; rfl; rfl; apply ValP.move; rfl; apply LW.v0; rfl; rfl; apply ValP.extractN; rfl; rfl; apply LW.v0; rfl; rfl; apply ValP.extractN; rfl; rfl; apply LW.allocA; rfl; intro _; apply LW.store; rfl; rfl; apply SetAt.head; apply Wr.whole; rfl; rfl; rfl; apply LW.v0; rfl; rfl; apply ValP.assign; rfl; apply LW.nil; refine thenN ?_; refine CW.seq ?_; refine CW.region ?_; apply LW.v0; rfl; rfl; apply ValP.move; rfl; apply LW.nil; refine thenN ?_; apply CW.condF; rfl; (with_reducible rfl); refine CW.skip ?_; refine thenN ?_; refine CW.seq ?_; refine CW.region ?_)
    rename_i bx b2 b4
    (apply LW.callR; rfl; rfl; infer_instance; exact ArgsOk.nil; intro w hs)
    exact plain_calls w
    intro vp gp hpl
    obtain ⟨bp, rfl, rfl⟩ := id hpl
    cases hi : plainOps.findIdx? (fun x => x.c == b) with
    | none =>
      have hidx : idxOf plainOps b = -1 := by unfold idxOf; rw [hi]
      rw [show opOf b = none by unfold opOf; rw [hr]; exact List.find?_eq_none.2 (by simpa using List.findIdx?_eq_none_iff.1 hi)]
      (apply LW.v0; rfl; rfl; apply ValP.makeFunc; exact ArgsOk.nil; apply ArgsOk.cons; rfl; exact ArgsOk.nil; apply LW.callE; rfl; rfl; infer_instance; apply ArgsOk.cons; rfl; apply ArgsOk.cons; rfl; exact ArgsOk.nil; intro w _; rename_i hst; (exact IndexFunc_calls plainOps b _ _ _ _ w (hpl.us (st_us hst) (by exact List.singleton_sublist.2 (by (repeat (first | exact List.Mem.head _ | apply List.Mem.tail))))) ((hst.own (bx, _) (by (repeat (first | exact List.Mem.head _ | apply List.Mem.tail)))).2)); apply LW.v0; rfl; rfl; apply ValP.assign; rfl; apply LW.nil; refine thenN ?_; refine CW.seq ?_; refine CW.seq ?_; refine CW.region ?_; apply LW.v0; rfl; rfl; apply ValP.move; rfl; apply LW.v0; rfl; rfl; apply ValP.lssT; rfl; rfl; omega; apply LW.nil; refine thenN ?_; apply CW.condT; rfl; (with_reducible rfl); refine CW.seq ?_; refine CW.region ?_; apply LW.v0; rfl; rfl; apply ValP.buildT; infer_instance; infer_instance; exact PartsOk.nil; rfl; simp only [fillP, wrCells, Value.cells, List.getElem?_cons_zero, List.getElem?_cons_succ, List.toList_toArray, List.setIfInBounds_toArray, List.set_cons_succ, List.set_cons_zero, Nat.reduceAdd, Nat.zero_add]; rfl; apply LW.store; rfl; rfl; apply SetAt.tail; apply SetAt.tail; apply SetAt.head; apply Wr.whole; rfl; rfl; rfl; apply LW.v0; rfl; rfl; apply ValP.assign; rfl; apply LW.nil; refine thenN ?_; refine CW.ret ?_; refine thenR ?_)
      (apply finR; exact .inl rfl; rfl; rfl; rfl; apply ResL.cons; apply Res.cell; rfl; apply Known.at; apply FsAt.tail; apply FsAt.tail; apply FsAt.head; exact Rd.whole rfl; apply ResL.cons; exact Res.tmp rfl; exact ResL.nil)
      rfl
    | some i =>
      have hidx : idxOf plainOps b = (i : Int) := by unfold idxOf; rw [hi]
      obtain ⟨hlt, hc, hall⟩ := List.findIdx?_eq_some_iff_getElem.1 hi
      have hlt50 : i < 50 := hlt
      have hrd := plain_rd i hlt (E := 190) (fr := (0, 0))
      rw [show opOf b = some plainOps[i] by unfold opOf; rw [hr]; exact List.find?_eq_some_iff_getElem.2 ⟨hc, i, hlt, rfl, fun j hj => by simpa using hall j hj⟩]
      (apply LW.v0; rfl; rfl; apply ValP.makeFunc; exact ArgsOk.nil; apply ArgsOk.cons; rfl; exact ArgsOk.nil; apply LW.callE; rfl; rfl; infer_instance; apply ArgsOk.cons; rfl; apply ArgsOk.cons; rfl; exact ArgsOk.nil; intro w _; rename_i hst; (exact IndexFunc_calls plainOps b _ _ _ _ w (hpl.us (st_us hst) (by exact List.singleton_sublist.2 (by (repeat (first | exact List.Mem.head _ | apply List.Mem.tail))))) ((hst.own (bx, _) (by (repeat (first | exact List.Mem.head _ | apply List.Mem.tail)))).2)); apply LW.v0; rfl; rfl; apply ValP.assign; rfl; apply LW.nil; refine thenN ?_; refine CW.seq ?_; refine CW.seq ?_; refine CW.region ?_; apply LW.v0; rfl; rfl; apply ValP.move; rfl; apply LW.v0; rfl; rfl; apply ValP.lssF; rfl; rfl; omega; apply LW.nil; refine thenN ?_; apply CW.condF; rfl; (with_reducible rfl); refine CW.skip ?_; refine thenN ?_; refine CW.seq ?_; refine CW.region ?_)
      rw [hidx]
      skip
      (apply LW.callR; rfl; rfl; infer_instance; exact ArgsOk.nil; intro w hs)
      exact plain_calls w
      intro vq gq hpq
      obtain ⟨bq, rfl, rfl⟩ := id hpq
      (apply LW.v0; rfl; rfl; apply ValP.move; rfl; apply LW.v0; rfl; rfl; apply ValP.indexAddrS; rfl; rfl; rfl; omega; apply LW.load; rfl; rfl; apply Known.at; apply FsAt.head; assumption; apply LW.store; rfl; rfl; apply SetAt.tail; apply SetAt.tail; apply SetAt.tail; apply SetAt.head; apply Wr.whole; rfl; rfl; rfl; apply LW.v0; rfl; rfl; apply ValP.assign; rfl; apply LW.nil; refine thenN ?_; refine CW.ret ?_)
      (apply finR; exact .inl rfl; rfl; rfl; rfl; apply ResL.cons; apply Res.cell; rfl; apply Known.at; apply FsAt.tail; apply FsAt.tail; apply FsAt.tail; apply FsAt.head; exact Rd.whole rfl; apply ResL.cons; exact Res.tmp rfl; exact ResL.nil)
      rfl
end Go.Proofs.YtpgdnfgjbhdbpaaGreatDoor

/-
  What an operation costs in any case: contracts.
  Conditions: none.
-/
namespace Go.Proofs.YtpgdnfgjbhdbpaaGreatDoor
open Go Go.RowKit SL
set_option maxRecDepth 8000
set_option maxHeartbeats 4000000
set_option linter.unusedSimpArgs false
set_option linter.unusedVariables false
attribute [local irreducible] SL.CW SL.LW SL.DW Calls SL.Ret SL.RetG SL.beginQ SL.roundQ SL.rangeQ SL.inQ SL.RW SL.AnyW SL.thenQ SL.thenC SL.thenW SL.blkQ SL.finQ SL.ValP SL.NewP SL.SetP SL.CallP SL.Rd SL.Wr SL.Known
end Go.Proofs.YtpgdnfgjbhdbpaaGreatDoor

/-
  What memory costs, what is lent, what is spent: contracts.
  Conditions: none.
-/
namespace Go.Proofs.YtpgdnfgjbhdbpaaGreatDoor
open Go Go.RowKit SL
set_option maxRecDepth 8000
set_option maxHeartbeats 4000000
set_option linter.unusedSimpArgs false
set_option linter.unusedVariables false
attribute [local irreducible] SL.CW SL.LW SL.DW Calls SL.Ret SL.RetG SL.beginQ SL.roundQ SL.rangeQ SL.inQ SL.RW SL.AnyW SL.thenQ SL.thenC SL.thenW SL.blkQ SL.finQ SL.ValP SL.NewP SL.SetP SL.CallP SL.Rd SL.Wr SL.Known
theorem Words_calls (n : Nat) (hn : n < 18446744073709551616) (w : World) : Calls Tryz.prog 144 #[.int .u64 (n : Int)] w (Ret w (.int .u64 (((n + 31) / 32 : Nat) : Int))) := by
  refine enter (args := [_]) _ [] [] Tryz.func144 rfl Tryz.ntmps144 rfl (by simp) .nil ?_
  rcases Nat.eq_zero_or_pos (n % 32) with h | h
  · rw [show (n + 31) / 32 = n / 32 by omega]
    (refine CW.seq ?_; refine CW.region ?_; apply LW.v0; rfl; rfl; apply ValP.assign; rfl; apply LW.nil; refine thenN ?_; refine CW.seq ?_; refine CW.region ?_; apply LW.v0; rfl; rfl; apply ValP.move; rfl; apply LW.v0; rfl; rfl; apply ValP.quoNL; rfl; rfl; decide; omega; omega; apply LW.v0; rfl; rfl; apply ValP.assign; rfl; apply LW.nil; refine thenN ?_; refine CW.seq ?_; refine CW.seq ?_; refine CW.region ?_; apply LW.v0; rfl; rfl; apply ValP.move; rfl; apply LW.v0; rfl; rfl; apply ValP.remNL; rfl; rfl; decide; omega; apply LW.v0; rfl; rfl; apply ValP.gtrF; rfl; rfl; omega; apply LW.nil; refine thenN ?_; apply CW.condF; rfl; (with_reducible rfl); refine CW.skip ?_; refine thenN ?_; refine CW.seq ?_; refine CW.region ?_; apply LW.v0; rfl; rfl; apply ValP.move; rfl; apply LW.v0; rfl; rfl; apply ValP.assign; rfl; apply LW.nil; refine thenN ?_; refine CW.ret ?_)
    (apply finR; exact .inl rfl; rfl; rfl; rfl; apply ResL.cons; exact Res.tmp rfl; exact ResL.nil)
    rfl
  · rw [show (n + 31) / 32 = (n / 32 + 1) % 18446744073709551616 by omega]
    (refine CW.seq ?_; refine CW.region ?_; apply LW.v0; rfl; rfl; apply ValP.assign; rfl; apply LW.nil; refine thenN ?_; refine CW.seq ?_; refine CW.region ?_; apply LW.v0; rfl; rfl; apply ValP.move; rfl; apply LW.v0; rfl; rfl; apply ValP.quoNL; rfl; rfl; decide; omega; omega; apply LW.v0; rfl; rfl; apply ValP.assign; rfl; apply LW.nil; refine thenN ?_; refine CW.seq ?_; refine CW.seq ?_; refine CW.region ?_; apply LW.v0; rfl; rfl; apply ValP.move; rfl; apply LW.v0; rfl; rfl; apply ValP.remNL; rfl; rfl; decide; omega; apply LW.v0; rfl; rfl; apply ValP.gtrT; rfl; rfl; omega; apply LW.nil; refine thenN ?_; apply CW.condT; rfl; (with_reducible rfl); refine CW.region ?_; apply LW.v0; rfl; rfl; apply ValP.move; rfl; apply LW.v0; rfl; rfl; apply ValP.addNL; rfl; rfl; decide; apply LW.v0; rfl; rfl; apply ValP.assign; rfl; apply LW.nil; refine thenN ?_; refine CW.seq ?_; refine CW.region ?_; apply LW.v0; rfl; rfl; apply ValP.move; rfl; apply LW.v0; rfl; rfl; apply ValP.assign; rfl; apply LW.nil; refine thenN ?_; refine CW.ret ?_)
    (apply finR; exact .inl rfl; rfl; rfl; rfl; apply ResL.cons; exact Res.tmp rfl; exact ResL.nil)
    rfl
def memW (x : Nat) : Nat := 3 * x + x * x / 512
theorem memW_eq (x : Nat) (hx : x ≤ 1000) : (3 * x % 18446744073709551616 + x * x % 18446744073709551616 / 512) % 18446744073709551616 = memW x := by
  have h := Nat.mul_le_mul hx hx
  unfold memW
  omega
theorem words_calls (x : Nat) (hx : x ≤ 1000) (w : World) : Calls Tryz.prog 168 #[.int .u64 (x : Int)] w (Ret w (.int .u64 ((memW x : Nat) : Int))) := by
  refine enter (args := [_]) _ [] [] Tryz.func168 rfl Tryz.ntmps168 rfl (by simp) .nil ?_
  rw [← memW_eq x hx]
  (refine CW.seq ?_; refine CW.region ?_; apply LW.v0; rfl; rfl; apply ValP.assign; rfl; apply LW.nil; refine thenN ?_; refine CW.seq ?_; refine CW.region ?_; apply LW.v0; rfl; rfl; apply ValP.move; rfl; apply LW.v0; rfl; rfl; apply ValP.mulNK; rfl; rfl; decide; apply LW.v0; rfl; rfl; apply ValP.move; rfl; apply LW.v0; rfl; rfl; apply ValP.move; rfl; apply LW.v0; rfl; rfl; apply ValP.mulN; rfl; rfl; apply LW.v0; rfl; rfl; apply ValP.quoNL; rfl; rfl; decide; omega; omega; apply LW.v0; rfl; rfl; apply ValP.addN; rfl; rfl; apply LW.v0; rfl; rfl; apply ValP.assign; rfl; apply LW.nil; refine thenN ?_; refine CW.ret ?_)
  (apply finR; exact .inl rfl; rfl; rfl; rfl; apply ResL.cons; exact Res.tmp rfl; exact ResL.nil)
  rfl
theorem memW_mono {x y : Nat} (h : x ≤ y) : memW x ≤ memW y := by
  unfold memW
  have := Nat.mul_le_mul h h
  have := Nat.div_le_div_right (c := 512) this
  omega
def memV (a b : Nat) : Nat := if b ≤ a then 0 else if 1024 < b then 1099511627776 else memW ((b + 31) / 32) - memW ((a + 31) / 32)
theorem Memory_calls (a b : Nat) (ha : a < 18446744073709551616) (hb : b < 18446744073709551616) (w : World) : Calls Tryz.prog 159 #[.int .u64 (a : Int), .int .u64 (b : Int)] w (Ret w (.int .u64 ((memV a b : Nat) : Int))) := by
  refine enter (args := [_, _]) _ [] [] Tryz.func159 rfl Tryz.ntmps159 rfl (by simp) .nil ?_
  unfold memV
  by_cases h1 : b ≤ a
  · rw [if_pos h1]
    (refine CW.seq ?_; refine CW.region ?_; apply LW.v0; rfl; rfl; apply ValP.assign; rfl; apply LW.nil; refine thenN ?_; refine CW.seq ?_; refine CW.block ?_; refine CW.seq ?_; refine CW.region ?_; apply LW.v0; rfl; rfl; apply ValP.move; rfl; apply LW.v0; rfl; rfl; apply ValP.move; rfl; apply LW.v0; rfl; rfl; apply ValP.leqT; rfl; rfl; omega; apply LW.v0; rfl; rfl; apply ValP.assign; rfl; apply LW.nil; refine thenN ?_; apply CW.condT; rfl; (with_reducible rfl); refine CW.seq ?_; refine CW.region ?_; apply LW.v0; rfl; rfl; apply ValP.assign; rfl; apply LW.nil; refine thenN ?_; refine CW.ret ?_; refine blkR ?_; refine thenR ?_)
    (apply finR; exact .inl rfl; rfl; rfl; rfl; apply ResL.cons; exact Res.tmp rfl; exact ResL.nil)
    rfl
  · rw [if_neg h1]
    by_cases h2 : 1024 < b
    · rw [if_pos h2]
      (refine CW.seq ?_; refine CW.region ?_; apply LW.v0; rfl; rfl; apply ValP.assign; rfl; apply LW.nil; refine thenN ?_; refine CW.seq ?_; refine CW.block ?_; refine CW.seq ?_; refine CW.region ?_; apply LW.v0; rfl; rfl; apply ValP.move; rfl; apply LW.v0; rfl; rfl; apply ValP.move; rfl; apply LW.v0; rfl; rfl; apply ValP.leqF; rfl; rfl; omega; apply LW.v0; rfl; rfl; apply ValP.assign; rfl; apply LW.nil; refine thenN ?_; apply CW.condF; rfl; (with_reducible rfl); refine CW.seq ?_; refine CW.region ?_; apply LW.v0; rfl; rfl; apply ValP.move; rfl; apply LW.v0; rfl; rfl; apply ValP.gtrT; rfl; rfl; omega; apply LW.v0; rfl; rfl; apply ValP.assign; rfl; apply LW.nil; refine thenN ?_; apply CW.condT; rfl; (with_reducible rfl); refine CW.seq ?_; refine CW.region ?_; apply LW.v0; rfl; rfl; apply ValP.assign; rfl; apply LW.nil; refine thenN ?_; refine CW.ret ?_; refine blkR ?_; refine thenR ?_)
      (apply finR; exact .inl rfl; rfl; rfl; rfl; apply ResL.cons; exact Res.tmp rfl; exact ResL.nil)
      rfl
    · rw [if_neg h2]
      have hm := memW_mono (show (a + 31) / 32 ≤ (b + 31) / 32 by omega)
      have hm2 := memW_mono (show (b + 31) / 32 ≤ 32 by omega)
      have hm3 : memW 32 = 98 := by decide
      (refine CW.seq ?_; refine CW.region ?_; apply LW.v0; rfl; rfl; apply ValP.assign; rfl; apply LW.nil; refine thenN ?_; refine CW.seq ?_; refine CW.block ?_; refine CW.seq ?_; refine CW.region ?_; apply LW.v0; rfl; rfl; apply ValP.move; rfl; apply LW.v0; rfl; rfl; apply ValP.move; rfl; apply LW.v0; rfl; rfl; apply ValP.leqF; rfl; rfl; omega; apply LW.v0; rfl; rfl; apply ValP.assign; rfl; apply LW.nil; refine thenN ?_; apply CW.condF; rfl; (with_reducible rfl); refine CW.seq ?_; refine CW.region ?_; apply LW.v0; rfl; rfl; apply ValP.move; rfl; apply LW.v0; rfl; rfl; apply ValP.gtrF; rfl; rfl; omega; apply LW.v0; rfl; rfl; apply ValP.assign; rfl; apply LW.nil; refine thenN ?_; apply CW.condF; rfl; (with_reducible rfl); refine CW.skip ?_; refine blkN ?_; refine thenN ?_; refine CW.seq ?_; refine CW.region ?_; apply LW.v0; rfl; rfl; apply ValP.move; rfl; apply LW.callE; rfl; rfl; infer_instance; apply ArgsOk.cons; rfl; exact ArgsOk.nil; intro w _; refine Words_calls _ ?_ w; omega; apply LW.callE; rfl; rfl; infer_instance; apply ArgsOk.cons; rfl; exact ArgsOk.nil; intro w _; refine words_calls _ ?_ w; omega; apply LW.v0; rfl; rfl; apply ValP.move; rfl; apply LW.callE; rfl; rfl; infer_instance; apply ArgsOk.cons; rfl; exact ArgsOk.nil; intro w _; refine Words_calls _ ?_ w; omega; apply LW.callE; rfl; rfl; infer_instance; apply ArgsOk.cons; rfl; exact ArgsOk.nil; intro w _; refine words_calls _ ?_ w; omega; apply LW.v0; rfl; rfl; apply ValP.subN; rfl; rfl; omega; omega; apply LW.v0; rfl; rfl; apply ValP.assign; rfl; apply LW.nil; refine thenN ?_; refine CW.ret ?_)
      (apply finR; exact .inl rfl; rfl; rfl; rfl; apply ResL.cons; exact Res.tmp rfl; exact ResL.nil)
      rfl
theorem Part_calls (n : Nat) (hn : n < 18446744073709551616) (w : World) : Calls Tryz.prog 33 #[.int .u64 (n : Int)] w (Ret w (.int .u64 ((n - n / 64 : Nat) : Int))) := by
  refine enter (args := [_]) _ [] [] Tryz.func33 rfl Tryz.ntmps33 rfl (by simp) .nil ?_
  (refine CW.seq ?_; refine CW.region ?_; apply LW.v0; rfl; rfl; apply ValP.assign; rfl; apply LW.nil; refine thenN ?_; refine CW.seq ?_; refine CW.region ?_; apply LW.v0; rfl; rfl; apply ValP.move; rfl; apply LW.v0; rfl; rfl; apply ValP.move; rfl; apply LW.v0; rfl; rfl; apply ValP.quoNL; rfl; rfl; decide; omega; omega; apply LW.v0; rfl; rfl; apply ValP.subN; rfl; rfl; omega; omega; apply LW.v0; rfl; rfl; apply ValP.assign; rfl; apply LW.nil; refine thenN ?_; refine CW.ret ?_)
  (apply finR; exact .inl rfl; rfl; rfl; rfl; apply ResL.cons; exact Res.tmp rfl; exact ResL.nil)
  rfl
/-! ### What is spent -/
theorem take_le (l : List Nat) (m : Nat) : (l.take m).sum ≤ l.sum := by
  conv => rhs; rw [← List.take_append_drop m l]
  rw [List.sum_append]; omega
def spendV (left : Nat) (l : List Nat) : Value := if l.sum ≤ left then .tuple #[.int .u64 ((left - l.sum : Nat) : Int), .bool true] else .tuple #[.int .u64 0, .bool false]
theorem Spend_calls (left : Nat) (l : List Nat) (hl : left < 18446744073709551616) (v : Value) (w : World) (hv : RowAt w 1 v l.length (ncs l)) : Calls Tryz.prog 116 #[.int .u64 (left : Int), v] w (Ret w (spendV left l)) := by
  obtain ⟨p, c, rfl, hc, hm⟩ := hv.form
  simp only [maxLen] at hm
  refine enter (args := [_, _]) _ [] [] Tryz.func116 rfl Tryz.ntmps116 rfl (by simp) .nil ?_
  (refine CW.seq ?_; refine CW.region ?_; apply LW.v0; rfl; rfl; apply ValP.assign; rfl; apply LW.v0; rfl; rfl; apply ValP.assign; rfl; apply LW.nil; refine thenN ?_; refine CW.scope ?_; refine CW.seq ?_; refine CW.region ?_; apply LW.v0; rfl; rfl; apply ValP.assign; rfl; apply LW.nil; refine thenN ?_; refine CW.seq ?_; refine CW.label ?_; refine thenN ?_; refine CW.seq ?_; refine CW.seq ?_; refine CW.region ?_; apply LW.v0; rfl; rfl; apply ValP.move; rfl; apply LW.v0; rfl; rfl; apply ValP.lenR; rfl; infer_instance; rfl; apply LW.v0; rfl; rfl; apply ValP.move; rfl; apply LW.nil; refine thenN ?_; refine CW.block ?_)
  refine CW.loop (fun m : Nat => ([(11, .int .i64 (m : Int)), (10, .int .i64 (l.length : Int)), (9, .slice p l.length c), (6, .bool true), (0, .int .u64 ((left - (l.take m).sum : Nat) : Int))], []))
    (fun m => m ≤ l.length ∧ (l.take m).sum ≤ left) (fun m => l.length - m) 0 ⟨Nat.zero_le _, Nat.zero_le _⟩ ⟨rfl, rfl, rfl, rfl, rfl, trivial⟩ (List.Sublist.refl _) ?_
  rintro m ⟨hml, hS⟩
  dsimp only
  rcases Nat.lt_or_ge m l.length with hlt | hge
  · obtain ⟨b, off, c', cs, E, fr, heq, hb, hx⟩ := hv.pos (by omega)
    cases heq
    obtain ⟨n, hn⟩ : ∃ n, n = l[m] := ⟨_, rfl⟩
    have hrd : Rd Tryz.prog 26 (.cells cs E fr) (off + m * 1) (.int .u64 (n : Int)) := Rd.elem1 hx (ncs_one l) (by rw [hn]; exact List.getElem?_eq_getElem hlt) rfl
    have hst := take_step l m hlt
    have htot := take_le l (m + 1)
    rw [← hn] at hst
    by_cases hle : n ≤ left - (l.take m).sum
    · (refine CW.seq ?_; refine CW.region ?_; apply LW.v0; rfl; rfl; apply ValP.lssT; rfl; rfl; omega; apply LW.nil; refine thenN ?_; refine CW.seq ?_; apply CW.condT; rfl; (with_reducible rfl); refine CW.skip ?_; refine thenN ?_; refine CW.seq ?_; refine CW.block ?_; refine CW.seq ?_; refine CW.region ?_; apply LW.v0; rfl; rfl; apply ValP.indexAddrS; rfl; rfl; rfl; omega; apply LW.load; rfl; rfl; exact Known.ext (by assumption) (by simp); assumption; apply LW.v0; rfl; rfl; apply ValP.assign; rfl; apply LW.nil; refine thenN ?_; refine CW.seq ?_; refine CW.seq ?_; refine CW.region ?_; apply LW.v0; rfl; rfl; apply ValP.move; rfl; apply LW.v0; rfl; rfl; apply ValP.move; rfl; apply LW.v0; rfl; rfl; apply ValP.leqT; rfl; rfl; omega; apply LW.v0; rfl; rfl; apply ValP.assign; rfl; apply LW.nil; refine thenN ?_; refine CW.seq ?_; refine CW.region ?_; apply LW.v0; rfl; rfl; apply ValP.move; rfl; apply LW.v0; rfl; rfl; apply ValP.notT; rfl; (with_reducible rfl); apply LW.nil; refine thenN ?_; apply CW.condF; rfl; (with_reducible rfl); refine CW.skip ?_; refine thenN ?_; refine CW.region ?_; apply LW.v0; rfl; rfl; apply ValP.move; rfl; apply LW.v0; rfl; rfl; apply ValP.move; rfl; apply LW.v0; rfl; rfl; apply ValP.subN; rfl; rfl; omega; omega; apply LW.v0; rfl; rfl; apply ValP.assign; rfl; apply LW.nil; refine blkN ?_; refine thenN ?_; refine CW.region ?_; apply LW.v0; rfl; rfl; apply ValP.addZL; rfl; rfl; decide; omega; apply LW.v0; rfl; rfl; apply ValP.move; rfl; apply LW.nil)
      apply thenX
      refine ⟨rfl, m + 1, ⟨hlt, by omega⟩, by omega, ⟨rfl, rfl, rfl, rfl, ?_, trivial⟩, List.Sublist.refl _⟩
      rw [hst, ← Nat.sub_sub]; rfl
    · unfold spendV
      rw [if_neg (by omega)]
      (refine CW.seq ?_; refine CW.region ?_; apply LW.v0; rfl; rfl; apply ValP.lssT; rfl; rfl; omega; apply LW.nil; refine thenN ?_; refine CW.seq ?_; apply CW.condT; rfl; (with_reducible rfl); refine CW.skip ?_; refine thenN ?_; refine CW.seq ?_; refine CW.block ?_; refine CW.seq ?_; refine CW.region ?_; apply LW.v0; rfl; rfl; apply ValP.indexAddrS; rfl; rfl; rfl; omega; apply LW.load; rfl; rfl; exact Known.ext (by assumption) (by simp); assumption; apply LW.v0; rfl; rfl; apply ValP.assign; rfl; apply LW.nil; refine thenN ?_; refine CW.seq ?_; refine CW.seq ?_; refine CW.region ?_; apply LW.v0; rfl; rfl; apply ValP.move; rfl; apply LW.v0; rfl; rfl; apply ValP.move; rfl; apply LW.v0; rfl; rfl; apply ValP.leqF; rfl; rfl; omega; apply LW.v0; rfl; rfl; apply ValP.assign; rfl; apply LW.nil; refine thenN ?_; refine CW.seq ?_; refine CW.region ?_; apply LW.v0; rfl; rfl; apply ValP.move; rfl; apply LW.v0; rfl; rfl; apply ValP.notF; rfl; (with_reducible rfl); apply LW.nil; refine thenN ?_; apply CW.condT; rfl; (with_reducible rfl); refine CW.exit ?_; refine thenE ?_; refine blkO rfl ?_; refine thenE ?_; refine thenE ?_; refine blkE rfl ?_; refine thenN ?_; refine CW.seq ?_; refine CW.seq ?_; refine CW.region ?_; apply LW.v0; rfl; rfl; apply ValP.move; rfl; apply LW.v0; rfl; rfl; apply ValP.notF; rfl; (with_reducible rfl); apply LW.nil; refine thenN ?_; apply CW.condT; rfl; (with_reducible rfl); refine CW.seq ?_; refine CW.region ?_; apply LW.v0; rfl; rfl; apply ValP.assign; rfl; apply LW.v0; rfl; rfl; apply ValP.assign; rfl; apply LW.nil; refine thenN ?_; refine CW.ret ?_; refine thenR ?_; refine scopeQ.r ?_)
      (apply finR; exact .inl rfl; rfl; rfl; rfl; apply ResL.cons; exact Res.tmp rfl; apply ResL.cons; exact Res.tmp rfl; exact ResL.nil)
      rfl
  · obtain rfl : m = l.length := by omega
    rw [List.take_length] at hS ⊢
    unfold spendV
    rw [if_pos hS]
    (refine CW.seq ?_; refine CW.region ?_; apply LW.v0; rfl; rfl; apply ValP.lssF; rfl; rfl; omega; apply LW.nil; refine thenN ?_; refine CW.seq ?_; apply CW.condF; rfl; (with_reducible rfl); refine CW.exit ?_; refine thenE ?_; refine thenE ?_; refine blkE rfl ?_; refine thenN ?_; refine CW.seq ?_; refine CW.seq ?_; refine CW.region ?_; apply LW.v0; rfl; rfl; apply ValP.move; rfl; apply LW.v0; rfl; rfl; apply ValP.notT; rfl; (with_reducible rfl); apply LW.nil; refine thenN ?_; apply CW.condF; rfl; (with_reducible rfl); refine CW.skip ?_; refine thenN ?_; refine CW.seq ?_; refine CW.region ?_; apply LW.v0; rfl; rfl; apply ValP.move; rfl; apply LW.v0; rfl; rfl; apply ValP.assign; rfl; apply LW.v0; rfl; rfl; apply ValP.assign; rfl; apply LW.nil; refine thenN ?_; refine CW.ret ?_; refine scopeQ.r ?_)
    (apply finR; exact .inl rfl; rfl; rfl; rfl; apply ResL.cons; exact Res.tmp rfl; apply ResL.cons; exact Res.tmp rfl; exact ResL.nil)
    rfl
end Go.Proofs.YtpgdnfgjbhdbpaaGreatDoor

/-
  The layer does something.
  Conditions: none.
-/
namespace Go.Proofs.YtpgdnfgjbhdbpaaGreatDoor
open Go Go.RowKit SL
set_option maxRecDepth 8000
set_option maxHeartbeats 4000000
set_option linter.unusedSimpArgs false
set_option linter.unusedVariables false
attribute [local irreducible] SL.CW SL.LW SL.DW Calls SL.Ret SL.RetG SL.beginQ SL.roundQ SL.rangeQ SL.inQ SL.RW SL.AnyW SL.thenQ SL.thenC SL.thenW SL.blkQ SL.finQ SL.ValP SL.NewP SL.SetP SL.CallP SL.Rd SL.Wr SL.Known
end Go.Proofs.YtpgdnfgjbhdbpaaGreatDoor

/-
  What bytes cost, where they end, what is lent: contracts.
  Conditions: none.
-/
namespace Go.Proofs.YtpgdnfgjbhdbpaaGreatDoor
open Go Go.RowKit SL
set_option maxRecDepth 8000
set_option maxHeartbeats 4000000
set_option linter.unusedSimpArgs false
set_option linter.unusedVariables false
attribute [local irreducible] SL.CW SL.LW SL.DW Calls SL.Ret SL.RetG SL.beginQ SL.roundQ SL.rangeQ SL.inQ SL.RW SL.AnyW SL.thenQ SL.thenC SL.thenW SL.blkQ SL.finQ SL.ValP SL.NewP SL.SetP SL.CallP SL.Rd SL.Wr SL.Known
abbrev NOG : Nat := 1099511627776
/-! ### Where bytes end -/
def endV (a n : Nat) : Nat := if n = 0 then 0 else min (a + n) NOG
theorem End_calls (a n : Nat) (ha : a < M256) (hn : n < M256) (w : World) : Calls Tryz.prog 158 #[wv a, wv n] w (Ret w (.int .u64 ((endV a n : Nat) : Int))) := by
  refine enter (args := [_, _]) _ [] [] Tryz.func158 rfl Tryz.ntmps158 rfl (by simp) .nil ?_
  unfold endV
  have hz : (0 : Nat) < M256 := by decide
  by_cases h0 : n = 0
  · subst h0
    rw [if_pos rfl]
    (refine CW.seq ?_; refine CW.region ?_; apply LW.boxA; rfl; rfl; intro _; apply LW.boxA; rfl; rfl; intro _; apply LW.v0; rfl; rfl; apply ValP.assign; rfl; apply LW.nil; refine thenN ?_; refine CW.seq ?_; refine CW.seq ?_; refine CW.region ?_; apply LW.load; rfl; rfl; apply Known.at; apply FsAt.head; exact Rd.whole rfl; apply LW.v0; rfl; rfl; exact ValP.buildW0; apply LW.v0; rfl; rfl; apply ValP.eqWT; rfl; rfl; (with_reducible rfl); apply LW.nil; refine thenN ?_; apply CW.condT; rfl; (with_reducible rfl); refine CW.seq ?_; refine CW.region ?_; apply LW.v0; rfl; rfl; apply ValP.assign; rfl; apply LW.nil; refine thenN ?_; refine CW.ret ?_; refine thenR ?_)
    (apply finR; exact .inl rfl; rfl; rfl; rfl; apply ResL.cons; exact Res.tmp rfl; exact ResL.nil)
    rfl
  · rw [if_neg h0]
    have hA0 := Add_calls a n ha hn
    have hS0 := Small_calls ((a + n) % M256) (Nat.mod_lt _ (by decide))
    rcases Nat.lt_or_ge (a + n) M256 with h | h
    · rw [Nat.mod_eq_of_lt h] at hA0 hS0
      rw [decide_eq_false (Nat.not_le.2 h)] at hA0
      have hA := hA0
      rcases Nat.lt_or_ge (a + n) 18446744073709551616 with hs | hs
      · rw [if_pos hs, decide_eq_true hs] at hS0
        have hS := hS0
        (refine CW.seq ?_; refine CW.region ?_; apply LW.boxA; rfl; rfl; intro _; apply LW.boxA; rfl; rfl; intro _; apply LW.v0; rfl; rfl; apply ValP.assign; rfl; apply LW.nil; refine thenN ?_; refine CW.seq ?_; refine CW.seq ?_; refine CW.region ?_; apply LW.load; rfl; rfl; apply Known.at; apply FsAt.head; exact Rd.whole rfl; apply LW.v0; rfl; rfl; exact ValP.buildW0; apply LW.v0; rfl; rfl; apply ValP.eqWF; rfl; rfl; assumption; assumption; assumption; apply LW.nil; refine thenN ?_; apply CW.condF; rfl; (with_reducible rfl); refine CW.skip ?_; refine thenN ?_; refine CW.seq ?_; refine CW.region ?_; apply LW.load; rfl; rfl; apply Known.at; apply FsAt.tail; apply FsAt.head; exact Rd.whole rfl; apply LW.load; rfl; rfl; apply Known.at; apply FsAt.head; exact Rd.whole rfl; apply LW.callE; rfl; rfl; infer_instance; apply ArgsOk.cons; rfl; apply ArgsOk.cons; rfl; exact ArgsOk.nil; intro w _; exact hA w; apply LW.v0; rfl; rfl; apply ValP.move; rfl; apply LW.v0; rfl; rfl; apply ValP.extractN; rfl; rfl; apply LW.v0; rfl; rfl; apply ValP.extractN; rfl; rfl; apply LW.allocW; rfl; intro _; apply LW.store; rfl; rfl; apply SetAt.head; apply Wr.whole; rfl; rfl; rfl; apply LW.v0; rfl; rfl; apply ValP.assign; rfl; apply LW.nil; refine thenN ?_; refine CW.seq ?_; refine CW.region ?_; apply LW.load; rfl; rfl; apply Known.at; apply FsAt.head; exact Rd.whole rfl; apply LW.callE; rfl; rfl; infer_instance; apply ArgsOk.cons; rfl; exact ArgsOk.nil; intro w _; exact hS w; apply LW.v0; rfl; rfl; apply ValP.move; rfl; apply LW.v0; rfl; rfl; apply ValP.extractN; rfl; rfl; apply LW.v0; rfl; rfl; apply ValP.extractN; rfl; rfl; apply LW.v0; rfl; rfl; apply ValP.assign; rfl; apply LW.v0; rfl; rfl; apply ValP.assign; rfl; apply LW.nil; refine thenN ?_; refine CW.seq ?_; refine CW.seq ?_; refine CW.region ?_; apply LW.v0; rfl; rfl; apply ValP.move; rfl; apply LW.v0; rfl; rfl; apply ValP.move; rfl; apply LW.guardT'; rfl; rfl; (with_reducible rfl); apply LW.v0; rfl; rfl; apply ValP.move; rfl; apply LW.guardT'; rfl; rfl; (with_reducible rfl); apply LW.v0; rfl; rfl; apply ValP.notT; rfl; (with_reducible rfl); apply LW.v0; rfl; rfl; apply ValP.pickF'; rfl; (with_reducible rfl); rfl; apply LW.nil; refine thenN ?_; apply CW.condF; rfl; (with_reducible rfl); refine CW.skip ?_; refine thenN ?_; refine CW.seq ?_; refine CW.region ?_; apply LW.v0; rfl; rfl; apply ValP.move; rfl; apply LW.v0; rfl; rfl; apply ValP.minZL; rfl; rfl; decide; apply LW.v0; rfl; rfl; apply ValP.assign; rfl; apply LW.nil; refine thenN ?_; refine CW.ret ?_)
        (apply finR; exact .inl rfl; rfl; rfl; rfl; apply ResL.cons; exact Res.tmp rfl; exact ResL.nil)
        rfl
      · rw [if_neg (Nat.not_lt.2 hs), decide_eq_false (Nat.not_lt.2 hs)] at hS0
        have hS := hS0
        rw [Nat.min_eq_right (by simp only [NOG]; omega)]
        (refine CW.seq ?_; refine CW.region ?_; apply LW.boxA; rfl; rfl; intro _; apply LW.boxA; rfl; rfl; intro _; apply LW.v0; rfl; rfl; apply ValP.assign; rfl; apply LW.nil; refine thenN ?_; refine CW.seq ?_; refine CW.seq ?_; refine CW.region ?_; apply LW.load; rfl; rfl; apply Known.at; apply FsAt.head; exact Rd.whole rfl; apply LW.v0; rfl; rfl; exact ValP.buildW0; apply LW.v0; rfl; rfl; apply ValP.eqWF; rfl; rfl; assumption; assumption; assumption; apply LW.nil; refine thenN ?_; apply CW.condF; rfl; (with_reducible rfl); refine CW.skip ?_; refine thenN ?_; refine CW.seq ?_; refine CW.region ?_; apply LW.load; rfl; rfl; apply Known.at; apply FsAt.tail; apply FsAt.head; exact Rd.whole rfl; apply LW.load; rfl; rfl; apply Known.at; apply FsAt.head; exact Rd.whole rfl; apply LW.callE; rfl; rfl; infer_instance; apply ArgsOk.cons; rfl; apply ArgsOk.cons; rfl; exact ArgsOk.nil; intro w _; exact hA w; apply LW.v0; rfl; rfl; apply ValP.move; rfl; apply LW.v0; rfl; rfl; apply ValP.extractN; rfl; rfl; apply LW.v0; rfl; rfl; apply ValP.extractN; rfl; rfl; apply LW.allocW; rfl; intro _; apply LW.store; rfl; rfl; apply SetAt.head; apply Wr.whole; rfl; rfl; rfl; apply LW.v0; rfl; rfl; apply ValP.assign; rfl; apply LW.nil; refine thenN ?_; refine CW.seq ?_; refine CW.region ?_; apply LW.load; rfl; rfl; apply Known.at; apply FsAt.head; exact Rd.whole rfl; apply LW.callE; rfl; rfl; infer_instance; apply ArgsOk.cons; rfl; exact ArgsOk.nil; intro w _; exact hS w; apply LW.v0; rfl; rfl; apply ValP.move; rfl; apply LW.v0; rfl; rfl; apply ValP.extractN; rfl; rfl; apply LW.v0; rfl; rfl; apply ValP.extractN; rfl; rfl; apply LW.v0; rfl; rfl; apply ValP.assign; rfl; apply LW.v0; rfl; rfl; apply ValP.assign; rfl; apply LW.nil; refine thenN ?_; refine CW.seq ?_; refine CW.seq ?_; refine CW.region ?_; apply LW.v0; rfl; rfl; apply ValP.move; rfl; apply LW.v0; rfl; rfl; apply ValP.move; rfl; apply LW.guardT'; rfl; rfl; (with_reducible rfl); apply LW.v0; rfl; rfl; apply ValP.move; rfl; apply LW.guardT'; rfl; rfl; (with_reducible rfl); apply LW.v0; rfl; rfl; apply ValP.notF; rfl; (with_reducible rfl); apply LW.v0; rfl; rfl; apply ValP.pickF'; rfl; (with_reducible rfl); rfl; apply LW.nil; refine thenN ?_; apply CW.condT; rfl; (with_reducible rfl); refine CW.seq ?_; refine CW.region ?_; apply LW.v0; rfl; rfl; apply ValP.assign; rfl; apply LW.nil; refine thenN ?_; refine CW.ret ?_; refine thenR ?_)
        (apply finR; exact .inl rfl; rfl; rfl; rfl; apply ResL.cons; exact Res.tmp rfl; exact ResL.nil)
        rfl
    · rw [decide_eq_true h] at hA0
      have hA := hA0
      rw [Nat.min_eq_right (by simp only [NOG]; simp only [M256] at h; omega)]
      obtain ⟨x, y, hS⟩ : ∃ x y, ∀ w, Calls Tryz.prog 121 #[wv ((a + n) % M256)] w (Ret w (.tuple #[.int .u64 ((x : Nat) : Int), .bool y])) := ⟨_, _, hS0⟩
      (refine CW.seq ?_; refine CW.region ?_; apply LW.boxA; rfl; rfl; intro _; apply LW.boxA; rfl; rfl; intro _; apply LW.v0; rfl; rfl; apply ValP.assign; rfl; apply LW.nil; refine thenN ?_; refine CW.seq ?_; refine CW.seq ?_; refine CW.region ?_; apply LW.load; rfl; rfl; apply Known.at; apply FsAt.head; exact Rd.whole rfl; apply LW.v0; rfl; rfl; exact ValP.buildW0; apply LW.v0; rfl; rfl; apply ValP.eqWF; rfl; rfl; assumption; assumption; assumption; apply LW.nil; refine thenN ?_; apply CW.condF; rfl; (with_reducible rfl); refine CW.skip ?_; refine thenN ?_; refine CW.seq ?_; refine CW.region ?_; apply LW.load; rfl; rfl; apply Known.at; apply FsAt.tail; apply FsAt.head; exact Rd.whole rfl; apply LW.load; rfl; rfl; apply Known.at; apply FsAt.head; exact Rd.whole rfl; apply LW.callE; rfl; rfl; infer_instance; apply ArgsOk.cons; rfl; apply ArgsOk.cons; rfl; exact ArgsOk.nil; intro w _; exact hA w; apply LW.v0; rfl; rfl; apply ValP.move; rfl; apply LW.v0; rfl; rfl; apply ValP.extractN; rfl; rfl; apply LW.v0; rfl; rfl; apply ValP.extractN; rfl; rfl; apply LW.allocW; rfl; intro _; apply LW.store; rfl; rfl; apply SetAt.head; apply Wr.whole; rfl; rfl; rfl; apply LW.v0; rfl; rfl; apply ValP.assign; rfl; apply LW.nil; refine thenN ?_; refine CW.seq ?_; refine CW.region ?_; apply LW.load; rfl; rfl; apply Known.at; apply FsAt.head; exact Rd.whole rfl; apply LW.callE; rfl; rfl; infer_instance; apply ArgsOk.cons; rfl; exact ArgsOk.nil; intro w _; exact hS w; apply LW.v0; rfl; rfl; apply ValP.move; rfl; apply LW.v0; rfl; rfl; apply ValP.extractN; rfl; rfl; apply LW.v0; rfl; rfl; apply ValP.extractN; rfl; rfl; apply LW.v0; rfl; rfl; apply ValP.assign; rfl; apply LW.v0; rfl; rfl; apply ValP.assign; rfl; apply LW.nil; refine thenN ?_; refine CW.seq ?_; refine CW.seq ?_; refine CW.region ?_; apply LW.v0; rfl; rfl; apply ValP.move; rfl; apply LW.v0; rfl; rfl; apply ValP.move; rfl; apply LW.guardF'; rfl; rfl; simp only [Bool.not_true, Bool.not_false]; rfl; apply LW.guardF'; rfl; rfl; simp only [Bool.not_true, Bool.not_false]; rfl; apply LW.v0; rfl; rfl; apply ValP.pickT'; rfl; (with_reducible rfl); rfl; apply LW.nil; refine thenN ?_; apply CW.condT; rfl; (with_reducible rfl); refine CW.seq ?_; refine CW.region ?_; apply LW.v0; rfl; rfl; apply ValP.assign; rfl; apply LW.nil; refine thenN ?_; refine CW.ret ?_; refine thenR ?_)
      (apply finR; exact .inl rfl; rfl; rfl; rfl; apply ResL.cons; exact Res.tmp rfl; exact ResL.nil)
      rfl
theorem Lend_calls (left asked : Nat) (hl : left < 18446744073709551616) (ha : asked < M256) (w : World) : Calls Tryz.prog 87 #[.int .u64 (left : Int), wv asked] w (Ret w (.int .u64 ((min asked (left - left / 64) : Nat) : Int))) := by
  have hS0 := Small_calls asked ha
  refine enter (args := [_, _]) _ [] [] Tryz.func87 rfl Tryz.ntmps87 rfl (by simp) .nil ?_
  rcases Nat.lt_or_ge asked 18446744073709551616 with hs | hs
  · rw [if_pos hs, decide_eq_true hs] at hS0
    have hS := hS0
    (refine CW.seq ?_; refine CW.region ?_; apply LW.boxA; rfl; rfl; intro _; apply LW.v0; rfl; rfl; apply ValP.assign; rfl; apply LW.nil; refine thenN ?_; refine CW.seq ?_; refine CW.region ?_; apply LW.load; rfl; rfl; apply Known.at; apply FsAt.head; exact Rd.whole rfl; apply LW.callE; rfl; rfl; infer_instance; apply ArgsOk.cons; rfl; exact ArgsOk.nil; intro w _; exact hS w; apply LW.v0; rfl; rfl; apply ValP.move; rfl; apply LW.v0; rfl; rfl; apply ValP.extractN; rfl; rfl; apply LW.v0; rfl; rfl; apply ValP.extractN; rfl; rfl; apply LW.v0; rfl; rfl; apply ValP.assign; rfl; apply LW.v0; rfl; rfl; apply ValP.assign; rfl; apply LW.nil; refine thenN ?_; refine CW.seq ?_; refine CW.seq ?_; refine CW.region ?_; apply LW.v0; rfl; rfl; apply ValP.move; rfl; apply LW.v0; rfl; rfl; apply ValP.notT; rfl; (with_reducible rfl); apply LW.nil; refine thenN ?_; apply CW.condF; rfl; (with_reducible rfl); refine CW.skip ?_; refine thenN ?_; refine CW.seq ?_; refine CW.region ?_; apply LW.v0; rfl; rfl; apply ValP.move; rfl; apply LW.v0; rfl; rfl; apply ValP.move; rfl; apply LW.callE; rfl; rfl; infer_instance; apply ArgsOk.cons; rfl; exact ArgsOk.nil; intro w _; refine Part_calls _ ?_ w; omega; apply LW.v0; rfl; rfl; apply ValP.minZ; rfl; rfl; apply LW.v0; rfl; rfl; apply ValP.assign; rfl; apply LW.nil; refine thenN ?_; refine CW.ret ?_)
    (apply finR; exact .inl rfl; rfl; rfl; rfl; apply ResL.cons; exact Res.tmp rfl; exact ResL.nil)
    rfl
  · rw [if_neg (Nat.not_lt.2 hs), decide_eq_false (Nat.not_lt.2 hs)] at hS0
    have hS := hS0
    rw [Nat.min_eq_right (by omega)]
    (refine CW.seq ?_; refine CW.region ?_; apply LW.boxA; rfl; rfl; intro _; apply LW.v0; rfl; rfl; apply ValP.assign; rfl; apply LW.nil; refine thenN ?_; refine CW.seq ?_; refine CW.region ?_; apply LW.load; rfl; rfl; apply Known.at; apply FsAt.head; exact Rd.whole rfl; apply LW.callE; rfl; rfl; infer_instance; apply ArgsOk.cons; rfl; exact ArgsOk.nil; intro w _; exact hS w; apply LW.v0; rfl; rfl; apply ValP.move; rfl; apply LW.v0; rfl; rfl; apply ValP.extractN; rfl; rfl; apply LW.v0; rfl; rfl; apply ValP.extractN; rfl; rfl; apply LW.v0; rfl; rfl; apply ValP.assign; rfl; apply LW.v0; rfl; rfl; apply ValP.assign; rfl; apply LW.nil; refine thenN ?_; refine CW.seq ?_; refine CW.seq ?_; refine CW.region ?_; apply LW.v0; rfl; rfl; apply ValP.move; rfl; apply LW.v0; rfl; rfl; apply ValP.notF; rfl; (with_reducible rfl); apply LW.nil; refine thenN ?_; apply CW.condT; rfl; (with_reducible rfl); refine CW.seq ?_; refine CW.region ?_; apply LW.v0; rfl; rfl; apply ValP.move; rfl; apply LW.callE; rfl; rfl; infer_instance; apply ArgsOk.cons; rfl; exact ArgsOk.nil; intro w _; refine Part_calls _ ?_ w; omega; apply LW.v0; rfl; rfl; apply ValP.assign; rfl; apply LW.nil; refine thenN ?_; refine CW.ret ?_; refine thenR ?_)
    (apply finR; exact .inl rfl; rfl; rfl; rfl; apply ResL.cons; exact Res.tmp rfl; exact ResL.nil)
    rfl
end Go.Proofs.YtpgdnfgjbhdbpaaGreatDoor

/-
  What is lent; what is spent together; where bytes end: the laws.
  Conditions: none.
-/
namespace Go.Proofs.YtpgdnfgjbhdbpaaGreatDoor
open Go Go.RowKit SL
set_option maxRecDepth 8000
set_option maxHeartbeats 4000000
set_option linter.unusedSimpArgs false
set_option linter.unusedVariables false
attribute [local irreducible] SL.CW SL.LW SL.DW Calls SL.Ret SL.RetG SL.beginQ SL.roundQ SL.rangeQ SL.inQ SL.RW SL.AnyW SL.thenQ SL.thenC SL.thenW SL.blkQ SL.finQ SL.ValP SL.NewP SL.SetP SL.CallP SL.Rd SL.Wr SL.Known
/-! ### Where bytes end -/
end Go.Proofs.YtpgdnfgjbhdbpaaGreatDoor

/-
  The document's answers on bytes: contracts.
  Conditions: none.
-/
namespace Go.Proofs.YtpgdnfgjbhdbpaaGreatDoor
open Go Go.RowKit SL
set_option maxRecDepth 8000
set_option maxHeartbeats 4000000
set_option linter.unusedSimpArgs false
set_option linter.unusedVariables false
attribute [local irreducible] SL.CW SL.LW SL.DW Calls SL.Ret SL.RetG SL.beginQ SL.roundQ SL.rangeQ SL.inQ SL.RW SL.AnyW SL.thenQ SL.thenC SL.thenW SL.blkQ SL.finQ SL.ValP SL.NewP SL.SetP SL.CallP SL.Rd SL.Wr SL.Known
end Go.Proofs.YtpgdnfgjbhdbpaaGreatDoor

/-
  Sums, differences, and how words stand: the law.
  Conditions: none.
-/
namespace Go.Proofs.YtpgdnfgjbhdbpaaGreatDoor
open Go Go.RowKit SL
set_option maxRecDepth 8000
set_option maxHeartbeats 4000000
set_option linter.unusedSimpArgs false
set_option linter.unusedVariables false
attribute [local irreducible] SL.CW SL.LW SL.DW Calls SL.Ret SL.RetG SL.beginQ SL.roundQ SL.rangeQ SL.inQ SL.RW SL.AnyW SL.thenQ SL.thenC SL.thenW SL.blkQ SL.finQ SL.ValP SL.NewP SL.SetP SL.CallP SL.Rd SL.Wr SL.Known
theorem wcs_app (l r : List Nat) : wcs (l ++ r) = wcs l ++ wcs r := by simp [wcs]
end Go.Proofs.YtpgdnfgjbhdbpaaGreatDoor

/-
  The sum of many: the law.
  Conditions: none.
-/
namespace Go.Proofs.YtpgdnfgjbhdbpaaGreatDoor
open Go Go.RowKit SL
set_option maxRecDepth 8000
set_option maxHeartbeats 4000000
set_option linter.unusedSimpArgs false
set_option linter.unusedVariables false
attribute [local irreducible] SL.CW SL.LW SL.DW Calls SL.Ret SL.RetG SL.beginQ SL.roundQ SL.rangeQ SL.inQ SL.RW SL.AnyW SL.thenQ SL.thenC SL.thenW SL.blkQ SL.finQ SL.ValP SL.NewP SL.SetP SL.CallP SL.Rd SL.Wr SL.Known
theorem wcs_take (l : List Nat) (k : Nat) : (wcs l).take (k * 4) = wcs (l.take k) := by
  induction l generalizing k with
  | nil => simp [wcs]
  | cons a l ih =>
    cases k with
    | zero => simp [wcs]
    | succ k =>
      have := ih k
      simp only [wcs, List.flatMap_cons, List.take_succ_cons] at *
      rw [← this, show (k + 1) * 4 = (wc a).toList.length + k * 4 by show (k + 1) * 4 = 4 + k * 4; omega, List.take_length_add_append]
theorem wcs_cells (l : List Nat) : ∀ u ∈ wcs l, u.oneCell' = true := fun u hu => by
  obtain ⟨a, _, hb⟩ := List.mem_flatMap.1 hu
  simp only [wc, List.mem_cons, List.not_mem_nil, or_false] at hb
  rcases hb with rfl | rfl | rfl | rfl <;> rfl
structure RW1 where
  m : Nat
  seg : Fs
end Go.Proofs.YtpgdnfgjbhdbpaaGreatDoor

/-
  The document's answer in bits: products.
  Conditions: none.
-/
namespace Go.Proofs.YtpgdnfgjbhdbpaaGreatDoor
open Go Go.RowKit SL
set_option maxRecDepth 8000
set_option maxHeartbeats 4000000
set_option linter.unusedSimpArgs false
set_option linter.unusedVariables false
attribute [local irreducible] SL.CW SL.LW SL.DW Calls SL.Ret SL.RetG SL.beginQ SL.roundQ SL.rangeQ SL.inQ SL.RW SL.AnyW SL.thenQ SL.thenC SL.thenW SL.blkQ SL.finQ SL.ValP SL.NewP SL.SetP SL.CallP SL.Rd SL.Wr SL.Known
end Go.Proofs.YtpgdnfgjbhdbpaaGreatDoor

/-
  Products of words: contracts.
  Conditions: none.
-/
namespace Go.Proofs.YtpgdnfgjbhdbpaaGreatDoor
open Go Go.RowKit SL
set_option maxRecDepth 8000
set_option maxHeartbeats 4000000
set_option linter.unusedSimpArgs false
set_option linter.unusedVariables false
attribute [local irreducible] SL.CW SL.LW SL.DW Calls SL.Ret SL.RetG SL.beginQ SL.roundQ SL.rangeQ SL.inQ SL.RW SL.AnyW SL.thenQ SL.thenC SL.thenW SL.blkQ SL.finQ SL.ValP SL.NewP SL.SetP SL.CallP SL.Rd SL.Wr SL.Known
/-! ### Limbs -/
/-- A row of limbs' number. -/
def val : List Nat → Nat
  | [] => 0
  | x :: r => x + 18446744073709551616 * val r
structure MO where
  i : Nat
  L : List Nat
structure MI where
  k : Nat
  c : Nat
  L : List Nat
end Go.Proofs.YtpgdnfgjbhdbpaaGreatDoor

/-
  Sums and products hang on no order; what is divided, multiplied and added, is the word again: the laws.
  Conditions: none.
-/
namespace Go.Proofs.YtpgdnfgjbhdbpaaGreatDoor
open Go Go.RowKit SL
set_option maxRecDepth 8000
set_option maxHeartbeats 4000000
set_option linter.unusedSimpArgs false
set_option linter.unusedVariables false
attribute [local irreducible] SL.CW SL.LW SL.DW Calls SL.Ret SL.RetG SL.beginQ SL.roundQ SL.rangeQ SL.inQ SL.RW SL.AnyW SL.thenQ SL.thenC SL.thenW SL.blkQ SL.finQ SL.ValP SL.NewP SL.SetP SL.CallP SL.Rd SL.Wr SL.Known
end Go.Proofs.YtpgdnfgjbhdbpaaGreatDoor

/-
  The document's answer in bits: how many times a word is in another one; products: the law.
  Conditions: none.
-/
namespace Go.Proofs.YtpgdnfgjbhdbpaaGreatDoor
open Go Go.RowKit SL
set_option maxRecDepth 8000
set_option maxHeartbeats 4000000
set_option linter.unusedSimpArgs false
set_option linter.unusedVariables false
attribute [local irreducible] SL.CW SL.LW SL.DW Calls SL.Ret SL.RetG SL.beginQ SL.roundQ SL.rangeQ SL.inQ SL.RW SL.AnyW SL.thenQ SL.thenC SL.thenW SL.blkQ SL.finQ SL.ValP SL.NewP SL.SetP SL.CallP SL.Rd SL.Wr SL.Known
theorem SL.AtSeg.one {p : Nat × Obj} {r : Fs} : AtSeg (p :: r) [] [p] r := AtSeg.head (seg := [p])
end Go.Proofs.YtpgdnfgjbhdbpaaGreatDoor

/-
  Words moved up and down: contracts.
  Conditions: none.
-/
namespace Go.Proofs.YtpgdnfgjbhdbpaaGreatDoor
open Go Go.RowKit SL
set_option maxRecDepth 8000
set_option maxHeartbeats 4000000
set_option linter.unusedSimpArgs false
set_option linter.unusedVariables false
attribute [local irreducible] SL.CW SL.LW SL.DW Calls SL.Ret SL.RetG SL.beginQ SL.roundQ SL.rangeQ SL.inQ SL.RW SL.AnyW SL.thenQ SL.thenC SL.thenW SL.blkQ SL.finQ SL.ValP SL.NewP SL.SetP SL.CallP SL.Rd SL.Wr SL.Known
/-! ### Limbs of words that are moved -/
end Go.Proofs.YtpgdnfgjbhdbpaaGreatDoor

/-
  Words moved up and down: the walks.
  Conditions: none.
-/
namespace Go.Proofs.YtpgdnfgjbhdbpaaGreatDoor
open Go Go.RowKit SL
set_option maxRecDepth 8000
set_option maxHeartbeats 4000000
set_option linter.unusedSimpArgs false
set_option linter.unusedVariables false
attribute [local irreducible] SL.CW SL.LW SL.DW Calls SL.Ret SL.RetG SL.beginQ SL.roundQ SL.rangeQ SL.inQ SL.RW SL.AnyW SL.thenQ SL.thenC SL.thenW SL.blkQ SL.finQ SL.ValP SL.NewP SL.SetP SL.CallP SL.Rd SL.Wr SL.Known
end Go.Proofs.YtpgdnfgjbhdbpaaGreatDoor

/-
  Words moved down: the walk.
  Conditions: none.
-/
namespace Go.Proofs.YtpgdnfgjbhdbpaaGreatDoor
open Go Go.RowKit SL
set_option maxRecDepth 8000
set_option maxHeartbeats 4000000
set_option linter.unusedSimpArgs false
set_option linter.unusedVariables false
attribute [local irreducible] SL.CW SL.LW SL.DW Calls SL.Ret SL.RetG SL.beginQ SL.roundQ SL.rangeQ SL.inQ SL.RW SL.AnyW SL.thenQ SL.thenC SL.thenW SL.blkQ SL.finQ SL.ValP SL.NewP SL.SetP SL.CallP SL.Rd SL.Wr SL.Known
end Go.Proofs.YtpgdnfgjbhdbpaaGreatDoor

/-
  Words and their bytes: contracts.
  Conditions: none.
-/
namespace Go.Proofs.YtpgdnfgjbhdbpaaGreatDoor
open Go Go.RowKit SL
set_option maxRecDepth 8000
set_option maxHeartbeats 4000000
set_option linter.unusedSimpArgs false
set_option linter.unusedVariables false
attribute [local irreducible] SL.CW SL.LW SL.DW Calls SL.Ret SL.RetG SL.beginQ SL.roundQ SL.rangeQ SL.inQ SL.RW SL.AnyW SL.thenQ SL.thenC SL.thenW SL.blkQ SL.finQ SL.ValP SL.NewP SL.SetP SL.CallP SL.Rd SL.Wr SL.Known
/-! ### The same bytes? -/
/-! ### Bytes of a number, the highest one first -/
def beb (m a : Nat) : List UInt8 := (List.range m).map fun i => UInt8.ofNat (a / 256 ^ (m - 1 - i))
structure BX where
  m : Nat
  seg : Fs
/-! ### The word of bytes -/
def bev (l : List UInt8) : Nat := l.foldl (fun n u => 256 * n + u.toNat) 0
end Go.Proofs.YtpgdnfgjbhdbpaaGreatDoor

/-
  Bytes of words (for a seat that has the texts of words).
  Conditions: none.
-/
namespace Go.Proofs.YtpgdnfgjbhdbpaaGreatDoor.UK
open Go Go.RowKit SL
end Go.Proofs.YtpgdnfgjbhdbpaaGreatDoor.UK

/-
  Contracts of the pack: parts, which may be, which are the same.
  Conditions: none.
-/
namespace Go.Proofs.YtpgdnfgjbhdbpaaGreatDoor.UK
open Go Go.RowKit SL
set_option maxRecDepth 8000
set_option maxHeartbeats 4000000
set_option linter.unusedSimpArgs false
set_option linter.unusedVariables false
attribute [local irreducible] SL.CW SL.LW SL.DW Calls SL.Ret SL.RetG SL.beginQ SL.roundQ SL.rangeQ SL.inQ SL.RW SL.AnyW SL.thenQ SL.thenC SL.thenW SL.blkQ SL.finQ SL.ValP SL.NewP SL.SetP SL.CallP SL.Rd SL.Wr SL.Known
/-- A part: its mark, its word, the value of its bytes, and the bytes. -/
structure PartV where
  lg : Bool
  wd : Nat
  dv : Value
  db : List UInt8
def psc (p : PartV) : List Value := .bool p.lg :: ((wc p.wd).toList ++ [p.dv])
section rd
variable {P : Program} {T E : TypeId} {fr : Nat × Nat} {p : PartV}
end rd
/-- What a part's value says. -/
structure PartOk (p : PartV) : Prop where
  small : p.wd < M256
  form : ∃ q c, p.dv = .slice q p.db.length c
/-- Parts that may be read. -/
structure PartsAt (w : World) (v : Value) (l : List PartV) : Prop where
  row : RowAt w 6 v l.length (l.flatMap psc)
  small : ∀ p ∈ l, p.wd < M256
  data : ∀ p ∈ l, RowAt w 1 p.dv p.db.length (ucs p.db)
theorem PartsAt.st {w0 w : World} {v : Value} {l : List PartV} {fs : Fs} (h : PartsAt w0 v l) (hs : St w0 [] fs w) : PartsAt w v l :=
  ⟨h.row.st hs, h.small, fun p hp => (h.data p hp).st hs⟩
theorem PartsAt.ok {w : World} {v : Value} {l : List PartV} (h : PartsAt w v l) : ∀ p ∈ l, PartOk p := fun p hp => by
  obtain ⟨q, c, e, _, _⟩ := (h.data p hp).form
  exact ⟨h.small p hp, q, c, e⟩
theorem PartsAt.one {w : World} {v : Value} {l : List PartV} (h : PartsAt w v l) : ∀ p ∈ l, p.dv.oneCell' = true := fun p hp => by
  obtain ⟨q, c, e, _, _⟩ := (h.data p hp).form
  rw [e]; rfl
end Go.Proofs.YtpgdnfgjbhdbpaaGreatDoor.UK

/-
  Contracts of the pack: numbers, copies, which parts are the same.
  Conditions: none.
-/
namespace Go.Proofs.YtpgdnfgjbhdbpaaGreatDoor.UK
open Go Go.RowKit SL
set_option maxRecDepth 8000
set_option maxHeartbeats 4000000
set_option linter.unusedSimpArgs false
set_option linter.unusedVariables false
attribute [local irreducible] SL.CW SL.LW SL.DW Calls SL.Ret SL.RetG SL.beginQ SL.roundQ SL.rangeQ SL.inQ SL.RW SL.AnyW SL.thenQ SL.thenC SL.thenW SL.blkQ SL.finQ SL.ValP SL.NewP SL.SetP SL.CallP SL.Rd SL.Wr SL.Known
/-- A number of bytes, filled up to whole heads. -/
def whl (n : Nat) : Nat := (n + 31) / 32 * 32
end Go.Proofs.YtpgdnfgjbhdbpaaGreatDoor.UK

/-
  Contracts of the pack: which parts are the same.
  Conditions: none.
-/
namespace Go.Proofs.YtpgdnfgjbhdbpaaGreatDoor.UK
open Go Go.RowKit SL
set_option maxRecDepth 8000
set_option maxHeartbeats 4000000
set_option linter.unusedSimpArgs false
set_option linter.unusedVariables false
attribute [local irreducible] SL.CW SL.LW SL.DW Calls SL.Ret SL.RetG SL.beginQ SL.roundQ SL.rangeQ SL.inQ SL.RW SL.AnyW SL.thenQ SL.thenC SL.thenW SL.blkQ SL.finQ SL.ValP SL.NewP SL.SetP SL.CallP SL.Rd SL.Wr SL.Known
end Go.Proofs.YtpgdnfgjbhdbpaaGreatDoor.UK

/-
  Contracts of the pack: the bytes of parts.
  Conditions: none.
-/
namespace Go.Proofs.YtpgdnfgjbhdbpaaGreatDoor.UK
open Go Go.RowKit SL
set_option maxRecDepth 8000
set_option maxHeartbeats 4000000
set_option linter.unusedSimpArgs false
set_option linter.unusedVariables false
attribute [local irreducible] SL.CW SL.LW SL.DW Calls SL.Ret SL.RetG SL.beginQ SL.roundQ SL.rangeQ SL.inQ SL.RW SL.AnyW SL.thenQ SL.thenC SL.thenW SL.blkQ SL.finQ SL.ValP SL.NewP SL.SetP SL.CallP SL.Rd SL.Wr SL.Known
/-! ### The layout -/
def p00 : PartV := ⟨false, 0, .slice none 0 0, []⟩
/-- The part at a place. -/
def pt (l : List PartV) (k : Nat) : PartV := l.getD k p00
/-- A Long part's tail. -/
def tlB (b : List UInt8) : List UInt8 := beb 32 b.length ++ (b ++ List.replicate (whl b.length - b.length) 0)
/-- The tails of the first k parts. -/
def behK (l : List PartV) : Nat → List UInt8
  | 0 => []
  | k + 1 => behK l k ++ (if (pt l k).lg then tlB (pt l k).db else [])
/-- Where the tail of the k-th part begins. -/
def atF (l : List PartV) (k : Nat) : Nat := 32 * l.length + (behK l k).length
/-- The places of the first k parts' tails. -/
def plcK (l : List PartV) : Nat → List Nat
  | 0 => []
  | k + 1 => plcK l k ++ (if (pt l k).lg then [atF l k] else [])
/-- The heads of the first k parts. -/
def hdK (l : List PartV) : Nat → List UInt8
  | 0 => []
  | k + 1 => hdK l k ++ (if (pt l k).lg then beb 32 (atF l k) else beb 32 (pt l k).wd)
attribute [local irreducible] behK plcK hdK
/-! ### Lay -/
structure LX where
  k : Nat
  ov : Value
  segO : Fs
  q : Option Addr
  c : Nat
structure TLX where
  m : Nat
  bv : Value
  segB : Fs
  pv : Value
  segP : Fs
end Go.Proofs.YtpgdnfgjbhdbpaaGreatDoor.UK

/-
  Contracts of the pack: how many bytes parts have.
  Conditions: none.
-/
namespace Go.Proofs.YtpgdnfgjbhdbpaaGreatDoor.UK
open Go Go.RowKit SL
set_option maxRecDepth 8000
set_option maxHeartbeats 4000000
set_option linter.unusedSimpArgs false
set_option linter.unusedVariables false
attribute [local irreducible] SL.CW SL.LW SL.DW Calls SL.Ret SL.RetG SL.beginQ SL.roundQ SL.rangeQ SL.inQ SL.RW SL.AnyW SL.thenQ SL.thenC SL.thenW SL.blkQ SL.finQ SL.ValP SL.NewP SL.SetP SL.CallP SL.Rd SL.Wr SL.Known
end Go.Proofs.YtpgdnfgjbhdbpaaGreatDoor.UK

/-
  Contracts of the pack: what is left of bytes.
  Conditions: none.
-/
namespace Go.Proofs.YtpgdnfgjbhdbpaaGreatDoor.UK
open Go Go.RowKit SL
set_option maxRecDepth 8000
set_option maxHeartbeats 4000000
set_option linter.unusedSimpArgs false
set_option linter.unusedVariables false
attribute [local irreducible] SL.CW SL.LW SL.DW Calls SL.Ret SL.RetG SL.beginQ SL.roundQ SL.rangeQ SL.inQ SL.RW SL.AnyW SL.thenQ SL.thenC SL.thenW SL.blkQ SL.finQ SL.ValP SL.NewP SL.SetP SL.CallP SL.Rd SL.Wr SL.Known
/-! ### Taking bytes -/
def tkBad (bad : Bool) (l : List UInt8) (n : Nat) : Bool := bad || decide (l.length < n)
def tkB (bad : Bool) (l : List UInt8) (n : Nat) : List UInt8 := if tkBad bad l n then [] else l.take n
def tkL (bad : Bool) (l : List UInt8) (n : Nat) : List UInt8 := if tkBad bad l n then l else l.drop n
section lw
variable {w0 : World} {S : List Nat} {N : Nat} {ds : List Deferred} {r : Option Nat} {ops : Array Oper} {Q : Post} {rest : List Oper} {e : Env} {fs : Fs} {d : Nat} {t : TypeId} {pos : String} {af : Array Edge}
end lw
end Go.Proofs.YtpgdnfgjbhdbpaaGreatDoor.UK

/-
  Contracts of the pack: parts read.
  Conditions: none.
-/
namespace Go.Proofs.YtpgdnfgjbhdbpaaGreatDoor.UK
open Go Go.RowKit SL
set_option maxRecDepth 8000
set_option maxHeartbeats 4000000
set_option linter.unusedSimpArgs false
set_option linter.unusedVariables false
attribute [local irreducible] SL.CW SL.LW SL.DW Calls SL.Ret SL.RetG SL.beginQ SL.roundQ SL.rangeQ SL.inQ SL.RW SL.AnyW SL.thenQ SL.thenC SL.thenW SL.blkQ SL.finQ SL.ValP SL.NewP SL.SetP SL.CallP SL.Rd SL.Wr SL.Known
/-- What is left. -/
structure RS where
  hl : List UInt8
  hb : Bool
  tl : List UInt8
  tb : Bool
  pl : Nat
def hd32 (s : RS) : Nat := bev (tkB s.hb s.hl 32)
def lgN (s : RS) : Nat := bev (tkB s.tb s.tl 32)
def lgT1 (s : RS) : List UInt8 := tkL s.tb s.tl 32
def lgB1 (s : RS) : Bool := tkBad s.tb s.tl 32
def lgT2 (s : RS) : List UInt8 := tkL (lgB1 s) (lgT1 s) (lgN s)
def lgB2 (s : RS) : Bool := tkBad (lgB1 s) (lgT1 s) (lgN s)
def lgP (s : RS) : List UInt8 := tkB (lgB2 s) (lgT2 s) (whl (lgN s) - lgN s)
def lgT3 (s : RS) : List UInt8 := tkL (lgB2 s) (lgT2 s) (whl (lgN s) - lgN s)
def lgB3 (s : RS) : Bool := tkBad (lgB2 s) (lgT2 s) (whl (lgN s) - lgN s)
def nz (l : List UInt8) : Bool := l.any (fun u => decide (u.toNat ≠ 0))
def lgOk (s : RS) : Bool := decide (hd32 s = s.pl ∧ lgN s ≤ 200)
/-- What is left behind a Long part. -/
def lgS (s : RS) : RS := if lgOk s then ⟨tkL s.hb s.hl 32, tkBad s.hb s.hl 32 || nz (lgP s), lgT3 s, lgB3 s, s.pl + (32 + whl (lgN s))⟩ else ⟨tkL s.hb s.hl 32, true, lgT1 s, lgB1 s, s.pl⟩
/-- What is left behind a word. -/
def shS (s : RS) : RS := ⟨tkL s.hb s.hl 32, tkBad s.hb s.hl 32, s.tl, s.tb, s.pl⟩
end Go.Proofs.YtpgdnfgjbhdbpaaGreatDoor.UK

/-
  Contracts of the pack: parts of bytes.
  Conditions: none.
-/
namespace Go.Proofs.YtpgdnfgjbhdbpaaGreatDoor.UK
open Go Go.RowKit SL
set_option maxRecDepth 8000
set_option maxHeartbeats 4000000
set_option linter.unusedSimpArgs false
set_option linter.unusedVariables false
attribute [local irreducible] SL.CW SL.LW SL.DW Calls SL.Ret SL.RetG SL.beginQ SL.roundQ SL.rangeQ SL.inQ SL.RW SL.AnyW SL.thenQ SL.thenC SL.thenW SL.blkQ SL.finQ SL.ValP SL.NewP SL.SetP SL.CallP SL.Rd SL.Wr SL.Known
/-- What is left behind the first k parts. -/
def rsK (b : List UInt8) (fm : List Bool) : Nat → RS
  | 0 => ⟨b.take (32 * fm.length), false, b.drop (32 * fm.length), false, 32 * fm.length⟩
  | k + 1 => if fm.getD k false then lgS (rsK b fm k) else shS (rsK b fm k)
attribute [local irreducible] rsK
/-- The parts' bytes lie where these facts say. -/
def DatAt (gs : Fs) (ps : List PartV) : Prop := ∀ w : World, (∀ q ∈ gs, w.heap[q.1]? = some q.2) → ∀ p ∈ ps, RowAt w 1 p.dv p.db.length (ucs p.db)
theorem DatAt.nil {gs : Fs} : DatAt gs [] := fun _ _ _ h => by cases h
theorem DatAt.app {gs hs : Fs} {ps qs : List PartV} (h : DatAt gs ps) (k : DatAt hs qs) : DatAt (hs ++ gs) (ps ++ qs) := fun w hw p hp => by
  rcases List.mem_append.1 hp with hp | hp
  · exact h w (fun q hq => hw q (List.mem_append_right _ hq)) p hp
  · exact k w (fun q hq => hw q (List.mem_append_left _ hq)) p hp
structure GX where
  k : Nat
  ov : Value
  segO : Fs
  ps : List PartV
  gsD : Fs
  hv : Value
  tv : Value
end Go.Proofs.YtpgdnfgjbhdbpaaGreatDoor.UK

/-
  Contracts of the pack's laws: does the layer do anything?
  Conditions: none.
-/
namespace Go.Proofs.YtpgdnfgjbhdbpaaGreatDoor.UK
open Go Go.RowKit SL
set_option maxRecDepth 8000
set_option maxHeartbeats 4000000
set_option linter.unusedSimpArgs false
set_option linter.unusedVariables false
attribute [local irreducible] SL.CW SL.LW SL.DW Calls SL.Ret SL.RetG SL.beginQ SL.roundQ SL.rangeQ SL.inQ SL.RW SL.AnyW SL.thenQ SL.thenC SL.thenW SL.blkQ SL.finQ SL.ValP SL.NewP SL.SetP SL.CallP SL.Rd SL.Wr SL.Known
theorem LW.st {C : Cu} {ops : Array Oper} {Q : Post} {l : List Oper} {e : Env} {fs : Fs} (h : ∀ w, St C.w0 C.S fs w → LW C ops Q l e fs) : LW C ops Q l e fs := by
  unfold SL.LW at h ⊢
  exact fun a w hs => h w hs.st a w hs
theorem st_us {w0 w : World} {S : List Nat} {fs gs : Fs} (hs : St w0 S fs w) (h : List.Sublist gs fs) : ∀ q ∈ gs, w.heap[q.1]? = some q.2 := fun q hq => (hs.own q (h.subset hq)).2
end Go.Proofs.YtpgdnfgjbhdbpaaGreatDoor.UK

/-
  Contracts of the pack's references: which bytes, and which parts, are the same.
  Conditions: none.
-/
namespace Go.Proofs.YtpgdnfgjbhdbpaaGreatDoor.UK
open Go Go.RowKit SL
set_option maxRecDepth 8000
set_option maxHeartbeats 4000000
set_option linter.unusedSimpArgs false
set_option linter.unusedVariables false
attribute [local irreducible] SL.CW SL.LW SL.DW Calls SL.Ret SL.RetG SL.beginQ SL.roundQ SL.rangeQ SL.inQ SL.RW SL.AnyW SL.thenQ SL.thenC SL.thenW SL.blkQ SL.finQ SL.ValP SL.NewP SL.SetP SL.CallP SL.Rd SL.Wr SL.Known
end Go.Proofs.YtpgdnfgjbhdbpaaGreatDoor.UK

/-
  Contracts of the pack's laws: forms, copies; which parts may be.
  Conditions: none.
-/
namespace Go.Proofs.YtpgdnfgjbhdbpaaGreatDoor.UK
open Go Go.RowKit SL
set_option maxRecDepth 8000
set_option maxHeartbeats 4000000
set_option linter.unusedSimpArgs false
set_option linter.unusedVariables false
attribute [local irreducible] SL.CW SL.LW SL.DW Calls SL.Ret SL.RetG SL.beginQ SL.roundQ SL.rangeQ SL.inQ SL.RW SL.AnyW SL.thenQ SL.thenC SL.thenW SL.blkQ SL.finQ SL.ValP SL.NewP SL.SetP SL.CallP SL.Rd SL.Wr SL.Known
/-! ### form -/
structure FX where
  k : Nat
  ov : Value
  seg : Fs
/-! ### few -/
end Go.Proofs.YtpgdnfgjbhdbpaaGreatDoor.UK

/-
  Contracts of the pack's references: words compared; which parts may be; tails; the bytes of parts.
  Conditions: none.
-/
namespace Go.Proofs.YtpgdnfgjbhdbpaaGreatDoor.UK
open Go Go.RowKit SL
set_option maxRecDepth 8000
set_option maxHeartbeats 4000000
set_option linter.unusedSimpArgs false
set_option linter.unusedVariables false
attribute [local irreducible] SL.CW SL.LW SL.DW Calls SL.Ret SL.RetG SL.beginQ SL.roundQ SL.rangeQ SL.inQ SL.RW SL.AnyW SL.thenQ SL.thenC SL.thenW SL.blkQ SL.finQ SL.ValP SL.NewP SL.SetP SL.CallP SL.Rd SL.Wr SL.Known
/-! ### Which parts may be -/
end Go.Proofs.YtpgdnfgjbhdbpaaGreatDoor.UK

/-
  Contracts of the pack's references: tails, the bytes of parts.
  Conditions: none.
-/
namespace Go.Proofs.YtpgdnfgjbhdbpaaGreatDoor.UK
open Go Go.RowKit SL
set_option maxRecDepth 8000
set_option maxHeartbeats 4000000
set_option linter.unusedSimpArgs false
set_option linter.unusedVariables false
attribute [local irreducible] SL.CW SL.LW SL.DW Calls SL.Ret SL.RetG SL.beginQ SL.roundQ SL.rangeQ SL.inQ SL.RW SL.AnyW SL.thenQ SL.thenC SL.thenW SL.blkQ SL.finQ SL.ValP SL.NewP SL.SetP SL.CallP SL.Rd SL.Wr SL.Known
structure HX where
  k : Nat
  hv : Value
  segH : Fs
  tv : Value
  segT : Fs
end Go.Proofs.YtpgdnfgjbhdbpaaGreatDoor.UK

/-
  The pack in plain words: parts and their bytes lead back to one another.
  Conditions: none.
-/
namespace Go.Proofs.YtpgdnfgjbhdbpaaGreatDoor.UK
open Go Go.RowKit SL
/-! ### Bytes of a word -/
/-! ### Only what the parts say matters -/
/-! ### What is laid is read -/
/-! ### What is read is laid -/
end Go.Proofs.YtpgdnfgjbhdbpaaGreatDoor.UK

/-
  Operations of accounts: what their values say; addresses read; the greatest of numbers.
  Conditions: none.
-/
namespace Go.Proofs.YtpgdnfgjbhdbpaaGreatDoor.UK
open Go Go.RowKit SL
set_option maxRecDepth 8000
set_option maxHeartbeats 4000000
set_option linter.unusedSimpArgs false
set_option linter.unusedVariables false
attribute [local irreducible] SL.CW SL.LW SL.DW Calls SL.Ret SL.RetG SL.beginQ SL.roundQ SL.rangeQ SL.inQ SL.RW SL.AnyW SL.thenQ SL.thenC SL.thenW SL.blkQ SL.finQ SL.ValP SL.NewP SL.SetP SL.CallP SL.Rd SL.Wr SL.Known
/-- An operation: its numbers, the values of its bytes, and the bytes. -/
structure OpV where
  sd : Nat
  no : Nat
  iv : Value
  ib : List UInt8
  cv : Value
  cb : List UInt8
  vg : Nat
  cg : Nat
  pg : Nat
  mf : Nat
  mp : Nat
  py : Nat
  pv : Nat
  pp : Nat
  dv : Value
  db : List UInt8
  gv : Value
  gb : List UInt8
def opc (u : OpV) : List Value := .int .u64 (u.sd : Int) :: ((wc u.no).toList ++ [u.iv, u.cv, .int .u64 (u.vg : Int), .int .u64 (u.cg : Int), .int .u64 (u.pg : Int), .int .u64 (u.mf : Int), .int .u64 (u.mp : Int), .int .u64 (u.py : Int), .int .u64 (u.pv : Int), .int .u64 (u.pp : Int), u.dv, u.gv])
section rd
variable {P : Program} {T E : TypeId} {fr : Nat × Nat} {u : OpV}
end rd
/-- An operation's numbers are numbers, and its bytes may be read. -/
structure OpNum (u : OpV) : Prop where
  sd : u.sd < 18446744073709551616
  no : u.no < M256
  vg : u.vg < 18446744073709551616
  cg : u.cg < 18446744073709551616
  pg : u.pg < 18446744073709551616
  mf : u.mf < 18446744073709551616
  mp : u.mp < 18446744073709551616
  py : u.py < 18446744073709551616
  pv : u.pv < 18446744073709551616
  pp : u.pp < 18446744073709551616
structure OpAt (w : World) (u : OpV) : Prop where
  num : OpNum u
  i : RowAt w 1 u.iv u.ib.length (ucs u.ib)
  c : RowAt w 1 u.cv u.cb.length (ucs u.cb)
  d : RowAt w 1 u.dv u.db.length (ucs u.db)
  g : RowAt w 1 u.gv u.gb.length (ucs u.gb)
theorem OpAt.st {w0 w : World} {u : OpV} {fs : Fs} (h : OpAt w0 u) (hs : St w0 [] fs w) : OpAt w u := ⟨h.num, h.i.st hs, h.c.st hs, h.d.st hs, h.g.st hs⟩
theorem OpAt.bel {w0 w : World} {u : OpV} (h : OpAt w0 u) (hb : Bel w0.heap.size [] w0 w) : OpAt w u := ⟨h.num, h.i.bel hb, h.c.bel hb, h.d.bel hb, h.g.bel hb⟩
/-! ### Addresses -/
/-- The address that bytes begin with. -/
def adr (l : List UInt8) : Nat := bev (l.take 8)
/-! ### The greatest of numbers -/
end Go.Proofs.YtpgdnfgjbhdbpaaGreatDoor.UK

/-
  Operations of accounts: which may be.
  Conditions: none.
-/
namespace Go.Proofs.YtpgdnfgjbhdbpaaGreatDoor.UK
open Go Go.RowKit SL
set_option maxRecDepth 8000
set_option maxHeartbeats 4000000
set_option linter.unusedSimpArgs false
set_option linter.unusedVariables false
attribute [local irreducible] SL.CW SL.LW SL.DW Calls SL.Ret SL.RetG SL.beginQ SL.roundQ SL.rangeQ SL.inQ SL.RW SL.AnyW SL.thenQ SL.thenC SL.thenW SL.blkQ SL.finQ SL.ValP SL.NewP SL.SetP SL.CallP SL.Rd SL.Wr SL.Known
/-- May an operation be? -/
def okU (u : OpV) : Prop := (16 ≤ u.sd ∧ u.mp ≤ u.mf) ∧ (u.vg ≤ 20000 ∧ u.cg ≤ 20000 ∧ u.pg ≤ 20000 ∧ u.pv ≤ 20000 ∧ u.pp ≤ 20000) ∧ (u.ib.length ≤ 200 ∧ u.cb.length ≤ 200 ∧ u.db.length ≤ 200 ∧ u.gb.length ≤ 200) ∧
  (u.py = 0 → u.pv = 0 ∧ u.pp = 0 ∧ u.db.length = 0) ∧ (u.ib.length = 0 ∨ 8 ≤ u.ib.length ∧ adr u.ib ≠ 0)
instance (u : OpV) : Decidable (okU u) := by unfold okU; infer_instance
end Go.Proofs.YtpgdnfgjbhdbpaaGreatDoor.UK

/-
  Operations of accounts: which may be, by the document.
  Conditions: none.
-/
namespace Go.Proofs.YtpgdnfgjbhdbpaaGreatDoor.UK
open Go Go.RowKit SL
set_option maxRecDepth 8000
set_option maxHeartbeats 4000000
set_option linter.unusedSimpArgs false
set_option linter.unusedVariables false
attribute [local irreducible] SL.CW SL.LW SL.DW Calls SL.Ret SL.RetG SL.beginQ SL.roundQ SL.rangeQ SL.inQ SL.RW SL.AnyW SL.thenQ SL.thenC SL.thenW SL.blkQ SL.finQ SL.ValP SL.NewP SL.SetP SL.CallP SL.Rd SL.Wr SL.Known
end Go.Proofs.YtpgdnfgjbhdbpaaGreatDoor.UK

/-
  A machine: its block; gas spent.
  Conditions: none.
-/
namespace Go.Proofs.YtpgdnfgjbhdbpaaGreatDoor
open Go Go.RowKit SL
set_option maxRecDepth 8000
set_option maxHeartbeats 4000000
set_option linter.unusedSimpArgs false
set_option linter.unusedVariables false
attribute [local irreducible] SL.CW SL.LW SL.DW Calls SL.Ret SL.RetG SL.beginQ SL.roundQ SL.rangeQ SL.inQ SL.RW SL.AnyW SL.thenQ SL.thenC SL.thenW SL.blkQ SL.finQ SL.ValP SL.NewP SL.SetP SL.CallP SL.Rd SL.Wr SL.Known
/-- What a frame's cells say. -/
structure FrV where
  code : Value
  pc : Int
  stk : Value
  mem : Value
  gas : Nat
  self : Nat
  frm : Nat
  val : Nat
  inp : Value
  back : Value
  stat : Bool
def frc (f : FrV) : List Value := f.code :: .int .i64 f.pc :: f.stk :: f.mem :: .int .u64 (f.gas : Int) :: .int .u64 (f.self : Int) :: .int .u64 (f.frm : Int) :: ((wc f.val).toList ++ [f.inp, f.back, .bool f.stat])
/-- What a machine's cells say. -/
structure MaV where
  fr : FrV
  e0 : Nat
  e1 : Nat
  e2 : Nat
  e3 : Nat
  took : Value
  kind : Int
  op : Nat
  words : Value
  data : Value
def mcl (m : MaV) : List Value := frc m.fr ++ [.int .u64 (m.e0 : Int), .int .u64 (m.e1 : Int), .int .u64 (m.e2 : Int), .int .u64 (m.e3 : Int), m.took, .int .i64 m.kind, .int .u8 (m.op : Int), m.words, m.data]
def mca (m : MaV) : Array Value := (mcl m).toArray
abbrev maO (m : MaV) : Obj := .cells (mca m) 155 (0, 0)
def MaV.setGas (m : MaV) (g : Nat) : MaV := { m with fr := { m.fr with gas := g } }
def MaV.setSc (m : MaV) (s k : Value) : MaV := { m with fr := { m.fr with stk := s, mem := k } }
section rd
variable {P : Program} {T E : TypeId} {fr : Nat × Nat} {m : MaV}
theorem ma_rd4 [AgI P T false] : Rd P T (.cells (mca m) E fr) 4 (.int .u64 (m.fr.gas : Int)) := Rd.one rfl
theorem ma_rd3 [AgI P T false] : Rd P T (.cells (mca m) E fr) 3 m.fr.mem := Rd.one rfl
theorem ma_rd2 [AgI P T true] {z : Value} [InfoI P T 2 z] : Rd P T (.cells (mca m) E fr) 2 (.agg #[m.fr.stk, m.fr.mem]) := Rd.mid (cs := [m.fr.stk, m.fr.mem]) rfl rfl
theorem ma_wr4 {z : Value} {g : Nat} [InfoI P T 1 z] : Wr P T (.cells (mca m) E (0, 0)) 4 (.int .u64 (g : Int)) (.cells (mca (m.setGas g)) E (0, 0)) := Wr.cells (n := 1) (z := z) rfl rfl (by show 4 + 1 ≤ 23; omega) rfl
theorem ma_wr2 {z s k : Value} [InfoI P T 2 z] (hs : s.oneCell' = true) (hk : k.oneCell' = true) (hsc : s.cells = #[s]) (hkc : k.cells = #[k]) : Wr P T (.cells (mca m) E (0, 0)) 2 (.agg #[s, k]) (.cells (mca (m.setSc s k)) E (0, 0)) :=
  Wr.cells (n := 2) (z := z) rfl (by show (s.oneCell' && (k.oneCell' && true)) = true; rw [hs, hk]; rfl) (by show 2 + 2 ≤ 23; omega) rfl
end rd
attribute [local irreducible] SL.inP
def MaK (b : Nat) (m : MaV) (r : Option MaV) (rest : Fs) : Out := fun x fs' => match r with
  | some m' => x = .returned (.tuple #[]) ∧ fs' = (b, maO m') :: rest
  | none => x = .panicked failC ∧ fs' = (b, maO m) :: rest
def spendM (m : MaV) (l : List Nat) : Option MaV := if l.sum ≤ m.fr.gas then some (m.setGas (m.fr.gas - l.sum)) else none
theorem spend_calls (w0 : World) (S : List Nat) (b : Nat) (m : MaV) (l : List Nat) (hg : m.fr.gas < 18446744073709551616) (v : Value) (rest : Fs) (w : World) (hs : St w0 S ((b, maO m) :: rest) w) (hv : ∀ w', St w0 S ((b, maO m) :: rest) w' → RowAt w' 1 v l.length (ncs l)) :
    Calls Tryz.prog 77 #[.pointer (some ⟨b, 0, none⟩), v] w (fun x w' => ∃ fs', MaK b m (spendM m l) rest x fs' ∧ St w0 S fs' w') := by
  by_cases hle : l.sum ≤ m.fr.gas
  · have hSp : ∀ w', St w0 S ((b, maO m) :: rest) w' → Calls Tryz.prog 116 #[.int .u64 (m.fr.gas : Int), v] w' (Ret w' (.tuple #[.int .u64 ((m.fr.gas - l.sum : Nat) : Int), .bool true])) := fun w' hw => by
      have h := Spend_calls m.fr.gas l hg v w' (hv w' hw)
      rwa [spendV, if_pos hle] at h
    refine calls_inlineP (args := [_, _]) Tryz.func77 rfl Tryz.ntmps77 rfl ?_ hs
    (refine sRz ?_; refine vMz ?_; refine vNz ?_; refine vFz ?_; refine vFz ?_; refine ldz rfl .head ma_rd4 ?_; refine vMz ?_; apply LW.callE; rfl; rfl; infer_instance; exact .cons rfl (.cons rfl .nil); intro w _; exact hSp w (by assumption); refine vMz ?_; refine vEz ?_; refine vEz ?_; refine vAz ?_; refine vAz ?_; refine nSz ?_; refine vMz ?_; apply LW.callE; rfl; rfl; infer_instance; exact .cons rfl .nil; intro w _; exact need_true w; refine nNz ?_; refine CW.region ?_; refine vMz ?_; refine vMz ?_; refine vNz ?_; refine vFz ?_; refine vFz ?_; apply LW.store; rfl; rfl; apply SetAt.head; apply ma_wr4 (z := .int .u64 0); apply LW.nil)
    exact inPI (.inr rfl) .nil rfl .nil rfl (by unfold spendM; rw [if_pos hle]; exact ⟨rfl, rfl⟩)
  · have hSp : ∀ w', St w0 S ((b, maO m) :: rest) w' → Calls Tryz.prog 116 #[.int .u64 (m.fr.gas : Int), v] w' (Ret w' (.tuple #[.int .u64 0, .bool false])) := fun w' hw => by
      have h := Spend_calls m.fr.gas l hg v w' (hv w' hw)
      rwa [spendV, if_neg hle] at h
    refine calls_inlineP (args := [_, _]) Tryz.func77 rfl Tryz.ntmps77 rfl ?_ hs
    (refine sRz ?_; refine vMz ?_; refine vNz ?_; refine vFz ?_; refine vFz ?_; refine ldz rfl .head ma_rd4 ?_; refine vMz ?_; apply LW.callE; rfl; rfl; infer_instance; exact .cons rfl (.cons rfl .nil); intro w _; exact hSp w (by assumption); refine vMz ?_; refine vEz ?_; refine vEz ?_; refine vAz ?_; refine vAz ?_; refine nSz ?_; refine vMz ?_)
    refine LW.callP (K := NeedK ((b, maO m) :: rest)) rfl rfl inferInstance (by (exact .cons rfl .nil)) rfl (fun fs h => by cases h.1) (fun w' hst => need_false w0 S _ w' hst) ?_ ?_
    · rintro v fs' ⟨h, _⟩
      cases h
    · rintro ch fs' ⟨h, rfl⟩
      cases h
      refine thenP ?_
      exact inPP .nil (by unfold spendM; rw [if_neg hle]; exact ⟨rfl, rfl⟩)
end Go.Proofs.YtpgdnfgjbhdbpaaGreatDoor

/-
  Contracts of the library: strings that are built, bytes compared, digits.
  Conditions: none.
-/
namespace Go.Proofs.YtpgdnfgjbhdbpaaGreatDoor.SK
open Go Go.RowKit SL
set_option maxRecDepth 8000
set_option maxHeartbeats 4000000
set_option linter.unusedSimpArgs false
set_option linter.unusedVariables false
attribute [local irreducible] SL.CW SL.LW SL.DW Calls SL.Ret SL.RetG SL.beginQ SL.roundQ SL.rangeQ SL.inQ SL.RW SL.AnyW SL.thenQ SL.thenC SL.thenW SL.blkQ SL.finQ SL.ValP SL.NewP SL.SetP SL.CallP SL.Rd SL.Wr SL.Known
def bev (l : List UInt8) : Nat := l.foldl (fun n u => 256 * n + u.toNat) 0
def hexu (u : UInt8) : Option Nat := if 48 ≤ u.toNat ∧ u.toNat ≤ 57 then some (u.toNat - 48) else if 97 ≤ u.toNat ∧ u.toNat ≤ 102 then some (u.toNat - 87) else none
def hexi (c : Nat) : Int := match hexu (UInt8.ofNat c) with | some d => (d : Int) | none => -1
end Go.Proofs.YtpgdnfgjbhdbpaaGreatDoor.SK

/-
  Contracts of the sponge: digests in digits.
  Conditions: none.
-/
namespace Go.Proofs.YtpgdnfgjbhdbpaaGreatDoor.SK
open Go Go.RowKit SL
set_option maxRecDepth 8000
set_option maxHeartbeats 4000000
set_option linter.unusedSimpArgs false
set_option linter.unusedVariables false
attribute [local irreducible] SL.CW SL.LW SL.DW Calls SL.Ret SL.RetG SL.beginQ SL.roundQ SL.rangeQ SL.inQ SL.RW SL.AnyW SL.thenQ SL.thenC SL.thenW SL.blkQ SL.finQ SL.ValP SL.NewP SL.SetP SL.CallP SL.Rd SL.Wr SL.Known
structure TX where
  m : Nat
  p : Value
  v : Value
  seg : Fs
/-! ### The document's -/
end Go.Proofs.YtpgdnfgjbhdbpaaGreatDoor.SK

/-
  Contracts of the sponge: how digests stand.
  Conditions: none.
-/
namespace Go.Proofs.YtpgdnfgjbhdbpaaGreatDoor.SK
open Go Go.RowKit SL
set_option maxRecDepth 8000
set_option maxHeartbeats 4000000
set_option linter.unusedSimpArgs false
set_option linter.unusedVariables false
attribute [local irreducible] SL.CW SL.LW SL.DW Calls SL.Ret SL.RetG SL.beginQ SL.roundQ SL.rangeQ SL.inQ SL.RW SL.AnyW SL.thenQ SL.thenC SL.thenW SL.blkQ SL.finQ SL.ValP SL.NewP SL.SetP SL.CallP SL.Rd SL.Wr SL.Known
/-! ### The document's -/
end Go.Proofs.YtpgdnfgjbhdbpaaGreatDoor.SK

/-
  Contracts of the sponge: places, turns.
  Conditions: none.
-/
namespace Go.Proofs.YtpgdnfgjbhdbpaaGreatDoor.SK
open Go Go.RowKit SL
set_option maxRecDepth 8000
set_option maxHeartbeats 4000000
set_option linter.unusedSimpArgs false
set_option linter.unusedVariables false
attribute [local irreducible] SL.CW SL.LW SL.DW Calls SL.Ret SL.RetG SL.beginQ SL.roundQ SL.rangeQ SL.inQ SL.RW SL.AnyW SL.thenQ SL.thenC SL.thenW SL.blkQ SL.finQ SL.ValP SL.NewP SL.SetP SL.CallP SL.Rd SL.Wr SL.Known
def rotl (x n : Nat) : Nat := (x * 2 ^ n % 18446744073709551616) ||| (x / 2 ^ (64 - n))
/-! ### Rows -/
def rowV (L : List Nat) (x y : Nat) : Nat := L.getD (5 * (y % 5) + x % 5) 0 ^^^ ((18446744073709551615 - L.getD (5 * (y % 5) + (x + 1) % 5) 0) &&& L.getD (5 * (y % 5) + (x + 2) % 5) 0)
def rowsF (L : List Nat) : Nat → List Nat
  | 0 => List.replicate 25 0
  | k + 1 => (rowsF L k).set (5 * (k / 5 % 5) + k % 5 % 5) (rowV L (k % 5) (k / 5))
end Go.Proofs.YtpgdnfgjbhdbpaaGreatDoor.SK

/-
  Contracts of the sponge: lanes mixed.
  Conditions: none.
-/
namespace Go.Proofs.YtpgdnfgjbhdbpaaGreatDoor.SK
open Go Go.RowKit SL
set_option maxRecDepth 8000
set_option maxHeartbeats 4000000
set_option linter.unusedSimpArgs false
set_option linter.unusedVariables false
attribute [local irreducible] SL.CW SL.LW SL.DW Calls SL.Ret SL.RetG SL.beginQ SL.roundQ SL.rangeQ SL.inQ SL.RW SL.AnyW SL.thenQ SL.thenC SL.thenW SL.blkQ SL.finQ SL.ValP SL.NewP SL.SetP SL.CallP SL.Rd SL.Wr SL.Known
/-! ### The tables that are laid -/
def turnL : List Nat := [0, 1, 62, 28, 27, 36, 44, 6, 55, 20, 3, 10, 43, 25, 39, 41, 45, 15, 21, 8, 18, 2, 61, 56, 14]
def numL : List Nat := [1, 32898, 9223372036854808714, 9223372039002292224, 32907, 2147483649, 9223372039002292353, 9223372036854808585, 138, 136, 2147516425, 2147483658, 2147516555, 9223372036854775947, 9223372036854808713, 9223372036854808579, 9223372036854808578, 9223372036854775936, 32778, 9223372039002259466, 9223372039002292353, 9223372036854808704, 2147483649, 9223372039002292232]
def ica (L : List Nat) : Array Value := (ics L).toArray
def NumAt (w : World) : Prop := ∃ E fr, w.heap[1]? = some (.cells (nca numL) E fr)
def TurnAt (w : World) : Prop := ∃ E fr, w.heap[2]? = some (.cells (ica turnL) E fr)
theorem NumAt.st {w w' : World} {fs : Fs} (h : NumAt w) (hs : St w [] fs w') : NumAt w' := by
  obtain ⟨E, fr, h⟩ := h
  exact ⟨E, fr, by rw [hs.bel.block _ (Array.getElem?_eq_some_iff.1 h).1 (by simp)]; exact h⟩
theorem TurnAt.st {w w' : World} {fs : Fs} (h : TurnAt w) (hs : St w [] fs w') : TurnAt w' := by
  obtain ⟨E, fr, h⟩ := h
  exact ⟨E, fr, by rw [hs.bel.block _ (Array.getElem?_eq_some_iff.1 h).1 (by simp)]; exact h⟩
/-! ### Mix -/
def cF (L : List Nat) : Nat → List Nat
  | 0 => List.replicate 5 0
  | k + 1 => (cF L k).set (k % 5) ((cF L k).getD (k % 5) 0 ^^^ L.getD (5 * (k / 5 % 5) + k % 5 % 5) 0)
def mixV (L C : List Nat) (x y : Nat) : Nat := rotl (L.getD (5 * (y % 5) + x % 5) 0 ^^^ (C.getD ((x + 5 - 1) % 5) 0 ^^^ rotl (C.getD ((x + 1) % 5) 0) 1)) (turnL.getD (5 * (y % 5) + x % 5) 0)
def mixF (L C : List Nat) : Nat → List Nat
  | 0 => List.replicate 25 0
  | k + 1 => (mixF L C k).set (5 * ((2 * (k % 5) + 3 * (k / 5)) % 5) + k / 5 % 5) (mixV L C (k % 5) (k / 5))
def mixL (L : List Nat) : List Nat := mixF L (cF L 25) 25
attribute [local irreducible] turnL cF mixF
end Go.Proofs.YtpgdnfgjbhdbpaaGreatDoor.SK

/-
  Contracts of the sponge: rounds.
  Conditions: none.
-/
namespace Go.Proofs.YtpgdnfgjbhdbpaaGreatDoor.SK
open Go Go.RowKit SL
set_option maxRecDepth 8000
set_option maxHeartbeats 4000000
set_option linter.unusedSimpArgs false
set_option linter.unusedVariables false
attribute [local irreducible] SL.CW SL.LW SL.DW Calls SL.Ret SL.RetG SL.beginQ SL.roundQ SL.rangeQ SL.inQ SL.RW SL.AnyW SL.thenQ SL.thenC SL.thenW SL.blkQ SL.finQ SL.ValP SL.NewP SL.SetP SL.CallP SL.Rd SL.Wr SL.Known
attribute [local irreducible] turnL cF mixF mixL
def rowsL (L : List Nat) : List Nat := rowsF L 25
def roundL (L : List Nat) (n : Nat) : List Nat := (rowsL (mixL L)).set 0 ((rowsL (mixL L)).getD 0 0 ^^^ n)
def permF (L : List Nat) : Nat → List Nat
  | 0 => L
  | k + 1 => roundL (permF L k) (numL.getD k 0)
def permL (L : List Nat) : List Nat := permF L 24
attribute [local irreducible] rowsL
attribute [local irreducible] roundL
attribute [local irreducible] numL
end Go.Proofs.YtpgdnfgjbhdbpaaGreatDoor.SK

/-
  Contracts of the sponge: padded bytes.
  Conditions: none.
-/
namespace Go.Proofs.YtpgdnfgjbhdbpaaGreatDoor.SK
open Go Go.RowKit SL
set_option maxRecDepth 8000
set_option maxHeartbeats 4000000
set_option linter.unusedSimpArgs false
set_option linter.unusedVariables false
attribute [local irreducible] SL.CW SL.LW SL.DW Calls SL.Ret SL.RetG SL.beginQ SL.roundQ SL.rangeQ SL.inQ SL.RW SL.AnyW SL.thenQ SL.thenC SL.thenW SL.blkQ SL.finQ SL.ValP SL.NewP SL.SetP SL.CallP SL.Rd SL.Wr SL.Known
/-- how many bytes the padded ones are. -/
def padN (n : Nat) : Nat := (n / 136 + 1) * 136
def pad1 (b : List UInt8) : List UInt8 := (b ++ List.replicate (padN b.length - b.length) 0).set b.length 1
def padB (b : List UInt8) : List UInt8 := (pad1 b).set (padN b.length - 1) ((pad1 b).getD (padN b.length - 1) 0 ||| 128)
end Go.Proofs.YtpgdnfgjbhdbpaaGreatDoor.SK

/-
  Contracts of the sponge: digests.
  Conditions: none.
-/
namespace Go.Proofs.YtpgdnfgjbhdbpaaGreatDoor.SK
open Go Go.RowKit SL
set_option maxRecDepth 8000
set_option maxHeartbeats 4000000
set_option linter.unusedSimpArgs false
set_option linter.unusedVariables false
attribute [local irreducible] SL.CW SL.LW SL.DW Calls SL.Ret SL.RetG SL.beginQ SL.roundQ SL.rangeQ SL.inQ SL.RW SL.AnyW SL.thenQ SL.thenC SL.thenW SL.blkQ SL.finQ SL.ValP SL.NewP SL.SetP SL.CallP SL.Rd SL.Wr SL.Known
def soakF (L : List Nat) (p : List UInt8) (o : Nat) : Nat → List Nat
  | 0 => L
  | k + 1 => (soakF L p o k).set (k / 8) ((soakF L p o k).getD (k / 8) 0 ^^^ ((p.getD (o + k) 0).toNat * 2 ^ (8 * (k % 8)) % 18446744073709551616))
def sumF (p : List UInt8) : Nat → List Nat
  | 0 => List.replicate 25 0
  | c + 1 => permL (soakF (sumF p c) p (136 * c) 136)
def idF (L : List Nat) : Nat → List UInt8
  | 0 => List.replicate 32 0
  | k + 1 => (idF L k).set k (UInt8.ofNat (L.getD (k / 8) 0 / 2 ^ (8 * (k % 8)) % 256))
theorem ValP.cut3o {P : Program} {e : Env} {T : TypeId} {x : Operand} {g o o' m n : Nat} {ik il im : IntKind} {E i j k c : Nat} {z : Value} {lo hi mx : Operand} (hU : UnI P T (.slice E)) (hI : InfoI P E 1 z) (hx : e.ev x = some (.slice (some ⟨g, o, none⟩) n c)) (hl : e.ev lo = some (.int il (i : Int))) (hh : e.ev hi = some (.int ik (j : Int))) (hm : e.ev mx = some (.int im (k : Int))) (h1 : j = i + m) (h2 : k = i + m) (h3 : i + m ≤ c) (h4 : 0 < m) (h5 : o' = o + i) :
    ValP P e [] (.slice T x (some lo) (some hi) (some mx)) (.slice (some ⟨g, o', none⟩) m m) := by
  subst h1 h2 h5
  have h := ValP.cut3 (P := P) (e := e) hU hI hx hl hh hm (by omega) (by omega) h3 (by omega)
  have e1 : i + m - i = m := by omega
  have e2 : (Option.map (fun x => Addr.add x (i * 1)) (some ⟨g, o, none⟩)) = some ⟨g, o + i, none⟩ := by simp [Addr.add]
  rw [e1] at h
  rw [← e2]
  exact h
attribute [local irreducible] permL padB soakF sumF idF
end Go.Proofs.YtpgdnfgjbhdbpaaGreatDoor.SK

/-
  Contracts of the sponge: digests out of digits.
  Conditions: none.
-/
namespace Go.Proofs.YtpgdnfgjbhdbpaaGreatDoor.SK
open Go Go.RowKit SL
set_option maxRecDepth 8000
set_option maxHeartbeats 4000000
set_option linter.unusedSimpArgs false
set_option linter.unusedVariables false
attribute [local irreducible] SL.CW SL.LW SL.DW Calls SL.Ret SL.RetG SL.beginQ SL.roundQ SL.rangeQ SL.inQ SL.RW SL.AnyW SL.thenQ SL.thenC SL.thenW SL.blkQ SL.finQ SL.ValP SL.NewP SL.SetP SL.CallP SL.Rd SL.Wr SL.Known
/-! ### What digits say -/
/-- the digest of the digits ahead: none, if one of them is no digit. -/
def parF (s : List UInt8) : Nat → List UInt8
  | 0 => List.replicate 32 0
  | k + 1 => (parF s k).set (k / 2) (UInt8.ofNat ((16 * ((parF s k).getD (k / 2) 0).toNat % 256 + (hexi (s.getD k 0).toNat).toNat % 256) % 256))
attribute [local irreducible] parF
/-! ### The document's -/
end Go.Proofs.YtpgdnfgjbhdbpaaGreatDoor.SK

/-
  The sponge: what the law's first line reckons.
  Conditions: none.
-/
namespace Go.Proofs.YtpgdnfgjbhdbpaaGreatDoor.SK
open Go Go.RowKit SL
set_option maxRecDepth 100000
end Go.Proofs.YtpgdnfgjbhdbpaaGreatDoor.SK

/-
  The sponge: the law's first line.
  Conditions: none.
-/
namespace Go.Proofs.YtpgdnfgjbhdbpaaGreatDoor.SK
open Go Go.RowKit SL
set_option maxRecDepth 8000
set_option maxHeartbeats 4000000
set_option linter.unusedSimpArgs false
set_option linter.unusedVariables false
attribute [local irreducible] SL.CW SL.LW SL.DW Calls SL.Ret SL.RetG SL.beginQ SL.roundQ SL.rangeQ SL.inQ SL.RW SL.AnyW SL.thenQ SL.thenC SL.thenW SL.blkQ SL.finQ SL.ValP SL.NewP SL.SetP SL.CallP SL.Rd SL.Wr SL.Known
theorem TurnAt.bel {w w' : World} (h : TurnAt w) (hb : Bel w.heap.size [] w w') : TurnAt w' := by
  obtain ⟨E, fr, h⟩ := h
  exact ⟨E, fr, by rw [hb.block _ (Array.getElem?_eq_some_iff.1 h).1 (by simp)]; exact h⟩
theorem NumAt.bel {w w' : World} (h : NumAt w) (hb : Bel w.heap.size [] w w') : NumAt w' := by
  obtain ⟨E, fr, h⟩ := h
  exact ⟨E, fr, by rw [hb.block _ (Array.getElem?_eq_some_iff.1 h).1 (by simp)]; exact h⟩
end Go.Proofs.YtpgdnfgjbhdbpaaGreatDoor.SK

/-
  The sponge: what the laws do with bytes.
  Conditions: none.
-/
namespace Go.Proofs.YtpgdnfgjbhdbpaaGreatDoor.SK
open Go Go.RowKit SL
set_option maxRecDepth 8000
set_option maxHeartbeats 4000000
set_option linter.unusedSimpArgs false
set_option linter.unusedVariables false
attribute [local irreducible] SL.CW SL.LW SL.DW Calls SL.Ret SL.RetG SL.beginQ SL.roundQ SL.rangeQ SL.inQ SL.RW SL.AnyW SL.thenQ SL.thenC SL.thenW SL.blkQ SL.finQ SL.ValP SL.NewP SL.SetP SL.CallP SL.Rd SL.Wr SL.Known
theorem Clone_calls (l : List UInt8) (v : Value) (w : World) (hv : RowAt w 1 v l.length (ucs l)) (hl : l.length ≤ 100000) : Calls Tryz.prog 12 #[v] w (RetG w [] (fun v' gs => IsRow 5 1 v' l.length (ucs l) gs)) := by
  obtain ⟨p, c, rfl, _, _⟩ := hv.form
  cases p with
  | none =>
    have h0 : l.length = 0 := by
      rcases Nat.eq_zero_or_pos l.length with h | h
      · exact h
      · obtain ⟨_, _, _, _, _, _, he, _, _⟩ := hv.pos h
        cases he
    have hn : l = [] := List.length_eq_zero_iff.1 h0
    subst hn
    refine enter (args := [_]) _ [] [] Tryz.func12 rfl Tryz.ntmps12 rfl (by simp) .nil ?_
    (refine CW.seq ?_; refine CW.region ?_; apply LW.v0; rfl; rfl; apply ValP.assign; rfl; apply LW.nil; refine thenN ?_; refine CW.seq ?_; refine CW.seq ?_; refine CW.region ?_; apply LW.v0; rfl; rfl; apply ValP.move; rfl; apply LW.v0; rfl; rfl; apply ValP.sliNilT; rfl; rfl; apply LW.nil; refine thenN ?_; apply CW.condT; rfl; (with_reducible rfl); refine CW.seq ?_; refine CW.region ?_; apply LW.v0; rfl; rfl; apply ValP.assign; rfl; apply LW.nil; refine thenN ?_; refine CW.ret ?_; refine thenR ?_)
    exact fin [] (.inl rfl) rfl rfl (by (apply ResL.cons; exact Res.tmp rfl; exact ResL.nil)) (List.Sublist.refl _) .nil
  | some a =>
    refine enter (args := [_]) _ [] [] Tryz.func12 rfl Tryz.ntmps12 rfl (by simp) .nil ?_
    (refine CW.seq ?_; refine CW.region ?_; apply LW.v0; rfl; rfl; apply ValP.assign; rfl; apply LW.nil; refine thenN ?_; refine CW.seq ?_; refine CW.seq ?_; refine CW.region ?_; apply LW.v0; rfl; rfl; apply ValP.move; rfl; apply LW.v0; rfl; rfl; apply ValP.sliNilF; rfl; rfl; apply LW.nil; refine thenN ?_; apply CW.condF; rfl; (with_reducible rfl); refine CW.skip ?_; refine thenN ?_; refine CW.seq ?_; refine CW.region ?_)
    refine LW.lay0 rfl inferInstance inferInstance fun v0 seg hrow => ?_
    (apply LW.v0; rfl; rfl; apply ValP.move; rfl)
    (apply LW.appendAny; (case hrow => assumption); rfl; rfl; infer_instance; infer_instance; infer_instance; rfl; rfl; rfl; exact AtSeg.head)
    · exact fun w hs => hv.st hs
    · exact ucs_cells l
    · simp only [maxLen]; omega
    · omega
    intro v1 seg1 hrow1
    refine ⟨_, (by (exact AtSeg.head)), ?_⟩
    simp only [List.nil_append, Nat.zero_add, List.append_nil] at hrow1 ⊢
    (apply LW.v0; rfl; rfl; apply ValP.assign; rfl; apply LW.nil; refine thenN ?_; refine CW.ret ?_)
    refine fin (vs := [v1]) seg1 (.inl rfl) rfl rfl (by (apply ResL.cons; exact Res.tmp rfl; exact ResL.nil)) ?_ hrow1
    (exact List.Sublist.refl _)
/-! ### Bytes compared -/
def litF (l : List UInt8) : Nat → Nat
  | 0 => 0
  | k + 1 => litF l k ||| ((l.getD k 0).toNat * 2 ^ (8 * k) % 18446744073709551616)
attribute [local irreducible] litF
end Go.Proofs.YtpgdnfgjbhdbpaaGreatDoor.SK

/-
  A scratch: copies, pushes.
  Conditions: none.
-/
namespace Go.Proofs.YtpgdnfgjbhdbpaaGreatDoor
open Go Go.RowKit SL
set_option maxRecDepth 8000
set_option maxHeartbeats 4000000
set_option linter.unusedSimpArgs false
set_option linter.unusedVariables false
attribute [local irreducible] SL.CW SL.LW SL.DW Calls SL.Ret SL.RetG SL.beginQ SL.roundQ SL.rangeQ SL.inQ SL.RW SL.AnyW SL.thenQ SL.thenC SL.thenW SL.blkQ SL.finQ SL.ValP SL.NewP SL.SetP SL.CallP SL.Rd SL.Wr SL.Known
theorem CloneW_calls (l : List Nat) (v : Value) (w : World) (hv : RowAt w 4 v l.length (wcs l)) (hl : l.length ≤ 100000) : Calls Tryz.prog 38 #[v] w (RetG w [] (fun v' gs => IsRow 29 4 v' l.length (wcs l) gs)) := by
  obtain ⟨p, c, rfl, _, _⟩ := hv.form
  cases p with
  | none =>
    have h0 : l.length = 0 := by
      rcases Nat.eq_zero_or_pos l.length with h | h
      · exact h
      · obtain ⟨_, _, _, _, _, _, he, _, _⟩ := hv.pos h
        cases he
    have hn : l = [] := List.length_eq_zero_iff.1 h0
    subst hn
    refine enter (args := [_]) _ [] [] Tryz.func38 rfl Tryz.ntmps38 rfl (by simp) .nil ?_
    (refine sRz ?_; refine vAz ?_; refine nNz ?_; refine CW.seq ?_; refine sRz ?_; refine vMz ?_; apply LW.v0; rfl; rfl; apply ValP.sliNilT; rfl; rfl; refine nNz ?_; refine cTz ?_; refine sRz ?_; refine vAz ?_; refine nNz ?_; refine CW.ret ?_; refine thenR ?_)
    exact fin [] (.inl rfl) rfl rfl (by (apply ResL.cons; exact Res.tmp rfl; exact ResL.nil)) (List.Sublist.refl _) .nil
  | some a =>
    refine enter (args := [_]) _ [] [] Tryz.func38 rfl Tryz.ntmps38 rfl (by simp) .nil ?_
    (refine sRz ?_; refine vAz ?_; refine nNz ?_; refine CW.seq ?_; refine sRz ?_; refine vMz ?_; apply LW.v0; rfl; rfl; apply ValP.sliNilF; rfl; rfl; refine nNz ?_; refine cFz ?_; refine CW.skip ?_; refine thenN ?_; refine sRz ?_)
    refine LW.lay0 rfl inferInstance inferInstance fun v0 seg hrow => ?_
    (refine vMz ?_)
    (apply LW.appendAny; (case hrow => assumption); rfl; rfl; infer_instance; infer_instance; infer_instance; rfl; rfl; rfl; exact AtSeg.head)
    · exact fun w hs => hv.st hs
    · exact wcs_cells l
    · simp only [maxLen]; omega
    · omega
    intro v1 seg1 hrow1
    refine ⟨_, (by (exact AtSeg.head)), ?_⟩
    simp only [List.nil_append, Nat.zero_add, List.append_nil] at hrow1 ⊢
    (refine vAz ?_; refine nNz ?_; refine CW.ret ?_)
    refine fin (vs := [v1]) seg1 (.inl rfl) rfl rfl (by (apply ResL.cons; exact Res.tmp rfl; exact ResL.nil)) ?_ hrow1
    (exact List.Sublist.refl _)
def wM (l : List Nat) (v : Value) (gs : Fs) : Prop := IsRow 29 4 v l.length (wcs l) gs
def bM (l : List UInt8) (v : Value) (gs : Fs) : Prop := IsRow 5 1 v l.length (ucs l) gs
/-- A scratch of its own. -/
def ScO (ws : List Nat) (ms : List UInt8) (v : Value) (gs : Fs) : Prop := ∃ s m g1 g2, v = .agg #[s, m] ∧ gs = g2 ++ g1 ∧ wM ws s g1 ∧ bM ms m g2
theorem copied_calls (ws : List Nat) (ms : List UInt8) (s m : Value) (w : World) (hs : RowAt w 4 s ws.length (wcs ws)) (hm : RowAt w 1 m ms.length (ucs ms)) (hl : ws.length ≤ 100000) (hl2 : ms.length ≤ 100000) :
    Calls Tryz.prog 140 #[.agg #[s, m]] w (RetG w [] (ScO ws ms)) := by
  obtain ⟨p, c, rfl, _, _⟩ := hs.form
  obtain ⟨p2, c2, rfl, _, _⟩ := hm.form
  refine enter (args := [_]) _ [] [] Tryz.func140 rfl Tryz.ntmps140 rfl (by simp) .nil ?_
  (refine sRz ?_; apply LW.boxA; rfl; rfl; intro _; apply LW.allocA; rfl; intro _; refine nNz ?_; refine CW.seq ?_)
  rename_i b1 b2
  apply CW.pre
  (refine AnyW.anyM [(2, wM ws), (5, bM ms)] 5 mixed (by decide +kernel) ?_)
  ((try simp only [tsOf_cons, tsOf_nil, tsOf_app]); refine dvz (.fieldAddr rfl rfl) ?_; apply DW.loadO; rfl; rfl; rfl; exact WantT.none; rfl; apply TRead.tail; apply TRead.head; exact ancB_nil; exact sc_rd0)
  (apply DW.manyV; rfl; rfl; rfl; exact WantT.none; rfl; infer_instance; exact .cons rfl .nil; apply RdV.ext; assumption; rfl; exact RdV.nil; intro w _ _)
  exact CloneW_calls _ _ w (hs.bel (by assumption)) hl
  intro v1 g1 h1
  ((try simp only [tsOf_cons, tsOf_nil, tsOf_app]); refine dvz (.fieldAddr rfl rfl) ?_; apply DW.loadO; rfl; rfl; rfl; exact WantT.none; rfl; apply TRead.app; apply TRead.tail; apply TRead.head; exact ancB_nil; exact sc_rd1; apply DW.nil; simp only [fsOf_cons, fsOf_nil, fsOf_app, fsOf_tsOf, fsOf_new, fsOf_tag])
  (apply LW.callR; rfl; rfl; infer_instance; exact .cons rfl .nil; intro w hs)
  exact SK.Clone_calls _ _ w (hm.st hs) hl2
  intro v2 g2 h2
  have h1' := h1
  have h2' := h2
  unfold wM at h1'
  unfold bM at h2'
  obtain ⟨q1, k1, rfl⟩ := h1'.form
  obtain ⟨q2, k2, rfl⟩ := h2'.form
  (apply LW.v0; rfl; rfl; apply ValP.buildT; infer_instance; infer_instance; apply PartsOk.cons; rfl; apply PartsOk.cons; rfl; exact PartsOk.nil; rfl; simp only [fillP, wrCells, Value.cells, List.getElem?_cons_zero, List.getElem?_cons_succ, List.toList_toArray, List.setIfInBounds_toArray, List.set_cons_succ, List.set_cons_zero, Nat.reduceAdd, Nat.zero_add]; rfl; refine LW.store rfl rfl (.app (.app .head)) (.whole rfl rfl rfl) ?_; refine nNz ?_; refine CW.ret ?_)
  refine fin (vs := [.agg #[.slice q1 ws.length k1, .slice q2 ms.length k2]]) (g2 ++ g1) (.inl rfl) rfl rfl (by (apply ResL.cons; apply Res.cell; rfl; apply Known.at; apply FsAt.app; apply FsAt.app; apply FsAt.head; exact Rd.whole rfl; exact ResL.nil)) ?_ ⟨_, _, g1, g2, rfl, rfl, h1, h2⟩
  exact List.Sublist.append_left (List.sublist_append_left _ _) _
end Go.Proofs.YtpgdnfgjbhdbpaaGreatDoor

/-
  A scratch: words pushed.
  Conditions: none.
-/
namespace Go.Proofs.YtpgdnfgjbhdbpaaGreatDoor
open Go Go.RowKit SL
set_option maxRecDepth 8000
set_option maxHeartbeats 4000000
set_option linter.unusedSimpArgs false
set_option linter.unusedVariables false
attribute [local irreducible] SL.CW SL.LW SL.DW Calls SL.Ret SL.RetG SL.beginQ SL.roundQ SL.rangeQ SL.inQ SL.RW SL.AnyW SL.thenQ SL.thenC SL.thenW SL.blkQ SL.finQ SL.ValP SL.NewP SL.SetP SL.CallP SL.Rd SL.Wr SL.Known
section wr
variable {P : Program} {T E : TypeId} {s m z : Value} {p : Option Addr} {n c : Nat}
theorem sc_wr0 [InfoI P T 1 z] : Wr P T (.cells #[s, m] E (0, 0)) 0 (.slice p n c) (.cells #[.slice p n c, m] E (0, 0)) := Wr.cells (n := 1) (z := z) rfl rfl (by show 0 + 1 ≤ 2; omega) rfl
theorem sc_wr1 [InfoI P T 1 z] : Wr P T (.cells #[s, m] E (0, 0)) 1 (.slice p n c) (.cells #[s, .slice p n c] E (0, 0)) := Wr.cells (n := 1) (z := z) rfl rfl (by show 1 + 1 ≤ 2; omega) rfl
end wr
theorem push_full (ws : List Nat) (ms : List UInt8) (l : List Nat) (s m v : Value) (w : World) (hs : RowAt w 4 s ws.length (wcs ws)) (hm : RowAt w 1 m ms.length (ucs ms)) (hv : RowAt w 4 v l.length (wcs l)) (hok : okSc ws.length ms.length) (hll : l.length ≤ 100000) (hf : 64 < ws.length + l.length) :
    Calls Tryz.prog 118 #[.agg #[s, m], v] w (Ret w (.tuple #[.agg #[.slice none 0 0, .slice none 0 0], .int .i64 6])) := by
  obtain ⟨p, c, rfl, _, hc⟩ := hs.form
  obtain ⟨p2, c2, rfl, _, hc2⟩ := hm.form
  obtain ⟨p3, c3, rfl, _, _⟩ := hv.form
  have hC : ∀ w, Calls Tryz.prog 66 #[.agg #[.slice p ws.length c, .slice p2 ms.length c2]] w (Ret w (.int .i64 0)) := fun w => by
    have h := scCheck_calls p p2 ws.length c ms.length c2 (by omega) (by omega) w
    rwa [if_pos hok] at h
  have hok2 := hok
  unfold okSc at hok2
  obtain ⟨hn1, hk1, hk2⟩ := hok2
  refine enter (args := [_, _]) _ [] [] Tryz.func118 rfl Tryz.ntmps118 rfl (by simp) .nil ?_
  (refine sRz ?_; apply LW.boxA; rfl; rfl; intro _; apply LW.allocA; rfl; intro _; refine vAz ?_; refine nNz ?_; refine CW.seq ?_; refine sRz ?_; refine ldz rfl (.tail .head) (Rd.whole rfl) ?_; apply LW.callE; rfl; rfl; infer_instance; exact .cons rfl .nil; intro w _; exact hC w; refine vAz ?_; refine nSz ?_; refine vMz ?_; refine lvz (.neF rfl rfl (by omega)) ?_; refine nNz ?_; refine cFz ?_; refine CW.skip ?_; refine thenN ?_; refine CW.seq ?_; refine sRz ?_; refine vFz ?_; refine ldz rfl (.tail .head) sc_rd0 ?_; refine lvz (.lenR rfl inferInstance rfl) ?_; refine vMz ?_; refine lvz (.lenR rfl inferInstance rfl) ?_; refine lvz (.addZ rfl rfl (by omega)) ?_; refine lvz (.gtrT rfl rfl (by omega)) ?_; refine nNz ?_; refine cTz ?_; refine sRz ?_; apply LW.v0; rfl; rfl; apply ValP.buildT; infer_instance; infer_instance; exact PartsOk.nil; rfl; simp only [fillP, wrCells, Value.cells, List.getElem?_cons_zero, List.getElem?_cons_succ, List.toList_toArray, List.setIfInBounds_toArray, List.set_cons_succ, List.set_cons_zero, Nat.reduceAdd, Nat.zero_add]; rfl; refine LW.store rfl rfl .head (.whole rfl rfl rfl) ?_; refine vAz ?_; refine nNz ?_; refine CW.ret ?_; refine thenR ?_)
  (apply finR; exact .inl rfl; rfl; rfl; rfl; apply ResL.cons; apply Res.cell; rfl; apply Known.at; apply FsAt.head; exact Rd.whole rfl; apply ResL.cons; exact Res.tmp rfl; exact ResL.nil)
  rfl
theorem push_ok (ws : List Nat) (ms : List UInt8) (l : List Nat) (s m v : Value) (w : World) (hs : RowAt w 4 s ws.length (wcs ws)) (hm : RowAt w 1 m ms.length (ucs ms)) (hv : RowAt w 4 v l.length (wcs l)) (hok : okSc ws.length ms.length) (hll : l.length ≤ 100000) (hf : ws.length + l.length ≤ 64) :
    Calls Tryz.prog 118 #[.agg #[s, m], v] w (RetG w [] (fun r gs => ∃ o, r = .tuple #[o, .int .i64 0] ∧ ScO (ws ++ l) ms o gs)) := by
  have hs0 := hs
  have hm0 := hm
  obtain ⟨p, c, rfl, _, hc⟩ := hs.form
  obtain ⟨p2, c2, rfl, _, hc2⟩ := hm.form
  obtain ⟨p3, c3, rfl, _, _⟩ := id hv.form
  have hC : ∀ w, Calls Tryz.prog 66 #[.agg #[.slice p ws.length c, .slice p2 ms.length c2]] w (Ret w (.int .i64 0)) := fun w => by
    have h := scCheck_calls p p2 ws.length c ms.length c2 (by omega) (by omega) w
    rwa [if_pos hok] at h
  have hok2 := hok
  unfold okSc at hok2
  obtain ⟨hn1, hk1, hk2⟩ := hok2
  refine enter (args := [_, _]) _ [] [] Tryz.func118 rfl Tryz.ntmps118 rfl (by simp) .nil ?_
  (refine sRz ?_; apply LW.boxA; rfl; rfl; intro _; apply LW.allocA; rfl; intro _; refine vAz ?_; refine nNz ?_; refine CW.seq ?_; refine sRz ?_; refine ldz rfl (.tail .head) (Rd.whole rfl) ?_; apply LW.callE; rfl; rfl; infer_instance; exact .cons rfl .nil; intro w _; exact hC w; refine vAz ?_; refine nSz ?_; refine vMz ?_; refine lvz (.neF rfl rfl (by omega)) ?_; refine nNz ?_; refine cFz ?_; refine CW.skip ?_; refine thenN ?_; refine CW.seq ?_; refine sRz ?_; refine vFz ?_; refine ldz rfl (.tail .head) sc_rd0 ?_; refine lvz (.lenR rfl inferInstance rfl) ?_; refine vMz ?_; refine lvz (.lenR rfl inferInstance rfl) ?_; refine lvz (.addZ rfl rfl (by omega)) ?_; refine lvz (.gtrF rfl rfl (by omega)) ?_; refine nNz ?_; refine cFz ?_; refine CW.skip ?_; refine thenN ?_; refine sRz ?_; refine ldz rfl (.tail .head) (Rd.whole rfl) ?_)
  (apply LW.callR; rfl; rfl; infer_instance; exact .cons rfl .nil; intro w hs)
  exact copied_calls ws ms _ _ w (hs0.st hs) (hm0.st hs) (by omega) (by omega)
  rintro vo gso ⟨s1, m1, g1, g2, rfl, rfl, h1, h2⟩
  have h1' := h1
  have h2' := h2
  unfold wM at h1'
  unfold bM at h2'
  obtain ⟨q1, k1, rfl⟩ := h1'.form
  obtain ⟨q2, k2, rfl⟩ := h2'.form
  (apply LW.allocA; rfl; intro _; refine LW.store rfl rfl .head (.whole rfl rfl rfl) ?_; refine nSz ?_; refine vFz ?_; refine ldz rfl .head sc_rd0 ?_; refine vMz ?_)
  rw [List.append_assoc]
  (apply LW.appendAny; (case hrow => exact h1'); rfl; rfl; infer_instance; infer_instance; infer_instance; rfl; rfl; rfl; (apply AtSeg.cons; apply AtSeg.app; exact AtSeg.head))
  · exact fun w hs => hv.st hs
  · exact wcs_cells l
  · simp only [maxLen]; omega
  · omega
  intro v1 seg1 hrow1
  refine ⟨_, (by (apply AtSeg.cons; apply AtSeg.app; exact AtSeg.head)), ?_⟩
  simp only [List.nil_append, Nat.zero_add, List.append_nil] at hrow1 ⊢
  obtain ⟨q3, k3, rfl⟩ := hrow1.form
  (refine vFz ?_; refine LW.store rfl rfl .head sc_wr0 ?_; refine nSz ?_; refine ldz rfl .head (Rd.whole rfl) ?_; refine LW.store rfl rfl (.tail (.app (.app .head))) (.whole rfl rfl rfl) ?_; refine vAz ?_; refine nNz ?_; refine CW.ret ?_)
  refine fin (vs := [.agg #[.slice q3 (ws.length + l.length) k3, .slice q2 ms.length k2], .int .i64 0]) (g2 ++ seg1) (.inl rfl) rfl rfl (by (apply ResL.cons; apply Res.cell; rfl; apply Known.at; apply FsAt.tail; apply FsAt.app; apply FsAt.app; apply FsAt.head; exact Rd.whole rfl; apply ResL.cons; exact Res.tmp rfl; exact ResL.nil)) ?_ ⟨_, rfl, _, _, seg1, g2, rfl, rfl, ?_, h2⟩
  · exact List.Sublist.cons _ (List.Sublist.append_left (List.sublist_append_left _ _) _)
  · unfold wM
    rw [List.length_append, wcs_app]
    exact hrow1
end Go.Proofs.YtpgdnfgjbhdbpaaGreatDoor

/-
  A machine: words laid.
  Conditions: none.
-/
namespace Go.Proofs.YtpgdnfgjbhdbpaaGreatDoor
open Go Go.RowKit SL
set_option maxRecDepth 8000
set_option maxHeartbeats 4000000
set_option linter.unusedSimpArgs false
set_option linter.unusedVariables false
attribute [local irreducible] SL.CW SL.LW SL.DW Calls SL.Ret SL.RetG SL.beginQ SL.roundQ SL.rangeQ SL.inQ SL.RW SL.AnyW SL.thenQ SL.thenC SL.thenW SL.blkQ SL.finQ SL.ValP SL.NewP SL.SetP SL.CallP SL.Rd SL.Wr SL.Known
attribute [local irreducible] SL.inP
theorem lay_ok (w0 : World) (S : List Nat) (b : Nat) (m : MaV) (ws : List Nat) (ms : List UInt8) (l : List Nat) (v : Value) (rest : Fs) (w : World) (hs : St w0 S ((b, maO m) :: rest) w)
    (h1 : ∀ w', St w0 S ((b, maO m) :: rest) w' → RowAt w' 4 m.fr.stk ws.length (wcs ws) ∧ RowAt w' 1 m.fr.mem ms.length (ucs ms) ∧ RowAt w' 4 v l.length (wcs l)) (hok : okSc ws.length ms.length) (hll : l.length ≤ 100000) (hf : ws.length + l.length ≤ 64) :
    Calls Tryz.prog 78 #[.pointer (some ⟨b, 0, none⟩), v] w (fun x w' => ∃ fs', (x = .returned (.tuple #[]) ∧ ∃ s k gs c4, ScO (ws ++ l) ms (.agg #[s, k]) gs ∧ fs' = c4 :: (gs ++ (b, maO (m.setSc s k)) :: rest)) ∧ St w0 S fs' w') := by
  refine calls_inlineP (K := fun x fs' => x = .returned (.tuple #[]) ∧ ∃ s k gs c4, ScO (ws ++ l) ms (.agg #[s, k]) gs ∧ fs' = c4 :: (gs ++ (b, maO (m.setSc s k)) :: rest)) (args := [_, _]) Tryz.func78 rfl Tryz.ntmps78 rfl ?_ hs
  (refine sRz ?_; refine vMz ?_; refine vNz ?_; refine vFz ?_; refine vFz ?_; refine ldz rfl .head ma_rd2 ?_; refine vMz ?_)
  (apply LW.callR; rfl; rfl; infer_instance; exact .cons rfl (.cons rfl .nil); intro w hs)
  exact push_ok ws ms l _ _ _ w (h1 w hs).1 (h1 w hs).2.1 (h1 w hs).2.2 hok hll hf
  rintro vo gso ⟨o, rfl, s1, m1, g1, g2, rfl, rfl, hw1, hb1⟩
  have hw1' := hw1
  have hb1' := hb1
  unfold wM at hw1'
  unfold bM at hb1'
  obtain ⟨q1, k1, rfl⟩ := hw1'.form
  obtain ⟨q2, k2, rfl⟩ := hb1'.form
  (refine vMz ?_; refine vEz ?_; refine vEz ?_; apply LW.allocA; rfl; intro _; refine LW.store rfl rfl .head (.whole rfl rfl rfl) ?_; refine vAz ?_; refine nSz ?_; refine vMz ?_; refine lvz (.eqT rfl rfl (by omega)) ?_; apply LW.callE; rfl; rfl; infer_instance; exact .cons rfl .nil; intro w _; exact need_true w; refine nNz ?_; refine CW.region ?_; refine vMz ?_; refine ldz rfl .head (Rd.whole rfl) ?_; refine vNz ?_; refine vFz ?_; refine vFz ?_; refine LW.store rfl rfl (.tail (.app .head)) (ma_wr2 rfl rfl rfl rfl) ?_; apply LW.nil)
  exact inPI (.inr rfl) .nil rfl .nil rfl ⟨rfl, _, _, g2 ++ g1, _, ⟨_, _, g1, g2, rfl, rfl, hw1, hb1⟩, rfl⟩
theorem lay_full (w0 : World) (S : List Nat) (b : Nat) (m : MaV) (ws : List Nat) (ms : List UInt8) (l : List Nat) (v : Value) (rest : Fs) (w : World) (hs : St w0 S ((b, maO m) :: rest) w)
    (h1 : ∀ w', St w0 S ((b, maO m) :: rest) w' → RowAt w' 4 m.fr.stk ws.length (wcs ws) ∧ RowAt w' 1 m.fr.mem ms.length (ucs ms) ∧ RowAt w' 4 v l.length (wcs l)) (hok : okSc ws.length ms.length) (hll : l.length ≤ 100000) (hf : 64 < ws.length + l.length) :
    Calls Tryz.prog 78 #[.pointer (some ⟨b, 0, none⟩), v] w (fun x w' => ∃ fs', (x = .panicked failC ∧ ∃ c4, fs' = c4 :: (b, maO m) :: rest) ∧ St w0 S fs' w') := by
  have hP : ∀ w', St w0 S ((b, maO m) :: rest) w' → Calls Tryz.prog 118 #[.agg #[m.fr.stk, m.fr.mem], v] w' (Ret w' (.tuple #[.agg #[.slice none 0 0, .slice none 0 0], .int .i64 6])) := fun w' hst =>
    push_full ws ms l _ _ _ w' (h1 w' hst).1 (h1 w' hst).2.1 (h1 w' hst).2.2 hok hll hf
  refine calls_inlineP (K := fun x fs' => x = .panicked failC ∧ ∃ c4, fs' = c4 :: (b, maO m) :: rest) (args := [_, _]) Tryz.func78 rfl Tryz.ntmps78 rfl ?_ hs
  (refine sRz ?_; refine vMz ?_; refine vNz ?_; refine vFz ?_; refine vFz ?_; refine ldz rfl .head ma_rd2 ?_; refine vMz ?_; apply LW.callE; rfl; rfl; infer_instance; exact .cons rfl (.cons rfl .nil); intro w _; exact hP w (by assumption); refine vMz ?_; refine vEz ?_; refine vEz ?_; apply LW.allocA; rfl; intro _; refine LW.store rfl rfl .head (.whole rfl rfl rfl) ?_; refine vAz ?_; refine nSz ?_; refine vMz ?_; refine lvz (.eqF rfl rfl (by omega)) ?_)
  rename_i b4
  refine LW.callP (K := NeedK ((b4, .cells #[.slice none 0 0, .slice none 0 0] 25 (0, 0)) :: (b, maO m) :: rest)) rfl rfl inferInstance (by (exact .cons rfl .nil)) rfl (fun fs h => by cases h.1) (fun w' hst => need_false w0 S _ w' hst) ?_ ?_
  · rintro v fs' ⟨h, _⟩
    cases h
  · rintro ch fs' ⟨h, rfl⟩
    cases h
    refine thenP ?_
    exact inPP .nil ⟨rfl, _, rfl⟩
end Go.Proofs.YtpgdnfgjbhdbpaaGreatDoor

/-
  A SMALL LOGIC OVER THE KIT's WALK, PART MX: the greater of a difference and nought.
  Conditions: none; over any program.
-/
namespace Go.Proofs.YtpgdnfgjbhdbpaaGreatDoor.SL
set_option linter.unusedVariables false
open Go Go.RowKit
section mm
variable {P : Program} {e : Env} {x y : Operand} {tys : Array TypeId} {m n : Nat} {ik : IntKind}
/-- The greater of a difference and nought. -/
theorem ValP.maxD (hx : e.ev x = some (.int ik ((m : Int) - (n : Int)))) (hy : e.ev y = some (.int ik 0)) : ValP P e [] (.call { callee := .builtin .max, args := #[x, y], argTypes := tys }) (.int ik ((m - n : Nat) : Int)) := fun ρ w hρ _ d t pos af g => by
  have h : (if (0 : Int) > (m : Int) - (n : Int) then (0 : Int) else (m : Int) - (n : Int)) = ((m - n : Nat) : Int) := by split <;> omega
  have h2 := run_max_int2 (P := P) (w := w) tys t ik ik ((m : Int) - (n : Int)) 0
  rw [h] at h2
  simp [execOp, resolve, invoke, builtin, hρ x _ hx, hρ y _ hy, h2]
end mm
end Go.Proofs.YtpgdnfgjbhdbpaaGreatDoor.SL

/-
  A scratch: bytes reached.
  Conditions: none.
-/
namespace Go.Proofs.YtpgdnfgjbhdbpaaGreatDoor
open Go Go.RowKit SL
set_option maxRecDepth 8000
set_option maxHeartbeats 4000000
set_option linter.unusedSimpArgs false
set_option linter.unusedVariables false
attribute [local irreducible] SL.CW SL.LW SL.DW Calls SL.Ret SL.RetG SL.beginQ SL.roundQ SL.rangeQ SL.inQ SL.RW SL.AnyW SL.thenQ SL.thenC SL.thenW SL.blkQ SL.finQ SL.ValP SL.NewP SL.SetP SL.CallP SL.Rd SL.Wr SL.Known
/-- The bytes of the words that n bytes touch. -/
def upW (n : Nat) : Nat := (n + 31) / 32 * 32
theorem grow_ok (ws : List Nat) (ms : List UInt8) (n : Nat) (s m : Value) (w : World) (hs : RowAt w 4 s ws.length (wcs ws)) (hm : RowAt w 1 m ms.length (ucs ms)) (hok : okSc ws.length ms.length) (hn : 0 < n) (hn2 : n ≤ 1024) :
    Calls Tryz.prog 147 #[.agg #[s, m], .int .u64 0, .int .u64 (n : Int)] w (RetG w [] (fun r gs => ∃ o, r = .tuple #[o, .int .i64 0] ∧ ScO ws (ms ++ List.replicate (upW n - ms.length) 0) o gs)) := by
  have hs0 := hs
  have hm0 := hm
  obtain ⟨p, c, rfl, _, hc⟩ := hs.form
  obtain ⟨p2, c2, rfl, _, hc2⟩ := hm.form
  have hC : ∀ w, Calls Tryz.prog 66 #[.agg #[.slice p ws.length c, .slice p2 ms.length c2]] w (Ret w (.int .i64 0)) := fun w => by
    have h := scCheck_calls p p2 ws.length c ms.length c2 (by omega) (by omega) w
    rwa [if_pos hok] at h
  have hok2 := hok
  unfold okSc at hok2
  obtain ⟨hn1, hk1, hk2⟩ := hok2
  refine enter (args := [_, _, _]) _ [] [] Tryz.func147 rfl Tryz.ntmps147 rfl (by simp) .nil ?_
  (refine sRz ?_; apply LW.boxA; rfl; rfl; intro _; apply LW.allocA; rfl; intro _; refine vAz ?_; refine nNz ?_; refine CW.seq ?_; refine sRz ?_; refine ldz rfl (.tail .head) (Rd.whole rfl) ?_; apply LW.callE; rfl; rfl; infer_instance; exact .cons rfl .nil; intro w _; exact hC w; refine vAz ?_; refine nSz ?_; refine vMz ?_; refine lvz (.neF rfl rfl (by omega)) ?_; refine nNz ?_; refine cFz ?_; refine CW.skip ?_; refine thenN ?_; refine sRz ?_; refine ldz rfl (.tail .head) (Rd.whole rfl) ?_)
  (apply LW.callR; rfl; rfl; infer_instance; exact .cons rfl .nil; intro w hs)
  exact copied_calls ws ms _ _ w (hs0.st hs) (hm0.st hs) (by omega) (by omega)
  rintro vo gso ⟨s1, m1, g1, g2, rfl, rfl, h1, h2⟩
  have h1' := h1
  have h2' := h2
  unfold wM at h1'
  unfold bM at h2'
  obtain ⟨q1, k1, rfl⟩ := h1'.form
  obtain ⟨q2, k2, rfl⟩ := h2'.form
  (apply LW.allocA; rfl; intro _; refine LW.store rfl rfl .head (.whole rfl rfl rfl) ?_; refine nNz ?_; refine CW.seq ?_; refine sRz ?_; refine vMz ?_; refine lvz (.eqF rfl rfl (by omega)) ?_; refine nNz ?_; refine cFz ?_; refine CW.skip ?_; refine thenN ?_; refine CW.seq ?_; refine sRz ?_; refine vMz ?_; refine lvz (.gtrF rfl rfl (by omega)) ?_; refine vMz ?_; refine gTz ?_; refine vMz ?_; refine gTz ?_; refine lvz (.gtrF rfl rfl (by omega)) ?_; refine pFz ?_; refine vMz ?_; refine gTz ?_; refine vMz ?_; refine gTz ?_; refine vMz ?_; refine gTz ?_; refine lvz (.addNK rfl rfl (by decide)) ?_; refine gTz ?_; refine lvz (.gtrF rfl rfl (by omega)) ?_; refine pFz ?_; refine nNz ?_; refine cFz ?_; refine CW.skip ?_; refine thenN ?_; refine sRz ?_; refine vMz ?_; refine vMz ?_; refine lvz (.addNK rfl rfl (by decide)) ?_; refine lvz (.convI rfl (by omega) (by omega)) ?_; refine lvz (.addZL rfl rfl (by decide) (by omega)) ?_; refine lvz (.subZL rfl rfl (by decide) (by omega) (by omega)) ?_; refine lvz (.quoZL rfl rfl (by decide) (by omega) (by omega)) ?_; refine lvz (.mulZL rfl rfl (by decide) (by omega)) ?_; refine vAz ?_; refine nNz ?_; refine CW.seq ?_; refine sRz ?_; refine vMz ?_; refine vFz ?_; refine ldz rfl .head sc_rd1 ?_; refine lvz (.lenR rfl inferInstance rfl) ?_; refine lvz (.subI rfl rfl (by omega) (by omega)) ?_; apply LW.v0; rfl; rfl; apply ValP.maxD; rfl; rfl; refine vMz ?_; refine nNz ?_; refine CW.block ?_)
  rename_i b3 b6 b9
  obtain ⟨D, hD⟩ : ∃ D, D = ((0 + n) % 18446744073709551616 + 32 - 1) / 32 * 32 - ms.length := ⟨_, rfl⟩
  have hDu : D = upW n - ms.length := by unfold upW; omega
  rw [← hD]
  refine CW.loop (fun x : Nat × Option Addr × Nat × Fs => ([(9, .pointer (some ⟨b9, 0, none⟩)), (6, .pointer (some ⟨b6, 0, none⟩)), (48, .int .i64 (D : Int)), (49, .int .i64 (x.1 : Int))], (b9, .cells #[.slice q1 ws.length k1, .slice x.2.1 (ms.length + x.1) x.2.2.1] 25 (0, 0)) :: (x.2.2.2 ++ (g1 ++ [(b6, .cells #[.slice none 0 0, .slice none 0 0] 25 (0, 0))]))))
    (fun x => x.1 ≤ D ∧ IsRow 5 1 (.slice x.2.1 (ms.length + x.1) x.2.2.1) (ms.length + x.1) (ucs (ms ++ List.replicate x.1 0)) x.2.2.2) (fun x => D - x.1) (0, q2, k2, g2) ⟨Nat.zero_le _, by simpa using h2'⟩ ⟨rfl, rfl, rfl, rfl, trivial⟩ (by simp) ?_
  rintro ⟨k, q, kc, seg⟩ ⟨hk, hrow⟩
  dsimp only at hk hrow ⊢
  rcases Nat.lt_or_ge k D with hlt | hge
  · (refine sRz ?_; refine lvz (.lssT rfl rfl (by omega)) ?_; refine nNz ?_; refine CW.seq ?_; refine cTz ?_; refine CW.skip ?_; refine thenN ?_; refine CW.seq ?_; refine CW.block ?_; refine CW.region ?_; refine vFz ?_; refine ldz rfl .head sc_rd1 ?_; apply LW.lay1; rfl; infer_instance; infer_instance; rfl; rfl; rfl; rfl; rfl; rfl; intro _)
    (apply LW.append; rfl; rfl; infer_instance; infer_instance; infer_instance; rfl; rfl; rfl; (case hrow => assumption); apply AtSeg.cons; apply AtSeg.cons; exact AtSeg.head; apply Known.at; apply FsAt.head; rfl; rfl; rfl; omega; simp only [maxLen]; omega; omega; intro v' seg' hrow'; obtain ⟨p', c', rfl⟩ := hrow'.form; (refine ⟨_, (by (repeat (first | exact AtSeg.head | apply AtSeg.cons | apply AtSeg.app))), ?_⟩); (try simp only [List.cons_append, List.nil_append]))
    (refine vFz ?_; refine LW.store rfl rfl (.tail .head) sc_wr1 ?_; apply LW.nil; refine blkN ?_; refine thenN ?_; refine CW.region ?_; refine lvz (.addZL rfl rfl (by decide) (by omega)) ?_; refine vMz ?_; apply LW.nil)
    apply thenX
    refine ⟨rfl, (k + 1, p', c', seg'), ⟨hlt, ?_⟩, by show D - (k + 1) < D - k; omega, ⟨rfl, rfl, rfl, rfl, trivial⟩, List.Sublist.cons _ (List.Sublist.refl _)⟩
    have e : ucs (ms ++ List.replicate (k + 1) 0) = ucs (ms ++ List.replicate k 0) ++ [.int .u8 0] := by
      rw [List.replicate_succ', ← List.append_assoc]
      simp [ucs]
    dsimp only
    rw [e]
    exact hrow'
  · (refine sRz ?_; refine lvz (.lssF rfl rfl (by omega)) ?_; refine nNz ?_; refine CW.seq ?_; refine cFz ?_; refine CW.exit ?_; refine thenE ?_; refine thenE ?_; refine blkE rfl ?_; refine thenN ?_; refine sRz ?_; refine ldz rfl .head (Rd.whole rfl) ?_; refine LW.store rfl rfl (.tail (.app (.app .head))) (.whole rfl rfl rfl) ?_; refine vAz ?_; refine nNz ?_; refine CW.ret ?_)
    obtain rfl : k = D := by omega
    rw [← hDu]
    refine fin (vs := [.agg #[.slice q1 ws.length k1, .slice q (ms.length + k) kc], .int .i64 0]) (seg ++ g1) (.inl rfl) rfl rfl (by (apply ResL.cons; apply Res.cell; rfl; apply Known.at; apply FsAt.tail; apply FsAt.app; apply FsAt.app; apply FsAt.head; exact Rd.whole rfl; apply ResL.cons; exact Res.tmp rfl; exact ResL.nil)) ?_ ⟨_, rfl, _, _, g1, seg, rfl, rfl, h1, ?_⟩
    · exact List.Sublist.cons _ (List.Sublist.append_left (List.sublist_append_left _ _) _)
    · unfold bM
      rw [List.length_append, List.length_replicate]
      exact hrow
end Go.Proofs.YtpgdnfgjbhdbpaaGreatDoor

/-
  A machine: memory reached.
  Conditions: none.
-/
namespace Go.Proofs.YtpgdnfgjbhdbpaaGreatDoor
open Go Go.RowKit SL
set_option maxRecDepth 8000
set_option maxHeartbeats 4000000
set_option linter.unusedSimpArgs false
set_option linter.unusedVariables false
attribute [local irreducible] SL.CW SL.LW SL.DW Calls SL.Ret SL.RetG SL.beginQ SL.roundQ SL.rangeQ SL.inQ SL.RW SL.AnyW SL.thenQ SL.thenC SL.thenW SL.blkQ SL.finQ SL.ValP SL.NewP SL.SetP SL.CallP SL.Rd SL.Wr SL.Known
/-- What is left over may be forgotten. -/
theorem st_sub {w0 w : World} {S : List Nat} {fs gs : Fs} (h : St w0 S fs w) (hg : List.Sublist gs fs) : St w0 S gs w := ⟨h.bel, fun p hp => h.own p (hg.subset hp), h.nd.sublist hg⟩
attribute [local irreducible] SL.inP
theorem reach_gas (w0 : World) (S : List Nat) (b : Nat) (m : MaV) (a n k : Nat) (p2 : Option Addr) (c2 : Nat) (ha : a < M256) (hn : n < M256) (hE : endV a n < 18446744073709551616) (hk : k ≤ 1024) (hg : m.fr.gas < 18446744073709551616) (hm : m.fr.mem = .slice p2 k c2) (rest : Fs) (w : World) (hs : St w0 S ((b, maO m) :: rest) w)
    (hcost : m.fr.gas < memV k (endV a n)) :
    Calls Tryz.prog 146 #[.pointer (some ⟨b, 0, none⟩), wv a, wv n] w (fun x w' => ∃ fs', (x = .panicked failC ∧ ∃ ex, fs' = (b, maO m) :: (ex ++ rest)) ∧ St w0 S fs' w') := by
  have hmem : ∀ {E fr}, Rd Tryz.prog 22 (.cells (mca m) E fr) 3 (.slice p2 k c2) := fun {E fr} => by rw [← hm]; exact ma_rd3
  refine calls_inlineP (K := fun x fs' => x = .panicked failC ∧ ∃ ex, fs' = (b, maO m) :: (ex ++ rest)) (args := [_, _, _]) Tryz.func146 rfl Tryz.ntmps146 rfl ?_ hs
  (refine sRz ?_; apply LW.boxA; rfl; rfl; intro _; apply LW.boxA; rfl; rfl; intro _; refine vAz ?_; refine vAz ?_; refine nSz ?_; refine ldz rfl (.tail .head) (Rd.whole rfl) ?_; refine ldz rfl .head (Rd.whole rfl) ?_; apply LW.callE; rfl; rfl; infer_instance; exact .cons rfl (.cons rfl .nil); intro w _; exact End_calls a n ha hn w; refine vAz ?_; refine nSz ?_; refine vMz ?_; refine vMz ?_; refine vNz ?_; refine vFz ?_; refine vFz ?_; refine vFz ?_; refine ldz rfl (.tail (.tail .head)) hmem ?_; refine lvz (.lenR rfl inferInstance rfl) ?_; refine lvz (.convN rfl (by omega) (by omega)) ?_; refine vMz ?_; apply LW.callE; rfl; rfl; infer_instance; exact .cons rfl (.cons rfl .nil); intro w _; exact Memory_calls _ _ (by omega) hE w; apply LW.lay1; rfl; infer_instance; infer_instance; rfl; rfl; rfl; rfl; rfl; rfl; intro _)
  rename_i b4 b5 b29
  obtain ⟨c, hc⟩ : ∃ c, c = memV k (endV a n) := ⟨_, rfl⟩
  rw [← hc] at hcost ⊢
  have hsp : spendM m [c] = none := by unfold spendM; rw [if_neg (by simp; omega)]
  refine LW.perm (fs' := (b, maO m) :: (b29, .cells #[.int .u64 (c : Int)] 26 (0, 0)) :: (b5, .cells (wc n) 29 (0, 0)) :: (b4, .cells (wc a) 29 (0, 0)) :: rest) (by exact (List.perm_middle (l₁ := [_, _, _])).symm) ?_
  refine LW.callP (K := MaK b m (spendM m [c]) _) rfl rfl inferInstance (by (exact .cons rfl (.cons rfl .nil))) rfl (fun fs h => ?_) (fun w' hst => spend_calls w0 S b m [c] hg _ _ w' hst (fun w2 h2 => row_cells (h2.own (b29, _) (List.Mem.tail _ (List.Mem.head _))).2 rfl rfl (by simp [maxLen]))) ?_ ?_
  · rw [hsp] at h; cases h.1
  · rintro v fs' h
    rw [hsp] at h; cases h.1
  · rintro ch fs' h
    rw [hsp] at h
    obtain ⟨h, rfl⟩ := h
    cases h
    refine thenP ?_
    exact inPP .nil ⟨rfl, [_, _, _], rfl⟩
theorem reach_none (w0 : World) (S : List Nat) (b : Nat) (m : MaV) (a n k : Nat) (hn0 : n = 0) (p2 : Option Addr) (c2 : Nat) (ha : a < M256) (hk : k ≤ 1024) (hg : m.fr.gas < 18446744073709551616) (hm : m.fr.mem = .slice p2 k c2) (rest : Fs) (w : World) (hs : St w0 S ((b, maO m) :: rest) w) :
    Calls Tryz.prog 146 #[.pointer (some ⟨b, 0, none⟩), wv a, wv n] w (fun x w' => ∃ fs', (x = .returned (.tuple #[.int .u64 0, .int .u64 0]) ∧ ∃ ex, fs' = (b, maO m) :: (ex ++ rest)) ∧ St w0 S fs' w') := by
  have hmem : ∀ {E fr}, Rd Tryz.prog 22 (.cells (mca m) E fr) 3 (.slice p2 k c2) := fun {E fr} => by rw [← hm]; exact ma_rd3
  have hE : endV a n < 18446744073709551616 := by simp [endV, hn0]
  have hn : n < M256 := by rw [hn0]; decide
  have he : endV a n = 0 := by simp [endV, hn0]
  refine calls_inlineP (K := fun x fs' => x = .returned (.tuple #[.int .u64 0, .int .u64 0]) ∧ ∃ ex, fs' = (b, maO m) :: (ex ++ rest)) (args := [_, _, _]) Tryz.func146 rfl Tryz.ntmps146 rfl ?_ hs
  (refine sRz ?_; apply LW.boxA; rfl; rfl; intro _; apply LW.boxA; rfl; rfl; intro _; refine vAz ?_; refine vAz ?_; refine nSz ?_; refine ldz rfl (.tail .head) (Rd.whole rfl) ?_; refine ldz rfl .head (Rd.whole rfl) ?_; apply LW.callE; rfl; rfl; infer_instance; exact .cons rfl (.cons rfl .nil); intro w _; exact End_calls a n ha hn w; refine vAz ?_; refine nSz ?_; refine vMz ?_; refine vMz ?_; refine vNz ?_; refine vFz ?_; refine vFz ?_; refine vFz ?_; refine ldz rfl (.tail (.tail .head)) hmem ?_; refine lvz (.lenR rfl inferInstance rfl) ?_; refine lvz (.convN rfl (by omega) (by omega)) ?_; refine vMz ?_; apply LW.callE; rfl; rfl; infer_instance; exact .cons rfl (.cons rfl .nil); intro w _; exact Memory_calls _ _ (by omega) hE w; apply LW.lay1; rfl; infer_instance; infer_instance; rfl; rfl; rfl; rfl; rfl; rfl; intro _)
  rename_i b4 b5 b29
  have hc : memV k (endV a n) = 0 := by rw [he]; simp [memV]
  rw [hc, he]
  have hsp : spendM m [0] = some m := by unfold spendM; rw [if_pos (by simp)]; rfl
  refine LW.perm (fs' := (b, maO m) :: (b29, .cells #[.int .u64 ((0 : Nat) : Int)] 26 (0, 0)) :: (b5, .cells (wc n) 29 (0, 0)) :: (b4, .cells (wc a) 29 (0, 0)) :: rest) (by exact (List.perm_middle (l₁ := [_, _, _])).symm) ?_
  refine LW.callP (K := MaK b m (spendM m [0]) _) rfl rfl inferInstance (by (exact .cons rfl (.cons rfl .nil))) rfl (fun fs h => ?_) (fun w' hst => spend_calls w0 S b m [0] hg _ _ w' hst (fun w2 h2 => row_cells (h2.own (b29, _) (List.Mem.tail _ (List.Mem.head _))).2 rfl rfl (by simp [maxLen]))) ?_ ?_
  · rw [hsp] at h; cases h.1
  · rintro v fs' h
    rw [hsp] at h
    obtain ⟨h, rfl⟩ := h
    (refine nNz ?_; refine CW.seq ?_; refine sRz ?_; refine vMz ?_; refine lvz (.eqT rfl rfl (by omega)) ?_; refine nNz ?_; refine cTz ?_; refine sRz ?_; refine vAz ?_; refine vAz ?_; refine nNz ?_; refine CW.ret ?_; refine thenR ?_)
    exact inPI (.inl rfl) .nil rfl (by (apply ResL.cons; exact Res.tmp rfl; apply ResL.cons; exact Res.tmp rfl; exact ResL.nil)) rfl ⟨rfl, [_, _, _], rfl⟩
  · rintro ch fs' h
    rw [hsp] at h; cases h.1
end Go.Proofs.YtpgdnfgjbhdbpaaGreatDoor

/-
  Strings searched, and cut at blanks.
  Conditions: none.
-/
namespace Go.Proofs.YtpgdnfgjbhdbpaaGreatDoor.CK
open Go Go.RowKit SL
set_option maxRecDepth 8000
set_option maxHeartbeats 4000000
set_option linter.unusedSimpArgs false
set_option linter.unusedVariables false
attribute [local irreducible] SL.CW SL.LW SL.DW Calls SL.Ret SL.RetG SL.beginQ SL.roundQ SL.rangeQ SL.inQ SL.RW SL.AnyW SL.thenQ SL.thenC SL.thenW SL.blkQ SL.finQ SL.ValP SL.NewP SL.SetP SL.CallP SL.Rd SL.Wr SL.Known
end Go.Proofs.YtpgdnfgjbhdbpaaGreatDoor.CK

/-
  strings.Split at blanks, HasPrefix of a point.
  Conditions: none.
-/
namespace Go.Proofs.YtpgdnfgjbhdbpaaGreatDoor.CK
open Go Go.RowKit SL
set_option maxRecDepth 8000
set_option maxHeartbeats 4000000
set_option linter.unusedSimpArgs false
set_option linter.unusedVariables false
attribute [local irreducible] SL.CW SL.LW SL.DW Calls SL.Ret SL.RetG SL.beginQ SL.roundQ SL.rangeQ SL.inQ SL.RW SL.AnyW SL.thenQ SL.thenC SL.thenW SL.blkQ SL.finQ SL.ValP SL.NewP SL.SetP SL.CallP SL.Rd SL.Wr SL.Known
structure SX where
  k : Nat
  r : List UInt8
  seg : Fs
end Go.Proofs.YtpgdnfgjbhdbpaaGreatDoor.CK

/-
  A Builder that grows ahead; strings.Join at blanks.
  Conditions: none.
-/
namespace Go.Proofs.YtpgdnfgjbhdbpaaGreatDoor.CK
open Go Go.RowKit SL
set_option maxRecDepth 8000
set_option maxHeartbeats 4000000
set_option linter.unusedSimpArgs false
set_option linter.unusedVariables false
attribute [local irreducible] SL.CW SL.LW SL.DW Calls SL.Ret SL.RetG SL.beginQ SL.roundQ SL.rangeQ SL.inQ SL.RW SL.AnyW SL.thenQ SL.thenC SL.thenW SL.blkQ SL.finQ SL.ValP SL.NewP SL.SetP SL.CallP SL.Rd SL.Wr SL.Known
theorem ucs_app (a b : List UInt8) : ucs (a ++ b) = ucs a ++ ucs b := by simp [ucs]
structure BX where
  k : Nat
  v : Value
  seg : Fs
end Go.Proofs.YtpgdnfgjbhdbpaaGreatDoor.CK

/-
  The operation of a byte and of a name, by the document's answer too: contracts.
  Conditions: none.
-/
namespace Go.Proofs.YtpgdnfgjbhdbpaaGreatDoor.CK
open Go Go.RowKit SL
set_option maxRecDepth 8000
set_option maxHeartbeats 4000000
set_option linter.unusedSimpArgs false
set_option linter.unusedVariables false
attribute [local irreducible] SL.CW SL.LW SL.DW Calls SL.Ret SL.RetG SL.beginQ SL.roundQ SL.rangeQ SL.inQ SL.RW SL.AnyW SL.thenQ SL.thenC SL.thenW SL.blkQ SL.finQ SL.ValP SL.NewP SL.SetP SL.CallP SL.Rd SL.Wr SL.Known
theorem digit_ucs (n : Nat) (h : n < 10) : [Value.int .u8 (((48 + n) % 256 : Nat) : Int)] = ucs [UInt8.ofNat (48 + n)] := by
  have : ((UInt8.ofNat (48 + n)).toNat : Nat) = (48 + n) % 256 := by simp
  show _ = [Value.int .u8 (((UInt8.ofNat (48 + n)).toNat : Nat) : Int)]
  rw [this]
theorem number1_calls (n : Nat) (hn : n < 10) (w : World) : Calls Tryz.prog 141 #[.int .i64 (n : Int)] w (Ret w (sv [UInt8.ofNat (48 + n)])) := by
  have hd := digit_ucs n hn
  refine enter (args := [_]) _ [] [] Tryz.func141 rfl Tryz.ntmps141 rfl (by simp) .nil ?_
  (refine CW.seq ?_; refine CW.region ?_; apply LW.v0; rfl; rfl; apply ValP.assign; rfl; apply LW.nil; refine thenN ?_; refine CW.seq ?_; refine CW.seq ?_; refine CW.region ?_; apply LW.v0; rfl; rfl; apply ValP.move; rfl; apply LW.v0; rfl; rfl; apply ValP.lssT; rfl; rfl; omega; apply LW.nil; refine thenN ?_; apply CW.condT; rfl; (with_reducible rfl); refine CW.seq ?_; refine CW.region ?_; apply LW.v0; rfl; rfl; apply ValP.move; rfl; apply LW.v0; rfl; rfl; apply ValP.addZK; rfl; rfl; decide; omega; apply LW.v0; rfl; rfl; apply ValP.convB; rfl; apply LW.lay1; rfl; infer_instance; infer_instance; rfl; rfl; rfl; rfl; rfl; rfl; intro _)
  rename_i b
  have hrow : ∀ w', w'.heap[b]? = some (.cells #[.int .u8 (((48 + n) % 256 : Nat) : Int)] 5 (0, 0)) → RowAt w' 1 (.slice (some ⟨b, 0, none⟩) 1 1) 1 (ucs [UInt8.ofNat (48 + n)]) := fun w' h =>
    RowAt.us (us := []) (cur := #[.int .u8 (((48 + n) % 256 : Nat) : Int)]) (E := 5) (fr := (0, 0)) (fun p hp => by rcases List.mem_singleton.1 hp with rfl; exact h) (Nat.le_refl _) (by decide) hd rfl
  refine LW.toStr rfl inferInstance inferInstance inferInstance rfl (fun w' hs => hrow w' (hs.own (b, _) (by (exact List.Mem.head _))).2) ?_
  (apply LW.v0; rfl; rfl; apply ValP.assign; rfl; apply LW.nil; refine thenN ?_; refine CW.ret ?_; refine thenR ?_)
  (apply finR; exact .inl rfl; rfl; rfl; rfl; apply ResL.cons; exact Res.tmp rfl; exact ResL.nil)
  rfl
theorem number_calls (n : Nat) (hn : n < 100) (w : World) : Calls Tryz.prog 141 #[.int .i64 (n : Int)] w (Ret w (sv (itoa n))) := by
  unfold itoa
  split
  · rename_i h; exact number1_calls n h w
  · rename_i h
    have h1 := number1_calls (n / 10) (by omega)
    have h2 := number1_calls (n % 10) (by omega)
    have l1 : [UInt8.ofNat (48 + n / 10)].length = 1 := rfl
    have l2 : [UInt8.ofNat (48 + n % 10)].length = 1 := rfl
    refine enter (args := [_]) _ [] [] Tryz.func141 rfl Tryz.ntmps141 rfl (by simp) .nil ?_
    obtain ⟨x, hx⟩ : ∃ x, [UInt8.ofNat (48 + n / 10)] = x := ⟨_, rfl⟩
    obtain ⟨y, hy⟩ : ∃ y, [UInt8.ofNat (48 + n % 10)] = y := ⟨_, rfl⟩
    rw [hx] at h1 l1
    rw [hy] at h2 l2
    rw [show [UInt8.ofNat (48 + n / 10), UInt8.ofNat (48 + n % 10)] = x ++ y by rw [← hx, ← hy]; rfl]
    (refine CW.seq ?_; refine CW.region ?_; apply LW.v0; rfl; rfl; apply ValP.assign; rfl; apply LW.nil; refine thenN ?_; refine CW.seq ?_; refine CW.seq ?_; refine CW.region ?_; apply LW.v0; rfl; rfl; apply ValP.move; rfl; apply LW.v0; rfl; rfl; apply ValP.lssF; rfl; rfl; omega; apply LW.nil; refine thenN ?_; apply CW.condF; rfl; (with_reducible rfl); refine CW.skip ?_; refine thenN ?_; refine CW.seq ?_; refine CW.region ?_; apply LW.v0; rfl; rfl; apply ValP.move; rfl; apply LW.v0; rfl; rfl; apply ValP.quoZL; rfl; rfl; decide; omega; omega; apply LW.callE; rfl; rfl; infer_instance; apply ArgsOk.cons; rfl; exact ArgsOk.nil; intro w _; exact h1 w; apply LW.v0; rfl; rfl; apply ValP.move; rfl; apply LW.v0; rfl; rfl; apply ValP.remZL; rfl; rfl; decide; omega; apply LW.callE; rfl; rfl; infer_instance; apply ArgsOk.cons; rfl; exact ArgsOk.nil; intro w _; exact h2 w; apply LW.v0; rfl; rfl; apply ValP.addStr; rfl; rfl; omega; apply LW.v0; rfl; rfl; apply ValP.assign; rfl; apply LW.nil; refine thenN ?_; refine CW.ret ?_)
    (apply finR; exact .inl rfl; rfl; rfl; rfl; apply ResL.cons; exact Res.tmp rfl; exact ResL.nil)
    rfl
def PlainR (v : Value) (gs : Fs) : Prop := ∃ b, v = .slice (some ⟨b, 0, none⟩) 50 50 ∧ gs = [(b, .cells (opcs plainOps).toArray 136 (0, 0))]
theorem rPlain_calls (w : World) : Calls Tryz.prog 142 #[] w (RetG w [] PlainR) := by
  refine enter (args := []) _ [] [] Tryz.func142 rfl Tryz.ntmps142 rfl (by simp) .nil ?_
  (refine CW.seq ?_; refine CW.region ?_; apply LW.v0; rfl; rfl; apply ValP.assign; rfl; apply LW.nil; refine thenN ?_; refine CW.seq ?_; refine CW.region ?_; apply LW.v0; rfl; rfl; apply ValP.buildT; infer_instance; infer_instance; apply PartsOk.cons; rfl; apply PartsOk.cons; rfl; exact PartsOk.nil; rfl; simp only [fillP, wrCells, Value.cells, List.getElem?_cons_zero, List.getElem?_cons_succ, List.toList_toArray, List.setIfInBounds_toArray, List.set_cons_succ, List.set_cons_zero, Nat.reduceAdd, Nat.zero_add]; rfl; apply LW.v0; rfl; rfl; apply ValP.buildT; infer_instance; infer_instance; apply PartsOk.cons; rfl; apply PartsOk.cons; rfl; apply PartsOk.cons; rfl; apply PartsOk.cons; rfl; exact PartsOk.nil; rfl; simp only [fillP, wrCells, Value.cells, List.getElem?_cons_zero, List.getElem?_cons_succ, List.toList_toArray, List.setIfInBounds_toArray, List.set_cons_succ, List.set_cons_zero, Nat.reduceAdd, Nat.zero_add]; rfl; apply LW.v0; rfl; rfl; apply ValP.buildT; infer_instance; infer_instance; apply PartsOk.cons; rfl; apply PartsOk.cons; rfl; apply PartsOk.cons; rfl; apply PartsOk.cons; rfl; exact PartsOk.nil; rfl; simp only [fillP, wrCells, Value.cells, List.getElem?_cons_zero, List.getElem?_cons_succ, List.toList_toArray, List.setIfInBounds_toArray, List.set_cons_succ, List.set_cons_zero, Nat.reduceAdd, Nat.zero_add]; rfl; apply LW.v0; rfl; rfl; apply ValP.buildT; infer_instance; infer_instance; apply PartsOk.cons; rfl; apply PartsOk.cons; rfl; apply PartsOk.cons; rfl; apply PartsOk.cons; rfl; exact PartsOk.nil; rfl; simp only [fillP, wrCells, Value.cells, List.getElem?_cons_zero, List.getElem?_cons_succ, List.toList_toArray, List.setIfInBounds_toArray, List.set_cons_succ, List.set_cons_zero, Nat.reduceAdd, Nat.zero_add]; rfl; apply LW.v0; rfl; rfl; apply ValP.buildT; infer_instance; infer_instance; apply PartsOk.cons; rfl; apply PartsOk.cons; rfl; apply PartsOk.cons; rfl; apply PartsOk.cons; rfl; exact PartsOk.nil; rfl; simp only [fillP, wrCells, Value.cells, List.getElem?_cons_zero, List.getElem?_cons_succ, List.toList_toArray, List.setIfInBounds_toArray, List.set_cons_succ, List.set_cons_zero, Nat.reduceAdd, Nat.zero_add]; rfl; apply LW.v0; rfl; rfl; apply ValP.buildT; infer_instance; infer_instance; apply PartsOk.cons; rfl; apply PartsOk.cons; rfl; apply PartsOk.cons; rfl; apply PartsOk.cons; rfl; exact PartsOk.nil; rfl; simp only [fillP, wrCells, Value.cells, List.getElem?_cons_zero, List.getElem?_cons_succ, List.toList_toArray, List.setIfInBounds_toArray, List.set_cons_succ, List.set_cons_zero, Nat.reduceAdd, Nat.zero_add]; rfl; apply LW.v0; rfl; rfl; apply ValP.buildT; infer_instance; infer_instance; apply PartsOk.cons; rfl; apply PartsOk.cons; rfl; apply PartsOk.cons; rfl; apply PartsOk.cons; rfl; exact PartsOk.nil; rfl; simp only [fillP, wrCells, Value.cells, List.getElem?_cons_zero, List.getElem?_cons_succ, List.toList_toArray, List.setIfInBounds_toArray, List.set_cons_succ, List.set_cons_zero, Nat.reduceAdd, Nat.zero_add]; rfl; apply LW.v0; rfl; rfl; apply ValP.buildT; infer_instance; infer_instance; apply PartsOk.cons; rfl; apply PartsOk.cons; rfl; apply PartsOk.cons; rfl; apply PartsOk.cons; rfl; exact PartsOk.nil; rfl; simp only [fillP, wrCells, Value.cells, List.getElem?_cons_zero, List.getElem?_cons_succ, List.toList_toArray, List.setIfInBounds_toArray, List.set_cons_succ, List.set_cons_zero, Nat.reduceAdd, Nat.zero_add]; rfl; apply LW.v0; rfl; rfl; apply ValP.buildT; infer_instance; infer_instance; apply PartsOk.cons; rfl; apply PartsOk.cons; rfl; apply PartsOk.cons; rfl; apply PartsOk.cons; rfl; exact PartsOk.nil; rfl; simp only [fillP, wrCells, Value.cells, List.getElem?_cons_zero, List.getElem?_cons_succ, List.toList_toArray, List.setIfInBounds_toArray, List.set_cons_succ, List.set_cons_zero, Nat.reduceAdd, Nat.zero_add]; rfl; apply LW.v0; rfl; rfl; apply ValP.buildT; infer_instance; infer_instance; apply PartsOk.cons; rfl; apply PartsOk.cons; rfl; apply PartsOk.cons; rfl; apply PartsOk.cons; rfl; exact PartsOk.nil; rfl; simp only [fillP, wrCells, Value.cells, List.getElem?_cons_zero, List.getElem?_cons_succ, List.toList_toArray, List.setIfInBounds_toArray, List.set_cons_succ, List.set_cons_zero, Nat.reduceAdd, Nat.zero_add]; rfl; apply LW.v0; rfl; rfl; apply ValP.buildT; infer_instance; infer_instance; apply PartsOk.cons; rfl; apply PartsOk.cons; rfl; apply PartsOk.cons; rfl; apply PartsOk.cons; rfl; exact PartsOk.nil; rfl; simp only [fillP, wrCells, Value.cells, List.getElem?_cons_zero, List.getElem?_cons_succ, List.toList_toArray, List.setIfInBounds_toArray, List.set_cons_succ, List.set_cons_zero, Nat.reduceAdd, Nat.zero_add]; rfl; apply LW.v0; rfl; rfl; apply ValP.buildT; infer_instance; infer_instance; apply PartsOk.cons; rfl; apply PartsOk.cons; rfl; apply PartsOk.cons; rfl; apply PartsOk.cons; rfl; exact PartsOk.nil; rfl; simp only [fillP, wrCells, Value.cells, List.getElem?_cons_zero, List.getElem?_cons_succ, List.toList_toArray, List.setIfInBounds_toArray, List.set_cons_succ, List.set_cons_zero, Nat.reduceAdd, Nat.zero_add]; rfl; apply LW.v0; rfl; rfl; apply ValP.buildT; infer_instance; infer_instance; apply PartsOk.cons; rfl; apply PartsOk.cons; rfl; apply PartsOk.cons; rfl; apply PartsOk.cons; rfl; exact PartsOk.nil; rfl; simp only [fillP, wrCells, Value.cells, List.getElem?_cons_zero, List.getElem?_cons_succ, List.toList_toArray, List.setIfInBounds_toArray, List.set_cons_succ, List.set_cons_zero, Nat.reduceAdd, Nat.zero_add]; rfl; apply LW.v0; rfl; rfl; apply ValP.buildT; infer_instance; infer_instance; apply PartsOk.cons; rfl; apply PartsOk.cons; rfl; apply PartsOk.cons; rfl; apply PartsOk.cons; rfl; exact PartsOk.nil; rfl; simp only [fillP, wrCells, Value.cells, List.getElem?_cons_zero, List.getElem?_cons_succ, List.toList_toArray, List.setIfInBounds_toArray, List.set_cons_succ, List.set_cons_zero, Nat.reduceAdd, Nat.zero_add]; rfl; apply LW.v0; rfl; rfl; apply ValP.buildT; infer_instance; infer_instance; apply PartsOk.cons; rfl; apply PartsOk.cons; rfl; apply PartsOk.cons; rfl; apply PartsOk.cons; rfl; exact PartsOk.nil; rfl; simp only [fillP, wrCells, Value.cells, List.getElem?_cons_zero, List.getElem?_cons_succ, List.toList_toArray, List.setIfInBounds_toArray, List.set_cons_succ, List.set_cons_zero, Nat.reduceAdd, Nat.zero_add]; rfl; apply LW.v0; rfl; rfl; apply ValP.buildT; infer_instance; infer_instance; apply PartsOk.cons; rfl; apply PartsOk.cons; rfl; apply PartsOk.cons; rfl; apply PartsOk.cons; rfl; exact PartsOk.nil; rfl; simp only [fillP, wrCells, Value.cells, List.getElem?_cons_zero, List.getElem?_cons_succ, List.toList_toArray, List.setIfInBounds_toArray, List.set_cons_succ, List.set_cons_zero, Nat.reduceAdd, Nat.zero_add]; rfl; apply LW.v0; rfl; rfl; apply ValP.buildT; infer_instance; infer_instance; apply PartsOk.cons; rfl; apply PartsOk.cons; rfl; apply PartsOk.cons; rfl; apply PartsOk.cons; rfl; exact PartsOk.nil; rfl; simp only [fillP, wrCells, Value.cells, List.getElem?_cons_zero, List.getElem?_cons_succ, List.toList_toArray, List.setIfInBounds_toArray, List.set_cons_succ, List.set_cons_zero, Nat.reduceAdd, Nat.zero_add]; rfl; apply LW.v0; rfl; rfl; apply ValP.buildT; infer_instance; infer_instance; apply PartsOk.cons; rfl; apply PartsOk.cons; rfl; apply PartsOk.cons; rfl; exact PartsOk.nil; rfl; simp only [fillP, wrCells, Value.cells, List.getElem?_cons_zero, List.getElem?_cons_succ, List.toList_toArray, List.setIfInBounds_toArray, List.set_cons_succ, List.set_cons_zero, Nat.reduceAdd, Nat.zero_add]; rfl; apply LW.v0; rfl; rfl; apply ValP.buildT; infer_instance; infer_instance; apply PartsOk.cons; rfl; apply PartsOk.cons; rfl; apply PartsOk.cons; rfl; apply PartsOk.cons; rfl; exact PartsOk.nil; rfl; simp only [fillP, wrCells, Value.cells, List.getElem?_cons_zero, List.getElem?_cons_succ, List.toList_toArray, List.setIfInBounds_toArray, List.set_cons_succ, List.set_cons_zero, Nat.reduceAdd, Nat.zero_add]; rfl; apply LW.v0; rfl; rfl; apply ValP.buildT; infer_instance; infer_instance; apply PartsOk.cons; rfl; apply PartsOk.cons; rfl; apply PartsOk.cons; rfl; exact PartsOk.nil; rfl; simp only [fillP, wrCells, Value.cells, List.getElem?_cons_zero, List.getElem?_cons_succ, List.toList_toArray, List.setIfInBounds_toArray, List.set_cons_succ, List.set_cons_zero, Nat.reduceAdd, Nat.zero_add]; rfl; apply LW.v0; rfl; rfl; apply ValP.buildT; infer_instance; infer_instance; apply PartsOk.cons; rfl; apply PartsOk.cons; rfl; apply PartsOk.cons; rfl; exact PartsOk.nil; rfl; simp only [fillP, wrCells, Value.cells, List.getElem?_cons_zero, List.getElem?_cons_succ, List.toList_toArray, List.setIfInBounds_toArray, List.set_cons_succ, List.set_cons_zero, Nat.reduceAdd, Nat.zero_add]; rfl; apply LW.v0; rfl; rfl; apply ValP.buildT; infer_instance; infer_instance; apply PartsOk.cons; rfl; apply PartsOk.cons; rfl; apply PartsOk.cons; rfl; exact PartsOk.nil; rfl; simp only [fillP, wrCells, Value.cells, List.getElem?_cons_zero, List.getElem?_cons_succ, List.toList_toArray, List.setIfInBounds_toArray, List.set_cons_succ, List.set_cons_zero, Nat.reduceAdd, Nat.zero_add]; rfl; apply LW.v0; rfl; rfl; apply ValP.buildT; infer_instance; infer_instance; apply PartsOk.cons; rfl; apply PartsOk.cons; rfl; apply PartsOk.cons; rfl; apply PartsOk.cons; rfl; exact PartsOk.nil; rfl; simp only [fillP, wrCells, Value.cells, List.getElem?_cons_zero, List.getElem?_cons_succ, List.toList_toArray, List.setIfInBounds_toArray, List.set_cons_succ, List.set_cons_zero, Nat.reduceAdd, Nat.zero_add]; rfl; apply LW.v0; rfl; rfl; apply ValP.buildT; infer_instance; infer_instance; apply PartsOk.cons; rfl; apply PartsOk.cons; rfl; apply PartsOk.cons; rfl; exact PartsOk.nil; rfl; simp only [fillP, wrCells, Value.cells, List.getElem?_cons_zero, List.getElem?_cons_succ, List.toList_toArray, List.setIfInBounds_toArray, List.set_cons_succ, List.set_cons_zero, Nat.reduceAdd, Nat.zero_add]; rfl; apply LW.v0; rfl; rfl; apply ValP.buildT; infer_instance; infer_instance; apply PartsOk.cons; rfl; apply PartsOk.cons; rfl; apply PartsOk.cons; rfl; exact PartsOk.nil; rfl; simp only [fillP, wrCells, Value.cells, List.getElem?_cons_zero, List.getElem?_cons_succ, List.toList_toArray, List.setIfInBounds_toArray, List.set_cons_succ, List.set_cons_zero, Nat.reduceAdd, Nat.zero_add]; rfl; apply LW.v0; rfl; rfl; apply ValP.buildT; infer_instance; infer_instance; apply PartsOk.cons; rfl; apply PartsOk.cons; rfl; apply PartsOk.cons; rfl; exact PartsOk.nil; rfl; simp only [fillP, wrCells, Value.cells, List.getElem?_cons_zero, List.getElem?_cons_succ, List.toList_toArray, List.setIfInBounds_toArray, List.set_cons_succ, List.set_cons_zero, Nat.reduceAdd, Nat.zero_add]; rfl; apply LW.v0; rfl; rfl; apply ValP.buildT; infer_instance; infer_instance; apply PartsOk.cons; rfl; apply PartsOk.cons; rfl; apply PartsOk.cons; rfl; exact PartsOk.nil; rfl; simp only [fillP, wrCells, Value.cells, List.getElem?_cons_zero, List.getElem?_cons_succ, List.toList_toArray, List.setIfInBounds_toArray, List.set_cons_succ, List.set_cons_zero, Nat.reduceAdd, Nat.zero_add]; rfl; apply LW.v0; rfl; rfl; apply ValP.buildT; infer_instance; infer_instance; apply PartsOk.cons; rfl; apply PartsOk.cons; rfl; apply PartsOk.cons; rfl; exact PartsOk.nil; rfl; simp only [fillP, wrCells, Value.cells, List.getElem?_cons_zero, List.getElem?_cons_succ, List.toList_toArray, List.setIfInBounds_toArray, List.set_cons_succ, List.set_cons_zero, Nat.reduceAdd, Nat.zero_add]; rfl; apply LW.v0; rfl; rfl; apply ValP.buildT; infer_instance; infer_instance; apply PartsOk.cons; rfl; apply PartsOk.cons; rfl; apply PartsOk.cons; rfl; exact PartsOk.nil; rfl; simp only [fillP, wrCells, Value.cells, List.getElem?_cons_zero, List.getElem?_cons_succ, List.toList_toArray, List.setIfInBounds_toArray, List.set_cons_succ, List.set_cons_zero, Nat.reduceAdd, Nat.zero_add]; rfl; apply LW.v0; rfl; rfl; apply ValP.buildT; infer_instance; infer_instance; apply PartsOk.cons; rfl; apply PartsOk.cons; rfl; apply PartsOk.cons; rfl; exact PartsOk.nil; rfl; simp only [fillP, wrCells, Value.cells, List.getElem?_cons_zero, List.getElem?_cons_succ, List.toList_toArray, List.setIfInBounds_toArray, List.set_cons_succ, List.set_cons_zero, Nat.reduceAdd, Nat.zero_add]; rfl; apply LW.v0; rfl; rfl; apply ValP.buildT; infer_instance; infer_instance; apply PartsOk.cons; rfl; apply PartsOk.cons; rfl; apply PartsOk.cons; rfl; exact PartsOk.nil; rfl; simp only [fillP, wrCells, Value.cells, List.getElem?_cons_zero, List.getElem?_cons_succ, List.toList_toArray, List.setIfInBounds_toArray, List.set_cons_succ, List.set_cons_zero, Nat.reduceAdd, Nat.zero_add]; rfl; apply LW.v0; rfl; rfl; apply ValP.buildT; infer_instance; infer_instance; apply PartsOk.cons; rfl; apply PartsOk.cons; rfl; apply PartsOk.cons; rfl; exact PartsOk.nil; rfl; simp only [fillP, wrCells, Value.cells, List.getElem?_cons_zero, List.getElem?_cons_succ, List.toList_toArray, List.setIfInBounds_toArray, List.set_cons_succ, List.set_cons_zero, Nat.reduceAdd, Nat.zero_add]; rfl; apply LW.v0; rfl; rfl; apply ValP.buildT; infer_instance; infer_instance; apply PartsOk.cons; rfl; apply PartsOk.cons; rfl; apply PartsOk.cons; rfl; apply PartsOk.cons; rfl; exact PartsOk.nil; rfl; simp only [fillP, wrCells, Value.cells, List.getElem?_cons_zero, List.getElem?_cons_succ, List.toList_toArray, List.setIfInBounds_toArray, List.set_cons_succ, List.set_cons_zero, Nat.reduceAdd, Nat.zero_add]; rfl; apply LW.v0; rfl; rfl; apply ValP.buildT; infer_instance; infer_instance; apply PartsOk.cons; rfl; apply PartsOk.cons; rfl; apply PartsOk.cons; rfl; exact PartsOk.nil; rfl; simp only [fillP, wrCells, Value.cells, List.getElem?_cons_zero, List.getElem?_cons_succ, List.toList_toArray, List.setIfInBounds_toArray, List.set_cons_succ, List.set_cons_zero, Nat.reduceAdd, Nat.zero_add]; rfl; apply LW.v0; rfl; rfl; apply ValP.buildT; infer_instance; infer_instance; apply PartsOk.cons; rfl; apply PartsOk.cons; rfl; apply PartsOk.cons; rfl; exact PartsOk.nil; rfl; simp only [fillP, wrCells, Value.cells, List.getElem?_cons_zero, List.getElem?_cons_succ, List.toList_toArray, List.setIfInBounds_toArray, List.set_cons_succ, List.set_cons_zero, Nat.reduceAdd, Nat.zero_add]; rfl; apply LW.v0; rfl; rfl; apply ValP.buildT; infer_instance; infer_instance; apply PartsOk.cons; rfl; apply PartsOk.cons; rfl; apply PartsOk.cons; rfl; apply PartsOk.cons; rfl; exact PartsOk.nil; rfl; simp only [fillP, wrCells, Value.cells, List.getElem?_cons_zero, List.getElem?_cons_succ, List.toList_toArray, List.setIfInBounds_toArray, List.set_cons_succ, List.set_cons_zero, Nat.reduceAdd, Nat.zero_add]; rfl; apply LW.v0; rfl; rfl; apply ValP.buildT; infer_instance; infer_instance; apply PartsOk.cons; rfl; apply PartsOk.cons; rfl; apply PartsOk.cons; rfl; exact PartsOk.nil; rfl; simp only [fillP, wrCells, Value.cells, List.getElem?_cons_zero, List.getElem?_cons_succ, List.toList_toArray, List.setIfInBounds_toArray, List.set_cons_succ, List.set_cons_zero, Nat.reduceAdd, Nat.zero_add]; rfl; apply LW.v0; rfl; rfl; apply ValP.buildT; infer_instance; infer_instance; apply PartsOk.cons; rfl; apply PartsOk.cons; rfl; apply PartsOk.cons; rfl; exact PartsOk.nil; rfl; simp only [fillP, wrCells, Value.cells, List.getElem?_cons_zero, List.getElem?_cons_succ, List.toList_toArray, List.setIfInBounds_toArray, List.set_cons_succ, List.set_cons_zero, Nat.reduceAdd, Nat.zero_add]; rfl; apply LW.v0; rfl; rfl; apply ValP.buildT; infer_instance; infer_instance; apply PartsOk.cons; rfl; apply PartsOk.cons; rfl; apply PartsOk.cons; rfl; exact PartsOk.nil; rfl; simp only [fillP, wrCells, Value.cells, List.getElem?_cons_zero, List.getElem?_cons_succ, List.toList_toArray, List.setIfInBounds_toArray, List.set_cons_succ, List.set_cons_zero, Nat.reduceAdd, Nat.zero_add]; rfl; apply LW.v0; rfl; rfl; apply ValP.buildT; infer_instance; infer_instance; apply PartsOk.cons; rfl; apply PartsOk.cons; rfl; apply PartsOk.cons; rfl; exact PartsOk.nil; rfl; simp only [fillP, wrCells, Value.cells, List.getElem?_cons_zero, List.getElem?_cons_succ, List.toList_toArray, List.setIfInBounds_toArray, List.set_cons_succ, List.set_cons_zero, Nat.reduceAdd, Nat.zero_add]; rfl; apply LW.v0; rfl; rfl; apply ValP.buildT; infer_instance; infer_instance; apply PartsOk.cons; rfl; apply PartsOk.cons; rfl; exact PartsOk.nil; rfl; simp only [fillP, wrCells, Value.cells, List.getElem?_cons_zero, List.getElem?_cons_succ, List.toList_toArray, List.setIfInBounds_toArray, List.set_cons_succ, List.set_cons_zero, Nat.reduceAdd, Nat.zero_add]; rfl; apply LW.v0; rfl; rfl; apply ValP.buildT; infer_instance; infer_instance; apply PartsOk.cons; rfl; apply PartsOk.cons; rfl; apply PartsOk.cons; rfl; apply PartsOk.cons; rfl; exact PartsOk.nil; rfl; simp only [fillP, wrCells, Value.cells, List.getElem?_cons_zero, List.getElem?_cons_succ, List.toList_toArray, List.setIfInBounds_toArray, List.set_cons_succ, List.set_cons_zero, Nat.reduceAdd, Nat.zero_add]; rfl; apply LW.v0; rfl; rfl; apply ValP.buildT; infer_instance; infer_instance; apply PartsOk.cons; rfl; apply PartsOk.cons; rfl; apply PartsOk.cons; rfl; exact PartsOk.nil; rfl; simp only [fillP, wrCells, Value.cells, List.getElem?_cons_zero, List.getElem?_cons_succ, List.toList_toArray, List.setIfInBounds_toArray, List.set_cons_succ, List.set_cons_zero, Nat.reduceAdd, Nat.zero_add]; rfl; apply LW.v0; rfl; rfl; apply ValP.buildT; infer_instance; infer_instance; apply PartsOk.cons; rfl; apply PartsOk.cons; rfl; apply PartsOk.cons; rfl; apply PartsOk.cons; rfl; exact PartsOk.nil; rfl; simp only [fillP, wrCells, Value.cells, List.getElem?_cons_zero, List.getElem?_cons_succ, List.toList_toArray, List.setIfInBounds_toArray, List.set_cons_succ, List.set_cons_zero, Nat.reduceAdd, Nat.zero_add]; rfl; apply LW.v0; rfl; rfl; apply ValP.buildT; infer_instance; infer_instance; apply PartsOk.cons; rfl; apply PartsOk.cons; rfl; apply PartsOk.cons; rfl; exact PartsOk.nil; rfl; simp only [fillP, wrCells, Value.cells, List.getElem?_cons_zero, List.getElem?_cons_succ, List.toList_toArray, List.setIfInBounds_toArray, List.set_cons_succ, List.set_cons_zero, Nat.reduceAdd, Nat.zero_add]; rfl; apply LW.v0; rfl; rfl; apply ValP.buildT; infer_instance; infer_instance; apply PartsOk.cons; rfl; apply PartsOk.cons; rfl; apply PartsOk.cons; rfl; apply PartsOk.cons; rfl; exact PartsOk.nil; rfl; simp only [fillP, wrCells, Value.cells, List.getElem?_cons_zero, List.getElem?_cons_succ, List.toList_toArray, List.setIfInBounds_toArray, List.set_cons_succ, List.set_cons_zero, Nat.reduceAdd, Nat.zero_add]; rfl; apply LW.v0; rfl; rfl; apply ValP.buildT; infer_instance; infer_instance; apply PartsOk.cons; rfl; apply PartsOk.cons; rfl; apply PartsOk.cons; rfl; apply PartsOk.cons; rfl; exact PartsOk.nil; rfl; simp only [fillP, wrCells, Value.cells, List.getElem?_cons_zero, List.getElem?_cons_succ, List.toList_toArray, List.setIfInBounds_toArray, List.set_cons_succ, List.set_cons_zero, Nat.reduceAdd, Nat.zero_add]; rfl; apply LW.v0; rfl; rfl; apply ValP.buildT; infer_instance; infer_instance; apply PartsOk.cons; rfl; apply PartsOk.cons; rfl; apply PartsOk.cons; rfl; apply PartsOk.cons; rfl; exact PartsOk.nil; rfl; simp only [fillP, wrCells, Value.cells, List.getElem?_cons_zero, List.getElem?_cons_succ, List.toList_toArray, List.setIfInBounds_toArray, List.set_cons_succ, List.set_cons_zero, Nat.reduceAdd, Nat.zero_add]; rfl; apply LW.v0; rfl; rfl; apply ValP.buildT; infer_instance; infer_instance; apply PartsOk.cons; rfl; apply PartsOk.cons; rfl; apply PartsOk.cons; rfl; exact PartsOk.nil; rfl; simp only [fillP, wrCells, Value.cells, List.getElem?_cons_zero, List.getElem?_cons_succ, List.toList_toArray, List.setIfInBounds_toArray, List.set_cons_succ, List.set_cons_zero, Nat.reduceAdd, Nat.zero_add]; rfl; apply LW.v0; rfl; rfl; apply ValP.buildT; infer_instance; infer_instance; apply PartsOk.cons; rfl; apply PartsOk.cons; rfl; exact PartsOk.nil; rfl; simp only [fillP, wrCells, Value.cells, List.getElem?_cons_zero, List.getElem?_cons_succ, List.toList_toArray, List.setIfInBounds_toArray, List.set_cons_succ, List.set_cons_zero, Nat.reduceAdd, Nat.zero_add]; rfl)
  refine LW.n0 rfl rfl (NewP.buildSN (vs := plainOps.zipIdx.map fun p => (p.2, .agg (opc p.1))) (c := (opcs plainOps).toArray) inferInstance inferInstance (by (apply PartsOk.cons; rfl; apply PartsOk.cons; rfl; apply PartsOk.cons; rfl; apply PartsOk.cons; rfl; apply PartsOk.cons; rfl; apply PartsOk.cons; rfl; apply PartsOk.cons; rfl; apply PartsOk.cons; rfl; apply PartsOk.cons; rfl; apply PartsOk.cons; rfl; apply PartsOk.cons; rfl; apply PartsOk.cons; rfl; apply PartsOk.cons; rfl; apply PartsOk.cons; rfl; apply PartsOk.cons; rfl; apply PartsOk.cons; rfl; apply PartsOk.cons; rfl; apply PartsOk.cons; rfl; apply PartsOk.cons; rfl; apply PartsOk.cons; rfl; apply PartsOk.cons; rfl; apply PartsOk.cons; rfl; apply PartsOk.cons; rfl; apply PartsOk.cons; rfl; apply PartsOk.cons; rfl; apply PartsOk.cons; rfl; apply PartsOk.cons; rfl; apply PartsOk.cons; rfl; apply PartsOk.cons; rfl; apply PartsOk.cons; rfl; apply PartsOk.cons; rfl; apply PartsOk.cons; rfl; apply PartsOk.cons; rfl; apply PartsOk.cons; rfl; apply PartsOk.cons; rfl; apply PartsOk.cons; rfl; apply PartsOk.cons; rfl; apply PartsOk.cons; rfl; apply PartsOk.cons; rfl; apply PartsOk.cons; rfl; apply PartsOk.cons; rfl; apply PartsOk.cons; rfl; apply PartsOk.cons; rfl; apply PartsOk.cons; rfl; apply PartsOk.cons; rfl; apply PartsOk.cons; rfl; apply PartsOk.cons; rfl; apply PartsOk.cons; rfl; apply PartsOk.cons; rfl; apply PartsOk.cons; rfl; exact PartsOk.nil)) rfl rfl (by kernel_rfl) (by kernel_rfl)) fun g => ?_
  (apply LW.v0; rfl; rfl; apply ValP.assign; rfl; apply LW.nil; refine thenN ?_; refine CW.ret ?_)
  apply finM [(g, .cells (opcs plainOps).toArray 136 (0, 0))]; (exact .inl rfl); (exact Shut.nil); rfl; (apply ResL.cons; exact Res.tmp rfl; exact ResL.nil); exact List.Sublist.refl _
  exact ⟨g, rfl, rfl⟩
theorem opOf_none {b : Nat} (hr : rowOp b = none) (h : ∀ i (hi : i < plainOps.length), plainOps[i].c ≠ b) : opOf b = none := by
  unfold opOf
  rw [hr]
  refine List.find?_eq_none.2 fun x hx => ?_
  obtain ⟨i, hi, rfl⟩ := List.mem_iff_getElem.1 hx
  simpa using h i hi
theorem opOf_plain {b i : Nat} (hr : rowOp b = none) (hi : i < plainOps.length) (h : ∀ j (hj : j < i), plainOps[j].c ≠ b) (he : plainOps[i].c = b) : opOf b = some plainOps[i] := by
  unfold opOf
  rw [hr]
  exact List.find?_eq_some_iff_getElem.2 ⟨by simpa using he, i, hi, rfl, fun j hj => by simpa using h j hj⟩
theorem plain_rdc (i : Nat) (hi : i < plainOps.length) {E : TypeId} {fr : Nat × Nat} : Rd Tryz.prog 5 (.cells (opcs plainOps).toArray E fr) (0 + i * 5 + 0) (.int .u8 (plainOps[i].c : Int)) := by
  refine Rd.one' ?_
  rw [nth_eq, Nat.zero_add]
  exact flat_get (g := opl) (opl_len plainOps) (List.getElem?_eq_getElem hi) rfl
theorem rOf_calls (b : Nat) (hb : b < 256) (w : World) : Calls Tryz.prog 119 #[.int .u8 (b : Int)] w (Ret w (tupOp (opOf b))) := by
  have hl := itoa_len
  refine enter (args := [_]) _ [] [] Tryz.func119 rfl Tryz.ntmps119 rfl (by simp) .nil ?_
  have hlow : ∀ x, rowOp b = some x → opOf b = some x := fun x h => by unfold opOf; rw [h]
  rcases Nat.lt_or_ge b 96 with h1 | h1
  · have hr : rowOp b = none := by unfold rowOp; rw [if_neg (by omega), if_neg (by omega), if_neg (by omega)]
    (refine CW.seq ?_; refine CW.region ?_; apply LW.allocA; rfl; intro _; apply LW.v0; rfl; rfl; apply ValP.assign; rfl; apply LW.nil; refine thenN ?_; refine CW.seq ?_; refine CW.region ?_; apply LW.v0; rfl; rfl; apply ValP.move; rfl; apply LW.v0; rfl; rfl; apply ValP.convI; rfl; omega; omega; apply LW.v0; rfl; rfl; apply ValP.assign; rfl; apply LW.nil; refine thenN ?_; refine CW.seq ?_; refine CW.seq ?_; refine CW.region ?_; apply LW.v0; rfl; rfl; apply ValP.move; rfl; apply LW.v0; rfl; rfl; apply ValP.geqF; rfl; rfl; omega; apply LW.v0; rfl; rfl; apply ValP.move; rfl; apply LW.guardF'; rfl; rfl; simp only [Bool.not_true, Bool.not_false]; rfl; apply LW.guardF'; rfl; rfl; simp only [Bool.not_true, Bool.not_false]; rfl; apply LW.v0; rfl; rfl; apply ValP.pickF'; rfl; (with_reducible rfl); rfl; apply LW.nil; refine thenN ?_; apply CW.condF; rfl; (with_reducible rfl); refine CW.skip ?_; refine thenN ?_; refine CW.seq ?_; refine CW.seq ?_; refine CW.region ?_; apply LW.v0; rfl; rfl; apply ValP.move; rfl; apply LW.v0; rfl; rfl; apply ValP.geqF; rfl; rfl; omega; apply LW.v0; rfl; rfl; apply ValP.move; rfl; apply LW.guardF'; rfl; rfl; simp only [Bool.not_true, Bool.not_false]; rfl; apply LW.guardF'; rfl; rfl; simp only [Bool.not_true, Bool.not_false]; rfl; apply LW.v0; rfl; rfl; apply ValP.pickF'; rfl; (with_reducible rfl); rfl; apply LW.nil; refine thenN ?_; apply CW.condF; rfl; (with_reducible rfl); refine CW.skip ?_; refine thenN ?_; refine CW.seq ?_; refine CW.seq ?_; refine CW.region ?_; apply LW.v0; rfl; rfl; apply ValP.move; rfl; apply LW.v0; rfl; rfl; apply ValP.geqF; rfl; rfl; omega; apply LW.v0; rfl; rfl; apply ValP.move; rfl; apply LW.guardF'; rfl; rfl; simp only [Bool.not_true, Bool.not_false]; rfl; apply LW.guardF'; rfl; rfl; simp only [Bool.not_true, Bool.not_false]; rfl; apply LW.v0; rfl; rfl; apply ValP.pickF'; rfl; (with_reducible rfl); rfl; apply LW.nil; refine thenN ?_; apply CW.condF; rfl; (with_reducible rfl); refine CW.skip ?_; refine thenN ?_; refine CW.seq ?_; refine CW.region ?_)
    (apply LW.callR; rfl; rfl; infer_instance; exact ArgsOk.nil; intro w hs)
    exact rPlain_calls w
    intro vp gp hpl
    obtain ⟨bp, rfl, rfl⟩ := hpl
    rename_i bo
    (apply LW.v0; rfl; rfl; apply ValP.assign; rfl; apply LW.nil; refine thenN ?_; refine CW.seq ?_; refine CW.seq ?_; refine CW.region ?_; apply LW.v0; rfl; rfl; apply ValP.assign; rfl; apply LW.nil; refine thenN ?_; refine CW.block ?_)
    refine CW.loop (fun i : Nat => ([(0, .int .u8 (b : Int)), (2, .pointer (some ⟨bo, 0, none⟩)), (3, .bool false), (5, .slice (some ⟨bp, 0, none⟩) 50 50), (6, .int .i64 (i : Int))], [(bp, .cells (opcs plainOps).toArray 136 (0, 0)), (bo, .cells (opc zeroOp) 136 (0, 0))]))
      (fun i => i ≤ 50 ∧ ∀ j (hj : j < plainOps.length), j < i → plainOps[j].c ≠ b) (fun i => 50 - i) 0 ⟨Nat.zero_le _, fun j hj h => absurd h (Nat.not_lt_zero _)⟩ ⟨rfl, rfl, rfl, rfl, rfl, trivial⟩ (List.Sublist.refl _) ?_
    rintro i ⟨hi, hall⟩
    dsimp only
    rcases Nat.lt_or_ge i 50 with hlt | hge
    · have hlt' : i < plainOps.length := hlt
      have hrc := plain_rdc i hlt' (E := 136) (fr := (0, 0))
      have hrd := plain_rd i hlt' (E := 136) (fr := (0, 0))
      have hop := fun he => opOf_plain hr hlt' (fun j hj => hall j (by omega) hj) he
      obtain ⟨y, hy⟩ : ∃ y, plainOps[i] = y := ⟨_, rfl⟩
      rw [hy] at hrc hrd hop
      by_cases he : y.c = b
      · rw [hop he]
        (refine CW.seq ?_; refine CW.seq ?_; refine CW.region ?_; apply LW.v0; rfl; rfl; apply ValP.move; rfl; apply LW.v0; rfl; rfl; apply ValP.move; rfl; apply LW.v0; rfl; rfl; apply ValP.lenR; rfl; infer_instance; rfl; apply LW.v0; rfl; rfl; apply ValP.lssT; rfl; rfl; omega; apply LW.nil; refine thenN ?_; apply CW.condT; rfl; (with_reducible rfl); refine CW.skip ?_; refine thenN ?_; refine CW.seq ?_; refine CW.block ?_; refine CW.seq ?_; refine CW.region ?_; apply LW.v0; rfl; rfl; apply ValP.move; rfl; apply LW.v0; rfl; rfl; apply ValP.move; rfl; apply LW.v0; rfl; rfl; apply ValP.indexAddrS; rfl; rfl; rfl; omega; apply LW.v0; rfl; rfl; apply ValP.fieldAddr; rfl; rfl; apply LW.load; rfl; rfl; apply Known.at; apply FsAt.head; assumption; apply LW.v0; rfl; rfl; apply ValP.move; rfl; apply LW.v0; rfl; rfl; apply ValP.eqT; rfl; rfl; omega; apply LW.nil; refine thenN ?_; apply CW.condT; rfl; (with_reducible rfl); refine CW.seq ?_; refine CW.region ?_; apply LW.v0; rfl; rfl; apply ValP.move; rfl; apply LW.v0; rfl; rfl; apply ValP.move; rfl; apply LW.v0; rfl; rfl; apply ValP.indexAddrS; rfl; rfl; rfl; omega; apply LW.load; rfl; rfl; apply Known.at; apply FsAt.head; assumption; apply LW.store; rfl; rfl; apply SetAt.tail; apply SetAt.head; apply Wr.whole; kernel_rfl; kernel_rfl; kernel_rfl; apply LW.v0; rfl; rfl; apply ValP.assign; rfl; apply LW.nil; refine thenN ?_; refine CW.ret ?_; refine blkR ?_; refine thenR ?_; refine thenR ?_; refine blkR ?_; refine thenR ?_)
        (apply finR; exact .inl rfl; rfl; rfl; rfl; apply ResL.cons; apply Res.cell; rfl; apply Known.at; apply FsAt.tail; apply FsAt.head; exact Rd.whole rfl; apply ResL.cons; exact Res.tmp rfl; exact ResL.nil)
        rfl
      · (refine CW.seq ?_; refine CW.seq ?_; refine CW.region ?_; apply LW.v0; rfl; rfl; apply ValP.move; rfl; apply LW.v0; rfl; rfl; apply ValP.move; rfl; apply LW.v0; rfl; rfl; apply ValP.lenR; rfl; infer_instance; rfl; apply LW.v0; rfl; rfl; apply ValP.lssT; rfl; rfl; omega; apply LW.nil; refine thenN ?_; apply CW.condT; rfl; (with_reducible rfl); refine CW.skip ?_; refine thenN ?_; refine CW.seq ?_; refine CW.block ?_; refine CW.seq ?_; refine CW.region ?_; apply LW.v0; rfl; rfl; apply ValP.move; rfl; apply LW.v0; rfl; rfl; apply ValP.move; rfl; apply LW.v0; rfl; rfl; apply ValP.indexAddrS; rfl; rfl; rfl; omega; apply LW.v0; rfl; rfl; apply ValP.fieldAddr; rfl; rfl; apply LW.load; rfl; rfl; apply Known.at; apply FsAt.head; assumption; apply LW.v0; rfl; rfl; apply ValP.move; rfl; apply LW.v0; rfl; rfl; apply ValP.eqF; rfl; rfl; omega; apply LW.nil; refine thenN ?_; apply CW.condF; rfl; (with_reducible rfl); refine CW.skip ?_; refine blkN ?_; refine thenN ?_; refine CW.region ?_; apply LW.v0; rfl; rfl; apply ValP.move; rfl; apply LW.v0; rfl; rfl; apply ValP.addZL; rfl; rfl; decide; omega; apply LW.v0; rfl; rfl; apply ValP.assign; rfl; apply LW.nil)
        apply thenX
        refine ⟨rfl, i + 1, ⟨hlt, fun j hj hji => ?_⟩, by omega, ⟨rfl, rfl, rfl, rfl, rfl, trivial⟩, List.Sublist.refl _⟩
        rcases Nat.lt_or_ge j i with h | h
        · exact hall j hj h
        · obtain rfl : j = i := by omega
          rw [hy]; exact he
    · rw [opOf_none hr (fun j hj => hall j hj (by have : plainOps.length = 50 := rfl; omega))]
      (refine CW.seq ?_; refine CW.seq ?_; refine CW.region ?_; apply LW.v0; rfl; rfl; apply ValP.move; rfl; apply LW.v0; rfl; rfl; apply ValP.move; rfl; apply LW.v0; rfl; rfl; apply ValP.lenR; rfl; infer_instance; rfl; apply LW.v0; rfl; rfl; apply ValP.lssF; rfl; rfl; omega; apply LW.nil; refine thenN ?_; apply CW.condF; rfl; (with_reducible rfl); refine CW.exit ?_; refine thenE ?_; refine thenE ?_; refine blkE rfl ?_; refine thenN ?_; refine CW.seq ?_; refine CW.region ?_; apply LW.v0; rfl; rfl; apply ValP.buildT; infer_instance; infer_instance; exact PartsOk.nil; rfl; simp only [fillP, wrCells, Value.cells, List.getElem?_cons_zero, List.getElem?_cons_succ, List.toList_toArray, List.setIfInBounds_toArray, List.set_cons_succ, List.set_cons_zero, Nat.reduceAdd, Nat.zero_add]; rfl; apply LW.store; rfl; rfl; apply SetAt.tail; apply SetAt.head; apply Wr.whole; kernel_rfl; kernel_rfl; kernel_rfl; apply LW.v0; rfl; rfl; apply ValP.assign; rfl; apply LW.nil; refine thenN ?_; refine CW.ret ?_)
      (apply finR; exact .inl rfl; rfl; rfl; rfl; apply ResL.cons; apply Res.cell; rfl; apply Known.at; apply FsAt.tail; apply FsAt.head; exact Rd.whole rfl; apply ResL.cons; exact Res.tmp rfl; exact ResL.nil)
      rfl
  rcases Nat.lt_or_ge b 128 with h2 | h2
  · rw [hlow ⟨b, [80, 85, 83, 72] ++ itoa (b - 95), 0, 1, b - 95⟩ (by unfold rowOp; rw [if_pos (by omega)])]
    have hn := number_calls (b - 95) (by omega)
    have hl1 := hl (b - 95)
    (refine CW.seq ?_; refine CW.region ?_; apply LW.allocA; rfl; intro _; apply LW.v0; rfl; rfl; apply ValP.assign; rfl; apply LW.nil; refine thenN ?_; refine CW.seq ?_; refine CW.region ?_; apply LW.v0; rfl; rfl; apply ValP.move; rfl; apply LW.v0; rfl; rfl; apply ValP.convI; rfl; omega; omega; apply LW.v0; rfl; rfl; apply ValP.assign; rfl; apply LW.nil; refine thenN ?_; refine CW.seq ?_; refine CW.seq ?_; refine CW.region ?_; apply LW.v0; rfl; rfl; apply ValP.move; rfl; apply LW.v0; rfl; rfl; apply ValP.geqT; rfl; rfl; omega; apply LW.v0; rfl; rfl; apply ValP.move; rfl; apply LW.guardT'; rfl; rfl; (with_reducible rfl); apply LW.v0; rfl; rfl; apply ValP.move; rfl; apply LW.guardT'; rfl; rfl; (with_reducible rfl); apply LW.v0; rfl; rfl; apply ValP.leqT; rfl; rfl; omega; apply LW.v0; rfl; rfl; apply ValP.pickT'; rfl; (with_reducible rfl); rfl; apply LW.nil; refine thenN ?_; apply CW.condT; rfl; (with_reducible rfl); refine CW.seq ?_; refine CW.region ?_; apply LW.v0; rfl; rfl; apply ValP.move; rfl; apply LW.v0; rfl; rfl; apply ValP.move; rfl; apply LW.v0; rfl; rfl; apply ValP.subZL; rfl; rfl; decide; omega; omega; apply LW.callE; rfl; rfl; infer_instance; apply ArgsOk.cons; rfl; exact ArgsOk.nil; intro w _; exact hn w; apply LW.v0; rfl; rfl; apply ValP.addStr; rfl; rfl; simp; omega; apply LW.v0; rfl; rfl; apply ValP.move; rfl; apply LW.v0; rfl; rfl; apply ValP.subZL; rfl; rfl; decide; omega; omega; apply LW.v0; rfl; rfl; apply ValP.buildT; infer_instance; infer_instance; apply PartsOk.cons; rfl; apply PartsOk.cons; rfl; apply PartsOk.cons; rfl; apply PartsOk.cons; rfl; exact PartsOk.nil; rfl; simp only [fillP, wrCells, Value.cells, List.getElem?_cons_zero, List.getElem?_cons_succ, List.toList_toArray, List.setIfInBounds_toArray, List.set_cons_succ, List.set_cons_zero, Nat.reduceAdd, Nat.zero_add]; rfl; apply LW.store; rfl; rfl; apply SetAt.head; apply Wr.whole; kernel_rfl; kernel_rfl; kernel_rfl; apply LW.v0; rfl; rfl; apply ValP.assign; rfl; apply LW.nil; refine thenN ?_; refine CW.ret ?_; refine thenR ?_)
    (apply finR; exact .inl rfl; rfl; rfl; rfl; apply ResL.cons; apply Res.cell; rfl; apply Known.at; apply FsAt.head; exact Rd.whole rfl; apply ResL.cons; exact Res.tmp rfl; exact ResL.nil)
    rfl
  rcases Nat.lt_or_ge b 144 with h3 | h3
  · rw [hlow ⟨b, [68, 85, 80] ++ itoa (b - 127), b - 127, b - 126, 0⟩ (by unfold rowOp; rw [if_neg (by omega), if_pos (by omega)])]
    have hn := number_calls (b - 127) (by omega)
    have hl1 := hl (b - 127)
    (refine CW.seq ?_; refine CW.region ?_; apply LW.allocA; rfl; intro _; apply LW.v0; rfl; rfl; apply ValP.assign; rfl; apply LW.nil; refine thenN ?_; refine CW.seq ?_; refine CW.region ?_; apply LW.v0; rfl; rfl; apply ValP.move; rfl; apply LW.v0; rfl; rfl; apply ValP.convI; rfl; omega; omega; apply LW.v0; rfl; rfl; apply ValP.assign; rfl; apply LW.nil; refine thenN ?_; refine CW.seq ?_; refine CW.seq ?_; refine CW.region ?_; apply LW.v0; rfl; rfl; apply ValP.move; rfl; apply LW.v0; rfl; rfl; apply ValP.geqT; rfl; rfl; omega; apply LW.v0; rfl; rfl; apply ValP.move; rfl; apply LW.guardT'; rfl; rfl; (with_reducible rfl); apply LW.v0; rfl; rfl; apply ValP.move; rfl; apply LW.guardT'; rfl; rfl; (with_reducible rfl); apply LW.v0; rfl; rfl; apply ValP.leqF; rfl; rfl; omega; apply LW.v0; rfl; rfl; apply ValP.pickT'; rfl; (with_reducible rfl); rfl; apply LW.nil; refine thenN ?_; apply CW.condF; rfl; (with_reducible rfl); refine CW.skip ?_; refine thenN ?_; refine CW.seq ?_; refine CW.seq ?_; refine CW.region ?_; apply LW.v0; rfl; rfl; apply ValP.move; rfl; apply LW.v0; rfl; rfl; apply ValP.geqT; rfl; rfl; omega; apply LW.v0; rfl; rfl; apply ValP.move; rfl; apply LW.guardT'; rfl; rfl; (with_reducible rfl); apply LW.v0; rfl; rfl; apply ValP.move; rfl; apply LW.guardT'; rfl; rfl; (with_reducible rfl); apply LW.v0; rfl; rfl; apply ValP.leqT; rfl; rfl; omega; apply LW.v0; rfl; rfl; apply ValP.pickT'; rfl; (with_reducible rfl); rfl; apply LW.nil; refine thenN ?_; apply CW.condT; rfl; (with_reducible rfl); refine CW.seq ?_; refine CW.region ?_; apply LW.v0; rfl; rfl; apply ValP.move; rfl; apply LW.v0; rfl; rfl; apply ValP.move; rfl; apply LW.v0; rfl; rfl; apply ValP.subZL; rfl; rfl; decide; omega; omega; apply LW.callE; rfl; rfl; infer_instance; apply ArgsOk.cons; rfl; exact ArgsOk.nil; intro w _; exact hn w; apply LW.v0; rfl; rfl; apply ValP.addStr; rfl; rfl; simp; omega; apply LW.v0; rfl; rfl; apply ValP.move; rfl; apply LW.v0; rfl; rfl; apply ValP.subZL; rfl; rfl; decide; omega; omega; apply LW.v0; rfl; rfl; apply ValP.move; rfl; apply LW.v0; rfl; rfl; apply ValP.subZL; rfl; rfl; decide; omega; omega; apply LW.v0; rfl; rfl; apply ValP.buildT; infer_instance; infer_instance; apply PartsOk.cons; rfl; apply PartsOk.cons; rfl; apply PartsOk.cons; rfl; apply PartsOk.cons; rfl; exact PartsOk.nil; rfl; simp only [fillP, wrCells, Value.cells, List.getElem?_cons_zero, List.getElem?_cons_succ, List.toList_toArray, List.setIfInBounds_toArray, List.set_cons_succ, List.set_cons_zero, Nat.reduceAdd, Nat.zero_add]; rfl; apply LW.store; rfl; rfl; apply SetAt.head; apply Wr.whole; kernel_rfl; kernel_rfl; kernel_rfl; apply LW.v0; rfl; rfl; apply ValP.assign; rfl; apply LW.nil; refine thenN ?_; refine CW.ret ?_; refine thenR ?_)
    (apply finR; exact .inl rfl; rfl; rfl; rfl; apply ResL.cons; apply Res.cell; rfl; apply Known.at; apply FsAt.head; exact Rd.whole rfl; apply ResL.cons; exact Res.tmp rfl; exact ResL.nil)
    rfl
  rcases Nat.lt_or_ge b 160 with h4 | h4
  · rw [hlow ⟨b, [83, 87, 65, 80] ++ itoa (b - 143), b - 142, b - 142, 0⟩ (by unfold rowOp; rw [if_neg (by omega), if_neg (by omega), if_pos (by omega)])]
    have hn := number_calls (b - 143) (by omega)
    have hl1 := hl (b - 143)
    (refine CW.seq ?_; refine CW.region ?_; apply LW.allocA; rfl; intro _; apply LW.v0; rfl; rfl; apply ValP.assign; rfl; apply LW.nil; refine thenN ?_; refine CW.seq ?_; refine CW.region ?_; apply LW.v0; rfl; rfl; apply ValP.move; rfl; apply LW.v0; rfl; rfl; apply ValP.convI; rfl; omega; omega; apply LW.v0; rfl; rfl; apply ValP.assign; rfl; apply LW.nil; refine thenN ?_; refine CW.seq ?_; refine CW.seq ?_; refine CW.region ?_; apply LW.v0; rfl; rfl; apply ValP.move; rfl; apply LW.v0; rfl; rfl; apply ValP.geqT; rfl; rfl; omega; apply LW.v0; rfl; rfl; apply ValP.move; rfl; apply LW.guardT'; rfl; rfl; (with_reducible rfl); apply LW.v0; rfl; rfl; apply ValP.move; rfl; apply LW.guardT'; rfl; rfl; (with_reducible rfl); apply LW.v0; rfl; rfl; apply ValP.leqF; rfl; rfl; omega; apply LW.v0; rfl; rfl; apply ValP.pickT'; rfl; (with_reducible rfl); rfl; apply LW.nil; refine thenN ?_; apply CW.condF; rfl; (with_reducible rfl); refine CW.skip ?_; refine thenN ?_; refine CW.seq ?_; refine CW.seq ?_; refine CW.region ?_; apply LW.v0; rfl; rfl; apply ValP.move; rfl; apply LW.v0; rfl; rfl; apply ValP.geqT; rfl; rfl; omega; apply LW.v0; rfl; rfl; apply ValP.move; rfl; apply LW.guardT'; rfl; rfl; (with_reducible rfl); apply LW.v0; rfl; rfl; apply ValP.move; rfl; apply LW.guardT'; rfl; rfl; (with_reducible rfl); apply LW.v0; rfl; rfl; apply ValP.leqF; rfl; rfl; omega; apply LW.v0; rfl; rfl; apply ValP.pickT'; rfl; (with_reducible rfl); rfl; apply LW.nil; refine thenN ?_; apply CW.condF; rfl; (with_reducible rfl); refine CW.skip ?_; refine thenN ?_; refine CW.seq ?_; refine CW.seq ?_; refine CW.region ?_; apply LW.v0; rfl; rfl; apply ValP.move; rfl; apply LW.v0; rfl; rfl; apply ValP.geqT; rfl; rfl; omega; apply LW.v0; rfl; rfl; apply ValP.move; rfl; apply LW.guardT'; rfl; rfl; (with_reducible rfl); apply LW.v0; rfl; rfl; apply ValP.move; rfl; apply LW.guardT'; rfl; rfl; (with_reducible rfl); apply LW.v0; rfl; rfl; apply ValP.leqT; rfl; rfl; omega; apply LW.v0; rfl; rfl; apply ValP.pickT'; rfl; (with_reducible rfl); rfl; apply LW.nil; refine thenN ?_; apply CW.condT; rfl; (with_reducible rfl); refine CW.seq ?_; refine CW.region ?_; apply LW.v0; rfl; rfl; apply ValP.move; rfl; apply LW.v0; rfl; rfl; apply ValP.move; rfl; apply LW.v0; rfl; rfl; apply ValP.subZL; rfl; rfl; decide; omega; omega; apply LW.callE; rfl; rfl; infer_instance; apply ArgsOk.cons; rfl; exact ArgsOk.nil; intro w _; exact hn w; apply LW.v0; rfl; rfl; apply ValP.addStr; rfl; rfl; simp; omega; apply LW.v0; rfl; rfl; apply ValP.move; rfl; apply LW.v0; rfl; rfl; apply ValP.subZL; rfl; rfl; decide; omega; omega; apply LW.v0; rfl; rfl; apply ValP.move; rfl; apply LW.v0; rfl; rfl; apply ValP.subZL; rfl; rfl; decide; omega; omega; apply LW.v0; rfl; rfl; apply ValP.buildT; infer_instance; infer_instance; apply PartsOk.cons; rfl; apply PartsOk.cons; rfl; apply PartsOk.cons; rfl; apply PartsOk.cons; rfl; exact PartsOk.nil; rfl; simp only [fillP, wrCells, Value.cells, List.getElem?_cons_zero, List.getElem?_cons_succ, List.toList_toArray, List.setIfInBounds_toArray, List.set_cons_succ, List.set_cons_zero, Nat.reduceAdd, Nat.zero_add]; rfl; apply LW.store; rfl; rfl; apply SetAt.head; apply Wr.whole; kernel_rfl; kernel_rfl; kernel_rfl; apply LW.v0; rfl; rfl; apply ValP.assign; rfl; apply LW.nil; refine thenN ?_; refine CW.ret ?_; refine thenR ?_)
    (apply finR; exact .inl rfl; rfl; rfl; rfl; apply ResL.cons; apply Res.cell; rfl; apply Known.at; apply FsAt.head; exact Rd.whole rfl; apply ResL.cons; exact Res.tmp rfl; exact ResL.nil)
    rfl
  · have hr : rowOp b = none := by unfold rowOp; rw [if_neg (by omega), if_neg (by omega), if_neg (by omega)]
    (refine CW.seq ?_; refine CW.region ?_; apply LW.allocA; rfl; intro _; apply LW.v0; rfl; rfl; apply ValP.assign; rfl; apply LW.nil; refine thenN ?_; refine CW.seq ?_; refine CW.region ?_; apply LW.v0; rfl; rfl; apply ValP.move; rfl; apply LW.v0; rfl; rfl; apply ValP.convI; rfl; omega; omega; apply LW.v0; rfl; rfl; apply ValP.assign; rfl; apply LW.nil; refine thenN ?_; refine CW.seq ?_; refine CW.seq ?_; refine CW.region ?_; apply LW.v0; rfl; rfl; apply ValP.move; rfl; apply LW.v0; rfl; rfl; apply ValP.geqT; rfl; rfl; omega; apply LW.v0; rfl; rfl; apply ValP.move; rfl; apply LW.guardT'; rfl; rfl; (with_reducible rfl); apply LW.v0; rfl; rfl; apply ValP.move; rfl; apply LW.guardT'; rfl; rfl; (with_reducible rfl); apply LW.v0; rfl; rfl; apply ValP.leqF; rfl; rfl; omega; apply LW.v0; rfl; rfl; apply ValP.pickT'; rfl; (with_reducible rfl); rfl; apply LW.nil; refine thenN ?_; apply CW.condF; rfl; (with_reducible rfl); refine CW.skip ?_; refine thenN ?_; refine CW.seq ?_; refine CW.seq ?_; refine CW.region ?_; apply LW.v0; rfl; rfl; apply ValP.move; rfl; apply LW.v0; rfl; rfl; apply ValP.geqT; rfl; rfl; omega; apply LW.v0; rfl; rfl; apply ValP.move; rfl; apply LW.guardT'; rfl; rfl; (with_reducible rfl); apply LW.v0; rfl; rfl; apply ValP.move; rfl; apply LW.guardT'; rfl; rfl; (with_reducible rfl); apply LW.v0; rfl; rfl; apply ValP.leqF; rfl; rfl; omega; apply LW.v0; rfl; rfl; apply ValP.pickT'; rfl; (with_reducible rfl); rfl; apply LW.nil; refine thenN ?_; apply CW.condF; rfl; (with_reducible rfl); refine CW.skip ?_; refine thenN ?_; refine CW.seq ?_; refine CW.seq ?_; refine CW.region ?_; apply LW.v0; rfl; rfl; apply ValP.move; rfl; apply LW.v0; rfl; rfl; apply ValP.geqT; rfl; rfl; omega; apply LW.v0; rfl; rfl; apply ValP.move; rfl; apply LW.guardT'; rfl; rfl; (with_reducible rfl); apply LW.v0; rfl; rfl; apply ValP.move; rfl; apply LW.guardT'; rfl; rfl; (with_reducible rfl); apply LW.v0; rfl; rfl; apply ValP.leqF; rfl; rfl; omega; apply LW.v0; rfl; rfl; apply ValP.pickT'; rfl; (with_reducible rfl); rfl; apply LW.nil; refine thenN ?_; apply CW.condF; rfl; (with_reducible rfl); refine CW.skip ?_; refine thenN ?_; refine CW.seq ?_; refine CW.region ?_)
    (apply LW.callR; rfl; rfl; infer_instance; exact ArgsOk.nil; intro w hs)
    exact rPlain_calls w
    intro vp gp hpl
    obtain ⟨bp, rfl, rfl⟩ := hpl
    rename_i bo
    (apply LW.v0; rfl; rfl; apply ValP.assign; rfl; apply LW.nil; refine thenN ?_; refine CW.seq ?_; refine CW.seq ?_; refine CW.region ?_; apply LW.v0; rfl; rfl; apply ValP.assign; rfl; apply LW.nil; refine thenN ?_; refine CW.block ?_)
    refine CW.loop (fun i : Nat => ([(0, .int .u8 (b : Int)), (2, .pointer (some ⟨bo, 0, none⟩)), (3, .bool false), (5, .slice (some ⟨bp, 0, none⟩) 50 50), (6, .int .i64 (i : Int))], [(bp, .cells (opcs plainOps).toArray 136 (0, 0)), (bo, .cells (opc zeroOp) 136 (0, 0))]))
      (fun i => i ≤ 50 ∧ ∀ j (hj : j < plainOps.length), j < i → plainOps[j].c ≠ b) (fun i => 50 - i) 0 ⟨Nat.zero_le _, fun j hj h => absurd h (Nat.not_lt_zero _)⟩ ⟨rfl, rfl, rfl, rfl, rfl, trivial⟩ (List.Sublist.refl _) ?_
    rintro i ⟨hi, hall⟩
    dsimp only
    rcases Nat.lt_or_ge i 50 with hlt | hge
    · have hlt' : i < plainOps.length := hlt
      have hrc := plain_rdc i hlt' (E := 136) (fr := (0, 0))
      have hrd := plain_rd i hlt' (E := 136) (fr := (0, 0))
      have hop := fun he => opOf_plain hr hlt' (fun j hj => hall j (by omega) hj) he
      obtain ⟨y, hy⟩ : ∃ y, plainOps[i] = y := ⟨_, rfl⟩
      rw [hy] at hrc hrd hop
      by_cases he : y.c = b
      · rw [hop he]
        (refine CW.seq ?_; refine CW.seq ?_; refine CW.region ?_; apply LW.v0; rfl; rfl; apply ValP.move; rfl; apply LW.v0; rfl; rfl; apply ValP.move; rfl; apply LW.v0; rfl; rfl; apply ValP.lenR; rfl; infer_instance; rfl; apply LW.v0; rfl; rfl; apply ValP.lssT; rfl; rfl; omega; apply LW.nil; refine thenN ?_; apply CW.condT; rfl; (with_reducible rfl); refine CW.skip ?_; refine thenN ?_; refine CW.seq ?_; refine CW.block ?_; refine CW.seq ?_; refine CW.region ?_; apply LW.v0; rfl; rfl; apply ValP.move; rfl; apply LW.v0; rfl; rfl; apply ValP.move; rfl; apply LW.v0; rfl; rfl; apply ValP.indexAddrS; rfl; rfl; rfl; omega; apply LW.v0; rfl; rfl; apply ValP.fieldAddr; rfl; rfl; apply LW.load; rfl; rfl; apply Known.at; apply FsAt.head; assumption; apply LW.v0; rfl; rfl; apply ValP.move; rfl; apply LW.v0; rfl; rfl; apply ValP.eqT; rfl; rfl; omega; apply LW.nil; refine thenN ?_; apply CW.condT; rfl; (with_reducible rfl); refine CW.seq ?_; refine CW.region ?_; apply LW.v0; rfl; rfl; apply ValP.move; rfl; apply LW.v0; rfl; rfl; apply ValP.move; rfl; apply LW.v0; rfl; rfl; apply ValP.indexAddrS; rfl; rfl; rfl; omega; apply LW.load; rfl; rfl; apply Known.at; apply FsAt.head; assumption; apply LW.store; rfl; rfl; apply SetAt.tail; apply SetAt.head; apply Wr.whole; kernel_rfl; kernel_rfl; kernel_rfl; apply LW.v0; rfl; rfl; apply ValP.assign; rfl; apply LW.nil; refine thenN ?_; refine CW.ret ?_; refine blkR ?_; refine thenR ?_; refine thenR ?_; refine blkR ?_; refine thenR ?_)
        (apply finR; exact .inl rfl; rfl; rfl; rfl; apply ResL.cons; apply Res.cell; rfl; apply Known.at; apply FsAt.tail; apply FsAt.head; exact Rd.whole rfl; apply ResL.cons; exact Res.tmp rfl; exact ResL.nil)
        rfl
      · (refine CW.seq ?_; refine CW.seq ?_; refine CW.region ?_; apply LW.v0; rfl; rfl; apply ValP.move; rfl; apply LW.v0; rfl; rfl; apply ValP.move; rfl; apply LW.v0; rfl; rfl; apply ValP.lenR; rfl; infer_instance; rfl; apply LW.v0; rfl; rfl; apply ValP.lssT; rfl; rfl; omega; apply LW.nil; refine thenN ?_; apply CW.condT; rfl; (with_reducible rfl); refine CW.skip ?_; refine thenN ?_; refine CW.seq ?_; refine CW.block ?_; refine CW.seq ?_; refine CW.region ?_; apply LW.v0; rfl; rfl; apply ValP.move; rfl; apply LW.v0; rfl; rfl; apply ValP.move; rfl; apply LW.v0; rfl; rfl; apply ValP.indexAddrS; rfl; rfl; rfl; omega; apply LW.v0; rfl; rfl; apply ValP.fieldAddr; rfl; rfl; apply LW.load; rfl; rfl; apply Known.at; apply FsAt.head; assumption; apply LW.v0; rfl; rfl; apply ValP.move; rfl; apply LW.v0; rfl; rfl; apply ValP.eqF; rfl; rfl; omega; apply LW.nil; refine thenN ?_; apply CW.condF; rfl; (with_reducible rfl); refine CW.skip ?_; refine blkN ?_; refine thenN ?_; refine CW.region ?_; apply LW.v0; rfl; rfl; apply ValP.move; rfl; apply LW.v0; rfl; rfl; apply ValP.addZL; rfl; rfl; decide; omega; apply LW.v0; rfl; rfl; apply ValP.assign; rfl; apply LW.nil)
        apply thenX
        refine ⟨rfl, i + 1, ⟨hlt, fun j hj hji => ?_⟩, by omega, ⟨rfl, rfl, rfl, rfl, rfl, trivial⟩, List.Sublist.refl _⟩
        rcases Nat.lt_or_ge j i with h | h
        · exact hall j hj h
        · obtain rfl : j = i := by omega
          rw [hy]; exact he
    · rw [opOf_none hr (fun j hj => hall j hj (by have : plainOps.length = 50 := rfl; omega))]
      (refine CW.seq ?_; refine CW.seq ?_; refine CW.region ?_; apply LW.v0; rfl; rfl; apply ValP.move; rfl; apply LW.v0; rfl; rfl; apply ValP.move; rfl; apply LW.v0; rfl; rfl; apply ValP.lenR; rfl; infer_instance; rfl; apply LW.v0; rfl; rfl; apply ValP.lssF; rfl; rfl; omega; apply LW.nil; refine thenN ?_; apply CW.condF; rfl; (with_reducible rfl); refine CW.exit ?_; refine thenE ?_; refine thenE ?_; refine blkE rfl ?_; refine thenN ?_; refine CW.seq ?_; refine CW.region ?_; apply LW.v0; rfl; rfl; apply ValP.buildT; infer_instance; infer_instance; exact PartsOk.nil; rfl; simp only [fillP, wrCells, Value.cells, List.getElem?_cons_zero, List.getElem?_cons_succ, List.toList_toArray, List.setIfInBounds_toArray, List.set_cons_succ, List.set_cons_zero, Nat.reduceAdd, Nat.zero_add]; rfl; apply LW.store; rfl; rfl; apply SetAt.tail; apply SetAt.head; apply Wr.whole; kernel_rfl; kernel_rfl; kernel_rfl; apply LW.v0; rfl; rfl; apply ValP.assign; rfl; apply LW.nil; refine thenN ?_; refine CW.ret ?_)
      (apply finR; exact .inl rfl; rfl; rfl; rfl; apply ResL.cons; apply Res.cell; rfl; apply Known.at; apply FsAt.tail; apply FsAt.head; exact Rd.whole rfl; apply ResL.cons; exact Res.tmp rfl; exact ResL.nil)
      rfl
end Go.Proofs.YtpgdnfgjbhdbpaaGreatDoor.CK

/-
  The operation of a name; which bytes are programs; how much data belongs to a byte: contracts.
  Conditions: none.
-/
namespace Go.Proofs.YtpgdnfgjbhdbpaaGreatDoor.CK
open Go Go.RowKit SL
set_option maxRecDepth 8000
set_option maxHeartbeats 4000000
set_option linter.unusedSimpArgs false
set_option linter.unusedVariables false
attribute [local irreducible] SL.CW SL.LW SL.DW Calls SL.Ret SL.RetG SL.beginQ SL.roundQ SL.rangeQ SL.inQ SL.RW SL.AnyW SL.thenQ SL.thenC SL.thenW SL.blkQ SL.finQ SL.ValP SL.NewP SL.SetP SL.CallP SL.Rd SL.Wr SL.Known
attribute [local irreducible] opOf
/-- The operation of byte b, if its name is s. -/
def hit (s : List UInt8) (b : Nat) : Option OpV := match opOf b with
  | some x => if x.nm = s then some x else none
  | none => none
def named (s : List UInt8) : Option OpV := (List.range 256).findSome? (hit s)
attribute [local irreducible] named
/-! ### Sizes -/
/-- The data that belongs to a byte. -/
def szOf (b : Nat) : Nat := match opOf b with
  | some x => x.dt
  | none => 0
attribute [local irreducible] szOf
theorem size_calls (b : Nat) (hb : b < 256) (w : World) : Calls Tryz.prog 84 #[.int .u8 (b : Int)] w (Ret w (.int .i64 (szOf b : Int))) := by
  have hOf0 := rOf_calls b hb
  refine enter (args := [_]) _ [] [] Tryz.func84 rfl Tryz.ntmps84 rfl (by simp) .nil ?_
  cases ho : opOf b with
  | none =>
    rw [ho] at hOf0
    have hOf : ∀ w, Calls Tryz.prog 119 #[.int .u8 (b : Int)] w (Ret w (.tuple #[.agg (opc zeroOp), .bool false])) := hOf0
    rw [show szOf b = 0 by unfold szOf; rw [ho]]
    (refine CW.seq ?_; refine CW.region ?_; apply LW.v0; rfl; rfl; apply ValP.assign; rfl; apply LW.nil; refine thenN ?_; refine CW.seq ?_; refine CW.region ?_; apply LW.v0; rfl; rfl; apply ValP.move; rfl; apply LW.callE; rfl; rfl; infer_instance; apply ArgsOk.cons; rfl; exact ArgsOk.nil; intro w _; exact hOf w; apply LW.v0; rfl; rfl; apply ValP.move; rfl; apply LW.v0; rfl; rfl; apply ValP.extractN; rfl; rfl; apply LW.v0; rfl; rfl; apply ValP.extractN; rfl; rfl; apply LW.allocA; rfl; intro _; apply LW.store; rfl; rfl; apply SetAt.head; apply Wr.whole; kernel_rfl; kernel_rfl; kernel_rfl; apply LW.v0; rfl; rfl; apply ValP.assign; rfl; apply LW.nil; refine thenN ?_; refine CW.seq ?_; refine CW.region ?_; apply LW.v0; rfl; rfl; apply ValP.fieldAddr; rfl; rfl; apply LW.load; rfl; rfl; apply Known.at; apply FsAt.head; exact Rd.one' rfl; apply LW.v0; rfl; rfl; apply ValP.assign; rfl; apply LW.nil; refine thenN ?_; refine CW.ret ?_)
    (apply finR; exact .inl rfl; rfl; rfl; rfl; apply ResL.cons; exact Res.tmp rfl; exact ResL.nil)
    rfl
  | some x =>
    rw [ho] at hOf0
    have hOf : ∀ w, Calls Tryz.prog 119 #[.int .u8 (b : Int)] w (Ret w (.tuple #[.agg (opc x), .bool true])) := hOf0
    rw [show szOf b = x.dt by unfold szOf; rw [ho]]
    (refine CW.seq ?_; refine CW.region ?_; apply LW.v0; rfl; rfl; apply ValP.assign; rfl; apply LW.nil; refine thenN ?_; refine CW.seq ?_; refine CW.region ?_; apply LW.v0; rfl; rfl; apply ValP.move; rfl; apply LW.callE; rfl; rfl; infer_instance; apply ArgsOk.cons; rfl; exact ArgsOk.nil; intro w _; exact hOf w; apply LW.v0; rfl; rfl; apply ValP.move; rfl; apply LW.v0; rfl; rfl; apply ValP.extractN; rfl; rfl; apply LW.v0; rfl; rfl; apply ValP.extractN; rfl; rfl; apply LW.allocA; rfl; intro _; apply LW.store; rfl; rfl; apply SetAt.head; apply Wr.whole; kernel_rfl; kernel_rfl; kernel_rfl; apply LW.v0; rfl; rfl; apply ValP.assign; rfl; apply LW.nil; refine thenN ?_; refine CW.seq ?_; refine CW.region ?_; apply LW.v0; rfl; rfl; apply ValP.fieldAddr; rfl; rfl; apply LW.load; rfl; rfl; apply Known.at; apply FsAt.head; exact Rd.one' rfl; apply LW.v0; rfl; rfl; apply ValP.assign; rfl; apply LW.nil; refine thenN ?_; refine CW.ret ?_)
    (apply finR; exact .inl rfl; rfl; rfl; rfl; apply ResL.cons; exact Res.tmp rfl; exact ResL.nil)
    rfl
theorem Right_calls (v : Value) (n : Nat) (xs : List Value) (w : World) (hv : RowAt w 1 v n xs) : Calls Tryz.prog 50 #[v] w (Ret w (.bool (decide (n ≤ 200)))) := by
  obtain ⟨p, c, rfl, hc, hm⟩ := hv.form
  refine enter (args := [_]) _ [] [] Tryz.func50 rfl Tryz.ntmps50 rfl (by simp) .nil ?_
  (refine CW.seq ?_; refine CW.region ?_; apply LW.v0; rfl; rfl; apply ValP.assign; rfl; apply LW.nil; refine thenN ?_; refine CW.seq ?_; refine CW.region ?_; apply LW.v0; rfl; rfl; apply ValP.move; rfl; apply LW.v0; rfl; rfl; apply ValP.lenR; rfl; infer_instance; rfl; apply LW.v0; rfl; rfl; apply ValP.leq; rfl; rfl; apply LW.v0; rfl; rfl; apply ValP.assign; rfl; apply LW.nil; refine thenN ?_; refine CW.ret ?_)
  (apply finR; exact .inl rfl; rfl; rfl; rfl; apply ResL.cons; exact Res.tmp rfl; exact ResL.nil)
  rw [show decide (n ≤ 200) = decide (((n : Nat) : Int) ≤ 200) from decide_eq_decide.2 (by omega)]
  rfl
theorem CheckC_calls (v : Value) (n : Nat) (xs : List Value) (w : World) (hv : RowAt w 1 v n xs) : Calls Tryz.prog 48 #[v] w (Ret w (.int .i64 (if n ≤ 200 then 0 else 3))) := by
  obtain ⟨p, c, rfl, hc, hm⟩ := hv.form
  refine enter (args := [_]) _ [] [] Tryz.func48 rfl Tryz.ntmps48 rfl (by simp) .nil ?_
  rcases Nat.lt_or_ge 200 n with h | h
  · rw [if_neg (by omega)]
    (refine CW.seq ?_; refine CW.region ?_; apply LW.v0; rfl; rfl; apply ValP.assign; rfl; apply LW.nil; refine thenN ?_; refine CW.seq ?_; refine CW.seq ?_; refine CW.region ?_; apply LW.v0; rfl; rfl; apply ValP.move; rfl; apply LW.v0; rfl; rfl; apply ValP.lenR; rfl; infer_instance; rfl; apply LW.v0; rfl; rfl; apply ValP.gtrT; rfl; rfl; omega; apply LW.nil; refine thenN ?_; apply CW.condT; rfl; (with_reducible rfl); refine CW.seq ?_; refine CW.region ?_; apply LW.v0; rfl; rfl; apply ValP.assign; rfl; apply LW.nil; refine thenN ?_; refine CW.ret ?_; refine thenR ?_)
    (apply finR; exact .inl rfl; rfl; rfl; rfl; apply ResL.cons; exact Res.tmp rfl; exact ResL.nil)
    rfl
  · rw [if_pos h]
    (refine CW.seq ?_; refine CW.region ?_; apply LW.v0; rfl; rfl; apply ValP.assign; rfl; apply LW.nil; refine thenN ?_; refine CW.seq ?_; refine CW.seq ?_; refine CW.region ?_; apply LW.v0; rfl; rfl; apply ValP.move; rfl; apply LW.v0; rfl; rfl; apply ValP.lenR; rfl; infer_instance; rfl; apply LW.v0; rfl; rfl; apply ValP.gtrF; rfl; rfl; omega; apply LW.nil; refine thenN ?_; apply CW.condF; rfl; (with_reducible rfl); refine CW.skip ?_; refine thenN ?_; refine CW.seq ?_; refine CW.region ?_; apply LW.v0; rfl; rfl; apply ValP.assign; rfl; apply LW.nil; refine thenN ?_; refine CW.ret ?_)
    (apply finR; exact .inl rfl; rfl; rfl; rfl; apply ResL.cons; exact Res.tmp rfl; exact ResL.nil)
    rfl
end Go.Proofs.YtpgdnfgjbhdbpaaGreatDoor.CK

/-
  The places at which an operation is read; the places to jump to: contracts.
  Conditions: none.
-/
namespace Go.Proofs.YtpgdnfgjbhdbpaaGreatDoor.CK
open Go Go.RowKit SL
set_option maxRecDepth 8000
set_option maxHeartbeats 4000000
set_option linter.unusedSimpArgs false
set_option linter.unusedVariables false
attribute [local irreducible] SL.CW SL.LW SL.DW Calls SL.Ret SL.RetG SL.beginQ SL.roundQ SL.rangeQ SL.inQ SL.RW SL.AnyW SL.thenQ SL.thenC SL.thenW SL.blkQ SL.finQ SL.ValP SL.NewP SL.SetP SL.CallP SL.Rd SL.Wr SL.Known
theorem row_dt {b : Nat} {x : OpV} (h : rowOp b = some x) : x.dt ≤ 32 := by
  unfold rowOp at h
  split at h
  · cases h; dsimp only; omega
  · split at h
    · cases h; exact Nat.zero_le _
    · split at h
      · cases h; exact Nat.zero_le _
      · cases h
theorem plain_dt : ∀ x ∈ plainOps, x.dt = 0 := by decide
theorem opOf_dt {b : Nat} {x : OpV} (h : opOf b = some x) : x.dt ≤ 32 := by
  unfold opOf at h
  cases hr : rowOp b with
  | some y => rw [hr] at h; cases h; exact row_dt hr
  | none => rw [hr] at h; rw [plain_dt x (List.mem_of_find?_eq_some h)]; exact Nat.zero_le _
theorem szOf_le (b : Nat) : szOf b ≤ 32 := by
  unfold szOf
  cases h : opOf b with
  | none => exact Nat.zero_le _
  | some x => exact opOf_dt h
attribute [local irreducible] opOf
/-- The places at which an operation is read (p: the first byte's place), with the byte and the data that is there. -/
def segsAt (p : Nat) (bs : List UInt8) : List (Nat × UInt8 × List UInt8) := match bs with
  | [] => []
  | b :: r => (p, b, r.take (szOf b.toNat)) :: segsAt (p + 1 + szOf b.toNat) (r.drop (szOf b.toNat))
termination_by bs.length
decreasing_by simp [List.length_drop]; omega
theorem segsAt_nil (p : Nat) : segsAt p [] = [] := by rw [segsAt]
theorem segsAt_cons (p : Nat) (b : UInt8) (r : List UInt8) : segsAt p (b :: r) = (p, b, r.take (szOf b.toNat)) :: segsAt (p + 1 + szOf b.toNat) (r.drop (szOf b.toNat)) := by rw [segsAt]
/-- One round's step: what is read at a place of a program. -/
theorem segs_step (bs : List UInt8) (p : Nat) (h : p < bs.length) : segsAt p (bs.drop p) = (p, bs.getD p 0, (bs.drop (p + 1)).take (szOf (bs.getD p 0).toNat)) :: segsAt (p + szOf (bs.getD p 0).toNat + 1) (bs.drop (p + szOf (bs.getD p 0).toNat + 1)) := by
  rw [List.drop_eq_getElem_cons h, segsAt_cons, List.drop_drop, show bs[p] = bs.getD p 0 by simp [h], Nat.add_right_comm p 1]
theorem segs_end (bs : List UInt8) (p q : Nat) (h : bs.length ≤ p) : segsAt q (bs.drop p) = [] := by rw [List.drop_eq_nil_of_le h, segsAt_nil]
/-! ### The places to jump to -/
structure JX where
  p : Nat
  J : List Nat
  v : Value
  seg : Fs
end Go.Proofs.YtpgdnfgjbhdbpaaGreatDoor.CK

/-
  Places to jump to, asked one by one; the document's places: contracts.
  Conditions: none.
-/
namespace Go.Proofs.YtpgdnfgjbhdbpaaGreatDoor.CK
open Go Go.RowKit SL
set_option maxRecDepth 8000
set_option maxHeartbeats 4000000
set_option linter.unusedSimpArgs false
set_option linter.unusedVariables false
attribute [local irreducible] SL.CW SL.LW SL.DW Calls SL.Ret SL.RetG SL.beginQ SL.roundQ SL.rangeQ SL.inQ SL.RW SL.AnyW SL.thenQ SL.thenC SL.thenW SL.blkQ SL.finQ SL.ValP SL.NewP SL.SetP SL.CallP SL.Rd SL.Wr SL.Known
attribute [local irreducible] opOf
/-! ### Is a number one of a row? -/
/-! ### The document's: is an operation read there? -/
def readB (bs : List UInt8) (i : Int) : Bool := (segsAt 0 bs).any fun s => decide ((s.1 : Int) = i)
def readFrom (bs : List UInt8) (p : Nat) (i : Int) : Bool := (segsAt p (bs.drop p)).any fun s => decide ((s.1 : Int) = i)
theorem segsAt_ge (n : Nat) : ∀ (bs : List UInt8) (p : Nat), bs.length ≤ n → ∀ s ∈ segsAt p bs, p ≤ s.1 := by
  induction n with
  | zero =>
    intro bs p h s hs
    rw [List.eq_nil_of_length_eq_zero (show bs.length = 0 by omega), segsAt_nil] at hs
    cases hs
  | succ n ih =>
    intro bs p h s hs
    cases bs with
    | nil => rw [segsAt_nil] at hs; cases hs
    | cons b r =>
      rw [segsAt_cons] at hs
      rcases List.mem_cons.1 hs with rfl | hs
      · exact Nat.le_refl _
      · have := ih (r.drop (szOf b.toNat)) (p + 1 + szOf b.toNat) (by simp at h ⊢; omega) s hs
        omega
theorem readFrom_gt {bs : List UInt8} {p : Nat} {i : Int} (h : i < (p : Int)) : readFrom bs p i = false := by
  unfold readFrom
  refine List.any_eq_false.2 fun s hs => ?_
  have := segsAt_ge _ _ p (Nat.le_refl _) s hs
  simp; omega
theorem readFrom_end {bs : List UInt8} {p : Nat} {i : Int} (h : bs.length ≤ p) : readFrom bs p i = false := by
  unfold readFrom; rw [segs_end bs p p h]; rfl
theorem readFrom_hit {bs : List UInt8} {p : Nat} (h : p < bs.length) : readFrom bs p (p : Int) = true := by
  unfold readFrom; rw [segs_step bs p h, List.any_cons]; simp
theorem readFrom_step {bs : List UInt8} {p : Nat} {i : Int} (h : p < bs.length) (hi : (p : Int) < i) : readFrom bs (p + 1 + szOf (bs.getD p 0).toNat) i = readFrom bs p i := by
  unfold readFrom
  rw [segs_step bs p h, List.any_cons, decide_eq_false (by dsimp only; omega), Bool.false_or, Nat.add_right_comm p 1]
theorem Read_calls (bs : List UInt8) (hb : bs.length ≤ 1000) (i : Int) (v : Value) (w : World) (hv : RowAt w 1 v bs.length (ucs bs)) : Calls Tryz.prog 52 #[v, .int .i64 i] w (Ret w (.bool (readB bs i))) := by
  obtain ⟨p0, c0, rfl, hc0, hm0⟩ := hv.form
  have h0 : readFrom bs 0 i = readB bs i := by unfold readFrom readB; rw [List.drop_zero]
  refine enter (args := [_, _]) _ [] [] Tryz.func52 rfl Tryz.ntmps52 rfl (by simp) .nil ?_
  (refine CW.seq ?_; refine CW.region ?_; apply LW.v0; rfl; rfl; apply ValP.assign; rfl; apply LW.nil; refine thenN ?_; refine CW.seq ?_; refine CW.region ?_; apply LW.v0; rfl; rfl; apply ValP.assign; rfl; apply LW.nil; refine thenN ?_; refine CW.seq ?_; refine CW.block ?_)
  refine CW.loop (fun k : Nat => ([(0, .slice p0 bs.length c0), (1, .int .i64 i), (4, .bool false), (5, .int .i64 (k : Int))], []))
    (fun k => k ≤ 2000 ∧ readFrom bs k i = readB bs i) (fun k => bs.length - k) 0 ⟨Nat.zero_le _, h0⟩ ⟨rfl, rfl, rfl, rfl, trivial⟩ (List.Sublist.refl _) ?_
  rintro k ⟨hk, hr⟩
  dsimp only
  rcases Nat.lt_or_ge k bs.length with hlt | hge
  · rcases Int.lt_or_le (k : Int) i with hki | hki
    · obtain ⟨b, off, c', cs, E, fr, heq, hbk, hx⟩ := hv.pos (by omega)
      cases heq
      have hst := readFrom_step hlt hki
      obtain ⟨u, hu⟩ : ∃ u, bs.getD k 0 = u := ⟨_, rfl⟩
      rw [hu, hr] at hst
      have hrd : Rd Tryz.prog 5 (.cells cs E fr) (off + k * 1) (.int .u8 (u.toNat : Int)) := Rd.elem1 hx (ucs_one bs) (List.getElem?_eq_getElem hlt) (by rw [← hu]; simp [hlt])
      have hSz := size_calls u.toNat u.toNat_lt
      have hzl := szOf_le u.toNat
      obtain ⟨z, hz⟩ : ∃ z, szOf u.toNat = z := ⟨_, rfl⟩
      rw [hz] at hSz hzl hst
      (refine CW.seq ?_; refine CW.seq ?_; refine CW.region ?_; apply LW.v0; rfl; rfl; apply ValP.move; rfl; apply LW.v0; rfl; rfl; apply ValP.move; rfl; apply LW.v0; rfl; rfl; apply ValP.lenR; rfl; infer_instance; rfl; apply LW.v0; rfl; rfl; apply ValP.lssT; rfl; rfl; omega; apply LW.v0; rfl; rfl; apply ValP.move; rfl; apply LW.guardT'; rfl; rfl; (with_reducible rfl); apply LW.v0; rfl; rfl; apply ValP.move; rfl; apply LW.guardT'; rfl; rfl; (with_reducible rfl); apply LW.v0; rfl; rfl; apply ValP.move; rfl; apply LW.guardT'; rfl; rfl; (with_reducible rfl); apply LW.v0; rfl; rfl; apply ValP.lssT; rfl; rfl; omega; apply LW.v0; rfl; rfl; apply ValP.pickT'; rfl; (with_reducible rfl); rfl; apply LW.nil; refine thenN ?_; apply CW.condT; rfl; (with_reducible rfl); refine CW.skip ?_; refine thenN ?_; refine CW.block ?_; refine CW.region ?_; apply LW.v0; rfl; rfl; apply ValP.move; rfl; apply LW.v0; rfl; rfl; apply ValP.addZL; rfl; rfl; decide; omega; apply LW.v0; rfl; rfl; apply ValP.move; rfl; apply LW.v0; rfl; rfl; apply ValP.move; rfl; apply LW.v0; rfl; rfl; apply ValP.indexAddrS; rfl; rfl; rfl; omega; apply LW.load; rfl; rfl; exact Known.ext (by assumption) (by simp); assumption; apply LW.callE; rfl; rfl; infer_instance; apply ArgsOk.cons; rfl; exact ArgsOk.nil; intro w _; exact hSz w; apply LW.v0; rfl; rfl; apply ValP.addZ; rfl; rfl; omega; apply LW.v0; rfl; rfl; apply ValP.assign; rfl; apply LW.nil; refine blkN ?_)
      apply thenX
      exact ⟨rfl, k + 1 + z, ⟨by omega, hst⟩, by omega, ⟨rfl, rfl, rfl, rfl, trivial⟩, List.Sublist.refl _⟩
    · rcases Int.lt_or_eq_of_le hki with hlt' | heq
      · rw [← hr, readFrom_gt hlt']
        have hne : ¬ (k : Int) = i := by omega
        (refine CW.seq ?_; refine CW.seq ?_; refine CW.region ?_; apply LW.v0; rfl; rfl; apply ValP.move; rfl; apply LW.v0; rfl; rfl; apply ValP.move; rfl; apply LW.v0; rfl; rfl; apply ValP.lenR; rfl; infer_instance; rfl; apply LW.v0; rfl; rfl; apply ValP.lssT; rfl; rfl; omega; apply LW.v0; rfl; rfl; apply ValP.move; rfl; apply LW.guardT'; rfl; rfl; (with_reducible rfl); apply LW.v0; rfl; rfl; apply ValP.move; rfl; apply LW.guardT'; rfl; rfl; (with_reducible rfl); apply LW.v0; rfl; rfl; apply ValP.move; rfl; apply LW.guardT'; rfl; rfl; (with_reducible rfl); apply LW.v0; rfl; rfl; apply ValP.lssF; rfl; rfl; omega; apply LW.v0; rfl; rfl; apply ValP.pickT'; rfl; (with_reducible rfl); rfl; apply LW.nil; refine thenN ?_; apply CW.condF; rfl; (with_reducible rfl); refine CW.exit ?_; refine thenE ?_; refine thenE ?_; refine blkE rfl ?_; refine thenN ?_; refine CW.seq ?_; refine CW.region ?_; apply LW.v0; rfl; rfl; apply ValP.move; rfl; apply LW.v0; rfl; rfl; apply ValP.move; rfl; apply LW.v0; rfl; rfl; apply ValP.eqF; rfl; rfl; omega; apply LW.v0; rfl; rfl; apply ValP.move; rfl; apply LW.guardF'; rfl; rfl; simp only [Bool.not_true, Bool.not_false]; rfl; apply LW.guardF'; rfl; rfl; simp only [Bool.not_true, Bool.not_false]; rfl; apply LW.v0; rfl; rfl; apply ValP.pickF'; rfl; (with_reducible rfl); rfl; apply LW.v0; rfl; rfl; apply ValP.move; rfl; apply LW.guardF'; rfl; rfl; simp only [Bool.not_true, Bool.not_false]; rfl; apply LW.guardF'; rfl; rfl; simp only [Bool.not_true, Bool.not_false]; rfl; apply LW.guardF'; rfl; rfl; simp only [Bool.not_true, Bool.not_false]; rfl; apply LW.guardF'; rfl; rfl; simp only [Bool.not_true, Bool.not_false]; rfl; apply LW.v0; rfl; rfl; apply ValP.pickF'; rfl; (with_reducible rfl); rfl; apply LW.v0; rfl; rfl; apply ValP.assign; rfl; apply LW.nil; refine thenN ?_; refine CW.ret ?_)
        (apply finR; exact .inl rfl; rfl; rfl; rfl; apply ResL.cons; exact Res.tmp rfl; exact ResL.nil)
        rfl
      · subst heq
        rw [← hr, readFrom_hit hlt]
        (refine CW.seq ?_; refine CW.seq ?_; refine CW.region ?_; apply LW.v0; rfl; rfl; apply ValP.move; rfl; apply LW.v0; rfl; rfl; apply ValP.move; rfl; apply LW.v0; rfl; rfl; apply ValP.lenR; rfl; infer_instance; rfl; apply LW.v0; rfl; rfl; apply ValP.lssT; rfl; rfl; omega; apply LW.v0; rfl; rfl; apply ValP.move; rfl; apply LW.guardT'; rfl; rfl; (with_reducible rfl); apply LW.v0; rfl; rfl; apply ValP.move; rfl; apply LW.guardT'; rfl; rfl; (with_reducible rfl); apply LW.v0; rfl; rfl; apply ValP.move; rfl; apply LW.guardT'; rfl; rfl; (with_reducible rfl); apply LW.v0; rfl; rfl; apply ValP.lssF; rfl; rfl; omega; apply LW.v0; rfl; rfl; apply ValP.pickT'; rfl; (with_reducible rfl); rfl; apply LW.nil; refine thenN ?_; apply CW.condF; rfl; (with_reducible rfl); refine CW.exit ?_; refine thenE ?_; refine thenE ?_; refine blkE rfl ?_; refine thenN ?_; refine CW.seq ?_; refine CW.region ?_; apply LW.v0; rfl; rfl; apply ValP.move; rfl; apply LW.v0; rfl; rfl; apply ValP.move; rfl; apply LW.v0; rfl; rfl; apply ValP.eqT; rfl; rfl; omega; apply LW.v0; rfl; rfl; apply ValP.move; rfl; apply LW.guardT'; rfl; rfl; (with_reducible rfl); apply LW.v0; rfl; rfl; apply ValP.move; rfl; apply LW.guardT'; rfl; rfl; (with_reducible rfl); apply LW.v0; rfl; rfl; apply ValP.geqT; rfl; rfl; omega; apply LW.v0; rfl; rfl; apply ValP.pickT'; rfl; (with_reducible rfl); rfl; apply LW.v0; rfl; rfl; apply ValP.move; rfl; apply LW.guardT'; rfl; rfl; (with_reducible rfl); apply LW.v0; rfl; rfl; apply ValP.move; rfl; apply LW.guardT'; rfl; rfl; (with_reducible rfl); apply LW.v0; rfl; rfl; apply ValP.move; rfl; apply LW.guardT'; rfl; rfl; (with_reducible rfl); apply LW.v0; rfl; rfl; apply ValP.lenR; rfl; infer_instance; rfl; apply LW.guardT'; rfl; rfl; (with_reducible rfl); apply LW.v0; rfl; rfl; apply ValP.lssT; rfl; rfl; omega; apply LW.v0; rfl; rfl; apply ValP.pickT'; rfl; (with_reducible rfl); rfl; apply LW.v0; rfl; rfl; apply ValP.assign; rfl; apply LW.nil; refine thenN ?_; refine CW.ret ?_)
        (apply finR; exact .inl rfl; rfl; rfl; rfl; apply ResL.cons; exact Res.tmp rfl; exact ResL.nil)
        rfl
  · rw [← hr, readFrom_end hge]
    by_cases heq : (k : Int) = i
    · subst heq
      (refine CW.seq ?_; refine CW.seq ?_; refine CW.region ?_; apply LW.v0; rfl; rfl; apply ValP.move; rfl; apply LW.v0; rfl; rfl; apply ValP.move; rfl; apply LW.v0; rfl; rfl; apply ValP.lenR; rfl; infer_instance; rfl; apply LW.v0; rfl; rfl; apply ValP.lssF; rfl; rfl; omega; apply LW.v0; rfl; rfl; apply ValP.move; rfl; apply LW.guardF'; rfl; rfl; simp only [Bool.not_true, Bool.not_false]; rfl; apply LW.guardF'; rfl; rfl; simp only [Bool.not_true, Bool.not_false]; rfl; apply LW.guardF'; rfl; rfl; simp only [Bool.not_true, Bool.not_false]; rfl; apply LW.v0; rfl; rfl; apply ValP.pickF'; rfl; (with_reducible rfl); rfl; apply LW.nil; refine thenN ?_; apply CW.condF; rfl; (with_reducible rfl); refine CW.exit ?_; refine thenE ?_; refine thenE ?_; refine blkE rfl ?_; refine thenN ?_; refine CW.seq ?_; refine CW.region ?_; apply LW.v0; rfl; rfl; apply ValP.move; rfl; apply LW.v0; rfl; rfl; apply ValP.move; rfl; apply LW.v0; rfl; rfl; apply ValP.eqT; rfl; rfl; omega; apply LW.v0; rfl; rfl; apply ValP.move; rfl; apply LW.guardT'; rfl; rfl; (with_reducible rfl); apply LW.v0; rfl; rfl; apply ValP.move; rfl; apply LW.guardT'; rfl; rfl; (with_reducible rfl); apply LW.v0; rfl; rfl; apply ValP.geqT; rfl; rfl; omega; apply LW.v0; rfl; rfl; apply ValP.pickT'; rfl; (with_reducible rfl); rfl; apply LW.v0; rfl; rfl; apply ValP.move; rfl; apply LW.guardT'; rfl; rfl; (with_reducible rfl); apply LW.v0; rfl; rfl; apply ValP.move; rfl; apply LW.guardT'; rfl; rfl; (with_reducible rfl); apply LW.v0; rfl; rfl; apply ValP.move; rfl; apply LW.guardT'; rfl; rfl; (with_reducible rfl); apply LW.v0; rfl; rfl; apply ValP.lenR; rfl; infer_instance; rfl; apply LW.guardT'; rfl; rfl; (with_reducible rfl); apply LW.v0; rfl; rfl; apply ValP.lssF; rfl; rfl; omega; apply LW.v0; rfl; rfl; apply ValP.pickT'; rfl; (with_reducible rfl); rfl; apply LW.v0; rfl; rfl; apply ValP.assign; rfl; apply LW.nil; refine thenN ?_; refine CW.ret ?_)
      (apply finR; exact .inl rfl; rfl; rfl; rfl; apply ResL.cons; exact Res.tmp rfl; exact ResL.nil)
      rfl
    · (refine CW.seq ?_; refine CW.seq ?_; refine CW.region ?_; apply LW.v0; rfl; rfl; apply ValP.move; rfl; apply LW.v0; rfl; rfl; apply ValP.move; rfl; apply LW.v0; rfl; rfl; apply ValP.lenR; rfl; infer_instance; rfl; apply LW.v0; rfl; rfl; apply ValP.lssF; rfl; rfl; omega; apply LW.v0; rfl; rfl; apply ValP.move; rfl; apply LW.guardF'; rfl; rfl; simp only [Bool.not_true, Bool.not_false]; rfl; apply LW.guardF'; rfl; rfl; simp only [Bool.not_true, Bool.not_false]; rfl; apply LW.guardF'; rfl; rfl; simp only [Bool.not_true, Bool.not_false]; rfl; apply LW.v0; rfl; rfl; apply ValP.pickF'; rfl; (with_reducible rfl); rfl; apply LW.nil; refine thenN ?_; apply CW.condF; rfl; (with_reducible rfl); refine CW.exit ?_; refine thenE ?_; refine thenE ?_; refine blkE rfl ?_; refine thenN ?_; refine CW.seq ?_; refine CW.region ?_; apply LW.v0; rfl; rfl; apply ValP.move; rfl; apply LW.v0; rfl; rfl; apply ValP.move; rfl; apply LW.v0; rfl; rfl; apply ValP.eqF; rfl; rfl; omega; apply LW.v0; rfl; rfl; apply ValP.move; rfl; apply LW.guardF'; rfl; rfl; simp only [Bool.not_true, Bool.not_false]; rfl; apply LW.guardF'; rfl; rfl; simp only [Bool.not_true, Bool.not_false]; rfl; apply LW.v0; rfl; rfl; apply ValP.pickF'; rfl; (with_reducible rfl); rfl; apply LW.v0; rfl; rfl; apply ValP.move; rfl; apply LW.guardF'; rfl; rfl; simp only [Bool.not_true, Bool.not_false]; rfl; apply LW.guardF'; rfl; rfl; simp only [Bool.not_true, Bool.not_false]; rfl; apply LW.guardF'; rfl; rfl; simp only [Bool.not_true, Bool.not_false]; rfl; apply LW.guardF'; rfl; rfl; simp only [Bool.not_true, Bool.not_false]; rfl; apply LW.v0; rfl; rfl; apply ValP.pickF'; rfl; (with_reducible rfl); rfl; apply LW.v0; rfl; rfl; apply ValP.assign; rfl; apply LW.nil; refine thenN ?_; refine CW.ret ?_)
      (apply finR; exact .inl rfl; rfl; rfl; rfl; apply ResL.cons; exact Res.tmp rfl; exact ResL.nil)
      rfl
/-! ### The document's places to jump to -/
structure RJ where
  k : Nat
  v : Value
  seg : Fs
/-! ### The same bytes -/
end Go.Proofs.YtpgdnfgjbhdbpaaGreatDoor.CK

/-
  Frames: which may be.
  Conditions: none.
-/
namespace Go.Proofs.YtpgdnfgjbhdbpaaGreatDoor
open Go Go.RowKit SL
open CK (readB readFrom readFrom_step readFrom_hit readFrom_gt readFrom_end szOf szOf_le CheckC_calls)
set_option maxRecDepth 8000
set_option maxHeartbeats 4000000
set_option linter.unusedSimpArgs false
set_option linter.unusedVariables false
attribute [local irreducible] SL.CW SL.LW SL.DW Calls SL.Ret SL.RetG SL.beginQ SL.roundQ SL.rangeQ SL.inQ SL.RW SL.AnyW SL.thenQ SL.thenC SL.thenW SL.blkQ SL.finQ SL.ValP SL.NewP SL.SetP SL.CallP SL.Rd SL.Wr SL.Known
attribute [local irreducible] opOf szOf
/-! ### Is an operation read at a place? -/
def opX (b : Nat) : OpV := (opOf b).getD zeroOp
theorem opX_dt (b : Nat) : (opX b).dt = szOf b := by
  unfold opX szOf
  cases opOf b <;> rfl
theorem OfX_calls (b : Nat) (hb : b < 256) (w : World) : ∃ e : Int, (∀ w, Calls Tryz.prog 102 #[.int .u8 (b : Int)] w (Ret w (.tuple #[.agg (opc (opX b)), .int .i64 e]))) ∧ e = (if (opOf b).isSome then 0 else 4) := by
  cases ho : opOf b with
  | none => exact ⟨4, fun w => by have h := Of_op_calls b hb w; rw [ho] at h; unfold opX; rw [ho]; exact h, rfl⟩
  | some x => exact ⟨0, fun w => by have h := Of_op_calls b hb w; rw [ho] at h; unfold opX; rw [ho]; exact h, rfl⟩
attribute [local irreducible] opX
theorem fread_calls (bs : List UInt8) (hb : bs.length ≤ 1000) (i : Int) (v : Value) (w : World) (hv : RowAt w 1 v bs.length (ucs bs)) : Calls Tryz.prog 67 #[v, .int .i64 i] w (Ret w (.bool (readB bs i))) := by
  obtain ⟨p0, c0, rfl, hc0, hm0⟩ := hv.form
  have h0 : readFrom bs 0 i = readB bs i := by unfold readFrom readB; rw [List.drop_zero]
  refine enter (args := [_, _]) _ [] [] Tryz.func67 rfl Tryz.ntmps67 rfl (by simp) .nil ?_
  (refine sRz ?_; refine vAz ?_; refine nSz ?_; refine vAz ?_; refine nNz ?_; refine CW.seq ?_; refine CW.block ?_)
  refine CW.loop (fun k : Nat => ([(0, .slice p0 bs.length c0), (1, .int .i64 i), (4, .bool false), (5, .int .i64 (k : Int))], []))
    (fun k => k ≤ 2000 ∧ readFrom bs k i = readB bs i) (fun k => bs.length - k) 0 ⟨Nat.zero_le _, h0⟩ ⟨rfl, rfl, rfl, rfl, trivial⟩ (List.Sublist.refl _) ?_
  rintro k ⟨hk, hr⟩
  dsimp only
  rcases Nat.lt_or_ge k bs.length with hlt | hge
  · rcases Int.lt_or_le (k : Int) i with hki | hki
    · obtain ⟨b, off, c', cs, E, fr, heq, hbk, hx⟩ := hv.pos (by omega)
      cases heq
      have hst := readFrom_step hlt hki
      obtain ⟨u, hu⟩ : ∃ u, bs.getD k 0 = u := ⟨_, rfl⟩
      rw [hu, hr] at hst
      have hrd : Rd Tryz.prog 5 (.cells cs E fr) (off + k * 1) (.int .u8 (u.toNat : Int)) := Rd.elem1 hx (ucs_one bs) (List.getElem?_eq_getElem hlt) (by rw [← hu]; simp [hlt])
      obtain ⟨e, hOf, _⟩ := OfX_calls u.toNat u.toNat_lt w
      have hzl := szOf_le u.toNat
      rw [← opX_dt] at hst hzl
      rw [Nat.add_assoc] at hst
      (refine CW.seq ?_; refine sRz ?_; refine vMz ?_; refine vMz ?_; refine lvz (.lssT rfl rfl (by omega)) ?_; refine vMz ?_; refine gTz ?_; refine vMz ?_; refine gTz ?_; refine vMz ?_; refine gTz ?_; refine lvz (.lenR rfl inferInstance rfl) ?_; refine gTz ?_; refine lvz (.lssT rfl rfl (by omega)) ?_; refine pTz ?_; refine nNz ?_; refine cTz ?_; refine CW.skip ?_; refine thenN ?_; refine CW.block ?_; refine sRz ?_; refine vMz ?_; refine vMz ?_; refine lvz (.indexAddrS rfl rfl rfl (by omega)) ?_; apply LW.load; rfl; rfl; exact Known.ext (by assumption) (by simp); assumption; apply LW.callE; rfl; rfl; infer_instance; exact .cons rfl .nil; intro w _; exact hOf w; refine vMz ?_; refine vEz ?_; refine vEz ?_; apply LW.allocA; rfl; intro _; refine LW.store rfl rfl .head (.whole rfl rfl rfl) ?_; refine vAz ?_; refine nNz ?_; refine CW.region ?_; refine vMz ?_; refine vFz ?_; refine ldz rfl .head (Rd.one' rfl) ?_; refine lvz (.addZK rfl rfl (by decide) (by omega)) ?_; refine lvz (.addZ rfl rfl (by omega)) ?_; refine vAz ?_; apply LW.nil; refine blkN ?_)
      apply thenX
      exact ⟨rfl, k + (1 + (opX u.toNat).dt), ⟨by omega, hst⟩, by omega, ⟨rfl, rfl, rfl, rfl, trivial⟩, List.nil_sublist _⟩
    · rcases Int.lt_or_eq_of_le hki with hlt' | heq
      · rw [← hr, readFrom_gt hlt']
        have hne : ¬ (k : Int) = i := by omega
        (refine CW.seq ?_; refine sRz ?_; refine vMz ?_; refine vMz ?_; refine lvz (.lssF rfl rfl (by omega)) ?_; refine vMz ?_; (iterate 4 refine gFz ?_); refine pFz ?_; refine nNz ?_; refine cFz ?_; refine CW.exit ?_; refine thenE ?_; refine thenE ?_; refine blkE rfl ?_; refine thenN ?_; refine sRz ?_; refine vMz ?_; refine vMz ?_; refine lvz (.eqF rfl rfl (by omega)) ?_; refine vMz ?_; (iterate 4 refine gFz ?_); refine pFz ?_; refine vAz ?_; refine nNz ?_; refine CW.ret ?_)
        (apply finR; exact .inl rfl; rfl; rfl; rfl; apply ResL.cons; exact Res.tmp rfl; exact ResL.nil)
        rfl
      · subst heq
        rw [← hr, readFrom_hit hlt]
        (refine CW.seq ?_; refine sRz ?_; refine vMz ?_; refine vMz ?_; refine lvz (.lssF rfl rfl (by omega)) ?_; refine vMz ?_; (iterate 4 refine gFz ?_); refine pFz ?_; refine nNz ?_; refine cFz ?_; refine CW.exit ?_; refine thenE ?_; refine thenE ?_; refine blkE rfl ?_; refine thenN ?_; refine sRz ?_; refine vMz ?_; refine vMz ?_; refine lvz (.eqT rfl rfl (by omega)) ?_; refine vMz ?_; refine gTz ?_; refine vMz ?_; refine gTz ?_; refine vMz ?_; refine gTz ?_; refine lvz (.lenR rfl inferInstance rfl) ?_; refine gTz ?_; refine lvz (.lssT rfl rfl (by omega)) ?_; refine pTz ?_; refine vAz ?_; refine nNz ?_; refine CW.ret ?_)
        (apply finR; exact .inl rfl; rfl; rfl; rfl; apply ResL.cons; exact Res.tmp rfl; exact ResL.nil)
        rfl
  · rw [← hr, readFrom_end hge]
    rcases Int.lt_or_le (k : Int) i with hki | hki
    · have hne : ¬ (k : Int) = i := by omega
      (refine CW.seq ?_; refine sRz ?_; refine vMz ?_; refine vMz ?_; refine lvz (.lssT rfl rfl (by omega)) ?_; refine vMz ?_; refine gTz ?_; refine vMz ?_; refine gTz ?_; refine vMz ?_; refine gTz ?_; refine lvz (.lenR rfl inferInstance rfl) ?_; refine gTz ?_; refine lvz (.lssF rfl rfl (by omega)) ?_; refine pTz ?_; refine nNz ?_; refine cFz ?_; refine CW.exit ?_; refine thenE ?_; refine thenE ?_; refine blkE rfl ?_; refine thenN ?_; refine sRz ?_; refine vMz ?_; refine vMz ?_; refine lvz (.eqF rfl rfl (by omega)) ?_; refine vMz ?_; (iterate 4 refine gFz ?_); refine pFz ?_; refine vAz ?_; refine nNz ?_; refine CW.ret ?_)
      (apply finR; exact .inl rfl; rfl; rfl; rfl; apply ResL.cons; exact Res.tmp rfl; exact ResL.nil)
      rfl
    · by_cases heq : (k : Int) = i
      · subst heq
        (refine CW.seq ?_; refine sRz ?_; refine vMz ?_; refine vMz ?_; refine lvz (.lssF rfl rfl (by omega)) ?_; refine vMz ?_; (iterate 4 refine gFz ?_); refine pFz ?_; refine nNz ?_; refine cFz ?_; refine CW.exit ?_; refine thenE ?_; refine thenE ?_; refine blkE rfl ?_; refine thenN ?_; refine sRz ?_; refine vMz ?_; refine vMz ?_; refine lvz (.eqT rfl rfl (by omega)) ?_; refine vMz ?_; refine gTz ?_; refine vMz ?_; refine gTz ?_; refine vMz ?_; refine gTz ?_; refine lvz (.lenR rfl inferInstance rfl) ?_; refine gTz ?_; refine lvz (.lssF rfl rfl (by omega)) ?_; refine pTz ?_; refine vAz ?_; refine nNz ?_; refine CW.ret ?_)
        (apply finR; exact .inl rfl; rfl; rfl; rfl; apply ResL.cons; exact Res.tmp rfl; exact ResL.nil)
        rfl
      · (refine CW.seq ?_; refine sRz ?_; refine vMz ?_; refine vMz ?_; refine lvz (.lssF rfl rfl (by omega)) ?_; refine vMz ?_; (iterate 4 refine gFz ?_); refine pFz ?_; refine nNz ?_; refine cFz ?_; refine CW.exit ?_; refine thenE ?_; refine thenE ?_; refine blkE rfl ?_; refine thenN ?_; refine sRz ?_; refine vMz ?_; refine vMz ?_; refine lvz (.eqF rfl rfl (by omega)) ?_; refine vMz ?_; (iterate 4 refine gFz ?_); refine pFz ?_; refine vAz ?_; refine nNz ?_; refine CW.ret ?_)
        (apply finR; exact .inl rfl; rfl; rfl; rfl; apply ResL.cons; exact Res.tmp rfl; exact ResL.nil)
        rfl
/-! ### Frames -/
/-- What a frame's rows hold. -/
structure FrL where
  cl : List UInt8
  ws : List Nat
  ms : List UInt8
  il : List UInt8
  bl : List UInt8
structure FrRows (w : World) (f : FrV) (L : FrL) : Prop where
  c : RowAt w 1 f.code L.cl.length (ucs L.cl)
  s : RowAt w 4 f.stk L.ws.length (wcs L.ws)
  m : RowAt w 1 f.mem L.ms.length (ucs L.ms)
  i : RowAt w 1 f.inp L.il.length (ucs L.il)
  b : RowAt w 1 f.back L.bl.length (ucs L.bl)
theorem FrRows.st {w0 w : World} {f : FrV} {L : FrL} {fs : Fs} (h : FrRows w0 f L) (hs : St w0 [] fs w) : FrRows w f L := ⟨h.c.st hs, h.s.st hs, h.m.st hs, h.i.st hs, h.b.st hs⟩
theorem FrRows.bel {w0 w : World} {f : FrV} {L : FrL} (h : FrRows w0 f L) (hb : Bel w0.heap.size [] w0 w) : FrRows w f L := ⟨h.c.bel hb, h.s.bel hb, h.m.bel hb, h.i.bel hb, h.b.bel hb⟩
abbrev fra (f : FrV) : Array Value := (frc f).toArray
abbrev frv (f : FrV) : Value := .agg (fra f)
section rd
variable {P : Program} {T E : TypeId} {fr : Nat × Nat} {code stk mem inp back : Value} {pc : Int} {gas self frm val : Nat} {stat : Bool}
theorem fr_rd0 [AgI P T false] : Rd P T (.cells (fra ⟨code, pc, stk, mem, gas, self, frm, val, inp, back, stat⟩) E fr) 0 code := Rd.one rfl
theorem fr_rd1 [AgI P T false] : Rd P T (.cells (fra ⟨code, pc, stk, mem, gas, self, frm, val, inp, back, stat⟩) E fr) 1 (.int .i64 pc) := Rd.one rfl
theorem fr_rd2 [AgI P T true] {z : Value} [InfoI P T 2 z] : Rd P T (.cells (fra ⟨code, pc, stk, mem, gas, self, frm, val, inp, back, stat⟩) E fr) 2 (.agg #[stk, mem]) := Rd.mid (cs := [stk, mem]) rfl rfl
theorem fr_rd2s [AgI P T false] : Rd P T (.cells (fra ⟨code, pc, stk, mem, gas, self, frm, val, inp, back, stat⟩) E fr) 2 stk := Rd.one rfl
theorem fr_rd3 [AgI P T false] : Rd P T (.cells (fra ⟨code, pc, stk, mem, gas, self, frm, val, inp, back, stat⟩) E fr) 3 mem := Rd.one rfl
theorem fr_rd4 [AgI P T false] : Rd P T (.cells (fra ⟨code, pc, stk, mem, gas, self, frm, val, inp, back, stat⟩) E fr) 4 (.int .u64 (gas : Int)) := Rd.one rfl
theorem fr_rd5 [AgI P T false] : Rd P T (.cells (fra ⟨code, pc, stk, mem, gas, self, frm, val, inp, back, stat⟩) E fr) 5 (.int .u64 (self : Int)) := Rd.one rfl
theorem fr_rd6 [AgI P T false] : Rd P T (.cells (fra ⟨code, pc, stk, mem, gas, self, frm, val, inp, back, stat⟩) E fr) 6 (.int .u64 (frm : Int)) := Rd.one rfl
theorem fr_rd7 [AgI P T true] {z : Value} [InfoI P T 4 z] : Rd P T (.cells (fra ⟨code, pc, stk, mem, gas, self, frm, val, inp, back, stat⟩) E fr) 7 (wv val) := Rd.mid (cs := (wc val).toList) rfl rfl
theorem fr_rd11 [AgI P T false] : Rd P T (.cells (fra ⟨code, pc, stk, mem, gas, self, frm, val, inp, back, stat⟩) E fr) 11 inp := Rd.one rfl
theorem fr_rd12 [AgI P T false] : Rd P T (.cells (fra ⟨code, pc, stk, mem, gas, self, frm, val, inp, back, stat⟩) E fr) 12 back := Rd.one rfl
theorem fr_rd13 [AgI P T false] : Rd P T (.cells (fra ⟨code, pc, stk, mem, gas, self, frm, val, inp, back, stat⟩) E fr) 13 (.bool stat) := Rd.one rfl
theorem fr_rdW {f : FrV} {z : Value} [AgI P T true] [InfoI P T 14 z] : Rd P T (.cells (fra f) E fr) 0 (frv f) := Rd.whole rfl
end rd
/-- May a frame be? -/
def okF (f : FrV) (L : FrL) : Prop := (L.il.length ≤ 1024 ∧ L.bl.length ≤ 1024 ∧ f.gas ≤ 20000) ∧ ¬ f.self = 0 ∧ L.cl.length ≤ 200 ∧ okSc L.ws.length L.ms.length ∧ (f.pc = (L.cl.length : Int) ∨ readB L.cl f.pc = true)
instance (f : FrV) (L : FrL) : Decidable (okF f L) := by unfold okF; infer_instance
theorem fCheck_calls (f : FrV) (L : FrL) (w : World) (h : FrRows w f L) : Calls Tryz.prog 31 #[frv f] w (Ret w (.int .i64 (if okF f L then 0 else 240))) := by
  obtain ⟨e, he⟩ : ∃ e : Int, e = if okF f L then 0 else 240 := ⟨_, rfl⟩
  have hp : okF f L → e = 0 := fun h => by rw [he, if_pos h]
  have hn : ¬ okF f L → e = 240 := fun h => by rw [he, if_neg h]
  rw [← he]
  clear he
  unfold okF at hp hn
  obtain ⟨code, pc, stk, mem, gas, self, frm, val, inp, back, stat⟩ := f
  obtain ⟨h0, h2, h3, h11, h12⟩ := h
  dsimp only at h0 h2 h3 h11 h12 hp hn
  obtain ⟨p0, c0, rfl, _, hm0⟩ := h0.form
  obtain ⟨p2, c2, rfl, _, hm2⟩ := h2.form
  obtain ⟨p3, c3, rfl, _, hm3⟩ := h3.form
  obtain ⟨p11, c11, rfl, _, hm11⟩ := h11.form
  obtain ⟨p12, c12, rfl, _, hm12⟩ := h12.form
  have hS0 := scCheck_calls p2 p3 L.ws.length c2 L.ms.length c3 (by omega) (by omega)
  have hC0 : ∀ w' {fs}, St w [] fs w' → Calls Tryz.prog 48 #[.slice p0 L.cl.length c0] w' (Ret w' (.int .i64 (if L.cl.length ≤ 200 then 0 else 3))) := fun w' fs hst => CheckC_calls _ _ _ w' (h0.st hst)
  simp only [maxLen] at hm0 hm2 hm3 hm11 hm12
  refine enter (args := [_]) _ [] [] Tryz.func31 rfl Tryz.ntmps31 rfl (by simp) .nil ?_
  by_cases hc : L.cl.length ≤ 200
  · have hRd0 : ∀ w' {fs}, St w [] fs w' → Calls Tryz.prog 67 #[.slice p0 L.cl.length c0, .int .i64 pc] w' (Ret w' (.bool (readB L.cl pc))) := fun w' fs hst => fread_calls _ (by omega) _ _ w' (h0.st hst)
    rw [if_pos hc] at hC0
    have hC : ∀ w' {fs}, St w [] fs w' → Calls Tryz.prog 48 #[.slice p0 L.cl.length c0] w' (Ret w' (.int .i64 0)) := hC0
    by_cases hs : okSc L.ws.length L.ms.length
    · rw [if_pos hs] at hS0
      have hS : ∀ w', Calls Tryz.prog 66 #[.agg #[.slice p2 L.ws.length c2, .slice p3 L.ms.length c3]] w' (Ret w' (.int .i64 0)) := hS0
      simp only [hs, true_and] at hp hn
      by_cases hpc : pc = (L.cl.length : Int)
      · simp only [hpc, true_or, and_true] at hp hn
        subst hpc
        (refine sRz ?_; apply LW.boxA; rfl; rfl; intro _; refine vAz ?_; refine nSz ?_; refine vFz ?_; refine ldz rfl .head fr_rd11 ?_; refine lvz (.lenR rfl inferInstance rfl) ?_; refine lvz (.gtr rfl rfl) ?_; refine vMz ?_)
        (refine LW.guardDF rfl rfl rfl (fun hsq hsp => ?_) (fun hsq hsp => ?_))
        (refine vFz ?_; refine gTaz ?_; refine ldz rfl .head fr_rd12 ?_; refine gTaz ?_; refine lvz (.lenR rfl inferInstance rfl) ?_; refine gTaz ?_; refine lvz (.gtr rfl rfl) ?_; refine pFaz ?_; refine vMz ?_; refine LW.guardDF rfl rfl rfl (fun hsq hsp => ?_) (fun hsq hsp => ?_); refine vFz ?_; refine gTaz ?_; refine ldz rfl .head fr_rd4 ?_; refine gTaz ?_; refine lvz (.gtr rfl rfl) ?_; refine pFaz ?_; refine vAz ?_; refine nNz ?_; refine CW.seq ?_; refine sRz ?_; refine vMz ?_; refine vMz ?_; refine LW.guardDF rfl rfl rfl (fun hsq hsp => ?_) (fun hsq hsp => ?_); refine vFz ?_; refine gTaz ?_; refine ldz rfl .head fr_rd5 ?_; refine gTaz ?_; refine lvz (.eq rfl rfl) ?_; refine pFaz ?_; refine vMz ?_; refine LW.guardDF rfl rfl rfl (fun hsq hsp => ?_) (fun hsq hsp => ?_); refine vFz ?_; refine gTaz ?_; refine ldz rfl .head fr_rd0 ?_; refine gTaz ?_; apply LW.callE; rfl; rfl; infer_instance; exact .cons rfl .nil; intro w _; exact hC w (by assumption); refine gTaz ?_; refine lvz (.neF rfl rfl (by omega)) ?_; refine pFaz ?_; refine vMz ?_; refine gTz ?_; refine vFz ?_; refine gTz ?_; refine ldz rfl .head fr_rd2 ?_; refine gTz ?_; apply LW.callE; rfl; rfl; infer_instance; exact .cons rfl .nil; intro w _; exact hS w; refine gTz ?_; refine lvz (.neF rfl rfl (by omega)) ?_; refine pFz ?_; refine nNz ?_; refine cFz ?_; refine CW.skip ?_; refine thenN ?_; refine CW.seq ?_; refine sRz ?_; refine vFz ?_; refine ldz rfl .head fr_rd1 ?_; refine vFz ?_; refine ldz rfl .head fr_rd0 ?_; refine lvz (.lenR rfl inferInstance rfl) ?_; refine lvz (.neF rfl rfl (by omega)) ?_; refine vMz ?_; (iterate 6 refine gFz ?_); refine pFz ?_; refine nNz ?_; refine cFz ?_; refine CW.skip ?_; refine thenN ?_; refine sRz ?_; refine vAz ?_; refine nNz ?_; refine CW.ret ?_; apply finR; exact .inl rfl; rfl; rfl; rfl; apply ResL.cons; exact Res.tmp rfl; exact ResL.nil; rw [hp (by omega)]; rfl; (iterate 3 refine gFaz ?_); refine pTaz ?_; refine vMz ?_; (iterate 4 refine gFz ?_); refine pTz ?_; refine nNz ?_; refine cTz ?_; refine sRz ?_; refine vAz ?_; refine nNz ?_; refine CW.ret ?_; refine thenR (finR (.inl rfl) rfl rfl rfl (.cons (.tmp rfl) .nil) ?_); rw [hn (by omega)]; rfl; refine gFaz ?_; refine gFaz ?_; refine pTaz ?_; refine vMz ?_; (iterate 4 refine gFz ?_); refine pTz ?_; refine vMz ?_; (iterate 4 refine gFz ?_); refine pTz ?_; refine nNz ?_; refine cTz ?_; refine sRz ?_; refine vAz ?_; refine nNz ?_; refine CW.ret ?_; refine thenR (finR (.inl rfl) rfl rfl rfl (.cons (.tmp rfl) .nil) ?_); rw [hn (by omega)]; rfl; refine gFaz ?_; refine gFaz ?_; refine pTaz ?_; refine vAz ?_; refine nNz ?_; refine CW.seq ?_; refine sRz ?_; refine vMz ?_; refine vMz ?_; (iterate 3 refine gFz ?_); refine pTz ?_; refine vMz ?_; (iterate 4 refine gFz ?_); refine pTz ?_; refine vMz ?_; (iterate 4 refine gFz ?_); refine pTz ?_; refine nNz ?_; refine cTz ?_; refine sRz ?_; refine vAz ?_; refine nNz ?_; refine CW.ret ?_; refine thenR (finR (.inl rfl) rfl rfl rfl (.cons (.tmp rfl) .nil) ?_); rw [hn (by omega)]; rfl; (iterate 3 refine gFaz ?_); refine pTaz ?_; refine vMz ?_; (iterate 3 refine gFz ?_); refine pTz ?_; refine vAz ?_; refine nNz ?_; refine CW.seq ?_; refine sRz ?_; refine vMz ?_; refine vMz ?_; (iterate 3 refine gFz ?_); refine pTz ?_; refine vMz ?_; (iterate 4 refine gFz ?_); refine pTz ?_; refine vMz ?_; (iterate 4 refine gFz ?_); refine pTz ?_; refine nNz ?_; refine cTz ?_; refine sRz ?_; refine vAz ?_; refine nNz ?_; refine CW.ret ?_; refine thenR (finR (.inl rfl) rfl rfl rfl (.cons (.tmp rfl) .nil) ?_); rw [hn (by omega)]; rfl)
      · cases hr : readB L.cl pc with
        | true =>
          rw [hr] at hRd0 hp hn
          have hRd : ∀ w' {fs}, St w [] fs w' → Calls Tryz.prog 67 #[.slice p0 L.cl.length c0, .int .i64 pc] w' (Ret w' (.bool true)) := hRd0
          simp only [or_true, and_true] at hp hn
          (refine sRz ?_; apply LW.boxA; rfl; rfl; intro _; refine vAz ?_; refine nSz ?_; refine vFz ?_; refine ldz rfl .head fr_rd11 ?_; refine lvz (.lenR rfl inferInstance rfl) ?_; refine lvz (.gtr rfl rfl) ?_; refine vMz ?_)
          (refine LW.guardDF rfl rfl rfl (fun hsq hsp => ?_) (fun hsq hsp => ?_))
          (refine vFz ?_; refine gTaz ?_; refine ldz rfl .head fr_rd12 ?_; refine gTaz ?_; refine lvz (.lenR rfl inferInstance rfl) ?_; refine gTaz ?_; refine lvz (.gtr rfl rfl) ?_; refine pFaz ?_; refine vMz ?_; refine LW.guardDF rfl rfl rfl (fun hsq hsp => ?_) (fun hsq hsp => ?_); refine vFz ?_; refine gTaz ?_; refine ldz rfl .head fr_rd4 ?_; refine gTaz ?_; refine lvz (.gtr rfl rfl) ?_; refine pFaz ?_; refine vAz ?_; refine nNz ?_; refine CW.seq ?_; refine sRz ?_; refine vMz ?_; refine vMz ?_; refine LW.guardDF rfl rfl rfl (fun hsq hsp => ?_) (fun hsq hsp => ?_); refine vFz ?_; refine gTaz ?_; refine ldz rfl .head fr_rd5 ?_; refine gTaz ?_; refine lvz (.eq rfl rfl) ?_; refine pFaz ?_; refine vMz ?_; refine LW.guardDF rfl rfl rfl (fun hsq hsp => ?_) (fun hsq hsp => ?_); refine vFz ?_; refine gTaz ?_; refine ldz rfl .head fr_rd0 ?_; refine gTaz ?_; apply LW.callE; rfl; rfl; infer_instance; exact .cons rfl .nil; intro w _; exact hC w (by assumption); refine gTaz ?_; refine lvz (.neF rfl rfl (by omega)) ?_; refine pFaz ?_; refine vMz ?_; refine gTz ?_; refine vFz ?_; refine gTz ?_; refine ldz rfl .head fr_rd2 ?_; refine gTz ?_; apply LW.callE; rfl; rfl; infer_instance; exact .cons rfl .nil; intro w _; exact hS w; refine gTz ?_; refine lvz (.neF rfl rfl (by omega)) ?_; refine pFz ?_; refine nNz ?_; refine cFz ?_; refine CW.skip ?_; refine thenN ?_; refine CW.seq ?_; refine sRz ?_; refine vFz ?_; refine ldz rfl .head fr_rd1 ?_; refine vFz ?_; refine ldz rfl .head fr_rd0 ?_; refine lvz (.lenR rfl inferInstance rfl) ?_; refine lvz (.neT rfl rfl (by omega)) ?_; refine vMz ?_; refine gTz ?_; refine vFz ?_; refine gTz ?_; refine ldz rfl .head fr_rd0 ?_; refine gTz ?_; refine vFz ?_; refine gTz ?_; refine ldz rfl .head fr_rd1 ?_; refine gTz ?_; apply LW.callE; rfl; rfl; infer_instance; exact .cons rfl (.cons rfl .nil); intro w _; exact hRd w (by assumption); refine gTz ?_; refine lvz (.notT rfl (by with_reducible rfl)) ?_; refine pTz ?_; refine nNz ?_; refine cFz ?_; refine CW.skip ?_; refine thenN ?_; refine sRz ?_; refine vAz ?_; refine nNz ?_; refine CW.ret ?_; apply finR; exact .inl rfl; rfl; rfl; rfl; apply ResL.cons; exact Res.tmp rfl; exact ResL.nil; rw [hp (by omega)]; rfl; (iterate 3 refine gFaz ?_); refine pTaz ?_; refine vMz ?_; (iterate 4 refine gFz ?_); refine pTz ?_; refine nNz ?_; refine cTz ?_; refine sRz ?_; refine vAz ?_; refine nNz ?_; refine CW.ret ?_; refine thenR (finR (.inl rfl) rfl rfl rfl (.cons (.tmp rfl) .nil) ?_); rw [hn (by omega)]; rfl; refine gFaz ?_; refine gFaz ?_; refine pTaz ?_; refine vMz ?_; (iterate 4 refine gFz ?_); refine pTz ?_; refine vMz ?_; (iterate 4 refine gFz ?_); refine pTz ?_; refine nNz ?_; refine cTz ?_; refine sRz ?_; refine vAz ?_; refine nNz ?_; refine CW.ret ?_; refine thenR (finR (.inl rfl) rfl rfl rfl (.cons (.tmp rfl) .nil) ?_); rw [hn (by omega)]; rfl; refine gFaz ?_; refine gFaz ?_; refine pTaz ?_; refine vAz ?_; refine nNz ?_; refine CW.seq ?_; refine sRz ?_; refine vMz ?_; refine vMz ?_; (iterate 3 refine gFz ?_); refine pTz ?_; refine vMz ?_; (iterate 4 refine gFz ?_); refine pTz ?_; refine vMz ?_; (iterate 4 refine gFz ?_); refine pTz ?_; refine nNz ?_; refine cTz ?_; refine sRz ?_; refine vAz ?_; refine nNz ?_; refine CW.ret ?_; refine thenR (finR (.inl rfl) rfl rfl rfl (.cons (.tmp rfl) .nil) ?_); rw [hn (by omega)]; rfl; (iterate 3 refine gFaz ?_); refine pTaz ?_; refine vMz ?_; (iterate 3 refine gFz ?_); refine pTz ?_; refine vAz ?_; refine nNz ?_; refine CW.seq ?_; refine sRz ?_; refine vMz ?_; refine vMz ?_; (iterate 3 refine gFz ?_); refine pTz ?_; refine vMz ?_; (iterate 4 refine gFz ?_); refine pTz ?_; refine vMz ?_; (iterate 4 refine gFz ?_); refine pTz ?_; refine nNz ?_; refine cTz ?_; refine sRz ?_; refine vAz ?_; refine nNz ?_; refine CW.ret ?_; refine thenR (finR (.inl rfl) rfl rfl rfl (.cons (.tmp rfl) .nil) ?_); rw [hn (by omega)]; rfl)
        | false =>
          rw [hr] at hRd0 hp hn
          have hRd : ∀ w' {fs}, St w [] fs w' → Calls Tryz.prog 67 #[.slice p0 L.cl.length c0, .int .i64 pc] w' (Ret w' (.bool false)) := hRd0
          simp only [Bool.false_eq_true, or_false] at hp hn
          (refine sRz ?_; apply LW.boxA; rfl; rfl; intro _; refine vAz ?_; refine nSz ?_; refine vFz ?_; refine ldz rfl .head fr_rd11 ?_; refine lvz (.lenR rfl inferInstance rfl) ?_; refine lvz (.gtr rfl rfl) ?_; refine vMz ?_)
          (refine LW.guardDF rfl rfl rfl (fun hsq hsp => ?_) (fun hsq hsp => ?_))
          (refine vFz ?_; refine gTaz ?_; refine ldz rfl .head fr_rd12 ?_; refine gTaz ?_; refine lvz (.lenR rfl inferInstance rfl) ?_; refine gTaz ?_; refine lvz (.gtr rfl rfl) ?_; refine pFaz ?_; refine vMz ?_; refine LW.guardDF rfl rfl rfl (fun hsq hsp => ?_) (fun hsq hsp => ?_); refine vFz ?_; refine gTaz ?_; refine ldz rfl .head fr_rd4 ?_; refine gTaz ?_; refine lvz (.gtr rfl rfl) ?_; refine pFaz ?_; refine vAz ?_; refine nNz ?_; refine CW.seq ?_; refine sRz ?_; refine vMz ?_; refine vMz ?_; refine LW.guardDF rfl rfl rfl (fun hsq hsp => ?_) (fun hsq hsp => ?_); refine vFz ?_; refine gTaz ?_; refine ldz rfl .head fr_rd5 ?_; refine gTaz ?_; refine lvz (.eq rfl rfl) ?_; refine pFaz ?_; refine vMz ?_; refine LW.guardDF rfl rfl rfl (fun hsq hsp => ?_) (fun hsq hsp => ?_); refine vFz ?_; refine gTaz ?_; refine ldz rfl .head fr_rd0 ?_; refine gTaz ?_; apply LW.callE; rfl; rfl; infer_instance; exact .cons rfl .nil; intro w _; exact hC w (by assumption); refine gTaz ?_; refine lvz (.neF rfl rfl (by omega)) ?_; refine pFaz ?_; refine vMz ?_; refine gTz ?_; refine vFz ?_; refine gTz ?_; refine ldz rfl .head fr_rd2 ?_; refine gTz ?_; apply LW.callE; rfl; rfl; infer_instance; exact .cons rfl .nil; intro w _; exact hS w; refine gTz ?_; refine lvz (.neF rfl rfl (by omega)) ?_; refine pFz ?_; refine nNz ?_; refine cFz ?_; refine CW.skip ?_; refine thenN ?_; refine CW.seq ?_; refine sRz ?_; refine vFz ?_; refine ldz rfl .head fr_rd1 ?_; refine vFz ?_; refine ldz rfl .head fr_rd0 ?_; refine lvz (.lenR rfl inferInstance rfl) ?_; refine lvz (.neT rfl rfl (by omega)) ?_; refine vMz ?_; refine gTz ?_; refine vFz ?_; refine gTz ?_; refine ldz rfl .head fr_rd0 ?_; refine gTz ?_; refine vFz ?_; refine gTz ?_; refine ldz rfl .head fr_rd1 ?_; refine gTz ?_; apply LW.callE; rfl; rfl; infer_instance; exact .cons rfl (.cons rfl .nil); intro w _; exact hRd w (by assumption); refine gTz ?_; refine lvz (.notF rfl (by with_reducible rfl)) ?_; refine pTz ?_; refine nNz ?_; refine cTz ?_; refine sRz ?_; refine vAz ?_; refine nNz ?_; refine CW.ret ?_; refine thenR (finR (.inl rfl) rfl rfl rfl (.cons (.tmp rfl) .nil) ?_); rw [hn (by omega)]; rfl; (iterate 3 refine gFaz ?_); refine pTaz ?_; refine vMz ?_; (iterate 4 refine gFz ?_); refine pTz ?_; refine nNz ?_; refine cTz ?_; refine sRz ?_; refine vAz ?_; refine nNz ?_; refine CW.ret ?_; refine thenR (finR (.inl rfl) rfl rfl rfl (.cons (.tmp rfl) .nil) ?_); rw [hn (by omega)]; rfl; refine gFaz ?_; refine gFaz ?_; refine pTaz ?_; refine vMz ?_; (iterate 4 refine gFz ?_); refine pTz ?_; refine vMz ?_; (iterate 4 refine gFz ?_); refine pTz ?_; refine nNz ?_; refine cTz ?_; refine sRz ?_; refine vAz ?_; refine nNz ?_; refine CW.ret ?_; refine thenR (finR (.inl rfl) rfl rfl rfl (.cons (.tmp rfl) .nil) ?_); rw [hn (by omega)]; rfl; refine gFaz ?_; refine gFaz ?_; refine pTaz ?_; refine vAz ?_; refine nNz ?_; refine CW.seq ?_; refine sRz ?_; refine vMz ?_; refine vMz ?_; (iterate 3 refine gFz ?_); refine pTz ?_; refine vMz ?_; (iterate 4 refine gFz ?_); refine pTz ?_; refine vMz ?_; (iterate 4 refine gFz ?_); refine pTz ?_; refine nNz ?_; refine cTz ?_; refine sRz ?_; refine vAz ?_; refine nNz ?_; refine CW.ret ?_; refine thenR (finR (.inl rfl) rfl rfl rfl (.cons (.tmp rfl) .nil) ?_); rw [hn (by omega)]; rfl; (iterate 3 refine gFaz ?_); refine pTaz ?_; refine vMz ?_; (iterate 3 refine gFz ?_); refine pTz ?_; refine vAz ?_; refine nNz ?_; refine CW.seq ?_; refine sRz ?_; refine vMz ?_; refine vMz ?_; (iterate 3 refine gFz ?_); refine pTz ?_; refine vMz ?_; (iterate 4 refine gFz ?_); refine pTz ?_; refine vMz ?_; (iterate 4 refine gFz ?_); refine pTz ?_; refine nNz ?_; refine cTz ?_; refine sRz ?_; refine vAz ?_; refine nNz ?_; refine CW.ret ?_; refine thenR (finR (.inl rfl) rfl rfl rfl (.cons (.tmp rfl) .nil) ?_); rw [hn (by omega)]; rfl)
    · rw [if_neg hs] at hS0
      have hS : ∀ w', Calls Tryz.prog 66 #[.agg #[.slice p2 L.ws.length c2, .slice p3 L.ms.length c3]] w' (Ret w' (.int .i64 230)) := hS0
      rw [hn (fun h => hs h.2.2.2.1)] at *
      clear hp hn
      (refine sRz ?_; apply LW.boxA; rfl; rfl; intro _; refine vAz ?_; refine nSz ?_; refine vFz ?_; refine ldz rfl .head fr_rd11 ?_; refine lvz (.lenR rfl inferInstance rfl) ?_; refine lvz (.gtr rfl rfl) ?_; refine vMz ?_)
      (refine LW.guardDF rfl rfl rfl (fun hsq hsp => ?_) (fun hsq hsp => ?_))
      (refine vFz ?_; refine gTaz ?_; refine ldz rfl .head fr_rd12 ?_; refine gTaz ?_; refine lvz (.lenR rfl inferInstance rfl) ?_; refine gTaz ?_; refine lvz (.gtr rfl rfl) ?_; refine pFaz ?_; refine vMz ?_; refine LW.guardDF rfl rfl rfl (fun hsq hsp => ?_) (fun hsq hsp => ?_); refine vFz ?_; refine gTaz ?_; refine ldz rfl .head fr_rd4 ?_; refine gTaz ?_; refine lvz (.gtr rfl rfl) ?_; refine pFaz ?_; refine vAz ?_; refine nNz ?_; refine CW.seq ?_; refine sRz ?_; refine vMz ?_; refine vMz ?_; refine LW.guardDF rfl rfl rfl (fun hsq hsp => ?_) (fun hsq hsp => ?_); refine vFz ?_; refine gTaz ?_; refine ldz rfl .head fr_rd5 ?_; refine gTaz ?_; refine lvz (.eq rfl rfl) ?_; refine pFaz ?_; refine vMz ?_; refine LW.guardDF rfl rfl rfl (fun hsq hsp => ?_) (fun hsq hsp => ?_); refine vFz ?_; refine gTaz ?_; refine ldz rfl .head fr_rd0 ?_; refine gTaz ?_; apply LW.callE; rfl; rfl; infer_instance; exact .cons rfl .nil; intro w _; exact hC w (by assumption); refine gTaz ?_; refine lvz (.neF rfl rfl (by omega)) ?_; refine pFaz ?_; refine vMz ?_; refine gTz ?_; refine vFz ?_; refine gTz ?_; refine ldz rfl .head fr_rd2 ?_; refine gTz ?_; apply LW.callE; rfl; rfl; infer_instance; exact .cons rfl .nil; intro w _; exact hS w; refine gTz ?_; refine lvz (.neT rfl rfl (by omega)) ?_; refine pFz ?_; refine nNz ?_; refine cTz ?_; refine sRz ?_; refine vAz ?_; refine nNz ?_; refine CW.ret ?_; refine thenR (finR (.inl rfl) rfl rfl rfl (.cons (.tmp rfl) .nil) ?_); rfl; (iterate 3 refine gFaz ?_); refine pTaz ?_; refine vMz ?_; (iterate 4 refine gFz ?_); refine pTz ?_; refine nNz ?_; refine cTz ?_; refine sRz ?_; refine vAz ?_; refine nNz ?_; refine CW.ret ?_; refine thenR (finR (.inl rfl) rfl rfl rfl (.cons (.tmp rfl) .nil) ?_); rfl; refine gFaz ?_; refine gFaz ?_; refine pTaz ?_; refine vMz ?_; (iterate 4 refine gFz ?_); refine pTz ?_; refine vMz ?_; (iterate 4 refine gFz ?_); refine pTz ?_; refine nNz ?_; refine cTz ?_; refine sRz ?_; refine vAz ?_; refine nNz ?_; refine CW.ret ?_; refine thenR (finR (.inl rfl) rfl rfl rfl (.cons (.tmp rfl) .nil) ?_); rfl; refine gFaz ?_; refine gFaz ?_; refine pTaz ?_; refine vAz ?_; refine nNz ?_; refine CW.seq ?_; refine sRz ?_; refine vMz ?_; refine vMz ?_; (iterate 3 refine gFz ?_); refine pTz ?_; refine vMz ?_; (iterate 4 refine gFz ?_); refine pTz ?_; refine vMz ?_; (iterate 4 refine gFz ?_); refine pTz ?_; refine nNz ?_; refine cTz ?_; refine sRz ?_; refine vAz ?_; refine nNz ?_; refine CW.ret ?_; refine thenR (finR (.inl rfl) rfl rfl rfl (.cons (.tmp rfl) .nil) ?_); rfl; (iterate 3 refine gFaz ?_); refine pTaz ?_; refine vMz ?_; (iterate 3 refine gFz ?_); refine pTz ?_; refine vAz ?_; refine nNz ?_; refine CW.seq ?_; refine sRz ?_; refine vMz ?_; refine vMz ?_; (iterate 3 refine gFz ?_); refine pTz ?_; refine vMz ?_; (iterate 4 refine gFz ?_); refine pTz ?_; refine vMz ?_; (iterate 4 refine gFz ?_); refine pTz ?_; refine nNz ?_; refine cTz ?_; refine sRz ?_; refine vAz ?_; refine nNz ?_; refine CW.ret ?_; refine thenR (finR (.inl rfl) rfl rfl rfl (.cons (.tmp rfl) .nil) ?_); rfl)
  · rw [if_neg hc] at hC0
    have hC : ∀ w' {fs}, St w [] fs w' → Calls Tryz.prog 48 #[.slice p0 L.cl.length c0] w' (Ret w' (.int .i64 3)) := hC0
    rw [hn (fun h => hc h.2.2.1)] at *
    clear hp hn
    (refine sRz ?_; apply LW.boxA; rfl; rfl; intro _; refine vAz ?_; refine nSz ?_; refine vFz ?_; refine ldz rfl .head fr_rd11 ?_; refine lvz (.lenR rfl inferInstance rfl) ?_; refine lvz (.gtr rfl rfl) ?_; refine vMz ?_)
    (refine LW.guardDF rfl rfl rfl (fun hsq hsp => ?_) (fun hsq hsp => ?_))
    (refine vFz ?_; refine gTaz ?_; refine ldz rfl .head fr_rd12 ?_; refine gTaz ?_; refine lvz (.lenR rfl inferInstance rfl) ?_; refine gTaz ?_; refine lvz (.gtr rfl rfl) ?_; refine pFaz ?_; refine vMz ?_; refine LW.guardDF rfl rfl rfl (fun hsq hsp => ?_) (fun hsq hsp => ?_); refine vFz ?_; refine gTaz ?_; refine ldz rfl .head fr_rd4 ?_; refine gTaz ?_; refine lvz (.gtr rfl rfl) ?_; refine pFaz ?_; refine vAz ?_; refine nNz ?_; refine CW.seq ?_; refine sRz ?_; refine vMz ?_; refine vMz ?_; refine LW.guardDF rfl rfl rfl (fun hsq hsp => ?_) (fun hsq hsp => ?_); refine vFz ?_; refine gTaz ?_; refine ldz rfl .head fr_rd5 ?_; refine gTaz ?_; refine lvz (.eq rfl rfl) ?_; refine pFaz ?_; refine vMz ?_; refine LW.guardDF rfl rfl rfl (fun hsq hsp => ?_) (fun hsq hsp => ?_); refine vFz ?_; refine gTaz ?_; refine ldz rfl .head fr_rd0 ?_; refine gTaz ?_; apply LW.callE; rfl; rfl; infer_instance; exact .cons rfl .nil; intro w _; exact hC w (by assumption); refine gTaz ?_; refine lvz (.neT rfl rfl (by omega)) ?_; refine pFaz ?_; refine vMz ?_; (iterate 4 refine gFz ?_); refine pTz ?_; refine nNz ?_; refine cTz ?_; refine sRz ?_; refine vAz ?_; refine nNz ?_; refine CW.ret ?_; refine thenR (finR (.inl rfl) rfl rfl rfl (.cons (.tmp rfl) .nil) ?_); rfl; (iterate 3 refine gFaz ?_); refine pTaz ?_; refine vMz ?_; (iterate 4 refine gFz ?_); refine pTz ?_; refine nNz ?_; refine cTz ?_; refine sRz ?_; refine vAz ?_; refine nNz ?_; refine CW.ret ?_; refine thenR (finR (.inl rfl) rfl rfl rfl (.cons (.tmp rfl) .nil) ?_); rfl; refine gFaz ?_; refine gFaz ?_; refine pTaz ?_; refine vMz ?_; (iterate 4 refine gFz ?_); refine pTz ?_; refine vMz ?_; (iterate 4 refine gFz ?_); refine pTz ?_; refine nNz ?_; refine cTz ?_; refine sRz ?_; refine vAz ?_; refine nNz ?_; refine CW.ret ?_; refine thenR (finR (.inl rfl) rfl rfl rfl (.cons (.tmp rfl) .nil) ?_); rfl; refine gFaz ?_; refine gFaz ?_; refine pTaz ?_; refine vAz ?_; refine nNz ?_; refine CW.seq ?_; refine sRz ?_; refine vMz ?_; refine vMz ?_; (iterate 3 refine gFz ?_); refine pTz ?_; refine vMz ?_; (iterate 4 refine gFz ?_); refine pTz ?_; refine vMz ?_; (iterate 4 refine gFz ?_); refine pTz ?_; refine nNz ?_; refine cTz ?_; refine sRz ?_; refine vAz ?_; refine nNz ?_; refine CW.ret ?_; refine thenR (finR (.inl rfl) rfl rfl rfl (.cons (.tmp rfl) .nil) ?_); rfl; (iterate 3 refine gFaz ?_); refine pTaz ?_; refine vMz ?_; (iterate 3 refine gFz ?_); refine pTz ?_; refine vAz ?_; refine nNz ?_; refine CW.seq ?_; refine sRz ?_; refine vMz ?_; refine vMz ?_; (iterate 3 refine gFz ?_); refine pTz ?_; refine vMz ?_; (iterate 4 refine gFz ?_); refine pTz ?_; refine vMz ?_; (iterate 4 refine gFz ?_); refine pTz ?_; refine nNz ?_; refine cTz ?_; refine sRz ?_; refine vAz ?_; refine nNz ?_; refine CW.ret ?_; refine thenR (finR (.inl rfl) rfl rfl rfl (.cons (.tmp rfl) .nil) ?_); rfl)
end Go.Proofs.YtpgdnfgjbhdbpaaGreatDoor

/-
  A machine: memory reached, whatever is asked.
  Conditions: none.
-/
namespace Go.Proofs.YtpgdnfgjbhdbpaaGreatDoor
open Go Go.RowKit SL
set_option maxRecDepth 8000
set_option maxHeartbeats 4000000
set_option linter.unusedSimpArgs false
set_option linter.unusedVariables false
attribute [local irreducible] SL.CW SL.LW SL.DW Calls SL.Ret SL.RetG SL.beginQ SL.roundQ SL.rangeQ SL.inQ SL.RW SL.AnyW SL.thenQ SL.thenC SL.thenW SL.blkQ SL.finQ SL.ValP SL.NewP SL.SetP SL.CallP SL.Rd SL.Wr SL.Known
/-! ### Facts in another order -/
def catI {α : Type} (env : List (List α)) (xs : List Nat) (tail : List α) : List α := xs.foldr (fun i acc => env.getD i [] ++ acc) tail
theorem perm_ix {α : Type} (env : List (List α)) {xs ys : List Nat} (tail : List α) (h : xs.isPerm ys = true) : (catI env xs tail).Perm (catI env ys tail) := by
  have hp : xs.Perm ys := List.isPerm_iff.1 h
  clear h
  unfold catI
  induction hp with
  | nil => exact .refl _
  | cons x _ ih => exact List.Perm.append_left _ ih
  | swap x y l =>
    simp only [List.foldr_cons, ← List.append_assoc]
    exact List.Perm.append_right _ List.perm_append_comm
  | trans _ _ ih1 ih2 => exact ih1.trans ih2
/-- Some of these facts, in whatever order. -/
def SubP {α : Type} (l l' : List α) : Prop := ∃ m, l.Sublist m ∧ m.Perm l'
theorem catI_tail {α : Type} (env : List (List α)) (zs : List Nat) (tail : List α) : tail.Sublist (catI env zs tail) := by
  induction zs with
  | nil => exact .refl _
  | cons z zs ih => exact List.Sublist.trans ih (List.sublist_append_right _ _)
theorem catI_app {α : Type} (env : List (List α)) (xs zs : List Nat) (tail : List α) : (catI env xs tail).Sublist (catI env (xs ++ zs) tail) := by
  induction xs with
  | nil => exact catI_tail env zs tail
  | cons x xs ih => exact List.Sublist.append_left ih _
theorem subp_ix {α : Type} (env : List (List α)) {xs ys : List Nat} (tail : List α) (h : (xs ++ ys.filter fun y => !xs.contains y).isPerm ys = true) : SubP (catI env xs tail) (catI env ys tail) := ⟨_, catI_app env xs _ tail, perm_ix env tail h⟩
theorem SubP.st {w0 w : World} {S : List Nat} {fs gs : Fs} (h : SubP gs fs) (hs : St w0 S fs w) : St w0 S gs w := by
  obtain ⟨m, h1, h2⟩ := h
  exact st_sub (hs.perm h2) h1
theorem LW.subP {C : Cu} {ops : Array Oper} {Q : Post} {l : List Oper} {e : Env} {fs fs' : Fs} (hp : SubP fs' fs) (h : LW C ops Q l e fs') : LW C ops Q l e fs := by
  unfold LW at h ⊢
  exact fun a w hs => h a w ⟨hs.env, hp.st hs.st⟩
/-- An outcome, some of its facts told, in whatever order. -/
def anyO (K : Out) : Out := fun x fs' => ∃ fs'', K x fs'' ∧ SubP fs'' fs'
theorem calls_anyO {P : Program} {f : FuncId} {args : Array Value} {w0 w : World} {S : List Nat} {K : Out} (h : Calls P f args w (fun x w' => ∃ fs', anyO K x fs' ∧ St w0 S fs' w')) : Calls P f args w (fun x w' => ∃ fs', K x fs' ∧ St w0 S fs' w') :=
  Calls.mono h fun x w' ⟨fs', ⟨fs'', hk, hp⟩, hst⟩ => ⟨fs'', hk, hp.st hst⟩
/-- A frame whose rows are of its own. -/
def FrO (f : FrV) (L : FrL) (gs : Fs) : Prop := ∃ g1 g2 g3 g4 g5, (g1 ++ (g2 ++ (g3 ++ (g4 ++ g5)))).Perm gs ∧ bM L.cl f.code g1 ∧ wM L.ws f.stk g2 ∧ bM L.ms f.mem g3 ∧ bM L.il f.inp g4 ∧ bM L.bl f.back g5
theorem bM_at {l : List UInt8} {v : Value} {g : Fs} {w : World} (h : bM l v g) (hw : ∀ p ∈ g, w.heap[p.1]? = some p.2) : RowAt w 1 v l.length (ucs l) := IsRow.us h hw (List.Sublist.refl _)
theorem wM_at {l : List Nat} {v : Value} {g : Fs} {w : World} (h : wM l v g) (hw : ∀ p ∈ g, w.heap[p.1]? = some p.2) : RowAt w 4 v l.length (wcs l) := IsRow.us h hw (List.Sublist.refl _)
theorem FrO.rows {f : FrV} {L : FrL} {gs : Fs} {w : World} (h : FrO f L gs) (hw : ∀ p ∈ gs, w.heap[p.1]? = some p.2) : FrRows w f L := by
  obtain ⟨g1, g2, g3, g4, g5, hp, h1, h2, h3, h4, h5⟩ := h
  replace hw : ∀ p ∈ g1 ++ (g2 ++ (g3 ++ (g4 ++ g5))), w.heap[p.1]? = some p.2 := fun p h => hw p (hp.subset h)
  exact ⟨bM_at h1 fun p hp => hw p (by simp [hp]), wM_at h2 fun p hp => hw p (by simp [hp]), bM_at h3 fun p hp => hw p (by simp [hp]), bM_at h4 fun p hp => hw p (by simp [hp]), bM_at h5 fun p hp => hw p (by simp [hp])⟩
theorem FrO.st {f : FrV} {L : FrL} {gs fs : Fs} {w0 w : World} {S : List Nat} (h : FrO f L gs) (hs : St w0 S fs w) (hg : ∀ p ∈ gs, p ∈ fs) : FrRows w f L := h.rows fun p hp => (hs.own p (hg p hp)).2
attribute [local irreducible] SL.inP
def FrL.setM (L : FrL) (ms : List UInt8) : FrL := { L with ms := ms }
theorem FrO.setSc {f : FrV} {L : FrL} {g1 g2 g3 g4 g5 s1 s2 : Fs} {ms : List UInt8} {s k : Value} {g : Nat} (h : bM L.cl f.code g1 ∧ wM L.ws f.stk g2 ∧ bM L.ms f.mem g3 ∧ bM L.il f.inp g4 ∧ bM L.bl f.back g5) (h1 : wM L.ws s s1) (h2 : bM ms k s2) :
    FrO { f with gas := g, stk := s, mem := k } (L.setM ms) (g1 ++ (s1 ++ (s2 ++ (g4 ++ g5)))) := ⟨g1, s1, s2, g4, g5, .refl _, h.1, h1, h2, h.2.2.2.1, h.2.2.2.2⟩
theorem reach_ok (w0 : World) (S : List Nat) (b : Nat) (m : MaV) (L : FrL) (gs : Fs) (a n : Nat) (ha : a < M256) (hn0 : 0 < n) (hn : n < M256) (hE2 : endV a n ≤ 1024) (hok : okSc L.ws.length L.ms.length) (hg : m.fr.gas < 18446744073709551616) (hfr : FrO m.fr L gs) (rest : Fs) (w : World) (hs : St w0 S ((b, maO m) :: (gs ++ rest)) w)
    (hcost : memV L.ms.length (endV a n) ≤ m.fr.gas) :
    Calls Tryz.prog 146 #[.pointer (some ⟨b, 0, none⟩), wv a, wv n] w (fun x w' => ∃ fs', (x = .returned (.tuple #[.int .u64 (a : Int), .int .u64 (n : Int)]) ∧ ∃ s k gs', FrO { m.fr with gas := m.fr.gas - memV L.ms.length (endV a n), stk := s, mem := k } (L.setM (L.ms ++ List.replicate (upW (endV a n) - L.ms.length) 0)) gs' ∧ fs' = (b, maO ((m.setGas (m.fr.gas - memV L.ms.length (endV a n))).setSc s k)) :: (gs' ++ rest)) ∧ St w0 S fs' w') := by
  obtain ⟨g1, g2, g3, g4, g5, hp, hall⟩ := hfr
  replace hs : St w0 S ((b, maO m) :: (g1 ++ (g2 ++ (g3 ++ (g4 ++ g5))) ++ rest)) w := hs.perm (List.Perm.cons _ (hp.append_right rest))
  clear hp
  obtain ⟨_, _, hm3, _, _⟩ := id hall
  unfold bM at hm3
  obtain ⟨p2, c2, hmv⟩ := hm3.form
  have hk : L.ms.length ≤ 1024 := hok.2.1
  have hmem : ∀ {E fr}, Rd Tryz.prog 22 (.cells (mca m) E fr) 3 (.slice p2 L.ms.length c2) := fun {E fr} => by rw [← hmv]; exact ma_rd3
  have hEnd0 := End_calls a n ha hn
  have hMem0 := Memory_calls L.ms.length (endV a n) (by omega) (by omega)
  have hEa : a + n ≤ endV a n := by
    unfold endV at hE2 ⊢
    rw [if_neg (by omega)] at hE2 ⊢
    unfold NOG at hE2 ⊢
    omega
  have hSa0 := Small_calls a ha
  have hSn0 := Small_calls n hn
  obtain ⟨E, hE⟩ : ∃ E, E = endV a n := ⟨_, rfl⟩
  rw [← hE] at hEnd0 hMem0 hE2 hcost hEa ⊢
  clear hE
  obtain ⟨c, hc⟩ : ∃ c, c = memV L.ms.length E := ⟨_, rfl⟩
  rw [← hc] at hMem0 hcost ⊢
  clear hc
  rw [if_pos (by omega), decide_eq_true (by omega)] at hSa0 hSn0
  have hEnd : ∀ w, Calls Tryz.prog 158 #[wv a, wv n] w (Ret w (.int .u64 (E : Int))) := hEnd0
  have hMem : ∀ w, Calls Tryz.prog 159 #[.int .u64 (L.ms.length : Int), .int .u64 (E : Int)] w (Ret w (.int .u64 (c : Int))) := hMem0
  have hSa : ∀ w, Calls Tryz.prog 121 #[wv a] w (Ret w (.tuple #[.int .u64 (a : Int), .bool true])) := hSa0
  have hSn : ∀ w, Calls Tryz.prog 121 #[wv n] w (Ret w (.tuple #[.int .u64 (n : Int), .bool true])) := hSn0
  have hsp : spendM m [c] = some (m.setGas (m.fr.gas - c)) := by unfold spendM; rw [if_pos (by simp; omega)]; simp
  refine calls_anyO (calls_inlineP (K := anyO fun x fs' => x = .returned (.tuple #[.int .u64 (a : Int), .int .u64 (n : Int)]) ∧ ∃ s k gs', FrO { m.fr with gas := m.fr.gas - c, stk := s, mem := k } (L.setM (L.ms ++ List.replicate (upW E - L.ms.length) 0)) gs' ∧ fs' = (b, maO ((m.setGas (m.fr.gas - c)).setSc s k)) :: (gs' ++ rest)) (args := [_, _, _]) Tryz.func146 rfl Tryz.ntmps146 rfl ?_ hs)
  (refine sRz ?_; apply LW.boxA; rfl; rfl; intro _; apply LW.boxA; rfl; rfl; intro _; refine vAz ?_; refine vAz ?_; refine nSz ?_; refine ldz rfl (.tail .head) (Rd.whole rfl) ?_; refine ldz rfl .head (Rd.whole rfl) ?_; apply LW.callE; rfl; rfl; infer_instance; exact .cons rfl (.cons rfl .nil); intro w _; exact hEnd w; refine vAz ?_; refine nSz ?_; refine vMz ?_; refine vMz ?_; refine vNz ?_; refine vFz ?_; refine vFz ?_; refine vFz ?_; refine ldz rfl (.tail (.tail .head)) hmem ?_; refine lvz (.lenR rfl inferInstance rfl) ?_; refine lvz (.convN rfl (by omega) (by omega)) ?_; refine vMz ?_; apply LW.callE; rfl; rfl; infer_instance; exact .cons rfl (.cons rfl .nil); intro w _; exact hMem w; apply LW.lay1; rfl; infer_instance; infer_instance; rfl; rfl; rfl; rfl; rfl; rfl; intro _)
  rename_i b4 b5 b29
  refine LW.perm (fs' := (b, maO m) :: (b29, .cells #[.int .u64 (c : Int)] 26 (0, 0)) :: (b5, .cells (wc n) 29 (0, 0)) :: (b4, .cells (wc a) 29 (0, 0)) :: (g1 ++ (g2 ++ (g3 ++ (g4 ++ g5))) ++ rest)) (by exact (List.perm_middle (l₁ := [_, _, _])).symm) ?_
  refine LW.callP (K := MaK b m (spendM m [c]) _) rfl rfl inferInstance (by (exact .cons rfl (.cons rfl .nil))) rfl (fun fs h => ?_) (fun w' hst => spend_calls w0 S b m [c] hg _ _ w' hst (fun w2 h2 => row_cells (h2.own (b29, _) (List.Mem.tail _ (List.Mem.head _))).2 rfl rfl (by simp [maxLen]))) ?_ ?_
  · rw [hsp] at h; cases h.1
  · rintro v fs' h
    rw [hsp] at h
    obtain ⟨h, rfl⟩ := h
    have hmem : ∀ {E fr}, Rd Tryz.prog 22 (.cells (mca (m.setGas (m.fr.gas - c))) E fr) 3 (.slice p2 L.ms.length c2) := fun {E fr} => by rw [← hmv]; exact ma_rd3 (m := m.setGas (m.fr.gas - c))
    (refine nNz ?_; refine CW.seq ?_; refine sRz ?_; refine vMz ?_; refine lvz (.eqF rfl rfl (by omega)) ?_; refine nNz ?_; refine cFz ?_; refine CW.skip ?_; refine thenN ?_; refine sRz ?_; refine vMz ?_; refine vNz ?_; refine vFz ?_; refine vFz ?_; refine ldz rfl .head ma_rd2 ?_; refine vMz ?_)
    (apply LW.callR; rfl; rfl; infer_instance; exact .cons rfl (.cons rfl (.cons rfl .nil)); intro w hs)
    exact grow_ok L.ws L.ms E _ _ w ((FrO.st (f := m.fr) (L := L) (gs := g1 ++ (g2 ++ (g3 ++ (g4 ++ g5)))) ⟨g1, g2, g3, g4, g5, .refl _, hall⟩ hs (fun p hp => List.mem_cons_of_mem _ (by simp only [List.mem_cons, List.mem_append] at hp ⊢; simp [hp]))).s) ((FrO.st (f := m.fr) (L := L) (gs := g1 ++ (g2 ++ (g3 ++ (g4 ++ g5)))) ⟨g1, g2, g3, g4, g5, .refl _, hall⟩ hs (fun p hp => List.mem_cons_of_mem _ (by simp only [List.mem_cons, List.mem_append] at hp ⊢; simp [hp]))).m) hok (by omega) hE2
    rintro vo gso ⟨o, rfl, s1, m1, gg1, gg2, rfl, rfl, hw1, hb1⟩
    have hw1' := hw1
    have hb1' := hb1
    unfold wM at hw1'
    unfold bM at hb1'
    obtain ⟨q1, k1, rfl⟩ := hw1'.form
    obtain ⟨q2, k2, rfl⟩ := hb1'.form
    (refine vMz ?_; refine vEz ?_; refine vEz ?_; apply LW.allocA; rfl; intro _; refine LW.store rfl rfl .head (.whole rfl rfl rfl) ?_; refine vAz ?_; refine nSz ?_; refine vMz ?_; refine lvz (.eqT rfl rfl (by omega)) ?_; apply LW.callE; rfl; rfl; infer_instance; exact .cons rfl .nil; intro w _; exact need_true w; refine nSz ?_; refine vMz ?_; refine ldz rfl .head (Rd.whole rfl) ?_; refine vNz ?_; refine vFz ?_; refine vFz ?_; refine LW.store rfl rfl (.tail (.app .head)) (ma_wr2 rfl rfl rfl rfl) ?_; refine nSz ?_; refine ldz rfl (.tail (.app (.tail (.tail (.tail .head))))) (Rd.whole rfl) ?_; apply LW.callE; rfl; rfl; infer_instance; exact .cons rfl .nil; intro w _; exact hSa w; refine vMz ?_; refine vEz ?_; refine vEz ?_; refine vAz ?_; refine vAz ?_; refine nSz ?_; refine ldz rfl (.tail (.app (.tail (.tail .head)))) (Rd.whole rfl) ?_; apply LW.callE; rfl; rfl; infer_instance; exact .cons rfl .nil; intro w _; exact hSn w; refine vMz ?_; refine vEz ?_; refine vEz ?_; refine vAz ?_; refine vAz ?_; refine nSz ?_; refine vMz ?_; refine vMz ?_; refine vAz ?_; refine vAz ?_; refine nNz ?_; refine CW.ret ?_)
    refine inPI (.inl rfl) .nil rfl (by (apply ResL.cons; exact Res.tmp rfl; apply ResL.cons; exact Res.tmp rfl; exact ResL.nil)) rfl ⟨_, ⟨rfl, _, _, _, FrO.setSc hall hw1 hb1, rfl⟩, ?_⟩
    simp only [List.append_assoc, List.cons_append, List.nil_append]
    exact subp_ix [[_], [_], gg2, gg1, [_], [_], [_], g1, g2, g3, g4, g5] (xs := [4, 7, 3, 2, 10, 11]) (ys := [0, 2, 3, 4, 1, 5, 6, 7, 8, 9, 10, 11]) rest rfl
  · rintro ch fs' h
    rw [hsp] at h; cases h.1
/-! ### Whatever is asked -/
def costR (L : FrL) (a n : Nat) : Nat := memV L.ms.length (endV a n)
def memR (L : FrL) (a n : Nat) : FrL := L.setM (L.ms ++ List.replicate (upW (endV a n) - L.ms.length) 0)
def frR (f : FrV) (L : FrL) (a n : Nat) (s k : Value) : FrV := { f with gas := f.gas - costR L a n, stk := s, mem := k }
def MaV.setF (m : MaV) (f : FrV) : MaV := { m with fr := f }
def ReachK (b : Nat) (m : MaV) (L : FrL) (gs : Fs) (a n : Nat) (rest : Fs) : Out := fun x fs' =>
  (m.fr.gas < costR L a n ∧ x = .panicked failC ∧ fs' = (b, maO m) :: (gs ++ rest)) ∨
  (costR L a n ≤ m.fr.gas ∧ ∃ s k gs', x = .returned (.tuple #[.int .u64 ((if n = 0 then 0 else a : Nat) : Int), .int .u64 (n : Int)]) ∧ FrO (frR m.fr L a n s k) (memR L a n) gs' ∧ fs' = (b, maO (m.setF (frR m.fr L a n s k))) :: (gs' ++ rest))
theorem memV_le {k E g : Nat} (hk : k ≤ 1024) (hg : g ≤ 20000) (h : memV k E ≤ g) : E ≤ 1024 := by
  unfold memV at h
  split at h
  · omega
  · split at h <;> omega
theorem endV_lt (a n : Nat) : endV a n < 18446744073709551616 := by
  unfold endV NOG
  split <;> omega
theorem reach_calls (w0 : World) (S : List Nat) (b : Nat) (m : MaV) (L : FrL) (gs : Fs) (a n : Nat) (ha : a < M256) (hn : n < M256) (hok : okSc L.ws.length L.ms.length) (hg : m.fr.gas ≤ 20000) (hfr : FrO m.fr L gs) (rest : Fs) (w : World) (hs : St w0 S ((b, maO m) :: (gs ++ rest)) w) :
    Calls Tryz.prog 146 #[.pointer (some ⟨b, 0, none⟩), wv a, wv n] w (fun x w' => ∃ fs', ReachK b m L gs a n rest x fs' ∧ St w0 S fs' w') := by
  have hk : L.ms.length ≤ 1024 := hok.2.1
  have hm : ∃ p2 c2, m.fr.mem = .slice p2 L.ms.length c2 := by
    obtain ⟨g1, g2, g3, g4, g5, _, h1, h2, h3, h4, h5⟩ := hfr
    unfold bM at h3
    exact h3.form
  obtain ⟨p2, c2, hm⟩ := hm
  rcases Nat.lt_or_ge m.fr.gas (costR L a n) with hlt | hge
  · refine Calls.mono (reach_gas w0 S b m a n L.ms.length p2 c2 ha hn (endV_lt a n) hk (by omega) hm (gs ++ rest) w hs hlt) ?_
    rintro x w' ⟨fs', ⟨rfl, ex, rfl⟩, hst⟩
    exact ⟨_, .inl ⟨hlt, rfl, rfl⟩, st_sub hst (List.Sublist.cons_cons _ (List.sublist_append_right _ _))⟩
  · rcases Nat.eq_zero_or_pos n with rfl | hn0
    · refine Calls.mono (reach_none w0 S b m a 0 L.ms.length rfl p2 c2 ha hk (by omega) hm (gs ++ rest) w hs) ?_
      rintro x w' ⟨fs', ⟨rfl, ex, rfl⟩, hst⟩
      have he : endV a 0 = 0 := by simp [endV]
      have hc : costR L a 0 = 0 := by unfold costR; rw [he]; simp [memV]
      have hmr : memR L a 0 = L := by unfold memR FrL.setM; rw [he]; simp [upW]
      have hfr2 : frR m.fr L a 0 m.fr.stk m.fr.mem = m.fr := by unfold frR; rw [hc]; rfl
      refine ⟨_, .inr ⟨hge, m.fr.stk, m.fr.mem, gs, rfl, ?_, ?_⟩, st_sub hst (List.Sublist.cons_cons _ (List.sublist_append_right ex _))⟩
      · rw [hmr, hfr2]; exact hfr
      · rw [hfr2]; rfl
    · refine Calls.mono (reach_ok w0 S b m L gs a n ha hn0 hn (memV_le hk hg hge) hok (by omega) hfr rest w hs hge) ?_
      rintro x w' ⟨fs', ⟨rfl, s, k, gs', h1, rfl⟩, hst⟩
      refine ⟨_, .inr ⟨hge, s, k, gs', ?_, h1, rfl⟩, hst⟩
      rw [if_neg (by omega)]
end Go.Proofs.YtpgdnfgjbhdbpaaGreatDoor

/-
  Frames in memory of their own.
  Conditions: none.
-/
namespace Go.Proofs.YtpgdnfgjbhdbpaaGreatDoor
open Go Go.RowKit SL
set_option maxRecDepth 8000
set_option maxHeartbeats 4000000
set_option linter.unusedSimpArgs false
set_option linter.unusedVariables false
attribute [local irreducible] SL.CW SL.LW SL.DW Calls SL.Ret SL.RetG SL.beginQ SL.roundQ SL.rangeQ SL.inQ SL.RW SL.AnyW SL.thenQ SL.thenC SL.thenW SL.blkQ SL.finQ SL.ValP SL.NewP SL.SetP SL.CallP SL.Rd SL.Wr SL.Known
/-- A frame with other rows. -/
def FrV.rows (f : FrV) (c s m i b : Value) : FrV := ⟨c, f.pc, s, m, f.gas, f.self, f.frm, f.val, i, b, f.stat⟩
section wr
variable {P : Program} {T E : TypeId} {code stk mem inp back z : Value} {pc : Int} {gas self frm val n c : Nat} {stat : Bool} {p : Option Addr} {g : Nat}
theorem fr_wr0 [InfoI P T 1 z] : Wr P T (.cells (fra ⟨code, pc, stk, mem, gas, self, frm, val, inp, back, stat⟩) E (0, 0)) (0 + 0) (.slice p n c) (.cells (fra ⟨.slice p n c, pc, stk, mem, gas, self, frm, val, inp, back, stat⟩) E (0, 0)) := Wr.cells (n := 1) (z := z) rfl rfl (by show 0 + 0 + 1 ≤ 14; omega) rfl
theorem fr_wr2 [InfoI P T 1 z] : Wr P T (.cells (fra ⟨code, pc, stk, mem, gas, self, frm, val, inp, back, stat⟩) E (0, 0)) (0 + 2 + 0) (.slice p n c) (.cells (fra ⟨code, pc, .slice p n c, mem, gas, self, frm, val, inp, back, stat⟩) E (0, 0)) := Wr.cells (n := 1) (z := z) rfl rfl (by show 0 + 2 + 0 + 1 ≤ 14; omega) rfl
theorem fr_wr3 [InfoI P T 1 z] : Wr P T (.cells (fra ⟨code, pc, stk, mem, gas, self, frm, val, inp, back, stat⟩) E (0, 0)) (0 + 2 + 1) (.slice p n c) (.cells (fra ⟨code, pc, stk, .slice p n c, gas, self, frm, val, inp, back, stat⟩) E (0, 0)) := Wr.cells (n := 1) (z := z) rfl rfl (by show 0 + 2 + 1 + 1 ≤ 14; omega) rfl
theorem fr_wr4 {x : Nat} [InfoI P T 1 z] : Wr P T (.cells (fra ⟨code, pc, stk, mem, gas, self, frm, val, inp, back, stat⟩) E (0, 0)) (0 + 4) (.int .u64 (x : Int)) (.cells (fra ⟨code, pc, stk, mem, x, self, frm, val, inp, back, stat⟩) E (0, 0)) := Wr.cells (n := 1) (z := z) rfl rfl (by show 0 + 4 + 1 ≤ 14; omega) rfl
theorem fr_wr11 [InfoI P T 1 z] : Wr P T (.cells (fra ⟨code, pc, stk, mem, gas, self, frm, val, inp, back, stat⟩) E (0, 0)) (0 + 11) (.slice p n c) (.cells (fra ⟨code, pc, stk, mem, gas, self, frm, val, .slice p n c, back, stat⟩) E (0, 0)) := Wr.cells (n := 1) (z := z) rfl rfl (by show 0 + 11 + 1 ≤ 14; omega) rfl
theorem fr_wr12 [InfoI P T 1 z] : Wr P T (.cells (fra ⟨code, pc, stk, mem, gas, self, frm, val, inp, back, stat⟩) E (0, 0)) (0 + 12) (.slice p n c) (.cells (fra ⟨code, pc, stk, mem, gas, self, frm, val, inp, .slice p n c, stat⟩) E (0, 0)) := Wr.cells (n := 1) (z := z) rfl rfl (by show 0 + 12 + 1 ≤ 14; omega) rfl
end wr
/-- The values of a frame's rows are slices. -/
structure FrSl (f : FrV) : Prop where
  c : ∃ p n c, f.code = .slice p n c
  s : ∃ p n c, f.stk = .slice p n c
  m : ∃ p n c, f.mem = .slice p n c
  i : ∃ p n c, f.inp = .slice p n c
  b : ∃ p n c, f.back = .slice p n c
theorem FrRows.sl {w : World} {f : FrV} {L : FrL} (h : FrRows w f L) : FrSl f := by
  obtain ⟨a, b, h1, _⟩ := h.c.form
  obtain ⟨a2, b2, h2, _⟩ := h.s.form
  obtain ⟨a3, b3, h3, _⟩ := h.m.form
  obtain ⟨a4, b4, h4, _⟩ := h.i.form
  obtain ⟨a5, b5, h5, _⟩ := h.b.form
  exact ⟨⟨_, _, _, h1⟩, ⟨_, _, _, h2⟩, ⟨_, _, _, h3⟩, ⟨_, _, _, h4⟩, ⟨_, _, _, h5⟩⟩
theorem fr_cells {f : FrV} (h : FrSl f) : (fra f).toList.all Value.oneCell' = true := by
  obtain ⟨⟨_, _, _, h1⟩, ⟨_, _, _, h2⟩, ⟨_, _, _, h3⟩, ⟨_, _, _, h4⟩, ⟨_, _, _, h5⟩⟩ := h
  simp only [fra, frc, wc, List.cons_append, List.nil_append, List.all_cons, List.all_nil, h1, h2, h3, h4, h5]; rfl
theorem fr_wrW {P : Program} {T E : TypeId} {f : FrV} {z : Value} {cs : Array Value} [InfoI P T 14 z] (h : cs.size = 14) (hf : FrSl f) : Wr P T (.cells cs E (0, 0)) 0 (frv f) (.cells (fra f) E (0, 0)) := Wr.whole h rfl (fr_cells hf)
theorem perm5 {α : Type} (g1 g2 g3 g4 g5 : List α) : (g1 ++ (g2 ++ (g3 ++ (g4 ++ g5)))).Perm (g3 ++ (g2 ++ (g5 ++ (g4 ++ g1)))) := by
  have h := perm_ix [g1, g2, g3, g4, g5] (xs := [0, 1, 2, 3, 4]) (ys := [2, 1, 4, 3, 0]) [] rfl
  simpa [catI] using h
/-- Rows that are not too long. -/
def FrL.short (L : FrL) : Prop := L.cl.length ≤ 100000 ∧ L.ws.length ≤ 100000 ∧ L.ms.length ≤ 100000 ∧ L.il.length ≤ 100000 ∧ L.bl.length ≤ 100000
def CopyR (f : FrV) (L : FrL) (v : Value) (gs : Fs) : Prop := ∃ c s m i b, v = frv (f.rows c s m i b) ∧ FrO (f.rows c s m i b) L gs
theorem callCopied_calls (f : FrV) (L : FrL) (hl : L.short) (w : World) (h : FrRows w f L) : Calls Tryz.prog 41 #[frv f] w (RetG w [] (CopyR f L)) := by
  obtain ⟨code, pc, stk, mem, gas, self, frm, val, inp, back, stat⟩ := f
  obtain ⟨h0, h2, h3, h11, h12⟩ := h
  dsimp only at h0 h2 h3 h11 h12
  obtain ⟨p0, c0, rfl, _, hm0⟩ := id h0.form
  obtain ⟨p2, c2, rfl, _, hm2⟩ := id h2.form
  obtain ⟨p3, c3, rfl, _, hm3⟩ := id h3.form
  obtain ⟨p11, c11, rfl, _, hm11⟩ := id h11.form
  obtain ⟨p12, c12, rfl, _, hm12⟩ := id h12.form
  refine enter (args := [_]) _ [] [] Tryz.func41 rfl Tryz.ntmps41 rfl (by simp) .nil ?_
  (refine sRz ?_; apply LW.boxA; rfl; rfl; intro _; apply LW.allocA; rfl; intro _; refine nNz ?_; refine CW.seq ?_)
  rename_i b1 b2
  apply CW.pre
  (refine AnyW.anyM [(2, bM L.cl), (5, bM L.il), (8, bM L.bl)] 10 mixed (by decide +kernel) ?_)
  ((try simp only [tsOf_cons, tsOf_nil, tsOf_app]); refine dvz (.fieldAddr rfl rfl) ?_; apply DW.loadO; rfl; rfl; rfl; exact WantT.none; rfl; apply TRead.tail; apply TRead.head; exact ancB_nil; exact fr_rd0)
  (apply DW.manyV; rfl; rfl; rfl; exact WantT.none; rfl; infer_instance; exact .cons rfl .nil; apply RdV.ext; assumption; rfl; exact RdV.nil; intro w _ _)
  exact SK.Clone_calls _ _ w (h0.bel (by assumption)) hl.1
  intro v1 g1 h1
  ((try simp only [tsOf_cons, tsOf_nil, tsOf_app]); refine dvz (.fieldAddr rfl rfl) ?_; apply DW.loadO; rfl; rfl; rfl; exact WantT.none; rfl; apply TRead.app; apply TRead.tail; apply TRead.head; exact ancB_nil; exact fr_rd11)
  (apply DW.manyV; rfl; rfl; rfl; exact WantT.none; rfl; infer_instance; exact .cons rfl .nil; apply RdV.ext; assumption; rfl; exact RdV.nil; intro w _ _)
  exact SK.Clone_calls _ _ w (h11.bel (by assumption)) hl.2.2.2.1
  intro v4 g4 h4
  ((try simp only [tsOf_cons, tsOf_nil, tsOf_app]); refine dvz (.fieldAddr rfl rfl) ?_; apply DW.loadO; rfl; rfl; rfl; exact WantT.none; rfl; apply TRead.app; apply TRead.app; apply TRead.tail; apply TRead.head; exact ancB_nil; exact fr_rd12)
  (apply DW.manyV; rfl; rfl; rfl; exact WantT.none; rfl; infer_instance; exact .cons rfl .nil; apply RdV.ext; assumption; rfl; exact RdV.nil; intro w _ _)
  exact SK.Clone_calls _ _ w (h12.bel (by assumption)) hl.2.2.2.2
  intro v5 g5 h5
  have h1' := h1
  have h4' := h4
  have h5' := h5
  unfold bM at h1' h4' h5'
  obtain ⟨q1, k1, rfl⟩ := h1'.form
  obtain ⟨q4, k4, rfl⟩ := h4'.form
  obtain ⟨q5, k5, rfl⟩ := h5'.form
  ((try simp only [tsOf_cons, tsOf_nil, tsOf_app]); refine dvz (.fieldAddr rfl rfl) ?_; apply DW.nil; simp only [fsOf_cons, fsOf_nil, fsOf_app, fsOf_tsOf, fsOf_new, fsOf_tag])
  (refine LW.store rfl rfl (.app (.app (.app (.tail .head)))) fr_wr0 ?_; refine vFz ?_; refine LW.store rfl rfl (.app (.app (.app (.tail .head)))) fr_wr11 ?_; refine vFz ?_; refine LW.store rfl rfl (.app (.app (.app (.tail .head)))) fr_wr12 ?_; refine nNz ?_; refine CW.seq ?_)
  apply CW.pre
  (refine AnyW.anyM [(3, wM L.ws), (7, bM L.ms)] 10 mixed (by decide +kernel) ?_)
  ((try simp only [tsOf_cons, tsOf_nil, tsOf_app]); refine dvz (.fieldAddr rfl rfl) ?_; refine dvz (.fieldAddr rfl rfl) ?_; apply DW.loadO; rfl; rfl; rfl; exact WantT.none; rfl; apply TRead.app; apply TRead.app; apply TRead.app; apply TRead.tail; apply TRead.head; exact ancB_nil; exact fr_rd2s)
  (apply DW.manyV; rfl; rfl; rfl; exact WantT.none; rfl; infer_instance; exact .cons rfl .nil; apply RdV.ext; assumption; rfl; exact RdV.nil; intro w _ _)
  exact CloneW_calls _ _ w (h2.bel (by assumption)) hl.2.1
  intro v2 g2 hh2
  ((try simp only [tsOf_cons, tsOf_nil, tsOf_app]); refine dvz (.fieldAddr rfl rfl) ?_; refine dvz (.fieldAddr rfl rfl) ?_; apply DW.loadO; rfl; rfl; rfl; exact WantT.none; rfl; apply TRead.app; apply TRead.app; apply TRead.app; apply TRead.app; apply TRead.tail; apply TRead.head; exact ancB_nil; exact fr_rd3)
  (apply DW.manyV; rfl; rfl; rfl; exact WantT.none; rfl; infer_instance; exact .cons rfl .nil; apply RdV.ext; assumption; rfl; exact RdV.nil; intro w _ _)
  exact SK.Clone_calls _ _ w (h3.bel (by assumption)) hl.2.2.1
  intro v3 g3 hh3
  have h2' := hh2
  have h3' := hh3
  unfold wM at h2'
  unfold bM at h3'
  obtain ⟨q2, k2, rfl⟩ := h2'.form
  obtain ⟨q3, k3, rfl⟩ := h3'.form
  ((try simp only [tsOf_cons, tsOf_nil, tsOf_app]); refine dvz (.fieldAddr rfl rfl) ?_; refine dvz (.fieldAddr rfl rfl) ?_; apply DW.nil; simp only [fsOf_cons, fsOf_nil, fsOf_app, fsOf_tsOf, fsOf_new, fsOf_tag])
  have hsl : FrSl ⟨.slice q1 L.cl.length k1, pc, .slice q2 L.ws.length k2, .slice q3 L.ms.length k3, gas, self, frm, val, .slice q4 L.il.length k4, .slice q5 L.bl.length k5, stat⟩ := ⟨⟨_, _, _, rfl⟩, ⟨_, _, _, rfl⟩, ⟨_, _, _, rfl⟩, ⟨_, _, _, rfl⟩, ⟨_, _, _, rfl⟩⟩
  (refine LW.store rfl rfl (.app (.app (.app (.app (.app (.tail .head)))))) fr_wr2 ?_; refine vFz ?_; refine vFz ?_; refine LW.store rfl rfl (.app (.app (.app (.app (.app (.tail .head)))))) fr_wr3 ?_; refine nSz ?_; refine ldz rfl (.app (.app (.app (.app (.app (.tail .head)))))) fr_rdW ?_; apply LW.store; rfl; rfl; apply SetAt.app; apply SetAt.app; apply SetAt.app; apply SetAt.app; apply SetAt.app; apply SetAt.head; apply fr_wrW; rfl; assumption; refine nNz ?_; refine CW.ret ?_)
  refine fin (vs := [frv ⟨.slice q1 L.cl.length k1, pc, .slice q2 L.ws.length k2, .slice q3 L.ms.length k3, gas, self, frm, val, .slice q4 L.il.length k4, .slice q5 L.bl.length k5, stat⟩]) (g3 ++ (g2 ++ (g5 ++ (g4 ++ g1)))) (.inl rfl) rfl rfl (by (apply ResL.cons; apply Res.cell; rfl; apply Known.at; apply FsAt.app; apply FsAt.app; apply FsAt.app; apply FsAt.app; apply FsAt.app; apply FsAt.head; exact fr_rdW; exact ResL.nil)) ?_ ⟨_, _, _, _, _, rfl, g1, g2, g3, g4, g5, ?_, h1, hh2, hh3, h4, h5⟩
  · exact List.Sublist.append_left (List.Sublist.append_left (List.Sublist.append_left (List.Sublist.append_left (List.sublist_append_left _ _) _) _) _) _
  · exact perm5 g1 g2 g3 g4 g5
/-- A machine that has done nothing yet. -/
def ma0 (f : FrV) (e0 e1 e2 e3 : Nat) : MaV := ⟨f, e0, e1, e2, e3, .slice none 0 0, 0, 0, .slice none 0 0, .slice none 0 0⟩
def OfR (f : FrV) (L : FrL) (e0 e1 e2 e3 : Nat) (v : Value) (gs : Fs) : Prop := ∃ bm c s m i b g, v = .pointer (some ⟨bm, 0, none⟩) ∧ gs = (bm, maO (ma0 (f.rows c s m i b) e0 e1 e2 e3)) :: g ∧ FrO (f.rows c s m i b) L g
def enva (e0 e1 e2 e3 : Nat) : Array Value := #[.int .u64 (e0 : Int), .int .u64 (e1 : Int), .int .u64 (e2 : Int), .int .u64 (e3 : Int)]
theorem fOf_calls (f : FrV) (L : FrL) (e0 e1 e2 e3 : Nat) (hl : L.short) (w : World) (h : FrRows w f L) : Calls Tryz.prog 113 #[frv f, .agg (enva e0 e1 e2 e3)] w (RetG w [] (OfR f L e0 e1 e2 e3)) := by
  obtain ⟨code, pc, stk, mem, gas, self, frm, val, inp, back, stat⟩ := f
  obtain ⟨h0, h2, h3, h11, h12⟩ := h
  dsimp only at h0 h2 h3 h11 h12
  obtain ⟨p0, c0, rfl, _, hm0⟩ := id h0.form
  obtain ⟨p2, c2, rfl, _, hm2⟩ := id h2.form
  obtain ⟨p3, c3, rfl, _, hm3⟩ := id h3.form
  obtain ⟨p11, c11, rfl, _, hm11⟩ := id h11.form
  obtain ⟨p12, c12, rfl, _, hm12⟩ := id h12.form
  refine enter (args := [_, _]) _ [] [] Tryz.func113 rfl Tryz.ntmps113 rfl (by simp) .nil ?_
  (refine sRz ?_; apply LW.boxA; rfl; rfl; intro _; apply LW.boxA; rfl; rfl; intro _; refine vAz ?_; refine nNz ?_; refine CW.seq ?_)
  rename_i b1 b2
  apply CW.pre
  (refine AnyW.anyM [(2, bM L.cl), (5, bM L.il), (8, bM L.bl)] 10 mixed (by decide +kernel) ?_)
  ((try simp only [tsOf_cons, tsOf_nil, tsOf_app]); refine dvz (.fieldAddr rfl rfl) ?_; apply DW.loadO; rfl; rfl; rfl; exact WantT.none; rfl; apply TRead.tail; apply TRead.head; exact ancB_nil; exact fr_rd0)
  (apply DW.manyV; rfl; rfl; rfl; exact WantT.none; rfl; infer_instance; exact .cons rfl .nil; apply RdV.ext; assumption; rfl; exact RdV.nil; intro w _ _)
  exact SK.Clone_calls _ _ w (h0.bel (by assumption)) hl.1
  intro v1 g1 h1
  ((try simp only [tsOf_cons, tsOf_nil, tsOf_app]); refine dvz (.fieldAddr rfl rfl) ?_; apply DW.loadO; rfl; rfl; rfl; exact WantT.none; rfl; apply TRead.app; apply TRead.tail; apply TRead.head; exact ancB_nil; exact fr_rd11)
  (apply DW.manyV; rfl; rfl; rfl; exact WantT.none; rfl; infer_instance; exact .cons rfl .nil; apply RdV.ext; assumption; rfl; exact RdV.nil; intro w _ _)
  exact SK.Clone_calls _ _ w (h11.bel (by assumption)) hl.2.2.2.1
  intro v4 g4 h4
  ((try simp only [tsOf_cons, tsOf_nil, tsOf_app]); refine dvz (.fieldAddr rfl rfl) ?_; apply DW.loadO; rfl; rfl; rfl; exact WantT.none; rfl; apply TRead.app; apply TRead.app; apply TRead.tail; apply TRead.head; exact ancB_nil; exact fr_rd12)
  (apply DW.manyV; rfl; rfl; rfl; exact WantT.none; rfl; infer_instance; exact .cons rfl .nil; apply RdV.ext; assumption; rfl; exact RdV.nil; intro w _ _)
  exact SK.Clone_calls _ _ w (h12.bel (by assumption)) hl.2.2.2.2
  intro v5 g5 h5
  have h1' := h1
  have h4' := h4
  have h5' := h5
  unfold bM at h1' h4' h5'
  obtain ⟨q1, k1, rfl⟩ := h1'.form
  obtain ⟨q4, k4, rfl⟩ := h4'.form
  obtain ⟨q5, k5, rfl⟩ := h5'.form
  ((try simp only [tsOf_cons, tsOf_nil, tsOf_app]); refine dvz (.fieldAddr rfl rfl) ?_; apply DW.nil; simp only [fsOf_cons, fsOf_nil, fsOf_app, fsOf_tsOf, fsOf_new, fsOf_tag])
  (refine LW.store rfl rfl (.app (.app (.app (.tail .head)))) fr_wr0 ?_; refine vFz ?_; refine LW.store rfl rfl (.app (.app (.app (.tail .head)))) fr_wr11 ?_; refine vFz ?_; refine LW.store rfl rfl (.app (.app (.app (.tail .head)))) fr_wr12 ?_; refine nNz ?_; refine CW.seq ?_)
  apply CW.pre
  (refine AnyW.anyM [(3, wM L.ws), (7, bM L.ms)] 10 mixed (by decide +kernel) ?_)
  ((try simp only [tsOf_cons, tsOf_nil, tsOf_app]); refine dvz (.fieldAddr rfl rfl) ?_; refine dvz (.fieldAddr rfl rfl) ?_; apply DW.loadO; rfl; rfl; rfl; exact WantT.none; rfl; apply TRead.app; apply TRead.app; apply TRead.app; apply TRead.tail; apply TRead.head; exact ancB_nil; exact fr_rd2s)
  (apply DW.manyV; rfl; rfl; rfl; exact WantT.none; rfl; infer_instance; exact .cons rfl .nil; apply RdV.ext; assumption; rfl; exact RdV.nil; intro w _ _)
  exact CloneW_calls _ _ w (h2.bel (by assumption)) hl.2.1
  intro v2 g2 hh2
  ((try simp only [tsOf_cons, tsOf_nil, tsOf_app]); refine dvz (.fieldAddr rfl rfl) ?_; refine dvz (.fieldAddr rfl rfl) ?_; apply DW.loadO; rfl; rfl; rfl; exact WantT.none; rfl; apply TRead.app; apply TRead.app; apply TRead.app; apply TRead.app; apply TRead.tail; apply TRead.head; exact ancB_nil; exact fr_rd3)
  (apply DW.manyV; rfl; rfl; rfl; exact WantT.none; rfl; infer_instance; exact .cons rfl .nil; apply RdV.ext; assumption; rfl; exact RdV.nil; intro w _ _)
  exact SK.Clone_calls _ _ w (h3.bel (by assumption)) hl.2.2.1
  intro v3 g3 hh3
  have h2' := hh2
  have h3' := hh3
  unfold wM at h2'
  unfold bM at h3'
  obtain ⟨q2, k2, rfl⟩ := h2'.form
  obtain ⟨q3, k3, rfl⟩ := h3'.form
  ((try simp only [tsOf_cons, tsOf_nil, tsOf_app]); refine dvz (.fieldAddr rfl rfl) ?_; refine dvz (.fieldAddr rfl rfl) ?_; apply DW.nil; simp only [fsOf_cons, fsOf_nil, fsOf_app, fsOf_tsOf, fsOf_new, fsOf_tag])
  have hsl : FrSl ⟨.slice q1 L.cl.length k1, pc, .slice q2 L.ws.length k2, .slice q3 L.ms.length k3, gas, self, frm, val, .slice q4 L.il.length k4, .slice q5 L.bl.length k5, stat⟩ := ⟨⟨_, _, _, rfl⟩, ⟨_, _, _, rfl⟩, ⟨_, _, _, rfl⟩, ⟨_, _, _, rfl⟩, ⟨_, _, _, rfl⟩⟩
  (refine LW.store rfl rfl (.app (.app (.app (.app (.app (.tail .head)))))) fr_wr2 ?_; refine vFz ?_; refine vFz ?_; refine LW.store rfl rfl (.app (.app (.app (.app (.app (.tail .head)))))) fr_wr3 ?_; refine nSz ?_; refine ldz rfl (.app (.app (.app (.app (.app (.tail .head)))))) fr_rdW ?_; refine ldz rfl (.app (.app (.app (.app (.app .head))))) (Rd.whole rfl) ?_; apply LW.v0; rfl; rfl; apply ValP.buildT; infer_instance; infer_instance; apply PartsOk.cons; rfl; apply PartsOk.cons; rfl; exact PartsOk.nil; rfl; simp only [fillP, wrCells, fra, frc, enva, wc, Value.cells, List.getElem?_cons_zero, List.getElem?_cons_succ, List.toList_toArray, List.setIfInBounds_toArray, List.set_cons_succ, List.set_cons_zero, List.cons_append, List.nil_append, Nat.reduceAdd, Nat.zero_add]; rfl; apply LW.boxA; rfl; rfl; intro _; refine vAz ?_; refine nNz ?_; refine CW.ret ?_)
  rename_i bm
  refine fin (vs := [.pointer (some ⟨bm, 0, none⟩)]) ((bm, maO (ma0 ⟨.slice q1 L.cl.length k1, pc, .slice q2 L.ws.length k2, .slice q3 L.ms.length k3, gas, self, frm, val, .slice q4 L.il.length k4, .slice q5 L.bl.length k5, stat⟩ e0 e1 e2 e3)) :: (g3 ++ (g2 ++ (g5 ++ (g4 ++ g1))))) (.inl rfl) rfl rfl (by (apply ResL.cons; exact Res.tmp rfl; exact ResL.nil)) ?_ ⟨bm, _, _, _, _, _, _, rfl, rfl, g1, g2, g3, g4, g5, perm5 g1 g2 g3 g4 g5, h1, hh2, hh3, h4, h5⟩
  exact List.Sublist.cons_cons _ (List.Sublist.append_left (List.Sublist.append_left (List.Sublist.append_left (List.Sublist.append_left (List.sublist_append_left _ _) _) _) _) _)
end Go.Proofs.YtpgdnfgjbhdbpaaGreatDoor
