/-
  Contracts of the word package: how words stand; how far a word is moved.
  Conditions: none.
-/
import Derived.Test.YtahoghldnijnbaaW4
namespace Go.Proofs.Ytahoghldnijnbaa
open Go Go.RowKit SL
set_option maxRecDepth 8000
set_option maxHeartbeats 4000000
set_option linter.unusedSimpArgs false
set_option linter.unusedVariables false
attribute [local irreducible] SL.CW SL.LW SL.DW Calls SL.Ret SL.RetG SL.beginQ SL.roundQ SL.rangeQ SL.inQ SL.RW SL.AnyW SL.thenQ SL.thenC SL.thenW SL.blkQ SL.finQ SL.ValP SL.NewP SL.SetP SL.CallP SL.Rd SL.Wr SL.Known
theorem Cmp_calls (a b : Nat) (ha : a < M256) (hb : b < M256) (w : World) : Calls Try.prog 23 #[wv a, wv b] w (Ret w (.int .i64 (if a < b then -1 else if b < a then 1 else 0))) := by
  simp only [M256] at ha hb
  refine enter (args := [_, _]) _ [] [] Try.func23 rfl Try.ntmps23 rfl (by simp) .nil ?_
  (refine CW.seq ?_; refine CW.region ?_; apply LW.boxA; rfl; rfl; intro _; apply LW.boxA; rfl; rfl; intro _; apply LW.v0; rfl; rfl; apply ValP.assign; rfl; apply LW.nil; refine thenN ?_; refine CW.seq ?_; refine CW.seq ?_; refine CW.region ?_; apply LW.v0; rfl; rfl; apply ValP.assign; rfl; apply LW.nil; refine thenN ?_; refine CW.block ?_)
  apply CW.rounds 5
  (apply RW.step; refine CW.seq ?_; refine CW.seq ?_; refine CW.region ?_; apply LW.v0; rfl; rfl; apply ValP.move; rfl; apply LW.v0; rfl; rfl; apply ValP.geqT; rfl; rfl; omega; apply LW.nil; refine thenN ?_; apply CW.condT; rfl; (with_reducible rfl); refine CW.skip ?_; refine thenN ?_; refine CW.seq ?_; refine CW.block ?_; refine CW.block ?_; refine CW.seq ?_; apply CW.pre; refine AnyW.any 6 mixed (by decide +kernel) ?_; (try simp only [tsOf_cons, tsOf_nil, tsOf_app]); apply DW.v0; rfl; rfl; rfl; exact WantT.none; rfl; apply ValP.move; rfl; apply DW.v0; rfl; rfl; rfl; exact WantT.none; rfl; apply ValP.indexAddrL; rfl; rfl; rfl; apply DW.loadO; rfl; rfl; rfl; exact WantT.none; rfl; apply TRead.tail; apply TRead.head; exact ancB_nil; exact Rd.one' rfl; apply DW.v0; rfl; rfl; rfl; exact WantT.none; rfl; apply ValP.move; rfl; apply DW.v0; rfl; rfl; rfl; exact WantT.none; rfl; apply ValP.indexAddrL; rfl; rfl; rfl; apply DW.loadO; rfl; rfl; rfl; exact WantT.none; rfl; apply TRead.head; exact ancB_nil; exact Rd.one' rfl; apply DW.nil; simp only [fsOf_cons, fsOf_nil, fsOf_app, fsOf_tsOf, fsOf_new]; apply LW.v0; rfl; rfl; apply ValP.lss; rfl; rfl; apply LW.v0; rfl; rfl; apply ValP.assign; rfl; apply LW.nil; refine thenN ?_)
  apply CW.cond
  rfl
  · intro hq
    simp only [decide_eq_true_eq] at hq
    (refine CW.seq ?_; refine CW.region ?_; apply LW.v0; rfl; rfl; apply ValP.assign; rfl; apply LW.nil; refine thenN ?_; refine CW.ret ?_; refine blkR ?_; refine blkR ?_; refine thenR ?_; refine thenR ?_; refine blkR ?_; refine thenR ?_)
    (apply finR; exact .inl rfl; rfl; rfl; rfl; apply ResL.cons; exact Res.tmp rfl; exact ResL.nil)
    (rw [if_pos (by omega)]; rfl)
  intro hq
  simp only [decide_eq_false_iff_not] at hq
  (refine CW.seq ?_; apply CW.pre; refine AnyW.any 6 mixed (by decide +kernel) ?_; (try simp only [tsOf_cons, tsOf_nil, tsOf_app]); apply DW.v0; rfl; rfl; rfl; exact WantT.none; rfl; apply ValP.move; rfl; apply DW.v0; rfl; rfl; rfl; exact WantT.none; rfl; apply ValP.indexAddrL; rfl; rfl; rfl; apply DW.loadO; rfl; rfl; rfl; exact WantT.none; rfl; apply TRead.tail; apply TRead.head; exact ancB_nil; exact Rd.one' rfl; apply DW.v0; rfl; rfl; rfl; exact WantT.none; rfl; apply ValP.move; rfl; apply DW.v0; rfl; rfl; rfl; exact WantT.none; rfl; apply ValP.indexAddrL; rfl; rfl; rfl; apply DW.loadO; rfl; rfl; rfl; exact WantT.none; rfl; apply TRead.head; exact ancB_nil; exact Rd.one' rfl; apply DW.nil; simp only [fsOf_cons, fsOf_nil, fsOf_app, fsOf_tsOf, fsOf_new]; apply LW.v0; rfl; rfl; apply ValP.gtr; rfl; rfl; apply LW.v0; rfl; rfl; apply ValP.assign; rfl; apply LW.nil; refine thenN ?_)
  apply CW.cond
  rfl
  · intro hq
    simp only [decide_eq_true_eq] at hq
    (refine CW.seq ?_; refine CW.region ?_; apply LW.v0; rfl; rfl; apply ValP.assign; rfl; apply LW.nil; refine thenN ?_; refine CW.ret ?_; refine blkR ?_; refine blkR ?_; refine thenR ?_; refine thenR ?_; refine blkR ?_; refine thenR ?_)
    (apply finR; exact .inl rfl; rfl; rfl; rfl; apply ResL.cons; exact Res.tmp rfl; exact ResL.nil)
    (rw [if_neg (by omega), if_pos (by omega)]; rfl)
  intro hq
  simp only [decide_eq_false_iff_not] at hq
  (refine CW.skip ?_; refine blkN ?_; refine blkN ?_; refine thenN ?_; refine CW.region ?_; apply LW.v0; rfl; rfl; apply ValP.move; rfl; apply LW.v0; rfl; rfl; apply ValP.subI; rfl; rfl; omega; omega; apply LW.v0; rfl; rfl; apply ValP.assign; rfl; apply LW.nil; refine thenL ?_)
  (apply RW.step; refine CW.seq ?_; refine CW.seq ?_; refine CW.region ?_; apply LW.v0; rfl; rfl; apply ValP.move; rfl; apply LW.v0; rfl; rfl; apply ValP.geqT; rfl; rfl; omega; apply LW.nil; refine thenN ?_; apply CW.condT; rfl; (with_reducible rfl); refine CW.skip ?_; refine thenN ?_; refine CW.seq ?_; refine CW.block ?_; refine CW.block ?_; refine CW.seq ?_; apply CW.pre; refine AnyW.any 6 mixed (by decide +kernel) ?_; (try simp only [tsOf_cons, tsOf_nil, tsOf_app]); apply DW.v0; rfl; rfl; rfl; exact WantT.none; rfl; apply ValP.move; rfl; apply DW.v0; rfl; rfl; rfl; exact WantT.none; rfl; apply ValP.indexAddrL; rfl; rfl; rfl; apply DW.loadO; rfl; rfl; rfl; exact WantT.none; rfl; apply TRead.tail; apply TRead.head; exact ancB_nil; exact Rd.one' rfl; apply DW.v0; rfl; rfl; rfl; exact WantT.none; rfl; apply ValP.move; rfl; apply DW.v0; rfl; rfl; rfl; exact WantT.none; rfl; apply ValP.indexAddrL; rfl; rfl; rfl; apply DW.loadO; rfl; rfl; rfl; exact WantT.none; rfl; apply TRead.head; exact ancB_nil; exact Rd.one' rfl; apply DW.nil; simp only [fsOf_cons, fsOf_nil, fsOf_app, fsOf_tsOf, fsOf_new]; apply LW.v0; rfl; rfl; apply ValP.lss; rfl; rfl; apply LW.v0; rfl; rfl; apply ValP.assign; rfl; apply LW.nil; refine thenN ?_)
  apply CW.cond
  rfl
  · intro hq
    simp only [decide_eq_true_eq] at hq
    (refine CW.seq ?_; refine CW.region ?_; apply LW.v0; rfl; rfl; apply ValP.assign; rfl; apply LW.nil; refine thenN ?_; refine CW.ret ?_; refine blkR ?_; refine blkR ?_; refine thenR ?_; refine thenR ?_; refine blkR ?_; refine thenR ?_)
    (apply finR; exact .inl rfl; rfl; rfl; rfl; apply ResL.cons; exact Res.tmp rfl; exact ResL.nil)
    (rw [if_pos (by omega)]; rfl)
  intro hq
  simp only [decide_eq_false_iff_not] at hq
  (refine CW.seq ?_; apply CW.pre; refine AnyW.any 6 mixed (by decide +kernel) ?_; (try simp only [tsOf_cons, tsOf_nil, tsOf_app]); apply DW.v0; rfl; rfl; rfl; exact WantT.none; rfl; apply ValP.move; rfl; apply DW.v0; rfl; rfl; rfl; exact WantT.none; rfl; apply ValP.indexAddrL; rfl; rfl; rfl; apply DW.loadO; rfl; rfl; rfl; exact WantT.none; rfl; apply TRead.tail; apply TRead.head; exact ancB_nil; exact Rd.one' rfl; apply DW.v0; rfl; rfl; rfl; exact WantT.none; rfl; apply ValP.move; rfl; apply DW.v0; rfl; rfl; rfl; exact WantT.none; rfl; apply ValP.indexAddrL; rfl; rfl; rfl; apply DW.loadO; rfl; rfl; rfl; exact WantT.none; rfl; apply TRead.head; exact ancB_nil; exact Rd.one' rfl; apply DW.nil; simp only [fsOf_cons, fsOf_nil, fsOf_app, fsOf_tsOf, fsOf_new]; apply LW.v0; rfl; rfl; apply ValP.gtr; rfl; rfl; apply LW.v0; rfl; rfl; apply ValP.assign; rfl; apply LW.nil; refine thenN ?_)
  apply CW.cond
  rfl
  · intro hq
    simp only [decide_eq_true_eq] at hq
    (refine CW.seq ?_; refine CW.region ?_; apply LW.v0; rfl; rfl; apply ValP.assign; rfl; apply LW.nil; refine thenN ?_; refine CW.ret ?_; refine blkR ?_; refine blkR ?_; refine thenR ?_; refine thenR ?_; refine blkR ?_; refine thenR ?_)
    (apply finR; exact .inl rfl; rfl; rfl; rfl; apply ResL.cons; exact Res.tmp rfl; exact ResL.nil)
    (rw [if_neg (by omega), if_pos (by omega)]; rfl)
  intro hq
  simp only [decide_eq_false_iff_not] at hq
  (refine CW.skip ?_; refine blkN ?_; refine blkN ?_; refine thenN ?_; refine CW.region ?_; apply LW.v0; rfl; rfl; apply ValP.move; rfl; apply LW.v0; rfl; rfl; apply ValP.subI; rfl; rfl; omega; omega; apply LW.v0; rfl; rfl; apply ValP.assign; rfl; apply LW.nil; refine thenL ?_)
  (apply RW.step; refine CW.seq ?_; refine CW.seq ?_; refine CW.region ?_; apply LW.v0; rfl; rfl; apply ValP.move; rfl; apply LW.v0; rfl; rfl; apply ValP.geqT; rfl; rfl; omega; apply LW.nil; refine thenN ?_; apply CW.condT; rfl; (with_reducible rfl); refine CW.skip ?_; refine thenN ?_; refine CW.seq ?_; refine CW.block ?_; refine CW.block ?_; refine CW.seq ?_; apply CW.pre; refine AnyW.any 6 mixed (by decide +kernel) ?_; (try simp only [tsOf_cons, tsOf_nil, tsOf_app]); apply DW.v0; rfl; rfl; rfl; exact WantT.none; rfl; apply ValP.move; rfl; apply DW.v0; rfl; rfl; rfl; exact WantT.none; rfl; apply ValP.indexAddrL; rfl; rfl; rfl; apply DW.loadO; rfl; rfl; rfl; exact WantT.none; rfl; apply TRead.tail; apply TRead.head; exact ancB_nil; exact Rd.one' rfl; apply DW.v0; rfl; rfl; rfl; exact WantT.none; rfl; apply ValP.move; rfl; apply DW.v0; rfl; rfl; rfl; exact WantT.none; rfl; apply ValP.indexAddrL; rfl; rfl; rfl; apply DW.loadO; rfl; rfl; rfl; exact WantT.none; rfl; apply TRead.head; exact ancB_nil; exact Rd.one' rfl; apply DW.nil; simp only [fsOf_cons, fsOf_nil, fsOf_app, fsOf_tsOf, fsOf_new]; apply LW.v0; rfl; rfl; apply ValP.lss; rfl; rfl; apply LW.v0; rfl; rfl; apply ValP.assign; rfl; apply LW.nil; refine thenN ?_)
  apply CW.cond
  rfl
  · intro hq
    simp only [decide_eq_true_eq] at hq
    (refine CW.seq ?_; refine CW.region ?_; apply LW.v0; rfl; rfl; apply ValP.assign; rfl; apply LW.nil; refine thenN ?_; refine CW.ret ?_; refine blkR ?_; refine blkR ?_; refine thenR ?_; refine thenR ?_; refine blkR ?_; refine thenR ?_)
    (apply finR; exact .inl rfl; rfl; rfl; rfl; apply ResL.cons; exact Res.tmp rfl; exact ResL.nil)
    (rw [if_pos (by omega)]; rfl)
  intro hq
  simp only [decide_eq_false_iff_not] at hq
  (refine CW.seq ?_; apply CW.pre; refine AnyW.any 6 mixed (by decide +kernel) ?_; (try simp only [tsOf_cons, tsOf_nil, tsOf_app]); apply DW.v0; rfl; rfl; rfl; exact WantT.none; rfl; apply ValP.move; rfl; apply DW.v0; rfl; rfl; rfl; exact WantT.none; rfl; apply ValP.indexAddrL; rfl; rfl; rfl; apply DW.loadO; rfl; rfl; rfl; exact WantT.none; rfl; apply TRead.tail; apply TRead.head; exact ancB_nil; exact Rd.one' rfl; apply DW.v0; rfl; rfl; rfl; exact WantT.none; rfl; apply ValP.move; rfl; apply DW.v0; rfl; rfl; rfl; exact WantT.none; rfl; apply ValP.indexAddrL; rfl; rfl; rfl; apply DW.loadO; rfl; rfl; rfl; exact WantT.none; rfl; apply TRead.head; exact ancB_nil; exact Rd.one' rfl; apply DW.nil; simp only [fsOf_cons, fsOf_nil, fsOf_app, fsOf_tsOf, fsOf_new]; apply LW.v0; rfl; rfl; apply ValP.gtr; rfl; rfl; apply LW.v0; rfl; rfl; apply ValP.assign; rfl; apply LW.nil; refine thenN ?_)
  apply CW.cond
  rfl
  · intro hq
    simp only [decide_eq_true_eq] at hq
    (refine CW.seq ?_; refine CW.region ?_; apply LW.v0; rfl; rfl; apply ValP.assign; rfl; apply LW.nil; refine thenN ?_; refine CW.ret ?_; refine blkR ?_; refine blkR ?_; refine thenR ?_; refine thenR ?_; refine blkR ?_; refine thenR ?_)
    (apply finR; exact .inl rfl; rfl; rfl; rfl; apply ResL.cons; exact Res.tmp rfl; exact ResL.nil)
    (rw [if_neg (by omega), if_pos (by omega)]; rfl)
  intro hq
  simp only [decide_eq_false_iff_not] at hq
  (refine CW.skip ?_; refine blkN ?_; refine blkN ?_; refine thenN ?_; refine CW.region ?_; apply LW.v0; rfl; rfl; apply ValP.move; rfl; apply LW.v0; rfl; rfl; apply ValP.subI; rfl; rfl; omega; omega; apply LW.v0; rfl; rfl; apply ValP.assign; rfl; apply LW.nil; refine thenL ?_)
  (apply RW.step; refine CW.seq ?_; refine CW.seq ?_; refine CW.region ?_; apply LW.v0; rfl; rfl; apply ValP.move; rfl; apply LW.v0; rfl; rfl; apply ValP.geqT; rfl; rfl; omega; apply LW.nil; refine thenN ?_; apply CW.condT; rfl; (with_reducible rfl); refine CW.skip ?_; refine thenN ?_; refine CW.seq ?_; refine CW.block ?_; refine CW.block ?_; refine CW.seq ?_; apply CW.pre; refine AnyW.any 6 mixed (by decide +kernel) ?_; (try simp only [tsOf_cons, tsOf_nil, tsOf_app]); apply DW.v0; rfl; rfl; rfl; exact WantT.none; rfl; apply ValP.move; rfl; apply DW.v0; rfl; rfl; rfl; exact WantT.none; rfl; apply ValP.indexAddrL; rfl; rfl; rfl; apply DW.loadO; rfl; rfl; rfl; exact WantT.none; rfl; apply TRead.tail; apply TRead.head; exact ancB_nil; exact Rd.one' rfl; apply DW.v0; rfl; rfl; rfl; exact WantT.none; rfl; apply ValP.move; rfl; apply DW.v0; rfl; rfl; rfl; exact WantT.none; rfl; apply ValP.indexAddrL; rfl; rfl; rfl; apply DW.loadO; rfl; rfl; rfl; exact WantT.none; rfl; apply TRead.head; exact ancB_nil; exact Rd.one' rfl; apply DW.nil; simp only [fsOf_cons, fsOf_nil, fsOf_app, fsOf_tsOf, fsOf_new]; apply LW.v0; rfl; rfl; apply ValP.lss; rfl; rfl; apply LW.v0; rfl; rfl; apply ValP.assign; rfl; apply LW.nil; refine thenN ?_)
  apply CW.cond
  rfl
  · intro hq
    simp only [decide_eq_true_eq] at hq
    (refine CW.seq ?_; refine CW.region ?_; apply LW.v0; rfl; rfl; apply ValP.assign; rfl; apply LW.nil; refine thenN ?_; refine CW.ret ?_; refine blkR ?_; refine blkR ?_; refine thenR ?_; refine thenR ?_; refine blkR ?_; refine thenR ?_)
    (apply finR; exact .inl rfl; rfl; rfl; rfl; apply ResL.cons; exact Res.tmp rfl; exact ResL.nil)
    (rw [if_pos (by omega)]; rfl)
  intro hq
  simp only [decide_eq_false_iff_not] at hq
  (refine CW.seq ?_; apply CW.pre; refine AnyW.any 6 mixed (by decide +kernel) ?_; (try simp only [tsOf_cons, tsOf_nil, tsOf_app]); apply DW.v0; rfl; rfl; rfl; exact WantT.none; rfl; apply ValP.move; rfl; apply DW.v0; rfl; rfl; rfl; exact WantT.none; rfl; apply ValP.indexAddrL; rfl; rfl; rfl; apply DW.loadO; rfl; rfl; rfl; exact WantT.none; rfl; apply TRead.tail; apply TRead.head; exact ancB_nil; exact Rd.one' rfl; apply DW.v0; rfl; rfl; rfl; exact WantT.none; rfl; apply ValP.move; rfl; apply DW.v0; rfl; rfl; rfl; exact WantT.none; rfl; apply ValP.indexAddrL; rfl; rfl; rfl; apply DW.loadO; rfl; rfl; rfl; exact WantT.none; rfl; apply TRead.head; exact ancB_nil; exact Rd.one' rfl; apply DW.nil; simp only [fsOf_cons, fsOf_nil, fsOf_app, fsOf_tsOf, fsOf_new]; apply LW.v0; rfl; rfl; apply ValP.gtr; rfl; rfl; apply LW.v0; rfl; rfl; apply ValP.assign; rfl; apply LW.nil; refine thenN ?_)
  apply CW.cond
  rfl
  · intro hq
    simp only [decide_eq_true_eq] at hq
    (refine CW.seq ?_; refine CW.region ?_; apply LW.v0; rfl; rfl; apply ValP.assign; rfl; apply LW.nil; refine thenN ?_; refine CW.ret ?_; refine blkR ?_; refine blkR ?_; refine thenR ?_; refine thenR ?_; refine blkR ?_; refine thenR ?_)
    (apply finR; exact .inl rfl; rfl; rfl; rfl; apply ResL.cons; exact Res.tmp rfl; exact ResL.nil)
    (rw [if_neg (by omega), if_pos (by omega)]; rfl)
  intro hq
  simp only [decide_eq_false_iff_not] at hq
  (refine CW.skip ?_; refine blkN ?_; refine blkN ?_; refine thenN ?_; refine CW.region ?_; apply LW.v0; rfl; rfl; apply ValP.move; rfl; apply LW.v0; rfl; rfl; apply ValP.subI; rfl; rfl; omega; omega; apply LW.v0; rfl; rfl; apply ValP.assign; rfl; apply LW.nil; refine thenL ?_)
  (apply RW.step; refine CW.seq ?_; refine CW.seq ?_; refine CW.region ?_; apply LW.v0; rfl; rfl; apply ValP.move; rfl; apply LW.v0; rfl; rfl; apply ValP.geqF; rfl; rfl; omega; apply LW.nil; refine thenN ?_; apply CW.condF; rfl; (with_reducible rfl); refine CW.exit ?_; refine thenE ?_; refine thenE ?_; refine blkE rfl ?_; refine thenN ?_; refine CW.seq ?_; refine CW.region ?_; apply LW.v0; rfl; rfl; apply ValP.assign; rfl; apply LW.nil; refine thenN ?_; refine CW.ret ?_)
  (apply finR; exact .inl rfl; rfl; rfl; rfl; apply ResL.cons; exact Res.tmp rfl; exact ResL.nil)
  (rw [if_neg (by omega), if_neg (by omega)]; rfl)
theorem moves_calls (n : Nat) (hn : n < M256) (w : World) : Calls Try.prog 68 #[wv n] w (Ret w (.int .i64 ((min n 256 : Nat) : Int))) := by
  refine enter (args := [_]) _ [] [] Try.func68 rfl Try.ntmps68 rfl (by simp) .nil ?_
  by_cases h : n < 18446744073709551616
  · have h0 := Small_calls n hn
    rw [if_pos h, decide_eq_true h] at h0
    by_cases h' : n < 256
    · (refine CW.seq ?_; refine CW.region ?_; apply LW.boxA; rfl; rfl; intro _; apply LW.v0; rfl; rfl; apply ValP.assign; rfl; apply LW.nil; refine thenN ?_; refine CW.seq ?_; refine CW.seq ?_; refine CW.region ?_; apply LW.load; rfl; rfl; apply Known.at; apply FsAt.head; exact Rd.whole rfl; apply LW.callE; rfl; rfl; infer_instance; apply ArgsOk.cons; rfl; exact ArgsOk.nil; intro w _; exact h0 w; apply LW.v0; rfl; rfl; apply ValP.move; rfl; apply LW.v0; rfl; rfl; apply ValP.extractN; rfl; rfl; apply LW.v0; rfl; rfl; apply ValP.extractN; rfl; rfl; apply LW.v0; rfl; rfl; apply ValP.assign; rfl; apply LW.v0; rfl; rfl; apply ValP.assign; rfl; apply LW.nil; refine thenN ?_; refine CW.seq ?_; refine CW.region ?_; apply LW.v0; rfl; rfl; apply ValP.move; rfl; apply LW.v0; rfl; rfl; apply ValP.move; rfl; apply LW.guardT'; rfl; rfl; (with_reducible rfl); apply LW.v0; rfl; rfl; apply ValP.move; rfl; apply LW.guardT'; rfl; rfl; (with_reducible rfl); apply LW.v0; rfl; rfl; apply ValP.lssT; rfl; rfl; omega; apply LW.v0; rfl; rfl; apply ValP.pickT'; rfl; (with_reducible rfl); rfl; apply LW.nil; refine thenN ?_; apply CW.condT; rfl; (with_reducible rfl); refine CW.seq ?_; refine CW.region ?_; apply LW.v0; rfl; rfl; apply ValP.move; rfl; apply LW.v0; rfl; rfl; apply ValP.convI; rfl; omega; omega; apply LW.v0; rfl; rfl; apply ValP.assign; rfl; apply LW.nil; refine thenN ?_; refine CW.ret ?_; refine thenR ?_)
      (apply finR; exact .inl rfl; rfl; rfl; rfl; apply ResL.cons; exact Res.tmp rfl; exact ResL.nil)
      rw [Nat.min_eq_left (by omega)]; rfl
    · (refine CW.seq ?_; refine CW.region ?_; apply LW.boxA; rfl; rfl; intro _; apply LW.v0; rfl; rfl; apply ValP.assign; rfl; apply LW.nil; refine thenN ?_; refine CW.seq ?_; refine CW.seq ?_; refine CW.region ?_; apply LW.load; rfl; rfl; apply Known.at; apply FsAt.head; exact Rd.whole rfl; apply LW.callE; rfl; rfl; infer_instance; apply ArgsOk.cons; rfl; exact ArgsOk.nil; intro w _; exact h0 w; apply LW.v0; rfl; rfl; apply ValP.move; rfl; apply LW.v0; rfl; rfl; apply ValP.extractN; rfl; rfl; apply LW.v0; rfl; rfl; apply ValP.extractN; rfl; rfl; apply LW.v0; rfl; rfl; apply ValP.assign; rfl; apply LW.v0; rfl; rfl; apply ValP.assign; rfl; apply LW.nil; refine thenN ?_; refine CW.seq ?_; refine CW.region ?_; apply LW.v0; rfl; rfl; apply ValP.move; rfl; apply LW.v0; rfl; rfl; apply ValP.move; rfl; apply LW.guardT'; rfl; rfl; (with_reducible rfl); apply LW.v0; rfl; rfl; apply ValP.move; rfl; apply LW.guardT'; rfl; rfl; (with_reducible rfl); apply LW.v0; rfl; rfl; apply ValP.lssF; rfl; rfl; omega; apply LW.v0; rfl; rfl; apply ValP.pickT'; rfl; (with_reducible rfl); rfl; apply LW.nil; refine thenN ?_; apply CW.condF; rfl; (with_reducible rfl); refine CW.skip ?_; refine thenN ?_; refine CW.seq ?_; refine CW.region ?_; apply LW.v0; rfl; rfl; apply ValP.assign; rfl; apply LW.nil; refine thenN ?_; refine CW.ret ?_)
      (apply finR; exact .inl rfl; rfl; rfl; rfl; apply ResL.cons; exact Res.tmp rfl; exact ResL.nil)
      rw [Nat.min_eq_right (by omega)]; rfl
  · have h0 := Small_calls n hn
    rw [if_neg h, decide_eq_false h] at h0
    (refine CW.seq ?_; refine CW.region ?_; apply LW.boxA; rfl; rfl; intro _; apply LW.v0; rfl; rfl; apply ValP.assign; rfl; apply LW.nil; refine thenN ?_; refine CW.seq ?_; refine CW.seq ?_; refine CW.region ?_; apply LW.load; rfl; rfl; apply Known.at; apply FsAt.head; exact Rd.whole rfl; apply LW.callE; rfl; rfl; infer_instance; apply ArgsOk.cons; rfl; exact ArgsOk.nil; intro w _; exact h0 w; apply LW.v0; rfl; rfl; apply ValP.move; rfl; apply LW.v0; rfl; rfl; apply ValP.extractN; rfl; rfl; apply LW.v0; rfl; rfl; apply ValP.extractN; rfl; rfl; apply LW.v0; rfl; rfl; apply ValP.assign; rfl; apply LW.v0; rfl; rfl; apply ValP.assign; rfl; apply LW.nil; refine thenN ?_; refine CW.seq ?_; refine CW.region ?_; apply LW.v0; rfl; rfl; apply ValP.move; rfl; apply LW.v0; rfl; rfl; apply ValP.move; rfl; apply LW.guardF'; rfl; rfl; simp only [Bool.not_true, Bool.not_false]; rfl; apply LW.guardF'; rfl; rfl; simp only [Bool.not_true, Bool.not_false]; rfl; apply LW.v0; rfl; rfl; apply ValP.pickF'; rfl; (with_reducible rfl); rfl; apply LW.nil; refine thenN ?_; apply CW.condF; rfl; (with_reducible rfl); refine CW.skip ?_; refine thenN ?_; refine CW.seq ?_; refine CW.region ?_; apply LW.v0; rfl; rfl; apply ValP.assign; rfl; apply LW.nil; refine thenN ?_; refine CW.ret ?_)
    (apply finR; exact .inl rfl; rfl; rfl; rfl; apply ResL.cons; exact Res.tmp rfl; exact ResL.nil)
    rw [Nat.min_eq_right (by omega)]; rfl
end Go.Proofs.Ytahoghldnijnbaa
