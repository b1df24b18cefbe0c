/-
  The document's answer in bits: what is done bit by bit.
  Conditions: none.
-/
import Derived.Test.YtahoghldnijnbaaW11
namespace Go.Proofs.Ytahoghldnijnbaa
open Go Go.RowKit SL
set_option maxRecDepth 8000
set_option maxHeartbeats 4000000
set_option linter.unusedSimpArgs false
set_option linter.unusedVariables false
attribute [local irreducible] SL.CW SL.LW SL.DW Calls SL.Ret SL.RetG SL.beginQ SL.roundQ SL.rangeQ SL.inQ SL.RW SL.AnyW SL.thenQ SL.thenC SL.thenW SL.blkQ SL.finQ SL.ValP SL.NewP SL.SetP SL.CallP SL.Rd SL.Wr SL.Known
theorem bit_tb (a k : Nat) : a / 2 ^ k % 2 = (a.testBit k).toNat := by rw [Nat.testBit_eq_decide_div_mod_eq]; rcases Nat.mod_two_eq_zero_or_one (a / 2 ^ k) with h | h <;> rw [h] <;> rfl
theorem band_bit (a b k : Nat) : (a &&& b) / 2 ^ k % 2 = a / 2 ^ k % 2 * (b / 2 ^ k % 2) := by
  rw [bit_tb, bit_tb, bit_tb, Nat.testBit_and]; cases a.testBit k <;> cases b.testBit k <;> rfl
theorem bor_bit (a b k : Nat) : (a ||| b) / 2 ^ k % 2 = max (a / 2 ^ k % 2) (b / 2 ^ k % 2) := by
  rw [bit_tb, bit_tb, bit_tb, Nat.testBit_or]; cases a.testBit k <;> cases b.testBit k <;> rfl
theorem bxor_bit (a b k : Nat) : (a ^^^ b) / 2 ^ k % 2 = (a / 2 ^ k % 2 + b / 2 ^ k % 2) % 2 := by
  rw [bit_tb, bit_tb, bit_tb, Nat.testBit_xor]; cases a.testBit k <;> cases b.testBit k <;> rfl
theorem not_bit (a k : Nat) (ha : a < M256) (hk : k < 256) : (M256 - 1 - a) / 2 ^ k % 2 = 1 - a / 2 ^ k % 2 := by
  rw [bit_tb, bit_tb, Nat.sub_sub, Nat.add_comm 1, show M256 = 2 ^ 256 from rfl, Nat.testBit_two_pow_sub_succ (show a < 2 ^ 256 from ha), decide_eq_true hk]; cases a.testBit k <;> rfl
theorem rAnd_calls (a b : Nat) (ha : a < M256) (hb : b < M256) (w : World) : Calls Try.prog 38 #[wv a, wv b] w (Ret w (wv (a &&& b))) := by
  refine enter (args := [_, _]) _ [] [] Try.func38 rfl Try.ntmps38 rfl (by simp) .nil ?_
  (refine CW.seq ?_; refine CW.region ?_; apply LW.boxA; rfl; rfl; intro _; apply LW.boxA; rfl; rfl; intro _; apply LW.allocW; rfl; intro _; apply LW.nil; refine thenN ?_; refine CW.seq ?_; refine CW.region ?_; apply LW.v0; rfl; rfl; apply ValP.assign; rfl; apply LW.nil; refine thenN ?_; refine CW.seq ?_; refine CW.seq ?_; refine CW.region ?_; apply LW.v0; rfl; rfl; apply ValP.move; rfl; apply LW.nil; refine thenN ?_; refine CW.block ?_)
  rename_i ba bb bc
  refine CW.loop (fun x : RC => ([(7, .int .i64 (x.m : Int)), (5, x.v), (2, .pointer (some ⟨ba, 0, none⟩)), (3, .pointer (some ⟨bb, 0, none⟩)), (4, .pointer (some ⟨bc, 0, none⟩))], x.seg ++ [(bc, .cells (wc 0) 24 (0, 0)), (bb, .cells (wc b) 24 (0, 0)), (ba, .cells (wc a) 24 (0, 0))]))
    (fun x => x.m ≤ 256 ∧ IsRow 3 1 x.v x.m (ics (bl (a &&& b) x.m)) x.seg) (fun x => 256 - x.m) ⟨0, .slice none 0 0, []⟩ ⟨Nat.zero_le _, .nil⟩ ⟨rfl, rfl, rfl, rfl, rfl, trivial⟩ (List.Sublist.refl _) ?_
  rintro ⟨k, v, seg⟩ ⟨hk, hrow⟩
  dsimp only at hk hrow ⊢
  obtain ⟨p, c, rfl⟩ := hrow.form
  rcases Nat.lt_or_ge k 256 with hlt | hge
  · have hmul : a / 2 ^ k % 2 * (b / 2 ^ k % 2) < 4 := Nat.mul_lt_mul'' (a := a / 2 ^ k % 2) (b := b / 2 ^ k % 2) (c := 2) (d := 2) (by omega) (by omega)
    (refine CW.seq ?_; refine CW.region ?_; apply LW.v0; rfl; rfl; apply ValP.lssT; rfl; rfl; omega; apply LW.nil; refine thenN ?_; refine CW.seq ?_; apply CW.condT; rfl; (with_reducible rfl); refine CW.skip ?_; refine thenN ?_; refine CW.seq ?_; refine CW.block ?_; refine CW.seq ?_; refine CW.region ?_; apply LW.v0; rfl; rfl; apply ValP.move; rfl; apply LW.v0; rfl; rfl; apply ValP.assign; rfl; apply LW.nil; refine thenN ?_; apply CW.pre; refine AnyW.any 9 mixed (by decide +kernel) ?_; (try simp only [tsOf_cons, tsOf_nil, tsOf_app]); apply DW.v0; rfl; rfl; rfl; exact WantT.none; rfl; apply ValP.move; rfl; apply DW.loadO; rfl; rfl; rfl; exact WantT.none; rfl; apply TRead.app; apply TRead.tail; apply TRead.tail; apply TRead.head; exact ancB_nil; exact Rd.whole rfl; apply DW.v0; rfl; rfl; rfl; exact WantT.none; rfl; apply ValP.move; rfl; apply DW.callE; rfl; rfl; rfl; exact WantT.none; rfl; infer_instance; apply ArgsOk.cons; rfl; apply ArgsOk.cons; rfl; exact ArgsOk.nil; rfl; exact ReadAll.nil; intro w _ _; refine Bit_calls _ _ ?_ ?_ w; assumption; omega; apply DW.loadO; rfl; rfl; rfl; exact WantT.none; rfl; apply TRead.app; apply TRead.tail; apply TRead.head; exact ancB_nil; exact Rd.whole rfl; apply DW.v0; rfl; rfl; rfl; exact WantT.none; rfl; apply ValP.move; rfl; apply DW.callE; rfl; rfl; rfl; exact WantT.none; rfl; infer_instance; apply ArgsOk.cons; rfl; apply ArgsOk.cons; rfl; exact ArgsOk.nil; rfl; exact ReadAll.nil; intro w _ _; refine Bit_calls _ _ ?_ ?_ w; assumption; omega; apply DW.v0; rfl; rfl; rfl; exact WantT.none; rfl; apply ValP.mulZ; rfl; rfl; omega; apply DW.lay1; rfl; rfl; rfl; exact WantT.none; infer_instance; infer_instance; rfl; rfl; rfl; rfl; rfl; rfl; intro _; apply DW.nil; simp only [fsOf_cons, fsOf_nil, fsOf_app, fsOf_tsOf, fsOf_new])
    (apply LW.append; (case hrow => assumption); rfl; rfl; infer_instance; infer_instance; infer_instance; rfl; rfl; rfl; apply AtSeg.cons; exact AtSeg.head; apply Known.at; apply FsAt.head; rfl; rfl; rfl; omega; simp only [maxLen]; omega; omega; intro v' seg' hrow'; obtain ⟨p', c', rfl⟩ := hrow'.form; (refine ⟨_, (by (repeat (first | exact AtSeg.head | apply AtSeg.cons | apply AtSeg.app))), ?_⟩); (try simp only [List.cons_append, List.nil_append]))
    (apply LW.v0; rfl; rfl; apply ValP.assign; rfl; apply LW.nil; refine blkN ?_; refine thenN ?_; refine CW.region ?_; apply LW.v0; rfl; rfl; apply ValP.addZL; rfl; rfl; decide; omega; apply LW.v0; rfl; rfl; apply ValP.move; rfl; apply LW.nil)
    apply thenX
    exact ⟨rfl, ⟨k + 1, _, seg'⟩, ⟨hlt, by rw [bl_succ, ics_app, band_bit]; exact hrow'⟩, by show 256 - (k + 1) < 256 - k; omega, ⟨rfl, rfl, rfl, rfl, rfl, trivial⟩, by (apply List.Sublist.cons; exact List.Sublist.refl _)⟩
  · obtain rfl : k = 256 := by omega
    (refine CW.seq ?_; refine CW.region ?_; apply LW.v0; rfl; rfl; apply ValP.lssF; rfl; rfl; omega; apply LW.nil; refine thenN ?_; refine CW.seq ?_; apply CW.condF; rfl; (with_reducible rfl); refine CW.exit ?_; refine thenE ?_; refine thenE ?_; refine blkE rfl ?_; refine thenN ?_; refine CW.seq ?_; refine CW.region ?_; apply LW.v0; rfl; rfl; apply ValP.move; rfl)
    (apply LW.callE; rfl; rfl; infer_instance; apply ArgsOk.cons; rfl; exact ArgsOk.nil; intro w hs; exact of_calls _ _ (by decide) _ w (hrow.atSeg AtSeg.head hs))
    rw [Nat.min_self, Nat.mod_eq_of_lt (show a &&& b < 2 ^ 256 from and256 ha)]
    (apply LW.store; rfl; rfl; apply SetAt.app; apply SetAt.head; apply Wr.whole; rfl; rfl; rfl; apply LW.nil; refine thenN ?_; refine CW.ret ?_)
    (apply finR; exact .inl rfl; rfl; rfl; rfl; apply ResL.cons; apply Res.cell; rfl; apply Known.at; apply FsAt.app; apply FsAt.head; exact Rd.whole rfl; exact ResL.nil)
    rfl
theorem rOr_calls (a b : Nat) (ha : a < M256) (hb : b < M256) (w : World) : Calls Try.prog 39 #[wv a, wv b] w (Ret w (wv (a ||| b))) := by
  refine enter (args := [_, _]) _ [] [] Try.func39 rfl Try.ntmps39 rfl (by simp) .nil ?_
  (refine CW.seq ?_; refine CW.region ?_; apply LW.boxA; rfl; rfl; intro _; apply LW.boxA; rfl; rfl; intro _; apply LW.allocW; rfl; intro _; apply LW.nil; refine thenN ?_; refine CW.seq ?_; refine CW.region ?_; apply LW.v0; rfl; rfl; apply ValP.assign; rfl; apply LW.nil; refine thenN ?_; refine CW.seq ?_; refine CW.seq ?_; refine CW.region ?_; apply LW.v0; rfl; rfl; apply ValP.move; rfl; apply LW.nil; refine thenN ?_; refine CW.block ?_)
  rename_i ba bb bc
  refine CW.loop (fun x : RC => ([(7, .int .i64 (x.m : Int)), (5, x.v), (2, .pointer (some ⟨ba, 0, none⟩)), (3, .pointer (some ⟨bb, 0, none⟩)), (4, .pointer (some ⟨bc, 0, none⟩))], x.seg ++ [(bc, .cells (wc 0) 24 (0, 0)), (bb, .cells (wc b) 24 (0, 0)), (ba, .cells (wc a) 24 (0, 0))]))
    (fun x => x.m ≤ 256 ∧ IsRow 3 1 x.v x.m (ics (bl (a ||| b) x.m)) x.seg) (fun x => 256 - x.m) ⟨0, .slice none 0 0, []⟩ ⟨Nat.zero_le _, .nil⟩ ⟨rfl, rfl, rfl, rfl, rfl, trivial⟩ (List.Sublist.refl _) ?_
  rintro ⟨k, v, seg⟩ ⟨hk, hrow⟩
  dsimp only at hk hrow ⊢
  obtain ⟨p, c, rfl⟩ := hrow.form
  rcases Nat.lt_or_ge k 256 with hlt | hge
  · skip
    (refine CW.seq ?_; refine CW.region ?_; apply LW.v0; rfl; rfl; apply ValP.lssT; rfl; rfl; omega; apply LW.nil; refine thenN ?_; refine CW.seq ?_; apply CW.condT; rfl; (with_reducible rfl); refine CW.skip ?_; refine thenN ?_; refine CW.seq ?_; refine CW.block ?_; refine CW.seq ?_; refine CW.region ?_; apply LW.v0; rfl; rfl; apply ValP.move; rfl; apply LW.v0; rfl; rfl; apply ValP.assign; rfl; apply LW.nil; refine thenN ?_; apply CW.pre; refine AnyW.any 9 mixed (by decide +kernel) ?_; (try simp only [tsOf_cons, tsOf_nil, tsOf_app]); apply DW.v0; rfl; rfl; rfl; exact WantT.none; rfl; apply ValP.move; rfl; apply DW.loadO; rfl; rfl; rfl; exact WantT.none; rfl; apply TRead.app; apply TRead.tail; apply TRead.tail; apply TRead.head; exact ancB_nil; exact Rd.whole rfl; apply DW.v0; rfl; rfl; rfl; exact WantT.none; rfl; apply ValP.move; rfl; apply DW.callE; rfl; rfl; rfl; exact WantT.none; rfl; infer_instance; apply ArgsOk.cons; rfl; apply ArgsOk.cons; rfl; exact ArgsOk.nil; rfl; exact ReadAll.nil; intro w _ _; refine Bit_calls _ _ ?_ ?_ w; assumption; omega; apply DW.loadO; rfl; rfl; rfl; exact WantT.none; rfl; apply TRead.app; apply TRead.tail; apply TRead.head; exact ancB_nil; exact Rd.whole rfl; apply DW.v0; rfl; rfl; rfl; exact WantT.none; rfl; apply ValP.move; rfl; apply DW.callE; rfl; rfl; rfl; exact WantT.none; rfl; infer_instance; apply ArgsOk.cons; rfl; apply ArgsOk.cons; rfl; exact ArgsOk.nil; rfl; exact ReadAll.nil; intro w _ _; refine Bit_calls _ _ ?_ ?_ w; assumption; omega; apply DW.v0; rfl; rfl; rfl; exact WantT.none; rfl; apply ValP.maxZ; rfl; rfl; apply DW.lay1; rfl; rfl; rfl; exact WantT.none; infer_instance; infer_instance; rfl; rfl; rfl; rfl; rfl; rfl; intro _; apply DW.nil; simp only [fsOf_cons, fsOf_nil, fsOf_app, fsOf_tsOf, fsOf_new])
    (apply LW.append; (case hrow => assumption); rfl; rfl; infer_instance; infer_instance; infer_instance; rfl; rfl; rfl; apply AtSeg.cons; exact AtSeg.head; apply Known.at; apply FsAt.head; rfl; rfl; rfl; omega; simp only [maxLen]; omega; omega; intro v' seg' hrow'; obtain ⟨p', c', rfl⟩ := hrow'.form; (refine ⟨_, (by (repeat (first | exact AtSeg.head | apply AtSeg.cons | apply AtSeg.app))), ?_⟩); (try simp only [List.cons_append, List.nil_append]))
    (apply LW.v0; rfl; rfl; apply ValP.assign; rfl; apply LW.nil; refine blkN ?_; refine thenN ?_; refine CW.region ?_; apply LW.v0; rfl; rfl; apply ValP.addZL; rfl; rfl; decide; omega; apply LW.v0; rfl; rfl; apply ValP.move; rfl; apply LW.nil)
    apply thenX
    exact ⟨rfl, ⟨k + 1, _, seg'⟩, ⟨hlt, by rw [bl_succ, ics_app, bor_bit]; exact hrow'⟩, by show 256 - (k + 1) < 256 - k; omega, ⟨rfl, rfl, rfl, rfl, rfl, trivial⟩, by (apply List.Sublist.cons; exact List.Sublist.refl _)⟩
  · obtain rfl : k = 256 := by omega
    (refine CW.seq ?_; refine CW.region ?_; apply LW.v0; rfl; rfl; apply ValP.lssF; rfl; rfl; omega; apply LW.nil; refine thenN ?_; refine CW.seq ?_; apply CW.condF; rfl; (with_reducible rfl); refine CW.exit ?_; refine thenE ?_; refine thenE ?_; refine blkE rfl ?_; refine thenN ?_; refine CW.seq ?_; refine CW.region ?_; apply LW.v0; rfl; rfl; apply ValP.move; rfl)
    (apply LW.callE; rfl; rfl; infer_instance; apply ArgsOk.cons; rfl; exact ArgsOk.nil; intro w hs; exact of_calls _ _ (by decide) _ w (hrow.atSeg AtSeg.head hs))
    rw [Nat.min_self, Nat.mod_eq_of_lt (show a ||| b < 2 ^ 256 from or256 ha hb)]
    (apply LW.store; rfl; rfl; apply SetAt.app; apply SetAt.head; apply Wr.whole; rfl; rfl; rfl; apply LW.nil; refine thenN ?_; refine CW.ret ?_)
    (apply finR; exact .inl rfl; rfl; rfl; rfl; apply ResL.cons; apply Res.cell; rfl; apply Known.at; apply FsAt.app; apply FsAt.head; exact Rd.whole rfl; exact ResL.nil)
    rfl
theorem rXor_calls (a b : Nat) (ha : a < M256) (hb : b < M256) (w : World) : Calls Try.prog 40 #[wv a, wv b] w (Ret w (wv (a ^^^ b))) := by
  refine enter (args := [_, _]) _ [] [] Try.func40 rfl Try.ntmps40 rfl (by simp) .nil ?_
  (refine CW.seq ?_; refine CW.region ?_; apply LW.boxA; rfl; rfl; intro _; apply LW.boxA; rfl; rfl; intro _; apply LW.allocW; rfl; intro _; apply LW.nil; refine thenN ?_; refine CW.seq ?_; refine CW.region ?_; apply LW.v0; rfl; rfl; apply ValP.assign; rfl; apply LW.nil; refine thenN ?_; refine CW.seq ?_; refine CW.seq ?_; refine CW.region ?_; apply LW.v0; rfl; rfl; apply ValP.move; rfl; apply LW.nil; refine thenN ?_; refine CW.block ?_)
  rename_i ba bb bc
  refine CW.loop (fun x : RC => ([(7, .int .i64 (x.m : Int)), (5, x.v), (2, .pointer (some ⟨ba, 0, none⟩)), (3, .pointer (some ⟨bb, 0, none⟩)), (4, .pointer (some ⟨bc, 0, none⟩))], x.seg ++ [(bc, .cells (wc 0) 24 (0, 0)), (bb, .cells (wc b) 24 (0, 0)), (ba, .cells (wc a) 24 (0, 0))]))
    (fun x => x.m ≤ 256 ∧ IsRow 3 1 x.v x.m (ics (bl (a ^^^ b) x.m)) x.seg) (fun x => 256 - x.m) ⟨0, .slice none 0 0, []⟩ ⟨Nat.zero_le _, .nil⟩ ⟨rfl, rfl, rfl, rfl, rfl, trivial⟩ (List.Sublist.refl _) ?_
  rintro ⟨k, v, seg⟩ ⟨hk, hrow⟩
  dsimp only at hk hrow ⊢
  obtain ⟨p, c, rfl⟩ := hrow.form
  rcases Nat.lt_or_ge k 256 with hlt | hge
  · skip
    (refine CW.seq ?_; refine CW.region ?_; apply LW.v0; rfl; rfl; apply ValP.lssT; rfl; rfl; omega; apply LW.nil; refine thenN ?_; refine CW.seq ?_; apply CW.condT; rfl; (with_reducible rfl); refine CW.skip ?_; refine thenN ?_; refine CW.seq ?_; refine CW.block ?_; refine CW.seq ?_; refine CW.region ?_; apply LW.v0; rfl; rfl; apply ValP.move; rfl; apply LW.v0; rfl; rfl; apply ValP.assign; rfl; apply LW.nil; refine thenN ?_; apply CW.pre; refine AnyW.any 10 mixed (by decide +kernel) ?_; (try simp only [tsOf_cons, tsOf_nil, tsOf_app]); apply DW.v0; rfl; rfl; rfl; exact WantT.none; rfl; apply ValP.move; rfl; apply DW.loadO; rfl; rfl; rfl; exact WantT.none; rfl; apply TRead.app; apply TRead.tail; apply TRead.tail; apply TRead.head; exact ancB_nil; exact Rd.whole rfl; apply DW.v0; rfl; rfl; rfl; exact WantT.none; rfl; apply ValP.move; rfl; apply DW.callE; rfl; rfl; rfl; exact WantT.none; rfl; infer_instance; apply ArgsOk.cons; rfl; apply ArgsOk.cons; rfl; exact ArgsOk.nil; rfl; exact ReadAll.nil; intro w _ _; refine Bit_calls _ _ ?_ ?_ w; assumption; omega; apply DW.loadO; rfl; rfl; rfl; exact WantT.none; rfl; apply TRead.app; apply TRead.tail; apply TRead.head; exact ancB_nil; exact Rd.whole rfl; apply DW.v0; rfl; rfl; rfl; exact WantT.none; rfl; apply ValP.move; rfl; apply DW.callE; rfl; rfl; rfl; exact WantT.none; rfl; infer_instance; apply ArgsOk.cons; rfl; apply ArgsOk.cons; rfl; exact ArgsOk.nil; rfl; exact ReadAll.nil; intro w _ _; refine Bit_calls _ _ ?_ ?_ w; assumption; omega; apply DW.v0; rfl; rfl; rfl; exact WantT.none; rfl; apply ValP.addZ; rfl; rfl; omega; apply DW.v0; rfl; rfl; rfl; exact WantT.none; rfl; apply ValP.remZL; rfl; rfl; decide; omega; apply DW.lay1; rfl; rfl; rfl; exact WantT.none; infer_instance; infer_instance; rfl; rfl; rfl; rfl; rfl; rfl; intro _; apply DW.nil; simp only [fsOf_cons, fsOf_nil, fsOf_app, fsOf_tsOf, fsOf_new])
    (apply LW.append; (case hrow => assumption); rfl; rfl; infer_instance; infer_instance; infer_instance; rfl; rfl; rfl; apply AtSeg.cons; exact AtSeg.head; apply Known.at; apply FsAt.head; rfl; rfl; rfl; omega; simp only [maxLen]; omega; omega; intro v' seg' hrow'; obtain ⟨p', c', rfl⟩ := hrow'.form; (refine ⟨_, (by (repeat (first | exact AtSeg.head | apply AtSeg.cons | apply AtSeg.app))), ?_⟩); (try simp only [List.cons_append, List.nil_append]))
    (apply LW.v0; rfl; rfl; apply ValP.assign; rfl; apply LW.nil; refine blkN ?_; refine thenN ?_; refine CW.region ?_; apply LW.v0; rfl; rfl; apply ValP.addZL; rfl; rfl; decide; omega; apply LW.v0; rfl; rfl; apply ValP.move; rfl; apply LW.nil)
    apply thenX
    exact ⟨rfl, ⟨k + 1, _, seg'⟩, ⟨hlt, by rw [bl_succ, ics_app, bxor_bit]; exact hrow'⟩, by show 256 - (k + 1) < 256 - k; omega, ⟨rfl, rfl, rfl, rfl, rfl, trivial⟩, by (apply List.Sublist.cons; exact List.Sublist.refl _)⟩
  · obtain rfl : k = 256 := by omega
    (refine CW.seq ?_; refine CW.region ?_; apply LW.v0; rfl; rfl; apply ValP.lssF; rfl; rfl; omega; apply LW.nil; refine thenN ?_; refine CW.seq ?_; apply CW.condF; rfl; (with_reducible rfl); refine CW.exit ?_; refine thenE ?_; refine thenE ?_; refine blkE rfl ?_; refine thenN ?_; refine CW.seq ?_; refine CW.region ?_; apply LW.v0; rfl; rfl; apply ValP.move; rfl)
    (apply LW.callE; rfl; rfl; infer_instance; apply ArgsOk.cons; rfl; exact ArgsOk.nil; intro w hs; exact of_calls _ _ (by decide) _ w (hrow.atSeg AtSeg.head hs))
    rw [Nat.min_self, Nat.mod_eq_of_lt (show a ^^^ b < 2 ^ 256 from xor256 ha hb)]
    (apply LW.store; rfl; rfl; apply SetAt.app; apply SetAt.head; apply Wr.whole; rfl; rfl; rfl; apply LW.nil; refine thenN ?_; refine CW.ret ?_)
    (apply finR; exact .inl rfl; rfl; rfl; rfl; apply ResL.cons; apply Res.cell; rfl; apply Known.at; apply FsAt.app; apply FsAt.head; exact Rd.whole rfl; exact ResL.nil)
    rfl
theorem rNot_calls (a : Nat) (ha : a < M256) (w : World) : Calls Try.prog 41 #[wv a] w (Ret w (wv (M256 - 1 - a))) := by
  refine enter (args := [_]) _ [] [] Try.func41 rfl Try.ntmps41 rfl (by simp) .nil ?_
  (refine CW.seq ?_; refine CW.region ?_; apply LW.boxA; rfl; rfl; intro _; apply LW.allocW; rfl; intro _; apply LW.nil; refine thenN ?_; refine CW.seq ?_; refine CW.region ?_; apply LW.v0; rfl; rfl; apply ValP.assign; rfl; apply LW.nil; refine thenN ?_; refine CW.seq ?_; refine CW.seq ?_; refine CW.region ?_; apply LW.v0; rfl; rfl; apply ValP.move; rfl; apply LW.nil; refine thenN ?_; refine CW.block ?_)
  rename_i ba bc
  refine CW.loop (fun x : RC => ([(5, .int .i64 (x.m : Int)), (3, x.v), (1, .pointer (some ⟨ba, 0, none⟩)), (2, .pointer (some ⟨bc, 0, none⟩))], x.seg ++ [(bc, .cells (wc 0) 24 (0, 0)), (ba, .cells (wc a) 24 (0, 0))]))
    (fun x => x.m ≤ 256 ∧ IsRow 3 1 x.v x.m (ics (bl (M256 - 1 - a) x.m)) x.seg) (fun x => 256 - x.m) ⟨0, .slice none 0 0, []⟩ ⟨Nat.zero_le _, .nil⟩ ⟨rfl, rfl, rfl, rfl, trivial⟩ (List.Sublist.refl _) ?_
  rintro ⟨k, v, seg⟩ ⟨hk, hrow⟩
  dsimp only at hk hrow ⊢
  obtain ⟨p, c, rfl⟩ := hrow.form
  rcases Nat.lt_or_ge k 256 with hlt | hge
  · skip
    (refine CW.seq ?_; refine CW.region ?_; apply LW.v0; rfl; rfl; apply ValP.lssT; rfl; rfl; omega; apply LW.nil; refine thenN ?_; refine CW.seq ?_; apply CW.condT; rfl; (with_reducible rfl); refine CW.skip ?_; refine thenN ?_; refine CW.seq ?_; refine CW.block ?_; refine CW.seq ?_; refine CW.region ?_; apply LW.v0; rfl; rfl; apply ValP.move; rfl; apply LW.v0; rfl; rfl; apply ValP.assign; rfl; apply LW.nil; refine thenN ?_; refine CW.region ?_; apply LW.v0; rfl; rfl; apply ValP.move; rfl; apply LW.load; rfl; rfl; apply Known.at; apply FsAt.app; apply FsAt.tail; apply FsAt.head; exact Rd.whole rfl; apply LW.v0; rfl; rfl; apply ValP.move; rfl; apply LW.callE; rfl; rfl; infer_instance; apply ArgsOk.cons; rfl; apply ArgsOk.cons; rfl; exact ArgsOk.nil; intro w _; refine Bit_calls _ _ ?_ ?_ w; assumption; omega; apply LW.v0; rfl; rfl; apply ValP.subZK; rfl; rfl; decide; omega; omega; apply LW.lay1; rfl; infer_instance; infer_instance; rfl; rfl; rfl; rfl; rfl; rfl; intro _)
    (apply LW.append; (case hrow => assumption); rfl; rfl; infer_instance; infer_instance; infer_instance; rfl; rfl; rfl; apply AtSeg.cons; exact AtSeg.head; apply Known.at; apply FsAt.head; rfl; rfl; rfl; omega; simp only [maxLen]; omega; omega; intro v' seg' hrow'; obtain ⟨p', c', rfl⟩ := hrow'.form; (refine ⟨_, (by (repeat (first | exact AtSeg.head | apply AtSeg.cons | apply AtSeg.app))), ?_⟩); (try simp only [List.cons_append, List.nil_append]))
    (apply LW.v0; rfl; rfl; apply ValP.assign; rfl; apply LW.nil; refine blkN ?_; refine thenN ?_; refine CW.region ?_; apply LW.v0; rfl; rfl; apply ValP.addZL; rfl; rfl; decide; omega; apply LW.v0; rfl; rfl; apply ValP.move; rfl; apply LW.nil)
    apply thenX
    exact ⟨rfl, ⟨k + 1, _, seg'⟩, ⟨hlt, by rw [bl_succ, ics_app, not_bit a k ha hlt]; exact hrow'⟩, by show 256 - (k + 1) < 256 - k; omega, ⟨rfl, rfl, rfl, rfl, trivial⟩, by (apply List.Sublist.cons; exact List.Sublist.refl _)⟩
  · obtain rfl : k = 256 := by omega
    (refine CW.seq ?_; refine CW.region ?_; apply LW.v0; rfl; rfl; apply ValP.lssF; rfl; rfl; omega; apply LW.nil; refine thenN ?_; refine CW.seq ?_; apply CW.condF; rfl; (with_reducible rfl); refine CW.exit ?_; refine thenE ?_; refine thenE ?_; refine blkE rfl ?_; refine thenN ?_; refine CW.seq ?_; refine CW.region ?_; apply LW.v0; rfl; rfl; apply ValP.move; rfl)
    (apply LW.callE; rfl; rfl; infer_instance; apply ArgsOk.cons; rfl; exact ArgsOk.nil; intro w hs; exact of_calls _ _ (by decide) _ w (hrow.atSeg AtSeg.head hs))
    rw [Nat.min_self, Nat.mod_eq_of_lt (show M256 - 1 - a < 2 ^ 256 from Nat.lt_of_le_of_lt (Nat.sub_le _ _) (by decide))]
    (apply LW.store; rfl; rfl; apply SetAt.app; apply SetAt.head; apply Wr.whole; rfl; rfl; rfl; apply LW.nil; refine thenN ?_; refine CW.ret ?_)
    (apply finR; exact .inl rfl; rfl; rfl; rfl; apply ResL.cons; apply Res.cell; rfl; apply Known.at; apply FsAt.app; apply FsAt.head; exact Rd.whole rfl; exact ResL.nil)
    rfl
end Go.Proofs.Ytahoghldnijnbaa
