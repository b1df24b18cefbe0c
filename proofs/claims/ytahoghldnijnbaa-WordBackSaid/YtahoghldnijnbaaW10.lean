/-
  The document's answer in bits: contracts.
  Conditions: none.
-/
import Derived.Test.YtahoghldnijnbaaW9
import Derived.Test.YtahoghldnijnbaaSln
namespace Go.Proofs.Ytahoghldnijnbaa
open Go Go.RowKit SL
set_option maxRecDepth 8000
set_option maxHeartbeats 4000000
set_option linter.unusedSimpArgs false
set_option linter.unusedVariables false
attribute [local irreducible] SL.CW SL.LW SL.DW Calls SL.Ret SL.RetG SL.beginQ SL.roundQ SL.rangeQ SL.inQ SL.RW SL.AnyW SL.thenQ SL.thenC SL.thenW SL.blkQ SL.finQ SL.ValP SL.NewP SL.SetP SL.CallP SL.Rd SL.Wr SL.Known
theorem Bit_calls (a n : Nat) (ha : a < M256) (hn : n < 9223372036854775808) (w : World) : Calls Try.prog 63 #[wv a, .int .i64 (n : Int)] w (Ret w (.int .i64 ((a / 2 ^ n % 2 : Nat) : Int))) := by
  refine enter (args := [_, _]) _ [] [] Try.func63 rfl Try.ntmps63 rfl (by simp) .nil ?_
  rcases Nat.lt_or_ge n 256 with h | h
  · have hX : a / 2 ^ (64 * (0 + n / 64 * 1)) % 18446744073709551616 / 2 ^ (n % 64) &&& 1 = a / 2 ^ n % 2 := by rw [show 0 + n / 64 * 1 = n / 64 by omega]; exact bit_and a n h
    (refine CW.seq ?_; refine CW.region ?_; apply LW.boxA; rfl; rfl; intro _; apply LW.v0; rfl; rfl; apply ValP.assign; rfl; apply LW.nil; refine thenN ?_; refine CW.seq ?_; refine CW.seq ?_; refine CW.region ?_; apply LW.v0; rfl; rfl; apply ValP.move; rfl; apply LW.v0; rfl; rfl; apply ValP.lssF; rfl; rfl; omega; apply LW.v0; rfl; rfl; apply ValP.move; rfl; apply LW.guardT'; rfl; rfl; (with_reducible rfl); apply LW.v0; rfl; rfl; apply ValP.move; rfl; apply LW.guardT'; rfl; rfl; (with_reducible rfl); apply LW.v0; rfl; rfl; apply ValP.gtrF; rfl; rfl; omega; apply LW.v0; rfl; rfl; apply ValP.pickF'; rfl; (with_reducible rfl); rfl; apply LW.nil; refine thenN ?_; apply CW.condF; rfl; (with_reducible rfl); refine CW.skip ?_; refine thenN ?_; refine CW.seq ?_; refine CW.region ?_; apply LW.v0; rfl; rfl; apply ValP.move; rfl; apply LW.v0; rfl; rfl; apply ValP.quoZL; rfl; rfl; decide; omega; omega; apply LW.v0; rfl; rfl; apply ValP.indexAddrA; rfl; rfl; rfl; omega; apply LW.load; rfl; rfl; apply Known.at; apply FsAt.head; apply Rd.one'; apply nth_wc; omega; apply LW.v0; rfl; rfl; apply ValP.move; rfl; apply LW.v0; rfl; rfl; apply ValP.remZL; rfl; rfl; decide; omega; apply LW.v0; rfl; rfl; apply ValP.shrU; rfl; rfl; omega; apply LW.v0; rfl; rfl; apply ValP.andUL; rfl; rfl; decide; apply div64; omega; omega; apply LW.v0; rfl; rfl; apply ValP.convI; rfl; omega; omega; apply LW.v0; rfl; rfl; apply ValP.assign; rfl; apply LW.nil; refine thenN ?_; refine CW.ret ?_)
    (apply finR; exact .inl rfl; rfl; rfl; rfl; apply ResL.cons; exact Res.tmp rfl; exact ResL.nil)
    rw [hX]; rfl
  · have h0 : a / 2 ^ n % 2 = 0 := by
      rw [Nat.div_eq_of_lt]
      exact Nat.lt_of_lt_of_le ha (Nat.pow_le_pow_right (n := 2) (by decide) h)
    (refine CW.seq ?_; refine CW.region ?_; apply LW.boxA; rfl; rfl; intro _; apply LW.v0; rfl; rfl; apply ValP.assign; rfl; apply LW.nil; refine thenN ?_; refine CW.seq ?_; refine CW.seq ?_; refine CW.region ?_; apply LW.v0; rfl; rfl; apply ValP.move; rfl; apply LW.v0; rfl; rfl; apply ValP.lssF; rfl; rfl; omega; apply LW.v0; rfl; rfl; apply ValP.move; rfl; apply LW.guardT'; rfl; rfl; (with_reducible rfl); apply LW.v0; rfl; rfl; apply ValP.move; rfl; apply LW.guardT'; rfl; rfl; (with_reducible rfl); apply LW.v0; rfl; rfl; apply ValP.gtrT; rfl; rfl; omega; apply LW.v0; rfl; rfl; apply ValP.pickF'; rfl; (with_reducible rfl); rfl; apply LW.nil; refine thenN ?_; apply CW.condT; rfl; (with_reducible rfl); refine CW.seq ?_; refine CW.region ?_; apply LW.v0; rfl; rfl; apply ValP.assign; rfl; apply LW.nil; refine thenN ?_; refine CW.ret ?_; refine thenR ?_)
    (apply finR; exact .inl rfl; rfl; rfl; rfl; apply ResL.cons; exact Res.tmp rfl; exact ResL.nil)
    rw [h0]; rfl
/-- The bits of a number, so many of them. -/
def bl (a m : Nat) : List Nat := (List.range m).map fun n => a / 2 ^ n % 2
theorem bl_len (a m : Nat) : (bl a m).length = m := by simp [bl]
theorem bl_succ (a m : Nat) : bl a (m + 1) = bl a m ++ [a / 2 ^ m % 2] := by simp [bl, List.range_succ]
theorem bl_get (a m i : Nat) (h : i < m) : (bl a m)[i]? = some (a / 2 ^ i % 2) := by simp [bl, h]
structure RX where
  m : Nat
  v : Value
  seg : Fs
theorem bits_calls (a m : Nat) (ha : a < M256) (hm : m < 1000) (w : World) : Calls Try.prog 60 #[wv a, .int .i64 (m : Int)] w (RetG w [] fun v gs => IsRow 3 1 v m (ics (bl a m)) gs) := by
  refine enter (args := [_, _]) _ [] [] Try.func60 rfl Try.ntmps60 rfl (by simp) .nil ?_
  (refine CW.seq ?_; refine CW.region ?_; apply LW.boxA; rfl; rfl; intro _; apply LW.v0; rfl; rfl; apply ValP.assign; rfl; apply LW.nil; refine thenN ?_; refine CW.seq ?_; refine CW.region ?_; apply LW.v0; rfl; rfl; apply ValP.assign; rfl; apply LW.nil; refine thenN ?_; refine CW.seq ?_; refine CW.seq ?_; refine CW.region ?_; apply LW.v0; rfl; rfl; apply ValP.move; rfl; apply LW.v0; rfl; rfl; apply ValP.move; rfl; apply LW.nil; refine thenN ?_; refine CW.block ?_)
  rename_i b
  refine CW.loop (fun x : RX => ([(8, .int .i64 (x.m : Int)), (7, .int .i64 (m : Int)), (5, x.v), (2, .pointer (some ⟨b, 0, none⟩))], x.seg ++ [(b, .cells (wc a) 24 (0, 0))]))
    (fun x => x.m ≤ m ∧ IsRow 3 1 x.v x.m (ics (bl a x.m)) x.seg) (fun x => m - x.m) ⟨0, .slice none 0 0, []⟩ ⟨Nat.zero_le _, .nil⟩ ⟨rfl, rfl, rfl, rfl, trivial⟩ (List.Sublist.refl _) ?_
  rintro ⟨k, v, seg⟩ ⟨hk, hrow⟩
  dsimp only at hk hrow ⊢
  obtain ⟨p, c, rfl⟩ := hrow.form
  rcases Nat.lt_or_ge k m with hlt | hge
  · (refine CW.seq ?_; refine CW.region ?_; apply LW.v0; rfl; rfl; apply ValP.lssT; rfl; rfl; omega; apply LW.nil; refine thenN ?_; refine CW.seq ?_; apply CW.condT; rfl; (with_reducible rfl); refine CW.skip ?_; refine thenN ?_; refine CW.seq ?_; refine CW.block ?_; refine CW.seq ?_; refine CW.region ?_; apply LW.v0; rfl; rfl; apply ValP.move; rfl; apply LW.v0; rfl; rfl; apply ValP.assign; rfl; apply LW.nil; refine thenN ?_; refine CW.region ?_; apply LW.v0; rfl; rfl; apply ValP.move; rfl; apply LW.load; rfl; rfl; apply Known.at; apply FsAt.app; apply FsAt.head; exact Rd.whole rfl; apply LW.v0; rfl; rfl; apply ValP.move; rfl; apply LW.callE; rfl; rfl; infer_instance; apply ArgsOk.cons; rfl; apply ArgsOk.cons; rfl; exact ArgsOk.nil; intro w _; refine Bit_calls _ _ ?_ ?_ w; assumption; omega; apply LW.lay1; rfl; infer_instance; infer_instance; rfl; rfl; rfl; rfl; rfl; rfl; intro _)
    (apply LW.append; (case hrow => assumption); rfl; rfl; infer_instance; infer_instance; infer_instance; rfl; rfl; rfl; apply AtSeg.cons; exact AtSeg.head; apply Known.at; apply FsAt.head; rfl; rfl; rfl; omega; simp only [maxLen]; omega; omega; intro v' seg' hrow'; obtain ⟨p', c', rfl⟩ := hrow'.form; (refine ⟨_, (by (repeat (first | exact AtSeg.head | apply AtSeg.cons | apply AtSeg.app))), ?_⟩); (try simp only [List.cons_append, List.nil_append]))
    (apply LW.v0; rfl; rfl; apply ValP.assign; rfl; apply LW.nil; refine blkN ?_; refine thenN ?_; refine CW.region ?_; apply LW.v0; rfl; rfl; apply ValP.addZL; rfl; rfl; decide; omega; apply LW.v0; rfl; rfl; apply ValP.move; rfl; apply LW.nil)
    apply thenX
    exact ⟨rfl, ⟨k + 1, _, seg'⟩, ⟨hlt, by rw [bl_succ, ics_app]; exact hrow'⟩, by show m - (k + 1) < m - k; omega, ⟨rfl, rfl, rfl, rfl, trivial⟩, by (apply List.Sublist.cons; exact List.Sublist.refl _)⟩
  · obtain rfl : k = m := by omega
    (refine CW.seq ?_; refine CW.region ?_; apply LW.v0; rfl; rfl; apply ValP.lssF; rfl; rfl; omega; apply LW.nil; refine thenN ?_; refine CW.seq ?_; apply CW.condF; rfl; (with_reducible rfl); refine CW.exit ?_; refine thenE ?_; refine thenE ?_; refine blkE rfl ?_; refine thenN ?_; refine CW.seq ?_; refine CW.region ?_; apply LW.v0; rfl; rfl; apply ValP.move; rfl; apply LW.v0; rfl; rfl; apply ValP.assign; rfl; apply LW.nil; refine thenN ?_; refine CW.ret ?_)
    (apply finM seg; exact .inl rfl; exact Shut.nil; rfl; apply ResL.cons; exact Res.tmp rfl; exact ResL.nil; exact List.sublist_append_left _ _)
    exact hrow
end Go.Proofs.Ytahoghldnijnbaa
