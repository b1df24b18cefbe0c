/-
  Contracts of the word package: sums of many.
  Conditions: none.
-/
import Derived.Test.YtahoghldnijnbaaW8
import Derived.Test.YtahoghldnijnbaaSlm
namespace Go.Proofs.Ytahoghldnijnbaa
open Go Go.RowKit SL
set_option maxRecDepth 8000
set_option maxHeartbeats 4000000
set_option linter.unusedSimpArgs false
set_option linter.unusedVariables false
attribute [local irreducible] SL.CW SL.LW SL.DW Calls SL.Ret SL.RetG SL.beginQ SL.roundQ SL.rangeQ SL.inQ SL.RW SL.AnyW SL.thenQ SL.thenC SL.thenW SL.blkQ SL.finQ SL.ValP SL.NewP SL.SetP SL.CallP SL.Rd SL.Wr SL.Known
/-- The cells of words. -/
def wcs (l : List Nat) : List Value := l.flatMap fun a => (wc a).toList
theorem wcs_len (l : List Nat) : ∀ a ∈ l, ((wc a).toList).length = 4 := fun _ _ => rfl
theorem take_step (l : List Nat) (m : Nat) (h : m < l.length) : (l.take (m + 1)).sum = (l.take m).sum + l[m] := by
  rw [List.take_succ_eq_append_getElem h, List.sum_append]; simp
theorem Sum_calls (v : Value) (l : List Nat) (hl : ∀ a ∈ l, a < M256) (w : World) (hv : RowAt w 4 v l.length (wcs l)) : Calls Try.prog 25 #[v] w (Ret w (.tuple #[wv (l.sum % M256), .bool (decide (M256 ≤ l.sum))])) := by
  obtain ⟨p, c, rfl, hc, hm⟩ := hv.form
  simp only [maxLen] at hm
  refine enter (args := [_]) _ [] [] Try.func25 rfl Try.ntmps25 rfl (by simp) .nil ?_
  (refine CW.seq ?_; refine CW.region ?_; apply LW.allocW; rfl; intro _; apply LW.v0; rfl; rfl; apply ValP.assign; rfl; apply LW.nil; refine thenN ?_; refine CW.seq ?_; refine CW.region ?_; apply LW.allocW; rfl; intro _; apply LW.nil; refine thenN ?_; refine CW.seq ?_; refine CW.region ?_; apply LW.v0; rfl; rfl; apply ValP.assign; rfl; apply LW.nil; refine thenN ?_; refine CW.seq ?_; refine CW.seq ?_; refine CW.region ?_; apply LW.v0; rfl; rfl; apply ValP.move; rfl; apply LW.v0; rfl; rfl; apply ValP.lenR; rfl; infer_instance; rfl; apply LW.v0; rfl; rfl; apply ValP.move; rfl; apply LW.nil; refine thenN ?_; refine CW.block ?_)
  rename_i b1 b0
  refine CW.loop (fun m : Nat => ([(12, .int .i64 (m : Int)), (11, .int .i64 (l.length : Int)), (10, .slice p l.length c), (5, .bool (decide (M256 ≤ (l.take m).sum))), (4, .pointer (some ⟨b0, 0, none⟩)), (2, .pointer (some ⟨b1, 0, none⟩))],
    [(b0, .cells (wc ((l.take m).sum % M256)) 24 (0, 0)), (b1, .cells (wc 0) 24 (0, 0))]))
    (fun m => m ≤ l.length) (fun m => l.length - m) 0 (Nat.zero_le _) ⟨rfl, rfl, rfl, by simp [Env.get], rfl, rfl, trivial⟩ (List.Sublist.refl _) ?_
  intro m hml
  dsimp only at hml ⊢
  rcases Nat.lt_or_ge m l.length with hlt | hge
  · obtain ⟨b, off, c', cs, E, fr, heq, hb, hx⟩ := hv.pos (by omega)
    cases heq
    have hrd : Rd Try.prog 24 (.cells cs E fr) (off + m * 4) (wv l[m]) := Rd.elemA (g := fun a => (wc a).toList) (l := l) (a := l[m]) hx (wcs_len l) (List.getElem?_eq_getElem hlt)
    have ha := hl l[m] (List.getElem_mem hlt)
    have hM : (l.take m).sum % M256 < M256 := Nat.mod_lt _ (by decide)
    have hst := take_step l m hlt
    have e1 : ((l.take m).sum % M256 + l[m]) % M256 = (l.take (m + 1)).sum % M256 := by rw [hst, Nat.mod_add_mod]
    rcases Nat.lt_or_ge (l.take m).sum M256 with h1 | h1
    · have e2 : decide (M256 ≤ (l.take m).sum % M256 + l[m]) = decide (M256 ≤ (l.take (m + 1)).sum) := by rw [hst, Nat.mod_eq_of_lt h1]
      have e3 : decide (M256 ≤ (l.take m).sum) = false := decide_eq_false (by omega)
      rw [e3]
      (refine CW.seq ?_; refine CW.region ?_; apply LW.v0; rfl; rfl; apply ValP.lssT; rfl; rfl; omega; apply LW.nil; refine thenN ?_; refine CW.seq ?_; apply CW.condT; rfl; (with_reducible rfl); refine CW.skip ?_; refine thenN ?_; refine CW.seq ?_; refine CW.block ?_; refine CW.seq ?_; refine CW.region ?_; apply LW.v0; rfl; rfl; apply ValP.indexAddrS; rfl; rfl; rfl; omega; apply LW.load; rfl; rfl; exact Known.ext (by assumption) (by simp); assumption; apply LW.allocW; rfl; intro _; apply LW.store; rfl; rfl; apply SetAt.head; apply Wr.whole; rfl; rfl; rfl; apply LW.nil; refine thenN ?_; refine CW.seq ?_; refine CW.region ?_; apply LW.load; rfl; rfl; apply Known.at; apply FsAt.tail; apply FsAt.head; exact Rd.whole rfl; apply LW.load; rfl; rfl; apply Known.at; apply FsAt.head; exact Rd.whole rfl; apply LW.callE; rfl; rfl; infer_instance; apply ArgsOk.cons; rfl; apply ArgsOk.cons; rfl; exact ArgsOk.nil; intro w _; refine Add_calls _ _ ?_ ?_ w; assumption; assumption; apply LW.v0; rfl; rfl; apply ValP.move; rfl; apply LW.v0; rfl; rfl; apply ValP.extractN; rfl; rfl; apply LW.v0; rfl; rfl; apply ValP.extractN; rfl; rfl; apply LW.allocW; rfl; intro _; apply LW.store; rfl; rfl; apply SetAt.head; apply Wr.whole; rfl; rfl; rfl; apply LW.v0; rfl; rfl; apply ValP.assign; rfl; apply LW.nil; refine thenN ?_; refine CW.region ?_; apply LW.load; rfl; rfl; apply Known.at; apply FsAt.head; exact Rd.whole rfl; apply LW.v0; rfl; rfl; apply ValP.move; rfl; apply LW.v0; rfl; rfl; apply ValP.move; rfl; apply LW.guardT'; rfl; rfl; (with_reducible rfl); apply LW.v0; rfl; rfl; apply ValP.move; rfl; apply LW.v0; rfl; rfl; apply ValP.pickF'; rfl; (with_reducible rfl); rfl; apply LW.store; rfl; rfl; apply SetAt.tail; apply SetAt.tail; apply SetAt.head; apply Wr.whole; rfl; rfl; rfl; apply LW.v0; rfl; rfl; apply ValP.assign; rfl; apply LW.nil; refine blkN ?_; refine thenN ?_; refine CW.region ?_; apply LW.v0; rfl; rfl; apply ValP.addZL; rfl; rfl; decide; omega; apply LW.v0; rfl; rfl; apply ValP.move; rfl; apply LW.nil)
      apply thenX
      refine ⟨rfl, m + 1, hlt, by omega, ⟨rfl, rfl, rfl, ?_, rfl, rfl, trivial⟩, ?_⟩
      · rw [← e2]; rfl
      · rw [← e1]; (apply List.Sublist.cons; apply List.Sublist.cons; exact List.Sublist.refl _)
    · have e2 : decide (M256 ≤ (l.take (m + 1)).sum) = true := decide_eq_true (by omega)
      have e3 : decide (M256 ≤ (l.take m).sum) = true := decide_eq_true h1
      rw [e3]
      (refine CW.seq ?_; refine CW.region ?_; apply LW.v0; rfl; rfl; apply ValP.lssT; rfl; rfl; omega; apply LW.nil; refine thenN ?_; refine CW.seq ?_; apply CW.condT; rfl; (with_reducible rfl); refine CW.skip ?_; refine thenN ?_; refine CW.seq ?_; refine CW.block ?_; refine CW.seq ?_; refine CW.region ?_; apply LW.v0; rfl; rfl; apply ValP.indexAddrS; rfl; rfl; rfl; omega; apply LW.load; rfl; rfl; exact Known.ext (by assumption) (by simp); assumption; apply LW.allocW; rfl; intro _; apply LW.store; rfl; rfl; apply SetAt.head; apply Wr.whole; rfl; rfl; rfl; apply LW.nil; refine thenN ?_; refine CW.seq ?_; refine CW.region ?_; apply LW.load; rfl; rfl; apply Known.at; apply FsAt.tail; apply FsAt.head; exact Rd.whole rfl; apply LW.load; rfl; rfl; apply Known.at; apply FsAt.head; exact Rd.whole rfl; apply LW.callE; rfl; rfl; infer_instance; apply ArgsOk.cons; rfl; apply ArgsOk.cons; rfl; exact ArgsOk.nil; intro w _; refine Add_calls _ _ ?_ ?_ w; assumption; assumption; apply LW.v0; rfl; rfl; apply ValP.move; rfl; apply LW.v0; rfl; rfl; apply ValP.extractN; rfl; rfl; apply LW.v0; rfl; rfl; apply ValP.extractN; rfl; rfl; apply LW.allocW; rfl; intro _; apply LW.store; rfl; rfl; apply SetAt.head; apply Wr.whole; rfl; rfl; rfl; apply LW.v0; rfl; rfl; apply ValP.assign; rfl; apply LW.nil; refine thenN ?_; refine CW.region ?_; apply LW.load; rfl; rfl; apply Known.at; apply FsAt.head; exact Rd.whole rfl; apply LW.v0; rfl; rfl; apply ValP.move; rfl; apply LW.v0; rfl; rfl; apply ValP.move; rfl; apply LW.guardF'; rfl; rfl; simp only [Bool.not_true, Bool.not_false]; rfl; apply LW.v0; rfl; rfl; apply ValP.pickT'; rfl; (with_reducible rfl); rfl; apply LW.store; rfl; rfl; apply SetAt.tail; apply SetAt.tail; apply SetAt.head; apply Wr.whole; rfl; rfl; rfl; apply LW.v0; rfl; rfl; apply ValP.assign; rfl; apply LW.nil; refine blkN ?_; refine thenN ?_; refine CW.region ?_; apply LW.v0; rfl; rfl; apply ValP.addZL; rfl; rfl; decide; omega; apply LW.v0; rfl; rfl; apply ValP.move; rfl; apply LW.nil)
      apply thenX
      refine ⟨rfl, m + 1, hlt, by omega, ⟨rfl, rfl, rfl, ?_, rfl, rfl, trivial⟩, ?_⟩
      · rw [e2]; rfl
      · rw [← e1]; (apply List.Sublist.cons; apply List.Sublist.cons; exact List.Sublist.refl _)
  · (refine CW.seq ?_; refine CW.region ?_; apply LW.v0; rfl; rfl; apply ValP.lssF; rfl; rfl; omega; apply LW.nil; refine thenN ?_; refine CW.seq ?_; apply CW.condF; rfl; (with_reducible rfl); refine CW.exit ?_; refine thenE ?_; refine thenE ?_; refine blkE rfl ?_; refine thenN ?_; refine CW.seq ?_; refine CW.region ?_; apply LW.load; rfl; rfl; apply Known.at; apply FsAt.head; exact Rd.whole rfl; apply LW.v0; rfl; rfl; apply ValP.move; rfl; apply LW.store; rfl; rfl; apply SetAt.tail; apply SetAt.head; apply Wr.whole; rfl; rfl; rfl; apply LW.v0; rfl; rfl; apply ValP.assign; rfl; apply LW.nil; refine thenN ?_; refine CW.ret ?_)
    (apply finR; exact .inl rfl; rfl; rfl; rfl; apply ResL.cons; apply Res.cell; rfl; apply Known.at; apply FsAt.tail; apply FsAt.head; exact Rd.whole rfl; apply ResL.cons; exact Res.tmp rfl; exact ResL.nil)
    rw [List.take_of_length_le hge]; rfl
end Go.Proofs.Ytahoghldnijnbaa
