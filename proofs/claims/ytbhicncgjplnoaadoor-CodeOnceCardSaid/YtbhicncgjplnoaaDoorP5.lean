/-
  Texts that were built apart, put behind one another (5 of 6): CE CF CG CH CI CJ.
  Conditions: none.
-/
import Derived.Test.YtbhicncgjplnoaaDoorP4
/-
  The document's text: contracts.
  Conditions: none.
-/
namespace Go.Proofs.YtbhicncgjplnoaaDoor
open Go Go.RowKit SL
set_option maxRecDepth 8000
set_option maxHeartbeats 4000000
set_option linter.unusedSimpArgs false
set_option linter.unusedVariables false
attribute [local irreducible] SL.CW SL.LW SL.DW Calls SL.Ret SL.RetG SL.beginQ SL.roundQ SL.rangeQ SL.inQ SL.RW SL.AnyW SL.thenQ SL.thenC SL.thenW SL.blkQ SL.finQ SL.ValP SL.NewP SL.SetP SL.CallP SL.Rd SL.Wr SL.Known
theorem cut_hex (d : Nat) (hd : d < 16) : (hexdigits.drop d).take ((d + 1) % 256 - d) = [hexd d] := by
  revert d; decide
theorem rhex_calls (u : UInt8) (w : World) : Calls Tryd.prog 43 #[.int .u8 (u.toNat : Int)] w (Ret w (sv (hx2 u))) := by
  have hu := u.toNat_lt
  have hc1 := cut_hex (u.toNat / 16) (by omega)
  have hc2 := cut_hex (u.toNat % 16) (by omega)
  simp only [hexdigits] at hc1 hc2
  obtain ⟨q, hq⟩ : ∃ q, u.toNat / 16 = q := ⟨_, rfl⟩
  obtain ⟨r, hr⟩ : ∃ r, u.toNat % 16 = r := ⟨_, rfl⟩
  have hq2 : q < 16 := by omega
  have hr2 : r < 16 := by omega
  refine enter (args := [_]) _ [] [] Tryd.func43 rfl Tryd.ntmps43 rfl (by simp) .nil ?_
  (refine CW.seq ?_; refine CW.region ?_; apply LW.v0; rfl; rfl; apply ValP.assign; rfl; apply LW.nil; refine thenN ?_; refine CW.seq ?_; refine CW.region ?_; apply LW.v0; rfl; rfl; apply ValP.assign; rfl; apply LW.nil; refine thenN ?_; refine CW.seq ?_; refine CW.quiet rfl mixed (by decide +kernel) ?_; apply QW.v0; rfl; exact WantT.none; apply ValP.move; rfl; apply QW.v0; rfl; exact WantT.none; apply ValP.move; rfl; apply QW.v0; rfl; exact WantT.none; apply ValP.quoBL; rfl; rfl; decide; omega; decide; apply QW.v0; rfl; exact WantT.none; apply ValP.move; rfl; apply QW.v0; rfl; exact WantT.none; apply ValP.quoBL; rfl; rfl; decide; omega; decide; apply QW.v0; rfl; exact WantT.none; apply ValP.addBL; rfl; rfl; decide; apply QW.v0; rfl; exact WantT.none; apply ValP.cutStr; infer_instance; rfl; rfl; rfl; omega; show _ ≤ 16; omega; apply QW.v0; rfl; exact WantT.none; apply ValP.move; rfl; apply QW.v0; rfl; exact WantT.none; apply ValP.move; rfl; apply QW.v0; rfl; exact WantT.none; apply ValP.remBL; rfl; rfl; decide; decide; apply QW.v0; rfl; exact WantT.none; apply ValP.move; rfl; apply QW.v0; rfl; exact WantT.none; apply ValP.remBL; rfl; rfl; decide; decide; apply QW.v0; rfl; exact WantT.none; apply ValP.addBL; rfl; rfl; decide; apply QW.v0; rfl; exact WantT.none; apply ValP.cutStr; infer_instance; rfl; rfl; rfl; omega; show _ ≤ 16; omega; apply QW.v0; rfl; exact WantT.none; apply ValP.addStr; rfl; rfl; simp; omega; apply QW.v0; rfl; exact WantT.none; apply ValP.assign; rfl; refine QW.nil ?_; refine thenN ?_; refine CW.ret ?_)
  rw [hc1, hc2]
  (apply finR; exact .inl rfl; rfl; rfl; rfl; apply ResL.cons; exact Res.tmp rfl; exact ResL.nil)
  rfl
/-! ### The document's text -/
theorem jn_snoc (x : List UInt8) (R : List (List UInt8)) (y : List UInt8) : jn x (R ++ [y]) = jn x R ++ [32] ++ y := by simp [jn]
theorem joinW_snoc {W : List (List UInt8)} (h : W ≠ []) (y : List UInt8) : joinW (W ++ [y]) = joinW W ++ [32] ++ y := by
  cases W with
  | nil => exact absurd rfl h
  | cons x R => exact jn_snoc x R y
theorem wordsS_place (n : Nat) : ∀ (bs : List UInt8) (p q : Nat), bs.length ≤ n → wordsS (segsAt p bs) = wordsS (segsAt q bs) := by
  induction n with
  | zero =>
    intro bs p q h
    rw [List.eq_nil_of_length_eq_zero (show bs.length = 0 by omega), segsAt_nil, segsAt_nil]
  | succ n ih =>
    intro bs p q h
    cases bs with
    | nil => rw [segsAt_nil, segsAt_nil]
    | cons b r => rw [segsAt_cons, segsAt_cons, wordsS_cons, wordsS_cons, ih _ (p + 1 + szOf b.toNat) (q + 1 + szOf b.toNat) (by simp at h ⊢; omega)]
theorem words_step (bs : List UInt8) (p : Nat) (h : p < bs.length) : wordsS (segsAt 0 (bs.drop p)) = wordsOf (bs.getD p 0) ((bs.drop (p + 1)).take (szOf (bs.getD p 0).toNat)) ++ wordsS (segsAt 0 (bs.drop (p + szOf (bs.getD p 0).toNat + 1))) := by
  rw [wordsS_place _ _ 0 p (Nat.le_refl _), segs_step bs p h, wordsS_cons, wordsS_place _ _ _ 0 (Nat.le_refl _)]
/-- The state between two words: what is told, and (behind the first) the blank. -/
def preW (W : List (List UInt8)) : List UInt8 := if W = [] then [] else joinW W ++ [32]
theorem joinW_pre (W : List (List UInt8)) (y : List UInt8) : joinW (W ++ [y]) = preW W ++ y := by
  unfold preW
  split
  · rename_i h; rw [h]; simp [joinW, jn]
  · rename_i h; exact joinW_snoc h y
structure TX where
  p : Nat
  W : List (List UInt8)
attribute [local irreducible] opOf
theorem rText_calls (bs : List UInt8) (hb : bs.length ≤ 1000) (v : Value) (w : World) (hv : RowAt w 1 v bs.length (ucs bs)) : Calls Tryd.prog 18 #[v] w (Ret w (sv (textL bs))) := by
  obtain ⟨p0, c0, rfl, hc0, hm0⟩ := hv.form
  have htl := segs_sum _ bs 0 (Nat.le_refl _)
  unfold textL
  obtain ⟨T, hT⟩ : ∃ T, wordsL bs = T := ⟨_, rfl⟩
  rw [show wordsS (segsAt 0 bs) = T from hT] at htl
  rw [hT]
  refine enter (args := [_]) _ [] [] Tryd.func18 rfl Tryd.ntmps18 rfl (by simp) .nil ?_
  (refine CW.seq ?_; refine CW.region ?_; apply LW.v0; rfl; rfl; apply ValP.assign; rfl; apply LW.nil; refine thenN ?_; refine CW.seq ?_; refine CW.region ?_; apply LW.v0; rfl; rfl; apply ValP.assign; rfl; apply LW.nil; refine thenN ?_; refine CW.seq ?_; refine CW.seq ?_; refine CW.region ?_; apply LW.v0; rfl; rfl; apply ValP.assign; rfl; apply LW.nil; refine thenN ?_; refine CW.block ?_)
  refine CW.loop (fun x : TX => ([(0, .slice p0 bs.length c0), (3, sv (joinW x.W)), (4, .int .i64 (x.p : Int))], []))
    (fun x => x.W ++ wordsS (segsAt 0 (bs.drop x.p)) = T ∧ x.p ≤ bs.length ∧ (x.W = [] ↔ x.p = 0)) (fun x => bs.length - x.p) ⟨0, []⟩ ⟨by rw [List.drop_zero]; exact hT, Nat.zero_le _, by simp⟩ ⟨rfl, rfl, rfl, trivial⟩ (List.Sublist.refl _) ?_
  rintro ⟨p, W⟩ ⟨hJ, hp, hW0⟩
  dsimp only at hJ hp hW0 ⊢
  have hWl : lenS W ≤ 14 * bs.length := by rw [← hJ, lenS_app] at htl; omega
  have hjl := joinW_le W
  rcases Nat.lt_or_ge p bs.length with hlt | hge
  · obtain ⟨b, off, c', cs, E, fr, heq, hbk, hx⟩ := hv.pos (by omega)
    cases heq
    have hst := words_step bs p hlt
    obtain ⟨u, hu⟩ : ∃ u, bs.getD p 0 = u := ⟨_, rfl⟩
    rw [hu] at hst
    rw [hst] at hJ
    have hrd : Rd Tryd.prog 5 (.cells cs E fr) (off + p * 1) (.int .u8 (u.toNat : Int)) := Rd.elem1 hx (ucs_one bs) (List.getElem?_eq_getElem hlt) (by rw [← hu]; simp [hlt])
    have hub : u.toNat < 256 := u.toNat_lt
    have hOf0 := rOf_calls u.toNat hub
    cases ho : opOf u.toNat with
    | none =>
      rw [ho] at hOf0
      have hz := szOf_none ho
      have hOf : ∀ w, Calls Tryd.prog 12 #[.int .u8 (u.toNat : Int)] w (Ret w (.tuple #[.agg (opc zeroOp), .bool false])) := hOf0
      have hwo : wordsOf u [] = [46 :: hx2 u] := by unfold wordsOf; rw [ho]
      rw [hz, List.take_zero] at hJ
      rcases Nat.eq_zero_or_pos p with hpz | hpz
      · obtain ⟨P, hPe⟩ : ∃ P, joinW W = P := ⟨_, rfl⟩
        have hPl : P.length ≤ 14000 := by rw [← hPe]; omega
        have hp0 : ∀ y, joinW (W ++ [y]) = P ++ y := fun y => by rw [joinW_pre, ← hPe, hW0.2 hpz]; rfl
        have hp1 := hp0 (46 :: hx2 u)
        have hHx := rhex_calls u
        obtain ⟨D, hD⟩ : ∃ D, hx2 u = D := ⟨_, rfl⟩
        have hDl : D.length = 2 := by rw [← hD]; rfl
        rw [hD] at hp1 hHx hwo
        have hp2 : P ++ [46] ++ D = joinW (W ++ [46 :: D]) := by rw [hp1, List.append_assoc]; rfl
        rw [hwo] at hJ
        (refine CW.seq ?_; refine CW.seq ?_; refine CW.region ?_; apply LW.v0; rfl; rfl; apply ValP.move; rfl; apply LW.v0; rfl; rfl; apply ValP.move; rfl; apply LW.v0; rfl; rfl; apply ValP.lenR; rfl; infer_instance; rfl; apply LW.v0; rfl; rfl; apply ValP.lssT; rfl; rfl; omega; apply LW.nil; refine thenN ?_; apply CW.condT; rfl; (with_reducible rfl); refine CW.skip ?_; refine thenN ?_; refine CW.seq ?_; refine CW.block ?_; refine CW.seq ?_; refine CW.seq ?_; refine CW.region ?_; apply LW.v0; rfl; rfl; apply ValP.move; rfl; apply LW.v0; rfl; rfl; apply ValP.gtrF; rfl; rfl; omega; apply LW.nil; refine thenN ?_; apply CW.condF; rfl; (with_reducible rfl); refine CW.skip ?_; refine thenN ?_; refine CW.seq ?_; refine CW.region ?_; apply LW.v0; rfl; rfl; apply ValP.move; rfl; apply LW.v0; rfl; rfl; apply ValP.move; rfl; apply LW.v0; rfl; rfl; apply ValP.indexAddrS; rfl; rfl; rfl; omega; apply LW.load; rfl; rfl; exact Known.ext (by assumption) (by simp); assumption; apply LW.callE; rfl; rfl; infer_instance; apply ArgsOk.cons; rfl; exact ArgsOk.nil; intro w _; exact hOf w; apply LW.v0; rfl; rfl; apply ValP.move; rfl; apply LW.v0; rfl; rfl; apply ValP.extractN; rfl; rfl; apply LW.v0; rfl; rfl; apply ValP.extractN; rfl; rfl; apply LW.allocA; rfl; intro _; apply LW.store; rfl; rfl; apply SetAt.head; apply Wr.whole; rfl; rfl; rfl; apply LW.v0; rfl; rfl; apply ValP.assign; rfl; apply LW.nil; refine thenN ?_; refine CW.seq ?_; refine CW.seq ?_; refine CW.region ?_; apply LW.v0; rfl; rfl; apply ValP.move; rfl; apply LW.v0; rfl; rfl; apply ValP.notF; rfl; (with_reducible rfl); apply LW.nil; refine thenN ?_; apply CW.condT; rfl; (with_reducible rfl); refine CW.seq ?_; refine CW.region ?_; apply LW.v0; rfl; rfl; apply ValP.move; rfl; apply LW.v0; rfl; rfl; apply ValP.addStr; rfl; rfl; simp; omega; apply LW.v0; rfl; rfl; apply ValP.move; rfl; apply LW.v0; rfl; rfl; apply ValP.move; rfl; apply LW.v0; rfl; rfl; apply ValP.indexAddrS; rfl; rfl; rfl; omega; apply LW.load; rfl; rfl; exact Known.ext (by assumption) (by simp); assumption; apply LW.callE; rfl; rfl; infer_instance; apply ArgsOk.cons; rfl; exact ArgsOk.nil; intro w _; exact hHx w; apply LW.v0; rfl; rfl; apply ValP.addStr; rfl; rfl; simp; omega; apply LW.v0; rfl; rfl; apply ValP.assign; rfl; apply LW.nil; refine thenN ?_; refine CW.exit ?_; refine thenE ?_; refine blkE rfl ?_; refine thenN ?_; refine CW.region ?_; apply LW.v0; rfl; rfl; apply ValP.move; rfl; apply LW.v0; rfl; rfl; apply ValP.addZL; rfl; rfl; decide; omega; apply LW.v0; rfl; rfl; apply ValP.assign; rfl; apply LW.nil)
        rw [hPe, hp2]
        apply thenX
        refine ⟨rfl, ⟨p + 1, W ++ [46 :: D]⟩, ⟨by rw [List.append_assoc]; exact hJ, by dsimp only; omega, ?_⟩, by dsimp only; omega, ⟨rfl, rfl, rfl, trivial⟩, by (apply List.Sublist.cons; exact List.Sublist.refl _)⟩
        simp
      · obtain ⟨P, hPe⟩ : ∃ P, joinW W ++ [32] = P := ⟨_, rfl⟩
        have hPl : P.length ≤ 14001 := by rw [← hPe, List.length_append, List.length_singleton]; omega
        have hp0 : ∀ y, joinW (W ++ [y]) = P ++ y := fun y => by rw [joinW_snoc (fun h => by have := hW0.1 h; omega), ← hPe]
        have hp1 := hp0 (46 :: hx2 u)
        have hHx := rhex_calls u
        obtain ⟨D, hD⟩ : ∃ D, hx2 u = D := ⟨_, rfl⟩
        have hDl : D.length = 2 := by rw [← hD]; rfl
        rw [hD] at hp1 hHx hwo
        have hp2 : P ++ [46] ++ D = joinW (W ++ [46 :: D]) := by rw [hp1, List.append_assoc]; rfl
        rw [hwo] at hJ
        (refine CW.seq ?_; refine CW.seq ?_; refine CW.region ?_; apply LW.v0; rfl; rfl; apply ValP.move; rfl; apply LW.v0; rfl; rfl; apply ValP.move; rfl; apply LW.v0; rfl; rfl; apply ValP.lenR; rfl; infer_instance; rfl; apply LW.v0; rfl; rfl; apply ValP.lssT; rfl; rfl; omega; apply LW.nil; refine thenN ?_; apply CW.condT; rfl; (with_reducible rfl); refine CW.skip ?_; refine thenN ?_; refine CW.seq ?_; refine CW.block ?_; refine CW.seq ?_; refine CW.seq ?_; refine CW.region ?_; apply LW.v0; rfl; rfl; apply ValP.move; rfl; apply LW.v0; rfl; rfl; apply ValP.gtrT; rfl; rfl; omega; apply LW.nil; refine thenN ?_; apply CW.condT; rfl; (with_reducible rfl); refine CW.region ?_; apply LW.v0; rfl; rfl; apply ValP.move; rfl; apply LW.v0; rfl; rfl; apply ValP.addStr; rfl; rfl; simp; omega; apply LW.v0; rfl; rfl; apply ValP.assign; rfl; apply LW.nil; refine thenN ?_; refine CW.seq ?_; refine CW.region ?_; apply LW.v0; rfl; rfl; apply ValP.move; rfl; apply LW.v0; rfl; rfl; apply ValP.move; rfl; apply LW.v0; rfl; rfl; apply ValP.indexAddrS; rfl; rfl; rfl; omega; apply LW.load; rfl; rfl; exact Known.ext (by assumption) (by simp); assumption; apply LW.callE; rfl; rfl; infer_instance; apply ArgsOk.cons; rfl; exact ArgsOk.nil; intro w _; exact hOf w; apply LW.v0; rfl; rfl; apply ValP.move; rfl; apply LW.v0; rfl; rfl; apply ValP.extractN; rfl; rfl; apply LW.v0; rfl; rfl; apply ValP.extractN; rfl; rfl; apply LW.allocA; rfl; intro _; apply LW.store; rfl; rfl; apply SetAt.head; apply Wr.whole; rfl; rfl; rfl; apply LW.v0; rfl; rfl; apply ValP.assign; rfl; apply LW.nil; refine thenN ?_; refine CW.seq ?_; refine CW.seq ?_; refine CW.region ?_; apply LW.v0; rfl; rfl; apply ValP.move; rfl; apply LW.v0; rfl; rfl; apply ValP.notF; rfl; (with_reducible rfl); apply LW.nil; refine thenN ?_; apply CW.condT; rfl; (with_reducible rfl); refine CW.seq ?_; refine CW.region ?_; apply LW.v0; rfl; rfl; apply ValP.move; rfl; apply LW.v0; rfl; rfl; apply ValP.addStr; rfl; rfl; simp; omega; apply LW.v0; rfl; rfl; apply ValP.move; rfl; apply LW.v0; rfl; rfl; apply ValP.move; rfl; apply LW.v0; rfl; rfl; apply ValP.indexAddrS; rfl; rfl; rfl; omega; apply LW.load; rfl; rfl; exact Known.ext (by assumption) (by simp); assumption; apply LW.callE; rfl; rfl; infer_instance; apply ArgsOk.cons; rfl; exact ArgsOk.nil; intro w _; exact hHx w; apply LW.v0; rfl; rfl; apply ValP.addStr; rfl; rfl; simp; omega; apply LW.v0; rfl; rfl; apply ValP.assign; rfl; apply LW.nil; refine thenN ?_; refine CW.exit ?_; refine thenE ?_; refine blkE rfl ?_; refine thenN ?_; refine CW.region ?_; apply LW.v0; rfl; rfl; apply ValP.move; rfl; apply LW.v0; rfl; rfl; apply ValP.addZL; rfl; rfl; decide; omega; apply LW.v0; rfl; rfl; apply ValP.assign; rfl; apply LW.nil)
        rw [hPe, hp2]
        apply thenX
        refine ⟨rfl, ⟨p + 1, W ++ [46 :: D]⟩, ⟨by rw [List.append_assoc]; exact hJ, by dsimp only; omega, ?_⟩, by dsimp only; omega, ⟨rfl, rfl, rfl, trivial⟩, by (apply List.Sublist.cons; exact List.Sublist.refl _)⟩
        simp
    | some y =>
      rw [ho] at hOf0
      have hz := szOf_some ho
      have hyl := (opAt_nm_some hub ho).2
      have hdl := opOf_dt ho
      have hOf : ∀ w, Calls Tryd.prog 12 #[.int .u8 (u.toNat : Int)] w (Ret w (.tuple #[.agg (opc y), .bool true])) := hOf0
      rcases Nat.eq_zero_or_pos y.dt with hd0 | hd0
      · rcases Nat.eq_zero_or_pos p with hpz | hpz
        · obtain ⟨P, hPe⟩ : ∃ P, joinW W = P := ⟨_, rfl⟩
          have hPl : P.length ≤ 14000 := by rw [← hPe]; omega
          have hp0 : ∀ y, joinW (W ++ [y]) = P ++ y := fun y => by rw [joinW_pre, ← hPe, hW0.2 hpz]; rfl
          have hwo : wordsOf u ((bs.drop (p + 1)).take (szOf u.toNat)) = [y.nm] := by unfold wordsOf; rw [ho]; exact if_neg (by omega)
          rw [hwo, hz, hd0] at hJ
          have hp1 := hp0 y.nm
          (refine CW.seq ?_; refine CW.seq ?_; refine CW.region ?_; apply LW.v0; rfl; rfl; apply ValP.move; rfl; apply LW.v0; rfl; rfl; apply ValP.move; rfl; apply LW.v0; rfl; rfl; apply ValP.lenR; rfl; infer_instance; rfl; apply LW.v0; rfl; rfl; apply ValP.lssT; rfl; rfl; omega; apply LW.nil; refine thenN ?_; apply CW.condT; rfl; (with_reducible rfl); refine CW.skip ?_; refine thenN ?_; refine CW.seq ?_; refine CW.block ?_; refine CW.seq ?_; refine CW.seq ?_; refine CW.region ?_; apply LW.v0; rfl; rfl; apply ValP.move; rfl; apply LW.v0; rfl; rfl; apply ValP.gtrF; rfl; rfl; omega; apply LW.nil; refine thenN ?_; apply CW.condF; rfl; (with_reducible rfl); refine CW.skip ?_; refine thenN ?_; refine CW.seq ?_; refine CW.region ?_; apply LW.v0; rfl; rfl; apply ValP.move; rfl; apply LW.v0; rfl; rfl; apply ValP.move; rfl; apply LW.v0; rfl; rfl; apply ValP.indexAddrS; rfl; rfl; rfl; omega; apply LW.load; rfl; rfl; exact Known.ext (by assumption) (by simp); assumption; apply LW.callE; rfl; rfl; infer_instance; apply ArgsOk.cons; rfl; exact ArgsOk.nil; intro w _; exact hOf w; apply LW.v0; rfl; rfl; apply ValP.move; rfl; apply LW.v0; rfl; rfl; apply ValP.extractN; rfl; rfl; apply LW.v0; rfl; rfl; apply ValP.extractN; rfl; rfl; apply LW.allocA; rfl; intro _; apply LW.store; rfl; rfl; apply SetAt.head; apply Wr.whole; rfl; rfl; rfl; apply LW.v0; rfl; rfl; apply ValP.assign; rfl; apply LW.nil; refine thenN ?_; refine CW.seq ?_; refine CW.seq ?_; refine CW.region ?_; apply LW.v0; rfl; rfl; apply ValP.move; rfl; apply LW.v0; rfl; rfl; apply ValP.notT; rfl; (with_reducible rfl); apply LW.nil; refine thenN ?_; apply CW.condF; rfl; (with_reducible rfl); refine CW.skip ?_; refine thenN ?_; refine CW.seq ?_; refine CW.region ?_; apply LW.v0; rfl; rfl; apply ValP.move; rfl; apply LW.v0; rfl; rfl; apply ValP.fieldAddr; rfl; rfl; apply LW.load; rfl; rfl; apply Known.at; apply FsAt.head; exact Rd.one' rfl; apply LW.v0; rfl; rfl; apply ValP.addStr; rfl; rfl; omega; apply LW.v0; rfl; rfl; apply ValP.assign; rfl; apply LW.nil; refine thenN ?_; refine CW.seq ?_; refine CW.seq ?_; refine CW.region ?_; apply LW.v0; rfl; rfl; apply ValP.fieldAddr; rfl; rfl; apply LW.load; rfl; rfl; apply Known.at; apply FsAt.head; exact Rd.one' rfl; apply LW.v0; rfl; rfl; apply ValP.gtrF; rfl; rfl; omega; apply LW.nil; refine thenN ?_; apply CW.condF; rfl; (with_reducible rfl); refine CW.skip ?_; refine thenN ?_; refine CW.seq ?_; refine CW.region ?_; apply LW.v0; rfl; rfl; apply ValP.assign; rfl; apply LW.nil; refine thenN ?_; refine CW.block ?_)
          apply CW.rounds 1
          (apply RW.step; refine CW.seq ?_; refine CW.seq ?_; refine CW.region ?_; apply LW.v0; rfl; rfl; apply ValP.move; rfl; apply LW.v0; rfl; rfl; apply ValP.fieldAddr; rfl; rfl; apply LW.load; rfl; rfl; apply Known.at; apply FsAt.head; exact Rd.one' rfl; apply LW.v0; rfl; rfl; apply ValP.lssF; rfl; rfl; omega; apply LW.v0; rfl; rfl; apply ValP.move; rfl; apply LW.guardF'; rfl; rfl; simp only [Bool.not_true, Bool.not_false]; rfl; apply LW.guardF'; rfl; rfl; simp only [Bool.not_true, Bool.not_false]; rfl; apply LW.guardF'; rfl; rfl; simp only [Bool.not_true, Bool.not_false]; rfl; apply LW.guardF'; rfl; rfl; simp only [Bool.not_true, Bool.not_false]; rfl; apply LW.guardF'; rfl; rfl; simp only [Bool.not_true, Bool.not_false]; rfl; apply LW.v0; rfl; rfl; apply ValP.pickF'; rfl; (with_reducible rfl); rfl; apply LW.nil; refine thenN ?_; apply CW.condF; rfl; (with_reducible rfl); refine CW.exit ?_; refine thenE ?_; refine thenE ?_; refine blkE rfl ?_; refine blkN ?_; refine thenN ?_; refine CW.region ?_; apply LW.v0; rfl; rfl; apply ValP.move; rfl; apply LW.v0; rfl; rfl; apply ValP.addZL; rfl; rfl; decide; omega; apply LW.v0; rfl; rfl; apply ValP.assign; rfl; apply LW.nil)
          rw [hPe, ← hp1]
          apply thenX
          refine ⟨rfl, ⟨p + 1, W ++ [y.nm]⟩, ⟨by rw [List.append_assoc]; exact hJ, by dsimp only; omega, ?_⟩, by dsimp only; omega, ⟨rfl, rfl, rfl, trivial⟩, by (apply List.Sublist.cons; exact List.Sublist.refl _)⟩
          simp
        · obtain ⟨P, hPe⟩ : ∃ P, joinW W ++ [32] = P := ⟨_, rfl⟩
          have hPl : P.length ≤ 14001 := by rw [← hPe, List.length_append, List.length_singleton]; omega
          have hp0 : ∀ y, joinW (W ++ [y]) = P ++ y := fun y => by rw [joinW_snoc (fun h => by have := hW0.1 h; omega), ← hPe]
          have hwo : wordsOf u ((bs.drop (p + 1)).take (szOf u.toNat)) = [y.nm] := by unfold wordsOf; rw [ho]; exact if_neg (by omega)
          rw [hwo, hz, hd0] at hJ
          have hp1 := hp0 y.nm
          (refine CW.seq ?_; refine CW.seq ?_; refine CW.region ?_; apply LW.v0; rfl; rfl; apply ValP.move; rfl; apply LW.v0; rfl; rfl; apply ValP.move; rfl; apply LW.v0; rfl; rfl; apply ValP.lenR; rfl; infer_instance; rfl; apply LW.v0; rfl; rfl; apply ValP.lssT; rfl; rfl; omega; apply LW.nil; refine thenN ?_; apply CW.condT; rfl; (with_reducible rfl); refine CW.skip ?_; refine thenN ?_; refine CW.seq ?_; refine CW.block ?_; refine CW.seq ?_; refine CW.seq ?_; refine CW.region ?_; apply LW.v0; rfl; rfl; apply ValP.move; rfl; apply LW.v0; rfl; rfl; apply ValP.gtrT; rfl; rfl; omega; apply LW.nil; refine thenN ?_; apply CW.condT; rfl; (with_reducible rfl); refine CW.region ?_; apply LW.v0; rfl; rfl; apply ValP.move; rfl; apply LW.v0; rfl; rfl; apply ValP.addStr; rfl; rfl; simp; omega; apply LW.v0; rfl; rfl; apply ValP.assign; rfl; apply LW.nil; refine thenN ?_; refine CW.seq ?_; refine CW.region ?_; apply LW.v0; rfl; rfl; apply ValP.move; rfl; apply LW.v0; rfl; rfl; apply ValP.move; rfl; apply LW.v0; rfl; rfl; apply ValP.indexAddrS; rfl; rfl; rfl; omega; apply LW.load; rfl; rfl; exact Known.ext (by assumption) (by simp); assumption; apply LW.callE; rfl; rfl; infer_instance; apply ArgsOk.cons; rfl; exact ArgsOk.nil; intro w _; exact hOf w; apply LW.v0; rfl; rfl; apply ValP.move; rfl; apply LW.v0; rfl; rfl; apply ValP.extractN; rfl; rfl; apply LW.v0; rfl; rfl; apply ValP.extractN; rfl; rfl; apply LW.allocA; rfl; intro _; apply LW.store; rfl; rfl; apply SetAt.head; apply Wr.whole; rfl; rfl; rfl; apply LW.v0; rfl; rfl; apply ValP.assign; rfl; apply LW.nil; refine thenN ?_; refine CW.seq ?_; refine CW.seq ?_; refine CW.region ?_; apply LW.v0; rfl; rfl; apply ValP.move; rfl; apply LW.v0; rfl; rfl; apply ValP.notT; rfl; (with_reducible rfl); apply LW.nil; refine thenN ?_; apply CW.condF; rfl; (with_reducible rfl); refine CW.skip ?_; refine thenN ?_; refine CW.seq ?_; refine CW.region ?_; apply LW.v0; rfl; rfl; apply ValP.move; rfl; apply LW.v0; rfl; rfl; apply ValP.fieldAddr; rfl; rfl; apply LW.load; rfl; rfl; apply Known.at; apply FsAt.head; exact Rd.one' rfl; apply LW.v0; rfl; rfl; apply ValP.addStr; rfl; rfl; simp; omega; apply LW.v0; rfl; rfl; apply ValP.assign; rfl; apply LW.nil; refine thenN ?_; refine CW.seq ?_; refine CW.seq ?_; refine CW.region ?_; apply LW.v0; rfl; rfl; apply ValP.fieldAddr; rfl; rfl; apply LW.load; rfl; rfl; apply Known.at; apply FsAt.head; exact Rd.one' rfl; apply LW.v0; rfl; rfl; apply ValP.gtrF; rfl; rfl; omega; apply LW.nil; refine thenN ?_; apply CW.condF; rfl; (with_reducible rfl); refine CW.skip ?_; refine thenN ?_; refine CW.seq ?_; refine CW.region ?_; apply LW.v0; rfl; rfl; apply ValP.assign; rfl; apply LW.nil; refine thenN ?_; refine CW.block ?_)
          apply CW.rounds 1
          (apply RW.step; refine CW.seq ?_; refine CW.seq ?_; refine CW.region ?_; apply LW.v0; rfl; rfl; apply ValP.move; rfl; apply LW.v0; rfl; rfl; apply ValP.fieldAddr; rfl; rfl; apply LW.load; rfl; rfl; apply Known.at; apply FsAt.head; exact Rd.one' rfl; apply LW.v0; rfl; rfl; apply ValP.lssF; rfl; rfl; omega; apply LW.v0; rfl; rfl; apply ValP.move; rfl; apply LW.guardF'; rfl; rfl; simp only [Bool.not_true, Bool.not_false]; rfl; apply LW.guardF'; rfl; rfl; simp only [Bool.not_true, Bool.not_false]; rfl; apply LW.guardF'; rfl; rfl; simp only [Bool.not_true, Bool.not_false]; rfl; apply LW.guardF'; rfl; rfl; simp only [Bool.not_true, Bool.not_false]; rfl; apply LW.guardF'; rfl; rfl; simp only [Bool.not_true, Bool.not_false]; rfl; apply LW.v0; rfl; rfl; apply ValP.pickF'; rfl; (with_reducible rfl); rfl; apply LW.nil; refine thenN ?_; apply CW.condF; rfl; (with_reducible rfl); refine CW.exit ?_; refine thenE ?_; refine thenE ?_; refine blkE rfl ?_; refine blkN ?_; refine thenN ?_; refine CW.region ?_; apply LW.v0; rfl; rfl; apply ValP.move; rfl; apply LW.v0; rfl; rfl; apply ValP.addZL; rfl; rfl; decide; omega; apply LW.v0; rfl; rfl; apply ValP.assign; rfl; apply LW.nil)
          rw [hPe, ← hp1]
          apply thenX
          refine ⟨rfl, ⟨p + 1, W ++ [y.nm]⟩, ⟨by rw [List.append_assoc]; exact hJ, by dsimp only; omega, ?_⟩, by dsimp only; omega, ⟨rfl, rfl, rfl, trivial⟩, by (apply List.Sublist.cons; exact List.Sublist.refl _)⟩
          simp
      · rcases Nat.eq_zero_or_pos p with hpz | hpz
        · obtain ⟨P, hPe⟩ : ∃ P, joinW W = P := ⟨_, rfl⟩
          have hPl : P.length ≤ 14000 := by rw [← hPe]; omega
          have hp0 : ∀ y, joinW (W ++ [y]) = P ++ y := fun y => by rw [joinW_pre, ← hPe, hW0.2 hpz]; rfl
          obtain ⟨D, hD⟩ : ∃ D, (bs.drop (p + 1)).take (szOf u.toNat) = D := ⟨_, rfl⟩
          have hwo : wordsOf u D = [y.nm, hxs D] := by unfold wordsOf; rw [ho]; exact if_pos (by omega)
          have hDl : D.length = min y.dt (bs.length - (p + 1)) := by rw [← hD, hz, List.length_take, List.length_drop]
          rw [hD, hwo] at hJ
          (refine CW.seq ?_; refine CW.seq ?_; refine CW.region ?_; apply LW.v0; rfl; rfl; apply ValP.move; rfl; apply LW.v0; rfl; rfl; apply ValP.move; rfl; apply LW.v0; rfl; rfl; apply ValP.lenR; rfl; infer_instance; rfl; apply LW.v0; rfl; rfl; apply ValP.lssT; rfl; rfl; omega; apply LW.nil; refine thenN ?_; apply CW.condT; rfl; (with_reducible rfl); refine CW.skip ?_; refine thenN ?_; refine CW.seq ?_; refine CW.block ?_; refine CW.seq ?_; refine CW.seq ?_; refine CW.region ?_; apply LW.v0; rfl; rfl; apply ValP.move; rfl; apply LW.v0; rfl; rfl; apply ValP.gtrF; rfl; rfl; omega; apply LW.nil; refine thenN ?_; apply CW.condF; rfl; (with_reducible rfl); refine CW.skip ?_; refine thenN ?_; refine CW.seq ?_; refine CW.region ?_; apply LW.v0; rfl; rfl; apply ValP.move; rfl; apply LW.v0; rfl; rfl; apply ValP.move; rfl; apply LW.v0; rfl; rfl; apply ValP.indexAddrS; rfl; rfl; rfl; omega; apply LW.load; rfl; rfl; exact Known.ext (by assumption) (by simp); assumption; apply LW.callE; rfl; rfl; infer_instance; apply ArgsOk.cons; rfl; exact ArgsOk.nil; intro w _; exact hOf w; apply LW.v0; rfl; rfl; apply ValP.move; rfl; apply LW.v0; rfl; rfl; apply ValP.extractN; rfl; rfl; apply LW.v0; rfl; rfl; apply ValP.extractN; rfl; rfl; apply LW.allocA; rfl; intro _; apply LW.store; rfl; rfl; apply SetAt.head; apply Wr.whole; rfl; rfl; rfl; apply LW.v0; rfl; rfl; apply ValP.assign; rfl; apply LW.nil; refine thenN ?_; refine CW.seq ?_; refine CW.seq ?_; refine CW.region ?_; apply LW.v0; rfl; rfl; apply ValP.move; rfl; apply LW.v0; rfl; rfl; apply ValP.notT; rfl; (with_reducible rfl); apply LW.nil; refine thenN ?_; apply CW.condF; rfl; (with_reducible rfl); refine CW.skip ?_; refine thenN ?_; refine CW.seq ?_; refine CW.region ?_; apply LW.v0; rfl; rfl; apply ValP.move; rfl; apply LW.v0; rfl; rfl; apply ValP.fieldAddr; rfl; rfl; apply LW.load; rfl; rfl; apply Known.at; apply FsAt.head; exact Rd.one' rfl; apply LW.v0; rfl; rfl; apply ValP.addStr; rfl; rfl; omega; apply LW.v0; rfl; rfl; apply ValP.assign; rfl; apply LW.nil; refine thenN ?_; refine CW.seq ?_; refine CW.seq ?_; refine CW.region ?_; apply LW.v0; rfl; rfl; apply ValP.fieldAddr; rfl; rfl; apply LW.load; rfl; rfl; apply Known.at; apply FsAt.head; exact Rd.one' rfl; apply LW.v0; rfl; rfl; apply ValP.gtrT; rfl; rfl; omega; apply LW.nil; refine thenN ?_; apply CW.condT; rfl; (with_reducible rfl); refine CW.region ?_; apply LW.v0; rfl; rfl; apply ValP.move; rfl; apply LW.v0; rfl; rfl; apply ValP.addStr; rfl; rfl; simp; omega; apply LW.v0; rfl; rfl; apply ValP.assign; rfl; apply LW.nil; refine thenN ?_; refine CW.seq ?_; refine CW.region ?_; apply LW.v0; rfl; rfl; apply ValP.assign; rfl; apply LW.nil; refine thenN ?_; refine CW.block ?_)
          rw [hPe]
          obtain ⟨B, hB⟩ : ∃ B, P ++ y.nm ++ [32] = B := ⟨_, rfl⟩
          have hBl : B.length ≤ 20000 := by rw [← hB, List.length_append, List.length_append, List.length_singleton]; omega
          rw [hB]
          rename_i b5
          refine CW.loop (fun k : Nat => ([(0, .slice (some ⟨b, off, none⟩) bs.length c0), (3, sv (B ++ hxs (D.take k))), (4, .int .i64 ((p + k : Nat) : Int)), (5, .pointer (some ⟨b5, 0, none⟩)), (7, .int .i64 (k : Int))], [(b5, .cells (opc y) 24 (0, 0))]))
            (fun k => k ≤ D.length) (fun k => D.length - k) 0 (Nat.zero_le _) ⟨rfl, (by rw [List.take_zero]; show _ = some (sv (B ++ [])); rw [List.append_nil]; rfl), rfl, rfl, rfl, trivial⟩ (List.Sublist.refl _) ?_
          intro k hk
          dsimp only
          have hxl := hxs_len (D.take k)
          rw [List.length_take] at hxl
          rcases Nat.lt_or_ge k D.length with hkl | hkl
          · obtain ⟨z, hz2⟩ : ∃ z, D[k] = z := ⟨_, rfl⟩
            have hgz : bs[p + k + 1]? = some z := by
              have h1 : D[k]? = some z := by rw [List.getElem?_eq_getElem hkl, hz2]
              rw [← hD, List.getElem?_take] at h1
              split at h1
              · rw [List.getElem?_drop] at h1; rw [show p + k + 1 = p + 1 + k by omega]; exact h1
              · cases h1
            have hrd2 : Rd Tryd.prog 5 (.cells cs E fr) (off + (p + k + 1) * 1) (.int .u8 (z.toNat : Int)) := Rd.elem1 hx (ucs_one bs) hgz rfl
            have hHx := rhex_calls z
            have hst := hxs_snoc (D.take k) z
            have hst2 : B ++ hxs (D.take k) ++ hx2 z = B ++ hxs (D.take (k + 1)) := by
              rw [List.take_succ_eq_append_getElem hkl, hz2, hst, List.append_assoc]; simp [hx2]
            obtain ⟨Z, hZ⟩ : ∃ Z, hx2 z = Z := ⟨_, rfl⟩
            have hZl : Z.length = 2 := by rw [← hZ]; rfl
            rw [hZ] at hHx hst2
            (refine CW.seq ?_; refine CW.seq ?_; refine CW.region ?_; apply LW.v0; rfl; rfl; apply ValP.move; rfl; apply LW.v0; rfl; rfl; apply ValP.fieldAddr; rfl; rfl; apply LW.load; rfl; rfl; apply Known.at; apply FsAt.head; exact Rd.one' rfl; apply LW.v0; rfl; rfl; apply ValP.lssT; rfl; rfl; omega; apply LW.v0; rfl; rfl; apply ValP.move; rfl; apply LW.guardT'; rfl; rfl; (with_reducible rfl); apply LW.v0; rfl; rfl; apply ValP.move; rfl; apply LW.guardT'; rfl; rfl; (with_reducible rfl); apply LW.v0; rfl; rfl; apply ValP.addZL; rfl; rfl; decide; omega; apply LW.guardT'; rfl; rfl; (with_reducible rfl); apply LW.v0; rfl; rfl; apply ValP.move; rfl; apply LW.guardT'; rfl; rfl; (with_reducible rfl); apply LW.v0; rfl; rfl; apply ValP.lenR; rfl; infer_instance; rfl; apply LW.guardT'; rfl; rfl; (with_reducible rfl); apply LW.v0; rfl; rfl; apply ValP.lssT; rfl; rfl; omega; apply LW.v0; rfl; rfl; apply ValP.pickT'; rfl; (with_reducible rfl); rfl; apply LW.nil; refine thenN ?_; apply CW.condT; rfl; (with_reducible rfl); refine CW.skip ?_; refine thenN ?_; refine CW.seq ?_; refine CW.block ?_; refine CW.seq ?_; refine CW.region ?_; apply LW.v0; rfl; rfl; apply ValP.move; rfl; apply LW.v0; rfl; rfl; apply ValP.addZL; rfl; rfl; decide; omega; apply LW.v0; rfl; rfl; apply ValP.assign; rfl; apply LW.nil; refine thenN ?_; refine CW.region ?_; apply LW.v0; rfl; rfl; apply ValP.move; rfl; apply LW.v0; rfl; rfl; apply ValP.move; rfl; apply LW.v0; rfl; rfl; apply ValP.move; rfl; apply LW.v0; rfl; rfl; apply ValP.indexAddrS; rfl; rfl; rfl; omega; apply LW.load; rfl; rfl; exact Known.ext (by assumption) (by simp); assumption; apply LW.callE; rfl; rfl; infer_instance; apply ArgsOk.cons; rfl; exact ArgsOk.nil; intro w _; exact hHx w; apply LW.v0; rfl; rfl; apply ValP.addStr; rfl; rfl; simp; omega; apply LW.v0; rfl; rfl; apply ValP.assign; rfl; apply LW.nil; refine blkN ?_; refine thenN ?_; refine CW.region ?_; apply LW.v0; rfl; rfl; apply ValP.move; rfl; apply LW.v0; rfl; rfl; apply ValP.addZL; rfl; rfl; decide; omega; apply LW.v0; rfl; rfl; apply ValP.assign; rfl; apply LW.nil)
            rw [hst2]
            apply thenX
            exact ⟨rfl, k + 1, hkl, by omega, ⟨rfl, rfl, rfl, rfl, rfl, trivial⟩, List.Sublist.refl _⟩
          · obtain rfl : k = D.length := by omega
            rw [List.take_length]
            have hend : ¬ (D.length < y.dt ∧ p + D.length + 1 < bs.length) := by omega
            have hfin : B ++ hxs D = joinW (W ++ [y.nm, hxs D]) := by
              rw [show W ++ [y.nm, hxs D] = (W ++ [y.nm]) ++ [hxs D] by simp, joinW_snoc (by simp), hp0, ← hB]
            have hnext : wordsS (segsAt 0 (bs.drop (p + D.length + 1))) = wordsS (segsAt 0 (bs.drop (p + szOf u.toNat + 1))) := by
              rcases Nat.lt_or_ge D.length y.dt with h | h
              · rw [List.drop_eq_nil_of_le (show bs.length ≤ p + D.length + 1 by omega), List.drop_eq_nil_of_le (by omega)]
              · rw [show D.length = szOf u.toNat by omega]
            rcases Nat.lt_or_ge D.length y.dt with hlt2 | hge2
            · (refine CW.seq ?_; refine CW.seq ?_; refine CW.region ?_; apply LW.v0; rfl; rfl; apply ValP.move; rfl; apply LW.v0; rfl; rfl; apply ValP.fieldAddr; rfl; rfl; apply LW.load; rfl; rfl; apply Known.at; apply FsAt.head; exact Rd.one' rfl; apply LW.v0; rfl; rfl; apply ValP.lssT; rfl; rfl; omega; apply LW.v0; rfl; rfl; apply ValP.move; rfl; apply LW.guardT'; rfl; rfl; (with_reducible rfl); apply LW.v0; rfl; rfl; apply ValP.move; rfl; apply LW.guardT'; rfl; rfl; (with_reducible rfl); apply LW.v0; rfl; rfl; apply ValP.addZL; rfl; rfl; decide; omega; apply LW.guardT'; rfl; rfl; (with_reducible rfl); apply LW.v0; rfl; rfl; apply ValP.move; rfl; apply LW.guardT'; rfl; rfl; (with_reducible rfl); apply LW.v0; rfl; rfl; apply ValP.lenR; rfl; infer_instance; rfl; apply LW.guardT'; rfl; rfl; (with_reducible rfl); apply LW.v0; rfl; rfl; apply ValP.lssF; rfl; rfl; omega; apply LW.v0; rfl; rfl; apply ValP.pickT'; rfl; (with_reducible rfl); rfl; apply LW.nil; refine thenN ?_; apply CW.condF; rfl; (with_reducible rfl); refine CW.exit ?_; refine thenE ?_; refine thenE ?_; refine blkE rfl ?_; refine blkN ?_; refine thenN ?_; refine CW.region ?_; apply LW.v0; rfl; rfl; apply ValP.move; rfl; apply LW.v0; rfl; rfl; apply ValP.addZL; rfl; rfl; decide; omega; apply LW.v0; rfl; rfl; apply ValP.assign; rfl; apply LW.nil)
              rw [hfin]
              apply thenX
              refine ⟨rfl, ⟨p + D.length + 1, W ++ [y.nm, hxs D]⟩, ⟨by dsimp only; rw [List.append_assoc, hnext]; exact hJ, by dsimp only; omega, by simp⟩, by dsimp only; omega, ⟨rfl, rfl, rfl, trivial⟩, by (apply List.Sublist.cons; exact List.Sublist.refl _)⟩
            · (refine CW.seq ?_; refine CW.seq ?_; refine CW.region ?_; apply LW.v0; rfl; rfl; apply ValP.move; rfl; apply LW.v0; rfl; rfl; apply ValP.fieldAddr; rfl; rfl; apply LW.load; rfl; rfl; apply Known.at; apply FsAt.head; exact Rd.one' rfl; apply LW.v0; rfl; rfl; apply ValP.lssF; rfl; rfl; omega; apply LW.v0; rfl; rfl; apply ValP.move; rfl; apply LW.guardF'; rfl; rfl; simp only [Bool.not_true, Bool.not_false]; rfl; apply LW.guardF'; rfl; rfl; simp only [Bool.not_true, Bool.not_false]; rfl; apply LW.guardF'; rfl; rfl; simp only [Bool.not_true, Bool.not_false]; rfl; apply LW.guardF'; rfl; rfl; simp only [Bool.not_true, Bool.not_false]; rfl; apply LW.guardF'; rfl; rfl; simp only [Bool.not_true, Bool.not_false]; rfl; apply LW.v0; rfl; rfl; apply ValP.pickF'; rfl; (with_reducible rfl); rfl; apply LW.nil; refine thenN ?_; apply CW.condF; rfl; (with_reducible rfl); refine CW.exit ?_; refine thenE ?_; refine thenE ?_; refine blkE rfl ?_; refine blkN ?_; refine thenN ?_; refine CW.region ?_; apply LW.v0; rfl; rfl; apply ValP.move; rfl; apply LW.v0; rfl; rfl; apply ValP.addZL; rfl; rfl; decide; omega; apply LW.v0; rfl; rfl; apply ValP.assign; rfl; apply LW.nil)
              rw [hfin]
              apply thenX
              refine ⟨rfl, ⟨p + D.length + 1, W ++ [y.nm, hxs D]⟩, ⟨by dsimp only; rw [List.append_assoc, hnext]; exact hJ, by dsimp only; omega, by simp⟩, by dsimp only; omega, ⟨rfl, rfl, rfl, trivial⟩, by (apply List.Sublist.cons; exact List.Sublist.refl _)⟩
        · obtain ⟨P, hPe⟩ : ∃ P, joinW W ++ [32] = P := ⟨_, rfl⟩
          have hPl : P.length ≤ 14001 := by rw [← hPe, List.length_append, List.length_singleton]; omega
          have hp0 : ∀ y, joinW (W ++ [y]) = P ++ y := fun y => by rw [joinW_snoc (fun h => by have := hW0.1 h; omega), ← hPe]
          obtain ⟨D, hD⟩ : ∃ D, (bs.drop (p + 1)).take (szOf u.toNat) = D := ⟨_, rfl⟩
          have hwo : wordsOf u D = [y.nm, hxs D] := by unfold wordsOf; rw [ho]; exact if_pos (by omega)
          have hDl : D.length = min y.dt (bs.length - (p + 1)) := by rw [← hD, hz, List.length_take, List.length_drop]
          rw [hD, hwo] at hJ
          (refine CW.seq ?_; refine CW.seq ?_; refine CW.region ?_; apply LW.v0; rfl; rfl; apply ValP.move; rfl; apply LW.v0; rfl; rfl; apply ValP.move; rfl; apply LW.v0; rfl; rfl; apply ValP.lenR; rfl; infer_instance; rfl; apply LW.v0; rfl; rfl; apply ValP.lssT; rfl; rfl; omega; apply LW.nil; refine thenN ?_; apply CW.condT; rfl; (with_reducible rfl); refine CW.skip ?_; refine thenN ?_; refine CW.seq ?_; refine CW.block ?_; refine CW.seq ?_; refine CW.seq ?_; refine CW.region ?_; apply LW.v0; rfl; rfl; apply ValP.move; rfl; apply LW.v0; rfl; rfl; apply ValP.gtrT; rfl; rfl; omega; apply LW.nil; refine thenN ?_; apply CW.condT; rfl; (with_reducible rfl); refine CW.region ?_; apply LW.v0; rfl; rfl; apply ValP.move; rfl; apply LW.v0; rfl; rfl; apply ValP.addStr; rfl; rfl; simp; omega; apply LW.v0; rfl; rfl; apply ValP.assign; rfl; apply LW.nil; refine thenN ?_; refine CW.seq ?_; refine CW.region ?_; apply LW.v0; rfl; rfl; apply ValP.move; rfl; apply LW.v0; rfl; rfl; apply ValP.move; rfl; apply LW.v0; rfl; rfl; apply ValP.indexAddrS; rfl; rfl; rfl; omega; apply LW.load; rfl; rfl; exact Known.ext (by assumption) (by simp); assumption; apply LW.callE; rfl; rfl; infer_instance; apply ArgsOk.cons; rfl; exact ArgsOk.nil; intro w _; exact hOf w; apply LW.v0; rfl; rfl; apply ValP.move; rfl; apply LW.v0; rfl; rfl; apply ValP.extractN; rfl; rfl; apply LW.v0; rfl; rfl; apply ValP.extractN; rfl; rfl; apply LW.allocA; rfl; intro _; apply LW.store; rfl; rfl; apply SetAt.head; apply Wr.whole; rfl; rfl; rfl; apply LW.v0; rfl; rfl; apply ValP.assign; rfl; apply LW.nil; refine thenN ?_; refine CW.seq ?_; refine CW.seq ?_; refine CW.region ?_; apply LW.v0; rfl; rfl; apply ValP.move; rfl; apply LW.v0; rfl; rfl; apply ValP.notT; rfl; (with_reducible rfl); apply LW.nil; refine thenN ?_; apply CW.condF; rfl; (with_reducible rfl); refine CW.skip ?_; refine thenN ?_; refine CW.seq ?_; refine CW.region ?_; apply LW.v0; rfl; rfl; apply ValP.move; rfl; apply LW.v0; rfl; rfl; apply ValP.fieldAddr; rfl; rfl; apply LW.load; rfl; rfl; apply Known.at; apply FsAt.head; exact Rd.one' rfl; apply LW.v0; rfl; rfl; apply ValP.addStr; rfl; rfl; simp; omega; apply LW.v0; rfl; rfl; apply ValP.assign; rfl; apply LW.nil; refine thenN ?_; refine CW.seq ?_; refine CW.seq ?_; refine CW.region ?_; apply LW.v0; rfl; rfl; apply ValP.fieldAddr; rfl; rfl; apply LW.load; rfl; rfl; apply Known.at; apply FsAt.head; exact Rd.one' rfl; apply LW.v0; rfl; rfl; apply ValP.gtrT; rfl; rfl; omega; apply LW.nil; refine thenN ?_; apply CW.condT; rfl; (with_reducible rfl); refine CW.region ?_; apply LW.v0; rfl; rfl; apply ValP.move; rfl; apply LW.v0; rfl; rfl; apply ValP.addStr; rfl; rfl; simp; omega; apply LW.v0; rfl; rfl; apply ValP.assign; rfl; apply LW.nil; refine thenN ?_; refine CW.seq ?_; refine CW.region ?_; apply LW.v0; rfl; rfl; apply ValP.assign; rfl; apply LW.nil; refine thenN ?_; refine CW.block ?_)
          rw [hPe]
          obtain ⟨B, hB⟩ : ∃ B, P ++ y.nm ++ [32] = B := ⟨_, rfl⟩
          have hBl : B.length ≤ 20000 := by rw [← hB, List.length_append, List.length_append, List.length_singleton]; omega
          rw [hB]
          rename_i b5
          refine CW.loop (fun k : Nat => ([(0, .slice (some ⟨b, off, none⟩) bs.length c0), (3, sv (B ++ hxs (D.take k))), (4, .int .i64 ((p + k : Nat) : Int)), (5, .pointer (some ⟨b5, 0, none⟩)), (7, .int .i64 (k : Int))], [(b5, .cells (opc y) 24 (0, 0))]))
            (fun k => k ≤ D.length) (fun k => D.length - k) 0 (Nat.zero_le _) ⟨rfl, (by rw [List.take_zero]; show _ = some (sv (B ++ [])); rw [List.append_nil]; rfl), rfl, rfl, rfl, trivial⟩ (List.Sublist.refl _) ?_
          intro k hk
          dsimp only
          have hxl := hxs_len (D.take k)
          rw [List.length_take] at hxl
          rcases Nat.lt_or_ge k D.length with hkl | hkl
          · obtain ⟨z, hz2⟩ : ∃ z, D[k] = z := ⟨_, rfl⟩
            have hgz : bs[p + k + 1]? = some z := by
              have h1 : D[k]? = some z := by rw [List.getElem?_eq_getElem hkl, hz2]
              rw [← hD, List.getElem?_take] at h1
              split at h1
              · rw [List.getElem?_drop] at h1; rw [show p + k + 1 = p + 1 + k by omega]; exact h1
              · cases h1
            have hrd2 : Rd Tryd.prog 5 (.cells cs E fr) (off + (p + k + 1) * 1) (.int .u8 (z.toNat : Int)) := Rd.elem1 hx (ucs_one bs) hgz rfl
            have hHx := rhex_calls z
            have hst := hxs_snoc (D.take k) z
            have hst2 : B ++ hxs (D.take k) ++ hx2 z = B ++ hxs (D.take (k + 1)) := by
              rw [List.take_succ_eq_append_getElem hkl, hz2, hst, List.append_assoc]; simp [hx2]
            obtain ⟨Z, hZ⟩ : ∃ Z, hx2 z = Z := ⟨_, rfl⟩
            have hZl : Z.length = 2 := by rw [← hZ]; rfl
            rw [hZ] at hHx hst2
            (refine CW.seq ?_; refine CW.seq ?_; refine CW.region ?_; apply LW.v0; rfl; rfl; apply ValP.move; rfl; apply LW.v0; rfl; rfl; apply ValP.fieldAddr; rfl; rfl; apply LW.load; rfl; rfl; apply Known.at; apply FsAt.head; exact Rd.one' rfl; apply LW.v0; rfl; rfl; apply ValP.lssT; rfl; rfl; omega; apply LW.v0; rfl; rfl; apply ValP.move; rfl; apply LW.guardT'; rfl; rfl; (with_reducible rfl); apply LW.v0; rfl; rfl; apply ValP.move; rfl; apply LW.guardT'; rfl; rfl; (with_reducible rfl); apply LW.v0; rfl; rfl; apply ValP.addZL; rfl; rfl; decide; omega; apply LW.guardT'; rfl; rfl; (with_reducible rfl); apply LW.v0; rfl; rfl; apply ValP.move; rfl; apply LW.guardT'; rfl; rfl; (with_reducible rfl); apply LW.v0; rfl; rfl; apply ValP.lenR; rfl; infer_instance; rfl; apply LW.guardT'; rfl; rfl; (with_reducible rfl); apply LW.v0; rfl; rfl; apply ValP.lssT; rfl; rfl; omega; apply LW.v0; rfl; rfl; apply ValP.pickT'; rfl; (with_reducible rfl); rfl; apply LW.nil; refine thenN ?_; apply CW.condT; rfl; (with_reducible rfl); refine CW.skip ?_; refine thenN ?_; refine CW.seq ?_; refine CW.block ?_; refine CW.seq ?_; refine CW.region ?_; apply LW.v0; rfl; rfl; apply ValP.move; rfl; apply LW.v0; rfl; rfl; apply ValP.addZL; rfl; rfl; decide; omega; apply LW.v0; rfl; rfl; apply ValP.assign; rfl; apply LW.nil; refine thenN ?_; refine CW.region ?_; apply LW.v0; rfl; rfl; apply ValP.move; rfl; apply LW.v0; rfl; rfl; apply ValP.move; rfl; apply LW.v0; rfl; rfl; apply ValP.move; rfl; apply LW.v0; rfl; rfl; apply ValP.indexAddrS; rfl; rfl; rfl; omega; apply LW.load; rfl; rfl; exact Known.ext (by assumption) (by simp); assumption; apply LW.callE; rfl; rfl; infer_instance; apply ArgsOk.cons; rfl; exact ArgsOk.nil; intro w _; exact hHx w; apply LW.v0; rfl; rfl; apply ValP.addStr; rfl; rfl; simp; omega; apply LW.v0; rfl; rfl; apply ValP.assign; rfl; apply LW.nil; refine blkN ?_; refine thenN ?_; refine CW.region ?_; apply LW.v0; rfl; rfl; apply ValP.move; rfl; apply LW.v0; rfl; rfl; apply ValP.addZL; rfl; rfl; decide; omega; apply LW.v0; rfl; rfl; apply ValP.assign; rfl; apply LW.nil)
            rw [hst2]
            apply thenX
            exact ⟨rfl, k + 1, hkl, by omega, ⟨rfl, rfl, rfl, rfl, rfl, trivial⟩, List.Sublist.refl _⟩
          · obtain rfl : k = D.length := by omega
            rw [List.take_length]
            have hend : ¬ (D.length < y.dt ∧ p + D.length + 1 < bs.length) := by omega
            have hfin : B ++ hxs D = joinW (W ++ [y.nm, hxs D]) := by
              rw [show W ++ [y.nm, hxs D] = (W ++ [y.nm]) ++ [hxs D] by simp, joinW_snoc (by simp), hp0, ← hB]
            have hnext : wordsS (segsAt 0 (bs.drop (p + D.length + 1))) = wordsS (segsAt 0 (bs.drop (p + szOf u.toNat + 1))) := by
              rcases Nat.lt_or_ge D.length y.dt with h | h
              · rw [List.drop_eq_nil_of_le (show bs.length ≤ p + D.length + 1 by omega), List.drop_eq_nil_of_le (by omega)]
              · rw [show D.length = szOf u.toNat by omega]
            rcases Nat.lt_or_ge D.length y.dt with hlt2 | hge2
            · (refine CW.seq ?_; refine CW.seq ?_; refine CW.region ?_; apply LW.v0; rfl; rfl; apply ValP.move; rfl; apply LW.v0; rfl; rfl; apply ValP.fieldAddr; rfl; rfl; apply LW.load; rfl; rfl; apply Known.at; apply FsAt.head; exact Rd.one' rfl; apply LW.v0; rfl; rfl; apply ValP.lssT; rfl; rfl; omega; apply LW.v0; rfl; rfl; apply ValP.move; rfl; apply LW.guardT'; rfl; rfl; (with_reducible rfl); apply LW.v0; rfl; rfl; apply ValP.move; rfl; apply LW.guardT'; rfl; rfl; (with_reducible rfl); apply LW.v0; rfl; rfl; apply ValP.addZL; rfl; rfl; decide; omega; apply LW.guardT'; rfl; rfl; (with_reducible rfl); apply LW.v0; rfl; rfl; apply ValP.move; rfl; apply LW.guardT'; rfl; rfl; (with_reducible rfl); apply LW.v0; rfl; rfl; apply ValP.lenR; rfl; infer_instance; rfl; apply LW.guardT'; rfl; rfl; (with_reducible rfl); apply LW.v0; rfl; rfl; apply ValP.lssF; rfl; rfl; omega; apply LW.v0; rfl; rfl; apply ValP.pickT'; rfl; (with_reducible rfl); rfl; apply LW.nil; refine thenN ?_; apply CW.condF; rfl; (with_reducible rfl); refine CW.exit ?_; refine thenE ?_; refine thenE ?_; refine blkE rfl ?_; refine blkN ?_; refine thenN ?_; refine CW.region ?_; apply LW.v0; rfl; rfl; apply ValP.move; rfl; apply LW.v0; rfl; rfl; apply ValP.addZL; rfl; rfl; decide; omega; apply LW.v0; rfl; rfl; apply ValP.assign; rfl; apply LW.nil)
              rw [hfin]
              apply thenX
              refine ⟨rfl, ⟨p + D.length + 1, W ++ [y.nm, hxs D]⟩, ⟨by dsimp only; rw [List.append_assoc, hnext]; exact hJ, by dsimp only; omega, by simp⟩, by dsimp only; omega, ⟨rfl, rfl, rfl, trivial⟩, by (apply List.Sublist.cons; exact List.Sublist.refl _)⟩
            · (refine CW.seq ?_; refine CW.seq ?_; refine CW.region ?_; apply LW.v0; rfl; rfl; apply ValP.move; rfl; apply LW.v0; rfl; rfl; apply ValP.fieldAddr; rfl; rfl; apply LW.load; rfl; rfl; apply Known.at; apply FsAt.head; exact Rd.one' rfl; apply LW.v0; rfl; rfl; apply ValP.lssF; rfl; rfl; omega; apply LW.v0; rfl; rfl; apply ValP.move; rfl; apply LW.guardF'; rfl; rfl; simp only [Bool.not_true, Bool.not_false]; rfl; apply LW.guardF'; rfl; rfl; simp only [Bool.not_true, Bool.not_false]; rfl; apply LW.guardF'; rfl; rfl; simp only [Bool.not_true, Bool.not_false]; rfl; apply LW.guardF'; rfl; rfl; simp only [Bool.not_true, Bool.not_false]; rfl; apply LW.guardF'; rfl; rfl; simp only [Bool.not_true, Bool.not_false]; rfl; apply LW.v0; rfl; rfl; apply ValP.pickF'; rfl; (with_reducible rfl); rfl; apply LW.nil; refine thenN ?_; apply CW.condF; rfl; (with_reducible rfl); refine CW.exit ?_; refine thenE ?_; refine thenE ?_; refine blkE rfl ?_; refine blkN ?_; refine thenN ?_; refine CW.region ?_; apply LW.v0; rfl; rfl; apply ValP.move; rfl; apply LW.v0; rfl; rfl; apply ValP.addZL; rfl; rfl; decide; omega; apply LW.v0; rfl; rfl; apply ValP.assign; rfl; apply LW.nil)
              rw [hfin]
              apply thenX
              refine ⟨rfl, ⟨p + D.length + 1, W ++ [y.nm, hxs D]⟩, ⟨by dsimp only; rw [List.append_assoc, hnext]; exact hJ, by dsimp only; omega, by simp⟩, by dsimp only; omega, ⟨rfl, rfl, rfl, trivial⟩, by (apply List.Sublist.cons; exact List.Sublist.refl _)⟩
  · obtain rfl : p = bs.length := by omega
    rw [List.drop_length, segsAt_nil, show wordsS [] = [] from rfl, List.append_nil] at hJ
    subst hJ
    (refine CW.seq ?_; refine CW.seq ?_; refine CW.region ?_; apply LW.v0; rfl; rfl; apply ValP.move; rfl; apply LW.v0; rfl; rfl; apply ValP.move; rfl; apply LW.v0; rfl; rfl; apply ValP.lenR; rfl; infer_instance; rfl; apply LW.v0; rfl; rfl; apply ValP.lssF; rfl; rfl; omega; apply LW.nil; refine thenN ?_; apply CW.condF; rfl; (with_reducible rfl); refine CW.exit ?_; refine thenE ?_; refine thenE ?_; refine blkE rfl ?_; refine thenN ?_; refine CW.seq ?_; refine CW.region ?_; apply LW.v0; rfl; rfl; apply ValP.move; rfl; apply LW.v0; rfl; rfl; apply ValP.assign; rfl; apply LW.nil; refine thenN ?_; refine CW.ret ?_)
    (apply finR; exact .inl rfl; rfl; rfl; rfl; apply ResL.cons; exact Res.tmp rfl; exact ResL.nil)
    rfl
end Go.Proofs.YtbhicncgjplnoaaDoor

/-
  The layer does something; operations of bytes and names: the walks.
  Conditions: none.
-/
namespace Go.Proofs.YtbhicncgjplnoaaDoor
open Go Go.RowKit SL
set_option maxRecDepth 8000
set_option maxHeartbeats 4000000
set_option linter.unusedSimpArgs false
set_option linter.unusedVariables false
attribute [local irreducible] SL.CW SL.LW SL.DW Calls SL.Ret SL.RetG SL.beginQ SL.roundQ SL.rangeQ SL.inQ SL.RW SL.AnyW SL.thenQ SL.thenC SL.thenW SL.blkQ SL.finQ SL.ValP SL.NewP SL.SetP SL.CallP SL.Rd SL.Wr SL.Known
/-! ### wakes -/
theorem sz96 : szOf 96 = 1 := by decide +kernel
theorem sz1 : szOf 1 = 0 := by decide +kernel
theorem sz254 : szOf 254 = 0 := by decide +kernel
theorem sz12 : szOf 12 = 0 := by decide +kernel
theorem sz97 : szOf 97 = 2 := by decide +kernel
theorem sz91 : szOf 91 = 0 := by decide +kernel
theorem wk_segs : segsAt 0 [96, 5, 1, 254, 12] = [(0, 96, [5]), (2, 1, []), (3, 254, []), (4, 12, [])] := by
  rw [segsAt_cons, show szOf (96 : UInt8).toNat = 1 from sz96]
  show (0, 96, [5]) :: segsAt 2 [1, 254, 12] = _
  rw [segsAt_cons, show szOf (1 : UInt8).toNat = 0 from sz1]
  show (0, 96, [5]) :: (2, 1, []) :: segsAt 3 [254, 12] = _
  rw [segsAt_cons, show szOf (254 : UInt8).toNat = 0 from sz254]
  show (0, 96, [5]) :: (2, 1, []) :: (3, 254, []) :: segsAt 4 [12] = _
  rw [segsAt_cons, show szOf (12 : UInt8).toNat = 0 from sz12]
  show (0, 96, [5]) :: (2, 1, []) :: (3, 254, []) :: (4, 12, []) :: segsAt 5 [] = _
  rw [segsAt_nil]
def wkT : List UInt8 := [80, 85, 83, 72, 49, 32, 48, 53, 32, 65, 68, 68, 32, 73, 78, 86, 65, 76, 73, 68, 32, 46, 48, 99]
theorem wk_text : textL [96, 5, 1, 254, 12] = wkT := by
  unfold textL wordsL
  rw [wk_segs]
  decide +kernel
theorem wk_segs2 : segsAt 0 [97, 1] = [(0, 97, [1])] := by
  rw [segsAt_cons, show szOf (97 : UInt8).toNat = 2 from sz97]
  show (0, 97, [1]) :: segsAt 3 [] = _
  rw [segsAt_nil]
theorem wk_text2 : textL [97, 1] = [80, 85, 83, 72, 50, 32, 48, 49] := by
  unfold textL wordsL
  rw [wk_segs2]
  decide +kernel
theorem wk_parse : parseU [80, 85, 83, 72, 50, 32, 48, 49] = some [97, 1] := by rw [← wk_text2]; exact parse_text _ (by decide)
theorem wk_segs3 : segsAt 0 [96, 91, 91] = [(0, 96, [91]), (2, 91, [])] := by
  rw [segsAt_cons, show szOf (96 : UInt8).toNat = 1 from sz96]
  show (0, 96, [91]) :: segsAt 2 [91] = _
  rw [segsAt_cons, show szOf (91 : UInt8).toNat = 0 from sz91]
  show (0, 96, [91]) :: (2, 91, []) :: segsAt 3 [] = _
  rw [segsAt_nil]
theorem wk_jumps : jumpsL [96, 91, 91] = [2] := by unfold jumpsL; rw [wk_segs3]; decide
attribute [local irreducible] opOf named parseU textL jumpsL
theorem wakes_calls (w : World) : Calls Tryd.prog 10 #[] w (Ret w (.bool true)) := by
  refine enter (args := []) _ [] [] Tryd.func10 rfl Tryd.ntmps10 rfl (by simp) .nil ?_
  (refine CW.seq ?_; refine CW.region ?_; apply LW.v0; rfl; rfl; apply ValP.assign; rfl; apply LW.nil; refine thenN ?_; refine CW.seq ?_; refine CW.region ?_)
  refine LW.n0 rfl rfl (NewP.buildSN (vs := [(0, .int .u8 96), (1, .int .u8 5), (2, .int .u8 1), (3, .int .u8 254), (4, .int .u8 12)]) (c := uca [96, 5, 1, 254, 12]) inferInstance inferInstance (by (apply PartsOk.cons; rfl; apply PartsOk.cons; rfl; apply PartsOk.cons; rfl; apply PartsOk.cons; rfl; apply PartsOk.cons; rfl; exact PartsOk.nil)) rfl rfl (by kernel_rfl) (by kernel_rfl)) fun g => ?_
  have hTx : ∀ w', St w [] [(g, .cells (uca [96, 5, 1, 254, 12]) 5 (0, 0))] w' → Calls Tryd.prog 15 #[.slice (some ⟨g, 0, none⟩) 5 5] w' (Ret w' (.tuple #[sv wkT, .int .i64 0])) := fun w' hst => by
    have := Text_calls [96, 5, 1, 254, 12] _ w' (row_cells (n := 5) (hst.own _ (List.mem_singleton.2 rfl)).2 rfl rfl (by decide))
    unfold TextV at this
    rw [if_pos (by decide), wk_text] at this
    exact this
  (apply LW.callE; rfl; rfl; infer_instance; apply ArgsOk.cons; rfl; exact ArgsOk.nil; intro w _; exact hTx w (by assumption); apply LW.v0; rfl; rfl; apply ValP.move; rfl; apply LW.v0; rfl; rfl; apply ValP.extractN; rfl; rfl; apply LW.v0; rfl; rfl; apply ValP.extractN; rfl; rfl; apply LW.v0; rfl; rfl; apply ValP.assign; rfl; apply LW.v0; rfl; rfl; apply ValP.assign; rfl; apply LW.nil; refine thenN ?_; refine CW.seq ?_; refine CW.region ?_)
  refine LW.callR rfl rfl inferInstance (by (apply ArgsOk.cons; rfl; exact ArgsOk.nil)) (fun w' hst => Parse_calls [80, 85, 83, 72, 50, 32, 48, 49] w') ?_
  intro v2 g2 h2
  unfold ParseR at h2
  rw [wk_parse] at h2
  obtain ⟨rv, rfl, hrv⟩ := h2
  obtain ⟨p2, c2, rfl⟩ := hrv.form
  have hl2 : ([97, 1] : List UInt8).length = 2 := rfl
  rw [hl2]
  (apply LW.v0; rfl; rfl; apply ValP.move; rfl; apply LW.v0; rfl; rfl; apply ValP.extractN; rfl; rfl; apply LW.v0; rfl; rfl; apply ValP.extractN; rfl; rfl; apply LW.v0; rfl; rfl; apply ValP.assign; rfl; apply LW.v0; rfl; rfl; apply ValP.assign; rfl; apply LW.nil; refine thenN ?_; refine CW.seq ?_; refine CW.region ?_)
  refine LW.n0 rfl rfl (NewP.buildSN (vs := [(0, .int .u8 96), (1, .int .u8 91), (2, .int .u8 91)]) (c := uca [96, 91, 91]) inferInstance inferInstance (by (apply PartsOk.cons; rfl; apply PartsOk.cons; rfl; apply PartsOk.cons; rfl; exact PartsOk.nil)) rfl rfl (by kernel_rfl) (by kernel_rfl)) fun g3 => ?_
  refine LW.callR rfl rfl inferInstance (by (apply ArgsOk.cons; rfl; exact ArgsOk.nil)) (fun w' hst => Jumps_calls [96, 91, 91] _ w' (row_cells (n := 3) (hst.own _ (List.Mem.head _)).2 rfl rfl (by decide))) ?_
  intro v4 g4 h4
  unfold JumpsR at h4
  rw [if_pos (by decide), wk_jumps] at h4
  obtain ⟨p4, c4, rfl⟩ := h4.form
  have hl4 : ([2] : List Nat).length = 1 := rfl
  rw [hl4] at h4
  obtain ⟨b4, cur4, rfl, rfl, hn4, hm4, hs4, ht4⟩ := h4.pos (by decide)
  have hrd : Rd Tryd.prog 3 (.cells cur4 3 (0, 0)) (0 + 0 * 1) (.int .i64 ((2 : Nat) : Int)) := Rd.elem1 (off := 0) (l := [2]) (i := 0) (by rw [List.drop_zero]; exact ht4) (ics_len [2]) rfl rfl
  rw [hl4]
  have hte : (⟨wkT.toArray⟩ : ByteArray) = ⟨([80, 85, 83, 72, 49, 32, 48, 53, 32, 65, 68, 68, 32, 73, 78, 86, 65, 76, 73, 68, 32, 46, 48, 99] : List UInt8).toArray⟩ := rfl
  (apply LW.v0; rfl; rfl; apply ValP.assign; rfl; apply LW.nil; refine thenN ?_; refine CW.seq ?_; refine CW.region ?_; apply LW.v0; rfl; rfl; apply ValP.move; rfl; apply LW.v0; rfl; rfl; apply ValP.eqT; rfl; rfl; omega; apply LW.v0; rfl; rfl; apply ValP.move; rfl; apply LW.guardT'; rfl; rfl; (with_reducible rfl); apply LW.v0; rfl; rfl; apply ValP.move; rfl; apply LW.guardT'; rfl; rfl; (with_reducible rfl); apply LW.v0; rfl; rfl; apply ValP.eqT; rfl; rfl; omega; apply LW.v0; rfl; rfl; apply ValP.pickT'; rfl; (with_reducible rfl); rfl; apply LW.v0; rfl; rfl; apply ValP.move; rfl; apply LW.guardT'; rfl; rfl; (with_reducible rfl); apply LW.v0; rfl; rfl; apply ValP.move; rfl; apply LW.guardT'; rfl; rfl; (with_reducible rfl); apply LW.v0; rfl; rfl; apply ValP.strEqT; rfl; rfl; assumption; apply LW.v0; rfl; rfl; apply ValP.pickT'; rfl; (with_reducible rfl); rfl; apply LW.v0; rfl; rfl; apply ValP.move; rfl; apply LW.guardT'; rfl; rfl; (with_reducible rfl); apply LW.v0; rfl; rfl; apply ValP.move; rfl; apply LW.guardT'; rfl; rfl; (with_reducible rfl); apply LW.v0; rfl; rfl; apply ValP.lenR; rfl; infer_instance; rfl; apply LW.guardT'; rfl; rfl; (with_reducible rfl); apply LW.v0; rfl; rfl; apply ValP.eqT; rfl; rfl; omega; apply LW.v0; rfl; rfl; apply ValP.pickT'; rfl; (with_reducible rfl); rfl; apply LW.v0; rfl; rfl; apply ValP.move; rfl; apply LW.guardT'; rfl; rfl; (with_reducible rfl); apply LW.v0; rfl; rfl; apply ValP.move; rfl; apply LW.guardT'; rfl; rfl; (with_reducible rfl); apply LW.v0; rfl; rfl; apply ValP.lenR; rfl; infer_instance; rfl; apply LW.guardT'; rfl; rfl; (with_reducible rfl); apply LW.v0; rfl; rfl; apply ValP.eqT; rfl; rfl; omega; apply LW.v0; rfl; rfl; apply ValP.pickT'; rfl; (with_reducible rfl); rfl; apply LW.v0; rfl; rfl; apply ValP.move; rfl; apply LW.guardT'; rfl; rfl; (with_reducible rfl); apply LW.v0; rfl; rfl; apply ValP.move; rfl; apply LW.guardT'; rfl; rfl; (with_reducible rfl); apply LW.v0; rfl; rfl; apply ValP.indexAddrSL; rfl; rfl; decide; omega; apply LW.guardT'; rfl; rfl; (with_reducible rfl); apply LW.load; rfl; rfl; apply Known.at; apply FsAt.head; assumption; apply LW.guardT'; rfl; rfl; (with_reducible rfl); apply LW.v0; rfl; rfl; apply ValP.eqT; rfl; rfl; omega; apply LW.v0; rfl; rfl; apply ValP.pickT'; rfl; (with_reducible rfl); rfl; apply LW.v0; rfl; rfl; apply ValP.assign; rfl; apply LW.nil; refine thenN ?_; refine CW.ret ?_)
  (apply finR; exact .inl rfl; rfl; rfl; rfl; apply ResL.cons; exact Res.tmp rfl; exact ResL.nil)
  rfl
/-! ### Operations -/
theorem wf_u8 {n : Int} (h : (Lit.int .u8 n).wf = true) : ∃ k : Nat, n = (k : Int) ∧ k < 256 := by
  simp [Lit.wf, IntKind.min, IntKind.max, IntKind.signed, IntKind.bits] at h
  exact ⟨n.toNat, by omega, by omega⟩
theorem CodeOps_walk (b : Nat) (s : List UInt8) (hb : b < 256) (hs : s.length ≤ maxLen) (w : World) : Calls Tryd.prog 3 #[.int .u8 (b : Int), sv s] w (Ret w (.bool true)) := by
  refine enter (args := [_, _]) _ [] [] Tryd.func3 rfl Tryd.ntmps3 rfl (by simp) .nil ?_
  rcases Nat.lt_or_ge 100 s.length with hgt | hle
  · (refine CW.seq ?_; refine CW.region ?_; apply LW.v0; rfl; rfl; apply ValP.assign; rfl; apply LW.nil; refine thenN ?_; refine CW.seq ?_; refine CW.seq ?_; refine CW.region ?_; apply LW.callE; rfl; rfl; infer_instance; exact ArgsOk.nil; intro w _; exact wakes_calls w; apply LW.v0; rfl; rfl; apply ValP.notT; rfl; (with_reducible rfl); apply LW.nil; refine thenN ?_; apply CW.condF; rfl; (with_reducible rfl); refine CW.skip ?_; refine thenN ?_; refine CW.seq ?_; refine CW.seq ?_; refine CW.region ?_; apply LW.v0; rfl; rfl; apply ValP.move; rfl; apply LW.v0; rfl; rfl; apply ValP.lenStr; rfl; infer_instance; rfl; apply LW.v0; rfl; rfl; apply ValP.gtrT; rfl; rfl; omega; apply LW.nil; refine thenN ?_; apply CW.condT; rfl; (with_reducible rfl); refine CW.seq ?_; refine CW.region ?_; apply LW.v0; rfl; rfl; apply ValP.assign; rfl; apply LW.nil; refine thenN ?_; refine CW.ret ?_; refine thenR ?_)
    (apply finR; exact .inl rfl; rfl; rfl; rfl; apply ResL.cons; exact Res.tmp rfl; exact ResL.nil)
    rfl
  · cases ho : opOf b with
    | none =>
      have hO0 := Of_op_calls b hb
      have hr0 := rOf_calls b hb
      rw [ho] at hO0 hr0
      have hOf : ∀ w, Calls Tryd.prog 11 #[.int .u8 (b : Int)] w (Ret w (.tuple #[.agg (opc zeroOp), .int .i64 4])) := hO0
      have hrOf : ∀ w, Calls Tryd.prog 12 #[.int .u8 (b : Int)] w (Ret w (.tuple #[.agg (opc zeroOp), .bool false])) := hr0
      cases hn : named s with
      | none =>
        have hN0 := Named_calls s
        have hr0 := rNamed_calls s
        rw [hn] at hN0 hr0
        have hNm : ∀ w, Calls Tryd.prog 13 #[sv s] w (Ret w (.tuple #[.agg (opc zeroOp), .int .i64 4])) := hN0
        have hrNm : ∀ w, Calls Tryd.prog 14 #[sv s] w (Ret w (.tuple #[.agg (opc zeroOp), .bool false])) := hr0
        (refine CW.seq ?_; refine CW.region ?_; apply LW.v0; rfl; rfl; apply ValP.assign; rfl; apply LW.nil; refine thenN ?_; refine CW.seq ?_; refine CW.seq ?_; refine CW.region ?_; apply LW.callE; rfl; rfl; infer_instance; exact ArgsOk.nil; intro w _; exact wakes_calls w; apply LW.v0; rfl; rfl; apply ValP.notT; rfl; (with_reducible rfl); apply LW.nil; refine thenN ?_; apply CW.condF; rfl; (with_reducible rfl); refine CW.skip ?_; refine thenN ?_; refine CW.seq ?_; refine CW.seq ?_; refine CW.region ?_; apply LW.v0; rfl; rfl; apply ValP.move; rfl; apply LW.v0; rfl; rfl; apply ValP.lenStr; rfl; infer_instance; rfl; apply LW.v0; rfl; rfl; apply ValP.gtrF; rfl; rfl; omega; apply LW.nil; refine thenN ?_; apply CW.condF; rfl; (with_reducible rfl); refine CW.skip ?_; refine thenN ?_; refine CW.seq ?_; refine CW.region ?_; apply LW.v0; rfl; rfl; apply ValP.move; rfl; apply LW.callE; rfl; rfl; infer_instance; apply ArgsOk.cons; rfl; exact ArgsOk.nil; intro w _; exact hOf w; apply LW.v0; rfl; rfl; apply ValP.move; rfl; apply LW.v0; rfl; rfl; apply ValP.extractN; rfl; rfl; apply LW.v0; rfl; rfl; apply ValP.extractN; rfl; rfl; apply LW.allocA; rfl; intro _; apply LW.store; rfl; rfl; apply SetAt.head; apply Wr.whole; rfl; rfl; rfl; apply LW.v0; rfl; rfl; apply ValP.assign; rfl; apply LW.nil; refine thenN ?_; refine CW.seq ?_; refine CW.region ?_; apply LW.v0; rfl; rfl; apply ValP.move; rfl; apply LW.callE; rfl; rfl; infer_instance; apply ArgsOk.cons; rfl; exact ArgsOk.nil; intro w _; exact hrOf w; apply LW.v0; rfl; rfl; apply ValP.move; rfl; apply LW.v0; rfl; rfl; apply ValP.extractN; rfl; rfl; apply LW.v0; rfl; rfl; apply ValP.extractN; rfl; rfl; apply LW.allocA; rfl; intro _; apply LW.store; rfl; rfl; apply SetAt.head; apply Wr.whole; rfl; rfl; rfl; apply LW.v0; rfl; rfl; apply ValP.assign; rfl; apply LW.nil; refine thenN ?_; refine CW.seq ?_; refine CW.seq ?_; refine CW.region ?_; apply LW.load; rfl; rfl; apply Known.at; apply FsAt.tail; apply FsAt.head; exact Rd.whole rfl; apply LW.load; rfl; rfl; apply Known.at; apply FsAt.head; exact Rd.whole rfl; apply LW.v0; rfl; rfl; apply ValP.neqSame; rfl; rfl; kernel_rfl; apply LW.v0; rfl; rfl; apply ValP.move; rfl; apply LW.guardT'; rfl; rfl; (with_reducible rfl); apply LW.v0; rfl; rfl; apply ValP.move; rfl; apply LW.guardT'; rfl; rfl; (with_reducible rfl); apply LW.v0; rfl; rfl; apply ValP.eqF; rfl; rfl; omega; apply LW.guardT'; rfl; rfl; (with_reducible rfl); apply LW.v0; rfl; rfl; apply ValP.move; rfl; apply LW.guardT'; rfl; rfl; (with_reducible rfl); apply LW.v0; rfl; rfl; apply ValP.boolNeF; rfl; rfl; (with_reducible rfl); apply LW.v0; rfl; rfl; apply ValP.pickF'; rfl; (with_reducible rfl); rfl; apply LW.v0; rfl; rfl; apply ValP.move; rfl; apply LW.guardT'; rfl; rfl; (with_reducible rfl); apply LW.v0; rfl; rfl; apply ValP.move; rfl; apply LW.guardT'; rfl; rfl; (with_reducible rfl); apply LW.v0; rfl; rfl; apply ValP.notF; rfl; (with_reducible rfl); apply LW.guardT'; rfl; rfl; (with_reducible rfl); apply LW.v0; rfl; rfl; apply ValP.move; rfl; apply LW.guardT'; rfl; rfl; (with_reducible rfl); apply LW.v0; rfl; rfl; apply ValP.move; rfl; apply LW.guardT'; rfl; rfl; (with_reducible rfl); apply LW.v0; rfl; rfl; apply ValP.neF; rfl; rfl; omega; apply LW.guardT'; rfl; rfl; (with_reducible rfl); apply LW.v0; rfl; rfl; apply ValP.pickT'; rfl; (with_reducible rfl); rfl; apply LW.v0; rfl; rfl; apply ValP.pickF'; rfl; (with_reducible rfl); rfl; apply LW.nil; refine thenN ?_; apply CW.condF; rfl; (with_reducible rfl); refine CW.skip ?_; refine thenN ?_; refine CW.seq ?_; refine CW.region ?_; apply LW.v0; rfl; rfl; apply ValP.move; rfl; apply LW.callE; rfl; rfl; infer_instance; apply ArgsOk.cons; rfl; exact ArgsOk.nil; intro w _; exact hNm w; apply LW.v0; rfl; rfl; apply ValP.move; rfl; apply LW.v0; rfl; rfl; apply ValP.extractN; rfl; rfl; apply LW.v0; rfl; rfl; apply ValP.extractN; rfl; rfl; apply LW.store; rfl; rfl; apply SetAt.tail; apply SetAt.head; apply Wr.whole; rfl; rfl; rfl; apply LW.v0; rfl; rfl; apply ValP.assign; rfl; apply LW.nil; refine thenN ?_; refine CW.seq ?_; refine CW.region ?_; apply LW.v0; rfl; rfl; apply ValP.move; rfl; apply LW.callE; rfl; rfl; infer_instance; apply ArgsOk.cons; rfl; exact ArgsOk.nil; intro w _; exact hrNm w; apply LW.v0; rfl; rfl; apply ValP.move; rfl; apply LW.v0; rfl; rfl; apply ValP.extractN; rfl; rfl; apply LW.v0; rfl; rfl; apply ValP.extractN; rfl; rfl; apply LW.store; rfl; rfl; apply SetAt.head; apply Wr.whole; rfl; rfl; rfl; apply LW.v0; rfl; rfl; apply ValP.assign; rfl; apply LW.nil; refine thenN ?_; refine CW.seq ?_; refine CW.region ?_; apply LW.load; rfl; rfl; apply Known.at; apply FsAt.tail; apply FsAt.head; exact Rd.whole rfl; apply LW.load; rfl; rfl; apply Known.at; apply FsAt.head; exact Rd.whole rfl; apply LW.v0; rfl; rfl; apply ValP.eqlSame; rfl; rfl; kernel_rfl; apply LW.v0; rfl; rfl; apply ValP.move; rfl; apply LW.guardT'; rfl; rfl; (with_reducible rfl); apply LW.v0; rfl; rfl; apply ValP.move; rfl; apply LW.guardT'; rfl; rfl; (with_reducible rfl); apply LW.v0; rfl; rfl; apply ValP.eqF; rfl; rfl; omega; apply LW.guardT'; rfl; rfl; (with_reducible rfl); apply LW.v0; rfl; rfl; apply ValP.move; rfl; apply LW.guardT'; rfl; rfl; (with_reducible rfl); apply LW.v0; rfl; rfl; apply ValP.boolEqT; rfl; rfl; (with_reducible rfl); apply LW.v0; rfl; rfl; apply ValP.pickT'; rfl; (with_reducible rfl); rfl; apply LW.v0; rfl; rfl; apply ValP.move; rfl; apply LW.guardT'; rfl; rfl; (with_reducible rfl); apply LW.v0; rfl; rfl; apply ValP.move; rfl; apply LW.guardT'; rfl; rfl; (with_reducible rfl); apply LW.v0; rfl; rfl; apply ValP.move; rfl; apply LW.guardT'; rfl; rfl; (with_reducible rfl); apply LW.v0; rfl; rfl; apply ValP.move; rfl; apply LW.guardT'; rfl; rfl; (with_reducible rfl); apply LW.v0; rfl; rfl; apply ValP.eqT; rfl; rfl; omega; apply LW.guardT'; rfl; rfl; (with_reducible rfl); apply LW.v0; rfl; rfl; apply ValP.pickF'; rfl; (with_reducible rfl); rfl; apply LW.v0; rfl; rfl; apply ValP.pickT'; rfl; (with_reducible rfl); rfl; apply LW.v0; rfl; rfl; apply ValP.assign; rfl; apply LW.nil; refine thenN ?_; refine CW.ret ?_)
        (apply finR; exact .inl rfl; rfl; rfl; rfl; apply ResL.cons; exact Res.tmp rfl; exact ResL.nil)
        rfl
      | some z =>
        have hN0 := Named_calls s
        have hr0 := rNamed_calls s
        rw [hn] at hN0 hr0
        have hNm : ∀ w, Calls Tryd.prog 13 #[sv s] w (Ret w (.tuple #[.agg (opc z), .int .i64 0])) := hN0
        have hrNm : ∀ w, Calls Tryd.prog 14 #[sv s] w (Ret w (.tuple #[.agg (opc z), .bool true])) := hr0
        (refine CW.seq ?_; refine CW.region ?_; apply LW.v0; rfl; rfl; apply ValP.assign; rfl; apply LW.nil; refine thenN ?_; refine CW.seq ?_; refine CW.seq ?_; refine CW.region ?_; apply LW.callE; rfl; rfl; infer_instance; exact ArgsOk.nil; intro w _; exact wakes_calls w; apply LW.v0; rfl; rfl; apply ValP.notT; rfl; (with_reducible rfl); apply LW.nil; refine thenN ?_; apply CW.condF; rfl; (with_reducible rfl); refine CW.skip ?_; refine thenN ?_; refine CW.seq ?_; refine CW.seq ?_; refine CW.region ?_; apply LW.v0; rfl; rfl; apply ValP.move; rfl; apply LW.v0; rfl; rfl; apply ValP.lenStr; rfl; infer_instance; rfl; apply LW.v0; rfl; rfl; apply ValP.gtrF; rfl; rfl; omega; apply LW.nil; refine thenN ?_; apply CW.condF; rfl; (with_reducible rfl); refine CW.skip ?_; refine thenN ?_; refine CW.seq ?_; refine CW.region ?_; apply LW.v0; rfl; rfl; apply ValP.move; rfl; apply LW.callE; rfl; rfl; infer_instance; apply ArgsOk.cons; rfl; exact ArgsOk.nil; intro w _; exact hOf w; apply LW.v0; rfl; rfl; apply ValP.move; rfl; apply LW.v0; rfl; rfl; apply ValP.extractN; rfl; rfl; apply LW.v0; rfl; rfl; apply ValP.extractN; rfl; rfl; apply LW.allocA; rfl; intro _; apply LW.store; rfl; rfl; apply SetAt.head; apply Wr.whole; rfl; rfl; rfl; apply LW.v0; rfl; rfl; apply ValP.assign; rfl; apply LW.nil; refine thenN ?_; refine CW.seq ?_; refine CW.region ?_; apply LW.v0; rfl; rfl; apply ValP.move; rfl; apply LW.callE; rfl; rfl; infer_instance; apply ArgsOk.cons; rfl; exact ArgsOk.nil; intro w _; exact hrOf w; apply LW.v0; rfl; rfl; apply ValP.move; rfl; apply LW.v0; rfl; rfl; apply ValP.extractN; rfl; rfl; apply LW.v0; rfl; rfl; apply ValP.extractN; rfl; rfl; apply LW.allocA; rfl; intro _; apply LW.store; rfl; rfl; apply SetAt.head; apply Wr.whole; rfl; rfl; rfl; apply LW.v0; rfl; rfl; apply ValP.assign; rfl; apply LW.nil; refine thenN ?_; refine CW.seq ?_; refine CW.seq ?_; refine CW.region ?_; apply LW.load; rfl; rfl; apply Known.at; apply FsAt.tail; apply FsAt.head; exact Rd.whole rfl; apply LW.load; rfl; rfl; apply Known.at; apply FsAt.head; exact Rd.whole rfl; apply LW.v0; rfl; rfl; apply ValP.neqSame; rfl; rfl; kernel_rfl; apply LW.v0; rfl; rfl; apply ValP.move; rfl; apply LW.guardT'; rfl; rfl; (with_reducible rfl); apply LW.v0; rfl; rfl; apply ValP.move; rfl; apply LW.guardT'; rfl; rfl; (with_reducible rfl); apply LW.v0; rfl; rfl; apply ValP.eqF; rfl; rfl; omega; apply LW.guardT'; rfl; rfl; (with_reducible rfl); apply LW.v0; rfl; rfl; apply ValP.move; rfl; apply LW.guardT'; rfl; rfl; (with_reducible rfl); apply LW.v0; rfl; rfl; apply ValP.boolNeF; rfl; rfl; (with_reducible rfl); apply LW.v0; rfl; rfl; apply ValP.pickF'; rfl; (with_reducible rfl); rfl; apply LW.v0; rfl; rfl; apply ValP.move; rfl; apply LW.guardT'; rfl; rfl; (with_reducible rfl); apply LW.v0; rfl; rfl; apply ValP.move; rfl; apply LW.guardT'; rfl; rfl; (with_reducible rfl); apply LW.v0; rfl; rfl; apply ValP.notF; rfl; (with_reducible rfl); apply LW.guardT'; rfl; rfl; (with_reducible rfl); apply LW.v0; rfl; rfl; apply ValP.move; rfl; apply LW.guardT'; rfl; rfl; (with_reducible rfl); apply LW.v0; rfl; rfl; apply ValP.move; rfl; apply LW.guardT'; rfl; rfl; (with_reducible rfl); apply LW.v0; rfl; rfl; apply ValP.neF; rfl; rfl; omega; apply LW.guardT'; rfl; rfl; (with_reducible rfl); apply LW.v0; rfl; rfl; apply ValP.pickT'; rfl; (with_reducible rfl); rfl; apply LW.v0; rfl; rfl; apply ValP.pickF'; rfl; (with_reducible rfl); rfl; apply LW.nil; refine thenN ?_; apply CW.condF; rfl; (with_reducible rfl); refine CW.skip ?_; refine thenN ?_; refine CW.seq ?_; refine CW.region ?_; apply LW.v0; rfl; rfl; apply ValP.move; rfl; apply LW.callE; rfl; rfl; infer_instance; apply ArgsOk.cons; rfl; exact ArgsOk.nil; intro w _; exact hNm w; apply LW.v0; rfl; rfl; apply ValP.move; rfl; apply LW.v0; rfl; rfl; apply ValP.extractN; rfl; rfl; apply LW.v0; rfl; rfl; apply ValP.extractN; rfl; rfl; apply LW.store; rfl; rfl; apply SetAt.tail; apply SetAt.head; apply Wr.whole; rfl; rfl; rfl; apply LW.v0; rfl; rfl; apply ValP.assign; rfl; apply LW.nil; refine thenN ?_; refine CW.seq ?_; refine CW.region ?_; apply LW.v0; rfl; rfl; apply ValP.move; rfl; apply LW.callE; rfl; rfl; infer_instance; apply ArgsOk.cons; rfl; exact ArgsOk.nil; intro w _; exact hrNm w; apply LW.v0; rfl; rfl; apply ValP.move; rfl; apply LW.v0; rfl; rfl; apply ValP.extractN; rfl; rfl; apply LW.v0; rfl; rfl; apply ValP.extractN; rfl; rfl; apply LW.store; rfl; rfl; apply SetAt.head; apply Wr.whole; rfl; rfl; rfl; apply LW.v0; rfl; rfl; apply ValP.assign; rfl; apply LW.nil; refine thenN ?_; refine CW.seq ?_; refine CW.region ?_; apply LW.load; rfl; rfl; apply Known.at; apply FsAt.tail; apply FsAt.head; exact Rd.whole rfl; apply LW.load; rfl; rfl; apply Known.at; apply FsAt.head; exact Rd.whole rfl; apply LW.v0; rfl; rfl; apply ValP.eqlSame; rfl; rfl; kernel_rfl; apply LW.v0; rfl; rfl; apply ValP.move; rfl; apply LW.guardT'; rfl; rfl; (with_reducible rfl); apply LW.v0; rfl; rfl; apply ValP.move; rfl; apply LW.guardT'; rfl; rfl; (with_reducible rfl); apply LW.v0; rfl; rfl; apply ValP.eqT; rfl; rfl; omega; apply LW.guardT'; rfl; rfl; (with_reducible rfl); apply LW.v0; rfl; rfl; apply ValP.move; rfl; apply LW.guardT'; rfl; rfl; (with_reducible rfl); apply LW.v0; rfl; rfl; apply ValP.boolEqT; rfl; rfl; (with_reducible rfl); apply LW.v0; rfl; rfl; apply ValP.pickT'; rfl; (with_reducible rfl); rfl; apply LW.v0; rfl; rfl; apply ValP.move; rfl; apply LW.guardT'; rfl; rfl; (with_reducible rfl); apply LW.v0; rfl; rfl; apply ValP.move; rfl; apply LW.guardT'; rfl; rfl; (with_reducible rfl); apply LW.v0; rfl; rfl; apply ValP.move; rfl; apply LW.guardF'; rfl; rfl; simp only [Bool.not_true, Bool.not_false]; rfl; apply LW.guardF'; rfl; rfl; simp only [Bool.not_true, Bool.not_false]; rfl; apply LW.guardT'; rfl; rfl; (with_reducible rfl); apply LW.v0; rfl; rfl; apply ValP.pickT'; rfl; (with_reducible rfl); rfl; apply LW.v0; rfl; rfl; apply ValP.pickT'; rfl; (with_reducible rfl); rfl; apply LW.v0; rfl; rfl; apply ValP.assign; rfl; apply LW.nil; refine thenN ?_; refine CW.ret ?_)
        (apply finR; exact .inl rfl; rfl; rfl; rfl; apply ResL.cons; exact Res.tmp rfl; exact ResL.nil)
        rfl
    | some y =>
      have hO0 := Of_op_calls b hb
      have hr0 := rOf_calls b hb
      rw [ho] at hO0 hr0
      have hOf : ∀ w, Calls Tryd.prog 11 #[.int .u8 (b : Int)] w (Ret w (.tuple #[.agg (opc y), .int .i64 0])) := hO0
      have hrOf : ∀ w, Calls Tryd.prog 12 #[.int .u8 (b : Int)] w (Ret w (.tuple #[.agg (opc y), .bool true])) := hr0
      cases hn : named s with
      | none =>
        have hN0 := Named_calls s
        have hr0 := rNamed_calls s
        rw [hn] at hN0 hr0
        have hNm : ∀ w, Calls Tryd.prog 13 #[sv s] w (Ret w (.tuple #[.agg (opc zeroOp), .int .i64 4])) := hN0
        have hrNm : ∀ w, Calls Tryd.prog 14 #[sv s] w (Ret w (.tuple #[.agg (opc zeroOp), .bool false])) := hr0
        (refine CW.seq ?_; refine CW.region ?_; apply LW.v0; rfl; rfl; apply ValP.assign; rfl; apply LW.nil; refine thenN ?_; refine CW.seq ?_; refine CW.seq ?_; refine CW.region ?_; apply LW.callE; rfl; rfl; infer_instance; exact ArgsOk.nil; intro w _; exact wakes_calls w; apply LW.v0; rfl; rfl; apply ValP.notT; rfl; (with_reducible rfl); apply LW.nil; refine thenN ?_; apply CW.condF; rfl; (with_reducible rfl); refine CW.skip ?_; refine thenN ?_; refine CW.seq ?_; refine CW.seq ?_; refine CW.region ?_; apply LW.v0; rfl; rfl; apply ValP.move; rfl; apply LW.v0; rfl; rfl; apply ValP.lenStr; rfl; infer_instance; rfl; apply LW.v0; rfl; rfl; apply ValP.gtrF; rfl; rfl; omega; apply LW.nil; refine thenN ?_; apply CW.condF; rfl; (with_reducible rfl); refine CW.skip ?_; refine thenN ?_; refine CW.seq ?_; refine CW.region ?_; apply LW.v0; rfl; rfl; apply ValP.move; rfl; apply LW.callE; rfl; rfl; infer_instance; apply ArgsOk.cons; rfl; exact ArgsOk.nil; intro w _; exact hOf w; apply LW.v0; rfl; rfl; apply ValP.move; rfl; apply LW.v0; rfl; rfl; apply ValP.extractN; rfl; rfl; apply LW.v0; rfl; rfl; apply ValP.extractN; rfl; rfl; apply LW.allocA; rfl; intro _; apply LW.store; rfl; rfl; apply SetAt.head; apply Wr.whole; rfl; rfl; rfl; apply LW.v0; rfl; rfl; apply ValP.assign; rfl; apply LW.nil; refine thenN ?_; refine CW.seq ?_; refine CW.region ?_; apply LW.v0; rfl; rfl; apply ValP.move; rfl; apply LW.callE; rfl; rfl; infer_instance; apply ArgsOk.cons; rfl; exact ArgsOk.nil; intro w _; exact hrOf w; apply LW.v0; rfl; rfl; apply ValP.move; rfl; apply LW.v0; rfl; rfl; apply ValP.extractN; rfl; rfl; apply LW.v0; rfl; rfl; apply ValP.extractN; rfl; rfl; apply LW.allocA; rfl; intro _; apply LW.store; rfl; rfl; apply SetAt.head; apply Wr.whole; rfl; rfl; rfl; apply LW.v0; rfl; rfl; apply ValP.assign; rfl; apply LW.nil; refine thenN ?_; refine CW.seq ?_; refine CW.seq ?_; refine CW.region ?_; apply LW.load; rfl; rfl; apply Known.at; apply FsAt.tail; apply FsAt.head; exact Rd.whole rfl; apply LW.load; rfl; rfl; apply Known.at; apply FsAt.head; exact Rd.whole rfl; apply LW.v0; rfl; rfl; apply ValP.neqSame; rfl; rfl; kernel_rfl; apply LW.v0; rfl; rfl; apply ValP.move; rfl; apply LW.guardT'; rfl; rfl; (with_reducible rfl); apply LW.v0; rfl; rfl; apply ValP.move; rfl; apply LW.guardT'; rfl; rfl; (with_reducible rfl); apply LW.v0; rfl; rfl; apply ValP.eqT; rfl; rfl; omega; apply LW.guardT'; rfl; rfl; (with_reducible rfl); apply LW.v0; rfl; rfl; apply ValP.move; rfl; apply LW.guardT'; rfl; rfl; (with_reducible rfl); apply LW.v0; rfl; rfl; apply ValP.boolNeF; rfl; rfl; (with_reducible rfl); apply LW.v0; rfl; rfl; apply ValP.pickF'; rfl; (with_reducible rfl); rfl; apply LW.v0; rfl; rfl; apply ValP.move; rfl; apply LW.guardT'; rfl; rfl; (with_reducible rfl); apply LW.v0; rfl; rfl; apply ValP.move; rfl; apply LW.guardT'; rfl; rfl; (with_reducible rfl); apply LW.v0; rfl; rfl; apply ValP.notT; rfl; (with_reducible rfl); apply LW.guardT'; rfl; rfl; (with_reducible rfl); apply LW.v0; rfl; rfl; apply ValP.move; rfl; apply LW.guardF'; rfl; rfl; simp only [Bool.not_true, Bool.not_false]; rfl; apply LW.guardF'; rfl; rfl; simp only [Bool.not_true, Bool.not_false]; rfl; apply LW.guardT'; rfl; rfl; (with_reducible rfl); apply LW.v0; rfl; rfl; apply ValP.pickF'; rfl; (with_reducible rfl); rfl; apply LW.v0; rfl; rfl; apply ValP.pickF'; rfl; (with_reducible rfl); rfl; apply LW.nil; refine thenN ?_; apply CW.condF; rfl; (with_reducible rfl); refine CW.skip ?_; refine thenN ?_; refine CW.seq ?_; refine CW.region ?_; apply LW.v0; rfl; rfl; apply ValP.move; rfl; apply LW.callE; rfl; rfl; infer_instance; apply ArgsOk.cons; rfl; exact ArgsOk.nil; intro w _; exact hNm w; apply LW.v0; rfl; rfl; apply ValP.move; rfl; apply LW.v0; rfl; rfl; apply ValP.extractN; rfl; rfl; apply LW.v0; rfl; rfl; apply ValP.extractN; rfl; rfl; apply LW.store; rfl; rfl; apply SetAt.tail; apply SetAt.head; apply Wr.whole; rfl; rfl; rfl; apply LW.v0; rfl; rfl; apply ValP.assign; rfl; apply LW.nil; refine thenN ?_; refine CW.seq ?_; refine CW.region ?_; apply LW.v0; rfl; rfl; apply ValP.move; rfl; apply LW.callE; rfl; rfl; infer_instance; apply ArgsOk.cons; rfl; exact ArgsOk.nil; intro w _; exact hrNm w; apply LW.v0; rfl; rfl; apply ValP.move; rfl; apply LW.v0; rfl; rfl; apply ValP.extractN; rfl; rfl; apply LW.v0; rfl; rfl; apply ValP.extractN; rfl; rfl; apply LW.store; rfl; rfl; apply SetAt.head; apply Wr.whole; rfl; rfl; rfl; apply LW.v0; rfl; rfl; apply ValP.assign; rfl; apply LW.nil; refine thenN ?_; refine CW.seq ?_; refine CW.region ?_; apply LW.load; rfl; rfl; apply Known.at; apply FsAt.tail; apply FsAt.head; exact Rd.whole rfl; apply LW.load; rfl; rfl; apply Known.at; apply FsAt.head; exact Rd.whole rfl; apply LW.v0; rfl; rfl; apply ValP.eqlSame; rfl; rfl; kernel_rfl; apply LW.v0; rfl; rfl; apply ValP.move; rfl; apply LW.guardT'; rfl; rfl; (with_reducible rfl); apply LW.v0; rfl; rfl; apply ValP.move; rfl; apply LW.guardT'; rfl; rfl; (with_reducible rfl); apply LW.v0; rfl; rfl; apply ValP.eqF; rfl; rfl; omega; apply LW.guardT'; rfl; rfl; (with_reducible rfl); apply LW.v0; rfl; rfl; apply ValP.move; rfl; apply LW.guardT'; rfl; rfl; (with_reducible rfl); apply LW.v0; rfl; rfl; apply ValP.boolEqT; rfl; rfl; (with_reducible rfl); apply LW.v0; rfl; rfl; apply ValP.pickT'; rfl; (with_reducible rfl); rfl; apply LW.v0; rfl; rfl; apply ValP.move; rfl; apply LW.guardT'; rfl; rfl; (with_reducible rfl); apply LW.v0; rfl; rfl; apply ValP.move; rfl; apply LW.guardT'; rfl; rfl; (with_reducible rfl); apply LW.v0; rfl; rfl; apply ValP.move; rfl; apply LW.guardT'; rfl; rfl; (with_reducible rfl); apply LW.v0; rfl; rfl; apply ValP.move; rfl; apply LW.guardT'; rfl; rfl; (with_reducible rfl); apply LW.v0; rfl; rfl; apply ValP.eqT; rfl; rfl; omega; apply LW.guardT'; rfl; rfl; (with_reducible rfl); apply LW.v0; rfl; rfl; apply ValP.pickF'; rfl; (with_reducible rfl); rfl; apply LW.v0; rfl; rfl; apply ValP.pickT'; rfl; (with_reducible rfl); rfl; apply LW.v0; rfl; rfl; apply ValP.assign; rfl; apply LW.nil; refine thenN ?_; refine CW.ret ?_)
        (apply finR; exact .inl rfl; rfl; rfl; rfl; apply ResL.cons; exact Res.tmp rfl; exact ResL.nil)
        rfl
      | some z =>
        have hN0 := Named_calls s
        have hr0 := rNamed_calls s
        rw [hn] at hN0 hr0
        have hNm : ∀ w, Calls Tryd.prog 13 #[sv s] w (Ret w (.tuple #[.agg (opc z), .int .i64 0])) := hN0
        have hrNm : ∀ w, Calls Tryd.prog 14 #[sv s] w (Ret w (.tuple #[.agg (opc z), .bool true])) := hr0
        (refine CW.seq ?_; refine CW.region ?_; apply LW.v0; rfl; rfl; apply ValP.assign; rfl; apply LW.nil; refine thenN ?_; refine CW.seq ?_; refine CW.seq ?_; refine CW.region ?_; apply LW.callE; rfl; rfl; infer_instance; exact ArgsOk.nil; intro w _; exact wakes_calls w; apply LW.v0; rfl; rfl; apply ValP.notT; rfl; (with_reducible rfl); apply LW.nil; refine thenN ?_; apply CW.condF; rfl; (with_reducible rfl); refine CW.skip ?_; refine thenN ?_; refine CW.seq ?_; refine CW.seq ?_; refine CW.region ?_; apply LW.v0; rfl; rfl; apply ValP.move; rfl; apply LW.v0; rfl; rfl; apply ValP.lenStr; rfl; infer_instance; rfl; apply LW.v0; rfl; rfl; apply ValP.gtrF; rfl; rfl; omega; apply LW.nil; refine thenN ?_; apply CW.condF; rfl; (with_reducible rfl); refine CW.skip ?_; refine thenN ?_; refine CW.seq ?_; refine CW.region ?_; apply LW.v0; rfl; rfl; apply ValP.move; rfl; apply LW.callE; rfl; rfl; infer_instance; apply ArgsOk.cons; rfl; exact ArgsOk.nil; intro w _; exact hOf w; apply LW.v0; rfl; rfl; apply ValP.move; rfl; apply LW.v0; rfl; rfl; apply ValP.extractN; rfl; rfl; apply LW.v0; rfl; rfl; apply ValP.extractN; rfl; rfl; apply LW.allocA; rfl; intro _; apply LW.store; rfl; rfl; apply SetAt.head; apply Wr.whole; rfl; rfl; rfl; apply LW.v0; rfl; rfl; apply ValP.assign; rfl; apply LW.nil; refine thenN ?_; refine CW.seq ?_; refine CW.region ?_; apply LW.v0; rfl; rfl; apply ValP.move; rfl; apply LW.callE; rfl; rfl; infer_instance; apply ArgsOk.cons; rfl; exact ArgsOk.nil; intro w _; exact hrOf w; apply LW.v0; rfl; rfl; apply ValP.move; rfl; apply LW.v0; rfl; rfl; apply ValP.extractN; rfl; rfl; apply LW.v0; rfl; rfl; apply ValP.extractN; rfl; rfl; apply LW.allocA; rfl; intro _; apply LW.store; rfl; rfl; apply SetAt.head; apply Wr.whole; rfl; rfl; rfl; apply LW.v0; rfl; rfl; apply ValP.assign; rfl; apply LW.nil; refine thenN ?_; refine CW.seq ?_; refine CW.seq ?_; refine CW.region ?_; apply LW.load; rfl; rfl; apply Known.at; apply FsAt.tail; apply FsAt.head; exact Rd.whole rfl; apply LW.load; rfl; rfl; apply Known.at; apply FsAt.head; exact Rd.whole rfl; apply LW.v0; rfl; rfl; apply ValP.neqSame; rfl; rfl; kernel_rfl; apply LW.v0; rfl; rfl; apply ValP.move; rfl; apply LW.guardT'; rfl; rfl; (with_reducible rfl); apply LW.v0; rfl; rfl; apply ValP.move; rfl; apply LW.guardT'; rfl; rfl; (with_reducible rfl); apply LW.v0; rfl; rfl; apply ValP.eqT; rfl; rfl; omega; apply LW.guardT'; rfl; rfl; (with_reducible rfl); apply LW.v0; rfl; rfl; apply ValP.move; rfl; apply LW.guardT'; rfl; rfl; (with_reducible rfl); apply LW.v0; rfl; rfl; apply ValP.boolNeF; rfl; rfl; (with_reducible rfl); apply LW.v0; rfl; rfl; apply ValP.pickF'; rfl; (with_reducible rfl); rfl; apply LW.v0; rfl; rfl; apply ValP.move; rfl; apply LW.guardT'; rfl; rfl; (with_reducible rfl); apply LW.v0; rfl; rfl; apply ValP.move; rfl; apply LW.guardT'; rfl; rfl; (with_reducible rfl); apply LW.v0; rfl; rfl; apply ValP.notT; rfl; (with_reducible rfl); apply LW.guardT'; rfl; rfl; (with_reducible rfl); apply LW.v0; rfl; rfl; apply ValP.move; rfl; apply LW.guardF'; rfl; rfl; simp only [Bool.not_true, Bool.not_false]; rfl; apply LW.guardF'; rfl; rfl; simp only [Bool.not_true, Bool.not_false]; rfl; apply LW.guardT'; rfl; rfl; (with_reducible rfl); apply LW.v0; rfl; rfl; apply ValP.pickF'; rfl; (with_reducible rfl); rfl; apply LW.v0; rfl; rfl; apply ValP.pickF'; rfl; (with_reducible rfl); rfl; apply LW.nil; refine thenN ?_; apply CW.condF; rfl; (with_reducible rfl); refine CW.skip ?_; refine thenN ?_; refine CW.seq ?_; refine CW.region ?_; apply LW.v0; rfl; rfl; apply ValP.move; rfl; apply LW.callE; rfl; rfl; infer_instance; apply ArgsOk.cons; rfl; exact ArgsOk.nil; intro w _; exact hNm w; apply LW.v0; rfl; rfl; apply ValP.move; rfl; apply LW.v0; rfl; rfl; apply ValP.extractN; rfl; rfl; apply LW.v0; rfl; rfl; apply ValP.extractN; rfl; rfl; apply LW.store; rfl; rfl; apply SetAt.tail; apply SetAt.head; apply Wr.whole; rfl; rfl; rfl; apply LW.v0; rfl; rfl; apply ValP.assign; rfl; apply LW.nil; refine thenN ?_; refine CW.seq ?_; refine CW.region ?_; apply LW.v0; rfl; rfl; apply ValP.move; rfl; apply LW.callE; rfl; rfl; infer_instance; apply ArgsOk.cons; rfl; exact ArgsOk.nil; intro w _; exact hrNm w; apply LW.v0; rfl; rfl; apply ValP.move; rfl; apply LW.v0; rfl; rfl; apply ValP.extractN; rfl; rfl; apply LW.v0; rfl; rfl; apply ValP.extractN; rfl; rfl; apply LW.store; rfl; rfl; apply SetAt.head; apply Wr.whole; rfl; rfl; rfl; apply LW.v0; rfl; rfl; apply ValP.assign; rfl; apply LW.nil; refine thenN ?_; refine CW.seq ?_; refine CW.region ?_; apply LW.load; rfl; rfl; apply Known.at; apply FsAt.tail; apply FsAt.head; exact Rd.whole rfl; apply LW.load; rfl; rfl; apply Known.at; apply FsAt.head; exact Rd.whole rfl; apply LW.v0; rfl; rfl; apply ValP.eqlSame; rfl; rfl; kernel_rfl; apply LW.v0; rfl; rfl; apply ValP.move; rfl; apply LW.guardT'; rfl; rfl; (with_reducible rfl); apply LW.v0; rfl; rfl; apply ValP.move; rfl; apply LW.guardT'; rfl; rfl; (with_reducible rfl); apply LW.v0; rfl; rfl; apply ValP.eqT; rfl; rfl; omega; apply LW.guardT'; rfl; rfl; (with_reducible rfl); apply LW.v0; rfl; rfl; apply ValP.move; rfl; apply LW.guardT'; rfl; rfl; (with_reducible rfl); apply LW.v0; rfl; rfl; apply ValP.boolEqT; rfl; rfl; (with_reducible rfl); apply LW.v0; rfl; rfl; apply ValP.pickT'; rfl; (with_reducible rfl); rfl; apply LW.v0; rfl; rfl; apply ValP.move; rfl; apply LW.guardT'; rfl; rfl; (with_reducible rfl); apply LW.v0; rfl; rfl; apply ValP.move; rfl; apply LW.guardT'; rfl; rfl; (with_reducible rfl); apply LW.v0; rfl; rfl; apply ValP.move; rfl; apply LW.guardF'; rfl; rfl; simp only [Bool.not_true, Bool.not_false]; rfl; apply LW.guardF'; rfl; rfl; simp only [Bool.not_true, Bool.not_false]; rfl; apply LW.guardT'; rfl; rfl; (with_reducible rfl); apply LW.v0; rfl; rfl; apply ValP.pickT'; rfl; (with_reducible rfl); rfl; apply LW.v0; rfl; rfl; apply ValP.pickT'; rfl; (with_reducible rfl); rfl; apply LW.v0; rfl; rfl; apply ValP.assign; rfl; apply LW.nil; refine thenN ?_; refine CW.ret ?_)
        (apply finR; exact .inl rfl; rfl; rfl; rfl; apply ResL.cons; exact Res.tmp rfl; exact ResL.nil)
        rfl
end Go.Proofs.YtbhicncgjplnoaaDoor

/-
  Texts of programs, programs of texts: the walks.
  Conditions: none.
-/
namespace Go.Proofs.YtbhicncgjplnoaaDoor
open Go Go.RowKit SL
set_option maxRecDepth 8000
set_option maxHeartbeats 4000000
set_option linter.unusedSimpArgs false
set_option linter.unusedVariables false
attribute [local irreducible] SL.CW SL.LW SL.DW Calls SL.Ret SL.RetG SL.beginQ SL.roundQ SL.rangeQ SL.inQ SL.RW SL.AnyW SL.thenQ SL.thenC SL.thenW SL.blkQ SL.finQ SL.ValP SL.NewP SL.SetP SL.CallP SL.Rd SL.Wr SL.Known
attribute [local irreducible] opOf named parseU textL jumpsL
theorem textV_ok {bs : List UInt8} (h : bs.length ≤ 200) : TextV bs = .tuple #[sv (textL bs), .int .i64 0] := if_pos h
theorem textV_no {bs : List UInt8} (h : ¬ bs.length ≤ 200) : TextV bs = .tuple #[sv [], .int .i64 3] := if_neg h
theorem CodeTexts_walk (v : Value) (bs : List UInt8) (w : World) (hv : RowAt w 1 v bs.length (ucs bs)) : Calls Tryd.prog 4 #[v] w (Ret w (.bool true)) := by
  have hT0 : ∀ w' {fs}, St w [] fs w' → Calls Tryd.prog 15 #[v] w' (Ret w' (TextV bs)) := fun w' fs hst => Text_calls bs v w' (hv.st hst)
  have hR0 : ∀ w' {fs}, St w [] fs w' → Calls Tryd.prog 16 #[v] w' (Ret w' (.bool (decide (bs.length ≤ 200)))) := fun w' fs hst => Right_calls v _ _ w' (hv.st hst)
  have hX0 : bs.length ≤ 500 → ∀ w' {fs}, St w [] fs w' → Calls Tryd.prog 18 #[v] w' (Ret w' (sv (textL bs))) := fun hb w' fs hst => rText_calls bs (by omega) v w' (hv.st hst)
  obtain ⟨p0, c0, rfl, _, _⟩ := hv.form
  refine enter (args := [_]) _ [] [] Tryd.func4 rfl Tryd.ntmps4 rfl (by simp) .nil ?_
  rcases Nat.lt_or_ge 500 bs.length with hgt | hle
  · (refine CW.seq ?_; refine CW.region ?_; apply LW.v0; rfl; rfl; apply ValP.assign; rfl; apply LW.nil; refine thenN ?_; refine CW.seq ?_; refine CW.seq ?_; refine CW.region ?_; apply LW.callE; rfl; rfl; infer_instance; exact ArgsOk.nil; intro w _; exact wakes_calls w; apply LW.v0; rfl; rfl; apply ValP.notT; rfl; (with_reducible rfl); apply LW.nil; refine thenN ?_; apply CW.condF; rfl; (with_reducible rfl); refine CW.skip ?_; refine thenN ?_; refine CW.seq ?_; refine CW.seq ?_; refine CW.region ?_; apply LW.v0; rfl; rfl; apply ValP.move; rfl; apply LW.v0; rfl; rfl; apply ValP.lenR; rfl; infer_instance; rfl; apply LW.v0; rfl; rfl; apply ValP.gtrT; rfl; rfl; omega; apply LW.nil; refine thenN ?_; apply CW.condT; rfl; (with_reducible rfl); refine CW.seq ?_; refine CW.region ?_; apply LW.v0; rfl; rfl; apply ValP.assign; rfl; apply LW.nil; refine thenN ?_; refine CW.ret ?_; refine thenR ?_)
    (apply finR; exact .inl rfl; rfl; rfl; rfl; apply ResL.cons; exact Res.tmp rfl; exact ResL.nil)
    rfl
  rcases Nat.lt_or_ge 200 bs.length with hgt2 | hle2
  · rw [textV_no (by omega)] at hT0
    rw [decide_eq_false (by omega)] at hR0
    have hTx := hT0
    have hRi := hR0
    (refine CW.seq ?_; refine CW.region ?_; apply LW.v0; rfl; rfl; apply ValP.assign; rfl; apply LW.nil; refine thenN ?_; refine CW.seq ?_; refine CW.seq ?_; refine CW.region ?_; apply LW.callE; rfl; rfl; infer_instance; exact ArgsOk.nil; intro w _; exact wakes_calls w; apply LW.v0; rfl; rfl; apply ValP.notT; rfl; (with_reducible rfl); apply LW.nil; refine thenN ?_; apply CW.condF; rfl; (with_reducible rfl); refine CW.skip ?_; refine thenN ?_; refine CW.seq ?_; refine CW.seq ?_; refine CW.region ?_; apply LW.v0; rfl; rfl; apply ValP.move; rfl; apply LW.v0; rfl; rfl; apply ValP.lenR; rfl; infer_instance; rfl; apply LW.v0; rfl; rfl; apply ValP.gtrF; rfl; rfl; omega; apply LW.nil; refine thenN ?_; apply CW.condF; rfl; (with_reducible rfl); refine CW.skip ?_; refine thenN ?_; refine CW.seq ?_; refine CW.region ?_; apply LW.v0; rfl; rfl; apply ValP.move; rfl; apply LW.callE; rfl; rfl; infer_instance; apply ArgsOk.cons; rfl; exact ArgsOk.nil; intro w _; exact hTx w (by assumption); apply LW.v0; rfl; rfl; apply ValP.move; rfl; apply LW.v0; rfl; rfl; apply ValP.extractN; rfl; rfl; apply LW.v0; rfl; rfl; apply ValP.extractN; rfl; rfl; apply LW.v0; rfl; rfl; apply ValP.assign; rfl; apply LW.v0; rfl; rfl; apply ValP.assign; rfl; apply LW.nil; refine thenN ?_; refine CW.seq ?_; refine CW.seq ?_; refine CW.region ?_; apply LW.v0; rfl; rfl; apply ValP.move; rfl; apply LW.callE; rfl; rfl; infer_instance; apply ArgsOk.cons; rfl; exact ArgsOk.nil; intro w _; exact hRi w (by assumption); apply LW.v0; rfl; rfl; apply ValP.notF; rfl; (with_reducible rfl); apply LW.nil; refine thenN ?_; apply CW.condT; rfl; (with_reducible rfl); refine CW.seq ?_; refine CW.region ?_; apply LW.v0; rfl; rfl; apply ValP.move; rfl; apply LW.v0; rfl; rfl; apply ValP.strEqT; rfl; rfl; (with_reducible rfl); apply LW.v0; rfl; rfl; apply ValP.move; rfl; apply LW.guardT'; rfl; rfl; (with_reducible rfl); apply LW.v0; rfl; rfl; apply ValP.move; rfl; apply LW.guardT'; rfl; rfl; (with_reducible rfl); apply LW.v0; rfl; rfl; apply ValP.eqT; rfl; rfl; omega; apply LW.v0; rfl; rfl; apply ValP.pickT'; rfl; (with_reducible rfl); rfl; apply LW.v0; rfl; rfl; apply ValP.assign; rfl; apply LW.nil; refine thenN ?_; refine CW.ret ?_; refine thenR ?_)
    (apply finR; exact .inl rfl; rfl; rfl; rfl; apply ResL.cons; exact Res.tmp rfl; exact ResL.nil)
    rfl
  · rw [textV_ok hle2] at hT0
    rw [decide_eq_true hle2] at hR0
    have hTx := hT0
    have hRi := hR0
    have hrT := hX0 hle
    have hpt := parse_text bs hle2
    obtain ⟨T, hT⟩ : ∃ T, textL bs = T := ⟨_, rfl⟩
    rw [hT] at hTx hrT hpt
    (refine CW.seq ?_; refine CW.region ?_; apply LW.v0; rfl; rfl; apply ValP.assign; rfl; apply LW.nil; refine thenN ?_; refine CW.seq ?_; refine CW.seq ?_; refine CW.region ?_; apply LW.callE; rfl; rfl; infer_instance; exact ArgsOk.nil; intro w _; exact wakes_calls w; apply LW.v0; rfl; rfl; apply ValP.notT; rfl; (with_reducible rfl); apply LW.nil; refine thenN ?_; apply CW.condF; rfl; (with_reducible rfl); refine CW.skip ?_; refine thenN ?_; refine CW.seq ?_; refine CW.seq ?_; refine CW.region ?_; apply LW.v0; rfl; rfl; apply ValP.move; rfl; apply LW.v0; rfl; rfl; apply ValP.lenR; rfl; infer_instance; rfl; apply LW.v0; rfl; rfl; apply ValP.gtrF; rfl; rfl; omega; apply LW.nil; refine thenN ?_; apply CW.condF; rfl; (with_reducible rfl); refine CW.skip ?_; refine thenN ?_; refine CW.seq ?_; refine CW.region ?_; apply LW.v0; rfl; rfl; apply ValP.move; rfl; apply LW.callE; rfl; rfl; infer_instance; apply ArgsOk.cons; rfl; exact ArgsOk.nil; intro w _; exact hTx w (by assumption); apply LW.v0; rfl; rfl; apply ValP.move; rfl; apply LW.v0; rfl; rfl; apply ValP.extractN; rfl; rfl; apply LW.v0; rfl; rfl; apply ValP.extractN; rfl; rfl; apply LW.v0; rfl; rfl; apply ValP.assign; rfl; apply LW.v0; rfl; rfl; apply ValP.assign; rfl; apply LW.nil; refine thenN ?_; refine CW.seq ?_; refine CW.seq ?_; refine CW.region ?_; apply LW.v0; rfl; rfl; apply ValP.move; rfl; apply LW.callE; rfl; rfl; infer_instance; apply ArgsOk.cons; rfl; exact ArgsOk.nil; intro w _; exact hRi w (by assumption); apply LW.v0; rfl; rfl; apply ValP.notT; rfl; (with_reducible rfl); apply LW.nil; refine thenN ?_; apply CW.condF; rfl; (with_reducible rfl); refine CW.skip ?_; refine thenN ?_; refine CW.seq ?_; refine CW.region ?_; apply LW.v0; rfl; rfl; apply ValP.move; rfl)
    refine LW.callR rfl rfl inferInstance (by (apply ArgsOk.cons; rfl; exact ArgsOk.nil)) (fun w' hst => Parse_calls T w') ?_
    intro v2 g2 h2
    unfold ParseR at h2
    rw [hpt] at h2
    obtain ⟨rv, rfl, hrv⟩ := h2
    obtain ⟨p2, c2, rfl⟩ := hrv.form
    have hSm0 : ∀ w', St w [] (g2 ++ []) w' → Calls Tryd.prog 19 #[.slice p2 bs.length c2, .slice p0 bs.length c0] w' (Ret w' (.bool (decide (bs = bs)))) := fun w' hst => Same_calls bs bs _ _ w' (IsRow.at (pre := []) (post := []) hrv hst) (hv.st hst)
    rw [decide_eq_true rfl] at hSm0
    have hSm := hSm0
    (apply LW.v0; rfl; rfl; apply ValP.move; rfl; apply LW.v0; rfl; rfl; apply ValP.extractN; rfl; rfl; apply LW.v0; rfl; rfl; apply ValP.extractN; rfl; rfl; apply LW.v0; rfl; rfl; apply ValP.assign; rfl; apply LW.v0; rfl; rfl; apply ValP.assign; rfl; apply LW.nil; refine thenN ?_; refine CW.seq ?_; refine CW.region ?_; apply LW.v0; rfl; rfl; apply ValP.move; rfl; apply LW.v0; rfl; rfl; apply ValP.eqT; rfl; rfl; omega; apply LW.v0; rfl; rfl; apply ValP.move; rfl; apply LW.guardT'; rfl; rfl; (with_reducible rfl); apply LW.v0; rfl; rfl; apply ValP.move; rfl; apply LW.guardT'; rfl; rfl; (with_reducible rfl); apply LW.v0; rfl; rfl; apply ValP.move; rfl; apply LW.guardT'; rfl; rfl; (with_reducible rfl); apply LW.callE; rfl; rfl; infer_instance; apply ArgsOk.cons; rfl; exact ArgsOk.nil; intro w _; exact hrT w (by assumption); apply LW.guardT'; rfl; rfl; (with_reducible rfl); apply LW.v0; rfl; rfl; apply ValP.strEqT; rfl; rfl; (with_reducible rfl); apply LW.v0; rfl; rfl; apply ValP.pickT'; rfl; (with_reducible rfl); rfl; apply LW.v0; rfl; rfl; apply ValP.move; rfl; apply LW.guardT'; rfl; rfl; (with_reducible rfl); apply LW.v0; rfl; rfl; apply ValP.move; rfl; apply LW.guardT'; rfl; rfl; (with_reducible rfl); apply LW.v0; rfl; rfl; apply ValP.eqT; rfl; rfl; omega; apply LW.v0; rfl; rfl; apply ValP.pickT'; rfl; (with_reducible rfl); rfl; apply LW.v0; rfl; rfl; apply ValP.move; rfl; apply LW.guardT'; rfl; rfl; (with_reducible rfl); apply LW.v0; rfl; rfl; apply ValP.move; rfl; apply LW.guardT'; rfl; rfl; (with_reducible rfl); apply LW.v0; rfl; rfl; apply ValP.move; rfl; apply LW.guardT'; rfl; rfl; (with_reducible rfl); apply LW.callE; rfl; rfl; infer_instance; apply ArgsOk.cons; rfl; apply ArgsOk.cons; rfl; exact ArgsOk.nil; intro w _; exact hSm w (by assumption); apply LW.v0; rfl; rfl; apply ValP.pickT'; rfl; (with_reducible rfl); rfl; apply LW.v0; rfl; rfl; apply ValP.assign; rfl; apply LW.nil; refine thenN ?_; refine CW.ret ?_)
    (apply finR; exact .inl rfl; rfl; rfl; rfl; apply ResL.cons; exact Res.tmp rfl; exact ResL.nil)
    rfl
theorem CodeParses_walk (s : List UInt8) (hs : s.length ≤ maxLen) (w : World) : Calls Tryd.prog 5 #[sv s] w (Ret w (.bool true)) := by
  refine enter (args := [_]) _ [] [] Tryd.func5 rfl Tryd.ntmps5 rfl (by simp) .nil ?_
  rcases Nat.lt_or_ge 5000 s.length with hgt | hle
  · (refine CW.seq ?_; refine CW.region ?_; apply LW.v0; rfl; rfl; apply ValP.assign; rfl; apply LW.nil; refine thenN ?_; refine CW.seq ?_; refine CW.seq ?_; refine CW.region ?_; apply LW.callE; rfl; rfl; infer_instance; exact ArgsOk.nil; intro w _; exact wakes_calls w; apply LW.v0; rfl; rfl; apply ValP.notT; rfl; (with_reducible rfl); apply LW.nil; refine thenN ?_; apply CW.condF; rfl; (with_reducible rfl); refine CW.skip ?_; refine thenN ?_; refine CW.seq ?_; refine CW.seq ?_; refine CW.region ?_; apply LW.v0; rfl; rfl; apply ValP.move; rfl; apply LW.v0; rfl; rfl; apply ValP.lenStr; rfl; infer_instance; rfl; apply LW.v0; rfl; rfl; apply ValP.gtrT; rfl; rfl; omega; apply LW.nil; refine thenN ?_; apply CW.condT; rfl; (with_reducible rfl); refine CW.seq ?_; refine CW.region ?_; apply LW.v0; rfl; rfl; apply ValP.assign; rfl; apply LW.nil; refine thenN ?_; refine CW.ret ?_; refine thenR ?_)
    (apply finR; exact .inl rfl; rfl; rfl; rfl; apply ResL.cons; exact Res.tmp rfl; exact ResL.nil)
    rfl
  · (refine CW.seq ?_; refine CW.region ?_; apply LW.v0; rfl; rfl; apply ValP.assign; rfl; apply LW.nil; refine thenN ?_; refine CW.seq ?_; refine CW.seq ?_; refine CW.region ?_; apply LW.callE; rfl; rfl; infer_instance; exact ArgsOk.nil; intro w _; exact wakes_calls w; apply LW.v0; rfl; rfl; apply ValP.notT; rfl; (with_reducible rfl); apply LW.nil; refine thenN ?_; apply CW.condF; rfl; (with_reducible rfl); refine CW.skip ?_; refine thenN ?_; refine CW.seq ?_; refine CW.seq ?_; refine CW.region ?_; apply LW.v0; rfl; rfl; apply ValP.move; rfl; apply LW.v0; rfl; rfl; apply ValP.lenStr; rfl; infer_instance; rfl; apply LW.v0; rfl; rfl; apply ValP.gtrF; rfl; rfl; omega; apply LW.nil; refine thenN ?_; apply CW.condF; rfl; (with_reducible rfl); refine CW.skip ?_; refine thenN ?_; refine CW.seq ?_; refine CW.region ?_; apply LW.v0; rfl; rfl; apply ValP.move; rfl)
    refine LW.callR rfl rfl inferInstance (by (apply ArgsOk.cons; rfl; exact ArgsOk.nil)) (fun w' hst => Parse_calls s w') ?_
    intro v2 g2 h2
    unfold ParseR at h2
    cases hp : parseU s with
    | none =>
      rw [hp] at h2
      obtain ⟨rfl, rfl⟩ := h2
      (apply LW.v0; rfl; rfl; apply ValP.move; rfl; apply LW.v0; rfl; rfl; apply ValP.extractN; rfl; rfl; apply LW.v0; rfl; rfl; apply ValP.extractN; rfl; rfl; apply LW.v0; rfl; rfl; apply ValP.assign; rfl; apply LW.v0; rfl; rfl; apply ValP.assign; rfl; apply LW.nil; refine thenN ?_; refine CW.seq ?_; refine CW.seq ?_; refine CW.region ?_; apply LW.v0; rfl; rfl; apply ValP.move; rfl; apply LW.v0; rfl; rfl; apply ValP.neT; rfl; rfl; omega; apply LW.nil; refine thenN ?_; apply CW.condT; rfl; (with_reducible rfl); refine CW.seq ?_; refine CW.region ?_; apply LW.v0; rfl; rfl; apply ValP.move; rfl; apply LW.v0; rfl; rfl; apply ValP.lenR; rfl; infer_instance; rfl; apply LW.v0; rfl; rfl; apply ValP.eqT; rfl; rfl; omega; apply LW.v0; rfl; rfl; apply ValP.move; rfl; apply LW.guardT'; rfl; rfl; (with_reducible rfl); apply LW.v0; rfl; rfl; apply ValP.move; rfl; apply LW.guardT'; rfl; rfl; (with_reducible rfl); apply LW.v0; rfl; rfl; apply ValP.eqT; rfl; rfl; omega; apply LW.v0; rfl; rfl; apply ValP.pickT'; rfl; (with_reducible rfl); rfl; apply LW.v0; rfl; rfl; apply ValP.assign; rfl; apply LW.nil; refine thenN ?_; refine CW.ret ?_; refine thenR ?_)
      (apply finR; exact .inl rfl; rfl; rfl; rfl; apply ResL.cons; exact Res.tmp rfl; exact ResL.nil)
      rfl
    | some o =>
      rw [hp] at h2
      obtain ⟨rv, rfl, hrv⟩ := h2
      obtain ⟨ho1, ho2⟩ := parse_inv hp
      obtain ⟨p2, c2, rfl⟩ := hrv.form
      have hRi0 : ∀ w', St w [] (g2 ++ []) w' → Calls Tryd.prog 16 #[.slice p2 o.length c2] w' (Ret w' (.bool (decide (o.length ≤ 200)))) := fun w' hst => Right_calls _ _ _ w' (IsRow.at (pre := []) (post := []) hrv hst)
      have hrT0 : ∀ w', St w [] (g2 ++ []) w' → Calls Tryd.prog 18 #[.slice p2 o.length c2] w' (Ret w' (sv (textL o))) := fun w' hst => rText_calls o (by omega) _ w' (IsRow.at (pre := []) (post := []) hrv hst)
      rw [decide_eq_true ho1] at hRi0
      rw [ho2] at hrT0
      have hRi := hRi0
      have hrT := hrT0
      (apply LW.v0; rfl; rfl; apply ValP.move; rfl; apply LW.v0; rfl; rfl; apply ValP.extractN; rfl; rfl; apply LW.v0; rfl; rfl; apply ValP.extractN; rfl; rfl; apply LW.v0; rfl; rfl; apply ValP.assign; rfl; apply LW.v0; rfl; rfl; apply ValP.assign; rfl; apply LW.nil; refine thenN ?_; refine CW.seq ?_; refine CW.seq ?_; refine CW.region ?_; apply LW.v0; rfl; rfl; apply ValP.move; rfl; apply LW.v0; rfl; rfl; apply ValP.neF; rfl; rfl; omega; apply LW.nil; refine thenN ?_; apply CW.condF; rfl; (with_reducible rfl); refine CW.skip ?_; refine thenN ?_; refine CW.seq ?_; refine CW.region ?_; apply LW.v0; rfl; rfl; apply ValP.move; rfl; apply LW.callE; rfl; rfl; infer_instance; apply ArgsOk.cons; rfl; exact ArgsOk.nil; intro w _; exact hRi w (by assumption); apply LW.v0; rfl; rfl; apply ValP.move; rfl; apply LW.guardT'; rfl; rfl; (with_reducible rfl); apply LW.v0; rfl; rfl; apply ValP.move; rfl; apply LW.guardT'; rfl; rfl; (with_reducible rfl); apply LW.callE; rfl; rfl; infer_instance; apply ArgsOk.cons; rfl; exact ArgsOk.nil; intro w _; exact hrT w (by assumption); apply LW.guardT'; rfl; rfl; (with_reducible rfl); apply LW.v0; rfl; rfl; apply ValP.move; rfl; apply LW.guardT'; rfl; rfl; (with_reducible rfl); apply LW.v0; rfl; rfl; apply ValP.strEqT; rfl; rfl; (with_reducible rfl); apply LW.v0; rfl; rfl; apply ValP.pickT'; rfl; (with_reducible rfl); rfl; apply LW.v0; rfl; rfl; apply ValP.assign; rfl; apply LW.nil; refine thenN ?_; refine CW.ret ?_)
      (apply finR; exact .inl rfl; rfl; rfl; rfl; apply ResL.cons; exact Res.tmp rfl; exact ResL.nil)
      rfl
end Go.Proofs.YtbhicncgjplnoaaDoor

/-
  Programs and texts lead back to one another: the walk.
  Conditions: none.
-/
namespace Go.Proofs.YtbhicncgjplnoaaDoor
open Go Go.RowKit SL
set_option maxRecDepth 8000
set_option maxHeartbeats 4000000
set_option linter.unusedSimpArgs false
set_option linter.unusedVariables false
attribute [local irreducible] SL.CW SL.LW SL.DW Calls SL.Ret SL.RetG SL.beginQ SL.roundQ SL.rangeQ SL.inQ SL.RW SL.AnyW SL.thenQ SL.thenC SL.thenW SL.blkQ SL.finQ SL.ValP SL.NewP SL.SetP SL.CallP SL.Rd SL.Wr SL.Known
attribute [local irreducible] opOf named parseU textL jumpsL
theorem bEqual_calls (va vb : Value) (a b : List UInt8) (w : World) (ha : RowAt w 1 va a.length (ucs a)) (hb : RowAt w 1 vb b.length (ucs b)) : Calls Tryd.prog 21 #[va, vb] w (Ret w (.bool (decide (a = b)))) := by
  refine enter (args := [_, _]) _ [] [] Tryd.func21 rfl Tryd.ntmps21 rfl (by simp) .nil ?_
  (refine CW.seq ?_; refine CW.region ?_; apply LW.v0; rfl; rfl; apply ValP.assign; rfl; apply LW.nil; refine thenN ?_; refine CW.seq ?_; refine CW.region ?_; apply LW.v0; rfl; rfl; apply ValP.move; rfl)
  refine LW.toStr rfl inferInstance inferInstance inferInstance rfl (fun w' hs => ha.st hs) ?_
  (apply LW.v0; rfl; rfl; apply ValP.move; rfl)
  refine LW.toStr rfl inferInstance inferInstance inferInstance rfl (fun w' hs => hb.st hs) ?_
  (apply LW.v0; rfl; rfl; apply ValP.strEq; rfl; rfl; apply LW.v0; rfl; rfl; apply ValP.assign; rfl; apply LW.nil; refine thenN ?_; refine CW.ret ?_)
  (apply finR; exact .inl rfl; rfl; rfl; rfl; apply ResL.cons; exact Res.tmp rfl; exact ResL.nil)
  rw [bytes_eq]
  rfl
theorem CodeBack_walk (va : Value) (a : List UInt8) (vb : Value) (b : List UInt8) (s : List UInt8) (hs : s.length ≤ maxLen) (w : World) (ha : RowAt w 1 va a.length (ucs a)) (hb : RowAt w 1 vb b.length (ucs b)) : Calls Tryd.prog 6 #[va, vb, sv s] w (Ret w (.bool true)) := by
  have hTa0 : ∀ w' {fs}, St w [] fs w' → Calls Tryd.prog 15 #[va] w' (Ret w' (TextV a)) := fun w' fs hst => Text_calls a va w' (ha.st hst)
  have hTb0 : ∀ w' {fs}, St w [] fs w' → Calls Tryd.prog 15 #[vb] w' (Ret w' (TextV b)) := fun w' fs hst => Text_calls b vb w' (hb.st hst)
  obtain ⟨p0, c0, rfl, _, _⟩ := ha.form
  obtain ⟨p1, c1, rfl, _, _⟩ := hb.form
  refine enter (args := [_, _, _]) _ [] [] Tryd.func6 rfl Tryd.ntmps6 rfl (by simp) .nil ?_
  rcases Nat.lt_or_ge 500 a.length with h1 | h1
  · (refine CW.seq ?_; refine CW.region ?_; apply LW.v0; rfl; rfl; apply ValP.assign; rfl; apply LW.nil; refine thenN ?_; refine CW.seq ?_; refine CW.seq ?_; refine CW.region ?_; apply LW.callE; rfl; rfl; infer_instance; exact ArgsOk.nil; intro w _; exact wakes_calls w; apply LW.v0; rfl; rfl; apply ValP.notT; rfl; (with_reducible rfl); apply LW.nil; refine thenN ?_; apply CW.condF; rfl; (with_reducible rfl); refine CW.skip ?_; refine thenN ?_; refine CW.seq ?_; refine CW.seq ?_; refine CW.region ?_; apply LW.v0; rfl; rfl; apply ValP.move; rfl; apply LW.v0; rfl; rfl; apply ValP.lenR; rfl; infer_instance; rfl; apply LW.v0; rfl; rfl; apply ValP.gtrT; rfl; rfl; omega; apply LW.v0; rfl; rfl; apply ValP.move; rfl; apply LW.guardF'; rfl; rfl; simp only [Bool.not_true, Bool.not_false]; rfl; apply LW.guardF'; rfl; rfl; simp only [Bool.not_true, Bool.not_false]; rfl; apply LW.guardF'; rfl; rfl; simp only [Bool.not_true, Bool.not_false]; rfl; apply LW.v0; rfl; rfl; apply ValP.pickT'; rfl; (with_reducible rfl); rfl; apply LW.v0; rfl; rfl; apply ValP.move; rfl; apply LW.guardF'; rfl; rfl; simp only [Bool.not_true, Bool.not_false]; rfl; apply LW.guardF'; rfl; rfl; simp only [Bool.not_true, Bool.not_false]; rfl; apply LW.guardF'; rfl; rfl; simp only [Bool.not_true, Bool.not_false]; rfl; apply LW.v0; rfl; rfl; apply ValP.pickT'; rfl; (with_reducible rfl); rfl; apply LW.nil; refine thenN ?_; apply CW.condT; rfl; (with_reducible rfl); refine CW.seq ?_; refine CW.region ?_; apply LW.v0; rfl; rfl; apply ValP.assign; rfl; apply LW.nil; refine thenN ?_; refine CW.ret ?_; refine thenR ?_)
    (apply finR; exact .inl rfl; rfl; rfl; rfl; apply ResL.cons; exact Res.tmp rfl; exact ResL.nil)
    rfl
  rcases Nat.lt_or_ge 500 b.length with h2 | h2
  · (refine CW.seq ?_; refine CW.region ?_; apply LW.v0; rfl; rfl; apply ValP.assign; rfl; apply LW.nil; refine thenN ?_; refine CW.seq ?_; refine CW.seq ?_; refine CW.region ?_; apply LW.callE; rfl; rfl; infer_instance; exact ArgsOk.nil; intro w _; exact wakes_calls w; apply LW.v0; rfl; rfl; apply ValP.notT; rfl; (with_reducible rfl); apply LW.nil; refine thenN ?_; apply CW.condF; rfl; (with_reducible rfl); refine CW.skip ?_; refine thenN ?_; refine CW.seq ?_; refine CW.seq ?_; refine CW.region ?_; apply LW.v0; rfl; rfl; apply ValP.move; rfl; apply LW.v0; rfl; rfl; apply ValP.lenR; rfl; infer_instance; rfl; apply LW.v0; rfl; rfl; apply ValP.gtrF; rfl; rfl; omega; apply LW.v0; rfl; rfl; apply ValP.move; rfl; apply LW.guardT'; rfl; rfl; (with_reducible rfl); apply LW.v0; rfl; rfl; apply ValP.move; rfl; apply LW.guardT'; rfl; rfl; (with_reducible rfl); apply LW.v0; rfl; rfl; apply ValP.lenR; rfl; infer_instance; rfl; apply LW.guardT'; rfl; rfl; (with_reducible rfl); apply LW.v0; rfl; rfl; apply ValP.gtrT; rfl; rfl; omega; apply LW.v0; rfl; rfl; apply ValP.pickF'; rfl; (with_reducible rfl); rfl; apply LW.v0; rfl; rfl; apply ValP.move; rfl; apply LW.guardF'; rfl; rfl; simp only [Bool.not_true, Bool.not_false]; rfl; apply LW.guardF'; rfl; rfl; simp only [Bool.not_true, Bool.not_false]; rfl; apply LW.guardF'; rfl; rfl; simp only [Bool.not_true, Bool.not_false]; rfl; apply LW.v0; rfl; rfl; apply ValP.pickT'; rfl; (with_reducible rfl); rfl; apply LW.nil; refine thenN ?_; apply CW.condT; rfl; (with_reducible rfl); refine CW.seq ?_; refine CW.region ?_; apply LW.v0; rfl; rfl; apply ValP.assign; rfl; apply LW.nil; refine thenN ?_; refine CW.ret ?_; refine thenR ?_)
    (apply finR; exact .inl rfl; rfl; rfl; rfl; apply ResL.cons; exact Res.tmp rfl; exact ResL.nil)
    rfl
  rcases Nat.lt_or_ge 5000 s.length with h3 | h3
  · (refine CW.seq ?_; refine CW.region ?_; apply LW.v0; rfl; rfl; apply ValP.assign; rfl; apply LW.nil; refine thenN ?_; refine CW.seq ?_; refine CW.seq ?_; refine CW.region ?_; apply LW.callE; rfl; rfl; infer_instance; exact ArgsOk.nil; intro w _; exact wakes_calls w; apply LW.v0; rfl; rfl; apply ValP.notT; rfl; (with_reducible rfl); apply LW.nil; refine thenN ?_; apply CW.condF; rfl; (with_reducible rfl); refine CW.skip ?_; refine thenN ?_; refine CW.seq ?_; refine CW.seq ?_; refine CW.region ?_; apply LW.v0; rfl; rfl; apply ValP.move; rfl; apply LW.v0; rfl; rfl; apply ValP.lenR; rfl; infer_instance; rfl; apply LW.v0; rfl; rfl; apply ValP.gtrF; rfl; rfl; omega; apply LW.v0; rfl; rfl; apply ValP.move; rfl; apply LW.guardT'; rfl; rfl; (with_reducible rfl); apply LW.v0; rfl; rfl; apply ValP.move; rfl; apply LW.guardT'; rfl; rfl; (with_reducible rfl); apply LW.v0; rfl; rfl; apply ValP.lenR; rfl; infer_instance; rfl; apply LW.guardT'; rfl; rfl; (with_reducible rfl); apply LW.v0; rfl; rfl; apply ValP.gtrF; rfl; rfl; omega; apply LW.v0; rfl; rfl; apply ValP.pickF'; rfl; (with_reducible rfl); rfl; apply LW.v0; rfl; rfl; apply ValP.move; rfl; apply LW.guardT'; rfl; rfl; (with_reducible rfl); apply LW.v0; rfl; rfl; apply ValP.move; rfl; apply LW.guardT'; rfl; rfl; (with_reducible rfl); apply LW.v0; rfl; rfl; apply ValP.lenStr; rfl; infer_instance; rfl; apply LW.guardT'; rfl; rfl; (with_reducible rfl); apply LW.v0; rfl; rfl; apply ValP.gtrT; rfl; rfl; omega; apply LW.v0; rfl; rfl; apply ValP.pickF'; rfl; (with_reducible rfl); rfl; apply LW.nil; refine thenN ?_; apply CW.condT; rfl; (with_reducible rfl); refine CW.seq ?_; refine CW.region ?_; apply LW.v0; rfl; rfl; apply ValP.assign; rfl; apply LW.nil; refine thenN ?_; refine CW.ret ?_; refine thenR ?_)
    (apply finR; exact .inl rfl; rfl; rfl; rfl; apply ResL.cons; exact Res.tmp rfl; exact ResL.nil)
    rfl
  (refine CW.seq ?_; refine CW.region ?_; apply LW.v0; rfl; rfl; apply ValP.assign; rfl; apply LW.nil; refine thenN ?_; refine CW.seq ?_; refine CW.seq ?_; refine CW.region ?_; apply LW.callE; rfl; rfl; infer_instance; exact ArgsOk.nil; intro w _; exact wakes_calls w; apply LW.v0; rfl; rfl; apply ValP.notT; rfl; (with_reducible rfl); apply LW.nil; refine thenN ?_; apply CW.condF; rfl; (with_reducible rfl); refine CW.skip ?_; refine thenN ?_; refine CW.seq ?_; refine CW.seq ?_; refine CW.region ?_; apply LW.v0; rfl; rfl; apply ValP.move; rfl; apply LW.v0; rfl; rfl; apply ValP.lenR; rfl; infer_instance; rfl; apply LW.v0; rfl; rfl; apply ValP.gtrF; rfl; rfl; omega; apply LW.v0; rfl; rfl; apply ValP.move; rfl; apply LW.guardT'; rfl; rfl; (with_reducible rfl); apply LW.v0; rfl; rfl; apply ValP.move; rfl; apply LW.guardT'; rfl; rfl; (with_reducible rfl); apply LW.v0; rfl; rfl; apply ValP.lenR; rfl; infer_instance; rfl; apply LW.guardT'; rfl; rfl; (with_reducible rfl); apply LW.v0; rfl; rfl; apply ValP.gtrF; rfl; rfl; omega; apply LW.v0; rfl; rfl; apply ValP.pickF'; rfl; (with_reducible rfl); rfl; apply LW.v0; rfl; rfl; apply ValP.move; rfl; apply LW.guardT'; rfl; rfl; (with_reducible rfl); apply LW.v0; rfl; rfl; apply ValP.move; rfl; apply LW.guardT'; rfl; rfl; (with_reducible rfl); apply LW.v0; rfl; rfl; apply ValP.lenStr; rfl; infer_instance; rfl; apply LW.guardT'; rfl; rfl; (with_reducible rfl); apply LW.v0; rfl; rfl; apply ValP.gtrF; rfl; rfl; omega; apply LW.v0; rfl; rfl; apply ValP.pickF'; rfl; (with_reducible rfl); rfl; apply LW.nil; refine thenN ?_; apply CW.condF; rfl; (with_reducible rfl); refine CW.skip ?_; refine thenN ?_; refine CW.seq ?_; refine CW.seq ?_; refine CW.region ?_; apply LW.v0; rfl; rfl; apply ValP.move; rfl)
  refine LW.callR rfl rfl inferInstance (by (apply ArgsOk.cons; rfl; exact ArgsOk.nil)) (fun w' hst => Parse_calls s w') ?_
  intro v2 g2 h2
  unfold ParseR at h2
  cases hp : parseU s with
  | none =>
    rw [hp] at h2
    obtain ⟨rfl, rfl⟩ := h2
    rcases Nat.lt_or_ge 200 a.length with ha2 | ha2
    · rw [textV_no (by omega)] at hTa0
      have hTa := hTa0
      rcases Nat.lt_or_ge 200 b.length with hb2 | hb2
      · rw [textV_no (by omega)] at hTb0
        have hTb := hTb0
        (apply LW.v0; rfl; rfl; apply ValP.move; rfl; apply LW.v0; rfl; rfl; apply ValP.extractN; rfl; rfl; apply LW.v0; rfl; rfl; apply ValP.extractN; rfl; rfl; apply LW.v0; rfl; rfl; apply ValP.assign; rfl; apply LW.v0; rfl; rfl; apply ValP.assign; rfl; apply LW.nil; refine thenN ?_; refine CW.seq ?_; refine CW.region ?_; apply LW.v0; rfl; rfl; apply ValP.move; rfl; apply LW.v0; rfl; rfl; apply ValP.eqF; rfl; rfl; omega; apply LW.nil; refine thenN ?_; apply CW.condF; rfl; (with_reducible rfl); refine CW.skip ?_; refine thenN ?_; refine CW.seq ?_; refine CW.region ?_; apply LW.v0; rfl; rfl; apply ValP.move; rfl; apply LW.callE; rfl; rfl; infer_instance; apply ArgsOk.cons; rfl; exact ArgsOk.nil; intro w _; exact hTa w (by assumption); apply LW.v0; rfl; rfl; apply ValP.move; rfl; apply LW.v0; rfl; rfl; apply ValP.extractN; rfl; rfl; apply LW.v0; rfl; rfl; apply ValP.extractN; rfl; rfl; apply LW.v0; rfl; rfl; apply ValP.assign; rfl; apply LW.v0; rfl; rfl; apply ValP.assign; rfl; apply LW.nil; refine thenN ?_; refine CW.seq ?_; refine CW.region ?_; apply LW.v0; rfl; rfl; apply ValP.move; rfl; apply LW.callE; rfl; rfl; infer_instance; apply ArgsOk.cons; rfl; exact ArgsOk.nil; intro w _; exact hTb w (by assumption); apply LW.v0; rfl; rfl; apply ValP.move; rfl; apply LW.v0; rfl; rfl; apply ValP.extractN; rfl; rfl; apply LW.v0; rfl; rfl; apply ValP.extractN; rfl; rfl; apply LW.v0; rfl; rfl; apply ValP.assign; rfl; apply LW.v0; rfl; rfl; apply ValP.assign; rfl; apply LW.nil; refine thenN ?_; refine CW.seq ?_; refine CW.seq ?_; refine CW.region ?_; apply LW.v0; rfl; rfl; apply ValP.move; rfl; apply LW.v0; rfl; rfl; apply ValP.neT; rfl; rfl; omega; apply LW.v0; rfl; rfl; apply ValP.move; rfl; apply LW.guardF'; rfl; rfl; simp only [Bool.not_true, Bool.not_false]; rfl; apply LW.guardF'; rfl; rfl; simp only [Bool.not_true, Bool.not_false]; rfl; apply LW.v0; rfl; rfl; apply ValP.pickT'; rfl; (with_reducible rfl); rfl; apply LW.nil; refine thenN ?_; apply CW.condT; rfl; (with_reducible rfl); refine CW.seq ?_; refine CW.region ?_; apply LW.v0; rfl; rfl; apply ValP.move; rfl; apply LW.v0; rfl; rfl; apply ValP.eqF; rfl; rfl; omega; apply LW.v0; rfl; rfl; apply ValP.move; rfl; apply LW.guardT'; rfl; rfl; (with_reducible rfl); apply LW.v0; rfl; rfl; apply ValP.move; rfl; apply LW.guardT'; rfl; rfl; (with_reducible rfl); apply LW.v0; rfl; rfl; apply ValP.strEqT; rfl; rfl; (with_reducible rfl); apply LW.v0; rfl; rfl; apply ValP.pickF'; rfl; (with_reducible rfl); rfl; apply LW.v0; rfl; rfl; apply ValP.move; rfl; apply LW.guardT'; rfl; rfl; (with_reducible rfl); apply LW.v0; rfl; rfl; apply ValP.move; rfl; apply LW.guardT'; rfl; rfl; (with_reducible rfl); apply LW.v0; rfl; rfl; apply ValP.eqF; rfl; rfl; omega; apply LW.guardT'; rfl; rfl; (with_reducible rfl); apply LW.v0; rfl; rfl; apply ValP.move; rfl; apply LW.guardT'; rfl; rfl; (with_reducible rfl); apply LW.v0; rfl; rfl; apply ValP.move; rfl; apply LW.guardT'; rfl; rfl; (with_reducible rfl); apply LW.v0; rfl; rfl; apply ValP.strEqT; rfl; rfl; (with_reducible rfl); apply LW.guardT'; rfl; rfl; (with_reducible rfl); apply LW.v0; rfl; rfl; apply ValP.pickF'; rfl; (with_reducible rfl); rfl; apply LW.v0; rfl; rfl; apply ValP.pickT'; rfl; (with_reducible rfl); rfl; apply LW.v0; rfl; rfl; apply ValP.assign; rfl; apply LW.nil; refine thenN ?_; refine CW.ret ?_; refine thenR ?_)
        (apply finR; exact .inl rfl; rfl; rfl; rfl; apply ResL.cons; exact Res.tmp rfl; exact ResL.nil)
        rfl
      · rw [textV_ok hb2] at hTb0
        have hTb := hTb0
        (apply LW.v0; rfl; rfl; apply ValP.move; rfl; apply LW.v0; rfl; rfl; apply ValP.extractN; rfl; rfl; apply LW.v0; rfl; rfl; apply ValP.extractN; rfl; rfl; apply LW.v0; rfl; rfl; apply ValP.assign; rfl; apply LW.v0; rfl; rfl; apply ValP.assign; rfl; apply LW.nil; refine thenN ?_; refine CW.seq ?_; refine CW.region ?_; apply LW.v0; rfl; rfl; apply ValP.move; rfl; apply LW.v0; rfl; rfl; apply ValP.eqF; rfl; rfl; omega; apply LW.nil; refine thenN ?_; apply CW.condF; rfl; (with_reducible rfl); refine CW.skip ?_; refine thenN ?_; refine CW.seq ?_; refine CW.region ?_; apply LW.v0; rfl; rfl; apply ValP.move; rfl; apply LW.callE; rfl; rfl; infer_instance; apply ArgsOk.cons; rfl; exact ArgsOk.nil; intro w _; exact hTa w (by assumption); apply LW.v0; rfl; rfl; apply ValP.move; rfl; apply LW.v0; rfl; rfl; apply ValP.extractN; rfl; rfl; apply LW.v0; rfl; rfl; apply ValP.extractN; rfl; rfl; apply LW.v0; rfl; rfl; apply ValP.assign; rfl; apply LW.v0; rfl; rfl; apply ValP.assign; rfl; apply LW.nil; refine thenN ?_; refine CW.seq ?_; refine CW.region ?_; apply LW.v0; rfl; rfl; apply ValP.move; rfl; apply LW.callE; rfl; rfl; infer_instance; apply ArgsOk.cons; rfl; exact ArgsOk.nil; intro w _; exact hTb w (by assumption); apply LW.v0; rfl; rfl; apply ValP.move; rfl; apply LW.v0; rfl; rfl; apply ValP.extractN; rfl; rfl; apply LW.v0; rfl; rfl; apply ValP.extractN; rfl; rfl; apply LW.v0; rfl; rfl; apply ValP.assign; rfl; apply LW.v0; rfl; rfl; apply ValP.assign; rfl; apply LW.nil; refine thenN ?_; refine CW.seq ?_; refine CW.seq ?_; refine CW.region ?_; apply LW.v0; rfl; rfl; apply ValP.move; rfl; apply LW.v0; rfl; rfl; apply ValP.neT; rfl; rfl; omega; apply LW.v0; rfl; rfl; apply ValP.move; rfl; apply LW.guardF'; rfl; rfl; simp only [Bool.not_true, Bool.not_false]; rfl; apply LW.guardF'; rfl; rfl; simp only [Bool.not_true, Bool.not_false]; rfl; apply LW.v0; rfl; rfl; apply ValP.pickT'; rfl; (with_reducible rfl); rfl; apply LW.nil; refine thenN ?_; apply CW.condT; rfl; (with_reducible rfl); refine CW.seq ?_; refine CW.region ?_; apply LW.v0; rfl; rfl; apply ValP.move; rfl; apply LW.v0; rfl; rfl; apply ValP.eqF; rfl; rfl; omega; apply LW.v0; rfl; rfl; apply ValP.move; rfl; apply LW.guardT'; rfl; rfl; (with_reducible rfl); apply LW.v0; rfl; rfl; apply ValP.move; rfl; apply LW.guardT'; rfl; rfl; (with_reducible rfl); apply LW.v0; rfl; rfl; apply ValP.strEqT; rfl; rfl; (with_reducible rfl); apply LW.v0; rfl; rfl; apply ValP.pickF'; rfl; (with_reducible rfl); rfl; apply LW.v0; rfl; rfl; apply ValP.move; rfl; apply LW.guardT'; rfl; rfl; (with_reducible rfl); apply LW.v0; rfl; rfl; apply ValP.move; rfl; apply LW.guardT'; rfl; rfl; (with_reducible rfl); apply LW.v0; rfl; rfl; apply ValP.eqT; rfl; rfl; omega; apply LW.guardT'; rfl; rfl; (with_reducible rfl); apply LW.v0; rfl; rfl; apply ValP.move; rfl; apply LW.guardF'; rfl; rfl; simp only [Bool.not_true, Bool.not_false]; rfl; apply LW.guardF'; rfl; rfl; simp only [Bool.not_true, Bool.not_false]; rfl; apply LW.guardT'; rfl; rfl; (with_reducible rfl); apply LW.v0; rfl; rfl; apply ValP.pickT'; rfl; (with_reducible rfl); rfl; apply LW.v0; rfl; rfl; apply ValP.pickT'; rfl; (with_reducible rfl); rfl; apply LW.v0; rfl; rfl; apply ValP.assign; rfl; apply LW.nil; refine thenN ?_; refine CW.ret ?_; refine thenR ?_)
        (apply finR; exact .inl rfl; rfl; rfl; rfl; apply ResL.cons; exact Res.tmp rfl; exact ResL.nil)
        rfl
    rcases Nat.lt_or_ge 200 b.length with hb2 | hb2
    · rw [textV_ok ha2] at hTa0
      rw [textV_no (by omega)] at hTb0
      have hTa := hTa0
      have hTb := hTb0
      (apply LW.v0; rfl; rfl; apply ValP.move; rfl; apply LW.v0; rfl; rfl; apply ValP.extractN; rfl; rfl; apply LW.v0; rfl; rfl; apply ValP.extractN; rfl; rfl; apply LW.v0; rfl; rfl; apply ValP.assign; rfl; apply LW.v0; rfl; rfl; apply ValP.assign; rfl; apply LW.nil; refine thenN ?_; refine CW.seq ?_; refine CW.region ?_; apply LW.v0; rfl; rfl; apply ValP.move; rfl; apply LW.v0; rfl; rfl; apply ValP.eqF; rfl; rfl; omega; apply LW.nil; refine thenN ?_; apply CW.condF; rfl; (with_reducible rfl); refine CW.skip ?_; refine thenN ?_; refine CW.seq ?_; refine CW.region ?_; apply LW.v0; rfl; rfl; apply ValP.move; rfl; apply LW.callE; rfl; rfl; infer_instance; apply ArgsOk.cons; rfl; exact ArgsOk.nil; intro w _; exact hTa w (by assumption); apply LW.v0; rfl; rfl; apply ValP.move; rfl; apply LW.v0; rfl; rfl; apply ValP.extractN; rfl; rfl; apply LW.v0; rfl; rfl; apply ValP.extractN; rfl; rfl; apply LW.v0; rfl; rfl; apply ValP.assign; rfl; apply LW.v0; rfl; rfl; apply ValP.assign; rfl; apply LW.nil; refine thenN ?_; refine CW.seq ?_; refine CW.region ?_; apply LW.v0; rfl; rfl; apply ValP.move; rfl; apply LW.callE; rfl; rfl; infer_instance; apply ArgsOk.cons; rfl; exact ArgsOk.nil; intro w _; exact hTb w (by assumption); apply LW.v0; rfl; rfl; apply ValP.move; rfl; apply LW.v0; rfl; rfl; apply ValP.extractN; rfl; rfl; apply LW.v0; rfl; rfl; apply ValP.extractN; rfl; rfl; apply LW.v0; rfl; rfl; apply ValP.assign; rfl; apply LW.v0; rfl; rfl; apply ValP.assign; rfl; apply LW.nil; refine thenN ?_; refine CW.seq ?_; refine CW.seq ?_; refine CW.region ?_; apply LW.v0; rfl; rfl; apply ValP.move; rfl; apply LW.v0; rfl; rfl; apply ValP.neF; rfl; rfl; omega; apply LW.v0; rfl; rfl; apply ValP.move; rfl; apply LW.guardT'; rfl; rfl; (with_reducible rfl); apply LW.v0; rfl; rfl; apply ValP.move; rfl; apply LW.guardT'; rfl; rfl; (with_reducible rfl); apply LW.v0; rfl; rfl; apply ValP.neT; rfl; rfl; omega; apply LW.v0; rfl; rfl; apply ValP.pickF'; rfl; (with_reducible rfl); rfl; apply LW.nil; refine thenN ?_; apply CW.condT; rfl; (with_reducible rfl); refine CW.seq ?_; refine CW.region ?_; apply LW.v0; rfl; rfl; apply ValP.move; rfl; apply LW.v0; rfl; rfl; apply ValP.eqT; rfl; rfl; omega; apply LW.v0; rfl; rfl; apply ValP.move; rfl; apply LW.guardF'; rfl; rfl; simp only [Bool.not_true, Bool.not_false]; rfl; apply LW.guardF'; rfl; rfl; simp only [Bool.not_true, Bool.not_false]; rfl; apply LW.v0; rfl; rfl; apply ValP.pickT'; rfl; (with_reducible rfl); rfl; apply LW.v0; rfl; rfl; apply ValP.move; rfl; apply LW.guardT'; rfl; rfl; (with_reducible rfl); apply LW.v0; rfl; rfl; apply ValP.move; rfl; apply LW.guardT'; rfl; rfl; (with_reducible rfl); apply LW.v0; rfl; rfl; apply ValP.eqF; rfl; rfl; omega; apply LW.guardT'; rfl; rfl; (with_reducible rfl); apply LW.v0; rfl; rfl; apply ValP.move; rfl; apply LW.guardT'; rfl; rfl; (with_reducible rfl); apply LW.v0; rfl; rfl; apply ValP.move; rfl; apply LW.guardT'; rfl; rfl; (with_reducible rfl); apply LW.v0; rfl; rfl; apply ValP.strEqT; rfl; rfl; (with_reducible rfl); apply LW.guardT'; rfl; rfl; (with_reducible rfl); apply LW.v0; rfl; rfl; apply ValP.pickF'; rfl; (with_reducible rfl); rfl; apply LW.v0; rfl; rfl; apply ValP.pickT'; rfl; (with_reducible rfl); rfl; apply LW.v0; rfl; rfl; apply ValP.assign; rfl; apply LW.nil; refine thenN ?_; refine CW.ret ?_; refine thenR ?_)
      (apply finR; exact .inl rfl; rfl; rfl; rfl; apply ResL.cons; exact Res.tmp rfl; exact ResL.nil)
      rfl
    rw [textV_ok ha2] at hTa0
    rw [textV_ok hb2] at hTb0
    have hTa := hTa0
    have hTb := hTb0
    have hpt := parse_text a ha2
    have hij : decide ((⟨(textL a).toArray⟩ : ByteArray) = ⟨(textL b).toArray⟩) = decide (a = b) := by rw [bytes_eq]; exact decide_eq_decide.2 ⟨fun h => text_inj ha2 hb2 h, fun h => by rw [h]⟩
    obtain ⟨T, hT⟩ : ∃ T, textL a = T := ⟨_, rfl⟩
    rw [hT] at hTa hpt hij
    (apply LW.v0; rfl; rfl; apply ValP.move; rfl; apply LW.v0; rfl; rfl; apply ValP.extractN; rfl; rfl; apply LW.v0; rfl; rfl; apply ValP.extractN; rfl; rfl; apply LW.v0; rfl; rfl; apply ValP.assign; rfl; apply LW.v0; rfl; rfl; apply ValP.assign; rfl; apply LW.nil; refine thenN ?_; refine CW.seq ?_; refine CW.region ?_; apply LW.v0; rfl; rfl; apply ValP.move; rfl; apply LW.v0; rfl; rfl; apply ValP.eqF; rfl; rfl; omega; apply LW.nil; refine thenN ?_; apply CW.condF; rfl; (with_reducible rfl); refine CW.skip ?_; refine thenN ?_; refine CW.seq ?_; refine CW.region ?_; apply LW.v0; rfl; rfl; apply ValP.move; rfl; apply LW.callE; rfl; rfl; infer_instance; apply ArgsOk.cons; rfl; exact ArgsOk.nil; intro w _; exact hTa w (by assumption); apply LW.v0; rfl; rfl; apply ValP.move; rfl; apply LW.v0; rfl; rfl; apply ValP.extractN; rfl; rfl; apply LW.v0; rfl; rfl; apply ValP.extractN; rfl; rfl; apply LW.v0; rfl; rfl; apply ValP.assign; rfl; apply LW.v0; rfl; rfl; apply ValP.assign; rfl; apply LW.nil; refine thenN ?_; refine CW.seq ?_; refine CW.region ?_; apply LW.v0; rfl; rfl; apply ValP.move; rfl; apply LW.callE; rfl; rfl; infer_instance; apply ArgsOk.cons; rfl; exact ArgsOk.nil; intro w _; exact hTb w (by assumption); apply LW.v0; rfl; rfl; apply ValP.move; rfl; apply LW.v0; rfl; rfl; apply ValP.extractN; rfl; rfl; apply LW.v0; rfl; rfl; apply ValP.extractN; rfl; rfl; apply LW.v0; rfl; rfl; apply ValP.assign; rfl; apply LW.v0; rfl; rfl; apply ValP.assign; rfl; apply LW.nil; refine thenN ?_; refine CW.seq ?_; refine CW.seq ?_; refine CW.region ?_; apply LW.v0; rfl; rfl; apply ValP.move; rfl; apply LW.v0; rfl; rfl; apply ValP.neF; rfl; rfl; omega; apply LW.v0; rfl; rfl; apply ValP.move; rfl; apply LW.guardT'; rfl; rfl; (with_reducible rfl); apply LW.v0; rfl; rfl; apply ValP.move; rfl; apply LW.guardT'; rfl; rfl; (with_reducible rfl); apply LW.v0; rfl; rfl; apply ValP.neF; rfl; rfl; omega; apply LW.v0; rfl; rfl; apply ValP.pickF'; rfl; (with_reducible rfl); rfl; apply LW.nil; refine thenN ?_; apply CW.condF; rfl; (with_reducible rfl); refine CW.skip ?_; refine thenN ?_; refine CW.seq ?_; refine CW.region ?_; apply LW.v0; rfl; rfl; apply ValP.move; rfl)
    refine LW.callR rfl rfl inferInstance (by (apply ArgsOk.cons; rfl; exact ArgsOk.nil)) (fun w' hst => Parse_calls T w') ?_
    intro v2 g2 h2
    unfold ParseR at h2
    rw [hpt] at h2
    obtain ⟨rv, rfl, hrv⟩ := h2
    obtain ⟨p2, c2, rfl⟩ := hrv.form
    have hE10 : ∀ {post} w', St w [] (g2 ++ post) w' → Calls Tryd.prog 21 #[.slice p2 a.length c2, .slice p0 a.length c0] w' (Ret w' (.bool (decide (a = a)))) := fun w' hst => bEqual_calls _ _ a a w' (IsRow.at (pre := []) hrv hst) (ha.st hst)
    rw [decide_eq_true rfl] at hE10
    have hE1 := @hE10
    have hE2 : ∀ w' {fs}, St w [] fs w' → Calls Tryd.prog 21 #[.slice p0 a.length c0, .slice p1 b.length c1] w' (Ret w' (.bool (decide (a = b)))) := fun w' fs hst => bEqual_calls _ _ a b w' (ha.st hst) (hb.st hst)
    (apply LW.v0; rfl; rfl; apply ValP.move; rfl; apply LW.v0; rfl; rfl; apply ValP.extractN; rfl; rfl; apply LW.v0; rfl; rfl; apply ValP.extractN; rfl; rfl; apply LW.v0; rfl; rfl; apply ValP.assign; rfl; apply LW.v0; rfl; rfl; apply ValP.assign; rfl; apply LW.nil; refine thenN ?_; refine CW.seq ?_; refine CW.region ?_; apply LW.v0; rfl; rfl; apply ValP.move; rfl; apply LW.v0; rfl; rfl; apply ValP.eqT; rfl; rfl; omega; apply LW.v0; rfl; rfl; apply ValP.move; rfl; apply LW.guardT'; rfl; rfl; (with_reducible rfl); apply LW.v0; rfl; rfl; apply ValP.move; rfl; apply LW.guardT'; rfl; rfl; (with_reducible rfl); apply LW.v0; rfl; rfl; apply ValP.move; rfl; apply LW.guardT'; rfl; rfl; (with_reducible rfl); apply LW.callE; rfl; rfl; infer_instance; apply ArgsOk.cons; rfl; apply ArgsOk.cons; rfl; exact ArgsOk.nil; intro w _; exact hE1 w (by assumption); apply LW.v0; rfl; rfl; apply ValP.pickT'; rfl; (with_reducible rfl); rfl; apply LW.v0; rfl; rfl; apply ValP.move; rfl; apply LW.guardT'; rfl; rfl; (with_reducible rfl); apply LW.v0; rfl; rfl; apply ValP.move; rfl; apply LW.guardT'; rfl; rfl; (with_reducible rfl); apply LW.v0; rfl; rfl; apply ValP.move; rfl; apply LW.guardT'; rfl; rfl; (with_reducible rfl); apply LW.v0; rfl; rfl; apply ValP.strEq; rfl; rfl; apply LW.guardT'; rfl; rfl; (with_reducible rfl); apply LW.v0; rfl; rfl; apply ValP.move; rfl; apply LW.guardT'; rfl; rfl; (with_reducible rfl); apply LW.v0; rfl; rfl; apply ValP.move; rfl; apply LW.guardT'; rfl; rfl; (with_reducible rfl); apply LW.callE; rfl; rfl; infer_instance; apply ArgsOk.cons; rfl; apply ArgsOk.cons; rfl; exact ArgsOk.nil; intro w _; exact hE2 w (by assumption); apply LW.guardT'; rfl; rfl; (with_reducible rfl); apply LW.v0; rfl; rfl; apply ValP.boolEqT; rfl; rfl; assumption; apply LW.v0; rfl; rfl; apply ValP.pickT'; rfl; (with_reducible rfl); rfl; apply LW.v0; rfl; rfl; apply ValP.assign; rfl; apply LW.nil; refine thenN ?_; refine CW.ret ?_)
    rw [hij]
    skip
    (apply finR; exact .inl rfl; rfl; rfl; rfl; apply ResL.cons; exact Res.tmp rfl; exact ResL.nil)
    rfl
  | some o =>
    rw [hp] at h2
    obtain ⟨rv, rfl, hrv0⟩ := h2
    obtain ⟨ho1, ho2⟩ := parse_inv hp
    obtain ⟨pP, cP, rfl⟩ := hrv0.form
    have hTp0 : ∀ w', St w [] (g2 ++ []) w' → Calls Tryd.prog 15 #[.slice pP o.length cP] w' (Ret w' (TextV o)) := fun w' hst => Text_calls o _ w' (IsRow.at (pre := []) (post := []) hrv0 hst)
    have hCp0 : ∀ w', St w [] (g2 ++ []) w' → Calls Tryd.prog 20 #[.slice pP o.length cP] w' (Ret w' (.int .i64 (if o.length ≤ 200 then 0 else 3))) := fun w' hst => CheckC_calls _ _ _ w' (IsRow.at (pre := []) (post := []) hrv0 hst)
    rw [textV_ok ho1, ho2] at hTp0
    rw [if_pos ho1] at hCp0
    have hTp := hTp0
    have hCp := hCp0
    obtain ⟨gK, hgK⟩ : ∃ gK, g2 ++ [] = gK := ⟨_, rfl⟩
    rcases Nat.lt_or_ge 200 a.length with ha2 | ha2
    · rw [textV_no (by omega)] at hTa0
      have hTa := hTa0
      rcases Nat.lt_or_ge 200 b.length with hb2 | hb2
      · rw [textV_no (by omega)] at hTb0
        have hTb := hTb0
        (apply LW.v0; rfl; rfl; apply ValP.move; rfl; apply LW.v0; rfl; rfl; apply ValP.extractN; rfl; rfl; apply LW.v0; rfl; rfl; apply ValP.extractN; rfl; rfl; apply LW.v0; rfl; rfl; apply ValP.assign; rfl; apply LW.v0; rfl; rfl; apply ValP.assign; rfl; apply LW.nil; refine thenN ?_; refine CW.seq ?_; refine CW.region ?_; apply LW.v0; rfl; rfl; apply ValP.move; rfl; apply LW.v0; rfl; rfl; apply ValP.eqT; rfl; rfl; omega; apply LW.nil; refine thenN ?_; apply CW.condT; rfl; (with_reducible rfl); refine CW.seq ?_; refine CW.region ?_; apply LW.v0; rfl; rfl; apply ValP.move; rfl; apply LW.callE; rfl; rfl; infer_instance; apply ArgsOk.cons; rfl; exact ArgsOk.nil; intro w _; exact hTp w (by assumption); apply LW.v0; rfl; rfl; apply ValP.move; rfl; apply LW.v0; rfl; rfl; apply ValP.extractN; rfl; rfl; apply LW.v0; rfl; rfl; apply ValP.extractN; rfl; rfl; apply LW.v0; rfl; rfl; apply ValP.assign; rfl; apply LW.v0; rfl; rfl; apply ValP.assign; rfl; apply LW.nil; refine thenN ?_; refine CW.seq ?_; refine CW.region ?_; apply LW.v0; rfl; rfl; apply ValP.move; rfl; apply LW.v0; rfl; rfl; apply ValP.neF; rfl; rfl; omega; apply LW.v0; rfl; rfl; apply ValP.move; rfl; apply LW.guardT'; rfl; rfl; (with_reducible rfl); apply LW.v0; rfl; rfl; apply ValP.move; rfl; apply LW.guardT'; rfl; rfl; (with_reducible rfl); apply LW.v0; rfl; rfl; apply ValP.move; rfl; apply LW.guardT'; rfl; rfl; (with_reducible rfl); apply LW.v0; rfl; rfl; apply ValP.strNeF; rfl; rfl; (with_reducible rfl); apply LW.v0; rfl; rfl; apply ValP.pickF'; rfl; (with_reducible rfl); rfl; apply LW.v0; rfl; rfl; apply ValP.move; rfl; apply LW.guardT'; rfl; rfl; (with_reducible rfl); apply LW.v0; rfl; rfl; apply ValP.move; rfl; apply LW.guardT'; rfl; rfl; (with_reducible rfl); apply LW.callE; rfl; rfl; infer_instance; apply ArgsOk.cons; rfl; exact ArgsOk.nil; intro w _; exact hCp w (by assumption); apply LW.guardT'; rfl; rfl; (with_reducible rfl); apply LW.v0; rfl; rfl; apply ValP.neF; rfl; rfl; omega; apply LW.v0; rfl; rfl; apply ValP.pickF'; rfl; (with_reducible rfl); rfl; apply LW.nil; refine thenN ?_; apply CW.condF; rfl; (with_reducible rfl); refine CW.skip ?_; refine thenN ?_; refine CW.seq ?_; refine CW.region ?_; apply LW.v0; rfl; rfl; apply ValP.move; rfl; apply LW.callE; rfl; rfl; infer_instance; apply ArgsOk.cons; rfl; exact ArgsOk.nil; intro w _; exact hTa w (by assumption); apply LW.v0; rfl; rfl; apply ValP.move; rfl; apply LW.v0; rfl; rfl; apply ValP.extractN; rfl; rfl; apply LW.v0; rfl; rfl; apply ValP.extractN; rfl; rfl; apply LW.v0; rfl; rfl; apply ValP.assign; rfl; apply LW.v0; rfl; rfl; apply ValP.assign; rfl; apply LW.nil; refine thenN ?_; refine CW.seq ?_; refine CW.region ?_; apply LW.v0; rfl; rfl; apply ValP.move; rfl; apply LW.callE; rfl; rfl; infer_instance; apply ArgsOk.cons; rfl; exact ArgsOk.nil; intro w _; exact hTb w (by assumption); apply LW.v0; rfl; rfl; apply ValP.move; rfl; apply LW.v0; rfl; rfl; apply ValP.extractN; rfl; rfl; apply LW.v0; rfl; rfl; apply ValP.extractN; rfl; rfl; apply LW.v0; rfl; rfl; apply ValP.assign; rfl; apply LW.v0; rfl; rfl; apply ValP.assign; rfl; apply LW.nil; refine thenN ?_; refine CW.seq ?_; refine CW.seq ?_; refine CW.region ?_; apply LW.v0; rfl; rfl; apply ValP.move; rfl; apply LW.v0; rfl; rfl; apply ValP.neT; rfl; rfl; omega; apply LW.v0; rfl; rfl; apply ValP.move; rfl; apply LW.guardF'; rfl; rfl; simp only [Bool.not_true, Bool.not_false]; rfl; apply LW.guardF'; rfl; rfl; simp only [Bool.not_true, Bool.not_false]; rfl; apply LW.v0; rfl; rfl; apply ValP.pickT'; rfl; (with_reducible rfl); rfl; apply LW.nil; refine thenN ?_; apply CW.condT; rfl; (with_reducible rfl); refine CW.seq ?_; refine CW.region ?_; apply LW.v0; rfl; rfl; apply ValP.move; rfl; apply LW.v0; rfl; rfl; apply ValP.eqF; rfl; rfl; omega; apply LW.v0; rfl; rfl; apply ValP.move; rfl; apply LW.guardT'; rfl; rfl; (with_reducible rfl); apply LW.v0; rfl; rfl; apply ValP.move; rfl; apply LW.guardT'; rfl; rfl; (with_reducible rfl); apply LW.v0; rfl; rfl; apply ValP.strEqT; rfl; rfl; (with_reducible rfl); apply LW.v0; rfl; rfl; apply ValP.pickF'; rfl; (with_reducible rfl); rfl; apply LW.v0; rfl; rfl; apply ValP.move; rfl; apply LW.guardT'; rfl; rfl; (with_reducible rfl); apply LW.v0; rfl; rfl; apply ValP.move; rfl; apply LW.guardT'; rfl; rfl; (with_reducible rfl); apply LW.v0; rfl; rfl; apply ValP.eqF; rfl; rfl; omega; apply LW.guardT'; rfl; rfl; (with_reducible rfl); apply LW.v0; rfl; rfl; apply ValP.move; rfl; apply LW.guardT'; rfl; rfl; (with_reducible rfl); apply LW.v0; rfl; rfl; apply ValP.move; rfl; apply LW.guardT'; rfl; rfl; (with_reducible rfl); apply LW.v0; rfl; rfl; apply ValP.strEqT; rfl; rfl; (with_reducible rfl); apply LW.guardT'; rfl; rfl; (with_reducible rfl); apply LW.v0; rfl; rfl; apply ValP.pickF'; rfl; (with_reducible rfl); rfl; apply LW.v0; rfl; rfl; apply ValP.pickT'; rfl; (with_reducible rfl); rfl; apply LW.v0; rfl; rfl; apply ValP.assign; rfl; apply LW.nil; refine thenN ?_; refine CW.ret ?_; refine thenR ?_)
        (apply finR; exact .inl rfl; rfl; rfl; rfl; apply ResL.cons; exact Res.tmp rfl; exact ResL.nil)
        rfl
      · rw [textV_ok hb2] at hTb0
        have hTb := hTb0
        (apply LW.v0; rfl; rfl; apply ValP.move; rfl; apply LW.v0; rfl; rfl; apply ValP.extractN; rfl; rfl; apply LW.v0; rfl; rfl; apply ValP.extractN; rfl; rfl; apply LW.v0; rfl; rfl; apply ValP.assign; rfl; apply LW.v0; rfl; rfl; apply ValP.assign; rfl; apply LW.nil; refine thenN ?_; refine CW.seq ?_; refine CW.region ?_; apply LW.v0; rfl; rfl; apply ValP.move; rfl; apply LW.v0; rfl; rfl; apply ValP.eqT; rfl; rfl; omega; apply LW.nil; refine thenN ?_; apply CW.condT; rfl; (with_reducible rfl); refine CW.seq ?_; refine CW.region ?_; apply LW.v0; rfl; rfl; apply ValP.move; rfl; apply LW.callE; rfl; rfl; infer_instance; apply ArgsOk.cons; rfl; exact ArgsOk.nil; intro w _; exact hTp w (by assumption); apply LW.v0; rfl; rfl; apply ValP.move; rfl; apply LW.v0; rfl; rfl; apply ValP.extractN; rfl; rfl; apply LW.v0; rfl; rfl; apply ValP.extractN; rfl; rfl; apply LW.v0; rfl; rfl; apply ValP.assign; rfl; apply LW.v0; rfl; rfl; apply ValP.assign; rfl; apply LW.nil; refine thenN ?_; refine CW.seq ?_; refine CW.region ?_; apply LW.v0; rfl; rfl; apply ValP.move; rfl; apply LW.v0; rfl; rfl; apply ValP.neF; rfl; rfl; omega; apply LW.v0; rfl; rfl; apply ValP.move; rfl; apply LW.guardT'; rfl; rfl; (with_reducible rfl); apply LW.v0; rfl; rfl; apply ValP.move; rfl; apply LW.guardT'; rfl; rfl; (with_reducible rfl); apply LW.v0; rfl; rfl; apply ValP.move; rfl; apply LW.guardT'; rfl; rfl; (with_reducible rfl); apply LW.v0; rfl; rfl; apply ValP.strNeF; rfl; rfl; (with_reducible rfl); apply LW.v0; rfl; rfl; apply ValP.pickF'; rfl; (with_reducible rfl); rfl; apply LW.v0; rfl; rfl; apply ValP.move; rfl; apply LW.guardT'; rfl; rfl; (with_reducible rfl); apply LW.v0; rfl; rfl; apply ValP.move; rfl; apply LW.guardT'; rfl; rfl; (with_reducible rfl); apply LW.callE; rfl; rfl; infer_instance; apply ArgsOk.cons; rfl; exact ArgsOk.nil; intro w _; exact hCp w (by assumption); apply LW.guardT'; rfl; rfl; (with_reducible rfl); apply LW.v0; rfl; rfl; apply ValP.neF; rfl; rfl; omega; apply LW.v0; rfl; rfl; apply ValP.pickF'; rfl; (with_reducible rfl); rfl; apply LW.nil; refine thenN ?_; apply CW.condF; rfl; (with_reducible rfl); refine CW.skip ?_; refine thenN ?_; refine CW.seq ?_; refine CW.region ?_; apply LW.v0; rfl; rfl; apply ValP.move; rfl; apply LW.callE; rfl; rfl; infer_instance; apply ArgsOk.cons; rfl; exact ArgsOk.nil; intro w _; exact hTa w (by assumption); apply LW.v0; rfl; rfl; apply ValP.move; rfl; apply LW.v0; rfl; rfl; apply ValP.extractN; rfl; rfl; apply LW.v0; rfl; rfl; apply ValP.extractN; rfl; rfl; apply LW.v0; rfl; rfl; apply ValP.assign; rfl; apply LW.v0; rfl; rfl; apply ValP.assign; rfl; apply LW.nil; refine thenN ?_; refine CW.seq ?_; refine CW.region ?_; apply LW.v0; rfl; rfl; apply ValP.move; rfl; apply LW.callE; rfl; rfl; infer_instance; apply ArgsOk.cons; rfl; exact ArgsOk.nil; intro w _; exact hTb w (by assumption); apply LW.v0; rfl; rfl; apply ValP.move; rfl; apply LW.v0; rfl; rfl; apply ValP.extractN; rfl; rfl; apply LW.v0; rfl; rfl; apply ValP.extractN; rfl; rfl; apply LW.v0; rfl; rfl; apply ValP.assign; rfl; apply LW.v0; rfl; rfl; apply ValP.assign; rfl; apply LW.nil; refine thenN ?_; refine CW.seq ?_; refine CW.seq ?_; refine CW.region ?_; apply LW.v0; rfl; rfl; apply ValP.move; rfl; apply LW.v0; rfl; rfl; apply ValP.neT; rfl; rfl; omega; apply LW.v0; rfl; rfl; apply ValP.move; rfl; apply LW.guardF'; rfl; rfl; simp only [Bool.not_true, Bool.not_false]; rfl; apply LW.guardF'; rfl; rfl; simp only [Bool.not_true, Bool.not_false]; rfl; apply LW.v0; rfl; rfl; apply ValP.pickT'; rfl; (with_reducible rfl); rfl; apply LW.nil; refine thenN ?_; apply CW.condT; rfl; (with_reducible rfl); refine CW.seq ?_; refine CW.region ?_; apply LW.v0; rfl; rfl; apply ValP.move; rfl; apply LW.v0; rfl; rfl; apply ValP.eqF; rfl; rfl; omega; apply LW.v0; rfl; rfl; apply ValP.move; rfl; apply LW.guardT'; rfl; rfl; (with_reducible rfl); apply LW.v0; rfl; rfl; apply ValP.move; rfl; apply LW.guardT'; rfl; rfl; (with_reducible rfl); apply LW.v0; rfl; rfl; apply ValP.strEqT; rfl; rfl; (with_reducible rfl); apply LW.v0; rfl; rfl; apply ValP.pickF'; rfl; (with_reducible rfl); rfl; apply LW.v0; rfl; rfl; apply ValP.move; rfl; apply LW.guardT'; rfl; rfl; (with_reducible rfl); apply LW.v0; rfl; rfl; apply ValP.move; rfl; apply LW.guardT'; rfl; rfl; (with_reducible rfl); apply LW.v0; rfl; rfl; apply ValP.eqT; rfl; rfl; omega; apply LW.guardT'; rfl; rfl; (with_reducible rfl); apply LW.v0; rfl; rfl; apply ValP.move; rfl; apply LW.guardF'; rfl; rfl; simp only [Bool.not_true, Bool.not_false]; rfl; apply LW.guardF'; rfl; rfl; simp only [Bool.not_true, Bool.not_false]; rfl; apply LW.guardT'; rfl; rfl; (with_reducible rfl); apply LW.v0; rfl; rfl; apply ValP.pickT'; rfl; (with_reducible rfl); rfl; apply LW.v0; rfl; rfl; apply ValP.pickT'; rfl; (with_reducible rfl); rfl; apply LW.v0; rfl; rfl; apply ValP.assign; rfl; apply LW.nil; refine thenN ?_; refine CW.ret ?_; refine thenR ?_)
        (apply finR; exact .inl rfl; rfl; rfl; rfl; apply ResL.cons; exact Res.tmp rfl; exact ResL.nil)
        rfl
    rcases Nat.lt_or_ge 200 b.length with hb2 | hb2
    · rw [textV_ok ha2] at hTa0
      rw [textV_no (by omega)] at hTb0
      have hTa := hTa0
      have hTb := hTb0
      (apply LW.v0; rfl; rfl; apply ValP.move; rfl; apply LW.v0; rfl; rfl; apply ValP.extractN; rfl; rfl; apply LW.v0; rfl; rfl; apply ValP.extractN; rfl; rfl; apply LW.v0; rfl; rfl; apply ValP.assign; rfl; apply LW.v0; rfl; rfl; apply ValP.assign; rfl; apply LW.nil; refine thenN ?_; refine CW.seq ?_; refine CW.region ?_; apply LW.v0; rfl; rfl; apply ValP.move; rfl; apply LW.v0; rfl; rfl; apply ValP.eqT; rfl; rfl; omega; apply LW.nil; refine thenN ?_; apply CW.condT; rfl; (with_reducible rfl); refine CW.seq ?_; refine CW.region ?_; apply LW.v0; rfl; rfl; apply ValP.move; rfl; apply LW.callE; rfl; rfl; infer_instance; apply ArgsOk.cons; rfl; exact ArgsOk.nil; intro w _; exact hTp w (by assumption); apply LW.v0; rfl; rfl; apply ValP.move; rfl; apply LW.v0; rfl; rfl; apply ValP.extractN; rfl; rfl; apply LW.v0; rfl; rfl; apply ValP.extractN; rfl; rfl; apply LW.v0; rfl; rfl; apply ValP.assign; rfl; apply LW.v0; rfl; rfl; apply ValP.assign; rfl; apply LW.nil; refine thenN ?_; refine CW.seq ?_; refine CW.region ?_; apply LW.v0; rfl; rfl; apply ValP.move; rfl; apply LW.v0; rfl; rfl; apply ValP.neF; rfl; rfl; omega; apply LW.v0; rfl; rfl; apply ValP.move; rfl; apply LW.guardT'; rfl; rfl; (with_reducible rfl); apply LW.v0; rfl; rfl; apply ValP.move; rfl; apply LW.guardT'; rfl; rfl; (with_reducible rfl); apply LW.v0; rfl; rfl; apply ValP.move; rfl; apply LW.guardT'; rfl; rfl; (with_reducible rfl); apply LW.v0; rfl; rfl; apply ValP.strNeF; rfl; rfl; (with_reducible rfl); apply LW.v0; rfl; rfl; apply ValP.pickF'; rfl; (with_reducible rfl); rfl; apply LW.v0; rfl; rfl; apply ValP.move; rfl; apply LW.guardT'; rfl; rfl; (with_reducible rfl); apply LW.v0; rfl; rfl; apply ValP.move; rfl; apply LW.guardT'; rfl; rfl; (with_reducible rfl); apply LW.callE; rfl; rfl; infer_instance; apply ArgsOk.cons; rfl; exact ArgsOk.nil; intro w _; exact hCp w (by assumption); apply LW.guardT'; rfl; rfl; (with_reducible rfl); apply LW.v0; rfl; rfl; apply ValP.neF; rfl; rfl; omega; apply LW.v0; rfl; rfl; apply ValP.pickF'; rfl; (with_reducible rfl); rfl; apply LW.nil; refine thenN ?_; apply CW.condF; rfl; (with_reducible rfl); refine CW.skip ?_; refine thenN ?_; refine CW.seq ?_; refine CW.region ?_; apply LW.v0; rfl; rfl; apply ValP.move; rfl; apply LW.callE; rfl; rfl; infer_instance; apply ArgsOk.cons; rfl; exact ArgsOk.nil; intro w _; exact hTa w (by assumption); apply LW.v0; rfl; rfl; apply ValP.move; rfl; apply LW.v0; rfl; rfl; apply ValP.extractN; rfl; rfl; apply LW.v0; rfl; rfl; apply ValP.extractN; rfl; rfl; apply LW.v0; rfl; rfl; apply ValP.assign; rfl; apply LW.v0; rfl; rfl; apply ValP.assign; rfl; apply LW.nil; refine thenN ?_; refine CW.seq ?_; refine CW.region ?_; apply LW.v0; rfl; rfl; apply ValP.move; rfl; apply LW.callE; rfl; rfl; infer_instance; apply ArgsOk.cons; rfl; exact ArgsOk.nil; intro w _; exact hTb w (by assumption); apply LW.v0; rfl; rfl; apply ValP.move; rfl; apply LW.v0; rfl; rfl; apply ValP.extractN; rfl; rfl; apply LW.v0; rfl; rfl; apply ValP.extractN; rfl; rfl; apply LW.v0; rfl; rfl; apply ValP.assign; rfl; apply LW.v0; rfl; rfl; apply ValP.assign; rfl; apply LW.nil; refine thenN ?_; refine CW.seq ?_; refine CW.seq ?_; refine CW.region ?_; apply LW.v0; rfl; rfl; apply ValP.move; rfl; apply LW.v0; rfl; rfl; apply ValP.neF; rfl; rfl; omega; apply LW.v0; rfl; rfl; apply ValP.move; rfl; apply LW.guardT'; rfl; rfl; (with_reducible rfl); apply LW.v0; rfl; rfl; apply ValP.move; rfl; apply LW.guardT'; rfl; rfl; (with_reducible rfl); apply LW.v0; rfl; rfl; apply ValP.neT; rfl; rfl; omega; apply LW.v0; rfl; rfl; apply ValP.pickF'; rfl; (with_reducible rfl); rfl; apply LW.nil; refine thenN ?_; apply CW.condT; rfl; (with_reducible rfl); refine CW.seq ?_; refine CW.region ?_; apply LW.v0; rfl; rfl; apply ValP.move; rfl; apply LW.v0; rfl; rfl; apply ValP.eqT; rfl; rfl; omega; apply LW.v0; rfl; rfl; apply ValP.move; rfl; apply LW.guardF'; rfl; rfl; simp only [Bool.not_true, Bool.not_false]; rfl; apply LW.guardF'; rfl; rfl; simp only [Bool.not_true, Bool.not_false]; rfl; apply LW.v0; rfl; rfl; apply ValP.pickT'; rfl; (with_reducible rfl); rfl; apply LW.v0; rfl; rfl; apply ValP.move; rfl; apply LW.guardT'; rfl; rfl; (with_reducible rfl); apply LW.v0; rfl; rfl; apply ValP.move; rfl; apply LW.guardT'; rfl; rfl; (with_reducible rfl); apply LW.v0; rfl; rfl; apply ValP.eqF; rfl; rfl; omega; apply LW.guardT'; rfl; rfl; (with_reducible rfl); apply LW.v0; rfl; rfl; apply ValP.move; rfl; apply LW.guardT'; rfl; rfl; (with_reducible rfl); apply LW.v0; rfl; rfl; apply ValP.move; rfl; apply LW.guardT'; rfl; rfl; (with_reducible rfl); apply LW.v0; rfl; rfl; apply ValP.strEqT; rfl; rfl; (with_reducible rfl); apply LW.guardT'; rfl; rfl; (with_reducible rfl); apply LW.v0; rfl; rfl; apply ValP.pickF'; rfl; (with_reducible rfl); rfl; apply LW.v0; rfl; rfl; apply ValP.pickT'; rfl; (with_reducible rfl); rfl; apply LW.v0; rfl; rfl; apply ValP.assign; rfl; apply LW.nil; refine thenN ?_; refine CW.ret ?_; refine thenR ?_)
      (apply finR; exact .inl rfl; rfl; rfl; rfl; apply ResL.cons; exact Res.tmp rfl; exact ResL.nil)
      rfl
    rw [textV_ok ha2] at hTa0
    rw [textV_ok hb2] at hTb0
    have hTa := hTa0
    have hTb := hTb0
    have hpt := parse_text a ha2
    have hij : decide ((⟨(textL a).toArray⟩ : ByteArray) = ⟨(textL b).toArray⟩) = decide (a = b) := by rw [bytes_eq]; exact decide_eq_decide.2 ⟨fun h => text_inj ha2 hb2 h, fun h => by rw [h]⟩
    obtain ⟨T, hT⟩ : ∃ T, textL a = T := ⟨_, rfl⟩
    rw [hT] at hTa hpt hij
    (apply LW.v0; rfl; rfl; apply ValP.move; rfl; apply LW.v0; rfl; rfl; apply ValP.extractN; rfl; rfl; apply LW.v0; rfl; rfl; apply ValP.extractN; rfl; rfl; apply LW.v0; rfl; rfl; apply ValP.assign; rfl; apply LW.v0; rfl; rfl; apply ValP.assign; rfl; apply LW.nil; refine thenN ?_; refine CW.seq ?_; refine CW.region ?_; apply LW.v0; rfl; rfl; apply ValP.move; rfl; apply LW.v0; rfl; rfl; apply ValP.eqT; rfl; rfl; omega; apply LW.nil; refine thenN ?_; apply CW.condT; rfl; (with_reducible rfl); refine CW.seq ?_; refine CW.region ?_; apply LW.v0; rfl; rfl; apply ValP.move; rfl; apply LW.callE; rfl; rfl; infer_instance; apply ArgsOk.cons; rfl; exact ArgsOk.nil; intro w _; exact hTp w (by assumption); apply LW.v0; rfl; rfl; apply ValP.move; rfl; apply LW.v0; rfl; rfl; apply ValP.extractN; rfl; rfl; apply LW.v0; rfl; rfl; apply ValP.extractN; rfl; rfl; apply LW.v0; rfl; rfl; apply ValP.assign; rfl; apply LW.v0; rfl; rfl; apply ValP.assign; rfl; apply LW.nil; refine thenN ?_; refine CW.seq ?_; refine CW.region ?_; apply LW.v0; rfl; rfl; apply ValP.move; rfl; apply LW.v0; rfl; rfl; apply ValP.neF; rfl; rfl; omega; apply LW.v0; rfl; rfl; apply ValP.move; rfl; apply LW.guardT'; rfl; rfl; (with_reducible rfl); apply LW.v0; rfl; rfl; apply ValP.move; rfl; apply LW.guardT'; rfl; rfl; (with_reducible rfl); apply LW.v0; rfl; rfl; apply ValP.move; rfl; apply LW.guardT'; rfl; rfl; (with_reducible rfl); apply LW.v0; rfl; rfl; apply ValP.strNeF; rfl; rfl; (with_reducible rfl); apply LW.v0; rfl; rfl; apply ValP.pickF'; rfl; (with_reducible rfl); rfl; apply LW.v0; rfl; rfl; apply ValP.move; rfl; apply LW.guardT'; rfl; rfl; (with_reducible rfl); apply LW.v0; rfl; rfl; apply ValP.move; rfl; apply LW.guardT'; rfl; rfl; (with_reducible rfl); apply LW.callE; rfl; rfl; infer_instance; apply ArgsOk.cons; rfl; exact ArgsOk.nil; intro w _; exact hCp w (by assumption); apply LW.guardT'; rfl; rfl; (with_reducible rfl); apply LW.v0; rfl; rfl; apply ValP.neF; rfl; rfl; omega; apply LW.v0; rfl; rfl; apply ValP.pickF'; rfl; (with_reducible rfl); rfl; apply LW.nil; refine thenN ?_; apply CW.condF; rfl; (with_reducible rfl); refine CW.skip ?_; refine thenN ?_; refine CW.seq ?_; refine CW.region ?_; apply LW.v0; rfl; rfl; apply ValP.move; rfl; apply LW.callE; rfl; rfl; infer_instance; apply ArgsOk.cons; rfl; exact ArgsOk.nil; intro w _; exact hTa w (by assumption); apply LW.v0; rfl; rfl; apply ValP.move; rfl; apply LW.v0; rfl; rfl; apply ValP.extractN; rfl; rfl; apply LW.v0; rfl; rfl; apply ValP.extractN; rfl; rfl; apply LW.v0; rfl; rfl; apply ValP.assign; rfl; apply LW.v0; rfl; rfl; apply ValP.assign; rfl; apply LW.nil; refine thenN ?_; refine CW.seq ?_; refine CW.region ?_; apply LW.v0; rfl; rfl; apply ValP.move; rfl; apply LW.callE; rfl; rfl; infer_instance; apply ArgsOk.cons; rfl; exact ArgsOk.nil; intro w _; exact hTb w (by assumption); apply LW.v0; rfl; rfl; apply ValP.move; rfl; apply LW.v0; rfl; rfl; apply ValP.extractN; rfl; rfl; apply LW.v0; rfl; rfl; apply ValP.extractN; rfl; rfl; apply LW.v0; rfl; rfl; apply ValP.assign; rfl; apply LW.v0; rfl; rfl; apply ValP.assign; rfl; apply LW.nil; refine thenN ?_; refine CW.seq ?_; refine CW.seq ?_; refine CW.region ?_; apply LW.v0; rfl; rfl; apply ValP.move; rfl; apply LW.v0; rfl; rfl; apply ValP.neF; rfl; rfl; omega; apply LW.v0; rfl; rfl; apply ValP.move; rfl; apply LW.guardT'; rfl; rfl; (with_reducible rfl); apply LW.v0; rfl; rfl; apply ValP.move; rfl; apply LW.guardT'; rfl; rfl; (with_reducible rfl); apply LW.v0; rfl; rfl; apply ValP.neF; rfl; rfl; omega; apply LW.v0; rfl; rfl; apply ValP.pickF'; rfl; (with_reducible rfl); rfl; apply LW.nil; refine thenN ?_; apply CW.condF; rfl; (with_reducible rfl); refine CW.skip ?_; refine thenN ?_; refine CW.seq ?_; refine CW.region ?_; apply LW.v0; rfl; rfl; apply ValP.move; rfl)
    refine LW.callR rfl rfl inferInstance (by (apply ArgsOk.cons; rfl; exact ArgsOk.nil)) (fun w' hst => Parse_calls T w') ?_
    intro v2 g2 h2
    unfold ParseR at h2
    rw [hpt] at h2
    obtain ⟨rv, rfl, hrv⟩ := h2
    obtain ⟨p2, c2, rfl⟩ := hrv.form
    have hE10 : ∀ {post} w', St w [] (g2 ++ post) w' → Calls Tryd.prog 21 #[.slice p2 a.length c2, .slice p0 a.length c0] w' (Ret w' (.bool (decide (a = a)))) := fun w' hst => bEqual_calls _ _ a a w' (IsRow.at (pre := []) hrv hst) (ha.st hst)
    rw [decide_eq_true rfl] at hE10
    have hE1 := @hE10
    have hE2 : ∀ w' {fs}, St w [] fs w' → Calls Tryd.prog 21 #[.slice p0 a.length c0, .slice p1 b.length c1] w' (Ret w' (.bool (decide (a = b)))) := fun w' fs hst => bEqual_calls _ _ a b w' (ha.st hst) (hb.st hst)
    (apply LW.v0; rfl; rfl; apply ValP.move; rfl; apply LW.v0; rfl; rfl; apply ValP.extractN; rfl; rfl; apply LW.v0; rfl; rfl; apply ValP.extractN; rfl; rfl; apply LW.v0; rfl; rfl; apply ValP.assign; rfl; apply LW.v0; rfl; rfl; apply ValP.assign; rfl; apply LW.nil; refine thenN ?_; refine CW.seq ?_; refine CW.region ?_; apply LW.v0; rfl; rfl; apply ValP.move; rfl; apply LW.v0; rfl; rfl; apply ValP.eqT; rfl; rfl; omega; apply LW.v0; rfl; rfl; apply ValP.move; rfl; apply LW.guardT'; rfl; rfl; (with_reducible rfl); apply LW.v0; rfl; rfl; apply ValP.move; rfl; apply LW.guardT'; rfl; rfl; (with_reducible rfl); apply LW.v0; rfl; rfl; apply ValP.move; rfl; apply LW.guardT'; rfl; rfl; (with_reducible rfl); apply LW.callE; rfl; rfl; infer_instance; apply ArgsOk.cons; rfl; apply ArgsOk.cons; rfl; exact ArgsOk.nil; intro w _; exact hE1 w (by assumption); apply LW.v0; rfl; rfl; apply ValP.pickT'; rfl; (with_reducible rfl); rfl; apply LW.v0; rfl; rfl; apply ValP.move; rfl; apply LW.guardT'; rfl; rfl; (with_reducible rfl); apply LW.v0; rfl; rfl; apply ValP.move; rfl; apply LW.guardT'; rfl; rfl; (with_reducible rfl); apply LW.v0; rfl; rfl; apply ValP.move; rfl; apply LW.guardT'; rfl; rfl; (with_reducible rfl); apply LW.v0; rfl; rfl; apply ValP.strEq; rfl; rfl; apply LW.guardT'; rfl; rfl; (with_reducible rfl); apply LW.v0; rfl; rfl; apply ValP.move; rfl; apply LW.guardT'; rfl; rfl; (with_reducible rfl); apply LW.v0; rfl; rfl; apply ValP.move; rfl; apply LW.guardT'; rfl; rfl; (with_reducible rfl); apply LW.callE; rfl; rfl; infer_instance; apply ArgsOk.cons; rfl; apply ArgsOk.cons; rfl; exact ArgsOk.nil; intro w _; exact hE2 w (by assumption); apply LW.guardT'; rfl; rfl; (with_reducible rfl); apply LW.v0; rfl; rfl; apply ValP.boolEqT; rfl; rfl; assumption; apply LW.v0; rfl; rfl; apply ValP.pickT'; rfl; (with_reducible rfl); rfl; apply LW.v0; rfl; rfl; apply ValP.assign; rfl; apply LW.nil; refine thenN ?_; refine CW.ret ?_)
    rw [hij]
    skip
    (apply finR; exact .inl rfl; rfl; rfl; rfl; apply ResL.cons; exact Res.tmp rfl; exact ResL.nil)
    rfl
end Go.Proofs.YtbhicncgjplnoaaDoor

/-
  The places to jump to, and the data, are as the document says: the walk.
  Conditions: none.
-/
namespace Go.Proofs.YtbhicncgjplnoaaDoor
open Go Go.RowKit SL
set_option maxRecDepth 8000
set_option maxHeartbeats 4000000
set_option linter.unusedSimpArgs false
set_option linter.unusedVariables false
attribute [local irreducible] SL.CW SL.LW SL.DW Calls SL.Ret SL.RetG SL.beginQ SL.roundQ SL.rangeQ SL.inQ SL.RW SL.AnyW SL.thenQ SL.thenC SL.thenW SL.blkQ SL.finQ SL.ValP SL.NewP SL.SetP SL.CallP SL.Rd SL.Wr SL.Known
attribute [local irreducible] opOf named parseU textL szOf
/-! ### Plain: one by one, or place by place -/
def hitAt (bs : List UInt8) (p i : Nat) : Bool := decide ((bs.getD (i - p) 0).toNat = 91) && (segsAt p bs).any fun s => decide (s.1 = i)
theorem jmps_gen (n : Nat) : ∀ (bs : List UInt8) (p : Nat), bs.length ≤ n → jmpOf (segsAt p bs) = (List.range' p bs.length).filter (hitAt bs p) := by
  induction n with
  | zero =>
    intro bs p h
    rw [List.eq_nil_of_length_eq_zero (show bs.length = 0 by omega), segsAt_nil]; rfl
  | succ n ih =>
    intro bs p h
    cases bs with
    | nil => rw [segsAt_nil]; rfl
    | cons b r =>
      have hr : (r.drop (szOf b.toNat)).length ≤ n := by simp at h ⊢; omega
      have IH := ih (r.drop (szOf b.toNat)) (p + 1 + szOf b.toNat) hr
      obtain ⟨z, hz⟩ : ∃ z, szOf b.toNat = z := ⟨_, rfl⟩
      have hge : ∀ s ∈ segsAt (p + 1 + z) (r.drop z), p + 1 + z ≤ s.1 := segsAt_ge _ _ _ (Nat.le_refl _)
      rw [hz] at IH
      have hself : hitAt (b :: r) p p = decide (b.toNat = 91) := by
        unfold hitAt
        rw [segsAt_cons, List.any_cons, Nat.sub_self]
        simp
      have hlow : ∀ i, p < i → i < p + 1 + z → hitAt (b :: r) p i = false := fun i h1 h2 => by
        unfold hitAt
        rw [segsAt_cons, hz]
        have : ((p, b, r.take z) :: segsAt (p + 1 + z) (r.drop z)).any (fun s => decide (s.1 = i)) = false := by
          refine List.any_eq_false.2 fun s hs => ?_
          rcases List.mem_cons.1 hs with rfl | hs
          · simp; omega
          · have := hge s hs; simp; omega
        rw [this, Bool.and_false]
      have hhigh : ∀ i, p + 1 + z ≤ i → hitAt (b :: r) p i = hitAt (r.drop z) (p + 1 + z) i := fun i h1 => by
        unfold hitAt
        rw [segsAt_cons, hz, List.any_cons, show decide (p = i) = false from decide_eq_false (by omega), Bool.false_or]
        congr 3
        obtain ⟨j, rfl⟩ : ∃ j, i = p + 1 + z + j := ⟨i - (p + 1 + z), by omega⟩
        rw [show p + 1 + z + j - p = (z + j) + 1 by omega, show p + 1 + z + j - (p + 1 + z) = j by omega, List.getD_cons_succ, List.getD_eq_getElem?_getD, List.getD_eq_getElem?_getD, List.getElem?_drop]
      have htail : (List.range' (p + 1) r.length).filter (hitAt (b :: r) p) = (List.range' (p + 1 + z) (r.drop z).length).filter (hitAt (r.drop z) (p + 1 + z)) := by
        rcases Nat.lt_or_ge r.length z with h1 | h1
        · rw [List.drop_eq_nil_of_le (by omega)]
          exact List.filter_eq_nil_iff.2 fun i hi => by
            have := List.mem_range'_1.1 hi
            rw [hlow i (by omega) (by omega)]; decide
        · rw [List.length_drop, show r.length = z + (r.length - z) by omega, ← List.range'_append_1, List.filter_append, show z + (r.length - z) - z = r.length - z by omega]
          rw [List.filter_eq_nil_iff.2 fun i hi => by
            have := List.mem_range'_1.1 hi
            rw [hlow i (by omega) (by omega)]; decide, List.nil_append]
          exact List.filter_congr fun i hi => hhigh i (List.mem_range'_1.1 hi).1
      rw [segsAt_cons, hz, List.length_cons, List.range'_succ, List.filter_cons, hself, htail, ← IH]
      by_cases h91 : b.toNat = 91
      · rw [jmpOf_hit h91, decide_eq_true h91, if_pos rfl]
      · rw [jmpOf_miss h91, decide_eq_false h91, if_neg (by decide)]
theorem jumps_eq (bs : List UInt8) : jumpsL bs = jmpR bs bs.length := by
  unfold jumpsL jmpR
  rw [jmps_gen _ bs 0 (Nat.le_refl _), List.range_eq_range']
  refine List.filter_congr fun i _ => ?_
  unfold hitAt hitB readB
  rw [Nat.sub_zero]
  congr 2
  funext s
  exact decide_eq_decide.2 (by omega)
theorem jump_eq (bs : List UInt8) (h : bs.length ≤ 200) (n : Nat) : jumpC bs n = rJumpC bs n := by
  unfold jumpC rJumpC jumpsC
  rw [if_pos h, jumps_eq]
  have hmem : (jmpR bs bs.length).contains n = (decide (n < bs.length) && hitB bs n) := by
    unfold jmpR
    cases hh : hitB bs n with
    | true =>
      rw [Bool.and_true]
      rcases Nat.lt_or_ge n bs.length with hn | hn
      · rw [decide_eq_true hn]; exact List.contains_iff_mem.2 (List.mem_filter.2 ⟨List.mem_range.2 hn, hh⟩)
      · rw [decide_eq_false (by omega), Bool.eq_false_iff]
        intro hc
        have := List.mem_range.1 (List.mem_filter.1 (List.contains_iff_mem.1 hc)).1
        omega
    | false =>
      rw [Bool.and_false, Bool.eq_false_iff]
      intro hc
      have := (List.mem_filter.1 (List.contains_iff_mem.1 hc)).2
      rw [hh] at this; cases this
  rw [hmem]
  rcases Nat.lt_or_ge n bs.length with hn | hn
  · rw [decide_eq_true hn, decide_eq_true (show n < 200 by omega), Bool.true_and, Bool.true_and]
  · rw [decide_eq_false (show ¬ n < bs.length by omega), Bool.false_and, Bool.and_false]
/-! ### The walk -/
theorem CodeReads_walk (v : Value) (bs : List UInt8) (i : Int) (n : Nat) (hi : (Lit.int .i64 i).wf = true) (hn : n < 18446744073709551616) (w : World) (hv : RowAt w 1 v bs.length (ucs bs)) : Calls Tryd.prog 7 #[v, .int .i64 i, .int .u64 (n : Int)] w (Ret w (.bool true)) := by
  have hC0 : ∀ w' {fs}, St w [] fs w' → Calls Tryd.prog 20 #[v] w' (Ret w' (.int .i64 (if bs.length ≤ 200 then 0 else 3))) := fun w' fs hst => CheckC_calls v _ _ w' (hv.st hst)
  have hR0 : ∀ w' {fs}, St w [] fs w' → Calls Tryd.prog 16 #[v] w' (Ret w' (.bool (decide (bs.length ≤ 200)))) := fun w' fs hst => Right_calls v _ _ w' (hv.st hst)
  have hJ0 : ∀ w' {fs}, St w [] fs w' → Calls Tryd.prog 23 #[v, .int .u64 (n : Int)] w' (Ret w' (.bool (jumpC bs n))) := fun w' fs hst => Jump_calls bs n hn v w' (hv.st hst)
  obtain ⟨p0, c0, rfl, _, _⟩ := hv.form
  refine enter (args := [_, _, _]) _ [] [] Tryd.func7 rfl Tryd.ntmps7 rfl (by simp) .nil ?_
  rcases Nat.lt_or_ge 500 bs.length with hgt | hle
  · (refine CW.seq ?_; refine CW.region ?_; apply LW.v0; rfl; rfl; apply ValP.assign; rfl; apply LW.nil; refine thenN ?_; refine CW.seq ?_; refine CW.seq ?_; refine CW.region ?_; apply LW.callE; rfl; rfl; infer_instance; exact ArgsOk.nil; intro w _; exact wakes_calls w; apply LW.v0; rfl; rfl; apply ValP.notT; rfl; (with_reducible rfl); apply LW.nil; refine thenN ?_; apply CW.condF; rfl; (with_reducible rfl); refine CW.skip ?_; refine thenN ?_; refine CW.seq ?_; refine CW.seq ?_; refine CW.region ?_; apply LW.v0; rfl; rfl; apply ValP.move; rfl; apply LW.v0; rfl; rfl; apply ValP.lenR; rfl; infer_instance; rfl; apply LW.v0; rfl; rfl; apply ValP.gtrT; rfl; rfl; omega; apply LW.nil; refine thenN ?_; apply CW.condT; rfl; (with_reducible rfl); refine CW.seq ?_; refine CW.region ?_; apply LW.v0; rfl; rfl; apply ValP.assign; rfl; apply LW.nil; refine thenN ?_; refine CW.ret ?_; refine thenR ?_)
    (apply finR; exact .inl rfl; rfl; rfl; rfl; apply ResL.cons; exact Res.tmp rfl; exact ResL.nil)
    rfl
  rcases Nat.lt_or_ge 200 bs.length with hgt2 | hle2
  · rw [if_neg (by omega)] at hC0
    rw [decide_eq_false (by omega)] at hR0
    have hJn : jumpC bs n = false := by unfold jumpC jumpsC; rw [if_neg (by omega), Bool.and_eq_false_iff]; exact .inr rfl
    rw [hJn] at hJ0
    have hCk := hC0
    have hRi := hR0
    have hJp := hJ0
    (refine CW.seq ?_; refine CW.region ?_; apply LW.v0; rfl; rfl; apply ValP.assign; rfl; apply LW.nil; refine thenN ?_; refine CW.seq ?_; refine CW.seq ?_; refine CW.region ?_; apply LW.callE; rfl; rfl; infer_instance; exact ArgsOk.nil; intro w _; exact wakes_calls w; apply LW.v0; rfl; rfl; apply ValP.notT; rfl; (with_reducible rfl); apply LW.nil; refine thenN ?_; apply CW.condF; rfl; (with_reducible rfl); refine CW.skip ?_; refine thenN ?_; refine CW.seq ?_; refine CW.seq ?_; refine CW.region ?_; apply LW.v0; rfl; rfl; apply ValP.move; rfl; apply LW.v0; rfl; rfl; apply ValP.lenR; rfl; infer_instance; rfl; apply LW.v0; rfl; rfl; apply ValP.gtrF; rfl; rfl; omega; apply LW.nil; refine thenN ?_; apply CW.condF; rfl; (with_reducible rfl); refine CW.skip ?_; refine thenN ?_; refine CW.seq ?_; refine CW.region ?_; apply LW.v0; rfl; rfl; apply ValP.move; rfl; apply LW.callE; rfl; rfl; infer_instance; apply ArgsOk.cons; rfl; exact ArgsOk.nil; intro w _; exact hCk w (by assumption); apply LW.v0; rfl; rfl; apply ValP.assign; rfl; apply LW.nil; refine thenN ?_; refine CW.seq ?_; refine CW.region ?_; apply LW.v0; rfl; rfl; apply ValP.move; rfl)
    refine LW.callR rfl rfl inferInstance (by (apply ArgsOk.cons; rfl; exact ArgsOk.nil)) (fun w' hst => Jumps_calls bs _ w' (hv.st hst)) ?_
    intro v1 g1 h1
    unfold JumpsR at h1
    rw [if_neg (by omega)] at h1
    obtain ⟨p1, c1, rfl⟩ := h1.form
    have hl1 : ([] : List Nat).length = 0 := rfl
    rw [hl1]
    (apply LW.v0; rfl; rfl; apply ValP.assign; rfl; apply LW.nil; refine thenN ?_; refine CW.seq ?_; refine CW.seq ?_; refine CW.region ?_; apply LW.v0; rfl; rfl; apply ValP.move; rfl; apply LW.callE; rfl; rfl; infer_instance; apply ArgsOk.cons; rfl; exact ArgsOk.nil; intro w _; exact hRi w (by assumption); apply LW.v0; rfl; rfl; apply ValP.notF; rfl; (with_reducible rfl); apply LW.nil; refine thenN ?_; apply CW.condT; rfl; (with_reducible rfl); refine CW.seq ?_; refine CW.region ?_; apply LW.v0; rfl; rfl; apply ValP.move; rfl; apply LW.v0; rfl; rfl; apply ValP.eqT; rfl; rfl; omega; apply LW.v0; rfl; rfl; apply ValP.move; rfl; apply LW.guardT'; rfl; rfl; (with_reducible rfl); apply LW.v0; rfl; rfl; apply ValP.move; rfl; apply LW.guardT'; rfl; rfl; (with_reducible rfl); apply LW.v0; rfl; rfl; apply ValP.lenR; rfl; infer_instance; rfl; apply LW.guardT'; rfl; rfl; (with_reducible rfl); apply LW.v0; rfl; rfl; apply ValP.eqT; rfl; rfl; omega; apply LW.v0; rfl; rfl; apply ValP.pickT'; rfl; (with_reducible rfl); rfl; apply LW.v0; rfl; rfl; apply ValP.move; rfl; apply LW.guardT'; rfl; rfl; (with_reducible rfl); apply LW.v0; rfl; rfl; apply ValP.move; rfl; apply LW.guardT'; rfl; rfl; (with_reducible rfl); apply LW.v0; rfl; rfl; apply ValP.move; rfl; apply LW.guardT'; rfl; rfl; (with_reducible rfl); apply LW.callE; rfl; rfl; infer_instance; apply ArgsOk.cons; rfl; apply ArgsOk.cons; rfl; exact ArgsOk.nil; intro w _; exact hJp w (by assumption); apply LW.guardT'; rfl; rfl; (with_reducible rfl); apply LW.v0; rfl; rfl; apply ValP.notF; rfl; (with_reducible rfl); apply LW.v0; rfl; rfl; apply ValP.pickT'; rfl; (with_reducible rfl); rfl; apply LW.v0; rfl; rfl; apply ValP.move; rfl; apply LW.guardT'; rfl; rfl; (with_reducible rfl); apply LW.v0; rfl; rfl; apply ValP.move; rfl; apply LW.guardT'; rfl; rfl; (with_reducible rfl); apply LW.v0; rfl; rfl; apply ValP.move; rfl; apply LW.guardT'; rfl; rfl; (with_reducible rfl))
    refine LW.callR rfl rfl inferInstance (by (apply ArgsOk.cons; rfl; apply ArgsOk.cons; rfl; exact ArgsOk.nil)) (fun w' hst => Data_calls bs i _ w' (hv.st hst)) ?_
    intro v2 g2 h2
    rw [show dataC bs i = [] from if_neg (by omega)] at h2
    obtain ⟨p2, c2, rfl⟩ := h2.form
    have hl2 : ([] : List UInt8).length = 0 := rfl
    rw [hl2]
    (apply LW.guardT'; rfl; rfl; (with_reducible rfl); apply LW.v0; rfl; rfl; apply ValP.lenR; rfl; infer_instance; rfl; apply LW.guardT'; rfl; rfl; (with_reducible rfl); apply LW.v0; rfl; rfl; apply ValP.eqT; rfl; rfl; omega; apply LW.v0; rfl; rfl; apply ValP.pickT'; rfl; (with_reducible rfl); rfl; apply LW.v0; rfl; rfl; apply ValP.assign; rfl; apply LW.nil; refine thenN ?_; refine CW.ret ?_; refine thenR ?_)
    (apply finR; exact .inl rfl; rfl; rfl; rfl; apply ResL.cons; exact Res.tmp rfl; exact ResL.nil)
    rfl
  · rw [if_pos hle2] at hC0
    rw [decide_eq_true hle2] at hR0
    have hRJ0 : ∀ w' {fs}, St w [] fs w' → Calls Tryd.prog 26 #[.slice p0 bs.length c0, .int .u64 (n : Int)] w' (Ret w' (.bool (rJumpC bs n))) := fun w' fs hst => rJump_calls bs (by omega) n hn _ w' (hv.st hst)
    rw [← jump_eq bs hle2 n] at hRJ0
    obtain ⟨B, hB⟩ : ∃ B, jumpC bs n = B := ⟨_, rfl⟩
    rw [hB] at hJ0 hRJ0
    have hCk := hC0
    have hRi := hR0
    have hJp := hJ0
    have hrJ := hRJ0
    (refine CW.seq ?_; refine CW.region ?_; apply LW.v0; rfl; rfl; apply ValP.assign; rfl; apply LW.nil; refine thenN ?_; refine CW.seq ?_; refine CW.seq ?_; refine CW.region ?_; apply LW.callE; rfl; rfl; infer_instance; exact ArgsOk.nil; intro w _; exact wakes_calls w; apply LW.v0; rfl; rfl; apply ValP.notT; rfl; (with_reducible rfl); apply LW.nil; refine thenN ?_; apply CW.condF; rfl; (with_reducible rfl); refine CW.skip ?_; refine thenN ?_; refine CW.seq ?_; refine CW.seq ?_; refine CW.region ?_; apply LW.v0; rfl; rfl; apply ValP.move; rfl; apply LW.v0; rfl; rfl; apply ValP.lenR; rfl; infer_instance; rfl; apply LW.v0; rfl; rfl; apply ValP.gtrF; rfl; rfl; omega; apply LW.nil; refine thenN ?_; apply CW.condF; rfl; (with_reducible rfl); refine CW.skip ?_; refine thenN ?_; refine CW.seq ?_; refine CW.region ?_; apply LW.v0; rfl; rfl; apply ValP.move; rfl; apply LW.callE; rfl; rfl; infer_instance; apply ArgsOk.cons; rfl; exact ArgsOk.nil; intro w _; exact hCk w (by assumption); apply LW.v0; rfl; rfl; apply ValP.assign; rfl; apply LW.nil; refine thenN ?_; refine CW.seq ?_; refine CW.region ?_; apply LW.v0; rfl; rfl; apply ValP.move; rfl)
    refine LW.callR rfl rfl inferInstance (by (apply ArgsOk.cons; rfl; exact ArgsOk.nil)) (fun w' hst => Jumps_calls bs _ w' (hv.st hst)) ?_
    intro v1 g1 h1
    unfold JumpsR at h1
    rw [if_pos hle2, jumps_eq] at h1
    obtain ⟨p1, c1, rfl⟩ := h1.form
    (apply LW.v0; rfl; rfl; apply ValP.assign; rfl; apply LW.nil; refine thenN ?_; refine CW.seq ?_; refine CW.seq ?_; refine CW.region ?_; apply LW.v0; rfl; rfl; apply ValP.move; rfl; apply LW.callE; rfl; rfl; infer_instance; apply ArgsOk.cons; rfl; exact ArgsOk.nil; intro w _; exact hRi w (by assumption); apply LW.v0; rfl; rfl; apply ValP.notT; rfl; (with_reducible rfl); apply LW.nil; refine thenN ?_; apply CW.condF; rfl; (with_reducible rfl); refine CW.skip ?_; refine thenN ?_; refine CW.seq ?_; refine CW.region ?_; apply LW.v0; rfl; rfl; apply ValP.move; rfl)
    refine LW.callR rfl rfl inferInstance (by (apply ArgsOk.cons; rfl; exact ArgsOk.nil)) (fun w' hst => rJumps_calls bs (by omega) _ w' (hv.st hst)) ?_
    intro v2 g2 h2
    have hjl := jmpR_len bs bs.length
    obtain ⟨J, hJe⟩ : ∃ J, jmpR bs bs.length = J := ⟨_, rfl⟩
    rw [hJe] at h1 h2 hjl ⊢
    obtain ⟨p2, c2, rfl⟩ := h2.form
    (apply LW.v0; rfl; rfl; apply ValP.assign; rfl; apply LW.nil; refine thenN ?_; refine CW.seq ?_; refine CW.seq ?_; refine CW.region ?_; apply LW.v0; rfl; rfl; apply ValP.move; rfl; apply LW.v0; rfl; rfl; apply ValP.neF; rfl; rfl; omega; apply LW.v0; rfl; rfl; apply ValP.move; rfl; apply LW.guardT'; rfl; rfl; (with_reducible rfl); apply LW.v0; rfl; rfl; apply ValP.move; rfl; apply LW.guardT'; rfl; rfl; (with_reducible rfl); apply LW.v0; rfl; rfl; apply ValP.lenR; rfl; infer_instance; rfl; apply LW.guardT'; rfl; rfl; (with_reducible rfl); apply LW.v0; rfl; rfl; apply ValP.move; rfl; apply LW.guardT'; rfl; rfl; (with_reducible rfl); apply LW.v0; rfl; rfl; apply ValP.lenR; rfl; infer_instance; rfl; apply LW.guardT'; rfl; rfl; (with_reducible rfl); apply LW.v0; rfl; rfl; apply ValP.neF; rfl; rfl; omega; apply LW.v0; rfl; rfl; apply ValP.pickF'; rfl; (with_reducible rfl); rfl; apply LW.v0; rfl; rfl; apply ValP.move; rfl; apply LW.guardT'; rfl; rfl; (with_reducible rfl); apply LW.v0; rfl; rfl; apply ValP.move; rfl; apply LW.guardT'; rfl; rfl; (with_reducible rfl); apply LW.v0; rfl; rfl; apply ValP.move; rfl; apply LW.guardT'; rfl; rfl; (with_reducible rfl); apply LW.callE; rfl; rfl; infer_instance; apply ArgsOk.cons; rfl; apply ArgsOk.cons; rfl; exact ArgsOk.nil; intro w _; exact hJp w (by assumption); apply LW.guardT'; rfl; rfl; (with_reducible rfl); apply LW.v0; rfl; rfl; apply ValP.move; rfl; apply LW.guardT'; rfl; rfl; (with_reducible rfl); apply LW.v0; rfl; rfl; apply ValP.move; rfl; apply LW.guardT'; rfl; rfl; (with_reducible rfl); apply LW.callE; rfl; rfl; infer_instance; apply ArgsOk.cons; rfl; apply ArgsOk.cons; rfl; exact ArgsOk.nil; intro w _; exact hrJ w (by assumption); apply LW.guardT'; rfl; rfl; (with_reducible rfl); apply LW.v0; rfl; rfl; apply ValP.boolNeF; rfl; rfl; (with_reducible rfl); apply LW.v0; rfl; rfl; apply ValP.pickF'; rfl; (with_reducible rfl); rfl; apply LW.v0; rfl; rfl; apply ValP.move; rfl; apply LW.guardT'; rfl; rfl; (with_reducible rfl); apply LW.v0; rfl; rfl; apply ValP.move; rfl; apply LW.guardT'; rfl; rfl; (with_reducible rfl); apply LW.v0; rfl; rfl; apply ValP.move; rfl; apply LW.guardT'; rfl; rfl; (with_reducible rfl))
    refine LW.callR rfl rfl inferInstance (by (apply ArgsOk.cons; rfl; apply ArgsOk.cons; rfl; exact ArgsOk.nil)) (fun w' hst => Data_calls bs i _ w' (hv.st hst)) ?_
    intro v3 g3 h3
    rw [show dataC bs i = dataL bs i from if_pos hle2] at h3
    obtain ⟨p3, c3, rfl⟩ := h3.form
    (apply LW.guardT'; rfl; rfl; (with_reducible rfl); apply LW.v0; rfl; rfl; apply ValP.move; rfl; apply LW.guardT'; rfl; rfl; (with_reducible rfl); apply LW.v0; rfl; rfl; apply ValP.move; rfl; apply LW.guardT'; rfl; rfl; (with_reducible rfl))
    refine LW.callR rfl rfl inferInstance (by (apply ArgsOk.cons; rfl; apply ArgsOk.cons; rfl; exact ArgsOk.nil)) (fun w' hst => rData_calls bs (by omega) i _ w' (hv.st hst)) ?_
    intro v4 g4 h4
    obtain ⟨p4, c4, rfl⟩ := h4.form
    obtain ⟨D, hD⟩ : ∃ D, dataL bs i = D := ⟨_, rfl⟩
    rw [hD] at h3 h4 ⊢
    have hSm0 : ∀ {post} w', St w [] (g4 ++ (g3 ++ post)) w' → Calls Tryd.prog 19 #[.slice p3 D.length c3, .slice p4 D.length c4] w' (Ret w' (.bool (decide (D = D)))) := fun w' hst => Same_calls D D _ _ w' (IsRow.at (pre := g4) h3 hst) (IsRow.at (pre := []) h4 hst)
    rw [decide_eq_true rfl] at hSm0
    have hSm := @hSm0
    (apply LW.guardT'; rfl; rfl; (with_reducible rfl); apply LW.callE; rfl; rfl; infer_instance; apply ArgsOk.cons; rfl; apply ArgsOk.cons; rfl; exact ArgsOk.nil; intro w _; exact hSm w (by assumption); apply LW.guardT'; rfl; rfl; (with_reducible rfl); apply LW.v0; rfl; rfl; apply ValP.notT; rfl; (with_reducible rfl); apply LW.v0; rfl; rfl; apply ValP.pickF'; rfl; (with_reducible rfl); rfl; apply LW.nil; refine thenN ?_; apply CW.condF; rfl; (with_reducible rfl); refine CW.skip ?_; refine thenN ?_; refine CW.seq ?_; refine CW.seq ?_; refine CW.region ?_; apply LW.v0; rfl; rfl; apply ValP.move; rfl; apply LW.v0; rfl; rfl; apply ValP.lenR; rfl; infer_instance; rfl; apply LW.v0; rfl; rfl; apply ValP.move; rfl; apply LW.nil; refine thenN ?_; refine CW.block ?_)
    refine CW.loop (fun k : Nat => ([(8, .slice p1 J.length c1), (9, .slice p2 J.length c2), (74, .int .i64 (J.length : Int)), (75, .int .i64 (k : Int))], g2 ++ (g1 ++ [])))
      (fun k => k ≤ J.length) (fun k => J.length - k) 0 (Nat.zero_le _) ⟨rfl, rfl, rfl, rfl, trivial⟩ ((List.sublist_append_right g3 _).trans (List.sublist_append_right g4 _)) ?_
    intro k hk
    dsimp only
    rcases Nat.lt_or_ge k J.length with hkl | hkl
    · obtain ⟨b1, cur1, rfl, rfl, hn1, hm1, hs1, ht1⟩ := h1.pos (by omega)
      obtain ⟨b2, cur2, rfl, rfl, hn2, hm2, hs2, ht2⟩ := h2.pos (by omega)
      obtain ⟨x, hx⟩ : ∃ x, J[k] = x := ⟨_, rfl⟩
      have hrd1 : Rd Tryd.prog 3 (.cells cur1 3 (0, 0)) (0 + k * 1) (.int .i64 (x : Int)) := Rd.elem1 (off := 0) (by rw [List.drop_zero]; exact ht1) (ics_len J) (List.getElem?_eq_getElem hkl) (by rw [hx])
      have hrd2 : Rd Tryd.prog 3 (.cells cur2 3 (0, 0)) (0 + k * 1) (.int .i64 (x : Int)) := Rd.elem1 (off := 0) (by rw [List.drop_zero]; exact ht2) (ics_len J) (List.getElem?_eq_getElem hkl) (by rw [hx])
      (refine CW.seq ?_; refine CW.region ?_; apply LW.v0; rfl; rfl; apply ValP.lssT; rfl; rfl; omega; apply LW.nil; refine thenN ?_; refine CW.seq ?_; apply CW.condT; rfl; (with_reducible rfl); refine CW.skip ?_; refine thenN ?_; refine CW.seq ?_; refine CW.block ?_; refine CW.seq ?_; refine CW.region ?_; apply LW.v0; rfl; rfl; apply ValP.move; rfl; apply LW.v0; rfl; rfl; apply ValP.assign; rfl; apply LW.nil; refine thenN ?_; refine CW.seq ?_; refine CW.quiet rfl mixed (by decide +kernel) ?_; apply QW.v0; rfl; exact WantT.none; apply ValP.move; rfl; apply QW.v0; rfl; exact WantT.none; apply ValP.move; rfl; apply QW.v0; rfl; exact WantT.none; apply ValP.indexAddrS; rfl; rfl; rfl; omega; apply QW.load; rfl; exact WantT.none; rfl; apply Known.at; apply FsAt.tail; apply FsAt.head; assumption; apply QW.v0; rfl; exact WantT.none; apply ValP.move; rfl; apply QW.v0; rfl; exact WantT.none; apply ValP.move; rfl; apply QW.v0; rfl; exact WantT.none; apply ValP.indexAddrS; rfl; rfl; rfl; omega; apply QW.load; rfl; exact WantT.none; rfl; apply Known.at; apply FsAt.head; assumption; apply QW.v0; rfl; exact WantT.none; apply ValP.neF; rfl; rfl; omega; refine QW.nil ?_; refine thenN ?_; apply CW.condF; rfl; (with_reducible rfl); refine CW.skip ?_; refine blkN ?_; refine thenN ?_; refine CW.region ?_; apply LW.v0; rfl; rfl; apply ValP.addZL; rfl; rfl; decide; omega; apply LW.v0; rfl; rfl; apply ValP.move; rfl; apply LW.nil)
      apply thenX
      exact ⟨rfl, k + 1, hkl, by omega, ⟨rfl, rfl, rfl, rfl, trivial⟩, List.Sublist.refl _⟩
    · (refine CW.seq ?_; refine CW.region ?_; apply LW.v0; rfl; rfl; apply ValP.lssF; rfl; rfl; omega; apply LW.nil; refine thenN ?_; refine CW.seq ?_; apply CW.condF; rfl; (with_reducible rfl); refine CW.exit ?_; refine thenE ?_; refine thenE ?_; refine blkE rfl ?_; refine thenN ?_; refine CW.seq ?_; refine CW.region ?_; apply LW.v0; rfl; rfl; apply ValP.assign; rfl; apply LW.nil; refine thenN ?_; refine CW.ret ?_)
      (apply finR; exact .inl rfl; rfl; rfl; rfl; apply ResL.cons; exact Res.tmp rfl; exact ResL.nil)
      rfl
end Go.Proofs.YtbhicncgjplnoaaDoor

/-
  What is put behind a program changes none of its places to jump to: plain, and the walk.
  Conditions: none.
-/
namespace Go.Proofs.YtbhicncgjplnoaaDoor
open Go Go.RowKit SL
set_option maxRecDepth 8000
set_option maxHeartbeats 4000000
set_option linter.unusedSimpArgs false
set_option linter.unusedVariables false
attribute [local irreducible] SL.CW SL.LW SL.DW Calls SL.Ret SL.RetG SL.beginQ SL.roundQ SL.rangeQ SL.inQ SL.RW SL.AnyW SL.thenQ SL.thenC SL.thenW SL.blkQ SL.finQ SL.ValP SL.NewP SL.SetP SL.CallP SL.Rd SL.Wr SL.Known
attribute [local irreducible] opOf named parseU textL szOf
/-! ### Plain -/
theorem segs_shift (n : Nat) : ∀ (bs : List UInt8) (p d : Nat), bs.length ≤ n → segsAt (p + d) bs = (segsAt p bs).map fun s => (s.1 + d, s.2) := by
  induction n with
  | zero =>
    intro bs p d h
    rw [List.eq_nil_of_length_eq_zero (show bs.length = 0 by omega), segsAt_nil, segsAt_nil]; rfl
  | succ n ih =>
    intro bs p d h
    cases bs with
    | nil => rw [segsAt_nil, segsAt_nil]; rfl
    | cons b r =>
      rw [segsAt_cons, segsAt_cons, List.map_cons, ← ih _ (p + 1 + szOf b.toNat) d (by simp at h ⊢; omega), show p + d + 1 + szOf b.toNat = p + 1 + szOf b.toNat + d by omega]
theorem jmp_shift (d : Nat) : ∀ L : List (Nat × UInt8 × List UInt8), jmpOf (L.map fun s => (s.1 + d, s.2)) = (jmpOf L).map (· + d)
  | [] => rfl
  | (p, u, x) :: L => by
    rw [List.map_cons]
    by_cases h : u.toNat = 91
    · rw [jmpOf_hit h, jmpOf_hit h, List.map_cons, jmp_shift d L]
    · rw [jmpOf_miss h, jmpOf_miss h, jmp_shift d L]
theorem jmp_app (L R : List (Nat × UInt8 × List UInt8)) : jmpOf (L ++ R) = jmpOf L ++ jmpOf R := by unfold jmpOf; exact List.filterMap_append
/-- Nothing is cut off. -/
def full (bs : List UInt8) : Prop := match bs with
  | [] => True
  | b :: r => szOf b.toNat ≤ r.length ∧ full (r.drop (szOf b.toNat))
termination_by bs.length
decreasing_by simp [List.length_drop]; omega
theorem full_nil : full [] := by rw [full]; trivial
theorem full_cons (b : UInt8) (r : List UInt8) : full (b :: r) ↔ szOf b.toNat ≤ r.length ∧ full (r.drop (szOf b.toNat)) := by rw [full]
theorem segs_full (n : Nat) : ∀ (a b : List UInt8) (p : Nat), a.length ≤ n → full a → segsAt p (a ++ b) = segsAt p a ++ segsAt (p + a.length) b := by
  induction n with
  | zero =>
    intro a b p h _
    rw [List.eq_nil_of_length_eq_zero (show a.length = 0 by omega), segsAt_nil]; rfl
  | succ n ih =>
    intro a b p h hf
    cases a with
    | nil => rw [segsAt_nil]; rfl
    | cons x r =>
      obtain ⟨h1, h2⟩ := (full_cons x r).1 hf
      have IH := ih (r.drop (szOf x.toNat)) b (p + 1 + szOf x.toNat) (by simp at h ⊢; omega) h2
      rw [List.cons_append, segsAt_cons, segsAt_cons, List.cons_append, List.take_append_of_le_length h1, List.drop_append_of_le_length h1, IH, List.length_cons, List.length_drop, show p + 1 + szOf x.toNat + (r.length - szOf x.toNat) = p + (r.length + 1) by omega]
theorem jumps_join {a b : List UInt8} (h : full a) : jumpsL (a ++ b) = jumpsL a ++ (jumpsL b).map (· + a.length) := by
  unfold jumpsL
  rw [segs_full _ a b 0 (Nat.le_refl _) h, jmp_app, segs_shift _ b 0 a.length (Nat.le_refl _), jmp_shift]
theorem segs_byte (n : Nat) : ∀ (bs : List UInt8) (p : Nat), bs.length ≤ n → ∀ s ∈ segsAt p bs, bs.getD (s.1 - p) 0 = s.2.1 ∧ s.1 < p + bs.length := by
  induction n with
  | zero =>
    intro bs p h s hs
    rw [List.eq_nil_of_length_eq_zero (show bs.length = 0 by omega), segsAt_nil] at hs
    cases hs
  | succ n ih =>
    intro bs p h s hs
    cases bs with
    | nil => rw [segsAt_nil] at hs; cases hs
    | cons b r =>
      rw [segsAt_cons] at hs
      obtain ⟨z, hz⟩ : ∃ z, szOf b.toNat = z := ⟨_, rfl⟩
      rw [hz] at hs
      rcases List.mem_cons.1 hs with rfl | hs
      · rw [Nat.sub_self]; simp
      · have h1 := ih (r.drop z) (p + 1 + z) (by simp at h ⊢; omega) s hs
        have h2 := segsAt_ge _ _ _ (Nat.le_refl _) s hs
        obtain ⟨j, hj⟩ : ∃ j, s.1 = p + 1 + z + j := ⟨s.1 - (p + 1 + z), by omega⟩
        rw [hj, show p + 1 + z + j - (p + 1 + z) = j by omega, List.getD_eq_getElem?_getD, List.getElem?_drop] at h1
        refine ⟨?_, ?_⟩
        · rw [hj, show p + 1 + z + j - p = (z + j) + 1 by omega, List.getD_cons_succ, List.getD_eq_getElem?_getD]; exact h1.1
        · have := h1.2; rw [List.length_drop] at this; rw [List.length_cons]; omega
theorem not_full (n : Nat) : ∀ (bs : List UInt8) (p : Nat), bs.length ≤ n → ¬ full bs → ∃ s ∈ segsAt p bs, p + bs.length ≤ s.1 + szOf s.2.1.toNat ∧ ∀ s' ∈ segsAt p bs, s'.1 ≤ s.1 := by
  induction n with
  | zero =>
    intro bs p h hf
    rw [List.eq_nil_of_length_eq_zero (show bs.length = 0 by omega)] at hf
    exact absurd full_nil hf
  | succ n ih =>
    intro bs p h hf
    cases bs with
    | nil => exact absurd full_nil hf
    | cons b r =>
      rw [segsAt_cons]
      by_cases h1 : szOf b.toNat ≤ r.length
      · have h2 : ¬ full (r.drop (szOf b.toNat)) := fun h2 => hf ((full_cons b r).2 ⟨h1, h2⟩)
        obtain ⟨s, hs, hl, hm⟩ := ih (r.drop (szOf b.toNat)) (p + 1 + szOf b.toNat) (by simp at h ⊢; omega) h2
        have hge := segsAt_ge _ _ _ (Nat.le_refl _) s hs
        refine ⟨s, List.mem_cons_of_mem _ hs, ?_, fun s' hs' => ?_⟩
        · rw [List.length_drop] at hl; rw [List.length_cons]; omega
        · rcases List.mem_cons.1 hs' with rfl | hs'
          · dsimp only; omega
          · exact hm s' hs'
      · refine ⟨(p, b, r.take (szOf b.toNat)), List.mem_cons_self, ?_, fun s' hs' => ?_⟩
        · dsimp only; rw [List.length_cons]; omega
        · rw [List.drop_eq_nil_of_le (by omega), segsAt_nil] at hs'
          obtain rfl := List.mem_singleton.1 hs'
          exact Nat.le_refl _
def lastF (a : List UInt8) : Nat → Int
  | 0 => -1
  | k + 1 => if 0 < (dataL a (k : Int)).length then ((k + (dataL a (k : Int)).length : Nat) : Int) else lastF a k
theorem readB_mem {bs : List UInt8} {k : Nat} (h : readB bs (k : Int) = true) : ∃ s ∈ segsAt 0 bs, s.1 = k := by
  unfold readB at h
  obtain ⟨s, hs, he⟩ := List.any_eq_true.1 h
  have he' : (s.1 : Int) = (k : Int) := by simpa using he
  exact ⟨s, hs, by omega⟩
theorem mem_readB {bs : List UInt8} {s : Nat × UInt8 × List UInt8} (h : s ∈ segsAt 0 bs) : readB bs (s.1 : Int) = true := by
  unfold readB
  exact List.any_eq_true.2 ⟨s, h, by simp⟩
theorem last_full {a : List UInt8} (h : lastF a a.length < (a.length : Int)) : full a := by
  by_cases hf : full a
  · exact hf
  obtain ⟨s, hs, hl, hm⟩ := not_full _ a 0 (Nat.le_refl _) hf
  obtain ⟨hb, hlt⟩ := segs_byte _ a 0 (Nat.le_refl _) s hs
  rw [Nat.sub_zero] at hb
  have hd : dataL a (s.1 : Int) = datF a s.1 (szOf s.2.1.toNat) := by rw [dataL_some (mem_readB hs), hb]
  have hdl : (dataL a (s.1 : Int)).length = szOf s.2.1.toNat := by rw [hd, datF_len]
  have key : ∀ k, s.1 < k → lastF a k = ((s.1 + szOf s.2.1.toNat : Nat) : Int) := by
    intro k
    induction k with
    | zero => intro h; omega
    | succ k ih =>
      intro hk
      unfold lastF
      rcases Nat.lt_or_ge s.1 k with h1 | h1
      · have hn : readB a (k : Int) = false := by
          cases hr : readB a (k : Int) with
          | false => rfl
          | true =>
            obtain ⟨s', hs', he'⟩ := readB_mem hr
            have := hm s' hs'
            omega
        rw [dataL_none hn]
        exact ih h1
      · obtain rfl : k = s.1 := by omega
        rw [hdl, if_pos (by omega)]
  rw [key a.length (by omega)] at h
  omega
/-! ### Walks -/
theorem bClone_calls (l : List UInt8) (v : Value) (w : World) (hv : RowAt w 1 v l.length (ucs l)) (hl : l.length ≤ 100000) : Calls Tryd.prog 30 #[v] w (RetG w [] (fun v' gs => IsRow 5 1 v' l.length (ucs l) gs)) := by
  obtain ⟨p, c, rfl, _, _⟩ := hv.form
  cases p with
  | none =>
    have h0 : l.length = 0 := by
      rcases Nat.eq_zero_or_pos l.length with h | h
      · exact h
      · obtain ⟨_, _, _, _, _, _, he, _, _⟩ := hv.pos h
        cases he
    have hn : l = [] := List.length_eq_zero_iff.1 h0
    subst hn
    refine enter (args := [_]) _ [] [] Tryd.func30 rfl Tryd.ntmps30 rfl (by simp) .nil ?_
    (refine CW.seq ?_; refine CW.region ?_; apply LW.v0; rfl; rfl; apply ValP.assign; rfl; apply LW.nil; refine thenN ?_; refine CW.seq ?_; refine CW.seq ?_; refine CW.region ?_; apply LW.v0; rfl; rfl; apply ValP.move; rfl; apply LW.v0; rfl; rfl; apply ValP.sliNilT; rfl; rfl; apply LW.nil; refine thenN ?_; apply CW.condT; rfl; (with_reducible rfl); refine CW.seq ?_; refine CW.region ?_; apply LW.v0; rfl; rfl; apply ValP.assign; rfl; apply LW.nil; refine thenN ?_; refine CW.ret ?_; refine thenR ?_)
    exact fin [] (.inl rfl) rfl rfl (by (apply ResL.cons; exact Res.tmp rfl; exact ResL.nil)) (List.Sublist.refl _) .nil
  | some a =>
    refine enter (args := [_]) _ [] [] Tryd.func30 rfl Tryd.ntmps30 rfl (by simp) .nil ?_
    (refine CW.seq ?_; refine CW.region ?_; apply LW.v0; rfl; rfl; apply ValP.assign; rfl; apply LW.nil; refine thenN ?_; refine CW.seq ?_; refine CW.seq ?_; refine CW.region ?_; apply LW.v0; rfl; rfl; apply ValP.move; rfl; apply LW.v0; rfl; rfl; apply ValP.sliNilF; rfl; rfl; apply LW.nil; refine thenN ?_; apply CW.condF; rfl; (with_reducible rfl); refine CW.skip ?_; refine thenN ?_; refine CW.seq ?_; refine CW.region ?_)
    refine LW.lay0 rfl inferInstance inferInstance fun v0 seg hrow => ?_
    (apply LW.v0; rfl; rfl; apply ValP.move; rfl)
    (apply LW.appendAny; (case hrow => assumption); rfl; rfl; infer_instance; infer_instance; infer_instance; rfl; rfl; rfl; exact AtSeg.head)
    · exact fun w hs => hv.st hs
    · exact ucs_cells l
    · simp only [maxLen]; omega
    · omega
    intro v1 seg1 hrow1
    refine ⟨_, (by (exact AtSeg.head)), ?_⟩
    simp only [List.nil_append, Nat.zero_add, List.append_nil] at hrow1 ⊢
    (apply LW.v0; rfl; rfl; apply ValP.assign; rfl; apply LW.nil; refine thenN ?_; refine CW.ret ?_)
    refine fin (vs := [v1]) seg1 (.inl rfl) rfl rfl (by (apply ResL.cons; exact Res.tmp rfl; exact ResL.nil)) ?_ hrow1
    (exact List.Sublist.refl _)
theorem sEqual_calls (a b : List Nat) (va vb : Value) (w : World) (ha : RowAt w 1 va a.length (ics a)) (hb : RowAt w 1 vb b.length (ics b)) : Calls Tryd.prog 31 #[va, vb] w (Ret w (.bool (decide (a = b)))) := by
  obtain ⟨p0, c0, rfl, hc0, hm0⟩ := ha.form
  obtain ⟨p1, c1, rfl, hc1, hm1⟩ := hb.form
  simp only [maxLen] at hm0 hm1
  refine enter (args := [_, _]) _ [] [] Tryd.func31 rfl Tryd.ntmps31 rfl (by simp) .nil ?_
  by_cases hl : a.length = b.length
  · (refine CW.seq ?_; refine CW.region ?_; apply LW.v0; rfl; rfl; apply ValP.assign; rfl; apply LW.nil; refine thenN ?_; refine CW.seq ?_; refine CW.seq ?_; refine CW.region ?_; apply LW.v0; rfl; rfl; apply ValP.move; rfl; apply LW.v0; rfl; rfl; apply ValP.lenR; rfl; infer_instance; rfl; apply LW.v0; rfl; rfl; apply ValP.move; rfl; apply LW.v0; rfl; rfl; apply ValP.lenR; rfl; infer_instance; rfl; apply LW.v0; rfl; rfl; apply ValP.neF; rfl; rfl; omega; apply LW.nil; refine thenN ?_; apply CW.condF; rfl; (with_reducible rfl); refine CW.skip ?_; refine thenN ?_; refine CW.seq ?_; refine CW.seq ?_; refine CW.region ?_; apply LW.v0; rfl; rfl; apply ValP.move; rfl; apply LW.v0; rfl; rfl; apply ValP.lenR; rfl; infer_instance; rfl; apply LW.v0; rfl; rfl; apply ValP.move; rfl; apply LW.nil; refine thenN ?_; refine CW.block ?_)
    refine CW.loop (fun k : Nat => ([(0, .slice p0 a.length c0), (1, .slice p1 b.length c1), (12, .int .i64 (a.length : Int)), (13, .int .i64 (k : Int))], []))
      (fun k => k ≤ a.length ∧ ∀ j, j < k → a[j]? = b[j]?) (fun k => a.length - k) 0 ⟨Nat.zero_le _, fun j h => absurd h (Nat.not_lt_zero _)⟩ ⟨rfl, rfl, rfl, rfl, trivial⟩ (List.Sublist.refl _) ?_
    rintro k ⟨hk, hall⟩
    dsimp only
    rcases Nat.lt_or_ge k a.length with hlt | hge
    · obtain ⟨b1, off1, c', cs1, E1, fr1, heq, hbk1, hx1⟩ := ha.pos (by omega)
      cases heq
      obtain ⟨b2, off2, c', cs2, E2, fr2, heq, hbk2, hx2⟩ := hb.pos (by omega)
      cases heq
      have hlt2 : k < b.length := by omega
      obtain ⟨x, hx⟩ : ∃ x, a[k] = x := ⟨_, rfl⟩
      obtain ⟨y, hy⟩ : ∃ y, b[k] = y := ⟨_, rfl⟩
      have hrd1 : Rd Tryd.prog 3 (.cells cs1 E1 fr1) (off1 + k * 1) (.int .i64 (x : Int)) := Rd.elem1 hx1 (ics_len a) (List.getElem?_eq_getElem hlt) (by rw [hx])
      have hrd2 : Rd Tryd.prog 3 (.cells cs2 E2 fr2) (off2 + k * 1) (.int .i64 (y : Int)) := Rd.elem1 hx2 (ics_len b) (List.getElem?_eq_getElem hlt2) (by rw [hy])
      by_cases he : x = y
      · subst he
        (refine CW.seq ?_; refine CW.region ?_; apply LW.v0; rfl; rfl; apply ValP.lssT; rfl; rfl; omega; apply LW.nil; refine thenN ?_; refine CW.seq ?_; apply CW.condT; rfl; (with_reducible rfl); refine CW.skip ?_; refine thenN ?_; refine CW.seq ?_; refine CW.block ?_; refine CW.seq ?_; refine CW.region ?_; apply LW.v0; rfl; rfl; apply ValP.move; rfl; apply LW.v0; rfl; rfl; apply ValP.assign; rfl; apply LW.nil; refine thenN ?_; refine CW.seq ?_; refine CW.quiet rfl mixed (by decide +kernel) ?_; apply QW.v0; rfl; exact WantT.none; apply ValP.move; rfl; apply QW.v0; rfl; exact WantT.none; apply ValP.move; rfl; apply QW.v0; rfl; exact WantT.none; apply ValP.indexAddrS; rfl; rfl; rfl; omega; apply QW.load; rfl; exact WantT.none; rfl; exact Known.ext (by assumption) (by simp); assumption; apply QW.v0; rfl; exact WantT.none; apply ValP.move; rfl; apply QW.v0; rfl; exact WantT.none; apply ValP.move; rfl; apply QW.v0; rfl; exact WantT.none; apply ValP.indexAddrS; rfl; rfl; rfl; omega; apply QW.load; rfl; exact WantT.none; rfl; exact Known.ext (by assumption) (by simp); assumption; apply QW.v0; rfl; exact WantT.none; apply ValP.neF; rfl; rfl; omega; refine QW.nil ?_; refine thenN ?_; apply CW.condF; rfl; (with_reducible rfl); refine CW.skip ?_; refine blkN ?_; refine thenN ?_; refine CW.region ?_; apply LW.v0; rfl; rfl; apply ValP.addZL; rfl; rfl; decide; omega; apply LW.v0; rfl; rfl; apply ValP.move; rfl; apply LW.nil)
        apply thenX
        refine ⟨rfl, k + 1, ⟨hlt, fun j hj => ?_⟩, by omega, ⟨rfl, rfl, rfl, rfl, trivial⟩, List.Sublist.refl _⟩
        rcases Nat.lt_or_ge j k with h | h
        · exact hall j h
        · obtain rfl : j = k := by omega
          rw [List.getElem?_eq_getElem hlt, List.getElem?_eq_getElem hlt2, hx, hy]
      · have hne : ¬ (x : Int) = (y : Int) := fun h => he (by omega)
        rw [decide_eq_false (fun h : a = b => he (by rw [← hx, ← hy]; subst h; rfl))]
        (refine CW.seq ?_; refine CW.region ?_; apply LW.v0; rfl; rfl; apply ValP.lssT; rfl; rfl; omega; apply LW.nil; refine thenN ?_; refine CW.seq ?_; apply CW.condT; rfl; (with_reducible rfl); refine CW.skip ?_; refine thenN ?_; refine CW.seq ?_; refine CW.block ?_; refine CW.seq ?_; refine CW.region ?_; apply LW.v0; rfl; rfl; apply ValP.move; rfl; apply LW.v0; rfl; rfl; apply ValP.assign; rfl; apply LW.nil; refine thenN ?_; refine CW.seq ?_; refine CW.quiet rfl mixed (by decide +kernel) ?_; apply QW.v0; rfl; exact WantT.none; apply ValP.move; rfl; apply QW.v0; rfl; exact WantT.none; apply ValP.move; rfl; apply QW.v0; rfl; exact WantT.none; apply ValP.indexAddrS; rfl; rfl; rfl; omega; apply QW.load; rfl; exact WantT.none; rfl; exact Known.ext (by assumption) (by simp); assumption; apply QW.v0; rfl; exact WantT.none; apply ValP.move; rfl; apply QW.v0; rfl; exact WantT.none; apply ValP.move; rfl; apply QW.v0; rfl; exact WantT.none; apply ValP.indexAddrS; rfl; rfl; rfl; omega; apply QW.load; rfl; exact WantT.none; rfl; exact Known.ext (by assumption) (by simp); assumption; apply QW.v0; rfl; exact WantT.none; apply ValP.neT; rfl; rfl; omega; refine QW.nil ?_; refine thenN ?_; apply CW.condT; rfl; (with_reducible rfl); refine CW.seq ?_; refine CW.region ?_; apply LW.v0; rfl; rfl; apply ValP.assign; rfl; apply LW.nil; refine thenN ?_; refine CW.ret ?_; refine blkR ?_; refine thenR ?_; refine thenR ?_; refine blkR ?_; refine thenR ?_)
        (apply finR; exact .inl rfl; rfl; rfl; rfl; apply ResL.cons; exact Res.tmp rfl; exact ResL.nil)
        rfl
    · rw [decide_eq_true (List.ext_getElem? fun j => by
        rcases Nat.lt_or_ge j k with h | h
        · exact hall j h
        · rw [List.getElem?_eq_none (by omega), List.getElem?_eq_none (by omega)])]
      (refine CW.seq ?_; refine CW.region ?_; apply LW.v0; rfl; rfl; apply ValP.lssF; rfl; rfl; omega; apply LW.nil; refine thenN ?_; refine CW.seq ?_; apply CW.condF; rfl; (with_reducible rfl); refine CW.exit ?_; refine thenE ?_; refine thenE ?_; refine blkE rfl ?_; refine thenN ?_; refine CW.seq ?_; refine CW.region ?_; apply LW.v0; rfl; rfl; apply ValP.assign; rfl; apply LW.nil; refine thenN ?_; refine CW.ret ?_)
      (apply finR; exact .inl rfl; rfl; rfl; rfl; apply ResL.cons; exact Res.tmp rfl; exact ResL.nil)
      rfl
  · rw [decide_eq_false (fun h : a = b => hl (by rw [h]))]
    (refine CW.seq ?_; refine CW.region ?_; apply LW.v0; rfl; rfl; apply ValP.assign; rfl; apply LW.nil; refine thenN ?_; refine CW.seq ?_; refine CW.seq ?_; refine CW.region ?_; apply LW.v0; rfl; rfl; apply ValP.move; rfl; apply LW.v0; rfl; rfl; apply ValP.lenR; rfl; infer_instance; rfl; apply LW.v0; rfl; rfl; apply ValP.move; rfl; apply LW.v0; rfl; rfl; apply ValP.lenR; rfl; infer_instance; rfl; apply LW.v0; rfl; rfl; apply ValP.neT; rfl; rfl; omega; apply LW.nil; refine thenN ?_; apply CW.condT; rfl; (with_reducible rfl); refine CW.seq ?_; refine CW.region ?_; apply LW.v0; rfl; rfl; apply ValP.assign; rfl; apply LW.nil; refine thenN ?_; refine CW.ret ?_; refine thenR ?_)
    (apply finR; exact .inl rfl; rfl; rfl; rfl; apply ResL.cons; exact Res.tmp rfl; exact ResL.nil)
    rfl
theorem lastF_bound (a : List UInt8) : ∀ k, lastF a k ≤ (k : Int) + 32 ∧ -1 ≤ lastF a k
  | 0 => by unfold lastF; omega
  | k + 1 => by
    have ih := lastF_bound a k
    unfold lastF
    split
    · rename_i h
      have hl : (dataL a (k : Int)).length ≤ 32 := by
        cases hr : readB a (k : Int) with
        | true => rw [dataL_some hr, datF_len]; exact szOf_le _
        | false => rw [dataL_none hr]; exact Nat.zero_le _
      omega
    · omega
structure MX where
  k : Nat
  v : Value
  seg : Fs
theorem jumpsL_len (bs : List UInt8) : (jumpsL bs).length ≤ bs.length := by rw [jumps_eq]; exact jmpR_len _ _
theorem jumpsL_lt (bs : List UInt8) : ∀ x ∈ jumpsL bs, x < bs.length := fun x hx => by
  rw [jumps_eq] at hx
  exact List.mem_range.1 (List.mem_filter.1 hx).1
theorem CodeJoins_walk (va : Value) (a : List UInt8) (vb : Value) (b : List UInt8) (hz0 : a.length ≤ 140737488355328) (hz1 : b.length ≤ 140737488355328) (w : World) (ha : RowAt w 1 va a.length (ucs a)) (hb : RowAt w 1 vb b.length (ucs b)) : Calls Tryd.prog 9 #[va, vb] w (Ret w (.bool true)) := by
  obtain ⟨p0, c0, rfl, hc0, hm0⟩ := ha.form
  obtain ⟨p1, c1, rfl, hc1, hm1⟩ := hb.form
  simp only [maxLen] at hm0 hm1
  refine enter (args := [_, _]) _ [] [] Tryd.func9 rfl Tryd.ntmps9 rfl (by simp) .nil ?_
  rcases Nat.lt_or_ge 200 (a.length + b.length) with hgt | hle
  · (refine CW.seq ?_; refine CW.region ?_; apply LW.v0; rfl; rfl; apply ValP.assign; rfl; apply LW.nil; refine thenN ?_; refine CW.seq ?_; refine CW.seq ?_; refine CW.region ?_; apply LW.callE; rfl; rfl; infer_instance; exact ArgsOk.nil; intro w _; exact wakes_calls w; apply LW.v0; rfl; rfl; apply ValP.notT; rfl; (with_reducible rfl); apply LW.nil; refine thenN ?_; apply CW.condF; rfl; (with_reducible rfl); refine CW.skip ?_; refine thenN ?_; refine CW.seq ?_; refine CW.seq ?_; refine CW.region ?_; apply LW.v0; rfl; rfl; apply ValP.move; rfl; apply LW.v0; rfl; rfl; apply ValP.lenR; rfl; infer_instance; rfl; apply LW.v0; rfl; rfl; apply ValP.move; rfl; apply LW.v0; rfl; rfl; apply ValP.lenR; rfl; infer_instance; rfl; apply LW.v0; rfl; rfl; apply ValP.addZ; rfl; rfl; omega; apply LW.v0; rfl; rfl; apply ValP.gtrT; rfl; rfl; omega; apply LW.nil; refine thenN ?_; apply CW.condT; rfl; (with_reducible rfl); refine CW.seq ?_; refine CW.region ?_; apply LW.v0; rfl; rfl; apply ValP.assign; rfl; apply LW.nil; refine thenN ?_; refine CW.ret ?_; refine thenR ?_)
    (apply finR; exact .inl rfl; rfl; rfl; rfl; apply ResL.cons; exact Res.tmp rfl; exact ResL.nil)
    rfl
  (refine CW.seq ?_; refine CW.region ?_; apply LW.v0; rfl; rfl; apply ValP.assign; rfl; apply LW.nil; refine thenN ?_; refine CW.seq ?_; refine CW.seq ?_; refine CW.region ?_; apply LW.callE; rfl; rfl; infer_instance; exact ArgsOk.nil; intro w _; exact wakes_calls w; apply LW.v0; rfl; rfl; apply ValP.notT; rfl; (with_reducible rfl); apply LW.nil; refine thenN ?_; apply CW.condF; rfl; (with_reducible rfl); refine CW.skip ?_; refine thenN ?_; refine CW.seq ?_; refine CW.seq ?_; refine CW.region ?_; apply LW.v0; rfl; rfl; apply ValP.move; rfl; apply LW.v0; rfl; rfl; apply ValP.lenR; rfl; infer_instance; rfl; apply LW.v0; rfl; rfl; apply ValP.move; rfl; apply LW.v0; rfl; rfl; apply ValP.lenR; rfl; infer_instance; rfl; apply LW.v0; rfl; rfl; apply ValP.addZ; rfl; rfl; omega; apply LW.v0; rfl; rfl; apply ValP.gtrF; rfl; rfl; omega; apply LW.nil; refine thenN ?_; apply CW.condF; rfl; (with_reducible rfl); refine CW.skip ?_; refine thenN ?_; refine CW.seq ?_; refine CW.region ?_; apply LW.v0; rfl; rfl; apply ValP.assign; rfl; apply LW.nil; refine thenN ?_; refine CW.seq ?_; refine CW.region ?_; apply LW.v0; rfl; rfl; apply ValP.assign; rfl; apply LW.nil; refine thenN ?_; refine CW.seq ?_; refine CW.seq ?_; refine CW.region ?_; apply LW.v0; rfl; rfl; apply ValP.move; rfl; apply LW.v0; rfl; rfl; apply ValP.lenR; rfl; infer_instance; rfl; apply LW.v0; rfl; rfl; apply ValP.move; rfl; apply LW.nil; refine thenN ?_; refine CW.block ?_)
  refine CW.loop (fun k : Nat => ([(0, .slice p0 a.length c0), (1, .slice p1 b.length c1), (4, .bool false), (6, .int .i64 (lastF a k)), (22, .int .i64 (a.length : Int)), (23, .int .i64 (k : Int))], []))
    (fun k => k ≤ a.length) (fun k => a.length - k) 0 (Nat.zero_le _) ⟨rfl, rfl, rfl, rfl, rfl, rfl, trivial⟩ (List.Sublist.refl _) ?_
  intro k hk
  dsimp only
  have hlb := lastF_bound a k
  rcases Nat.lt_or_ge k a.length with hlt | hge
  · (refine CW.seq ?_; refine CW.region ?_; apply LW.v0; rfl; rfl; apply ValP.lssT; rfl; rfl; omega; apply LW.nil; refine thenN ?_; refine CW.seq ?_; apply CW.condT; rfl; (with_reducible rfl); refine CW.skip ?_; refine thenN ?_; refine CW.seq ?_; refine CW.block ?_; refine CW.seq ?_; refine CW.region ?_; apply LW.v0; rfl; rfl; apply ValP.move; rfl; apply LW.v0; rfl; rfl; apply ValP.assign; rfl; apply LW.nil; refine thenN ?_; refine CW.seq ?_; refine CW.region ?_; apply LW.v0; rfl; rfl; apply ValP.move; rfl; apply LW.v0; rfl; rfl; apply ValP.move; rfl)
    refine LW.callR rfl rfl inferInstance (by (apply ArgsOk.cons; rfl; apply ArgsOk.cons; rfl; exact ArgsOk.nil)) (fun w' hst => Data_calls a (k : Int) _ w' (ha.st hst)) ?_
    intro v1 g1 h1
    rw [show dataC a (k : Int) = dataL a k from if_pos (by omega)] at h1
    obtain ⟨q1, d1, rfl⟩ := h1.form
    rcases Nat.eq_zero_or_pos (dataL a (k : Int)).length with hz | hz
    · have hst : lastF a (k + 1) = lastF a k := if_neg (by omega)
      (apply LW.v0; rfl; rfl; apply ValP.assign; rfl; apply LW.nil; refine thenN ?_; refine CW.seq ?_; refine CW.region ?_; apply LW.v0; rfl; rfl; apply ValP.move; rfl; apply LW.v0; rfl; rfl; apply ValP.lenR; rfl; infer_instance; rfl; apply LW.v0; rfl; rfl; apply ValP.gtrF; rfl; rfl; omega; apply LW.nil; refine thenN ?_; apply CW.condF; rfl; (with_reducible rfl); refine CW.skip ?_; refine blkN ?_; refine thenN ?_; refine CW.region ?_; apply LW.v0; rfl; rfl; apply ValP.addZL; rfl; rfl; decide; omega; apply LW.v0; rfl; rfl; apply ValP.move; rfl; apply LW.nil)
      apply thenX
      exact ⟨rfl, k + 1, hlt, by omega, ⟨rfl, rfl, rfl, by rw [hst]; rfl, rfl, rfl, trivial⟩, by (apply List.sublist_append_of_sublist_right; exact List.Sublist.refl _)⟩
    · have hst : lastF a (k + 1) = ((k + (dataL a (k : Int)).length : Nat) : Int) := if_pos hz
      have hl32 := (lastF_bound a (k + 1)).1
      rw [hst] at hl32
      obtain ⟨n, hn⟩ : ∃ n, (dataL a (k : Int)).length = n := ⟨_, rfl⟩
      rw [hn] at hst hz hl32 ⊢
      (apply LW.v0; rfl; rfl; apply ValP.assign; rfl; apply LW.nil; refine thenN ?_; refine CW.seq ?_; refine CW.region ?_; apply LW.v0; rfl; rfl; apply ValP.move; rfl; apply LW.v0; rfl; rfl; apply ValP.lenR; rfl; infer_instance; rfl; apply LW.v0; rfl; rfl; apply ValP.gtrT; rfl; rfl; omega; apply LW.nil; refine thenN ?_; apply CW.condT; rfl; (with_reducible rfl); refine CW.region ?_; apply LW.v0; rfl; rfl; apply ValP.move; rfl; apply LW.v0; rfl; rfl; apply ValP.move; rfl; apply LW.v0; rfl; rfl; apply ValP.lenR; rfl; infer_instance; rfl; apply LW.v0; rfl; rfl; apply ValP.addZ; rfl; rfl; omega; apply LW.v0; rfl; rfl; apply ValP.assign; rfl; apply LW.nil; refine blkN ?_; refine thenN ?_; refine CW.region ?_; apply LW.v0; rfl; rfl; apply ValP.addZL; rfl; rfl; decide; omega; apply LW.v0; rfl; rfl; apply ValP.move; rfl; apply LW.nil)
      apply thenX
      exact ⟨rfl, k + 1, hlt, by omega, ⟨rfl, rfl, rfl, by rw [hst]; rfl, rfl, rfl, trivial⟩, by (apply List.sublist_append_of_sublist_right; exact List.Sublist.refl _)⟩
  · obtain rfl : k = a.length := by omega
    rcases Int.lt_or_le (lastF a a.length) (a.length : Int) with hwh | hwh
    · have hjoin := jumps_join (b := b) (last_full hwh)
      obtain ⟨Lz, hLz⟩ : ∃ Lz, lastF a a.length = Lz := ⟨_, rfl⟩
      rw [hLz] at hwh hlb ⊢
      (refine CW.seq ?_; refine CW.region ?_; apply LW.v0; rfl; rfl; apply ValP.lssF; rfl; rfl; omega; apply LW.nil; refine thenN ?_; refine CW.seq ?_; apply CW.condF; rfl; (with_reducible rfl); refine CW.exit ?_; refine thenE ?_; refine thenE ?_; refine blkE rfl ?_; refine thenN ?_; refine CW.seq ?_; refine CW.region ?_; apply LW.v0; rfl; rfl; apply ValP.move; rfl; apply LW.v0; rfl; rfl; apply ValP.move; rfl; apply LW.v0; rfl; rfl; apply ValP.lenR; rfl; infer_instance; rfl; apply LW.v0; rfl; rfl; apply ValP.lssT; rfl; rfl; omega; apply LW.v0; rfl; rfl; apply ValP.assign; rfl; apply LW.nil; refine thenN ?_; refine CW.seq ?_; refine CW.seq ?_; refine CW.region ?_; apply LW.v0; rfl; rfl; apply ValP.move; rfl; apply LW.v0; rfl; rfl; apply ValP.notT; rfl; (with_reducible rfl); apply LW.nil; refine thenN ?_; apply CW.condF; rfl; (with_reducible rfl); refine CW.skip ?_; refine thenN ?_; refine CW.seq ?_; refine CW.region ?_; apply LW.v0; rfl; rfl; apply ValP.move; rfl)
      refine LW.callR rfl rfl inferInstance (by (apply ArgsOk.cons; rfl; exact ArgsOk.nil)) (fun w' hst => bClone_calls a _ w' (ha.st hst) (by omega)) ?_
      intro v1 g1 hrow
      obtain ⟨q1, d1, rfl⟩ := hrow.form
      (apply LW.v0; rfl; rfl; apply ValP.move; rfl)
      (apply LW.appendAny; (case hrow => assumption); rfl; rfl; infer_instance; infer_instance; infer_instance; rfl; rfl; rfl; exact AtSeg.head)
      · exact fun w' hs => hb.st hs
      · exact ucs_cells b
      · simp only [maxLen]; omega
      · omega
      intro v2 g2 h2
      refine ⟨_, (by (exact AtSeg.head)), ?_⟩
      obtain ⟨q2, d2, rfl⟩ := h2.form
      rw [← ucs_app, ← List.length_append] at h2
      rw [← List.length_append]
      have hab : (a ++ b).length = a.length + b.length := List.length_append
      skip
      refine LW.callR rfl rfl inferInstance (by (apply ArgsOk.cons; rfl; exact ArgsOk.nil)) (fun w' hst => Jumps_calls (a ++ b) _ w' (IsRow.at (pre := []) h2 hst)) ?_
      intro v3 g3 h3
      unfold JumpsR at h3
      rw [if_pos (by omega), hjoin] at h3
      obtain ⟨q3, d3, rfl⟩ := h3.form
      (apply LW.v0; rfl; rfl; apply ValP.assign; rfl; apply LW.nil; refine thenN ?_; refine CW.seq ?_; refine CW.region ?_; apply LW.v0; rfl; rfl; apply ValP.assign; rfl; apply LW.nil; refine thenN ?_; refine CW.seq ?_; refine CW.region ?_; apply LW.v0; rfl; rfl; apply ValP.move; rfl; apply LW.v0; rfl; rfl; apply ValP.move; rfl)
      refine LW.callR rfl rfl inferInstance (by (apply ArgsOk.cons; rfl; exact ArgsOk.nil)) (fun w' hst => Jumps_calls a _ w' (ha.st hst)) ?_
      intro v4 g4 h4
      unfold JumpsR at h4
      rw [if_pos (by omega)] at h4
      obtain ⟨q4, d4, rfl⟩ := h4.form
      have hJl := jumpsL_len a
      have hJm := jumpsL_len b
      have hJx := jumpsL_lt b
      obtain ⟨Ja, hJa⟩ : ∃ Ja, jumpsL a = Ja := ⟨_, rfl⟩
      obtain ⟨Jb, hJb⟩ : ∃ Jb, jumpsL b = Jb := ⟨_, rfl⟩
      rw [hJa] at h4 hJl
      rw [hJa, hJb] at h3
      rw [hJb] at hJm hJx
      rw [hJa, hJb]
      obtain ⟨Jn, hJn⟩ : ∃ Jn, Ja ++ Jb.map (· + a.length) = Jn := ⟨_, rfl⟩
      rw [hJn] at h3 ⊢
      have hrow0 : IsRow 3 1 (.slice none 0 0) 0 [] [] := .nil
      skip
      apply LW.appendAny
      case hrow => exact hrow0
      rfl
      rfl
      infer_instance
      infer_instance
      infer_instance
      rfl
      rfl
      rfl
      exact AtSeg.head (seg := []) (post := g4 ++ (g3 ++ (g2 ++ [])))
      · exact fun w' hs => IsRow.at (pre := []) h4 hs
      · exact ics_cells _
      · simp only [maxLen]; omega
      · omega
      intro v5 g5 h5
      refine ⟨_, (by (exact AtSeg.head)), ?_⟩
      rw [List.nil_append, Nat.zero_add] at h5
      obtain ⟨q5, d5, rfl⟩ := h5.form
      (apply LW.v0; rfl; rfl; apply ValP.assign; rfl; apply LW.nil; refine thenN ?_; refine CW.seq ?_; refine CW.seq ?_; refine CW.region ?_; apply LW.v0; rfl; rfl; apply ValP.move; rfl)
      refine LW.callR rfl rfl inferInstance (by (apply ArgsOk.cons; rfl; exact ArgsOk.nil)) (fun w' hst => Jumps_calls b _ w' (hb.st hst)) ?_
      intro v6 g6 h6
      unfold JumpsR at h6
      rw [if_pos (by omega), hJb] at h6
      obtain ⟨q6, d6, rfl⟩ := h6.form
      have hW0 : Ja = Ja ++ (Jb.take 0).map (· + a.length) := by simp
      have hWl : ∀ j, (Ja ++ (Jb.take j).map (· + a.length)).length ≤ 400 := fun j => by
        rw [List.length_append, List.length_map, List.length_take]; omega
      have hWl0 : Ja.length = (Ja ++ (Jb.take 0).map (· + a.length)).length := by rw [← hW0]
      (apply LW.v0; rfl; rfl; apply ValP.lenR; rfl; infer_instance; rfl; apply LW.v0; rfl; rfl; apply ValP.move; rfl; apply LW.nil; refine thenN ?_; refine CW.block ?_)
      rw [hWl0]
      rw [hWl0, show ics Ja = ics (Ja ++ (Jb.take 0).map (· + a.length)) by rw [← hW0]] at h5
      refine CW.loop (fun x : MX => ([(0, .slice p0 a.length c0), (9, .slice q3 Jn.length d3), (10, x.v), (53, .slice q6 Jb.length d6), (54, .int .i64 (Jb.length : Int)), (55, .int .i64 (x.k : Int))], g6 ++ (x.seg ++ (g3 ++ []))))
        (fun x => x.k ≤ Jb.length ∧ IsRow 3 1 x.v (Ja ++ (Jb.take x.k).map (· + a.length)).length (ics (Ja ++ (Jb.take x.k).map (· + a.length))) x.seg) (fun x => Jb.length - x.k) ⟨0, _, g5⟩ ⟨Nat.zero_le _, h5⟩ ⟨rfl, rfl, rfl, rfl, rfl, rfl, trivial⟩ (by (apply List.Sublist.append_left; apply List.Sublist.append_left; apply List.sublist_append_of_sublist_right; apply List.Sublist.append_left; apply List.sublist_append_of_sublist_right; exact List.Sublist.refl _)) ?_
      rintro ⟨k, v, seg⟩ ⟨hk, hrow⟩
      dsimp only at hk hrow ⊢
      have hWk := hWl k
      rcases Nat.lt_or_ge k Jb.length with hkl | hkl
      · obtain ⟨b6, cur6, rfl, rfl, hn6, hm6, hs6, ht6⟩ := h6.pos (by omega)
        obtain ⟨x, hx⟩ : ∃ x, Jb[k] = x := ⟨_, rfl⟩
        have hxb : x < b.length := hJx x (hx ▸ List.getElem_mem hkl)
        have hrd : Rd Tryd.prog 3 (.cells cur6 3 (0, 0)) (0 + k * 1) (.int .i64 (x : Int)) := Rd.elem1 (off := 0) (by rw [List.drop_zero]; exact ht6) (ics_len Jb) (List.getElem?_eq_getElem hkl) (by rw [hx])
        have hst : Ja ++ (Jb.take (k + 1)).map (· + a.length) = (Ja ++ (Jb.take k).map (· + a.length)) ++ [x + a.length] := by rw [List.take_succ_eq_append_getElem hkl, List.map_append, hx, List.append_assoc]; rfl
        obtain ⟨Wk, hWe⟩ : ∃ Wk, Ja ++ (Jb.take k).map (· + a.length) = Wk := ⟨_, rfl⟩
        rw [hWe] at hrow hst hWk
        (refine CW.seq ?_; refine CW.region ?_; apply LW.v0; rfl; rfl; apply ValP.lssT; rfl; rfl; omega; apply LW.nil; refine thenN ?_; refine CW.seq ?_; apply CW.condT; rfl; (with_reducible rfl); refine CW.skip ?_; refine thenN ?_; refine CW.seq ?_; refine CW.block ?_; refine CW.seq ?_; refine CW.region ?_; apply LW.v0; rfl; rfl; apply ValP.indexAddrS; rfl; rfl; rfl; omega; apply LW.load; rfl; rfl; apply Known.at; apply FsAt.head; assumption; apply LW.v0; rfl; rfl; apply ValP.assign; rfl; apply LW.nil; refine thenN ?_; refine CW.region ?_; apply LW.v0; rfl; rfl; apply ValP.move; rfl; apply LW.v0; rfl; rfl; apply ValP.move; rfl; apply LW.v0; rfl; rfl; apply ValP.move; rfl; apply LW.v0; rfl; rfl; apply ValP.lenR; rfl; infer_instance; rfl; apply LW.v0; rfl; rfl; apply ValP.addZ; rfl; rfl; omega; apply LW.lay1; rfl; infer_instance; infer_instance; rfl; rfl; rfl; rfl; rfl; rfl; intro _)
        (apply LW.append; rfl; rfl; infer_instance; infer_instance; infer_instance; rfl; rfl; rfl; (case hrow => assumption); apply AtSeg.cons; apply AtSeg.cons; apply AtSeg.app; exact AtSeg.head; apply Known.at; apply FsAt.head; rfl; rfl; rfl; omega; simp only [maxLen]; omega; omega; intro v' seg' hrow'; obtain ⟨p', c', rfl⟩ := hrow'.form; (refine ⟨_, (by (repeat (first | exact AtSeg.head | apply AtSeg.cons | apply AtSeg.app))), ?_⟩); (try simp only [List.cons_append, List.nil_append]))
        (apply LW.v0; rfl; rfl; apply ValP.assign; rfl; apply LW.nil; refine blkN ?_; refine thenN ?_; refine CW.region ?_; apply LW.v0; rfl; rfl; apply ValP.addZL; rfl; rfl; decide; omega; apply LW.v0; rfl; rfl; apply ValP.move; rfl; apply LW.nil)
        apply thenX
        refine ⟨rfl, ⟨k + 1, _, seg'⟩, ⟨hkl, ?_⟩, by dsimp only; omega, ⟨rfl, rfl, rfl, rfl, rfl, rfl, trivial⟩, by (apply List.Sublist.cons; exact List.Sublist.refl _)⟩
        dsimp only
        rw [hst, ics_app, List.length_append]
        exact hrow'
      · obtain rfl : k = Jb.length := by omega
        rw [List.take_length, hJn] at hrow
        have hEq0 : ∀ w', St w [] (g6 ++ (seg ++ (g3 ++ []))) w' → Calls Tryd.prog 31 #[.slice q3 Jn.length d3, v] w' (Ret w' (.bool (decide (Jn = Jn)))) := fun w' hst => by
          obtain ⟨qv, dv, rfl⟩ := hrow.form
          exact sEqual_calls Jn Jn _ _ w' (h3.atSeg (AtSeg.app (AtSeg.app AtSeg.head)) hst) (hrow.atSeg (AtSeg.app AtSeg.head) hst)
        rw [decide_eq_true rfl] at hEq0
        have hEq := hEq0
        (refine CW.seq ?_; refine CW.region ?_; apply LW.v0; rfl; rfl; apply ValP.lssF; rfl; rfl; omega; apply LW.nil; refine thenN ?_; refine CW.seq ?_; apply CW.condF; rfl; (with_reducible rfl); refine CW.exit ?_; refine thenE ?_; refine thenE ?_; refine blkE rfl ?_; refine thenN ?_; refine CW.seq ?_; refine CW.region ?_; apply LW.v0; rfl; rfl; apply ValP.move; rfl; apply LW.v0; rfl; rfl; apply ValP.move; rfl; apply LW.callE; rfl; rfl; infer_instance; apply ArgsOk.cons; rfl; apply ArgsOk.cons; rfl; exact ArgsOk.nil; intro w _; exact hEq w (by assumption); apply LW.v0; rfl; rfl; apply ValP.assign; rfl; apply LW.nil; refine thenN ?_; refine CW.ret ?_)
        (apply finR; exact .inl rfl; rfl; rfl; rfl; apply ResL.cons; exact Res.tmp rfl; exact ResL.nil)
        rfl
    · (refine CW.seq ?_; refine CW.region ?_; apply LW.v0; rfl; rfl; apply ValP.lssF; rfl; rfl; omega; apply LW.nil; refine thenN ?_; refine CW.seq ?_; apply CW.condF; rfl; (with_reducible rfl); refine CW.exit ?_; refine thenE ?_; refine thenE ?_; refine blkE rfl ?_; refine thenN ?_; refine CW.seq ?_; refine CW.region ?_; apply LW.v0; rfl; rfl; apply ValP.move; rfl; apply LW.v0; rfl; rfl; apply ValP.move; rfl; apply LW.v0; rfl; rfl; apply ValP.lenR; rfl; infer_instance; rfl; apply LW.v0; rfl; rfl; apply ValP.lssF; rfl; rfl; omega; apply LW.v0; rfl; rfl; apply ValP.assign; rfl; apply LW.nil; refine thenN ?_; refine CW.seq ?_; refine CW.seq ?_; refine CW.region ?_; apply LW.v0; rfl; rfl; apply ValP.move; rfl; apply LW.v0; rfl; rfl; apply ValP.notF; rfl; (with_reducible rfl); apply LW.nil; refine thenN ?_; apply CW.condT; rfl; (with_reducible rfl); refine CW.seq ?_; refine CW.region ?_; apply LW.v0; rfl; rfl; apply ValP.assign; rfl; apply LW.nil; refine thenN ?_; refine CW.ret ?_; refine thenR ?_)
      (apply finR; exact .inl rfl; rfl; rfl; rfl; apply ResL.cons; exact Res.tmp rfl; exact ResL.nil)
      rfl
end Go.Proofs.YtbhicncgjplnoaaDoor
