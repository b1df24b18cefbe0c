/-
  Texts that were built apart, put behind one another (5 of 5): CE CF.
  Conditions: none.
-/
import Derived.Test.YtbhicncgjplnoaaDoorP4
/-
  The document's text: contracts.
  Conditions: none.
-/
namespace Go.Proofs.YtbhicncgjplnoaaDoor
open Go Go.RowKit SL
set_option maxRecDepth 8000
set_option maxHeartbeats 4000000
set_option linter.unusedSimpArgs false
set_option linter.unusedVariables false
attribute [local irreducible] SL.CW SL.LW SL.DW Calls SL.Ret SL.RetG SL.beginQ SL.roundQ SL.rangeQ SL.inQ SL.RW SL.AnyW SL.thenQ SL.thenC SL.thenW SL.blkQ SL.finQ SL.ValP SL.NewP SL.SetP SL.CallP SL.Rd SL.Wr SL.Known
theorem cut_hex (d : Nat) (hd : d < 16) : (hexdigits.drop d).take ((d + 1) % 256 - d) = [hexd d] := by
  revert d; decide
theorem rhex_calls (u : UInt8) (w : World) : Calls Tryd.prog 43 #[.int .u8 (u.toNat : Int)] w (Ret w (sv (hx2 u))) := by
  have hu := u.toNat_lt
  have hc1 := cut_hex (u.toNat / 16) (by omega)
  have hc2 := cut_hex (u.toNat % 16) (by omega)
  simp only [hexdigits] at hc1 hc2
  obtain ⟨q, hq⟩ : ∃ q, u.toNat / 16 = q := ⟨_, rfl⟩
  obtain ⟨r, hr⟩ : ∃ r, u.toNat % 16 = r := ⟨_, rfl⟩
  have hq2 : q < 16 := by omega
  have hr2 : r < 16 := by omega
  refine enter (args := [_]) _ [] [] Tryd.func43 rfl Tryd.ntmps43 rfl (by simp) .nil ?_
  (refine CW.seq ?_; refine CW.region ?_; apply LW.v0; rfl; rfl; apply ValP.assign; rfl; apply LW.nil; refine thenN ?_; refine CW.seq ?_; refine CW.region ?_; apply LW.v0; rfl; rfl; apply ValP.assign; rfl; apply LW.nil; refine thenN ?_; refine CW.seq ?_; refine CW.quiet rfl mixed (by decide +kernel) ?_; apply QW.v0; rfl; exact WantT.none; apply ValP.move; rfl; apply QW.v0; rfl; exact WantT.none; apply ValP.move; rfl; apply QW.v0; rfl; exact WantT.none; apply ValP.quoBL; rfl; rfl; decide; omega; decide; apply QW.v0; rfl; exact WantT.none; apply ValP.move; rfl; apply QW.v0; rfl; exact WantT.none; apply ValP.quoBL; rfl; rfl; decide; omega; decide; apply QW.v0; rfl; exact WantT.none; apply ValP.addBL; rfl; rfl; decide; apply QW.v0; rfl; exact WantT.none; apply ValP.cutStr; infer_instance; rfl; rfl; rfl; omega; show _ ≤ 16; omega; apply QW.v0; rfl; exact WantT.none; apply ValP.move; rfl; apply QW.v0; rfl; exact WantT.none; apply ValP.move; rfl; apply QW.v0; rfl; exact WantT.none; apply ValP.remBL; rfl; rfl; decide; decide; apply QW.v0; rfl; exact WantT.none; apply ValP.move; rfl; apply QW.v0; rfl; exact WantT.none; apply ValP.remBL; rfl; rfl; decide; decide; apply QW.v0; rfl; exact WantT.none; apply ValP.addBL; rfl; rfl; decide; apply QW.v0; rfl; exact WantT.none; apply ValP.cutStr; infer_instance; rfl; rfl; rfl; omega; show _ ≤ 16; omega; apply QW.v0; rfl; exact WantT.none; apply ValP.addStr; rfl; rfl; simp; omega; apply QW.v0; rfl; exact WantT.none; apply ValP.assign; rfl; refine QW.nil ?_; refine thenN ?_; refine CW.ret ?_)
  rw [hc1, hc2]
  (apply finR; exact .inl rfl; rfl; rfl; rfl; apply ResL.cons; exact Res.tmp rfl; exact ResL.nil)
  rfl
/-! ### The document's text -/
theorem jn_snoc (x : List UInt8) (R : List (List UInt8)) (y : List UInt8) : jn x (R ++ [y]) = jn x R ++ [32] ++ y := by simp [jn]
theorem joinW_snoc {W : List (List UInt8)} (h : W ≠ []) (y : List UInt8) : joinW (W ++ [y]) = joinW W ++ [32] ++ y := by
  cases W with
  | nil => exact absurd rfl h
  | cons x R => exact jn_snoc x R y
theorem wordsS_place (n : Nat) : ∀ (bs : List UInt8) (p q : Nat), bs.length ≤ n → wordsS (segsAt p bs) = wordsS (segsAt q bs) := by
  induction n with
  | zero =>
    intro bs p q h
    rw [List.eq_nil_of_length_eq_zero (show bs.length = 0 by omega), segsAt_nil, segsAt_nil]
  | succ n ih =>
    intro bs p q h
    cases bs with
    | nil => rw [segsAt_nil, segsAt_nil]
    | cons b r => rw [segsAt_cons, segsAt_cons, wordsS_cons, wordsS_cons, ih _ (p + 1 + szOf b.toNat) (q + 1 + szOf b.toNat) (by simp at h ⊢; omega)]
theorem words_step (bs : List UInt8) (p : Nat) (h : p < bs.length) : wordsS (segsAt 0 (bs.drop p)) = wordsOf (bs.getD p 0) ((bs.drop (p + 1)).take (szOf (bs.getD p 0).toNat)) ++ wordsS (segsAt 0 (bs.drop (p + szOf (bs.getD p 0).toNat + 1))) := by
  rw [wordsS_place _ _ 0 p (Nat.le_refl _), segs_step bs p h, wordsS_cons, wordsS_place _ _ _ 0 (Nat.le_refl _)]
/-- The state between two words: what is told, and (behind the first) the blank. -/
def preW (W : List (List UInt8)) : List UInt8 := if W = [] then [] else joinW W ++ [32]
theorem joinW_pre (W : List (List UInt8)) (y : List UInt8) : joinW (W ++ [y]) = preW W ++ y := by
  unfold preW
  split
  · rename_i h; rw [h]; simp [joinW, jn]
  · rename_i h; exact joinW_snoc h y
structure TX where
  p : Nat
  W : List (List UInt8)
attribute [local irreducible] opOf
theorem rText_calls (bs : List UInt8) (hb : bs.length ≤ 1000) (v : Value) (w : World) (hv : RowAt w 1 v bs.length (ucs bs)) : Calls Tryd.prog 18 #[v] w (Ret w (sv (textL bs))) := by
  obtain ⟨p0, c0, rfl, hc0, hm0⟩ := hv.form
  have htl := segs_sum _ bs 0 (Nat.le_refl _)
  unfold textL
  obtain ⟨T, hT⟩ : ∃ T, wordsL bs = T := ⟨_, rfl⟩
  rw [show wordsS (segsAt 0 bs) = T from hT] at htl
  rw [hT]
  refine enter (args := [_]) _ [] [] Tryd.func18 rfl Tryd.ntmps18 rfl (by simp) .nil ?_
  (refine CW.seq ?_; refine CW.region ?_; apply LW.v0; rfl; rfl; apply ValP.assign; rfl; apply LW.nil; refine thenN ?_; refine CW.seq ?_; refine CW.region ?_; apply LW.v0; rfl; rfl; apply ValP.assign; rfl; apply LW.nil; refine thenN ?_; refine CW.seq ?_; refine CW.seq ?_; refine CW.region ?_; apply LW.v0; rfl; rfl; apply ValP.assign; rfl; apply LW.nil; refine thenN ?_; refine CW.block ?_)
  refine CW.loop (fun x : TX => ([(0, .slice p0 bs.length c0), (3, sv (joinW x.W)), (4, .int .i64 (x.p : Int))], []))
    (fun x => x.W ++ wordsS (segsAt 0 (bs.drop x.p)) = T ∧ x.p ≤ bs.length ∧ (x.W = [] ↔ x.p = 0)) (fun x => bs.length - x.p) ⟨0, []⟩ ⟨by rw [List.drop_zero]; exact hT, Nat.zero_le _, by simp⟩ ⟨rfl, rfl, rfl, trivial⟩ (List.Sublist.refl _) ?_
  rintro ⟨p, W⟩ ⟨hJ, hp, hW0⟩
  dsimp only at hJ hp hW0 ⊢
  have hWl : lenS W ≤ 14 * bs.length := by rw [← hJ, lenS_app] at htl; omega
  have hjl := joinW_le W
  rcases Nat.lt_or_ge p bs.length with hlt | hge
  · obtain ⟨b, off, c', cs, E, fr, heq, hbk, hx⟩ := hv.pos (by omega)
    cases heq
    have hst := words_step bs p hlt
    obtain ⟨u, hu⟩ : ∃ u, bs.getD p 0 = u := ⟨_, rfl⟩
    rw [hu] at hst
    rw [hst] at hJ
    have hrd : Rd Tryd.prog 5 (.cells cs E fr) (off + p * 1) (.int .u8 (u.toNat : Int)) := Rd.elem1 hx (ucs_one bs) (List.getElem?_eq_getElem hlt) (by rw [← hu]; simp [hlt])
    have hub : u.toNat < 256 := u.toNat_lt
    have hOf0 := rOf_calls u.toNat hub
    cases ho : opOf u.toNat with
    | none =>
      rw [ho] at hOf0
      have hz := szOf_none ho
      have hOf : ∀ w, Calls Tryd.prog 12 #[.int .u8 (u.toNat : Int)] w (Ret w (.tuple #[.agg (opc zeroOp), .bool false])) := hOf0
      have hwo : wordsOf u [] = [46 :: hx2 u] := by unfold wordsOf; rw [ho]
      rw [hz, List.take_zero] at hJ
      rcases Nat.eq_zero_or_pos p with hpz | hpz
      · obtain ⟨P, hPe⟩ : ∃ P, joinW W = P := ⟨_, rfl⟩
        have hPl : P.length ≤ 14000 := by rw [← hPe]; omega
        have hp0 : ∀ y, joinW (W ++ [y]) = P ++ y := fun y => by rw [joinW_pre, ← hPe, hW0.2 hpz]; rfl
        have hp1 := hp0 (46 :: hx2 u)
        have hHx := rhex_calls u
        obtain ⟨D, hD⟩ : ∃ D, hx2 u = D := ⟨_, rfl⟩
        have hDl : D.length = 2 := by rw [← hD]; rfl
        rw [hD] at hp1 hHx hwo
        have hp2 : P ++ [46] ++ D = joinW (W ++ [46 :: D]) := by rw [hp1, List.append_assoc]; rfl
        rw [hwo] at hJ
        (refine CW.seq ?_; refine CW.seq ?_; refine CW.region ?_; apply LW.v0; rfl; rfl; apply ValP.move; rfl; apply LW.v0; rfl; rfl; apply ValP.move; rfl; apply LW.v0; rfl; rfl; apply ValP.lenR; rfl; infer_instance; rfl; apply LW.v0; rfl; rfl; apply ValP.lssT; rfl; rfl; omega; apply LW.nil; refine thenN ?_; apply CW.condT; rfl; (with_reducible rfl); refine CW.skip ?_; refine thenN ?_; refine CW.seq ?_; refine CW.block ?_; refine CW.seq ?_; refine CW.seq ?_; refine CW.region ?_; apply LW.v0; rfl; rfl; apply ValP.move; rfl; apply LW.v0; rfl; rfl; apply ValP.gtrF; rfl; rfl; omega; apply LW.nil; refine thenN ?_; apply CW.condF; rfl; (with_reducible rfl); refine CW.skip ?_; refine thenN ?_; refine CW.seq ?_; refine CW.region ?_; apply LW.v0; rfl; rfl; apply ValP.move; rfl; apply LW.v0; rfl; rfl; apply ValP.move; rfl; apply LW.v0; rfl; rfl; apply ValP.indexAddrS; rfl; rfl; rfl; omega; apply LW.load; rfl; rfl; exact Known.ext (by assumption) (by simp); assumption; apply LW.callE; rfl; rfl; infer_instance; apply ArgsOk.cons; rfl; exact ArgsOk.nil; intro w _; exact hOf w; apply LW.v0; rfl; rfl; apply ValP.move; rfl; apply LW.v0; rfl; rfl; apply ValP.extractN; rfl; rfl; apply LW.v0; rfl; rfl; apply ValP.extractN; rfl; rfl; apply LW.allocA; rfl; intro _; apply LW.store; rfl; rfl; apply SetAt.head; apply Wr.whole; rfl; rfl; rfl; apply LW.v0; rfl; rfl; apply ValP.assign; rfl; apply LW.nil; refine thenN ?_; refine CW.seq ?_; refine CW.seq ?_; refine CW.region ?_; apply LW.v0; rfl; rfl; apply ValP.move; rfl; apply LW.v0; rfl; rfl; apply ValP.notF; rfl; (with_reducible rfl); apply LW.nil; refine thenN ?_; apply CW.condT; rfl; (with_reducible rfl); refine CW.seq ?_; refine CW.region ?_; apply LW.v0; rfl; rfl; apply ValP.move; rfl; apply LW.v0; rfl; rfl; apply ValP.addStr; rfl; rfl; simp; omega; apply LW.v0; rfl; rfl; apply ValP.move; rfl; apply LW.v0; rfl; rfl; apply ValP.move; rfl; apply LW.v0; rfl; rfl; apply ValP.indexAddrS; rfl; rfl; rfl; omega; apply LW.load; rfl; rfl; exact Known.ext (by assumption) (by simp); assumption; apply LW.callE; rfl; rfl; infer_instance; apply ArgsOk.cons; rfl; exact ArgsOk.nil; intro w _; exact hHx w; apply LW.v0; rfl; rfl; apply ValP.addStr; rfl; rfl; simp; omega; apply LW.v0; rfl; rfl; apply ValP.assign; rfl; apply LW.nil; refine thenN ?_; refine CW.exit ?_; refine thenE ?_; refine blkE rfl ?_; refine thenN ?_; refine CW.region ?_; apply LW.v0; rfl; rfl; apply ValP.move; rfl; apply LW.v0; rfl; rfl; apply ValP.addZL; rfl; rfl; decide; omega; apply LW.v0; rfl; rfl; apply ValP.assign; rfl; apply LW.nil)
        rw [hPe, hp2]
        apply thenX
        refine ⟨rfl, ⟨p + 1, W ++ [46 :: D]⟩, ⟨by rw [List.append_assoc]; exact hJ, by dsimp only; omega, ?_⟩, by dsimp only; omega, ⟨rfl, rfl, rfl, trivial⟩, by (apply List.Sublist.cons; exact List.Sublist.refl _)⟩
        simp
      · obtain ⟨P, hPe⟩ : ∃ P, joinW W ++ [32] = P := ⟨_, rfl⟩
        have hPl : P.length ≤ 14001 := by rw [← hPe, List.length_append, List.length_singleton]; omega
        have hp0 : ∀ y, joinW (W ++ [y]) = P ++ y := fun y => by rw [joinW_snoc (fun h => by have := hW0.1 h; omega), ← hPe]
        have hp1 := hp0 (46 :: hx2 u)
        have hHx := rhex_calls u
        obtain ⟨D, hD⟩ : ∃ D, hx2 u = D := ⟨_, rfl⟩
        have hDl : D.length = 2 := by rw [← hD]; rfl
        rw [hD] at hp1 hHx hwo
        have hp2 : P ++ [46] ++ D = joinW (W ++ [46 :: D]) := by rw [hp1, List.append_assoc]; rfl
        rw [hwo] at hJ
        (refine CW.seq ?_; refine CW.seq ?_; refine CW.region ?_; apply LW.v0; rfl; rfl; apply ValP.move; rfl; apply LW.v0; rfl; rfl; apply ValP.move; rfl; apply LW.v0; rfl; rfl; apply ValP.lenR; rfl; infer_instance; rfl; apply LW.v0; rfl; rfl; apply ValP.lssT; rfl; rfl; omega; apply LW.nil; refine thenN ?_; apply CW.condT; rfl; (with_reducible rfl); refine CW.skip ?_; refine thenN ?_; refine CW.seq ?_; refine CW.block ?_; refine CW.seq ?_; refine CW.seq ?_; refine CW.region ?_; apply LW.v0; rfl; rfl; apply ValP.move; rfl; apply LW.v0; rfl; rfl; apply ValP.gtrT; rfl; rfl; omega; apply LW.nil; refine thenN ?_; apply CW.condT; rfl; (with_reducible rfl); refine CW.region ?_; apply LW.v0; rfl; rfl; apply ValP.move; rfl; apply LW.v0; rfl; rfl; apply ValP.addStr; rfl; rfl; simp; omega; apply LW.v0; rfl; rfl; apply ValP.assign; rfl; apply LW.nil; refine thenN ?_; refine CW.seq ?_; refine CW.region ?_; apply LW.v0; rfl; rfl; apply ValP.move; rfl; apply LW.v0; rfl; rfl; apply ValP.move; rfl; apply LW.v0; rfl; rfl; apply ValP.indexAddrS; rfl; rfl; rfl; omega; apply LW.load; rfl; rfl; exact Known.ext (by assumption) (by simp); assumption; apply LW.callE; rfl; rfl; infer_instance; apply ArgsOk.cons; rfl; exact ArgsOk.nil; intro w _; exact hOf w; apply LW.v0; rfl; rfl; apply ValP.move; rfl; apply LW.v0; rfl; rfl; apply ValP.extractN; rfl; rfl; apply LW.v0; rfl; rfl; apply ValP.extractN; rfl; rfl; apply LW.allocA; rfl; intro _; apply LW.store; rfl; rfl; apply SetAt.head; apply Wr.whole; rfl; rfl; rfl; apply LW.v0; rfl; rfl; apply ValP.assign; rfl; apply LW.nil; refine thenN ?_; refine CW.seq ?_; refine CW.seq ?_; refine CW.region ?_; apply LW.v0; rfl; rfl; apply ValP.move; rfl; apply LW.v0; rfl; rfl; apply ValP.notF; rfl; (with_reducible rfl); apply LW.nil; refine thenN ?_; apply CW.condT; rfl; (with_reducible rfl); refine CW.seq ?_; refine CW.region ?_; apply LW.v0; rfl; rfl; apply ValP.move; rfl; apply LW.v0; rfl; rfl; apply ValP.addStr; rfl; rfl; simp; omega; apply LW.v0; rfl; rfl; apply ValP.move; rfl; apply LW.v0; rfl; rfl; apply ValP.move; rfl; apply LW.v0; rfl; rfl; apply ValP.indexAddrS; rfl; rfl; rfl; omega; apply LW.load; rfl; rfl; exact Known.ext (by assumption) (by simp); assumption; apply LW.callE; rfl; rfl; infer_instance; apply ArgsOk.cons; rfl; exact ArgsOk.nil; intro w _; exact hHx w; apply LW.v0; rfl; rfl; apply ValP.addStr; rfl; rfl; simp; omega; apply LW.v0; rfl; rfl; apply ValP.assign; rfl; apply LW.nil; refine thenN ?_; refine CW.exit ?_; refine thenE ?_; refine blkE rfl ?_; refine thenN ?_; refine CW.region ?_; apply LW.v0; rfl; rfl; apply ValP.move; rfl; apply LW.v0; rfl; rfl; apply ValP.addZL; rfl; rfl; decide; omega; apply LW.v0; rfl; rfl; apply ValP.assign; rfl; apply LW.nil)
        rw [hPe, hp2]
        apply thenX
        refine ⟨rfl, ⟨p + 1, W ++ [46 :: D]⟩, ⟨by rw [List.append_assoc]; exact hJ, by dsimp only; omega, ?_⟩, by dsimp only; omega, ⟨rfl, rfl, rfl, trivial⟩, by (apply List.Sublist.cons; exact List.Sublist.refl _)⟩
        simp
    | some y =>
      rw [ho] at hOf0
      have hz := szOf_some ho
      have hyl := (opAt_nm_some hub ho).2
      have hdl := opOf_dt ho
      have hOf : ∀ w, Calls Tryd.prog 12 #[.int .u8 (u.toNat : Int)] w (Ret w (.tuple #[.agg (opc y), .bool true])) := hOf0
      rcases Nat.eq_zero_or_pos y.dt with hd0 | hd0
      · rcases Nat.eq_zero_or_pos p with hpz | hpz
        · obtain ⟨P, hPe⟩ : ∃ P, joinW W = P := ⟨_, rfl⟩
          have hPl : P.length ≤ 14000 := by rw [← hPe]; omega
          have hp0 : ∀ y, joinW (W ++ [y]) = P ++ y := fun y => by rw [joinW_pre, ← hPe, hW0.2 hpz]; rfl
          have hwo : wordsOf u ((bs.drop (p + 1)).take (szOf u.toNat)) = [y.nm] := by unfold wordsOf; rw [ho]; exact if_neg (by omega)
          rw [hwo, hz, hd0] at hJ
          have hp1 := hp0 y.nm
          (refine CW.seq ?_; refine CW.seq ?_; refine CW.region ?_; apply LW.v0; rfl; rfl; apply ValP.move; rfl; apply LW.v0; rfl; rfl; apply ValP.move; rfl; apply LW.v0; rfl; rfl; apply ValP.lenR; rfl; infer_instance; rfl; apply LW.v0; rfl; rfl; apply ValP.lssT; rfl; rfl; omega; apply LW.nil; refine thenN ?_; apply CW.condT; rfl; (with_reducible rfl); refine CW.skip ?_; refine thenN ?_; refine CW.seq ?_; refine CW.block ?_; refine CW.seq ?_; refine CW.seq ?_; refine CW.region ?_; apply LW.v0; rfl; rfl; apply ValP.move; rfl; apply LW.v0; rfl; rfl; apply ValP.gtrF; rfl; rfl; omega; apply LW.nil; refine thenN ?_; apply CW.condF; rfl; (with_reducible rfl); refine CW.skip ?_; refine thenN ?_; refine CW.seq ?_; refine CW.region ?_; apply LW.v0; rfl; rfl; apply ValP.move; rfl; apply LW.v0; rfl; rfl; apply ValP.move; rfl; apply LW.v0; rfl; rfl; apply ValP.indexAddrS; rfl; rfl; rfl; omega; apply LW.load; rfl; rfl; exact Known.ext (by assumption) (by simp); assumption; apply LW.callE; rfl; rfl; infer_instance; apply ArgsOk.cons; rfl; exact ArgsOk.nil; intro w _; exact hOf w; apply LW.v0; rfl; rfl; apply ValP.move; rfl; apply LW.v0; rfl; rfl; apply ValP.extractN; rfl; rfl; apply LW.v0; rfl; rfl; apply ValP.extractN; rfl; rfl; apply LW.allocA; rfl; intro _; apply LW.store; rfl; rfl; apply SetAt.head; apply Wr.whole; rfl; rfl; rfl; apply LW.v0; rfl; rfl; apply ValP.assign; rfl; apply LW.nil; refine thenN ?_; refine CW.seq ?_; refine CW.seq ?_; refine CW.region ?_; apply LW.v0; rfl; rfl; apply ValP.move; rfl; apply LW.v0; rfl; rfl; apply ValP.notT; rfl; (with_reducible rfl); apply LW.nil; refine thenN ?_; apply CW.condF; rfl; (with_reducible rfl); refine CW.skip ?_; refine thenN ?_; refine CW.seq ?_; refine CW.region ?_; apply LW.v0; rfl; rfl; apply ValP.move; rfl; apply LW.v0; rfl; rfl; apply ValP.fieldAddr; rfl; rfl; apply LW.load; rfl; rfl; apply Known.at; apply FsAt.head; exact Rd.one' rfl; apply LW.v0; rfl; rfl; apply ValP.addStr; rfl; rfl; omega; apply LW.v0; rfl; rfl; apply ValP.assign; rfl; apply LW.nil; refine thenN ?_; refine CW.seq ?_; refine CW.seq ?_; refine CW.region ?_; apply LW.v0; rfl; rfl; apply ValP.fieldAddr; rfl; rfl; apply LW.load; rfl; rfl; apply Known.at; apply FsAt.head; exact Rd.one' rfl; apply LW.v0; rfl; rfl; apply ValP.gtrF; rfl; rfl; omega; apply LW.nil; refine thenN ?_; apply CW.condF; rfl; (with_reducible rfl); refine CW.skip ?_; refine thenN ?_; refine CW.seq ?_; refine CW.region ?_; apply LW.v0; rfl; rfl; apply ValP.assign; rfl; apply LW.nil; refine thenN ?_; refine CW.block ?_)
          apply CW.rounds 1
          (apply RW.step; refine CW.seq ?_; refine CW.seq ?_; refine CW.region ?_; apply LW.v0; rfl; rfl; apply ValP.move; rfl; apply LW.v0; rfl; rfl; apply ValP.fieldAddr; rfl; rfl; apply LW.load; rfl; rfl; apply Known.at; apply FsAt.head; exact Rd.one' rfl; apply LW.v0; rfl; rfl; apply ValP.lssF; rfl; rfl; omega; apply LW.v0; rfl; rfl; apply ValP.move; rfl; apply LW.guardF'; rfl; rfl; simp only [Bool.not_true, Bool.not_false]; rfl; apply LW.guardF'; rfl; rfl; simp only [Bool.not_true, Bool.not_false]; rfl; apply LW.guardF'; rfl; rfl; simp only [Bool.not_true, Bool.not_false]; rfl; apply LW.guardF'; rfl; rfl; simp only [Bool.not_true, Bool.not_false]; rfl; apply LW.guardF'; rfl; rfl; simp only [Bool.not_true, Bool.not_false]; rfl; apply LW.v0; rfl; rfl; apply ValP.pickF'; rfl; (with_reducible rfl); rfl; apply LW.nil; refine thenN ?_; apply CW.condF; rfl; (with_reducible rfl); refine CW.exit ?_; refine thenE ?_; refine thenE ?_; refine blkE rfl ?_; refine blkN ?_; refine thenN ?_; refine CW.region ?_; apply LW.v0; rfl; rfl; apply ValP.move; rfl; apply LW.v0; rfl; rfl; apply ValP.addZL; rfl; rfl; decide; omega; apply LW.v0; rfl; rfl; apply ValP.assign; rfl; apply LW.nil)
          rw [hPe, ← hp1]
          apply thenX
          refine ⟨rfl, ⟨p + 1, W ++ [y.nm]⟩, ⟨by rw [List.append_assoc]; exact hJ, by dsimp only; omega, ?_⟩, by dsimp only; omega, ⟨rfl, rfl, rfl, trivial⟩, by (apply List.Sublist.cons; exact List.Sublist.refl _)⟩
          simp
        · obtain ⟨P, hPe⟩ : ∃ P, joinW W ++ [32] = P := ⟨_, rfl⟩
          have hPl : P.length ≤ 14001 := by rw [← hPe, List.length_append, List.length_singleton]; omega
          have hp0 : ∀ y, joinW (W ++ [y]) = P ++ y := fun y => by rw [joinW_snoc (fun h => by have := hW0.1 h; omega), ← hPe]
          have hwo : wordsOf u ((bs.drop (p + 1)).take (szOf u.toNat)) = [y.nm] := by unfold wordsOf; rw [ho]; exact if_neg (by omega)
          rw [hwo, hz, hd0] at hJ
          have hp1 := hp0 y.nm
          (refine CW.seq ?_; refine CW.seq ?_; refine CW.region ?_; apply LW.v0; rfl; rfl; apply ValP.move; rfl; apply LW.v0; rfl; rfl; apply ValP.move; rfl; apply LW.v0; rfl; rfl; apply ValP.lenR; rfl; infer_instance; rfl; apply LW.v0; rfl; rfl; apply ValP.lssT; rfl; rfl; omega; apply LW.nil; refine thenN ?_; apply CW.condT; rfl; (with_reducible rfl); refine CW.skip ?_; refine thenN ?_; refine CW.seq ?_; refine CW.block ?_; refine CW.seq ?_; refine CW.seq ?_; refine CW.region ?_; apply LW.v0; rfl; rfl; apply ValP.move; rfl; apply LW.v0; rfl; rfl; apply ValP.gtrT; rfl; rfl; omega; apply LW.nil; refine thenN ?_; apply CW.condT; rfl; (with_reducible rfl); refine CW.region ?_; apply LW.v0; rfl; rfl; apply ValP.move; rfl; apply LW.v0; rfl; rfl; apply ValP.addStr; rfl; rfl; simp; omega; apply LW.v0; rfl; rfl; apply ValP.assign; rfl; apply LW.nil; refine thenN ?_; refine CW.seq ?_; refine CW.region ?_; apply LW.v0; rfl; rfl; apply ValP.move; rfl; apply LW.v0; rfl; rfl; apply ValP.move; rfl; apply LW.v0; rfl; rfl; apply ValP.indexAddrS; rfl; rfl; rfl; omega; apply LW.load; rfl; rfl; exact Known.ext (by assumption) (by simp); assumption; apply LW.callE; rfl; rfl; infer_instance; apply ArgsOk.cons; rfl; exact ArgsOk.nil; intro w _; exact hOf w; apply LW.v0; rfl; rfl; apply ValP.move; rfl; apply LW.v0; rfl; rfl; apply ValP.extractN; rfl; rfl; apply LW.v0; rfl; rfl; apply ValP.extractN; rfl; rfl; apply LW.allocA; rfl; intro _; apply LW.store; rfl; rfl; apply SetAt.head; apply Wr.whole; rfl; rfl; rfl; apply LW.v0; rfl; rfl; apply ValP.assign; rfl; apply LW.nil; refine thenN ?_; refine CW.seq ?_; refine CW.seq ?_; refine CW.region ?_; apply LW.v0; rfl; rfl; apply ValP.move; rfl; apply LW.v0; rfl; rfl; apply ValP.notT; rfl; (with_reducible rfl); apply LW.nil; refine thenN ?_; apply CW.condF; rfl; (with_reducible rfl); refine CW.skip ?_; refine thenN ?_; refine CW.seq ?_; refine CW.region ?_; apply LW.v0; rfl; rfl; apply ValP.move; rfl; apply LW.v0; rfl; rfl; apply ValP.fieldAddr; rfl; rfl; apply LW.load; rfl; rfl; apply Known.at; apply FsAt.head; exact Rd.one' rfl; apply LW.v0; rfl; rfl; apply ValP.addStr; rfl; rfl; simp; omega; apply LW.v0; rfl; rfl; apply ValP.assign; rfl; apply LW.nil; refine thenN ?_; refine CW.seq ?_; refine CW.seq ?_; refine CW.region ?_; apply LW.v0; rfl; rfl; apply ValP.fieldAddr; rfl; rfl; apply LW.load; rfl; rfl; apply Known.at; apply FsAt.head; exact Rd.one' rfl; apply LW.v0; rfl; rfl; apply ValP.gtrF; rfl; rfl; omega; apply LW.nil; refine thenN ?_; apply CW.condF; rfl; (with_reducible rfl); refine CW.skip ?_; refine thenN ?_; refine CW.seq ?_; refine CW.region ?_; apply LW.v0; rfl; rfl; apply ValP.assign; rfl; apply LW.nil; refine thenN ?_; refine CW.block ?_)
          apply CW.rounds 1
          (apply RW.step; refine CW.seq ?_; refine CW.seq ?_; refine CW.region ?_; apply LW.v0; rfl; rfl; apply ValP.move; rfl; apply LW.v0; rfl; rfl; apply ValP.fieldAddr; rfl; rfl; apply LW.load; rfl; rfl; apply Known.at; apply FsAt.head; exact Rd.one' rfl; apply LW.v0; rfl; rfl; apply ValP.lssF; rfl; rfl; omega; apply LW.v0; rfl; rfl; apply ValP.move; rfl; apply LW.guardF'; rfl; rfl; simp only [Bool.not_true, Bool.not_false]; rfl; apply LW.guardF'; rfl; rfl; simp only [Bool.not_true, Bool.not_false]; rfl; apply LW.guardF'; rfl; rfl; simp only [Bool.not_true, Bool.not_false]; rfl; apply LW.guardF'; rfl; rfl; simp only [Bool.not_true, Bool.not_false]; rfl; apply LW.guardF'; rfl; rfl; simp only [Bool.not_true, Bool.not_false]; rfl; apply LW.v0; rfl; rfl; apply ValP.pickF'; rfl; (with_reducible rfl); rfl; apply LW.nil; refine thenN ?_; apply CW.condF; rfl; (with_reducible rfl); refine CW.exit ?_; refine thenE ?_; refine thenE ?_; refine blkE rfl ?_; refine blkN ?_; refine thenN ?_; refine CW.region ?_; apply LW.v0; rfl; rfl; apply ValP.move; rfl; apply LW.v0; rfl; rfl; apply ValP.addZL; rfl; rfl; decide; omega; apply LW.v0; rfl; rfl; apply ValP.assign; rfl; apply LW.nil)
          rw [hPe, ← hp1]
          apply thenX
          refine ⟨rfl, ⟨p + 1, W ++ [y.nm]⟩, ⟨by rw [List.append_assoc]; exact hJ, by dsimp only; omega, ?_⟩, by dsimp only; omega, ⟨rfl, rfl, rfl, trivial⟩, by (apply List.Sublist.cons; exact List.Sublist.refl _)⟩
          simp
      · rcases Nat.eq_zero_or_pos p with hpz | hpz
        · obtain ⟨P, hPe⟩ : ∃ P, joinW W = P := ⟨_, rfl⟩
          have hPl : P.length ≤ 14000 := by rw [← hPe]; omega
          have hp0 : ∀ y, joinW (W ++ [y]) = P ++ y := fun y => by rw [joinW_pre, ← hPe, hW0.2 hpz]; rfl
          obtain ⟨D, hD⟩ : ∃ D, (bs.drop (p + 1)).take (szOf u.toNat) = D := ⟨_, rfl⟩
          have hwo : wordsOf u D = [y.nm, hxs D] := by unfold wordsOf; rw [ho]; exact if_pos (by omega)
          have hDl : D.length = min y.dt (bs.length - (p + 1)) := by rw [← hD, hz, List.length_take, List.length_drop]
          rw [hD, hwo] at hJ
          (refine CW.seq ?_; refine CW.seq ?_; refine CW.region ?_; apply LW.v0; rfl; rfl; apply ValP.move; rfl; apply LW.v0; rfl; rfl; apply ValP.move; rfl; apply LW.v0; rfl; rfl; apply ValP.lenR; rfl; infer_instance; rfl; apply LW.v0; rfl; rfl; apply ValP.lssT; rfl; rfl; omega; apply LW.nil; refine thenN ?_; apply CW.condT; rfl; (with_reducible rfl); refine CW.skip ?_; refine thenN ?_; refine CW.seq ?_; refine CW.block ?_; refine CW.seq ?_; refine CW.seq ?_; refine CW.region ?_; apply LW.v0; rfl; rfl; apply ValP.move; rfl; apply LW.v0; rfl; rfl; apply ValP.gtrF; rfl; rfl; omega; apply LW.nil; refine thenN ?_; apply CW.condF; rfl; (with_reducible rfl); refine CW.skip ?_; refine thenN ?_; refine CW.seq ?_; refine CW.region ?_; apply LW.v0; rfl; rfl; apply ValP.move; rfl; apply LW.v0; rfl; rfl; apply ValP.move; rfl; apply LW.v0; rfl; rfl; apply ValP.indexAddrS; rfl; rfl; rfl; omega; apply LW.load; rfl; rfl; exact Known.ext (by assumption) (by simp); assumption; apply LW.callE; rfl; rfl; infer_instance; apply ArgsOk.cons; rfl; exact ArgsOk.nil; intro w _; exact hOf w; apply LW.v0; rfl; rfl; apply ValP.move; rfl; apply LW.v0; rfl; rfl; apply ValP.extractN; rfl; rfl; apply LW.v0; rfl; rfl; apply ValP.extractN; rfl; rfl; apply LW.allocA; rfl; intro _; apply LW.store; rfl; rfl; apply SetAt.head; apply Wr.whole; rfl; rfl; rfl; apply LW.v0; rfl; rfl; apply ValP.assign; rfl; apply LW.nil; refine thenN ?_; refine CW.seq ?_; refine CW.seq ?_; refine CW.region ?_; apply LW.v0; rfl; rfl; apply ValP.move; rfl; apply LW.v0; rfl; rfl; apply ValP.notT; rfl; (with_reducible rfl); apply LW.nil; refine thenN ?_; apply CW.condF; rfl; (with_reducible rfl); refine CW.skip ?_; refine thenN ?_; refine CW.seq ?_; refine CW.region ?_; apply LW.v0; rfl; rfl; apply ValP.move; rfl; apply LW.v0; rfl; rfl; apply ValP.fieldAddr; rfl; rfl; apply LW.load; rfl; rfl; apply Known.at; apply FsAt.head; exact Rd.one' rfl; apply LW.v0; rfl; rfl; apply ValP.addStr; rfl; rfl; omega; apply LW.v0; rfl; rfl; apply ValP.assign; rfl; apply LW.nil; refine thenN ?_; refine CW.seq ?_; refine CW.seq ?_; refine CW.region ?_; apply LW.v0; rfl; rfl; apply ValP.fieldAddr; rfl; rfl; apply LW.load; rfl; rfl; apply Known.at; apply FsAt.head; exact Rd.one' rfl; apply LW.v0; rfl; rfl; apply ValP.gtrT; rfl; rfl; omega; apply LW.nil; refine thenN ?_; apply CW.condT; rfl; (with_reducible rfl); refine CW.region ?_; apply LW.v0; rfl; rfl; apply ValP.move; rfl; apply LW.v0; rfl; rfl; apply ValP.addStr; rfl; rfl; simp; omega; apply LW.v0; rfl; rfl; apply ValP.assign; rfl; apply LW.nil; refine thenN ?_; refine CW.seq ?_; refine CW.region ?_; apply LW.v0; rfl; rfl; apply ValP.assign; rfl; apply LW.nil; refine thenN ?_; refine CW.block ?_)
          rw [hPe]
          obtain ⟨B, hB⟩ : ∃ B, P ++ y.nm ++ [32] = B := ⟨_, rfl⟩
          have hBl : B.length ≤ 20000 := by rw [← hB, List.length_append, List.length_append, List.length_singleton]; omega
          rw [hB]
          rename_i b5
          refine CW.loop (fun k : Nat => ([(0, .slice (some ⟨b, off, none⟩) bs.length c0), (3, sv (B ++ hxs (D.take k))), (4, .int .i64 ((p + k : Nat) : Int)), (5, .pointer (some ⟨b5, 0, none⟩)), (7, .int .i64 (k : Int))], [(b5, .cells (opc y) 24 (0, 0))]))
            (fun k => k ≤ D.length) (fun k => D.length - k) 0 (Nat.zero_le _) ⟨rfl, (by rw [List.take_zero]; show _ = some (sv (B ++ [])); rw [List.append_nil]; rfl), rfl, rfl, rfl, trivial⟩ (List.Sublist.refl _) ?_
          intro k hk
          dsimp only
          have hxl := hxs_len (D.take k)
          rw [List.length_take] at hxl
          rcases Nat.lt_or_ge k D.length with hkl | hkl
          · obtain ⟨z, hz2⟩ : ∃ z, D[k] = z := ⟨_, rfl⟩
            have hgz : bs[p + k + 1]? = some z := by
              have h1 : D[k]? = some z := by rw [List.getElem?_eq_getElem hkl, hz2]
              rw [← hD, List.getElem?_take] at h1
              split at h1
              · rw [List.getElem?_drop] at h1; rw [show p + k + 1 = p + 1 + k by omega]; exact h1
              · cases h1
            have hrd2 : Rd Tryd.prog 5 (.cells cs E fr) (off + (p + k + 1) * 1) (.int .u8 (z.toNat : Int)) := Rd.elem1 hx (ucs_one bs) hgz rfl
            have hHx := rhex_calls z
            have hst := hxs_snoc (D.take k) z
            have hst2 : B ++ hxs (D.take k) ++ hx2 z = B ++ hxs (D.take (k + 1)) := by
              rw [List.take_succ_eq_append_getElem hkl, hz2, hst, List.append_assoc]; simp [hx2]
            obtain ⟨Z, hZ⟩ : ∃ Z, hx2 z = Z := ⟨_, rfl⟩
            have hZl : Z.length = 2 := by rw [← hZ]; rfl
            rw [hZ] at hHx hst2
            (refine CW.seq ?_; refine CW.seq ?_; refine CW.region ?_; apply LW.v0; rfl; rfl; apply ValP.move; rfl; apply LW.v0; rfl; rfl; apply ValP.fieldAddr; rfl; rfl; apply LW.load; rfl; rfl; apply Known.at; apply FsAt.head; exact Rd.one' rfl; apply LW.v0; rfl; rfl; apply ValP.lssT; rfl; rfl; omega; apply LW.v0; rfl; rfl; apply ValP.move; rfl; apply LW.guardT'; rfl; rfl; (with_reducible rfl); apply LW.v0; rfl; rfl; apply ValP.move; rfl; apply LW.guardT'; rfl; rfl; (with_reducible rfl); apply LW.v0; rfl; rfl; apply ValP.addZL; rfl; rfl; decide; omega; apply LW.guardT'; rfl; rfl; (with_reducible rfl); apply LW.v0; rfl; rfl; apply ValP.move; rfl; apply LW.guardT'; rfl; rfl; (with_reducible rfl); apply LW.v0; rfl; rfl; apply ValP.lenR; rfl; infer_instance; rfl; apply LW.guardT'; rfl; rfl; (with_reducible rfl); apply LW.v0; rfl; rfl; apply ValP.lssT; rfl; rfl; omega; apply LW.v0; rfl; rfl; apply ValP.pickT'; rfl; (with_reducible rfl); rfl; apply LW.nil; refine thenN ?_; apply CW.condT; rfl; (with_reducible rfl); refine CW.skip ?_; refine thenN ?_; refine CW.seq ?_; refine CW.block ?_; refine CW.seq ?_; refine CW.region ?_; apply LW.v0; rfl; rfl; apply ValP.move; rfl; apply LW.v0; rfl; rfl; apply ValP.addZL; rfl; rfl; decide; omega; apply LW.v0; rfl; rfl; apply ValP.assign; rfl; apply LW.nil; refine thenN ?_; refine CW.region ?_; apply LW.v0; rfl; rfl; apply ValP.move; rfl; apply LW.v0; rfl; rfl; apply ValP.move; rfl; apply LW.v0; rfl; rfl; apply ValP.move; rfl; apply LW.v0; rfl; rfl; apply ValP.indexAddrS; rfl; rfl; rfl; omega; apply LW.load; rfl; rfl; exact Known.ext (by assumption) (by simp); assumption; apply LW.callE; rfl; rfl; infer_instance; apply ArgsOk.cons; rfl; exact ArgsOk.nil; intro w _; exact hHx w; apply LW.v0; rfl; rfl; apply ValP.addStr; rfl; rfl; simp; omega; apply LW.v0; rfl; rfl; apply ValP.assign; rfl; apply LW.nil; refine blkN ?_; refine thenN ?_; refine CW.region ?_; apply LW.v0; rfl; rfl; apply ValP.move; rfl; apply LW.v0; rfl; rfl; apply ValP.addZL; rfl; rfl; decide; omega; apply LW.v0; rfl; rfl; apply ValP.assign; rfl; apply LW.nil)
            rw [hst2]
            apply thenX
            exact ⟨rfl, k + 1, hkl, by omega, ⟨rfl, rfl, rfl, rfl, rfl, trivial⟩, List.Sublist.refl _⟩
          · obtain rfl : k = D.length := by omega
            rw [List.take_length]
            have hend : ¬ (D.length < y.dt ∧ p + D.length + 1 < bs.length) := by omega
            have hfin : B ++ hxs D = joinW (W ++ [y.nm, hxs D]) := by
              rw [show W ++ [y.nm, hxs D] = (W ++ [y.nm]) ++ [hxs D] by simp, joinW_snoc (by simp), hp0, ← hB]
            have hnext : wordsS (segsAt 0 (bs.drop (p + D.length + 1))) = wordsS (segsAt 0 (bs.drop (p + szOf u.toNat + 1))) := by
              rcases Nat.lt_or_ge D.length y.dt with h | h
              · rw [List.drop_eq_nil_of_le (show bs.length ≤ p + D.length + 1 by omega), List.drop_eq_nil_of_le (by omega)]
              · rw [show D.length = szOf u.toNat by omega]
            rcases Nat.lt_or_ge D.length y.dt with hlt2 | hge2
            · (refine CW.seq ?_; refine CW.seq ?_; refine CW.region ?_; apply LW.v0; rfl; rfl; apply ValP.move; rfl; apply LW.v0; rfl; rfl; apply ValP.fieldAddr; rfl; rfl; apply LW.load; rfl; rfl; apply Known.at; apply FsAt.head; exact Rd.one' rfl; apply LW.v0; rfl; rfl; apply ValP.lssT; rfl; rfl; omega; apply LW.v0; rfl; rfl; apply ValP.move; rfl; apply LW.guardT'; rfl; rfl; (with_reducible rfl); apply LW.v0; rfl; rfl; apply ValP.move; rfl; apply LW.guardT'; rfl; rfl; (with_reducible rfl); apply LW.v0; rfl; rfl; apply ValP.addZL; rfl; rfl; decide; omega; apply LW.guardT'; rfl; rfl; (with_reducible rfl); apply LW.v0; rfl; rfl; apply ValP.move; rfl; apply LW.guardT'; rfl; rfl; (with_reducible rfl); apply LW.v0; rfl; rfl; apply ValP.lenR; rfl; infer_instance; rfl; apply LW.guardT'; rfl; rfl; (with_reducible rfl); apply LW.v0; rfl; rfl; apply ValP.lssF; rfl; rfl; omega; apply LW.v0; rfl; rfl; apply ValP.pickT'; rfl; (with_reducible rfl); rfl; apply LW.nil; refine thenN ?_; apply CW.condF; rfl; (with_reducible rfl); refine CW.exit ?_; refine thenE ?_; refine thenE ?_; refine blkE rfl ?_; refine blkN ?_; refine thenN ?_; refine CW.region ?_; apply LW.v0; rfl; rfl; apply ValP.move; rfl; apply LW.v0; rfl; rfl; apply ValP.addZL; rfl; rfl; decide; omega; apply LW.v0; rfl; rfl; apply ValP.assign; rfl; apply LW.nil)
              rw [hfin]
              apply thenX
              refine ⟨rfl, ⟨p + D.length + 1, W ++ [y.nm, hxs D]⟩, ⟨by dsimp only; rw [List.append_assoc, hnext]; exact hJ, by dsimp only; omega, by simp⟩, by dsimp only; omega, ⟨rfl, rfl, rfl, trivial⟩, by (apply List.Sublist.cons; exact List.Sublist.refl _)⟩
            · (refine CW.seq ?_; refine CW.seq ?_; refine CW.region ?_; apply LW.v0; rfl; rfl; apply ValP.move; rfl; apply LW.v0; rfl; rfl; apply ValP.fieldAddr; rfl; rfl; apply LW.load; rfl; rfl; apply Known.at; apply FsAt.head; exact Rd.one' rfl; apply LW.v0; rfl; rfl; apply ValP.lssF; rfl; rfl; omega; apply LW.v0; rfl; rfl; apply ValP.move; rfl; apply LW.guardF'; rfl; rfl; simp only [Bool.not_true, Bool.not_false]; rfl; apply LW.guardF'; rfl; rfl; simp only [Bool.not_true, Bool.not_false]; rfl; apply LW.guardF'; rfl; rfl; simp only [Bool.not_true, Bool.not_false]; rfl; apply LW.guardF'; rfl; rfl; simp only [Bool.not_true, Bool.not_false]; rfl; apply LW.guardF'; rfl; rfl; simp only [Bool.not_true, Bool.not_false]; rfl; apply LW.v0; rfl; rfl; apply ValP.pickF'; rfl; (with_reducible rfl); rfl; apply LW.nil; refine thenN ?_; apply CW.condF; rfl; (with_reducible rfl); refine CW.exit ?_; refine thenE ?_; refine thenE ?_; refine blkE rfl ?_; refine blkN ?_; refine thenN ?_; refine CW.region ?_; apply LW.v0; rfl; rfl; apply ValP.move; rfl; apply LW.v0; rfl; rfl; apply ValP.addZL; rfl; rfl; decide; omega; apply LW.v0; rfl; rfl; apply ValP.assign; rfl; apply LW.nil)
              rw [hfin]
              apply thenX
              refine ⟨rfl, ⟨p + D.length + 1, W ++ [y.nm, hxs D]⟩, ⟨by dsimp only; rw [List.append_assoc, hnext]; exact hJ, by dsimp only; omega, by simp⟩, by dsimp only; omega, ⟨rfl, rfl, rfl, trivial⟩, by (apply List.Sublist.cons; exact List.Sublist.refl _)⟩
        · obtain ⟨P, hPe⟩ : ∃ P, joinW W ++ [32] = P := ⟨_, rfl⟩
          have hPl : P.length ≤ 14001 := by rw [← hPe, List.length_append, List.length_singleton]; omega
          have hp0 : ∀ y, joinW (W ++ [y]) = P ++ y := fun y => by rw [joinW_snoc (fun h => by have := hW0.1 h; omega), ← hPe]
          obtain ⟨D, hD⟩ : ∃ D, (bs.drop (p + 1)).take (szOf u.toNat) = D := ⟨_, rfl⟩
          have hwo : wordsOf u D = [y.nm, hxs D] := by unfold wordsOf; rw [ho]; exact if_pos (by omega)
          have hDl : D.length = min y.dt (bs.length - (p + 1)) := by rw [← hD, hz, List.length_take, List.length_drop]
          rw [hD, hwo] at hJ
          (refine CW.seq ?_; refine CW.seq ?_; refine CW.region ?_; apply LW.v0; rfl; rfl; apply ValP.move; rfl; apply LW.v0; rfl; rfl; apply ValP.move; rfl; apply LW.v0; rfl; rfl; apply ValP.lenR; rfl; infer_instance; rfl; apply LW.v0; rfl; rfl; apply ValP.lssT; rfl; rfl; omega; apply LW.nil; refine thenN ?_; apply CW.condT; rfl; (with_reducible rfl); refine CW.skip ?_; refine thenN ?_; refine CW.seq ?_; refine CW.block ?_; refine CW.seq ?_; refine CW.seq ?_; refine CW.region ?_; apply LW.v0; rfl; rfl; apply ValP.move; rfl; apply LW.v0; rfl; rfl; apply ValP.gtrT; rfl; rfl; omega; apply LW.nil; refine thenN ?_; apply CW.condT; rfl; (with_reducible rfl); refine CW.region ?_; apply LW.v0; rfl; rfl; apply ValP.move; rfl; apply LW.v0; rfl; rfl; apply ValP.addStr; rfl; rfl; simp; omega; apply LW.v0; rfl; rfl; apply ValP.assign; rfl; apply LW.nil; refine thenN ?_; refine CW.seq ?_; refine CW.region ?_; apply LW.v0; rfl; rfl; apply ValP.move; rfl; apply LW.v0; rfl; rfl; apply ValP.move; rfl; apply LW.v0; rfl; rfl; apply ValP.indexAddrS; rfl; rfl; rfl; omega; apply LW.load; rfl; rfl; exact Known.ext (by assumption) (by simp); assumption; apply LW.callE; rfl; rfl; infer_instance; apply ArgsOk.cons; rfl; exact ArgsOk.nil; intro w _; exact hOf w; apply LW.v0; rfl; rfl; apply ValP.move; rfl; apply LW.v0; rfl; rfl; apply ValP.extractN; rfl; rfl; apply LW.v0; rfl; rfl; apply ValP.extractN; rfl; rfl; apply LW.allocA; rfl; intro _; apply LW.store; rfl; rfl; apply SetAt.head; apply Wr.whole; rfl; rfl; rfl; apply LW.v0; rfl; rfl; apply ValP.assign; rfl; apply LW.nil; refine thenN ?_; refine CW.seq ?_; refine CW.seq ?_; refine CW.region ?_; apply LW.v0; rfl; rfl; apply ValP.move; rfl; apply LW.v0; rfl; rfl; apply ValP.notT; rfl; (with_reducible rfl); apply LW.nil; refine thenN ?_; apply CW.condF; rfl; (with_reducible rfl); refine CW.skip ?_; refine thenN ?_; refine CW.seq ?_; refine CW.region ?_; apply LW.v0; rfl; rfl; apply ValP.move; rfl; apply LW.v0; rfl; rfl; apply ValP.fieldAddr; rfl; rfl; apply LW.load; rfl; rfl; apply Known.at; apply FsAt.head; exact Rd.one' rfl; apply LW.v0; rfl; rfl; apply ValP.addStr; rfl; rfl; simp; omega; apply LW.v0; rfl; rfl; apply ValP.assign; rfl; apply LW.nil; refine thenN ?_; refine CW.seq ?_; refine CW.seq ?_; refine CW.region ?_; apply LW.v0; rfl; rfl; apply ValP.fieldAddr; rfl; rfl; apply LW.load; rfl; rfl; apply Known.at; apply FsAt.head; exact Rd.one' rfl; apply LW.v0; rfl; rfl; apply ValP.gtrT; rfl; rfl; omega; apply LW.nil; refine thenN ?_; apply CW.condT; rfl; (with_reducible rfl); refine CW.region ?_; apply LW.v0; rfl; rfl; apply ValP.move; rfl; apply LW.v0; rfl; rfl; apply ValP.addStr; rfl; rfl; simp; omega; apply LW.v0; rfl; rfl; apply ValP.assign; rfl; apply LW.nil; refine thenN ?_; refine CW.seq ?_; refine CW.region ?_; apply LW.v0; rfl; rfl; apply ValP.assign; rfl; apply LW.nil; refine thenN ?_; refine CW.block ?_)
          rw [hPe]
          obtain ⟨B, hB⟩ : ∃ B, P ++ y.nm ++ [32] = B := ⟨_, rfl⟩
          have hBl : B.length ≤ 20000 := by rw [← hB, List.length_append, List.length_append, List.length_singleton]; omega
          rw [hB]
          rename_i b5
          refine CW.loop (fun k : Nat => ([(0, .slice (some ⟨b, off, none⟩) bs.length c0), (3, sv (B ++ hxs (D.take k))), (4, .int .i64 ((p + k : Nat) : Int)), (5, .pointer (some ⟨b5, 0, none⟩)), (7, .int .i64 (k : Int))], [(b5, .cells (opc y) 24 (0, 0))]))
            (fun k => k ≤ D.length) (fun k => D.length - k) 0 (Nat.zero_le _) ⟨rfl, (by rw [List.take_zero]; show _ = some (sv (B ++ [])); rw [List.append_nil]; rfl), rfl, rfl, rfl, trivial⟩ (List.Sublist.refl _) ?_
          intro k hk
          dsimp only
          have hxl := hxs_len (D.take k)
          rw [List.length_take] at hxl
          rcases Nat.lt_or_ge k D.length with hkl | hkl
          · obtain ⟨z, hz2⟩ : ∃ z, D[k] = z := ⟨_, rfl⟩
            have hgz : bs[p + k + 1]? = some z := by
              have h1 : D[k]? = some z := by rw [List.getElem?_eq_getElem hkl, hz2]
              rw [← hD, List.getElem?_take] at h1
              split at h1
              · rw [List.getElem?_drop] at h1; rw [show p + k + 1 = p + 1 + k by omega]; exact h1
              · cases h1
            have hrd2 : Rd Tryd.prog 5 (.cells cs E fr) (off + (p + k + 1) * 1) (.int .u8 (z.toNat : Int)) := Rd.elem1 hx (ucs_one bs) hgz rfl
            have hHx := rhex_calls z
            have hst := hxs_snoc (D.take k) z
            have hst2 : B ++ hxs (D.take k) ++ hx2 z = B ++ hxs (D.take (k + 1)) := by
              rw [List.take_succ_eq_append_getElem hkl, hz2, hst, List.append_assoc]; simp [hx2]
            obtain ⟨Z, hZ⟩ : ∃ Z, hx2 z = Z := ⟨_, rfl⟩
            have hZl : Z.length = 2 := by rw [← hZ]; rfl
            rw [hZ] at hHx hst2
            (refine CW.seq ?_; refine CW.seq ?_; refine CW.region ?_; apply LW.v0; rfl; rfl; apply ValP.move; rfl; apply LW.v0; rfl; rfl; apply ValP.fieldAddr; rfl; rfl; apply LW.load; rfl; rfl; apply Known.at; apply FsAt.head; exact Rd.one' rfl; apply LW.v0; rfl; rfl; apply ValP.lssT; rfl; rfl; omega; apply LW.v0; rfl; rfl; apply ValP.move; rfl; apply LW.guardT'; rfl; rfl; (with_reducible rfl); apply LW.v0; rfl; rfl; apply ValP.move; rfl; apply LW.guardT'; rfl; rfl; (with_reducible rfl); apply LW.v0; rfl; rfl; apply ValP.addZL; rfl; rfl; decide; omega; apply LW.guardT'; rfl; rfl; (with_reducible rfl); apply LW.v0; rfl; rfl; apply ValP.move; rfl; apply LW.guardT'; rfl; rfl; (with_reducible rfl); apply LW.v0; rfl; rfl; apply ValP.lenR; rfl; infer_instance; rfl; apply LW.guardT'; rfl; rfl; (with_reducible rfl); apply LW.v0; rfl; rfl; apply ValP.lssT; rfl; rfl; omega; apply LW.v0; rfl; rfl; apply ValP.pickT'; rfl; (with_reducible rfl); rfl; apply LW.nil; refine thenN ?_; apply CW.condT; rfl; (with_reducible rfl); refine CW.skip ?_; refine thenN ?_; refine CW.seq ?_; refine CW.block ?_; refine CW.seq ?_; refine CW.region ?_; apply LW.v0; rfl; rfl; apply ValP.move; rfl; apply LW.v0; rfl; rfl; apply ValP.addZL; rfl; rfl; decide; omega; apply LW.v0; rfl; rfl; apply ValP.assign; rfl; apply LW.nil; refine thenN ?_; refine CW.region ?_; apply LW.v0; rfl; rfl; apply ValP.move; rfl; apply LW.v0; rfl; rfl; apply ValP.move; rfl; apply LW.v0; rfl; rfl; apply ValP.move; rfl; apply LW.v0; rfl; rfl; apply ValP.indexAddrS; rfl; rfl; rfl; omega; apply LW.load; rfl; rfl; exact Known.ext (by assumption) (by simp); assumption; apply LW.callE; rfl; rfl; infer_instance; apply ArgsOk.cons; rfl; exact ArgsOk.nil; intro w _; exact hHx w; apply LW.v0; rfl; rfl; apply ValP.addStr; rfl; rfl; simp; omega; apply LW.v0; rfl; rfl; apply ValP.assign; rfl; apply LW.nil; refine blkN ?_; refine thenN ?_; refine CW.region ?_; apply LW.v0; rfl; rfl; apply ValP.move; rfl; apply LW.v0; rfl; rfl; apply ValP.addZL; rfl; rfl; decide; omega; apply LW.v0; rfl; rfl; apply ValP.assign; rfl; apply LW.nil)
            rw [hst2]
            apply thenX
            exact ⟨rfl, k + 1, hkl, by omega, ⟨rfl, rfl, rfl, rfl, rfl, trivial⟩, List.Sublist.refl _⟩
          · obtain rfl : k = D.length := by omega
            rw [List.take_length]
            have hend : ¬ (D.length < y.dt ∧ p + D.length + 1 < bs.length) := by omega
            have hfin : B ++ hxs D = joinW (W ++ [y.nm, hxs D]) := by
              rw [show W ++ [y.nm, hxs D] = (W ++ [y.nm]) ++ [hxs D] by simp, joinW_snoc (by simp), hp0, ← hB]
            have hnext : wordsS (segsAt 0 (bs.drop (p + D.length + 1))) = wordsS (segsAt 0 (bs.drop (p + szOf u.toNat + 1))) := by
              rcases Nat.lt_or_ge D.length y.dt with h | h
              · rw [List.drop_eq_nil_of_le (show bs.length ≤ p + D.length + 1 by omega), List.drop_eq_nil_of_le (by omega)]
              · rw [show D.length = szOf u.toNat by omega]
            rcases Nat.lt_or_ge D.length y.dt with hlt2 | hge2
            · (refine CW.seq ?_; refine CW.seq ?_; refine CW.region ?_; apply LW.v0; rfl; rfl; apply ValP.move; rfl; apply LW.v0; rfl; rfl; apply ValP.fieldAddr; rfl; rfl; apply LW.load; rfl; rfl; apply Known.at; apply FsAt.head; exact Rd.one' rfl; apply LW.v0; rfl; rfl; apply ValP.lssT; rfl; rfl; omega; apply LW.v0; rfl; rfl; apply ValP.move; rfl; apply LW.guardT'; rfl; rfl; (with_reducible rfl); apply LW.v0; rfl; rfl; apply ValP.move; rfl; apply LW.guardT'; rfl; rfl; (with_reducible rfl); apply LW.v0; rfl; rfl; apply ValP.addZL; rfl; rfl; decide; omega; apply LW.guardT'; rfl; rfl; (with_reducible rfl); apply LW.v0; rfl; rfl; apply ValP.move; rfl; apply LW.guardT'; rfl; rfl; (with_reducible rfl); apply LW.v0; rfl; rfl; apply ValP.lenR; rfl; infer_instance; rfl; apply LW.guardT'; rfl; rfl; (with_reducible rfl); apply LW.v0; rfl; rfl; apply ValP.lssF; rfl; rfl; omega; apply LW.v0; rfl; rfl; apply ValP.pickT'; rfl; (with_reducible rfl); rfl; apply LW.nil; refine thenN ?_; apply CW.condF; rfl; (with_reducible rfl); refine CW.exit ?_; refine thenE ?_; refine thenE ?_; refine blkE rfl ?_; refine blkN ?_; refine thenN ?_; refine CW.region ?_; apply LW.v0; rfl; rfl; apply ValP.move; rfl; apply LW.v0; rfl; rfl; apply ValP.addZL; rfl; rfl; decide; omega; apply LW.v0; rfl; rfl; apply ValP.assign; rfl; apply LW.nil)
              rw [hfin]
              apply thenX
              refine ⟨rfl, ⟨p + D.length + 1, W ++ [y.nm, hxs D]⟩, ⟨by dsimp only; rw [List.append_assoc, hnext]; exact hJ, by dsimp only; omega, by simp⟩, by dsimp only; omega, ⟨rfl, rfl, rfl, trivial⟩, by (apply List.Sublist.cons; exact List.Sublist.refl _)⟩
            · (refine CW.seq ?_; refine CW.seq ?_; refine CW.region ?_; apply LW.v0; rfl; rfl; apply ValP.move; rfl; apply LW.v0; rfl; rfl; apply ValP.fieldAddr; rfl; rfl; apply LW.load; rfl; rfl; apply Known.at; apply FsAt.head; exact Rd.one' rfl; apply LW.v0; rfl; rfl; apply ValP.lssF; rfl; rfl; omega; apply LW.v0; rfl; rfl; apply ValP.move; rfl; apply LW.guardF'; rfl; rfl; simp only [Bool.not_true, Bool.not_false]; rfl; apply LW.guardF'; rfl; rfl; simp only [Bool.not_true, Bool.not_false]; rfl; apply LW.guardF'; rfl; rfl; simp only [Bool.not_true, Bool.not_false]; rfl; apply LW.guardF'; rfl; rfl; simp only [Bool.not_true, Bool.not_false]; rfl; apply LW.guardF'; rfl; rfl; simp only [Bool.not_true, Bool.not_false]; rfl; apply LW.v0; rfl; rfl; apply ValP.pickF'; rfl; (with_reducible rfl); rfl; apply LW.nil; refine thenN ?_; apply CW.condF; rfl; (with_reducible rfl); refine CW.exit ?_; refine thenE ?_; refine thenE ?_; refine blkE rfl ?_; refine blkN ?_; refine thenN ?_; refine CW.region ?_; apply LW.v0; rfl; rfl; apply ValP.move; rfl; apply LW.v0; rfl; rfl; apply ValP.addZL; rfl; rfl; decide; omega; apply LW.v0; rfl; rfl; apply ValP.assign; rfl; apply LW.nil)
              rw [hfin]
              apply thenX
              refine ⟨rfl, ⟨p + D.length + 1, W ++ [y.nm, hxs D]⟩, ⟨by dsimp only; rw [List.append_assoc, hnext]; exact hJ, by dsimp only; omega, by simp⟩, by dsimp only; omega, ⟨rfl, rfl, rfl, trivial⟩, by (apply List.Sublist.cons; exact List.Sublist.refl _)⟩
  · obtain rfl : p = bs.length := by omega
    rw [List.drop_length, segsAt_nil, show wordsS [] = [] from rfl, List.append_nil] at hJ
    subst hJ
    (refine CW.seq ?_; refine CW.seq ?_; refine CW.region ?_; apply LW.v0; rfl; rfl; apply ValP.move; rfl; apply LW.v0; rfl; rfl; apply ValP.move; rfl; apply LW.v0; rfl; rfl; apply ValP.lenR; rfl; infer_instance; rfl; apply LW.v0; rfl; rfl; apply ValP.lssF; rfl; rfl; omega; apply LW.nil; refine thenN ?_; apply CW.condF; rfl; (with_reducible rfl); refine CW.exit ?_; refine thenE ?_; refine thenE ?_; refine blkE rfl ?_; refine thenN ?_; refine CW.seq ?_; refine CW.region ?_; apply LW.v0; rfl; rfl; apply ValP.move; rfl; apply LW.v0; rfl; rfl; apply ValP.assign; rfl; apply LW.nil; refine thenN ?_; refine CW.ret ?_)
    (apply finR; exact .inl rfl; rfl; rfl; rfl; apply ResL.cons; exact Res.tmp rfl; exact ResL.nil)
    rfl
end Go.Proofs.YtbhicncgjplnoaaDoor

/-
  The layer does something; operations of bytes and names: the walks.
  Conditions: none.
-/
namespace Go.Proofs.YtbhicncgjplnoaaDoor
open Go Go.RowKit SL
set_option maxRecDepth 8000
set_option maxHeartbeats 4000000
set_option linter.unusedSimpArgs false
set_option linter.unusedVariables false
attribute [local irreducible] SL.CW SL.LW SL.DW Calls SL.Ret SL.RetG SL.beginQ SL.roundQ SL.rangeQ SL.inQ SL.RW SL.AnyW SL.thenQ SL.thenC SL.thenW SL.blkQ SL.finQ SL.ValP SL.NewP SL.SetP SL.CallP SL.Rd SL.Wr SL.Known
/-! ### wakes -/
theorem sz96 : szOf 96 = 1 := by decide +kernel
theorem sz1 : szOf 1 = 0 := by decide +kernel
theorem sz254 : szOf 254 = 0 := by decide +kernel
theorem sz12 : szOf 12 = 0 := by decide +kernel
theorem sz97 : szOf 97 = 2 := by decide +kernel
theorem sz91 : szOf 91 = 0 := by decide +kernel
theorem wk_segs : segsAt 0 [96, 5, 1, 254, 12] = [(0, 96, [5]), (2, 1, []), (3, 254, []), (4, 12, [])] := by
  rw [segsAt_cons, show szOf (96 : UInt8).toNat = 1 from sz96]
  show (0, 96, [5]) :: segsAt 2 [1, 254, 12] = _
  rw [segsAt_cons, show szOf (1 : UInt8).toNat = 0 from sz1]
  show (0, 96, [5]) :: (2, 1, []) :: segsAt 3 [254, 12] = _
  rw [segsAt_cons, show szOf (254 : UInt8).toNat = 0 from sz254]
  show (0, 96, [5]) :: (2, 1, []) :: (3, 254, []) :: segsAt 4 [12] = _
  rw [segsAt_cons, show szOf (12 : UInt8).toNat = 0 from sz12]
  show (0, 96, [5]) :: (2, 1, []) :: (3, 254, []) :: (4, 12, []) :: segsAt 5 [] = _
  rw [segsAt_nil]
def wkT : List UInt8 := [80, 85, 83, 72, 49, 32, 48, 53, 32, 65, 68, 68, 32, 73, 78, 86, 65, 76, 73, 68, 32, 46, 48, 99]
theorem wk_text : textL [96, 5, 1, 254, 12] = wkT := by
  unfold textL wordsL
  rw [wk_segs]
  decide +kernel
theorem wk_segs2 : segsAt 0 [97, 1] = [(0, 97, [1])] := by
  rw [segsAt_cons, show szOf (97 : UInt8).toNat = 2 from sz97]
  show (0, 97, [1]) :: segsAt 3 [] = _
  rw [segsAt_nil]
theorem wk_text2 : textL [97, 1] = [80, 85, 83, 72, 50, 32, 48, 49] := by
  unfold textL wordsL
  rw [wk_segs2]
  decide +kernel
theorem wk_parse : parseU [80, 85, 83, 72, 50, 32, 48, 49] = some [97, 1] := by rw [← wk_text2]; exact parse_text _ (by decide)
theorem wk_segs3 : segsAt 0 [96, 91, 91] = [(0, 96, [91]), (2, 91, [])] := by
  rw [segsAt_cons, show szOf (96 : UInt8).toNat = 1 from sz96]
  show (0, 96, [91]) :: segsAt 2 [91] = _
  rw [segsAt_cons, show szOf (91 : UInt8).toNat = 0 from sz91]
  show (0, 96, [91]) :: (2, 91, []) :: segsAt 3 [] = _
  rw [segsAt_nil]
theorem wk_jumps : jumpsL [96, 91, 91] = [2] := by unfold jumpsL; rw [wk_segs3]; decide
attribute [local irreducible] opOf named parseU textL jumpsL
theorem wakes_calls (w : World) : Calls Tryd.prog 10 #[] w (Ret w (.bool true)) := by
  refine enter (args := []) _ [] [] Tryd.func10 rfl Tryd.ntmps10 rfl (by simp) .nil ?_
  (refine CW.seq ?_; refine CW.region ?_; apply LW.v0; rfl; rfl; apply ValP.assign; rfl; apply LW.nil; refine thenN ?_; refine CW.seq ?_; refine CW.region ?_)
  refine LW.n0 rfl rfl (NewP.buildSN (vs := [(0, .int .u8 96), (1, .int .u8 5), (2, .int .u8 1), (3, .int .u8 254), (4, .int .u8 12)]) (c := uca [96, 5, 1, 254, 12]) inferInstance inferInstance (by (apply PartsOk.cons; rfl; apply PartsOk.cons; rfl; apply PartsOk.cons; rfl; apply PartsOk.cons; rfl; apply PartsOk.cons; rfl; exact PartsOk.nil)) rfl rfl (by kernel_rfl) (by kernel_rfl)) fun g => ?_
  have hTx : ∀ w', St w [] [(g, .cells (uca [96, 5, 1, 254, 12]) 5 (0, 0))] w' → Calls Tryd.prog 15 #[.slice (some ⟨g, 0, none⟩) 5 5] w' (Ret w' (.tuple #[sv wkT, .int .i64 0])) := fun w' hst => by
    have := Text_calls [96, 5, 1, 254, 12] _ w' (row_cells (n := 5) (hst.own _ (List.mem_singleton.2 rfl)).2 rfl rfl (by decide))
    unfold TextV at this
    rw [if_pos (by decide), wk_text] at this
    exact this
  (apply LW.callE; rfl; rfl; infer_instance; apply ArgsOk.cons; rfl; exact ArgsOk.nil; intro w _; exact hTx w (by assumption); apply LW.v0; rfl; rfl; apply ValP.move; rfl; apply LW.v0; rfl; rfl; apply ValP.extractN; rfl; rfl; apply LW.v0; rfl; rfl; apply ValP.extractN; rfl; rfl; apply LW.v0; rfl; rfl; apply ValP.assign; rfl; apply LW.v0; rfl; rfl; apply ValP.assign; rfl; apply LW.nil; refine thenN ?_; refine CW.seq ?_; refine CW.region ?_)
  refine LW.callR rfl rfl inferInstance (by (apply ArgsOk.cons; rfl; exact ArgsOk.nil)) (fun w' hst => Parse_calls [80, 85, 83, 72, 50, 32, 48, 49] w') ?_
  intro v2 g2 h2
  unfold ParseR at h2
  rw [wk_parse] at h2
  obtain ⟨rv, rfl, hrv⟩ := h2
  obtain ⟨p2, c2, rfl⟩ := hrv.form
  have hl2 : ([97, 1] : List UInt8).length = 2 := rfl
  rw [hl2]
  (apply LW.v0; rfl; rfl; apply ValP.move; rfl; apply LW.v0; rfl; rfl; apply ValP.extractN; rfl; rfl; apply LW.v0; rfl; rfl; apply ValP.extractN; rfl; rfl; apply LW.v0; rfl; rfl; apply ValP.assign; rfl; apply LW.v0; rfl; rfl; apply ValP.assign; rfl; apply LW.nil; refine thenN ?_; refine CW.seq ?_; refine CW.region ?_)
  refine LW.n0 rfl rfl (NewP.buildSN (vs := [(0, .int .u8 96), (1, .int .u8 91), (2, .int .u8 91)]) (c := uca [96, 91, 91]) inferInstance inferInstance (by (apply PartsOk.cons; rfl; apply PartsOk.cons; rfl; apply PartsOk.cons; rfl; exact PartsOk.nil)) rfl rfl (by kernel_rfl) (by kernel_rfl)) fun g3 => ?_
  refine LW.callR rfl rfl inferInstance (by (apply ArgsOk.cons; rfl; exact ArgsOk.nil)) (fun w' hst => Jumps_calls [96, 91, 91] _ w' (row_cells (n := 3) (hst.own _ (List.Mem.head _)).2 rfl rfl (by decide))) ?_
  intro v4 g4 h4
  unfold JumpsR at h4
  rw [if_pos (by decide), wk_jumps] at h4
  obtain ⟨p4, c4, rfl⟩ := h4.form
  have hl4 : ([2] : List Nat).length = 1 := rfl
  rw [hl4] at h4
  obtain ⟨b4, cur4, rfl, rfl, hn4, hm4, hs4, ht4⟩ := h4.pos (by decide)
  have hrd : Rd Tryd.prog 3 (.cells cur4 3 (0, 0)) (0 + 0 * 1) (.int .i64 ((2 : Nat) : Int)) := Rd.elem1 (off := 0) (l := [2]) (i := 0) (by rw [List.drop_zero]; exact ht4) (ics_len [2]) rfl rfl
  rw [hl4]
  have hte : (⟨wkT.toArray⟩ : ByteArray) = ⟨([80, 85, 83, 72, 49, 32, 48, 53, 32, 65, 68, 68, 32, 73, 78, 86, 65, 76, 73, 68, 32, 46, 48, 99] : List UInt8).toArray⟩ := rfl
  (apply LW.v0; rfl; rfl; apply ValP.assign; rfl; apply LW.nil; refine thenN ?_; refine CW.seq ?_; refine CW.region ?_; apply LW.v0; rfl; rfl; apply ValP.move; rfl; apply LW.v0; rfl; rfl; apply ValP.eqT; rfl; rfl; omega; apply LW.v0; rfl; rfl; apply ValP.move; rfl; apply LW.guardT'; rfl; rfl; (with_reducible rfl); apply LW.v0; rfl; rfl; apply ValP.move; rfl; apply LW.guardT'; rfl; rfl; (with_reducible rfl); apply LW.v0; rfl; rfl; apply ValP.eqT; rfl; rfl; omega; apply LW.v0; rfl; rfl; apply ValP.pickT'; rfl; (with_reducible rfl); rfl; apply LW.v0; rfl; rfl; apply ValP.move; rfl; apply LW.guardT'; rfl; rfl; (with_reducible rfl); apply LW.v0; rfl; rfl; apply ValP.move; rfl; apply LW.guardT'; rfl; rfl; (with_reducible rfl); apply LW.v0; rfl; rfl; apply ValP.strEqT; rfl; rfl; assumption; apply LW.v0; rfl; rfl; apply ValP.pickT'; rfl; (with_reducible rfl); rfl; apply LW.v0; rfl; rfl; apply ValP.move; rfl; apply LW.guardT'; rfl; rfl; (with_reducible rfl); apply LW.v0; rfl; rfl; apply ValP.move; rfl; apply LW.guardT'; rfl; rfl; (with_reducible rfl); apply LW.v0; rfl; rfl; apply ValP.lenR; rfl; infer_instance; rfl; apply LW.guardT'; rfl; rfl; (with_reducible rfl); apply LW.v0; rfl; rfl; apply ValP.eqT; rfl; rfl; omega; apply LW.v0; rfl; rfl; apply ValP.pickT'; rfl; (with_reducible rfl); rfl; apply LW.v0; rfl; rfl; apply ValP.move; rfl; apply LW.guardT'; rfl; rfl; (with_reducible rfl); apply LW.v0; rfl; rfl; apply ValP.move; rfl; apply LW.guardT'; rfl; rfl; (with_reducible rfl); apply LW.v0; rfl; rfl; apply ValP.lenR; rfl; infer_instance; rfl; apply LW.guardT'; rfl; rfl; (with_reducible rfl); apply LW.v0; rfl; rfl; apply ValP.eqT; rfl; rfl; omega; apply LW.v0; rfl; rfl; apply ValP.pickT'; rfl; (with_reducible rfl); rfl; apply LW.v0; rfl; rfl; apply ValP.move; rfl; apply LW.guardT'; rfl; rfl; (with_reducible rfl); apply LW.v0; rfl; rfl; apply ValP.move; rfl; apply LW.guardT'; rfl; rfl; (with_reducible rfl); apply LW.v0; rfl; rfl; apply ValP.indexAddrSL; rfl; rfl; decide; omega; apply LW.guardT'; rfl; rfl; (with_reducible rfl); apply LW.load; rfl; rfl; apply Known.at; apply FsAt.head; assumption; apply LW.guardT'; rfl; rfl; (with_reducible rfl); apply LW.v0; rfl; rfl; apply ValP.eqT; rfl; rfl; omega; apply LW.v0; rfl; rfl; apply ValP.pickT'; rfl; (with_reducible rfl); rfl; apply LW.v0; rfl; rfl; apply ValP.assign; rfl; apply LW.nil; refine thenN ?_; refine CW.ret ?_)
  (apply finR; exact .inl rfl; rfl; rfl; rfl; apply ResL.cons; exact Res.tmp rfl; exact ResL.nil)
  rfl
/-! ### Operations -/
theorem wf_u8 {n : Int} (h : (Lit.int .u8 n).wf = true) : ∃ k : Nat, n = (k : Int) ∧ k < 256 := by
  simp [Lit.wf, IntKind.min, IntKind.max, IntKind.signed, IntKind.bits] at h
  exact ⟨n.toNat, by omega, by omega⟩
theorem CodeOps_walk (b : Nat) (s : List UInt8) (hb : b < 256) (hs : s.length ≤ maxLen) (w : World) : Calls Tryd.prog 3 #[.int .u8 (b : Int), sv s] w (Ret w (.bool true)) := by
  refine enter (args := [_, _]) _ [] [] Tryd.func3 rfl Tryd.ntmps3 rfl (by simp) .nil ?_
  rcases Nat.lt_or_ge 100 s.length with hgt | hle
  · (refine CW.seq ?_; refine CW.region ?_; apply LW.v0; rfl; rfl; apply ValP.assign; rfl; apply LW.nil; refine thenN ?_; refine CW.seq ?_; refine CW.seq ?_; refine CW.region ?_; apply LW.callE; rfl; rfl; infer_instance; exact ArgsOk.nil; intro w _; exact wakes_calls w; apply LW.v0; rfl; rfl; apply ValP.notT; rfl; (with_reducible rfl); apply LW.nil; refine thenN ?_; apply CW.condF; rfl; (with_reducible rfl); refine CW.skip ?_; refine thenN ?_; refine CW.seq ?_; refine CW.seq ?_; refine CW.region ?_; apply LW.v0; rfl; rfl; apply ValP.move; rfl; apply LW.v0; rfl; rfl; apply ValP.lenStr; rfl; infer_instance; rfl; apply LW.v0; rfl; rfl; apply ValP.gtrT; rfl; rfl; omega; apply LW.nil; refine thenN ?_; apply CW.condT; rfl; (with_reducible rfl); refine CW.seq ?_; refine CW.region ?_; apply LW.v0; rfl; rfl; apply ValP.assign; rfl; apply LW.nil; refine thenN ?_; refine CW.ret ?_; refine thenR ?_)
    (apply finR; exact .inl rfl; rfl; rfl; rfl; apply ResL.cons; exact Res.tmp rfl; exact ResL.nil)
    rfl
  · cases ho : opOf b with
    | none =>
      have hO0 := Of_op_calls b hb
      have hr0 := rOf_calls b hb
      rw [ho] at hO0 hr0
      have hOf : ∀ w, Calls Tryd.prog 11 #[.int .u8 (b : Int)] w (Ret w (.tuple #[.agg (opc zeroOp), .int .i64 4])) := hO0
      have hrOf : ∀ w, Calls Tryd.prog 12 #[.int .u8 (b : Int)] w (Ret w (.tuple #[.agg (opc zeroOp), .bool false])) := hr0
      cases hn : named s with
      | none =>
        have hN0 := Named_calls s
        have hr0 := rNamed_calls s
        rw [hn] at hN0 hr0
        have hNm : ∀ w, Calls Tryd.prog 13 #[sv s] w (Ret w (.tuple #[.agg (opc zeroOp), .int .i64 4])) := hN0
        have hrNm : ∀ w, Calls Tryd.prog 14 #[sv s] w (Ret w (.tuple #[.agg (opc zeroOp), .bool false])) := hr0
        (refine CW.seq ?_; refine CW.region ?_; apply LW.v0; rfl; rfl; apply ValP.assign; rfl; apply LW.nil; refine thenN ?_; refine CW.seq ?_; refine CW.seq ?_; refine CW.region ?_; apply LW.callE; rfl; rfl; infer_instance; exact ArgsOk.nil; intro w _; exact wakes_calls w; apply LW.v0; rfl; rfl; apply ValP.notT; rfl; (with_reducible rfl); apply LW.nil; refine thenN ?_; apply CW.condF; rfl; (with_reducible rfl); refine CW.skip ?_; refine thenN ?_; refine CW.seq ?_; refine CW.seq ?_; refine CW.region ?_; apply LW.v0; rfl; rfl; apply ValP.move; rfl; apply LW.v0; rfl; rfl; apply ValP.lenStr; rfl; infer_instance; rfl; apply LW.v0; rfl; rfl; apply ValP.gtrF; rfl; rfl; omega; apply LW.nil; refine thenN ?_; apply CW.condF; rfl; (with_reducible rfl); refine CW.skip ?_; refine thenN ?_; refine CW.seq ?_; refine CW.region ?_; apply LW.v0; rfl; rfl; apply ValP.move; rfl; apply LW.callE; rfl; rfl; infer_instance; apply ArgsOk.cons; rfl; exact ArgsOk.nil; intro w _; exact hOf w; apply LW.v0; rfl; rfl; apply ValP.move; rfl; apply LW.v0; rfl; rfl; apply ValP.extractN; rfl; rfl; apply LW.v0; rfl; rfl; apply ValP.extractN; rfl; rfl; apply LW.allocA; rfl; intro _; apply LW.store; rfl; rfl; apply SetAt.head; apply Wr.whole; rfl; rfl; rfl; apply LW.v0; rfl; rfl; apply ValP.assign; rfl; apply LW.nil; refine thenN ?_; refine CW.seq ?_; refine CW.region ?_; apply LW.v0; rfl; rfl; apply ValP.move; rfl; apply LW.callE; rfl; rfl; infer_instance; apply ArgsOk.cons; rfl; exact ArgsOk.nil; intro w _; exact hrOf w; apply LW.v0; rfl; rfl; apply ValP.move; rfl; apply LW.v0; rfl; rfl; apply ValP.extractN; rfl; rfl; apply LW.v0; rfl; rfl; apply ValP.extractN; rfl; rfl; apply LW.allocA; rfl; intro _; apply LW.store; rfl; rfl; apply SetAt.head; apply Wr.whole; rfl; rfl; rfl; apply LW.v0; rfl; rfl; apply ValP.assign; rfl; apply LW.nil; refine thenN ?_; refine CW.seq ?_; refine CW.seq ?_; refine CW.region ?_; apply LW.load; rfl; rfl; apply Known.at; apply FsAt.tail; apply FsAt.head; exact Rd.whole rfl; apply LW.load; rfl; rfl; apply Known.at; apply FsAt.head; exact Rd.whole rfl; apply LW.v0; rfl; rfl; apply ValP.neqSame; rfl; rfl; kernel_rfl; apply LW.v0; rfl; rfl; apply ValP.move; rfl; apply LW.guardT'; rfl; rfl; (with_reducible rfl); apply LW.v0; rfl; rfl; apply ValP.move; rfl; apply LW.guardT'; rfl; rfl; (with_reducible rfl); apply LW.v0; rfl; rfl; apply ValP.eqF; rfl; rfl; omega; apply LW.guardT'; rfl; rfl; (with_reducible rfl); apply LW.v0; rfl; rfl; apply ValP.move; rfl; apply LW.guardT'; rfl; rfl; (with_reducible rfl); apply LW.v0; rfl; rfl; apply ValP.boolNeF; rfl; rfl; (with_reducible rfl); apply LW.v0; rfl; rfl; apply ValP.pickF'; rfl; (with_reducible rfl); rfl; apply LW.v0; rfl; rfl; apply ValP.move; rfl; apply LW.guardT'; rfl; rfl; (with_reducible rfl); apply LW.v0; rfl; rfl; apply ValP.move; rfl; apply LW.guardT'; rfl; rfl; (with_reducible rfl); apply LW.v0; rfl; rfl; apply ValP.notF; rfl; (with_reducible rfl); apply LW.guardT'; rfl; rfl; (with_reducible rfl); apply LW.v0; rfl; rfl; apply ValP.move; rfl; apply LW.guardT'; rfl; rfl; (with_reducible rfl); apply LW.v0; rfl; rfl; apply ValP.move; rfl; apply LW.guardT'; rfl; rfl; (with_reducible rfl); apply LW.v0; rfl; rfl; apply ValP.neF; rfl; rfl; omega; apply LW.guardT'; rfl; rfl; (with_reducible rfl); apply LW.v0; rfl; rfl; apply ValP.pickT'; rfl; (with_reducible rfl); rfl; apply LW.v0; rfl; rfl; apply ValP.pickF'; rfl; (with_reducible rfl); rfl; apply LW.nil; refine thenN ?_; apply CW.condF; rfl; (with_reducible rfl); refine CW.skip ?_; refine thenN ?_; refine CW.seq ?_; refine CW.region ?_; apply LW.v0; rfl; rfl; apply ValP.move; rfl; apply LW.callE; rfl; rfl; infer_instance; apply ArgsOk.cons; rfl; exact ArgsOk.nil; intro w _; exact hNm w; apply LW.v0; rfl; rfl; apply ValP.move; rfl; apply LW.v0; rfl; rfl; apply ValP.extractN; rfl; rfl; apply LW.v0; rfl; rfl; apply ValP.extractN; rfl; rfl; apply LW.store; rfl; rfl; apply SetAt.tail; apply SetAt.head; apply Wr.whole; rfl; rfl; rfl; apply LW.v0; rfl; rfl; apply ValP.assign; rfl; apply LW.nil; refine thenN ?_; refine CW.seq ?_; refine CW.region ?_; apply LW.v0; rfl; rfl; apply ValP.move; rfl; apply LW.callE; rfl; rfl; infer_instance; apply ArgsOk.cons; rfl; exact ArgsOk.nil; intro w _; exact hrNm w; apply LW.v0; rfl; rfl; apply ValP.move; rfl; apply LW.v0; rfl; rfl; apply ValP.extractN; rfl; rfl; apply LW.v0; rfl; rfl; apply ValP.extractN; rfl; rfl; apply LW.store; rfl; rfl; apply SetAt.head; apply Wr.whole; rfl; rfl; rfl; apply LW.v0; rfl; rfl; apply ValP.assign; rfl; apply LW.nil; refine thenN ?_; refine CW.seq ?_; refine CW.region ?_; apply LW.load; rfl; rfl; apply Known.at; apply FsAt.tail; apply FsAt.head; exact Rd.whole rfl; apply LW.load; rfl; rfl; apply Known.at; apply FsAt.head; exact Rd.whole rfl; apply LW.v0; rfl; rfl; apply ValP.eqlSame; rfl; rfl; kernel_rfl; apply LW.v0; rfl; rfl; apply ValP.move; rfl; apply LW.guardT'; rfl; rfl; (with_reducible rfl); apply LW.v0; rfl; rfl; apply ValP.move; rfl; apply LW.guardT'; rfl; rfl; (with_reducible rfl); apply LW.v0; rfl; rfl; apply ValP.eqF; rfl; rfl; omega; apply LW.guardT'; rfl; rfl; (with_reducible rfl); apply LW.v0; rfl; rfl; apply ValP.move; rfl; apply LW.guardT'; rfl; rfl; (with_reducible rfl); apply LW.v0; rfl; rfl; apply ValP.boolEqT; rfl; rfl; (with_reducible rfl); apply LW.v0; rfl; rfl; apply ValP.pickT'; rfl; (with_reducible rfl); rfl; apply LW.v0; rfl; rfl; apply ValP.move; rfl; apply LW.guardT'; rfl; rfl; (with_reducible rfl); apply LW.v0; rfl; rfl; apply ValP.move; rfl; apply LW.guardT'; rfl; rfl; (with_reducible rfl); apply LW.v0; rfl; rfl; apply ValP.move; rfl; apply LW.guardT'; rfl; rfl; (with_reducible rfl); apply LW.v0; rfl; rfl; apply ValP.move; rfl; apply LW.guardT'; rfl; rfl; (with_reducible rfl); apply LW.v0; rfl; rfl; apply ValP.eqT; rfl; rfl; omega; apply LW.guardT'; rfl; rfl; (with_reducible rfl); apply LW.v0; rfl; rfl; apply ValP.pickF'; rfl; (with_reducible rfl); rfl; apply LW.v0; rfl; rfl; apply ValP.pickT'; rfl; (with_reducible rfl); rfl; apply LW.v0; rfl; rfl; apply ValP.assign; rfl; apply LW.nil; refine thenN ?_; refine CW.ret ?_)
        (apply finR; exact .inl rfl; rfl; rfl; rfl; apply ResL.cons; exact Res.tmp rfl; exact ResL.nil)
        rfl
      | some z =>
        have hN0 := Named_calls s
        have hr0 := rNamed_calls s
        rw [hn] at hN0 hr0
        have hNm : ∀ w, Calls Tryd.prog 13 #[sv s] w (Ret w (.tuple #[.agg (opc z), .int .i64 0])) := hN0
        have hrNm : ∀ w, Calls Tryd.prog 14 #[sv s] w (Ret w (.tuple #[.agg (opc z), .bool true])) := hr0
        (refine CW.seq ?_; refine CW.region ?_; apply LW.v0; rfl; rfl; apply ValP.assign; rfl; apply LW.nil; refine thenN ?_; refine CW.seq ?_; refine CW.seq ?_; refine CW.region ?_; apply LW.callE; rfl; rfl; infer_instance; exact ArgsOk.nil; intro w _; exact wakes_calls w; apply LW.v0; rfl; rfl; apply ValP.notT; rfl; (with_reducible rfl); apply LW.nil; refine thenN ?_; apply CW.condF; rfl; (with_reducible rfl); refine CW.skip ?_; refine thenN ?_; refine CW.seq ?_; refine CW.seq ?_; refine CW.region ?_; apply LW.v0; rfl; rfl; apply ValP.move; rfl; apply LW.v0; rfl; rfl; apply ValP.lenStr; rfl; infer_instance; rfl; apply LW.v0; rfl; rfl; apply ValP.gtrF; rfl; rfl; omega; apply LW.nil; refine thenN ?_; apply CW.condF; rfl; (with_reducible rfl); refine CW.skip ?_; refine thenN ?_; refine CW.seq ?_; refine CW.region ?_; apply LW.v0; rfl; rfl; apply ValP.move; rfl; apply LW.callE; rfl; rfl; infer_instance; apply ArgsOk.cons; rfl; exact ArgsOk.nil; intro w _; exact hOf w; apply LW.v0; rfl; rfl; apply ValP.move; rfl; apply LW.v0; rfl; rfl; apply ValP.extractN; rfl; rfl; apply LW.v0; rfl; rfl; apply ValP.extractN; rfl; rfl; apply LW.allocA; rfl; intro _; apply LW.store; rfl; rfl; apply SetAt.head; apply Wr.whole; rfl; rfl; rfl; apply LW.v0; rfl; rfl; apply ValP.assign; rfl; apply LW.nil; refine thenN ?_; refine CW.seq ?_; refine CW.region ?_; apply LW.v0; rfl; rfl; apply ValP.move; rfl; apply LW.callE; rfl; rfl; infer_instance; apply ArgsOk.cons; rfl; exact ArgsOk.nil; intro w _; exact hrOf w; apply LW.v0; rfl; rfl; apply ValP.move; rfl; apply LW.v0; rfl; rfl; apply ValP.extractN; rfl; rfl; apply LW.v0; rfl; rfl; apply ValP.extractN; rfl; rfl; apply LW.allocA; rfl; intro _; apply LW.store; rfl; rfl; apply SetAt.head; apply Wr.whole; rfl; rfl; rfl; apply LW.v0; rfl; rfl; apply ValP.assign; rfl; apply LW.nil; refine thenN ?_; refine CW.seq ?_; refine CW.seq ?_; refine CW.region ?_; apply LW.load; rfl; rfl; apply Known.at; apply FsAt.tail; apply FsAt.head; exact Rd.whole rfl; apply LW.load; rfl; rfl; apply Known.at; apply FsAt.head; exact Rd.whole rfl; apply LW.v0; rfl; rfl; apply ValP.neqSame; rfl; rfl; kernel_rfl; apply LW.v0; rfl; rfl; apply ValP.move; rfl; apply LW.guardT'; rfl; rfl; (with_reducible rfl); apply LW.v0; rfl; rfl; apply ValP.move; rfl; apply LW.guardT'; rfl; rfl; (with_reducible rfl); apply LW.v0; rfl; rfl; apply ValP.eqF; rfl; rfl; omega; apply LW.guardT'; rfl; rfl; (with_reducible rfl); apply LW.v0; rfl; rfl; apply ValP.move; rfl; apply LW.guardT'; rfl; rfl; (with_reducible rfl); apply LW.v0; rfl; rfl; apply ValP.boolNeF; rfl; rfl; (with_reducible rfl); apply LW.v0; rfl; rfl; apply ValP.pickF'; rfl; (with_reducible rfl); rfl; apply LW.v0; rfl; rfl; apply ValP.move; rfl; apply LW.guardT'; rfl; rfl; (with_reducible rfl); apply LW.v0; rfl; rfl; apply ValP.move; rfl; apply LW.guardT'; rfl; rfl; (with_reducible rfl); apply LW.v0; rfl; rfl; apply ValP.notF; rfl; (with_reducible rfl); apply LW.guardT'; rfl; rfl; (with_reducible rfl); apply LW.v0; rfl; rfl; apply ValP.move; rfl; apply LW.guardT'; rfl; rfl; (with_reducible rfl); apply LW.v0; rfl; rfl; apply ValP.move; rfl; apply LW.guardT'; rfl; rfl; (with_reducible rfl); apply LW.v0; rfl; rfl; apply ValP.neF; rfl; rfl; omega; apply LW.guardT'; rfl; rfl; (with_reducible rfl); apply LW.v0; rfl; rfl; apply ValP.pickT'; rfl; (with_reducible rfl); rfl; apply LW.v0; rfl; rfl; apply ValP.pickF'; rfl; (with_reducible rfl); rfl; apply LW.nil; refine thenN ?_; apply CW.condF; rfl; (with_reducible rfl); refine CW.skip ?_; refine thenN ?_; refine CW.seq ?_; refine CW.region ?_; apply LW.v0; rfl; rfl; apply ValP.move; rfl; apply LW.callE; rfl; rfl; infer_instance; apply ArgsOk.cons; rfl; exact ArgsOk.nil; intro w _; exact hNm w; apply LW.v0; rfl; rfl; apply ValP.move; rfl; apply LW.v0; rfl; rfl; apply ValP.extractN; rfl; rfl; apply LW.v0; rfl; rfl; apply ValP.extractN; rfl; rfl; apply LW.store; rfl; rfl; apply SetAt.tail; apply SetAt.head; apply Wr.whole; rfl; rfl; rfl; apply LW.v0; rfl; rfl; apply ValP.assign; rfl; apply LW.nil; refine thenN ?_; refine CW.seq ?_; refine CW.region ?_; apply LW.v0; rfl; rfl; apply ValP.move; rfl; apply LW.callE; rfl; rfl; infer_instance; apply ArgsOk.cons; rfl; exact ArgsOk.nil; intro w _; exact hrNm w; apply LW.v0; rfl; rfl; apply ValP.move; rfl; apply LW.v0; rfl; rfl; apply ValP.extractN; rfl; rfl; apply LW.v0; rfl; rfl; apply ValP.extractN; rfl; rfl; apply LW.store; rfl; rfl; apply SetAt.head; apply Wr.whole; rfl; rfl; rfl; apply LW.v0; rfl; rfl; apply ValP.assign; rfl; apply LW.nil; refine thenN ?_; refine CW.seq ?_; refine CW.region ?_; apply LW.load; rfl; rfl; apply Known.at; apply FsAt.tail; apply FsAt.head; exact Rd.whole rfl; apply LW.load; rfl; rfl; apply Known.at; apply FsAt.head; exact Rd.whole rfl; apply LW.v0; rfl; rfl; apply ValP.eqlSame; rfl; rfl; kernel_rfl; apply LW.v0; rfl; rfl; apply ValP.move; rfl; apply LW.guardT'; rfl; rfl; (with_reducible rfl); apply LW.v0; rfl; rfl; apply ValP.move; rfl; apply LW.guardT'; rfl; rfl; (with_reducible rfl); apply LW.v0; rfl; rfl; apply ValP.eqT; rfl; rfl; omega; apply LW.guardT'; rfl; rfl; (with_reducible rfl); apply LW.v0; rfl; rfl; apply ValP.move; rfl; apply LW.guardT'; rfl; rfl; (with_reducible rfl); apply LW.v0; rfl; rfl; apply ValP.boolEqT; rfl; rfl; (with_reducible rfl); apply LW.v0; rfl; rfl; apply ValP.pickT'; rfl; (with_reducible rfl); rfl; apply LW.v0; rfl; rfl; apply ValP.move; rfl; apply LW.guardT'; rfl; rfl; (with_reducible rfl); apply LW.v0; rfl; rfl; apply ValP.move; rfl; apply LW.guardT'; rfl; rfl; (with_reducible rfl); apply LW.v0; rfl; rfl; apply ValP.move; rfl; apply LW.guardF'; rfl; rfl; simp only [Bool.not_true, Bool.not_false]; rfl; apply LW.guardF'; rfl; rfl; simp only [Bool.not_true, Bool.not_false]; rfl; apply LW.guardT'; rfl; rfl; (with_reducible rfl); apply LW.v0; rfl; rfl; apply ValP.pickT'; rfl; (with_reducible rfl); rfl; apply LW.v0; rfl; rfl; apply ValP.pickT'; rfl; (with_reducible rfl); rfl; apply LW.v0; rfl; rfl; apply ValP.assign; rfl; apply LW.nil; refine thenN ?_; refine CW.ret ?_)
        (apply finR; exact .inl rfl; rfl; rfl; rfl; apply ResL.cons; exact Res.tmp rfl; exact ResL.nil)
        rfl
    | some y =>
      have hO0 := Of_op_calls b hb
      have hr0 := rOf_calls b hb
      rw [ho] at hO0 hr0
      have hOf : ∀ w, Calls Tryd.prog 11 #[.int .u8 (b : Int)] w (Ret w (.tuple #[.agg (opc y), .int .i64 0])) := hO0
      have hrOf : ∀ w, Calls Tryd.prog 12 #[.int .u8 (b : Int)] w (Ret w (.tuple #[.agg (opc y), .bool true])) := hr0
      cases hn : named s with
      | none =>
        have hN0 := Named_calls s
        have hr0 := rNamed_calls s
        rw [hn] at hN0 hr0
        have hNm : ∀ w, Calls Tryd.prog 13 #[sv s] w (Ret w (.tuple #[.agg (opc zeroOp), .int .i64 4])) := hN0
        have hrNm : ∀ w, Calls Tryd.prog 14 #[sv s] w (Ret w (.tuple #[.agg (opc zeroOp), .bool false])) := hr0
        (refine CW.seq ?_; refine CW.region ?_; apply LW.v0; rfl; rfl; apply ValP.assign; rfl; apply LW.nil; refine thenN ?_; refine CW.seq ?_; refine CW.seq ?_; refine CW.region ?_; apply LW.callE; rfl; rfl; infer_instance; exact ArgsOk.nil; intro w _; exact wakes_calls w; apply LW.v0; rfl; rfl; apply ValP.notT; rfl; (with_reducible rfl); apply LW.nil; refine thenN ?_; apply CW.condF; rfl; (with_reducible rfl); refine CW.skip ?_; refine thenN ?_; refine CW.seq ?_; refine CW.seq ?_; refine CW.region ?_; apply LW.v0; rfl; rfl; apply ValP.move; rfl; apply LW.v0; rfl; rfl; apply ValP.lenStr; rfl; infer_instance; rfl; apply LW.v0; rfl; rfl; apply ValP.gtrF; rfl; rfl; omega; apply LW.nil; refine thenN ?_; apply CW.condF; rfl; (with_reducible rfl); refine CW.skip ?_; refine thenN ?_; refine CW.seq ?_; refine CW.region ?_; apply LW.v0; rfl; rfl; apply ValP.move; rfl; apply LW.callE; rfl; rfl; infer_instance; apply ArgsOk.cons; rfl; exact ArgsOk.nil; intro w _; exact hOf w; apply LW.v0; rfl; rfl; apply ValP.move; rfl; apply LW.v0; rfl; rfl; apply ValP.extractN; rfl; rfl; apply LW.v0; rfl; rfl; apply ValP.extractN; rfl; rfl; apply LW.allocA; rfl; intro _; apply LW.store; rfl; rfl; apply SetAt.head; apply Wr.whole; rfl; rfl; rfl; apply LW.v0; rfl; rfl; apply ValP.assign; rfl; apply LW.nil; refine thenN ?_; refine CW.seq ?_; refine CW.region ?_; apply LW.v0; rfl; rfl; apply ValP.move; rfl; apply LW.callE; rfl; rfl; infer_instance; apply ArgsOk.cons; rfl; exact ArgsOk.nil; intro w _; exact hrOf w; apply LW.v0; rfl; rfl; apply ValP.move; rfl; apply LW.v0; rfl; rfl; apply ValP.extractN; rfl; rfl; apply LW.v0; rfl; rfl; apply ValP.extractN; rfl; rfl; apply LW.allocA; rfl; intro _; apply LW.store; rfl; rfl; apply SetAt.head; apply Wr.whole; rfl; rfl; rfl; apply LW.v0; rfl; rfl; apply ValP.assign; rfl; apply LW.nil; refine thenN ?_; refine CW.seq ?_; refine CW.seq ?_; refine CW.region ?_; apply LW.load; rfl; rfl; apply Known.at; apply FsAt.tail; apply FsAt.head; exact Rd.whole rfl; apply LW.load; rfl; rfl; apply Known.at; apply FsAt.head; exact Rd.whole rfl; apply LW.v0; rfl; rfl; apply ValP.neqSame; rfl; rfl; kernel_rfl; apply LW.v0; rfl; rfl; apply ValP.move; rfl; apply LW.guardT'; rfl; rfl; (with_reducible rfl); apply LW.v0; rfl; rfl; apply ValP.move; rfl; apply LW.guardT'; rfl; rfl; (with_reducible rfl); apply LW.v0; rfl; rfl; apply ValP.eqT; rfl; rfl; omega; apply LW.guardT'; rfl; rfl; (with_reducible rfl); apply LW.v0; rfl; rfl; apply ValP.move; rfl; apply LW.guardT'; rfl; rfl; (with_reducible rfl); apply LW.v0; rfl; rfl; apply ValP.boolNeF; rfl; rfl; (with_reducible rfl); apply LW.v0; rfl; rfl; apply ValP.pickF'; rfl; (with_reducible rfl); rfl; apply LW.v0; rfl; rfl; apply ValP.move; rfl; apply LW.guardT'; rfl; rfl; (with_reducible rfl); apply LW.v0; rfl; rfl; apply ValP.move; rfl; apply LW.guardT'; rfl; rfl; (with_reducible rfl); apply LW.v0; rfl; rfl; apply ValP.notT; rfl; (with_reducible rfl); apply LW.guardT'; rfl; rfl; (with_reducible rfl); apply LW.v0; rfl; rfl; apply ValP.move; rfl; apply LW.guardF'; rfl; rfl; simp only [Bool.not_true, Bool.not_false]; rfl; apply LW.guardF'; rfl; rfl; simp only [Bool.not_true, Bool.not_false]; rfl; apply LW.guardT'; rfl; rfl; (with_reducible rfl); apply LW.v0; rfl; rfl; apply ValP.pickF'; rfl; (with_reducible rfl); rfl; apply LW.v0; rfl; rfl; apply ValP.pickF'; rfl; (with_reducible rfl); rfl; apply LW.nil; refine thenN ?_; apply CW.condF; rfl; (with_reducible rfl); refine CW.skip ?_; refine thenN ?_; refine CW.seq ?_; refine CW.region ?_; apply LW.v0; rfl; rfl; apply ValP.move; rfl; apply LW.callE; rfl; rfl; infer_instance; apply ArgsOk.cons; rfl; exact ArgsOk.nil; intro w _; exact hNm w; apply LW.v0; rfl; rfl; apply ValP.move; rfl; apply LW.v0; rfl; rfl; apply ValP.extractN; rfl; rfl; apply LW.v0; rfl; rfl; apply ValP.extractN; rfl; rfl; apply LW.store; rfl; rfl; apply SetAt.tail; apply SetAt.head; apply Wr.whole; rfl; rfl; rfl; apply LW.v0; rfl; rfl; apply ValP.assign; rfl; apply LW.nil; refine thenN ?_; refine CW.seq ?_; refine CW.region ?_; apply LW.v0; rfl; rfl; apply ValP.move; rfl; apply LW.callE; rfl; rfl; infer_instance; apply ArgsOk.cons; rfl; exact ArgsOk.nil; intro w _; exact hrNm w; apply LW.v0; rfl; rfl; apply ValP.move; rfl; apply LW.v0; rfl; rfl; apply ValP.extractN; rfl; rfl; apply LW.v0; rfl; rfl; apply ValP.extractN; rfl; rfl; apply LW.store; rfl; rfl; apply SetAt.head; apply Wr.whole; rfl; rfl; rfl; apply LW.v0; rfl; rfl; apply ValP.assign; rfl; apply LW.nil; refine thenN ?_; refine CW.seq ?_; refine CW.region ?_; apply LW.load; rfl; rfl; apply Known.at; apply FsAt.tail; apply FsAt.head; exact Rd.whole rfl; apply LW.load; rfl; rfl; apply Known.at; apply FsAt.head; exact Rd.whole rfl; apply LW.v0; rfl; rfl; apply ValP.eqlSame; rfl; rfl; kernel_rfl; apply LW.v0; rfl; rfl; apply ValP.move; rfl; apply LW.guardT'; rfl; rfl; (with_reducible rfl); apply LW.v0; rfl; rfl; apply ValP.move; rfl; apply LW.guardT'; rfl; rfl; (with_reducible rfl); apply LW.v0; rfl; rfl; apply ValP.eqF; rfl; rfl; omega; apply LW.guardT'; rfl; rfl; (with_reducible rfl); apply LW.v0; rfl; rfl; apply ValP.move; rfl; apply LW.guardT'; rfl; rfl; (with_reducible rfl); apply LW.v0; rfl; rfl; apply ValP.boolEqT; rfl; rfl; (with_reducible rfl); apply LW.v0; rfl; rfl; apply ValP.pickT'; rfl; (with_reducible rfl); rfl; apply LW.v0; rfl; rfl; apply ValP.move; rfl; apply LW.guardT'; rfl; rfl; (with_reducible rfl); apply LW.v0; rfl; rfl; apply ValP.move; rfl; apply LW.guardT'; rfl; rfl; (with_reducible rfl); apply LW.v0; rfl; rfl; apply ValP.move; rfl; apply LW.guardT'; rfl; rfl; (with_reducible rfl); apply LW.v0; rfl; rfl; apply ValP.move; rfl; apply LW.guardT'; rfl; rfl; (with_reducible rfl); apply LW.v0; rfl; rfl; apply ValP.eqT; rfl; rfl; omega; apply LW.guardT'; rfl; rfl; (with_reducible rfl); apply LW.v0; rfl; rfl; apply ValP.pickF'; rfl; (with_reducible rfl); rfl; apply LW.v0; rfl; rfl; apply ValP.pickT'; rfl; (with_reducible rfl); rfl; apply LW.v0; rfl; rfl; apply ValP.assign; rfl; apply LW.nil; refine thenN ?_; refine CW.ret ?_)
        (apply finR; exact .inl rfl; rfl; rfl; rfl; apply ResL.cons; exact Res.tmp rfl; exact ResL.nil)
        rfl
      | some z =>
        have hN0 := Named_calls s
        have hr0 := rNamed_calls s
        rw [hn] at hN0 hr0
        have hNm : ∀ w, Calls Tryd.prog 13 #[sv s] w (Ret w (.tuple #[.agg (opc z), .int .i64 0])) := hN0
        have hrNm : ∀ w, Calls Tryd.prog 14 #[sv s] w (Ret w (.tuple #[.agg (opc z), .bool true])) := hr0
        (refine CW.seq ?_; refine CW.region ?_; apply LW.v0; rfl; rfl; apply ValP.assign; rfl; apply LW.nil; refine thenN ?_; refine CW.seq ?_; refine CW.seq ?_; refine CW.region ?_; apply LW.callE; rfl; rfl; infer_instance; exact ArgsOk.nil; intro w _; exact wakes_calls w; apply LW.v0; rfl; rfl; apply ValP.notT; rfl; (with_reducible rfl); apply LW.nil; refine thenN ?_; apply CW.condF; rfl; (with_reducible rfl); refine CW.skip ?_; refine thenN ?_; refine CW.seq ?_; refine CW.seq ?_; refine CW.region ?_; apply LW.v0; rfl; rfl; apply ValP.move; rfl; apply LW.v0; rfl; rfl; apply ValP.lenStr; rfl; infer_instance; rfl; apply LW.v0; rfl; rfl; apply ValP.gtrF; rfl; rfl; omega; apply LW.nil; refine thenN ?_; apply CW.condF; rfl; (with_reducible rfl); refine CW.skip ?_; refine thenN ?_; refine CW.seq ?_; refine CW.region ?_; apply LW.v0; rfl; rfl; apply ValP.move; rfl; apply LW.callE; rfl; rfl; infer_instance; apply ArgsOk.cons; rfl; exact ArgsOk.nil; intro w _; exact hOf w; apply LW.v0; rfl; rfl; apply ValP.move; rfl; apply LW.v0; rfl; rfl; apply ValP.extractN; rfl; rfl; apply LW.v0; rfl; rfl; apply ValP.extractN; rfl; rfl; apply LW.allocA; rfl; intro _; apply LW.store; rfl; rfl; apply SetAt.head; apply Wr.whole; rfl; rfl; rfl; apply LW.v0; rfl; rfl; apply ValP.assign; rfl; apply LW.nil; refine thenN ?_; refine CW.seq ?_; refine CW.region ?_; apply LW.v0; rfl; rfl; apply ValP.move; rfl; apply LW.callE; rfl; rfl; infer_instance; apply ArgsOk.cons; rfl; exact ArgsOk.nil; intro w _; exact hrOf w; apply LW.v0; rfl; rfl; apply ValP.move; rfl; apply LW.v0; rfl; rfl; apply ValP.extractN; rfl; rfl; apply LW.v0; rfl; rfl; apply ValP.extractN; rfl; rfl; apply LW.allocA; rfl; intro _; apply LW.store; rfl; rfl; apply SetAt.head; apply Wr.whole; rfl; rfl; rfl; apply LW.v0; rfl; rfl; apply ValP.assign; rfl; apply LW.nil; refine thenN ?_; refine CW.seq ?_; refine CW.seq ?_; refine CW.region ?_; apply LW.load; rfl; rfl; apply Known.at; apply FsAt.tail; apply FsAt.head; exact Rd.whole rfl; apply LW.load; rfl; rfl; apply Known.at; apply FsAt.head; exact Rd.whole rfl; apply LW.v0; rfl; rfl; apply ValP.neqSame; rfl; rfl; kernel_rfl; apply LW.v0; rfl; rfl; apply ValP.move; rfl; apply LW.guardT'; rfl; rfl; (with_reducible rfl); apply LW.v0; rfl; rfl; apply ValP.move; rfl; apply LW.guardT'; rfl; rfl; (with_reducible rfl); apply LW.v0; rfl; rfl; apply ValP.eqT; rfl; rfl; omega; apply LW.guardT'; rfl; rfl; (with_reducible rfl); apply LW.v0; rfl; rfl; apply ValP.move; rfl; apply LW.guardT'; rfl; rfl; (with_reducible rfl); apply LW.v0; rfl; rfl; apply ValP.boolNeF; rfl; rfl; (with_reducible rfl); apply LW.v0; rfl; rfl; apply ValP.pickF'; rfl; (with_reducible rfl); rfl; apply LW.v0; rfl; rfl; apply ValP.move; rfl; apply LW.guardT'; rfl; rfl; (with_reducible rfl); apply LW.v0; rfl; rfl; apply ValP.move; rfl; apply LW.guardT'; rfl; rfl; (with_reducible rfl); apply LW.v0; rfl; rfl; apply ValP.notT; rfl; (with_reducible rfl); apply LW.guardT'; rfl; rfl; (with_reducible rfl); apply LW.v0; rfl; rfl; apply ValP.move; rfl; apply LW.guardF'; rfl; rfl; simp only [Bool.not_true, Bool.not_false]; rfl; apply LW.guardF'; rfl; rfl; simp only [Bool.not_true, Bool.not_false]; rfl; apply LW.guardT'; rfl; rfl; (with_reducible rfl); apply LW.v0; rfl; rfl; apply ValP.pickF'; rfl; (with_reducible rfl); rfl; apply LW.v0; rfl; rfl; apply ValP.pickF'; rfl; (with_reducible rfl); rfl; apply LW.nil; refine thenN ?_; apply CW.condF; rfl; (with_reducible rfl); refine CW.skip ?_; refine thenN ?_; refine CW.seq ?_; refine CW.region ?_; apply LW.v0; rfl; rfl; apply ValP.move; rfl; apply LW.callE; rfl; rfl; infer_instance; apply ArgsOk.cons; rfl; exact ArgsOk.nil; intro w _; exact hNm w; apply LW.v0; rfl; rfl; apply ValP.move; rfl; apply LW.v0; rfl; rfl; apply ValP.extractN; rfl; rfl; apply LW.v0; rfl; rfl; apply ValP.extractN; rfl; rfl; apply LW.store; rfl; rfl; apply SetAt.tail; apply SetAt.head; apply Wr.whole; rfl; rfl; rfl; apply LW.v0; rfl; rfl; apply ValP.assign; rfl; apply LW.nil; refine thenN ?_; refine CW.seq ?_; refine CW.region ?_; apply LW.v0; rfl; rfl; apply ValP.move; rfl; apply LW.callE; rfl; rfl; infer_instance; apply ArgsOk.cons; rfl; exact ArgsOk.nil; intro w _; exact hrNm w; apply LW.v0; rfl; rfl; apply ValP.move; rfl; apply LW.v0; rfl; rfl; apply ValP.extractN; rfl; rfl; apply LW.v0; rfl; rfl; apply ValP.extractN; rfl; rfl; apply LW.store; rfl; rfl; apply SetAt.head; apply Wr.whole; rfl; rfl; rfl; apply LW.v0; rfl; rfl; apply ValP.assign; rfl; apply LW.nil; refine thenN ?_; refine CW.seq ?_; refine CW.region ?_; apply LW.load; rfl; rfl; apply Known.at; apply FsAt.tail; apply FsAt.head; exact Rd.whole rfl; apply LW.load; rfl; rfl; apply Known.at; apply FsAt.head; exact Rd.whole rfl; apply LW.v0; rfl; rfl; apply ValP.eqlSame; rfl; rfl; kernel_rfl; apply LW.v0; rfl; rfl; apply ValP.move; rfl; apply LW.guardT'; rfl; rfl; (with_reducible rfl); apply LW.v0; rfl; rfl; apply ValP.move; rfl; apply LW.guardT'; rfl; rfl; (with_reducible rfl); apply LW.v0; rfl; rfl; apply ValP.eqT; rfl; rfl; omega; apply LW.guardT'; rfl; rfl; (with_reducible rfl); apply LW.v0; rfl; rfl; apply ValP.move; rfl; apply LW.guardT'; rfl; rfl; (with_reducible rfl); apply LW.v0; rfl; rfl; apply ValP.boolEqT; rfl; rfl; (with_reducible rfl); apply LW.v0; rfl; rfl; apply ValP.pickT'; rfl; (with_reducible rfl); rfl; apply LW.v0; rfl; rfl; apply ValP.move; rfl; apply LW.guardT'; rfl; rfl; (with_reducible rfl); apply LW.v0; rfl; rfl; apply ValP.move; rfl; apply LW.guardT'; rfl; rfl; (with_reducible rfl); apply LW.v0; rfl; rfl; apply ValP.move; rfl; apply LW.guardF'; rfl; rfl; simp only [Bool.not_true, Bool.not_false]; rfl; apply LW.guardF'; rfl; rfl; simp only [Bool.not_true, Bool.not_false]; rfl; apply LW.guardT'; rfl; rfl; (with_reducible rfl); apply LW.v0; rfl; rfl; apply ValP.pickT'; rfl; (with_reducible rfl); rfl; apply LW.v0; rfl; rfl; apply ValP.pickT'; rfl; (with_reducible rfl); rfl; apply LW.v0; rfl; rfl; apply ValP.assign; rfl; apply LW.nil; refine thenN ?_; refine CW.ret ?_)
        (apply finR; exact .inl rfl; rfl; rfl; rfl; apply ResL.cons; exact Res.tmp rfl; exact ResL.nil)
        rfl
end Go.Proofs.YtbhicncgjplnoaaDoor
