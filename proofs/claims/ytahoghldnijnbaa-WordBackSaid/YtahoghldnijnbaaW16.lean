/-
  The document's answer in bits: products.
  Conditions: none.
-/
import Derived.Test.YtahoghldnijnbaaW15
namespace Go.Proofs.Ytahoghldnijnbaa
open Go Go.RowKit SL
set_option maxRecDepth 8000
set_option maxHeartbeats 4000000
set_option linter.unusedSimpArgs false
set_option linter.unusedVariables false
attribute [local irreducible] SL.CW SL.LW SL.DW Calls SL.Ret SL.RetG SL.beginQ SL.roundQ SL.rangeQ SL.inQ SL.RW SL.AnyW SL.thenQ SL.thenC SL.thenW SL.blkQ SL.finQ SL.ValP SL.NewP SL.SetP SL.CallP SL.Rd SL.Wr SL.Known
theorem anyFrom_calls (x m f : Nat) (hx : x < 2 ^ m) (hm : m < 1000) (hf : f < 1000) (v : Value) (w : World) (hv : RowAt w 1 v m (ics (bl x m))) : Calls Try.prog 65 #[v, .int .i64 (f : Int)] w (Ret w (.bool (decide (2 ^ f ≤ x)))) := by
  obtain ⟨p, c, rfl, hc, hmx⟩ := hv.form
  refine enter (args := [_, _]) _ [] [] Try.func65 rfl Try.ntmps65 rfl (by simp) .nil ?_
  (refine CW.seq ?_; refine CW.region ?_; apply LW.v0; rfl; rfl; apply ValP.assign; rfl; apply LW.nil; refine thenN ?_; refine CW.seq ?_; refine CW.seq ?_; refine CW.region ?_; apply LW.v0; rfl; rfl; apply ValP.move; rfl; apply LW.v0; rfl; rfl; apply ValP.lenR; rfl; infer_instance; rfl; apply LW.v0; rfl; rfl; apply ValP.move; rfl; apply LW.nil; refine thenN ?_; refine CW.block ?_)
  refine CW.loop (fun k : Nat => ([(9, .int .i64 (k : Int)), (8, .int .i64 (m : Int)), (7, .slice p m c), (4, .bool false), (1, .int .i64 (f : Int))], []))
    (fun k => k ≤ m ∧ x % 2 ^ k < 2 ^ f) (fun k => m - k) 0 ⟨Nat.zero_le _, by rw [Nat.pow_zero, Nat.mod_one]; exact pow_pos2 f⟩ ⟨rfl, rfl, rfl, rfl, rfl, trivial⟩ (List.Sublist.refl _) ?_
  rintro k ⟨hk, hlow⟩
  dsimp only at hk ⊢
  rcases Nat.lt_or_ge k m with hlt | hge
  · obtain ⟨ba, oa, _, csa, Ea, fra, ea, hba, hxa⟩ := hv.pos (by omega)
    cases ea
    have hra : Rd Try.prog 3 (.cells csa Ea fra) (oa + k * 1) (.int .i64 ((x / 2 ^ k % 2 : Nat) : Int)) := Rd.elem1 hxa (ics_len _) (bl_get x m k hlt) rfl
    have hstep : x % 2 ^ (k + 1) = x % 2 ^ k + 2 ^ k * (x / 2 ^ k % 2) := Nat.mod_pow_succ
    rcases Nat.mod_two_eq_zero_or_one (x / 2 ^ k) with hb | hb
    · rw [hb] at hra
      have hl2 : x % 2 ^ (k + 1) < 2 ^ f := by rw [hstep, hb]; omega
      rcases Nat.lt_or_ge k f with h | h
      · (refine CW.seq ?_; refine CW.region ?_; apply LW.v0; rfl; rfl; apply ValP.lssT; rfl; rfl; omega; apply LW.nil; refine thenN ?_; refine CW.seq ?_; apply CW.condT; rfl; (with_reducible rfl); refine CW.skip ?_; refine thenN ?_; refine CW.seq ?_; refine CW.block ?_; refine CW.seq ?_; refine CW.region ?_; apply LW.v0; rfl; rfl; apply ValP.move; rfl; apply LW.v0; rfl; rfl; apply ValP.indexAddrS; rfl; rfl; rfl; omega; apply LW.load; rfl; rfl; exact Known.ext (by assumption) (by simp); assumption; apply LW.v0; rfl; rfl; apply ValP.assign; rfl; apply LW.v0; rfl; rfl; apply ValP.assign; rfl; apply LW.nil; refine thenN ?_; refine CW.seq ?_; refine CW.region ?_; apply LW.v0; rfl; rfl; apply ValP.move; rfl; apply LW.v0; rfl; rfl; apply ValP.move; rfl; apply LW.v0; rfl; rfl; apply ValP.geqF; rfl; rfl; omega; apply LW.v0; rfl; rfl; apply ValP.move; rfl; apply LW.guardF'; rfl; rfl; simp only [Bool.not_true, Bool.not_false]; rfl; apply LW.guardF'; rfl; rfl; simp only [Bool.not_true, Bool.not_false]; rfl; apply LW.v0; rfl; rfl; apply ValP.pickF'; rfl; (with_reducible rfl); rfl; apply LW.nil; refine thenN ?_; apply CW.condF; rfl; (with_reducible rfl); refine CW.skip ?_; refine blkN ?_; refine thenN ?_; refine CW.region ?_; apply LW.v0; rfl; rfl; apply ValP.addZL; rfl; rfl; decide; omega; apply LW.v0; rfl; rfl; apply ValP.move; rfl; apply LW.nil)
        apply thenX
        exact ⟨rfl, k + 1, ⟨hlt, hl2⟩, by omega, ⟨rfl, rfl, rfl, rfl, rfl, trivial⟩, List.Sublist.refl _⟩
      · (refine CW.seq ?_; refine CW.region ?_; apply LW.v0; rfl; rfl; apply ValP.lssT; rfl; rfl; omega; apply LW.nil; refine thenN ?_; refine CW.seq ?_; apply CW.condT; rfl; (with_reducible rfl); refine CW.skip ?_; refine thenN ?_; refine CW.seq ?_; refine CW.block ?_; refine CW.seq ?_; refine CW.region ?_; apply LW.v0; rfl; rfl; apply ValP.move; rfl; apply LW.v0; rfl; rfl; apply ValP.indexAddrS; rfl; rfl; rfl; omega; apply LW.load; rfl; rfl; exact Known.ext (by assumption) (by simp); assumption; apply LW.v0; rfl; rfl; apply ValP.assign; rfl; apply LW.v0; rfl; rfl; apply ValP.assign; rfl; apply LW.nil; refine thenN ?_; refine CW.seq ?_; refine CW.region ?_; apply LW.v0; rfl; rfl; apply ValP.move; rfl; apply LW.v0; rfl; rfl; apply ValP.move; rfl; apply LW.v0; rfl; rfl; apply ValP.geqT; rfl; rfl; omega; apply LW.v0; rfl; rfl; apply ValP.move; rfl; apply LW.guardT'; rfl; rfl; (with_reducible rfl); apply LW.v0; rfl; rfl; apply ValP.move; rfl; apply LW.guardT'; rfl; rfl; (with_reducible rfl); apply LW.v0; rfl; rfl; apply ValP.eqF; rfl; rfl; omega; apply LW.v0; rfl; rfl; apply ValP.pickT'; rfl; (with_reducible rfl); rfl; apply LW.nil; refine thenN ?_; apply CW.condF; rfl; (with_reducible rfl); refine CW.skip ?_; refine blkN ?_; refine thenN ?_; refine CW.region ?_; apply LW.v0; rfl; rfl; apply ValP.addZL; rfl; rfl; decide; omega; apply LW.v0; rfl; rfl; apply ValP.move; rfl; apply LW.nil)
        apply thenX
        exact ⟨rfl, k + 1, ⟨hlt, hl2⟩, by omega, ⟨rfl, rfl, rfl, rfl, rfl, trivial⟩, List.Sublist.refl _⟩
    · rw [hb] at hra
      rcases Nat.lt_or_ge k f with h | h
      · have hl2 : x % 2 ^ (k + 1) < 2 ^ f := Nat.lt_of_lt_of_le (Nat.mod_lt _ (pow_pos2 _)) (Nat.pow_le_pow_right (n := 2) (by decide) h)
        (refine CW.seq ?_; refine CW.region ?_; apply LW.v0; rfl; rfl; apply ValP.lssT; rfl; rfl; omega; apply LW.nil; refine thenN ?_; refine CW.seq ?_; apply CW.condT; rfl; (with_reducible rfl); refine CW.skip ?_; refine thenN ?_; refine CW.seq ?_; refine CW.block ?_; refine CW.seq ?_; refine CW.region ?_; apply LW.v0; rfl; rfl; apply ValP.move; rfl; apply LW.v0; rfl; rfl; apply ValP.indexAddrS; rfl; rfl; rfl; omega; apply LW.load; rfl; rfl; exact Known.ext (by assumption) (by simp); assumption; apply LW.v0; rfl; rfl; apply ValP.assign; rfl; apply LW.v0; rfl; rfl; apply ValP.assign; rfl; apply LW.nil; refine thenN ?_; refine CW.seq ?_; refine CW.region ?_; apply LW.v0; rfl; rfl; apply ValP.move; rfl; apply LW.v0; rfl; rfl; apply ValP.move; rfl; apply LW.v0; rfl; rfl; apply ValP.geqF; rfl; rfl; omega; apply LW.v0; rfl; rfl; apply ValP.move; rfl; apply LW.guardF'; rfl; rfl; simp only [Bool.not_true, Bool.not_false]; rfl; apply LW.guardF'; rfl; rfl; simp only [Bool.not_true, Bool.not_false]; rfl; apply LW.v0; rfl; rfl; apply ValP.pickF'; rfl; (with_reducible rfl); rfl; apply LW.nil; refine thenN ?_; apply CW.condF; rfl; (with_reducible rfl); refine CW.skip ?_; refine blkN ?_; refine thenN ?_; refine CW.region ?_; apply LW.v0; rfl; rfl; apply ValP.addZL; rfl; rfl; decide; omega; apply LW.v0; rfl; rfl; apply ValP.move; rfl; apply LW.nil)
        apply thenX
        exact ⟨rfl, k + 1, ⟨hlt, hl2⟩, by omega, ⟨rfl, rfl, rfl, rfl, rfl, trivial⟩, List.Sublist.refl _⟩
      · have hge2 : 2 ^ f ≤ x := by
          rcases Nat.lt_or_ge x (2 ^ k) with h1 | h1
          · rw [Nat.div_eq_of_lt h1] at hb; cases hb
          · exact Nat.le_trans (Nat.pow_le_pow_right (n := 2) (by decide) h) h1
        (refine CW.seq ?_; refine CW.region ?_; apply LW.v0; rfl; rfl; apply ValP.lssT; rfl; rfl; omega; apply LW.nil; refine thenN ?_; refine CW.seq ?_; apply CW.condT; rfl; (with_reducible rfl); refine CW.skip ?_; refine thenN ?_; refine CW.seq ?_; refine CW.block ?_; refine CW.seq ?_; refine CW.region ?_; apply LW.v0; rfl; rfl; apply ValP.move; rfl; apply LW.v0; rfl; rfl; apply ValP.indexAddrS; rfl; rfl; rfl; omega; apply LW.load; rfl; rfl; exact Known.ext (by assumption) (by simp); assumption; apply LW.v0; rfl; rfl; apply ValP.assign; rfl; apply LW.v0; rfl; rfl; apply ValP.assign; rfl; apply LW.nil; refine thenN ?_; refine CW.seq ?_; refine CW.region ?_; apply LW.v0; rfl; rfl; apply ValP.move; rfl; apply LW.v0; rfl; rfl; apply ValP.move; rfl; apply LW.v0; rfl; rfl; apply ValP.geqT; rfl; rfl; omega; apply LW.v0; rfl; rfl; apply ValP.move; rfl; apply LW.guardT'; rfl; rfl; (with_reducible rfl); apply LW.v0; rfl; rfl; apply ValP.move; rfl; apply LW.guardT'; rfl; rfl; (with_reducible rfl); apply LW.v0; rfl; rfl; apply ValP.eqT; rfl; rfl; omega; apply LW.v0; rfl; rfl; apply ValP.pickT'; rfl; (with_reducible rfl); rfl; apply LW.nil; refine thenN ?_; apply CW.condT; rfl; (with_reducible rfl); refine CW.seq ?_; refine CW.region ?_; apply LW.v0; rfl; rfl; apply ValP.assign; rfl; apply LW.nil; refine thenN ?_; refine CW.ret ?_; refine blkR ?_; refine thenR ?_; refine thenR ?_; refine blkR ?_; refine thenR ?_)
        (apply finR; exact .inl rfl; rfl; rfl; rfl; apply ResL.cons; exact Res.tmp rfl; exact ResL.nil)
        rw [decide_eq_true hge2]; rfl
  · obtain rfl : k = m := by omega
    rw [Nat.mod_eq_of_lt hx] at hlow
    (refine CW.seq ?_; refine CW.region ?_; apply LW.v0; rfl; rfl; apply ValP.lssF; rfl; rfl; omega; apply LW.nil; refine thenN ?_; refine CW.seq ?_; apply CW.condF; rfl; (with_reducible rfl); refine CW.exit ?_; refine thenE ?_; refine thenE ?_; refine blkE rfl ?_; refine thenN ?_; refine CW.seq ?_; refine CW.region ?_; apply LW.v0; rfl; rfl; apply ValP.assign; rfl; apply LW.nil; refine thenN ?_; refine CW.ret ?_)
    (apply finR; exact .inl rfl; rfl; rfl; rfl; apply ResL.cons; exact Res.tmp rfl; exact ResL.nil)
    rw [decide_eq_false (Nat.not_le.2 hlow)]; rfl
theorem bl_shift (a k : Nat) : List.replicate k 0 ++ bl a 256 = bl (a * 2 ^ k) (k + 256) := by
  apply List.ext_getElem?
  intro i
  rcases Nat.lt_or_ge i k with h | h
  · rw [List.getElem?_append_left (by simpa using h), List.getElem?_replicate, if_pos h, bl_get _ _ _ (by omega)]
    obtain ⟨j, rfl⟩ : ∃ j, k = i + 1 + j := ⟨k - i - 1, by omega⟩
    rw [Nat.pow_add, Nat.pow_succ, Nat.mul_comm (2 ^ i) 2, Nat.mul_assoc 2, ← Nat.mul_assoc, Nat.mul_comm a 2, Nat.mul_assoc, Nat.mul_left_comm a, ← Nat.mul_assoc, Nat.mul_comm 2 (2 ^ i), Nat.mul_assoc, Nat.mul_div_cancel_left _ (pow_pos2 i), Nat.mul_mod_right]
  · rw [List.getElem?_append_right (by simpa using h), List.length_replicate]
    rcases Nat.lt_or_ge i (k + 256) with h2 | h2
    · rw [bl_get _ _ _ (by omega), bl_get _ _ _ h2]
      obtain ⟨j, rfl⟩ : ∃ j, i = k + j := ⟨i - k, by omega⟩
      rw [show k + j - k = j by omega, Nat.pow_add, Nat.mul_comm a, Nat.mul_div_mul_left _ _ (pow_pos2 k)]
    · rw [List.getElem?_eq_none (by rw [bl_len]; omega), List.getElem?_eq_none (by rw [bl_len]; exact h2)]
theorem bl_high (x j : Nat) (h : x < 2 ^ j) : x / 2 ^ j % 2 = 0 := by rw [Nat.div_eq_of_lt h]
theorem pow_le2 {i j : Nat} (h : i ≤ j) : 2 ^ i ≤ 2 ^ j := Nat.pow_le_pow_right (by decide) h
theorem lt_more {x i n : Nat} (h : x < 2 ^ i) (hn : i ≤ n) : x < 2 ^ n := Nat.lt_of_lt_of_le h (pow_le2 hn)
theorem mul_lt_pow {x y i j n : Nat} (hx : x < 2 ^ i) (hy : y < 2 ^ j) (h : i + j ≤ n) : x * y < 2 ^ n := lt_more (by rw [Nat.pow_add]; exact Nat.mul_lt_mul'' hx hy) h
theorem bl_take (x m k : Nat) (h : k ≤ m) : (bl x m).take k = bl x k := by
  apply List.ext_getElem?
  intro i
  rw [List.getElem?_take]
  split
  · rename_i hi
    rw [bl_get _ _ _ hi, bl_get _ _ _ (by omega)]
  · rw [List.getElem?_eq_none (by rw [bl_len]; omega)]
theorem rMul_calls (a b : Nat) (ha : a < M256) (hb : b < M256) (w : World) : Calls Try.prog 35 #[wv a, wv b] w (Ret w (.tuple #[wv (a * b % M256), .bool (decide (M256 ≤ a * b))])) := by
  refine enter (args := [_, _]) _ [] [] Try.func35 rfl Try.ntmps35 rfl (by simp) .nil ?_
  (refine CW.seq ?_; refine CW.region ?_; apply LW.boxA; rfl; rfl; intro _; apply LW.boxA; rfl; rfl; intro _; apply LW.allocW; rfl; intro _; apply LW.v0; rfl; rfl; apply ValP.assign; rfl; apply LW.nil; refine thenN ?_; refine CW.seq ?_; refine CW.region ?_)
  apply LW.makeRow
  rfl
  infer_instance
  infer_instance
  infer_instance
  rfl
  rfl
  decide
  (simp [maxLen])
  intro va ga hra
  obtain ⟨pa, ca, rfl⟩ := hra.form
  (apply LW.v0; rfl; rfl; apply ValP.assign; rfl; apply LW.nil; refine thenN ?_; refine CW.seq ?_; refine CW.region ?_; apply LW.load; rfl; rfl; apply Known.at; apply FsAt.app; apply FsAt.tail; apply FsAt.tail; apply FsAt.head; exact Rd.whole rfl)
  (apply LW.callR; rfl; rfl; infer_instance; apply ArgsOk.cons; rfl; apply ArgsOk.cons; rfl; exact ArgsOk.nil; intro w hs)
  exact bits_calls _ _ (by assumption) (by decide) w
  intro vo go hro
  replace hro : IsRow 3 1 vo 256 (ics (bl a 256)) go := hro
  obtain ⟨po, co, rfl⟩ := hro.form
  (apply LW.v0; rfl; rfl; apply ValP.assign; rfl; apply LW.nil; refine thenN ?_; refine CW.seq ?_; refine CW.seq ?_; refine CW.region ?_; apply LW.v0; rfl; rfl; apply ValP.move; rfl; apply LW.nil; refine thenN ?_; refine CW.block ?_)
  rename_i ba bb bc
  refine CW.perm (List.perm_append_comm_assoc ga go _) ?_
  refine CW.loop (fun x : RC => ([(13, .int .i64 (x.m : Int)), (7, .slice po 256 co), (6, x.v), (5, .bool false), (4, .pointer (some ⟨bc, 0, none⟩)), (3, .pointer (some ⟨bb, 0, none⟩)), (2, .pointer (some ⟨ba, 0, none⟩))],
      x.seg ++ (go ++ [(bc, .cells (wc 0) 24 (0, 0)), (bb, .cells (wc b) 24 (0, 0)), (ba, .cells (wc a) 24 (0, 0))])))
    (fun x => x.m ≤ 256 ∧ IsRow 3 1 x.v 513 (ics (bl (a * (b % 2 ^ x.m)) 513)) x.seg) (fun x => 256 - x.m) ⟨0, .slice pa 513 ca, ga⟩ ⟨Nat.zero_le _, ?_⟩ ⟨rfl, rfl, rfl, rfl, rfl, rfl, rfl, trivial⟩ (by (exact List.Sublist.refl _)) ?_
  · rw [Nat.pow_zero, Nat.mod_one, Nat.mul_zero, show bl 0 513 = List.replicate 513 0 from by simp [bl, List.map_const'], ← ics_zero]
    exact hra
  rintro ⟨k, v, seg⟩ ⟨hk, hrow⟩
  dsimp only at hk hrow ⊢
  obtain ⟨p, c, rfl⟩ := hrow.form
  have hstep : b % 2 ^ (k + 1) = b % 2 ^ k + 2 ^ k * (b / 2 ^ k % 2) := Nat.mod_pow_succ
  rcases Nat.lt_or_ge k 256 with hlt | hge
  · rcases Nat.mod_two_eq_zero_or_one (b / 2 ^ k) with hbit | hbit
    · (refine CW.seq ?_; refine CW.region ?_; apply LW.v0; rfl; rfl; apply ValP.lssT; rfl; rfl; omega; apply LW.nil; refine thenN ?_; refine CW.seq ?_; apply CW.condT; rfl; (with_reducible rfl); refine CW.skip ?_; refine thenN ?_; refine CW.seq ?_; refine CW.block ?_; refine CW.seq ?_; refine CW.region ?_; apply LW.v0; rfl; rfl; apply ValP.move; rfl; apply LW.v0; rfl; rfl; apply ValP.assign; rfl; apply LW.nil; refine thenN ?_; refine CW.seq ?_; refine CW.seq ?_; refine CW.region ?_; apply LW.load; rfl; rfl; apply Known.at; apply FsAt.app; apply FsAt.app; apply FsAt.tail; apply FsAt.head; exact Rd.whole rfl; apply LW.v0; rfl; rfl; apply ValP.move; rfl; apply LW.callE; rfl; rfl; infer_instance; apply ArgsOk.cons; rfl; apply ArgsOk.cons; rfl; exact ArgsOk.nil; intro w _; refine Bit_calls _ _ ?_ ?_ w; assumption; omega; apply LW.v0; rfl; rfl; apply ValP.eqT; rfl; rfl; omega; apply LW.nil; refine thenN ?_; apply CW.condT; rfl; (with_reducible rfl); refine CW.exit ?_; refine thenE ?_; refine blkE rfl ?_; refine thenN ?_; refine CW.region ?_; apply LW.v0; rfl; rfl; apply ValP.addZL; rfl; rfl; decide; omega; apply LW.v0; rfl; rfl; apply ValP.move; rfl; apply LW.nil)
      apply thenX
      exact ⟨rfl, ⟨k + 1, _, seg⟩, ⟨hlt, by rw [hstep, hbit, Nat.mul_zero, Nat.add_zero]; exact hrow⟩, by show 256 - (k + 1) < 256 - k; omega, ⟨rfl, rfl, rfl, rfl, rfl, rfl, rfl, trivial⟩, List.Sublist.refl _⟩
    · have ha2 : a < 2 ^ 256 := ha
      have hb2 : b % 2 ^ k < 2 ^ k := Nat.mod_lt _ (pow_pos2 k)
      have hy : a * 2 ^ k < 2 ^ (k + 256) := by rw [Nat.add_comm, Nat.pow_add]; exact Nat.mul_lt_mul_of_pos_right ha2 (pow_pos2 k)
      have hy513 := lt_more (n := 513) hy (by omega)
      have hx513 : a * (b % 2 ^ k) < 2 ^ 513 := Nat.lt_of_le_of_lt (Nat.mul_le_mul_left a (Nat.le_of_lt hb2)) hy513
      have hsum : a * (b % 2 ^ k) + a * 2 ^ k = a * (b % 2 ^ (k + 1)) := by rw [hstep, hbit, Nat.mul_one, Nat.mul_add]
      (refine CW.seq ?_; refine CW.region ?_; apply LW.v0; rfl; rfl; apply ValP.lssT; rfl; rfl; omega; apply LW.nil; refine thenN ?_; refine CW.seq ?_; apply CW.condT; rfl; (with_reducible rfl); refine CW.skip ?_; refine thenN ?_; refine CW.seq ?_; refine CW.block ?_; refine CW.seq ?_; refine CW.region ?_; apply LW.v0; rfl; rfl; apply ValP.move; rfl; apply LW.v0; rfl; rfl; apply ValP.assign; rfl; apply LW.nil; refine thenN ?_; refine CW.seq ?_; refine CW.seq ?_; refine CW.region ?_; apply LW.load; rfl; rfl; apply Known.at; apply FsAt.app; apply FsAt.app; apply FsAt.tail; apply FsAt.head; exact Rd.whole rfl; apply LW.v0; rfl; rfl; apply ValP.move; rfl; apply LW.callE; rfl; rfl; infer_instance; apply ArgsOk.cons; rfl; apply ArgsOk.cons; rfl; exact ArgsOk.nil; intro w _; refine Bit_calls _ _ ?_ ?_ w; assumption; omega; apply LW.v0; rfl; rfl; apply ValP.eqF; rfl; rfl; omega; apply LW.nil; refine thenN ?_; apply CW.condF; rfl; (with_reducible rfl); refine CW.skip ?_; refine thenN ?_; refine CW.seq ?_; refine CW.region ?_; apply LW.v0; rfl; rfl; apply ValP.move; rfl)
      apply LW.makeRow
      rfl
      infer_instance
      infer_instance
      infer_instance
      rfl
      rfl
      omega
      (simp only [maxLen]; omega)
      intro vm gm hrm
      obtain ⟨pm, cm, rfl⟩ := hrm.form
      (apply LW.v0; rfl; rfl; apply ValP.move; rfl)
      refine LW.appendAt rfl rfl inferInstance inferInstance inferInstance rfl rfl rfl (by (exact AtSeg.head)) hrm (fun w hs => hro.atSeg (by (apply AtSeg.app; apply AtSeg.app; exact AtSeg.head)) hs) (ics_cells _) (by decide) (by simp only [maxLen]; omega) (by omega) ?_
      intro v2 g2 hr2
      rw [ics_zero, ← ics_app, bl_shift] at hr2
      obtain ⟨p2, c2, rfl⟩ := hr2.form
      refine ⟨_, (by (exact AtSeg.head)), ?_⟩
      try simp only [List.nil_append]
      (apply LW.v0; rfl; rfl; apply ValP.assign; rfl; apply LW.nil; refine thenN ?_; refine CW.seq ?_; refine CW.block ?_)
      refine CW.loop (fun x : RC => ([(9, x.v), (13, .int .i64 (k : Int)), (7, .slice po 256 co), (6, .slice p 513 c), (5, .bool false), (4, .pointer (some ⟨bc, 0, none⟩)), (3, .pointer (some ⟨bb, 0, none⟩)), (2, .pointer (some ⟨ba, 0, none⟩))],
          x.seg ++ (seg ++ (go ++ [(bc, .cells (wc 0) 24 (0, 0)), (bb, .cells (wc b) 24 (0, 0)), (ba, .cells (wc a) 24 (0, 0))]))))
        (fun x => k + 256 ≤ x.m ∧ x.m ≤ 513 ∧ IsRow 3 1 x.v x.m (ics (bl (a * 2 ^ k) x.m)) x.seg) (fun x => 513 - x.m) ⟨k + 256, .slice p2 (k + 256) c2, g2⟩ ⟨Nat.le_refl _, by show k + 256 ≤ 513; omega, hr2⟩ ⟨rfl, rfl, rfl, rfl, rfl, rfl, rfl, rfl, trivial⟩ (by (exact List.Sublist.refl _)) ?_
      rintro ⟨j, vj, sj⟩ ⟨hj1, hj2, hrj⟩
      dsimp only at hj1 hj2 hrj ⊢
      obtain ⟨pj, cj, rfl⟩ := hrj.form
      rcases Nat.lt_or_ge j 513 with hjl | hjg
      · have hz : (a * 2 ^ k) / 2 ^ j % 2 = 0 := bl_high _ _ (Nat.lt_of_lt_of_le hy (Nat.pow_le_pow_right (n := 2) (by decide) hj1))
        (refine CW.seq ?_; refine CW.seq ?_; refine CW.region ?_; apply LW.v0; rfl; rfl; apply ValP.move; rfl; apply LW.v0; rfl; rfl; apply ValP.lenR; rfl; infer_instance; rfl; apply LW.v0; rfl; rfl; apply ValP.lssT; rfl; rfl; omega; apply LW.nil; refine thenN ?_; apply CW.condT; rfl; (with_reducible rfl); refine CW.skip ?_; refine thenN ?_; refine CW.block ?_; refine CW.region ?_; apply LW.v0; rfl; rfl; apply ValP.move; rfl; apply LW.lay1; rfl; infer_instance; infer_instance; rfl; rfl; rfl; rfl; rfl; rfl; intro _)
        (apply LW.append; rfl; rfl; infer_instance; infer_instance; infer_instance; rfl; rfl; rfl; (case hrow => assumption); apply AtSeg.cons; exact AtSeg.head; apply Known.at; apply FsAt.head; rfl; rfl; rfl; omega; simp only [maxLen]; omega; omega; intro v' seg' hrow'; obtain ⟨p', c', rfl⟩ := hrow'.form; (refine ⟨_, (by (repeat (first | exact AtSeg.head | apply AtSeg.cons | apply AtSeg.app))), ?_⟩); (try simp only [List.cons_append, List.nil_append]))
        (apply LW.v0; rfl; rfl; apply ValP.assign; rfl; apply LW.nil; refine blkN ?_)
        apply thenX
        exact ⟨rfl, ⟨j + 1, _, seg'⟩, ⟨by show k + 256 ≤ j + 1; omega, hjl, by rw [bl_succ, ics_app, hz]; exact hrow'⟩, by show 513 - (j + 1) < 513 - j; omega, ⟨rfl, rfl, rfl, rfl, rfl, rfl, rfl, rfl, trivial⟩, by (apply List.Sublist.cons; exact List.Sublist.refl _)⟩
      · obtain rfl : j = 513 := by omega
        (refine CW.seq ?_; refine CW.seq ?_; refine CW.region ?_; apply LW.v0; rfl; rfl; apply ValP.move; rfl; apply LW.v0; rfl; rfl; apply ValP.lenR; rfl; infer_instance; rfl; apply LW.v0; rfl; rfl; apply ValP.lssF; rfl; rfl; omega; apply LW.nil; refine thenN ?_; apply CW.condF; rfl; (with_reducible rfl); refine CW.exit ?_; refine thenE ?_; refine thenE ?_; refine blkE rfl ?_; refine thenN ?_; refine CW.region ?_; apply LW.v0; rfl; rfl; apply ValP.move; rfl; apply LW.v0; rfl; rfl; apply ValP.move; rfl)
        (apply LW.callR; rfl; rfl; infer_instance; apply ArgsOk.cons; rfl; apply ArgsOk.cons; rfl; exact ArgsOk.nil; intro w hs)
        exact add_calls _ _ 513 hx513 hy513 (by decide) _ _ w (hrow.atSeg (by (apply AtSeg.app; exact AtSeg.head)) hs) (hrj.atSeg (by (exact AtSeg.head)) hs)
        intro vs gs hrs
        obtain ⟨ps, cs, rfl⟩ := hrs.form
        have hcs : 514 ≤ cs := by cases hrs with | own h _ _ _ _ => exact h
        have hrs2 := hrs.take (k := 513) (by decide)
        rw [ics_take, bl_take _ _ _ (by decide), hsum] at hrs2
        (apply LW.v0; rfl; rfl; apply ValP.cutToL; infer_instance; infer_instance; rfl; rfl; decide; omega; apply LW.v0; rfl; rfl; apply ValP.assign; rfl; apply LW.nil; refine blkN ?_; refine thenN ?_; refine CW.region ?_; apply LW.v0; rfl; rfl; apply ValP.addZL; rfl; rfl; decide; omega; apply LW.v0; rfl; rfl; apply ValP.move; rfl; apply LW.nil)
        apply thenX
        exact ⟨rfl, ⟨k + 1, _, gs⟩, ⟨hlt, hrs2⟩, by show 256 - (k + 1) < 256 - k; omega, ⟨rfl, rfl, rfl, rfl, rfl, rfl, rfl, trivial⟩, by (apply List.Sublist.append_left; apply List.sublist_append_of_sublist_right; apply List.sublist_append_of_sublist_right; exact List.Sublist.refl _)⟩
  · obtain rfl : k = 256 := by omega
    have hbb : b % 2 ^ 256 = b := Nat.mod_eq_of_lt hb
    rw [hbb] at hrow
    have hP := mul_lt_pow (n := 513) (show a < 2 ^ 256 from ha) (show b < 2 ^ 256 from hb) (by decide)
    (refine CW.seq ?_; refine CW.region ?_; apply LW.v0; rfl; rfl; apply ValP.lssF; rfl; rfl; omega; apply LW.nil; refine thenN ?_; refine CW.seq ?_; apply CW.condF; rfl; (with_reducible rfl); refine CW.exit ?_; refine thenE ?_; refine thenE ?_; refine blkE rfl ?_; refine thenN ?_; refine CW.seq ?_; refine CW.region ?_; apply LW.v0; rfl; rfl; apply ValP.move; rfl)
    apply LW.callE
    rfl
    rfl
    infer_instance
    (apply ArgsOk.cons; rfl; exact ArgsOk.nil)
    · intro w hs
      exact of_calls (a * b) 513 (by decide) _ w (hrow.atSeg (by (exact AtSeg.head)) hs)
    (apply LW.v0; rfl; rfl; apply ValP.move; rfl)
    apply LW.callE
    rfl
    rfl
    infer_instance
    (apply ArgsOk.cons; rfl; apply ArgsOk.cons; rfl; exact ArgsOk.nil)
    · intro w hs
      exact anyFrom_calls (a * b) 513 256 hP (by decide) (by decide) _ w (hrow.atSeg (by (exact AtSeg.head)) hs)
    (apply LW.store; rfl; rfl; apply SetAt.app; apply SetAt.app; apply SetAt.head; apply Wr.whole; rfl; rfl; rfl; apply LW.v0; rfl; rfl; apply ValP.assign; rfl; apply LW.nil; refine thenN ?_; refine CW.ret ?_)
    (apply finR; exact .inl rfl; rfl; rfl; rfl; apply ResL.cons; apply Res.cell; rfl; apply Known.at; apply FsAt.app; apply FsAt.app; apply FsAt.head; exact Rd.whole rfl; apply ResL.cons; exact Res.tmp rfl; exact ResL.nil)
    rfl
end Go.Proofs.Ytahoghldnijnbaa
