/-
  The document's answer in bits: sums, and the word of bits.
  Conditions: none.
-/
import Derived.Test.YtahoghldnijnbaaW10
namespace Go.Proofs.Ytahoghldnijnbaa
open Go Go.RowKit SL
set_option maxRecDepth 8000
set_option maxHeartbeats 4000000
set_option linter.unusedSimpArgs false
set_option linter.unusedVariables false
attribute [local irreducible] SL.CW SL.LW SL.DW Calls SL.Ret SL.RetG SL.beginQ SL.roundQ SL.rangeQ SL.inQ SL.RW SL.AnyW SL.thenQ SL.thenC SL.thenW SL.blkQ SL.finQ SL.ValP SL.NewP SL.SetP SL.CallP SL.Rd SL.Wr SL.Known
theorem pow_pos2 (k : Nat) : 0 < 2 ^ k := Nat.pow_pos (by decide)
theorem bl_mod (x m : Nat) : bl x m = bl (x % 2 ^ m) m := by
  apply List.ext_getElem?
  intro i
  rcases Nat.lt_or_ge i m with h | h
  · rw [bl_get _ _ _ h, bl_get _ _ _ h]
    obtain ⟨j, rfl⟩ : ∃ j, m = i + (j + 1) := ⟨m - i - 1, by omega⟩
    rw [Nat.pow_add, Nat.mod_mul_right_div_self, Nat.pow_succ, Nat.mod_mod_of_dvd _ ⟨2 ^ j, by rw [Nat.mul_comm]⟩]
  · rw [List.getElem?_eq_none (by rw [bl_len]; exact h), List.getElem?_eq_none (by rw [bl_len]; exact h)]
/-- What is carried behind k bits. -/
def car (x y k : Nat) : Nat := (x % 2 ^ k + y % 2 ^ k) / 2 ^ k
theorem car_lt (x y k : Nat) : car x y k < 2 := by
  have h1 := Nat.mod_lt x (pow_pos2 k); have h2 := Nat.mod_lt y (pow_pos2 k)
  exact Nat.div_lt_of_lt_mul (by omega)
theorem car_succ (x y k : Nat) : car x y (k + 1) = (x / 2 ^ k % 2 + y / 2 ^ k % 2 + car x y k) / 2 := by
  unfold car
  rw [Nat.mod_pow_succ, Nat.mod_pow_succ, show x % 2 ^ k + 2 ^ k * (x / 2 ^ k % 2) + (y % 2 ^ k + 2 ^ k * (y / 2 ^ k % 2)) = x % 2 ^ k + y % 2 ^ k + 2 ^ k * (x / 2 ^ k % 2 + y / 2 ^ k % 2) by rw [Nat.mul_add]; omega,
    Nat.pow_succ, ← Nat.div_div_eq_div_mul, Nat.add_mul_div_left _ _ (pow_pos2 k), Nat.add_comm]
theorem sum_bit (x y k : Nat) : (x + y) / 2 ^ k = x / 2 ^ k + y / 2 ^ k + car x y k := by
  have h1 := Nat.div_add_mod x (2 ^ k); have h2 := Nat.div_add_mod y (2 ^ k)
  unfold car
  conv => lhs; rw [← h1, ← h2, show 2 ^ k * (x / 2 ^ k) + x % 2 ^ k + (2 ^ k * (y / 2 ^ k) + y % 2 ^ k) = x % 2 ^ k + y % 2 ^ k + 2 ^ k * (x / 2 ^ k + y / 2 ^ k) by rw [Nat.mul_add]; omega]
  rw [Nat.add_mul_div_left _ _ (pow_pos2 k), Nat.add_comm]
structure RC where
  m : Nat
  v : Value
  seg : Fs
theorem add_calls (x y m : Nat) (hx : x < 2 ^ m) (hy : y < 2 ^ m) (hm : m < 1000) (va vb : Value) (w : World) (h1 : RowAt w 1 va m (ics (bl x m))) (h2 : RowAt w 1 vb m (ics (bl y m))) :
    Calls Try.prog 59 #[va, vb] w (RetG w [] fun v gs => IsRow 3 1 v (m + 1) (ics (bl (x + y) (m + 1))) gs) := by
  obtain ⟨p1, c1, rfl, hc1, hm1⟩ := h1.form
  obtain ⟨p2, c2, rfl, hc2, hm2⟩ := h2.form
  refine enter (args := [_, _]) _ [] [] Try.func59 rfl Try.ntmps59 rfl (by simp) .nil ?_
  (refine CW.seq ?_; refine CW.region ?_; apply LW.v0; rfl; rfl; apply ValP.assign; rfl; apply LW.nil; refine thenN ?_; refine CW.seq ?_; refine CW.region ?_; apply LW.v0; rfl; rfl; apply ValP.assign; rfl; apply LW.nil; refine thenN ?_; refine CW.seq ?_; refine CW.region ?_; apply LW.v0; rfl; rfl; apply ValP.assign; rfl; apply LW.nil; refine thenN ?_; refine CW.seq ?_; refine CW.seq ?_; refine CW.region ?_; apply LW.v0; rfl; rfl; apply ValP.move; rfl; apply LW.v0; rfl; rfl; apply ValP.lenR; rfl; infer_instance; rfl; apply LW.v0; rfl; rfl; apply ValP.move; rfl; apply LW.nil; refine thenN ?_; refine CW.block ?_)
  refine CW.loop (fun z : RC => ([(11, .int .i64 (z.m : Int)), (10, .int .i64 (m : Int)), (6, .int .i64 (car x y z.m : Int)), (5, z.v), (0, .slice p1 m c1), (1, .slice p2 m c2)], z.seg ++ []))
    (fun z => z.m ≤ m ∧ IsRow 3 1 z.v z.m (ics (bl (x + y) z.m)) z.seg) (fun z => m - z.m) ⟨0, .slice none 0 0, []⟩ ⟨Nat.zero_le _, .nil⟩ ⟨rfl, rfl, by rw [show car x y 0 = 0 by simp [car, Nat.mod_one]]; rfl, rfl, rfl, rfl, trivial⟩ (List.Sublist.refl _) ?_
  rintro ⟨k, v, seg⟩ ⟨hk, hrow⟩
  dsimp only at hk hrow ⊢
  obtain ⟨p, c, rfl⟩ := hrow.form
  have hcar := car_lt x y k
  rcases Nat.lt_or_ge k m with hlt | hge
  · obtain ⟨ba, oa, _, csa, Ea, fra, ea, hba, hxa⟩ := h1.pos (by omega)
    obtain ⟨bb, ob, _, csb, Eb, frb, eb, hbb, hxb⟩ := h2.pos (by omega)
    cases ea
    cases eb
    have hra : Rd Try.prog 3 (.cells csa Ea fra) (oa + k * 1) (.int .i64 ((x / 2 ^ k % 2 : Nat) : Int)) := Rd.elem1 hxa (ics_len _) (bl_get x m k hlt) rfl
    have hrb : Rd Try.prog 3 (.cells csb Eb frb) (ob + k * 1) (.int .i64 ((y / 2 ^ k % 2 : Nat) : Int)) := Rd.elem1 hxb (ics_len _) (bl_get y m k hlt) rfl
    have hd : (x / 2 ^ k % 2 + y / 2 ^ k % 2 + car x y k) % 2 = (x + y) / 2 ^ k % 2 := by rw [sum_bit]; omega
    (refine CW.seq ?_; refine CW.region ?_; apply LW.v0; rfl; rfl; apply ValP.lssT; rfl; rfl; omega; apply LW.nil; refine thenN ?_; refine CW.seq ?_; apply CW.condT; rfl; (with_reducible rfl); refine CW.skip ?_; refine thenN ?_; refine CW.seq ?_; refine CW.block ?_; refine CW.seq ?_; refine CW.region ?_; apply LW.v0; rfl; rfl; apply ValP.move; rfl; apply LW.v0; rfl; rfl; apply ValP.assign; rfl; apply LW.nil; refine thenN ?_; refine CW.seq ?_; apply CW.pre; refine AnyW.any 10 mixed (by decide +kernel) ?_; (try simp only [tsOf_cons, tsOf_nil, tsOf_app]); apply DW.v0; rfl; rfl; rfl; exact WantT.none; rfl; apply ValP.move; rfl; apply DW.v0; rfl; rfl; rfl; exact WantT.none; rfl; apply ValP.move; rfl; apply DW.v0; rfl; rfl; rfl; exact WantT.none; rfl; apply ValP.indexAddrS; rfl; rfl; rfl; omega; apply DW.loadX; rfl; rfl; rfl; exact WantT.none; rfl; assumption; simp; assumption; apply DW.v0; rfl; rfl; rfl; exact WantT.none; rfl; apply ValP.move; rfl; apply DW.v0; rfl; rfl; rfl; exact WantT.none; rfl; apply ValP.move; rfl; apply DW.v0; rfl; rfl; rfl; exact WantT.none; rfl; apply ValP.indexAddrS; rfl; rfl; rfl; omega; apply DW.loadX; rfl; rfl; rfl; exact WantT.none; rfl; assumption; simp; assumption; apply DW.v0; rfl; rfl; rfl; exact WantT.none; rfl; apply ValP.addZ; rfl; rfl; omega; apply DW.v0; rfl; rfl; rfl; exact WantT.none; rfl; apply ValP.move; rfl; apply DW.nil; simp only [fsOf_cons, fsOf_nil, fsOf_app, fsOf_tsOf, fsOf_new]; apply LW.v0; rfl; rfl; apply ValP.addZ; rfl; rfl; omega; apply LW.v0; rfl; rfl; apply ValP.assign; rfl; apply LW.nil; refine thenN ?_; refine CW.seq ?_; refine CW.region ?_; apply LW.v0; rfl; rfl; apply ValP.move; rfl; apply LW.v0; rfl; rfl; apply ValP.move; rfl; apply LW.v0; rfl; rfl; apply ValP.remZL; rfl; rfl; decide; omega; apply LW.lay1; rfl; infer_instance; infer_instance; rfl; rfl; rfl; rfl; rfl; rfl; intro _)
    (apply LW.append; (case hrow => assumption); rfl; rfl; infer_instance; infer_instance; infer_instance; rfl; rfl; rfl; apply AtSeg.cons; exact AtSeg.head; apply Known.at; apply FsAt.head; rfl; rfl; rfl; omega; simp only [maxLen]; omega; omega; intro v' seg' hrow'; obtain ⟨p', c', rfl⟩ := hrow'.form; (refine ⟨_, (by (repeat (first | exact AtSeg.head | apply AtSeg.cons | apply AtSeg.app))), ?_⟩); (try simp only [List.cons_append, List.nil_append]))
    (apply LW.v0; rfl; rfl; apply ValP.assign; rfl; apply LW.nil; refine thenN ?_; refine CW.region ?_; apply LW.v0; rfl; rfl; apply ValP.move; rfl; apply LW.v0; rfl; rfl; apply ValP.quoZL; rfl; rfl; decide; omega; omega; apply LW.v0; rfl; rfl; apply ValP.assign; rfl; apply LW.nil; refine blkN ?_; refine thenN ?_; refine CW.region ?_; apply LW.v0; rfl; rfl; apply ValP.addZL; rfl; rfl; decide; omega; apply LW.v0; rfl; rfl; apply ValP.move; rfl; apply LW.nil)
    apply thenX
    rw [hd] at hrow'
    refine ⟨rfl, ⟨k + 1, _, seg'⟩, ⟨hlt, by rw [bl_succ, ics_app]; exact hrow'⟩, by show m - (k + 1) < m - k; omega, ⟨rfl, rfl, ?_, rfl, rfl, rfl, trivial⟩, by (apply List.Sublist.cons; exact List.Sublist.refl _)⟩
    rw [car_succ]; rfl
  · obtain rfl : k = m := by omega
    have hd : car x y k = (x + y) / 2 ^ k % 2 := by
      rw [sum_bit, Nat.div_eq_of_lt hx, Nat.div_eq_of_lt hy]; omega
    (refine CW.seq ?_; refine CW.region ?_; apply LW.v0; rfl; rfl; apply ValP.lssF; rfl; rfl; omega; apply LW.nil; refine thenN ?_; refine CW.seq ?_; apply CW.condF; rfl; (with_reducible rfl); refine CW.exit ?_; refine thenE ?_; refine thenE ?_; refine blkE rfl ?_; refine thenN ?_; refine CW.seq ?_; refine CW.region ?_; apply LW.v0; rfl; rfl; apply ValP.move; rfl; apply LW.v0; rfl; rfl; apply ValP.move; rfl; apply LW.lay1; rfl; infer_instance; infer_instance; rfl; rfl; rfl; rfl; rfl; rfl; intro _)
    (apply LW.append; (case hrow => assumption); rfl; rfl; infer_instance; infer_instance; infer_instance; rfl; rfl; rfl; apply AtSeg.cons; exact AtSeg.head; apply Known.at; apply FsAt.head; rfl; rfl; rfl; omega; simp only [maxLen]; omega; omega; intro v' seg' hrow'; obtain ⟨p', c', rfl⟩ := hrow'.form; (refine ⟨_, (by (repeat (first | exact AtSeg.head | apply AtSeg.cons | apply AtSeg.app))), ?_⟩); (try simp only [List.cons_append, List.nil_append]))
    (apply LW.drop; exact List.Sublist.cons _ (List.Sublist.refl _))
    (apply LW.v0; rfl; rfl; apply ValP.assign; rfl; apply LW.nil; refine thenN ?_; refine CW.ret ?_)
    rw [hd] at hrow'
    apply finM seg'; (exact .inl rfl); (exact Shut.nil); rfl; (apply ResL.cons; exact Res.tmp rfl; exact ResL.nil); exact List.sublist_append_left _ _
    rw [bl_succ, ics_app]; exact hrow'
theorem limb_or (x k : Nat) (hk : k < 256) : (x % 2 ^ k) / 2 ^ (64 * (k / 64)) % 18446744073709551616 < 2 ^ (k % 64) := by
  have h : x % 2 ^ k < 2 ^ (64 * (k / 64)) * 2 ^ (k % 64) := by rw [← Nat.pow_add, show 64 * (k / 64) + k % 64 = k by omega]; exact Nat.mod_lt _ (pow_pos2 k)
  exact Nat.lt_of_le_of_lt (Nat.mod_le _ _) (Nat.div_lt_of_lt_mul h)
theorem or_add (L P r : Nat) (hP : P = 2 ^ r) (hL : L < P) (hr : r < 64) : (L ||| 1 * 2 ^ r % 18446744073709551616) = L + P := by
  subst hP
  have h64 : 2 ^ r < 18446744073709551616 := Nat.lt_of_le_of_lt (Nat.pow_le_pow_right (n := 2) (by decide) (show r ≤ 63 by omega)) (by decide)
  rw [Nat.one_mul, Nat.mod_eq_of_lt h64, Nat.or_comm, Nat.add_comm]
  have := Nat.two_pow_add_eq_or_of_lt hL 1
  rw [Nat.mul_one] at this
  exact this.symm
theorem wc_setbit (n k : Nat) (hk : k < 256) (hn : n < 2 ^ k) : ((wc n).toList.set (k / 64) (.int .u64 ((n / 2 ^ (64 * (k / 64)) % 18446744073709551616 ||| 1 * 2 ^ (k % 64) % 18446744073709551616 : Nat) : Int))).toArray = wc (n + 2 ^ k) := by
  obtain ⟨r, hr⟩ : ∃ r, r = k % 64 := ⟨_, rfl⟩
  obtain ⟨P, hP⟩ : ∃ P, P = 2 ^ r := ⟨_, rfl⟩
  have hr64 : r < 64 := by omega
  have hP63 : P ≤ 9223372036854775808 := by rw [hP]; exact Nat.le_trans (Nat.pow_le_pow_right (n := 2) (by decide) (show r ≤ 63 by omega)) (by decide)
  have h2k : 2 ^ k = 2 ^ (64 * (k / 64)) * P := by rw [hP, hr, ← Nat.pow_add, show 64 * (k / 64) + k % 64 = k by omega]
  have hlt : n / 2 ^ (64 * (k / 64)) < P := Nat.div_lt_of_lt_mul (by rw [← h2k]; exact hn)
  have hL : n / 2 ^ (64 * (k / 64)) % 18446744073709551616 < P := Nat.lt_of_le_of_lt (Nat.mod_le _ _) hlt
  rw [← hr, or_add _ P r hP hL hr64]
  rw [h2k] at hn ⊢
  rcases (show k / 64 = 0 ∨ k / 64 = 1 ∨ k / 64 = 2 ∨ k / 64 = 3 by omega) with q | q | q | q <;> rw [q] at hlt hL hn ⊢ <;> simp only [wc, List.set_cons_zero, List.set_cons_succ, Nat.mul_zero, Nat.pow_zero, Nat.div_one, Nat.mul_one, Nat.one_mul, Nat.reduceMul, Nat.reducePow] at hlt hL hn ⊢
  · exact wc_val (by omega) (by omega) (by omega) (by omega) (by omega)
  · exact wc_val (by omega) (by omega) (by omega) (by omega) (by omega)
  · exact wc_val (by omega) (by omega) (by omega) (by omega) (by omega)
  · exact wc_val (by omega) (by omega) (by omega) (by omega) (by omega)
theorem of_calls (x m : Nat) (hm : m < 1000) (v : Value) (w : World) (hv : RowAt w 1 v m (ics (bl x m))) : Calls Try.prog 61 #[v] w (Ret w (wv (x % 2 ^ min m 256))) := by
  obtain ⟨p, c, rfl, hc, hmx⟩ := hv.form
  refine enter (args := [_]) _ [] [] Try.func61 rfl Try.ntmps61 rfl (by simp) .nil ?_
  (refine CW.seq ?_; refine CW.region ?_; apply LW.allocW; rfl; intro _; apply LW.nil; refine thenN ?_; refine CW.seq ?_; refine CW.region ?_; apply LW.allocW; rfl; intro _; apply LW.nil; refine thenN ?_; refine CW.seq ?_; refine CW.seq ?_; refine CW.region ?_; apply LW.v0; rfl; rfl; apply ValP.move; rfl; apply LW.v0; rfl; rfl; apply ValP.lenR; rfl; infer_instance; rfl; apply LW.v0; rfl; rfl; apply ValP.move; rfl; apply LW.nil; refine thenN ?_; refine CW.block ?_)
  rename_i b1 b0
  refine CW.loop (fun k : Nat => ([(8, .int .i64 (k : Int)), (7, .int .i64 (m : Int)), (6, .slice p m c), (3, .pointer (some ⟨b0, 0, none⟩)), (2, .pointer (some ⟨b1, 0, none⟩))],
    [(b0, .cells (wc (x % 2 ^ min k 256)) 24 (0, 0)), (b1, .cells (wc 0) 24 (0, 0))]))
    (fun k => k ≤ m) (fun k => m - k) 0 (Nat.zero_le _) ⟨rfl, rfl, rfl, rfl, rfl, trivial⟩ (by simp [Nat.mod_one]) ?_
  intro k hk
  dsimp only at hk ⊢
  rcases Nat.lt_or_ge k m with hlt | hge
  · obtain ⟨ba, oa, _, csa, Ea, fra, ea, hba, hxa⟩ := hv.pos (by omega)
    cases ea
    have hra : Rd Try.prog 3 (.cells csa Ea fra) (oa + k * 1) (.int .i64 ((x / 2 ^ k % 2 : Nat) : Int)) := Rd.elem1 hxa (ics_len _) (bl_get x m k hlt) rfl
    rcases Nat.lt_or_ge k 256 with h | h
    · rcases Nat.mod_two_eq_zero_or_one (x / 2 ^ k) with hb | hb
      · (refine CW.seq ?_; refine CW.region ?_; apply LW.v0; rfl; rfl; apply ValP.lssT; rfl; rfl; omega; apply LW.nil; refine thenN ?_; refine CW.seq ?_; apply CW.condT; rfl; (with_reducible rfl); refine CW.skip ?_; refine thenN ?_; refine CW.seq ?_; refine CW.block ?_; refine CW.seq ?_; refine CW.region ?_; apply LW.v0; rfl; rfl; apply ValP.move; rfl; apply LW.v0; rfl; rfl; apply ValP.indexAddrS; rfl; rfl; rfl; omega; apply LW.load; rfl; rfl; exact Known.ext (by assumption) (by simp); assumption; apply LW.v0; rfl; rfl; apply ValP.assign; rfl; apply LW.v0; rfl; rfl; apply ValP.assign; rfl; apply LW.nil; refine thenN ?_; refine CW.seq ?_; refine CW.region ?_; apply LW.v0; rfl; rfl; apply ValP.move; rfl; apply LW.v0; rfl; rfl; apply ValP.lssT; rfl; rfl; omega; apply LW.v0; rfl; rfl; apply ValP.move; rfl; apply LW.guardT'; rfl; rfl; (with_reducible rfl); apply LW.v0; rfl; rfl; apply ValP.move; rfl; apply LW.guardT'; rfl; rfl; (with_reducible rfl); apply LW.v0; rfl; rfl; apply ValP.eqF; rfl; rfl; omega; apply LW.v0; rfl; rfl; apply ValP.pickT'; rfl; (with_reducible rfl); rfl; apply LW.nil; refine thenN ?_; apply CW.condF; rfl; (with_reducible rfl); refine CW.skip ?_; refine blkN ?_; refine thenN ?_; refine CW.region ?_; apply LW.v0; rfl; rfl; apply ValP.addZL; rfl; rfl; decide; omega; apply LW.v0; rfl; rfl; apply ValP.move; rfl; apply LW.nil)
        apply thenX
        refine ⟨rfl, k + 1, hlt, by omega, ⟨rfl, rfl, rfl, rfl, rfl, trivial⟩, ?_⟩
        rw [Nat.min_eq_left h, Nat.mod_pow_succ, hb, Nat.mul_zero, Nat.add_zero, Nat.min_eq_left (Nat.le_of_lt h)]
        (exact List.Sublist.refl _)
      · have hW := wc_setbit (x % 2 ^ k) k h (Nat.mod_lt _ (pow_pos2 k))
        rw [Nat.min_eq_left (Nat.le_of_lt h)]
        (refine CW.seq ?_; refine CW.region ?_; apply LW.v0; rfl; rfl; apply ValP.lssT; rfl; rfl; omega; apply LW.nil; refine thenN ?_; refine CW.seq ?_; apply CW.condT; rfl; (with_reducible rfl); refine CW.skip ?_; refine thenN ?_; refine CW.seq ?_; refine CW.block ?_; refine CW.seq ?_; refine CW.region ?_; apply LW.v0; rfl; rfl; apply ValP.move; rfl; apply LW.v0; rfl; rfl; apply ValP.indexAddrS; rfl; rfl; rfl; omega; apply LW.load; rfl; rfl; exact Known.ext (by assumption) (by simp); assumption; apply LW.v0; rfl; rfl; apply ValP.assign; rfl; apply LW.v0; rfl; rfl; apply ValP.assign; rfl; apply LW.nil; refine thenN ?_; refine CW.seq ?_; refine CW.region ?_; apply LW.v0; rfl; rfl; apply ValP.move; rfl; apply LW.v0; rfl; rfl; apply ValP.lssT; rfl; rfl; omega; apply LW.v0; rfl; rfl; apply ValP.move; rfl; apply LW.guardT'; rfl; rfl; (with_reducible rfl); apply LW.v0; rfl; rfl; apply ValP.move; rfl; apply LW.guardT'; rfl; rfl; (with_reducible rfl); apply LW.v0; rfl; rfl; apply ValP.eqT; rfl; rfl; omega; apply LW.v0; rfl; rfl; apply ValP.pickT'; rfl; (with_reducible rfl); rfl; apply LW.nil; refine thenN ?_; apply CW.condT; rfl; (with_reducible rfl); apply CW.pre; refine AnyW.any 7 mixed (by decide +kernel) ?_; (try simp only [tsOf_cons, tsOf_nil, tsOf_app]); apply DW.v0; rfl; rfl; rfl; exact WantT.none; rfl; apply ValP.move; rfl; apply DW.v0; rfl; rfl; rfl; exact WantT.none; rfl; apply ValP.quoZL; rfl; rfl; decide; omega; omega; apply DW.v0; rfl; rfl; rfl; exact WantT.none; rfl; apply ValP.indexAddrA; rfl; rfl; rfl; omega; apply DW.loadO; rfl; rfl; rfl; exact WantT.none; rfl; apply TRead.head; exact ancB_nil; apply Rd.one'; apply nth_wc; omega; apply DW.v0; rfl; rfl; rfl; exact WantT.none; rfl; apply ValP.move; rfl; apply DW.v0; rfl; rfl; rfl; exact WantT.none; rfl; apply ValP.remZL; rfl; rfl; decide; omega; apply DW.v0; rfl; rfl; rfl; exact WantT.none; rfl; apply ValP.shlU; rfl; rfl; omega; apply DW.nil; simp only [fsOf_cons, fsOf_nil, fsOf_app, fsOf_tsOf, fsOf_new]; apply LW.v0; rfl; rfl; apply ValP.orU; rfl; rfl; omega; omega; apply LW.v0; rfl; rfl; apply ValP.indexAddrA; rfl; rfl; rfl; omega; apply LW.store; rfl; rfl; apply SetAt.head; apply Wr.cells; rfl; rfl; simp only [wc, List.size_toArray, List.length_cons, List.length_nil]; omega; simp only [fillC, wc, wrCells, Value.cells, List.toList_toArray, List.setIfInBounds_toArray, List.set_cons_succ, List.set_cons_zero, Nat.reduceAdd, Nat.reduceMul, Nat.zero_add, Nat.mul_one]; rfl; apply LW.nil; refine blkN ?_; refine thenN ?_; refine CW.region ?_; apply LW.v0; rfl; rfl; apply ValP.addZL; rfl; rfl; decide; omega; apply LW.v0; rfl; rfl; apply ValP.move; rfl; apply LW.nil)
        apply thenX
        refine ⟨rfl, k + 1, hlt, by omega, ⟨rfl, rfl, rfl, rfl, rfl, trivial⟩, ?_⟩
        rw [Nat.min_eq_left h, Nat.mod_pow_succ, hb, Nat.mul_one, ← hW]
        exact List.Sublist.refl _
    · (refine CW.seq ?_; refine CW.region ?_; apply LW.v0; rfl; rfl; apply ValP.lssT; rfl; rfl; omega; apply LW.nil; refine thenN ?_; refine CW.seq ?_; apply CW.condT; rfl; (with_reducible rfl); refine CW.skip ?_; refine thenN ?_; refine CW.seq ?_; refine CW.block ?_; refine CW.seq ?_; refine CW.region ?_; apply LW.v0; rfl; rfl; apply ValP.move; rfl; apply LW.v0; rfl; rfl; apply ValP.indexAddrS; rfl; rfl; rfl; omega; apply LW.load; rfl; rfl; exact Known.ext (by assumption) (by simp); assumption; apply LW.v0; rfl; rfl; apply ValP.assign; rfl; apply LW.v0; rfl; rfl; apply ValP.assign; rfl; apply LW.nil; refine thenN ?_; refine CW.seq ?_; refine CW.region ?_; apply LW.v0; rfl; rfl; apply ValP.move; rfl; apply LW.v0; rfl; rfl; apply ValP.lssF; rfl; rfl; omega; apply LW.v0; rfl; rfl; apply ValP.move; rfl; apply LW.guardF'; rfl; rfl; simp only [Bool.not_true, Bool.not_false]; rfl; apply LW.guardF'; rfl; rfl; simp only [Bool.not_true, Bool.not_false]; rfl; apply LW.v0; rfl; rfl; apply ValP.pickF'; rfl; (with_reducible rfl); rfl; apply LW.nil; refine thenN ?_; apply CW.condF; rfl; (with_reducible rfl); refine CW.skip ?_; refine blkN ?_; refine thenN ?_; refine CW.region ?_; apply LW.v0; rfl; rfl; apply ValP.addZL; rfl; rfl; decide; omega; apply LW.v0; rfl; rfl; apply ValP.move; rfl; apply LW.nil)
      apply thenX
      refine ⟨rfl, k + 1, hlt, by omega, ⟨rfl, rfl, rfl, rfl, rfl, trivial⟩, ?_⟩
      rw [Nat.min_eq_right (Nat.le_succ_of_le h), Nat.min_eq_right h]
      (exact List.Sublist.refl _)
  · obtain rfl : k = m := by omega
    (refine CW.seq ?_; refine CW.region ?_; apply LW.v0; rfl; rfl; apply ValP.lssF; rfl; rfl; omega; apply LW.nil; refine thenN ?_; refine CW.seq ?_; apply CW.condF; rfl; (with_reducible rfl); refine CW.exit ?_; refine thenE ?_; refine thenE ?_; refine blkE rfl ?_; refine thenN ?_; refine CW.seq ?_; refine CW.region ?_; apply LW.load; rfl; rfl; apply Known.at; apply FsAt.head; exact Rd.whole rfl; apply LW.store; rfl; rfl; apply SetAt.tail; apply SetAt.head; apply Wr.whole; rfl; rfl; rfl; apply LW.nil; refine thenN ?_; refine CW.ret ?_)
    (apply finR; exact .inl rfl; rfl; rfl; rfl; apply ResL.cons; apply Res.cell; rfl; apply Known.at; apply FsAt.tail; apply FsAt.head; exact Rd.whole rfl; exact ResL.nil)
    rfl
end Go.Proofs.Ytahoghldnijnbaa
