/-
  Texts that were built apart, put behind one another (3 of 6): W10 W11 W12 W13 W14 W15 W16 W17 W18 W19 W20 W22 W23 W26 P0 P1 P2 P3 P4 P5 P6.
  Conditions: none.
-/
import Derived.Test.YtobkhnmglbfheaaZ2
import Derived.Lib.Mul64
/-
  The document's answer in bits: contracts.
  Conditions: none.
-/
namespace Go.Proofs.Ytobkhnmglbfheaa
open Go Go.RowKit SL
set_option maxRecDepth 8000
set_option maxHeartbeats 4000000
set_option linter.unusedSimpArgs false
set_option linter.unusedVariables false
attribute [local irreducible] SL.CW SL.LW SL.DW Calls SL.Ret SL.RetG SL.beginQ SL.roundQ SL.rangeQ SL.inQ SL.RW SL.AnyW SL.thenQ SL.thenC SL.thenW SL.blkQ SL.finQ SL.ValP SL.NewP SL.SetP SL.CallP SL.Rd SL.Wr SL.Known
theorem Bit_calls (a n : Nat) (ha : a < M256) (hn : n < 9223372036854775808) (w : World) : Calls Try.prog 63 #[wv a, .int .i64 (n : Int)] w (Ret w (.int .i64 ((a / 2 ^ n % 2 : Nat) : Int))) := by
  refine enter (args := [_, _]) _ [] [] Try.func63 rfl Try.ntmps63 rfl (by simp) .nil ?_
  rcases Nat.lt_or_ge n 256 with h | h
  · have hX : a / 2 ^ (64 * (0 + n / 64 * 1)) % 18446744073709551616 / 2 ^ (n % 64) &&& 1 = a / 2 ^ n % 2 := by rw [show 0 + n / 64 * 1 = n / 64 by omega]; exact bit_and a n h
    (refine CW.seq ?_; refine CW.region ?_; apply LW.boxA; rfl; rfl; intro _; apply LW.v0; rfl; rfl; apply ValP.assign; rfl; apply LW.nil; refine thenN ?_; refine CW.seq ?_; refine CW.seq ?_; refine CW.region ?_; apply LW.v0; rfl; rfl; apply ValP.move; rfl; apply LW.v0; rfl; rfl; apply ValP.lssF; rfl; rfl; omega; apply LW.v0; rfl; rfl; apply ValP.move; rfl; apply LW.guardT'; rfl; rfl; (with_reducible rfl); apply LW.v0; rfl; rfl; apply ValP.move; rfl; apply LW.guardT'; rfl; rfl; (with_reducible rfl); apply LW.v0; rfl; rfl; apply ValP.gtrF; rfl; rfl; omega; apply LW.v0; rfl; rfl; apply ValP.pickF'; rfl; (with_reducible rfl); rfl; apply LW.nil; refine thenN ?_; apply CW.condF; rfl; (with_reducible rfl); refine CW.skip ?_; refine thenN ?_; refine CW.seq ?_; refine CW.region ?_; apply LW.v0; rfl; rfl; apply ValP.move; rfl; apply LW.v0; rfl; rfl; apply ValP.quoZL; rfl; rfl; decide; omega; omega; apply LW.v0; rfl; rfl; apply ValP.indexAddrA; rfl; rfl; rfl; omega; apply LW.load; rfl; rfl; apply Known.at; apply FsAt.head; apply Rd.one'; apply nth_wc; omega; apply LW.v0; rfl; rfl; apply ValP.move; rfl; apply LW.v0; rfl; rfl; apply ValP.remZL; rfl; rfl; decide; omega; apply LW.v0; rfl; rfl; apply ValP.shrU; rfl; rfl; omega; apply LW.v0; rfl; rfl; apply ValP.andUL; rfl; rfl; decide; apply div64; omega; omega; apply LW.v0; rfl; rfl; apply ValP.convI; rfl; omega; omega; apply LW.v0; rfl; rfl; apply ValP.assign; rfl; apply LW.nil; refine thenN ?_; refine CW.ret ?_)
    (apply finR; exact .inl rfl; rfl; rfl; rfl; apply ResL.cons; exact Res.tmp rfl; exact ResL.nil)
    rw [hX]; rfl
  · have h0 : a / 2 ^ n % 2 = 0 := by
      rw [Nat.div_eq_of_lt]
      exact Nat.lt_of_lt_of_le ha (Nat.pow_le_pow_right (n := 2) (by decide) h)
    (refine CW.seq ?_; refine CW.region ?_; apply LW.boxA; rfl; rfl; intro _; apply LW.v0; rfl; rfl; apply ValP.assign; rfl; apply LW.nil; refine thenN ?_; refine CW.seq ?_; refine CW.seq ?_; refine CW.region ?_; apply LW.v0; rfl; rfl; apply ValP.move; rfl; apply LW.v0; rfl; rfl; apply ValP.lssF; rfl; rfl; omega; apply LW.v0; rfl; rfl; apply ValP.move; rfl; apply LW.guardT'; rfl; rfl; (with_reducible rfl); apply LW.v0; rfl; rfl; apply ValP.move; rfl; apply LW.guardT'; rfl; rfl; (with_reducible rfl); apply LW.v0; rfl; rfl; apply ValP.gtrT; rfl; rfl; omega; apply LW.v0; rfl; rfl; apply ValP.pickF'; rfl; (with_reducible rfl); rfl; apply LW.nil; refine thenN ?_; apply CW.condT; rfl; (with_reducible rfl); refine CW.seq ?_; refine CW.region ?_; apply LW.v0; rfl; rfl; apply ValP.assign; rfl; apply LW.nil; refine thenN ?_; refine CW.ret ?_; refine thenR ?_)
    (apply finR; exact .inl rfl; rfl; rfl; rfl; apply ResL.cons; exact Res.tmp rfl; exact ResL.nil)
    rw [h0]; rfl
/-- The bits of a number, so many of them. -/
def bl (a m : Nat) : List Nat := (List.range m).map fun n => a / 2 ^ n % 2
theorem bl_len (a m : Nat) : (bl a m).length = m := by simp [bl]
theorem bl_succ (a m : Nat) : bl a (m + 1) = bl a m ++ [a / 2 ^ m % 2] := by simp [bl, List.range_succ]
theorem bl_get (a m i : Nat) (h : i < m) : (bl a m)[i]? = some (a / 2 ^ i % 2) := by simp [bl, h]
structure RX where
  m : Nat
  v : Value
  seg : Fs
theorem bits_calls (a m : Nat) (ha : a < M256) (hm : m < 1000) (w : World) : Calls Try.prog 65 #[wv a, .int .i64 (m : Int)] w (RetG w [] fun v gs => IsRow 3 1 v m (ics (bl a m)) gs) := by
  refine enter (args := [_, _]) _ [] [] Try.func65 rfl Try.ntmps65 rfl (by simp) .nil ?_
  (refine CW.seq ?_; refine CW.region ?_; apply LW.boxA; rfl; rfl; intro _; apply LW.v0; rfl; rfl; apply ValP.assign; rfl; apply LW.nil; refine thenN ?_; refine CW.seq ?_; refine CW.region ?_; apply LW.v0; rfl; rfl; apply ValP.assign; rfl; apply LW.nil; refine thenN ?_; refine CW.seq ?_; refine CW.seq ?_; refine CW.region ?_; apply LW.v0; rfl; rfl; apply ValP.move; rfl; apply LW.v0; rfl; rfl; apply ValP.move; rfl; apply LW.nil; refine thenN ?_; refine CW.block ?_)
  rename_i b
  refine CW.loop (fun x : RX => ([(8, .int .i64 (x.m : Int)), (7, .int .i64 (m : Int)), (5, x.v), (2, .pointer (some ⟨b, 0, none⟩))], x.seg ++ [(b, .cells (wc a) 28 (0, 0))]))
    (fun x => x.m ≤ m ∧ IsRow 3 1 x.v x.m (ics (bl a x.m)) x.seg) (fun x => m - x.m) ⟨0, .slice none 0 0, []⟩ ⟨Nat.zero_le _, .nil⟩ ⟨rfl, rfl, rfl, rfl, trivial⟩ (List.Sublist.refl _) ?_
  rintro ⟨k, v, seg⟩ ⟨hk, hrow⟩
  dsimp only at hk hrow ⊢
  obtain ⟨p, c, rfl⟩ := hrow.form
  rcases Nat.lt_or_ge k m with hlt | hge
  · (refine CW.seq ?_; refine CW.region ?_; apply LW.v0; rfl; rfl; apply ValP.lssT; rfl; rfl; omega; apply LW.nil; refine thenN ?_; refine CW.seq ?_; apply CW.condT; rfl; (with_reducible rfl); refine CW.skip ?_; refine thenN ?_; refine CW.seq ?_; refine CW.block ?_; refine CW.seq ?_; refine CW.region ?_; apply LW.v0; rfl; rfl; apply ValP.move; rfl; apply LW.v0; rfl; rfl; apply ValP.assign; rfl; apply LW.nil; refine thenN ?_; refine CW.region ?_; apply LW.v0; rfl; rfl; apply ValP.move; rfl; apply LW.load; rfl; rfl; apply Known.at; apply FsAt.app; apply FsAt.head; exact Rd.whole rfl; apply LW.v0; rfl; rfl; apply ValP.move; rfl; apply LW.callE; rfl; rfl; infer_instance; apply ArgsOk.cons; rfl; apply ArgsOk.cons; rfl; exact ArgsOk.nil; intro w _; refine Bit_calls _ _ ?_ ?_ w; assumption; omega; apply LW.lay1; rfl; infer_instance; infer_instance; rfl; rfl; rfl; rfl; rfl; rfl; intro _)
    (apply LW.append; (case hrow => assumption); rfl; rfl; infer_instance; infer_instance; infer_instance; rfl; rfl; rfl; apply AtSeg.cons; exact AtSeg.head; apply Known.at; apply FsAt.head; rfl; rfl; rfl; omega; simp only [maxLen]; omega; omega; intro v' seg' hrow'; obtain ⟨p', c', rfl⟩ := hrow'.form; (refine ⟨_, (by (repeat (first | exact AtSeg.head | apply AtSeg.cons | apply AtSeg.app))), ?_⟩); (try simp only [List.cons_append, List.nil_append]))
    (apply LW.v0; rfl; rfl; apply ValP.assign; rfl; apply LW.nil; refine blkN ?_; refine thenN ?_; refine CW.region ?_; apply LW.v0; rfl; rfl; apply ValP.addZL; rfl; rfl; decide; omega; apply LW.v0; rfl; rfl; apply ValP.move; rfl; apply LW.nil)
    apply thenX
    exact ⟨rfl, ⟨k + 1, _, seg'⟩, ⟨hlt, by rw [bl_succ, ics_app]; exact hrow'⟩, by show m - (k + 1) < m - k; omega, ⟨rfl, rfl, rfl, rfl, trivial⟩, by (apply List.Sublist.cons; exact List.Sublist.refl _)⟩
  · obtain rfl : k = m := by omega
    (refine CW.seq ?_; refine CW.region ?_; apply LW.v0; rfl; rfl; apply ValP.lssF; rfl; rfl; omega; apply LW.nil; refine thenN ?_; refine CW.seq ?_; apply CW.condF; rfl; (with_reducible rfl); refine CW.exit ?_; refine thenE ?_; refine thenE ?_; refine blkE rfl ?_; refine thenN ?_; refine CW.seq ?_; refine CW.region ?_; apply LW.v0; rfl; rfl; apply ValP.move; rfl; apply LW.v0; rfl; rfl; apply ValP.assign; rfl; apply LW.nil; refine thenN ?_; refine CW.ret ?_)
    (apply finM seg; exact .inl rfl; exact Shut.nil; rfl; apply ResL.cons; exact Res.tmp rfl; exact ResL.nil; exact List.sublist_append_left _ _)
    exact hrow
end Go.Proofs.Ytobkhnmglbfheaa

/-
  The document's answer in bits: sums, and the word of bits.
  Conditions: none.
-/
namespace Go.Proofs.Ytobkhnmglbfheaa
open Go Go.RowKit SL
set_option maxRecDepth 8000
set_option maxHeartbeats 4000000
set_option linter.unusedSimpArgs false
set_option linter.unusedVariables false
attribute [local irreducible] SL.CW SL.LW SL.DW Calls SL.Ret SL.RetG SL.beginQ SL.roundQ SL.rangeQ SL.inQ SL.RW SL.AnyW SL.thenQ SL.thenC SL.thenW SL.blkQ SL.finQ SL.ValP SL.NewP SL.SetP SL.CallP SL.Rd SL.Wr SL.Known
theorem pow_pos2 (k : Nat) : 0 < 2 ^ k := Nat.pow_pos (by decide)
theorem bl_mod (x m : Nat) : bl x m = bl (x % 2 ^ m) m := by
  apply List.ext_getElem?
  intro i
  rcases Nat.lt_or_ge i m with h | h
  · rw [bl_get _ _ _ h, bl_get _ _ _ h]
    obtain ⟨j, rfl⟩ : ∃ j, m = i + (j + 1) := ⟨m - i - 1, by omega⟩
    rw [Nat.pow_add, Nat.mod_mul_right_div_self, Nat.pow_succ, Nat.mod_mod_of_dvd _ ⟨2 ^ j, by rw [Nat.mul_comm]⟩]
  · rw [List.getElem?_eq_none (by rw [bl_len]; exact h), List.getElem?_eq_none (by rw [bl_len]; exact h)]
/-- What is carried behind k bits. -/
def car (x y k : Nat) : Nat := (x % 2 ^ k + y % 2 ^ k) / 2 ^ k
theorem car_lt (x y k : Nat) : car x y k < 2 := by
  have h1 := Nat.mod_lt x (pow_pos2 k); have h2 := Nat.mod_lt y (pow_pos2 k)
  exact Nat.div_lt_of_lt_mul (by omega)
theorem car_succ (x y k : Nat) : car x y (k + 1) = (x / 2 ^ k % 2 + y / 2 ^ k % 2 + car x y k) / 2 := by
  unfold car
  rw [Nat.mod_pow_succ, Nat.mod_pow_succ, show x % 2 ^ k + 2 ^ k * (x / 2 ^ k % 2) + (y % 2 ^ k + 2 ^ k * (y / 2 ^ k % 2)) = x % 2 ^ k + y % 2 ^ k + 2 ^ k * (x / 2 ^ k % 2 + y / 2 ^ k % 2) by rw [Nat.mul_add]; omega,
    Nat.pow_succ, ← Nat.div_div_eq_div_mul, Nat.add_mul_div_left _ _ (pow_pos2 k), Nat.add_comm]
theorem sum_bit (x y k : Nat) : (x + y) / 2 ^ k = x / 2 ^ k + y / 2 ^ k + car x y k := by
  have h1 := Nat.div_add_mod x (2 ^ k); have h2 := Nat.div_add_mod y (2 ^ k)
  unfold car
  conv => lhs; rw [← h1, ← h2, show 2 ^ k * (x / 2 ^ k) + x % 2 ^ k + (2 ^ k * (y / 2 ^ k) + y % 2 ^ k) = x % 2 ^ k + y % 2 ^ k + 2 ^ k * (x / 2 ^ k + y / 2 ^ k) by rw [Nat.mul_add]; omega]
  rw [Nat.add_mul_div_left _ _ (pow_pos2 k), Nat.add_comm]
structure RC where
  m : Nat
  v : Value
  seg : Fs
theorem add_calls (x y m : Nat) (hx : x < 2 ^ m) (hy : y < 2 ^ m) (hm : m < 1000) (va vb : Value) (w : World) (h1 : RowAt w 1 va m (ics (bl x m))) (h2 : RowAt w 1 vb m (ics (bl y m))) :
    Calls Try.prog 66 #[va, vb] w (RetG w [] fun v gs => IsRow 3 1 v (m + 1) (ics (bl (x + y) (m + 1))) gs) := by
  obtain ⟨p1, c1, rfl, hc1, hm1⟩ := h1.form
  obtain ⟨p2, c2, rfl, hc2, hm2⟩ := h2.form
  refine enter (args := [_, _]) _ [] [] Try.func66 rfl Try.ntmps66 rfl (by simp) .nil ?_
  (refine CW.seq ?_; refine CW.region ?_; apply LW.v0; rfl; rfl; apply ValP.assign; rfl; apply LW.nil; refine thenN ?_; refine CW.seq ?_; refine CW.region ?_; apply LW.v0; rfl; rfl; apply ValP.assign; rfl; apply LW.nil; refine thenN ?_; refine CW.seq ?_; refine CW.region ?_; apply LW.v0; rfl; rfl; apply ValP.assign; rfl; apply LW.nil; refine thenN ?_; refine CW.seq ?_; refine CW.seq ?_; refine CW.region ?_; apply LW.v0; rfl; rfl; apply ValP.move; rfl; apply LW.v0; rfl; rfl; apply ValP.lenR; rfl; infer_instance; rfl; apply LW.v0; rfl; rfl; apply ValP.move; rfl; apply LW.nil; refine thenN ?_; refine CW.block ?_)
  refine CW.loop (fun z : RC => ([(11, .int .i64 (z.m : Int)), (10, .int .i64 (m : Int)), (6, .int .i64 (car x y z.m : Int)), (5, z.v), (0, .slice p1 m c1), (1, .slice p2 m c2)], z.seg ++ []))
    (fun z => z.m ≤ m ∧ IsRow 3 1 z.v z.m (ics (bl (x + y) z.m)) z.seg) (fun z => m - z.m) ⟨0, .slice none 0 0, []⟩ ⟨Nat.zero_le _, .nil⟩ ⟨rfl, rfl, by rw [show car x y 0 = 0 by simp [car, Nat.mod_one]]; rfl, rfl, rfl, rfl, trivial⟩ (List.Sublist.refl _) ?_
  rintro ⟨k, v, seg⟩ ⟨hk, hrow⟩
  dsimp only at hk hrow ⊢
  obtain ⟨p, c, rfl⟩ := hrow.form
  have hcar := car_lt x y k
  rcases Nat.lt_or_ge k m with hlt | hge
  · obtain ⟨ba, oa, _, csa, Ea, fra, ea, hba, hxa⟩ := h1.pos (by omega)
    obtain ⟨bb, ob, _, csb, Eb, frb, eb, hbb, hxb⟩ := h2.pos (by omega)
    cases ea
    cases eb
    have hra : Rd Try.prog 3 (.cells csa Ea fra) (oa + k * 1) (.int .i64 ((x / 2 ^ k % 2 : Nat) : Int)) := Rd.elem1 hxa (ics_len _) (bl_get x m k hlt) rfl
    have hrb : Rd Try.prog 3 (.cells csb Eb frb) (ob + k * 1) (.int .i64 ((y / 2 ^ k % 2 : Nat) : Int)) := Rd.elem1 hxb (ics_len _) (bl_get y m k hlt) rfl
    have hd : (x / 2 ^ k % 2 + y / 2 ^ k % 2 + car x y k) % 2 = (x + y) / 2 ^ k % 2 := by rw [sum_bit]; omega
    (refine CW.seq ?_; refine CW.region ?_; apply LW.v0; rfl; rfl; apply ValP.lssT; rfl; rfl; omega; apply LW.nil; refine thenN ?_; refine CW.seq ?_; apply CW.condT; rfl; (with_reducible rfl); refine CW.skip ?_; refine thenN ?_; refine CW.seq ?_; refine CW.block ?_; refine CW.seq ?_; refine CW.region ?_; apply LW.v0; rfl; rfl; apply ValP.move; rfl; apply LW.v0; rfl; rfl; apply ValP.assign; rfl; apply LW.nil; refine thenN ?_; refine CW.seq ?_; apply CW.pre; refine AnyW.any 10 mixed (by decide +kernel) ?_; (try simp only [tsOf_cons, tsOf_nil, tsOf_app]); apply DW.v0; rfl; rfl; rfl; exact WantT.none; rfl; apply ValP.move; rfl; apply DW.v0; rfl; rfl; rfl; exact WantT.none; rfl; apply ValP.move; rfl; apply DW.v0; rfl; rfl; rfl; exact WantT.none; rfl; apply ValP.indexAddrS; rfl; rfl; rfl; omega; apply DW.loadX; rfl; rfl; rfl; exact WantT.none; rfl; assumption; simp; assumption; apply DW.v0; rfl; rfl; rfl; exact WantT.none; rfl; apply ValP.move; rfl; apply DW.v0; rfl; rfl; rfl; exact WantT.none; rfl; apply ValP.move; rfl; apply DW.v0; rfl; rfl; rfl; exact WantT.none; rfl; apply ValP.indexAddrS; rfl; rfl; rfl; omega; apply DW.loadX; rfl; rfl; rfl; exact WantT.none; rfl; assumption; simp; assumption; apply DW.v0; rfl; rfl; rfl; exact WantT.none; rfl; apply ValP.addZ; rfl; rfl; omega; apply DW.v0; rfl; rfl; rfl; exact WantT.none; rfl; apply ValP.move; rfl; apply DW.nil; simp only [fsOf_cons, fsOf_nil, fsOf_app, fsOf_tsOf, fsOf_new]; apply LW.v0; rfl; rfl; apply ValP.addZ; rfl; rfl; omega; apply LW.v0; rfl; rfl; apply ValP.assign; rfl; apply LW.nil; refine thenN ?_; refine CW.seq ?_; refine CW.region ?_; apply LW.v0; rfl; rfl; apply ValP.move; rfl; apply LW.v0; rfl; rfl; apply ValP.move; rfl; apply LW.v0; rfl; rfl; apply ValP.remZL; rfl; rfl; decide; omega; apply LW.lay1; rfl; infer_instance; infer_instance; rfl; rfl; rfl; rfl; rfl; rfl; intro _)
    (apply LW.append; (case hrow => assumption); rfl; rfl; infer_instance; infer_instance; infer_instance; rfl; rfl; rfl; apply AtSeg.cons; exact AtSeg.head; apply Known.at; apply FsAt.head; rfl; rfl; rfl; omega; simp only [maxLen]; omega; omega; intro v' seg' hrow'; obtain ⟨p', c', rfl⟩ := hrow'.form; (refine ⟨_, (by (repeat (first | exact AtSeg.head | apply AtSeg.cons | apply AtSeg.app))), ?_⟩); (try simp only [List.cons_append, List.nil_append]))
    (apply LW.v0; rfl; rfl; apply ValP.assign; rfl; apply LW.nil; refine thenN ?_; refine CW.region ?_; apply LW.v0; rfl; rfl; apply ValP.move; rfl; apply LW.v0; rfl; rfl; apply ValP.quoZL; rfl; rfl; decide; omega; omega; apply LW.v0; rfl; rfl; apply ValP.assign; rfl; apply LW.nil; refine blkN ?_; refine thenN ?_; refine CW.region ?_; apply LW.v0; rfl; rfl; apply ValP.addZL; rfl; rfl; decide; omega; apply LW.v0; rfl; rfl; apply ValP.move; rfl; apply LW.nil)
    apply thenX
    rw [hd] at hrow'
    refine ⟨rfl, ⟨k + 1, _, seg'⟩, ⟨hlt, by rw [bl_succ, ics_app]; exact hrow'⟩, by show m - (k + 1) < m - k; omega, ⟨rfl, rfl, ?_, rfl, rfl, rfl, trivial⟩, by (apply List.Sublist.cons; exact List.Sublist.refl _)⟩
    rw [car_succ]; rfl
  · obtain rfl : k = m := by omega
    have hd : car x y k = (x + y) / 2 ^ k % 2 := by
      rw [sum_bit, Nat.div_eq_of_lt hx, Nat.div_eq_of_lt hy]; omega
    (refine CW.seq ?_; refine CW.region ?_; apply LW.v0; rfl; rfl; apply ValP.lssF; rfl; rfl; omega; apply LW.nil; refine thenN ?_; refine CW.seq ?_; apply CW.condF; rfl; (with_reducible rfl); refine CW.exit ?_; refine thenE ?_; refine thenE ?_; refine blkE rfl ?_; refine thenN ?_; refine CW.seq ?_; refine CW.region ?_; apply LW.v0; rfl; rfl; apply ValP.move; rfl; apply LW.v0; rfl; rfl; apply ValP.move; rfl; apply LW.lay1; rfl; infer_instance; infer_instance; rfl; rfl; rfl; rfl; rfl; rfl; intro _)
    (apply LW.append; (case hrow => assumption); rfl; rfl; infer_instance; infer_instance; infer_instance; rfl; rfl; rfl; apply AtSeg.cons; exact AtSeg.head; apply Known.at; apply FsAt.head; rfl; rfl; rfl; omega; simp only [maxLen]; omega; omega; intro v' seg' hrow'; obtain ⟨p', c', rfl⟩ := hrow'.form; (refine ⟨_, (by (repeat (first | exact AtSeg.head | apply AtSeg.cons | apply AtSeg.app))), ?_⟩); (try simp only [List.cons_append, List.nil_append]))
    (apply LW.drop; exact List.Sublist.cons _ (List.Sublist.refl _))
    (apply LW.v0; rfl; rfl; apply ValP.assign; rfl; apply LW.nil; refine thenN ?_; refine CW.ret ?_)
    rw [hd] at hrow'
    apply finM seg'; (exact .inl rfl); (exact Shut.nil); rfl; (apply ResL.cons; exact Res.tmp rfl; exact ResL.nil); exact List.sublist_append_left _ _
    rw [bl_succ, ics_app]; exact hrow'
theorem limb_or (x k : Nat) (hk : k < 256) : (x % 2 ^ k) / 2 ^ (64 * (k / 64)) % 18446744073709551616 < 2 ^ (k % 64) := by
  have h : x % 2 ^ k < 2 ^ (64 * (k / 64)) * 2 ^ (k % 64) := by rw [← Nat.pow_add, show 64 * (k / 64) + k % 64 = k by omega]; exact Nat.mod_lt _ (pow_pos2 k)
  exact Nat.lt_of_le_of_lt (Nat.mod_le _ _) (Nat.div_lt_of_lt_mul h)
theorem or_add (L P r : Nat) (hP : P = 2 ^ r) (hL : L < P) (hr : r < 64) : (L ||| 1 * 2 ^ r % 18446744073709551616) = L + P := by
  subst hP
  have h64 : 2 ^ r < 18446744073709551616 := Nat.lt_of_le_of_lt (Nat.pow_le_pow_right (n := 2) (by decide) (show r ≤ 63 by omega)) (by decide)
  rw [Nat.one_mul, Nat.mod_eq_of_lt h64, Nat.or_comm, Nat.add_comm]
  have := Nat.two_pow_add_eq_or_of_lt hL 1
  rw [Nat.mul_one] at this
  exact this.symm
theorem wc_setbit (n k : Nat) (hk : k < 256) (hn : n < 2 ^ k) : ((wc n).toList.set (k / 64) (.int .u64 ((n / 2 ^ (64 * (k / 64)) % 18446744073709551616 ||| 1 * 2 ^ (k % 64) % 18446744073709551616 : Nat) : Int))).toArray = wc (n + 2 ^ k) := by
  obtain ⟨r, hr⟩ : ∃ r, r = k % 64 := ⟨_, rfl⟩
  obtain ⟨P, hP⟩ : ∃ P, P = 2 ^ r := ⟨_, rfl⟩
  have hr64 : r < 64 := by omega
  have hP63 : P ≤ 9223372036854775808 := by rw [hP]; exact Nat.le_trans (Nat.pow_le_pow_right (n := 2) (by decide) (show r ≤ 63 by omega)) (by decide)
  have h2k : 2 ^ k = 2 ^ (64 * (k / 64)) * P := by rw [hP, hr, ← Nat.pow_add, show 64 * (k / 64) + k % 64 = k by omega]
  have hlt : n / 2 ^ (64 * (k / 64)) < P := Nat.div_lt_of_lt_mul (by rw [← h2k]; exact hn)
  have hL : n / 2 ^ (64 * (k / 64)) % 18446744073709551616 < P := Nat.lt_of_le_of_lt (Nat.mod_le _ _) hlt
  rw [← hr, or_add _ P r hP hL hr64]
  rw [h2k] at hn ⊢
  rcases (show k / 64 = 0 ∨ k / 64 = 1 ∨ k / 64 = 2 ∨ k / 64 = 3 by omega) with q | q | q | q <;> rw [q] at hlt hL hn ⊢ <;> simp only [wc, List.set_cons_zero, List.set_cons_succ, Nat.mul_zero, Nat.pow_zero, Nat.div_one, Nat.mul_one, Nat.one_mul, Nat.reduceMul, Nat.reducePow] at hlt hL hn ⊢
  · exact wc_val (by omega) (by omega) (by omega) (by omega) (by omega)
  · exact wc_val (by omega) (by omega) (by omega) (by omega) (by omega)
  · exact wc_val (by omega) (by omega) (by omega) (by omega) (by omega)
  · exact wc_val (by omega) (by omega) (by omega) (by omega) (by omega)
theorem of_calls (x m : Nat) (hm : m < 1000) (v : Value) (w : World) (hv : RowAt w 1 v m (ics (bl x m))) : Calls Try.prog 67 #[v] w (Ret w (wv (x % 2 ^ min m 256))) := by
  obtain ⟨p, c, rfl, hc, hmx⟩ := hv.form
  refine enter (args := [_]) _ [] [] Try.func67 rfl Try.ntmps67 rfl (by simp) .nil ?_
  (refine CW.seq ?_; refine CW.region ?_; apply LW.allocW; rfl; intro _; apply LW.nil; refine thenN ?_; refine CW.seq ?_; refine CW.region ?_; apply LW.allocW; rfl; intro _; apply LW.nil; refine thenN ?_; refine CW.seq ?_; refine CW.seq ?_; refine CW.region ?_; apply LW.v0; rfl; rfl; apply ValP.move; rfl; apply LW.v0; rfl; rfl; apply ValP.lenR; rfl; infer_instance; rfl; apply LW.v0; rfl; rfl; apply ValP.move; rfl; apply LW.nil; refine thenN ?_; refine CW.block ?_)
  rename_i b1 b0
  refine CW.loop (fun k : Nat => ([(8, .int .i64 (k : Int)), (7, .int .i64 (m : Int)), (6, .slice p m c), (3, .pointer (some ⟨b0, 0, none⟩)), (2, .pointer (some ⟨b1, 0, none⟩))],
    [(b0, .cells (wc (x % 2 ^ min k 256)) 28 (0, 0)), (b1, .cells (wc 0) 28 (0, 0))]))
    (fun k => k ≤ m) (fun k => m - k) 0 (Nat.zero_le _) ⟨rfl, rfl, rfl, rfl, rfl, trivial⟩ (by simp [Nat.mod_one]) ?_
  intro k hk
  dsimp only at hk ⊢
  rcases Nat.lt_or_ge k m with hlt | hge
  · obtain ⟨ba, oa, _, csa, Ea, fra, ea, hba, hxa⟩ := hv.pos (by omega)
    cases ea
    have hra : Rd Try.prog 3 (.cells csa Ea fra) (oa + k * 1) (.int .i64 ((x / 2 ^ k % 2 : Nat) : Int)) := Rd.elem1 hxa (ics_len _) (bl_get x m k hlt) rfl
    rcases Nat.lt_or_ge k 256 with h | h
    · rcases Nat.mod_two_eq_zero_or_one (x / 2 ^ k) with hb | hb
      · (refine CW.seq ?_; refine CW.region ?_; apply LW.v0; rfl; rfl; apply ValP.lssT; rfl; rfl; omega; apply LW.nil; refine thenN ?_; refine CW.seq ?_; apply CW.condT; rfl; (with_reducible rfl); refine CW.skip ?_; refine thenN ?_; refine CW.seq ?_; refine CW.block ?_; refine CW.seq ?_; refine CW.region ?_; apply LW.v0; rfl; rfl; apply ValP.move; rfl; apply LW.v0; rfl; rfl; apply ValP.indexAddrS; rfl; rfl; rfl; omega; apply LW.load; rfl; rfl; exact Known.ext (by assumption) (by simp); assumption; apply LW.v0; rfl; rfl; apply ValP.assign; rfl; apply LW.v0; rfl; rfl; apply ValP.assign; rfl; apply LW.nil; refine thenN ?_; refine CW.seq ?_; refine CW.region ?_; apply LW.v0; rfl; rfl; apply ValP.move; rfl; apply LW.v0; rfl; rfl; apply ValP.lssT; rfl; rfl; omega; apply LW.v0; rfl; rfl; apply ValP.move; rfl; apply LW.guardT'; rfl; rfl; (with_reducible rfl); apply LW.v0; rfl; rfl; apply ValP.move; rfl; apply LW.guardT'; rfl; rfl; (with_reducible rfl); apply LW.v0; rfl; rfl; apply ValP.eqF; rfl; rfl; omega; apply LW.v0; rfl; rfl; apply ValP.pickT'; rfl; (with_reducible rfl); rfl; apply LW.nil; refine thenN ?_; apply CW.condF; rfl; (with_reducible rfl); refine CW.skip ?_; refine blkN ?_; refine thenN ?_; refine CW.region ?_; apply LW.v0; rfl; rfl; apply ValP.addZL; rfl; rfl; decide; omega; apply LW.v0; rfl; rfl; apply ValP.move; rfl; apply LW.nil)
        apply thenX
        refine ⟨rfl, k + 1, hlt, by omega, ⟨rfl, rfl, rfl, rfl, rfl, trivial⟩, ?_⟩
        rw [Nat.min_eq_left h, Nat.mod_pow_succ, hb, Nat.mul_zero, Nat.add_zero, Nat.min_eq_left (Nat.le_of_lt h)]
        (exact List.Sublist.refl _)
      · have hW := wc_setbit (x % 2 ^ k) k h (Nat.mod_lt _ (pow_pos2 k))
        rw [Nat.min_eq_left (Nat.le_of_lt h)]
        (refine CW.seq ?_; refine CW.region ?_; apply LW.v0; rfl; rfl; apply ValP.lssT; rfl; rfl; omega; apply LW.nil; refine thenN ?_; refine CW.seq ?_; apply CW.condT; rfl; (with_reducible rfl); refine CW.skip ?_; refine thenN ?_; refine CW.seq ?_; refine CW.block ?_; refine CW.seq ?_; refine CW.region ?_; apply LW.v0; rfl; rfl; apply ValP.move; rfl; apply LW.v0; rfl; rfl; apply ValP.indexAddrS; rfl; rfl; rfl; omega; apply LW.load; rfl; rfl; exact Known.ext (by assumption) (by simp); assumption; apply LW.v0; rfl; rfl; apply ValP.assign; rfl; apply LW.v0; rfl; rfl; apply ValP.assign; rfl; apply LW.nil; refine thenN ?_; refine CW.seq ?_; refine CW.region ?_; apply LW.v0; rfl; rfl; apply ValP.move; rfl; apply LW.v0; rfl; rfl; apply ValP.lssT; rfl; rfl; omega; apply LW.v0; rfl; rfl; apply ValP.move; rfl; apply LW.guardT'; rfl; rfl; (with_reducible rfl); apply LW.v0; rfl; rfl; apply ValP.move; rfl; apply LW.guardT'; rfl; rfl; (with_reducible rfl); apply LW.v0; rfl; rfl; apply ValP.eqT; rfl; rfl; omega; apply LW.v0; rfl; rfl; apply ValP.pickT'; rfl; (with_reducible rfl); rfl; apply LW.nil; refine thenN ?_; apply CW.condT; rfl; (with_reducible rfl); apply CW.pre; refine AnyW.any 7 mixed (by decide +kernel) ?_; (try simp only [tsOf_cons, tsOf_nil, tsOf_app]); apply DW.v0; rfl; rfl; rfl; exact WantT.none; rfl; apply ValP.move; rfl; apply DW.v0; rfl; rfl; rfl; exact WantT.none; rfl; apply ValP.quoZL; rfl; rfl; decide; omega; omega; apply DW.v0; rfl; rfl; rfl; exact WantT.none; rfl; apply ValP.indexAddrA; rfl; rfl; rfl; omega; apply DW.loadO; rfl; rfl; rfl; exact WantT.none; rfl; apply TRead.head; exact ancB_nil; apply Rd.one'; apply nth_wc; omega; apply DW.v0; rfl; rfl; rfl; exact WantT.none; rfl; apply ValP.move; rfl; apply DW.v0; rfl; rfl; rfl; exact WantT.none; rfl; apply ValP.remZL; rfl; rfl; decide; omega; apply DW.v0; rfl; rfl; rfl; exact WantT.none; rfl; apply ValP.shlU; rfl; rfl; omega; apply DW.nil; simp only [fsOf_cons, fsOf_nil, fsOf_app, fsOf_tsOf, fsOf_new]; apply LW.v0; rfl; rfl; apply ValP.orU; rfl; rfl; omega; omega; apply LW.v0; rfl; rfl; apply ValP.indexAddrA; rfl; rfl; rfl; omega; apply LW.store; rfl; rfl; apply SetAt.head; apply Wr.cells; rfl; rfl; simp only [wc, List.size_toArray, List.length_cons, List.length_nil]; omega; simp only [fillC, wc, wrCells, Value.cells, List.toList_toArray, List.setIfInBounds_toArray, List.set_cons_succ, List.set_cons_zero, Nat.reduceAdd, Nat.reduceMul, Nat.zero_add, Nat.mul_one]; rfl; apply LW.nil; refine blkN ?_; refine thenN ?_; refine CW.region ?_; apply LW.v0; rfl; rfl; apply ValP.addZL; rfl; rfl; decide; omega; apply LW.v0; rfl; rfl; apply ValP.move; rfl; apply LW.nil)
        apply thenX
        refine ⟨rfl, k + 1, hlt, by omega, ⟨rfl, rfl, rfl, rfl, rfl, trivial⟩, ?_⟩
        rw [Nat.min_eq_left h, Nat.mod_pow_succ, hb, Nat.mul_one, ← hW]
        exact List.Sublist.refl _
    · (refine CW.seq ?_; refine CW.region ?_; apply LW.v0; rfl; rfl; apply ValP.lssT; rfl; rfl; omega; apply LW.nil; refine thenN ?_; refine CW.seq ?_; apply CW.condT; rfl; (with_reducible rfl); refine CW.skip ?_; refine thenN ?_; refine CW.seq ?_; refine CW.block ?_; refine CW.seq ?_; refine CW.region ?_; apply LW.v0; rfl; rfl; apply ValP.move; rfl; apply LW.v0; rfl; rfl; apply ValP.indexAddrS; rfl; rfl; rfl; omega; apply LW.load; rfl; rfl; exact Known.ext (by assumption) (by simp); assumption; apply LW.v0; rfl; rfl; apply ValP.assign; rfl; apply LW.v0; rfl; rfl; apply ValP.assign; rfl; apply LW.nil; refine thenN ?_; refine CW.seq ?_; refine CW.region ?_; apply LW.v0; rfl; rfl; apply ValP.move; rfl; apply LW.v0; rfl; rfl; apply ValP.lssF; rfl; rfl; omega; apply LW.v0; rfl; rfl; apply ValP.move; rfl; apply LW.guardF'; rfl; rfl; simp only [Bool.not_true, Bool.not_false]; rfl; apply LW.guardF'; rfl; rfl; simp only [Bool.not_true, Bool.not_false]; rfl; apply LW.v0; rfl; rfl; apply ValP.pickF'; rfl; (with_reducible rfl); rfl; apply LW.nil; refine thenN ?_; apply CW.condF; rfl; (with_reducible rfl); refine CW.skip ?_; refine blkN ?_; refine thenN ?_; refine CW.region ?_; apply LW.v0; rfl; rfl; apply ValP.addZL; rfl; rfl; decide; omega; apply LW.v0; rfl; rfl; apply ValP.move; rfl; apply LW.nil)
      apply thenX
      refine ⟨rfl, k + 1, hlt, by omega, ⟨rfl, rfl, rfl, rfl, rfl, trivial⟩, ?_⟩
      rw [Nat.min_eq_right (Nat.le_succ_of_le h), Nat.min_eq_right h]
      (exact List.Sublist.refl _)
  · obtain rfl : k = m := by omega
    (refine CW.seq ?_; refine CW.region ?_; apply LW.v0; rfl; rfl; apply ValP.lssF; rfl; rfl; omega; apply LW.nil; refine thenN ?_; refine CW.seq ?_; apply CW.condF; rfl; (with_reducible rfl); refine CW.exit ?_; refine thenE ?_; refine thenE ?_; refine blkE rfl ?_; refine thenN ?_; refine CW.seq ?_; refine CW.region ?_; apply LW.load; rfl; rfl; apply Known.at; apply FsAt.head; exact Rd.whole rfl; apply LW.store; rfl; rfl; apply SetAt.tail; apply SetAt.head; apply Wr.whole; rfl; rfl; rfl; apply LW.nil; refine thenN ?_; refine CW.ret ?_)
    (apply finR; exact .inl rfl; rfl; rfl; rfl; apply ResL.cons; apply Res.cell; rfl; apply Known.at; apply FsAt.tail; apply FsAt.head; exact Rd.whole rfl; exact ResL.nil)
    rfl
end Go.Proofs.Ytobkhnmglbfheaa

/-
  The document's answer in bits: what is done bit by bit.
  Conditions: none.
-/
namespace Go.Proofs.Ytobkhnmglbfheaa
open Go Go.RowKit SL
set_option maxRecDepth 8000
set_option maxHeartbeats 4000000
set_option linter.unusedSimpArgs false
set_option linter.unusedVariables false
attribute [local irreducible] SL.CW SL.LW SL.DW Calls SL.Ret SL.RetG SL.beginQ SL.roundQ SL.rangeQ SL.inQ SL.RW SL.AnyW SL.thenQ SL.thenC SL.thenW SL.blkQ SL.finQ SL.ValP SL.NewP SL.SetP SL.CallP SL.Rd SL.Wr SL.Known
theorem bit_tb (a k : Nat) : a / 2 ^ k % 2 = (a.testBit k).toNat := by rw [Nat.testBit_eq_decide_div_mod_eq]; rcases Nat.mod_two_eq_zero_or_one (a / 2 ^ k) with h | h <;> rw [h] <;> rfl
theorem band_bit (a b k : Nat) : (a &&& b) / 2 ^ k % 2 = a / 2 ^ k % 2 * (b / 2 ^ k % 2) := by
  rw [bit_tb, bit_tb, bit_tb, Nat.testBit_and]; cases a.testBit k <;> cases b.testBit k <;> rfl
theorem bor_bit (a b k : Nat) : (a ||| b) / 2 ^ k % 2 = max (a / 2 ^ k % 2) (b / 2 ^ k % 2) := by
  rw [bit_tb, bit_tb, bit_tb, Nat.testBit_or]; cases a.testBit k <;> cases b.testBit k <;> rfl
theorem bxor_bit (a b k : Nat) : (a ^^^ b) / 2 ^ k % 2 = (a / 2 ^ k % 2 + b / 2 ^ k % 2) % 2 := by
  rw [bit_tb, bit_tb, bit_tb, Nat.testBit_xor]; cases a.testBit k <;> cases b.testBit k <;> rfl
theorem not_bit (a k : Nat) (ha : a < M256) (hk : k < 256) : (M256 - 1 - a) / 2 ^ k % 2 = 1 - a / 2 ^ k % 2 := by
  rw [bit_tb, bit_tb, Nat.sub_sub, Nat.add_comm 1, show M256 = 2 ^ 256 from rfl, Nat.testBit_two_pow_sub_succ (show a < 2 ^ 256 from ha), decide_eq_true hk]; cases a.testBit k <;> rfl
end Go.Proofs.Ytobkhnmglbfheaa

/-
  The document's answer in bits: sums, differences, and how words stand.
  Conditions: none.
-/
namespace Go.Proofs.Ytobkhnmglbfheaa
open Go Go.RowKit SL
set_option maxRecDepth 8000
set_option maxHeartbeats 4000000
set_option linter.unusedSimpArgs false
set_option linter.unusedVariables false
attribute [local irreducible] SL.CW SL.LW SL.DW Calls SL.Ret SL.RetG SL.beginQ SL.roundQ SL.rangeQ SL.inQ SL.RW SL.AnyW SL.thenQ SL.thenC SL.thenW SL.blkQ SL.finQ SL.ValP SL.NewP SL.SetP SL.CallP SL.Rd SL.Wr SL.Known
def bor (a b k : Nat) : Nat := if a % 2 ^ k < b % 2 ^ k then 1 else 0
theorem bor_lt (a b k : Nat) : bor a b k < 2 := by unfold bor; split <;> omega
theorem bor_succ (a b k : Nat) : bor a b (k + 1) = if a / 2 ^ k % 2 < b / 2 ^ k % 2 + bor a b k then 1 else 0 := by
  have key : (a % 2 ^ (k + 1) < b % 2 ^ (k + 1)) ↔ (a / 2 ^ k % 2 < b / 2 ^ k % 2 + bor a b k) := by
    have h01 : bor a b k = 0 ∧ b % 2 ^ k ≤ a % 2 ^ k ∨ bor a b k = 1 ∧ a % 2 ^ k < b % 2 ^ k := by unfold bor; split <;> omega
    rw [Nat.mod_pow_succ, Nat.mod_pow_succ]
    have h1 := Nat.mod_lt a (pow_pos2 k); have h2 := Nat.mod_lt b (pow_pos2 k)
    generalize bor a b k = C at *
    rcases Nat.mod_two_eq_zero_or_one (a / 2 ^ k) with p | p <;> rcases Nat.mod_two_eq_zero_or_one (b / 2 ^ k) with q | q <;> rw [p, q] <;> simp only [Nat.mul_zero, Nat.mul_one, Nat.add_zero] <;>
      constructor <;> intro h3 <;> omega
  show (if a % 2 ^ (k + 1) < b % 2 ^ (k + 1) then 1 else 0) = _
  by_cases h : a % 2 ^ (k + 1) < b % 2 ^ (k + 1)
  · rw [if_pos h, if_pos (key.1 h)]
  · rw [if_neg h, if_neg (fun h' => h (key.2 h'))]
theorem sub_mod (M a b j m : Nat) (hM : M = 2 ^ j * m) (ha : a < M) (hb : b < M) : (a + M - b) % M % 2 ^ j = a % 2 ^ j + 2 ^ j * bor a b j - b % 2 ^ j := by
  subst hM
  rw [Nat.mod_mod_of_dvd _ ⟨m, rfl⟩]
  have e1 := Nat.div_add_mod a (2 ^ j); have e2 := Nat.div_add_mod b (2 ^ j)
  have h1 := Nat.mod_lt a (pow_pos2 j); have h2 := Nat.mod_lt b (pow_pos2 j)
  have hq : b / 2 ^ j < m := Nat.div_lt_of_lt_mul hb
  obtain ⟨t, ht⟩ : ∃ t, m = b / 2 ^ j + 1 + t := ⟨m - b / 2 ^ j - 1, by omega⟩
  have key : a + 2 ^ j * m - b = (a % 2 ^ j + 2 ^ j * bor a b j - b % 2 ^ j) + 2 ^ j * (a / 2 ^ j + t + 1 - bor a b j) := by
    generalize a / 2 ^ j = qa at *
    generalize b / 2 ^ j = qb at *
    subst ht
    have hb2 := bor_lt a b j
    rw [Nat.mul_add, Nat.mul_add, Nat.mul_one]
    unfold bor at *
    split
    · rw [Nat.mul_one, show qa + t + 1 - 1 = qa + t by omega, Nat.mul_add]; omega
    · rw [Nat.mul_zero, show qa + t + 1 - 0 = qa + t + 1 by omega, Nat.mul_add, Nat.mul_add, Nat.mul_one]; omega
  rw [key, Nat.add_mul_mod_self_left, Nat.mod_eq_of_lt]
  unfold bor
  split <;> omega
theorem sub_bit (a b k : Nat) (hk : k < 256) (ha : a < 2 ^ 256) (hb : b < 2 ^ 256) : (a + 2 ^ 256 - b) % 2 ^ 256 / 2 ^ k % 2 = (a / 2 ^ k % 2 + b / 2 ^ k % 2 + bor a b k) % 2 := by
  obtain ⟨j, hj⟩ : ∃ j, 256 = k + (1 + j) := ⟨255 - k, by omega⟩
  have h1 := sub_mod (2 ^ 256) a b (k + 1) (2 ^ j) (by rw [← Nat.pow_add, Nat.add_assoc, ← hj]) ha hb
  have h0 := sub_mod (2 ^ 256) a b k (2 ^ (1 + j)) (by rw [← Nat.pow_add, ← hj]) ha hb
  have hB : bor a b (k + 1) = 1 ∧ a / 2 ^ k % 2 < b / 2 ^ k % 2 + bor a b k ∨ bor a b (k + 1) = 0 ∧ ¬ a / 2 ^ k % 2 < b / 2 ^ k % 2 + bor a b k := by
    rw [bor_succ]; split <;> simp_all
  generalize (a + 2 ^ 256 - b) % 2 ^ 256 = D at *
  rw [Nat.mod_pow_succ, Nat.mod_pow_succ, Nat.mod_pow_succ] at h1
  have m1 := Nat.mod_lt a (pow_pos2 k); have m2 := Nat.mod_lt b (pow_pos2 k); have m3 := Nat.mod_lt D (pow_pos2 k)
  have h01 : bor a b k = 0 ∧ b % 2 ^ k ≤ a % 2 ^ k ∨ bor a b k = 1 ∧ a % 2 ^ k < b % 2 ^ k := by unfold bor; split <;> omega
  rw [h0] at h1 m3
  rw [Nat.pow_succ] at h1
  generalize bor a b (k + 1) = B at *
  generalize bor a b k = C at *
  have hp2 : a / 2 ^ k % 2 < 2 := by omega
  have hq2 : b / 2 ^ k % 2 < 2 := by omega
  generalize a / 2 ^ k % 2 = p at *
  generalize b / 2 ^ k % 2 = q at *
  generalize hr : D / 2 ^ k % 2 = r at *
  have hr2 : r < 2 := by omega
  generalize 2 ^ k = K at *
  rcases (show r = 0 ∨ r = 1 by omega) with rfl | rfl <;> rcases (show p = 0 ∨ p = 1 by omega) with rfl | rfl <;> rcases (show q = 0 ∨ q = 1 by omega) with rfl | rfl <;> rcases h01 with ⟨rfl, g1⟩ | ⟨rfl, g1⟩ <;> rcases hB with ⟨rfl, g2⟩ | ⟨rfl, g2⟩ <;>
    simp only [Nat.mul_zero, Nat.mul_one, Nat.add_zero] at h1 <;> omega
theorem cmp_eq (a b k : Nat) (h : a / 2 ^ (k + 1) = b / 2 ^ (k + 1)) (he : a / 2 ^ k % 2 = b / 2 ^ k % 2) : a / 2 ^ k = b / 2 ^ k := by
  rw [Nat.pow_succ, ← Nat.div_div_eq_div_mul, ← Nat.div_div_eq_div_mul] at h
  omega
theorem cmp_lt (a b k : Nat) (h : a / 2 ^ (k + 1) = b / 2 ^ (k + 1)) (he : a / 2 ^ k % 2 < b / 2 ^ k % 2) : a < b := by
  rw [Nat.pow_succ, ← Nat.div_div_eq_div_mul, ← Nat.div_div_eq_div_mul] at h
  rcases Nat.lt_or_ge a b with h1 | h1
  · exact h1
  · have := Nat.div_le_div_right (c := 2 ^ k) h1
    omega
theorem rAdd_calls (a b : Nat) (ha : a < M256) (hb : b < M256) (w : World) : Calls Try.prog 49 #[wv a, wv b] w (Ret w (.tuple #[wv ((a + b) % M256), .bool (decide (M256 ≤ a + b))])) := by
  refine enter (args := [_, _]) _ [] [] Try.func49 rfl Try.ntmps49 rfl (by simp) .nil ?_
  (refine CW.seq ?_; refine CW.region ?_; apply LW.boxA; rfl; rfl; intro _; apply LW.boxA; rfl; rfl; intro _; apply LW.allocW; rfl; intro _; apply LW.v0; rfl; rfl; apply ValP.assign; rfl; apply LW.nil; refine thenN ?_; refine CW.seq ?_)
  apply CW.pre
  refine AnyW.anyM [(1, fun v gs => IsRow 3 1 v 256 (ics (bl a 256)) gs)] 3 mixed (by decide +kernel) ?_
  ((try simp only [tsOf_cons, tsOf_nil, tsOf_app]); apply DW.loadO; rfl; rfl; rfl; exact WantT.none; rfl; apply TRead.tail; apply TRead.tail; apply TRead.head; exact ancB_nil; exact Rd.whole rfl)
  (apply DW.manyE; rfl; rfl; rfl; exact WantT.none; rfl; infer_instance; apply ArgsOk.cons; rfl; apply ArgsOk.cons; rfl; exact ArgsOk.nil; rfl; exact ReadAll.nil; intro w _ _)
  exact bits_calls _ _ (by assumption) (by decide) w
  intro va ga hra
  obtain ⟨pa, ca, rfl⟩ := hra.form
  ((try simp only [tsOf_cons, tsOf_nil, tsOf_app]); apply DW.loadO; rfl; rfl; rfl; exact WantT.none; rfl; apply TRead.app; apply TRead.tail; apply TRead.head; exact ancB_nil; exact Rd.whole rfl; apply DW.nil; simp only [fsOf_cons, fsOf_nil, fsOf_app, fsOf_tsOf, fsOf_new])
  (apply LW.callR; rfl; rfl; infer_instance; apply ArgsOk.cons; rfl; apply ArgsOk.cons; rfl; exact ArgsOk.nil; intro w hs)
  exact bits_calls _ _ (by assumption) (by decide) w
  intro vb gb hrb
  obtain ⟨pb, cb, rfl⟩ := hrb.form
  skip
  (apply LW.callR; rfl; rfl; infer_instance; apply ArgsOk.cons; rfl; apply ArgsOk.cons; rfl; exact ArgsOk.nil; intro w hs)
  exact add_calls a b 256 ha hb (by decide) _ _ w (hra.atSeg (by (apply AtSeg.app; exact AtSeg.head)) hs) (hrb.atSeg (by (exact AtSeg.head)) hs)
  intro vs gs hrs
  cases hrs with
  | @own g _ cap cur _ hn hmx hc ht hl =>
    have hrd : Rd Try.prog 3 (.cells cur 3 (0, 0)) (0 + 256 * 1) (.int .i64 (((a + b) / 2 ^ 256 % 2 : Nat) : Int)) := Rd.elem1 (g := fun (b : Nat) => [Value.int .i64 (b : Int)]) (l := bl (a + b) 257) (m := (256 + 1) * 1) (show (cur.toList.drop 0).take ((256 + 1) * 1) = _ from ht) (ics_len _) (bl_get (a + b) 257 256 (by decide)) rfl
    have h1 : ((a + b) / 2 ^ 256 % 2 : Nat) = if M256 ≤ a + b then 1 else 0 := by
      simp only [M256] at ha hb ⊢
      rw [show (2 : Nat) ^ 256 = 115792089237316195423570985008687907853269984665640564039457584007913129639936 from rfl]; split <;> omega
    refine LW.drop ((g, _) :: _) (List.Sublist.cons_cons _ (List.Sublist.trans (List.sublist_append_right _ _) (List.sublist_append_right _ _))) ?_
    rw [h1] at hrd
    have hof : ∀ w, (∀ p ∈ [(g, Obj.cells cur 3 (0, 0))], w.heap[p.1]? = some p.2) → Calls Try.prog 67 #[.slice (some ⟨g, 0, none⟩) (256 + 1) cap] w (Ret w (wv ((a + b) % M256))) := fun w hu => of_calls (a + b) 257 (by decide) _ w (RowAt.us hu hn hmx ht hl)
    rcases Nat.lt_or_ge (a + b) M256 with h | h
    · rw [if_neg (Nat.not_le.2 h)] at hrd
      rw [decide_eq_false (Nat.not_le.2 h)]
      (apply LW.v0; rfl; rfl; apply ValP.assign; rfl; apply LW.nil; refine thenN ?_; refine CW.seq ?_; apply CW.pre; refine AnyW.any 7 mixed (by decide +kernel) ?_; (try simp only [tsOf_cons, tsOf_nil, tsOf_app]); apply DW.v0; rfl; rfl; rfl; exact WantT.none; rfl; apply ValP.move; rfl; apply DW.callV; rfl; rfl; rfl; exact WantT.none; rfl; infer_instance; apply ArgsOk.cons; rfl; exact ArgsOk.nil; apply RdV.own; omega; apply TRead.head; exact ancB_nil; exact RdV.nil; intro w _ _; exact hof w (by assumption); apply DW.v0; rfl; rfl; rfl; exact WantT.none; rfl; apply ValP.move; rfl; apply DW.v0; rfl; rfl; rfl; exact WantT.none; rfl; apply ValP.indexAddrSL; rfl; rfl; decide; omega; apply DW.loadO; rfl; rfl; rfl; exact WantT.none; rfl; apply TRead.head; exact ancB_nil; assumption; apply DW.v0; rfl; rfl; rfl; exact WantT.none; rfl; apply ValP.eqF; rfl; rfl; omega; apply DW.store; rfl; rfl; exact WantT.none; rfl; rfl; apply TSet.tail; apply TSet.app; apply TSet.head; exact ancB_nil; exact ancB_nil; apply Wr.whole; rfl; rfl; rfl; apply DW.nil; simp only [fsOf_cons, fsOf_nil, fsOf_app, fsOf_tsOf, fsOf_new]; apply LW.v0; rfl; rfl; apply ValP.assign; rfl; apply LW.nil; refine thenN ?_; refine CW.ret ?_)
      (apply finR; exact .inl rfl; rfl; rfl; rfl; apply ResL.cons; apply Res.cell; rfl; apply Known.at; apply FsAt.tail; apply FsAt.app; apply FsAt.head; exact Rd.whole rfl; apply ResL.cons; exact Res.tmp rfl; exact ResL.nil)
      rfl
    · rw [if_pos h] at hrd
      rw [decide_eq_true h]
      (apply LW.v0; rfl; rfl; apply ValP.assign; rfl; apply LW.nil; refine thenN ?_; refine CW.seq ?_; apply CW.pre; refine AnyW.any 7 mixed (by decide +kernel) ?_; (try simp only [tsOf_cons, tsOf_nil, tsOf_app]); apply DW.v0; rfl; rfl; rfl; exact WantT.none; rfl; apply ValP.move; rfl; apply DW.callV; rfl; rfl; rfl; exact WantT.none; rfl; infer_instance; apply ArgsOk.cons; rfl; exact ArgsOk.nil; apply RdV.own; omega; apply TRead.head; exact ancB_nil; exact RdV.nil; intro w _ _; exact hof w (by assumption); apply DW.v0; rfl; rfl; rfl; exact WantT.none; rfl; apply ValP.move; rfl; apply DW.v0; rfl; rfl; rfl; exact WantT.none; rfl; apply ValP.indexAddrSL; rfl; rfl; decide; omega; apply DW.loadO; rfl; rfl; rfl; exact WantT.none; rfl; apply TRead.head; exact ancB_nil; assumption; apply DW.v0; rfl; rfl; rfl; exact WantT.none; rfl; apply ValP.eqT; rfl; rfl; omega; apply DW.store; rfl; rfl; exact WantT.none; rfl; rfl; apply TSet.tail; apply TSet.app; apply TSet.head; exact ancB_nil; exact ancB_nil; apply Wr.whole; rfl; rfl; rfl; apply DW.nil; simp only [fsOf_cons, fsOf_nil, fsOf_app, fsOf_tsOf, fsOf_new]; apply LW.v0; rfl; rfl; apply ValP.assign; rfl; apply LW.nil; refine thenN ?_; refine CW.ret ?_)
      (apply finR; exact .inl rfl; rfl; rfl; rfl; apply ResL.cons; apply Res.cell; rfl; apply Known.at; apply FsAt.tail; apply FsAt.app; apply FsAt.head; exact Rd.whole rfl; apply ResL.cons; exact Res.tmp rfl; exact ResL.nil)
      rfl
theorem rCmp_calls (a b : Nat) (ha : a < M256) (hb : b < M256) (w : World) : Calls Try.prog 37 #[wv a, wv b] w (Ret w (.int .i64 (if a < b then -1 else if b < a then 1 else 0))) := by
  refine enter (args := [_, _]) _ [] [] Try.func37 rfl Try.ntmps37 rfl (by simp) .nil ?_
  (refine CW.seq ?_; refine CW.region ?_; apply LW.boxA; rfl; rfl; intro _; apply LW.boxA; rfl; rfl; intro _; apply LW.v0; rfl; rfl; apply ValP.assign; rfl; apply LW.nil; refine thenN ?_; refine CW.seq ?_; refine CW.seq ?_; refine CW.region ?_; apply LW.v0; rfl; rfl; apply ValP.assign; rfl; apply LW.nil; refine thenN ?_; refine CW.block ?_)
  rename_i ba bb
  refine CW.loop (fun m : Nat => ([(5, .int .i64 ((m : Int) - 1)), (4, .int .i64 0), (2, .pointer (some ⟨ba, 0, none⟩)), (3, .pointer (some ⟨bb, 0, none⟩))],
      [(bb, .cells (wc b) 28 (0, 0)), (ba, .cells (wc a) 28 (0, 0))]))
    (fun m => m ≤ 256 ∧ a / 2 ^ m = b / 2 ^ m) (fun m => m) 256 ⟨Nat.le_refl _, by rw [Nat.div_eq_of_lt ha, Nat.div_eq_of_lt hb]⟩ ⟨rfl, rfl, rfl, rfl, trivial⟩ (List.Sublist.refl _) ?_
  rintro m ⟨hm, he⟩
  dsimp only
  rcases m with _ | k
  · have hab : a = b := by simpa using he
    subst hab
    (refine CW.seq ?_; refine CW.seq ?_; refine CW.region ?_; apply LW.v0; rfl; rfl; apply ValP.move; rfl; apply LW.v0; rfl; rfl; apply ValP.geqF; rfl; rfl; omega; apply LW.nil; refine thenN ?_; apply CW.condF; rfl; (with_reducible rfl); refine CW.exit ?_; refine thenE ?_; refine thenE ?_; refine blkE rfl ?_; refine thenN ?_; refine CW.seq ?_; refine CW.region ?_; apply LW.v0; rfl; rfl; apply ValP.assign; rfl; apply LW.nil; refine thenN ?_; refine CW.ret ?_)
    (apply finR; exact .inl rfl; rfl; rfl; rfl; apply ResL.cons; exact Res.tmp rfl; exact ResL.nil)
    rw [if_neg (Nat.lt_irrefl a), if_neg (Nat.lt_irrefl a)]; rfl
  · have e0 : (((k + 1 : Nat) : Int) - 1) = (k : Int) := by omega
    rw [e0]
    rcases Nat.lt_trichotomy (a / 2 ^ k % 2) (b / 2 ^ k % 2) with h | h | h
    · have hlt := cmp_lt a b k he h
      (refine CW.seq ?_; refine CW.seq ?_; refine CW.region ?_; apply LW.v0; rfl; rfl; apply ValP.move; rfl; apply LW.v0; rfl; rfl; apply ValP.geqT; rfl; rfl; omega; apply LW.nil; refine thenN ?_; apply CW.condT; rfl; (with_reducible rfl); refine CW.skip ?_; refine thenN ?_; refine CW.seq ?_; refine CW.block ?_; refine CW.seq ?_; apply CW.pre; refine AnyW.any 5 mixed (by decide +kernel) ?_; (try simp only [tsOf_cons, tsOf_nil, tsOf_app]); apply DW.loadO; rfl; rfl; rfl; exact WantT.none; rfl; apply TRead.tail; apply TRead.head; exact ancB_nil; exact Rd.whole rfl; apply DW.v0; rfl; rfl; rfl; exact WantT.none; rfl; apply ValP.move; rfl; apply DW.callE; rfl; rfl; rfl; exact WantT.none; rfl; infer_instance; apply ArgsOk.cons; rfl; apply ArgsOk.cons; rfl; exact ArgsOk.nil; rfl; exact ReadAll.nil; intro w _ _; refine Bit_calls _ _ ?_ ?_ w; assumption; omega; apply DW.loadO; rfl; rfl; rfl; exact WantT.none; rfl; apply TRead.head; exact ancB_nil; exact Rd.whole rfl; apply DW.v0; rfl; rfl; rfl; exact WantT.none; rfl; apply ValP.move; rfl; apply DW.nil; simp only [fsOf_cons, fsOf_nil, fsOf_app, fsOf_tsOf, fsOf_new]; apply LW.callE; rfl; rfl; infer_instance; apply ArgsOk.cons; rfl; apply ArgsOk.cons; rfl; exact ArgsOk.nil; intro w _; refine Bit_calls _ _ ?_ ?_ w; assumption; omega; apply LW.v0; rfl; rfl; apply ValP.assign; rfl; apply LW.v0; rfl; rfl; apply ValP.assign; rfl; apply LW.nil; refine thenN ?_; refine CW.seq ?_; refine CW.region ?_; apply LW.v0; rfl; rfl; apply ValP.move; rfl; apply LW.v0; rfl; rfl; apply ValP.move; rfl; apply LW.v0; rfl; rfl; apply ValP.lssT; rfl; rfl; omega; apply LW.nil; refine thenN ?_; apply CW.condT; rfl; (with_reducible rfl); refine CW.seq ?_; refine CW.region ?_; apply LW.v0; rfl; rfl; apply ValP.assign; rfl; apply LW.nil; refine thenN ?_; refine CW.ret ?_; refine blkR ?_; refine thenR ?_; refine thenR ?_; refine blkR ?_; refine thenR ?_)
      (apply finR; exact .inl rfl; rfl; rfl; rfl; apply ResL.cons; exact Res.tmp rfl; exact ResL.nil)
      rw [if_pos hlt]; rfl
    · have hq := cmp_eq a b k he h
      (refine CW.seq ?_; refine CW.seq ?_; refine CW.region ?_; apply LW.v0; rfl; rfl; apply ValP.move; rfl; apply LW.v0; rfl; rfl; apply ValP.geqT; rfl; rfl; omega; apply LW.nil; refine thenN ?_; apply CW.condT; rfl; (with_reducible rfl); refine CW.skip ?_; refine thenN ?_; refine CW.seq ?_; refine CW.block ?_; refine CW.seq ?_; apply CW.pre; refine AnyW.any 5 mixed (by decide +kernel) ?_; (try simp only [tsOf_cons, tsOf_nil, tsOf_app]); apply DW.loadO; rfl; rfl; rfl; exact WantT.none; rfl; apply TRead.tail; apply TRead.head; exact ancB_nil; exact Rd.whole rfl; apply DW.v0; rfl; rfl; rfl; exact WantT.none; rfl; apply ValP.move; rfl; apply DW.callE; rfl; rfl; rfl; exact WantT.none; rfl; infer_instance; apply ArgsOk.cons; rfl; apply ArgsOk.cons; rfl; exact ArgsOk.nil; rfl; exact ReadAll.nil; intro w _ _; refine Bit_calls _ _ ?_ ?_ w; assumption; omega; apply DW.loadO; rfl; rfl; rfl; exact WantT.none; rfl; apply TRead.head; exact ancB_nil; exact Rd.whole rfl; apply DW.v0; rfl; rfl; rfl; exact WantT.none; rfl; apply ValP.move; rfl; apply DW.nil; simp only [fsOf_cons, fsOf_nil, fsOf_app, fsOf_tsOf, fsOf_new]; apply LW.callE; rfl; rfl; infer_instance; apply ArgsOk.cons; rfl; apply ArgsOk.cons; rfl; exact ArgsOk.nil; intro w _; refine Bit_calls _ _ ?_ ?_ w; assumption; omega; apply LW.v0; rfl; rfl; apply ValP.assign; rfl; apply LW.v0; rfl; rfl; apply ValP.assign; rfl; apply LW.nil; refine thenN ?_; refine CW.seq ?_; refine CW.region ?_; apply LW.v0; rfl; rfl; apply ValP.move; rfl; apply LW.v0; rfl; rfl; apply ValP.move; rfl; apply LW.v0; rfl; rfl; apply ValP.lssF; rfl; rfl; omega; apply LW.nil; refine thenN ?_; apply CW.condF; rfl; (with_reducible rfl); refine CW.seq ?_; refine CW.region ?_; apply LW.v0; rfl; rfl; apply ValP.move; rfl; apply LW.v0; rfl; rfl; apply ValP.move; rfl; apply LW.v0; rfl; rfl; apply ValP.gtrF; rfl; rfl; omega; apply LW.nil; refine thenN ?_; apply CW.condF; rfl; (with_reducible rfl); refine CW.skip ?_; refine blkN ?_; refine thenN ?_; refine CW.region ?_; apply LW.v0; rfl; rfl; apply ValP.move; rfl; apply LW.v0; rfl; rfl; apply ValP.subI; rfl; rfl; omega; omega; apply LW.v0; rfl; rfl; apply ValP.assign; rfl; apply LW.nil)
      apply thenX
      exact ⟨rfl, k, ⟨by omega, hq⟩, Nat.lt_succ_self k, ⟨rfl, rfl, rfl, rfl, trivial⟩, List.Sublist.refl _⟩
    · have hlt := cmp_lt b a k he.symm h
      (refine CW.seq ?_; refine CW.seq ?_; refine CW.region ?_; apply LW.v0; rfl; rfl; apply ValP.move; rfl; apply LW.v0; rfl; rfl; apply ValP.geqT; rfl; rfl; omega; apply LW.nil; refine thenN ?_; apply CW.condT; rfl; (with_reducible rfl); refine CW.skip ?_; refine thenN ?_; refine CW.seq ?_; refine CW.block ?_; refine CW.seq ?_; apply CW.pre; refine AnyW.any 5 mixed (by decide +kernel) ?_; (try simp only [tsOf_cons, tsOf_nil, tsOf_app]); apply DW.loadO; rfl; rfl; rfl; exact WantT.none; rfl; apply TRead.tail; apply TRead.head; exact ancB_nil; exact Rd.whole rfl; apply DW.v0; rfl; rfl; rfl; exact WantT.none; rfl; apply ValP.move; rfl; apply DW.callE; rfl; rfl; rfl; exact WantT.none; rfl; infer_instance; apply ArgsOk.cons; rfl; apply ArgsOk.cons; rfl; exact ArgsOk.nil; rfl; exact ReadAll.nil; intro w _ _; refine Bit_calls _ _ ?_ ?_ w; assumption; omega; apply DW.loadO; rfl; rfl; rfl; exact WantT.none; rfl; apply TRead.head; exact ancB_nil; exact Rd.whole rfl; apply DW.v0; rfl; rfl; rfl; exact WantT.none; rfl; apply ValP.move; rfl; apply DW.nil; simp only [fsOf_cons, fsOf_nil, fsOf_app, fsOf_tsOf, fsOf_new]; apply LW.callE; rfl; rfl; infer_instance; apply ArgsOk.cons; rfl; apply ArgsOk.cons; rfl; exact ArgsOk.nil; intro w _; refine Bit_calls _ _ ?_ ?_ w; assumption; omega; apply LW.v0; rfl; rfl; apply ValP.assign; rfl; apply LW.v0; rfl; rfl; apply ValP.assign; rfl; apply LW.nil; refine thenN ?_; refine CW.seq ?_; refine CW.region ?_; apply LW.v0; rfl; rfl; apply ValP.move; rfl; apply LW.v0; rfl; rfl; apply ValP.move; rfl; apply LW.v0; rfl; rfl; apply ValP.lssF; rfl; rfl; omega; apply LW.nil; refine thenN ?_; apply CW.condF; rfl; (with_reducible rfl); refine CW.seq ?_; refine CW.region ?_; apply LW.v0; rfl; rfl; apply ValP.move; rfl; apply LW.v0; rfl; rfl; apply ValP.move; rfl; apply LW.v0; rfl; rfl; apply ValP.gtrT; rfl; rfl; omega; apply LW.nil; refine thenN ?_; apply CW.condT; rfl; (with_reducible rfl); refine CW.seq ?_; refine CW.region ?_; apply LW.v0; rfl; rfl; apply ValP.assign; rfl; apply LW.nil; refine thenN ?_; refine CW.ret ?_; refine blkR ?_; refine thenR ?_; refine thenR ?_; refine blkR ?_; refine thenR ?_)
      (apply finR; exact .inl rfl; rfl; rfl; rfl; apply ResL.cons; exact Res.tmp rfl; exact ResL.nil)
      rw [if_neg (by omega), if_pos hlt]; rfl
end Go.Proofs.Ytobkhnmglbfheaa

/-
  Sums, differences, and how words stand: the law.
  Conditions: none.
-/
namespace Go.Proofs.Ytobkhnmglbfheaa
open Go Go.RowKit SL
set_option maxRecDepth 8000
set_option maxHeartbeats 4000000
set_option linter.unusedSimpArgs false
set_option linter.unusedVariables false
attribute [local irreducible] SL.CW SL.LW SL.DW Calls SL.Ret SL.RetG SL.beginQ SL.roundQ SL.rangeQ SL.inQ SL.RW SL.AnyW SL.thenQ SL.thenC SL.thenW SL.blkQ SL.finQ SL.ValP SL.NewP SL.SetP SL.CallP SL.Rd SL.Wr SL.Known
/-- The cells of pairs of words. -/
def pcs (l : List (Nat × Nat)) : List Value := l.flatMap fun x => (wc x.1).toList ++ (wc x.2).toList
theorem pcs_len (l : List (Nat × Nat)) : ∀ x ∈ l, ((wc x.1).toList ++ (wc x.2).toList).length = 8 := fun _ _ => rfl
theorem wcs_app (l r : List Nat) : wcs (l ++ r) = wcs l ++ wcs r := by simp [wcs]
theorem pair_rd0 (a b : Nat) {E : TypeId} {fr : Nat × Nat} : Rd Try.prog 28 (.cells ((wc a).toList ++ (wc b).toList).toArray E fr) 0 (wv a) := Rd.mid (cs := (wc a).toList) rfl rfl
theorem pair_rd1 (a b : Nat) {E : TypeId} {fr : Nat × Nat} : Rd Try.prog 28 (.cells ((wc a).toList ++ (wc b).toList).toArray E fr) 4 (wv b) := Rd.mid (cs := (wc b).toList) rfl rfl
end Go.Proofs.Ytobkhnmglbfheaa

/-
  The sum of many: the law.
  Conditions: none.
-/
namespace Go.Proofs.Ytobkhnmglbfheaa
open Go Go.RowKit SL
set_option maxRecDepth 8000
set_option maxHeartbeats 4000000
set_option linter.unusedSimpArgs false
set_option linter.unusedVariables false
attribute [local irreducible] SL.CW SL.LW SL.DW Calls SL.Ret SL.RetG SL.beginQ SL.roundQ SL.rangeQ SL.inQ SL.RW SL.AnyW SL.thenQ SL.thenC SL.thenW SL.blkQ SL.finQ SL.ValP SL.NewP SL.SetP SL.CallP SL.Rd SL.Wr SL.Known
theorem wcs_take (l : List Nat) (k : Nat) : (wcs l).take (k * 4) = wcs (l.take k) := by
  induction l generalizing k with
  | nil => simp [wcs]
  | cons a l ih =>
    cases k with
    | zero => simp [wcs]
    | succ k =>
      have := ih k
      simp only [wcs, List.flatMap_cons, List.take_succ_cons] at *
      rw [← this, show (k + 1) * 4 = (wc a).toList.length + k * 4 by show (k + 1) * 4 = 4 + k * 4; omega, List.take_length_add_append]
theorem wcs_drop (l : List Nat) (k : Nat) : (wcs l).drop (k * 4) = wcs (l.drop k) := by
  induction l generalizing k with
  | nil => simp [wcs]
  | cons a l ih =>
    cases k with
    | zero => simp [wcs]
    | succ k =>
      have := ih k
      simp only [wcs, List.flatMap_cons, List.drop_succ_cons] at *
      rw [← this, show (k + 1) * 4 = (wc a).toList.length + k * 4 by show (k + 1) * 4 = 4 + k * 4; omega, List.drop_length_add_append]
theorem wcs_cells (l : List Nat) : ∀ u ∈ wcs l, u.oneCell' = true := fun u hu => by
  obtain ⟨a, _, hb⟩ := List.mem_flatMap.1 hu
  simp only [wc, List.mem_cons, List.not_mem_nil, or_false] at hb
  rcases hb with rfl | rfl | rfl | rfl <;> rfl
/-- The first k backwards, the others as they were. -/
def half (l : List Nat) (k : Nat) : List Nat := l.reverse.take k ++ l.drop k
theorem half_len (l : List Nat) (k : Nat) (h : k ≤ l.length) : (half l k).length = l.length := by simp [half]; omega
theorem half_step (l : List Nat) (k : Nat) (h : k < l.length) : wcs ((half l k).take k) ++ (wc l[l.length - 1 - k]).toList ++ wcs ((half l k).drop (k + 1)) = wcs (half l (k + 1)) := by
  have h1 : (l.reverse.take k).length = k := by simp; omega
  have e1 : (half l k).take k = l.reverse.take k := by unfold half; rw [List.take_append_of_le_length (by omega), List.take_of_length_le (by omega)]
  have e2 : (half l k).drop (k + 1) = l.drop (k + 1) := by
    unfold half
    rw [List.drop_append, h1, List.drop_eq_nil_of_le (by omega), List.nil_append, List.drop_drop]
    congr 1; omega
  have hr : k < l.reverse.length := by simpa using h
  rw [e1, e2, show (wc l[l.length - 1 - k]).toList = wcs [l[l.length - 1 - k]] by simp [wcs], ← wcs_app, ← wcs_app]
  unfold half
  rw [List.take_succ_eq_append_getElem hr, List.getElem_reverse]
structure RW1 where
  m : Nat
  seg : Fs
end Go.Proofs.Ytobkhnmglbfheaa

/-
  The document's answer in bits: products.
  Conditions: none.
-/
namespace Go.Proofs.Ytobkhnmglbfheaa
open Go Go.RowKit SL
set_option maxRecDepth 8000
set_option maxHeartbeats 4000000
set_option linter.unusedSimpArgs false
set_option linter.unusedVariables false
attribute [local irreducible] SL.CW SL.LW SL.DW Calls SL.Ret SL.RetG SL.beginQ SL.roundQ SL.rangeQ SL.inQ SL.RW SL.AnyW SL.thenQ SL.thenC SL.thenW SL.blkQ SL.finQ SL.ValP SL.NewP SL.SetP SL.CallP SL.Rd SL.Wr SL.Known
theorem anyFrom_calls (x m f : Nat) (hx : x < 2 ^ m) (hm : m < 1000) (hf : f < 1000) (v : Value) (w : World) (hv : RowAt w 1 v m (ics (bl x m))) : Calls Try.prog 68 #[v, .int .i64 (f : Int)] w (Ret w (.bool (decide (2 ^ f ≤ x)))) := by
  obtain ⟨p, c, rfl, hc, hmx⟩ := hv.form
  refine enter (args := [_, _]) _ [] [] Try.func68 rfl Try.ntmps68 rfl (by simp) .nil ?_
  (refine CW.seq ?_; refine CW.region ?_; apply LW.v0; rfl; rfl; apply ValP.assign; rfl; apply LW.nil; refine thenN ?_; refine CW.seq ?_; refine CW.seq ?_; refine CW.region ?_; apply LW.v0; rfl; rfl; apply ValP.move; rfl; apply LW.v0; rfl; rfl; apply ValP.lenR; rfl; infer_instance; rfl; apply LW.v0; rfl; rfl; apply ValP.move; rfl; apply LW.nil; refine thenN ?_; refine CW.block ?_)
  refine CW.loop (fun k : Nat => ([(9, .int .i64 (k : Int)), (8, .int .i64 (m : Int)), (7, .slice p m c), (4, .bool false), (1, .int .i64 (f : Int))], []))
    (fun k => k ≤ m ∧ x % 2 ^ k < 2 ^ f) (fun k => m - k) 0 ⟨Nat.zero_le _, by rw [Nat.pow_zero, Nat.mod_one]; exact pow_pos2 f⟩ ⟨rfl, rfl, rfl, rfl, rfl, trivial⟩ (List.Sublist.refl _) ?_
  rintro k ⟨hk, hlow⟩
  dsimp only at hk ⊢
  rcases Nat.lt_or_ge k m with hlt | hge
  · obtain ⟨ba, oa, _, csa, Ea, fra, ea, hba, hxa⟩ := hv.pos (by omega)
    cases ea
    have hra : Rd Try.prog 3 (.cells csa Ea fra) (oa + k * 1) (.int .i64 ((x / 2 ^ k % 2 : Nat) : Int)) := Rd.elem1 hxa (ics_len _) (bl_get x m k hlt) rfl
    have hstep : x % 2 ^ (k + 1) = x % 2 ^ k + 2 ^ k * (x / 2 ^ k % 2) := Nat.mod_pow_succ
    rcases Nat.mod_two_eq_zero_or_one (x / 2 ^ k) with hb | hb
    · rw [hb] at hra
      have hl2 : x % 2 ^ (k + 1) < 2 ^ f := by rw [hstep, hb]; omega
      rcases Nat.lt_or_ge k f with h | h
      · (refine CW.seq ?_; refine CW.region ?_; apply LW.v0; rfl; rfl; apply ValP.lssT; rfl; rfl; omega; apply LW.nil; refine thenN ?_; refine CW.seq ?_; apply CW.condT; rfl; (with_reducible rfl); refine CW.skip ?_; refine thenN ?_; refine CW.seq ?_; refine CW.block ?_; refine CW.seq ?_; refine CW.region ?_; apply LW.v0; rfl; rfl; apply ValP.move; rfl; apply LW.v0; rfl; rfl; apply ValP.indexAddrS; rfl; rfl; rfl; omega; apply LW.load; rfl; rfl; exact Known.ext (by assumption) (by simp); assumption; apply LW.v0; rfl; rfl; apply ValP.assign; rfl; apply LW.v0; rfl; rfl; apply ValP.assign; rfl; apply LW.nil; refine thenN ?_; refine CW.seq ?_; refine CW.region ?_; apply LW.v0; rfl; rfl; apply ValP.move; rfl; apply LW.v0; rfl; rfl; apply ValP.move; rfl; apply LW.v0; rfl; rfl; apply ValP.geqF; rfl; rfl; omega; apply LW.v0; rfl; rfl; apply ValP.move; rfl; apply LW.guardF'; rfl; rfl; simp only [Bool.not_true, Bool.not_false]; rfl; apply LW.guardF'; rfl; rfl; simp only [Bool.not_true, Bool.not_false]; rfl; apply LW.v0; rfl; rfl; apply ValP.pickF'; rfl; (with_reducible rfl); rfl; apply LW.nil; refine thenN ?_; apply CW.condF; rfl; (with_reducible rfl); refine CW.skip ?_; refine blkN ?_; refine thenN ?_; refine CW.region ?_; apply LW.v0; rfl; rfl; apply ValP.addZL; rfl; rfl; decide; omega; apply LW.v0; rfl; rfl; apply ValP.move; rfl; apply LW.nil)
        apply thenX
        exact ⟨rfl, k + 1, ⟨hlt, hl2⟩, by omega, ⟨rfl, rfl, rfl, rfl, rfl, trivial⟩, List.Sublist.refl _⟩
      · (refine CW.seq ?_; refine CW.region ?_; apply LW.v0; rfl; rfl; apply ValP.lssT; rfl; rfl; omega; apply LW.nil; refine thenN ?_; refine CW.seq ?_; apply CW.condT; rfl; (with_reducible rfl); refine CW.skip ?_; refine thenN ?_; refine CW.seq ?_; refine CW.block ?_; refine CW.seq ?_; refine CW.region ?_; apply LW.v0; rfl; rfl; apply ValP.move; rfl; apply LW.v0; rfl; rfl; apply ValP.indexAddrS; rfl; rfl; rfl; omega; apply LW.load; rfl; rfl; exact Known.ext (by assumption) (by simp); assumption; apply LW.v0; rfl; rfl; apply ValP.assign; rfl; apply LW.v0; rfl; rfl; apply ValP.assign; rfl; apply LW.nil; refine thenN ?_; refine CW.seq ?_; refine CW.region ?_; apply LW.v0; rfl; rfl; apply ValP.move; rfl; apply LW.v0; rfl; rfl; apply ValP.move; rfl; apply LW.v0; rfl; rfl; apply ValP.geqT; rfl; rfl; omega; apply LW.v0; rfl; rfl; apply ValP.move; rfl; apply LW.guardT'; rfl; rfl; (with_reducible rfl); apply LW.v0; rfl; rfl; apply ValP.move; rfl; apply LW.guardT'; rfl; rfl; (with_reducible rfl); apply LW.v0; rfl; rfl; apply ValP.eqF; rfl; rfl; omega; apply LW.v0; rfl; rfl; apply ValP.pickT'; rfl; (with_reducible rfl); rfl; apply LW.nil; refine thenN ?_; apply CW.condF; rfl; (with_reducible rfl); refine CW.skip ?_; refine blkN ?_; refine thenN ?_; refine CW.region ?_; apply LW.v0; rfl; rfl; apply ValP.addZL; rfl; rfl; decide; omega; apply LW.v0; rfl; rfl; apply ValP.move; rfl; apply LW.nil)
        apply thenX
        exact ⟨rfl, k + 1, ⟨hlt, hl2⟩, by omega, ⟨rfl, rfl, rfl, rfl, rfl, trivial⟩, List.Sublist.refl _⟩
    · rw [hb] at hra
      rcases Nat.lt_or_ge k f with h | h
      · have hl2 : x % 2 ^ (k + 1) < 2 ^ f := Nat.lt_of_lt_of_le (Nat.mod_lt _ (pow_pos2 _)) (Nat.pow_le_pow_right (n := 2) (by decide) h)
        (refine CW.seq ?_; refine CW.region ?_; apply LW.v0; rfl; rfl; apply ValP.lssT; rfl; rfl; omega; apply LW.nil; refine thenN ?_; refine CW.seq ?_; apply CW.condT; rfl; (with_reducible rfl); refine CW.skip ?_; refine thenN ?_; refine CW.seq ?_; refine CW.block ?_; refine CW.seq ?_; refine CW.region ?_; apply LW.v0; rfl; rfl; apply ValP.move; rfl; apply LW.v0; rfl; rfl; apply ValP.indexAddrS; rfl; rfl; rfl; omega; apply LW.load; rfl; rfl; exact Known.ext (by assumption) (by simp); assumption; apply LW.v0; rfl; rfl; apply ValP.assign; rfl; apply LW.v0; rfl; rfl; apply ValP.assign; rfl; apply LW.nil; refine thenN ?_; refine CW.seq ?_; refine CW.region ?_; apply LW.v0; rfl; rfl; apply ValP.move; rfl; apply LW.v0; rfl; rfl; apply ValP.move; rfl; apply LW.v0; rfl; rfl; apply ValP.geqF; rfl; rfl; omega; apply LW.v0; rfl; rfl; apply ValP.move; rfl; apply LW.guardF'; rfl; rfl; simp only [Bool.not_true, Bool.not_false]; rfl; apply LW.guardF'; rfl; rfl; simp only [Bool.not_true, Bool.not_false]; rfl; apply LW.v0; rfl; rfl; apply ValP.pickF'; rfl; (with_reducible rfl); rfl; apply LW.nil; refine thenN ?_; apply CW.condF; rfl; (with_reducible rfl); refine CW.skip ?_; refine blkN ?_; refine thenN ?_; refine CW.region ?_; apply LW.v0; rfl; rfl; apply ValP.addZL; rfl; rfl; decide; omega; apply LW.v0; rfl; rfl; apply ValP.move; rfl; apply LW.nil)
        apply thenX
        exact ⟨rfl, k + 1, ⟨hlt, hl2⟩, by omega, ⟨rfl, rfl, rfl, rfl, rfl, trivial⟩, List.Sublist.refl _⟩
      · have hge2 : 2 ^ f ≤ x := by
          rcases Nat.lt_or_ge x (2 ^ k) with h1 | h1
          · rw [Nat.div_eq_of_lt h1] at hb; cases hb
          · exact Nat.le_trans (Nat.pow_le_pow_right (n := 2) (by decide) h) h1
        (refine CW.seq ?_; refine CW.region ?_; apply LW.v0; rfl; rfl; apply ValP.lssT; rfl; rfl; omega; apply LW.nil; refine thenN ?_; refine CW.seq ?_; apply CW.condT; rfl; (with_reducible rfl); refine CW.skip ?_; refine thenN ?_; refine CW.seq ?_; refine CW.block ?_; refine CW.seq ?_; refine CW.region ?_; apply LW.v0; rfl; rfl; apply ValP.move; rfl; apply LW.v0; rfl; rfl; apply ValP.indexAddrS; rfl; rfl; rfl; omega; apply LW.load; rfl; rfl; exact Known.ext (by assumption) (by simp); assumption; apply LW.v0; rfl; rfl; apply ValP.assign; rfl; apply LW.v0; rfl; rfl; apply ValP.assign; rfl; apply LW.nil; refine thenN ?_; refine CW.seq ?_; refine CW.region ?_; apply LW.v0; rfl; rfl; apply ValP.move; rfl; apply LW.v0; rfl; rfl; apply ValP.move; rfl; apply LW.v0; rfl; rfl; apply ValP.geqT; rfl; rfl; omega; apply LW.v0; rfl; rfl; apply ValP.move; rfl; apply LW.guardT'; rfl; rfl; (with_reducible rfl); apply LW.v0; rfl; rfl; apply ValP.move; rfl; apply LW.guardT'; rfl; rfl; (with_reducible rfl); apply LW.v0; rfl; rfl; apply ValP.eqT; rfl; rfl; omega; apply LW.v0; rfl; rfl; apply ValP.pickT'; rfl; (with_reducible rfl); rfl; apply LW.nil; refine thenN ?_; apply CW.condT; rfl; (with_reducible rfl); refine CW.seq ?_; refine CW.region ?_; apply LW.v0; rfl; rfl; apply ValP.assign; rfl; apply LW.nil; refine thenN ?_; refine CW.ret ?_; refine blkR ?_; refine thenR ?_; refine thenR ?_; refine blkR ?_; refine thenR ?_)
        (apply finR; exact .inl rfl; rfl; rfl; rfl; apply ResL.cons; exact Res.tmp rfl; exact ResL.nil)
        rw [decide_eq_true hge2]; rfl
  · obtain rfl : k = m := by omega
    rw [Nat.mod_eq_of_lt hx] at hlow
    (refine CW.seq ?_; refine CW.region ?_; apply LW.v0; rfl; rfl; apply ValP.lssF; rfl; rfl; omega; apply LW.nil; refine thenN ?_; refine CW.seq ?_; apply CW.condF; rfl; (with_reducible rfl); refine CW.exit ?_; refine thenE ?_; refine thenE ?_; refine blkE rfl ?_; refine thenN ?_; refine CW.seq ?_; refine CW.region ?_; apply LW.v0; rfl; rfl; apply ValP.assign; rfl; apply LW.nil; refine thenN ?_; refine CW.ret ?_)
    (apply finR; exact .inl rfl; rfl; rfl; rfl; apply ResL.cons; exact Res.tmp rfl; exact ResL.nil)
    rw [decide_eq_false (Nat.not_le.2 hlow)]; rfl
theorem bl_shift (a k : Nat) : List.replicate k 0 ++ bl a 256 = bl (a * 2 ^ k) (k + 256) := by
  apply List.ext_getElem?
  intro i
  rcases Nat.lt_or_ge i k with h | h
  · rw [List.getElem?_append_left (by simpa using h), List.getElem?_replicate, if_pos h, bl_get _ _ _ (by omega)]
    obtain ⟨j, rfl⟩ : ∃ j, k = i + 1 + j := ⟨k - i - 1, by omega⟩
    rw [Nat.pow_add, Nat.pow_succ, Nat.mul_comm (2 ^ i) 2, Nat.mul_assoc 2, ← Nat.mul_assoc, Nat.mul_comm a 2, Nat.mul_assoc, Nat.mul_left_comm a, ← Nat.mul_assoc, Nat.mul_comm 2 (2 ^ i), Nat.mul_assoc, Nat.mul_div_cancel_left _ (pow_pos2 i), Nat.mul_mod_right]
  · rw [List.getElem?_append_right (by simpa using h), List.length_replicate]
    rcases Nat.lt_or_ge i (k + 256) with h2 | h2
    · rw [bl_get _ _ _ (by omega), bl_get _ _ _ h2]
      obtain ⟨j, rfl⟩ : ∃ j, i = k + j := ⟨i - k, by omega⟩
      rw [show k + j - k = j by omega, Nat.pow_add, Nat.mul_comm a, Nat.mul_div_mul_left _ _ (pow_pos2 k)]
    · rw [List.getElem?_eq_none (by rw [bl_len]; omega), List.getElem?_eq_none (by rw [bl_len]; exact h2)]
theorem bl_high (x j : Nat) (h : x < 2 ^ j) : x / 2 ^ j % 2 = 0 := by rw [Nat.div_eq_of_lt h]
theorem pow_le2 {i j : Nat} (h : i ≤ j) : 2 ^ i ≤ 2 ^ j := Nat.pow_le_pow_right (by decide) h
theorem lt_more {x i n : Nat} (h : x < 2 ^ i) (hn : i ≤ n) : x < 2 ^ n := Nat.lt_of_lt_of_le h (pow_le2 hn)
theorem mul_lt_pow {x y i j n : Nat} (hx : x < 2 ^ i) (hy : y < 2 ^ j) (h : i + j ≤ n) : x * y < 2 ^ n := lt_more (by rw [Nat.pow_add]; exact Nat.mul_lt_mul'' hx hy) h
theorem bl_take (x m k : Nat) (h : k ≤ m) : (bl x m).take k = bl x k := by
  apply List.ext_getElem?
  intro i
  rw [List.getElem?_take]
  split
  · rename_i hi
    rw [bl_get _ _ _ hi, bl_get _ _ _ (by omega)]
  · rw [List.getElem?_eq_none (by rw [bl_len]; omega)]
theorem rMul_calls (a b : Nat) (ha : a < M256) (hb : b < M256) (w : World) : Calls Try.prog 44 #[wv a, wv b] w (Ret w (.tuple #[wv (a * b % M256), .bool (decide (M256 ≤ a * b))])) := by
  refine enter (args := [_, _]) _ [] [] Try.func44 rfl Try.ntmps44 rfl (by simp) .nil ?_
  (refine CW.seq ?_; refine CW.region ?_; apply LW.boxA; rfl; rfl; intro _; apply LW.boxA; rfl; rfl; intro _; apply LW.allocW; rfl; intro _; apply LW.v0; rfl; rfl; apply ValP.assign; rfl; apply LW.nil; refine thenN ?_; refine CW.seq ?_; refine CW.region ?_)
  apply LW.makeRow
  rfl
  infer_instance
  infer_instance
  infer_instance
  rfl
  rfl
  decide
  (simp [maxLen])
  intro va ga hra
  obtain ⟨pa, ca, rfl⟩ := hra.form
  (apply LW.v0; rfl; rfl; apply ValP.assign; rfl; apply LW.nil; refine thenN ?_; refine CW.seq ?_; refine CW.region ?_; apply LW.load; rfl; rfl; apply Known.at; apply FsAt.app; apply FsAt.tail; apply FsAt.tail; apply FsAt.head; exact Rd.whole rfl)
  (apply LW.callR; rfl; rfl; infer_instance; apply ArgsOk.cons; rfl; apply ArgsOk.cons; rfl; exact ArgsOk.nil; intro w hs)
  exact bits_calls _ _ (by assumption) (by decide) w
  intro vo go hro
  replace hro : IsRow 3 1 vo 256 (ics (bl a 256)) go := hro
  obtain ⟨po, co, rfl⟩ := hro.form
  (apply LW.v0; rfl; rfl; apply ValP.assign; rfl; apply LW.nil; refine thenN ?_; refine CW.seq ?_; refine CW.seq ?_; refine CW.region ?_; apply LW.v0; rfl; rfl; apply ValP.move; rfl; apply LW.nil; refine thenN ?_; refine CW.block ?_)
  rename_i ba bb bc
  refine CW.perm (List.perm_append_comm_assoc ga go _) ?_
  refine CW.loop (fun x : RC => ([(13, .int .i64 (x.m : Int)), (7, .slice po 256 co), (6, x.v), (5, .bool false), (4, .pointer (some ⟨bc, 0, none⟩)), (3, .pointer (some ⟨bb, 0, none⟩)), (2, .pointer (some ⟨ba, 0, none⟩))],
      x.seg ++ (go ++ [(bc, .cells (wc 0) 28 (0, 0)), (bb, .cells (wc b) 28 (0, 0)), (ba, .cells (wc a) 28 (0, 0))])))
    (fun x => x.m ≤ 256 ∧ IsRow 3 1 x.v 513 (ics (bl (a * (b % 2 ^ x.m)) 513)) x.seg) (fun x => 256 - x.m) ⟨0, .slice pa 513 ca, ga⟩ ⟨Nat.zero_le _, ?_⟩ ⟨rfl, rfl, rfl, rfl, rfl, rfl, rfl, trivial⟩ (by (exact List.Sublist.refl _)) ?_
  · rw [Nat.pow_zero, Nat.mod_one, Nat.mul_zero, show bl 0 513 = List.replicate 513 0 from by simp [bl, List.map_const'], ← ics_zero]
    exact hra
  rintro ⟨k, v, seg⟩ ⟨hk, hrow⟩
  dsimp only at hk hrow ⊢
  obtain ⟨p, c, rfl⟩ := hrow.form
  have hstep : b % 2 ^ (k + 1) = b % 2 ^ k + 2 ^ k * (b / 2 ^ k % 2) := Nat.mod_pow_succ
  rcases Nat.lt_or_ge k 256 with hlt | hge
  · rcases Nat.mod_two_eq_zero_or_one (b / 2 ^ k) with hbit | hbit
    · (refine CW.seq ?_; refine CW.region ?_; apply LW.v0; rfl; rfl; apply ValP.lssT; rfl; rfl; omega; apply LW.nil; refine thenN ?_; refine CW.seq ?_; apply CW.condT; rfl; (with_reducible rfl); refine CW.skip ?_; refine thenN ?_; refine CW.seq ?_; refine CW.block ?_; refine CW.seq ?_; refine CW.region ?_; apply LW.v0; rfl; rfl; apply ValP.move; rfl; apply LW.v0; rfl; rfl; apply ValP.assign; rfl; apply LW.nil; refine thenN ?_; refine CW.seq ?_; refine CW.seq ?_; refine CW.region ?_; apply LW.load; rfl; rfl; apply Known.at; apply FsAt.app; apply FsAt.app; apply FsAt.tail; apply FsAt.head; exact Rd.whole rfl; apply LW.v0; rfl; rfl; apply ValP.move; rfl; apply LW.callE; rfl; rfl; infer_instance; apply ArgsOk.cons; rfl; apply ArgsOk.cons; rfl; exact ArgsOk.nil; intro w _; refine Bit_calls _ _ ?_ ?_ w; assumption; omega; apply LW.v0; rfl; rfl; apply ValP.eqT; rfl; rfl; omega; apply LW.nil; refine thenN ?_; apply CW.condT; rfl; (with_reducible rfl); refine CW.exit ?_; refine thenE ?_; refine blkE rfl ?_; refine thenN ?_; refine CW.region ?_; apply LW.v0; rfl; rfl; apply ValP.addZL; rfl; rfl; decide; omega; apply LW.v0; rfl; rfl; apply ValP.move; rfl; apply LW.nil)
      apply thenX
      exact ⟨rfl, ⟨k + 1, _, seg⟩, ⟨hlt, by rw [hstep, hbit, Nat.mul_zero, Nat.add_zero]; exact hrow⟩, by show 256 - (k + 1) < 256 - k; omega, ⟨rfl, rfl, rfl, rfl, rfl, rfl, rfl, trivial⟩, List.Sublist.refl _⟩
    · have ha2 : a < 2 ^ 256 := ha
      have hb2 : b % 2 ^ k < 2 ^ k := Nat.mod_lt _ (pow_pos2 k)
      have hy : a * 2 ^ k < 2 ^ (k + 256) := by rw [Nat.add_comm, Nat.pow_add]; exact Nat.mul_lt_mul_of_pos_right ha2 (pow_pos2 k)
      have hy513 := lt_more (n := 513) hy (by omega)
      have hx513 : a * (b % 2 ^ k) < 2 ^ 513 := Nat.lt_of_le_of_lt (Nat.mul_le_mul_left a (Nat.le_of_lt hb2)) hy513
      have hsum : a * (b % 2 ^ k) + a * 2 ^ k = a * (b % 2 ^ (k + 1)) := by rw [hstep, hbit, Nat.mul_one, Nat.mul_add]
      (refine CW.seq ?_; refine CW.region ?_; apply LW.v0; rfl; rfl; apply ValP.lssT; rfl; rfl; omega; apply LW.nil; refine thenN ?_; refine CW.seq ?_; apply CW.condT; rfl; (with_reducible rfl); refine CW.skip ?_; refine thenN ?_; refine CW.seq ?_; refine CW.block ?_; refine CW.seq ?_; refine CW.region ?_; apply LW.v0; rfl; rfl; apply ValP.move; rfl; apply LW.v0; rfl; rfl; apply ValP.assign; rfl; apply LW.nil; refine thenN ?_; refine CW.seq ?_; refine CW.seq ?_; refine CW.region ?_; apply LW.load; rfl; rfl; apply Known.at; apply FsAt.app; apply FsAt.app; apply FsAt.tail; apply FsAt.head; exact Rd.whole rfl; apply LW.v0; rfl; rfl; apply ValP.move; rfl; apply LW.callE; rfl; rfl; infer_instance; apply ArgsOk.cons; rfl; apply ArgsOk.cons; rfl; exact ArgsOk.nil; intro w _; refine Bit_calls _ _ ?_ ?_ w; assumption; omega; apply LW.v0; rfl; rfl; apply ValP.eqF; rfl; rfl; omega; apply LW.nil; refine thenN ?_; apply CW.condF; rfl; (with_reducible rfl); refine CW.skip ?_; refine thenN ?_; refine CW.seq ?_; refine CW.region ?_; apply LW.v0; rfl; rfl; apply ValP.move; rfl)
      apply LW.makeRow
      rfl
      infer_instance
      infer_instance
      infer_instance
      rfl
      rfl
      omega
      (simp only [maxLen]; omega)
      intro vm gm hrm
      obtain ⟨pm, cm, rfl⟩ := hrm.form
      (apply LW.v0; rfl; rfl; apply ValP.move; rfl)
      refine LW.appendAt rfl rfl inferInstance inferInstance inferInstance rfl rfl rfl (by (exact AtSeg.head)) hrm (fun w hs => hro.atSeg (by (apply AtSeg.app; apply AtSeg.app; exact AtSeg.head)) hs) (ics_cells _) (by decide) (by simp only [maxLen]; omega) (by omega) ?_
      intro v2 g2 hr2
      rw [ics_zero, ← ics_app, bl_shift] at hr2
      obtain ⟨p2, c2, rfl⟩ := hr2.form
      refine ⟨_, (by (exact AtSeg.head)), ?_⟩
      try simp only [List.nil_append]
      (apply LW.v0; rfl; rfl; apply ValP.assign; rfl; apply LW.nil; refine thenN ?_; refine CW.seq ?_; refine CW.block ?_)
      refine CW.loop (fun x : RC => ([(9, x.v), (13, .int .i64 (k : Int)), (7, .slice po 256 co), (6, .slice p 513 c), (5, .bool false), (4, .pointer (some ⟨bc, 0, none⟩)), (3, .pointer (some ⟨bb, 0, none⟩)), (2, .pointer (some ⟨ba, 0, none⟩))],
          x.seg ++ (seg ++ (go ++ [(bc, .cells (wc 0) 28 (0, 0)), (bb, .cells (wc b) 28 (0, 0)), (ba, .cells (wc a) 28 (0, 0))]))))
        (fun x => k + 256 ≤ x.m ∧ x.m ≤ 513 ∧ IsRow 3 1 x.v x.m (ics (bl (a * 2 ^ k) x.m)) x.seg) (fun x => 513 - x.m) ⟨k + 256, .slice p2 (k + 256) c2, g2⟩ ⟨Nat.le_refl _, by show k + 256 ≤ 513; omega, hr2⟩ ⟨rfl, rfl, rfl, rfl, rfl, rfl, rfl, rfl, trivial⟩ (by (exact List.Sublist.refl _)) ?_
      rintro ⟨j, vj, sj⟩ ⟨hj1, hj2, hrj⟩
      dsimp only at hj1 hj2 hrj ⊢
      obtain ⟨pj, cj, rfl⟩ := hrj.form
      rcases Nat.lt_or_ge j 513 with hjl | hjg
      · have hz : (a * 2 ^ k) / 2 ^ j % 2 = 0 := bl_high _ _ (Nat.lt_of_lt_of_le hy (Nat.pow_le_pow_right (n := 2) (by decide) hj1))
        (refine CW.seq ?_; refine CW.seq ?_; refine CW.region ?_; apply LW.v0; rfl; rfl; apply ValP.move; rfl; apply LW.v0; rfl; rfl; apply ValP.lenR; rfl; infer_instance; rfl; apply LW.v0; rfl; rfl; apply ValP.lssT; rfl; rfl; omega; apply LW.nil; refine thenN ?_; apply CW.condT; rfl; (with_reducible rfl); refine CW.skip ?_; refine thenN ?_; refine CW.block ?_; refine CW.region ?_; apply LW.v0; rfl; rfl; apply ValP.move; rfl; apply LW.lay1; rfl; infer_instance; infer_instance; rfl; rfl; rfl; rfl; rfl; rfl; intro _)
        (apply LW.append; rfl; rfl; infer_instance; infer_instance; infer_instance; rfl; rfl; rfl; (case hrow => assumption); apply AtSeg.cons; exact AtSeg.head; apply Known.at; apply FsAt.head; rfl; rfl; rfl; omega; simp only [maxLen]; omega; omega; intro v' seg' hrow'; obtain ⟨p', c', rfl⟩ := hrow'.form; (refine ⟨_, (by (repeat (first | exact AtSeg.head | apply AtSeg.cons | apply AtSeg.app))), ?_⟩); (try simp only [List.cons_append, List.nil_append]))
        (apply LW.v0; rfl; rfl; apply ValP.assign; rfl; apply LW.nil; refine blkN ?_)
        apply thenX
        exact ⟨rfl, ⟨j + 1, _, seg'⟩, ⟨by show k + 256 ≤ j + 1; omega, hjl, by rw [bl_succ, ics_app, hz]; exact hrow'⟩, by show 513 - (j + 1) < 513 - j; omega, ⟨rfl, rfl, rfl, rfl, rfl, rfl, rfl, rfl, trivial⟩, by (apply List.Sublist.cons; exact List.Sublist.refl _)⟩
      · obtain rfl : j = 513 := by omega
        (refine CW.seq ?_; refine CW.seq ?_; refine CW.region ?_; apply LW.v0; rfl; rfl; apply ValP.move; rfl; apply LW.v0; rfl; rfl; apply ValP.lenR; rfl; infer_instance; rfl; apply LW.v0; rfl; rfl; apply ValP.lssF; rfl; rfl; omega; apply LW.nil; refine thenN ?_; apply CW.condF; rfl; (with_reducible rfl); refine CW.exit ?_; refine thenE ?_; refine thenE ?_; refine blkE rfl ?_; refine thenN ?_; refine CW.region ?_; apply LW.v0; rfl; rfl; apply ValP.move; rfl; apply LW.v0; rfl; rfl; apply ValP.move; rfl)
        (apply LW.callR; rfl; rfl; infer_instance; apply ArgsOk.cons; rfl; apply ArgsOk.cons; rfl; exact ArgsOk.nil; intro w hs)
        exact add_calls _ _ 513 hx513 hy513 (by decide) _ _ w (hrow.atSeg (by (apply AtSeg.app; exact AtSeg.head)) hs) (hrj.atSeg (by (exact AtSeg.head)) hs)
        intro vs gs hrs
        obtain ⟨ps, cs, rfl⟩ := hrs.form
        have hcs : 514 ≤ cs := by cases hrs with | own h _ _ _ _ => exact h
        have hrs2 := hrs.take (k := 513) (by decide)
        rw [ics_take, bl_take _ _ _ (by decide), hsum] at hrs2
        (apply LW.v0; rfl; rfl; apply ValP.cutToL; infer_instance; infer_instance; rfl; rfl; decide; omega; apply LW.v0; rfl; rfl; apply ValP.assign; rfl; apply LW.nil; refine blkN ?_; refine thenN ?_; refine CW.region ?_; apply LW.v0; rfl; rfl; apply ValP.addZL; rfl; rfl; decide; omega; apply LW.v0; rfl; rfl; apply ValP.move; rfl; apply LW.nil)
        apply thenX
        exact ⟨rfl, ⟨k + 1, _, gs⟩, ⟨hlt, hrs2⟩, by show 256 - (k + 1) < 256 - k; omega, ⟨rfl, rfl, rfl, rfl, rfl, rfl, rfl, trivial⟩, by (apply List.Sublist.append_left; apply List.sublist_append_of_sublist_right; apply List.sublist_append_of_sublist_right; exact List.Sublist.refl _)⟩
  · obtain rfl : k = 256 := by omega
    have hbb : b % 2 ^ 256 = b := Nat.mod_eq_of_lt hb
    rw [hbb] at hrow
    have hP := mul_lt_pow (n := 513) (show a < 2 ^ 256 from ha) (show b < 2 ^ 256 from hb) (by decide)
    (refine CW.seq ?_; refine CW.region ?_; apply LW.v0; rfl; rfl; apply ValP.lssF; rfl; rfl; omega; apply LW.nil; refine thenN ?_; refine CW.seq ?_; apply CW.condF; rfl; (with_reducible rfl); refine CW.exit ?_; refine thenE ?_; refine thenE ?_; refine blkE rfl ?_; refine thenN ?_; refine CW.seq ?_; refine CW.region ?_; apply LW.v0; rfl; rfl; apply ValP.move; rfl)
    apply LW.callE
    rfl
    rfl
    infer_instance
    (apply ArgsOk.cons; rfl; exact ArgsOk.nil)
    · intro w hs
      exact of_calls (a * b) 513 (by decide) _ w (hrow.atSeg (by (exact AtSeg.head)) hs)
    (apply LW.v0; rfl; rfl; apply ValP.move; rfl)
    apply LW.callE
    rfl
    rfl
    infer_instance
    (apply ArgsOk.cons; rfl; apply ArgsOk.cons; rfl; exact ArgsOk.nil)
    · intro w hs
      exact anyFrom_calls (a * b) 513 256 hP (by decide) (by decide) _ w (hrow.atSeg (by (exact AtSeg.head)) hs)
    (apply LW.store; rfl; rfl; apply SetAt.app; apply SetAt.app; apply SetAt.head; apply Wr.whole; rfl; rfl; rfl; apply LW.v0; rfl; rfl; apply ValP.assign; rfl; apply LW.nil; refine thenN ?_; refine CW.ret ?_)
    (apply finR; exact .inl rfl; rfl; rfl; rfl; apply ResL.cons; apply Res.cell; rfl; apply Known.at; apply FsAt.app; apply FsAt.app; apply FsAt.head; exact Rd.whole rfl; apply ResL.cons; exact Res.tmp rfl; exact ResL.nil)
    rfl
end Go.Proofs.Ytobkhnmglbfheaa

/-
  Products of words: contracts.
  Conditions: none.
-/
namespace Go.Proofs.Ytobkhnmglbfheaa
open Go Go.RowKit SL
set_option maxRecDepth 8000
set_option maxHeartbeats 4000000
set_option linter.unusedSimpArgs false
set_option linter.unusedVariables false
attribute [local irreducible] SL.CW SL.LW SL.DW Calls SL.Ret SL.RetG SL.beginQ SL.roundQ SL.rangeQ SL.inQ SL.RW SL.AnyW SL.thenQ SL.thenC SL.thenW SL.blkQ SL.finQ SL.ValP SL.NewP SL.SetP SL.CallP SL.Rd SL.Wr SL.Known
theorem and32 (n : Nat) : n &&& 4294967295 = n % 4294967296 := Nat.and_two_pow_sub_one_eq_mod n 32
theorem Mul64_calls (x y : Nat) (hx : x < 18446744073709551616) (hy : y < 18446744073709551616) (w : World) : Calls Try.prog 50 #[.int .u64 (x : Int), .int .u64 (y : Int)] w (Ret w (.tuple #[.int .u64 ((x * y / 18446744073709551616 : Nat) : Int), .int .u64 ((x * y % 18446744073709551616 : Nat) : Int)])) := by
  refine enter (args := [_, _]) _ [] [] Try.func50 rfl Try.ntmps50 rfl (by simp) .nil ?_
  (refine CW.seq ?_; refine CW.region ?_; apply LW.v0; rfl; rfl; apply ValP.assign; rfl; apply LW.v0; rfl; rfl; apply ValP.assign; rfl; apply LW.nil; refine thenN ?_; refine CW.seq ?_; refine CW.region ?_; apply LW.v0; rfl; rfl; apply ValP.move; rfl; apply LW.v0; rfl; rfl; apply ValP.andUL; rfl; rfl; decide; omega; omega; apply LW.v0; rfl; rfl; apply ValP.assign; rfl; apply LW.nil; refine thenN ?_; refine CW.seq ?_; refine CW.region ?_; apply LW.v0; rfl; rfl; apply ValP.move; rfl; apply LW.v0; rfl; rfl; apply ValP.shrUL; rfl; rfl; decide; omega; apply LW.v0; rfl; rfl; apply ValP.assign; rfl; apply LW.nil; refine thenN ?_; refine CW.seq ?_; refine CW.region ?_; apply LW.v0; rfl; rfl; apply ValP.move; rfl; apply LW.v0; rfl; rfl; apply ValP.andUL; rfl; rfl; decide; omega; omega; apply LW.v0; rfl; rfl; apply ValP.assign; rfl; apply LW.nil; refine thenN ?_; refine CW.seq ?_; refine CW.region ?_; apply LW.v0; rfl; rfl; apply ValP.move; rfl; apply LW.v0; rfl; rfl; apply ValP.shrUL; rfl; rfl; decide; omega; apply LW.v0; rfl; rfl; apply ValP.assign; rfl; apply LW.nil; refine thenN ?_; refine CW.seq ?_; refine CW.region ?_; apply LW.v0; rfl; rfl; apply ValP.move; rfl; apply LW.v0; rfl; rfl; apply ValP.move; rfl; apply LW.v0; rfl; rfl; apply ValP.mulN; rfl; rfl; apply LW.v0; rfl; rfl; apply ValP.assign; rfl; apply LW.nil; refine thenN ?_; refine CW.seq ?_; refine CW.region ?_; apply LW.v0; rfl; rfl; apply ValP.move; rfl; apply LW.v0; rfl; rfl; apply ValP.move; rfl; apply LW.v0; rfl; rfl; apply ValP.mulN; rfl; rfl; apply LW.v0; rfl; rfl; apply ValP.move; rfl; apply LW.v0; rfl; rfl; apply ValP.shrUL; rfl; rfl; decide; omega; apply LW.v0; rfl; rfl; apply ValP.addN; rfl; rfl; apply LW.v0; rfl; rfl; apply ValP.assign; rfl; apply LW.nil; refine thenN ?_; refine CW.seq ?_; refine CW.region ?_; apply LW.v0; rfl; rfl; apply ValP.move; rfl; apply LW.v0; rfl; rfl; apply ValP.andUL; rfl; rfl; decide; omega; omega; apply LW.v0; rfl; rfl; apply ValP.assign; rfl; apply LW.nil; refine thenN ?_; refine CW.seq ?_; refine CW.region ?_; apply LW.v0; rfl; rfl; apply ValP.move; rfl; apply LW.v0; rfl; rfl; apply ValP.shrUL; rfl; rfl; decide; omega; apply LW.v0; rfl; rfl; apply ValP.assign; rfl; apply LW.nil; refine thenN ?_; refine CW.seq ?_; refine CW.region ?_; apply LW.v0; rfl; rfl; apply ValP.move; rfl; apply LW.v0; rfl; rfl; apply ValP.move; rfl; apply LW.v0; rfl; rfl; apply ValP.move; rfl; apply LW.v0; rfl; rfl; apply ValP.mulN; rfl; rfl; apply LW.v0; rfl; rfl; apply ValP.addN; rfl; rfl; apply LW.v0; rfl; rfl; apply ValP.assign; rfl; apply LW.nil; refine thenN ?_; refine CW.seq ?_; refine CW.region ?_; apply LW.v0; rfl; rfl; apply ValP.move; rfl; apply LW.v0; rfl; rfl; apply ValP.move; rfl; apply LW.v0; rfl; rfl; apply ValP.mulN; rfl; rfl; apply LW.v0; rfl; rfl; apply ValP.move; rfl; apply LW.v0; rfl; rfl; apply ValP.addN; rfl; rfl; apply LW.v0; rfl; rfl; apply ValP.move; rfl; apply LW.v0; rfl; rfl; apply ValP.shrUL; rfl; rfl; decide; omega; apply LW.v0; rfl; rfl; apply ValP.addN; rfl; rfl; apply LW.v0; rfl; rfl; apply ValP.assign; rfl; apply LW.nil; refine thenN ?_; refine CW.seq ?_; refine CW.region ?_; apply LW.v0; rfl; rfl; apply ValP.move; rfl; apply LW.v0; rfl; rfl; apply ValP.move; rfl; apply LW.v0; rfl; rfl; apply ValP.mulN; rfl; rfl; apply LW.v0; rfl; rfl; apply ValP.assign; rfl; apply LW.nil; refine thenN ?_; refine CW.ret ?_)
  (apply finR; exact .inl rfl; rfl; rfl; rfl; apply ResL.cons; exact Res.tmp rfl; apply ResL.cons; exact Res.tmp rfl; exact ResL.nil)
  refine congrArg (fun z : Nat => Value.tuple #[.int .u64 (z : Int), .int .u64 ((x * y % 18446744073709551616 : Nat) : Int)]) ?_
  simp only [and32, Nat.reducePow]
  have e : x * y = (x / 4294967296) * (y / 4294967296) * (4294967296 * 4294967296) + ((x / 4294967296) * (y % 4294967296) + (x % 4294967296) * (y / 4294967296)) * 4294967296 + (x % 4294967296) * (y % 4294967296) := by
    rw [← Lib.split_mul, Nat.div_add_mod' x 4294967296, Nat.div_add_mod' y 4294967296]
  have ha := Lib.half_mul_le (a := x / 4294967296) (b := y / 4294967296) (by omega) (by omega)
  have hb := Lib.half_mul_le (a := x / 4294967296) (b := y % 4294967296) (by omega) (by omega)
  have hc := Lib.half_mul_le (a := x % 4294967296) (b := y / 4294967296) (by omega) (by omega)
  have hd := Lib.half_mul_le (a := x % 4294967296) (b := y % 4294967296) (by omega) (by omega)
  rw [e]
  generalize (x / 4294967296) * (y / 4294967296) = a at ha ⊢
  generalize (x / 4294967296) * (y % 4294967296) = b at hb ⊢
  generalize (x % 4294967296) * (y / 4294967296) = c at hc ⊢
  generalize (x % 4294967296) * (y % 4294967296) = d at hd ⊢
  clear e hx hy
  omega
/-! ### Limbs -/
/-- A row of limbs' number. -/
def val : List Nat → Nat
  | [] => 0
  | x :: r => x + 18446744073709551616 * val r
theorem val_set : ∀ (L : List Nat) (j v : Nat) (hj : j < L.length), val (L.set j v) + L[j] * 18446744073709551616 ^ j = val L + v * 18446744073709551616 ^ j
  | x :: r, 0, v, _ => by simp [val]; omega
  | x :: r, j + 1, v, hj => by
    have := val_set r j v (by simpa using hj)
    simp only [List.set_cons_succ, val, List.getElem_cons_succ, Nat.pow_succ]
    have e : ∀ y, y * (18446744073709551616 ^ j * 18446744073709551616) = 18446744073709551616 * (y * 18446744073709551616 ^ j) := fun y => by rw [← Nat.mul_assoc, Nat.mul_comm]
    rw [e, e]
    omega
/-- One step of a product. -/
theorem mul_step (x y l c : Nat) (hx : x < 18446744073709551616) (hy : y < 18446744073709551616) (hl : l < 18446744073709551616) (hc : c < 18446744073709551616) :
    let lo := x * y % 18446744073709551616; let hi := x * y / 18446744073709551616
    let l1 := (lo + l + 0) % 18446744073709551616; let c1 := (lo + l + 0) / 18446744073709551616
    let l2 := (l1 + c + 0) % 18446744073709551616; let c2 := (l1 + c + 0) / 18446744073709551616
    (hi + c1) % 18446744073709551616 = hi + c1 ∧ (hi + c1 + c2) % 18446744073709551616 = hi + c1 + c2 ∧ l2 + 18446744073709551616 * (hi + c1 + c2) = x * y + l + c ∧ l2 < 18446744073709551616 ∧ hi + c1 + c2 < 18446744073709551616 := by
  have hxy : x * y ≤ 18446744073709551615 * 18446744073709551615 := Nat.mul_le_mul (by omega) (by omega)
  generalize x * y = p at *
  dsimp only
  omega
theorem inv_step (v v' l lo c c' xy P : Nat) (h1 : v' + l * P = v + lo * P) (h2 : lo + 18446744073709551616 * c' = xy + l + c) : v' + c' * (P * 18446744073709551616) = v + c * P + xy * P := by
  have h3 : (lo + 18446744073709551616 * c') * P = (xy + l + c) * P := by rw [h2]
  rw [Nat.add_mul, Nat.add_mul, Nat.add_mul] at h3
  have e : c' * (P * 18446744073709551616) = 18446744073709551616 * c' * P := by rw [Nat.mul_comm P, ← Nat.mul_assoc, Nat.mul_comm c']
  rw [e]; omega
theorem mul_last (l0 l1 l2 l3 l4 l5 l6 l7 n : Nat) (h0 : l0 < 18446744073709551616) (h1 : l1 < 18446744073709551616) (h2 : l2 < 18446744073709551616) (h3 : l3 < 18446744073709551616) (h : val [l0, l1, l2, l3, l4, l5, l6, l7] = n) :
    n % 115792089237316195423570985008687907853269984665640564039457584007913129639936 = l0 + 18446744073709551616 * l1 + 340282366920938463463374607431768211456 * l2 + 6277101735386680763835789423207666416102355444464034512896 * l3 ∧
    (115792089237316195423570985008687907853269984665640564039457584007913129639936 ≤ n ↔ (l4 ≠ 0 ∨ l5 ≠ 0 ∨ l6 ≠ 0 ∨ l7 ≠ 0)) := by
  simp only [val] at h
  constructor <;> omega
theorem pow_mod_step (b k : Nat) : b % 2 ^ (k + 1) = b % 2 ^ k + 2 ^ k * (b / 2 ^ k % 2) := Nat.mod_pow_succ

/-- The cells of limbs. -/
def lcs (L : List Nat) : Array Value := (L.map fun x => Value.int .u64 ((x : Nat) : Int)).toArray
theorem Add64_run (x y : Nat) (w : World) : (callFunc 51 #[.int .u64 x, .int .u64 y, .int .u64 (0 : Int)]).run Try.prog w = .ok (.value (.tuple #[.int .u64 (((x + y + 0) % 18446744073709551616 : Nat) : Int), .int .u64 (((x + y + 0) / 18446744073709551616 : Nat) : Int)])) w := add64_run x y 0 (by decide) w
theorem lcs_get (L : List Nat) (j : Nat) (h : j < L.length) : (lcs L)[j]? = some (.int .u64 ((L[j] : Nat) : Int)) := by simp [lcs, h]
theorem lcs_set (L : List Nat) (j v : Nat) : wrCells (lcs L) j [.int .u64 ((v : Nat) : Int)] = lcs (L.set j v) := by
  simp only [wrCells, lcs]
  rw [List.setIfInBounds_toArray, List.map_set]
theorem lcs_rd (L : List Nat) (j : Nat) (h : j < L.length) {E : TypeId} {fr : Nat × Nat} : Rd Try.prog 25 (.cells (lcs L) E fr) (0 + j * 1) (.int .u64 ((L[j] : Nat) : Int)) := Rd.one (by rw [Nat.zero_add, Nat.mul_one]; exact lcs_get L j h)
theorem lcs_wr (L : List Nat) (j v : Nat) (h : j < L.length) {E : TypeId} : Wr Try.prog 25 (.cells (lcs L) E (0, 0)) (0 + j * 1) (.int .u64 ((v : Nat) : Int)) (.cells (lcs (L.set j v)) E (0, 0)) :=
  Wr.cells rfl rfl (by show 0 + j * 1 + 1 ≤ (lcs L).size; simp [lcs]; omega) (by rw [Nat.zero_add, Nat.mul_one]; exact lcs_set L j v)
structure MO where
  i : Nat
  L : List Nat
structure MI where
  k : Nat
  c : Nat
  L : List Nat
def limb (a i : Nat) : Nat := a / 2 ^ (64 * i) % 18446744073709551616
theorem B_pow (i : Nat) : (18446744073709551616 : Nat) ^ i = 2 ^ (64 * i) := by rw [show (18446744073709551616 : Nat) = 2 ^ 64 from rfl, ← Nat.pow_mul]
theorem limb_step (a i : Nat) : a % 2 ^ (64 * (i + 1)) = a % 2 ^ (64 * i) + limb a i * 18446744073709551616 ^ i := by
  rw [Nat.mul_add, Nat.mul_one, Nat.pow_add, Nat.mod_mul, limb, B_pow, Nat.mul_comm (2 ^ (64 * i))]
theorem nth_limb (a k : Nat) (h : k < 4) : nth (wc a).toList k = some (.int .u64 ((limb a k : Nat) : Int)) := nth_wc a k h
theorem limb_lt (a i : Nat) : limb a i < 18446744073709551616 := Nat.mod_lt _ (by decide)
theorem getElem_mem_lt {L : List Nat} (h : ∀ y ∈ L, y < 18446744073709551616) (j : Nat) (hj : j < L.length) : L[j] < 18446744073709551616 := h _ (List.getElem_mem hj)
theorem set_lt {L : List Nat} (h : ∀ y ∈ L, y < 18446744073709551616) (j v : Nat) (hv : v < 18446744073709551616) : ∀ y ∈ L.set j v, y < 18446744073709551616 := fun y hy => by
  rcases List.mem_or_eq_of_mem_set hy with h1 | rfl
  · exact h y h1
  · exact hv
theorem Mul_calls (a b : Nat) (ha : a < M256) (hb : b < M256) (w : World) : Calls Try.prog 30 #[wv a, wv b] w (Ret w (.tuple #[wv (a * b % M256), .bool (decide (M256 ≤ a * b))])) := by
  refine enter (args := [_, _]) _ [] [] Try.func30 rfl Try.ntmps30 rfl (by simp) .nil ?_
  (refine CW.seq ?_; refine CW.region ?_; apply LW.boxA; rfl; rfl; intro _; apply LW.boxA; rfl; rfl; intro _; apply LW.allocW; rfl; intro _; apply LW.v0; rfl; rfl; apply ValP.assign; rfl; apply LW.nil; refine thenN ?_; refine CW.seq ?_; refine CW.region ?_; apply LW.allocA; rfl; intro _; apply LW.nil; refine thenN ?_; refine CW.seq ?_; refine CW.seq ?_; refine CW.region ?_; apply LW.load; rfl; rfl; apply Known.at; apply FsAt.tail; apply FsAt.tail; apply FsAt.tail; apply FsAt.head; exact Rd.whole rfl; apply LW.v0; rfl; rfl; apply ValP.move; rfl; apply LW.nil; refine thenN ?_; refine CW.block ?_)
  rename_i ba bb bc bd
  refine CW.loop (fun x : MO => ([(16, .int .i64 (x.i : Int)), (15, .agg (wc a)), (6, .pointer (some ⟨bd, 0, none⟩)), (5, .bool false), (4, .pointer (some ⟨bc, 0, none⟩)), (3, .pointer (some ⟨bb, 0, none⟩))],
      [(bd, .cells (lcs x.L) 95 (0, 0)), (bc, .cells (wc 0) 28 (0, 0)), (bb, .cells (wc b) 28 (0, 0)), (ba, .cells (wc a) 28 (0, 0))]))
    (fun x => x.i ≤ 4 ∧ x.L.length = 8 ∧ (∀ y ∈ x.L, y < 18446744073709551616) ∧ val x.L = a % 2 ^ (64 * x.i) * b ∧ ∀ j (h : j < x.L.length), x.i + 4 ≤ j → x.L[j] = 0) (fun x => 4 - x.i) ⟨0, [0, 0, 0, 0, 0, 0, 0, 0]⟩ ⟨Nat.zero_le _, rfl, by decide, by simp [val, Nat.mod_one], by decide⟩ ⟨rfl, rfl, rfl, rfl, rfl, rfl, trivial⟩ (List.Sublist.refl _) ?_
  rintro ⟨i, L⟩ ⟨hi, hL, hLb, hval, hz⟩
  dsimp only at hi hL hLb hval hz ⊢
  rcases Nat.lt_or_ge i 4 with hlt | hge
  · have hx0 := limb_lt a i
    (refine CW.seq ?_; refine CW.region ?_; apply LW.v0; rfl; rfl; apply ValP.lssT; rfl; rfl; omega; apply LW.nil; refine thenN ?_; refine CW.seq ?_; apply CW.condT; rfl; (with_reducible rfl); refine CW.skip ?_; refine thenN ?_; refine CW.seq ?_; refine CW.block ?_; refine CW.seq ?_; refine CW.region ?_; apply LW.v0; rfl; rfl; apply ValP.move; rfl; apply LW.v0; rfl; rfl; apply ValP.indexA; rfl; rfl; rfl; rfl; omega; apply nth_limb; omega; apply LW.v0; rfl; rfl; apply ValP.assign; rfl; apply LW.v0; rfl; rfl; apply ValP.assign; rfl; apply LW.nil; refine thenN ?_; refine CW.seq ?_; refine CW.region ?_; apply LW.v0; rfl; rfl; apply ValP.assign; rfl; apply LW.nil; refine thenN ?_; refine CW.seq ?_; refine CW.seq ?_; refine CW.region ?_; apply LW.load; rfl; rfl; apply Known.at; apply FsAt.tail; apply FsAt.tail; apply FsAt.head; exact Rd.whole rfl; apply LW.v0; rfl; rfl; apply ValP.move; rfl; apply LW.nil; refine thenN ?_; refine CW.block ?_)
    refine CW.loop (fun x : MI => ([(21, .int .i64 (x.k : Int)), (20, .agg (wc b)), (9, .int .u64 ((x.c : Nat) : Int)), (8, .int .u64 ((limb a i : Nat) : Int)), (7, .int .i64 (i : Int)), (16, .int .i64 (i : Int)), (15, .agg (wc a)), (6, .pointer (some ⟨bd, 0, none⟩)), (5, .bool false), (4, .pointer (some ⟨bc, 0, none⟩)), (3, .pointer (some ⟨bb, 0, none⟩))],
        [(bd, .cells (lcs x.L) 95 (0, 0)), (bc, .cells (wc 0) 28 (0, 0)), (bb, .cells (wc b) 28 (0, 0)), (ba, .cells (wc a) 28 (0, 0))]))
      (fun x => x.k ≤ 4 ∧ x.c < 18446744073709551616 ∧ x.L.length = 8 ∧ (∀ y ∈ x.L, y < 18446744073709551616) ∧ val x.L + x.c * 18446744073709551616 ^ (i + x.k) = a % 2 ^ (64 * i) * b + limb a i * (b % 2 ^ (64 * x.k)) * 18446744073709551616 ^ i ∧ ∀ j (h : j < x.L.length), i + 4 ≤ j → x.L[j] = 0) (fun x => 4 - x.k) ⟨0, 0, L⟩
      ⟨Nat.zero_le _, (show 0 < 18446744073709551616 by decide), hL, hLb, by simp [hval, Nat.mod_one], hz⟩ ⟨rfl, rfl, rfl, rfl, rfl, rfl, rfl, rfl, rfl, rfl, rfl, trivial⟩ (List.Sublist.refl _) ?_
    clear hL hLb hval hz L
    rintro ⟨k, c, L⟩ ⟨hk, hc, hL, hLb, hval, hz⟩
    dsimp only at hk hc hL hLb hval hz ⊢
    rcases Nat.lt_or_ge k 4 with hkl | hkg
    · have hy0 := limb_lt b k
      have hj : i + k < L.length := by omega
      obtain ⟨l, hl⟩ : ∃ l, l = L[i + k] := ⟨_, rfl⟩
      have hl0 : l < 18446744073709551616 := by rw [hl]; exact getElem_mem_lt hLb _ hj
      have hrd := lcs_rd L (i + k) hj (E := 95) (fr := (0, 0))
      rw [← hl] at hrd
      obtain ⟨s1, s2, s3, s4, s5⟩ := mul_step (limb a i) (limb b k) l c hx0 hy0 hl0 hc
      have hW := lcs_wr L (i + k) (((limb a i * limb b k % 18446744073709551616 + l + 0) % 18446744073709551616 + c + 0) % 18446744073709551616) hj (E := 95)
      have hv := val_set L (i + k) (((limb a i * limb b k % 18446744073709551616 + l + 0) % 18446744073709551616 + c + 0) % 18446744073709551616) hj
      rw [← hl] at hv
      have hinv := inv_step _ _ _ _ _ _ _ _ hv s3
      (refine CW.seq ?_; refine CW.region ?_; apply LW.v0; rfl; rfl; apply ValP.lssT; rfl; rfl; omega; apply LW.nil; refine thenN ?_; refine CW.seq ?_; apply CW.condT; rfl; (with_reducible rfl); refine CW.skip ?_; refine thenN ?_; refine CW.seq ?_; refine CW.block ?_; refine CW.seq ?_; refine CW.region ?_; apply LW.v0; rfl; rfl; apply ValP.move; rfl; apply LW.v0; rfl; rfl; apply ValP.indexA; rfl; rfl; rfl; rfl; omega; apply nth_limb; omega; apply LW.v0; rfl; rfl; apply ValP.assign; rfl; apply LW.v0; rfl; rfl; apply ValP.assign; rfl; apply LW.nil; refine thenN ?_; refine CW.seq ?_; refine CW.region ?_; apply LW.v0; rfl; rfl; apply ValP.move; rfl; apply LW.v0; rfl; rfl; apply ValP.move; rfl; apply LW.callE; rfl; rfl; infer_instance; apply ArgsOk.cons; rfl; apply ArgsOk.cons; rfl; exact ArgsOk.nil; intro w _; refine Mul64_calls _ _ ?_ ?_ w; assumption; assumption; apply LW.v0; rfl; rfl; apply ValP.move; rfl; apply LW.v0; rfl; rfl; apply ValP.extractN; rfl; rfl; apply LW.v0; rfl; rfl; apply ValP.extractN; rfl; rfl; apply LW.v0; rfl; rfl; apply ValP.assign; rfl; apply LW.v0; rfl; rfl; apply ValP.assign; rfl; apply LW.nil; refine thenN ?_; refine CW.seq ?_; refine CW.region ?_; apply LW.v0; rfl; rfl; apply ValP.move; rfl; apply LW.v0; rfl; rfl; apply ValP.move; rfl; apply LW.v0; rfl; rfl; apply ValP.move; rfl; apply LW.v0; rfl; rfl; apply ValP.addZ; rfl; rfl; omega; apply LW.v0; rfl; rfl; apply ValP.indexAddrA; rfl; rfl; rfl; omega; apply LW.load; rfl; rfl; apply Known.at; apply FsAt.head; assumption; apply LW.v0; rfl; rfl; apply ValP.callX; rfl; apply ArgsOk.cons; rfl; apply ArgsOk.cons; rfl; apply ArgsOk.cons; rfl; exact ArgsOk.nil; exact Add64_run _ _; apply LW.v0; rfl; rfl; apply ValP.move; rfl; apply LW.v0; rfl; rfl; apply ValP.extractN; rfl; rfl; apply LW.v0; rfl; rfl; apply ValP.extractN; rfl; rfl; apply LW.v0; rfl; rfl; apply ValP.assign; rfl; apply LW.v0; rfl; rfl; apply ValP.assign; rfl; apply LW.nil; refine thenN ?_; refine CW.seq ?_; refine CW.region ?_; apply LW.v0; rfl; rfl; apply ValP.move; rfl; apply LW.v0; rfl; rfl; apply ValP.move; rfl; apply LW.v0; rfl; rfl; apply ValP.addN; rfl; rfl; apply LW.v0; rfl; rfl; apply ValP.assign; rfl; apply LW.nil; refine thenN ?_; refine CW.seq ?_; refine CW.region ?_; apply LW.v0; rfl; rfl; apply ValP.move; rfl; apply LW.v0; rfl; rfl; apply ValP.move; rfl; apply LW.v0; rfl; rfl; apply ValP.callX; rfl; apply ArgsOk.cons; rfl; apply ArgsOk.cons; rfl; apply ArgsOk.cons; rfl; exact ArgsOk.nil; exact Add64_run _ _; apply LW.v0; rfl; rfl; apply ValP.move; rfl; apply LW.v0; rfl; rfl; apply ValP.extractN; rfl; rfl; apply LW.v0; rfl; rfl; apply ValP.extractN; rfl; rfl; apply LW.v0; rfl; rfl; apply ValP.assign; rfl; apply LW.v0; rfl; rfl; apply ValP.assign; rfl; apply LW.nil; refine thenN ?_; refine CW.region ?_; apply LW.v0; rfl; rfl; apply ValP.move; rfl; apply LW.v0; rfl; rfl; apply ValP.move; rfl; apply LW.v0; rfl; rfl; apply ValP.addZ; rfl; rfl; omega; apply LW.v0; rfl; rfl; apply ValP.move; rfl; apply LW.v0; rfl; rfl; apply ValP.move; rfl; apply LW.v0; rfl; rfl; apply ValP.move; rfl; apply LW.v0; rfl; rfl; apply ValP.addN; rfl; rfl; apply LW.v0; rfl; rfl; apply ValP.indexAddrA; rfl; rfl; rfl; omega; apply LW.store; rfl; rfl; apply SetAt.head; assumption; apply LW.v0; rfl; rfl; apply ValP.assign; rfl; apply LW.nil; refine blkN ?_; refine thenN ?_; refine CW.region ?_; apply LW.v0; rfl; rfl; apply ValP.addZL; rfl; rfl; decide; omega; apply LW.v0; rfl; rfl; apply ValP.move; rfl; apply LW.nil)
      apply thenX
      refine ⟨rfl, ⟨k + 1, _, _⟩, ⟨hkl, ?_, ?_, ?_, ?_, ?_⟩, by show 4 - (k + 1) < 4 - k; omega, ⟨rfl, rfl, rfl, rfl, rfl, rfl, rfl, rfl, rfl, rfl, rfl, trivial⟩, List.Sublist.refl _⟩
      · exact Nat.mod_lt _ (by decide)
      · simpa using hL
      · exact set_lt hLb _ _ s4
      · dsimp only
        rw [s1, s2, ← Nat.add_assoc, Nat.pow_succ, hinv, hval, limb_step, Nat.mul_add, Nat.add_mul, Nat.pow_add, Nat.add_assoc]
        congr 2
        rw [Nat.mul_assoc, Nat.mul_assoc, Nat.mul_assoc, Nat.mul_comm (18446744073709551616 ^ i)]
      · intro j hjl hji
        dsimp only at hjl ⊢
        rw [List.getElem_set_ne (by omega)]
        exact hz j (by simpa using hjl) hji
    · obtain rfl : k = 4 := by omega
      have hj : i + 4 < L.length := by omega
      have hb4 : b % 2 ^ (64 * 4) = b := Nat.mod_eq_of_lt hb
      have hW := lcs_wr L (i + 4) c hj (E := 95)
      have hv := val_set L (i + 4) c hj
      rw [hz (i + 4) hj (Nat.le_refl _), Nat.zero_mul, Nat.add_zero, hval, hb4] at hv
      (refine CW.seq ?_; refine CW.region ?_; apply LW.v0; rfl; rfl; apply ValP.lssF; rfl; rfl; omega; apply LW.nil; refine thenN ?_; refine CW.seq ?_; apply CW.condF; rfl; (with_reducible rfl); refine CW.exit ?_; refine thenE ?_; refine thenE ?_; refine blkE rfl ?_; refine thenN ?_; refine CW.region ?_; apply LW.v0; rfl; rfl; apply ValP.move; rfl; apply LW.v0; rfl; rfl; apply ValP.addZL; rfl; rfl; decide; omega; apply LW.v0; rfl; rfl; apply ValP.move; rfl; apply LW.v0; rfl; rfl; apply ValP.indexAddrA; rfl; rfl; rfl; omega; apply LW.store; rfl; rfl; apply SetAt.head; assumption; apply LW.nil; refine blkN ?_; refine thenN ?_; refine CW.region ?_; apply LW.v0; rfl; rfl; apply ValP.addZL; rfl; rfl; decide; omega; apply LW.v0; rfl; rfl; apply ValP.move; rfl; apply LW.nil)
      apply thenX
      refine ⟨rfl, ⟨i + 1, _⟩, ⟨hlt, ?_, ?_, ?_, ?_⟩, by show 4 - (i + 1) < 4 - i; omega, ⟨rfl, rfl, rfl, rfl, rfl, rfl, trivial⟩, List.Sublist.refl _⟩
      · simpa using hL
      · exact set_lt hLb _ _ hc
      · dsimp only
        rw [hv, limb_step, Nat.add_mul, Nat.mul_right_comm]
      · intro j hjl hji
        dsimp only at hjl hji ⊢
        rw [List.getElem_set_ne (by omega)]
        exact hz j (by simpa using hjl) (by omega)
  · obtain rfl : i = 4 := by omega
    have ha4 : a % 2 ^ (64 * 4) = a := Nat.mod_eq_of_lt ha
    rw [ha4] at hval
    match L, hL with
    | [l0, l1, l2, l3, l4, l5, l6, l7], _ =>
      have h0 := hLb l0 (by simp)
      have h1 := hLb l1 (by simp)
      have h2 := hLb l2 (by simp)
      have h3 := hLb l3 (by simp)
      have h4 := hLb l4 (by simp)
      have h5 := hLb l5 (by simp)
      have h6 := hLb l6 (by simp)
      have h7 := hLb l7 (by simp)
      obtain ⟨m1, m2⟩ := mul_last l0 l1 l2 l3 l4 l5 l6 l7 (a * b) h0 h1 h2 h3 hval
      have hrw : Rd Try.prog 28 (.cells (lcs [l0, l1, l2, l3, l4, l5, l6, l7]) 95 (0, 0)) 0 (wv (a * b % M256)) := by
        rw [wv, ← wc_val h0 h1 h2 h3 m1]
        exact Rd.mid (cs := [.int .u64 (l0 : Int), .int .u64 (l1 : Int), .int .u64 (l2 : Int), .int .u64 (l3 : Int)]) rfl rfl
      have hbool : (!decide (((l4 ||| l5 ||| l6 ||| l7 : Nat) : Int) = 0)) = decide (M256 ≤ a * b) := by
        rw [Bool.eq_iff_iff, Bool.not_eq_true', decide_eq_false_iff_not, decide_eq_true_iff, Int.natCast_eq_zero, Nat.or_eq_zero_iff, Nat.or_eq_zero_iff, Nat.or_eq_zero_iff, m2]; omega
      (refine CW.seq ?_; refine CW.region ?_; apply LW.v0; rfl; rfl; apply ValP.lssF; rfl; rfl; omega; apply LW.nil; refine thenN ?_; refine CW.seq ?_; apply CW.condF; rfl; (with_reducible rfl); refine CW.exit ?_; refine thenE ?_; refine thenE ?_; refine blkE rfl ?_; refine thenN ?_; refine CW.seq ?_; apply CW.pre; refine AnyW.any 16 mixed (by decide +kernel) ?_; (try simp only [tsOf_cons, tsOf_nil, tsOf_app]); apply DW.v0; rfl; rfl; rfl; exact WantT.none; rfl; apply ValP.cutArr; infer_instance; infer_instance; rfl; rfl; rfl; apply DW.v0; rfl; rfl; rfl; exact WantT.none; rfl; apply ValP.asArr; infer_instance; rfl; rfl; apply DW.loadO; rfl; rfl; rfl; exact WantT.none; rfl; apply TRead.head; exact ancB_nil; assumption; apply DW.v0; rfl; rfl; rfl; exact WantT.none; rfl; apply ValP.indexAddrL; rfl; rfl; rfl; apply DW.loadO; rfl; rfl; rfl; exact WantT.none; rfl; apply TRead.head; exact ancB_nil; exact Rd.one' rfl; apply DW.v0; rfl; rfl; rfl; exact WantT.none; rfl; apply ValP.indexAddrL; rfl; rfl; rfl; apply DW.loadO; rfl; rfl; rfl; exact WantT.none; rfl; apply TRead.head; exact ancB_nil; exact Rd.one' rfl; apply DW.v0; rfl; rfl; rfl; exact WantT.none; rfl; apply ValP.orU; rfl; rfl; omega; omega; apply DW.v0; rfl; rfl; rfl; exact WantT.none; rfl; apply ValP.indexAddrL; rfl; rfl; rfl; apply DW.loadO; rfl; rfl; rfl; exact WantT.none; rfl; apply TRead.head; exact ancB_nil; exact Rd.one' rfl; apply DW.v0; rfl; rfl; rfl; exact WantT.none; rfl; apply ValP.orU; rfl; rfl; apply or64; omega; omega; omega; apply DW.v0; rfl; rfl; rfl; exact WantT.none; rfl; apply ValP.indexAddrL; rfl; rfl; rfl; apply DW.loadO; rfl; rfl; rfl; exact WantT.none; rfl; apply TRead.head; exact ancB_nil; exact Rd.one' rfl; apply DW.v0; rfl; rfl; rfl; exact WantT.none; rfl; apply ValP.orU; rfl; rfl; apply or64; apply or64; omega; omega; omega; omega; apply DW.v0; rfl; rfl; rfl; exact WantT.none; rfl; apply ValP.ne; rfl; rfl; apply DW.store; rfl; rfl; exact WantT.none; rfl; rfl; apply TSet.tail; apply TSet.head; exact ancB_nil; exact ancB_nil; apply Wr.whole; rfl; rfl; rfl; apply DW.nil; simp only [fsOf_cons, fsOf_nil, fsOf_app, fsOf_tsOf, fsOf_new]; apply LW.v0; rfl; rfl; apply ValP.assign; rfl; apply LW.nil; refine thenN ?_; refine CW.ret ?_)
      (apply finR; exact .inl rfl; rfl; rfl; rfl; apply ResL.cons; apply Res.cell; rfl; apply Known.at; apply FsAt.tail; apply FsAt.head; exact Rd.whole rfl; apply ResL.cons; exact Res.tmp rfl; exact ResL.nil)
      rw [← hbool]; rfl
end Go.Proofs.Ytobkhnmglbfheaa

/-
  Sums and products hang on no order; what is divided, multiplied and added, is the word again: the laws.
  Conditions: none.
-/
namespace Go.Proofs.Ytobkhnmglbfheaa
open Go Go.RowKit SL
set_option maxRecDepth 8000
set_option maxHeartbeats 4000000
set_option linter.unusedSimpArgs false
set_option linter.unusedVariables false
attribute [local irreducible] SL.CW SL.LW SL.DW Calls SL.Ret SL.RetG SL.beginQ SL.roundQ SL.rangeQ SL.inQ SL.RW SL.AnyW SL.thenQ SL.thenC SL.thenW SL.blkQ SL.finQ SL.ValP SL.NewP SL.SetP SL.CallP SL.Rd SL.Wr SL.Known
end Go.Proofs.Ytobkhnmglbfheaa

/-
  The document's answer in bits: how many times a word is in another one; products: the law.
  Conditions: none.
-/
namespace Go.Proofs.Ytobkhnmglbfheaa
open Go Go.RowKit SL
set_option maxRecDepth 8000
set_option maxHeartbeats 4000000
set_option linter.unusedSimpArgs false
set_option linter.unusedVariables false
attribute [local irreducible] SL.CW SL.LW SL.DW Calls SL.Ret SL.RetG SL.beginQ SL.roundQ SL.rangeQ SL.inQ SL.RW SL.AnyW SL.thenQ SL.thenC SL.thenW SL.blkQ SL.finQ SL.ValP SL.NewP SL.SetP SL.CallP SL.Rd SL.Wr SL.Known
theorem bl_cons (x b m : Nat) (hb : b < 2) : b :: bl x m = bl (2 * x + b) (m + 1) := by
  apply List.ext_getElem?
  intro i
  cases i with
  | zero => rw [bl_get _ _ _ (Nat.succ_pos m)]; simp; omega
  | succ i =>
    rw [List.getElem?_cons_succ]
    rcases Nat.lt_or_ge i m with h | h
    · rw [bl_get _ _ _ h, bl_get _ _ _ (by omega), Nat.pow_succ, Nat.mul_comm (2 ^ i) 2, ← Nat.div_div_eq_div_mul, show (2 * x + b) / 2 = x by omega]
    · rw [List.getElem?_eq_none (by rw [bl_len]; exact h), List.getElem?_eq_none (by rw [bl_len]; omega)]
theorem SL.AtSeg.one {p : Nat × Obj} {r : Fs} : AtSeg (p :: r) [] [p] r := AtSeg.head (seg := [p])
end Go.Proofs.Ytobkhnmglbfheaa

/-
  Words moved up and down: contracts.
  Conditions: none.
-/
namespace Go.Proofs.Ytobkhnmglbfheaa
open Go Go.RowKit SL
set_option maxRecDepth 8000
set_option maxHeartbeats 4000000
set_option linter.unusedSimpArgs false
set_option linter.unusedVariables false
attribute [local irreducible] SL.CW SL.LW SL.DW Calls SL.Ret SL.RetG SL.beginQ SL.roundQ SL.rangeQ SL.inQ SL.RW SL.AnyW SL.thenQ SL.thenC SL.thenW SL.blkQ SL.finQ SL.ValP SL.NewP SL.SetP SL.CallP SL.Rd SL.Wr SL.Known
/-! ### Limbs of words that are moved -/
theorem limb_top (N i : Nat) : N / 2 ^ (64 * i) * 2 ^ (64 * i) = N / 2 ^ (64 * (i + 1)) * 2 ^ (64 * (i + 1)) + limb N i * 2 ^ (64 * i) := by
  unfold limb
  rw [Nat.mul_add, Nat.mul_one, Nat.pow_add, ← Nat.div_div_eq_div_mul]
  have h := Nat.div_add_mod (N / 2 ^ (64 * i)) 18446744073709551616
  generalize N / 2 ^ (64 * i) = M at *
  generalize 2 ^ (64 * i) = P at *
  rw [show (2 : Nat) ^ 64 = 18446744073709551616 from rfl]
  conv => lhs; rw [← h]
  rw [Nat.add_mul, Nat.mul_comm 18446744073709551616 (M / _), Nat.mul_assoc, Nat.mul_comm P]
/-- A limb of a number that is moved by less than a limb. -/
theorem limb_shift (a r j : Nat) (hr : r < 64) : limb (a * 2 ^ r) (j + 1) = limb a (j + 1) * 2 ^ r % 18446744073709551616 + limb a j / 2 ^ (64 - r) ∧ limb a j / 2 ^ (64 - r) < 2 ^ r := by
  have hB : 2 ^ (64 - r) * 2 ^ r = 18446744073709551616 := by rw [← Nat.pow_add, show 64 - r + r = 64 by omega]
  have hK : 0 < 2 ^ (64 - r) := Nat.pow_pos (by decide)
  have hR : 0 < 2 ^ r := Nat.pow_pos (by decide)
  unfold limb
  rw [Nat.mul_add, Nat.mul_one, Nat.pow_add, ← Nat.div_div_eq_div_mul a, show (2 : Nat) ^ 64 = 18446744073709551616 from rfl]
  have h1 : a * 2 ^ r / (2 ^ (64 * j) * 18446744073709551616) = a / 2 ^ (64 * j) / 2 ^ (64 - r) := by
    rw [← hB, ← Nat.mul_assoc, Nat.mul_div_mul_right _ _ hR, Nat.div_div_eq_div_mul]
  rw [h1]
  generalize a / 2 ^ (64 * j) = A
  generalize 2 ^ (64 - r) = K at *
  generalize 2 ^ r = R at *
  have h2 := Nat.div_add_mod A 18446744073709551616
  have hm : A % 18446744073709551616 < 18446744073709551616 := Nat.mod_lt _ (by decide)
  have ht : A % 18446744073709551616 / K < R := Nat.div_lt_of_lt_mul (by rw [hB]; exact hm)
  refine ⟨?_, ht⟩
  have h3 : A / K = A / 18446744073709551616 * R + A % 18446744073709551616 / K := by
    conv => lhs; rw [← h2, ← hB, Nat.mul_assoc, Nat.mul_add_div hK]
    rw [hB, Nat.mul_comm R]
  rw [h3, Nat.mod_mul_mod]
  have h4 : A / 18446744073709551616 * R % 18446744073709551616 = A / 18446744073709551616 % K * R := by rw [← hB, Nat.mul_mod_mul_right]
  have h5 : A / 18446744073709551616 % K * R + A % 18446744073709551616 / K < 18446744073709551616 := by
    have h6 : A / 18446744073709551616 % K < K := Nat.mod_lt _ hK
    have h7 : (A / 18446744073709551616 % K + 1) * R ≤ K * R := Nat.mul_le_mul_right _ h6
    rw [Nat.succ_mul, hB] at h7
    omega
  rw [Nat.add_mod, h4, Nat.mod_eq_of_lt (show A % 18446744073709551616 / K < 18446744073709551616 by omega), Nat.mod_eq_of_lt h5]
theorem limb_shift0 (a r : Nat) : limb (a * 2 ^ r) 0 = limb a 0 * 2 ^ r % 18446744073709551616 := by
  unfold limb; simp [Nat.mod_mul_mod]
/-- What is moved down. -/
theorem limb_down (a r j : Nat) (hr : r < 64) : limb (a / 2 ^ r) j = limb a j / 2 ^ r + limb a (j + 1) * 2 ^ (64 - r) % 18446744073709551616 ∧ limb a j / 2 ^ r < 2 ^ (64 - r) := by
  have hB : 2 ^ r * 2 ^ (64 - r) = 18446744073709551616 := by rw [← Nat.pow_add, show r + (64 - r) = 64 by omega]
  have hK : 0 < 2 ^ (64 - r) := Nat.pow_pos (by decide)
  have hR : 0 < 2 ^ r := Nat.pow_pos (by decide)
  unfold limb
  rw [Nat.mul_add, Nat.mul_one, Nat.pow_add, ← Nat.div_div_eq_div_mul a, show (2 : Nat) ^ 64 = 18446744073709551616 from rfl, Nat.div_div_eq_div_mul a, Nat.mul_comm (2 ^ r) (2 ^ (64 * j)), ← Nat.div_div_eq_div_mul a]
  generalize a / 2 ^ (64 * j) = A
  generalize 2 ^ (64 - r) = K at *
  generalize 2 ^ r = R at *
  have h2 := Nat.div_add_mod A 18446744073709551616
  have hm : A % 18446744073709551616 < 18446744073709551616 := Nat.mod_lt _ (by decide)
  have ht : A % 18446744073709551616 / R < K := Nat.div_lt_of_lt_mul (by rw [hB]; exact hm)
  refine ⟨?_, ht⟩
  have h3 : A / R = A / 18446744073709551616 * K + A % 18446744073709551616 / R := by
    conv => lhs; rw [← h2, ← hB, Nat.mul_assoc, Nat.mul_add_div hR]
    rw [hB, Nat.mul_comm K]
  rw [h3, Nat.mod_mul_mod]
  have h4 : A / 18446744073709551616 * K % 18446744073709551616 = A / 18446744073709551616 % R * K := by rw [← hB, Nat.mul_mod_mul_right]
  have h5 : A / 18446744073709551616 % R * K + A % 18446744073709551616 / R < 18446744073709551616 := by
    have h6 : A / 18446744073709551616 % R < R := Nat.mod_lt _ hR
    have h7 : (A / 18446744073709551616 % R + 1) * K ≤ R * K := Nat.mul_le_mul_right _ h6
    rw [Nat.succ_mul, hB] at h7
    omega
  rw [Nat.add_mod, h4, Nat.mod_eq_of_lt (show A % 18446744073709551616 / R < 18446744073709551616 by omega), Nat.mod_eq_of_lt h5, Nat.add_comm]
theorem or_low {R A t : Nat} {r : Nat} (hR : R = 2 ^ r) (hA : R ∣ A) (ht : t < R) : A ||| t = A + t := by
  obtain ⟨q, rfl⟩ := hA
  subst hR
  rw [Nat.mul_comm, ← Nat.shiftLeft_eq, Nat.shiftLeft_add_eq_or_of_lt ht]

theorem limb_mod (N j : Nat) (hj : j < 4) : limb (N % M256) j = limb N j := by
  unfold limb
  rcases (show j = 0 ∨ j = 1 ∨ j = 2 ∨ j = 3 by omega) with rfl | rfl | rfl | rfl <;> simp only [Nat.mul_zero, Nat.pow_zero, Nat.div_one, Nat.mul_one, Nat.reduceMul, Nat.reducePow, M256] <;> omega
theorem limb_mul (Y q j : Nat) : limb (Y * 2 ^ (64 * q)) (q + j) = limb Y j := by
  unfold limb
  rw [Nat.mul_add, Nat.pow_add, Nat.mul_comm (2 ^ (64 * q)), Nat.mul_div_mul_right _ _ (pow_pos2 _)]
theorem wc_setlimb (X i v1 v2 : Nat) (hi : i < 4) (hX : X + 18446744073709551615 * 2 ^ (64 * i) < M256) (h1 : v1 < 18446744073709551616) (h2 : v2 < 18446744073709551616) (hz : limb X i = 0) :
    ((wc (X + v1 * 2 ^ (64 * i))).toList.set i (.int .u64 ((v2 : Nat) : Int))).toArray = wc (X + v2 * 2 ^ (64 * i)) := by
  unfold limb at hz
  rcases (show i = 0 ∨ i = 1 ∨ i = 2 ∨ i = 3 by omega) with rfl | rfl | rfl | rfl <;> simp only [wc, List.set_cons_zero, List.set_cons_succ, Nat.mul_zero, Nat.pow_zero, Nat.div_one, Nat.mul_one, Nat.reduceMul, Nat.reducePow, M256] at hz hX ⊢
  · exact wc_val (by omega) (by omega) (by omega) (by omega) (by omega)
  · exact wc_val (by omega) (by omega) (by omega) (by omega) (by omega)
  · exact wc_val (by omega) (by omega) (by omega) (by omega) (by omega)
  · exact wc_val (by omega) (by omega) (by omega) (by omega) (by omega)
theorem bl_drop (x m k : Nat) (h : k ≤ m) : (bl x m).drop k = bl (x / 2 ^ k) (m - k) := by
  apply List.ext_getElem?
  intro i
  rw [List.getElem?_drop]
  rcases Nat.lt_or_ge i (m - k) with hi | hi
  · rw [bl_get _ _ _ (by omega), bl_get _ _ _ hi, Nat.div_div_eq_div_mul, ← Nat.pow_add]
  · rw [List.getElem?_eq_none (by rw [bl_len]; omega), List.getElem?_eq_none (by rw [bl_len]; exact hi)]
end Go.Proofs.Ytobkhnmglbfheaa

/-
  Words moved up and down: the walks.
  Conditions: none.
-/
namespace Go.Proofs.Ytobkhnmglbfheaa
open Go Go.RowKit SL
set_option maxRecDepth 8000
set_option maxHeartbeats 4000000
set_option linter.unusedSimpArgs false
set_option linter.unusedVariables false
attribute [local irreducible] SL.CW SL.LW SL.DW Calls SL.Ret SL.RetG SL.beginQ SL.roundQ SL.rangeQ SL.inQ SL.RW SL.AnyW SL.thenQ SL.thenC SL.thenW SL.blkQ SL.finQ SL.ValP SL.NewP SL.SetP SL.CallP SL.Rd SL.Wr SL.Known
theorem limb_rd (a j : Nat) (h : j < 4) {E : TypeId} {fr : Nat × Nat} : Rd Try.prog 25 (.cells (wc a) E fr) (0 + j * 1) (.int .u64 ((limb a j : Nat) : Int)) :=
  Rd.one (by rw [Nat.zero_add, Nat.mul_one]; have := nth_limb a j h; rw [nth_eq] at this; simpa using this)
theorem limb_wr (X i v1 v2 : Nat) (hi : i < 4) (hX : X + 18446744073709551615 * 2 ^ (64 * i) < M256) (h1 : v1 < 18446744073709551616) (h2 : v2 < 18446744073709551616) (hz : limb X i = 0) {E : TypeId} :
    Wr Try.prog 25 (.cells (wc (X + v1 * 2 ^ (64 * i))) E (0, 0)) (0 + i * 1) (.int .u64 ((v2 : Nat) : Int)) (.cells (wc (X + v2 * 2 ^ (64 * i))) E (0, 0)) :=
  Wr.cells rfl rfl (by show 0 + i * 1 + 1 ≤ 4; omega) (by
    rw [Nat.zero_add, Nat.mul_one, ← wc_setlimb X i v1 v2 hi hX h1 h2 hz]
    apply Array.toList_inj.1
    simp [wrCells, Value.cells])
theorem limb_zero (Y k : Nat) : limb (Y * 2 ^ (64 * (k + 1))) k = 0 := by
  unfold limb
  rw [Nat.mul_add, Nat.mul_one, Nat.pow_add, ← Nat.mul_assoc, Nat.mul_right_comm, Nat.mul_div_cancel _ (pow_pos2 _), show (2 : Nat) ^ 64 = 18446744073709551616 from rfl, Nat.mul_mod_left]
theorem limb_put (X k v : Nat) (hz : limb X k = 0) (hv : v < 18446744073709551616) : limb (X + v * 2 ^ (64 * k)) k = v := by
  unfold limb at *
  rw [Nat.add_mul_div_right _ _ (pow_pos2 _), Nat.add_mod, hz, Nat.zero_add, Nat.mod_mod, Nat.mod_eq_of_lt hv]
theorem top_lt (N k : Nat) (hk : k < 4) (hN : N < M256) : N / 2 ^ (64 * (k + 1)) * 2 ^ (64 * (k + 1)) + 18446744073709551615 * 2 ^ (64 * k) < M256 := by
  simp only [M256] at *
  rcases (show k = 0 ∨ k = 1 ∨ k = 2 ∨ k = 3 by omega) with rfl | rfl | rfl | rfl <;> simp only [Nat.reduceAdd, Nat.reduceMul, Nat.reducePow, Nat.mul_zero, Nat.pow_zero] <;> omega
theorem dvd_low (L r : Nat) (hr : r < 64) : 2 ^ r ∣ L * 2 ^ r % 18446744073709551616 := by
  rw [← show 2 ^ (64 - r) * 2 ^ r = 18446744073709551616 by rw [← Nat.pow_add, show 64 - r + r = 64 by omega], Nat.mul_mod_mul_right]
  exact ⟨_, Nat.mul_comm _ _⟩
end Go.Proofs.Ytobkhnmglbfheaa

/-
  Words moved down: the walk.
  Conditions: none.
-/
namespace Go.Proofs.Ytobkhnmglbfheaa
open Go Go.RowKit SL
set_option maxRecDepth 8000
set_option maxHeartbeats 4000000
set_option linter.unusedSimpArgs false
set_option linter.unusedVariables false
attribute [local irreducible] SL.CW SL.LW SL.DW Calls SL.Ret SL.RetG SL.beginQ SL.roundQ SL.rangeQ SL.inQ SL.RW SL.AnyW SL.thenQ SL.thenC SL.thenW SL.blkQ SL.finQ SL.ValP SL.NewP SL.SetP SL.CallP SL.Rd SL.Wr SL.Known
theorem limb_div (Y q j : Nat) : limb (Y / 2 ^ (64 * q)) j = limb Y (j + q) := by
  unfold limb
  rw [Nat.div_div_eq_div_mul, ← Nat.pow_add, ← Nat.mul_add, Nat.add_comm]
theorem low_zero (N m : Nat) : limb (N % 2 ^ (64 * m)) m = 0 := by
  unfold limb
  rw [Nat.div_eq_of_lt (Nat.mod_lt _ (pow_pos2 _))]
theorem low_lt (N m : Nat) (hm : m < 4) : N % 2 ^ (64 * m) + 18446744073709551615 * 2 ^ (64 * m) < M256 := by
  have h := Nat.mod_lt N (pow_pos2 (64 * m))
  simp only [M256]
  rcases (show m = 0 ∨ m = 1 ∨ m = 2 ∨ m = 3 by omega) with rfl | rfl | rfl | rfl <;> simp only [Nat.reduceMul, Nat.reducePow, Nat.mul_zero, Nat.pow_zero] at h ⊢ <;> omega
end Go.Proofs.Ytobkhnmglbfheaa

/-
  Words and their bytes: contracts.
  Conditions: none.
-/
namespace Go.Proofs.Ytobkhnmglbfheaa
open Go Go.RowKit SL
set_option maxRecDepth 8000
set_option maxHeartbeats 4000000
set_option linter.unusedSimpArgs false
set_option linter.unusedVariables false
attribute [local irreducible] SL.CW SL.LW SL.DW Calls SL.Ret SL.RetG SL.beginQ SL.roundQ SL.rangeQ SL.inQ SL.RW SL.AnyW SL.thenQ SL.thenC SL.thenW SL.blkQ SL.finQ SL.ValP SL.NewP SL.SetP SL.CallP SL.Rd SL.Wr SL.Known
/-! ### The same bytes? -/
theorem Equal_calls (va vb : Value) (la lb : List UInt8) (na nb : Nat) (w : World) (ha : RowAt w 1 va na (ucs la)) (hb : RowAt w 1 vb nb (ucs lb)) : Calls Try.prog 16 #[va, vb] w (Ret w (.bool (decide (la = lb)))) := by
  refine enter (args := [_, _]) _ [] [] Try.func16 rfl Try.ntmps16 rfl (by simp) .nil ?_
  (refine CW.seq ?_; refine CW.region ?_; apply LW.v0; rfl; rfl; apply ValP.assign; rfl; apply LW.nil; refine thenN ?_; refine CW.seq ?_; refine CW.region ?_; apply LW.v0; rfl; rfl; apply ValP.move; rfl)
  apply LW.toStr
  rfl
  infer_instance
  infer_instance
  infer_instance
  rfl
  exact fun w hs => ha.st hs
  (apply LW.v0; rfl; rfl; apply ValP.move; rfl)
  apply LW.toStr
  rfl
  infer_instance
  infer_instance
  infer_instance
  rfl
  exact fun w hs => hb.st hs
  (apply LW.v0; rfl; rfl; apply ValP.strEq; rfl; rfl; apply LW.v0; rfl; rfl; apply ValP.assign; rfl; apply LW.nil; refine thenN ?_; refine CW.ret ?_)
  (apply finR; exact .inl rfl; rfl; rfl; rfl; apply ResL.cons; exact Res.tmp rfl; exact ResL.nil)
  rw [bytes_eq]
  rfl
/-! ### Bytes of a number, the highest one first -/
def beb (m a : Nat) : List UInt8 := (List.range m).map fun i => UInt8.ofNat (a / 256 ^ (m - 1 - i))
theorem beb_len (m a : Nat) : (beb m a).length = m := by simp [beb]
theorem beb_get (m a i : Nat) (h : i < m) : (beb m a)[i]? = some (UInt8.ofNat (a / 256 ^ (m - 1 - i))) := by simp [beb, h]
theorem byte_limb (a n : Nat) (hn : n < 32) : a / 2 ^ (64 * (0 + n / 8 * 1)) % 18446744073709551616 / 2 ^ (8 * (n % 8)) % 256 = a / 256 ^ n % 256 := by
  rw [show (18446744073709551616 : Nat) = 2 ^ (8 * (n % 8) + (64 - 8 * (n % 8))) by rw [show 8 * (n % 8) + (64 - 8 * (n % 8)) = 64 by omega]]
  rw [Nat.pow_add, Nat.mod_mul_right_div_self, Nat.div_div_eq_div_mul, ← Nat.pow_add, show 64 * (0 + n / 8 * 1) + 8 * (n % 8) = 8 * n by omega, Nat.pow_mul]
  obtain ⟨j, hj⟩ : ∃ j, 64 - 8 * (n % 8) = 8 + j := ⟨56 - 8 * (n % 8), by omega⟩
  rw [hj, Nat.pow_add, show (256 : Nat) = 2 ^ 8 from rfl, Nat.mod_mod_of_dvd _ ⟨2 ^ j, rfl⟩]
theorem beb_u8 (a k : Nat) (hk : k < 32) : ((a / 2 ^ (64 * (0 + (32 - 1 - k) / 8 * 1)) % 18446744073709551616 / 2 ^ (8 * ((32 - 1 - k) % 8)) % 256 : Nat) : Int) = (((UInt8.ofNat (a / 256 ^ (32 - 1 - k))).toNat : Nat) : Int) := by
  rw [byte_limb a _ (by omega), UInt8.toNat_ofNat']
/-- The first k bytes, the others 0. -/
def fillB (L : List UInt8) (k : Nat) : List UInt8 := L.take k ++ List.replicate (L.length - k) 0
theorem fillB_step (L : List UInt8) (k : Nat) (u : UInt8) (h : k < L.length) (hu : L[k]? = some u) : ucs ((fillB L k).take k) ++ [Value.int .u8 (u.toNat : Int)] ++ ucs ((fillB L k).drop (k + 1)) = ucs (fillB L (k + 1)) := by
  have h1 : (L.take k).length = k := by simp; omega
  have e1 : (fillB L k).take k = L.take k := by unfold fillB; rw [List.take_append_of_le_length (by omega), List.take_of_length_le (by omega)]
  have e2 : (fillB L k).drop (k + 1) = List.replicate (L.length - (k + 1)) 0 := by
    unfold fillB
    rw [List.drop_append, h1, List.drop_eq_nil_of_le (by omega), List.nil_append, List.drop_replicate]
    congr 1; omega
  obtain ⟨hk, hv⟩ := List.getElem?_eq_some_iff.1 hu
  rw [e1, e2, show [Value.int .u8 (u.toNat : Int)] = ucs [u] from rfl, ← ucs_app, ← ucs_app]
  unfold fillB
  rw [List.take_succ_eq_append_getElem hk, hv]
theorem fillB_len (L : List UInt8) (k : Nat) (h : k ≤ L.length) : (fillB L k).length = L.length := by simp [fillB]; omega
structure BX where
  m : Nat
  seg : Fs
theorem Bytes_calls (a : Nat) (ha : a < M256) (w : World) : Calls Try.prog 84 #[wv a] w (RetG w [] fun v gs => IsRow 5 1 v 32 (ucs (beb 32 a)) gs) := by
  refine enter (args := [_]) _ [] [] Try.func84 rfl Try.ntmps84 rfl (by simp) .nil ?_
  (refine CW.seq ?_; refine CW.region ?_; apply LW.boxA; rfl; rfl; intro _; apply LW.v0; rfl; rfl; apply ValP.assign; rfl; apply LW.nil; refine thenN ?_; refine CW.seq ?_; refine CW.region ?_)
  rename_i b
  refine LW.makeRow (n := 32) rfl inferInstance inferInstance inferInstance rfl rfl (by decide) (by decide) ?_
  intro v0 seg0 hrow0
  obtain ⟨p0, c0, rfl⟩ := hrow0.form
  rw [← ucs_zero] at hrow0
  (apply LW.v0; rfl; rfl; apply ValP.assign; rfl; apply LW.nil; refine thenN ?_; refine CW.seq ?_; refine CW.seq ?_; refine CW.region ?_; apply LW.v0; rfl; rfl; apply ValP.move; rfl; apply LW.v0; rfl; rfl; apply ValP.lenR; rfl; infer_instance; rfl; apply LW.v0; rfl; rfl; apply ValP.move; rfl; apply LW.nil; refine thenN ?_; refine CW.block ?_)
  refine CW.loop (fun x : BX => ([(9, .int .i64 (x.m : Int)), (8, .int .i64 32), (3, .slice p0 32 c0), (1, .pointer (some ⟨b, 0, none⟩))], x.seg ++ [(b, .cells (wc a) 28 (0, 0))]))
    (fun x => x.m ≤ 32 ∧ IsRow 5 1 (.slice p0 32 c0) 32 (ucs (fillB (beb 32 a) x.m)) x.seg) (fun x => 32 - x.m) ⟨0, seg0⟩ ⟨Nat.zero_le _, by simpa [fillB, beb_len] using hrow0⟩ ⟨rfl, rfl, rfl, rfl, trivial⟩ (List.Sublist.refl _) ?_
  rintro ⟨k, seg⟩ ⟨hk, hrow⟩
  dsimp only at hk hrow ⊢
  rcases Nat.lt_or_ge k 32 with hlt | hge
  · obtain ⟨g, cur, rfl, rfl, hc1, hmx, hsz, ht⟩ := hrow.pos (by decide)
    have hu := beb_get 32 a k hlt
    have hval := beb_u8 a k hlt
    obtain ⟨u, hu'⟩ : ∃ u, u = UInt8.ofNat (a / 256 ^ (32 - 1 - k)) := ⟨_, rfl⟩
    rw [← hu'] at hu hval
    obtain ⟨w1, w2⟩ := wr_take (i := k) (vs := [Value.int .u8 (u.toNat : Int)]) ht rfl hlt (by omega)
    rw [ucs_take, ucs_drop, fillB_step _ _ _ (by rw [beb_len]; exact hlt) hu] at w1
    have hW : Wr Try.prog 5 (.cells cur 5 (0, 0)) (0 + k * 1) (.int .u8 (u.toNat : Int)) (.cells (wrCells cur (k * 1) [Value.int .u8 (u.toNat : Int)]) 5 (0, 0)) := Wr.cells rfl rfl (by rw [hsz]; show 0 + k * 1 + 1 ≤ c0 * 1; omega) (by rw [Nat.zero_add]; rfl)
    rw [← hval] at hW
    (refine CW.seq ?_; refine CW.region ?_; apply LW.v0; rfl; rfl; apply ValP.lssT; rfl; rfl; omega; apply LW.nil; refine thenN ?_; refine CW.seq ?_; apply CW.condT; rfl; (with_reducible rfl); refine CW.skip ?_; refine thenN ?_; refine CW.seq ?_; refine CW.block ?_; refine CW.seq ?_; refine CW.region ?_; apply LW.v0; rfl; rfl; apply ValP.move; rfl; apply LW.v0; rfl; rfl; apply ValP.assign; rfl; apply LW.nil; refine thenN ?_; refine CW.seq ?_; refine CW.region ?_; apply LW.v0; rfl; rfl; apply ValP.move; rfl; apply LW.v0; rfl; rfl; apply ValP.lenR; rfl; infer_instance; rfl; apply LW.v0; rfl; rfl; apply ValP.subZL; rfl; rfl; decide; omega; omega; apply LW.v0; rfl; rfl; apply ValP.move; rfl; apply LW.v0; rfl; rfl; apply ValP.subZ; rfl; rfl; omega; omega; apply LW.v0; rfl; rfl; apply ValP.assign; rfl; apply LW.nil; refine thenN ?_; refine CW.region ?_; apply LW.v0; rfl; rfl; apply ValP.move; rfl; apply LW.v0; rfl; rfl; apply ValP.move; rfl; apply LW.v0; rfl; rfl; apply ValP.move; rfl; apply LW.v0; rfl; rfl; apply ValP.quoZL; rfl; rfl; decide; omega; omega; apply LW.v0; rfl; rfl; apply ValP.indexAddrA; rfl; rfl; rfl; omega; apply LW.load; rfl; rfl; apply Known.at; apply FsAt.tail; apply FsAt.head; apply Rd.one'; apply nth_wc; omega; apply LW.v0; rfl; rfl; apply ValP.move; rfl; apply LW.v0; rfl; rfl; apply ValP.remZL; rfl; rfl; decide; omega; apply LW.v0; rfl; rfl; apply ValP.mulZK; rfl; rfl; decide; omega; apply LW.v0; rfl; rfl; apply ValP.shrU; rfl; rfl; omega; apply LW.v0; rfl; rfl; apply ValP.convB; rfl; apply LW.v0; rfl; rfl; apply ValP.indexAddrS; rfl; rfl; rfl; omega; apply LW.store; rfl; rfl; apply SetAt.head; assumption; apply LW.nil; refine blkN ?_; refine thenN ?_; refine CW.region ?_; apply LW.v0; rfl; rfl; apply ValP.addZL; rfl; rfl; decide; omega; apply LW.v0; rfl; rfl; apply ValP.move; rfl; apply LW.nil)
    apply thenX
    refine ⟨rfl, ⟨k + 1, _⟩, ⟨hlt, .own hc1 hmx (by rw [w2, hsz]) w1 ?_⟩, by show 32 - (k + 1) < 32 - k; omega, ⟨rfl, rfl, rfl, rfl, trivial⟩, by rw [hval]; exact List.Sublist.refl _⟩
    rw [ucs_len, fillB_len _ _ (by rw [beb_len]; exact hlt), beb_len]
  · obtain rfl : k = 32 := by omega
    rw [show fillB (beb 32 a) 32 = beb 32 a by simp [fillB, beb_len, List.take_of_length_le]] at hrow
    (refine CW.seq ?_; refine CW.region ?_; apply LW.v0; rfl; rfl; apply ValP.lssF; rfl; rfl; omega; apply LW.nil; refine thenN ?_; refine CW.seq ?_; apply CW.condF; rfl; (with_reducible rfl); refine CW.exit ?_; refine thenE ?_; refine thenE ?_; refine blkE rfl ?_; refine thenN ?_; refine CW.seq ?_; refine CW.region ?_; apply LW.v0; rfl; rfl; apply ValP.move; rfl; apply LW.v0; rfl; rfl; apply ValP.assign; rfl; apply LW.nil; refine thenN ?_; refine CW.ret ?_)
    apply finM seg; (exact .inl rfl); (exact Shut.nil); rfl; (apply ResL.cons; exact Res.tmp rfl; exact ResL.nil); exact List.sublist_append_left _ _
    exact hrow
theorem rBytes_calls (a : Nat) (ha : a < M256) (w : World) : Calls Try.prog 79 #[wv a] w (RetG w [] fun v gs => IsRow 5 1 v 32 (ucs (beb 32 a)) gs) := by
  refine enter (args := [_]) _ [] [] Try.func79 rfl Try.ntmps79 rfl (by simp) .nil ?_
  (refine CW.seq ?_; refine CW.region ?_; apply LW.boxA; rfl; rfl; intro _; apply LW.v0; rfl; rfl; apply ValP.assign; rfl; apply LW.nil; refine thenN ?_; refine CW.seq ?_; refine CW.region ?_; apply LW.v0; rfl; rfl; apply ValP.assign; rfl; apply LW.nil; refine thenN ?_; refine CW.seq ?_; refine CW.seq ?_; refine CW.region ?_; apply LW.v0; rfl; rfl; apply ValP.assign; rfl; apply LW.nil; refine thenN ?_; refine CW.block ?_)
  rename_i b
  refine CW.loop (fun x : RX => ([(4, .int .i64 (31 - (x.m : Int))), (3, x.v), (1, .pointer (some ⟨b, 0, none⟩))], x.seg ++ [(b, .cells (wc a) 28 (0, 0))]))
    (fun x => x.m ≤ 32 ∧ IsRow 5 1 x.v x.m (ucs ((beb 32 a).take x.m)) x.seg) (fun x => 32 - x.m) ⟨0, .slice none 0 0, []⟩ ⟨Nat.zero_le _, .nil⟩ ⟨rfl, rfl, rfl, trivial⟩ (List.Sublist.refl _) ?_
  rintro ⟨k, v, seg⟩ ⟨hk, hrow⟩
  dsimp only at hk hrow ⊢
  obtain ⟨p, c, rfl⟩ := hrow.form
  rcases Nat.lt_or_ge k 32 with hlt | hge
  · have e0 : (31 - (k : Int)) = ((32 - 1 - k : Nat) : Int) := by omega
    have e1 : (31 - ((k + 1 : Nat) : Int)) = ((32 - 1 - k : Nat) : Int) - 1 := by omega
    rw [e0]
    have hu := beb_get 32 a k hlt
    have hval := beb_u8 a k hlt
    obtain ⟨u, hu'⟩ : ∃ u, u = UInt8.ofNat (a / 256 ^ (32 - 1 - k)) := ⟨_, rfl⟩
    rw [← hu'] at hu hval
    have hn32 : 32 - 1 - k < 32 := by omega
    obtain ⟨n, hn⟩ : ∃ n, n = 32 - 1 - k := ⟨_, rfl⟩
    rw [← hn] at hval hn32 e1 ⊢
    (refine CW.seq ?_; refine CW.seq ?_; refine CW.region ?_; apply LW.v0; rfl; rfl; apply ValP.move; rfl; apply LW.v0; rfl; rfl; apply ValP.geqT; rfl; rfl; omega; apply LW.nil; refine thenN ?_; apply CW.condT; rfl; (with_reducible rfl); refine CW.skip ?_; refine thenN ?_; refine CW.seq ?_; refine CW.block ?_; refine CW.region ?_; apply LW.v0; rfl; rfl; apply ValP.move; rfl; apply LW.v0; rfl; rfl; apply ValP.move; rfl; apply LW.v0; rfl; rfl; apply ValP.quoZL; rfl; rfl; decide; omega; omega; apply LW.v0; rfl; rfl; apply ValP.indexAddrA; rfl; rfl; rfl; omega; apply LW.load; rfl; rfl; apply Known.at; apply FsAt.app; apply FsAt.head; apply Rd.one'; apply nth_wc; omega; apply LW.v0; rfl; rfl; apply ValP.move; rfl; apply LW.v0; rfl; rfl; apply ValP.remZL; rfl; rfl; decide; omega; apply LW.v0; rfl; rfl; apply ValP.mulZK; rfl; rfl; decide; omega; apply LW.v0; rfl; rfl; apply ValP.shrU; rfl; rfl; omega; apply LW.v0; rfl; rfl; apply ValP.convB; rfl; apply LW.lay1; rfl; infer_instance; infer_instance; rfl; rfl; rfl; rfl; rfl; rfl; intro _)
    rw [hval]
    skip
    (apply LW.append; rfl; rfl; infer_instance; infer_instance; infer_instance; rfl; rfl; rfl; (case hrow => assumption); apply AtSeg.cons; exact AtSeg.head; apply Known.at; apply FsAt.head; rfl; rfl; rfl; omega; simp only [maxLen]; omega; omega; intro v' seg' hrow'; obtain ⟨p', c', rfl⟩ := hrow'.form; (refine ⟨_, (by (repeat (first | exact AtSeg.head | apply AtSeg.cons | apply AtSeg.app))), ?_⟩); (try simp only [List.cons_append, List.nil_append]))
    (apply LW.v0; rfl; rfl; apply ValP.assign; rfl; apply LW.nil; refine blkN ?_; refine thenN ?_; refine CW.region ?_; apply LW.v0; rfl; rfl; apply ValP.move; rfl; apply LW.v0; rfl; rfl; apply ValP.subI; rfl; rfl; omega; omega; apply LW.v0; rfl; rfl; apply ValP.assign; rfl; apply LW.nil)
    apply thenX
    refine ⟨rfl, ⟨k + 1, _, seg'⟩, ⟨hlt, ?_⟩, by show 32 - (k + 1) < 32 - k; omega, ⟨congrArg (fun z => some (Value.int .i64 z)) e1.symm, rfl, rfl, trivial⟩, by (apply List.Sublist.cons; exact List.Sublist.refl _)⟩
    obtain ⟨h1, h2⟩ := List.getElem?_eq_some_iff.1 hu
    rw [List.take_succ_eq_append_getElem h1, h2, ucs_app]
    exact hrow'
  · obtain rfl : k = 32 := by omega
    rw [List.take_of_length_le (by rw [beb_len]; exact Nat.le_refl _)] at hrow
    (refine CW.seq ?_; refine CW.seq ?_; refine CW.region ?_; apply LW.v0; rfl; rfl; apply ValP.move; rfl; apply LW.v0; rfl; rfl; apply ValP.geqF; rfl; rfl; omega; apply LW.nil; refine thenN ?_; apply CW.condF; rfl; (with_reducible rfl); refine CW.exit ?_; refine thenE ?_; refine thenE ?_; refine blkE rfl ?_; refine thenN ?_; refine CW.seq ?_; refine CW.region ?_; apply LW.v0; rfl; rfl; apply ValP.move; rfl; apply LW.v0; rfl; rfl; apply ValP.assign; rfl; apply LW.nil; refine thenN ?_; refine CW.ret ?_)
    apply finM seg; (exact .inl rfl); (exact Shut.nil); rfl; (apply ResL.cons; exact Res.tmp rfl; exact ResL.nil); exact List.sublist_append_left _ _
    exact hrow
/-! ### The word of bytes -/
def bev (l : List UInt8) : Nat := l.foldl (fun n u => 256 * n + u.toNat) 0
theorem bev_snoc (l : List UInt8) (u : UInt8) : bev (l ++ [u]) = 256 * bev l + u.toNat := by simp [bev, List.foldl_append]
theorem bev_go (l : List UInt8) : ∀ n, l.foldl (fun n u => 256 * n + u.toNat) n < (n + 1) * 2 ^ (8 * l.length) := by
  induction l with
  | nil => intro n; simp
  | cons u l ih =>
    intro n
    have hu := u.toNat_lt
    rw [List.foldl_cons, List.length_cons, show 8 * (l.length + 1) = 8 + 8 * l.length by omega, Nat.pow_add, ← Nat.mul_assoc]
    exact Nat.lt_of_lt_of_le (ih _) (Nat.mul_le_mul_right _ (by omega))
theorem bev_lt (l : List UInt8) : bev l < 2 ^ (8 * l.length) := by
  have := bev_go l 0
  rwa [Nat.zero_add, Nat.one_mul] at this
/-- What is read of the first m bytes. -/
def bup (l : List UInt8) (m : Nat) : Nat := bev (l.take m) * 2 ^ (8 * (l.length - m))
theorem bup_lt (l : List UInt8) (m : Nat) (hm : m ≤ l.length) (hl : l.length ≤ 32) : bup l m < M256 := by
  have h := bev_lt (l.take m)
  rw [List.length_take, Nat.min_eq_left hm] at h
  unfold bup
  calc _ < 2 ^ (8 * m) * 2 ^ (8 * (l.length - m)) := Nat.mul_lt_mul_of_pos_right h (pow_pos2 _)
    _ = 2 ^ (8 * l.length) := by rw [← Nat.pow_add]; congr 1; omega
    _ ≤ 2 ^ 256 := Nat.pow_le_pow_right (by decide) (by omega)
theorem bup_step (l : List UInt8) (m : Nat) (h : m < l.length) : bup l m ||| l[m].toNat * 2 ^ (8 * (l.length - 1 - m)) = bup l (m + 1) := by
  have hu := l[m].toNat_lt
  have e : 2 ^ (8 * (l.length - m)) = 256 * 2 ^ (8 * (l.length - 1 - m)) := by rw [show 8 * (l.length - m) = 8 + 8 * (l.length - 1 - m) by omega, Nat.pow_add]
  have hp := pow_pos2 (8 * (l.length - 1 - m))
  unfold bup
  rw [or_low (R := 2 ^ (8 * (l.length - m))) rfl ⟨bev (l.take m), Nat.mul_comm _ _⟩ (by rw [e]; exact Nat.mul_lt_mul_of_pos_right hu hp)]
  rw [List.take_succ_eq_append_getElem h, bev_snoc, Nat.add_mul, e, show l.length - (m + 1) = l.length - 1 - m by omega, ← Nat.mul_assoc, Nat.mul_comm (bev _) 256]
theorem or_limb (X Z k : Nat) : (X ||| Z) / 2 ^ k % 18446744073709551616 = X / 2 ^ k % 18446744073709551616 ||| Z / 2 ^ k % 18446744073709551616 := by
  rw [Nat.or_div_two_pow, show (18446744073709551616 : Nat) = 2 ^ 64 from rfl, Nat.or_mod_two_pow]
theorem wc_or (X Z : Nat) : wc (X ||| Z) = #[.int .u64 ((X % 18446744073709551616 ||| Z % 18446744073709551616 : Nat) : Int), .int .u64 ((X / 18446744073709551616 % 18446744073709551616 ||| Z / 18446744073709551616 % 18446744073709551616 : Nat) : Int),
    .int .u64 ((X / 340282366920938463463374607431768211456 % 18446744073709551616 ||| Z / 340282366920938463463374607431768211456 % 18446744073709551616 : Nat) : Int), .int .u64 ((X / 6277101735386680763835789423207666416102355444464034512896 % 18446744073709551616 ||| Z / 6277101735386680763835789423207666416102355444464034512896 % 18446744073709551616 : Nat) : Int)] := by
  have h0 := or_limb X Z 0
  have h1 := or_limb X Z 64
  have h2 := or_limb X Z 128
  have h3 := or_limb X Z 192
  simp only [Nat.pow_zero, Nat.div_one, Nat.reducePow] at h0 h1 h2 h3
  rw [wc, h0, h1, h2, h3]
theorem wc_setor (X i v : Nat) (hi : i < 4) (hv : v < 18446744073709551616) : ((wc X).toList.set i (.int .u64 ((limb X i ||| v : Nat) : Int))).toArray = wc (X ||| v * 2 ^ (64 * i)) := by
  rw [wc_or]
  have e0 : v % 18446744073709551616 = v := Nat.mod_eq_of_lt hv
  unfold limb
  rcases (show i = 0 ∨ i = 1 ∨ i = 2 ∨ i = 3 by omega) with rfl | rfl | rfl | rfl <;> simp only [wc, List.set_cons_zero, List.set_cons_succ, Nat.mul_zero, Nat.pow_zero, Nat.div_one, Nat.mul_one, Nat.reduceMul, Nat.reducePow]
  · rw [e0, show v / 18446744073709551616 % 18446744073709551616 = 0 by omega, show v / 340282366920938463463374607431768211456 % 18446744073709551616 = 0 by omega, show v / 6277101735386680763835789423207666416102355444464034512896 % 18446744073709551616 = 0 by omega, Nat.or_zero, Nat.or_zero, Nat.or_zero]
  · rw [show v * 18446744073709551616 / 18446744073709551616 % 18446744073709551616 = v by omega, show v * 18446744073709551616 % 18446744073709551616 = 0 by omega, show v * 18446744073709551616 / 340282366920938463463374607431768211456 % 18446744073709551616 = 0 by omega, show v * 18446744073709551616 / 6277101735386680763835789423207666416102355444464034512896 % 18446744073709551616 = 0 by omega, Nat.or_zero, Nat.or_zero, Nat.or_zero]
  · rw [show v * 340282366920938463463374607431768211456 / 18446744073709551616 % 18446744073709551616 = 0 by omega, show v * 340282366920938463463374607431768211456 % 18446744073709551616 = 0 by omega, show v * 340282366920938463463374607431768211456 / 340282366920938463463374607431768211456 % 18446744073709551616 = v by omega, show v * 340282366920938463463374607431768211456 / 6277101735386680763835789423207666416102355444464034512896 % 18446744073709551616 = 0 by omega, Nat.or_zero, Nat.or_zero, Nat.or_zero]
  · rw [show v * 6277101735386680763835789423207666416102355444464034512896 / 18446744073709551616 % 18446744073709551616 = 0 by omega, show v * 6277101735386680763835789423207666416102355444464034512896 % 18446744073709551616 = 0 by omega, show v * 6277101735386680763835789423207666416102355444464034512896 / 340282366920938463463374607431768211456 % 18446744073709551616 = 0 by omega, show v * 6277101735386680763835789423207666416102355444464034512896 / 6277101735386680763835789423207666416102355444464034512896 % 18446744073709551616 = v by omega, Nat.or_zero, Nat.or_zero, Nat.or_zero]
theorem byte_wr (X n u : Nat) (hn : n < 32) (hu : u < 256) {E : TypeId} : Wr Try.prog 25 (.cells (wc X) E (0, 0)) (0 + n / 8 * 1) (.int .u64 ((limb X (n / 8) ||| u * 2 ^ (8 * (n % 8)) % 18446744073709551616 : Nat) : Int)) (.cells (wc (X ||| u * 2 ^ (8 * n))) E (0, 0)) :=
  Wr.cells rfl rfl (by show 0 + n / 8 * 1 + 1 ≤ 4; omega) (by
    have h7 : 2 ^ (8 * (n % 8)) ≤ 2 ^ 56 := Nat.pow_le_pow_right (by decide) (by omega)
    have hlt : u * 2 ^ (8 * (n % 8)) < 18446744073709551616 := by
      have := Nat.mul_le_mul (show u ≤ 255 by omega) h7
      have : (255 : Nat) * 2 ^ 56 < 18446744073709551616 := by decide
      omega
    have h := wc_setor X (n / 8) (u * 2 ^ (8 * (n % 8))) (by omega) hlt
    rw [Nat.mul_assoc, ← Nat.pow_add, show 8 * (n % 8) + 64 * (n / 8) = 8 * n by omega] at h
    rw [Nat.zero_add, Nat.mul_one, Nat.mod_eq_of_lt hlt, ← h]
    apply Array.toList_inj.1
    simp [wrCells, Value.cells])
theorem Read_calls (v : Value) (l : List UInt8) (w : World) (hv : RowAt w 1 v l.length (ucs l)) (hl : l.length ≤ 32) : Calls Try.prog 85 #[v] w (Ret w (.tuple #[wv (bev l), .int .i64 0])) := by
  obtain ⟨p, c, rfl, hc, hm⟩ := hv.form
  simp only [maxLen] at hm
  refine enter (args := [_]) _ [] [] Try.func85 rfl Try.ntmps85 rfl (by simp) .nil ?_
  (refine CW.seq ?_; refine CW.region ?_; apply LW.allocW; rfl; intro _; apply LW.v0; rfl; rfl; apply ValP.assign; rfl; apply LW.nil; refine thenN ?_; refine CW.seq ?_; refine CW.region ?_; apply LW.allocW; rfl; intro _; apply LW.nil; refine thenN ?_; refine CW.seq ?_; refine CW.seq ?_; refine CW.region ?_; apply LW.v0; rfl; rfl; apply ValP.move; rfl; apply LW.v0; rfl; rfl; apply ValP.lenR; rfl; infer_instance; rfl; apply LW.v0; rfl; rfl; apply ValP.gtrF; rfl; rfl; omega; apply LW.nil; refine thenN ?_; apply CW.condF; rfl; (with_reducible rfl); refine CW.skip ?_; refine thenN ?_; refine CW.seq ?_; refine CW.seq ?_; refine CW.region ?_; apply LW.v0; rfl; rfl; apply ValP.move; rfl; apply LW.v0; rfl; rfl; apply ValP.lenR; rfl; infer_instance; rfl; apply LW.v0; rfl; rfl; apply ValP.move; rfl; apply LW.nil; refine thenN ?_; refine CW.block ?_)
  rename_i b2 b4
  refine CW.loop (fun m : Nat => ([(14, .int .i64 (m : Int)), (13, .int .i64 (l.length : Int)), (12, .slice p l.length c), (0, .slice p l.length c), (4, .pointer (some ⟨b4, 0, none⟩)), (2, .pointer (some ⟨b2, 0, none⟩))],
      [(b4, .cells (wc (bup l m)) 28 (0, 0)), (b2, .cells (wc 0) 28 (0, 0))]))
    (fun m => m ≤ l.length) (fun m => l.length - m) 0 (Nat.zero_le _) ⟨rfl, rfl, rfl, rfl, rfl, rfl, trivial⟩ (by simp [bup, bev]) ?_
  intro m hml
  dsimp only at hml ⊢
  rcases Nat.lt_or_ge m l.length with hlt | hge
  · obtain ⟨b, off, c', cs, E, fr, heq, hb, hx⟩ := hv.pos (by omega)
    cases heq
    obtain ⟨u, hu⟩ : ∃ u, u = l[m] := ⟨_, rfl⟩
    have hrd : Rd Try.prog 5 (.cells cs E fr) (off + m * 1) (.int .u8 (u.toNat : Int)) := Rd.elem1 hx (ucs_one l) (by rw [hu]; exact List.getElem?_eq_getElem hlt) rfl
    have hu8 := u.toNat_lt
    have hst := bup_step l m hlt
    rw [← hu] at hst
    have hn32 : l.length - 1 - m < 32 := by omega
    obtain ⟨X, hX⟩ : ∃ X, X = bup l m := ⟨_, rfl⟩
    rw [← hX] at hst ⊢
    have hlm := limb_lt X ((l.length - 1 - m) / 8)
    have hrl := limb_rd X ((l.length - 1 - m) / 8) (by omega) (E := 28) (fr := (0, 0))
    have hW := byte_wr X (l.length - 1 - m) u.toNat hn32 hu8 (E := 28)
    have hv8 : u.toNat * 2 ^ (8 * ((l.length - 1 - m) % 8)) % 18446744073709551616 < 18446744073709551616 := Nat.mod_lt _ (by decide)
    rw [hst] at hW
    (refine CW.seq ?_; refine CW.region ?_; apply LW.v0; rfl; rfl; apply ValP.lssT; rfl; rfl; omega; apply LW.nil; refine thenN ?_; refine CW.seq ?_; apply CW.condT; rfl; (with_reducible rfl); refine CW.skip ?_; refine thenN ?_; refine CW.seq ?_; refine CW.block ?_; refine CW.seq ?_; refine CW.region ?_; apply LW.v0; rfl; rfl; apply ValP.move; rfl; apply LW.v0; rfl; rfl; apply ValP.indexAddrS; rfl; rfl; rfl; omega; apply LW.load; rfl; rfl; exact Known.ext (by assumption) (by simp); assumption; apply LW.v0; rfl; rfl; apply ValP.assign; rfl; apply LW.v0; rfl; rfl; apply ValP.assign; rfl; apply LW.nil; refine thenN ?_; refine CW.seq ?_; refine CW.region ?_; apply LW.v0; rfl; rfl; apply ValP.move; rfl; apply LW.v0; rfl; rfl; apply ValP.lenR; rfl; infer_instance; rfl; apply LW.v0; rfl; rfl; apply ValP.subZL; rfl; rfl; decide; omega; omega; apply LW.v0; rfl; rfl; apply ValP.move; rfl; apply LW.v0; rfl; rfl; apply ValP.subZ; rfl; rfl; omega; omega; apply LW.v0; rfl; rfl; apply ValP.assign; rfl; apply LW.nil; refine thenN ?_; apply CW.pre; refine AnyW.any 10 mixed (by decide +kernel) ?_; (try simp only [tsOf_cons, tsOf_nil, tsOf_app]); apply DW.v0; rfl; rfl; rfl; exact WantT.none; rfl; apply ValP.move; rfl; apply DW.v0; rfl; rfl; rfl; exact WantT.none; rfl; apply ValP.quoZL; rfl; rfl; decide; omega; omega; apply DW.v0; rfl; rfl; rfl; exact WantT.none; rfl; apply ValP.indexAddrA; rfl; rfl; rfl; omega; apply DW.loadO; rfl; rfl; rfl; exact WantT.none; rfl; apply TRead.head; exact ancB_nil; assumption; apply DW.v0; rfl; rfl; rfl; exact WantT.none; rfl; apply ValP.move; rfl; apply DW.v0; rfl; rfl; rfl; exact WantT.none; rfl; apply ValP.convN; rfl; omega; omega; apply DW.v0; rfl; rfl; rfl; exact WantT.none; rfl; apply ValP.move; rfl; apply DW.v0; rfl; rfl; rfl; exact WantT.none; rfl; apply ValP.remZL; rfl; rfl; decide; omega; apply DW.v0; rfl; rfl; rfl; exact WantT.none; rfl; apply ValP.mulZK; rfl; rfl; decide; omega; apply DW.v0; rfl; rfl; rfl; exact WantT.none; rfl; apply ValP.shlU; rfl; rfl; omega; apply DW.nil; simp only [fsOf_cons, fsOf_nil, fsOf_app, fsOf_tsOf, fsOf_new]; apply LW.v0; rfl; rfl; apply ValP.orU; rfl; rfl; omega; omega; apply LW.v0; rfl; rfl; apply ValP.indexAddrA; rfl; rfl; rfl; omega; apply LW.store; rfl; rfl; apply SetAt.head; assumption; apply LW.nil; refine blkN ?_; refine thenN ?_; refine CW.region ?_; apply LW.v0; rfl; rfl; apply ValP.addZL; rfl; rfl; decide; omega; apply LW.v0; rfl; rfl; apply ValP.move; rfl; apply LW.nil)
    apply thenX
    exact ⟨rfl, m + 1, hlt, by omega, ⟨rfl, rfl, rfl, rfl, rfl, rfl, trivial⟩, List.Sublist.refl _⟩
  · obtain rfl : m = l.length := by omega
    rw [show bup l l.length = bev l by simp [bup]]
    (refine CW.seq ?_; refine CW.region ?_; apply LW.v0; rfl; rfl; apply ValP.lssF; rfl; rfl; omega; apply LW.nil; refine thenN ?_; refine CW.seq ?_; apply CW.condF; rfl; (with_reducible rfl); refine CW.exit ?_; refine thenE ?_; refine thenE ?_; refine blkE rfl ?_; refine thenN ?_; refine CW.seq ?_; refine CW.region ?_; apply LW.load; rfl; rfl; apply Known.at; apply FsAt.head; exact Rd.whole rfl; apply LW.store; rfl; rfl; apply SetAt.tail; apply SetAt.head; apply Wr.whole; rfl; rfl; rfl; apply LW.v0; rfl; rfl; apply ValP.assign; rfl; apply LW.nil; refine thenN ?_; refine CW.ret ?_)
    (apply finR; exact .inl rfl; rfl; rfl; rfl; apply ResL.cons; apply Res.cell; rfl; apply Known.at; apply FsAt.tail; apply FsAt.head; exact Rd.whole rfl; apply ResL.cons; exact Res.tmp rfl; exact ResL.nil)
    rfl
theorem ReadLong_calls (v : Value) (n : Nat) (xs : List Value) (w : World) (hv : RowAt w 1 v n xs) (hl : 32 < n) : Calls Try.prog 85 #[v] w (Ret w (.tuple #[wv 0, .int .i64 3])) := by
  obtain ⟨p, c, rfl, hc, hm⟩ := hv.form
  simp only [maxLen] at hm
  refine enter (args := [_]) _ [] [] Try.func85 rfl Try.ntmps85 rfl (by simp) .nil ?_
  (refine CW.seq ?_; refine CW.region ?_; apply LW.allocW; rfl; intro _; apply LW.v0; rfl; rfl; apply ValP.assign; rfl; apply LW.nil; refine thenN ?_; refine CW.seq ?_; refine CW.region ?_; apply LW.allocW; rfl; intro _; apply LW.nil; refine thenN ?_; refine CW.seq ?_; refine CW.seq ?_; refine CW.region ?_; apply LW.v0; rfl; rfl; apply ValP.move; rfl; apply LW.v0; rfl; rfl; apply ValP.lenR; rfl; infer_instance; rfl; apply LW.v0; rfl; rfl; apply ValP.gtrT; rfl; rfl; omega; apply LW.nil; refine thenN ?_; apply CW.condT; rfl; (with_reducible rfl); refine CW.seq ?_; refine CW.region ?_; apply LW.load; rfl; rfl; apply Known.at; apply FsAt.head; exact Rd.whole rfl; apply LW.store; rfl; rfl; apply SetAt.tail; apply SetAt.head; apply Wr.whole; rfl; rfl; rfl; apply LW.v0; rfl; rfl; apply ValP.assign; rfl; apply LW.nil; refine thenN ?_; refine CW.ret ?_; refine thenR ?_)
  (apply finR; exact .inl rfl; rfl; rfl; rfl; apply ResL.cons; apply Res.cell; rfl; apply Known.at; apply FsAt.tail; apply FsAt.head; exact Rd.whole rfl; apply ResL.cons; exact Res.tmp rfl; exact ResL.nil)
  rfl
theorem rRead_calls (v : Value) (l : List UInt8) (w : World) (hv : RowAt w 1 v l.length (ucs l)) (hl : l.length ≤ 32) : Calls Try.prog 59 #[v] w (Ret w (wv (bev l))) := by
  obtain ⟨p, c, rfl, hc, hm⟩ := hv.form
  simp only [maxLen] at hm
  refine enter (args := [_]) _ [] [] Try.func59 rfl Try.ntmps59 rfl (by simp) .nil ?_
  (refine CW.seq ?_; refine CW.region ?_; apply LW.allocW; rfl; intro _; apply LW.nil; refine thenN ?_; refine CW.seq ?_; refine CW.region ?_; apply LW.allocW; rfl; intro _; apply LW.nil; refine thenN ?_; refine CW.seq ?_; refine CW.seq ?_; refine CW.region ?_; apply LW.v0; rfl; rfl; apply ValP.move; rfl; apply LW.v0; rfl; rfl; apply ValP.lenR; rfl; infer_instance; rfl; apply LW.v0; rfl; rfl; apply ValP.move; rfl; apply LW.nil; refine thenN ?_; refine CW.block ?_)
  rename_i b2 b4
  refine CW.loop (fun m : Nat => ([(9, .int .i64 (m : Int)), (8, .int .i64 (l.length : Int)), (7, .slice p l.length c), (0, .slice p l.length c), (3, .pointer (some ⟨b4, 0, none⟩)), (2, .pointer (some ⟨b2, 0, none⟩))],
      [(b4, .cells (wc (bup l m)) 28 (0, 0)), (b2, .cells (wc 0) 28 (0, 0))]))
    (fun m => m ≤ l.length) (fun m => l.length - m) 0 (Nat.zero_le _) ⟨rfl, rfl, rfl, rfl, rfl, rfl, trivial⟩ (by simp [bup, bev]) ?_
  intro m hml
  dsimp only at hml ⊢
  rcases Nat.lt_or_ge m l.length with hlt | hge
  · obtain ⟨b, off, c', cs, E, fr, heq, hb, hx⟩ := hv.pos (by omega)
    cases heq
    obtain ⟨u, hu⟩ : ∃ u, u = l[m] := ⟨_, rfl⟩
    have hrd : Rd Try.prog 5 (.cells cs E fr) (off + m * 1) (.int .u8 (u.toNat : Int)) := Rd.elem1 hx (ucs_one l) (by rw [hu]; exact List.getElem?_eq_getElem hlt) rfl
    have hu8 := u.toNat_lt
    have hst := bup_step l m hlt
    rw [← hu] at hst
    have hn32 : l.length - 1 - m < 32 := by omega
    obtain ⟨X, hX⟩ : ∃ X, X = bup l m := ⟨_, rfl⟩
    rw [← hX] at hst ⊢
    have hlm := limb_lt X ((l.length - 1 - m) / 8)
    have hrl := limb_rd X ((l.length - 1 - m) / 8) (by omega) (E := 28) (fr := (0, 0))
    have hW := byte_wr X (l.length - 1 - m) u.toNat hn32 hu8 (E := 28)
    have hv8 : u.toNat * 2 ^ (8 * ((l.length - 1 - m) % 8)) % 18446744073709551616 < 18446744073709551616 := Nat.mod_lt _ (by decide)
    rw [hst] at hW
    (refine CW.seq ?_; refine CW.region ?_; apply LW.v0; rfl; rfl; apply ValP.lssT; rfl; rfl; omega; apply LW.nil; refine thenN ?_; refine CW.seq ?_; apply CW.condT; rfl; (with_reducible rfl); refine CW.skip ?_; refine thenN ?_; refine CW.seq ?_; refine CW.block ?_; refine CW.seq ?_; refine CW.region ?_; apply LW.v0; rfl; rfl; apply ValP.move; rfl; apply LW.v0; rfl; rfl; apply ValP.indexAddrS; rfl; rfl; rfl; omega; apply LW.load; rfl; rfl; exact Known.ext (by assumption) (by simp); assumption; apply LW.v0; rfl; rfl; apply ValP.assign; rfl; apply LW.v0; rfl; rfl; apply ValP.assign; rfl; apply LW.nil; refine thenN ?_; refine CW.seq ?_; refine CW.region ?_; apply LW.v0; rfl; rfl; apply ValP.move; rfl; apply LW.v0; rfl; rfl; apply ValP.lenR; rfl; infer_instance; rfl; apply LW.v0; rfl; rfl; apply ValP.subZL; rfl; rfl; decide; omega; omega; apply LW.v0; rfl; rfl; apply ValP.move; rfl; apply LW.v0; rfl; rfl; apply ValP.subZ; rfl; rfl; omega; omega; apply LW.v0; rfl; rfl; apply ValP.assign; rfl; apply LW.nil; refine thenN ?_; apply CW.pre; refine AnyW.any 10 mixed (by decide +kernel) ?_; (try simp only [tsOf_cons, tsOf_nil, tsOf_app]); apply DW.v0; rfl; rfl; rfl; exact WantT.none; rfl; apply ValP.move; rfl; apply DW.v0; rfl; rfl; rfl; exact WantT.none; rfl; apply ValP.quoZL; rfl; rfl; decide; omega; omega; apply DW.v0; rfl; rfl; rfl; exact WantT.none; rfl; apply ValP.indexAddrA; rfl; rfl; rfl; omega; apply DW.loadO; rfl; rfl; rfl; exact WantT.none; rfl; apply TRead.head; exact ancB_nil; assumption; apply DW.v0; rfl; rfl; rfl; exact WantT.none; rfl; apply ValP.move; rfl; apply DW.v0; rfl; rfl; rfl; exact WantT.none; rfl; apply ValP.convN; rfl; omega; omega; apply DW.v0; rfl; rfl; rfl; exact WantT.none; rfl; apply ValP.move; rfl; apply DW.v0; rfl; rfl; rfl; exact WantT.none; rfl; apply ValP.remZL; rfl; rfl; decide; omega; apply DW.v0; rfl; rfl; rfl; exact WantT.none; rfl; apply ValP.mulZK; rfl; rfl; decide; omega; apply DW.v0; rfl; rfl; rfl; exact WantT.none; rfl; apply ValP.shlU; rfl; rfl; omega; apply DW.nil; simp only [fsOf_cons, fsOf_nil, fsOf_app, fsOf_tsOf, fsOf_new]; apply LW.v0; rfl; rfl; apply ValP.orU; rfl; rfl; omega; omega; apply LW.v0; rfl; rfl; apply ValP.indexAddrA; rfl; rfl; rfl; omega; apply LW.store; rfl; rfl; apply SetAt.head; assumption; apply LW.nil; refine blkN ?_; refine thenN ?_; refine CW.region ?_; apply LW.v0; rfl; rfl; apply ValP.addZL; rfl; rfl; decide; omega; apply LW.v0; rfl; rfl; apply ValP.move; rfl; apply LW.nil)
    apply thenX
    exact ⟨rfl, m + 1, hlt, by omega, ⟨rfl, rfl, rfl, rfl, rfl, rfl, trivial⟩, List.Sublist.refl _⟩
  · obtain rfl : m = l.length := by omega
    rw [show bup l l.length = bev l by simp [bup]]
    (refine CW.seq ?_; refine CW.region ?_; apply LW.v0; rfl; rfl; apply ValP.lssF; rfl; rfl; omega; apply LW.nil; refine thenN ?_; refine CW.seq ?_; apply CW.condF; rfl; (with_reducible rfl); refine CW.exit ?_; refine thenE ?_; refine thenE ?_; refine blkE rfl ?_; refine thenN ?_; refine CW.seq ?_; refine CW.region ?_; apply LW.load; rfl; rfl; apply Known.at; apply FsAt.head; exact Rd.whole rfl; apply LW.store; rfl; rfl; apply SetAt.tail; apply SetAt.head; apply Wr.whole; rfl; rfl; rfl; apply LW.nil; refine thenN ?_; refine CW.ret ?_)
    (apply finR; exact .inl rfl; rfl; rfl; rfl; apply ResL.cons; apply Res.cell; rfl; apply Known.at; apply FsAt.tail; apply FsAt.head; exact Rd.whole rfl; exact ResL.nil)
    rfl
end Go.Proofs.Ytobkhnmglbfheaa

/-
  Bytes of words (for a seat that has the texts of words).
  Conditions: none.
-/
namespace Go.Proofs.Ytobkhnmglbfheaa
open Go Go.RowKit SL
theorem bev_beb : ∀ (m a : Nat), bev (beb m a) = a % 256 ^ m
  | 0, a => by simp [beb, bev, Nat.mod_one]
  | m + 1, a => by
    have e : beb (m + 1) a = beb m (a / 256) ++ [UInt8.ofNat a] := by
      unfold beb
      rw [List.range_succ, List.map_append]
      congr 1
      · apply List.map_congr_left
        intro i hi
        rw [List.mem_range] at hi
        rw [show m + 1 - 1 - i = (m - 1 - i) + 1 by omega, Nat.pow_succ', Nat.div_div_eq_div_mul]
      · simp
    have h := @Nat.mod_mul 256 (256 ^ m) a
    rw [e, bev_snoc, bev_beb m (a / 256), UInt8.toNat_ofNat', show 2 ^ 8 = 256 from rfl, show 256 ^ (m + 1) = 256 * 256 ^ m from Nat.pow_succ', h]
    omega
theorem bev_back (a : Nat) (ha : a < M256) : bev (beb 32 a) = a := by
  rw [bev_beb]; exact Nat.mod_eq_of_lt ha
end Go.Proofs.Ytobkhnmglbfheaa

/-
  Contracts of the pack: parts, which may be, which are the same.
  Conditions: none.
-/
namespace Go.Proofs.Ytobkhnmglbfheaa
open Go Go.RowKit SL
set_option maxRecDepth 8000
set_option maxHeartbeats 4000000
set_option linter.unusedSimpArgs false
set_option linter.unusedVariables false
attribute [local irreducible] SL.CW SL.LW SL.DW Calls SL.Ret SL.RetG SL.beginQ SL.roundQ SL.rangeQ SL.inQ SL.RW SL.AnyW SL.thenQ SL.thenC SL.thenW SL.blkQ SL.finQ SL.ValP SL.NewP SL.SetP SL.CallP SL.Rd SL.Wr SL.Known
/-- A part: its mark, its word, the value of its bytes, and the bytes. -/
structure PartV where
  lg : Bool
  wd : Nat
  dv : Value
  db : List UInt8
def psc (p : PartV) : List Value := .bool p.lg :: ((wc p.wd).toList ++ [p.dv])
def psa (p : PartV) : Array Value := (psc p).toArray
theorem psc_len (l : List PartV) : ∀ p ∈ l, (psc p).length = 6 := fun _ _ => rfl
section rd
variable {P : Program} {T E : TypeId} {fr : Nat × Nat} {p : PartV}
theorem ps_rd0 [AgI P T false] : Rd P T (.cells (psa p) E fr) 0 (.bool p.lg) := Rd.one rfl
theorem ps_rd1 {z : Value} [AgI P T true] [InfoI P T 4 z] : Rd P T (.cells (psa p) E fr) 1 (wv p.wd) := Rd.mid (cs := (wc p.wd).toList) rfl rfl
theorem ps_rd2 [AgI P T false] : Rd P T (.cells (psa p) E fr) 5 p.dv := Rd.one rfl
theorem ps_rdW {z : Value} [AgI P T true] [InfoI P T 6 z] : Rd P T (.cells (psa p) E fr) 0 (.agg (psa p)) := Rd.whole rfl
theorem ps_wrW {z : Value} {cs : Array Value} [InfoI P T 6 z] (h : cs.size = 6) (hd : p.dv.oneCell' = true) : Wr P T (.cells cs E (0, 0)) 0 (.agg (psa p)) (.cells (psa p) E (0, 0)) :=
  Wr.whole h rfl (by simp only [psa, psc, wc, List.all_toArray', List.cons_append, List.nil_append]; simp only [← Array.all_toList, List.all_cons, List.all_nil, hd]; rfl)
end rd
/-- What a part's value says. -/
structure PartOk (p : PartV) : Prop where
  small : p.wd < M256
  form : ∃ q c, p.dv = .slice q p.db.length c
/-- Parts that may be read. -/
structure PartsAt (w : World) (v : Value) (l : List PartV) : Prop where
  row : RowAt w 6 v l.length (l.flatMap psc)
  small : ∀ p ∈ l, p.wd < M256
  data : ∀ p ∈ l, RowAt w 1 p.dv p.db.length (ucs p.db)
theorem PartsAt.st {w0 w : World} {v : Value} {l : List PartV} {fs : Fs} (h : PartsAt w0 v l) (hs : St w0 [] fs w) : PartsAt w v l :=
  ⟨h.row.st hs, h.small, fun p hp => (h.data p hp).st hs⟩
theorem PartsAt.ok {w : World} {v : Value} {l : List PartV} (h : PartsAt w v l) : ∀ p ∈ l, PartOk p := fun p hp => by
  obtain ⟨q, c, e, _, _⟩ := (h.data p hp).form
  exact ⟨h.small p hp, q, c, e⟩
theorem PartsAt.one {w : World} {v : Value} {l : List PartV} (h : PartsAt w v l) : ∀ p ∈ l, p.dv.oneCell' = true := fun p hp => by
  obtain ⟨q, c, e, _, _⟩ := (h.data p hp).form
  rw [e]; rfl
/-- May a part be? -/
def rightP (p : PartV) : Bool := if p.lg then decide (p.wd = 0) && decide (p.db.length ≤ 200) else decide (p.db.length = 0)
theorem rightP_long {p : PartV} (h : p.lg = true) : rightP p = (decide (p.wd = 0) && decide (p.db.length ≤ 200)) := by unfold rightP; rw [h]; rfl
theorem rightP_short {p : PartV} (h : p.lg = false) : rightP p = decide (p.db.length = 0) := by unfold rightP; rw [h]; rfl
theorem right_calls (p : PartV) (hp : PartOk p) (w : World) : Calls Try.prog 89 #[.agg (psa p)] w (Ret w (.bool (rightP p))) := by
  obtain ⟨hs, q, c, hf⟩ := hp
  obtain ⟨lg, wd, dv, db⟩ := p
  dsimp only at hs hf
  subst hf
  have h0 : (0 : Nat) < M256 := by decide
  cases lg with
  | true =>
    rw [rightP_long rfl]
    dsimp only
    by_cases hw : wd = 0
    · subst hw
      rcases Nat.lt_or_ge 200 db.length with hl | hl
      · refine enter (args := [_]) _ [] [] Try.func89 rfl Try.ntmps89 rfl (by simp) .nil ?_
        (refine CW.seq ?_; refine CW.region ?_; apply LW.boxA; rfl; rfl; intro _; apply LW.v0; rfl; rfl; apply ValP.assign; rfl; apply LW.nil; refine thenN ?_; refine CW.seq ?_; refine CW.seq ?_; refine CW.region ?_; apply LW.v0; rfl; rfl; apply ValP.fieldAddr; rfl; rfl; apply LW.load; rfl; rfl; apply Known.at; apply FsAt.head; exact ps_rd0; apply LW.nil; refine thenN ?_; apply CW.condT; rfl; (with_reducible rfl); refine CW.seq ?_; refine CW.region ?_; apply LW.v0; rfl; rfl; apply ValP.fieldAddr; rfl; rfl; apply LW.load; rfl; rfl; apply Known.at; apply FsAt.head; exact ps_rd1; apply LW.v0; rfl; rfl; exact ValP.buildW0; apply LW.v0; rfl; rfl; apply ValP.eqWT; rfl; rfl; (with_reducible rfl); apply LW.v0; rfl; rfl; apply ValP.move; rfl; apply LW.guardT'; rfl; rfl; (with_reducible rfl); apply LW.v0; rfl; rfl; apply ValP.fieldAddr; rfl; rfl; apply LW.guardT'; rfl; rfl; (with_reducible rfl); apply LW.load; rfl; rfl; apply Known.at; apply FsAt.head; exact ps_rd2; apply LW.guardT'; rfl; rfl; (with_reducible rfl); apply LW.v0; rfl; rfl; apply ValP.lenR; rfl; infer_instance; rfl; apply LW.guardT'; rfl; rfl; (with_reducible rfl); apply LW.v0; rfl; rfl; apply ValP.leqF; rfl; rfl; omega; apply LW.v0; rfl; rfl; apply ValP.pickT'; rfl; (with_reducible rfl); rfl; apply LW.v0; rfl; rfl; apply ValP.assign; rfl; apply LW.nil; refine thenN ?_; refine CW.ret ?_; refine thenR ?_)
        (apply finR; exact .inl rfl; rfl; rfl; rfl; apply ResL.cons; exact Res.tmp rfl; exact ResL.nil)
        rw [decide_eq_false (show ¬ (db.length ≤ 200) by omega)]; rfl
      · refine enter (args := [_]) _ [] [] Try.func89 rfl Try.ntmps89 rfl (by simp) .nil ?_
        (refine CW.seq ?_; refine CW.region ?_; apply LW.boxA; rfl; rfl; intro _; apply LW.v0; rfl; rfl; apply ValP.assign; rfl; apply LW.nil; refine thenN ?_; refine CW.seq ?_; refine CW.seq ?_; refine CW.region ?_; apply LW.v0; rfl; rfl; apply ValP.fieldAddr; rfl; rfl; apply LW.load; rfl; rfl; apply Known.at; apply FsAt.head; exact ps_rd0; apply LW.nil; refine thenN ?_; apply CW.condT; rfl; (with_reducible rfl); refine CW.seq ?_; refine CW.region ?_; apply LW.v0; rfl; rfl; apply ValP.fieldAddr; rfl; rfl; apply LW.load; rfl; rfl; apply Known.at; apply FsAt.head; exact ps_rd1; apply LW.v0; rfl; rfl; exact ValP.buildW0; apply LW.v0; rfl; rfl; apply ValP.eqWT; rfl; rfl; (with_reducible rfl); apply LW.v0; rfl; rfl; apply ValP.move; rfl; apply LW.guardT'; rfl; rfl; (with_reducible rfl); apply LW.v0; rfl; rfl; apply ValP.fieldAddr; rfl; rfl; apply LW.guardT'; rfl; rfl; (with_reducible rfl); apply LW.load; rfl; rfl; apply Known.at; apply FsAt.head; exact ps_rd2; apply LW.guardT'; rfl; rfl; (with_reducible rfl); apply LW.v0; rfl; rfl; apply ValP.lenR; rfl; infer_instance; rfl; apply LW.guardT'; rfl; rfl; (with_reducible rfl); apply LW.v0; rfl; rfl; apply ValP.leqT; rfl; rfl; omega; apply LW.v0; rfl; rfl; apply ValP.pickT'; rfl; (with_reducible rfl); rfl; apply LW.v0; rfl; rfl; apply ValP.assign; rfl; apply LW.nil; refine thenN ?_; refine CW.ret ?_; refine thenR ?_)
        (apply finR; exact .inl rfl; rfl; rfl; rfl; apply ResL.cons; exact Res.tmp rfl; exact ResL.nil)
        rw [decide_eq_true hl]; rfl
    · refine enter (args := [_]) _ [] [] Try.func89 rfl Try.ntmps89 rfl (by simp) .nil ?_
      (refine CW.seq ?_; refine CW.region ?_; apply LW.boxA; rfl; rfl; intro _; apply LW.v0; rfl; rfl; apply ValP.assign; rfl; apply LW.nil; refine thenN ?_; refine CW.seq ?_; refine CW.seq ?_; refine CW.region ?_; apply LW.v0; rfl; rfl; apply ValP.fieldAddr; rfl; rfl; apply LW.load; rfl; rfl; apply Known.at; apply FsAt.head; exact ps_rd0; apply LW.nil; refine thenN ?_; apply CW.condT; rfl; (with_reducible rfl); refine CW.seq ?_; refine CW.region ?_; apply LW.v0; rfl; rfl; apply ValP.fieldAddr; rfl; rfl; apply LW.load; rfl; rfl; apply Known.at; apply FsAt.head; exact ps_rd1; apply LW.v0; rfl; rfl; exact ValP.buildW0; apply LW.v0; rfl; rfl; apply ValP.eqWF; rfl; rfl; assumption; assumption; assumption; apply LW.v0; rfl; rfl; apply ValP.move; rfl; apply LW.guardF'; rfl; rfl; simp only [Bool.not_true, Bool.not_false]; rfl; apply LW.guardF'; rfl; rfl; simp only [Bool.not_true, Bool.not_false]; rfl; apply LW.guardF'; rfl; rfl; simp only [Bool.not_true, Bool.not_false]; rfl; apply LW.guardF'; rfl; rfl; simp only [Bool.not_true, Bool.not_false]; rfl; apply LW.v0; rfl; rfl; apply ValP.pickF'; rfl; (with_reducible rfl); rfl; apply LW.v0; rfl; rfl; apply ValP.assign; rfl; apply LW.nil; refine thenN ?_; refine CW.ret ?_; refine thenR ?_)
      (apply finR; exact .inl rfl; rfl; rfl; rfl; apply ResL.cons; exact Res.tmp rfl; exact ResL.nil)
      rw [decide_eq_false hw]; rfl
  | false =>
    rw [rightP_short rfl]
    dsimp only
    rcases Nat.eq_zero_or_pos db.length with hl | hl
    · refine enter (args := [_]) _ [] [] Try.func89 rfl Try.ntmps89 rfl (by simp) .nil ?_
      (refine CW.seq ?_; refine CW.region ?_; apply LW.boxA; rfl; rfl; intro _; apply LW.v0; rfl; rfl; apply ValP.assign; rfl; apply LW.nil; refine thenN ?_; refine CW.seq ?_; refine CW.seq ?_; refine CW.region ?_; apply LW.v0; rfl; rfl; apply ValP.fieldAddr; rfl; rfl; apply LW.load; rfl; rfl; apply Known.at; apply FsAt.head; exact ps_rd0; apply LW.nil; refine thenN ?_; apply CW.condF; rfl; (with_reducible rfl); refine CW.skip ?_; refine thenN ?_; refine CW.seq ?_; refine CW.region ?_; apply LW.v0; rfl; rfl; apply ValP.fieldAddr; rfl; rfl; apply LW.load; rfl; rfl; apply Known.at; apply FsAt.head; exact ps_rd2; apply LW.v0; rfl; rfl; apply ValP.lenR; rfl; infer_instance; rfl; apply LW.v0; rfl; rfl; apply ValP.eqT; rfl; rfl; omega; apply LW.v0; rfl; rfl; apply ValP.assign; rfl; apply LW.nil; refine thenN ?_; refine CW.ret ?_)
      (apply finR; exact .inl rfl; rfl; rfl; rfl; apply ResL.cons; exact Res.tmp rfl; exact ResL.nil)
      rw [decide_eq_true hl]; rfl
    · refine enter (args := [_]) _ [] [] Try.func89 rfl Try.ntmps89 rfl (by simp) .nil ?_
      (refine CW.seq ?_; refine CW.region ?_; apply LW.boxA; rfl; rfl; intro _; apply LW.v0; rfl; rfl; apply ValP.assign; rfl; apply LW.nil; refine thenN ?_; refine CW.seq ?_; refine CW.seq ?_; refine CW.region ?_; apply LW.v0; rfl; rfl; apply ValP.fieldAddr; rfl; rfl; apply LW.load; rfl; rfl; apply Known.at; apply FsAt.head; exact ps_rd0; apply LW.nil; refine thenN ?_; apply CW.condF; rfl; (with_reducible rfl); refine CW.skip ?_; refine thenN ?_; refine CW.seq ?_; refine CW.region ?_; apply LW.v0; rfl; rfl; apply ValP.fieldAddr; rfl; rfl; apply LW.load; rfl; rfl; apply Known.at; apply FsAt.head; exact ps_rd2; apply LW.v0; rfl; rfl; apply ValP.lenR; rfl; infer_instance; rfl; apply LW.v0; rfl; rfl; apply ValP.eqF; rfl; rfl; omega; apply LW.v0; rfl; rfl; apply ValP.assign; rfl; apply LW.nil; refine thenN ?_; refine CW.ret ?_)
      (apply finR; exact .inl rfl; rfl; rfl; rfl; apply ResL.cons; exact Res.tmp rfl; exact ResL.nil)
      rw [decide_eq_false (show ¬ (db.length = 0) by omega)]; rfl
theorem Check1_calls (p : PartV) (hp : PartOk p) (w : World) : Calls Try.prog 88 #[.agg (psa p)] w (Ret w (.bool (!rightP p))) := by
  refine enter (args := [_]) _ [] [] Try.func88 rfl Try.ntmps88 rfl (by simp) .nil ?_
  (refine CW.seq ?_; refine CW.region ?_; apply LW.boxA; rfl; rfl; intro _; apply LW.v0; rfl; rfl; apply ValP.assign; rfl; apply LW.nil; refine thenN ?_; refine CW.seq ?_; refine CW.region ?_; apply LW.load; rfl; rfl; apply Known.at; apply FsAt.head; exact ps_rdW; apply LW.callE; rfl; rfl; infer_instance; apply ArgsOk.cons; rfl; exact ArgsOk.nil; intro w _; exact right_calls p hp w; apply LW.v0; rfl; rfl; apply ValP.notB; rfl; apply LW.v0; rfl; rfl; apply ValP.assign; rfl; apply LW.nil; refine thenN ?_; refine CW.ret ?_)
  (apply finR; exact .inl rfl; rfl; rfl; rfl; apply ResL.cons; exact Res.tmp rfl; exact ResL.nil)
  rfl
theorem part_rd {w : World} {v : Value} {l : List PartV} (h : PartsAt w v l) (i : Nat) (hi : i < l.length) : ∃ b off c cs E fr, v = .slice (some ⟨b, off, none⟩) l.length c ∧ w.heap[b]? = some (.cells cs E fr) ∧ ∀ {T : TypeId} {z : Value} [AgI Try.prog T true] [InfoI Try.prog T 6 z], Rd Try.prog T (.cells cs E fr) (off + i * 6) (.agg (psa l[i])) := by
  obtain ⟨b, off, c, cs, E, fr, heq, hb, hx⟩ := h.row.pos (by omega)
  exact ⟨b, off, c, cs, E, fr, heq, hb, fun {T z} _ _ => Rd.elemA (g := psc) (l := l) (a := l[i]) hx (psc_len l) (List.getElem?_eq_getElem hi)⟩
theorem IndexFunc_calls (l : List PartV) (i : Nat) (v : Value) (w : World) (hv : PartsAt w v l) (hi : i ≤ l.length) (hall : ∀ j (h : j < i), rightP (l[j]'(by omega)) = true) (hbad : ∀ h : i < l.length, rightP l[i] = false) : Calls Try.prog 90 #[v, .func (.func 88) #[] #[]] w (Ret w (.int .i64 (if i = l.length then -1 else (i : Int)))) := by
  obtain ⟨p, c, rfl, hc, hm⟩ := hv.row.form
  simp only [maxLen] at hm
  refine enter (args := [_, _]) _ [] [] Try.func90 rfl Try.ntmps90 rfl (by simp) .nil ?_
  (refine CW.seq ?_; refine CW.region ?_; apply LW.v0; rfl; rfl; apply ValP.assign; rfl; apply LW.nil; refine thenN ?_; refine CW.seq ?_; refine CW.seq ?_; refine CW.region ?_; apply LW.v0; rfl; rfl; apply ValP.move; rfl; apply LW.v0; rfl; rfl; apply ValP.lenR; rfl; infer_instance; rfl; apply LW.v0; rfl; rfl; apply ValP.move; rfl; apply LW.nil; refine thenN ?_; refine CW.block ?_)
  refine CW.loop (fun m : Nat => ([(8, .int .i64 (m : Int)), (7, .int .i64 (l.length : Int)), (0, .slice p l.length c), (1, .func (.func 88) #[] #[])], []))
    (fun m => m ≤ i) (fun m => i - m) 0 (Nat.zero_le _) ⟨rfl, rfl, rfl, rfl, trivial⟩ (List.nil_sublist _) ?_
  intro m hmi
  dsimp only at hmi ⊢
  rcases Nat.lt_or_ge m l.length with hlt | hge
  · obtain ⟨b, off, c', cs, E, fr, heq, hb, hrd0⟩ := part_rd hv m hlt
    cases heq
    have hrd : Rd Try.prog 84 (.cells cs E fr) (off + m * 6) (.agg (psa l[m])) := hrd0
    have hC0 := Check1_calls l[m] (hv.ok _ (List.getElem_mem hlt))
    rcases Nat.lt_or_ge m i with hlt2 | hge2
    · rw [hall m hlt2] at hC0
      have hC : ∀ w, Calls Try.prog 88 #[.agg (psa l[m])] w (Ret w (.bool false)) := hC0
      (refine CW.seq ?_; refine CW.region ?_; apply LW.v0; rfl; rfl; apply ValP.lssT; rfl; rfl; omega; apply LW.nil; refine thenN ?_; refine CW.seq ?_; apply CW.condT; rfl; (with_reducible rfl); refine CW.skip ?_; refine thenN ?_; refine CW.seq ?_; refine CW.block ?_; refine CW.seq ?_; refine CW.region ?_; apply LW.v0; rfl; rfl; apply ValP.move; rfl; apply LW.v0; rfl; rfl; apply ValP.assign; rfl; apply LW.nil; refine thenN ?_; refine CW.seq ?_; refine CW.region ?_; apply LW.v0; rfl; rfl; apply ValP.move; rfl; apply LW.v0; rfl; rfl; apply ValP.move; rfl; apply LW.v0; rfl; rfl; apply ValP.move; rfl; apply LW.v0; rfl; rfl; apply ValP.indexAddrS; rfl; rfl; rfl; omega; apply LW.load; rfl; rfl; exact Known.ext (by assumption) (by simp); assumption; apply LW.callE; rfl; rfl; infer_instance; apply ArgsOk.cons; rfl; exact ArgsOk.nil; intro w _; exact hC w; apply LW.nil; refine thenN ?_; apply CW.condF; rfl; (with_reducible rfl); refine CW.skip ?_; refine blkN ?_; refine thenN ?_; refine CW.region ?_; apply LW.v0; rfl; rfl; apply ValP.addZL; rfl; rfl; decide; omega; apply LW.v0; rfl; rfl; apply ValP.move; rfl; apply LW.nil)
      apply thenX
      exact ⟨rfl, m + 1, hlt2, by omega, ⟨rfl, rfl, rfl, rfl, trivial⟩, List.nil_sublist _⟩
    · obtain rfl : m = i := by omega
      rw [hbad hlt] at hC0
      have hC : ∀ w, Calls Try.prog 88 #[.agg (psa l[m])] w (Ret w (.bool true)) := hC0
      (refine CW.seq ?_; refine CW.region ?_; apply LW.v0; rfl; rfl; apply ValP.lssT; rfl; rfl; omega; apply LW.nil; refine thenN ?_; refine CW.seq ?_; apply CW.condT; rfl; (with_reducible rfl); refine CW.skip ?_; refine thenN ?_; refine CW.seq ?_; refine CW.block ?_; refine CW.seq ?_; refine CW.region ?_; apply LW.v0; rfl; rfl; apply ValP.move; rfl; apply LW.v0; rfl; rfl; apply ValP.assign; rfl; apply LW.nil; refine thenN ?_; refine CW.seq ?_; refine CW.region ?_; apply LW.v0; rfl; rfl; apply ValP.move; rfl; apply LW.v0; rfl; rfl; apply ValP.move; rfl; apply LW.v0; rfl; rfl; apply ValP.move; rfl; apply LW.v0; rfl; rfl; apply ValP.indexAddrS; rfl; rfl; rfl; omega; apply LW.load; rfl; rfl; exact Known.ext (by assumption) (by simp); assumption; apply LW.callE; rfl; rfl; infer_instance; apply ArgsOk.cons; rfl; exact ArgsOk.nil; intro w _; exact hC w; apply LW.nil; refine thenN ?_; apply CW.condT; rfl; (with_reducible rfl); refine CW.seq ?_; refine CW.region ?_; apply LW.v0; rfl; rfl; apply ValP.move; rfl; apply LW.v0; rfl; rfl; apply ValP.assign; rfl; apply LW.nil; refine thenN ?_; refine CW.ret ?_; refine blkR ?_; refine thenR ?_; refine thenR ?_; refine blkR ?_; refine thenR ?_)
      (apply finR; exact .inl rfl; rfl; rfl; rfl; apply ResL.cons; exact Res.tmp rfl; exact ResL.nil)
      rw [if_neg (by omega)]; rfl
  · obtain rfl : m = i := by omega
    (refine CW.seq ?_; refine CW.region ?_; apply LW.v0; rfl; rfl; apply ValP.lssF; rfl; rfl; omega; apply LW.nil; refine thenN ?_; refine CW.seq ?_; apply CW.condF; rfl; (with_reducible rfl); refine CW.exit ?_; refine thenE ?_; refine thenE ?_; refine blkE rfl ?_; refine thenN ?_; refine CW.seq ?_; refine CW.region ?_; apply LW.v0; rfl; rfl; apply ValP.assign; rfl; apply LW.nil; refine thenN ?_; refine CW.ret ?_)
    (apply finR; exact .inl rfl; rfl; rfl; rfl; apply ResL.cons; exact Res.tmp rfl; exact ResL.nil)
    rw [if_pos (by omega)]; rfl
/-- Which parts may be. -/
def okP (l : List PartV) : Bool := l.all rightP
theorem first_bad (l : List PartV) : ∃ i, ∃ _ : i ≤ l.length, (∀ j (h : j < i), rightP (l[j]'(by omega)) = true) ∧ (∀ h : i < l.length, rightP l[i] = false) ∧ (okP l = true ↔ i = l.length) := by
  induction l with
  | nil => exact ⟨0, Nat.le_refl _, fun j h => by omega, fun h => by simp at h, by simp [okP]⟩
  | cons a l ih =>
    cases ha : rightP a with
    | false => exact ⟨0, Nat.zero_le _, fun j h => by omega, fun _ => by simpa using ha, by simp [okP, ha]⟩
    | true =>
      obtain ⟨i, hi, h1, h2, h3⟩ := ih
      refine ⟨i + 1, by simpa using hi, fun j h => ?_, fun h => ?_, ?_⟩
      · cases j with
        | zero => simpa using ha
        | succ j => simpa using h1 j (by omega)
      · simpa using h2 (by simpa using h)
      · simp only [okP, List.all_cons, ha, Bool.true_and, List.length_cons, Nat.add_right_cancel_iff]
        exact h3
theorem Contains_calls (l : List PartV) (v : Value) (w : World) (hv : PartsAt w v l) : Calls Try.prog 87 #[v, .func (.func 88) #[] #[]] w (Ret w (.bool (!okP l))) := by
  obtain ⟨i, hi, h1, h2, h3⟩ := first_bad l
  have hI0 : ∀ w' {fs}, St w [] fs w' → Calls Try.prog 90 #[v, .func (.func 88) #[] #[]] w' (Ret w' (.int .i64 (if i = l.length then -1 else (i : Int)))) := fun w' fs hst => IndexFunc_calls l i v w' (hv.st hst) hi h1 h2
  by_cases h : i = l.length
  · rw [if_pos h] at hI0
    have hI := hI0
    rw [h3.2 h]
    refine enter (args := [_, _]) _ [] [] Try.func87 rfl Try.ntmps87 rfl (by simp) .nil ?_
    (refine CW.seq ?_; refine CW.region ?_; apply LW.v0; rfl; rfl; apply ValP.assign; rfl; apply LW.nil; refine thenN ?_; refine CW.seq ?_; refine CW.region ?_; apply LW.v0; rfl; rfl; apply ValP.move; rfl; apply LW.v0; rfl; rfl; apply ValP.move; rfl; apply LW.callE; rfl; rfl; infer_instance; apply ArgsOk.cons; rfl; apply ArgsOk.cons; rfl; exact ArgsOk.nil; intro w _; exact hI w (by assumption); apply LW.v0; rfl; rfl; apply ValP.geqF; rfl; rfl; omega; apply LW.v0; rfl; rfl; apply ValP.assign; rfl; apply LW.nil; refine thenN ?_; refine CW.ret ?_)
    (apply finR; exact .inl rfl; rfl; rfl; rfl; apply ResL.cons; exact Res.tmp rfl; exact ResL.nil)
    rfl
  · rw [if_neg h] at hI0
    have hI := hI0
    have h4 : okP l = false := by
      cases h5 : okP l with
      | false => rfl
      | true => exact absurd (h3.1 h5) h
    rw [h4]
    refine enter (args := [_, _]) _ [] [] Try.func87 rfl Try.ntmps87 rfl (by simp) .nil ?_
    (refine CW.seq ?_; refine CW.region ?_; apply LW.v0; rfl; rfl; apply ValP.assign; rfl; apply LW.nil; refine thenN ?_; refine CW.seq ?_; refine CW.region ?_; apply LW.v0; rfl; rfl; apply ValP.move; rfl; apply LW.v0; rfl; rfl; apply ValP.move; rfl; apply LW.callE; rfl; rfl; infer_instance; apply ArgsOk.cons; rfl; apply ArgsOk.cons; rfl; exact ArgsOk.nil; intro w _; exact hI w (by assumption); apply LW.v0; rfl; rfl; apply ValP.geqT; rfl; rfl; omega; apply LW.v0; rfl; rfl; apply ValP.assign; rfl; apply LW.nil; refine thenN ?_; refine CW.ret ?_)
    (apply finR; exact .inl rfl; rfl; rfl; rfl; apply ResL.cons; exact Res.tmp rfl; exact ResL.nil)
    rfl
def chkP (l : List PartV) : Int := if 16 < l.length then 3 else if okP l then 0 else 140
theorem Check_calls (l : List PartV) (v : Value) (w : World) (hv : PartsAt w v l) : Calls Try.prog 80 #[v] w (Ret w (.int .i64 (chkP l))) := by
  have hK0 : ∀ w' {fs}, St w [] fs w' → Calls Try.prog 87 #[v, .func (.func 88) #[] #[]] w' (Ret w' (.bool (!okP l))) := fun w' fs hst => Contains_calls l v w' (hv.st hst)
  obtain ⟨p, c, rfl, hc, hm⟩ := hv.row.form
  unfold chkP
  rcases Nat.lt_or_ge 16 l.length with h | h
  · rw [if_pos h]
    refine enter (args := [_]) _ [] [] Try.func80 rfl Try.ntmps80 rfl (by simp) .nil ?_
    (refine CW.seq ?_; refine CW.region ?_; apply LW.v0; rfl; rfl; apply ValP.assign; rfl; apply LW.nil; refine thenN ?_; refine CW.seq ?_; refine CW.block ?_; refine CW.seq ?_; refine CW.region ?_; apply LW.v0; rfl; rfl; apply ValP.move; rfl; apply LW.v0; rfl; rfl; apply ValP.lenR; rfl; infer_instance; rfl; apply LW.v0; rfl; rfl; apply ValP.gtrT; rfl; rfl; omega; apply LW.v0; rfl; rfl; apply ValP.assign; rfl; apply LW.nil; refine thenN ?_; apply CW.condT; rfl; (with_reducible rfl); refine CW.seq ?_; refine CW.region ?_; apply LW.v0; rfl; rfl; apply ValP.assign; rfl; apply LW.nil; refine thenN ?_; refine CW.ret ?_; refine blkR ?_; refine thenR ?_)
    (apply finR; exact .inl rfl; rfl; rfl; rfl; apply ResL.cons; exact Res.tmp rfl; exact ResL.nil)
    rfl
  · rw [if_neg (by omega)]
    cases ho : okP l with
    | true =>
      rw [ho] at hK0
      have hK := hK0
      rw [if_pos rfl]
      refine enter (args := [_]) _ [] [] Try.func80 rfl Try.ntmps80 rfl (by simp) .nil ?_
      (refine CW.seq ?_; refine CW.region ?_; apply LW.v0; rfl; rfl; apply ValP.assign; rfl; apply LW.nil; refine thenN ?_; refine CW.seq ?_; refine CW.block ?_; refine CW.seq ?_; refine CW.region ?_; apply LW.v0; rfl; rfl; apply ValP.move; rfl; apply LW.v0; rfl; rfl; apply ValP.lenR; rfl; infer_instance; rfl; apply LW.v0; rfl; rfl; apply ValP.gtrF; rfl; rfl; omega; apply LW.v0; rfl; rfl; apply ValP.assign; rfl; apply LW.nil; refine thenN ?_; apply CW.condF; rfl; (with_reducible rfl); refine CW.seq ?_; refine CW.region ?_; apply LW.v0; rfl; rfl; apply ValP.move; rfl; apply LW.callE; rfl; rfl; infer_instance; apply ArgsOk.cons; rfl; apply ArgsOk.cons; rfl; exact ArgsOk.nil; intro w _; exact hK w (by assumption); apply LW.v0; rfl; rfl; apply ValP.assign; rfl; apply LW.nil; refine thenN ?_; apply CW.condF; rfl; simp only [Bool.not_true, Bool.not_false]; refine CW.skip ?_; refine blkN ?_; refine thenN ?_; refine CW.seq ?_; refine CW.region ?_; apply LW.v0; rfl; rfl; apply ValP.assign; rfl; apply LW.nil; refine thenN ?_; refine CW.ret ?_)
      (apply finR; exact .inl rfl; rfl; rfl; rfl; apply ResL.cons; exact Res.tmp rfl; exact ResL.nil)
      rfl
    | false =>
      rw [ho] at hK0
      have hK := hK0
      rw [if_neg (by simp)]
      refine enter (args := [_]) _ [] [] Try.func80 rfl Try.ntmps80 rfl (by simp) .nil ?_
      (refine CW.seq ?_; refine CW.region ?_; apply LW.v0; rfl; rfl; apply ValP.assign; rfl; apply LW.nil; refine thenN ?_; refine CW.seq ?_; refine CW.block ?_; refine CW.seq ?_; refine CW.region ?_; apply LW.v0; rfl; rfl; apply ValP.move; rfl; apply LW.v0; rfl; rfl; apply ValP.lenR; rfl; infer_instance; rfl; apply LW.v0; rfl; rfl; apply ValP.gtrF; rfl; rfl; omega; apply LW.v0; rfl; rfl; apply ValP.assign; rfl; apply LW.nil; refine thenN ?_; apply CW.condF; rfl; (with_reducible rfl); refine CW.seq ?_; refine CW.region ?_; apply LW.v0; rfl; rfl; apply ValP.move; rfl; apply LW.callE; rfl; rfl; infer_instance; apply ArgsOk.cons; rfl; apply ArgsOk.cons; rfl; exact ArgsOk.nil; intro w _; exact hK w (by assumption); apply LW.v0; rfl; rfl; apply ValP.assign; rfl; apply LW.nil; refine thenN ?_; apply CW.condT; rfl; simp only [Bool.not_true, Bool.not_false]; refine CW.seq ?_; refine CW.region ?_; apply LW.v0; rfl; rfl; apply ValP.assign; rfl; apply LW.nil; refine thenN ?_; refine CW.ret ?_; refine blkR ?_; refine thenR ?_)
      (apply finR; exact .inl rfl; rfl; rfl; rfl; apply ResL.cons; exact Res.tmp rfl; exact ResL.nil)
      rfl
end Go.Proofs.Ytobkhnmglbfheaa

/-
  Contracts of the pack: numbers, copies, which parts are the same.
  Conditions: none.
-/
namespace Go.Proofs.Ytobkhnmglbfheaa
open Go Go.RowKit SL
set_option maxRecDepth 8000
set_option maxHeartbeats 4000000
set_option linter.unusedSimpArgs false
set_option linter.unusedVariables false
attribute [local irreducible] SL.CW SL.LW SL.DW Calls SL.Ret SL.RetG SL.beginQ SL.roundQ SL.rangeQ SL.inQ SL.RW SL.AnyW SL.thenQ SL.thenC SL.thenW SL.blkQ SL.finQ SL.ValP SL.NewP SL.SetP SL.CallP SL.Rd SL.Wr SL.Known
theorem boolEqF' {P : Program} {T ty : TypeId} {e : Env} {x y : Operand} {a b : Bool} [UnI P T .bool] (hx : e.ev x = some (.bool a)) (hy : e.ev y = some (.bool b)) (h : a ≠ b) : ValP P e [] (.binOp .eql T x y ty) (.bool false) := by
  have := ValP.boolEq (P := P) (T := T) (ty := ty) hx hy; rwa [beq_false_of_ne h] at this
/-- A number of bytes, filled up to whole heads. -/
def whl (n : Nat) : Nat := (n + 31) / 32 * 32
theorem whl_le (n : Nat) : n ≤ whl n := by unfold whl; omega
theorem whl_lt (n : Nat) : whl n < n + 32 := by unfold whl; omega
theorem whl_mod (n : Nat) : whl n % 32 = 0 := by unfold whl; omega
theorem whole_calls (n : Nat) (hn : n ≤ 1000000000) (w : World) : Calls Try.prog 74 #[.int .i64 (n : Int)] w (Ret w (.int .i64 ((whl n : Nat) : Int))) := by
  refine enter (args := [_]) _ [] [] Try.func74 rfl Try.ntmps74 rfl (by simp) .nil ?_
  (refine CW.seq ?_; refine CW.region ?_; apply LW.v0; rfl; rfl; apply ValP.assign; rfl; apply LW.nil; refine thenN ?_; refine CW.seq ?_; refine CW.region ?_; apply LW.v0; rfl; rfl; apply ValP.move; rfl; apply LW.v0; rfl; rfl; apply ValP.addZL; rfl; rfl; decide; omega; apply LW.v0; rfl; rfl; apply ValP.subZL; rfl; rfl; decide; omega; omega; apply LW.v0; rfl; rfl; apply ValP.quoZL; rfl; rfl; decide; omega; omega; apply LW.v0; rfl; rfl; apply ValP.mulZL; rfl; rfl; decide; omega; apply LW.v0; rfl; rfl; apply ValP.assign; rfl; apply LW.nil; refine thenN ?_; refine CW.ret ?_)
  (apply finR; exact .inl rfl; rfl; rfl; rfl; apply ResL.cons; exact Res.tmp rfl; exact ResL.nil)
  rw [show ((whl n : Nat) : Int) = ((n + 32 - 1) / 32 * 32 : Nat) from rfl]; rfl
theorem number_calls (n : Nat) (hn : n < 1000000000) (w : World) : Calls Try.prog 83 #[.int .i64 (n : Int)] w (RetG w [] (fun v gs => IsRow 5 1 v 32 (ucs (beb 32 n)) gs)) := by
  refine enter (args := [_]) _ [] [] Try.func83 rfl Try.ntmps83 rfl (by simp) .nil ?_
  (refine CW.seq ?_; refine CW.region ?_; apply LW.v0; rfl; rfl; apply ValP.assign; rfl; apply LW.nil; refine thenN ?_; refine CW.seq ?_; refine CW.region ?_; apply LW.v0; rfl; rfl; apply ValP.move; rfl; apply LW.v0; rfl; rfl; apply ValP.convN; rfl; omega; omega; apply LW.callE; rfl; rfl; infer_instance; apply ArgsOk.cons; rfl; exact ArgsOk.nil; intro w _; exact Of_calls n (by omega) w)
  refine LW.callR rfl rfl inferInstance (by (apply ArgsOk.cons; rfl; exact ArgsOk.nil)) (fun w hst => Bytes_calls n (by simp only [M256]; omega) w) ?_
  intro v1 gs1 hrow
  (apply LW.v0; rfl; rfl; apply ValP.assign; rfl; apply LW.nil; refine thenN ?_; refine CW.ret ?_)
  refine fin (vs := [v1]) gs1 (.inl rfl) rfl rfl (by (apply ResL.cons; exact Res.tmp rfl; exact ResL.nil)) ?_ hrow
  exact List.sublist_append_left _ _
theorem Clone_calls (l : List UInt8) (v : Value) (w : World) (hv : RowAt w 1 v l.length (ucs l)) (hl : l.length ≤ 100000) : Calls Try.prog 46 #[v] w (RetG w [] (fun v' gs => IsRow 5 1 v' l.length (ucs l) gs)) := by
  obtain ⟨p, c, rfl, _, _⟩ := hv.form
  cases p with
  | none =>
    have h0 : l.length = 0 := by
      rcases Nat.eq_zero_or_pos l.length with h | h
      · exact h
      · obtain ⟨_, _, _, _, _, _, he, _, _⟩ := hv.pos h
        cases he
    have hn : l = [] := List.length_eq_zero_iff.1 h0
    subst hn
    refine enter (args := [_]) _ [] [] Try.func46 rfl Try.ntmps46 rfl (by simp) .nil ?_
    (refine CW.seq ?_; refine CW.region ?_; apply LW.v0; rfl; rfl; apply ValP.assign; rfl; apply LW.nil; refine thenN ?_; refine CW.seq ?_; refine CW.seq ?_; refine CW.region ?_; apply LW.v0; rfl; rfl; apply ValP.move; rfl; apply LW.v0; rfl; rfl; apply ValP.sliNilT; rfl; rfl; apply LW.nil; refine thenN ?_; apply CW.condT; rfl; (with_reducible rfl); refine CW.seq ?_; refine CW.region ?_; apply LW.v0; rfl; rfl; apply ValP.assign; rfl; apply LW.nil; refine thenN ?_; refine CW.ret ?_; refine thenR ?_)
    exact fin [] (.inl rfl) rfl rfl (by (apply ResL.cons; exact Res.tmp rfl; exact ResL.nil)) (List.Sublist.refl _) .nil
  | some a =>
    refine enter (args := [_]) _ [] [] Try.func46 rfl Try.ntmps46 rfl (by simp) .nil ?_
    (refine CW.seq ?_; refine CW.region ?_; apply LW.v0; rfl; rfl; apply ValP.assign; rfl; apply LW.nil; refine thenN ?_; refine CW.seq ?_; refine CW.seq ?_; refine CW.region ?_; apply LW.v0; rfl; rfl; apply ValP.move; rfl; apply LW.v0; rfl; rfl; apply ValP.sliNilF; rfl; rfl; apply LW.nil; refine thenN ?_; apply CW.condF; rfl; (with_reducible rfl); refine CW.skip ?_; refine thenN ?_; refine CW.seq ?_; refine CW.region ?_)
    refine LW.lay0 rfl inferInstance inferInstance fun v0 seg hrow => ?_
    (apply LW.v0; rfl; rfl; apply ValP.move; rfl)
    (apply LW.appendAny; (case hrow => assumption); rfl; rfl; infer_instance; infer_instance; infer_instance; rfl; rfl; rfl; exact AtSeg.head)
    · exact fun w hs => hv.st hs
    · exact ucs_cells l
    · simp only [maxLen]; omega
    · omega
    intro v1 seg1 hrow1
    refine ⟨_, (by (exact AtSeg.head)), ?_⟩
    simp only [List.nil_append, Nat.zero_add, List.append_nil] at hrow1 ⊢
    (apply LW.v0; rfl; rfl; apply ValP.assign; rfl; apply LW.nil; refine thenN ?_; refine CW.ret ?_)
    refine fin (vs := [v1]) seg1 (.inl rfl) rfl rfl (by (apply ResL.cons; exact Res.tmp rfl; exact ResL.nil)) ?_ hrow1
    (exact List.Sublist.refl _)
/-- The part that is a word. -/
def ofP (a : Nat) : PartV := ⟨false, a, .slice none 0 0, []⟩
theorem pOf_calls (a : Nat) (ha : a < M256) (w : World) : Calls Try.prog 70 #[wv a] w (Ret w (.agg (psa (ofP a)))) := by
  refine enter (args := [_]) _ [] [] Try.func70 rfl Try.ntmps70 rfl (by simp) .nil ?_
  (refine CW.seq ?_; refine CW.region ?_; apply LW.boxA; rfl; rfl; intro _; apply LW.allocA; rfl; intro _; apply LW.nil; refine thenN ?_; refine CW.seq ?_; refine CW.region ?_; apply LW.load; rfl; rfl; apply Known.at; apply FsAt.tail; apply FsAt.head; exact Rd.whole rfl; apply LW.v0; rfl; rfl; apply ValP.buildT; infer_instance; infer_instance; apply PartsOk.cons; rfl; exact PartsOk.nil; rfl; simp only [psa, psc, ofP, wc, fillP, wrCells, Value.cells, List.getElem?_cons_zero, List.getElem?_cons_succ, List.toList_toArray, List.setIfInBounds_toArray, List.set_cons_succ, List.set_cons_zero, Nat.reduceAdd, Nat.zero_add, List.cons_append, List.nil_append]; rfl; apply LW.store; rfl; rfl; apply SetAt.head; apply Wr.whole; rfl; rfl; rfl; apply LW.nil; refine thenN ?_; refine CW.ret ?_)
  (apply finR; exact .inl rfl; rfl; rfl; rfl; apply ResL.cons; apply Res.cell; rfl; apply Known.at; apply FsAt.head; exact Rd.whole rfl; exact ResL.nil)
  rfl
/-- The part with bytes. -/
def byP (v : Value) (l : List UInt8) : PartV := ⟨true, 0, v, l⟩
theorem pBytes_calls (l : List UInt8) (v : Value) (w : World) (hv : RowAt w 1 v l.length (ucs l)) (hl : l.length ≤ 100000) : Calls Try.prog 72 #[v] w (RetG w [] (fun v' gs => ∃ dv, v' = .agg (psa (byP dv l)) ∧ IsRow 5 1 dv l.length (ucs l) gs)) := by
  refine enter (args := [_]) _ [] [] Try.func72 rfl Try.ntmps72 rfl (by simp) .nil ?_
  (refine CW.seq ?_; refine CW.region ?_; apply LW.allocA; rfl; intro _; apply LW.nil; refine thenN ?_; refine CW.seq ?_; refine CW.region ?_; apply LW.v0; rfl; rfl; apply ValP.move; rfl)
  refine LW.callR rfl rfl inferInstance (by (apply ArgsOk.cons; rfl; exact ArgsOk.nil)) (fun w hst => Clone_calls l v w (hv.st hst) hl) ?_
  intro v1 gs1 hrow
  obtain ⟨p1, c1, rfl⟩ := hrow.form
  (apply LW.v0; rfl; rfl; apply ValP.buildT; infer_instance; infer_instance; apply PartsOk.cons; rfl; apply PartsOk.cons; rfl; exact PartsOk.nil; rfl; simp only [psa, psc, ofP, wc, fillP, wrCells, Value.cells, List.getElem?_cons_zero, List.getElem?_cons_succ, List.toList_toArray, List.setIfInBounds_toArray, List.set_cons_succ, List.set_cons_zero, Nat.reduceAdd, Nat.zero_add, List.cons_append, List.nil_append]; rfl; apply LW.store; rfl; rfl; apply SetAt.app; apply SetAt.head; apply Wr.whole; rfl; rfl; rfl; apply LW.nil; refine thenN ?_; refine CW.ret ?_)
  apply fin gs1 (.inl rfl) rfl rfl
  (apply ResL.cons; apply Res.cell; rfl; apply Known.at; apply FsAt.app; apply FsAt.head; exact Rd.whole rfl; exact ResL.nil)
  exact List.sublist_append_left _ _
  exact ⟨.slice p1 l.length c1, by simp [tup, psa, psc, byP, wc], hrow⟩
/-- Are two parts the same? -/
def sameP (p q : PartV) : Bool := decide (p.lg = q.lg) && (decide (p.wd = q.wd) && decide (p.db = q.db))
end Go.Proofs.Ytobkhnmglbfheaa

/-
  Contracts of the pack: which parts are the same.
  Conditions: none.
-/
namespace Go.Proofs.Ytobkhnmglbfheaa
open Go Go.RowKit SL
set_option maxRecDepth 8000
set_option maxHeartbeats 4000000
set_option linter.unusedSimpArgs false
set_option linter.unusedVariables false
attribute [local irreducible] SL.CW SL.LW SL.DW Calls SL.Ret SL.RetG SL.beginQ SL.roundQ SL.rangeQ SL.inQ SL.RW SL.AnyW SL.thenQ SL.thenC SL.thenW SL.blkQ SL.finQ SL.ValP SL.NewP SL.SetP SL.CallP SL.Rd SL.Wr SL.Known
/-- Are two rows of parts the same? -/
def sameL : List PartV → List PartV → Bool
  | [], [] => true
  | a :: l, b :: m => sameP a b && sameL l m
  | _, _ => false
theorem sameL_len : ∀ (l m : List PartV), l.length ≠ m.length → sameL l m = false
  | [], [], h => absurd rfl h
  | a :: l, b :: m, h => by
    rw [sameL, sameL_len l m (fun e => h (by simp [e])), Bool.and_false]
  | [], _ :: _, _ => rfl
  | _ :: _, [], _ => rfl
theorem first_other : ∀ (l m : List PartV), l.length = m.length → ∃ i, ∃ _ : i ≤ l.length, (∀ j (h : j < i) (h1 : j < l.length) (h2 : j < m.length), sameP l[j] m[j] = true) ∧ (∀ (h : i < l.length) (h2 : i < m.length), sameP l[i] m[i] = false) ∧ (sameL l m = true ↔ i = l.length)
  | [], [], _ => ⟨0, Nat.le_refl _, fun j h => by omega, fun h => by simp at h, by simp [sameL]⟩
  | [], _ :: _, h => by simp at h
  | _ :: _, [], h => by simp at h
  | a :: l, b :: m, hl => by
    cases ha : sameP a b with
    | false => exact ⟨0, Nat.zero_le _, fun j h => by omega, fun _ _ => by simpa using ha, by simp [sameL, ha]⟩
    | true =>
      obtain ⟨i, hi, h1, h2, h3⟩ := first_other l m (by simpa using hl)
      refine ⟨i + 1, by simpa using hi, fun j h => ?_, fun h h' => ?_, ?_⟩
      · cases j with
        | zero => exact fun _ _ => by simpa using ha
        | succ j => exact fun g1 g2 => by simpa using h1 j (by omega) (by simpa using g1) (by simpa using g2)
      · simpa using h2 (by simpa using h) (by simpa using h')
      · simp only [sameL, ha, Bool.true_and, List.length_cons, Nat.add_right_cancel_iff]
        exact h3
end Go.Proofs.Ytobkhnmglbfheaa

/-
  Contracts of the pack: the bytes of parts.
  Conditions: none.
-/
namespace Go.Proofs.Ytobkhnmglbfheaa
open Go Go.RowKit SL
set_option maxRecDepth 8000
set_option maxHeartbeats 4000000
set_option linter.unusedSimpArgs false
set_option linter.unusedVariables false
attribute [local irreducible] SL.CW SL.LW SL.DW Calls SL.Ret SL.RetG SL.beginQ SL.roundQ SL.rangeQ SL.inQ SL.RW SL.AnyW SL.thenQ SL.thenC SL.thenW SL.blkQ SL.finQ SL.ValP SL.NewP SL.SetP SL.CallP SL.Rd SL.Wr SL.Known
/-! ### The layout -/
def p00 : PartV := ⟨false, 0, .slice none 0 0, []⟩
/-- The part at a place. -/
def pt (l : List PartV) (k : Nat) : PartV := l.getD k p00
theorem pt_eq {l : List PartV} {k : Nat} (h : k < l.length) : pt l k = l[k] := by simp [pt, h]
/-- A Long part's tail. -/
def tlB (b : List UInt8) : List UInt8 := beb 32 b.length ++ (b ++ List.replicate (whl b.length - b.length) 0)
theorem tlB_len (b : List UInt8) : (tlB b).length = 32 + whl b.length := by
  have := whl_le b.length
  simp [tlB, beb_len]; omega
/-- The tails of the first k parts. -/
def behK (l : List PartV) : Nat → List UInt8
  | 0 => []
  | k + 1 => behK l k ++ (if (pt l k).lg then tlB (pt l k).db else [])
/-- Where the tail of the k-th part begins. -/
def atF (l : List PartV) (k : Nat) : Nat := 32 * l.length + (behK l k).length
/-- The places of the first k parts' tails. -/
def plcK (l : List PartV) : Nat → List Nat
  | 0 => []
  | k + 1 => plcK l k ++ (if (pt l k).lg then [atF l k] else [])
/-- The heads of the first k parts. -/
def hdK (l : List PartV) : Nat → List UInt8
  | 0 => []
  | k + 1 => hdK l k ++ (if (pt l k).lg then beb 32 (atF l k) else beb 32 (pt l k).wd)
/-- The bytes of parts. -/
def layF (l : List PartV) : List UInt8 := hdK l l.length ++ behK l l.length
theorem behK_zero (l : List PartV) : behK l 0 = [] := rfl
theorem behK_long {l : List PartV} {k : Nat} (h : (pt l k).lg = true) : behK l (k + 1) = behK l k ++ tlB (pt l k).db := by rw [behK, if_pos h]
theorem behK_short {l : List PartV} {k : Nat} (h : (pt l k).lg = false) : behK l (k + 1) = behK l k := by rw [behK, if_neg (by simp [h]), List.append_nil]
theorem plcK_zero (l : List PartV) : plcK l 0 = [] := rfl
theorem plcK_long {l : List PartV} {k : Nat} (h : (pt l k).lg = true) : plcK l (k + 1) = plcK l k ++ [atF l k] := by rw [plcK, if_pos h]
theorem plcK_short {l : List PartV} {k : Nat} (h : (pt l k).lg = false) : plcK l (k + 1) = plcK l k := by rw [plcK, if_neg (by simp [h]), List.append_nil]
theorem hdK_zero (l : List PartV) : hdK l 0 = [] := rfl
theorem hdK_long {l : List PartV} {k : Nat} (h : (pt l k).lg = true) : hdK l (k + 1) = hdK l k ++ beb 32 (atF l k) := by rw [hdK, if_pos h]
theorem hdK_short {l : List PartV} {k : Nat} (h : (pt l k).lg = false) : hdK l (k + 1) = hdK l k ++ beb 32 (pt l k).wd := by rw [hdK, if_neg (by simp [h])]
theorem hdK_len (l : List PartV) (k : Nat) : (hdK l k).length = 32 * k := by
  induction k with
  | zero => rfl
  | succ k ih =>
    cases h : (pt l k).lg with
    | true => rw [hdK_long h, List.length_append, beb_len, ih]; omega
    | false => rw [hdK_short h, List.length_append, beb_len, ih]; omega
attribute [local irreducible] behK plcK hdK
theorem atF_zero (l : List PartV) : atF l 0 = 32 * l.length := by simp [atF, behK_zero]
theorem atF_long {l : List PartV} {k : Nat} (h : (pt l k).lg = true) : atF l (k + 1) = atF l k + (32 + whl (pt l k).db.length) := by
  rw [atF, behK_long h, List.length_append, tlB_len, ← Nat.add_assoc]; rfl
theorem atF_short {l : List PartV} {k : Nat} (h : (pt l k).lg = false) : atF l (k + 1) = atF l k := by rw [atF, behK_short h]; rfl
theorem plc_len (l : List PartV) (k : Nat) : (plcK l k).length ≤ k := by
  induction k with
  | zero => rw [plcK_zero]; exact Nat.le_refl _
  | succ k ih =>
    cases h : (pt l k).lg with
    | true => rw [plcK_long h]; simpa using ih
    | false => rw [plcK_short h]; omega
theorem plc_pre (l : List PartV) (k d : Nat) : ∃ r, plcK l (k + d) = plcK l k ++ r := by
  induction d with
  | zero => exact ⟨[], (List.append_nil _).symm⟩
  | succ d ih =>
    obtain ⟨r, hr⟩ := ih
    rw [← Nat.add_assoc]
    cases h : (pt l (k + d)).lg with
    | true => exact ⟨r ++ [atF l (k + d)], by rw [plcK_long h, hr, List.append_assoc]⟩
    | false => exact ⟨r, by rw [plcK_short h, hr]⟩
theorem plc_get {l : List PartV} {k : Nat} (hk : k < l.length) (h : (pt l k).lg = true) : (plcK l l.length)[(plcK l k).length]? = some (atF l k) ∧ (plcK l k).length < (plcK l l.length).length := by
  obtain ⟨r, hr⟩ := plc_pre l (k + 1) (l.length - (k + 1))
  rw [show k + 1 + (l.length - (k + 1)) = l.length by omega, plcK_long h] at hr
  rw [hr]
  simp
theorem beh_cells (b : List UInt8) (xs : List Value) : xs ++ ucs (beb 32 b.length) ++ ucs b ++ List.replicate (whl b.length - b.length) (Value.int .u8 0) = xs ++ ucs (tlB b) := by
  rw [tlB, ucs_app, ucs_app, ucs_zero]; simp only [List.append_assoc]
/-- Parts that are not great. -/
def small200 (l : List PartV) : Prop := l.length ≤ 16 ∧ ∀ k, (pt l k).db.length ≤ 200
theorem beh_len {l : List PartV} (h : small200 l) (k : Nat) : (behK l k).length ≤ 300 * k := by
  induction k with
  | zero => rw [behK_zero]; exact Nat.le_refl _
  | succ k ih =>
    cases hl : (pt l k).lg with
    | true =>
      rw [behK_long hl, List.length_append, tlB_len]
      have := h.2 k
      have := whl_lt (pt l k).db.length
      omega
    | false => rw [behK_short hl]; omega
theorem right_small {l : List PartV} (h : chkP l = 0) : small200 l := by
  unfold chkP at h
  split at h
  · cases h
  · split at h
    · rename_i h1 h2
      refine ⟨by omega, fun k => ?_⟩
      unfold pt
      rw [List.getD_eq_getElem?_getD]
      cases hk : l[k]? with
      | none => simp [p00]
      | some p =>
        simp only [Option.getD_some]
        have hm : p ∈ l := List.mem_of_getElem? hk
        have := List.all_eq_true.1 h2 p hm
        unfold rightP at this
        split at this
        · simp only [Bool.and_eq_true, decide_eq_true_eq] at this; exact this.2
        · simp only [decide_eq_true_eq] at this; omega
    · cases h
/-! ### Lay -/
theorem Lay_bad (l : List PartV) (v : Value) (w : World) (hv : PartsAt w v l) (h : chkP l ≠ 0) : Calls Try.prog 64 #[v] w (Ret w (.tuple #[.slice none 0 0, .int .i64 (chkP l)])) := by
  have hK : ∀ w' {fs}, St w [] fs w' → Calls Try.prog 80 #[v] w' (Ret w' (.int .i64 (chkP l))) := fun w' fs hst => Check_calls l v w' (hv.st hst)
  refine enter (args := [_]) _ [] [] Try.func64 rfl Try.ntmps64 rfl (by simp) .nil ?_
  (refine CW.seq ?_; refine CW.region ?_; apply LW.v0; rfl; rfl; apply ValP.assign; rfl; apply LW.v0; rfl; rfl; apply ValP.assign; rfl; apply LW.nil; refine thenN ?_; refine CW.seq ?_; refine CW.seq ?_; refine CW.region ?_; apply LW.v0; rfl; rfl; apply ValP.move; rfl; apply LW.callE; rfl; rfl; infer_instance; apply ArgsOk.cons; rfl; exact ArgsOk.nil; intro w _; exact hK w (by assumption); apply LW.v0; rfl; rfl; apply ValP.assign; rfl; apply LW.nil; refine thenN ?_; refine CW.seq ?_; refine CW.region ?_; apply LW.v0; rfl; rfl; apply ValP.move; rfl; apply LW.v0; rfl; rfl; apply ValP.neT; rfl; rfl; omega; apply LW.nil; refine thenN ?_; apply CW.condT; rfl; (with_reducible rfl); refine CW.seq ?_; refine CW.region ?_; apply LW.v0; rfl; rfl; apply ValP.move; rfl; apply LW.v0; rfl; rfl; apply ValP.assign; rfl; apply LW.v0; rfl; rfl; apply ValP.assign; rfl; apply LW.nil; refine thenN ?_; refine CW.ret ?_; refine thenR ?_)
  (apply finR; exact .inl rfl; rfl; rfl; rfl; apply ResL.cons; exact Res.tmp rfl; apply ResL.cons; exact Res.tmp rfl; exact ResL.nil)
  rfl
theorem IsRow.room {E : TypeId} {sz n : Nat} {v : Value} {xs : List Value} {seg : Fs} (h : IsRow E sz v n xs seg) : ∀ p c, v = .slice p n c → n ≤ c := by
  cases h with
  | nil => intro p c he; cases he; exact Nat.le_refl _
  | own h _ _ _ _ => intro p c he; cases he; exact h
structure LX where
  k : Nat
  ov : Value
  segO : Fs
  q : Option Addr
  c : Nat
structure TLX where
  m : Nat
  bv : Value
  segB : Fs
  pv : Value
  segP : Fs
theorem Lay_ok (l : List PartV) (v : Value) (w : World) (hv : PartsAt w v l) (h : chkP l = 0) : Calls Try.prog 64 #[v] w (RetG w [] (fun v' gs => ∃ bv, v' = .tuple #[bv, .int .i64 0] ∧ IsRow 5 1 bv (layF l).length (ucs (layF l)) gs)) := by
  have hK0 : ∀ w' {fs}, St w [] fs w' → Calls Try.prog 80 #[v] w' (Ret w' (.int .i64 (chkP l))) := fun w' fs hst => Check_calls l v w' (hv.st hst)
  rw [h] at hK0
  have hK := hK0
  obtain ⟨p, c, rfl, hc, hm⟩ := hv.row.form
  simp only [maxLen] at hm
  have hsm := right_small h
  have hl16 := hsm.1
  refine enter (args := [_]) _ [] [] Try.func64 rfl Try.ntmps64 rfl (by simp) .nil ?_
  (refine CW.seq ?_; refine CW.region ?_; apply LW.v0; rfl; rfl; apply ValP.assign; rfl; apply LW.v0; rfl; rfl; apply ValP.assign; rfl; apply LW.nil; refine thenN ?_; refine CW.seq ?_; refine CW.seq ?_; refine CW.region ?_; apply LW.v0; rfl; rfl; apply ValP.move; rfl; apply LW.callE; rfl; rfl; infer_instance; apply ArgsOk.cons; rfl; exact ArgsOk.nil; intro w _; exact hK w (by assumption); apply LW.v0; rfl; rfl; apply ValP.assign; rfl; apply LW.nil; refine thenN ?_; refine CW.seq ?_; refine CW.region ?_; apply LW.v0; rfl; rfl; apply ValP.move; rfl; apply LW.v0; rfl; rfl; apply ValP.neF; rfl; rfl; omega; apply LW.nil; refine thenN ?_; apply CW.condF; rfl; (with_reducible rfl); refine CW.skip ?_; refine thenN ?_; refine CW.seq ?_; refine CW.region ?_; apply LW.alloc1; rfl; rfl; intro _; apply LW.nil; refine thenN ?_; refine CW.seq ?_; refine CW.region ?_; apply LW.alloc1; rfl; rfl; intro _; apply LW.nil; refine thenN ?_; refine CW.seq ?_; refine CW.region ?_; apply LW.v0; rfl; rfl; apply ValP.move; rfl; apply LW.v0; rfl; rfl; apply ValP.makeFunc; exact ArgsOk.nil; apply ArgsOk.cons; rfl; apply ArgsOk.cons; rfl; exact ArgsOk.nil)
  rename_i b5 b6
  apply LW.inline
  rfl
  rfl
  infer_instance
  (apply ArgsOk.cons; rfl; apply ArgsOk.cons; rfl; exact ArgsOk.nil)
  rfl
  exact Try.func81
  rfl
  exact Try.ntmps81
  rfl
  (refine CW.seq ?_; refine CW.region ?_; apply LW.v0; rfl; rfl; apply ValP.move; rfl; apply LW.v0; rfl; rfl; apply ValP.lenR; rfl; infer_instance; rfl; apply LW.v0; rfl; rfl; apply ValP.mulZK; rfl; rfl; decide; omega; apply LW.v0; rfl; rfl; apply ValP.assign; rfl; apply LW.nil; refine thenN ?_; refine CW.seq ?_; refine CW.region ?_; apply LW.v0; rfl; rfl; apply ValP.move; rfl; apply LW.v0; rfl; rfl; apply ValP.lenR; rfl; infer_instance; rfl; apply LW.v0; rfl; rfl; apply ValP.move; rfl; apply LW.nil; refine thenN ?_; refine CW.block ?_)
  refine CW.loop (fun x : TLX => ([(12, .int .i64 (x.m : Int)), (11, .int .i64 (l.length : Int)), (10, .slice p l.length c), (4, .int .i64 (atF l x.m : Int)), (0, .slice p l.length c), (1, .func (.func 82) #[] #[.pointer (some ⟨b5, 0, none⟩), .pointer (some ⟨b6, 0, none⟩)])],
      x.segB ++ (x.segP ++ [(b6, .cells #[x.bv] 24 (0, 0)), (b5, .cells #[x.pv] 80 (0, 0))])))
    (fun x => x.m ≤ l.length ∧ IsRow 5 1 x.bv (behK l x.m).length (ucs (behK l x.m)) x.segB ∧ IsRow 3 1 x.pv (plcK l x.m).length (ics (plcK l x.m)) x.segP ∧ (x.bv = .slice none 0 0 ∨ 0 < (behK l x.m).length)) (fun x => l.length - x.m) ⟨0, .slice none 0 0, [], .slice none 0 0, []⟩
    ⟨Nat.zero_le _, by rw [behK_zero]; exact .nil, by rw [plcK_zero]; exact .nil, .inl rfl⟩ ⟨rfl, rfl, rfl, by rw [atF_zero]; rfl, rfl, rfl, trivial⟩ (List.Sublist.refl _) ?_
  rintro ⟨m, bv, segB, pv, segP⟩ ⟨hm2, hB, hP, h0⟩
  dsimp only at hm2 hB hP h0 ⊢
  obtain ⟨qb, cb, rfl⟩ := hB.form
  obtain ⟨qp, cp, rfl⟩ := hP.form
  rcases Nat.lt_or_ge m l.length with hlt | hge
  · obtain ⟨b, off, c', cs, E, fr, heq, hb, hrd0⟩ := part_rd hv m hlt
    cases heq
    have hrd : Rd Try.prog 84 (.cells cs E fr) (off + m * 6) (.agg (psa l[m])) := hrd0
    clear hrd0
    have ho := hv.one _ (List.getElem_mem hlt)
    have hdv := hv.data _ (List.getElem_mem hlt)
    have hpt := pt_eq hlt
    have hd200 := hsm.2 m
    have hbl := beh_len hsm m
    have hpl := plc_len l m
    have hwl := whl_le l[m].db.length
    have hwt := whl_lt l[m].db.length
    have hal : atF l m ≤ 100000 := by unfold atF; omega
    rw [hpt] at hd200
    obtain ⟨q, cq, hq, hcq, _⟩ := hdv.form
    have hr2 : ∀ {E fr} , Rd Try.prog 24 (.cells (psa l[m]) E fr) 5 (.slice q l[m].db.length cq) := fun {E fr} => by rw [← hq]; exact ps_rd2
    rw [hq] at hdv
    cases hlg : (pt l m).lg with
    | false =>
      have hlg' : l[m].lg = false := by rw [← hpt]; exact hlg
      have ha1 := atF_short hlg
      have hb1 := behK_short hlg
      have hp1 := plcK_short hlg
      have hr0 : ∀ {E fr} , Rd Try.prog 4 (.cells (psa l[m]) E fr) 0 (.bool false) := fun {E fr} => by rw [← hlg']; exact ps_rd0
      (refine CW.seq ?_; refine CW.region ?_; apply LW.v0; rfl; rfl; apply ValP.lssT; rfl; rfl; omega; apply LW.nil; refine thenN ?_; refine CW.seq ?_; apply CW.condT; rfl; (with_reducible rfl); refine CW.skip ?_; refine thenN ?_; refine CW.seq ?_; refine CW.block ?_; refine CW.seq ?_; refine CW.region ?_; apply LW.v0; rfl; rfl; apply ValP.indexAddrS; rfl; rfl; rfl; omega; apply LW.load; rfl; rfl; exact Known.ext (by assumption) (by simp); assumption; apply LW.allocA; rfl; intro _; apply LW.store; rfl; rfl; apply SetAt.head; apply ps_wrW; rfl; assumption; apply LW.nil; refine thenN ?_; refine CW.seq ?_; refine CW.region ?_; apply LW.v0; rfl; rfl; apply ValP.fieldAddr; rfl; rfl; apply LW.load; rfl; rfl; apply Known.at; apply FsAt.head; exact hr0; apply LW.nil; refine thenN ?_; apply CW.condF; rfl; (with_reducible rfl); refine CW.skip ?_; refine blkN ?_; refine thenN ?_; refine CW.region ?_; apply LW.v0; rfl; rfl; apply ValP.addZL; rfl; rfl; decide; omega; apply LW.v0; rfl; rfl; apply ValP.move; rfl; apply LW.nil)
      apply thenX
      refine ⟨rfl, ⟨m + 1, _, segB, _, segP⟩, ⟨hlt, by rw [hb1]; exact hB, by rw [hp1]; exact hP, by rw [hb1]; exact h0⟩, by show l.length - (m + 1) < l.length - m; omega, ⟨rfl, rfl, rfl, by rw [ha1]; rfl, rfl, rfl, trivial⟩, ?_⟩
      dsimp only
      exact List.Sublist.cons _ (List.Sublist.refl _)
    | true =>
      have hlg' : l[m].lg = true := by rw [← hpt]; exact hlg
      have ha1 := atF_long hlg
      have hb1 := behK_long hlg
      have hp1 := plcK_long hlg
      rw [hpt] at ha1 hb1
      have hr0 : ∀ {E fr} , Rd Try.prog 4 (.cells (psa l[m]) E fr) 0 (.bool true) := fun {E fr} => by rw [← hlg']; exact ps_rd0
      (refine CW.seq ?_; refine CW.region ?_; apply LW.v0; rfl; rfl; apply ValP.lssT; rfl; rfl; omega; apply LW.nil; refine thenN ?_; refine CW.seq ?_; apply CW.condT; rfl; (with_reducible rfl); refine CW.skip ?_; refine thenN ?_; refine CW.seq ?_; refine CW.block ?_; refine CW.seq ?_; refine CW.region ?_; apply LW.v0; rfl; rfl; apply ValP.indexAddrS; rfl; rfl; rfl; omega; apply LW.load; rfl; rfl; exact Known.ext (by assumption) (by simp); assumption; apply LW.allocA; rfl; intro _; apply LW.store; rfl; rfl; apply SetAt.head; apply ps_wrW; rfl; assumption; apply LW.nil; refine thenN ?_; refine CW.seq ?_; refine CW.region ?_; apply LW.v0; rfl; rfl; apply ValP.fieldAddr; rfl; rfl; apply LW.load; rfl; rfl; apply Known.at; apply FsAt.head; exact hr0; apply LW.nil; refine thenN ?_; apply CW.condT; rfl; (with_reducible rfl); refine CW.seq ?_; refine CW.region ?_; apply LW.v0; rfl; rfl; apply ValP.move; rfl; apply LW.v0; rfl; rfl; apply ValP.move; rfl; apply LW.v0; rfl; rfl; apply ValP.fieldAddr; rfl; rfl; apply LW.load; rfl; rfl; apply Known.at; apply FsAt.head; exact hr2)
      apply LW.inline
      rfl
      rfl
      infer_instance
      (apply ArgsOk.cons; rfl; apply ArgsOk.cons; rfl; exact ArgsOk.nil)
      rfl
      exact Try.func82
      rfl
      exact Try.ntmps82
      rfl
      (refine CW.seq ?_; refine CW.region ?_; apply LW.load; rfl; rfl; apply Known.at; apply FsAt.tail; apply FsAt.app; apply FsAt.app; apply FsAt.tail; apply FsAt.head; exact Rd.one' rfl; apply LW.v0; rfl; rfl; apply ValP.move; rfl; apply LW.lay1; rfl; infer_instance; infer_instance; rfl; rfl; rfl; rfl; rfl; rfl; intro _)
      (apply LW.append; rfl; rfl; infer_instance; infer_instance; infer_instance; rfl; rfl; rfl; (case hrow => assumption); apply AtSeg.cons; apply AtSeg.cons; apply AtSeg.app; exact AtSeg.head; apply Known.at; apply FsAt.head; rfl; rfl; rfl; omega; simp only [maxLen]; omega; omega; intro v' seg' hrow'; obtain ⟨p', c', rfl⟩ := hrow'.form; (refine ⟨_, (by (repeat (first | exact AtSeg.head | apply AtSeg.cons | apply AtSeg.app))), ?_⟩); (try simp only [List.cons_append, List.nil_append]))
      (apply LW.store; rfl; rfl; apply SetAt.tail; apply SetAt.tail; apply SetAt.app; apply SetAt.app; apply SetAt.tail; apply SetAt.head; apply Wr.cells; rfl; rfl; simp only [List.size_toArray, List.length_cons, List.length_nil]; omega; simp only [fillC, wc, wrCells, Value.cells, List.toList_toArray, List.setIfInBounds_toArray, List.set_cons_succ, List.set_cons_zero, Nat.reduceAdd, Nat.reduceMul, Nat.zero_add, Nat.mul_one]; rfl; apply LW.nil; refine thenN ?_; refine CW.seq ?_)
      apply CW.pre
      (refine AnyW.anyM [(3, fun v gs => IsRow 5 1 v 32 (ucs (beb 32 l[m].db.length)) gs), (4, fun v gs => IsRow 5 1 v ((behK l m).length + 32) (ucs (behK l m) ++ ucs (beb 32 l[m].db.length)) gs)] 6 mixed (by decide +kernel) ?_)
      ((try simp only [tsOf_cons, tsOf_nil, tsOf_app]); apply DW.loadO; rfl; rfl; rfl; exact WantT.none; rfl; apply TRead.tail; apply TRead.tail; apply TRead.app; apply TRead.app; apply TRead.head; exact ancB_nil; exact Rd.one' rfl; apply DW.v0; rfl; rfl; rfl; exact WantT.none; rfl; apply ValP.move; rfl; apply DW.v0; rfl; rfl; rfl; exact WantT.none; rfl; apply ValP.lenR; rfl; infer_instance; rfl)
      (apply DW.manyE; rfl; rfl; rfl; exact WantT.none; rfl; infer_instance; apply ArgsOk.cons; rfl; exact ArgsOk.nil; rfl; exact ReadAll.nil; intro w _ _)
      exact number_calls _ (by omega) w
      intro v1 gs1 hrow1
      obtain ⟨p1, c1, rfl⟩ := hrow1.form
      obtain ⟨g1, cur1, rfl, rfl, hn1, hm1, hs1, ht1⟩ := hrow1.pos (by decide)
      have hc1 : 0 < c1 := by omega
      ((try simp only [tsOf_cons, tsOf_nil, tsOf_app]))
      refine DW.appendV (news := ucs (beb 32 l[m].db.length)) rfl rfl rfl (by (exact WantT.none)) rfl inferInstance inferInstance inferInstance rfl rfl rfl hB h0 (by (apply TOut.cons; apply TOut.cons; apply TOut.cons; exact TOut.old)) (by (apply RdV.own; assumption; apply TRead.head; kernel_rfl; exact RdV.nil)) (fun w' hbel hus => RowAt.us hus hn1 hm1 ht1 (by rw [ucs_len, beb_len])) (ucs_cells _) (by simp only [maxLen]; omega) (by omega) ?_
      intro v2 seg2 hrow2
      obtain ⟨p2, c2, rfl⟩ := hrow2.form
      ((try simp only [tsOf_cons, tsOf_nil, tsOf_app]); apply DW.v0; rfl; rfl; rfl; exact WantT.none; rfl; apply ValP.move; rfl; apply DW.nil; simp only [fsOf_cons, fsOf_nil, fsOf_app, fsOf_tsOf, fsOf_new, fsOf_tag])
      (apply LW.appendAny; (case hrow => assumption); rfl; rfl; infer_instance; infer_instance; infer_instance; rfl; rfl; rfl; exact AtSeg.head)
      · exact fun w hs => hdv.st hs
      · exact ucs_cells _
      · simp only [maxLen]; omega
      · omega
      intro v3 seg3 hrow3
      refine ⟨_, (by (exact AtSeg.head)), ?_⟩
      obtain ⟨p3, c3, rfl⟩ := hrow3.form
      (apply LW.store; rfl; rfl; apply SetAt.app; apply SetAt.tail; apply SetAt.tail; apply SetAt.tail; apply SetAt.app; apply SetAt.head; apply Wr.cells; rfl; rfl; simp only [List.size_toArray, List.length_cons, List.length_nil]; omega; simp only [fillC, wc, wrCells, Value.cells, List.toList_toArray, List.setIfInBounds_toArray, List.set_cons_succ, List.set_cons_zero, Nat.reduceAdd, Nat.reduceMul, Nat.zero_add, Nat.mul_one]; rfl; apply LW.nil; refine thenN ?_; apply CW.pre; refine AnyW.any 7 mixed (by decide +kernel) ?_; (try simp only [tsOf_cons, tsOf_nil, tsOf_app]); apply DW.loadO; rfl; rfl; rfl; exact WantT.none; rfl; apply TRead.app; apply TRead.tail; apply TRead.tail; apply TRead.tail; apply TRead.app; apply TRead.head; exact ancB_nil; exact Rd.one' rfl; apply DW.v0; rfl; rfl; rfl; exact WantT.none; rfl; apply ValP.move; rfl; apply DW.v0; rfl; rfl; rfl; exact WantT.none; rfl; apply ValP.lenR; rfl; infer_instance; rfl; apply DW.callE; rfl; rfl; rfl; exact WantT.none; rfl; infer_instance; apply ArgsOk.cons; rfl; exact ArgsOk.nil; rfl; exact ReadAll.nil; intro w _ _; exact whole_calls _ (by omega) w; apply DW.v0; rfl; rfl; rfl; exact WantT.none; rfl; apply ValP.move; rfl; apply DW.v0; rfl; rfl; rfl; exact WantT.none; rfl; apply ValP.lenR; rfl; infer_instance; rfl; apply DW.v0; rfl; rfl; rfl; exact WantT.none; rfl; apply ValP.subZ; rfl; rfl; omega; omega; apply DW.nil; simp only [fsOf_cons, fsOf_nil, fsOf_app, fsOf_tsOf, fsOf_new, fsOf_tag])
      refine LW.appendZ (m := whl l[m].db.length - l[m].db.length) rfl rfl inferInstance inferInstance inferInstance inferInstance rfl rfl rfl rfl (by (exact AtSeg.head)) hrow3 (by simp only [maxLen]; omega) (by omega) ?_
      intro v4 seg4 hrow4
      refine ⟨_, (by (exact AtSeg.head)), ?_⟩
      obtain ⟨p4, c4, rfl⟩ := hrow4.form
      (apply LW.store; rfl; rfl; apply SetAt.app; apply SetAt.tail; apply SetAt.tail; apply SetAt.tail; apply SetAt.app; apply SetAt.head; apply Wr.cells; rfl; rfl; simp only [List.size_toArray, List.length_cons, List.length_nil]; omega; simp only [fillC, wc, wrCells, Value.cells, List.toList_toArray, List.setIfInBounds_toArray, List.set_cons_succ, List.set_cons_zero, Nat.reduceAdd, Nat.reduceMul, Nat.zero_add, Nat.mul_one]; rfl; apply LW.nil)
      apply inI
      (exact .inr rfl)
      (exact Shut.nil)
      rfl
      (exact ResL.nil)
      rfl
      (apply LW.nil; refine thenN ?_; refine CW.region ?_; apply LW.v0; rfl; rfl; apply ValP.move; rfl; apply LW.v0; rfl; rfl; apply ValP.fieldAddr; rfl; rfl; apply LW.load; rfl; rfl; apply Known.at; apply FsAt.app; apply FsAt.tail; apply FsAt.tail; apply FsAt.head; exact hr2; apply LW.v0; rfl; rfl; apply ValP.lenR; rfl; infer_instance; rfl; apply LW.callE; rfl; rfl; infer_instance; apply ArgsOk.cons; rfl; exact ArgsOk.nil; intro w _; exact whole_calls _ (by omega) w; apply LW.v0; rfl; rfl; apply ValP.addZK; rfl; rfl; decide; omega; apply LW.v0; rfl; rfl; apply ValP.addZ; rfl; rfl; omega; apply LW.v0; rfl; rfl; apply ValP.assign; rfl; apply LW.nil; refine blkN ?_; refine thenN ?_; refine CW.region ?_; apply LW.v0; rfl; rfl; apply ValP.addZL; rfl; rfl; decide; omega; apply LW.v0; rfl; rfl; apply ValP.move; rfl; apply LW.nil)
      apply thenX
      refine ⟨rfl, ⟨m + 1, .slice p4 ((behK l m).length + 32 + l[m].db.length + (whl l[m].db.length - l[m].db.length)) c4, seg4, .slice p' ((plcK l m).length + 1) c', seg'⟩, ⟨hlt, ?_, ?_, .inr ?_⟩, by show l.length - (m + 1) < l.length - m; omega, ⟨rfl, rfl, rfl, by rw [ha1]; rfl, rfl, rfl, trivial⟩, ?_⟩
      · dsimp only
        rw [hb1, ucs_app, ← beh_cells, List.length_append, tlB_len, show (behK l m).length + (32 + whl l[m].db.length) = (behK l m).length + 32 + l[m].db.length + (whl l[m].db.length - l[m].db.length) by omega]
        exact hrow4
      · dsimp only
        rw [hp1, List.length_append, ics_app]
        exact hrow'
      · dsimp only
        rw [hb1, List.length_append, tlB_len]; omega
      · (apply List.Sublist.append_left; apply List.Sublist.cons; apply List.Sublist.cons; apply List.Sublist.cons; exact List.Sublist.refl _)
  · obtain rfl : m = l.length := by omega
    (refine CW.seq ?_; refine CW.region ?_; apply LW.v0; rfl; rfl; apply ValP.lssF; rfl; rfl; omega; apply LW.nil; refine thenN ?_; refine CW.seq ?_; apply CW.condF; rfl; (with_reducible rfl); refine CW.exit ?_; refine thenE ?_; refine thenE ?_; refine blkE rfl ?_)
    apply inI
    (exact .inr rfl)
    (exact Shut.nil)
    rfl
    (exact ResL.nil)
    rfl
    (apply LW.nil; refine thenN ?_; refine CW.seq ?_; refine CW.region ?_; apply LW.v0; rfl; rfl; apply ValP.assign; rfl; apply LW.nil; refine thenN ?_; refine CW.seq ?_; refine CW.seq ?_; refine CW.region ?_; apply LW.v0; rfl; rfl; apply ValP.move; rfl; apply LW.v0; rfl; rfl; apply ValP.lenR; rfl; infer_instance; rfl; apply LW.v0; rfl; rfl; apply ValP.move; rfl; apply LW.nil; refine thenN ?_; refine CW.block ?_)
    refine CW.loop (fun x : LX => ([(20, .int .i64 (x.k : Int)), (19, .int .i64 (l.length : Int)), (18, .slice p l.length c), (7, x.ov), (6, .pointer (some ⟨b6, 0, none⟩)), (5, .pointer (some ⟨b5, 0, none⟩))],
        x.segO ++ (segB ++ (segP ++ [(b6, .cells #[.slice qb (behK l l.length).length cb] 24 (0, 0)), (b5, .cells #[.slice x.q ((plcK l l.length).length - (plcK l x.k).length) x.c] 80 (0, 0))]))))
      (fun x => x.k ≤ l.length ∧ IsRow 5 1 x.ov (32 * x.k) (ucs (hdK l x.k)) x.segO ∧ (x.ov = .slice none 0 0 ∨ 0 < 32 * x.k) ∧ (plcK l l.length).length - (plcK l x.k).length ≤ x.c ∧ (∀ g, qp = some ⟨g, 0, none⟩ → (plcK l x.k).length < (plcK l l.length).length → x.q = some ⟨g, (plcK l x.k).length, none⟩)) (fun x => l.length - x.k) ⟨0, .slice none 0 0, [], qp, cp⟩
      ⟨Nat.zero_le _, by rw [hdK_zero]; exact .nil, .inl rfl, ?_, fun g h1 h2 => by rw [plcK_zero]; exact h1⟩ ⟨rfl, rfl, rfl, rfl, rfl, rfl, trivial⟩ ?_ ?_
    · exact Nat.le_trans (Nat.sub_le _ _) (IsRow.room hP _ _ rfl)
    · dsimp only; rw [plcK_zero]; exact List.Sublist.refl _
    rintro ⟨k, ov, segO, q, c1⟩ ⟨hk2, hO, hO0, hc1, hq⟩
    dsimp only at hk2 hO hO0 hc1 hq ⊢
    obtain ⟨po, co, rfl⟩ := hO.form
    rcases Nat.lt_or_ge k l.length with hlt | hge
    · obtain ⟨b, off, c', cs, E, fr, heq, hb, hrd0⟩ := part_rd hv k hlt
      cases heq
      have hrd : Rd Try.prog 84 (.cells cs E fr) (off + k * 6) (.agg (psa l[k])) := hrd0
      clear hrd0
      have ho := hv.one _ (List.getElem_mem hlt)
      have hwd := hv.small _ (List.getElem_mem hlt)
      have hpt := pt_eq hlt
      have hbl := beh_len hsm k
      have hpl := plc_len l k
      have hal : atF l k ≤ 100000 := by unfold atF; omega
      have hr2 : True := trivial
      cases hlg : (pt l k).lg with
      | false =>
        have hlg' : l[k].lg = false := by rw [← hpt]; exact hlg
        have hb1 := hdK_short hlg
        have hp1 := plcK_short hlg
        rw [hpt] at hb1
        have hr0 : ∀ {E fr} , Rd Try.prog 4 (.cells (psa l[k]) E fr) 0 (.bool false) := fun {E fr} => by rw [← hlg']; exact ps_rd0
        (refine CW.seq ?_; refine CW.region ?_; apply LW.v0; rfl; rfl; apply ValP.lssT; rfl; rfl; omega; apply LW.nil; refine thenN ?_; refine CW.seq ?_; apply CW.condT; rfl; (with_reducible rfl); refine CW.skip ?_; refine thenN ?_; refine CW.seq ?_; refine CW.block ?_; refine CW.seq ?_; refine CW.region ?_; apply LW.v0; rfl; rfl; apply ValP.indexAddrS; rfl; rfl; rfl; omega; apply LW.load; rfl; rfl; exact Known.ext (by assumption) (by simp); assumption; apply LW.allocA; rfl; intro _; apply LW.store; rfl; rfl; apply SetAt.head; apply ps_wrW; rfl; assumption; apply LW.nil; refine thenN ?_; refine CW.seq ?_; refine CW.seq ?_; refine CW.region ?_; apply LW.v0; rfl; rfl; apply ValP.fieldAddr; rfl; rfl; apply LW.load; rfl; rfl; apply Known.at; apply FsAt.head; exact hr0; apply LW.v0; rfl; rfl; apply ValP.notF; rfl; (with_reducible rfl); apply LW.nil; refine thenN ?_; apply CW.condT; rfl; (with_reducible rfl); refine CW.seq ?_; refine CW.region ?_; apply LW.v0; rfl; rfl; apply ValP.move; rfl; apply LW.v0; rfl; rfl; apply ValP.fieldAddr; rfl; rfl; apply LW.load; rfl; rfl; apply Known.at; apply FsAt.head; exact ps_rd1)
        refine LW.callR rfl rfl inferInstance (by (apply ArgsOk.cons; rfl; exact ArgsOk.nil)) (fun w hst => Bytes_calls _ hwd w) ?_
        intro v1 gs1 hrow1
        skip
        refine LW.appendAny (m := 32) (news := ucs (beb 32 l[k].wd)) rfl rfl inferInstance inferInstance inferInstance rfl rfl rfl (by (apply AtSeg.app; apply AtSeg.cons; exact AtSeg.head)) hO (fun w' hst => hrow1.atSeg (by (exact AtSeg.head)) hst) (ucs_cells _) (by simp only [maxLen]; omega) (by omega) ?_
        intro v2 seg2 hrow2
        refine ⟨_, (by (apply AtSeg.app; apply AtSeg.cons; exact AtSeg.head)), ?_⟩
        (apply LW.v0; rfl; rfl; apply ValP.assign; rfl; apply LW.nil; refine thenN ?_; refine CW.exit ?_; refine thenE ?_; refine blkE rfl ?_; refine thenN ?_; refine CW.region ?_; apply LW.v0; rfl; rfl; apply ValP.addZL; rfl; rfl; decide; omega; apply LW.v0; rfl; rfl; apply ValP.move; rfl; apply LW.nil)
        apply thenX
        refine ⟨rfl, ⟨k + 1, v2, seg2, q, c1⟩, ⟨hlt, ?_, .inr (by show 0 < 32 * (k + 1); omega), by rw [hp1]; exact hc1, by rw [hp1]; exact hq⟩, by show l.length - (k + 1) < l.length - k; omega, ⟨rfl, rfl, rfl, rfl, rfl, rfl, trivial⟩, ?_⟩
        · dsimp only
          rw [hb1, ucs_app, Nat.mul_succ]
          exact hrow2
        · dsimp only
          rw [hp1]
          (apply List.sublist_append_of_sublist_right; apply List.Sublist.cons; exact List.Sublist.refl _)
      | true =>
        have hlg' : l[k].lg = true := by rw [← hpt]; exact hlg
        have hb1 := hdK_long hlg
        have hp1 := plcK_long hlg
        have hr0 : ∀ {E fr} , Rd Try.prog 4 (.cells (psa l[k]) E fr) 0 (.bool true) := fun {E fr} => by rw [← hlg']; exact ps_rd0
        obtain ⟨hg1, hg2⟩ := plc_get hlt hlg
        obtain ⟨g, cur, hqp, hsegP, hn1, hm1, hs1, ht1⟩ := hP.pos (by omega)
        have hq1 := hq g hqp hg2
        subst hq1
        subst hsegP
        have hrdp : Rd Try.prog 3 (.cells cur 3 (0, 0)) ((plcK l k).length + 0 * 1) (.int .i64 (atF l k : Int)) := by
          rw [show (plcK l k).length + 0 * 1 = 0 + (plcK l k).length * 1 by omega]
          exact Rd.elem1 (g := fun b : Nat => [Value.int .i64 (b : Int)]) (by rw [List.drop_zero]; exact ht1) (ics_len _) hg1 rfl
        have hcut : cutAt (some ⟨g, (plcK l k).length, none⟩) 1 ((plcK l l.length).length - (plcK l k).length) c1 1 = .slice (if c1 = 1 then some ⟨g, (plcK l k).length, none⟩ else some ⟨g, (plcK l k).length + 1, none⟩) ((plcK l l.length).length - ((plcK l k).length + 1)) (c1 - 1) := by
          unfold cutAt
          split <;> rfl
        (refine CW.seq ?_; refine CW.region ?_; apply LW.v0; rfl; rfl; apply ValP.lssT; rfl; rfl; omega; apply LW.nil; refine thenN ?_; refine CW.seq ?_; apply CW.condT; rfl; (with_reducible rfl); refine CW.skip ?_; refine thenN ?_; refine CW.seq ?_; refine CW.block ?_; refine CW.seq ?_; refine CW.region ?_; apply LW.v0; rfl; rfl; apply ValP.indexAddrS; rfl; rfl; rfl; omega; apply LW.load; rfl; rfl; exact Known.ext (by assumption) (by simp); assumption; apply LW.allocA; rfl; intro _; apply LW.store; rfl; rfl; apply SetAt.head; apply ps_wrW; rfl; assumption; apply LW.nil; refine thenN ?_; refine CW.seq ?_; refine CW.seq ?_; refine CW.region ?_; apply LW.v0; rfl; rfl; apply ValP.fieldAddr; rfl; rfl; apply LW.load; rfl; rfl; apply Known.at; apply FsAt.head; exact hr0; apply LW.v0; rfl; rfl; apply ValP.notT; rfl; (with_reducible rfl); apply LW.nil; refine thenN ?_; apply CW.condF; rfl; (with_reducible rfl); refine CW.skip ?_; refine thenN ?_)
        apply CW.pre
        (refine AnyW.anyM [(4, fun v gs => IsRow 5 1 v 32 (ucs (beb 32 (atF l k))) gs), (5, fun v gs => IsRow 5 1 v (32 * k + 32) (ucs (hdK l k) ++ ucs (beb 32 (atF l k))) gs)] 9 mixed (by decide +kernel) ?_)
        ((try simp only [tsOf_cons, tsOf_nil, tsOf_app]); apply DW.v0; rfl; rfl; rfl; exact WantT.none; rfl; apply ValP.move; rfl; apply DW.loadO; rfl; rfl; rfl; exact WantT.none; rfl; apply TRead.tail; apply TRead.app; apply TRead.app; apply TRead.tail; apply TRead.tail; apply TRead.head; exact ancB_nil; exact Rd.one' rfl; apply DW.v0; rfl; rfl; rfl; exact WantT.none; rfl; apply ValP.indexAddrSL; rfl; rfl; decide; omega; apply DW.loadO; rfl; rfl; rfl; exact WantT.none; rfl; apply TRead.tail; apply TRead.app; apply TRead.app; apply TRead.head; exact ancB_nil; assumption)
        (apply DW.manyE; rfl; rfl; rfl; exact WantT.none; rfl; infer_instance; apply ArgsOk.cons; rfl; exact ArgsOk.nil; rfl; exact ReadAll.nil; intro w _ _)
        exact number_calls _ (by omega) w
        intro v1 gs1 hrow1
        obtain ⟨p1, c3, rfl⟩ := hrow1.form
        obtain ⟨g1, cur1, rfl, rfl, hn3, hm3, hs3, ht3⟩ := hrow1.pos (by decide)
        have hc3 : 0 < c3 := by omega
        ((try simp only [tsOf_cons, tsOf_nil, tsOf_app]))
        refine DW.appendV (news := ucs (beb 32 (atF l k))) rfl rfl rfl (by (exact WantT.none)) rfl inferInstance inferInstance inferInstance rfl rfl rfl hO hO0 (by (apply TOut.cons; apply TOut.cons; exact TOut.old)) (by (apply RdV.own; assumption; apply TRead.head; kernel_rfl; exact RdV.nil)) (fun w' hbel hus => RowAt.us hus hn3 hm3 ht3 (by rw [ucs_len, beb_len])) (ucs_cells _) (by simp only [maxLen]; omega) (by omega) ?_
        intro v2 seg2 hrow2
        obtain ⟨p2, c4, rfl⟩ := hrow2.form
        ((try simp only [tsOf_cons, tsOf_nil, tsOf_app]); apply DW.loadO; rfl; rfl; rfl; exact WantT.none; rfl; apply TRead.app; apply TRead.tail; apply TRead.tail; apply TRead.app; apply TRead.tail; apply TRead.tail; apply TRead.head; exact ancB_nil; exact Rd.one' rfl; apply DW.v0; rfl; rfl; rfl; exact WantT.none; rfl; apply ValP.cutFromL; infer_instance; infer_instance; rfl; rfl; decide; omega; apply DW.v0; rfl; rfl; rfl; exact WantT.none; rfl; apply ValP.assign; rfl; apply DW.nil; simp only [fsOf_cons, fsOf_nil, fsOf_app, fsOf_tsOf, fsOf_new, fsOf_tag])
        rw [hcut]
        (apply LW.store; rfl; rfl; apply SetAt.app; apply SetAt.tail; apply SetAt.tail; apply SetAt.app; apply SetAt.tail; apply SetAt.tail; apply SetAt.head; apply Wr.cells; rfl; rfl; simp only [List.size_toArray, List.length_cons, List.length_nil]; omega; simp only [fillC, wc, wrCells, Value.cells, List.toList_toArray, List.setIfInBounds_toArray, List.set_cons_succ, List.set_cons_zero, Nat.reduceAdd, Nat.reduceMul, Nat.zero_add, Nat.mul_one]; rfl; apply LW.nil; refine blkN ?_; refine thenN ?_; refine CW.region ?_; apply LW.v0; rfl; rfl; apply ValP.addZL; rfl; rfl; decide; omega; apply LW.v0; rfl; rfl; apply ValP.move; rfl; apply LW.nil)
        apply thenX
        refine ⟨rfl, ⟨k + 1, .slice p2 (32 * k + 32) c4, seg2, (if c1 = 1 then some ⟨g, (plcK l k).length, none⟩ else some ⟨g, (plcK l k).length + 1, none⟩), c1 - 1⟩, ⟨hlt, ?_, .inr (by show 0 < 32 * (k + 1); omega), ?_, ?_⟩, by show l.length - (k + 1) < l.length - k; omega, ⟨rfl, rfl, rfl, rfl, rfl, rfl, trivial⟩, ?_⟩
        · dsimp only
          rw [hb1, ucs_app, Nat.mul_succ]
          exact hrow2
        · dsimp only
          rw [hp1, List.length_append, List.length_singleton]; omega
        rotate_left
        · dsimp only
          rw [hp1, List.length_append, List.length_singleton]
          (apply List.Sublist.append_left; apply List.Sublist.cons; apply List.Sublist.cons; exact List.Sublist.refl _)
        · intro g' h1 h2
          dsimp only at h2 ⊢
          rw [hqp] at h1
          cases h1
          rw [hp1, List.length_append, List.length_singleton] at h2 ⊢
          rw [if_neg (by omega)]
    · obtain rfl : k = l.length := by omega
      (refine CW.seq ?_; refine CW.region ?_; apply LW.v0; rfl; rfl; apply ValP.lssF; rfl; rfl; omega; apply LW.nil; refine thenN ?_; refine CW.seq ?_; apply CW.condF; rfl; (with_reducible rfl); refine CW.exit ?_; refine thenE ?_; refine thenE ?_; refine blkE rfl ?_; refine thenN ?_; refine CW.seq ?_; refine CW.region ?_; apply LW.v0; rfl; rfl; apply ValP.move; rfl; apply LW.load; rfl; rfl; apply Known.at; apply FsAt.app; apply FsAt.app; apply FsAt.app; apply FsAt.head; exact Rd.one' rfl)
      refine LW.appendAny (m := (behK l l.length).length) (news := ucs (behK l l.length)) rfl rfl inferInstance inferInstance inferInstance rfl rfl rfl (by (exact AtSeg.head)) hO (fun w' hst => hB.atSeg (by (apply AtSeg.app; exact AtSeg.head)) hst) (ucs_cells _) (by simp only [maxLen]; have := beh_len hsm l.length; omega) (by have := beh_len hsm l.length; omega) ?_
      intro v2 seg2 hrow2
      refine ⟨_, (by (exact AtSeg.head)), ?_⟩
      (apply LW.v0; rfl; rfl; apply ValP.assign; rfl; apply LW.v0; rfl; rfl; apply ValP.assign; rfl; apply LW.nil; refine thenN ?_; refine CW.ret ?_)
      refine fin (vs := [v2, .int .i64 0]) seg2 (.inl rfl) rfl rfl (by (apply ResL.cons; exact Res.tmp rfl; apply ResL.cons; exact Res.tmp rfl; exact ResL.nil)) ?_ ⟨v2, rfl, ?_⟩
      · exact List.sublist_append_left _ _
      · rw [layF, ucs_app, List.length_append, hdK_len]
        exact hrow2
end Go.Proofs.Ytobkhnmglbfheaa

/-
  Contracts of the pack: how many bytes parts have.
  Conditions: none.
-/
namespace Go.Proofs.Ytobkhnmglbfheaa
open Go Go.RowKit SL
set_option maxRecDepth 8000
set_option maxHeartbeats 4000000
set_option linter.unusedSimpArgs false
set_option linter.unusedVariables false
attribute [local irreducible] SL.CW SL.LW SL.DW Calls SL.Ret SL.RetG SL.beginQ SL.roundQ SL.rangeQ SL.inQ SL.RW SL.AnyW SL.thenQ SL.thenC SL.thenW SL.blkQ SL.finQ SL.ValP SL.NewP SL.SetP SL.CallP SL.Rd SL.Wr SL.Known
def sizeF (l : List PartV) : Nat := if chkP l = 0 then (layF l).length else 0
theorem layF_len (l : List PartV) : (layF l).length = atF l l.length := by rw [layF, List.length_append, hdK_len, atF]
end Go.Proofs.Ytobkhnmglbfheaa

/-
  Contracts of the pack: what is left of bytes.
  Conditions: none.
-/
namespace Go.Proofs.Ytobkhnmglbfheaa
open Go Go.RowKit SL
set_option maxRecDepth 8000
set_option maxHeartbeats 4000000
set_option linter.unusedSimpArgs false
set_option linter.unusedVariables false
attribute [local irreducible] SL.CW SL.LW SL.DW Calls SL.Ret SL.RetG SL.beginQ SL.roundQ SL.rangeQ SL.inQ SL.RW SL.AnyW SL.thenQ SL.thenC SL.thenW SL.blkQ SL.finQ SL.ValP SL.NewP SL.SetP SL.CallP SL.Rd SL.Wr SL.Known
/-! ### Taking bytes -/
def tkBad (bad : Bool) (l : List UInt8) (n : Nat) : Bool := bad || decide (l.length < n)
def tkB (bad : Bool) (l : List UInt8) (n : Nat) : List UInt8 := if tkBad bad l n then [] else l.take n
def tkL (bad : Bool) (l : List UInt8) (n : Nat) : List UInt8 := if tkBad bad l n then l else l.drop n
theorem tkB_bad {bad : Bool} {l : List UInt8} {n : Nat} (h : tkBad bad l n = true) : tkB bad l n = [] := by rw [tkB, if_pos h]
theorem tkL_bad {bad : Bool} {l : List UInt8} {n : Nat} (h : tkBad bad l n = true) : tkL bad l n = l := by rw [tkL, if_pos h]
theorem tkB_ok {bad : Bool} {l : List UInt8} {n : Nat} (h : tkBad bad l n = false) : tkB bad l n = l.take n := by rw [tkB, if_neg (by simp [h])]
theorem tkL_ok {bad : Bool} {l : List UInt8} {n : Nat} (h : tkBad bad l n = false) : tkL bad l n = l.drop n := by rw [tkL, if_neg (by simp [h])]
theorem tkB_len (bad : Bool) (l : List UInt8) (n : Nat) : (tkB bad l n).length ≤ n := by
  cases h : tkBad bad l n with
  | true => rw [tkB_bad h]; exact Nat.zero_le _
  | false => rw [tkB_ok h, List.length_take]; exact Nat.min_le_left _ _
theorem cells_cut (p : Option Addr) (k n c sz : Nat) : (cutAt p k n c sz).cells = #[cutAt p k n c sz] := rfl
theorem row_taken {W : World} {l : List UInt8} {n : Nat} {p : Option Addr} {c : Nat} (h : RowAt W 1 (.slice p l.length c) l.length (ucs l)) (hn : n ≤ l.length) : RowAt W 1 (.slice p n c) (l.take n).length (ucs (l.take n)) := by
  have := h.take (k := n) hn
  rw [ucs_take] at this
  rwa [List.length_take, Nat.min_eq_left hn]
theorem row_left {W : World} {l : List UInt8} {n : Nat} {p : Option Addr} {c : Nat} (h : RowAt W 1 (.slice p l.length c) l.length (ucs l)) (hn : n ≤ l.length) : RowAt W 1 (cutAt p n l.length c 1) (l.drop n).length (ucs (l.drop n)) := by
  have := h.drop (k := n) hn
  rw [ucs_drop] at this
  rwa [List.length_drop]
theorem take_calls {W w0 : World} {S : List Nat} {b E : Nat} {lv : Value} {bad : Bool} {rs : List Value} {l : List UInt8} (hrow : RowAt W 1 lv l.length (ucs l)) (n : Nat) (hn : n ≤ 1000000000) (pre post : Fs) (w : World) (hs : St w0 S (pre ++ (b, .cells (lv :: .bool bad :: rs).toArray E (0, 0)) :: post) w) :
    Calls Try.prog 73 #[.pointer (some ⟨b, 0, none⟩), .int .i64 (n : Int)] w (fun x w' => ∃ v fs', x = .returned v ∧ (∃ lv', RowAt W 1 v (tkB bad l n).length (ucs (tkB bad l n)) ∧ RowAt W 1 lv' (tkL bad l n).length (ucs (tkL bad l n)) ∧ fs' = pre ++ (b, .cells (lv' :: .bool (tkBad bad l n) :: rs).toArray E (0, 0)) :: post) ∧ St w0 S fs' w') := by
  obtain ⟨p, c, rfl, hc, hm⟩ := hrow.form
  refine calls_inline (args := [_, _]) Try.func73 rfl Try.ntmps73 rfl ?_ hs
  cases bad with
  | true =>
    have hb : tkBad true l n = true := rfl
    rw [tkB_bad hb, tkL_bad hb, hb]
    (refine CW.seq ?_; refine CW.region ?_; apply LW.v0; rfl; rfl; apply ValP.assign; rfl; apply LW.nil; refine thenN ?_; refine CW.seq ?_; refine CW.seq ?_; refine CW.region ?_; apply LW.v0; rfl; rfl; apply ValP.move; rfl; apply LW.v0; rfl; rfl; apply ValP.nilCheck; rfl; apply LW.v0; rfl; rfl; apply ValP.fieldAddr; rfl; rfl; apply LW.load; rfl; rfl; apply Known.at; apply FsAt.app; apply FsAt.head; apply Rd.one'; rfl; apply LW.v0; rfl; rfl; apply ValP.move; rfl; apply LW.guardF'; rfl; rfl; simp only [Bool.not_true, Bool.not_false]; rfl; apply LW.guardF'; rfl; rfl; simp only [Bool.not_true, Bool.not_false]; rfl; apply LW.guardF'; rfl; rfl; simp only [Bool.not_true, Bool.not_false]; rfl; apply LW.guardF'; rfl; rfl; simp only [Bool.not_true, Bool.not_false]; rfl; apply LW.guardF'; rfl; rfl; simp only [Bool.not_true, Bool.not_false]; rfl; apply LW.guardF'; rfl; rfl; simp only [Bool.not_true, Bool.not_false]; rfl; apply LW.guardF'; rfl; rfl; simp only [Bool.not_true, Bool.not_false]; rfl; apply LW.v0; rfl; rfl; apply ValP.pickT'; rfl; (with_reducible rfl); rfl; apply LW.nil; refine thenN ?_; apply CW.condT; rfl; (with_reducible rfl); refine CW.seq ?_; refine CW.region ?_; apply LW.v0; rfl; rfl; apply ValP.move; rfl; apply LW.v0; rfl; rfl; apply ValP.nilCheck; rfl; apply LW.v0; rfl; rfl; apply ValP.fieldAddr; rfl; rfl; apply LW.store; rfl; rfl; apply SetAt.app; apply SetAt.head; apply Wr.cells; rfl; rfl; simp only [List.size_toArray, List.length_cons, List.length_nil]; omega; simp only [cells_cut, wrCells, List.setIfInBounds_toArray, List.set_cons_succ, List.set_cons_zero, Nat.reduceAdd, Nat.zero_add]; rfl; apply LW.nil; refine thenN ?_; refine CW.seq ?_; refine CW.region ?_; apply LW.v0; rfl; rfl; apply ValP.assign; rfl; apply LW.nil; refine thenN ?_; refine CW.ret ?_; refine thenR ?_)
    apply inI
    (exact .inl rfl)
    (exact Shut.nil)
    rfl
    (apply ResL.cons; exact Res.tmp rfl; exact ResL.nil)
    rfl
    exact ⟨_, RowAt.nil, hrow, rfl⟩
  | false =>
    rcases Nat.lt_or_ge l.length n with hlt | hge
    · have hb : tkBad false l n = true := by simp [tkBad, hlt]
      rw [tkB_bad hb, tkL_bad hb, hb]
      (refine CW.seq ?_; refine CW.region ?_; apply LW.v0; rfl; rfl; apply ValP.assign; rfl; apply LW.nil; refine thenN ?_; refine CW.seq ?_; refine CW.seq ?_; refine CW.region ?_; apply LW.v0; rfl; rfl; apply ValP.move; rfl; apply LW.v0; rfl; rfl; apply ValP.nilCheck; rfl; apply LW.v0; rfl; rfl; apply ValP.fieldAddr; rfl; rfl; apply LW.load; rfl; rfl; apply Known.at; apply FsAt.app; apply FsAt.head; apply Rd.one'; rfl; apply LW.v0; rfl; rfl; apply ValP.move; rfl; apply LW.guardT'; rfl; rfl; (with_reducible rfl); apply LW.v0; rfl; rfl; apply ValP.move; rfl; apply LW.guardT'; rfl; rfl; (with_reducible rfl); apply LW.v0; rfl; rfl; apply ValP.move; rfl; apply LW.guardT'; rfl; rfl; (with_reducible rfl); apply LW.v0; rfl; rfl; apply ValP.nilCheck; rfl; apply LW.guardT'; rfl; rfl; (with_reducible rfl); apply LW.v0; rfl; rfl; apply ValP.fieldAddr; rfl; rfl; apply LW.guardT'; rfl; rfl; (with_reducible rfl); apply LW.load; rfl; rfl; apply Known.at; apply FsAt.app; apply FsAt.head; apply Rd.one'; rfl; apply LW.guardT'; rfl; rfl; (with_reducible rfl); apply LW.v0; rfl; rfl; apply ValP.lenR; rfl; infer_instance; rfl; apply LW.guardT'; rfl; rfl; (with_reducible rfl); apply LW.v0; rfl; rfl; apply ValP.gtrT; rfl; rfl; omega; apply LW.v0; rfl; rfl; apply ValP.pickF'; rfl; (with_reducible rfl); rfl; apply LW.nil; refine thenN ?_; apply CW.condT; rfl; (with_reducible rfl); refine CW.seq ?_; refine CW.region ?_; apply LW.v0; rfl; rfl; apply ValP.move; rfl; apply LW.v0; rfl; rfl; apply ValP.nilCheck; rfl; apply LW.v0; rfl; rfl; apply ValP.fieldAddr; rfl; rfl; apply LW.store; rfl; rfl; apply SetAt.app; apply SetAt.head; apply Wr.cells; rfl; rfl; simp only [List.size_toArray, List.length_cons, List.length_nil]; omega; simp only [cells_cut, wrCells, List.setIfInBounds_toArray, List.set_cons_succ, List.set_cons_zero, Nat.reduceAdd, Nat.zero_add]; rfl; apply LW.nil; refine thenN ?_; refine CW.seq ?_; refine CW.region ?_; apply LW.v0; rfl; rfl; apply ValP.assign; rfl; apply LW.nil; refine thenN ?_; refine CW.ret ?_; refine thenR ?_)
      apply inI
      (exact .inl rfl)
      (exact Shut.nil)
      rfl
      (apply ResL.cons; exact Res.tmp rfl; exact ResL.nil)
      rfl
      exact ⟨_, RowAt.nil, hrow, rfl⟩
    · have hb : tkBad false l n = false := by simp [tkBad, hge]
      rw [tkB_ok hb, tkL_ok hb, hb]
      (refine CW.seq ?_; refine CW.region ?_; apply LW.v0; rfl; rfl; apply ValP.assign; rfl; apply LW.nil; refine thenN ?_; refine CW.seq ?_; refine CW.seq ?_; refine CW.region ?_; apply LW.v0; rfl; rfl; apply ValP.move; rfl; apply LW.v0; rfl; rfl; apply ValP.nilCheck; rfl; apply LW.v0; rfl; rfl; apply ValP.fieldAddr; rfl; rfl; apply LW.load; rfl; rfl; apply Known.at; apply FsAt.app; apply FsAt.head; apply Rd.one'; rfl; apply LW.v0; rfl; rfl; apply ValP.move; rfl; apply LW.guardT'; rfl; rfl; (with_reducible rfl); apply LW.v0; rfl; rfl; apply ValP.move; rfl; apply LW.guardT'; rfl; rfl; (with_reducible rfl); apply LW.v0; rfl; rfl; apply ValP.move; rfl; apply LW.guardT'; rfl; rfl; (with_reducible rfl); apply LW.v0; rfl; rfl; apply ValP.nilCheck; rfl; apply LW.guardT'; rfl; rfl; (with_reducible rfl); apply LW.v0; rfl; rfl; apply ValP.fieldAddr; rfl; rfl; apply LW.guardT'; rfl; rfl; (with_reducible rfl); apply LW.load; rfl; rfl; apply Known.at; apply FsAt.app; apply FsAt.head; apply Rd.one'; rfl; apply LW.guardT'; rfl; rfl; (with_reducible rfl); apply LW.v0; rfl; rfl; apply ValP.lenR; rfl; infer_instance; rfl; apply LW.guardT'; rfl; rfl; (with_reducible rfl); apply LW.v0; rfl; rfl; apply ValP.gtrF; rfl; rfl; omega; apply LW.v0; rfl; rfl; apply ValP.pickF'; rfl; (with_reducible rfl); rfl; apply LW.nil; refine thenN ?_; apply CW.condF; rfl; (with_reducible rfl); refine CW.skip ?_; refine thenN ?_; refine CW.seq ?_; refine CW.region ?_; apply LW.v0; rfl; rfl; apply ValP.move; rfl; apply LW.v0; rfl; rfl; apply ValP.nilCheck; rfl; apply LW.v0; rfl; rfl; apply ValP.fieldAddr; rfl; rfl; apply LW.load; rfl; rfl; apply Known.at; apply FsAt.app; apply FsAt.head; apply Rd.one'; rfl; apply LW.v0; rfl; rfl; apply ValP.move; rfl; apply LW.v0; rfl; rfl; apply ValP.cutTo; infer_instance; infer_instance; rfl; rfl; omega; apply LW.v0; rfl; rfl; apply ValP.assign; rfl; apply LW.nil; refine thenN ?_; refine CW.seq ?_; refine CW.region ?_; apply LW.v0; rfl; rfl; apply ValP.move; rfl; apply LW.v0; rfl; rfl; apply ValP.move; rfl; apply LW.v0; rfl; rfl; apply ValP.nilCheck; rfl; apply LW.v0; rfl; rfl; apply ValP.fieldAddr; rfl; rfl; apply LW.load; rfl; rfl; apply Known.at; apply FsAt.app; apply FsAt.head; apply Rd.one'; rfl; apply LW.v0; rfl; rfl; apply ValP.move; rfl; apply LW.v0; rfl; rfl; apply ValP.cutFrom; infer_instance; infer_instance; rfl; rfl; omega; apply LW.v0; rfl; rfl; apply ValP.nilCheck; rfl; apply LW.v0; rfl; rfl; apply ValP.fieldAddr; rfl; rfl; apply LW.store; rfl; rfl; apply SetAt.app; apply SetAt.head; apply Wr.cells; rfl; rfl; simp only [List.size_toArray, List.length_cons, List.length_nil]; omega; simp only [cells_cut, wrCells, List.setIfInBounds_toArray, List.set_cons_succ, List.set_cons_zero, Nat.reduceAdd, Nat.zero_add]; rfl; apply LW.nil; refine thenN ?_; refine CW.seq ?_; refine CW.region ?_; apply LW.v0; rfl; rfl; apply ValP.move; rfl; apply LW.v0; rfl; rfl; apply ValP.assign; rfl; apply LW.nil; refine thenN ?_; refine CW.ret ?_)
      apply inI
      (exact .inl rfl)
      (exact Shut.nil)
      rfl
      (apply ResL.cons; exact Res.tmp rfl; exact ResL.nil)
      rfl
      exact ⟨_, row_taken hrow hge, row_left hrow hge, rfl⟩
theorem calls_sub {P : Program} {f : FuncId} {args : Array Value} {w w0 : World} {S : List Nat} {K : Value → Fs → Prop} (h : Calls P f args w (fun x w' => ∃ v fs', x = .returned v ∧ (∃ fs2, List.Sublist fs2 fs' ∧ K v fs2) ∧ St w0 S fs' w')) :
    Calls P f args w (fun x w' => ∃ v fs', x = .returned v ∧ K v fs' ∧ St w0 S fs' w') :=
  Calls.mono h fun x w' ⟨v, fs', hx, ⟨fs2, hf, hK⟩, hs⟩ => ⟨v, fs2, hx, hK, hs.bel, fun p hp => hs.own p (hf.subset hp), hs.nd.sublist hf⟩
theorem atSeg_one {b : Nat} {o : Obj} {post : Fs} : AtSeg ((b, o) :: post) [] [(b, o)] post := AtSeg.head (seg := [(b, o)])
section lw
variable {w0 : World} {S : List Nat} {N : Nat} {ds : List Deferred} {r : Option Nat} {ops : Array Oper} {Q : Post} {rest : List Oper} {e : Env} {fs : Fs} {d : Nat} {t : TypeId} {pos : String} {af : Array Edge}
/-- A call of take. -/
theorem LW.takeR {fo : Operand} {args : Array Operand} {tys : Array TypeId} {W : World} {b E n : Nat} {lv : Value} {bad : Bool} {rs : List Value} {l : List UInt8} {pre post : Fs} (hd : Nat.blt d N = true) (hf : e.ev fo = some (.func (.func 73) #[] #[])) (ha : ArgsOk e args.toList [.pointer (some ⟨b, 0, none⟩), .int .i64 (n : Int)])
    (hrow : RowAt W 1 lv l.length (ucs l)) (hn : n ≤ 1000000000) (hseg : AtSeg fs pre [(b, .cells (lv :: .bool bad :: rs).toArray E (0, 0))] post)
    (k : ∀ v lv', RowAt W 1 v (tkB bad l n).length (ucs (tkB bad l n)) → RowAt W 1 lv' (tkL bad l n).length (ucs (tkL bad l n)) → ∃ fs', AtSeg fs' pre [(b, .cells (lv' :: .bool (tkBad bad l n) :: rs).toArray E (0, 0))] post ∧ LW ⟨Try.prog, w0, S, N, ds, r⟩ ops Q rest ((d, v) :: e) fs') :
    LW ⟨Try.prog, w0, S, N, ds, r⟩ ops Q (⟨some d, .call { callee := .value fo, args := args, argTypes := tys }, t, pos, af, none⟩ :: rest) e fs := by
  refine LW.callSt (C := ⟨Try.prog, w0, S, N, ds, r⟩) hd hf inferInstance ha (fun w hs => take_calls hrow n hn pre post w (by have h := hs; rw [hseg.eq] at h; exact h)) ?_
  rintro v fs' ⟨lv', h1, h2, rfl⟩
  obtain ⟨fs2, h3, h4⟩ := k v lv' h1 h2
  rw [h3.eq] at h4
  exact h4
end lw
theorem word_calls {w0 : World} {b E : Nat} {lv : Value} {bad : Bool} {rs : List Value} {l : List UInt8} (hrow : RowAt w0 1 lv l.length (ucs l)) (pre post : Fs) (w : World) (hs : St w0 [] (pre ++ (b, .cells (lv :: .bool bad :: rs).toArray E (0, 0)) :: post) w) :
    Calls Try.prog 71 #[.pointer (some ⟨b, 0, none⟩)] w (fun x w' => ∃ v fs', x = .returned v ∧ (v = wv (bev (tkB bad l 32)) ∧ ∃ lv', RowAt w0 1 lv' (tkL bad l 32).length (ucs (tkL bad l 32)) ∧ fs' = pre ++ (b, .cells (lv' :: .bool (tkBad bad l 32) :: rs).toArray E (0, 0)) :: post) ∧ St w0 [] fs' w') := by
  refine calls_sub ?_
  refine calls_inline (args := [_]) Try.func71 rfl Try.ntmps71 rfl ?_ hs
  (refine CW.seq ?_; refine CW.region ?_; apply LW.allocW; rfl; intro _; apply LW.nil; refine thenN ?_; refine CW.seq ?_; refine CW.region ?_; apply LW.v0; rfl; rfl; apply ValP.move; rfl)
  refine LW.takeR (n := 32) rfl rfl (by (apply ArgsOk.cons; rfl; apply ArgsOk.cons; rfl; exact ArgsOk.nil)) hrow (by omega) (by (apply AtSeg.cons; apply AtSeg.app; exact atSeg_one)) ?_
  intro v lv' hv hl
  refine ⟨_, (by (apply AtSeg.cons; apply AtSeg.app; exact AtSeg.head)), ?_⟩
  (apply LW.callE; rfl; rfl; infer_instance; apply ArgsOk.cons; rfl; exact ArgsOk.nil; intro w _; exact Read_calls v _ w (hv.st (by assumption)) (tkB_len _ _ _); apply LW.v0; rfl; rfl; apply ValP.move; rfl; apply LW.v0; rfl; rfl; apply ValP.extractN; rfl; rfl; apply LW.v0; rfl; rfl; apply ValP.extractN; rfl; rfl; apply LW.allocW; rfl; intro _; apply LW.store; rfl; rfl; apply SetAt.head; apply Wr.whole; rfl; rfl; rfl; apply LW.v0; rfl; rfl; apply ValP.assign; rfl; apply LW.nil; refine thenN ?_; refine CW.seq ?_; refine CW.region ?_; apply LW.load; rfl; rfl; apply Known.at; apply FsAt.head; exact Rd.whole rfl; apply LW.store; rfl; rfl; apply SetAt.tail; apply SetAt.head; apply Wr.whole; rfl; rfl; rfl; apply LW.nil; refine thenN ?_; refine CW.ret ?_)
  apply inI
  (exact .inl rfl)
  (exact Shut.nil)
  rfl
  (apply ResL.cons; apply Res.cell; rfl; apply Known.at; apply FsAt.tail; apply FsAt.head; exact Rd.whole rfl; exact ResL.nil)
  rfl
  exact ⟨_, List.Sublist.cons _ (List.Sublist.cons _ (List.Sublist.refl _)), rfl, _, hl, rfl⟩
/-- A call of word. -/
theorem LW.wordR {w0 : World} {N : Nat} {ds : List Deferred} {r : Option Nat} {ops : Array Oper} {Q : Post} {rest : List Oper} {e : Env} {fs : Fs} {d : Nat} {t : TypeId} {pos : String} {af : Array Edge} {fo : Operand} {args : Array Operand} {tys : Array TypeId} {b E : Nat} {lv : Value} {bad : Bool} {rs : List Value} {l : List UInt8} {pre post : Fs}
    (hd : Nat.blt d N = true) (hf : e.ev fo = some (.func (.func 71) #[] #[])) (ha : ArgsOk e args.toList [.pointer (some ⟨b, 0, none⟩)])
    (hrow : RowAt w0 1 lv l.length (ucs l)) (hseg : AtSeg fs pre [(b, .cells (lv :: .bool bad :: rs).toArray E (0, 0))] post)
    (k : ∀ lv', RowAt w0 1 lv' (tkL bad l 32).length (ucs (tkL bad l 32)) → ∃ fs', AtSeg fs' pre [(b, .cells (lv' :: .bool (tkBad bad l 32) :: rs).toArray E (0, 0))] post ∧ LW ⟨Try.prog, w0, [], N, ds, r⟩ ops Q rest ((d, wv (bev (tkB bad l 32))) :: e) fs') :
    LW ⟨Try.prog, w0, [], N, ds, r⟩ ops Q (⟨some d, .call { callee := .value fo, args := args, argTypes := tys }, t, pos, af, none⟩ :: rest) e fs := by
  refine LW.callSt (C := ⟨Try.prog, w0, [], N, ds, r⟩) hd hf inferInstance ha (fun w hs => word_calls hrow pre post w (by have h := hs; rw [hseg.eq] at h; exact h)) ?_
  rintro v fs' ⟨rfl, lv', h2, rfl⟩
  obtain ⟨fs2, h3, h4⟩ := k lv' h2
  rw [h3.eq] at h4
  exact h4
end Go.Proofs.Ytobkhnmglbfheaa
