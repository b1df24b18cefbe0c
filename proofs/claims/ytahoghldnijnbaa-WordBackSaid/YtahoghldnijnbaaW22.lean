/-
  Words moved up and down: the walks.
  Conditions: none.
-/
import Derived.Test.YtahoghldnijnbaaW20
namespace Go.Proofs.Ytahoghldnijnbaa
open Go Go.RowKit SL
set_option maxRecDepth 8000
set_option maxHeartbeats 4000000
set_option linter.unusedSimpArgs false
set_option linter.unusedVariables false
attribute [local irreducible] SL.CW SL.LW SL.DW Calls SL.Ret SL.RetG SL.beginQ SL.roundQ SL.rangeQ SL.inQ SL.RW SL.AnyW SL.thenQ SL.thenC SL.thenW SL.blkQ SL.finQ SL.ValP SL.NewP SL.SetP SL.CallP SL.Rd SL.Wr SL.Known
theorem limb_rd (a j : Nat) (h : j < 4) {E : TypeId} {fr : Nat × Nat} : Rd Try.prog 22 (.cells (wc a) E fr) (0 + j * 1) (.int .u64 ((limb a j : Nat) : Int)) :=
  Rd.one (by rw [Nat.zero_add, Nat.mul_one]; have := nth_limb a j h; rw [nth_eq] at this; simpa using this)
theorem limb_wr (X i v1 v2 : Nat) (hi : i < 4) (hX : X + 18446744073709551615 * 2 ^ (64 * i) < M256) (h1 : v1 < 18446744073709551616) (h2 : v2 < 18446744073709551616) (hz : limb X i = 0) {E : TypeId} :
    Wr Try.prog 22 (.cells (wc (X + v1 * 2 ^ (64 * i))) E (0, 0)) (0 + i * 1) (.int .u64 ((v2 : Nat) : Int)) (.cells (wc (X + v2 * 2 ^ (64 * i))) E (0, 0)) :=
  Wr.cells rfl rfl (by show 0 + i * 1 + 1 ≤ 4; omega) (by
    rw [Nat.zero_add, Nat.mul_one, ← wc_setlimb X i v1 v2 hi hX h1 h2 hz]
    apply Array.toList_inj.1
    simp [wrCells, Value.cells])
theorem limb_zero (Y k : Nat) : limb (Y * 2 ^ (64 * (k + 1))) k = 0 := by
  unfold limb
  rw [Nat.mul_add, Nat.mul_one, Nat.pow_add, ← Nat.mul_assoc, Nat.mul_right_comm, Nat.mul_div_cancel _ (pow_pos2 _), show (2 : Nat) ^ 64 = 18446744073709551616 from rfl, Nat.mul_mod_left]
theorem limb_put (X k v : Nat) (hz : limb X k = 0) (hv : v < 18446744073709551616) : limb (X + v * 2 ^ (64 * k)) k = v := by
  unfold limb at *
  rw [Nat.add_mul_div_right _ _ (pow_pos2 _), Nat.add_mod, hz, Nat.zero_add, Nat.mod_mod, Nat.mod_eq_of_lt hv]
theorem top_lt (N k : Nat) (hk : k < 4) (hN : N < M256) : N / 2 ^ (64 * (k + 1)) * 2 ^ (64 * (k + 1)) + 18446744073709551615 * 2 ^ (64 * k) < M256 := by
  simp only [M256] at *
  rcases (show k = 0 ∨ k = 1 ∨ k = 2 ∨ k = 3 by omega) with rfl | rfl | rfl | rfl <;> simp only [Nat.reduceAdd, Nat.reduceMul, Nat.reducePow, Nat.mul_zero, Nat.pow_zero] <;> omega
theorem dvd_low (L r : Nat) (hr : r < 64) : 2 ^ r ∣ L * 2 ^ r % 18446744073709551616 := by
  rw [← show 2 ^ (64 - r) * 2 ^ r = 18446744073709551616 by rw [← Nat.pow_add, show 64 - r + r = 64 by omega], Nat.mul_mod_mul_right]
  exact ⟨_, Nat.mul_comm _ _⟩
theorem Shl_calls (a n : Nat) (ha : a < M256) (hn : n < M256) (w : World) : Calls Try.prog 43 #[wv a, wv n] w (Ret w (wv (a * 2 ^ min n 256 % M256))) := by
  refine enter (args := [_, _]) _ [] [] Try.func43 rfl Try.ntmps43 rfl (by simp) .nil ?_
  (refine CW.seq ?_; refine CW.region ?_; apply LW.boxA; rfl; rfl; intro _; apply LW.boxA; rfl; rfl; intro _; apply LW.allocW; rfl; intro _; apply LW.nil; refine thenN ?_; refine CW.seq ?_; refine CW.region ?_; apply LW.allocW; rfl; intro _; apply LW.nil; refine thenN ?_; refine CW.seq ?_; apply CW.pre; refine AnyW.any 7 mixed (by decide +kernel) ?_; (try simp only [tsOf_cons, tsOf_nil, tsOf_app]); apply DW.loadO; rfl; rfl; rfl; exact WantT.none; rfl; apply TRead.tail; apply TRead.tail; apply TRead.head; exact ancB_nil; exact Rd.whole rfl; apply DW.callE; rfl; rfl; rfl; exact WantT.none; rfl; infer_instance; apply ArgsOk.cons; rfl; exact ArgsOk.nil; rfl; exact ReadAll.nil; intro w _ _; refine moves_calls _ ?_ w; assumption; apply DW.v0; rfl; rfl; rfl; exact WantT.none; rfl; apply ValP.quoZL; rfl; rfl; decide; omega; omega; apply DW.loadO; rfl; rfl; rfl; exact WantT.none; rfl; apply TRead.tail; apply TRead.tail; apply TRead.head; exact ancB_nil; exact Rd.whole rfl; apply DW.callE; rfl; rfl; rfl; exact WantT.none; rfl; infer_instance; apply ArgsOk.cons; rfl; exact ArgsOk.nil; rfl; exact ReadAll.nil; intro w _ _; refine moves_calls _ ?_ w; assumption; apply DW.v0; rfl; rfl; rfl; exact WantT.none; rfl; apply ValP.remZL; rfl; rfl; decide; omega; apply DW.v0; rfl; rfl; rfl; exact WantT.none; rfl; apply ValP.assign; rfl; apply DW.nil; simp only [fsOf_cons, fsOf_nil, fsOf_app, fsOf_tsOf, fsOf_new]; apply LW.v0; rfl; rfl; apply ValP.assign; rfl; apply LW.nil; refine thenN ?_; refine CW.seq ?_; refine CW.seq ?_; refine CW.region ?_; apply LW.v0; rfl; rfl; apply ValP.assign; rfl; apply LW.nil; refine thenN ?_; refine CW.block ?_)
  rename_i ba b3 b4 b5
  obtain ⟨s, hs⟩ : ∃ s, s = min n 256 := ⟨_, rfl⟩
  rw [← hs]
  have hs256 : s ≤ 256 := by omega
  obtain ⟨q, hq⟩ : ∃ q, q = s / 64 := ⟨_, rfl⟩
  obtain ⟨r, hr⟩ : ∃ r, r = s % 64 := ⟨_, rfl⟩
  rw [← hq, ← hr]
  have hr64 : r < 64 := by omega
  have hs2 : s = r + 64 * q := by omega
  obtain ⟨N, hN⟩ : ∃ N, N = a * 2 ^ s % M256 := ⟨_, rfl⟩
  rw [← hN]
  have hNM : N < M256 := by rw [hN]; exact Nat.mod_lt _ (by decide)
  have hlimb : ∀ j, q + j < 4 → limb N (q + j) = limb (a * 2 ^ r) j := fun j hj => by
    rw [hN, limb_mod _ _ hj, hs2, Nat.pow_add, ← Nat.mul_assoc, limb_mul]
  refine CW.loop (fun m : Nat => ([(8, .int .i64 ((m : Int) - 1)), (7, .int .i64 (r : Int)), (6, .int .i64 (q : Int)), (5, .pointer (some ⟨b5, 0, none⟩)), (4, .pointer (some ⟨b4, 0, none⟩)), (2, .pointer (some ⟨ba, 0, none⟩))],
      [(b5, .cells (wc (N / 2 ^ (64 * m) * 2 ^ (64 * m))) 24 (0, 0)), (b4, .cells (wc 0) 24 (0, 0)), (b3, .cells (wc n) 24 (0, 0)), (ba, .cells (wc a) 24 (0, 0))]))
    (fun m => m ≤ 4 ∧ q ≤ m) (fun m => m) 4 ⟨Nat.le_refl _, by omega⟩ ⟨rfl, rfl, rfl, rfl, rfl, rfl, trivial⟩ ?_ ?_
  · rw [show N / 2 ^ (64 * 4) = 0 from Nat.div_eq_of_lt hNM, Nat.zero_mul]; exact List.Sublist.refl _
  · rintro m ⟨hm4, hqm⟩
    dsimp only
    rcases Nat.lt_or_ge q m with hlt | hge
    · obtain ⟨k, rfl⟩ : ∃ k, m = k + 1 := ⟨m - 1, by omega⟩
      have e0 : (((k + 1 : Nat) : Int) - 1) = (k : Int) := by omega
      rw [e0]
      obtain ⟨X, hX⟩ : ∃ X, X = N / 2 ^ (64 * (k + 1)) * 2 ^ (64 * (k + 1)) := ⟨_, rfl⟩
      have hz : limb X k = 0 := by rw [hX]; exact limb_zero _ k
      have hXM : X + 18446744073709551615 * 2 ^ (64 * k) < M256 := by rw [hX]; exact top_lt N k (by omega) hNM
      have htop := limb_top N k
      rw [← hX] at htop
      rw [← hX]
      have hv1 : limb a (k - q) * 2 ^ r % 18446744073709551616 < 18446744073709551616 := Nat.mod_lt _ (by decide)
      have hrd1 := limb_rd a (k - q) (by omega) (E := 24) (fr := (0, 0))
      have hW1 := limb_wr X k 0 (limb a (k - q) * 2 ^ r % 18446744073709551616) (by omega) hXM (by decide) hv1 hz (E := 24)
      rw [Nat.zero_mul, Nat.add_zero] at hW1
      rcases Nat.lt_or_ge q k with hqk | hqk
      · obtain ⟨j, hj⟩ : ∃ j, k - q = j + 1 := ⟨k - q - 1, by omega⟩
        have hl := hlimb (j + 1) (by omega)
        rw [show q + (j + 1) = k by omega] at hl
        obtain ⟨s1, s2⟩ := limb_shift a r j hr64
        rw [← hl, ← hj] at s1
        rcases Nat.eq_zero_or_pos r with hr0 | hr0
        · have hl0 : limb a j / 2 ^ (64 - r) = 0 := by rw [hr0]; exact Nat.div_eq_of_lt (limb_lt a j)
          rw [hl0, Nat.add_zero] at s1
          (refine CW.seq ?_; refine CW.seq ?_; refine CW.region ?_; apply LW.v0; rfl; rfl; apply ValP.move; rfl; apply LW.v0; rfl; rfl; apply ValP.move; rfl; apply LW.v0; rfl; rfl; apply ValP.geqT; rfl; rfl; omega; apply LW.nil; refine thenN ?_; apply CW.condT; rfl; (with_reducible rfl); refine CW.skip ?_; refine thenN ?_; refine CW.seq ?_; refine CW.block ?_; refine CW.seq ?_; refine CW.region ?_; apply LW.v0; rfl; rfl; apply ValP.move; rfl; apply LW.v0; rfl; rfl; apply ValP.move; rfl; apply LW.v0; rfl; rfl; apply ValP.move; rfl; apply LW.v0; rfl; rfl; apply ValP.subZ; rfl; rfl; omega; omega; apply LW.v0; rfl; rfl; apply ValP.indexAddrA; rfl; rfl; rfl; omega; apply LW.load; rfl; rfl; apply Known.at; apply FsAt.tail; apply FsAt.tail; apply FsAt.tail; apply FsAt.head; assumption; apply LW.v0; rfl; rfl; apply ValP.move; rfl; apply LW.v0; rfl; rfl; apply ValP.shlU; rfl; rfl; omega; apply LW.v0; rfl; rfl; apply ValP.indexAddrA; rfl; rfl; rfl; omega; apply LW.store; rfl; rfl; apply SetAt.head; assumption; apply LW.nil; refine thenN ?_; refine CW.seq ?_; refine CW.region ?_; apply LW.v0; rfl; rfl; apply ValP.move; rfl; apply LW.v0; rfl; rfl; apply ValP.move; rfl; apply LW.v0; rfl; rfl; apply ValP.gtrT; rfl; rfl; omega; apply LW.v0; rfl; rfl; apply ValP.move; rfl; apply LW.guardT'; rfl; rfl; (with_reducible rfl); apply LW.v0; rfl; rfl; apply ValP.move; rfl; apply LW.guardT'; rfl; rfl; (with_reducible rfl); apply LW.v0; rfl; rfl; apply ValP.gtrF; rfl; rfl; omega; apply LW.v0; rfl; rfl; apply ValP.pickT'; rfl; (with_reducible rfl); rfl; apply LW.nil; refine thenN ?_; apply CW.condF; rfl; (with_reducible rfl); refine CW.skip ?_; refine blkN ?_; refine thenN ?_; refine CW.region ?_; apply LW.v0; rfl; rfl; apply ValP.move; rfl; apply LW.v0; rfl; rfl; apply ValP.subZL; rfl; rfl; decide; omega; omega; apply LW.v0; rfl; rfl; apply ValP.assign; rfl; apply LW.nil)
          apply thenX
          refine ⟨rfl, k, ⟨by omega, by omega⟩, Nat.lt_succ_self k, ⟨congrArg (fun z => some (Value.int .i64 z)) (show ((k - 1 : Nat) : Int) = (k : Int) - 1 by omega), rfl, rfl, rfl, rfl, rfl, trivial⟩, ?_⟩
          rw [htop, s1]
          exact List.Sublist.refl _
        · have hrd2 := limb_rd (X + limb a (k - q) * 2 ^ r % 18446744073709551616 * 2 ^ (64 * k)) k (by omega) (E := 24) (fr := (0, 0))
          rw [limb_put X k _ hz hv1] at hrd2
          have hrd3 := limb_rd a (k - q - 1) (by omega) (E := 24) (fr := (0, 0))
          have ht0 : limb a (k - q - 1) / 2 ^ (64 - r) < 18446744073709551616 := div64 (limb_lt _ _)
          have hor : (limb a (k - q) * 2 ^ r % 18446744073709551616 ||| limb a (k - q - 1) / 2 ^ (64 - r)) = limb N k := by
            rw [s1, show k - q - 1 = j by omega]
            exact or_low rfl (dvd_low _ _ hr64) s2
          have hW2 := limb_wr X k (limb a (k - q) * 2 ^ r % 18446744073709551616) (limb a (k - q) * 2 ^ r % 18446744073709551616 ||| limb a (k - q - 1) / 2 ^ (64 - r)) (by omega) hXM hv1 (by rw [hor]; exact limb_lt _ _) hz (E := 24)
          (refine CW.seq ?_; refine CW.seq ?_; refine CW.region ?_; apply LW.v0; rfl; rfl; apply ValP.move; rfl; apply LW.v0; rfl; rfl; apply ValP.move; rfl; apply LW.v0; rfl; rfl; apply ValP.geqT; rfl; rfl; omega; apply LW.nil; refine thenN ?_; apply CW.condT; rfl; (with_reducible rfl); refine CW.skip ?_; refine thenN ?_; refine CW.seq ?_; refine CW.block ?_; refine CW.seq ?_; refine CW.region ?_; apply LW.v0; rfl; rfl; apply ValP.move; rfl; apply LW.v0; rfl; rfl; apply ValP.move; rfl; apply LW.v0; rfl; rfl; apply ValP.move; rfl; apply LW.v0; rfl; rfl; apply ValP.subZ; rfl; rfl; omega; omega; apply LW.v0; rfl; rfl; apply ValP.indexAddrA; rfl; rfl; rfl; omega; apply LW.load; rfl; rfl; apply Known.at; apply FsAt.tail; apply FsAt.tail; apply FsAt.tail; apply FsAt.head; assumption; apply LW.v0; rfl; rfl; apply ValP.move; rfl; apply LW.v0; rfl; rfl; apply ValP.shlU; rfl; rfl; omega; apply LW.v0; rfl; rfl; apply ValP.indexAddrA; rfl; rfl; rfl; omega; apply LW.store; rfl; rfl; apply SetAt.head; assumption; apply LW.nil; refine thenN ?_; refine CW.seq ?_; refine CW.region ?_; apply LW.v0; rfl; rfl; apply ValP.move; rfl; apply LW.v0; rfl; rfl; apply ValP.move; rfl; apply LW.v0; rfl; rfl; apply ValP.gtrT; rfl; rfl; omega; apply LW.v0; rfl; rfl; apply ValP.move; rfl; apply LW.guardT'; rfl; rfl; (with_reducible rfl); apply LW.v0; rfl; rfl; apply ValP.move; rfl; apply LW.guardT'; rfl; rfl; (with_reducible rfl); apply LW.v0; rfl; rfl; apply ValP.gtrT; rfl; rfl; omega; apply LW.v0; rfl; rfl; apply ValP.pickT'; rfl; (with_reducible rfl); rfl; apply LW.nil; refine thenN ?_; apply CW.condT; rfl; (with_reducible rfl); apply CW.pre; refine AnyW.any 12 mixed (by decide +kernel) ?_; (try simp only [tsOf_cons, tsOf_nil, tsOf_app]); apply DW.v0; rfl; rfl; rfl; exact WantT.none; rfl; apply ValP.move; rfl; apply DW.v0; rfl; rfl; rfl; exact WantT.none; rfl; apply ValP.indexAddrA; rfl; rfl; rfl; omega; apply DW.loadO; rfl; rfl; rfl; exact WantT.none; rfl; apply TRead.head; exact ancB_nil; assumption; apply DW.v0; rfl; rfl; rfl; exact WantT.none; rfl; apply ValP.move; rfl; apply DW.v0; rfl; rfl; rfl; exact WantT.none; rfl; apply ValP.move; rfl; apply DW.v0; rfl; rfl; rfl; exact WantT.none; rfl; apply ValP.subZ; rfl; rfl; omega; omega; apply DW.v0; rfl; rfl; rfl; exact WantT.none; rfl; apply ValP.subZL; rfl; rfl; decide; omega; omega; apply DW.v0; rfl; rfl; rfl; exact WantT.none; rfl; apply ValP.indexAddrA; rfl; rfl; rfl; omega; apply DW.loadO; rfl; rfl; rfl; exact WantT.none; rfl; apply TRead.tail; apply TRead.tail; apply TRead.tail; apply TRead.head; exact ancB_nil; assumption; apply DW.v0; rfl; rfl; rfl; exact WantT.none; rfl; apply ValP.move; rfl; apply DW.v0; rfl; rfl; rfl; exact WantT.none; rfl; apply ValP.subZK; rfl; rfl; decide; omega; omega; apply DW.v0; rfl; rfl; rfl; exact WantT.none; rfl; apply ValP.shrU; rfl; rfl; omega; apply DW.nil; simp only [fsOf_cons, fsOf_nil, fsOf_app, fsOf_tsOf, fsOf_new]; apply LW.v0; rfl; rfl; apply ValP.orU; rfl; rfl; omega; omega; apply LW.v0; rfl; rfl; apply ValP.indexAddrA; rfl; rfl; rfl; omega; apply LW.store; rfl; rfl; apply SetAt.head; assumption; apply LW.nil; refine blkN ?_; refine thenN ?_; refine CW.region ?_; apply LW.v0; rfl; rfl; apply ValP.move; rfl; apply LW.v0; rfl; rfl; apply ValP.subZL; rfl; rfl; decide; omega; omega; apply LW.v0; rfl; rfl; apply ValP.assign; rfl; apply LW.nil)
          apply thenX
          refine ⟨rfl, k, ⟨by omega, by omega⟩, Nat.lt_succ_self k, ⟨congrArg (fun z => some (Value.int .i64 z)) (show ((k - 1 : Nat) : Int) = (k : Int) - 1 by omega), rfl, rfl, rfl, rfl, rfl, trivial⟩, ?_⟩
          rw [htop, ← hor]
          exact List.Sublist.refl _
      · have hl := hlimb 0 (by omega)
        rw [limb_shift0, show q + 0 = k by omega] at hl
        (refine CW.seq ?_; refine CW.seq ?_; refine CW.region ?_; apply LW.v0; rfl; rfl; apply ValP.move; rfl; apply LW.v0; rfl; rfl; apply ValP.move; rfl; apply LW.v0; rfl; rfl; apply ValP.geqT; rfl; rfl; omega; apply LW.nil; refine thenN ?_; apply CW.condT; rfl; (with_reducible rfl); refine CW.skip ?_; refine thenN ?_; refine CW.seq ?_; refine CW.block ?_; refine CW.seq ?_; refine CW.region ?_; apply LW.v0; rfl; rfl; apply ValP.move; rfl; apply LW.v0; rfl; rfl; apply ValP.move; rfl; apply LW.v0; rfl; rfl; apply ValP.move; rfl; apply LW.v0; rfl; rfl; apply ValP.subZ; rfl; rfl; omega; omega; apply LW.v0; rfl; rfl; apply ValP.indexAddrA; rfl; rfl; rfl; omega; apply LW.load; rfl; rfl; apply Known.at; apply FsAt.tail; apply FsAt.tail; apply FsAt.tail; apply FsAt.head; assumption; apply LW.v0; rfl; rfl; apply ValP.move; rfl; apply LW.v0; rfl; rfl; apply ValP.shlU; rfl; rfl; omega; apply LW.v0; rfl; rfl; apply ValP.indexAddrA; rfl; rfl; rfl; omega; apply LW.store; rfl; rfl; apply SetAt.head; assumption; apply LW.nil; refine thenN ?_; refine CW.seq ?_; refine CW.region ?_; apply LW.v0; rfl; rfl; apply ValP.move; rfl; apply LW.v0; rfl; rfl; apply ValP.move; rfl; apply LW.v0; rfl; rfl; apply ValP.gtrF; rfl; rfl; omega; apply LW.v0; rfl; rfl; apply ValP.move; rfl; apply LW.guardF'; rfl; rfl; simp only [Bool.not_true, Bool.not_false]; rfl; apply LW.guardF'; rfl; rfl; simp only [Bool.not_true, Bool.not_false]; rfl; apply LW.v0; rfl; rfl; apply ValP.pickF'; rfl; (with_reducible rfl); rfl; apply LW.nil; refine thenN ?_; apply CW.condF; rfl; (with_reducible rfl); refine CW.skip ?_; refine blkN ?_; refine thenN ?_; refine CW.region ?_; apply LW.v0; rfl; rfl; apply ValP.move; rfl; apply LW.v0; rfl; rfl; apply ValP.subI; rfl; rfl; omega; omega; apply LW.v0; rfl; rfl; apply ValP.assign; rfl; apply LW.nil)
        apply thenX
        refine ⟨rfl, k, ⟨by omega, by omega⟩, Nat.lt_succ_self k, ⟨rfl, rfl, rfl, rfl, rfl, rfl, trivial⟩, ?_⟩
        rw [htop, hl, show k - q = 0 by omega]
        exact List.Sublist.refl _
    · obtain rfl : m = q := by omega
      have hfin : N / 2 ^ (64 * m) * 2 ^ (64 * m) = N := by
        refine Nat.div_mul_cancel ?_
        rw [hN]
        refine (Nat.dvd_mod_iff (show 2 ^ (64 * m) ∣ 2 ^ 256 from Nat.pow_dvd_pow 2 (by omega))).2 ?_
        rw [hs2, Nat.pow_add, ← Nat.mul_assoc]
        exact ⟨_, Nat.mul_comm _ _⟩
      rw [hfin]
      (refine CW.seq ?_; refine CW.seq ?_; refine CW.region ?_; apply LW.v0; rfl; rfl; apply ValP.move; rfl; apply LW.v0; rfl; rfl; apply ValP.move; rfl; apply LW.v0; rfl; rfl; apply ValP.geqF; rfl; rfl; omega; apply LW.nil; refine thenN ?_; apply CW.condF; rfl; (with_reducible rfl); refine CW.exit ?_; refine thenE ?_; refine thenE ?_; refine blkE rfl ?_; refine thenN ?_; refine CW.seq ?_; refine CW.region ?_; apply LW.load; rfl; rfl; apply Known.at; apply FsAt.head; exact Rd.whole rfl; apply LW.store; rfl; rfl; apply SetAt.tail; apply SetAt.head; apply Wr.whole; rfl; rfl; rfl; apply LW.nil; refine thenN ?_; refine CW.ret ?_)
      (apply finR; exact .inl rfl; rfl; rfl; rfl; apply ResL.cons; apply Res.cell; rfl; apply Known.at; apply FsAt.tail; apply FsAt.head; exact Rd.whole rfl; exact ResL.nil)
      rfl
end Go.Proofs.Ytahoghldnijnbaa
