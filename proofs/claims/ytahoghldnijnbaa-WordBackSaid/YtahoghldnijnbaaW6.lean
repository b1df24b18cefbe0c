/-
  Contracts of the word package: how many times a word is in another one, and what is left.
  Conditions: none.
-/
import Derived.Test.YtahoghldnijnbaaW5
namespace Go.Proofs.Ytahoghldnijnbaa
open Go Go.RowKit SL
set_option maxRecDepth 8000
set_option maxHeartbeats 4000000
set_option linter.unusedSimpArgs false
set_option linter.unusedVariables false
attribute [local irreducible] SL.CW SL.LW SL.DW Calls SL.Ret SL.RetG SL.beginQ SL.roundQ SL.rangeQ SL.inQ SL.RW SL.AnyW SL.thenQ SL.thenC SL.thenW SL.blkQ SL.finQ SL.ValP SL.NewP SL.SetP SL.CallP SL.Rd SL.Wr SL.Known
theorem or_bit (x c : Nat) (hx : x % 2 = 0) (hc : c < 2) : x ||| c = x + c := by
  have h := Nat.two_pow_add_eq_or_of_lt (i := 1) (b := c) (by simpa using hc) (x / 2)
  have e : 2 ^ 1 * (x / 2) = x := by omega
  rw [e] at h
  exact h.symm
theorem fold_bit (n c : Nat) (hn : n % 2 = 0) (hc : c < 2) (hM : n + c < M256) : #[Value.int .u64 ((n % 18446744073709551616 ||| c : Nat) : Int), .int .u64 ((n / 18446744073709551616 % 18446744073709551616 : Nat) : Int), .int .u64 ((n / 340282366920938463463374607431768211456 % 18446744073709551616 : Nat) : Int), .int .u64 ((n / 6277101735386680763835789423207666416102355444464034512896 % 18446744073709551616 : Nat) : Int)] = wc (n + c) := by
  rw [or_bit _ _ (by omega) hc]
  simp only [M256] at hM
  exact wc_val (by omega) (by omega) (by omega) (by omega) (by omega)
theorem bit_and (a k : Nat) (hk : k < 256) : a / 2 ^ (64 * (k / 64)) % 18446744073709551616 / 2 ^ (k % 64) &&& 1 = a / 2 ^ k % 2 := by
  rw [Nat.and_one_is_mod, show (18446744073709551616 : Nat) = 2 ^ (k % 64 + (64 - k % 64)) by rw [show k % 64 + (64 - k % 64) = 64 by omega]]
  rw [Nat.pow_add, Nat.mod_mul_right_div_self, Nat.div_div_eq_div_mul, ← Nat.pow_add, show 64 * (k / 64) + k % 64 = k by omega]
  obtain ⟨j, hj⟩ : ∃ j, 64 - k % 64 = j + 1 := ⟨63 - k % 64, by omega⟩
  rw [hj, Nat.pow_succ, Nat.mod_mod_of_dvd _ ⟨2 ^ j, by rw [Nat.mul_comm]⟩]
theorem div_step (A b q r c : Nat) (hb : 0 < b) (hq : q = A / b) (hr : r = A % b) (hc : c < 2) (h : b ≤ 2 * r + c) : (2 * A + c) / b = 2 * q + 1 ∧ (2 * A + c) % b = 2 * r + c - b := by
  have h1 := Nat.div_add_mod A b
  have h2 := Nat.mod_lt A hb
  rw [← hq, ← hr] at h1
  rw [← hr] at h2
  refine (Nat.div_mod_unique hb).2 ⟨?_, by omega⟩
  have h3 : b * (2 * q + 1) = 2 * (b * q) + b := by rw [Nat.mul_add, Nat.mul_left_comm, Nat.mul_one]
  rw [h3]; omega
theorem div_step' (A b q r c : Nat) (hb : 0 < b) (hq : q = A / b) (hr : r = A % b) (hc : c < 2) (h : ¬ b ≤ 2 * r + c) : (2 * A + c) / b = 2 * q ∧ (2 * A + c) % b = 2 * r + c := by
  have h1 := Nat.div_add_mod A b
  rw [← hq, ← hr] at h1
  refine (Nat.div_mod_unique hb).2 ⟨?_, by omega⟩
  have h3 : b * (2 * q) = 2 * (b * q) := Nat.mul_left_comm _ _ _
  rw [h3]; omega
theorem sub_eq (r c b n : Nat) (hr : r < b) (hb : b < M256) (hc : c < 2) (hn : n = (r + r) % M256) (h : b ≤ 2 * r + c) : (n + c + M256 - b) % M256 = 2 * r + c - b := by
  simp only [M256] at *
  omega
theorem Div_calls0 (a : Nat) (w : World) : Calls Try.prog 36 #[wv a, wv 0] w (Ret w (.tuple #[wv 0, wv 0])) := by
  refine enter (args := [_, _]) _ [] [] Try.func36 rfl Try.ntmps36 rfl (by simp) .nil ?_
  (refine CW.seq ?_; refine CW.region ?_; apply LW.boxA; rfl; rfl; intro _; apply LW.boxA; rfl; rfl; intro _; apply LW.allocW; rfl; intro _; apply LW.allocW; rfl; intro _; apply LW.nil; refine thenN ?_; refine CW.seq ?_; refine CW.region ?_; apply LW.allocW; rfl; intro _; apply LW.allocW; rfl; intro _; apply LW.nil; refine thenN ?_; refine CW.seq ?_; refine CW.seq ?_; refine CW.region ?_; apply LW.load; rfl; rfl; apply Known.at; apply FsAt.tail; apply FsAt.tail; apply FsAt.tail; apply FsAt.tail; apply FsAt.head; exact Rd.whole rfl; apply LW.v0; rfl; rfl; exact ValP.buildW0; apply LW.v0; rfl; rfl; apply ValP.eqWT; rfl; rfl; (with_reducible rfl); apply LW.nil; refine thenN ?_; apply CW.condT; rfl; (with_reducible rfl); refine CW.seq ?_; apply CW.pre; refine AnyW.any 3 mixed (by decide +kernel) ?_; (try simp only [tsOf_cons, tsOf_nil, tsOf_app]); apply DW.loadO; rfl; rfl; rfl; exact WantT.none; rfl; apply TRead.tail; apply TRead.head; exact ancB_nil; exact Rd.whole rfl; apply DW.loadO; rfl; rfl; rfl; exact WantT.none; rfl; apply TRead.head; exact ancB_nil; exact Rd.whole rfl; apply DW.store; rfl; rfl; exact WantT.none; rfl; rfl; apply TSet.tail; apply TSet.tail; apply TSet.tail; apply TSet.head; exact ancB_nil; exact ancB_nil; apply Wr.whole; rfl; rfl; rfl; apply DW.nil; simp only [fsOf_cons, fsOf_nil, fsOf_app, fsOf_tsOf, fsOf_new]; apply LW.store; rfl; rfl; apply SetAt.tail; apply SetAt.tail; apply SetAt.head; apply Wr.whole; rfl; rfl; rfl; apply LW.nil; refine thenN ?_; refine CW.ret ?_; refine thenR ?_)
  (apply finR; exact .inl rfl; rfl; rfl; rfl; apply ResL.cons; apply Res.cell; rfl; apply Known.at; apply FsAt.tail; apply FsAt.tail; apply FsAt.tail; apply FsAt.head; exact Rd.whole rfl; apply ResL.cons; apply Res.cell; rfl; apply Known.at; apply FsAt.tail; apply FsAt.tail; apply FsAt.head; exact Rd.whole rfl; exact ResL.nil)
  rfl
theorem Div_calls (a b : Nat) (ha : a < M256) (hb : b < M256) (h0 : b ≠ 0) (w : World) : Calls Try.prog 36 #[wv a, wv b] w (Ret w (.tuple #[wv (a / b), wv (a % b)])) := by
  have hz : (0 : Nat) < M256 := by decide
  have hb0 : 0 < b := Nat.pos_of_ne_zero h0
  obtain ⟨R, hR⟩ : ∃ R : Nat → Nat, ∀ m, R m = a / 2 ^ m % b := ⟨_, fun _ => rfl⟩
  obtain ⟨D, hD⟩ : ∃ D : Nat → Nat, ∀ m, D m = a / 2 ^ m / b := ⟨_, fun _ => rfl⟩
  have hRb : ∀ m, R m < b := fun m => by rw [hR]; exact Nat.mod_lt _ hb0
  have hDm : ∀ m, D m ≤ a / 2 ^ m := fun m => by rw [hD]; exact Nat.div_le_self _ _
  have hAk : ∀ k, a / 2 ^ k = 2 * (a / 2 ^ (k + 1)) + a / 2 ^ k % 2 := fun k => by rw [Nat.pow_succ, ← Nat.div_div_eq_div_mul]; omega
  have hAm : ∀ m, a / 2 ^ m ≤ a := fun m => Nat.div_le_self _ _
  refine enter (args := [_, _]) _ [] [] Try.func36 rfl Try.ntmps36 rfl (by simp) .nil ?_
  (refine CW.seq ?_; refine CW.region ?_; apply LW.boxA; rfl; rfl; intro _; apply LW.boxA; rfl; rfl; intro _; apply LW.allocW; rfl; intro _; apply LW.allocW; rfl; intro _; apply LW.nil; refine thenN ?_; refine CW.seq ?_; refine CW.region ?_; apply LW.allocW; rfl; intro _; apply LW.allocW; rfl; intro _; apply LW.nil; refine thenN ?_; refine CW.seq ?_; refine CW.seq ?_; refine CW.region ?_; apply LW.load; rfl; rfl; apply Known.at; apply FsAt.tail; apply FsAt.tail; apply FsAt.tail; apply FsAt.tail; apply FsAt.head; exact Rd.whole rfl; apply LW.v0; rfl; rfl; exact ValP.buildW0; apply LW.v0; rfl; rfl; apply ValP.eqWF; rfl; rfl; assumption; assumption; assumption; apply LW.nil; refine thenN ?_; apply CW.condF; rfl; (with_reducible rfl); refine CW.skip ?_; refine thenN ?_; refine CW.seq ?_; refine CW.seq ?_; refine CW.region ?_; apply LW.load; rfl; rfl; apply Known.at; apply FsAt.tail; apply FsAt.tail; apply FsAt.tail; apply FsAt.tail; apply FsAt.tail; apply FsAt.head; exact Rd.whole rfl)
  apply LW.inline
  rfl
  rfl
  infer_instance
  (apply ArgsOk.cons; rfl; exact ArgsOk.nil)
  rfl
  exact Try.func66
  rfl
  exact Try.ntmps66
  rfl
  (refine CW.seq ?_; refine CW.region ?_; apply LW.boxA; rfl; rfl; intro _; apply LW.v0; rfl; rfl; apply ValP.assign; rfl; apply LW.nil; refine thenN ?_; refine CW.seq ?_; refine CW.region ?_; apply LW.v0; rfl; rfl; apply ValP.makeFunc; exact ArgsOk.nil; apply ArgsOk.cons; rfl; exact ArgsOk.nil; apply LW.v0; rfl; rfl; apply ValP.assign; rfl; apply LW.nil; refine thenN ?_; refine CW.ret ?_)
  apply inI
  (exact .inl rfl)
  (exact Shut.nil)
  rfl
  (apply ResL.cons; exact Res.tmp rfl; exact ResL.nil)
  rfl
  (apply LW.nil; refine thenN ?_; refine CW.block ?_)
  apply CW.rangeFunc
  rfl
  rfl
  infer_instance
  rfl
  exact Try.func74
  rfl
  exact Try.ntmps74
  rfl
  rfl
  intro l r rec hrec
  (refine CW.seq ?_; refine CW.region ?_; apply LW.v0; rfl; rfl; apply ValP.assign; rfl; apply LW.nil; refine thenN ?_; refine CW.block ?_)
  rename_i b2 b3 b4 b5 b6 b7 bd
  refine CW.loop (fun m : Nat => ([(3, .int .i64 ((m : Int) - 1)), (0, .func (.yield l) #[] #[]), (1, .pointer (some ⟨bd, 0, none⟩))],
    [(l, rdy rec), (r, .deferred (some [])), (bd, .cells (wc a) 24 (0, 0)), (b7, .cells (wc (R m)) 24 (0, 0)), (b6, .cells (wc (D m)) 24 (0, 0)), (b5, .cells (wc 0) 24 (0, 0)), (b4, .cells (wc 0) 24 (0, 0)), (b3, .cells (wc b) 24 (0, 0)), (b2, .cells (wc a) 24 (0, 0))]))
    (fun m => m ≤ 256) (fun m => m) 256 (Nat.le_refl _) ⟨rfl, rfl, rfl, trivial⟩ ?_ ?_
  · rw [hR, hD, show a / 2 ^ 256 = 0 from Nat.div_eq_of_lt ha, Nat.zero_mod, Nat.zero_div]
    exact List.Sublist.refl _
  · intro m hm
    dsimp only
    rcases m with _ | k
    · (refine CW.seq ?_; refine CW.seq ?_; refine CW.region ?_; apply LW.v0; rfl; rfl; apply ValP.move; rfl; apply LW.v0; rfl; rfl; apply ValP.geqF; rfl; rfl; omega; apply LW.nil; refine thenN ?_; apply CW.condF; rfl; (with_reducible rfl); refine CW.exit ?_; refine thenE ?_; refine thenE ?_; refine blkE rfl ?_)
      apply rangeN
      (exact .inr rfl)
      (exact Shut.nil)
      (apply SetAt.head)
      (refine blkN ?_; refine thenM ?_; refine CW.seq ?_; apply CW.pre; refine AnyW.any 3 mixed (by decide +kernel) ?_; (try simp only [tsOf_cons, tsOf_nil, tsOf_app]); apply DW.loadO; rfl; rfl; rfl; exact WantT.none; rfl; apply TRead.tail; apply TRead.tail; apply TRead.tail; apply TRead.tail; apply TRead.head; exact ancB_nil; exact Rd.whole rfl; apply DW.loadO; rfl; rfl; rfl; exact WantT.none; rfl; apply TRead.tail; apply TRead.tail; apply TRead.tail; apply TRead.head; exact ancB_nil; exact Rd.whole rfl; apply DW.store; rfl; rfl; exact WantT.none; rfl; rfl; apply TSet.tail; apply TSet.tail; apply TSet.tail; apply TSet.tail; apply TSet.tail; apply TSet.tail; apply TSet.head; exact ancB_nil; exact ancB_nil; apply Wr.whole; rfl; rfl; rfl; apply DW.nil; simp only [fsOf_cons, fsOf_nil, fsOf_app, fsOf_tsOf, fsOf_new]; apply LW.store; rfl; rfl; apply SetAt.tail; apply SetAt.tail; apply SetAt.tail; apply SetAt.tail; apply SetAt.tail; apply SetAt.head; apply Wr.whole; rfl; rfl; rfl; apply LW.nil; refine thenN ?_; refine CW.ret ?_)
      (apply finRM; exact .inl rfl; apply Shut.cons; apply SetAt.tail; apply SetAt.head; exact Shut.nil; rfl; rfl; apply ResL.cons; apply Res.cell; rfl; apply Known.at; apply FsAt.tail; apply FsAt.tail; apply FsAt.tail; apply FsAt.tail; apply FsAt.tail; apply FsAt.tail; apply FsAt.head; exact Rd.whole rfl; apply ResL.cons; apply Res.cell; rfl; apply Known.at; apply FsAt.tail; apply FsAt.tail; apply FsAt.tail; apply FsAt.tail; apply FsAt.tail; apply FsAt.head; exact Rd.whole rfl; exact ResL.nil)
      rw [hD, hR, Nat.pow_zero, Nat.div_one]; rfl
    · have e0 : (((k + 1 : Nat) : Int) - 1) = (k : Int) := by omega
      rw [e0]
      have hbit : a / 2 ^ (64 * (0 + k / 64 * 1)) % 18446744073709551616 / 2 ^ (k % 64) &&& 1 = a / 2 ^ k % 2 := by rw [show 0 + k / 64 * 1 = k / 64 by omega]; exact bit_and a k (by omega)
      obtain ⟨c, hc⟩ : ∃ c, c = a / 2 ^ k % 2 := ⟨_, rfl⟩
      rw [← hc] at hbit
      have hc2 : c < 2 := by omega
      have hak := hAk k
      rw [← hc] at hak
      have hrb := hRb (k + 1)
      have hrb' := hRb k
      have hdm := hDm (k + 1)
      have hdm' := hDm k
      have ham := hAm k
      have ham' := hAm (k + 1)
      have hx : b ≤ 2 * R (k + 1) + c → D k = 2 * D (k + 1) + 1 ∧ R k = 2 * R (k + 1) + c - b := fun h => by
        rw [hD k, hR k, hak]; exact div_step _ b _ _ c hb0 (hD _) (hR _) hc2 h
      have hy : ¬ b ≤ 2 * R (k + 1) + c → D k = 2 * D (k + 1) ∧ R k = 2 * R (k + 1) + c := fun h => by
        rw [hD k, hR k, hak]; exact div_step' _ b _ _ c hb0 (hD _) (hR _) hc2 h
      clear hR hD hRb hDm hAk hAm
      obtain ⟨n, hn⟩ : ∃ n, n = (R (k + 1) + R (k + 1)) % M256 := ⟨_, rfl⟩
      have hA := Add_calls (R (k + 1)) (R (k + 1)) (by omega) (by omega)
      have hQ := Add_calls (D (k + 1)) (D (k + 1)) (by omega) (by omega)
      rw [← hn] at hA
      have hn2 : n % 2 = 0 := by simp only [M256] at *; omega
      have hnM : n + c < M256 := by simp only [M256] at *; omega
      have hf := fold_bit n c hn2 hc2 hnM
      have hS := Sub_calls (n + c) b hnM hb
      have hC0 := Cmp_calls (n + c) b hnM hb
      by_cases h : b ≤ 2 * R (k + 1) + c
      · obtain ⟨x1, x2⟩ := hx h
        have e7 : (n + c + M256 - b) % M256 = R k := by rw [x2]; exact sub_eq _ c b n hrb hb hc2 hn h
        have hd : D (k + 1) + D (k + 1) + 1 < M256 := by omega
        have hdd : (D (k + 1) + D (k + 1)) % M256 = D (k + 1) + D (k + 1) := Nat.mod_eq_of_lt (by omega)
        have e6 : (D (k + 1) + D (k + 1)) % M256 + 1 = D k := by rw [hdd]; omega
        have hf6 := fold_bit ((D (k + 1) + D (k + 1)) % M256) 1 (by rw [hdd]; omega) (by decide) (by rw [hdd]; omega)
        rw [e6] at hf6
        by_cases h1 : M256 ≤ R (k + 1) + R (k + 1)
        · rw [decide_eq_true h1] at hA
          have hC := hC0
          (refine CW.seq ?_; refine CW.seq ?_; refine CW.region ?_; apply LW.v0; rfl; rfl; apply ValP.move; rfl; apply LW.v0; rfl; rfl; apply ValP.geqT; rfl; rfl; omega; apply LW.nil; refine thenN ?_; apply CW.condT; rfl; (with_reducible rfl); refine CW.skip ?_; refine thenN ?_; refine CW.seq ?_; refine CW.block ?_; refine CW.seq ?_; refine CW.region ?_; apply LW.v0; rfl; rfl; apply ValP.move; rfl; apply LW.v0; rfl; rfl; apply ValP.move; rfl; apply LW.v0; rfl; rfl; apply ValP.quoZL; rfl; rfl; decide; omega; omega; apply LW.v0; rfl; rfl; apply ValP.indexAddrA; rfl; rfl; rfl; omega; apply LW.load; rfl; rfl; apply Known.at; apply FsAt.tail; apply FsAt.tail; apply FsAt.head; apply Rd.one'; apply nth_wc; omega; apply LW.v0; rfl; rfl; apply ValP.move; rfl; apply LW.v0; rfl; rfl; apply ValP.remZL; rfl; rfl; decide; omega; apply LW.v0; rfl; rfl; apply ValP.shrU; rfl; rfl; omega; apply LW.v0; rfl; rfl; apply ValP.andUL; rfl; rfl; decide; apply div64; omega; omega)
          rw [hbit]
          apply LW.yield
          rfl
          rfl
          (apply ArgsOk.cons; rfl; exact ArgsOk.nil)
          exact hrec
          (apply FsAt.head)
          rfl
          rfl
          (refine CW.region ?_; apply LW.v0; rfl; rfl; apply ValP.assign; rfl; apply LW.nil; apply beginI; apply SetAt.head; refine CW.block ?_; refine CW.seq ?_; refine CW.region ?_; apply LW.load; rfl; rfl; apply Known.at; apply FsAt.tail; apply FsAt.tail; apply FsAt.tail; apply FsAt.head; exact Rd.whole rfl; apply LW.load; rfl; rfl; apply Known.at; apply FsAt.tail; apply FsAt.tail; apply FsAt.tail; apply FsAt.head; exact Rd.whole rfl; apply LW.callE; rfl; rfl; infer_instance; apply ArgsOk.cons; rfl; apply ArgsOk.cons; rfl; exact ArgsOk.nil; intro w _; exact hA w; apply LW.v0; rfl; rfl; apply ValP.move; rfl; apply LW.v0; rfl; rfl; apply ValP.extractN; rfl; rfl; apply LW.v0; rfl; rfl; apply ValP.extractN; rfl; rfl; apply LW.allocW; rfl; intro _; apply LW.store; rfl; rfl; apply SetAt.head; apply Wr.whole; rfl; rfl; rfl; apply LW.v0; rfl; rfl; apply ValP.assign; rfl; apply LW.nil; refine thenN ?_; refine CW.seq ?_; refine CW.region ?_; apply LW.load; rfl; rfl; apply Known.at; apply FsAt.head; exact Rd.whole rfl; apply LW.store; rfl; rfl; apply SetAt.tail; apply SetAt.tail; apply SetAt.tail; apply SetAt.tail; apply SetAt.head; apply Wr.whole; rfl; rfl; rfl; apply LW.nil; refine thenN ?_; refine CW.seq ?_; refine CW.region ?_; apply LW.v0; rfl; rfl; apply ValP.indexAddrL; rfl; rfl; rfl; apply LW.load; rfl; rfl; apply Known.at; apply FsAt.tail; apply FsAt.tail; apply FsAt.tail; apply FsAt.tail; apply FsAt.head; exact Rd.one' rfl; apply LW.v0; rfl; rfl; apply ValP.move; rfl; apply LW.v0; rfl; rfl; apply ValP.orU; rfl; rfl; omega; omega; apply LW.v0; rfl; rfl; apply ValP.indexAddrL; rfl; rfl; rfl; apply LW.store; rfl; rfl; apply SetAt.tail; apply SetAt.tail; apply SetAt.tail; apply SetAt.tail; apply SetAt.head; apply Wr.cells; rfl; rfl; simp only [wc, List.size_toArray, List.length_cons, List.length_nil]; omega; simp only [fillC, wc, wrCells, Value.cells, List.toList_toArray, List.setIfInBounds_toArray, List.set_cons_succ, List.set_cons_zero, Nat.reduceAdd, Nat.reduceMul, Nat.zero_add, Nat.mul_one]; rfl; apply LW.nil; refine thenN ?_; refine CW.seq ?_; refine CW.region ?_; apply LW.load; rfl; rfl; apply Known.at; apply FsAt.tail; apply FsAt.tail; apply FsAt.tail; apply FsAt.tail; apply FsAt.tail; apply FsAt.head; exact Rd.whole rfl; apply LW.load; rfl; rfl; apply Known.at; apply FsAt.tail; apply FsAt.tail; apply FsAt.tail; apply FsAt.tail; apply FsAt.tail; apply FsAt.head; exact Rd.whole rfl; apply LW.callE; rfl; rfl; infer_instance; apply ArgsOk.cons; rfl; apply ArgsOk.cons; rfl; exact ArgsOk.nil; intro w _; exact hQ w; apply LW.v0; rfl; rfl; apply ValP.move; rfl; apply LW.v0; rfl; rfl; apply ValP.extractN; rfl; rfl; apply LW.v0; rfl; rfl; apply ValP.extractN; rfl; rfl; apply LW.store; rfl; rfl; apply SetAt.tail; apply SetAt.tail; apply SetAt.tail; apply SetAt.tail; apply SetAt.tail; apply SetAt.head; apply Wr.whole; rfl; rfl; rfl; apply LW.nil; refine thenN ?_; refine CW.seq ?_; refine CW.region ?_; apply LW.v0; rfl; rfl; apply ValP.move; rfl; apply LW.v0; rfl; rfl; apply ValP.move; rfl; apply LW.guardF'; rfl; rfl; simp only [Bool.not_true, Bool.not_false]; rfl; apply LW.guardF'; rfl; rfl; simp only [Bool.not_true, Bool.not_false]; rfl; apply LW.guardF'; rfl; rfl; simp only [Bool.not_true, Bool.not_false]; rfl; apply LW.guardF'; rfl; rfl; simp only [Bool.not_true, Bool.not_false]; rfl; apply LW.v0; rfl; rfl; apply ValP.pickT'; rfl; (with_reducible rfl); rfl; apply LW.nil; refine thenN ?_; apply CW.condT; rfl; (with_reducible rfl); refine CW.seq ?_; refine CW.region ?_; apply LW.load; rfl; rfl; apply Known.at; apply FsAt.tail; apply FsAt.tail; apply FsAt.tail; apply FsAt.tail; apply FsAt.head; exact Rd.whole rfl; apply LW.load; rfl; rfl; apply Known.at; apply FsAt.tail; apply FsAt.tail; apply FsAt.tail; apply FsAt.tail; apply FsAt.tail; apply FsAt.tail; apply FsAt.tail; apply FsAt.tail; apply FsAt.head; exact Rd.whole rfl; apply LW.callE; rfl; rfl; infer_instance; apply ArgsOk.cons; rfl; apply ArgsOk.cons; rfl; exact ArgsOk.nil; intro w _; rw [hf]; exact hS w; apply LW.v0; rfl; rfl; apply ValP.move; rfl; apply LW.v0; rfl; rfl; apply ValP.extractN; rfl; rfl; apply LW.v0; rfl; rfl; apply ValP.extractN; rfl; rfl; apply LW.store; rfl; rfl; apply SetAt.tail; apply SetAt.tail; apply SetAt.tail; apply SetAt.tail; apply SetAt.head; apply Wr.whole; rfl; rfl; rfl; apply LW.nil; refine thenN ?_; refine CW.region ?_; apply LW.v0; rfl; rfl; apply ValP.indexAddrL; rfl; rfl; rfl; apply LW.load; rfl; rfl; apply Known.at; apply FsAt.tail; apply FsAt.tail; apply FsAt.tail; apply FsAt.tail; apply FsAt.tail; apply FsAt.head; exact Rd.one' rfl; apply LW.v0; rfl; rfl; apply ValP.orUL; rfl; rfl; decide; omega; omega; apply LW.v0; rfl; rfl; apply ValP.indexAddrL; rfl; rfl; rfl; apply LW.store; rfl; rfl; apply SetAt.tail; apply SetAt.tail; apply SetAt.tail; apply SetAt.tail; apply SetAt.tail; apply SetAt.head; apply Wr.cells; rfl; rfl; simp only [wc, List.size_toArray, List.length_cons, List.length_nil]; omega; simp only [fillC, wc, wrCells, Value.cells, List.toList_toArray, List.setIfInBounds_toArray, List.set_cons_succ, List.set_cons_zero, Nat.reduceAdd, Nat.reduceMul, Nat.zero_add, Nat.mul_one]; rfl; apply LW.nil; refine blkN ?_; apply roundN; apply SetAt.tail; apply SetAt.head; apply LW.v0; rfl; rfl; apply ValP.notT; rfl; (with_reducible rfl); apply LW.nil; refine thenN ?_; apply CW.condF; rfl; (with_reducible rfl); refine CW.skip ?_; refine blkN ?_; refine thenN ?_; refine CW.region ?_; apply LW.v0; rfl; rfl; apply ValP.move; rfl; apply LW.v0; rfl; rfl; apply ValP.subI; rfl; rfl; omega; omega; apply LW.v0; rfl; rfl; apply ValP.assign; rfl; apply LW.nil)
          rw [e7, hf6]
          refine thenX ⟨rfl, k, by omega, by omega, ⟨rfl, rfl, rfl, trivial⟩, ?_⟩
          (apply List.Sublist.cons; exact List.Sublist.refl _)
        · rw [decide_eq_false h1] at hA
          have h2 : ¬ n + c < b := by rw [hn, Nat.mod_eq_of_lt (by omega)]; omega
          obtain ⟨z, hz0, hC⟩ : ∃ z : Int, 0 ≤ z ∧ ∀ w, Calls Try.prog 23 #[wv (n + c), wv b] w (Ret w (.int .i64 z)) := by
            rw [if_neg h2] at hC0
            by_cases h3 : b < n + c
            · rw [if_pos h3] at hC0; exact ⟨1, by decide, hC0⟩
            · rw [if_neg h3] at hC0; exact ⟨0, by decide, hC0⟩
          (refine CW.seq ?_; refine CW.seq ?_; refine CW.region ?_; apply LW.v0; rfl; rfl; apply ValP.move; rfl; apply LW.v0; rfl; rfl; apply ValP.geqT; rfl; rfl; omega; apply LW.nil; refine thenN ?_; apply CW.condT; rfl; (with_reducible rfl); refine CW.skip ?_; refine thenN ?_; refine CW.seq ?_; refine CW.block ?_; refine CW.seq ?_; refine CW.region ?_; apply LW.v0; rfl; rfl; apply ValP.move; rfl; apply LW.v0; rfl; rfl; apply ValP.move; rfl; apply LW.v0; rfl; rfl; apply ValP.quoZL; rfl; rfl; decide; omega; omega; apply LW.v0; rfl; rfl; apply ValP.indexAddrA; rfl; rfl; rfl; omega; apply LW.load; rfl; rfl; apply Known.at; apply FsAt.tail; apply FsAt.tail; apply FsAt.head; apply Rd.one'; apply nth_wc; omega; apply LW.v0; rfl; rfl; apply ValP.move; rfl; apply LW.v0; rfl; rfl; apply ValP.remZL; rfl; rfl; decide; omega; apply LW.v0; rfl; rfl; apply ValP.shrU; rfl; rfl; omega; apply LW.v0; rfl; rfl; apply ValP.andUL; rfl; rfl; decide; apply div64; omega; omega)
          rw [hbit]
          apply LW.yield
          rfl
          rfl
          (apply ArgsOk.cons; rfl; exact ArgsOk.nil)
          exact hrec
          (apply FsAt.head)
          rfl
          rfl
          (refine CW.region ?_; apply LW.v0; rfl; rfl; apply ValP.assign; rfl; apply LW.nil; apply beginI; apply SetAt.head; refine CW.block ?_; refine CW.seq ?_; refine CW.region ?_; apply LW.load; rfl; rfl; apply Known.at; apply FsAt.tail; apply FsAt.tail; apply FsAt.tail; apply FsAt.head; exact Rd.whole rfl; apply LW.load; rfl; rfl; apply Known.at; apply FsAt.tail; apply FsAt.tail; apply FsAt.tail; apply FsAt.head; exact Rd.whole rfl; apply LW.callE; rfl; rfl; infer_instance; apply ArgsOk.cons; rfl; apply ArgsOk.cons; rfl; exact ArgsOk.nil; intro w _; exact hA w; apply LW.v0; rfl; rfl; apply ValP.move; rfl; apply LW.v0; rfl; rfl; apply ValP.extractN; rfl; rfl; apply LW.v0; rfl; rfl; apply ValP.extractN; rfl; rfl; apply LW.allocW; rfl; intro _; apply LW.store; rfl; rfl; apply SetAt.head; apply Wr.whole; rfl; rfl; rfl; apply LW.v0; rfl; rfl; apply ValP.assign; rfl; apply LW.nil; refine thenN ?_; refine CW.seq ?_; refine CW.region ?_; apply LW.load; rfl; rfl; apply Known.at; apply FsAt.head; exact Rd.whole rfl; apply LW.store; rfl; rfl; apply SetAt.tail; apply SetAt.tail; apply SetAt.tail; apply SetAt.tail; apply SetAt.head; apply Wr.whole; rfl; rfl; rfl; apply LW.nil; refine thenN ?_; refine CW.seq ?_; refine CW.region ?_; apply LW.v0; rfl; rfl; apply ValP.indexAddrL; rfl; rfl; rfl; apply LW.load; rfl; rfl; apply Known.at; apply FsAt.tail; apply FsAt.tail; apply FsAt.tail; apply FsAt.tail; apply FsAt.head; exact Rd.one' rfl; apply LW.v0; rfl; rfl; apply ValP.move; rfl; apply LW.v0; rfl; rfl; apply ValP.orU; rfl; rfl; omega; omega; apply LW.v0; rfl; rfl; apply ValP.indexAddrL; rfl; rfl; rfl; apply LW.store; rfl; rfl; apply SetAt.tail; apply SetAt.tail; apply SetAt.tail; apply SetAt.tail; apply SetAt.head; apply Wr.cells; rfl; rfl; simp only [wc, List.size_toArray, List.length_cons, List.length_nil]; omega; simp only [fillC, wc, wrCells, Value.cells, List.toList_toArray, List.setIfInBounds_toArray, List.set_cons_succ, List.set_cons_zero, Nat.reduceAdd, Nat.reduceMul, Nat.zero_add, Nat.mul_one]; rfl; apply LW.nil; refine thenN ?_; refine CW.seq ?_; refine CW.region ?_; apply LW.load; rfl; rfl; apply Known.at; apply FsAt.tail; apply FsAt.tail; apply FsAt.tail; apply FsAt.tail; apply FsAt.tail; apply FsAt.head; exact Rd.whole rfl; apply LW.load; rfl; rfl; apply Known.at; apply FsAt.tail; apply FsAt.tail; apply FsAt.tail; apply FsAt.tail; apply FsAt.tail; apply FsAt.head; exact Rd.whole rfl; apply LW.callE; rfl; rfl; infer_instance; apply ArgsOk.cons; rfl; apply ArgsOk.cons; rfl; exact ArgsOk.nil; intro w _; exact hQ w; apply LW.v0; rfl; rfl; apply ValP.move; rfl; apply LW.v0; rfl; rfl; apply ValP.extractN; rfl; rfl; apply LW.v0; rfl; rfl; apply ValP.extractN; rfl; rfl; apply LW.store; rfl; rfl; apply SetAt.tail; apply SetAt.tail; apply SetAt.tail; apply SetAt.tail; apply SetAt.tail; apply SetAt.head; apply Wr.whole; rfl; rfl; rfl; apply LW.nil; refine thenN ?_; refine CW.seq ?_; refine CW.region ?_; apply LW.v0; rfl; rfl; apply ValP.move; rfl; apply LW.v0; rfl; rfl; apply ValP.move; rfl; apply LW.guardT'; rfl; rfl; (with_reducible rfl); apply LW.load; rfl; rfl; apply Known.at; apply FsAt.tail; apply FsAt.tail; apply FsAt.tail; apply FsAt.tail; apply FsAt.head; exact Rd.whole rfl; apply LW.guardT'; rfl; rfl; (with_reducible rfl); apply LW.load; rfl; rfl; apply Known.at; apply FsAt.tail; apply FsAt.tail; apply FsAt.tail; apply FsAt.tail; apply FsAt.tail; apply FsAt.tail; apply FsAt.tail; apply FsAt.tail; apply FsAt.head; exact Rd.whole rfl; apply LW.guardT'; rfl; rfl; (with_reducible rfl); apply LW.callE; rfl; rfl; infer_instance; apply ArgsOk.cons; rfl; apply ArgsOk.cons; rfl; exact ArgsOk.nil; intro w _; rw [hf]; exact hC w; apply LW.guardT'; rfl; rfl; (with_reducible rfl); apply LW.v0; rfl; rfl; apply ValP.geqT; rfl; rfl; omega; apply LW.v0; rfl; rfl; apply ValP.pickF'; rfl; (with_reducible rfl); rfl; apply LW.nil; refine thenN ?_; apply CW.condT; rfl; (with_reducible rfl); refine CW.seq ?_; refine CW.region ?_; apply LW.load; rfl; rfl; apply Known.at; apply FsAt.tail; apply FsAt.tail; apply FsAt.tail; apply FsAt.tail; apply FsAt.head; exact Rd.whole rfl; apply LW.load; rfl; rfl; apply Known.at; apply FsAt.tail; apply FsAt.tail; apply FsAt.tail; apply FsAt.tail; apply FsAt.tail; apply FsAt.tail; apply FsAt.tail; apply FsAt.tail; apply FsAt.head; exact Rd.whole rfl; apply LW.callE; rfl; rfl; infer_instance; apply ArgsOk.cons; rfl; apply ArgsOk.cons; rfl; exact ArgsOk.nil; intro w _; rw [hf]; exact hS w; apply LW.v0; rfl; rfl; apply ValP.move; rfl; apply LW.v0; rfl; rfl; apply ValP.extractN; rfl; rfl; apply LW.v0; rfl; rfl; apply ValP.extractN; rfl; rfl; apply LW.store; rfl; rfl; apply SetAt.tail; apply SetAt.tail; apply SetAt.tail; apply SetAt.tail; apply SetAt.head; apply Wr.whole; rfl; rfl; rfl; apply LW.nil; refine thenN ?_; refine CW.region ?_; apply LW.v0; rfl; rfl; apply ValP.indexAddrL; rfl; rfl; rfl; apply LW.load; rfl; rfl; apply Known.at; apply FsAt.tail; apply FsAt.tail; apply FsAt.tail; apply FsAt.tail; apply FsAt.tail; apply FsAt.head; exact Rd.one' rfl; apply LW.v0; rfl; rfl; apply ValP.orUL; rfl; rfl; decide; omega; omega; apply LW.v0; rfl; rfl; apply ValP.indexAddrL; rfl; rfl; rfl; apply LW.store; rfl; rfl; apply SetAt.tail; apply SetAt.tail; apply SetAt.tail; apply SetAt.tail; apply SetAt.tail; apply SetAt.head; apply Wr.cells; rfl; rfl; simp only [wc, List.size_toArray, List.length_cons, List.length_nil]; omega; simp only [fillC, wc, wrCells, Value.cells, List.toList_toArray, List.setIfInBounds_toArray, List.set_cons_succ, List.set_cons_zero, Nat.reduceAdd, Nat.reduceMul, Nat.zero_add, Nat.mul_one]; rfl; apply LW.nil; refine blkN ?_; apply roundN; apply SetAt.tail; apply SetAt.head; apply LW.v0; rfl; rfl; apply ValP.notT; rfl; (with_reducible rfl); apply LW.nil; refine thenN ?_; apply CW.condF; rfl; (with_reducible rfl); refine CW.skip ?_; refine blkN ?_; refine thenN ?_; refine CW.region ?_; apply LW.v0; rfl; rfl; apply ValP.move; rfl; apply LW.v0; rfl; rfl; apply ValP.subI; rfl; rfl; omega; omega; apply LW.v0; rfl; rfl; apply ValP.assign; rfl; apply LW.nil)
          rw [e7, hf6]
          refine thenX ⟨rfl, k, by omega, by omega, ⟨rfl, rfl, rfl, trivial⟩, ?_⟩
          (apply List.Sublist.cons; exact List.Sublist.refl _)
      · obtain ⟨x1, x2⟩ := hy h
        have h1 : ¬ M256 ≤ R (k + 1) + R (k + 1) := by omega
        rw [decide_eq_false h1] at hA
        have h2 : n + c < b := by rw [hn, Nat.mod_eq_of_lt (by omega)]; omega
        have e7 : n + c = R k := by rw [hn, Nat.mod_eq_of_lt (by omega)]; omega
        have hd : D (k + 1) + D (k + 1) < M256 := by omega
        have e6 : (D (k + 1) + D (k + 1)) % M256 = D k := by rw [Nat.mod_eq_of_lt (by omega)]; omega
        have hC := hC0
        rw [if_pos h2] at hC
        (refine CW.seq ?_; refine CW.seq ?_; refine CW.region ?_; apply LW.v0; rfl; rfl; apply ValP.move; rfl; apply LW.v0; rfl; rfl; apply ValP.geqT; rfl; rfl; omega; apply LW.nil; refine thenN ?_; apply CW.condT; rfl; (with_reducible rfl); refine CW.skip ?_; refine thenN ?_; refine CW.seq ?_; refine CW.block ?_; refine CW.seq ?_; refine CW.region ?_; apply LW.v0; rfl; rfl; apply ValP.move; rfl; apply LW.v0; rfl; rfl; apply ValP.move; rfl; apply LW.v0; rfl; rfl; apply ValP.quoZL; rfl; rfl; decide; omega; omega; apply LW.v0; rfl; rfl; apply ValP.indexAddrA; rfl; rfl; rfl; omega; apply LW.load; rfl; rfl; apply Known.at; apply FsAt.tail; apply FsAt.tail; apply FsAt.head; apply Rd.one'; apply nth_wc; omega; apply LW.v0; rfl; rfl; apply ValP.move; rfl; apply LW.v0; rfl; rfl; apply ValP.remZL; rfl; rfl; decide; omega; apply LW.v0; rfl; rfl; apply ValP.shrU; rfl; rfl; omega; apply LW.v0; rfl; rfl; apply ValP.andUL; rfl; rfl; decide; apply div64; omega; omega)
        rw [hbit]
        apply LW.yield
        rfl
        rfl
        (apply ArgsOk.cons; rfl; exact ArgsOk.nil)
        exact hrec
        (apply FsAt.head)
        rfl
        rfl
        (refine CW.region ?_; apply LW.v0; rfl; rfl; apply ValP.assign; rfl; apply LW.nil; apply beginI; apply SetAt.head; refine CW.block ?_; refine CW.seq ?_; refine CW.region ?_; apply LW.load; rfl; rfl; apply Known.at; apply FsAt.tail; apply FsAt.tail; apply FsAt.tail; apply FsAt.head; exact Rd.whole rfl; apply LW.load; rfl; rfl; apply Known.at; apply FsAt.tail; apply FsAt.tail; apply FsAt.tail; apply FsAt.head; exact Rd.whole rfl; apply LW.callE; rfl; rfl; infer_instance; apply ArgsOk.cons; rfl; apply ArgsOk.cons; rfl; exact ArgsOk.nil; intro w _; exact hA w; apply LW.v0; rfl; rfl; apply ValP.move; rfl; apply LW.v0; rfl; rfl; apply ValP.extractN; rfl; rfl; apply LW.v0; rfl; rfl; apply ValP.extractN; rfl; rfl; apply LW.allocW; rfl; intro _; apply LW.store; rfl; rfl; apply SetAt.head; apply Wr.whole; rfl; rfl; rfl; apply LW.v0; rfl; rfl; apply ValP.assign; rfl; apply LW.nil; refine thenN ?_; refine CW.seq ?_; refine CW.region ?_; apply LW.load; rfl; rfl; apply Known.at; apply FsAt.head; exact Rd.whole rfl; apply LW.store; rfl; rfl; apply SetAt.tail; apply SetAt.tail; apply SetAt.tail; apply SetAt.tail; apply SetAt.head; apply Wr.whole; rfl; rfl; rfl; apply LW.nil; refine thenN ?_; refine CW.seq ?_; refine CW.region ?_; apply LW.v0; rfl; rfl; apply ValP.indexAddrL; rfl; rfl; rfl; apply LW.load; rfl; rfl; apply Known.at; apply FsAt.tail; apply FsAt.tail; apply FsAt.tail; apply FsAt.tail; apply FsAt.head; exact Rd.one' rfl; apply LW.v0; rfl; rfl; apply ValP.move; rfl; apply LW.v0; rfl; rfl; apply ValP.orU; rfl; rfl; omega; omega; apply LW.v0; rfl; rfl; apply ValP.indexAddrL; rfl; rfl; rfl; apply LW.store; rfl; rfl; apply SetAt.tail; apply SetAt.tail; apply SetAt.tail; apply SetAt.tail; apply SetAt.head; apply Wr.cells; rfl; rfl; simp only [wc, List.size_toArray, List.length_cons, List.length_nil]; omega; simp only [fillC, wc, wrCells, Value.cells, List.toList_toArray, List.setIfInBounds_toArray, List.set_cons_succ, List.set_cons_zero, Nat.reduceAdd, Nat.reduceMul, Nat.zero_add, Nat.mul_one]; rfl; apply LW.nil; refine thenN ?_; refine CW.seq ?_; refine CW.region ?_; apply LW.load; rfl; rfl; apply Known.at; apply FsAt.tail; apply FsAt.tail; apply FsAt.tail; apply FsAt.tail; apply FsAt.tail; apply FsAt.head; exact Rd.whole rfl; apply LW.load; rfl; rfl; apply Known.at; apply FsAt.tail; apply FsAt.tail; apply FsAt.tail; apply FsAt.tail; apply FsAt.tail; apply FsAt.head; exact Rd.whole rfl; apply LW.callE; rfl; rfl; infer_instance; apply ArgsOk.cons; rfl; apply ArgsOk.cons; rfl; exact ArgsOk.nil; intro w _; exact hQ w; apply LW.v0; rfl; rfl; apply ValP.move; rfl; apply LW.v0; rfl; rfl; apply ValP.extractN; rfl; rfl; apply LW.v0; rfl; rfl; apply ValP.extractN; rfl; rfl; apply LW.store; rfl; rfl; apply SetAt.tail; apply SetAt.tail; apply SetAt.tail; apply SetAt.tail; apply SetAt.tail; apply SetAt.head; apply Wr.whole; rfl; rfl; rfl; apply LW.nil; refine thenN ?_; refine CW.seq ?_; refine CW.region ?_; apply LW.v0; rfl; rfl; apply ValP.move; rfl; apply LW.v0; rfl; rfl; apply ValP.move; rfl; apply LW.guardT'; rfl; rfl; (with_reducible rfl); apply LW.load; rfl; rfl; apply Known.at; apply FsAt.tail; apply FsAt.tail; apply FsAt.tail; apply FsAt.tail; apply FsAt.head; exact Rd.whole rfl; apply LW.guardT'; rfl; rfl; (with_reducible rfl); apply LW.load; rfl; rfl; apply Known.at; apply FsAt.tail; apply FsAt.tail; apply FsAt.tail; apply FsAt.tail; apply FsAt.tail; apply FsAt.tail; apply FsAt.tail; apply FsAt.tail; apply FsAt.head; exact Rd.whole rfl; apply LW.guardT'; rfl; rfl; (with_reducible rfl); apply LW.callE; rfl; rfl; infer_instance; apply ArgsOk.cons; rfl; apply ArgsOk.cons; rfl; exact ArgsOk.nil; intro w _; rw [hf]; exact hC w; apply LW.guardT'; rfl; rfl; (with_reducible rfl); apply LW.v0; rfl; rfl; apply ValP.geqF; rfl; rfl; omega; apply LW.v0; rfl; rfl; apply ValP.pickF'; rfl; (with_reducible rfl); rfl; apply LW.nil; refine thenN ?_; apply CW.condF; rfl; (with_reducible rfl); refine CW.skip ?_; refine blkN ?_; apply roundN; apply SetAt.tail; apply SetAt.head; apply LW.v0; rfl; rfl; apply ValP.notT; rfl; (with_reducible rfl); apply LW.nil; refine thenN ?_; apply CW.condF; rfl; (with_reducible rfl); refine CW.skip ?_; refine blkN ?_; refine thenN ?_; refine CW.region ?_; apply LW.v0; rfl; rfl; apply ValP.move; rfl; apply LW.v0; rfl; rfl; apply ValP.subI; rfl; rfl; omega; omega; apply LW.v0; rfl; rfl; apply ValP.assign; rfl; apply LW.nil)
        rw [hf, e7, e6]
        refine thenX ⟨rfl, k, by omega, by omega, ⟨rfl, rfl, rfl, trivial⟩, ?_⟩
        (apply List.Sublist.cons; exact List.Sublist.refl _)
theorem Div_all (a b : Nat) (ha : a < M256) (hb : b < M256) (w : World) : Calls Try.prog 36 #[wv a, wv b] w (Ret w (.tuple #[wv (a / b), wv (if b = 0 then 0 else a % b)])) := by
  by_cases h : b = 0
  · subst h
    rw [Nat.div_zero, if_pos rfl]
    exact Div_calls0 a w
  · rw [if_neg h]; exact Div_calls a b ha hb h w
end Go.Proofs.Ytahoghldnijnbaa
