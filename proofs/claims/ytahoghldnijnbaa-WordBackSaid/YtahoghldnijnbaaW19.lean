/-
  The document's answer in bits: how many times a word is in another one; products: the law.
  Conditions: none.
-/
import Derived.Test.YtahoghldnijnbaaW18
namespace Go.Proofs.Ytahoghldnijnbaa
open Go Go.RowKit SL
set_option maxRecDepth 8000
set_option maxHeartbeats 4000000
set_option linter.unusedSimpArgs false
set_option linter.unusedVariables false
attribute [local irreducible] SL.CW SL.LW SL.DW Calls SL.Ret SL.RetG SL.beginQ SL.roundQ SL.rangeQ SL.inQ SL.RW SL.AnyW SL.thenQ SL.thenC SL.thenW SL.blkQ SL.finQ SL.ValP SL.NewP SL.SetP SL.CallP SL.Rd SL.Wr SL.Known
theorem bl_cons (x b m : Nat) (hb : b < 2) : b :: bl x m = bl (2 * x + b) (m + 1) := by
  apply List.ext_getElem?
  intro i
  cases i with
  | zero => rw [bl_get _ _ _ (Nat.succ_pos m)]; simp; omega
  | succ i =>
    rw [List.getElem?_cons_succ]
    rcases Nat.lt_or_ge i m with h | h
    · rw [bl_get _ _ _ h, bl_get _ _ _ (by omega), Nat.pow_succ, Nat.mul_comm (2 ^ i) 2, ← Nat.div_div_eq_div_mul, show (2 * x + b) / 2 = x by omega]
    · rw [List.getElem?_eq_none (by rw [bl_len]; exact h), List.getElem?_eq_none (by rw [bl_len]; omega)]
theorem SL.AtSeg.one {p : Nat × Obj} {r : Fs} : AtSeg (p :: r) [] [p] r := AtSeg.head (seg := [p])
theorem up_calls (x b : Nat) (hx : x < M256) (hb : b < 2) (w : World) : Calls Try.prog 67 #[wv x, .int .i64 (b : Int)] w (Ret w (wv ((2 * x + b) % M256))) := by
  refine enter (args := [_, _]) _ [] [] Try.func67 rfl Try.ntmps67 rfl (by simp) .nil ?_
  (refine CW.seq ?_; refine CW.region ?_; apply LW.boxA; rfl; rfl; intro _; apply LW.allocW; rfl; intro _; apply LW.nil; refine thenN ?_; refine CW.seq ?_; refine CW.region ?_; apply LW.v0; rfl; rfl; apply ValP.move; rfl; apply LW.lay1; rfl; infer_instance; infer_instance; rfl; rfl; rfl; rfl; rfl; rfl; intro _; apply LW.load; rfl; rfl; apply Known.at; apply FsAt.tail; apply FsAt.tail; apply FsAt.head; exact Rd.whole rfl)
  rename_i bx bz g
  have hg : IsRow 3 1 (.slice (some ⟨g, 0, none⟩) 1 1) 1 (ics [b]) [(g, .cells #[.int .i64 (b : Int)] 3 (0, 0))] := .own (Nat.le_refl _) (by decide) rfl rfl rfl
  (apply LW.callR; rfl; rfl; infer_instance; apply ArgsOk.cons; rfl; apply ArgsOk.cons; rfl; exact ArgsOk.nil; intro w hs)
  exact bits_calls _ _ (by assumption) (by decide) w
  intro v1 g1 hr1
  replace hr1 : IsRow 3 1 v1 255 (ics (bl x 255)) g1 := hr1
  obtain ⟨p1, c1, rfl⟩ := hr1.form
  skip
  refine LW.appendAt rfl rfl inferInstance inferInstance inferInstance rfl rfl rfl (.app .one) hg (fun w hs => hr1.atSeg (by (exact AtSeg.head)) hs) (ics_cells _) (by decide) (by decide) (by decide) ?_
  intro v2 g2 hr2
  rw [← ics_app, List.singleton_append, bl_cons x b 255 hb] at hr2
  replace hr2 : IsRow 3 1 v2 256 (ics (bl (2 * x + b) 256)) g2 := hr2
  obtain ⟨p2, c2, rfl⟩ := hr2.form
  refine ⟨_, (.app .head), ?_⟩
  try simp only [List.nil_append]
  apply LW.callE
  rfl
  rfl
  infer_instance
  (apply ArgsOk.cons; rfl; exact ArgsOk.nil)
  · intro w hs
    exact of_calls (2 * x + b) 256 (by decide) _ w (hr2.atSeg (by (apply AtSeg.app; exact AtSeg.head)) hs)
  (apply LW.store; rfl; rfl; apply SetAt.app; apply SetAt.app; apply SetAt.head; apply Wr.whole; rfl; rfl; rfl; apply LW.nil; refine thenN ?_; refine CW.ret ?_)
  (apply finR; exact .inl rfl; rfl; rfl; rfl; apply ResL.cons; apply Res.cell; rfl; apply Known.at; apply FsAt.app; apply FsAt.app; apply FsAt.head; exact Rd.whole rfl; exact ResL.nil)
  rfl
theorem rDiv_calls (a b : Nat) (ha : a < M256) (hb : b < M256) (w : World) : Calls Try.prog 37 #[wv a, wv b] w (Ret w (.tuple #[wv (a / b), wv (if b = 0 then 0 else a % b)])) := by
  refine enter (args := [_, _]) _ [] [] Try.func37 rfl Try.ntmps37 rfl (by simp) .nil ?_
  rcases Nat.eq_zero_or_pos b with h0 | h0
  · subst h0
    (refine CW.seq ?_; refine CW.region ?_; apply LW.boxA; rfl; rfl; intro _; apply LW.boxA; rfl; rfl; intro _; apply LW.allocW; rfl; intro _; apply LW.allocW; rfl; intro _; apply LW.nil; refine thenN ?_; refine CW.seq ?_; refine CW.region ?_; apply LW.allocW; rfl; intro _; apply LW.allocW; rfl; intro _; apply LW.nil; refine thenN ?_; refine CW.seq ?_; refine CW.seq ?_; refine CW.region ?_; apply LW.load; rfl; rfl; apply Known.at; apply FsAt.tail; apply FsAt.tail; apply FsAt.tail; apply FsAt.tail; apply FsAt.head; exact Rd.whole rfl; apply LW.v0; rfl; rfl; exact ValP.buildW0; apply LW.v0; rfl; rfl; apply ValP.eqWT; rfl; rfl; (with_reducible rfl); apply LW.nil; refine thenN ?_; apply CW.condT; rfl; (with_reducible rfl); refine CW.seq ?_; apply CW.pre; refine AnyW.any 3 mixed (by decide +kernel) ?_; (try simp only [tsOf_cons, tsOf_nil, tsOf_app]); apply DW.loadO; rfl; rfl; rfl; exact WantT.none; rfl; apply TRead.tail; apply TRead.head; exact ancB_nil; exact Rd.whole rfl; apply DW.loadO; rfl; rfl; rfl; exact WantT.none; rfl; apply TRead.head; exact ancB_nil; exact Rd.whole rfl; apply DW.store; rfl; rfl; exact WantT.none; rfl; rfl; apply TSet.tail; apply TSet.tail; apply TSet.tail; apply TSet.head; exact ancB_nil; exact ancB_nil; apply Wr.whole; rfl; rfl; rfl; apply DW.nil; simp only [fsOf_cons, fsOf_nil, fsOf_app, fsOf_tsOf, fsOf_new]; apply LW.store; rfl; rfl; apply SetAt.tail; apply SetAt.tail; apply SetAt.head; apply Wr.whole; rfl; rfl; rfl; apply LW.nil; refine thenN ?_; refine CW.ret ?_; refine thenR ?_)
    (apply finR; exact .inl rfl; rfl; rfl; rfl; apply ResL.cons; apply Res.cell; rfl; apply Known.at; apply FsAt.tail; apply FsAt.tail; apply FsAt.tail; apply FsAt.head; exact Rd.whole rfl; apply ResL.cons; apply Res.cell; rfl; apply Known.at; apply FsAt.tail; apply FsAt.tail; apply FsAt.head; exact Rd.whole rfl; exact ResL.nil)
    rw [Nat.div_zero]; rfl
  · have hne : b ≠ 0 := by omega
    rw [if_neg hne]
    have hRb : ∀ m, a / 2 ^ m % b < b := fun m => Nat.mod_lt _ h0
    have hAm : ∀ m, a / 2 ^ m ≤ a := fun m => Nat.div_le_self _ _
    have hDm : ∀ m, a / 2 ^ m / b ≤ a / 2 ^ m := fun m => Nat.div_le_self _ _
    have hAk : ∀ k, a / 2 ^ k = 2 * (a / 2 ^ (k + 1)) + a / 2 ^ k % 2 := fun k => by rw [Nat.pow_succ, ← Nat.div_div_eq_div_mul]; omega
    (refine CW.seq ?_; refine CW.region ?_; apply LW.boxA; rfl; rfl; intro _; apply LW.boxA; rfl; rfl; intro _; apply LW.allocW; rfl; intro _; apply LW.allocW; rfl; intro _; apply LW.nil; refine thenN ?_; refine CW.seq ?_; refine CW.region ?_; apply LW.allocW; rfl; intro _; apply LW.allocW; rfl; intro _; apply LW.nil; refine thenN ?_; refine CW.seq ?_; refine CW.seq ?_; refine CW.region ?_; apply LW.load; rfl; rfl; apply Known.at; apply FsAt.tail; apply FsAt.tail; apply FsAt.tail; apply FsAt.tail; apply FsAt.head; exact Rd.whole rfl; apply LW.v0; rfl; rfl; exact ValP.buildW0; apply LW.v0; rfl; rfl; apply ValP.eqWF; rfl; rfl; assumption; omega; assumption; apply LW.nil; refine thenN ?_; apply CW.condF; rfl; (with_reducible rfl); refine CW.skip ?_; refine thenN ?_; refine CW.seq ?_; refine CW.seq ?_; refine CW.region ?_; apply LW.v0; rfl; rfl; apply ValP.assign; rfl; apply LW.nil; refine thenN ?_; refine CW.block ?_)
    rename_i ba bb b4 b5 bq br
    refine CW.loop (fun m : Nat => ([(8, .int .i64 ((m : Int) - 1)), (7, .pointer (some ⟨br, 0, none⟩)), (6, .pointer (some ⟨bq, 0, none⟩)), (5, .pointer (some ⟨b5, 0, none⟩)), (4, .pointer (some ⟨b4, 0, none⟩)), (3, .pointer (some ⟨bb, 0, none⟩)), (2, .pointer (some ⟨ba, 0, none⟩))],
        [(br, .cells (wc (a / 2 ^ m % b)) 24 (0, 0)), (bq, .cells (wc (a / 2 ^ m / b)) 24 (0, 0)), (b5, .cells (wc 0) 24 (0, 0)), (b4, .cells (wc 0) 24 (0, 0)), (bb, .cells (wc b) 24 (0, 0)), (ba, .cells (wc a) 24 (0, 0))]))
      (fun m => m ≤ 256) (fun m => m) 256 (Nat.le_refl _) ⟨rfl, rfl, rfl, rfl, rfl, rfl, rfl, trivial⟩ ?_ ?_
    · rw [show a / 2 ^ 256 = 0 from Nat.div_eq_of_lt ha, Nat.zero_mod, Nat.zero_div]
      exact List.Sublist.refl _
    · intro m hm
      dsimp only
      rcases m with _ | k
      · (refine CW.seq ?_; refine CW.seq ?_; refine CW.region ?_; apply LW.v0; rfl; rfl; apply ValP.move; rfl; apply LW.v0; rfl; rfl; apply ValP.geqF; rfl; rfl; omega; apply LW.nil; refine thenN ?_; apply CW.condF; rfl; (with_reducible rfl); refine CW.exit ?_; refine thenE ?_; refine thenE ?_; refine blkE rfl ?_; refine thenN ?_; refine CW.seq ?_; apply CW.pre; refine AnyW.any 3 mixed (by decide +kernel) ?_; (try simp only [tsOf_cons, tsOf_nil, tsOf_app]); apply DW.loadO; rfl; rfl; rfl; exact WantT.none; rfl; apply TRead.tail; apply TRead.head; exact ancB_nil; exact Rd.whole rfl; apply DW.loadO; rfl; rfl; rfl; exact WantT.none; rfl; apply TRead.head; exact ancB_nil; exact Rd.whole rfl; apply DW.store; rfl; rfl; exact WantT.none; rfl; rfl; apply TSet.tail; apply TSet.tail; apply TSet.tail; apply TSet.head; exact ancB_nil; exact ancB_nil; apply Wr.whole; rfl; rfl; rfl; apply DW.nil; simp only [fsOf_cons, fsOf_nil, fsOf_app, fsOf_tsOf, fsOf_new]; apply LW.store; rfl; rfl; apply SetAt.tail; apply SetAt.tail; apply SetAt.head; apply Wr.whole; rfl; rfl; rfl; apply LW.nil; refine thenN ?_; refine CW.ret ?_)
        (apply finR; exact .inl rfl; rfl; rfl; rfl; apply ResL.cons; apply Res.cell; rfl; apply Known.at; apply FsAt.tail; apply FsAt.tail; apply FsAt.tail; apply FsAt.head; exact Rd.whole rfl; apply ResL.cons; apply Res.cell; rfl; apply Known.at; apply FsAt.tail; apply FsAt.tail; apply FsAt.head; exact Rd.whole rfl; exact ResL.nil)
        rw [Nat.pow_zero, Nat.div_one]; rfl
      · have e0 : (((k + 1 : Nat) : Int) - 1) = (k : Int) := by omega
        rw [e0]
        obtain ⟨c, hc⟩ : ∃ c, c = a / 2 ^ k % 2 := ⟨_, rfl⟩
        have hc2 : c < 2 := by omega
        obtain ⟨r, hr⟩ : ∃ r, r = a / 2 ^ (k + 1) % b := ⟨_, rfl⟩
        obtain ⟨q, hq⟩ : ∃ q, q = a / 2 ^ (k + 1) / b := ⟨_, rfl⟩
        have hrb : r < b := by rw [hr]; exact hRb _
        have hak := hAk k
        rw [← hc] at hak
        have hk1 := hAm k
        have hqa : q ≤ a / 2 ^ (k + 1) := by rw [hq]; exact hDm _
        have cB : ∀ w, Calls Try.prog 63 #[wv a, .int .i64 (k : Int)] w (Ret w (.int .i64 (c : Int))) := fun w => by rw [hc]; exact Bit_calls a k ha (by omega) w
        have cU : ∀ w, Calls Try.prog 67 #[wv r, .int .i64 (c : Int)] w (Ret w (wv ((2 * r + c) % M256))) := fun w => up_calls r c (by omega) hc2 w
        rw [← hr, ← hq]
        rcases Nat.lt_or_ge (2 * r + c) b with hlt | hge
        · obtain ⟨d1, d2⟩ := div_step' (a / 2 ^ (k + 1)) b q r c h0 hq hr hc2 (by omega)
          rw [← hak] at d1 d2
          have h255 : r / 2 ^ 255 % 2 = 0 := by rw [Nat.div_eq_of_lt]; simp only [M256] at hb; omega
          have cR : ∀ w, Calls Try.prog 63 #[wv r, .int .i64 255] w (Ret w (.int .i64 ((0 : Nat) : Int))) := fun w => by
            have := Bit_calls r 255 (by omega) (by decide) w
            rwa [h255] at this
          have hm1 : (2 * r + c) % M256 = 2 * r + c := Nat.mod_eq_of_lt (by omega)
          have hm2 : (2 * q + 0) % M256 = 2 * q := Nat.mod_eq_of_lt (by omega)
          rw [hm1] at cU
          have cC : ∀ w, Calls Try.prog 24 #[wv (2 * r + c), wv b] w (Ret w (.int .i64 (-1))) := fun w => by
            have := rCmp_calls (2 * r + c) b (by omega) hb w
            rwa [if_pos hlt] at this
          have cQ : ∀ w, Calls Try.prog 67 #[wv q, .int .i64 0] w (Ret w (wv (2 * q))) := fun w => by
            have := up_calls q 0 (by omega) (by decide) w
            rwa [hm2] at this
          (refine CW.seq ?_; refine CW.seq ?_; refine CW.region ?_; apply LW.v0; rfl; rfl; apply ValP.move; rfl; apply LW.v0; rfl; rfl; apply ValP.geqT; rfl; rfl; omega; apply LW.nil; refine thenN ?_; apply CW.condT; rfl; (with_reducible rfl); refine CW.skip ?_; refine thenN ?_; refine CW.seq ?_; refine CW.block ?_; refine CW.seq ?_; refine CW.region ?_; apply LW.load; rfl; rfl; apply Known.at; apply FsAt.head; exact Rd.whole rfl; apply LW.callE; rfl; rfl; infer_instance; apply ArgsOk.cons; rfl; apply ArgsOk.cons; rfl; exact ArgsOk.nil; intro w _; exact cR w; apply LW.v0; rfl; rfl; apply ValP.eqF; rfl; rfl; omega; apply LW.v0; rfl; rfl; apply ValP.assign; rfl; apply LW.nil; refine thenN ?_; refine CW.seq ?_; apply CW.pre; refine AnyW.any 4 mixed (by decide +kernel) ?_; (try simp only [tsOf_cons, tsOf_nil, tsOf_app]); apply DW.loadO; rfl; rfl; rfl; exact WantT.none; rfl; apply TRead.head; exact ancB_nil; exact Rd.whole rfl; apply DW.loadO; rfl; rfl; rfl; exact WantT.none; rfl; apply TRead.tail; apply TRead.tail; apply TRead.tail; apply TRead.tail; apply TRead.tail; apply TRead.head; exact ancB_nil; exact Rd.whole rfl; apply DW.v0; rfl; rfl; rfl; exact WantT.none; rfl; apply ValP.move; rfl; apply DW.callE; rfl; rfl; rfl; exact WantT.none; rfl; infer_instance; apply ArgsOk.cons; rfl; apply ArgsOk.cons; rfl; exact ArgsOk.nil; rfl; exact ReadAll.nil; intro w _ _; exact cB w; apply DW.nil; simp only [fsOf_cons, fsOf_nil, fsOf_app, fsOf_tsOf, fsOf_new]; apply LW.callE; rfl; rfl; infer_instance; apply ArgsOk.cons; rfl; apply ArgsOk.cons; rfl; exact ArgsOk.nil; intro w _; exact cU w; apply LW.store; rfl; rfl; apply SetAt.head; apply Wr.whole; rfl; rfl; rfl; apply LW.nil; refine thenN ?_; refine CW.seq ?_; refine CW.region ?_; apply LW.v0; rfl; rfl; apply ValP.assign; rfl; apply LW.nil; refine thenN ?_; refine CW.seq ?_; refine CW.seq ?_; refine CW.region ?_; apply LW.v0; rfl; rfl; apply ValP.move; rfl; apply LW.v0; rfl; rfl; apply ValP.move; rfl; apply LW.guardT'; rfl; rfl; (with_reducible rfl); apply LW.load; rfl; rfl; apply Known.at; apply FsAt.head; exact Rd.whole rfl; apply LW.guardT'; rfl; rfl; (with_reducible rfl); apply LW.load; rfl; rfl; apply Known.at; apply FsAt.tail; apply FsAt.tail; apply FsAt.tail; apply FsAt.tail; apply FsAt.head; exact Rd.whole rfl; apply LW.guardT'; rfl; rfl; (with_reducible rfl); apply LW.callE; rfl; rfl; infer_instance; apply ArgsOk.cons; rfl; apply ArgsOk.cons; rfl; exact ArgsOk.nil; intro w _; exact cC w; apply LW.guardT'; rfl; rfl; (with_reducible rfl); apply LW.v0; rfl; rfl; apply ValP.geqF; rfl; rfl; omega; apply LW.v0; rfl; rfl; apply ValP.pickF'; rfl; (with_reducible rfl); rfl; apply LW.nil; refine thenN ?_; apply CW.condF; rfl; (with_reducible rfl); refine CW.skip ?_; refine thenN ?_; refine CW.region ?_; apply LW.load; rfl; rfl; apply Known.at; apply FsAt.tail; apply FsAt.head; exact Rd.whole rfl; apply LW.v0; rfl; rfl; apply ValP.move; rfl; apply LW.callE; rfl; rfl; infer_instance; apply ArgsOk.cons; rfl; apply ArgsOk.cons; rfl; exact ArgsOk.nil; intro w _; exact cQ w; apply LW.store; rfl; rfl; apply SetAt.tail; apply SetAt.head; apply Wr.whole; rfl; rfl; rfl; apply LW.nil; refine blkN ?_; refine thenN ?_; refine CW.region ?_; apply LW.v0; rfl; rfl; apply ValP.move; rfl; apply LW.v0; rfl; rfl; apply ValP.subI; rfl; rfl; omega; omega; apply LW.v0; rfl; rfl; apply ValP.assign; rfl; apply LW.nil)
          apply thenX
          refine ⟨rfl, k, by omega, Nat.lt_succ_self k, ⟨rfl, rfl, rfl, rfl, rfl, rfl, rfl, trivial⟩, ?_⟩
          rw [d1, d2]
          (exact List.Sublist.refl _)
        · obtain ⟨d1, d2⟩ := div_step (a / 2 ^ (k + 1)) b q r c h0 hq hr hc2 hge
          rw [← hak] at d1 d2
          have hd1 := hDm k
          rw [d1] at hd1
          have hm2 : (2 * q + 1) % M256 = 2 * q + 1 := Nat.mod_eq_of_lt (by omega)
          have cQ : ∀ w, Calls Try.prog 67 #[wv q, .int .i64 1] w (Ret w (wv (2 * q + 1))) := fun w => by
            have := up_calls q 1 (by omega) (by decide) w
            rwa [hm2] at this
          have hM : (2 * r + c) % M256 < M256 := Nat.mod_lt _ (by decide)
          have cS : ∀ w, Calls Try.prog 22 #[wv ((2 * r + c) % M256), wv b] w (Ret w (.tuple #[wv (2 * r + c - b), .bool (decide ((2 * r + c) % M256 < b))])) := fun w => by
            have := rSub_calls ((2 * r + c) % M256) b hM hb w
            rwa [show ((2 * r + c) % M256 + M256 - b) % M256 = 2 * r + c - b by simp only [M256] at *; omega] at this
          rcases Nat.lt_or_ge (2 * r + c) M256 with hlo | hhi
          · have h255 : r / 2 ^ 255 % 2 = 0 := by rw [Nat.div_eq_of_lt]; simp only [M256] at hlo; omega
            have cR : ∀ w, Calls Try.prog 63 #[wv r, .int .i64 255] w (Ret w (.int .i64 ((0 : Nat) : Int))) := fun w => by
              have := Bit_calls r 255 (by omega) (by decide) w
              rwa [h255] at this
            obtain ⟨z, hz, cC⟩ : ∃ z : Int, 0 ≤ z ∧ ∀ w, Calls Try.prog 24 #[wv ((2 * r + c) % M256), wv b] w (Ret w (.int .i64 z)) := by
              rw [Nat.mod_eq_of_lt hlo]
              refine ⟨_, ?_, fun w => rCmp_calls (2 * r + c) b hlo hb w⟩
              rw [if_neg (Nat.not_lt.2 hge)]; split <;> decide
            (refine CW.seq ?_; refine CW.seq ?_; refine CW.region ?_; apply LW.v0; rfl; rfl; apply ValP.move; rfl; apply LW.v0; rfl; rfl; apply ValP.geqT; rfl; rfl; omega; apply LW.nil; refine thenN ?_; apply CW.condT; rfl; (with_reducible rfl); refine CW.skip ?_; refine thenN ?_; refine CW.seq ?_; refine CW.block ?_; refine CW.seq ?_; refine CW.region ?_; apply LW.load; rfl; rfl; apply Known.at; apply FsAt.head; exact Rd.whole rfl; apply LW.callE; rfl; rfl; infer_instance; apply ArgsOk.cons; rfl; apply ArgsOk.cons; rfl; exact ArgsOk.nil; intro w _; exact cR w; apply LW.v0; rfl; rfl; apply ValP.eqF; rfl; rfl; omega; apply LW.v0; rfl; rfl; apply ValP.assign; rfl; apply LW.nil; refine thenN ?_; refine CW.seq ?_; apply CW.pre; refine AnyW.any 4 mixed (by decide +kernel) ?_; (try simp only [tsOf_cons, tsOf_nil, tsOf_app]); apply DW.loadO; rfl; rfl; rfl; exact WantT.none; rfl; apply TRead.head; exact ancB_nil; exact Rd.whole rfl; apply DW.loadO; rfl; rfl; rfl; exact WantT.none; rfl; apply TRead.tail; apply TRead.tail; apply TRead.tail; apply TRead.tail; apply TRead.tail; apply TRead.head; exact ancB_nil; exact Rd.whole rfl; apply DW.v0; rfl; rfl; rfl; exact WantT.none; rfl; apply ValP.move; rfl; apply DW.callE; rfl; rfl; rfl; exact WantT.none; rfl; infer_instance; apply ArgsOk.cons; rfl; apply ArgsOk.cons; rfl; exact ArgsOk.nil; rfl; exact ReadAll.nil; intro w _ _; exact cB w; apply DW.nil; simp only [fsOf_cons, fsOf_nil, fsOf_app, fsOf_tsOf, fsOf_new]; apply LW.callE; rfl; rfl; infer_instance; apply ArgsOk.cons; rfl; apply ArgsOk.cons; rfl; exact ArgsOk.nil; intro w _; exact cU w; apply LW.store; rfl; rfl; apply SetAt.head; apply Wr.whole; rfl; rfl; rfl; apply LW.nil; refine thenN ?_; refine CW.seq ?_; refine CW.region ?_; apply LW.v0; rfl; rfl; apply ValP.assign; rfl; apply LW.nil; refine thenN ?_; refine CW.seq ?_; refine CW.seq ?_; refine CW.region ?_; apply LW.v0; rfl; rfl; apply ValP.move; rfl; apply LW.v0; rfl; rfl; apply ValP.move; rfl; apply LW.guardT'; rfl; rfl; (with_reducible rfl); apply LW.load; rfl; rfl; apply Known.at; apply FsAt.head; exact Rd.whole rfl; apply LW.guardT'; rfl; rfl; (with_reducible rfl); apply LW.load; rfl; rfl; apply Known.at; apply FsAt.tail; apply FsAt.tail; apply FsAt.tail; apply FsAt.tail; apply FsAt.head; exact Rd.whole rfl; apply LW.guardT'; rfl; rfl; (with_reducible rfl); apply LW.callE; rfl; rfl; infer_instance; apply ArgsOk.cons; rfl; apply ArgsOk.cons; rfl; exact ArgsOk.nil; intro w _; exact cC w; apply LW.guardT'; rfl; rfl; (with_reducible rfl); apply LW.v0; rfl; rfl; apply ValP.geqT; rfl; rfl; omega; apply LW.v0; rfl; rfl; apply ValP.pickF'; rfl; (with_reducible rfl); rfl; apply LW.nil; refine thenN ?_; apply CW.condT; rfl; (with_reducible rfl); refine CW.seq ?_; refine CW.region ?_; apply LW.load; rfl; rfl; apply Known.at; apply FsAt.head; exact Rd.whole rfl; apply LW.load; rfl; rfl; apply Known.at; apply FsAt.tail; apply FsAt.tail; apply FsAt.tail; apply FsAt.tail; apply FsAt.head; exact Rd.whole rfl; apply LW.callE; rfl; rfl; infer_instance; apply ArgsOk.cons; rfl; apply ArgsOk.cons; rfl; exact ArgsOk.nil; intro w _; exact cS w; apply LW.v0; rfl; rfl; apply ValP.move; rfl; apply LW.v0; rfl; rfl; apply ValP.extractN; rfl; rfl; apply LW.v0; rfl; rfl; apply ValP.extractN; rfl; rfl; apply LW.store; rfl; rfl; apply SetAt.head; apply Wr.whole; rfl; rfl; rfl; apply LW.nil; refine thenN ?_; refine CW.region ?_; apply LW.v0; rfl; rfl; apply ValP.assign; rfl; apply LW.nil; refine thenN ?_; refine CW.region ?_; apply LW.load; rfl; rfl; apply Known.at; apply FsAt.tail; apply FsAt.head; exact Rd.whole rfl; apply LW.v0; rfl; rfl; apply ValP.move; rfl; apply LW.callE; rfl; rfl; infer_instance; apply ArgsOk.cons; rfl; apply ArgsOk.cons; rfl; exact ArgsOk.nil; intro w _; exact cQ w; apply LW.store; rfl; rfl; apply SetAt.tail; apply SetAt.head; apply Wr.whole; rfl; rfl; rfl; apply LW.nil; refine blkN ?_; refine thenN ?_; refine CW.region ?_; apply LW.v0; rfl; rfl; apply ValP.move; rfl; apply LW.v0; rfl; rfl; apply ValP.subI; rfl; rfl; omega; omega; apply LW.v0; rfl; rfl; apply ValP.assign; rfl; apply LW.nil)
            apply thenX
            refine ⟨rfl, k, by omega, Nat.lt_succ_self k, ⟨rfl, rfl, rfl, rfl, rfl, rfl, rfl, trivial⟩, ?_⟩
            rw [d1, d2]
            (exact List.Sublist.refl _)
          · have h255 : r / 2 ^ 255 % 2 = 1 := by
              have : r / 2 ^ 255 = 1 := by rw [Nat.div_eq_iff (by decide)]; simp only [M256] at *; omega
              rw [this]
            have cR : ∀ w, Calls Try.prog 63 #[wv r, .int .i64 255] w (Ret w (.int .i64 ((1 : Nat) : Int))) := fun w => by
              have := Bit_calls r 255 (by omega) (by decide) w
              rwa [h255] at this
            (refine CW.seq ?_; refine CW.seq ?_; refine CW.region ?_; apply LW.v0; rfl; rfl; apply ValP.move; rfl; apply LW.v0; rfl; rfl; apply ValP.geqT; rfl; rfl; omega; apply LW.nil; refine thenN ?_; apply CW.condT; rfl; (with_reducible rfl); refine CW.skip ?_; refine thenN ?_; refine CW.seq ?_; refine CW.block ?_; refine CW.seq ?_; refine CW.region ?_; apply LW.load; rfl; rfl; apply Known.at; apply FsAt.head; exact Rd.whole rfl; apply LW.callE; rfl; rfl; infer_instance; apply ArgsOk.cons; rfl; apply ArgsOk.cons; rfl; exact ArgsOk.nil; intro w _; exact cR w; apply LW.v0; rfl; rfl; apply ValP.eqT; rfl; rfl; omega; apply LW.v0; rfl; rfl; apply ValP.assign; rfl; apply LW.nil; refine thenN ?_; refine CW.seq ?_; apply CW.pre; refine AnyW.any 4 mixed (by decide +kernel) ?_; (try simp only [tsOf_cons, tsOf_nil, tsOf_app]); apply DW.loadO; rfl; rfl; rfl; exact WantT.none; rfl; apply TRead.head; exact ancB_nil; exact Rd.whole rfl; apply DW.loadO; rfl; rfl; rfl; exact WantT.none; rfl; apply TRead.tail; apply TRead.tail; apply TRead.tail; apply TRead.tail; apply TRead.tail; apply TRead.head; exact ancB_nil; exact Rd.whole rfl; apply DW.v0; rfl; rfl; rfl; exact WantT.none; rfl; apply ValP.move; rfl; apply DW.callE; rfl; rfl; rfl; exact WantT.none; rfl; infer_instance; apply ArgsOk.cons; rfl; apply ArgsOk.cons; rfl; exact ArgsOk.nil; rfl; exact ReadAll.nil; intro w _ _; exact cB w; apply DW.nil; simp only [fsOf_cons, fsOf_nil, fsOf_app, fsOf_tsOf, fsOf_new]; apply LW.callE; rfl; rfl; infer_instance; apply ArgsOk.cons; rfl; apply ArgsOk.cons; rfl; exact ArgsOk.nil; intro w _; exact cU w; apply LW.store; rfl; rfl; apply SetAt.head; apply Wr.whole; rfl; rfl; rfl; apply LW.nil; refine thenN ?_; refine CW.seq ?_; refine CW.region ?_; apply LW.v0; rfl; rfl; apply ValP.assign; rfl; apply LW.nil; refine thenN ?_; refine CW.seq ?_; refine CW.seq ?_; refine CW.region ?_; apply LW.v0; rfl; rfl; apply ValP.move; rfl; apply LW.v0; rfl; rfl; apply ValP.move; rfl; apply LW.guardF'; rfl; rfl; simp only [Bool.not_true, Bool.not_false]; rfl; apply LW.guardF'; rfl; rfl; simp only [Bool.not_true, Bool.not_false]; rfl; apply LW.guardF'; rfl; rfl; simp only [Bool.not_true, Bool.not_false]; rfl; apply LW.guardF'; rfl; rfl; simp only [Bool.not_true, Bool.not_false]; rfl; apply LW.v0; rfl; rfl; apply ValP.pickT'; rfl; (with_reducible rfl); rfl; apply LW.nil; refine thenN ?_; apply CW.condT; rfl; (with_reducible rfl); refine CW.seq ?_; refine CW.region ?_; apply LW.load; rfl; rfl; apply Known.at; apply FsAt.head; exact Rd.whole rfl; apply LW.load; rfl; rfl; apply Known.at; apply FsAt.tail; apply FsAt.tail; apply FsAt.tail; apply FsAt.tail; apply FsAt.head; exact Rd.whole rfl; apply LW.callE; rfl; rfl; infer_instance; apply ArgsOk.cons; rfl; apply ArgsOk.cons; rfl; exact ArgsOk.nil; intro w _; exact cS w; apply LW.v0; rfl; rfl; apply ValP.move; rfl; apply LW.v0; rfl; rfl; apply ValP.extractN; rfl; rfl; apply LW.v0; rfl; rfl; apply ValP.extractN; rfl; rfl; apply LW.store; rfl; rfl; apply SetAt.head; apply Wr.whole; rfl; rfl; rfl; apply LW.nil; refine thenN ?_; refine CW.region ?_; apply LW.v0; rfl; rfl; apply ValP.assign; rfl; apply LW.nil; refine thenN ?_; refine CW.region ?_; apply LW.load; rfl; rfl; apply Known.at; apply FsAt.tail; apply FsAt.head; exact Rd.whole rfl; apply LW.v0; rfl; rfl; apply ValP.move; rfl; apply LW.callE; rfl; rfl; infer_instance; apply ArgsOk.cons; rfl; apply ArgsOk.cons; rfl; exact ArgsOk.nil; intro w _; exact cQ w; apply LW.store; rfl; rfl; apply SetAt.tail; apply SetAt.head; apply Wr.whole; rfl; rfl; rfl; apply LW.nil; refine blkN ?_; refine thenN ?_; refine CW.region ?_; apply LW.v0; rfl; rfl; apply ValP.move; rfl; apply LW.v0; rfl; rfl; apply ValP.subI; rfl; rfl; omega; omega; apply LW.v0; rfl; rfl; apply ValP.assign; rfl; apply LW.nil)
            apply thenX
            refine ⟨rfl, k, by omega, Nat.lt_succ_self k, ⟨rfl, rfl, rfl, rfl, rfl, rfl, rfl, trivial⟩, ?_⟩
            rw [d1, d2]
            (exact List.Sublist.refl _)
end Go.Proofs.Ytahoghldnijnbaa
