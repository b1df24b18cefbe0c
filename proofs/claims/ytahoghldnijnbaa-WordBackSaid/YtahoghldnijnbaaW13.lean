/-
  The document's answer in bits: sums, differences, and how words stand.
  Conditions: none.
-/
import Derived.Test.YtahoghldnijnbaaW12
import Derived.Test.YtahoghldnijnbaaSlv
namespace Go.Proofs.Ytahoghldnijnbaa
open Go Go.RowKit SL
set_option maxRecDepth 8000
set_option maxHeartbeats 4000000
set_option linter.unusedSimpArgs false
set_option linter.unusedVariables false
attribute [local irreducible] SL.CW SL.LW SL.DW Calls SL.Ret SL.RetG SL.beginQ SL.roundQ SL.rangeQ SL.inQ SL.RW SL.AnyW SL.thenQ SL.thenC SL.thenW SL.blkQ SL.finQ SL.ValP SL.NewP SL.SetP SL.CallP SL.Rd SL.Wr SL.Known
def bor (a b k : Nat) : Nat := if a % 2 ^ k < b % 2 ^ k then 1 else 0
theorem bor_lt (a b k : Nat) : bor a b k < 2 := by unfold bor; split <;> omega
theorem bor_succ (a b k : Nat) : bor a b (k + 1) = if a / 2 ^ k % 2 < b / 2 ^ k % 2 + bor a b k then 1 else 0 := by
  have key : (a % 2 ^ (k + 1) < b % 2 ^ (k + 1)) ↔ (a / 2 ^ k % 2 < b / 2 ^ k % 2 + bor a b k) := by
    have h01 : bor a b k = 0 ∧ b % 2 ^ k ≤ a % 2 ^ k ∨ bor a b k = 1 ∧ a % 2 ^ k < b % 2 ^ k := by unfold bor; split <;> omega
    rw [Nat.mod_pow_succ, Nat.mod_pow_succ]
    have h1 := Nat.mod_lt a (pow_pos2 k); have h2 := Nat.mod_lt b (pow_pos2 k)
    generalize bor a b k = C at *
    rcases Nat.mod_two_eq_zero_or_one (a / 2 ^ k) with p | p <;> rcases Nat.mod_two_eq_zero_or_one (b / 2 ^ k) with q | q <;> rw [p, q] <;> simp only [Nat.mul_zero, Nat.mul_one, Nat.add_zero] <;>
      constructor <;> intro h3 <;> omega
  show (if a % 2 ^ (k + 1) < b % 2 ^ (k + 1) then 1 else 0) = _
  by_cases h : a % 2 ^ (k + 1) < b % 2 ^ (k + 1)
  · rw [if_pos h, if_pos (key.1 h)]
  · rw [if_neg h, if_neg (fun h' => h (key.2 h'))]
theorem sub_mod (M a b j m : Nat) (hM : M = 2 ^ j * m) (ha : a < M) (hb : b < M) : (a + M - b) % M % 2 ^ j = a % 2 ^ j + 2 ^ j * bor a b j - b % 2 ^ j := by
  subst hM
  rw [Nat.mod_mod_of_dvd _ ⟨m, rfl⟩]
  have e1 := Nat.div_add_mod a (2 ^ j); have e2 := Nat.div_add_mod b (2 ^ j)
  have h1 := Nat.mod_lt a (pow_pos2 j); have h2 := Nat.mod_lt b (pow_pos2 j)
  have hq : b / 2 ^ j < m := Nat.div_lt_of_lt_mul hb
  obtain ⟨t, ht⟩ : ∃ t, m = b / 2 ^ j + 1 + t := ⟨m - b / 2 ^ j - 1, by omega⟩
  have key : a + 2 ^ j * m - b = (a % 2 ^ j + 2 ^ j * bor a b j - b % 2 ^ j) + 2 ^ j * (a / 2 ^ j + t + 1 - bor a b j) := by
    generalize a / 2 ^ j = qa at *
    generalize b / 2 ^ j = qb at *
    subst ht
    have hb2 := bor_lt a b j
    rw [Nat.mul_add, Nat.mul_add, Nat.mul_one]
    unfold bor at *
    split
    · rw [Nat.mul_one, show qa + t + 1 - 1 = qa + t by omega, Nat.mul_add]; omega
    · rw [Nat.mul_zero, show qa + t + 1 - 0 = qa + t + 1 by omega, Nat.mul_add, Nat.mul_add, Nat.mul_one]; omega
  rw [key, Nat.add_mul_mod_self_left, Nat.mod_eq_of_lt]
  unfold bor
  split <;> omega
theorem sub_bit (a b k : Nat) (hk : k < 256) (ha : a < 2 ^ 256) (hb : b < 2 ^ 256) : (a + 2 ^ 256 - b) % 2 ^ 256 / 2 ^ k % 2 = (a / 2 ^ k % 2 + b / 2 ^ k % 2 + bor a b k) % 2 := by
  obtain ⟨j, hj⟩ : ∃ j, 256 = k + (1 + j) := ⟨255 - k, by omega⟩
  have h1 := sub_mod (2 ^ 256) a b (k + 1) (2 ^ j) (by rw [← Nat.pow_add, Nat.add_assoc, ← hj]) ha hb
  have h0 := sub_mod (2 ^ 256) a b k (2 ^ (1 + j)) (by rw [← Nat.pow_add, ← hj]) ha hb
  have hB : bor a b (k + 1) = 1 ∧ a / 2 ^ k % 2 < b / 2 ^ k % 2 + bor a b k ∨ bor a b (k + 1) = 0 ∧ ¬ a / 2 ^ k % 2 < b / 2 ^ k % 2 + bor a b k := by
    rw [bor_succ]; split <;> simp_all
  generalize (a + 2 ^ 256 - b) % 2 ^ 256 = D at *
  rw [Nat.mod_pow_succ, Nat.mod_pow_succ, Nat.mod_pow_succ] at h1
  have m1 := Nat.mod_lt a (pow_pos2 k); have m2 := Nat.mod_lt b (pow_pos2 k); have m3 := Nat.mod_lt D (pow_pos2 k)
  have h01 : bor a b k = 0 ∧ b % 2 ^ k ≤ a % 2 ^ k ∨ bor a b k = 1 ∧ a % 2 ^ k < b % 2 ^ k := by unfold bor; split <;> omega
  rw [h0] at h1 m3
  rw [Nat.pow_succ] at h1
  generalize bor a b (k + 1) = B at *
  generalize bor a b k = C at *
  have hp2 : a / 2 ^ k % 2 < 2 := by omega
  have hq2 : b / 2 ^ k % 2 < 2 := by omega
  generalize a / 2 ^ k % 2 = p at *
  generalize b / 2 ^ k % 2 = q at *
  generalize hr : D / 2 ^ k % 2 = r at *
  have hr2 : r < 2 := by omega
  generalize 2 ^ k = K at *
  rcases (show r = 0 ∨ r = 1 by omega) with rfl | rfl <;> rcases (show p = 0 ∨ p = 1 by omega) with rfl | rfl <;> rcases (show q = 0 ∨ q = 1 by omega) with rfl | rfl <;> rcases h01 with ⟨rfl, g1⟩ | ⟨rfl, g1⟩ <;> rcases hB with ⟨rfl, g2⟩ | ⟨rfl, g2⟩ <;>
    simp only [Nat.mul_zero, Nat.mul_one, Nat.add_zero] at h1 <;> omega
theorem cmp_eq (a b k : Nat) (h : a / 2 ^ (k + 1) = b / 2 ^ (k + 1)) (he : a / 2 ^ k % 2 = b / 2 ^ k % 2) : a / 2 ^ k = b / 2 ^ k := by
  rw [Nat.pow_succ, ← Nat.div_div_eq_div_mul, ← Nat.div_div_eq_div_mul] at h
  omega
theorem cmp_lt (a b k : Nat) (h : a / 2 ^ (k + 1) = b / 2 ^ (k + 1)) (he : a / 2 ^ k % 2 < b / 2 ^ k % 2) : a < b := by
  rw [Nat.pow_succ, ← Nat.div_div_eq_div_mul, ← Nat.div_div_eq_div_mul] at h
  rcases Nat.lt_or_ge a b with h1 | h1
  · exact h1
  · have := Nat.div_le_div_right (c := 2 ^ k) h1
    omega
theorem rAdd_calls (a b : Nat) (ha : a < M256) (hb : b < M256) (w : World) : Calls Try.prog 20 #[wv a, wv b] w (Ret w (.tuple #[wv ((a + b) % M256), .bool (decide (M256 ≤ a + b))])) := by
  refine enter (args := [_, _]) _ [] [] Try.func20 rfl Try.ntmps20 rfl (by simp) .nil ?_
  (refine CW.seq ?_; refine CW.region ?_; apply LW.boxA; rfl; rfl; intro _; apply LW.boxA; rfl; rfl; intro _; apply LW.allocW; rfl; intro _; apply LW.v0; rfl; rfl; apply ValP.assign; rfl; apply LW.nil; refine thenN ?_; refine CW.seq ?_)
  apply CW.pre
  refine AnyW.anyM [(1, fun v gs => IsRow 3 1 v 256 (ics (bl a 256)) gs)] 3 mixed (by decide +kernel) ?_
  ((try simp only [tsOf_cons, tsOf_nil, tsOf_app]); apply DW.loadO; rfl; rfl; rfl; exact WantT.none; rfl; apply TRead.tail; apply TRead.tail; apply TRead.head; exact ancB_nil; exact Rd.whole rfl)
  (apply DW.manyE; rfl; rfl; rfl; exact WantT.none; rfl; infer_instance; apply ArgsOk.cons; rfl; apply ArgsOk.cons; rfl; exact ArgsOk.nil; rfl; exact ReadAll.nil; intro w _ _)
  exact bits_calls _ _ (by assumption) (by decide) w
  intro va ga hra
  obtain ⟨pa, ca, rfl⟩ := hra.form
  ((try simp only [tsOf_cons, tsOf_nil, tsOf_app]); apply DW.loadO; rfl; rfl; rfl; exact WantT.none; rfl; apply TRead.app; apply TRead.tail; apply TRead.head; exact ancB_nil; exact Rd.whole rfl; apply DW.nil; simp only [fsOf_cons, fsOf_nil, fsOf_app, fsOf_tsOf, fsOf_new])
  (apply LW.callR; rfl; rfl; infer_instance; apply ArgsOk.cons; rfl; apply ArgsOk.cons; rfl; exact ArgsOk.nil; intro w hs)
  exact bits_calls _ _ (by assumption) (by decide) w
  intro vb gb hrb
  obtain ⟨pb, cb, rfl⟩ := hrb.form
  skip
  (apply LW.callR; rfl; rfl; infer_instance; apply ArgsOk.cons; rfl; apply ArgsOk.cons; rfl; exact ArgsOk.nil; intro w hs)
  exact add_calls a b 256 ha hb (by decide) _ _ w (hra.atSeg (by (apply AtSeg.app; exact AtSeg.head)) hs) (hrb.atSeg (by (exact AtSeg.head)) hs)
  intro vs gs hrs
  cases hrs with
  | @own g _ cap cur _ hn hmx hc ht hl =>
    have hrd : Rd Try.prog 3 (.cells cur 3 (0, 0)) (0 + 256 * 1) (.int .i64 (((a + b) / 2 ^ 256 % 2 : Nat) : Int)) := Rd.elem1 (g := fun (b : Nat) => [Value.int .i64 (b : Int)]) (l := bl (a + b) 257) (m := (256 + 1) * 1) (show (cur.toList.drop 0).take ((256 + 1) * 1) = _ from ht) (ics_len _) (bl_get (a + b) 257 256 (by decide)) rfl
    have h1 : ((a + b) / 2 ^ 256 % 2 : Nat) = if M256 ≤ a + b then 1 else 0 := by
      simp only [M256] at ha hb ⊢
      rw [show (2 : Nat) ^ 256 = 115792089237316195423570985008687907853269984665640564039457584007913129639936 from rfl]; split <;> omega
    refine LW.drop ((g, _) :: _) (List.Sublist.cons_cons _ (List.Sublist.trans (List.sublist_append_right _ _) (List.sublist_append_right _ _))) ?_
    rw [h1] at hrd
    have hof : ∀ w, (∀ p ∈ [(g, Obj.cells cur 3 (0, 0))], w.heap[p.1]? = some p.2) → Calls Try.prog 61 #[.slice (some ⟨g, 0, none⟩) (256 + 1) cap] w (Ret w (wv ((a + b) % M256))) := fun w hu => of_calls (a + b) 257 (by decide) _ w (RowAt.us hu hn hmx ht hl)
    rcases Nat.lt_or_ge (a + b) M256 with h | h
    · rw [if_neg (Nat.not_le.2 h)] at hrd
      rw [decide_eq_false (Nat.not_le.2 h)]
      (apply LW.v0; rfl; rfl; apply ValP.assign; rfl; apply LW.nil; refine thenN ?_; refine CW.seq ?_; apply CW.pre; refine AnyW.any 7 mixed (by decide +kernel) ?_; (try simp only [tsOf_cons, tsOf_nil, tsOf_app]); apply DW.v0; rfl; rfl; rfl; exact WantT.none; rfl; apply ValP.move; rfl; apply DW.callV; rfl; rfl; rfl; exact WantT.none; rfl; infer_instance; apply ArgsOk.cons; rfl; exact ArgsOk.nil; apply RdV.own; omega; apply TRead.head; exact ancB_nil; exact RdV.nil; intro w _ _; exact hof w (by assumption); apply DW.v0; rfl; rfl; rfl; exact WantT.none; rfl; apply ValP.move; rfl; apply DW.v0; rfl; rfl; rfl; exact WantT.none; rfl; apply ValP.indexAddrSL; rfl; rfl; decide; omega; apply DW.loadO; rfl; rfl; rfl; exact WantT.none; rfl; apply TRead.head; exact ancB_nil; assumption; apply DW.v0; rfl; rfl; rfl; exact WantT.none; rfl; apply ValP.eqF; rfl; rfl; omega; apply DW.store; rfl; rfl; exact WantT.none; rfl; rfl; apply TSet.tail; apply TSet.app; apply TSet.head; exact ancB_nil; exact ancB_nil; apply Wr.whole; rfl; rfl; rfl; apply DW.nil; simp only [fsOf_cons, fsOf_nil, fsOf_app, fsOf_tsOf, fsOf_new]; apply LW.v0; rfl; rfl; apply ValP.assign; rfl; apply LW.nil; refine thenN ?_; refine CW.ret ?_)
      (apply finR; exact .inl rfl; rfl; rfl; rfl; apply ResL.cons; apply Res.cell; rfl; apply Known.at; apply FsAt.tail; apply FsAt.app; apply FsAt.head; exact Rd.whole rfl; apply ResL.cons; exact Res.tmp rfl; exact ResL.nil)
      rfl
    · rw [if_pos h] at hrd
      rw [decide_eq_true h]
      (apply LW.v0; rfl; rfl; apply ValP.assign; rfl; apply LW.nil; refine thenN ?_; refine CW.seq ?_; apply CW.pre; refine AnyW.any 7 mixed (by decide +kernel) ?_; (try simp only [tsOf_cons, tsOf_nil, tsOf_app]); apply DW.v0; rfl; rfl; rfl; exact WantT.none; rfl; apply ValP.move; rfl; apply DW.callV; rfl; rfl; rfl; exact WantT.none; rfl; infer_instance; apply ArgsOk.cons; rfl; exact ArgsOk.nil; apply RdV.own; omega; apply TRead.head; exact ancB_nil; exact RdV.nil; intro w _ _; exact hof w (by assumption); apply DW.v0; rfl; rfl; rfl; exact WantT.none; rfl; apply ValP.move; rfl; apply DW.v0; rfl; rfl; rfl; exact WantT.none; rfl; apply ValP.indexAddrSL; rfl; rfl; decide; omega; apply DW.loadO; rfl; rfl; rfl; exact WantT.none; rfl; apply TRead.head; exact ancB_nil; assumption; apply DW.v0; rfl; rfl; rfl; exact WantT.none; rfl; apply ValP.eqT; rfl; rfl; omega; apply DW.store; rfl; rfl; exact WantT.none; rfl; rfl; apply TSet.tail; apply TSet.app; apply TSet.head; exact ancB_nil; exact ancB_nil; apply Wr.whole; rfl; rfl; rfl; apply DW.nil; simp only [fsOf_cons, fsOf_nil, fsOf_app, fsOf_tsOf, fsOf_new]; apply LW.v0; rfl; rfl; apply ValP.assign; rfl; apply LW.nil; refine thenN ?_; refine CW.ret ?_)
      (apply finR; exact .inl rfl; rfl; rfl; rfl; apply ResL.cons; apply Res.cell; rfl; apply Known.at; apply FsAt.tail; apply FsAt.app; apply FsAt.head; exact Rd.whole rfl; apply ResL.cons; exact Res.tmp rfl; exact ResL.nil)
      rfl
theorem rSub_calls (a b : Nat) (ha : a < M256) (hb : b < M256) (w : World) : Calls Try.prog 22 #[wv a, wv b] w (Ret w (.tuple #[wv ((a + M256 - b) % M256), .bool (decide (a < b))])) := by
  refine enter (args := [_, _]) _ [] [] Try.func22 rfl Try.ntmps22 rfl (by simp) .nil ?_
  (refine CW.seq ?_; refine CW.region ?_; apply LW.boxA; rfl; rfl; intro _; apply LW.boxA; rfl; rfl; intro _; apply LW.allocW; rfl; intro _; apply LW.v0; rfl; rfl; apply ValP.assign; rfl; apply LW.nil; refine thenN ?_; refine CW.seq ?_; refine CW.region ?_; apply LW.v0; rfl; rfl; apply ValP.assign; rfl; apply LW.nil; refine thenN ?_; refine CW.seq ?_; refine CW.region ?_; apply LW.v0; rfl; rfl; apply ValP.assign; rfl; apply LW.nil; refine thenN ?_; refine CW.seq ?_; refine CW.seq ?_; refine CW.region ?_; apply LW.v0; rfl; rfl; apply ValP.move; rfl; apply LW.nil; refine thenN ?_; refine CW.block ?_)
  rename_i ba bb bc
  refine CW.loop (fun x : RC => ([(10, .int .i64 (x.m : Int)), (7, .int .i64 ((bor a b x.m : Nat) : Int)), (6, x.v), (5, .bool false), (2, .pointer (some ⟨ba, 0, none⟩)), (3, .pointer (some ⟨bb, 0, none⟩)), (4, .pointer (some ⟨bc, 0, none⟩))],
      x.seg ++ [(bc, .cells (wc 0) 24 (0, 0)), (bb, .cells (wc b) 24 (0, 0)), (ba, .cells (wc a) 24 (0, 0))]))
    (fun x => x.m ≤ 256 ∧ IsRow 3 1 x.v x.m (ics (bl ((a + M256 - b) % M256) x.m)) x.seg) (fun x => 256 - x.m) ⟨0, .slice none 0 0, []⟩ ⟨Nat.zero_le _, .nil⟩ ⟨rfl, by rw [show bor a b 0 = 0 by simp [bor, Nat.mod_one]]; rfl, rfl, rfl, rfl, rfl, rfl, trivial⟩ (List.Sublist.refl _) ?_
  rintro ⟨k, v, seg⟩ ⟨hk, hrow⟩
  dsimp only at hk hrow ⊢
  obtain ⟨p, c, rfl⟩ := hrow.form
  have hb2 := bor_lt a b k
  rcases Nat.lt_or_ge k 256 with hlt | hge
  · have hd := sub_bit a b k hlt ha hb
    have hs := bor_succ a b k
    rw [show (2 : Nat) ^ 256 = M256 from rfl] at hd
    rcases Nat.lt_or_ge (a / 2 ^ k % 2) (b / 2 ^ k % 2 + bor a b k) with hc | hc
    · rw [if_pos hc] at hs
      (refine CW.seq ?_; refine CW.region ?_; apply LW.v0; rfl; rfl; apply ValP.lssT; rfl; rfl; omega; apply LW.nil; refine thenN ?_; refine CW.seq ?_; apply CW.condT; rfl; (with_reducible rfl); refine CW.skip ?_; refine thenN ?_; refine CW.seq ?_; refine CW.block ?_; refine CW.seq ?_; refine CW.region ?_; apply LW.v0; rfl; rfl; apply ValP.move; rfl; apply LW.v0; rfl; rfl; apply ValP.assign; rfl; apply LW.nil; refine thenN ?_; refine CW.seq ?_; apply CW.pre; refine AnyW.any 8 mixed (by decide +kernel) ?_; (try simp only [tsOf_cons, tsOf_nil, tsOf_app]); apply DW.loadO; rfl; rfl; rfl; exact WantT.none; rfl; apply TRead.app; apply TRead.tail; apply TRead.tail; apply TRead.head; exact ancB_nil; exact Rd.whole rfl; apply DW.v0; rfl; rfl; rfl; exact WantT.none; rfl; apply ValP.move; rfl; apply DW.callE; rfl; rfl; rfl; exact WantT.none; rfl; infer_instance; apply ArgsOk.cons; rfl; apply ArgsOk.cons; rfl; exact ArgsOk.nil; rfl; exact ReadAll.nil; intro w _ _; refine Bit_calls _ _ ?_ ?_ w; assumption; omega; apply DW.loadO; rfl; rfl; rfl; exact WantT.none; rfl; apply TRead.app; apply TRead.tail; apply TRead.head; exact ancB_nil; exact Rd.whole rfl; apply DW.v0; rfl; rfl; rfl; exact WantT.none; rfl; apply ValP.move; rfl; apply DW.callE; rfl; rfl; rfl; exact WantT.none; rfl; infer_instance; apply ArgsOk.cons; rfl; apply ArgsOk.cons; rfl; exact ArgsOk.nil; rfl; exact ReadAll.nil; intro w _ _; refine Bit_calls _ _ ?_ ?_ w; assumption; omega; apply DW.v0; rfl; rfl; rfl; exact WantT.none; rfl; apply ValP.subI; rfl; rfl; omega; omega; apply DW.v0; rfl; rfl; rfl; exact WantT.none; rfl; apply ValP.move; rfl; apply DW.nil; simp only [fsOf_cons, fsOf_nil, fsOf_app, fsOf_tsOf, fsOf_new]; apply LW.v0; rfl; rfl; apply ValP.subI; rfl; rfl; omega; omega; apply LW.v0; rfl; rfl; apply ValP.assign; rfl; apply LW.nil; refine thenN ?_; refine CW.seq ?_; refine CW.region ?_; apply LW.v0; rfl; rfl; apply ValP.assign; rfl; apply LW.nil; refine thenN ?_; refine CW.seq ?_; refine CW.seq ?_; refine CW.region ?_; apply LW.v0; rfl; rfl; apply ValP.move; rfl; apply LW.v0; rfl; rfl; apply ValP.lssT; rfl; rfl; omega; apply LW.nil; refine thenN ?_; apply CW.condT; rfl; (with_reducible rfl); refine CW.region ?_; apply LW.v0; rfl; rfl; apply ValP.move; rfl; apply LW.v0; rfl; rfl; apply ValP.addI; rfl; rfl; omega; omega; apply LW.v0; rfl; rfl; apply ValP.assign; rfl; apply LW.v0; rfl; rfl; apply ValP.assign; rfl; apply LW.nil; refine thenN ?_; refine CW.region ?_; apply LW.v0; rfl; rfl; apply ValP.move; rfl; apply LW.v0; rfl; rfl; apply ValP.move; rfl; apply LW.lay1; rfl; infer_instance; infer_instance; rfl; rfl; rfl; rfl; rfl; rfl; intro _)
      (apply LW.append; rfl; rfl; infer_instance; infer_instance; infer_instance; rfl; rfl; rfl; (case hrow => assumption); apply AtSeg.cons; exact AtSeg.head; apply Known.at; apply FsAt.head; rfl; rfl; rfl; omega; simp only [maxLen]; omega; omega; intro v' seg' hrow'; obtain ⟨p', c', rfl⟩ := hrow'.form; (refine ⟨_, (by (repeat (first | exact AtSeg.head | apply AtSeg.cons | apply AtSeg.app))), ?_⟩); (try simp only [List.cons_append, List.nil_append]))
      (apply LW.v0; rfl; rfl; apply ValP.assign; rfl; apply LW.nil; refine blkN ?_; refine thenN ?_; refine CW.region ?_; apply LW.v0; rfl; rfl; apply ValP.addZL; rfl; rfl; decide; omega; apply LW.v0; rfl; rfl; apply ValP.move; rfl; apply LW.nil)
      apply thenX
      refine ⟨rfl, ⟨k + 1, _, seg'⟩, ⟨hlt, ?_⟩, by show 256 - (k + 1) < 256 - k; omega, ⟨rfl, by rw [hs]; rfl, rfl, rfl, rfl, rfl, rfl, trivial⟩, by (apply List.Sublist.cons; exact List.Sublist.refl _)⟩
      rw [bl_succ, ics_app, hd]
      rw [show ((a / 2 ^ k % 2 : Nat) : Int) - ((b / 2 ^ k % 2 : Nat) : Int) - ((bor a b k : Nat) : Int) + 2 = (((a / 2 ^ k % 2 + b / 2 ^ k % 2 + bor a b k) % 2 : Nat) : Int) by omega] at hrow'
      exact hrow'
    · rw [if_neg (Nat.not_lt.2 hc)] at hs
      (refine CW.seq ?_; refine CW.region ?_; apply LW.v0; rfl; rfl; apply ValP.lssT; rfl; rfl; omega; apply LW.nil; refine thenN ?_; refine CW.seq ?_; apply CW.condT; rfl; (with_reducible rfl); refine CW.skip ?_; refine thenN ?_; refine CW.seq ?_; refine CW.block ?_; refine CW.seq ?_; refine CW.region ?_; apply LW.v0; rfl; rfl; apply ValP.move; rfl; apply LW.v0; rfl; rfl; apply ValP.assign; rfl; apply LW.nil; refine thenN ?_; refine CW.seq ?_; apply CW.pre; refine AnyW.any 8 mixed (by decide +kernel) ?_; (try simp only [tsOf_cons, tsOf_nil, tsOf_app]); apply DW.loadO; rfl; rfl; rfl; exact WantT.none; rfl; apply TRead.app; apply TRead.tail; apply TRead.tail; apply TRead.head; exact ancB_nil; exact Rd.whole rfl; apply DW.v0; rfl; rfl; rfl; exact WantT.none; rfl; apply ValP.move; rfl; apply DW.callE; rfl; rfl; rfl; exact WantT.none; rfl; infer_instance; apply ArgsOk.cons; rfl; apply ArgsOk.cons; rfl; exact ArgsOk.nil; rfl; exact ReadAll.nil; intro w _ _; refine Bit_calls _ _ ?_ ?_ w; assumption; omega; apply DW.loadO; rfl; rfl; rfl; exact WantT.none; rfl; apply TRead.app; apply TRead.tail; apply TRead.head; exact ancB_nil; exact Rd.whole rfl; apply DW.v0; rfl; rfl; rfl; exact WantT.none; rfl; apply ValP.move; rfl; apply DW.callE; rfl; rfl; rfl; exact WantT.none; rfl; infer_instance; apply ArgsOk.cons; rfl; apply ArgsOk.cons; rfl; exact ArgsOk.nil; rfl; exact ReadAll.nil; intro w _ _; refine Bit_calls _ _ ?_ ?_ w; assumption; omega; apply DW.v0; rfl; rfl; rfl; exact WantT.none; rfl; apply ValP.subZ; rfl; rfl; omega; omega; apply DW.v0; rfl; rfl; rfl; exact WantT.none; rfl; apply ValP.move; rfl; apply DW.nil; simp only [fsOf_cons, fsOf_nil, fsOf_app, fsOf_tsOf, fsOf_new]; apply LW.v0; rfl; rfl; apply ValP.subZ; rfl; rfl; omega; omega; apply LW.v0; rfl; rfl; apply ValP.assign; rfl; apply LW.nil; refine thenN ?_; refine CW.seq ?_; refine CW.region ?_; apply LW.v0; rfl; rfl; apply ValP.assign; rfl; apply LW.nil; refine thenN ?_; refine CW.seq ?_; refine CW.seq ?_; refine CW.region ?_; apply LW.v0; rfl; rfl; apply ValP.move; rfl; apply LW.v0; rfl; rfl; apply ValP.lssF; rfl; rfl; omega; apply LW.nil; refine thenN ?_; apply CW.condF; rfl; (with_reducible rfl); refine CW.skip ?_; refine thenN ?_; refine CW.region ?_; apply LW.v0; rfl; rfl; apply ValP.move; rfl; apply LW.v0; rfl; rfl; apply ValP.move; rfl; apply LW.lay1; rfl; infer_instance; infer_instance; rfl; rfl; rfl; rfl; rfl; rfl; intro _)
      (apply LW.append; rfl; rfl; infer_instance; infer_instance; infer_instance; rfl; rfl; rfl; (case hrow => assumption); apply AtSeg.cons; exact AtSeg.head; apply Known.at; apply FsAt.head; rfl; rfl; rfl; omega; simp only [maxLen]; omega; omega; intro v' seg' hrow'; obtain ⟨p', c', rfl⟩ := hrow'.form; (refine ⟨_, (by (repeat (first | exact AtSeg.head | apply AtSeg.cons | apply AtSeg.app))), ?_⟩); (try simp only [List.cons_append, List.nil_append]))
      (apply LW.v0; rfl; rfl; apply ValP.assign; rfl; apply LW.nil; refine blkN ?_; refine thenN ?_; refine CW.region ?_; apply LW.v0; rfl; rfl; apply ValP.addZL; rfl; rfl; decide; omega; apply LW.v0; rfl; rfl; apply ValP.move; rfl; apply LW.nil)
      apply thenX
      refine ⟨rfl, ⟨k + 1, _, seg'⟩, ⟨hlt, ?_⟩, by show 256 - (k + 1) < 256 - k; omega, ⟨rfl, by rw [hs]; rfl, rfl, rfl, rfl, rfl, rfl, trivial⟩, by (apply List.Sublist.cons; exact List.Sublist.refl _)⟩
      rw [bl_succ, ics_app, hd]
      rw [show a / 2 ^ k % 2 - b / 2 ^ k % 2 - bor a b k = (a / 2 ^ k % 2 + b / 2 ^ k % 2 + bor a b k) % 2 by omega] at hrow'
      exact hrow'
  · obtain rfl : k = 256 := by omega
    have hbor : bor a b 256 = if a < b then 1 else 0 := by unfold bor; rw [Nat.mod_eq_of_lt ha, Nat.mod_eq_of_lt hb]
    (refine CW.seq ?_; refine CW.region ?_; apply LW.v0; rfl; rfl; apply ValP.lssF; rfl; rfl; omega; apply LW.nil; refine thenN ?_; refine CW.seq ?_; apply CW.condF; rfl; (with_reducible rfl); refine CW.exit ?_; refine thenE ?_; refine thenE ?_; refine blkE rfl ?_; refine thenN ?_; refine CW.seq ?_; refine CW.region ?_; apply LW.v0; rfl; rfl; apply ValP.move; rfl)
    (apply LW.callE; rfl; rfl; infer_instance; apply ArgsOk.cons; rfl; exact ArgsOk.nil; intro w hs; exact of_calls _ _ (by decide) _ w (hrow.atSeg AtSeg.head hs))
    rw [Nat.min_self, Nat.mod_mod]
    (apply LW.v0; rfl; rfl; apply ValP.move; rfl; apply LW.v0; rfl; rfl; apply ValP.eq; rfl; rfl; apply LW.store; rfl; rfl; apply SetAt.app; apply SetAt.head; apply Wr.whole; rfl; rfl; rfl; apply LW.v0; rfl; rfl; apply ValP.assign; rfl; apply LW.nil; refine thenN ?_; refine CW.ret ?_)
    (apply finR; exact .inl rfl; rfl; rfl; rfl; apply ResL.cons; apply Res.cell; rfl; apply Known.at; apply FsAt.app; apply FsAt.head; exact Rd.whole rfl; apply ResL.cons; exact Res.tmp rfl; exact ResL.nil)
    rw [hbor]
    by_cases h : a < b <;> simp [tup, h]
theorem rCmp_calls (a b : Nat) (ha : a < M256) (hb : b < M256) (w : World) : Calls Try.prog 24 #[wv a, wv b] w (Ret w (.int .i64 (if a < b then -1 else if b < a then 1 else 0))) := by
  refine enter (args := [_, _]) _ [] [] Try.func24 rfl Try.ntmps24 rfl (by simp) .nil ?_
  (refine CW.seq ?_; refine CW.region ?_; apply LW.boxA; rfl; rfl; intro _; apply LW.boxA; rfl; rfl; intro _; apply LW.v0; rfl; rfl; apply ValP.assign; rfl; apply LW.nil; refine thenN ?_; refine CW.seq ?_; refine CW.seq ?_; refine CW.region ?_; apply LW.v0; rfl; rfl; apply ValP.assign; rfl; apply LW.nil; refine thenN ?_; refine CW.block ?_)
  rename_i ba bb
  refine CW.loop (fun m : Nat => ([(5, .int .i64 ((m : Int) - 1)), (4, .int .i64 0), (2, .pointer (some ⟨ba, 0, none⟩)), (3, .pointer (some ⟨bb, 0, none⟩))],
      [(bb, .cells (wc b) 24 (0, 0)), (ba, .cells (wc a) 24 (0, 0))]))
    (fun m => m ≤ 256 ∧ a / 2 ^ m = b / 2 ^ m) (fun m => m) 256 ⟨Nat.le_refl _, by rw [Nat.div_eq_of_lt ha, Nat.div_eq_of_lt hb]⟩ ⟨rfl, rfl, rfl, rfl, trivial⟩ (List.Sublist.refl _) ?_
  rintro m ⟨hm, he⟩
  dsimp only
  rcases m with _ | k
  · have hab : a = b := by simpa using he
    subst hab
    (refine CW.seq ?_; refine CW.seq ?_; refine CW.region ?_; apply LW.v0; rfl; rfl; apply ValP.move; rfl; apply LW.v0; rfl; rfl; apply ValP.geqF; rfl; rfl; omega; apply LW.nil; refine thenN ?_; apply CW.condF; rfl; (with_reducible rfl); refine CW.exit ?_; refine thenE ?_; refine thenE ?_; refine blkE rfl ?_; refine thenN ?_; refine CW.seq ?_; refine CW.region ?_; apply LW.v0; rfl; rfl; apply ValP.assign; rfl; apply LW.nil; refine thenN ?_; refine CW.ret ?_)
    (apply finR; exact .inl rfl; rfl; rfl; rfl; apply ResL.cons; exact Res.tmp rfl; exact ResL.nil)
    rw [if_neg (Nat.lt_irrefl a), if_neg (Nat.lt_irrefl a)]; rfl
  · have e0 : (((k + 1 : Nat) : Int) - 1) = (k : Int) := by omega
    rw [e0]
    rcases Nat.lt_trichotomy (a / 2 ^ k % 2) (b / 2 ^ k % 2) with h | h | h
    · have hlt := cmp_lt a b k he h
      (refine CW.seq ?_; refine CW.seq ?_; refine CW.region ?_; apply LW.v0; rfl; rfl; apply ValP.move; rfl; apply LW.v0; rfl; rfl; apply ValP.geqT; rfl; rfl; omega; apply LW.nil; refine thenN ?_; apply CW.condT; rfl; (with_reducible rfl); refine CW.skip ?_; refine thenN ?_; refine CW.seq ?_; refine CW.block ?_; refine CW.seq ?_; apply CW.pre; refine AnyW.any 5 mixed (by decide +kernel) ?_; (try simp only [tsOf_cons, tsOf_nil, tsOf_app]); apply DW.loadO; rfl; rfl; rfl; exact WantT.none; rfl; apply TRead.tail; apply TRead.head; exact ancB_nil; exact Rd.whole rfl; apply DW.v0; rfl; rfl; rfl; exact WantT.none; rfl; apply ValP.move; rfl; apply DW.callE; rfl; rfl; rfl; exact WantT.none; rfl; infer_instance; apply ArgsOk.cons; rfl; apply ArgsOk.cons; rfl; exact ArgsOk.nil; rfl; exact ReadAll.nil; intro w _ _; refine Bit_calls _ _ ?_ ?_ w; assumption; omega; apply DW.loadO; rfl; rfl; rfl; exact WantT.none; rfl; apply TRead.head; exact ancB_nil; exact Rd.whole rfl; apply DW.v0; rfl; rfl; rfl; exact WantT.none; rfl; apply ValP.move; rfl; apply DW.nil; simp only [fsOf_cons, fsOf_nil, fsOf_app, fsOf_tsOf, fsOf_new]; apply LW.callE; rfl; rfl; infer_instance; apply ArgsOk.cons; rfl; apply ArgsOk.cons; rfl; exact ArgsOk.nil; intro w _; refine Bit_calls _ _ ?_ ?_ w; assumption; omega; apply LW.v0; rfl; rfl; apply ValP.assign; rfl; apply LW.v0; rfl; rfl; apply ValP.assign; rfl; apply LW.nil; refine thenN ?_; refine CW.seq ?_; refine CW.region ?_; apply LW.v0; rfl; rfl; apply ValP.move; rfl; apply LW.v0; rfl; rfl; apply ValP.move; rfl; apply LW.v0; rfl; rfl; apply ValP.lssT; rfl; rfl; omega; apply LW.nil; refine thenN ?_; apply CW.condT; rfl; (with_reducible rfl); refine CW.seq ?_; refine CW.region ?_; apply LW.v0; rfl; rfl; apply ValP.assign; rfl; apply LW.nil; refine thenN ?_; refine CW.ret ?_; refine blkR ?_; refine thenR ?_; refine thenR ?_; refine blkR ?_; refine thenR ?_)
      (apply finR; exact .inl rfl; rfl; rfl; rfl; apply ResL.cons; exact Res.tmp rfl; exact ResL.nil)
      rw [if_pos hlt]; rfl
    · have hq := cmp_eq a b k he h
      (refine CW.seq ?_; refine CW.seq ?_; refine CW.region ?_; apply LW.v0; rfl; rfl; apply ValP.move; rfl; apply LW.v0; rfl; rfl; apply ValP.geqT; rfl; rfl; omega; apply LW.nil; refine thenN ?_; apply CW.condT; rfl; (with_reducible rfl); refine CW.skip ?_; refine thenN ?_; refine CW.seq ?_; refine CW.block ?_; refine CW.seq ?_; apply CW.pre; refine AnyW.any 5 mixed (by decide +kernel) ?_; (try simp only [tsOf_cons, tsOf_nil, tsOf_app]); apply DW.loadO; rfl; rfl; rfl; exact WantT.none; rfl; apply TRead.tail; apply TRead.head; exact ancB_nil; exact Rd.whole rfl; apply DW.v0; rfl; rfl; rfl; exact WantT.none; rfl; apply ValP.move; rfl; apply DW.callE; rfl; rfl; rfl; exact WantT.none; rfl; infer_instance; apply ArgsOk.cons; rfl; apply ArgsOk.cons; rfl; exact ArgsOk.nil; rfl; exact ReadAll.nil; intro w _ _; refine Bit_calls _ _ ?_ ?_ w; assumption; omega; apply DW.loadO; rfl; rfl; rfl; exact WantT.none; rfl; apply TRead.head; exact ancB_nil; exact Rd.whole rfl; apply DW.v0; rfl; rfl; rfl; exact WantT.none; rfl; apply ValP.move; rfl; apply DW.nil; simp only [fsOf_cons, fsOf_nil, fsOf_app, fsOf_tsOf, fsOf_new]; apply LW.callE; rfl; rfl; infer_instance; apply ArgsOk.cons; rfl; apply ArgsOk.cons; rfl; exact ArgsOk.nil; intro w _; refine Bit_calls _ _ ?_ ?_ w; assumption; omega; apply LW.v0; rfl; rfl; apply ValP.assign; rfl; apply LW.v0; rfl; rfl; apply ValP.assign; rfl; apply LW.nil; refine thenN ?_; refine CW.seq ?_; refine CW.region ?_; apply LW.v0; rfl; rfl; apply ValP.move; rfl; apply LW.v0; rfl; rfl; apply ValP.move; rfl; apply LW.v0; rfl; rfl; apply ValP.lssF; rfl; rfl; omega; apply LW.nil; refine thenN ?_; apply CW.condF; rfl; (with_reducible rfl); refine CW.seq ?_; refine CW.region ?_; apply LW.v0; rfl; rfl; apply ValP.move; rfl; apply LW.v0; rfl; rfl; apply ValP.move; rfl; apply LW.v0; rfl; rfl; apply ValP.gtrF; rfl; rfl; omega; apply LW.nil; refine thenN ?_; apply CW.condF; rfl; (with_reducible rfl); refine CW.skip ?_; refine blkN ?_; refine thenN ?_; refine CW.region ?_; apply LW.v0; rfl; rfl; apply ValP.move; rfl; apply LW.v0; rfl; rfl; apply ValP.subI; rfl; rfl; omega; omega; apply LW.v0; rfl; rfl; apply ValP.assign; rfl; apply LW.nil)
      apply thenX
      exact ⟨rfl, k, ⟨by omega, hq⟩, Nat.lt_succ_self k, ⟨rfl, rfl, rfl, rfl, trivial⟩, List.Sublist.refl _⟩
    · have hlt := cmp_lt b a k he.symm h
      (refine CW.seq ?_; refine CW.seq ?_; refine CW.region ?_; apply LW.v0; rfl; rfl; apply ValP.move; rfl; apply LW.v0; rfl; rfl; apply ValP.geqT; rfl; rfl; omega; apply LW.nil; refine thenN ?_; apply CW.condT; rfl; (with_reducible rfl); refine CW.skip ?_; refine thenN ?_; refine CW.seq ?_; refine CW.block ?_; refine CW.seq ?_; apply CW.pre; refine AnyW.any 5 mixed (by decide +kernel) ?_; (try simp only [tsOf_cons, tsOf_nil, tsOf_app]); apply DW.loadO; rfl; rfl; rfl; exact WantT.none; rfl; apply TRead.tail; apply TRead.head; exact ancB_nil; exact Rd.whole rfl; apply DW.v0; rfl; rfl; rfl; exact WantT.none; rfl; apply ValP.move; rfl; apply DW.callE; rfl; rfl; rfl; exact WantT.none; rfl; infer_instance; apply ArgsOk.cons; rfl; apply ArgsOk.cons; rfl; exact ArgsOk.nil; rfl; exact ReadAll.nil; intro w _ _; refine Bit_calls _ _ ?_ ?_ w; assumption; omega; apply DW.loadO; rfl; rfl; rfl; exact WantT.none; rfl; apply TRead.head; exact ancB_nil; exact Rd.whole rfl; apply DW.v0; rfl; rfl; rfl; exact WantT.none; rfl; apply ValP.move; rfl; apply DW.nil; simp only [fsOf_cons, fsOf_nil, fsOf_app, fsOf_tsOf, fsOf_new]; apply LW.callE; rfl; rfl; infer_instance; apply ArgsOk.cons; rfl; apply ArgsOk.cons; rfl; exact ArgsOk.nil; intro w _; refine Bit_calls _ _ ?_ ?_ w; assumption; omega; apply LW.v0; rfl; rfl; apply ValP.assign; rfl; apply LW.v0; rfl; rfl; apply ValP.assign; rfl; apply LW.nil; refine thenN ?_; refine CW.seq ?_; refine CW.region ?_; apply LW.v0; rfl; rfl; apply ValP.move; rfl; apply LW.v0; rfl; rfl; apply ValP.move; rfl; apply LW.v0; rfl; rfl; apply ValP.lssF; rfl; rfl; omega; apply LW.nil; refine thenN ?_; apply CW.condF; rfl; (with_reducible rfl); refine CW.seq ?_; refine CW.region ?_; apply LW.v0; rfl; rfl; apply ValP.move; rfl; apply LW.v0; rfl; rfl; apply ValP.move; rfl; apply LW.v0; rfl; rfl; apply ValP.gtrT; rfl; rfl; omega; apply LW.nil; refine thenN ?_; apply CW.condT; rfl; (with_reducible rfl); refine CW.seq ?_; refine CW.region ?_; apply LW.v0; rfl; rfl; apply ValP.assign; rfl; apply LW.nil; refine thenN ?_; refine CW.ret ?_; refine blkR ?_; refine thenR ?_; refine thenR ?_; refine blkR ?_; refine thenR ?_)
      (apply finR; exact .inl rfl; rfl; rfl; rfl; apply ResL.cons; exact Res.tmp rfl; exact ResL.nil)
      rw [if_neg (by omega), if_pos hlt]; rfl
end Go.Proofs.Ytahoghldnijnbaa
