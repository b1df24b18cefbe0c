/-
  Words and their bytes: contracts.
  Conditions: none.
-/
import Derived.Test.YtahoghldnijnbaaW23
import Derived.Test.YtahoghldnijnbaaSlt
namespace Go.Proofs.Ytahoghldnijnbaa
open Go Go.RowKit SL
set_option maxRecDepth 8000
set_option maxHeartbeats 4000000
set_option linter.unusedSimpArgs false
set_option linter.unusedVariables false
attribute [local irreducible] SL.CW SL.LW SL.DW Calls SL.Ret SL.RetG SL.beginQ SL.roundQ SL.rangeQ SL.inQ SL.RW SL.AnyW SL.thenQ SL.thenC SL.thenW SL.blkQ SL.finQ SL.ValP SL.NewP SL.SetP SL.CallP SL.Rd SL.Wr SL.Known
/-! ### The same bytes? -/
theorem Equal_calls (va vb : Value) (la lb : List UInt8) (na nb : Nat) (w : World) (ha : RowAt w 1 va na (ucs la)) (hb : RowAt w 1 vb nb (ucs lb)) : Calls Try.prog 29 #[va, vb] w (Ret w (.bool (decide (la = lb)))) := by
  refine enter (args := [_, _]) _ [] [] Try.func29 rfl Try.ntmps29 rfl (by simp) .nil ?_
  (refine CW.seq ?_; refine CW.region ?_; apply LW.v0; rfl; rfl; apply ValP.assign; rfl; apply LW.nil; refine thenN ?_; refine CW.seq ?_; refine CW.region ?_; apply LW.v0; rfl; rfl; apply ValP.move; rfl)
  apply LW.toStr
  rfl
  infer_instance
  infer_instance
  infer_instance
  rfl
  exact fun w hs => ha.st hs
  (apply LW.v0; rfl; rfl; apply ValP.move; rfl)
  apply LW.toStr
  rfl
  infer_instance
  infer_instance
  infer_instance
  rfl
  exact fun w hs => hb.st hs
  (apply LW.v0; rfl; rfl; apply ValP.strEq; rfl; rfl; apply LW.v0; rfl; rfl; apply ValP.assign; rfl; apply LW.nil; refine thenN ?_; refine CW.ret ?_)
  (apply finR; exact .inl rfl; rfl; rfl; rfl; apply ResL.cons; exact Res.tmp rfl; exact ResL.nil)
  rw [bytes_eq]
  rfl
/-! ### Bytes of a number, the highest one first -/
def beb (m a : Nat) : List UInt8 := (List.range m).map fun i => UInt8.ofNat (a / 256 ^ (m - 1 - i))
theorem beb_len (m a : Nat) : (beb m a).length = m := by simp [beb]
theorem beb_get (m a i : Nat) (h : i < m) : (beb m a)[i]? = some (UInt8.ofNat (a / 256 ^ (m - 1 - i))) := by simp [beb, h]
theorem byte_limb (a n : Nat) (hn : n < 32) : a / 2 ^ (64 * (0 + n / 8 * 1)) % 18446744073709551616 / 2 ^ (8 * (n % 8)) % 256 = a / 256 ^ n % 256 := by
  rw [show (18446744073709551616 : Nat) = 2 ^ (8 * (n % 8) + (64 - 8 * (n % 8))) by rw [show 8 * (n % 8) + (64 - 8 * (n % 8)) = 64 by omega]]
  rw [Nat.pow_add, Nat.mod_mul_right_div_self, Nat.div_div_eq_div_mul, ← Nat.pow_add, show 64 * (0 + n / 8 * 1) + 8 * (n % 8) = 8 * n by omega, Nat.pow_mul]
  obtain ⟨j, hj⟩ : ∃ j, 64 - 8 * (n % 8) = 8 + j := ⟨56 - 8 * (n % 8), by omega⟩
  rw [hj, Nat.pow_add, show (256 : Nat) = 2 ^ 8 from rfl, Nat.mod_mod_of_dvd _ ⟨2 ^ j, rfl⟩]
theorem beb_u8 (a k : Nat) (hk : k < 32) : ((a / 2 ^ (64 * (0 + (32 - 1 - k) / 8 * 1)) % 18446744073709551616 / 2 ^ (8 * ((32 - 1 - k) % 8)) % 256 : Nat) : Int) = (((UInt8.ofNat (a / 256 ^ (32 - 1 - k))).toNat : Nat) : Int) := by
  rw [byte_limb a _ (by omega), UInt8.toNat_ofNat']
/-- The first k bytes, the others 0. -/
def fillB (L : List UInt8) (k : Nat) : List UInt8 := L.take k ++ List.replicate (L.length - k) 0
theorem fillB_step (L : List UInt8) (k : Nat) (u : UInt8) (h : k < L.length) (hu : L[k]? = some u) : ucs ((fillB L k).take k) ++ [Value.int .u8 (u.toNat : Int)] ++ ucs ((fillB L k).drop (k + 1)) = ucs (fillB L (k + 1)) := by
  have h1 : (L.take k).length = k := by simp; omega
  have e1 : (fillB L k).take k = L.take k := by unfold fillB; rw [List.take_append_of_le_length (by omega), List.take_of_length_le (by omega)]
  have e2 : (fillB L k).drop (k + 1) = List.replicate (L.length - (k + 1)) 0 := by
    unfold fillB
    rw [List.drop_append, h1, List.drop_eq_nil_of_le (by omega), List.nil_append, List.drop_replicate]
    congr 1; omega
  obtain ⟨hk, hv⟩ := List.getElem?_eq_some_iff.1 hu
  rw [e1, e2, show [Value.int .u8 (u.toNat : Int)] = ucs [u] from rfl, ← ucs_app, ← ucs_app]
  unfold fillB
  rw [List.take_succ_eq_append_getElem hk, hv]
theorem fillB_len (L : List UInt8) (k : Nat) (h : k ≤ L.length) : (fillB L k).length = L.length := by simp [fillB]; omega
structure BX where
  m : Nat
  seg : Fs
theorem Bytes_calls (a : Nat) (ha : a < M256) (w : World) : Calls Try.prog 30 #[wv a] w (RetG w [] fun v gs => IsRow 5 1 v 32 (ucs (beb 32 a)) gs) := by
  refine enter (args := [_]) _ [] [] Try.func30 rfl Try.ntmps30 rfl (by simp) .nil ?_
  (refine CW.seq ?_; refine CW.region ?_; apply LW.boxA; rfl; rfl; intro _; apply LW.v0; rfl; rfl; apply ValP.assign; rfl; apply LW.nil; refine thenN ?_; refine CW.seq ?_; refine CW.region ?_)
  rename_i b
  refine LW.makeRow (n := 32) rfl inferInstance inferInstance inferInstance rfl rfl (by decide) (by decide) ?_
  intro v0 seg0 hrow0
  obtain ⟨p0, c0, rfl⟩ := hrow0.form
  rw [← ucs_zero] at hrow0
  (apply LW.v0; rfl; rfl; apply ValP.assign; rfl; apply LW.nil; refine thenN ?_; refine CW.seq ?_; refine CW.seq ?_; refine CW.region ?_; apply LW.v0; rfl; rfl; apply ValP.move; rfl; apply LW.v0; rfl; rfl; apply ValP.lenR; rfl; infer_instance; rfl; apply LW.v0; rfl; rfl; apply ValP.move; rfl; apply LW.nil; refine thenN ?_; refine CW.block ?_)
  refine CW.loop (fun x : BX => ([(9, .int .i64 (x.m : Int)), (8, .int .i64 32), (3, .slice p0 32 c0), (1, .pointer (some ⟨b, 0, none⟩))], x.seg ++ [(b, .cells (wc a) 24 (0, 0))]))
    (fun x => x.m ≤ 32 ∧ IsRow 5 1 (.slice p0 32 c0) 32 (ucs (fillB (beb 32 a) x.m)) x.seg) (fun x => 32 - x.m) ⟨0, seg0⟩ ⟨Nat.zero_le _, by simpa [fillB, beb_len] using hrow0⟩ ⟨rfl, rfl, rfl, rfl, trivial⟩ (List.Sublist.refl _) ?_
  rintro ⟨k, seg⟩ ⟨hk, hrow⟩
  dsimp only at hk hrow ⊢
  rcases Nat.lt_or_ge k 32 with hlt | hge
  · obtain ⟨g, cur, rfl, rfl, hc1, hmx, hsz, ht⟩ := hrow.pos (by decide)
    have hu := beb_get 32 a k hlt
    have hval := beb_u8 a k hlt
    obtain ⟨u, hu'⟩ : ∃ u, u = UInt8.ofNat (a / 256 ^ (32 - 1 - k)) := ⟨_, rfl⟩
    rw [← hu'] at hu hval
    obtain ⟨w1, w2⟩ := wr_take (i := k) (vs := [Value.int .u8 (u.toNat : Int)]) ht rfl hlt (by omega)
    rw [ucs_take, ucs_drop, fillB_step _ _ _ (by rw [beb_len]; exact hlt) hu] at w1
    have hW : Wr Try.prog 5 (.cells cur 5 (0, 0)) (0 + k * 1) (.int .u8 (u.toNat : Int)) (.cells (wrCells cur (k * 1) [Value.int .u8 (u.toNat : Int)]) 5 (0, 0)) := Wr.cells rfl rfl (by rw [hsz]; show 0 + k * 1 + 1 ≤ c0 * 1; omega) (by rw [Nat.zero_add]; rfl)
    rw [← hval] at hW
    (refine CW.seq ?_; refine CW.region ?_; apply LW.v0; rfl; rfl; apply ValP.lssT; rfl; rfl; omega; apply LW.nil; refine thenN ?_; refine CW.seq ?_; apply CW.condT; rfl; (with_reducible rfl); refine CW.skip ?_; refine thenN ?_; refine CW.seq ?_; refine CW.block ?_; refine CW.seq ?_; refine CW.region ?_; apply LW.v0; rfl; rfl; apply ValP.move; rfl; apply LW.v0; rfl; rfl; apply ValP.assign; rfl; apply LW.nil; refine thenN ?_; refine CW.seq ?_; refine CW.region ?_; apply LW.v0; rfl; rfl; apply ValP.move; rfl; apply LW.v0; rfl; rfl; apply ValP.lenR; rfl; infer_instance; rfl; apply LW.v0; rfl; rfl; apply ValP.subZL; rfl; rfl; decide; omega; omega; apply LW.v0; rfl; rfl; apply ValP.move; rfl; apply LW.v0; rfl; rfl; apply ValP.subZ; rfl; rfl; omega; omega; apply LW.v0; rfl; rfl; apply ValP.assign; rfl; apply LW.nil; refine thenN ?_; refine CW.region ?_; apply LW.v0; rfl; rfl; apply ValP.move; rfl; apply LW.v0; rfl; rfl; apply ValP.move; rfl; apply LW.v0; rfl; rfl; apply ValP.move; rfl; apply LW.v0; rfl; rfl; apply ValP.quoZL; rfl; rfl; decide; omega; omega; apply LW.v0; rfl; rfl; apply ValP.indexAddrA; rfl; rfl; rfl; omega; apply LW.load; rfl; rfl; apply Known.at; apply FsAt.tail; apply FsAt.head; apply Rd.one'; apply nth_wc; omega; apply LW.v0; rfl; rfl; apply ValP.move; rfl; apply LW.v0; rfl; rfl; apply ValP.remZL; rfl; rfl; decide; omega; apply LW.v0; rfl; rfl; apply ValP.mulZK; rfl; rfl; decide; omega; apply LW.v0; rfl; rfl; apply ValP.shrU; rfl; rfl; omega; apply LW.v0; rfl; rfl; apply ValP.convB; rfl; apply LW.v0; rfl; rfl; apply ValP.indexAddrS; rfl; rfl; rfl; omega; apply LW.store; rfl; rfl; apply SetAt.head; assumption; apply LW.nil; refine blkN ?_; refine thenN ?_; refine CW.region ?_; apply LW.v0; rfl; rfl; apply ValP.addZL; rfl; rfl; decide; omega; apply LW.v0; rfl; rfl; apply ValP.move; rfl; apply LW.nil)
    apply thenX
    refine ⟨rfl, ⟨k + 1, _⟩, ⟨hlt, .own hc1 hmx (by rw [w2, hsz]) w1 ?_⟩, by show 32 - (k + 1) < 32 - k; omega, ⟨rfl, rfl, rfl, rfl, trivial⟩, by rw [hval]; exact List.Sublist.refl _⟩
    rw [ucs_len, fillB_len _ _ (by rw [beb_len]; exact hlt), beb_len]
  · obtain rfl : k = 32 := by omega
    rw [show fillB (beb 32 a) 32 = beb 32 a by simp [fillB, beb_len, List.take_of_length_le]] at hrow
    (refine CW.seq ?_; refine CW.region ?_; apply LW.v0; rfl; rfl; apply ValP.lssF; rfl; rfl; omega; apply LW.nil; refine thenN ?_; refine CW.seq ?_; apply CW.condF; rfl; (with_reducible rfl); refine CW.exit ?_; refine thenE ?_; refine thenE ?_; refine blkE rfl ?_; refine thenN ?_; refine CW.seq ?_; refine CW.region ?_; apply LW.v0; rfl; rfl; apply ValP.move; rfl; apply LW.v0; rfl; rfl; apply ValP.assign; rfl; apply LW.nil; refine thenN ?_; refine CW.ret ?_)
    apply finM seg; (exact .inl rfl); (exact Shut.nil); rfl; (apply ResL.cons; exact Res.tmp rfl; exact ResL.nil); exact List.sublist_append_left _ _
    exact hrow
theorem rBytes_calls (a : Nat) (ha : a < M256) (w : World) : Calls Try.prog 31 #[wv a] w (RetG w [] fun v gs => IsRow 5 1 v 32 (ucs (beb 32 a)) gs) := by
  refine enter (args := [_]) _ [] [] Try.func31 rfl Try.ntmps31 rfl (by simp) .nil ?_
  (refine CW.seq ?_; refine CW.region ?_; apply LW.boxA; rfl; rfl; intro _; apply LW.v0; rfl; rfl; apply ValP.assign; rfl; apply LW.nil; refine thenN ?_; refine CW.seq ?_; refine CW.region ?_; apply LW.v0; rfl; rfl; apply ValP.assign; rfl; apply LW.nil; refine thenN ?_; refine CW.seq ?_; refine CW.seq ?_; refine CW.region ?_; apply LW.v0; rfl; rfl; apply ValP.assign; rfl; apply LW.nil; refine thenN ?_; refine CW.block ?_)
  rename_i b
  refine CW.loop (fun x : RX => ([(4, .int .i64 (31 - (x.m : Int))), (3, x.v), (1, .pointer (some ⟨b, 0, none⟩))], x.seg ++ [(b, .cells (wc a) 24 (0, 0))]))
    (fun x => x.m ≤ 32 ∧ IsRow 5 1 x.v x.m (ucs ((beb 32 a).take x.m)) x.seg) (fun x => 32 - x.m) ⟨0, .slice none 0 0, []⟩ ⟨Nat.zero_le _, .nil⟩ ⟨rfl, rfl, rfl, trivial⟩ (List.Sublist.refl _) ?_
  rintro ⟨k, v, seg⟩ ⟨hk, hrow⟩
  dsimp only at hk hrow ⊢
  obtain ⟨p, c, rfl⟩ := hrow.form
  rcases Nat.lt_or_ge k 32 with hlt | hge
  · have e0 : (31 - (k : Int)) = ((32 - 1 - k : Nat) : Int) := by omega
    have e1 : (31 - ((k + 1 : Nat) : Int)) = ((32 - 1 - k : Nat) : Int) - 1 := by omega
    rw [e0]
    have hu := beb_get 32 a k hlt
    have hval := beb_u8 a k hlt
    obtain ⟨u, hu'⟩ : ∃ u, u = UInt8.ofNat (a / 256 ^ (32 - 1 - k)) := ⟨_, rfl⟩
    rw [← hu'] at hu hval
    have hn32 : 32 - 1 - k < 32 := by omega
    obtain ⟨n, hn⟩ : ∃ n, n = 32 - 1 - k := ⟨_, rfl⟩
    rw [← hn] at hval hn32 e1 ⊢
    (refine CW.seq ?_; refine CW.seq ?_; refine CW.region ?_; apply LW.v0; rfl; rfl; apply ValP.move; rfl; apply LW.v0; rfl; rfl; apply ValP.geqT; rfl; rfl; omega; apply LW.nil; refine thenN ?_; apply CW.condT; rfl; (with_reducible rfl); refine CW.skip ?_; refine thenN ?_; refine CW.seq ?_; refine CW.block ?_; refine CW.region ?_; apply LW.v0; rfl; rfl; apply ValP.move; rfl; apply LW.v0; rfl; rfl; apply ValP.move; rfl; apply LW.v0; rfl; rfl; apply ValP.quoZL; rfl; rfl; decide; omega; omega; apply LW.v0; rfl; rfl; apply ValP.indexAddrA; rfl; rfl; rfl; omega; apply LW.load; rfl; rfl; apply Known.at; apply FsAt.app; apply FsAt.head; apply Rd.one'; apply nth_wc; omega; apply LW.v0; rfl; rfl; apply ValP.move; rfl; apply LW.v0; rfl; rfl; apply ValP.remZL; rfl; rfl; decide; omega; apply LW.v0; rfl; rfl; apply ValP.mulZK; rfl; rfl; decide; omega; apply LW.v0; rfl; rfl; apply ValP.shrU; rfl; rfl; omega; apply LW.v0; rfl; rfl; apply ValP.convB; rfl; apply LW.lay1; rfl; infer_instance; infer_instance; rfl; rfl; rfl; rfl; rfl; rfl; intro _)
    rw [hval]
    skip
    (apply LW.append; rfl; rfl; infer_instance; infer_instance; infer_instance; rfl; rfl; rfl; (case hrow => assumption); apply AtSeg.cons; exact AtSeg.head; apply Known.at; apply FsAt.head; rfl; rfl; rfl; omega; simp only [maxLen]; omega; omega; intro v' seg' hrow'; obtain ⟨p', c', rfl⟩ := hrow'.form; (refine ⟨_, (by (repeat (first | exact AtSeg.head | apply AtSeg.cons | apply AtSeg.app))), ?_⟩); (try simp only [List.cons_append, List.nil_append]))
    (apply LW.v0; rfl; rfl; apply ValP.assign; rfl; apply LW.nil; refine blkN ?_; refine thenN ?_; refine CW.region ?_; apply LW.v0; rfl; rfl; apply ValP.move; rfl; apply LW.v0; rfl; rfl; apply ValP.subI; rfl; rfl; omega; omega; apply LW.v0; rfl; rfl; apply ValP.assign; rfl; apply LW.nil)
    apply thenX
    refine ⟨rfl, ⟨k + 1, _, seg'⟩, ⟨hlt, ?_⟩, by show 32 - (k + 1) < 32 - k; omega, ⟨congrArg (fun z => some (Value.int .i64 z)) e1.symm, rfl, rfl, trivial⟩, by (apply List.Sublist.cons; exact List.Sublist.refl _)⟩
    obtain ⟨h1, h2⟩ := List.getElem?_eq_some_iff.1 hu
    rw [List.take_succ_eq_append_getElem h1, h2, ucs_app]
    exact hrow'
  · obtain rfl : k = 32 := by omega
    rw [List.take_of_length_le (by rw [beb_len]; exact Nat.le_refl _)] at hrow
    (refine CW.seq ?_; refine CW.seq ?_; refine CW.region ?_; apply LW.v0; rfl; rfl; apply ValP.move; rfl; apply LW.v0; rfl; rfl; apply ValP.geqF; rfl; rfl; omega; apply LW.nil; refine thenN ?_; apply CW.condF; rfl; (with_reducible rfl); refine CW.exit ?_; refine thenE ?_; refine thenE ?_; refine blkE rfl ?_; refine thenN ?_; refine CW.seq ?_; refine CW.region ?_; apply LW.v0; rfl; rfl; apply ValP.move; rfl; apply LW.v0; rfl; rfl; apply ValP.assign; rfl; apply LW.nil; refine thenN ?_; refine CW.ret ?_)
    apply finM seg; (exact .inl rfl); (exact Shut.nil); rfl; (apply ResL.cons; exact Res.tmp rfl; exact ResL.nil); exact List.sublist_append_left _ _
    exact hrow
/-! ### The word of bytes -/
def bev (l : List UInt8) : Nat := l.foldl (fun n u => 256 * n + u.toNat) 0
theorem bev_snoc (l : List UInt8) (u : UInt8) : bev (l ++ [u]) = 256 * bev l + u.toNat := by simp [bev, List.foldl_append]
theorem bev_go (l : List UInt8) : ∀ n, l.foldl (fun n u => 256 * n + u.toNat) n < (n + 1) * 2 ^ (8 * l.length) := by
  induction l with
  | nil => intro n; simp
  | cons u l ih =>
    intro n
    have hu := u.toNat_lt
    rw [List.foldl_cons, List.length_cons, show 8 * (l.length + 1) = 8 + 8 * l.length by omega, Nat.pow_add, ← Nat.mul_assoc]
    exact Nat.lt_of_lt_of_le (ih _) (Nat.mul_le_mul_right _ (by omega))
theorem bev_lt (l : List UInt8) : bev l < 2 ^ (8 * l.length) := by
  have := bev_go l 0
  rwa [Nat.zero_add, Nat.one_mul] at this
/-- What is read of the first m bytes. -/
def bup (l : List UInt8) (m : Nat) : Nat := bev (l.take m) * 2 ^ (8 * (l.length - m))
theorem bup_lt (l : List UInt8) (m : Nat) (hm : m ≤ l.length) (hl : l.length ≤ 32) : bup l m < M256 := by
  have h := bev_lt (l.take m)
  rw [List.length_take, Nat.min_eq_left hm] at h
  unfold bup
  calc _ < 2 ^ (8 * m) * 2 ^ (8 * (l.length - m)) := Nat.mul_lt_mul_of_pos_right h (pow_pos2 _)
    _ = 2 ^ (8 * l.length) := by rw [← Nat.pow_add]; congr 1; omega
    _ ≤ 2 ^ 256 := Nat.pow_le_pow_right (by decide) (by omega)
theorem bup_step (l : List UInt8) (m : Nat) (h : m < l.length) : bup l m ||| l[m].toNat * 2 ^ (8 * (l.length - 1 - m)) = bup l (m + 1) := by
  have hu := l[m].toNat_lt
  have e : 2 ^ (8 * (l.length - m)) = 256 * 2 ^ (8 * (l.length - 1 - m)) := by rw [show 8 * (l.length - m) = 8 + 8 * (l.length - 1 - m) by omega, Nat.pow_add]
  have hp := pow_pos2 (8 * (l.length - 1 - m))
  unfold bup
  rw [or_low (R := 2 ^ (8 * (l.length - m))) rfl ⟨bev (l.take m), Nat.mul_comm _ _⟩ (by rw [e]; exact Nat.mul_lt_mul_of_pos_right hu hp)]
  rw [List.take_succ_eq_append_getElem h, bev_snoc, Nat.add_mul, e, show l.length - (m + 1) = l.length - 1 - m by omega, ← Nat.mul_assoc, Nat.mul_comm (bev _) 256]
theorem or_limb (X Z k : Nat) : (X ||| Z) / 2 ^ k % 18446744073709551616 = X / 2 ^ k % 18446744073709551616 ||| Z / 2 ^ k % 18446744073709551616 := by
  rw [Nat.or_div_two_pow, show (18446744073709551616 : Nat) = 2 ^ 64 from rfl, Nat.or_mod_two_pow]
theorem wc_or (X Z : Nat) : wc (X ||| Z) = #[.int .u64 ((X % 18446744073709551616 ||| Z % 18446744073709551616 : Nat) : Int), .int .u64 ((X / 18446744073709551616 % 18446744073709551616 ||| Z / 18446744073709551616 % 18446744073709551616 : Nat) : Int),
    .int .u64 ((X / 340282366920938463463374607431768211456 % 18446744073709551616 ||| Z / 340282366920938463463374607431768211456 % 18446744073709551616 : Nat) : Int), .int .u64 ((X / 6277101735386680763835789423207666416102355444464034512896 % 18446744073709551616 ||| Z / 6277101735386680763835789423207666416102355444464034512896 % 18446744073709551616 : Nat) : Int)] := by
  have h0 := or_limb X Z 0
  have h1 := or_limb X Z 64
  have h2 := or_limb X Z 128
  have h3 := or_limb X Z 192
  simp only [Nat.pow_zero, Nat.div_one, Nat.reducePow] at h0 h1 h2 h3
  rw [wc, h0, h1, h2, h3]
theorem wc_setor (X i v : Nat) (hi : i < 4) (hv : v < 18446744073709551616) : ((wc X).toList.set i (.int .u64 ((limb X i ||| v : Nat) : Int))).toArray = wc (X ||| v * 2 ^ (64 * i)) := by
  rw [wc_or]
  have e0 : v % 18446744073709551616 = v := Nat.mod_eq_of_lt hv
  unfold limb
  rcases (show i = 0 ∨ i = 1 ∨ i = 2 ∨ i = 3 by omega) with rfl | rfl | rfl | rfl <;> simp only [wc, List.set_cons_zero, List.set_cons_succ, Nat.mul_zero, Nat.pow_zero, Nat.div_one, Nat.mul_one, Nat.reduceMul, Nat.reducePow]
  · rw [e0, show v / 18446744073709551616 % 18446744073709551616 = 0 by omega, show v / 340282366920938463463374607431768211456 % 18446744073709551616 = 0 by omega, show v / 6277101735386680763835789423207666416102355444464034512896 % 18446744073709551616 = 0 by omega, Nat.or_zero, Nat.or_zero, Nat.or_zero]
  · rw [show v * 18446744073709551616 / 18446744073709551616 % 18446744073709551616 = v by omega, show v * 18446744073709551616 % 18446744073709551616 = 0 by omega, show v * 18446744073709551616 / 340282366920938463463374607431768211456 % 18446744073709551616 = 0 by omega, show v * 18446744073709551616 / 6277101735386680763835789423207666416102355444464034512896 % 18446744073709551616 = 0 by omega, Nat.or_zero, Nat.or_zero, Nat.or_zero]
  · rw [show v * 340282366920938463463374607431768211456 / 18446744073709551616 % 18446744073709551616 = 0 by omega, show v * 340282366920938463463374607431768211456 % 18446744073709551616 = 0 by omega, show v * 340282366920938463463374607431768211456 / 340282366920938463463374607431768211456 % 18446744073709551616 = v by omega, show v * 340282366920938463463374607431768211456 / 6277101735386680763835789423207666416102355444464034512896 % 18446744073709551616 = 0 by omega, Nat.or_zero, Nat.or_zero, Nat.or_zero]
  · rw [show v * 6277101735386680763835789423207666416102355444464034512896 / 18446744073709551616 % 18446744073709551616 = 0 by omega, show v * 6277101735386680763835789423207666416102355444464034512896 % 18446744073709551616 = 0 by omega, show v * 6277101735386680763835789423207666416102355444464034512896 / 340282366920938463463374607431768211456 % 18446744073709551616 = 0 by omega, show v * 6277101735386680763835789423207666416102355444464034512896 / 6277101735386680763835789423207666416102355444464034512896 % 18446744073709551616 = v by omega, Nat.or_zero, Nat.or_zero, Nat.or_zero]
theorem byte_wr (X n u : Nat) (hn : n < 32) (hu : u < 256) {E : TypeId} : Wr Try.prog 22 (.cells (wc X) E (0, 0)) (0 + n / 8 * 1) (.int .u64 ((limb X (n / 8) ||| u * 2 ^ (8 * (n % 8)) % 18446744073709551616 : Nat) : Int)) (.cells (wc (X ||| u * 2 ^ (8 * n))) E (0, 0)) :=
  Wr.cells rfl rfl (by show 0 + n / 8 * 1 + 1 ≤ 4; omega) (by
    have h7 : 2 ^ (8 * (n % 8)) ≤ 2 ^ 56 := Nat.pow_le_pow_right (by decide) (by omega)
    have hlt : u * 2 ^ (8 * (n % 8)) < 18446744073709551616 := by
      have := Nat.mul_le_mul (show u ≤ 255 by omega) h7
      have : (255 : Nat) * 2 ^ 56 < 18446744073709551616 := by decide
      omega
    have h := wc_setor X (n / 8) (u * 2 ^ (8 * (n % 8))) (by omega) hlt
    rw [Nat.mul_assoc, ← Nat.pow_add, show 8 * (n % 8) + 64 * (n / 8) = 8 * n by omega] at h
    rw [Nat.zero_add, Nat.mul_one, Nat.mod_eq_of_lt hlt, ← h]
    apply Array.toList_inj.1
    simp [wrCells, Value.cells])
theorem Read_calls (v : Value) (l : List UInt8) (w : World) (hv : RowAt w 1 v l.length (ucs l)) (hl : l.length ≤ 32) : Calls Try.prog 32 #[v] w (Ret w (.tuple #[wv (bev l), .int .i64 0])) := by
  obtain ⟨p, c, rfl, hc, hm⟩ := hv.form
  simp only [maxLen] at hm
  refine enter (args := [_]) _ [] [] Try.func32 rfl Try.ntmps32 rfl (by simp) .nil ?_
  (refine CW.seq ?_; refine CW.region ?_; apply LW.allocW; rfl; intro _; apply LW.v0; rfl; rfl; apply ValP.assign; rfl; apply LW.nil; refine thenN ?_; refine CW.seq ?_; refine CW.region ?_; apply LW.allocW; rfl; intro _; apply LW.nil; refine thenN ?_; refine CW.seq ?_; refine CW.seq ?_; refine CW.region ?_; apply LW.v0; rfl; rfl; apply ValP.move; rfl; apply LW.v0; rfl; rfl; apply ValP.lenR; rfl; infer_instance; rfl; apply LW.v0; rfl; rfl; apply ValP.gtrF; rfl; rfl; omega; apply LW.nil; refine thenN ?_; apply CW.condF; rfl; (with_reducible rfl); refine CW.skip ?_; refine thenN ?_; refine CW.seq ?_; refine CW.seq ?_; refine CW.region ?_; apply LW.v0; rfl; rfl; apply ValP.move; rfl; apply LW.v0; rfl; rfl; apply ValP.lenR; rfl; infer_instance; rfl; apply LW.v0; rfl; rfl; apply ValP.move; rfl; apply LW.nil; refine thenN ?_; refine CW.block ?_)
  rename_i b2 b4
  refine CW.loop (fun m : Nat => ([(14, .int .i64 (m : Int)), (13, .int .i64 (l.length : Int)), (12, .slice p l.length c), (0, .slice p l.length c), (4, .pointer (some ⟨b4, 0, none⟩)), (2, .pointer (some ⟨b2, 0, none⟩))],
      [(b4, .cells (wc (bup l m)) 24 (0, 0)), (b2, .cells (wc 0) 24 (0, 0))]))
    (fun m => m ≤ l.length) (fun m => l.length - m) 0 (Nat.zero_le _) ⟨rfl, rfl, rfl, rfl, rfl, rfl, trivial⟩ (by simp [bup, bev]) ?_
  intro m hml
  dsimp only at hml ⊢
  rcases Nat.lt_or_ge m l.length with hlt | hge
  · obtain ⟨b, off, c', cs, E, fr, heq, hb, hx⟩ := hv.pos (by omega)
    cases heq
    obtain ⟨u, hu⟩ : ∃ u, u = l[m] := ⟨_, rfl⟩
    have hrd : Rd Try.prog 5 (.cells cs E fr) (off + m * 1) (.int .u8 (u.toNat : Int)) := Rd.elem1 hx (ucs_one l) (by rw [hu]; exact List.getElem?_eq_getElem hlt) rfl
    have hu8 := u.toNat_lt
    have hst := bup_step l m hlt
    rw [← hu] at hst
    have hn32 : l.length - 1 - m < 32 := by omega
    obtain ⟨X, hX⟩ : ∃ X, X = bup l m := ⟨_, rfl⟩
    rw [← hX] at hst ⊢
    have hlm := limb_lt X ((l.length - 1 - m) / 8)
    have hrl := limb_rd X ((l.length - 1 - m) / 8) (by omega) (E := 24) (fr := (0, 0))
    have hW := byte_wr X (l.length - 1 - m) u.toNat hn32 hu8 (E := 24)
    have hv8 : u.toNat * 2 ^ (8 * ((l.length - 1 - m) % 8)) % 18446744073709551616 < 18446744073709551616 := Nat.mod_lt _ (by decide)
    rw [hst] at hW
    (refine CW.seq ?_; refine CW.region ?_; apply LW.v0; rfl; rfl; apply ValP.lssT; rfl; rfl; omega; apply LW.nil; refine thenN ?_; refine CW.seq ?_; apply CW.condT; rfl; (with_reducible rfl); refine CW.skip ?_; refine thenN ?_; refine CW.seq ?_; refine CW.block ?_; refine CW.seq ?_; refine CW.region ?_; apply LW.v0; rfl; rfl; apply ValP.move; rfl; apply LW.v0; rfl; rfl; apply ValP.indexAddrS; rfl; rfl; rfl; omega; apply LW.load; rfl; rfl; exact Known.ext (by assumption) (by simp); assumption; apply LW.v0; rfl; rfl; apply ValP.assign; rfl; apply LW.v0; rfl; rfl; apply ValP.assign; rfl; apply LW.nil; refine thenN ?_; refine CW.seq ?_; refine CW.region ?_; apply LW.v0; rfl; rfl; apply ValP.move; rfl; apply LW.v0; rfl; rfl; apply ValP.lenR; rfl; infer_instance; rfl; apply LW.v0; rfl; rfl; apply ValP.subZL; rfl; rfl; decide; omega; omega; apply LW.v0; rfl; rfl; apply ValP.move; rfl; apply LW.v0; rfl; rfl; apply ValP.subZ; rfl; rfl; omega; omega; apply LW.v0; rfl; rfl; apply ValP.assign; rfl; apply LW.nil; refine thenN ?_; apply CW.pre; refine AnyW.any 10 mixed (by decide +kernel) ?_; (try simp only [tsOf_cons, tsOf_nil, tsOf_app]); apply DW.v0; rfl; rfl; rfl; exact WantT.none; rfl; apply ValP.move; rfl; apply DW.v0; rfl; rfl; rfl; exact WantT.none; rfl; apply ValP.quoZL; rfl; rfl; decide; omega; omega; apply DW.v0; rfl; rfl; rfl; exact WantT.none; rfl; apply ValP.indexAddrA; rfl; rfl; rfl; omega; apply DW.loadO; rfl; rfl; rfl; exact WantT.none; rfl; apply TRead.head; exact ancB_nil; assumption; apply DW.v0; rfl; rfl; rfl; exact WantT.none; rfl; apply ValP.move; rfl; apply DW.v0; rfl; rfl; rfl; exact WantT.none; rfl; apply ValP.convN; rfl; omega; omega; apply DW.v0; rfl; rfl; rfl; exact WantT.none; rfl; apply ValP.move; rfl; apply DW.v0; rfl; rfl; rfl; exact WantT.none; rfl; apply ValP.remZL; rfl; rfl; decide; omega; apply DW.v0; rfl; rfl; rfl; exact WantT.none; rfl; apply ValP.mulZK; rfl; rfl; decide; omega; apply DW.v0; rfl; rfl; rfl; exact WantT.none; rfl; apply ValP.shlU; rfl; rfl; omega; apply DW.nil; simp only [fsOf_cons, fsOf_nil, fsOf_app, fsOf_tsOf, fsOf_new]; apply LW.v0; rfl; rfl; apply ValP.orU; rfl; rfl; omega; omega; apply LW.v0; rfl; rfl; apply ValP.indexAddrA; rfl; rfl; rfl; omega; apply LW.store; rfl; rfl; apply SetAt.head; assumption; apply LW.nil; refine blkN ?_; refine thenN ?_; refine CW.region ?_; apply LW.v0; rfl; rfl; apply ValP.addZL; rfl; rfl; decide; omega; apply LW.v0; rfl; rfl; apply ValP.move; rfl; apply LW.nil)
    apply thenX
    exact ⟨rfl, m + 1, hlt, by omega, ⟨rfl, rfl, rfl, rfl, rfl, rfl, trivial⟩, List.Sublist.refl _⟩
  · obtain rfl : m = l.length := by omega
    rw [show bup l l.length = bev l by simp [bup]]
    (refine CW.seq ?_; refine CW.region ?_; apply LW.v0; rfl; rfl; apply ValP.lssF; rfl; rfl; omega; apply LW.nil; refine thenN ?_; refine CW.seq ?_; apply CW.condF; rfl; (with_reducible rfl); refine CW.exit ?_; refine thenE ?_; refine thenE ?_; refine blkE rfl ?_; refine thenN ?_; refine CW.seq ?_; refine CW.region ?_; apply LW.load; rfl; rfl; apply Known.at; apply FsAt.head; exact Rd.whole rfl; apply LW.store; rfl; rfl; apply SetAt.tail; apply SetAt.head; apply Wr.whole; rfl; rfl; rfl; apply LW.v0; rfl; rfl; apply ValP.assign; rfl; apply LW.nil; refine thenN ?_; refine CW.ret ?_)
    (apply finR; exact .inl rfl; rfl; rfl; rfl; apply ResL.cons; apply Res.cell; rfl; apply Known.at; apply FsAt.tail; apply FsAt.head; exact Rd.whole rfl; apply ResL.cons; exact Res.tmp rfl; exact ResL.nil)
    rfl
theorem ReadLong_calls (v : Value) (n : Nat) (xs : List Value) (w : World) (hv : RowAt w 1 v n xs) (hl : 32 < n) : Calls Try.prog 32 #[v] w (Ret w (.tuple #[wv 0, .int .i64 3])) := by
  obtain ⟨p, c, rfl, hc, hm⟩ := hv.form
  simp only [maxLen] at hm
  refine enter (args := [_]) _ [] [] Try.func32 rfl Try.ntmps32 rfl (by simp) .nil ?_
  (refine CW.seq ?_; refine CW.region ?_; apply LW.allocW; rfl; intro _; apply LW.v0; rfl; rfl; apply ValP.assign; rfl; apply LW.nil; refine thenN ?_; refine CW.seq ?_; refine CW.region ?_; apply LW.allocW; rfl; intro _; apply LW.nil; refine thenN ?_; refine CW.seq ?_; refine CW.seq ?_; refine CW.region ?_; apply LW.v0; rfl; rfl; apply ValP.move; rfl; apply LW.v0; rfl; rfl; apply ValP.lenR; rfl; infer_instance; rfl; apply LW.v0; rfl; rfl; apply ValP.gtrT; rfl; rfl; omega; apply LW.nil; refine thenN ?_; apply CW.condT; rfl; (with_reducible rfl); refine CW.seq ?_; refine CW.region ?_; apply LW.load; rfl; rfl; apply Known.at; apply FsAt.head; exact Rd.whole rfl; apply LW.store; rfl; rfl; apply SetAt.tail; apply SetAt.head; apply Wr.whole; rfl; rfl; rfl; apply LW.v0; rfl; rfl; apply ValP.assign; rfl; apply LW.nil; refine thenN ?_; refine CW.ret ?_; refine thenR ?_)
  (apply finR; exact .inl rfl; rfl; rfl; rfl; apply ResL.cons; apply Res.cell; rfl; apply Known.at; apply FsAt.tail; apply FsAt.head; exact Rd.whole rfl; apply ResL.cons; exact Res.tmp rfl; exact ResL.nil)
  rfl
theorem rRead_calls (v : Value) (l : List UInt8) (w : World) (hv : RowAt w 1 v l.length (ucs l)) (hl : l.length ≤ 32) : Calls Try.prog 33 #[v] w (Ret w (wv (bev l))) := by
  obtain ⟨p, c, rfl, hc, hm⟩ := hv.form
  simp only [maxLen] at hm
  refine enter (args := [_]) _ [] [] Try.func33 rfl Try.ntmps33 rfl (by simp) .nil ?_
  (refine CW.seq ?_; refine CW.region ?_; apply LW.allocW; rfl; intro _; apply LW.nil; refine thenN ?_; refine CW.seq ?_; refine CW.region ?_; apply LW.allocW; rfl; intro _; apply LW.nil; refine thenN ?_; refine CW.seq ?_; refine CW.seq ?_; refine CW.region ?_; apply LW.v0; rfl; rfl; apply ValP.move; rfl; apply LW.v0; rfl; rfl; apply ValP.lenR; rfl; infer_instance; rfl; apply LW.v0; rfl; rfl; apply ValP.move; rfl; apply LW.nil; refine thenN ?_; refine CW.block ?_)
  rename_i b2 b4
  refine CW.loop (fun m : Nat => ([(9, .int .i64 (m : Int)), (8, .int .i64 (l.length : Int)), (7, .slice p l.length c), (0, .slice p l.length c), (3, .pointer (some ⟨b4, 0, none⟩)), (2, .pointer (some ⟨b2, 0, none⟩))],
      [(b4, .cells (wc (bup l m)) 24 (0, 0)), (b2, .cells (wc 0) 24 (0, 0))]))
    (fun m => m ≤ l.length) (fun m => l.length - m) 0 (Nat.zero_le _) ⟨rfl, rfl, rfl, rfl, rfl, rfl, trivial⟩ (by simp [bup, bev]) ?_
  intro m hml
  dsimp only at hml ⊢
  rcases Nat.lt_or_ge m l.length with hlt | hge
  · obtain ⟨b, off, c', cs, E, fr, heq, hb, hx⟩ := hv.pos (by omega)
    cases heq
    obtain ⟨u, hu⟩ : ∃ u, u = l[m] := ⟨_, rfl⟩
    have hrd : Rd Try.prog 5 (.cells cs E fr) (off + m * 1) (.int .u8 (u.toNat : Int)) := Rd.elem1 hx (ucs_one l) (by rw [hu]; exact List.getElem?_eq_getElem hlt) rfl
    have hu8 := u.toNat_lt
    have hst := bup_step l m hlt
    rw [← hu] at hst
    have hn32 : l.length - 1 - m < 32 := by omega
    obtain ⟨X, hX⟩ : ∃ X, X = bup l m := ⟨_, rfl⟩
    rw [← hX] at hst ⊢
    have hlm := limb_lt X ((l.length - 1 - m) / 8)
    have hrl := limb_rd X ((l.length - 1 - m) / 8) (by omega) (E := 24) (fr := (0, 0))
    have hW := byte_wr X (l.length - 1 - m) u.toNat hn32 hu8 (E := 24)
    have hv8 : u.toNat * 2 ^ (8 * ((l.length - 1 - m) % 8)) % 18446744073709551616 < 18446744073709551616 := Nat.mod_lt _ (by decide)
    rw [hst] at hW
    (refine CW.seq ?_; refine CW.region ?_; apply LW.v0; rfl; rfl; apply ValP.lssT; rfl; rfl; omega; apply LW.nil; refine thenN ?_; refine CW.seq ?_; apply CW.condT; rfl; (with_reducible rfl); refine CW.skip ?_; refine thenN ?_; refine CW.seq ?_; refine CW.block ?_; refine CW.seq ?_; refine CW.region ?_; apply LW.v0; rfl; rfl; apply ValP.move; rfl; apply LW.v0; rfl; rfl; apply ValP.indexAddrS; rfl; rfl; rfl; omega; apply LW.load; rfl; rfl; exact Known.ext (by assumption) (by simp); assumption; apply LW.v0; rfl; rfl; apply ValP.assign; rfl; apply LW.v0; rfl; rfl; apply ValP.assign; rfl; apply LW.nil; refine thenN ?_; refine CW.seq ?_; refine CW.region ?_; apply LW.v0; rfl; rfl; apply ValP.move; rfl; apply LW.v0; rfl; rfl; apply ValP.lenR; rfl; infer_instance; rfl; apply LW.v0; rfl; rfl; apply ValP.subZL; rfl; rfl; decide; omega; omega; apply LW.v0; rfl; rfl; apply ValP.move; rfl; apply LW.v0; rfl; rfl; apply ValP.subZ; rfl; rfl; omega; omega; apply LW.v0; rfl; rfl; apply ValP.assign; rfl; apply LW.nil; refine thenN ?_; apply CW.pre; refine AnyW.any 10 mixed (by decide +kernel) ?_; (try simp only [tsOf_cons, tsOf_nil, tsOf_app]); apply DW.v0; rfl; rfl; rfl; exact WantT.none; rfl; apply ValP.move; rfl; apply DW.v0; rfl; rfl; rfl; exact WantT.none; rfl; apply ValP.quoZL; rfl; rfl; decide; omega; omega; apply DW.v0; rfl; rfl; rfl; exact WantT.none; rfl; apply ValP.indexAddrA; rfl; rfl; rfl; omega; apply DW.loadO; rfl; rfl; rfl; exact WantT.none; rfl; apply TRead.head; exact ancB_nil; assumption; apply DW.v0; rfl; rfl; rfl; exact WantT.none; rfl; apply ValP.move; rfl; apply DW.v0; rfl; rfl; rfl; exact WantT.none; rfl; apply ValP.convN; rfl; omega; omega; apply DW.v0; rfl; rfl; rfl; exact WantT.none; rfl; apply ValP.move; rfl; apply DW.v0; rfl; rfl; rfl; exact WantT.none; rfl; apply ValP.remZL; rfl; rfl; decide; omega; apply DW.v0; rfl; rfl; rfl; exact WantT.none; rfl; apply ValP.mulZK; rfl; rfl; decide; omega; apply DW.v0; rfl; rfl; rfl; exact WantT.none; rfl; apply ValP.shlU; rfl; rfl; omega; apply DW.nil; simp only [fsOf_cons, fsOf_nil, fsOf_app, fsOf_tsOf, fsOf_new]; apply LW.v0; rfl; rfl; apply ValP.orU; rfl; rfl; omega; omega; apply LW.v0; rfl; rfl; apply ValP.indexAddrA; rfl; rfl; rfl; omega; apply LW.store; rfl; rfl; apply SetAt.head; assumption; apply LW.nil; refine blkN ?_; refine thenN ?_; refine CW.region ?_; apply LW.v0; rfl; rfl; apply ValP.addZL; rfl; rfl; decide; omega; apply LW.v0; rfl; rfl; apply ValP.move; rfl; apply LW.nil)
    apply thenX
    exact ⟨rfl, m + 1, hlt, by omega, ⟨rfl, rfl, rfl, rfl, rfl, rfl, trivial⟩, List.Sublist.refl _⟩
  · obtain rfl : m = l.length := by omega
    rw [show bup l l.length = bev l by simp [bup]]
    (refine CW.seq ?_; refine CW.region ?_; apply LW.v0; rfl; rfl; apply ValP.lssF; rfl; rfl; omega; apply LW.nil; refine thenN ?_; refine CW.seq ?_; apply CW.condF; rfl; (with_reducible rfl); refine CW.exit ?_; refine thenE ?_; refine thenE ?_; refine blkE rfl ?_; refine thenN ?_; refine CW.seq ?_; refine CW.region ?_; apply LW.load; rfl; rfl; apply Known.at; apply FsAt.head; exact Rd.whole rfl; apply LW.store; rfl; rfl; apply SetAt.tail; apply SetAt.head; apply Wr.whole; rfl; rfl; rfl; apply LW.nil; refine thenN ?_; refine CW.ret ?_)
    (apply finR; exact .inl rfl; rfl; rfl; rfl; apply ResL.cons; apply Res.cell; rfl; apply Known.at; apply FsAt.tail; apply FsAt.head; exact Rd.whole rfl; exact ResL.nil)
    rfl
end Go.Proofs.Ytahoghldnijnbaa
