/-
  Contracts of the word package: a word's digits.
  Conditions: none.
-/
import Derived.Test.YtahoghldnijnbaaW6
import Derived.Test.YtahoghldnijnbaaSlj
namespace Go.Proofs.Ytahoghldnijnbaa
open Go Go.RowKit SL
set_option maxRecDepth 8000
set_option maxHeartbeats 4000000
set_option linter.unusedSimpArgs false
set_option linter.unusedVariables false
attribute [local irreducible] SL.CW SL.LW SL.DW Calls SL.Ret SL.RetG SL.beginQ SL.roundQ SL.rangeQ SL.inQ SL.RW SL.AnyW SL.thenQ SL.thenC SL.thenW SL.blkQ SL.finQ SL.ValP SL.NewP SL.SetP SL.CallP SL.Rd SL.Wr SL.Known
theorem noEscape_run (v : Value) (w : World) : (callFunc 77 #[v]).run Try.prog w = .ok (.value v) w := by
  rw [run_callFunc_extern Try.func77 (by kernel_rfl) (by kernel_rfl) (by kernel_rfl) (e := Extern.AbiNoEscape.same) (by kernel_rfl), Lib.run_noEscape]
  rfl
theorem copyCheck_new (w0 : World) (S : List Nat) (b : Nat) (sv : Value) (fs : Fs) (w : World) (hs : St w0 S ((b, .cells #[.pointer none, sv] 84 (0, 0)) :: fs) w) :
    Calls Try.prog 75 #[.pointer (some ⟨b, 0, none⟩)] w (fun x w' => ∃ v fs', x = .returned v ∧ (v = .tuple #[] ∧ fs' = (b, .cells #[.pointer (some ⟨b, 0, none⟩), sv] 84 (0, 0)) :: fs) ∧ St w0 S fs' w') := by
  refine calls_inline (args := [_]) Try.func75 rfl Try.ntmps75 rfl ?_ hs
  (refine CW.seq ?_; refine CW.region ?_; apply LW.v0; rfl; rfl; apply ValP.move; rfl; apply LW.v0; rfl; rfl; apply ValP.nilCheck; rfl; apply LW.v0; rfl; rfl; apply ValP.fieldAddr; rfl; rfl; apply LW.load; rfl; rfl; apply Known.at; apply FsAt.head; exact Rd.one' rfl; apply LW.v0; rfl; rfl; apply ValP.ptrNilT; rfl; rfl; apply LW.nil; refine thenN ?_; apply CW.condT; rfl; (with_reducible rfl); refine CW.region ?_; apply LW.v0; rfl; rfl; apply ValP.move; rfl; apply LW.v0; rfl; rfl; apply ValP.move; rfl; apply LW.toUnsafe; rfl; rfl; apply Known.at; apply FsAt.head; rfl; rfl; apply LW.v0; rfl; rfl; apply ValP.callX; rfl; apply ArgsOk.cons; rfl; exact ArgsOk.nil; exact noEscape_run _; apply LW.fromUnsafe; rfl; rfl; apply Known.at; apply FsAt.head; kernel_rfl; apply LW.v0; rfl; rfl; apply ValP.nilCheck; rfl; apply LW.v0; rfl; rfl; apply ValP.fieldAddr; rfl; rfl; apply LW.store; rfl; rfl; apply SetAt.head; apply Wr.cells; rfl; rfl; simp only [wc, List.size_toArray, List.length_cons, List.length_nil]; omega; simp only [fillC, wc, wrCells, Value.cells, List.toList_toArray, List.setIfInBounds_toArray, List.set_cons_succ, List.set_cons_zero, Nat.reduceAdd, Nat.reduceMul, Nat.zero_add, Nat.mul_one]; rfl; apply LW.nil)
  apply inI
  (exact .inr rfl)
  (exact Shut.nil)
  rfl
  (exact ResL.nil)
  rfl
  exact ⟨rfl, rfl⟩
theorem copyCheck_used (w0 : World) (S : List Nat) (b : Nat) (sv : Value) (fs : Fs) (w : World) (hs : St w0 S ((b, .cells #[.pointer (some ⟨b, 0, none⟩), sv] 84 (0, 0)) :: fs) w) :
    Calls Try.prog 75 #[.pointer (some ⟨b, 0, none⟩)] w (fun x w' => ∃ v fs', x = .returned v ∧ (v = .tuple #[] ∧ fs' = (b, .cells #[.pointer (some ⟨b, 0, none⟩), sv] 84 (0, 0)) :: fs) ∧ St w0 S fs' w') := by
  refine calls_inline (args := [_]) Try.func75 rfl Try.ntmps75 rfl ?_ hs
  (refine CW.seq ?_; refine CW.region ?_; apply LW.v0; rfl; rfl; apply ValP.move; rfl; apply LW.v0; rfl; rfl; apply ValP.nilCheck; rfl; apply LW.v0; rfl; rfl; apply ValP.fieldAddr; rfl; rfl; apply LW.load; rfl; rfl; apply Known.at; apply FsAt.head; exact Rd.one' rfl; apply LW.v0; rfl; rfl; apply ValP.ptrNilF; rfl; rfl; apply LW.nil; refine thenN ?_; apply CW.condF; rfl; (with_reducible rfl); refine CW.seq ?_; refine CW.region ?_; apply LW.v0; rfl; rfl; apply ValP.move; rfl; apply LW.v0; rfl; rfl; apply ValP.nilCheck; rfl; apply LW.v0; rfl; rfl; apply ValP.fieldAddr; rfl; rfl; apply LW.load; rfl; rfl; apply Known.at; apply FsAt.head; exact Rd.one' rfl; apply LW.v0; rfl; rfl; apply ValP.move; rfl; apply LW.v0; rfl; rfl; apply ValP.ptrSame; rfl; rfl; apply LW.nil; refine thenN ?_; apply CW.condF; rfl; (with_reducible rfl); refine CW.skip ?_)
  apply inI
  (exact .inr rfl)
  (exact Shut.nil)
  rfl
  (exact ResL.nil)
  rfl
  exact ⟨rfl, rfl⟩
theorem copyCheck_calls (w0 : World) (S : List Nat) (b : Nat) (p sv : Value) (hp : p = .pointer none ∨ p = .pointer (some ⟨b, 0, none⟩)) (fs : Fs) (w : World) (hs : St w0 S ((b, .cells #[p, sv] 84 (0, 0)) :: fs) w) :
    Calls Try.prog 75 #[.pointer (some ⟨b, 0, none⟩)] w (fun x w' => ∃ v fs', x = .returned v ∧ (v = .tuple #[] ∧ fs' = (b, .cells #[.pointer (some ⟨b, 0, none⟩), sv] 84 (0, 0)) :: fs) ∧ St w0 S fs' w') := by
  rcases hp with rfl | rfl
  · exact copyCheck_new w0 S b sv fs w hs
  · exact copyCheck_used w0 S b sv fs w hs
theorem WriteByte_calls (w0 : World) (S : List Nat) (b : Nat) (p v : Value) (hp : p = .pointer none ∨ p = .pointer (some ⟨b, 0, none⟩)) (n c : Nat) (hn : n < 1000) (hc : c < 256) (xs : List Value) (seg fs : Fs) (hrow : IsRow 5 1 v n xs seg) (w : World) (hs : St w0 S ((b, .cells #[p, v] 84 (0, 0)) :: (seg ++ fs)) w) :
    Calls Try.prog 70 #[.pointer (some ⟨b, 0, none⟩), .int .u8 (c : Int)] w (fun x w' => ∃ y fs', x = .returned y ∧ (True ∧ ∃ v' seg', IsRow 5 1 v' (n + 1) (xs ++ [.int .u8 (c : Int)]) seg' ∧ fs' = (b, .cells #[.pointer (some ⟨b, 0, none⟩), v'] 84 (0, 0)) :: (seg' ++ fs)) ∧ St w0 S fs' w') := by
  refine calls_inline (args := [_, _]) Try.func70 rfl Try.ntmps70 rfl ?_ hs
  (refine CW.seq ?_; refine CW.region ?_; apply LW.v0; rfl; rfl; apply ValP.assign; rfl; apply LW.nil; refine thenN ?_; refine CW.seq ?_; refine CW.region ?_; apply LW.v0; rfl; rfl; apply ValP.move; rfl; apply LW.callSt; rfl; rfl; infer_instance; apply ArgsOk.cons; rfl; exact ArgsOk.nil; intro w hs; exact copyCheck_calls _ _ _ _ _ (by assumption) _ w hs; rintro v fs' ⟨rfl, rfl⟩; apply LW.nil; refine thenN ?_; refine CW.seq ?_; refine CW.region ?_; apply LW.v0; rfl; rfl; apply ValP.move; rfl; apply LW.v0; rfl; rfl; apply ValP.move; rfl; apply LW.v0; rfl; rfl; apply ValP.nilCheck; rfl; apply LW.v0; rfl; rfl; apply ValP.fieldAddr; rfl; rfl; apply LW.load; rfl; rfl; apply Known.at; apply FsAt.head; exact Rd.one' rfl; apply LW.v0; rfl; rfl; apply ValP.move; rfl)
  apply LW.n0 rfl rfl
  apply NewP.buildS1 <;> rfl
  intro g
  simp only [Sh.val, Value.cells]
  (apply LW.append; (case hrow => assumption); rfl; rfl; infer_instance; infer_instance; infer_instance; rfl; rfl; rfl; apply AtSeg.cons; apply AtSeg.cons; exact AtSeg.head; apply Known.at; apply FsAt.head; rfl; rfl; rfl; omega; simp only [maxLen]; omega; omega; intro v' seg' hrow'; obtain ⟨p', c', rfl⟩ := hrow'.form; (refine ⟨_, (by (repeat (first | exact AtSeg.head | apply AtSeg.cons | apply AtSeg.app))), ?_⟩); (try simp only [List.cons_append, List.nil_append]))
  (apply LW.drop; exact List.Sublist.cons _ (List.Sublist.refl _))
  (apply LW.v0; rfl; rfl; apply ValP.nilCheck; rfl; apply LW.v0; rfl; rfl; apply ValP.fieldAddr; rfl; rfl; apply LW.store; rfl; rfl; apply SetAt.head; apply Wr.cells; rfl; rfl; simp only [wc, List.size_toArray, List.length_cons, List.length_nil]; omega; simp only [fillC, wc, wrCells, Value.cells, List.toList_toArray, List.setIfInBounds_toArray, List.set_cons_succ, List.set_cons_zero, Nat.reduceAdd, Nat.reduceMul, Nat.zero_add, Nat.mul_one]; rfl; apply LW.nil; refine thenN ?_; refine CW.seq ?_; refine CW.region ?_; apply LW.v0; rfl; rfl; apply ValP.assign; rfl; apply LW.nil; refine thenN ?_; refine CW.ret ?_)
  apply inI
  (exact .inl rfl)
  (exact Shut.nil)
  rfl
  (apply ResL.cons; exact Res.tmp rfl; exact ResL.nil)
  rfl
  exact ⟨trivial, _, _, hrow', rfl⟩
theorem Len_calls (w0 : World) (S : List Nat) (b : Nat) (p : Value) (q : Option Addr) (n c : Nat) (fs : Fs) (w : World) (hs : St w0 S ((b, .cells #[p, .slice q n c] 84 (0, 0)) :: fs) w) :
    Calls Try.prog 69 #[.pointer (some ⟨b, 0, none⟩)] w (fun x w' => ∃ y fs', x = .returned y ∧ (y = .int .i64 (n : Int) ∧ fs' = (b, .cells #[p, .slice q n c] 84 (0, 0)) :: fs) ∧ St w0 S fs' w') := by
  refine calls_inline (args := [_]) Try.func69 rfl Try.ntmps69 rfl ?_ hs
  (refine CW.seq ?_; refine CW.region ?_; apply LW.v0; rfl; rfl; apply ValP.assign; rfl; apply LW.nil; refine thenN ?_; refine CW.seq ?_; refine CW.region ?_; apply LW.v0; rfl; rfl; apply ValP.move; rfl; apply LW.v0; rfl; rfl; apply ValP.nilCheck; rfl; apply LW.v0; rfl; rfl; apply ValP.fieldAddr; rfl; rfl; apply LW.load; rfl; rfl; apply Known.at; apply FsAt.head; exact Rd.one' rfl; apply LW.v0; rfl; rfl; apply ValP.lenR; rfl; infer_instance; rfl; apply LW.v0; rfl; rfl; apply ValP.assign; rfl; apply LW.nil; refine thenN ?_; refine CW.ret ?_)
  apply inI
  (exact .inl rfl)
  (exact Shut.nil)
  rfl
  (apply ResL.cons; exact Res.tmp rfl; exact ResL.nil)
  rfl
  exact ⟨rfl, rfl⟩
theorem String_calls (w0 : World) (S : List Nat) (b : Nat) (p v : Value) (n : Nat) (hn : n < 1000) (h0 : 0 < n) (l : List UInt8) (xs : List Value) (hx : xs = l.map fun u => .int .u8 u.toNat) (seg fs : Fs) (hrow : IsRow 5 1 v n xs seg) (w : World) (hs : St w0 S ((b, .cells #[p, v] 84 (0, 0)) :: (seg ++ fs)) w) :
    Calls Try.prog 71 #[.pointer (some ⟨b, 0, none⟩)] w (fun x w' => ∃ y fs', x = .returned y ∧ (y = .string ⟨l.toArray⟩ ∧ fs' = fs) ∧ St w0 S fs' w') := by
  refine calls_inline (args := [_]) Try.func71 rfl Try.ntmps71 rfl ?_ hs
  cases hrow with
  | nil => cases h0
  | @own g _ cap cur _ hle hmx hc ht hl =>
    try simp only [List.cons_append, List.nil_append]
    have hsz : l.length = n := by rw [hx, List.length_map] at hl; omega
    subst hsz
    (refine CW.seq ?_; refine CW.region ?_; apply LW.v0; rfl; rfl; apply ValP.assign; rfl; apply LW.nil; refine thenN ?_; refine CW.seq ?_; apply CW.pre; refine AnyW.any 10 mixed (by decide +kernel) ?_; (try simp only [tsOf_cons, tsOf_nil, tsOf_app]); apply DW.v0; rfl; rfl; rfl; exact WantT.none; rfl; apply ValP.move; rfl; apply DW.v0; rfl; rfl; rfl; exact WantT.none; rfl; apply ValP.nilCheck; rfl; apply DW.v0; rfl; rfl; rfl; exact WantT.none; rfl; apply ValP.fieldAddr; rfl; rfl; apply DW.loadO; rfl; rfl; rfl; exact WantT.none; rfl; apply TRead.head; exact ancB_nil; exact Rd.one' rfl; apply DW.sliceData; rfl; rfl; rfl; exact WantT.none; rfl; omega; apply TRead.tail; apply TRead.head; exact ancB_nil; apply DW.v0; rfl; rfl; rfl; exact WantT.none; rfl; apply ValP.move; rfl; apply DW.v0; rfl; rfl; rfl; exact WantT.none; rfl; apply ValP.nilCheck; rfl; apply DW.v0; rfl; rfl; rfl; exact WantT.none; rfl; apply ValP.fieldAddr; rfl; rfl; apply DW.loadO; rfl; rfl; rfl; exact WantT.none; rfl; apply TRead.head; exact ancB_nil; exact Rd.one' rfl; apply DW.v0; rfl; rfl; rfl; exact WantT.none; rfl; apply ValP.lenR; rfl; infer_instance; rfl; apply DW.nil; simp only [fsOf_cons, fsOf_nil, fsOf_app, fsOf_tsOf, fsOf_new])
    apply LW.unsafeString
    rfl
    infer_instance
    rfl
    rfl
    rfl
    rfl
    · intro h; rw [h] at h0; cases h0
    · omega
    case hset => (apply SetAt.tail; apply SetAt.head)
    · intro j u hj
      have h2 := congrArg (·[j]?) (ht.trans hx)
      simp only [List.getElem?_map, hj, Option.map_some, Nat.mul_one] at h2
      rw [List.getElem?_take] at h2
      split at h2
      · simpa using h2
      · cases h2
    refine LW.drop fs (by (apply List.Sublist.cons; apply List.Sublist.cons; exact List.Sublist.refl _)) ?_
    (apply LW.v0; rfl; rfl; apply ValP.assign; rfl; apply LW.nil; refine thenN ?_; refine CW.ret ?_)
    apply inI
    (exact .inl rfl)
    (exact Shut.nil)
    rfl
    (apply ResL.cons; exact Res.tmp rfl; exact ResL.nil)
    rfl
    exact ⟨rfl, rfl⟩
/-! ### Digits to the base 16 -/
def hexd (n : Nat) : UInt8 := UInt8.ofNat (if n < 10 then 48 + n else 87 + n)
def hexOf : Nat → Nat → List UInt8
  | 0, _ => []
  | k + 1, n => if n = 0 then [] else hexOf k (n / 16) ++ [hexd (n % 16)]
def hexText (a : Nat) : List UInt8 := if a = 0 then [48] else hexOf 64 a
theorem hexd_get : ∀ k, k < 16 → (⟨#[48, 49, 50, 51, 52, 53, 54, 55, 56, 57, 97, 98, 99, 100, 101, 102]⟩ : ByteArray)[k]? = some (hexd k) := by decide
theorem hexOf_len : ∀ k n, (hexOf k n).length ≤ k
  | 0, _ => by simp [hexOf]
  | k + 1, n => by
    rw [hexOf]
    split
    · simp
    · have := hexOf_len k (n / 16); simp; omega
/-- The digits above the m lowest ones. -/
def hexUp (a m : Nat) : List UInt8 := hexOf (64 - m) (a / 16 ^ m)
theorem hexUp_step (a m : Nat) (hm : m < 64) : hexUp a m = if a / 16 ^ m = 0 then [] else hexUp a (m + 1) ++ [hexd (a / 16 ^ m % 16)] := by
  unfold hexUp
  rw [show 64 - m = (64 - (m + 1)) + 1 by omega, hexOf, Nat.pow_succ, Nat.div_div_eq_div_mul]
theorem hexUp_nil (a m : Nat) (hm : m < 64) : hexUp a m = [] ↔ a / 16 ^ m = 0 := by
  rw [hexUp_step a m hm]
  split <;> simp [*]
theorem hexUp_zero (a : Nat) (ha : a < M256) : hexUp a 64 = [] := by simp [hexUp, hexOf]
theorem digit_and (a k : Nat) (hk : k < 64) : a / 2 ^ (64 * (0 + k / 16 * 1)) % 18446744073709551616 / 2 ^ (4 * (k % 16)) &&& 15 = a / 16 ^ k % 16 := by
  rw [show (15 : Nat) = 2 ^ 4 - 1 from rfl, Nat.and_two_pow_sub_one_eq_mod, show (18446744073709551616 : Nat) = 2 ^ (4 * (k % 16) + (64 - 4 * (k % 16))) by rw [show 4 * (k % 16) + (64 - 4 * (k % 16)) = 64 by omega]]
  rw [Nat.pow_add, Nat.mod_mul_right_div_self, Nat.div_div_eq_div_mul, ← Nat.pow_add, show 64 * (0 + k / 16 * 1) + 4 * (k % 16) = 4 * k by omega, Nat.pow_mul]
  obtain ⟨j, hj⟩ : ∃ j, 64 - 4 * (k % 16) = 4 + j := ⟨60 - 4 * (k % 16), by omega⟩
  rw [hj, Nat.pow_add, Nat.mod_mod_of_dvd _ ⟨2 ^ j, rfl⟩]
theorem text_write (a k d : Nat) (l : List UInt8) (hk : k < 64) (hl : l = hexUp a (k + 1)) (hd : d = a / 16 ^ k % 16) (h : 0 < d ∨ l ≠ [] ∨ k = 0) : (if k = 0 then l ++ [hexd d] = hexText a else l ++ [hexd d] = hexUp a k) := by
  subst hl hd
  have e0 : hexUp a 0 = hexOf 64 a := by simp [hexUp]
  by_cases hz : a / 16 ^ k = 0
  · have h1 : hexUp a (k + 1) = [] := by
      by_cases h2 : k + 1 < 64
      · rw [hexUp_nil a (k + 1) h2, Nat.pow_succ, ← Nat.div_div_eq_div_mul, hz, Nat.zero_div]
      · rw [show k + 1 = 64 by omega]; simp [hexUp, hexOf]
    have hk0 : k = 0 := by
      rcases h with h | h | h
      · rw [hz] at h; cases h
      · exact absurd h1 h
      · exact h
    subst hk0
    rw [if_pos rfl, h1, hz]
    have : a = 0 := by simpa using hz
    subst this
    decide
  · have h1 := hexUp_step a k hk
    rw [if_neg hz] at h1
    split
    · rename_i h2; subst h2
      rw [← h1, e0, hexText, if_neg (by simpa using hz)]
    · exact h1.symm
theorem text_skip (a k d : Nat) (l : List UInt8) (ha : a < M256) (hk : k < 64) (hk0 : k ≠ 0) (hl : l = hexUp a (k + 1)) (hd : d = a / 16 ^ k % 16) (h0 : d = 0) (hn : l = []) : (if k = 0 then l = hexText a else l = hexUp a k) := by
  rw [if_neg hk0, hexUp_step a k hk]
  split
  · exact hn
  · rename_i hz
    subst hn
    by_cases h2 : k + 1 < 64
    · have := (hexUp_nil a (k + 1) h2).1 hl.symm
      rw [Nat.pow_succ, ← Nat.div_div_eq_div_mul] at this
      omega
    · have h3 : k = 63 := by omega
      subst h3
      have : a / 16 ^ 63 < 16 := Nat.div_lt_of_lt_mul ha
      omega
theorem hexUp_len (a k : Nat) : (hexUp a k).length ≤ 64 - k := hexOf_len _ _
structure TX where
  m : Nat
  p : Value
  v : Value
  seg : Fs
  l : List UInt8
theorem Text_calls (a : Nat) (ha : a < M256) (w : World) : Calls Try.prog 47 #[wv a] w (Ret w (.string ⟨(hexText a).toArray⟩)) := by
  refine enter (args := [_]) _ [] [] Try.func47 rfl Try.ntmps47 rfl (by simp) .nil ?_
  (refine CW.seq ?_; refine CW.region ?_; apply LW.boxA; rfl; rfl; intro _; apply LW.v0; rfl; rfl; apply ValP.assign; rfl; apply LW.nil; refine thenN ?_; refine CW.seq ?_; refine CW.region ?_; apply LW.allocA; rfl; intro _; apply LW.nil; refine thenN ?_; refine CW.seq ?_; refine CW.seq ?_; refine CW.region ?_; apply LW.v0; rfl; rfl; apply ValP.assign; rfl; apply LW.nil; refine thenN ?_; refine CW.block ?_)
  rename_i bw b
  refine CW.loop (fun x : TX => ([(4, .int .i64 ((x.m : Int) - 1)), (3, .pointer (some ⟨b, 0, none⟩)), (1, .pointer (some ⟨bw, 0, none⟩))],
    (b, .cells #[x.p, x.v] 84 (0, 0)) :: (x.seg ++ [(bw, .cells (wc a) 24 (0, 0))])))
    (fun x => x.m ≤ 64 ∧ (x.p = .pointer none ∨ x.p = .pointer (some ⟨b, 0, none⟩)) ∧ x.l.length ≤ 64 ∧ IsRow 5 1 x.v x.l.length (x.l.map fun u => .int .u8 u.toNat) x.seg ∧ (if x.m = 0 then x.l = hexText a else x.l = hexUp a x.m)) (fun x => x.m) ⟨64, .pointer none, .slice none 0 0, [], []⟩ ⟨Nat.le_refl _, .inl rfl, by decide, .nil, by simp [hexUp_zero a ha]⟩ ⟨rfl, rfl, rfl, trivial⟩ (List.Sublist.refl _) ?_
  rintro ⟨m, p, v, seg, l⟩ ⟨hm, hp, hl, hrow, hlx⟩
  dsimp only at hm hp hl hrow hlx ⊢
  obtain ⟨q, c, rfl⟩ := hrow.form
  rcases m with _ | k
  · simp only [if_true] at hlx
    have hl0 : 0 < l.length := by
      rw [hlx]; unfold hexText; split
      · decide
      · rename_i h; rw [show hexOf 64 a = hexUp a 0 by simp [hexUp], hexUp_step a 0 (by decide), if_neg (by simpa using h)]; simp
    (refine CW.seq ?_; refine CW.seq ?_; refine CW.region ?_; apply LW.v0; rfl; rfl; apply ValP.move; rfl; apply LW.v0; rfl; rfl; apply ValP.geqF; rfl; rfl; omega; apply LW.nil; refine thenN ?_; apply CW.condF; rfl; (with_reducible rfl); refine CW.exit ?_; refine thenE ?_; refine thenE ?_; refine blkE rfl ?_; refine thenN ?_; refine CW.seq ?_; refine CW.region ?_)
    (apply LW.callSt; rfl; rfl; infer_instance; apply ArgsOk.cons; rfl; exact ArgsOk.nil; intro w hs)
    exact String_calls _ _ _ _ _ _ (by omega) hl0 l _ rfl _ _ hrow w hs
    rintro _ _ ⟨rfl, rfl⟩
    (apply LW.v0; rfl; rfl; apply ValP.assign; rfl; apply LW.nil; refine thenN ?_; refine CW.ret ?_)
    (apply finR; exact .inl rfl; rfl; rfl; rfl; apply ResL.cons; exact Res.tmp rfl; exact ResL.nil)
    rw [hlx]; rfl
  · rw [if_neg (Nat.succ_ne_zero k)] at hlx
    have hlen := hexUp_len a (k + 1)
    rw [← hlx] at hlen
    have e0 : (((k + 1 : Nat) : Int) - 1) = (k : Int) := by omega
    rw [e0]
    have hX := digit_and a k (by omega)
    obtain ⟨d, hd⟩ : ∃ d, d = a / 16 ^ k % 16 := ⟨_, rfl⟩
    rw [← hd] at hX
    have hd16 : d < 16 := by omega
    rcases Nat.eq_zero_or_pos d with h0 | h0
    · (refine CW.seq ?_; refine CW.seq ?_; refine CW.region ?_; apply LW.v0; rfl; rfl; apply ValP.move; rfl; apply LW.v0; rfl; rfl; apply ValP.geqT; rfl; rfl; omega; apply LW.nil; refine thenN ?_; apply CW.condT; rfl; (with_reducible rfl); refine CW.skip ?_; refine thenN ?_; refine CW.seq ?_; refine CW.block ?_; refine CW.seq ?_; refine CW.region ?_; apply LW.v0; rfl; rfl; apply ValP.move; rfl; apply LW.v0; rfl; rfl; apply ValP.quoZL; rfl; rfl; decide; omega; omega; apply LW.v0; rfl; rfl; apply ValP.indexAddrA; rfl; rfl; rfl; omega; apply LW.load; rfl; rfl; apply Known.at; apply FsAt.tail; apply FsAt.app; apply FsAt.head; apply Rd.one'; apply nth_wc; omega; apply LW.v0; rfl; rfl; apply ValP.move; rfl; apply LW.v0; rfl; rfl; apply ValP.remZL; rfl; rfl; decide; omega; apply LW.v0; rfl; rfl; apply ValP.mulZK; rfl; rfl; decide; omega; apply LW.v0; rfl; rfl; apply ValP.shrU; rfl; rfl; omega; apply LW.v0; rfl; rfl; apply ValP.andUL; rfl; rfl; decide; apply div64; omega; omega; apply LW.v0; rfl; rfl; apply ValP.assign; rfl; apply LW.nil; refine thenN ?_; refine CW.seq ?_; refine CW.region ?_; apply LW.v0; rfl; rfl; apply ValP.move; rfl; apply LW.v0; rfl; rfl; apply ValP.gtrF; rfl; rfl; omega; apply LW.v0; rfl; rfl; apply ValP.move; rfl; apply LW.guardT'; rfl; rfl; (with_reducible rfl))
      (apply LW.callSt; rfl; rfl; infer_instance; apply ArgsOk.cons; rfl; exact ArgsOk.nil; intro w hs)
      exact Len_calls _ _ _ _ _ _ _ _ w hs
      rintro _ _ ⟨rfl, rfl⟩
      rcases Nat.eq_zero_or_pos l.length with hl0 | hl0
      · rcases Nat.eq_zero_or_pos k with hk0 | hk0
        · (apply LW.guardT'; rfl; rfl; (with_reducible rfl); apply LW.v0; rfl; rfl; apply ValP.gtrF; rfl; rfl; omega; apply LW.v0; rfl; rfl; apply ValP.pickF'; rfl; (with_reducible rfl); rfl; apply LW.v0; rfl; rfl; apply ValP.move; rfl; apply LW.guardT'; rfl; rfl; (with_reducible rfl); apply LW.v0; rfl; rfl; apply ValP.move; rfl; apply LW.guardT'; rfl; rfl; (with_reducible rfl); apply LW.v0; rfl; rfl; apply ValP.eqT; rfl; rfl; omega; apply LW.v0; rfl; rfl; apply ValP.pickF'; rfl; (with_reducible rfl); rfl; apply LW.nil; refine thenN ?_; apply CW.condT; rfl; (with_reducible rfl); refine CW.region ?_; apply LW.v0; rfl; rfl; apply ValP.move; rfl)
          (apply LW.v0; rfl; rfl; apply ValP.indexStr; rfl; rfl; rfl; rw [hX]; exact hexd_get _ (by omega); apply LW.callSt; rfl; rfl; infer_instance; apply ArgsOk.cons; rfl; apply ArgsOk.cons; rfl; exact ArgsOk.nil; intro w hs; exact WriteByte_calls _ _ _ _ _ hp _ _ (by omega) (UInt8.toNat_lt _) _ _ _ hrow w hs; rintro _ _ ⟨-, v', seg', hrow', rfl⟩; apply LW.nil; refine blkN ?_; refine thenN ?_; refine CW.region ?_; apply LW.v0; rfl; rfl; apply ValP.move; rfl; apply LW.v0; rfl; rfl; apply ValP.subI; rfl; rfl; omega; omega; apply LW.v0; rfl; rfl; apply ValP.assign; rfl; apply LW.nil; apply thenX)
          exact ⟨rfl, ⟨k, _, v', seg', l ++ [hexd d]⟩, ⟨by show k ≤ 64; omega, .inr rfl, by simp; omega, by simpa using hrow', text_write a k d l (by omega) hlx hd (.inr (.inr hk0))⟩, Nat.lt_succ_self k, ⟨rfl, rfl, rfl, trivial⟩, List.Sublist.refl _⟩
        · (apply LW.guardT'; rfl; rfl; (with_reducible rfl); apply LW.v0; rfl; rfl; apply ValP.gtrF; rfl; rfl; omega; apply LW.v0; rfl; rfl; apply ValP.pickF'; rfl; (with_reducible rfl); rfl; apply LW.v0; rfl; rfl; apply ValP.move; rfl; apply LW.guardT'; rfl; rfl; (with_reducible rfl); apply LW.v0; rfl; rfl; apply ValP.move; rfl; apply LW.guardT'; rfl; rfl; (with_reducible rfl); apply LW.v0; rfl; rfl; apply ValP.eqF; rfl; rfl; omega; apply LW.v0; rfl; rfl; apply ValP.pickF'; rfl; (with_reducible rfl); rfl; apply LW.nil; refine thenN ?_; apply CW.condF; rfl; (with_reducible rfl); refine CW.skip ?_; refine blkN ?_; refine thenN ?_; refine CW.region ?_; apply LW.v0; rfl; rfl; apply ValP.move; rfl; apply LW.v0; rfl; rfl; apply ValP.subZL; rfl; rfl; decide; omega; omega; apply LW.v0; rfl; rfl; apply ValP.assign; rfl; apply LW.nil)
          apply thenX
          exact ⟨rfl, ⟨k, _, _, seg, l⟩, ⟨by show k ≤ 64; omega, hp, hl, hrow, text_skip a k d l ha (by omega) (by omega) hlx hd h0 (List.length_eq_zero_iff.1 hl0)⟩, Nat.lt_succ_self k, ⟨congrArg (fun z => some (Value.int .i64 z)) (show ((k - 1 : Nat) : Int) = (k : Int) - 1 by omega), rfl, rfl, trivial⟩, List.Sublist.refl _⟩
      · (apply LW.guardT'; rfl; rfl; (with_reducible rfl); apply LW.v0; rfl; rfl; apply ValP.gtrT; rfl; rfl; omega; apply LW.v0; rfl; rfl; apply ValP.pickF'; rfl; (with_reducible rfl); rfl; apply LW.v0; rfl; rfl; apply ValP.move; rfl; apply LW.guardF'; rfl; rfl; simp only [Bool.not_true, Bool.not_false]; rfl; apply LW.guardF'; rfl; rfl; simp only [Bool.not_true, Bool.not_false]; rfl; apply LW.v0; rfl; rfl; apply ValP.pickT'; rfl; (with_reducible rfl); rfl; apply LW.nil; refine thenN ?_; apply CW.condT; rfl; (with_reducible rfl); refine CW.region ?_; apply LW.v0; rfl; rfl; apply ValP.move; rfl)
        (apply LW.v0; rfl; rfl; apply ValP.indexStr; rfl; rfl; rfl; rw [hX]; exact hexd_get _ (by omega); apply LW.callSt; rfl; rfl; infer_instance; apply ArgsOk.cons; rfl; apply ArgsOk.cons; rfl; exact ArgsOk.nil; intro w hs; exact WriteByte_calls _ _ _ _ _ hp _ _ (by omega) (UInt8.toNat_lt _) _ _ _ hrow w hs; rintro _ _ ⟨-, v', seg', hrow', rfl⟩; apply LW.nil; refine blkN ?_; refine thenN ?_; refine CW.region ?_; apply LW.v0; rfl; rfl; apply ValP.move; rfl; apply LW.v0; rfl; rfl; apply ValP.subI; rfl; rfl; omega; omega; apply LW.v0; rfl; rfl; apply ValP.assign; rfl; apply LW.nil; apply thenX)
        exact ⟨rfl, ⟨k, _, v', seg', l ++ [hexd d]⟩, ⟨by show k ≤ 64; omega, .inr rfl, by simp; omega, by simpa using hrow', text_write a k d l (by omega) hlx hd (.inr (.inl (fun h => by rw [h] at hl0; cases hl0)))⟩, Nat.lt_succ_self k, ⟨rfl, rfl, rfl, trivial⟩, List.Sublist.refl _⟩
    · (refine CW.seq ?_; refine CW.seq ?_; refine CW.region ?_; apply LW.v0; rfl; rfl; apply ValP.move; rfl; apply LW.v0; rfl; rfl; apply ValP.geqT; rfl; rfl; omega; apply LW.nil; refine thenN ?_; apply CW.condT; rfl; (with_reducible rfl); refine CW.skip ?_; refine thenN ?_; refine CW.seq ?_; refine CW.block ?_; refine CW.seq ?_; refine CW.region ?_; apply LW.v0; rfl; rfl; apply ValP.move; rfl; apply LW.v0; rfl; rfl; apply ValP.quoZL; rfl; rfl; decide; omega; omega; apply LW.v0; rfl; rfl; apply ValP.indexAddrA; rfl; rfl; rfl; omega; apply LW.load; rfl; rfl; apply Known.at; apply FsAt.tail; apply FsAt.app; apply FsAt.head; apply Rd.one'; apply nth_wc; omega; apply LW.v0; rfl; rfl; apply ValP.move; rfl; apply LW.v0; rfl; rfl; apply ValP.remZL; rfl; rfl; decide; omega; apply LW.v0; rfl; rfl; apply ValP.mulZK; rfl; rfl; decide; omega; apply LW.v0; rfl; rfl; apply ValP.shrU; rfl; rfl; omega; apply LW.v0; rfl; rfl; apply ValP.andUL; rfl; rfl; decide; apply div64; omega; omega; apply LW.v0; rfl; rfl; apply ValP.assign; rfl; apply LW.nil; refine thenN ?_; refine CW.seq ?_; refine CW.region ?_; apply LW.v0; rfl; rfl; apply ValP.move; rfl; apply LW.v0; rfl; rfl; apply ValP.gtrT; rfl; rfl; omega; apply LW.v0; rfl; rfl; apply ValP.move; rfl; apply LW.guardF'; rfl; rfl; simp only [Bool.not_true, Bool.not_false]; rfl; apply LW.guardF'; rfl; rfl; simp only [Bool.not_true, Bool.not_false]; rfl; apply LW.v0; rfl; rfl; apply ValP.pickT'; rfl; (with_reducible rfl); rfl; apply LW.v0; rfl; rfl; apply ValP.move; rfl; apply LW.guardF'; rfl; rfl; simp only [Bool.not_true, Bool.not_false]; rfl; apply LW.guardF'; rfl; rfl; simp only [Bool.not_true, Bool.not_false]; rfl; apply LW.v0; rfl; rfl; apply ValP.pickT'; rfl; (with_reducible rfl); rfl; apply LW.nil; refine thenN ?_; apply CW.condT; rfl; (with_reducible rfl); refine CW.region ?_; apply LW.v0; rfl; rfl; apply ValP.move; rfl)
      (apply LW.v0; rfl; rfl; apply ValP.indexStr; rfl; rfl; rfl; rw [hX]; exact hexd_get _ (by omega); apply LW.callSt; rfl; rfl; infer_instance; apply ArgsOk.cons; rfl; apply ArgsOk.cons; rfl; exact ArgsOk.nil; intro w hs; exact WriteByte_calls _ _ _ _ _ hp _ _ (by omega) (UInt8.toNat_lt _) _ _ _ hrow w hs; rintro _ _ ⟨-, v', seg', hrow', rfl⟩; apply LW.nil; refine blkN ?_; refine thenN ?_; refine CW.region ?_; apply LW.v0; rfl; rfl; apply ValP.move; rfl; apply LW.v0; rfl; rfl; apply ValP.subI; rfl; rfl; omega; omega; apply LW.v0; rfl; rfl; apply ValP.assign; rfl; apply LW.nil; apply thenX)
      exact ⟨rfl, ⟨k, _, v', seg', l ++ [hexd d]⟩, ⟨by show k ≤ 64; omega, .inr rfl, by simp; omega, by simpa using hrow', text_write a k d l (by omega) hlx hd (.inl h0)⟩, Nat.lt_succ_self k, ⟨rfl, rfl, rfl, trivial⟩, List.Sublist.refl _⟩
end Go.Proofs.Ytahoghldnijnbaa
