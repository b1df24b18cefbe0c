/-
  Texts that were built apart, put behind one another (5 of 5): K5 K6 K7 K8 K9 KA KB KD KE KO KI KJ KK KM KG KP Smn Smo Smp V1 V2 V3 Smq V4 UI UK V6.
  Conditions: none.
-/
import Derived.Test.YtobkhnmglbfheaaDoorZ4
import Derived.Laws.Externs
import Derived.Lib.BytesEntry
import Derived.Laws.StructEq
import Derived.Sort.QuietThIn
/-
  Contracts of the sponge: digests.
  Conditions: none.
-/
namespace Go.Proofs.YtobkhnmglbfheaaDoor.SK
open Go Go.RowKit SL
set_option maxRecDepth 8000
set_option maxHeartbeats 4000000
set_option linter.unusedSimpArgs false
set_option linter.unusedVariables false
attribute [local irreducible] SL.CW SL.LW SL.DW Calls SL.Ret SL.RetG SL.beginQ SL.roundQ SL.rangeQ SL.inQ SL.RW SL.AnyW SL.thenQ SL.thenC SL.thenW SL.blkQ SL.finQ SL.ValP SL.NewP SL.SetP SL.CallP SL.Rd SL.Wr SL.Known
def soakF (L : List Nat) (p : List UInt8) (o : Nat) : Nat → List Nat
  | 0 => L
  | k + 1 => (soakF L p o k).set (k / 8) ((soakF L p o k).getD (k / 8) 0 ^^^ ((p.getD (o + k) 0).toNat * 2 ^ (8 * (k % 8)) % 18446744073709551616))
theorem soakF_len (L : List Nat) (p : List UInt8) (o k : Nat) : (soakF L p o k).length = L.length := by
  induction k with
  | zero => rfl
  | succ k ih => simp [soakF, ih]
theorem soakF_lt (L : List Nat) (p : List UInt8) (o : Nat) (hb : ∀ i, L.getD i 0 < 18446744073709551616) (k : Nat) : ∀ i, (soakF L p o k).getD i 0 < 18446744073709551616 := by
  induction k with
  | zero => exact hb
  | succ k ih => exact getD_set_lt ih (xor_lt (ih _) (Nat.mod_lt _ (by decide)))
def sumF (p : List UInt8) : Nat → List Nat
  | 0 => List.replicate 25 0
  | c + 1 => permL (soakF (sumF p c) p (136 * c) 136)
theorem sumF_len (p : List UInt8) (c : Nat) : (sumF p c).length = 25 := by
  induction c with
  | zero => simp [sumF]
  | succ c ih => exact permL_len _ (by rw [soakF_len, ih])
theorem sumF_lt (p : List UInt8) (c : Nat) : ∀ i, (sumF p c).getD i 0 < 18446744073709551616 := by
  induction c with
  | zero => exact rep_lt 25
  | succ c ih => exact permL_lt _ (soakF_lt _ _ _ ih _)
def idF (L : List Nat) : Nat → List UInt8
  | 0 => List.replicate 32 0
  | k + 1 => (idF L k).set k (UInt8.ofNat (L.getD (k / 8) 0 / 2 ^ (8 * (k % 8)) % 256))
theorem idF_len (L : List Nat) (k : Nat) : (idF L k).length = 32 := by
  induction k with
  | zero => simp [idF]
  | succ k ih => simp [idF, ih]
def padC (n : Nat) : Nat := n / 136 + 1
def sumB (b : List UInt8) : List UInt8 := idF (sumF (padB b) (padC b.length)) 32
theorem ValP.cut3o {P : Program} {e : Env} {T : TypeId} {x : Operand} {g o o' m n : Nat} {ik il im : IntKind} {E i j k c : Nat} {z : Value} {lo hi mx : Operand} (hU : UnI P T (.slice E)) (hI : InfoI P E 1 z) (hx : e.ev x = some (.slice (some ⟨g, o, none⟩) n c)) (hl : e.ev lo = some (.int il (i : Int))) (hh : e.ev hi = some (.int ik (j : Int))) (hm : e.ev mx = some (.int im (k : Int))) (h1 : j = i + m) (h2 : k = i + m) (h3 : i + m ≤ c) (h4 : 0 < m) (h5 : o' = o + i) :
    ValP P e [] (.slice T x (some lo) (some hi) (some mx)) (.slice (some ⟨g, o', none⟩) m m) := by
  subst h1 h2 h5
  have h := ValP.cut3 (P := P) (e := e) hU hI hx hl hh hm (by omega) (by omega) h3 (by omega)
  have e1 : i + m - i = m := by omega
  have e2 : (Option.map (fun x => Addr.add x (i * 1)) (some ⟨g, o, none⟩)) = some ⟨g, o + i, none⟩ := by simp [Addr.add]
  rw [e1] at h
  rw [← e2]
  exact h
theorem soakF_zero (L : List Nat) (p : List UInt8) (o : Nat) : soakF L p o 0 = L := rfl
theorem sumF_zero (p : List UInt8) : sumF p 0 = List.replicate 25 0 := rfl
theorem soakF_succ (L : List Nat) (p : List UInt8) (o k : Nat) : soakF L p o (k + 1) = (soakF L p o k).set (k / 8) ((soakF L p o k).getD (k / 8) 0 ^^^ ((p.getD (o + k) 0).toNat * 2 ^ (8 * (k % 8)) % 18446744073709551616)) := rfl
theorem sumF_succ (p : List UInt8) (c : Nat) : sumF p (c + 1) = permL (soakF (sumF p c) p (136 * c) 136) := rfl
theorem idF_zero (L : List Nat) : idF L 0 = List.replicate 32 0 := rfl
theorem idF_succ (L : List Nat) (k : Nat) : idF L (k + 1) = (idF L k).set k (UInt8.ofNat (L.getD (k / 8) 0 / 2 ^ (8 * (k % 8)) % 256)) := rfl
attribute [local irreducible] permL padB soakF sumF idF
theorem Sum_calls (b : List UInt8) (v : Value) (w : World) (hv : RowAt w 1 v b.length (ucs b)) (hb : b.length ≤ 100000) (hT : TurnAt w) (hN : NumAt w) : Calls Tryd.prog 39 #[v] w (Ret w (.agg (uca (sumB b)))) := by
  have hPad : ∀ w' {fs}, St w [] fs w' → Calls Tryd.prog 60 #[v] w' (RetG w' [] (PadR b)) := fun w' fs hst => Pad_calls b v w' (hv.st hst) hb
  have hP : ∀ L : List Nat, L.length = 25 → (∀ i, L.getD i 0 < 18446744073709551616) → ∀ w' {fs}, St w [] fs w' → Calls Tryd.prog 61 #[.agg (nca L)] w' (Ret w' (.agg (nca (permL L)))) := fun L h1 h2 w' fs hst => Permute_calls L h1 h2 w' (hT.st hst) (hN.st hst)
  obtain ⟨p0, c0, rfl, _, _⟩ := hv.form
  obtain ⟨P, hPe⟩ : ∃ P, P = padB b := ⟨_, rfl⟩
  obtain ⟨N, hNe⟩ : ∃ N, N = padC b.length := ⟨_, rfl⟩
  have hlP : P.length = 136 * N := by rw [hPe, hNe, padB_len, padN, padC]; omega
  have hNb : N ≤ 1000 := by rw [hNe, padC]; omega
  refine enter (args := [_]) _ [] [] Tryd.func39 rfl Tryd.ntmps39 rfl (by simp) .nil ?_
  (refine CW.seq ?_; refine CW.region ?_; apply LW.allocA; rfl; intro _; apply LW.nil; refine thenN ?_; refine CW.seq ?_; refine CW.region ?_; apply LW.allocA; rfl; intro _; apply LW.nil; refine thenN ?_; refine CW.seq ?_; refine CW.seq ?_; refine CW.region ?_; apply LW.v0; rfl; rfl; apply ValP.move; rfl)
  refine LW.callR rfl rfl inferInstance (by (apply ArgsOk.cons; rfl; exact ArgsOk.nil)) (fun w hst => hPad w hst) ?_
  rintro v1 gs1 ⟨g, rfl, rfl⟩
  rw [← hPe]
  skip
  refine LW.callR rfl rfl inferInstance (by (apply ArgsOk.cons; rfl; apply ArgsOk.cons; rfl; exact ArgsOk.nil)) (fun w hst => Chunk_calls _ _ _ w) ?_
  rintro v2 gs2 ⟨b1, b2, rfl, rfl⟩
  simp only [List.cons_append, List.nil_append]
  (apply LW.nil; refine thenN ?_; refine CW.block ?_)
  rename_i bi bl
  apply CW.rangeFunc
  rfl
  rfl
  infer_instance
  rfl
  exact Tryd.func76
  rfl
  exact Tryd.ntmps76
  rfl
  rfl
  intro l r rec hrec
  (refine CW.seq ?_; refine CW.region ?_; apply LW.v0; rfl; rfl; apply ValP.assign; rfl; apply LW.nil; refine thenN ?_; refine CW.block ?_)
  refine CW.loop (fun c : Nat => ([(4, .int .i64 ((136 * c : Nat) : Int)), (0, .func (.yield l) #[] #[]), (1, .pointer (some ⟨b1, 0, none⟩)), (2, .pointer (some ⟨b2, 0, none⟩))],
    [(l, rdy rec), (r, .deferred (some [])), (b2, .cells #[.int .i64 136] 3 (0, 0)), (b1, .cells #[.slice (some ⟨g, 0, none⟩) P.length P.length] 28 (0, 0)), (g, .cells (uca P) 5 (0, 0)),
      (bl, .cells (nca (sumF P c)) 102 (0, 0)), (bi, .cells (uca (List.replicate 32 0)) 79 (0, 0))]))
    (fun c => c ≤ N) (fun c => N - c) 0 (Nat.zero_le _) ⟨rfl, rfl, rfl, rfl, trivial⟩ (by dsimp only; rw [sumF_zero]; exact List.Sublist.refl _) ?_
  intro c hc
  dsimp only at hc ⊢
  rcases Nat.lt_or_ge c N with hcN | hcN
  · have hle : 136 * c + 136 ≤ P.length := by omega
    (refine CW.seq ?_; refine CW.seq ?_; refine CW.region ?_; apply LW.v0; rfl; rfl; apply ValP.move; rfl; apply LW.load; rfl; rfl; apply Known.at; apply FsAt.tail; apply FsAt.tail; apply FsAt.tail; apply FsAt.head; exact Rd.one' rfl; apply LW.v0; rfl; rfl; apply ValP.lenR; rfl; infer_instance; rfl; apply LW.v0; rfl; rfl; apply ValP.lssT; rfl; rfl; omega; apply LW.nil; refine thenN ?_; apply CW.condT; rfl; (with_reducible rfl); refine CW.skip ?_; refine thenN ?_; refine CW.seq ?_; refine CW.block ?_; refine CW.seq ?_; apply CW.pre; refine AnyW.any 5 mixed (by decide +kernel) ?_; (try simp only [tsOf_cons, tsOf_nil, tsOf_app]); apply DW.loadO; rfl; rfl; rfl; exact WantT.none; rfl; apply TRead.tail; apply TRead.tail; apply TRead.head; exact ancB_nil; exact Rd.one' rfl; apply DW.loadO; rfl; rfl; rfl; exact WantT.none; rfl; apply TRead.tail; apply TRead.tail; apply TRead.tail; apply TRead.head; exact ancB_nil; exact Rd.one' rfl; apply DW.v0; rfl; rfl; rfl; exact WantT.none; rfl; apply ValP.move; rfl; apply DW.v0; rfl; rfl; rfl; exact WantT.none; rfl; apply ValP.cutFrom; infer_instance; infer_instance; rfl; rfl; omega; apply DW.v0; rfl; rfl; rfl; exact WantT.none; rfl; apply ValP.lenR; rfl; infer_instance; rfl; apply DW.nil; simp only [fsOf_cons, fsOf_nil, fsOf_app, fsOf_tsOf, fsOf_new]; apply LW.v0; rfl; rfl; apply ValP.minZ; rfl; rfl; apply LW.v0; rfl; rfl; apply ValP.assign; rfl; apply LW.nil; refine thenN ?_; refine CW.seq ?_; refine CW.region ?_; apply LW.v0; rfl; rfl; apply ValP.move; rfl; apply LW.load; rfl; rfl; apply Known.at; apply FsAt.tail; apply FsAt.tail; apply FsAt.tail; apply FsAt.head; exact Rd.one' rfl; apply LW.v0; rfl; rfl; apply ValP.move; rfl; apply LW.v0; rfl; rfl; apply ValP.move; rfl; apply LW.v0; rfl; rfl; apply ValP.move; rfl; apply LW.v0; rfl; rfl; apply ValP.addZ; rfl; rfl; omega; apply LW.v0; rfl; rfl; apply ValP.move; rfl; apply LW.v0; rfl; rfl; apply ValP.move; rfl; apply LW.v0; rfl; rfl; apply ValP.addZ; rfl; rfl; omega)
    apply LW.v0
    rfl
    rfl
    refine ValP.cut3o (o' := 136 * c) (m := 136) inferInstance inferInstance rfl rfl rfl rfl ?_ ?_ ?_ ?_ ?_
    · show 136 * c + min 136 (P.length - 136 * c) = 136 * c + 136
      omega
    · show 136 * c + min 136 (P.length - 136 * c) = 136 * c + 136
      omega
    · omega
    · omega
    · omega
    apply LW.yield
    rfl
    rfl
    (apply ArgsOk.cons; rfl; exact ArgsOk.nil)
    exact hrec
    (apply FsAt.head)
    rfl
    rfl
    (refine CW.region ?_; apply LW.v0; rfl; rfl; apply ValP.assign; rfl; apply LW.nil; apply beginI; apply SetAt.head; refine CW.block ?_; refine CW.seq ?_; refine CW.seq ?_; refine CW.region ?_; apply LW.v0; rfl; rfl; apply ValP.move; rfl; apply LW.v0; rfl; rfl; apply ValP.lenR; rfl; infer_instance; rfl; apply LW.v0; rfl; rfl; apply ValP.move; rfl; apply LW.nil; refine thenN ?_; refine CW.block ?_)
    refine CW.loop (fun k : Nat => ([(14, .int .i64 (k : Int)), (13, .int .i64 136), (12, .slice (some ⟨g, 136 * c, none⟩) 136 136), (3, .pointer (some ⟨bl, 0, none⟩)), (2, .pointer (some ⟨bi, 0, none⟩))],
      [(l, bsy rec), (r, .deferred (some [])), (b2, .cells #[.int .i64 136] 3 (0, 0)), (b1, .cells #[.slice (some ⟨g, 0, none⟩) P.length P.length] 28 (0, 0)), (g, .cells (uca P) 5 (0, 0)),
      (bl, .cells (nca (soakF (sumF P c) P (136 * c) k)) 102 (0, 0)), (bi, .cells (uca (List.replicate 32 0)) 79 (0, 0))]))
      (fun k => k ≤ 136) (fun k => 136 - k) 0 (Nat.zero_le _) ⟨rfl, rfl, rfl, rfl, rfl, trivial⟩ ?_ ?_
    · dsimp only
      rw [soakF_zero]
      exact List.Sublist.refl _
    intro k hk
    dsimp only at hk ⊢
    have hls := soakF_len (sumF P c) P (136 * c) k
    have hls' := sumF_len P c
    have hsb := soakF_lt _ P (136 * c) (sumF_lt P c) k
    rcases Nat.lt_or_ge k 136 with hk6 | hk6
    · have hbt : (P.getD (136 * c + k) 0).toNat < 256 := UInt8.toNat_lt _
      (refine CW.seq ?_; refine CW.region ?_; apply LW.v0; rfl; rfl; apply ValP.lssT; rfl; rfl; omega; apply LW.nil; refine thenN ?_; refine CW.seq ?_; apply CW.condT; rfl; (with_reducible rfl); refine CW.skip ?_; refine thenN ?_; refine CW.seq ?_; refine CW.block ?_; refine CW.seq ?_; refine CW.region ?_; apply LW.v0; rfl; rfl; apply ValP.move; rfl; apply LW.v0; rfl; rfl; apply ValP.indexAddrS; rfl; rfl; rfl; omega; apply LW.load; rfl; rfl; apply Known.at; apply FsAt.tail; apply FsAt.tail; apply FsAt.tail; apply FsAt.tail; apply FsAt.head; apply rd_ucaO; omega; apply LW.v0; rfl; rfl; apply ValP.assign; rfl; apply LW.v0; rfl; rfl; apply ValP.assign; rfl; apply LW.nil; refine thenN ?_; apply CW.pre; refine AnyW.any 10 mixed (by decide +kernel) ?_; (try simp only [tsOf_cons, tsOf_nil, tsOf_app]); apply DW.v0; rfl; rfl; rfl; exact WantT.none; rfl; apply ValP.move; rfl; apply DW.v0; rfl; rfl; rfl; exact WantT.none; rfl; apply ValP.quoZL; rfl; rfl; decide; omega; omega; apply DW.v0; rfl; rfl; rfl; exact WantT.none; rfl; apply ValP.indexAddrA; rfl; rfl; rfl; omega; apply DW.loadO; rfl; rfl; rfl; exact WantT.none; rfl; apply TRead.tail; apply TRead.tail; apply TRead.tail; apply TRead.tail; apply TRead.tail; apply TRead.head; exact ancB_nil; apply rd_nca; omega; apply DW.v0; rfl; rfl; rfl; exact WantT.none; rfl; apply ValP.move; rfl; apply DW.v0; rfl; rfl; rfl; exact WantT.none; rfl; apply ValP.convN; rfl; omega; omega; apply DW.v0; rfl; rfl; rfl; exact WantT.none; rfl; apply ValP.move; rfl; apply DW.v0; rfl; rfl; rfl; exact WantT.none; rfl; apply ValP.remZL; rfl; rfl; decide; omega; apply DW.v0; rfl; rfl; rfl; exact WantT.none; rfl; apply ValP.mulZK; rfl; rfl; decide; omega; apply DW.v0; rfl; rfl; rfl; exact WantT.none; rfl; apply ValP.shlU; rfl; rfl; omega; apply DW.nil; simp only [fsOf_cons, fsOf_nil, fsOf_app, fsOf_tsOf, fsOf_new]; apply LW.v0; rfl; rfl; apply ValP.xorU; rfl; rfl; exact hsb _; exact Nat.mod_lt _ (by decide); apply LW.v0; rfl; rfl; apply ValP.indexAddrA; rfl; rfl; rfl; omega; apply LW.store; rfl; rfl; apply SetAt.tail; apply SetAt.tail; apply SetAt.tail; apply SetAt.tail; apply SetAt.tail; apply SetAt.head; apply wr_nca; omega; apply LW.nil; refine blkN ?_; refine thenN ?_; refine CW.region ?_; apply LW.v0; rfl; rfl; apply ValP.addZL; rfl; rfl; decide; omega; apply LW.v0; rfl; rfl; apply ValP.move; rfl; apply LW.nil)
      refine thenX ⟨rfl, k + 1, hk6, by omega, ⟨rfl, rfl, rfl, rfl, rfl, trivial⟩, ?_⟩
      rw [soakF_succ]
      exact List.Sublist.refl _
    · obtain rfl : k = 136 := by omega
      have hPerm : ∀ w' {fs}, St w [] fs w' → Calls Tryd.prog 61 #[.agg (nca (soakF (sumF P c) P (136 * c) 136))] w' (Ret w' (.agg (nca (permL (soakF (sumF P c) P (136 * c) 136))))) := hP _ (by rw [hls, hls']) hsb
      have hlp := permL_len (soakF (sumF P c) P (136 * c) 136) (by rw [hls, hls'])
      have hls2 : (soakF (sumF P c) P (136 * c) 136).length = 25 := by rw [hls, hls']
      (refine CW.seq ?_; refine CW.region ?_; apply LW.v0; rfl; rfl; apply ValP.lssF; rfl; rfl; omega; apply LW.nil; refine thenN ?_; refine CW.seq ?_; apply CW.condF; rfl; (with_reducible rfl); refine CW.exit ?_; refine thenE ?_; refine thenE ?_; refine blkE rfl ?_; refine thenN ?_; refine CW.region ?_; apply LW.load; rfl; rfl; apply Known.at; apply FsAt.tail; apply FsAt.tail; apply FsAt.tail; apply FsAt.tail; apply FsAt.tail; apply FsAt.head; apply rd_ncaW; assumption; apply LW.callE; rfl; rfl; infer_instance; apply ArgsOk.cons; rfl; exact ArgsOk.nil; intro w _; exact hPerm w (by assumption); apply LW.store; rfl; rfl; apply SetAt.tail; apply SetAt.tail; apply SetAt.tail; apply SetAt.tail; apply SetAt.tail; apply SetAt.head; apply wr_ncaW; assumption; assumption; apply LW.nil; refine blkN ?_; apply roundN; apply SetAt.head; apply LW.v0; rfl; rfl; apply ValP.notT; rfl; (with_reducible rfl); apply LW.nil; refine thenN ?_; apply CW.condF; rfl; (with_reducible rfl); refine CW.skip ?_; refine blkN ?_; refine thenN ?_; refine CW.region ?_; apply LW.v0; rfl; rfl; apply ValP.move; rfl; apply LW.load; rfl; rfl; apply Known.at; apply FsAt.tail; apply FsAt.tail; apply FsAt.head; exact Rd.one' rfl; apply LW.v0; rfl; rfl; apply ValP.addZL; rfl; rfl; decide; omega; apply LW.v0; rfl; rfl; apply ValP.assign; rfl; apply LW.nil)
      refine thenX ⟨rfl, c + 1, hcN, by omega, ⟨rfl, rfl, rfl, rfl, trivial⟩, ?_⟩
      rw [sumF_succ]
      exact List.Sublist.refl _
  · obtain rfl : c = N := by omega
    have hls := sumF_len P c
    have hsb := sumF_lt P c
    (refine CW.seq ?_; refine CW.seq ?_; refine CW.region ?_; apply LW.v0; rfl; rfl; apply ValP.move; rfl; apply LW.load; rfl; rfl; apply Known.at; apply FsAt.tail; apply FsAt.tail; apply FsAt.tail; apply FsAt.head; exact Rd.one' rfl; apply LW.v0; rfl; rfl; apply ValP.lenR; rfl; infer_instance; rfl; apply LW.v0; rfl; rfl; apply ValP.lssF; rfl; rfl; omega; apply LW.nil; refine thenN ?_; apply CW.condF; rfl; (with_reducible rfl); refine CW.exit ?_; refine thenE ?_; refine thenE ?_; refine blkE rfl ?_)
    apply rangeN
    (exact .inr rfl)
    (exact Shut.nil)
    (apply SetAt.head)
    (refine blkN ?_; refine thenM ?_; refine CW.seq ?_; refine CW.seq ?_; refine CW.region ?_; apply LW.v0; rfl; rfl; apply ValP.move; rfl; apply LW.nil; refine thenN ?_; refine CW.block ?_)
    refine CW.loop (fun k : Nat => ([(34, .int .i64 (k : Int)), (3, .pointer (some ⟨bl, 0, none⟩)), (2, .pointer (some ⟨bi, 0, none⟩))],
      [(r, .deferred (some [])), (bl, .cells (nca (sumF P c)) 102 (0, 0)), (bi, .cells (uca (idF (sumF P c) k)) 79 (0, 0))]))
      (fun k => k ≤ 32) (fun k => 32 - k) 0 (Nat.zero_le _) ⟨rfl, rfl, rfl, trivial⟩ ?_ ?_
    · dsimp only
      rw [idF_zero]
      (apply List.Sublist.cons; apply List.Sublist.cons_cons; apply List.Sublist.cons; apply List.Sublist.cons; apply List.Sublist.cons; exact List.Sublist.refl _)
    intro k hk
    dsimp only at hk ⊢
    have hli := idF_len (sumF P c) k
    rcases Nat.lt_or_ge k 32 with hk6 | hk6
    · (refine CW.seq ?_; refine CW.region ?_; apply LW.v0; rfl; rfl; apply ValP.lssT; rfl; rfl; omega; apply LW.nil; refine thenN ?_; refine CW.seq ?_; apply CW.condT; rfl; (with_reducible rfl); refine CW.skip ?_; refine thenN ?_; refine CW.seq ?_; refine CW.block ?_; refine CW.seq ?_; refine CW.region ?_; apply LW.v0; rfl; rfl; apply ValP.move; rfl; apply LW.v0; rfl; rfl; apply ValP.assign; rfl; apply LW.nil; refine thenN ?_; refine CW.region ?_; apply LW.v0; rfl; rfl; apply ValP.move; rfl; apply LW.v0; rfl; rfl; apply ValP.move; rfl; apply LW.v0; rfl; rfl; apply ValP.quoZL; rfl; rfl; decide; omega; omega; apply LW.v0; rfl; rfl; apply ValP.indexAddrA; rfl; rfl; rfl; omega; apply LW.load; rfl; rfl; apply Known.at; apply FsAt.tail; apply FsAt.head; apply rd_nca; omega; apply LW.v0; rfl; rfl; apply ValP.move; rfl; apply LW.v0; rfl; rfl; apply ValP.remZL; rfl; rfl; decide; omega; apply LW.v0; rfl; rfl; apply ValP.mulZK; rfl; rfl; decide; omega; apply LW.v0; rfl; rfl; apply ValP.shrU; rfl; rfl; omega; apply LW.v0; rfl; rfl; apply ValP.convB; rfl; apply LW.v0; rfl; rfl; apply ValP.indexAddrA; rfl; rfl; rfl; omega; apply LW.store; rfl; rfl; apply SetAt.tail; apply SetAt.tail; apply SetAt.head; apply wr_uca; omega; exact Nat.mod_lt _ (by decide); apply LW.nil; refine blkN ?_; refine thenN ?_; refine CW.region ?_; apply LW.v0; rfl; rfl; apply ValP.addZL; rfl; rfl; decide; omega; apply LW.v0; rfl; rfl; apply ValP.move; rfl; apply LW.nil)
      refine thenX ⟨rfl, k + 1, hk6, by omega, ⟨rfl, rfl, rfl, trivial⟩, ?_⟩
      rw [idF_succ]
      exact List.Sublist.refl _
    · obtain rfl : k = 32 := by omega
      (refine CW.seq ?_; refine CW.region ?_; apply LW.v0; rfl; rfl; apply ValP.lssF; rfl; rfl; omega; apply LW.nil; refine thenN ?_; refine CW.seq ?_; apply CW.condF; rfl; (with_reducible rfl); refine CW.exit ?_; refine thenE ?_; refine thenE ?_; refine blkE rfl ?_; refine thenN ?_; refine CW.seq ?_; refine CW.region ?_; apply LW.load; rfl; rfl; apply Known.at; apply FsAt.tail; apply FsAt.tail; apply FsAt.head; apply rd_ucaW; assumption; apply LW.store; rfl; rfl; apply SetAt.tail; apply SetAt.tail; apply SetAt.head; apply wr_ucaW; assumption; assumption; apply LW.nil; refine thenN ?_; refine CW.ret ?_)
      (apply finRM; exact .inl rfl; apply Shut.cons; apply SetAt.head; exact Shut.nil; rfl; rfl; apply ResL.cons; apply Res.cell; rfl; apply Known.at; apply FsAt.tail; apply FsAt.tail; apply FsAt.head; apply rd_ucaW; assumption; exact ResL.nil)
      rw [sumB, ← hPe, ← hNe]
      rfl
end Go.Proofs.YtobkhnmglbfheaaDoor.SK

/-
  Contracts of the library: strings that are built, bytes compared, digits.
  Conditions: none.
-/
namespace Go.Proofs.YtobkhnmglbfheaaDoor.SK
open Go Go.RowKit SL
set_option maxRecDepth 8000
set_option maxHeartbeats 4000000
set_option linter.unusedSimpArgs false
set_option linter.unusedVariables false
attribute [local irreducible] SL.CW SL.LW SL.DW Calls SL.Ret SL.RetG SL.beginQ SL.roundQ SL.rangeQ SL.inQ SL.RW SL.AnyW SL.thenQ SL.thenC SL.thenW SL.blkQ SL.finQ SL.ValP SL.NewP SL.SetP SL.CallP SL.Rd SL.Wr SL.Known
def bev (l : List UInt8) : Nat := l.foldl (fun n u => 256 * n + u.toNat) 0
theorem bev_snoc (l : List UInt8) (u : UInt8) : bev (l ++ [u]) = 256 * bev l + u.toNat := by simp [bev, List.foldl_append]
theorem bev_go (l : List UInt8) : ∀ n, l.foldl (fun n u => 256 * n + u.toNat) n < (n + 1) * 2 ^ (8 * l.length) := by
  induction l with
  | nil => intro n; simp
  | cons u l ih =>
    intro n
    have hu := u.toNat_lt
    rw [List.foldl_cons, List.length_cons, show 8 * (l.length + 1) = 8 + 8 * l.length by omega, Nat.pow_add, ← Nat.mul_assoc]
    exact Nat.lt_of_lt_of_le (ih _) (Nat.mul_le_mul_right _ (by omega))
theorem bev_lt (l : List UInt8) : bev l < 2 ^ (8 * l.length) := by
  have := bev_go l 0
  rwa [Nat.zero_add, Nat.one_mul] at this
def hexu (u : UInt8) : Option Nat := if 48 ≤ u.toNat ∧ u.toNat ≤ 57 then some (u.toNat - 48) else if 97 ≤ u.toNat ∧ u.toNat ≤ 102 then some (u.toNat - 87) else none
def hexi (c : Nat) : Int := match hexu (UInt8.ofNat c) with | some d => (d : Int) | none => -1
end Go.Proofs.YtobkhnmglbfheaaDoor.SK

/-
  Contracts of the sponge: digests in digits.
  Conditions: none.
-/
namespace Go.Proofs.YtobkhnmglbfheaaDoor.SK
open Go Go.RowKit SL
set_option maxRecDepth 8000
set_option maxHeartbeats 4000000
set_option linter.unusedSimpArgs false
set_option linter.unusedVariables false
attribute [local irreducible] SL.CW SL.LW SL.DW Calls SL.Ret SL.RetG SL.beginQ SL.roundQ SL.rangeQ SL.inQ SL.RW SL.AnyW SL.thenQ SL.thenC SL.thenW SL.blkQ SL.finQ SL.ValP SL.NewP SL.SetP SL.CallP SL.Rd SL.Wr SL.Known
structure TX where
  m : Nat
  p : Value
  v : Value
  seg : Fs
/-! ### The document's -/
end Go.Proofs.YtobkhnmglbfheaaDoor.SK

/-
  Contracts of the sponge: how digests stand.
  Conditions: none.
-/
namespace Go.Proofs.YtobkhnmglbfheaaDoor.SK
open Go Go.RowKit SL
set_option maxRecDepth 8000
set_option maxHeartbeats 4000000
set_option linter.unusedSimpArgs false
set_option linter.unusedVariables false
attribute [local irreducible] SL.CW SL.LW SL.DW Calls SL.Ret SL.RetG SL.beginQ SL.roundQ SL.rangeQ SL.inQ SL.RW SL.AnyW SL.thenQ SL.thenC SL.thenW SL.blkQ SL.finQ SL.ValP SL.NewP SL.SetP SL.CallP SL.Rd SL.Wr SL.Known
/-! ### The document's -/
end Go.Proofs.YtobkhnmglbfheaaDoor.SK

/-
  Contracts of the sponge: digests out of digits.
  Conditions: none.
-/
namespace Go.Proofs.YtobkhnmglbfheaaDoor.SK
open Go Go.RowKit SL
set_option maxRecDepth 8000
set_option maxHeartbeats 4000000
set_option linter.unusedSimpArgs false
set_option linter.unusedVariables false
attribute [local irreducible] SL.CW SL.LW SL.DW Calls SL.Ret SL.RetG SL.beginQ SL.roundQ SL.rangeQ SL.inQ SL.RW SL.AnyW SL.thenQ SL.thenC SL.thenW SL.blkQ SL.finQ SL.ValP SL.NewP SL.SetP SL.CallP SL.Rd SL.Wr SL.Known
/-! ### What digits say -/
/-- the digest of the digits ahead: none, if one of them is no digit. -/
def parF (s : List UInt8) : Nat → List UInt8
  | 0 => List.replicate 32 0
  | k + 1 => (parF s k).set (k / 2) (UInt8.ofNat ((16 * ((parF s k).getD (k / 2) 0).toNat % 256 + (hexi (s.getD k 0).toNat).toNat % 256) % 256))
attribute [local irreducible] parF
/-! ### The document's -/
end Go.Proofs.YtobkhnmglbfheaaDoor.SK

/-
  The sponge: what the law's first line reckons.
  Conditions: none.
-/
namespace Go.Proofs.YtobkhnmglbfheaaDoor.SK
open Go Go.RowKit SL
set_option maxRecDepth 100000
end Go.Proofs.YtobkhnmglbfheaaDoor.SK

/-
  The sponge: the law's first line.
  Conditions: none.
-/
namespace Go.Proofs.YtobkhnmglbfheaaDoor.SK
open Go Go.RowKit SL
set_option maxRecDepth 8000
set_option maxHeartbeats 4000000
set_option linter.unusedSimpArgs false
set_option linter.unusedVariables false
attribute [local irreducible] SL.CW SL.LW SL.DW Calls SL.Ret SL.RetG SL.beginQ SL.roundQ SL.rangeQ SL.inQ SL.RW SL.AnyW SL.thenQ SL.thenC SL.thenW SL.blkQ SL.finQ SL.ValP SL.NewP SL.SetP SL.CallP SL.Rd SL.Wr SL.Known
theorem TurnAt.bel {w w' : World} (h : TurnAt w) (hb : Bel w.heap.size [] w w') : TurnAt w' := by
  obtain ⟨E, fr, h⟩ := h
  exact ⟨E, fr, by rw [hb.block _ (Array.getElem?_eq_some_iff.1 h).1 (by simp)]; exact h⟩
theorem NumAt.bel {w w' : World} (h : NumAt w) (hb : Bel w.heap.size [] w w') : NumAt w' := by
  obtain ⟨E, fr, h⟩ := h
  exact ⟨E, fr, by rw [hb.block _ (Array.getElem?_eq_some_iff.1 h).1 (by simp)]; exact h⟩
end Go.Proofs.YtobkhnmglbfheaaDoor.SK

/-
  The sponge: what the laws do with bytes.
  Conditions: none.
-/
namespace Go.Proofs.YtobkhnmglbfheaaDoor.SK
open Go Go.RowKit SL
set_option maxRecDepth 8000
set_option maxHeartbeats 4000000
set_option linter.unusedSimpArgs false
set_option linter.unusedVariables false
attribute [local irreducible] SL.CW SL.LW SL.DW Calls SL.Ret SL.RetG SL.beginQ SL.roundQ SL.rangeQ SL.inQ SL.RW SL.AnyW SL.thenQ SL.thenC SL.thenW SL.blkQ SL.finQ SL.ValP SL.NewP SL.SetP SL.CallP SL.Rd SL.Wr SL.Known
def RowR (b : List UInt8) (v : Value) (gs : Fs) : Prop := IsRow 5 1 v b.length (ucs b) gs
/-! ### Bytes compared -/
theorem Equal_calls (a b : List UInt8) (va vb : Value) (w : World) (ha : RowAt w 1 va a.length (ucs a)) (hb : RowAt w 1 vb b.length (ucs b)) : Calls Tryd.prog 13 #[va, vb] w (Ret w (.bool (decide (a = b)))) := by
  refine enter (args := [_, _]) _ [] [] Tryd.func13 rfl Tryd.ntmps13 rfl (by simp) .nil ?_
  (refine CW.seq ?_; refine CW.region ?_; apply LW.v0; rfl; rfl; apply ValP.assign; rfl; apply LW.nil; refine thenN ?_; refine CW.seq ?_; refine CW.region ?_; apply LW.v0; rfl; rfl; apply ValP.move; rfl)
  refine LW.toStr rfl inferInstance inferInstance inferInstance rfl (fun w hs => ha.st hs) ?_
  (apply LW.v0; rfl; rfl; apply ValP.move; rfl)
  refine LW.toStr rfl inferInstance inferInstance inferInstance rfl (fun w hs => hb.st hs) ?_
  (apply LW.v0; rfl; rfl; apply ValP.strEq; rfl; rfl; apply LW.v0; rfl; rfl; apply ValP.assign; rfl; apply LW.nil; refine thenN ?_; refine CW.ret ?_)
  (apply finR; exact .inl rfl; rfl; rfl; rfl; apply ResL.cons; exact Res.tmp rfl; exact ResL.nil)
  simp [tup, ← bytes_eq]
def litF (l : List UInt8) : Nat → Nat
  | 0 => 0
  | k + 1 => litF l k ||| ((l.getD k 0).toNat * 2 ^ (8 * k) % 18446744073709551616)
attribute [local irreducible] litF
end Go.Proofs.YtobkhnmglbfheaaDoor.SK

/-
  The sponge: plain laws of digits, of order and of padded bytes.
  Conditions: none.
-/
namespace Go.Proofs.YtobkhnmglbfheaaDoor.SK
open Go Go.RowKit SL
set_option maxRecDepth 8000
set_option linter.unusedSimpArgs false
set_option linter.unusedVariables false
/-! ### Order -/
/-! ### Digits lead back -/
/-! ### Padded bytes -/
theorem pad1_get (b : List UInt8) (i : Nat) (hi : i < padN b.length) : (pad1 b).getD i 0 = if i = b.length then 1 else b.getD i 0 := by
  have hlt := padN_lt b.length
  unfold pad1
  rw [List.getD_eq_getElem?_getD, List.getElem?_set]
  split
  · rename_i h
    subst h
    rw [if_pos (by simp; omega), if_pos rfl]; rfl
  · rename_i h
    rw [if_neg (fun e => h e.symm), List.getElem?_append]
    split
    · rw [List.getD_eq_getElem?_getD]
    · rename_i hge
      rw [List.getElem?_replicate]
      have : b[i]? = none := List.getElem?_eq_none (by omega)
      rw [List.getD_eq_getElem?_getD, this]
      split <;> rfl
end Go.Proofs.YtobkhnmglbfheaaDoor.SK

/-
  The document's sponge: padded bytes.
  Conditions: none.
-/
namespace Go.Proofs.YtobkhnmglbfheaaDoor.SK
open Go Go.RowKit SL
set_option maxRecDepth 8000
set_option maxHeartbeats 4000000
set_option linter.unusedSimpArgs false
set_option linter.unusedVariables false
attribute [local irreducible] SL.CW SL.LW SL.DW Calls SL.Ret SL.RetG SL.beginQ SL.roundQ SL.rangeQ SL.inQ SL.RW SL.AnyW SL.thenQ SL.thenC SL.thenW SL.blkQ SL.finQ SL.ValP SL.NewP SL.SetP SL.CallP SL.Rd SL.Wr SL.Known
/-- bytes that are not yet padded to the end. -/
def padK (b : List UInt8) (k : Nat) : List UInt8 := b ++ 1 :: List.replicate k 0
theorem padK_zero (b : List UInt8) : padK b 0 = b ++ [1] := rfl
theorem padK_succ (b : List UInt8) (k : Nat) : padK b (k + 1) = padK b k ++ [0] := by
  simp [padK, List.replicate_succ']
theorem padK_all (b : List UInt8) : padK b (padN b.length - b.length - 1) = pad1 b := by
  have hlt := padN_lt b.length
  unfold padK pad1
  rw [List.set_append_right _ _ (Nat.le_refl _), Nat.sub_self, show padN b.length - b.length = (padN b.length - b.length - 1) + 1 by omega, List.replicate_succ]
  rfl
theorem last_byte (b : List UInt8) : ((pad1 b).getD (padN b.length - 1) 0 = 0 ∨ (pad1 b).getD (padN b.length - 1) 0 = 1) := by
  have hlt := padN_lt b.length
  rw [pad1_get b _ (by omega)]
  split
  · exact .inr rfl
  · left
    rw [List.getD_eq_getElem?_getD, List.getElem?_eq_none (by omega)]; rfl
theorem pad_last (b : List UInt8) : padB b = (pad1 b).set (padN b.length - 1) (UInt8.ofNat ((((pad1 b).getD (padN b.length - 1) 0).toNat + 128) % 256)) := by
  unfold padB
  rcases last_byte b with h | h <;> rw [h] <;> rfl
structure PX where
  k : Nat
  v : Value
  seg : Fs
theorem rPad_calls (b : List UInt8) (v : Value) (w : World) (hv : RowAt w 1 v b.length (ucs b)) (hb : b.length ≤ 100000) : Calls Tryd.prog 62 #[v] w (RetG w [] (RowR (padB b))) := by
  have hlt := padN_lt b.length
  have hN : padN b.length = (b.length / 136 + 1) * 136 := rfl
  refine enter (args := [_]) _ [] [] Tryd.func62 rfl Tryd.ntmps62 rfl (by simp) .nil ?_
  (refine CW.seq ?_; refine CW.region ?_; apply LW.v0; rfl; rfl; apply ValP.assign; rfl; apply LW.nil; refine thenN ?_; refine CW.seq ?_; refine CW.region ?_)
  refine LW.lay0 rfl inferInstance inferInstance fun v0 seg0 hrow => ?_
  obtain ⟨p0, c0, rfl⟩ := hrow.form
  (apply LW.v0; rfl; rfl; apply ValP.move; rfl)
  (apply LW.appendAny; (case hrow => assumption); rfl; rfl; infer_instance; infer_instance; infer_instance; rfl; rfl; rfl; exact AtSeg.head)
  · exact fun w hs => hv.st hs
  · exact ucs_cells b
  · simp only [maxLen]; omega
  · omega
  intro v1 seg1 hrow1
  obtain ⟨p1, c1, rfl⟩ := hrow1.form
  refine ⟨_, (by (exact AtSeg.head)), ?_⟩
  simp only [List.nil_append, Nat.zero_add] at hrow1 ⊢
  clear hrow
  have hrow := hrow1
  (apply LW.v0; rfl; rfl; apply ValP.assign; rfl; apply LW.nil; refine thenN ?_; refine CW.seq ?_; refine CW.region ?_; apply LW.v0; rfl; rfl; apply ValP.move; rfl; apply LW.lay1; rfl; infer_instance; infer_instance; rfl; rfl; rfl; rfl; rfl; rfl; intro _)
  (apply LW.append; rfl; rfl; infer_instance; infer_instance; infer_instance; rfl; rfl; rfl; (case hrow => assumption); apply AtSeg.cons; exact AtSeg.head; apply Known.at; apply FsAt.head; rfl; rfl; rfl; omega; simp only [maxLen]; omega; omega; intro v' seg' hrow'; obtain ⟨p', c', rfl⟩ := hrow'.form; (refine ⟨_, (by (repeat (first | exact AtSeg.head | apply AtSeg.cons | apply AtSeg.app))), ?_⟩); (try simp only [List.cons_append, List.nil_append]))
  (apply LW.drop; exact List.Sublist.cons _ (List.Sublist.refl _))
  (apply LW.v0; rfl; rfl; apply ValP.assign; rfl; apply LW.nil; refine thenN ?_; refine CW.seq ?_; refine CW.block ?_)
  obtain ⟨K, hK⟩ : ∃ K, K = padN b.length - b.length - 1 := ⟨_, rfl⟩
  refine CW.loop (fun x : PX => ([(3, x.v)], x.seg ++ []))
    (fun x => x.k ≤ K ∧ IsRow 5 1 x.v (b.length + 1 + x.k) (ucs (padK b x.k)) x.seg) (fun x => K - x.k) ⟨0, _, _⟩ ⟨Nat.zero_le _, by rw [padK_zero, ucs_app]; exact hrow'⟩ ⟨rfl, trivial⟩ (List.Sublist.refl _) ?_
  rintro ⟨k, v2, seg2⟩ ⟨hk, hrow2⟩
  clear hrow hrow1 hrow'
  dsimp only at hk hrow2 ⊢
  obtain ⟨p2, c2, rfl⟩ := hrow2.form
  rcases Nat.lt_or_ge k K with hkK | hkK
  · have hrow := hrow2
    (refine CW.seq ?_; refine CW.seq ?_; refine CW.region ?_; apply LW.v0; rfl; rfl; apply ValP.move; rfl; apply LW.v0; rfl; rfl; apply ValP.lenR; rfl; infer_instance; rfl; apply LW.v0; rfl; rfl; apply ValP.remZL; rfl; rfl; decide; omega; apply LW.v0; rfl; rfl; apply ValP.neT; rfl; rfl; omega; apply LW.nil; refine thenN ?_; apply CW.condT; rfl; (with_reducible rfl); refine CW.skip ?_; refine thenN ?_; refine CW.block ?_; refine CW.region ?_; apply LW.v0; rfl; rfl; apply ValP.move; rfl; apply LW.lay1; rfl; infer_instance; infer_instance; rfl; rfl; rfl; rfl; rfl; rfl; intro _)
    (apply LW.append; rfl; rfl; infer_instance; infer_instance; infer_instance; rfl; rfl; rfl; (case hrow => assumption); apply AtSeg.cons; exact AtSeg.head; apply Known.at; apply FsAt.head; rfl; rfl; rfl; omega; simp only [maxLen]; omega; omega; intro v' seg' hrow'; obtain ⟨p', c', rfl⟩ := hrow'.form; (refine ⟨_, (by (repeat (first | exact AtSeg.head | apply AtSeg.cons | apply AtSeg.app))), ?_⟩); (try simp only [List.cons_append, List.nil_append]))
    (apply LW.drop; exact List.Sublist.cons _ (List.Sublist.refl _))
    (apply LW.v0; rfl; rfl; apply ValP.assign; rfl; apply LW.nil; refine blkN ?_)
    refine thenX ⟨rfl, ⟨k + 1, _, seg'⟩, ⟨hkK, ?_⟩, ?_, ⟨rfl, trivial⟩, List.Sublist.refl _⟩
    · dsimp only
      rw [padK_succ, ucs_app]
      exact hrow'
    · dsimp only
      omega
  · obtain rfl : k = K := by omega
    have hn : b.length + 1 + k = padN b.length := by omega
    have hpk : padK b k = pad1 b := by rw [hK]; exact padK_all b
    rw [hn, hpk] at hrow2
    obtain ⟨g, cur, rfl, rfl, hc1, hmx, hsz, ht⟩ := hrow2.pos (by omega)
    have hl1 := pad1_len b
    have hu := UInt8.toNat_lt ((pad1 b).getD (padN b.length - 1) 0)
    have hcg : cur[padN b.length - 1]? = some (.int .u8 (((pad1 b).getD (padN b.length - 1) 0).toNat : Int)) := by
      have h1 := congrArg (·[padN b.length - 1]?) ht
      simp only [Nat.mul_one] at h1
      rw [List.getElem?_take, if_pos (by omega)] at h1
      have h2 := uca_get (pad1 b) (padN b.length - 1) (by omega)
      rw [← Array.getElem?_toList, h1]
      simpa [uca] using h2
    have hrd : Rd Tryd.prog 5 (.cells cur 5 (0, 0)) (0 + (padN b.length - 1) * 1) (.int .u8 (((pad1 b).getD (padN b.length - 1) 0).toNat : Int)) := Rd.one (by rw [Nat.zero_add, Nat.mul_one]; exact hcg)
    have hW : Wr Tryd.prog 5 (.cells cur 5 (0, 0)) (0 + (padN b.length - 1) * 1) (.int .u8 (((((pad1 b).getD (padN b.length - 1) 0).toNat + 128) % 256 : Nat) : Int)) (.cells (wrCells cur ((padN b.length - 1) * 1) [.int .u8 (((((pad1 b).getD (padN b.length - 1) 0).toNat + 128) % 256 : Nat) : Int)]) 5 (0, 0)) := Wr.cells rfl rfl (by rw [hsz]; show 0 + (padN b.length - 1) * 1 + 1 ≤ c2 * 1; omega) (by rw [Nat.zero_add]; rfl)
    obtain ⟨w1, w2⟩ := wr_take (i := padN b.length - 1) (vs := [Value.int .u8 (((((pad1 b).getD (padN b.length - 1) 0).toNat + 128) % 256 : Nat) : Int)]) ht rfl (by omega) (by omega)
    rw [hn]
    (refine CW.seq ?_; refine CW.seq ?_; refine CW.region ?_; apply LW.v0; rfl; rfl; apply ValP.move; rfl; apply LW.v0; rfl; rfl; apply ValP.lenR; rfl; infer_instance; rfl; apply LW.v0; rfl; rfl; apply ValP.remZL; rfl; rfl; decide; omega; apply LW.v0; rfl; rfl; apply ValP.neF; rfl; rfl; omega; apply LW.nil; refine thenN ?_; apply CW.condF; rfl; (with_reducible rfl); refine CW.exit ?_; refine thenE ?_; refine thenE ?_; refine blkE rfl ?_; refine thenN ?_; refine CW.seq ?_; refine CW.region ?_; apply LW.v0; rfl; rfl; apply ValP.move; rfl; apply LW.v0; rfl; rfl; apply ValP.move; rfl; apply LW.v0; rfl; rfl; apply ValP.lenR; rfl; infer_instance; rfl; apply LW.v0; rfl; rfl; apply ValP.subZL; rfl; rfl; decide; omega; omega; apply LW.v0; rfl; rfl; apply ValP.indexAddrS; rfl; rfl; rfl; omega; apply LW.load; rfl; rfl; apply Known.at; apply FsAt.head; assumption; apply LW.v0; rfl; rfl; apply ValP.addBL; rfl; rfl; decide; apply LW.v0; rfl; rfl; apply ValP.indexAddrS; rfl; rfl; rfl; omega; apply LW.store; rfl; rfl; apply SetAt.head; assumption; apply LW.nil; refine thenN ?_; refine CW.seq ?_; refine CW.region ?_; apply LW.v0; rfl; rfl; apply ValP.move; rfl; apply LW.v0; rfl; rfl; apply ValP.assign; rfl; apply LW.nil; refine thenN ?_; refine CW.ret ?_)
    refine fin [(g, .cells (wrCells cur ((padN b.length - 1) * 1) [.int .u8 (((((pad1 b).getD (padN b.length - 1) 0).toNat + 128) % 256 : Nat) : Int)]) 5 (0, 0))] (.inl rfl) rfl rfl (by (apply ResL.cons; exact Res.tmp rfl; exact ResL.nil)) (by (exact List.Sublist.refl _)) ?_
    show IsRow 5 1 (.slice (some ⟨g, 0, none⟩) (padN b.length) c2) (padB b).length (ucs (padB b)) _
    rw [padB_len]
    refine .own hc1 hmx (by rw [w2, hsz]) ?_ (by rw [ucs_len, padB_len, Nat.mul_one])
    rw [w1, pad_last]
    have e : ((((pad1 b).getD (padN b.length - 1) 0).toNat + 128) % 256) = (UInt8.ofNat ((((pad1 b).getD (padN b.length - 1) 0).toNat + 128) % 256)).toNat := by rw [UInt8.toNat_ofNat']; omega
    generalize (((pad1 b).getD (padN b.length - 1) 0).toNat + 128) % 256 = q at *
    generalize UInt8.ofNat q = u at *
    subst e
    have hlen : (pad1 b).length = padN b.length := hl1
    rw [ucs_map, ucs_map, Nat.mul_one, Nat.mul_one, List.set_eq_take_append_cons_drop, if_pos (by omega)]
    simp [List.map_take, List.map_drop]
end Go.Proofs.YtobkhnmglbfheaaDoor.SK

/-
  The document's sponge: lanes mixed, rows.
  Conditions: none.
-/
namespace Go.Proofs.YtobkhnmglbfheaaDoor.SK
open Go Go.RowKit SL
set_option maxRecDepth 8000
set_option maxHeartbeats 4000000
set_option linter.unusedSimpArgs false
set_option linter.unusedVariables false
attribute [local irreducible] SL.CW SL.LW SL.DW Calls SL.Ret SL.RetG SL.beginQ SL.roundQ SL.rangeQ SL.inQ SL.RW SL.AnyW SL.thenQ SL.thenC SL.thenW SL.blkQ SL.finQ SL.ValP SL.NewP SL.SetP SL.CallP SL.Rd SL.Wr SL.Known
theorem rotl_zero (x : Nat) (hx : x < 18446744073709551616) : rotl x 0 = x := by
  unfold rotl
  rw [Nat.pow_zero, Nat.mul_one, Nat.sub_zero, Nat.mod_eq_of_lt hx, Nat.div_eq_of_lt (show x < 2 ^ 64 from hx), Nat.or_zero]
theorem Left_calls (x n : Nat) (hx : x < 18446744073709551616) (hn : n < 100000) (w : World) : Calls Tryd.prog 89 #[.int .u64 (x : Int), .int .i64 (n : Int)] w (Ret w (.int .u64 ((rotl x (n % 64) : Nat) : Int))) := by
  rcases Nat.eq_zero_or_pos (n % 64) with h0 | h0
  · rw [h0, rotl_zero x hx]
    refine enter (args := [_, _]) _ [] [] Tryd.func89 rfl Tryd.ntmps89 rfl (by simp) .nil ?_
    (refine CW.seq ?_; refine CW.region ?_; apply LW.v0; rfl; rfl; apply ValP.assign; rfl; apply LW.nil; refine thenN ?_; refine CW.seq ?_; refine CW.region ?_; apply LW.v0; rfl; rfl; apply ValP.move; rfl; apply LW.v0; rfl; rfl; apply ValP.remZL; rfl; rfl; decide; omega; apply LW.v0; rfl; rfl; apply ValP.assign; rfl; apply LW.nil; refine thenN ?_; refine CW.seq ?_; refine CW.seq ?_; refine CW.region ?_; apply LW.v0; rfl; rfl; apply ValP.move; rfl; apply LW.v0; rfl; rfl; apply ValP.eqT; rfl; rfl; omega; apply LW.nil; refine thenN ?_; apply CW.condT; rfl; (with_reducible rfl); refine CW.seq ?_; refine CW.region ?_; apply LW.v0; rfl; rfl; apply ValP.move; rfl; apply LW.v0; rfl; rfl; apply ValP.assign; rfl; apply LW.nil; refine thenN ?_; refine CW.ret ?_; refine thenR ?_)
    (apply finR; exact .inl rfl; rfl; rfl; rfl; apply ResL.cons; exact Res.tmp rfl; exact ResL.nil)
    rfl
  · have hm : n % 64 < 64 := Nat.mod_lt _ (by decide)
    refine enter (args := [_, _]) _ [] [] Tryd.func89 rfl Tryd.ntmps89 rfl (by simp) .nil ?_
    (refine CW.seq ?_; refine CW.region ?_; apply LW.v0; rfl; rfl; apply ValP.assign; rfl; apply LW.nil; refine thenN ?_; refine CW.seq ?_; refine CW.region ?_; apply LW.v0; rfl; rfl; apply ValP.move; rfl; apply LW.v0; rfl; rfl; apply ValP.remZL; rfl; rfl; decide; omega; apply LW.v0; rfl; rfl; apply ValP.assign; rfl; apply LW.nil; refine thenN ?_; refine CW.seq ?_; refine CW.seq ?_; refine CW.region ?_; apply LW.v0; rfl; rfl; apply ValP.move; rfl; apply LW.v0; rfl; rfl; apply ValP.eqF; rfl; rfl; omega; apply LW.nil; refine thenN ?_; apply CW.condF; rfl; (with_reducible rfl); refine CW.skip ?_; refine thenN ?_; refine CW.seq ?_; apply CW.pre; refine AnyW.any 7 mixed (by decide +kernel) ?_; (try simp only [tsOf_cons, tsOf_nil, tsOf_app]); apply DW.v0; rfl; rfl; rfl; exact WantT.none; rfl; apply ValP.move; rfl; apply DW.v0; rfl; rfl; rfl; exact WantT.none; rfl; apply ValP.move; rfl; apply DW.v0; rfl; rfl; rfl; exact WantT.none; rfl; apply ValP.shlU; rfl; rfl; omega; apply DW.v0; rfl; rfl; rfl; exact WantT.none; rfl; apply ValP.move; rfl; apply DW.v0; rfl; rfl; rfl; exact WantT.none; rfl; apply ValP.move; rfl; apply DW.v0; rfl; rfl; rfl; exact WantT.none; rfl; apply ValP.subZK; rfl; rfl; decide; omega; omega; apply DW.v0; rfl; rfl; rfl; exact WantT.none; rfl; apply ValP.shrU; rfl; rfl; omega; apply DW.nil; simp only [fsOf_cons, fsOf_nil, fsOf_app, fsOf_tsOf, fsOf_new]; apply LW.v0; rfl; rfl; apply ValP.orU; rfl; rfl; exact Nat.mod_lt _ (by decide); exact Nat.lt_of_le_of_lt (Nat.div_le_self _ _) hx; apply LW.v0; rfl; rfl; apply ValP.assign; rfl; apply LW.nil; refine thenN ?_; refine CW.ret ?_)
    (apply finR; exact .inl rfl; rfl; rfl; rfl; apply ResL.cons; exact Res.tmp rfl; exact ResL.nil)
    rfl
/-! ### Lanes mixed -/
theorem cF_at (L : List Nat) (k : Nat) (hk : k < 25) : cF L (k + 1) = (cF L k).set (k % 5) ((cF L k).getD (k % 5) 0 ^^^ L.getD k 0) := by
  rw [cF, show 5 * (k / 5 % 5) + k % 5 % 5 = k by omega]
def dF (L C : List Nat) : Nat → List Nat
  | 0 => L
  | k + 1 => (dF L C k).set k ((dF L C k).getD k 0 ^^^ (C.getD ((k % 5 + 4) % 5) 0 ^^^ rotl (C.getD ((k % 5 + 1) % 5) 0) 1))
theorem dF_zero (L C : List Nat) : dF L C 0 = L := rfl
theorem dF_succ (L C : List Nat) (k : Nat) : dF L C (k + 1) = (dF L C k).set k ((dF L C k).getD k 0 ^^^ (C.getD ((k % 5 + 4) % 5) 0 ^^^ rotl (C.getD ((k % 5 + 1) % 5) 0) 1)) := rfl
theorem dF_len (L C : List Nat) (k : Nat) : (dF L C k).length = L.length := by
  induction k with
  | zero => rfl
  | succ k ih => simp [dF, ih]
theorem dF_lt (L C : List Nat) (hb : ∀ i, L.getD i 0 < 18446744073709551616) (hc : ∀ i, C.getD i 0 < 18446744073709551616) (k : Nat) : ∀ i, (dF L C k).getD i 0 < 18446744073709551616 := by
  induction k with
  | zero => exact hb
  | succ k ih => exact getD_set_lt ih (xor_lt (ih _) (xor_lt (hc _) (rotl_lt (hc _))))
/-- The places, one behind the other. -/
def xyF : Nat → Nat × Nat
  | 0 => (1, 0)
  | t + 1 => ((xyF t).2, (2 * (xyF t).1 + 3 * (xyF t).2) % 5)
def nowF (L : List Nat) : Nat → Nat × List Nat
  | 0 => (L.getD 1 0, L)
  | t + 1 => ((nowF L t).2.getD (5 * (xyF (t + 1)).2 + (xyF (t + 1)).1) 0, (nowF L t).2.set (5 * (xyF (t + 1)).2 + (xyF (t + 1)).1) (rotl (nowF L t).1 ((t + 1) * (t + 2) / 2 % 64)))
theorem xyF_zero : xyF 0 = (1, 0) := rfl
theorem xyF_succ (t : Nat) : xyF (t + 1) = ((xyF t).2, (2 * (xyF t).1 + 3 * (xyF t).2) % 5) := rfl
theorem xyF_lt (t : Nat) : (xyF t).1 < 5 ∧ (xyF t).2 < 5 := by
  induction t with
  | zero => decide
  | succ t ih => exact ⟨ih.2, Nat.mod_lt _ (by decide)⟩
theorem nowF_zero (L : List Nat) : nowF L 0 = (L.getD 1 0, L) := rfl
theorem nowF_succ (L : List Nat) (t : Nat) : nowF L (t + 1) = ((nowF L t).2.getD (5 * (xyF (t + 1)).2 + (xyF (t + 1)).1) 0, (nowF L t).2.set (5 * (xyF (t + 1)).2 + (xyF (t + 1)).1) (rotl (nowF L t).1 ((t + 1) * (t + 2) / 2 % 64))) := rfl
theorem nowF_len (L : List Nat) (t : Nat) : (nowF L t).2.length = L.length := by
  induction t with
  | zero => rfl
  | succ t ih => simp [nowF, ih]
theorem nowF_lt (L : List Nat) (hb : ∀ i, L.getD i 0 < 18446744073709551616) (t : Nat) : (nowF L t).1 < 18446744073709551616 ∧ ∀ i, (nowF L t).2.getD i 0 < 18446744073709551616 := by
  induction t with
  | zero => exact ⟨hb 1, hb⟩
  | succ t ih => exact ⟨ih.2 _, getD_set_lt ih.2 (rotl_lt ih.1)⟩
def rmixL (L : List Nat) : List Nat := (nowF (dF L (cF L 25) 25) 24).2
theorem len25 {L : List Nat} (h : L.length = 25) : ∃ a0 a1 a2 a3 a4 a5 a6 a7 a8 a9 a10 a11 a12 a13 a14 a15 a16 a17 a18 a19 a20 a21 a22 a23 a24, L = [a0, a1, a2, a3, a4, a5, a6, a7, a8, a9, a10, a11, a12, a13, a14, a15, a16, a17, a18, a19, a20, a21, a22, a23, a24] := by
  match L, h with
  | [a0, a1, a2, a3, a4, a5, a6, a7, a8, a9, a10, a11, a12, a13, a14, a15, a16, a17, a18, a19, a20, a21, a22, a23, a24], _ => exact ⟨a0, a1, a2, a3, a4, a5, a6, a7, a8, a9, a10, a11, a12, a13, a14, a15, a16, a17, a18, a19, a20, a21, a22, a23, a24, rfl⟩
theorem mix_vars (a0 a1 a2 a3 a4 a5 a6 a7 a8 a9 a10 a11 a12 a13 a14 a15 a16 a17 a18 a19 a20 a21 a22 a23 a24 : Nat) : mixL [a0, a1, a2, a3, a4, a5, a6, a7, a8, a9, a10, a11, a12, a13, a14, a15, a16, a17, a18, a19, a20, a21, a22, a23, a24] = (rmixL [a0, a1, a2, a3, a4, a5, a6, a7, a8, a9, a10, a11, a12, a13, a14, a15, a16, a17, a18, a19, a20, a21, a22, a23, a24]).set 0 (rotl ((rmixL [a0, a1, a2, a3, a4, a5, a6, a7, a8, a9, a10, a11, a12, a13, a14, a15, a16, a17, a18, a19, a20, a21, a22, a23, a24]).getD 0 0) 0) := by kernel_rfl
theorem rmix_mix (L : List Nat) (hL : L.length = 25) (hb : ∀ i, L.getD i 0 < 18446744073709551616) : rmixL L = mixL L := by
  have h0 : (rmixL L).getD 0 0 < 18446744073709551616 := (nowF_lt _ (dF_lt L _ hb (cF_lt L hb 25) 25) 24).2 0
  have hl : (rmixL L).length = 25 := by unfold rmixL; rw [nowF_len, dF_len, hL]
  have h : mixL L = (rmixL L).set 0 (rotl ((rmixL L).getD 0 0) 0) := by
    obtain ⟨a0, a1, a2, a3, a4, a5, a6, a7, a8, a9, a10, a11, a12, a13, a14, a15, a16, a17, a18, a19, a20, a21, a22, a23, a24, rfl⟩ := len25 hL
    exact mix_vars a0 a1 a2 a3 a4 a5 a6 a7 a8 a9 a10 a11 a12 a13 a14 a15 a16 a17 a18 a19 a20 a21 a22 a23 a24
  rw [h, rotl_zero _ h0]
  generalize rmixL L = M at *
  match M, hl with
  | a :: r, _ => rfl
/-! ### Rows -/
def rrF (L : List Nat) : Nat → List Nat
  | 0 => L
  | k + 1 => (rrF L k).set k (L.getD k 0 ^^^ ((18446744073709551615 - L.getD (5 * (k / 5) + (k % 5 + 1) % 5) 0) &&& L.getD (5 * (k / 5) + (k % 5 + 2) % 5) 0))
theorem rrF_len (L : List Nat) (k : Nat) : (rrF L k).length = L.length := by
  induction k with
  | zero => rfl
  | succ k ih => simp [rrF, ih]
theorem rrF_zero (L : List Nat) : rrF L 0 = L := rfl
theorem rrF_step (L : List Nat) (x y : Nat) (hx : x < 5) : rrF L (5 * y + x + 1) = (rrF L (5 * y + x)).set (5 * y + x) (L.getD (5 * y + x) 0 ^^^ ((18446744073709551615 - L.getD (5 * y + (x + 1) % 5) 0) &&& L.getD (5 * y + (x + 2) % 5) 0)) := by
  rw [rrF, show (5 * y + x) / 5 = y by omega, show (5 * y + x) % 5 = x by omega]
theorem rows_vars (a0 a1 a2 a3 a4 a5 a6 a7 a8 a9 a10 a11 a12 a13 a14 a15 a16 a17 a18 a19 a20 a21 a22 a23 a24 : Nat) : rowsF [a0, a1, a2, a3, a4, a5, a6, a7, a8, a9, a10, a11, a12, a13, a14, a15, a16, a17, a18, a19, a20, a21, a22, a23, a24] 25 = rrF [a0, a1, a2, a3, a4, a5, a6, a7, a8, a9, a10, a11, a12, a13, a14, a15, a16, a17, a18, a19, a20, a21, a22, a23, a24] 25 := by kernel_rfl
theorem rr_rows (L : List Nat) (hL : L.length = 25) : rrF L 25 = rowsL L := by
  obtain ⟨a0, a1, a2, a3, a4, a5, a6, a7, a8, a9, a10, a11, a12, a13, a14, a15, a16, a17, a18, a19, a20, a21, a22, a23, a24, rfl⟩ := len25 hL
  exact (rows_vars a0 a1 a2 a3 a4 a5 a6 a7 a8 a9 a10 a11 a12 a13 a14 a15 a16 a17 a18 a19 a20 a21 a22 a23 a24).symm
end Go.Proofs.YtobkhnmglbfheaaDoor.SK

/-
  The document's sponge: rounds.
  Conditions: none.
-/
namespace Go.Proofs.YtobkhnmglbfheaaDoor.SK
open Go Go.RowKit SL
set_option maxRecDepth 8000
set_option maxHeartbeats 4000000
set_option linter.unusedSimpArgs false
set_option linter.unusedVariables false
attribute [local irreducible] SL.CW SL.LW SL.DW Calls SL.Ret SL.RetG SL.beginQ SL.roundQ SL.rangeQ SL.inQ SL.RW SL.AnyW SL.thenQ SL.thenC SL.thenW SL.blkQ SL.finQ SL.ValP SL.NewP SL.SetP SL.CallP SL.Rd SL.Wr SL.Known
attribute [local irreducible] cF dF nowF xyF rrF mixL rowsL numL
theorem rd_nca1 {P : Program} {T E : TypeId} {fr : Nat × Nat} {L : List Nat} [AgI P T false] (hi : 1 < L.length) : Rd P T (.cells (nca L) E fr) (0 + 1 * 1) (.int .u64 ((L.getD 1 0 : Nat) : Int)) := rd_nca hi
theorem rMix_calls (L : List Nat) (hL : L.length = 25) (hb : ∀ i, L.getD i 0 < 18446744073709551616) (w : World) : Calls Tryd.prog 84 #[.agg (nca L)] w (Ret w (.agg (nca (mixL L)))) := by
  rw [← rmix_mix L hL hb]
  obtain ⟨C, hC⟩ : ∃ C, C = cF L 25 := ⟨_, rfl⟩
  have hCb : ∀ i, C.getD i 0 < 18446744073709551616 := fun i => by rw [hC]; exact cF_lt L hb 25 i
  have hCl : C.length = 5 := by rw [hC]; exact cF_len L 25
  have hr1 : ∀ i, rotl (C.getD i 0) 1 < 18446744073709551616 := fun i => rotl_lt (hCb i)
  have hk1 : ∀ i w, Calls Tryd.prog 89 #[.int .u64 ((C.getD i 0 : Nat) : Int), .int .i64 1] w (Ret w (.int .u64 ((rotl (C.getD i 0) 1 : Nat) : Int))) := fun i w => Left_calls _ 1 (hCb i) (by decide) w
  refine enter (args := [_]) _ [] [] Tryd.func84 rfl Tryd.ntmps84 rfl (by simp) .nil ?_
  (refine CW.seq ?_; refine CW.region ?_; apply LW.boxA; rfl; rfl; intro _; apply LW.allocA; rfl; intro _; apply LW.nil; refine thenN ?_; refine CW.seq ?_; refine CW.region ?_; apply LW.allocA; rfl; intro _; apply LW.nil; refine thenN ?_; refine CW.seq ?_; refine CW.seq ?_; refine CW.region ?_; apply LW.load; rfl; rfl; apply Known.at; apply FsAt.tail; apply FsAt.tail; apply FsAt.head; apply rd_ncaW; assumption; apply LW.v0; rfl; rfl; apply ValP.move; rfl; apply LW.nil; refine thenN ?_; refine CW.block ?_)
  rename_i b1 b2 b3
  refine CW.loop (fun k : Nat => ([(13, .int .i64 (k : Int)), (12, .agg (nca L)), (3, .pointer (some ⟨b3, 0, none⟩)), (2, .pointer (some ⟨b2, 0, none⟩)), (1, .pointer (some ⟨b1, 0, none⟩))],
    [(b3, .cells (nca (cF L k)) 131 (0, 0)), (b2, .cells (nca (List.replicate 25 0)) 102 (0, 0)), (b1, .cells (nca L) 102 (0, 0))]))
    (fun k => k ≤ 25) (fun k => 25 - k) 0 (Nat.zero_le _) ⟨rfl, rfl, rfl, rfl, rfl, trivial⟩ (by dsimp only; rw [cF_zero]; exact List.Sublist.refl _) ?_
  intro k hk
  dsimp only at hk ⊢
  have hcl := cF_len L k
  have hcb := cF_lt L hb k
  rcases Nat.lt_or_ge k 25 with hk5 | hk5
  · (refine CW.seq ?_; refine CW.region ?_; apply LW.v0; rfl; rfl; apply ValP.lssT; rfl; rfl; omega; apply LW.nil; refine thenN ?_; refine CW.seq ?_; apply CW.condT; rfl; (with_reducible rfl); refine CW.skip ?_; refine thenN ?_; refine CW.seq ?_; refine CW.block ?_; refine CW.seq ?_; refine CW.region ?_; apply LW.v0; rfl; rfl; apply ValP.move; rfl; apply LW.v0; rfl; rfl; apply ValP.indexA; rfl; rfl; rfl; rfl; omega; apply nth_nca; omega; apply LW.v0; rfl; rfl; apply ValP.assign; rfl; apply LW.v0; rfl; rfl; apply ValP.assign; rfl; apply LW.nil; refine thenN ?_; refine CW.region ?_; apply LW.v0; rfl; rfl; apply ValP.move; rfl; apply LW.v0; rfl; rfl; apply ValP.remZL; rfl; rfl; decide; omega; apply LW.v0; rfl; rfl; apply ValP.indexAddrA; rfl; rfl; rfl; omega; apply LW.load; rfl; rfl; apply Known.at; apply FsAt.head; apply rd_nca; omega; apply LW.v0; rfl; rfl; apply ValP.move; rfl; apply LW.v0; rfl; rfl; apply ValP.xorU; rfl; rfl; exact hcb _; exact hb _; apply LW.v0; rfl; rfl; apply ValP.indexAddrA; rfl; rfl; rfl; omega; apply LW.store; rfl; rfl; apply SetAt.head; apply wr_nca; omega; apply LW.nil; refine blkN ?_; refine thenN ?_; refine CW.region ?_; apply LW.v0; rfl; rfl; apply ValP.addZL; rfl; rfl; decide; omega; apply LW.v0; rfl; rfl; apply ValP.move; rfl; apply LW.nil)
    refine thenX ⟨rfl, k + 1, hk5, by omega, ⟨rfl, rfl, rfl, rfl, rfl, trivial⟩, ?_⟩
    rw [cF_at L k hk5]
    exact List.Sublist.refl _
  · obtain rfl : k = 25 := by omega
    rw [← hC]
    (refine CW.seq ?_; refine CW.region ?_; apply LW.v0; rfl; rfl; apply ValP.lssF; rfl; rfl; omega; apply LW.nil; refine thenN ?_; refine CW.seq ?_; apply CW.condF; rfl; (with_reducible rfl); refine CW.exit ?_; refine thenE ?_; refine thenE ?_; refine blkE rfl ?_; refine thenN ?_; refine CW.seq ?_; refine CW.seq ?_; refine CW.region ?_; apply LW.v0; rfl; rfl; apply ValP.move; rfl; apply LW.nil; refine thenN ?_; refine CW.block ?_)
    refine CW.loop (fun k : Nat => ([(25, .int .i64 (k : Int)), (3, .pointer (some ⟨b3, 0, none⟩)), (2, .pointer (some ⟨b2, 0, none⟩)), (1, .pointer (some ⟨b1, 0, none⟩))],
      [(b3, .cells (nca C) 131 (0, 0)), (b2, .cells (nca (List.replicate 25 0)) 102 (0, 0)), (b1, .cells (nca (dF L C k)) 102 (0, 0))]))
      (fun k => k ≤ 25) (fun k => 25 - k) 0 (Nat.zero_le _) ⟨rfl, rfl, rfl, rfl, trivial⟩ (by dsimp only; rw [dF_zero]; exact List.Sublist.refl _) ?_
    intro k hk
    dsimp only at hk ⊢
    have hdl := dF_len L C k
    have hdb := dF_lt L C hb hCb k
    rcases Nat.lt_or_ge k 25 with hk5 | hk5
    · (refine CW.seq ?_; refine CW.region ?_; apply LW.v0; rfl; rfl; apply ValP.lssT; rfl; rfl; omega; apply LW.nil; refine thenN ?_; refine CW.seq ?_; apply CW.condT; rfl; (with_reducible rfl); refine CW.skip ?_; refine thenN ?_; refine CW.seq ?_; refine CW.block ?_; refine CW.seq ?_; refine CW.region ?_; apply LW.v0; rfl; rfl; apply ValP.move; rfl; apply LW.v0; rfl; rfl; apply ValP.assign; rfl; apply LW.nil; refine thenN ?_; refine CW.seq ?_; refine CW.region ?_; apply LW.v0; rfl; rfl; apply ValP.move; rfl; apply LW.v0; rfl; rfl; apply ValP.remZL; rfl; rfl; decide; omega; apply LW.v0; rfl; rfl; apply ValP.assign; rfl; apply LW.nil; refine thenN ?_; apply CW.pre; refine AnyW.any 15 mixed (by decide +kernel) ?_; (try simp only [tsOf_cons, tsOf_nil, tsOf_app]); apply DW.v0; rfl; rfl; rfl; exact WantT.none; rfl; apply ValP.move; rfl; apply DW.v0; rfl; rfl; rfl; exact WantT.none; rfl; apply ValP.indexAddrA; rfl; rfl; rfl; omega; apply DW.loadO; rfl; rfl; rfl; exact WantT.none; rfl; apply TRead.tail; apply TRead.tail; apply TRead.head; exact ancB_nil; apply rd_nca; omega; apply DW.v0; rfl; rfl; rfl; exact WantT.none; rfl; apply ValP.move; rfl; apply DW.v0; rfl; rfl; rfl; exact WantT.none; rfl; apply ValP.addZL; rfl; rfl; decide; omega; apply DW.v0; rfl; rfl; rfl; exact WantT.none; rfl; apply ValP.remZL; rfl; rfl; decide; omega; apply DW.v0; rfl; rfl; rfl; exact WantT.none; rfl; apply ValP.indexAddrA; rfl; rfl; rfl; omega; apply DW.loadO; rfl; rfl; rfl; exact WantT.none; rfl; apply TRead.head; exact ancB_nil; apply rd_nca; omega; apply DW.v0; rfl; rfl; rfl; exact WantT.none; rfl; apply ValP.move; rfl; apply DW.v0; rfl; rfl; rfl; exact WantT.none; rfl; apply ValP.addZL; rfl; rfl; decide; omega; apply DW.v0; rfl; rfl; rfl; exact WantT.none; rfl; apply ValP.remZL; rfl; rfl; decide; omega; apply DW.v0; rfl; rfl; rfl; exact WantT.none; rfl; apply ValP.indexAddrA; rfl; rfl; rfl; omega; apply DW.loadO; rfl; rfl; rfl; exact WantT.none; rfl; apply TRead.head; exact ancB_nil; apply rd_nca; omega; apply DW.callE; rfl; rfl; rfl; exact WantT.none; rfl; infer_instance; apply ArgsOk.cons; rfl; apply ArgsOk.cons; rfl; exact ArgsOk.nil; rfl; exact ReadAll.nil; intro w _ _; exact hk1 _ w; apply DW.v0; rfl; rfl; rfl; exact WantT.none; rfl; apply ValP.xorU; rfl; rfl; exact hCb _; exact hr1 _; apply DW.nil; simp only [fsOf_cons, fsOf_nil, fsOf_app, fsOf_tsOf, fsOf_new]; apply LW.v0; rfl; rfl; apply ValP.xorU; rfl; rfl; exact hdb _; apply xor64; exact hCb _; exact hr1 _; apply LW.v0; rfl; rfl; apply ValP.indexAddrA; rfl; rfl; rfl; omega; apply LW.store; rfl; rfl; apply SetAt.tail; apply SetAt.tail; apply SetAt.head; apply wr_nca; omega; apply LW.nil; refine blkN ?_; refine thenN ?_; refine CW.region ?_; apply LW.v0; rfl; rfl; apply ValP.addZL; rfl; rfl; decide; omega; apply LW.v0; rfl; rfl; apply ValP.move; rfl; apply LW.nil)
      refine thenX ⟨rfl, k + 1, hk5, by omega, ⟨rfl, rfl, rfl, rfl, trivial⟩, ?_⟩
      rw [dF_succ]
      exact List.Sublist.refl _
    · obtain rfl : k = 25 := by omega
      obtain ⟨D, hD⟩ : ∃ D, D = dF L C 25 := ⟨_, rfl⟩
      rw [← hD] at hdl hdb ⊢
      have hRm : rmixL L = (nowF D 24).2 := by rw [hD, hC]; rfl
      have hDl : D.length = 25 := by omega
      (refine CW.seq ?_; refine CW.region ?_; apply LW.v0; rfl; rfl; apply ValP.lssF; rfl; rfl; omega; apply LW.nil; refine thenN ?_; refine CW.seq ?_; apply CW.condF; rfl; (with_reducible rfl); refine CW.exit ?_; refine thenE ?_; refine thenE ?_; refine blkE rfl ?_; refine thenN ?_; refine CW.seq ?_; refine CW.region ?_; apply LW.v0; rfl; rfl; apply ValP.assign; rfl; apply LW.v0; rfl; rfl; apply ValP.assign; rfl; apply LW.nil; refine thenN ?_; refine CW.seq ?_; refine CW.region ?_; apply LW.v0; rfl; rfl; apply ValP.indexAddrL; rfl; rfl; rfl; apply LW.load; rfl; rfl; apply Known.at; apply FsAt.tail; apply FsAt.tail; apply FsAt.head; apply rd_nca1; omega; apply LW.v0; rfl; rfl; apply ValP.assign; rfl; apply LW.nil; refine thenN ?_; refine CW.seq ?_; refine CW.seq ?_; refine CW.region ?_; apply LW.v0; rfl; rfl; apply ValP.move; rfl; apply LW.nil; refine thenN ?_; refine CW.block ?_)
      refine CW.loop (fun t : Nat => ([(50, .int .i64 (t : Int)), (8, .int .i64 ((xyF t).1 : Int)), (9, .int .i64 ((xyF t).2 : Int)), (10, .int .u64 ((nowF D t).1 : Int)), (2, .pointer (some ⟨b2, 0, none⟩)), (1, .pointer (some ⟨b1, 0, none⟩))],
        [(b2, .cells (nca (List.replicate 25 0)) 102 (0, 0)), (b1, .cells (nca (nowF D t).2) 102 (0, 0))]))
        (fun t => t ≤ 24) (fun t => 24 - t) 0 (Nat.zero_le _) ?_ ?_ ?_
      · dsimp only
        rw [xyF_zero, nowF_zero]
        exact ⟨rfl, rfl, rfl, rfl, rfl, rfl, trivial⟩
      · dsimp only
        rw [nowF_zero]
        (apply List.Sublist.cons; exact List.Sublist.refl _)
      intro t ht
      dsimp only at ht ⊢
      obtain ⟨hx5, hy5⟩ := xyF_lt t
      have hnl := nowF_len D t
      obtain ⟨hn1, hn2⟩ := nowF_lt D hdb t
      rcases Nat.lt_or_ge t 24 with ht4 | ht4
      · have e1 := xyF_succ t
        have e2 := nowF_succ D t
        rw [e1] at e2
        dsimp only at e2
        have hq : (t + 1) * (t + 2) / 2 < 100000 := by
          have : (t + 1) * (t + 2) ≤ 25 * 26 := Nat.mul_le_mul (by omega) (by omega)
          omega
        have hq2 : (t + 1) * (t + 2) ≤ 650 := Nat.mul_le_mul (show t + 1 ≤ 25 by omega) (show t + 2 ≤ 26 by omega)
        have hm5 : (2 * (xyF t).1 + 3 * (xyF t).2) % 5 < 5 := Nat.mod_lt _ (by decide)
        have hk2 : ∀ w, Calls Tryd.prog 89 #[.int .u64 ((nowF D t).1 : Int), .int .i64 (((t + 1) * (t + 2) / 2 : Nat) : Int)] w (Ret w (.int .u64 ((rotl (nowF D t).1 ((t + 1) * (t + 2) / 2 % 64) : Nat) : Int))) := fun w => Left_calls _ _ hn1 hq w
        (refine CW.seq ?_; refine CW.region ?_; apply LW.v0; rfl; rfl; apply ValP.lssT; rfl; rfl; omega; apply LW.nil; refine thenN ?_; refine CW.seq ?_; apply CW.condT; rfl; (with_reducible rfl); refine CW.skip ?_; refine thenN ?_; refine CW.seq ?_; refine CW.block ?_; refine CW.seq ?_; refine CW.region ?_; apply LW.v0; rfl; rfl; apply ValP.move; rfl; apply LW.v0; rfl; rfl; apply ValP.assign; rfl; apply LW.nil; refine thenN ?_; refine CW.seq ?_; refine CW.region ?_; apply LW.v0; rfl; rfl; apply ValP.move; rfl; apply LW.v0; rfl; rfl; apply ValP.move; rfl; apply LW.v0; rfl; rfl; apply ValP.mulZK; rfl; rfl; decide; omega; apply LW.v0; rfl; rfl; apply ValP.move; rfl; apply LW.v0; rfl; rfl; apply ValP.mulZK; rfl; rfl; decide; omega; apply LW.v0; rfl; rfl; apply ValP.addZ; rfl; rfl; omega; apply LW.v0; rfl; rfl; apply ValP.remZL; rfl; rfl; decide; omega; apply LW.v0; rfl; rfl; apply ValP.assign; rfl; apply LW.v0; rfl; rfl; apply ValP.assign; rfl; apply LW.nil; refine thenN ?_; apply CW.pre; refine AnyW.any 19 mixed (by decide +kernel) ?_; (try simp only [tsOf_cons, tsOf_nil, tsOf_app]); apply DW.v0; rfl; rfl; rfl; exact WantT.none; rfl; apply ValP.move; rfl; apply DW.v0; rfl; rfl; rfl; exact WantT.none; rfl; apply ValP.mulZK; rfl; rfl; decide; omega; apply DW.v0; rfl; rfl; rfl; exact WantT.none; rfl; apply ValP.move; rfl; apply DW.v0; rfl; rfl; rfl; exact WantT.none; rfl; apply ValP.addZ; rfl; rfl; omega; apply DW.v0; rfl; rfl; rfl; exact WantT.none; rfl; apply ValP.move; rfl; apply DW.v0; rfl; rfl; rfl; exact WantT.none; rfl; apply ValP.mulZK; rfl; rfl; decide; omega; apply DW.v0; rfl; rfl; rfl; exact WantT.none; rfl; apply ValP.move; rfl; apply DW.v0; rfl; rfl; rfl; exact WantT.none; rfl; apply ValP.addZ; rfl; rfl; omega; apply DW.v0; rfl; rfl; rfl; exact WantT.none; rfl; apply ValP.indexAddrA; rfl; rfl; rfl; omega; apply DW.loadO; rfl; rfl; rfl; exact WantT.none; rfl; apply TRead.tail; apply TRead.head; exact ancB_nil; apply rd_nca; omega; apply DW.v0; rfl; rfl; rfl; exact WantT.none; rfl; apply ValP.move; rfl; apply DW.v0; rfl; rfl; rfl; exact WantT.none; rfl; apply ValP.move; rfl; apply DW.v0; rfl; rfl; rfl; exact WantT.none; rfl; apply ValP.addZL; rfl; rfl; decide; omega; apply DW.v0; rfl; rfl; rfl; exact WantT.none; rfl; apply ValP.move; rfl; apply DW.v0; rfl; rfl; rfl; exact WantT.none; rfl; apply ValP.addZL; rfl; rfl; decide; omega; apply DW.v0; rfl; rfl; rfl; exact WantT.none; rfl; apply ValP.mulZ; rfl; rfl; omega; apply DW.v0; rfl; rfl; rfl; exact WantT.none; rfl; apply ValP.quoZL; rfl; rfl; decide; omega; omega; apply DW.callE; rfl; rfl; rfl; exact WantT.none; rfl; infer_instance; apply ArgsOk.cons; rfl; apply ArgsOk.cons; rfl; exact ArgsOk.nil; rfl; exact ReadAll.nil; intro w _ _; exact hk2 w; apply DW.v0; rfl; rfl; rfl; exact WantT.none; rfl; apply ValP.assign; rfl; apply DW.nil; simp only [fsOf_cons, fsOf_nil, fsOf_app, fsOf_tsOf, fsOf_new]; apply LW.v0; rfl; rfl; apply ValP.indexAddrA; rfl; rfl; rfl; omega; apply LW.store; rfl; rfl; apply SetAt.tail; apply SetAt.head; apply wr_nca; omega; apply LW.nil; refine blkN ?_; refine thenN ?_; refine CW.region ?_; apply LW.v0; rfl; rfl; apply ValP.addZL; rfl; rfl; decide; omega; apply LW.v0; rfl; rfl; apply ValP.move; rfl; apply LW.nil)
        refine thenX ⟨rfl, t + 1, ht4, by omega, ?_, ?_⟩
        · rw [e1, e2]
          exact ⟨rfl, rfl, rfl, rfl, rfl, rfl, trivial⟩
        · rw [e2]
          exact List.Sublist.refl _
      · obtain rfl : t = 24 := by omega
        have hrl : (List.replicate 25 0 : List Nat).length = 25 := rfl
        have hnl2 : (nowF D 24).2.length = 25 := by omega
        (refine CW.seq ?_; refine CW.region ?_; apply LW.v0; rfl; rfl; apply ValP.lssF; rfl; rfl; omega; apply LW.nil; refine thenN ?_; refine CW.seq ?_; apply CW.condF; rfl; (with_reducible rfl); refine CW.exit ?_; refine thenE ?_; refine thenE ?_; refine blkE rfl ?_; refine thenN ?_; refine CW.seq ?_; refine CW.region ?_; apply LW.load; rfl; rfl; apply Known.at; apply FsAt.tail; apply FsAt.head; apply rd_ncaW; assumption; apply LW.store; rfl; rfl; apply SetAt.head; apply wr_ncaW; assumption; assumption; apply LW.nil; refine thenN ?_; refine CW.ret ?_)
        (apply finR; exact .inl rfl; rfl; rfl; rfl; apply ResL.cons; apply Res.cell; rfl; apply Known.at; apply FsAt.head; apply rd_ncaW; assumption; exact ResL.nil)
        rw [hRm]
        rfl
end Go.Proofs.YtobkhnmglbfheaaDoor.SK

/-
  The document's sponge: rows, numbers, rounds.
  Conditions: none.
-/
namespace Go.Proofs.YtobkhnmglbfheaaDoor.SK
open Go Go.RowKit SL
set_option maxRecDepth 8000
set_option maxHeartbeats 4000000
set_option linter.unusedSimpArgs false
set_option linter.unusedVariables false
attribute [local irreducible] SL.CW SL.LW SL.DW Calls SL.Ret SL.RetG SL.beginQ SL.roundQ SL.rangeQ SL.inQ SL.RW SL.AnyW SL.thenQ SL.thenC SL.thenW SL.blkQ SL.finQ SL.ValP SL.NewP SL.SetP SL.CallP SL.Rd SL.Wr SL.Known
/-! ### Numbers -/
def inN (r : Nat) : Nat → Nat × Nat
  | 0 => (r, 0)
  | j + 1 => ((if 255 < (inN r j).1 * 2 then ((inN r j).1 * 2 - 256) ^^^ 113 else (inN r j).1 * 2), (if (if 255 < (inN r j).1 * 2 then ((inN r j).1 * 2 - 256) ^^^ 113 else (inN r j).1 * 2) / 2 % 2 = 1 then (inN r j).2 ||| 2 ^ (2 ^ j - 1) else (inN r j).2))
def outN : Nat → Nat × Nat
  | 0 => (1, 0)
  | i + 1 => inN (outN i).1 7
theorem num_doc : ∀ n, n < 24 → (outN (n + 1)).2 = numL.getD n 0 := by decide +kernel
theorem inN_zero (r : Nat) : inN r 0 = (r, 0) := rfl
theorem inN_succ (r j : Nat) : inN r (j + 1) = ((if 255 < (inN r j).1 * 2 then ((inN r j).1 * 2 - 256) ^^^ 113 else (inN r j).1 * 2), (if (if 255 < (inN r j).1 * 2 then ((inN r j).1 * 2 - 256) ^^^ 113 else (inN r j).1 * 2) / 2 % 2 = 1 then (inN r j).2 ||| 2 ^ (2 ^ j - 1) else (inN r j).2)) := rfl
theorem outN_zero : outN 0 = (1, 0) := rfl
theorem outN_succ (i : Nat) : outN (i + 1) = inN (outN i).1 7 := rfl
theorem inN_lt (r : Nat) (hr : r < 256) (j : Nat) : (inN r j).1 < 256 := by
  induction j with
  | zero => exact hr
  | succ j ih =>
    rw [inN_succ]
    show (if _ then _ else _) < _
    by_cases h : 255 < (inN r j).1 * 2
    · rw [if_pos h]
      exact Nat.xor_lt_two_pow (n := 8) (by omega) (by decide)
    · rw [if_neg h]
      omega
theorem pow64 {j : Nat} (hj : j < 7) : 2 ^ j ≤ 64 := Nat.le_trans (Nat.pow_le_pow_right (by decide) (show j ≤ 6 by omega)) (by decide)
theorem pos2 (j : Nat) : 1 ≤ 2 ^ j := Nat.pow_pos (by decide)
theorem bit64 {j : Nat} (hj : j < 7) : 2 ^ (2 ^ j - 1) < 18446744073709551616 := by
  have h := pow64 hj
  have h0 : 1 ≤ 2 ^ j := Nat.pow_pos (by decide)
  exact Nat.lt_of_le_of_lt (Nat.pow_le_pow_right (by decide) (show 2 ^ j - 1 ≤ 63 by omega)) (by decide)
theorem inN_x (r : Nat) (j : Nat) (hj : j ≤ 7) : (inN r j).2 < 18446744073709551616 := by
  induction j with
  | zero => exact Nat.zero_lt_succ _
  | succ j ih =>
    have ih := ih (by omega)
    rw [inN_succ]
    show (if (if 255 < (inN r j).1 * 2 then ((inN r j).1 * 2 - 256) ^^^ 113 else (inN r j).1 * 2) / 2 % 2 = 1 then (inN r j).2 ||| 2 ^ (2 ^ j - 1) else (inN r j).2) < _
    generalize (if 255 < (inN r j).1 * 2 then ((inN r j).1 * 2 - 256) ^^^ 113 else (inN r j).1 * 2) / 2 % 2 = q
    by_cases h : q = 1
    · rw [if_pos h]
      exact Nat.or_lt_two_pow (n := 64) ih (bit64 (by omega))
    · rw [if_neg h]
      exact ih
theorem outN_lt (i : Nat) : (outN i).1 < 256 := by
  induction i with
  | zero => decide
  | succ i ih => rw [outN_succ]; exact inN_lt _ ih 7
attribute [local irreducible] inN outN
theorem ValP.shlOne {P : Program} {e : Env} {T ty : TypeId} {x y : Operand} {s : Nat} {ik : IntKind} (hx : e.ev x = some (.int .u64 1)) (hy : e.ev y = some (.int ik (s : Int))) (hs : s ≤ 63) : ValP P e [] (.binOp .shl T x y ty) (.int .u64 ((2 ^ s : Nat) : Int)) := by
  have h := ValP.shlU (P := P) (T := T) (ty := ty) (m := 1) hx hy (by omega)
  have hb : 2 ^ s < 18446744073709551616 := Nat.lt_of_le_of_lt (Nat.pow_le_pow_right (by decide) hs) (by decide)
  rwa [Nat.one_mul, Nat.mod_eq_of_lt hb] at h
theorem Number_calls (n : Nat) (hn : n < 24) (w : World) : Calls Tryd.prog 85 #[.int .i64 (n : Int)] w (Ret w (.int .u64 ((numL.getD n 0 : Nat) : Int))) := by
  rw [← num_doc n hn]
  refine enter (args := [_]) _ [] [] Tryd.func85 rfl Tryd.ntmps85 rfl (by simp) .nil ?_
  (refine CW.seq ?_; refine CW.region ?_; apply LW.v0; rfl; rfl; apply ValP.assign; rfl; apply LW.nil; refine thenN ?_; refine CW.seq ?_; refine CW.region ?_; apply LW.v0; rfl; rfl; apply ValP.assign; rfl; apply LW.nil; refine thenN ?_; refine CW.seq ?_; refine CW.region ?_; apply LW.v0; rfl; rfl; apply ValP.assign; rfl; apply LW.nil; refine thenN ?_; refine CW.seq ?_; refine CW.seq ?_; refine CW.region ?_; apply LW.v0; rfl; rfl; apply ValP.move; rfl; apply LW.v0; rfl; rfl; apply ValP.addZL; rfl; rfl; decide; omega; apply LW.v0; rfl; rfl; apply ValP.move; rfl; apply LW.nil; refine thenN ?_; refine CW.block ?_)
  refine CW.loop (fun i : Nat => ([(9, .int .i64 (i : Int)), (8, .int .i64 ((n + 1 : Nat) : Int)), (3, .int .i64 ((outN i).1 : Int)), (0, .int .i64 (n : Int))], []))
    (fun i => i ≤ n) (fun i => n - i) 0 (Nat.zero_le _) ?_ (List.nil_sublist _) ?_
  · dsimp only
    rw [outN_zero]
    exact ⟨rfl, rfl, rfl, rfl, trivial⟩
  intro i hi
  dsimp only at hi ⊢
  have hol := outN_lt i
  obtain ⟨r, hr⟩ : ∃ r, r = (outN i).1 := ⟨_, rfl⟩
  have ho := outN_succ i
  rw [← hr] at hol ho ⊢
  (refine CW.seq ?_; refine CW.region ?_; apply LW.v0; rfl; rfl; apply ValP.lssT; rfl; rfl; omega; apply LW.nil; refine thenN ?_; refine CW.seq ?_; apply CW.condT; rfl; (with_reducible rfl); refine CW.skip ?_; refine thenN ?_; refine CW.seq ?_; refine CW.block ?_; refine CW.seq ?_; refine CW.region ?_; apply LW.v0; rfl; rfl; apply ValP.move; rfl; apply LW.v0; rfl; rfl; apply ValP.assign; rfl; apply LW.nil; refine thenN ?_; refine CW.seq ?_; refine CW.region ?_; apply LW.v0; rfl; rfl; apply ValP.assign; rfl; apply LW.nil; refine thenN ?_; refine CW.seq ?_; refine CW.seq ?_; refine CW.region ?_; apply LW.v0; rfl; rfl; apply ValP.move; rfl; apply LW.nil; refine thenN ?_; refine CW.block ?_)
  refine CW.loop (fun j : Nat => ([(12, .int .i64 (j : Int)), (3, .int .i64 ((inN r j).1 : Int)), (4, .int .u64 ((inN r j).2 : Int)), (5, .int .i64 (i : Int)), (9, .int .i64 (i : Int)), (8, .int .i64 ((n + 1 : Nat) : Int)), (0, .int .i64 (n : Int))], []))
    (fun j => j ≤ 7) (fun j => 7 - j) 0 (Nat.zero_le _) ?_ (List.nil_sublist _) ?_
  · dsimp only
    rw [inN_zero]
    exact ⟨rfl, rfl, rfl, rfl, rfl, rfl, rfl, trivial⟩
  intro j hj
  dsimp only at hj ⊢
  have hlt := inN_lt r hol j
  have hx := inN_x r j hj
  have hs := inN_succ r j
  rcases Nat.lt_or_ge j 7 with hj7 | hj7
  · have hp := pow64 hj7
    have hp0 := pos2 j
    have hb := bit64 hj7
    generalize (inN r j).1 = a at *
    generalize (inN r j).2 = x at *
    have hp63 : 2 ^ j - 1 ≤ 63 := by omega
    have hj63 : j ≤ 63 := by omega
    by_cases h1 : 255 < a * 2
    · rw [if_pos h1] at hs
      have hx8 : (a * 2 - 256) ^^^ 113 < 256 := Nat.xor_lt_two_pow (n := 8) (by omega) (by decide)
      by_cases h2 : ((a * 2 - 256) ^^^ 113) / 2 % 2 = 1
      · rw [if_pos h2] at hs
        (refine CW.seq ?_; refine CW.region ?_; apply LW.v0; rfl; rfl; apply ValP.lssT; rfl; rfl; omega; apply LW.nil; refine thenN ?_; refine CW.seq ?_; apply CW.condT; rfl; (with_reducible rfl); refine CW.skip ?_; refine thenN ?_; refine CW.seq ?_; refine CW.block ?_; refine CW.seq ?_; refine CW.region ?_; apply LW.v0; rfl; rfl; apply ValP.move; rfl; apply LW.v0; rfl; rfl; apply ValP.assign; rfl; apply LW.nil; refine thenN ?_; refine CW.seq ?_; refine CW.region ?_; apply LW.v0; rfl; rfl; apply ValP.move; rfl; apply LW.v0; rfl; rfl; apply ValP.mulZL; rfl; rfl; decide; omega; apply LW.v0; rfl; rfl; apply ValP.assign; rfl; apply LW.nil; refine thenN ?_; refine CW.seq ?_; refine CW.seq ?_; refine CW.region ?_; apply LW.v0; rfl; rfl; apply ValP.move; rfl; apply LW.v0; rfl; rfl; apply ValP.gtrT; rfl; rfl; omega; apply LW.nil; refine thenN ?_; apply CW.condT; rfl; (with_reducible rfl); refine CW.region ?_; apply LW.v0; rfl; rfl; apply ValP.move; rfl; apply LW.v0; rfl; rfl; apply ValP.subZL; rfl; rfl; decide; omega; omega; apply LW.v0; rfl; rfl; apply ValP.xorIL; rfl; rfl; decide; omega; decide; apply LW.v0; rfl; rfl; apply ValP.assign; rfl; apply LW.nil; refine thenN ?_; refine CW.seq ?_; refine CW.region ?_; apply LW.v0; rfl; rfl; apply ValP.move; rfl; apply LW.v0; rfl; rfl; apply ValP.quoZL; rfl; rfl; decide; omega; omega; apply LW.v0; rfl; rfl; apply ValP.remZL; rfl; rfl; decide; omega; apply LW.v0; rfl; rfl; apply ValP.eqT; rfl; rfl; omega; apply LW.nil; refine thenN ?_; apply CW.condT; rfl; (with_reducible rfl); refine CW.region ?_; apply LW.v0; rfl; rfl; apply ValP.move; rfl; apply LW.v0; rfl; rfl; apply ValP.move; rfl; apply LW.v0; rfl; rfl; apply ValP.shlOne; rfl; rfl; assumption; apply LW.v0; rfl; rfl; apply ValP.subNL; rfl; rfl; decide; omega; omega; apply LW.v0; rfl; rfl; apply ValP.shlOne; rfl; rfl; assumption; apply LW.v0; rfl; rfl; apply ValP.orU; rfl; rfl; assumption; assumption; apply LW.v0; rfl; rfl; apply ValP.assign; rfl; apply LW.nil; refine blkN ?_; refine thenN ?_; refine CW.region ?_; apply LW.v0; rfl; rfl; apply ValP.addZL; rfl; rfl; decide; omega; apply LW.v0; rfl; rfl; apply ValP.move; rfl; apply LW.nil)
        refine thenX ⟨rfl, j + 1, hj7, by omega, ?_, List.nil_sublist _⟩
        rw [hs]
        exact ⟨rfl, rfl, rfl, rfl, rfl, rfl, rfl, trivial⟩
      · rw [if_neg h2] at hs
        (refine CW.seq ?_; refine CW.region ?_; apply LW.v0; rfl; rfl; apply ValP.lssT; rfl; rfl; omega; apply LW.nil; refine thenN ?_; refine CW.seq ?_; apply CW.condT; rfl; (with_reducible rfl); refine CW.skip ?_; refine thenN ?_; refine CW.seq ?_; refine CW.block ?_; refine CW.seq ?_; refine CW.region ?_; apply LW.v0; rfl; rfl; apply ValP.move; rfl; apply LW.v0; rfl; rfl; apply ValP.assign; rfl; apply LW.nil; refine thenN ?_; refine CW.seq ?_; refine CW.region ?_; apply LW.v0; rfl; rfl; apply ValP.move; rfl; apply LW.v0; rfl; rfl; apply ValP.mulZL; rfl; rfl; decide; omega; apply LW.v0; rfl; rfl; apply ValP.assign; rfl; apply LW.nil; refine thenN ?_; refine CW.seq ?_; refine CW.seq ?_; refine CW.region ?_; apply LW.v0; rfl; rfl; apply ValP.move; rfl; apply LW.v0; rfl; rfl; apply ValP.gtrT; rfl; rfl; omega; apply LW.nil; refine thenN ?_; apply CW.condT; rfl; (with_reducible rfl); refine CW.region ?_; apply LW.v0; rfl; rfl; apply ValP.move; rfl; apply LW.v0; rfl; rfl; apply ValP.subZL; rfl; rfl; decide; omega; omega; apply LW.v0; rfl; rfl; apply ValP.xorIL; rfl; rfl; decide; omega; decide; apply LW.v0; rfl; rfl; apply ValP.assign; rfl; apply LW.nil; refine thenN ?_; refine CW.seq ?_; refine CW.region ?_; apply LW.v0; rfl; rfl; apply ValP.move; rfl; apply LW.v0; rfl; rfl; apply ValP.quoZL; rfl; rfl; decide; omega; omega; apply LW.v0; rfl; rfl; apply ValP.remZL; rfl; rfl; decide; omega; apply LW.v0; rfl; rfl; apply ValP.eqF; rfl; rfl; omega; apply LW.nil; refine thenN ?_; apply CW.condF; rfl; (with_reducible rfl); refine CW.skip ?_; refine blkN ?_; refine thenN ?_; refine CW.region ?_; apply LW.v0; rfl; rfl; apply ValP.addZL; rfl; rfl; decide; omega; apply LW.v0; rfl; rfl; apply ValP.move; rfl; apply LW.nil)
        refine thenX ⟨rfl, j + 1, hj7, by omega, ?_, List.nil_sublist _⟩
        rw [hs]
        exact ⟨rfl, rfl, rfl, rfl, rfl, rfl, rfl, trivial⟩
    · rw [if_neg h1] at hs
      by_cases h2 : a * 2 / 2 % 2 = 1
      · rw [if_pos h2] at hs
        (refine CW.seq ?_; refine CW.region ?_; apply LW.v0; rfl; rfl; apply ValP.lssT; rfl; rfl; omega; apply LW.nil; refine thenN ?_; refine CW.seq ?_; apply CW.condT; rfl; (with_reducible rfl); refine CW.skip ?_; refine thenN ?_; refine CW.seq ?_; refine CW.block ?_; refine CW.seq ?_; refine CW.region ?_; apply LW.v0; rfl; rfl; apply ValP.move; rfl; apply LW.v0; rfl; rfl; apply ValP.assign; rfl; apply LW.nil; refine thenN ?_; refine CW.seq ?_; refine CW.region ?_; apply LW.v0; rfl; rfl; apply ValP.move; rfl; apply LW.v0; rfl; rfl; apply ValP.mulZL; rfl; rfl; decide; omega; apply LW.v0; rfl; rfl; apply ValP.assign; rfl; apply LW.nil; refine thenN ?_; refine CW.seq ?_; refine CW.seq ?_; refine CW.region ?_; apply LW.v0; rfl; rfl; apply ValP.move; rfl; apply LW.v0; rfl; rfl; apply ValP.gtrF; rfl; rfl; omega; apply LW.nil; refine thenN ?_; apply CW.condF; rfl; (with_reducible rfl); refine CW.skip ?_; refine thenN ?_; refine CW.seq ?_; refine CW.region ?_; apply LW.v0; rfl; rfl; apply ValP.move; rfl; apply LW.v0; rfl; rfl; apply ValP.quoZL; rfl; rfl; decide; omega; omega; apply LW.v0; rfl; rfl; apply ValP.remZL; rfl; rfl; decide; omega; apply LW.v0; rfl; rfl; apply ValP.eqT; rfl; rfl; omega; apply LW.nil; refine thenN ?_; apply CW.condT; rfl; (with_reducible rfl); refine CW.region ?_; apply LW.v0; rfl; rfl; apply ValP.move; rfl; apply LW.v0; rfl; rfl; apply ValP.move; rfl; apply LW.v0; rfl; rfl; apply ValP.shlOne; rfl; rfl; assumption; apply LW.v0; rfl; rfl; apply ValP.subNL; rfl; rfl; decide; omega; omega; apply LW.v0; rfl; rfl; apply ValP.shlOne; rfl; rfl; assumption; apply LW.v0; rfl; rfl; apply ValP.orU; rfl; rfl; assumption; assumption; apply LW.v0; rfl; rfl; apply ValP.assign; rfl; apply LW.nil; refine blkN ?_; refine thenN ?_; refine CW.region ?_; apply LW.v0; rfl; rfl; apply ValP.addZL; rfl; rfl; decide; omega; apply LW.v0; rfl; rfl; apply ValP.move; rfl; apply LW.nil)
        refine thenX ⟨rfl, j + 1, hj7, by omega, ?_, List.nil_sublist _⟩
        rw [hs]
        exact ⟨rfl, rfl, rfl, rfl, rfl, rfl, rfl, trivial⟩
      · rw [if_neg h2] at hs
        (refine CW.seq ?_; refine CW.region ?_; apply LW.v0; rfl; rfl; apply ValP.lssT; rfl; rfl; omega; apply LW.nil; refine thenN ?_; refine CW.seq ?_; apply CW.condT; rfl; (with_reducible rfl); refine CW.skip ?_; refine thenN ?_; refine CW.seq ?_; refine CW.block ?_; refine CW.seq ?_; refine CW.region ?_; apply LW.v0; rfl; rfl; apply ValP.move; rfl; apply LW.v0; rfl; rfl; apply ValP.assign; rfl; apply LW.nil; refine thenN ?_; refine CW.seq ?_; refine CW.region ?_; apply LW.v0; rfl; rfl; apply ValP.move; rfl; apply LW.v0; rfl; rfl; apply ValP.mulZL; rfl; rfl; decide; omega; apply LW.v0; rfl; rfl; apply ValP.assign; rfl; apply LW.nil; refine thenN ?_; refine CW.seq ?_; refine CW.seq ?_; refine CW.region ?_; apply LW.v0; rfl; rfl; apply ValP.move; rfl; apply LW.v0; rfl; rfl; apply ValP.gtrF; rfl; rfl; omega; apply LW.nil; refine thenN ?_; apply CW.condF; rfl; (with_reducible rfl); refine CW.skip ?_; refine thenN ?_; refine CW.seq ?_; refine CW.region ?_; apply LW.v0; rfl; rfl; apply ValP.move; rfl; apply LW.v0; rfl; rfl; apply ValP.quoZL; rfl; rfl; decide; omega; omega; apply LW.v0; rfl; rfl; apply ValP.remZL; rfl; rfl; decide; omega; apply LW.v0; rfl; rfl; apply ValP.eqF; rfl; rfl; omega; apply LW.nil; refine thenN ?_; apply CW.condF; rfl; (with_reducible rfl); refine CW.skip ?_; refine blkN ?_; refine thenN ?_; refine CW.region ?_; apply LW.v0; rfl; rfl; apply ValP.addZL; rfl; rfl; decide; omega; apply LW.v0; rfl; rfl; apply ValP.move; rfl; apply LW.nil)
        refine thenX ⟨rfl, j + 1, hj7, by omega, ?_, List.nil_sublist _⟩
        rw [hs]
        exact ⟨rfl, rfl, rfl, rfl, rfl, rfl, rfl, trivial⟩
  · obtain rfl : j = 7 := by omega
    rw [← ho]
    by_cases h : i = n
    · subst h
      (refine CW.seq ?_; refine CW.region ?_; apply LW.v0; rfl; rfl; apply ValP.lssF; rfl; rfl; omega; apply LW.nil; refine thenN ?_; refine CW.seq ?_; apply CW.condF; rfl; (with_reducible rfl); refine CW.exit ?_; refine thenE ?_; refine thenE ?_; refine blkE rfl ?_; refine thenN ?_; refine CW.seq ?_; refine CW.region ?_; apply LW.v0; rfl; rfl; apply ValP.move; rfl; apply LW.v0; rfl; rfl; apply ValP.move; rfl; apply LW.v0; rfl; rfl; apply ValP.eqT; rfl; rfl; omega; apply LW.nil; refine thenN ?_; apply CW.condT; rfl; (with_reducible rfl); refine CW.exit ?_; refine blkO rfl ?_; refine thenE ?_; refine thenE ?_; refine blkE rfl ?_; refine thenN ?_; refine CW.seq ?_; refine CW.region ?_; apply LW.v0; rfl; rfl; apply ValP.move; rfl; apply LW.v0; rfl; rfl; apply ValP.assign; rfl; apply LW.nil; refine thenN ?_; refine CW.ret ?_)
      (apply finR; exact .inl rfl; rfl; rfl; rfl; apply ResL.cons; exact Res.tmp rfl; exact ResL.nil)
      rfl
    · (refine CW.seq ?_; refine CW.region ?_; apply LW.v0; rfl; rfl; apply ValP.lssF; rfl; rfl; omega; apply LW.nil; refine thenN ?_; refine CW.seq ?_; apply CW.condF; rfl; (with_reducible rfl); refine CW.exit ?_; refine thenE ?_; refine thenE ?_; refine blkE rfl ?_; refine thenN ?_; refine CW.seq ?_; refine CW.region ?_; apply LW.v0; rfl; rfl; apply ValP.move; rfl; apply LW.v0; rfl; rfl; apply ValP.move; rfl; apply LW.v0; rfl; rfl; apply ValP.eqF; rfl; rfl; omega; apply LW.nil; refine thenN ?_; apply CW.condF; rfl; (with_reducible rfl); refine CW.skip ?_; refine blkN ?_; refine thenN ?_; refine CW.region ?_; apply LW.v0; rfl; rfl; apply ValP.addZL; rfl; rfl; decide; omega; apply LW.v0; rfl; rfl; apply ValP.move; rfl; apply LW.nil)
      exact thenX ⟨rfl, i + 1, by omega, by omega, ⟨rfl, rfl, rfl, rfl, trivial⟩, List.nil_sublist _⟩
end Go.Proofs.YtobkhnmglbfheaaDoor.SK

/-
  The document's sponge: rows, rounds, all rounds.
  Conditions: none.
-/
namespace Go.Proofs.YtobkhnmglbfheaaDoor.SK
open Go Go.RowKit SL
set_option maxRecDepth 8000
set_option maxHeartbeats 4000000
set_option linter.unusedSimpArgs false
set_option linter.unusedVariables false
attribute [local irreducible] SL.CW SL.LW SL.DW Calls SL.Ret SL.RetG SL.beginQ SL.roundQ SL.rangeQ SL.inQ SL.RW SL.AnyW SL.thenQ SL.thenC SL.thenW SL.blkQ SL.finQ SL.ValP SL.NewP SL.SetP SL.CallP SL.Rd SL.Wr SL.Known
attribute [local irreducible] rrF mixL rowsL numL roundL permF
theorem rRows_calls (L : List Nat) (hL : L.length = 25) (hb : ∀ i, L.getD i 0 < 18446744073709551616) (w : World) : Calls Tryd.prog 83 #[.agg (nca L)] w (Ret w (.agg (nca (rowsL L)))) := by
  rw [← rr_rows L hL]
  refine enter (args := [_]) _ [] [] Tryd.func83 rfl Tryd.ntmps83 rfl (by simp) .nil ?_
  (refine CW.seq ?_; refine CW.region ?_; apply LW.boxA; rfl; rfl; intro _; apply LW.allocA; rfl; intro _; apply LW.nil; refine thenN ?_; refine CW.seq ?_; refine CW.region ?_; apply LW.load; rfl; rfl; apply Known.at; apply FsAt.tail; apply FsAt.head; apply rd_ncaW; assumption; apply LW.allocA; rfl; intro _; apply LW.store; rfl; rfl; apply SetAt.head; apply wr_ncaO; rfl; assumption; apply LW.nil; refine thenN ?_; refine CW.seq ?_; refine CW.seq ?_; refine CW.region ?_; apply LW.v0; rfl; rfl; apply ValP.move; rfl; apply LW.nil; refine thenN ?_; refine CW.block ?_)
  rename_i b1 b2 b3
  refine CW.loop (fun y : Nat => ([(7, .int .i64 (y : Int)), (3, .pointer (some ⟨b3, 0, none⟩)), (2, .pointer (some ⟨b2, 0, none⟩)), (1, .pointer (some ⟨b1, 0, none⟩))],
    [(b3, .cells (nca L) 102 (0, 0)), (b2, .cells (nca (List.replicate 25 0)) 102 (0, 0)), (b1, .cells (nca (rrF L (5 * y))) 102 (0, 0))]))
    (fun y => y ≤ 5) (fun y => 5 - y) 0 (Nat.zero_le _) ⟨rfl, rfl, rfl, rfl, trivial⟩ (by dsimp only; rw [Nat.mul_zero, rrF_zero]; exact List.Sublist.refl _) ?_
  intro y hy
  dsimp only at hy ⊢
  rcases Nat.lt_or_ge y 5 with hy5 | hy5
  · (refine CW.seq ?_; refine CW.region ?_; apply LW.v0; rfl; rfl; apply ValP.lssT; rfl; rfl; omega; apply LW.nil; refine thenN ?_; refine CW.seq ?_; apply CW.condT; rfl; (with_reducible rfl); refine CW.skip ?_; refine thenN ?_; refine CW.seq ?_; refine CW.block ?_; refine CW.seq ?_; refine CW.region ?_; apply LW.v0; rfl; rfl; apply ValP.move; rfl; apply LW.v0; rfl; rfl; apply ValP.assign; rfl; apply LW.nil; refine thenN ?_; refine CW.seq ?_; refine CW.region ?_; apply LW.v0; rfl; rfl; apply ValP.move; rfl; apply LW.nil; refine thenN ?_; refine CW.block ?_)
    refine CW.loop (fun x : Nat => ([(10, .int .i64 (x : Int)), (4, .int .i64 (y : Int)), (7, .int .i64 (y : Int)), (3, .pointer (some ⟨b3, 0, none⟩)), (2, .pointer (some ⟨b2, 0, none⟩)), (1, .pointer (some ⟨b1, 0, none⟩))],
      [(b3, .cells (nca L) 102 (0, 0)), (b2, .cells (nca (List.replicate 25 0)) 102 (0, 0)), (b1, .cells (nca (rrF L (5 * y + x))) 102 (0, 0))]))
      (fun x => x ≤ 5) (fun x => 5 - x) 0 (Nat.zero_le _) ⟨rfl, rfl, rfl, rfl, rfl, rfl, trivial⟩ (List.Sublist.refl _) ?_
    intro x hx
    dsimp only at hx ⊢
    have hrl := rrF_len L (5 * y + x)
    rcases Nat.lt_or_ge x 5 with hx5 | hx5
    · (refine CW.seq ?_; refine CW.region ?_; apply LW.v0; rfl; rfl; apply ValP.lssT; rfl; rfl; omega; apply LW.nil; refine thenN ?_; refine CW.seq ?_; apply CW.condT; rfl; (with_reducible rfl); refine CW.skip ?_; refine thenN ?_; refine CW.seq ?_; refine CW.block ?_; refine CW.seq ?_; refine CW.region ?_; apply LW.v0; rfl; rfl; apply ValP.move; rfl; apply LW.v0; rfl; rfl; apply ValP.assign; rfl; apply LW.nil; refine thenN ?_; apply CW.pre; refine AnyW.any 28 mixed (by decide +kernel) ?_; (try simp only [tsOf_cons, tsOf_nil, tsOf_app]); apply DW.v0; rfl; rfl; rfl; exact WantT.none; rfl; apply ValP.move; rfl; apply DW.v0; rfl; rfl; rfl; exact WantT.none; rfl; apply ValP.mulZK; rfl; rfl; decide; omega; apply DW.v0; rfl; rfl; rfl; exact WantT.none; rfl; apply ValP.move; rfl; apply DW.v0; rfl; rfl; rfl; exact WantT.none; rfl; apply ValP.addZ; rfl; rfl; omega; apply DW.v0; rfl; rfl; rfl; exact WantT.none; rfl; apply ValP.move; rfl; apply DW.v0; rfl; rfl; rfl; exact WantT.none; rfl; apply ValP.mulZK; rfl; rfl; decide; omega; apply DW.v0; rfl; rfl; rfl; exact WantT.none; rfl; apply ValP.move; rfl; apply DW.v0; rfl; rfl; rfl; exact WantT.none; rfl; apply ValP.addZ; rfl; rfl; omega; apply DW.v0; rfl; rfl; rfl; exact WantT.none; rfl; apply ValP.indexAddrA; rfl; rfl; rfl; omega; apply DW.loadO; rfl; rfl; rfl; exact WantT.none; rfl; apply TRead.head; exact ancB_nil; apply rd_nca; omega; apply DW.v0; rfl; rfl; rfl; exact WantT.none; rfl; apply ValP.move; rfl; apply DW.v0; rfl; rfl; rfl; exact WantT.none; rfl; apply ValP.mulZK; rfl; rfl; decide; omega; apply DW.v0; rfl; rfl; rfl; exact WantT.none; rfl; apply ValP.move; rfl; apply DW.v0; rfl; rfl; rfl; exact WantT.none; rfl; apply ValP.addZL; rfl; rfl; decide; omega; apply DW.v0; rfl; rfl; rfl; exact WantT.none; rfl; apply ValP.remZL; rfl; rfl; decide; omega; apply DW.v0; rfl; rfl; rfl; exact WantT.none; rfl; apply ValP.addZ; rfl; rfl; omega; apply DW.v0; rfl; rfl; rfl; exact WantT.none; rfl; apply ValP.indexAddrA; rfl; rfl; rfl; omega; apply DW.loadO; rfl; rfl; rfl; exact WantT.none; rfl; apply TRead.head; exact ancB_nil; apply rd_nca; omega; apply DW.v0; rfl; rfl; rfl; exact WantT.none; rfl; apply ValP.move; rfl; apply DW.v0; rfl; rfl; rfl; exact WantT.none; rfl; apply ValP.mulZK; rfl; rfl; decide; omega; apply DW.v0; rfl; rfl; rfl; exact WantT.none; rfl; apply ValP.move; rfl; apply DW.v0; rfl; rfl; rfl; exact WantT.none; rfl; apply ValP.addZL; rfl; rfl; decide; omega; apply DW.v0; rfl; rfl; rfl; exact WantT.none; rfl; apply ValP.remZL; rfl; rfl; decide; omega; apply DW.v0; rfl; rfl; rfl; exact WantT.none; rfl; apply ValP.addZ; rfl; rfl; omega; apply DW.v0; rfl; rfl; rfl; exact WantT.none; rfl; apply ValP.indexAddrA; rfl; rfl; rfl; omega; apply DW.loadO; rfl; rfl; rfl; exact WantT.none; rfl; apply TRead.head; exact ancB_nil; apply rd_nca; omega; apply DW.v0; rfl; rfl; rfl; exact WantT.none; rfl; apply ValP.andNotU; rfl; rfl; exact hb _; exact hb _; apply DW.v0; rfl; rfl; rfl; exact WantT.none; rfl; apply ValP.xorU; rfl; rfl; exact hb _; apply and64; omega; apply DW.nil; simp only [fsOf_cons, fsOf_nil, fsOf_app, fsOf_tsOf, fsOf_new]; apply LW.v0; rfl; rfl; apply ValP.indexAddrA; rfl; rfl; rfl; omega; apply LW.store; rfl; rfl; apply SetAt.tail; apply SetAt.tail; apply SetAt.head; apply wr_nca; omega; apply LW.nil; refine blkN ?_; refine thenN ?_; refine CW.region ?_; apply LW.v0; rfl; rfl; apply ValP.addZL; rfl; rfl; decide; omega; apply LW.v0; rfl; rfl; apply ValP.move; rfl; apply LW.nil)
      refine thenX ⟨rfl, x + 1, hx5, by omega, ⟨rfl, rfl, rfl, rfl, rfl, rfl, trivial⟩, ?_⟩
      rw [← Nat.add_assoc, rrF_step L x y hx5]
      exact List.Sublist.refl _
    · obtain rfl : x = 5 := by omega
      (refine CW.seq ?_; refine CW.region ?_; apply LW.v0; rfl; rfl; apply ValP.lssF; rfl; rfl; omega; apply LW.nil; refine thenN ?_; refine CW.seq ?_; apply CW.condF; rfl; (with_reducible rfl); refine CW.exit ?_; refine thenE ?_; refine thenE ?_; refine blkE rfl ?_; refine blkN ?_; refine thenN ?_; refine CW.region ?_; apply LW.v0; rfl; rfl; apply ValP.addZL; rfl; rfl; decide; omega; apply LW.v0; rfl; rfl; apply ValP.move; rfl; apply LW.nil)
      refine thenX ⟨rfl, y + 1, hy5, by omega, ⟨rfl, rfl, rfl, rfl, trivial⟩, ?_⟩
      rw [show 5 * (y + 1) = 5 * y + 5 by omega]
      exact List.Sublist.refl _
  · obtain rfl : y = 5 := by omega
    have hrl := rrF_len L (5 * 5)
    have hrl2 : (rrF L (5 * 5)).length = 25 := by omega
    have hz : (List.replicate 25 0 : List Nat).length = 25 := rfl
    (refine CW.seq ?_; refine CW.region ?_; apply LW.v0; rfl; rfl; apply ValP.lssF; rfl; rfl; omega; apply LW.nil; refine thenN ?_; refine CW.seq ?_; apply CW.condF; rfl; (with_reducible rfl); refine CW.exit ?_; refine thenE ?_; refine thenE ?_; refine blkE rfl ?_; refine thenN ?_; refine CW.seq ?_; refine CW.region ?_; apply LW.load; rfl; rfl; apply Known.at; apply FsAt.tail; apply FsAt.tail; apply FsAt.head; apply rd_ncaW; assumption; apply LW.store; rfl; rfl; apply SetAt.tail; apply SetAt.head; apply wr_ncaW; assumption; assumption; apply LW.nil; refine thenN ?_; refine CW.ret ?_)
    (apply finR; exact .inl rfl; rfl; rfl; rfl; apply ResL.cons; apply Res.cell; rfl; apply Known.at; apply FsAt.tail; apply FsAt.head; apply rd_ncaW; assumption; exact ResL.nil)
    rfl
theorem rRound_calls (L : List Nat) (n : Nat) (hn : n < 24) (hL : L.length = 25) (hb : ∀ i, L.getD i 0 < 18446744073709551616) (w : World) : Calls Tryd.prog 78 #[.agg (nca L), .int .i64 (n : Int)] w (Ret w (.agg (nca (roundL L (numL.getD n 0))))) := by
  have hM : ∀ w', Calls Tryd.prog 84 #[.agg (nca L)] w' (Ret w' (.agg (nca (mixL L)))) := rMix_calls L hL hb
  have hR : ∀ w', Calls Tryd.prog 83 #[.agg (nca (mixL L))] w' (Ret w' (.agg (nca (rowsL (mixL L))))) := rRows_calls _ (mixL_len L) (mixL_lt L hb)
  have hNu := Number_calls n hn
  have hnb := numL_lt n hn
  have hrb := rowsL_lt _ (mixL_lt L hb)
  have hl1 := mixL_len L
  have hl2 := rowsL_len (mixL L)
  have hl3 : ((rowsL (mixL L)).set 0 ((rowsL (mixL L)).getD 0 0 ^^^ numL.getD n 0)).length = 25 := by rw [List.length_set, hl2]
  have he : roundL L (numL.getD n 0) = (rowsL (mixL L)).set 0 ((rowsL (mixL L)).getD 0 0 ^^^ numL.getD n 0) := by unfold roundL; rfl
  rw [he]
  refine enter (args := [_, _]) _ [] [] Tryd.func78 rfl Tryd.ntmps78 rfl (by simp) .nil ?_
  (refine CW.seq ?_; refine CW.region ?_; apply LW.boxA; rfl; rfl; intro _; apply LW.allocA; rfl; intro _; apply LW.nil; refine thenN ?_; refine CW.seq ?_; refine CW.region ?_; apply LW.load; rfl; rfl; apply Known.at; apply FsAt.tail; apply FsAt.head; apply rd_ncaW; assumption; apply LW.callE; rfl; rfl; infer_instance; apply ArgsOk.cons; rfl; exact ArgsOk.nil; intro w _; exact hM w; apply LW.callE; rfl; rfl; infer_instance; apply ArgsOk.cons; rfl; exact ArgsOk.nil; intro w _; exact hR w; apply LW.store; rfl; rfl; apply SetAt.tail; apply SetAt.head; apply wr_ncaW; assumption; assumption; apply LW.nil; refine thenN ?_; refine CW.seq ?_; apply CW.pre; refine AnyW.any 4 mixed (by decide +kernel) ?_; (try simp only [tsOf_cons, tsOf_nil, tsOf_app]); apply DW.v0; rfl; rfl; rfl; exact WantT.none; rfl; apply ValP.indexAddrL; rfl; rfl; rfl; apply DW.loadO; rfl; rfl; rfl; exact WantT.none; rfl; apply TRead.tail; apply TRead.head; exact ancB_nil; apply rd_nca0; omega; apply DW.v0; rfl; rfl; rfl; exact WantT.none; rfl; apply ValP.move; rfl; apply DW.callE; rfl; rfl; rfl; exact WantT.none; rfl; infer_instance; apply ArgsOk.cons; rfl; exact ArgsOk.nil; rfl; exact ReadAll.nil; intro w _ _; exact hNu w; apply DW.nil; simp only [fsOf_cons, fsOf_nil, fsOf_app, fsOf_tsOf, fsOf_new]; apply LW.v0; rfl; rfl; apply ValP.xorU; rfl; rfl; exact hrb _; assumption; apply LW.v0; rfl; rfl; apply ValP.indexAddrL; rfl; rfl; rfl; apply LW.store; rfl; rfl; apply SetAt.tail; apply SetAt.head; apply wr_nca0; omega; apply LW.nil; refine thenN ?_; refine CW.seq ?_; refine CW.region ?_; apply LW.load; rfl; rfl; apply Known.at; apply FsAt.tail; apply FsAt.head; apply rd_ncaW; assumption; apply LW.store; rfl; rfl; apply SetAt.head; apply wr_ncaO; rfl; assumption; apply LW.nil; refine thenN ?_; refine CW.ret ?_)
  (apply finR; exact .inl rfl; rfl; rfl; rfl; apply ResL.cons; apply Res.cell; rfl; apply Known.at; apply FsAt.head; apply rd_ncaW; assumption; exact ResL.nil)
  rfl
theorem permF_z (L : List Nat) : permF L 0 = L := by unfold permF; rfl
theorem rPermute_calls (L : List Nat) (hL : L.length = 25) (hb : ∀ i, L.getD i 0 < 18446744073709551616) (w : World) : Calls Tryd.prog 63 #[.agg (nca L)] w (Ret w (.agg (nca (permL L)))) := by
  refine enter (args := [_]) _ [] [] Tryd.func63 rfl Tryd.ntmps63 rfl (by simp) .nil ?_
  (refine CW.seq ?_; refine CW.region ?_; apply LW.boxA; rfl; rfl; intro _; apply LW.allocA; rfl; intro _; apply LW.nil; refine thenN ?_; refine CW.seq ?_; refine CW.seq ?_; refine CW.region ?_; apply LW.v0; rfl; rfl; apply ValP.move; rfl; apply LW.nil; refine thenN ?_; refine CW.block ?_)
  rename_i b1 b2
  refine CW.loop (fun k : Nat => ([(4, .int .i64 (k : Int)), (2, .pointer (some ⟨b2, 0, none⟩)), (1, .pointer (some ⟨b1, 0, none⟩))],
    [(b2, .cells (nca (List.replicate 25 0)) 102 (0, 0)), (b1, .cells (nca (permF L k)) 102 (0, 0))]))
    (fun k => k ≤ 24) (fun k => 24 - k) 0 (Nat.zero_le _) ⟨rfl, rfl, rfl, trivial⟩ (by dsimp only; rw [permF_z]; exact List.Sublist.refl _) ?_
  intro k hk
  dsimp only at hk ⊢
  have hlen := permF_len L hL k
  rcases Nat.lt_or_ge k 24 with hk4 | hk4
  · have hRd : ∀ w', Calls Tryd.prog 78 #[.agg (nca (permF L k)), .int .i64 (k : Int)] w' (Ret w' (.agg (nca (roundL (permF L k) (numL.getD k 0))))) := rRound_calls _ k hk4 hlen (permF_lt L hb k hk)
    have hlen' := roundL_len (permF L k) (numL.getD k 0)
    (refine CW.seq ?_; refine CW.region ?_; apply LW.v0; rfl; rfl; apply ValP.lssT; rfl; rfl; omega; apply LW.nil; refine thenN ?_; refine CW.seq ?_; apply CW.condT; rfl; (with_reducible rfl); refine CW.skip ?_; refine thenN ?_; refine CW.seq ?_; refine CW.block ?_; refine CW.seq ?_; refine CW.region ?_; apply LW.v0; rfl; rfl; apply ValP.move; rfl; apply LW.v0; rfl; rfl; apply ValP.assign; rfl; apply LW.nil; refine thenN ?_; refine CW.region ?_; apply LW.load; rfl; rfl; apply Known.at; apply FsAt.tail; apply FsAt.head; apply rd_ncaW; assumption; apply LW.v0; rfl; rfl; apply ValP.move; rfl; apply LW.callE; rfl; rfl; infer_instance; apply ArgsOk.cons; rfl; apply ArgsOk.cons; rfl; exact ArgsOk.nil; intro w _; exact hRd w; apply LW.store; rfl; rfl; apply SetAt.tail; apply SetAt.head; apply wr_ncaW; assumption; assumption; apply LW.nil; refine blkN ?_; refine thenN ?_; refine CW.region ?_; apply LW.v0; rfl; rfl; apply ValP.addZL; rfl; rfl; decide; omega; apply LW.v0; rfl; rfl; apply ValP.move; rfl; apply LW.nil)
    refine thenX ⟨rfl, k + 1, hk4, by omega, ⟨rfl, rfl, rfl, trivial⟩, ?_⟩
    rw [permF_step]
    exact List.Sublist.refl _
  · obtain rfl : k = 24 := by omega
    have hlr : (List.replicate 25 0 : List Nat).length = 25 := rfl
    have hpe : permL L = permF L 24 := by unfold permL; rfl
    rw [hpe]
    (refine CW.seq ?_; refine CW.region ?_; apply LW.v0; rfl; rfl; apply ValP.lssF; rfl; rfl; omega; apply LW.nil; refine thenN ?_; refine CW.seq ?_; apply CW.condF; rfl; (with_reducible rfl); refine CW.exit ?_; refine thenE ?_; refine thenE ?_; refine blkE rfl ?_; refine thenN ?_; refine CW.seq ?_; refine CW.region ?_; apply LW.load; rfl; rfl; apply Known.at; apply FsAt.tail; apply FsAt.head; apply rd_ncaW; assumption; apply LW.store; rfl; rfl; apply SetAt.head; apply wr_ncaW; assumption; assumption; apply LW.nil; refine thenN ?_; refine CW.ret ?_)
    (apply finR; exact .inl rfl; rfl; rfl; rfl; apply ResL.cons; apply Res.cell; rfl; apply Known.at; apply FsAt.head; apply rd_ncaW; assumption; exact ResL.nil)
    rfl
end Go.Proofs.YtobkhnmglbfheaaDoor.SK

/-
  The sponge: plain laws of bytes that are soaked up.
  Conditions: none.
-/
namespace Go.Proofs.YtobkhnmglbfheaaDoor.SK
open Go Go.RowKit SL
set_option maxRecDepth 8000
set_option linter.unusedSimpArgs false
set_option linter.unusedVariables false
/-- Eight bytes from a place on. -/
def litO (p : List UInt8) (o : Nat) : Nat → Nat
  | 0 => 0
  | k + 1 => litO p o k ||| ((p.getD (o + k) 0).toNat * 2 ^ (8 * k) % 18446744073709551616)
theorem litO_lt (p : List UInt8) (o : Nat) : ∀ k, k ≤ 8 → litO p o k < 2 ^ (8 * k)
  | 0, _ => by simp [litO]
  | k + 1, hk => by
    have ih := litO_lt p o k (by omega)
    have hu := (p.getD (o + k) 0).toNat_lt
    have h1 : (p.getD (o + k) 0).toNat * 2 ^ (8 * k) < 2 ^ (8 * (k + 1)) := by
      rw [show 8 * (k + 1) = 8 + 8 * k by omega, Nat.pow_add]
      exact Nat.mul_lt_mul_of_pos_right hu (Nat.pow_pos (by decide))
    rw [litO]
    exact Nat.or_lt_two_pow (Nat.lt_of_lt_of_le ih (Nat.pow_le_pow_right (by decide) (by omega))) (Nat.lt_of_le_of_lt (Nat.mod_le _ _) h1)
theorem or_xor {a b k : Nat} (h : a < 2 ^ k) : a ||| (b * 2 ^ k) = a ^^^ (b * 2 ^ k) := by
  apply Nat.eq_of_testBit_eq
  intro i
  rw [Nat.testBit_or, Nat.testBit_xor]
  rcases Nat.lt_or_ge i k with hi | hi
  · have : (b * 2 ^ k).testBit i = false := by
      rw [Nat.testBit_mul_two_pow]
      have : ¬ k ≤ i := by omega
      simp [this]
    rw [this]; simp
  · have : a.testBit i = false := Nat.testBit_lt_two_pow (Nat.lt_of_lt_of_le h (Nat.pow_le_pow_right (by decide) hi))
    rw [this]; simp
theorem byte_small {u k : Nat} (hu : u < 256) (hk : k < 8) : u * 2 ^ (8 * k) % 18446744073709551616 = u * 2 ^ (8 * k) := by
  apply Nat.mod_eq_of_lt
  have h1 : u * 2 ^ (8 * k) < 2 ^ 8 * 2 ^ (8 * k) := Nat.mul_lt_mul_of_pos_right hu (Nat.pow_pos (by decide))
  rw [← Nat.pow_add] at h1
  exact Nat.lt_of_lt_of_le h1 (show 2 ^ (8 + 8 * k) ≤ 2 ^ 64 from Nat.pow_le_pow_right (by decide) (by omega))
theorem litO_xor (p : List UInt8) (o k : Nat) (hk : k < 8) : litO p o (k + 1) = litO p o k ^^^ ((p.getD (o + k) 0).toNat * 2 ^ (8 * k) % 18446744073709551616) := by
  have hu := (p.getD (o + k) 0).toNat_lt
  rw [litO, byte_small hu hk]
  exact or_xor (litO_lt p o k (by omega))
/-- Lanes to which eight bytes each come. -/
def litS (L : List Nat) (p : List UInt8) (o : Nat) : Nat → List Nat
  | 0 => L
  | i + 1 => (litS L p o i).set i ((litS L p o i).getD i 0 ^^^ litO p (o + 8 * i) 8)
theorem litS_len (L : List Nat) (p : List UInt8) (o k : Nat) : (litS L p o k).length = L.length := by
  induction k with
  | zero => rfl
  | succ k ih => simp [litS, ih]
theorem soak_eight (L : List Nat) (p : List UInt8) (o i : Nat) (hi : i < L.length) : ∀ k, k ≤ 8 → soakF L p o (8 * i + k) = (soakF L p o (8 * i)).set i ((soakF L p o (8 * i)).getD i 0 ^^^ litO p (o + 8 * i) k)
  | 0, _ => by
    have hl := soakF_len L p o (8 * i)
    rw [show litO p (o + 8 * i) 0 = 0 from rfl, Nat.xor_zero, Nat.add_zero]
    apply List.ext_getElem?
    intro j
    rw [List.getElem?_set]
    split
    · rename_i h; subst h
      rw [if_pos (by omega), List.getD_eq_getElem?_getD, List.getElem?_eq_getElem (by omega)]; rfl
    · rfl
  | k + 1, hk => by
    have ih := soak_eight L p o i hi k (by omega)
    have hl := soakF_len L p o (8 * i)
    rw [← Nat.add_assoc, soakF_succ, ih, show (8 * i + k) / 8 = i by omega, show (8 * i + k) % 8 = k by omega, litO_xor p _ k (by omega), List.set_set]
    have hg : ∀ x : Nat, ((soakF L p o (8 * i)).set i x).getD i 0 = x := fun x => by
      rw [List.getD_eq_getElem?_getD, List.getElem?_set_self (by omega)]; rfl
    rw [hg, Nat.xor_assoc, show o + (8 * i + k) = o + 8 * i + k by omega]
theorem litS_soak (L : List Nat) (p : List UInt8) (o : Nat) : ∀ i, i ≤ L.length → litS L p o i = soakF L p o (8 * i)
  | 0, _ => rfl
  | i + 1, hi => by
    rw [litS, litS_soak L p o i (by omega), show 8 * (i + 1) = 8 * i + 8 by omega, soak_eight L p o i hi 8 (Nat.le_refl _)]
/-! ### Digests, eight bytes each -/
theorem or_add {a b k : Nat} (h : a < 2 ^ k) : a ||| (b * 2 ^ k) = b * 2 ^ k + a := by
  rw [Nat.or_comm, Nat.mul_comm]
  exact (Nat.two_pow_add_eq_or_of_lt h b).symm
end Go.Proofs.YtobkhnmglbfheaaDoor.SK

/-
  The document's sponge: digests.
  Conditions: none.
-/
namespace Go.Proofs.YtobkhnmglbfheaaDoor.SK
open Go Go.RowKit SL
set_option maxRecDepth 8000
set_option maxHeartbeats 4000000
set_option linter.unusedSimpArgs false
set_option linter.unusedVariables false
attribute [local irreducible] SL.CW SL.LW SL.DW Calls SL.Ret SL.RetG SL.beginQ SL.roundQ SL.rangeQ SL.inQ SL.RW SL.AnyW SL.thenQ SL.thenC SL.thenW SL.blkQ SL.finQ SL.ValP SL.NewP SL.SetP SL.CallP SL.Rd SL.Wr SL.Known
/-- Eight bytes from a place on, read from the last one down. -/
def yF (p : List UInt8) (o : Nat) : Nat → Nat
  | 0 => 0
  | m + 1 => (256 * yF p o m % 18446744073709551616 + (p.getD (o + (7 - m)) 0).toNat) % 18446744073709551616
theorem yF_zero (p : List UInt8) (o : Nat) : yF p o 0 = 0 := rfl
theorem yF_succ (p : List UInt8) (o m : Nat) : yF p o (m + 1) = (256 * yF p o m % 18446744073709551616 + (p.getD (o + (7 - m)) 0).toNat) % 18446744073709551616 := rfl
theorem yF_lt (p : List UInt8) (o m : Nat) : yF p o m < 18446744073709551616 := by
  cases m with
  | zero => exact Nat.zero_lt_succ _
  | succ m => exact Nat.mod_lt _ (by decide)
theorem litO_sum (p : List UInt8) (o k : Nat) (hk : k < 8) : litO p o (k + 1) = (p.getD (o + k) 0).toNat * 2 ^ (8 * k) + litO p o k := by
  rw [litO, byte_small (p.getD (o + k) 0).toNat_lt hk]
  exact or_add (litO_lt p o k (by omega))
/-- what is still to come, and what there is. -/
theorem yF_lit (p : List UInt8) (o : Nat) : ∀ m, m ≤ 8 → yF p o m < 256 ^ m ∧ litO p o 8 = yF p o m * 256 ^ (8 - m) + litO p o (8 - m)
  | 0, _ => ⟨by simp [yF], by simp [yF]⟩
  | m + 1, hm => by
    obtain ⟨h1, h2⟩ := yF_lit p o m (by omega)
    have hu := (p.getD (o + (7 - m)) 0).toNat_lt
    have hp : 256 ^ m ≤ 256 ^ 7 := Nat.pow_le_pow_right (by decide) (by omega)
    have hp7 : (256 : Nat) ^ 7 = 72057594037927936 := by decide
    have hy : yF p o (m + 1) = 256 * yF p o m + (p.getD (o + (7 - m)) 0).toNat := by
      rw [yF]
      have : 256 * yF p o m < 18446744073709551616 := by omega
      rw [Nat.mod_eq_of_lt this]
      apply Nat.mod_eq_of_lt
      have h3 : 256 * yF p o m + 256 ≤ 256 * 256 ^ m := by
        have := Nat.mul_le_mul_left 256 h1
        omega
      omega
    constructor
    · rw [hy, Nat.pow_succ]
      have := Nat.mul_le_mul_left 256 h1
      omega
    · have e1 : 8 - m = (7 - m) + 1 := by omega
      have hs := litO_sum p o (7 - m) (by omega)
      rw [← e1] at hs
      rw [h2, hs, hy, show 8 - (m + 1) = 7 - m by omega, e1, Nat.pow_succ, show 2 ^ (8 * (7 - m)) = 256 ^ (7 - m) by rw [Nat.pow_mul]]
      generalize 256 ^ (7 - m) = q
      generalize yF p o m = y
      generalize (p.getD (o + (7 - m)) 0).toNat = u
      rw [Nat.add_mul, Nat.add_assoc]
      congr 1
      rw [Nat.mul_comm q 256, ← Nat.mul_assoc, Nat.mul_comm y 256]
theorem yF_all (p : List UInt8) (o : Nat) : yF p o 8 = litO p o 8 := by
  have := (yF_lit p o 8 (Nat.le_refl _)).2
  simpa [litO] using this.symm
structure QX where
  k : Nat
  o : Nat
theorem ValP.cutFromAny {P : Program} {e : Env} {T E : TypeId} {x lo : Operand} {b o n c k : Nat} {il : IntKind} {z : Value} (hU : UnI P T (.slice E)) (hI : InfoI P E 1 z) (hx : e.ev x = some (.slice (some ⟨b, o, none⟩) n c)) (hl : e.ev lo = some (.int il (OfNat.ofNat k))) (_ : k = k) (hk : (OfNat.ofNat k : Nat) ≤ n) : ValP P e [] (.slice T x (some lo) none none) (.slice (some ⟨b, if c = (OfNat.ofNat k : Nat) then o else o + (OfNat.ofNat k : Nat), none⟩) (n - (OfNat.ofNat k : Nat)) (c - (OfNat.ofNat k : Nat))) := by
  have h := ValP.cutFrom (P := P) (k := (OfNat.ofNat k : Nat)) hU hI hx hl hk
  have e1 : cutAt (some ⟨b, o, none⟩) (OfNat.ofNat k : Nat) n c 1 = .slice (some ⟨b, if c = (OfNat.ofNat k : Nat) then o else o + (OfNat.ofNat k : Nat), none⟩) (n - (OfNat.ofNat k : Nat)) (c - (OfNat.ofNat k : Nat)) := by
    unfold cutAt
    split <;> simp [Addr.add]
  rwa [e1] at h
theorem litS_z (L : List Nat) (p : List UInt8) (o : Nat) : litS L p o 0 = L := rfl
theorem litS_s (L : List Nat) (p : List UInt8) (o i : Nat) : litS L p o (i + 1) = (litS L p o i).set i ((litS L p o i).getD i 0 ^^^ litO p (o + 8 * i) 8) := rfl
attribute [local irreducible] padB sumB permL soakF sumF litS litO idF yF
theorem rSum_calls (b : List UInt8) (v : Value) (w : World) (hv : RowAt w 1 v b.length (ucs b)) (hb : b.length ≤ 100000) : Calls Tryd.prog 44 #[v] w (Ret w (.agg (uca (sumB b)))) := by
  have hPad : ∀ w' {fs}, St w [] fs w' → Calls Tryd.prog 62 #[v] w' (RetG w' [] (RowR (padB b))) := fun w' fs hst => rPad_calls b v w' (hv.st hst) hb
  obtain ⟨p0, c0, rfl, _, _⟩ := hv.form
  obtain ⟨P, hPe⟩ : ∃ P, P = padB b := ⟨_, rfl⟩
  obtain ⟨N, hNe⟩ : ∃ N, N = padC b.length := ⟨_, rfl⟩
  have hlP : P.length = 136 * N := by rw [hPe, hNe, padB_len, padN, padC]; omega
  have hNb : 0 < N ∧ N ≤ 1000 := by rw [hNe, padC]; omega
  refine enter (args := [_]) _ [] [] Tryd.func44 rfl Tryd.ntmps44 rfl (by simp) .nil ?_
  (refine CW.seq ?_; refine CW.region ?_; apply LW.allocA; rfl; intro _; apply LW.nil; refine thenN ?_; refine CW.seq ?_; refine CW.region ?_; apply LW.allocA; rfl; intro _; apply LW.nil; refine thenN ?_; refine CW.seq ?_; refine CW.region ?_; apply LW.v0; rfl; rfl; apply ValP.move; rfl)
  refine LW.callR rfl rfl inferInstance (by (apply ArgsOk.cons; rfl; exact ArgsOk.nil)) (fun w hst => hPad w hst) ?_
  intro v1 gs1 hrow
  replace hrow : IsRow 5 1 v1 (padB b).length (ucs (padB b)) gs1 := hrow
  rw [← hPe] at hrow
  obtain ⟨p1, c1, rfl⟩ := hrow.form
  obtain ⟨g, cur, rfl, rfl, hc1, hmx, hsz, ht⟩ := hrow.pos (by omega)
  simp only [maxLen] at hmx
  have hcg : ∀ j, j < P.length → cur[j]? = some (.int .u8 ((P.getD j 0).toNat : Int)) := fun j hj => by
    have h1 := congrArg (·[j]?) ht
    simp only [Nat.mul_one] at h1
    rw [List.getElem?_take, if_pos hj] at h1
    have h2 := uca_get P j hj
    rw [← Array.getElem?_toList, h1]
    simpa [uca] using h2
  simp only [List.cons_append, List.nil_append]
  (apply LW.v0; rfl; rfl; apply ValP.assign; rfl; apply LW.nil; refine thenN ?_; refine CW.seq ?_; refine CW.block ?_)
  rename_i bi bl
  refine CW.loop (fun x : QX => ([(4, .slice (some ⟨g, x.o, none⟩) (P.length - 136 * x.k) (c1 - 136 * x.k)), (3, .pointer (some ⟨bl, 0, none⟩)), (2, .pointer (some ⟨bi, 0, none⟩))],
    [(g, .cells cur 5 (0, 0)), (bl, .cells (nca (sumF P x.k)) 102 (0, 0)), (bi, .cells (uca (List.replicate 32 0)) 79 (0, 0))]))
    (fun x => x.k ≤ N ∧ (x.k < N → x.o = 136 * x.k)) (fun x => N - x.k) ⟨0, 0⟩ ⟨Nat.zero_le _, fun _ => rfl⟩ ⟨rfl, rfl, rfl, trivial⟩ (by dsimp only; rw [sumF_zero]; exact List.Sublist.refl _) ?_
  rintro ⟨c, o⟩ ⟨hc, ho⟩
  dsimp only at hc ho ⊢
  have hls' := sumF_len P c
  rcases Nat.lt_or_ge c N with hcN | hcN
  · obtain rfl := ho hcN
    (refine CW.seq ?_; refine CW.seq ?_; refine CW.region ?_; apply LW.v0; rfl; rfl; apply ValP.move; rfl; apply LW.v0; rfl; rfl; apply ValP.lenR; rfl; infer_instance; rfl; apply LW.v0; rfl; rfl; apply ValP.gtrT; rfl; rfl; omega; apply LW.nil; refine thenN ?_; apply CW.condT; rfl; (with_reducible rfl); refine CW.skip ?_; refine thenN ?_; refine CW.block ?_; refine CW.seq ?_; refine CW.seq ?_; refine CW.region ?_; apply LW.v0; rfl; rfl; apply ValP.move; rfl; apply LW.nil; refine thenN ?_; refine CW.block ?_)
    refine CW.loop (fun i : Nat => ([(17, .int .i64 (i : Int)), (4, .slice (some ⟨g, 136 * c, none⟩) (P.length - 136 * c) (c1 - 136 * c)), (3, .pointer (some ⟨bl, 0, none⟩)), (2, .pointer (some ⟨bi, 0, none⟩))],
      [(g, .cells cur 5 (0, 0)), (bl, .cells (nca (litS (sumF P c) P (136 * c) i)) 102 (0, 0)), (bi, .cells (uca (List.replicate 32 0)) 79 (0, 0))]))
      (fun i => i ≤ 17) (fun i => 17 - i) 0 (Nat.zero_le _) ⟨rfl, rfl, rfl, rfl, trivial⟩ ?_ ?_
    · dsimp only
      rw [litS_z]
      exact List.Sublist.refl _
    intro i hi
    dsimp only at hi ⊢
    have hls := litS_len (sumF P c) P (136 * c) i
    have hso := litS_soak (sumF P c) P (136 * c) i (by omega)
    have hsb : ∀ j, (litS (sumF P c) P (136 * c) i).getD j 0 < 18446744073709551616 := by rw [hso]; exact soakF_lt _ P (136 * c) (sumF_lt P c) (8 * i)
    rcases Nat.lt_or_ge i 17 with hi7 | hi7
    · (refine CW.seq ?_; refine CW.region ?_; apply LW.v0; rfl; rfl; apply ValP.lssT; rfl; rfl; omega; apply LW.nil; refine thenN ?_; refine CW.seq ?_; apply CW.condT; rfl; (with_reducible rfl); refine CW.skip ?_; refine thenN ?_; refine CW.seq ?_; refine CW.block ?_; refine CW.seq ?_; refine CW.region ?_; apply LW.v0; rfl; rfl; apply ValP.move; rfl; apply LW.v0; rfl; rfl; apply ValP.assign; rfl; apply LW.nil; refine thenN ?_; refine CW.seq ?_; refine CW.region ?_; apply LW.v0; rfl; rfl; apply ValP.assign; rfl; apply LW.nil; refine thenN ?_; refine CW.seq ?_; refine CW.seq ?_; refine CW.region ?_; apply LW.v0; rfl; rfl; apply ValP.assign; rfl; apply LW.nil; refine thenN ?_; refine CW.block ?_)
      refine CW.loop (fun m : Nat => ([(7, .int .i64 ((7 : Int) - (m : Int))), (6, .int .u64 (yF P (136 * c + 8 * i) m : Int)), (5, .int .i64 (i : Int)), (17, .int .i64 (i : Int)), (4, .slice (some ⟨g, 136 * c, none⟩) (P.length - 136 * c) (c1 - 136 * c)), (3, .pointer (some ⟨bl, 0, none⟩)), (2, .pointer (some ⟨bi, 0, none⟩))],
        [(g, .cells cur 5 (0, 0)), (bl, .cells (nca (litS (sumF P c) P (136 * c) i)) 102 (0, 0)), (bi, .cells (uca (List.replicate 32 0)) 79 (0, 0))]))
        (fun m => m ≤ 8) (fun m => 8 - m) 0 (Nat.zero_le _) ?_ (List.Sublist.refl _) ?_
      · dsimp only
        rw [yF_zero]
        exact ⟨rfl, rfl, rfl, rfl, rfl, rfl, rfl, trivial⟩
      intro m hm
      dsimp only at hm ⊢
      have hyl := yF_lt P (136 * c + 8 * i) m
      rcases Nat.lt_or_ge m 8 with hm8 | hm8
      · have e0 : ((7 : Int) - (m : Int)) = ((7 - m : Nat) : Int) := by omega
        have e2 : ((7 - m : Nat) : Int) - 1 = (7 : Int) - ((m + 1 : Nat) : Int) := by omega
        rw [e0]
        have hbt : (P.getD (136 * c + 8 * i + (7 - m)) 0).toNat < 256 := UInt8.toNat_lt _
        have hrd : Rd Tryd.prog 5 (.cells cur 5 (0, 0)) (136 * c + (8 * i + (7 - m)) * 1) (.int .u8 ((P.getD (136 * c + 8 * i + (7 - m)) 0).toNat : Int)) := Rd.one (by rw [Nat.mul_one, ← Nat.add_assoc]; exact hcg _ (by omega))
        (refine CW.seq ?_; refine CW.seq ?_; refine CW.region ?_; apply LW.v0; rfl; rfl; apply ValP.move; rfl; apply LW.v0; rfl; rfl; apply ValP.geqT; rfl; rfl; omega; apply LW.nil; refine thenN ?_; apply CW.condT; rfl; (with_reducible rfl); refine CW.skip ?_; refine thenN ?_; refine CW.seq ?_; refine CW.block ?_; refine CW.region ?_; apply LW.v0; rfl; rfl; apply ValP.move; rfl; apply LW.v0; rfl; rfl; apply ValP.mulNK; rfl; rfl; decide; apply LW.v0; rfl; rfl; apply ValP.move; rfl; apply LW.v0; rfl; rfl; apply ValP.move; rfl; apply LW.v0; rfl; rfl; apply ValP.mulZK; rfl; rfl; decide; omega; apply LW.v0; rfl; rfl; apply ValP.move; rfl; apply LW.v0; rfl; rfl; apply ValP.addZ; rfl; rfl; omega; apply LW.v0; rfl; rfl; apply ValP.indexAddrS; rfl; rfl; rfl; omega; apply LW.load; rfl; rfl; apply Known.at; apply FsAt.head; assumption; apply LW.v0; rfl; rfl; apply ValP.convN; rfl; omega; omega; apply LW.v0; rfl; rfl; apply ValP.addN; rfl; rfl; apply LW.v0; rfl; rfl; apply ValP.assign; rfl; apply LW.nil; refine blkN ?_; refine thenN ?_; refine CW.region ?_; apply LW.v0; rfl; rfl; apply ValP.move; rfl; apply LW.v0; rfl; rfl; apply ValP.subI; rfl; rfl; omega; omega; apply LW.v0; rfl; rfl; apply ValP.assign; rfl; apply LW.nil)
        refine thenX ⟨rfl, m + 1, hm8, by omega, ?_, List.Sublist.refl _⟩
        rw [yF_succ, ← e2]
        exact ⟨rfl, rfl, rfl, rfl, rfl, rfl, rfl, trivial⟩
      · obtain rfl : m = 8 := by omega
        rw [yF_all] at hyl ⊢
        (refine CW.seq ?_; refine CW.seq ?_; refine CW.region ?_; apply LW.v0; rfl; rfl; apply ValP.move; rfl; apply LW.v0; rfl; rfl; apply ValP.geqF; rfl; rfl; omega; apply LW.nil; refine thenN ?_; apply CW.condF; rfl; (with_reducible rfl); refine CW.exit ?_; refine thenE ?_; refine thenE ?_; refine blkE rfl ?_; refine thenN ?_; refine CW.region ?_; apply LW.v0; rfl; rfl; apply ValP.move; rfl; apply LW.v0; rfl; rfl; apply ValP.indexAddrA; rfl; rfl; rfl; omega; apply LW.load; rfl; rfl; apply Known.at; apply FsAt.tail; apply FsAt.head; apply rd_nca; omega; apply LW.v0; rfl; rfl; apply ValP.move; rfl; apply LW.v0; rfl; rfl; apply ValP.xorU; rfl; rfl; exact hsb _; assumption; apply LW.v0; rfl; rfl; apply ValP.indexAddrA; rfl; rfl; rfl; omega; apply LW.store; rfl; rfl; apply SetAt.tail; apply SetAt.head; apply wr_nca; omega; apply LW.nil; refine blkN ?_; refine thenN ?_; refine CW.region ?_; apply LW.v0; rfl; rfl; apply ValP.addZL; rfl; rfl; decide; omega; apply LW.v0; rfl; rfl; apply ValP.move; rfl; apply LW.nil)
        refine thenX ⟨rfl, i + 1, hi7, by omega, ⟨rfl, rfl, rfl, rfl, trivial⟩, ?_⟩
        rw [litS_s]
        exact List.Sublist.refl _
    · obtain rfl : i = 17 := by omega
      rw [show 8 * 17 = 136 from rfl] at hso
      rw [hso] at hsb hls ⊢
      have hls2 : (soakF (sumF P c) P (136 * c) 136).length = 25 := by omega
      have hPerm : ∀ w', Calls Tryd.prog 63 #[.agg (nca (soakF (sumF P c) P (136 * c) 136))] w' (Ret w' (.agg (nca (permL (soakF (sumF P c) P (136 * c) 136))))) := rPermute_calls _ hls2 hsb
      have hlp := permL_len (soakF (sumF P c) P (136 * c) 136) hls2
      have e3 : P.length - 136 * c - 136 = P.length - 136 * (c + 1) := by omega
      have e4 : c1 - 136 * c - 136 = c1 - 136 * (c + 1) := by omega
      (refine CW.seq ?_; refine CW.region ?_; apply LW.v0; rfl; rfl; apply ValP.lssF; rfl; rfl; omega; apply LW.nil; refine thenN ?_; refine CW.seq ?_; apply CW.condF; rfl; (with_reducible rfl); refine CW.exit ?_; refine thenE ?_; refine thenE ?_; refine blkE rfl ?_; refine thenN ?_; refine CW.seq ?_; refine CW.region ?_; apply LW.load; rfl; rfl; apply Known.at; apply FsAt.tail; apply FsAt.head; apply rd_ncaW; assumption; apply LW.callE; rfl; rfl; infer_instance; apply ArgsOk.cons; rfl; exact ArgsOk.nil; intro w _; exact hPerm w; apply LW.store; rfl; rfl; apply SetAt.tail; apply SetAt.head; apply wr_ncaW; assumption; assumption; apply LW.nil; refine thenN ?_; refine CW.region ?_; apply LW.v0; rfl; rfl; apply ValP.move; rfl; apply LW.v0; rfl; rfl; apply ValP.cutFromAny; infer_instance; infer_instance; rfl; rfl; decide; omega; apply LW.v0; rfl; rfl; apply ValP.assign; rfl; apply LW.nil; refine blkN ?_)
      refine thenX ⟨rfl, ⟨c + 1, if c1 - 136 * c = 136 then 136 * c else 136 * c + 136⟩, ⟨hcN, fun h => ?_⟩, ?_, ?_, ?_⟩
      · dsimp only at h ⊢
        rw [if_neg (by omega)]
        omega
      · dsimp only
        omega
      · dsimp only
        rw [← e3, ← e4]
        exact ⟨rfl, rfl, rfl, trivial⟩
      · dsimp only
        rw [sumF_succ]
        exact List.Sublist.refl _
  · obtain rfl : c = N := by omega
    have hLb := sumF_lt P c
    have hI : sumB b = idF (sumF P c) 32 := by rw [hPe, hNe]; unfold sumB; rfl
    rw [hI]
    generalize sumF P c = L at *
    (refine CW.seq ?_; refine CW.seq ?_; refine CW.region ?_; apply LW.v0; rfl; rfl; apply ValP.move; rfl; apply LW.v0; rfl; rfl; apply ValP.lenR; rfl; infer_instance; rfl; apply LW.v0; rfl; rfl; apply ValP.gtrF; rfl; rfl; omega; apply LW.nil; refine thenN ?_; apply CW.condF; rfl; (with_reducible rfl); refine CW.exit ?_; refine thenE ?_; refine thenE ?_; refine blkE rfl ?_; refine thenN ?_; refine CW.seq ?_; refine CW.region ?_; apply LW.allocA; rfl; intro _; apply LW.nil; refine thenN ?_; refine CW.seq ?_; refine CW.seq ?_; refine CW.region ?_; apply LW.v0; rfl; rfl; apply ValP.move; rfl; apply LW.nil; refine thenN ?_; refine CW.block ?_)
    rename_i bd
    refine CW.loop (fun i : Nat => ([(46, .int .i64 (i : Int)), (8, .pointer (some ⟨bd, 0, none⟩)), (3, .pointer (some ⟨bl, 0, none⟩)), (2, .pointer (some ⟨bi, 0, none⟩))],
      [(bd, .cells (uca (idF L (8 * i))) 79 (0, 0)), (bl, .cells (nca L) 102 (0, 0)), (bi, .cells (uca (List.replicate 32 0)) 79 (0, 0))]))
      (fun i => i ≤ 4) (fun i => 4 - i) 0 (Nat.zero_le _) ⟨rfl, rfl, rfl, rfl, trivial⟩ ?_ ?_
    · dsimp only
      rw [Nat.mul_zero, idF_zero]
      (apply List.Sublist.cons_cons; apply List.Sublist.cons; exact List.Sublist.refl _)
    intro i hi
    dsimp only at hi ⊢
    rcases Nat.lt_or_ge i 4 with hi4 | hi4
    · (refine CW.seq ?_; refine CW.region ?_; apply LW.v0; rfl; rfl; apply ValP.lssT; rfl; rfl; omega; apply LW.nil; refine thenN ?_; refine CW.seq ?_; apply CW.condT; rfl; (with_reducible rfl); refine CW.skip ?_; refine thenN ?_; refine CW.seq ?_; refine CW.block ?_; refine CW.seq ?_; refine CW.region ?_; apply LW.v0; rfl; rfl; apply ValP.move; rfl; apply LW.v0; rfl; rfl; apply ValP.assign; rfl; apply LW.nil; refine thenN ?_; refine CW.seq ?_; refine CW.region ?_; apply LW.v0; rfl; rfl; apply ValP.move; rfl; apply LW.v0; rfl; rfl; apply ValP.indexAddrA; rfl; rfl; rfl; omega; apply LW.load; rfl; rfl; apply Known.at; apply FsAt.tail; apply FsAt.head; apply rd_nca; omega; apply LW.v0; rfl; rfl; apply ValP.assign; rfl; apply LW.nil; refine thenN ?_; refine CW.seq ?_; refine CW.region ?_; apply LW.v0; rfl; rfl; apply ValP.move; rfl; apply LW.nil; refine thenN ?_; refine CW.block ?_)
      refine CW.loop (fun k : Nat => ([(52, .int .i64 (k : Int)), (10, .int .u64 ((L.getD i 0 / 2 ^ (8 * k) : Nat) : Int)), (9, .int .i64 (i : Int)), (46, .int .i64 (i : Int)), (8, .pointer (some ⟨bd, 0, none⟩)), (3, .pointer (some ⟨bl, 0, none⟩)), (2, .pointer (some ⟨bi, 0, none⟩))],
        [(bd, .cells (uca (idF L (8 * i + k))) 79 (0, 0)), (bl, .cells (nca L) 102 (0, 0)), (bi, .cells (uca (List.replicate 32 0)) 79 (0, 0))]))
        (fun k => k ≤ 8) (fun k => 8 - k) 0 (Nat.zero_le _) ?_ (List.Sublist.refl _) ?_
      · dsimp only
        rw [Nat.mul_zero, Nat.pow_zero, Nat.div_one]
        exact ⟨rfl, rfl, rfl, rfl, rfl, rfl, rfl, trivial⟩
      intro k hk
      dsimp only at hk ⊢
      have hil := idF_len L (8 * i + k)
      have hxl : L.getD i 0 / 2 ^ (8 * k) < 18446744073709551616 := Nat.lt_of_le_of_lt (Nat.div_le_self _ _) (hLb i)
      rcases Nat.lt_or_ge k 8 with hk8 | hk8
      · have hstep := idF_succ L (8 * i + k)
        rw [show (8 * i + k) / 8 = i by omega, show (8 * i + k) % 8 = k by omega] at hstep
        have hdiv : L.getD i 0 / 2 ^ (8 * (k + 1)) = L.getD i 0 / 2 ^ (8 * k) / 256 := by
          rw [Nat.div_div_eq_div_mul, show 8 * (k + 1) = 8 * k + 8 by omega, Nat.pow_add]
        generalize L.getD i 0 / 2 ^ (8 * k) = x at *
        (refine CW.seq ?_; refine CW.region ?_; apply LW.v0; rfl; rfl; apply ValP.lssT; rfl; rfl; omega; apply LW.nil; refine thenN ?_; refine CW.seq ?_; apply CW.condT; rfl; (with_reducible rfl); refine CW.skip ?_; refine thenN ?_; refine CW.seq ?_; refine CW.block ?_; refine CW.seq ?_; refine CW.region ?_; apply LW.v0; rfl; rfl; apply ValP.move; rfl; apply LW.v0; rfl; rfl; apply ValP.assign; rfl; apply LW.nil; refine thenN ?_; refine CW.seq ?_; refine CW.region ?_; apply LW.v0; rfl; rfl; apply ValP.move; rfl; apply LW.v0; rfl; rfl; apply ValP.mulZK; rfl; rfl; decide; omega; apply LW.v0; rfl; rfl; apply ValP.move; rfl; apply LW.v0; rfl; rfl; apply ValP.addZ; rfl; rfl; omega; apply LW.v0; rfl; rfl; apply ValP.move; rfl; apply LW.v0; rfl; rfl; apply ValP.remNL; rfl; rfl; decide; omega; apply LW.v0; rfl; rfl; apply ValP.convB; rfl; apply LW.v0; rfl; rfl; apply ValP.indexAddrA; rfl; rfl; rfl; omega; apply LW.store; rfl; rfl; apply SetAt.head; apply wr_uca; omega; exact Nat.mod_lt _ (by decide); apply LW.nil; refine thenN ?_; refine CW.region ?_; apply LW.v0; rfl; rfl; apply ValP.move; rfl; apply LW.v0; rfl; rfl; apply ValP.quoNL; rfl; rfl; decide; omega; omega; apply LW.v0; rfl; rfl; apply ValP.assign; rfl; apply LW.nil; refine blkN ?_; refine thenN ?_; refine CW.region ?_; apply LW.v0; rfl; rfl; apply ValP.addZL; rfl; rfl; decide; omega; apply LW.v0; rfl; rfl; apply ValP.move; rfl; apply LW.nil)
        refine thenX ⟨rfl, k + 1, hk8, by omega, ?_, ?_⟩
        · rw [hdiv]
          exact ⟨rfl, rfl, rfl, rfl, rfl, rfl, rfl, trivial⟩
        · rw [← Nat.add_assoc, hstep, Nat.mod_mod]
          exact List.Sublist.refl _
      · obtain rfl : k = 8 := by omega
        (refine CW.seq ?_; refine CW.region ?_; apply LW.v0; rfl; rfl; apply ValP.lssF; rfl; rfl; omega; apply LW.nil; refine thenN ?_; refine CW.seq ?_; apply CW.condF; rfl; (with_reducible rfl); refine CW.exit ?_; refine thenE ?_; refine thenE ?_; refine blkE rfl ?_; refine blkN ?_; refine thenN ?_; refine CW.region ?_; apply LW.v0; rfl; rfl; apply ValP.addZL; rfl; rfl; decide; omega; apply LW.v0; rfl; rfl; apply ValP.move; rfl; apply LW.nil)
        refine thenX ⟨rfl, i + 1, hi4, by omega, ⟨rfl, rfl, rfl, rfl, trivial⟩, ?_⟩
        rw [show 8 * (i + 1) = 8 * i + 8 by omega]
        exact List.Sublist.refl _
    · obtain rfl : i = 4 := by omega
      have hil := idF_len L (8 * 4)
      have hz : (List.replicate 32 (0 : UInt8)).length = 32 := rfl
      (refine CW.seq ?_; refine CW.region ?_; apply LW.v0; rfl; rfl; apply ValP.lssF; rfl; rfl; omega; apply LW.nil; refine thenN ?_; refine CW.seq ?_; apply CW.condF; rfl; (with_reducible rfl); refine CW.exit ?_; refine thenE ?_; refine thenE ?_; refine blkE rfl ?_; refine thenN ?_; refine CW.seq ?_; refine CW.region ?_; apply LW.load; rfl; rfl; apply Known.at; apply FsAt.head; apply rd_ucaW; assumption; apply LW.store; rfl; rfl; apply SetAt.tail; apply SetAt.tail; apply SetAt.head; apply wr_ucaW; assumption; assumption; apply LW.nil; refine thenN ?_; refine CW.ret ?_)
      (apply finR; exact .inl rfl; rfl; rfl; rfl; apply ResL.cons; apply Res.cell; rfl; apply Known.at; apply FsAt.tail; apply FsAt.tail; apply FsAt.head; apply rd_ucaW; assumption; exact ResL.nil)
      rfl
end Go.Proofs.YtobkhnmglbfheaaDoor.SK

/-
  A SMALL LOGIC OVER THE KIT's WALK, PART MN: structs of plain cells, compared with themselves.
  Conditions: none; over any program.
-/
namespace Go.Proofs.YtobkhnmglbfheaaDoor.SL
set_option linter.unusedVariables false
set_option linter.unusedSimpArgs false
open Go Go.RowKit
section
variable {P : Program} {e : Env} {T ty : TypeId} {x y : Operand} {xs : Array Value}
end
end Go.Proofs.YtobkhnmglbfheaaDoor.SL

/-
  A SMALL LOGIC OVER THE KIT's WALK, PART MO: a region that draws its order, and whose operations and callees turn nothing: one walk.
  Conditions: none; over any program.
-/
namespace Go.Proofs.YtobkhnmglbfheaaDoor.SL
set_option linter.unusedVariables false
set_option linter.unusedSimpArgs false
open Go Go.RowKit
/-- From all that is known here, the quiet operations come to Q. -/
def QW (C : Cu) (ops : Array Oper) (Q : Post) (l : List Oper) (e : Env) (fs : Fs) : Prop :=
  ∀ a, EnvOk C.N C.ds e a → wpQuietIn (FR C.r) 0 C.P ops (fun w => St C.w0 C.S fs w) (fun a' => ∀ w', St C.w0 C.S fs w' → down C Q .normal a' w') l a
section
variable {C : Cu} {ops : Array Oper} {Q : Post} {rest : List Oper} {e : Env} {fs : Fs} {d : Nat} {op : Op} {t : TypeId} {pos : String} {af : Array Edge} {g : Option (Nat × Bool)}
theorem QW.nil (h : Q .normal C.ds e fs) : QW C ops Q [] e fs := fun a ha w' hw => ⟨C.ds, e, fs, h, ⟨ha, hw⟩⟩
theorem QW.vk {v : Value} {us : Fs} (hd : Nat.blt d C.N = true) (hg : WantT ops e g) (h : ValP C.P e us op v) (hus : ∀ p ∈ us, Known C fs p) (k : QW C ops Q rest ((d, v) :: e) fs) : QW C ops Q (⟨some d, op, t, pos, af, g⟩ :: rest) e fs := fun a ha =>
  ⟨fun _ _ _ _ => trivial, by
    rw [if_pos (hg.wanted ha)]
    refine ⟨v, fun w hw => ?_, k _ (ha.put hd)⟩
    unfold Oper.quietAtIn
    rw [h a.eval w ha.Ev (fun p hp => (hus p hp).get hw)]
    exact ⟨rfl, rfl⟩⟩
theorem QW.v0 {v : Value} (hd : Nat.blt d C.N = true) (hg : WantT ops e g) (h : ValP C.P e [] op v) (k : QW C ops Q rest ((d, v) :: e) fs) : QW C ops Q (⟨some d, op, t, pos, af, g⟩ :: rest) e fs :=
  QW.vk hd hg h (by simp) k
theorem QW.load {T : TypeId} {x : Operand} {b off : Nat} {o : Obj} {v : Value} (hd : Nat.blt d C.N = true) (hg : WantT ops e g) (hx : e.ev x = some (.pointer (some ⟨b, off, none⟩))) (hp : Known C fs (b, o)) (h : Rd C.P T o off v) (k : QW C ops Q rest ((d, v) :: e) fs) :
    QW C ops Q (⟨some d, .load T x, t, pos, af, g⟩ :: rest) e fs := QW.vk hd hg (.load hx h) (by simpa using hp) k
theorem QW.skip {j s : Nat} {gb b : Bool} (hd : Nat.blt d C.N = true) (hs : (ops[j]?).bind (·.dst) = some s) (he : e.get s = some (.bool b)) (hb : b = !gb) (k : QW C ops Q rest ((d, undef) :: e) fs) : QW C ops Q (⟨some d, op, t, pos, af, some (j, gb)⟩ :: rest) e fs := fun a ha =>
  ⟨fun _ _ _ _ => trivial, by
    have hy : yielded ops a.tmps j = some (!gb) := by simp [yielded, hs, ha.get s _ he, hb]
    rw [if_neg (by cases gb <;> simp [Region.wanted, hy])]
    exact k _ (ha.put hd)⟩
theorem QW.callE {fo : Operand} {args : Array Operand} {tys : Array TypeId} {f : FuncId} {vs : List Value} {v : Value} (hd : Nat.blt d C.N = true) (hg : WantT ops e g) (hf : e.ev fo = some (.func (.func f) #[] #[])) (hF : FnI C.P f) (ha : ArgsOk e args.toList vs)
    (hc : ∀ w, St C.w0 C.S fs w → Calls C.P f vs.toArray w (Ret w v)) (k : QW C ops Q rest ((d, v) :: e) fs) : QW C ops Q (⟨some d, .call { callee := .value fo, args := args, argTypes := tys }, t, pos, af, g⟩ :: rest) e fs := fun a hae =>
  ⟨fun _ _ _ _ => trivial, by
    rw [if_pos (hg.wanted hae)]
    refine ⟨v, fun w hw => ?_, k _ (hae.put hd)⟩
    unfold Oper.quietAtIn
    have hrun := CallP.fn (P := C.P) (tys := tys) hf ha a.eval w hae.Ev (some d) t pos af g
    rw [hrun, arr_id]
    refine ⟨rfl, fun h => (by cases h), CallsIn.mono (calls_FR (hc w hw)) fun x w' hx => ?_⟩
    exact ⟨hx.1, by have := hw.call (gs := []) hx.2 (by simp) .nil; simpa using this⟩⟩
end
end Go.Proofs.YtobkhnmglbfheaaDoor.SL

/-
  A SMALL LOGIC OVER THE KIT's WALK, PART MP: parts of arrays.
  Conditions: none; over any program.
-/
namespace Go.Proofs.YtobkhnmglbfheaaDoor.SL
set_option linter.unusedVariables false
set_option linter.unusedSimpArgs false
open Go Go.RowKit
/-- a[i:j] of an array. -/
theorem ValP.cutArrMid {P : Program} {e : Env} {T E : TypeId} {x lo hi : Operand} {b off n i j : Nat} {il ik : IntKind} {z : Value} (hU : UnI P T (.array n E)) (hI : InfoI P E 1 z) (hx : e.ev x = some (.pointer (some ⟨b, off, none⟩))) (hl : e.ev lo = some (.int il (i : Int))) (hh : e.ev hi = some (.int ik (j : Int))) (hij : i ≤ j) (hj : j ≤ n) (hlt : i < n) :
    ValP P e [] (.slice T x (some lo) (some hi) none) (.slice (some ⟨b, off + i, none⟩) (j - i) (n - i)) := fun ρ w hρ _ d t pos af g => by
  have hu := hU.un
  have h1 : (Instr.sliceAt T (.pointer (some ⟨b, off, none⟩)) (some (.int il (i : Int))) (some (.int ik (j : Int))) none).run P w = .ok (.slice (some ⟨b, off + i, none⟩) (j - i) (n - i)) w := by
    have hal : P.arrayLen T = n := by rw [Program.arrayLen, hu]
    have hel : P.elem T = E := by rw [Program.elem, hu]
    have h2 := run_sliceAt_array_lh (P := P) w T ⟨b, off, none⟩ (by rw [hal, hel]; exact hu) il ik (i : Int) (j : Int) (by omega) (by omega) (by rw [hal]; omega)
    rw [hel, run_size, hal] at h2
    rw [h2]
    simp only [Result.andThen_ok, slicedAt, Int.toNat_natCast]
    rw [if_neg (by omega)]
    simp [Addr.add]
  simp [execOp, hρ x _ hx, hρ lo _ hl, hρ hi _ hh, h1]
end Go.Proofs.YtobkhnmglbfheaaDoor.SL

/-
  Digests as words.
  Conditions: none.
-/
namespace Go.Proofs.YtobkhnmglbfheaaDoor
open Go Go.RowKit SL
set_option maxRecDepth 8000
set_option maxHeartbeats 4000000
set_option linter.unusedSimpArgs false
set_option linter.unusedVariables false
attribute [local irreducible] SL.CW SL.LW SL.DW Calls SL.Ret SL.RetG SL.beginQ SL.roundQ SL.rangeQ SL.inQ SL.RW SL.AnyW SL.thenQ SL.thenC SL.thenW SL.blkQ SL.finQ SL.ValP SL.NewP SL.SetP SL.CallP SL.Rd SL.Wr SL.Known
attribute [local irreducible] SK.padB SK.sumB
theorem sum_len (b : List UInt8) : (SK.sumB b).length = 32 := by unfold SK.sumB; rw [SK.idF_len]
theorem bev_app_v (x y : List UInt8) : bev (x ++ y) = bev x * 2 ^ (8 * y.length) + bev y := by
  have key : ∀ (y : List UInt8) (n : Nat), y.foldl (fun n u => 256 * n + u.toNat) n = n * 2 ^ (8 * y.length) + bev y := by
    intro y
    induction y with
    | nil => intro n; simp [bev]
    | cons u y ih =>
      intro n
      unfold bev
      rw [List.foldl_cons, List.foldl_cons, ih, ih, List.length_cons, show 8 * (y.length + 1) = 8 + 8 * y.length by omega, Nat.pow_add, Nat.mul_zero, Nat.zero_add, Nat.add_mul, Nat.mul_comm 256 n, Nat.mul_assoc, Nat.add_assoc]
  show (x ++ y).foldl (fun n u => 256 * n + u.toNat) 0 = _
  rw [List.foldl_append, key]
  rfl
/-- The word of a digest. -/
def digW (b : List UInt8) : Nat := bev (SK.sumB b)
attribute [local irreducible] digW
theorem Digest_calls (b : List UInt8) (v : Value) (w : World) (hv : RowAt w 1 v b.length (ucs b)) (hb : b.length ≤ 100000) (hT : SK.TurnAt w) (hN : SK.NumAt w) : Calls Tryd.prog 25 #[v] w (Ret w (wv (digW b))) := by
  have hlen := sum_len b
  have hdw : digW b = bev (SK.sumB b) := by unfold digW; rfl
  have hSum0 : ∀ w' {fs}, St w [] fs w' → Calls Tryd.prog 39 #[v] w' (Ret w' (.agg (uca (SK.sumB b)))) := fun w' fs hst => SK.Sum_calls b v w' (hv.st hst) hb (hT.st hst) (hN.st hst)
  obtain ⟨D, hD⟩ : ∃ D, SK.sumB b = D := ⟨_, rfl⟩
  have hSum := @hSum0
  rw [hD] at hSum hlen hdw
  have hRead : ∀ (g : Nat) (w' : World) {fs : Fs}, St w [] fs w' → w'.heap[g]? = some (.cells (uca D) 79 (0, 0)) → Calls Tryd.prog 40 #[.slice (some ⟨g, 0, none⟩) 32 32] w' (Ret w' (.tuple #[wv (digW b), .int .i64 0])) := fun g w' fs _ h => by
    have h2 := own_row (off := 0) (n := 32) (c := 32) h (by omega) (Nat.le_refl _) (by simp only [maxLen]; omega)
    rw [List.drop_zero, List.take_of_length_le (by omega)] at h2
    rw [hdw]
    exact Read_calls _ D w' (by rw [hlen]; exact h2) (by omega)
  refine enter (args := [_]) _ [] [] Tryd.func25 rfl Tryd.ntmps25 rfl (by simp) .nil ?_
  (refine CW.seq ?_; refine CW.region ?_; apply LW.allocW; rfl; intro _; apply LW.nil; refine thenN ?_; refine CW.seq ?_; refine CW.region ?_; apply LW.v0; rfl; rfl; apply ValP.move; rfl; apply LW.callE; rfl; rfl; infer_instance; apply ArgsOk.cons; rfl; exact ArgsOk.nil; intro w _; rename_i hst; exact hSum w hst; apply LW.allocA; rfl; intro _; apply LW.store; rfl; rfl; apply SetAt.head; apply wr_ucaO; rfl; assumption; apply LW.nil; refine thenN ?_; refine CW.seq ?_; refine CW.region ?_; apply LW.v0; rfl; rfl; apply ValP.cutArrAll; infer_instance; infer_instance; rfl; apply LW.callE; rfl; rfl; infer_instance; apply ArgsOk.cons; rfl; exact ArgsOk.nil; intro w _; rename_i hst; (exact hRead _ w hst ((hst.own (_, .cells (uca D) 79 (0, 0)) (by (repeat (first | exact List.Mem.head _ | apply List.Mem.tail)))).2)); apply LW.v0; rfl; rfl; apply ValP.move; rfl; apply LW.v0; rfl; rfl; apply ValP.extractN; rfl; rfl; apply LW.v0; rfl; rfl; apply ValP.extractN; rfl; rfl; apply LW.allocW; rfl; intro _; apply LW.store; rfl; rfl; apply SetAt.head; apply Wr.whole; rfl; rfl; rfl; apply LW.v0; rfl; rfl; apply ValP.assign; rfl; apply LW.nil; refine thenN ?_; refine CW.seq ?_; refine CW.region ?_; apply LW.load; rfl; rfl; apply Known.at; apply FsAt.head; exact Rd.whole rfl; apply LW.store; rfl; rfl; apply SetAt.tail; apply SetAt.tail; apply SetAt.head; apply Wr.whole; rfl; rfl; rfl; apply LW.nil; refine thenN ?_; refine CW.ret ?_)
  (apply finR; exact .inl rfl; rfl; rfl; rfl; apply ResL.cons; apply Res.cell; rfl; apply Known.at; apply FsAt.tail; apply FsAt.tail; apply FsAt.head; exact Rd.whole rfl; exact ResL.nil)
  rfl
theorem take8 {D : List UInt8} (h : D.length = 32) : bev D = bev ((D.drop 24).take 8) + 18446744073709551616 * bev ((D.drop 16).take 8) + 340282366920938463463374607431768211456 * bev ((D.drop 8).take 8) + 6277101735386680763835789423207666416102355444464034512896 * bev ((D.drop 0).take 8) := by
  have e : D = ((D.drop 0).take 8 ++ (D.drop 8).take 8) ++ ((D.drop 16).take 8 ++ (D.drop 24).take 8) := by
    match D, h with
    | [a0, a1, a2, a3, a4, a5, a6, a7, a8, a9, b0, b1, b2, b3, b4, b5, b6, b7, b8, b9, c0, c1, c2, c3, c4, c5, c6, c7, c8, c9, d0, d1], _ => rfl
  have l1 : ((D.drop 8).take 8).length = 8 := by simp; omega
  have l2 : ((D.drop 16).take 8).length = 8 := by simp; omega
  have l3 : ((D.drop 24).take 8).length = 8 := by simp; omega
  conv => lhs; rw [e]
  rw [bev_app_v, bev_app_v, bev_app_v, List.length_append, l1, l2, l3]
  omega
theorem adr_of (l : List UInt8) (h : l.length = 8) : adr l = bev l := by rw [adr, List.take_of_length_le (by omega)]
/-- The words of the first m parts. -/
def dgC (D : List UInt8) : Nat → Nat → Nat → Nat → Nat → List Value
  | m, a, b, c, d => [.int .u64 (if 4 ≤ m then d else 0 : Nat), .int .u64 (if 3 ≤ m then c else 0 : Nat), .int .u64 (if 2 ≤ m then b else 0 : Nat), .int .u64 (if 1 ≤ m then a else 0 : Nat)]
theorem rDigest_calls (b : List UInt8) (v : Value) (w : World) (hv : RowAt w 1 v b.length (ucs b)) (hb : b.length ≤ 100000) : Calls Tryd.prog 31 #[v] w (Ret w (wv (digW b))) := by
  have hlen := sum_len b
  have hdw : digW b = bev (SK.sumB b) := by unfold digW; rfl
  have hSum0 : ∀ w' {fs}, St w [] fs w' → Calls Tryd.prog 44 #[v] w' (Ret w' (.agg (uca (SK.sumB b)))) := fun w' fs hst => SK.rSum_calls b v w' (hv.st hst) hb
  obtain ⟨D, hD⟩ : ∃ D, SK.sumB b = D := ⟨_, rfl⟩
  have hSum := @hSum0
  rw [hD] at hSum hlen hdw
  have hA : ∀ (k : Nat) (g : Nat) (w' : World), k + 8 ≤ 32 → w'.heap[g]? = some (.cells (uca D) 79 (0, 0)) → Calls Tryd.prog 19 #[.slice (some ⟨g, k, none⟩) 8 (32 - k)] w' (Ret w' (.int .u64 (bev ((D.drop k).take 8) : Int))) := fun k g w' hk h => by
    have h2 := own_row (off := k) (n := 8) (c := 32 - k) h (by omega) (by omega) (by simp only [maxLen]; omega)
    have hl : ((D.drop k).take 8).length = 8 := by simp; omega
    rw [← adr_of _ hl]
    exact rARead_calls _ _ w' (by rw [hl]; exact h2) (by omega)
  rw [hdw]
  have h8 := take8 hlen
  have hb : ∀ k, bev ((D.drop k).take 8) < 18446744073709551616 := fun k => Nat.lt_of_lt_of_le (bev_lt _) (Nat.pow_le_pow_right (by decide) (by simp; omega) : _ ≤ 2 ^ 64)
  have hwc := wc_val (hb 24) (hb 16) (hb 8) (hb 0) h8
  rw [wv, ← hwc]
  clear h8 hwc hdw
  have hA1 := hA
  clear hA
  refine enter (args := [_]) _ [] [] Tryd.func31 rfl Tryd.ntmps31 rfl (by simp) .nil ?_
  (refine CW.seq ?_; refine CW.region ?_; apply LW.allocW; rfl; intro _; apply LW.nil; refine thenN ?_; refine CW.seq ?_; refine CW.region ?_; apply LW.v0; rfl; rfl; apply ValP.move; rfl; apply LW.callE; rfl; rfl; infer_instance; apply ArgsOk.cons; rfl; exact ArgsOk.nil; intro w _; rename_i hst; exact hSum w hst; apply LW.allocA; rfl; intro _; apply LW.store; rfl; rfl; apply SetAt.head; apply wr_ucaO; rfl; assumption; apply LW.nil; refine thenN ?_; refine CW.seq ?_; refine CW.region ?_; apply LW.allocW; rfl; intro _; apply LW.nil; refine thenN ?_; refine CW.seq ?_; refine CW.seq ?_; refine CW.region ?_; apply LW.v0; rfl; rfl; apply ValP.assign; rfl; apply LW.nil; refine thenN ?_; refine CW.block ?_)
  rename_i bR bD bW
  refine CW.loop (fun m : Nat => ([(5, .int .i64 (m : Int)), (4, .pointer (some ⟨bW, 0, none⟩)), (3, .pointer (some ⟨bD, 0, none⟩)), (2, .pointer (some ⟨bR, 0, none⟩))], [(bW, .cells (dgC D m (bev ((D.drop 0).take 8)) (bev ((D.drop 8).take 8)) (bev ((D.drop 16).take 8)) (bev ((D.drop 24).take 8))).toArray 27 (0, 0)), (bD, .cells (uca D) 79 (0, 0)), (bR, .cells (wc 0) 27 (0, 0))]))
    (fun m => m ≤ 4) (fun m => 4 - m) 0 (by decide) ⟨rfl, rfl, rfl, rfl, trivial⟩ (List.Sublist.refl _) ?_
  rintro m hm
  dsimp only at hm ⊢
  rcases Nat.lt_or_ge m 4 with hlt | hge
  · have hA := fun w' => hA1 (8 * m) bD w' (by omega)
    have e8 : 8 * m + 8 - 8 * m = 8 := by omega
    have hW : Wr Tryd.prog 23 (.cells (dgC D m (bev ((D.drop 0).take 8)) (bev ((D.drop 8).take 8)) (bev ((D.drop 16).take 8)) (bev ((D.drop 24).take 8))).toArray 27 (0, 0)) (0 + (3 - m) * 1) (.int .u64 (bev ((D.drop (8 * m)).take 8) : Int)) (.cells (dgC D (m + 1) (bev ((D.drop 0).take 8)) (bev ((D.drop 8).take 8)) (bev ((D.drop 16).take 8)) (bev ((D.drop 24).take 8))).toArray 27 (0, 0)) := by
      clear hA hA1 e8
      match m, hlt with
      | 0, _ => exact Wr.cells (n := 1) rfl rfl (by show 0 + (3 - 0) * 1 + 1 ≤ 4; decide) rfl
      | 1, _ => exact Wr.cells (n := 1) rfl rfl (by show 0 + (3 - 1) * 1 + 1 ≤ 4; decide) rfl
      | 2, _ => exact Wr.cells (n := 1) rfl rfl (by show 0 + (3 - 2) * 1 + 1 ≤ 4; decide) rfl
      | 3, _ => exact Wr.cells (n := 1) rfl rfl (by show 0 + (3 - 3) * 1 + 1 ≤ 4; decide) rfl
    (refine CW.seq ?_; refine CW.seq ?_; refine CW.region ?_; apply LW.v0; rfl; rfl; apply ValP.move; rfl; apply LW.v0; rfl; rfl; apply ValP.lssT; rfl; rfl; omega; apply LW.nil; refine thenN ?_; apply CW.condT; rfl; (with_reducible rfl); refine CW.skip ?_; refine thenN ?_; refine CW.seq ?_; refine CW.block ?_; refine CW.region ?_; apply LW.v0; rfl; rfl; apply ValP.move; rfl; apply LW.v0; rfl; rfl; apply ValP.subZK; rfl; rfl; decide; omega; omega; apply LW.v0; rfl; rfl; apply ValP.move; rfl; apply LW.v0; rfl; rfl; apply ValP.mulZK; rfl; rfl; decide; omega; apply LW.v0; rfl; rfl; apply ValP.move; rfl; apply LW.v0; rfl; rfl; apply ValP.mulZK; rfl; rfl; decide; omega; apply LW.v0; rfl; rfl; apply ValP.addZL; rfl; rfl; decide; omega; apply LW.v0; rfl; rfl; apply ValP.cutArrMid; infer_instance; infer_instance; rfl; rfl; rfl; omega; omega; omega)
    rw [e8, Nat.zero_add]
    (apply LW.callE; rfl; rfl; infer_instance; apply ArgsOk.cons; rfl; exact ArgsOk.nil; intro w _; rename_i hst; (exact hA w ((hst.own (_, .cells (uca D) 79 (0, 0)) (by (repeat (first | exact List.Mem.head _ | apply List.Mem.tail)))).2)); apply LW.v0; rfl; rfl; apply ValP.indexAddrA; rfl; rfl; rfl; omega; apply LW.store; rfl; rfl; apply SetAt.head; exact hW; apply LW.nil; refine blkN ?_; refine thenN ?_; refine CW.region ?_; apply LW.v0; rfl; rfl; apply ValP.move; rfl; apply LW.v0; rfl; rfl; apply ValP.addZL; rfl; rfl; decide; omega; apply LW.v0; rfl; rfl; apply ValP.assign; rfl; apply LW.nil)
    apply thenX
    exact ⟨rfl, m + 1, hlt, by omega, ⟨rfl, rfl, rfl, rfl, trivial⟩, List.Sublist.refl _⟩
  · obtain rfl : m = 4 := by omega
    (refine CW.seq ?_; refine CW.seq ?_; refine CW.region ?_; apply LW.v0; rfl; rfl; apply ValP.move; rfl; apply LW.v0; rfl; rfl; apply ValP.lssF; rfl; rfl; omega; apply LW.nil; refine thenN ?_; apply CW.condF; rfl; (with_reducible rfl); refine CW.exit ?_; refine thenE ?_; refine thenE ?_; refine blkE rfl ?_; refine thenN ?_; refine CW.seq ?_; refine CW.region ?_; apply LW.load; rfl; rfl; apply Known.at; apply FsAt.head; exact Rd.whole rfl; apply LW.store; rfl; rfl; apply SetAt.tail; apply SetAt.tail; apply SetAt.head; apply Wr.whole; rfl; rfl; rfl; apply LW.nil; refine thenN ?_; refine CW.ret ?_)
    (apply finR; exact .inl rfl; rfl; rfl; rfl; apply ResL.cons; apply Res.cell; rfl; apply Known.at; apply FsAt.tail; apply FsAt.tail; apply FsAt.head; exact Rd.whole rfl; exact ResL.nil)
    rfl
end Go.Proofs.YtobkhnmglbfheaaDoor

/-
  The hash of an operation.
  Conditions: none.
-/
namespace Go.Proofs.YtobkhnmglbfheaaDoor
open Go Go.RowKit SL
set_option maxRecDepth 8000
set_option maxHeartbeats 4000000
set_option linter.unusedSimpArgs false
set_option linter.unusedVariables false
attribute [local irreducible] SL.CW SL.LW SL.DW Calls SL.Ret SL.RetG SL.beginQ SL.roundQ SL.rangeQ SL.inQ SL.RW SL.AnyW SL.thenQ SL.thenC SL.thenW SL.blkQ SL.finQ SL.ValP SL.NewP SL.SetP SL.CallP SL.Rd SL.Wr SL.Known
attribute [local irreducible] digW
structure JX where
  k : Nat
  v : Value
  seg : Fs
def joinB (b : List UInt8) (l : List Nat) : List UInt8 := b ++ l.flatMap fun n => beb 32 n
theorem joinB_snoc (b : List UInt8) (l : List Nat) (k : Nat) (h : k < l.length) : joinB b (l.take (k + 1)) = joinB b (l.take k) ++ beb 32 l[k] := by
  unfold joinB
  rw [List.take_succ_eq_append_getElem h, List.flatMap_append, List.append_assoc]
  simp
theorem joinB_len (b : List UInt8) (l : List Nat) : (joinB b l).length = b.length + 32 * l.length := by
  unfold joinB
  induction l with
  | nil => simp
  | cons a l ih => simp only [List.flatMap_cons, List.length_append, beb_len, List.length_cons] at ih ⊢; omega
theorem joined_calls (b : List UInt8) (l : List Nat) (v lv : Value) (w : World) (hv : RowAt w 1 v b.length (ucs b)) (hl : RowAt w 1 lv l.length (ncs l)) (hb : b.length ≤ 90000) (hll : l.length ≤ 10) (hlt : ∀ x ∈ l, x < 18446744073709551616) :
    Calls Tryd.prog 26 #[v, lv] w (RetG w [] fun v' gs => IsRow 5 1 v' (joinB b l).length (ucs (joinB b l)) gs) := by
  obtain ⟨p, c, rfl, hc, hm⟩ := hv.form
  obtain ⟨q, d, rfl, hd, hmd⟩ := hl.form
  simp only [maxLen] at hm hmd
  refine enter (args := [_, _]) _ [] [] Tryd.func26 rfl Tryd.ntmps26 rfl (by simp) .nil ?_
  (refine CW.seq ?_; refine CW.region ?_; apply LW.v0; rfl; rfl; apply ValP.assign; rfl; apply LW.nil; refine thenN ?_; refine CW.seq ?_; refine CW.region ?_; apply LW.v0; rfl; rfl; apply ValP.move; rfl)
  refine LW.callR rfl rfl inferInstance (by (apply ArgsOk.cons; rfl; exact ArgsOk.nil)) (fun w hst => Clone_calls b _ w (hv.st hst) (by omega)) ?_
  intro bv gs hrow
  (apply LW.v0; rfl; rfl; apply ValP.assign; rfl; apply LW.nil; refine thenN ?_; refine CW.seq ?_; refine CW.seq ?_; refine CW.region ?_; apply LW.v0; rfl; rfl; apply ValP.move; rfl; apply LW.v0; rfl; rfl; apply ValP.lenR; rfl; infer_instance; rfl; apply LW.v0; rfl; rfl; apply ValP.move; rfl; apply LW.nil; refine thenN ?_; refine CW.block ?_)
  refine CW.loop (fun x : JX => ([(11, .int .i64 (x.k : Int)), (10, .int .i64 (l.length : Int)), (9, .slice q l.length d), (0, x.v)], x.seg ++ []))
    (fun x => x.k ≤ l.length ∧ IsRow 5 1 x.v (joinB b (l.take x.k)).length (ucs (joinB b (l.take x.k))) x.seg) (fun x => l.length - x.k) ⟨0, bv, gs⟩
    ⟨Nat.zero_le _, by simpa [joinB] using hrow⟩ ⟨rfl, rfl, rfl, rfl, trivial⟩ (List.Sublist.refl _) ?_
  rintro ⟨k, v, seg⟩ ⟨hk, hR⟩
  dsimp only at hk hR ⊢
  have hjl := joinB_len b (l.take k)
  rw [List.length_take] at hjl
  obtain ⟨pv, cv, rfl⟩ := hR.form
  rcases Nat.lt_or_ge k l.length with hlt1 | hge
  · obtain ⟨bt, offt, ct', cst, Et, frt, heqt, hbt', hxt⟩ := hl.pos (by omega)
    cases heqt
    have hrdt : Rd Tryd.prog 23 (.cells cst Et frt) (offt + k * 1) (.int .u64 ((l[k] : Nat) : Int)) := Rd.elem1 hxt (ncs_one l) (List.getElem?_eq_getElem hlt1) rfl
    have hx := hlt _ (List.getElem_mem hlt1)
    have hsn := joinB_snoc b l k hlt1
    have h64 : (18446744073709551616 : Nat) < M256 := by decide
    obtain ⟨n, hn⟩ : ∃ n, l[k] = n := ⟨_, rfl⟩
    rw [hn] at hrdt hx hsn
    have hOf := Of_calls n hx
    (refine CW.seq ?_; refine CW.region ?_; apply LW.v0; rfl; rfl; apply ValP.lssT; rfl; rfl; omega; apply LW.nil; refine thenN ?_; refine CW.seq ?_; apply CW.condT; rfl; (with_reducible rfl); refine CW.skip ?_; refine thenN ?_; refine CW.seq ?_; refine CW.block ?_; refine CW.seq ?_; refine CW.region ?_; apply LW.v0; rfl; rfl; apply ValP.indexAddrS; rfl; rfl; rfl; omega; apply LW.load; rfl; rfl; exact Known.ext (by assumption) (by simp); assumption; apply LW.v0; rfl; rfl; apply ValP.assign; rfl; apply LW.nil; refine thenN ?_; refine CW.region ?_; apply LW.v0; rfl; rfl; apply ValP.move; rfl; apply LW.v0; rfl; rfl; apply ValP.move; rfl; apply LW.callE; rfl; rfl; infer_instance; apply ArgsOk.cons; rfl; exact ArgsOk.nil; intro w _; exact hOf w)
    refine LW.callR rfl rfl inferInstance (by (apply ArgsOk.cons; rfl; exact ArgsOk.nil)) (fun w hst => Bytes_calls n (by omega) w) ?_
    intro nv gs2 hrow2
    refine LW.appendAny (n := (joinB b (l.take k)).length) (m := 32) (news := ucs (beb 32 n)) rfl rfl inferInstance inferInstance inferInstance rfl rfl rfl (by (apply AtSeg.app; exact AtSeg.head)) hR (fun w hs => hrow2.us (st_us hs (by (exact List.sublist_append_left _ _))) (List.Sublist.refl _)) (ucs_cells _) (by simp only [maxLen]; omega) (by omega) ?_
    intro vy segy hrowy
    refine ⟨_, (by (apply AtSeg.app; exact AtSeg.head)), ?_⟩
    rw [← ucs_app, ← hsn] at hrowy
    (apply LW.v0; rfl; rfl; apply ValP.assign; rfl; apply LW.nil; refine blkN ?_; refine thenN ?_; refine CW.region ?_; apply LW.v0; rfl; rfl; apply ValP.addZL; rfl; rfl; decide; omega; apply LW.v0; rfl; rfl; apply ValP.move; rfl; apply LW.nil)
    apply thenX
    refine ⟨rfl, ⟨k + 1, vy, segy⟩, ⟨hlt1, ?_⟩, by show l.length - (k + 1) < l.length - k; omega, ⟨rfl, rfl, rfl, rfl, trivial⟩, ?_⟩
    · have : (joinB b (l.take (k + 1))).length = (joinB b (l.take k)).length + 32 := by rw [hsn, List.length_append, beb_len]
      dsimp only
      rw [this]
      exact hrowy
    · dsimp only
      exact List.sublist_append_of_sublist_right (List.Sublist.refl _)
  · obtain rfl : k = l.length := by omega
    rw [List.take_length] at hR ⊢
    (refine CW.seq ?_; refine CW.region ?_; apply LW.v0; rfl; rfl; apply ValP.lssF; rfl; rfl; omega; apply LW.nil; refine thenN ?_; refine CW.seq ?_; apply CW.condF; rfl; (with_reducible rfl); refine CW.exit ?_; refine thenE ?_; refine thenE ?_; refine blkE rfl ?_; refine thenN ?_; refine CW.seq ?_; refine CW.region ?_; apply LW.v0; rfl; rfl; apply ValP.move; rfl; apply LW.v0; rfl; rfl; apply ValP.assign; rfl; apply LW.nil; refine thenN ?_; refine CW.ret ?_)
    refine fin (vs := [_]) seg (.inl rfl) rfl rfl (by (apply ResL.cons; exact Res.tmp rfl; exact ResL.nil)) (List.sublist_append_left _ _) hR
theorem cutSig_at {w : World} {u : OpV} (h : OpAt w u) : OpAt w { u with gv := .slice none 0 0, gb := [] } := ⟨⟨h.num.sd, h.num.no, h.num.vg, h.num.cg, h.num.pg, h.num.mf, h.num.mp, h.num.py, h.num.pv, h.num.pp⟩, h.i, h.c, h.d, RowAt.nil⟩
theorem cutSig_ok {u : OpV} (h : okU u) : okU { u with gv := .slice none 0 0, gb := [] } := by
  unfold okU at h ⊢
  obtain ⟨h1, h2, ⟨h3, h4, h5, h6⟩, h7, h8⟩ := h
  exact ⟨h1, h2, ⟨h3, h4, h5, Nat.zero_le _⟩, h7, h8⟩
/-- An operation without what signs it. -/
abbrev noSig (u : OpV) : OpV := { u with gv := .slice none 0 0, gb := [] }
def hashU (u : OpV) (chain : Nat) : Nat := digW (joinB (encB (noSig u)) [1, chain])
theorem enc_len_le {u : OpV} (h : okU u) : (encB u).length ≤ 5000 := by
  have h2 := right_small (opL_chk h)
  have h3 := beh_len h2 (opL u).length
  have h4 := layF_len (opL u)
  rw [atF, opL_len] at h4
  rw [opL_len] at h3
  unfold encB
  omega
theorem Hash_u_calls (u : OpV) (chain : Nat) (w : World) (hu : OpAt w u) (hc : chain < 18446744073709551616) (hT : SK.TurnAt w) (hN : SK.NumAt w) : Calls Tryd.prog 12 #[.agg (opa u), .int .u64 (chain : Int)] w (Ret w (.tuple #[wv (if okU u then hashU u chain else 0), .int .i64 (if okU u then 0 else 280)])) := by
  have hslu := hu.sl
  have hCk0 : ∀ w' {fs}, St w [] fs w' → Calls Tryd.prog 8 #[.agg (opa u)] w' (Ret w' (.int .i64 (if okU u then 0 else 280))) := fun w' fs hst => Check_u_calls u w' (hu.st hst)
  by_cases ho : okU u
  · have hCk := hCk0
    rw [if_pos ho] at hCk
    rw [if_pos ho, if_pos ho]
    have ho2 := cutSig_ok ho
    have hl := enc_len_le ho2
    refine enter (args := [_, _]) _ [] [] Tryd.func12 rfl Tryd.ntmps12 rfl (by simp) .nil ?_
    (refine CW.seq ?_; refine CW.region ?_; apply LW.boxA; rfl; rfl; intro _; apply LW.allocW; rfl; intro _; apply LW.v0; rfl; rfl; apply ValP.assign; rfl; apply LW.nil; refine thenN ?_; refine CW.seq ?_; refine CW.seq ?_; refine CW.region ?_; apply LW.load; rfl; rfl; apply Known.at; apply FsAt.tail; apply FsAt.head; exact op_rdW; apply LW.callE; rfl; rfl; infer_instance; apply ArgsOk.cons; rfl; exact ArgsOk.nil; intro w _; exact hCk w (by assumption); apply LW.v0; rfl; rfl; apply ValP.assign; rfl; apply LW.nil; refine thenN ?_; refine CW.seq ?_; refine CW.region ?_; apply LW.v0; rfl; rfl; apply ValP.move; rfl; apply LW.v0; rfl; rfl; apply ValP.neF; rfl; rfl; omega; apply LW.nil; refine thenN ?_; apply CW.condF; rfl; (with_reducible rfl); refine CW.skip ?_; refine thenN ?_; refine CW.seq ?_; refine CW.region ?_; apply LW.v0; rfl; rfl; apply ValP.fieldAddr; rfl; rfl; apply LW.store; rfl; rfl; apply SetAt.tail; apply SetAt.head; exact op_wr16; apply LW.nil; refine thenN ?_; refine CW.seq ?_; refine CW.region ?_; apply LW.load; rfl; rfl; apply Known.at; apply FsAt.tail; apply FsAt.head; exact op_rdW)
    refine LW.callR rfl rfl inferInstance (by (apply ArgsOk.cons; rfl; exact ArgsOk.nil)) (fun w hst => encode_calls (noSig u) w (cutSig_at (hu.st hst)) ho2) ?_
    rintro v5 gs5 ⟨bv, rfl, hrow⟩
    have hhash : hashU u chain = digW (joinB (encB (noSig u)) [1, chain]) := rfl
    obtain ⟨X, hX⟩ : ∃ X, encB (noSig u) = X := ⟨_, rfl⟩
    rw [hX] at hrow hl hhash
    rw [hhash]
    (apply LW.v0; rfl; rfl; apply ValP.move; rfl; apply LW.v0; rfl; rfl; apply ValP.extractN; rfl; rfl; apply LW.v0; rfl; rfl; apply ValP.extractN; rfl; rfl; apply LW.v0; rfl; rfl; apply ValP.assign; rfl; apply LW.v0; rfl; rfl; apply ValP.assign; rfl; apply LW.nil; refine thenN ?_; refine CW.seq ?_; refine CW.seq ?_; refine CW.region ?_; apply LW.v0; rfl; rfl; apply ValP.move; rfl; apply LW.v0; rfl; rfl; apply ValP.neF; rfl; rfl; omega; apply LW.nil; refine thenN ?_; apply CW.condF; rfl; (with_reducible rfl); refine CW.skip ?_; refine thenN ?_; refine CW.seq ?_; refine CW.region ?_; apply LW.v0; rfl; rfl; apply ValP.move; rfl; apply LW.v0; rfl; rfl; apply ValP.move; rfl)
    refine LW.n0 rfl rfl (NewP.buildSN (vs := [(0, .int .u64 1), (1, .int .u64 (chain : Int))]) (c := #[.int .u64 1, .int .u64 (chain : Int)]) inferInstance inferInstance (by (apply PartsOk.cons; rfl; apply PartsOk.cons; rfl; exact PartsOk.nil)) rfl rfl (by kernel_rfl) (by kernel_rfl)) fun g => ?_
    refine LW.callR rfl rfl inferInstance (by (apply ArgsOk.cons; rfl; apply ArgsOk.cons; rfl; exact ArgsOk.nil)) (fun w hst => joined_calls X [1, chain] _ _ w (hrow.us (st_us hst (by (apply List.Sublist.cons; exact List.sublist_append_left _ _))) (List.Sublist.refl _)) (row_cells (hst.own (g, _) (List.Mem.head _)).2 rfl rfl (by simp [maxLen])) (by omega) (by simp) (by intro x hx; simp at hx; omega)) ?_
    intro jv gsJ hrowJ
    have hJl := joinB_len X [1, chain]
    obtain ⟨J, hJ⟩ : ∃ J, joinB X [1, chain] = J := ⟨_, rfl⟩
    rw [hJ] at hrowJ hJl ⊢
    have hDg : ∀ w' {fs}, St w [] fs w' → RowAt w' 1 jv J.length (ucs J) → Calls Tryd.prog 25 #[jv] w' (Ret w' (wv (digW J))) := fun w' fs hst h => Digest_calls J jv w' h (by rw [hJl]; simp; omega) (hT.st hst) (hN.st hst)
    (apply LW.callE; rfl; rfl; infer_instance; apply ArgsOk.cons; rfl; exact ArgsOk.nil; intro w _; rename_i hst; (exact hDg w hst (hrowJ.us (st_us hst (by (repeat (first | exact List.Sublist.refl _ | exact List.sublist_append_left _ _ | apply List.Sublist.cons | apply List.sublist_append_of_sublist_right)))) (List.Sublist.refl _))); apply LW.store; rfl; rfl; apply SetAt.app; apply SetAt.tail; apply SetAt.app; apply SetAt.head; apply Wr.whole; rfl; rfl; rfl; apply LW.v0; rfl; rfl; apply ValP.assign; rfl; apply LW.nil; refine thenN ?_; refine CW.ret ?_)
    (apply finR; exact .inl rfl; rfl; rfl; rfl; apply ResL.cons; apply Res.cell; rfl; apply Known.at; apply FsAt.app; apply FsAt.tail; apply FsAt.app; apply FsAt.head; exact Rd.whole rfl; apply ResL.cons; exact Res.tmp rfl; exact ResL.nil)
    rfl
  · have hCk := hCk0
    rw [if_neg ho] at hCk
    rw [if_neg ho, if_neg ho]
    refine enter (args := [_, _]) _ [] [] Tryd.func12 rfl Tryd.ntmps12 rfl (by simp) .nil ?_
    (refine CW.seq ?_; refine CW.region ?_; apply LW.boxA; rfl; rfl; intro _; apply LW.allocW; rfl; intro _; apply LW.v0; rfl; rfl; apply ValP.assign; rfl; apply LW.nil; refine thenN ?_; refine CW.seq ?_; refine CW.seq ?_; refine CW.region ?_; apply LW.load; rfl; rfl; apply Known.at; apply FsAt.tail; apply FsAt.head; exact op_rdW; apply LW.callE; rfl; rfl; infer_instance; apply ArgsOk.cons; rfl; exact ArgsOk.nil; intro w _; exact hCk w (by assumption); apply LW.v0; rfl; rfl; apply ValP.assign; rfl; apply LW.nil; refine thenN ?_; refine CW.seq ?_; refine CW.region ?_; apply LW.v0; rfl; rfl; apply ValP.move; rfl; apply LW.v0; rfl; rfl; apply ValP.neT; rfl; rfl; omega; apply LW.nil; refine thenN ?_; apply CW.condT; rfl; (with_reducible rfl); refine CW.seq ?_; refine CW.region ?_; apply LW.v0; rfl; rfl; exact ValP.buildW0; apply LW.v0; rfl; rfl; apply ValP.move; rfl; apply LW.store; rfl; rfl; apply SetAt.head; apply Wr.whole; rfl; rfl; rfl; apply LW.v0; rfl; rfl; apply ValP.assign; rfl; apply LW.nil; refine thenN ?_; refine CW.ret ?_; refine thenR ?_)
    (apply finR; exact .inl rfl; rfl; rfl; rfl; apply ResL.cons; apply Res.cell; rfl; apply Known.at; apply FsAt.head; exact Rd.whole rfl; apply ResL.cons; exact Res.tmp rfl; exact ResL.nil)
    rfl
end Go.Proofs.YtobkhnmglbfheaaDoor

/-
  The document's bytes and hash of an operation.
  Conditions: none.
-/
namespace Go.Proofs.YtobkhnmglbfheaaDoor
open Go Go.RowKit SL
set_option maxRecDepth 8000
set_option maxHeartbeats 4000000
set_option linter.unusedSimpArgs false
set_option linter.unusedVariables false
attribute [local irreducible] SL.CW SL.LW SL.DW Calls SL.Ret SL.RetG SL.beginQ SL.roundQ SL.rangeQ SL.inQ SL.RW SL.AnyW SL.thenQ SL.thenC SL.thenW SL.blkQ SL.finQ SL.ValP SL.NewP SL.SetP SL.CallP SL.Rd SL.Wr SL.Known
attribute [local irreducible] digW
theorem rWord_calls (n : Nat) (hn : n < 18446744073709551616) (w : World) : Calls Tryd.prog 28 #[.int .u64 (n : Int)] w (Ret w (.agg (psa (ofP n)))) := by
  refine enter (args := [_]) _ [] [] Tryd.func28 rfl Tryd.ntmps28 rfl (by simp) .nil ?_
  (refine CW.seq ?_; refine CW.region ?_; apply LW.allocA; rfl; intro _; apply LW.nil; refine thenN ?_; refine CW.seq ?_; refine CW.region ?_; apply LW.v0; rfl; rfl; apply ValP.move; rfl; apply LW.v0; rfl; rfl; apply ValP.buildW1; rfl; omega; apply LW.v0; rfl; rfl; apply ValP.buildT; infer_instance; infer_instance; apply PartsOk.cons; rfl; exact PartsOk.nil; rfl; simp only [psa, psc, ofP, byP, wc, fillP, wrCells, Value.cells, List.getElem?_cons_zero, List.getElem?_cons_succ, List.toList_toArray, List.setIfInBounds_toArray, List.set_cons_succ, List.set_cons_zero, Nat.reduceAdd, Nat.zero_add, List.cons_append, List.nil_append]; rfl; apply LW.store; rfl; rfl; apply SetAt.head; apply Wr.whole; rfl; rfl; rfl; apply LW.nil; refine thenN ?_; refine CW.ret ?_)
  (apply finR; exact .inl rfl; rfl; rfl; rfl; apply ResL.cons; apply Res.cell; rfl; apply Known.at; apply FsAt.head; exact Rd.whole rfl; exact ResL.nil)
  rfl
theorem rLong_calls (p : Option Addr) (n c : Nat) (l : List UInt8) (w : World) : Calls Tryd.prog 29 #[.slice p n c] w (Ret w (.agg (psa (byP (.slice p n c) l)))) := by
  refine enter (args := [_]) _ [] [] Tryd.func29 rfl Tryd.ntmps29 rfl (by simp) .nil ?_
  (refine CW.seq ?_; refine CW.region ?_; apply LW.allocA; rfl; intro _; apply LW.nil; refine thenN ?_; refine CW.seq ?_; refine CW.region ?_; apply LW.v0; rfl; rfl; apply ValP.move; rfl; apply LW.v0; rfl; rfl; apply ValP.buildT; infer_instance; infer_instance; apply PartsOk.cons; rfl; apply PartsOk.cons; rfl; exact PartsOk.nil; rfl; simp only [psa, psc, ofP, byP, wc, fillP, wrCells, Value.cells, List.getElem?_cons_zero, List.getElem?_cons_succ, List.toList_toArray, List.setIfInBounds_toArray, List.set_cons_succ, List.set_cons_zero, Nat.reduceAdd, Nat.zero_add, List.cons_append, List.nil_append]; rfl; apply LW.store; rfl; rfl; apply SetAt.head; apply Wr.whole; rfl; rfl; rfl; apply LW.nil; refine thenN ?_; refine CW.ret ?_)
  (apply finR; exact .inl rfl; rfl; rfl; rfl; apply ResL.cons; apply Res.cell; rfl; apply Known.at; apply FsAt.head; exact Rd.whole rfl; exact ResL.nil)
  kernel_rfl
/-- The parts of an operation, with the values of its bytes. -/
def opP (u : OpV) : List PartV := [ofP u.sd, ofP u.no, byP u.iv u.ib, byP u.cv u.cb, ofP u.vg, ofP u.cg, ofP u.pg, ofP u.mf, ofP u.mp, ofP u.py, ofP u.pv, ofP u.pp, byP u.dv u.db, byP u.gv u.gb]
theorem opP_dat (u : OpV) : (opP u).map dat = (opL u).map dat := rfl
theorem rBytes18_calls (u : OpV) (w : World) (hu : OpAt w u) (ho : okU u) : Calls Tryd.prog 14 #[.agg (opa u)] w (RetG w [] fun v gs => IsRow 5 1 v (encB u).length (ucs (encB u)) gs) := by
  have hsd := hu.num.sd
  have hvg := hu.num.vg
  have hcg := hu.num.cg
  have hpg := hu.num.pg
  have hmf := hu.num.mf
  have hmp := hu.num.mp
  have hpy := hu.num.py
  have hpv := hu.num.pv
  have hpp := hu.num.pp
  have hi := hu.i
  have hcc := hu.c
  have hd := hu.d
  have hg := hu.g
  obtain ⟨pi, ci, hi1, _, _⟩ := hi.form
  obtain ⟨pc, cc, hc1, _, _⟩ := hcc.form
  obtain ⟨pd, cd, hd1, _, _⟩ := hd.form
  obtain ⟨pg, cg, hg1, _, _⟩ := hg.form
  have hLi : ∀ w, Calls Tryd.prog 29 #[u.iv] w (Ret w (.agg (psa (byP u.iv u.ib)))) := fun w => by rw [hi1]; exact rLong_calls _ _ _ u.ib w
  have hLc : ∀ w, Calls Tryd.prog 29 #[u.cv] w (Ret w (.agg (psa (byP u.cv u.cb)))) := fun w => by rw [hc1]; exact rLong_calls _ _ _ u.cb w
  have hLd : ∀ w, Calls Tryd.prog 29 #[u.dv] w (Ret w (.agg (psa (byP u.dv u.db)))) := fun w => by rw [hd1]; exact rLong_calls _ _ _ u.db w
  have hLg : ∀ w, Calls Tryd.prog 29 #[u.gv] w (Ret w (.agg (psa (byP u.gv u.gb)))) := fun w => by rw [hg1]; exact rLong_calls _ _ _ u.gb w
  refine enter (args := [_]) _ [] [] Tryd.func14 rfl Tryd.ntmps14 rfl (by simp) .nil ?_
  (refine CW.seq ?_; refine CW.region ?_; apply LW.boxA; rfl; rfl; intro _; apply LW.v0; rfl; rfl; apply ValP.assign; rfl; apply LW.nil; refine thenN ?_; refine CW.seq ?_; apply CW.pre; refine AnyW.any 42 mixed (by decide +kernel) ?_; (try simp only [tsOf_cons, tsOf_nil, tsOf_app]); apply DW.v0; rfl; rfl; rfl; exact WantT.none; rfl; apply ValP.fieldAddr; rfl; rfl; apply DW.loadO; rfl; rfl; rfl; exact WantT.none; rfl; apply TRead.head; exact ancB_nil; exact op_rd0; apply DW.callE; rfl; rfl; rfl; exact WantT.none; rfl; infer_instance; apply ArgsOk.cons; rfl; exact ArgsOk.nil; rfl; exact ReadAll.nil; intro w _ _; exact rWord_calls _ (by assumption) w; apply DW.v0; rfl; rfl; rfl; exact WantT.none; rfl; apply ValP.fieldAddr; rfl; rfl; apply DW.loadO; rfl; rfl; rfl; exact WantT.none; rfl; apply TRead.head; exact ancB_nil; exact op_rd1; apply DW.v0; rfl; rfl; rfl; exact WantT.none; rfl; apply ValP.buildT; infer_instance; infer_instance; apply PartsOk.cons; rfl; exact PartsOk.nil; rfl; simp only [psa, psc, ofP, byP, wc, fillP, wrCells, Value.cells, List.getElem?_cons_zero, List.getElem?_cons_succ, List.toList_toArray, List.setIfInBounds_toArray, List.set_cons_succ, List.set_cons_zero, Nat.reduceAdd, Nat.zero_add, List.cons_append, List.nil_append]; rfl; apply DW.v0; rfl; rfl; rfl; exact WantT.none; rfl; apply ValP.fieldAddr; rfl; rfl; apply DW.loadO; rfl; rfl; rfl; exact WantT.none; rfl; apply TRead.head; exact ancB_nil; exact op_rd5; apply DW.callV; rfl; rfl; rfl; exact WantT.none; rfl; infer_instance; apply ArgsOk.cons; rfl; exact ArgsOk.nil; apply RdV.ext; assumption; rfl; exact RdV.nil; intro w _ _; exact hLi w; apply DW.v0; rfl; rfl; rfl; exact WantT.none; rfl; apply ValP.fieldAddr; rfl; rfl; apply DW.loadO; rfl; rfl; rfl; exact WantT.none; rfl; apply TRead.head; exact ancB_nil; exact op_rd6; apply DW.callV; rfl; rfl; rfl; exact WantT.none; rfl; infer_instance; apply ArgsOk.cons; rfl; exact ArgsOk.nil; apply RdV.ext; assumption; rfl; exact RdV.nil; intro w _ _; exact hLc w; apply DW.v0; rfl; rfl; rfl; exact WantT.none; rfl; apply ValP.fieldAddr; rfl; rfl; apply DW.loadO; rfl; rfl; rfl; exact WantT.none; rfl; apply TRead.head; exact ancB_nil; exact op_rd7; apply DW.callE; rfl; rfl; rfl; exact WantT.none; rfl; infer_instance; apply ArgsOk.cons; rfl; exact ArgsOk.nil; rfl; exact ReadAll.nil; intro w _ _; exact rWord_calls _ (by assumption) w; apply DW.v0; rfl; rfl; rfl; exact WantT.none; rfl; apply ValP.fieldAddr; rfl; rfl; apply DW.loadO; rfl; rfl; rfl; exact WantT.none; rfl; apply TRead.head; exact ancB_nil; exact op_rd8; apply DW.callE; rfl; rfl; rfl; exact WantT.none; rfl; infer_instance; apply ArgsOk.cons; rfl; exact ArgsOk.nil; rfl; exact ReadAll.nil; intro w _ _; exact rWord_calls _ (by assumption) w; apply DW.v0; rfl; rfl; rfl; exact WantT.none; rfl; apply ValP.fieldAddr; rfl; rfl; apply DW.loadO; rfl; rfl; rfl; exact WantT.none; rfl; apply TRead.head; exact ancB_nil; exact op_rd9; apply DW.callE; rfl; rfl; rfl; exact WantT.none; rfl; infer_instance; apply ArgsOk.cons; rfl; exact ArgsOk.nil; rfl; exact ReadAll.nil; intro w _ _; exact rWord_calls _ (by assumption) w; apply DW.v0; rfl; rfl; rfl; exact WantT.none; rfl; apply ValP.fieldAddr; rfl; rfl; apply DW.loadO; rfl; rfl; rfl; exact WantT.none; rfl; apply TRead.head; exact ancB_nil; exact op_rd10; apply DW.callE; rfl; rfl; rfl; exact WantT.none; rfl; infer_instance; apply ArgsOk.cons; rfl; exact ArgsOk.nil; rfl; exact ReadAll.nil; intro w _ _; exact rWord_calls _ (by assumption) w; apply DW.v0; rfl; rfl; rfl; exact WantT.none; rfl; apply ValP.fieldAddr; rfl; rfl; apply DW.loadO; rfl; rfl; rfl; exact WantT.none; rfl; apply TRead.head; exact ancB_nil; exact op_rd11; apply DW.callE; rfl; rfl; rfl; exact WantT.none; rfl; infer_instance; apply ArgsOk.cons; rfl; exact ArgsOk.nil; rfl; exact ReadAll.nil; intro w _ _; exact rWord_calls _ (by assumption) w; apply DW.v0; rfl; rfl; rfl; exact WantT.none; rfl; apply ValP.fieldAddr; rfl; rfl; apply DW.loadO; rfl; rfl; rfl; exact WantT.none; rfl; apply TRead.head; exact ancB_nil; exact op_rd12; apply DW.callE; rfl; rfl; rfl; exact WantT.none; rfl; infer_instance; apply ArgsOk.cons; rfl; exact ArgsOk.nil; rfl; exact ReadAll.nil; intro w _ _; exact rWord_calls _ (by assumption) w; apply DW.v0; rfl; rfl; rfl; exact WantT.none; rfl; apply ValP.fieldAddr; rfl; rfl; apply DW.loadO; rfl; rfl; rfl; exact WantT.none; rfl; apply TRead.head; exact ancB_nil; exact op_rd13; apply DW.callE; rfl; rfl; rfl; exact WantT.none; rfl; infer_instance; apply ArgsOk.cons; rfl; exact ArgsOk.nil; rfl; exact ReadAll.nil; intro w _ _; exact rWord_calls _ (by assumption) w; apply DW.v0; rfl; rfl; rfl; exact WantT.none; rfl; apply ValP.fieldAddr; rfl; rfl; apply DW.loadO; rfl; rfl; rfl; exact WantT.none; rfl; apply TRead.head; exact ancB_nil; exact op_rd14; apply DW.callE; rfl; rfl; rfl; exact WantT.none; rfl; infer_instance; apply ArgsOk.cons; rfl; exact ArgsOk.nil; rfl; exact ReadAll.nil; intro w _ _; exact rWord_calls _ (by assumption) w; apply DW.v0; rfl; rfl; rfl; exact WantT.none; rfl; apply ValP.fieldAddr; rfl; rfl; apply DW.loadO; rfl; rfl; rfl; exact WantT.none; rfl; apply TRead.head; exact ancB_nil; exact op_rd15; apply DW.callV; rfl; rfl; rfl; exact WantT.none; rfl; infer_instance; apply ArgsOk.cons; rfl; exact ArgsOk.nil; apply RdV.ext; assumption; rfl; exact RdV.nil; intro w _ _; exact hLd w; apply DW.v0; rfl; rfl; rfl; exact WantT.none; rfl; apply ValP.fieldAddr; rfl; rfl; apply DW.loadO; rfl; rfl; rfl; exact WantT.none; rfl; apply TRead.head; exact ancB_nil; exact op_rd16; apply DW.callV; rfl; rfl; rfl; exact WantT.none; rfl; infer_instance; apply ArgsOk.cons; rfl; exact ArgsOk.nil; apply RdV.ext; assumption; rfl; exact RdV.nil; intro w _ _; exact hLg w; apply DW.nil; simp only [fsOf_cons, fsOf_nil, fsOf_app, fsOf_tsOf, fsOf_new])
  refine LW.n0 rfl rfl (NewP.buildSN (size := 6) (vs := [(0, .agg (psa (ofP u.sd))), (1, .agg (psa (ofP u.no))), (2, .agg (psa (byP u.iv u.ib))), (3, .agg (psa (byP u.cv u.cb))), (4, .agg (psa (ofP u.vg))), (5, .agg (psa (ofP u.cg))), (6, .agg (psa (ofP u.pg))), (7, .agg (psa (ofP u.mf))), (8, .agg (psa (ofP u.mp))), (9, .agg (psa (ofP u.py))), (10, .agg (psa (ofP u.pv))), (11, .agg (psa (ofP u.pp))), (12, .agg (psa (byP u.dv u.db))), (13, .agg (psa (byP u.gv u.gb)))]) (c := ((opP u).flatMap psc).toArray) inferInstance inferInstance (by (apply PartsOk.cons; rfl; apply PartsOk.cons; rfl; apply PartsOk.cons; rfl; apply PartsOk.cons; rfl; apply PartsOk.cons; rfl; apply PartsOk.cons; rfl; apply PartsOk.cons; rfl; apply PartsOk.cons; rfl; apply PartsOk.cons; rfl; apply PartsOk.cons; rfl; apply PartsOk.cons; rfl; apply PartsOk.cons; rfl; apply PartsOk.cons; rfl; apply PartsOk.cons; rfl; exact PartsOk.nil)) rfl rfl (by kernel_rfl) (by kernel_rfl)) fun g => ?_
  have hchk : chkP (opP u) = 0 := (chk_dat (opP_dat u)).trans (opL_chk ho)
  have hsm := right_small hchk
  have hlay : layF (opP u) = encB u := lay_dat (opP_dat u)
  have h64 : (18446744073709551616 : Nat) < M256 := by decide
  have hwd : ∀ p ∈ opP u, p.wd < M256 := by
    intro p hp
    simp only [opP, List.mem_cons, List.not_mem_nil, or_false] at hp
    rcases hp with rfl | rfl | rfl | rfl | rfl | rfl | rfl | rfl | rfl | rfl | rfl | rfl | rfl | rfl
    · exact Nat.lt_trans hsd h64
    · exact hu.num.no
    · exact (by decide : 0 < M256)
    · exact (by decide : 0 < M256)
    · exact Nat.lt_trans hvg h64
    · exact Nat.lt_trans hcg h64
    · exact Nat.lt_trans hpg h64
    · exact Nat.lt_trans hmf h64
    · exact Nat.lt_trans hmp h64
    · exact Nat.lt_trans hpy h64
    · exact Nat.lt_trans hpv h64
    · exact Nat.lt_trans hpp h64
    · exact (by decide : 0 < M256)
    · exact (by decide : 0 < M256)
  have hda : ∀ w', OpAt w' u → ∀ p ∈ opP u, RowAt w' 1 p.dv p.db.length (ucs p.db) := by
    intro w' h p hp
    simp only [opP, List.mem_cons, List.not_mem_nil, or_false] at hp
    rcases hp with rfl | rfl | rfl | rfl | rfl | rfl | rfl | rfl | rfl | rfl | rfl | rfl | rfl | rfl
    · exact RowAt.nil
    · exact RowAt.nil
    · exact h.i
    · exact h.c
    · exact RowAt.nil
    · exact RowAt.nil
    · exact RowAt.nil
    · exact RowAt.nil
    · exact RowAt.nil
    · exact RowAt.nil
    · exact RowAt.nil
    · exact RowAt.nil
    · exact h.d
    · exact h.g
  refine LW.callR rfl rfl inferInstance (by (apply ArgsOk.cons; rfl; exact ArgsOk.nil)) (fun w hst => rBytesL_calls (opP u) _ w ⟨row_cells (hst.own (g, _) (List.Mem.head _)).2 rfl (by simp [opP, psc, wc]) (by show (14 : Nat) ≤ maxLen; decide), hwd, hda w (hu.st hst)⟩ hsm) ?_
  intro bv gs hrow
  rw [hlay] at hrow
  (apply LW.v0; rfl; rfl; apply ValP.assign; rfl; apply LW.nil; refine thenN ?_; refine CW.ret ?_)
  refine fin (vs := [bv]) gs (.inl rfl) rfl rfl (by (apply ResL.cons; exact Res.tmp rfl; exact ResL.nil)) (List.sublist_append_left _ _) hrow
theorem rHash18_calls (u : OpV) (chain : Nat) (w : World) (hu : OpAt w u) (ho : okU u) (hc : chain < 18446744073709551616) : Calls Tryd.prog 15 #[.agg (opa u), .int .u64 (chain : Int)] w (Ret w (wv (hashU u chain))) := by
  have hslu := hu.sl
  have ho2 := cutSig_ok ho
  have hl := enc_len_le ho2
  have h64 : (18446744073709551616 : Nat) < M256 := by decide
  have hhash : hashU u chain = digW (joinB (encB (noSig u)) [1, chain]) := rfl
  have hjn : joinB (encB (noSig u)) [1, chain] = (encB (noSig u) ++ beb 32 1) ++ beb 32 chain := by unfold joinB; simp
  rw [hhash, hjn]
  clear hhash hjn
  refine enter (args := [_, _]) _ [] [] Tryd.func15 rfl Tryd.ntmps15 rfl (by simp) .nil ?_
  (refine CW.seq ?_; refine CW.region ?_; apply LW.boxA; rfl; rfl; intro _; apply LW.allocW; rfl; intro _; apply LW.nil; refine thenN ?_; refine CW.seq ?_; refine CW.region ?_; apply LW.v0; rfl; rfl; apply ValP.fieldAddr; rfl; rfl; apply LW.store; rfl; rfl; apply SetAt.tail; apply SetAt.head; exact op_wr16; apply LW.nil; refine thenN ?_; refine CW.seq ?_; refine CW.region ?_; apply LW.load; rfl; rfl; apply Known.at; apply FsAt.tail; apply FsAt.head; exact op_rdW)
  refine LW.callR rfl rfl inferInstance (by (apply ArgsOk.cons; rfl; exact ArgsOk.nil)) (fun w hst => rBytes18_calls (noSig u) w (cutSig_at (hu.st hst)) ho2) ?_
  intro bv gs5 hrow
  obtain ⟨X, hX⟩ : ∃ X, encB (noSig u) = X := ⟨_, rfl⟩
  rw [hX] at hrow hl ⊢
  (apply LW.v0; rfl; rfl; apply ValP.buildW1L; rfl; decide; rfl)
  refine LW.callR rfl rfl inferInstance (by (apply ArgsOk.cons; rfl; exact ArgsOk.nil)) (fun w hst => rBytes_calls 1 (by decide) w) ?_
  intro v1 gs1 hrow1
  refine LW.appendAny (n := X.length) (m := 32) (news := ucs (beb 32 1)) rfl rfl inferInstance inferInstance inferInstance rfl rfl rfl (by (apply AtSeg.app; exact AtSeg.head)) hrow (fun w hs => hrow1.us (st_us hs (by (exact List.sublist_append_left _ _))) (List.Sublist.refl _)) (ucs_cells _) (by simp only [maxLen]; omega) (by omega) ?_
  intro v2 gs2 hrow2
  refine ⟨_, (by (apply AtSeg.app; exact AtSeg.head)), ?_⟩
  rw [← ucs_app] at hrow2
  obtain ⟨Y, hY⟩ : ∃ Y, X ++ beb 32 1 = Y := ⟨_, rfl⟩
  have hYl : Y.length = X.length + 32 := by rw [← hY, List.length_append, beb_len]
  rw [hY] at hrow2 ⊢
  rw [← hYl] at hrow2
  (apply LW.v0; rfl; rfl; apply ValP.assign; rfl; apply LW.nil; refine thenN ?_; refine CW.seq ?_; refine CW.region ?_; apply LW.v0; rfl; rfl; apply ValP.move; rfl; apply LW.v0; rfl; rfl; apply ValP.move; rfl; apply LW.v0; rfl; rfl; apply ValP.buildW1; rfl; omega)
  refine LW.callR rfl rfl inferInstance (by (apply ArgsOk.cons; rfl; exact ArgsOk.nil)) (fun w hst => rBytes_calls chain (by omega) w) ?_
  intro v3 gs3 hrow3
  refine LW.appendAny (n := Y.length) (m := 32) (news := ucs (beb 32 chain)) rfl rfl inferInstance inferInstance inferInstance rfl rfl rfl (by (apply AtSeg.app; apply AtSeg.app; exact AtSeg.head)) hrow2 (fun w hs => hrow3.us (st_us hs (by (exact List.sublist_append_left _ _))) (List.Sublist.refl _)) (ucs_cells _) (by simp only [maxLen]; omega) (by omega) ?_
  intro jv gsJ hrowJ
  refine ⟨_, (by (apply AtSeg.app; apply AtSeg.app; exact AtSeg.head)), ?_⟩
  rw [← ucs_app] at hrowJ
  obtain ⟨J, hJ⟩ : ∃ J, Y ++ beb 32 chain = J := ⟨_, rfl⟩
  have hJl : J.length = Y.length + 32 := by rw [← hJ, List.length_append, beb_len]
  rw [hJ] at hrowJ ⊢
  rw [← hJl] at hrowJ
  have hDg : ∀ w' {fs}, St w [] fs w' → RowAt w' 1 jv J.length (ucs J) → Calls Tryd.prog 31 #[jv] w' (Ret w' (wv (digW J))) := fun w' fs hst h => rDigest_calls J jv w' h (by omega)
  (apply LW.callE; rfl; rfl; infer_instance; apply ArgsOk.cons; rfl; exact ArgsOk.nil; intro w _; rename_i hst; (exact hDg w hst (hrowJ.us (st_us hst (by (repeat (first | exact List.Sublist.refl _ | exact List.sublist_append_left _ _ | apply List.Sublist.cons | apply List.sublist_append_of_sublist_right)))) (List.Sublist.refl _))); apply LW.store; rfl; rfl; apply SetAt.app; apply SetAt.app; apply SetAt.app; apply SetAt.head; apply Wr.whole; rfl; rfl; rfl; apply LW.nil; refine thenN ?_; refine CW.ret ?_)
  (apply finR; exact .inl rfl; rfl; rfl; rfl; apply ResL.cons; apply Res.cell; rfl; apply Known.at; apply FsAt.app; apply FsAt.app; apply FsAt.app; apply FsAt.head; exact Rd.whole rfl; exact ResL.nil)
  rfl
end Go.Proofs.YtobkhnmglbfheaaDoor

/-
  A SMALL LOGIC OVER THE KIT's WALK, PART MQ: calls in a region that draws its order, which are handed rows of ours, or structs that hold such.
  Conditions: none; over any program.
-/
namespace Go.Proofs.YtobkhnmglbfheaaDoor.SL
set_option linter.unusedVariables false
set_option linter.unusedSimpArgs false
open Go Go.RowKit
/-- The same facts, with more readers told. -/
inductive More : Ts → Ts → Prop
  | nil : More [] []
  | cons {b : Nat} {o : Obj} {ws rs rs' : List Nat} {r r' : Ts} (h : ∀ j ∈ rs, j ∈ rs') (hr : More r r') : More ((b, o, ws, rs) :: r) ((b, o, ws, rs') :: r')
theorem More.refl : ∀ (ts : Ts), More ts ts
  | [] => .nil
  | (_, _, _, _) :: r => .cons (fun _ h => h) (More.refl r)
theorem More.trans {a b c : Ts} (h : More a b) : More b c → More a c := by
  intro h2
  induction h generalizing c with
  | nil => exact h2
  | cons h _ ih =>
    cases h2 with
    | cons h' hr' => exact .cons (fun j hj => h' j (h j hj)) (ih hr')
theorem More.app {a b c d : Ts} (h : More a b) (h' : More c d) : More (a ++ c) (b ++ d) := by
  induction h with
  | nil => exact h'
  | cons h _ ih => exact .cons h ih
theorem More.tag (ws rs rs' : List Nat) (h : ∀ j ∈ rs, j ∈ rs') : ∀ (gs : Fs), More (tsTag ws rs gs) (tsTag ws rs' gs)
  | [] => .nil
  | (_, _) :: r => .cons h (More.tag ws rs rs' h r)
theorem More.mem {a b : Ts} (h : More a b) : ∀ p ∈ b, ∃ q ∈ a, q.1 = p.1 ∧ q.2.1 = p.2.1 ∧ q.2.2.1 = p.2.2.1 ∧ ∀ j ∈ q.2.2.2, j ∈ p.2.2.2 := by
  induction h with
  | nil => intro p hp; cases hp
  | cons h _ ih =>
    intro p hp
    rcases List.mem_cons.1 hp with rfl | hp
    · exact ⟨_, List.mem_cons_self, rfl, rfl, rfl, h⟩
    · obtain ⟨q, hq, h2⟩ := ih p hp
      exact ⟨q, List.mem_cons_of_mem _ hq, h2⟩
theorem More.fsts {a b : Ts} (h : More a b) : b.map (·.1) = a.map (·.1) := by
  induction h with
  | nil => rfl
  | cons _ _ ih => simp [ih]
theorem Rel.more {B : Nat} {ts ts' : Ts} {φ : Facts} {tw tr : Tag} (hr : Rel B ts φ tw tr) (h : More ts ts') : Rel B ts' φ tw tr := by
  refine ⟨fun p hp => ?_, fun p hp j hj => ?_, fun p hp j hj => ?_, hr.old, hr.oldr, pairwise_map1 h.fsts hr.nd⟩
  · obtain ⟨q, hq, e1, e2, _, _⟩ := h.mem p hp; rw [← e1, ← e2]; exact hr.fsome q hq
  · obtain ⟨q, hq, e1, _, e3, _⟩ := h.mem p hp; rw [← e3]; exact hr.ftw q hq j (by rw [e1]; exact hj)
  · obtain ⟨q, hq, e1, _, _, e4⟩ := h.mem p hp; exact e4 j (hr.ftr q hq j (by rw [e1]; exact hj))
theorem DW.more {C : Cu} {ops : Array Oper} {μ : Mu} {Q : Post} {tl l : List Oper} {k : Nat} {e : Env} {ts ts' : Ts} (hm : More ts ts') (h : DW C ops μ Q tl l k e ts') : DW C ops μ Q tl l k e ts := fun a φ tw tr ha hrel hinv => h a φ tw tr ha (hrel.more hm) hinv
section
variable {C : Cu} {ops : Array Oper} {k : Nat}
theorem TRead.less {ts1 ts2 : Ts} {b : Nat} {o : Obj} (h : TRead ops k ts1 b o ts2) : ∀ {ts : Ts}, More ts ts1 → ∃ ts2', TRead ops k ts b o ts2' ∧ More ts2' ts2 := by
  induction h with
  | head hw =>
    intro ts hm
    cases hm with
    | cons hj hr => exact ⟨_, .head hw, .cons (fun j h => by
        rcases List.mem_cons.1 h with rfl | h
        · exact List.mem_cons_self
        · exact List.mem_cons_of_mem _ (hj j h)) hr⟩
  | tail _ ih =>
    intro ts hm
    cases hm with
    | cons hj hr =>
      obtain ⟨t, h1, h2⟩ := ih hr
      exact ⟨_, .tail h1, .cons hj h2⟩
theorem ReadAll.less {bs : List Nat} {ts1 ts2 : Ts} {us : Fs} (h : ReadAll C ops k bs ts1 us ts2) : ∀ {ts : Ts}, More ts ts1 → ∃ ts2', ReadAll C ops k bs ts us ts2' ∧ More ts2' ts2 := by
  induction h with
  | nil => intro ts hm; exact ⟨_, .nil, hm⟩
  | own h _ ih =>
    intro ts hm
    obtain ⟨t, h1, h2⟩ := h.less hm
    obtain ⟨t2, h3, h4⟩ := ih h2
    exact ⟨t2, .own h1 h3, h4⟩
  | ext h hS _ ih =>
    intro ts hm
    obtain ⟨t2, h3, h4⟩ := ih hm
    exact ⟨t2, .ext h hS h3, h4⟩
/-- Where a row's facts lie; they are marked as read. -/
inductive TSeg (ops : Array Oper) (k : Nat) (seg : Fs) : Ts → Ts → Prop
  | tag {ws rs : List Nat} {r : Ts} (h : ancB ops k ws = true) : TSeg ops k seg (tsTag ws rs seg ++ r) (tsTag ws (k :: rs) seg ++ r)
  | old {r : Ts} : TSeg ops k seg (tsOf seg ++ r) (tsTag [] [k] seg ++ r)
  | new {j : Nat} {r : Ts} (h : ancB ops k [j] = true) : TSeg ops k seg (tsNew j seg ++ r) (tsTag [j] [k] seg ++ r)
  | one {b : Nat} {o : Obj} {ws rs : List Nat} {r : Ts} (hs : seg = [(b, o)]) (h : ancB ops k ws = true) : TSeg ops k seg ((b, o, ws, rs) :: r) ((b, o, ws, k :: rs) :: r)
  | cons {p : Nat × Obj × List Nat × List Nat} {r r' : Ts} (h : TSeg ops k seg r r') : TSeg ops k seg (p :: r) (p :: r')
  | app {l r r' : Ts} (h : TSeg ops k seg r r') : TSeg ops k seg (l ++ r) (l ++ r')
theorem TSeg.more {seg : Fs} {ts ts' : Ts} (h : TSeg ops k seg ts ts') : More ts ts' := by
  induction h with
  | tag _ => exact .app (.tag _ _ _ (fun j h => List.mem_cons_of_mem _ h) _) (.refl _)
  | old => exact .app (.tag [] [] [k] (fun j h => by cases h) _) (.refl _)
  | new _ => exact .app (.tag _ [] [k] (fun j h => by cases h) _) (.refl _)
  | one _ _ => exact .cons (fun j h => List.mem_cons_of_mem _ h) (.refl _)
  | cons _ ih => exact More.app (.refl [_]) ih
  | app _ ih => exact .app (.refl _) ih
theorem TRead.app' {l : Ts} {ts ts' : Ts} {b : Nat} {o : Obj} (h : TRead ops k ts b o ts') : TRead ops k (l ++ ts) b o (l ++ ts') := by
  induction l with
  | nil => exact h
  | cons p l ih => exact .tail ih
theorem TSeg.read {b : Nat} {o : Obj} {ts ts' : Ts} {seg : Fs} (h : TSeg ops k seg ts ts') (hs : seg = [(b, o)]) : TRead ops k ts b o ts' := by
  induction h with
  | tag h => subst hs; exact .head h
  | old => subst hs; exact .head rfl
  | new h => subst hs; exact .head h
  | one hs' h =>
    rw [hs] at hs'
    cases hs'
    exact .head h
  | cons _ ih => exact .tail ih
  | app _ ih => exact ih.app'
/-- What a call's operands name is looked at; K: what is known then. -/
inductive RdR (C : Cu) (ops : Array Oper) (k : Nat) : List Value → Ts → (World → Prop) → Ts → Prop
  | nil {ts : Ts} : RdR C ops k [] ts (fun _ => True) ts
  | plain {v : Value} {vs : List Value} {ts ts2 : Ts} {K : World → Prop} (hb : blocksN 4 v = []) (h : RdR C ops k vs ts K ts2) : RdR C ops k (v :: vs) ts K ts2
  | flat {v : Value} {us vs : List Value} {ts ts2 : Ts} {K : World → Prop} (hb : blocksN 4 v = us.flatMap (blocksN 4)) (h : RdR C ops k (us ++ vs) ts K ts2) : RdR C ops k (v :: vs) ts K ts2
  | row {E sz n : Nat} {v : Value} {xs : List Value} {seg : Fs} {vs : List Value} {ts ts1 ts2 : Ts} {K : World → Prop} (h : IsRow E sz v n xs seg) (hs : TSeg ops k seg ts ts1) (hr : RdR C ops k vs ts1 K ts2) : RdR C ops k (v :: vs) ts (fun w => RowAt w sz v n xs ∧ K w) ts2
  | ext {v : Value} {n sz : Nat} {xs : List Value} {vs : List Value} {ts ts2 : Ts} {K : World → Prop} (h : RowAt C.w0 sz v n xs) (hS : C.S = []) (hs : RdR C ops k vs ts K ts2) : RdR C ops k (v :: vs) ts (fun w => RowAt w sz v n xs ∧ K w) ts2
theorem RdR.all {vs : List Value} {ts ts' : Ts} {K : World → Prop} (h : RdR C ops k vs ts K ts') : ∃ us ts3, ReadAll C ops k (vs.flatMap (blocksN 4)) ts us ts3 ∧ More ts3 ts' ∧ ∀ w, Bel C.w0.heap.size C.S C.w0 w → (∀ p ∈ us, w.heap[p.1]? = some p.2) → K w := by
  induction h with
  | nil => exact ⟨[], _, .nil, .refl _, fun _ _ _ => trivial⟩
  | plain hb _ ih =>
    obtain ⟨us, t, h1, h2, h3⟩ := ih
    exact ⟨us, t, by rw [List.flatMap_cons, hb]; exact h1, h2, h3⟩
  | flat hb _ ih =>
    obtain ⟨us, t, h1, h2, h3⟩ := ih
    exact ⟨us, t, by rw [List.flatMap_cons, hb, ← List.flatMap_append]; exact h1, h2, h3⟩
  | @row E sz n v xs seg vs ts ts1 ts2 K h hs hr ih =>
    obtain ⟨us, t, h1, h2, h3⟩ := ih
    have skip : blocksN 4 v = [] → (∀ w, RowAt w sz v n xs) → ∃ us ts3, ReadAll C ops k ((v :: vs).flatMap (blocksN 4)) ts us ts3 ∧ More ts3 ts2 ∧ ∀ w, Bel C.w0.heap.size C.S C.w0 w → (∀ p ∈ us, w.heap[p.1]? = some p.2) → RowAt w sz v n xs ∧ K w := fun e hw => by
      obtain ⟨t2, h4, h5⟩ := h1.less hs.more
      exact ⟨us, t2, by rw [List.flatMap_cons, e]; exact h4, h5.trans h2, fun w hb hu => ⟨hw w, h3 w hb hu⟩⟩
    cases h with
    | nil => exact skip rfl fun _ => .nil
    | @own g _ cap cur _ hn hm hc ht hl =>
      rcases Nat.eq_zero_or_pos cap with hc0 | hc0
      · subst hc0
        obtain rfl : n = 0 := by omega
        exact skip (by simp [blocksN]) fun w => ⟨⟨_, _, rfl, hn, hm⟩, hl, fun h => absurd h (by omega), fun p k d hv => by cases hv; exact .inr (.inl rfl)⟩
      · refine ⟨(g, .cells cur E (0, 0)) :: us, t, ?_, h2, fun w hb hu => ⟨?_, h3 w hb fun p hp => hu p (List.mem_cons_of_mem _ hp)⟩⟩
        · rw [List.flatMap_cons, show blocksN 4 (.slice (some ⟨g, 0, .none⟩) n cap) = [g] by simp [blocksN, Nat.ne_of_gt hc0]]
          exact .own (hs.read rfl) h1
        · exact (IsRow.own hn hm hc ht hl).us (us := [(g, .cells cur E (0, 0))]) (fun p hp => hu p (by rw [List.mem_singleton.1 hp]; exact List.mem_cons_self)) (List.Sublist.refl _)
  | @ext v n sz xs vs ts ts2 K h hS hs ih =>
    obtain ⟨us, t, h1, h2, h3⟩ := ih
    have hw : ∀ w, Bel C.w0.heap.size C.S C.w0 w → RowAt w sz v n xs := fun w hb => by rw [hS] at hb; exact h.bel hb
    obtain ⟨p, c, rfl, _, _⟩ := h.form
    rcases h.lies _ _ _ rfl with rfl | rfl | ⟨b, off, o, rfl, hb⟩
    · exact ⟨us, t, h1, h2, fun w hb hu => ⟨hw w hb, h3 w hb hu⟩⟩
    · exact ⟨us, t, by rw [List.flatMap_cons, show blocksN 4 (.slice p n 0) = [] by cases p <;> simp [blocksN]]; exact h1, h2, fun w hb hu => ⟨hw w hb, h3 w hb hu⟩⟩
    · rcases Nat.eq_zero_or_pos c with hc | hc
      · subst hc
        exact ⟨us, t, by rw [List.flatMap_cons, show blocksN 4 (.slice (some ⟨b, off, .none⟩) n 0) = [] by simp [blocksN]]; exact h1, h2, fun w hb hu => ⟨hw w hb, h3 w hb hu⟩⟩
      · refine ⟨(b, o) :: us, t, ?_, h2, fun w hb hu => ⟨hw w hb, h3 w hb fun p hp => hu p (List.mem_cons_of_mem _ hp)⟩⟩
        rw [List.flatMap_cons, show blocksN 4 (.slice (some ⟨b, off, .none⟩) n c) = [b] by simp [blocksN, Nat.ne_of_gt hc]]
        exact .ext hb (by rw [hS]; simp) h1
end
section dw
variable {C : Cu} {ops : Array Oper} {Q : Post} {tl rest : List Oper} {e : Env} {ts : Ts} {μ : Mu} {k d : Nat} {op : Op} {t : TypeId} {pos : String} {af : Array Edge} {g : Option (Nat × Bool)}
theorem DW.callK {fo : Operand} {args : Array Operand} {tys : Array TypeId} {f : FuncId} {vs : List Value} {v : Value} {K : World → Prop} {ts' : Ts} (hk : ops[k]? = some ⟨some d, .call { callee := .value fo, args := args, argTypes := tys }, t, pos, af, g⟩) (hm : μ k = none)
    (hd : Nat.blt d C.N = true) (hg : WantT ops e g) (hf : e.ev fo = some (.func (.func f) #[] #[])) (hF : FnI C.P f) (ha : ArgsOk e args.toList vs) (hr : RdR C ops k vs ts K ts')
    (hc : ∀ w, Bel C.w0.heap.size C.S C.w0 w → K w → Calls C.P f vs.toArray w (Ret w v)) (kk : DW C ops μ Q tl rest (k + 1) ((d, v) :: e) ts') :
    DW C ops μ Q tl (⟨some d, .call { callee := .value fo, args := args, argTypes := tys }, t, pos, af, g⟩ :: rest) k e ts := by
  obtain ⟨us2, t3, h1, h2, h3⟩ := hr.all
  exact DW.callE hk hm hd hg hf hF ha (show _ = vs.flatMap (blocksN 4) from rfl) h1 (fun w hb hu => hc w hb (h3 w hb hu)) (kk.more h2)
theorem More.new (j : Nat) (gs : Fs) {a b : Ts} (h : More a b) : More (tsNew j gs ++ a) (tsNew j gs ++ b) := .app (.refl _) h
theorem DW.manyK {fo : Operand} {args : Array Operand} {tys : Array TypeId} {f : FuncId} {vs : List Value} {M : Rel1} {K : World → Prop} {ts' : Ts} (hk : ops[k]? = some ⟨some d, .call { callee := .value fo, args := args, argTypes := tys }, t, pos, af, g⟩) (hm : μ k = some (cst M, false))
    (hd : Nat.blt d C.N = true) (hg : WantT ops e g) (hf : e.ev fo = some (.func (.func f) #[] #[])) (hF : FnI C.P f) (ha : ArgsOk e args.toList vs) (hr : RdR C ops k vs ts K ts')
    (hc : ∀ w, Bel C.w0.heap.size C.S C.w0 w → K w → Calls C.P f vs.toArray w (RetG w [] M)) (kk : ∀ v gs, M v gs → DW C ops μ Q tl rest (k + 1) ((d, v) :: e) (tsNew k gs ++ ts')) :
    DW C ops μ Q tl (⟨some d, .call { callee := .value fo, args := args, argTypes := tys }, t, pos, af, g⟩ :: rest) k e ts := by
  obtain ⟨us2, t3, h1, h2, h3⟩ := hr.all
  exact DW.manyE hk hm hd hg hf hF ha (show _ = vs.flatMap (blocksN 4) from rfl) h1 (fun w hb hu => hc w hb (h3 w hb hu)) (fun v gs hM => (kk v gs hM).more (.new k gs h2))
end dw
theorem tsNew_app (k : Nat) (a b : Fs) : tsNew k (a ++ b) = tsNew k a ++ tsNew k b := by simp [tsNew]
end Go.Proofs.YtobkhnmglbfheaaDoor.SL

/-
  Operations with bytes of their own, told row by row; calls in drawn regions that are handed operations.
  Conditions: none.
-/
namespace Go.Proofs.YtobkhnmglbfheaaDoor
open Go Go.RowKit SL
set_option maxRecDepth 8000
set_option maxHeartbeats 4000000
set_option linter.unusedSimpArgs false
set_option linter.unusedVariables false
attribute [local irreducible] SL.CW SL.LW SL.DW Calls SL.Ret SL.RetG SL.beginQ SL.roundQ SL.rangeQ SL.inQ SL.RW SL.AnyW SL.thenQ SL.thenC SL.thenW SL.blkQ SL.finQ SL.ValP SL.NewP SL.SetP SL.CallP SL.Rd SL.Wr SL.Known
/-- An operation whose bytes lie in rows of ours. -/
structure OpIn (u : OpV) (g1 g2 g3 g4 : Fs) : Prop where
  num : OpNum u
  i : IsRow 5 1 u.iv u.ib.length (ucs u.ib) g1
  c : IsRow 5 1 u.cv u.cb.length (ucs u.cb) g2
  d : IsRow 5 1 u.dv u.db.length (ucs u.db) g3
  g : IsRow 5 1 u.gv u.gb.length (ucs u.gb) g4
theorem OpIn.gs {u : OpV} {g1 g2 g3 g4 : Fs} (h : OpIn u g1 g2 g3 g4) : OpGs u (g4 ++ (g3 ++ (g2 ++ g1))) := fun w hw =>
  ⟨h.num, h.i.us (fun q hq => hw q (by simp [hq])) (List.Sublist.refl _), h.c.us (fun q hq => hw q (by simp [hq])) (List.Sublist.refl _), h.d.us (fun q hq => hw q (by simp [hq])) (List.Sublist.refl _), h.g.us (fun q hq => hw q (by simp [hq])) (List.Sublist.refl _)⟩
/-- What few hands back, told row by row. -/
def fewO3 (u : OpV) (v : Value) (gs : Fs) : Prop := ∃ a b c d g1 g2 g3 g4, v = .agg (opa (cutO u a b c d)) ∧ gs = g4 ++ (g3 ++ (g2 ++ g1)) ∧ OpIn (cutO u a b c d) g1 g2 g3 g4 ∧ OpSl (cutO u a b c d)
theorem few_u_calls3 (u : OpV) (w : World) (hu : OpAt w u) : Calls Tryd.prog 6 #[.agg (opa u)] w (RetG w [] (fewO3 u)) := by
  have hi := hu.i
  have hc := hu.c
  have hd := hu.d
  have hg := hu.g
  refine enter (args := [_]) _ [] [] Tryd.func6 rfl Tryd.ntmps6 rfl (by simp) .nil ?_
  (refine CW.seq ?_; refine CW.region ?_; apply LW.boxA; rfl; rfl; intro _; apply LW.allocA; rfl; intro _; apply LW.nil; refine thenN ?_; refine CW.seq ?_)
  rename_i b1 b2
  apply CW.pre
  (refine AnyW.anyM [(2, ownM u.ib), (5, ownM u.cb), (8, ownM u.db), (11, ownM u.gb)] 13 mixed (by decide +kernel) ?_)
  ((try simp only [tsOf_cons, tsOf_nil, tsOf_app]); apply DW.v0; rfl; rfl; rfl; exact WantT.none; rfl; apply ValP.fieldAddr; rfl; rfl; apply DW.loadO; rfl; rfl; rfl; exact WantT.none; rfl; apply TRead.tail; apply TRead.head; exact ancB_nil; exact op_rd5)
  (apply DW.manyV; rfl; rfl; rfl; exact WantT.none; rfl; infer_instance; apply ArgsOk.cons; rfl; exact ArgsOk.nil; apply RdV.ext; assumption; rfl; exact RdV.nil; intro w _ _)
  exact own_calls _ _ w (hi.bel (by assumption))
  intro v1 g1 h1
  ((try simp only [tsOf_cons, tsOf_nil, tsOf_app]); apply DW.v0; rfl; rfl; rfl; exact WantT.none; rfl; apply ValP.fieldAddr; rfl; rfl; apply DW.loadO; rfl; rfl; rfl; exact WantT.none; rfl; apply TRead.app; apply TRead.tail; apply TRead.head; exact ancB_nil; exact op_rd6)
  (apply DW.manyV; rfl; rfl; rfl; exact WantT.none; rfl; infer_instance; apply ArgsOk.cons; rfl; exact ArgsOk.nil; apply RdV.ext; assumption; rfl; exact RdV.nil; intro w _ _)
  exact own_calls _ _ w (hc.bel (by assumption))
  intro v2 g2 h2
  ((try simp only [tsOf_cons, tsOf_nil, tsOf_app]); apply DW.v0; rfl; rfl; rfl; exact WantT.none; rfl; apply ValP.fieldAddr; rfl; rfl; apply DW.loadO; rfl; rfl; rfl; exact WantT.none; rfl; apply TRead.app; apply TRead.app; apply TRead.tail; apply TRead.head; exact ancB_nil; exact op_rd15)
  (apply DW.manyV; rfl; rfl; rfl; exact WantT.none; rfl; infer_instance; apply ArgsOk.cons; rfl; exact ArgsOk.nil; apply RdV.ext; assumption; rfl; exact RdV.nil; intro w _ _)
  exact own_calls _ _ w (hd.bel (by assumption))
  intro v3 g3 h3
  ((try simp only [tsOf_cons, tsOf_nil, tsOf_app]); apply DW.v0; rfl; rfl; rfl; exact WantT.none; rfl; apply ValP.fieldAddr; rfl; rfl; apply DW.loadO; rfl; rfl; rfl; exact WantT.none; rfl; apply TRead.app; apply TRead.app; apply TRead.app; apply TRead.tail; apply TRead.head; exact ancB_nil; exact op_rd16)
  (apply DW.manyV; rfl; rfl; rfl; exact WantT.none; rfl; infer_instance; apply ArgsOk.cons; rfl; exact ArgsOk.nil; apply RdV.ext; assumption; rfl; exact RdV.nil; intro w _ _)
  exact own_calls _ _ w (hg.bel (by assumption))
  intro v4 g4 h4
  have h1' := h1
  have h2' := h2
  have h3' := h3
  have h4' := h4
  unfold ownM at h1' h2' h3' h4'
  obtain ⟨q1, k1, rfl⟩ := h1'.form
  obtain ⟨q2, k2, rfl⟩ := h2'.form
  obtain ⟨q3, k3, rfl⟩ := h3'.form
  obtain ⟨q4, k4, rfl⟩ := h4'.form
  ((try simp only [tsOf_cons, tsOf_nil, tsOf_app]); apply DW.v0; rfl; rfl; rfl; exact WantT.none; rfl; apply ValP.fieldAddr; rfl; rfl; apply DW.nil; simp only [fsOf_cons, fsOf_nil, fsOf_app, fsOf_tsOf, fsOf_new, fsOf_tag])
  have hsl : OpSl { u with iv := .slice q1 (u.ib.take 201).length k1, ib := u.ib.take 201, cv := .slice q2 (u.cb.take 201).length k2, cb := u.cb.take 201, dv := .slice q3 (u.db.take 201).length k3, db := u.db.take 201, gv := .slice q4 (u.gb.take 201).length k4, gb := u.gb.take 201 } := ⟨⟨_, _, rfl⟩, ⟨_, _, rfl⟩, ⟨_, _, rfl⟩, ⟨_, _, rfl⟩⟩
  (apply LW.store; rfl; rfl; apply SetAt.app; apply SetAt.app; apply SetAt.app; apply SetAt.app; apply SetAt.tail; apply SetAt.head; exact op_wr5; apply LW.v0; rfl; rfl; apply ValP.fieldAddr; rfl; rfl; apply LW.store; rfl; rfl; apply SetAt.app; apply SetAt.app; apply SetAt.app; apply SetAt.app; apply SetAt.tail; apply SetAt.head; exact op_wr6; apply LW.v0; rfl; rfl; apply ValP.fieldAddr; rfl; rfl; apply LW.store; rfl; rfl; apply SetAt.app; apply SetAt.app; apply SetAt.app; apply SetAt.app; apply SetAt.tail; apply SetAt.head; exact op_wr15; apply LW.v0; rfl; rfl; apply ValP.fieldAddr; rfl; rfl; apply LW.store; rfl; rfl; apply SetAt.app; apply SetAt.app; apply SetAt.app; apply SetAt.app; apply SetAt.tail; apply SetAt.head; exact op_wr16; apply LW.nil; refine thenN ?_; refine CW.seq ?_; refine CW.region ?_; apply LW.load; rfl; rfl; apply Known.at; apply FsAt.app; apply FsAt.app; apply FsAt.app; apply FsAt.app; apply FsAt.tail; apply FsAt.head; exact op_rdW; apply LW.store; rfl; rfl; apply SetAt.app; apply SetAt.app; apply SetAt.app; apply SetAt.app; apply SetAt.head; apply Wr.whole; rfl; rfl; rfl; apply LW.nil; refine thenN ?_; refine CW.ret ?_)
  refine fin (vs := [.agg (opa (cutO u (.slice q1 (u.ib.take 201).length k1) (.slice q2 (u.cb.take 201).length k2) (.slice q3 (u.db.take 201).length k3) (.slice q4 (u.gb.take 201).length k4)))]) (g4 ++ (g3 ++ (g2 ++ g1))) (.inl rfl) rfl rfl (by (apply ResL.cons; apply Res.cell; rfl; apply Known.at; apply FsAt.app; apply FsAt.app; apply FsAt.app; apply FsAt.app; apply FsAt.head; exact op_rdW; exact ResL.nil)) ?_ ⟨_, _, _, _, g1, g2, g3, g4, rfl, rfl, ⟨⟨hu.num.sd, hu.num.no, hu.num.vg, hu.num.cg, hu.num.pg, hu.num.mf, hu.num.mp, hu.num.py, hu.num.pv, hu.num.pp⟩, h1', h2', h3', h4'⟩, ⟨⟨_, _, rfl⟩, ⟨_, _, rfl⟩, ⟨_, _, rfl⟩, ⟨_, _, rfl⟩⟩⟩
  exact List.Sublist.append_left (List.Sublist.append_left (List.Sublist.append_left (List.sublist_append_left _ _) _) _) _
theorem blocks_slice_v {x : Value} {n : Nat} (h : ∃ p c, x = .slice p n c) : blocksN 3 x = blocksN 4 x := by
  obtain ⟨p, c, rfl⟩ := h
  cases p <;> rfl
theorem blocks_op {u : OpV} (h : OpSl u) : blocksN 4 (.agg (opa u)) = [u.iv, u.cv, u.dv, u.gv].flatMap (blocksN 4) := by
  show (opc u).flatMap (blocksN 3) = _
  have e : ∀ (k : IntKind) (n : Int), blocksN 3 (.int k n) = [] := fun _ _ => rfl
  simp only [opc, wc, List.flatMap_cons, List.flatMap_nil, List.cons_append, List.nil_append, e, List.append_nil, blocks_slice_v h.i, blocks_slice_v h.c, blocks_slice_v h.d, blocks_slice_v h.g]
end Go.Proofs.YtobkhnmglbfheaaDoor

/-
  What operations may cost, and their factories.
  Conditions: none.
-/
namespace Go.Proofs.YtobkhnmglbfheaaDoor
open Go Go.RowKit SL
set_option maxRecDepth 8000
set_option maxHeartbeats 4000000
set_option linter.unusedSimpArgs false
set_option linter.unusedVariables false
attribute [local irreducible] SL.CW SL.LW SL.DW Calls SL.Ret SL.RetG SL.beginQ SL.roundQ SL.rangeQ SL.inQ SL.RW SL.AnyW SL.thenQ SL.thenC SL.thenW SL.blkQ SL.finQ SL.ValP SL.NewP SL.SetP SL.CallP SL.Rd SL.Wr SL.Known
def gasU (u : OpV) : Nat := u.vg + u.cg + u.pg + u.pv + u.pp
theorem gasU_le {u : OpV} (h : okU u) : gasU u ≤ 100000 := by
  unfold okU at h
  obtain ⟨-, ⟨h1, h2, h3, h4, h5⟩, -⟩ := h
  unfold gasU
  omega
theorem gas_mod {u : OpV} (h : okU u) : ((((u.vg + u.cg) % 18446744073709551616 + u.pg) % 18446744073709551616 + u.pv) % 18446744073709551616 + u.pp) % 18446744073709551616 = gasU u := by
  unfold okU at h
  obtain ⟨-, ⟨h1, h2, h3, h4, h5⟩, -⟩ := h
  unfold gasU
  omega
theorem pre_lt {u : OpV} (h : okU u) (hm : u.mf < 18446744073709551616) : gasU u * u.mf < M256 := by
  have h1 := gasU_le h
  refine Nat.lt_of_le_of_lt (Nat.mul_le_mul h1 (Nat.le_of_lt hm)) ?_
  decide
theorem Prefund_calls (u : OpV) (w : World) (hu : OpAt w u) : Calls Tryd.prog 17 #[.agg (opa u)] w (Ret w (.tuple #[wv (if okU u then gasU u * u.mf else 0), .int .i64 (if okU u then 0 else 280)])) := by
  have hmf := hu.num.mf
  have hCk0 : ∀ w' {fs}, St w [] fs w' → Calls Tryd.prog 8 #[.agg (opa u)] w' (Ret w' (.int .i64 (if okU u then 0 else 280))) := fun w' fs hst => Check_u_calls u w' (hu.st hst)
  by_cases ho : okU u
  · have hMul : ∀ w, Calls Tryd.prog 35 #[wv (gasU u), wv u.mf] w (Ret w (.tuple #[wv (gasU u * u.mf), .bool (decide (M256 ≤ gasU u * u.mf))])) := fun w => by
      have hg := gasU_le ho
      have h64 : (18446744073709551616 : Nat) < M256 := by decide
      have := Mul_calls (gasU u) u.mf (by omega) (by omega) w
      rwa [Nat.mod_eq_of_lt (pre_lt ho hmf)] at this
    have hOf : ∀ w, Calls Tryd.prog 36 #[.int .u64 (((((((u.vg + u.cg) % 18446744073709551616 + u.pg) % 18446744073709551616 + u.pv) % 18446744073709551616 + u.pp) % 18446744073709551616 : Nat)) : Int)] w (Ret w (wv (gasU u))) := fun w => by
      rw [gas_mod ho]
      exact Of_calls (gasU u) (by have := gasU_le ho; omega) w
    have hCk := hCk0
    rw [if_pos ho] at hCk
    rw [if_pos ho, if_pos ho]
    refine enter (args := [_]) _ [] [] Tryd.func17 rfl Tryd.ntmps17 rfl (by simp) .nil ?_
    (refine CW.seq ?_; refine CW.region ?_; apply LW.boxA; rfl; rfl; intro _; apply LW.allocW; rfl; intro _; apply LW.v0; rfl; rfl; apply ValP.assign; rfl; apply LW.nil; refine thenN ?_; refine CW.seq ?_; refine CW.seq ?_; refine CW.region ?_; apply LW.load; rfl; rfl; apply Known.at; apply FsAt.tail; apply FsAt.head; exact Rd.whole rfl; apply LW.callE; rfl; rfl; infer_instance; apply ArgsOk.cons; rfl; exact ArgsOk.nil; intro w _; exact hCk w (by assumption); apply LW.v0; rfl; rfl; apply ValP.assign; rfl; apply LW.nil; refine thenN ?_; refine CW.seq ?_; refine CW.region ?_; apply LW.v0; rfl; rfl; apply ValP.move; rfl; apply LW.v0; rfl; rfl; apply ValP.neF; rfl; rfl; omega; apply LW.nil; refine thenN ?_; apply CW.condF; rfl; (with_reducible rfl); refine CW.skip ?_; refine thenN ?_; refine CW.seq ?_; apply CW.pre; refine AnyW.any 24 mixed (by decide +kernel) ?_; (try simp only [tsOf_cons, tsOf_nil, tsOf_app]); apply DW.v0; rfl; rfl; rfl; exact WantT.none; rfl; apply ValP.fieldAddr; rfl; rfl; apply DW.loadO; rfl; rfl; rfl; exact WantT.none; rfl; apply TRead.tail; apply TRead.head; exact ancB_nil; exact op_rd7; apply DW.v0; rfl; rfl; rfl; exact WantT.none; rfl; apply ValP.fieldAddr; rfl; rfl; apply DW.loadO; rfl; rfl; rfl; exact WantT.none; rfl; apply TRead.tail; apply TRead.head; exact ancB_nil; exact op_rd8; apply DW.v0; rfl; rfl; rfl; exact WantT.none; rfl; apply ValP.addN; rfl; rfl; apply DW.v0; rfl; rfl; rfl; exact WantT.none; rfl; apply ValP.fieldAddr; rfl; rfl; apply DW.loadO; rfl; rfl; rfl; exact WantT.none; rfl; apply TRead.tail; apply TRead.head; exact ancB_nil; exact op_rd9; apply DW.v0; rfl; rfl; rfl; exact WantT.none; rfl; apply ValP.addN; rfl; rfl; apply DW.v0; rfl; rfl; rfl; exact WantT.none; rfl; apply ValP.fieldAddr; rfl; rfl; apply DW.loadO; rfl; rfl; rfl; exact WantT.none; rfl; apply TRead.tail; apply TRead.head; exact ancB_nil; exact op_rd13; apply DW.v0; rfl; rfl; rfl; exact WantT.none; rfl; apply ValP.addN; rfl; rfl; apply DW.v0; rfl; rfl; rfl; exact WantT.none; rfl; apply ValP.fieldAddr; rfl; rfl; apply DW.loadO; rfl; rfl; rfl; exact WantT.none; rfl; apply TRead.tail; apply TRead.head; exact ancB_nil; exact op_rd14; apply DW.v0; rfl; rfl; rfl; exact WantT.none; rfl; apply ValP.addN; rfl; rfl; apply DW.callE; rfl; rfl; rfl; exact WantT.none; rfl; infer_instance; apply ArgsOk.cons; rfl; exact ArgsOk.nil; rfl; exact ReadAll.nil; intro w _ _; exact hOf w; apply DW.v0; rfl; rfl; rfl; exact WantT.none; rfl; apply ValP.fieldAddr; rfl; rfl; apply DW.loadO; rfl; rfl; rfl; exact WantT.none; rfl; apply TRead.tail; apply TRead.head; exact ancB_nil; exact op_rd10; apply DW.callE; rfl; rfl; rfl; exact WantT.none; rfl; infer_instance; apply ArgsOk.cons; rfl; exact ArgsOk.nil; rfl; exact ReadAll.nil; intro w _ _; exact Of_calls u.mf hmf w; apply DW.callE; rfl; rfl; rfl; exact WantT.none; rfl; infer_instance; apply ArgsOk.cons; rfl; apply ArgsOk.cons; rfl; exact ArgsOk.nil; rfl; exact ReadAll.nil; intro w _ _; exact hMul w; apply DW.v0; rfl; rfl; rfl; exact WantT.none; rfl; apply ValP.move; rfl; apply DW.v0; rfl; rfl; rfl; exact WantT.none; rfl; apply ValP.extractN; rfl; rfl; apply DW.v0; rfl; rfl; rfl; exact WantT.none; rfl; apply ValP.extractN; rfl; rfl; apply DW.allocW; rfl; rfl; rfl; exact WantT.none; intro _; apply DW.store; rfl; rfl; exact WantT.none; rfl; rfl; apply TSet.head; kernel_rfl; exact ancB_nil; apply Wr.whole; rfl; rfl; rfl; apply DW.nil; simp only [fsOf_cons, fsOf_nil, fsOf_app, fsOf_tsOf, fsOf_new]; apply LW.v0; rfl; rfl; apply ValP.assign; rfl; apply LW.nil; refine thenN ?_; refine CW.seq ?_; refine CW.region ?_; apply LW.load; rfl; rfl; apply Known.at; apply FsAt.head; exact Rd.whole rfl; apply LW.store; rfl; rfl; apply SetAt.tail; apply SetAt.head; apply Wr.whole; rfl; rfl; rfl; apply LW.v0; rfl; rfl; apply ValP.assign; rfl; apply LW.nil; refine thenN ?_; refine CW.ret ?_)
    (apply finR; exact .inl rfl; rfl; rfl; rfl; apply ResL.cons; apply Res.cell; rfl; apply Known.at; apply FsAt.tail; apply FsAt.head; exact Rd.whole rfl; apply ResL.cons; exact Res.tmp rfl; exact ResL.nil)
    rfl
  · have hCk := hCk0
    rw [if_neg ho] at hCk
    rw [if_neg ho, if_neg ho]
    refine enter (args := [_]) _ [] [] Tryd.func17 rfl Tryd.ntmps17 rfl (by simp) .nil ?_
    (refine CW.seq ?_; refine CW.region ?_; apply LW.boxA; rfl; rfl; intro _; apply LW.allocW; rfl; intro _; apply LW.v0; rfl; rfl; apply ValP.assign; rfl; apply LW.nil; refine thenN ?_; refine CW.seq ?_; refine CW.seq ?_; refine CW.region ?_; apply LW.load; rfl; rfl; apply Known.at; apply FsAt.tail; apply FsAt.head; exact Rd.whole rfl; apply LW.callE; rfl; rfl; infer_instance; apply ArgsOk.cons; rfl; exact ArgsOk.nil; intro w _; exact hCk w (by assumption); apply LW.v0; rfl; rfl; apply ValP.assign; rfl; apply LW.nil; refine thenN ?_; refine CW.seq ?_; refine CW.region ?_; apply LW.v0; rfl; rfl; apply ValP.move; rfl; apply LW.v0; rfl; rfl; apply ValP.neT; rfl; rfl; omega; apply LW.nil; refine thenN ?_; apply CW.condT; rfl; (with_reducible rfl); refine CW.seq ?_; refine CW.region ?_; apply LW.v0; rfl; rfl; exact ValP.buildW0; apply LW.v0; rfl; rfl; apply ValP.move; rfl; apply LW.store; rfl; rfl; apply SetAt.head; apply Wr.whole; rfl; rfl; rfl; apply LW.v0; rfl; rfl; apply ValP.assign; rfl; apply LW.nil; refine thenN ?_; refine CW.ret ?_; refine thenR ?_)
    (apply finR; exact .inl rfl; rfl; rfl; rfl; apply ResL.cons; apply Res.cell; rfl; apply Known.at; apply FsAt.head; exact Rd.whole rfl; apply ResL.cons; exact Res.tmp rfl; exact ResL.nil)
    rfl
end Go.Proofs.YtobkhnmglbfheaaDoor

/-
  Operations of accounts: does the layer do anything?
  Conditions: none.
-/
namespace Go.Proofs.YtobkhnmglbfheaaDoor
open Go Go.RowKit SL
set_option maxRecDepth 8000
set_option maxHeartbeats 4000000
set_option linter.unusedSimpArgs false
set_option linter.unusedVariables false
attribute [local irreducible] SL.CW SL.LW SL.DW Calls SL.Ret SL.RetG SL.beginQ SL.roundQ SL.rangeQ SL.inQ SL.RW SL.AnyW SL.thenQ SL.thenC SL.thenW SL.blkQ SL.finQ SL.ValP SL.NewP SL.SetP SL.CallP SL.Rd SL.Wr SL.Known
def uW : OpV := { u00 with sd := 20, vg := 100, cg := 50, pg := 30, mf := 10, mp := 2 }
def uX : OpV := { uW with mp := 11 }
theorem uW_at (w : World) : OpAt w uW := ⟨by constructor <;> decide, RowAt.nil, RowAt.nil, RowAt.nil, RowAt.nil⟩
theorem uX_at (w : World) : OpAt w uX := ⟨by constructor <;> decide, RowAt.nil, RowAt.nil, RowAt.nil, RowAt.nil⟩
theorem uW_ok : okU uW := by decide
theorem uX_no : ¬okU uX := by decide
theorem uW_len : (encB uW).length = 576 := by decide +kernel
theorem sd_of {u v : OpV} (h : opD u = opD v) : u.sd = v.sd := ((sameU_iff u v).1 ((opD_iff u v).1 h)).1.1.1
theorem wakes_u_calls (w : World) : Calls Tryd.prog 5 #[] w (Ret w (.bool true)) := by
  have hWx : Wr Tryd.prog 23 (.cells (opa uW) 30 (0, 0)) (0 + 11) (.int .u64 11) (.cells (opa uX) 30 (0, 0)) := Wr.cells (n := 1) rfl rfl (by decide) rfl
  have hslW : OpSl uW := (uW_at w).sl
  have hPre : ∀ w, Calls Tryd.prog 17 #[.agg (opa uW)] w (Ret w (.tuple #[wv 1800, .int .i64 0])) := fun w => by
    have := Prefund_calls uW w (uW_at w)
    rwa [if_pos uW_ok, if_pos uW_ok, show gasU uW * uW.mf = 1800 from rfl] at this
  have hCk : ∀ w, Calls Tryd.prog 8 #[.agg (opa uX)] w (Ret w (.int .i64 280)) := fun w => by
    have := Check_u_calls uX w (uX_at w)
    rwa [if_neg uX_no] at this
  refine enter (args := []) _ [] [] Tryd.func5 rfl Tryd.ntmps5 rfl (by simp) .nil ?_
  (refine CW.seq ?_; refine CW.region ?_; apply LW.v0; rfl; rfl; apply ValP.assign; rfl; apply LW.nil; refine thenN ?_; refine CW.seq ?_; refine CW.region ?_; apply LW.v0; rfl; rfl; apply ValP.buildT; infer_instance; infer_instance; apply PartsOk.cons; rfl; apply PartsOk.cons; rfl; apply PartsOk.cons; rfl; apply PartsOk.cons; rfl; apply PartsOk.cons; rfl; apply PartsOk.cons; rfl; exact PartsOk.nil; rfl; simp only [fillP, wrCells, Value.cells, List.getElem?_cons_zero, List.getElem?_cons_succ, List.toList_toArray, List.setIfInBounds_toArray, List.set_cons_succ, List.set_cons_zero, Nat.reduceAdd, Nat.zero_add]; rfl; apply LW.allocA; rfl; intro _; apply LW.store; rfl; rfl; apply SetAt.head; apply Wr.whole; rfl; rfl; rfl; apply LW.nil; refine thenN ?_; refine CW.seq ?_; refine CW.region ?_; apply LW.load; rfl; rfl; apply Known.at; apply FsAt.head; exact Rd.whole rfl)
  refine LW.callR rfl rfl inferInstance (by (apply ArgsOk.cons; rfl; exact ArgsOk.nil)) (fun w hst => Encode_calls uW w (uW_at w)) ?_
  rintro v4 gs4 ⟨bv, rfl, hrow⟩
  obtain ⟨hdo, hdd⟩ := dec_enc uW_ok (uW_at w).num
  have hlen := uW_len
  rw [if_pos uW_ok, if_pos uW_ok] at hrow
  rw [if_pos uW_ok]
  obtain ⟨X, hX⟩ : ∃ X, encB uW = X := ⟨_, rfl⟩
  rw [hX] at hrow hdo hdd hlen
  obtain ⟨pb, cb, rfl⟩ := hrow.form
  (apply LW.v0; rfl; rfl; apply ValP.move; rfl; apply LW.v0; rfl; rfl; apply ValP.extractN; rfl; rfl; apply LW.v0; rfl; rfl; apply ValP.extractN; rfl; rfl; apply LW.v0; rfl; rfl; apply ValP.assign; rfl; apply LW.v0; rfl; rfl; apply ValP.assign; rfl; apply LW.nil; refine thenN ?_; refine CW.seq ?_; refine CW.region ?_; apply LW.v0; rfl; rfl; apply ValP.move; rfl)
  refine LW.callR rfl rfl inferInstance (by (apply ArgsOk.cons; rfl; exact ArgsOk.nil)) (fun w hst => Decode_calls X _ w (hrow.us (st_us hst (by (exact List.sublist_append_left _ _))) (List.Sublist.refl _))) ?_
  rintro v5 gs5 ⟨u', rfl, hG, hd⟩
  rw [if_pos hdo] at hd ⊢
  have hsd : u'.sd = 20 := sd_of (hd.trans hdd)
  have hr0 : ∀ {E fr}, Rd Tryd.prog 25 (.cells (opa u') E fr) 0 (.int .u64 20) := fun {E fr} => by have := op_rd0 (P := Tryd.prog) (T := 25) (E := E) (fr := fr) (u := u'); rwa [hsd] at this
  rw [hlen]
  refine LW.st fun w1 hst1 => ?_
  have hsl' : OpSl u' := (hG w1 (st_us hst1 (by (exact List.sublist_append_left _ _)))).sl
  clear hst1 w1
  (apply LW.v0; rfl; rfl; apply ValP.move; rfl; apply LW.v0; rfl; rfl; apply ValP.extractN; rfl; rfl; apply LW.v0; rfl; rfl; apply ValP.extractN; rfl; rfl; apply LW.allocA; rfl; intro _; apply LW.store; rfl; rfl; apply SetAt.head; apply op_wrW; rfl; assumption; apply LW.v0; rfl; rfl; apply ValP.assign; rfl; apply LW.nil; refine thenN ?_; refine CW.seq ?_; refine CW.region ?_; apply LW.load; rfl; rfl; apply Known.at; apply FsAt.tail; apply FsAt.app; apply FsAt.app; apply FsAt.head; exact Rd.whole rfl; apply LW.callE; rfl; rfl; infer_instance; apply ArgsOk.cons; rfl; exact ArgsOk.nil; intro w _; exact hPre w; apply LW.v0; rfl; rfl; apply ValP.move; rfl; apply LW.v0; rfl; rfl; apply ValP.extractN; rfl; rfl; apply LW.v0; rfl; rfl; apply ValP.extractN; rfl; rfl; apply LW.allocW; rfl; intro _; apply LW.store; rfl; rfl; apply SetAt.head; apply Wr.whole; rfl; rfl; rfl; apply LW.v0; rfl; rfl; apply ValP.assign; rfl; apply LW.nil; refine thenN ?_; refine CW.seq ?_; refine CW.region ?_; apply LW.v0; rfl; rfl; apply ValP.fieldAddr; rfl; rfl; apply LW.store; rfl; rfl; apply SetAt.tail; apply SetAt.tail; apply SetAt.app; apply SetAt.app; apply SetAt.head; exact hWx; apply LW.nil; refine thenN ?_; refine CW.seq ?_; refine CW.region ?_; apply LW.v0; rfl; rfl; apply ValP.move; rfl; apply LW.v0; rfl; rfl; apply ValP.eqT; rfl; rfl; omega; apply LW.v0; rfl; rfl; apply ValP.move; rfl; apply LW.guardT'; rfl; rfl; (with_reducible rfl); apply LW.v0; rfl; rfl; apply ValP.move; rfl; apply LW.guardT'; rfl; rfl; (with_reducible rfl); apply LW.v0; rfl; rfl; apply ValP.eqT; rfl; rfl; omega; apply LW.v0; rfl; rfl; apply ValP.pickT'; rfl; (with_reducible rfl); rfl; apply LW.v0; rfl; rfl; apply ValP.move; rfl; apply LW.guardT'; rfl; rfl; (with_reducible rfl); apply LW.v0; rfl; rfl; apply ValP.move; rfl; apply LW.guardT'; rfl; rfl; (with_reducible rfl); apply LW.v0; rfl; rfl; apply ValP.eqT; rfl; rfl; omega; apply LW.v0; rfl; rfl; apply ValP.pickT'; rfl; (with_reducible rfl); rfl; apply LW.v0; rfl; rfl; apply ValP.move; rfl; apply LW.guardT'; rfl; rfl; (with_reducible rfl); apply LW.v0; rfl; rfl; apply ValP.move; rfl; apply LW.guardT'; rfl; rfl; (with_reducible rfl); apply LW.v0; rfl; rfl; apply ValP.lenR; rfl; infer_instance; rfl; apply LW.guardT'; rfl; rfl; (with_reducible rfl); apply LW.v0; rfl; rfl; apply ValP.eqT; rfl; rfl; omega; apply LW.v0; rfl; rfl; apply ValP.pickT'; rfl; (with_reducible rfl); rfl; apply LW.v0; rfl; rfl; apply ValP.move; rfl; apply LW.guardT'; rfl; rfl; (with_reducible rfl); apply LW.v0; rfl; rfl; apply ValP.fieldAddr; rfl; rfl; apply LW.guardT'; rfl; rfl; (with_reducible rfl); apply LW.load; rfl; rfl; apply Known.at; apply FsAt.tail; apply FsAt.head; exact op_rd0; apply LW.guardT'; rfl; rfl; (with_reducible rfl); apply LW.v0; rfl; rfl; apply ValP.eqT; rfl; rfl; omega; apply LW.v0; rfl; rfl; apply ValP.pickT'; rfl; (with_reducible rfl); rfl; apply LW.v0; rfl; rfl; apply ValP.move; rfl; apply LW.guardT'; rfl; rfl; (with_reducible rfl); apply LW.load; rfl; rfl; apply Known.at; apply FsAt.head; exact Rd.whole rfl; apply LW.guardT'; rfl; rfl; (with_reducible rfl); apply LW.v0; rfl; rfl; apply ValP.buildW1L; rfl; decide; rfl; apply LW.guardT'; rfl; rfl; (with_reducible rfl); apply LW.v0; rfl; rfl; apply ValP.eqWT; rfl; rfl; (with_reducible rfl); apply LW.v0; rfl; rfl; apply ValP.pickT'; rfl; (with_reducible rfl); rfl; apply LW.v0; rfl; rfl; apply ValP.move; rfl; apply LW.guardT'; rfl; rfl; (with_reducible rfl); apply LW.load; rfl; rfl; apply Known.at; apply FsAt.tail; apply FsAt.tail; apply FsAt.app; apply FsAt.app; apply FsAt.head; exact op_rdW; apply LW.guardT'; rfl; rfl; (with_reducible rfl); apply LW.callE; rfl; rfl; infer_instance; apply ArgsOk.cons; rfl; exact ArgsOk.nil; intro w _; exact hCk w; apply LW.guardT'; rfl; rfl; (with_reducible rfl); apply LW.v0; rfl; rfl; apply ValP.eqT; rfl; rfl; omega; apply LW.v0; rfl; rfl; apply ValP.pickT'; rfl; (with_reducible rfl); rfl; apply LW.v0; rfl; rfl; apply ValP.assign; rfl; apply LW.nil; refine thenN ?_; refine CW.ret ?_)
  trace_state
  (apply finR; exact .inl rfl; rfl; rfl; rfl; apply ResL.cons; exact Res.tmp rfl; exact ResL.nil)
  rfl
end Go.Proofs.YtobkhnmglbfheaaDoor

/-
  Which operations may be, are one, their bytes and hashes: the law.
  Conditions: none.
-/
namespace Go.Proofs.YtobkhnmglbfheaaDoor
open Go Go.RowKit SL
set_option maxRecDepth 8000
set_option maxHeartbeats 4000000
set_option linter.unusedSimpArgs false
set_option linter.unusedVariables false
attribute [local irreducible] SL.CW SL.LW SL.DW Calls SL.Ret SL.RetG SL.beginQ SL.roundQ SL.rangeQ SL.inQ SL.RW SL.AnyW SL.thenQ SL.thenC SL.thenW SL.blkQ SL.finQ SL.ValP SL.NewP SL.SetP SL.CallP SL.Rd SL.Wr SL.Known
attribute [local irreducible] digW hashU
theorem cut_same {u : OpV} {a b c d a' b' c' d' : Value} : sameU (cutO u a b c d) (cutO u a' b' c' d') = true := (opD_iff _ _).1 rfl
def rbM (u : OpV) (v : Value) (gs : Fs) : Prop := IsRow 5 1 v (encB u).length (ucs (encB u)) gs
theorem UseropLays_walk (v0 : Value) (l0 : List OpV) (chain : Nat) (hc : chain < 18446744073709551616) (w : World) (hr0 : OpsAt w v0 l0) (hL : SK.TurnAt w ∧ SK.NumAt w) : Calls Tryd.prog 3 #[v0, .int .u64 (chain : Int)] w (Ret w (.bool true)) := by
  obtain ⟨hT, hN⟩ := hL
  obtain ⟨p0, c0, rfl, hc0, hm0⟩ := hr0.row.form
  simp only [maxLen] at hm0
  refine enter (args := [_, _]) _ [] [] Tryd.func3 rfl Tryd.ntmps3 rfl (by simp) .nil ?_
  (refine CW.seq ?_; refine CW.region ?_; apply LW.v0; rfl; rfl; apply ValP.assign; rfl; apply LW.nil; refine thenN ?_; refine CW.seq ?_; refine CW.seq ?_; refine CW.region ?_; apply LW.callE; rfl; rfl; infer_instance; exact ArgsOk.nil; intro w _; exact wakes_u_calls w; apply LW.v0; rfl; rfl; apply ValP.notT; rfl; (with_reducible rfl); apply LW.nil; refine thenN ?_; apply CW.condF; rfl; (with_reducible rfl); refine CW.skip ?_; refine thenN ?_; refine CW.seq ?_; refine CW.seq ?_; refine CW.region ?_; apply LW.v0; rfl; rfl; apply ValP.move; rfl; apply LW.v0; rfl; rfl; apply ValP.lenR; rfl; infer_instance; rfl; apply LW.v0; rfl; rfl; apply ValP.move; rfl; apply LW.nil; refine thenN ?_; refine CW.block ?_)
  refine CW.loop (fun m : Nat => ([(19, .int .i64 (m : Int)), (18, .int .i64 (l0.length : Int)), (17, .slice p0 l0.length c0), (0, .slice p0 l0.length c0), (1, .int .u64 (chain : Int))], []))
    (fun m => m ≤ l0.length ∧ m ≤ 8) (fun m => l0.length - m) 0 ⟨Nat.zero_le _, Nat.zero_le _⟩ ⟨rfl, rfl, rfl, rfl, rfl, trivial⟩ (List.Sublist.refl _) ?_
  rintro m ⟨hml, hm8⟩
  dsimp only
  rcases Nat.lt_or_ge m l0.length with hlt | hge
  · obtain ⟨bb, off, c', cs, E, fr, heq, hb', hx⟩ := hr0.row.pos (by omega)
    cases heq
    have h0l : 0 < l0.length := by omega
    have hrd : Rd Tryd.prog 30 (.cells cs E fr) (off + m * 17) (.agg (opa l0[m])) := Rd.elemA (g := opc) (l := l0) (a := l0[m]) hx (opc_len l0) (List.getElem?_eq_getElem hlt)
    have hrd0 : Rd Tryd.prog 30 (.cells cs E fr) (off + 0 * 17) (.agg (opa l0[0])) := Rd.elemA (g := opc) (l := l0) (a := l0[0]) hx (opc_len l0) (List.getElem?_eq_getElem h0l)
    have hu := hr0.at_ l0[m] (List.getElem_mem hlt)
    have hf := hr0.at_ l0[0] (List.getElem_mem h0l)
    generalize l0[m] = u at hrd hu
    generalize l0[0] = f at hrd0 hf
    have hslu := hu.sl
    rcases Nat.lt_or_ge m 8 with h8 | h8
    · (refine CW.seq ?_; refine CW.region ?_; apply LW.v0; rfl; rfl; apply ValP.lssT; rfl; rfl; omega; apply LW.nil; refine thenN ?_; refine CW.seq ?_; apply CW.condT; rfl; (with_reducible rfl); refine CW.skip ?_; refine thenN ?_; refine CW.seq ?_; refine CW.block ?_; refine CW.seq ?_; refine CW.region ?_; apply LW.v0; rfl; rfl; apply ValP.move; rfl; apply LW.v0; rfl; rfl; apply ValP.indexAddrS; rfl; rfl; rfl; omega; apply LW.load; rfl; rfl; exact Known.ext (by assumption) (by simp); assumption; apply LW.allocA; rfl; intro _; apply LW.v0; rfl; rfl; apply ValP.assign; rfl; apply LW.store; rfl; rfl; apply SetAt.head; apply op_wrW; rfl; assumption; apply LW.nil; refine thenN ?_; refine CW.seq ?_; refine CW.seq ?_; refine CW.region ?_; apply LW.v0; rfl; rfl; apply ValP.move; rfl; apply LW.v0; rfl; rfl; apply ValP.eqF; rfl; rfl; omega; apply LW.nil; refine thenN ?_; apply CW.condF; rfl; (with_reducible rfl); refine CW.skip ?_; refine thenN ?_; refine CW.seq ?_)
      apply CW.pre
      (refine AnyW.anyM [(1, fewO3 u), (5, fewO3 f)] 8 mixed (by decide +kernel) ?_)
      ((try simp only [tsOf_cons, tsOf_nil, tsOf_app]); apply DW.loadO; rfl; rfl; rfl; exact WantT.none; rfl; apply TRead.head; exact ancB_nil; exact op_rdW)
      refine DW.manyK rfl rfl rfl (by (exact WantT.none)) rfl inferInstance (by (apply ArgsOk.cons; rfl; exact ArgsOk.nil)) (.flat (blocks_op hu.sl) (.ext hu.i rfl (.ext hu.c rfl (.ext hu.d rfl (.ext hu.g rfl .nil))))) (fun w hb hK => few_u_calls3 u w ⟨hu.num, hK.1, hK.2.1, hK.2.2.1, hK.2.2.2.1⟩) ?_
      rintro vU gU ⟨a1, a2, a3, a4, g1, g2, g3, g4, rfl, rfl, hIU, hslU⟩
      obtain ⟨U, hU⟩ : ∃ U, cutO u a1 a2 a3 a4 = U := ⟨_, rfl⟩
      rw [hU] at hIU hslU ⊢
      simp only [tsNew_app, List.append_assoc]
      ((try simp only [tsOf_cons, tsOf_nil, tsOf_app]); apply DW.v0; rfl; rfl; rfl; exact WantT.none; rfl; apply ValP.move; rfl; apply DW.v0; rfl; rfl; rfl; exact WantT.none; rfl; apply ValP.indexAddrSL; rfl; rfl; decide; omega; apply DW.loadX; rfl; rfl; rfl; exact WantT.none; rfl; assumption; simp; assumption)
      refine DW.manyK rfl rfl rfl (by (exact WantT.none)) rfl inferInstance (by (apply ArgsOk.cons; rfl; exact ArgsOk.nil)) (.flat (blocks_op hf.sl) (.ext hf.i rfl (.ext hf.c rfl (.ext hf.d rfl (.ext hf.g rfl .nil))))) (fun w hb hK => few_u_calls3 f w ⟨hf.num, hK.1, hK.2.1, hK.2.2.1, hK.2.2.2.1⟩) ?_
      rintro vF gF ⟨a1, a2, a3, a4, f1, f2, f3, f4, rfl, rfl, hIF, hslF⟩
      obtain ⟨F, hF⟩ : ∃ F, cutO f a1 a2 a3 a4 = F := ⟨_, rfl⟩
      rw [hF] at hIF hslF ⊢
      simp only [tsNew_app, List.append_assoc]
      ((try simp only [tsOf_cons, tsOf_nil, tsOf_app]); apply DW.allocA; rfl; rfl; rfl; exact WantT.none; intro _; apply DW.allocA; rfl; rfl; rfl; exact WantT.none; intro _; apply DW.nil; simp only [fsOf_cons, fsOf_nil, fsOf_app, fsOf_tsOf, fsOf_new, fsOf_tag])
      refine LW.st fun w1 hst1 => ?_
      have nU : OpNum U := hIU.num
      clear hst1 w1
      have hGU := hIU.gs
      have hRt0 : ∀ w', (∀ q ∈ g4 ++ (g3 ++ (g2 ++ g1)), w'.heap[q.1]? = some q.2) → Calls Tryd.prog 7 #[.agg (opa U)] w' (Ret w' (.bool (decide (okU U)))) := fun w' h => Right_calls U w' (hGU w' h)
      have hCk0 : ∀ w', (∀ q ∈ g4 ++ (g3 ++ (g2 ++ g1)), w'.heap[q.1]? = some q.2) → Calls Tryd.prog 8 #[.agg (opa U)] w' (Ret w' (.int .i64 (if okU U then 0 else 280))) := fun w' h => Check_u_calls U w' (hGU w' h)
      have hHs0 : ∀ w' {fs}, St w [] fs w' → (∀ q ∈ g4 ++ (g3 ++ (g2 ++ g1)), w'.heap[q.1]? = some q.2) → Calls Tryd.prog 12 #[.agg (opa U), .int .u64 (chain : Int)] w' (Ret w' (.tuple #[wv (if okU U then hashU U chain else 0), .int .i64 (if okU U then 0 else 280)])) := fun w' fs hst h => Hash_u_calls U chain w' (hGU w' h) hc (hT.st hst) (hN.st hst)
      have hUc : ∀ b1 b2 b3 b4, sameU U (cutO u b1 b2 b3 b4) = true := fun b1 b2 b3 b4 => by rw [← hU]; exact cut_same
      have hSW : ∀ A B : OpV, sameU A B = true → ∀ w', OpAt w' A → OpAt w' B → Calls Tryd.prog 9 #[.agg (opa A), .agg (opa B)] w' (Ret w' (.bool true)) := fun A B h w' hA hB => by
        have := uSame_calls A B w' hA hB
        rwa [h] at this
      have hSZ : ∀ A B : OpV, sameU A B = true → ∀ w', OpAt w' A → OpAt w' B → Calls Tryd.prog 10 #[.agg (opa A), .agg (opa B)] w' (Ret w' (.bool true)) := fun A B h w' hA hB => by
        have := rUSame_calls A B w' hA hB
        rwa [h] at this
      by_cases ho : okU U
      · have hRt := hRt0
        rw [decide_eq_true ho] at hRt
        have hCk := hCk0
        rw [if_pos ho] at hCk
        have hHs := @hHs0
        rw [if_pos ho, if_pos ho] at hHs
        clear hRt0 hCk0 hHs0
        (apply LW.store; rfl; rfl; apply SetAt.tail; apply SetAt.head; apply op_wrW; rfl; assumption; apply LW.store; rfl; rfl; apply SetAt.head; apply op_wrW; rfl; assumption; apply LW.nil; refine thenN ?_; refine CW.seq ?_; refine CW.region ?_; apply LW.load; rfl; rfl; apply Known.at; apply FsAt.tail; apply FsAt.head; exact op_rdW; apply LW.callE; rfl; rfl; infer_instance; apply ArgsOk.cons; rfl; exact ArgsOk.nil; intro w _; rename_i hst; (exact hRt w (st_us hst (by (repeat (first | exact List.Sublist.refl _ | exact List.sublist_append_left _ _ | apply List.Sublist.append_left | apply List.Sublist.cons | apply List.sublist_append_of_sublist_right))))); apply LW.v0; rfl; rfl; apply ValP.assign; rfl; apply LW.nil; refine thenN ?_; refine CW.seq ?_; refine CW.seq ?_; refine CW.region ?_; apply LW.load; rfl; rfl; apply Known.at; apply FsAt.tail; apply FsAt.head; exact op_rdW; apply LW.callE; rfl; rfl; infer_instance; apply ArgsOk.cons; rfl; exact ArgsOk.nil; intro w _; rename_i hst; (exact hCk w (st_us hst (by (repeat (first | exact List.Sublist.refl _ | exact List.sublist_append_left _ _ | apply List.Sublist.append_left | apply List.Sublist.cons | apply List.sublist_append_of_sublist_right))))); apply LW.v0; rfl; rfl; apply ValP.assign; rfl; apply LW.nil; refine thenN ?_; refine CW.seq ?_)
        apply CW.pre
        (refine AnyW.anyM [(24, fewO3 u)] 25 mixed (by decide +kernel) ?_)
        ((try simp only [tsOf_cons, tsOf_nil, tsOf_app]); apply DW.v0; rfl; rfl; rfl; exact WantT.none; rfl; apply ValP.move; rfl; apply DW.v0; rfl; rfl; rfl; exact WantT.none; rfl; apply ValP.eqT; rfl; rfl; omega; apply DW.v0; rfl; rfl; rfl; exact WantT.none; rfl; apply ValP.move; rfl; apply DW.v0; rfl; rfl; rfl; exact WantT.none; rfl; apply ValP.boolNeF; rfl; rfl; (with_reducible rfl); apply DW.v0; rfl; rfl; rfl; exact WantT.none; rfl; apply ValP.move; rfl; apply DW.v0; rfl; rfl; rfl; apply wantYes; rfl; rfl; (with_reducible rfl); rfl; apply ValP.move; rfl; apply DW.v0; rfl; rfl; rfl; apply wantYes; rfl; rfl; (with_reducible rfl); rfl; apply ValP.notT; rfl; (with_reducible rfl); apply DW.v0; rfl; rfl; rfl; apply wantYes; rfl; rfl; (with_reducible rfl); rfl; apply ValP.move; rfl; apply DW.skip'; rfl; rfl; rfl; rfl; simp only [Bool.not_true, Bool.not_false]; apply DW.skip'; rfl; rfl; rfl; rfl; simp only [Bool.not_true, Bool.not_false]; apply DW.v0; rfl; rfl; rfl; apply wantYes; rfl; rfl; (with_reducible rfl); rfl; apply ValP.pickF'; rfl; (with_reducible rfl); rfl; apply DW.v0; rfl; rfl; rfl; exact WantT.none; rfl; apply ValP.pickF'; rfl; (with_reducible rfl); rfl; apply DW.v0; rfl; rfl; rfl; exact WantT.none; rfl; apply ValP.move; rfl; apply DW.loadO; rfl; rfl; rfl; apply wantYes; rfl; rfl; (with_reducible rfl); rfl; apply TRead.tail; apply TRead.head; exact ancB_nil; exact op_rdW; apply DW.loadO; rfl; rfl; rfl; apply wantYes; rfl; rfl; (with_reducible rfl); rfl; apply TRead.head; exact ancB_nil; exact op_rdW)
        refine DW.callK rfl rfl rfl (by (apply wantYes; rfl; rfl; (with_reducible rfl))) rfl inferInstance (by (apply ArgsOk.cons; rfl; apply ArgsOk.cons; rfl; exact ArgsOk.nil)) (.flat (blocks_op hslU) (.row hIU.i (by (apply TSeg.cons; apply TSeg.cons; apply TSeg.app; apply TSeg.app; apply TSeg.app; apply TSeg.app; apply TSeg.app; apply TSeg.app; apply TSeg.app; apply TSeg.tag; exact ancB_nil)) (.row hIU.c (by (apply TSeg.cons; apply TSeg.cons; apply TSeg.app; apply TSeg.app; apply TSeg.app; apply TSeg.app; apply TSeg.app; apply TSeg.app; apply TSeg.tag; exact ancB_nil)) (.row hIU.d (by (apply TSeg.cons; apply TSeg.cons; apply TSeg.app; apply TSeg.app; apply TSeg.app; apply TSeg.app; apply TSeg.app; apply TSeg.tag; exact ancB_nil)) (.row hIU.g (by (apply TSeg.cons; apply TSeg.cons; apply TSeg.app; apply TSeg.app; apply TSeg.app; apply TSeg.app; apply TSeg.tag; exact ancB_nil)) (.flat (blocks_op hslF) (.row hIF.i (by (apply TSeg.cons; apply TSeg.cons; apply TSeg.app; apply TSeg.app; apply TSeg.app; apply TSeg.tag; exact ancB_nil)) (.row hIF.c (by (apply TSeg.cons; apply TSeg.cons; apply TSeg.app; apply TSeg.app; apply TSeg.tag; exact ancB_nil)) (.row hIF.d (by (apply TSeg.cons; apply TSeg.cons; apply TSeg.app; apply TSeg.tag; exact ancB_nil)) (.row hIF.g (by (apply TSeg.cons; apply TSeg.cons; apply TSeg.tag; exact ancB_nil)) .nil)))))))))) (fun w hb hK => uSame_calls U F w ⟨hIU.num, hK.1, hK.2.1, hK.2.2.1, hK.2.2.2.1⟩ ⟨hIF.num, hK.2.2.2.2.1, hK.2.2.2.2.2.1, hK.2.2.2.2.2.2.1, hK.2.2.2.2.2.2.2.1⟩) ?_
        ((try simp only [tsOf_cons, tsOf_nil, tsOf_app]); apply DW.loadO; rfl; rfl; rfl; apply wantYes; rfl; rfl; (with_reducible rfl); rfl; apply TRead.tail; apply TRead.head; exact ancB_nil; exact op_rdW; apply DW.loadO; rfl; rfl; rfl; apply wantYes; rfl; rfl; (with_reducible rfl); rfl; apply TRead.head; exact ancB_nil; exact op_rdW)
        refine DW.callK rfl rfl rfl (by (apply wantYes; rfl; rfl; (with_reducible rfl))) rfl inferInstance (by (apply ArgsOk.cons; rfl; apply ArgsOk.cons; rfl; exact ArgsOk.nil)) (.flat (blocks_op hslU) (.row hIU.i (by (apply TSeg.cons; apply TSeg.cons; apply TSeg.app; apply TSeg.app; apply TSeg.app; apply TSeg.app; apply TSeg.app; apply TSeg.app; apply TSeg.app; apply TSeg.tag; exact ancB_nil)) (.row hIU.c (by (apply TSeg.cons; apply TSeg.cons; apply TSeg.app; apply TSeg.app; apply TSeg.app; apply TSeg.app; apply TSeg.app; apply TSeg.app; apply TSeg.tag; exact ancB_nil)) (.row hIU.d (by (apply TSeg.cons; apply TSeg.cons; apply TSeg.app; apply TSeg.app; apply TSeg.app; apply TSeg.app; apply TSeg.app; apply TSeg.tag; exact ancB_nil)) (.row hIU.g (by (apply TSeg.cons; apply TSeg.cons; apply TSeg.app; apply TSeg.app; apply TSeg.app; apply TSeg.app; apply TSeg.tag; exact ancB_nil)) (.flat (blocks_op hslF) (.row hIF.i (by (apply TSeg.cons; apply TSeg.cons; apply TSeg.app; apply TSeg.app; apply TSeg.app; apply TSeg.tag; exact ancB_nil)) (.row hIF.c (by (apply TSeg.cons; apply TSeg.cons; apply TSeg.app; apply TSeg.app; apply TSeg.tag; exact ancB_nil)) (.row hIF.d (by (apply TSeg.cons; apply TSeg.cons; apply TSeg.app; apply TSeg.tag; exact ancB_nil)) (.row hIF.g (by (apply TSeg.cons; apply TSeg.cons; apply TSeg.tag; exact ancB_nil)) .nil)))))))))) (fun w hb hK => rUSame_calls U F w ⟨hIU.num, hK.1, hK.2.1, hK.2.2.1, hK.2.2.2.1⟩ ⟨hIF.num, hK.2.2.2.2.1, hK.2.2.2.2.2.1, hK.2.2.2.2.2.2.1, hK.2.2.2.2.2.2.2.1⟩) ?_
        ((try simp only [tsOf_cons, tsOf_nil, tsOf_app]); apply DW.v0; rfl; rfl; rfl; apply wantYes; rfl; rfl; (with_reducible rfl); rfl; apply ValP.boolNeF; rfl; rfl; (with_reducible rfl); apply DW.v0; rfl; rfl; rfl; exact WantT.none; rfl; apply ValP.pickF'; rfl; (with_reducible rfl); rfl; apply DW.v0; rfl; rfl; rfl; exact WantT.none; rfl; apply ValP.move; rfl; apply DW.loadO; rfl; rfl; rfl; apply wantYes; rfl; rfl; (with_reducible rfl); rfl; apply TRead.tail; apply TRead.head; exact ancB_nil; exact op_rdW; apply DW.loadO; rfl; rfl; rfl; apply wantYes; rfl; rfl; (with_reducible rfl); rfl; apply TRead.tail; apply TRead.tail; apply TRead.app; apply TRead.app; apply TRead.app; apply TRead.app; apply TRead.app; apply TRead.app; apply TRead.app; apply TRead.app; apply TRead.head; exact ancB_nil; exact op_rdW)
        refine DW.manyK rfl rfl rfl (by (apply wantYes; rfl; rfl; (with_reducible rfl))) rfl inferInstance (by (apply ArgsOk.cons; rfl; exact ArgsOk.nil)) (.flat (blocks_op hu.sl) (.ext hu.i rfl (.ext hu.c rfl (.ext hu.d rfl (.ext hu.g rfl .nil))))) (fun w hb hK => few_u_calls3 u w ⟨hu.num, hK.1, hK.2.1, hK.2.2.1, hK.2.2.2.1⟩) ?_
        rintro vW gW ⟨b1, b2, b3, b4, w1, w2, w3, w4, rfl, rfl, hIW, hslW⟩
        have hUW := hUc b1 b2 b3 b4
        obtain ⟨W, hW⟩ : ∃ W, cutO u b1 b2 b3 b4 = W := ⟨_, rfl⟩
        rw [hW] at hIW hslW hUW ⊢
        clear hW
        simp only [tsNew_app, List.append_assoc]
        ((try simp only [tsOf_cons, tsOf_nil, tsOf_app]); apply DW.nil; simp only [fsOf_cons, fsOf_nil, fsOf_app, fsOf_tsOf, fsOf_new, fsOf_tag])
        have hGW := hIW.gs
        have hX1 : ∀ w', (∀ q ∈ g4 ++ (g3 ++ (g2 ++ g1)), w'.heap[q.1]? = some q.2) → (∀ q ∈ w4 ++ (w3 ++ (w2 ++ w1)), w'.heap[q.1]? = some q.2) → Calls Tryd.prog 9 #[.agg (opa U), .agg (opa W)] w' (Ret w' (.bool true)) := fun w' h k => hSW U W hUW w' (hGU w' h) (hGW w' k)
        (apply LW.guardT'; rfl; rfl; (with_reducible rfl); apply LW.callE; rfl; rfl; infer_instance; apply ArgsOk.cons; rfl; apply ArgsOk.cons; rfl; exact ArgsOk.nil; intro w _; rename_i hst; (exact hX1 w (st_us hst (by (repeat (first | exact List.Sublist.refl _ | exact List.sublist_append_left _ _ | apply List.Sublist.append_left | apply List.Sublist.cons | apply List.sublist_append_of_sublist_right)))) (st_us hst (by (repeat (first | exact List.Sublist.refl _ | exact List.sublist_append_left _ _ | apply List.Sublist.append_left | apply List.Sublist.cons | apply List.sublist_append_of_sublist_right))))); apply LW.guardT'; rfl; rfl; (with_reducible rfl); apply LW.v0; rfl; rfl; apply ValP.notT; rfl; (with_reducible rfl); apply LW.v0; rfl; rfl; apply ValP.pickF'; rfl; (with_reducible rfl); rfl; apply LW.nil; refine thenN ?_; apply CW.condF; rfl; (with_reducible rfl); refine CW.skip ?_; refine thenN ?_; refine CW.seq ?_; refine CW.region ?_; apply LW.load; rfl; rfl; apply Known.at; apply FsAt.app; apply FsAt.app; apply FsAt.app; apply FsAt.app; apply FsAt.tail; apply FsAt.head; exact op_rdW)
        refine LW.callR rfl rfl inferInstance (by (apply ArgsOk.cons; rfl; exact ArgsOk.nil)) (fun w hst => Encode_calls U w (hGU w (st_us hst (by (apply List.sublist_append_of_sublist_right; apply List.sublist_append_of_sublist_right; apply List.sublist_append_of_sublist_right; apply List.sublist_append_of_sublist_right; apply List.Sublist.cons; apply List.Sublist.cons; apply List.sublist_append_of_sublist_right; apply List.sublist_append_of_sublist_right; apply List.sublist_append_of_sublist_right; apply List.sublist_append_of_sublist_right; apply List.Sublist.append_left; apply List.Sublist.append_left; apply List.Sublist.append_left; exact List.sublist_append_left _ _))))) ?_
        rintro v5 gs5 ⟨bv, rfl, hrow⟩
        rw [if_pos ho, if_pos ho] at hrow
        rw [if_pos ho]
        obtain ⟨q1, k1, rfl⟩ := hrow.form
        have hEq : ∀ {p q : Option Addr} {k k' : Nat} (w' : World), RowAt w' 1 (.slice p (encB U).length k) (encB U).length (ucs (encB U)) → RowAt w' 1 (.slice q (encB U).length k') (encB U).length (ucs (encB U)) → Calls Tryd.prog 13 #[.slice p (encB U).length k, .slice q (encB U).length k'] w' (Ret w' (.bool true)) := fun {p q k k'} w' h h2 => by
          have := Equal_calls _ _ (encB U) (encB U) _ _ w' h h2
          rwa [decide_eq_true rfl] at this
        obtain ⟨H, hH⟩ : ∃ H, hashU U chain = H := ⟨_, rfl⟩
        have hrH := rHash18_calls U chain
        rw [hH] at hHs hrH
        (apply LW.v0; rfl; rfl; apply ValP.move; rfl; apply LW.v0; rfl; rfl; apply ValP.extractN; rfl; rfl; apply LW.v0; rfl; rfl; apply ValP.extractN; rfl; rfl; apply LW.v0; rfl; rfl; apply ValP.assign; rfl; apply LW.v0; rfl; rfl; apply ValP.assign; rfl; apply LW.nil; refine thenN ?_; refine CW.seq ?_; refine CW.region ?_; apply LW.load; rfl; rfl; apply Known.at; apply FsAt.app; apply FsAt.app; apply FsAt.app; apply FsAt.app; apply FsAt.app; apply FsAt.tail; apply FsAt.head; exact op_rdW; apply LW.v0; rfl; rfl; apply ValP.move; rfl; apply LW.callE; rfl; rfl; infer_instance; apply ArgsOk.cons; rfl; apply ArgsOk.cons; rfl; exact ArgsOk.nil; intro w _; rename_i hst; (exact hHs w hst (st_us hst (by (repeat (first | exact List.Sublist.refl _ | exact List.sublist_append_left _ _ | apply List.Sublist.append_left | apply List.Sublist.cons | apply List.sublist_append_of_sublist_right))))); apply LW.v0; rfl; rfl; apply ValP.move; rfl; apply LW.v0; rfl; rfl; apply ValP.extractN; rfl; rfl; apply LW.v0; rfl; rfl; apply ValP.extractN; rfl; rfl; apply LW.allocW; rfl; intro _; apply LW.store; rfl; rfl; apply SetAt.head; apply Wr.whole; rfl; rfl; rfl; apply LW.v0; rfl; rfl; apply ValP.assign; rfl; apply LW.nil; refine thenN ?_; refine CW.seq ?_; refine CW.seq ?_; refine CW.region ?_; apply LW.v0; rfl; rfl; apply ValP.move; rfl; apply LW.v0; rfl; rfl; apply ValP.notT; rfl; (with_reducible rfl); apply LW.nil; refine thenN ?_; apply CW.condF; rfl; (with_reducible rfl); refine CW.skip ?_; refine thenN ?_; refine CW.seq ?_)
        apply CW.pre
        (refine AnyW.anyM [(9, rbM U), (23, fewO3 u)] 24 mixed (by decide +kernel) ?_)
        ((try simp only [tsOf_cons, tsOf_nil, tsOf_app]); apply DW.v0; rfl; rfl; rfl; exact WantT.none; rfl; apply ValP.move; rfl; apply DW.v0; rfl; rfl; rfl; exact WantT.none; rfl; apply ValP.neF; rfl; rfl; omega; apply DW.v0; rfl; rfl; rfl; exact WantT.none; rfl; apply ValP.move; rfl; apply DW.v0; rfl; rfl; rfl; apply wantYes; rfl; rfl; (with_reducible rfl); rfl; apply ValP.move; rfl; apply DW.v0; rfl; rfl; rfl; apply wantYes; rfl; rfl; (with_reducible rfl); rfl; apply ValP.neF; rfl; rfl; omega; apply DW.v0; rfl; rfl; rfl; exact WantT.none; rfl; apply ValP.pickF'; rfl; (with_reducible rfl); rfl; apply DW.v0; rfl; rfl; rfl; exact WantT.none; rfl; apply ValP.move; rfl; apply DW.v0; rfl; rfl; rfl; apply wantYes; rfl; rfl; (with_reducible rfl); rfl; apply ValP.move; rfl; apply DW.loadO; rfl; rfl; rfl; apply wantYes; rfl; rfl; (with_reducible rfl); rfl; apply TRead.tail; apply TRead.app; apply TRead.app; apply TRead.app; apply TRead.app; apply TRead.app; apply TRead.tail; apply TRead.head; exact ancB_nil; exact op_rdW)
        refine DW.manyK rfl rfl rfl (by (apply wantYes; rfl; rfl; (with_reducible rfl))) rfl inferInstance (by (apply ArgsOk.cons; rfl; exact ArgsOk.nil)) (.flat (blocks_op hslU) (.row hIU.i (by (apply TSeg.cons; apply TSeg.app; apply TSeg.app; apply TSeg.app; apply TSeg.app; apply TSeg.app; apply TSeg.cons; apply TSeg.cons; apply TSeg.app; apply TSeg.app; apply TSeg.app; apply TSeg.app; apply TSeg.app; apply TSeg.app; apply TSeg.app; apply TSeg.tag; exact ancB_nil)) (.row hIU.c (by (apply TSeg.cons; apply TSeg.app; apply TSeg.app; apply TSeg.app; apply TSeg.app; apply TSeg.app; apply TSeg.cons; apply TSeg.cons; apply TSeg.app; apply TSeg.app; apply TSeg.app; apply TSeg.app; apply TSeg.app; apply TSeg.app; apply TSeg.tag; exact ancB_nil)) (.row hIU.d (by (apply TSeg.cons; apply TSeg.app; apply TSeg.app; apply TSeg.app; apply TSeg.app; apply TSeg.app; apply TSeg.cons; apply TSeg.cons; apply TSeg.app; apply TSeg.app; apply TSeg.app; apply TSeg.app; apply TSeg.app; apply TSeg.tag; exact ancB_nil)) (.row hIU.g (by (apply TSeg.cons; apply TSeg.app; apply TSeg.app; apply TSeg.app; apply TSeg.app; apply TSeg.app; apply TSeg.cons; apply TSeg.cons; apply TSeg.app; apply TSeg.app; apply TSeg.app; apply TSeg.app; apply TSeg.tag; exact ancB_nil)) .nil))))) (fun w hb hK => (fun w A => rBytes18_calls U w A ho) w ⟨hIU.num, hK.1, hK.2.1, hK.2.2.1, hK.2.2.2.1⟩) ?_
        intro vb gb hbM
        have hbM2 : IsRow 5 1 vb (encB U).length (ucs (encB U)) gb := hbM
        obtain ⟨q2, k2, rfl⟩ := hbM2.form
        ((try simp only [tsOf_cons, tsOf_nil, tsOf_app]))
        refine DW.callK rfl rfl rfl (by (apply wantYes; rfl; rfl; (with_reducible rfl))) rfl inferInstance (by (apply ArgsOk.cons; rfl; apply ArgsOk.cons; rfl; exact ArgsOk.nil)) (.row hrow (by (apply TSeg.app; apply TSeg.cons; apply TSeg.tag; exact ancB_nil)) (.row hbM2 (by (apply TSeg.tag; kernel_rfl)) .nil)) (fun w hb hK => hEq w hK.1 hK.2.1) ?_
        ((try simp only [tsOf_cons, tsOf_nil, tsOf_app]); apply DW.v0; rfl; rfl; rfl; apply wantYes; rfl; rfl; (with_reducible rfl); rfl; apply ValP.notT; rfl; (with_reducible rfl); apply DW.v0; rfl; rfl; rfl; exact WantT.none; rfl; apply ValP.pickF'; rfl; (with_reducible rfl); rfl; apply DW.v0; rfl; rfl; rfl; exact WantT.none; rfl; apply ValP.move; rfl; apply DW.loadO; rfl; rfl; rfl; apply wantYes; rfl; rfl; (with_reducible rfl); rfl; apply TRead.app; apply TRead.head; exact ancB_nil; exact Rd.whole rfl; apply DW.loadO; rfl; rfl; rfl; apply wantYes; rfl; rfl; (with_reducible rfl); rfl; apply TRead.app; apply TRead.tail; apply TRead.app; apply TRead.app; apply TRead.app; apply TRead.app; apply TRead.app; apply TRead.tail; apply TRead.head; exact ancB_nil; exact op_rdW; apply DW.v0; rfl; rfl; rfl; apply wantYes; rfl; rfl; (with_reducible rfl); rfl; apply ValP.move; rfl)
        refine DW.callK rfl rfl rfl (by (apply wantYes; rfl; rfl; (with_reducible rfl))) rfl inferInstance (by (apply ArgsOk.cons; rfl; apply ArgsOk.cons; rfl; exact ArgsOk.nil)) (.flat (blocks_op hslU) (.row hIU.i (by (apply TSeg.app; apply TSeg.cons; apply TSeg.app; apply TSeg.app; apply TSeg.app; apply TSeg.app; apply TSeg.app; apply TSeg.cons; apply TSeg.cons; apply TSeg.app; apply TSeg.app; apply TSeg.app; apply TSeg.app; apply TSeg.app; apply TSeg.app; apply TSeg.app; apply TSeg.tag; exact ancB_nil)) (.row hIU.c (by (apply TSeg.app; apply TSeg.cons; apply TSeg.app; apply TSeg.app; apply TSeg.app; apply TSeg.app; apply TSeg.app; apply TSeg.cons; apply TSeg.cons; apply TSeg.app; apply TSeg.app; apply TSeg.app; apply TSeg.app; apply TSeg.app; apply TSeg.app; apply TSeg.tag; exact ancB_nil)) (.row hIU.d (by (apply TSeg.app; apply TSeg.cons; apply TSeg.app; apply TSeg.app; apply TSeg.app; apply TSeg.app; apply TSeg.app; apply TSeg.cons; apply TSeg.cons; apply TSeg.app; apply TSeg.app; apply TSeg.app; apply TSeg.app; apply TSeg.app; apply TSeg.tag; exact ancB_nil)) (.row hIU.g (by (apply TSeg.app; apply TSeg.cons; apply TSeg.app; apply TSeg.app; apply TSeg.app; apply TSeg.app; apply TSeg.app; apply TSeg.cons; apply TSeg.cons; apply TSeg.app; apply TSeg.app; apply TSeg.app; apply TSeg.app; apply TSeg.tag; exact ancB_nil)) (.plain rfl .nil)))))) (fun w hb hK => (fun w A => hrH w A ho hc) w ⟨hIU.num, hK.1, hK.2.1, hK.2.2.1, hK.2.2.2.1⟩) ?_
        ((try simp only [tsOf_cons, tsOf_nil, tsOf_app]); apply DW.v0; rfl; rfl; rfl; apply wantYes; rfl; rfl; (with_reducible rfl); rfl; apply ValP.neWF; rfl; rfl; (with_reducible rfl); apply DW.v0; rfl; rfl; rfl; exact WantT.none; rfl; apply ValP.pickF'; rfl; (with_reducible rfl); rfl; apply DW.v0; rfl; rfl; rfl; exact WantT.none; rfl; apply ValP.move; rfl; apply DW.loadO; rfl; rfl; rfl; apply wantYes; rfl; rfl; (with_reducible rfl); rfl; apply TRead.app; apply TRead.tail; apply TRead.app; apply TRead.app; apply TRead.app; apply TRead.app; apply TRead.app; apply TRead.tail; apply TRead.head; exact ancB_nil; exact op_rdW; apply DW.loadO; rfl; rfl; rfl; apply wantYes; rfl; rfl; (with_reducible rfl); rfl; apply TRead.app; apply TRead.tail; apply TRead.app; apply TRead.app; apply TRead.app; apply TRead.app; apply TRead.app; apply TRead.tail; apply TRead.tail; apply TRead.app; apply TRead.app; apply TRead.app; apply TRead.app; apply TRead.app; apply TRead.app; apply TRead.app; apply TRead.app; apply TRead.head; exact ancB_nil; exact op_rdW)
        refine DW.manyK rfl rfl rfl (by (apply wantYes; rfl; rfl; (with_reducible rfl))) rfl inferInstance (by (apply ArgsOk.cons; rfl; exact ArgsOk.nil)) (.flat (blocks_op hu.sl) (.ext hu.i rfl (.ext hu.c rfl (.ext hu.d rfl (.ext hu.g rfl .nil))))) (fun w hb hK => few_u_calls3 u w ⟨hu.num, hK.1, hK.2.1, hK.2.2.1, hK.2.2.2.1⟩) ?_
        rintro vZ gZ ⟨d1, d2, d3, d4, z1, z2, z3, z4, rfl, rfl, hIZ, hslZ⟩
        have hUZ := hUc d1 d2 d3 d4
        obtain ⟨Z, hZ⟩ : ∃ Z, cutO u d1 d2 d3 d4 = Z := ⟨_, rfl⟩
        rw [hZ] at hIZ hslZ hUZ ⊢
        clear hZ
        simp only [tsNew_app, List.append_assoc]
        ((try simp only [tsOf_cons, tsOf_nil, tsOf_app]); apply DW.nil; simp only [fsOf_cons, fsOf_nil, fsOf_app, fsOf_tsOf, fsOf_new, fsOf_tag])
        have hGZ := hIZ.gs
        have hX2 : ∀ w', (∀ q ∈ g4 ++ (g3 ++ (g2 ++ g1)), w'.heap[q.1]? = some q.2) → (∀ q ∈ z4 ++ (z3 ++ (z2 ++ z1)), w'.heap[q.1]? = some q.2) → Calls Tryd.prog 10 #[.agg (opa U), .agg (opa Z)] w' (Ret w' (.bool true)) := fun w' h k => hSZ U Z hUZ w' (hGU w' h) (hGZ w' k)
        (apply LW.guardT'; rfl; rfl; (with_reducible rfl); apply LW.callE; rfl; rfl; infer_instance; apply ArgsOk.cons; rfl; apply ArgsOk.cons; rfl; exact ArgsOk.nil; intro w _; rename_i hst; (exact hX2 w (st_us hst (by (repeat (first | exact List.Sublist.refl _ | exact List.sublist_append_left _ _ | apply List.Sublist.append_left | apply List.Sublist.cons | apply List.sublist_append_of_sublist_right)))) (st_us hst (by (repeat (first | exact List.Sublist.refl _ | exact List.sublist_append_left _ _ | apply List.Sublist.append_left | apply List.Sublist.cons | apply List.sublist_append_of_sublist_right))))); apply LW.guardT'; rfl; rfl; (with_reducible rfl); apply LW.v0; rfl; rfl; apply ValP.notT; rfl; (with_reducible rfl); apply LW.v0; rfl; rfl; apply ValP.pickF'; rfl; (with_reducible rfl); rfl; apply LW.nil; refine thenN ?_; apply CW.condF; rfl; (with_reducible rfl); refine CW.skip ?_; refine blkN ?_; refine thenN ?_; refine CW.region ?_; apply LW.v0; rfl; rfl; apply ValP.addZL; rfl; rfl; decide; omega; apply LW.v0; rfl; rfl; apply ValP.move; rfl; apply LW.nil)
        apply thenX
        exact ⟨rfl, m + 1, ⟨hlt, h8⟩, by omega, ⟨rfl, rfl, rfl, rfl, rfl, trivial⟩, List.nil_sublist _⟩
      · have hRt := hRt0
        rw [decide_eq_false ho] at hRt
        have hCk := hCk0
        rw [if_neg ho] at hCk
        have hHs := @hHs0
        rw [if_neg ho, if_neg ho] at hHs
        clear hRt0 hCk0 hHs0
        (apply LW.store; rfl; rfl; apply SetAt.tail; apply SetAt.head; apply op_wrW; rfl; assumption; apply LW.store; rfl; rfl; apply SetAt.head; apply op_wrW; rfl; assumption; apply LW.nil; refine thenN ?_; refine CW.seq ?_; refine CW.region ?_; apply LW.load; rfl; rfl; apply Known.at; apply FsAt.tail; apply FsAt.head; exact op_rdW; apply LW.callE; rfl; rfl; infer_instance; apply ArgsOk.cons; rfl; exact ArgsOk.nil; intro w _; rename_i hst; (exact hRt w (st_us hst (by (repeat (first | exact List.Sublist.refl _ | exact List.sublist_append_left _ _ | apply List.Sublist.append_left | apply List.Sublist.cons | apply List.sublist_append_of_sublist_right))))); apply LW.v0; rfl; rfl; apply ValP.assign; rfl; apply LW.nil; refine thenN ?_; refine CW.seq ?_; refine CW.seq ?_; refine CW.region ?_; apply LW.load; rfl; rfl; apply Known.at; apply FsAt.tail; apply FsAt.head; exact op_rdW; apply LW.callE; rfl; rfl; infer_instance; apply ArgsOk.cons; rfl; exact ArgsOk.nil; intro w _; rename_i hst; (exact hCk w (st_us hst (by (repeat (first | exact List.Sublist.refl _ | exact List.sublist_append_left _ _ | apply List.Sublist.append_left | apply List.Sublist.cons | apply List.sublist_append_of_sublist_right))))); apply LW.v0; rfl; rfl; apply ValP.assign; rfl; apply LW.nil; refine thenN ?_; refine CW.seq ?_)
        apply CW.pre
        (refine AnyW.anyM [(24, fewO3 u)] 25 mixed (by decide +kernel) ?_)
        ((try simp only [tsOf_cons, tsOf_nil, tsOf_app]); apply DW.v0; rfl; rfl; rfl; exact WantT.none; rfl; apply ValP.move; rfl; apply DW.v0; rfl; rfl; rfl; exact WantT.none; rfl; apply ValP.eqF; rfl; rfl; omega; apply DW.v0; rfl; rfl; rfl; exact WantT.none; rfl; apply ValP.move; rfl; apply DW.v0; rfl; rfl; rfl; exact WantT.none; rfl; apply ValP.boolNeF; rfl; rfl; (with_reducible rfl); apply DW.v0; rfl; rfl; rfl; exact WantT.none; rfl; apply ValP.move; rfl; apply DW.v0; rfl; rfl; rfl; apply wantYes; rfl; rfl; (with_reducible rfl); rfl; apply ValP.move; rfl; apply DW.v0; rfl; rfl; rfl; apply wantYes; rfl; rfl; (with_reducible rfl); rfl; apply ValP.notF; rfl; (with_reducible rfl); apply DW.v0; rfl; rfl; rfl; apply wantYes; rfl; rfl; (with_reducible rfl); rfl; apply ValP.move; rfl; apply DW.v0; rfl; rfl; rfl; apply wantYes; rfl; rfl; (with_reducible rfl); rfl; apply ValP.move; rfl; apply DW.v0; rfl; rfl; rfl; apply wantYes; rfl; rfl; (with_reducible rfl); rfl; apply ValP.neF; rfl; rfl; omega; apply DW.v0; rfl; rfl; rfl; apply wantYes; rfl; rfl; (with_reducible rfl); rfl; apply ValP.pickT'; rfl; (with_reducible rfl); rfl; apply DW.v0; rfl; rfl; rfl; exact WantT.none; rfl; apply ValP.pickF'; rfl; (with_reducible rfl); rfl; apply DW.v0; rfl; rfl; rfl; exact WantT.none; rfl; apply ValP.move; rfl; apply DW.loadO; rfl; rfl; rfl; apply wantYes; rfl; rfl; (with_reducible rfl); rfl; apply TRead.tail; apply TRead.head; exact ancB_nil; exact op_rdW; apply DW.loadO; rfl; rfl; rfl; apply wantYes; rfl; rfl; (with_reducible rfl); rfl; apply TRead.head; exact ancB_nil; exact op_rdW)
        refine DW.callK rfl rfl rfl (by (apply wantYes; rfl; rfl; (with_reducible rfl))) rfl inferInstance (by (apply ArgsOk.cons; rfl; apply ArgsOk.cons; rfl; exact ArgsOk.nil)) (.flat (blocks_op hslU) (.row hIU.i (by (apply TSeg.cons; apply TSeg.cons; apply TSeg.app; apply TSeg.app; apply TSeg.app; apply TSeg.app; apply TSeg.app; apply TSeg.app; apply TSeg.app; apply TSeg.tag; exact ancB_nil)) (.row hIU.c (by (apply TSeg.cons; apply TSeg.cons; apply TSeg.app; apply TSeg.app; apply TSeg.app; apply TSeg.app; apply TSeg.app; apply TSeg.app; apply TSeg.tag; exact ancB_nil)) (.row hIU.d (by (apply TSeg.cons; apply TSeg.cons; apply TSeg.app; apply TSeg.app; apply TSeg.app; apply TSeg.app; apply TSeg.app; apply TSeg.tag; exact ancB_nil)) (.row hIU.g (by (apply TSeg.cons; apply TSeg.cons; apply TSeg.app; apply TSeg.app; apply TSeg.app; apply TSeg.app; apply TSeg.tag; exact ancB_nil)) (.flat (blocks_op hslF) (.row hIF.i (by (apply TSeg.cons; apply TSeg.cons; apply TSeg.app; apply TSeg.app; apply TSeg.app; apply TSeg.tag; exact ancB_nil)) (.row hIF.c (by (apply TSeg.cons; apply TSeg.cons; apply TSeg.app; apply TSeg.app; apply TSeg.tag; exact ancB_nil)) (.row hIF.d (by (apply TSeg.cons; apply TSeg.cons; apply TSeg.app; apply TSeg.tag; exact ancB_nil)) (.row hIF.g (by (apply TSeg.cons; apply TSeg.cons; apply TSeg.tag; exact ancB_nil)) .nil)))))))))) (fun w hb hK => uSame_calls U F w ⟨hIU.num, hK.1, hK.2.1, hK.2.2.1, hK.2.2.2.1⟩ ⟨hIF.num, hK.2.2.2.2.1, hK.2.2.2.2.2.1, hK.2.2.2.2.2.2.1, hK.2.2.2.2.2.2.2.1⟩) ?_
        ((try simp only [tsOf_cons, tsOf_nil, tsOf_app]); apply DW.loadO; rfl; rfl; rfl; apply wantYes; rfl; rfl; (with_reducible rfl); rfl; apply TRead.tail; apply TRead.head; exact ancB_nil; exact op_rdW; apply DW.loadO; rfl; rfl; rfl; apply wantYes; rfl; rfl; (with_reducible rfl); rfl; apply TRead.head; exact ancB_nil; exact op_rdW)
        refine DW.callK rfl rfl rfl (by (apply wantYes; rfl; rfl; (with_reducible rfl))) rfl inferInstance (by (apply ArgsOk.cons; rfl; apply ArgsOk.cons; rfl; exact ArgsOk.nil)) (.flat (blocks_op hslU) (.row hIU.i (by (apply TSeg.cons; apply TSeg.cons; apply TSeg.app; apply TSeg.app; apply TSeg.app; apply TSeg.app; apply TSeg.app; apply TSeg.app; apply TSeg.app; apply TSeg.tag; exact ancB_nil)) (.row hIU.c (by (apply TSeg.cons; apply TSeg.cons; apply TSeg.app; apply TSeg.app; apply TSeg.app; apply TSeg.app; apply TSeg.app; apply TSeg.app; apply TSeg.tag; exact ancB_nil)) (.row hIU.d (by (apply TSeg.cons; apply TSeg.cons; apply TSeg.app; apply TSeg.app; apply TSeg.app; apply TSeg.app; apply TSeg.app; apply TSeg.tag; exact ancB_nil)) (.row hIU.g (by (apply TSeg.cons; apply TSeg.cons; apply TSeg.app; apply TSeg.app; apply TSeg.app; apply TSeg.app; apply TSeg.tag; exact ancB_nil)) (.flat (blocks_op hslF) (.row hIF.i (by (apply TSeg.cons; apply TSeg.cons; apply TSeg.app; apply TSeg.app; apply TSeg.app; apply TSeg.tag; exact ancB_nil)) (.row hIF.c (by (apply TSeg.cons; apply TSeg.cons; apply TSeg.app; apply TSeg.app; apply TSeg.tag; exact ancB_nil)) (.row hIF.d (by (apply TSeg.cons; apply TSeg.cons; apply TSeg.app; apply TSeg.tag; exact ancB_nil)) (.row hIF.g (by (apply TSeg.cons; apply TSeg.cons; apply TSeg.tag; exact ancB_nil)) .nil)))))))))) (fun w hb hK => rUSame_calls U F w ⟨hIU.num, hK.1, hK.2.1, hK.2.2.1, hK.2.2.2.1⟩ ⟨hIF.num, hK.2.2.2.2.1, hK.2.2.2.2.2.1, hK.2.2.2.2.2.2.1, hK.2.2.2.2.2.2.2.1⟩) ?_
        ((try simp only [tsOf_cons, tsOf_nil, tsOf_app]); apply DW.v0; rfl; rfl; rfl; apply wantYes; rfl; rfl; (with_reducible rfl); rfl; apply ValP.boolNeF; rfl; rfl; (with_reducible rfl); apply DW.v0; rfl; rfl; rfl; exact WantT.none; rfl; apply ValP.pickF'; rfl; (with_reducible rfl); rfl; apply DW.v0; rfl; rfl; rfl; exact WantT.none; rfl; apply ValP.move; rfl; apply DW.loadO; rfl; rfl; rfl; apply wantYes; rfl; rfl; (with_reducible rfl); rfl; apply TRead.tail; apply TRead.head; exact ancB_nil; exact op_rdW; apply DW.loadO; rfl; rfl; rfl; apply wantYes; rfl; rfl; (with_reducible rfl); rfl; apply TRead.tail; apply TRead.tail; apply TRead.app; apply TRead.app; apply TRead.app; apply TRead.app; apply TRead.app; apply TRead.app; apply TRead.app; apply TRead.app; apply TRead.head; exact ancB_nil; exact op_rdW)
        refine DW.manyK rfl rfl rfl (by (apply wantYes; rfl; rfl; (with_reducible rfl))) rfl inferInstance (by (apply ArgsOk.cons; rfl; exact ArgsOk.nil)) (.flat (blocks_op hu.sl) (.ext hu.i rfl (.ext hu.c rfl (.ext hu.d rfl (.ext hu.g rfl .nil))))) (fun w hb hK => few_u_calls3 u w ⟨hu.num, hK.1, hK.2.1, hK.2.2.1, hK.2.2.2.1⟩) ?_
        rintro vW gW ⟨b1, b2, b3, b4, w1, w2, w3, w4, rfl, rfl, hIW, hslW⟩
        have hUW := hUc b1 b2 b3 b4
        obtain ⟨W, hW⟩ : ∃ W, cutO u b1 b2 b3 b4 = W := ⟨_, rfl⟩
        rw [hW] at hIW hslW hUW ⊢
        clear hW
        simp only [tsNew_app, List.append_assoc]
        ((try simp only [tsOf_cons, tsOf_nil, tsOf_app]); apply DW.nil; simp only [fsOf_cons, fsOf_nil, fsOf_app, fsOf_tsOf, fsOf_new, fsOf_tag])
        have hGW := hIW.gs
        have hX1 : ∀ w', (∀ q ∈ g4 ++ (g3 ++ (g2 ++ g1)), w'.heap[q.1]? = some q.2) → (∀ q ∈ w4 ++ (w3 ++ (w2 ++ w1)), w'.heap[q.1]? = some q.2) → Calls Tryd.prog 9 #[.agg (opa U), .agg (opa W)] w' (Ret w' (.bool true)) := fun w' h k => hSW U W hUW w' (hGU w' h) (hGW w' k)
        (apply LW.guardT'; rfl; rfl; (with_reducible rfl); apply LW.callE; rfl; rfl; infer_instance; apply ArgsOk.cons; rfl; apply ArgsOk.cons; rfl; exact ArgsOk.nil; intro w _; rename_i hst; (exact hX1 w (st_us hst (by (repeat (first | exact List.Sublist.refl _ | exact List.sublist_append_left _ _ | apply List.Sublist.append_left | apply List.Sublist.cons | apply List.sublist_append_of_sublist_right)))) (st_us hst (by (repeat (first | exact List.Sublist.refl _ | exact List.sublist_append_left _ _ | apply List.Sublist.append_left | apply List.Sublist.cons | apply List.sublist_append_of_sublist_right))))); apply LW.guardT'; rfl; rfl; (with_reducible rfl); apply LW.v0; rfl; rfl; apply ValP.notT; rfl; (with_reducible rfl); apply LW.v0; rfl; rfl; apply ValP.pickF'; rfl; (with_reducible rfl); rfl; apply LW.nil; refine thenN ?_; apply CW.condF; rfl; (with_reducible rfl); refine CW.skip ?_; refine thenN ?_; refine CW.seq ?_; refine CW.region ?_; apply LW.load; rfl; rfl; apply Known.at; apply FsAt.app; apply FsAt.app; apply FsAt.app; apply FsAt.app; apply FsAt.tail; apply FsAt.head; exact op_rdW)
        refine LW.callR rfl rfl inferInstance (by (apply ArgsOk.cons; rfl; exact ArgsOk.nil)) (fun w hst => Encode_calls U w (hGU w (st_us hst (by (apply List.sublist_append_of_sublist_right; apply List.sublist_append_of_sublist_right; apply List.sublist_append_of_sublist_right; apply List.sublist_append_of_sublist_right; apply List.Sublist.cons; apply List.Sublist.cons; apply List.sublist_append_of_sublist_right; apply List.sublist_append_of_sublist_right; apply List.sublist_append_of_sublist_right; apply List.sublist_append_of_sublist_right; apply List.Sublist.append_left; apply List.Sublist.append_left; apply List.Sublist.append_left; exact List.sublist_append_left _ _))))) ?_
        rintro v5 gs5 ⟨bv, rfl, hrow⟩
        rw [if_neg ho, if_neg ho] at hrow
        rw [if_neg ho]
        obtain ⟨q1, k1, rfl⟩ := hrow.form
        replace hrow : True := trivial
        (apply LW.v0; rfl; rfl; apply ValP.move; rfl; apply LW.v0; rfl; rfl; apply ValP.extractN; rfl; rfl; apply LW.v0; rfl; rfl; apply ValP.extractN; rfl; rfl; apply LW.v0; rfl; rfl; apply ValP.assign; rfl; apply LW.v0; rfl; rfl; apply ValP.assign; rfl; apply LW.nil; refine thenN ?_; refine CW.seq ?_; refine CW.region ?_; apply LW.load; rfl; rfl; apply Known.at; apply FsAt.app; apply FsAt.app; apply FsAt.app; apply FsAt.app; apply FsAt.app; apply FsAt.tail; apply FsAt.head; exact op_rdW; apply LW.v0; rfl; rfl; apply ValP.move; rfl; apply LW.callE; rfl; rfl; infer_instance; apply ArgsOk.cons; rfl; apply ArgsOk.cons; rfl; exact ArgsOk.nil; intro w _; rename_i hst; (exact hHs w hst (st_us hst (by (repeat (first | exact List.Sublist.refl _ | exact List.sublist_append_left _ _ | apply List.Sublist.append_left | apply List.Sublist.cons | apply List.sublist_append_of_sublist_right))))); apply LW.v0; rfl; rfl; apply ValP.move; rfl; apply LW.v0; rfl; rfl; apply ValP.extractN; rfl; rfl; apply LW.v0; rfl; rfl; apply ValP.extractN; rfl; rfl; apply LW.allocW; rfl; intro _; apply LW.store; rfl; rfl; apply SetAt.head; apply Wr.whole; rfl; rfl; rfl; apply LW.v0; rfl; rfl; apply ValP.assign; rfl; apply LW.nil; refine thenN ?_; refine CW.seq ?_; refine CW.seq ?_; refine CW.region ?_; apply LW.v0; rfl; rfl; apply ValP.move; rfl; apply LW.v0; rfl; rfl; apply ValP.notF; rfl; (with_reducible rfl); apply LW.nil; refine thenN ?_; apply CW.condT; rfl; (with_reducible rfl); refine CW.seq ?_; refine CW.seq ?_; refine CW.region ?_; apply LW.v0; rfl; rfl; apply ValP.move; rfl; apply LW.v0; rfl; rfl; apply ValP.neF; rfl; rfl; omega; apply LW.v0; rfl; rfl; apply ValP.move; rfl; apply LW.guardT'; rfl; rfl; (with_reducible rfl); apply LW.v0; rfl; rfl; apply ValP.move; rfl; apply LW.guardT'; rfl; rfl; (with_reducible rfl); apply LW.v0; rfl; rfl; apply ValP.neF; rfl; rfl; omega; apply LW.v0; rfl; rfl; apply ValP.pickF'; rfl; (with_reducible rfl); rfl; apply LW.v0; rfl; rfl; apply ValP.move; rfl; apply LW.guardT'; rfl; rfl; (with_reducible rfl); apply LW.v0; rfl; rfl; apply ValP.move; rfl; apply LW.guardT'; rfl; rfl; (with_reducible rfl); apply LW.v0; rfl; rfl; apply ValP.lenR; rfl; infer_instance; rfl; apply LW.guardT'; rfl; rfl; (with_reducible rfl); apply LW.v0; rfl; rfl; apply ValP.neF; rfl; rfl; omega; apply LW.v0; rfl; rfl; apply ValP.pickF'; rfl; (with_reducible rfl); rfl; apply LW.v0; rfl; rfl; apply ValP.move; rfl; apply LW.guardT'; rfl; rfl; (with_reducible rfl); apply LW.load; rfl; rfl; apply Known.at; apply FsAt.head; exact Rd.whole rfl; apply LW.guardT'; rfl; rfl; (with_reducible rfl); apply LW.v0; rfl; rfl; exact ValP.buildW0; apply LW.guardT'; rfl; rfl; (with_reducible rfl); apply LW.v0; rfl; rfl; apply ValP.neWF; rfl; rfl; (with_reducible rfl); apply LW.v0; rfl; rfl; apply ValP.pickF'; rfl; (with_reducible rfl); rfl; apply LW.nil; refine thenN ?_; apply CW.condF; rfl; (with_reducible rfl); refine CW.skip ?_; refine thenN ?_; refine CW.exit ?_; refine thenE ?_; refine blkE rfl ?_; refine thenN ?_; refine CW.region ?_; apply LW.v0; rfl; rfl; apply ValP.addZL; rfl; rfl; decide; omega; apply LW.v0; rfl; rfl; apply ValP.move; rfl; apply LW.nil)
        apply thenX
        exact ⟨rfl, m + 1, ⟨hlt, h8⟩, by omega, ⟨rfl, rfl, rfl, rfl, rfl, trivial⟩, List.nil_sublist _⟩
    · obtain rfl : m = 8 := by omega
      (refine CW.seq ?_; refine CW.region ?_; apply LW.v0; rfl; rfl; apply ValP.lssT; rfl; rfl; omega; apply LW.nil; refine thenN ?_; refine CW.seq ?_; apply CW.condT; rfl; (with_reducible rfl); refine CW.skip ?_; refine thenN ?_; refine CW.seq ?_; refine CW.block ?_; refine CW.seq ?_; refine CW.region ?_; apply LW.v0; rfl; rfl; apply ValP.move; rfl; apply LW.v0; rfl; rfl; apply ValP.indexAddrSL; rfl; rfl; decide; omega; apply LW.load; rfl; rfl; exact Known.ext (by assumption) (by simp); assumption; apply LW.allocA; rfl; intro _; apply LW.v0; rfl; rfl; apply ValP.assign; rfl; apply LW.store; rfl; rfl; apply SetAt.head; apply op_wrW; rfl; assumption; apply LW.nil; refine thenN ?_; refine CW.seq ?_; refine CW.seq ?_; refine CW.region ?_; apply LW.v0; rfl; rfl; apply ValP.move; rfl; apply LW.v0; rfl; rfl; apply ValP.eqT; rfl; rfl; omega; apply LW.nil; refine thenN ?_; apply CW.condT; rfl; (with_reducible rfl); refine CW.exit ?_; refine thenE ?_; refine blkO rfl ?_; refine thenE ?_; refine thenE ?_; refine blkE rfl ?_; refine thenN ?_; refine CW.seq ?_; refine CW.region ?_; apply LW.v0; rfl; rfl; apply ValP.assign; rfl; apply LW.nil; refine thenN ?_; refine CW.ret ?_)
      (apply finR; exact .inl rfl; rfl; rfl; rfl; apply ResL.cons; exact Res.tmp rfl; exact ResL.nil)
      rfl
  · (refine CW.seq ?_; refine CW.region ?_; apply LW.v0; rfl; rfl; apply ValP.lssF; rfl; rfl; omega; apply LW.nil; refine thenN ?_; refine CW.seq ?_; apply CW.condF; rfl; (with_reducible rfl); refine CW.exit ?_; refine thenE ?_; refine thenE ?_; refine blkE rfl ?_; refine thenN ?_; refine CW.seq ?_; refine CW.region ?_; apply LW.v0; rfl; rfl; apply ValP.assign; rfl; apply LW.nil; refine thenN ?_; refine CW.ret ?_)
    (apply finR; exact .inl rfl; rfl; rfl; rfl; apply ResL.cons; exact Res.tmp rfl; exact ResL.nil)
    rfl
end Go.Proofs.YtobkhnmglbfheaaDoor
