/-
  Texts that were built apart, put behind one another (3 of 3): K9 KA Smf KB KD KE Smg Smh KO KI KJ KK KM KG KP KQ KL.
  Conditions: none.
-/
import Derived.Test.YtficnjnnhcadaaaDoorP2
import Derived.Test.YtficnjnnhcadaaaDoorRows
import Derived.LaidMore
import Derived.Lib.LaidTab
import Derived.Lib.LaidU8
/-
  Contracts of the sponge: digests out of digits.
  Conditions: none.
-/
namespace Go.Proofs.YtficnjnnhcadaaaDoor
open Go Go.RowKit SL
set_option maxRecDepth 8000
set_option maxHeartbeats 4000000
set_option linter.unusedSimpArgs false
set_option linter.unusedVariables false
attribute [local irreducible] SL.CW SL.LW SL.DW Calls SL.Ret SL.RetG SL.beginQ SL.roundQ SL.rangeQ SL.inQ SL.RW SL.AnyW SL.thenQ SL.thenC SL.thenW SL.blkQ SL.finQ SL.ValP SL.NewP SL.SetP SL.CallP SL.Rd SL.Wr SL.Known
/-! ### What digits say -/
/-- the digest of the digits ahead: none, if one of them is no digit. -/
def parF (s : List UInt8) : Nat → List UInt8
  | 0 => List.replicate 32 0
  | k + 1 => (parF s k).set (k / 2) (UInt8.ofNat ((16 * ((parF s k).getD (k / 2) 0).toNat % 256 + (hexi (s.getD k 0).toNat).toNat % 256) % 256))
def digB (s : List UInt8) : Bool := s.all fun u => (hexu u).isSome
def parB (s : List UInt8) : Option (List UInt8) := if s.length = 64 ∧ digB s = true then some (parF s 64) else none
theorem parF_len (s : List UInt8) (k : Nat) : (parF s k).length = 32 := by
  induction k with
  | zero => simp [parF]
  | succ k ih => simp [parF, ih]
theorem hexi_some {u : UInt8} {d : Nat} (h : hexu u = some d) : hexi u.toNat = (d : Int) := by
  unfold hexi
  rw [UInt8.ofNat_toNat, h]
theorem hexi_none {u : UInt8} (h : hexu u = none) : hexi u.toNat = -1 := by
  unfold hexi
  rw [UInt8.ofNat_toNat, h]
theorem parF_succ (s : List UInt8) (k : Nat) : parF s (k + 1) = (parF s k).set (k / 2) (UInt8.ofNat ((16 * ((parF s k).getD (k / 2) 0).toNat % 256 + (hexi (s.getD k 0).toNat).toNat % 256) % 256)) := rfl
theorem parF_zero (s : List UInt8) : parF s 0 = List.replicate 32 0 := rfl
def parV (o : Option (List UInt8)) : Value := match o with | some id => .tuple #[.agg (uca id), .int .i64 0] | none => .tuple #[.agg (uca (List.replicate 32 0)), .int .i64 130]
def rparV (o : Option (List UInt8)) : Value := match o with | some id => .tuple #[.agg (uca id), .bool true] | none => .tuple #[.agg (uca (List.replicate 32 0)), .bool false]
theorem parB_len {s : List UInt8} (h : s.length ≠ 64) : parB s = none := by unfold parB; rw [if_neg (fun h' => h h'.1)]
theorem parB_bad {s : List UInt8} {k : Nat} (hk : k < s.length) (h : hexu (s.getD k 0) = none) : parB s = none := by
  unfold parB
  rw [if_neg]
  rintro ⟨_, h2⟩
  rw [List.getD_eq_getElem?_getD, List.getElem?_eq_getElem hk] at h
  have := (List.all_eq_true.1 h2) s[k] (List.getElem_mem hk)
  simp at h
  simp [h] at this
theorem parB_good {s : List UInt8} (h : s.length = 64) (h2 : ∀ k, k < 64 → hexu (s.getD k 0) ≠ none) : parB s = some (parF s 64) := by
  unfold parB
  rw [if_pos]
  refine ⟨h, List.all_eq_true.2 fun u hu => ?_⟩
  obtain ⟨k, hk, rfl⟩ := List.getElem_of_mem hu
  have := h2 k (by omega)
  rw [List.getD_eq_getElem?_getD, List.getElem?_eq_getElem hk] at this
  simpa [Option.isSome_iff_ne_none] using this
attribute [local irreducible] parF
theorem Parse_calls (s : List UInt8) (w : World) : Calls Tryd.prog 23 #[sv s] w (Ret w (parV (parB s))) := by
  have hz : (List.replicate 32 (0 : UInt8)).length = 32 := rfl
  by_cases hl : s.length = 64
  · refine enter (args := [_]) _ [] [] Tryd.func23 rfl Tryd.ntmps23 rfl (by simp) .nil ?_
    (refine CW.seq ?_; refine CW.region ?_; apply LW.allocA; rfl; intro _; apply LW.v0; rfl; rfl; apply ValP.assign; rfl; apply LW.nil; refine thenN ?_; refine CW.seq ?_; refine CW.seq ?_; refine CW.region ?_; apply LW.v0; rfl; rfl; apply ValP.move; rfl; apply LW.v0; rfl; rfl; apply ValP.lenStr; rfl; infer_instance; rfl; apply LW.v0; rfl; rfl; apply ValP.neF; rfl; rfl; omega; apply LW.nil; refine thenN ?_; apply CW.condF; rfl; (with_reducible rfl); refine CW.skip ?_; refine thenN ?_; refine CW.seq ?_; refine CW.seq ?_; refine CW.region ?_; apply LW.v0; rfl; rfl; apply ValP.move; rfl)
    refine LW.toBytes rfl inferInstance inferInstance inferInstance rfl fun g c cs fr hc hcs => ?_
    (apply LW.v0; rfl; rfl; apply ValP.lenR; rfl; infer_instance; rfl; apply LW.v0; rfl; rfl; apply ValP.move; rfl; apply LW.nil; refine thenN ?_; refine CW.block ?_)
    rename_i bi
    refine CW.loop (fun k : Nat => ([(14, .int .i64 (k : Int)), (13, .int .i64 (s.length : Int)), (12, .slice (some ⟨g, 0, none⟩) s.length c), (2, .pointer (some ⟨bi, 0, none⟩))],
      [(g, .cells cs 5 fr), (bi, .cells (uca (parF s k)) 27 (0, 0))]))
      (fun k => k ≤ 64 ∧ ∀ i, i < k → hexu (s.getD i 0) ≠ none) (fun k => 64 - k) 0 ⟨Nat.zero_le _, fun i h => by omega⟩ ⟨rfl, rfl, rfl, rfl, trivial⟩ (by dsimp only; rw [parF_zero]; exact List.Sublist.refl _) ?_
    rintro k ⟨hk, hall⟩
    dsimp only at hk hall ⊢
    have hlp := parF_len s k
    rcases Nat.lt_or_ge k 64 with h64 | h64
    · have hrd : Rd Tryd.prog 5 (.cells cs 5 fr) (0 + k * 1) (.int .u8 ((s.getD k 0).toNat : Int)) := Rd.one (by rw [Nat.zero_add, Nat.mul_one]; exact hcs k (by omega))
      have hIx0 := IndexByte_calls (s.getD k 0).toNat (UInt8.toNat_lt _)
      rcases hx : hexu (s.getD k 0) with _ | d
      · rw [hexi_none hx] at hIx0
        have hIx : ∀ w, Calls Tryd.prog 33 #[.string ⟨#[48, 49, 50, 51, 52, 53, 54, 55, 56, 57, 97, 98, 99, 100, 101, 102]⟩, .int .u8 ((s.getD k 0).toNat : Int)] w (Ret w (.int .i64 (-1))) := hIx0
        rw [parB_bad (by omega) hx]
        (refine CW.seq ?_; refine CW.region ?_; apply LW.v0; rfl; rfl; apply ValP.lssT; rfl; rfl; omega; apply LW.nil; refine thenN ?_; refine CW.seq ?_; apply CW.condT; rfl; (with_reducible rfl); refine CW.skip ?_; refine thenN ?_; refine CW.seq ?_; refine CW.block ?_; refine CW.seq ?_; refine CW.region ?_; apply LW.v0; rfl; rfl; apply ValP.move; rfl; apply LW.v0; rfl; rfl; apply ValP.indexAddrS; rfl; rfl; rfl; omega; apply LW.load; rfl; rfl; apply Known.at; apply FsAt.head; assumption; apply LW.v0; rfl; rfl; apply ValP.assign; rfl; apply LW.v0; rfl; rfl; apply ValP.assign; rfl; apply LW.nil; refine thenN ?_; refine CW.seq ?_; refine CW.region ?_; apply LW.v0; rfl; rfl; apply ValP.move; rfl; apply LW.callE; rfl; rfl; infer_instance; apply ArgsOk.cons; rfl; apply ArgsOk.cons; rfl; exact ArgsOk.nil; intro w _; exact hIx w; apply LW.v0; rfl; rfl; apply ValP.assign; rfl; apply LW.nil; refine thenN ?_; refine CW.seq ?_; refine CW.seq ?_; refine CW.region ?_; apply LW.v0; rfl; rfl; apply ValP.move; rfl; apply LW.v0; rfl; rfl; apply ValP.lssT; rfl; rfl; omega; apply LW.nil; refine thenN ?_; apply CW.condT; rfl; (with_reducible rfl); refine CW.seq ?_; refine CW.region ?_; apply LW.v0; rfl; rfl; apply ValP.buildA; exact PartsOk.nil; rfl; simp only [fillC, wc, wrCells, Value.cells, List.toList_toArray, List.setIfInBounds_toArray, List.set_cons_succ, List.set_cons_zero, Nat.reduceAdd, Nat.reduceMul, Nat.zero_add, Nat.mul_one]; rfl; apply LW.store; rfl; rfl; apply SetAt.tail; apply SetAt.head; apply Wr.whole; rw [uca_size]; assumption; rfl; rfl; apply LW.v0; rfl; rfl; apply ValP.assign; rfl; apply LW.nil; refine thenN ?_; refine CW.ret ?_; refine thenR ?_; refine blkR ?_; refine thenR ?_; refine thenR ?_; refine blkR ?_; refine thenR ?_)
        (apply finR; exact .inl rfl; rfl; rfl; rfl; apply ResL.cons; apply Res.cell; rfl; apply Known.at; apply FsAt.tail; apply FsAt.head; exact Rd.whole rfl; apply ResL.cons; exact Res.tmp rfl; exact ResL.nil)
        rfl
      · rw [hexi_some hx] at hIx0
        have hIx : ∀ w, Calls Tryd.prog 33 #[.string ⟨#[48, 49, 50, 51, 52, 53, 54, 55, 56, 57, 97, 98, 99, 100, 101, 102]⟩, .int .u8 ((s.getD k 0).toNat : Int)] w (Ret w (.int .i64 (d : Int))) := hIx0
        have hd := hexu_lt hx
        (refine CW.seq ?_; refine CW.region ?_; apply LW.v0; rfl; rfl; apply ValP.lssT; rfl; rfl; omega; apply LW.nil; refine thenN ?_; refine CW.seq ?_; apply CW.condT; rfl; (with_reducible rfl); refine CW.skip ?_; refine thenN ?_; refine CW.seq ?_; refine CW.block ?_; refine CW.seq ?_; refine CW.region ?_; apply LW.v0; rfl; rfl; apply ValP.move; rfl; apply LW.v0; rfl; rfl; apply ValP.indexAddrS; rfl; rfl; rfl; omega; apply LW.load; rfl; rfl; apply Known.at; apply FsAt.head; assumption; apply LW.v0; rfl; rfl; apply ValP.assign; rfl; apply LW.v0; rfl; rfl; apply ValP.assign; rfl; apply LW.nil; refine thenN ?_; refine CW.seq ?_; refine CW.region ?_; apply LW.v0; rfl; rfl; apply ValP.move; rfl; apply LW.callE; rfl; rfl; infer_instance; apply ArgsOk.cons; rfl; apply ArgsOk.cons; rfl; exact ArgsOk.nil; intro w _; exact hIx w; apply LW.v0; rfl; rfl; apply ValP.assign; rfl; apply LW.nil; refine thenN ?_; refine CW.seq ?_; refine CW.seq ?_; refine CW.region ?_; apply LW.v0; rfl; rfl; apply ValP.move; rfl; apply LW.v0; rfl; rfl; apply ValP.lssF; rfl; rfl; omega; apply LW.nil; refine thenN ?_; apply CW.condF; rfl; (with_reducible rfl); refine CW.skip ?_; refine thenN ?_; refine CW.region ?_; apply LW.v0; rfl; rfl; apply ValP.move; rfl; apply LW.v0; rfl; rfl; apply ValP.quoZL; rfl; rfl; decide; omega; omega; apply LW.v0; rfl; rfl; apply ValP.move; rfl; apply LW.v0; rfl; rfl; apply ValP.quoZL; rfl; rfl; decide; omega; omega; apply LW.v0; rfl; rfl; apply ValP.indexAddrA; rfl; rfl; rfl; omega; apply LW.load; rfl; rfl; apply Known.at; apply FsAt.tail; apply FsAt.head; apply rd_uca; omega; apply LW.v0; rfl; rfl; apply ValP.mulBK; rfl; rfl; decide; apply LW.v0; rfl; rfl; apply ValP.move; rfl; apply LW.v0; rfl; rfl; apply ValP.convB; rfl; apply LW.v0; rfl; rfl; apply ValP.addB; rfl; rfl; apply LW.v0; rfl; rfl; apply ValP.indexAddrA; rfl; rfl; rfl; omega; apply LW.store; rfl; rfl; apply SetAt.tail; apply SetAt.head; apply wr_uca; omega; exact Nat.mod_lt _ (by decide); apply LW.nil; refine blkN ?_; refine thenN ?_; refine CW.region ?_; apply LW.v0; rfl; rfl; apply ValP.addZL; rfl; rfl; decide; omega; apply LW.v0; rfl; rfl; apply ValP.move; rfl; apply LW.nil)
        refine thenX ⟨rfl, k + 1, ⟨h64, fun i hi => ?_⟩, by omega, ⟨rfl, rfl, rfl, rfl, trivial⟩, ?_⟩
        · rcases Nat.lt_or_ge i k with h | h
          · exact hall i h
          · obtain rfl : i = k := by omega
            rw [hx]; simp
        · rw [parF_succ, hexi_some hx, Int.toNat_natCast]
          exact List.Sublist.refl _
    · obtain rfl : k = 64 := by omega
      rw [parB_good hl hall]
      (refine CW.seq ?_; refine CW.region ?_; apply LW.v0; rfl; rfl; apply ValP.lssF; rfl; rfl; omega; apply LW.nil; refine thenN ?_; refine CW.seq ?_; apply CW.condF; rfl; (with_reducible rfl); refine CW.exit ?_; refine thenE ?_; refine thenE ?_; refine blkE rfl ?_; refine thenN ?_; refine CW.seq ?_; refine CW.region ?_; apply LW.load; rfl; rfl; apply Known.at; apply FsAt.tail; apply FsAt.head; apply rd_ucaW; assumption; apply LW.store; rfl; rfl; apply SetAt.tail; apply SetAt.head; apply wr_ucaW; assumption; assumption; apply LW.v0; rfl; rfl; apply ValP.assign; rfl; apply LW.nil; refine thenN ?_; refine CW.ret ?_)
      (apply finR; exact .inl rfl; rfl; rfl; rfl; apply ResL.cons; apply Res.cell; rfl; apply Known.at; apply FsAt.tail; apply FsAt.head; apply rd_ucaW; assumption; apply ResL.cons; exact Res.tmp rfl; exact ResL.nil)
      rfl
  · rw [parB_len hl]
    refine enter (args := [_]) _ [] [] Tryd.func23 rfl Tryd.ntmps23 rfl (by simp) .nil ?_
    (refine CW.seq ?_; refine CW.region ?_; apply LW.allocA; rfl; intro _; apply LW.v0; rfl; rfl; apply ValP.assign; rfl; apply LW.nil; refine thenN ?_; refine CW.seq ?_; refine CW.seq ?_; refine CW.region ?_; apply LW.v0; rfl; rfl; apply ValP.move; rfl; apply LW.v0; rfl; rfl; apply ValP.lenStr; rfl; infer_instance; rfl; apply LW.v0; rfl; rfl; apply ValP.neT; rfl; rfl; omega; apply LW.nil; refine thenN ?_; apply CW.condT; rfl; (with_reducible rfl); refine CW.seq ?_; refine CW.region ?_; apply LW.load; rfl; rfl; apply Known.at; apply FsAt.head; exact Rd.whole rfl; apply LW.store; rfl; rfl; apply SetAt.head; apply Wr.whole; rfl; rfl; rfl; apply LW.v0; rfl; rfl; apply ValP.assign; rfl; apply LW.nil; refine thenN ?_; refine CW.ret ?_; refine thenR ?_)
    (apply finR; exact .inl rfl; rfl; rfl; rfl; apply ResL.cons; apply Res.cell; rfl; apply Known.at; apply FsAt.head; exact Rd.whole rfl; apply ResL.cons; exact Res.tmp rfl; exact ResL.nil)
    rfl
/-! ### The document's -/
theorem Digit_calls (u : UInt8) (w : World) : Calls Tryd.prog 34 #[.int .u8 (u.toNat : Int)] w (Ret w (.int .i64 (hexi u.toNat))) := by
  have hu : u.toNat < 256 := UInt8.toNat_lt _
  by_cases h1 : 48 ≤ u.toNat ∧ u.toNat ≤ 57
  · obtain ⟨h1a, h1b⟩ := h1
    have hx : hexu u = some (u.toNat - 48) := by unfold hexu; rw [if_pos ⟨h1a, h1b⟩]
    rw [hexi_some hx]
    refine enter (args := [_]) _ [] [] Tryd.func34 rfl Tryd.ntmps34 rfl (by simp) .nil ?_
    (refine CW.seq ?_; refine CW.region ?_; apply LW.v0; rfl; rfl; apply ValP.assign; rfl; apply LW.nil; refine thenN ?_; refine CW.seq ?_; refine CW.block ?_; refine CW.seq ?_; refine CW.region ?_; apply LW.v0; rfl; rfl; apply ValP.move; rfl; apply LW.v0; rfl; rfl; apply ValP.geqT; rfl; rfl; omega; apply LW.v0; rfl; rfl; apply ValP.move; rfl; apply LW.guardT'; rfl; rfl; (with_reducible rfl); apply LW.v0; rfl; rfl; apply ValP.move; rfl; apply LW.guardT'; rfl; rfl; (with_reducible rfl); apply LW.v0; rfl; rfl; apply ValP.leqT; rfl; rfl; omega; apply LW.v0; rfl; rfl; apply ValP.pickT'; rfl; (with_reducible rfl); rfl; apply LW.v0; rfl; rfl; apply ValP.assign; rfl; apply LW.nil; refine thenN ?_; apply CW.condT; rfl; (with_reducible rfl); refine CW.seq ?_; refine CW.region ?_; apply LW.v0; rfl; rfl; apply ValP.move; rfl; apply LW.v0; rfl; rfl; apply ValP.subBL; rfl; rfl; decide; assumption; omega; apply LW.v0; rfl; rfl; apply ValP.convI; rfl; omega; omega; apply LW.v0; rfl; rfl; apply ValP.assign; rfl; apply LW.nil; refine thenN ?_; refine CW.ret ?_; refine blkR ?_; refine thenR ?_)
    (apply finR; exact .inl rfl; rfl; rfl; rfl; apply ResL.cons; exact Res.tmp rfl; exact ResL.nil)
    rfl
  · by_cases h2 : 97 ≤ u.toNat ∧ u.toNat ≤ 102
    · obtain ⟨h2a, h2b⟩ := h2
      have hx : hexu u = some (u.toNat - 87) := by unfold hexu; rw [if_neg h1, if_pos ⟨h2a, h2b⟩]
      rw [hexi_some hx, show u.toNat - 87 = u.toNat - 97 + 10 by omega]
      refine enter (args := [_]) _ [] [] Tryd.func34 rfl Tryd.ntmps34 rfl (by simp) .nil ?_
      (refine CW.seq ?_; refine CW.region ?_; apply LW.v0; rfl; rfl; apply ValP.assign; rfl; apply LW.nil; refine thenN ?_; refine CW.seq ?_; refine CW.block ?_; refine CW.seq ?_; refine CW.region ?_; apply LW.v0; rfl; rfl; apply ValP.move; rfl; apply LW.v0; rfl; rfl; apply ValP.geqT; rfl; rfl; omega; apply LW.v0; rfl; rfl; apply ValP.move; rfl; apply LW.guardT'; rfl; rfl; (with_reducible rfl); apply LW.v0; rfl; rfl; apply ValP.move; rfl; apply LW.guardT'; rfl; rfl; (with_reducible rfl); apply LW.v0; rfl; rfl; apply ValP.leqF; rfl; rfl; omega; apply LW.v0; rfl; rfl; apply ValP.pickT'; rfl; (with_reducible rfl); rfl; apply LW.v0; rfl; rfl; apply ValP.assign; rfl; apply LW.nil; refine thenN ?_; apply CW.condF; rfl; (with_reducible rfl); refine CW.seq ?_; refine CW.region ?_; apply LW.v0; rfl; rfl; apply ValP.move; rfl; apply LW.v0; rfl; rfl; apply ValP.geqT; rfl; rfl; omega; apply LW.v0; rfl; rfl; apply ValP.move; rfl; apply LW.guardT'; rfl; rfl; (with_reducible rfl); apply LW.v0; rfl; rfl; apply ValP.move; rfl; apply LW.guardT'; rfl; rfl; (with_reducible rfl); apply LW.v0; rfl; rfl; apply ValP.leqT; rfl; rfl; omega; apply LW.v0; rfl; rfl; apply ValP.pickT'; rfl; (with_reducible rfl); rfl; apply LW.v0; rfl; rfl; apply ValP.assign; rfl; apply LW.nil; refine thenN ?_; apply CW.condT; rfl; (with_reducible rfl); refine CW.seq ?_; refine CW.region ?_; apply LW.v0; rfl; rfl; apply ValP.move; rfl; apply LW.v0; rfl; rfl; apply ValP.subBL; rfl; rfl; decide; assumption; omega; apply LW.v0; rfl; rfl; apply ValP.convI; rfl; omega; omega; apply LW.v0; rfl; rfl; apply ValP.addZL; rfl; rfl; decide; omega; apply LW.v0; rfl; rfl; apply ValP.assign; rfl; apply LW.nil; refine thenN ?_; refine CW.ret ?_; refine blkR ?_; refine thenR ?_)
      (apply finR; exact .inl rfl; rfl; rfl; rfl; apply ResL.cons; exact Res.tmp rfl; exact ResL.nil)
      rfl
    · have hx : hexu u = none := by unfold hexu; rw [if_neg h1, if_neg h2]
      rw [hexi_none hx]
      by_cases h3 : 48 ≤ u.toNat
      · by_cases h4 : 97 ≤ u.toNat
        · refine enter (args := [_]) _ [] [] Tryd.func34 rfl Tryd.ntmps34 rfl (by simp) .nil ?_
          (refine CW.seq ?_; refine CW.region ?_; apply LW.v0; rfl; rfl; apply ValP.assign; rfl; apply LW.nil; refine thenN ?_; refine CW.seq ?_; refine CW.block ?_; refine CW.seq ?_; refine CW.region ?_; apply LW.v0; rfl; rfl; apply ValP.move; rfl; apply LW.v0; rfl; rfl; apply ValP.geqT; rfl; rfl; omega; apply LW.v0; rfl; rfl; apply ValP.move; rfl; apply LW.guardT'; rfl; rfl; (with_reducible rfl); apply LW.v0; rfl; rfl; apply ValP.move; rfl; apply LW.guardT'; rfl; rfl; (with_reducible rfl); apply LW.v0; rfl; rfl; apply ValP.leqF; rfl; rfl; omega; apply LW.v0; rfl; rfl; apply ValP.pickT'; rfl; (with_reducible rfl); rfl; apply LW.v0; rfl; rfl; apply ValP.assign; rfl; apply LW.nil; refine thenN ?_; apply CW.condF; rfl; (with_reducible rfl); refine CW.seq ?_; refine CW.region ?_; apply LW.v0; rfl; rfl; apply ValP.move; rfl; apply LW.v0; rfl; rfl; apply ValP.geqT; rfl; rfl; omega; apply LW.v0; rfl; rfl; apply ValP.move; rfl; apply LW.guardT'; rfl; rfl; (with_reducible rfl); apply LW.v0; rfl; rfl; apply ValP.move; rfl; apply LW.guardT'; rfl; rfl; (with_reducible rfl); apply LW.v0; rfl; rfl; apply ValP.leqF; rfl; rfl; omega; apply LW.v0; rfl; rfl; apply ValP.pickT'; rfl; (with_reducible rfl); rfl; apply LW.v0; rfl; rfl; apply ValP.assign; rfl; apply LW.nil; refine thenN ?_; apply CW.condF; rfl; (with_reducible rfl); refine CW.skip ?_; refine blkN ?_; refine thenN ?_; refine CW.seq ?_; refine CW.region ?_; apply LW.v0; rfl; rfl; apply ValP.assign; rfl; apply LW.nil; refine thenN ?_; refine CW.ret ?_)
          (apply finR; exact .inl rfl; rfl; rfl; rfl; apply ResL.cons; exact Res.tmp rfl; exact ResL.nil)
          rfl
        · refine enter (args := [_]) _ [] [] Tryd.func34 rfl Tryd.ntmps34 rfl (by simp) .nil ?_
          (refine CW.seq ?_; refine CW.region ?_; apply LW.v0; rfl; rfl; apply ValP.assign; rfl; apply LW.nil; refine thenN ?_; refine CW.seq ?_; refine CW.block ?_; refine CW.seq ?_; refine CW.region ?_; apply LW.v0; rfl; rfl; apply ValP.move; rfl; apply LW.v0; rfl; rfl; apply ValP.geqT; rfl; rfl; omega; apply LW.v0; rfl; rfl; apply ValP.move; rfl; apply LW.guardT'; rfl; rfl; (with_reducible rfl); apply LW.v0; rfl; rfl; apply ValP.move; rfl; apply LW.guardT'; rfl; rfl; (with_reducible rfl); apply LW.v0; rfl; rfl; apply ValP.leqF; rfl; rfl; omega; apply LW.v0; rfl; rfl; apply ValP.pickT'; rfl; (with_reducible rfl); rfl; apply LW.v0; rfl; rfl; apply ValP.assign; rfl; apply LW.nil; refine thenN ?_; apply CW.condF; rfl; (with_reducible rfl); refine CW.seq ?_; refine CW.region ?_; apply LW.v0; rfl; rfl; apply ValP.move; rfl; apply LW.v0; rfl; rfl; apply ValP.geqF; rfl; rfl; omega; apply LW.v0; rfl; rfl; apply ValP.move; rfl; apply LW.guardF'; rfl; rfl; simp only [Bool.not_true, Bool.not_false]; rfl; apply LW.guardF'; rfl; rfl; simp only [Bool.not_true, Bool.not_false]; rfl; apply LW.v0; rfl; rfl; apply ValP.pickF'; rfl; (with_reducible rfl); rfl; apply LW.v0; rfl; rfl; apply ValP.assign; rfl; apply LW.nil; refine thenN ?_; apply CW.condF; rfl; (with_reducible rfl); refine CW.skip ?_; refine blkN ?_; refine thenN ?_; refine CW.seq ?_; refine CW.region ?_; apply LW.v0; rfl; rfl; apply ValP.assign; rfl; apply LW.nil; refine thenN ?_; refine CW.ret ?_)
          (apply finR; exact .inl rfl; rfl; rfl; rfl; apply ResL.cons; exact Res.tmp rfl; exact ResL.nil)
          rfl
      · refine enter (args := [_]) _ [] [] Tryd.func34 rfl Tryd.ntmps34 rfl (by simp) .nil ?_
        (refine CW.seq ?_; refine CW.region ?_; apply LW.v0; rfl; rfl; apply ValP.assign; rfl; apply LW.nil; refine thenN ?_; refine CW.seq ?_; refine CW.block ?_; refine CW.seq ?_; refine CW.region ?_; apply LW.v0; rfl; rfl; apply ValP.move; rfl; apply LW.v0; rfl; rfl; apply ValP.geqF; rfl; rfl; omega; apply LW.v0; rfl; rfl; apply ValP.move; rfl; apply LW.guardF'; rfl; rfl; simp only [Bool.not_true, Bool.not_false]; rfl; apply LW.guardF'; rfl; rfl; simp only [Bool.not_true, Bool.not_false]; rfl; apply LW.v0; rfl; rfl; apply ValP.pickF'; rfl; (with_reducible rfl); rfl; apply LW.v0; rfl; rfl; apply ValP.assign; rfl; apply LW.nil; refine thenN ?_; apply CW.condF; rfl; (with_reducible rfl); refine CW.seq ?_; refine CW.region ?_; apply LW.v0; rfl; rfl; apply ValP.move; rfl; apply LW.v0; rfl; rfl; apply ValP.geqF; rfl; rfl; omega; apply LW.v0; rfl; rfl; apply ValP.move; rfl; apply LW.guardF'; rfl; rfl; simp only [Bool.not_true, Bool.not_false]; rfl; apply LW.guardF'; rfl; rfl; simp only [Bool.not_true, Bool.not_false]; rfl; apply LW.v0; rfl; rfl; apply ValP.pickF'; rfl; (with_reducible rfl); rfl; apply LW.v0; rfl; rfl; apply ValP.assign; rfl; apply LW.nil; refine thenN ?_; apply CW.condF; rfl; (with_reducible rfl); refine CW.skip ?_; refine blkN ?_; refine thenN ?_; refine CW.seq ?_; refine CW.region ?_; apply LW.v0; rfl; rfl; apply ValP.assign; rfl; apply LW.nil; refine thenN ?_; refine CW.ret ?_)
        (apply finR; exact .inl rfl; rfl; rfl; rfl; apply ResL.cons; exact Res.tmp rfl; exact ResL.nil)
        rfl
theorem parF_rest (s : List UInt8) (m : Nat) : ∀ j, (m + 1) / 2 ≤ j → (parF s m).getD j 0 = 0 := by
  induction m with
  | zero => intro j _; rw [parF_zero, List.getD_eq_getElem?_getD, List.getElem?_replicate]; split <;> rfl
  | succ m ih =>
    intro j hj
    have h1 := ih j (by omega)
    rw [parF_succ, List.getD_eq_getElem?_getD, List.getElem?_set, if_neg (by omega), ← List.getD_eq_getElem?_getD]
    exact h1
theorem parF_two {s : List UInt8} {k d1 d2 : Nat} (hk : k < 32) (h1 : hexu (s.getD (2 * k) 0) = some d1) (h2 : hexu (s.getD (2 * k + 1) 0) = some d2) : parF s (2 * (k + 1)) = (parF s (2 * k)).set k (UInt8.ofNat ((16 * d1 + d2) % 256)) := by
  have hd1 := hexu_lt h1
  have hd2 := hexu_lt h2
  have hr := parF_rest s (2 * k) k (by omega)
  have hl := parF_len s (2 * k)
  rw [show 2 * (k + 1) = 2 * k + 1 + 1 by omega, parF_succ, parF_succ, hexi_some h1, hexi_some h2, show (2 * k + 1) / 2 = k by omega, show 2 * k / 2 = k by omega, hr]
  have hg : ∀ x : UInt8, ((parF s (2 * k)).set k x).getD k 0 = x := fun x => by
    rw [List.getD_eq_getElem?_getD, List.getElem?_set_self (by omega)]; rfl
  rw [hg, List.set_set, Int.toNat_natCast, Int.toNat_natCast]
  have e1 : (UInt8.ofNat ((16 * (0 : UInt8).toNat % 256 + d1 % 256) % 256)).toNat = d1 := by
    rw [UInt8.toNat_ofNat', show (0 : UInt8).toNat = 0 from rfl]; omega
  rw [e1]
  congr 2
  omega
theorem drop_get {s : List UInt8} {k : Nat} (h : k < s.length) : s[k]? = some (s.getD k 0) := by
  rw [List.getD_eq_getElem?_getD, List.getElem?_eq_getElem h]; rfl
theorem rParse_calls (s : List UInt8) (w : World) : Calls Tryd.prog 24 #[sv s] w (Ret w (rparV (parB s))) := by
  by_cases hl : s.length = 64
  · refine enter (args := [_]) _ [] [] Tryd.func24 rfl Tryd.ntmps24 rfl (by simp) .nil ?_
    (refine CW.seq ?_; refine CW.region ?_; apply LW.allocA; rfl; intro _; apply LW.v0; rfl; rfl; apply ValP.assign; rfl; apply LW.nil; refine thenN ?_; refine CW.seq ?_; refine CW.region ?_; apply LW.allocA; rfl; intro _; apply LW.nil; refine thenN ?_; refine CW.seq ?_; refine CW.seq ?_; refine CW.region ?_; apply LW.v0; rfl; rfl; apply ValP.move; rfl; apply LW.v0; rfl; rfl; apply ValP.lenStr; rfl; infer_instance; rfl; apply LW.v0; rfl; rfl; apply ValP.neF; rfl; rfl; omega; apply LW.nil; refine thenN ?_; apply CW.condF; rfl; (with_reducible rfl); refine CW.skip ?_; refine thenN ?_; refine CW.seq ?_; refine CW.seq ?_; refine CW.region ?_; apply LW.v0; rfl; rfl; apply ValP.move; rfl; apply LW.nil; refine thenN ?_; refine CW.block ?_)
    rename_i bo bi
    refine CW.loop (fun k : Nat => ([(12, .int .i64 (k : Int)), (0, sv s), (4, .pointer (some ⟨bi, 0, none⟩)), (2, .pointer (some ⟨bo, 0, none⟩))],
      [(bi, .cells (uca (parF s (2 * k))) 27 (0, 0)), (bo, .cells (uca (List.replicate 32 0)) 27 (0, 0))]))
      (fun k => k ≤ 32 ∧ ∀ i, i < 2 * k → hexu (s.getD i 0) ≠ none) (fun k => 32 - k) 0 ⟨Nat.zero_le _, fun i h => by omega⟩ ⟨rfl, rfl, rfl, rfl, trivial⟩ (by dsimp only; rw [Nat.mul_zero, parF_zero]; exact List.Sublist.refl _) ?_
    rintro k ⟨hk, hall⟩
    dsimp only at hk hall ⊢
    have hlp := parF_len s (2 * k)
    have hz : (List.replicate 32 (0 : UInt8)).length = 32 := rfl
    rcases Nat.lt_or_ge k 32 with h32 | h32
    · have hs1 : s[2 * k]? = some (s.getD (2 * k) 0) := drop_get (by omega)
      have hs2 : s[2 * k + 1]? = some (s.getD (2 * k + 1) 0) := drop_get (by omega)
      have hD10 := Digit_calls (s.getD (2 * k) 0)
      have hD20 := Digit_calls (s.getD (2 * k + 1) 0)
      rcases hx : hexu (s.getD (2 * k) 0) with _ | d1
      · rw [hexi_none hx] at hD10
        have hD1 := hD10
        have hD2 := hD20
        rw [parB_bad (by omega) hx]
        (refine CW.seq ?_; refine CW.region ?_; apply LW.v0; rfl; rfl; apply ValP.lssT; rfl; rfl; omega; apply LW.nil; refine thenN ?_; refine CW.seq ?_; apply CW.condT; rfl; (with_reducible rfl); refine CW.skip ?_; refine thenN ?_; refine CW.seq ?_; refine CW.block ?_; refine CW.seq ?_; refine CW.region ?_; apply LW.v0; rfl; rfl; apply ValP.move; rfl; apply LW.v0; rfl; rfl; apply ValP.assign; rfl; apply LW.nil; refine thenN ?_; refine CW.seq ?_; apply CW.pre; refine AnyW.any 10 mixed (by decide +kernel) ?_; (try simp only [tsOf_cons, tsOf_nil, tsOf_app]); apply DW.v0; rfl; rfl; rfl; exact WantT.none; rfl; apply ValP.move; rfl; apply DW.v0; rfl; rfl; rfl; exact WantT.none; rfl; apply ValP.move; rfl; apply DW.v0; rfl; rfl; rfl; exact WantT.none; rfl; apply ValP.mulZK; rfl; rfl; decide; omega; apply DW.v0; rfl; rfl; rfl; exact WantT.none; rfl; apply ValP.indexSv; infer_instance; rfl; rfl; rfl; assumption; apply DW.callE; rfl; rfl; rfl; exact WantT.none; rfl; infer_instance; apply ArgsOk.cons; rfl; exact ArgsOk.nil; rfl; exact ReadAll.nil; intro w _ _; exact hD1 w; apply DW.v0; rfl; rfl; rfl; exact WantT.none; rfl; apply ValP.move; rfl; apply DW.v0; rfl; rfl; rfl; exact WantT.none; rfl; apply ValP.move; rfl; apply DW.v0; rfl; rfl; rfl; exact WantT.none; rfl; apply ValP.mulZK; rfl; rfl; decide; omega; apply DW.v0; rfl; rfl; rfl; exact WantT.none; rfl; apply ValP.addZL; rfl; rfl; decide; omega; apply DW.v0; rfl; rfl; rfl; exact WantT.none; rfl; apply ValP.indexSv; infer_instance; rfl; rfl; rfl; assumption; apply DW.nil; simp only [fsOf_cons, fsOf_nil, fsOf_app, fsOf_tsOf, fsOf_new]; apply LW.callE; rfl; rfl; infer_instance; apply ArgsOk.cons; rfl; exact ArgsOk.nil; intro w _; exact hD2 w; apply LW.v0; rfl; rfl; apply ValP.assign; rfl; apply LW.v0; rfl; rfl; apply ValP.assign; rfl; apply LW.nil; refine thenN ?_; refine CW.seq ?_; refine CW.seq ?_; refine CW.region ?_; apply LW.v0; rfl; rfl; apply ValP.move; rfl; apply LW.v0; rfl; rfl; apply ValP.lssT; rfl; rfl; omega; apply LW.v0; rfl; rfl; apply ValP.move; rfl; apply LW.guardF'; rfl; rfl; simp only [Bool.not_true, Bool.not_false]; rfl; apply LW.guardF'; rfl; rfl; simp only [Bool.not_true, Bool.not_false]; rfl; apply LW.v0; rfl; rfl; apply ValP.pickT'; rfl; (with_reducible rfl); rfl; apply LW.nil; refine thenN ?_; apply CW.condT; rfl; (with_reducible rfl); refine CW.seq ?_; refine CW.region ?_; apply LW.v0; rfl; rfl; apply ValP.buildA; exact PartsOk.nil; rfl; simp only [fillC, wc, wrCells, Value.cells, List.toList_toArray, List.setIfInBounds_toArray, List.set_cons_succ, List.set_cons_zero, Nat.reduceAdd, Nat.reduceMul, Nat.zero_add, Nat.mul_one]; rfl; apply LW.store; rfl; rfl; apply SetAt.tail; apply SetAt.head; apply Wr.whole; rfl; rfl; rfl; apply LW.v0; rfl; rfl; apply ValP.assign; rfl; apply LW.nil; refine thenN ?_; refine CW.ret ?_; refine thenR ?_; refine blkR ?_; refine thenR ?_; refine thenR ?_; refine blkR ?_; refine thenR ?_)
        (apply finR; exact .inl rfl; rfl; rfl; rfl; apply ResL.cons; apply Res.cell; rfl; apply Known.at; apply FsAt.tail; apply FsAt.head; exact Rd.whole rfl; apply ResL.cons; exact Res.tmp rfl; exact ResL.nil)
        rfl
      · have hd1 := hexu_lt hx
        rw [hexi_some hx] at hD10
        have hD1 := hD10
        rcases hy : hexu (s.getD (2 * k + 1) 0) with _ | d2
        · rw [hexi_none hy] at hD20
          have hD2 := hD20
          rw [parB_bad (k := 2 * k + 1) (by omega) hy]
          (refine CW.seq ?_; refine CW.region ?_; apply LW.v0; rfl; rfl; apply ValP.lssT; rfl; rfl; omega; apply LW.nil; refine thenN ?_; refine CW.seq ?_; apply CW.condT; rfl; (with_reducible rfl); refine CW.skip ?_; refine thenN ?_; refine CW.seq ?_; refine CW.block ?_; refine CW.seq ?_; refine CW.region ?_; apply LW.v0; rfl; rfl; apply ValP.move; rfl; apply LW.v0; rfl; rfl; apply ValP.assign; rfl; apply LW.nil; refine thenN ?_; refine CW.seq ?_; apply CW.pre; refine AnyW.any 10 mixed (by decide +kernel) ?_; (try simp only [tsOf_cons, tsOf_nil, tsOf_app]); apply DW.v0; rfl; rfl; rfl; exact WantT.none; rfl; apply ValP.move; rfl; apply DW.v0; rfl; rfl; rfl; exact WantT.none; rfl; apply ValP.move; rfl; apply DW.v0; rfl; rfl; rfl; exact WantT.none; rfl; apply ValP.mulZK; rfl; rfl; decide; omega; apply DW.v0; rfl; rfl; rfl; exact WantT.none; rfl; apply ValP.indexSv; infer_instance; rfl; rfl; rfl; assumption; apply DW.callE; rfl; rfl; rfl; exact WantT.none; rfl; infer_instance; apply ArgsOk.cons; rfl; exact ArgsOk.nil; rfl; exact ReadAll.nil; intro w _ _; exact hD1 w; apply DW.v0; rfl; rfl; rfl; exact WantT.none; rfl; apply ValP.move; rfl; apply DW.v0; rfl; rfl; rfl; exact WantT.none; rfl; apply ValP.move; rfl; apply DW.v0; rfl; rfl; rfl; exact WantT.none; rfl; apply ValP.mulZK; rfl; rfl; decide; omega; apply DW.v0; rfl; rfl; rfl; exact WantT.none; rfl; apply ValP.addZL; rfl; rfl; decide; omega; apply DW.v0; rfl; rfl; rfl; exact WantT.none; rfl; apply ValP.indexSv; infer_instance; rfl; rfl; rfl; assumption; apply DW.nil; simp only [fsOf_cons, fsOf_nil, fsOf_app, fsOf_tsOf, fsOf_new]; apply LW.callE; rfl; rfl; infer_instance; apply ArgsOk.cons; rfl; exact ArgsOk.nil; intro w _; exact hD2 w; apply LW.v0; rfl; rfl; apply ValP.assign; rfl; apply LW.v0; rfl; rfl; apply ValP.assign; rfl; apply LW.nil; refine thenN ?_; refine CW.seq ?_; refine CW.seq ?_; refine CW.region ?_; apply LW.v0; rfl; rfl; apply ValP.move; rfl; apply LW.v0; rfl; rfl; apply ValP.lssF; rfl; rfl; omega; apply LW.v0; rfl; rfl; apply ValP.move; rfl; apply LW.guardT'; rfl; rfl; (with_reducible rfl); apply LW.v0; rfl; rfl; apply ValP.move; rfl; apply LW.guardT'; rfl; rfl; (with_reducible rfl); apply LW.v0; rfl; rfl; apply ValP.lssT; rfl; rfl; omega; apply LW.v0; rfl; rfl; apply ValP.pickF'; rfl; (with_reducible rfl); rfl; apply LW.nil; refine thenN ?_; apply CW.condT; rfl; (with_reducible rfl); refine CW.seq ?_; refine CW.region ?_; apply LW.v0; rfl; rfl; apply ValP.buildA; exact PartsOk.nil; rfl; simp only [fillC, wc, wrCells, Value.cells, List.toList_toArray, List.setIfInBounds_toArray, List.set_cons_succ, List.set_cons_zero, Nat.reduceAdd, Nat.reduceMul, Nat.zero_add, Nat.mul_one]; rfl; apply LW.store; rfl; rfl; apply SetAt.tail; apply SetAt.head; apply Wr.whole; rfl; rfl; rfl; apply LW.v0; rfl; rfl; apply ValP.assign; rfl; apply LW.nil; refine thenN ?_; refine CW.ret ?_; refine thenR ?_; refine blkR ?_; refine thenR ?_; refine thenR ?_; refine blkR ?_; refine thenR ?_)
          (apply finR; exact .inl rfl; rfl; rfl; rfl; apply ResL.cons; apply Res.cell; rfl; apply Known.at; apply FsAt.tail; apply FsAt.head; exact Rd.whole rfl; apply ResL.cons; exact Res.tmp rfl; exact ResL.nil)
          rfl
        · have hd2 := hexu_lt hy
          rw [hexi_some hy] at hD20
          have hD2 := hD20
          (refine CW.seq ?_; refine CW.region ?_; apply LW.v0; rfl; rfl; apply ValP.lssT; rfl; rfl; omega; apply LW.nil; refine thenN ?_; refine CW.seq ?_; apply CW.condT; rfl; (with_reducible rfl); refine CW.skip ?_; refine thenN ?_; refine CW.seq ?_; refine CW.block ?_; refine CW.seq ?_; refine CW.region ?_; apply LW.v0; rfl; rfl; apply ValP.move; rfl; apply LW.v0; rfl; rfl; apply ValP.assign; rfl; apply LW.nil; refine thenN ?_; refine CW.seq ?_; apply CW.pre; refine AnyW.any 10 mixed (by decide +kernel) ?_; (try simp only [tsOf_cons, tsOf_nil, tsOf_app]); apply DW.v0; rfl; rfl; rfl; exact WantT.none; rfl; apply ValP.move; rfl; apply DW.v0; rfl; rfl; rfl; exact WantT.none; rfl; apply ValP.move; rfl; apply DW.v0; rfl; rfl; rfl; exact WantT.none; rfl; apply ValP.mulZK; rfl; rfl; decide; omega; apply DW.v0; rfl; rfl; rfl; exact WantT.none; rfl; apply ValP.indexSv; infer_instance; rfl; rfl; rfl; assumption; apply DW.callE; rfl; rfl; rfl; exact WantT.none; rfl; infer_instance; apply ArgsOk.cons; rfl; exact ArgsOk.nil; rfl; exact ReadAll.nil; intro w _ _; exact hD1 w; apply DW.v0; rfl; rfl; rfl; exact WantT.none; rfl; apply ValP.move; rfl; apply DW.v0; rfl; rfl; rfl; exact WantT.none; rfl; apply ValP.move; rfl; apply DW.v0; rfl; rfl; rfl; exact WantT.none; rfl; apply ValP.mulZK; rfl; rfl; decide; omega; apply DW.v0; rfl; rfl; rfl; exact WantT.none; rfl; apply ValP.addZL; rfl; rfl; decide; omega; apply DW.v0; rfl; rfl; rfl; exact WantT.none; rfl; apply ValP.indexSv; infer_instance; rfl; rfl; rfl; assumption; apply DW.nil; simp only [fsOf_cons, fsOf_nil, fsOf_app, fsOf_tsOf, fsOf_new]; apply LW.callE; rfl; rfl; infer_instance; apply ArgsOk.cons; rfl; exact ArgsOk.nil; intro w _; exact hD2 w; apply LW.v0; rfl; rfl; apply ValP.assign; rfl; apply LW.v0; rfl; rfl; apply ValP.assign; rfl; apply LW.nil; refine thenN ?_; refine CW.seq ?_; refine CW.seq ?_; refine CW.region ?_; apply LW.v0; rfl; rfl; apply ValP.move; rfl; apply LW.v0; rfl; rfl; apply ValP.lssF; rfl; rfl; omega; apply LW.v0; rfl; rfl; apply ValP.move; rfl; apply LW.guardT'; rfl; rfl; (with_reducible rfl); apply LW.v0; rfl; rfl; apply ValP.move; rfl; apply LW.guardT'; rfl; rfl; (with_reducible rfl); apply LW.v0; rfl; rfl; apply ValP.lssF; rfl; rfl; omega; apply LW.v0; rfl; rfl; apply ValP.pickF'; rfl; (with_reducible rfl); rfl; apply LW.nil; refine thenN ?_; apply CW.condF; rfl; (with_reducible rfl); refine CW.skip ?_; refine thenN ?_; refine CW.region ?_; apply LW.v0; rfl; rfl; apply ValP.move; rfl; apply LW.v0; rfl; rfl; apply ValP.move; rfl; apply LW.v0; rfl; rfl; apply ValP.mulZK; rfl; rfl; decide; omega; apply LW.v0; rfl; rfl; apply ValP.move; rfl; apply LW.v0; rfl; rfl; apply ValP.addZ; rfl; rfl; omega; apply LW.v0; rfl; rfl; apply ValP.convB; rfl; apply LW.v0; rfl; rfl; apply ValP.indexAddrA; rfl; rfl; rfl; omega; apply LW.store; rfl; rfl; apply SetAt.head; apply wr_uca; omega; exact Nat.mod_lt _ (by decide); apply LW.nil; refine blkN ?_; refine thenN ?_; refine CW.region ?_; apply LW.v0; rfl; rfl; apply ValP.addZL; rfl; rfl; decide; omega; apply LW.v0; rfl; rfl; apply ValP.move; rfl; apply LW.nil)
          refine thenX ⟨rfl, k + 1, ⟨h32, fun i hi => ?_⟩, by omega, ⟨rfl, rfl, rfl, rfl, trivial⟩, ?_⟩
          · rcases Nat.lt_or_ge i (2 * k) with h | h
            · exact hall i h
            · rcases Nat.lt_or_ge i (2 * k + 1) with h' | h'
              · obtain rfl : i = 2 * k := by omega
                rw [hx]; simp
              · obtain rfl : i = 2 * k + 1 := by omega
                rw [hy]; simp
          · rw [parF_two h32 hx hy]
            exact List.Sublist.refl _
    · obtain rfl : k = 32 := by omega
      rw [parB_good hl hall]
      (refine CW.seq ?_; refine CW.region ?_; apply LW.v0; rfl; rfl; apply ValP.lssF; rfl; rfl; omega; apply LW.nil; refine thenN ?_; refine CW.seq ?_; apply CW.condF; rfl; (with_reducible rfl); refine CW.exit ?_; refine thenE ?_; refine thenE ?_; refine blkE rfl ?_; refine thenN ?_; refine CW.seq ?_; refine CW.region ?_; apply LW.load; rfl; rfl; apply Known.at; apply FsAt.head; apply rd_ucaW; assumption; apply LW.store; rfl; rfl; apply SetAt.tail; apply SetAt.head; apply wr_ucaW; assumption; assumption; apply LW.v0; rfl; rfl; apply ValP.assign; rfl; apply LW.nil; refine thenN ?_; refine CW.ret ?_)
      (apply finR; exact .inl rfl; rfl; rfl; rfl; apply ResL.cons; apply Res.cell; rfl; apply Known.at; apply FsAt.tail; apply FsAt.head; apply rd_ucaW; assumption; apply ResL.cons; exact Res.tmp rfl; exact ResL.nil)
      rfl
  · rw [parB_len hl]
    refine enter (args := [_]) _ [] [] Tryd.func24 rfl Tryd.ntmps24 rfl (by simp) .nil ?_
    (refine CW.seq ?_; refine CW.region ?_; apply LW.allocA; rfl; intro _; apply LW.v0; rfl; rfl; apply ValP.assign; rfl; apply LW.nil; refine thenN ?_; refine CW.seq ?_; refine CW.region ?_; apply LW.allocA; rfl; intro _; apply LW.nil; refine thenN ?_; refine CW.seq ?_; refine CW.seq ?_; refine CW.region ?_; apply LW.v0; rfl; rfl; apply ValP.move; rfl; apply LW.v0; rfl; rfl; apply ValP.lenStr; rfl; infer_instance; rfl; apply LW.v0; rfl; rfl; apply ValP.neT; rfl; rfl; omega; apply LW.nil; refine thenN ?_; apply CW.condT; rfl; (with_reducible rfl); refine CW.seq ?_; refine CW.region ?_; apply LW.load; rfl; rfl; apply Known.at; apply FsAt.head; exact Rd.whole rfl; apply LW.store; rfl; rfl; apply SetAt.tail; apply SetAt.head; apply Wr.whole; rfl; rfl; rfl; apply LW.v0; rfl; rfl; apply ValP.assign; rfl; apply LW.nil; refine thenN ?_; refine CW.ret ?_; refine thenR ?_)
    (apply finR; exact .inl rfl; rfl; rfl; rfl; apply ResL.cons; apply Res.cell; rfl; apply Known.at; apply FsAt.tail; apply FsAt.head; exact Rd.whole rfl; apply ResL.cons; exact Res.tmp rfl; exact ResL.nil)
    rfl
end Go.Proofs.YtficnjnnhcadaaaDoor

/-
  The sponge: what the law's first line reckons.
  Conditions: none.
-/
namespace Go.Proofs.YtficnjnnhcadaaaDoor
open Go Go.RowKit SL
set_option maxRecDepth 100000
def wakeId : List UInt8 := [0xc5, 0xd2, 0x46, 0x01, 0x86, 0xf7, 0x23, 0x3c, 0x92, 0x7e, 0x7d, 0xb2, 0xdc, 0xc7, 0x03, 0xc0, 0xe5, 0x00, 0xb6, 0x53, 0xca, 0x82, 0x27, 0x3b, 0x7b, 0xfa, 0xd8, 0x04, 0x5d, 0x85, 0xa4, 0x70]
theorem round_wake : roundL (List.replicate 25 0) (numL.getD 0 0) = 1 :: List.replicate 24 0 := by decide +kernel
theorem less_wake : lessB (List.replicate 32 0) wakeId = true := by decide +kernel
theorem par_wake : parB [99, 53, 100, 50, 52, 54, 48, 49, 56, 54, 102, 55, 50, 51, 51, 99, 57, 50, 55, 101, 55, 100, 98, 50, 100, 99, 99, 55, 48, 51, 99, 48, 101, 53, 48, 48, 98, 54, 53, 51, 99, 97, 56, 50, 50, 55, 51, 98, 55, 98, 102, 97, 100, 56, 48, 52, 53, 100, 56, 53, 97, 52, 55, 48] = some wakeId := by decide +kernel
theorem soak_wake : soakF (List.replicate 25 0) (padB []) 0 136 = [1, 0, 0, 0, 0, 0, 0, 0, 0, 0, 0, 0, 0, 0, 0, 0, 9223372036854775808, 0, 0, 0, 0, 0, 0, 0, 0] := by decide +kernel
def wk0 : List Nat := [1, 0, 0, 0, 0, 0, 0, 0, 0, 0, 0, 0, 0, 0, 0, 0, 9223372036854775808, 0, 0, 0, 0, 0, 0, 0, 0]
def wk1 : List Nat := [4398046511105, 17592186044416, 4398046543872, 0, 17592186077184, 8, 52776560230400, 1152921504606846984, 52776558133248, 1152921504608944128, 2, 544, 262144, 514, 262176, 268436480, 68719493120, 1024, 268451840, 68719476736, 2305844108725321728, 2199023255552, 1099511627780, 2305845208236949504, 4]
def wk2 : List Nat := [3904711243048682726, 1207872589841957126, 3184368193241127169, 12971028319727649889, 10286551402689075458, 1259783720018274, 12214679202016067586, 9224121225299901428, 2992272534782738451, 9800689182623078597, 4611726720294328428, 11685850236297012, 1495365005022904395, 15813382930697286, 6111808659584533265, 124981832595311936, 2684240834651972352, 4912301736543682948, 2488263262048755776, 4778390286886047620, 1163347847091065233, 16868443555924821730, 154580546982776916, 15564660919037354401, 2456770817776948750]
def wk3 : List Nat := [8289102824591434380, 2650440079073489379, 11459863657423534455, 3078203046191370419, 10243614441579508732, 6715684478468316285, 9021721613749738627, 16323907559936263589, 14712371453287876238, 13207516449244145029, 6716728777335539109, 2516792122779427716, 5461754274945430388, 3341045827627689583, 3296329752392194682, 14297203439033465259, 11493424483223189197, 10504499887245279853, 3308135633588744113, 5098721825536174192, 8664368315221462042, 11716894083276002874, 2098923162028634215, 7303567510403455548, 4883930803803657273]
def wk4 : List Nat := [9145702616912342758, 16632607361196628137, 5807045512169203855, 6548049296825423573, 2911560703121806936, 12452414146356170408, 431667818003843456, 4945739612319476974, 12460092556240016733, 7658648394962756264, 13350366495830902207, 1953387479264944757, 17420282858972716739, 1215582556029742168, 7692344429658740155, 17977349082556873670, 1858614526669458582, 10964871947398476332, 15514956647893279288, 179932933774914631, 17508529487041048502, 7503018368851633981, 929261442150911620, 2851383533632874710, 7153482467733786193]
def wk5 : List Nat := [3217695626026700231, 7228520851561084131, 7840336919730310393, 6868346474795808920, 5817928043512098185, 483728965144457366, 2094125954139152251, 13290615271988912878, 6116732081573619054, 12404040371124941288, 5210583702804515577, 6569965374713754428, 9650717987591950737, 1838917144515589093, 6206879949013857101, 13836215650485784034, 2777104299206127432, 9162378715153818446, 2579248593664187030, 4649761399498197408, 4345672674621089333, 17727600499527599874, 15951120162837397783, 1486441073599636038, 7526975559096822753]
def wk6 : List Nat := [248066060412482913, 10809642231442205384, 5504895099598155415, 2584332703152910123, 10449879252273190592, 13355132533173292400, 16887410369553470650, 1390404604944908871, 10467819199160078225, 12586248386544345989, 13287309445471910499, 9168388512907289048, 10117223767413104261, 15763460986669702239, 10756186891316440689, 4278624213941474887, 14275455272196532991, 18250878328984007816, 4482727192120861170, 9721683024389909677, 9163772564863624264, 8489753604216688595, 816201186782976613, 1144184611068540487, 4128866423754115227]
def wk7 : List Nat := [18402963122672406245, 17859514631694764789, 14428715717768966649, 457031613351869429, 10894224858909162407, 8575137199002047859, 17809232792270138362, 4808146580191774126, 14627578404221294643, 7601016815347446848, 8500045888007553416, 2044036892383418708, 15900193137531961059, 8052354359019095129, 17216125304898466993, 16993524951797960044, 5609346022144275528, 15760809127494505806, 8446841439649264471, 18088848446523253189, 8270102827973632420, 9423595931552552983, 16228370102390044934, 12045389637071608679, 7056785534201200939]
def wk8 : List Nat := [12753376061805899333, 2111981560556758208, 13166824882716378987, 12172034681548868104, 16455514320282466043, 3265329870635658802, 5063956176412677616, 15307341599108955523, 17042901249887048594, 15606817482875957131, 12401061165045441397, 14112825205738012444, 7528182654139171963, 679949399121675847, 16110029214220444666, 16075443586991710645, 11809122633193920135, 824682708434772612, 9546558219524207792, 14570838741769169544, 16015354101246307490, 14937681164076894612, 16170554185854218030, 13411014959602602192, 17659497305141992864]
def wk9 : List Nat := [16607373423488820546, 2151422635867277830, 6572340985991069695, 14653210170250470996, 11791760579977573355, 4065323483469060406, 7283395855969466639, 13325119192580981824, 240953767092294249, 4061085087821419309, 15280882476846897925, 2750505582437592369, 2704748849273168765, 6327325585883090832, 2013544036530064293, 11337392647161457476, 9951477293767922198, 15216922623802272473, 4089965193502969186, 10262383148774694472, 11601735218912882699, 3910853304622802100, 1874362684601583732, 14635665072728267742, 11912924353201045756]
def wk10 : List Nat := [12443570198016410408, 15073234423324879037, 16538284292177595253, 770694436111563450, 4661629519587471725, 4134871225352118654, 4776995384142827210, 15478826137546518068, 18066846374717646578, 14270287239788042585, 2910516952809473229, 949633455367371438, 5615595303185522976, 12732927536893994306, 1974801021048620803, 8494920415961791039, 4379175404697166052, 779617988408921914, 11515541233266066687, 10851941993204617098, 17521537655693928411, 15329457299099953713, 8642253880621323691, 13248831312752232176, 9167496934457325936]
def wk11 : List Nat := [2784670699769870044, 12458046501618073558, 14125649387247164462, 2371862000334975945, 17449621713181921370, 18084473122477533316, 10555653529814021168, 1286435700208258660, 7900972333389060382, 13695579594619900831, 14617506584737283108, 16851691067561729428, 8573020770547936416, 15064676017279082892, 17197415585843555401, 15776906507246342037, 9813731578541049216, 12800378173865872612, 15297178561593300238, 11409222445058284577, 15122744860265765604, 5517594499147034503, 7999930204173150732, 15392201373165449930, 12679951944464799674]
def wk12 : List Nat := [16291156846118844451, 9692757143822035377, 17748466164917623592, 18297723408675364712, 5768111022144358297, 5032647943730211172, 240223639921337555, 3573006762761062315, 4418081664467045005, 14050874540553342331, 10482449059741954494, 13992079101437996990, 2435977504749834253, 10982271880190543118, 11974228964236697225, 15115158931448373871, 12735725188152392398, 7627438592320754813, 272652177933322935, 14245570792134504674, 8744534987003128554, 11356875620725102920, 8928226865784257667, 1524680525473545806, 2896276078172484414]
def wk13 : List Nat := [6665051101374537130, 5495771786181444414, 12537915500868265617, 17060231565289718284, 15561324751258473602, 7930404497004154902, 8849067938713931991, 6658565175150454632, 5282570462567558459, 11559245968373515903, 16566202011258081367, 674556369021680881, 3345820050997912695, 4671081468424751526, 7757084567577850828, 8502623553496775840, 3955259317059675661, 8106862701908889232, 6703677908344537012, 6580670985836187516, 9403347355581011122, 7905832091148999944, 5292914193962333749, 11887527448341663821, 16621059256266911255]
def wk14 : List Nat := [10716439878011516281, 15967399425266700355, 12076011584974892592, 16248055671756128434, 10643350871698206347, 10594214463648586357, 7116189751946765041, 7750545512743031734, 18247594507314572309, 7378220163111131807, 14999407657225623861, 7928369854754402115, 17844316675013910964, 15171488774331430663, 7614485196347525793, 11605212344200916950, 15157978784662469348, 11718935584924530645, 5535191362811376685, 14772790920984104005, 10448524766163212306, 4825435813474788858, 17005218769600310333, 13954843883325706830, 4929584870877703474]
def wk15 : List Nat := [1319998251610336165, 5389285008839651730, 9332282829561635961, 9409139626766683675, 6470951802939581099, 17252944717417249465, 17165277815629499916, 3963403808094557162, 14184007887274758158, 9596262242135920298, 10210589069919534081, 14250294093777783787, 8039572666876461379, 2368146889392807232, 1812659259149163614, 16807801796138206746, 11647457970582845122, 6166919066429959443, 1147388708393040668, 1303057136894895726, 1903883279373033606, 2131164935238924974, 4953436646693238779, 2641527683450144340, 2816144971954173157]
def wk16 : List Nat := [13881630218582485081, 16617007106358093478, 8370579830314427868, 1713224054433245973, 13627151018451951556, 10871226027031491916, 4699765345504525133, 4286537013572583285, 17310739681736795836, 99398265043109114, 3545503971586557412, 7556410075305792076, 15679693291762405836, 2729857338541306968, 1921741768395976932, 14263894358714132532, 11009055271111244000, 845971141115169140, 13270182711450419347, 17079085579333711468, 10503578552956300308, 6627023678281057244, 5403374185706104778, 6659075922477107110, 8592110512596117136]
def wk17 : List Nat := [8416411914720361245, 3448560865030073472, 3919536279875559698, 5573607003621883193, 984465805306826053, 15024535068875014392, 3681621266475130062, 9998293171501847344, 14839532389281272683, 533539312507974110, 16824156633091540864, 16389535479321433015, 13782841269213835654, 4122073509668400045, 7683819886385778366, 3592048281988696895, 8681389608761840015, 17598965942532483458, 16560167496673567885, 8777595276064781908, 9594426284182731638, 13108639988284796722, 15254667260581302934, 2433642677842468666, 1064465948127417059]
def wk18 : List Nat := [534296193886098135, 3695287213502380591, 11532049842336470888, 17974523857070849737, 12954850201481240735, 5716772798672216727, 2583007236467463893, 10427970853733301948, 700439106234402195, 7192762512095310632, 4383158246966191391, 18315691205404178545, 18043931791961935518, 16287759594864535142, 15352249056180256782, 18367201066277418680, 6748360514621293390, 9837915013220625665, 12422998273549796530, 12621865645966804366, 4594662070598184093, 8622633690173154066, 12904333489760771204, 385777527094370260, 6037929239432104378]
def wk19 : List Nat := [17242234307811427515, 7298945131924620938, 12512959417444303430, 16244176617175768424, 3826401358280227816, 8589395152097341129, 18321848104009695025, 11680515094655873510, 3680928998899718032, 5209258824295493052, 14420353876404795782, 13596398079702832869, 12202387532391994898, 721433745371800063, 9896885544113945439, 6680377346781173919, 5332700740124661618, 13318027231967735991, 16563930016949065197, 220674366890030230, 6699529091897125322, 2739507427232859638, 15711608159680198358, 15839554650221487652, 11575241304029856712]
def wk20 : List Nat := [16702010266589328720, 11785696339686387325, 16232021429448662837, 4621936354538492110, 16839935569400247044, 3516106972774747115, 11724013555230036502, 7480607343544516906, 14577750021349342573, 2421771942493426498, 8252672638237332873, 8249004131460997133, 778286484670419507, 5467066643722607965, 1760155417958766819, 5539793005320924506, 11397623340431491872, 12864342638065520035, 12083379459737583179, 14892306294104856657, 14623186648705301253, 5128653977437664874, 14734488673449380773, 17399174579470271659, 14787652485258740643]
def wk21 : List Nat := [16488390307541943305, 17559693018003947265, 9108537271992078214, 10423841811661870631, 3040236185740504183, 857882767517711827, 3492714315419207287, 2789125034051568249, 81920884436605105, 13331759205602966770, 16754353820981313164, 6741055624195280880, 5263857701266955350, 4627132801428790548, 7422782385993692804, 3730241882621406845, 4399100234652493596, 15025317568737056282, 4375033872217880358, 3359671850727625416, 1362862387812853932, 8387689881403993048, 8688947589982045175, 11585555971117405732, 16397411802621700634]
def wk22 : List Nat := [7468857592912166551, 7509402213287554103, 5920166622310057021, 1245229838719934601, 11412606850931652734, 4778997266118777220, 13503050704312239975, 9078797036224177493, 9046123609337478232, 2279923682132033021, 968663569872637247, 12528780394224896734, 15109038439802043243, 2514154137644936742, 13074992029672084631, 9981334051720804394, 10929166993946436931, 10786302343937411402, 2172383237928275479, 15222838835840319035, 6535328264755286323, 3021073620629705380, 6914764477367934026, 14161662948158972437, 2646073473019538392]
def wk23 : List Nat := [13219969621820782240, 3226093193424914092, 10846161881167012984, 13470522419822434072, 9395429576182681946, 8530498048516093610, 5651939854162289461, 7915235748700633099, 16590736201521082154, 11443586452577361644, 11578784407731530241, 12555284199035474007, 103191304442796045, 2407050918456829886, 8809156603158525029, 15242461923984447565, 13645658932555888328, 11207932644415108528, 2606492158503956003, 17367323008410274790, 14914538695926853805, 15728690031541589181, 7389391625128953151, 12128506732059288731, 17622300515349969486]
def wk24 : List Nat := [4333579421379646149, 13836122230913597074, 4262519377828905189, 8116759062988257915, 8406387447366859581, 14671339323370021561, 2243375101132795228, 9371364203318886753, 9347994793612953298, 12814238161780307547, 4391692840257016808, 4309499098775122448, 13438072403645551266, 18018124564071650747, 4323130096954625545, 16970298442240338249, 1971761234120675839, 450719451514497906, 18340686150147091359, 11254645818134300982, 16062291397582171322, 1601982631079003425, 7734681229251997073, 13256946727218518206, 11816912122432958423]
theorem wk1_eq : roundL wk0 (numL.getD 0 0) = wk1 := by decide +kernel
theorem wk2_eq : roundL wk1 (numL.getD 1 0) = wk2 := by decide +kernel
theorem wk3_eq : roundL wk2 (numL.getD 2 0) = wk3 := by decide +kernel
theorem wk4_eq : roundL wk3 (numL.getD 3 0) = wk4 := by decide +kernel
theorem wk5_eq : roundL wk4 (numL.getD 4 0) = wk5 := by decide +kernel
theorem wk6_eq : roundL wk5 (numL.getD 5 0) = wk6 := by decide +kernel
theorem wk7_eq : roundL wk6 (numL.getD 6 0) = wk7 := by decide +kernel
theorem wk8_eq : roundL wk7 (numL.getD 7 0) = wk8 := by decide +kernel
theorem wk9_eq : roundL wk8 (numL.getD 8 0) = wk9 := by decide +kernel
theorem wk10_eq : roundL wk9 (numL.getD 9 0) = wk10 := by decide +kernel
theorem wk11_eq : roundL wk10 (numL.getD 10 0) = wk11 := by decide +kernel
theorem wk12_eq : roundL wk11 (numL.getD 11 0) = wk12 := by decide +kernel
theorem wk13_eq : roundL wk12 (numL.getD 12 0) = wk13 := by decide +kernel
theorem wk14_eq : roundL wk13 (numL.getD 13 0) = wk14 := by decide +kernel
theorem wk15_eq : roundL wk14 (numL.getD 14 0) = wk15 := by decide +kernel
theorem wk16_eq : roundL wk15 (numL.getD 15 0) = wk16 := by decide +kernel
theorem wk17_eq : roundL wk16 (numL.getD 16 0) = wk17 := by decide +kernel
theorem wk18_eq : roundL wk17 (numL.getD 17 0) = wk18 := by decide +kernel
theorem wk19_eq : roundL wk18 (numL.getD 18 0) = wk19 := by decide +kernel
theorem wk20_eq : roundL wk19 (numL.getD 19 0) = wk20 := by decide +kernel
theorem wk21_eq : roundL wk20 (numL.getD 20 0) = wk21 := by decide +kernel
theorem wk22_eq : roundL wk21 (numL.getD 21 0) = wk22 := by decide +kernel
theorem wk23_eq : roundL wk22 (numL.getD 22 0) = wk23 := by decide +kernel
theorem wk24_eq : roundL wk23 (numL.getD 23 0) = wk24 := by decide +kernel
theorem perm_wake : permL wk0 = wk24 := by
  unfold permL
  iterate 24 rw [permF_step]
  rw [show permF wk0 0 = wk0 from rfl, wk1_eq, wk2_eq, wk3_eq, wk4_eq, wk5_eq, wk6_eq, wk7_eq, wk8_eq, wk9_eq, wk10_eq, wk11_eq, wk12_eq, wk13_eq, wk14_eq, wk15_eq, wk16_eq, wk17_eq, wk18_eq, wk19_eq, wk20_eq, wk21_eq, wk22_eq, wk23_eq, wk24_eq]
theorem id_wake : idF wk24 32 = wakeId := by decide +kernel
theorem sum_wake : sumB [] = wakeId := by
  unfold sumB
  rw [show padC ([] : List UInt8).length = 0 + 1 from rfl, sumF_succ, sumF_zero, Nat.mul_zero, soak_wake, show ([1, 0, 0, 0, 0, 0, 0, 0, 0, 0, 0, 0, 0, 0, 0, 0, 9223372036854775808, 0, 0, 0, 0, 0, 0, 0, 0] : List Nat) = wk0 from rfl, perm_wake, id_wake]
end Go.Proofs.YtficnjnnhcadaaaDoor

/-
  A SMALL LOGIC OVER THE KIT's WALK, PART MF: arrays of bytes and of numbers compared.
  Conditions: none; over any program.
-/
namespace Go.Proofs.YtficnjnnhcadaaaDoor.SL
set_option linter.unusedVariables false
set_option linter.unusedSimpArgs false
open Go Go.RowKit
variable {P : Program} {e : Env}
theorem ints_u (l : List UInt8) : getInts .u8 (uca l).toList = some (l.map fun u => (u.toNat : Int)) := by
  simp only [uca, ucs_map]
  induction l with
  | nil => rfl
  | cons a l ih => simp [getInts, getInts.IntKind.beqK] at *; exact ih
theorem ints_n (l : List Nat) : getInts .u64 (nca l).toList = some (l.map fun (u : Nat) => (u : Int)) := by
  simp only [nca, ncs_map]
  induction l with
  | nil => rfl
  | cons a l ih => simp [getInts, getInts.IntKind.beqK] at *; exact ih
theorem ints_uj {a b : List UInt8} (h : (a.map fun u => (u.toNat : Int)) = b.map fun u => (u.toNat : Int)) : a = b :=
  List.map_inj_right (f := fun u : UInt8 => (u.toNat : Int)) (fun x y h => UInt8.toNat_inj.1 (Int.ofNat.inj h)) |>.1 h
theorem ints_nj {a b : List Nat} (h : (a.map fun (u : Nat) => (u : Int)) = b.map fun (u : Nat) => (u : Int)) : a = b :=
  List.map_inj_right (f := fun u : Nat => (u : Int)) (fun x y h => Int.ofNat.inj h) |>.1 h
theorem blocks_uca (l : List UInt8) : blocksN 4 (.agg (uca l)) = [] := by
  show (uca l).toList.flatMap (blocksN 3) = []
  rw [List.flatMap_eq_nil_iff]
  intro v hv
  simp only [uca, ucs_map] at hv
  obtain ⟨u, _, rfl⟩ := List.mem_map.1 hv
  rfl
theorem blocks_nca (l : List Nat) : blocksN 4 (.agg (nca l)) = [] := by
  show (nca l).toList.flatMap (blocksN 3) = []
  rw [List.flatMap_eq_nil_iff]
  intro v hv
  simp only [nca, ncs_map] at hv
  obtain ⟨u, _, rfl⟩ := List.mem_map.1 hv
  rfl
section eqs
variable {T ty n : Nat} {k : IntKind} {x y : Operand}
theorem ValP.eqAT [EqI P T n k] {xs ys : Array Value} {a : List Int} (hx : e.ev x = some (.agg xs)) (hy : e.ev y = some (.agg ys)) (h1 : getInts k xs.toList = some a) (h2 : getInts k ys.toList = some a) (ha : a.length = n) : ValP P e [] (.binOp .eql T x y ty) (.bool true) := by
  have h := ValP.eqlA (P := P) (T := T) (ty := ty) hx hy h1 h2 ha ha
  simpa using h
variable {a b : List UInt8} {l m : List Nat}
theorem ValP.eqUT [EqI P T n .u8] (hx : e.ev x = some (.agg (uca a))) (hy : e.ev y = some (.agg (uca b))) (h : a = b) (ha : a.length = n) : ValP P e [] (.binOp .eql T x y ty) (.bool true) := by
  subst h
  exact ValP.eqAT hx hy (ints_u a) (ints_u a) (by simpa using ha)
theorem ValP.eqUF [EqI P T n .u8] (hx : e.ev x = some (.agg (uca a))) (hy : e.ev y = some (.agg (uca b))) (h : a ≠ b) (ha : a.length = n) (hb : b.length = n) : ValP P e [] (.binOp .eql T x y ty) (.bool false) := by
  have h' := ValP.eqlA (P := P) (T := T) (ty := ty) hx hy (ints_u a) (ints_u b) (by simpa using ha) (by simpa using hb)
  rwa [decide_eq_false (fun e => h (ints_uj e))] at h'
theorem ValP.neUF [EqI P T n .u8] (hx : e.ev x = some (.agg (uca a))) (hy : e.ev y = some (.agg (uca b))) (h : a = b) (ha : a.length = n) : ValP P e [] (.binOp .neq T x y ty) (.bool false) := by
  subst h
  have h' := ValP.neqA (P := P) (T := T) (ty := ty) hx hy (ints_u a) (ints_u a) (by simpa using ha) (by simpa using ha)
  simpa using h'
theorem ValP.neUT [EqI P T n .u8] (hx : e.ev x = some (.agg (uca a))) (hy : e.ev y = some (.agg (uca b))) (h : a ≠ b) (ha : a.length = n) (hb : b.length = n) : ValP P e [] (.binOp .neq T x y ty) (.bool true) := by
  have h' := ValP.neqA (P := P) (T := T) (ty := ty) hx hy (ints_u a) (ints_u b) (by simpa using ha) (by simpa using hb)
  rwa [decide_eq_false (fun e => h (ints_uj e))] at h'
theorem ValP.neNF [EqI P T n .u64] (hx : e.ev x = some (.agg (nca l))) (hy : e.ev y = some (.agg (nca m))) (h : l = m) (ha : l.length = n) : ValP P e [] (.binOp .neq T x y ty) (.bool false) := by
  subst h
  have h' := ValP.neqA (P := P) (T := T) (ty := ty) hx hy (ints_n l) (ints_n l) (by simpa using ha) (by simpa using ha)
  simpa using h'
theorem ValP.eqU [EqI P T n .u8] (hx : e.ev x = some (.agg (uca a))) (hy : e.ev y = some (.agg (uca b))) (ha : a.length = n) (hb : b.length = n) : ValP P e [] (.binOp .eql T x y ty) (.bool (decide (a = b))) := by
  have h' := ValP.eqlA (P := P) (T := T) (ty := ty) hx hy (ints_u a) (ints_u b) (by simpa using ha) (by simpa using hb)
  have e1 : decide ((a.map fun u => (u.toNat : Int)) = b.map fun u => (u.toNat : Int)) = decide (a = b) := by
    rw [decide_eq_decide]; exact ⟨ints_uj, fun h => by rw [h]⟩
  rwa [e1] at h'
end eqs
theorem ValP.neAF {T ty n : Nat} {k : IntKind} {x y : Operand} [EqI P T n k] {xs ys : Array Value} {a : List Int} (hx : e.ev x = some (.agg xs)) (hy : e.ev y = some (.agg ys)) (h1 : getInts k xs.toList = some a) (h2 : getInts k ys.toList = some a) (ha : a.length = n) : ValP P e [] (.binOp .neq T x y ty) (.bool false) := by
  have h := ValP.neqA (P := P) (T := T) (ty := ty) hx hy h1 h2 ha ha
  simpa using h
theorem ValP.strLss {T ty : TypeId} {x y : Operand} {a b : List UInt8} {v : Bool} (hx : e.ev x = some (.string ⟨a.toArray⟩)) (hy : e.ev y = some (.string ⟨b.toArray⟩)) (h : Op.bytesLess a b = v) : ValP P e [] (.binOp .lss T x y ty) (.bool v) :=
  .bin hx hy (fun w => guard_str w) fun w => by simp [binOp, Op.stringOp, ByteArray.toList_eq, h]
section sli
variable {T ty : TypeId} {x y : Operand} {n c : Nat}
theorem guard_sli {op : BinOp} {p : Option Addr} {v : Value} (w : World) : (eqGuard op T x y (.slice p n c) v).run P w = .ok () w := by
  unfold eqGuard; cases op <;> cases v <;> simp
theorem eqIn_ln {E : TypeId} [UnI P T (.slice E)] (d : Nat) (w : World) : (Op.equalIn (d + 1) T (.slice none n c) (.slice none 0 0)).run P w = .ok true w := by
  rw [Op.equalIn.eq_def]; simp only [Sem.run_bind, run_un (P := P) (T := T), Result.andThen_ok]; rfl
theorem eqIn_ls {E : TypeId} {a : Addr} [UnI P T (.slice E)] (d : Nat) (w : World) : (Op.equalIn (d + 1) T (.slice (some a) n c) (.slice none 0 0)).run P w = .ok false w := by
  rw [Op.equalIn.eq_def]; simp only [Sem.run_bind, run_un (P := P) (T := T), Result.andThen_ok]; rfl
theorem ValP.sliNilT {E : TypeId} [UnI P T (.slice E)] (hx : e.ev x = some (.slice none n c)) (hy : e.ev y = some (.slice none 0 0)) : ValP P e [] (.binOp .eql T x y ty) (.bool true) :=
  .bin hx hy (fun w => guard_sli w) fun w => by
    have := eqIn_ln (P := P) (T := T) (n := n) (c := c) (Op.maxDepth - 1) w
    simp only [binOp, Op.equal, Sem.run_bind]
    rw [show Op.maxDepth = Op.maxDepth - 1 + 1 from rfl, this]; rfl
theorem ValP.sliNilF {E : TypeId} {a : Addr} [UnI P T (.slice E)] (hx : e.ev x = some (.slice (some a) n c)) (hy : e.ev y = some (.slice none 0 0)) : ValP P e [] (.binOp .eql T x y ty) (.bool false) :=
  .bin hx hy (fun w => guard_sli w) fun w => by
    have := eqIn_ls (P := P) (T := T) (a := a) (n := n) (c := c) (Op.maxDepth - 1) w
    simp only [binOp, Op.equal, Sem.run_bind]
    rw [show Op.maxDepth = Op.maxDepth - 1 + 1 from rfl, this]; rfl
end sli
/-- An array of bytes, as it comes in. -/
theorem is_id {w : World} {cs : List Value} {n : Nat} (h : (Ty.arr n (.int .u8)).is w cs) : ∃ x : List UInt8, x.length = n ∧ cs = ucs x := by
  obtain ⟨hl, h⟩ := h
  have hl' : cs.length = n := by simpa [Ty.cells] using hl
  have hk : ∀ i, i < n → ∃ u : UInt8, cs[i]? = some (.int .u8 (u.toNat : Int)) := fun i hi => by
    obtain ⟨u, _, hu⟩ := is_u8 (h i hi)
    refine ⟨u, ?_⟩
    have h2 := congrArg (·[0]?) hu
    simpa [Ty.cells, List.getElem?_take, List.getElem?_drop] using h2
  refine ⟨(List.range n).map fun i => if h : i < n then Classical.choose (hk i h) else 0, by simp, ?_⟩
  apply List.ext_getElem?
  intro i
  by_cases hi : i < n
  · have hu := Classical.choose_spec (hk i hi)
    rw [hu, ucs_map]
    simp only [List.map_map, List.getElem?_map, List.getElem?_range hi, Option.map_some, Function.comp, hi, dif_pos]
  · rw [List.getElem?_eq_none (by omega), List.getElem?_eq_none (by rw [ucs_len]; simp; omega)]
end Go.Proofs.YtficnjnnhcadaaaDoor.SL

/-
  The sponge: the law's first line.
  Conditions: none.
-/
namespace Go.Proofs.YtficnjnnhcadaaaDoor
open Go Go.RowKit SL
set_option maxRecDepth 8000
set_option maxHeartbeats 4000000
set_option linter.unusedSimpArgs false
set_option linter.unusedVariables false
attribute [local irreducible] SL.CW SL.LW SL.DW Calls SL.Ret SL.RetG SL.beginQ SL.roundQ SL.rangeQ SL.inQ SL.RW SL.AnyW SL.thenQ SL.thenC SL.thenW SL.blkQ SL.finQ SL.ValP SL.NewP SL.SetP SL.CallP SL.Rd SL.Wr SL.Known
theorem TurnAt.bel {w w' : World} (h : TurnAt w) (hb : Bel w.heap.size [] w w') : TurnAt w' := by
  obtain ⟨E, fr, h⟩ := h
  exact ⟨E, fr, by rw [hb.block _ (Array.getElem?_eq_some_iff.1 h).1 (by simp)]; exact h⟩
theorem NumAt.bel {w w' : World} (h : NumAt w) (hb : Bel w.heap.size [] w w') : NumAt w' := by
  obtain ⟨E, fr, h⟩ := h
  exact ⟨E, fr, by rw [hb.block _ (Array.getElem?_eq_some_iff.1 h).1 (by simp)]; exact h⟩
theorem wakes_calls (w : World) (hT : TurnAt w) (hN : NumAt w) : Calls Tryd.prog 7 #[] w (Ret w (.bool true)) := by
  have hPa0 := Parse_calls [99, 53, 100, 50, 52, 54, 48, 49, 56, 54, 102, 55, 50, 51, 51, 99, 57, 50, 55, 101, 55, 100, 98, 50, 100, 99, 99, 55, 48, 51, 99, 48, 101, 53, 48, 48, 98, 54, 53, 51, 99, 97, 56, 50, 50, 55, 51, 98, 55, 98, 102, 97, 100, 56, 48, 52, 53, 100, 56, 53, 97, 52, 55, 48]
  rw [par_wake] at hPa0
  have hPa : ∀ w, Calls Tryd.prog 23 #[.string ⟨#[99, 53, 100, 50, 52, 54, 48, 49, 56, 54, 102, 55, 50, 51, 51, 99, 57, 50, 55, 101, 55, 100, 98, 50, 100, 99, 99, 55, 48, 51, 99, 48, 101, 53, 48, 48, 98, 54, 53, 51, 99, 97, 56, 50, 50, 55, 51, 98, 55, 98, 102, 97, 100, 56, 48, 52, 53, 100, 56, 53, 97, 52, 55, 48]⟩] w (Ret w (.tuple #[.agg (uca wakeId), .int .i64 0])) := hPa0
  have hRd : ∀ w' {fs}, St w [] fs w' → Calls Tryd.prog 17 #[.agg #[.int .u64 0, .int .u64 0, .int .u64 0, .int .u64 0, .int .u64 0, .int .u64 0, .int .u64 0, .int .u64 0, .int .u64 0, .int .u64 0, .int .u64 0, .int .u64 0, .int .u64 0, .int .u64 0, .int .u64 0, .int .u64 0, .int .u64 0, .int .u64 0, .int .u64 0, .int .u64 0, .int .u64 0, .int .u64 0, .int .u64 0, .int .u64 0, .int .u64 0], .int .i64 0] w' (Ret w' (.tuple #[.agg (nca (1 :: List.replicate 24 0)), .int .i64 0])) := fun w' fs hst => by
    have h := Round_calls (List.replicate 25 0) 0 (by decide) rfl (rep_lt 25) w' (hT.st hst) (hN.st hst)
    rw [round_wake] at h
    exact h
  have hSu : ∀ w', Bel w.heap.size [] w w' → Calls Tryd.prog 10 #[.slice none 0 0] w' (Ret w' (.agg (uca wakeId))) := fun w' hb => by
    have h := Sum_calls [] (.slice none 0 0) w' .nil (by decide) (hT.bel hb) (hN.bel hb)
    rwa [sum_wake] at h
  have hLs : ∀ w, Calls Tryd.prog 21 #[.agg #[.int .u8 0, .int .u8 0, .int .u8 0, .int .u8 0, .int .u8 0, .int .u8 0, .int .u8 0, .int .u8 0, .int .u8 0, .int .u8 0, .int .u8 0, .int .u8 0, .int .u8 0, .int .u8 0, .int .u8 0, .int .u8 0, .int .u8 0, .int .u8 0, .int .u8 0, .int .u8 0, .int .u8 0, .int .u8 0, .int .u8 0, .int .u8 0, .int .u8 0, .int .u8 0, .int .u8 0, .int .u8 0, .int .u8 0, .int .u8 0, .int .u8 0, .int .u8 0], .agg (uca wakeId)] w (Ret w (.bool true)) := fun w => by
    have h := Less_calls (List.replicate 32 0) wakeId rfl rfl w
    rw [less_wake] at h
    exact h
  refine enter (args := []) _ [] [] Tryd.func7 rfl Tryd.ntmps7 rfl (by simp) .nil ?_
  (refine CW.seq ?_; refine CW.region ?_; apply LW.v0; rfl; rfl; apply ValP.assign; rfl; apply LW.nil; refine thenN ?_; refine CW.seq ?_; refine CW.region ?_; apply LW.callE; rfl; rfl; infer_instance; apply ArgsOk.cons; rfl; exact ArgsOk.nil; intro w _; exact hPa w; apply LW.v0; rfl; rfl; apply ValP.move; rfl; apply LW.v0; rfl; rfl; apply ValP.extractN; rfl; rfl; apply LW.v0; rfl; rfl; apply ValP.extractN; rfl; rfl; apply LW.allocA; rfl; intro _; apply LW.store; rfl; rfl; apply SetAt.head; apply wr_ucaO; rfl; rfl; apply LW.v0; rfl; rfl; apply ValP.assign; rfl; apply LW.nil; refine thenN ?_; refine CW.seq ?_; refine CW.region ?_; apply LW.v0; rfl; rfl; apply ValP.buildA; exact PartsOk.nil; rfl; simp only [fillC, wc, wrCells, Value.cells, List.toList_toArray, List.setIfInBounds_toArray, List.set_cons_succ, List.set_cons_zero, Nat.reduceAdd, Nat.reduceMul, Nat.zero_add, Nat.mul_one]; rfl; apply LW.callE; rfl; rfl; infer_instance; apply ArgsOk.cons; rfl; apply ArgsOk.cons; rfl; exact ArgsOk.nil; intro w _; exact hRd w (by assumption); apply LW.v0; rfl; rfl; apply ValP.move; rfl; apply LW.v0; rfl; rfl; apply ValP.extractN; rfl; rfl; apply LW.v0; rfl; rfl; apply ValP.extractN; rfl; rfl; apply LW.allocA; rfl; intro _; apply LW.store; rfl; rfl; apply SetAt.head; apply wr_ncaO; rfl; rfl; apply LW.v0; rfl; rfl; apply ValP.assign; rfl; apply LW.nil; refine thenN ?_; refine CW.seq ?_; apply CW.pre; refine AnyW.any 19 mixed (by decide +kernel) ?_; (try simp only [tsOf_cons, tsOf_nil, tsOf_app]); apply DW.v0; rfl; rfl; rfl; exact WantT.none; rfl; apply ValP.move; rfl; apply DW.v0; rfl; rfl; rfl; exact WantT.none; rfl; apply ValP.eqT; rfl; rfl; omega; apply DW.v0; rfl; rfl; rfl; exact WantT.none; rfl; apply ValP.move; rfl; apply DW.v0; rfl; rfl; rfl; apply wantYes; rfl; rfl; (with_reducible rfl); rfl; apply ValP.move; rfl; apply DW.v0; rfl; rfl; rfl; apply wantYes; rfl; rfl; (with_reducible rfl); rfl; apply ValP.eqT; rfl; rfl; omega; apply DW.v0; rfl; rfl; rfl; exact WantT.none; rfl; apply ValP.pickT'; rfl; (with_reducible rfl); rfl; apply DW.v0; rfl; rfl; rfl; exact WantT.none; rfl; apply ValP.move; rfl; apply DW.callE; rfl; rfl; rfl; apply wantYes; rfl; rfl; (with_reducible rfl); rfl; infer_instance; apply ArgsOk.cons; rfl; exact ArgsOk.nil; rfl; exact ReadAll.nil; intro w _ _; exact hSu w (by assumption); apply DW.loadO; rfl; rfl; rfl; apply wantYes; rfl; rfl; (with_reducible rfl); rfl; apply TRead.tail; apply TRead.head; exact ancB_nil; apply rd_ucaW; rfl; apply DW.v0; rfl; rfl; rfl; apply wantYes; rfl; rfl; (with_reducible rfl); rfl; apply ValP.eqUT; rfl; rfl; rfl; rfl; apply DW.v0; rfl; rfl; rfl; exact WantT.none; rfl; apply ValP.pickT'; rfl; (with_reducible rfl); rfl; apply DW.v0; rfl; rfl; rfl; exact WantT.none; rfl; apply ValP.move; rfl; apply DW.loadO; rfl; rfl; rfl; apply wantYes; rfl; rfl; (with_reducible rfl); rfl; apply TRead.head; exact ancB_nil; apply rd_ncaW; rfl; apply DW.v0; rfl; rfl; rfl; apply wantYes; rfl; rfl; (with_reducible rfl); rfl; apply ValP.buildA; apply PartsOk.cons; rfl; exact PartsOk.nil; rfl; simp only [fillC, wc, wrCells, Value.cells, List.toList_toArray, List.setIfInBounds_toArray, List.set_cons_succ, List.set_cons_zero, Nat.reduceAdd, Nat.reduceMul, Nat.zero_add, Nat.mul_one]; rfl; apply DW.v0; rfl; rfl; rfl; apply wantYes; rfl; rfl; (with_reducible rfl); rfl; exact ValP.eqAT (a := 1 :: List.replicate 24 0) rfl rfl (by kernel_rfl) (by kernel_rfl) rfl; apply DW.v0; rfl; rfl; rfl; exact WantT.none; rfl; apply ValP.pickT'; rfl; (with_reducible rfl); rfl; apply DW.v0; rfl; rfl; rfl; exact WantT.none; rfl; apply ValP.move; rfl; apply DW.v0; rfl; rfl; rfl; apply wantYes; rfl; rfl; (with_reducible rfl); rfl; apply ValP.buildA; exact PartsOk.nil; rfl; simp only [fillC, wc, wrCells, Value.cells, List.toList_toArray, List.setIfInBounds_toArray, List.set_cons_succ, List.set_cons_zero, Nat.reduceAdd, Nat.reduceMul, Nat.zero_add, Nat.mul_one]; rfl; apply DW.loadO; rfl; rfl; rfl; apply wantYes; rfl; rfl; (with_reducible rfl); rfl; apply TRead.tail; apply TRead.head; exact ancB_nil; apply rd_ucaW; rfl; apply DW.nil; simp only [fsOf_cons, fsOf_nil, fsOf_app, fsOf_tsOf, fsOf_new]; apply LW.guardT'; rfl; rfl; (with_reducible rfl); apply LW.callE; rfl; rfl; infer_instance; apply ArgsOk.cons; rfl; apply ArgsOk.cons; rfl; exact ArgsOk.nil; intro w _; exact hLs w; apply LW.v0; rfl; rfl; apply ValP.pickT'; rfl; (with_reducible rfl); rfl; apply LW.v0; rfl; rfl; apply ValP.assign; rfl; apply LW.nil; refine thenN ?_; refine CW.ret ?_)
  (apply finR; exact .inl rfl; rfl; rfl; rfl; apply ResL.cons; exact Res.tmp rfl; exact ResL.nil)
  rfl
end Go.Proofs.YtficnjnnhcadaaaDoor

/-
  The sponge: what the laws do with bytes.
  Conditions: none.
-/
namespace Go.Proofs.YtficnjnnhcadaaaDoor
open Go Go.RowKit SL
set_option maxRecDepth 8000
set_option maxHeartbeats 4000000
set_option linter.unusedSimpArgs false
set_option linter.unusedVariables false
attribute [local irreducible] SL.CW SL.LW SL.DW Calls SL.Ret SL.RetG SL.beginQ SL.roundQ SL.rangeQ SL.inQ SL.RW SL.AnyW SL.thenQ SL.thenC SL.thenW SL.blkQ SL.finQ SL.ValP SL.NewP SL.SetP SL.CallP SL.Rd SL.Wr SL.Known
theorem Clone_calls (l : List UInt8) (v : Value) (w : World) (hv : RowAt w 1 v l.length (ucs l)) (hl : l.length ≤ 100000) : Calls Tryd.prog 26 #[v] w (RetG w [] (fun v' gs => IsRow 5 1 v' l.length (ucs l) gs)) := by
  obtain ⟨p, c, rfl, _, _⟩ := hv.form
  cases p with
  | none =>
    have h0 : l.length = 0 := by
      rcases Nat.eq_zero_or_pos l.length with h | h
      · exact h
      · obtain ⟨_, _, _, _, _, _, he, _, _⟩ := hv.pos h
        cases he
    have hn : l = [] := List.length_eq_zero_iff.1 h0
    subst hn
    refine enter (args := [_]) _ [] [] Tryd.func26 rfl Tryd.ntmps26 rfl (by simp) .nil ?_
    (refine CW.seq ?_; refine CW.region ?_; apply LW.v0; rfl; rfl; apply ValP.assign; rfl; apply LW.nil; refine thenN ?_; refine CW.seq ?_; refine CW.seq ?_; refine CW.region ?_; apply LW.v0; rfl; rfl; apply ValP.move; rfl; apply LW.v0; rfl; rfl; apply ValP.sliNilT; rfl; rfl; apply LW.nil; refine thenN ?_; apply CW.condT; rfl; (with_reducible rfl); refine CW.seq ?_; refine CW.region ?_; apply LW.v0; rfl; rfl; apply ValP.assign; rfl; apply LW.nil; refine thenN ?_; refine CW.ret ?_; refine thenR ?_)
    exact fin [] (.inl rfl) rfl rfl (by (apply ResL.cons; exact Res.tmp rfl; exact ResL.nil)) (List.Sublist.refl _) .nil
  | some a =>
    refine enter (args := [_]) _ [] [] Tryd.func26 rfl Tryd.ntmps26 rfl (by simp) .nil ?_
    (refine CW.seq ?_; refine CW.region ?_; apply LW.v0; rfl; rfl; apply ValP.assign; rfl; apply LW.nil; refine thenN ?_; refine CW.seq ?_; refine CW.seq ?_; refine CW.region ?_; apply LW.v0; rfl; rfl; apply ValP.move; rfl; apply LW.v0; rfl; rfl; apply ValP.sliNilF; rfl; rfl; apply LW.nil; refine thenN ?_; apply CW.condF; rfl; (with_reducible rfl); refine CW.skip ?_; refine thenN ?_; refine CW.seq ?_; refine CW.region ?_)
    refine LW.lay0 rfl inferInstance inferInstance fun v0 seg hrow => ?_
    (apply LW.v0; rfl; rfl; apply ValP.move; rfl)
    (apply LW.appendAny; (case hrow => assumption); rfl; rfl; infer_instance; infer_instance; infer_instance; rfl; rfl; rfl; exact AtSeg.head)
    · exact fun w hs => hv.st hs
    · exact ucs_cells l
    · simp only [maxLen]; omega
    · omega
    intro v1 seg1 hrow1
    refine ⟨_, (by (exact AtSeg.head)), ?_⟩
    simp only [List.nil_append, Nat.zero_add, List.append_nil] at hrow1 ⊢
    (apply LW.v0; rfl; rfl; apply ValP.assign; rfl; apply LW.nil; refine thenN ?_; refine CW.ret ?_)
    refine fin (vs := [v1]) seg1 (.inl rfl) rfl rfl (by (apply ResL.cons; exact Res.tmp rfl; exact ResL.nil)) ?_ hrow1
    (exact List.Sublist.refl _)
def fewB (b : List UInt8) : List UInt8 := b.take 800
theorem fewB_len (b : List UInt8) : (fewB b).length ≤ 800 := by simp [fewB]; omega
def RowR (b : List UInt8) (v : Value) (gs : Fs) : Prop := IsRow 5 1 v b.length (ucs b) gs
theorem few_calls (b : List UInt8) (v : Value) (w : World) (hv : RowAt w 1 v b.length (ucs b)) : Calls Tryd.prog 8 #[v] w (RetG w [] (RowR (fewB b))) := by
  obtain ⟨p, c, rfl, hc, hm⟩ := hv.form
  simp only [maxLen] at hm
  have hl : (fewB b).length = min b.length 800 := by simp [fewB, Nat.min_comm]
  have hv2 : RowAt w 1 (.slice p (min b.length 800) c) (fewB b).length (ucs (fewB b)) := by
    have := hv.take (k := min b.length 800) (by omega)
    rw [ucs_take] at this
    rw [hl, fewB, show b.take 800 = b.take (min b.length 800) by rw [Nat.min_comm, ← List.take_take, List.take_length]]
    exact this
  have hC : ∀ w' {fs}, St w [] fs w' → Calls Tryd.prog 26 #[.slice p (min b.length 800) c] w' (RetG w' [] (fun v' gs => IsRow 5 1 v' (fewB b).length (ucs (fewB b)) gs)) := fun w' fs hst => Clone_calls (fewB b) _ w' (hv2.st hst) (by have := fewB_len b; omega)
  refine enter (args := [_]) _ [] [] Tryd.func8 rfl Tryd.ntmps8 rfl (by simp) .nil ?_
  (refine CW.seq ?_; refine CW.region ?_; apply LW.v0; rfl; rfl; apply ValP.assign; rfl; apply LW.nil; refine thenN ?_; refine CW.seq ?_; refine CW.region ?_; apply LW.v0; rfl; rfl; apply ValP.move; rfl; apply LW.v0; rfl; rfl; apply ValP.move; rfl; apply LW.v0; rfl; rfl; apply ValP.lenR; rfl; infer_instance; rfl; apply LW.v0; rfl; rfl; apply ValP.minZL; rfl; rfl; decide; apply LW.v0; rfl; rfl; apply ValP.cutTo; infer_instance; infer_instance; rfl; rfl; omega)
  refine LW.callR rfl rfl inferInstance (by (apply ArgsOk.cons; rfl; exact ArgsOk.nil)) (fun w hst => hC w hst) ?_
  intro v1 gs1 hrow
  (apply LW.v0; rfl; rfl; apply ValP.assign; rfl; apply LW.nil; refine thenN ?_; refine CW.ret ?_)
  refine fin (vs := [v1]) gs1 (.inl rfl) rfl rfl (by (apply ResL.cons; exact Res.tmp rfl; exact ResL.nil)) ?_ hrow
  exact List.sublist_append_left _ _
/-! ### Bytes compared -/
theorem same_calls (a b : List UInt8) (va vb : Value) (w : World) (ha : RowAt w 1 va a.length (ucs a)) (hb : RowAt w 1 vb b.length (ucs b)) : Calls Tryd.prog 12 #[va, vb] w (Ret w (.bool (decide (a = b)))) := by
  refine enter (args := [_, _]) _ [] [] Tryd.func12 rfl Tryd.ntmps12 rfl (by simp) .nil ?_
  (refine CW.seq ?_; refine CW.region ?_; apply LW.v0; rfl; rfl; apply ValP.assign; rfl; apply LW.nil; refine thenN ?_; refine CW.seq ?_; refine CW.region ?_; apply LW.v0; rfl; rfl; apply ValP.move; rfl)
  refine LW.toStr rfl inferInstance inferInstance inferInstance rfl (fun w hs => ha.st hs) ?_
  (apply LW.v0; rfl; rfl; apply ValP.move; rfl)
  refine LW.toStr rfl inferInstance inferInstance inferInstance rfl (fun w hs => hb.st hs) ?_
  (apply LW.v0; rfl; rfl; apply ValP.strEq; rfl; rfl; apply LW.v0; rfl; rfl; apply ValP.assign; rfl; apply LW.nil; refine thenN ?_; refine CW.ret ?_)
  (apply finR; exact .inl rfl; rfl; rfl; rfl; apply ResL.cons; exact Res.tmp rfl; exact ResL.nil)
  simp [tup, ← bytes_eq]
theorem Equal_calls (a b : List UInt8) (va vb : Value) (w : World) (ha : RowAt w 1 va a.length (ucs a)) (hb : RowAt w 1 vb b.length (ucs b)) : Calls Tryd.prog 25 #[va, vb] w (Ret w (.bool (decide (a = b)))) := by
  refine enter (args := [_, _]) _ [] [] Tryd.func25 rfl Tryd.ntmps25 rfl (by simp) .nil ?_
  (refine CW.seq ?_; refine CW.region ?_; apply LW.v0; rfl; rfl; apply ValP.assign; rfl; apply LW.nil; refine thenN ?_; refine CW.seq ?_; refine CW.region ?_; apply LW.v0; rfl; rfl; apply ValP.move; rfl)
  refine LW.toStr rfl inferInstance inferInstance inferInstance rfl (fun w hs => ha.st hs) ?_
  (apply LW.v0; rfl; rfl; apply ValP.move; rfl)
  refine LW.toStr rfl inferInstance inferInstance inferInstance rfl (fun w hs => hb.st hs) ?_
  (apply LW.v0; rfl; rfl; apply ValP.strEq; rfl; rfl; apply LW.v0; rfl; rfl; apply ValP.assign; rfl; apply LW.nil; refine thenN ?_; refine CW.ret ?_)
  (apply finR; exact .inl rfl; rfl; rfl; rfl; apply ResL.cons; exact Res.tmp rfl; exact ResL.nil)
  simp [tup, ← bytes_eq]
theorem HasPrefix_calls (a b : List UInt8) (va vb : Value) (w : World) (ha : RowAt w 1 va a.length (ucs a)) (hb : RowAt w 1 vb b.length (ucs b)) (hl : b.length ≤ a.length) : Calls Tryd.prog 14 #[va, vb] w (Ret w (.bool (decide (a.take b.length = b)))) := by
  obtain ⟨p, c, rfl, hc, hm⟩ := ha.form
  obtain ⟨q, d, rfl, hd, hn⟩ := hb.form
  simp only [maxLen] at hm hn
  have ht := ha.take (k := b.length) hl
  rw [ucs_take] at ht
  have htl : (a.take b.length).length = b.length := by simp [hl]
  have ht : RowAt w 1 (.slice p b.length c) (a.take b.length).length (ucs (a.take b.length)) := by rw [htl]; exact ht
  have hE : ∀ w' {fs}, St w [] fs w' → Calls Tryd.prog 25 #[.slice p b.length c, .slice q b.length d] w' (Ret w' (.bool (decide (a.take b.length = b)))) := fun w' fs hst => by
    exact Equal_calls (a.take b.length) b _ _ w' (ht.st hst) (hb.st hst)
  refine enter (args := [_, _]) _ [] [] Tryd.func14 rfl Tryd.ntmps14 rfl (by simp) .nil ?_
  (refine CW.seq ?_; refine CW.region ?_; apply LW.v0; rfl; rfl; apply ValP.assign; rfl; apply LW.nil; refine thenN ?_; refine CW.seq ?_; refine CW.region ?_; apply LW.v0; rfl; rfl; apply ValP.move; rfl; apply LW.v0; rfl; rfl; apply ValP.lenR; rfl; infer_instance; rfl; apply LW.v0; rfl; rfl; apply ValP.move; rfl; apply LW.v0; rfl; rfl; apply ValP.lenR; rfl; infer_instance; rfl; apply LW.v0; rfl; rfl; apply ValP.geqT; rfl; rfl; omega; apply LW.v0; rfl; rfl; apply ValP.move; rfl; apply LW.guardT'; rfl; rfl; (with_reducible rfl); apply LW.v0; rfl; rfl; apply ValP.move; rfl; apply LW.guardT'; rfl; rfl; (with_reducible rfl); apply LW.v0; rfl; rfl; apply ValP.move; rfl; apply LW.guardT'; rfl; rfl; (with_reducible rfl); apply LW.v0; rfl; rfl; apply ValP.lenR; rfl; infer_instance; rfl; apply LW.guardT'; rfl; rfl; (with_reducible rfl); apply LW.v0; rfl; rfl; apply ValP.cutTo; infer_instance; infer_instance; rfl; rfl; omega; apply LW.guardT'; rfl; rfl; (with_reducible rfl); apply LW.v0; rfl; rfl; apply ValP.move; rfl; apply LW.guardT'; rfl; rfl; (with_reducible rfl); apply LW.callE; rfl; rfl; infer_instance; apply ArgsOk.cons; rfl; apply ArgsOk.cons; rfl; exact ArgsOk.nil; intro w _; exact hE w (by assumption); apply LW.v0; rfl; rfl; apply ValP.pickT'; rfl; (with_reducible rfl); rfl; apply LW.v0; rfl; rfl; apply ValP.assign; rfl; apply LW.nil; refine thenN ?_; refine CW.ret ?_)
  (apply finR; exact .inl rfl; rfl; rfl; rfl; apply ResL.cons; exact Res.tmp rfl; exact ResL.nil)
  rfl
def litF (l : List UInt8) : Nat → Nat
  | 0 => 0
  | k + 1 => litF l k ||| ((l.getD k 0).toNat * 2 ^ (8 * k) % 18446744073709551616)
theorem litF_lt (l : List UInt8) (k : Nat) : litF l k < 18446744073709551616 := by
  induction k with
  | zero => exact Nat.zero_lt_succ _
  | succ k ih => exact Nat.or_lt_two_pow (n := 64) ih (Nat.mod_lt _ (by decide))
theorem litF_succ (l : List UInt8) (k : Nat) : litF l (k + 1) = litF l k ||| ((l.getD k 0).toNat * 2 ^ (8 * k) % 18446744073709551616) := rfl
theorem litF_zero (l : List UInt8) : litF l 0 = 0 := rfl
attribute [local irreducible] litF
theorem little_calls (l : List UInt8) (v : Value) (w : World) (hv : RowAt w 1 v l.length (ucs l)) (hl : 8 ≤ l.length) : Calls Tryd.prog 16 #[v] w (Ret w (.int .u64 (litF l 8 : Int))) := by
  obtain ⟨b, off, c, cs, E, fr, rfl, hb, hx⟩ := hv.pos (by omega)
  refine enter (args := [_]) _ [] [] Tryd.func16 rfl Tryd.ntmps16 rfl (by simp) .nil ?_
  (refine CW.seq ?_; refine CW.region ?_; apply LW.v0; rfl; rfl; apply ValP.assign; rfl; apply LW.nil; refine thenN ?_; refine CW.seq ?_; refine CW.seq ?_; refine CW.region ?_; apply LW.v0; rfl; rfl; apply ValP.move; rfl; apply LW.nil; refine thenN ?_; refine CW.block ?_)
  refine CW.loop (fun k : Nat => ([(4, .int .i64 (k : Int)), (2, .int .u64 (litF l k : Int)), (0, .slice (some ⟨b, off, none⟩) l.length c)], []))
    (fun k => k ≤ 8) (fun k => 8 - k) 0 (Nat.zero_le _) ⟨rfl, by rw [litF_zero]; rfl, rfl, trivial⟩ (List.nil_sublist _) ?_
  intro k hk
  dsimp only at hk ⊢
  rcases Nat.lt_or_ge k 8 with h8 | h8
  · have hrd : Rd Tryd.prog 5 (.cells cs E fr) (off + k * 1) (.int .u8 ((l.getD k 0).toNat : Int)) := Rd.elem1 hx (ucs_one l) (drop_get (by omega)) rfl
    have hbt : (l.getD k 0).toNat < 256 := UInt8.toNat_lt _
    have hlk := litF_lt l k
    (refine CW.seq ?_; refine CW.region ?_; apply LW.v0; rfl; rfl; apply ValP.lssT; rfl; rfl; omega; apply LW.nil; refine thenN ?_; refine CW.seq ?_; apply CW.condT; rfl; (with_reducible rfl); refine CW.skip ?_; refine thenN ?_; refine CW.seq ?_; refine CW.block ?_; refine CW.seq ?_; refine CW.region ?_; apply LW.v0; rfl; rfl; apply ValP.move; rfl; apply LW.v0; rfl; rfl; apply ValP.assign; rfl; apply LW.nil; refine thenN ?_; refine CW.region ?_; apply LW.v0; rfl; rfl; apply ValP.move; rfl; apply LW.v0; rfl; rfl; apply ValP.move; rfl; apply LW.v0; rfl; rfl; apply ValP.move; rfl; apply LW.v0; rfl; rfl; apply ValP.indexAddrS; rfl; rfl; rfl; omega; apply LW.load; rfl; rfl; exact Known.ext (by assumption) (by simp); assumption; apply LW.v0; rfl; rfl; apply ValP.convN; rfl; omega; omega; apply LW.v0; rfl; rfl; apply ValP.move; rfl; apply LW.v0; rfl; rfl; apply ValP.mulZK; rfl; rfl; decide; omega; apply LW.v0; rfl; rfl; apply ValP.shlU; rfl; rfl; omega; apply LW.v0; rfl; rfl; apply ValP.orU; rfl; rfl; assumption; exact Nat.mod_lt _ (by decide); apply LW.v0; rfl; rfl; apply ValP.assign; rfl; apply LW.nil; refine blkN ?_; refine thenN ?_; refine CW.region ?_; apply LW.v0; rfl; rfl; apply ValP.addZL; rfl; rfl; decide; omega; apply LW.v0; rfl; rfl; apply ValP.move; rfl; apply LW.nil)
    refine thenX ⟨rfl, k + 1, h8, by omega, ⟨rfl, ?_, rfl, trivial⟩, List.nil_sublist _⟩
    rw [litF_succ]; rfl
  · obtain rfl : k = 8 := by omega
    (refine CW.seq ?_; refine CW.region ?_; apply LW.v0; rfl; rfl; apply ValP.lssF; rfl; rfl; omega; apply LW.nil; refine thenN ?_; refine CW.seq ?_; apply CW.condF; rfl; (with_reducible rfl); refine CW.exit ?_; refine thenE ?_; refine thenE ?_; refine blkE rfl ?_; refine thenN ?_; refine CW.seq ?_; refine CW.region ?_; apply LW.v0; rfl; rfl; apply ValP.move; rfl; apply LW.v0; rfl; rfl; apply ValP.assign; rfl; apply LW.nil; refine thenN ?_; refine CW.ret ?_)
    (apply finR; exact .inl rfl; rfl; rfl; rfl; apply ResL.cons; exact Res.tmp rfl; exact ResL.nil)
    rfl
end Go.Proofs.YtficnjnnhcadaaaDoor

/-
  The sponge: plain laws of digits, of order and of padded bytes.
  Conditions: none.
-/
namespace Go.Proofs.YtficnjnnhcadaaaDoor
open Go Go.RowKit SL
set_option maxRecDepth 8000
set_option linter.unusedSimpArgs false
set_option linter.unusedVariables false
/-! ### Order -/
theorem less_bev : ∀ (x y : List UInt8), x.length = y.length → Op.bytesLess x y = decide (bev x < bev y)
  | [], [], _ => by simp [Op.bytesLess]
  | [], _ :: _, h => by simp at h
  | _ :: _, [], h => by simp at h
  | a :: x, b :: y, h => by
    have hl : x.length = y.length := by simpa using h
    have ih := less_bev x y hl
    have hx := bev_lt x
    have hy := bev_lt y
    rw [← hl] at hy
    simp only [Op.bytesLess, bev_cons, ih, ← hl]
    rcases Nat.lt_trichotomy a.toNat b.toNat with hc | hc | hc
    · have h1 : (a.toNat + 1) * 2 ^ (8 * x.length) ≤ b.toNat * 2 ^ (8 * x.length) := Nat.mul_le_mul_right _ hc
      rw [Nat.succ_mul] at h1
      have h2 : a < b := UInt8.lt_iff_toNat_lt.2 hc
      simp only [h2, decide_true, Bool.true_or]
      rw [eq_comm, decide_eq_true_eq]
      omega
    · have h2 : a = b := UInt8.toNat_inj.1 hc
      subst h2
      simp
    · have h1 : (b.toNat + 1) * 2 ^ (8 * x.length) ≤ a.toNat * 2 ^ (8 * x.length) := Nat.mul_le_mul_right _ hc
      rw [Nat.succ_mul] at h1
      have h2 : ¬ a < b := fun h => by have := UInt8.lt_iff_toNat_lt.1 h; omega
      have h3 : a ≠ b := fun h => by subst h; omega
      simp only [h2, decide_false, Bool.false_or]
      have h4 : (a == b) = false := by simpa using h3
      rw [h4, Bool.false_and, eq_comm, decide_eq_false_iff_not]
      omega
theorem hexd_lt : ∀ d, d < 16 → ∀ e, e < 16 → (decide (hexd d < hexd e) = decide (d < e) ∧ (hexd d == hexd e) = decide (d = e)) := by decide
theorem less_text : ∀ (x y : List UInt8), x.length = y.length → Op.bytesLess (idText x) (idText y) = Op.bytesLess x y
  | [], [], _ => rfl
  | [], _ :: _, h => by simp at h
  | _ :: _, [], h => by simp at h
  | a :: x, b :: y, h => by
    have ih := less_text x y (by simpa using h)
    have ha := a.toNat_lt
    have hb := b.toNat_lt
    have e1 : idText (a :: x) = hexd (a.toNat / 16) :: hexd (a.toNat % 16) :: idText x := rfl
    have e2 : idText (b :: y) = hexd (b.toNat / 16) :: hexd (b.toNat % 16) :: idText y := rfl
    obtain ⟨h1, h2⟩ := hexd_lt (a.toNat / 16) (by omega) (b.toNat / 16) (by omega)
    obtain ⟨h3, h4⟩ := hexd_lt (a.toNat % 16) (by omega) (b.toNat % 16) (by omega)
    rw [e1, e2]
    simp only [Op.bytesLess, ih, h1, h2, h3, h4]
    have g1 : decide (a < b) = decide (a.toNat < b.toNat) := decide_eq_decide.2 UInt8.lt_iff_toNat_lt
    have g2 : (a == b) = decide (a.toNat = b.toNat) := by rw [Bool.eq_iff_iff]; simp [UInt8.toNat_inj]
    rw [g1, g2]
    rcases Nat.lt_trichotomy a.toNat b.toNat with hc | hc | hc
    · have : decide (a.toNat < b.toNat) = true := by simpa using hc
      rw [this]
      rcases Nat.lt_or_ge (a.toNat / 16) (b.toNat / 16) with hd | hd
      · simp [hd]
      · have h5 : a.toNat / 16 = b.toNat / 16 := by omega
        have h6 : a.toNat % 16 < b.toNat % 16 := by omega
        simp [h5, h6]
    · rw [hc]; simp
    · have h7 : ¬ a.toNat < b.toNat := by omega
      have h8 : ¬ a.toNat = b.toNat := by omega
      rcases Nat.lt_or_ge (b.toNat / 16) (a.toNat / 16) with hd | hd
      · have h5 : ¬ a.toNat / 16 < b.toNat / 16 := by omega
        have h6 : ¬ a.toNat / 16 = b.toNat / 16 := by omega
        simp [h5, h6, h7, h8]
      · have h5 : a.toNat / 16 = b.toNat / 16 := by omega
        have h6 : ¬ a.toNat % 16 < b.toNat % 16 := by omega
        have h9 : ¬ a.toNat % 16 = b.toNat % 16 := by omega
        simp [h5, h6, h7, h8, h9]
theorem text_less (x y : List UInt8) (h : x.length = y.length) : Op.bytesLess (idText x) (idText y) = lessB x y := by
  rw [less_text x y h, less_bev x y h]; rfl
theorem bev_inj : ∀ (x y : List UInt8), x.length = y.length → bev x = bev y → x = y
  | [], [], _, _ => rfl
  | [], _ :: _, h, _ => by simp at h
  | _ :: _, [], h, _ => by simp at h
  | a :: x, b :: y, h, he => by
    have hl : x.length = y.length := by simpa using h
    have hx := bev_lt x
    have hy := bev_lt y
    rw [← hl] at hy
    rw [bev_cons, bev_cons, ← hl] at he
    have hc : a.toNat = b.toNat := by
      rcases Nat.lt_trichotomy a.toNat b.toNat with hc | hc | hc
      · have h1 : (a.toNat + 1) * 2 ^ (8 * x.length) ≤ b.toNat * 2 ^ (8 * x.length) := Nat.mul_le_mul_right _ hc
        rw [Nat.succ_mul] at h1
        omega
      · exact hc
      · have h1 : (b.toNat + 1) * 2 ^ (8 * x.length) ≤ a.toNat * 2 ^ (8 * x.length) := Nat.mul_le_mul_right _ hc
        rw [Nat.succ_mul] at h1
        omega
    rw [hc] at he
    rw [UInt8.toNat_inj.1 hc, bev_inj x y hl (by omega)]
/-! ### Digits lead back -/
theorem text_get : ∀ (x : List UInt8) (k : Nat), k < x.length → (idText x).getD (2 * k) 0 = hexd ((x.getD k 0).toNat / 16) ∧ (idText x).getD (2 * k + 1) 0 = hexd ((x.getD k 0).toNat % 16)
  | [], k, h => by simp at h
  | a :: x, 0, _ => ⟨rfl, rfl⟩
  | a :: x, k + 1, h => by
    have ih := text_get x k (by simpa using h)
    have e1 : idText (a :: x) = hexd (a.toNat / 16) :: hexd (a.toNat % 16) :: idText x := rfl
    rw [e1, show 2 * (k + 1) = 2 * k + 1 + 1 by omega]
    simpa using ih
theorem parF_text (x : List UInt8) (hx : x.length = 32) : ∀ k, k ≤ 32 → parF (idText x) (2 * k) = x.take k ++ List.replicate (32 - k) 0
  | 0, _ => by rw [Nat.mul_zero, parF_zero]; simp
  | k + 1, hk => by
    have ih := parF_text x hx k (by omega)
    obtain ⟨g1, g2⟩ := text_get x k (by omega)
    have hu := (x.getD k 0).toNat_lt
    have h1 : hexu ((idText x).getD (2 * k) 0) = some ((x.getD k 0).toNat / 16) := by rw [g1]; exact hexu_hexd _ (by omega)
    have h2 : hexu ((idText x).getD (2 * k + 1) 0) = some ((x.getD k 0).toNat % 16) := by rw [g2]; exact hexu_hexd _ (by omega)
    rw [parF_two (by omega) h1 h2, ih]
    have e1 : UInt8.ofNat ((16 * ((x.getD k 0).toNat / 16) + (x.getD k 0).toNat % 16) % 256) = x.getD k 0 := by
      apply UInt8.toNat_inj.1
      rw [UInt8.toNat_ofNat']; omega
    rw [e1]
    have e2 : x.getD k 0 = x[k]'(by omega) := by rw [List.getD_eq_getElem?_getD, List.getElem?_eq_getElem (by omega)]; rfl
    rw [e2, List.set_append_right _ _ (by simp; omega)]
    have e3 : k - (x.take k).length = 0 := by simp; omega
    rw [e3, show 32 - k = (32 - (k + 1)) + 1 by omega, List.replicate_succ, List.set_cons_zero, List.take_succ_eq_append_getElem (show k < x.length by omega), List.append_assoc]
    rfl
theorem text_digits (x : List UInt8) : digB (idText x) = true := by
  unfold digB
  rw [List.all_eq_true]
  intro u hu
  obtain ⟨v, hv, hm⟩ := List.mem_flatMap.1 hu
  have hlt := v.toNat_lt
  rcases List.mem_cons.1 hm with rfl | hm
  · rw [hexu_hexd _ (by omega)]; rfl
  · rcases List.mem_cons.1 hm with rfl | hm
    · rw [hexu_hexd _ (by omega)]; rfl
    · cases hm
theorem par_text (x : List UInt8) (hx : x.length = 32) : parB (idText x) = some x := by
  unfold parB
  rw [if_pos ⟨by rw [idText_len, hx], text_digits x⟩]
  have := parF_text x hx 32 (Nat.le_refl _)
  rw [show 2 * 32 = 64 from rfl] at this
  rw [this]
  simp [List.take_of_length_le (Nat.le_of_eq hx)]
theorem untext : ∀ (n : Nat) (s : List UInt8), s.length = 2 * n → digB s = true → ∃ x, x.length = n ∧ idText x = s
  | 0, s, h, _ => ⟨[], rfl, by rw [List.length_eq_zero_iff.1 (show s.length = 0 by omega)]; rfl⟩
  | n + 1, [], h, _ => by simp at h
  | n + 1, [a], h, _ => by simp at h; omega
  | n + 1, a :: b :: s, h, hd => by
    unfold digB at hd
    simp only [List.all_cons, Bool.and_eq_true] at hd
    obtain ⟨ha, hb, hs⟩ := hd
    obtain ⟨d, ha⟩ := Option.isSome_iff_exists.1 ha
    obtain ⟨e, hb⟩ := Option.isSome_iff_exists.1 hb
    obtain ⟨x, hx, ht⟩ := untext n s (by simp at h; omega) hs
    have hd := hexu_lt ha
    have he := hexu_lt hb
    refine ⟨UInt8.ofNat (16 * d + e) :: x, by simp [hx], ?_⟩
    have hv : (UInt8.ofNat (16 * d + e)).toNat = 16 * d + e := by rw [UInt8.toNat_ofNat']; omega
    show hexd ((UInt8.ofNat (16 * d + e)).toNat / 16) :: hexd ((UInt8.ofNat (16 * d + e)).toNat % 16) :: idText x = _
    rw [hv, ht, show (16 * d + e) / 16 = d by omega, show (16 * d + e) % 16 = e by omega, hexd_hexu ha, hexd_hexu hb]
theorem text_par {s z : List UInt8} (h : parB s = some z) : idText z = s := by
  have h0 : s.length = 64 ∧ digB s = true := by
    unfold parB at h
    split at h
    · assumption
    · cases h
  obtain ⟨x, hx, ht⟩ := untext 32 s h0.1 h0.2
  have := par_text x hx
  rw [ht, h] at this
  rw [Option.some.inj this, ht]
/-! ### Padded bytes -/
theorem pad1_get (b : List UInt8) (i : Nat) (hi : i < padN b.length) : (pad1 b).getD i 0 = if i = b.length then 1 else b.getD i 0 := by
  have hlt := padN_lt b.length
  unfold pad1
  rw [List.getD_eq_getElem?_getD, List.getElem?_set]
  split
  · rename_i h
    subst h
    rw [if_pos (by simp; omega), if_pos rfl]; rfl
  · rename_i h
    rw [if_neg (fun e => h e.symm), List.getElem?_append]
    split
    · rw [List.getD_eq_getElem?_getD]
    · rename_i hge
      rw [List.getElem?_replicate]
      have : b[i]? = none := List.getElem?_eq_none (by omega)
      rw [List.getD_eq_getElem?_getD, this]
      split <;> rfl
theorem padB_get (b : List UInt8) (i : Nat) (hi : i < padN b.length) : (padB b).getD i 0 = if i = padN b.length - 1 then (pad1 b).getD i 0 ||| 128 else (pad1 b).getD i 0 := by
  unfold padB
  rw [List.getD_eq_getElem?_getD, List.getElem?_set]
  split
  · rename_i h
    subst h
    rw [if_pos (by rw [pad1_len]; exact hi), if_pos rfl]; rfl
  · rename_i h
    rw [if_neg (fun e => h e.symm), List.getD_eq_getElem?_getD]
theorem pad_inj {a b : List UInt8} (h : padB a = padB b) : a = b := by
  have hN : padN a.length = padN b.length := by rw [← padB_len, ← padB_len, h]
  have ha := padN_lt a.length
  have hb := padN_lt b.length
  have key : ∀ (a b : List UInt8), padB a = padB b → padN a.length = padN b.length → ¬ a.length < b.length := fun a b h hN hl => by
    have ha := padN_lt a.length
    have hb := padN_lt b.length
    have e1 := padB_get a b.length (by omega)
    have e2 := padB_get b b.length hb
    have p1 : (pad1 a).getD b.length 0 = 0 := by
      rw [pad1_get a b.length (by omega), if_neg (by omega), List.getD_eq_getElem?_getD, List.getElem?_eq_none (by omega)]; rfl
    have p2 : (pad1 b).getD b.length 0 = 1 := by rw [pad1_get b b.length hb, if_pos rfl]
    rw [p1] at e1
    rw [p2] at e2
    rw [h, e2, hN] at e1
    split at e1
    · exact absurd e1 (by decide)
    · exact absurd e1 (by decide)
  have hl : a.length = b.length := by
    rcases Nat.lt_trichotomy a.length b.length with hc | hc | hc
    · exact absurd hc (key a b h hN)
    · exact hc
    · exact absurd hc (key b a h.symm hN.symm)
  apply List.ext_getElem hl
  intro i h1 h2
  have e1 := padB_get a i (by omega)
  have e2 := padB_get b i (by omega)
  have hne : i ≠ padN a.length - 1 := by omega
  rw [if_neg hne, pad1_get a i (by omega), if_neg (by omega)] at e1
  rw [if_neg (by omega), pad1_get b i (by omega), if_neg (by omega)] at e2
  rw [h, e2, List.getD_eq_getElem?_getD, List.getD_eq_getElem?_getD, List.getElem?_eq_getElem h1, List.getElem?_eq_getElem h2] at e1
  simpa using e1.symm
theorem pad_prefix (b : List UInt8) : (padB b).take b.length = b := by
  have hlt := padN_lt b.length
  apply List.ext_getElem
  · rw [List.length_take, padB_len]; omega
  · intro i h1 h2
    have e1 := padB_get b i (by omega)
    rw [if_neg (by omega), pad1_get b i (by omega), if_neg (by omega), List.getD_eq_getElem?_getD, List.getD_eq_getElem?_getD, List.getElem?_eq_getElem h2, List.getElem?_eq_getElem (by rw [padB_len]; omega)] at e1
    rw [List.getElem_take]
    simpa using e1
end Go.Proofs.YtficnjnnhcadaaaDoor

/-
  A SMALL LOGIC OVER THE KIT's WALK, PART MG: cuts from a place on, told.
  Conditions: none; over any program.
-/
namespace Go.Proofs.YtficnjnnhcadaaaDoor.SL
set_option linter.unusedVariables false
set_option linter.unusedSimpArgs false
open Go Go.RowKit
variable {P : Program} {e : Env}
section cut
variable {T E x y lo : Nat}
theorem ValP.cutFromO {T E : TypeId} {x lo : Operand} {b o n c k : Nat} {il : IntKind} {z : Value} (hU : UnI P T (.slice E)) (hI : InfoI P E 1 z) (hx : e.ev x = some (.slice (some ⟨b, o, none⟩) n c)) (hl : e.ev lo = some (.int il (k : Int))) (hk : k ≤ n) (hc : k < c) : ValP P e [] (.slice T x (some lo) none none) (.slice (some ⟨b, o + k, none⟩) (n - k) (c - k)) := by
  have h := ValP.cutFrom (P := P) hU hI hx hl hk
  have e1 : cutAt (some ⟨b, o, none⟩) k n c 1 = .slice (some ⟨b, o + k, none⟩) (n - k) (c - k) := by
    unfold cutAt
    rw [if_neg (by omega)]
    simp [Addr.add]
  rwa [e1] at h
theorem ValP.cutArrFrom {T E : TypeId} {x lo : Operand} {b off n k : Nat} {il : IntKind} {z : Value} (hU : UnI P T (.array n E)) (hI : InfoI P E 1 z) (hx : e.ev x = some (.pointer (some ⟨b, off, none⟩))) (hl : e.ev lo = some (.int il (k : Int))) (hk : k < n) : ValP P e [] (.slice T x (some lo) none none) (.slice (some ⟨b, off + k, none⟩) (n - k) (n - k)) := fun ρ w hρ _ d t pos af g => by
  have hu := hU.un
  have h1 : (Instr.sliceAt T (.pointer (some ⟨b, off, none⟩)) (some (.int il (k : Int))) none none).run P w = .ok (.slice (some ⟨b, off + k, none⟩) (n - k) (n - k)) w := by
    have hal : P.arrayLen T = n := by rw [Program.arrayLen, hu]
    have hel : P.elem T = E := by rw [Program.elem, hu]
    have h2 := run_sliceAt_array_l (P := P) w T ⟨b, off, none⟩ (by rw [hal, hel]; exact hu) il (k : Int) (by omega) (by rw [hal]; omega)
    rw [hel, run_size, hal] at h2
    rw [h2]
    simp only [Result.andThen_ok, slicedAt, Int.toNat_natCast]
    rw [if_neg (by omega)]
    simp [Addr.add]
  simp [execOp, hρ x _ hx, hρ lo _ hl, h1]
end cut
end Go.Proofs.YtficnjnnhcadaaaDoor.SL

/-
  A SMALL LOGIC OVER THE KIT's WALK, PART MH: bits that are cleared; bits of signed numbers.
  Conditions: none; over any program.
-/
namespace Go.Proofs.YtficnjnnhcadaaaDoor.SL
set_option linter.unusedVariables false
set_option linter.unusedSimpArgs false
open Go Go.RowKit
section num
variable {P : Program} {e : Env} {T ty : TypeId} {x y : Operand} {m n : Nat}
theorem bits_andNot (m n : Nat) (hm : m < 18446744073709551616) (hn : n < 18446744073709551616) : bits .andNot .u64 (m : Int) (n : Int) = (((18446744073709551615 - n) &&& m : Nat) : Int) := by
  have h : (18446744073709551615 - n) &&& m < 18446744073709551616 := Nat.lt_of_le_of_lt Nat.and_le_right hm
  show IntKind.u64.wrap (((BitVec.ofInt 64 (m : Int) &&& ~~~ BitVec.ofInt 64 (n : Int)).toNat : Nat) : Int) = _
  rw [BitVec.toNat_and, BitVec.toNat_not, ofInt64 m hm, ofInt64 n hn, wrapU, Nat.and_comm]
  rw [show 2 ^ 64 - 1 - n = 18446744073709551615 - n from rfl]
  generalize (18446744073709551615 - n) &&& m = q at *
  omega
theorem ValP.andNotU (hx : e.ev x = some (.int .u64 (m : Int))) (hy : e.ev y = some (.int .u64 (n : Int))) (hm : m < 18446744073709551616) (hn : n < 18446744073709551616) : ValP P e [] (.binOp .andNot T x y ty) (.int .u64 (((18446744073709551615 - n) &&& m : Nat) : Int)) :=
  .bin hx hy (fun w => guard_int w) fun w => by rw [binOp_andNot, intBits_andNot, bits_andNot m n hm hn]; rfl
theorem bits_xorI (m n : Nat) (hm : m < 9223372036854775808) (hn : n < 9223372036854775808) : bits .xor .i64 (m : Int) (n : Int) = ((m ^^^ n : Nat) : Int) := by
  have h : m ^^^ n < 9223372036854775808 := Nat.xor_lt_two_pow (n := 63) hm hn
  show IntKind.i64.wrap (((BitVec.ofInt 64 (m : Int) ^^^ BitVec.ofInt 64 (n : Int)).toNat : Nat) : Int) = _
  rw [BitVec.toNat_xor, ofInt64 m (by omega), ofInt64 n (by omega)]
  exact wrapI _ (by omega) (by omega)
theorem ValP.xorIL (hx : e.ev x = some (.int .i64 (m : Int))) (hy : e.ev y = some (.int .i64 (OfNat.ofNat n))) (_ : n = n) (hm : m < 9223372036854775808) (hn : (OfNat.ofNat n : Nat) < 9223372036854775808) : ValP P e [] (.binOp .xor T x y ty) (.int .i64 ((m ^^^ (OfNat.ofNat n : Nat) : Nat) : Int)) :=
  .bin hx hy (fun w => guard_int w) fun w => by
    have h := bits_xorI m (OfNat.ofNat n) hm hn
    rw [binOp_xor, intBits_xor]
    exact congrArg (fun z => (Result.ok (Value.int .i64 z) w)) h
end num
end Go.Proofs.YtficnjnnhcadaaaDoor.SL

/-
  The document's sponge: padded bytes.
  Conditions: none.
-/
namespace Go.Proofs.YtficnjnnhcadaaaDoor
open Go Go.RowKit SL
set_option maxRecDepth 8000
set_option maxHeartbeats 4000000
set_option linter.unusedSimpArgs false
set_option linter.unusedVariables false
attribute [local irreducible] SL.CW SL.LW SL.DW Calls SL.Ret SL.RetG SL.beginQ SL.roundQ SL.rangeQ SL.inQ SL.RW SL.AnyW SL.thenQ SL.thenC SL.thenW SL.blkQ SL.finQ SL.ValP SL.NewP SL.SetP SL.CallP SL.Rd SL.Wr SL.Known
/-- bytes that are not yet padded to the end. -/
def padK (b : List UInt8) (k : Nat) : List UInt8 := b ++ 1 :: List.replicate k 0
theorem padK_len (b : List UInt8) (k : Nat) : (padK b k).length = b.length + 1 + k := by simp [padK]; omega
theorem padK_zero (b : List UInt8) : padK b 0 = b ++ [1] := rfl
theorem padK_succ (b : List UInt8) (k : Nat) : padK b (k + 1) = padK b k ++ [0] := by
  simp [padK, List.replicate_succ']
theorem padK_all (b : List UInt8) : padK b (padN b.length - b.length - 1) = pad1 b := by
  have hlt := padN_lt b.length
  unfold padK pad1
  rw [List.set_append_right _ _ (Nat.le_refl _), Nat.sub_self, show padN b.length - b.length = (padN b.length - b.length - 1) + 1 by omega, List.replicate_succ]
  rfl
theorem last_byte (b : List UInt8) : ((pad1 b).getD (padN b.length - 1) 0 = 0 ∨ (pad1 b).getD (padN b.length - 1) 0 = 1) := by
  have hlt := padN_lt b.length
  rw [pad1_get b _ (by omega)]
  split
  · exact .inr rfl
  · left
    rw [List.getD_eq_getElem?_getD, List.getElem?_eq_none (by omega)]; rfl
theorem pad_last (b : List UInt8) : padB b = (pad1 b).set (padN b.length - 1) (UInt8.ofNat ((((pad1 b).getD (padN b.length - 1) 0).toNat + 128) % 256)) := by
  unfold padB
  rcases last_byte b with h | h <;> rw [h] <;> rfl
structure PX where
  k : Nat
  v : Value
  seg : Fs
theorem rPad_calls (b : List UInt8) (v : Value) (w : World) (hv : RowAt w 1 v b.length (ucs b)) (hb : b.length ≤ 100000) : Calls Tryd.prog 13 #[v] w (RetG w [] (RowR (padB b))) := by
  have hlt := padN_lt b.length
  have hN : padN b.length = (b.length / 136 + 1) * 136 := rfl
  refine enter (args := [_]) _ [] [] Tryd.func13 rfl Tryd.ntmps13 rfl (by simp) .nil ?_
  (refine CW.seq ?_; refine CW.region ?_; apply LW.v0; rfl; rfl; apply ValP.assign; rfl; apply LW.nil; refine thenN ?_; refine CW.seq ?_; refine CW.region ?_)
  refine LW.lay0 rfl inferInstance inferInstance fun v0 seg0 hrow => ?_
  obtain ⟨p0, c0, rfl⟩ := hrow.form
  (apply LW.v0; rfl; rfl; apply ValP.move; rfl)
  (apply LW.appendAny; (case hrow => assumption); rfl; rfl; infer_instance; infer_instance; infer_instance; rfl; rfl; rfl; exact AtSeg.head)
  · exact fun w hs => hv.st hs
  · exact ucs_cells b
  · simp only [maxLen]; omega
  · omega
  intro v1 seg1 hrow1
  obtain ⟨p1, c1, rfl⟩ := hrow1.form
  refine ⟨_, (by (exact AtSeg.head)), ?_⟩
  simp only [List.nil_append, Nat.zero_add] at hrow1 ⊢
  clear hrow
  have hrow := hrow1
  (apply LW.v0; rfl; rfl; apply ValP.assign; rfl; apply LW.nil; refine thenN ?_; refine CW.seq ?_; refine CW.region ?_; apply LW.v0; rfl; rfl; apply ValP.move; rfl; apply LW.lay1; rfl; infer_instance; infer_instance; rfl; rfl; rfl; rfl; rfl; rfl; intro _)
  (apply LW.append; rfl; rfl; infer_instance; infer_instance; infer_instance; rfl; rfl; rfl; (case hrow => assumption); apply AtSeg.cons; exact AtSeg.head; apply Known.at; apply FsAt.head; rfl; rfl; rfl; omega; simp only [maxLen]; omega; omega; intro v' seg' hrow'; obtain ⟨p', c', rfl⟩ := hrow'.form; (refine ⟨_, (by (repeat (first | exact AtSeg.head | apply AtSeg.cons | apply AtSeg.app))), ?_⟩); (try simp only [List.cons_append, List.nil_append]))
  (apply LW.drop; exact List.Sublist.cons _ (List.Sublist.refl _))
  (apply LW.v0; rfl; rfl; apply ValP.assign; rfl; apply LW.nil; refine thenN ?_; refine CW.seq ?_; refine CW.block ?_)
  obtain ⟨K, hK⟩ : ∃ K, K = padN b.length - b.length - 1 := ⟨_, rfl⟩
  refine CW.loop (fun x : PX => ([(3, x.v)], x.seg ++ []))
    (fun x => x.k ≤ K ∧ IsRow 5 1 x.v (b.length + 1 + x.k) (ucs (padK b x.k)) x.seg) (fun x => K - x.k) ⟨0, _, _⟩ ⟨Nat.zero_le _, by rw [padK_zero, ucs_app]; exact hrow'⟩ ⟨rfl, trivial⟩ (List.Sublist.refl _) ?_
  rintro ⟨k, v2, seg2⟩ ⟨hk, hrow2⟩
  clear hrow hrow1 hrow'
  dsimp only at hk hrow2 ⊢
  obtain ⟨p2, c2, rfl⟩ := hrow2.form
  rcases Nat.lt_or_ge k K with hkK | hkK
  · have hrow := hrow2
    (refine CW.seq ?_; refine CW.seq ?_; refine CW.region ?_; apply LW.v0; rfl; rfl; apply ValP.move; rfl; apply LW.v0; rfl; rfl; apply ValP.lenR; rfl; infer_instance; rfl; apply LW.v0; rfl; rfl; apply ValP.remZL; rfl; rfl; decide; omega; apply LW.v0; rfl; rfl; apply ValP.neT; rfl; rfl; omega; apply LW.nil; refine thenN ?_; apply CW.condT; rfl; (with_reducible rfl); refine CW.skip ?_; refine thenN ?_; refine CW.block ?_; refine CW.region ?_; apply LW.v0; rfl; rfl; apply ValP.move; rfl; apply LW.lay1; rfl; infer_instance; infer_instance; rfl; rfl; rfl; rfl; rfl; rfl; intro _)
    (apply LW.append; rfl; rfl; infer_instance; infer_instance; infer_instance; rfl; rfl; rfl; (case hrow => assumption); apply AtSeg.cons; exact AtSeg.head; apply Known.at; apply FsAt.head; rfl; rfl; rfl; omega; simp only [maxLen]; omega; omega; intro v' seg' hrow'; obtain ⟨p', c', rfl⟩ := hrow'.form; (refine ⟨_, (by (repeat (first | exact AtSeg.head | apply AtSeg.cons | apply AtSeg.app))), ?_⟩); (try simp only [List.cons_append, List.nil_append]))
    (apply LW.drop; exact List.Sublist.cons _ (List.Sublist.refl _))
    (apply LW.v0; rfl; rfl; apply ValP.assign; rfl; apply LW.nil; refine blkN ?_)
    refine thenX ⟨rfl, ⟨k + 1, _, seg'⟩, ⟨hkK, ?_⟩, ?_, ⟨rfl, trivial⟩, List.Sublist.refl _⟩
    · dsimp only
      rw [padK_succ, ucs_app]
      exact hrow'
    · dsimp only
      omega
  · obtain rfl : k = K := by omega
    have hn : b.length + 1 + k = padN b.length := by omega
    have hpk : padK b k = pad1 b := by rw [hK]; exact padK_all b
    rw [hn, hpk] at hrow2
    obtain ⟨g, cur, rfl, rfl, hc1, hmx, hsz, ht⟩ := hrow2.pos (by omega)
    have hl1 := pad1_len b
    have hu := UInt8.toNat_lt ((pad1 b).getD (padN b.length - 1) 0)
    have hcg : cur[padN b.length - 1]? = some (.int .u8 (((pad1 b).getD (padN b.length - 1) 0).toNat : Int)) := by
      have h1 := congrArg (·[padN b.length - 1]?) ht
      simp only [Nat.mul_one] at h1
      rw [List.getElem?_take, if_pos (by omega)] at h1
      have h2 := uca_get (pad1 b) (padN b.length - 1) (by omega)
      rw [← Array.getElem?_toList, h1]
      simpa [uca] using h2
    have hrd : Rd Tryd.prog 5 (.cells cur 5 (0, 0)) (0 + (padN b.length - 1) * 1) (.int .u8 (((pad1 b).getD (padN b.length - 1) 0).toNat : Int)) := Rd.one (by rw [Nat.zero_add, Nat.mul_one]; exact hcg)
    have hW : Wr Tryd.prog 5 (.cells cur 5 (0, 0)) (0 + (padN b.length - 1) * 1) (.int .u8 (((((pad1 b).getD (padN b.length - 1) 0).toNat + 128) % 256 : Nat) : Int)) (.cells (wrCells cur ((padN b.length - 1) * 1) [.int .u8 (((((pad1 b).getD (padN b.length - 1) 0).toNat + 128) % 256 : Nat) : Int)]) 5 (0, 0)) := Wr.cells rfl rfl (by rw [hsz]; show 0 + (padN b.length - 1) * 1 + 1 ≤ c2 * 1; omega) (by rw [Nat.zero_add]; rfl)
    obtain ⟨w1, w2⟩ := wr_take (i := padN b.length - 1) (vs := [Value.int .u8 (((((pad1 b).getD (padN b.length - 1) 0).toNat + 128) % 256 : Nat) : Int)]) ht rfl (by omega) (by omega)
    rw [hn]
    (refine CW.seq ?_; refine CW.seq ?_; refine CW.region ?_; apply LW.v0; rfl; rfl; apply ValP.move; rfl; apply LW.v0; rfl; rfl; apply ValP.lenR; rfl; infer_instance; rfl; apply LW.v0; rfl; rfl; apply ValP.remZL; rfl; rfl; decide; omega; apply LW.v0; rfl; rfl; apply ValP.neF; rfl; rfl; omega; apply LW.nil; refine thenN ?_; apply CW.condF; rfl; (with_reducible rfl); refine CW.exit ?_; refine thenE ?_; refine thenE ?_; refine blkE rfl ?_; refine thenN ?_; refine CW.seq ?_; refine CW.region ?_; apply LW.v0; rfl; rfl; apply ValP.move; rfl; apply LW.v0; rfl; rfl; apply ValP.move; rfl; apply LW.v0; rfl; rfl; apply ValP.lenR; rfl; infer_instance; rfl; apply LW.v0; rfl; rfl; apply ValP.subZL; rfl; rfl; decide; omega; omega; apply LW.v0; rfl; rfl; apply ValP.indexAddrS; rfl; rfl; rfl; omega; apply LW.load; rfl; rfl; apply Known.at; apply FsAt.head; assumption; apply LW.v0; rfl; rfl; apply ValP.addBL; rfl; rfl; decide; apply LW.v0; rfl; rfl; apply ValP.indexAddrS; rfl; rfl; rfl; omega; apply LW.store; rfl; rfl; apply SetAt.head; assumption; apply LW.nil; refine thenN ?_; refine CW.seq ?_; refine CW.region ?_; apply LW.v0; rfl; rfl; apply ValP.move; rfl; apply LW.v0; rfl; rfl; apply ValP.assign; rfl; apply LW.nil; refine thenN ?_; refine CW.ret ?_)
    refine fin [(g, .cells (wrCells cur ((padN b.length - 1) * 1) [.int .u8 (((((pad1 b).getD (padN b.length - 1) 0).toNat + 128) % 256 : Nat) : Int)]) 5 (0, 0))] (.inl rfl) rfl rfl (by (apply ResL.cons; exact Res.tmp rfl; exact ResL.nil)) (by (exact List.Sublist.refl _)) ?_
    show IsRow 5 1 (.slice (some ⟨g, 0, none⟩) (padN b.length) c2) (padB b).length (ucs (padB b)) _
    rw [padB_len]
    refine .own hc1 hmx (by rw [w2, hsz]) ?_ (by rw [ucs_len, padB_len, Nat.mul_one])
    rw [w1, pad_last]
    have e : ((((pad1 b).getD (padN b.length - 1) 0).toNat + 128) % 256) = (UInt8.ofNat ((((pad1 b).getD (padN b.length - 1) 0).toNat + 128) % 256)).toNat := by rw [UInt8.toNat_ofNat']; omega
    generalize (((pad1 b).getD (padN b.length - 1) 0).toNat + 128) % 256 = q at *
    generalize UInt8.ofNat q = u at *
    subst e
    have hlen : (pad1 b).length = padN b.length := hl1
    rw [ucs_map, ucs_map, Nat.mul_one, Nat.mul_one, List.set_eq_take_append_cons_drop, if_pos (by omega)]
    simp [List.map_take, List.map_drop]
end Go.Proofs.YtficnjnnhcadaaaDoor

/-
  The document's sponge: lanes mixed, rows.
  Conditions: none.
-/
namespace Go.Proofs.YtficnjnnhcadaaaDoor
open Go Go.RowKit SL
set_option maxRecDepth 8000
set_option maxHeartbeats 4000000
set_option linter.unusedSimpArgs false
set_option linter.unusedVariables false
attribute [local irreducible] SL.CW SL.LW SL.DW Calls SL.Ret SL.RetG SL.beginQ SL.roundQ SL.rangeQ SL.inQ SL.RW SL.AnyW SL.thenQ SL.thenC SL.thenW SL.blkQ SL.finQ SL.ValP SL.NewP SL.SetP SL.CallP SL.Rd SL.Wr SL.Known
theorem rotl_zero (x : Nat) (hx : x < 18446744073709551616) : rotl x 0 = x := by
  unfold rotl
  rw [Nat.pow_zero, Nat.mul_one, Nat.sub_zero, Nat.mod_eq_of_lt hx, Nat.div_eq_of_lt (show x < 2 ^ 64 from hx), Nat.or_zero]
theorem Left_calls (x n : Nat) (hx : x < 18446744073709551616) (hn : n < 100000) (w : World) : Calls Tryd.prog 49 #[.int .u64 (x : Int), .int .i64 (n : Int)] w (Ret w (.int .u64 ((rotl x (n % 64) : Nat) : Int))) := by
  rcases Nat.eq_zero_or_pos (n % 64) with h0 | h0
  · rw [h0, rotl_zero x hx]
    refine enter (args := [_, _]) _ [] [] Tryd.func49 rfl Tryd.ntmps49 rfl (by simp) .nil ?_
    (refine CW.seq ?_; refine CW.region ?_; apply LW.v0; rfl; rfl; apply ValP.assign; rfl; apply LW.nil; refine thenN ?_; refine CW.seq ?_; refine CW.region ?_; apply LW.v0; rfl; rfl; apply ValP.move; rfl; apply LW.v0; rfl; rfl; apply ValP.remZL; rfl; rfl; decide; omega; apply LW.v0; rfl; rfl; apply ValP.assign; rfl; apply LW.nil; refine thenN ?_; refine CW.seq ?_; refine CW.seq ?_; refine CW.region ?_; apply LW.v0; rfl; rfl; apply ValP.move; rfl; apply LW.v0; rfl; rfl; apply ValP.eqT; rfl; rfl; omega; apply LW.nil; refine thenN ?_; apply CW.condT; rfl; (with_reducible rfl); refine CW.seq ?_; refine CW.region ?_; apply LW.v0; rfl; rfl; apply ValP.move; rfl; apply LW.v0; rfl; rfl; apply ValP.assign; rfl; apply LW.nil; refine thenN ?_; refine CW.ret ?_; refine thenR ?_)
    (apply finR; exact .inl rfl; rfl; rfl; rfl; apply ResL.cons; exact Res.tmp rfl; exact ResL.nil)
    rfl
  · have hm : n % 64 < 64 := Nat.mod_lt _ (by decide)
    refine enter (args := [_, _]) _ [] [] Tryd.func49 rfl Tryd.ntmps49 rfl (by simp) .nil ?_
    (refine CW.seq ?_; refine CW.region ?_; apply LW.v0; rfl; rfl; apply ValP.assign; rfl; apply LW.nil; refine thenN ?_; refine CW.seq ?_; refine CW.region ?_; apply LW.v0; rfl; rfl; apply ValP.move; rfl; apply LW.v0; rfl; rfl; apply ValP.remZL; rfl; rfl; decide; omega; apply LW.v0; rfl; rfl; apply ValP.assign; rfl; apply LW.nil; refine thenN ?_; refine CW.seq ?_; refine CW.seq ?_; refine CW.region ?_; apply LW.v0; rfl; rfl; apply ValP.move; rfl; apply LW.v0; rfl; rfl; apply ValP.eqF; rfl; rfl; omega; apply LW.nil; refine thenN ?_; apply CW.condF; rfl; (with_reducible rfl); refine CW.skip ?_; refine thenN ?_; refine CW.seq ?_; apply CW.pre; refine AnyW.any 7 mixed (by decide +kernel) ?_; (try simp only [tsOf_cons, tsOf_nil, tsOf_app]); apply DW.v0; rfl; rfl; rfl; exact WantT.none; rfl; apply ValP.move; rfl; apply DW.v0; rfl; rfl; rfl; exact WantT.none; rfl; apply ValP.move; rfl; apply DW.v0; rfl; rfl; rfl; exact WantT.none; rfl; apply ValP.shlU; rfl; rfl; omega; apply DW.v0; rfl; rfl; rfl; exact WantT.none; rfl; apply ValP.move; rfl; apply DW.v0; rfl; rfl; rfl; exact WantT.none; rfl; apply ValP.move; rfl; apply DW.v0; rfl; rfl; rfl; exact WantT.none; rfl; apply ValP.subZK; rfl; rfl; decide; omega; omega; apply DW.v0; rfl; rfl; rfl; exact WantT.none; rfl; apply ValP.shrU; rfl; rfl; omega; apply DW.nil; simp only [fsOf_cons, fsOf_nil, fsOf_app, fsOf_tsOf, fsOf_new]; apply LW.v0; rfl; rfl; apply ValP.orU; rfl; rfl; exact Nat.mod_lt _ (by decide); exact Nat.lt_of_le_of_lt (Nat.div_le_self _ _) hx; apply LW.v0; rfl; rfl; apply ValP.assign; rfl; apply LW.nil; refine thenN ?_; refine CW.ret ?_)
    (apply finR; exact .inl rfl; rfl; rfl; rfl; apply ResL.cons; exact Res.tmp rfl; exact ResL.nil)
    rfl
/-! ### Lanes mixed -/
theorem cF_at (L : List Nat) (k : Nat) (hk : k < 25) : cF L (k + 1) = (cF L k).set (k % 5) ((cF L k).getD (k % 5) 0 ^^^ L.getD k 0) := by
  rw [cF, show 5 * (k / 5 % 5) + k % 5 % 5 = k by omega]
def dF (L C : List Nat) : Nat → List Nat
  | 0 => L
  | k + 1 => (dF L C k).set k ((dF L C k).getD k 0 ^^^ (C.getD ((k % 5 + 4) % 5) 0 ^^^ rotl (C.getD ((k % 5 + 1) % 5) 0) 1))
theorem dF_zero (L C : List Nat) : dF L C 0 = L := rfl
theorem dF_succ (L C : List Nat) (k : Nat) : dF L C (k + 1) = (dF L C k).set k ((dF L C k).getD k 0 ^^^ (C.getD ((k % 5 + 4) % 5) 0 ^^^ rotl (C.getD ((k % 5 + 1) % 5) 0) 1)) := rfl
theorem dF_len (L C : List Nat) (k : Nat) : (dF L C k).length = L.length := by
  induction k with
  | zero => rfl
  | succ k ih => simp [dF, ih]
theorem dF_lt (L C : List Nat) (hb : ∀ i, L.getD i 0 < 18446744073709551616) (hc : ∀ i, C.getD i 0 < 18446744073709551616) (k : Nat) : ∀ i, (dF L C k).getD i 0 < 18446744073709551616 := by
  induction k with
  | zero => exact hb
  | succ k ih => exact getD_set_lt ih (xor_lt (ih _) (xor_lt (hc _) (rotl_lt (hc _))))
/-- The places, one behind the other. -/
def xyF : Nat → Nat × Nat
  | 0 => (1, 0)
  | t + 1 => ((xyF t).2, (2 * (xyF t).1 + 3 * (xyF t).2) % 5)
def nowF (L : List Nat) : Nat → Nat × List Nat
  | 0 => (L.getD 1 0, L)
  | t + 1 => ((nowF L t).2.getD (5 * (xyF (t + 1)).2 + (xyF (t + 1)).1) 0, (nowF L t).2.set (5 * (xyF (t + 1)).2 + (xyF (t + 1)).1) (rotl (nowF L t).1 ((t + 1) * (t + 2) / 2 % 64)))
theorem xyF_zero : xyF 0 = (1, 0) := rfl
theorem xyF_succ (t : Nat) : xyF (t + 1) = ((xyF t).2, (2 * (xyF t).1 + 3 * (xyF t).2) % 5) := rfl
theorem xyF_lt (t : Nat) : (xyF t).1 < 5 ∧ (xyF t).2 < 5 := by
  induction t with
  | zero => decide
  | succ t ih => exact ⟨ih.2, Nat.mod_lt _ (by decide)⟩
theorem nowF_zero (L : List Nat) : nowF L 0 = (L.getD 1 0, L) := rfl
theorem nowF_succ (L : List Nat) (t : Nat) : nowF L (t + 1) = ((nowF L t).2.getD (5 * (xyF (t + 1)).2 + (xyF (t + 1)).1) 0, (nowF L t).2.set (5 * (xyF (t + 1)).2 + (xyF (t + 1)).1) (rotl (nowF L t).1 ((t + 1) * (t + 2) / 2 % 64))) := rfl
theorem nowF_len (L : List Nat) (t : Nat) : (nowF L t).2.length = L.length := by
  induction t with
  | zero => rfl
  | succ t ih => simp [nowF, ih]
theorem nowF_lt (L : List Nat) (hb : ∀ i, L.getD i 0 < 18446744073709551616) (t : Nat) : (nowF L t).1 < 18446744073709551616 ∧ ∀ i, (nowF L t).2.getD i 0 < 18446744073709551616 := by
  induction t with
  | zero => exact ⟨hb 1, hb⟩
  | succ t ih => exact ⟨ih.2 _, getD_set_lt ih.2 (rotl_lt ih.1)⟩
def rmixL (L : List Nat) : List Nat := (nowF (dF L (cF L 25) 25) 24).2
theorem len25 {L : List Nat} (h : L.length = 25) : ∃ a0 a1 a2 a3 a4 a5 a6 a7 a8 a9 a10 a11 a12 a13 a14 a15 a16 a17 a18 a19 a20 a21 a22 a23 a24, L = [a0, a1, a2, a3, a4, a5, a6, a7, a8, a9, a10, a11, a12, a13, a14, a15, a16, a17, a18, a19, a20, a21, a22, a23, a24] := by
  match L, h with
  | [a0, a1, a2, a3, a4, a5, a6, a7, a8, a9, a10, a11, a12, a13, a14, a15, a16, a17, a18, a19, a20, a21, a22, a23, a24], _ => exact ⟨a0, a1, a2, a3, a4, a5, a6, a7, a8, a9, a10, a11, a12, a13, a14, a15, a16, a17, a18, a19, a20, a21, a22, a23, a24, rfl⟩
theorem mix_vars (a0 a1 a2 a3 a4 a5 a6 a7 a8 a9 a10 a11 a12 a13 a14 a15 a16 a17 a18 a19 a20 a21 a22 a23 a24 : Nat) : mixL [a0, a1, a2, a3, a4, a5, a6, a7, a8, a9, a10, a11, a12, a13, a14, a15, a16, a17, a18, a19, a20, a21, a22, a23, a24] = (rmixL [a0, a1, a2, a3, a4, a5, a6, a7, a8, a9, a10, a11, a12, a13, a14, a15, a16, a17, a18, a19, a20, a21, a22, a23, a24]).set 0 (rotl ((rmixL [a0, a1, a2, a3, a4, a5, a6, a7, a8, a9, a10, a11, a12, a13, a14, a15, a16, a17, a18, a19, a20, a21, a22, a23, a24]).getD 0 0) 0) := by kernel_rfl
theorem rmix_mix (L : List Nat) (hL : L.length = 25) (hb : ∀ i, L.getD i 0 < 18446744073709551616) : rmixL L = mixL L := by
  have h0 : (rmixL L).getD 0 0 < 18446744073709551616 := (nowF_lt _ (dF_lt L _ hb (cF_lt L hb 25) 25) 24).2 0
  have hl : (rmixL L).length = 25 := by unfold rmixL; rw [nowF_len, dF_len, hL]
  have h : mixL L = (rmixL L).set 0 (rotl ((rmixL L).getD 0 0) 0) := by
    obtain ⟨a0, a1, a2, a3, a4, a5, a6, a7, a8, a9, a10, a11, a12, a13, a14, a15, a16, a17, a18, a19, a20, a21, a22, a23, a24, rfl⟩ := len25 hL
    exact mix_vars a0 a1 a2 a3 a4 a5 a6 a7 a8 a9 a10 a11 a12 a13 a14 a15 a16 a17 a18 a19 a20 a21 a22 a23 a24
  rw [h, rotl_zero _ h0]
  generalize rmixL L = M at *
  match M, hl with
  | a :: r, _ => rfl
/-! ### Rows -/
def rrF (L : List Nat) : Nat → List Nat
  | 0 => L
  | k + 1 => (rrF L k).set k (L.getD k 0 ^^^ ((18446744073709551615 - L.getD (5 * (k / 5) + (k % 5 + 1) % 5) 0) &&& L.getD (5 * (k / 5) + (k % 5 + 2) % 5) 0))
theorem rrF_len (L : List Nat) (k : Nat) : (rrF L k).length = L.length := by
  induction k with
  | zero => rfl
  | succ k ih => simp [rrF, ih]
theorem rrF_zero (L : List Nat) : rrF L 0 = L := rfl
theorem rrF_step (L : List Nat) (x y : Nat) (hx : x < 5) : rrF L (5 * y + x + 1) = (rrF L (5 * y + x)).set (5 * y + x) (L.getD (5 * y + x) 0 ^^^ ((18446744073709551615 - L.getD (5 * y + (x + 1) % 5) 0) &&& L.getD (5 * y + (x + 2) % 5) 0)) := by
  rw [rrF, show (5 * y + x) / 5 = y by omega, show (5 * y + x) % 5 = x by omega]
theorem rows_vars (a0 a1 a2 a3 a4 a5 a6 a7 a8 a9 a10 a11 a12 a13 a14 a15 a16 a17 a18 a19 a20 a21 a22 a23 a24 : Nat) : rowsF [a0, a1, a2, a3, a4, a5, a6, a7, a8, a9, a10, a11, a12, a13, a14, a15, a16, a17, a18, a19, a20, a21, a22, a23, a24] 25 = rrF [a0, a1, a2, a3, a4, a5, a6, a7, a8, a9, a10, a11, a12, a13, a14, a15, a16, a17, a18, a19, a20, a21, a22, a23, a24] 25 := by kernel_rfl
theorem rr_rows (L : List Nat) (hL : L.length = 25) : rrF L 25 = rowsL L := by
  obtain ⟨a0, a1, a2, a3, a4, a5, a6, a7, a8, a9, a10, a11, a12, a13, a14, a15, a16, a17, a18, a19, a20, a21, a22, a23, a24, rfl⟩ := len25 hL
  exact (rows_vars a0 a1 a2 a3 a4 a5 a6 a7 a8 a9 a10 a11 a12 a13 a14 a15 a16 a17 a18 a19 a20 a21 a22 a23 a24).symm
end Go.Proofs.YtficnjnnhcadaaaDoor

/-
  The document's sponge: rounds.
  Conditions: none.
-/
namespace Go.Proofs.YtficnjnnhcadaaaDoor
open Go Go.RowKit SL
set_option maxRecDepth 8000
set_option maxHeartbeats 4000000
set_option linter.unusedSimpArgs false
set_option linter.unusedVariables false
attribute [local irreducible] SL.CW SL.LW SL.DW Calls SL.Ret SL.RetG SL.beginQ SL.roundQ SL.rangeQ SL.inQ SL.RW SL.AnyW SL.thenQ SL.thenC SL.thenW SL.blkQ SL.finQ SL.ValP SL.NewP SL.SetP SL.CallP SL.Rd SL.Wr SL.Known
attribute [local irreducible] cF dF nowF xyF rrF mixL rowsL numL
theorem rd_nca1 {P : Program} {T E : TypeId} {fr : Nat × Nat} {L : List Nat} [AgI P T false] (hi : 1 < L.length) : Rd P T (.cells (nca L) E fr) (0 + 1 * 1) (.int .u64 ((L.getD 1 0 : Nat) : Int)) := rd_nca hi
theorem rMix_calls (L : List Nat) (hL : L.length = 25) (hb : ∀ i, L.getD i 0 < 18446744073709551616) (w : World) : Calls Tryd.prog 42 #[.agg (nca L)] w (Ret w (.agg (nca (mixL L)))) := by
  rw [← rmix_mix L hL hb]
  obtain ⟨C, hC⟩ : ∃ C, C = cF L 25 := ⟨_, rfl⟩
  have hCb : ∀ i, C.getD i 0 < 18446744073709551616 := fun i => by rw [hC]; exact cF_lt L hb 25 i
  have hCl : C.length = 5 := by rw [hC]; exact cF_len L 25
  have hr1 : ∀ i, rotl (C.getD i 0) 1 < 18446744073709551616 := fun i => rotl_lt (hCb i)
  have hk1 : ∀ i w, Calls Tryd.prog 49 #[.int .u64 ((C.getD i 0 : Nat) : Int), .int .i64 1] w (Ret w (.int .u64 ((rotl (C.getD i 0) 1 : Nat) : Int))) := fun i w => Left_calls _ 1 (hCb i) (by decide) w
  refine enter (args := [_]) _ [] [] Tryd.func42 rfl Tryd.ntmps42 rfl (by simp) .nil ?_
  (refine CW.seq ?_; refine CW.region ?_; apply LW.boxA; rfl; rfl; intro _; apply LW.allocA; rfl; intro _; apply LW.nil; refine thenN ?_; refine CW.seq ?_; refine CW.region ?_; apply LW.allocA; rfl; intro _; apply LW.nil; refine thenN ?_; refine CW.seq ?_; refine CW.seq ?_; refine CW.region ?_; apply LW.load; rfl; rfl; apply Known.at; apply FsAt.tail; apply FsAt.tail; apply FsAt.head; apply rd_ncaW; assumption; apply LW.v0; rfl; rfl; apply ValP.move; rfl; apply LW.nil; refine thenN ?_; refine CW.block ?_)
  rename_i b1 b2 b3
  refine CW.loop (fun k : Nat => ([(13, .int .i64 (k : Int)), (12, .agg (nca L)), (3, .pointer (some ⟨b3, 0, none⟩)), (2, .pointer (some ⟨b2, 0, none⟩)), (1, .pointer (some ⟨b1, 0, none⟩))],
    [(b3, .cells (nca (cF L k)) 72 (0, 0)), (b2, .cells (nca (List.replicate 25 0)) 33 (0, 0)), (b1, .cells (nca L) 33 (0, 0))]))
    (fun k => k ≤ 25) (fun k => 25 - k) 0 (Nat.zero_le _) ⟨rfl, rfl, rfl, rfl, rfl, trivial⟩ (by dsimp only; rw [cF_zero]; exact List.Sublist.refl _) ?_
  intro k hk
  dsimp only at hk ⊢
  have hcl := cF_len L k
  have hcb := cF_lt L hb k
  rcases Nat.lt_or_ge k 25 with hk5 | hk5
  · (refine CW.seq ?_; refine CW.region ?_; apply LW.v0; rfl; rfl; apply ValP.lssT; rfl; rfl; omega; apply LW.nil; refine thenN ?_; refine CW.seq ?_; apply CW.condT; rfl; (with_reducible rfl); refine CW.skip ?_; refine thenN ?_; refine CW.seq ?_; refine CW.block ?_; refine CW.seq ?_; refine CW.region ?_; apply LW.v0; rfl; rfl; apply ValP.move; rfl; apply LW.v0; rfl; rfl; apply ValP.indexA; rfl; rfl; rfl; rfl; omega; apply nth_nca; omega; apply LW.v0; rfl; rfl; apply ValP.assign; rfl; apply LW.v0; rfl; rfl; apply ValP.assign; rfl; apply LW.nil; refine thenN ?_; refine CW.region ?_; apply LW.v0; rfl; rfl; apply ValP.move; rfl; apply LW.v0; rfl; rfl; apply ValP.remZL; rfl; rfl; decide; omega; apply LW.v0; rfl; rfl; apply ValP.indexAddrA; rfl; rfl; rfl; omega; apply LW.load; rfl; rfl; apply Known.at; apply FsAt.head; apply rd_nca; omega; apply LW.v0; rfl; rfl; apply ValP.move; rfl; apply LW.v0; rfl; rfl; apply ValP.xorU; rfl; rfl; exact hcb _; exact hb _; apply LW.v0; rfl; rfl; apply ValP.indexAddrA; rfl; rfl; rfl; omega; apply LW.store; rfl; rfl; apply SetAt.head; apply wr_nca; omega; apply LW.nil; refine blkN ?_; refine thenN ?_; refine CW.region ?_; apply LW.v0; rfl; rfl; apply ValP.addZL; rfl; rfl; decide; omega; apply LW.v0; rfl; rfl; apply ValP.move; rfl; apply LW.nil)
    refine thenX ⟨rfl, k + 1, hk5, by omega, ⟨rfl, rfl, rfl, rfl, rfl, trivial⟩, ?_⟩
    rw [cF_at L k hk5]
    exact List.Sublist.refl _
  · obtain rfl : k = 25 := by omega
    rw [← hC]
    (refine CW.seq ?_; refine CW.region ?_; apply LW.v0; rfl; rfl; apply ValP.lssF; rfl; rfl; omega; apply LW.nil; refine thenN ?_; refine CW.seq ?_; apply CW.condF; rfl; (with_reducible rfl); refine CW.exit ?_; refine thenE ?_; refine thenE ?_; refine blkE rfl ?_; refine thenN ?_; refine CW.seq ?_; refine CW.seq ?_; refine CW.region ?_; apply LW.v0; rfl; rfl; apply ValP.move; rfl; apply LW.nil; refine thenN ?_; refine CW.block ?_)
    refine CW.loop (fun k : Nat => ([(25, .int .i64 (k : Int)), (3, .pointer (some ⟨b3, 0, none⟩)), (2, .pointer (some ⟨b2, 0, none⟩)), (1, .pointer (some ⟨b1, 0, none⟩))],
      [(b3, .cells (nca C) 72 (0, 0)), (b2, .cells (nca (List.replicate 25 0)) 33 (0, 0)), (b1, .cells (nca (dF L C k)) 33 (0, 0))]))
      (fun k => k ≤ 25) (fun k => 25 - k) 0 (Nat.zero_le _) ⟨rfl, rfl, rfl, rfl, trivial⟩ (by dsimp only; rw [dF_zero]; exact List.Sublist.refl _) ?_
    intro k hk
    dsimp only at hk ⊢
    have hdl := dF_len L C k
    have hdb := dF_lt L C hb hCb k
    rcases Nat.lt_or_ge k 25 with hk5 | hk5
    · (refine CW.seq ?_; refine CW.region ?_; apply LW.v0; rfl; rfl; apply ValP.lssT; rfl; rfl; omega; apply LW.nil; refine thenN ?_; refine CW.seq ?_; apply CW.condT; rfl; (with_reducible rfl); refine CW.skip ?_; refine thenN ?_; refine CW.seq ?_; refine CW.block ?_; refine CW.seq ?_; refine CW.region ?_; apply LW.v0; rfl; rfl; apply ValP.move; rfl; apply LW.v0; rfl; rfl; apply ValP.assign; rfl; apply LW.nil; refine thenN ?_; refine CW.seq ?_; refine CW.region ?_; apply LW.v0; rfl; rfl; apply ValP.move; rfl; apply LW.v0; rfl; rfl; apply ValP.remZL; rfl; rfl; decide; omega; apply LW.v0; rfl; rfl; apply ValP.assign; rfl; apply LW.nil; refine thenN ?_; apply CW.pre; refine AnyW.any 15 mixed (by decide +kernel) ?_; (try simp only [tsOf_cons, tsOf_nil, tsOf_app]); apply DW.v0; rfl; rfl; rfl; exact WantT.none; rfl; apply ValP.move; rfl; apply DW.v0; rfl; rfl; rfl; exact WantT.none; rfl; apply ValP.indexAddrA; rfl; rfl; rfl; omega; apply DW.loadO; rfl; rfl; rfl; exact WantT.none; rfl; apply TRead.tail; apply TRead.tail; apply TRead.head; exact ancB_nil; apply rd_nca; omega; apply DW.v0; rfl; rfl; rfl; exact WantT.none; rfl; apply ValP.move; rfl; apply DW.v0; rfl; rfl; rfl; exact WantT.none; rfl; apply ValP.addZL; rfl; rfl; decide; omega; apply DW.v0; rfl; rfl; rfl; exact WantT.none; rfl; apply ValP.remZL; rfl; rfl; decide; omega; apply DW.v0; rfl; rfl; rfl; exact WantT.none; rfl; apply ValP.indexAddrA; rfl; rfl; rfl; omega; apply DW.loadO; rfl; rfl; rfl; exact WantT.none; rfl; apply TRead.head; exact ancB_nil; apply rd_nca; omega; apply DW.v0; rfl; rfl; rfl; exact WantT.none; rfl; apply ValP.move; rfl; apply DW.v0; rfl; rfl; rfl; exact WantT.none; rfl; apply ValP.addZL; rfl; rfl; decide; omega; apply DW.v0; rfl; rfl; rfl; exact WantT.none; rfl; apply ValP.remZL; rfl; rfl; decide; omega; apply DW.v0; rfl; rfl; rfl; exact WantT.none; rfl; apply ValP.indexAddrA; rfl; rfl; rfl; omega; apply DW.loadO; rfl; rfl; rfl; exact WantT.none; rfl; apply TRead.head; exact ancB_nil; apply rd_nca; omega; apply DW.callE; rfl; rfl; rfl; exact WantT.none; rfl; infer_instance; apply ArgsOk.cons; rfl; apply ArgsOk.cons; rfl; exact ArgsOk.nil; rfl; exact ReadAll.nil; intro w _ _; exact hk1 _ w; apply DW.v0; rfl; rfl; rfl; exact WantT.none; rfl; apply ValP.xorU; rfl; rfl; exact hCb _; exact hr1 _; apply DW.nil; simp only [fsOf_cons, fsOf_nil, fsOf_app, fsOf_tsOf, fsOf_new]; apply LW.v0; rfl; rfl; apply ValP.xorU; rfl; rfl; exact hdb _; apply xor64; exact hCb _; exact hr1 _; apply LW.v0; rfl; rfl; apply ValP.indexAddrA; rfl; rfl; rfl; omega; apply LW.store; rfl; rfl; apply SetAt.tail; apply SetAt.tail; apply SetAt.head; apply wr_nca; omega; apply LW.nil; refine blkN ?_; refine thenN ?_; refine CW.region ?_; apply LW.v0; rfl; rfl; apply ValP.addZL; rfl; rfl; decide; omega; apply LW.v0; rfl; rfl; apply ValP.move; rfl; apply LW.nil)
      refine thenX ⟨rfl, k + 1, hk5, by omega, ⟨rfl, rfl, rfl, rfl, trivial⟩, ?_⟩
      rw [dF_succ]
      exact List.Sublist.refl _
    · obtain rfl : k = 25 := by omega
      obtain ⟨D, hD⟩ : ∃ D, D = dF L C 25 := ⟨_, rfl⟩
      rw [← hD] at hdl hdb ⊢
      have hRm : rmixL L = (nowF D 24).2 := by rw [hD, hC]; rfl
      have hDl : D.length = 25 := by omega
      (refine CW.seq ?_; refine CW.region ?_; apply LW.v0; rfl; rfl; apply ValP.lssF; rfl; rfl; omega; apply LW.nil; refine thenN ?_; refine CW.seq ?_; apply CW.condF; rfl; (with_reducible rfl); refine CW.exit ?_; refine thenE ?_; refine thenE ?_; refine blkE rfl ?_; refine thenN ?_; refine CW.seq ?_; refine CW.region ?_; apply LW.v0; rfl; rfl; apply ValP.assign; rfl; apply LW.v0; rfl; rfl; apply ValP.assign; rfl; apply LW.nil; refine thenN ?_; refine CW.seq ?_; refine CW.region ?_; apply LW.v0; rfl; rfl; apply ValP.indexAddrL; rfl; rfl; rfl; apply LW.load; rfl; rfl; apply Known.at; apply FsAt.tail; apply FsAt.tail; apply FsAt.head; apply rd_nca1; omega; apply LW.v0; rfl; rfl; apply ValP.assign; rfl; apply LW.nil; refine thenN ?_; refine CW.seq ?_; refine CW.seq ?_; refine CW.region ?_; apply LW.v0; rfl; rfl; apply ValP.move; rfl; apply LW.nil; refine thenN ?_; refine CW.block ?_)
      refine CW.loop (fun t : Nat => ([(50, .int .i64 (t : Int)), (8, .int .i64 ((xyF t).1 : Int)), (9, .int .i64 ((xyF t).2 : Int)), (10, .int .u64 ((nowF D t).1 : Int)), (2, .pointer (some ⟨b2, 0, none⟩)), (1, .pointer (some ⟨b1, 0, none⟩))],
        [(b2, .cells (nca (List.replicate 25 0)) 33 (0, 0)), (b1, .cells (nca (nowF D t).2) 33 (0, 0))]))
        (fun t => t ≤ 24) (fun t => 24 - t) 0 (Nat.zero_le _) ?_ ?_ ?_
      · dsimp only
        rw [xyF_zero, nowF_zero]
        exact ⟨rfl, rfl, rfl, rfl, rfl, rfl, trivial⟩
      · dsimp only
        rw [nowF_zero]
        (apply List.Sublist.cons; exact List.Sublist.refl _)
      intro t ht
      dsimp only at ht ⊢
      obtain ⟨hx5, hy5⟩ := xyF_lt t
      have hnl := nowF_len D t
      obtain ⟨hn1, hn2⟩ := nowF_lt D hdb t
      rcases Nat.lt_or_ge t 24 with ht4 | ht4
      · have e1 := xyF_succ t
        have e2 := nowF_succ D t
        rw [e1] at e2
        dsimp only at e2
        have hq : (t + 1) * (t + 2) / 2 < 100000 := by
          have : (t + 1) * (t + 2) ≤ 25 * 26 := Nat.mul_le_mul (by omega) (by omega)
          omega
        have hq2 : (t + 1) * (t + 2) ≤ 650 := Nat.mul_le_mul (show t + 1 ≤ 25 by omega) (show t + 2 ≤ 26 by omega)
        have hm5 : (2 * (xyF t).1 + 3 * (xyF t).2) % 5 < 5 := Nat.mod_lt _ (by decide)
        have hk2 : ∀ w, Calls Tryd.prog 49 #[.int .u64 ((nowF D t).1 : Int), .int .i64 (((t + 1) * (t + 2) / 2 : Nat) : Int)] w (Ret w (.int .u64 ((rotl (nowF D t).1 ((t + 1) * (t + 2) / 2 % 64) : Nat) : Int))) := fun w => Left_calls _ _ hn1 hq w
        (refine CW.seq ?_; refine CW.region ?_; apply LW.v0; rfl; rfl; apply ValP.lssT; rfl; rfl; omega; apply LW.nil; refine thenN ?_; refine CW.seq ?_; apply CW.condT; rfl; (with_reducible rfl); refine CW.skip ?_; refine thenN ?_; refine CW.seq ?_; refine CW.block ?_; refine CW.seq ?_; refine CW.region ?_; apply LW.v0; rfl; rfl; apply ValP.move; rfl; apply LW.v0; rfl; rfl; apply ValP.assign; rfl; apply LW.nil; refine thenN ?_; refine CW.seq ?_; refine CW.region ?_; apply LW.v0; rfl; rfl; apply ValP.move; rfl; apply LW.v0; rfl; rfl; apply ValP.move; rfl; apply LW.v0; rfl; rfl; apply ValP.mulZK; rfl; rfl; decide; omega; apply LW.v0; rfl; rfl; apply ValP.move; rfl; apply LW.v0; rfl; rfl; apply ValP.mulZK; rfl; rfl; decide; omega; apply LW.v0; rfl; rfl; apply ValP.addZ; rfl; rfl; omega; apply LW.v0; rfl; rfl; apply ValP.remZL; rfl; rfl; decide; omega; apply LW.v0; rfl; rfl; apply ValP.assign; rfl; apply LW.v0; rfl; rfl; apply ValP.assign; rfl; apply LW.nil; refine thenN ?_; apply CW.pre; refine AnyW.any 19 mixed (by decide +kernel) ?_; (try simp only [tsOf_cons, tsOf_nil, tsOf_app]); apply DW.v0; rfl; rfl; rfl; exact WantT.none; rfl; apply ValP.move; rfl; apply DW.v0; rfl; rfl; rfl; exact WantT.none; rfl; apply ValP.mulZK; rfl; rfl; decide; omega; apply DW.v0; rfl; rfl; rfl; exact WantT.none; rfl; apply ValP.move; rfl; apply DW.v0; rfl; rfl; rfl; exact WantT.none; rfl; apply ValP.addZ; rfl; rfl; omega; apply DW.v0; rfl; rfl; rfl; exact WantT.none; rfl; apply ValP.move; rfl; apply DW.v0; rfl; rfl; rfl; exact WantT.none; rfl; apply ValP.mulZK; rfl; rfl; decide; omega; apply DW.v0; rfl; rfl; rfl; exact WantT.none; rfl; apply ValP.move; rfl; apply DW.v0; rfl; rfl; rfl; exact WantT.none; rfl; apply ValP.addZ; rfl; rfl; omega; apply DW.v0; rfl; rfl; rfl; exact WantT.none; rfl; apply ValP.indexAddrA; rfl; rfl; rfl; omega; apply DW.loadO; rfl; rfl; rfl; exact WantT.none; rfl; apply TRead.tail; apply TRead.head; exact ancB_nil; apply rd_nca; omega; apply DW.v0; rfl; rfl; rfl; exact WantT.none; rfl; apply ValP.move; rfl; apply DW.v0; rfl; rfl; rfl; exact WantT.none; rfl; apply ValP.move; rfl; apply DW.v0; rfl; rfl; rfl; exact WantT.none; rfl; apply ValP.addZL; rfl; rfl; decide; omega; apply DW.v0; rfl; rfl; rfl; exact WantT.none; rfl; apply ValP.move; rfl; apply DW.v0; rfl; rfl; rfl; exact WantT.none; rfl; apply ValP.addZL; rfl; rfl; decide; omega; apply DW.v0; rfl; rfl; rfl; exact WantT.none; rfl; apply ValP.mulZ; rfl; rfl; omega; apply DW.v0; rfl; rfl; rfl; exact WantT.none; rfl; apply ValP.quoZL; rfl; rfl; decide; omega; omega; apply DW.callE; rfl; rfl; rfl; exact WantT.none; rfl; infer_instance; apply ArgsOk.cons; rfl; apply ArgsOk.cons; rfl; exact ArgsOk.nil; rfl; exact ReadAll.nil; intro w _ _; exact hk2 w; apply DW.v0; rfl; rfl; rfl; exact WantT.none; rfl; apply ValP.assign; rfl; apply DW.nil; simp only [fsOf_cons, fsOf_nil, fsOf_app, fsOf_tsOf, fsOf_new]; apply LW.v0; rfl; rfl; apply ValP.indexAddrA; rfl; rfl; rfl; omega; apply LW.store; rfl; rfl; apply SetAt.tail; apply SetAt.head; apply wr_nca; omega; apply LW.nil; refine blkN ?_; refine thenN ?_; refine CW.region ?_; apply LW.v0; rfl; rfl; apply ValP.addZL; rfl; rfl; decide; omega; apply LW.v0; rfl; rfl; apply ValP.move; rfl; apply LW.nil)
        refine thenX ⟨rfl, t + 1, ht4, by omega, ?_, ?_⟩
        · rw [e1, e2]
          exact ⟨rfl, rfl, rfl, rfl, rfl, rfl, trivial⟩
        · rw [e2]
          exact List.Sublist.refl _
      · obtain rfl : t = 24 := by omega
        have hrl : (List.replicate 25 0 : List Nat).length = 25 := rfl
        have hnl2 : (nowF D 24).2.length = 25 := by omega
        (refine CW.seq ?_; refine CW.region ?_; apply LW.v0; rfl; rfl; apply ValP.lssF; rfl; rfl; omega; apply LW.nil; refine thenN ?_; refine CW.seq ?_; apply CW.condF; rfl; (with_reducible rfl); refine CW.exit ?_; refine thenE ?_; refine thenE ?_; refine blkE rfl ?_; refine thenN ?_; refine CW.seq ?_; refine CW.region ?_; apply LW.load; rfl; rfl; apply Known.at; apply FsAt.tail; apply FsAt.head; apply rd_ncaW; assumption; apply LW.store; rfl; rfl; apply SetAt.head; apply wr_ncaW; assumption; assumption; apply LW.nil; refine thenN ?_; refine CW.ret ?_)
        (apply finR; exact .inl rfl; rfl; rfl; rfl; apply ResL.cons; apply Res.cell; rfl; apply Known.at; apply FsAt.head; apply rd_ncaW; assumption; exact ResL.nil)
        rw [hRm]
        rfl
end Go.Proofs.YtficnjnnhcadaaaDoor

/-
  The document's sponge: rows, numbers, rounds.
  Conditions: none.
-/
namespace Go.Proofs.YtficnjnnhcadaaaDoor
open Go Go.RowKit SL
set_option maxRecDepth 8000
set_option maxHeartbeats 4000000
set_option linter.unusedSimpArgs false
set_option linter.unusedVariables false
attribute [local irreducible] SL.CW SL.LW SL.DW Calls SL.Ret SL.RetG SL.beginQ SL.roundQ SL.rangeQ SL.inQ SL.RW SL.AnyW SL.thenQ SL.thenC SL.thenW SL.blkQ SL.finQ SL.ValP SL.NewP SL.SetP SL.CallP SL.Rd SL.Wr SL.Known
/-! ### Numbers -/
def inN (r : Nat) : Nat → Nat × Nat
  | 0 => (r, 0)
  | j + 1 => ((if 255 < (inN r j).1 * 2 then ((inN r j).1 * 2 - 256) ^^^ 113 else (inN r j).1 * 2), (if (if 255 < (inN r j).1 * 2 then ((inN r j).1 * 2 - 256) ^^^ 113 else (inN r j).1 * 2) / 2 % 2 = 1 then (inN r j).2 ||| 2 ^ (2 ^ j - 1) else (inN r j).2))
def outN : Nat → Nat × Nat
  | 0 => (1, 0)
  | i + 1 => inN (outN i).1 7
theorem num_doc : ∀ n, n < 24 → (outN (n + 1)).2 = numL.getD n 0 := by decide +kernel
theorem inN_zero (r : Nat) : inN r 0 = (r, 0) := rfl
theorem inN_succ (r j : Nat) : inN r (j + 1) = ((if 255 < (inN r j).1 * 2 then ((inN r j).1 * 2 - 256) ^^^ 113 else (inN r j).1 * 2), (if (if 255 < (inN r j).1 * 2 then ((inN r j).1 * 2 - 256) ^^^ 113 else (inN r j).1 * 2) / 2 % 2 = 1 then (inN r j).2 ||| 2 ^ (2 ^ j - 1) else (inN r j).2)) := rfl
theorem outN_zero : outN 0 = (1, 0) := rfl
theorem outN_succ (i : Nat) : outN (i + 1) = inN (outN i).1 7 := rfl
theorem inN_lt (r : Nat) (hr : r < 256) (j : Nat) : (inN r j).1 < 256 := by
  induction j with
  | zero => exact hr
  | succ j ih =>
    rw [inN_succ]
    show (if _ then _ else _) < _
    by_cases h : 255 < (inN r j).1 * 2
    · rw [if_pos h]
      exact Nat.xor_lt_two_pow (n := 8) (by omega) (by decide)
    · rw [if_neg h]
      omega
theorem pow64 {j : Nat} (hj : j < 7) : 2 ^ j ≤ 64 := Nat.le_trans (Nat.pow_le_pow_right (by decide) (show j ≤ 6 by omega)) (by decide)
theorem pos2 (j : Nat) : 1 ≤ 2 ^ j := Nat.pow_pos (by decide)
theorem bit64 {j : Nat} (hj : j < 7) : 2 ^ (2 ^ j - 1) < 18446744073709551616 := by
  have h := pow64 hj
  have h0 : 1 ≤ 2 ^ j := Nat.pow_pos (by decide)
  exact Nat.lt_of_le_of_lt (Nat.pow_le_pow_right (by decide) (show 2 ^ j - 1 ≤ 63 by omega)) (by decide)
theorem inN_x (r : Nat) (j : Nat) (hj : j ≤ 7) : (inN r j).2 < 18446744073709551616 := by
  induction j with
  | zero => exact Nat.zero_lt_succ _
  | succ j ih =>
    have ih := ih (by omega)
    rw [inN_succ]
    show (if (if 255 < (inN r j).1 * 2 then ((inN r j).1 * 2 - 256) ^^^ 113 else (inN r j).1 * 2) / 2 % 2 = 1 then (inN r j).2 ||| 2 ^ (2 ^ j - 1) else (inN r j).2) < _
    generalize (if 255 < (inN r j).1 * 2 then ((inN r j).1 * 2 - 256) ^^^ 113 else (inN r j).1 * 2) / 2 % 2 = q
    by_cases h : q = 1
    · rw [if_pos h]
      exact Nat.or_lt_two_pow (n := 64) ih (bit64 (by omega))
    · rw [if_neg h]
      exact ih
theorem outN_lt (i : Nat) : (outN i).1 < 256 := by
  induction i with
  | zero => decide
  | succ i ih => rw [outN_succ]; exact inN_lt _ ih 7
attribute [local irreducible] inN outN
theorem ValP.shlOne {P : Program} {e : Env} {T ty : TypeId} {x y : Operand} {s : Nat} {ik : IntKind} (hx : e.ev x = some (.int .u64 1)) (hy : e.ev y = some (.int ik (s : Int))) (hs : s ≤ 63) : ValP P e [] (.binOp .shl T x y ty) (.int .u64 ((2 ^ s : Nat) : Int)) := by
  have h := ValP.shlU (P := P) (T := T) (ty := ty) (m := 1) hx hy (by omega)
  have hb : 2 ^ s < 18446744073709551616 := Nat.lt_of_le_of_lt (Nat.pow_le_pow_right (by decide) hs) (by decide)
  rwa [Nat.one_mul, Nat.mod_eq_of_lt hb] at h
theorem Number_calls (n : Nat) (hn : n < 24) (w : World) : Calls Tryd.prog 43 #[.int .i64 (n : Int)] w (Ret w (.int .u64 ((numL.getD n 0 : Nat) : Int))) := by
  rw [← num_doc n hn]
  refine enter (args := [_]) _ [] [] Tryd.func43 rfl Tryd.ntmps43 rfl (by simp) .nil ?_
  (refine CW.seq ?_; refine CW.region ?_; apply LW.v0; rfl; rfl; apply ValP.assign; rfl; apply LW.nil; refine thenN ?_; refine CW.seq ?_; refine CW.region ?_; apply LW.v0; rfl; rfl; apply ValP.assign; rfl; apply LW.nil; refine thenN ?_; refine CW.seq ?_; refine CW.region ?_; apply LW.v0; rfl; rfl; apply ValP.assign; rfl; apply LW.nil; refine thenN ?_; refine CW.seq ?_; refine CW.seq ?_; refine CW.region ?_; apply LW.v0; rfl; rfl; apply ValP.move; rfl; apply LW.v0; rfl; rfl; apply ValP.addZL; rfl; rfl; decide; omega; apply LW.v0; rfl; rfl; apply ValP.move; rfl; apply LW.nil; refine thenN ?_; refine CW.block ?_)
  refine CW.loop (fun i : Nat => ([(9, .int .i64 (i : Int)), (8, .int .i64 ((n + 1 : Nat) : Int)), (3, .int .i64 ((outN i).1 : Int)), (0, .int .i64 (n : Int))], []))
    (fun i => i ≤ n) (fun i => n - i) 0 (Nat.zero_le _) ?_ (List.nil_sublist _) ?_
  · dsimp only
    rw [outN_zero]
    exact ⟨rfl, rfl, rfl, rfl, trivial⟩
  intro i hi
  dsimp only at hi ⊢
  have hol := outN_lt i
  obtain ⟨r, hr⟩ : ∃ r, r = (outN i).1 := ⟨_, rfl⟩
  have ho := outN_succ i
  rw [← hr] at hol ho ⊢
  (refine CW.seq ?_; refine CW.region ?_; apply LW.v0; rfl; rfl; apply ValP.lssT; rfl; rfl; omega; apply LW.nil; refine thenN ?_; refine CW.seq ?_; apply CW.condT; rfl; (with_reducible rfl); refine CW.skip ?_; refine thenN ?_; refine CW.seq ?_; refine CW.block ?_; refine CW.seq ?_; refine CW.region ?_; apply LW.v0; rfl; rfl; apply ValP.move; rfl; apply LW.v0; rfl; rfl; apply ValP.assign; rfl; apply LW.nil; refine thenN ?_; refine CW.seq ?_; refine CW.region ?_; apply LW.v0; rfl; rfl; apply ValP.assign; rfl; apply LW.nil; refine thenN ?_; refine CW.seq ?_; refine CW.seq ?_; refine CW.region ?_; apply LW.v0; rfl; rfl; apply ValP.move; rfl; apply LW.nil; refine thenN ?_; refine CW.block ?_)
  refine CW.loop (fun j : Nat => ([(12, .int .i64 (j : Int)), (3, .int .i64 ((inN r j).1 : Int)), (4, .int .u64 ((inN r j).2 : Int)), (5, .int .i64 (i : Int)), (9, .int .i64 (i : Int)), (8, .int .i64 ((n + 1 : Nat) : Int)), (0, .int .i64 (n : Int))], []))
    (fun j => j ≤ 7) (fun j => 7 - j) 0 (Nat.zero_le _) ?_ (List.nil_sublist _) ?_
  · dsimp only
    rw [inN_zero]
    exact ⟨rfl, rfl, rfl, rfl, rfl, rfl, rfl, trivial⟩
  intro j hj
  dsimp only at hj ⊢
  have hlt := inN_lt r hol j
  have hx := inN_x r j hj
  have hs := inN_succ r j
  rcases Nat.lt_or_ge j 7 with hj7 | hj7
  · have hp := pow64 hj7
    have hp0 := pos2 j
    have hb := bit64 hj7
    generalize (inN r j).1 = a at *
    generalize (inN r j).2 = x at *
    have hp63 : 2 ^ j - 1 ≤ 63 := by omega
    have hj63 : j ≤ 63 := by omega
    by_cases h1 : 255 < a * 2
    · rw [if_pos h1] at hs
      have hx8 : (a * 2 - 256) ^^^ 113 < 256 := Nat.xor_lt_two_pow (n := 8) (by omega) (by decide)
      by_cases h2 : ((a * 2 - 256) ^^^ 113) / 2 % 2 = 1
      · rw [if_pos h2] at hs
        (refine CW.seq ?_; refine CW.region ?_; apply LW.v0; rfl; rfl; apply ValP.lssT; rfl; rfl; omega; apply LW.nil; refine thenN ?_; refine CW.seq ?_; apply CW.condT; rfl; (with_reducible rfl); refine CW.skip ?_; refine thenN ?_; refine CW.seq ?_; refine CW.block ?_; refine CW.seq ?_; refine CW.region ?_; apply LW.v0; rfl; rfl; apply ValP.move; rfl; apply LW.v0; rfl; rfl; apply ValP.assign; rfl; apply LW.nil; refine thenN ?_; refine CW.seq ?_; refine CW.region ?_; apply LW.v0; rfl; rfl; apply ValP.move; rfl; apply LW.v0; rfl; rfl; apply ValP.mulZL; rfl; rfl; decide; omega; apply LW.v0; rfl; rfl; apply ValP.assign; rfl; apply LW.nil; refine thenN ?_; refine CW.seq ?_; refine CW.seq ?_; refine CW.region ?_; apply LW.v0; rfl; rfl; apply ValP.move; rfl; apply LW.v0; rfl; rfl; apply ValP.gtrT; rfl; rfl; omega; apply LW.nil; refine thenN ?_; apply CW.condT; rfl; (with_reducible rfl); refine CW.region ?_; apply LW.v0; rfl; rfl; apply ValP.move; rfl; apply LW.v0; rfl; rfl; apply ValP.subZL; rfl; rfl; decide; omega; omega; apply LW.v0; rfl; rfl; apply ValP.xorIL; rfl; rfl; decide; omega; decide; apply LW.v0; rfl; rfl; apply ValP.assign; rfl; apply LW.nil; refine thenN ?_; refine CW.seq ?_; refine CW.region ?_; apply LW.v0; rfl; rfl; apply ValP.move; rfl; apply LW.v0; rfl; rfl; apply ValP.quoZL; rfl; rfl; decide; omega; omega; apply LW.v0; rfl; rfl; apply ValP.remZL; rfl; rfl; decide; omega; apply LW.v0; rfl; rfl; apply ValP.eqT; rfl; rfl; omega; apply LW.nil; refine thenN ?_; apply CW.condT; rfl; (with_reducible rfl); refine CW.region ?_; apply LW.v0; rfl; rfl; apply ValP.move; rfl; apply LW.v0; rfl; rfl; apply ValP.move; rfl; apply LW.v0; rfl; rfl; apply ValP.shlOne; rfl; rfl; assumption; apply LW.v0; rfl; rfl; apply ValP.subNL; rfl; rfl; decide; omega; omega; apply LW.v0; rfl; rfl; apply ValP.shlOne; rfl; rfl; assumption; apply LW.v0; rfl; rfl; apply ValP.orU; rfl; rfl; assumption; assumption; apply LW.v0; rfl; rfl; apply ValP.assign; rfl; apply LW.nil; refine blkN ?_; refine thenN ?_; refine CW.region ?_; apply LW.v0; rfl; rfl; apply ValP.addZL; rfl; rfl; decide; omega; apply LW.v0; rfl; rfl; apply ValP.move; rfl; apply LW.nil)
        refine thenX ⟨rfl, j + 1, hj7, by omega, ?_, List.nil_sublist _⟩
        rw [hs]
        exact ⟨rfl, rfl, rfl, rfl, rfl, rfl, rfl, trivial⟩
      · rw [if_neg h2] at hs
        (refine CW.seq ?_; refine CW.region ?_; apply LW.v0; rfl; rfl; apply ValP.lssT; rfl; rfl; omega; apply LW.nil; refine thenN ?_; refine CW.seq ?_; apply CW.condT; rfl; (with_reducible rfl); refine CW.skip ?_; refine thenN ?_; refine CW.seq ?_; refine CW.block ?_; refine CW.seq ?_; refine CW.region ?_; apply LW.v0; rfl; rfl; apply ValP.move; rfl; apply LW.v0; rfl; rfl; apply ValP.assign; rfl; apply LW.nil; refine thenN ?_; refine CW.seq ?_; refine CW.region ?_; apply LW.v0; rfl; rfl; apply ValP.move; rfl; apply LW.v0; rfl; rfl; apply ValP.mulZL; rfl; rfl; decide; omega; apply LW.v0; rfl; rfl; apply ValP.assign; rfl; apply LW.nil; refine thenN ?_; refine CW.seq ?_; refine CW.seq ?_; refine CW.region ?_; apply LW.v0; rfl; rfl; apply ValP.move; rfl; apply LW.v0; rfl; rfl; apply ValP.gtrT; rfl; rfl; omega; apply LW.nil; refine thenN ?_; apply CW.condT; rfl; (with_reducible rfl); refine CW.region ?_; apply LW.v0; rfl; rfl; apply ValP.move; rfl; apply LW.v0; rfl; rfl; apply ValP.subZL; rfl; rfl; decide; omega; omega; apply LW.v0; rfl; rfl; apply ValP.xorIL; rfl; rfl; decide; omega; decide; apply LW.v0; rfl; rfl; apply ValP.assign; rfl; apply LW.nil; refine thenN ?_; refine CW.seq ?_; refine CW.region ?_; apply LW.v0; rfl; rfl; apply ValP.move; rfl; apply LW.v0; rfl; rfl; apply ValP.quoZL; rfl; rfl; decide; omega; omega; apply LW.v0; rfl; rfl; apply ValP.remZL; rfl; rfl; decide; omega; apply LW.v0; rfl; rfl; apply ValP.eqF; rfl; rfl; omega; apply LW.nil; refine thenN ?_; apply CW.condF; rfl; (with_reducible rfl); refine CW.skip ?_; refine blkN ?_; refine thenN ?_; refine CW.region ?_; apply LW.v0; rfl; rfl; apply ValP.addZL; rfl; rfl; decide; omega; apply LW.v0; rfl; rfl; apply ValP.move; rfl; apply LW.nil)
        refine thenX ⟨rfl, j + 1, hj7, by omega, ?_, List.nil_sublist _⟩
        rw [hs]
        exact ⟨rfl, rfl, rfl, rfl, rfl, rfl, rfl, trivial⟩
    · rw [if_neg h1] at hs
      by_cases h2 : a * 2 / 2 % 2 = 1
      · rw [if_pos h2] at hs
        (refine CW.seq ?_; refine CW.region ?_; apply LW.v0; rfl; rfl; apply ValP.lssT; rfl; rfl; omega; apply LW.nil; refine thenN ?_; refine CW.seq ?_; apply CW.condT; rfl; (with_reducible rfl); refine CW.skip ?_; refine thenN ?_; refine CW.seq ?_; refine CW.block ?_; refine CW.seq ?_; refine CW.region ?_; apply LW.v0; rfl; rfl; apply ValP.move; rfl; apply LW.v0; rfl; rfl; apply ValP.assign; rfl; apply LW.nil; refine thenN ?_; refine CW.seq ?_; refine CW.region ?_; apply LW.v0; rfl; rfl; apply ValP.move; rfl; apply LW.v0; rfl; rfl; apply ValP.mulZL; rfl; rfl; decide; omega; apply LW.v0; rfl; rfl; apply ValP.assign; rfl; apply LW.nil; refine thenN ?_; refine CW.seq ?_; refine CW.seq ?_; refine CW.region ?_; apply LW.v0; rfl; rfl; apply ValP.move; rfl; apply LW.v0; rfl; rfl; apply ValP.gtrF; rfl; rfl; omega; apply LW.nil; refine thenN ?_; apply CW.condF; rfl; (with_reducible rfl); refine CW.skip ?_; refine thenN ?_; refine CW.seq ?_; refine CW.region ?_; apply LW.v0; rfl; rfl; apply ValP.move; rfl; apply LW.v0; rfl; rfl; apply ValP.quoZL; rfl; rfl; decide; omega; omega; apply LW.v0; rfl; rfl; apply ValP.remZL; rfl; rfl; decide; omega; apply LW.v0; rfl; rfl; apply ValP.eqT; rfl; rfl; omega; apply LW.nil; refine thenN ?_; apply CW.condT; rfl; (with_reducible rfl); refine CW.region ?_; apply LW.v0; rfl; rfl; apply ValP.move; rfl; apply LW.v0; rfl; rfl; apply ValP.move; rfl; apply LW.v0; rfl; rfl; apply ValP.shlOne; rfl; rfl; assumption; apply LW.v0; rfl; rfl; apply ValP.subNL; rfl; rfl; decide; omega; omega; apply LW.v0; rfl; rfl; apply ValP.shlOne; rfl; rfl; assumption; apply LW.v0; rfl; rfl; apply ValP.orU; rfl; rfl; assumption; assumption; apply LW.v0; rfl; rfl; apply ValP.assign; rfl; apply LW.nil; refine blkN ?_; refine thenN ?_; refine CW.region ?_; apply LW.v0; rfl; rfl; apply ValP.addZL; rfl; rfl; decide; omega; apply LW.v0; rfl; rfl; apply ValP.move; rfl; apply LW.nil)
        refine thenX ⟨rfl, j + 1, hj7, by omega, ?_, List.nil_sublist _⟩
        rw [hs]
        exact ⟨rfl, rfl, rfl, rfl, rfl, rfl, rfl, trivial⟩
      · rw [if_neg h2] at hs
        (refine CW.seq ?_; refine CW.region ?_; apply LW.v0; rfl; rfl; apply ValP.lssT; rfl; rfl; omega; apply LW.nil; refine thenN ?_; refine CW.seq ?_; apply CW.condT; rfl; (with_reducible rfl); refine CW.skip ?_; refine thenN ?_; refine CW.seq ?_; refine CW.block ?_; refine CW.seq ?_; refine CW.region ?_; apply LW.v0; rfl; rfl; apply ValP.move; rfl; apply LW.v0; rfl; rfl; apply ValP.assign; rfl; apply LW.nil; refine thenN ?_; refine CW.seq ?_; refine CW.region ?_; apply LW.v0; rfl; rfl; apply ValP.move; rfl; apply LW.v0; rfl; rfl; apply ValP.mulZL; rfl; rfl; decide; omega; apply LW.v0; rfl; rfl; apply ValP.assign; rfl; apply LW.nil; refine thenN ?_; refine CW.seq ?_; refine CW.seq ?_; refine CW.region ?_; apply LW.v0; rfl; rfl; apply ValP.move; rfl; apply LW.v0; rfl; rfl; apply ValP.gtrF; rfl; rfl; omega; apply LW.nil; refine thenN ?_; apply CW.condF; rfl; (with_reducible rfl); refine CW.skip ?_; refine thenN ?_; refine CW.seq ?_; refine CW.region ?_; apply LW.v0; rfl; rfl; apply ValP.move; rfl; apply LW.v0; rfl; rfl; apply ValP.quoZL; rfl; rfl; decide; omega; omega; apply LW.v0; rfl; rfl; apply ValP.remZL; rfl; rfl; decide; omega; apply LW.v0; rfl; rfl; apply ValP.eqF; rfl; rfl; omega; apply LW.nil; refine thenN ?_; apply CW.condF; rfl; (with_reducible rfl); refine CW.skip ?_; refine blkN ?_; refine thenN ?_; refine CW.region ?_; apply LW.v0; rfl; rfl; apply ValP.addZL; rfl; rfl; decide; omega; apply LW.v0; rfl; rfl; apply ValP.move; rfl; apply LW.nil)
        refine thenX ⟨rfl, j + 1, hj7, by omega, ?_, List.nil_sublist _⟩
        rw [hs]
        exact ⟨rfl, rfl, rfl, rfl, rfl, rfl, rfl, trivial⟩
  · obtain rfl : j = 7 := by omega
    rw [← ho]
    by_cases h : i = n
    · subst h
      (refine CW.seq ?_; refine CW.region ?_; apply LW.v0; rfl; rfl; apply ValP.lssF; rfl; rfl; omega; apply LW.nil; refine thenN ?_; refine CW.seq ?_; apply CW.condF; rfl; (with_reducible rfl); refine CW.exit ?_; refine thenE ?_; refine thenE ?_; refine blkE rfl ?_; refine thenN ?_; refine CW.seq ?_; refine CW.region ?_; apply LW.v0; rfl; rfl; apply ValP.move; rfl; apply LW.v0; rfl; rfl; apply ValP.move; rfl; apply LW.v0; rfl; rfl; apply ValP.eqT; rfl; rfl; omega; apply LW.nil; refine thenN ?_; apply CW.condT; rfl; (with_reducible rfl); refine CW.exit ?_; refine blkO rfl ?_; refine thenE ?_; refine thenE ?_; refine blkE rfl ?_; refine thenN ?_; refine CW.seq ?_; refine CW.region ?_; apply LW.v0; rfl; rfl; apply ValP.move; rfl; apply LW.v0; rfl; rfl; apply ValP.assign; rfl; apply LW.nil; refine thenN ?_; refine CW.ret ?_)
      (apply finR; exact .inl rfl; rfl; rfl; rfl; apply ResL.cons; exact Res.tmp rfl; exact ResL.nil)
      rfl
    · (refine CW.seq ?_; refine CW.region ?_; apply LW.v0; rfl; rfl; apply ValP.lssF; rfl; rfl; omega; apply LW.nil; refine thenN ?_; refine CW.seq ?_; apply CW.condF; rfl; (with_reducible rfl); refine CW.exit ?_; refine thenE ?_; refine thenE ?_; refine blkE rfl ?_; refine thenN ?_; refine CW.seq ?_; refine CW.region ?_; apply LW.v0; rfl; rfl; apply ValP.move; rfl; apply LW.v0; rfl; rfl; apply ValP.move; rfl; apply LW.v0; rfl; rfl; apply ValP.eqF; rfl; rfl; omega; apply LW.nil; refine thenN ?_; apply CW.condF; rfl; (with_reducible rfl); refine CW.skip ?_; refine blkN ?_; refine thenN ?_; refine CW.region ?_; apply LW.v0; rfl; rfl; apply ValP.addZL; rfl; rfl; decide; omega; apply LW.v0; rfl; rfl; apply ValP.move; rfl; apply LW.nil)
      exact thenX ⟨rfl, i + 1, by omega, by omega, ⟨rfl, rfl, rfl, rfl, trivial⟩, List.nil_sublist _⟩
end Go.Proofs.YtficnjnnhcadaaaDoor

/-
  The document's sponge: rows, rounds, all rounds.
  Conditions: none.
-/
namespace Go.Proofs.YtficnjnnhcadaaaDoor
open Go Go.RowKit SL
set_option maxRecDepth 8000
set_option maxHeartbeats 4000000
set_option linter.unusedSimpArgs false
set_option linter.unusedVariables false
attribute [local irreducible] SL.CW SL.LW SL.DW Calls SL.Ret SL.RetG SL.beginQ SL.roundQ SL.rangeQ SL.inQ SL.RW SL.AnyW SL.thenQ SL.thenC SL.thenW SL.blkQ SL.finQ SL.ValP SL.NewP SL.SetP SL.CallP SL.Rd SL.Wr SL.Known
attribute [local irreducible] rrF mixL rowsL numL roundL permF
theorem rRows_calls (L : List Nat) (hL : L.length = 25) (hb : ∀ i, L.getD i 0 < 18446744073709551616) (w : World) : Calls Tryd.prog 41 #[.agg (nca L)] w (Ret w (.agg (nca (rowsL L)))) := by
  rw [← rr_rows L hL]
  refine enter (args := [_]) _ [] [] Tryd.func41 rfl Tryd.ntmps41 rfl (by simp) .nil ?_
  (refine CW.seq ?_; refine CW.region ?_; apply LW.boxA; rfl; rfl; intro _; apply LW.allocA; rfl; intro _; apply LW.nil; refine thenN ?_; refine CW.seq ?_; refine CW.region ?_; apply LW.load; rfl; rfl; apply Known.at; apply FsAt.tail; apply FsAt.head; apply rd_ncaW; assumption; apply LW.allocA; rfl; intro _; apply LW.store; rfl; rfl; apply SetAt.head; apply wr_ncaO; rfl; assumption; apply LW.nil; refine thenN ?_; refine CW.seq ?_; refine CW.seq ?_; refine CW.region ?_; apply LW.v0; rfl; rfl; apply ValP.move; rfl; apply LW.nil; refine thenN ?_; refine CW.block ?_)
  rename_i b1 b2 b3
  refine CW.loop (fun y : Nat => ([(7, .int .i64 (y : Int)), (3, .pointer (some ⟨b3, 0, none⟩)), (2, .pointer (some ⟨b2, 0, none⟩)), (1, .pointer (some ⟨b1, 0, none⟩))],
    [(b3, .cells (nca L) 33 (0, 0)), (b2, .cells (nca (List.replicate 25 0)) 33 (0, 0)), (b1, .cells (nca (rrF L (5 * y))) 33 (0, 0))]))
    (fun y => y ≤ 5) (fun y => 5 - y) 0 (Nat.zero_le _) ⟨rfl, rfl, rfl, rfl, trivial⟩ (by dsimp only; rw [Nat.mul_zero, rrF_zero]; exact List.Sublist.refl _) ?_
  intro y hy
  dsimp only at hy ⊢
  rcases Nat.lt_or_ge y 5 with hy5 | hy5
  · (refine CW.seq ?_; refine CW.region ?_; apply LW.v0; rfl; rfl; apply ValP.lssT; rfl; rfl; omega; apply LW.nil; refine thenN ?_; refine CW.seq ?_; apply CW.condT; rfl; (with_reducible rfl); refine CW.skip ?_; refine thenN ?_; refine CW.seq ?_; refine CW.block ?_; refine CW.seq ?_; refine CW.region ?_; apply LW.v0; rfl; rfl; apply ValP.move; rfl; apply LW.v0; rfl; rfl; apply ValP.assign; rfl; apply LW.nil; refine thenN ?_; refine CW.seq ?_; refine CW.region ?_; apply LW.v0; rfl; rfl; apply ValP.move; rfl; apply LW.nil; refine thenN ?_; refine CW.block ?_)
    refine CW.loop (fun x : Nat => ([(10, .int .i64 (x : Int)), (4, .int .i64 (y : Int)), (7, .int .i64 (y : Int)), (3, .pointer (some ⟨b3, 0, none⟩)), (2, .pointer (some ⟨b2, 0, none⟩)), (1, .pointer (some ⟨b1, 0, none⟩))],
      [(b3, .cells (nca L) 33 (0, 0)), (b2, .cells (nca (List.replicate 25 0)) 33 (0, 0)), (b1, .cells (nca (rrF L (5 * y + x))) 33 (0, 0))]))
      (fun x => x ≤ 5) (fun x => 5 - x) 0 (Nat.zero_le _) ⟨rfl, rfl, rfl, rfl, rfl, rfl, trivial⟩ (List.Sublist.refl _) ?_
    intro x hx
    dsimp only at hx ⊢
    have hrl := rrF_len L (5 * y + x)
    rcases Nat.lt_or_ge x 5 with hx5 | hx5
    · (refine CW.seq ?_; refine CW.region ?_; apply LW.v0; rfl; rfl; apply ValP.lssT; rfl; rfl; omega; apply LW.nil; refine thenN ?_; refine CW.seq ?_; apply CW.condT; rfl; (with_reducible rfl); refine CW.skip ?_; refine thenN ?_; refine CW.seq ?_; refine CW.block ?_; refine CW.seq ?_; refine CW.region ?_; apply LW.v0; rfl; rfl; apply ValP.move; rfl; apply LW.v0; rfl; rfl; apply ValP.assign; rfl; apply LW.nil; refine thenN ?_; apply CW.pre; refine AnyW.any 28 mixed (by decide +kernel) ?_; (try simp only [tsOf_cons, tsOf_nil, tsOf_app]); apply DW.v0; rfl; rfl; rfl; exact WantT.none; rfl; apply ValP.move; rfl; apply DW.v0; rfl; rfl; rfl; exact WantT.none; rfl; apply ValP.mulZK; rfl; rfl; decide; omega; apply DW.v0; rfl; rfl; rfl; exact WantT.none; rfl; apply ValP.move; rfl; apply DW.v0; rfl; rfl; rfl; exact WantT.none; rfl; apply ValP.addZ; rfl; rfl; omega; apply DW.v0; rfl; rfl; rfl; exact WantT.none; rfl; apply ValP.move; rfl; apply DW.v0; rfl; rfl; rfl; exact WantT.none; rfl; apply ValP.mulZK; rfl; rfl; decide; omega; apply DW.v0; rfl; rfl; rfl; exact WantT.none; rfl; apply ValP.move; rfl; apply DW.v0; rfl; rfl; rfl; exact WantT.none; rfl; apply ValP.addZ; rfl; rfl; omega; apply DW.v0; rfl; rfl; rfl; exact WantT.none; rfl; apply ValP.indexAddrA; rfl; rfl; rfl; omega; apply DW.loadO; rfl; rfl; rfl; exact WantT.none; rfl; apply TRead.head; exact ancB_nil; apply rd_nca; omega; apply DW.v0; rfl; rfl; rfl; exact WantT.none; rfl; apply ValP.move; rfl; apply DW.v0; rfl; rfl; rfl; exact WantT.none; rfl; apply ValP.mulZK; rfl; rfl; decide; omega; apply DW.v0; rfl; rfl; rfl; exact WantT.none; rfl; apply ValP.move; rfl; apply DW.v0; rfl; rfl; rfl; exact WantT.none; rfl; apply ValP.addZL; rfl; rfl; decide; omega; apply DW.v0; rfl; rfl; rfl; exact WantT.none; rfl; apply ValP.remZL; rfl; rfl; decide; omega; apply DW.v0; rfl; rfl; rfl; exact WantT.none; rfl; apply ValP.addZ; rfl; rfl; omega; apply DW.v0; rfl; rfl; rfl; exact WantT.none; rfl; apply ValP.indexAddrA; rfl; rfl; rfl; omega; apply DW.loadO; rfl; rfl; rfl; exact WantT.none; rfl; apply TRead.head; exact ancB_nil; apply rd_nca; omega; apply DW.v0; rfl; rfl; rfl; exact WantT.none; rfl; apply ValP.move; rfl; apply DW.v0; rfl; rfl; rfl; exact WantT.none; rfl; apply ValP.mulZK; rfl; rfl; decide; omega; apply DW.v0; rfl; rfl; rfl; exact WantT.none; rfl; apply ValP.move; rfl; apply DW.v0; rfl; rfl; rfl; exact WantT.none; rfl; apply ValP.addZL; rfl; rfl; decide; omega; apply DW.v0; rfl; rfl; rfl; exact WantT.none; rfl; apply ValP.remZL; rfl; rfl; decide; omega; apply DW.v0; rfl; rfl; rfl; exact WantT.none; rfl; apply ValP.addZ; rfl; rfl; omega; apply DW.v0; rfl; rfl; rfl; exact WantT.none; rfl; apply ValP.indexAddrA; rfl; rfl; rfl; omega; apply DW.loadO; rfl; rfl; rfl; exact WantT.none; rfl; apply TRead.head; exact ancB_nil; apply rd_nca; omega; apply DW.v0; rfl; rfl; rfl; exact WantT.none; rfl; apply ValP.andNotU; rfl; rfl; exact hb _; exact hb _; apply DW.v0; rfl; rfl; rfl; exact WantT.none; rfl; apply ValP.xorU; rfl; rfl; exact hb _; apply and64; omega; apply DW.nil; simp only [fsOf_cons, fsOf_nil, fsOf_app, fsOf_tsOf, fsOf_new]; apply LW.v0; rfl; rfl; apply ValP.indexAddrA; rfl; rfl; rfl; omega; apply LW.store; rfl; rfl; apply SetAt.tail; apply SetAt.tail; apply SetAt.head; apply wr_nca; omega; apply LW.nil; refine blkN ?_; refine thenN ?_; refine CW.region ?_; apply LW.v0; rfl; rfl; apply ValP.addZL; rfl; rfl; decide; omega; apply LW.v0; rfl; rfl; apply ValP.move; rfl; apply LW.nil)
      refine thenX ⟨rfl, x + 1, hx5, by omega, ⟨rfl, rfl, rfl, rfl, rfl, rfl, trivial⟩, ?_⟩
      rw [← Nat.add_assoc, rrF_step L x y hx5]
      exact List.Sublist.refl _
    · obtain rfl : x = 5 := by omega
      (refine CW.seq ?_; refine CW.region ?_; apply LW.v0; rfl; rfl; apply ValP.lssF; rfl; rfl; omega; apply LW.nil; refine thenN ?_; refine CW.seq ?_; apply CW.condF; rfl; (with_reducible rfl); refine CW.exit ?_; refine thenE ?_; refine thenE ?_; refine blkE rfl ?_; refine blkN ?_; refine thenN ?_; refine CW.region ?_; apply LW.v0; rfl; rfl; apply ValP.addZL; rfl; rfl; decide; omega; apply LW.v0; rfl; rfl; apply ValP.move; rfl; apply LW.nil)
      refine thenX ⟨rfl, y + 1, hy5, by omega, ⟨rfl, rfl, rfl, rfl, trivial⟩, ?_⟩
      rw [show 5 * (y + 1) = 5 * y + 5 by omega]
      exact List.Sublist.refl _
  · obtain rfl : y = 5 := by omega
    have hrl := rrF_len L (5 * 5)
    have hrl2 : (rrF L (5 * 5)).length = 25 := by omega
    have hz : (List.replicate 25 0 : List Nat).length = 25 := rfl
    (refine CW.seq ?_; refine CW.region ?_; apply LW.v0; rfl; rfl; apply ValP.lssF; rfl; rfl; omega; apply LW.nil; refine thenN ?_; refine CW.seq ?_; apply CW.condF; rfl; (with_reducible rfl); refine CW.exit ?_; refine thenE ?_; refine thenE ?_; refine blkE rfl ?_; refine thenN ?_; refine CW.seq ?_; refine CW.region ?_; apply LW.load; rfl; rfl; apply Known.at; apply FsAt.tail; apply FsAt.tail; apply FsAt.head; apply rd_ncaW; assumption; apply LW.store; rfl; rfl; apply SetAt.tail; apply SetAt.head; apply wr_ncaW; assumption; assumption; apply LW.nil; refine thenN ?_; refine CW.ret ?_)
    (apply finR; exact .inl rfl; rfl; rfl; rfl; apply ResL.cons; apply Res.cell; rfl; apply Known.at; apply FsAt.tail; apply FsAt.head; apply rd_ncaW; assumption; exact ResL.nil)
    rfl
theorem rRound_calls (L : List Nat) (n : Nat) (hn : n < 24) (hL : L.length = 25) (hb : ∀ i, L.getD i 0 < 18446744073709551616) (w : World) : Calls Tryd.prog 35 #[.agg (nca L), .int .i64 (n : Int)] w (Ret w (.agg (nca (roundL L (numL.getD n 0))))) := by
  have hM : ∀ w', Calls Tryd.prog 42 #[.agg (nca L)] w' (Ret w' (.agg (nca (mixL L)))) := rMix_calls L hL hb
  have hR : ∀ w', Calls Tryd.prog 41 #[.agg (nca (mixL L))] w' (Ret w' (.agg (nca (rowsL (mixL L))))) := rRows_calls _ (mixL_len L) (mixL_lt L hb)
  have hNu := Number_calls n hn
  have hnb := numL_lt n hn
  have hrb := rowsL_lt _ (mixL_lt L hb)
  have hl1 := mixL_len L
  have hl2 := rowsL_len (mixL L)
  have hl3 : ((rowsL (mixL L)).set 0 ((rowsL (mixL L)).getD 0 0 ^^^ numL.getD n 0)).length = 25 := by rw [List.length_set, hl2]
  have he : roundL L (numL.getD n 0) = (rowsL (mixL L)).set 0 ((rowsL (mixL L)).getD 0 0 ^^^ numL.getD n 0) := by unfold roundL; rfl
  rw [he]
  refine enter (args := [_, _]) _ [] [] Tryd.func35 rfl Tryd.ntmps35 rfl (by simp) .nil ?_
  (refine CW.seq ?_; refine CW.region ?_; apply LW.boxA; rfl; rfl; intro _; apply LW.allocA; rfl; intro _; apply LW.nil; refine thenN ?_; refine CW.seq ?_; refine CW.region ?_; apply LW.load; rfl; rfl; apply Known.at; apply FsAt.tail; apply FsAt.head; apply rd_ncaW; assumption; apply LW.callE; rfl; rfl; infer_instance; apply ArgsOk.cons; rfl; exact ArgsOk.nil; intro w _; exact hM w; apply LW.callE; rfl; rfl; infer_instance; apply ArgsOk.cons; rfl; exact ArgsOk.nil; intro w _; exact hR w; apply LW.store; rfl; rfl; apply SetAt.tail; apply SetAt.head; apply wr_ncaW; assumption; assumption; apply LW.nil; refine thenN ?_; refine CW.seq ?_; apply CW.pre; refine AnyW.any 4 mixed (by decide +kernel) ?_; (try simp only [tsOf_cons, tsOf_nil, tsOf_app]); apply DW.v0; rfl; rfl; rfl; exact WantT.none; rfl; apply ValP.indexAddrL; rfl; rfl; rfl; apply DW.loadO; rfl; rfl; rfl; exact WantT.none; rfl; apply TRead.tail; apply TRead.head; exact ancB_nil; apply rd_nca0; omega; apply DW.v0; rfl; rfl; rfl; exact WantT.none; rfl; apply ValP.move; rfl; apply DW.callE; rfl; rfl; rfl; exact WantT.none; rfl; infer_instance; apply ArgsOk.cons; rfl; exact ArgsOk.nil; rfl; exact ReadAll.nil; intro w _ _; exact hNu w; apply DW.nil; simp only [fsOf_cons, fsOf_nil, fsOf_app, fsOf_tsOf, fsOf_new]; apply LW.v0; rfl; rfl; apply ValP.xorU; rfl; rfl; exact hrb _; assumption; apply LW.v0; rfl; rfl; apply ValP.indexAddrL; rfl; rfl; rfl; apply LW.store; rfl; rfl; apply SetAt.tail; apply SetAt.head; apply wr_nca0; omega; apply LW.nil; refine thenN ?_; refine CW.seq ?_; refine CW.region ?_; apply LW.load; rfl; rfl; apply Known.at; apply FsAt.tail; apply FsAt.head; apply rd_ncaW; assumption; apply LW.store; rfl; rfl; apply SetAt.head; apply wr_ncaO; rfl; assumption; apply LW.nil; refine thenN ?_; refine CW.ret ?_)
  (apply finR; exact .inl rfl; rfl; rfl; rfl; apply ResL.cons; apply Res.cell; rfl; apply Known.at; apply FsAt.head; apply rd_ncaW; assumption; exact ResL.nil)
  rfl
theorem permF_z (L : List Nat) : permF L 0 = L := by unfold permF; rfl
theorem rPermute_calls (L : List Nat) (hL : L.length = 25) (hb : ∀ i, L.getD i 0 < 18446744073709551616) (w : World) : Calls Tryd.prog 27 #[.agg (nca L)] w (Ret w (.agg (nca (permL L)))) := by
  refine enter (args := [_]) _ [] [] Tryd.func27 rfl Tryd.ntmps27 rfl (by simp) .nil ?_
  (refine CW.seq ?_; refine CW.region ?_; apply LW.boxA; rfl; rfl; intro _; apply LW.allocA; rfl; intro _; apply LW.nil; refine thenN ?_; refine CW.seq ?_; refine CW.seq ?_; refine CW.region ?_; apply LW.v0; rfl; rfl; apply ValP.move; rfl; apply LW.nil; refine thenN ?_; refine CW.block ?_)
  rename_i b1 b2
  refine CW.loop (fun k : Nat => ([(4, .int .i64 (k : Int)), (2, .pointer (some ⟨b2, 0, none⟩)), (1, .pointer (some ⟨b1, 0, none⟩))],
    [(b2, .cells (nca (List.replicate 25 0)) 33 (0, 0)), (b1, .cells (nca (permF L k)) 33 (0, 0))]))
    (fun k => k ≤ 24) (fun k => 24 - k) 0 (Nat.zero_le _) ⟨rfl, rfl, rfl, trivial⟩ (by dsimp only; rw [permF_z]; exact List.Sublist.refl _) ?_
  intro k hk
  dsimp only at hk ⊢
  have hlen := permF_len L hL k
  rcases Nat.lt_or_ge k 24 with hk4 | hk4
  · have hRd : ∀ w', Calls Tryd.prog 35 #[.agg (nca (permF L k)), .int .i64 (k : Int)] w' (Ret w' (.agg (nca (roundL (permF L k) (numL.getD k 0))))) := rRound_calls _ k hk4 hlen (permF_lt L hb k hk)
    have hlen' := roundL_len (permF L k) (numL.getD k 0)
    (refine CW.seq ?_; refine CW.region ?_; apply LW.v0; rfl; rfl; apply ValP.lssT; rfl; rfl; omega; apply LW.nil; refine thenN ?_; refine CW.seq ?_; apply CW.condT; rfl; (with_reducible rfl); refine CW.skip ?_; refine thenN ?_; refine CW.seq ?_; refine CW.block ?_; refine CW.seq ?_; refine CW.region ?_; apply LW.v0; rfl; rfl; apply ValP.move; rfl; apply LW.v0; rfl; rfl; apply ValP.assign; rfl; apply LW.nil; refine thenN ?_; refine CW.region ?_; apply LW.load; rfl; rfl; apply Known.at; apply FsAt.tail; apply FsAt.head; apply rd_ncaW; assumption; apply LW.v0; rfl; rfl; apply ValP.move; rfl; apply LW.callE; rfl; rfl; infer_instance; apply ArgsOk.cons; rfl; apply ArgsOk.cons; rfl; exact ArgsOk.nil; intro w _; exact hRd w; apply LW.store; rfl; rfl; apply SetAt.tail; apply SetAt.head; apply wr_ncaW; assumption; assumption; apply LW.nil; refine blkN ?_; refine thenN ?_; refine CW.region ?_; apply LW.v0; rfl; rfl; apply ValP.addZL; rfl; rfl; decide; omega; apply LW.v0; rfl; rfl; apply ValP.move; rfl; apply LW.nil)
    refine thenX ⟨rfl, k + 1, hk4, by omega, ⟨rfl, rfl, rfl, trivial⟩, ?_⟩
    rw [permF_step]
    exact List.Sublist.refl _
  · obtain rfl : k = 24 := by omega
    have hlr : (List.replicate 25 0 : List Nat).length = 25 := rfl
    have hpe : permL L = permF L 24 := by unfold permL; rfl
    rw [hpe]
    (refine CW.seq ?_; refine CW.region ?_; apply LW.v0; rfl; rfl; apply ValP.lssF; rfl; rfl; omega; apply LW.nil; refine thenN ?_; refine CW.seq ?_; apply CW.condF; rfl; (with_reducible rfl); refine CW.exit ?_; refine thenE ?_; refine thenE ?_; refine blkE rfl ?_; refine thenN ?_; refine CW.seq ?_; refine CW.region ?_; apply LW.load; rfl; rfl; apply Known.at; apply FsAt.tail; apply FsAt.head; apply rd_ncaW; assumption; apply LW.store; rfl; rfl; apply SetAt.head; apply wr_ncaW; assumption; assumption; apply LW.nil; refine thenN ?_; refine CW.ret ?_)
    (apply finR; exact .inl rfl; rfl; rfl; rfl; apply ResL.cons; apply Res.cell; rfl; apply Known.at; apply FsAt.head; apply rd_ncaW; assumption; exact ResL.nil)
    rfl
end Go.Proofs.YtficnjnnhcadaaaDoor

/-
  The sponge: plain laws of bytes that are soaked up.
  Conditions: none.
-/
namespace Go.Proofs.YtficnjnnhcadaaaDoor
open Go Go.RowKit SL
set_option maxRecDepth 8000
set_option linter.unusedSimpArgs false
set_option linter.unusedVariables false
/-- Eight bytes from a place on. -/
def litO (p : List UInt8) (o : Nat) : Nat → Nat
  | 0 => 0
  | k + 1 => litO p o k ||| ((p.getD (o + k) 0).toNat * 2 ^ (8 * k) % 18446744073709551616)
theorem litF_litO {l p : List UInt8} {o : Nat} : ∀ k, (∀ j, j < k → l.getD j 0 = p.getD (o + j) 0) → litF l k = litO p o k
  | 0, _ => rfl
  | k + 1, h => by
    rw [litF_succ, litO, litF_litO k (fun j hj => h j (by omega)), h k (by omega)]
theorem litO_lt (p : List UInt8) (o : Nat) : ∀ k, k ≤ 8 → litO p o k < 2 ^ (8 * k)
  | 0, _ => by simp [litO]
  | k + 1, hk => by
    have ih := litO_lt p o k (by omega)
    have hu := (p.getD (o + k) 0).toNat_lt
    have h1 : (p.getD (o + k) 0).toNat * 2 ^ (8 * k) < 2 ^ (8 * (k + 1)) := by
      rw [show 8 * (k + 1) = 8 + 8 * k by omega, Nat.pow_add]
      exact Nat.mul_lt_mul_of_pos_right hu (Nat.pow_pos (by decide))
    rw [litO]
    exact Nat.or_lt_two_pow (Nat.lt_of_lt_of_le ih (Nat.pow_le_pow_right (by decide) (by omega))) (Nat.lt_of_le_of_lt (Nat.mod_le _ _) h1)
theorem or_xor {a b k : Nat} (h : a < 2 ^ k) : a ||| (b * 2 ^ k) = a ^^^ (b * 2 ^ k) := by
  apply Nat.eq_of_testBit_eq
  intro i
  rw [Nat.testBit_or, Nat.testBit_xor]
  rcases Nat.lt_or_ge i k with hi | hi
  · have : (b * 2 ^ k).testBit i = false := by
      rw [Nat.testBit_mul_two_pow]
      have : ¬ k ≤ i := by omega
      simp [this]
    rw [this]; simp
  · have : a.testBit i = false := Nat.testBit_lt_two_pow (Nat.lt_of_lt_of_le h (Nat.pow_le_pow_right (by decide) hi))
    rw [this]; simp
theorem byte_small {u k : Nat} (hu : u < 256) (hk : k < 8) : u * 2 ^ (8 * k) % 18446744073709551616 = u * 2 ^ (8 * k) := by
  apply Nat.mod_eq_of_lt
  have h1 : u * 2 ^ (8 * k) < 2 ^ 8 * 2 ^ (8 * k) := Nat.mul_lt_mul_of_pos_right hu (Nat.pow_pos (by decide))
  rw [← Nat.pow_add] at h1
  exact Nat.lt_of_lt_of_le h1 (show 2 ^ (8 + 8 * k) ≤ 2 ^ 64 from Nat.pow_le_pow_right (by decide) (by omega))
theorem litO_xor (p : List UInt8) (o k : Nat) (hk : k < 8) : litO p o (k + 1) = litO p o k ^^^ ((p.getD (o + k) 0).toNat * 2 ^ (8 * k) % 18446744073709551616) := by
  have hu := (p.getD (o + k) 0).toNat_lt
  rw [litO, byte_small hu hk]
  exact or_xor (litO_lt p o k (by omega))
/-- Lanes to which eight bytes each come. -/
def litS (L : List Nat) (p : List UInt8) (o : Nat) : Nat → List Nat
  | 0 => L
  | i + 1 => (litS L p o i).set i ((litS L p o i).getD i 0 ^^^ litO p (o + 8 * i) 8)
theorem litS_len (L : List Nat) (p : List UInt8) (o k : Nat) : (litS L p o k).length = L.length := by
  induction k with
  | zero => rfl
  | succ k ih => simp [litS, ih]
theorem soak_eight (L : List Nat) (p : List UInt8) (o i : Nat) (hi : i < L.length) : ∀ k, k ≤ 8 → soakF L p o (8 * i + k) = (soakF L p o (8 * i)).set i ((soakF L p o (8 * i)).getD i 0 ^^^ litO p (o + 8 * i) k)
  | 0, _ => by
    have hl := soakF_len L p o (8 * i)
    rw [show litO p (o + 8 * i) 0 = 0 from rfl, Nat.xor_zero, Nat.add_zero]
    apply List.ext_getElem?
    intro j
    rw [List.getElem?_set]
    split
    · rename_i h; subst h
      rw [if_pos (by omega), List.getD_eq_getElem?_getD, List.getElem?_eq_getElem (by omega)]; rfl
    · rfl
  | k + 1, hk => by
    have ih := soak_eight L p o i hi k (by omega)
    have hl := soakF_len L p o (8 * i)
    rw [← Nat.add_assoc, soakF_succ, ih, show (8 * i + k) / 8 = i by omega, show (8 * i + k) % 8 = k by omega, litO_xor p _ k (by omega), List.set_set]
    have hg : ∀ x : Nat, ((soakF L p o (8 * i)).set i x).getD i 0 = x := fun x => by
      rw [List.getD_eq_getElem?_getD, List.getElem?_set_self (by omega)]; rfl
    rw [hg, Nat.xor_assoc, show o + (8 * i + k) = o + 8 * i + k by omega]
theorem litS_soak (L : List Nat) (p : List UInt8) (o : Nat) : ∀ i, i ≤ L.length → litS L p o i = soakF L p o (8 * i)
  | 0, _ => rfl
  | i + 1, hi => by
    rw [litS, litS_soak L p o i (by omega), show 8 * (i + 1) = 8 * i + 8 by omega, soak_eight L p o i hi 8 (Nat.le_refl _)]
/-! ### Digests, eight bytes each -/
theorem idF_get (L : List Nat) : ∀ m, m ≤ 32 → ∀ j, j < m → (idF L m).getD j 0 = UInt8.ofNat (L.getD (j / 8) 0 / 2 ^ (8 * (j % 8)) % 256)
  | 0, _, j, hj => absurd hj (Nat.not_lt_zero j)
  | m + 1, hm, j, hj => by
    have hl := idF_len L m
    rw [idF_succ, List.getD_eq_getElem?_getD, List.getElem?_set]
    split
    · rename_i h; subst h
      rw [if_pos (by omega)]; rfl
    · rw [← List.getD_eq_getElem?_getD]
      exact idF_get L m (by omega) j (by omega)
theorem or_add {a b k : Nat} (h : a < 2 ^ k) : a ||| (b * 2 ^ k) = b * 2 ^ k + a := by
  rw [Nat.or_comm, Nat.mul_comm]
  exact (Nat.two_pow_add_eq_or_of_lt h b).symm
theorem id_lit (L : List Nat) (i : Nat) (hi : i < 4) : ∀ k, k ≤ 8 → litO (idF L 32) (8 * i) k = L.getD i 0 % 2 ^ (8 * k)
  | 0, _ => by simp [litO, Nat.mod_one]
  | k + 1, hk => by
    have ih := id_lit L i hi k (by omega)
    have hg := idF_get L 32 (Nat.le_refl _) (8 * i + k) (by omega)
    rw [show (8 * i + k) / 8 = i by omega, show (8 * i + k) % 8 = k by omega] at hg
    generalize L.getD i 0 = x at *
    have hu : (UInt8.ofNat (x / 2 ^ (8 * k) % 256)).toNat = x / 2 ^ (8 * k) % 256 := by rw [UInt8.toNat_ofNat']; omega
    rw [litO, hg, hu, byte_small (Nat.mod_lt _ (by decide)) (by omega), ih, or_add (Nat.mod_lt _ (Nat.pow_pos (by decide))), show 8 * (k + 1) = 8 * k + 8 by omega, Nat.pow_add, Nat.mod_mul]
    show x / 2 ^ (8 * k) % 256 * 2 ^ (8 * k) + x % 2 ^ (8 * k) = x % 2 ^ (8 * k) + 2 ^ (8 * k) * (x / 2 ^ (8 * k) % 256)
    rw [Nat.add_comm, Nat.mul_comm (x / 2 ^ (8 * k) % 256)]
theorem id_back (L : List Nat) (hb : ∀ i, L.getD i 0 < 18446744073709551616) (i : Nat) (hi : i < 4) : litO (idF L 32) (8 * i) 8 = L.getD i 0 := by
  rw [id_lit L i hi 8 (Nat.le_refl _)]
  exact Nat.mod_eq_of_lt (hb i)
theorem litF_cut (p : List UInt8) (o n : Nat) (hn : 8 ≤ n) (h : o + n ≤ p.length) : litF ((p.drop o).take n) 8 = litO p o 8 :=
  litF_litO 8 fun j hj => by
    rw [List.getD_eq_getElem?_getD, List.getD_eq_getElem?_getD, List.getElem?_take, if_pos (by omega), List.getElem?_drop]
end Go.Proofs.YtficnjnnhcadaaaDoor

/-
  The document's sponge: digests.
  Conditions: none.
-/
namespace Go.Proofs.YtficnjnnhcadaaaDoor
open Go Go.RowKit SL
set_option maxRecDepth 8000
set_option maxHeartbeats 4000000
set_option linter.unusedSimpArgs false
set_option linter.unusedVariables false
attribute [local irreducible] SL.CW SL.LW SL.DW Calls SL.Ret SL.RetG SL.beginQ SL.roundQ SL.rangeQ SL.inQ SL.RW SL.AnyW SL.thenQ SL.thenC SL.thenW SL.blkQ SL.finQ SL.ValP SL.NewP SL.SetP SL.CallP SL.Rd SL.Wr SL.Known
/-- Eight bytes from a place on, read from the last one down. -/
def yF (p : List UInt8) (o : Nat) : Nat → Nat
  | 0 => 0
  | m + 1 => (256 * yF p o m % 18446744073709551616 + (p.getD (o + (7 - m)) 0).toNat) % 18446744073709551616
theorem yF_zero (p : List UInt8) (o : Nat) : yF p o 0 = 0 := rfl
theorem yF_succ (p : List UInt8) (o m : Nat) : yF p o (m + 1) = (256 * yF p o m % 18446744073709551616 + (p.getD (o + (7 - m)) 0).toNat) % 18446744073709551616 := rfl
theorem yF_lt (p : List UInt8) (o m : Nat) : yF p o m < 18446744073709551616 := by
  cases m with
  | zero => exact Nat.zero_lt_succ _
  | succ m => exact Nat.mod_lt _ (by decide)
theorem litO_sum (p : List UInt8) (o k : Nat) (hk : k < 8) : litO p o (k + 1) = (p.getD (o + k) 0).toNat * 2 ^ (8 * k) + litO p o k := by
  rw [litO, byte_small (p.getD (o + k) 0).toNat_lt hk]
  exact or_add (litO_lt p o k (by omega))
/-- what is still to come, and what there is. -/
theorem yF_lit (p : List UInt8) (o : Nat) : ∀ m, m ≤ 8 → yF p o m < 256 ^ m ∧ litO p o 8 = yF p o m * 256 ^ (8 - m) + litO p o (8 - m)
  | 0, _ => ⟨by simp [yF], by simp [yF]⟩
  | m + 1, hm => by
    obtain ⟨h1, h2⟩ := yF_lit p o m (by omega)
    have hu := (p.getD (o + (7 - m)) 0).toNat_lt
    have hp : 256 ^ m ≤ 256 ^ 7 := Nat.pow_le_pow_right (by decide) (by omega)
    have hp7 : (256 : Nat) ^ 7 = 72057594037927936 := by decide
    have hy : yF p o (m + 1) = 256 * yF p o m + (p.getD (o + (7 - m)) 0).toNat := by
      rw [yF]
      have : 256 * yF p o m < 18446744073709551616 := by omega
      rw [Nat.mod_eq_of_lt this]
      apply Nat.mod_eq_of_lt
      have h3 : 256 * yF p o m + 256 ≤ 256 * 256 ^ m := by
        have := Nat.mul_le_mul_left 256 h1
        omega
      omega
    constructor
    · rw [hy, Nat.pow_succ]
      have := Nat.mul_le_mul_left 256 h1
      omega
    · have e1 : 8 - m = (7 - m) + 1 := by omega
      have hs := litO_sum p o (7 - m) (by omega)
      rw [← e1] at hs
      rw [h2, hs, hy, show 8 - (m + 1) = 7 - m by omega, e1, Nat.pow_succ, show 2 ^ (8 * (7 - m)) = 256 ^ (7 - m) by rw [Nat.pow_mul]]
      generalize 256 ^ (7 - m) = q
      generalize yF p o m = y
      generalize (p.getD (o + (7 - m)) 0).toNat = u
      rw [Nat.add_mul, Nat.add_assoc]
      congr 1
      rw [Nat.mul_comm q 256, ← Nat.mul_assoc, Nat.mul_comm y 256]
theorem yF_all (p : List UInt8) (o : Nat) : yF p o 8 = litO p o 8 := by
  have := (yF_lit p o 8 (Nat.le_refl _)).2
  simpa [litO] using this.symm
structure QX where
  k : Nat
  o : Nat
theorem ValP.cutFromAny {P : Program} {e : Env} {T E : TypeId} {x lo : Operand} {b o n c k : Nat} {il : IntKind} {z : Value} (hU : UnI P T (.slice E)) (hI : InfoI P E 1 z) (hx : e.ev x = some (.slice (some ⟨b, o, none⟩) n c)) (hl : e.ev lo = some (.int il (OfNat.ofNat k))) (_ : k = k) (hk : (OfNat.ofNat k : Nat) ≤ n) : ValP P e [] (.slice T x (some lo) none none) (.slice (some ⟨b, if c = (OfNat.ofNat k : Nat) then o else o + (OfNat.ofNat k : Nat), none⟩) (n - (OfNat.ofNat k : Nat)) (c - (OfNat.ofNat k : Nat))) := by
  have h := ValP.cutFrom (P := P) (k := (OfNat.ofNat k : Nat)) hU hI hx hl hk
  have e1 : cutAt (some ⟨b, o, none⟩) (OfNat.ofNat k : Nat) n c 1 = .slice (some ⟨b, if c = (OfNat.ofNat k : Nat) then o else o + (OfNat.ofNat k : Nat), none⟩) (n - (OfNat.ofNat k : Nat)) (c - (OfNat.ofNat k : Nat)) := by
    unfold cutAt
    split <;> simp [Addr.add]
  rwa [e1] at h
theorem litS_z (L : List Nat) (p : List UInt8) (o : Nat) : litS L p o 0 = L := rfl
theorem litS_s (L : List Nat) (p : List UInt8) (o i : Nat) : litS L p o (i + 1) = (litS L p o i).set i ((litS L p o i).getD i 0 ^^^ litO p (o + 8 * i) 8) := rfl
attribute [local irreducible] padB sumB permL soakF sumF litS litO idF yF
theorem rSum_calls (b : List UInt8) (v : Value) (w : World) (hv : RowAt w 1 v b.length (ucs b)) (hb : b.length ≤ 100000) : Calls Tryd.prog 11 #[v] w (Ret w (.agg (uca (sumB b)))) := by
  have hPad : ∀ w' {fs}, St w [] fs w' → Calls Tryd.prog 13 #[v] w' (RetG w' [] (RowR (padB b))) := fun w' fs hst => rPad_calls b v w' (hv.st hst) hb
  obtain ⟨p0, c0, rfl, _, _⟩ := hv.form
  obtain ⟨P, hPe⟩ : ∃ P, P = padB b := ⟨_, rfl⟩
  obtain ⟨N, hNe⟩ : ∃ N, N = padC b.length := ⟨_, rfl⟩
  have hlP : P.length = 136 * N := by rw [hPe, hNe, padB_len, padN, padC]; omega
  have hNb : 0 < N ∧ N ≤ 1000 := by rw [hNe, padC]; omega
  refine enter (args := [_]) _ [] [] Tryd.func11 rfl Tryd.ntmps11 rfl (by simp) .nil ?_
  (refine CW.seq ?_; refine CW.region ?_; apply LW.allocA; rfl; intro _; apply LW.nil; refine thenN ?_; refine CW.seq ?_; refine CW.region ?_; apply LW.allocA; rfl; intro _; apply LW.nil; refine thenN ?_; refine CW.seq ?_; refine CW.region ?_; apply LW.v0; rfl; rfl; apply ValP.move; rfl)
  refine LW.callR rfl rfl inferInstance (by (apply ArgsOk.cons; rfl; exact ArgsOk.nil)) (fun w hst => hPad w hst) ?_
  intro v1 gs1 hrow
  replace hrow : IsRow 5 1 v1 (padB b).length (ucs (padB b)) gs1 := hrow
  rw [← hPe] at hrow
  obtain ⟨p1, c1, rfl⟩ := hrow.form
  obtain ⟨g, cur, rfl, rfl, hc1, hmx, hsz, ht⟩ := hrow.pos (by omega)
  simp only [maxLen] at hmx
  have hcg : ∀ j, j < P.length → cur[j]? = some (.int .u8 ((P.getD j 0).toNat : Int)) := fun j hj => by
    have h1 := congrArg (·[j]?) ht
    simp only [Nat.mul_one] at h1
    rw [List.getElem?_take, if_pos hj] at h1
    have h2 := uca_get P j hj
    rw [← Array.getElem?_toList, h1]
    simpa [uca] using h2
  simp only [List.cons_append, List.nil_append]
  (apply LW.v0; rfl; rfl; apply ValP.assign; rfl; apply LW.nil; refine thenN ?_; refine CW.seq ?_; refine CW.block ?_)
  rename_i bi bl
  refine CW.loop (fun x : QX => ([(4, .slice (some ⟨g, x.o, none⟩) (P.length - 136 * x.k) (c1 - 136 * x.k)), (3, .pointer (some ⟨bl, 0, none⟩)), (2, .pointer (some ⟨bi, 0, none⟩))],
    [(g, .cells cur 5 (0, 0)), (bl, .cells (nca (sumF P x.k)) 33 (0, 0)), (bi, .cells (uca (List.replicate 32 0)) 27 (0, 0))]))
    (fun x => x.k ≤ N ∧ (x.k < N → x.o = 136 * x.k)) (fun x => N - x.k) ⟨0, 0⟩ ⟨Nat.zero_le _, fun _ => rfl⟩ ⟨rfl, rfl, rfl, trivial⟩ (by dsimp only; rw [sumF_zero]; exact List.Sublist.refl _) ?_
  rintro ⟨c, o⟩ ⟨hc, ho⟩
  dsimp only at hc ho ⊢
  have hls' := sumF_len P c
  rcases Nat.lt_or_ge c N with hcN | hcN
  · obtain rfl := ho hcN
    (refine CW.seq ?_; refine CW.seq ?_; refine CW.region ?_; apply LW.v0; rfl; rfl; apply ValP.move; rfl; apply LW.v0; rfl; rfl; apply ValP.lenR; rfl; infer_instance; rfl; apply LW.v0; rfl; rfl; apply ValP.gtrT; rfl; rfl; omega; apply LW.nil; refine thenN ?_; apply CW.condT; rfl; (with_reducible rfl); refine CW.skip ?_; refine thenN ?_; refine CW.block ?_; refine CW.seq ?_; refine CW.seq ?_; refine CW.region ?_; apply LW.v0; rfl; rfl; apply ValP.move; rfl; apply LW.nil; refine thenN ?_; refine CW.block ?_)
    refine CW.loop (fun i : Nat => ([(17, .int .i64 (i : Int)), (4, .slice (some ⟨g, 136 * c, none⟩) (P.length - 136 * c) (c1 - 136 * c)), (3, .pointer (some ⟨bl, 0, none⟩)), (2, .pointer (some ⟨bi, 0, none⟩))],
      [(g, .cells cur 5 (0, 0)), (bl, .cells (nca (litS (sumF P c) P (136 * c) i)) 33 (0, 0)), (bi, .cells (uca (List.replicate 32 0)) 27 (0, 0))]))
      (fun i => i ≤ 17) (fun i => 17 - i) 0 (Nat.zero_le _) ⟨rfl, rfl, rfl, rfl, trivial⟩ ?_ ?_
    · dsimp only
      rw [litS_z]
      exact List.Sublist.refl _
    intro i hi
    dsimp only at hi ⊢
    have hls := litS_len (sumF P c) P (136 * c) i
    have hso := litS_soak (sumF P c) P (136 * c) i (by omega)
    have hsb : ∀ j, (litS (sumF P c) P (136 * c) i).getD j 0 < 18446744073709551616 := by rw [hso]; exact soakF_lt _ P (136 * c) (sumF_lt P c) (8 * i)
    rcases Nat.lt_or_ge i 17 with hi7 | hi7
    · (refine CW.seq ?_; refine CW.region ?_; apply LW.v0; rfl; rfl; apply ValP.lssT; rfl; rfl; omega; apply LW.nil; refine thenN ?_; refine CW.seq ?_; apply CW.condT; rfl; (with_reducible rfl); refine CW.skip ?_; refine thenN ?_; refine CW.seq ?_; refine CW.block ?_; refine CW.seq ?_; refine CW.region ?_; apply LW.v0; rfl; rfl; apply ValP.move; rfl; apply LW.v0; rfl; rfl; apply ValP.assign; rfl; apply LW.nil; refine thenN ?_; refine CW.seq ?_; refine CW.region ?_; apply LW.v0; rfl; rfl; apply ValP.assign; rfl; apply LW.nil; refine thenN ?_; refine CW.seq ?_; refine CW.seq ?_; refine CW.region ?_; apply LW.v0; rfl; rfl; apply ValP.assign; rfl; apply LW.nil; refine thenN ?_; refine CW.block ?_)
      refine CW.loop (fun m : Nat => ([(7, .int .i64 ((7 : Int) - (m : Int))), (6, .int .u64 (yF P (136 * c + 8 * i) m : Int)), (5, .int .i64 (i : Int)), (17, .int .i64 (i : Int)), (4, .slice (some ⟨g, 136 * c, none⟩) (P.length - 136 * c) (c1 - 136 * c)), (3, .pointer (some ⟨bl, 0, none⟩)), (2, .pointer (some ⟨bi, 0, none⟩))],
        [(g, .cells cur 5 (0, 0)), (bl, .cells (nca (litS (sumF P c) P (136 * c) i)) 33 (0, 0)), (bi, .cells (uca (List.replicate 32 0)) 27 (0, 0))]))
        (fun m => m ≤ 8) (fun m => 8 - m) 0 (Nat.zero_le _) ?_ (List.Sublist.refl _) ?_
      · dsimp only
        rw [yF_zero]
        exact ⟨rfl, rfl, rfl, rfl, rfl, rfl, rfl, trivial⟩
      intro m hm
      dsimp only at hm ⊢
      have hyl := yF_lt P (136 * c + 8 * i) m
      rcases Nat.lt_or_ge m 8 with hm8 | hm8
      · have e0 : ((7 : Int) - (m : Int)) = ((7 - m : Nat) : Int) := by omega
        have e2 : ((7 - m : Nat) : Int) - 1 = (7 : Int) - ((m + 1 : Nat) : Int) := by omega
        rw [e0]
        have hbt : (P.getD (136 * c + 8 * i + (7 - m)) 0).toNat < 256 := UInt8.toNat_lt _
        have hrd : Rd Tryd.prog 5 (.cells cur 5 (0, 0)) (136 * c + (8 * i + (7 - m)) * 1) (.int .u8 ((P.getD (136 * c + 8 * i + (7 - m)) 0).toNat : Int)) := Rd.one (by rw [Nat.mul_one, ← Nat.add_assoc]; exact hcg _ (by omega))
        (refine CW.seq ?_; refine CW.seq ?_; refine CW.region ?_; apply LW.v0; rfl; rfl; apply ValP.move; rfl; apply LW.v0; rfl; rfl; apply ValP.geqT; rfl; rfl; omega; apply LW.nil; refine thenN ?_; apply CW.condT; rfl; (with_reducible rfl); refine CW.skip ?_; refine thenN ?_; refine CW.seq ?_; refine CW.block ?_; refine CW.region ?_; apply LW.v0; rfl; rfl; apply ValP.move; rfl; apply LW.v0; rfl; rfl; apply ValP.mulNK; rfl; rfl; decide; apply LW.v0; rfl; rfl; apply ValP.move; rfl; apply LW.v0; rfl; rfl; apply ValP.move; rfl; apply LW.v0; rfl; rfl; apply ValP.mulZK; rfl; rfl; decide; omega; apply LW.v0; rfl; rfl; apply ValP.move; rfl; apply LW.v0; rfl; rfl; apply ValP.addZ; rfl; rfl; omega; apply LW.v0; rfl; rfl; apply ValP.indexAddrS; rfl; rfl; rfl; omega; apply LW.load; rfl; rfl; apply Known.at; apply FsAt.head; assumption; apply LW.v0; rfl; rfl; apply ValP.convN; rfl; omega; omega; apply LW.v0; rfl; rfl; apply ValP.addN; rfl; rfl; apply LW.v0; rfl; rfl; apply ValP.assign; rfl; apply LW.nil; refine blkN ?_; refine thenN ?_; refine CW.region ?_; apply LW.v0; rfl; rfl; apply ValP.move; rfl; apply LW.v0; rfl; rfl; apply ValP.subI; rfl; rfl; omega; omega; apply LW.v0; rfl; rfl; apply ValP.assign; rfl; apply LW.nil)
        refine thenX ⟨rfl, m + 1, hm8, by omega, ?_, List.Sublist.refl _⟩
        rw [yF_succ, ← e2]
        exact ⟨rfl, rfl, rfl, rfl, rfl, rfl, rfl, trivial⟩
      · obtain rfl : m = 8 := by omega
        rw [yF_all] at hyl ⊢
        (refine CW.seq ?_; refine CW.seq ?_; refine CW.region ?_; apply LW.v0; rfl; rfl; apply ValP.move; rfl; apply LW.v0; rfl; rfl; apply ValP.geqF; rfl; rfl; omega; apply LW.nil; refine thenN ?_; apply CW.condF; rfl; (with_reducible rfl); refine CW.exit ?_; refine thenE ?_; refine thenE ?_; refine blkE rfl ?_; refine thenN ?_; refine CW.region ?_; apply LW.v0; rfl; rfl; apply ValP.move; rfl; apply LW.v0; rfl; rfl; apply ValP.indexAddrA; rfl; rfl; rfl; omega; apply LW.load; rfl; rfl; apply Known.at; apply FsAt.tail; apply FsAt.head; apply rd_nca; omega; apply LW.v0; rfl; rfl; apply ValP.move; rfl; apply LW.v0; rfl; rfl; apply ValP.xorU; rfl; rfl; exact hsb _; assumption; apply LW.v0; rfl; rfl; apply ValP.indexAddrA; rfl; rfl; rfl; omega; apply LW.store; rfl; rfl; apply SetAt.tail; apply SetAt.head; apply wr_nca; omega; apply LW.nil; refine blkN ?_; refine thenN ?_; refine CW.region ?_; apply LW.v0; rfl; rfl; apply ValP.addZL; rfl; rfl; decide; omega; apply LW.v0; rfl; rfl; apply ValP.move; rfl; apply LW.nil)
        refine thenX ⟨rfl, i + 1, hi7, by omega, ⟨rfl, rfl, rfl, rfl, trivial⟩, ?_⟩
        rw [litS_s]
        exact List.Sublist.refl _
    · obtain rfl : i = 17 := by omega
      rw [show 8 * 17 = 136 from rfl] at hso
      rw [hso] at hsb hls ⊢
      have hls2 : (soakF (sumF P c) P (136 * c) 136).length = 25 := by omega
      have hPerm : ∀ w', Calls Tryd.prog 27 #[.agg (nca (soakF (sumF P c) P (136 * c) 136))] w' (Ret w' (.agg (nca (permL (soakF (sumF P c) P (136 * c) 136))))) := rPermute_calls _ hls2 hsb
      have hlp := permL_len (soakF (sumF P c) P (136 * c) 136) hls2
      have e3 : P.length - 136 * c - 136 = P.length - 136 * (c + 1) := by omega
      have e4 : c1 - 136 * c - 136 = c1 - 136 * (c + 1) := by omega
      (refine CW.seq ?_; refine CW.region ?_; apply LW.v0; rfl; rfl; apply ValP.lssF; rfl; rfl; omega; apply LW.nil; refine thenN ?_; refine CW.seq ?_; apply CW.condF; rfl; (with_reducible rfl); refine CW.exit ?_; refine thenE ?_; refine thenE ?_; refine blkE rfl ?_; refine thenN ?_; refine CW.seq ?_; refine CW.region ?_; apply LW.load; rfl; rfl; apply Known.at; apply FsAt.tail; apply FsAt.head; apply rd_ncaW; assumption; apply LW.callE; rfl; rfl; infer_instance; apply ArgsOk.cons; rfl; exact ArgsOk.nil; intro w _; exact hPerm w; apply LW.store; rfl; rfl; apply SetAt.tail; apply SetAt.head; apply wr_ncaW; assumption; assumption; apply LW.nil; refine thenN ?_; refine CW.region ?_; apply LW.v0; rfl; rfl; apply ValP.move; rfl; apply LW.v0; rfl; rfl; apply ValP.cutFromAny; infer_instance; infer_instance; rfl; rfl; decide; omega; apply LW.v0; rfl; rfl; apply ValP.assign; rfl; apply LW.nil; refine blkN ?_)
      refine thenX ⟨rfl, ⟨c + 1, if c1 - 136 * c = 136 then 136 * c else 136 * c + 136⟩, ⟨hcN, fun h => ?_⟩, ?_, ?_, ?_⟩
      · dsimp only at h ⊢
        rw [if_neg (by omega)]
        omega
      · dsimp only
        omega
      · dsimp only
        rw [← e3, ← e4]
        exact ⟨rfl, rfl, rfl, trivial⟩
      · dsimp only
        rw [sumF_succ]
        exact List.Sublist.refl _
  · obtain rfl : c = N := by omega
    have hLb := sumF_lt P c
    have hI : sumB b = idF (sumF P c) 32 := by rw [hPe, hNe]; unfold sumB; rfl
    rw [hI]
    generalize sumF P c = L at *
    (refine CW.seq ?_; refine CW.seq ?_; refine CW.region ?_; apply LW.v0; rfl; rfl; apply ValP.move; rfl; apply LW.v0; rfl; rfl; apply ValP.lenR; rfl; infer_instance; rfl; apply LW.v0; rfl; rfl; apply ValP.gtrF; rfl; rfl; omega; apply LW.nil; refine thenN ?_; apply CW.condF; rfl; (with_reducible rfl); refine CW.exit ?_; refine thenE ?_; refine thenE ?_; refine blkE rfl ?_; refine thenN ?_; refine CW.seq ?_; refine CW.region ?_; apply LW.allocA; rfl; intro _; apply LW.nil; refine thenN ?_; refine CW.seq ?_; refine CW.seq ?_; refine CW.region ?_; apply LW.v0; rfl; rfl; apply ValP.move; rfl; apply LW.nil; refine thenN ?_; refine CW.block ?_)
    rename_i bd
    refine CW.loop (fun i : Nat => ([(46, .int .i64 (i : Int)), (8, .pointer (some ⟨bd, 0, none⟩)), (3, .pointer (some ⟨bl, 0, none⟩)), (2, .pointer (some ⟨bi, 0, none⟩))],
      [(bd, .cells (uca (idF L (8 * i))) 27 (0, 0)), (bl, .cells (nca L) 33 (0, 0)), (bi, .cells (uca (List.replicate 32 0)) 27 (0, 0))]))
      (fun i => i ≤ 4) (fun i => 4 - i) 0 (Nat.zero_le _) ⟨rfl, rfl, rfl, rfl, trivial⟩ ?_ ?_
    · dsimp only
      rw [Nat.mul_zero, idF_zero]
      (apply List.Sublist.cons_cons; apply List.Sublist.cons; exact List.Sublist.refl _)
    intro i hi
    dsimp only at hi ⊢
    rcases Nat.lt_or_ge i 4 with hi4 | hi4
    · (refine CW.seq ?_; refine CW.region ?_; apply LW.v0; rfl; rfl; apply ValP.lssT; rfl; rfl; omega; apply LW.nil; refine thenN ?_; refine CW.seq ?_; apply CW.condT; rfl; (with_reducible rfl); refine CW.skip ?_; refine thenN ?_; refine CW.seq ?_; refine CW.block ?_; refine CW.seq ?_; refine CW.region ?_; apply LW.v0; rfl; rfl; apply ValP.move; rfl; apply LW.v0; rfl; rfl; apply ValP.assign; rfl; apply LW.nil; refine thenN ?_; refine CW.seq ?_; refine CW.region ?_; apply LW.v0; rfl; rfl; apply ValP.move; rfl; apply LW.v0; rfl; rfl; apply ValP.indexAddrA; rfl; rfl; rfl; omega; apply LW.load; rfl; rfl; apply Known.at; apply FsAt.tail; apply FsAt.head; apply rd_nca; omega; apply LW.v0; rfl; rfl; apply ValP.assign; rfl; apply LW.nil; refine thenN ?_; refine CW.seq ?_; refine CW.region ?_; apply LW.v0; rfl; rfl; apply ValP.move; rfl; apply LW.nil; refine thenN ?_; refine CW.block ?_)
      refine CW.loop (fun k : Nat => ([(52, .int .i64 (k : Int)), (10, .int .u64 ((L.getD i 0 / 2 ^ (8 * k) : Nat) : Int)), (9, .int .i64 (i : Int)), (46, .int .i64 (i : Int)), (8, .pointer (some ⟨bd, 0, none⟩)), (3, .pointer (some ⟨bl, 0, none⟩)), (2, .pointer (some ⟨bi, 0, none⟩))],
        [(bd, .cells (uca (idF L (8 * i + k))) 27 (0, 0)), (bl, .cells (nca L) 33 (0, 0)), (bi, .cells (uca (List.replicate 32 0)) 27 (0, 0))]))
        (fun k => k ≤ 8) (fun k => 8 - k) 0 (Nat.zero_le _) ?_ (List.Sublist.refl _) ?_
      · dsimp only
        rw [Nat.mul_zero, Nat.pow_zero, Nat.div_one]
        exact ⟨rfl, rfl, rfl, rfl, rfl, rfl, rfl, trivial⟩
      intro k hk
      dsimp only at hk ⊢
      have hil := idF_len L (8 * i + k)
      have hxl : L.getD i 0 / 2 ^ (8 * k) < 18446744073709551616 := Nat.lt_of_le_of_lt (Nat.div_le_self _ _) (hLb i)
      rcases Nat.lt_or_ge k 8 with hk8 | hk8
      · have hstep := idF_succ L (8 * i + k)
        rw [show (8 * i + k) / 8 = i by omega, show (8 * i + k) % 8 = k by omega] at hstep
        have hdiv : L.getD i 0 / 2 ^ (8 * (k + 1)) = L.getD i 0 / 2 ^ (8 * k) / 256 := by
          rw [Nat.div_div_eq_div_mul, show 8 * (k + 1) = 8 * k + 8 by omega, Nat.pow_add]
        generalize L.getD i 0 / 2 ^ (8 * k) = x at *
        (refine CW.seq ?_; refine CW.region ?_; apply LW.v0; rfl; rfl; apply ValP.lssT; rfl; rfl; omega; apply LW.nil; refine thenN ?_; refine CW.seq ?_; apply CW.condT; rfl; (with_reducible rfl); refine CW.skip ?_; refine thenN ?_; refine CW.seq ?_; refine CW.block ?_; refine CW.seq ?_; refine CW.region ?_; apply LW.v0; rfl; rfl; apply ValP.move; rfl; apply LW.v0; rfl; rfl; apply ValP.assign; rfl; apply LW.nil; refine thenN ?_; refine CW.seq ?_; refine CW.region ?_; apply LW.v0; rfl; rfl; apply ValP.move; rfl; apply LW.v0; rfl; rfl; apply ValP.mulZK; rfl; rfl; decide; omega; apply LW.v0; rfl; rfl; apply ValP.move; rfl; apply LW.v0; rfl; rfl; apply ValP.addZ; rfl; rfl; omega; apply LW.v0; rfl; rfl; apply ValP.move; rfl; apply LW.v0; rfl; rfl; apply ValP.remNL; rfl; rfl; decide; omega; apply LW.v0; rfl; rfl; apply ValP.convB; rfl; apply LW.v0; rfl; rfl; apply ValP.indexAddrA; rfl; rfl; rfl; omega; apply LW.store; rfl; rfl; apply SetAt.head; apply wr_uca; omega; exact Nat.mod_lt _ (by decide); apply LW.nil; refine thenN ?_; refine CW.region ?_; apply LW.v0; rfl; rfl; apply ValP.move; rfl; apply LW.v0; rfl; rfl; apply ValP.quoNL; rfl; rfl; decide; omega; omega; apply LW.v0; rfl; rfl; apply ValP.assign; rfl; apply LW.nil; refine blkN ?_; refine thenN ?_; refine CW.region ?_; apply LW.v0; rfl; rfl; apply ValP.addZL; rfl; rfl; decide; omega; apply LW.v0; rfl; rfl; apply ValP.move; rfl; apply LW.nil)
        refine thenX ⟨rfl, k + 1, hk8, by omega, ?_, ?_⟩
        · rw [hdiv]
          exact ⟨rfl, rfl, rfl, rfl, rfl, rfl, rfl, trivial⟩
        · rw [← Nat.add_assoc, hstep, Nat.mod_mod]
          exact List.Sublist.refl _
      · obtain rfl : k = 8 := by omega
        (refine CW.seq ?_; refine CW.region ?_; apply LW.v0; rfl; rfl; apply ValP.lssF; rfl; rfl; omega; apply LW.nil; refine thenN ?_; refine CW.seq ?_; apply CW.condF; rfl; (with_reducible rfl); refine CW.exit ?_; refine thenE ?_; refine thenE ?_; refine blkE rfl ?_; refine blkN ?_; refine thenN ?_; refine CW.region ?_; apply LW.v0; rfl; rfl; apply ValP.addZL; rfl; rfl; decide; omega; apply LW.v0; rfl; rfl; apply ValP.move; rfl; apply LW.nil)
        refine thenX ⟨rfl, i + 1, hi4, by omega, ⟨rfl, rfl, rfl, rfl, trivial⟩, ?_⟩
        rw [show 8 * (i + 1) = 8 * i + 8 by omega]
        exact List.Sublist.refl _
    · obtain rfl : i = 4 := by omega
      have hil := idF_len L (8 * 4)
      have hz : (List.replicate 32 (0 : UInt8)).length = 32 := rfl
      (refine CW.seq ?_; refine CW.region ?_; apply LW.v0; rfl; rfl; apply ValP.lssF; rfl; rfl; omega; apply LW.nil; refine thenN ?_; refine CW.seq ?_; apply CW.condF; rfl; (with_reducible rfl); refine CW.exit ?_; refine thenE ?_; refine thenE ?_; refine blkE rfl ?_; refine thenN ?_; refine CW.seq ?_; refine CW.region ?_; apply LW.load; rfl; rfl; apply Known.at; apply FsAt.head; apply rd_ucaW; assumption; apply LW.store; rfl; rfl; apply SetAt.tail; apply SetAt.tail; apply SetAt.head; apply wr_ucaW; assumption; assumption; apply LW.nil; refine thenN ?_; refine CW.ret ?_)
      (apply finR; exact .inl rfl; rfl; rfl; rfl; apply ResL.cons; apply Res.cell; rfl; apply Known.at; apply FsAt.tail; apply FsAt.tail; apply FsAt.head; apply rd_ucaW; assumption; exact ResL.nil)
      rfl
end Go.Proofs.YtficnjnnhcadaaaDoor

/-
  The sponge: digests, and padded bytes.
  Conditions: none.
-/
namespace Go.Proofs.YtficnjnnhcadaaaDoor
open Go Go.RowKit SL
set_option maxRecDepth 8000
set_option maxHeartbeats 4000000
set_option linter.unusedSimpArgs false
set_option linter.unusedVariables false
attribute [local irreducible] SL.CW SL.LW SL.DW Calls SL.Ret SL.RetG SL.beginQ SL.roundQ SL.rangeQ SL.inQ SL.RW SL.AnyW SL.thenQ SL.thenC SL.thenW SL.blkQ SL.finQ SL.ValP SL.NewP SL.SetP SL.CallP SL.Rd SL.Wr SL.Known
theorem pad_at {w : World} {g : Nat} {P : List UInt8} {E : TypeId} {fr : Nat × Nat} (h : w.heap[g]? = some (.cells (uca P) E fr)) (hl : P.length ≤ 100000) : RowAt w 1 (.slice (some ⟨g, 0, none⟩) P.length P.length) P.length (ucs P) := by
  have := own_row (off := 0) (n := P.length) (c := P.length) h (by omega) (Nat.le_refl _) (by simp only [maxLen]; omega)
  rwa [List.drop_zero, List.take_length] at this
structure SX where
  k : Nat
  q : List UInt8
attribute [local irreducible] padB sumB
theorem SpongeSums_walk (v0 : Value) (l0 : List (Value × List UInt8)) (w : World) (hr0 : RowAt w 1 v0 l0.length (vcs l0)) (hrr0 : ∀ x ∈ l0, RowAt w 1 x.1 x.2.length (ucs x.2)) (hL : TurnAt w ∧ NumAt w) :
    Calls Tryd.prog 3 #[v0] w (Ret w (.bool true)) := by
  obtain ⟨p0, c0, rfl, hc0, hm0⟩ := hr0.form
  simp only [maxLen] at hm0
  have hWk : ∀ w' {fs}, St w [] fs w' → Calls Tryd.prog 7 #[] w' (Ret w' (.bool true)) := fun w' fs hst => wakes_calls w' (hL.1.st hst) (hL.2.st hst)
  refine enter (args := [_]) _ [] [] Tryd.func3 rfl Tryd.ntmps3 rfl (by simp) .nil ?_
  (refine CW.seq ?_; refine CW.region ?_; apply LW.v0; rfl; rfl; apply ValP.assign; rfl; apply LW.nil; refine thenN ?_; refine CW.seq ?_; refine CW.seq ?_; refine CW.region ?_; apply LW.callE; rfl; rfl; infer_instance; exact ArgsOk.nil; intro w _; exact hWk w (by assumption); apply LW.v0; rfl; rfl; apply ValP.notT; rfl; (with_reducible rfl); apply LW.nil; refine thenN ?_; apply CW.condF; rfl; (with_reducible rfl); refine CW.skip ?_; refine thenN ?_; refine CW.seq ?_; refine CW.seq ?_; refine CW.region ?_; apply LW.v0; rfl; rfl; apply ValP.move; rfl; apply LW.v0; rfl; rfl; apply ValP.lenR; rfl; infer_instance; rfl; apply LW.v0; rfl; rfl; apply ValP.move; rfl; apply LW.nil; refine thenN ?_; refine CW.block ?_)
  refine CW.loop (fun m : Nat => ([(12, .int .i64 (m : Int)), (11, .int .i64 (l0.length : Int)), (10, .slice p0 l0.length c0)], []))
    (fun m => m ≤ l0.length ∧ m ≤ 6) (fun m => l0.length - m) 0 ⟨Nat.zero_le _, Nat.zero_le _⟩ ⟨rfl, rfl, rfl, trivial⟩ (List.Sublist.refl _) ?_
  rintro m ⟨hml, hm6⟩
  dsimp only
  rcases Nat.lt_or_ge m l0.length with hlt | hge
  · obtain ⟨b, off, c', cs, E, fr, heq, hb, hx⟩ := hr0.pos (by omega)
    cases heq
    have hrd : Rd Tryd.prog 24 (.cells cs E fr) (off + m * 1) l0[m].1 := Rd.elem1 (g := fun x : Value × List UInt8 => [x.1]) (l := l0) (a := l0[m]) hx (fun _ _ => rfl) (List.getElem?_eq_getElem hlt) rfl
    have hrx := hrr0 l0[m] (List.getElem_mem hlt)
    generalize l0[m] = xx at hrd hrx
    obtain ⟨vx, lx⟩ := xx
    dsimp only at hrd hrx
    rcases Nat.lt_or_ge m 6 with h6 | h6
    · have hF : ∀ w' {fs}, St w [] fs w' → Calls Tryd.prog 8 #[vx] w' (RetG w' [] (RowR (fewB lx))) := fun w' fs hst => few_calls lx vx w' (hrx.st hst)
      have hA8 := fewB_len lx
      generalize fewB lx = A at *
      obtain ⟨P, hPe⟩ : ∃ P, P = padB A := ⟨_, rfl⟩
      have hlP : P.length ≤ 100000 := by rw [hPe, padB_len, padN]; omega
      have hsl : (sumB A).length = 32 := by unfold sumB; exact idF_len _ _
      (refine CW.seq ?_; refine CW.region ?_; apply LW.v0; rfl; rfl; apply ValP.lssT; rfl; rfl; omega; apply LW.nil; refine thenN ?_; refine CW.seq ?_; apply CW.condT; rfl; (with_reducible rfl); refine CW.skip ?_; refine thenN ?_; refine CW.seq ?_; refine CW.block ?_; refine CW.seq ?_; refine CW.region ?_; apply LW.v0; rfl; rfl; apply ValP.move; rfl; apply LW.v0; rfl; rfl; apply ValP.indexAddrS; rfl; rfl; rfl; omega; apply LW.load; rfl; rfl; exact Known.ext (by assumption) (by simp); assumption; apply LW.v0; rfl; rfl; apply ValP.assign; rfl; apply LW.v0; rfl; rfl; apply ValP.assign; rfl; apply LW.nil; refine thenN ?_; refine CW.seq ?_; refine CW.seq ?_; refine CW.region ?_; apply LW.v0; rfl; rfl; apply ValP.move; rfl; apply LW.v0; rfl; rfl; apply ValP.eqF; rfl; rfl; omega; apply LW.nil; refine thenN ?_; apply CW.condF; rfl; (with_reducible rfl); refine CW.skip ?_; refine thenN ?_; refine CW.seq ?_; refine CW.region ?_; apply LW.v0; rfl; rfl; apply ValP.move; rfl)
      ((refine LW.callR rfl rfl inferInstance (by (repeat (first | exact ArgsOk.nil | (apply ArgsOk.cons; rfl)))) (fun w hst => hF w hst) ?_))
      intro va ga hrowA
      replace hrowA : IsRow 5 1 va A.length (ucs A) ga := hrowA
      have hSA : ∀ w' {fs}, St w [] fs w' → RowAt w' 1 va A.length (ucs A) → Calls Tryd.prog 10 #[va] w' (Ret w' (.agg (uca (sumB A)))) := fun w' fs hst hr => Sum_calls A va w' hr (by omega) (hL.1.st hst) (hL.2.st hst)
      (apply LW.v0; rfl; rfl; apply ValP.assign; rfl; apply LW.nil; refine thenN ?_; refine CW.seq ?_; refine CW.region ?_; apply LW.v0; rfl; rfl; apply ValP.move; rfl)
      refine LW.callR rfl rfl inferInstance (by (apply ArgsOk.cons; rfl; exact ArgsOk.nil)) (fun w hst => Pad_calls A va w (hrowA.atSeg (by (exact AtSeg.head)) hst) (by omega)) ?_
      rintro vp1 gp1 ⟨g, rfl, rfl⟩
      rw [← hPe]
      simp only [List.cons_append, List.nil_append]
      (apply LW.v0; rfl; rfl; apply ValP.assign; rfl; apply LW.nil; refine thenN ?_; refine CW.seq ?_; refine CW.seq ?_; refine CW.region ?_; apply LW.v0; rfl; rfl; apply ValP.move; rfl; apply LW.callE; rfl; rfl; infer_instance; apply ArgsOk.cons; rfl; exact ArgsOk.nil; intro w _; rename_i hst; (exact hSA w hst (hrowA.atSeg (by (repeat (first | exact AtSeg.head | apply AtSeg.cons | apply AtSeg.app))) hst)); apply LW.v0; rfl; rfl; apply ValP.move; rfl)
      ((refine LW.callR rfl rfl inferInstance (by (repeat (first | exact ArgsOk.nil | (apply ArgsOk.cons; rfl)))) (fun w hst => hF w hst) ?_))
      intro vb gb hrowB
      replace hrowB : IsRow 5 1 vb A.length (ucs A) gb := hrowB
      have hRS : ∀ w' {fs}, St w [] fs w' → RowAt w' 1 vb A.length (ucs A) → Calls Tryd.prog 11 #[vb] w' (Ret w' (.agg (uca (sumB A)))) := fun w' fs hst hr => rSum_calls A vb w' hr (by omega)
      (apply LW.callE; rfl; rfl; infer_instance; apply ArgsOk.cons; rfl; exact ArgsOk.nil; intro w _; rename_i hst; (exact hRS w hst (hrowB.atSeg (by (repeat (first | exact AtSeg.head | apply AtSeg.cons | apply AtSeg.app))) hst)); apply LW.v0; rfl; rfl; apply ValP.neUF; rfl; rfl; rfl; assumption; apply LW.v0; rfl; rfl; apply ValP.move; rfl; apply LW.guardT'; rfl; rfl; (with_reducible rfl); apply LW.v0; rfl; rfl; apply ValP.move; rfl; apply LW.guardT'; rfl; rfl; (with_reducible rfl); apply LW.v0; rfl; rfl; apply ValP.move; rfl; apply LW.guardT'; rfl; rfl; (with_reducible rfl))
      ((refine LW.callR rfl rfl inferInstance (by (repeat (first | exact ArgsOk.nil | (apply ArgsOk.cons; rfl)))) (fun w hst => hF w hst) ?_))
      intro vc gc hrowC
      replace hrowC : IsRow 5 1 vc A.length (ucs A) gc := hrowC
      (apply LW.guardT'; rfl; rfl; (with_reducible rfl))
      refine LW.callR rfl rfl inferInstance (by (apply ArgsOk.cons; rfl; exact ArgsOk.nil)) (fun w hst => rPad_calls A vc w (hrowC.atSeg (by (exact AtSeg.head)) hst) (by omega)) ?_
      intro vd gd hrowD
      replace hrowD : IsRow 5 1 vd (padB A).length (ucs (padB A)) gd := hrowD
      rw [← hPe] at hrowD
      have hs1 : ∀ w, RowAt w 1 (.slice (some ⟨g, 0, none⟩) P.length P.length) P.length (ucs P) → RowAt w 1 vd P.length (ucs P) → Calls Tryd.prog 12 #[.slice (some ⟨g, 0, none⟩) P.length P.length, vd] w (Ret w (.bool true)) := fun w h1 h2 => by
        have h := same_calls P P _ _ w h1 h2
        rwa [decide_eq_true rfl] at h
      (apply LW.guardT'; rfl; rfl; (with_reducible rfl); apply LW.callE; rfl; rfl; infer_instance; apply ArgsOk.cons; rfl; apply ArgsOk.cons; rfl; exact ArgsOk.nil; intro w _; rename_i hst; (exact hs1 w (pad_at (hst.own (g, .cells (uca P) 5 (0, 0)) (by simp)).2 hlP) (hrowD.atSeg (by (repeat (first | exact AtSeg.head | apply AtSeg.cons | apply AtSeg.app))) hst)); apply LW.guardT'; rfl; rfl; (with_reducible rfl); apply LW.v0; rfl; rfl; apply ValP.notT; rfl; (with_reducible rfl); apply LW.v0; rfl; rfl; apply ValP.pickF'; rfl; (with_reducible rfl); rfl; apply LW.nil; refine thenN ?_; apply CW.condF; rfl; (with_reducible rfl); refine CW.skip ?_; refine thenN ?_; refine CW.seq ?_; refine CW.seq ?_; refine CW.region ?_; apply LW.v0; rfl; rfl; apply ValP.move; rfl; apply LW.v0; rfl; rfl; apply ValP.lenR; rfl; infer_instance; rfl; apply LW.v0; rfl; rfl; apply ValP.move; rfl; apply LW.nil; refine thenN ?_; refine CW.block ?_)
      refine CW.loop (fun x : SX => ([(39, .int .i64 (x.k : Int)), (38, .int .i64 (P.length : Int)), (6, .slice (some ⟨g, 0, none⟩) P.length P.length), (5, va), (4, vx), (12, .int .i64 (m : Int)), (11, .int .i64 (l0.length : Int)), (10, .slice (some ⟨b, off, none⟩) l0.length c0)], (g, .cells (uca x.q) 5 (0, 0)) :: (ga ++ [])))
        (fun x => x.k ≤ P.length ∧ x.q.length = P.length) (fun x => P.length - x.k) ⟨0, P⟩ ⟨Nat.zero_le _, rfl⟩ ⟨rfl, rfl, rfl, rfl, rfl, rfl, rfl, rfl, trivial⟩ (by (apply List.sublist_append_of_sublist_right; apply List.sublist_append_of_sublist_right; apply List.sublist_append_of_sublist_right; exact List.Sublist.refl _)) ?_
      rintro ⟨k, q⟩ ⟨hk, hq⟩
      dsimp only at hk hq ⊢
      rcases Nat.lt_or_ge k P.length with hkl | hkl
      · have hu : (q.getD k 0).toNat < 256 := UInt8.toNat_lt _
        (refine CW.seq ?_; refine CW.region ?_; apply LW.v0; rfl; rfl; apply ValP.lssT; rfl; rfl; omega; apply LW.nil; refine thenN ?_; refine CW.seq ?_; apply CW.condT; rfl; (with_reducible rfl); refine CW.skip ?_; refine thenN ?_; refine CW.seq ?_; refine CW.block ?_; refine CW.seq ?_; refine CW.region ?_; apply LW.v0; rfl; rfl; apply ValP.move; rfl; apply LW.v0; rfl; rfl; apply ValP.assign; rfl; apply LW.nil; refine thenN ?_; refine CW.region ?_; apply LW.v0; rfl; rfl; apply ValP.move; rfl; apply LW.v0; rfl; rfl; apply ValP.move; rfl; apply LW.v0; rfl; rfl; apply ValP.indexAddrS; rfl; rfl; rfl; omega; apply LW.load; rfl; rfl; apply Known.at; apply FsAt.head; apply rd_uca; omega; apply LW.v0; rfl; rfl; apply ValP.addBL; rfl; rfl; decide; apply LW.v0; rfl; rfl; apply ValP.indexAddrS; rfl; rfl; rfl; omega; apply LW.store; rfl; rfl; apply SetAt.head; apply wr_uca; omega; exact Nat.mod_lt _ (by decide); apply LW.nil; refine blkN ?_; refine thenN ?_; refine CW.region ?_; apply LW.v0; rfl; rfl; apply ValP.addZL; rfl; rfl; decide; omega; apply LW.v0; rfl; rfl; apply ValP.move; rfl; apply LW.nil)
        exact thenX ⟨rfl, ⟨k + 1, _⟩, ⟨hkl, by simpa using hq⟩, by show P.length - (k + 1) < P.length - k; omega, ⟨rfl, rfl, rfl, rfl, rfl, rfl, rfl, rfl, trivial⟩, List.Sublist.refl _⟩
      · obtain rfl : k = P.length := by omega
        (refine CW.seq ?_; refine CW.region ?_; apply LW.v0; rfl; rfl; apply ValP.lssF; rfl; rfl; omega; apply LW.nil; refine thenN ?_; refine CW.seq ?_; apply CW.condF; rfl; (with_reducible rfl); refine CW.exit ?_; refine thenE ?_; refine thenE ?_; refine blkE rfl ?_; refine thenN ?_; refine CW.seq ?_; refine CW.region ?_; apply LW.v0; rfl; rfl; apply ValP.move; rfl; apply LW.v0; rfl; rfl; apply ValP.move; rfl)
        ((refine LW.callR rfl rfl inferInstance (by (repeat (first | exact ArgsOk.nil | (apply ArgsOk.cons; rfl)))) (fun w hst => hF w hst) ?_))
        intro ve ge hrowE
        replace hrowE : IsRow 5 1 ve A.length (ucs A) ge := hrowE
        have hs2 : ∀ w, RowAt w 1 va A.length (ucs A) → RowAt w 1 ve A.length (ucs A) → Calls Tryd.prog 12 #[va, ve] w (Ret w (.bool true)) := fun w h1 h2 => by
          have h := same_calls A A _ _ w h1 h2
          rwa [decide_eq_true rfl] at h
        (apply LW.callE; rfl; rfl; infer_instance; apply ArgsOk.cons; rfl; apply ArgsOk.cons; rfl; exact ArgsOk.nil; intro w _; rename_i hst; (exact hs2 w (hrowA.atSeg (by (repeat (first | exact AtSeg.head | apply AtSeg.cons | apply AtSeg.app))) hst) (hrowE.atSeg (by (repeat (first | exact AtSeg.head | apply AtSeg.cons | apply AtSeg.app))) hst)); apply LW.v0; rfl; rfl; apply ValP.notT; rfl; (with_reducible rfl); apply LW.nil; refine thenN ?_; apply CW.condF; rfl; (with_reducible rfl); refine CW.skip ?_; refine blkN ?_; refine thenN ?_; refine CW.region ?_; apply LW.v0; rfl; rfl; apply ValP.addZL; rfl; rfl; decide; omega; apply LW.v0; rfl; rfl; apply ValP.move; rfl; apply LW.nil)
        apply thenX
        exact ⟨rfl, m + 1, ⟨hlt, h6⟩, by omega, ⟨rfl, rfl, rfl, trivial⟩, List.nil_sublist _⟩
    · obtain rfl : m = 6 := by omega
      (refine CW.seq ?_; refine CW.region ?_; apply LW.v0; rfl; rfl; apply ValP.lssT; rfl; rfl; omega; apply LW.nil; refine thenN ?_; refine CW.seq ?_; apply CW.condT; rfl; (with_reducible rfl); refine CW.skip ?_; refine thenN ?_; refine CW.seq ?_; refine CW.block ?_; refine CW.seq ?_; refine CW.region ?_; apply LW.v0; rfl; rfl; apply ValP.move; rfl; apply LW.v0; rfl; rfl; apply ValP.indexAddrSL; rfl; rfl; decide; omega; apply LW.load; rfl; rfl; exact Known.ext (by assumption) (by simp); assumption; apply LW.v0; rfl; rfl; apply ValP.assign; rfl; apply LW.v0; rfl; rfl; apply ValP.assign; rfl; apply LW.nil; refine thenN ?_; refine CW.seq ?_; refine CW.seq ?_; refine CW.region ?_; apply LW.v0; rfl; rfl; apply ValP.move; rfl; apply LW.v0; rfl; rfl; apply ValP.eqT; rfl; rfl; omega; apply LW.nil; refine thenN ?_; apply CW.condT; rfl; (with_reducible rfl); refine CW.exit ?_; refine thenE ?_; refine blkO rfl ?_; refine thenE ?_; refine thenE ?_; refine blkE rfl ?_; refine thenN ?_; refine CW.seq ?_; refine CW.region ?_; apply LW.v0; rfl; rfl; apply ValP.assign; rfl; apply LW.nil; refine thenN ?_; refine CW.ret ?_)
      (apply finR; exact .inl rfl; rfl; rfl; rfl; apply ResL.cons; exact Res.tmp rfl; exact ResL.nil)
      rfl
  · (refine CW.seq ?_; refine CW.region ?_; apply LW.v0; rfl; rfl; apply ValP.lssF; rfl; rfl; omega; apply LW.nil; refine thenN ?_; refine CW.seq ?_; apply CW.condF; rfl; (with_reducible rfl); refine CW.exit ?_; refine thenE ?_; refine thenE ?_; refine blkE rfl ?_; refine thenN ?_; refine CW.seq ?_; refine CW.region ?_; apply LW.v0; rfl; rfl; apply ValP.assign; rfl; apply LW.nil; refine thenN ?_; refine CW.ret ?_)
    (apply finR; exact .inl rfl; rfl; rfl; rfl; apply ResL.cons; exact Res.tmp rfl; exact ResL.nil)
    rfl
end Go.Proofs.YtficnjnnhcadaaaDoor

/-
  The sponge: what is laid, as the contracts ask for it.
  Conditions: none.
-/
namespace Go.Proofs.YtficnjnnhcadaaaDoor
open Go Go.RowKit SL
theorem var_heap {P : Program} {w : World} {n : String} {g : Nat} {cs : Array Value} (hg : P.globalNamed n = some g) (h : w.var? P n = some cs) : ∃ E fr, w.heap[g]? = some (.cells cs E fr) := by
  unfold World.var? at h
  rw [hg] at h
  simp only [Option.bind_some] at h
  split at h
  · rename_i cs' E fr hh
    cases h
    exact ⟨E, fr, hh⟩
  · cases h
theorem tab_at {P : Program} {W : World} {l : List (String × DataW Unit)} {n : String} {g T E m : Nat} {k : IntKind} {zs : List Int} (h : laidMet P l W) (hm : (n, Lib.tabData k zs) ∈ l) (hg : P.globalNamed n = some g) (hT : (P.globals[g]?).map (·.type) = some T) (hu : P.underlying T = some (.array m E)) (he : P.underlying E = some (.int k)) (hce : P.cellsOf E = 1) (hct : P.cellsOf T = m) :
    ∃ E' fr, W.heap[g]? = some (.cells (zs.map fun z => Value.int k z).toArray E' fr) := by
  obtain ⟨g', t', cs, fuel, p, h1, h2, h3, h4⟩ := Lib.laidMet.reads h hm
  obtain rfl : g = g' := Option.some.inj (hg.symm.trans h1)
  obtain rfl : T = t' := Option.some.inj (hT.symm.trans h2)
  have hc := Lib.cells_of_tab hu he hce hct h4
  obtain ⟨E', fr, hh⟩ := var_heap hg h3
  refine ⟨E', fr, ?_⟩
  rw [hh, ← hc]
theorem laid_at {l : List (String × DataW Unit)} {W : World} (h : laidMetH Tryd.prog l W) (h0 : (l.all fun x => x.2.handleName?.isNone) = true) (h1 : ("sheafer/sponge.turns", Lib.tabData .i64 (turnL.map fun (n : Nat) => (n : Int))) ∈ l) (h2 : ("sheafer/sponge.numbers", Lib.tabData .u64 (numL.map fun (n : Nat) => (n : Int))) ∈ l) : TurnAt W ∧ NumAt W := by
  rw [MakeChecks.laidMetH_plain _ _ _ h0] at h
  exact ⟨tab_at (T := 74) (E := 3) (m := 25) h h1 (by kernel_rfl) (by kernel_rfl) (by kernel_rfl) (by kernel_rfl) (by kernel_rfl) (by kernel_rfl), tab_at (T := 54) (E := 31) (m := 24) h h2 (by kernel_rfl) (by kernel_rfl) (by kernel_rfl) (by kernel_rfl) (by kernel_rfl) (by kernel_rfl)⟩
theorem laid_texts {W : World} (h : laidMetH Tryd.prog Rows.spongeTextsRow.laid W) : TurnAt W ∧ NumAt W := laid_at h (by kernel_rfl) (List.Mem.head _) (List.Mem.tail _ (List.Mem.head _))
theorem laid_pads {W : World} (h : laidMetH Tryd.prog Rows.spongePadsRow.laid W) : TurnAt W ∧ NumAt W := laid_at h (by kernel_rfl) (List.Mem.head _) (List.Mem.tail _ (List.Mem.head _))
theorem laid_sums {W : World} (h : laidMetH Tryd.prog Rows.spongeSumsRow.laid W) : TurnAt W ∧ NumAt W := laid_at h (by kernel_rfl) (List.Mem.head _) (List.Mem.tail _ (List.Mem.head _))
theorem laid_soaks {W : World} (h : laidMetH Tryd.prog Rows.spongeSoaksRow.laid W) : TurnAt W ∧ NumAt W := laid_at h (by kernel_rfl) (List.Mem.head _) (List.Mem.tail _ (List.Mem.head _))
end Go.Proofs.YtficnjnnhcadaaaDoor
