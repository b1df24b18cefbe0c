/-
  Texts that were built apart, put behind one another (3 of 3): K9 KA Smf KB KD KE KG Smg KH KL.
  Conditions: none.
-/
import Derived.Test.YtficnjnnhcadaaaDoorP2
import Derived.Test.YtficnjnnhcadaaaDoorRows
import Derived.LaidMore
import Derived.Lib.LaidTab
import Derived.Lib.LaidU8
/-
  Contracts of the sponge: digests out of digits.
  Conditions: none.
-/
namespace Go.Proofs.YtficnjnnhcadaaaDoor
open Go Go.RowKit SL
set_option maxRecDepth 8000
set_option maxHeartbeats 4000000
set_option linter.unusedSimpArgs false
set_option linter.unusedVariables false
attribute [local irreducible] SL.CW SL.LW SL.DW Calls SL.Ret SL.RetG SL.beginQ SL.roundQ SL.rangeQ SL.inQ SL.RW SL.AnyW SL.thenQ SL.thenC SL.thenW SL.blkQ SL.finQ SL.ValP SL.NewP SL.SetP SL.CallP SL.Rd SL.Wr SL.Known
/-! ### What digits say -/
/-- the digest of the digits ahead: none, if one of them is no digit. -/
def parF (s : List UInt8) : Nat → List UInt8
  | 0 => List.replicate 32 0
  | k + 1 => (parF s k).set (k / 2) (UInt8.ofNat ((16 * ((parF s k).getD (k / 2) 0).toNat % 256 + (hexi (s.getD k 0).toNat).toNat % 256) % 256))
def digB (s : List UInt8) : Bool := s.all fun u => (hexu u).isSome
def parB (s : List UInt8) : Option (List UInt8) := if s.length = 64 ∧ digB s = true then some (parF s 64) else none
theorem parF_len (s : List UInt8) (k : Nat) : (parF s k).length = 32 := by
  induction k with
  | zero => simp [parF]
  | succ k ih => simp [parF, ih]
theorem hexi_some {u : UInt8} {d : Nat} (h : hexu u = some d) : hexi u.toNat = (d : Int) := by
  unfold hexi
  rw [UInt8.ofNat_toNat, h]
theorem hexi_none {u : UInt8} (h : hexu u = none) : hexi u.toNat = -1 := by
  unfold hexi
  rw [UInt8.ofNat_toNat, h]
theorem parF_succ (s : List UInt8) (k : Nat) : parF s (k + 1) = (parF s k).set (k / 2) (UInt8.ofNat ((16 * ((parF s k).getD (k / 2) 0).toNat % 256 + (hexi (s.getD k 0).toNat).toNat % 256) % 256)) := rfl
theorem parF_zero (s : List UInt8) : parF s 0 = List.replicate 32 0 := rfl
def parV (o : Option (List UInt8)) : Value := match o with | some id => .tuple #[.agg (uca id), .int .i64 0] | none => .tuple #[.agg (uca (List.replicate 32 0)), .int .i64 130]
def rparV (o : Option (List UInt8)) : Value := match o with | some id => .tuple #[.agg (uca id), .bool true] | none => .tuple #[.agg (uca (List.replicate 32 0)), .bool false]
theorem parB_len {s : List UInt8} (h : s.length ≠ 64) : parB s = none := by unfold parB; rw [if_neg (fun h' => h h'.1)]
theorem parB_bad {s : List UInt8} {k : Nat} (hk : k < s.length) (h : hexu (s.getD k 0) = none) : parB s = none := by
  unfold parB
  rw [if_neg]
  rintro ⟨_, h2⟩
  rw [List.getD_eq_getElem?_getD, List.getElem?_eq_getElem hk] at h
  have := (List.all_eq_true.1 h2) s[k] (List.getElem_mem hk)
  simp at h
  simp [h] at this
theorem parB_good {s : List UInt8} (h : s.length = 64) (h2 : ∀ k, k < 64 → hexu (s.getD k 0) ≠ none) : parB s = some (parF s 64) := by
  unfold parB
  rw [if_pos]
  refine ⟨h, List.all_eq_true.2 fun u hu => ?_⟩
  obtain ⟨k, hk, rfl⟩ := List.getElem_of_mem hu
  have := h2 k (by omega)
  rw [List.getD_eq_getElem?_getD, List.getElem?_eq_getElem hk] at this
  simpa [Option.isSome_iff_ne_none] using this
attribute [local irreducible] parF
theorem Parse_calls (s : List UInt8) (w : World) : Calls Tryd.prog 23 #[sv s] w (Ret w (parV (parB s))) := by
  have hz : (List.replicate 32 (0 : UInt8)).length = 32 := rfl
  by_cases hl : s.length = 64
  · refine enter (args := [_]) _ [] [] Tryd.func23 rfl Tryd.ntmps23 rfl (by simp) .nil ?_
    (refine CW.seq ?_; refine CW.region ?_; apply LW.allocA; rfl; intro _; apply LW.v0; rfl; rfl; apply ValP.assign; rfl; apply LW.nil; refine thenN ?_; refine CW.seq ?_; refine CW.seq ?_; refine CW.region ?_; apply LW.v0; rfl; rfl; apply ValP.move; rfl; apply LW.v0; rfl; rfl; apply ValP.lenStr; rfl; infer_instance; rfl; apply LW.v0; rfl; rfl; apply ValP.neF; rfl; rfl; omega; apply LW.nil; refine thenN ?_; apply CW.condF; rfl; (with_reducible rfl); refine CW.skip ?_; refine thenN ?_; refine CW.seq ?_; refine CW.seq ?_; refine CW.region ?_; apply LW.v0; rfl; rfl; apply ValP.move; rfl)
    refine LW.toBytes rfl inferInstance inferInstance inferInstance rfl fun g c cs fr hc hcs => ?_
    (apply LW.v0; rfl; rfl; apply ValP.lenR; rfl; infer_instance; rfl; apply LW.v0; rfl; rfl; apply ValP.move; rfl; apply LW.nil; refine thenN ?_; refine CW.block ?_)
    rename_i bi
    refine CW.loop (fun k : Nat => ([(14, .int .i64 (k : Int)), (13, .int .i64 (s.length : Int)), (12, .slice (some ⟨g, 0, none⟩) s.length c), (2, .pointer (some ⟨bi, 0, none⟩))],
      [(g, .cells cs 5 fr), (bi, .cells (uca (parF s k)) 27 (0, 0))]))
      (fun k => k ≤ 64 ∧ ∀ i, i < k → hexu (s.getD i 0) ≠ none) (fun k => 64 - k) 0 ⟨Nat.zero_le _, fun i h => by omega⟩ ⟨rfl, rfl, rfl, rfl, trivial⟩ (by dsimp only; rw [parF_zero]; exact List.Sublist.refl _) ?_
    rintro k ⟨hk, hall⟩
    dsimp only at hk hall ⊢
    have hlp := parF_len s k
    rcases Nat.lt_or_ge k 64 with h64 | h64
    · have hrd : Rd Tryd.prog 5 (.cells cs 5 fr) (0 + k * 1) (.int .u8 ((s.getD k 0).toNat : Int)) := Rd.one (by rw [Nat.zero_add, Nat.mul_one]; exact hcs k (by omega))
      have hIx0 := IndexByte_calls (s.getD k 0).toNat (UInt8.toNat_lt _)
      rcases hx : hexu (s.getD k 0) with _ | d
      · rw [hexi_none hx] at hIx0
        have hIx : ∀ w, Calls Tryd.prog 33 #[.string ⟨#[48, 49, 50, 51, 52, 53, 54, 55, 56, 57, 97, 98, 99, 100, 101, 102]⟩, .int .u8 ((s.getD k 0).toNat : Int)] w (Ret w (.int .i64 (-1))) := hIx0
        rw [parB_bad (by omega) hx]
        (refine CW.seq ?_; refine CW.region ?_; apply LW.v0; rfl; rfl; apply ValP.lssT; rfl; rfl; omega; apply LW.nil; refine thenN ?_; refine CW.seq ?_; apply CW.condT; rfl; (with_reducible rfl); refine CW.skip ?_; refine thenN ?_; refine CW.seq ?_; refine CW.block ?_; refine CW.seq ?_; refine CW.region ?_; apply LW.v0; rfl; rfl; apply ValP.move; rfl; apply LW.v0; rfl; rfl; apply ValP.indexAddrS; rfl; rfl; rfl; omega; apply LW.load; rfl; rfl; apply Known.at; apply FsAt.head; assumption; apply LW.v0; rfl; rfl; apply ValP.assign; rfl; apply LW.v0; rfl; rfl; apply ValP.assign; rfl; apply LW.nil; refine thenN ?_; refine CW.seq ?_; refine CW.region ?_; apply LW.v0; rfl; rfl; apply ValP.move; rfl; apply LW.callE; rfl; rfl; infer_instance; apply ArgsOk.cons; rfl; apply ArgsOk.cons; rfl; exact ArgsOk.nil; intro w _; exact hIx w; apply LW.v0; rfl; rfl; apply ValP.assign; rfl; apply LW.nil; refine thenN ?_; refine CW.seq ?_; refine CW.seq ?_; refine CW.region ?_; apply LW.v0; rfl; rfl; apply ValP.move; rfl; apply LW.v0; rfl; rfl; apply ValP.lssT; rfl; rfl; omega; apply LW.nil; refine thenN ?_; apply CW.condT; rfl; (with_reducible rfl); refine CW.seq ?_; refine CW.region ?_; apply LW.v0; rfl; rfl; apply ValP.buildA; exact PartsOk.nil; rfl; simp only [fillC, wc, wrCells, Value.cells, List.toList_toArray, List.setIfInBounds_toArray, List.set_cons_succ, List.set_cons_zero, Nat.reduceAdd, Nat.reduceMul, Nat.zero_add, Nat.mul_one]; rfl; apply LW.store; rfl; rfl; apply SetAt.tail; apply SetAt.head; apply Wr.whole; rw [uca_size]; assumption; rfl; rfl; apply LW.v0; rfl; rfl; apply ValP.assign; rfl; apply LW.nil; refine thenN ?_; refine CW.ret ?_; refine thenR ?_; refine blkR ?_; refine thenR ?_; refine thenR ?_; refine blkR ?_; refine thenR ?_)
        (apply finR; exact .inl rfl; rfl; rfl; rfl; apply ResL.cons; apply Res.cell; rfl; apply Known.at; apply FsAt.tail; apply FsAt.head; exact Rd.whole rfl; apply ResL.cons; exact Res.tmp rfl; exact ResL.nil)
        rfl
      · rw [hexi_some hx] at hIx0
        have hIx : ∀ w, Calls Tryd.prog 33 #[.string ⟨#[48, 49, 50, 51, 52, 53, 54, 55, 56, 57, 97, 98, 99, 100, 101, 102]⟩, .int .u8 ((s.getD k 0).toNat : Int)] w (Ret w (.int .i64 (d : Int))) := hIx0
        have hd := hexu_lt hx
        (refine CW.seq ?_; refine CW.region ?_; apply LW.v0; rfl; rfl; apply ValP.lssT; rfl; rfl; omega; apply LW.nil; refine thenN ?_; refine CW.seq ?_; apply CW.condT; rfl; (with_reducible rfl); refine CW.skip ?_; refine thenN ?_; refine CW.seq ?_; refine CW.block ?_; refine CW.seq ?_; refine CW.region ?_; apply LW.v0; rfl; rfl; apply ValP.move; rfl; apply LW.v0; rfl; rfl; apply ValP.indexAddrS; rfl; rfl; rfl; omega; apply LW.load; rfl; rfl; apply Known.at; apply FsAt.head; assumption; apply LW.v0; rfl; rfl; apply ValP.assign; rfl; apply LW.v0; rfl; rfl; apply ValP.assign; rfl; apply LW.nil; refine thenN ?_; refine CW.seq ?_; refine CW.region ?_; apply LW.v0; rfl; rfl; apply ValP.move; rfl; apply LW.callE; rfl; rfl; infer_instance; apply ArgsOk.cons; rfl; apply ArgsOk.cons; rfl; exact ArgsOk.nil; intro w _; exact hIx w; apply LW.v0; rfl; rfl; apply ValP.assign; rfl; apply LW.nil; refine thenN ?_; refine CW.seq ?_; refine CW.seq ?_; refine CW.region ?_; apply LW.v0; rfl; rfl; apply ValP.move; rfl; apply LW.v0; rfl; rfl; apply ValP.lssF; rfl; rfl; omega; apply LW.nil; refine thenN ?_; apply CW.condF; rfl; (with_reducible rfl); refine CW.skip ?_; refine thenN ?_; refine CW.region ?_; apply LW.v0; rfl; rfl; apply ValP.move; rfl; apply LW.v0; rfl; rfl; apply ValP.quoZL; rfl; rfl; decide; omega; omega; apply LW.v0; rfl; rfl; apply ValP.move; rfl; apply LW.v0; rfl; rfl; apply ValP.quoZL; rfl; rfl; decide; omega; omega; apply LW.v0; rfl; rfl; apply ValP.indexAddrA; rfl; rfl; rfl; omega; apply LW.load; rfl; rfl; apply Known.at; apply FsAt.tail; apply FsAt.head; apply rd_uca; omega; apply LW.v0; rfl; rfl; apply ValP.mulBK; rfl; rfl; decide; apply LW.v0; rfl; rfl; apply ValP.move; rfl; apply LW.v0; rfl; rfl; apply ValP.convB; rfl; apply LW.v0; rfl; rfl; apply ValP.addB; rfl; rfl; apply LW.v0; rfl; rfl; apply ValP.indexAddrA; rfl; rfl; rfl; omega; apply LW.store; rfl; rfl; apply SetAt.tail; apply SetAt.head; apply wr_uca; omega; exact Nat.mod_lt _ (by decide); apply LW.nil; refine blkN ?_; refine thenN ?_; refine CW.region ?_; apply LW.v0; rfl; rfl; apply ValP.addZL; rfl; rfl; decide; omega; apply LW.v0; rfl; rfl; apply ValP.move; rfl; apply LW.nil)
        refine thenX ⟨rfl, k + 1, ⟨h64, fun i hi => ?_⟩, by omega, ⟨rfl, rfl, rfl, rfl, trivial⟩, ?_⟩
        · rcases Nat.lt_or_ge i k with h | h
          · exact hall i h
          · obtain rfl : i = k := by omega
            rw [hx]; simp
        · rw [parF_succ, hexi_some hx, Int.toNat_natCast]
          exact List.Sublist.refl _
    · obtain rfl : k = 64 := by omega
      rw [parB_good hl hall]
      (refine CW.seq ?_; refine CW.region ?_; apply LW.v0; rfl; rfl; apply ValP.lssF; rfl; rfl; omega; apply LW.nil; refine thenN ?_; refine CW.seq ?_; apply CW.condF; rfl; (with_reducible rfl); refine CW.exit ?_; refine thenE ?_; refine thenE ?_; refine blkE rfl ?_; refine thenN ?_; refine CW.seq ?_; refine CW.region ?_; apply LW.load; rfl; rfl; apply Known.at; apply FsAt.tail; apply FsAt.head; apply rd_ucaW; assumption; apply LW.store; rfl; rfl; apply SetAt.tail; apply SetAt.head; apply wr_ucaW; assumption; assumption; apply LW.v0; rfl; rfl; apply ValP.assign; rfl; apply LW.nil; refine thenN ?_; refine CW.ret ?_)
      (apply finR; exact .inl rfl; rfl; rfl; rfl; apply ResL.cons; apply Res.cell; rfl; apply Known.at; apply FsAt.tail; apply FsAt.head; apply rd_ucaW; assumption; apply ResL.cons; exact Res.tmp rfl; exact ResL.nil)
      rfl
  · rw [parB_len hl]
    refine enter (args := [_]) _ [] [] Tryd.func23 rfl Tryd.ntmps23 rfl (by simp) .nil ?_
    (refine CW.seq ?_; refine CW.region ?_; apply LW.allocA; rfl; intro _; apply LW.v0; rfl; rfl; apply ValP.assign; rfl; apply LW.nil; refine thenN ?_; refine CW.seq ?_; refine CW.seq ?_; refine CW.region ?_; apply LW.v0; rfl; rfl; apply ValP.move; rfl; apply LW.v0; rfl; rfl; apply ValP.lenStr; rfl; infer_instance; rfl; apply LW.v0; rfl; rfl; apply ValP.neT; rfl; rfl; omega; apply LW.nil; refine thenN ?_; apply CW.condT; rfl; (with_reducible rfl); refine CW.seq ?_; refine CW.region ?_; apply LW.load; rfl; rfl; apply Known.at; apply FsAt.head; exact Rd.whole rfl; apply LW.store; rfl; rfl; apply SetAt.head; apply Wr.whole; rfl; rfl; rfl; apply LW.v0; rfl; rfl; apply ValP.assign; rfl; apply LW.nil; refine thenN ?_; refine CW.ret ?_; refine thenR ?_)
    (apply finR; exact .inl rfl; rfl; rfl; rfl; apply ResL.cons; apply Res.cell; rfl; apply Known.at; apply FsAt.head; exact Rd.whole rfl; apply ResL.cons; exact Res.tmp rfl; exact ResL.nil)
    rfl
/-! ### The document's -/
theorem Digit_calls (u : UInt8) (w : World) : Calls Tryd.prog 34 #[.int .u8 (u.toNat : Int)] w (Ret w (.int .i64 (hexi u.toNat))) := by
  have hu : u.toNat < 256 := UInt8.toNat_lt _
  by_cases h1 : 48 ≤ u.toNat ∧ u.toNat ≤ 57
  · obtain ⟨h1a, h1b⟩ := h1
    have hx : hexu u = some (u.toNat - 48) := by unfold hexu; rw [if_pos ⟨h1a, h1b⟩]
    rw [hexi_some hx]
    refine enter (args := [_]) _ [] [] Tryd.func34 rfl Tryd.ntmps34 rfl (by simp) .nil ?_
    (refine CW.seq ?_; refine CW.region ?_; apply LW.v0; rfl; rfl; apply ValP.assign; rfl; apply LW.nil; refine thenN ?_; refine CW.seq ?_; refine CW.block ?_; refine CW.seq ?_; refine CW.region ?_; apply LW.v0; rfl; rfl; apply ValP.move; rfl; apply LW.v0; rfl; rfl; apply ValP.geqT; rfl; rfl; omega; apply LW.v0; rfl; rfl; apply ValP.move; rfl; apply LW.guardT'; rfl; rfl; (with_reducible rfl); apply LW.v0; rfl; rfl; apply ValP.move; rfl; apply LW.guardT'; rfl; rfl; (with_reducible rfl); apply LW.v0; rfl; rfl; apply ValP.leqT; rfl; rfl; omega; apply LW.v0; rfl; rfl; apply ValP.pickT'; rfl; (with_reducible rfl); rfl; apply LW.v0; rfl; rfl; apply ValP.assign; rfl; apply LW.nil; refine thenN ?_; apply CW.condT; rfl; (with_reducible rfl); refine CW.seq ?_; refine CW.region ?_; apply LW.v0; rfl; rfl; apply ValP.move; rfl; apply LW.v0; rfl; rfl; apply ValP.subBL; rfl; rfl; decide; assumption; omega; apply LW.v0; rfl; rfl; apply ValP.convI; rfl; omega; omega; apply LW.v0; rfl; rfl; apply ValP.assign; rfl; apply LW.nil; refine thenN ?_; refine CW.ret ?_; refine blkR ?_; refine thenR ?_)
    (apply finR; exact .inl rfl; rfl; rfl; rfl; apply ResL.cons; exact Res.tmp rfl; exact ResL.nil)
    rfl
  · by_cases h2 : 97 ≤ u.toNat ∧ u.toNat ≤ 102
    · obtain ⟨h2a, h2b⟩ := h2
      have hx : hexu u = some (u.toNat - 87) := by unfold hexu; rw [if_neg h1, if_pos ⟨h2a, h2b⟩]
      rw [hexi_some hx, show u.toNat - 87 = u.toNat - 97 + 10 by omega]
      refine enter (args := [_]) _ [] [] Tryd.func34 rfl Tryd.ntmps34 rfl (by simp) .nil ?_
      (refine CW.seq ?_; refine CW.region ?_; apply LW.v0; rfl; rfl; apply ValP.assign; rfl; apply LW.nil; refine thenN ?_; refine CW.seq ?_; refine CW.block ?_; refine CW.seq ?_; refine CW.region ?_; apply LW.v0; rfl; rfl; apply ValP.move; rfl; apply LW.v0; rfl; rfl; apply ValP.geqT; rfl; rfl; omega; apply LW.v0; rfl; rfl; apply ValP.move; rfl; apply LW.guardT'; rfl; rfl; (with_reducible rfl); apply LW.v0; rfl; rfl; apply ValP.move; rfl; apply LW.guardT'; rfl; rfl; (with_reducible rfl); apply LW.v0; rfl; rfl; apply ValP.leqF; rfl; rfl; omega; apply LW.v0; rfl; rfl; apply ValP.pickT'; rfl; (with_reducible rfl); rfl; apply LW.v0; rfl; rfl; apply ValP.assign; rfl; apply LW.nil; refine thenN ?_; apply CW.condF; rfl; (with_reducible rfl); refine CW.seq ?_; refine CW.region ?_; apply LW.v0; rfl; rfl; apply ValP.move; rfl; apply LW.v0; rfl; rfl; apply ValP.geqT; rfl; rfl; omega; apply LW.v0; rfl; rfl; apply ValP.move; rfl; apply LW.guardT'; rfl; rfl; (with_reducible rfl); apply LW.v0; rfl; rfl; apply ValP.move; rfl; apply LW.guardT'; rfl; rfl; (with_reducible rfl); apply LW.v0; rfl; rfl; apply ValP.leqT; rfl; rfl; omega; apply LW.v0; rfl; rfl; apply ValP.pickT'; rfl; (with_reducible rfl); rfl; apply LW.v0; rfl; rfl; apply ValP.assign; rfl; apply LW.nil; refine thenN ?_; apply CW.condT; rfl; (with_reducible rfl); refine CW.seq ?_; refine CW.region ?_; apply LW.v0; rfl; rfl; apply ValP.move; rfl; apply LW.v0; rfl; rfl; apply ValP.subBL; rfl; rfl; decide; assumption; omega; apply LW.v0; rfl; rfl; apply ValP.convI; rfl; omega; omega; apply LW.v0; rfl; rfl; apply ValP.addZL; rfl; rfl; decide; omega; apply LW.v0; rfl; rfl; apply ValP.assign; rfl; apply LW.nil; refine thenN ?_; refine CW.ret ?_; refine blkR ?_; refine thenR ?_)
      (apply finR; exact .inl rfl; rfl; rfl; rfl; apply ResL.cons; exact Res.tmp rfl; exact ResL.nil)
      rfl
    · have hx : hexu u = none := by unfold hexu; rw [if_neg h1, if_neg h2]
      rw [hexi_none hx]
      by_cases h3 : 48 ≤ u.toNat
      · by_cases h4 : 97 ≤ u.toNat
        · refine enter (args := [_]) _ [] [] Tryd.func34 rfl Tryd.ntmps34 rfl (by simp) .nil ?_
          (refine CW.seq ?_; refine CW.region ?_; apply LW.v0; rfl; rfl; apply ValP.assign; rfl; apply LW.nil; refine thenN ?_; refine CW.seq ?_; refine CW.block ?_; refine CW.seq ?_; refine CW.region ?_; apply LW.v0; rfl; rfl; apply ValP.move; rfl; apply LW.v0; rfl; rfl; apply ValP.geqT; rfl; rfl; omega; apply LW.v0; rfl; rfl; apply ValP.move; rfl; apply LW.guardT'; rfl; rfl; (with_reducible rfl); apply LW.v0; rfl; rfl; apply ValP.move; rfl; apply LW.guardT'; rfl; rfl; (with_reducible rfl); apply LW.v0; rfl; rfl; apply ValP.leqF; rfl; rfl; omega; apply LW.v0; rfl; rfl; apply ValP.pickT'; rfl; (with_reducible rfl); rfl; apply LW.v0; rfl; rfl; apply ValP.assign; rfl; apply LW.nil; refine thenN ?_; apply CW.condF; rfl; (with_reducible rfl); refine CW.seq ?_; refine CW.region ?_; apply LW.v0; rfl; rfl; apply ValP.move; rfl; apply LW.v0; rfl; rfl; apply ValP.geqT; rfl; rfl; omega; apply LW.v0; rfl; rfl; apply ValP.move; rfl; apply LW.guardT'; rfl; rfl; (with_reducible rfl); apply LW.v0; rfl; rfl; apply ValP.move; rfl; apply LW.guardT'; rfl; rfl; (with_reducible rfl); apply LW.v0; rfl; rfl; apply ValP.leqF; rfl; rfl; omega; apply LW.v0; rfl; rfl; apply ValP.pickT'; rfl; (with_reducible rfl); rfl; apply LW.v0; rfl; rfl; apply ValP.assign; rfl; apply LW.nil; refine thenN ?_; apply CW.condF; rfl; (with_reducible rfl); refine CW.skip ?_; refine blkN ?_; refine thenN ?_; refine CW.seq ?_; refine CW.region ?_; apply LW.v0; rfl; rfl; apply ValP.assign; rfl; apply LW.nil; refine thenN ?_; refine CW.ret ?_)
          (apply finR; exact .inl rfl; rfl; rfl; rfl; apply ResL.cons; exact Res.tmp rfl; exact ResL.nil)
          rfl
        · refine enter (args := [_]) _ [] [] Tryd.func34 rfl Tryd.ntmps34 rfl (by simp) .nil ?_
          (refine CW.seq ?_; refine CW.region ?_; apply LW.v0; rfl; rfl; apply ValP.assign; rfl; apply LW.nil; refine thenN ?_; refine CW.seq ?_; refine CW.block ?_; refine CW.seq ?_; refine CW.region ?_; apply LW.v0; rfl; rfl; apply ValP.move; rfl; apply LW.v0; rfl; rfl; apply ValP.geqT; rfl; rfl; omega; apply LW.v0; rfl; rfl; apply ValP.move; rfl; apply LW.guardT'; rfl; rfl; (with_reducible rfl); apply LW.v0; rfl; rfl; apply ValP.move; rfl; apply LW.guardT'; rfl; rfl; (with_reducible rfl); apply LW.v0; rfl; rfl; apply ValP.leqF; rfl; rfl; omega; apply LW.v0; rfl; rfl; apply ValP.pickT'; rfl; (with_reducible rfl); rfl; apply LW.v0; rfl; rfl; apply ValP.assign; rfl; apply LW.nil; refine thenN ?_; apply CW.condF; rfl; (with_reducible rfl); refine CW.seq ?_; refine CW.region ?_; apply LW.v0; rfl; rfl; apply ValP.move; rfl; apply LW.v0; rfl; rfl; apply ValP.geqF; rfl; rfl; omega; apply LW.v0; rfl; rfl; apply ValP.move; rfl; apply LW.guardF'; rfl; rfl; simp only [Bool.not_true, Bool.not_false]; rfl; apply LW.guardF'; rfl; rfl; simp only [Bool.not_true, Bool.not_false]; rfl; apply LW.v0; rfl; rfl; apply ValP.pickF'; rfl; (with_reducible rfl); rfl; apply LW.v0; rfl; rfl; apply ValP.assign; rfl; apply LW.nil; refine thenN ?_; apply CW.condF; rfl; (with_reducible rfl); refine CW.skip ?_; refine blkN ?_; refine thenN ?_; refine CW.seq ?_; refine CW.region ?_; apply LW.v0; rfl; rfl; apply ValP.assign; rfl; apply LW.nil; refine thenN ?_; refine CW.ret ?_)
          (apply finR; exact .inl rfl; rfl; rfl; rfl; apply ResL.cons; exact Res.tmp rfl; exact ResL.nil)
          rfl
      · refine enter (args := [_]) _ [] [] Tryd.func34 rfl Tryd.ntmps34 rfl (by simp) .nil ?_
        (refine CW.seq ?_; refine CW.region ?_; apply LW.v0; rfl; rfl; apply ValP.assign; rfl; apply LW.nil; refine thenN ?_; refine CW.seq ?_; refine CW.block ?_; refine CW.seq ?_; refine CW.region ?_; apply LW.v0; rfl; rfl; apply ValP.move; rfl; apply LW.v0; rfl; rfl; apply ValP.geqF; rfl; rfl; omega; apply LW.v0; rfl; rfl; apply ValP.move; rfl; apply LW.guardF'; rfl; rfl; simp only [Bool.not_true, Bool.not_false]; rfl; apply LW.guardF'; rfl; rfl; simp only [Bool.not_true, Bool.not_false]; rfl; apply LW.v0; rfl; rfl; apply ValP.pickF'; rfl; (with_reducible rfl); rfl; apply LW.v0; rfl; rfl; apply ValP.assign; rfl; apply LW.nil; refine thenN ?_; apply CW.condF; rfl; (with_reducible rfl); refine CW.seq ?_; refine CW.region ?_; apply LW.v0; rfl; rfl; apply ValP.move; rfl; apply LW.v0; rfl; rfl; apply ValP.geqF; rfl; rfl; omega; apply LW.v0; rfl; rfl; apply ValP.move; rfl; apply LW.guardF'; rfl; rfl; simp only [Bool.not_true, Bool.not_false]; rfl; apply LW.guardF'; rfl; rfl; simp only [Bool.not_true, Bool.not_false]; rfl; apply LW.v0; rfl; rfl; apply ValP.pickF'; rfl; (with_reducible rfl); rfl; apply LW.v0; rfl; rfl; apply ValP.assign; rfl; apply LW.nil; refine thenN ?_; apply CW.condF; rfl; (with_reducible rfl); refine CW.skip ?_; refine blkN ?_; refine thenN ?_; refine CW.seq ?_; refine CW.region ?_; apply LW.v0; rfl; rfl; apply ValP.assign; rfl; apply LW.nil; refine thenN ?_; refine CW.ret ?_)
        (apply finR; exact .inl rfl; rfl; rfl; rfl; apply ResL.cons; exact Res.tmp rfl; exact ResL.nil)
        rfl
theorem parF_rest (s : List UInt8) (m : Nat) : ∀ j, (m + 1) / 2 ≤ j → (parF s m).getD j 0 = 0 := by
  induction m with
  | zero => intro j _; rw [parF_zero, List.getD_eq_getElem?_getD, List.getElem?_replicate]; split <;> rfl
  | succ m ih =>
    intro j hj
    have h1 := ih j (by omega)
    rw [parF_succ, List.getD_eq_getElem?_getD, List.getElem?_set, if_neg (by omega), ← List.getD_eq_getElem?_getD]
    exact h1
theorem parF_two {s : List UInt8} {k d1 d2 : Nat} (hk : k < 32) (h1 : hexu (s.getD (2 * k) 0) = some d1) (h2 : hexu (s.getD (2 * k + 1) 0) = some d2) : parF s (2 * (k + 1)) = (parF s (2 * k)).set k (UInt8.ofNat ((16 * d1 + d2) % 256)) := by
  have hd1 := hexu_lt h1
  have hd2 := hexu_lt h2
  have hr := parF_rest s (2 * k) k (by omega)
  have hl := parF_len s (2 * k)
  rw [show 2 * (k + 1) = 2 * k + 1 + 1 by omega, parF_succ, parF_succ, hexi_some h1, hexi_some h2, show (2 * k + 1) / 2 = k by omega, show 2 * k / 2 = k by omega, hr]
  have hg : ∀ x : UInt8, ((parF s (2 * k)).set k x).getD k 0 = x := fun x => by
    rw [List.getD_eq_getElem?_getD, List.getElem?_set_self (by omega)]; rfl
  rw [hg, List.set_set, Int.toNat_natCast, Int.toNat_natCast]
  have e1 : (UInt8.ofNat ((16 * (0 : UInt8).toNat % 256 + d1 % 256) % 256)).toNat = d1 := by
    rw [UInt8.toNat_ofNat', show (0 : UInt8).toNat = 0 from rfl]; omega
  rw [e1]
  congr 2
  omega
theorem drop_get {s : List UInt8} {k : Nat} (h : k < s.length) : s[k]? = some (s.getD k 0) := by
  rw [List.getD_eq_getElem?_getD, List.getElem?_eq_getElem h]; rfl
theorem rParse_calls (s : List UInt8) (w : World) : Calls Tryd.prog 24 #[sv s] w (Ret w (rparV (parB s))) := by
  by_cases hl : s.length = 64
  · refine enter (args := [_]) _ [] [] Tryd.func24 rfl Tryd.ntmps24 rfl (by simp) .nil ?_
    (refine CW.seq ?_; refine CW.region ?_; apply LW.allocA; rfl; intro _; apply LW.v0; rfl; rfl; apply ValP.assign; rfl; apply LW.nil; refine thenN ?_; refine CW.seq ?_; refine CW.region ?_; apply LW.allocA; rfl; intro _; apply LW.nil; refine thenN ?_; refine CW.seq ?_; refine CW.seq ?_; refine CW.region ?_; apply LW.v0; rfl; rfl; apply ValP.move; rfl; apply LW.v0; rfl; rfl; apply ValP.lenStr; rfl; infer_instance; rfl; apply LW.v0; rfl; rfl; apply ValP.neF; rfl; rfl; omega; apply LW.nil; refine thenN ?_; apply CW.condF; rfl; (with_reducible rfl); refine CW.skip ?_; refine thenN ?_; refine CW.seq ?_; refine CW.seq ?_; refine CW.region ?_; apply LW.v0; rfl; rfl; apply ValP.move; rfl; apply LW.nil; refine thenN ?_; refine CW.block ?_)
    rename_i bo bi
    refine CW.loop (fun k : Nat => ([(12, .int .i64 (k : Int)), (0, sv s), (4, .pointer (some ⟨bi, 0, none⟩)), (2, .pointer (some ⟨bo, 0, none⟩))],
      [(bi, .cells (uca (parF s (2 * k))) 27 (0, 0)), (bo, .cells (uca (List.replicate 32 0)) 27 (0, 0))]))
      (fun k => k ≤ 32 ∧ ∀ i, i < 2 * k → hexu (s.getD i 0) ≠ none) (fun k => 32 - k) 0 ⟨Nat.zero_le _, fun i h => by omega⟩ ⟨rfl, rfl, rfl, rfl, trivial⟩ (by dsimp only; rw [Nat.mul_zero, parF_zero]; exact List.Sublist.refl _) ?_
    rintro k ⟨hk, hall⟩
    dsimp only at hk hall ⊢
    have hlp := parF_len s (2 * k)
    have hz : (List.replicate 32 (0 : UInt8)).length = 32 := rfl
    rcases Nat.lt_or_ge k 32 with h32 | h32
    · have hs1 : s[2 * k]? = some (s.getD (2 * k) 0) := drop_get (by omega)
      have hs2 : s[2 * k + 1]? = some (s.getD (2 * k + 1) 0) := drop_get (by omega)
      have hD10 := Digit_calls (s.getD (2 * k) 0)
      have hD20 := Digit_calls (s.getD (2 * k + 1) 0)
      rcases hx : hexu (s.getD (2 * k) 0) with _ | d1
      · rw [hexi_none hx] at hD10
        have hD1 := hD10
        have hD2 := hD20
        rw [parB_bad (by omega) hx]
        (refine CW.seq ?_; refine CW.region ?_; apply LW.v0; rfl; rfl; apply ValP.lssT; rfl; rfl; omega; apply LW.nil; refine thenN ?_; refine CW.seq ?_; apply CW.condT; rfl; (with_reducible rfl); refine CW.skip ?_; refine thenN ?_; refine CW.seq ?_; refine CW.block ?_; refine CW.seq ?_; refine CW.region ?_; apply LW.v0; rfl; rfl; apply ValP.move; rfl; apply LW.v0; rfl; rfl; apply ValP.assign; rfl; apply LW.nil; refine thenN ?_; refine CW.seq ?_; apply CW.pre; refine AnyW.any 10 mixed (by decide +kernel) ?_; (try simp only [tsOf_cons, tsOf_nil, tsOf_app]); apply DW.v0; rfl; rfl; rfl; exact WantT.none; rfl; apply ValP.move; rfl; apply DW.v0; rfl; rfl; rfl; exact WantT.none; rfl; apply ValP.move; rfl; apply DW.v0; rfl; rfl; rfl; exact WantT.none; rfl; apply ValP.mulZK; rfl; rfl; decide; omega; apply DW.v0; rfl; rfl; rfl; exact WantT.none; rfl; apply ValP.indexSv; infer_instance; rfl; rfl; rfl; assumption; apply DW.callE; rfl; rfl; rfl; exact WantT.none; rfl; infer_instance; apply ArgsOk.cons; rfl; exact ArgsOk.nil; rfl; exact ReadAll.nil; intro w _ _; exact hD1 w; apply DW.v0; rfl; rfl; rfl; exact WantT.none; rfl; apply ValP.move; rfl; apply DW.v0; rfl; rfl; rfl; exact WantT.none; rfl; apply ValP.move; rfl; apply DW.v0; rfl; rfl; rfl; exact WantT.none; rfl; apply ValP.mulZK; rfl; rfl; decide; omega; apply DW.v0; rfl; rfl; rfl; exact WantT.none; rfl; apply ValP.addZL; rfl; rfl; decide; omega; apply DW.v0; rfl; rfl; rfl; exact WantT.none; rfl; apply ValP.indexSv; infer_instance; rfl; rfl; rfl; assumption; apply DW.nil; simp only [fsOf_cons, fsOf_nil, fsOf_app, fsOf_tsOf, fsOf_new]; apply LW.callE; rfl; rfl; infer_instance; apply ArgsOk.cons; rfl; exact ArgsOk.nil; intro w _; exact hD2 w; apply LW.v0; rfl; rfl; apply ValP.assign; rfl; apply LW.v0; rfl; rfl; apply ValP.assign; rfl; apply LW.nil; refine thenN ?_; refine CW.seq ?_; refine CW.seq ?_; refine CW.region ?_; apply LW.v0; rfl; rfl; apply ValP.move; rfl; apply LW.v0; rfl; rfl; apply ValP.lssT; rfl; rfl; omega; apply LW.v0; rfl; rfl; apply ValP.move; rfl; apply LW.guardF'; rfl; rfl; simp only [Bool.not_true, Bool.not_false]; rfl; apply LW.guardF'; rfl; rfl; simp only [Bool.not_true, Bool.not_false]; rfl; apply LW.v0; rfl; rfl; apply ValP.pickT'; rfl; (with_reducible rfl); rfl; apply LW.nil; refine thenN ?_; apply CW.condT; rfl; (with_reducible rfl); refine CW.seq ?_; refine CW.region ?_; apply LW.v0; rfl; rfl; apply ValP.buildA; exact PartsOk.nil; rfl; simp only [fillC, wc, wrCells, Value.cells, List.toList_toArray, List.setIfInBounds_toArray, List.set_cons_succ, List.set_cons_zero, Nat.reduceAdd, Nat.reduceMul, Nat.zero_add, Nat.mul_one]; rfl; apply LW.store; rfl; rfl; apply SetAt.tail; apply SetAt.head; apply Wr.whole; rfl; rfl; rfl; apply LW.v0; rfl; rfl; apply ValP.assign; rfl; apply LW.nil; refine thenN ?_; refine CW.ret ?_; refine thenR ?_; refine blkR ?_; refine thenR ?_; refine thenR ?_; refine blkR ?_; refine thenR ?_)
        (apply finR; exact .inl rfl; rfl; rfl; rfl; apply ResL.cons; apply Res.cell; rfl; apply Known.at; apply FsAt.tail; apply FsAt.head; exact Rd.whole rfl; apply ResL.cons; exact Res.tmp rfl; exact ResL.nil)
        rfl
      · have hd1 := hexu_lt hx
        rw [hexi_some hx] at hD10
        have hD1 := hD10
        rcases hy : hexu (s.getD (2 * k + 1) 0) with _ | d2
        · rw [hexi_none hy] at hD20
          have hD2 := hD20
          rw [parB_bad (k := 2 * k + 1) (by omega) hy]
          (refine CW.seq ?_; refine CW.region ?_; apply LW.v0; rfl; rfl; apply ValP.lssT; rfl; rfl; omega; apply LW.nil; refine thenN ?_; refine CW.seq ?_; apply CW.condT; rfl; (with_reducible rfl); refine CW.skip ?_; refine thenN ?_; refine CW.seq ?_; refine CW.block ?_; refine CW.seq ?_; refine CW.region ?_; apply LW.v0; rfl; rfl; apply ValP.move; rfl; apply LW.v0; rfl; rfl; apply ValP.assign; rfl; apply LW.nil; refine thenN ?_; refine CW.seq ?_; apply CW.pre; refine AnyW.any 10 mixed (by decide +kernel) ?_; (try simp only [tsOf_cons, tsOf_nil, tsOf_app]); apply DW.v0; rfl; rfl; rfl; exact WantT.none; rfl; apply ValP.move; rfl; apply DW.v0; rfl; rfl; rfl; exact WantT.none; rfl; apply ValP.move; rfl; apply DW.v0; rfl; rfl; rfl; exact WantT.none; rfl; apply ValP.mulZK; rfl; rfl; decide; omega; apply DW.v0; rfl; rfl; rfl; exact WantT.none; rfl; apply ValP.indexSv; infer_instance; rfl; rfl; rfl; assumption; apply DW.callE; rfl; rfl; rfl; exact WantT.none; rfl; infer_instance; apply ArgsOk.cons; rfl; exact ArgsOk.nil; rfl; exact ReadAll.nil; intro w _ _; exact hD1 w; apply DW.v0; rfl; rfl; rfl; exact WantT.none; rfl; apply ValP.move; rfl; apply DW.v0; rfl; rfl; rfl; exact WantT.none; rfl; apply ValP.move; rfl; apply DW.v0; rfl; rfl; rfl; exact WantT.none; rfl; apply ValP.mulZK; rfl; rfl; decide; omega; apply DW.v0; rfl; rfl; rfl; exact WantT.none; rfl; apply ValP.addZL; rfl; rfl; decide; omega; apply DW.v0; rfl; rfl; rfl; exact WantT.none; rfl; apply ValP.indexSv; infer_instance; rfl; rfl; rfl; assumption; apply DW.nil; simp only [fsOf_cons, fsOf_nil, fsOf_app, fsOf_tsOf, fsOf_new]; apply LW.callE; rfl; rfl; infer_instance; apply ArgsOk.cons; rfl; exact ArgsOk.nil; intro w _; exact hD2 w; apply LW.v0; rfl; rfl; apply ValP.assign; rfl; apply LW.v0; rfl; rfl; apply ValP.assign; rfl; apply LW.nil; refine thenN ?_; refine CW.seq ?_; refine CW.seq ?_; refine CW.region ?_; apply LW.v0; rfl; rfl; apply ValP.move; rfl; apply LW.v0; rfl; rfl; apply ValP.lssF; rfl; rfl; omega; apply LW.v0; rfl; rfl; apply ValP.move; rfl; apply LW.guardT'; rfl; rfl; (with_reducible rfl); apply LW.v0; rfl; rfl; apply ValP.move; rfl; apply LW.guardT'; rfl; rfl; (with_reducible rfl); apply LW.v0; rfl; rfl; apply ValP.lssT; rfl; rfl; omega; apply LW.v0; rfl; rfl; apply ValP.pickF'; rfl; (with_reducible rfl); rfl; apply LW.nil; refine thenN ?_; apply CW.condT; rfl; (with_reducible rfl); refine CW.seq ?_; refine CW.region ?_; apply LW.v0; rfl; rfl; apply ValP.buildA; exact PartsOk.nil; rfl; simp only [fillC, wc, wrCells, Value.cells, List.toList_toArray, List.setIfInBounds_toArray, List.set_cons_succ, List.set_cons_zero, Nat.reduceAdd, Nat.reduceMul, Nat.zero_add, Nat.mul_one]; rfl; apply LW.store; rfl; rfl; apply SetAt.tail; apply SetAt.head; apply Wr.whole; rfl; rfl; rfl; apply LW.v0; rfl; rfl; apply ValP.assign; rfl; apply LW.nil; refine thenN ?_; refine CW.ret ?_; refine thenR ?_; refine blkR ?_; refine thenR ?_; refine thenR ?_; refine blkR ?_; refine thenR ?_)
          (apply finR; exact .inl rfl; rfl; rfl; rfl; apply ResL.cons; apply Res.cell; rfl; apply Known.at; apply FsAt.tail; apply FsAt.head; exact Rd.whole rfl; apply ResL.cons; exact Res.tmp rfl; exact ResL.nil)
          rfl
        · have hd2 := hexu_lt hy
          rw [hexi_some hy] at hD20
          have hD2 := hD20
          (refine CW.seq ?_; refine CW.region ?_; apply LW.v0; rfl; rfl; apply ValP.lssT; rfl; rfl; omega; apply LW.nil; refine thenN ?_; refine CW.seq ?_; apply CW.condT; rfl; (with_reducible rfl); refine CW.skip ?_; refine thenN ?_; refine CW.seq ?_; refine CW.block ?_; refine CW.seq ?_; refine CW.region ?_; apply LW.v0; rfl; rfl; apply ValP.move; rfl; apply LW.v0; rfl; rfl; apply ValP.assign; rfl; apply LW.nil; refine thenN ?_; refine CW.seq ?_; apply CW.pre; refine AnyW.any 10 mixed (by decide +kernel) ?_; (try simp only [tsOf_cons, tsOf_nil, tsOf_app]); apply DW.v0; rfl; rfl; rfl; exact WantT.none; rfl; apply ValP.move; rfl; apply DW.v0; rfl; rfl; rfl; exact WantT.none; rfl; apply ValP.move; rfl; apply DW.v0; rfl; rfl; rfl; exact WantT.none; rfl; apply ValP.mulZK; rfl; rfl; decide; omega; apply DW.v0; rfl; rfl; rfl; exact WantT.none; rfl; apply ValP.indexSv; infer_instance; rfl; rfl; rfl; assumption; apply DW.callE; rfl; rfl; rfl; exact WantT.none; rfl; infer_instance; apply ArgsOk.cons; rfl; exact ArgsOk.nil; rfl; exact ReadAll.nil; intro w _ _; exact hD1 w; apply DW.v0; rfl; rfl; rfl; exact WantT.none; rfl; apply ValP.move; rfl; apply DW.v0; rfl; rfl; rfl; exact WantT.none; rfl; apply ValP.move; rfl; apply DW.v0; rfl; rfl; rfl; exact WantT.none; rfl; apply ValP.mulZK; rfl; rfl; decide; omega; apply DW.v0; rfl; rfl; rfl; exact WantT.none; rfl; apply ValP.addZL; rfl; rfl; decide; omega; apply DW.v0; rfl; rfl; rfl; exact WantT.none; rfl; apply ValP.indexSv; infer_instance; rfl; rfl; rfl; assumption; apply DW.nil; simp only [fsOf_cons, fsOf_nil, fsOf_app, fsOf_tsOf, fsOf_new]; apply LW.callE; rfl; rfl; infer_instance; apply ArgsOk.cons; rfl; exact ArgsOk.nil; intro w _; exact hD2 w; apply LW.v0; rfl; rfl; apply ValP.assign; rfl; apply LW.v0; rfl; rfl; apply ValP.assign; rfl; apply LW.nil; refine thenN ?_; refine CW.seq ?_; refine CW.seq ?_; refine CW.region ?_; apply LW.v0; rfl; rfl; apply ValP.move; rfl; apply LW.v0; rfl; rfl; apply ValP.lssF; rfl; rfl; omega; apply LW.v0; rfl; rfl; apply ValP.move; rfl; apply LW.guardT'; rfl; rfl; (with_reducible rfl); apply LW.v0; rfl; rfl; apply ValP.move; rfl; apply LW.guardT'; rfl; rfl; (with_reducible rfl); apply LW.v0; rfl; rfl; apply ValP.lssF; rfl; rfl; omega; apply LW.v0; rfl; rfl; apply ValP.pickF'; rfl; (with_reducible rfl); rfl; apply LW.nil; refine thenN ?_; apply CW.condF; rfl; (with_reducible rfl); refine CW.skip ?_; refine thenN ?_; refine CW.region ?_; apply LW.v0; rfl; rfl; apply ValP.move; rfl; apply LW.v0; rfl; rfl; apply ValP.move; rfl; apply LW.v0; rfl; rfl; apply ValP.mulZK; rfl; rfl; decide; omega; apply LW.v0; rfl; rfl; apply ValP.move; rfl; apply LW.v0; rfl; rfl; apply ValP.addZ; rfl; rfl; omega; apply LW.v0; rfl; rfl; apply ValP.convB; rfl; apply LW.v0; rfl; rfl; apply ValP.indexAddrA; rfl; rfl; rfl; omega; apply LW.store; rfl; rfl; apply SetAt.head; apply wr_uca; omega; exact Nat.mod_lt _ (by decide); apply LW.nil; refine blkN ?_; refine thenN ?_; refine CW.region ?_; apply LW.v0; rfl; rfl; apply ValP.addZL; rfl; rfl; decide; omega; apply LW.v0; rfl; rfl; apply ValP.move; rfl; apply LW.nil)
          refine thenX ⟨rfl, k + 1, ⟨h32, fun i hi => ?_⟩, by omega, ⟨rfl, rfl, rfl, rfl, trivial⟩, ?_⟩
          · rcases Nat.lt_or_ge i (2 * k) with h | h
            · exact hall i h
            · rcases Nat.lt_or_ge i (2 * k + 1) with h' | h'
              · obtain rfl : i = 2 * k := by omega
                rw [hx]; simp
              · obtain rfl : i = 2 * k + 1 := by omega
                rw [hy]; simp
          · rw [parF_two h32 hx hy]
            exact List.Sublist.refl _
    · obtain rfl : k = 32 := by omega
      rw [parB_good hl hall]
      (refine CW.seq ?_; refine CW.region ?_; apply LW.v0; rfl; rfl; apply ValP.lssF; rfl; rfl; omega; apply LW.nil; refine thenN ?_; refine CW.seq ?_; apply CW.condF; rfl; (with_reducible rfl); refine CW.exit ?_; refine thenE ?_; refine thenE ?_; refine blkE rfl ?_; refine thenN ?_; refine CW.seq ?_; refine CW.region ?_; apply LW.load; rfl; rfl; apply Known.at; apply FsAt.head; apply rd_ucaW; assumption; apply LW.store; rfl; rfl; apply SetAt.tail; apply SetAt.head; apply wr_ucaW; assumption; assumption; apply LW.v0; rfl; rfl; apply ValP.assign; rfl; apply LW.nil; refine thenN ?_; refine CW.ret ?_)
      (apply finR; exact .inl rfl; rfl; rfl; rfl; apply ResL.cons; apply Res.cell; rfl; apply Known.at; apply FsAt.tail; apply FsAt.head; apply rd_ucaW; assumption; apply ResL.cons; exact Res.tmp rfl; exact ResL.nil)
      rfl
  · rw [parB_len hl]
    refine enter (args := [_]) _ [] [] Tryd.func24 rfl Tryd.ntmps24 rfl (by simp) .nil ?_
    (refine CW.seq ?_; refine CW.region ?_; apply LW.allocA; rfl; intro _; apply LW.v0; rfl; rfl; apply ValP.assign; rfl; apply LW.nil; refine thenN ?_; refine CW.seq ?_; refine CW.region ?_; apply LW.allocA; rfl; intro _; apply LW.nil; refine thenN ?_; refine CW.seq ?_; refine CW.seq ?_; refine CW.region ?_; apply LW.v0; rfl; rfl; apply ValP.move; rfl; apply LW.v0; rfl; rfl; apply ValP.lenStr; rfl; infer_instance; rfl; apply LW.v0; rfl; rfl; apply ValP.neT; rfl; rfl; omega; apply LW.nil; refine thenN ?_; apply CW.condT; rfl; (with_reducible rfl); refine CW.seq ?_; refine CW.region ?_; apply LW.load; rfl; rfl; apply Known.at; apply FsAt.head; exact Rd.whole rfl; apply LW.store; rfl; rfl; apply SetAt.tail; apply SetAt.head; apply Wr.whole; rfl; rfl; rfl; apply LW.v0; rfl; rfl; apply ValP.assign; rfl; apply LW.nil; refine thenN ?_; refine CW.ret ?_; refine thenR ?_)
    (apply finR; exact .inl rfl; rfl; rfl; rfl; apply ResL.cons; apply Res.cell; rfl; apply Known.at; apply FsAt.tail; apply FsAt.head; exact Rd.whole rfl; apply ResL.cons; exact Res.tmp rfl; exact ResL.nil)
    rfl
end Go.Proofs.YtficnjnnhcadaaaDoor

/-
  The sponge: what the law's first line reckons.
  Conditions: none.
-/
namespace Go.Proofs.YtficnjnnhcadaaaDoor
open Go Go.RowKit SL
set_option maxRecDepth 100000
def wakeId : List UInt8 := [0xc5, 0xd2, 0x46, 0x01, 0x86, 0xf7, 0x23, 0x3c, 0x92, 0x7e, 0x7d, 0xb2, 0xdc, 0xc7, 0x03, 0xc0, 0xe5, 0x00, 0xb6, 0x53, 0xca, 0x82, 0x27, 0x3b, 0x7b, 0xfa, 0xd8, 0x04, 0x5d, 0x85, 0xa4, 0x70]
theorem round_wake : roundL (List.replicate 25 0) (numL.getD 0 0) = 1 :: List.replicate 24 0 := by decide +kernel
theorem less_wake : lessB (List.replicate 32 0) wakeId = true := by decide +kernel
theorem par_wake : parB [99, 53, 100, 50, 52, 54, 48, 49, 56, 54, 102, 55, 50, 51, 51, 99, 57, 50, 55, 101, 55, 100, 98, 50, 100, 99, 99, 55, 48, 51, 99, 48, 101, 53, 48, 48, 98, 54, 53, 51, 99, 97, 56, 50, 50, 55, 51, 98, 55, 98, 102, 97, 100, 56, 48, 52, 53, 100, 56, 53, 97, 52, 55, 48] = some wakeId := by decide +kernel
theorem soak_wake : soakF (List.replicate 25 0) (padB []) 0 136 = [1, 0, 0, 0, 0, 0, 0, 0, 0, 0, 0, 0, 0, 0, 0, 0, 9223372036854775808, 0, 0, 0, 0, 0, 0, 0, 0] := by decide +kernel
def wk0 : List Nat := [1, 0, 0, 0, 0, 0, 0, 0, 0, 0, 0, 0, 0, 0, 0, 0, 9223372036854775808, 0, 0, 0, 0, 0, 0, 0, 0]
def wk1 : List Nat := [4398046511105, 17592186044416, 4398046543872, 0, 17592186077184, 8, 52776560230400, 1152921504606846984, 52776558133248, 1152921504608944128, 2, 544, 262144, 514, 262176, 268436480, 68719493120, 1024, 268451840, 68719476736, 2305844108725321728, 2199023255552, 1099511627780, 2305845208236949504, 4]
def wk2 : List Nat := [3904711243048682726, 1207872589841957126, 3184368193241127169, 12971028319727649889, 10286551402689075458, 1259783720018274, 12214679202016067586, 9224121225299901428, 2992272534782738451, 9800689182623078597, 4611726720294328428, 11685850236297012, 1495365005022904395, 15813382930697286, 6111808659584533265, 124981832595311936, 2684240834651972352, 4912301736543682948, 2488263262048755776, 4778390286886047620, 1163347847091065233, 16868443555924821730, 154580546982776916, 15564660919037354401, 2456770817776948750]
def wk3 : List Nat := [8289102824591434380, 2650440079073489379, 11459863657423534455, 3078203046191370419, 10243614441579508732, 6715684478468316285, 9021721613749738627, 16323907559936263589, 14712371453287876238, 13207516449244145029, 6716728777335539109, 2516792122779427716, 5461754274945430388, 3341045827627689583, 3296329752392194682, 14297203439033465259, 11493424483223189197, 10504499887245279853, 3308135633588744113, 5098721825536174192, 8664368315221462042, 11716894083276002874, 2098923162028634215, 7303567510403455548, 4883930803803657273]
def wk4 : List Nat := [9145702616912342758, 16632607361196628137, 5807045512169203855, 6548049296825423573, 2911560703121806936, 12452414146356170408, 431667818003843456, 4945739612319476974, 12460092556240016733, 7658648394962756264, 13350366495830902207, 1953387479264944757, 17420282858972716739, 1215582556029742168, 7692344429658740155, 17977349082556873670, 1858614526669458582, 10964871947398476332, 15514956647893279288, 179932933774914631, 17508529487041048502, 7503018368851633981, 929261442150911620, 2851383533632874710, 7153482467733786193]
def wk5 : List Nat := [3217695626026700231, 7228520851561084131, 7840336919730310393, 6868346474795808920, 5817928043512098185, 483728965144457366, 2094125954139152251, 13290615271988912878, 6116732081573619054, 12404040371124941288, 5210583702804515577, 6569965374713754428, 9650717987591950737, 1838917144515589093, 6206879949013857101, 13836215650485784034, 2777104299206127432, 9162378715153818446, 2579248593664187030, 4649761399498197408, 4345672674621089333, 17727600499527599874, 15951120162837397783, 1486441073599636038, 7526975559096822753]
def wk6 : List Nat := [248066060412482913, 10809642231442205384, 5504895099598155415, 2584332703152910123, 10449879252273190592, 13355132533173292400, 16887410369553470650, 1390404604944908871, 10467819199160078225, 12586248386544345989, 13287309445471910499, 9168388512907289048, 10117223767413104261, 15763460986669702239, 10756186891316440689, 4278624213941474887, 14275455272196532991, 18250878328984007816, 4482727192120861170, 9721683024389909677, 9163772564863624264, 8489753604216688595, 816201186782976613, 1144184611068540487, 4128866423754115227]
def wk7 : List Nat := [18402963122672406245, 17859514631694764789, 14428715717768966649, 457031613351869429, 10894224858909162407, 8575137199002047859, 17809232792270138362, 4808146580191774126, 14627578404221294643, 7601016815347446848, 8500045888007553416, 2044036892383418708, 15900193137531961059, 8052354359019095129, 17216125304898466993, 16993524951797960044, 5609346022144275528, 15760809127494505806, 8446841439649264471, 18088848446523253189, 8270102827973632420, 9423595931552552983, 16228370102390044934, 12045389637071608679, 7056785534201200939]
def wk8 : List Nat := [12753376061805899333, 2111981560556758208, 13166824882716378987, 12172034681548868104, 16455514320282466043, 3265329870635658802, 5063956176412677616, 15307341599108955523, 17042901249887048594, 15606817482875957131, 12401061165045441397, 14112825205738012444, 7528182654139171963, 679949399121675847, 16110029214220444666, 16075443586991710645, 11809122633193920135, 824682708434772612, 9546558219524207792, 14570838741769169544, 16015354101246307490, 14937681164076894612, 16170554185854218030, 13411014959602602192, 17659497305141992864]
def wk9 : List Nat := [16607373423488820546, 2151422635867277830, 6572340985991069695, 14653210170250470996, 11791760579977573355, 4065323483469060406, 7283395855969466639, 13325119192580981824, 240953767092294249, 4061085087821419309, 15280882476846897925, 2750505582437592369, 2704748849273168765, 6327325585883090832, 2013544036530064293, 11337392647161457476, 9951477293767922198, 15216922623802272473, 4089965193502969186, 10262383148774694472, 11601735218912882699, 3910853304622802100, 1874362684601583732, 14635665072728267742, 11912924353201045756]
def wk10 : List Nat := [12443570198016410408, 15073234423324879037, 16538284292177595253, 770694436111563450, 4661629519587471725, 4134871225352118654, 4776995384142827210, 15478826137546518068, 18066846374717646578, 14270287239788042585, 2910516952809473229, 949633455367371438, 5615595303185522976, 12732927536893994306, 1974801021048620803, 8494920415961791039, 4379175404697166052, 779617988408921914, 11515541233266066687, 10851941993204617098, 17521537655693928411, 15329457299099953713, 8642253880621323691, 13248831312752232176, 9167496934457325936]
def wk11 : List Nat := [2784670699769870044, 12458046501618073558, 14125649387247164462, 2371862000334975945, 17449621713181921370, 18084473122477533316, 10555653529814021168, 1286435700208258660, 7900972333389060382, 13695579594619900831, 14617506584737283108, 16851691067561729428, 8573020770547936416, 15064676017279082892, 17197415585843555401, 15776906507246342037, 9813731578541049216, 12800378173865872612, 15297178561593300238, 11409222445058284577, 15122744860265765604, 5517594499147034503, 7999930204173150732, 15392201373165449930, 12679951944464799674]
def wk12 : List Nat := [16291156846118844451, 9692757143822035377, 17748466164917623592, 18297723408675364712, 5768111022144358297, 5032647943730211172, 240223639921337555, 3573006762761062315, 4418081664467045005, 14050874540553342331, 10482449059741954494, 13992079101437996990, 2435977504749834253, 10982271880190543118, 11974228964236697225, 15115158931448373871, 12735725188152392398, 7627438592320754813, 272652177933322935, 14245570792134504674, 8744534987003128554, 11356875620725102920, 8928226865784257667, 1524680525473545806, 2896276078172484414]
def wk13 : List Nat := [6665051101374537130, 5495771786181444414, 12537915500868265617, 17060231565289718284, 15561324751258473602, 7930404497004154902, 8849067938713931991, 6658565175150454632, 5282570462567558459, 11559245968373515903, 16566202011258081367, 674556369021680881, 3345820050997912695, 4671081468424751526, 7757084567577850828, 8502623553496775840, 3955259317059675661, 8106862701908889232, 6703677908344537012, 6580670985836187516, 9403347355581011122, 7905832091148999944, 5292914193962333749, 11887527448341663821, 16621059256266911255]
def wk14 : List Nat := [10716439878011516281, 15967399425266700355, 12076011584974892592, 16248055671756128434, 10643350871698206347, 10594214463648586357, 7116189751946765041, 7750545512743031734, 18247594507314572309, 7378220163111131807, 14999407657225623861, 7928369854754402115, 17844316675013910964, 15171488774331430663, 7614485196347525793, 11605212344200916950, 15157978784662469348, 11718935584924530645, 5535191362811376685, 14772790920984104005, 10448524766163212306, 4825435813474788858, 17005218769600310333, 13954843883325706830, 4929584870877703474]
def wk15 : List Nat := [1319998251610336165, 5389285008839651730, 9332282829561635961, 9409139626766683675, 6470951802939581099, 17252944717417249465, 17165277815629499916, 3963403808094557162, 14184007887274758158, 9596262242135920298, 10210589069919534081, 14250294093777783787, 8039572666876461379, 2368146889392807232, 1812659259149163614, 16807801796138206746, 11647457970582845122, 6166919066429959443, 1147388708393040668, 1303057136894895726, 1903883279373033606, 2131164935238924974, 4953436646693238779, 2641527683450144340, 2816144971954173157]
def wk16 : List Nat := [13881630218582485081, 16617007106358093478, 8370579830314427868, 1713224054433245973, 13627151018451951556, 10871226027031491916, 4699765345504525133, 4286537013572583285, 17310739681736795836, 99398265043109114, 3545503971586557412, 7556410075305792076, 15679693291762405836, 2729857338541306968, 1921741768395976932, 14263894358714132532, 11009055271111244000, 845971141115169140, 13270182711450419347, 17079085579333711468, 10503578552956300308, 6627023678281057244, 5403374185706104778, 6659075922477107110, 8592110512596117136]
def wk17 : List Nat := [8416411914720361245, 3448560865030073472, 3919536279875559698, 5573607003621883193, 984465805306826053, 15024535068875014392, 3681621266475130062, 9998293171501847344, 14839532389281272683, 533539312507974110, 16824156633091540864, 16389535479321433015, 13782841269213835654, 4122073509668400045, 7683819886385778366, 3592048281988696895, 8681389608761840015, 17598965942532483458, 16560167496673567885, 8777595276064781908, 9594426284182731638, 13108639988284796722, 15254667260581302934, 2433642677842468666, 1064465948127417059]
def wk18 : List Nat := [534296193886098135, 3695287213502380591, 11532049842336470888, 17974523857070849737, 12954850201481240735, 5716772798672216727, 2583007236467463893, 10427970853733301948, 700439106234402195, 7192762512095310632, 4383158246966191391, 18315691205404178545, 18043931791961935518, 16287759594864535142, 15352249056180256782, 18367201066277418680, 6748360514621293390, 9837915013220625665, 12422998273549796530, 12621865645966804366, 4594662070598184093, 8622633690173154066, 12904333489760771204, 385777527094370260, 6037929239432104378]
def wk19 : List Nat := [17242234307811427515, 7298945131924620938, 12512959417444303430, 16244176617175768424, 3826401358280227816, 8589395152097341129, 18321848104009695025, 11680515094655873510, 3680928998899718032, 5209258824295493052, 14420353876404795782, 13596398079702832869, 12202387532391994898, 721433745371800063, 9896885544113945439, 6680377346781173919, 5332700740124661618, 13318027231967735991, 16563930016949065197, 220674366890030230, 6699529091897125322, 2739507427232859638, 15711608159680198358, 15839554650221487652, 11575241304029856712]
def wk20 : List Nat := [16702010266589328720, 11785696339686387325, 16232021429448662837, 4621936354538492110, 16839935569400247044, 3516106972774747115, 11724013555230036502, 7480607343544516906, 14577750021349342573, 2421771942493426498, 8252672638237332873, 8249004131460997133, 778286484670419507, 5467066643722607965, 1760155417958766819, 5539793005320924506, 11397623340431491872, 12864342638065520035, 12083379459737583179, 14892306294104856657, 14623186648705301253, 5128653977437664874, 14734488673449380773, 17399174579470271659, 14787652485258740643]
def wk21 : List Nat := [16488390307541943305, 17559693018003947265, 9108537271992078214, 10423841811661870631, 3040236185740504183, 857882767517711827, 3492714315419207287, 2789125034051568249, 81920884436605105, 13331759205602966770, 16754353820981313164, 6741055624195280880, 5263857701266955350, 4627132801428790548, 7422782385993692804, 3730241882621406845, 4399100234652493596, 15025317568737056282, 4375033872217880358, 3359671850727625416, 1362862387812853932, 8387689881403993048, 8688947589982045175, 11585555971117405732, 16397411802621700634]
def wk22 : List Nat := [7468857592912166551, 7509402213287554103, 5920166622310057021, 1245229838719934601, 11412606850931652734, 4778997266118777220, 13503050704312239975, 9078797036224177493, 9046123609337478232, 2279923682132033021, 968663569872637247, 12528780394224896734, 15109038439802043243, 2514154137644936742, 13074992029672084631, 9981334051720804394, 10929166993946436931, 10786302343937411402, 2172383237928275479, 15222838835840319035, 6535328264755286323, 3021073620629705380, 6914764477367934026, 14161662948158972437, 2646073473019538392]
def wk23 : List Nat := [13219969621820782240, 3226093193424914092, 10846161881167012984, 13470522419822434072, 9395429576182681946, 8530498048516093610, 5651939854162289461, 7915235748700633099, 16590736201521082154, 11443586452577361644, 11578784407731530241, 12555284199035474007, 103191304442796045, 2407050918456829886, 8809156603158525029, 15242461923984447565, 13645658932555888328, 11207932644415108528, 2606492158503956003, 17367323008410274790, 14914538695926853805, 15728690031541589181, 7389391625128953151, 12128506732059288731, 17622300515349969486]
def wk24 : List Nat := [4333579421379646149, 13836122230913597074, 4262519377828905189, 8116759062988257915, 8406387447366859581, 14671339323370021561, 2243375101132795228, 9371364203318886753, 9347994793612953298, 12814238161780307547, 4391692840257016808, 4309499098775122448, 13438072403645551266, 18018124564071650747, 4323130096954625545, 16970298442240338249, 1971761234120675839, 450719451514497906, 18340686150147091359, 11254645818134300982, 16062291397582171322, 1601982631079003425, 7734681229251997073, 13256946727218518206, 11816912122432958423]
theorem wk1_eq : roundL wk0 (numL.getD 0 0) = wk1 := by decide +kernel
theorem wk2_eq : roundL wk1 (numL.getD 1 0) = wk2 := by decide +kernel
theorem wk3_eq : roundL wk2 (numL.getD 2 0) = wk3 := by decide +kernel
theorem wk4_eq : roundL wk3 (numL.getD 3 0) = wk4 := by decide +kernel
theorem wk5_eq : roundL wk4 (numL.getD 4 0) = wk5 := by decide +kernel
theorem wk6_eq : roundL wk5 (numL.getD 5 0) = wk6 := by decide +kernel
theorem wk7_eq : roundL wk6 (numL.getD 6 0) = wk7 := by decide +kernel
theorem wk8_eq : roundL wk7 (numL.getD 7 0) = wk8 := by decide +kernel
theorem wk9_eq : roundL wk8 (numL.getD 8 0) = wk9 := by decide +kernel
theorem wk10_eq : roundL wk9 (numL.getD 9 0) = wk10 := by decide +kernel
theorem wk11_eq : roundL wk10 (numL.getD 10 0) = wk11 := by decide +kernel
theorem wk12_eq : roundL wk11 (numL.getD 11 0) = wk12 := by decide +kernel
theorem wk13_eq : roundL wk12 (numL.getD 12 0) = wk13 := by decide +kernel
theorem wk14_eq : roundL wk13 (numL.getD 13 0) = wk14 := by decide +kernel
theorem wk15_eq : roundL wk14 (numL.getD 14 0) = wk15 := by decide +kernel
theorem wk16_eq : roundL wk15 (numL.getD 15 0) = wk16 := by decide +kernel
theorem wk17_eq : roundL wk16 (numL.getD 16 0) = wk17 := by decide +kernel
theorem wk18_eq : roundL wk17 (numL.getD 17 0) = wk18 := by decide +kernel
theorem wk19_eq : roundL wk18 (numL.getD 18 0) = wk19 := by decide +kernel
theorem wk20_eq : roundL wk19 (numL.getD 19 0) = wk20 := by decide +kernel
theorem wk21_eq : roundL wk20 (numL.getD 20 0) = wk21 := by decide +kernel
theorem wk22_eq : roundL wk21 (numL.getD 21 0) = wk22 := by decide +kernel
theorem wk23_eq : roundL wk22 (numL.getD 22 0) = wk23 := by decide +kernel
theorem wk24_eq : roundL wk23 (numL.getD 23 0) = wk24 := by decide +kernel
theorem perm_wake : permL wk0 = wk24 := by
  unfold permL
  iterate 24 rw [permF_step]
  rw [show permF wk0 0 = wk0 from rfl, wk1_eq, wk2_eq, wk3_eq, wk4_eq, wk5_eq, wk6_eq, wk7_eq, wk8_eq, wk9_eq, wk10_eq, wk11_eq, wk12_eq, wk13_eq, wk14_eq, wk15_eq, wk16_eq, wk17_eq, wk18_eq, wk19_eq, wk20_eq, wk21_eq, wk22_eq, wk23_eq, wk24_eq]
theorem id_wake : idF wk24 32 = wakeId := by decide +kernel
theorem sum_wake : sumB [] = wakeId := by
  unfold sumB
  rw [show padC ([] : List UInt8).length = 0 + 1 from rfl, sumF_succ, sumF_zero, Nat.mul_zero, soak_wake, show ([1, 0, 0, 0, 0, 0, 0, 0, 0, 0, 0, 0, 0, 0, 0, 0, 9223372036854775808, 0, 0, 0, 0, 0, 0, 0, 0] : List Nat) = wk0 from rfl, perm_wake, id_wake]
end Go.Proofs.YtficnjnnhcadaaaDoor

/-
  A SMALL LOGIC OVER THE KIT's WALK, PART MF: arrays of bytes and of numbers compared.
  Conditions: none; over any program.
-/
namespace Go.Proofs.YtficnjnnhcadaaaDoor.SL
set_option linter.unusedVariables false
set_option linter.unusedSimpArgs false
open Go Go.RowKit
variable {P : Program} {e : Env}
theorem ints_u (l : List UInt8) : getInts .u8 (uca l).toList = some (l.map fun u => (u.toNat : Int)) := by
  simp only [uca, ucs_map]
  induction l with
  | nil => rfl
  | cons a l ih => simp [getInts, getInts.IntKind.beqK] at *; exact ih
theorem ints_n (l : List Nat) : getInts .u64 (nca l).toList = some (l.map fun (u : Nat) => (u : Int)) := by
  simp only [nca, ncs_map]
  induction l with
  | nil => rfl
  | cons a l ih => simp [getInts, getInts.IntKind.beqK] at *; exact ih
theorem ints_uj {a b : List UInt8} (h : (a.map fun u => (u.toNat : Int)) = b.map fun u => (u.toNat : Int)) : a = b :=
  List.map_inj_right (f := fun u : UInt8 => (u.toNat : Int)) (fun x y h => UInt8.toNat_inj.1 (Int.ofNat.inj h)) |>.1 h
theorem ints_nj {a b : List Nat} (h : (a.map fun (u : Nat) => (u : Int)) = b.map fun (u : Nat) => (u : Int)) : a = b :=
  List.map_inj_right (f := fun u : Nat => (u : Int)) (fun x y h => Int.ofNat.inj h) |>.1 h
theorem blocks_uca (l : List UInt8) : blocksN 4 (.agg (uca l)) = [] := by
  show (uca l).toList.flatMap (blocksN 3) = []
  rw [List.flatMap_eq_nil_iff]
  intro v hv
  simp only [uca, ucs_map] at hv
  obtain ⟨u, _, rfl⟩ := List.mem_map.1 hv
  rfl
theorem blocks_nca (l : List Nat) : blocksN 4 (.agg (nca l)) = [] := by
  show (nca l).toList.flatMap (blocksN 3) = []
  rw [List.flatMap_eq_nil_iff]
  intro v hv
  simp only [nca, ncs_map] at hv
  obtain ⟨u, _, rfl⟩ := List.mem_map.1 hv
  rfl
section eqs
variable {T ty n : Nat} {k : IntKind} {x y : Operand}
theorem ValP.eqAT [EqI P T n k] {xs ys : Array Value} {a : List Int} (hx : e.ev x = some (.agg xs)) (hy : e.ev y = some (.agg ys)) (h1 : getInts k xs.toList = some a) (h2 : getInts k ys.toList = some a) (ha : a.length = n) : ValP P e [] (.binOp .eql T x y ty) (.bool true) := by
  have h := ValP.eqlA (P := P) (T := T) (ty := ty) hx hy h1 h2 ha ha
  simpa using h
variable {a b : List UInt8} {l m : List Nat}
theorem ValP.eqUT [EqI P T n .u8] (hx : e.ev x = some (.agg (uca a))) (hy : e.ev y = some (.agg (uca b))) (h : a = b) (ha : a.length = n) : ValP P e [] (.binOp .eql T x y ty) (.bool true) := by
  subst h
  exact ValP.eqAT hx hy (ints_u a) (ints_u a) (by simpa using ha)
theorem ValP.eqUF [EqI P T n .u8] (hx : e.ev x = some (.agg (uca a))) (hy : e.ev y = some (.agg (uca b))) (h : a ≠ b) (ha : a.length = n) (hb : b.length = n) : ValP P e [] (.binOp .eql T x y ty) (.bool false) := by
  have h' := ValP.eqlA (P := P) (T := T) (ty := ty) hx hy (ints_u a) (ints_u b) (by simpa using ha) (by simpa using hb)
  rwa [decide_eq_false (fun e => h (ints_uj e))] at h'
theorem ValP.neUF [EqI P T n .u8] (hx : e.ev x = some (.agg (uca a))) (hy : e.ev y = some (.agg (uca b))) (h : a = b) (ha : a.length = n) : ValP P e [] (.binOp .neq T x y ty) (.bool false) := by
  subst h
  have h' := ValP.neqA (P := P) (T := T) (ty := ty) hx hy (ints_u a) (ints_u a) (by simpa using ha) (by simpa using ha)
  simpa using h'
theorem ValP.neUT [EqI P T n .u8] (hx : e.ev x = some (.agg (uca a))) (hy : e.ev y = some (.agg (uca b))) (h : a ≠ b) (ha : a.length = n) (hb : b.length = n) : ValP P e [] (.binOp .neq T x y ty) (.bool true) := by
  have h' := ValP.neqA (P := P) (T := T) (ty := ty) hx hy (ints_u a) (ints_u b) (by simpa using ha) (by simpa using hb)
  rwa [decide_eq_false (fun e => h (ints_uj e))] at h'
theorem ValP.neNF [EqI P T n .u64] (hx : e.ev x = some (.agg (nca l))) (hy : e.ev y = some (.agg (nca m))) (h : l = m) (ha : l.length = n) : ValP P e [] (.binOp .neq T x y ty) (.bool false) := by
  subst h
  have h' := ValP.neqA (P := P) (T := T) (ty := ty) hx hy (ints_n l) (ints_n l) (by simpa using ha) (by simpa using ha)
  simpa using h'
theorem ValP.eqU [EqI P T n .u8] (hx : e.ev x = some (.agg (uca a))) (hy : e.ev y = some (.agg (uca b))) (ha : a.length = n) (hb : b.length = n) : ValP P e [] (.binOp .eql T x y ty) (.bool (decide (a = b))) := by
  have h' := ValP.eqlA (P := P) (T := T) (ty := ty) hx hy (ints_u a) (ints_u b) (by simpa using ha) (by simpa using hb)
  have e1 : decide ((a.map fun u => (u.toNat : Int)) = b.map fun u => (u.toNat : Int)) = decide (a = b) := by
    rw [decide_eq_decide]; exact ⟨ints_uj, fun h => by rw [h]⟩
  rwa [e1] at h'
end eqs
theorem ValP.neAF {T ty n : Nat} {k : IntKind} {x y : Operand} [EqI P T n k] {xs ys : Array Value} {a : List Int} (hx : e.ev x = some (.agg xs)) (hy : e.ev y = some (.agg ys)) (h1 : getInts k xs.toList = some a) (h2 : getInts k ys.toList = some a) (ha : a.length = n) : ValP P e [] (.binOp .neq T x y ty) (.bool false) := by
  have h := ValP.neqA (P := P) (T := T) (ty := ty) hx hy h1 h2 ha ha
  simpa using h
theorem ValP.strLss {T ty : TypeId} {x y : Operand} {a b : List UInt8} {v : Bool} (hx : e.ev x = some (.string ⟨a.toArray⟩)) (hy : e.ev y = some (.string ⟨b.toArray⟩)) (h : Op.bytesLess a b = v) : ValP P e [] (.binOp .lss T x y ty) (.bool v) :=
  .bin hx hy (fun w => guard_str w) fun w => by simp [binOp, Op.stringOp, ByteArray.toList_eq, h]
section sli
variable {T ty : TypeId} {x y : Operand} {n c : Nat}
theorem guard_sli {op : BinOp} {p : Option Addr} {v : Value} (w : World) : (eqGuard op T x y (.slice p n c) v).run P w = .ok () w := by
  unfold eqGuard; cases op <;> cases v <;> simp
theorem eqIn_ln {E : TypeId} [UnI P T (.slice E)] (d : Nat) (w : World) : (Op.equalIn (d + 1) T (.slice none n c) (.slice none 0 0)).run P w = .ok true w := by
  rw [Op.equalIn.eq_def]; simp only [Sem.run_bind, run_un (P := P) (T := T), Result.andThen_ok]; rfl
theorem eqIn_ls {E : TypeId} {a : Addr} [UnI P T (.slice E)] (d : Nat) (w : World) : (Op.equalIn (d + 1) T (.slice (some a) n c) (.slice none 0 0)).run P w = .ok false w := by
  rw [Op.equalIn.eq_def]; simp only [Sem.run_bind, run_un (P := P) (T := T), Result.andThen_ok]; rfl
theorem ValP.sliNilT {E : TypeId} [UnI P T (.slice E)] (hx : e.ev x = some (.slice none n c)) (hy : e.ev y = some (.slice none 0 0)) : ValP P e [] (.binOp .eql T x y ty) (.bool true) :=
  .bin hx hy (fun w => guard_sli w) fun w => by
    have := eqIn_ln (P := P) (T := T) (n := n) (c := c) (Op.maxDepth - 1) w
    simp only [binOp, Op.equal, Sem.run_bind]
    rw [show Op.maxDepth = Op.maxDepth - 1 + 1 from rfl, this]; rfl
theorem ValP.sliNilF {E : TypeId} {a : Addr} [UnI P T (.slice E)] (hx : e.ev x = some (.slice (some a) n c)) (hy : e.ev y = some (.slice none 0 0)) : ValP P e [] (.binOp .eql T x y ty) (.bool false) :=
  .bin hx hy (fun w => guard_sli w) fun w => by
    have := eqIn_ls (P := P) (T := T) (a := a) (n := n) (c := c) (Op.maxDepth - 1) w
    simp only [binOp, Op.equal, Sem.run_bind]
    rw [show Op.maxDepth = Op.maxDepth - 1 + 1 from rfl, this]; rfl
end sli
/-- An array of bytes, as it comes in. -/
theorem is_id {w : World} {cs : List Value} {n : Nat} (h : (Ty.arr n (.int .u8)).is w cs) : ∃ x : List UInt8, x.length = n ∧ cs = ucs x := by
  obtain ⟨hl, h⟩ := h
  have hl' : cs.length = n := by simpa [Ty.cells] using hl
  have hk : ∀ i, i < n → ∃ u : UInt8, cs[i]? = some (.int .u8 (u.toNat : Int)) := fun i hi => by
    obtain ⟨u, _, hu⟩ := is_u8 (h i hi)
    refine ⟨u, ?_⟩
    have h2 := congrArg (·[0]?) hu
    simpa [Ty.cells, List.getElem?_take, List.getElem?_drop] using h2
  refine ⟨(List.range n).map fun i => if h : i < n then Classical.choose (hk i h) else 0, by simp, ?_⟩
  apply List.ext_getElem?
  intro i
  by_cases hi : i < n
  · have hu := Classical.choose_spec (hk i hi)
    rw [hu, ucs_map]
    simp only [List.map_map, List.getElem?_map, List.getElem?_range hi, Option.map_some, Function.comp, hi, dif_pos]
  · rw [List.getElem?_eq_none (by omega), List.getElem?_eq_none (by rw [ucs_len]; simp; omega)]
end Go.Proofs.YtficnjnnhcadaaaDoor.SL

/-
  The sponge: the law's first line.
  Conditions: none.
-/
namespace Go.Proofs.YtficnjnnhcadaaaDoor
open Go Go.RowKit SL
set_option maxRecDepth 8000
set_option maxHeartbeats 4000000
set_option linter.unusedSimpArgs false
set_option linter.unusedVariables false
attribute [local irreducible] SL.CW SL.LW SL.DW Calls SL.Ret SL.RetG SL.beginQ SL.roundQ SL.rangeQ SL.inQ SL.RW SL.AnyW SL.thenQ SL.thenC SL.thenW SL.blkQ SL.finQ SL.ValP SL.NewP SL.SetP SL.CallP SL.Rd SL.Wr SL.Known
theorem TurnAt.bel {w w' : World} (h : TurnAt w) (hb : Bel w.heap.size [] w w') : TurnAt w' := by
  obtain ⟨E, fr, h⟩ := h
  exact ⟨E, fr, by rw [hb.block _ (Array.getElem?_eq_some_iff.1 h).1 (by simp)]; exact h⟩
theorem NumAt.bel {w w' : World} (h : NumAt w) (hb : Bel w.heap.size [] w w') : NumAt w' := by
  obtain ⟨E, fr, h⟩ := h
  exact ⟨E, fr, by rw [hb.block _ (Array.getElem?_eq_some_iff.1 h).1 (by simp)]; exact h⟩
theorem wakes_calls (w : World) (hT : TurnAt w) (hN : NumAt w) : Calls Tryd.prog 7 #[] w (Ret w (.bool true)) := by
  have hPa0 := Parse_calls [99, 53, 100, 50, 52, 54, 48, 49, 56, 54, 102, 55, 50, 51, 51, 99, 57, 50, 55, 101, 55, 100, 98, 50, 100, 99, 99, 55, 48, 51, 99, 48, 101, 53, 48, 48, 98, 54, 53, 51, 99, 97, 56, 50, 50, 55, 51, 98, 55, 98, 102, 97, 100, 56, 48, 52, 53, 100, 56, 53, 97, 52, 55, 48]
  rw [par_wake] at hPa0
  have hPa : ∀ w, Calls Tryd.prog 23 #[.string ⟨#[99, 53, 100, 50, 52, 54, 48, 49, 56, 54, 102, 55, 50, 51, 51, 99, 57, 50, 55, 101, 55, 100, 98, 50, 100, 99, 99, 55, 48, 51, 99, 48, 101, 53, 48, 48, 98, 54, 53, 51, 99, 97, 56, 50, 50, 55, 51, 98, 55, 98, 102, 97, 100, 56, 48, 52, 53, 100, 56, 53, 97, 52, 55, 48]⟩] w (Ret w (.tuple #[.agg (uca wakeId), .int .i64 0])) := hPa0
  have hRd : ∀ w' {fs}, St w [] fs w' → Calls Tryd.prog 17 #[.agg #[.int .u64 0, .int .u64 0, .int .u64 0, .int .u64 0, .int .u64 0, .int .u64 0, .int .u64 0, .int .u64 0, .int .u64 0, .int .u64 0, .int .u64 0, .int .u64 0, .int .u64 0, .int .u64 0, .int .u64 0, .int .u64 0, .int .u64 0, .int .u64 0, .int .u64 0, .int .u64 0, .int .u64 0, .int .u64 0, .int .u64 0, .int .u64 0, .int .u64 0], .int .i64 0] w' (Ret w' (.tuple #[.agg (nca (1 :: List.replicate 24 0)), .int .i64 0])) := fun w' fs hst => by
    have h := Round_calls (List.replicate 25 0) 0 (by decide) rfl (rep_lt 25) w' (hT.st hst) (hN.st hst)
    rw [round_wake] at h
    exact h
  have hSu : ∀ w', Bel w.heap.size [] w w' → Calls Tryd.prog 10 #[.slice none 0 0] w' (Ret w' (.agg (uca wakeId))) := fun w' hb => by
    have h := Sum_calls [] (.slice none 0 0) w' .nil (by decide) (hT.bel hb) (hN.bel hb)
    rwa [sum_wake] at h
  have hLs : ∀ w, Calls Tryd.prog 21 #[.agg #[.int .u8 0, .int .u8 0, .int .u8 0, .int .u8 0, .int .u8 0, .int .u8 0, .int .u8 0, .int .u8 0, .int .u8 0, .int .u8 0, .int .u8 0, .int .u8 0, .int .u8 0, .int .u8 0, .int .u8 0, .int .u8 0, .int .u8 0, .int .u8 0, .int .u8 0, .int .u8 0, .int .u8 0, .int .u8 0, .int .u8 0, .int .u8 0, .int .u8 0, .int .u8 0, .int .u8 0, .int .u8 0, .int .u8 0, .int .u8 0, .int .u8 0, .int .u8 0], .agg (uca wakeId)] w (Ret w (.bool true)) := fun w => by
    have h := Less_calls (List.replicate 32 0) wakeId rfl rfl w
    rw [less_wake] at h
    exact h
  refine enter (args := []) _ [] [] Tryd.func7 rfl Tryd.ntmps7 rfl (by simp) .nil ?_
  (refine CW.seq ?_; refine CW.region ?_; apply LW.v0; rfl; rfl; apply ValP.assign; rfl; apply LW.nil; refine thenN ?_; refine CW.seq ?_; refine CW.region ?_; apply LW.callE; rfl; rfl; infer_instance; apply ArgsOk.cons; rfl; exact ArgsOk.nil; intro w _; exact hPa w; apply LW.v0; rfl; rfl; apply ValP.move; rfl; apply LW.v0; rfl; rfl; apply ValP.extractN; rfl; rfl; apply LW.v0; rfl; rfl; apply ValP.extractN; rfl; rfl; apply LW.allocA; rfl; intro _; apply LW.store; rfl; rfl; apply SetAt.head; apply wr_ucaO; rfl; rfl; apply LW.v0; rfl; rfl; apply ValP.assign; rfl; apply LW.nil; refine thenN ?_; refine CW.seq ?_; refine CW.region ?_; apply LW.v0; rfl; rfl; apply ValP.buildA; exact PartsOk.nil; rfl; simp only [fillC, wc, wrCells, Value.cells, List.toList_toArray, List.setIfInBounds_toArray, List.set_cons_succ, List.set_cons_zero, Nat.reduceAdd, Nat.reduceMul, Nat.zero_add, Nat.mul_one]; rfl; apply LW.callE; rfl; rfl; infer_instance; apply ArgsOk.cons; rfl; apply ArgsOk.cons; rfl; exact ArgsOk.nil; intro w _; exact hRd w (by assumption); apply LW.v0; rfl; rfl; apply ValP.move; rfl; apply LW.v0; rfl; rfl; apply ValP.extractN; rfl; rfl; apply LW.v0; rfl; rfl; apply ValP.extractN; rfl; rfl; apply LW.allocA; rfl; intro _; apply LW.store; rfl; rfl; apply SetAt.head; apply wr_ncaO; rfl; rfl; apply LW.v0; rfl; rfl; apply ValP.assign; rfl; apply LW.nil; refine thenN ?_; refine CW.seq ?_; apply CW.pre; refine AnyW.any 19 mixed (by decide +kernel) ?_; (try simp only [tsOf_cons, tsOf_nil, tsOf_app]); apply DW.v0; rfl; rfl; rfl; exact WantT.none; rfl; apply ValP.move; rfl; apply DW.v0; rfl; rfl; rfl; exact WantT.none; rfl; apply ValP.eqT; rfl; rfl; omega; apply DW.v0; rfl; rfl; rfl; exact WantT.none; rfl; apply ValP.move; rfl; apply DW.v0; rfl; rfl; rfl; apply wantYes; rfl; rfl; (with_reducible rfl); rfl; apply ValP.move; rfl; apply DW.v0; rfl; rfl; rfl; apply wantYes; rfl; rfl; (with_reducible rfl); rfl; apply ValP.eqT; rfl; rfl; omega; apply DW.v0; rfl; rfl; rfl; exact WantT.none; rfl; apply ValP.pickT'; rfl; (with_reducible rfl); rfl; apply DW.v0; rfl; rfl; rfl; exact WantT.none; rfl; apply ValP.move; rfl; apply DW.callE; rfl; rfl; rfl; apply wantYes; rfl; rfl; (with_reducible rfl); rfl; infer_instance; apply ArgsOk.cons; rfl; exact ArgsOk.nil; rfl; exact ReadAll.nil; intro w _ _; exact hSu w (by assumption); apply DW.loadO; rfl; rfl; rfl; apply wantYes; rfl; rfl; (with_reducible rfl); rfl; apply TRead.tail; apply TRead.head; exact ancB_nil; apply rd_ucaW; rfl; apply DW.v0; rfl; rfl; rfl; apply wantYes; rfl; rfl; (with_reducible rfl); rfl; apply ValP.eqUT; rfl; rfl; rfl; rfl; apply DW.v0; rfl; rfl; rfl; exact WantT.none; rfl; apply ValP.pickT'; rfl; (with_reducible rfl); rfl; apply DW.v0; rfl; rfl; rfl; exact WantT.none; rfl; apply ValP.move; rfl; apply DW.loadO; rfl; rfl; rfl; apply wantYes; rfl; rfl; (with_reducible rfl); rfl; apply TRead.head; exact ancB_nil; apply rd_ncaW; rfl; apply DW.v0; rfl; rfl; rfl; apply wantYes; rfl; rfl; (with_reducible rfl); rfl; apply ValP.buildA; apply PartsOk.cons; rfl; exact PartsOk.nil; rfl; simp only [fillC, wc, wrCells, Value.cells, List.toList_toArray, List.setIfInBounds_toArray, List.set_cons_succ, List.set_cons_zero, Nat.reduceAdd, Nat.reduceMul, Nat.zero_add, Nat.mul_one]; rfl; apply DW.v0; rfl; rfl; rfl; apply wantYes; rfl; rfl; (with_reducible rfl); rfl; exact ValP.eqAT (a := 1 :: List.replicate 24 0) rfl rfl (by kernel_rfl) (by kernel_rfl) rfl; apply DW.v0; rfl; rfl; rfl; exact WantT.none; rfl; apply ValP.pickT'; rfl; (with_reducible rfl); rfl; apply DW.v0; rfl; rfl; rfl; exact WantT.none; rfl; apply ValP.move; rfl; apply DW.v0; rfl; rfl; rfl; apply wantYes; rfl; rfl; (with_reducible rfl); rfl; apply ValP.buildA; exact PartsOk.nil; rfl; simp only [fillC, wc, wrCells, Value.cells, List.toList_toArray, List.setIfInBounds_toArray, List.set_cons_succ, List.set_cons_zero, Nat.reduceAdd, Nat.reduceMul, Nat.zero_add, Nat.mul_one]; rfl; apply DW.loadO; rfl; rfl; rfl; apply wantYes; rfl; rfl; (with_reducible rfl); rfl; apply TRead.tail; apply TRead.head; exact ancB_nil; apply rd_ucaW; rfl; apply DW.nil; simp only [fsOf_cons, fsOf_nil, fsOf_app, fsOf_tsOf, fsOf_new]; apply LW.guardT'; rfl; rfl; (with_reducible rfl); apply LW.callE; rfl; rfl; infer_instance; apply ArgsOk.cons; rfl; apply ArgsOk.cons; rfl; exact ArgsOk.nil; intro w _; exact hLs w; apply LW.v0; rfl; rfl; apply ValP.pickT'; rfl; (with_reducible rfl); rfl; apply LW.v0; rfl; rfl; apply ValP.assign; rfl; apply LW.nil; refine thenN ?_; refine CW.ret ?_)
  (apply finR; exact .inl rfl; rfl; rfl; rfl; apply ResL.cons; exact Res.tmp rfl; exact ResL.nil)
  rfl
end Go.Proofs.YtficnjnnhcadaaaDoor

/-
  The sponge: what the laws do with bytes.
  Conditions: none.
-/
namespace Go.Proofs.YtficnjnnhcadaaaDoor
open Go Go.RowKit SL
set_option maxRecDepth 8000
set_option maxHeartbeats 4000000
set_option linter.unusedSimpArgs false
set_option linter.unusedVariables false
attribute [local irreducible] SL.CW SL.LW SL.DW Calls SL.Ret SL.RetG SL.beginQ SL.roundQ SL.rangeQ SL.inQ SL.RW SL.AnyW SL.thenQ SL.thenC SL.thenW SL.blkQ SL.finQ SL.ValP SL.NewP SL.SetP SL.CallP SL.Rd SL.Wr SL.Known
theorem Clone_calls (l : List UInt8) (v : Value) (w : World) (hv : RowAt w 1 v l.length (ucs l)) (hl : l.length ≤ 100000) : Calls Tryd.prog 26 #[v] w (RetG w [] (fun v' gs => IsRow 5 1 v' l.length (ucs l) gs)) := by
  obtain ⟨p, c, rfl, _, _⟩ := hv.form
  cases p with
  | none =>
    have h0 : l.length = 0 := by
      rcases Nat.eq_zero_or_pos l.length with h | h
      · exact h
      · obtain ⟨_, _, _, _, _, _, he, _, _⟩ := hv.pos h
        cases he
    have hn : l = [] := List.length_eq_zero_iff.1 h0
    subst hn
    refine enter (args := [_]) _ [] [] Tryd.func26 rfl Tryd.ntmps26 rfl (by simp) .nil ?_
    (refine CW.seq ?_; refine CW.region ?_; apply LW.v0; rfl; rfl; apply ValP.assign; rfl; apply LW.nil; refine thenN ?_; refine CW.seq ?_; refine CW.seq ?_; refine CW.region ?_; apply LW.v0; rfl; rfl; apply ValP.move; rfl; apply LW.v0; rfl; rfl; apply ValP.sliNilT; rfl; rfl; apply LW.nil; refine thenN ?_; apply CW.condT; rfl; (with_reducible rfl); refine CW.seq ?_; refine CW.region ?_; apply LW.v0; rfl; rfl; apply ValP.assign; rfl; apply LW.nil; refine thenN ?_; refine CW.ret ?_; refine thenR ?_)
    exact fin [] (.inl rfl) rfl rfl (by (apply ResL.cons; exact Res.tmp rfl; exact ResL.nil)) (List.Sublist.refl _) .nil
  | some a =>
    refine enter (args := [_]) _ [] [] Tryd.func26 rfl Tryd.ntmps26 rfl (by simp) .nil ?_
    (refine CW.seq ?_; refine CW.region ?_; apply LW.v0; rfl; rfl; apply ValP.assign; rfl; apply LW.nil; refine thenN ?_; refine CW.seq ?_; refine CW.seq ?_; refine CW.region ?_; apply LW.v0; rfl; rfl; apply ValP.move; rfl; apply LW.v0; rfl; rfl; apply ValP.sliNilF; rfl; rfl; apply LW.nil; refine thenN ?_; apply CW.condF; rfl; (with_reducible rfl); refine CW.skip ?_; refine thenN ?_; refine CW.seq ?_; refine CW.region ?_)
    refine LW.lay0 rfl inferInstance inferInstance fun v0 seg hrow => ?_
    (apply LW.v0; rfl; rfl; apply ValP.move; rfl)
    (apply LW.appendAny; (case hrow => assumption); rfl; rfl; infer_instance; infer_instance; infer_instance; rfl; rfl; rfl; exact AtSeg.head)
    · exact fun w hs => hv.st hs
    · exact ucs_cells l
    · simp only [maxLen]; omega
    · omega
    intro v1 seg1 hrow1
    refine ⟨_, (by (exact AtSeg.head)), ?_⟩
    simp only [List.nil_append, Nat.zero_add, List.append_nil] at hrow1 ⊢
    (apply LW.v0; rfl; rfl; apply ValP.assign; rfl; apply LW.nil; refine thenN ?_; refine CW.ret ?_)
    refine fin (vs := [v1]) seg1 (.inl rfl) rfl rfl (by (apply ResL.cons; exact Res.tmp rfl; exact ResL.nil)) ?_ hrow1
    (exact List.Sublist.refl _)
def fewB (b : List UInt8) : List UInt8 := b.take 800
theorem fewB_len (b : List UInt8) : (fewB b).length ≤ 800 := by simp [fewB]; omega
def RowR (b : List UInt8) (v : Value) (gs : Fs) : Prop := IsRow 5 1 v b.length (ucs b) gs
theorem few_calls (b : List UInt8) (v : Value) (w : World) (hv : RowAt w 1 v b.length (ucs b)) : Calls Tryd.prog 8 #[v] w (RetG w [] (RowR (fewB b))) := by
  obtain ⟨p, c, rfl, hc, hm⟩ := hv.form
  simp only [maxLen] at hm
  have hl : (fewB b).length = min b.length 800 := by simp [fewB, Nat.min_comm]
  have hv2 : RowAt w 1 (.slice p (min b.length 800) c) (fewB b).length (ucs (fewB b)) := by
    have := hv.take (k := min b.length 800) (by omega)
    rw [ucs_take] at this
    rw [hl, fewB, show b.take 800 = b.take (min b.length 800) by rw [Nat.min_comm, ← List.take_take, List.take_length]]
    exact this
  have hC : ∀ w' {fs}, St w [] fs w' → Calls Tryd.prog 26 #[.slice p (min b.length 800) c] w' (RetG w' [] (fun v' gs => IsRow 5 1 v' (fewB b).length (ucs (fewB b)) gs)) := fun w' fs hst => Clone_calls (fewB b) _ w' (hv2.st hst) (by have := fewB_len b; omega)
  refine enter (args := [_]) _ [] [] Tryd.func8 rfl Tryd.ntmps8 rfl (by simp) .nil ?_
  (refine CW.seq ?_; refine CW.region ?_; apply LW.v0; rfl; rfl; apply ValP.assign; rfl; apply LW.nil; refine thenN ?_; refine CW.seq ?_; refine CW.region ?_; apply LW.v0; rfl; rfl; apply ValP.move; rfl; apply LW.v0; rfl; rfl; apply ValP.move; rfl; apply LW.v0; rfl; rfl; apply ValP.lenR; rfl; infer_instance; rfl; apply LW.v0; rfl; rfl; apply ValP.minZL; rfl; rfl; decide; apply LW.v0; rfl; rfl; apply ValP.cutTo; infer_instance; infer_instance; rfl; rfl; omega)
  refine LW.callR rfl rfl inferInstance (by (apply ArgsOk.cons; rfl; exact ArgsOk.nil)) (fun w hst => hC w hst) ?_
  intro v1 gs1 hrow
  (apply LW.v0; rfl; rfl; apply ValP.assign; rfl; apply LW.nil; refine thenN ?_; refine CW.ret ?_)
  refine fin (vs := [v1]) gs1 (.inl rfl) rfl rfl (by (apply ResL.cons; exact Res.tmp rfl; exact ResL.nil)) ?_ hrow
  exact List.sublist_append_left _ _
/-! ### Bytes compared -/
theorem same_calls (a b : List UInt8) (va vb : Value) (w : World) (ha : RowAt w 1 va a.length (ucs a)) (hb : RowAt w 1 vb b.length (ucs b)) : Calls Tryd.prog 12 #[va, vb] w (Ret w (.bool (decide (a = b)))) := by
  refine enter (args := [_, _]) _ [] [] Tryd.func12 rfl Tryd.ntmps12 rfl (by simp) .nil ?_
  (refine CW.seq ?_; refine CW.region ?_; apply LW.v0; rfl; rfl; apply ValP.assign; rfl; apply LW.nil; refine thenN ?_; refine CW.seq ?_; refine CW.region ?_; apply LW.v0; rfl; rfl; apply ValP.move; rfl)
  refine LW.toStr rfl inferInstance inferInstance inferInstance rfl (fun w hs => ha.st hs) ?_
  (apply LW.v0; rfl; rfl; apply ValP.move; rfl)
  refine LW.toStr rfl inferInstance inferInstance inferInstance rfl (fun w hs => hb.st hs) ?_
  (apply LW.v0; rfl; rfl; apply ValP.strEq; rfl; rfl; apply LW.v0; rfl; rfl; apply ValP.assign; rfl; apply LW.nil; refine thenN ?_; refine CW.ret ?_)
  (apply finR; exact .inl rfl; rfl; rfl; rfl; apply ResL.cons; exact Res.tmp rfl; exact ResL.nil)
  simp [tup, ← bytes_eq]
theorem Equal_calls (a b : List UInt8) (va vb : Value) (w : World) (ha : RowAt w 1 va a.length (ucs a)) (hb : RowAt w 1 vb b.length (ucs b)) : Calls Tryd.prog 25 #[va, vb] w (Ret w (.bool (decide (a = b)))) := by
  refine enter (args := [_, _]) _ [] [] Tryd.func25 rfl Tryd.ntmps25 rfl (by simp) .nil ?_
  (refine CW.seq ?_; refine CW.region ?_; apply LW.v0; rfl; rfl; apply ValP.assign; rfl; apply LW.nil; refine thenN ?_; refine CW.seq ?_; refine CW.region ?_; apply LW.v0; rfl; rfl; apply ValP.move; rfl)
  refine LW.toStr rfl inferInstance inferInstance inferInstance rfl (fun w hs => ha.st hs) ?_
  (apply LW.v0; rfl; rfl; apply ValP.move; rfl)
  refine LW.toStr rfl inferInstance inferInstance inferInstance rfl (fun w hs => hb.st hs) ?_
  (apply LW.v0; rfl; rfl; apply ValP.strEq; rfl; rfl; apply LW.v0; rfl; rfl; apply ValP.assign; rfl; apply LW.nil; refine thenN ?_; refine CW.ret ?_)
  (apply finR; exact .inl rfl; rfl; rfl; rfl; apply ResL.cons; exact Res.tmp rfl; exact ResL.nil)
  simp [tup, ← bytes_eq]
theorem HasPrefix_calls (a b : List UInt8) (va vb : Value) (w : World) (ha : RowAt w 1 va a.length (ucs a)) (hb : RowAt w 1 vb b.length (ucs b)) (hl : b.length ≤ a.length) : Calls Tryd.prog 14 #[va, vb] w (Ret w (.bool (decide (a.take b.length = b)))) := by
  obtain ⟨p, c, rfl, hc, hm⟩ := ha.form
  obtain ⟨q, d, rfl, hd, hn⟩ := hb.form
  simp only [maxLen] at hm hn
  have ht := ha.take (k := b.length) hl
  rw [ucs_take] at ht
  have htl : (a.take b.length).length = b.length := by simp [hl]
  have ht : RowAt w 1 (.slice p b.length c) (a.take b.length).length (ucs (a.take b.length)) := by rw [htl]; exact ht
  have hE : ∀ w' {fs}, St w [] fs w' → Calls Tryd.prog 25 #[.slice p b.length c, .slice q b.length d] w' (Ret w' (.bool (decide (a.take b.length = b)))) := fun w' fs hst => by
    exact Equal_calls (a.take b.length) b _ _ w' (ht.st hst) (hb.st hst)
  refine enter (args := [_, _]) _ [] [] Tryd.func14 rfl Tryd.ntmps14 rfl (by simp) .nil ?_
  (refine CW.seq ?_; refine CW.region ?_; apply LW.v0; rfl; rfl; apply ValP.assign; rfl; apply LW.nil; refine thenN ?_; refine CW.seq ?_; refine CW.region ?_; apply LW.v0; rfl; rfl; apply ValP.move; rfl; apply LW.v0; rfl; rfl; apply ValP.lenR; rfl; infer_instance; rfl; apply LW.v0; rfl; rfl; apply ValP.move; rfl; apply LW.v0; rfl; rfl; apply ValP.lenR; rfl; infer_instance; rfl; apply LW.v0; rfl; rfl; apply ValP.geqT; rfl; rfl; omega; apply LW.v0; rfl; rfl; apply ValP.move; rfl; apply LW.guardT'; rfl; rfl; (with_reducible rfl); apply LW.v0; rfl; rfl; apply ValP.move; rfl; apply LW.guardT'; rfl; rfl; (with_reducible rfl); apply LW.v0; rfl; rfl; apply ValP.move; rfl; apply LW.guardT'; rfl; rfl; (with_reducible rfl); apply LW.v0; rfl; rfl; apply ValP.lenR; rfl; infer_instance; rfl; apply LW.guardT'; rfl; rfl; (with_reducible rfl); apply LW.v0; rfl; rfl; apply ValP.cutTo; infer_instance; infer_instance; rfl; rfl; omega; apply LW.guardT'; rfl; rfl; (with_reducible rfl); apply LW.v0; rfl; rfl; apply ValP.move; rfl; apply LW.guardT'; rfl; rfl; (with_reducible rfl); apply LW.callE; rfl; rfl; infer_instance; apply ArgsOk.cons; rfl; apply ArgsOk.cons; rfl; exact ArgsOk.nil; intro w _; exact hE w (by assumption); apply LW.v0; rfl; rfl; apply ValP.pickT'; rfl; (with_reducible rfl); rfl; apply LW.v0; rfl; rfl; apply ValP.assign; rfl; apply LW.nil; refine thenN ?_; refine CW.ret ?_)
  (apply finR; exact .inl rfl; rfl; rfl; rfl; apply ResL.cons; exact Res.tmp rfl; exact ResL.nil)
  rfl
def litF (l : List UInt8) : Nat → Nat
  | 0 => 0
  | k + 1 => litF l k ||| ((l.getD k 0).toNat * 2 ^ (8 * k) % 18446744073709551616)
theorem litF_lt (l : List UInt8) (k : Nat) : litF l k < 18446744073709551616 := by
  induction k with
  | zero => exact Nat.zero_lt_succ _
  | succ k ih => exact Nat.or_lt_two_pow (n := 64) ih (Nat.mod_lt _ (by decide))
theorem litF_succ (l : List UInt8) (k : Nat) : litF l (k + 1) = litF l k ||| ((l.getD k 0).toNat * 2 ^ (8 * k) % 18446744073709551616) := rfl
theorem litF_zero (l : List UInt8) : litF l 0 = 0 := rfl
attribute [local irreducible] litF
theorem little_calls (l : List UInt8) (v : Value) (w : World) (hv : RowAt w 1 v l.length (ucs l)) (hl : 8 ≤ l.length) : Calls Tryd.prog 16 #[v] w (Ret w (.int .u64 (litF l 8 : Int))) := by
  obtain ⟨b, off, c, cs, E, fr, rfl, hb, hx⟩ := hv.pos (by omega)
  refine enter (args := [_]) _ [] [] Tryd.func16 rfl Tryd.ntmps16 rfl (by simp) .nil ?_
  (refine CW.seq ?_; refine CW.region ?_; apply LW.v0; rfl; rfl; apply ValP.assign; rfl; apply LW.nil; refine thenN ?_; refine CW.seq ?_; refine CW.seq ?_; refine CW.region ?_; apply LW.v0; rfl; rfl; apply ValP.move; rfl; apply LW.nil; refine thenN ?_; refine CW.block ?_)
  refine CW.loop (fun k : Nat => ([(4, .int .i64 (k : Int)), (2, .int .u64 (litF l k : Int)), (0, .slice (some ⟨b, off, none⟩) l.length c)], []))
    (fun k => k ≤ 8) (fun k => 8 - k) 0 (Nat.zero_le _) ⟨rfl, by rw [litF_zero]; rfl, rfl, trivial⟩ (List.nil_sublist _) ?_
  intro k hk
  dsimp only at hk ⊢
  rcases Nat.lt_or_ge k 8 with h8 | h8
  · have hrd : Rd Tryd.prog 5 (.cells cs E fr) (off + k * 1) (.int .u8 ((l.getD k 0).toNat : Int)) := Rd.elem1 hx (ucs_one l) (drop_get (by omega)) rfl
    have hbt : (l.getD k 0).toNat < 256 := UInt8.toNat_lt _
    have hlk := litF_lt l k
    (refine CW.seq ?_; refine CW.region ?_; apply LW.v0; rfl; rfl; apply ValP.lssT; rfl; rfl; omega; apply LW.nil; refine thenN ?_; refine CW.seq ?_; apply CW.condT; rfl; (with_reducible rfl); refine CW.skip ?_; refine thenN ?_; refine CW.seq ?_; refine CW.block ?_; refine CW.seq ?_; refine CW.region ?_; apply LW.v0; rfl; rfl; apply ValP.move; rfl; apply LW.v0; rfl; rfl; apply ValP.assign; rfl; apply LW.nil; refine thenN ?_; refine CW.region ?_; apply LW.v0; rfl; rfl; apply ValP.move; rfl; apply LW.v0; rfl; rfl; apply ValP.move; rfl; apply LW.v0; rfl; rfl; apply ValP.move; rfl; apply LW.v0; rfl; rfl; apply ValP.indexAddrS; rfl; rfl; rfl; omega; apply LW.load; rfl; rfl; exact Known.ext (by assumption) (by simp); assumption; apply LW.v0; rfl; rfl; apply ValP.convN; rfl; omega; omega; apply LW.v0; rfl; rfl; apply ValP.move; rfl; apply LW.v0; rfl; rfl; apply ValP.mulZK; rfl; rfl; decide; omega; apply LW.v0; rfl; rfl; apply ValP.shlU; rfl; rfl; omega; apply LW.v0; rfl; rfl; apply ValP.orU; rfl; rfl; assumption; exact Nat.mod_lt _ (by decide); apply LW.v0; rfl; rfl; apply ValP.assign; rfl; apply LW.nil; refine blkN ?_; refine thenN ?_; refine CW.region ?_; apply LW.v0; rfl; rfl; apply ValP.addZL; rfl; rfl; decide; omega; apply LW.v0; rfl; rfl; apply ValP.move; rfl; apply LW.nil)
    refine thenX ⟨rfl, k + 1, h8, by omega, ⟨rfl, ?_, rfl, trivial⟩, List.nil_sublist _⟩
    rw [litF_succ]; rfl
  · obtain rfl : k = 8 := by omega
    (refine CW.seq ?_; refine CW.region ?_; apply LW.v0; rfl; rfl; apply ValP.lssF; rfl; rfl; omega; apply LW.nil; refine thenN ?_; refine CW.seq ?_; apply CW.condF; rfl; (with_reducible rfl); refine CW.exit ?_; refine thenE ?_; refine thenE ?_; refine blkE rfl ?_; refine thenN ?_; refine CW.seq ?_; refine CW.region ?_; apply LW.v0; rfl; rfl; apply ValP.move; rfl; apply LW.v0; rfl; rfl; apply ValP.assign; rfl; apply LW.nil; refine thenN ?_; refine CW.ret ?_)
    (apply finR; exact .inl rfl; rfl; rfl; rfl; apply ResL.cons; exact Res.tmp rfl; exact ResL.nil)
    rfl
end Go.Proofs.YtficnjnnhcadaaaDoor

/-
  The sponge: plain laws of digits, of order and of padded bytes.
  Conditions: none.
-/
namespace Go.Proofs.YtficnjnnhcadaaaDoor
open Go Go.RowKit SL
set_option maxRecDepth 8000
set_option linter.unusedSimpArgs false
set_option linter.unusedVariables false
/-! ### Order -/
theorem less_bev : ∀ (x y : List UInt8), x.length = y.length → Op.bytesLess x y = decide (bev x < bev y)
  | [], [], _ => by simp [Op.bytesLess]
  | [], _ :: _, h => by simp at h
  | _ :: _, [], h => by simp at h
  | a :: x, b :: y, h => by
    have hl : x.length = y.length := by simpa using h
    have ih := less_bev x y hl
    have hx := bev_lt x
    have hy := bev_lt y
    rw [← hl] at hy
    simp only [Op.bytesLess, bev_cons, ih, ← hl]
    rcases Nat.lt_trichotomy a.toNat b.toNat with hc | hc | hc
    · have h1 : (a.toNat + 1) * 2 ^ (8 * x.length) ≤ b.toNat * 2 ^ (8 * x.length) := Nat.mul_le_mul_right _ hc
      rw [Nat.succ_mul] at h1
      have h2 : a < b := UInt8.lt_iff_toNat_lt.2 hc
      simp only [h2, decide_true, Bool.true_or]
      rw [eq_comm, decide_eq_true_eq]
      omega
    · have h2 : a = b := UInt8.toNat_inj.1 hc
      subst h2
      simp
    · have h1 : (b.toNat + 1) * 2 ^ (8 * x.length) ≤ a.toNat * 2 ^ (8 * x.length) := Nat.mul_le_mul_right _ hc
      rw [Nat.succ_mul] at h1
      have h2 : ¬ a < b := fun h => by have := UInt8.lt_iff_toNat_lt.1 h; omega
      have h3 : a ≠ b := fun h => by subst h; omega
      simp only [h2, decide_false, Bool.false_or]
      have h4 : (a == b) = false := by simpa using h3
      rw [h4, Bool.false_and, eq_comm, decide_eq_false_iff_not]
      omega
theorem hexd_lt : ∀ d, d < 16 → ∀ e, e < 16 → (decide (hexd d < hexd e) = decide (d < e) ∧ (hexd d == hexd e) = decide (d = e)) := by decide
theorem less_text : ∀ (x y : List UInt8), x.length = y.length → Op.bytesLess (idText x) (idText y) = Op.bytesLess x y
  | [], [], _ => rfl
  | [], _ :: _, h => by simp at h
  | _ :: _, [], h => by simp at h
  | a :: x, b :: y, h => by
    have ih := less_text x y (by simpa using h)
    have ha := a.toNat_lt
    have hb := b.toNat_lt
    have e1 : idText (a :: x) = hexd (a.toNat / 16) :: hexd (a.toNat % 16) :: idText x := rfl
    have e2 : idText (b :: y) = hexd (b.toNat / 16) :: hexd (b.toNat % 16) :: idText y := rfl
    obtain ⟨h1, h2⟩ := hexd_lt (a.toNat / 16) (by omega) (b.toNat / 16) (by omega)
    obtain ⟨h3, h4⟩ := hexd_lt (a.toNat % 16) (by omega) (b.toNat % 16) (by omega)
    rw [e1, e2]
    simp only [Op.bytesLess, ih, h1, h2, h3, h4]
    have g1 : decide (a < b) = decide (a.toNat < b.toNat) := decide_eq_decide.2 UInt8.lt_iff_toNat_lt
    have g2 : (a == b) = decide (a.toNat = b.toNat) := by rw [Bool.eq_iff_iff]; simp [UInt8.toNat_inj]
    rw [g1, g2]
    rcases Nat.lt_trichotomy a.toNat b.toNat with hc | hc | hc
    · have : decide (a.toNat < b.toNat) = true := by simpa using hc
      rw [this]
      rcases Nat.lt_or_ge (a.toNat / 16) (b.toNat / 16) with hd | hd
      · simp [hd]
      · have h5 : a.toNat / 16 = b.toNat / 16 := by omega
        have h6 : a.toNat % 16 < b.toNat % 16 := by omega
        simp [h5, h6]
    · rw [hc]; simp
    · have h7 : ¬ a.toNat < b.toNat := by omega
      have h8 : ¬ a.toNat = b.toNat := by omega
      rcases Nat.lt_or_ge (b.toNat / 16) (a.toNat / 16) with hd | hd
      · have h5 : ¬ a.toNat / 16 < b.toNat / 16 := by omega
        have h6 : ¬ a.toNat / 16 = b.toNat / 16 := by omega
        simp [h5, h6, h7, h8]
      · have h5 : a.toNat / 16 = b.toNat / 16 := by omega
        have h6 : ¬ a.toNat % 16 < b.toNat % 16 := by omega
        have h9 : ¬ a.toNat % 16 = b.toNat % 16 := by omega
        simp [h5, h6, h7, h8, h9]
theorem text_less (x y : List UInt8) (h : x.length = y.length) : Op.bytesLess (idText x) (idText y) = lessB x y := by
  rw [less_text x y h, less_bev x y h]; rfl
theorem bev_inj : ∀ (x y : List UInt8), x.length = y.length → bev x = bev y → x = y
  | [], [], _, _ => rfl
  | [], _ :: _, h, _ => by simp at h
  | _ :: _, [], h, _ => by simp at h
  | a :: x, b :: y, h, he => by
    have hl : x.length = y.length := by simpa using h
    have hx := bev_lt x
    have hy := bev_lt y
    rw [← hl] at hy
    rw [bev_cons, bev_cons, ← hl] at he
    have hc : a.toNat = b.toNat := by
      rcases Nat.lt_trichotomy a.toNat b.toNat with hc | hc | hc
      · have h1 : (a.toNat + 1) * 2 ^ (8 * x.length) ≤ b.toNat * 2 ^ (8 * x.length) := Nat.mul_le_mul_right _ hc
        rw [Nat.succ_mul] at h1
        omega
      · exact hc
      · have h1 : (b.toNat + 1) * 2 ^ (8 * x.length) ≤ a.toNat * 2 ^ (8 * x.length) := Nat.mul_le_mul_right _ hc
        rw [Nat.succ_mul] at h1
        omega
    rw [hc] at he
    rw [UInt8.toNat_inj.1 hc, bev_inj x y hl (by omega)]
/-! ### Digits lead back -/
theorem text_get : ∀ (x : List UInt8) (k : Nat), k < x.length → (idText x).getD (2 * k) 0 = hexd ((x.getD k 0).toNat / 16) ∧ (idText x).getD (2 * k + 1) 0 = hexd ((x.getD k 0).toNat % 16)
  | [], k, h => by simp at h
  | a :: x, 0, _ => ⟨rfl, rfl⟩
  | a :: x, k + 1, h => by
    have ih := text_get x k (by simpa using h)
    have e1 : idText (a :: x) = hexd (a.toNat / 16) :: hexd (a.toNat % 16) :: idText x := rfl
    rw [e1, show 2 * (k + 1) = 2 * k + 1 + 1 by omega]
    simpa using ih
theorem parF_text (x : List UInt8) (hx : x.length = 32) : ∀ k, k ≤ 32 → parF (idText x) (2 * k) = x.take k ++ List.replicate (32 - k) 0
  | 0, _ => by rw [Nat.mul_zero, parF_zero]; simp
  | k + 1, hk => by
    have ih := parF_text x hx k (by omega)
    obtain ⟨g1, g2⟩ := text_get x k (by omega)
    have hu := (x.getD k 0).toNat_lt
    have h1 : hexu ((idText x).getD (2 * k) 0) = some ((x.getD k 0).toNat / 16) := by rw [g1]; exact hexu_hexd _ (by omega)
    have h2 : hexu ((idText x).getD (2 * k + 1) 0) = some ((x.getD k 0).toNat % 16) := by rw [g2]; exact hexu_hexd _ (by omega)
    rw [parF_two (by omega) h1 h2, ih]
    have e1 : UInt8.ofNat ((16 * ((x.getD k 0).toNat / 16) + (x.getD k 0).toNat % 16) % 256) = x.getD k 0 := by
      apply UInt8.toNat_inj.1
      rw [UInt8.toNat_ofNat']; omega
    rw [e1]
    have e2 : x.getD k 0 = x[k]'(by omega) := by rw [List.getD_eq_getElem?_getD, List.getElem?_eq_getElem (by omega)]; rfl
    rw [e2, List.set_append_right _ _ (by simp; omega)]
    have e3 : k - (x.take k).length = 0 := by simp; omega
    rw [e3, show 32 - k = (32 - (k + 1)) + 1 by omega, List.replicate_succ, List.set_cons_zero, List.take_succ_eq_append_getElem (show k < x.length by omega), List.append_assoc]
    rfl
theorem text_digits (x : List UInt8) : digB (idText x) = true := by
  unfold digB
  rw [List.all_eq_true]
  intro u hu
  obtain ⟨v, hv, hm⟩ := List.mem_flatMap.1 hu
  have hlt := v.toNat_lt
  rcases List.mem_cons.1 hm with rfl | hm
  · rw [hexu_hexd _ (by omega)]; rfl
  · rcases List.mem_cons.1 hm with rfl | hm
    · rw [hexu_hexd _ (by omega)]; rfl
    · cases hm
theorem par_text (x : List UInt8) (hx : x.length = 32) : parB (idText x) = some x := by
  unfold parB
  rw [if_pos ⟨by rw [idText_len, hx], text_digits x⟩]
  have := parF_text x hx 32 (Nat.le_refl _)
  rw [show 2 * 32 = 64 from rfl] at this
  rw [this]
  simp [List.take_of_length_le (Nat.le_of_eq hx)]
theorem untext : ∀ (n : Nat) (s : List UInt8), s.length = 2 * n → digB s = true → ∃ x, x.length = n ∧ idText x = s
  | 0, s, h, _ => ⟨[], rfl, by rw [List.length_eq_zero_iff.1 (show s.length = 0 by omega)]; rfl⟩
  | n + 1, [], h, _ => by simp at h
  | n + 1, [a], h, _ => by simp at h; omega
  | n + 1, a :: b :: s, h, hd => by
    unfold digB at hd
    simp only [List.all_cons, Bool.and_eq_true] at hd
    obtain ⟨ha, hb, hs⟩ := hd
    obtain ⟨d, ha⟩ := Option.isSome_iff_exists.1 ha
    obtain ⟨e, hb⟩ := Option.isSome_iff_exists.1 hb
    obtain ⟨x, hx, ht⟩ := untext n s (by simp at h; omega) hs
    have hd := hexu_lt ha
    have he := hexu_lt hb
    refine ⟨UInt8.ofNat (16 * d + e) :: x, by simp [hx], ?_⟩
    have hv : (UInt8.ofNat (16 * d + e)).toNat = 16 * d + e := by rw [UInt8.toNat_ofNat']; omega
    show hexd ((UInt8.ofNat (16 * d + e)).toNat / 16) :: hexd ((UInt8.ofNat (16 * d + e)).toNat % 16) :: idText x = _
    rw [hv, ht, show (16 * d + e) / 16 = d by omega, show (16 * d + e) % 16 = e by omega, hexd_hexu ha, hexd_hexu hb]
theorem text_par {s z : List UInt8} (h : parB s = some z) : idText z = s := by
  have h0 : s.length = 64 ∧ digB s = true := by
    unfold parB at h
    split at h
    · assumption
    · cases h
  obtain ⟨x, hx, ht⟩ := untext 32 s h0.1 h0.2
  have := par_text x hx
  rw [ht, h] at this
  rw [Option.some.inj this, ht]
/-! ### Padded bytes -/
theorem pad1_get (b : List UInt8) (i : Nat) (hi : i < padN b.length) : (pad1 b).getD i 0 = if i = b.length then 1 else b.getD i 0 := by
  have hlt := padN_lt b.length
  unfold pad1
  rw [List.getD_eq_getElem?_getD, List.getElem?_set]
  split
  · rename_i h
    subst h
    rw [if_pos (by simp; omega), if_pos rfl]; rfl
  · rename_i h
    rw [if_neg (fun e => h e.symm), List.getElem?_append]
    split
    · rw [List.getD_eq_getElem?_getD]
    · rename_i hge
      rw [List.getElem?_replicate]
      have : b[i]? = none := List.getElem?_eq_none (by omega)
      rw [List.getD_eq_getElem?_getD, this]
      split <;> rfl
theorem padB_get (b : List UInt8) (i : Nat) (hi : i < padN b.length) : (padB b).getD i 0 = if i = padN b.length - 1 then (pad1 b).getD i 0 ||| 128 else (pad1 b).getD i 0 := by
  unfold padB
  rw [List.getD_eq_getElem?_getD, List.getElem?_set]
  split
  · rename_i h
    subst h
    rw [if_pos (by rw [pad1_len]; exact hi), if_pos rfl]; rfl
  · rename_i h
    rw [if_neg (fun e => h e.symm), List.getD_eq_getElem?_getD]
theorem pad_inj {a b : List UInt8} (h : padB a = padB b) : a = b := by
  have hN : padN a.length = padN b.length := by rw [← padB_len, ← padB_len, h]
  have ha := padN_lt a.length
  have hb := padN_lt b.length
  have key : ∀ (a b : List UInt8), padB a = padB b → padN a.length = padN b.length → ¬ a.length < b.length := fun a b h hN hl => by
    have ha := padN_lt a.length
    have hb := padN_lt b.length
    have e1 := padB_get a b.length (by omega)
    have e2 := padB_get b b.length hb
    have p1 : (pad1 a).getD b.length 0 = 0 := by
      rw [pad1_get a b.length (by omega), if_neg (by omega), List.getD_eq_getElem?_getD, List.getElem?_eq_none (by omega)]; rfl
    have p2 : (pad1 b).getD b.length 0 = 1 := by rw [pad1_get b b.length hb, if_pos rfl]
    rw [p1] at e1
    rw [p2] at e2
    rw [h, e2, hN] at e1
    split at e1
    · exact absurd e1 (by decide)
    · exact absurd e1 (by decide)
  have hl : a.length = b.length := by
    rcases Nat.lt_trichotomy a.length b.length with hc | hc | hc
    · exact absurd hc (key a b h hN)
    · exact hc
    · exact absurd hc (key b a h.symm hN.symm)
  apply List.ext_getElem hl
  intro i h1 h2
  have e1 := padB_get a i (by omega)
  have e2 := padB_get b i (by omega)
  have hne : i ≠ padN a.length - 1 := by omega
  rw [if_neg hne, pad1_get a i (by omega), if_neg (by omega)] at e1
  rw [if_neg (by omega), pad1_get b i (by omega), if_neg (by omega)] at e2
  rw [h, e2, List.getD_eq_getElem?_getD, List.getD_eq_getElem?_getD, List.getElem?_eq_getElem h1, List.getElem?_eq_getElem h2] at e1
  simpa using e1.symm
theorem pad_prefix (b : List UInt8) : (padB b).take b.length = b := by
  have hlt := padN_lt b.length
  apply List.ext_getElem
  · rw [List.length_take, padB_len]; omega
  · intro i h1 h2
    have e1 := padB_get b i (by omega)
    rw [if_neg (by omega), pad1_get b i (by omega), if_neg (by omega), List.getD_eq_getElem?_getD, List.getD_eq_getElem?_getD, List.getElem?_eq_getElem h2, List.getElem?_eq_getElem (by rw [padB_len]; omega)] at e1
    rw [List.getElem_take]
    simpa using e1
end Go.Proofs.YtficnjnnhcadaaaDoor

/-
  The sponge: plain laws of bytes that are soaked up.
  Conditions: none.
-/
namespace Go.Proofs.YtficnjnnhcadaaaDoor
open Go Go.RowKit SL
set_option maxRecDepth 8000
set_option linter.unusedSimpArgs false
set_option linter.unusedVariables false
/-- Eight bytes from a place on. -/
def litO (p : List UInt8) (o : Nat) : Nat → Nat
  | 0 => 0
  | k + 1 => litO p o k ||| ((p.getD (o + k) 0).toNat * 2 ^ (8 * k) % 18446744073709551616)
theorem litF_litO {l p : List UInt8} {o : Nat} : ∀ k, (∀ j, j < k → l.getD j 0 = p.getD (o + j) 0) → litF l k = litO p o k
  | 0, _ => rfl
  | k + 1, h => by
    rw [litF_succ, litO, litF_litO k (fun j hj => h j (by omega)), h k (by omega)]
theorem litO_lt (p : List UInt8) (o : Nat) : ∀ k, k ≤ 8 → litO p o k < 2 ^ (8 * k)
  | 0, _ => by simp [litO]
  | k + 1, hk => by
    have ih := litO_lt p o k (by omega)
    have hu := (p.getD (o + k) 0).toNat_lt
    have h1 : (p.getD (o + k) 0).toNat * 2 ^ (8 * k) < 2 ^ (8 * (k + 1)) := by
      rw [show 8 * (k + 1) = 8 + 8 * k by omega, Nat.pow_add]
      exact Nat.mul_lt_mul_of_pos_right hu (Nat.pow_pos (by decide))
    rw [litO]
    exact Nat.or_lt_two_pow (Nat.lt_of_lt_of_le ih (Nat.pow_le_pow_right (by decide) (by omega))) (Nat.lt_of_le_of_lt (Nat.mod_le _ _) h1)
theorem or_xor {a b k : Nat} (h : a < 2 ^ k) : a ||| (b * 2 ^ k) = a ^^^ (b * 2 ^ k) := by
  apply Nat.eq_of_testBit_eq
  intro i
  rw [Nat.testBit_or, Nat.testBit_xor]
  rcases Nat.lt_or_ge i k with hi | hi
  · have : (b * 2 ^ k).testBit i = false := by
      rw [Nat.testBit_mul_two_pow]
      have : ¬ k ≤ i := by omega
      simp [this]
    rw [this]; simp
  · have : a.testBit i = false := Nat.testBit_lt_two_pow (Nat.lt_of_lt_of_le h (Nat.pow_le_pow_right (by decide) hi))
    rw [this]; simp
theorem byte_small {u k : Nat} (hu : u < 256) (hk : k < 8) : u * 2 ^ (8 * k) % 18446744073709551616 = u * 2 ^ (8 * k) := by
  apply Nat.mod_eq_of_lt
  have h1 : u * 2 ^ (8 * k) < 2 ^ 8 * 2 ^ (8 * k) := Nat.mul_lt_mul_of_pos_right hu (Nat.pow_pos (by decide))
  rw [← Nat.pow_add] at h1
  exact Nat.lt_of_lt_of_le h1 (show 2 ^ (8 + 8 * k) ≤ 2 ^ 64 from Nat.pow_le_pow_right (by decide) (by omega))
theorem litO_xor (p : List UInt8) (o k : Nat) (hk : k < 8) : litO p o (k + 1) = litO p o k ^^^ ((p.getD (o + k) 0).toNat * 2 ^ (8 * k) % 18446744073709551616) := by
  have hu := (p.getD (o + k) 0).toNat_lt
  rw [litO, byte_small hu hk]
  exact or_xor (litO_lt p o k (by omega))
/-- Lanes to which eight bytes each come. -/
def litS (L : List Nat) (p : List UInt8) (o : Nat) : Nat → List Nat
  | 0 => L
  | i + 1 => (litS L p o i).set i ((litS L p o i).getD i 0 ^^^ litO p (o + 8 * i) 8)
theorem litS_len (L : List Nat) (p : List UInt8) (o k : Nat) : (litS L p o k).length = L.length := by
  induction k with
  | zero => rfl
  | succ k ih => simp [litS, ih]
theorem soak_eight (L : List Nat) (p : List UInt8) (o i : Nat) (hi : i < L.length) : ∀ k, k ≤ 8 → soakF L p o (8 * i + k) = (soakF L p o (8 * i)).set i ((soakF L p o (8 * i)).getD i 0 ^^^ litO p (o + 8 * i) k)
  | 0, _ => by
    have hl := soakF_len L p o (8 * i)
    rw [show litO p (o + 8 * i) 0 = 0 from rfl, Nat.xor_zero, Nat.add_zero]
    apply List.ext_getElem?
    intro j
    rw [List.getElem?_set]
    split
    · rename_i h; subst h
      rw [if_pos (by omega), List.getD_eq_getElem?_getD, List.getElem?_eq_getElem (by omega)]; rfl
    · rfl
  | k + 1, hk => by
    have ih := soak_eight L p o i hi k (by omega)
    have hl := soakF_len L p o (8 * i)
    rw [← Nat.add_assoc, soakF_succ, ih, show (8 * i + k) / 8 = i by omega, show (8 * i + k) % 8 = k by omega, litO_xor p _ k (by omega), List.set_set]
    have hg : ∀ x : Nat, ((soakF L p o (8 * i)).set i x).getD i 0 = x := fun x => by
      rw [List.getD_eq_getElem?_getD, List.getElem?_set_self (by omega)]; rfl
    rw [hg, Nat.xor_assoc, show o + (8 * i + k) = o + 8 * i + k by omega]
theorem litS_soak (L : List Nat) (p : List UInt8) (o : Nat) : ∀ i, i ≤ L.length → litS L p o i = soakF L p o (8 * i)
  | 0, _ => rfl
  | i + 1, hi => by
    rw [litS, litS_soak L p o i (by omega), show 8 * (i + 1) = 8 * i + 8 by omega, soak_eight L p o i hi 8 (Nat.le_refl _)]
/-! ### Digests, eight bytes each -/
theorem idF_get (L : List Nat) : ∀ m, m ≤ 32 → ∀ j, j < m → (idF L m).getD j 0 = UInt8.ofNat (L.getD (j / 8) 0 / 2 ^ (8 * (j % 8)) % 256)
  | 0, _, j, hj => absurd hj (Nat.not_lt_zero j)
  | m + 1, hm, j, hj => by
    have hl := idF_len L m
    rw [idF_succ, List.getD_eq_getElem?_getD, List.getElem?_set]
    split
    · rename_i h; subst h
      rw [if_pos (by omega)]; rfl
    · rw [← List.getD_eq_getElem?_getD]
      exact idF_get L m (by omega) j (by omega)
theorem or_add {a b k : Nat} (h : a < 2 ^ k) : a ||| (b * 2 ^ k) = b * 2 ^ k + a := by
  rw [Nat.or_comm, Nat.mul_comm]
  exact (Nat.two_pow_add_eq_or_of_lt h b).symm
theorem id_lit (L : List Nat) (i : Nat) (hi : i < 4) : ∀ k, k ≤ 8 → litO (idF L 32) (8 * i) k = L.getD i 0 % 2 ^ (8 * k)
  | 0, _ => by simp [litO, Nat.mod_one]
  | k + 1, hk => by
    have ih := id_lit L i hi k (by omega)
    have hg := idF_get L 32 (Nat.le_refl _) (8 * i + k) (by omega)
    rw [show (8 * i + k) / 8 = i by omega, show (8 * i + k) % 8 = k by omega] at hg
    generalize L.getD i 0 = x at *
    have hu : (UInt8.ofNat (x / 2 ^ (8 * k) % 256)).toNat = x / 2 ^ (8 * k) % 256 := by rw [UInt8.toNat_ofNat']; omega
    rw [litO, hg, hu, byte_small (Nat.mod_lt _ (by decide)) (by omega), ih, or_add (Nat.mod_lt _ (Nat.pow_pos (by decide))), show 8 * (k + 1) = 8 * k + 8 by omega, Nat.pow_add, Nat.mod_mul]
    show x / 2 ^ (8 * k) % 256 * 2 ^ (8 * k) + x % 2 ^ (8 * k) = x % 2 ^ (8 * k) + 2 ^ (8 * k) * (x / 2 ^ (8 * k) % 256)
    rw [Nat.add_comm, Nat.mul_comm (x / 2 ^ (8 * k) % 256)]
theorem id_back (L : List Nat) (hb : ∀ i, L.getD i 0 < 18446744073709551616) (i : Nat) (hi : i < 4) : litO (idF L 32) (8 * i) 8 = L.getD i 0 := by
  rw [id_lit L i hi 8 (Nat.le_refl _)]
  exact Nat.mod_eq_of_lt (hb i)
theorem litF_cut (p : List UInt8) (o n : Nat) (hn : 8 ≤ n) (h : o + n ≤ p.length) : litF ((p.drop o).take n) 8 = litO p o 8 :=
  litF_litO 8 fun j hj => by
    rw [List.getD_eq_getElem?_getD, List.getD_eq_getElem?_getD, List.getElem?_take, if_pos (by omega), List.getElem?_drop]
end Go.Proofs.YtficnjnnhcadaaaDoor

/-
  A SMALL LOGIC OVER THE KIT's WALK, PART MG: cuts from a place on, told.
  Conditions: none; over any program.
-/
namespace Go.Proofs.YtficnjnnhcadaaaDoor.SL
set_option linter.unusedVariables false
set_option linter.unusedSimpArgs false
open Go Go.RowKit
variable {P : Program} {e : Env}
section cut
variable {T E x y lo : Nat}
theorem ValP.cutFromO {T E : TypeId} {x lo : Operand} {b o n c k : Nat} {il : IntKind} {z : Value} (hU : UnI P T (.slice E)) (hI : InfoI P E 1 z) (hx : e.ev x = some (.slice (some ⟨b, o, none⟩) n c)) (hl : e.ev lo = some (.int il (k : Int))) (hk : k ≤ n) (hc : k < c) : ValP P e [] (.slice T x (some lo) none none) (.slice (some ⟨b, o + k, none⟩) (n - k) (c - k)) := by
  have h := ValP.cutFrom (P := P) hU hI hx hl hk
  have e1 : cutAt (some ⟨b, o, none⟩) k n c 1 = .slice (some ⟨b, o + k, none⟩) (n - k) (c - k) := by
    unfold cutAt
    rw [if_neg (by omega)]
    simp [Addr.add]
  rwa [e1] at h
theorem ValP.cutArrFrom {T E : TypeId} {x lo : Operand} {b off n k : Nat} {il : IntKind} {z : Value} (hU : UnI P T (.array n E)) (hI : InfoI P E 1 z) (hx : e.ev x = some (.pointer (some ⟨b, off, none⟩))) (hl : e.ev lo = some (.int il (k : Int))) (hk : k < n) : ValP P e [] (.slice T x (some lo) none none) (.slice (some ⟨b, off + k, none⟩) (n - k) (n - k)) := fun ρ w hρ _ d t pos af g => by
  have hu := hU.un
  have h1 : (Instr.sliceAt T (.pointer (some ⟨b, off, none⟩)) (some (.int il (k : Int))) none none).run P w = .ok (.slice (some ⟨b, off + k, none⟩) (n - k) (n - k)) w := by
    have hal : P.arrayLen T = n := by rw [Program.arrayLen, hu]
    have hel : P.elem T = E := by rw [Program.elem, hu]
    have h2 := run_sliceAt_array_l (P := P) w T ⟨b, off, none⟩ (by rw [hal, hel]; exact hu) il (k : Int) (by omega) (by rw [hal]; omega)
    rw [hel, run_size, hal] at h2
    rw [h2]
    simp only [Result.andThen_ok, slicedAt, Int.toNat_natCast]
    rw [if_neg (by omega)]
    simp [Addr.add]
  simp [execOp, hρ x _ hx, hρ lo _ hl, h1]
end cut
end Go.Proofs.YtficnjnnhcadaaaDoor.SL

/-
  The sponge: a digest is block by block of the padded bytes, permuted.
  Conditions: none.
-/
namespace Go.Proofs.YtficnjnnhcadaaaDoor
open Go Go.RowKit SL
set_option maxRecDepth 8000
set_option maxHeartbeats 4000000
set_option linter.unusedSimpArgs false
set_option linter.unusedVariables false
attribute [local irreducible] SL.CW SL.LW SL.DW Calls SL.Ret SL.RetG SL.beginQ SL.roundQ SL.rangeQ SL.inQ SL.RW SL.AnyW SL.thenQ SL.thenC SL.thenW SL.blkQ SL.finQ SL.ValP SL.NewP SL.SetP SL.CallP SL.Rd SL.Wr SL.Known
theorem pad_row {w : World} {g : Nat} {P : List UInt8} {E : TypeId} {fr : Nat × Nat} (h : w.heap[g]? = some (.cells (uca P) E fr)) (hl : P.length ≤ 100000) : RowAt w 1 (.slice (some ⟨g, 0, none⟩) P.length P.length) P.length (ucs P) := by
  have := own_row (off := 0) (n := P.length) (c := P.length) h (by omega) (Nat.le_refl _) (by simp only [maxLen]; omega)
  rwa [List.drop_zero, List.take_length] at this
theorem litS_zero (L : List Nat) (p : List UInt8) (o : Nat) : litS L p o 0 = L := rfl
theorem litS_succ (L : List Nat) (p : List UInt8) (o i : Nat) : litS L p o (i + 1) = (litS L p o i).set i ((litS L p o i).getD i 0 ^^^ litO p (o + 8 * i) 8) := rfl
theorem permF_zero (L : List Nat) : permF L 0 = L := rfl
theorem little_at {w : World} {g o n : Nat} {P : List UInt8} {E : TypeId} {fr : Nat × Nat} (h : w.heap[g]? = some (.cells (uca P) E fr)) (hn : o + n ≤ P.length) (h8 : 8 ≤ n) (hl : P.length ≤ 100000) : Calls Tryd.prog 16 #[.slice (some ⟨g, o, none⟩) n n] w (Ret w (.int .u64 (litO P o 8 : Int))) := by
  have hr := own_row (off := o) (n := n) (c := n) h hn (Nat.le_refl _) (by simp only [maxLen]; omega)
  have hlen : ((P.drop o).take n).length = n := by simp; omega
  have hr2 : RowAt w 1 (.slice (some ⟨g, o, none⟩) n n) ((P.drop o).take n).length (ucs ((P.drop o).take n)) := by rw [hlen]; exact hr
  have := little_calls ((P.drop o).take n) _ w hr2 (by omega)
  rwa [litF_cut P o n h8 hn] at this
attribute [local irreducible] padB sumB permL permF soakF sumF litS litO idF roundL numL
theorem SpongeSoaks_walk (v0 : Value) (l0 : List UInt8) (w : World) (hr0 : RowAt w 1 v0 l0.length (ucs l0)) (hL : TurnAt w ∧ NumAt w) :
    Calls Tryd.prog 4 #[v0] w (Ret w (.bool true)) := by
  have hWk : ∀ w' {fs}, St w [] fs w' → Calls Tryd.prog 7 #[] w' (Ret w' (.bool true)) := fun w' fs hst => wakes_calls w' (hL.1.st hst) (hL.2.st hst)
  have hF0 : ∀ w' {fs}, St w [] fs w' → Calls Tryd.prog 8 #[v0] w' (RetG w' [] (RowR (fewB l0))) := fun w' fs hst => few_calls l0 v0 w' (hr0.st hst)
  have hA8 := fewB_len l0
  generalize fewB l0 = A at *
  obtain ⟨P, hPe⟩ : ∃ P, P = padB A := ⟨_, rfl⟩
  obtain ⟨N, hNe⟩ : ∃ N, N = padC A.length := ⟨_, rfl⟩
  have hlP : P.length = 136 * N := by rw [hPe, hNe, padB_len, padN, padC]; omega
  have hN1 : N = A.length / 136 + 1 := by rw [hNe, padC]
  have hlA : P.length ≤ 100000 := by omega
  obtain ⟨X, hX⟩ : ∃ X, X = idF (sumF P N) 32 := ⟨_, rfl⟩
  have hSB : sumB A = X := by rw [hX, hPe, hNe]; unfold sumB; rfl
  have hXl : X.length = 32 := by rw [hX]; exact idF_len _ _
  have hP : ∀ L : List Nat, L.length = 25 → (∀ i, L.getD i 0 < 18446744073709551616) → ∀ w' {fs}, St w [] fs w' → Calls Tryd.prog 18 #[.agg (nca L)] w' (Ret w' (.agg (nca (permL L)))) := fun L h1 h2 w' fs hst => Permute_calls L h1 h2 w' (hL.1.st hst) (hL.2.st hst)
  have hR : ∀ (L : List Nat) (n : Nat), n < 24 → L.length = 25 → (∀ i, L.getD i 0 < 18446744073709551616) → ∀ w' {fs}, St w [] fs w' → Calls Tryd.prog 17 #[.agg (nca L), .int .i64 (n : Int)] w' (Ret w' (.tuple #[.agg (nca (roundL L (numL.getD n 0))), .int .i64 0])) := fun L n h0 h1 h2 w' fs hst => Round_calls L n h0 h1 h2 w' (hL.1.st hst) (hL.2.st hst)
  refine enter (args := [_]) _ [] [] Tryd.func4 rfl Tryd.ntmps4 rfl (by simp) .nil ?_
  (refine CW.seq ?_; refine CW.region ?_; apply LW.alloc1; rfl; rfl; intro _; apply LW.nil; refine thenN ?_; refine CW.seq ?_; refine CW.seq ?_; refine CW.region ?_; apply LW.callE; rfl; rfl; infer_instance; exact ArgsOk.nil; intro w _; exact hWk w (by assumption); apply LW.v0; rfl; rfl; apply ValP.notT; rfl; (with_reducible rfl); apply LW.nil; refine thenN ?_; apply CW.condF; rfl; (with_reducible rfl); refine CW.skip ?_; refine thenN ?_; refine CW.seq ?_; refine CW.region ?_; apply LW.v0; rfl; rfl; apply ValP.move; rfl)
  refine LW.callR rfl rfl inferInstance (by (apply ArgsOk.cons; rfl; exact ArgsOk.nil)) (fun w hst => hF0 w hst) ?_
  intro va ga hrowA
  replace hrowA : IsRow 5 1 va A.length (ucs A) ga := hrowA
  obtain ⟨qa, ca, rfl⟩ := hrowA.form
  have hSA : ∀ w' {fs}, St w [] fs w' → RowAt w' 1 (.slice qa A.length ca) A.length (ucs A) → Calls Tryd.prog 10 #[.slice qa A.length ca] w' (Ret w' (.agg (uca X))) := fun w' fs hst hr => by rw [← hSB]; exact Sum_calls A _ w' hr (by omega) (hL.1.st hst) (hL.2.st hst)
  (apply LW.v0; rfl; rfl; apply ValP.assign; rfl; apply LW.nil; refine thenN ?_; refine CW.seq ?_; refine CW.region ?_; apply LW.v0; rfl; rfl; apply ValP.move; rfl)
  refine LW.callR rfl rfl inferInstance (by (apply ArgsOk.cons; rfl; exact ArgsOk.nil)) (fun w hst => Pad_calls A _ w (hrowA.atSeg (by (exact AtSeg.head)) hst) (by omega)) ?_
  rintro vp1 gp1 ⟨g, rfl, rfl⟩
  simp only [List.cons_append, List.nil_append]
  rw [← hPe]
  have hHP : ∀ w, RowAt w 1 (.slice (some ⟨g, 0, none⟩) P.length P.length) P.length (ucs P) → RowAt w 1 (.slice qa A.length ca) A.length (ucs A) → Calls Tryd.prog 14 #[.slice (some ⟨g, 0, none⟩) P.length P.length, .slice qa A.length ca] w (Ret w (.bool true)) := fun w h1 h2 => by
    have h := HasPrefix_calls P A _ _ w h1 h2 (by omega)
    rwa [hPe, pad_prefix A, decide_eq_true rfl, ← hPe] at h
  (apply LW.v0; rfl; rfl; apply ValP.assign; rfl; apply LW.nil; refine thenN ?_; refine CW.seq ?_; refine CW.seq ?_; refine CW.region ?_; apply LW.v0; rfl; rfl; apply ValP.move; rfl; apply LW.v0; rfl; rfl; apply ValP.lenR; rfl; infer_instance; rfl; apply LW.v0; rfl; rfl; apply ValP.remZL; rfl; rfl; decide; omega; apply LW.v0; rfl; rfl; apply ValP.neF; rfl; rfl; omega; apply LW.v0; rfl; rfl; apply ValP.move; rfl; apply LW.guardT'; rfl; rfl; (with_reducible rfl); apply LW.v0; rfl; rfl; apply ValP.move; rfl; apply LW.guardT'; rfl; rfl; (with_reducible rfl); apply LW.v0; rfl; rfl; apply ValP.lenR; rfl; infer_instance; rfl; apply LW.guardT'; rfl; rfl; (with_reducible rfl); apply LW.v0; rfl; rfl; apply ValP.move; rfl; apply LW.guardT'; rfl; rfl; (with_reducible rfl); apply LW.v0; rfl; rfl; apply ValP.lenR; rfl; infer_instance; rfl; apply LW.guardT'; rfl; rfl; (with_reducible rfl); apply LW.v0; rfl; rfl; apply ValP.leqF; rfl; rfl; omega; apply LW.v0; rfl; rfl; apply ValP.pickF'; rfl; (with_reducible rfl); rfl; apply LW.v0; rfl; rfl; apply ValP.move; rfl; apply LW.guardT'; rfl; rfl; (with_reducible rfl); apply LW.v0; rfl; rfl; apply ValP.move; rfl; apply LW.guardT'; rfl; rfl; (with_reducible rfl); apply LW.v0; rfl; rfl; apply ValP.lenR; rfl; infer_instance; rfl; apply LW.guardT'; rfl; rfl; (with_reducible rfl); apply LW.v0; rfl; rfl; apply ValP.move; rfl; apply LW.guardT'; rfl; rfl; (with_reducible rfl); apply LW.v0; rfl; rfl; apply ValP.lenR; rfl; infer_instance; rfl; apply LW.guardT'; rfl; rfl; (with_reducible rfl); apply LW.v0; rfl; rfl; apply ValP.addZL; rfl; rfl; decide; omega; apply LW.guardT'; rfl; rfl; (with_reducible rfl); apply LW.v0; rfl; rfl; apply ValP.gtrF; rfl; rfl; omega; apply LW.v0; rfl; rfl; apply ValP.pickF'; rfl; (with_reducible rfl); rfl; apply LW.v0; rfl; rfl; apply ValP.move; rfl; apply LW.guardT'; rfl; rfl; (with_reducible rfl); apply LW.v0; rfl; rfl; apply ValP.move; rfl; apply LW.guardT'; rfl; rfl; (with_reducible rfl); apply LW.v0; rfl; rfl; apply ValP.move; rfl; apply LW.guardT'; rfl; rfl; (with_reducible rfl); apply LW.callE; rfl; rfl; infer_instance; apply ArgsOk.cons; rfl; apply ArgsOk.cons; rfl; exact ArgsOk.nil; intro w _; rename_i hst; (exact hHP w (pad_row (hst.own (_, .cells _ _ _) (by (repeat (first | exact List.Mem.head _ | apply List.Mem.tail)))).2 hlA) (hrowA.atSeg (by (repeat (first | exact AtSeg.head | apply AtSeg.cons | apply AtSeg.app))) hst)); apply LW.guardT'; rfl; rfl; (with_reducible rfl); apply LW.v0; rfl; rfl; apply ValP.notT; rfl; (with_reducible rfl); apply LW.v0; rfl; rfl; apply ValP.pickF'; rfl; (with_reducible rfl); rfl; apply LW.nil; refine thenN ?_; apply CW.condF; rfl; (with_reducible rfl); refine CW.skip ?_; refine thenN ?_; refine CW.seq ?_; refine CW.region ?_; apply LW.allocA; rfl; intro _; apply LW.nil; refine thenN ?_; refine CW.seq ?_; refine CW.seq ?_; refine CW.region ?_; apply LW.v0; rfl; rfl; apply ValP.move; rfl)
  refine LW.callR rfl rfl inferInstance (by (apply ArgsOk.cons; rfl; apply ArgsOk.cons; rfl; exact ArgsOk.nil)) (fun w hst => Chunk_calls _ _ _ w) ?_
  rintro v2 gs2 ⟨b1, b2, rfl, rfl⟩
  simp only [List.cons_append, List.nil_append]
  (apply LW.nil; refine thenN ?_; refine CW.block ?_)
  rename_i br bl
  apply CW.rangeFunc
  rfl
  rfl
  infer_instance
  rfl
  exact Tryd.func28
  rfl
  exact Tryd.ntmps28
  rfl
  rfl
  intro l r rec hrec
  (refine CW.seq ?_; refine CW.region ?_; apply LW.v0; rfl; rfl; apply ValP.assign; rfl; apply LW.nil; refine thenN ?_; refine CW.block ?_)
  refine CW.loop (fun c : Nat => ([(4, .int .i64 ((136 * c : Nat) : Int)), (0, .func (.yield l) #[] #[]), (1, .pointer (some ⟨b1, 0, none⟩)), (2, .pointer (some ⟨b2, 0, none⟩))],
    (l, rdy rec) :: (r, .deferred (some [])) :: (b2, .cells #[.int .i64 136] 3 (0, 0)) :: (b1, .cells #[.slice (some ⟨g, 0, none⟩) P.length P.length] 24 (0, 0)) ::
      (bl, .cells (nca (sumF P c)) 33 (0, 0)) :: (g, .cells (uca P) 5 (0, 0)) :: (ga ++ [(br, .cells #[.bool false] 4 (0, 0))])))
    (fun c => c ≤ N) (fun c => N - c) 0 (Nat.zero_le _) ⟨rfl, rfl, rfl, rfl, trivial⟩ (by dsimp only; rw [sumF_zero]; exact List.Sublist.refl _) ?_
  intro c hc
  dsimp only at hc ⊢
  rcases Nat.lt_or_ge c N with hcN | hcN
  · have hle : 136 * c + 136 ≤ P.length := by omega
    (refine CW.seq ?_; refine CW.seq ?_; refine CW.region ?_; apply LW.v0; rfl; rfl; apply ValP.move; rfl; apply LW.load; rfl; rfl; apply Known.at; apply FsAt.tail; apply FsAt.tail; apply FsAt.tail; apply FsAt.head; exact Rd.one' rfl; apply LW.v0; rfl; rfl; apply ValP.lenR; rfl; infer_instance; rfl; apply LW.v0; rfl; rfl; apply ValP.lssT; rfl; rfl; omega; apply LW.nil; refine thenN ?_; apply CW.condT; rfl; (with_reducible rfl); refine CW.skip ?_; refine thenN ?_; refine CW.seq ?_; refine CW.block ?_; refine CW.seq ?_; apply CW.pre; refine AnyW.any 5 mixed (by decide +kernel) ?_; (try simp only [tsOf_cons, tsOf_nil, tsOf_app]); apply DW.loadO; rfl; rfl; rfl; exact WantT.none; rfl; apply TRead.tail; apply TRead.tail; apply TRead.head; exact ancB_nil; exact Rd.one' rfl; apply DW.loadO; rfl; rfl; rfl; exact WantT.none; rfl; apply TRead.tail; apply TRead.tail; apply TRead.tail; apply TRead.head; exact ancB_nil; exact Rd.one' rfl; apply DW.v0; rfl; rfl; rfl; exact WantT.none; rfl; apply ValP.move; rfl; apply DW.v0; rfl; rfl; rfl; exact WantT.none; rfl; apply ValP.cutFromO; infer_instance; infer_instance; rfl; rfl; omega; omega; apply DW.v0; rfl; rfl; rfl; exact WantT.none; rfl; apply ValP.lenR; rfl; infer_instance; rfl; apply DW.nil; simp only [fsOf_cons, fsOf_nil, fsOf_app, fsOf_tsOf, fsOf_new]; apply LW.v0; rfl; rfl; apply ValP.minZ; rfl; rfl; apply LW.v0; rfl; rfl; apply ValP.assign; rfl; apply LW.nil; refine thenN ?_; refine CW.seq ?_; refine CW.region ?_; apply LW.v0; rfl; rfl; apply ValP.move; rfl; apply LW.load; rfl; rfl; apply Known.at; apply FsAt.tail; apply FsAt.tail; apply FsAt.tail; apply FsAt.head; exact Rd.one' rfl; apply LW.v0; rfl; rfl; apply ValP.move; rfl; apply LW.v0; rfl; rfl; apply ValP.move; rfl; apply LW.v0; rfl; rfl; apply ValP.move; rfl; apply LW.v0; rfl; rfl; apply ValP.addZ; rfl; rfl; omega; apply LW.v0; rfl; rfl; apply ValP.move; rfl; apply LW.v0; rfl; rfl; apply ValP.move; rfl; apply LW.v0; rfl; rfl; apply ValP.addZ; rfl; rfl; omega)
    apply LW.v0
    rfl
    rfl
    refine ValP.cut3o (o' := 136 * c) (m := 136) inferInstance inferInstance rfl rfl rfl rfl ?_ ?_ ?_ ?_ ?_
    · show 136 * c + min 136 (P.length - 136 * c) = 136 * c + 136
      omega
    · show 136 * c + min 136 (P.length - 136 * c) = 136 * c + 136
      omega
    · omega
    · omega
    · omega
    apply LW.yield
    rfl
    rfl
    (apply ArgsOk.cons; rfl; exact ArgsOk.nil)
    exact hrec
    (apply FsAt.head)
    rfl
    rfl
    (refine CW.region ?_; apply LW.v0; rfl; rfl; apply ValP.assign; rfl; apply LW.nil; apply beginI; apply SetAt.head; refine CW.block ?_; refine CW.seq ?_; refine CW.seq ?_; refine CW.region ?_; apply LW.v0; rfl; rfl; apply ValP.move; rfl; apply LW.nil; refine thenN ?_; refine CW.block ?_)
    refine CW.loop (fun i : Nat => ([(47, .int .i64 (i : Int)), (5, .slice (some ⟨g, 136 * c, none⟩) 136 136), (4, .pointer (some ⟨bl, 0, none⟩)), (2, .pointer (some ⟨br, 0, none⟩))],
      (l, bsy rec) :: (r, .deferred (some [])) :: (b2, .cells #[.int .i64 136] 3 (0, 0)) :: (b1, .cells #[.slice (some ⟨g, 0, none⟩) P.length P.length] 24 (0, 0)) ::
      (bl, .cells (nca (litS (sumF P c) P (136 * c) i)) 33 (0, 0)) :: (g, .cells (uca P) 5 (0, 0)) :: (ga ++ [(br, .cells #[.bool false] 4 (0, 0))])))
      (fun i => i ≤ 17) (fun i => 17 - i) 0 (Nat.zero_le _) ⟨rfl, rfl, rfl, rfl, trivial⟩ ?_ ?_
    · dsimp only
      rw [litS_zero]
      exact List.Sublist.refl _
    intro i hi
    dsimp only at hi ⊢
    have hls' := sumF_len P c
    have hls := litS_len (sumF P c) P (136 * c) i
    have hso := litS_soak (sumF P c) P (136 * c) i (by omega)
    have hsb : ∀ j, (litS (sumF P c) P (136 * c) i).getD j 0 < 18446744073709551616 := by rw [hso]; exact soakF_lt _ P (136 * c) (sumF_lt P c) (8 * i)
    rcases Nat.lt_or_ge i 17 with hi7 | hi7
    · have hlo : litO P (136 * c + 8 * i) 8 < 18446744073709551616 := litO_lt P _ 8 (Nat.le_refl _)
      have hLit : ∀ w, w.heap[g]? = some (.cells (uca P) 5 (0, 0)) → Calls Tryd.prog 16 #[.slice (some ⟨g, 136 * c + 8 * i, none⟩) (136 - 8 * i) (136 - 8 * i)] w (Ret w (.int .u64 (litO P (136 * c + 8 * i) 8 : Int))) := fun w h => little_at h (by omega) (by omega) (by omega)
      (refine CW.seq ?_; refine CW.region ?_; apply LW.v0; rfl; rfl; apply ValP.lssT; rfl; rfl; omega; apply LW.nil; refine thenN ?_; refine CW.seq ?_; apply CW.condT; rfl; (with_reducible rfl); refine CW.skip ?_; refine thenN ?_; refine CW.seq ?_; refine CW.block ?_; refine CW.seq ?_; refine CW.region ?_; apply LW.v0; rfl; rfl; apply ValP.move; rfl; apply LW.v0; rfl; rfl; apply ValP.assign; rfl; apply LW.nil; refine thenN ?_; apply CW.pre; refine AnyW.any 8 mixed (by decide +kernel) ?_; (try simp only [tsOf_cons, tsOf_nil, tsOf_app]); apply DW.v0; rfl; rfl; rfl; exact WantT.none; rfl; apply ValP.move; rfl; apply DW.v0; rfl; rfl; rfl; exact WantT.none; rfl; apply ValP.indexAddrA; rfl; rfl; rfl; omega; apply DW.loadO; rfl; rfl; rfl; exact WantT.none; rfl; apply TRead.tail; apply TRead.tail; apply TRead.tail; apply TRead.tail; apply TRead.head; exact ancB_nil; apply rd_nca; omega; apply DW.v0; rfl; rfl; rfl; exact WantT.none; rfl; apply ValP.move; rfl; apply DW.v0; rfl; rfl; rfl; exact WantT.none; rfl; apply ValP.move; rfl; apply DW.v0; rfl; rfl; rfl; exact WantT.none; rfl; apply ValP.mulZK; rfl; rfl; decide; omega; apply DW.v0; rfl; rfl; rfl; exact WantT.none; rfl; apply ValP.cutFromO; infer_instance; infer_instance; rfl; rfl; omega; omega; apply DW.callV; rfl; rfl; rfl; exact WantT.none; rfl; infer_instance; apply ArgsOk.cons; rfl; exact ArgsOk.nil; apply RdV.own; omega; apply TRead.tail; apply TRead.tail; apply TRead.tail; apply TRead.tail; apply TRead.tail; apply TRead.head; exact ancB_nil; exact RdV.nil; intro w _ _; rename_i hu; (exact hLit w (hu (_, .cells _ _ _) (by (repeat (first | exact List.Mem.head _ | apply List.Mem.tail))))); apply DW.nil; simp only [fsOf_cons, fsOf_nil, fsOf_app, fsOf_tsOf, fsOf_new]; apply LW.v0; rfl; rfl; apply ValP.xorU; rfl; rfl; exact hsb _; assumption; apply LW.v0; rfl; rfl; apply ValP.indexAddrA; rfl; rfl; rfl; omega; apply LW.store; rfl; rfl; apply SetAt.tail; apply SetAt.tail; apply SetAt.tail; apply SetAt.tail; apply SetAt.head; apply wr_nca; omega; apply LW.nil; refine blkN ?_; refine thenN ?_; refine CW.region ?_; apply LW.v0; rfl; rfl; apply ValP.addZL; rfl; rfl; decide; omega; apply LW.v0; rfl; rfl; apply ValP.move; rfl; apply LW.nil)
      refine thenX ⟨rfl, i + 1, hi7, by omega, ⟨rfl, rfl, rfl, rfl, trivial⟩, ?_⟩
      rw [litS_succ]
      exact List.Sublist.refl _
    · obtain rfl : i = 17 := by omega
      rw [show 8 * 17 = 136 from rfl] at hso
      rw [hso] at hsb hls ⊢
      obtain ⟨S, hS⟩ : ∃ S, S = soakF (sumF P c) P (136 * c) 136 := ⟨_, rfl⟩
      rw [← hS] at hsb hls ⊢
      have hSl : S.length = 25 := by omega
      have hPerm : ∀ w' {fs}, St w [] fs w' → Calls Tryd.prog 18 #[.agg (nca S)] w' (Ret w' (.agg (nca (permL S)))) := hP S hSl hsb
      have hlp := permL_len S hSl
      have hpe : permL S = permF S 24 := by unfold permL; rfl
      (refine CW.seq ?_; refine CW.region ?_; apply LW.v0; rfl; rfl; apply ValP.lssF; rfl; rfl; omega; apply LW.nil; refine thenN ?_; refine CW.seq ?_; apply CW.condF; rfl; (with_reducible rfl); refine CW.exit ?_; refine thenE ?_; refine thenE ?_; refine blkE rfl ?_; refine thenN ?_; refine CW.seq ?_; refine CW.region ?_; apply LW.load; rfl; rfl; apply Known.at; apply FsAt.tail; apply FsAt.tail; apply FsAt.tail; apply FsAt.tail; apply FsAt.head; apply rd_ncaW; assumption; apply LW.allocA; rfl; intro _; apply LW.store; rfl; rfl; apply SetAt.head; apply wr_ncaO; rfl; assumption; apply LW.nil; refine thenN ?_; refine CW.seq ?_; refine CW.seq ?_; refine CW.region ?_; apply LW.v0; rfl; rfl; apply ValP.move; rfl; apply LW.nil; refine thenN ?_; refine CW.block ?_)
      rename_i bn
      refine CW.loop (fun n : Nat => ([(62, .int .i64 (n : Int)), (7, .pointer (some ⟨bn, 0, none⟩)), (4, .pointer (some ⟨bl, 0, none⟩)), (2, .pointer (some ⟨br, 0, none⟩))],
        (bn, .cells (nca (permF S n)) 33 (0, 0)) :: (l, bsy rec) :: (r, .deferred (some [])) :: (b2, .cells #[.int .i64 136] 3 (0, 0)) :: (b1, .cells #[.slice (some ⟨g, 0, none⟩) P.length P.length] 24 (0, 0)) ::
        (bl, .cells (nca S) 33 (0, 0)) :: (g, .cells (uca P) 5 (0, 0)) :: (ga ++ [(br, .cells #[.bool false] 4 (0, 0))])))
        (fun n => n ≤ 24) (fun n => 24 - n) 0 (Nat.zero_le _) ⟨rfl, rfl, rfl, rfl, trivial⟩ ?_ ?_
      · dsimp only
        rw [permF_zero]
        exact List.Sublist.refl _
      intro n hn
      dsimp only at hn ⊢
      have hpl := permF_len S hSl n
      have hpb := permF_lt S hsb n hn
      rcases Nat.lt_or_ge n 24 with hn4 | hn4
      · have hRnd : ∀ w' {fs}, St w [] fs w' → Calls Tryd.prog 17 #[.agg (nca (permF S n)), .int .i64 (n : Int)] w' (Ret w' (.tuple #[.agg (nca (roundL (permF S n) (numL.getD n 0))), .int .i64 0])) := hR (permF S n) n hn4 hpl hpb
        have hrl := roundL_len (permF S n) (numL.getD n 0)
        (refine CW.seq ?_; refine CW.region ?_; apply LW.v0; rfl; rfl; apply ValP.lssT; rfl; rfl; omega; apply LW.nil; refine thenN ?_; refine CW.seq ?_; apply CW.condT; rfl; (with_reducible rfl); refine CW.skip ?_; refine thenN ?_; refine CW.seq ?_; refine CW.block ?_; refine CW.seq ?_; refine CW.region ?_; apply LW.v0; rfl; rfl; apply ValP.move; rfl; apply LW.v0; rfl; rfl; apply ValP.assign; rfl; apply LW.nil; refine thenN ?_; refine CW.seq ?_; refine CW.region ?_; apply LW.load; rfl; rfl; apply Known.at; apply FsAt.head; apply rd_ncaW; assumption; apply LW.v0; rfl; rfl; apply ValP.move; rfl; apply LW.callE; rfl; rfl; infer_instance; apply ArgsOk.cons; rfl; apply ArgsOk.cons; rfl; exact ArgsOk.nil; intro w _; exact hRnd w (by assumption); apply LW.v0; rfl; rfl; apply ValP.move; rfl; apply LW.v0; rfl; rfl; apply ValP.extractN; rfl; rfl; apply LW.v0; rfl; rfl; apply ValP.extractN; rfl; rfl; apply LW.allocA; rfl; intro _; apply LW.store; rfl; rfl; apply SetAt.head; apply wr_ncaO; rfl; assumption; apply LW.v0; rfl; rfl; apply ValP.assign; rfl; apply LW.nil; refine thenN ?_; refine CW.seq ?_; refine CW.seq ?_; refine CW.region ?_; apply LW.v0; rfl; rfl; apply ValP.move; rfl; apply LW.v0; rfl; rfl; apply ValP.neF; rfl; rfl; omega; apply LW.nil; refine thenN ?_; apply CW.condF; rfl; (with_reducible rfl); refine CW.skip ?_; refine thenN ?_; refine CW.region ?_; apply LW.load; rfl; rfl; apply Known.at; apply FsAt.head; apply rd_ncaW; assumption; apply LW.store; rfl; rfl; apply SetAt.tail; apply SetAt.head; apply wr_ncaW; assumption; assumption; apply LW.nil; refine blkN ?_; refine thenN ?_; refine CW.region ?_; apply LW.v0; rfl; rfl; apply ValP.addZL; rfl; rfl; decide; omega; apply LW.v0; rfl; rfl; apply ValP.move; rfl; apply LW.nil)
        refine thenX ⟨rfl, n + 1, hn4, by omega, ⟨rfl, rfl, rfl, rfl, trivial⟩, ?_⟩
        rw [permF_step]
        (apply List.Sublist.cons; exact List.Sublist.refl _)
      · obtain rfl : n = 24 := by omega
        (refine CW.seq ?_; refine CW.region ?_; apply LW.v0; rfl; rfl; apply ValP.lssF; rfl; rfl; omega; apply LW.nil; refine thenN ?_; refine CW.seq ?_; apply CW.condF; rfl; (with_reducible rfl); refine CW.exit ?_; refine thenE ?_; refine thenE ?_; refine blkE rfl ?_; refine thenN ?_; refine CW.seq ?_; refine CW.region ?_; apply LW.load; rfl; rfl; apply Known.at; apply FsAt.tail; apply FsAt.tail; apply FsAt.tail; apply FsAt.tail; apply FsAt.tail; apply FsAt.head; apply rd_ncaW; assumption; apply LW.callE; rfl; rfl; infer_instance; apply ArgsOk.cons; rfl; exact ArgsOk.nil; intro w _; exact hPerm w (by assumption); apply LW.store; rfl; rfl; apply SetAt.tail; apply SetAt.tail; apply SetAt.tail; apply SetAt.tail; apply SetAt.tail; apply SetAt.head; apply wr_ncaW; assumption; assumption; apply LW.nil; refine thenN ?_; refine CW.seq ?_; refine CW.region ?_; apply LW.load; rfl; rfl; apply Known.at; apply FsAt.tail; apply FsAt.tail; apply FsAt.tail; apply FsAt.tail; apply FsAt.tail; apply FsAt.head; apply rd_ncaW; assumption; apply LW.load; rfl; rfl; apply Known.at; apply FsAt.head; apply rd_ncaW; assumption; apply LW.v0; rfl; rfl; apply ValP.neNF; rfl; rfl; assumption; assumption; apply LW.nil; refine thenN ?_; apply CW.condF; rfl; (with_reducible rfl); refine CW.skip ?_; refine blkN ?_; apply roundN; apply SetAt.tail; apply SetAt.head; apply LW.v0; rfl; rfl; apply ValP.notT; rfl; (with_reducible rfl); apply LW.nil; refine thenN ?_; apply CW.condF; rfl; (with_reducible rfl); refine CW.skip ?_; refine blkN ?_; refine thenN ?_; refine CW.region ?_; apply LW.v0; rfl; rfl; apply ValP.move; rfl; apply LW.load; rfl; rfl; apply Known.at; apply FsAt.tail; apply FsAt.tail; apply FsAt.tail; apply FsAt.head; exact Rd.one' rfl; apply LW.v0; rfl; rfl; apply ValP.addZL; rfl; rfl; decide; omega; apply LW.v0; rfl; rfl; apply ValP.assign; rfl; apply LW.nil)
        refine thenX ⟨rfl, c + 1, hcN, by omega, ⟨rfl, rfl, rfl, rfl, trivial⟩, ?_⟩
        rw [sumF_succ, ← hS]
        (apply List.Sublist.cons; exact List.Sublist.refl _)
  · obtain rfl : c = N := by omega
    have hls := sumF_len P c
    (refine CW.seq ?_; refine CW.seq ?_; refine CW.region ?_; apply LW.v0; rfl; rfl; apply ValP.move; rfl; apply LW.load; rfl; rfl; apply Known.at; apply FsAt.tail; apply FsAt.tail; apply FsAt.tail; apply FsAt.head; exact Rd.one' rfl; apply LW.v0; rfl; rfl; apply ValP.lenR; rfl; infer_instance; rfl; apply LW.v0; rfl; rfl; apply ValP.lssF; rfl; rfl; omega; apply LW.nil; refine thenN ?_; apply CW.condF; rfl; (with_reducible rfl); refine CW.exit ?_; refine thenE ?_; refine thenE ?_; refine blkE rfl ?_)
    apply rangeN
    (exact .inr rfl)
    (exact Shut.nil)
    (apply SetAt.head)
    (refine blkN ?_; refine thenM ?_; refine CW.seq ?_; refine CW.region ?_; apply LW.v0; rfl; rfl; apply ValP.move; rfl; apply LW.callE; rfl; rfl; infer_instance; apply ArgsOk.cons; rfl; exact ArgsOk.nil; intro w _; rename_i hst; (exact hSA w hst (hrowA.atSeg (by (repeat (first | exact AtSeg.head | apply AtSeg.cons | apply AtSeg.app))) hst)); apply LW.allocA; rfl; intro _; apply LW.store; rfl; rfl; apply SetAt.head; apply wr_ucaO; rfl; assumption; apply LW.nil; refine thenN ?_; refine CW.seq ?_; refine CW.seq ?_; refine CW.region ?_; apply LW.v0; rfl; rfl; apply ValP.move; rfl; apply LW.nil; refine thenN ?_; refine CW.block ?_)
    rename_i bX
    refine CW.loop (fun i : Nat => ([(82, .int .i64 (i : Int)), (11, .pointer (some ⟨bX, 0, none⟩)), (4, .pointer (some ⟨bl, 0, none⟩)), (2, .pointer (some ⟨br, 0, none⟩))],
      [(bX, .cells (uca X) 27 (0, 0)), (r, .deferred (some [])), (bl, .cells (nca (sumF P c)) 33 (0, 0)), (br, .cells #[.bool false] 4 (0, 0))]))
      (fun i => i ≤ 4) (fun i => 4 - i) 0 (Nat.zero_le _) ⟨rfl, rfl, rfl, rfl, trivial⟩ ?_ ?_
    · (apply List.Sublist.cons_cons; apply List.Sublist.cons; apply List.Sublist.cons_cons; apply List.Sublist.cons; apply List.Sublist.cons; apply List.Sublist.cons_cons; apply List.Sublist.cons; apply List.sublist_append_of_sublist_right; exact List.Sublist.refl _)
    intro i hi
    dsimp only at hi ⊢
    rcases Nat.lt_or_ge i 4 with hi4 | hi4
    · have hLit : ∀ w, w.heap[bX]? = some (.cells (uca X) 27 (0, 0)) → Calls Tryd.prog 16 #[.slice (some ⟨bX, 0 + 8 * i, none⟩) (32 - 8 * i) (32 - 8 * i)] w (Ret w (.int .u64 ((sumF P c).getD i 0 : Int))) := fun w h => by
        have := little_at h (o := 0 + 8 * i) (n := 32 - 8 * i) (by omega) (by omega) (by omega)
        have e : litO X (0 + 8 * i) 8 = (sumF P c).getD i 0 := by rw [Nat.zero_add, hX, id_back _ (sumF_lt P c) i hi4]
        rwa [e] at this
      (refine CW.seq ?_; refine CW.region ?_; apply LW.v0; rfl; rfl; apply ValP.lssT; rfl; rfl; omega; apply LW.nil; refine thenN ?_; refine CW.seq ?_; apply CW.condT; rfl; (with_reducible rfl); refine CW.skip ?_; refine thenN ?_; refine CW.seq ?_; refine CW.block ?_; refine CW.seq ?_; refine CW.region ?_; apply LW.v0; rfl; rfl; apply ValP.move; rfl; apply LW.v0; rfl; rfl; apply ValP.assign; rfl; apply LW.nil; refine thenN ?_; refine CW.seq ?_; apply CW.pre; refine AnyW.any 7 mixed (by decide +kernel) ?_; (try simp only [tsOf_cons, tsOf_nil, tsOf_app]); apply DW.v0; rfl; rfl; rfl; exact WantT.none; rfl; apply ValP.move; rfl; apply DW.v0; rfl; rfl; rfl; exact WantT.none; rfl; apply ValP.indexAddrA; rfl; rfl; rfl; omega; apply DW.loadO; rfl; rfl; rfl; exact WantT.none; rfl; apply TRead.tail; apply TRead.tail; apply TRead.head; exact ancB_nil; apply rd_nca; omega; apply DW.v0; rfl; rfl; rfl; exact WantT.none; rfl; apply ValP.move; rfl; apply DW.v0; rfl; rfl; rfl; exact WantT.none; rfl; apply ValP.mulZK; rfl; rfl; decide; omega; apply DW.v0; rfl; rfl; rfl; exact WantT.none; rfl; apply ValP.cutArrFrom; infer_instance; infer_instance; rfl; rfl; omega; apply DW.callV; rfl; rfl; rfl; exact WantT.none; rfl; infer_instance; apply ArgsOk.cons; rfl; exact ArgsOk.nil; apply RdV.own; omega; apply TRead.head; exact ancB_nil; exact RdV.nil; intro w _ _; rename_i hu; (exact hLit w (hu (_, .cells _ _ _) (by (repeat (first | exact List.Mem.head _ | apply List.Mem.tail))))); apply DW.nil; simp only [fsOf_cons, fsOf_nil, fsOf_app, fsOf_tsOf, fsOf_new]; apply LW.v0; rfl; rfl; apply ValP.neF; rfl; rfl; omega; apply LW.nil; refine thenN ?_; apply CW.condF; rfl; (with_reducible rfl); refine CW.skip ?_; refine blkN ?_; refine thenN ?_; refine CW.region ?_; apply LW.v0; rfl; rfl; apply ValP.addZL; rfl; rfl; decide; omega; apply LW.v0; rfl; rfl; apply ValP.move; rfl; apply LW.nil)
      refine thenX ⟨rfl, i + 1, hi4, by omega, ⟨rfl, rfl, rfl, rfl, trivial⟩, ?_⟩
      (exact List.Sublist.refl _)
    · obtain rfl : i = 4 := by omega
      (refine CW.seq ?_; refine CW.region ?_; apply LW.v0; rfl; rfl; apply ValP.lssF; rfl; rfl; omega; apply LW.nil; refine thenN ?_; refine CW.seq ?_; apply CW.condF; rfl; (with_reducible rfl); refine CW.exit ?_; refine thenE ?_; refine thenE ?_; refine blkE rfl ?_; refine thenN ?_; refine CW.seq ?_; refine CW.region ?_; apply LW.store; rfl; rfl; apply SetAt.tail; apply SetAt.tail; apply SetAt.tail; apply SetAt.head; apply Wr.cells; rfl; rfl; simp only [List.size_toArray, List.length_cons, List.length_nil]; omega; rfl; apply LW.nil; refine thenN ?_; refine CW.ret ?_)
      (apply finRM; exact .inl rfl; apply Shut.cons; apply SetAt.tail; apply SetAt.head; exact Shut.nil; rfl; rfl; apply ResL.cons; apply Res.cell; rfl; apply Known.at; apply FsAt.tail; apply FsAt.tail; apply FsAt.tail; apply FsAt.head; exact Rd.one' rfl; exact ResL.nil)
      rfl
end Go.Proofs.YtficnjnnhcadaaaDoor

/-
  The sponge: what is laid, as the contracts ask for it.
  Conditions: none.
-/
namespace Go.Proofs.YtficnjnnhcadaaaDoor
open Go Go.RowKit SL
theorem var_heap {P : Program} {w : World} {n : String} {g : Nat} {cs : Array Value} (hg : P.globalNamed n = some g) (h : w.var? P n = some cs) : ∃ E fr, w.heap[g]? = some (.cells cs E fr) := by
  unfold World.var? at h
  rw [hg] at h
  simp only [Option.bind_some] at h
  split at h
  · rename_i cs' E fr hh
    cases h
    exact ⟨E, fr, hh⟩
  · cases h
theorem tab_at {P : Program} {W : World} {l : List (String × DataW Unit)} {n : String} {g T E m : Nat} {k : IntKind} {zs : List Int} (h : laidMet P l W) (hm : (n, Lib.tabData k zs) ∈ l) (hg : P.globalNamed n = some g) (hT : (P.globals[g]?).map (·.type) = some T) (hu : P.underlying T = some (.array m E)) (he : P.underlying E = some (.int k)) (hce : P.cellsOf E = 1) (hct : P.cellsOf T = m) :
    ∃ E' fr, W.heap[g]? = some (.cells (zs.map fun z => Value.int k z).toArray E' fr) := by
  obtain ⟨g', t', cs, fuel, p, h1, h2, h3, h4⟩ := Lib.laidMet.reads h hm
  obtain rfl : g = g' := Option.some.inj (hg.symm.trans h1)
  obtain rfl : T = t' := Option.some.inj (hT.symm.trans h2)
  have hc := Lib.cells_of_tab hu he hce hct h4
  obtain ⟨E', fr, hh⟩ := var_heap hg h3
  refine ⟨E', fr, ?_⟩
  rw [hh, ← hc]
theorem laid_at {l : List (String × DataW Unit)} {W : World} (h : laidMetH Tryd.prog l W) (h0 : (l.all fun x => x.2.handleName?.isNone) = true) (h1 : ("sheafer/sponge.turns", Lib.tabData .i64 (turnL.map fun (n : Nat) => (n : Int))) ∈ l) (h2 : ("sheafer/sponge.numbers", Lib.tabData .u64 (numL.map fun (n : Nat) => (n : Int))) ∈ l) : TurnAt W ∧ NumAt W := by
  rw [MakeChecks.laidMetH_plain _ _ _ h0] at h
  exact ⟨tab_at (T := 74) (E := 3) (m := 25) h h1 (by kernel_rfl) (by kernel_rfl) (by kernel_rfl) (by kernel_rfl) (by kernel_rfl) (by kernel_rfl), tab_at (T := 54) (E := 31) (m := 24) h h2 (by kernel_rfl) (by kernel_rfl) (by kernel_rfl) (by kernel_rfl) (by kernel_rfl) (by kernel_rfl)⟩
theorem laid_texts {W : World} (h : laidMetH Tryd.prog Rows.spongeTextsRow.laid W) : TurnAt W ∧ NumAt W := laid_at h (by kernel_rfl) (List.Mem.head _) (List.Mem.tail _ (List.Mem.head _))
theorem laid_pads {W : World} (h : laidMetH Tryd.prog Rows.spongePadsRow.laid W) : TurnAt W ∧ NumAt W := laid_at h (by kernel_rfl) (List.Mem.head _) (List.Mem.tail _ (List.Mem.head _))
theorem laid_sums {W : World} (h : laidMetH Tryd.prog Rows.spongeSumsRow.laid W) : TurnAt W ∧ NumAt W := laid_at h (by kernel_rfl) (List.Mem.head _) (List.Mem.tail _ (List.Mem.head _))
theorem laid_soaks {W : World} (h : laidMetH Tryd.prog Rows.spongeSoaksRow.laid W) : TurnAt W ∧ NumAt W := laid_at h (by kernel_rfl) (List.Mem.head _) (List.Mem.tail _ (List.Mem.head _))
end Go.Proofs.YtficnjnnhcadaaaDoor
