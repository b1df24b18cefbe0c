/-
  Words and their digits: the document's way.
  Conditions: none.
-/
import Derived.Test.YtahoghldnijnbaaW29
namespace Go.Proofs.Ytahoghldnijnbaa
open Go Go.RowKit SL
set_option maxRecDepth 8000
set_option maxHeartbeats 4000000
set_option linter.unusedSimpArgs false
set_option linter.unusedVariables false
attribute [local irreducible] SL.CW SL.LW SL.DW Calls SL.Ret SL.RetG SL.beginQ SL.roundQ SL.rangeQ SL.inQ SL.RW SL.AnyW SL.thenQ SL.thenC SL.thenW SL.blkQ SL.finQ SL.ValP SL.NewP SL.SetP SL.CallP SL.Rd SL.Wr SL.Known
def dI (o : Option Nat) (k : Nat) : Int := match o with | some d => if d < k then (d : Int) else -1 | none => -1
theorem dI_zero (o : Option Nat) : dI o 0 = -1 := by cases o <;> simp [dI]
theorem dI_hit {u : UInt8} {k : Nat} (hk : k < 16) (h : (hexd k).toNat = u.toNat) : dI (hexu u) (k + 1) = (k : Int) := by
  have : hexd k = u := UInt8.toNat_inj.1 h
  rw [← this, hexu_hexd k hk]
  simp [dI]
theorem dI_miss {u : UInt8} {k : Nat} (hk : k < 16) (h : (hexd k).toNat ≠ u.toNat) : dI (hexu u) (k + 1) = dI (hexu u) k := by
  cases hx : hexu u with
  | none => rfl
  | some d =>
    have hd := hexd_hexu hx
    have hne : d ≠ k := fun e => h (by rw [← e, hd])
    show (if d < k + 1 then (d : Int) else -1) = if d < k then (d : Int) else -1
    by_cases h1 : d < k
    · rw [if_pos h1, if_pos (by omega)]
    · rw [if_neg h1, if_neg (by omega)]
theorem digits_get : ∀ k, k < 16 → ([48, 49, 50, 51, 52, 53, 54, 55, 56, 57, 97, 98, 99, 100, 101, 102] : List UInt8)[k]? = some (hexd k) := by decide
theorem rParse_calls (l : List UInt8) (w : World) : Calls Try.prog 50 #[sv l] w (Ret w (match parseV l with | some n => .tuple #[wv n, .bool true] | none => .tuple #[wv 0, .bool false])) := by
  refine enter (args := [_]) _ [] [] Try.func50 rfl Try.ntmps50 rfl (by simp) .nil ?_
  have hpn : ¬ ok0 l → parseV l = none := fun h => by unfold parseV; rw [if_neg h]
  by_cases h1 : 0 < l.length
  · by_cases h2 : l.length ≤ 64
    · (refine CW.seq ?_; refine CW.region ?_; apply LW.allocW; rfl; intro _; apply LW.v0; rfl; rfl; apply ValP.assign; rfl; apply LW.nil; refine thenN ?_; refine CW.seq ?_; refine CW.region ?_; apply LW.allocW; rfl; intro _; apply LW.nil; refine thenN ?_; refine CW.seq ?_; refine CW.seq ?_; refine CW.region ?_; apply LW.v0; rfl; rfl; apply ValP.move; rfl; apply LW.v0; rfl; rfl; apply ValP.lenStr; rfl; infer_instance; rfl; apply LW.v0; rfl; rfl; apply ValP.eqF; rfl; rfl; omega; apply LW.v0; rfl; rfl; apply ValP.move; rfl; apply LW.guardT'; rfl; rfl; (with_reducible rfl); apply LW.v0; rfl; rfl; apply ValP.move; rfl; apply LW.guardT'; rfl; rfl; (with_reducible rfl); apply LW.v0; rfl; rfl; apply ValP.lenStr; rfl; infer_instance; rfl; apply LW.guardT'; rfl; rfl; (with_reducible rfl); apply LW.v0; rfl; rfl; apply ValP.gtrF; rfl; rfl; omega; apply LW.v0; rfl; rfl; apply ValP.pickF'; rfl; (with_reducible rfl); rfl; apply LW.nil; refine thenN ?_; apply CW.condF; rfl; (with_reducible rfl); refine CW.skip ?_; refine thenN ?_; refine CW.seq ?_; refine CW.seq ?_; refine CW.region ?_; apply LW.v0; rfl; rfl; apply ValP.move; rfl; apply LW.v0; rfl; rfl; apply ValP.lenStr; rfl; infer_instance; rfl; apply LW.v0; rfl; rfl; apply ValP.move; rfl; apply LW.nil; refine thenN ?_; refine CW.block ?_)
      rename_i b2 b4
      refine CW.loop (fun x : PX => ([(19, .int .i64 (x.m : Int)), (18, .int .i64 (l.length : Int)), (0, sv l), (4, .pointer (some ⟨b4, 0, none⟩)), (2, .pointer (some ⟨b2, 0, none⟩))], [(b4, .cells (wc x.W) 24 (0, 0)), (b2, .cells (wc 0) 24 (0, 0))]))
        (fun x => x.m ≤ l.length ∧ hexval (l.take x.m) = some x.W) (fun x => l.length - x.m) ⟨0, 0⟩ ⟨Nat.zero_le _, rfl⟩ ⟨rfl, rfl, rfl, rfl, rfl, trivial⟩ (List.Sublist.refl _) ?_
      rintro ⟨m, W⟩ ⟨hm, hW⟩
      dsimp only at hm hW ⊢
      rcases Nat.lt_or_ge m l.length with hlt | hge
      · obtain ⟨u, hu⟩ : ∃ u, u = l[m] := ⟨_, rfl⟩
        have hum : l[m]? = some u := by rw [hu]; exact List.getElem?_eq_getElem hlt
        have hW16 := hexval_lt _ _ _ rfl hW
        rw [List.length_take, Nat.min_eq_left hm] at hW16
        have hW63 : W < 16 ^ 63 := Nat.lt_of_lt_of_le hW16 (Nat.pow_le_pow_right (by decide) (by omega))
        have hW256 : 16 * W + 15 < M256 := by simp only [M256]; omega
        (refine CW.seq ?_; refine CW.region ?_; apply LW.v0; rfl; rfl; apply ValP.lssT; rfl; rfl; omega; apply LW.nil; refine thenN ?_; refine CW.seq ?_; apply CW.condT; rfl; (with_reducible rfl); refine CW.skip ?_; refine thenN ?_; refine CW.seq ?_; refine CW.block ?_; refine CW.seq ?_; refine CW.region ?_; apply LW.v0; rfl; rfl; apply ValP.move; rfl; apply LW.v0; rfl; rfl; apply ValP.assign; rfl; apply LW.nil; refine thenN ?_; refine CW.seq ?_; refine CW.region ?_; apply LW.v0; rfl; rfl; apply ValP.assign; rfl; apply LW.nil; refine thenN ?_; refine CW.seq ?_; refine CW.seq ?_; refine CW.region ?_; apply LW.v0; rfl; rfl; apply ValP.move; rfl; apply LW.nil; refine thenN ?_; refine CW.block ?_)
        refine CW.loop (fun k : Nat => ([(22, .int .i64 (k : Int)), (6, .int .i64 (dI (hexu u) k)), (5, .int .i64 (m : Int)), (19, .int .i64 (m : Int)), (18, .int .i64 (l.length : Int)), (0, sv l), (4, .pointer (some ⟨b4, 0, none⟩)), (2, .pointer (some ⟨b2, 0, none⟩))], [(b4, .cells (wc W) 24 (0, 0)), (b2, .cells (wc 0) 24 (0, 0))]))
          (fun k => k ≤ 16) (fun k => 16 - k) 0 (Nat.zero_le _) ⟨rfl, (by rw [dI_zero]; rfl), rfl, rfl, rfl, rfl, rfl, rfl, trivial⟩ (List.Sublist.refl _) ?_
        intro k hk
        dsimp only at hk ⊢
        rcases Nat.lt_or_ge k 16 with hk16 | hk16
        · have hg := digits_get k hk16
          by_cases he : (hexd k).toNat = u.toNat
          · have hd := dI_hit hk16 he
            (refine CW.seq ?_; refine CW.region ?_; apply LW.v0; rfl; rfl; apply ValP.lssT; rfl; rfl; omega; apply LW.nil; refine thenN ?_; refine CW.seq ?_; apply CW.condT; rfl; (with_reducible rfl); refine CW.skip ?_; refine thenN ?_; refine CW.seq ?_; refine CW.block ?_; refine CW.seq ?_; refine CW.region ?_; apply LW.v0; rfl; rfl; apply ValP.move; rfl; apply LW.v0; rfl; rfl; apply ValP.assign; rfl; apply LW.nil; refine thenN ?_; refine CW.seq ?_; apply CW.pre; refine AnyW.any 5 mixed (by decide +kernel) ?_; (try simp only [tsOf_cons, tsOf_nil, tsOf_app]); apply DW.v0; rfl; rfl; rfl; exact WantT.none; rfl; apply ValP.move; rfl; apply DW.v0; rfl; rfl; rfl; exact WantT.none; rfl; apply ValP.indexSv; infer_instance; rfl; rfl; rfl; assumption; apply DW.v0; rfl; rfl; rfl; exact WantT.none; rfl; apply ValP.move; rfl; apply DW.v0; rfl; rfl; rfl; exact WantT.none; rfl; apply ValP.move; rfl; apply DW.v0; rfl; rfl; rfl; exact WantT.none; rfl; apply ValP.indexSv; infer_instance; rfl; rfl; rfl; assumption; apply DW.nil; simp only [fsOf_cons, fsOf_nil, fsOf_app, fsOf_tsOf, fsOf_new]; apply LW.v0; rfl; rfl; apply ValP.eqT; rfl; rfl; omega; apply LW.nil; refine thenN ?_; apply CW.condT; rfl; (with_reducible rfl); refine CW.region ?_; apply LW.v0; rfl; rfl; apply ValP.move; rfl; apply LW.v0; rfl; rfl; apply ValP.assign; rfl; apply LW.nil; refine blkN ?_; refine thenN ?_; refine CW.region ?_; apply LW.v0; rfl; rfl; apply ValP.addZL; rfl; rfl; decide; omega; apply LW.v0; rfl; rfl; apply ValP.move; rfl; apply LW.nil)
            apply thenX
            exact ⟨rfl, k + 1, hk16, by omega, ⟨rfl, (by rw [hd]; rfl), rfl, rfl, rfl, rfl, rfl, rfl, trivial⟩, List.Sublist.refl _⟩
          · have hd := dI_miss hk16 he
            (refine CW.seq ?_; refine CW.region ?_; apply LW.v0; rfl; rfl; apply ValP.lssT; rfl; rfl; omega; apply LW.nil; refine thenN ?_; refine CW.seq ?_; apply CW.condT; rfl; (with_reducible rfl); refine CW.skip ?_; refine thenN ?_; refine CW.seq ?_; refine CW.block ?_; refine CW.seq ?_; refine CW.region ?_; apply LW.v0; rfl; rfl; apply ValP.move; rfl; apply LW.v0; rfl; rfl; apply ValP.assign; rfl; apply LW.nil; refine thenN ?_; refine CW.seq ?_; apply CW.pre; refine AnyW.any 5 mixed (by decide +kernel) ?_; (try simp only [tsOf_cons, tsOf_nil, tsOf_app]); apply DW.v0; rfl; rfl; rfl; exact WantT.none; rfl; apply ValP.move; rfl; apply DW.v0; rfl; rfl; rfl; exact WantT.none; rfl; apply ValP.indexSv; infer_instance; rfl; rfl; rfl; assumption; apply DW.v0; rfl; rfl; rfl; exact WantT.none; rfl; apply ValP.move; rfl; apply DW.v0; rfl; rfl; rfl; exact WantT.none; rfl; apply ValP.move; rfl; apply DW.v0; rfl; rfl; rfl; exact WantT.none; rfl; apply ValP.indexSv; infer_instance; rfl; rfl; rfl; assumption; apply DW.nil; simp only [fsOf_cons, fsOf_nil, fsOf_app, fsOf_tsOf, fsOf_new]; apply LW.v0; rfl; rfl; apply ValP.eqF; rfl; rfl; omega; apply LW.nil; refine thenN ?_; apply CW.condF; rfl; (with_reducible rfl); refine CW.skip ?_; refine blkN ?_; refine thenN ?_; refine CW.region ?_; apply LW.v0; rfl; rfl; apply ValP.addZL; rfl; rfl; decide; omega; apply LW.v0; rfl; rfl; apply ValP.move; rfl; apply LW.nil)
            apply thenX
            exact ⟨rfl, k + 1, hk16, by omega, ⟨rfl, (by rw [hd]; rfl), rfl, rfl, rfl, rfl, rfl, rfl, trivial⟩, List.Sublist.refl _⟩
        · obtain rfl : k = 16 := by omega
          cases hx : hexu u with
          | none =>
            have hn : parseV l = none := by
              unfold parseV
              split
              · exact hexval_bad hlt hW (by rw [← hu]; exact hx)
              · rfl
            rw [hn, show dI none 16 = -1 from rfl]
            (refine CW.seq ?_; refine CW.region ?_; apply LW.v0; rfl; rfl; apply ValP.lssF; rfl; rfl; omega; apply LW.nil; refine thenN ?_; refine CW.seq ?_; apply CW.condF; rfl; (with_reducible rfl); refine CW.exit ?_; refine thenE ?_; refine thenE ?_; refine blkE rfl ?_; refine thenN ?_; refine CW.seq ?_; refine CW.seq ?_; refine CW.region ?_; apply LW.v0; rfl; rfl; apply ValP.move; rfl; apply LW.v0; rfl; rfl; apply ValP.lssT; rfl; rfl; omega; apply LW.nil; refine thenN ?_; apply CW.condT; rfl; (with_reducible rfl); refine CW.seq ?_; refine CW.region ?_; apply LW.v0; rfl; rfl; exact ValP.buildW0; apply LW.store; rfl; rfl; apply SetAt.tail; apply SetAt.head; apply Wr.whole; rfl; rfl; rfl; apply LW.v0; rfl; rfl; apply ValP.assign; rfl; apply LW.nil; refine thenN ?_; refine CW.ret ?_; refine thenR ?_; refine blkR ?_; refine thenR ?_; refine thenR ?_; refine blkR ?_; refine thenR ?_)
            (apply finR; exact .inl rfl; rfl; rfl; rfl; apply ResL.cons; apply Res.cell; rfl; apply Known.at; apply FsAt.tail; apply FsAt.head; exact Rd.whole rfl; apply ResL.cons; exact Res.tmp rfl; exact ResL.nil)
            rfl
          | some d =>
            have hd16 := hexu_lt hx
            have hShl : ∀ w, Calls Try.prog 44 #[wv W, .int .i64 4] w (Ret w (wv (16 * W))) := fun w => by
              have := rShl_calls W 4 (by omega) (by decide) w
              rwa [show W * 2 ^ 4 % M256 = 16 * W by rw [show 2 ^ 4 = 16 by decide, Nat.mul_comm]; exact Nat.mod_eq_of_lt (by omega)] at this
            have hWr := add_dig W d hd16 (by omega)
            have hW' := hexval_some hW hx
            rw [hu, ← List.take_succ_eq_append_getElem hlt] at hW'
            rw [show dI (some d) 16 = (d : Int) from if_pos hd16]
            (refine CW.seq ?_; refine CW.region ?_; apply LW.v0; rfl; rfl; apply ValP.lssF; rfl; rfl; omega; apply LW.nil; refine thenN ?_; refine CW.seq ?_; apply CW.condF; rfl; (with_reducible rfl); refine CW.exit ?_; refine thenE ?_; refine thenE ?_; refine blkE rfl ?_; refine thenN ?_; refine CW.seq ?_; refine CW.seq ?_; refine CW.region ?_; apply LW.v0; rfl; rfl; apply ValP.move; rfl; apply LW.v0; rfl; rfl; apply ValP.lssF; rfl; rfl; omega; apply LW.nil; refine thenN ?_; apply CW.condF; rfl; (with_reducible rfl); refine CW.skip ?_; refine thenN ?_; refine CW.seq ?_; refine CW.region ?_; apply LW.load; rfl; rfl; apply Known.at; apply FsAt.head; exact Rd.whole rfl; apply LW.callE; rfl; rfl; infer_instance; apply ArgsOk.cons; rfl; apply ArgsOk.cons; rfl; exact ArgsOk.nil; intro w _; exact hShl w; apply LW.store; rfl; rfl; apply SetAt.head; apply Wr.whole; rfl; rfl; rfl; apply LW.nil; refine thenN ?_; refine CW.region ?_; apply LW.v0; rfl; rfl; apply ValP.indexAddrL; rfl; rfl; rfl; apply LW.load; rfl; rfl; apply Known.at; apply FsAt.head; exact Rd.one' rfl; apply LW.v0; rfl; rfl; apply ValP.move; rfl; apply LW.v0; rfl; rfl; apply ValP.convN; rfl; omega; omega; apply LW.v0; rfl; rfl; apply ValP.addN; rfl; rfl; apply LW.v0; rfl; rfl; apply ValP.indexAddrL; rfl; rfl; rfl; apply LW.store; rfl; rfl; apply SetAt.head; assumption; apply LW.nil; refine blkN ?_; refine thenN ?_; refine CW.region ?_; apply LW.v0; rfl; rfl; apply ValP.addZL; rfl; rfl; decide; omega; apply LW.v0; rfl; rfl; apply ValP.move; rfl; apply LW.nil)
            apply thenX
            exact ⟨rfl, ⟨m + 1, 16 * W + d⟩, ⟨hlt, hW'⟩, by show l.length - (m + 1) < l.length - m; omega, ⟨rfl, rfl, rfl, rfl, rfl, trivial⟩, List.Sublist.refl _⟩
      · obtain rfl : m = l.length := by omega
        rw [List.take_length] at hW
        have hW64 : W < M256 := Nat.lt_of_lt_of_le (hexval_lt _ _ _ rfl hW) (show 16 ^ l.length ≤ 16 ^ 64 from Nat.pow_le_pow_right (by decide) h2)
        have hTx : ∀ w, Calls Try.prog 48 #[wv W] w (Ret w (sv (hexText W))) := rText_calls W hW64
        by_cases he : hexText W = l
        · have hn := (parse_ref h1 h2 hW).1 he
          have hs : (⟨(hexText W).toArray⟩ : ByteArray) = ⟨l.toArray⟩ := by rw [he]
          rw [hn]
          (refine CW.seq ?_; refine CW.region ?_; apply LW.v0; rfl; rfl; apply ValP.lssF; rfl; rfl; omega; apply LW.nil; refine thenN ?_; refine CW.seq ?_; apply CW.condF; rfl; (with_reducible rfl); refine CW.exit ?_; refine thenE ?_; refine thenE ?_; refine blkE rfl ?_; refine thenN ?_; refine CW.seq ?_; refine CW.seq ?_; refine CW.region ?_; apply LW.load; rfl; rfl; apply Known.at; apply FsAt.head; exact Rd.whole rfl; apply LW.callE; rfl; rfl; infer_instance; apply ArgsOk.cons; rfl; exact ArgsOk.nil; intro w _; exact hTx w; apply LW.v0; rfl; rfl; apply ValP.move; rfl; apply LW.v0; rfl; rfl; apply ValP.strNeF; rfl; rfl; assumption; apply LW.nil; refine thenN ?_; apply CW.condF; rfl; (with_reducible rfl); refine CW.skip ?_; refine thenN ?_; refine CW.seq ?_; refine CW.region ?_; apply LW.load; rfl; rfl; apply Known.at; apply FsAt.head; exact Rd.whole rfl; apply LW.store; rfl; rfl; apply SetAt.tail; apply SetAt.head; apply Wr.whole; rfl; rfl; rfl; apply LW.v0; rfl; rfl; apply ValP.assign; rfl; apply LW.nil; refine thenN ?_; refine CW.ret ?_)
          (apply finR; exact .inl rfl; rfl; rfl; rfl; apply ResL.cons; apply Res.cell; rfl; apply Known.at; apply FsAt.tail; apply FsAt.head; exact Rd.whole rfl; apply ResL.cons; exact Res.tmp rfl; exact ResL.nil)
          rfl
        · have hn : parseV l = none := by
            cases hp : parseV l with
            | none => rfl
            | some n =>
              have : parseV l = some W := by
                unfold parseV at hp ⊢
                split at hp
                · rename_i hk; rw [if_pos hk]; exact hW
                · cases hp
              exact absurd ((parse_ref h1 h2 hW).2 this) he
          have hs := sv_inj he
          rw [hn]
          (refine CW.seq ?_; refine CW.region ?_; apply LW.v0; rfl; rfl; apply ValP.lssF; rfl; rfl; omega; apply LW.nil; refine thenN ?_; refine CW.seq ?_; apply CW.condF; rfl; (with_reducible rfl); refine CW.exit ?_; refine thenE ?_; refine thenE ?_; refine blkE rfl ?_; refine thenN ?_; refine CW.seq ?_; refine CW.seq ?_; refine CW.region ?_; apply LW.load; rfl; rfl; apply Known.at; apply FsAt.head; exact Rd.whole rfl; apply LW.callE; rfl; rfl; infer_instance; apply ArgsOk.cons; rfl; exact ArgsOk.nil; intro w _; exact hTx w; apply LW.v0; rfl; rfl; apply ValP.move; rfl; apply LW.v0; rfl; rfl; apply ValP.strNeT; rfl; rfl; assumption; apply LW.nil; refine thenN ?_; apply CW.condT; rfl; (with_reducible rfl); refine CW.seq ?_; refine CW.region ?_; apply LW.v0; rfl; rfl; exact ValP.buildW0; apply LW.store; rfl; rfl; apply SetAt.tail; apply SetAt.head; apply Wr.whole; rfl; rfl; rfl; apply LW.v0; rfl; rfl; apply ValP.assign; rfl; apply LW.nil; refine thenN ?_; refine CW.ret ?_; refine thenR ?_)
          (apply finR; exact .inl rfl; rfl; rfl; rfl; apply ResL.cons; apply Res.cell; rfl; apply Known.at; apply FsAt.tail; apply FsAt.head; exact Rd.whole rfl; apply ResL.cons; exact Res.tmp rfl; exact ResL.nil)
          rfl
    · rw [hpn fun h => h2 h.2.1]
      (refine CW.seq ?_; refine CW.region ?_; apply LW.allocW; rfl; intro _; apply LW.v0; rfl; rfl; apply ValP.assign; rfl; apply LW.nil; refine thenN ?_; refine CW.seq ?_; refine CW.region ?_; apply LW.allocW; rfl; intro _; apply LW.nil; refine thenN ?_; refine CW.seq ?_; refine CW.seq ?_; refine CW.region ?_; apply LW.v0; rfl; rfl; apply ValP.move; rfl; apply LW.v0; rfl; rfl; apply ValP.lenStr; rfl; infer_instance; rfl; apply LW.v0; rfl; rfl; apply ValP.eqF; rfl; rfl; omega; apply LW.v0; rfl; rfl; apply ValP.move; rfl; apply LW.guardT'; rfl; rfl; (with_reducible rfl); apply LW.v0; rfl; rfl; apply ValP.move; rfl; apply LW.guardT'; rfl; rfl; (with_reducible rfl); apply LW.v0; rfl; rfl; apply ValP.lenStr; rfl; infer_instance; rfl; apply LW.guardT'; rfl; rfl; (with_reducible rfl); apply LW.v0; rfl; rfl; apply ValP.gtrT; rfl; rfl; omega; apply LW.v0; rfl; rfl; apply ValP.pickF'; rfl; (with_reducible rfl); rfl; apply LW.nil; refine thenN ?_; apply CW.condT; rfl; (with_reducible rfl); refine CW.seq ?_; refine CW.region ?_; apply LW.load; rfl; rfl; apply Known.at; apply FsAt.head; exact Rd.whole rfl; apply LW.store; rfl; rfl; apply SetAt.tail; apply SetAt.head; apply Wr.whole; rfl; rfl; rfl; apply LW.v0; rfl; rfl; apply ValP.assign; rfl; apply LW.nil; refine thenN ?_; refine CW.ret ?_; refine thenR ?_)
      (apply finR; exact .inl rfl; rfl; rfl; rfl; apply ResL.cons; apply Res.cell; rfl; apply Known.at; apply FsAt.tail; apply FsAt.head; exact Rd.whole rfl; apply ResL.cons; exact Res.tmp rfl; exact ResL.nil)
      rfl
  · rw [hpn fun h => h1 h.1]
    (refine CW.seq ?_; refine CW.region ?_; apply LW.allocW; rfl; intro _; apply LW.v0; rfl; rfl; apply ValP.assign; rfl; apply LW.nil; refine thenN ?_; refine CW.seq ?_; refine CW.region ?_; apply LW.allocW; rfl; intro _; apply LW.nil; refine thenN ?_; refine CW.seq ?_; refine CW.seq ?_; refine CW.region ?_; apply LW.v0; rfl; rfl; apply ValP.move; rfl; apply LW.v0; rfl; rfl; apply ValP.lenStr; rfl; infer_instance; rfl; apply LW.v0; rfl; rfl; apply ValP.eqT; rfl; rfl; omega; apply LW.v0; rfl; rfl; apply ValP.move; rfl; apply LW.guardF'; rfl; rfl; simp only [Bool.not_true, Bool.not_false]; rfl; apply LW.guardF'; rfl; rfl; simp only [Bool.not_true, Bool.not_false]; rfl; apply LW.guardF'; rfl; rfl; simp only [Bool.not_true, Bool.not_false]; rfl; apply LW.v0; rfl; rfl; apply ValP.pickT'; rfl; (with_reducible rfl); rfl; apply LW.nil; refine thenN ?_; apply CW.condT; rfl; (with_reducible rfl); refine CW.seq ?_; refine CW.region ?_; apply LW.load; rfl; rfl; apply Known.at; apply FsAt.head; exact Rd.whole rfl; apply LW.store; rfl; rfl; apply SetAt.tail; apply SetAt.head; apply Wr.whole; rfl; rfl; rfl; apply LW.v0; rfl; rfl; apply ValP.assign; rfl; apply LW.nil; refine thenN ?_; refine CW.ret ?_; refine thenR ?_)
    (apply finR; exact .inl rfl; rfl; rfl; rfl; apply ResL.cons; apply Res.cell; rfl; apply Known.at; apply FsAt.tail; apply FsAt.head; exact Rd.whole rfl; apply ResL.cons; exact Res.tmp rfl; exact ResL.nil)
    rfl
end Go.Proofs.Ytahoghldnijnbaa
