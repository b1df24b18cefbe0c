/-
  Texts that were built apart, put behind one another (5 of 6): NL Sna NM NN NO G12 NP NQ NR NS NT.
  Conditions: none.
-/
import Derived.Test.YtpgdnfgjbhdbpaaGreatDoorZ4
/-
  The ends of calls, in the document's words.
  Conditions: none.
-/
namespace Go.Proofs.YtpgdnfgjbhdbpaaGreatDoor
open Go Go.RowKit SL
set_option maxRecDepth 8000
set_option maxHeartbeats 4000000
set_option linter.unusedSimpArgs false
set_option linter.unusedVariables false
attribute [local irreducible] SL.CW SL.LW SL.DW Calls SL.Ret SL.RetG SL.beginQ SL.roundQ SL.rangeQ SL.inQ SL.RW SL.AnyW SL.thenQ SL.thenC SL.thenW SL.blkQ SL.finQ SL.ValP SL.NewP SL.SetP SL.CallP SL.Rd SL.Wr SL.Known
theorem permE {α : Type} (g1 gs2 seg g4 g6 : List α) : (g1 ++ (gs2 ++ (seg ++ (g4 ++ g6)))).Perm (gs2 ++ (g6 ++ (seg ++ (g1 ++ (g4 ++ []))))) := by
  have h := perm_ix [g1, gs2, seg, g4, g6] (xs := [0, 1, 2, 3, 4]) (ys := [1, 4, 2, 0, 3]) [] rfl
  simpa [catI] using h
theorem permF {α : Type} (g1 gs2 seg g4 : List α) : (g1 ++ (gs2 ++ (seg ++ (g4 ++ [])))).Perm (gs2 ++ (seg ++ (g1 ++ (g4 ++ [])))) := by
  have h := perm_ix [g1, gs2, seg, g4] (xs := [0, 1, 2, 3]) (ys := [1, 2, 0, 3]) [] rfl
  simpa [catI] using h
theorem rWord_calls (a : Nat) (ha : a < 18446744073709551616) (w : World) : Calls Tryz.prog 44 #[.int .u64 (a : Int)] w (Ret w (wv a)) := by
  refine enter (args := [_]) _ [] [] Tryz.func44 rfl Tryz.ntmps44 rfl (by simp) .nil ?_
  (refine sRz ?_; apply LW.allocW; rfl; intro _; refine nSz ?_; refine vMz ?_; refine lvz (.buildW1 rfl (by omega)) ?_; refine LW.store rfl rfl .head (.whole rfl rfl rfl) ?_; refine nNz ?_; refine CW.ret ?_)
  (apply finR; exact .inl rfl; rfl; rfl; rfl; apply ResL.cons; apply Res.cell; rfl; apply Known.at; apply FsAt.head; exact Rd.whole rfl; exact ResL.nil)
  rfl
theorem over_none (ms : List UInt8) (p : Nat) : overL ms p [] = ms := by
  unfold overL
  simp
theorem over_len {ms X : List UInt8} {p : Nat} (h : p + X.length ≤ ms.length) : (overL ms p X).length = ms.length := by
  unfold overL
  simp only [List.length_append, List.length_take, List.length_drop]
  omega
theorem over_step {ms l : List UInt8} {p k : Nat} {u : UInt8} (hk : k < l.length) (hu : l[k] = u) (h : p + k < ms.length) : (overL ms p (l.take k)).take (p + k) ++ [u] ++ (overL ms p (l.take k)).drop (p + k + 1) = overL ms p (l.take (k + 1)) := by
  have h1 : (l.take k).length = k := by rw [List.length_take]; omega
  have h2 : (l.take (k + 1)).length = k + 1 := by rw [List.length_take]; omega
  have h3 : (ms.take p).length = p := by rw [List.length_take]; omega
  have h4 : l.take (k + 1) = l.take k ++ [u] := by rw [List.take_succ_eq_append_getElem hk, hu]
  unfold overL
  rw [h1, h2, h4, ← List.append_assoc (ms.take p), List.take_append_of_le_length (by rw [List.length_append, h1, h3]; omega), List.take_of_length_le (by rw [List.length_append, h1, h3]; omega)]
  rw [List.drop_append, List.length_append, h1, h3, List.drop_eq_nil_of_le (by rw [List.length_append, h1, h3]; omega), List.drop_drop]
  simp [show p + k + (p + k + 1 - (p + k)) = p + (k + 1) by omega, Nat.add_assoc]
theorem rcallEnd_calls (f : FrV) (L : FrL) (c : ClV) (M : ClL) (ok : Bool) (left : Nat) (l : List UInt8) (hd : c.dst < 18446744073709551616) (hN : c.n < 18446744073709551616) (hP : c.pl < 18446744073709551616) (hleft : left < 18446744073709551616) (out : Value) (w : World) (hf : FrRows w f L) (hc : ClRows w c M) (ho : RowAt w 1 out l.length (ucs l)) :
    Calls Tryz.prog 14 #[frv f, clv c, .agg (ova ok left out)] w (RetG w [] (EndR f L c M ok left l)) := by
  have hf0 := hf
  have hc0 := hc
  have hFc0 := fun w' {fs : Fs} (hst : St w [] fs w') => rfRight_calls f L w' (hf0.st hst)
  have hCc0 := fun w' {fs : Fs} (hst : St w [] fs w') => callRight_calls c M hN hP w' (hc0.st hst)
  have hzs := zero_sl
  obtain ⟨po, co, rfl, _, hmo⟩ := id ho.form
  simp only [maxLen] at hmo
  by_cases hF : okF f L
  · have hFc : ∀ w' {fs : Fs}, St w [] fs w' → Calls Tryz.prog 24 #[frv f] w' (Ret w' (.bool true)) := fun w' fs hst => by have h := hFc0 w' hst; rwa [decide_eq_true hF] at h
    by_cases hC : okC c M
    · have hCc : ∀ w' {fs : Fs}, St w [] fs w' → Calls Tryz.prog 20 #[clv c] w' (Ret w' (.bool true)) := fun w' fs hst => by have h := hCc0 w' hst; rwa [decide_eq_true hC] at h
      have hb1 := hF.1.2.2
      have hb2 := hC.2.1.1
      have hb3 := hC.2.2.1.2.1
      obtain ⟨p3, c3, hmv, _, hm3⟩ := id hf.m.form
      obtain ⟨p2, cs2, hsv, _, hm2⟩ := id hf.s.form
      simp only [maxLen] at hm3 hm2
      have hmem : ∀ {E fr}, Rd Tryz.prog 22 (.cells (fra f) E fr) 3 (.slice p3 L.ms.length c3) := fun {E fr} => by rw [← hmv]; exact fr_rd3
      have hstk : ∀ {E fr}, Rd Tryz.prog 23 (.cells (fra f) E fr) 2 (.slice p2 L.ws.length cs2) := fun {E fr} => by rw [← hsv]; exact fr_rd2s
      refine enter (args := [_, _, _]) _ [] [] Tryz.func14 rfl Tryz.ntmps14 rfl (by simp) .nil ?_
      (refine sRz ?_; apply LW.boxA; rfl; rfl; intro _; apply LW.boxA; rfl; rfl; intro _; apply LW.boxA; rfl; rfl; intro _; apply LW.allocA; rfl; intro _; refine vAz ?_; refine nNz ?_; refine CW.seq ?_; refine sRz ?_; refine ldz rfl (.tail (.tail (.tail .head))) fr_rdW ?_; apply LW.callE; rfl; rfl; infer_instance; exact .cons rfl .nil; intro w _; exact hFc w (by assumption); refine lvz (.notT rfl (by with_reducible rfl)) ?_; refine vMz ?_; refine gTz ?_; refine ldz rfl (.tail (.tail .head)) cl_rdW ?_; refine gTz ?_; apply LW.callE; rfl; rfl; infer_instance; exact .cons rfl .nil; intro w _; exact hCc w (by assumption); refine gTz ?_; refine lvz (.notT rfl (by with_reducible rfl)) ?_; refine pFz ?_; refine vMz ?_; refine gTz ?_; refine vFz ?_; refine gTz ?_; refine ldz rfl (.tail .head) ov_rd1 ?_; refine gTz ?_; refine vFz ?_; refine gTz ?_; refine ldz rfl (.tail (.tail .head)) cl_rd9 ?_; refine gTz ?_; refine lvz (.gtr rfl rfl) ?_; refine pFz ?_; refine vMz ?_)
      rename_i b3 b4 b5 b6
      refine LW.cut [(40, .bool (decide (¬ (left ≤ c.gas ∧ l.length ≤ 1024 ∧ f.gas + left ≤ 20000)))), (3, .pointer (some ⟨b3, 0, none⟩)), (4, .pointer (some ⟨b4, 0, none⟩)), (5, .pointer (some ⟨b5, 0, none⟩)), (6, .pointer (some ⟨b6, 0, none⟩)), (7, .bool false)] [(b6, .cells (fra zeroF) 31 (0, 0)), (b5, .cells (ova ok left (.slice po l.length co)) 39 (0, 0)), (b4, .cells (cla c) 33 (0, 0)), (b3, .cells (fra f) 31 (0, 0))] ?_ ?_
      · by_cases hA : left ≤ c.gas ∧ l.length ≤ 1024 ∧ f.gas + left ≤ 20000
        · rw [decide_eq_false (fun h => h hA)]
          by_cases hB : c.pl + c.n ≤ L.ms.length
          · by_cases hW : L.ws.length < 64
            · (refine cFz ?_; refine CW.skip ?_; refine thenN ?_; refine CW.seq ?_; refine sRz ?_; refine vFz ?_; refine ldz rfl (.tail (.tail .head)) cl_rd12 ?_; refine vFz ?_; refine ldz rfl (.tail (.tail .head)) cl_rd13 ?_; refine lvz (.addN rfl rfl) ?_; refine vFz ?_; refine vFz ?_; refine ldz rfl (.tail (.tail (.tail .head))) hmem ?_; refine lvz (.lenR rfl inferInstance rfl) ?_; refine lvz (.convN rfl (by omega) (by omega)) ?_; refine lvz (.gtrF rfl rfl (by omega)) ?_; refine vMz ?_; refine gTz ?_; refine vFz ?_; refine gTz ?_; refine vFz ?_; refine gTz ?_; refine ldz rfl (.tail (.tail (.tail .head))) hstk ?_; refine gTz ?_; refine lvz (.lenR rfl inferInstance rfl) ?_; refine gTz ?_; refine lvz (.geqF rfl rfl (by omega)) ?_; refine pFz ?_; refine nNz ?_; refine cFz ?_; refine CW.skip ?_; refine thenN ?_; refine sRz ?_; refine ldz rfl (.tail (.tail (.tail .head))) fr_rdW ?_)
              (apply LW.callR; rfl; rfl; infer_instance; exact .cons rfl .nil; intro w hs)
              exact rfCopy_calls f L hF.short w (hf0.st hs)
              rintro vo go2 ⟨c2, s2, m2, i2, x2, rfl, hfr2, h00⟩
              change LW _ _ _ _ ((62, frv ⟨c2, f.pc, s2, m2, f.gas, f.self, f.frm, f.val, i2, x2, f.stat⟩) :: _) _
              have hsl2 : FrSl ⟨c2, f.pc, s2, m2, f.gas, f.self, f.frm, f.val, i2, x2, f.stat⟩ := hfr2.sl
              obtain ⟨g1, g2, g3, g4, g5, hp, k1, k2, k3, k4, k5⟩ := hfr2
              refine LW.perm (fs' := (g1 ++ (g2 ++ (g3 ++ (g4 ++ g5)))) ++ [(b6, .cells (fra zeroF) 31 (0, 0)), (b5, .cells (ova ok left (.slice po l.length co)) 39 (0, 0)), (b4, .cells (cla c) 33 (0, 0)), (b3, .cells (fra f) 31 (0, 0))]) (hp.append_right _) ?_
              refine LW.subP (fs' := (b6, .cells (fra zeroF) 31 (0, 0)) :: (b5, .cells (ova ok left (.slice po l.length co)) 39 (0, 0)) :: (b4, .cells (cla c) 33 (0, 0)) :: (g3 ++ (g2 ++ (g1 ++ (g4 ++ []))))) ?_ ?_
              · simp only [List.append_assoc, List.cons_append, List.nil_append]
                exact subp_ix [g1, g2, g3, g4, g5, [_], [_], [_], [_]] (xs := [5, 6, 7, 2, 1, 0, 3]) (ys := [0, 1, 2, 3, 4, 5, 6, 7, 8]) [] rfl
              unfold bM at k3
              change IsRow _ 1 m2 L.ms.length (ucs L.ms) g3 at k3
              unfold wM at k2
              change IsRow _ 4 s2 L.ws.length (wcs L.ws) g2 at k2
              obtain ⟨q3, kc3, rfl⟩ := id k3.form
              obtain ⟨q2, kc2, rfl⟩ := id k2.form
              have hle3 := IsRow.le k3
              have hgas : (f.gas + left) % 18446744073709551616 = f.gas + left := Nat.mod_eq_of_lt (by omega)
              (apply LW.allocA; rfl; intro _; apply LW.store; rfl; rfl; apply SetAt.head; apply fr_wrW; rfl; assumption; refine nSz ?_; refine vFz ?_; refine ldz rfl .head fr_rd4 ?_; refine vFz ?_; refine ldz rfl (.tail (.tail .head)) ov_rd1 ?_; refine lvz (.addN rfl rfl) ?_; refine vFz ?_; apply LW.store; rfl; rfl; apply SetAt.head; apply fr_wr4 (z := .int .u64 0); refine nNz ?_; refine CW.seq ?_; refine sRz ?_; refine vFz ?_; refine ldz rfl (.tail (.tail .head)) ov_rd2 ?_; refine lvz (.lenR rfl inferInstance rfl) ?_; refine vMz ?_; refine nNz ?_; refine CW.block ?_)
              rename_i b8
              refine CW.loop (fun x : Nat × Fs => ([(72, .int .i64 (x.1 : Int)), (71, .int .i64 (l.length : Int)), (70, .slice po l.length co), (8, .pointer (some ⟨b8, 0, none⟩)), (4, .pointer (some ⟨b4, 0, none⟩)), (5, .pointer (some ⟨b5, 0, none⟩)), (6, .pointer (some ⟨b6, 0, none⟩)), (7, .bool false)],
                (b8, .cells (fra ⟨c2, f.pc, .slice q2 L.ws.length kc2, .slice q3 L.ms.length kc3, (f.gas + left) % 18446744073709551616, f.self, f.frm, f.val, i2, x2, f.stat⟩) 31 (0, 0)) :: (b6, .cells (fra zeroF) 31 (0, 0)) :: (b5, .cells (ova ok left (.slice po l.length co)) 39 (0, 0)) :: (b4, .cells (cla c) 33 (0, 0)) :: (x.2 ++ (g2 ++ (g1 ++ (g4 ++ []))))))
                (fun x => x.1 ≤ l.length ∧ IsRow 5 1 (.slice q3 L.ms.length kc3) L.ms.length (ucs (overL L.ms c.pl (l.take (min x.1 c.n)))) x.2) (fun x => l.length - x.1) (0, g3) ⟨Nat.zero_le _, by rw [Nat.zero_min, List.take_zero, over_none]; exact k3⟩ ⟨rfl, rfl, rfl, rfl, rfl, rfl, rfl, rfl, trivial⟩ (List.Sublist.refl _) ?_
              rintro ⟨k, seg⟩ ⟨hk, hrow⟩
              dsimp only at hk hrow ⊢
              rcases Nat.lt_or_ge k l.length with hlt | hge
              · obtain ⟨bo, offo, co', cso, Eo, fro, heq, hbo, hxo⟩ := ho.pos (by omega)
                cases heq
                obtain ⟨u, hu⟩ : ∃ u, l[k] = u := ⟨_, rfl⟩
                have hrdO : Rd Tryz.prog 5 (.cells cso Eo fro) (offo + k * 1) (.int .u8 (u.toNat : Int)) := Rd.elem1 hxo (ucs_one l) (List.getElem?_eq_getElem hlt) (by rw [hu])
                rcases Nat.lt_or_ge k c.n with hkn | hkn
                · obtain ⟨gm, cur, rfl, rfl, hn3, hm3', hsz3, htk3⟩ := hrow.pos (by omega)
                  have hmod : (c.pl + k) % 18446744073709551616 = c.pl + k := Nat.mod_eq_of_lt (by omega)
                  obtain ⟨w1, w2⟩ := wr_take (i := c.pl + k) (vs := [Value.int .u8 (u.toNat : Int)]) htk3 rfl (by omega) (by omega)
                  rw [ucs_take, ucs_drop, show min k c.n = k by omega, show ucs ((overL L.ms c.pl (l.take k)).take (c.pl + k)) ++ [Value.int .u8 (u.toNat : Int)] ++ ucs ((overL L.ms c.pl (l.take k)).drop (c.pl + k + 1)) = ucs ((overL L.ms c.pl (l.take k)).take (c.pl + k) ++ [u] ++ (overL L.ms c.pl (l.take k)).drop (c.pl + k + 1)) by rw [ucs_app, ucs_app]; rfl, over_step hlt hu (by omega)] at w1
                  have hW : Wr Tryz.prog 5 (.cells cur 5 (0, 0)) (0 + (c.pl + k) % 18446744073709551616 * 1) (.int .u8 (u.toNat : Int)) (.cells (wrCells cur ((c.pl + k) * 1) [Value.int .u8 (u.toNat : Int)]) 5 (0, 0)) := by rw [hmod]; exact Wr.cells rfl rfl (by rw [hsz3]; show 0 + (c.pl + k) * 1 + 1 ≤ kc3 * 1; omega) (by rw [Nat.zero_add]; rfl)
                  (refine sRz ?_; refine lvz (.lssT rfl rfl (by omega)) ?_; refine nNz ?_; refine CW.seq ?_; refine cTz ?_; refine CW.skip ?_; refine thenN ?_; refine CW.seq ?_; refine CW.block ?_; refine sRz ?_; refine vMz ?_; refine lvz (.indexAddrS rfl rfl rfl (by omega)) ?_; apply LW.load; rfl; rfl; exact Known.ext (by assumption) (by simp); exact hrdO; refine vAz ?_; refine vAz ?_; refine nSz ?_; refine vMz ?_; refine lvz (.convN rfl (by omega) (by omega)) ?_; refine vFz ?_; refine ldz rfl (.tail (.tail (.tail .head))) cl_rd13 ?_; refine lvz (.lssT rfl rfl (by omega)) ?_; refine nNz ?_; refine cTz ?_; refine CW.region ?_; refine vFz ?_; refine vFz ?_; refine ldz rfl .head fr_rd3 ?_; refine vFz ?_; refine ldz rfl (.tail (.tail (.tail .head))) cl_rd12 ?_; refine vMz ?_; refine lvz (.convN rfl (by omega) (by omega)) ?_; refine lvz (.addN rfl rfl) ?_; refine vMz ?_; refine lvz (.indexAddrS rfl rfl rfl (by omega)) ?_; apply LW.store; rfl; rfl; apply SetAt.tail; apply SetAt.tail; apply SetAt.tail; apply SetAt.tail; apply SetAt.head; assumption; apply LW.nil; refine blkN ?_; refine thenN ?_; refine CW.region ?_; refine lvz (.addZL rfl rfl (by decide) (by omega)) ?_; refine vMz ?_; apply LW.nil)
                  apply thenX
                  refine ⟨rfl, (k + 1, _), ⟨hlt, .own hn3 hm3' (by rw [w2, hsz3]) (by rw [show min (k + 1) c.n = k + 1 by omega]; exact w1) ?_⟩, by show l.length - (k + 1) < l.length - k; omega, ⟨rfl, rfl, rfl, rfl, rfl, rfl, rfl, rfl, trivial⟩, List.Sublist.refl _⟩
                  rw [ucs_len, over_len (by rw [List.length_take]; omega), Nat.mul_one]
                · (refine sRz ?_; refine lvz (.lssT rfl rfl (by omega)) ?_; refine nNz ?_; refine CW.seq ?_; refine cTz ?_; refine CW.skip ?_; refine thenN ?_; refine CW.seq ?_; refine CW.block ?_; refine sRz ?_; refine vMz ?_; refine lvz (.indexAddrS rfl rfl rfl (by omega)) ?_; apply LW.load; rfl; rfl; exact Known.ext (by assumption) (by simp); exact hrdO; refine vAz ?_; refine vAz ?_; refine nSz ?_; refine vMz ?_; refine lvz (.convN rfl (by omega) (by omega)) ?_; refine vFz ?_; refine ldz rfl (.tail (.tail (.tail .head))) cl_rd13 ?_; refine lvz (.lssF rfl rfl (by omega)) ?_; refine nNz ?_; refine cFz ?_; refine CW.skip ?_; refine blkN ?_; refine thenN ?_; refine CW.region ?_; refine lvz (.addZL rfl rfl (by decide) (by omega)) ?_; refine vMz ?_; apply LW.nil)
                  apply thenX
                  exact ⟨rfl, (k + 1, seg), ⟨hlt, by dsimp only; rw [show min (k + 1) c.n = min k c.n by omega]; exact hrow⟩, by show l.length - (k + 1) < l.length - k; omega, ⟨rfl, rfl, rfl, rfl, rfl, rfl, rfl, rfl, trivial⟩, List.Sublist.refl _⟩
              · obtain rfl : k = l.length := by omega
                rw [show l.take (min l.length c.n) = l.take c.n by rw [Nat.min_comm, ← List.take_take, List.take_length], ] at hrow
                have hol : (overL L.ms c.pl (l.take c.n)).length = L.ms.length := over_len (by rw [List.length_take]; omega)
                (refine sRz ?_; refine lvz (.lssF rfl rfl (by omega)) ?_; refine nNz ?_; refine CW.seq ?_; refine cFz ?_; refine CW.exit ?_; refine thenE ?_; refine thenE ?_; refine blkE rfl ?_; refine thenN ?_; refine sRz ?_; apply LW.allocW; rfl; intro _; refine nSz ?_; refine vFz ?_; refine ldz rfl (.tail (.tail (.tail .head))) ov_rd2 ?_)
                rw [hgas]
                (apply LW.callR; rfl; rfl; infer_instance; exact .cons rfl (.cons rfl .nil); intro w hs)
                exact rBoth_calls l _ w (ho.st hs) (by omega)
                intro x3 g6 k6
                have k6' := k6
                unfold bM at k6'
                obtain ⟨q6, kc6, rfl⟩ := k6'.form
                have hsl3 : ∀ p n q p2 n2 q2, FrSl ⟨c2, f.pc, .slice p2 n2 q2, .slice q3 L.ms.length kc3, f.gas + left, f.self, f.frm, f.val, i2, .slice p n q, f.stat⟩ := fun p n q p2 n2 q2 => ⟨hsl2.c, ⟨_, _, _, rfl⟩, ⟨_, _, _, rfl⟩, hsl2.i, ⟨_, _, _, rfl⟩⟩
                by_cases h245 : c.op = 245
                · cases ok with
                  | true =>
                    have hbk : (if c.op = 245 ∧ true = true then [] else l) = ([] : List UInt8) := if_pos ⟨h245, rfl⟩
                    (refine vFz ?_; refine LW.store rfl rfl (.app (.tail .head)) fr_wr12 ?_; refine nNz ?_; refine CW.seq ?_; refine sRz ?_; refine vFz ?_; refine ldz rfl (.app (.tail (.tail (.tail .head)))) ov_rd0 ?_; refine nNz ?_; refine cTz ?_; refine sRz ?_; refine lvz (.buildW1L rfl (by decide) rfl) ?_; refine LW.store rfl rfl (.app .head) (.whole rfl rfl rfl) ?_; refine nSz ?_; refine vFz ?_; refine ldz rfl (.app (.tail (.tail (.tail (.tail .head))))) cl_rd0 ?_; refine lvz (.eqT rfl rfl (by omega)) ?_; refine nNz ?_; refine cTz ?_; refine CW.region ?_; refine vFz ?_; refine ldz rfl (.app (.tail (.tail (.tail (.tail .head))))) cl_rd1 ?_; apply LW.callE; rfl; rfl; infer_instance; exact .cons rfl .nil; intro w _; exact rWord_calls _ hd w; refine LW.store rfl rfl (.app .head) (.whole rfl rfl rfl) ?_; refine vFz ?_; refine LW.store rfl rfl (.app (.tail .head)) fr_wr12 ?_; refine nNz ?_; refine CW.seq ?_)
                    have hlw : laidW c true = c.dst := by unfold laidW; first | rfl | simp [h245]
                    apply CW.pre
                    rcases Nat.eq_zero_or_pos L.ws.length with h0 | h0
                    · obtain ⟨pq, hq⟩ := h00 h0
                      simp only [Value.slice.injEq] at hq
                      obtain ⟨rfl, _, rfl⟩ := hq
                      have hws : L.ws = [] := List.length_eq_zero_iff.1 h0
                      rw [h0]
                      (refine AnyW.anyS [(4, sameR)] 7 mixed (by decide +kernel) ?_)
                      ((try simp only [tsOf_cons, tsOf_nil, tsOf_app]); apply DW.lay0; rfl; rfl; rfl; exact WantT.none; infer_instance; infer_instance; intro _; refine dvz (.fieldAddr rfl rfl) ?_; refine dvz (.fieldAddr rfl rfl) ?_; apply DW.loadO; rfl; rfl; rfl; exact WantT.none; rfl; apply TRead.tail; apply TRead.app; apply TRead.tail; apply TRead.head; exact ancB_nil; exact fr_rd2s)
                      refine DW.appendNF rfl rfl rfl (by (exact WantT.none)) rfl inferInstance inferInstance rfl rfl (.plain (by cases q2 <;> rfl) .nil) ?_
                      ((try simp only [tsOf_cons, tsOf_nil, tsOf_app]); apply DW.loadO; rfl; rfl; rfl; exact WantT.none; rfl; apply TRead.tail; apply TRead.app; apply TRead.head; exact ancB_nil; exact Rd.whole rfl; apply DW.layA; rfl; rfl; rfl; exact WantT.none; infer_instance; infer_instance; rfl; rfl; rfl; rfl; rfl; intro _; apply DW.nil; simp only [fsOf_cons, fsOf_nil, fsOf_app, fsOf_tsOf, fsOf_new, fsOf_tag])
                      try simp only [fsOf_cons, fsOf_nil, fsOf_app, fsOf_tsOf, fsOf_new, fsOf_tag, List.append_eq, List.nil_append]
                      rename_i b0 bW
                      have hrow0 : IsRow 29 4 (.slice (some ⟨b0, 0, none⟩) 0 0) 0 [] [(b0, .cells #[] 29 (0, 0))] := .own (Nat.le_refl 0) (by simp [maxLen]) rfl rfl rfl
                      (apply LW.appendAny; (case hrow => exact hrow0); rfl; rfl; infer_instance; infer_instance; infer_instance; rfl; rfl; rfl; exact AtSeg.cons (AtSeg.head (seg := [_])))
                      · exact fun w hs => row_cells (n := 1) (xs := wcs [c.dst]) (hs.own (bW, _) List.mem_cons_self).2 rfl rfl (by simp [maxLen])
                      · exact wcs_cells _
                      · simp only [maxLen]; omega
                      · omega
                      intro v2 gs2 h2
                      simp only [List.nil_append, Nat.zero_add] at h2
                      refine ⟨_, AtSeg.cons AtSeg.head, ?_⟩
                      obtain ⟨q9, k9, rfl⟩ := id h2.form
                      (refine vFz ?_; refine vFz ?_; refine LW.store rfl rfl (.tail (.app (.app (.tail .head)))) fr_wr2 ?_; refine nSz ?_; refine ldz rfl (.tail (.app (.app (.tail .head)))) fr_rdW ?_; apply LW.store; rfl; rfl; apply SetAt.tail; apply SetAt.app; apply SetAt.app; apply SetAt.tail; apply SetAt.tail; apply SetAt.head; apply fr_wrW; rfl; exact hsl3 _ _ _ _ _ _; refine vAz ?_; refine nNz ?_; refine CW.ret ?_)
                      refine fin (vs := [frv ⟨c2, f.pc, .slice q9 1 k9, .slice q3 L.ms.length kc3, f.gas + left, f.self, f.frm, f.val, i2, .slice none 0 0, f.stat⟩, .bool true]) (gs2 ++ (seg ++ (g1 ++ (g4 ++ [])))) (.inl rfl) rfl rfl (by (apply ResL.cons; apply Res.cell; rfl; apply Known.at; apply FsAt.tail; apply FsAt.app; apply FsAt.app; apply FsAt.tail; apply FsAt.tail; apply FsAt.head; exact fr_rdW; apply ResL.cons; exact Res.tmp rfl; exact ResL.nil)) ?_ (.inl ⟨⟨hF, hC, ⟨hA.1, hA.2.1, hA.2.2, hB⟩, hW⟩, _, _, _, _, _, rfl, g1, gs2, seg, g4, [], permF _ _ _ _, k1, ?_, ?_, k4, ?_⟩)
                      · exact .cons _ (.append_left (List.Sublist.trans (.cons _ (.cons _ (.cons _ (.cons _ (.cons _ (.append_left (List.sublist_append_right _ _) _)))))) (List.sublist_append_right g6 _)) _)
                      · unfold endL wM; dsimp only; rw [hlw, List.length_append, wcs_app]; rw [hws]; exact h2
                      · unfold endL bM; dsimp only; rw [hol]; exact hrow
                      · unfold endL bM; dsimp only; rw [hbk]; exact .nil
                    · obtain ⟨gw, curw, rfl, rfl, hn2, hm2', hsz2, htk2⟩ := k2.pos h0
                      (refine AnyW.anyS [(4, cst (wM L.ws))] 7 mixed (by decide +kernel) ?_)
                      ((try simp only [tsOf_cons, tsOf_nil, tsOf_app]); apply DW.lay0; rfl; rfl; rfl; exact WantT.none; infer_instance; infer_instance; intro _; refine dvz (.fieldAddr rfl rfl) ?_; refine dvz (.fieldAddr rfl rfl) ?_; apply DW.loadO; rfl; rfl; rfl; exact WantT.none; rfl; apply TRead.tail; apply TRead.app; apply TRead.tail; apply TRead.head; exact ancB_nil; exact fr_rd2s)
                      refine DW.appendF rfl rfl rfl (by (exact WantT.none)) rfl inferInstance inferInstance inferInstance rfl rfl rfl (.own (by omega) (by (apply TRead.tail; apply TRead.app; apply TRead.tail; apply TRead.tail; apply TRead.tail; apply TRead.tail; apply TRead.tail; apply TRead.app; apply TRead.head; exact ancB_nil)) .nil) (fun w hu => IsRow.us k2 hu (List.Sublist.refl _)) h0 (by simp only [maxLen]; omega) (by omega) (fun v gs h => h) ?_
                      intro v1 gs1 h1
                      have h1' := h1
                      unfold wM at h1'
                      obtain ⟨q1, k1', rfl⟩ := id h1'.form
                      ((try simp only [tsOf_cons, tsOf_nil, tsOf_app]); apply DW.loadO; rfl; rfl; rfl; exact WantT.none; rfl; apply TRead.app; apply TRead.tail; apply TRead.app; apply TRead.head; exact ancB_nil; exact Rd.whole rfl; apply DW.layA; rfl; rfl; rfl; exact WantT.none; infer_instance; infer_instance; rfl; rfl; rfl; rfl; rfl; intro _; apply DW.nil; simp only [fsOf_cons, fsOf_nil, fsOf_app, fsOf_tsOf, fsOf_new, fsOf_tag])
                      try simp only [fsOf_cons, fsOf_nil, fsOf_app, fsOf_tsOf, fsOf_new, fsOf_tag, List.append_eq, List.nil_append]
                      rename_i b0 bW
                      (apply LW.appendAny; (case hrow => exact h1'); rfl; rfl; infer_instance; infer_instance; infer_instance; rfl; rfl; rfl; exact AtSeg.cons AtSeg.head)
                      · exact fun w hs => row_cells (n := 1) (xs := wcs [c.dst]) (hs.own (bW, _) List.mem_cons_self).2 rfl rfl (by simp [maxLen])
                      · exact wcs_cells _
                      · simp only [maxLen]; omega
                      · omega
                      intro v2 gs2 h2
                      refine ⟨_, AtSeg.cons AtSeg.head, ?_⟩
                      obtain ⟨q9, k9, rfl⟩ := id h2.form
                      (refine vFz ?_; refine vFz ?_; refine LW.store rfl rfl (.tail (.app (.tail (.app (.tail .head))))) fr_wr2 ?_; refine nSz ?_; refine ldz rfl (.tail (.app (.tail (.app (.tail .head))))) fr_rdW ?_; apply LW.store; rfl; rfl; apply SetAt.tail; apply SetAt.app; apply SetAt.tail; apply SetAt.app; apply SetAt.tail; apply SetAt.tail; apply SetAt.head; apply fr_wrW; rfl; exact hsl3 _ _ _ _ _ _; refine vAz ?_; refine nNz ?_; refine CW.ret ?_)
                      refine fin (vs := [frv ⟨c2, f.pc, .slice q9 (L.ws.length + 1) k9, .slice q3 L.ms.length kc3, f.gas + left, f.self, f.frm, f.val, i2, .slice none 0 0, f.stat⟩, .bool true]) (gs2 ++ (seg ++ (g1 ++ (g4 ++ [])))) (.inl rfl) rfl rfl (by (apply ResL.cons; apply Res.cell; rfl; apply Known.at; apply FsAt.tail; apply FsAt.app; apply FsAt.tail; apply FsAt.app; apply FsAt.tail; apply FsAt.tail; apply FsAt.head; exact fr_rdW; apply ResL.cons; exact Res.tmp rfl; exact ResL.nil)) ?_ (.inl ⟨⟨hF, hC, ⟨hA.1, hA.2.1, hA.2.2, hB⟩, hW⟩, _, _, _, _, _, rfl, g1, gs2, seg, g4, [], permF _ _ _ _, k1, ?_, ?_, k4, ?_⟩)
                      · exact .cons _ (.append_left (.cons _ (List.Sublist.trans (.cons _ (.cons _ (.cons _ (.cons _ (.cons _ (.append_left (List.sublist_cons_self _ _) _)))))) (List.sublist_append_right g6 _))) _)
                      · unfold endL wM; dsimp only; rw [hlw, List.length_append, wcs_app]; exact h2
                      · unfold endL bM; dsimp only; rw [hol]; exact hrow
                      · unfold endL bM; dsimp only; rw [hbk]; exact .nil
                  | false =>
                    have hbk : (if c.op = 245 ∧ false = true then [] else l) = l := if_neg (fun h => by cases h.2)
                    (refine vFz ?_; refine LW.store rfl rfl (.app (.tail .head)) fr_wr12 ?_; refine nNz ?_; refine CW.seq ?_; refine sRz ?_; refine vFz ?_; refine ldz rfl (.app (.tail (.tail (.tail .head)))) ov_rd0 ?_; refine nNz ?_; refine cFz ?_; refine CW.skip ?_; refine thenN ?_; refine CW.seq ?_)
                    have hlw : laidW c false = 0 := by unfold laidW; first | rfl | simp [h245]
                    apply CW.pre
                    rcases Nat.eq_zero_or_pos L.ws.length with h0 | h0
                    · obtain ⟨pq, hq⟩ := h00 h0
                      simp only [Value.slice.injEq] at hq
                      obtain ⟨rfl, _, rfl⟩ := hq
                      have hws : L.ws = [] := List.length_eq_zero_iff.1 h0
                      rw [h0]
                      (refine AnyW.anyS [(4, sameR)] 7 mixed (by decide +kernel) ?_)
                      ((try simp only [tsOf_cons, tsOf_nil, tsOf_app]); apply DW.lay0; rfl; rfl; rfl; exact WantT.none; infer_instance; infer_instance; intro _; refine dvz (.fieldAddr rfl rfl) ?_; refine dvz (.fieldAddr rfl rfl) ?_; apply DW.loadO; rfl; rfl; rfl; exact WantT.none; rfl; apply TRead.tail; apply TRead.app; apply TRead.tail; apply TRead.head; exact ancB_nil; exact fr_rd2s)
                      refine DW.appendNF rfl rfl rfl (by (exact WantT.none)) rfl inferInstance inferInstance rfl rfl (.plain (by cases q2 <;> rfl) .nil) ?_
                      ((try simp only [tsOf_cons, tsOf_nil, tsOf_app]); apply DW.loadO; rfl; rfl; rfl; exact WantT.none; rfl; apply TRead.tail; apply TRead.app; apply TRead.head; exact ancB_nil; exact Rd.whole rfl; apply DW.layA; rfl; rfl; rfl; exact WantT.none; infer_instance; infer_instance; rfl; rfl; rfl; rfl; rfl; intro _; apply DW.nil; simp only [fsOf_cons, fsOf_nil, fsOf_app, fsOf_tsOf, fsOf_new, fsOf_tag])
                      try simp only [fsOf_cons, fsOf_nil, fsOf_app, fsOf_tsOf, fsOf_new, fsOf_tag, List.append_eq, List.nil_append]
                      rename_i b0 bW
                      have hrow0 : IsRow 29 4 (.slice (some ⟨b0, 0, none⟩) 0 0) 0 [] [(b0, .cells #[] 29 (0, 0))] := .own (Nat.le_refl 0) (by simp [maxLen]) rfl rfl rfl
                      (apply LW.appendAny; (case hrow => exact hrow0); rfl; rfl; infer_instance; infer_instance; infer_instance; rfl; rfl; rfl; exact AtSeg.cons (AtSeg.head (seg := [_])))
                      · exact fun w hs => row_cells (n := 1) (xs := wcs [0]) (hs.own (bW, _) List.mem_cons_self).2 rfl rfl (by simp [maxLen])
                      · exact wcs_cells _
                      · simp only [maxLen]; omega
                      · omega
                      intro v2 gs2 h2
                      simp only [List.nil_append, Nat.zero_add] at h2
                      refine ⟨_, AtSeg.cons AtSeg.head, ?_⟩
                      obtain ⟨q9, k9, rfl⟩ := id h2.form
                      (refine vFz ?_; refine vFz ?_; refine LW.store rfl rfl (.tail (.app (.app (.tail .head)))) fr_wr2 ?_; refine nSz ?_; refine ldz rfl (.tail (.app (.app (.tail .head)))) fr_rdW ?_; apply LW.store; rfl; rfl; apply SetAt.tail; apply SetAt.app; apply SetAt.app; apply SetAt.tail; apply SetAt.tail; apply SetAt.head; apply fr_wrW; rfl; exact hsl3 _ _ _ _ _ _; refine vAz ?_; refine nNz ?_; refine CW.ret ?_)
                      refine fin (vs := [frv ⟨c2, f.pc, .slice q9 1 k9, .slice q3 L.ms.length kc3, f.gas + left, f.self, f.frm, f.val, i2, .slice q6 l.length kc6, f.stat⟩, .bool true]) (gs2 ++ (g6 ++ (seg ++ (g1 ++ (g4 ++ []))))) (.inl rfl) rfl rfl (by (apply ResL.cons; apply Res.cell; rfl; apply Known.at; apply FsAt.tail; apply FsAt.app; apply FsAt.app; apply FsAt.tail; apply FsAt.tail; apply FsAt.head; exact fr_rdW; apply ResL.cons; exact Res.tmp rfl; exact ResL.nil)) ?_ (.inl ⟨⟨hF, hC, ⟨hA.1, hA.2.1, hA.2.2, hB⟩, hW⟩, _, _, _, _, _, rfl, g1, gs2, seg, g4, g6, permE _ _ _ _ _, k1, ?_, ?_, k4, ?_⟩)
                      · exact .cons _ (.append_left (.append_left (.cons _ (.cons _ (.cons _ (.cons _ (.cons _ (.append_left (List.sublist_append_right _ _) _)))))) _) _)
                      · unfold endL wM; dsimp only; rw [hlw, List.length_append, wcs_app]; rw [hws]; exact h2
                      · unfold endL bM; dsimp only; rw [hol]; exact hrow
                      · unfold endL bM; dsimp only; rw [hbk]; exact k6
                    · obtain ⟨gw, curw, rfl, rfl, hn2, hm2', hsz2, htk2⟩ := k2.pos h0
                      (refine AnyW.anyS [(4, cst (wM L.ws))] 7 mixed (by decide +kernel) ?_)
                      ((try simp only [tsOf_cons, tsOf_nil, tsOf_app]); apply DW.lay0; rfl; rfl; rfl; exact WantT.none; infer_instance; infer_instance; intro _; refine dvz (.fieldAddr rfl rfl) ?_; refine dvz (.fieldAddr rfl rfl) ?_; apply DW.loadO; rfl; rfl; rfl; exact WantT.none; rfl; apply TRead.tail; apply TRead.app; apply TRead.tail; apply TRead.head; exact ancB_nil; exact fr_rd2s)
                      refine DW.appendF rfl rfl rfl (by (exact WantT.none)) rfl inferInstance inferInstance inferInstance rfl rfl rfl (.own (by omega) (by (apply TRead.tail; apply TRead.app; apply TRead.tail; apply TRead.tail; apply TRead.tail; apply TRead.tail; apply TRead.tail; apply TRead.app; apply TRead.head; exact ancB_nil)) .nil) (fun w hu => IsRow.us k2 hu (List.Sublist.refl _)) h0 (by simp only [maxLen]; omega) (by omega) (fun v gs h => h) ?_
                      intro v1 gs1 h1
                      have h1' := h1
                      unfold wM at h1'
                      obtain ⟨q1, k1', rfl⟩ := id h1'.form
                      ((try simp only [tsOf_cons, tsOf_nil, tsOf_app]); apply DW.loadO; rfl; rfl; rfl; exact WantT.none; rfl; apply TRead.app; apply TRead.tail; apply TRead.app; apply TRead.head; exact ancB_nil; exact Rd.whole rfl; apply DW.layA; rfl; rfl; rfl; exact WantT.none; infer_instance; infer_instance; rfl; rfl; rfl; rfl; rfl; intro _; apply DW.nil; simp only [fsOf_cons, fsOf_nil, fsOf_app, fsOf_tsOf, fsOf_new, fsOf_tag])
                      try simp only [fsOf_cons, fsOf_nil, fsOf_app, fsOf_tsOf, fsOf_new, fsOf_tag, List.append_eq, List.nil_append]
                      rename_i b0 bW
                      (apply LW.appendAny; (case hrow => exact h1'); rfl; rfl; infer_instance; infer_instance; infer_instance; rfl; rfl; rfl; exact AtSeg.cons AtSeg.head)
                      · exact fun w hs => row_cells (n := 1) (xs := wcs [0]) (hs.own (bW, _) List.mem_cons_self).2 rfl rfl (by simp [maxLen])
                      · exact wcs_cells _
                      · simp only [maxLen]; omega
                      · omega
                      intro v2 gs2 h2
                      refine ⟨_, AtSeg.cons AtSeg.head, ?_⟩
                      obtain ⟨q9, k9, rfl⟩ := id h2.form
                      (refine vFz ?_; refine vFz ?_; refine LW.store rfl rfl (.tail (.app (.tail (.app (.tail .head))))) fr_wr2 ?_; refine nSz ?_; refine ldz rfl (.tail (.app (.tail (.app (.tail .head))))) fr_rdW ?_; apply LW.store; rfl; rfl; apply SetAt.tail; apply SetAt.app; apply SetAt.tail; apply SetAt.app; apply SetAt.tail; apply SetAt.tail; apply SetAt.head; apply fr_wrW; rfl; exact hsl3 _ _ _ _ _ _; refine vAz ?_; refine nNz ?_; refine CW.ret ?_)
                      refine fin (vs := [frv ⟨c2, f.pc, .slice q9 (L.ws.length + 1) k9, .slice q3 L.ms.length kc3, f.gas + left, f.self, f.frm, f.val, i2, .slice q6 l.length kc6, f.stat⟩, .bool true]) (gs2 ++ (g6 ++ (seg ++ (g1 ++ (g4 ++ []))))) (.inl rfl) rfl rfl (by (apply ResL.cons; apply Res.cell; rfl; apply Known.at; apply FsAt.tail; apply FsAt.app; apply FsAt.tail; apply FsAt.app; apply FsAt.tail; apply FsAt.tail; apply FsAt.head; exact fr_rdW; apply ResL.cons; exact Res.tmp rfl; exact ResL.nil)) ?_ (.inl ⟨⟨hF, hC, ⟨hA.1, hA.2.1, hA.2.2, hB⟩, hW⟩, _, _, _, _, _, rfl, g1, gs2, seg, g4, g6, permE _ _ _ _ _, k1, ?_, ?_, k4, ?_⟩)
                      · exact .cons _ (.append_left (.cons _ (.append_left (.cons _ (.cons _ (.cons _ (.cons _ (.cons _ (.append_left (List.sublist_cons_self _ _) _)))))) _)) _)
                      · unfold endL wM; dsimp only; rw [hlw, List.length_append, wcs_app]; exact h2
                      · unfold endL bM; dsimp only; rw [hol]; exact hrow
                      · unfold endL bM; dsimp only; rw [hbk]; exact k6
                · cases ok with
                  | true =>
                    have hbk : (if c.op = 245 ∧ true = true then [] else l) = l := if_neg (fun h => h245 h.1)
                    (refine vFz ?_; refine LW.store rfl rfl (.app (.tail .head)) fr_wr12 ?_; refine nNz ?_; refine CW.seq ?_; refine sRz ?_; refine vFz ?_; refine ldz rfl (.app (.tail (.tail (.tail .head)))) ov_rd0 ?_; refine nNz ?_; refine cTz ?_; refine sRz ?_; refine lvz (.buildW1L rfl (by decide) rfl) ?_; refine LW.store rfl rfl (.app .head) (.whole rfl rfl rfl) ?_; refine nSz ?_; refine vFz ?_; refine ldz rfl (.app (.tail (.tail (.tail (.tail .head))))) cl_rd0 ?_; refine lvz (.eqF rfl rfl (by omega)) ?_; refine nNz ?_; refine cFz ?_; refine CW.skip ?_; refine thenN ?_; refine CW.seq ?_)
                    have hlw : laidW c true = 1 := by unfold laidW; first | rfl | simp [h245]
                    apply CW.pre
                    rcases Nat.eq_zero_or_pos L.ws.length with h0 | h0
                    · obtain ⟨pq, hq⟩ := h00 h0
                      simp only [Value.slice.injEq] at hq
                      obtain ⟨rfl, _, rfl⟩ := hq
                      have hws : L.ws = [] := List.length_eq_zero_iff.1 h0
                      rw [h0]
                      (refine AnyW.anyS [(4, sameR)] 7 mixed (by decide +kernel) ?_)
                      ((try simp only [tsOf_cons, tsOf_nil, tsOf_app]); apply DW.lay0; rfl; rfl; rfl; exact WantT.none; infer_instance; infer_instance; intro _; refine dvz (.fieldAddr rfl rfl) ?_; refine dvz (.fieldAddr rfl rfl) ?_; apply DW.loadO; rfl; rfl; rfl; exact WantT.none; rfl; apply TRead.tail; apply TRead.app; apply TRead.tail; apply TRead.head; exact ancB_nil; exact fr_rd2s)
                      refine DW.appendNF rfl rfl rfl (by (exact WantT.none)) rfl inferInstance inferInstance rfl rfl (.plain (by cases q2 <;> rfl) .nil) ?_
                      ((try simp only [tsOf_cons, tsOf_nil, tsOf_app]); apply DW.loadO; rfl; rfl; rfl; exact WantT.none; rfl; apply TRead.tail; apply TRead.app; apply TRead.head; exact ancB_nil; exact Rd.whole rfl; apply DW.layA; rfl; rfl; rfl; exact WantT.none; infer_instance; infer_instance; rfl; rfl; rfl; rfl; rfl; intro _; apply DW.nil; simp only [fsOf_cons, fsOf_nil, fsOf_app, fsOf_tsOf, fsOf_new, fsOf_tag])
                      try simp only [fsOf_cons, fsOf_nil, fsOf_app, fsOf_tsOf, fsOf_new, fsOf_tag, List.append_eq, List.nil_append]
                      rename_i b0 bW
                      have hrow0 : IsRow 29 4 (.slice (some ⟨b0, 0, none⟩) 0 0) 0 [] [(b0, .cells #[] 29 (0, 0))] := .own (Nat.le_refl 0) (by simp [maxLen]) rfl rfl rfl
                      (apply LW.appendAny; (case hrow => exact hrow0); rfl; rfl; infer_instance; infer_instance; infer_instance; rfl; rfl; rfl; exact AtSeg.cons (AtSeg.head (seg := [_])))
                      · exact fun w hs => row_cells (n := 1) (xs := wcs [1]) (hs.own (bW, _) List.mem_cons_self).2 rfl rfl (by simp [maxLen])
                      · exact wcs_cells _
                      · simp only [maxLen]; omega
                      · omega
                      intro v2 gs2 h2
                      simp only [List.nil_append, Nat.zero_add] at h2
                      refine ⟨_, AtSeg.cons AtSeg.head, ?_⟩
                      obtain ⟨q9, k9, rfl⟩ := id h2.form
                      (refine vFz ?_; refine vFz ?_; refine LW.store rfl rfl (.tail (.app (.app (.tail .head)))) fr_wr2 ?_; refine nSz ?_; refine ldz rfl (.tail (.app (.app (.tail .head)))) fr_rdW ?_; apply LW.store; rfl; rfl; apply SetAt.tail; apply SetAt.app; apply SetAt.app; apply SetAt.tail; apply SetAt.tail; apply SetAt.head; apply fr_wrW; rfl; exact hsl3 _ _ _ _ _ _; refine vAz ?_; refine nNz ?_; refine CW.ret ?_)
                      refine fin (vs := [frv ⟨c2, f.pc, .slice q9 1 k9, .slice q3 L.ms.length kc3, f.gas + left, f.self, f.frm, f.val, i2, .slice q6 l.length kc6, f.stat⟩, .bool true]) (gs2 ++ (g6 ++ (seg ++ (g1 ++ (g4 ++ []))))) (.inl rfl) rfl rfl (by (apply ResL.cons; apply Res.cell; rfl; apply Known.at; apply FsAt.tail; apply FsAt.app; apply FsAt.app; apply FsAt.tail; apply FsAt.tail; apply FsAt.head; exact fr_rdW; apply ResL.cons; exact Res.tmp rfl; exact ResL.nil)) ?_ (.inl ⟨⟨hF, hC, ⟨hA.1, hA.2.1, hA.2.2, hB⟩, hW⟩, _, _, _, _, _, rfl, g1, gs2, seg, g4, g6, permE _ _ _ _ _, k1, ?_, ?_, k4, ?_⟩)
                      · exact .cons _ (.append_left (.append_left (.cons _ (.cons _ (.cons _ (.cons _ (.cons _ (.append_left (List.sublist_append_right _ _) _)))))) _) _)
                      · unfold endL wM; dsimp only; rw [hlw, List.length_append, wcs_app]; rw [hws]; exact h2
                      · unfold endL bM; dsimp only; rw [hol]; exact hrow
                      · unfold endL bM; dsimp only; rw [hbk]; exact k6
                    · obtain ⟨gw, curw, rfl, rfl, hn2, hm2', hsz2, htk2⟩ := k2.pos h0
                      (refine AnyW.anyS [(4, cst (wM L.ws))] 7 mixed (by decide +kernel) ?_)
                      ((try simp only [tsOf_cons, tsOf_nil, tsOf_app]); apply DW.lay0; rfl; rfl; rfl; exact WantT.none; infer_instance; infer_instance; intro _; refine dvz (.fieldAddr rfl rfl) ?_; refine dvz (.fieldAddr rfl rfl) ?_; apply DW.loadO; rfl; rfl; rfl; exact WantT.none; rfl; apply TRead.tail; apply TRead.app; apply TRead.tail; apply TRead.head; exact ancB_nil; exact fr_rd2s)
                      refine DW.appendF rfl rfl rfl (by (exact WantT.none)) rfl inferInstance inferInstance inferInstance rfl rfl rfl (.own (by omega) (by (apply TRead.tail; apply TRead.app; apply TRead.tail; apply TRead.tail; apply TRead.tail; apply TRead.tail; apply TRead.tail; apply TRead.app; apply TRead.head; exact ancB_nil)) .nil) (fun w hu => IsRow.us k2 hu (List.Sublist.refl _)) h0 (by simp only [maxLen]; omega) (by omega) (fun v gs h => h) ?_
                      intro v1 gs1 h1
                      have h1' := h1
                      unfold wM at h1'
                      obtain ⟨q1, k1', rfl⟩ := id h1'.form
                      ((try simp only [tsOf_cons, tsOf_nil, tsOf_app]); apply DW.loadO; rfl; rfl; rfl; exact WantT.none; rfl; apply TRead.app; apply TRead.tail; apply TRead.app; apply TRead.head; exact ancB_nil; exact Rd.whole rfl; apply DW.layA; rfl; rfl; rfl; exact WantT.none; infer_instance; infer_instance; rfl; rfl; rfl; rfl; rfl; intro _; apply DW.nil; simp only [fsOf_cons, fsOf_nil, fsOf_app, fsOf_tsOf, fsOf_new, fsOf_tag])
                      try simp only [fsOf_cons, fsOf_nil, fsOf_app, fsOf_tsOf, fsOf_new, fsOf_tag, List.append_eq, List.nil_append]
                      rename_i b0 bW
                      (apply LW.appendAny; (case hrow => exact h1'); rfl; rfl; infer_instance; infer_instance; infer_instance; rfl; rfl; rfl; exact AtSeg.cons AtSeg.head)
                      · exact fun w hs => row_cells (n := 1) (xs := wcs [1]) (hs.own (bW, _) List.mem_cons_self).2 rfl rfl (by simp [maxLen])
                      · exact wcs_cells _
                      · simp only [maxLen]; omega
                      · omega
                      intro v2 gs2 h2
                      refine ⟨_, AtSeg.cons AtSeg.head, ?_⟩
                      obtain ⟨q9, k9, rfl⟩ := id h2.form
                      (refine vFz ?_; refine vFz ?_; refine LW.store rfl rfl (.tail (.app (.tail (.app (.tail .head))))) fr_wr2 ?_; refine nSz ?_; refine ldz rfl (.tail (.app (.tail (.app (.tail .head))))) fr_rdW ?_; apply LW.store; rfl; rfl; apply SetAt.tail; apply SetAt.app; apply SetAt.tail; apply SetAt.app; apply SetAt.tail; apply SetAt.tail; apply SetAt.head; apply fr_wrW; rfl; exact hsl3 _ _ _ _ _ _; refine vAz ?_; refine nNz ?_; refine CW.ret ?_)
                      refine fin (vs := [frv ⟨c2, f.pc, .slice q9 (L.ws.length + 1) k9, .slice q3 L.ms.length kc3, f.gas + left, f.self, f.frm, f.val, i2, .slice q6 l.length kc6, f.stat⟩, .bool true]) (gs2 ++ (g6 ++ (seg ++ (g1 ++ (g4 ++ []))))) (.inl rfl) rfl rfl (by (apply ResL.cons; apply Res.cell; rfl; apply Known.at; apply FsAt.tail; apply FsAt.app; apply FsAt.tail; apply FsAt.app; apply FsAt.tail; apply FsAt.tail; apply FsAt.head; exact fr_rdW; apply ResL.cons; exact Res.tmp rfl; exact ResL.nil)) ?_ (.inl ⟨⟨hF, hC, ⟨hA.1, hA.2.1, hA.2.2, hB⟩, hW⟩, _, _, _, _, _, rfl, g1, gs2, seg, g4, g6, permE _ _ _ _ _, k1, ?_, ?_, k4, ?_⟩)
                      · exact .cons _ (.append_left (.cons _ (.append_left (.cons _ (.cons _ (.cons _ (.cons _ (.cons _ (.append_left (List.sublist_cons_self _ _) _)))))) _)) _)
                      · unfold endL wM; dsimp only; rw [hlw, List.length_append, wcs_app]; exact h2
                      · unfold endL bM; dsimp only; rw [hol]; exact hrow
                      · unfold endL bM; dsimp only; rw [hbk]; exact k6
                  | false =>
                    have hbk : (if c.op = 245 ∧ false = true then [] else l) = l := if_neg (fun h => by cases h.2)
                    (refine vFz ?_; refine LW.store rfl rfl (.app (.tail .head)) fr_wr12 ?_; refine nNz ?_; refine CW.seq ?_; refine sRz ?_; refine vFz ?_; refine ldz rfl (.app (.tail (.tail (.tail .head)))) ov_rd0 ?_; refine nNz ?_; refine cFz ?_; refine CW.skip ?_; refine thenN ?_; refine CW.seq ?_)
                    have hlw : laidW c false = 0 := by unfold laidW; first | rfl | simp [h245]
                    apply CW.pre
                    rcases Nat.eq_zero_or_pos L.ws.length with h0 | h0
                    · obtain ⟨pq, hq⟩ := h00 h0
                      simp only [Value.slice.injEq] at hq
                      obtain ⟨rfl, _, rfl⟩ := hq
                      have hws : L.ws = [] := List.length_eq_zero_iff.1 h0
                      rw [h0]
                      (refine AnyW.anyS [(4, sameR)] 7 mixed (by decide +kernel) ?_)
                      ((try simp only [tsOf_cons, tsOf_nil, tsOf_app]); apply DW.lay0; rfl; rfl; rfl; exact WantT.none; infer_instance; infer_instance; intro _; refine dvz (.fieldAddr rfl rfl) ?_; refine dvz (.fieldAddr rfl rfl) ?_; apply DW.loadO; rfl; rfl; rfl; exact WantT.none; rfl; apply TRead.tail; apply TRead.app; apply TRead.tail; apply TRead.head; exact ancB_nil; exact fr_rd2s)
                      refine DW.appendNF rfl rfl rfl (by (exact WantT.none)) rfl inferInstance inferInstance rfl rfl (.plain (by cases q2 <;> rfl) .nil) ?_
                      ((try simp only [tsOf_cons, tsOf_nil, tsOf_app]); apply DW.loadO; rfl; rfl; rfl; exact WantT.none; rfl; apply TRead.tail; apply TRead.app; apply TRead.head; exact ancB_nil; exact Rd.whole rfl; apply DW.layA; rfl; rfl; rfl; exact WantT.none; infer_instance; infer_instance; rfl; rfl; rfl; rfl; rfl; intro _; apply DW.nil; simp only [fsOf_cons, fsOf_nil, fsOf_app, fsOf_tsOf, fsOf_new, fsOf_tag])
                      try simp only [fsOf_cons, fsOf_nil, fsOf_app, fsOf_tsOf, fsOf_new, fsOf_tag, List.append_eq, List.nil_append]
                      rename_i b0 bW
                      have hrow0 : IsRow 29 4 (.slice (some ⟨b0, 0, none⟩) 0 0) 0 [] [(b0, .cells #[] 29 (0, 0))] := .own (Nat.le_refl 0) (by simp [maxLen]) rfl rfl rfl
                      (apply LW.appendAny; (case hrow => exact hrow0); rfl; rfl; infer_instance; infer_instance; infer_instance; rfl; rfl; rfl; exact AtSeg.cons (AtSeg.head (seg := [_])))
                      · exact fun w hs => row_cells (n := 1) (xs := wcs [0]) (hs.own (bW, _) List.mem_cons_self).2 rfl rfl (by simp [maxLen])
                      · exact wcs_cells _
                      · simp only [maxLen]; omega
                      · omega
                      intro v2 gs2 h2
                      simp only [List.nil_append, Nat.zero_add] at h2
                      refine ⟨_, AtSeg.cons AtSeg.head, ?_⟩
                      obtain ⟨q9, k9, rfl⟩ := id h2.form
                      (refine vFz ?_; refine vFz ?_; refine LW.store rfl rfl (.tail (.app (.app (.tail .head)))) fr_wr2 ?_; refine nSz ?_; refine ldz rfl (.tail (.app (.app (.tail .head)))) fr_rdW ?_; apply LW.store; rfl; rfl; apply SetAt.tail; apply SetAt.app; apply SetAt.app; apply SetAt.tail; apply SetAt.tail; apply SetAt.head; apply fr_wrW; rfl; exact hsl3 _ _ _ _ _ _; refine vAz ?_; refine nNz ?_; refine CW.ret ?_)
                      refine fin (vs := [frv ⟨c2, f.pc, .slice q9 1 k9, .slice q3 L.ms.length kc3, f.gas + left, f.self, f.frm, f.val, i2, .slice q6 l.length kc6, f.stat⟩, .bool true]) (gs2 ++ (g6 ++ (seg ++ (g1 ++ (g4 ++ []))))) (.inl rfl) rfl rfl (by (apply ResL.cons; apply Res.cell; rfl; apply Known.at; apply FsAt.tail; apply FsAt.app; apply FsAt.app; apply FsAt.tail; apply FsAt.tail; apply FsAt.head; exact fr_rdW; apply ResL.cons; exact Res.tmp rfl; exact ResL.nil)) ?_ (.inl ⟨⟨hF, hC, ⟨hA.1, hA.2.1, hA.2.2, hB⟩, hW⟩, _, _, _, _, _, rfl, g1, gs2, seg, g4, g6, permE _ _ _ _ _, k1, ?_, ?_, k4, ?_⟩)
                      · exact .cons _ (.append_left (.append_left (.cons _ (.cons _ (.cons _ (.cons _ (.cons _ (.append_left (List.sublist_append_right _ _) _)))))) _) _)
                      · unfold endL wM; dsimp only; rw [hlw, List.length_append, wcs_app]; rw [hws]; exact h2
                      · unfold endL bM; dsimp only; rw [hol]; exact hrow
                      · unfold endL bM; dsimp only; rw [hbk]; exact k6
                    · obtain ⟨gw, curw, rfl, rfl, hn2, hm2', hsz2, htk2⟩ := k2.pos h0
                      (refine AnyW.anyS [(4, cst (wM L.ws))] 7 mixed (by decide +kernel) ?_)
                      ((try simp only [tsOf_cons, tsOf_nil, tsOf_app]); apply DW.lay0; rfl; rfl; rfl; exact WantT.none; infer_instance; infer_instance; intro _; refine dvz (.fieldAddr rfl rfl) ?_; refine dvz (.fieldAddr rfl rfl) ?_; apply DW.loadO; rfl; rfl; rfl; exact WantT.none; rfl; apply TRead.tail; apply TRead.app; apply TRead.tail; apply TRead.head; exact ancB_nil; exact fr_rd2s)
                      refine DW.appendF rfl rfl rfl (by (exact WantT.none)) rfl inferInstance inferInstance inferInstance rfl rfl rfl (.own (by omega) (by (apply TRead.tail; apply TRead.app; apply TRead.tail; apply TRead.tail; apply TRead.tail; apply TRead.tail; apply TRead.tail; apply TRead.app; apply TRead.head; exact ancB_nil)) .nil) (fun w hu => IsRow.us k2 hu (List.Sublist.refl _)) h0 (by simp only [maxLen]; omega) (by omega) (fun v gs h => h) ?_
                      intro v1 gs1 h1
                      have h1' := h1
                      unfold wM at h1'
                      obtain ⟨q1, k1', rfl⟩ := id h1'.form
                      ((try simp only [tsOf_cons, tsOf_nil, tsOf_app]); apply DW.loadO; rfl; rfl; rfl; exact WantT.none; rfl; apply TRead.app; apply TRead.tail; apply TRead.app; apply TRead.head; exact ancB_nil; exact Rd.whole rfl; apply DW.layA; rfl; rfl; rfl; exact WantT.none; infer_instance; infer_instance; rfl; rfl; rfl; rfl; rfl; intro _; apply DW.nil; simp only [fsOf_cons, fsOf_nil, fsOf_app, fsOf_tsOf, fsOf_new, fsOf_tag])
                      try simp only [fsOf_cons, fsOf_nil, fsOf_app, fsOf_tsOf, fsOf_new, fsOf_tag, List.append_eq, List.nil_append]
                      rename_i b0 bW
                      (apply LW.appendAny; (case hrow => exact h1'); rfl; rfl; infer_instance; infer_instance; infer_instance; rfl; rfl; rfl; exact AtSeg.cons AtSeg.head)
                      · exact fun w hs => row_cells (n := 1) (xs := wcs [0]) (hs.own (bW, _) List.mem_cons_self).2 rfl rfl (by simp [maxLen])
                      · exact wcs_cells _
                      · simp only [maxLen]; omega
                      · omega
                      intro v2 gs2 h2
                      refine ⟨_, AtSeg.cons AtSeg.head, ?_⟩
                      obtain ⟨q9, k9, rfl⟩ := id h2.form
                      (refine vFz ?_; refine vFz ?_; refine LW.store rfl rfl (.tail (.app (.tail (.app (.tail .head))))) fr_wr2 ?_; refine nSz ?_; refine ldz rfl (.tail (.app (.tail (.app (.tail .head))))) fr_rdW ?_; apply LW.store; rfl; rfl; apply SetAt.tail; apply SetAt.app; apply SetAt.tail; apply SetAt.app; apply SetAt.tail; apply SetAt.tail; apply SetAt.head; apply fr_wrW; rfl; exact hsl3 _ _ _ _ _ _; refine vAz ?_; refine nNz ?_; refine CW.ret ?_)
                      refine fin (vs := [frv ⟨c2, f.pc, .slice q9 (L.ws.length + 1) k9, .slice q3 L.ms.length kc3, f.gas + left, f.self, f.frm, f.val, i2, .slice q6 l.length kc6, f.stat⟩, .bool true]) (gs2 ++ (g6 ++ (seg ++ (g1 ++ (g4 ++ []))))) (.inl rfl) rfl rfl (by (apply ResL.cons; apply Res.cell; rfl; apply Known.at; apply FsAt.tail; apply FsAt.app; apply FsAt.tail; apply FsAt.app; apply FsAt.tail; apply FsAt.tail; apply FsAt.head; exact fr_rdW; apply ResL.cons; exact Res.tmp rfl; exact ResL.nil)) ?_ (.inl ⟨⟨hF, hC, ⟨hA.1, hA.2.1, hA.2.2, hB⟩, hW⟩, _, _, _, _, _, rfl, g1, gs2, seg, g4, g6, permE _ _ _ _ _, k1, ?_, ?_, k4, ?_⟩)
                      · exact .cons _ (.append_left (.cons _ (.append_left (.cons _ (.cons _ (.cons _ (.cons _ (.cons _ (.append_left (List.sublist_cons_self _ _) _)))))) _)) _)
                      · unfold endL wM; dsimp only; rw [hlw, List.length_append, wcs_app]; exact h2
                      · unfold endL bM; dsimp only; rw [hol]; exact hrow
                      · unfold endL bM; dsimp only; rw [hbk]; exact k6
            · (refine cFz ?_; refine CW.skip ?_; refine thenN ?_; refine CW.seq ?_; refine sRz ?_; refine vFz ?_; refine ldz rfl (.tail (.tail .head)) cl_rd12 ?_; refine vFz ?_; refine ldz rfl (.tail (.tail .head)) cl_rd13 ?_; refine lvz (.addN rfl rfl) ?_; refine vFz ?_; refine vFz ?_; refine ldz rfl (.tail (.tail (.tail .head))) hmem ?_; refine lvz (.lenR rfl inferInstance rfl) ?_; refine lvz (.convN rfl (by omega) (by omega)) ?_; refine lvz (.gtrF rfl rfl (by omega)) ?_; refine vMz ?_; refine gTz ?_; refine vFz ?_; refine gTz ?_; refine vFz ?_; refine gTz ?_; refine ldz rfl (.tail (.tail (.tail .head))) hstk ?_; refine gTz ?_; refine lvz (.lenR rfl inferInstance rfl) ?_; refine gTz ?_; refine lvz (.geqT rfl rfl (by omega)) ?_; refine pFz ?_; refine nNz ?_; refine cTz ?_; refine sRz ?_; apply LW.v0; rfl; rfl; apply ValP.buildT; infer_instance; infer_instance; exact PartsOk.nil; rfl; simp only [fillP, wrCells, Value.cells, List.getElem?_cons_zero, List.getElem?_cons_succ, List.toList_toArray, List.setIfInBounds_toArray, List.set_cons_succ, List.set_cons_zero, Nat.reduceAdd, Nat.zero_add]; rfl; refine LW.store rfl rfl .head (.whole rfl rfl rfl) ?_; refine vAz ?_; refine nNz ?_; refine CW.ret ?_; refine thenR ?_)
              exact fin (vs := [frv zeroF, .bool false]) [] (.inl rfl) rfl rfl (by (apply ResL.cons; apply Res.cell; rfl; apply Known.at; apply FsAt.head; exact Rd.whole rfl; apply ResL.cons; exact Res.tmp rfl; exact ResL.nil)) (List.nil_sublist _) (.inr ⟨fun h => hW h.2.2.2, rfl, rfl⟩)
          · (refine cFz ?_; refine CW.skip ?_; refine thenN ?_; refine CW.seq ?_; refine sRz ?_; refine vFz ?_; refine ldz rfl (.tail (.tail .head)) cl_rd12 ?_; refine vFz ?_; refine ldz rfl (.tail (.tail .head)) cl_rd13 ?_; refine lvz (.addN rfl rfl) ?_; refine vFz ?_; refine vFz ?_; refine ldz rfl (.tail (.tail (.tail .head))) hmem ?_; refine lvz (.lenR rfl inferInstance rfl) ?_; refine lvz (.convN rfl (by omega) (by omega)) ?_; refine lvz (.gtrT rfl rfl (by omega)) ?_; refine vMz ?_; (iterate 5 refine gFz ?_); refine pTz ?_; refine nNz ?_; refine cTz ?_; refine sRz ?_; apply LW.v0; rfl; rfl; apply ValP.buildT; infer_instance; infer_instance; exact PartsOk.nil; rfl; simp only [fillP, wrCells, Value.cells, List.getElem?_cons_zero, List.getElem?_cons_succ, List.toList_toArray, List.setIfInBounds_toArray, List.set_cons_succ, List.set_cons_zero, Nat.reduceAdd, Nat.zero_add]; rfl; refine LW.store rfl rfl .head (.whole rfl rfl rfl) ?_; refine vAz ?_; refine nNz ?_; refine CW.ret ?_; refine thenR ?_)
            exact fin (vs := [frv zeroF, .bool false]) [] (.inl rfl) rfl rfl (by (apply ResL.cons; apply Res.cell; rfl; apply Known.at; apply FsAt.head; exact Rd.whole rfl; apply ResL.cons; exact Res.tmp rfl; exact ResL.nil)) (List.nil_sublist _) (.inr ⟨fun h => hB h.2.2.1.2.2.2, rfl, rfl⟩)
        · rw [decide_eq_true hA]
          (refine cTz ?_; refine sRz ?_; apply LW.v0; rfl; rfl; apply ValP.buildT; infer_instance; infer_instance; exact PartsOk.nil; rfl; simp only [fillP, wrCells, Value.cells, List.getElem?_cons_zero, List.getElem?_cons_succ, List.toList_toArray, List.setIfInBounds_toArray, List.set_cons_succ, List.set_cons_zero, Nat.reduceAdd, Nat.zero_add]; rfl; refine LW.store rfl rfl .head (.whole rfl rfl rfl) ?_; refine vAz ?_; refine nNz ?_; refine CW.ret ?_; refine thenR ?_)
          exact fin (vs := [frv zeroF, .bool false]) [] (.inl rfl) rfl rfl (by (apply ResL.cons; apply Res.cell; rfl; apply Known.at; apply FsAt.head; exact Rd.whole rfl; apply ResL.cons; exact Res.tmp rfl; exact ResL.nil)) (List.nil_sublist _) (.inr ⟨fun h => hA ⟨h.2.2.1.1, h.2.2.1.2.1, h.2.2.1.2.2.1⟩, rfl, rfl⟩)
      · (refine LW.guardDF rfl rfl rfl (fun hsq hsp => ?_) (fun hsq hsp => ?_); refine vFz ?_; refine gTaz ?_; refine ldz rfl (.tail .head) ov_rd2 ?_; refine gTaz ?_; refine lvz (.lenR rfl inferInstance rfl) ?_; refine gTaz ?_; refine lvz (.gtr rfl rfl) ?_; refine pFaz ?_; refine vMz ?_; refine LW.guardDF rfl rfl rfl (fun hsq hsp => ?_) (fun hsq hsp => ?_); refine vFz ?_; refine gTaz ?_; refine ldz rfl (.tail (.tail (.tail .head))) fr_rd4 ?_; refine gTaz ?_; refine vFz ?_; refine gTaz ?_; refine ldz rfl (.tail .head) ov_rd1 ?_; refine gTaz ?_; refine lvz (.addN rfl rfl) ?_; refine gTaz ?_; refine lvz (.gtr rfl rfl) ?_; refine pFaz ?_; apply LW.nil; refine cutI rfl ⟨getB rfl ?_, rfl, rfl, rfl, rfl, rfl, trivial⟩ ?_; exact decide_eq_decide.2 (by omega); exact List.Sublist.refl _; (iterate 5 refine gFaz ?_); refine pTaz ?_; apply LW.nil; refine cutI rfl ⟨getB rfl ?_, rfl, rfl, rfl, rfl, rfl, trivial⟩ ?_; exact (decide_eq_true (by omega)).symm; exact List.Sublist.refl _; (iterate 3 refine gFaz ?_); refine pTaz ?_; refine vMz ?_; (iterate 6 refine gFz ?_); refine pTz ?_; apply LW.nil; refine cutI rfl ⟨getB rfl ?_, rfl, rfl, rfl, rfl, rfl, trivial⟩ ?_; exact (decide_eq_true (by omega)).symm; exact List.Sublist.refl _)
    · have hCc : ∀ w' {fs : Fs}, St w [] fs w' → Calls Tryz.prog 20 #[clv c] w' (Ret w' (.bool false)) := fun w' fs hst => by have h := hCc0 w' hst; rwa [decide_eq_false hC] at h
      refine enter (args := [_, _, _]) _ [] [] Tryz.func14 rfl Tryz.ntmps14 rfl (by simp) .nil ?_
      (refine sRz ?_; apply LW.boxA; rfl; rfl; intro _; apply LW.boxA; rfl; rfl; intro _; apply LW.boxA; rfl; rfl; intro _; apply LW.allocA; rfl; intro _; refine vAz ?_; refine nNz ?_; refine CW.seq ?_; refine sRz ?_; refine ldz rfl (.tail (.tail (.tail .head))) fr_rdW ?_; apply LW.callE; rfl; rfl; infer_instance; exact .cons rfl .nil; intro w _; exact hFc w (by assumption); refine lvz (.notT rfl (by with_reducible rfl)) ?_; refine vMz ?_; refine gTz ?_; refine ldz rfl (.tail (.tail .head)) cl_rdW ?_; refine gTz ?_; apply LW.callE; rfl; rfl; infer_instance; exact .cons rfl .nil; intro w _; exact hCc w (by assumption); refine gTz ?_; refine lvz (.notF rfl (by with_reducible rfl)) ?_; refine pFz ?_; refine vMz ?_; (iterate 5 refine gFz ?_); refine pTz ?_; refine vMz ?_; (iterate 4 refine gFz ?_); refine pTz ?_; refine vMz ?_; (iterate 6 refine gFz ?_); refine pTz ?_; refine nNz ?_; refine cTz ?_; refine sRz ?_; apply LW.v0; rfl; rfl; apply ValP.buildT; infer_instance; infer_instance; exact PartsOk.nil; rfl; simp only [fillP, wrCells, Value.cells, List.getElem?_cons_zero, List.getElem?_cons_succ, List.toList_toArray, List.setIfInBounds_toArray, List.set_cons_succ, List.set_cons_zero, Nat.reduceAdd, Nat.zero_add]; rfl; refine LW.store rfl rfl .head (.whole rfl rfl rfl) ?_; refine vAz ?_; refine nNz ?_; refine CW.ret ?_; refine thenR ?_)
      exact fin (vs := [frv zeroF, .bool false]) [] (.inl rfl) rfl rfl (by (apply ResL.cons; apply Res.cell; rfl; apply Known.at; apply FsAt.head; exact Rd.whole rfl; apply ResL.cons; exact Res.tmp rfl; exact ResL.nil)) (List.nil_sublist _) (.inr ⟨fun h => hC h.2.1, rfl, rfl⟩)
  · have hFc : ∀ w' {fs : Fs}, St w [] fs w' → Calls Tryz.prog 24 #[frv f] w' (Ret w' (.bool false)) := fun w' fs hst => by have h := hFc0 w' hst; rwa [decide_eq_false hF] at h
    refine enter (args := [_, _, _]) _ [] [] Tryz.func14 rfl Tryz.ntmps14 rfl (by simp) .nil ?_
    (refine sRz ?_; apply LW.boxA; rfl; rfl; intro _; apply LW.boxA; rfl; rfl; intro _; apply LW.boxA; rfl; rfl; intro _; apply LW.allocA; rfl; intro _; refine vAz ?_; refine nNz ?_; refine CW.seq ?_; refine sRz ?_; refine ldz rfl (.tail (.tail (.tail .head))) fr_rdW ?_; apply LW.callE; rfl; rfl; infer_instance; exact .cons rfl .nil; intro w _; exact hFc w (by assumption); refine lvz (.notF rfl (by with_reducible rfl)) ?_; refine vMz ?_; (iterate 3 refine gFz ?_); refine pTz ?_; refine vMz ?_; (iterate 5 refine gFz ?_); refine pTz ?_; refine vMz ?_; (iterate 4 refine gFz ?_); refine pTz ?_; refine vMz ?_; (iterate 6 refine gFz ?_); refine pTz ?_; refine nNz ?_; refine cTz ?_; refine sRz ?_; apply LW.v0; rfl; rfl; apply ValP.buildT; infer_instance; infer_instance; exact PartsOk.nil; rfl; simp only [fillP, wrCells, Value.cells, List.getElem?_cons_zero, List.getElem?_cons_succ, List.toList_toArray, List.setIfInBounds_toArray, List.set_cons_succ, List.set_cons_zero, Nat.reduceAdd, Nat.zero_add]; rfl; refine LW.store rfl rfl .head (.whole rfl rfl rfl) ?_; refine vAz ?_; refine nNz ?_; refine CW.ret ?_; refine thenR ?_)
    exact fin (vs := [frv zeroF, .bool false]) [] (.inl rfl) rfl rfl (by (apply ResL.cons; apply Res.cell; rfl; apply Known.at; apply FsAt.head; exact Rd.whole rfl; apply ResL.cons; exact Res.tmp rfl; exact ResL.nil)) (List.nil_sublist _) (.inr ⟨fun h => hF h.1, rfl, rfl⟩)
end Go.Proofs.YtpgdnfgjbhdbpaaGreatDoor

/-
  A SMALL LOGIC OVER THE KIT's WALK, PART NA: a drawn call that reads what lies anywhere.
  Conditions: none; over any program.
-/
namespace Go.Proofs.YtpgdnfgjbhdbpaaGreatDoor.SL
set_option linter.unusedVariables false
set_option linter.unusedSimpArgs false
open Go Go.RowKit
/-- The same facts, perhaps with more readers. -/
inductive MoreR : Ts → Ts → Prop
  | nil : MoreR [] []
  | cons {b : Nat} {o : Obj} {ws rs rs' : List Nat} {r r' : Ts} (h : ∀ x ∈ rs, x ∈ rs') (t : MoreR r r') : MoreR ((b, o, ws, rs) :: r) ((b, o, ws, rs') :: r')
/-- All facts, read by operation k. -/
def markAll (k : Nat) (ts : Ts) : Ts := ts.map fun p => (p.1, p.2.1, p.2.2.1, k :: p.2.2.2)
theorem MoreR.keys {ts ts' : Ts} (h : MoreR ts ts') : ts'.map (·.1) = ts.map (·.1) := by
  induction h with
  | nil => rfl
  | cons _ _ ih => simp [ih]
theorem MoreR.mem {ts ts' : Ts} (h : MoreR ts ts') : ∀ p' ∈ ts', ∃ rs, (p'.1, p'.2.1, p'.2.2.1, rs) ∈ ts ∧ ∀ x ∈ rs, x ∈ p'.2.2.2 := by
  induction h with
  | nil => intro p hp; cases hp
  | @cons b o ws rs rs' r r' hx _ ih =>
    intro p hp
    rcases List.mem_cons.1 hp with rfl | hp
    · exact ⟨rs, List.mem_cons_self, hx⟩
    · obtain ⟨rs, h1, h2⟩ := ih p hp
      exact ⟨rs, List.mem_cons_of_mem _ h1, h2⟩
theorem MoreR.mem' {ts ts' : Ts} (h : MoreR ts ts') : ∀ p ∈ ts, ∃ rs, (p.1, p.2.1, p.2.2.1, rs) ∈ ts' := by
  induction h with
  | nil => intro p hp; cases hp
  | @cons b o ws rs rs' r r' hx _ ih =>
    intro p hp
    rcases List.mem_cons.1 hp with rfl | hp
    · exact ⟨rs', List.mem_cons_self⟩
    · obtain ⟨rs, h1⟩ := ih p hp
      exact ⟨rs, List.mem_cons_of_mem _ h1⟩
theorem MoreR.refl : ∀ ts : Ts, MoreR ts ts
  | [] => .nil
  | (b, o, ws, rs) :: r => .cons (fun _ h => h) (MoreR.refl r)
theorem MoreR.mark {k : Nat} : ∀ ts : Ts, MoreR ts (markAll k ts)
  | [] => .nil
  | (b, o, ws, rs) :: r => .cons (fun _ h => List.mem_cons_of_mem _ h) (MoreR.mark r)
theorem more_app : ∀ (l : Ts) {ts ts' : Ts}, MoreR ts ts' → MoreR (l ++ ts) (l ++ ts')
  | [], _, _, h => h
  | (b, o, ws, rs) :: l, _, _, h => .cons (fun _ h => h) (more_app l h)
theorem fsOf_mark {k : Nat} (ts : Ts) : fsOf (markAll k ts) = fsOf ts := by simp [fsOf, markAll]
theorem DW.moreA {C : Cu} {ops : Array Oper} {μ : Mu} {Q : Post} {tl l : List Oper} {k : Nat} {e : Env} {ts ts' : Ts} (hm : MoreR ts ts') (h : DW C ops μ Q tl l k e ts') : DW C ops μ Q tl l k e ts := fun a φ tw tr ha hr hi => by
  refine h a φ tw tr ha ⟨fun p hp => ?_, fun p hp j hj => ?_, fun p hp j hj => ?_, hr.old, hr.oldr, ?_⟩ hi
  · obtain ⟨rs, h1, _⟩ := hm.mem p hp
    exact hr.fsome (p.1, p.2.1, p.2.2.1, rs) h1
  · obtain ⟨rs, h1, _⟩ := hm.mem p hp
    exact hr.ftw (p.1, p.2.1, p.2.2.1, rs) h1 j hj
  · obtain ⟨rs, h1, h2⟩ := hm.mem p hp
    exact h2 _ (hr.ftr (p.1, p.2.1, p.2.2.1, rs) h1 j hj)
  · have h1 : (ts.map (·.1)).Pairwise (· ≠ ·) := List.pairwise_map.2 hr.nd
    rw [← hm.keys] at h1
    exact List.pairwise_map.1 h1
/-- Reading a fact that is there. -/
theorem read_one {ops : Array Oper} {k : Nat} {tsF : Ts} : ∀ {ts : Ts}, MoreR tsF ts → MoreR ts (markAll k tsF) → ∀ {b : Nat} {o : Obj} {ws rs : List Nat}, (b, o, ws, rs) ∈ tsF → ancB ops k ws = true → ∃ ts', TRead ops k ts b o ts' ∧ MoreR tsF ts' ∧ MoreR ts' (markAll k tsF) := by
  induction tsF with
  | nil => intro ts _ _ b o ws rs hm; cases hm
  | cons q r ih =>
    intro ts h0 h
    obtain ⟨qb, qo, qw, qr⟩ := q
    rw [show markAll k ((qb, qo, qw, qr) :: r) = (qb, qo, qw, k :: qr) :: markAll k r from rfl] at h ⊢
    cases h with
    | @cons _ _ _ rs1 _ r1 _ hx ht =>
      cases h0 with
      | cons hy hu =>
        intro b o ws rs hm ha
        rcases List.mem_cons.1 hm with he | hm
        · cases he
          exact ⟨_, .head ha, .cons (fun x hx' => List.mem_cons_of_mem _ (hy x hx')) hu, .cons (fun x hx' => by
            rcases List.mem_cons.1 hx' with rfl | h'
            · exact List.mem_cons_self
            · exact hx x h') ht⟩
        · obtain ⟨ts', h1, h2, h3⟩ := ih hu ht hm ha
          exact ⟨_, .tail h1, .cons hy h2, .cons hx h3⟩
/-- What is read lies in these facts, or with the caller. -/
def Lie (C : Cu) (ops : Array Oper) (k : Nat) (ts : Ts) (p : Nat × Obj) : Prop := (∃ ws rs, (p.1, p.2, ws, rs) ∈ ts ∧ ancB ops k ws = true) ∨ (C.w0.heap[p.1]? = some p.2 ∧ p.1 ∉ C.S)
theorem read_all {C : Cu} {ops : Array Oper} {k : Nat} {tsF : Ts} : ∀ (us : Fs) {ts : Ts}, MoreR tsF ts → MoreR ts (markAll k tsF) → (∀ p ∈ us, Lie C ops k tsF p) → ∃ ts', ReadAll C ops k (us.map (·.1)) ts us ts' ∧ MoreR ts' (markAll k tsF)
  | [], ts, _, h, _ => ⟨ts, .nil, h⟩
  | (b, o) :: us, ts, h0, h, hl => by
    rcases hl (b, o) List.mem_cons_self with ⟨ws, rs, h1, h2⟩ | ⟨h1, h2⟩
    · obtain ⟨ts1, h4, h5, h6⟩ := read_one h0 h h1 h2
      obtain ⟨ts', h7, h8⟩ := read_all us h5 h6 fun p hp => hl p (List.mem_cons_of_mem _ hp)
      exact ⟨ts', .own h4 h7, h8⟩
    · obtain ⟨ts', h7, h8⟩ := read_all us h0 h fun p hp => hl p (List.mem_cons_of_mem _ hp)
      exact ⟨ts', .ext h1 h2 h7, h8⟩
theorem markAll_nil {k : Nat} : markAll k [] = [] := rfl
theorem markAll_cons {k b : Nat} {o : Obj} {ws rs : List Nat} {r : Ts} : markAll k ((b, o, ws, rs) :: r) = (b, o, ws, k :: rs) :: markAll k r := rfl
theorem markAll_app {k : Nat} {l r : Ts} : markAll k (l ++ r) = markAll k l ++ markAll k r := by simp [markAll]
theorem markAll_tsOf {k : Nat} {g : Fs} : markAll k (tsOf g) = tsTag [] [k] g := by simp [markAll, tsOf, tsTag]
section dw
variable {C : Cu} {ops : Array Oper} {Q : Post} {tl rest : List Oper} {e : Env} {ts : Ts} {μ : Mu} {k d : Nat} {t : TypeId} {pos : String} {af : Array Edge} {g : Option (Nat × Bool)} {fo : Operand} {args : Array Operand} {tys : Array TypeId} {f : FuncId} {vs : List Value} (us : Fs)
/-- A drawn call that reads blocks that lie anywhere. -/
theorem DW.callA {v : Value} (hk : ops[k]? = some ⟨some d, .call { callee := .value fo, args := args, argTypes := tys }, t, pos, af, g⟩) (hm : μ k = none)
    (hd : Nat.blt d C.N = true) (hg : WantT ops e g) (hf : e.ev fo = some (.func (.func f) #[] #[])) (hF : FnI C.P f) (ha : ArgsOk e args.toList vs) (hbl : vs.flatMap (blocksN 4) = us.map (·.1)) (hl : ∀ p ∈ us, Lie C ops k ts p)
    (hc : ∀ w, Bel C.w0.heap.size C.S C.w0 w → (∀ p ∈ us, w.heap[p.1]? = some p.2) → Calls C.P f vs.toArray w (Ret w v)) (kk : DW C ops μ Q tl rest (k + 1) ((d, v) :: e) (markAll k ts)) :
    DW C ops μ Q tl (⟨some d, .call { callee := .value fo, args := args, argTypes := tys }, t, pos, af, g⟩ :: rest) k e ts := by
  obtain ⟨ts', h1, h2⟩ := read_all us (MoreR.refl ts) (MoreR.mark ts) hl
  rw [← hbl] at h1
  exact DW.callE hk hm hd hg hf hF ha (show _ = vs.flatMap (blocksN 4) from rfl) h1 hc (DW.moreA h2 kk)
theorem DW.manyA {M : Rel1} (hk : ops[k]? = some ⟨some d, .call { callee := .value fo, args := args, argTypes := tys }, t, pos, af, g⟩) (hm : μ k = some (cst M, false))
    (hd : Nat.blt d C.N = true) (hg : WantT ops e g) (hf : e.ev fo = some (.func (.func f) #[] #[])) (hF : FnI C.P f) (ha : ArgsOk e args.toList vs) (hbl : vs.flatMap (blocksN 4) = us.map (·.1)) (hl : ∀ p ∈ us, Lie C ops k ts p)
    (hc : ∀ w, Bel C.w0.heap.size C.S C.w0 w → (∀ p ∈ us, w.heap[p.1]? = some p.2) → Calls C.P f vs.toArray w (RetG w [] M)) (kk : ∀ v gs, M v gs → DW C ops μ Q tl rest (k + 1) ((d, v) :: e) (tsNew k gs ++ markAll k ts)) :
    DW C ops μ Q tl (⟨some d, .call { callee := .value fo, args := args, argTypes := tys }, t, pos, af, g⟩ :: rest) k e ts := by
  obtain ⟨ts', h1, h2⟩ := read_all us (MoreR.refl ts) (MoreR.mark ts) hl
  rw [← hbl] at h1
  refine DW.manyE hk hm hd hg hf hF ha (show _ = vs.flatMap (blocksN 4) from rfl) h1 hc fun v gs hM => DW.moreA ?_ (kk v gs hM)
  exact (more_app _ h2)
end dw
end Go.Proofs.YtpgdnfgjbhdbpaaGreatDoor.SL

/-
  What begins a call: words, gas, who calls whom.
  Conditions: none.
-/
namespace Go.Proofs.YtpgdnfgjbhdbpaaGreatDoor
open Go Go.RowKit SL
set_option maxRecDepth 8000
set_option maxHeartbeats 4000000
set_option linter.unusedSimpArgs false
set_option linter.unusedVariables false
attribute [local irreducible] SL.CW SL.LW SL.DW Calls SL.Ret SL.RetG SL.beginQ SL.roundQ SL.rangeQ SL.inQ SL.RW SL.AnyW SL.thenQ SL.thenC SL.thenW SL.blkQ SL.finQ SL.ValP SL.NewP SL.SetP SL.CallP SL.Rd SL.Wr SL.Known
/-- What is asked for, and how. -/
structure AkV where
  kind : Int
  op : Nat
  ws : Value
  dt : Value
  cold : Bool
  vl : Bool
  new : Bool
def bgl (f : FrV) (A : AkV) (c : ClV) : List Value := frc f ++ (shc A.op ++ ([.int .i64 A.kind, .int .u8 (A.op : Int), A.ws, A.dt] ++ ([.bool A.cold, .bool A.vl, .bool A.new] ++ clc c)))
abbrev bga (f : FrV) (A : AkV) (c : ClV) : Array Value := (bgl f A c).toArray
abbrev bgO (f : FrV) (A : AkV) (c : ClV) : Obj := .cells (bga f A c) 96 (0, 0)
attribute [local irreducible] shq
section rd
variable {P : Program} {T E : TypeId} {fr : Nat × Nat} {A : AkV} {f : FrV} {c : ClV} {code stk mem inp back : Value} {pc : Int} {gas self frm val : Nat} {stat : Bool} {op dst cself cfrm cval cgas pl n : Nat} {cinp ccode : Value} {mv cstat : Bool}
theorem bg_rdF [AgI P T true] {z : Value} [InfoI P T 14 z] : Rd P T (.cells (bga f A c) E fr) 0 (frv f) := Rd.mid (cs := frc f) rfl rfl
theorem bg_rd4 [AgI P T false] : Rd P T (.cells (bga ⟨code, pc, stk, mem, gas, self, frm, val, inp, back, stat⟩ A c) E fr) 4 (.int .u64 (gas : Int)) := Rd.one rfl
theorem bg_rd5 [AgI P T false] : Rd P T (.cells (bga ⟨code, pc, stk, mem, gas, self, frm, val, inp, back, stat⟩ A c) E fr) 5 (.int .u64 (self : Int)) := Rd.one rfl
theorem bg_rd6 [AgI P T false] : Rd P T (.cells (bga ⟨code, pc, stk, mem, gas, self, frm, val, inp, back, stat⟩ A c) E fr) 6 (.int .u64 (frm : Int)) := Rd.one rfl
theorem bg_rd7 [AgI P T true] {z : Value} [InfoI P T 4 z] : Rd P T (.cells (bga ⟨code, pc, stk, mem, gas, self, frm, val, inp, back, stat⟩ A c) E fr) 7 (wv val) := Rd.mid (cs := (wc val).toList) rfl rfl
theorem bg_rd13 [AgI P T false] : Rd P T (.cells (bga ⟨code, pc, stk, mem, gas, self, frm, val, inp, back, stat⟩ A c) E fr) 13 (.bool stat) := Rd.one rfl
theorem bg_rd15 [AgI P T false] : Rd P T (.cells (bga f A c) E fr) 15 (.int .i64 (shq A.op).2.1) := Rd.one rfl
theorem bg_rd16 [AgI P T false] : Rd P T (.cells (bga f A c) E fr) 16 (.int .i64 (shq A.op).2.2.1) := Rd.one rfl
theorem bg_rd17 [AgI P T false] : Rd P T (.cells (bga f A c) E fr) 17 (.int .i64 (shq A.op).2.2.2.1) := Rd.one rfl
theorem bg_rd18 [AgI P T false] : Rd P T (.cells (bga f A c) E fr) 18 (.int .i64 (shq A.op).2.2.2.2.1) := Rd.one rfl
theorem bg_rd20 [AgI P T false] : Rd P T (.cells (bga f A c) E fr) 20 (.int .u8 (A.op : Int)) := Rd.one rfl
theorem bg_rd21 [AgI P T false] : Rd P T (.cells (bga f A c) E fr) 21 A.ws := Rd.one rfl
theorem bg_rd23 [AgI P T false] : Rd P T (.cells (bga f A c) E fr) 23 (.bool A.cold) := Rd.one rfl
theorem bg_rd25 [AgI P T false] : Rd P T (.cells (bga f A c) E fr) 25 (.bool A.new) := Rd.one rfl
theorem bg_rd27 [AgI P T false] : Rd P T (.cells (bga f A ⟨op, dst, cself, cfrm, cval, mv, cgas, cinp, ccode, pl, n, cstat⟩) E fr) 27 (.int .u64 (dst : Int)) := Rd.one rfl
theorem bg_rd30 [AgI P T true] {z : Value} [InfoI P T 4 z] : Rd P T (.cells (bga f A ⟨op, dst, cself, cfrm, cval, mv, cgas, cinp, ccode, pl, n, cstat⟩) E fr) 30 (wv cval) := Rd.mid (cs := (wc cval).toList) rfl rfl
theorem bg_rd34 [AgI P T false] : Rd P T (.cells (bga f A ⟨op, dst, cself, cfrm, cval, mv, cgas, cinp, ccode, pl, n, cstat⟩) E fr) 34 (.bool mv) := Rd.one rfl
theorem bg_rd35 [AgI P T false] : Rd P T (.cells (bga f A ⟨op, dst, cself, cfrm, cval, mv, cgas, cinp, ccode, pl, n, cstat⟩) E fr) 35 (.int .u64 (cgas : Int)) := Rd.one rfl
theorem bg_rdC [AgI P T true] {z : Value} [InfoI P T 15 z] : Rd P T (.cells (bga f A c) E fr) 26 (clv c) := Rd.mid (cs := clc c) rfl rfl
end rd
section wr
variable {P : Program} {T E : TypeId} {A : AkV} {f : FrV} {c : ClV} {z code stk mem inp back : Value} {pc : Int} {gas self frm val x q k : Nat} {stat y : Bool} {p : Option Addr} {op dst cself cfrm cval cgas pl n : Nat} {cinp ccode : Value} {mv cstat : Bool}
theorem bg_wr4 [InfoI P T 1 z] : Wr P T (.cells (bga ⟨code, pc, stk, mem, gas, self, frm, val, inp, back, stat⟩ A c) E (0, 0)) (0 + 0 + 4) (.int .u64 (x : Int)) (.cells (bga ⟨code, pc, stk, mem, x, self, frm, val, inp, back, stat⟩ A c) E (0, 0)) := Wr.cells (n := 1) (z := z) rfl rfl (by show 0 + 0 + 4 + 1 ≤ 41; omega) rfl
theorem bg_wr26 [InfoI P T 1 z] : Wr P T (.cells (bga f A ⟨op, dst, cself, cfrm, cval, mv, cgas, cinp, ccode, pl, n, cstat⟩) E (0, 0)) (0 + 26 + 0) (.int .u8 (x : Int)) (.cells (bga f A ⟨x, dst, cself, cfrm, cval, mv, cgas, cinp, ccode, pl, n, cstat⟩) E (0, 0)) := Wr.cells (n := 1) (z := z) rfl rfl (by show 0 + 26 + 0 + 1 ≤ 41; omega) rfl
theorem bg_wr27 [InfoI P T 1 z] : Wr P T (.cells (bga f A ⟨op, dst, cself, cfrm, cval, mv, cgas, cinp, ccode, pl, n, cstat⟩) E (0, 0)) (0 + 26 + 1) (.int .u64 (x : Int)) (.cells (bga f A ⟨op, x, cself, cfrm, cval, mv, cgas, cinp, ccode, pl, n, cstat⟩) E (0, 0)) := Wr.cells (n := 1) (z := z) rfl rfl (by show 0 + 26 + 1 + 1 ≤ 41; omega) rfl
theorem bg_wr28 [InfoI P T 1 z] : Wr P T (.cells (bga f A ⟨op, dst, cself, cfrm, cval, mv, cgas, cinp, ccode, pl, n, cstat⟩) E (0, 0)) (0 + 26 + 2) (.int .u64 (x : Int)) (.cells (bga f A ⟨op, dst, x, cfrm, cval, mv, cgas, cinp, ccode, pl, n, cstat⟩) E (0, 0)) := Wr.cells (n := 1) (z := z) rfl rfl (by show 0 + 26 + 2 + 1 ≤ 41; omega) rfl
theorem bg_wr29 [InfoI P T 1 z] : Wr P T (.cells (bga f A ⟨op, dst, cself, cfrm, cval, mv, cgas, cinp, ccode, pl, n, cstat⟩) E (0, 0)) (0 + 26 + 3) (.int .u64 (x : Int)) (.cells (bga f A ⟨op, dst, cself, x, cval, mv, cgas, cinp, ccode, pl, n, cstat⟩) E (0, 0)) := Wr.cells (n := 1) (z := z) rfl rfl (by show 0 + 26 + 3 + 1 ≤ 41; omega) rfl
theorem bg_wr30 [InfoI P T 4 z] : Wr P T (.cells (bga f A ⟨op, dst, cself, cfrm, cval, mv, cgas, cinp, ccode, pl, n, cstat⟩) E (0, 0)) (0 + 26 + 4) (wv x) (.cells (bga f A ⟨op, dst, cself, cfrm, x, mv, cgas, cinp, ccode, pl, n, cstat⟩) E (0, 0)) := Wr.cells (n := 4) (z := z) rfl rfl (by show 0 + 26 + 4 + 4 ≤ 41; omega) rfl
theorem bg_wr34 [InfoI P T 1 z] : Wr P T (.cells (bga f A ⟨op, dst, cself, cfrm, cval, mv, cgas, cinp, ccode, pl, n, cstat⟩) E (0, 0)) (0 + 26 + 8) (.bool y) (.cells (bga f A ⟨op, dst, cself, cfrm, cval, y, cgas, cinp, ccode, pl, n, cstat⟩) E (0, 0)) := Wr.cells (n := 1) (z := z) rfl rfl (by show 0 + 26 + 8 + 1 ≤ 41; omega) rfl
theorem bg_wr35 [InfoI P T 1 z] : Wr P T (.cells (bga f A ⟨op, dst, cself, cfrm, cval, mv, cgas, cinp, ccode, pl, n, cstat⟩) E (0, 0)) (0 + 26 + 9) (.int .u64 (x : Int)) (.cells (bga f A ⟨op, dst, cself, cfrm, cval, mv, x, cinp, ccode, pl, n, cstat⟩) E (0, 0)) := Wr.cells (n := 1) (z := z) rfl rfl (by show 0 + 26 + 9 + 1 ≤ 41; omega) rfl
theorem bg_wr36 [InfoI P T 1 z] : Wr P T (.cells (bga f A ⟨op, dst, cself, cfrm, cval, mv, cgas, cinp, ccode, pl, n, cstat⟩) E (0, 0)) (0 + 26 + 10) (.slice p q k) (.cells (bga f A ⟨op, dst, cself, cfrm, cval, mv, cgas, .slice p q k, ccode, pl, n, cstat⟩) E (0, 0)) := Wr.cells (n := 1) (z := z) rfl rfl (by show 0 + 26 + 10 + 1 ≤ 41; omega) rfl
theorem bg_wr38 [InfoI P T 1 z] : Wr P T (.cells (bga f A ⟨op, dst, cself, cfrm, cval, mv, cgas, cinp, ccode, pl, n, cstat⟩) E (0, 0)) (0 + 26 + 12) (.int .u64 (x : Int)) (.cells (bga f A ⟨op, dst, cself, cfrm, cval, mv, cgas, cinp, ccode, x, n, cstat⟩) E (0, 0)) := Wr.cells (n := 1) (z := z) rfl rfl (by show 0 + 26 + 12 + 1 ≤ 41; omega) rfl
theorem bg_wr39 [InfoI P T 1 z] : Wr P T (.cells (bga f A ⟨op, dst, cself, cfrm, cval, mv, cgas, cinp, ccode, pl, n, cstat⟩) E (0, 0)) (0 + 26 + 13) (.int .u64 (x : Int)) (.cells (bga f A ⟨op, dst, cself, cfrm, cval, mv, cgas, cinp, ccode, pl, x, cstat⟩) E (0, 0)) := Wr.cells (n := 1) (z := z) rfl rfl (by show 0 + 26 + 13 + 1 ≤ 41; omega) rfl
theorem bg_wr40 [InfoI P T 1 z] : Wr P T (.cells (bga f A ⟨op, dst, cself, cfrm, cval, mv, cgas, cinp, ccode, pl, n, cstat⟩) E (0, 0)) (0 + 26 + 14) (.bool y) (.cells (bga f A ⟨op, dst, cself, cfrm, cval, mv, cgas, cinp, ccode, pl, n, y⟩) E (0, 0)) := Wr.cells (n := 1) (z := z) rfl rfl (by show 0 + 26 + 14 + 1 ≤ 41; omega) rfl
end wr
/-- A word that is asked for. -/
def wordI (ws : List Nat) (i : Int) : Nat := if i < 0 then 0 else ws.getD i.toNat 0
theorem bword_calls (f : FrV) (A : AkV) (c : ClV) (b : Nat) (ws : List Nat) (i : Int) (hi : i < ws.length) (w : World) (hb : w.heap[b]? = some (bgO f A c)) (hv : RowAt w 4 A.ws ws.length (wcs ws)) :
    Calls Tryz.prog 89 #[.pointer (some ⟨b, 0, none⟩), .int .i64 i] w (Ret w (wv (wordI ws i))) := by
  unfold wordI
  rcases Int.lt_or_le i 0 with h0 | h0
  · rw [if_pos h0]
    refine enter (args := [_, _]) _ [] [] Tryz.func89 rfl Tryz.ntmps89 rfl (by simp) .nil ?_
    (refine sRz ?_; apply LW.allocW; rfl; intro _; refine nNz ?_; refine CW.seq ?_; refine sRz ?_; refine vMz ?_; refine lvz (.lssT rfl rfl (by omega)) ?_; refine nNz ?_; refine cTz ?_; refine sRz ?_; apply LW.v0; rfl; rfl; exact ValP.buildW0; refine LW.store rfl rfl .head (.whole rfl rfl rfl) ?_; refine nNz ?_; refine CW.ret ?_; refine thenR ?_)
    (apply finR; exact .inl rfl; rfl; rfl; rfl; apply ResL.cons; apply Res.cell; rfl; apply Known.at; apply FsAt.head; exact Rd.whole rfl; exact ResL.nil)
    rfl
  · rw [if_neg (by omega)]
    obtain ⟨k, rfl⟩ : ∃ k : Nat, i = (k : Int) := ⟨i.toNat, (Int.toNat_of_nonneg h0).symm⟩
    rw [Int.toNat_natCast]
    obtain ⟨bw, off, cc, cs, E, fr, heq, hbw, hx⟩ := hv.pos (by omega)
    obtain ⟨kind, op, aws, dt, cold, vl, new⟩ := A
    dsimp only at heq
    subst heq
    have hrd := word_rd (P := Tryz.prog) (T := 29) (E := E) (fr := fr) hx k (by omega)
    obtain ⟨x, hx1⟩ : ∃ x, ws.getD k 0 = x := ⟨_, rfl⟩
    rw [hx1] at hrd ⊢
    refine enter (args := [_, _]) _ [] [] Tryz.func89 rfl Tryz.ntmps89 rfl (by simp) .nil ?_
    (refine sRz ?_; apply LW.allocW; rfl; intro _; refine nNz ?_; refine CW.seq ?_; refine sRz ?_; refine vMz ?_; refine lvz (.lssF rfl rfl (by omega)) ?_; refine nNz ?_; refine cFz ?_; refine CW.skip ?_; refine thenN ?_; refine sRz ?_; refine vMz ?_; refine vNz ?_; refine vFz ?_; refine vFz ?_; apply LW.load; rfl; rfl; exact Known.ext (by assumption) (by simp); exact bg_rd21; refine vMz ?_; refine lvz (.indexAddrS rfl rfl rfl (by omega)) ?_; apply LW.load; rfl; rfl; exact Known.ext (by assumption) (by simp); assumption; refine LW.store rfl rfl .head (.whole rfl rfl rfl) ?_; refine nNz ?_; refine CW.ret ?_)
    (apply finR; exact .inl rfl; rfl; rfl; rfl; apply ResL.cons; apply Res.cell; rfl; apply Known.at; apply FsAt.head; exact Rd.whole rfl; exact ResL.nil)
    rfl
/-! ### Who calls whom -/
def zeroC : ClV := ⟨0, 0, 0, 0, 0, false, 0, .slice none 0 0, .slice none 0 0, 0, 0, false⟩
def whoC (f : FrV) (op : Nat) (ws : List Nat) : ClV :=
  if op = 244 then ⟨op, wordI ws 1 % 18446744073709551616, f.self, f.frm, f.val, false, 0, .slice none 0 0, .slice none 0 0, 0, 0, f.stat⟩
  else ⟨op, wordI ws (shq op).2.1 % 18446744073709551616, wordI ws (shq op).2.1 % 18446744073709551616, f.self, wordI ws (shq op).2.2.1, !decide (wordI ws (shq op).2.2.1 = 0), 0, .slice none 0 0, .slice none 0 0, 0, 0, f.stat || decide (op = 250)⟩
attribute [local irreducible] SL.inP wordI
theorem wordI_lt {ws : List Nat} (hM : ∀ x ∈ ws, x < M256) (i : Int) : wordI ws i < M256 := by
  unfold wordI
  split
  · decide
  · rcases Nat.lt_or_ge i.toNat ws.length with h | h
    · rw [List.getD_eq_getElem?_getD, List.getElem?_eq_getElem h]; exact hM _ (List.getElem_mem h)
    · rw [List.getD_eq_getElem?_getD, List.getElem?_eq_none h]; decide
theorem who_calls (w0 : World) (b : Nat) (f : FrV) (A : AkV) (ws : List Nat) (hM : ∀ x ∈ ws, x < M256) (hlen : (shq A.op).1 = (ws.length : Int)) (hok : (shq A.op).2.2.2.2.2 = true) (rest : Fs) (w : World) (hv : RowAt w0 4 A.ws ws.length (wcs ws)) (hs : St w0 [] ((b, bgO f A zeroC) :: rest) w) :
    Calls Tryz.prog 57 #[.pointer (some ⟨b, 0, none⟩)] w (fun x w' => ∃ fs', (x = .returned (.tuple #[]) ∧ fs' = (b, bgO f A (whoC f A.op ws)) :: rest) ∧ St w0 [] fs' w') := by
  refine calls_inlineP (K := fun x fs' => x = .returned (.tuple #[]) ∧ fs' = (b, bgO f A (whoC f A.op ws)) :: rest) (args := [_]) Tryz.func57 rfl Tryz.ntmps57 rfl ?_ hs
  obtain ⟨code, pc, stk, mem, gas, self, frm, val, inp, back, stat⟩ := f
  have hW : ∀ (c : ClV) (i : Int), i < ws.length → ∀ w', Bel w0.heap.size [] w0 w' → (∀ p ∈ [(b, bgO ⟨code, pc, stk, mem, gas, self, frm, val, inp, back, stat⟩ A c)], w'.heap[p.1]? = some p.2) → Calls Tryz.prog 89 #[.pointer (some ⟨b, 0, none⟩), .int .i64 i] w' (Ret w' (wv (wordI ws i))) := fun c i hi w' hb hp => bword_calls _ A c b ws i hi w' (hp _ List.mem_cons_self) (hv.bel hb)
  have hvl := wordI_lt hM
  rcases shq_ok hok with ⟨ho, hq⟩ | ⟨ho, hq⟩ | ⟨ho, hq⟩
  · have hWt := fun c => hW c 1 (by rw [hq] at hlen; dsimp only at hlen; omega)
    have hWv := fun c => hW c 2 (by rw [hq] at hlen; dsimp only at hlen; omega)
    have hs15 : ∀ {f c E fr}, Rd Tryz.prog 3 (.cells (bga f A c) E fr) 15 (.int .i64 1) := fun {f c E fr} => by have h := bg_rd15 (P := Tryz.prog) (T := 3) (E := E) (fr := fr) (A := A) (f := f) (c := c); rw [hq] at h; exact h
    have hs16 : ∀ {f c E fr}, Rd Tryz.prog 3 (.cells (bga f A c) E fr) 16 (.int .i64 2) := fun {f c E fr} => by have h := bg_rd16 (P := Tryz.prog) (T := 3) (E := E) (fr := fr) (A := A) (f := f) (c := c); rw [hq] at h; exact h
    have hv2 := hvl 2
    cases stat with
    | true =>
      rw [show whoC ⟨code, pc, stk, mem, gas, self, frm, val, inp, back, true⟩ A.op ws = ⟨A.op, wordI ws 1 % 18446744073709551616, wordI ws 1 % 18446744073709551616, self, wordI ws 2, !decide (wordI ws 2 = 0), 0, .slice none 0 0, .slice none 0 0, 0, 0, true⟩ by unfold whoC; rw [if_neg (by omega), hq]; rfl]
      (refine sRz ?_; refine vMz ?_; refine vNz ?_; refine vFz ?_; refine vAz ?_; refine nNz ?_; refine CW.seq ?_; apply CW.pre; refine AnyW.any 23 mixed (by decide +kernel) ?_; (try simp only [tsOf_cons, tsOf_nil, tsOf_app]); refine dvz (.move rfl) ?_; refine dvz (.move rfl) ?_; refine dvz (.move rfl) ?_; refine dvz (.nilCheck rfl) ?_; refine dvz (.fieldAddr rfl rfl) ?_; refine dvz (.fieldAddr rfl rfl) ?_; apply DW.loadO; rfl; rfl; rfl; exact WantT.none; rfl; apply TRead.head; exact ancB_nil; exact bg_rd20; refine dvz (.move rfl) ?_; refine dvz (.nilCheck rfl) ?_; refine dvz (.fieldAddr rfl rfl) ?_; refine dvz (.fieldAddr rfl rfl) ?_; apply DW.loadO; rfl; rfl; rfl; exact WantT.none; rfl; apply TRead.head; exact ancB_nil; exact bg_rd13; refine dvz (.move rfl) ?_; (iterate 6 refine dSz ?_); refine dvz (.pickT' rfl (by with_reducible rfl) rfl) ?_; refine dvz (.nilCheck rfl) ?_; refine dvz (.fieldAddr rfl rfl) ?_; apply DW.store; rfl; rfl; exact WantT.none; rfl; rfl; apply TSet.head; exact ancB_nil; kernel_rfl; apply bg_wr26 (z := .int .u8 0); apply DW.nil; simp only [fsOf_cons, fsOf_nil, fsOf_app, fsOf_tsOf, fsOf_new]; refine vNz ?_; refine vFz ?_; apply LW.store; rfl; rfl; apply SetAt.head; apply bg_wr40 (z := .bool false); refine nNz ?_; refine CW.seq ?_; apply CW.pre; refine AnyW.any 29 mixed (by decide +kernel) ?_; (try simp only [tsOf_cons, tsOf_nil, tsOf_app]); refine dvz (.move rfl) ?_; refine dvz (.move rfl) ?_; refine dvz (.move rfl) ?_; refine dvz (.move rfl) ?_; refine dvz (.move rfl) ?_; refine dvz (.nilCheck rfl) ?_; refine dvz (.fieldAddr rfl rfl) ?_; refine dvz (.fieldAddr rfl rfl) ?_; apply DW.loadO; rfl; rfl; rfl; exact WantT.none; rfl; apply TRead.head; exact ancB_nil; exact hs15; apply DW.callE; rfl; rfl; rfl; exact WantT.none; rfl; infer_instance; exact .cons rfl (.cons rfl .nil); rfl; apply ReadAll.own; apply TRead.head; exact ancB_nil; exact ReadAll.nil; intro w _ _; exact hWt _ w (by assumption) (by assumption); apply DW.callE; rfl; rfl; rfl; exact WantT.none; rfl; infer_instance; exact .cons rfl .nil; rfl; exact ReadAll.nil; intro w _ _; exact aOf_calls _ w; refine dvz (.move rfl) ?_; refine dvz (.nilCheck rfl) ?_; refine dvz (.fieldAddr rfl rfl) ?_; refine dvz (.fieldAddr rfl rfl) ?_; apply DW.loadO; rfl; rfl; rfl; exact WantT.none; rfl; apply TRead.head; exact ancB_nil; exact bg_rd5; refine dvz (.move rfl) ?_; refine dvz (.move rfl) ?_; refine dvz (.nilCheck rfl) ?_; refine dvz (.fieldAddr rfl rfl) ?_; refine dvz (.fieldAddr rfl rfl) ?_; apply DW.loadO; rfl; rfl; rfl; exact WantT.none; rfl; apply TRead.head; exact ancB_nil; exact hs16; apply DW.callE; rfl; rfl; rfl; exact WantT.none; rfl; infer_instance; exact .cons rfl (.cons rfl .nil); rfl; apply ReadAll.own; apply TRead.head; exact ancB_nil; exact ReadAll.nil; intro w _ _; exact hWv _ w (by assumption) (by assumption); refine dvz (.nilCheck rfl) ?_; refine dvz (.fieldAddr rfl rfl) ?_; apply DW.store; rfl; rfl; exact WantT.none; rfl; rfl; apply TSet.head; exact ancB_nil; kernel_rfl; apply bg_wr27 (z := .int .u64 0); refine dvz (.nilCheck rfl) ?_; refine dvz (.fieldAddr rfl rfl) ?_; apply DW.store; rfl; rfl; exact WantT.none; rfl; rfl; apply TSet.head; kernel_rfl; kernel_rfl; apply bg_wr29 (z := .int .u64 0); apply DW.nil; simp only [fsOf_cons, fsOf_nil, fsOf_app, fsOf_tsOf, fsOf_new]; refine vNz ?_; refine vFz ?_; refine LW.store rfl rfl .head bg_wr30 ?_; refine nSz ?_; refine vMz ?_; refine vMz ?_; refine vNz ?_; refine vFz ?_; refine ldz rfl .head bg_rd30 ?_; apply LW.v0; rfl; rfl; exact ValP.buildW0; refine lvz (.neW rfl rfl (by assumption) (by omega)) ?_; refine vNz ?_; refine vFz ?_; apply LW.store; rfl; rfl; apply SetAt.head; apply bg_wr34 (z := .bool false); refine nSz ?_; refine vMz ?_; refine vMz ?_; refine vNz ?_; refine vFz ?_; refine ldz rfl .head bg_rd27 ?_; refine vNz ?_; refine vFz ?_; apply LW.store; rfl; rfl; apply SetAt.head; apply bg_wr28 (z := .int .u64 0); refine nSz ?_; refine vMz ?_; refine vNz ?_; refine vFz ?_; refine vFz ?_; refine ldz rfl .head bg_rd20 ?_; refine lvz (.eqF rfl rfl (by omega)) ?_; refine nNz ?_; refine cFz ?_; refine CW.skip ?_)
      exact inPI (.inr rfl) .nil rfl .nil rfl ⟨rfl, rfl⟩
    | false =>
      rw [show whoC ⟨code, pc, stk, mem, gas, self, frm, val, inp, back, false⟩ A.op ws = ⟨A.op, wordI ws 1 % 18446744073709551616, wordI ws 1 % 18446744073709551616, self, wordI ws 2, !decide (wordI ws 2 = 0), 0, .slice none 0 0, .slice none 0 0, 0, 0, false⟩ by unfold whoC; rw [if_neg (by omega), hq]; rw [show decide (A.op = 250) = false from decide_eq_false (by omega)]; rfl]
      (refine sRz ?_; refine vMz ?_; refine vNz ?_; refine vFz ?_; refine vAz ?_; refine nNz ?_; refine CW.seq ?_; apply CW.pre; refine AnyW.any 23 mixed (by decide +kernel) ?_; (try simp only [tsOf_cons, tsOf_nil, tsOf_app]); refine dvz (.move rfl) ?_; refine dvz (.move rfl) ?_; refine dvz (.move rfl) ?_; refine dvz (.nilCheck rfl) ?_; refine dvz (.fieldAddr rfl rfl) ?_; refine dvz (.fieldAddr rfl rfl) ?_; apply DW.loadO; rfl; rfl; rfl; exact WantT.none; rfl; apply TRead.head; exact ancB_nil; exact bg_rd20; refine dvz (.move rfl) ?_; refine dvz (.nilCheck rfl) ?_; refine dvz (.fieldAddr rfl rfl) ?_; refine dvz (.fieldAddr rfl rfl) ?_; apply DW.loadO; rfl; rfl; rfl; exact WantT.none; rfl; apply TRead.head; exact ancB_nil; exact bg_rd13; refine dvz (.move rfl) ?_; refine dwz (.move rfl) ?_; refine dwz (.nilCheck rfl) ?_; refine dwz (.fieldAddr rfl rfl) ?_; refine dwz (.fieldAddr rfl rfl) ?_; apply DW.loadO; rfl; rfl; rfl; apply wantYes; rfl; rfl; (with_reducible rfl); rfl; apply TRead.head; exact ancB_nil; exact bg_rd20; refine dwz (.eqF rfl rfl (by omega)) ?_; refine dvz (.pickF' rfl (by with_reducible rfl) rfl) ?_; refine dvz (.nilCheck rfl) ?_; refine dvz (.fieldAddr rfl rfl) ?_; apply DW.store; rfl; rfl; exact WantT.none; rfl; rfl; apply TSet.head; exact ancB_nil; kernel_rfl; apply bg_wr26 (z := .int .u8 0); apply DW.nil; simp only [fsOf_cons, fsOf_nil, fsOf_app, fsOf_tsOf, fsOf_new]; refine vNz ?_; refine vFz ?_; apply LW.store; rfl; rfl; apply SetAt.head; apply bg_wr40 (z := .bool false); refine nNz ?_; refine CW.seq ?_; apply CW.pre; refine AnyW.any 29 mixed (by decide +kernel) ?_; (try simp only [tsOf_cons, tsOf_nil, tsOf_app]); refine dvz (.move rfl) ?_; refine dvz (.move rfl) ?_; refine dvz (.move rfl) ?_; refine dvz (.move rfl) ?_; refine dvz (.move rfl) ?_; refine dvz (.nilCheck rfl) ?_; refine dvz (.fieldAddr rfl rfl) ?_; refine dvz (.fieldAddr rfl rfl) ?_; apply DW.loadO; rfl; rfl; rfl; exact WantT.none; rfl; apply TRead.head; exact ancB_nil; exact hs15; apply DW.callE; rfl; rfl; rfl; exact WantT.none; rfl; infer_instance; exact .cons rfl (.cons rfl .nil); rfl; apply ReadAll.own; apply TRead.head; exact ancB_nil; exact ReadAll.nil; intro w _ _; exact hWt _ w (by assumption) (by assumption); apply DW.callE; rfl; rfl; rfl; exact WantT.none; rfl; infer_instance; exact .cons rfl .nil; rfl; exact ReadAll.nil; intro w _ _; exact aOf_calls _ w; refine dvz (.move rfl) ?_; refine dvz (.nilCheck rfl) ?_; refine dvz (.fieldAddr rfl rfl) ?_; refine dvz (.fieldAddr rfl rfl) ?_; apply DW.loadO; rfl; rfl; rfl; exact WantT.none; rfl; apply TRead.head; exact ancB_nil; exact bg_rd5; refine dvz (.move rfl) ?_; refine dvz (.move rfl) ?_; refine dvz (.nilCheck rfl) ?_; refine dvz (.fieldAddr rfl rfl) ?_; refine dvz (.fieldAddr rfl rfl) ?_; apply DW.loadO; rfl; rfl; rfl; exact WantT.none; rfl; apply TRead.head; exact ancB_nil; exact hs16; apply DW.callE; rfl; rfl; rfl; exact WantT.none; rfl; infer_instance; exact .cons rfl (.cons rfl .nil); rfl; apply ReadAll.own; apply TRead.head; exact ancB_nil; exact ReadAll.nil; intro w _ _; exact hWv _ w (by assumption) (by assumption); refine dvz (.nilCheck rfl) ?_; refine dvz (.fieldAddr rfl rfl) ?_; apply DW.store; rfl; rfl; exact WantT.none; rfl; rfl; apply TSet.head; exact ancB_nil; kernel_rfl; apply bg_wr27 (z := .int .u64 0); refine dvz (.nilCheck rfl) ?_; refine dvz (.fieldAddr rfl rfl) ?_; apply DW.store; rfl; rfl; exact WantT.none; rfl; rfl; apply TSet.head; kernel_rfl; kernel_rfl; apply bg_wr29 (z := .int .u64 0); apply DW.nil; simp only [fsOf_cons, fsOf_nil, fsOf_app, fsOf_tsOf, fsOf_new]; refine vNz ?_; refine vFz ?_; refine LW.store rfl rfl .head bg_wr30 ?_; refine nSz ?_; refine vMz ?_; refine vMz ?_; refine vNz ?_; refine vFz ?_; refine ldz rfl .head bg_rd30 ?_; apply LW.v0; rfl; rfl; exact ValP.buildW0; refine lvz (.neW rfl rfl (by assumption) (by omega)) ?_; refine vNz ?_; refine vFz ?_; apply LW.store; rfl; rfl; apply SetAt.head; apply bg_wr34 (z := .bool false); refine nSz ?_; refine vMz ?_; refine vMz ?_; refine vNz ?_; refine vFz ?_; refine ldz rfl .head bg_rd27 ?_; refine vNz ?_; refine vFz ?_; apply LW.store; rfl; rfl; apply SetAt.head; apply bg_wr28 (z := .int .u64 0); refine nSz ?_; refine vMz ?_; refine vNz ?_; refine vFz ?_; refine vFz ?_; refine ldz rfl .head bg_rd20 ?_; refine lvz (.eqF rfl rfl (by omega)) ?_; refine nNz ?_; refine cFz ?_; refine CW.skip ?_)
      exact inPI (.inr rfl) .nil rfl .nil rfl ⟨rfl, rfl⟩
  · have hWt := fun c => hW c 1 (by rw [hq] at hlen; dsimp only at hlen; omega)
    have hWv := fun c => hW c (-1) (by rw [hq] at hlen; dsimp only at hlen; omega)
    have hs15 : ∀ {f c E fr}, Rd Tryz.prog 3 (.cells (bga f A c) E fr) 15 (.int .i64 1) := fun {f c E fr} => by have h := bg_rd15 (P := Tryz.prog) (T := 3) (E := E) (fr := fr) (A := A) (f := f) (c := c); rw [hq] at h; exact h
    have hs16 : ∀ {f c E fr}, Rd Tryz.prog 3 (.cells (bga f A c) E fr) 16 (.int .i64 (-1)) := fun {f c E fr} => by have h := bg_rd16 (P := Tryz.prog) (T := 3) (E := E) (fr := fr) (A := A) (f := f) (c := c); rw [hq] at h; exact h
    have hv2 := hvl (-1)
    rcases ho with ho | ho
    · have h244 := ho
      have hz : wordI ws (-1) = 0 := by unfold wordI; rfl
      rw [hz] at hWv hv2
      cases stat with
      | true =>
        rw [show whoC ⟨code, pc, stk, mem, gas, self, frm, val, inp, back, true⟩ A.op ws = ⟨A.op, wordI ws 1 % 18446744073709551616, self, frm, val, false, 0, .slice none 0 0, .slice none 0 0, 0, 0, true⟩ by unfold whoC; rw [if_pos h244]]
        (refine sRz ?_; refine vMz ?_; refine vNz ?_; refine vFz ?_; refine vAz ?_; refine nNz ?_; refine CW.seq ?_; apply CW.pre; refine AnyW.any 23 mixed (by decide +kernel) ?_; (try simp only [tsOf_cons, tsOf_nil, tsOf_app]); refine dvz (.move rfl) ?_; refine dvz (.move rfl) ?_; refine dvz (.move rfl) ?_; refine dvz (.nilCheck rfl) ?_; refine dvz (.fieldAddr rfl rfl) ?_; refine dvz (.fieldAddr rfl rfl) ?_; apply DW.loadO; rfl; rfl; rfl; exact WantT.none; rfl; apply TRead.head; exact ancB_nil; exact bg_rd20; refine dvz (.move rfl) ?_; refine dvz (.nilCheck rfl) ?_; refine dvz (.fieldAddr rfl rfl) ?_; refine dvz (.fieldAddr rfl rfl) ?_; apply DW.loadO; rfl; rfl; rfl; exact WantT.none; rfl; apply TRead.head; exact ancB_nil; exact bg_rd13; refine dvz (.move rfl) ?_; (iterate 6 refine dSz ?_); refine dvz (.pickT' rfl (by with_reducible rfl) rfl) ?_; refine dvz (.nilCheck rfl) ?_; refine dvz (.fieldAddr rfl rfl) ?_; apply DW.store; rfl; rfl; exact WantT.none; rfl; rfl; apply TSet.head; exact ancB_nil; kernel_rfl; apply bg_wr26 (z := .int .u8 0); apply DW.nil; simp only [fsOf_cons, fsOf_nil, fsOf_app, fsOf_tsOf, fsOf_new]; refine vNz ?_; refine vFz ?_; apply LW.store; rfl; rfl; apply SetAt.head; apply bg_wr40 (z := .bool false); refine nNz ?_; refine CW.seq ?_; apply CW.pre; refine AnyW.any 29 mixed (by decide +kernel) ?_; (try simp only [tsOf_cons, tsOf_nil, tsOf_app]); refine dvz (.move rfl) ?_; refine dvz (.move rfl) ?_; refine dvz (.move rfl) ?_; refine dvz (.move rfl) ?_; refine dvz (.move rfl) ?_; refine dvz (.nilCheck rfl) ?_; refine dvz (.fieldAddr rfl rfl) ?_; refine dvz (.fieldAddr rfl rfl) ?_; apply DW.loadO; rfl; rfl; rfl; exact WantT.none; rfl; apply TRead.head; exact ancB_nil; exact hs15; apply DW.callE; rfl; rfl; rfl; exact WantT.none; rfl; infer_instance; exact .cons rfl (.cons rfl .nil); rfl; apply ReadAll.own; apply TRead.head; exact ancB_nil; exact ReadAll.nil; intro w _ _; exact hWt _ w (by assumption) (by assumption); apply DW.callE; rfl; rfl; rfl; exact WantT.none; rfl; infer_instance; exact .cons rfl .nil; rfl; exact ReadAll.nil; intro w _ _; exact aOf_calls _ w; refine dvz (.move rfl) ?_; refine dvz (.nilCheck rfl) ?_; refine dvz (.fieldAddr rfl rfl) ?_; refine dvz (.fieldAddr rfl rfl) ?_; apply DW.loadO; rfl; rfl; rfl; exact WantT.none; rfl; apply TRead.head; exact ancB_nil; exact bg_rd5; refine dvz (.move rfl) ?_; refine dvz (.move rfl) ?_; refine dvz (.nilCheck rfl) ?_; refine dvz (.fieldAddr rfl rfl) ?_; refine dvz (.fieldAddr rfl rfl) ?_; apply DW.loadO; rfl; rfl; rfl; exact WantT.none; rfl; apply TRead.head; exact ancB_nil; exact hs16; apply DW.callE; rfl; rfl; rfl; exact WantT.none; rfl; infer_instance; exact .cons rfl (.cons rfl .nil); rfl; apply ReadAll.own; apply TRead.head; exact ancB_nil; exact ReadAll.nil; intro w _ _; exact hWv _ w (by assumption) (by assumption); refine dvz (.nilCheck rfl) ?_; refine dvz (.fieldAddr rfl rfl) ?_; apply DW.store; rfl; rfl; exact WantT.none; rfl; rfl; apply TSet.head; exact ancB_nil; kernel_rfl; apply bg_wr27 (z := .int .u64 0); refine dvz (.nilCheck rfl) ?_; refine dvz (.fieldAddr rfl rfl) ?_; apply DW.store; rfl; rfl; exact WantT.none; rfl; rfl; apply TSet.head; kernel_rfl; kernel_rfl; apply bg_wr29 (z := .int .u64 0); apply DW.nil; simp only [fsOf_cons, fsOf_nil, fsOf_app, fsOf_tsOf, fsOf_new]; refine vNz ?_; refine vFz ?_; refine LW.store rfl rfl .head bg_wr30 ?_; refine nSz ?_; refine vMz ?_; refine vMz ?_; refine vNz ?_; refine vFz ?_; refine ldz rfl .head bg_rd30 ?_; apply LW.v0; rfl; rfl; exact ValP.buildW0; refine lvz (.neWF rfl rfl (by with_reducible rfl)) ?_; refine vNz ?_; refine vFz ?_; apply LW.store; rfl; rfl; apply SetAt.head; apply bg_wr34 (z := .bool false); refine nSz ?_; refine vMz ?_; refine vMz ?_; refine vNz ?_; refine vFz ?_; refine ldz rfl .head bg_rd27 ?_; refine vNz ?_; refine vFz ?_; apply LW.store; rfl; rfl; apply SetAt.head; apply bg_wr28 (z := .int .u64 0); refine nSz ?_; refine vMz ?_; refine vNz ?_; refine vFz ?_; refine vFz ?_; refine ldz rfl .head bg_rd20 ?_; refine lvz (.eqT rfl rfl (by omega)) ?_; refine nNz ?_; refine cTz ?_; apply CW.pre; refine AnyW.any 24 mixed (by decide +kernel) ?_; (try simp only [tsOf_cons, tsOf_nil, tsOf_app]); refine dvz (.move rfl) ?_; refine dvz (.move rfl) ?_; refine dvz (.move rfl) ?_; refine dvz (.move rfl) ?_; refine dvz (.nilCheck rfl) ?_; refine dvz (.fieldAddr rfl rfl) ?_; refine dvz (.fieldAddr rfl rfl) ?_; apply DW.loadO; rfl; rfl; rfl; exact WantT.none; rfl; apply TRead.head; exact ancB_nil; exact bg_rd5; refine dvz (.move rfl) ?_; refine dvz (.nilCheck rfl) ?_; refine dvz (.fieldAddr rfl rfl) ?_; refine dvz (.fieldAddr rfl rfl) ?_; apply DW.loadO; rfl; rfl; rfl; exact WantT.none; rfl; apply TRead.head; exact ancB_nil; exact bg_rd6; refine dvz (.move rfl) ?_; refine dvz (.nilCheck rfl) ?_; refine dvz (.fieldAddr rfl rfl) ?_; refine dvz (.fieldAddr rfl rfl) ?_; apply DW.loadO; rfl; rfl; rfl; exact WantT.none; rfl; apply TRead.head; exact ancB_nil; exact bg_rd7; refine dvz (.nilCheck rfl) ?_; refine dvz (.fieldAddr rfl rfl) ?_; apply DW.store; rfl; rfl; exact WantT.none; rfl; rfl; apply TSet.head; exact ancB_nil; kernel_rfl; apply bg_wr28 (z := .int .u64 0); refine dvz (.nilCheck rfl) ?_; refine dvz (.fieldAddr rfl rfl) ?_; apply DW.store; rfl; rfl; exact WantT.none; rfl; rfl; apply TSet.head; kernel_rfl; kernel_rfl; apply bg_wr29 (z := .int .u64 0); apply DW.nil; simp only [fsOf_cons, fsOf_nil, fsOf_app, fsOf_tsOf, fsOf_new]; refine vNz ?_; refine vFz ?_; refine LW.store rfl rfl .head bg_wr30 ?_; apply LW.nil)
        exact inPI (.inr rfl) .nil rfl .nil rfl ⟨rfl, rfl⟩
      | false =>
        rw [show whoC ⟨code, pc, stk, mem, gas, self, frm, val, inp, back, false⟩ A.op ws = ⟨A.op, wordI ws 1 % 18446744073709551616, self, frm, val, false, 0, .slice none 0 0, .slice none 0 0, 0, 0, false⟩ by unfold whoC; rw [if_pos h244]]
        (refine sRz ?_; refine vMz ?_; refine vNz ?_; refine vFz ?_; refine vAz ?_; refine nNz ?_; refine CW.seq ?_; apply CW.pre; refine AnyW.any 23 mixed (by decide +kernel) ?_; (try simp only [tsOf_cons, tsOf_nil, tsOf_app]); refine dvz (.move rfl) ?_; refine dvz (.move rfl) ?_; refine dvz (.move rfl) ?_; refine dvz (.nilCheck rfl) ?_; refine dvz (.fieldAddr rfl rfl) ?_; refine dvz (.fieldAddr rfl rfl) ?_; apply DW.loadO; rfl; rfl; rfl; exact WantT.none; rfl; apply TRead.head; exact ancB_nil; exact bg_rd20; refine dvz (.move rfl) ?_; refine dvz (.nilCheck rfl) ?_; refine dvz (.fieldAddr rfl rfl) ?_; refine dvz (.fieldAddr rfl rfl) ?_; apply DW.loadO; rfl; rfl; rfl; exact WantT.none; rfl; apply TRead.head; exact ancB_nil; exact bg_rd13; refine dvz (.move rfl) ?_; refine dwz (.move rfl) ?_; refine dwz (.nilCheck rfl) ?_; refine dwz (.fieldAddr rfl rfl) ?_; refine dwz (.fieldAddr rfl rfl) ?_; apply DW.loadO; rfl; rfl; rfl; apply wantYes; rfl; rfl; (with_reducible rfl); rfl; apply TRead.head; exact ancB_nil; exact bg_rd20; refine dwz (.eqF rfl rfl (by omega)) ?_; refine dvz (.pickF' rfl (by with_reducible rfl) rfl) ?_; refine dvz (.nilCheck rfl) ?_; refine dvz (.fieldAddr rfl rfl) ?_; apply DW.store; rfl; rfl; exact WantT.none; rfl; rfl; apply TSet.head; exact ancB_nil; kernel_rfl; apply bg_wr26 (z := .int .u8 0); apply DW.nil; simp only [fsOf_cons, fsOf_nil, fsOf_app, fsOf_tsOf, fsOf_new]; refine vNz ?_; refine vFz ?_; apply LW.store; rfl; rfl; apply SetAt.head; apply bg_wr40 (z := .bool false); refine nNz ?_; refine CW.seq ?_; apply CW.pre; refine AnyW.any 29 mixed (by decide +kernel) ?_; (try simp only [tsOf_cons, tsOf_nil, tsOf_app]); refine dvz (.move rfl) ?_; refine dvz (.move rfl) ?_; refine dvz (.move rfl) ?_; refine dvz (.move rfl) ?_; refine dvz (.move rfl) ?_; refine dvz (.nilCheck rfl) ?_; refine dvz (.fieldAddr rfl rfl) ?_; refine dvz (.fieldAddr rfl rfl) ?_; apply DW.loadO; rfl; rfl; rfl; exact WantT.none; rfl; apply TRead.head; exact ancB_nil; exact hs15; apply DW.callE; rfl; rfl; rfl; exact WantT.none; rfl; infer_instance; exact .cons rfl (.cons rfl .nil); rfl; apply ReadAll.own; apply TRead.head; exact ancB_nil; exact ReadAll.nil; intro w _ _; exact hWt _ w (by assumption) (by assumption); apply DW.callE; rfl; rfl; rfl; exact WantT.none; rfl; infer_instance; exact .cons rfl .nil; rfl; exact ReadAll.nil; intro w _ _; exact aOf_calls _ w; refine dvz (.move rfl) ?_; refine dvz (.nilCheck rfl) ?_; refine dvz (.fieldAddr rfl rfl) ?_; refine dvz (.fieldAddr rfl rfl) ?_; apply DW.loadO; rfl; rfl; rfl; exact WantT.none; rfl; apply TRead.head; exact ancB_nil; exact bg_rd5; refine dvz (.move rfl) ?_; refine dvz (.move rfl) ?_; refine dvz (.nilCheck rfl) ?_; refine dvz (.fieldAddr rfl rfl) ?_; refine dvz (.fieldAddr rfl rfl) ?_; apply DW.loadO; rfl; rfl; rfl; exact WantT.none; rfl; apply TRead.head; exact ancB_nil; exact hs16; apply DW.callE; rfl; rfl; rfl; exact WantT.none; rfl; infer_instance; exact .cons rfl (.cons rfl .nil); rfl; apply ReadAll.own; apply TRead.head; exact ancB_nil; exact ReadAll.nil; intro w _ _; exact hWv _ w (by assumption) (by assumption); refine dvz (.nilCheck rfl) ?_; refine dvz (.fieldAddr rfl rfl) ?_; apply DW.store; rfl; rfl; exact WantT.none; rfl; rfl; apply TSet.head; exact ancB_nil; kernel_rfl; apply bg_wr27 (z := .int .u64 0); refine dvz (.nilCheck rfl) ?_; refine dvz (.fieldAddr rfl rfl) ?_; apply DW.store; rfl; rfl; exact WantT.none; rfl; rfl; apply TSet.head; kernel_rfl; kernel_rfl; apply bg_wr29 (z := .int .u64 0); apply DW.nil; simp only [fsOf_cons, fsOf_nil, fsOf_app, fsOf_tsOf, fsOf_new]; refine vNz ?_; refine vFz ?_; refine LW.store rfl rfl .head bg_wr30 ?_; refine nSz ?_; refine vMz ?_; refine vMz ?_; refine vNz ?_; refine vFz ?_; refine ldz rfl .head bg_rd30 ?_; apply LW.v0; rfl; rfl; exact ValP.buildW0; refine lvz (.neWF rfl rfl (by with_reducible rfl)) ?_; refine vNz ?_; refine vFz ?_; apply LW.store; rfl; rfl; apply SetAt.head; apply bg_wr34 (z := .bool false); refine nSz ?_; refine vMz ?_; refine vMz ?_; refine vNz ?_; refine vFz ?_; refine ldz rfl .head bg_rd27 ?_; refine vNz ?_; refine vFz ?_; apply LW.store; rfl; rfl; apply SetAt.head; apply bg_wr28 (z := .int .u64 0); refine nSz ?_; refine vMz ?_; refine vNz ?_; refine vFz ?_; refine vFz ?_; refine ldz rfl .head bg_rd20 ?_; refine lvz (.eqT rfl rfl (by omega)) ?_; refine nNz ?_; refine cTz ?_; apply CW.pre; refine AnyW.any 24 mixed (by decide +kernel) ?_; (try simp only [tsOf_cons, tsOf_nil, tsOf_app]); refine dvz (.move rfl) ?_; refine dvz (.move rfl) ?_; refine dvz (.move rfl) ?_; refine dvz (.move rfl) ?_; refine dvz (.nilCheck rfl) ?_; refine dvz (.fieldAddr rfl rfl) ?_; refine dvz (.fieldAddr rfl rfl) ?_; apply DW.loadO; rfl; rfl; rfl; exact WantT.none; rfl; apply TRead.head; exact ancB_nil; exact bg_rd5; refine dvz (.move rfl) ?_; refine dvz (.nilCheck rfl) ?_; refine dvz (.fieldAddr rfl rfl) ?_; refine dvz (.fieldAddr rfl rfl) ?_; apply DW.loadO; rfl; rfl; rfl; exact WantT.none; rfl; apply TRead.head; exact ancB_nil; exact bg_rd6; refine dvz (.move rfl) ?_; refine dvz (.nilCheck rfl) ?_; refine dvz (.fieldAddr rfl rfl) ?_; refine dvz (.fieldAddr rfl rfl) ?_; apply DW.loadO; rfl; rfl; rfl; exact WantT.none; rfl; apply TRead.head; exact ancB_nil; exact bg_rd7; refine dvz (.nilCheck rfl) ?_; refine dvz (.fieldAddr rfl rfl) ?_; apply DW.store; rfl; rfl; exact WantT.none; rfl; rfl; apply TSet.head; exact ancB_nil; kernel_rfl; apply bg_wr28 (z := .int .u64 0); refine dvz (.nilCheck rfl) ?_; refine dvz (.fieldAddr rfl rfl) ?_; apply DW.store; rfl; rfl; exact WantT.none; rfl; rfl; apply TSet.head; kernel_rfl; kernel_rfl; apply bg_wr29 (z := .int .u64 0); apply DW.nil; simp only [fsOf_cons, fsOf_nil, fsOf_app, fsOf_tsOf, fsOf_new]; refine vNz ?_; refine vFz ?_; refine LW.store rfl rfl .head bg_wr30 ?_; apply LW.nil)
        exact inPI (.inr rfl) .nil rfl .nil rfl ⟨rfl, rfl⟩
    · cases stat with
      | true =>
        rw [show whoC ⟨code, pc, stk, mem, gas, self, frm, val, inp, back, true⟩ A.op ws = ⟨A.op, wordI ws 1 % 18446744073709551616, wordI ws 1 % 18446744073709551616, self, wordI ws (-1), !decide (wordI ws (-1) = 0), 0, .slice none 0 0, .slice none 0 0, 0, 0, true⟩ by unfold whoC; rw [if_neg (by omega), hq]; rfl]
        (refine sRz ?_; refine vMz ?_; refine vNz ?_; refine vFz ?_; refine vAz ?_; refine nNz ?_; refine CW.seq ?_; apply CW.pre; refine AnyW.any 23 mixed (by decide +kernel) ?_; (try simp only [tsOf_cons, tsOf_nil, tsOf_app]); refine dvz (.move rfl) ?_; refine dvz (.move rfl) ?_; refine dvz (.move rfl) ?_; refine dvz (.nilCheck rfl) ?_; refine dvz (.fieldAddr rfl rfl) ?_; refine dvz (.fieldAddr rfl rfl) ?_; apply DW.loadO; rfl; rfl; rfl; exact WantT.none; rfl; apply TRead.head; exact ancB_nil; exact bg_rd20; refine dvz (.move rfl) ?_; refine dvz (.nilCheck rfl) ?_; refine dvz (.fieldAddr rfl rfl) ?_; refine dvz (.fieldAddr rfl rfl) ?_; apply DW.loadO; rfl; rfl; rfl; exact WantT.none; rfl; apply TRead.head; exact ancB_nil; exact bg_rd13; refine dvz (.move rfl) ?_; (iterate 6 refine dSz ?_); refine dvz (.pickT' rfl (by with_reducible rfl) rfl) ?_; refine dvz (.nilCheck rfl) ?_; refine dvz (.fieldAddr rfl rfl) ?_; apply DW.store; rfl; rfl; exact WantT.none; rfl; rfl; apply TSet.head; exact ancB_nil; kernel_rfl; apply bg_wr26 (z := .int .u8 0); apply DW.nil; simp only [fsOf_cons, fsOf_nil, fsOf_app, fsOf_tsOf, fsOf_new]; refine vNz ?_; refine vFz ?_; apply LW.store; rfl; rfl; apply SetAt.head; apply bg_wr40 (z := .bool false); refine nNz ?_; refine CW.seq ?_; apply CW.pre; refine AnyW.any 29 mixed (by decide +kernel) ?_; (try simp only [tsOf_cons, tsOf_nil, tsOf_app]); refine dvz (.move rfl) ?_; refine dvz (.move rfl) ?_; refine dvz (.move rfl) ?_; refine dvz (.move rfl) ?_; refine dvz (.move rfl) ?_; refine dvz (.nilCheck rfl) ?_; refine dvz (.fieldAddr rfl rfl) ?_; refine dvz (.fieldAddr rfl rfl) ?_; apply DW.loadO; rfl; rfl; rfl; exact WantT.none; rfl; apply TRead.head; exact ancB_nil; exact hs15; apply DW.callE; rfl; rfl; rfl; exact WantT.none; rfl; infer_instance; exact .cons rfl (.cons rfl .nil); rfl; apply ReadAll.own; apply TRead.head; exact ancB_nil; exact ReadAll.nil; intro w _ _; exact hWt _ w (by assumption) (by assumption); apply DW.callE; rfl; rfl; rfl; exact WantT.none; rfl; infer_instance; exact .cons rfl .nil; rfl; exact ReadAll.nil; intro w _ _; exact aOf_calls _ w; refine dvz (.move rfl) ?_; refine dvz (.nilCheck rfl) ?_; refine dvz (.fieldAddr rfl rfl) ?_; refine dvz (.fieldAddr rfl rfl) ?_; apply DW.loadO; rfl; rfl; rfl; exact WantT.none; rfl; apply TRead.head; exact ancB_nil; exact bg_rd5; refine dvz (.move rfl) ?_; refine dvz (.move rfl) ?_; refine dvz (.nilCheck rfl) ?_; refine dvz (.fieldAddr rfl rfl) ?_; refine dvz (.fieldAddr rfl rfl) ?_; apply DW.loadO; rfl; rfl; rfl; exact WantT.none; rfl; apply TRead.head; exact ancB_nil; exact hs16; apply DW.callE; rfl; rfl; rfl; exact WantT.none; rfl; infer_instance; exact .cons rfl (.cons rfl .nil); rfl; apply ReadAll.own; apply TRead.head; exact ancB_nil; exact ReadAll.nil; intro w _ _; exact hWv _ w (by assumption) (by assumption); refine dvz (.nilCheck rfl) ?_; refine dvz (.fieldAddr rfl rfl) ?_; apply DW.store; rfl; rfl; exact WantT.none; rfl; rfl; apply TSet.head; exact ancB_nil; kernel_rfl; apply bg_wr27 (z := .int .u64 0); refine dvz (.nilCheck rfl) ?_; refine dvz (.fieldAddr rfl rfl) ?_; apply DW.store; rfl; rfl; exact WantT.none; rfl; rfl; apply TSet.head; kernel_rfl; kernel_rfl; apply bg_wr29 (z := .int .u64 0); apply DW.nil; simp only [fsOf_cons, fsOf_nil, fsOf_app, fsOf_tsOf, fsOf_new]; refine vNz ?_; refine vFz ?_; refine LW.store rfl rfl .head bg_wr30 ?_; refine nSz ?_; refine vMz ?_; refine vMz ?_; refine vNz ?_; refine vFz ?_; refine ldz rfl .head bg_rd30 ?_; apply LW.v0; rfl; rfl; exact ValP.buildW0; refine lvz (.neW rfl rfl (by assumption) (by omega)) ?_; refine vNz ?_; refine vFz ?_; apply LW.store; rfl; rfl; apply SetAt.head; apply bg_wr34 (z := .bool false); refine nSz ?_; refine vMz ?_; refine vMz ?_; refine vNz ?_; refine vFz ?_; refine ldz rfl .head bg_rd27 ?_; refine vNz ?_; refine vFz ?_; apply LW.store; rfl; rfl; apply SetAt.head; apply bg_wr28 (z := .int .u64 0); refine nSz ?_; refine vMz ?_; refine vNz ?_; refine vFz ?_; refine vFz ?_; refine ldz rfl .head bg_rd20 ?_; refine lvz (.eqF rfl rfl (by omega)) ?_; refine nNz ?_; refine cFz ?_; refine CW.skip ?_)
        exact inPI (.inr rfl) .nil rfl .nil rfl ⟨rfl, rfl⟩
      | false =>
        rw [show whoC ⟨code, pc, stk, mem, gas, self, frm, val, inp, back, false⟩ A.op ws = ⟨A.op, wordI ws 1 % 18446744073709551616, wordI ws 1 % 18446744073709551616, self, wordI ws (-1), !decide (wordI ws (-1) = 0), 0, .slice none 0 0, .slice none 0 0, 0, 0, true⟩ by unfold whoC; rw [if_neg (by omega), hq]; rw [decide_eq_true ho]; rfl]
        (refine sRz ?_; refine vMz ?_; refine vNz ?_; refine vFz ?_; refine vAz ?_; refine nNz ?_; refine CW.seq ?_; apply CW.pre; refine AnyW.any 23 mixed (by decide +kernel) ?_; (try simp only [tsOf_cons, tsOf_nil, tsOf_app]); refine dvz (.move rfl) ?_; refine dvz (.move rfl) ?_; refine dvz (.move rfl) ?_; refine dvz (.nilCheck rfl) ?_; refine dvz (.fieldAddr rfl rfl) ?_; refine dvz (.fieldAddr rfl rfl) ?_; apply DW.loadO; rfl; rfl; rfl; exact WantT.none; rfl; apply TRead.head; exact ancB_nil; exact bg_rd20; refine dvz (.move rfl) ?_; refine dvz (.nilCheck rfl) ?_; refine dvz (.fieldAddr rfl rfl) ?_; refine dvz (.fieldAddr rfl rfl) ?_; apply DW.loadO; rfl; rfl; rfl; exact WantT.none; rfl; apply TRead.head; exact ancB_nil; exact bg_rd13; refine dvz (.move rfl) ?_; refine dwz (.move rfl) ?_; refine dwz (.nilCheck rfl) ?_; refine dwz (.fieldAddr rfl rfl) ?_; refine dwz (.fieldAddr rfl rfl) ?_; apply DW.loadO; rfl; rfl; rfl; apply wantYes; rfl; rfl; (with_reducible rfl); rfl; apply TRead.head; exact ancB_nil; exact bg_rd20; refine dwz (.eqT rfl rfl (by omega)) ?_; refine dvz (.pickF' rfl (by with_reducible rfl) rfl) ?_; refine dvz (.nilCheck rfl) ?_; refine dvz (.fieldAddr rfl rfl) ?_; apply DW.store; rfl; rfl; exact WantT.none; rfl; rfl; apply TSet.head; exact ancB_nil; kernel_rfl; apply bg_wr26 (z := .int .u8 0); apply DW.nil; simp only [fsOf_cons, fsOf_nil, fsOf_app, fsOf_tsOf, fsOf_new]; refine vNz ?_; refine vFz ?_; apply LW.store; rfl; rfl; apply SetAt.head; apply bg_wr40 (z := .bool false); refine nNz ?_; refine CW.seq ?_; apply CW.pre; refine AnyW.any 29 mixed (by decide +kernel) ?_; (try simp only [tsOf_cons, tsOf_nil, tsOf_app]); refine dvz (.move rfl) ?_; refine dvz (.move rfl) ?_; refine dvz (.move rfl) ?_; refine dvz (.move rfl) ?_; refine dvz (.move rfl) ?_; refine dvz (.nilCheck rfl) ?_; refine dvz (.fieldAddr rfl rfl) ?_; refine dvz (.fieldAddr rfl rfl) ?_; apply DW.loadO; rfl; rfl; rfl; exact WantT.none; rfl; apply TRead.head; exact ancB_nil; exact hs15; apply DW.callE; rfl; rfl; rfl; exact WantT.none; rfl; infer_instance; exact .cons rfl (.cons rfl .nil); rfl; apply ReadAll.own; apply TRead.head; exact ancB_nil; exact ReadAll.nil; intro w _ _; exact hWt _ w (by assumption) (by assumption); apply DW.callE; rfl; rfl; rfl; exact WantT.none; rfl; infer_instance; exact .cons rfl .nil; rfl; exact ReadAll.nil; intro w _ _; exact aOf_calls _ w; refine dvz (.move rfl) ?_; refine dvz (.nilCheck rfl) ?_; refine dvz (.fieldAddr rfl rfl) ?_; refine dvz (.fieldAddr rfl rfl) ?_; apply DW.loadO; rfl; rfl; rfl; exact WantT.none; rfl; apply TRead.head; exact ancB_nil; exact bg_rd5; refine dvz (.move rfl) ?_; refine dvz (.move rfl) ?_; refine dvz (.nilCheck rfl) ?_; refine dvz (.fieldAddr rfl rfl) ?_; refine dvz (.fieldAddr rfl rfl) ?_; apply DW.loadO; rfl; rfl; rfl; exact WantT.none; rfl; apply TRead.head; exact ancB_nil; exact hs16; apply DW.callE; rfl; rfl; rfl; exact WantT.none; rfl; infer_instance; exact .cons rfl (.cons rfl .nil); rfl; apply ReadAll.own; apply TRead.head; exact ancB_nil; exact ReadAll.nil; intro w _ _; exact hWv _ w (by assumption) (by assumption); refine dvz (.nilCheck rfl) ?_; refine dvz (.fieldAddr rfl rfl) ?_; apply DW.store; rfl; rfl; exact WantT.none; rfl; rfl; apply TSet.head; exact ancB_nil; kernel_rfl; apply bg_wr27 (z := .int .u64 0); refine dvz (.nilCheck rfl) ?_; refine dvz (.fieldAddr rfl rfl) ?_; apply DW.store; rfl; rfl; exact WantT.none; rfl; rfl; apply TSet.head; kernel_rfl; kernel_rfl; apply bg_wr29 (z := .int .u64 0); apply DW.nil; simp only [fsOf_cons, fsOf_nil, fsOf_app, fsOf_tsOf, fsOf_new]; refine vNz ?_; refine vFz ?_; refine LW.store rfl rfl .head bg_wr30 ?_; refine nSz ?_; refine vMz ?_; refine vMz ?_; refine vNz ?_; refine vFz ?_; refine ldz rfl .head bg_rd30 ?_; apply LW.v0; rfl; rfl; exact ValP.buildW0; refine lvz (.neW rfl rfl (by assumption) (by omega)) ?_; refine vNz ?_; refine vFz ?_; apply LW.store; rfl; rfl; apply SetAt.head; apply bg_wr34 (z := .bool false); refine nSz ?_; refine vMz ?_; refine vMz ?_; refine vNz ?_; refine vFz ?_; refine ldz rfl .head bg_rd27 ?_; refine vNz ?_; refine vFz ?_; apply LW.store; rfl; rfl; apply SetAt.head; apply bg_wr28 (z := .int .u64 0); refine nSz ?_; refine vMz ?_; refine vNz ?_; refine vFz ?_; refine vFz ?_; refine ldz rfl .head bg_rd20 ?_; refine lvz (.eqF rfl rfl (by omega)) ?_; refine nNz ?_; refine cFz ?_; refine CW.skip ?_)
        exact inPI (.inr rfl) .nil rfl .nil rfl ⟨rfl, rfl⟩
  · have hWt := fun c => hW c (-1) (by rw [hq] at hlen; dsimp only at hlen; omega)
    have hWv := fun c => hW c 0 (by rw [hq] at hlen; dsimp only at hlen; omega)
    have hs15 : ∀ {f c E fr}, Rd Tryz.prog 3 (.cells (bga f A c) E fr) 15 (.int .i64 (-1)) := fun {f c E fr} => by have h := bg_rd15 (P := Tryz.prog) (T := 3) (E := E) (fr := fr) (A := A) (f := f) (c := c); rw [hq] at h; exact h
    have hs16 : ∀ {f c E fr}, Rd Tryz.prog 3 (.cells (bga f A c) E fr) 16 (.int .i64 0) := fun {f c E fr} => by have h := bg_rd16 (P := Tryz.prog) (T := 3) (E := E) (fr := fr) (A := A) (f := f) (c := c); rw [hq] at h; exact h
    have hv2 := hvl 0
    cases stat with
    | true =>
      rw [show whoC ⟨code, pc, stk, mem, gas, self, frm, val, inp, back, true⟩ A.op ws = ⟨A.op, wordI ws (-1) % 18446744073709551616, wordI ws (-1) % 18446744073709551616, self, wordI ws 0, !decide (wordI ws 0 = 0), 0, .slice none 0 0, .slice none 0 0, 0, 0, true⟩ by unfold whoC; rw [if_neg (by omega), hq]; rfl]
      (refine sRz ?_; refine vMz ?_; refine vNz ?_; refine vFz ?_; refine vAz ?_; refine nNz ?_; refine CW.seq ?_; apply CW.pre; refine AnyW.any 23 mixed (by decide +kernel) ?_; (try simp only [tsOf_cons, tsOf_nil, tsOf_app]); refine dvz (.move rfl) ?_; refine dvz (.move rfl) ?_; refine dvz (.move rfl) ?_; refine dvz (.nilCheck rfl) ?_; refine dvz (.fieldAddr rfl rfl) ?_; refine dvz (.fieldAddr rfl rfl) ?_; apply DW.loadO; rfl; rfl; rfl; exact WantT.none; rfl; apply TRead.head; exact ancB_nil; exact bg_rd20; refine dvz (.move rfl) ?_; refine dvz (.nilCheck rfl) ?_; refine dvz (.fieldAddr rfl rfl) ?_; refine dvz (.fieldAddr rfl rfl) ?_; apply DW.loadO; rfl; rfl; rfl; exact WantT.none; rfl; apply TRead.head; exact ancB_nil; exact bg_rd13; refine dvz (.move rfl) ?_; (iterate 6 refine dSz ?_); refine dvz (.pickT' rfl (by with_reducible rfl) rfl) ?_; refine dvz (.nilCheck rfl) ?_; refine dvz (.fieldAddr rfl rfl) ?_; apply DW.store; rfl; rfl; exact WantT.none; rfl; rfl; apply TSet.head; exact ancB_nil; kernel_rfl; apply bg_wr26 (z := .int .u8 0); apply DW.nil; simp only [fsOf_cons, fsOf_nil, fsOf_app, fsOf_tsOf, fsOf_new]; refine vNz ?_; refine vFz ?_; apply LW.store; rfl; rfl; apply SetAt.head; apply bg_wr40 (z := .bool false); refine nNz ?_; refine CW.seq ?_; apply CW.pre; refine AnyW.any 29 mixed (by decide +kernel) ?_; (try simp only [tsOf_cons, tsOf_nil, tsOf_app]); refine dvz (.move rfl) ?_; refine dvz (.move rfl) ?_; refine dvz (.move rfl) ?_; refine dvz (.move rfl) ?_; refine dvz (.move rfl) ?_; refine dvz (.nilCheck rfl) ?_; refine dvz (.fieldAddr rfl rfl) ?_; refine dvz (.fieldAddr rfl rfl) ?_; apply DW.loadO; rfl; rfl; rfl; exact WantT.none; rfl; apply TRead.head; exact ancB_nil; exact hs15; apply DW.callE; rfl; rfl; rfl; exact WantT.none; rfl; infer_instance; exact .cons rfl (.cons rfl .nil); rfl; apply ReadAll.own; apply TRead.head; exact ancB_nil; exact ReadAll.nil; intro w _ _; exact hWt _ w (by assumption) (by assumption); apply DW.callE; rfl; rfl; rfl; exact WantT.none; rfl; infer_instance; exact .cons rfl .nil; rfl; exact ReadAll.nil; intro w _ _; exact aOf_calls _ w; refine dvz (.move rfl) ?_; refine dvz (.nilCheck rfl) ?_; refine dvz (.fieldAddr rfl rfl) ?_; refine dvz (.fieldAddr rfl rfl) ?_; apply DW.loadO; rfl; rfl; rfl; exact WantT.none; rfl; apply TRead.head; exact ancB_nil; exact bg_rd5; refine dvz (.move rfl) ?_; refine dvz (.move rfl) ?_; refine dvz (.nilCheck rfl) ?_; refine dvz (.fieldAddr rfl rfl) ?_; refine dvz (.fieldAddr rfl rfl) ?_; apply DW.loadO; rfl; rfl; rfl; exact WantT.none; rfl; apply TRead.head; exact ancB_nil; exact hs16; apply DW.callE; rfl; rfl; rfl; exact WantT.none; rfl; infer_instance; exact .cons rfl (.cons rfl .nil); rfl; apply ReadAll.own; apply TRead.head; exact ancB_nil; exact ReadAll.nil; intro w _ _; exact hWv _ w (by assumption) (by assumption); refine dvz (.nilCheck rfl) ?_; refine dvz (.fieldAddr rfl rfl) ?_; apply DW.store; rfl; rfl; exact WantT.none; rfl; rfl; apply TSet.head; exact ancB_nil; kernel_rfl; apply bg_wr27 (z := .int .u64 0); refine dvz (.nilCheck rfl) ?_; refine dvz (.fieldAddr rfl rfl) ?_; apply DW.store; rfl; rfl; exact WantT.none; rfl; rfl; apply TSet.head; kernel_rfl; kernel_rfl; apply bg_wr29 (z := .int .u64 0); apply DW.nil; simp only [fsOf_cons, fsOf_nil, fsOf_app, fsOf_tsOf, fsOf_new]; refine vNz ?_; refine vFz ?_; refine LW.store rfl rfl .head bg_wr30 ?_; refine nSz ?_; refine vMz ?_; refine vMz ?_; refine vNz ?_; refine vFz ?_; refine ldz rfl .head bg_rd30 ?_; apply LW.v0; rfl; rfl; exact ValP.buildW0; refine lvz (.neW rfl rfl (by assumption) (by omega)) ?_; refine vNz ?_; refine vFz ?_; apply LW.store; rfl; rfl; apply SetAt.head; apply bg_wr34 (z := .bool false); refine nSz ?_; refine vMz ?_; refine vMz ?_; refine vNz ?_; refine vFz ?_; refine ldz rfl .head bg_rd27 ?_; refine vNz ?_; refine vFz ?_; apply LW.store; rfl; rfl; apply SetAt.head; apply bg_wr28 (z := .int .u64 0); refine nSz ?_; refine vMz ?_; refine vNz ?_; refine vFz ?_; refine vFz ?_; refine ldz rfl .head bg_rd20 ?_; refine lvz (.eqF rfl rfl (by omega)) ?_; refine nNz ?_; refine cFz ?_; refine CW.skip ?_)
      exact inPI (.inr rfl) .nil rfl .nil rfl ⟨rfl, rfl⟩
    | false =>
      rw [show whoC ⟨code, pc, stk, mem, gas, self, frm, val, inp, back, false⟩ A.op ws = ⟨A.op, wordI ws (-1) % 18446744073709551616, wordI ws (-1) % 18446744073709551616, self, wordI ws 0, !decide (wordI ws 0 = 0), 0, .slice none 0 0, .slice none 0 0, 0, 0, false⟩ by unfold whoC; rw [if_neg (by omega), hq]; rw [show decide (A.op = 250) = false from decide_eq_false (by omega)]; rfl]
      (refine sRz ?_; refine vMz ?_; refine vNz ?_; refine vFz ?_; refine vAz ?_; refine nNz ?_; refine CW.seq ?_; apply CW.pre; refine AnyW.any 23 mixed (by decide +kernel) ?_; (try simp only [tsOf_cons, tsOf_nil, tsOf_app]); refine dvz (.move rfl) ?_; refine dvz (.move rfl) ?_; refine dvz (.move rfl) ?_; refine dvz (.nilCheck rfl) ?_; refine dvz (.fieldAddr rfl rfl) ?_; refine dvz (.fieldAddr rfl rfl) ?_; apply DW.loadO; rfl; rfl; rfl; exact WantT.none; rfl; apply TRead.head; exact ancB_nil; exact bg_rd20; refine dvz (.move rfl) ?_; refine dvz (.nilCheck rfl) ?_; refine dvz (.fieldAddr rfl rfl) ?_; refine dvz (.fieldAddr rfl rfl) ?_; apply DW.loadO; rfl; rfl; rfl; exact WantT.none; rfl; apply TRead.head; exact ancB_nil; exact bg_rd13; refine dvz (.move rfl) ?_; refine dwz (.move rfl) ?_; refine dwz (.nilCheck rfl) ?_; refine dwz (.fieldAddr rfl rfl) ?_; refine dwz (.fieldAddr rfl rfl) ?_; apply DW.loadO; rfl; rfl; rfl; apply wantYes; rfl; rfl; (with_reducible rfl); rfl; apply TRead.head; exact ancB_nil; exact bg_rd20; refine dwz (.eqF rfl rfl (by omega)) ?_; refine dvz (.pickF' rfl (by with_reducible rfl) rfl) ?_; refine dvz (.nilCheck rfl) ?_; refine dvz (.fieldAddr rfl rfl) ?_; apply DW.store; rfl; rfl; exact WantT.none; rfl; rfl; apply TSet.head; exact ancB_nil; kernel_rfl; apply bg_wr26 (z := .int .u8 0); apply DW.nil; simp only [fsOf_cons, fsOf_nil, fsOf_app, fsOf_tsOf, fsOf_new]; refine vNz ?_; refine vFz ?_; apply LW.store; rfl; rfl; apply SetAt.head; apply bg_wr40 (z := .bool false); refine nNz ?_; refine CW.seq ?_; apply CW.pre; refine AnyW.any 29 mixed (by decide +kernel) ?_; (try simp only [tsOf_cons, tsOf_nil, tsOf_app]); refine dvz (.move rfl) ?_; refine dvz (.move rfl) ?_; refine dvz (.move rfl) ?_; refine dvz (.move rfl) ?_; refine dvz (.move rfl) ?_; refine dvz (.nilCheck rfl) ?_; refine dvz (.fieldAddr rfl rfl) ?_; refine dvz (.fieldAddr rfl rfl) ?_; apply DW.loadO; rfl; rfl; rfl; exact WantT.none; rfl; apply TRead.head; exact ancB_nil; exact hs15; apply DW.callE; rfl; rfl; rfl; exact WantT.none; rfl; infer_instance; exact .cons rfl (.cons rfl .nil); rfl; apply ReadAll.own; apply TRead.head; exact ancB_nil; exact ReadAll.nil; intro w _ _; exact hWt _ w (by assumption) (by assumption); apply DW.callE; rfl; rfl; rfl; exact WantT.none; rfl; infer_instance; exact .cons rfl .nil; rfl; exact ReadAll.nil; intro w _ _; exact aOf_calls _ w; refine dvz (.move rfl) ?_; refine dvz (.nilCheck rfl) ?_; refine dvz (.fieldAddr rfl rfl) ?_; refine dvz (.fieldAddr rfl rfl) ?_; apply DW.loadO; rfl; rfl; rfl; exact WantT.none; rfl; apply TRead.head; exact ancB_nil; exact bg_rd5; refine dvz (.move rfl) ?_; refine dvz (.move rfl) ?_; refine dvz (.nilCheck rfl) ?_; refine dvz (.fieldAddr rfl rfl) ?_; refine dvz (.fieldAddr rfl rfl) ?_; apply DW.loadO; rfl; rfl; rfl; exact WantT.none; rfl; apply TRead.head; exact ancB_nil; exact hs16; apply DW.callE; rfl; rfl; rfl; exact WantT.none; rfl; infer_instance; exact .cons rfl (.cons rfl .nil); rfl; apply ReadAll.own; apply TRead.head; exact ancB_nil; exact ReadAll.nil; intro w _ _; exact hWv _ w (by assumption) (by assumption); refine dvz (.nilCheck rfl) ?_; refine dvz (.fieldAddr rfl rfl) ?_; apply DW.store; rfl; rfl; exact WantT.none; rfl; rfl; apply TSet.head; exact ancB_nil; kernel_rfl; apply bg_wr27 (z := .int .u64 0); refine dvz (.nilCheck rfl) ?_; refine dvz (.fieldAddr rfl rfl) ?_; apply DW.store; rfl; rfl; exact WantT.none; rfl; rfl; apply TSet.head; kernel_rfl; kernel_rfl; apply bg_wr29 (z := .int .u64 0); apply DW.nil; simp only [fsOf_cons, fsOf_nil, fsOf_app, fsOf_tsOf, fsOf_new]; refine vNz ?_; refine vFz ?_; refine LW.store rfl rfl .head bg_wr30 ?_; refine nSz ?_; refine vMz ?_; refine vMz ?_; refine vNz ?_; refine vFz ?_; refine ldz rfl .head bg_rd30 ?_; apply LW.v0; rfl; rfl; exact ValP.buildW0; refine lvz (.neW rfl rfl (by assumption) (by omega)) ?_; refine vNz ?_; refine vFz ?_; apply LW.store; rfl; rfl; apply SetAt.head; apply bg_wr34 (z := .bool false); refine nSz ?_; refine vMz ?_; refine vMz ?_; refine vNz ?_; refine vFz ?_; refine ldz rfl .head bg_rd27 ?_; refine vNz ?_; refine vFz ?_; apply LW.store; rfl; rfl; apply SetAt.head; apply bg_wr28 (z := .int .u64 0); refine nSz ?_; refine vMz ?_; refine vNz ?_; refine vFz ?_; refine vFz ?_; refine ldz rfl .head bg_rd20 ?_; refine lvz (.eqF rfl rfl (by omega)) ?_; refine nNz ?_; refine cFz ?_; refine CW.skip ?_)
      exact inPI (.inr rfl) .nil rfl .nil rfl ⟨rfl, rfl⟩
end Go.Proofs.YtpgdnfgjbhdbpaaGreatDoor

/-
  What begins a call: gas spent, memory reached.
  Conditions: none.
-/
namespace Go.Proofs.YtpgdnfgjbhdbpaaGreatDoor
open Go Go.RowKit SL
set_option maxRecDepth 8000
set_option maxHeartbeats 4000000
set_option linter.unusedSimpArgs false
set_option linter.unusedVariables false
attribute [local irreducible] SL.CW SL.LW SL.DW Calls SL.Ret SL.RetG SL.beginQ SL.roundQ SL.rangeQ SL.inQ SL.RW SL.AnyW SL.thenQ SL.thenC SL.thenW SL.blkQ SL.finQ SL.ValP SL.NewP SL.SetP SL.CallP SL.Rd SL.Wr SL.Known
theorem grow_in (ws : List Nat) (ms : List UInt8) (p0 n : Nat) (s m : Value) (w : World) (hs : RowAt w 4 s ws.length (wcs ws)) (hm : RowAt w 1 m ms.length (ucs ms)) (hok : okSc ws.length ms.length) (hn : 0 < n) (hn2 : p0 + n ≤ ms.length) :
    Calls Tryz.prog 147 #[.agg #[s, m], .int .u64 (p0 : Int), .int .u64 (n : Int)] w (RetG w [] (fun r gs => ∃ o, r = .tuple #[o, .int .i64 0] ∧ ScO ws ms o gs)) := by
  have hs0 := hs
  have hm0 := hm
  obtain ⟨p, c, rfl, _, hc⟩ := hs.form
  obtain ⟨p2, c2, rfl, _, hc2⟩ := hm.form
  have hC : ∀ w, Calls Tryz.prog 66 #[.agg #[.slice p ws.length c, .slice p2 ms.length c2]] w (Ret w (.int .i64 0)) := fun w => by
    have h := scCheck_calls p p2 ws.length c ms.length c2 (by omega) (by omega) w
    rwa [if_pos hok] at h
  have hok2 := hok
  unfold okSc at hok2
  obtain ⟨hn1, hk1, hk2⟩ := hok2
  refine enter (args := [_, _, _]) _ [] [] Tryz.func147 rfl Tryz.ntmps147 rfl (by simp) .nil ?_
  (refine sRz ?_; apply LW.boxA; rfl; rfl; intro _; apply LW.allocA; rfl; intro _; refine vAz ?_; refine nNz ?_; refine CW.seq ?_; refine sRz ?_; refine ldz rfl (.tail .head) (Rd.whole rfl) ?_; apply LW.callE; rfl; rfl; infer_instance; exact .cons rfl .nil; intro w _; exact hC w; refine vAz ?_; refine nSz ?_; refine vMz ?_; refine lvz (.neF rfl rfl (by omega)) ?_; refine nNz ?_; refine cFz ?_; refine CW.skip ?_; refine thenN ?_; refine sRz ?_; refine ldz rfl (.tail .head) (Rd.whole rfl) ?_)
  (apply LW.callR; rfl; rfl; infer_instance; exact .cons rfl .nil; intro w hs)
  exact copied_calls ws ms _ _ w (hs0.st hs) (hm0.st hs) (by omega) (by omega)
  rintro vo gso ⟨s1, m1, g1, g2, rfl, rfl, h1, h2⟩
  have h1' := h1
  have h2' := h2
  unfold wM at h1'
  unfold bM at h2'
  obtain ⟨q1, k1, rfl⟩ := h1'.form
  obtain ⟨q2, k2, rfl⟩ := h2'.form
  (apply LW.allocA; rfl; intro _; refine LW.store rfl rfl .head (.whole rfl rfl rfl) ?_; refine nNz ?_; refine CW.seq ?_; refine sRz ?_; refine vMz ?_; refine lvz (.eqF rfl rfl (by omega)) ?_; refine nNz ?_; refine cFz ?_; refine CW.skip ?_; refine thenN ?_; refine CW.seq ?_; refine sRz ?_; refine vMz ?_; refine lvz (.gtrF rfl rfl (by omega)) ?_; refine vMz ?_; refine gTz ?_; refine vMz ?_; refine gTz ?_; refine lvz (.gtrF rfl rfl (by omega)) ?_; refine pFz ?_; refine vMz ?_; refine gTz ?_; refine vMz ?_; refine gTz ?_; refine vMz ?_; refine gTz ?_; refine lvz (.addN rfl rfl) ?_; refine gTz ?_; refine lvz (.gtrF rfl rfl (by omega)) ?_; refine pFz ?_; refine nNz ?_; refine cFz ?_; refine CW.skip ?_; refine thenN ?_; refine sRz ?_; refine vMz ?_; refine vMz ?_; refine lvz (.addN rfl rfl) ?_; refine lvz (.convI rfl (by omega) (by omega)) ?_; refine lvz (.addZL rfl rfl (by decide) (by omega)) ?_; refine lvz (.subZL rfl rfl (by decide) (by omega) (by omega)) ?_; refine lvz (.quoZL rfl rfl (by decide) (by omega) (by omega)) ?_; refine lvz (.mulZL rfl rfl (by decide) (by omega)) ?_; refine vAz ?_; refine nNz ?_; refine CW.seq ?_; refine sRz ?_; refine vMz ?_; refine vFz ?_; refine ldz rfl .head sc_rd1 ?_; refine lvz (.lenR rfl inferInstance rfl) ?_; refine lvz (.subI rfl rfl (by omega) (by omega)) ?_; apply LW.v0; rfl; rfl; apply ValP.maxD; rfl; rfl; refine vMz ?_; refine nNz ?_; refine CW.block ?_)
  rename_i b3 b6 b9
  have hD : ((p0 + n) % 18446744073709551616 + 32 - 1) / 32 * 32 - ms.length = 0 := by omega
  rw [hD]
  refine CW.loop (fun x : Unit => ([(9, .pointer (some ⟨b9, 0, none⟩)), (6, .pointer (some ⟨b6, 0, none⟩)), (48, .int .i64 ((0 : Nat) : Int)), (49, .int .i64 ((0 : Nat) : Int))], (b9, .cells #[.slice q1 ws.length k1, .slice q2 ms.length k2] 25 (0, 0)) :: (g2 ++ (g1 ++ [(b6, .cells #[.slice none 0 0, .slice none 0 0] 25 (0, 0))]))))
    (fun x => True) (fun x => 0) () trivial ⟨rfl, rfl, rfl, rfl, trivial⟩ (by simp) ?_
  intro _ _
  dsimp only
  (refine sRz ?_; refine lvz (.lssF rfl rfl (by omega)) ?_; refine nNz ?_; refine CW.seq ?_; refine cFz ?_; refine CW.exit ?_; refine thenE ?_; refine thenE ?_; refine blkE rfl ?_; refine thenN ?_; refine sRz ?_; refine ldz rfl .head (Rd.whole rfl) ?_; refine LW.store rfl rfl (.tail (.app (.app .head))) (.whole rfl rfl rfl) ?_; refine vAz ?_; refine nNz ?_; refine CW.ret ?_)
  refine fin (vs := [.agg #[.slice q1 ws.length k1, .slice q2 ms.length k2], .int .i64 0]) (g2 ++ g1) (.inl rfl) rfl rfl (by (apply ResL.cons; apply Res.cell; rfl; apply Known.at; apply FsAt.tail; apply FsAt.app; apply FsAt.app; apply FsAt.head; exact Rd.whole rfl; apply ResL.cons; exact Res.tmp rfl; exact ResL.nil)) ?_ ⟨_, rfl, _, _, g1, g2, rfl, rfl, h1, h2⟩
  exact List.Sublist.cons _ (List.Sublist.append_left (List.sublist_append_left _ _) _)
/-- Bytes of memory that were reached. -/
def CutR (ws : List Nat) (ms : List UInt8) (p0 n : Nat) (r : Value) (gs : Fs) : Prop := ∃ o v go gv, r = .tuple #[o, v, .int .i64 0] ∧ gs = gv ++ go ∧ ScO ws ms o go ∧ bM ((ms.drop p0).take n) v gv
theorem RowAt.mid {w : World} {g o N c k n : Nat} {xs : List Value} (h : RowAt w 1 (.slice (some ⟨g, o, none⟩) N c) N xs) (hn : 0 < n) (hk : k + n ≤ N) : RowAt w 1 (.slice (some ⟨g, o + k, none⟩) n n) n ((xs.drop (k * 1)).take (n * 1)) := by
  obtain ⟨_, _, he, hle, _⟩ := h.form
  cases he
  have h1 := h.drop (k := k) (by omega)
  have e1 : cutAt (some ⟨g, o, none⟩) k N c 1 = .slice (some ⟨g, o + k, none⟩) (N - k) (c - k) := by
    unfold cutAt
    rw [if_neg (by omega)]
    simp [Addr.add]
  rw [e1] at h1
  exact RowAt.cutMax h1 (by omega)
theorem cut_in (ws : List Nat) (ms : List UInt8) (p0 n : Nat) (s m : Value) (w : World) (hs : RowAt w 4 s ws.length (wcs ws)) (hm : RowAt w 1 m ms.length (ucs ms)) (hok : okSc ws.length ms.length) (hn : 0 < n) (hn2 : p0 + n ≤ ms.length) :
    Calls Tryz.prog 124 #[.agg #[s, m], .int .u64 (p0 : Int), .int .u64 (n : Int)] w (RetG w [] (CutR ws ms p0 n)) := by
  have hs0 := hs
  have hm0 := hm
  have hk1 := hok.2.1
  obtain ⟨p, c, rfl, _, hc⟩ := id hs.form
  obtain ⟨p2, c2, rfl, _, hc2⟩ := id hm.form
  refine enter (args := [_, _, _]) _ [] [] Tryz.func124 rfl Tryz.ntmps124 rfl (by simp) .nil ?_
  (refine sRz ?_; apply LW.boxA; rfl; rfl; intro _; apply LW.allocA; rfl; intro _; refine vAz ?_; refine vAz ?_; refine nSz ?_; refine ldz rfl (.tail .head) (Rd.whole rfl) ?_; refine vMz ?_; refine vMz ?_)
  (apply LW.callR; rfl; rfl; infer_instance; exact .cons rfl (.cons rfl (.cons rfl .nil)); intro w hs)
  exact grow_in ws ms p0 n _ _ w (hs0.st hs) (hm0.st hs) hok hn hn2
  rintro vo gso ⟨o, rfl, s1, m1, g1, g2, rfl, rfl, h1, h2⟩
  have h1' := h1
  have h2' := h2
  unfold wM at h1'
  unfold bM at h2'
  obtain ⟨q1, k1, rfl⟩ := id h1'.form
  obtain ⟨q2, k2, rfl⟩ := id h2'.form
  have hle2 := IsRow.le h2'
  have hmod : (p0 + n) % 18446744073709551616 = p0 + n := Nat.mod_eq_of_lt (by omega)
  obtain ⟨gm, cur, rfl, rfl, hn3, hm3, hsz3, htk3⟩ := id (h2'.pos (by omega))
  (refine vMz ?_; refine vEz ?_; refine vEz ?_; apply LW.allocA; rfl; intro _; refine LW.store rfl rfl .head (.whole rfl rfl rfl) ?_; refine vAz ?_; refine nNz ?_; refine CW.seq ?_; refine sRz ?_; refine vMz ?_; refine lvz (.neF rfl rfl (by omega)) ?_; refine vMz ?_; refine gTz ?_; refine vMz ?_; refine gTz ?_; refine lvz (.eqF rfl rfl (by omega)) ?_; refine pFz ?_; refine nNz ?_; refine cFz ?_; refine CW.skip ?_; refine thenN ?_; refine CW.seq ?_)
  apply CW.pre
  (refine AnyW.anyM [(11, bM ((ms.drop p0).take n))] 12 mixed (by decide +kernel) ?_)
  ((try simp only [tsOf_cons, tsOf_nil, tsOf_app]); apply DW.loadO; rfl; rfl; rfl; exact WantT.none; rfl; apply TRead.head; exact ancB_nil; exact Rd.whole rfl; refine dvz (.fieldAddr rfl rfl) ?_; apply DW.loadO; rfl; rfl; rfl; exact WantT.none; rfl; apply TRead.head; exact ancB_nil; exact sc_rd1; refine dvz (.move rfl) ?_; refine dvz (.move rfl) ?_; refine dvz (.move rfl) ?_; refine dvz (.addN rfl rfl) ?_; refine dvz (.move rfl) ?_; refine dvz (.move rfl) ?_; refine dvz (.addN rfl rfl) ?_; apply DW.v0; rfl; rfl; rfl; exact WantT.none; rfl; refine SK.ValP.cut3o (m := n) (o' := 0 + p0) inferInstance inferInstance rfl rfl rfl rfl ?_ ?_ ?_ ?_ ?_; omega; omega; omega; omega; rfl)
  (apply DW.manyV; rfl; rfl; rfl; exact WantT.none; rfl; infer_instance; exact .cons rfl .nil; apply RdV.own; assumption; apply TRead.tail; apply TRead.head; exact ancB_nil; exact RdV.nil; intro w _ _)
  · have hr := RowAt.mid (k := p0) (n := n) (IsRow.us h2' (fun p hp => by obtain rfl := List.mem_singleton.1 hp; rename_i hu; exact hu _ List.mem_cons_self) (List.Sublist.refl _)) hn (by omega)
    rw [ucs_drop, ucs_take] at hr
    have hlen : ((ms.drop p0).take n).length = n := by rw [List.length_take, List.length_drop]; omega
    have h9 := SK.Clone_calls ((ms.drop p0).take n) _ w (by rw [hlen]; exact hr) (by omega)
    exact h9
  intro v3 g3 h3
  have h3' := h3
  unfold bM at h3'
  obtain ⟨q3, k3, rfl⟩ := id h3'.form
  ((try simp only [tsOf_cons, tsOf_nil, tsOf_app]); apply DW.nil; simp only [fsOf_cons, fsOf_nil, fsOf_app, fsOf_tsOf, fsOf_new, fsOf_tag])
  simp only [fsOf_cons, fsOf_nil, fsOf_app, fsOf_tsOf, List.append_eq, List.nil_append]
  (refine LW.store rfl rfl (.app (.tail (.tail (.app .head)))) (.whole rfl rfl rfl) ?_; refine vAz ?_; refine vAz ?_; refine nNz ?_; refine CW.ret ?_)
  refine fin (vs := [.agg #[.slice q1 ws.length k1, .slice (some ⟨gm, 0, none⟩) ms.length k2], .slice q3 ((ms.drop p0).take n).length k3, .int .i64 0]) (g3 ++ ((gm, .cells cur 5 (0, 0)) :: g1)) (.inl rfl) rfl rfl (by (apply ResL.cons; apply Res.cell; rfl; apply Known.at; apply FsAt.app; apply FsAt.tail; apply FsAt.tail; apply FsAt.app; apply FsAt.head; exact Rd.whole rfl; apply ResL.cons; exact Res.tmp rfl; apply ResL.cons; exact Res.tmp rfl; exact ResL.nil)) ?_ ⟨_, _, _, g3, rfl, rfl, ⟨_, _, g1, [(gm, .cells cur 5 (0, 0))], rfl, rfl, h1, h2⟩, h3⟩
  exact List.Sublist.append_left (List.Sublist.cons _ (List.Sublist.cons_cons _ (List.sublist_append_left _ _))) _
/-! ### Gas spent -/
abbrev offV : Value := .iface 98 (.agg #[])
abbrev offC : List PanicEntry := [{ v := offV, recovered := false }]
attribute [local irreducible] SL.inP
def FrV.setGas (f : FrV) (g : Nat) : FrV := { f with gas := g }
theorem bspend_calls (w0 : World) (b : Nat) (f : FrV) (A : AkV) (c : ClV) (n : Nat) (hg : f.gas < 18446744073709551616) (rest : Fs) (w : World) (hs : St w0 [] ((b, bgO f A c) :: rest) w) :
    Calls Tryz.prog 85 #[.pointer (some ⟨b, 0, none⟩), .int .u64 (n : Int)] w (fun x w' => ∃ fs', ((n ≤ f.gas ∧ x = .returned (.tuple #[]) ∧ fs' = (b, bgO (f.setGas (f.gas - n)) A c) :: rest) ∨ (f.gas < n ∧ x = .panicked offC ∧ fs' = rest)) ∧ St w0 [] fs' w') := by
  refine calls_anyO (calls_inlineP (K := anyO fun x fs' => (n ≤ f.gas ∧ x = .returned (.tuple #[]) ∧ fs' = (b, bgO (f.setGas (f.gas - n)) A c) :: rest) ∨ (f.gas < n ∧ x = .panicked offC ∧ fs' = rest)) (args := [_, _]) Tryz.func85 rfl Tryz.ntmps85 rfl ?_ hs)
  obtain ⟨code, pc, stk, mem, gas, self, frm, val, inp, back, stat⟩ := f
  dsimp only at hg ⊢
  rcases Nat.lt_or_ge gas n with hlt | hge
  · (refine sRz ?_; refine vMz ?_; refine vNz ?_; refine vFz ?_; refine vFz ?_; refine ldz rfl .head bg_rd4 ?_; refine vMz ?_; apply LW.lay1; rfl; infer_instance; infer_instance; rfl; rfl; rfl; rfl; rfl; rfl; intro _)
    rename_i b13
    (apply LW.callE; rfl; rfl; infer_instance; exact .cons rfl (.cons rfl .nil); intro w _)
    rename_i hst
    have h := Spend_calls gas [n] hg _ w (row_cells (hst.own (b13, _) List.mem_cons_self).2 rfl rfl (by simp [maxLen]))
    rw [spendV, if_neg (by simp; omega)] at h
    exact h
    (refine vMz ?_; refine vEz ?_; refine vEz ?_; refine vAz ?_; refine vAz ?_; refine nNz ?_; refine CW.seq ?_; refine sRz ?_; refine vMz ?_; refine lvz (.notF rfl (by with_reducible rfl)) ?_; refine nNz ?_; refine cTz ?_; refine CW.region ?_; apply LW.v0; rfl; rfl; apply ValP.buildT; infer_instance; infer_instance; exact PartsOk.nil; rfl; simp only [fillP, wrCells, Value.cells, List.getElem?_cons_zero, List.getElem?_cons_succ, List.toList_toArray, List.setIfInBounds_toArray, List.set_cons_succ, List.set_cons_zero, Nat.reduceAdd, Nat.zero_add]; rfl; apply LW.v0; rfl; rfl; apply ValP.mkIface; kernel_rfl; rfl; apply LW.panic; rfl; refine thenP ?_)
    exact inPP .nil ⟨rest, .inr ⟨hlt, rfl, rfl⟩, subp_ix [[_], [_]] (xs := []) (ys := [0, 1]) rest rfl⟩
  · (refine sRz ?_; refine vMz ?_; refine vNz ?_; refine vFz ?_; refine vFz ?_; refine ldz rfl .head bg_rd4 ?_; refine vMz ?_; apply LW.lay1; rfl; infer_instance; infer_instance; rfl; rfl; rfl; rfl; rfl; rfl; intro _)
    rename_i b13
    (apply LW.callE; rfl; rfl; infer_instance; exact .cons rfl (.cons rfl .nil); intro w _)
    rename_i hst
    have h := Spend_calls gas [n] hg _ w (row_cells (hst.own (b13, _) List.mem_cons_self).2 rfl rfl (by simp [maxLen]))
    rw [spendV, if_pos (by simp; omega), show gas - [n].sum = gas - n by simp] at h
    exact h
    (refine vMz ?_; refine vEz ?_; refine vEz ?_; refine vAz ?_; refine vAz ?_; refine nNz ?_; refine CW.seq ?_; refine sRz ?_; refine vMz ?_; refine lvz (.notT rfl (by with_reducible rfl)) ?_; refine nNz ?_; refine cFz ?_; refine CW.skip ?_; refine thenN ?_; refine CW.region ?_; refine vMz ?_; refine vMz ?_; refine vNz ?_; refine vFz ?_; refine vFz ?_; apply LW.store; rfl; rfl; apply SetAt.tail; apply SetAt.head; apply bg_wr4 (z := .int .u64 0); apply LW.nil)
    exact inPI (.inr rfl) .nil rfl .nil rfl ⟨_, .inl ⟨hge, rfl, rfl⟩, subp_ix [[_], [_]] (xs := [1]) (ys := [0, 1]) rest rfl⟩
end Go.Proofs.YtpgdnfgjbhdbpaaGreatDoor

/-
  What begins a call: memory reached.
  Conditions: none.
-/
namespace Go.Proofs.YtpgdnfgjbhdbpaaGreatDoor
open Go Go.RowKit SL
set_option maxRecDepth 8000
set_option maxHeartbeats 4000000
set_option linter.unusedSimpArgs false
set_option linter.unusedVariables false
attribute [local irreducible] SL.CW SL.LW SL.DW Calls SL.Ret SL.RetG SL.beginQ SL.roundQ SL.rangeQ SL.inQ SL.RW SL.AnyW SL.thenQ SL.thenC SL.thenW SL.blkQ SL.finQ SL.ValP SL.NewP SL.SetP SL.CallP SL.Rd SL.Wr SL.Known
/-! ### Where a frame's rows lie -/
theorem rowU_own {E : TypeId} {sz n : Nat} {v : Value} {xs : List Value} {seg : Fs} (h : IsRow E sz v n xs seg) : ∃ us : Fs, blocksN 4 v = us.map (·.1) ∧ (∀ p ∈ us, p ∈ seg) ∧ ∀ w : World, (∀ p ∈ us, w.heap[p.1]? = some p.2) → RowAt w sz v n xs := by
  cases h with
  | nil => exact ⟨[], rfl, (fun p h => by cases h), fun w _ => .nil⟩
  | @own g _ cap cur _ hn hm hc ht hl =>
    rcases Nat.eq_zero_or_pos cap with h0 | h0
    · subst h0
      obtain rfl : n = 0 := by omega
      refine ⟨[], by simp [blocksN], (fun p h => by cases h), fun w _ => ⟨⟨_, _, rfl, Nat.le_refl _, hm⟩, hl, (fun h => by cases h), fun p n c he => by cases he; exact .inr (.inl rfl)⟩⟩
    · exact ⟨[(g, .cells cur E (0, 0))], by simp [blocksN, Nat.ne_of_gt h0], fun p h => h, fun w hw => IsRow.us (.own hn hm hc ht hl) hw (List.Sublist.refl _)⟩
theorem rowU_ext {sz n : Nat} {v : Value} {xs : List Value} {w0 : World} (h : RowAt w0 sz v n xs) : ∃ us : Fs, blocksN 4 v = us.map (·.1) ∧ ∀ p ∈ us, w0.heap[p.1]? = some p.2 := by
  obtain ⟨p, c, rfl, _, _⟩ := h.form
  rcases h.lies _ _ _ rfl with rfl | rfl | ⟨b, off, o, rfl, hb⟩
  · exact ⟨[], rfl, fun p h => by cases h⟩
  · exact ⟨[], by cases p <;> simp [blocksN], fun p h => by cases h⟩
  · rcases Nat.eq_zero_or_pos c with hc | hc
    · subst hc
      exact ⟨[], by simp [blocksN], fun p h => by cases h⟩
    · exact ⟨[(b, o)], by simp [blocksN, Nat.ne_of_gt hc], fun p h => by obtain rfl := List.mem_singleton.1 h; exact hb⟩
/-- A frame whose rows lie with the caller, or are of its own. -/
def FrA (w0 : World) (f : FrV) (L : FrL) (gs : Fs) : Prop := (gs = [] ∧ FrRows w0 f L) ∨ FrO f L gs
theorem FrA.sl {w0 : World} {f : FrV} {L : FrL} {gs : Fs} (h : FrA w0 f L gs) : FrSl f := by
  rcases h with ⟨_, h⟩ | h
  · exact h.sl
  · exact h.sl
theorem FrA.st {w0 w : World} {f : FrV} {L : FrL} {gs fs : Fs} (h : FrA w0 f L gs) (hs : St w0 [] fs w) (hg : ∀ p ∈ gs, p ∈ fs) : FrRows w f L := by
  rcases h with ⟨_, h⟩ | h
  · exact h.st hs
  · exact h.st hs hg
theorem FrA.lie {w0 : World} {f : FrV} {L : FrL} {gs : Fs} (h : FrA w0 f L gs) : ∃ us : Fs, blocksN 4 (frv f) = us.map (·.1) ∧ (∀ p ∈ us, p ∈ gs ∨ w0.heap[p.1]? = some p.2) ∧ ∀ w : World, Bel w0.heap.size [] w0 w → (∀ p ∈ us, w.heap[p.1]? = some p.2) → FrRows w f L := by
  rcases h with ⟨_, h⟩ | h
  · obtain ⟨u1, a1, b1⟩ := rowU_ext h.c
    obtain ⟨u2, a2, b2⟩ := rowU_ext h.s
    obtain ⟨u3, a3, b3⟩ := rowU_ext h.m
    obtain ⟨u4, a4, b4⟩ := rowU_ext h.i
    obtain ⟨u5, a5, b5⟩ := rowU_ext h.b
    refine ⟨u1 ++ (u2 ++ (u3 ++ (u4 ++ u5))), ?_, fun p hp => .inr ?_, fun w hb _ => h.bel hb⟩
    · rw [blocks_frv h.sl]
      simp [a1, a2, a3, a4, a5]
    · simp only [List.mem_append] at hp
      rcases hp with h | h | h | h | h
      · exact b1 p h
      · exact b2 p h
      · exact b3 p h
      · exact b4 p h
      · exact b5 p h
  · have hsl := h.sl
    obtain ⟨g1, g2, g3, g4, g5, hp, h1, h2, h3, h4, h5⟩ := h
    unfold bM at h1 h3 h4 h5
    unfold wM at h2
    obtain ⟨u1, a1, b1, c1⟩ := rowU_own h1
    obtain ⟨u2, a2, b2, c2⟩ := rowU_own h2
    obtain ⟨u3, a3, b3, c3⟩ := rowU_own h3
    obtain ⟨u4, a4, b4, c4⟩ := rowU_own h4
    obtain ⟨u5, a5, b5, c5⟩ := rowU_own h5
    refine ⟨u1 ++ (u2 ++ (u3 ++ (u4 ++ u5))), ?_, fun p hq => .inl (hp.subset ?_), fun w _ hw => ⟨c1 w fun p h => hw p (by simp [h]), c2 w fun p h => hw p (by simp [h]), c3 w fun p h => hw p (by simp [h]), c4 w fun p h => hw p (by simp [h]), c5 w fun p h => hw p (by simp [h])⟩⟩
    · rw [blocks_frv hsl]
      simp [a1, a2, a3, a4, a5]
    · simp only [List.mem_append] at hq ⊢
      rcases hq with h | h | h | h | h
      · exact .inl (b1 p h)
      · exact .inr (.inl (b2 p h))
      · exact .inr (.inr (.inl (b3 p h)))
      · exact .inr (.inr (.inr (.inl (b4 p h))))
      · exact .inr (.inr (.inr (.inr (b5 p h))))
theorem anc_nil {ops : Array Oper} {k : Nat} : ancB ops k [] = true := rfl
theorem wrCells_list : ∀ (vs : List Value) (c : Array Value) (off : Nat), off + vs.length ≤ c.size → (wrCells c off vs).toList = c.toList.take off ++ vs ++ c.toList.drop (off + vs.length) := by
  intro vs
  induction vs with
  | nil => intro c off h; simp [wrCells]
  | cons v r ih =>
    intro c off h
    simp only [List.length_cons] at h
    rw [wrCells, ih _ _ (by simp; omega)]
    simp only [Array.toList_setIfInBounds, List.length_cons]
    have hlt : off < c.toList.length := by simp; omega
    have hl : (c.toList.take off).length = off := by simp; omega
    rw [List.take_set, List.take_succ_eq_append_getElem hlt, List.set_append_right _ _ (by rw [hl]; exact Nat.le_refl _), hl, Nat.sub_self, List.drop_set_of_lt (by omega)]
    simp [Nat.add_assoc, Nat.add_comm 1]
theorem bg_put (f f' : FrV) (A : AkV) (c : ClV) : wrCells (bga f A c) (0 + 0) (frc f') = bga f' A c := by
  apply Array.toList_inj.1
  rw [wrCells_list _ _ _ (by show 0 + 0 + 14 ≤ 41; omega)]
  rw [show 0 + 0 + (frc f').length = (frc f).length from rfl, show (bga f A c).toList = frc f ++ (shc A.op ++ ([.int .i64 A.kind, .int .u8 (A.op : Int), A.ws, A.dt] ++ ([.bool A.cold, .bool A.vl, .bool A.new] ++ clc c))) from rfl, List.drop_left]
  rfl
section wr
variable {P : Program} {T E : TypeId} {A : AkV} {f f' : FrV} {c : ClV} {z : Value}
theorem bg_wrF [InfoI P T 14 z] (h : FrSl f') : Wr P T (.cells (bga f A c) E (0, 0)) (0 + 0) (frv f') (.cells (bga f' A c) E (0, 0)) := Wr.cells (n := 14) (z := z) rfl (fr_cells h) (by show 0 + 0 + 14 ≤ 41; omega) (bg_put f f' A c)
end wr
attribute [local irreducible] SL.inP wordI shq
theorem reach_bounds {L : FrL} {a n : Nat} (hok : okSc L.ws.length L.ms.length) (h0 : 0 < n) (hE : endV a n ≤ 1024) : a + n ≤ 1024 ∧ a + n ≤ (memR L a n).ms.length ∧ okSc (memR L a n).ws.length (memR L a n).ms.length := by
  have h1 : a + n ≤ endV a n := by
    unfold endV at hE ⊢
    rw [if_neg (by omega)] at hE ⊢
    unfold NOG at hE ⊢
    omega
  obtain ⟨h2, h3, h4⟩ := hok
  have h5 : (memR L a n).ms.length = L.ms.length + (upW (endV a n) - L.ms.length) := by unfold memR FrL.setM; simp
  unfold upW at h5
  refine ⟨by omega, by omega, ?_⟩
  unfold okSc
  refine ⟨h2, by omega, by omega⟩
/-- What is reached, and cut. -/
def BReachK (w0 : World) (b : Nat) (f : FrV) (L : FrL) (A : AkV) (c : ClV) (a n : Nat) (rest : Fs) : Out := fun x fs' => match reachR f L a n with
  | none => x = .panicked offC ∧ fs' = rest
  | some (g, L') => ∃ cc s m i b5 gs' lv gl, x = .returned (.tuple #[lv, .int .u64 ((if n = 0 then 0 else a : Nat) : Int), .int .u64 (n : Int)]) ∧ FrO (f.rowsG g cc s m i b5) L' gs' ∧ bM ((L'.ms.drop a).take n) lv gl ∧ fs' = (b, bgO (f.rowsG g cc s m i b5) A c) :: (gs' ++ (gl ++ rest))
theorem breach_calls (w0 : World) (b : Nat) (f : FrV) (L : FrL) (A : AkV) (c : ClV) (ws : List Nat) (hM : ∀ x ∈ ws, x < M256) (i : Nat) (hi : i + 1 < ws.length) (hll : ws.length ≤ 100) (hF : okF f L) (gs rest : Fs) (hfr : FrA w0 f L gs) (w : World) (hv : RowAt w0 4 A.ws ws.length (wcs ws)) (hs : St w0 [] ((b, bgO f A c) :: (gs ++ rest)) w) :
    Calls Tryz.prog 90 #[.pointer (some ⟨b, 0, none⟩), .int .i64 (i : Int)] w (fun x w' => ∃ fs', BReachK w0 b f L A c (wordI ws (i : Int)) (wordI ws ((i : Int) + 1)) rest x fs' ∧ St w0 [] fs' w') := by
  obtain ⟨us, hbl, hin, hrows⟩ := hfr.lie
  have hla := wordI_lt hM (i : Int)
  have hln := wordI_lt hM ((i : Int) + 1)
  have hWa : ∀ (f : FrV) (c : ClV) w', Bel w0.heap.size [] w0 w' → (∀ p ∈ [(b, bgO f A c)], w'.heap[p.1]? = some p.2) → Calls Tryz.prog 89 #[.pointer (some ⟨b, 0, none⟩), .int .i64 (i : Int)] w' (Ret w' (wv (wordI ws (i : Int)))) := fun f c w' hb hp => bword_calls f A c b ws _ (by omega) w' (hp _ List.mem_cons_self) (hv.bel hb)
  have hWn : ∀ (f : FrV) (c : ClV) w', Bel w0.heap.size [] w0 w' → (∀ p ∈ [(b, bgO f A c)], w'.heap[p.1]? = some p.2) → Calls Tryz.prog 89 #[.pointer (some ⟨b, 0, none⟩), .int .i64 ((i : Int) + 1)] w' (Ret w' (wv (wordI ws ((i : Int) + 1)))) := fun f c w' hb hp => bword_calls f A c b ws _ (by omega) w' (hp _ List.mem_cons_self) (hv.bel hb)
  obtain ⟨a, ha⟩ : ∃ a, wordI ws (i : Int) = a := ⟨_, rfl⟩
  obtain ⟨n, hn⟩ : ∃ n, wordI ws ((i : Int) + 1) = n := ⟨_, rfl⟩
  rw [ha] at hla hWa ⊢
  rw [hn] at hln hWn ⊢
  refine calls_anyO (calls_inlineP (K := anyO (BReachK w0 b f L A c a n rest)) (args := [_, _]) Tryz.func90 rfl Tryz.ntmps90 rfl ?_ hs)
  (refine sRz ?_; refine vAz ?_; refine vAz ?_; refine vAz ?_; refine nNz ?_; refine CW.seq ?_; refine sRz ?_; refine vMz ?_; refine lvz (.lssF rfl rfl (by omega)) ?_; refine nNz ?_; refine cFz ?_; refine CW.skip ?_; refine thenN ?_; refine CW.seq ?_)
  apply CW.pre
  (refine AnyW.anyM [(11, ToldR f (reachR f L a n))] 17 mixed (by decide +kernel) ?_)
  ((try simp only [tsOf_cons, tsOf_nil, tsOf_app]); refine dvz (.move rfl) ?_; refine dvz (.nilCheck rfl) ?_; refine dvz (.fieldAddr rfl rfl) ?_; apply DW.loadO; rfl; rfl; rfl; exact WantT.none; rfl; apply TRead.head; exact ancB_nil; exact bg_rdF; refine dvz (.move rfl) ?_; refine dvz (.move rfl) ?_; apply DW.callE; rfl; rfl; rfl; exact WantT.none; rfl; infer_instance; exact .cons rfl (.cons rfl .nil); rfl; apply ReadAll.own; apply TRead.head; exact ancB_nil; exact ReadAll.nil; intro w _ _; exact hWa _ _ w (by assumption) (by assumption); refine dvz (.move rfl) ?_; refine dvz (.move rfl) ?_; refine dvz (.addZL rfl rfl (by decide) (by omega)) ?_; apply DW.callE; rfl; rfl; rfl; exact WantT.none; rfl; infer_instance; exact .cons rfl (.cons rfl .nil); rfl; apply ReadAll.own; apply TRead.head; exact ancB_nil; exact ReadAll.nil; intro w _ _; exact hWn _ _ w (by assumption) (by assumption))
  refine DW.manyA us rfl rfl rfl (by (exact WantT.none)) rfl inferInstance (by (exact .cons rfl (.cons rfl (.cons rfl .nil)))) (by rw [List.flatMap_cons, hbl]; exact List.append_nil _) (fun p hp => ?_) (fun w hb hu => ?_) ?_
  · rcases hin p hp with h | h
    · exact .inl ⟨[], [], by simp [tsOf, h], anc_nil⟩
    · exact .inr ⟨h, by simp⟩
  · have h := Reach_calls f L a n hla hln w (hrows w hb hu)
    rw [if_pos hF] at h
    exact h
  intro vT gT hT
  unfold BReachK
  cases hR : reachR f L a n with
  | none =>
    rw [hR] at hT
    obtain ⟨rfl, rfl⟩ := hT
    have hzs := zero_sl
    ((try simp only [tsOf_cons, tsOf_nil, tsOf_app]); refine dvz (.move rfl) ?_; refine dvz (.extractN rfl rfl) ?_; refine dvz (.extractN rfl rfl) ?_; apply DW.allocA; rfl; rfl; rfl; exact WantT.none; intro _; apply DW.store; rfl; rfl; exact WantT.none; rfl; rfl; apply TSet.head; kernel_rfl; exact ancB_nil; apply Wr.whole; rfl; rfl; rfl; apply DW.nil; simp only [fsOf_cons, fsOf_nil, fsOf_app, fsOf_tsOf, fsOf_new])
    simp only [fsOf_mark, fsOf_cons, fsOf_nil, fsOf_app, fsOf_tsOf, fsOf_new, List.append_eq, List.nil_append]
    (refine vAz ?_; refine nNz ?_; refine CW.seq ?_; refine sRz ?_; refine vMz ?_; refine lvz (.notF rfl (by with_reducible rfl)) ?_; refine nNz ?_; refine cTz ?_; refine CW.region ?_; apply LW.v0; rfl; rfl; apply ValP.buildT; infer_instance; infer_instance; exact PartsOk.nil; rfl; simp only [fillP, wrCells, Value.cells, List.getElem?_cons_zero, List.getElem?_cons_succ, List.toList_toArray, List.setIfInBounds_toArray, List.set_cons_succ, List.set_cons_zero, Nat.reduceAdd, Nat.zero_add]; rfl; apply LW.v0; rfl; rfl; apply ValP.mkIface; kernel_rfl; rfl; apply LW.panic; rfl; refine thenP ?_)
    exact inPP .nil ⟨rest, ⟨rfl, rfl⟩, subp_ix [[_], [_], gs] (xs := []) (ys := [0, 1, 2]) rest rfl⟩
  | some x =>
    rw [hR] at hT
    obtain ⟨g, L'⟩ := x
    obtain ⟨cc, s1, m1, i1, b1, rfl, hfr1⟩ := hT
    have hsl1 := hfr1.sl
    have hc : costR L a n ≤ f.gas := by
      rcases Nat.lt_or_ge f.gas (costR L a n) with h | h
      · unfold reachR at hR; rw [if_neg (by omega)] at hR; cases hR
      · exact h
    obtain ⟨rfl, rfl⟩ : g = f.gas - costR L a n ∧ L' = memR L a n := by
      unfold reachR at hR; rw [if_pos hc] at hR; cases hR; exact ⟨rfl, rfl⟩
    have hE := memV_le hF.2.2.2.1.2.1 hF.1.2.2 hc
    have hWn' : ∀ w' {fs : Fs}, St w0 [] fs w' → (b, bgO (f.rowsG (f.gas - costR L a n) cc s1 m1 i1 b1) A c) ∈ fs → Calls Tryz.prog 89 #[.pointer (some ⟨b, 0, none⟩), .int .i64 ((i : Int) + 1)] w' (Ret w' (wv n)) := fun w' fs hst hm => hWn _ c w' hst.bel (fun p hp => by obtain rfl := List.mem_singleton.1 hp; exact (hst.own _ hm).2)
    have hWa' : ∀ w' {fs : Fs}, St w0 [] fs w' → (b, bgO (f.rowsG (f.gas - costR L a n) cc s1 m1 i1 b1) A c) ∈ fs → Calls Tryz.prog 89 #[.pointer (some ⟨b, 0, none⟩), .int .i64 (i : Int)] w' (Ret w' (wv a)) := fun w' fs hst hm => hWa _ c w' hst.bel (fun p hp => by obtain rfl := List.mem_singleton.1 hp; exact (hst.own _ hm).2)
    rcases Nat.eq_zero_or_pos n with h0 | h0
    · have hSn : ∀ w, Calls Tryz.prog 121 #[wv n] w (Ret w (.tuple #[.int .u64 (n : Int), .bool true])) := fun w => by
        have h := Small_calls n hln w
        rwa [if_pos (by omega), decide_eq_true (by omega)] at h
      ((try simp only [tsOf_cons, tsOf_nil, tsOf_app]); refine dvz (.move rfl) ?_; refine dvz (.extractN rfl rfl) ?_; refine dvz (.extractN rfl rfl) ?_; apply DW.allocA; rfl; rfl; rfl; exact WantT.none; intro _; apply DW.store; rfl; rfl; exact WantT.none; rfl; rfl; apply TSet.head; kernel_rfl; exact ancB_nil; apply fr_wrW; rfl; assumption; apply DW.nil; simp only [fsOf_cons, fsOf_nil, fsOf_app, fsOf_tsOf, fsOf_new])
      simp only [fsOf_mark, fsOf_cons, fsOf_nil, fsOf_app, fsOf_tsOf, fsOf_new, List.append_eq, List.nil_append]
      (refine vAz ?_; refine nNz ?_; refine CW.seq ?_; refine sRz ?_; refine vMz ?_; refine lvz (.notT rfl (by with_reducible rfl)) ?_; refine nNz ?_; refine cFz ?_; refine CW.skip ?_; refine thenN ?_; refine sRz ?_; refine vMz ?_; refine ldz rfl .head fr_rdW ?_; refine vNz ?_; refine vFz ?_; apply LW.store; rfl; rfl; apply SetAt.tail; apply SetAt.app; apply SetAt.head; apply bg_wrF; assumption; refine nSz ?_; refine vMz ?_; refine vMz ?_; refine lvz (.addZL rfl rfl (by decide) (by omega)) ?_; apply LW.callE; rfl; rfl; infer_instance; exact .cons rfl (.cons rfl .nil); intro w _; exact hWn' w (by assumption) (by simp); apply LW.callE; rfl; rfl; infer_instance; exact .cons rfl .nil; intro w _; exact hSn w; refine vMz ?_; refine vEz ?_; refine vEz ?_; refine vAz ?_; refine vAz ?_; refine nNz ?_; refine CW.seq ?_; refine sRz ?_; refine vMz ?_; refine lvz (.eqT rfl rfl (by omega)) ?_; refine nNz ?_; refine cTz ?_; refine sRz ?_; refine vAz ?_; refine vAz ?_; refine vAz ?_; refine nNz ?_; refine CW.ret ?_; refine thenR ?_)
      refine inPI (.inl rfl) .nil rfl (by (apply ResL.cons; exact Res.tmp rfl; apply ResL.cons; exact Res.tmp rfl; apply ResL.cons; exact Res.tmp rfl; exact ResL.nil)) rfl ⟨_, ⟨cc, s1, m1, i1, b1, gT, .slice none 0 0, [], ?_, hfr1, ?_, rfl⟩, ?_⟩
      · rw [if_pos h0, h0]; rfl
      · rw [h0, List.take_zero]; exact .nil
      · exact subp_ix [[_], gT, [_], gs] (xs := [2, 1]) (ys := [0, 1, 2, 3]) rest rfl
    · obtain ⟨hb1, hb2, hok2⟩ := reach_bounds hF.2.2.2.1 h0 hE
      have hSn : ∀ w, Calls Tryz.prog 121 #[wv n] w (Ret w (.tuple #[.int .u64 (n : Int), .bool true])) := fun w => by
        have h := Small_calls n hln w
        rwa [if_pos (by omega), decide_eq_true (by omega)] at h
      have hSa : ∀ w, Calls Tryz.prog 121 #[wv a] w (Ret w (.tuple #[.int .u64 (a : Int), .bool true])) := fun w => by
        have h := Small_calls a hla w
        rwa [if_pos (by omega), decide_eq_true (by omega)] at h
      ((try simp only [tsOf_cons, tsOf_nil, tsOf_app]); refine dvz (.move rfl) ?_; refine dvz (.extractN rfl rfl) ?_; refine dvz (.extractN rfl rfl) ?_; apply DW.allocA; rfl; rfl; rfl; exact WantT.none; intro _; apply DW.store; rfl; rfl; exact WantT.none; rfl; rfl; apply TSet.head; kernel_rfl; exact ancB_nil; apply fr_wrW; rfl; assumption; apply DW.nil; simp only [fsOf_cons, fsOf_nil, fsOf_app, fsOf_tsOf, fsOf_new])
      simp only [fsOf_mark, fsOf_cons, fsOf_nil, fsOf_app, fsOf_tsOf, fsOf_new, List.append_eq, List.nil_append]
      (refine vAz ?_; refine nNz ?_; refine CW.seq ?_; refine sRz ?_; refine vMz ?_; refine lvz (.notT rfl (by with_reducible rfl)) ?_; refine nNz ?_; refine cFz ?_; refine CW.skip ?_; refine thenN ?_; refine sRz ?_; refine vMz ?_; refine ldz rfl .head fr_rdW ?_; refine vNz ?_; refine vFz ?_; apply LW.store; rfl; rfl; apply SetAt.tail; apply SetAt.app; apply SetAt.head; apply bg_wrF; assumption; refine nSz ?_; refine vMz ?_; refine vMz ?_; refine lvz (.addZL rfl rfl (by decide) (by omega)) ?_; apply LW.callE; rfl; rfl; infer_instance; exact .cons rfl (.cons rfl .nil); intro w _; exact hWn' w (by assumption) (by simp); apply LW.callE; rfl; rfl; infer_instance; exact .cons rfl .nil; intro w _; exact hSn w; refine vMz ?_; refine vEz ?_; refine vEz ?_; refine vAz ?_; refine vAz ?_; refine nNz ?_; refine CW.seq ?_; refine sRz ?_; refine vMz ?_; refine lvz (.eqF rfl rfl (by omega)) ?_; refine nNz ?_; refine cFz ?_; refine CW.skip ?_; refine thenN ?_; refine sRz ?_; refine vMz ?_; refine vMz ?_; apply LW.callE; rfl; rfl; infer_instance; exact .cons rfl (.cons rfl .nil); intro w _; exact hWa' w (by assumption) (by simp); apply LW.callE; rfl; rfl; infer_instance; exact .cons rfl .nil; intro w _; exact hSa w; refine vMz ?_; refine vEz ?_; refine vEz ?_; refine vAz ?_; refine vAz ?_; refine nSz ?_; refine vFz ?_; refine ldz rfl .head fr_rd2 ?_; refine vMz ?_; refine vMz ?_)
      (apply LW.callR; rfl; rfl; infer_instance; exact .cons rfl (.cons rfl (.cons rfl .nil)); intro w hs)
      exact cut_in (memR L a n).ws (memR L a n).ms a n _ _ w ((hfr1.st hs (fun p hp => List.mem_cons_of_mem _ (List.mem_append_left _ hp))).s) ((hfr1.st hs (fun p hp => List.mem_cons_of_mem _ (List.mem_append_left _ hp))).m) hok2 h0 hb2
      rintro vo go ⟨o, lv, gsc, gv, rfl, rfl, ⟨s2, m2, ga, gb, rfl, rfl, hh2, hh3⟩, hlv⟩
      unfold wM at hh2
      unfold bM at hh3
      obtain ⟨q2, k2, rfl⟩ := hh2.form
      obtain ⟨q3, k3, rfl⟩ := hh3.form
      have hlv' := hlv
      unfold bM at hlv'
      obtain ⟨q4, k4, rfl⟩ := hlv'.form
      (refine vMz ?_; refine vEz ?_; refine vEz ?_; refine vEz ?_; apply LW.allocA; rfl; intro _; refine LW.store rfl rfl .head (.whole rfl rfl rfl) ?_; refine vAz ?_; refine vAz ?_; refine nNz ?_; refine CW.seq ?_; refine sRz ?_; refine vMz ?_; refine lvz (.neF rfl rfl (by omega)) ?_; refine nNz ?_; refine cFz ?_; refine CW.skip ?_; refine thenN ?_; refine sRz ?_; refine vMz ?_; refine vMz ?_; refine vMz ?_; refine vAz ?_; refine vAz ?_; refine vAz ?_; refine nNz ?_; refine CW.ret ?_)
      refine inPI (.inl rfl) .nil rfl (by (apply ResL.cons; exact Res.tmp rfl; apply ResL.cons; exact Res.tmp rfl; apply ResL.cons; exact Res.tmp rfl; exact ResL.nil)) rfl ⟨_, ⟨cc, s1, m1, i1, b1, gT, _, gv, ?_, hfr1, hlv, rfl⟩, ?_⟩
      · rw [if_neg (by omega)]; rfl
      · simp only [List.append_assoc, List.cons_append]
        exact subp_ix [[_], gv, gb, ga, [_], gT, [_], gs] (xs := [6, 5, 1]) (ys := [0, 1, 2, 3, 4, 5, 6, 7]) rest rfl
end Go.Proofs.YtpgdnfgjbhdbpaaGreatDoor

/-
  What slots and calls cost: contracts.
  Conditions: none.
-/
namespace Go.Proofs.YtpgdnfgjbhdbpaaGreatDoor
open Go Go.RowKit SL
set_option maxRecDepth 8000
set_option maxHeartbeats 4000000
set_option linter.unusedSimpArgs false
set_option linter.unusedVariables false
attribute [local irreducible] SL.CW SL.LW SL.DW Calls SL.Ret SL.RetG SL.beginQ SL.roundQ SL.rangeQ SL.inQ SL.RW SL.AnyW SL.thenQ SL.thenC SL.thenW SL.blkQ SL.finQ SL.ValP SL.NewP SL.SetP SL.CallP SL.Rd SL.Wr SL.Known
def callV (a b c : Bool) : Nat := (if a then 260 else 10) + if b then 900 + (if c then 2500 else 0) else 0
theorem Far_calls (k : Bool) (w : World) : Calls Tryz.prog 120 #[.bool k] w (Ret w (.int .u64 ((callV k false false : Nat) : Int))) := by
  refine enter (args := [_]) _ [] [] Tryz.func120 rfl Tryz.ntmps120 rfl (by simp) .nil ?_
  cases k
  · (refine CW.seq ?_; refine CW.region ?_; apply LW.v0; rfl; rfl; apply ValP.assign; rfl; apply LW.nil; refine thenN ?_; refine CW.seq ?_; refine CW.seq ?_; refine CW.region ?_; apply LW.v0; rfl; rfl; apply ValP.move; rfl; apply LW.nil; refine thenN ?_; apply CW.condF; rfl; (with_reducible rfl); refine CW.skip ?_; refine thenN ?_; refine CW.seq ?_; refine CW.region ?_; apply LW.v0; rfl; rfl; apply ValP.assign; rfl; apply LW.nil; refine thenN ?_; refine CW.ret ?_)
    (apply finR; exact .inl rfl; rfl; rfl; rfl; apply ResL.cons; exact Res.tmp rfl; exact ResL.nil)
    rfl
  · (refine CW.seq ?_; refine CW.region ?_; apply LW.v0; rfl; rfl; apply ValP.assign; rfl; apply LW.nil; refine thenN ?_; refine CW.seq ?_; refine CW.seq ?_; refine CW.region ?_; apply LW.v0; rfl; rfl; apply ValP.move; rfl; apply LW.nil; refine thenN ?_; apply CW.condT; rfl; (with_reducible rfl); refine CW.seq ?_; refine CW.region ?_; apply LW.v0; rfl; rfl; apply ValP.assign; rfl; apply LW.nil; refine thenN ?_; refine CW.ret ?_; refine thenR ?_)
    (apply finR; exact .inl rfl; rfl; rfl; rfl; apply ResL.cons; exact Res.tmp rfl; exact ResL.nil)
    rfl
theorem Call_calls (a b c : Bool) (w : World) : Calls Tryz.prog 86 #[.agg #[.bool a, .bool b, .bool c]] w (Ret w (.int .u64 ((callV a b c : Nat) : Int))) := by
  refine enter (args := [_]) _ [] [] Tryz.func86 rfl Tryz.ntmps86 rfl (by simp) .nil ?_
  cases a
  · cases b
    · cases c
      · (refine CW.seq ?_; refine CW.region ?_; apply LW.boxA; rfl; rfl; intro _; apply LW.v0; rfl; rfl; apply ValP.assign; rfl; apply LW.nil; refine thenN ?_; refine CW.seq ?_; refine CW.region ?_; apply LW.v0; rfl; rfl; apply ValP.fieldAddr; rfl; rfl; apply LW.load; rfl; rfl; apply Known.at; apply FsAt.head; exact Rd.one' rfl; apply LW.callE; rfl; rfl; infer_instance; apply ArgsOk.cons; rfl; exact ArgsOk.nil; intro w _; exact Far_calls _ w; apply LW.v0; rfl; rfl; apply ValP.assign; rfl; apply LW.nil; refine thenN ?_; refine CW.seq ?_; refine CW.seq ?_; refine CW.region ?_; apply LW.v0; rfl; rfl; apply ValP.fieldAddr; rfl; rfl; apply LW.load; rfl; rfl; apply Known.at; apply FsAt.head; exact Rd.one' rfl; apply LW.nil; refine thenN ?_; apply CW.condF; rfl; (with_reducible rfl); refine CW.skip ?_; refine thenN ?_; refine CW.seq ?_; refine CW.seq ?_; refine CW.region ?_; apply LW.v0; rfl; rfl; apply ValP.fieldAddr; rfl; rfl; apply LW.load; rfl; rfl; apply Known.at; apply FsAt.head; exact Rd.one' rfl; apply LW.v0; rfl; rfl; apply ValP.move; rfl; apply LW.guardF'; rfl; rfl; simp only [Bool.not_true, Bool.not_false]; rfl; apply LW.guardF'; rfl; rfl; simp only [Bool.not_true, Bool.not_false]; rfl; apply LW.v0; rfl; rfl; apply ValP.pickF'; rfl; (with_reducible rfl); rfl; apply LW.nil; refine thenN ?_; apply CW.condF; rfl; (with_reducible rfl); refine CW.skip ?_; refine thenN ?_; refine CW.seq ?_; refine CW.region ?_; apply LW.v0; rfl; rfl; apply ValP.move; rfl; apply LW.v0; rfl; rfl; apply ValP.assign; rfl; apply LW.nil; refine thenN ?_; refine CW.ret ?_)
        (apply finR; exact .inl rfl; rfl; rfl; rfl; apply ResL.cons; exact Res.tmp rfl; exact ResL.nil)
        rfl
      · (refine CW.seq ?_; refine CW.region ?_; apply LW.boxA; rfl; rfl; intro _; apply LW.v0; rfl; rfl; apply ValP.assign; rfl; apply LW.nil; refine thenN ?_; refine CW.seq ?_; refine CW.region ?_; apply LW.v0; rfl; rfl; apply ValP.fieldAddr; rfl; rfl; apply LW.load; rfl; rfl; apply Known.at; apply FsAt.head; exact Rd.one' rfl; apply LW.callE; rfl; rfl; infer_instance; apply ArgsOk.cons; rfl; exact ArgsOk.nil; intro w _; exact Far_calls _ w; apply LW.v0; rfl; rfl; apply ValP.assign; rfl; apply LW.nil; refine thenN ?_; refine CW.seq ?_; refine CW.seq ?_; refine CW.region ?_; apply LW.v0; rfl; rfl; apply ValP.fieldAddr; rfl; rfl; apply LW.load; rfl; rfl; apply Known.at; apply FsAt.head; exact Rd.one' rfl; apply LW.nil; refine thenN ?_; apply CW.condF; rfl; (with_reducible rfl); refine CW.skip ?_; refine thenN ?_; refine CW.seq ?_; refine CW.seq ?_; refine CW.region ?_; apply LW.v0; rfl; rfl; apply ValP.fieldAddr; rfl; rfl; apply LW.load; rfl; rfl; apply Known.at; apply FsAt.head; exact Rd.one' rfl; apply LW.v0; rfl; rfl; apply ValP.move; rfl; apply LW.guardF'; rfl; rfl; simp only [Bool.not_true, Bool.not_false]; rfl; apply LW.guardF'; rfl; rfl; simp only [Bool.not_true, Bool.not_false]; rfl; apply LW.v0; rfl; rfl; apply ValP.pickF'; rfl; (with_reducible rfl); rfl; apply LW.nil; refine thenN ?_; apply CW.condF; rfl; (with_reducible rfl); refine CW.skip ?_; refine thenN ?_; refine CW.seq ?_; refine CW.region ?_; apply LW.v0; rfl; rfl; apply ValP.move; rfl; apply LW.v0; rfl; rfl; apply ValP.assign; rfl; apply LW.nil; refine thenN ?_; refine CW.ret ?_)
        (apply finR; exact .inl rfl; rfl; rfl; rfl; apply ResL.cons; exact Res.tmp rfl; exact ResL.nil)
        rfl
    · cases c
      · (refine CW.seq ?_; refine CW.region ?_; apply LW.boxA; rfl; rfl; intro _; apply LW.v0; rfl; rfl; apply ValP.assign; rfl; apply LW.nil; refine thenN ?_; refine CW.seq ?_; refine CW.region ?_; apply LW.v0; rfl; rfl; apply ValP.fieldAddr; rfl; rfl; apply LW.load; rfl; rfl; apply Known.at; apply FsAt.head; exact Rd.one' rfl; apply LW.callE; rfl; rfl; infer_instance; apply ArgsOk.cons; rfl; exact ArgsOk.nil; intro w _; exact Far_calls _ w; apply LW.v0; rfl; rfl; apply ValP.assign; rfl; apply LW.nil; refine thenN ?_; refine CW.seq ?_; refine CW.seq ?_; refine CW.region ?_; apply LW.v0; rfl; rfl; apply ValP.fieldAddr; rfl; rfl; apply LW.load; rfl; rfl; apply Known.at; apply FsAt.head; exact Rd.one' rfl; apply LW.nil; refine thenN ?_; apply CW.condT; rfl; (with_reducible rfl); refine CW.region ?_; apply LW.v0; rfl; rfl; apply ValP.move; rfl; apply LW.v0; rfl; rfl; apply ValP.addNL; rfl; rfl; decide; apply LW.v0; rfl; rfl; apply ValP.assign; rfl; apply LW.nil; refine thenN ?_; refine CW.seq ?_; refine CW.seq ?_; refine CW.region ?_; apply LW.v0; rfl; rfl; apply ValP.fieldAddr; rfl; rfl; apply LW.load; rfl; rfl; apply Known.at; apply FsAt.head; exact Rd.one' rfl; apply LW.v0; rfl; rfl; apply ValP.move; rfl; apply LW.guardT'; rfl; rfl; (with_reducible rfl); apply LW.v0; rfl; rfl; apply ValP.fieldAddr; rfl; rfl; apply LW.guardT'; rfl; rfl; (with_reducible rfl); apply LW.load; rfl; rfl; apply Known.at; apply FsAt.head; exact Rd.one' rfl; apply LW.v0; rfl; rfl; apply ValP.pickT'; rfl; (with_reducible rfl); rfl; apply LW.nil; refine thenN ?_; apply CW.condF; rfl; (with_reducible rfl); refine CW.skip ?_; refine thenN ?_; refine CW.seq ?_; refine CW.region ?_; apply LW.v0; rfl; rfl; apply ValP.move; rfl; apply LW.v0; rfl; rfl; apply ValP.assign; rfl; apply LW.nil; refine thenN ?_; refine CW.ret ?_)
        (apply finR; exact .inl rfl; rfl; rfl; rfl; apply ResL.cons; exact Res.tmp rfl; exact ResL.nil)
        rfl
      · (refine CW.seq ?_; refine CW.region ?_; apply LW.boxA; rfl; rfl; intro _; apply LW.v0; rfl; rfl; apply ValP.assign; rfl; apply LW.nil; refine thenN ?_; refine CW.seq ?_; refine CW.region ?_; apply LW.v0; rfl; rfl; apply ValP.fieldAddr; rfl; rfl; apply LW.load; rfl; rfl; apply Known.at; apply FsAt.head; exact Rd.one' rfl; apply LW.callE; rfl; rfl; infer_instance; apply ArgsOk.cons; rfl; exact ArgsOk.nil; intro w _; exact Far_calls _ w; apply LW.v0; rfl; rfl; apply ValP.assign; rfl; apply LW.nil; refine thenN ?_; refine CW.seq ?_; refine CW.seq ?_; refine CW.region ?_; apply LW.v0; rfl; rfl; apply ValP.fieldAddr; rfl; rfl; apply LW.load; rfl; rfl; apply Known.at; apply FsAt.head; exact Rd.one' rfl; apply LW.nil; refine thenN ?_; apply CW.condT; rfl; (with_reducible rfl); refine CW.region ?_; apply LW.v0; rfl; rfl; apply ValP.move; rfl; apply LW.v0; rfl; rfl; apply ValP.addNL; rfl; rfl; decide; apply LW.v0; rfl; rfl; apply ValP.assign; rfl; apply LW.nil; refine thenN ?_; refine CW.seq ?_; refine CW.seq ?_; refine CW.region ?_; apply LW.v0; rfl; rfl; apply ValP.fieldAddr; rfl; rfl; apply LW.load; rfl; rfl; apply Known.at; apply FsAt.head; exact Rd.one' rfl; apply LW.v0; rfl; rfl; apply ValP.move; rfl; apply LW.guardT'; rfl; rfl; (with_reducible rfl); apply LW.v0; rfl; rfl; apply ValP.fieldAddr; rfl; rfl; apply LW.guardT'; rfl; rfl; (with_reducible rfl); apply LW.load; rfl; rfl; apply Known.at; apply FsAt.head; exact Rd.one' rfl; apply LW.v0; rfl; rfl; apply ValP.pickT'; rfl; (with_reducible rfl); rfl; apply LW.nil; refine thenN ?_; apply CW.condT; rfl; (with_reducible rfl); refine CW.region ?_; apply LW.v0; rfl; rfl; apply ValP.move; rfl; apply LW.v0; rfl; rfl; apply ValP.addNL; rfl; rfl; decide; apply LW.v0; rfl; rfl; apply ValP.assign; rfl; apply LW.nil; refine thenN ?_; refine CW.seq ?_; refine CW.region ?_; apply LW.v0; rfl; rfl; apply ValP.move; rfl; apply LW.v0; rfl; rfl; apply ValP.assign; rfl; apply LW.nil; refine thenN ?_; refine CW.ret ?_)
        (apply finR; exact .inl rfl; rfl; rfl; rfl; apply ResL.cons; exact Res.tmp rfl; exact ResL.nil)
        rfl
  · cases b
    · cases c
      · (refine CW.seq ?_; refine CW.region ?_; apply LW.boxA; rfl; rfl; intro _; apply LW.v0; rfl; rfl; apply ValP.assign; rfl; apply LW.nil; refine thenN ?_; refine CW.seq ?_; refine CW.region ?_; apply LW.v0; rfl; rfl; apply ValP.fieldAddr; rfl; rfl; apply LW.load; rfl; rfl; apply Known.at; apply FsAt.head; exact Rd.one' rfl; apply LW.callE; rfl; rfl; infer_instance; apply ArgsOk.cons; rfl; exact ArgsOk.nil; intro w _; exact Far_calls _ w; apply LW.v0; rfl; rfl; apply ValP.assign; rfl; apply LW.nil; refine thenN ?_; refine CW.seq ?_; refine CW.seq ?_; refine CW.region ?_; apply LW.v0; rfl; rfl; apply ValP.fieldAddr; rfl; rfl; apply LW.load; rfl; rfl; apply Known.at; apply FsAt.head; exact Rd.one' rfl; apply LW.nil; refine thenN ?_; apply CW.condF; rfl; (with_reducible rfl); refine CW.skip ?_; refine thenN ?_; refine CW.seq ?_; refine CW.seq ?_; refine CW.region ?_; apply LW.v0; rfl; rfl; apply ValP.fieldAddr; rfl; rfl; apply LW.load; rfl; rfl; apply Known.at; apply FsAt.head; exact Rd.one' rfl; apply LW.v0; rfl; rfl; apply ValP.move; rfl; apply LW.guardF'; rfl; rfl; simp only [Bool.not_true, Bool.not_false]; rfl; apply LW.guardF'; rfl; rfl; simp only [Bool.not_true, Bool.not_false]; rfl; apply LW.v0; rfl; rfl; apply ValP.pickF'; rfl; (with_reducible rfl); rfl; apply LW.nil; refine thenN ?_; apply CW.condF; rfl; (with_reducible rfl); refine CW.skip ?_; refine thenN ?_; refine CW.seq ?_; refine CW.region ?_; apply LW.v0; rfl; rfl; apply ValP.move; rfl; apply LW.v0; rfl; rfl; apply ValP.assign; rfl; apply LW.nil; refine thenN ?_; refine CW.ret ?_)
        (apply finR; exact .inl rfl; rfl; rfl; rfl; apply ResL.cons; exact Res.tmp rfl; exact ResL.nil)
        rfl
      · (refine CW.seq ?_; refine CW.region ?_; apply LW.boxA; rfl; rfl; intro _; apply LW.v0; rfl; rfl; apply ValP.assign; rfl; apply LW.nil; refine thenN ?_; refine CW.seq ?_; refine CW.region ?_; apply LW.v0; rfl; rfl; apply ValP.fieldAddr; rfl; rfl; apply LW.load; rfl; rfl; apply Known.at; apply FsAt.head; exact Rd.one' rfl; apply LW.callE; rfl; rfl; infer_instance; apply ArgsOk.cons; rfl; exact ArgsOk.nil; intro w _; exact Far_calls _ w; apply LW.v0; rfl; rfl; apply ValP.assign; rfl; apply LW.nil; refine thenN ?_; refine CW.seq ?_; refine CW.seq ?_; refine CW.region ?_; apply LW.v0; rfl; rfl; apply ValP.fieldAddr; rfl; rfl; apply LW.load; rfl; rfl; apply Known.at; apply FsAt.head; exact Rd.one' rfl; apply LW.nil; refine thenN ?_; apply CW.condF; rfl; (with_reducible rfl); refine CW.skip ?_; refine thenN ?_; refine CW.seq ?_; refine CW.seq ?_; refine CW.region ?_; apply LW.v0; rfl; rfl; apply ValP.fieldAddr; rfl; rfl; apply LW.load; rfl; rfl; apply Known.at; apply FsAt.head; exact Rd.one' rfl; apply LW.v0; rfl; rfl; apply ValP.move; rfl; apply LW.guardF'; rfl; rfl; simp only [Bool.not_true, Bool.not_false]; rfl; apply LW.guardF'; rfl; rfl; simp only [Bool.not_true, Bool.not_false]; rfl; apply LW.v0; rfl; rfl; apply ValP.pickF'; rfl; (with_reducible rfl); rfl; apply LW.nil; refine thenN ?_; apply CW.condF; rfl; (with_reducible rfl); refine CW.skip ?_; refine thenN ?_; refine CW.seq ?_; refine CW.region ?_; apply LW.v0; rfl; rfl; apply ValP.move; rfl; apply LW.v0; rfl; rfl; apply ValP.assign; rfl; apply LW.nil; refine thenN ?_; refine CW.ret ?_)
        (apply finR; exact .inl rfl; rfl; rfl; rfl; apply ResL.cons; exact Res.tmp rfl; exact ResL.nil)
        rfl
    · cases c
      · (refine CW.seq ?_; refine CW.region ?_; apply LW.boxA; rfl; rfl; intro _; apply LW.v0; rfl; rfl; apply ValP.assign; rfl; apply LW.nil; refine thenN ?_; refine CW.seq ?_; refine CW.region ?_; apply LW.v0; rfl; rfl; apply ValP.fieldAddr; rfl; rfl; apply LW.load; rfl; rfl; apply Known.at; apply FsAt.head; exact Rd.one' rfl; apply LW.callE; rfl; rfl; infer_instance; apply ArgsOk.cons; rfl; exact ArgsOk.nil; intro w _; exact Far_calls _ w; apply LW.v0; rfl; rfl; apply ValP.assign; rfl; apply LW.nil; refine thenN ?_; refine CW.seq ?_; refine CW.seq ?_; refine CW.region ?_; apply LW.v0; rfl; rfl; apply ValP.fieldAddr; rfl; rfl; apply LW.load; rfl; rfl; apply Known.at; apply FsAt.head; exact Rd.one' rfl; apply LW.nil; refine thenN ?_; apply CW.condT; rfl; (with_reducible rfl); refine CW.region ?_; apply LW.v0; rfl; rfl; apply ValP.move; rfl; apply LW.v0; rfl; rfl; apply ValP.addNL; rfl; rfl; decide; apply LW.v0; rfl; rfl; apply ValP.assign; rfl; apply LW.nil; refine thenN ?_; refine CW.seq ?_; refine CW.seq ?_; refine CW.region ?_; apply LW.v0; rfl; rfl; apply ValP.fieldAddr; rfl; rfl; apply LW.load; rfl; rfl; apply Known.at; apply FsAt.head; exact Rd.one' rfl; apply LW.v0; rfl; rfl; apply ValP.move; rfl; apply LW.guardT'; rfl; rfl; (with_reducible rfl); apply LW.v0; rfl; rfl; apply ValP.fieldAddr; rfl; rfl; apply LW.guardT'; rfl; rfl; (with_reducible rfl); apply LW.load; rfl; rfl; apply Known.at; apply FsAt.head; exact Rd.one' rfl; apply LW.v0; rfl; rfl; apply ValP.pickT'; rfl; (with_reducible rfl); rfl; apply LW.nil; refine thenN ?_; apply CW.condF; rfl; (with_reducible rfl); refine CW.skip ?_; refine thenN ?_; refine CW.seq ?_; refine CW.region ?_; apply LW.v0; rfl; rfl; apply ValP.move; rfl; apply LW.v0; rfl; rfl; apply ValP.assign; rfl; apply LW.nil; refine thenN ?_; refine CW.ret ?_)
        (apply finR; exact .inl rfl; rfl; rfl; rfl; apply ResL.cons; exact Res.tmp rfl; exact ResL.nil)
        rfl
      · (refine CW.seq ?_; refine CW.region ?_; apply LW.boxA; rfl; rfl; intro _; apply LW.v0; rfl; rfl; apply ValP.assign; rfl; apply LW.nil; refine thenN ?_; refine CW.seq ?_; refine CW.region ?_; apply LW.v0; rfl; rfl; apply ValP.fieldAddr; rfl; rfl; apply LW.load; rfl; rfl; apply Known.at; apply FsAt.head; exact Rd.one' rfl; apply LW.callE; rfl; rfl; infer_instance; apply ArgsOk.cons; rfl; exact ArgsOk.nil; intro w _; exact Far_calls _ w; apply LW.v0; rfl; rfl; apply ValP.assign; rfl; apply LW.nil; refine thenN ?_; refine CW.seq ?_; refine CW.seq ?_; refine CW.region ?_; apply LW.v0; rfl; rfl; apply ValP.fieldAddr; rfl; rfl; apply LW.load; rfl; rfl; apply Known.at; apply FsAt.head; exact Rd.one' rfl; apply LW.nil; refine thenN ?_; apply CW.condT; rfl; (with_reducible rfl); refine CW.region ?_; apply LW.v0; rfl; rfl; apply ValP.move; rfl; apply LW.v0; rfl; rfl; apply ValP.addNL; rfl; rfl; decide; apply LW.v0; rfl; rfl; apply ValP.assign; rfl; apply LW.nil; refine thenN ?_; refine CW.seq ?_; refine CW.seq ?_; refine CW.region ?_; apply LW.v0; rfl; rfl; apply ValP.fieldAddr; rfl; rfl; apply LW.load; rfl; rfl; apply Known.at; apply FsAt.head; exact Rd.one' rfl; apply LW.v0; rfl; rfl; apply ValP.move; rfl; apply LW.guardT'; rfl; rfl; (with_reducible rfl); apply LW.v0; rfl; rfl; apply ValP.fieldAddr; rfl; rfl; apply LW.guardT'; rfl; rfl; (with_reducible rfl); apply LW.load; rfl; rfl; apply Known.at; apply FsAt.head; exact Rd.one' rfl; apply LW.v0; rfl; rfl; apply ValP.pickT'; rfl; (with_reducible rfl); rfl; apply LW.nil; refine thenN ?_; apply CW.condT; rfl; (with_reducible rfl); refine CW.region ?_; apply LW.v0; rfl; rfl; apply ValP.move; rfl; apply LW.v0; rfl; rfl; apply ValP.addNL; rfl; rfl; decide; apply LW.v0; rfl; rfl; apply ValP.assign; rfl; apply LW.nil; refine thenN ?_; refine CW.seq ?_; refine CW.region ?_; apply LW.v0; rfl; rfl; apply ValP.move; rfl; apply LW.v0; rfl; rfl; apply ValP.assign; rfl; apply LW.nil; refine thenN ?_; refine CW.ret ?_)
        (apply finR; exact .inl rfl; rfl; rfl; rfl; apply ResL.cons; exact Res.tmp rfl; exact ResL.nil)
        rfl
end Go.Proofs.YtpgdnfgjbhdbpaaGreatDoor

/-
  What begins a call: all that is reached; what a call costs.
  Conditions: none.
-/
namespace Go.Proofs.YtpgdnfgjbhdbpaaGreatDoor
open Go Go.RowKit SL
set_option maxRecDepth 8000
set_option maxHeartbeats 4000000
set_option linter.unusedSimpArgs false
set_option linter.unusedVariables false
attribute [local irreducible] SL.CW SL.LW SL.DW Calls SL.Ret SL.RetG SL.beginQ SL.roundQ SL.rangeQ SL.inQ SL.RW SL.AnyW SL.thenQ SL.thenC SL.thenW SL.blkQ SL.finQ SL.ValP SL.NewP SL.SetP SL.CallP SL.Rd SL.Wr SL.Known
def reachG (g : Nat) (L : FrL) (a n : Nat) : Option (Nat × FrL) := if costR L a n ≤ g then some (g - costR L a n, memR L a n) else none
theorem reachR_G (f : FrV) (L : FrL) (a n : Nat) : reachR f L a n = reachG f.gas L a n := rfl
theorem reachG_some {g g' : Nat} {L L' : FrL} {a n : Nat} (h : reachG g L a n = some (g', L')) : costR L a n ≤ g ∧ g' = g - costR L a n ∧ L' = memR L a n := by
  unfold reachG at h
  split at h
  · cases h; exact ⟨by assumption, rfl, rfl⟩
  · cases h
/-- A frame in which memory was reached may be. -/
theorem okF_reach {f : FrV} {L L' : FrL} {a n g : Nat} {c s m i b : Value} (h : okF f L) (hr : reachG f.gas L a n = some (g, L')) : okF (f.rowsG g c s m i b) L' := by
  obtain ⟨hc, rfl, rfl⟩ := reachG_some hr
  have hE := memV_le h.2.2.2.1.2.1 h.1.2.2 hc
  obtain ⟨⟨h1, h2, h3⟩, h4, h5, h6, h7⟩ := h
  refine ⟨⟨h1, h2, by show f.gas - _ ≤ _; omega⟩, h4, h5, ?_, h7⟩
  obtain ⟨k1, k2, k3⟩ := h6
  have h5 : (memR L a n).ms.length = L.ms.length + (upW (endV a n) - L.ms.length) := by unfold memR FrL.setM; simp
  unfold upW at h5
  exact ⟨k1, by omega, by omega⟩
attribute [local irreducible] SL.inP wordI shq
/-- All that is reached. -/
def BReachesK (b : Nat) (f : FrV) (L : FrL) (A : AkV) (c : ClV) (a1 n1 a2 n2 : Nat) (rest : Fs) : Out := fun x fs' => match reachG f.gas L a1 n1 with
  | none => x = .panicked offC ∧ fs' = rest
  | some (g1, L1) => match reachG g1 L1 a2 n2 with
    | none => x = .panicked offC ∧ fs' = rest
    | some (g2, L2) => ∃ cc s m i b5 gs' lv gl, x = .returned (.tuple #[]) ∧ FrO (f.rowsG g2 cc s m i b5) L2 gs' ∧ bM ((L1.ms.drop a1).take n1) lv gl ∧ fs' = (b, bgO (f.rowsG g2 cc s m i b5) A { c with inp := lv, pl := if n2 = 0 then 0 else a2, n := n2 }) :: (gs' ++ (gl ++ rest))
section bk
variable {b : Nat} {f : FrV} {L L1 L2 : FrL} {A : AkV} {c : ClV} {a1 n1 a2 n2 g1 g2 : Nat} {rest fs' : Fs} {x : Ending}
theorem BReachesK.no1 (h : reachG f.gas L a1 n1 = none) : BReachesK b f L A c a1 n1 a2 n2 rest (.panicked offC) rest := by
  unfold BReachesK; rw [h]; exact ⟨rfl, rfl⟩
theorem BReachesK.no2 (h : reachG f.gas L a1 n1 = some (g1, L1)) (h2 : reachG g1 L1 a2 n2 = none) : BReachesK b f L A c a1 n1 a2 n2 rest (.panicked offC) rest := by
  unfold BReachesK; rw [h]; dsimp only; rw [h2]; exact ⟨rfl, rfl⟩
theorem BReachesK.mk (h : reachG f.gas L a1 n1 = some (g1, L1)) (h2 : reachG g1 L1 a2 n2 = some (g2, L2)) (hk : ∃ cc s m i b5 gs' lv gl, x = .returned (.tuple #[]) ∧ FrO (f.rowsG g2 cc s m i b5) L2 gs' ∧ bM ((L1.ms.drop a1).take n1) lv gl ∧ fs' = (b, bgO (f.rowsG g2 cc s m i b5) A { c with inp := lv, pl := if n2 = 0 then 0 else a2, n := n2 }) :: (gs' ++ (gl ++ rest))) : BReachesK b f L A c a1 n1 a2 n2 rest x fs' := by
  unfold BReachesK; rw [h]; dsimp only; rw [h2]; exact hk
end bk
theorem BReachK.plain {w0 : World} {b : Nat} {f : FrV} {L : FrL} {A : AkV} {c : ClV} {a n : Nat} {rest : Fs} : (BReachK w0 b f L A c a n rest).plain := fun fs h => by
  unfold BReachK at h
  cases hR : reachR f L a n with
  | none => rw [hR] at h; cases h.1
  | some x => rw [hR] at h; obtain ⟨_, _, _, _, _, _, _, _, h, _⟩ := h; cases h
theorem breaches_calls (w0 : World) (b : Nat) (f : FrV) (L : FrL) (A : AkV) (c : ClV) (ws : List Nat) (hM : ∀ x ∈ ws, x < M256) (i j : Nat) (hqi : (shq A.op).2.2.2.1 = (i : Int)) (hqj : (shq A.op).2.2.2.2.1 = (j : Int)) (hi : i + 1 < ws.length) (hj : j + 1 < ws.length) (hll : ws.length ≤ 100) (hF : okF f L) (gs rest : Fs) (hfr : FrA w0 f L gs) (w : World) (hv : RowAt w0 4 A.ws ws.length (wcs ws)) (hs : St w0 [] ((b, bgO f A c) :: (gs ++ rest)) w) :
    Calls Tryz.prog 58 #[.pointer (some ⟨b, 0, none⟩)] w (fun x w' => ∃ fs', BReachesK b f L A c (wordI ws (i : Int)) (wordI ws ((i : Int) + 1)) (wordI ws (j : Int)) (wordI ws ((j : Int) + 1)) rest x fs' ∧ St w0 [] fs' w') := by
  obtain ⟨cop, cdst, cself, cfrm, cval, cmv, cgas, cinp, ccode, cpl, cn, cstat⟩ := c
  have hs17 : ∀ {f c E fr}, Rd Tryz.prog 3 (.cells (bga f A c) E fr) 17 (.int .i64 (i : Int)) := fun {f c E fr} => by have h := bg_rd17 (P := Tryz.prog) (T := 3) (E := E) (fr := fr) (A := A) (f := f) (c := c); rw [hqi] at h; exact h
  have hs18 : ∀ {f c E fr}, Rd Tryz.prog 3 (.cells (bga f A c) E fr) 18 (.int .i64 (j : Int)) := fun {f c E fr} => by have h := bg_rd18 (P := Tryz.prog) (T := 3) (E := E) (fr := fr) (A := A) (f := f) (c := c); rw [hqj] at h; exact h
  refine calls_anyO (calls_inlineP (K := anyO (BReachesK b f L A ⟨cop, cdst, cself, cfrm, cval, cmv, cgas, cinp, ccode, cpl, cn, cstat⟩ (wordI ws (i : Int)) (wordI ws ((i : Int) + 1)) (wordI ws (j : Int)) (wordI ws ((j : Int) + 1)) rest)) (args := [_]) Tryz.func58 rfl Tryz.ntmps58 rfl ?_ hs)
  (refine sRz ?_; refine vMz ?_; refine vMz ?_; refine vMz ?_; refine vNz ?_; refine vFz ?_; refine vFz ?_; refine ldz rfl .head hs17 ?_)
  refine LW.callP (K := BReachK w0 b f L A _ (wordI ws (i : Int)) (wordI ws ((i : Int) + 1)) rest) rfl rfl inferInstance (by (exact .cons rfl (.cons rfl .nil))) rfl BReachK.plain (fun w' hst => breach_calls w0 b f L A _ ws hM i hi hll hF gs rest hfr w' hv hst) ?_ ?_
  · intro v fs' hK
    unfold BReachK at hK
    rw [reachR_G] at hK
    cases hR : reachG f.gas L (wordI ws (i : Int)) (wordI ws ((i : Int) + 1)) with
    | none => rw [hR] at hK; cases hK.1
    | some x =>
      obtain ⟨g1, L1⟩ := x
      rw [hR] at hK
      obtain ⟨cc, s1, m1, i1, b1, gs1, lv, gl, h1, hfr1, hlv, rfl⟩ := hK
      cases h1
      have hlv' := hlv
      unfold bM at hlv'
      obtain ⟨q1, k1, rfl⟩ := hlv'.form
      have hF1 := okF_reach (c := cc) (s := s1) (m := m1) (i := i1) (b := b1) hF hR
      (refine vMz ?_; refine vEz ?_; refine vEz ?_; refine vEz ?_; refine vNz ?_; refine vFz ?_; refine vFz ?_; refine LW.store rfl rfl .head bg_wr36 ?_; refine nNz ?_; refine CW.region ?_; refine vMz ?_; refine vMz ?_; refine vMz ?_; refine vMz ?_; refine vNz ?_; refine vFz ?_; refine vFz ?_; refine ldz rfl .head hs18 ?_)
      refine LW.callP (K := BReachK w0 b (f.rowsG g1 cc s1 m1 i1 b1) L1 A _ (wordI ws (j : Int)) (wordI ws ((j : Int) + 1)) (gl ++ rest)) rfl rfl inferInstance (by (exact .cons rfl (.cons rfl .nil))) rfl BReachK.plain (fun w' hst => breach_calls w0 b _ L1 A _ ws hM j hj hll hF1 gs1 (gl ++ rest) (.inr hfr1) w' hv hst) ?_ ?_
      · intro v fs' hK
        unfold BReachK at hK
        rw [reachR_G] at hK
        change match reachG g1 L1 (wordI ws (j : Int)) (wordI ws ((j : Int) + 1)) with | none => _ | some (g, L') => _ at hK
        cases hR2 : reachG g1 L1 (wordI ws (j : Int)) (wordI ws ((j : Int) + 1)) with
        | none => rw [hR2] at hK; cases hK.1
        | some x =>
          obtain ⟨g2, L2⟩ := x
          rw [hR2] at hK
          obtain ⟨cc2, s2, m2, i2, b2, gs2, lv2, gl2, h1, hfr2, hlv2, rfl⟩ := hK
          cases h1
          (refine vMz ?_; refine vEz ?_; refine vEz ?_; refine vEz ?_; refine vNz ?_; refine vFz ?_; refine vFz ?_; apply LW.store; rfl; rfl; apply SetAt.head; apply bg_wr38 (z := .int .u64 0); refine vNz ?_; refine vFz ?_; refine vFz ?_; apply LW.store; rfl; rfl; apply SetAt.head; apply bg_wr39 (z := .int .u64 0); apply LW.nil)
          refine inPI (.inr rfl) .nil rfl .nil rfl ⟨_, BReachesK.mk hR hR2 ⟨cc2, s2, m2, i2, b2, gs2, _, gl, rfl, hfr2, hlv, rfl⟩, ?_⟩
          exact subp_ix [[_], gs2, gl2, gl] (xs := [0, 1, 3]) (ys := [0, 1, 2, 3]) rest rfl
      · intro ch fs' hK
        unfold BReachK at hK
        rw [reachR_G] at hK
        change match reachG g1 L1 (wordI ws (j : Int)) (wordI ws ((j : Int) + 1)) with | none => _ | some (g, L') => _ at hK
        cases hR2 : reachG g1 L1 (wordI ws (j : Int)) (wordI ws ((j : Int) + 1)) with
        | none =>
          rw [hR2] at hK
          obtain ⟨h1, rfl⟩ := hK
          cases h1
          exact inPP .nil ⟨_, BReachesK.no2 hR hR2, subp_ix [gl] (xs := []) (ys := [0]) rest rfl⟩
        | some x => rw [hR2] at hK; obtain ⟨_, _, _, _, _, _, _, _, h, _⟩ := hK; cases h
  · intro ch fs' hK
    unfold BReachK at hK
    rw [reachR_G] at hK
    cases hR : reachG f.gas L (wordI ws (i : Int)) (wordI ws ((i : Int) + 1)) with
    | none =>
      rw [hR] at hK
      obtain ⟨h1, rfl⟩ := hK
      cases h1
      refine thenP ?_
      exact inPP .nil ⟨_, BReachesK.no1 hR, _, .refl _, .refl _⟩
    | some x => rw [hR] at hK; obtain ⟨_, _, _, _, _, _, _, _, h, _⟩ := hK; cases h
/-! ### What a call costs, and its gas -/
def lentG (g k w : Nat) : Nat := min w (g - k - (g - k) / 64)
def BCallsK (b : Nat) (f : FrV) (A : AkV) (c : ClV) (w : Nat) (rest : Fs) : Out := fun x fs' =>
  (f.gas < callV A.cold c.mv A.new ∧ x = .panicked offC ∧ fs' = rest) ∨
  (callV A.cold c.mv A.new ≤ f.gas ∧ x = .returned (.tuple #[]) ∧ fs' = (b, bgO (f.setGas (f.gas - callV A.cold c.mv A.new - lentG f.gas (callV A.cold c.mv A.new) w)) A { c with gas := lentG f.gas (callV A.cold c.mv A.new) w + (if c.mv then 230 else 0) }) :: rest)
theorem bcalls_calls (w0 : World) (b : Nat) (f : FrV) (A : AkV) (c : ClV) (ws : List Nat) (hM : ∀ x ∈ ws, x < M256) (h0 : 0 < ws.length) (hll : ws.length ≤ 100) (hg : f.gas ≤ 20000) (rest : Fs) (w : World) (hv : RowAt w0 4 A.ws ws.length (wcs ws)) (hs : St w0 [] ((b, bgO f A c) :: rest) w) :
    Calls Tryz.prog 55 #[.pointer (some ⟨b, 0, none⟩)] w (fun x w' => ∃ fs', BCallsK b f A c (ws.getD 0 0) rest x fs' ∧ St w0 [] fs' w') := by
  obtain ⟨code, pc, stk, mem, gas, self, frm, val, inp, back, stat⟩ := f
  obtain ⟨cop, cdst, cself, cfrm, cval, cmv, cgas, cinp, ccode, cpl, cn, cstat⟩ := c
  obtain ⟨kind, op, aws, dt, cold, vl, new⟩ := A
  dsimp only at hg hv
  obtain ⟨bw, off, cc, cs, E, fr, heq, hbw, hx⟩ := hv.pos (by omega)
  subst heq
  have hrd := word_rd (P := Tryz.prog) (T := 29) (E := E) (fr := fr) hx 0 (by omega)
  have hw0 : ws.getD 0 0 < M256 := by rw [List.getD_eq_getElem?_getD, List.getElem?_eq_getElem h0]; exact hM _ (List.getElem_mem h0)
  obtain ⟨x0, hx0⟩ : ∃ x, ws.getD 0 0 = x := ⟨_, rfl⟩
  rw [hx0] at hrd hw0 ⊢
  unfold BCallsK
  dsimp only
  obtain ⟨k, hk⟩ : ∃ k, callV cold cmv new = k := ⟨_, rfl⟩
  refine calls_anyO (calls_inlineP (K := anyO fun x fs' => (gas < callV cold cmv new ∧ x = .panicked offC ∧ fs' = rest) ∨ (callV cold cmv new ≤ gas ∧ x = .returned (.tuple #[]) ∧ fs' = (b, bgO (FrV.setGas ⟨code, pc, stk, mem, gas, self, frm, val, inp, back, stat⟩ (gas - callV cold cmv new - lentG gas (callV cold cmv new) x0)) ⟨kind, op, .slice (some ⟨bw, off, none⟩) ws.length cc, dt, cold, vl, new⟩ ⟨cop, cdst, cself, cfrm, cval, cmv, lentG gas (callV cold cmv new) x0 + (if cmv then 230 else 0), cinp, ccode, cpl, cn, cstat⟩) :: rest)) (args := [_]) Tryz.func55 rfl Tryz.ntmps55 rfl ?_ hs)
  (refine CW.seq ?_; apply CW.pre; refine AnyW.any 18 mixed (by decide +kernel) ?_; (try simp only [tsOf_cons, tsOf_nil, tsOf_app]); refine dvz (.move rfl) ?_; refine dvz (.move rfl) ?_; refine dvz (.nilCheck rfl) ?_; refine dvz (.fieldAddr rfl rfl) ?_; refine dvz (.fieldAddr rfl rfl) ?_; apply DW.loadO; rfl; rfl; rfl; exact WantT.none; rfl; apply TRead.head; exact ancB_nil; exact bg_rd23; refine dvz (.move rfl) ?_; refine dvz (.nilCheck rfl) ?_; refine dvz (.fieldAddr rfl rfl) ?_; refine dvz (.fieldAddr rfl rfl) ?_; apply DW.loadO; rfl; rfl; rfl; exact WantT.none; rfl; apply TRead.head; exact ancB_nil; exact bg_rd34; refine dvz (.move rfl) ?_; refine dvz (.nilCheck rfl) ?_; refine dvz (.fieldAddr rfl rfl) ?_; refine dvz (.fieldAddr rfl rfl) ?_; apply DW.loadO; rfl; rfl; rfl; exact WantT.none; rfl; apply TRead.head; exact ancB_nil; exact bg_rd25; apply DW.v0; rfl; rfl; rfl; exact WantT.none; rfl; apply ValP.buildT; infer_instance; infer_instance; apply PartsOk.cons; rfl; apply PartsOk.cons; rfl; apply PartsOk.cons; rfl; exact PartsOk.nil; rfl; simp only [fillP, wrCells, Value.cells, List.getElem?_cons_zero, List.getElem?_cons_succ, List.toList_toArray, List.setIfInBounds_toArray, List.set_cons_succ, List.set_cons_zero, Nat.reduceAdd, Nat.zero_add]; rfl; apply DW.callE; rfl; rfl; rfl; exact WantT.none; rfl; infer_instance; exact .cons rfl .nil; rfl; exact ReadAll.nil; intro w _ _; exact Call_calls _ _ _ w; apply DW.nil; simp only [fsOf_cons, fsOf_nil, fsOf_app, fsOf_tsOf, fsOf_new])
  rw [hk]
  refine LW.callP (K := fun x fs' => (k ≤ gas ∧ x = .returned (.tuple #[]) ∧ fs' = (b, bgO (FrV.setGas ⟨code, pc, stk, mem, gas, self, frm, val, inp, back, stat⟩ (gas - k)) ⟨kind, op, .slice (some ⟨bw, off, none⟩) ws.length cc, dt, cold, vl, new⟩ ⟨cop, cdst, cself, cfrm, cval, cmv, cgas, cinp, ccode, cpl, cn, cstat⟩) :: rest) ∨ (gas < k ∧ x = .panicked offC ∧ fs' = rest)) rfl rfl inferInstance (by (exact .cons rfl (.cons rfl .nil))) rfl (fun fs h => by rcases h with ⟨_, h, _⟩ | ⟨_, h, _⟩ <;> cases h) (fun w' hst => bspend_calls w0 b ⟨code, pc, stk, mem, gas, self, frm, val, inp, back, stat⟩ _ _ k (by dsimp only; omega) rest w' hst) ?_ ?_
  · rintro v fs' (⟨hkg, h, rfl⟩ | ⟨_, h, _⟩)
    · cases h
      have hLend : ∀ w, Calls Tryz.prog 87 #[.int .u64 ((gas - k : Nat) : Int), wv x0] w (Ret w (.int .u64 ((lentG gas k x0 : Nat) : Int))) := fun w => Lend_calls (gas - k) x0 (by omega) hw0 w
      have hll2 : lentG gas k x0 ≤ gas - k := by unfold lentG; omega
      change LW _ _ _ _ _ ((b, bgO ⟨code, pc, stk, mem, gas - k, self, frm, val, inp, back, stat⟩ ⟨kind, op, .slice (some ⟨bw, off, none⟩) ws.length cc, dt, cold, vl, new⟩ ⟨cop, cdst, cself, cfrm, cval, cmv, cgas, cinp, ccode, cpl, cn, cstat⟩) :: rest)
      (refine nNz ?_; refine CW.seq ?_; apply CW.pre; refine AnyW.any 14 mixed (by decide +kernel) ?_; (try simp only [tsOf_cons, tsOf_nil, tsOf_app]); refine dvz (.move rfl) ?_; refine dvz (.move rfl) ?_; refine dvz (.nilCheck rfl) ?_; refine dvz (.fieldAddr rfl rfl) ?_; refine dvz (.fieldAddr rfl rfl) ?_; apply DW.loadO; rfl; rfl; rfl; exact WantT.none; rfl; apply TRead.head; exact ancB_nil; exact bg_rd4; refine dvz (.move rfl) ?_; refine dvz (.nilCheck rfl) ?_; refine dvz (.fieldAddr rfl rfl) ?_; refine dvz (.fieldAddr rfl rfl) ?_; apply DW.loadO; rfl; rfl; rfl; exact WantT.none; rfl; apply TRead.head; exact ancB_nil; exact bg_rd21; refine dvz (.indexAddrSL rfl rfl (by decide) (by omega)) ?_; apply DW.loadX; rfl; rfl; rfl; exact WantT.none; rfl; assumption; simp; assumption; apply DW.callE; rfl; rfl; rfl; exact WantT.none; rfl; infer_instance; exact .cons rfl (.cons rfl .nil); rfl; exact ReadAll.nil; intro w _ _; exact hLend w; apply DW.nil; simp only [fsOf_cons, fsOf_nil, fsOf_app, fsOf_tsOf, fsOf_new]; refine vNz ?_; refine vFz ?_; refine vFz ?_; apply LW.store; rfl; rfl; apply SetAt.head; apply bg_wr35 (z := .int .u64 0); refine nSz ?_; refine vMz ?_; refine vMz ?_; refine vNz ?_; refine vFz ?_; refine vFz ?_; refine ldz rfl .head bg_rd35 ?_)
      refine LW.callP (K := fun x fs' => (lentG gas k x0 ≤ gas - k ∧ x = .returned (.tuple #[]) ∧ fs' = (b, bgO (FrV.setGas ⟨code, pc, stk, mem, gas - k, self, frm, val, inp, back, stat⟩ (gas - k - lentG gas k x0)) ⟨kind, op, .slice (some ⟨bw, off, none⟩) ws.length cc, dt, cold, vl, new⟩ ⟨cop, cdst, cself, cfrm, cval, cmv, lentG gas k x0, cinp, ccode, cpl, cn, cstat⟩) :: rest) ∨ (gas - k < lentG gas k x0 ∧ x = .panicked offC ∧ fs' = rest)) rfl rfl inferInstance (by (exact .cons rfl (.cons rfl .nil))) rfl (fun fs h => by rcases h with ⟨_, h, _⟩ | ⟨_, h, _⟩ <;> cases h) (fun w' hst => bspend_calls w0 b ⟨code, pc, stk, mem, gas - k, self, frm, val, inp, back, stat⟩ ⟨kind, op, .slice (some ⟨bw, off, none⟩) ws.length cc, dt, cold, vl, new⟩ ⟨cop, cdst, cself, cfrm, cval, cmv, lentG gas k x0, cinp, ccode, cpl, cn, cstat⟩ (lentG gas k x0) (by dsimp only; omega) rest w' hst) ?_ ?_
      · rintro v fs' (⟨_, h, rfl⟩ | ⟨_, h, _⟩)
        · cases h
          change LW _ _ _ _ _ ((b, bgO ⟨code, pc, stk, mem, gas - k - lentG gas k x0, self, frm, val, inp, back, stat⟩ ⟨kind, op, .slice (some ⟨bw, off, none⟩) ws.length cc, dt, cold, vl, new⟩ ⟨cop, cdst, cself, cfrm, cval, cmv, lentG gas k x0, cinp, ccode, cpl, cn, cstat⟩) :: rest)
          cases cmv with
          | true =>
            have hmod : (lentG gas k x0 + 230) % 18446744073709551616 = lentG gas k x0 + 230 := Nat.mod_eq_of_lt (by omega)
            (refine nSz ?_; refine vMz ?_; refine vNz ?_; refine vFz ?_; refine vFz ?_; refine ldz rfl .head bg_rd34 ?_; refine nNz ?_; refine cTz ?_; refine CW.region ?_; refine vMz ?_; refine vNz ?_; refine vFz ?_; refine vFz ?_; refine ldz rfl .head bg_rd35 ?_; refine lvz (.addNL rfl rfl (by decide)) ?_; refine vNz ?_; refine vFz ?_; refine vFz ?_; apply LW.store; rfl; rfl; apply SetAt.head; apply bg_wr35 (z := .int .u64 0); apply LW.nil)
            rw [hmod]
            exact inPI (.inr rfl) .nil rfl .nil rfl ⟨_, .inr ⟨hkg, rfl, rfl⟩, _, .refl _, .refl _⟩
          | false =>
            (refine nSz ?_; refine vMz ?_; refine vNz ?_; refine vFz ?_; refine vFz ?_; refine ldz rfl .head bg_rd34 ?_; refine nNz ?_; refine cFz ?_; refine CW.skip ?_)
            exact inPI (.inr rfl) .nil rfl .nil rfl ⟨_, .inr ⟨hkg, rfl, rfl⟩, _, .refl _, .refl _⟩
        · cases h
      · rintro ch fs' (⟨_, h, _⟩ | ⟨hkg, h, rfl⟩)
        · cases h
        · omega
    · cases h
  · rintro ch fs' (⟨_, h, _⟩ | ⟨hkg, h, rfl⟩)
    · cases h
    · cases h
      refine thenP ?_
      exact inPP .nil ⟨_, .inl ⟨hkg, rfl, rfl⟩, _, .refl _, .refl _⟩
end Go.Proofs.YtpgdnfgjbhdbpaaGreatDoor

/-
  What is begun of what a frame asks for: calls.
  Conditions: none.
-/
namespace Go.Proofs.YtpgdnfgjbhdbpaaGreatDoor
open Go Go.RowKit SL
set_option maxRecDepth 8000
set_option maxHeartbeats 4000000
set_option linter.unusedSimpArgs false
set_option linter.unusedVariables false
attribute [local irreducible] SL.CW SL.LW SL.DW Calls SL.Ret SL.RetG SL.beginQ SL.roundQ SL.rangeQ SL.inQ SL.RW SL.AnyW SL.thenQ SL.thenC SL.thenW SL.blkQ SL.finQ SL.ValP SL.NewP SL.SetP SL.CallP SL.Rd SL.Wr SL.Known
attribute [local irreducible] SL.inP SL.inD SL.outD wordI shq
theorem neNil {P : Program} {e : Env} {T ty : TypeId} {x : Operand} (hI : P.underlying T = some (.interface (P.methodsAt T))) (hx : e.ev x = some .nilIface) : ValP P e [] (.binOp .neq T x (.const .nilIface) ty) (.bool false) :=
  .bin hx rfl (fun w => by rw [Go.eqGuard_nil_constR]; rfl) fun w => by
    simp only [binOp, Sem.run_bind, run_equal_nil_nil w T hI]; rfl
theorem begin1_idle (w0 : World) (S : List Nat) (fs : Fs) (w : World) (hs : St w0 S fs w) :
    CallsDIn (FR none) 0 Tryz.prog 54 #[] .returning w (fun e u' w' => u' = .returning ∧ ∃ fs', (e = .returned (.tuple #[]) ∧ ∃ b1, fs' = b1 :: fs) ∧ St w0 S fs' w') := by
  refine callsD_cw (args := []) _ Tryz.func54 rfl Tryz.ntmps54 rfl (Rec1.two rfl rfl) ?_ hs
  rw [recV_ret]
  (refine sRz ?_; refine vMz ?_; apply LW.v0; rfl; rfl; apply ValP.assertNil; infer_instance; kernel_rfl; rfl; refine vMz ?_; refine vEz ?_; refine vEz ?_; apply LW.allocA; rfl; intro _; refine LW.store rfl rfl .head (.whole rfl rfl rfl) ?_; refine vAz ?_; refine nSz ?_; refine vMz ?_; refine lvz (.notF rfl (by with_reducible rfl)) ?_; refine vMz ?_; refine gTz ?_; refine vMz ?_; refine gTz ?_; apply LW.v0; rfl; rfl; apply neNil; kernel_rfl; rfl; refine pTz ?_; refine nNz ?_; refine cFz ?_; refine CW.skip ?_)
  exact inDI (.inr rfl) rfl .nil rfl ⟨rfl, _, rfl⟩
theorem begin1_off (w0 : World) (S : List Nat) (fs : Fs) (w : World) (hs : St w0 S fs w) :
    CallsDIn (FR none) 0 Tryz.prog 54 #[] (.panicking offC) w (fun e u' w' => u' = .panicking [{ v := offV, recovered := true }] ∧ ∃ fs', (e = .returned (.tuple #[]) ∧ ∃ b1, fs' = b1 :: fs) ∧ St w0 S fs' w') := by
  refine callsD_cw (args := []) _ Tryz.func54 rfl Tryz.ntmps54 rfl (Rec1.two rfl rfl) ?_ hs
  rw [recV_pan]
  (refine sRz ?_; refine vMz ?_; apply LW.v0; rfl; rfl; apply ValP.assertHit; kernel_rfl; rfl; refine vMz ?_; refine vEz ?_; refine vEz ?_; apply LW.allocA; rfl; intro _; refine LW.store rfl rfl .head (.whole rfl rfl rfl) ?_; refine vAz ?_; refine nSz ?_; refine vMz ?_; refine lvz (.notT rfl (by with_reducible rfl)) ?_; refine vMz ?_; refine gFz ?_; refine gFz ?_; refine pFz ?_; refine nNz ?_; refine cFz ?_; refine CW.skip ?_)
  exact inDI (.inr rfl) rfl .nil rfl ⟨rfl, _, rfl⟩
/-! ### Begin, where nothing is created -/
/-- The word at a place. -/
def beginG (f : FrV) (L : FrL) (A : AkV) (ws : List Nat) : Option (Nat × FrL × List UInt8 × ClV) :=
  let i := (shq A.op).2.2.2.1
  let j := (shq A.op).2.2.2.2.1
  match reachG f.gas L (wordI ws i) (wordI ws (i + 1)) with
  | none => none
  | some (g1, L1) => match reachG g1 L1 (wordI ws j) (wordI ws (j + 1)) with
    | none => none
    | some (g2, L2) =>
      let c := whoC f A.op ws
      let k := callV A.cold c.mv A.new
      if k ≤ g2 then some (g2 - k - lentG g2 k (ws.getD 0 0), L2, (L1.ms.drop (wordI ws i)).take (wordI ws (i + 1)),
        { c with pl := if wordI ws (j + 1) = 0 then 0 else wordI ws j, n := wordI ws (j + 1), gas := lentG g2 k (ws.getD 0 0) + (if c.mv then 230 else 0) }) else none
/-- What is begun. -/
def BegR (f : FrV) (R : Option (Nat × FrL × List UInt8 × ClV)) (v : Value) (gs : Fs) : Prop := match R with
  | none => v = .tuple #[frv zeroF, clv zeroC, .bool false] ∧ gs = []
  | some (g, L', l, c) => ∃ cc s m i b lv g1 g2, v = .tuple #[frv (f.rowsG g cc s m i b), clv { c with inp := lv }, .bool true] ∧ gs = g1 ++ g2 ∧ FrO (f.rowsG g cc s m i b) L' g1 ∧ bM l lv g2
section bl
variable {f : FrV} {L L1 L2 : FrL} {A : AkV} {ws : List Nat} {i j g1 g2 : Nat}
theorem beginG_no1 (hi : (shq A.op).2.2.2.1 = (i : Int)) (h1 : reachG f.gas L (wordI ws (i : Int)) (wordI ws ((i : Int) + 1)) = none) : beginG f L A ws = none := by
  unfold beginG
  dsimp only
  rw [hi, h1]
theorem beginG_no2 (hi : (shq A.op).2.2.2.1 = (i : Int)) (hj : (shq A.op).2.2.2.2.1 = (j : Int)) (h1 : reachG f.gas L (wordI ws (i : Int)) (wordI ws ((i : Int) + 1)) = some (g1, L1)) (h2 : reachG g1 L1 (wordI ws (j : Int)) (wordI ws ((j : Int) + 1)) = none) : beginG f L A ws = none := by
  unfold beginG
  dsimp only
  rw [hi, h1]
  dsimp only
  rw [hj, h2]
theorem beginG_no3 (hi : (shq A.op).2.2.2.1 = (i : Int)) (hj : (shq A.op).2.2.2.2.1 = (j : Int)) (h1 : reachG f.gas L (wordI ws (i : Int)) (wordI ws ((i : Int) + 1)) = some (g1, L1)) (h2 : reachG g1 L1 (wordI ws (j : Int)) (wordI ws ((j : Int) + 1)) = some (g2, L2)) (h3 : g2 < callV A.cold (whoC f A.op ws).mv A.new) : beginG f L A ws = none := by
  unfold beginG
  dsimp only
  rw [hi, h1]
  dsimp only
  rw [hj, h2]
  dsimp only
  rw [if_neg (by omega)]
theorem beginG_some (hi : (shq A.op).2.2.2.1 = (i : Int)) (hj : (shq A.op).2.2.2.2.1 = (j : Int)) (h1 : reachG f.gas L (wordI ws (i : Int)) (wordI ws ((i : Int) + 1)) = some (g1, L1)) (h2 : reachG g1 L1 (wordI ws (j : Int)) (wordI ws ((j : Int) + 1)) = some (g2, L2)) (h3 : callV A.cold (whoC f A.op ws).mv A.new ≤ g2) :
    beginG f L A ws = some (g2 - callV A.cold (whoC f A.op ws).mv A.new - lentG g2 (callV A.cold (whoC f A.op ws).mv A.new) (ws.getD 0 0), L2, (L1.ms.drop (wordI ws (i : Int))).take (wordI ws ((i : Int) + 1)),
      { whoC f A.op ws with pl := if wordI ws ((j : Int) + 1) = 0 then 0 else wordI ws (j : Int), n := wordI ws ((j : Int) + 1), gas := lentG g2 (callV A.cold (whoC f A.op ws).mv A.new) (ws.getD 0 0) + (if (whoC f A.op ws).mv then 230 else 0) }) := by
  unfold beginG
  dsimp only
  rw [hi, h1]
  dsimp only
  rw [hj, h2]
  dsimp only
  rw [if_pos h3]
end bl
theorem shq_ij {op n : Nat} (hne : op ≠ 245) (h1 : (shq op).2.2.2.2.2 = true) (h2 : (n : Int) = (shq op).1) : n ≤ 7 ∧ 0 < n ∧ ∃ i j : Nat, (shq op).2.2.2.1 = (i : Int) ∧ (shq op).2.2.2.2.1 = (j : Int) ∧ i + 1 < n ∧ j + 1 < n := by
  rcases shq_ok h1 with ⟨_, hs⟩ | ⟨_, hs⟩ | ⟨ho, _⟩
  · rw [hs] at h2 ⊢
    dsimp only at h2 ⊢
    exact ⟨by omega, by omega, 3, 5, rfl, rfl, by omega, by omega⟩
  · rw [hs] at h2 ⊢
    dsimp only at h2 ⊢
    exact ⟨by omega, by omega, 2, 4, rfl, rfl, by omega, by omega⟩
  · exact absurd ho hne
theorem cl_cells {c : ClV} (h1 : ∃ p n q, c.inp = .slice p n q) (h2 : ∃ p n q, c.code = .slice p n q) : (cla c).toList.all Value.oneCell' = true := by
  obtain ⟨_, _, _, h1⟩ := h1
  obtain ⟨_, _, _, h2⟩ := h2
  simp only [cla, clc, wc, List.cons_append, List.nil_append, List.all_cons, List.all_nil, h1, h2]; rfl
theorem cl_wrW {P : Program} {T E : TypeId} {c : ClV} {z : Value} {cs : Array Value} [InfoI P T 15 z] (h : cs.size = 15) (h1 : (cla c).toList.all Value.oneCell' = true) : Wr P T (.cells cs E (0, 0)) 0 (clv c) (.cells (cla c) E (0, 0)) := Wr.whole h rfl h1
section bk
variable {b : Nat} {f : FrV} {L : FrL} {A : AkV} {c : ClV} {a1 n1 a2 n2 : Nat} {rest fs' : Fs}
theorem BReachesK.plain : (BReachesK b f L A c a1 n1 a2 n2 rest).plain := fun fs h => by
  unfold BReachesK at h
  split at h
  · cases h.1
  · split at h
    · cases h.1
    · obtain ⟨_, _, _, _, _, _, _, _, h, _⟩ := h; cases h
theorem BReachesK.ret {v : Value} (h : BReachesK b f L A c a1 n1 a2 n2 rest (.returned v) fs') : ∃ g1 L1 g2 L2, reachG f.gas L a1 n1 = some (g1, L1) ∧ reachG g1 L1 a2 n2 = some (g2, L2) ∧ ∃ cc s m i b5 gs' lv gl, Ending.returned v = .returned (.tuple #[]) ∧ FrO (f.rowsG g2 cc s m i b5) L2 gs' ∧ bM ((L1.ms.drop a1).take n1) lv gl ∧ fs' = (b, bgO (f.rowsG g2 cc s m i b5) A { c with inp := lv, pl := if n2 = 0 then 0 else a2, n := n2 }) :: (gs' ++ (gl ++ rest)) := by
  unfold BReachesK at h
  split at h
  · cases h.1
  · rename_i h1
    split at h
    · cases h.1
    · rename_i h2
      exact ⟨_, _, _, _, h1, h2, h⟩
theorem BReachesK.pan {ch : List PanicEntry} (h : BReachesK b f L A c a1 n1 a2 n2 rest (.panicked ch) fs') : (reachG f.gas L a1 n1 = none ∨ ∃ g1 L1, reachG f.gas L a1 n1 = some (g1, L1) ∧ reachG g1 L1 a2 n2 = none) ∧ Ending.panicked ch = .panicked offC ∧ fs' = rest := by
  unfold BReachesK at h
  split at h
  · rename_i h1
    exact ⟨.inl h1, h⟩
  · rename_i h1
    split at h
    · rename_i h2
      exact ⟨.inr ⟨_, _, h1, h2⟩, h⟩
    · obtain ⟨_, _, _, _, _, _, _, _, h, _⟩ := h; cases h
end bk
theorem whoC_code (f : FrV) (op : Nat) (ws : List Nat) : ∃ p n q, (whoC f op ws).code = .slice p n q := by
  unfold whoC
  split <;> exact ⟨_, _, _, rfl⟩
theorem BeginC_calls (f : FrV) (L : FrL) (A : AkV) (ws : List Nat) (hM : ∀ x ∈ ws, x < M256) (hd : ∃ p n c, A.dt = .slice p n c) (hask : askB A.kind A.op ws.length = true) (hne : A.op ≠ 245) (hF : okF f L) (w : World) (hf : FrRows w f L) (hv : RowAt w 4 A.ws ws.length (wcs ws)) :
    Calls Tryz.prog 26 #[frv f, .agg (aska A.kind A.op A.ws A.dt), .agg #[.bool A.cold, .bool A.vl, .bool A.new]] w (RetG w [] (BegR f (beginG f L A ws))) := by
  have hst0 : St w [] [] w := ⟨Bel.refl _ _ _, (fun p h => by cases h), .nil⟩
  have hv0 := hv
  have hq0 := hask
  unfold askB at hq0
  rw [Bool.and_eq_true, Bool.and_eq_true, decide_eq_true_eq, decide_eq_true_eq] at hq0
  obtain ⟨hq1, hq2, hq3⟩ := hq0
  obtain ⟨kind, op, aws, dt, cold, vl, new⟩ := A
  obtain ⟨q, d, e, hd⟩ := hd
  dsimp only at hd hask hne hq1 hq2 hq3 hv ⊢
  subst hd
  obtain ⟨p, c, rfl, _, _⟩ := id hv.form
  have hzs := zero_sl
  have hsl := hf.sl
  have hSh : ∀ w, Calls Tryz.prog 53 #[.agg (aska kind op (.slice p ws.length c) (.slice q d e))] w (Ret w (.tuple #[.agg (shc op).toArray, .bool true])) := fun w => by
    have h := shapeOf_calls kind op ws.length c p q d e w
    rwa [hask] at h
  have hFc : ∀ w' {fs : Fs}, St w [] fs w' → Calls Tryz.prog 31 #[frv f] w' (Ret w' (.int .i64 0)) := fun w' fs hst => by have h := fCheck_calls f L w' (hf.st hst); rwa [if_pos hF] at h
  refine calls_inlineD (w0 := w) (S := []) (args := [_, _, _]) (R := RetG w [] (BegR f (beginG f L ⟨kind, op, .slice p ws.length c, .slice q d e, cold, vl, new⟩ ws))) Tryz.func26 rfl Tryz.ntmps26 rfl ?_ hst0
  (refine sRz ?_; apply LW.boxA; rfl; rfl; intro _; apply LW.boxA; rfl; rfl; intro _; apply LW.boxA; rfl; rfl; intro _; apply LW.allocA; rfl; intro _; apply LW.allocA; rfl; intro _; refine vAz ?_; refine nSz ?_; refine ldz rfl (.tail (.tail (.tail .head))) ask_rdW ?_; apply LW.callE; rfl; rfl; infer_instance; exact .cons rfl .nil; intro w _; exact hSh w; refine vMz ?_; refine vEz ?_; refine vEz ?_; apply LW.allocA; rfl; intro _; refine LW.store rfl rfl .head (.whole rfl rfl rfl) ?_; refine vAz ?_; refine nNz ?_; refine CW.seq ?_; refine sRz ?_; refine vMz ?_; refine lvz (.notT rfl (by with_reducible rfl)) ?_; refine vMz ?_; refine gTz ?_; refine ldz rfl (.tail (.tail (.tail (.tail (.tail .head))))) fr_rdW ?_; refine gTz ?_; apply LW.callE; rfl; rfl; infer_instance; exact .cons rfl .nil; intro w _; exact hFc w (by assumption); refine gTz ?_; refine lvz (.neF rfl rfl (by omega)) ?_; refine pFz ?_; refine nNz ?_; refine cFz ?_; refine CW.skip ?_; refine thenN ?_; refine sRz ?_; refine ldz rfl (.tail (.tail (.tail (.tail (.tail .head))))) fr_rdW ?_; refine ldz rfl .head sh_rdW ?_; refine ldz rfl (.tail (.tail (.tail (.tail .head)))) ask_rdW ?_; refine ldz rfl (.tail (.tail (.tail .head))) (Rd.whole rfl) ?_; apply LW.v0; rfl; rfl; apply ValP.buildT; infer_instance; infer_instance; apply PartsOk.cons; rfl; apply PartsOk.cons; rfl; apply PartsOk.cons; rfl; apply PartsOk.cons; rfl; exact PartsOk.nil; rfl; simp only [fillP, wrCells, fra, frc, bga, bgl, shc, aska, wc, zeroC, clc, Value.cells, List.getElem?_cons_zero, List.getElem?_cons_succ, List.toList_toArray, List.setIfInBounds_toArray, List.set_cons_succ, List.set_cons_zero, List.cons_append, List.nil_append, Nat.reduceAdd, Nat.zero_add]; rfl; apply LW.boxA; rfl; rfl; intro _; refine vAz ?_; refine nSz ?_)
  rename_i b3 b4 b5 b6 b7 b9 bB
  refine LW.subP (fs' := (bB, bgO f ⟨kind, op, .slice p ws.length c, .slice q d e, cold, vl, new⟩ zeroC) :: (b6, .cells (fra zeroF) 31 (0, 0)) :: (b7, .cells (cla zeroC) 33 (0, 0)) :: (b4, .cells (aska kind op (.slice p ws.length c) (.slice q d e)) 61 (0, 0)) :: []) ?_ ?_
  · exact subp_ix [[_], [_], [_], [_], [_], [_], [_]] (xs := [0, 3, 2, 5]) (ys := [0, 1, 2, 3, 4, 5, 6]) [] rfl
  apply LW.defer
  rfl
  rfl
  (apply LW.nil; refine thenM ?_; refine sRz ?_; refine vMz ?_; apply LW.v0; rfl; rfl; apply ValP.makeFunc; exact .cons rfl .nil; exact ArgsOk.nil; refine vAz ?_; refine nNz ?_; refine CW.seq ?_; refine sRz ?_; refine vFz ?_; refine ldz rfl (.tail (.tail (.tail .head))) ask_rd1 ?_; refine lvz (.eqF rfl rfl (by omega)) ?_; refine nNz ?_; refine cFz ?_; refine CW.skip ?_; refine thenN ?_; refine CW.seq ?_; refine sRz ?_; refine vMz ?_; apply LW.v0; rfl; rfl; apply ValP.makeFunc; exact .cons rfl .nil; exact ArgsOk.nil; refine vMz ?_; apply LW.v0; rfl; rfl; apply ValP.makeFunc; exact .cons rfl .nil; exact ArgsOk.nil; refine vMz ?_; apply LW.v0; rfl; rfl; apply ValP.buildA; apply PartsOk.cons; rfl; apply PartsOk.cons; rfl; apply PartsOk.cons; rfl; exact PartsOk.nil; rfl; simp only [fillC, wc, wrCells, Value.cells, List.toList_toArray, List.setIfInBounds_toArray, List.set_cons_succ, List.set_cons_zero, Nat.reduceAdd, Nat.reduceMul, Nat.zero_add, Nat.mul_one]; rfl; refine vMz ?_; refine nNz ?_; refine CW.block ?_)
  obtain ⟨hw7, hw0, i, j, hqi, hqj, hi, hj⟩ := shq_ij hne hq1 hq3
  apply CW.rounds 4
  apply RW.step
  (refine sRz ?_; refine lvz (.lssT rfl rfl (by omega)) ?_; refine nNz ?_; refine CW.seq ?_; refine cTz ?_; refine CW.skip ?_; refine thenN ?_; refine CW.seq ?_; refine CW.block ?_; refine sRz ?_; refine lvz (.indexAL rfl rfl rfl rfl rfl) ?_; refine vAz ?_; refine nNz ?_; refine CW.region ?_; refine vMz ?_)
  refine LW.callP (K := fun x fs' => x = .returned (.tuple #[]) ∧ fs' = (bB, bgO f ⟨kind, op, .slice p ws.length c, .slice q d e, cold, vl, new⟩ (whoC f op ws)) :: ((b6, .cells (fra zeroF) 31 (0, 0)) :: (b7, .cells (cla zeroC) 33 (0, 0)) :: (b4, .cells (aska kind op (.slice p ws.length c) (.slice q d e)) 61 (0, 0)) :: [])) rfl rfl inferInstance (by (exact ArgsOk.nil)) rfl (fun fs h => by cases h.1) (fun w' hst => who_calls w bB f ⟨kind, op, .slice p ws.length c, .slice q d e, cold, vl, new⟩ ws hM hq3.symm hq1 _ w' hv hst) ?_ ?_
  · rintro v fs' ⟨h, rfl⟩
    cases h
    (apply LW.nil; refine blkN ?_; refine thenN ?_; refine CW.region ?_; refine lvz (.addI rfl rfl (by omega) (by omega)) ?_; refine vMz ?_; apply LW.nil; refine thenL ?_)
    apply RW.step
    (refine sRz ?_; refine lvz (.lssT rfl rfl (by omega)) ?_; refine nNz ?_; refine CW.seq ?_; refine cTz ?_; refine CW.skip ?_; refine thenN ?_; refine CW.seq ?_; refine CW.block ?_; refine sRz ?_; refine lvz (.indexAL rfl rfl rfl rfl rfl) ?_; refine vAz ?_; refine nNz ?_; refine CW.region ?_; refine vMz ?_)
    refine LW.callP (K := BReachesK bB f L ⟨kind, op, .slice p ws.length c, .slice q d e, cold, vl, new⟩ (whoC f op ws) (wordI ws (i : Int)) (wordI ws ((i : Int) + 1)) (wordI ws (j : Int)) (wordI ws ((j : Int) + 1)) ((b6, .cells (fra zeroF) 31 (0, 0)) :: (b7, .cells (cla zeroC) 33 (0, 0)) :: (b4, .cells (aska kind op (.slice p ws.length c) (.slice q d e)) 61 (0, 0)) :: [])) rfl rfl inferInstance (by (exact ArgsOk.nil)) rfl BReachesK.plain (fun w' hst => breaches_calls w bB f L ⟨kind, op, .slice p ws.length c, .slice q d e, cold, vl, new⟩ _ ws hM i j hqi hqj hi hj (by omega) hF [] _ (.inl ⟨rfl, hf⟩) w' hv hst) ?_ ?_
    · intro v fs' hK
      obtain ⟨g1, L1, g2, L2, hR1, hR2, cc, s1, m1, i1, x1, gs1, lv, gl, h1, hfr, hlv, rfl⟩ := hK.ret
      cases h1
      have hF1 := okF_reach (c := cc) (s := s1) (m := m1) (i := i1) (b := x1) (okF_reach (c := cc) (s := s1) (m := m1) (i := i1) (b := x1) hF hR1) hR2
      (apply LW.nil; refine blkN ?_; refine thenN ?_; refine CW.region ?_; refine lvz (.addI rfl rfl (by omega) (by omega)) ?_; refine vMz ?_; apply LW.nil; refine thenL ?_)
      apply RW.step
      (refine sRz ?_; refine lvz (.lssT rfl rfl (by omega)) ?_; refine nNz ?_; refine CW.seq ?_; refine cTz ?_; refine CW.skip ?_; refine thenN ?_; refine CW.seq ?_; refine CW.block ?_; refine sRz ?_; refine lvz (.indexAL rfl rfl rfl rfl rfl) ?_; refine vAz ?_; refine nNz ?_; refine CW.region ?_; refine vMz ?_)
      refine LW.callP (K := BCallsK bB (f.rowsG g2 cc s1 m1 i1 x1) ⟨kind, op, .slice p ws.length c, .slice q d e, cold, vl, new⟩ { whoC f op ws with inp := lv, pl := if wordI ws ((j : Int) + 1) = 0 then 0 else wordI ws (j : Int), n := wordI ws ((j : Int) + 1) } (ws.getD 0 0) (gs1 ++ (gl ++ ((b6, .cells (fra zeroF) 31 (0, 0)) :: (b7, .cells (cla zeroC) 33 (0, 0)) :: (b4, .cells (aska kind op (.slice p ws.length c) (.slice q d e)) 61 (0, 0)) :: [])))) rfl rfl inferInstance (by (exact ArgsOk.nil)) rfl (fun fs h => by rcases h with ⟨_, h, _⟩ | ⟨_, h, _⟩ <;> cases h) (fun w' hst => bcalls_calls w bB (f.rowsG g2 cc s1 m1 i1 x1) ⟨kind, op, .slice p ws.length c, .slice q d e, cold, vl, new⟩ _ ws hM hw0 (by omega) hF1.1.2.2 _ w' hv hst) ?_ ?_
      · rintro v fs' (⟨_, h, _⟩ | ⟨hk, h, rfl⟩)
        · cases h
        · cases h
          have hBeg := beginG_some (f := f) (L := L) (A := ⟨kind, op, .slice p ws.length c, .slice q d e, cold, vl, new⟩) (ws := ws) hqi hqj hR1 hR2 hk
          rw [hBeg]
          (apply LW.nil; refine blkN ?_; refine thenN ?_; refine CW.region ?_; refine lvz (.addI rfl rfl (by omega) (by omega)) ?_; refine vMz ?_; apply LW.nil; refine thenL ?_)
          apply RW.step
          (refine sRz ?_; refine lvz (.lssF rfl rfl (by omega)) ?_; refine nNz ?_; refine CW.seq ?_; refine cFz ?_; refine CW.exit ?_; refine thenE ?_; refine thenE ?_; refine blkE rfl ?_; refine thenN ?_; refine CW.seq ?_)
          have hfr3 : FrO ((f.rowsG g2 cc s1 m1 i1 x1).setGas (g2 - callV cold (whoC f op ws).mv new - lentG g2 (callV cold (whoC f op ws).mv new) (ws.getD 0 0))) L2 gs1 := hfr
          have hfa : FrA w ((f.rowsG g2 cc s1 m1 i1 x1).setGas (g2 - callV cold (whoC f op ws).mv new - lentG g2 (callV cold (whoC f op ws).mv new) (ws.getD 0 0))) L2 gs1 := .inr hfr3
          obtain ⟨us, hbl, hin, hrows⟩ := hfa.lie
          have hlv' := hlv
          unfold bM at hlv'
          obtain ⟨q4, k4, rfl⟩ := hlv'.form
          apply CW.pre
          (refine AnyW.anyM [(4, CopyR ((f.rowsG g2 cc s1 m1 i1 x1).setGas (g2 - callV cold (whoC f op ws).mv new - lentG g2 (callV cold (whoC f op ws).mv new) (ws.getD 0 0))) L2)] 10 mixed (by decide +kernel) ?_)
          ((try simp only [tsOf_cons, tsOf_nil, tsOf_app]); refine dvz (.move rfl) ?_; refine dvz (.nilCheck rfl) ?_; refine dvz (.fieldAddr rfl rfl) ?_; apply DW.loadO; rfl; rfl; rfl; exact WantT.none; rfl; apply TRead.head; exact ancB_nil; exact bg_rdF)
          refine DW.manyA us rfl rfl rfl (by (exact WantT.none)) rfl inferInstance (by (exact .cons rfl .nil)) (by rw [List.flatMap_cons]; exact (List.append_nil _).trans hbl) (fun p hp => ?_) (fun w' hb hu => callCopied_calls _ L2 hF1.short w' (hrows w' hb hu)) ?_
          · rcases hin p hp with h | h
            · exact .inl ⟨[], [], by simp [tsOf, h], anc_nil⟩
            · exact .inr ⟨h, by simp⟩
          rintro vT gT ⟨c4, s4, m4, i4, x4, rfl, hfr4⟩
          have hsl4 := hfr4.sl
          have hcl4 := cl_cells (c := { whoC f op ws with pl := if wordI ws ((j : Int) + 1) = 0 then 0 else wordI ws (j : Int), n := wordI ws ((j : Int) + 1), gas := lentG g2 (callV cold (whoC f op ws).mv new) (ws.getD 0 0) + (if (whoC f op ws).mv then 230 else 0), inp := .slice q4 (List.take (wordI ws ((i : Int) + 1)) (List.drop (wordI ws (i : Int)) L1.ms)).length k4 }) ⟨_, _, _, rfl⟩ (whoC_code f op ws)
          simp only [markAll_app, markAll_cons, markAll_tsOf, markAll_nil]
          ((try simp only [tsOf_cons, tsOf_nil, tsOf_app]); refine dvz (.move rfl) ?_; refine dvz (.nilCheck rfl) ?_; refine dvz (.fieldAddr rfl rfl) ?_; apply DW.loadO; rfl; rfl; rfl; exact WantT.none; rfl; apply TRead.app; apply TRead.head; exact ancB_nil; exact bg_rdC; apply DW.store; rfl; rfl; exact WantT.none; rfl; rfl; apply TSet.app; apply TSet.tail; apply TSet.app; apply TSet.app; apply TSet.head; exact ancB_nil; kernel_rfl; apply fr_wrW; rfl; assumption; apply DW.nil; simp only [fsOf_cons, fsOf_nil, fsOf_app, fsOf_tsOf, fsOf_new, fsOf_tag])
          try simp only [fsOf_mark, fsOf_cons, fsOf_nil, fsOf_app, fsOf_tsOf, fsOf_new, fsOf_tag, List.append_eq, List.nil_append]
          (apply LW.store; rfl; rfl; apply SetAt.app; apply SetAt.tail; apply SetAt.app; apply SetAt.app; apply SetAt.tail; apply SetAt.head; apply cl_wrW; rfl; exact hcl4; refine vAz ?_; refine nNz ?_; refine CW.ret ?_)
          refine outDI (.inl rfl) rfl fun a w2 s2 => ?_
          refine leaves_clo (K := fun e fs' => e = .returned (.tuple #[]) ∧ ∃ b1, fs' = b1 :: _) inferInstance (fun h => by cases h) (begin1_idle w [] _ w2 s2.st) (fun fs h => by cases h.1) ?_ ?_
          · rintro v fs' w' ⟨_, b1, rfl⟩ hst
            refine leaves_end (vs := [frv (f.rowsG (g2 - callV cold (whoC f op ws).mv new - lentG g2 (callV cold (whoC f op ws).mv new) (ws.getD 0 0)) c4 s4 m4 i4 x4), clv { whoC f op ws with pl := if wordI ws ((j : Int) + 1) = 0 then 0 else wordI ws (j : Int), n := wordI ws ((j : Int) + 1), gas := lentG g2 (callV cold (whoC f op ws).mv new) (ws.getD 0 0) + (if (whoC f op ws).mv then 230 else 0), inp := .slice q4 (List.take (wordI ws ((i : Int) + 1)) (List.drop (wordI ws (i : Int)) L1.ms)).length k4 }, .bool true]) (w := w') rfl s2.env hst ?_ rfl ?_
            · (apply ResL.cons; apply Res.cell; rfl; apply Known.at; apply FsAt.tail; apply FsAt.app; apply FsAt.tail; apply FsAt.app; apply FsAt.app; apply FsAt.head; exact fr_rdW; apply ResL.cons; apply Res.cell; rfl; apply Known.at; apply FsAt.tail; apply FsAt.app; apply FsAt.tail; apply FsAt.app; apply FsAt.app; apply FsAt.tail; apply FsAt.head; exact cl_rdW; apply ResL.cons; exact Res.tmp rfl; exact ResL.nil)
            · have h9 := st_sub (gs := gT ++ gl) hst (.cons _ (.append_left (.cons _ (List.Sublist.trans (List.sublist_append_left gl _) (List.sublist_append_right gs1 _))) _))
              unfold RetG
              exact ⟨_, gT ++ gl, rfl, ⟨c4, s4, m4, i4, x4, _, gT, gl, rfl, rfl, hfr4, hlv⟩, hst.bel, h9.own, h9.nd⟩
          · rintro ch fs' w' ⟨h, _⟩
            cases h
      · rintro ch fs' (⟨hk, h, rfl⟩ | ⟨_, h, _⟩)
        · cases h
          have hBeg := beginG_no3 (f := f) (L := L) (A := ⟨kind, op, .slice p ws.length c, .slice q d e, cold, vl, new⟩) (ws := ws) hqi hqj hR1 hR2 hk
          rw [hBeg]
          (repeat (first | refine thenP ?_ | refine blkP ?_))
          refine outDP rfl fun a w2 s2 => ?_
          refine leaves_clo (K := fun e fs' => e = .returned (.tuple #[]) ∧ ∃ b1, fs' = b1 :: _) inferInstance (fun h => by cases h) (begin1_off w [] _ w2 s2.st) (fun fs h => by cases h.1) ?_ ?_
          · rintro v fs' w' ⟨_, b1, rfl⟩ hst
            refine leaves_end (vs := [frv zeroF, clv zeroC, .bool false]) (w := w') rfl s2.env hst ?_ rfl ?_
            · (apply ResL.cons; apply Res.cell; rfl; apply Known.at; apply FsAt.tail; apply FsAt.app; apply FsAt.app; apply FsAt.head; exact fr_rdW; apply ResL.cons; apply Res.cell; rfl; apply Known.at; apply FsAt.tail; apply FsAt.app; apply FsAt.app; apply FsAt.tail; apply FsAt.head; exact cl_rdW; apply ResL.cons; exact Res.tmp rfl; exact ResL.nil)
            · unfold RetG; exact ⟨_, [], rfl, ⟨rfl, rfl⟩, hst.bel, (fun p hp => by cases hp), .nil⟩
          · rintro ch fs' w' ⟨h, _⟩
            cases h
        · cases h
    · intro ch fs' hK
      obtain ⟨hno, h1, rfl⟩ := hK.pan
      cases h1
      have hBeg : beginG f L ⟨kind, op, .slice p ws.length c, .slice q d e, cold, vl, new⟩ ws = none := by
        rcases hno with h | ⟨g1, L1, h1, h2⟩
        · exact beginG_no1 hqi h
        · exact beginG_no2 hqi hqj h1 h2
      rw [hBeg]
      (repeat (first | refine thenP ?_ | refine blkP ?_))
      refine outDP rfl fun a w2 s2 => ?_
      refine leaves_clo (K := fun e fs' => e = .returned (.tuple #[]) ∧ ∃ b1, fs' = b1 :: _) inferInstance (fun h => by cases h) (begin1_off w [] _ w2 s2.st) (fun fs h => by cases h.1) ?_ ?_
      · rintro v fs' w' ⟨_, b1, rfl⟩ hst
        refine leaves_end (vs := [frv zeroF, clv zeroC, .bool false]) (w := w') rfl s2.env hst ?_ rfl ?_
        · (apply ResL.cons; apply Res.cell; rfl; apply Known.at; apply FsAt.tail; apply FsAt.head; exact fr_rdW; apply ResL.cons; apply Res.cell; rfl; apply Known.at; apply FsAt.tail; apply FsAt.tail; apply FsAt.head; exact cl_rdW; apply ResL.cons; exact Res.tmp rfl; exact ResL.nil)
        · unfold RetG; exact ⟨_, [], rfl, ⟨rfl, rfl⟩, hst.bel, (fun p hp => by cases hp), .nil⟩
      · rintro ch fs' w' ⟨h, _⟩
        cases h
  · rintro ch fs' ⟨h, _⟩
    cases h
end Go.Proofs.YtpgdnfgjbhdbpaaGreatDoor

/-
  Does the layer of calls do anything?
  Conditions: none.
-/
namespace Go.Proofs.YtpgdnfgjbhdbpaaGreatDoor
open Go Go.RowKit SL
set_option maxRecDepth 8000
set_option maxHeartbeats 4000000
set_option linter.unusedSimpArgs false
set_option linter.unusedVariables false
attribute [local irreducible] SL.CW SL.LW SL.DW Calls SL.Ret SL.RetG SL.beginQ SL.roundQ SL.rangeQ SL.inQ SL.RW SL.AnyW SL.thenQ SL.thenC SL.thenW SL.blkQ SL.finQ SL.ValP SL.NewP SL.SetP SL.CallP SL.Rd SL.Wr SL.Known
attribute [local irreducible] shq
def plF : FrV := ⟨.slice none 0 0, 0, .slice none 0 0, .slice none 0 0, 5000, 20, 0, 0, .slice none 0 0, .slice none 0 0, false⟩
def plW : List Nat := [100, 21, 0, 0, 0, 0, 32]
def PlainK (v : Value) (gs : Fs) : Prop := ∃ b, v = .tuple #[frv plF, .agg (aska 2 241 (.slice (some ⟨b, 0, none⟩) 7 7) (.slice none 0 0))] ∧ gs = [(b, .cells (wcs plW).toArray 29 (0, 0))]
theorem lplain_calls (w : World) : Calls Tryz.prog 37 #[.int .u64 100, .int .u64 0] w (RetG w [] PlainK) := by
  refine enter (args := [_, _]) _ [] [] Tryz.func37 rfl Tryz.ntmps37 rfl (by simp) .nil ?_
  (refine sRz ?_; apply LW.allocA; rfl; intro _; apply LW.allocA; rfl; intro _; refine nSz ?_; apply LW.v0; rfl; rfl; apply ValP.buildT; infer_instance; infer_instance; apply PartsOk.cons; rfl; apply PartsOk.cons; rfl; exact PartsOk.nil; rfl; simp only [fillP, wrCells, fra, frc, wc, Value.cells, List.getElem?_cons_zero, List.getElem?_cons_succ, List.toList_toArray, List.setIfInBounds_toArray, List.set_cons_succ, List.set_cons_zero, List.cons_append, List.nil_append, Nat.reduceAdd, Nat.zero_add]; rfl; refine vMz ?_; refine lvz (.buildW1L rfl (by decide) rfl) ?_; refine lvz (.buildW1L rfl (by decide) rfl) ?_; refine vMz ?_; refine lvz (.buildW1L rfl (by decide) rfl) ?_; apply LW.v0; rfl; rfl; exact ValP.buildW0; apply LW.v0; rfl; rfl; exact ValP.buildW0; apply LW.v0; rfl; rfl; exact ValP.buildW0; refine lvz (.buildW1L rfl (by decide) rfl) ?_)
  refine LW.n0 rfl rfl (NewP.buildSN (vs := [(0, wv 100), (1, wv 21), (2, wv 0), (3, wv 0), (4, wv 0), (5, wv 0), (6, wv 32)]) (c := (wcs plW).toArray) inferInstance inferInstance (by (apply PartsOk.cons; rfl; apply PartsOk.cons; rfl; apply PartsOk.cons; rfl; apply PartsOk.cons; rfl; apply PartsOk.cons; rfl; apply PartsOk.cons; rfl; apply PartsOk.cons; rfl; exact PartsOk.nil)) rfl rfl (by kernel_rfl) (by kernel_rfl)) fun g => ?_
  simp only [Sh.val]
  (apply LW.v0; rfl; rfl; apply ValP.buildT; infer_instance; infer_instance; apply PartsOk.cons; rfl; apply PartsOk.cons; rfl; apply PartsOk.cons; rfl; exact PartsOk.nil; rfl; simp only [fillP, wrCells, fra, frc, wc, Value.cells, List.getElem?_cons_zero, List.getElem?_cons_succ, List.toList_toArray, List.setIfInBounds_toArray, List.set_cons_succ, List.set_cons_zero, List.cons_append, List.nil_append, Nat.reduceAdd, Nat.zero_add]; rfl; refine LW.store rfl rfl (.tail (.tail .head)) (.whole rfl rfl rfl) ?_; refine LW.store rfl rfl (.tail .head) (.whole rfl rfl rfl) ?_; refine nNz ?_; refine CW.ret ?_)
  refine fin (vs := [frv plF, .agg (aska 2 241 (.slice (some ⟨g, 0, none⟩) 7 7) (.slice none 0 0))]) [(g, .cells (wcs plW).toArray 29 (0, 0))] (.inl rfl) rfl rfl (by (apply ResL.cons; apply Res.cell; rfl; apply Known.at; apply FsAt.tail; apply FsAt.tail; apply FsAt.head; exact Rd.whole rfl; apply ResL.cons; apply Res.cell; rfl; apply Known.at; apply FsAt.tail; apply FsAt.head; exact Rd.whole rfl; exact ResL.nil)) ?_ ⟨g, rfl, rfl⟩
  exact List.Sublist.cons_cons _ (List.nil_sublist _)
/-! ### The layer does something -/
def wkL : FrL := ⟨[], [], List.replicate 32 0, [], []⟩
def wkC (lv : Value) : ClV := ⟨241, 21, 21, 20, 0, false, 100, lv, .slice none 0 0, 0, 32, false⟩
def wkE : FrL := ⟨[], [1], 7 :: List.replicate 31 0, [], [7]⟩
theorem wk_begin (v : Value) : beginG plF zeroL ⟨2, 241, v, .slice none 0 0, false, false, false⟩ plW = some (4887, wkL, [], wkC (.slice none 0 0)) := by kernel_rfl
theorem wk_ask : askB 2 241 7 = true := by kernel_rfl
theorem wk_okF : okF plF zeroL := by unfold okF okSc plF zeroL; simp
theorem wk_okC (lv : Value) : okC (wkC lv) ⟨[], []⟩ := by unfold okC wkC; simp
theorem wk_okS (lv : Value) : okS (wkC lv) ⟨[], []⟩ [0] := ⟨wk_okC lv, by unfold wkC; simp, by simp⟩
theorem wk_okE {c s m i b lv : Value} : okE (plF.rowsG 4887 c s m i b) wkL (wkC lv) ⟨[], []⟩ 40 [7] := by
  refine ⟨?_, wk_okC lv, ?_, ?_⟩
  · unfold okF okSc wkL FrV.rowsG plF; simp
  · unfold wkC FrV.rowsG wkL; simp
  · unfold wkL; simp
theorem wk_end (lv : Value) : endL wkL (wkC lv) true [7] = wkE := by
  unfold endL wkE wkL wkC overL laidW
  simp
theorem lwakes_calls (w : World) : Calls Tryz.prog 9 #[] w (Ret w (.bool true)) := by
  refine enter (args := []) _ [] [] Tryz.func9 rfl Tryz.ntmps9 rfl (by simp) .nil ?_
  (refine sRz ?_; refine vAz ?_; refine nSz ?_)
  (apply LW.callR; rfl; rfl; infer_instance; exact .cons rfl (.cons rfl .nil); intro w hs)
  exact lplain_calls w
  rintro v1 gs1 ⟨bp, rfl, rfl⟩
  have hsl0 : FrSl plF := ⟨⟨_, _, _, rfl⟩, ⟨_, _, _, rfl⟩, ⟨_, _, _, rfl⟩, ⟨_, _, _, rfl⟩, ⟨_, _, _, rfl⟩⟩
  (refine vMz ?_; refine vEz ?_; refine vEz ?_; apply LW.allocA; rfl; intro _; apply LW.allocA; rfl; intro _; refine LW.store rfl rfl (.tail .head) (.whole rfl rfl rfl) ?_; refine LW.store rfl rfl .head (.whole rfl rfl rfl) ?_; refine nSz ?_; refine ldz rfl (.tail .head) fr_rdW ?_; refine ldz rfl .head ask_rdW ?_; apply LW.v0; rfl; rfl; apply ValP.buildT; infer_instance; infer_instance; exact PartsOk.nil; rfl; simp only [fillP, wrCells, fra, frc, wc, Value.cells, List.getElem?_cons_zero, List.getElem?_cons_succ, List.toList_toArray, List.setIfInBounds_toArray, List.set_cons_succ, List.set_cons_zero, List.cons_append, List.nil_append, Nat.reduceAdd, Nat.zero_add]; rfl)
  rename_i b1 b2
  (apply LW.callR; rfl; rfl; infer_instance; exact .cons rfl (.cons rfl (.cons rfl .nil)); intro w hs)
  have h := BeginC_calls plF zeroL ⟨2, 241, .slice (some ⟨bp, 0, none⟩) 7 7, .slice none 0 0, false, false, false⟩ plW (by intro x hx; simp [plW] at hx; rcases hx with rfl | rfl | rfl | rfl <;> decide) ⟨_, _, _, rfl⟩ wk_ask (by show (241 : Nat) ≠ 245; decide) wk_okF w ⟨.nil, .nil, .nil, .nil, .nil⟩ (row_cells (hs.own (bp, _) (List.mem_cons_of_mem _ (List.mem_cons_of_mem _ List.mem_cons_self))).2 rfl rfl (by simp [maxLen]))
  rw [wk_begin] at h
  exact h
  rintro v2 gs2 ⟨c1, s1, m1, i1, x1, lv, g1, g2, rfl, rfl, hfr, hlv⟩
  change LW _ _ _ _ ((17, .tuple #[frv ⟨c1, 0, s1, m1, 4887, 20, 0, 0, i1, x1, false⟩, clv (wkC lv), .bool true]) :: _) _
  have hsl1 : FrSl ⟨c1, 0, s1, m1, 4887, 20, 0, 0, i1, x1, false⟩ := hfr.sl
  have hlv' := hlv
  unfold bM at hlv'
  obtain ⟨ql, kl, rfl⟩ := hlv'.form
  have hcl := cl_cells (c := wkC (.slice ql ([] : List UInt8).length kl)) ⟨_, _, _, rfl⟩ ⟨_, _, _, rfl⟩
  (refine vMz ?_; refine vEz ?_; refine vEz ?_; refine vEz ?_; apply LW.allocA; rfl; intro _; apply LW.allocA; rfl; intro _; apply LW.store; rfl; rfl; apply SetAt.tail; apply SetAt.head; apply fr_wrW; rfl; assumption; refine LW.store rfl rfl .head (.whole rfl rfl rfl) ?_; refine vAz ?_; refine nNz ?_; refine CW.seq ?_; refine sRz ?_; refine vMz ?_; refine lvz (.notT rfl (by with_reducible rfl)) ?_; refine vMz ?_; refine gTz ?_; refine vFz ?_; refine gTz ?_; refine ldz rfl (.tail .head) fr_rd4 ?_; refine gTz ?_; refine lvz (.neF rfl rfl (by omega)) ?_; refine pFz ?_; refine vMz ?_; refine gTz ?_; refine vFz ?_; refine gTz ?_; refine ldz rfl .head cl_rd1 ?_; refine gTz ?_; refine lvz (.neF rfl rfl (by omega)) ?_; refine pFz ?_; refine vMz ?_; refine gTz ?_; refine vFz ?_; refine gTz ?_; refine ldz rfl .head cl_rd3 ?_; refine gTz ?_; refine lvz (.neF rfl rfl (by omega)) ?_; refine pFz ?_; refine vMz ?_; refine gTz ?_; refine vFz ?_; refine gTz ?_; refine ldz rfl .head cl_rd9 ?_; refine gTz ?_; refine lvz (.neF rfl rfl (by omega)) ?_; refine pFz ?_; refine vMz ?_; refine gTz ?_; refine vFz ?_; refine gTz ?_; refine ldz rfl .head cl_rd13 ?_; refine gTz ?_; refine lvz (.neF rfl rfl (by omega)) ?_; refine pFz ?_; refine nNz ?_; refine cFz ?_; refine CW.skip ?_; refine thenN ?_; refine sRz ?_; refine ldz rfl .head cl_rdW ?_; apply LW.lay1; rfl; infer_instance; infer_instance; rfl; rfl; rfl; rfl; rfl; rfl; intro _)
  rename_i b3 b4 b50
  (apply LW.callR; rfl; rfl; infer_instance; exact .cons rfl (.cons rfl .nil); intro w hs)
  have hri : RowAt w 1 (.slice ql ([] : List UInt8).length kl) ([] : List UInt8).length (ucs []) := IsRow.us hlv' (fun p hp => (hs.own p (List.mem_cons_of_mem _ (List.mem_cons_of_mem _ (List.mem_cons_of_mem _ (List.mem_append_left _ (List.mem_append_right _ hp)))))).2) (List.Sublist.refl _)
  have h := Start_calls (wkC (.slice ql ([] : List UInt8).length kl)) ⟨[], []⟩ [0] (by simp) (by simp) (by simp) _ w (row_cells (n := 1) (hs.own (b50, _) List.mem_cons_self).2 rfl rfl (by simp [maxLen])) ⟨hri, .nil⟩
  exact h
  rintro v3 gs3 (⟨_, a3, b3', d3, e3, f3, rfl, hfr3⟩ | ⟨hno, _, _⟩)
  · change LW _ _ _ _ ((51, .tuple #[frv ⟨a3, 0, b3', d3, 100, 21, 20, 0, e3, f3, false⟩, .int .i64 0]) :: _) _
    have hsl3 : FrSl ⟨a3, 0, b3', d3, 100, 21, 20, 0, e3, f3, false⟩ := hfr3.sl
    (refine vMz ?_; refine vEz ?_; refine vEz ?_; apply LW.allocA; rfl; intro _; apply LW.store; rfl; rfl; apply SetAt.head; apply fr_wrW; rfl; assumption; refine vAz ?_; refine nSz ?_; refine ldz rfl (.tail (.app (.tail (.tail .head)))) fr_rdW ?_; refine ldz rfl (.tail (.app (.tail .head))) cl_rdW ?_; apply LW.lay1; rfl; infer_instance; infer_instance; rfl; rfl; rfl; rfl; rfl; rfl; intro _; apply LW.v0; rfl; rfl; apply ValP.buildT; infer_instance; infer_instance; apply PartsOk.cons; rfl; apply PartsOk.cons; rfl; apply PartsOk.cons; rfl; exact PartsOk.nil; rfl; simp only [fillP, wrCells, fra, frc, wc, Value.cells, List.getElem?_cons_zero, List.getElem?_cons_succ, List.toList_toArray, List.setIfInBounds_toArray, List.set_cons_succ, List.set_cons_zero, List.cons_append, List.nil_append, Nat.reduceAdd, Nat.zero_add]; rfl)
    rename_i b6 b57
    (apply LW.callR; rfl; rfl; infer_instance; exact .cons rfl (.cons rfl (.cons rfl .nil)); intro w hs)
    have hri : RowAt w 1 (.slice ql ([] : List UInt8).length kl) ([] : List UInt8).length (ucs []) := IsRow.us hlv' (fun p hp => (hs.own p (List.mem_cons_of_mem _ (List.mem_cons_of_mem _ (List.mem_append_right _ (List.mem_cons_of_mem _ (List.mem_cons_of_mem _ (List.mem_cons_of_mem _ (List.mem_append_left _ (List.mem_append_right _ hp))))))))).2) (List.Sublist.refl _)
    have h := callEnd_calls ⟨c1, 0, s1, m1, 4887, 20, 0, 0, i1, x1, false⟩ wkL (wkC (.slice ql ([] : List UInt8).length kl)) ⟨[], []⟩ true 40 [7] (by show (21 : Nat) < 18446744073709551616; decide) (by decide) _ w (hfr.st hs (fun p hp => List.mem_cons_of_mem _ (List.mem_cons_of_mem _ (List.mem_append_right _ (List.mem_cons_of_mem _ (List.mem_cons_of_mem _ (List.mem_cons_of_mem _ (List.mem_append_left _ (List.mem_append_left _ hp))))))))) ⟨hri, .nil⟩ (row_cells (n := 1) (hs.own (b57, _) List.mem_cons_self).2 rfl rfl (by simp [maxLen]))
    exact h
    rintro v4 gs4 (⟨_, a4, s4, m4, i4, x4, rfl, hfr4⟩ | ⟨hno, _, _⟩)
    · rw [wk_end] at hfr4
      change LW _ _ _ _ ((59, .tuple #[frv ⟨a4, 0, s4, m4, 4927, 20, 0, 0, i4, x4, false⟩, .bool true]) :: _) _
      have hsl4 : FrSl ⟨a4, 0, s4, m4, 4927, 20, 0, 0, i4, x4, false⟩ := hfr4.sl
      obtain ⟨h1, h2, h3, h4, h5, hperm, k1, k2, k3, k4, k5⟩ := hfr4
      refine LW.perm (fs' := (h1 ++ (h2 ++ (h3 ++ (h4 ++ h5)))) ++ _) (hperm.append_right _) ?_
      unfold bM at k3
      unfold wM at k2
      obtain ⟨q2, c2, rfl⟩ := k2.form
      obtain ⟨q3, c3, rfl⟩ := k3.form
      obtain ⟨gm, cur, rfl, rfl, hn3, hm3, hsz3, htk3⟩ := k3.pos (by show 0 < wkE.ms.length; unfold wkE; simp)
      have hrd7 : Rd Tryz.prog 5 (.cells cur 5 (0, 0)) (0 + 0 * 1) (.int .u8 7) := Rd.elem1 (l := wkE.ms) (i := 0) (m := wkE.ms.length * 1) (by rw [List.drop_zero]; exact htk3) (ucs_one _) rfl rfl
      have hw1 : wkE.ws.length = 1 := rfl
      have hw2 : wkE.ms.length = 32 := rfl
      simp only [List.append_assoc, List.cons_append, List.nil_append]
      (refine vMz ?_; refine vEz ?_; refine vEz ?_; apply LW.allocA; rfl; intro _; apply LW.store; rfl; rfl; apply SetAt.head; apply fr_wrW; rfl; assumption; refine vAz ?_; refine nSz ?_; refine vMz ?_; refine lvz (.eqT rfl rfl (by omega)) ?_; refine vMz ?_; refine gTz ?_; refine vFz ?_; refine gTz ?_; refine ldz rfl (.tail (.app (.app (.tail (.app (.app (.tail .head))))))) fr_rd5 ?_; refine gTz ?_; refine lvz (.eqT rfl rfl (by omega)) ?_; refine pTz ?_; refine vMz ?_; refine gTz ?_; refine vMz ?_; refine pTz ?_; refine vMz ?_; refine gTz ?_; refine vFz ?_; refine gTz ?_; refine ldz rfl .head fr_rd4 ?_; refine gTz ?_; refine lvz (.eqT rfl rfl (by omega)) ?_; refine pTz ?_; refine vMz ?_; refine gTz ?_; refine vFz ?_; refine gTz ?_; refine vFz ?_; refine gTz ?_; refine ldz rfl .head fr_rd2s ?_; refine gTz ?_; refine lvz (.lenR rfl inferInstance rfl) ?_; refine gTz ?_; refine lvz (.eqT rfl rfl (by omega)) ?_; refine pTz ?_; refine vMz ?_; refine gTz ?_; refine vFz ?_; refine gTz ?_; refine vFz ?_; refine gTz ?_; refine ldz rfl .head fr_rd3 ?_; refine gTz ?_; refine lvz (.indexAddrSL rfl rfl (by decide) (by omega)) ?_; refine gTz ?_; refine ldz rfl (.tail (.app (.app .head))) (by assumption) ?_; refine gTz ?_; refine lvz (.eqT rfl rfl (by omega)) ?_; refine pTz ?_; refine vAz ?_; refine nNz ?_; refine CW.ret ?_)
      (apply finR; exact .inl rfl; rfl; rfl; rfl; apply ResL.cons; exact Res.tmp rfl; exact ResL.nil)
      rfl
    · exact absurd wk_okE hno
  · exact absurd (wk_okS _) hno
end Go.Proofs.YtpgdnfgjbhdbpaaGreatDoor

/-
  Calls and frames that can be gone through, in memory of their own.
  Conditions: none.
-/
namespace Go.Proofs.YtpgdnfgjbhdbpaaGreatDoor
open Go Go.RowKit SL
set_option maxRecDepth 8000
set_option maxHeartbeats 4000000
set_option linter.unusedSimpArgs false
set_option linter.unusedVariables false
attribute [local irreducible] SL.CW SL.LW SL.DW Calls SL.Ret SL.RetG SL.beginQ SL.roundQ SL.rangeQ SL.inQ SL.RW SL.AnyW SL.thenQ SL.thenC SL.thenW SL.blkQ SL.finQ SL.ValP SL.NewP SL.SetP SL.CallP SL.Rd SL.Wr SL.Known
theorem row_few {w : World} {l : List UInt8} {n k c : Nat} {p : Option Addr} (h : RowAt w 1 (.slice p l.length c) l.length (ucs l)) (hn : n = min l.length k) : RowAt w 1 (.slice p n c) (l.take k).length (ucs (l.take k)) := by
  have h1 := h.take (k := n) (by omega)
  rw [ucs_take] at h1
  have h2 : l.take n = l.take k := by rw [hn, Nat.min_comm, ← List.take_take, List.take_length]
  have h3 : (l.take k).length = n := by rw [List.length_take]; omega
  rw [h2] at h1
  rw [h3]
  exact h1
theorem row_fewW {w : World} {l : List Nat} {n k c : Nat} {p : Option Addr} (h : RowAt w 4 (.slice p l.length c) l.length (wcs l)) (hn : n = min l.length k) : RowAt w 4 (.slice p n c) (l.take k).length (wcs (l.take k)) := by
  have h1 := h.take (k := n) (by omega)
  rw [wcs_take] at h1
  have h2 : l.take n = l.take k := by rw [hn, Nat.min_comm, ← List.take_take, List.take_length]
  have h3 : (l.take k).length = n := by rw [List.length_take]; omega
  rw [h2] at h1
  rw [h3]
  exact h1
section wr
variable {P : Program} {T E : TypeId} {op dst self frm val gas pl n q k : Nat} {inp code z : Value} {mv stat : Bool} {p : Option Addr}
theorem cl_wr10 [InfoI P T 1 z] : Wr P T (.cells (cla ⟨op, dst, self, frm, val, mv, gas, inp, code, pl, n, stat⟩) E (0, 0)) (0 + 10) (.slice p q k) (.cells (cla ⟨op, dst, self, frm, val, mv, gas, .slice p q k, code, pl, n, stat⟩) E (0, 0)) := Wr.cells (n := 1) (z := z) rfl rfl (by show 0 + 10 + 1 ≤ 15; omega) rfl
theorem cl_wr11 [InfoI P T 1 z] : Wr P T (.cells (cla ⟨op, dst, self, frm, val, mv, gas, inp, code, pl, n, stat⟩) E (0, 0)) (0 + 11) (.slice p q k) (.cells (cla ⟨op, dst, self, frm, val, mv, gas, inp, .slice p q k, pl, n, stat⟩) E (0, 0)) := Wr.cells (n := 1) (z := z) rfl rfl (by show 0 + 11 + 1 ≤ 15; omega) rfl
end wr
/-- A call whose rows are of its own. -/
def ClO (c : ClV) (L : ClL) (gs : Fs) : Prop := ∃ g1 g2, gs = g2 ++ g1 ∧ bM L.il c.inp g1 ∧ bM L.cl c.code g2
def fewC (L : ClL) : ClL := ⟨L.il.take 1100, L.cl.take 300⟩
def CalledR (c : ClV) (L : ClL) (v : Value) (gs : Fs) : Prop := ∃ i k, v = clv { c with inp := i, code := k } ∧ ClO { c with inp := i, code := k } (fewC L) gs
theorem called_calls (c : ClV) (L : ClL) (w : World) (h : ClRows w c L) : Calls Tryz.prog 11 #[clv c] w (RetG w [] (CalledR c L)) := by
  obtain ⟨op, dst, self, frm, val, mv, gas, inp, code, pl, n, stat⟩ := c
  obtain ⟨h10, h11⟩ := h
  dsimp only at h10 h11
  obtain ⟨p10, c10, rfl, hle10, hm10⟩ := id h10.form
  obtain ⟨p11, c11, rfl, hle11, hm11⟩ := id h11.form
  simp only [maxLen] at hm10 hm11
  have hf10 := row_few h10 (k := 1100) rfl
  have hf11 := row_few h11 (k := 300) rfl
  have hl10 : (L.il.take 1100).length ≤ 100000 := by rw [List.length_take]; omega
  have hl11 : (L.cl.take 300).length ≤ 100000 := by rw [List.length_take]; omega
  have hcl : ∀ p q k p2 q2 k2, (cla ⟨op, dst, self, frm, val, mv, gas, .slice p q k, .slice p2 q2 k2, pl, n, stat⟩).toList.all Value.oneCell' = true := fun p q k p2 q2 k2 => cl_cells ⟨_, _, _, rfl⟩ ⟨_, _, _, rfl⟩
  refine enter (args := [_]) _ [] [] Tryz.func11 rfl Tryz.ntmps11 rfl (by simp) .nil ?_
  (refine sRz ?_; apply LW.boxA; rfl; rfl; intro _; apply LW.allocA; rfl; intro _; refine nNz ?_; refine CW.seq ?_)
  apply CW.pre
  (refine AnyW.anyM [(7, bM (L.il.take 1100)), (15, bM (L.cl.take 300))] 17 mixed (by decide +kernel) ?_)
  ((try simp only [tsOf_cons, tsOf_nil, tsOf_app]); refine dvz (.fieldAddr rfl rfl) ?_; apply DW.loadO; rfl; rfl; rfl; exact WantT.none; rfl; apply TRead.tail; apply TRead.head; exact ancB_nil; exact cl_rd10; refine dvz (.fieldAddr rfl rfl) ?_; apply DW.loadO; rfl; rfl; rfl; exact WantT.none; rfl; apply TRead.tail; apply TRead.head; exact ancB_nil; exact cl_rd10; refine dvz (.lenR rfl inferInstance rfl) ?_; refine dvz (.minZL rfl rfl (by decide)) ?_; refine dvz (.cutTo inferInstance inferInstance rfl rfl (by omega)) ?_)
  (apply DW.manyV; rfl; rfl; rfl; exact WantT.none; rfl; infer_instance; exact .cons rfl .nil; apply RdV.ext; assumption; rfl; exact RdV.nil; intro w _ _)
  exact SK.Clone_calls _ _ w (hf10.bel (by assumption)) hl10
  intro v1 g1 h1
  ((try simp only [tsOf_cons, tsOf_nil, tsOf_app]); refine dvz (.fieldAddr rfl rfl) ?_; apply DW.loadO; rfl; rfl; rfl; exact WantT.none; rfl; apply TRead.app; apply TRead.tail; apply TRead.head; exact ancB_nil; exact cl_rd11; refine dvz (.fieldAddr rfl rfl) ?_; apply DW.loadO; rfl; rfl; rfl; exact WantT.none; rfl; apply TRead.app; apply TRead.tail; apply TRead.head; exact ancB_nil; exact cl_rd11; refine dvz (.lenR rfl inferInstance rfl) ?_; refine dvz (.minZL rfl rfl (by decide)) ?_; refine dvz (.cutTo inferInstance inferInstance rfl rfl (by omega)) ?_)
  (apply DW.manyV; rfl; rfl; rfl; exact WantT.none; rfl; infer_instance; exact .cons rfl .nil; apply RdV.ext; assumption; rfl; exact RdV.nil; intro w _ _)
  exact SK.Clone_calls _ _ w (hf11.bel (by assumption)) hl11
  intro v2 g2 h2
  have h1' := h1
  have h2' := h2
  unfold bM at h1' h2'
  obtain ⟨q1, k1, rfl⟩ := h1'.form
  obtain ⟨q2, k2, rfl⟩ := h2'.form
  ((try simp only [tsOf_cons, tsOf_nil, tsOf_app]); refine dvz (.fieldAddr rfl rfl) ?_; apply DW.nil; simp only [fsOf_cons, fsOf_nil, fsOf_app, fsOf_tsOf, fsOf_new, fsOf_tag])
  (refine LW.store rfl rfl (.app (.app (.tail .head))) cl_wr10 ?_; refine vFz ?_; refine LW.store rfl rfl (.app (.app (.tail .head))) cl_wr11 ?_; refine nSz ?_; refine ldz rfl (.app (.app (.tail .head))) cl_rdW ?_; apply LW.store; rfl; rfl; apply SetAt.app; apply SetAt.app; apply SetAt.head; apply cl_wrW; rfl; exact hcl _ _ _ _ _ _; refine nNz ?_; refine CW.ret ?_)
  refine fin (vs := [clv ⟨op, dst, self, frm, val, mv, gas, .slice q1 (L.il.take 1100).length k1, .slice q2 (L.cl.take 300).length k2, pl, n, stat⟩]) (g2 ++ g1) (.inl rfl) rfl rfl (by (apply ResL.cons; apply Res.cell; rfl; apply Known.at; apply FsAt.app; apply FsAt.app; apply FsAt.head; exact cl_rdW; exact ResL.nil)) ?_ ⟨_, _, rfl, g1, g2, rfl, h1, h2⟩
  exact List.Sublist.append_left (List.sublist_append_left _ _) _
end Go.Proofs.YtpgdnfgjbhdbpaaGreatDoor

/-
  What is written over.
  Conditions: none.
-/
namespace Go.Proofs.YtpgdnfgjbhdbpaaGreatDoor
open Go Go.RowKit SL
set_option maxRecDepth 8000
set_option maxHeartbeats 4000000
set_option linter.unusedSimpArgs false
set_option linter.unusedVariables false
attribute [local irreducible] SL.CW SL.LW SL.DW Calls SL.Ret SL.RetG SL.beginQ SL.roundQ SL.rangeQ SL.inQ SL.RW SL.AnyW SL.thenQ SL.thenC SL.thenW SL.blkQ SL.finQ SL.ValP SL.NewP SL.SetP SL.CallP SL.Rd SL.Wr SL.Known
attribute [local irreducible] SL.inP
theorem ucs_ints (l : List UInt8) : ∀ u ∈ ucs l, ∃ m : Nat, u = .int .u8 (m : Int) := fun u hu => by
  rw [ucs_map] at hu
  obtain ⟨x, _, rfl⟩ := List.mem_map.1 hu
  exact ⟨x.toNat, rfl⟩
theorem wcs_ints (l : List Nat) : ∀ u ∈ wcs l, ∃ m : Nat, u = .int .u64 (m : Int) := fun u hu => by
  obtain ⟨x, _, hx⟩ := List.mem_flatMap.1 hu
  simp only [wc, List.mem_cons, List.not_mem_nil, or_false] at hx
  rcases hx with h | h | h | h <;> exact ⟨_, h⟩
theorem ints_set {xs : List Value} {kd : IntKind} {k j : Nat} {v : Value} (h : ∀ u ∈ xs, ∃ m : Nat, u = .int kd (m : Int)) (hj : k ≤ j) (hv : ∃ m : Nat, v = .int kd (m : Int)) : ∀ u ∈ xs.take k ++ [v] ++ xs.drop j, ∃ m : Nat, u = .int kd (m : Int) := fun u hu => by
  simp only [List.mem_append, List.mem_singleton] at hu
  rcases hu with (hu | rfl) | hu
  · exact h u (List.mem_of_mem_take hu)
  · exact hv
  · exact h u (List.mem_of_mem_drop hu)
theorem spoil_calls (w0 : World) (S : List Nat) (f : FrV) (L : FrL) (c : ClV) (M : ClL) (gf gc rest : Fs) (hf : FrO f L gf) (hc : ClO c M gc) (w : World) (hs : St w0 S (gf ++ (gc ++ rest)) w) :
    Calls Tryz.prog 16 #[frv f, clv c] w (fun x w' => ∃ fs', (x = .returned (.tuple #[]) ∧ fs' = rest) ∧ St w0 S fs' w') := by
  obtain ⟨g1, g2, g3, g4, g5, hp, r1, r2, r3, r4, r5⟩ := hf
  obtain ⟨gi, gk, rfl, r6, r7⟩ := hc
  obtain ⟨code, pc, stk, mem, gas, self, frm, val, inp, back, stat⟩ := f
  obtain ⟨op, dst, cself, cfrm, cval, mv, cgas, cinp, ccode, pl, n, cstat⟩ := c
  unfold bM at r1 r3 r4 r5 r6 r7
  unfold wM at r2
  dsimp only at r1 r2 r3 r4 r5 r6 r7
  obtain ⟨q1, k1, rfl⟩ := r1.form
  obtain ⟨q2, k2, rfl⟩ := r2.form
  obtain ⟨q3, k3, rfl⟩ := r3.form
  obtain ⟨q4, k4, rfl⟩ := r4.form
  obtain ⟨q5, k5, rfl⟩ := r5.form
  obtain ⟨q6, k6, rfl⟩ := r6.form
  obtain ⟨q7, k7, rfl⟩ := r7.form
  replace hs : St w0 S (g1 ++ (g4 ++ (g5 ++ (g3 ++ (gi ++ (gk ++ (g2 ++ rest))))))) w := by
    refine SubP.st ?_ (hs.perm (hp.append_right _))
    simp only [List.append_assoc]
    exact subp_ix [g1, g2, g3, g4, g5, gk, gi] (xs := [0, 3, 4, 2, 6, 5, 1]) (ys := [0, 1, 2, 3, 4, 5, 6]) rest rfl
  refine calls_anyO (calls_inlineP (K := anyO fun x fs' => x = .returned (.tuple #[]) ∧ fs' = rest) (args := [_, _]) Tryz.func16 rfl Tryz.ntmps16 rfl ?_ hs)
  (refine sRz ?_; apply LW.boxA; rfl; rfl; intro _; apply LW.boxA; rfl; rfl; intro _; refine nNz ?_; refine CW.seq ?_; refine sRz ?_; refine vFz ?_; refine ldz rfl (.tail .head) fr_rd0 ?_; refine vFz ?_; refine ldz rfl (.tail .head) fr_rd11 ?_; refine vFz ?_; refine ldz rfl (.tail .head) fr_rd12 ?_; refine vFz ?_; refine vFz ?_; refine ldz rfl (.tail .head) fr_rd3 ?_; refine vFz ?_; refine ldz rfl .head cl_rd10 ?_; refine vFz ?_; refine ldz rfl .head cl_rd11 ?_; apply LW.v0; rfl; rfl; apply ValP.buildA; apply PartsOk.cons; rfl; apply PartsOk.cons; rfl; apply PartsOk.cons; rfl; apply PartsOk.cons; rfl; apply PartsOk.cons; rfl; apply PartsOk.cons; rfl; exact PartsOk.nil; rfl; simp only [fillC, wc, wrCells, Value.cells, List.toList_toArray, List.setIfInBounds_toArray, List.set_cons_succ, List.set_cons_zero, Nat.reduceAdd, Nat.reduceMul, Nat.zero_add, Nat.mul_one]; rfl; refine vMz ?_; refine nNz ?_; refine CW.block ?_)
  rename_i b2 b3
  apply CW.rounds 7
  apply RW.step
  (refine sRz ?_; refine lvz (.lssT rfl rfl (by omega)) ?_; refine nNz ?_; refine CW.seq ?_; refine cTz ?_; refine CW.skip ?_; refine thenN ?_; refine CW.seq ?_; refine CW.block ?_; refine sRz ?_; refine lvz (.indexAL rfl rfl rfl rfl rfl) ?_; refine vAz ?_; refine nSz ?_; refine vMz ?_; refine lvz (.lenR rfl inferInstance rfl) ?_; refine vMz ?_; refine nNz ?_; refine CW.block ?_)
  refine CW.loop (fun x : Nat × Fs => ([(27, .int .i64 (x.1 : Int)), (26, .int .i64 (L.cl.length : Int)), (5, .slice q1 L.cl.length k1), (21, .agg #[.slice q1 L.cl.length k1, .slice q4 L.il.length k4, .slice q5 L.bl.length k5, .slice q3 L.ms.length k3, .slice q6 M.il.length k6, .slice q7 M.cl.length k7]), (22, .int .i64 0), (2, .pointer (some ⟨b2, 0, none⟩))], (b3, .cells (cla ⟨op, dst, cself, cfrm, cval, mv, cgas, .slice q6 M.il.length k6, .slice q7 M.cl.length k7, pl, n, cstat⟩) 33 (0, 0)) :: (b2, .cells (fra ⟨.slice q1 L.cl.length k1, pc, .slice q2 L.ws.length k2, .slice q3 L.ms.length k3, gas, self, frm, val, .slice q4 L.il.length k4, .slice q5 L.bl.length k5, stat⟩) 31 (0, 0)) :: (x.2 ++ (g4 ++ (g5 ++ (g3 ++ (gi ++ (gk ++ (g2 ++ (rest))))))))))
    (fun x => x.1 ≤ L.cl.length ∧ ∃ xs : List Value, (∀ u ∈ xs, ∃ m : Nat, u = .int .u8 (m : Int)) ∧ IsRow 5 1 (.slice q1 L.cl.length k1) L.cl.length xs x.2) (fun x => L.cl.length - x.1) (0, g1) ⟨Nat.zero_le _, _, ucs_ints L.cl, r1⟩ ⟨rfl, rfl, rfl, rfl, rfl, rfl, trivial⟩ (List.Sublist.refl _) ?_
  rintro ⟨k, seg⟩ ⟨hk, xs, hall, hrow⟩
  dsimp only at hk hrow ⊢
  rcases Nat.lt_or_ge k L.cl.length with hlt | hge
  · obtain ⟨gm, cur, rfl, rfl, hn9, hm9, hsz9, htk9⟩ := hrow.pos (by omega)
    have hxl := hrow.len
    have hmx : maxLen = 9223372036854775807 := rfl
    obtain ⟨m9, hm8⟩ := hall (xs[k]'(by omega)) (List.getElem_mem _)
    have hrd9 : Rd Tryz.prog 5 (.cells cur 5 (0, 0)) (0 + k * 1) (.int .u8 (m9 : Int)) := by have h := Rd.one (P := Tryz.prog) (T := 5) (E := 5) (fr := (0, 0)) (cut_get (off := 0) (by rw [List.drop_zero]; exact htk9) (show xs[k]? = some (.int .u8 (m9 : Int)) by rw [List.getElem?_eq_getElem (by omega), hm8])); simpa using h
    obtain ⟨w1, w2⟩ := wr_take (i := k) (vs := [Value.int .u8 (((m9 + 1) % 256 : Nat) : Int)]) htk9 rfl hlt (by omega)
    have hW : Wr Tryz.prog 5 (.cells cur 5 (0, 0)) (0 + k * 1) (.int .u8 (((m9 + 1) % 256 : Nat) : Int)) (.cells (wrCells cur (k * 1) [Value.int .u8 (((m9 + 1) % 256 : Nat) : Int)]) 5 (0, 0)) := Wr.cells (z := .int .u8 0) (n := 1) rfl rfl (by rw [hsz9]; show 0 + k * 1 + 1 ≤ k1 * 1; omega) (by rw [Nat.zero_add]; rfl)
    (refine sRz ?_; refine lvz (.lssT rfl rfl (by omega)) ?_; refine nNz ?_; refine CW.seq ?_; refine cTz ?_; refine CW.skip ?_; refine thenN ?_; refine CW.seq ?_; refine CW.block ?_; refine sRz ?_; refine vMz ?_; refine vAz ?_; refine nNz ?_; refine CW.region ?_; refine vMz ?_; refine vMz ?_; refine lvz (.indexAddrS rfl rfl rfl (by omega)) ?_; refine ldz rfl (.tail (.tail .head)) hrd9 ?_; refine lvz (.addBL rfl rfl (by decide)) ?_; refine lvz (.indexAddrS rfl rfl rfl (by omega)) ?_; refine LW.store rfl rfl (.tail (.tail .head)) hW ?_; apply LW.nil; refine blkN ?_; refine thenN ?_; refine CW.region ?_; refine lvz (.addZL rfl rfl (by decide) (by omega)) ?_; refine vMz ?_; apply LW.nil)
    apply thenX
    refine ⟨rfl, (k + 1, _), ⟨hlt, _, ints_set (k := k * 1) (j := (k + 1) * 1) hall (by omega) ⟨_, rfl⟩, .own hn9 hm9 (by rw [w2, hsz9]) w1 (by simp only [List.length_append, List.length_take, List.length_drop, List.length_cons, List.length_nil]; omega)⟩, by show L.cl.length - (k + 1) < L.cl.length - k; omega, ⟨rfl, rfl, rfl, rfl, rfl, rfl, trivial⟩, List.Sublist.refl _⟩
  · (refine sRz ?_; refine lvz (.lssF rfl rfl (by omega)) ?_; refine nNz ?_; refine CW.seq ?_; refine cFz ?_; refine CW.exit ?_; refine thenE ?_; refine thenE ?_; refine blkE rfl ?_; refine blkN ?_; refine thenN ?_; refine CW.region ?_; refine lvz (.addI rfl rfl (by omega) (by omega)) ?_; refine vMz ?_; apply LW.nil; refine thenL ?_)
    apply RW.step
    (refine sRz ?_; refine lvz (.lssT rfl rfl (by omega)) ?_; refine nNz ?_; refine CW.seq ?_; refine cTz ?_; refine CW.skip ?_; refine thenN ?_; refine CW.seq ?_; refine CW.block ?_; refine sRz ?_; refine lvz (.indexAL rfl rfl rfl rfl rfl) ?_; refine vAz ?_; refine nSz ?_; refine vMz ?_; refine lvz (.lenR rfl inferInstance rfl) ?_; refine vMz ?_; refine nNz ?_; refine CW.block ?_)
    refine CW.loop (fun x : Nat × Fs => ([(27, .int .i64 (x.1 : Int)), (26, .int .i64 (L.il.length : Int)), (5, .slice q4 L.il.length k4), (21, .agg #[.slice q1 L.cl.length k1, .slice q4 L.il.length k4, .slice q5 L.bl.length k5, .slice q3 L.ms.length k3, .slice q6 M.il.length k6, .slice q7 M.cl.length k7]), (22, .int .i64 1), (2, .pointer (some ⟨b2, 0, none⟩))], (b3, .cells (cla ⟨op, dst, cself, cfrm, cval, mv, cgas, .slice q6 M.il.length k6, .slice q7 M.cl.length k7, pl, n, cstat⟩) 33 (0, 0)) :: (b2, .cells (fra ⟨.slice q1 L.cl.length k1, pc, .slice q2 L.ws.length k2, .slice q3 L.ms.length k3, gas, self, frm, val, .slice q4 L.il.length k4, .slice q5 L.bl.length k5, stat⟩) 31 (0, 0)) :: (x.2 ++ (g5 ++ (g3 ++ (gi ++ (gk ++ (g2 ++ (rest)))))))))
      (fun x => x.1 ≤ L.il.length ∧ ∃ xs : List Value, (∀ u ∈ xs, ∃ m : Nat, u = .int .u8 (m : Int)) ∧ IsRow 5 1 (.slice q4 L.il.length k4) L.il.length xs x.2) (fun x => L.il.length - x.1) (0, g4) ⟨Nat.zero_le _, _, ucs_ints L.il, r4⟩ ⟨rfl, rfl, rfl, rfl, rfl, rfl, trivial⟩ (List.Sublist.cons_cons _ (List.Sublist.cons_cons _ (List.sublist_append_right _ _))) ?_
    rintro ⟨k, seg⟩ ⟨hk, xs, hall, hrow⟩
    dsimp only at hk hrow ⊢
    rcases Nat.lt_or_ge k L.il.length with hlt | hge
    · obtain ⟨gm, cur, rfl, rfl, hn9, hm9, hsz9, htk9⟩ := hrow.pos (by omega)
      have hxl := hrow.len
      have hmx : maxLen = 9223372036854775807 := rfl
      obtain ⟨m9, hm8⟩ := hall (xs[k]'(by omega)) (List.getElem_mem _)
      have hrd9 : Rd Tryz.prog 5 (.cells cur 5 (0, 0)) (0 + k * 1) (.int .u8 (m9 : Int)) := by have h := Rd.one (P := Tryz.prog) (T := 5) (E := 5) (fr := (0, 0)) (cut_get (off := 0) (by rw [List.drop_zero]; exact htk9) (show xs[k]? = some (.int .u8 (m9 : Int)) by rw [List.getElem?_eq_getElem (by omega), hm8])); simpa using h
      obtain ⟨w1, w2⟩ := wr_take (i := k) (vs := [Value.int .u8 (((m9 + 1) % 256 : Nat) : Int)]) htk9 rfl hlt (by omega)
      have hW : Wr Tryz.prog 5 (.cells cur 5 (0, 0)) (0 + k * 1) (.int .u8 (((m9 + 1) % 256 : Nat) : Int)) (.cells (wrCells cur (k * 1) [Value.int .u8 (((m9 + 1) % 256 : Nat) : Int)]) 5 (0, 0)) := Wr.cells (z := .int .u8 0) (n := 1) rfl rfl (by rw [hsz9]; show 0 + k * 1 + 1 ≤ k4 * 1; omega) (by rw [Nat.zero_add]; rfl)
      (refine sRz ?_; refine lvz (.lssT rfl rfl (by omega)) ?_; refine nNz ?_; refine CW.seq ?_; refine cTz ?_; refine CW.skip ?_; refine thenN ?_; refine CW.seq ?_; refine CW.block ?_; refine sRz ?_; refine vMz ?_; refine vAz ?_; refine nNz ?_; refine CW.region ?_; refine vMz ?_; refine vMz ?_; refine lvz (.indexAddrS rfl rfl rfl (by omega)) ?_; refine ldz rfl (.tail (.tail .head)) hrd9 ?_; refine lvz (.addBL rfl rfl (by decide)) ?_; refine lvz (.indexAddrS rfl rfl rfl (by omega)) ?_; refine LW.store rfl rfl (.tail (.tail .head)) hW ?_; apply LW.nil; refine blkN ?_; refine thenN ?_; refine CW.region ?_; refine lvz (.addZL rfl rfl (by decide) (by omega)) ?_; refine vMz ?_; apply LW.nil)
      apply thenX
      refine ⟨rfl, (k + 1, _), ⟨hlt, _, ints_set (k := k * 1) (j := (k + 1) * 1) hall (by omega) ⟨_, rfl⟩, .own hn9 hm9 (by rw [w2, hsz9]) w1 (by simp only [List.length_append, List.length_take, List.length_drop, List.length_cons, List.length_nil]; omega)⟩, by show L.il.length - (k + 1) < L.il.length - k; omega, ⟨rfl, rfl, rfl, rfl, rfl, rfl, trivial⟩, List.Sublist.refl _⟩
    · (refine sRz ?_; refine lvz (.lssF rfl rfl (by omega)) ?_; refine nNz ?_; refine CW.seq ?_; refine cFz ?_; refine CW.exit ?_; refine thenE ?_; refine thenE ?_; refine blkE rfl ?_; refine blkN ?_; refine thenN ?_; refine CW.region ?_; refine lvz (.addI rfl rfl (by omega) (by omega)) ?_; refine vMz ?_; apply LW.nil; refine thenL ?_)
      apply RW.step
      (refine sRz ?_; refine lvz (.lssT rfl rfl (by omega)) ?_; refine nNz ?_; refine CW.seq ?_; refine cTz ?_; refine CW.skip ?_; refine thenN ?_; refine CW.seq ?_; refine CW.block ?_; refine sRz ?_; refine lvz (.indexAL rfl rfl rfl rfl rfl) ?_; refine vAz ?_; refine nSz ?_; refine vMz ?_; refine lvz (.lenR rfl inferInstance rfl) ?_; refine vMz ?_; refine nNz ?_; refine CW.block ?_)
      refine CW.loop (fun x : Nat × Fs => ([(27, .int .i64 (x.1 : Int)), (26, .int .i64 (L.bl.length : Int)), (5, .slice q5 L.bl.length k5), (21, .agg #[.slice q1 L.cl.length k1, .slice q4 L.il.length k4, .slice q5 L.bl.length k5, .slice q3 L.ms.length k3, .slice q6 M.il.length k6, .slice q7 M.cl.length k7]), (22, .int .i64 2), (2, .pointer (some ⟨b2, 0, none⟩))], (b3, .cells (cla ⟨op, dst, cself, cfrm, cval, mv, cgas, .slice q6 M.il.length k6, .slice q7 M.cl.length k7, pl, n, cstat⟩) 33 (0, 0)) :: (b2, .cells (fra ⟨.slice q1 L.cl.length k1, pc, .slice q2 L.ws.length k2, .slice q3 L.ms.length k3, gas, self, frm, val, .slice q4 L.il.length k4, .slice q5 L.bl.length k5, stat⟩) 31 (0, 0)) :: (x.2 ++ (g3 ++ (gi ++ (gk ++ (g2 ++ (rest))))))))
        (fun x => x.1 ≤ L.bl.length ∧ ∃ xs : List Value, (∀ u ∈ xs, ∃ m : Nat, u = .int .u8 (m : Int)) ∧ IsRow 5 1 (.slice q5 L.bl.length k5) L.bl.length xs x.2) (fun x => L.bl.length - x.1) (0, g5) ⟨Nat.zero_le _, _, ucs_ints L.bl, r5⟩ ⟨rfl, rfl, rfl, rfl, rfl, rfl, trivial⟩ (List.Sublist.cons_cons _ (List.Sublist.cons_cons _ (List.sublist_append_right _ _))) ?_
      rintro ⟨k, seg⟩ ⟨hk, xs, hall, hrow⟩
      dsimp only at hk hrow ⊢
      rcases Nat.lt_or_ge k L.bl.length with hlt | hge
      · obtain ⟨gm, cur, rfl, rfl, hn9, hm9, hsz9, htk9⟩ := hrow.pos (by omega)
        have hxl := hrow.len
        have hmx : maxLen = 9223372036854775807 := rfl
        obtain ⟨m9, hm8⟩ := hall (xs[k]'(by omega)) (List.getElem_mem _)
        have hrd9 : Rd Tryz.prog 5 (.cells cur 5 (0, 0)) (0 + k * 1) (.int .u8 (m9 : Int)) := by have h := Rd.one (P := Tryz.prog) (T := 5) (E := 5) (fr := (0, 0)) (cut_get (off := 0) (by rw [List.drop_zero]; exact htk9) (show xs[k]? = some (.int .u8 (m9 : Int)) by rw [List.getElem?_eq_getElem (by omega), hm8])); simpa using h
        obtain ⟨w1, w2⟩ := wr_take (i := k) (vs := [Value.int .u8 (((m9 + 1) % 256 : Nat) : Int)]) htk9 rfl hlt (by omega)
        have hW : Wr Tryz.prog 5 (.cells cur 5 (0, 0)) (0 + k * 1) (.int .u8 (((m9 + 1) % 256 : Nat) : Int)) (.cells (wrCells cur (k * 1) [Value.int .u8 (((m9 + 1) % 256 : Nat) : Int)]) 5 (0, 0)) := Wr.cells (z := .int .u8 0) (n := 1) rfl rfl (by rw [hsz9]; show 0 + k * 1 + 1 ≤ k5 * 1; omega) (by rw [Nat.zero_add]; rfl)
        (refine sRz ?_; refine lvz (.lssT rfl rfl (by omega)) ?_; refine nNz ?_; refine CW.seq ?_; refine cTz ?_; refine CW.skip ?_; refine thenN ?_; refine CW.seq ?_; refine CW.block ?_; refine sRz ?_; refine vMz ?_; refine vAz ?_; refine nNz ?_; refine CW.region ?_; refine vMz ?_; refine vMz ?_; refine lvz (.indexAddrS rfl rfl rfl (by omega)) ?_; refine ldz rfl (.tail (.tail .head)) hrd9 ?_; refine lvz (.addBL rfl rfl (by decide)) ?_; refine lvz (.indexAddrS rfl rfl rfl (by omega)) ?_; refine LW.store rfl rfl (.tail (.tail .head)) hW ?_; apply LW.nil; refine blkN ?_; refine thenN ?_; refine CW.region ?_; refine lvz (.addZL rfl rfl (by decide) (by omega)) ?_; refine vMz ?_; apply LW.nil)
        apply thenX
        refine ⟨rfl, (k + 1, _), ⟨hlt, _, ints_set (k := k * 1) (j := (k + 1) * 1) hall (by omega) ⟨_, rfl⟩, .own hn9 hm9 (by rw [w2, hsz9]) w1 (by simp only [List.length_append, List.length_take, List.length_drop, List.length_cons, List.length_nil]; omega)⟩, by show L.bl.length - (k + 1) < L.bl.length - k; omega, ⟨rfl, rfl, rfl, rfl, rfl, rfl, trivial⟩, List.Sublist.refl _⟩
      · (refine sRz ?_; refine lvz (.lssF rfl rfl (by omega)) ?_; refine nNz ?_; refine CW.seq ?_; refine cFz ?_; refine CW.exit ?_; refine thenE ?_; refine thenE ?_; refine blkE rfl ?_; refine blkN ?_; refine thenN ?_; refine CW.region ?_; refine lvz (.addI rfl rfl (by omega) (by omega)) ?_; refine vMz ?_; apply LW.nil; refine thenL ?_)
        apply RW.step
        (refine sRz ?_; refine lvz (.lssT rfl rfl (by omega)) ?_; refine nNz ?_; refine CW.seq ?_; refine cTz ?_; refine CW.skip ?_; refine thenN ?_; refine CW.seq ?_; refine CW.block ?_; refine sRz ?_; refine lvz (.indexAL rfl rfl rfl rfl rfl) ?_; refine vAz ?_; refine nSz ?_; refine vMz ?_; refine lvz (.lenR rfl inferInstance rfl) ?_; refine vMz ?_; refine nNz ?_; refine CW.block ?_)
        refine CW.loop (fun x : Nat × Fs => ([(27, .int .i64 (x.1 : Int)), (26, .int .i64 (L.ms.length : Int)), (5, .slice q3 L.ms.length k3), (21, .agg #[.slice q1 L.cl.length k1, .slice q4 L.il.length k4, .slice q5 L.bl.length k5, .slice q3 L.ms.length k3, .slice q6 M.il.length k6, .slice q7 M.cl.length k7]), (22, .int .i64 3), (2, .pointer (some ⟨b2, 0, none⟩))], (b3, .cells (cla ⟨op, dst, cself, cfrm, cval, mv, cgas, .slice q6 M.il.length k6, .slice q7 M.cl.length k7, pl, n, cstat⟩) 33 (0, 0)) :: (b2, .cells (fra ⟨.slice q1 L.cl.length k1, pc, .slice q2 L.ws.length k2, .slice q3 L.ms.length k3, gas, self, frm, val, .slice q4 L.il.length k4, .slice q5 L.bl.length k5, stat⟩) 31 (0, 0)) :: (x.2 ++ (gi ++ (gk ++ (g2 ++ (rest)))))))
          (fun x => x.1 ≤ L.ms.length ∧ ∃ xs : List Value, (∀ u ∈ xs, ∃ m : Nat, u = .int .u8 (m : Int)) ∧ IsRow 5 1 (.slice q3 L.ms.length k3) L.ms.length xs x.2) (fun x => L.ms.length - x.1) (0, g3) ⟨Nat.zero_le _, _, ucs_ints L.ms, r3⟩ ⟨rfl, rfl, rfl, rfl, rfl, rfl, trivial⟩ (List.Sublist.cons_cons _ (List.Sublist.cons_cons _ (List.sublist_append_right _ _))) ?_
        rintro ⟨k, seg⟩ ⟨hk, xs, hall, hrow⟩
        dsimp only at hk hrow ⊢
        rcases Nat.lt_or_ge k L.ms.length with hlt | hge
        · obtain ⟨gm, cur, rfl, rfl, hn9, hm9, hsz9, htk9⟩ := hrow.pos (by omega)
          have hxl := hrow.len
          have hmx : maxLen = 9223372036854775807 := rfl
          obtain ⟨m9, hm8⟩ := hall (xs[k]'(by omega)) (List.getElem_mem _)
          have hrd9 : Rd Tryz.prog 5 (.cells cur 5 (0, 0)) (0 + k * 1) (.int .u8 (m9 : Int)) := by have h := Rd.one (P := Tryz.prog) (T := 5) (E := 5) (fr := (0, 0)) (cut_get (off := 0) (by rw [List.drop_zero]; exact htk9) (show xs[k]? = some (.int .u8 (m9 : Int)) by rw [List.getElem?_eq_getElem (by omega), hm8])); simpa using h
          obtain ⟨w1, w2⟩ := wr_take (i := k) (vs := [Value.int .u8 (((m9 + 1) % 256 : Nat) : Int)]) htk9 rfl hlt (by omega)
          have hW : Wr Tryz.prog 5 (.cells cur 5 (0, 0)) (0 + k * 1) (.int .u8 (((m9 + 1) % 256 : Nat) : Int)) (.cells (wrCells cur (k * 1) [Value.int .u8 (((m9 + 1) % 256 : Nat) : Int)]) 5 (0, 0)) := Wr.cells (z := .int .u8 0) (n := 1) rfl rfl (by rw [hsz9]; show 0 + k * 1 + 1 ≤ k3 * 1; omega) (by rw [Nat.zero_add]; rfl)
          (refine sRz ?_; refine lvz (.lssT rfl rfl (by omega)) ?_; refine nNz ?_; refine CW.seq ?_; refine cTz ?_; refine CW.skip ?_; refine thenN ?_; refine CW.seq ?_; refine CW.block ?_; refine sRz ?_; refine vMz ?_; refine vAz ?_; refine nNz ?_; refine CW.region ?_; refine vMz ?_; refine vMz ?_; refine lvz (.indexAddrS rfl rfl rfl (by omega)) ?_; refine ldz rfl (.tail (.tail .head)) hrd9 ?_; refine lvz (.addBL rfl rfl (by decide)) ?_; refine lvz (.indexAddrS rfl rfl rfl (by omega)) ?_; refine LW.store rfl rfl (.tail (.tail .head)) hW ?_; apply LW.nil; refine blkN ?_; refine thenN ?_; refine CW.region ?_; refine lvz (.addZL rfl rfl (by decide) (by omega)) ?_; refine vMz ?_; apply LW.nil)
          apply thenX
          refine ⟨rfl, (k + 1, _), ⟨hlt, _, ints_set (k := k * 1) (j := (k + 1) * 1) hall (by omega) ⟨_, rfl⟩, .own hn9 hm9 (by rw [w2, hsz9]) w1 (by simp only [List.length_append, List.length_take, List.length_drop, List.length_cons, List.length_nil]; omega)⟩, by show L.ms.length - (k + 1) < L.ms.length - k; omega, ⟨rfl, rfl, rfl, rfl, rfl, rfl, trivial⟩, List.Sublist.refl _⟩
        · (refine sRz ?_; refine lvz (.lssF rfl rfl (by omega)) ?_; refine nNz ?_; refine CW.seq ?_; refine cFz ?_; refine CW.exit ?_; refine thenE ?_; refine thenE ?_; refine blkE rfl ?_; refine blkN ?_; refine thenN ?_; refine CW.region ?_; refine lvz (.addI rfl rfl (by omega) (by omega)) ?_; refine vMz ?_; apply LW.nil; refine thenL ?_)
          apply RW.step
          (refine sRz ?_; refine lvz (.lssT rfl rfl (by omega)) ?_; refine nNz ?_; refine CW.seq ?_; refine cTz ?_; refine CW.skip ?_; refine thenN ?_; refine CW.seq ?_; refine CW.block ?_; refine sRz ?_; refine lvz (.indexAL rfl rfl rfl rfl rfl) ?_; refine vAz ?_; refine nSz ?_; refine vMz ?_; refine lvz (.lenR rfl inferInstance rfl) ?_; refine vMz ?_; refine nNz ?_; refine CW.block ?_)
          refine CW.loop (fun x : Nat × Fs => ([(27, .int .i64 (x.1 : Int)), (26, .int .i64 (M.il.length : Int)), (5, .slice q6 M.il.length k6), (21, .agg #[.slice q1 L.cl.length k1, .slice q4 L.il.length k4, .slice q5 L.bl.length k5, .slice q3 L.ms.length k3, .slice q6 M.il.length k6, .slice q7 M.cl.length k7]), (22, .int .i64 4), (2, .pointer (some ⟨b2, 0, none⟩))], (b3, .cells (cla ⟨op, dst, cself, cfrm, cval, mv, cgas, .slice q6 M.il.length k6, .slice q7 M.cl.length k7, pl, n, cstat⟩) 33 (0, 0)) :: (b2, .cells (fra ⟨.slice q1 L.cl.length k1, pc, .slice q2 L.ws.length k2, .slice q3 L.ms.length k3, gas, self, frm, val, .slice q4 L.il.length k4, .slice q5 L.bl.length k5, stat⟩) 31 (0, 0)) :: (x.2 ++ (gk ++ (g2 ++ (rest))))))
            (fun x => x.1 ≤ M.il.length ∧ ∃ xs : List Value, (∀ u ∈ xs, ∃ m : Nat, u = .int .u8 (m : Int)) ∧ IsRow 5 1 (.slice q6 M.il.length k6) M.il.length xs x.2) (fun x => M.il.length - x.1) (0, gi) ⟨Nat.zero_le _, _, ucs_ints M.il, r6⟩ ⟨rfl, rfl, rfl, rfl, rfl, rfl, trivial⟩ (List.Sublist.cons_cons _ (List.Sublist.cons_cons _ (List.sublist_append_right _ _))) ?_
          rintro ⟨k, seg⟩ ⟨hk, xs, hall, hrow⟩
          dsimp only at hk hrow ⊢
          rcases Nat.lt_or_ge k M.il.length with hlt | hge
          · obtain ⟨gm, cur, rfl, rfl, hn9, hm9, hsz9, htk9⟩ := hrow.pos (by omega)
            have hxl := hrow.len
            have hmx : maxLen = 9223372036854775807 := rfl
            obtain ⟨m9, hm8⟩ := hall (xs[k]'(by omega)) (List.getElem_mem _)
            have hrd9 : Rd Tryz.prog 5 (.cells cur 5 (0, 0)) (0 + k * 1) (.int .u8 (m9 : Int)) := by have h := Rd.one (P := Tryz.prog) (T := 5) (E := 5) (fr := (0, 0)) (cut_get (off := 0) (by rw [List.drop_zero]; exact htk9) (show xs[k]? = some (.int .u8 (m9 : Int)) by rw [List.getElem?_eq_getElem (by omega), hm8])); simpa using h
            obtain ⟨w1, w2⟩ := wr_take (i := k) (vs := [Value.int .u8 (((m9 + 1) % 256 : Nat) : Int)]) htk9 rfl hlt (by omega)
            have hW : Wr Tryz.prog 5 (.cells cur 5 (0, 0)) (0 + k * 1) (.int .u8 (((m9 + 1) % 256 : Nat) : Int)) (.cells (wrCells cur (k * 1) [Value.int .u8 (((m9 + 1) % 256 : Nat) : Int)]) 5 (0, 0)) := Wr.cells (z := .int .u8 0) (n := 1) rfl rfl (by rw [hsz9]; show 0 + k * 1 + 1 ≤ k6 * 1; omega) (by rw [Nat.zero_add]; rfl)
            (refine sRz ?_; refine lvz (.lssT rfl rfl (by omega)) ?_; refine nNz ?_; refine CW.seq ?_; refine cTz ?_; refine CW.skip ?_; refine thenN ?_; refine CW.seq ?_; refine CW.block ?_; refine sRz ?_; refine vMz ?_; refine vAz ?_; refine nNz ?_; refine CW.region ?_; refine vMz ?_; refine vMz ?_; refine lvz (.indexAddrS rfl rfl rfl (by omega)) ?_; refine ldz rfl (.tail (.tail .head)) hrd9 ?_; refine lvz (.addBL rfl rfl (by decide)) ?_; refine lvz (.indexAddrS rfl rfl rfl (by omega)) ?_; refine LW.store rfl rfl (.tail (.tail .head)) hW ?_; apply LW.nil; refine blkN ?_; refine thenN ?_; refine CW.region ?_; refine lvz (.addZL rfl rfl (by decide) (by omega)) ?_; refine vMz ?_; apply LW.nil)
            apply thenX
            refine ⟨rfl, (k + 1, _), ⟨hlt, _, ints_set (k := k * 1) (j := (k + 1) * 1) hall (by omega) ⟨_, rfl⟩, .own hn9 hm9 (by rw [w2, hsz9]) w1 (by simp only [List.length_append, List.length_take, List.length_drop, List.length_cons, List.length_nil]; omega)⟩, by show M.il.length - (k + 1) < M.il.length - k; omega, ⟨rfl, rfl, rfl, rfl, rfl, rfl, trivial⟩, List.Sublist.refl _⟩
          · (refine sRz ?_; refine lvz (.lssF rfl rfl (by omega)) ?_; refine nNz ?_; refine CW.seq ?_; refine cFz ?_; refine CW.exit ?_; refine thenE ?_; refine thenE ?_; refine blkE rfl ?_; refine blkN ?_; refine thenN ?_; refine CW.region ?_; refine lvz (.addI rfl rfl (by omega) (by omega)) ?_; refine vMz ?_; apply LW.nil; refine thenL ?_)
            apply RW.step
            (refine sRz ?_; refine lvz (.lssT rfl rfl (by omega)) ?_; refine nNz ?_; refine CW.seq ?_; refine cTz ?_; refine CW.skip ?_; refine thenN ?_; refine CW.seq ?_; refine CW.block ?_; refine sRz ?_; refine lvz (.indexAL rfl rfl rfl rfl rfl) ?_; refine vAz ?_; refine nSz ?_; refine vMz ?_; refine lvz (.lenR rfl inferInstance rfl) ?_; refine vMz ?_; refine nNz ?_; refine CW.block ?_)
            refine CW.loop (fun x : Nat × Fs => ([(27, .int .i64 (x.1 : Int)), (26, .int .i64 (M.cl.length : Int)), (5, .slice q7 M.cl.length k7), (21, .agg #[.slice q1 L.cl.length k1, .slice q4 L.il.length k4, .slice q5 L.bl.length k5, .slice q3 L.ms.length k3, .slice q6 M.il.length k6, .slice q7 M.cl.length k7]), (22, .int .i64 5), (2, .pointer (some ⟨b2, 0, none⟩))], (b3, .cells (cla ⟨op, dst, cself, cfrm, cval, mv, cgas, .slice q6 M.il.length k6, .slice q7 M.cl.length k7, pl, n, cstat⟩) 33 (0, 0)) :: (b2, .cells (fra ⟨.slice q1 L.cl.length k1, pc, .slice q2 L.ws.length k2, .slice q3 L.ms.length k3, gas, self, frm, val, .slice q4 L.il.length k4, .slice q5 L.bl.length k5, stat⟩) 31 (0, 0)) :: (x.2 ++ (g2 ++ (rest)))))
              (fun x => x.1 ≤ M.cl.length ∧ ∃ xs : List Value, (∀ u ∈ xs, ∃ m : Nat, u = .int .u8 (m : Int)) ∧ IsRow 5 1 (.slice q7 M.cl.length k7) M.cl.length xs x.2) (fun x => M.cl.length - x.1) (0, gk) ⟨Nat.zero_le _, _, ucs_ints M.cl, r7⟩ ⟨rfl, rfl, rfl, rfl, rfl, rfl, trivial⟩ (List.Sublist.cons_cons _ (List.Sublist.cons_cons _ (List.sublist_append_right _ _))) ?_
            rintro ⟨k, seg⟩ ⟨hk, xs, hall, hrow⟩
            dsimp only at hk hrow ⊢
            rcases Nat.lt_or_ge k M.cl.length with hlt | hge
            · obtain ⟨gm, cur, rfl, rfl, hn9, hm9, hsz9, htk9⟩ := hrow.pos (by omega)
              have hxl := hrow.len
              have hmx : maxLen = 9223372036854775807 := rfl
              obtain ⟨m9, hm8⟩ := hall (xs[k]'(by omega)) (List.getElem_mem _)
              have hrd9 : Rd Tryz.prog 5 (.cells cur 5 (0, 0)) (0 + k * 1) (.int .u8 (m9 : Int)) := by have h := Rd.one (P := Tryz.prog) (T := 5) (E := 5) (fr := (0, 0)) (cut_get (off := 0) (by rw [List.drop_zero]; exact htk9) (show xs[k]? = some (.int .u8 (m9 : Int)) by rw [List.getElem?_eq_getElem (by omega), hm8])); simpa using h
              obtain ⟨w1, w2⟩ := wr_take (i := k) (vs := [Value.int .u8 (((m9 + 1) % 256 : Nat) : Int)]) htk9 rfl hlt (by omega)
              have hW : Wr Tryz.prog 5 (.cells cur 5 (0, 0)) (0 + k * 1) (.int .u8 (((m9 + 1) % 256 : Nat) : Int)) (.cells (wrCells cur (k * 1) [Value.int .u8 (((m9 + 1) % 256 : Nat) : Int)]) 5 (0, 0)) := Wr.cells (z := .int .u8 0) (n := 1) rfl rfl (by rw [hsz9]; show 0 + k * 1 + 1 ≤ k7 * 1; omega) (by rw [Nat.zero_add]; rfl)
              (refine sRz ?_; refine lvz (.lssT rfl rfl (by omega)) ?_; refine nNz ?_; refine CW.seq ?_; refine cTz ?_; refine CW.skip ?_; refine thenN ?_; refine CW.seq ?_; refine CW.block ?_; refine sRz ?_; refine vMz ?_; refine vAz ?_; refine nNz ?_; refine CW.region ?_; refine vMz ?_; refine vMz ?_; refine lvz (.indexAddrS rfl rfl rfl (by omega)) ?_; refine ldz rfl (.tail (.tail .head)) hrd9 ?_; refine lvz (.addBL rfl rfl (by decide)) ?_; refine lvz (.indexAddrS rfl rfl rfl (by omega)) ?_; refine LW.store rfl rfl (.tail (.tail .head)) hW ?_; apply LW.nil; refine blkN ?_; refine thenN ?_; refine CW.region ?_; refine lvz (.addZL rfl rfl (by decide) (by omega)) ?_; refine vMz ?_; apply LW.nil)
              apply thenX
              refine ⟨rfl, (k + 1, _), ⟨hlt, _, ints_set (k := k * 1) (j := (k + 1) * 1) hall (by omega) ⟨_, rfl⟩, .own hn9 hm9 (by rw [w2, hsz9]) w1 (by simp only [List.length_append, List.length_take, List.length_drop, List.length_cons, List.length_nil]; omega)⟩, by show M.cl.length - (k + 1) < M.cl.length - k; omega, ⟨rfl, rfl, rfl, rfl, rfl, rfl, trivial⟩, List.Sublist.refl _⟩
            · (refine sRz ?_; refine lvz (.lssF rfl rfl (by omega)) ?_; refine nNz ?_; refine CW.seq ?_; refine cFz ?_; refine CW.exit ?_; refine thenE ?_; refine thenE ?_; refine blkE rfl ?_; refine blkN ?_; refine thenN ?_; refine CW.region ?_; refine lvz (.addI rfl rfl (by omega) (by omega)) ?_; refine vMz ?_; apply LW.nil; refine thenL ?_)
              apply RW.step
              (refine sRz ?_; refine lvz (.lssF rfl rfl (by omega)) ?_; refine nNz ?_; refine CW.seq ?_; refine cFz ?_; refine CW.exit ?_; refine thenE ?_; refine thenE ?_; refine blkE rfl ?_; refine thenN ?_; refine sRz ?_; refine vFz ?_; refine vFz ?_; refine ldz rfl (.tail .head) fr_rd2s ?_; refine lvz (.lenR rfl inferInstance rfl) ?_; refine vMz ?_; refine nNz ?_; refine CW.block ?_)
              refine CW.loop (fun x : Nat × Fs => ([(42, .int .i64 (x.1 : Int)), (41, .int .i64 (L.ws.length : Int)), (40, .slice q2 L.ws.length k2), (2, .pointer (some ⟨b2, 0, none⟩))], (b3, .cells (cla ⟨op, dst, cself, cfrm, cval, mv, cgas, .slice q6 M.il.length k6, .slice q7 M.cl.length k7, pl, n, cstat⟩) 33 (0, 0)) :: (b2, .cells (fra ⟨.slice q1 L.cl.length k1, pc, .slice q2 L.ws.length k2, .slice q3 L.ms.length k3, gas, self, frm, val, .slice q4 L.il.length k4, .slice q5 L.bl.length k5, stat⟩) 31 (0, 0)) :: (x.2 ++ rest)))
                (fun x => x.1 ≤ L.ws.length ∧ ∃ xs : List Value, (∀ u ∈ xs, ∃ m : Nat, u = .int .u64 (m : Int)) ∧ IsRow 29 4 (.slice q2 L.ws.length k2) L.ws.length xs x.2) (fun x => L.ws.length - x.1) (0, g2) ⟨Nat.zero_le _, _, wcs_ints L.ws, r2⟩ ⟨rfl, rfl, rfl, rfl, trivial⟩ (List.Sublist.cons_cons _ (List.Sublist.cons_cons _ (List.sublist_append_right _ _))) ?_
              rintro ⟨k, seg⟩ ⟨hk, xs, hall, hrow⟩
              dsimp only at hk hrow ⊢
              rcases Nat.lt_or_ge k L.ws.length with hlt | hge
              · obtain ⟨gm, cur, rfl, rfl, hn9, hm9, hsz9, htk9⟩ := hrow.pos (by omega)
                have hxl := hrow.len
                have hmx : maxLen = 9223372036854775807 := rfl
                obtain ⟨m9, hm8⟩ := hall (xs[k * 4]'(by omega)) (List.getElem_mem _)
                have hrd9 : Rd Tryz.prog 26 (.cells cur 29 (0, 0)) (0 + k * 4 + 0 * 1) (.int .u64 (m9 : Int)) := by have h := Rd.one (P := Tryz.prog) (T := 26) (E := 29) (fr := (0, 0)) (cut_get (off := 0) (by rw [List.drop_zero]; exact htk9) (show xs[k * 4]? = some (.int .u64 (m9 : Int)) by rw [List.getElem?_eq_getElem (by omega), hm8])); simpa using h
                obtain ⟨w1, w2⟩ := wr_take (xs := xs) (sz := 1) (m := L.ws.length * 4) (i := k * 4) (vs := [Value.int .u64 (((m9 + 1) % 18446744073709551616 : Nat) : Int)]) (by rw [Nat.mul_one]; exact htk9) rfl (by omega) (by rw [hsz9]; omega)
                have hW : Wr Tryz.prog 26 (.cells cur 29 (0, 0)) (0 + k * 4 + 0 * 1) (.int .u64 (((m9 + 1) % 18446744073709551616 : Nat) : Int)) (.cells (wrCells cur (k * 4 * 1) [Value.int .u64 (((m9 + 1) % 18446744073709551616 : Nat) : Int)]) 29 (0, 0)) := Wr.cells (z := .int .u64 0) (n := 1) rfl rfl (by rw [hsz9]; show 0 + k * 4 + 0 * 1 + 1 ≤ k2 * 4; omega) (by rw [show 0 + k * 4 + 0 * 1 = k * 4 * 1 by omega]; rfl)
                (refine sRz ?_; refine lvz (.lssT rfl rfl (by omega)) ?_; refine nNz ?_; refine CW.seq ?_; refine cTz ?_; refine CW.skip ?_; refine thenN ?_; refine CW.seq ?_; refine CW.block ?_; refine sRz ?_; refine vMz ?_; refine vAz ?_; refine nNz ?_; apply CW.pre; refine AnyW.any 9 mixed (by decide +kernel) ?_; (try simp only [tsOf_cons, tsOf_nil, tsOf_app]); refine dvz (.fieldAddr rfl rfl) ?_; refine dvz (.fieldAddr rfl rfl) ?_; apply DW.loadO; rfl; rfl; rfl; exact WantT.none; rfl; apply TRead.tail; apply TRead.head; exact ancB_nil; exact fr_rd2s; refine dvz (.move rfl) ?_; refine dvz (.indexAddrS rfl rfl rfl (by omega)) ?_; refine dvz (.indexAddrL rfl rfl rfl) ?_; apply DW.loadO; rfl; rfl; rfl; exact WantT.none; rfl; apply TRead.tail; apply TRead.tail; apply TRead.head; exact ancB_nil; exact hrd9; refine dvz (.addNL rfl rfl (by decide)) ?_; refine dvz (.indexAddrS rfl rfl rfl (by omega)) ?_; apply DW.nil; simp only [fsOf_cons, fsOf_nil, fsOf_app, fsOf_tsOf, fsOf_new]; refine lvz (.indexAddrL rfl rfl rfl) ?_; refine LW.store rfl rfl (.tail (.tail .head)) hW ?_; apply LW.nil; refine blkN ?_; refine thenN ?_; refine CW.region ?_; refine lvz (.addZL rfl rfl (by decide) (by omega)) ?_; refine vMz ?_; apply LW.nil)
                apply thenX
                refine ⟨rfl, (k + 1, _), ⟨hlt, _, ints_set (k := k * 4 * 1) (j := (k * 4 + 1) * 1) hall (by omega) ⟨_, rfl⟩, .own hn9 hm9 (by rw [w2, hsz9]) (by rw [Nat.mul_one] at w1; exact w1) (by simp only [List.length_append, List.length_take, List.length_drop, List.length_cons, List.length_nil]; omega)⟩, by show L.ws.length - (k + 1) < L.ws.length - k; omega, ⟨rfl, rfl, rfl, rfl, trivial⟩, by show List.Sublist _ (_ :: _ :: _ :: fsOf (tsOf rest)); rw [fsOf_tsOf]; exact List.Sublist.refl _⟩
              · (refine sRz ?_; refine lvz (.lssF rfl rfl (by omega)) ?_; refine nNz ?_; refine CW.seq ?_; refine cFz ?_; refine CW.exit ?_; refine thenE ?_; refine thenE ?_; refine blkE rfl ?_)
                exact inPI (.inr rfl) .nil rfl .nil rfl ⟨rest, ⟨rfl, rfl⟩, _, List.Sublist.cons _ (List.Sublist.cons _ (List.sublist_append_right _ _)), .refl _⟩
end Go.Proofs.YtpgdnfgjbhdbpaaGreatDoor
