/-
  Texts that were built apart, put behind one another (4 of 6): N9 NA NB NC ND NE NF NG NH NI NJ NK NL.
  Conditions: none.
-/
import Derived.Test.YtpgdnfgjbhdbpaaGreatDoorZ3
/-
  Frames: which may be.
  Conditions: none.
-/
namespace Go.Proofs.YtpgdnfgjbhdbpaaGreatDoor
open Go Go.RowKit SL
open CK (readB readFrom readFrom_step readFrom_hit readFrom_gt readFrom_end szOf szOf_le CheckC_calls)
set_option maxRecDepth 8000
set_option maxHeartbeats 4000000
set_option linter.unusedSimpArgs false
set_option linter.unusedVariables false
attribute [local irreducible] SL.CW SL.LW SL.DW Calls SL.Ret SL.RetG SL.beginQ SL.roundQ SL.rangeQ SL.inQ SL.RW SL.AnyW SL.thenQ SL.thenC SL.thenW SL.blkQ SL.finQ SL.ValP SL.NewP SL.SetP SL.CallP SL.Rd SL.Wr SL.Known
attribute [local irreducible] opOf szOf
/-! ### Is an operation read at a place? -/
def opX (b : Nat) : OpV := (opOf b).getD zeroOp
theorem opX_dt (b : Nat) : (opX b).dt = szOf b := by
  unfold opX szOf
  cases opOf b <;> rfl
theorem OfX_calls (b : Nat) (hb : b < 256) (w : World) : ∃ e : Int, (∀ w, Calls Tryz.prog 102 #[.int .u8 (b : Int)] w (Ret w (.tuple #[.agg (opc (opX b)), .int .i64 e]))) ∧ e = (if (opOf b).isSome then 0 else 4) := by
  cases ho : opOf b with
  | none => exact ⟨4, fun w => by have h := Of_op_calls b hb w; rw [ho] at h; unfold opX; rw [ho]; exact h, rfl⟩
  | some x => exact ⟨0, fun w => by have h := Of_op_calls b hb w; rw [ho] at h; unfold opX; rw [ho]; exact h, rfl⟩
attribute [local irreducible] opX
theorem fread_calls (bs : List UInt8) (hb : bs.length ≤ 1000) (i : Int) (v : Value) (w : World) (hv : RowAt w 1 v bs.length (ucs bs)) : Calls Tryz.prog 67 #[v, .int .i64 i] w (Ret w (.bool (readB bs i))) := by
  obtain ⟨p0, c0, rfl, hc0, hm0⟩ := hv.form
  have h0 : readFrom bs 0 i = readB bs i := by unfold readFrom readB; rw [List.drop_zero]
  refine enter (args := [_, _]) _ [] [] Tryz.func67 rfl Tryz.ntmps67 rfl (by simp) .nil ?_
  (refine sRz ?_; refine vAz ?_; refine nSz ?_; refine vAz ?_; refine nNz ?_; refine CW.seq ?_; refine CW.block ?_)
  refine CW.loop (fun k : Nat => ([(0, .slice p0 bs.length c0), (1, .int .i64 i), (4, .bool false), (5, .int .i64 (k : Int))], []))
    (fun k => k ≤ 2000 ∧ readFrom bs k i = readB bs i) (fun k => bs.length - k) 0 ⟨Nat.zero_le _, h0⟩ ⟨rfl, rfl, rfl, rfl, trivial⟩ (List.Sublist.refl _) ?_
  rintro k ⟨hk, hr⟩
  dsimp only
  rcases Nat.lt_or_ge k bs.length with hlt | hge
  · rcases Int.lt_or_le (k : Int) i with hki | hki
    · obtain ⟨b, off, c', cs, E, fr, heq, hbk, hx⟩ := hv.pos (by omega)
      cases heq
      have hst := readFrom_step hlt hki
      obtain ⟨u, hu⟩ : ∃ u, bs.getD k 0 = u := ⟨_, rfl⟩
      rw [hu, hr] at hst
      have hrd : Rd Tryz.prog 5 (.cells cs E fr) (off + k * 1) (.int .u8 (u.toNat : Int)) := Rd.elem1 hx (ucs_one bs) (List.getElem?_eq_getElem hlt) (by rw [← hu]; simp [hlt])
      obtain ⟨e, hOf, _⟩ := OfX_calls u.toNat u.toNat_lt w
      have hzl := szOf_le u.toNat
      rw [← opX_dt] at hst hzl
      rw [Nat.add_assoc] at hst
      (refine CW.seq ?_; refine sRz ?_; refine vMz ?_; refine vMz ?_; refine lvz (.lssT rfl rfl (by omega)) ?_; refine vMz ?_; refine gTz ?_; refine vMz ?_; refine gTz ?_; refine vMz ?_; refine gTz ?_; refine lvz (.lenR rfl inferInstance rfl) ?_; refine gTz ?_; refine lvz (.lssT rfl rfl (by omega)) ?_; refine pTz ?_; refine nNz ?_; refine cTz ?_; refine CW.skip ?_; refine thenN ?_; refine CW.block ?_; refine sRz ?_; refine vMz ?_; refine vMz ?_; refine lvz (.indexAddrS rfl rfl rfl (by omega)) ?_; apply LW.load; rfl; rfl; exact Known.ext (by assumption) (by simp); assumption; apply LW.callE; rfl; rfl; infer_instance; exact .cons rfl .nil; intro w _; exact hOf w; refine vMz ?_; refine vEz ?_; refine vEz ?_; apply LW.allocA; rfl; intro _; refine LW.store rfl rfl .head (.whole rfl rfl rfl) ?_; refine vAz ?_; refine nNz ?_; refine CW.region ?_; refine vMz ?_; refine vFz ?_; refine ldz rfl .head (Rd.one' rfl) ?_; refine lvz (.addZK rfl rfl (by decide) (by omega)) ?_; refine lvz (.addZ rfl rfl (by omega)) ?_; refine vAz ?_; apply LW.nil; refine blkN ?_)
      apply thenX
      exact ⟨rfl, k + (1 + (opX u.toNat).dt), ⟨by omega, hst⟩, by omega, ⟨rfl, rfl, rfl, rfl, trivial⟩, List.nil_sublist _⟩
    · rcases Int.lt_or_eq_of_le hki with hlt' | heq
      · rw [← hr, readFrom_gt hlt']
        have hne : ¬ (k : Int) = i := by omega
        (refine CW.seq ?_; refine sRz ?_; refine vMz ?_; refine vMz ?_; refine lvz (.lssF rfl rfl (by omega)) ?_; refine vMz ?_; (iterate 4 refine gFz ?_); refine pFz ?_; refine nNz ?_; refine cFz ?_; refine CW.exit ?_; refine thenE ?_; refine thenE ?_; refine blkE rfl ?_; refine thenN ?_; refine sRz ?_; refine vMz ?_; refine vMz ?_; refine lvz (.eqF rfl rfl (by omega)) ?_; refine vMz ?_; (iterate 4 refine gFz ?_); refine pFz ?_; refine vAz ?_; refine nNz ?_; refine CW.ret ?_)
        (apply finR; exact .inl rfl; rfl; rfl; rfl; apply ResL.cons; exact Res.tmp rfl; exact ResL.nil)
        rfl
      · subst heq
        rw [← hr, readFrom_hit hlt]
        (refine CW.seq ?_; refine sRz ?_; refine vMz ?_; refine vMz ?_; refine lvz (.lssF rfl rfl (by omega)) ?_; refine vMz ?_; (iterate 4 refine gFz ?_); refine pFz ?_; refine nNz ?_; refine cFz ?_; refine CW.exit ?_; refine thenE ?_; refine thenE ?_; refine blkE rfl ?_; refine thenN ?_; refine sRz ?_; refine vMz ?_; refine vMz ?_; refine lvz (.eqT rfl rfl (by omega)) ?_; refine vMz ?_; refine gTz ?_; refine vMz ?_; refine gTz ?_; refine vMz ?_; refine gTz ?_; refine lvz (.lenR rfl inferInstance rfl) ?_; refine gTz ?_; refine lvz (.lssT rfl rfl (by omega)) ?_; refine pTz ?_; refine vAz ?_; refine nNz ?_; refine CW.ret ?_)
        (apply finR; exact .inl rfl; rfl; rfl; rfl; apply ResL.cons; exact Res.tmp rfl; exact ResL.nil)
        rfl
  · rw [← hr, readFrom_end hge]
    rcases Int.lt_or_le (k : Int) i with hki | hki
    · have hne : ¬ (k : Int) = i := by omega
      (refine CW.seq ?_; refine sRz ?_; refine vMz ?_; refine vMz ?_; refine lvz (.lssT rfl rfl (by omega)) ?_; refine vMz ?_; refine gTz ?_; refine vMz ?_; refine gTz ?_; refine vMz ?_; refine gTz ?_; refine lvz (.lenR rfl inferInstance rfl) ?_; refine gTz ?_; refine lvz (.lssF rfl rfl (by omega)) ?_; refine pTz ?_; refine nNz ?_; refine cFz ?_; refine CW.exit ?_; refine thenE ?_; refine thenE ?_; refine blkE rfl ?_; refine thenN ?_; refine sRz ?_; refine vMz ?_; refine vMz ?_; refine lvz (.eqF rfl rfl (by omega)) ?_; refine vMz ?_; (iterate 4 refine gFz ?_); refine pFz ?_; refine vAz ?_; refine nNz ?_; refine CW.ret ?_)
      (apply finR; exact .inl rfl; rfl; rfl; rfl; apply ResL.cons; exact Res.tmp rfl; exact ResL.nil)
      rfl
    · by_cases heq : (k : Int) = i
      · subst heq
        (refine CW.seq ?_; refine sRz ?_; refine vMz ?_; refine vMz ?_; refine lvz (.lssF rfl rfl (by omega)) ?_; refine vMz ?_; (iterate 4 refine gFz ?_); refine pFz ?_; refine nNz ?_; refine cFz ?_; refine CW.exit ?_; refine thenE ?_; refine thenE ?_; refine blkE rfl ?_; refine thenN ?_; refine sRz ?_; refine vMz ?_; refine vMz ?_; refine lvz (.eqT rfl rfl (by omega)) ?_; refine vMz ?_; refine gTz ?_; refine vMz ?_; refine gTz ?_; refine vMz ?_; refine gTz ?_; refine lvz (.lenR rfl inferInstance rfl) ?_; refine gTz ?_; refine lvz (.lssF rfl rfl (by omega)) ?_; refine pTz ?_; refine vAz ?_; refine nNz ?_; refine CW.ret ?_)
        (apply finR; exact .inl rfl; rfl; rfl; rfl; apply ResL.cons; exact Res.tmp rfl; exact ResL.nil)
        rfl
      · (refine CW.seq ?_; refine sRz ?_; refine vMz ?_; refine vMz ?_; refine lvz (.lssF rfl rfl (by omega)) ?_; refine vMz ?_; (iterate 4 refine gFz ?_); refine pFz ?_; refine nNz ?_; refine cFz ?_; refine CW.exit ?_; refine thenE ?_; refine thenE ?_; refine blkE rfl ?_; refine thenN ?_; refine sRz ?_; refine vMz ?_; refine vMz ?_; refine lvz (.eqF rfl rfl (by omega)) ?_; refine vMz ?_; (iterate 4 refine gFz ?_); refine pFz ?_; refine vAz ?_; refine nNz ?_; refine CW.ret ?_)
        (apply finR; exact .inl rfl; rfl; rfl; rfl; apply ResL.cons; exact Res.tmp rfl; exact ResL.nil)
        rfl
/-! ### Frames -/
/-- What a frame's rows hold. -/
structure FrL where
  cl : List UInt8
  ws : List Nat
  ms : List UInt8
  il : List UInt8
  bl : List UInt8
structure FrRows (w : World) (f : FrV) (L : FrL) : Prop where
  c : RowAt w 1 f.code L.cl.length (ucs L.cl)
  s : RowAt w 4 f.stk L.ws.length (wcs L.ws)
  m : RowAt w 1 f.mem L.ms.length (ucs L.ms)
  i : RowAt w 1 f.inp L.il.length (ucs L.il)
  b : RowAt w 1 f.back L.bl.length (ucs L.bl)
theorem FrRows.st {w0 w : World} {f : FrV} {L : FrL} {fs : Fs} (h : FrRows w0 f L) (hs : St w0 [] fs w) : FrRows w f L := ⟨h.c.st hs, h.s.st hs, h.m.st hs, h.i.st hs, h.b.st hs⟩
theorem FrRows.bel {w0 w : World} {f : FrV} {L : FrL} (h : FrRows w0 f L) (hb : Bel w0.heap.size [] w0 w) : FrRows w f L := ⟨h.c.bel hb, h.s.bel hb, h.m.bel hb, h.i.bel hb, h.b.bel hb⟩
abbrev fra (f : FrV) : Array Value := (frc f).toArray
abbrev frv (f : FrV) : Value := .agg (fra f)
section rd
variable {P : Program} {T E : TypeId} {fr : Nat × Nat} {code stk mem inp back : Value} {pc : Int} {gas self frm val : Nat} {stat : Bool}
theorem fr_rd0 [AgI P T false] : Rd P T (.cells (fra ⟨code, pc, stk, mem, gas, self, frm, val, inp, back, stat⟩) E fr) 0 code := Rd.one rfl
theorem fr_rd1 [AgI P T false] : Rd P T (.cells (fra ⟨code, pc, stk, mem, gas, self, frm, val, inp, back, stat⟩) E fr) 1 (.int .i64 pc) := Rd.one rfl
theorem fr_rd2 [AgI P T true] {z : Value} [InfoI P T 2 z] : Rd P T (.cells (fra ⟨code, pc, stk, mem, gas, self, frm, val, inp, back, stat⟩) E fr) 2 (.agg #[stk, mem]) := Rd.mid (cs := [stk, mem]) rfl rfl
theorem fr_rd2s [AgI P T false] : Rd P T (.cells (fra ⟨code, pc, stk, mem, gas, self, frm, val, inp, back, stat⟩) E fr) 2 stk := Rd.one rfl
theorem fr_rd3 [AgI P T false] : Rd P T (.cells (fra ⟨code, pc, stk, mem, gas, self, frm, val, inp, back, stat⟩) E fr) 3 mem := Rd.one rfl
theorem fr_rd4 [AgI P T false] : Rd P T (.cells (fra ⟨code, pc, stk, mem, gas, self, frm, val, inp, back, stat⟩) E fr) 4 (.int .u64 (gas : Int)) := Rd.one rfl
theorem fr_rd5 [AgI P T false] : Rd P T (.cells (fra ⟨code, pc, stk, mem, gas, self, frm, val, inp, back, stat⟩) E fr) 5 (.int .u64 (self : Int)) := Rd.one rfl
theorem fr_rd6 [AgI P T false] : Rd P T (.cells (fra ⟨code, pc, stk, mem, gas, self, frm, val, inp, back, stat⟩) E fr) 6 (.int .u64 (frm : Int)) := Rd.one rfl
theorem fr_rd7 [AgI P T true] {z : Value} [InfoI P T 4 z] : Rd P T (.cells (fra ⟨code, pc, stk, mem, gas, self, frm, val, inp, back, stat⟩) E fr) 7 (wv val) := Rd.mid (cs := (wc val).toList) rfl rfl
theorem fr_rd11 [AgI P T false] : Rd P T (.cells (fra ⟨code, pc, stk, mem, gas, self, frm, val, inp, back, stat⟩) E fr) 11 inp := Rd.one rfl
theorem fr_rd12 [AgI P T false] : Rd P T (.cells (fra ⟨code, pc, stk, mem, gas, self, frm, val, inp, back, stat⟩) E fr) 12 back := Rd.one rfl
theorem fr_rd13 [AgI P T false] : Rd P T (.cells (fra ⟨code, pc, stk, mem, gas, self, frm, val, inp, back, stat⟩) E fr) 13 (.bool stat) := Rd.one rfl
theorem fr_rdW {f : FrV} {z : Value} [AgI P T true] [InfoI P T 14 z] : Rd P T (.cells (fra f) E fr) 0 (frv f) := Rd.whole rfl
end rd
/-- May a frame be? -/
def okF (f : FrV) (L : FrL) : Prop := (L.il.length ≤ 1024 ∧ L.bl.length ≤ 1024 ∧ f.gas ≤ 20000) ∧ ¬ f.self = 0 ∧ L.cl.length ≤ 200 ∧ okSc L.ws.length L.ms.length ∧ (f.pc = (L.cl.length : Int) ∨ readB L.cl f.pc = true)
instance (f : FrV) (L : FrL) : Decidable (okF f L) := by unfold okF; infer_instance
theorem fCheck_calls (f : FrV) (L : FrL) (w : World) (h : FrRows w f L) : Calls Tryz.prog 31 #[frv f] w (Ret w (.int .i64 (if okF f L then 0 else 240))) := by
  obtain ⟨e, he⟩ : ∃ e : Int, e = if okF f L then 0 else 240 := ⟨_, rfl⟩
  have hp : okF f L → e = 0 := fun h => by rw [he, if_pos h]
  have hn : ¬ okF f L → e = 240 := fun h => by rw [he, if_neg h]
  rw [← he]
  clear he
  unfold okF at hp hn
  obtain ⟨code, pc, stk, mem, gas, self, frm, val, inp, back, stat⟩ := f
  obtain ⟨h0, h2, h3, h11, h12⟩ := h
  dsimp only at h0 h2 h3 h11 h12 hp hn
  obtain ⟨p0, c0, rfl, _, hm0⟩ := h0.form
  obtain ⟨p2, c2, rfl, _, hm2⟩ := h2.form
  obtain ⟨p3, c3, rfl, _, hm3⟩ := h3.form
  obtain ⟨p11, c11, rfl, _, hm11⟩ := h11.form
  obtain ⟨p12, c12, rfl, _, hm12⟩ := h12.form
  have hS0 := scCheck_calls p2 p3 L.ws.length c2 L.ms.length c3 (by omega) (by omega)
  have hC0 : ∀ w' {fs}, St w [] fs w' → Calls Tryz.prog 48 #[.slice p0 L.cl.length c0] w' (Ret w' (.int .i64 (if L.cl.length ≤ 200 then 0 else 3))) := fun w' fs hst => CheckC_calls _ _ _ w' (h0.st hst)
  simp only [maxLen] at hm0 hm2 hm3 hm11 hm12
  refine enter (args := [_]) _ [] [] Tryz.func31 rfl Tryz.ntmps31 rfl (by simp) .nil ?_
  by_cases hc : L.cl.length ≤ 200
  · have hRd0 : ∀ w' {fs}, St w [] fs w' → Calls Tryz.prog 67 #[.slice p0 L.cl.length c0, .int .i64 pc] w' (Ret w' (.bool (readB L.cl pc))) := fun w' fs hst => fread_calls _ (by omega) _ _ w' (h0.st hst)
    rw [if_pos hc] at hC0
    have hC : ∀ w' {fs}, St w [] fs w' → Calls Tryz.prog 48 #[.slice p0 L.cl.length c0] w' (Ret w' (.int .i64 0)) := hC0
    by_cases hs : okSc L.ws.length L.ms.length
    · rw [if_pos hs] at hS0
      have hS : ∀ w', Calls Tryz.prog 66 #[.agg #[.slice p2 L.ws.length c2, .slice p3 L.ms.length c3]] w' (Ret w' (.int .i64 0)) := hS0
      simp only [hs, true_and] at hp hn
      by_cases hpc : pc = (L.cl.length : Int)
      · simp only [hpc, true_or, and_true] at hp hn
        subst hpc
        (refine sRz ?_; apply LW.boxA; rfl; rfl; intro _; refine vAz ?_; refine nSz ?_; refine vFz ?_; refine ldz rfl .head fr_rd11 ?_; refine lvz (.lenR rfl inferInstance rfl) ?_; refine lvz (.gtr rfl rfl) ?_; refine vMz ?_)
        (refine LW.guardDF rfl rfl rfl (fun hsq hsp => ?_) (fun hsq hsp => ?_))
        (refine vFz ?_; refine gTaz ?_; refine ldz rfl .head fr_rd12 ?_; refine gTaz ?_; refine lvz (.lenR rfl inferInstance rfl) ?_; refine gTaz ?_; refine lvz (.gtr rfl rfl) ?_; refine pFaz ?_; refine vMz ?_; refine LW.guardDF rfl rfl rfl (fun hsq hsp => ?_) (fun hsq hsp => ?_); refine vFz ?_; refine gTaz ?_; refine ldz rfl .head fr_rd4 ?_; refine gTaz ?_; refine lvz (.gtr rfl rfl) ?_; refine pFaz ?_; refine vAz ?_; refine nNz ?_; refine CW.seq ?_; refine sRz ?_; refine vMz ?_; refine vMz ?_; refine LW.guardDF rfl rfl rfl (fun hsq hsp => ?_) (fun hsq hsp => ?_); refine vFz ?_; refine gTaz ?_; refine ldz rfl .head fr_rd5 ?_; refine gTaz ?_; refine lvz (.eq rfl rfl) ?_; refine pFaz ?_; refine vMz ?_; refine LW.guardDF rfl rfl rfl (fun hsq hsp => ?_) (fun hsq hsp => ?_); refine vFz ?_; refine gTaz ?_; refine ldz rfl .head fr_rd0 ?_; refine gTaz ?_; apply LW.callE; rfl; rfl; infer_instance; exact .cons rfl .nil; intro w _; exact hC w (by assumption); refine gTaz ?_; refine lvz (.neF rfl rfl (by omega)) ?_; refine pFaz ?_; refine vMz ?_; refine gTz ?_; refine vFz ?_; refine gTz ?_; refine ldz rfl .head fr_rd2 ?_; refine gTz ?_; apply LW.callE; rfl; rfl; infer_instance; exact .cons rfl .nil; intro w _; exact hS w; refine gTz ?_; refine lvz (.neF rfl rfl (by omega)) ?_; refine pFz ?_; refine nNz ?_; refine cFz ?_; refine CW.skip ?_; refine thenN ?_; refine CW.seq ?_; refine sRz ?_; refine vFz ?_; refine ldz rfl .head fr_rd1 ?_; refine vFz ?_; refine ldz rfl .head fr_rd0 ?_; refine lvz (.lenR rfl inferInstance rfl) ?_; refine lvz (.neF rfl rfl (by omega)) ?_; refine vMz ?_; (iterate 6 refine gFz ?_); refine pFz ?_; refine nNz ?_; refine cFz ?_; refine CW.skip ?_; refine thenN ?_; refine sRz ?_; refine vAz ?_; refine nNz ?_; refine CW.ret ?_; apply finR; exact .inl rfl; rfl; rfl; rfl; apply ResL.cons; exact Res.tmp rfl; exact ResL.nil; rw [hp (by omega)]; rfl; (iterate 3 refine gFaz ?_); refine pTaz ?_; refine vMz ?_; (iterate 4 refine gFz ?_); refine pTz ?_; refine nNz ?_; refine cTz ?_; refine sRz ?_; refine vAz ?_; refine nNz ?_; refine CW.ret ?_; refine thenR (finR (.inl rfl) rfl rfl rfl (.cons (.tmp rfl) .nil) ?_); rw [hn (by omega)]; rfl; refine gFaz ?_; refine gFaz ?_; refine pTaz ?_; refine vMz ?_; (iterate 4 refine gFz ?_); refine pTz ?_; refine vMz ?_; (iterate 4 refine gFz ?_); refine pTz ?_; refine nNz ?_; refine cTz ?_; refine sRz ?_; refine vAz ?_; refine nNz ?_; refine CW.ret ?_; refine thenR (finR (.inl rfl) rfl rfl rfl (.cons (.tmp rfl) .nil) ?_); rw [hn (by omega)]; rfl; refine gFaz ?_; refine gFaz ?_; refine pTaz ?_; refine vAz ?_; refine nNz ?_; refine CW.seq ?_; refine sRz ?_; refine vMz ?_; refine vMz ?_; (iterate 3 refine gFz ?_); refine pTz ?_; refine vMz ?_; (iterate 4 refine gFz ?_); refine pTz ?_; refine vMz ?_; (iterate 4 refine gFz ?_); refine pTz ?_; refine nNz ?_; refine cTz ?_; refine sRz ?_; refine vAz ?_; refine nNz ?_; refine CW.ret ?_; refine thenR (finR (.inl rfl) rfl rfl rfl (.cons (.tmp rfl) .nil) ?_); rw [hn (by omega)]; rfl; (iterate 3 refine gFaz ?_); refine pTaz ?_; refine vMz ?_; (iterate 3 refine gFz ?_); refine pTz ?_; refine vAz ?_; refine nNz ?_; refine CW.seq ?_; refine sRz ?_; refine vMz ?_; refine vMz ?_; (iterate 3 refine gFz ?_); refine pTz ?_; refine vMz ?_; (iterate 4 refine gFz ?_); refine pTz ?_; refine vMz ?_; (iterate 4 refine gFz ?_); refine pTz ?_; refine nNz ?_; refine cTz ?_; refine sRz ?_; refine vAz ?_; refine nNz ?_; refine CW.ret ?_; refine thenR (finR (.inl rfl) rfl rfl rfl (.cons (.tmp rfl) .nil) ?_); rw [hn (by omega)]; rfl)
      · cases hr : readB L.cl pc with
        | true =>
          rw [hr] at hRd0 hp hn
          have hRd : ∀ w' {fs}, St w [] fs w' → Calls Tryz.prog 67 #[.slice p0 L.cl.length c0, .int .i64 pc] w' (Ret w' (.bool true)) := hRd0
          simp only [or_true, and_true] at hp hn
          (refine sRz ?_; apply LW.boxA; rfl; rfl; intro _; refine vAz ?_; refine nSz ?_; refine vFz ?_; refine ldz rfl .head fr_rd11 ?_; refine lvz (.lenR rfl inferInstance rfl) ?_; refine lvz (.gtr rfl rfl) ?_; refine vMz ?_)
          (refine LW.guardDF rfl rfl rfl (fun hsq hsp => ?_) (fun hsq hsp => ?_))
          (refine vFz ?_; refine gTaz ?_; refine ldz rfl .head fr_rd12 ?_; refine gTaz ?_; refine lvz (.lenR rfl inferInstance rfl) ?_; refine gTaz ?_; refine lvz (.gtr rfl rfl) ?_; refine pFaz ?_; refine vMz ?_; refine LW.guardDF rfl rfl rfl (fun hsq hsp => ?_) (fun hsq hsp => ?_); refine vFz ?_; refine gTaz ?_; refine ldz rfl .head fr_rd4 ?_; refine gTaz ?_; refine lvz (.gtr rfl rfl) ?_; refine pFaz ?_; refine vAz ?_; refine nNz ?_; refine CW.seq ?_; refine sRz ?_; refine vMz ?_; refine vMz ?_; refine LW.guardDF rfl rfl rfl (fun hsq hsp => ?_) (fun hsq hsp => ?_); refine vFz ?_; refine gTaz ?_; refine ldz rfl .head fr_rd5 ?_; refine gTaz ?_; refine lvz (.eq rfl rfl) ?_; refine pFaz ?_; refine vMz ?_; refine LW.guardDF rfl rfl rfl (fun hsq hsp => ?_) (fun hsq hsp => ?_); refine vFz ?_; refine gTaz ?_; refine ldz rfl .head fr_rd0 ?_; refine gTaz ?_; apply LW.callE; rfl; rfl; infer_instance; exact .cons rfl .nil; intro w _; exact hC w (by assumption); refine gTaz ?_; refine lvz (.neF rfl rfl (by omega)) ?_; refine pFaz ?_; refine vMz ?_; refine gTz ?_; refine vFz ?_; refine gTz ?_; refine ldz rfl .head fr_rd2 ?_; refine gTz ?_; apply LW.callE; rfl; rfl; infer_instance; exact .cons rfl .nil; intro w _; exact hS w; refine gTz ?_; refine lvz (.neF rfl rfl (by omega)) ?_; refine pFz ?_; refine nNz ?_; refine cFz ?_; refine CW.skip ?_; refine thenN ?_; refine CW.seq ?_; refine sRz ?_; refine vFz ?_; refine ldz rfl .head fr_rd1 ?_; refine vFz ?_; refine ldz rfl .head fr_rd0 ?_; refine lvz (.lenR rfl inferInstance rfl) ?_; refine lvz (.neT rfl rfl (by omega)) ?_; refine vMz ?_; refine gTz ?_; refine vFz ?_; refine gTz ?_; refine ldz rfl .head fr_rd0 ?_; refine gTz ?_; refine vFz ?_; refine gTz ?_; refine ldz rfl .head fr_rd1 ?_; refine gTz ?_; apply LW.callE; rfl; rfl; infer_instance; exact .cons rfl (.cons rfl .nil); intro w _; exact hRd w (by assumption); refine gTz ?_; refine lvz (.notT rfl (by with_reducible rfl)) ?_; refine pTz ?_; refine nNz ?_; refine cFz ?_; refine CW.skip ?_; refine thenN ?_; refine sRz ?_; refine vAz ?_; refine nNz ?_; refine CW.ret ?_; apply finR; exact .inl rfl; rfl; rfl; rfl; apply ResL.cons; exact Res.tmp rfl; exact ResL.nil; rw [hp (by omega)]; rfl; (iterate 3 refine gFaz ?_); refine pTaz ?_; refine vMz ?_; (iterate 4 refine gFz ?_); refine pTz ?_; refine nNz ?_; refine cTz ?_; refine sRz ?_; refine vAz ?_; refine nNz ?_; refine CW.ret ?_; refine thenR (finR (.inl rfl) rfl rfl rfl (.cons (.tmp rfl) .nil) ?_); rw [hn (by omega)]; rfl; refine gFaz ?_; refine gFaz ?_; refine pTaz ?_; refine vMz ?_; (iterate 4 refine gFz ?_); refine pTz ?_; refine vMz ?_; (iterate 4 refine gFz ?_); refine pTz ?_; refine nNz ?_; refine cTz ?_; refine sRz ?_; refine vAz ?_; refine nNz ?_; refine CW.ret ?_; refine thenR (finR (.inl rfl) rfl rfl rfl (.cons (.tmp rfl) .nil) ?_); rw [hn (by omega)]; rfl; refine gFaz ?_; refine gFaz ?_; refine pTaz ?_; refine vAz ?_; refine nNz ?_; refine CW.seq ?_; refine sRz ?_; refine vMz ?_; refine vMz ?_; (iterate 3 refine gFz ?_); refine pTz ?_; refine vMz ?_; (iterate 4 refine gFz ?_); refine pTz ?_; refine vMz ?_; (iterate 4 refine gFz ?_); refine pTz ?_; refine nNz ?_; refine cTz ?_; refine sRz ?_; refine vAz ?_; refine nNz ?_; refine CW.ret ?_; refine thenR (finR (.inl rfl) rfl rfl rfl (.cons (.tmp rfl) .nil) ?_); rw [hn (by omega)]; rfl; (iterate 3 refine gFaz ?_); refine pTaz ?_; refine vMz ?_; (iterate 3 refine gFz ?_); refine pTz ?_; refine vAz ?_; refine nNz ?_; refine CW.seq ?_; refine sRz ?_; refine vMz ?_; refine vMz ?_; (iterate 3 refine gFz ?_); refine pTz ?_; refine vMz ?_; (iterate 4 refine gFz ?_); refine pTz ?_; refine vMz ?_; (iterate 4 refine gFz ?_); refine pTz ?_; refine nNz ?_; refine cTz ?_; refine sRz ?_; refine vAz ?_; refine nNz ?_; refine CW.ret ?_; refine thenR (finR (.inl rfl) rfl rfl rfl (.cons (.tmp rfl) .nil) ?_); rw [hn (by omega)]; rfl)
        | false =>
          rw [hr] at hRd0 hp hn
          have hRd : ∀ w' {fs}, St w [] fs w' → Calls Tryz.prog 67 #[.slice p0 L.cl.length c0, .int .i64 pc] w' (Ret w' (.bool false)) := hRd0
          simp only [Bool.false_eq_true, or_false] at hp hn
          (refine sRz ?_; apply LW.boxA; rfl; rfl; intro _; refine vAz ?_; refine nSz ?_; refine vFz ?_; refine ldz rfl .head fr_rd11 ?_; refine lvz (.lenR rfl inferInstance rfl) ?_; refine lvz (.gtr rfl rfl) ?_; refine vMz ?_)
          (refine LW.guardDF rfl rfl rfl (fun hsq hsp => ?_) (fun hsq hsp => ?_))
          (refine vFz ?_; refine gTaz ?_; refine ldz rfl .head fr_rd12 ?_; refine gTaz ?_; refine lvz (.lenR rfl inferInstance rfl) ?_; refine gTaz ?_; refine lvz (.gtr rfl rfl) ?_; refine pFaz ?_; refine vMz ?_; refine LW.guardDF rfl rfl rfl (fun hsq hsp => ?_) (fun hsq hsp => ?_); refine vFz ?_; refine gTaz ?_; refine ldz rfl .head fr_rd4 ?_; refine gTaz ?_; refine lvz (.gtr rfl rfl) ?_; refine pFaz ?_; refine vAz ?_; refine nNz ?_; refine CW.seq ?_; refine sRz ?_; refine vMz ?_; refine vMz ?_; refine LW.guardDF rfl rfl rfl (fun hsq hsp => ?_) (fun hsq hsp => ?_); refine vFz ?_; refine gTaz ?_; refine ldz rfl .head fr_rd5 ?_; refine gTaz ?_; refine lvz (.eq rfl rfl) ?_; refine pFaz ?_; refine vMz ?_; refine LW.guardDF rfl rfl rfl (fun hsq hsp => ?_) (fun hsq hsp => ?_); refine vFz ?_; refine gTaz ?_; refine ldz rfl .head fr_rd0 ?_; refine gTaz ?_; apply LW.callE; rfl; rfl; infer_instance; exact .cons rfl .nil; intro w _; exact hC w (by assumption); refine gTaz ?_; refine lvz (.neF rfl rfl (by omega)) ?_; refine pFaz ?_; refine vMz ?_; refine gTz ?_; refine vFz ?_; refine gTz ?_; refine ldz rfl .head fr_rd2 ?_; refine gTz ?_; apply LW.callE; rfl; rfl; infer_instance; exact .cons rfl .nil; intro w _; exact hS w; refine gTz ?_; refine lvz (.neF rfl rfl (by omega)) ?_; refine pFz ?_; refine nNz ?_; refine cFz ?_; refine CW.skip ?_; refine thenN ?_; refine CW.seq ?_; refine sRz ?_; refine vFz ?_; refine ldz rfl .head fr_rd1 ?_; refine vFz ?_; refine ldz rfl .head fr_rd0 ?_; refine lvz (.lenR rfl inferInstance rfl) ?_; refine lvz (.neT rfl rfl (by omega)) ?_; refine vMz ?_; refine gTz ?_; refine vFz ?_; refine gTz ?_; refine ldz rfl .head fr_rd0 ?_; refine gTz ?_; refine vFz ?_; refine gTz ?_; refine ldz rfl .head fr_rd1 ?_; refine gTz ?_; apply LW.callE; rfl; rfl; infer_instance; exact .cons rfl (.cons rfl .nil); intro w _; exact hRd w (by assumption); refine gTz ?_; refine lvz (.notF rfl (by with_reducible rfl)) ?_; refine pTz ?_; refine nNz ?_; refine cTz ?_; refine sRz ?_; refine vAz ?_; refine nNz ?_; refine CW.ret ?_; refine thenR (finR (.inl rfl) rfl rfl rfl (.cons (.tmp rfl) .nil) ?_); rw [hn (by omega)]; rfl; (iterate 3 refine gFaz ?_); refine pTaz ?_; refine vMz ?_; (iterate 4 refine gFz ?_); refine pTz ?_; refine nNz ?_; refine cTz ?_; refine sRz ?_; refine vAz ?_; refine nNz ?_; refine CW.ret ?_; refine thenR (finR (.inl rfl) rfl rfl rfl (.cons (.tmp rfl) .nil) ?_); rw [hn (by omega)]; rfl; refine gFaz ?_; refine gFaz ?_; refine pTaz ?_; refine vMz ?_; (iterate 4 refine gFz ?_); refine pTz ?_; refine vMz ?_; (iterate 4 refine gFz ?_); refine pTz ?_; refine nNz ?_; refine cTz ?_; refine sRz ?_; refine vAz ?_; refine nNz ?_; refine CW.ret ?_; refine thenR (finR (.inl rfl) rfl rfl rfl (.cons (.tmp rfl) .nil) ?_); rw [hn (by omega)]; rfl; refine gFaz ?_; refine gFaz ?_; refine pTaz ?_; refine vAz ?_; refine nNz ?_; refine CW.seq ?_; refine sRz ?_; refine vMz ?_; refine vMz ?_; (iterate 3 refine gFz ?_); refine pTz ?_; refine vMz ?_; (iterate 4 refine gFz ?_); refine pTz ?_; refine vMz ?_; (iterate 4 refine gFz ?_); refine pTz ?_; refine nNz ?_; refine cTz ?_; refine sRz ?_; refine vAz ?_; refine nNz ?_; refine CW.ret ?_; refine thenR (finR (.inl rfl) rfl rfl rfl (.cons (.tmp rfl) .nil) ?_); rw [hn (by omega)]; rfl; (iterate 3 refine gFaz ?_); refine pTaz ?_; refine vMz ?_; (iterate 3 refine gFz ?_); refine pTz ?_; refine vAz ?_; refine nNz ?_; refine CW.seq ?_; refine sRz ?_; refine vMz ?_; refine vMz ?_; (iterate 3 refine gFz ?_); refine pTz ?_; refine vMz ?_; (iterate 4 refine gFz ?_); refine pTz ?_; refine vMz ?_; (iterate 4 refine gFz ?_); refine pTz ?_; refine nNz ?_; refine cTz ?_; refine sRz ?_; refine vAz ?_; refine nNz ?_; refine CW.ret ?_; refine thenR (finR (.inl rfl) rfl rfl rfl (.cons (.tmp rfl) .nil) ?_); rw [hn (by omega)]; rfl)
    · rw [if_neg hs] at hS0
      have hS : ∀ w', Calls Tryz.prog 66 #[.agg #[.slice p2 L.ws.length c2, .slice p3 L.ms.length c3]] w' (Ret w' (.int .i64 230)) := hS0
      rw [hn (fun h => hs h.2.2.2.1)] at *
      clear hp hn
      (refine sRz ?_; apply LW.boxA; rfl; rfl; intro _; refine vAz ?_; refine nSz ?_; refine vFz ?_; refine ldz rfl .head fr_rd11 ?_; refine lvz (.lenR rfl inferInstance rfl) ?_; refine lvz (.gtr rfl rfl) ?_; refine vMz ?_)
      (refine LW.guardDF rfl rfl rfl (fun hsq hsp => ?_) (fun hsq hsp => ?_))
      (refine vFz ?_; refine gTaz ?_; refine ldz rfl .head fr_rd12 ?_; refine gTaz ?_; refine lvz (.lenR rfl inferInstance rfl) ?_; refine gTaz ?_; refine lvz (.gtr rfl rfl) ?_; refine pFaz ?_; refine vMz ?_; refine LW.guardDF rfl rfl rfl (fun hsq hsp => ?_) (fun hsq hsp => ?_); refine vFz ?_; refine gTaz ?_; refine ldz rfl .head fr_rd4 ?_; refine gTaz ?_; refine lvz (.gtr rfl rfl) ?_; refine pFaz ?_; refine vAz ?_; refine nNz ?_; refine CW.seq ?_; refine sRz ?_; refine vMz ?_; refine vMz ?_; refine LW.guardDF rfl rfl rfl (fun hsq hsp => ?_) (fun hsq hsp => ?_); refine vFz ?_; refine gTaz ?_; refine ldz rfl .head fr_rd5 ?_; refine gTaz ?_; refine lvz (.eq rfl rfl) ?_; refine pFaz ?_; refine vMz ?_; refine LW.guardDF rfl rfl rfl (fun hsq hsp => ?_) (fun hsq hsp => ?_); refine vFz ?_; refine gTaz ?_; refine ldz rfl .head fr_rd0 ?_; refine gTaz ?_; apply LW.callE; rfl; rfl; infer_instance; exact .cons rfl .nil; intro w _; exact hC w (by assumption); refine gTaz ?_; refine lvz (.neF rfl rfl (by omega)) ?_; refine pFaz ?_; refine vMz ?_; refine gTz ?_; refine vFz ?_; refine gTz ?_; refine ldz rfl .head fr_rd2 ?_; refine gTz ?_; apply LW.callE; rfl; rfl; infer_instance; exact .cons rfl .nil; intro w _; exact hS w; refine gTz ?_; refine lvz (.neT rfl rfl (by omega)) ?_; refine pFz ?_; refine nNz ?_; refine cTz ?_; refine sRz ?_; refine vAz ?_; refine nNz ?_; refine CW.ret ?_; refine thenR (finR (.inl rfl) rfl rfl rfl (.cons (.tmp rfl) .nil) ?_); rfl; (iterate 3 refine gFaz ?_); refine pTaz ?_; refine vMz ?_; (iterate 4 refine gFz ?_); refine pTz ?_; refine nNz ?_; refine cTz ?_; refine sRz ?_; refine vAz ?_; refine nNz ?_; refine CW.ret ?_; refine thenR (finR (.inl rfl) rfl rfl rfl (.cons (.tmp rfl) .nil) ?_); rfl; refine gFaz ?_; refine gFaz ?_; refine pTaz ?_; refine vMz ?_; (iterate 4 refine gFz ?_); refine pTz ?_; refine vMz ?_; (iterate 4 refine gFz ?_); refine pTz ?_; refine nNz ?_; refine cTz ?_; refine sRz ?_; refine vAz ?_; refine nNz ?_; refine CW.ret ?_; refine thenR (finR (.inl rfl) rfl rfl rfl (.cons (.tmp rfl) .nil) ?_); rfl; refine gFaz ?_; refine gFaz ?_; refine pTaz ?_; refine vAz ?_; refine nNz ?_; refine CW.seq ?_; refine sRz ?_; refine vMz ?_; refine vMz ?_; (iterate 3 refine gFz ?_); refine pTz ?_; refine vMz ?_; (iterate 4 refine gFz ?_); refine pTz ?_; refine vMz ?_; (iterate 4 refine gFz ?_); refine pTz ?_; refine nNz ?_; refine cTz ?_; refine sRz ?_; refine vAz ?_; refine nNz ?_; refine CW.ret ?_; refine thenR (finR (.inl rfl) rfl rfl rfl (.cons (.tmp rfl) .nil) ?_); rfl; (iterate 3 refine gFaz ?_); refine pTaz ?_; refine vMz ?_; (iterate 3 refine gFz ?_); refine pTz ?_; refine vAz ?_; refine nNz ?_; refine CW.seq ?_; refine sRz ?_; refine vMz ?_; refine vMz ?_; (iterate 3 refine gFz ?_); refine pTz ?_; refine vMz ?_; (iterate 4 refine gFz ?_); refine pTz ?_; refine vMz ?_; (iterate 4 refine gFz ?_); refine pTz ?_; refine nNz ?_; refine cTz ?_; refine sRz ?_; refine vAz ?_; refine nNz ?_; refine CW.ret ?_; refine thenR (finR (.inl rfl) rfl rfl rfl (.cons (.tmp rfl) .nil) ?_); rfl)
  · rw [if_neg hc] at hC0
    have hC : ∀ w' {fs}, St w [] fs w' → Calls Tryz.prog 48 #[.slice p0 L.cl.length c0] w' (Ret w' (.int .i64 3)) := hC0
    rw [hn (fun h => hc h.2.2.1)] at *
    clear hp hn
    (refine sRz ?_; apply LW.boxA; rfl; rfl; intro _; refine vAz ?_; refine nSz ?_; refine vFz ?_; refine ldz rfl .head fr_rd11 ?_; refine lvz (.lenR rfl inferInstance rfl) ?_; refine lvz (.gtr rfl rfl) ?_; refine vMz ?_)
    (refine LW.guardDF rfl rfl rfl (fun hsq hsp => ?_) (fun hsq hsp => ?_))
    (refine vFz ?_; refine gTaz ?_; refine ldz rfl .head fr_rd12 ?_; refine gTaz ?_; refine lvz (.lenR rfl inferInstance rfl) ?_; refine gTaz ?_; refine lvz (.gtr rfl rfl) ?_; refine pFaz ?_; refine vMz ?_; refine LW.guardDF rfl rfl rfl (fun hsq hsp => ?_) (fun hsq hsp => ?_); refine vFz ?_; refine gTaz ?_; refine ldz rfl .head fr_rd4 ?_; refine gTaz ?_; refine lvz (.gtr rfl rfl) ?_; refine pFaz ?_; refine vAz ?_; refine nNz ?_; refine CW.seq ?_; refine sRz ?_; refine vMz ?_; refine vMz ?_; refine LW.guardDF rfl rfl rfl (fun hsq hsp => ?_) (fun hsq hsp => ?_); refine vFz ?_; refine gTaz ?_; refine ldz rfl .head fr_rd5 ?_; refine gTaz ?_; refine lvz (.eq rfl rfl) ?_; refine pFaz ?_; refine vMz ?_; refine LW.guardDF rfl rfl rfl (fun hsq hsp => ?_) (fun hsq hsp => ?_); refine vFz ?_; refine gTaz ?_; refine ldz rfl .head fr_rd0 ?_; refine gTaz ?_; apply LW.callE; rfl; rfl; infer_instance; exact .cons rfl .nil; intro w _; exact hC w (by assumption); refine gTaz ?_; refine lvz (.neT rfl rfl (by omega)) ?_; refine pFaz ?_; refine vMz ?_; (iterate 4 refine gFz ?_); refine pTz ?_; refine nNz ?_; refine cTz ?_; refine sRz ?_; refine vAz ?_; refine nNz ?_; refine CW.ret ?_; refine thenR (finR (.inl rfl) rfl rfl rfl (.cons (.tmp rfl) .nil) ?_); rfl; (iterate 3 refine gFaz ?_); refine pTaz ?_; refine vMz ?_; (iterate 4 refine gFz ?_); refine pTz ?_; refine nNz ?_; refine cTz ?_; refine sRz ?_; refine vAz ?_; refine nNz ?_; refine CW.ret ?_; refine thenR (finR (.inl rfl) rfl rfl rfl (.cons (.tmp rfl) .nil) ?_); rfl; refine gFaz ?_; refine gFaz ?_; refine pTaz ?_; refine vMz ?_; (iterate 4 refine gFz ?_); refine pTz ?_; refine vMz ?_; (iterate 4 refine gFz ?_); refine pTz ?_; refine nNz ?_; refine cTz ?_; refine sRz ?_; refine vAz ?_; refine nNz ?_; refine CW.ret ?_; refine thenR (finR (.inl rfl) rfl rfl rfl (.cons (.tmp rfl) .nil) ?_); rfl; refine gFaz ?_; refine gFaz ?_; refine pTaz ?_; refine vAz ?_; refine nNz ?_; refine CW.seq ?_; refine sRz ?_; refine vMz ?_; refine vMz ?_; (iterate 3 refine gFz ?_); refine pTz ?_; refine vMz ?_; (iterate 4 refine gFz ?_); refine pTz ?_; refine vMz ?_; (iterate 4 refine gFz ?_); refine pTz ?_; refine nNz ?_; refine cTz ?_; refine sRz ?_; refine vAz ?_; refine nNz ?_; refine CW.ret ?_; refine thenR (finR (.inl rfl) rfl rfl rfl (.cons (.tmp rfl) .nil) ?_); rfl; (iterate 3 refine gFaz ?_); refine pTaz ?_; refine vMz ?_; (iterate 3 refine gFz ?_); refine pTz ?_; refine vAz ?_; refine nNz ?_; refine CW.seq ?_; refine sRz ?_; refine vMz ?_; refine vMz ?_; (iterate 3 refine gFz ?_); refine pTz ?_; refine vMz ?_; (iterate 4 refine gFz ?_); refine pTz ?_; refine vMz ?_; (iterate 4 refine gFz ?_); refine pTz ?_; refine nNz ?_; refine cTz ?_; refine sRz ?_; refine vAz ?_; refine nNz ?_; refine CW.ret ?_; refine thenR (finR (.inl rfl) rfl rfl rfl (.cons (.tmp rfl) .nil) ?_); rfl)
end Go.Proofs.YtpgdnfgjbhdbpaaGreatDoor

/-
  A machine: memory reached, whatever is asked.
  Conditions: none.
-/
namespace Go.Proofs.YtpgdnfgjbhdbpaaGreatDoor
open Go Go.RowKit SL
set_option maxRecDepth 8000
set_option maxHeartbeats 4000000
set_option linter.unusedSimpArgs false
set_option linter.unusedVariables false
attribute [local irreducible] SL.CW SL.LW SL.DW Calls SL.Ret SL.RetG SL.beginQ SL.roundQ SL.rangeQ SL.inQ SL.RW SL.AnyW SL.thenQ SL.thenC SL.thenW SL.blkQ SL.finQ SL.ValP SL.NewP SL.SetP SL.CallP SL.Rd SL.Wr SL.Known
/-! ### Facts in another order -/
def catI {α : Type} (env : List (List α)) (xs : List Nat) (tail : List α) : List α := xs.foldr (fun i acc => env.getD i [] ++ acc) tail
theorem perm_ix {α : Type} (env : List (List α)) {xs ys : List Nat} (tail : List α) (h : xs.isPerm ys = true) : (catI env xs tail).Perm (catI env ys tail) := by
  have hp : xs.Perm ys := List.isPerm_iff.1 h
  clear h
  unfold catI
  induction hp with
  | nil => exact .refl _
  | cons x _ ih => exact List.Perm.append_left _ ih
  | swap x y l =>
    simp only [List.foldr_cons, ← List.append_assoc]
    exact List.Perm.append_right _ List.perm_append_comm
  | trans _ _ ih1 ih2 => exact ih1.trans ih2
/-- Some of these facts, in whatever order. -/
def SubP {α : Type} (l l' : List α) : Prop := ∃ m, l.Sublist m ∧ m.Perm l'
theorem catI_tail {α : Type} (env : List (List α)) (zs : List Nat) (tail : List α) : tail.Sublist (catI env zs tail) := by
  induction zs with
  | nil => exact .refl _
  | cons z zs ih => exact List.Sublist.trans ih (List.sublist_append_right _ _)
theorem catI_app {α : Type} (env : List (List α)) (xs zs : List Nat) (tail : List α) : (catI env xs tail).Sublist (catI env (xs ++ zs) tail) := by
  induction xs with
  | nil => exact catI_tail env zs tail
  | cons x xs ih => exact List.Sublist.append_left ih _
theorem subp_ix {α : Type} (env : List (List α)) {xs ys : List Nat} (tail : List α) (h : (xs ++ ys.filter fun y => !xs.contains y).isPerm ys = true) : SubP (catI env xs tail) (catI env ys tail) := ⟨_, catI_app env xs _ tail, perm_ix env tail h⟩
theorem SubP.st {w0 w : World} {S : List Nat} {fs gs : Fs} (h : SubP gs fs) (hs : St w0 S fs w) : St w0 S gs w := by
  obtain ⟨m, h1, h2⟩ := h
  exact st_sub (hs.perm h2) h1
theorem LW.subP {C : Cu} {ops : Array Oper} {Q : Post} {l : List Oper} {e : Env} {fs fs' : Fs} (hp : SubP fs' fs) (h : LW C ops Q l e fs') : LW C ops Q l e fs := by
  unfold LW at h ⊢
  exact fun a w hs => h a w ⟨hs.env, hp.st hs.st⟩
/-- An outcome, some of its facts told, in whatever order. -/
def anyO (K : Out) : Out := fun x fs' => ∃ fs'', K x fs'' ∧ SubP fs'' fs'
theorem calls_anyO {P : Program} {f : FuncId} {args : Array Value} {w0 w : World} {S : List Nat} {K : Out} (h : Calls P f args w (fun x w' => ∃ fs', anyO K x fs' ∧ St w0 S fs' w')) : Calls P f args w (fun x w' => ∃ fs', K x fs' ∧ St w0 S fs' w') :=
  Calls.mono h fun x w' ⟨fs', ⟨fs'', hk, hp⟩, hst⟩ => ⟨fs'', hk, hp.st hst⟩
/-- A frame whose rows are of its own. -/
def FrO (f : FrV) (L : FrL) (gs : Fs) : Prop := ∃ g1 g2 g3 g4 g5, (g1 ++ (g2 ++ (g3 ++ (g4 ++ g5)))).Perm gs ∧ bM L.cl f.code g1 ∧ wM L.ws f.stk g2 ∧ bM L.ms f.mem g3 ∧ bM L.il f.inp g4 ∧ bM L.bl f.back g5
theorem bM_at {l : List UInt8} {v : Value} {g : Fs} {w : World} (h : bM l v g) (hw : ∀ p ∈ g, w.heap[p.1]? = some p.2) : RowAt w 1 v l.length (ucs l) := IsRow.us h hw (List.Sublist.refl _)
theorem wM_at {l : List Nat} {v : Value} {g : Fs} {w : World} (h : wM l v g) (hw : ∀ p ∈ g, w.heap[p.1]? = some p.2) : RowAt w 4 v l.length (wcs l) := IsRow.us h hw (List.Sublist.refl _)
theorem FrO.rows {f : FrV} {L : FrL} {gs : Fs} {w : World} (h : FrO f L gs) (hw : ∀ p ∈ gs, w.heap[p.1]? = some p.2) : FrRows w f L := by
  obtain ⟨g1, g2, g3, g4, g5, hp, h1, h2, h3, h4, h5⟩ := h
  replace hw : ∀ p ∈ g1 ++ (g2 ++ (g3 ++ (g4 ++ g5))), w.heap[p.1]? = some p.2 := fun p h => hw p (hp.subset h)
  exact ⟨bM_at h1 fun p hp => hw p (by simp [hp]), wM_at h2 fun p hp => hw p (by simp [hp]), bM_at h3 fun p hp => hw p (by simp [hp]), bM_at h4 fun p hp => hw p (by simp [hp]), bM_at h5 fun p hp => hw p (by simp [hp])⟩
theorem FrO.st {f : FrV} {L : FrL} {gs fs : Fs} {w0 w : World} {S : List Nat} (h : FrO f L gs) (hs : St w0 S fs w) (hg : ∀ p ∈ gs, p ∈ fs) : FrRows w f L := h.rows fun p hp => (hs.own p (hg p hp)).2
attribute [local irreducible] SL.inP
def FrL.setM (L : FrL) (ms : List UInt8) : FrL := { L with ms := ms }
theorem FrO.setSc {f : FrV} {L : FrL} {g1 g2 g3 g4 g5 s1 s2 : Fs} {ms : List UInt8} {s k : Value} {g : Nat} (h : bM L.cl f.code g1 ∧ wM L.ws f.stk g2 ∧ bM L.ms f.mem g3 ∧ bM L.il f.inp g4 ∧ bM L.bl f.back g5) (h1 : wM L.ws s s1) (h2 : bM ms k s2) :
    FrO { f with gas := g, stk := s, mem := k } (L.setM ms) (g1 ++ (s1 ++ (s2 ++ (g4 ++ g5)))) := ⟨g1, s1, s2, g4, g5, .refl _, h.1, h1, h2, h.2.2.2.1, h.2.2.2.2⟩
theorem reach_ok (w0 : World) (S : List Nat) (b : Nat) (m : MaV) (L : FrL) (gs : Fs) (a n : Nat) (ha : a < M256) (hn0 : 0 < n) (hn : n < M256) (hE2 : endV a n ≤ 1024) (hok : okSc L.ws.length L.ms.length) (hg : m.fr.gas < 18446744073709551616) (hfr : FrO m.fr L gs) (rest : Fs) (w : World) (hs : St w0 S ((b, maO m) :: (gs ++ rest)) w)
    (hcost : memV L.ms.length (endV a n) ≤ m.fr.gas) :
    Calls Tryz.prog 146 #[.pointer (some ⟨b, 0, none⟩), wv a, wv n] w (fun x w' => ∃ fs', (x = .returned (.tuple #[.int .u64 (a : Int), .int .u64 (n : Int)]) ∧ ∃ s k gs', FrO { m.fr with gas := m.fr.gas - memV L.ms.length (endV a n), stk := s, mem := k } (L.setM (L.ms ++ List.replicate (upW (endV a n) - L.ms.length) 0)) gs' ∧ fs' = (b, maO ((m.setGas (m.fr.gas - memV L.ms.length (endV a n))).setSc s k)) :: (gs' ++ rest)) ∧ St w0 S fs' w') := by
  obtain ⟨g1, g2, g3, g4, g5, hp, hall⟩ := hfr
  replace hs : St w0 S ((b, maO m) :: (g1 ++ (g2 ++ (g3 ++ (g4 ++ g5))) ++ rest)) w := hs.perm (List.Perm.cons _ (hp.append_right rest))
  clear hp
  obtain ⟨_, _, hm3, _, _⟩ := id hall
  unfold bM at hm3
  obtain ⟨p2, c2, hmv⟩ := hm3.form
  have hk : L.ms.length ≤ 1024 := hok.2.1
  have hmem : ∀ {E fr}, Rd Tryz.prog 22 (.cells (mca m) E fr) 3 (.slice p2 L.ms.length c2) := fun {E fr} => by rw [← hmv]; exact ma_rd3
  have hEnd0 := End_calls a n ha hn
  have hMem0 := Memory_calls L.ms.length (endV a n) (by omega) (by omega)
  have hEa : a + n ≤ endV a n := by
    unfold endV at hE2 ⊢
    rw [if_neg (by omega)] at hE2 ⊢
    unfold NOG at hE2 ⊢
    omega
  have hSa0 := Small_calls a ha
  have hSn0 := Small_calls n hn
  obtain ⟨E, hE⟩ : ∃ E, E = endV a n := ⟨_, rfl⟩
  rw [← hE] at hEnd0 hMem0 hE2 hcost hEa ⊢
  clear hE
  obtain ⟨c, hc⟩ : ∃ c, c = memV L.ms.length E := ⟨_, rfl⟩
  rw [← hc] at hMem0 hcost ⊢
  clear hc
  rw [if_pos (by omega), decide_eq_true (by omega)] at hSa0 hSn0
  have hEnd : ∀ w, Calls Tryz.prog 158 #[wv a, wv n] w (Ret w (.int .u64 (E : Int))) := hEnd0
  have hMem : ∀ w, Calls Tryz.prog 159 #[.int .u64 (L.ms.length : Int), .int .u64 (E : Int)] w (Ret w (.int .u64 (c : Int))) := hMem0
  have hSa : ∀ w, Calls Tryz.prog 121 #[wv a] w (Ret w (.tuple #[.int .u64 (a : Int), .bool true])) := hSa0
  have hSn : ∀ w, Calls Tryz.prog 121 #[wv n] w (Ret w (.tuple #[.int .u64 (n : Int), .bool true])) := hSn0
  have hsp : spendM m [c] = some (m.setGas (m.fr.gas - c)) := by unfold spendM; rw [if_pos (by simp; omega)]; simp
  refine calls_anyO (calls_inlineP (K := anyO fun x fs' => x = .returned (.tuple #[.int .u64 (a : Int), .int .u64 (n : Int)]) ∧ ∃ s k gs', FrO { m.fr with gas := m.fr.gas - c, stk := s, mem := k } (L.setM (L.ms ++ List.replicate (upW E - L.ms.length) 0)) gs' ∧ fs' = (b, maO ((m.setGas (m.fr.gas - c)).setSc s k)) :: (gs' ++ rest)) (args := [_, _, _]) Tryz.func146 rfl Tryz.ntmps146 rfl ?_ hs)
  (refine sRz ?_; apply LW.boxA; rfl; rfl; intro _; apply LW.boxA; rfl; rfl; intro _; refine vAz ?_; refine vAz ?_; refine nSz ?_; refine ldz rfl (.tail .head) (Rd.whole rfl) ?_; refine ldz rfl .head (Rd.whole rfl) ?_; apply LW.callE; rfl; rfl; infer_instance; exact .cons rfl (.cons rfl .nil); intro w _; exact hEnd w; refine vAz ?_; refine nSz ?_; refine vMz ?_; refine vMz ?_; refine vNz ?_; refine vFz ?_; refine vFz ?_; refine vFz ?_; refine ldz rfl (.tail (.tail .head)) hmem ?_; refine lvz (.lenR rfl inferInstance rfl) ?_; refine lvz (.convN rfl (by omega) (by omega)) ?_; refine vMz ?_; apply LW.callE; rfl; rfl; infer_instance; exact .cons rfl (.cons rfl .nil); intro w _; exact hMem w; apply LW.lay1; rfl; infer_instance; infer_instance; rfl; rfl; rfl; rfl; rfl; rfl; intro _)
  rename_i b4 b5 b29
  refine LW.perm (fs' := (b, maO m) :: (b29, .cells #[.int .u64 (c : Int)] 26 (0, 0)) :: (b5, .cells (wc n) 29 (0, 0)) :: (b4, .cells (wc a) 29 (0, 0)) :: (g1 ++ (g2 ++ (g3 ++ (g4 ++ g5))) ++ rest)) (by exact (List.perm_middle (l₁ := [_, _, _])).symm) ?_
  refine LW.callP (K := MaK b m (spendM m [c]) _) rfl rfl inferInstance (by (exact .cons rfl (.cons rfl .nil))) rfl (fun fs h => ?_) (fun w' hst => spend_calls w0 S b m [c] hg _ _ w' hst (fun w2 h2 => row_cells (h2.own (b29, _) (List.Mem.tail _ (List.Mem.head _))).2 rfl rfl (by simp [maxLen]))) ?_ ?_
  · rw [hsp] at h; cases h.1
  · rintro v fs' h
    rw [hsp] at h
    obtain ⟨h, rfl⟩ := h
    have hmem : ∀ {E fr}, Rd Tryz.prog 22 (.cells (mca (m.setGas (m.fr.gas - c))) E fr) 3 (.slice p2 L.ms.length c2) := fun {E fr} => by rw [← hmv]; exact ma_rd3 (m := m.setGas (m.fr.gas - c))
    (refine nNz ?_; refine CW.seq ?_; refine sRz ?_; refine vMz ?_; refine lvz (.eqF rfl rfl (by omega)) ?_; refine nNz ?_; refine cFz ?_; refine CW.skip ?_; refine thenN ?_; refine sRz ?_; refine vMz ?_; refine vNz ?_; refine vFz ?_; refine vFz ?_; refine ldz rfl .head ma_rd2 ?_; refine vMz ?_)
    (apply LW.callR; rfl; rfl; infer_instance; exact .cons rfl (.cons rfl (.cons rfl .nil)); intro w hs)
    exact grow_ok L.ws L.ms E _ _ w ((FrO.st (f := m.fr) (L := L) (gs := g1 ++ (g2 ++ (g3 ++ (g4 ++ g5)))) ⟨g1, g2, g3, g4, g5, .refl _, hall⟩ hs (fun p hp => List.mem_cons_of_mem _ (by simp only [List.mem_cons, List.mem_append] at hp ⊢; simp [hp]))).s) ((FrO.st (f := m.fr) (L := L) (gs := g1 ++ (g2 ++ (g3 ++ (g4 ++ g5)))) ⟨g1, g2, g3, g4, g5, .refl _, hall⟩ hs (fun p hp => List.mem_cons_of_mem _ (by simp only [List.mem_cons, List.mem_append] at hp ⊢; simp [hp]))).m) hok (by omega) hE2
    rintro vo gso ⟨o, rfl, s1, m1, gg1, gg2, rfl, rfl, hw1, hb1⟩
    have hw1' := hw1
    have hb1' := hb1
    unfold wM at hw1'
    unfold bM at hb1'
    obtain ⟨q1, k1, rfl⟩ := hw1'.form
    obtain ⟨q2, k2, rfl⟩ := hb1'.form
    (refine vMz ?_; refine vEz ?_; refine vEz ?_; apply LW.allocA; rfl; intro _; refine LW.store rfl rfl .head (.whole rfl rfl rfl) ?_; refine vAz ?_; refine nSz ?_; refine vMz ?_; refine lvz (.eqT rfl rfl (by omega)) ?_; apply LW.callE; rfl; rfl; infer_instance; exact .cons rfl .nil; intro w _; exact need_true w; refine nSz ?_; refine vMz ?_; refine ldz rfl .head (Rd.whole rfl) ?_; refine vNz ?_; refine vFz ?_; refine vFz ?_; refine LW.store rfl rfl (.tail (.app .head)) (ma_wr2 rfl rfl rfl rfl) ?_; refine nSz ?_; refine ldz rfl (.tail (.app (.tail (.tail (.tail .head))))) (Rd.whole rfl) ?_; apply LW.callE; rfl; rfl; infer_instance; exact .cons rfl .nil; intro w _; exact hSa w; refine vMz ?_; refine vEz ?_; refine vEz ?_; refine vAz ?_; refine vAz ?_; refine nSz ?_; refine ldz rfl (.tail (.app (.tail (.tail .head)))) (Rd.whole rfl) ?_; apply LW.callE; rfl; rfl; infer_instance; exact .cons rfl .nil; intro w _; exact hSn w; refine vMz ?_; refine vEz ?_; refine vEz ?_; refine vAz ?_; refine vAz ?_; refine nSz ?_; refine vMz ?_; refine vMz ?_; refine vAz ?_; refine vAz ?_; refine nNz ?_; refine CW.ret ?_)
    refine inPI (.inl rfl) .nil rfl (by (apply ResL.cons; exact Res.tmp rfl; apply ResL.cons; exact Res.tmp rfl; exact ResL.nil)) rfl ⟨_, ⟨rfl, _, _, _, FrO.setSc hall hw1 hb1, rfl⟩, ?_⟩
    simp only [List.append_assoc, List.cons_append, List.nil_append]
    exact subp_ix [[_], [_], gg2, gg1, [_], [_], [_], g1, g2, g3, g4, g5] (xs := [4, 7, 3, 2, 10, 11]) (ys := [0, 2, 3, 4, 1, 5, 6, 7, 8, 9, 10, 11]) rest rfl
  · rintro ch fs' h
    rw [hsp] at h; cases h.1
/-! ### Whatever is asked -/
def costR (L : FrL) (a n : Nat) : Nat := memV L.ms.length (endV a n)
def memR (L : FrL) (a n : Nat) : FrL := L.setM (L.ms ++ List.replicate (upW (endV a n) - L.ms.length) 0)
def frR (f : FrV) (L : FrL) (a n : Nat) (s k : Value) : FrV := { f with gas := f.gas - costR L a n, stk := s, mem := k }
def MaV.setF (m : MaV) (f : FrV) : MaV := { m with fr := f }
def ReachK (b : Nat) (m : MaV) (L : FrL) (gs : Fs) (a n : Nat) (rest : Fs) : Out := fun x fs' =>
  (m.fr.gas < costR L a n ∧ x = .panicked failC ∧ fs' = (b, maO m) :: (gs ++ rest)) ∨
  (costR L a n ≤ m.fr.gas ∧ ∃ s k gs', x = .returned (.tuple #[.int .u64 ((if n = 0 then 0 else a : Nat) : Int), .int .u64 (n : Int)]) ∧ FrO (frR m.fr L a n s k) (memR L a n) gs' ∧ fs' = (b, maO (m.setF (frR m.fr L a n s k))) :: (gs' ++ rest))
theorem memV_le {k E g : Nat} (hk : k ≤ 1024) (hg : g ≤ 20000) (h : memV k E ≤ g) : E ≤ 1024 := by
  unfold memV at h
  split at h
  · omega
  · split at h <;> omega
theorem endV_lt (a n : Nat) : endV a n < 18446744073709551616 := by
  unfold endV NOG
  split <;> omega
theorem reach_calls (w0 : World) (S : List Nat) (b : Nat) (m : MaV) (L : FrL) (gs : Fs) (a n : Nat) (ha : a < M256) (hn : n < M256) (hok : okSc L.ws.length L.ms.length) (hg : m.fr.gas ≤ 20000) (hfr : FrO m.fr L gs) (rest : Fs) (w : World) (hs : St w0 S ((b, maO m) :: (gs ++ rest)) w) :
    Calls Tryz.prog 146 #[.pointer (some ⟨b, 0, none⟩), wv a, wv n] w (fun x w' => ∃ fs', ReachK b m L gs a n rest x fs' ∧ St w0 S fs' w') := by
  have hk : L.ms.length ≤ 1024 := hok.2.1
  have hm : ∃ p2 c2, m.fr.mem = .slice p2 L.ms.length c2 := by
    obtain ⟨g1, g2, g3, g4, g5, _, h1, h2, h3, h4, h5⟩ := hfr
    unfold bM at h3
    exact h3.form
  obtain ⟨p2, c2, hm⟩ := hm
  rcases Nat.lt_or_ge m.fr.gas (costR L a n) with hlt | hge
  · refine Calls.mono (reach_gas w0 S b m a n L.ms.length p2 c2 ha hn (endV_lt a n) hk (by omega) hm (gs ++ rest) w hs hlt) ?_
    rintro x w' ⟨fs', ⟨rfl, ex, rfl⟩, hst⟩
    exact ⟨_, .inl ⟨hlt, rfl, rfl⟩, st_sub hst (List.Sublist.cons_cons _ (List.sublist_append_right _ _))⟩
  · rcases Nat.eq_zero_or_pos n with rfl | hn0
    · refine Calls.mono (reach_none w0 S b m a 0 L.ms.length rfl p2 c2 ha hk (by omega) hm (gs ++ rest) w hs) ?_
      rintro x w' ⟨fs', ⟨rfl, ex, rfl⟩, hst⟩
      have he : endV a 0 = 0 := by simp [endV]
      have hc : costR L a 0 = 0 := by unfold costR; rw [he]; simp [memV]
      have hmr : memR L a 0 = L := by unfold memR FrL.setM; rw [he]; simp [upW]
      have hfr2 : frR m.fr L a 0 m.fr.stk m.fr.mem = m.fr := by unfold frR; rw [hc]; rfl
      refine ⟨_, .inr ⟨hge, m.fr.stk, m.fr.mem, gs, rfl, ?_, ?_⟩, st_sub hst (List.Sublist.cons_cons _ (List.sublist_append_right ex _))⟩
      · rw [hmr, hfr2]; exact hfr
      · rw [hfr2]; rfl
    · refine Calls.mono (reach_ok w0 S b m L gs a n ha hn0 hn (memV_le hk hg hge) hok (by omega) hfr rest w hs hge) ?_
      rintro x w' ⟨fs', ⟨rfl, s, k, gs', h1, rfl⟩, hst⟩
      refine ⟨_, .inr ⟨hge, s, k, gs', ?_, h1, rfl⟩, hst⟩
      rw [if_neg (by omega)]
end Go.Proofs.YtpgdnfgjbhdbpaaGreatDoor

/-
  Frames in memory of their own.
  Conditions: none.
-/
namespace Go.Proofs.YtpgdnfgjbhdbpaaGreatDoor
open Go Go.RowKit SL
set_option maxRecDepth 8000
set_option maxHeartbeats 4000000
set_option linter.unusedSimpArgs false
set_option linter.unusedVariables false
attribute [local irreducible] SL.CW SL.LW SL.DW Calls SL.Ret SL.RetG SL.beginQ SL.roundQ SL.rangeQ SL.inQ SL.RW SL.AnyW SL.thenQ SL.thenC SL.thenW SL.blkQ SL.finQ SL.ValP SL.NewP SL.SetP SL.CallP SL.Rd SL.Wr SL.Known
/-- A frame with other rows. -/
def FrV.rows (f : FrV) (c s m i b : Value) : FrV := ⟨c, f.pc, s, m, f.gas, f.self, f.frm, f.val, i, b, f.stat⟩
section wr
variable {P : Program} {T E : TypeId} {code stk mem inp back z : Value} {pc : Int} {gas self frm val n c : Nat} {stat : Bool} {p : Option Addr} {g : Nat}
theorem fr_wr0 [InfoI P T 1 z] : Wr P T (.cells (fra ⟨code, pc, stk, mem, gas, self, frm, val, inp, back, stat⟩) E (0, 0)) (0 + 0) (.slice p n c) (.cells (fra ⟨.slice p n c, pc, stk, mem, gas, self, frm, val, inp, back, stat⟩) E (0, 0)) := Wr.cells (n := 1) (z := z) rfl rfl (by show 0 + 0 + 1 ≤ 14; omega) rfl
theorem fr_wr2 [InfoI P T 1 z] : Wr P T (.cells (fra ⟨code, pc, stk, mem, gas, self, frm, val, inp, back, stat⟩) E (0, 0)) (0 + 2 + 0) (.slice p n c) (.cells (fra ⟨code, pc, .slice p n c, mem, gas, self, frm, val, inp, back, stat⟩) E (0, 0)) := Wr.cells (n := 1) (z := z) rfl rfl (by show 0 + 2 + 0 + 1 ≤ 14; omega) rfl
theorem fr_wr3 [InfoI P T 1 z] : Wr P T (.cells (fra ⟨code, pc, stk, mem, gas, self, frm, val, inp, back, stat⟩) E (0, 0)) (0 + 2 + 1) (.slice p n c) (.cells (fra ⟨code, pc, stk, .slice p n c, gas, self, frm, val, inp, back, stat⟩) E (0, 0)) := Wr.cells (n := 1) (z := z) rfl rfl (by show 0 + 2 + 1 + 1 ≤ 14; omega) rfl
theorem fr_wr4 {x : Nat} [InfoI P T 1 z] : Wr P T (.cells (fra ⟨code, pc, stk, mem, gas, self, frm, val, inp, back, stat⟩) E (0, 0)) (0 + 4) (.int .u64 (x : Int)) (.cells (fra ⟨code, pc, stk, mem, x, self, frm, val, inp, back, stat⟩) E (0, 0)) := Wr.cells (n := 1) (z := z) rfl rfl (by show 0 + 4 + 1 ≤ 14; omega) rfl
theorem fr_wr11 [InfoI P T 1 z] : Wr P T (.cells (fra ⟨code, pc, stk, mem, gas, self, frm, val, inp, back, stat⟩) E (0, 0)) (0 + 11) (.slice p n c) (.cells (fra ⟨code, pc, stk, mem, gas, self, frm, val, .slice p n c, back, stat⟩) E (0, 0)) := Wr.cells (n := 1) (z := z) rfl rfl (by show 0 + 11 + 1 ≤ 14; omega) rfl
theorem fr_wr12 [InfoI P T 1 z] : Wr P T (.cells (fra ⟨code, pc, stk, mem, gas, self, frm, val, inp, back, stat⟩) E (0, 0)) (0 + 12) (.slice p n c) (.cells (fra ⟨code, pc, stk, mem, gas, self, frm, val, inp, .slice p n c, stat⟩) E (0, 0)) := Wr.cells (n := 1) (z := z) rfl rfl (by show 0 + 12 + 1 ≤ 14; omega) rfl
end wr
/-- The values of a frame's rows are slices. -/
structure FrSl (f : FrV) : Prop where
  c : ∃ p n c, f.code = .slice p n c
  s : ∃ p n c, f.stk = .slice p n c
  m : ∃ p n c, f.mem = .slice p n c
  i : ∃ p n c, f.inp = .slice p n c
  b : ∃ p n c, f.back = .slice p n c
theorem FrRows.sl {w : World} {f : FrV} {L : FrL} (h : FrRows w f L) : FrSl f := by
  obtain ⟨a, b, h1, _⟩ := h.c.form
  obtain ⟨a2, b2, h2, _⟩ := h.s.form
  obtain ⟨a3, b3, h3, _⟩ := h.m.form
  obtain ⟨a4, b4, h4, _⟩ := h.i.form
  obtain ⟨a5, b5, h5, _⟩ := h.b.form
  exact ⟨⟨_, _, _, h1⟩, ⟨_, _, _, h2⟩, ⟨_, _, _, h3⟩, ⟨_, _, _, h4⟩, ⟨_, _, _, h5⟩⟩
theorem fr_cells {f : FrV} (h : FrSl f) : (fra f).toList.all Value.oneCell' = true := by
  obtain ⟨⟨_, _, _, h1⟩, ⟨_, _, _, h2⟩, ⟨_, _, _, h3⟩, ⟨_, _, _, h4⟩, ⟨_, _, _, h5⟩⟩ := h
  simp only [fra, frc, wc, List.cons_append, List.nil_append, List.all_cons, List.all_nil, h1, h2, h3, h4, h5]; rfl
theorem fr_wrW {P : Program} {T E : TypeId} {f : FrV} {z : Value} {cs : Array Value} [InfoI P T 14 z] (h : cs.size = 14) (hf : FrSl f) : Wr P T (.cells cs E (0, 0)) 0 (frv f) (.cells (fra f) E (0, 0)) := Wr.whole h rfl (fr_cells hf)
theorem perm5 {α : Type} (g1 g2 g3 g4 g5 : List α) : (g1 ++ (g2 ++ (g3 ++ (g4 ++ g5)))).Perm (g3 ++ (g2 ++ (g5 ++ (g4 ++ g1)))) := by
  have h := perm_ix [g1, g2, g3, g4, g5] (xs := [0, 1, 2, 3, 4]) (ys := [2, 1, 4, 3, 0]) [] rfl
  simpa [catI] using h
/-- Rows that are not too long. -/
def FrL.short (L : FrL) : Prop := L.cl.length ≤ 100000 ∧ L.ws.length ≤ 100000 ∧ L.ms.length ≤ 100000 ∧ L.il.length ≤ 100000 ∧ L.bl.length ≤ 100000
def CopyR (f : FrV) (L : FrL) (v : Value) (gs : Fs) : Prop := ∃ c s m i b, v = frv (f.rows c s m i b) ∧ FrO (f.rows c s m i b) L gs
theorem callCopied_calls (f : FrV) (L : FrL) (hl : L.short) (w : World) (h : FrRows w f L) : Calls Tryz.prog 41 #[frv f] w (RetG w [] (CopyR f L)) := by
  obtain ⟨code, pc, stk, mem, gas, self, frm, val, inp, back, stat⟩ := f
  obtain ⟨h0, h2, h3, h11, h12⟩ := h
  dsimp only at h0 h2 h3 h11 h12
  obtain ⟨p0, c0, rfl, _, hm0⟩ := id h0.form
  obtain ⟨p2, c2, rfl, _, hm2⟩ := id h2.form
  obtain ⟨p3, c3, rfl, _, hm3⟩ := id h3.form
  obtain ⟨p11, c11, rfl, _, hm11⟩ := id h11.form
  obtain ⟨p12, c12, rfl, _, hm12⟩ := id h12.form
  refine enter (args := [_]) _ [] [] Tryz.func41 rfl Tryz.ntmps41 rfl (by simp) .nil ?_
  (refine sRz ?_; apply LW.boxA; rfl; rfl; intro _; apply LW.allocA; rfl; intro _; refine nNz ?_; refine CW.seq ?_)
  rename_i b1 b2
  apply CW.pre
  (refine AnyW.anyM [(2, bM L.cl), (5, bM L.il), (8, bM L.bl)] 10 mixed (by decide +kernel) ?_)
  ((try simp only [tsOf_cons, tsOf_nil, tsOf_app]); refine dvz (.fieldAddr rfl rfl) ?_; apply DW.loadO; rfl; rfl; rfl; exact WantT.none; rfl; apply TRead.tail; apply TRead.head; exact ancB_nil; exact fr_rd0)
  (apply DW.manyV; rfl; rfl; rfl; exact WantT.none; rfl; infer_instance; exact .cons rfl .nil; apply RdV.ext; assumption; rfl; exact RdV.nil; intro w _ _)
  exact SK.Clone_calls _ _ w (h0.bel (by assumption)) hl.1
  intro v1 g1 h1
  ((try simp only [tsOf_cons, tsOf_nil, tsOf_app]); refine dvz (.fieldAddr rfl rfl) ?_; apply DW.loadO; rfl; rfl; rfl; exact WantT.none; rfl; apply TRead.app; apply TRead.tail; apply TRead.head; exact ancB_nil; exact fr_rd11)
  (apply DW.manyV; rfl; rfl; rfl; exact WantT.none; rfl; infer_instance; exact .cons rfl .nil; apply RdV.ext; assumption; rfl; exact RdV.nil; intro w _ _)
  exact SK.Clone_calls _ _ w (h11.bel (by assumption)) hl.2.2.2.1
  intro v4 g4 h4
  ((try simp only [tsOf_cons, tsOf_nil, tsOf_app]); refine dvz (.fieldAddr rfl rfl) ?_; apply DW.loadO; rfl; rfl; rfl; exact WantT.none; rfl; apply TRead.app; apply TRead.app; apply TRead.tail; apply TRead.head; exact ancB_nil; exact fr_rd12)
  (apply DW.manyV; rfl; rfl; rfl; exact WantT.none; rfl; infer_instance; exact .cons rfl .nil; apply RdV.ext; assumption; rfl; exact RdV.nil; intro w _ _)
  exact SK.Clone_calls _ _ w (h12.bel (by assumption)) hl.2.2.2.2
  intro v5 g5 h5
  have h1' := h1
  have h4' := h4
  have h5' := h5
  unfold bM at h1' h4' h5'
  obtain ⟨q1, k1, rfl⟩ := h1'.form
  obtain ⟨q4, k4, rfl⟩ := h4'.form
  obtain ⟨q5, k5, rfl⟩ := h5'.form
  ((try simp only [tsOf_cons, tsOf_nil, tsOf_app]); refine dvz (.fieldAddr rfl rfl) ?_; apply DW.nil; simp only [fsOf_cons, fsOf_nil, fsOf_app, fsOf_tsOf, fsOf_new, fsOf_tag])
  (refine LW.store rfl rfl (.app (.app (.app (.tail .head)))) fr_wr0 ?_; refine vFz ?_; refine LW.store rfl rfl (.app (.app (.app (.tail .head)))) fr_wr11 ?_; refine vFz ?_; refine LW.store rfl rfl (.app (.app (.app (.tail .head)))) fr_wr12 ?_; refine nNz ?_; refine CW.seq ?_)
  apply CW.pre
  (refine AnyW.anyM [(3, wM L.ws), (7, bM L.ms)] 10 mixed (by decide +kernel) ?_)
  ((try simp only [tsOf_cons, tsOf_nil, tsOf_app]); refine dvz (.fieldAddr rfl rfl) ?_; refine dvz (.fieldAddr rfl rfl) ?_; apply DW.loadO; rfl; rfl; rfl; exact WantT.none; rfl; apply TRead.app; apply TRead.app; apply TRead.app; apply TRead.tail; apply TRead.head; exact ancB_nil; exact fr_rd2s)
  (apply DW.manyV; rfl; rfl; rfl; exact WantT.none; rfl; infer_instance; exact .cons rfl .nil; apply RdV.ext; assumption; rfl; exact RdV.nil; intro w _ _)
  exact CloneW_calls _ _ w (h2.bel (by assumption)) hl.2.1
  intro v2 g2 hh2
  ((try simp only [tsOf_cons, tsOf_nil, tsOf_app]); refine dvz (.fieldAddr rfl rfl) ?_; refine dvz (.fieldAddr rfl rfl) ?_; apply DW.loadO; rfl; rfl; rfl; exact WantT.none; rfl; apply TRead.app; apply TRead.app; apply TRead.app; apply TRead.app; apply TRead.tail; apply TRead.head; exact ancB_nil; exact fr_rd3)
  (apply DW.manyV; rfl; rfl; rfl; exact WantT.none; rfl; infer_instance; exact .cons rfl .nil; apply RdV.ext; assumption; rfl; exact RdV.nil; intro w _ _)
  exact SK.Clone_calls _ _ w (h3.bel (by assumption)) hl.2.2.1
  intro v3 g3 hh3
  have h2' := hh2
  have h3' := hh3
  unfold wM at h2'
  unfold bM at h3'
  obtain ⟨q2, k2, rfl⟩ := h2'.form
  obtain ⟨q3, k3, rfl⟩ := h3'.form
  ((try simp only [tsOf_cons, tsOf_nil, tsOf_app]); refine dvz (.fieldAddr rfl rfl) ?_; refine dvz (.fieldAddr rfl rfl) ?_; apply DW.nil; simp only [fsOf_cons, fsOf_nil, fsOf_app, fsOf_tsOf, fsOf_new, fsOf_tag])
  have hsl : FrSl ⟨.slice q1 L.cl.length k1, pc, .slice q2 L.ws.length k2, .slice q3 L.ms.length k3, gas, self, frm, val, .slice q4 L.il.length k4, .slice q5 L.bl.length k5, stat⟩ := ⟨⟨_, _, _, rfl⟩, ⟨_, _, _, rfl⟩, ⟨_, _, _, rfl⟩, ⟨_, _, _, rfl⟩, ⟨_, _, _, rfl⟩⟩
  (refine LW.store rfl rfl (.app (.app (.app (.app (.app (.tail .head)))))) fr_wr2 ?_; refine vFz ?_; refine vFz ?_; refine LW.store rfl rfl (.app (.app (.app (.app (.app (.tail .head)))))) fr_wr3 ?_; refine nSz ?_; refine ldz rfl (.app (.app (.app (.app (.app (.tail .head)))))) fr_rdW ?_; apply LW.store; rfl; rfl; apply SetAt.app; apply SetAt.app; apply SetAt.app; apply SetAt.app; apply SetAt.app; apply SetAt.head; apply fr_wrW; rfl; assumption; refine nNz ?_; refine CW.ret ?_)
  refine fin (vs := [frv ⟨.slice q1 L.cl.length k1, pc, .slice q2 L.ws.length k2, .slice q3 L.ms.length k3, gas, self, frm, val, .slice q4 L.il.length k4, .slice q5 L.bl.length k5, stat⟩]) (g3 ++ (g2 ++ (g5 ++ (g4 ++ g1)))) (.inl rfl) rfl rfl (by (apply ResL.cons; apply Res.cell; rfl; apply Known.at; apply FsAt.app; apply FsAt.app; apply FsAt.app; apply FsAt.app; apply FsAt.app; apply FsAt.head; exact fr_rdW; exact ResL.nil)) ?_ ⟨_, _, _, _, _, rfl, g1, g2, g3, g4, g5, ?_, h1, hh2, hh3, h4, h5⟩
  · exact List.Sublist.append_left (List.Sublist.append_left (List.Sublist.append_left (List.Sublist.append_left (List.sublist_append_left _ _) _) _) _) _
  · exact perm5 g1 g2 g3 g4 g5
/-- A machine that has done nothing yet. -/
def ma0 (f : FrV) (e0 e1 e2 e3 : Nat) : MaV := ⟨f, e0, e1, e2, e3, .slice none 0 0, 0, 0, .slice none 0 0, .slice none 0 0⟩
def OfR (f : FrV) (L : FrL) (e0 e1 e2 e3 : Nat) (v : Value) (gs : Fs) : Prop := ∃ bm c s m i b g, v = .pointer (some ⟨bm, 0, none⟩) ∧ gs = (bm, maO (ma0 (f.rows c s m i b) e0 e1 e2 e3)) :: g ∧ FrO (f.rows c s m i b) L g
def enva (e0 e1 e2 e3 : Nat) : Array Value := #[.int .u64 (e0 : Int), .int .u64 (e1 : Int), .int .u64 (e2 : Int), .int .u64 (e3 : Int)]
theorem fOf_calls (f : FrV) (L : FrL) (e0 e1 e2 e3 : Nat) (hl : L.short) (w : World) (h : FrRows w f L) : Calls Tryz.prog 113 #[frv f, .agg (enva e0 e1 e2 e3)] w (RetG w [] (OfR f L e0 e1 e2 e3)) := by
  obtain ⟨code, pc, stk, mem, gas, self, frm, val, inp, back, stat⟩ := f
  obtain ⟨h0, h2, h3, h11, h12⟩ := h
  dsimp only at h0 h2 h3 h11 h12
  obtain ⟨p0, c0, rfl, _, hm0⟩ := id h0.form
  obtain ⟨p2, c2, rfl, _, hm2⟩ := id h2.form
  obtain ⟨p3, c3, rfl, _, hm3⟩ := id h3.form
  obtain ⟨p11, c11, rfl, _, hm11⟩ := id h11.form
  obtain ⟨p12, c12, rfl, _, hm12⟩ := id h12.form
  refine enter (args := [_, _]) _ [] [] Tryz.func113 rfl Tryz.ntmps113 rfl (by simp) .nil ?_
  (refine sRz ?_; apply LW.boxA; rfl; rfl; intro _; apply LW.boxA; rfl; rfl; intro _; refine vAz ?_; refine nNz ?_; refine CW.seq ?_)
  rename_i b1 b2
  apply CW.pre
  (refine AnyW.anyM [(2, bM L.cl), (5, bM L.il), (8, bM L.bl)] 10 mixed (by decide +kernel) ?_)
  ((try simp only [tsOf_cons, tsOf_nil, tsOf_app]); refine dvz (.fieldAddr rfl rfl) ?_; apply DW.loadO; rfl; rfl; rfl; exact WantT.none; rfl; apply TRead.tail; apply TRead.head; exact ancB_nil; exact fr_rd0)
  (apply DW.manyV; rfl; rfl; rfl; exact WantT.none; rfl; infer_instance; exact .cons rfl .nil; apply RdV.ext; assumption; rfl; exact RdV.nil; intro w _ _)
  exact SK.Clone_calls _ _ w (h0.bel (by assumption)) hl.1
  intro v1 g1 h1
  ((try simp only [tsOf_cons, tsOf_nil, tsOf_app]); refine dvz (.fieldAddr rfl rfl) ?_; apply DW.loadO; rfl; rfl; rfl; exact WantT.none; rfl; apply TRead.app; apply TRead.tail; apply TRead.head; exact ancB_nil; exact fr_rd11)
  (apply DW.manyV; rfl; rfl; rfl; exact WantT.none; rfl; infer_instance; exact .cons rfl .nil; apply RdV.ext; assumption; rfl; exact RdV.nil; intro w _ _)
  exact SK.Clone_calls _ _ w (h11.bel (by assumption)) hl.2.2.2.1
  intro v4 g4 h4
  ((try simp only [tsOf_cons, tsOf_nil, tsOf_app]); refine dvz (.fieldAddr rfl rfl) ?_; apply DW.loadO; rfl; rfl; rfl; exact WantT.none; rfl; apply TRead.app; apply TRead.app; apply TRead.tail; apply TRead.head; exact ancB_nil; exact fr_rd12)
  (apply DW.manyV; rfl; rfl; rfl; exact WantT.none; rfl; infer_instance; exact .cons rfl .nil; apply RdV.ext; assumption; rfl; exact RdV.nil; intro w _ _)
  exact SK.Clone_calls _ _ w (h12.bel (by assumption)) hl.2.2.2.2
  intro v5 g5 h5
  have h1' := h1
  have h4' := h4
  have h5' := h5
  unfold bM at h1' h4' h5'
  obtain ⟨q1, k1, rfl⟩ := h1'.form
  obtain ⟨q4, k4, rfl⟩ := h4'.form
  obtain ⟨q5, k5, rfl⟩ := h5'.form
  ((try simp only [tsOf_cons, tsOf_nil, tsOf_app]); refine dvz (.fieldAddr rfl rfl) ?_; apply DW.nil; simp only [fsOf_cons, fsOf_nil, fsOf_app, fsOf_tsOf, fsOf_new, fsOf_tag])
  (refine LW.store rfl rfl (.app (.app (.app (.tail .head)))) fr_wr0 ?_; refine vFz ?_; refine LW.store rfl rfl (.app (.app (.app (.tail .head)))) fr_wr11 ?_; refine vFz ?_; refine LW.store rfl rfl (.app (.app (.app (.tail .head)))) fr_wr12 ?_; refine nNz ?_; refine CW.seq ?_)
  apply CW.pre
  (refine AnyW.anyM [(3, wM L.ws), (7, bM L.ms)] 10 mixed (by decide +kernel) ?_)
  ((try simp only [tsOf_cons, tsOf_nil, tsOf_app]); refine dvz (.fieldAddr rfl rfl) ?_; refine dvz (.fieldAddr rfl rfl) ?_; apply DW.loadO; rfl; rfl; rfl; exact WantT.none; rfl; apply TRead.app; apply TRead.app; apply TRead.app; apply TRead.tail; apply TRead.head; exact ancB_nil; exact fr_rd2s)
  (apply DW.manyV; rfl; rfl; rfl; exact WantT.none; rfl; infer_instance; exact .cons rfl .nil; apply RdV.ext; assumption; rfl; exact RdV.nil; intro w _ _)
  exact CloneW_calls _ _ w (h2.bel (by assumption)) hl.2.1
  intro v2 g2 hh2
  ((try simp only [tsOf_cons, tsOf_nil, tsOf_app]); refine dvz (.fieldAddr rfl rfl) ?_; refine dvz (.fieldAddr rfl rfl) ?_; apply DW.loadO; rfl; rfl; rfl; exact WantT.none; rfl; apply TRead.app; apply TRead.app; apply TRead.app; apply TRead.app; apply TRead.tail; apply TRead.head; exact ancB_nil; exact fr_rd3)
  (apply DW.manyV; rfl; rfl; rfl; exact WantT.none; rfl; infer_instance; exact .cons rfl .nil; apply RdV.ext; assumption; rfl; exact RdV.nil; intro w _ _)
  exact SK.Clone_calls _ _ w (h3.bel (by assumption)) hl.2.2.1
  intro v3 g3 hh3
  have h2' := hh2
  have h3' := hh3
  unfold wM at h2'
  unfold bM at h3'
  obtain ⟨q2, k2, rfl⟩ := h2'.form
  obtain ⟨q3, k3, rfl⟩ := h3'.form
  ((try simp only [tsOf_cons, tsOf_nil, tsOf_app]); refine dvz (.fieldAddr rfl rfl) ?_; refine dvz (.fieldAddr rfl rfl) ?_; apply DW.nil; simp only [fsOf_cons, fsOf_nil, fsOf_app, fsOf_tsOf, fsOf_new, fsOf_tag])
  have hsl : FrSl ⟨.slice q1 L.cl.length k1, pc, .slice q2 L.ws.length k2, .slice q3 L.ms.length k3, gas, self, frm, val, .slice q4 L.il.length k4, .slice q5 L.bl.length k5, stat⟩ := ⟨⟨_, _, _, rfl⟩, ⟨_, _, _, rfl⟩, ⟨_, _, _, rfl⟩, ⟨_, _, _, rfl⟩, ⟨_, _, _, rfl⟩⟩
  (refine LW.store rfl rfl (.app (.app (.app (.app (.app (.tail .head)))))) fr_wr2 ?_; refine vFz ?_; refine vFz ?_; refine LW.store rfl rfl (.app (.app (.app (.app (.app (.tail .head)))))) fr_wr3 ?_; refine nSz ?_; refine ldz rfl (.app (.app (.app (.app (.app (.tail .head)))))) fr_rdW ?_; refine ldz rfl (.app (.app (.app (.app (.app .head))))) (Rd.whole rfl) ?_; apply LW.v0; rfl; rfl; apply ValP.buildT; infer_instance; infer_instance; apply PartsOk.cons; rfl; apply PartsOk.cons; rfl; exact PartsOk.nil; rfl; simp only [fillP, wrCells, fra, frc, enva, wc, Value.cells, List.getElem?_cons_zero, List.getElem?_cons_succ, List.toList_toArray, List.setIfInBounds_toArray, List.set_cons_succ, List.set_cons_zero, List.cons_append, List.nil_append, Nat.reduceAdd, Nat.zero_add]; rfl; apply LW.boxA; rfl; rfl; intro _; refine vAz ?_; refine nNz ?_; refine CW.ret ?_)
  rename_i bm
  refine fin (vs := [.pointer (some ⟨bm, 0, none⟩)]) ((bm, maO (ma0 ⟨.slice q1 L.cl.length k1, pc, .slice q2 L.ws.length k2, .slice q3 L.ms.length k3, gas, self, frm, val, .slice q4 L.il.length k4, .slice q5 L.bl.length k5, stat⟩ e0 e1 e2 e3)) :: (g3 ++ (g2 ++ (g5 ++ (g4 ++ g1))))) (.inl rfl) rfl rfl (by (apply ResL.cons; exact Res.tmp rfl; exact ResL.nil)) ?_ ⟨bm, _, _, _, _, _, _, rfl, rfl, g1, g2, g3, g4, g5, perm5 g1 g2 g3 g4 g5, h1, hh2, hh3, h4, h5⟩
  exact List.Sublist.cons_cons _ (List.Sublist.append_left (List.Sublist.append_left (List.Sublist.append_left (List.Sublist.append_left (List.sublist_append_left _ _) _) _) _) _)
end Go.Proofs.YtpgdnfgjbhdbpaaGreatDoor

/-
  Frames that are told what they asked for, and in which memory is reached.
  Conditions: none.
-/
namespace Go.Proofs.YtpgdnfgjbhdbpaaGreatDoor
open Go Go.RowKit SL
set_option maxRecDepth 8000
set_option maxHeartbeats 4000000
set_option linter.unusedSimpArgs false
set_option linter.unusedVariables false
attribute [local irreducible] SL.CW SL.LW SL.DW Calls SL.Ret SL.RetG SL.beginQ SL.roundQ SL.rangeQ SL.inQ SL.RW SL.AnyW SL.thenQ SL.thenC SL.thenW SL.blkQ SL.finQ SL.ValP SL.NewP SL.SetP SL.CallP SL.Rd SL.Wr SL.Known
attribute [local irreducible] SL.inP
/-- A frame with another gas, and other words and bytes. -/
def FrV.setR (f : FrV) (g : Nat) (s k : Value) : FrV := { f with gas := g, stk := s, mem := k }
/-- A frame with another gas, and other rows. -/
def FrV.rowsG (f : FrV) (g : Nat) (c s m i b : Value) : FrV := ⟨c, f.pc, s, m, g, f.self, f.frm, f.val, i, b, f.stat⟩
def FrL.setW (L : FrL) (ws : List Nat) : FrL := { L with ws := ws }
theorem FrO.sl {f : FrV} {L : FrL} {gs : Fs} (h : FrO f L gs) : FrSl f := by
  obtain ⟨g1, g2, g3, g4, g5, _, h1, h2, h3, h4, h5⟩ := h
  unfold bM at h1 h3 h4 h5
  unfold wM at h2
  obtain ⟨_, _, h1⟩ := h1.form
  obtain ⟨_, _, h2⟩ := h2.form
  obtain ⟨_, _, h3⟩ := h3.form
  obtain ⟨_, _, h4⟩ := h4.form
  obtain ⟨_, _, h5⟩ := h5.form
  exact ⟨⟨_, _, _, h1⟩, ⟨_, _, _, h2⟩, ⟨_, _, _, h3⟩, ⟨_, _, _, h4⟩, ⟨_, _, _, h5⟩⟩
/-! ### Words laid -/
def LayK (b : Nat) (m : MaV) (L : FrL) (gs : Fs) (l : List Nat) (rest : Fs) : Out := fun x fs' =>
  (64 < L.ws.length + l.length ∧ x = .panicked failC ∧ fs' = (b, maO m) :: (gs ++ rest)) ∨
  (L.ws.length + l.length ≤ 64 ∧ ∃ s k gs', x = .returned (.tuple #[]) ∧ FrO (m.fr.setR m.fr.gas s k) (L.setW (L.ws ++ l)) gs' ∧ fs' = (b, maO (m.setF (m.fr.setR m.fr.gas s k))) :: (gs' ++ rest))
theorem lay_calls (w0 : World) (S : List Nat) (b : Nat) (m : MaV) (L : FrL) (gs : Fs) (l : List Nat) (v : Value) (hok : okSc L.ws.length L.ms.length) (hll : l.length ≤ 100000) (hfr : FrO m.fr L gs) (rest : Fs) (w : World)
    (hv : ∀ w', St w0 S ((b, maO m) :: (gs ++ rest)) w' → RowAt w' 4 v l.length (wcs l)) (hs : St w0 S ((b, maO m) :: (gs ++ rest)) w) :
    Calls Tryz.prog 78 #[.pointer (some ⟨b, 0, none⟩), v] w (fun x w' => ∃ fs', LayK b m L gs l rest x fs' ∧ St w0 S fs' w') := by
  have h1 : ∀ w', St w0 S ((b, maO m) :: (gs ++ rest)) w' → RowAt w' 4 m.fr.stk L.ws.length (wcs L.ws) ∧ RowAt w' 1 m.fr.mem L.ms.length (ucs L.ms) ∧ RowAt w' 4 v l.length (wcs l) := fun w' h => by
    have hr := hfr.st h fun p hp => List.mem_cons_of_mem _ (List.mem_append_left _ hp)
    exact ⟨hr.s, hr.m, hv w' h⟩
  rcases Nat.lt_or_ge 64 (L.ws.length + l.length) with hlt | hge
  · refine Calls.mono (lay_full w0 S b m L.ws L.ms l v (gs ++ rest) w hs h1 hok hll hlt) ?_
    rintro x w' ⟨fs', ⟨rfl, c4, rfl⟩, hst⟩
    exact ⟨_, .inl ⟨hlt, rfl, rfl⟩, st_sub hst (List.Sublist.cons _ (List.Sublist.refl _))⟩
  · refine Calls.mono (lay_ok w0 S b m L.ws L.ms l v (gs ++ rest) w hs h1 hok hll hge) ?_
    rintro x w' ⟨fs', ⟨rfl, s, k, gs2, c4, ⟨s', k', gg1, gg2, he, rfl, hw1, hb1⟩, rfl⟩, hst⟩
    cases he
    obtain ⟨g1, g2, g3, g4, g5, hp, hall⟩ := hfr
    replace hst := hst.perm (fs' := c4 :: ((gg2 ++ gg1) ++ (b, maO (m.setSc s k)) :: ((g1 ++ (g2 ++ (g3 ++ (g4 ++ g5)))) ++ rest))) (List.Perm.cons _ (List.Perm.append_left _ (List.Perm.cons _ (hp.append_right rest))))
    refine ⟨_, .inr ⟨hge, s, k, g1 ++ (gg1 ++ (gg2 ++ (g4 ++ g5))), rfl, ⟨g1, gg1, gg2, g4, g5, .refl _, hall.1, hw1, hb1, hall.2.2.2.1, hall.2.2.2.2⟩, rfl⟩, SubP.st ?_ hst⟩
    simp only [List.append_assoc, List.cons_append, List.nil_append]
    exact subp_ix [[_], gg2, gg1, [_], g1, g2, g3, g4, g5] (xs := [3, 4, 2, 1, 7, 8]) (ys := [0, 1, 2, 3, 4, 5, 6, 7, 8]) rest rfl
/-! ### Something is done to a frame -/
def DoK (b : Nat) (f : FrV) (R : Option (Nat × FrL)) (rest : Fs) : Out := fun x fs' => match R with
  | none => x = .panicked failC ∧ fs' = rest
  | some (g, L') => ∃ s k gs', x = .returned (.tuple #[]) ∧ FrO (f.setR g s k) L' gs' ∧ fs' = (b, maO (ma0 (f.setR g s k) 0 0 0 0)) :: (gs' ++ rest)
def zeroF : FrV := ⟨.slice none 0 0, 0, .slice none 0 0, .slice none 0 0, 0, 0, 0, 0, .slice none 0 0, .slice none 0 0, false⟩
def zeroL : FrL := ⟨[], [], [], [], []⟩
theorem zero_frO : FrO zeroF zeroL [] := ⟨[], [], [], [], [], .refl _, .nil, .nil, .nil, .nil, .nil⟩
def ToldK (f : FrV) (R : Option (Nat × FrL)) (fs : Fs) : Out := fun x fs' => match R with
  | none => x = .returned (.tuple #[frv zeroF, .bool false]) ∧ fs' = fs
  | some (g, L') => ∃ c s m i b gs', x = .returned (.tuple #[frv (f.rowsG g c s m i b), .bool true]) ∧ FrO (f.rowsG g c s m i b) L' gs' ∧ fs' = gs' ++ fs
/-- What a function does to each machine that begins as this frame. -/
def Does (w0 : World) (S : List Nat) (f : FrV) (L : FrL) (fs : Fs) (fn : FuncId) (cap : Array Value) (R : Option (Nat × FrL)) : Prop :=
  ∀ b c s m i b5 gs rest w', FrO (f.rows c s m i b5) L gs → (∀ p ∈ fs, p ∈ rest) → St w0 S ((b, maO (ma0 (f.rows c s m i b5) 0 0 0 0)) :: (gs ++ rest)) w' →
    Calls Tryz.prog fn (Value.pointer (some ⟨b, 0, none⟩) :: cap.toList).toArray w' (fun x w'' => ∃ fs', DoK b (f.rows c s m i b5) R rest x fs' ∧ St w0 S fs' w'')
theorem told1_calls (w0 : World) (S : List Nat) (f : FrV) (L : FrL) (fs : Fs) (fn : FuncId) (cap : Array Value) (R : Option (Nat × FrL)) (hF : FnI Tryz.prog fn) (hd : Does w0 S f L fs fn cap R) (b b3 b6 : Nat) (c s m i b5 : Value) (gs R0 : Fs) (hfr : FrO (f.rows c s m i b5) L gs)
    (hsub : ∀ p ∈ fs, p ∈ R0) (h3 : (b3, Obj.cells #[.func (.func fn) #[] cap] 119 (0, 0)) ∈ R0) (h6 : (b6, Obj.cells #[.pointer (some ⟨b, 0, none⟩)] 116 (0, 0)) ∈ R0) (w : World) (hs : St w0 S ((b, maO (ma0 (f.rows c s m i b5) 0 0 0 0)) :: (gs ++ R0)) w) :
    Calls Tryz.prog 115 #[.pointer (some ⟨b3, 0, none⟩), .pointer (some ⟨b6, 0, none⟩)] w (fun x w' => ∃ fs', DoK b (f.rows c s m i b5) R R0 x fs' ∧ St w0 S fs' w') := by
  have k3 : (b3, Obj.cells #[.func (.func fn) #[] cap] 119 (0, 0)) ∈ (b, maO (ma0 (f.rows c s m i b5) 0 0 0 0)) :: (gs ++ R0) := List.mem_cons_of_mem _ (List.mem_append_right _ h3)
  have k6 : (b6, Obj.cells #[.pointer (some ⟨b, 0, none⟩)] 116 (0, 0)) ∈ (b, maO (ma0 (f.rows c s m i b5) 0 0 0 0)) :: (gs ++ R0) := List.mem_cons_of_mem _ (List.mem_append_right _ h6)
  refine calls_inlineP (K := DoK b (f.rows c s m i b5) R R0) (args := [_, _]) Tryz.func115 rfl Tryz.ntmps115 rfl ?_ hs
  (refine CW.region ?_; apply LW.load; rfl; rfl; exact Known.own k3; exact Rd.one' rfl; apply LW.load; rfl; rfl; exact Known.own k6; exact Rd.one' rfl)
  refine LW.callP (K := DoK b (f.rows c s m i b5) R R0) (aas := .pointer (some ⟨b, 0, none⟩) :: cap.toList) rfl rfl hF (by (exact .cons rfl .nil)) rfl (fun fs h => ?_) (fun w' hst => hd b c s m i b5 gs R0 w' hfr hsub hst) ?_ ?_
  · unfold DoK at h
    cases R with
    | none => cases h.1
    | some x => obtain ⟨_, _, _, h, _⟩ := h; cases h
  · intro v fs' h
    cases R with
    | none => cases h.1
    | some x =>
      obtain ⟨s', k', gs', h1, h2, h3⟩ := h
      cases h1
      (apply LW.nil)
      exact inPI (.inr rfl) .nil rfl .nil rfl ⟨s', k', gs', rfl, h2, h3⟩
  · intro ch fs' h
    cases R with
    | none =>
      obtain ⟨h1, h2⟩ := h
      cases h1
      exact inPP .nil ⟨rfl, h2⟩
    | some x => obtain ⟨_, _, _, h, _⟩ := h; cases h
theorem DoK.try {b : Nat} {f : FrV} {R : Option (Nat × FrL)} {fs : Fs} : TryK (DoK b f R fs) := fun x fs' h => by
  cases R with
  | none => exact .inr h.1
  | some x => obtain ⟨_, _, _, h, _⟩ := h; exact .inl h
theorem DoK.app {b : Nat} {f : FrV} {R : Option (Nat × FrL)} {R0 rest : Fs} {x : Ending} {fs' : Fs} (h : DoK b f R (R0 ++ rest) x fs') : ∃ own', DoK b f R R0 x own' ∧ fs' = own' ++ rest := by
  cases R with
  | none =>
    obtain ⟨h1, rfl⟩ := h
    exact ⟨R0, ⟨h1, rfl⟩, rfl⟩
  | some x =>
    obtain ⟨s, k, gs', h1, h2, rfl⟩ := h
    exact ⟨_, ⟨s, k, gs', h1, h2, rfl⟩, by simp⟩
section rd
variable {P : Program} {T E : TypeId} {fr : Nat × Nat} {m : MaV}
theorem ma_rdF [AgI P T true] {z : Value} [InfoI P T 14 z] : Rd P T (.cells (mca m) E fr) 0 (frv m.fr) := Rd.mid (cs := frc m.fr) rfl rfl
end rd
theorem told_calls (w0 : World) (S : List Nat) (f : FrV) (L : FrL) (fs : Fs) (fn : FuncId) (cap : Array Value) (R : Option (Nat × FrL)) (hl : L.short) (hF : FnI Tryz.prog fn) (hd : Does w0 S f L fs fn cap R) (hok : okF f L) (w : World) (hs : St w0 S fs w) (hf : ∀ w', Bel w0.heap.size S w0 w' → FrRows w' f L) :
    Calls Tryz.prog 75 #[frv f, .func (.func fn) #[] cap] w (fun x w' => ∃ fs', ToldK f R fs x fs' ∧ St w0 S fs' w') := by
  refine calls_anyO (calls_inlineP (K := anyO (ToldK f R fs)) (args := [_, _]) Tryz.func75 rfl Tryz.ntmps75 rfl ?_ hs)
  (refine sRz ?_; apply LW.boxA; rfl; rfl; intro _; apply LW.box1; rfl; rfl; rfl; intro _; apply LW.allocA; rfl; intro _; refine vAz ?_; refine nNz ?_; refine CW.seq ?_; refine sRz ?_; refine ldz rfl (.tail (.tail .head)) (Rd.whole rfl) ?_)
  (apply LW.callE; rfl; rfl; infer_instance; exact .cons rfl .nil; intro w _)
  rename_i hst
  have h0 := fCheck_calls f L w (hf w hst.bel)
  rw [if_pos hok] at h0
  exact h0
  (refine lvz (.neF rfl rfl (by omega)) ?_; refine nNz ?_; refine cFz ?_; refine CW.skip ?_; refine thenN ?_; refine sRz ?_; refine ldz rfl (.tail (.tail .head)) (Rd.whole rfl) ?_; apply LW.v0; rfl; rfl; apply ValP.buildT; infer_instance; infer_instance; exact PartsOk.nil; rfl; simp only [fillP, wrCells, Value.cells, List.getElem?_cons_zero, List.getElem?_cons_succ, List.toList_toArray, List.setIfInBounds_toArray, List.set_cons_succ, List.set_cons_zero, Nat.reduceAdd, Nat.zero_add]; rfl)
  (apply LW.callR; rfl; rfl; infer_instance; exact .cons rfl (.cons rfl .nil); intro w hs)
  exact fOf_calls f L 0 0 0 0 hl w (hf w hs.bel)
  rintro v gso ⟨bm, c, s, m, i, b5, g, rfl, rfl, hfr⟩
  rename_i b2 b3 b4
  (apply LW.alloc1; rfl; rfl; intro _; apply LW.store; rfl; rfl; apply SetAt.head; apply Wr.cells; rfl; rfl; simp only [wc, List.size_toArray, List.length_cons, List.length_nil]; omega; simp only [fillC, wc, wrCells, Value.cells, List.toList_toArray, List.setIfInBounds_toArray, List.set_cons_succ, List.set_cons_zero, Nat.reduceAdd, Nat.reduceMul, Nat.zero_add, Nat.mul_one]; rfl; refine nNz ?_; refine CW.seq ?_; refine sRz ?_; apply LW.v0; rfl; rfl; apply ValP.makeFunc; exact ArgsOk.nil; exact .cons rfl (.cons rfl .nil))
  rename_i b6
  refine LW.perm (fs' := (bm, maO (ma0 (f.rows c s m i b5) 0 0 0 0)) :: (g ++ ((b6, .cells #[.pointer (some ⟨bm, 0, none⟩)] 116 (0, 0)) :: (b4, .cells #[.slice none 0 0, .int .i64 0, .slice none 0 0, .slice none 0 0, .int .u64 0, .int .u64 0, .int .u64 0, .int .u64 0, .int .u64 0, .int .u64 0, .int .u64 0, .slice none 0 0, .slice none 0 0, .bool false] 31 (0, 0)) :: (b3, .cells #[.func (.func fn) #[] cap] 119 (0, 0)) :: (b2, .cells (fra f) 31 (0, 0)) :: fs))) ?_ ?_
  · simp only [List.cons_append]
    exact perm_ix [[_], [_], g, [_], [_], [_]] (xs := [1, 2, 0, 3, 4, 5]) (ys := [0, 1, 2, 3, 4, 5]) fs rfl
  generalize hR0 : ((b6, Obj.cells #[.pointer (some ⟨bm, 0, none⟩)] 116 (0, 0)) :: (b4, Obj.cells #[.slice none 0 0, .int .i64 0, .slice none 0 0, .slice none 0 0, .int .u64 0, .int .u64 0, .int .u64 0, .int .u64 0, .int .u64 0, .int .u64 0, .int .u64 0, .slice none 0 0, .slice none 0 0, .bool false] 31 (0, 0)) :: (b3, Obj.cells #[.func (.func fn) #[] cap] 119 (0, 0)) :: (b2, Obj.cells (fra f) 31 (0, 0)) :: fs) = R0
  refine LW.callP (K := fun x fs' => ∃ ok own', x = .returned (.bool ok) ∧ DoK bm (f.rows c s m i b5) R R0 (match ok with | true => .returned (.tuple #[]) | false => .panicked failC) own' ∧ fs' = own' ++ []) rfl rfl inferInstance (by (exact .cons rfl .nil)) rfl (fun fs h => by obtain ⟨_, _, h, _⟩ := h; cases h)
    (fun w' hst => tries_calls w0 S 115 #[.pointer (some ⟨b3, 0, none⟩), .pointer (some ⟨b6, 0, none⟩)] (DoK bm (f.rows c s m i b5) R R0) DoK.try inferInstance ((bm, maO (ma0 (f.rows c s m i b5) 0 0 0 0)) :: (g ++ R0)) [] w' (fun rest w2 h2 => ?_) (by rw [List.append_nil]; exact hst)) ?_ ?_
  · rw [List.cons_append, List.append_assoc] at h2
    refine Calls.mono (told1_calls w0 S f L fs fn cap R hF hd bm b3 b6 c s m i b5 g (R0 ++ rest) hfr ?_ ?_ ?_ w2 h2) ?_
    · intro p hp; rw [← hR0]; simp [hp]
    · rw [← hR0]; simp
    · rw [← hR0]; simp
    · rintro x w3 ⟨fs', hk, h3⟩
      obtain ⟨own', h4, rfl⟩ := hk.app
      exact ⟨_, ⟨own', h4, rfl⟩, h3⟩
  · rintro v fs' ⟨ok, own', h1, h2, rfl⟩
    cases h1
    rw [List.append_nil]
    cases R with
    | none =>
      obtain ⟨h3, rfl⟩ := h2
      cases ok with
      | true => cases h3
      | false =>
        subst hR0
        (refine lvz (.notF rfl (by with_reducible rfl)) ?_; refine nNz ?_; refine cTz ?_; refine sRz ?_; apply LW.v0; rfl; rfl; apply ValP.buildT; infer_instance; infer_instance; exact PartsOk.nil; rfl; simp only [fillP, wrCells, Value.cells, List.getElem?_cons_zero, List.getElem?_cons_succ, List.toList_toArray, List.setIfInBounds_toArray, List.set_cons_succ, List.set_cons_zero, Nat.reduceAdd, Nat.zero_add]; rfl; refine LW.store rfl rfl (.tail .head) (.whole rfl rfl rfl) ?_; refine vAz ?_; refine nNz ?_; refine CW.ret ?_; refine thenR ?_)
        refine inPI (.inl rfl) .nil rfl (by (apply ResL.cons; apply Res.cell; rfl; apply Known.at; apply FsAt.tail; apply FsAt.head; exact Rd.whole rfl; apply ResL.cons; exact Res.tmp rfl; exact ResL.nil)) rfl ⟨fs, ⟨rfl, rfl⟩, subp_ix [[_], [_], [_], [_]] (xs := []) (ys := [0, 1, 2, 3]) fs rfl⟩
    | some x =>
      obtain ⟨gg, L'⟩ := x
      obtain ⟨s', k', gs', h3, h4, rfl⟩ := h2
      cases ok with
      | false => cases h3
      | true =>
        subst hR0
        have hsl : FrSl (ma0 ((f.rows c s m i b5).setR gg s' k') 0 0 0 0).fr := h4.sl
        (refine lvz (.notT rfl (by with_reducible rfl)) ?_; refine nNz ?_; refine cFz ?_; refine CW.skip ?_; refine thenN ?_; refine sRz ?_; refine ldz rfl (.tail (.app .head)) (Rd.one' rfl) ?_; refine vNz ?_; refine vFz ?_; refine ldz rfl .head ma_rdF ?_; apply LW.store; rfl; rfl; apply SetAt.tail; apply SetAt.app; apply SetAt.tail; apply SetAt.head; apply fr_wrW; rfl; assumption; refine vAz ?_; refine nNz ?_; refine CW.ret ?_)
        refine inPI (.inl rfl) .nil rfl (by (apply ResL.cons; apply Res.cell; rfl; apply Known.at; apply FsAt.tail; apply FsAt.app; apply FsAt.tail; apply FsAt.head; exact Rd.whole rfl; apply ResL.cons; exact Res.tmp rfl; exact ResL.nil)) rfl ⟨gs' ++ fs, ⟨c, s', k', i, b5, gs', rfl, h4, rfl⟩, subp_ix [[_], gs', [_], [_], [_], [_]] (xs := [1]) (ys := [0, 1, 2, 3, 4, 5]) fs rfl⟩
  · rintro ch fs' ⟨_, _, h, _⟩
    cases h
end Go.Proofs.YtpgdnfgjbhdbpaaGreatDoor

/-
  Frames in which memory is reached; frames that are told what they asked for.
  Conditions: none.
-/
namespace Go.Proofs.YtpgdnfgjbhdbpaaGreatDoor
open Go Go.RowKit SL
set_option maxRecDepth 8000
set_option maxHeartbeats 4000000
set_option linter.unusedSimpArgs false
set_option linter.unusedVariables false
attribute [local irreducible] SL.CW SL.LW SL.DW Calls SL.Ret SL.RetG SL.beginQ SL.roundQ SL.rangeQ SL.inQ SL.RW SL.AnyW SL.thenQ SL.thenC SL.thenW SL.blkQ SL.finQ SL.ValP SL.NewP SL.SetP SL.CallP SL.Rd SL.Wr SL.Known
attribute [local irreducible] SL.inP
def ToldR (f : FrV) (R : Option (Nat × FrL)) (v : Value) (gs : Fs) : Prop := match R with
  | none => v = .tuple #[frv zeroF, .bool false] ∧ gs = []
  | some (g, L') => ∃ c s m i b, v = .tuple #[frv (f.rowsG g c s m i b), .bool true] ∧ FrO (f.rowsG g c s m i b) L' gs
def reachR (f : FrV) (L : FrL) (a n : Nat) : Option (Nat × FrL) := if costR L a n ≤ f.gas then some (f.gas - costR L a n, memR L a n) else none
def tellR (f : FrV) (L : FrL) (cost : Nat) (l : List Nat) : Option (Nat × FrL) := if cost ≤ f.gas ∧ L.ws.length + l.length ≤ 64 then some (f.gas - cost, L.setW (L.ws ++ l)) else none
theorem okF.short {f : FrV} {L : FrL} (h : okF f L) : L.short := by
  obtain ⟨⟨h1, h2, _⟩, _, h4, ⟨h5, h6, _⟩, _⟩ := h
  exact ⟨by omega, by omega, by omega, by omega, by omega⟩
/-! ### Frames that may not be -/
theorem told_bad (w0 : World) (S : List Nat) (f : FrV) (L : FrL) (fs : Fs) (fn : FuncId) (cap : Array Value) (hok : ¬ okF f L) (w : World) (hs : St w0 S fs w) (hf : ∀ w', Bel w0.heap.size S w0 w' → FrRows w' f L) :
    Calls Tryz.prog 75 #[frv f, .func (.func fn) #[] cap] w (fun x w' => ∃ fs', ToldK f none fs x fs' ∧ St w0 S fs' w') := by
  have hC : ∀ w' {fs}, St w0 S fs w' → Calls Tryz.prog 31 #[frv f] w' (Ret w' (.int .i64 240)) := fun w' fs hst => by
    have h0 := fCheck_calls f L w' (hf w' hst.bel)
    rw [if_neg hok] at h0
    exact h0
  refine calls_anyO (calls_inlineP (K := anyO (ToldK f none fs)) (args := [_, _]) Tryz.func75 rfl Tryz.ntmps75 rfl ?_ hs)
  (refine sRz ?_; apply LW.boxA; rfl; rfl; intro _; apply LW.box1; rfl; rfl; rfl; intro _; apply LW.allocA; rfl; intro _; refine vAz ?_; refine nNz ?_; refine CW.seq ?_; refine sRz ?_; refine ldz rfl (.tail (.tail .head)) (Rd.whole rfl) ?_; apply LW.callE; rfl; rfl; infer_instance; exact .cons rfl .nil; intro w _; exact hC w (by assumption); refine lvz (.neT rfl rfl (by omega)) ?_; refine nNz ?_; refine cTz ?_; refine sRz ?_; apply LW.v0; rfl; rfl; apply ValP.buildT; infer_instance; infer_instance; exact PartsOk.nil; rfl; simp only [fillP, wrCells, Value.cells, List.getElem?_cons_zero, List.getElem?_cons_succ, List.toList_toArray, List.setIfInBounds_toArray, List.set_cons_succ, List.set_cons_zero, Nat.reduceAdd, Nat.zero_add]; rfl; refine LW.store rfl rfl .head (.whole rfl rfl rfl) ?_; refine vAz ?_; refine nNz ?_; refine CW.ret ?_; refine thenR ?_)
  refine inPI (.inl rfl) .nil rfl (by (apply ResL.cons; apply Res.cell; rfl; apply Known.at; apply FsAt.head; exact Rd.whole rfl; apply ResL.cons; exact Res.tmp rfl; exact ResL.nil)) rfl ⟨fs, ⟨rfl, rfl⟩, subp_ix [[_], [_], [_]] (xs := []) (ys := [0, 1, 2]) fs rfl⟩
/-! ### Memory reached -/
theorem reach1_does (w0 : World) (S : List Nat) (f : FrV) (L : FrL) (a n : Nat) (ha : a < M256) (hn : n < M256) (hok : okF f L) (fs : Fs) (b4 b5 : Nat) (k4 : (b4, Obj.cells (wc a) 29 (0, 0)) ∈ fs) (k5 : (b5, Obj.cells (wc n) 29 (0, 0)) ∈ fs) :
    Does w0 S f L fs 145 #[.pointer (some ⟨b4, 0, none⟩), .pointer (some ⟨b5, 0, none⟩)] (reachR f L a n) := by
  intro b c s m i b0 gs rest w hfr hsub hs
  have k4 := List.mem_cons_of_mem (b, maO (ma0 (f.rows c s m i b0) 0 0 0 0)) (List.mem_append_right gs (hsub _ k4))
  have k5 := List.mem_cons_of_mem (b, maO (ma0 (f.rows c s m i b0) 0 0 0 0)) (List.mem_append_right gs (hsub _ k5))
  refine calls_anyO (calls_inlineP (K := anyO (DoK b (f.rows c s m i b0) (reachR f L a n) rest)) (args := [_, _, _]) Tryz.func145 rfl Tryz.ntmps145 rfl ?_ hs)
  (refine CW.region ?_; refine vMz ?_; apply LW.load; rfl; rfl; exact Known.own k4; exact Rd.whole rfl; apply LW.load; rfl; rfl; exact Known.own k5; exact Rd.whole rfl)
  refine LW.callP (K := ReachK b (ma0 (f.rows c s m i b0) 0 0 0 0) L gs a n rest) rfl rfl inferInstance (by (exact .cons rfl (.cons rfl (.cons rfl .nil)))) rfl (fun fs h => by rcases h with ⟨_, h, _⟩ | ⟨_, _, _, _, h, _⟩ <;> cases h) (fun w' hst => reach_calls w0 S b _ L gs a n ha hn hok.2.2.2.1 hok.1.2.2 hfr rest w' hst) ?_ ?_
  · rintro v fs' (⟨_, h, _⟩ | ⟨hc, s', k', gs', h, hfr', rfl⟩)
    · cases h
    · have hR : reachR f L a n = some (f.gas - costR L a n, memR L a n) := by unfold reachR; exact if_pos hc
      rw [hR]
      cases h
      (apply LW.nil)
      exact inPI (.inr rfl) .nil rfl .nil rfl ⟨_, ⟨s', k', gs', rfl, hfr', rfl⟩, _, .refl _, .refl _⟩
  · rintro ch fs' (⟨hc, h, rfl⟩ | ⟨_, _, _, _, h, _⟩)
    · have hR : reachR f L a n = none := by unfold reachR; exact if_neg (Nat.not_le.2 hc)
      rw [hR]
      cases h
      exact inPP .nil ⟨rest, ⟨rfl, rfl⟩, _, List.Sublist.cons _ (List.sublist_append_right _ _), .refl _⟩
    · cases h
theorem zero_sl : FrSl zeroF := zero_frO.sl
theorem ToldK.ret {f : FrV} {R : Option (Nat × FrL)} {fs fs' : Fs} {x : Ending} (h : ToldK f R fs x fs') : ∃ v, x = .returned v := by
  cases R with
  | none => exact ⟨_, h.1⟩
  | some x => obtain ⟨_, _, _, _, _, _, h, _⟩ := h; exact ⟨_, h⟩
theorem Reach_calls (f : FrV) (L : FrL) (a n : Nat) (ha : a < M256) (hn : n < M256) (w : World) (h : FrRows w f L) : Calls Tryz.prog 123 #[frv f, wv a, wv n] w (RetG w [] (ToldR f (if okF f L then reachR f L a n else none))) := by
  refine enter (args := [_, _, _]) _ [] [] Tryz.func123 rfl Tryz.ntmps123 rfl (by simp) .nil ?_
  have hzs := zero_sl
  (refine sRz ?_; apply LW.boxA; rfl; rfl; intro _; apply LW.boxA; rfl; rfl; intro _; apply LW.boxA; rfl; rfl; intro _; apply LW.allocA; rfl; intro _; refine vAz ?_; refine nSz ?_; refine ldz rfl (.tail (.tail (.tail .head))) (Rd.whole rfl) ?_; apply LW.v0; rfl; rfl; apply ValP.makeFunc; exact ArgsOk.nil; exact .cons rfl (.cons rfl .nil))
  rename_i b3 b4 b5 b6
  refine LW.callP (K := ToldK f (if okF f L then reachR f L a n else none) ((b6, Obj.cells (fra zeroF) 31 (0, 0)) :: (b5, Obj.cells (wc n) 29 (0, 0)) :: (b4, Obj.cells (wc a) 29 (0, 0)) :: (b3, Obj.cells (fra f) 31 (0, 0)) :: [])) rfl rfl inferInstance (by (exact .cons rfl (.cons rfl .nil))) rfl (fun fs h => ?_) (fun w' hst => ?_) ?_ ?_
  · obtain ⟨_, h⟩ := h.ret; cases h
  · by_cases hok : okF f L
    · rw [if_pos hok]
      exact told_calls w [] f L _ _ _ _ hok.short inferInstance (reach1_does w [] f L a n ha hn hok _ b4 b5 (by simp) (by simp)) hok w' hst fun w2 hb => h.bel hb
    · rw [if_neg hok]
      exact told_bad w [] f L _ _ _ hok w' hst fun w2 hb => h.bel hb
  · intro v fs' hk
    cases hR : (if okF f L then reachR f L a n else none) with
    | none =>
      rw [hR] at hk
      obtain ⟨h1, rfl⟩ := hk
      cases h1
      (refine vEz ?_; refine vEz ?_; refine LW.store rfl rfl .head (.whole rfl rfl rfl) ?_; refine vAz ?_; refine nNz ?_; refine CW.ret ?_)
      exact fin (vs := [frv zeroF, .bool false]) [] (.inl rfl) rfl rfl (by (apply ResL.cons; apply Res.cell; rfl; apply Known.at; apply FsAt.head; exact Rd.whole rfl; apply ResL.cons; exact Res.tmp rfl; exact ResL.nil)) (List.nil_sublist _) ⟨rfl, rfl⟩
    | some x =>
      rw [hR] at hk
      obtain ⟨g, L'⟩ := x
      obtain ⟨c, s, m, i, b, gs', h1, hfr, rfl⟩ := hk
      cases h1
      have hsl := hfr.sl
      (refine vEz ?_; refine vEz ?_; apply LW.store; rfl; rfl; apply SetAt.app; apply SetAt.head; apply fr_wrW; rfl; assumption; refine vAz ?_; refine nNz ?_; refine CW.ret ?_)
      exact fin (vs := [frv (f.rowsG g c s m i b), .bool true]) gs' (.inl rfl) rfl rfl (by (apply ResL.cons; apply Res.cell; rfl; apply Known.at; apply FsAt.app; apply FsAt.head; exact Rd.whole rfl; apply ResL.cons; exact Res.tmp rfl; exact ResL.nil)) (List.sublist_append_left _ _) ⟨c, s, m, i, b, rfl, hfr⟩
  · intro ch fs' h
    obtain ⟨_, h⟩ := h.ret
    cases h
/-! ### Words told -/
theorem tell1_does (w0 : World) (S : List Nat) (f : FrV) (L : FrL) (cost : Nat) (l : List Nat) (v : Value) (hll : l.length ≤ 100000) (hv : ∀ w', Bel w0.heap.size S w0 w' → RowAt w' 4 v l.length (wcs l)) (hok : okF f L) (fs : Fs) (b4 b5 : Nat) (k4 : (b4, Obj.cells #[.int .u64 (cost : Int)] 26 (0, 0)) ∈ fs) (k5 : (b5, Obj.cells #[v] 23 (0, 0)) ∈ fs) :
    Does w0 S f L fs 76 #[.pointer (some ⟨b4, 0, none⟩), .pointer (some ⟨b5, 0, none⟩)] (tellR f L cost l) := by
  intro b c s m i b0 gs rest w hfr hsub hs
  have k4 := List.mem_cons_of_mem (b, maO (ma0 (f.rows c s m i b0) 0 0 0 0)) (List.mem_append_right gs (hsub _ k4))
  have k50 := List.mem_cons_of_mem (b, maO (ma0 (f.rows c s m i b0) 0 0 0 0)) (List.mem_append_right gs (hsub _ k5))
  refine calls_anyO (calls_inlineP (K := anyO (DoK b (f.rows c s m i b0) (tellR f L cost l) rest)) (args := [_, _, _]) Tryz.func76 rfl Tryz.ntmps76 rfl ?_ hs)
  (refine sRz ?_; refine vMz ?_; apply LW.load; rfl; rfl; exact Known.own k4; exact Rd.one' rfl; apply LW.lay1; rfl; infer_instance; infer_instance; rfl; rfl; rfl; rfl; rfl; rfl; intro _)
  rename_i b6
  refine LW.perm (fs' := (b, maO (ma0 (f.rows c s m i b0) 0 0 0 0)) :: (gs ++ ((b6, .cells #[.int .u64 (cost : Int)] 26 (0, 0)) :: rest))) ?_ ?_
  · exact perm_ix [[_], [_], gs] (xs := [1, 2, 0]) (ys := [0, 1, 2]) rest rfl
  refine LW.callP (K := MaK b (ma0 (f.rows c s m i b0) 0 0 0 0) (spendM (ma0 (f.rows c s m i b0) 0 0 0 0) [cost]) (gs ++ ((b6, .cells #[.int .u64 (cost : Int)] 26 (0, 0)) :: rest))) rfl rfl inferInstance (by (exact .cons rfl (.cons rfl .nil))) rfl (fun fs h => ?_) (fun w' hst => spend_calls w0 S b _ [cost] (Nat.lt_of_le_of_lt hok.1.2.2 (by decide)) _ _ w' hst (fun w2 h2 => row_cells (h2.own (b6, _) (List.mem_cons_of_mem _ (List.mem_append_right _ List.mem_cons_self))).2 rfl rfl (by simp [maxLen]))) ?_ ?_
  · unfold MaK at h
    split at h <;> cases h.1
  · rcases Nat.lt_or_ge f.gas cost with hlt | hge
    · have hsp : spendM (ma0 (f.rows c s m i b0) 0 0 0 0) [cost] = none := by unfold spendM; rw [if_neg (by simp; exact hlt)]
      rw [hsp]
      rintro v fs' ⟨h, _⟩
      cases h
    · have hsp : spendM (ma0 (f.rows c s m i b0) 0 0 0 0) [cost] = some (ma0 ((f.rows c s m i b0).setR (f.gas - cost) s m) 0 0 0 0) := by unfold spendM; rw [if_pos (by simp; exact hge)]; simp; rfl
      rw [hsp]
      rintro v fs' ⟨h, rfl⟩
      cases h
      have k5 : (b5, Obj.cells #[v] 23 (0, 0)) ∈ (b, maO (ma0 ((f.rows c s m i b0).setR (f.gas - cost) s m) 0 0 0 0)) :: (gs ++ (b6, Obj.cells #[.int .u64 (cost : Int)] 26 (0, 0)) :: rest) := List.mem_cons_of_mem _ (List.mem_append_right _ (List.mem_cons_of_mem _ (hsub _ k5)))
      (refine nNz ?_; refine CW.region ?_; refine vMz ?_; apply LW.load; rfl; rfl; exact Known.own k5; exact Rd.one' rfl)
      have hfr1 : FrO ((f.rows c s m i b0).setR (f.gas - cost) s m) L gs := hfr
      refine LW.callP (K := LayK b (ma0 ((f.rows c s m i b0).setR (f.gas - cost) s m) 0 0 0 0) L gs l ((b6, Obj.cells #[.int .u64 (cost : Int)] 26 (0, 0)) :: rest)) rfl rfl inferInstance (by (exact .cons rfl (.cons rfl .nil))) rfl (fun fs h => by rcases h with ⟨_, h, _⟩ | ⟨_, _, _, _, h, _⟩ <;> cases h) (fun w' hst => lay_calls w0 S b _ L gs l v hok.2.2.2.1 hll hfr1 _ w' (fun w2 h2 => hv w2 h2.bel) hst) ?_ ?_
      · rintro v fs' (⟨_, h, _⟩ | ⟨hc, s', k', gs', h, hfr', rfl⟩)
        · cases h
        · have hR : tellR f L cost l = some (f.gas - cost, L.setW (L.ws ++ l)) := by unfold tellR; exact if_pos ⟨hge, hc⟩
          rw [hR]
          cases h
          (apply LW.nil)
          exact inPI (.inr rfl) .nil rfl .nil rfl ⟨_, ⟨s', k', gs', rfl, hfr', rfl⟩, _, List.Sublist.cons_cons _ (List.Sublist.append_left (List.sublist_cons_self _ _) _), .refl _⟩
      · rintro ch fs' (⟨hc, h, rfl⟩ | ⟨_, _, _, _, h, _⟩)
        · have hR : tellR f L cost l = none := by unfold tellR; exact if_neg (fun h => by omega)
          rw [hR]
          cases h
          exact inPP .nil ⟨rest, ⟨rfl, rfl⟩, _, List.Sublist.cons _ (List.Sublist.trans (List.sublist_cons_self _ _) (List.sublist_append_right _ _)), .refl _⟩
        · cases h
  · rcases Nat.lt_or_ge f.gas cost with hlt | hge
    · have hsp : spendM (ma0 (f.rows c s m i b0) 0 0 0 0) [cost] = none := by unfold spendM; rw [if_neg (by simp; exact hlt)]
      rw [hsp]
      rintro ch fs' ⟨h, rfl⟩
      have hR : tellR f L cost l = none := by unfold tellR; exact if_neg (fun h => by omega)
      rw [hR]
      cases h
      refine thenP ?_
      exact inPP .nil ⟨rest, ⟨rfl, rfl⟩, _, List.Sublist.cons _ (List.Sublist.trans (List.sublist_cons_self _ _) (List.sublist_append_right _ _)), .refl _⟩
    · have hsp : spendM (ma0 (f.rows c s m i b0) 0 0 0 0) [cost] = some (ma0 ((f.rows c s m i b0).setR (f.gas - cost) s m) 0 0 0 0) := by unfold spendM; rw [if_pos (by simp; exact hge)]; simp; rfl
      rw [hsp]
      rintro ch fs' ⟨h, _⟩
      cases h
theorem Tell_calls (f : FrV) (L : FrL) (cost : Nat) (l : List Nat) (v : Value) (hll : l.length ≤ 100000) (w : World) (hv : RowAt w 4 v l.length (wcs l)) (h : FrRows w f L) : Calls Tryz.prog 39 #[frv f, .int .u64 (cost : Int), v] w (RetG w [] (ToldR f (if okF f L then tellR f L cost l else none))) := by
  obtain ⟨p, cc, rfl, _, _⟩ := id hv.form
  refine enter (args := [_, _, _]) _ [] [] Tryz.func39 rfl Tryz.ntmps39 rfl (by simp) .nil ?_
  have hzs := zero_sl
  (refine sRz ?_; apply LW.boxA; rfl; rfl; intro _; apply LW.box1; rfl; rfl; rfl; intro _; apply LW.box1; rfl; rfl; rfl; intro _; apply LW.allocA; rfl; intro _; refine vAz ?_; refine nSz ?_; refine ldz rfl (.tail (.tail (.tail .head))) (Rd.whole rfl) ?_; apply LW.v0; rfl; rfl; apply ValP.makeFunc; exact ArgsOk.nil; exact .cons rfl (.cons rfl .nil))
  rename_i b3 b4 b5 b6
  refine LW.callP (K := ToldK f (if okF f L then tellR f L cost l else none) ((b6, Obj.cells (fra zeroF) 31 (0, 0)) :: (b5, Obj.cells #[.slice p l.length cc] 23 (0, 0)) :: (b4, Obj.cells #[.int .u64 (cost : Int)] 26 (0, 0)) :: (b3, Obj.cells (fra f) 31 (0, 0)) :: [])) rfl rfl inferInstance (by (exact .cons rfl (.cons rfl .nil))) rfl (fun fs h => ?_) (fun w' hst => ?_) ?_ ?_
  · obtain ⟨_, h⟩ := h.ret; cases h
  · by_cases hok : okF f L
    · rw [if_pos hok]
      exact told_calls w [] f L _ _ _ _ hok.short inferInstance (tell1_does w [] f L cost l _ hll (fun w2 hb => hv.bel hb) hok _ b4 b5 (by simp) (by simp)) hok w' hst fun w2 hb => h.bel hb
    · rw [if_neg hok]
      exact told_bad w [] f L _ _ _ hok w' hst fun w2 hb => h.bel hb
  · intro v fs' hk
    cases hR : (if okF f L then tellR f L cost l else none) with
    | none =>
      rw [hR] at hk
      obtain ⟨h1, rfl⟩ := hk
      cases h1
      (refine vEz ?_; refine vEz ?_; refine LW.store rfl rfl .head (.whole rfl rfl rfl) ?_; refine vAz ?_; refine nNz ?_; refine CW.ret ?_)
      exact fin (vs := [frv zeroF, .bool false]) [] (.inl rfl) rfl rfl (by (apply ResL.cons; apply Res.cell; rfl; apply Known.at; apply FsAt.head; exact Rd.whole rfl; apply ResL.cons; exact Res.tmp rfl; exact ResL.nil)) (List.nil_sublist _) ⟨rfl, rfl⟩
    | some x =>
      rw [hR] at hk
      obtain ⟨g, L'⟩ := x
      obtain ⟨c, s, m, i, b, gs', h1, hfr, rfl⟩ := hk
      cases h1
      have hsl := hfr.sl
      (refine vEz ?_; refine vEz ?_; apply LW.store; rfl; rfl; apply SetAt.app; apply SetAt.head; apply fr_wrW; rfl; assumption; refine vAz ?_; refine nNz ?_; refine CW.ret ?_)
      exact fin (vs := [frv (f.rowsG g c s m i b), .bool true]) gs' (.inl rfl) rfl rfl (by (apply ResL.cons; apply Res.cell; rfl; apply Known.at; apply FsAt.app; apply FsAt.head; exact Rd.whole rfl; apply ResL.cons; exact Res.tmp rfl; exact ResL.nil)) (List.sublist_append_left _ _) ⟨c, s, m, i, b, rfl, hfr⟩
  · intro ch fs' h
    obtain ⟨_, h⟩ := h.ret
    cases h
end Go.Proofs.YtpgdnfgjbhdbpaaGreatDoor

/-
  Calls: their shapes; which may be; who is called; what their ends lay.
  Conditions: none.
-/
namespace Go.Proofs.YtpgdnfgjbhdbpaaGreatDoor
open Go Go.RowKit SL
open CK (CheckC_calls)
set_option maxRecDepth 8000
set_option maxHeartbeats 4000000
set_option linter.unusedSimpArgs false
set_option linter.unusedVariables false
attribute [local irreducible] SL.CW SL.LW SL.DW Calls SL.Ret SL.RetG SL.beginQ SL.roundQ SL.rangeQ SL.inQ SL.RW SL.AnyW SL.thenQ SL.thenC SL.thenW SL.blkQ SL.finQ SL.ValP SL.NewP SL.SetP SL.CallP SL.Rd SL.Wr SL.Known
/-! ### Addresses -/
theorem aOf_calls (a : Nat) (w : World) : Calls Tryz.prog 65 #[wv a] w (Ret w (.int .u64 ((a % 18446744073709551616 : Nat) : Int))) := by
  refine enter (args := [_]) _ [] [] Tryz.func65 rfl Tryz.ntmps65 rfl (by simp) .nil ?_
  (refine sRz ?_; apply LW.boxA; rfl; rfl; intro _; refine vAz ?_; refine nSz ?_; refine lvz (.indexAddrL rfl rfl rfl) ?_; refine ldz rfl .head (Rd.one' rfl) ?_; refine vAz ?_; refine nNz ?_; refine CW.ret ?_)
  (apply finR; exact .inl rfl; rfl; rfl; rfl; apply ResL.cons; exact Res.tmp rfl; exact ResL.nil)
  rfl
theorem aWord_calls (a : Nat) (ha : a < 18446744073709551616) (w : World) : Calls Tryz.prog 79 #[.int .u64 (a : Int)] w (Ret w (wv a)) := by
  refine enter (args := [_]) _ [] [] Tryz.func79 rfl Tryz.ntmps79 rfl (by simp) .nil ?_
  (refine sRz ?_; apply LW.allocW; rfl; intro _; refine nSz ?_; refine vMz ?_; apply LW.callE; rfl; rfl; infer_instance; exact .cons rfl .nil; intro w _; exact Of_calls a ha w; refine LW.store rfl rfl .head (.whole rfl rfl rfl) ?_; refine nNz ?_; refine CW.ret ?_)
  (apply finR; exact .inl rfl; rfl; rfl; rfl; apply ResL.cons; apply Res.cell; rfl; apply Known.at; apply FsAt.head; exact Rd.whole rfl; exact ResL.nil)
  rfl
/-! ### Shapes -/
/-- The shape of an operation. -/
def shq (op : Nat) : Int × Int × Int × Int × Int × Bool := if op = 241 then (7, 1, 2, 3, 5, true) else if op = 244 ∨ op = 250 then (6, 1, -1, 2, 4, true) else if op = 245 then (4, -1, 0, 1, -1, true) else (0, 0, 0, 0, 0, false)
def shc (op : Nat) : List Value := [.int .i64 (shq op).1, .int .i64 (shq op).2.1, .int .i64 (shq op).2.2.1, .int .i64 (shq op).2.2.2.1, .int .i64 (shq op).2.2.2.2.1]
theorem shaped_calls (op : Nat) (w : World) : Calls Tryz.prog 47 #[.int .u8 (op : Int)] w (Ret w (.tuple #[.agg (shc op).toArray, .bool (shq op).2.2.2.2.2])) := by
  refine enter (args := [_]) _ [] [] Tryz.func47 rfl Tryz.ntmps47 rfl (by simp) .nil ?_
  by_cases h1 : op = 241
  · have hs : shq op = (7, 1, 2, 3, 5, true) := if_pos h1
    unfold shc
    rw [hs]
    (refine sRz ?_; apply LW.allocA; rfl; intro _; refine vAz ?_; refine nNz ?_; refine CW.seq ?_; refine sRz ?_; refine vMz ?_; refine nNz ?_; refine CW.block ?_; refine sRz ?_; refine lvz (.eqT rfl rfl (by omega)) ?_; refine vAz ?_; refine nNz ?_; refine cTz ?_; refine sRz ?_; apply LW.v0; rfl; rfl; apply ValP.buildT; infer_instance; infer_instance; apply PartsOk.cons; rfl; apply PartsOk.cons; rfl; apply PartsOk.cons; rfl; apply PartsOk.cons; rfl; apply PartsOk.cons; rfl; exact PartsOk.nil; rfl; simp only [fillP, wrCells, Value.cells, List.getElem?_cons_zero, List.getElem?_cons_succ, List.toList_toArray, List.setIfInBounds_toArray, List.set_cons_succ, List.set_cons_zero, Nat.reduceAdd, Nat.zero_add]; rfl; refine LW.store rfl rfl .head (.whole rfl rfl rfl) ?_; refine vAz ?_; refine nNz ?_; refine CW.ret ?_; refine blkR ?_; refine thenR ?_)
    (apply finR; exact .inl rfl; rfl; rfl; rfl; apply ResL.cons; apply Res.cell; rfl; apply Known.at; apply FsAt.head; exact Rd.whole rfl; apply ResL.cons; exact Res.tmp rfl; exact ResL.nil)
    rfl
  · by_cases h2 : op = 244 ∨ op = 250
    · have hs : shq op = (6, 1, -1, 2, 4, true) := by unfold shq; rw [if_neg h1, if_pos h2]
      unfold shc
      rw [hs]
      rcases h2 with h2 | h2
      · (refine sRz ?_; apply LW.allocA; rfl; intro _; refine vAz ?_; refine nNz ?_; refine CW.seq ?_; refine sRz ?_; refine vMz ?_; refine nNz ?_; refine CW.block ?_; refine sRz ?_; refine lvz (.eqF rfl rfl (by omega)) ?_; refine vAz ?_; refine nNz ?_; refine cFz ?_; refine CW.seq ?_; refine sRz ?_; refine lvz (.eqT rfl rfl (by omega)) ?_; refine vAz ?_; refine nNz ?_; refine cTz ?_; refine CW.skip ?_; refine thenN ?_; refine cTz ?_; refine sRz ?_; apply LW.v0; rfl; rfl; apply ValP.buildT; infer_instance; infer_instance; apply PartsOk.cons; rfl; apply PartsOk.cons; rfl; apply PartsOk.cons; rfl; apply PartsOk.cons; rfl; apply PartsOk.cons; rfl; exact PartsOk.nil; rfl; simp only [fillP, wrCells, Value.cells, List.getElem?_cons_zero, List.getElem?_cons_succ, List.toList_toArray, List.setIfInBounds_toArray, List.set_cons_succ, List.set_cons_zero, Nat.reduceAdd, Nat.zero_add]; rfl; refine LW.store rfl rfl .head (.whole rfl rfl rfl) ?_; refine vAz ?_; refine nNz ?_; refine CW.ret ?_; refine blkR ?_; refine thenR ?_)
        (apply finR; exact .inl rfl; rfl; rfl; rfl; apply ResL.cons; apply Res.cell; rfl; apply Known.at; apply FsAt.head; exact Rd.whole rfl; apply ResL.cons; exact Res.tmp rfl; exact ResL.nil)
        rfl
      · (refine sRz ?_; apply LW.allocA; rfl; intro _; refine vAz ?_; refine nNz ?_; refine CW.seq ?_; refine sRz ?_; refine vMz ?_; refine nNz ?_; refine CW.block ?_; refine sRz ?_; refine lvz (.eqF rfl rfl (by omega)) ?_; refine vAz ?_; refine nNz ?_; refine cFz ?_; refine CW.seq ?_; refine sRz ?_; refine lvz (.eqF rfl rfl (by omega)) ?_; refine vAz ?_; refine nNz ?_; refine cFz ?_; refine CW.region ?_; refine lvz (.eqT rfl rfl (by omega)) ?_; refine vAz ?_; refine nNz ?_; refine cTz ?_; refine sRz ?_; apply LW.v0; rfl; rfl; apply ValP.buildT; infer_instance; infer_instance; apply PartsOk.cons; rfl; apply PartsOk.cons; rfl; apply PartsOk.cons; rfl; apply PartsOk.cons; rfl; apply PartsOk.cons; rfl; exact PartsOk.nil; rfl; simp only [fillP, wrCells, Value.cells, List.getElem?_cons_zero, List.getElem?_cons_succ, List.toList_toArray, List.setIfInBounds_toArray, List.set_cons_succ, List.set_cons_zero, Nat.reduceAdd, Nat.zero_add]; rfl; refine LW.store rfl rfl .head (.whole rfl rfl rfl) ?_; refine vAz ?_; refine nNz ?_; refine CW.ret ?_; refine blkR ?_; refine thenR ?_)
        (apply finR; exact .inl rfl; rfl; rfl; rfl; apply ResL.cons; apply Res.cell; rfl; apply Known.at; apply FsAt.head; exact Rd.whole rfl; apply ResL.cons; exact Res.tmp rfl; exact ResL.nil)
        rfl
    · by_cases h3 : op = 245
      · have hs : shq op = (4, -1, 0, 1, -1, true) := by unfold shq; rw [if_neg h1, if_neg h2, if_pos h3]
        unfold shc
        rw [hs]
        (refine sRz ?_; apply LW.allocA; rfl; intro _; refine vAz ?_; refine nNz ?_; refine CW.seq ?_; refine sRz ?_; refine vMz ?_; refine nNz ?_; refine CW.block ?_; refine sRz ?_; refine lvz (.eqF rfl rfl (by omega)) ?_; refine vAz ?_; refine nNz ?_; refine cFz ?_; refine CW.seq ?_; refine sRz ?_; refine lvz (.eqF rfl rfl (by omega)) ?_; refine vAz ?_; refine nNz ?_; refine cFz ?_; refine CW.region ?_; refine lvz (.eqF rfl rfl (by omega)) ?_; refine vAz ?_; refine nNz ?_; refine cFz ?_; refine sRz ?_; refine lvz (.eqT rfl rfl (by omega)) ?_; refine vAz ?_; refine nNz ?_; refine cTz ?_; refine sRz ?_; apply LW.v0; rfl; rfl; apply ValP.buildT; infer_instance; infer_instance; apply PartsOk.cons; rfl; apply PartsOk.cons; rfl; apply PartsOk.cons; rfl; apply PartsOk.cons; rfl; apply PartsOk.cons; rfl; exact PartsOk.nil; rfl; simp only [fillP, wrCells, Value.cells, List.getElem?_cons_zero, List.getElem?_cons_succ, List.toList_toArray, List.setIfInBounds_toArray, List.set_cons_succ, List.set_cons_zero, Nat.reduceAdd, Nat.zero_add]; rfl; refine LW.store rfl rfl .head (.whole rfl rfl rfl) ?_; refine vAz ?_; refine nNz ?_; refine CW.ret ?_; refine blkR ?_; refine thenR ?_)
        (apply finR; exact .inl rfl; rfl; rfl; rfl; apply ResL.cons; apply Res.cell; rfl; apply Known.at; apply FsAt.head; exact Rd.whole rfl; apply ResL.cons; exact Res.tmp rfl; exact ResL.nil)
        rfl
      · have hs : shq op = (0, 0, 0, 0, 0, false) := by unfold shq; rw [if_neg h1, if_neg h2, if_neg h3]
        unfold shc
        rw [hs]
        (refine sRz ?_; apply LW.allocA; rfl; intro _; refine vAz ?_; refine nNz ?_; refine CW.seq ?_; refine sRz ?_; refine vMz ?_; refine nNz ?_; refine CW.block ?_; refine sRz ?_; refine lvz (.eqF rfl rfl (by omega)) ?_; refine vAz ?_; refine nNz ?_; refine cFz ?_; refine CW.seq ?_; refine sRz ?_; refine lvz (.eqF rfl rfl (by omega)) ?_; refine vAz ?_; refine nNz ?_; refine cFz ?_; refine CW.region ?_; refine lvz (.eqF rfl rfl (by omega)) ?_; refine vAz ?_; refine nNz ?_; refine cFz ?_; refine sRz ?_; refine lvz (.eqF rfl rfl (by omega)) ?_; refine vAz ?_; refine nNz ?_; refine cFz ?_; refine CW.skip ?_; refine blkN ?_; refine thenN ?_; refine sRz ?_; apply LW.v0; rfl; rfl; apply ValP.buildT; infer_instance; infer_instance; exact PartsOk.nil; rfl; simp only [fillP, wrCells, Value.cells, List.getElem?_cons_zero, List.getElem?_cons_succ, List.toList_toArray, List.setIfInBounds_toArray, List.set_cons_succ, List.set_cons_zero, Nat.reduceAdd, Nat.zero_add]; rfl; refine LW.store rfl rfl .head (.whole rfl rfl rfl) ?_; refine vAz ?_; refine nNz ?_; refine CW.ret ?_)
        (apply finR; exact .inl rfl; rfl; rfl; rfl; apply ResL.cons; apply Res.cell; rfl; apply Known.at; apply FsAt.head; exact Rd.whole rfl; apply ResL.cons; exact Res.tmp rfl; exact ResL.nil)
        rfl
/-- What is asked for. -/
def aska (kind : Int) (op : Nat) (ws dt : Value) : Array Value := #[.int .i64 kind, .int .u8 (op : Int), ws, dt]
/-- Is it a call that is asked for, with as many words as that has? -/
def askB (kind : Int) (op n : Nat) : Bool := (shq op).2.2.2.2.2 && (decide (kind = 2) && decide ((n : Int) = (shq op).1))
section rd
variable {P : Program} {T E : TypeId} {fr : Nat × Nat} {kind : Int} {op : Nat} {ws dt : Value}
theorem ask_rd0 [AgI P T false] : Rd P T (.cells (aska kind op ws dt) E fr) 0 (.int .i64 kind) := Rd.one rfl
theorem ask_rd1 [AgI P T false] : Rd P T (.cells (aska kind op ws dt) E fr) 1 (.int .u8 (op : Int)) := Rd.one rfl
theorem ask_rd2 [AgI P T false] : Rd P T (.cells (aska kind op ws dt) E fr) 2 ws := Rd.one rfl
theorem ask_rdW {z : Value} [AgI P T true] [InfoI P T 4 z] : Rd P T (.cells (aska kind op ws dt) E fr) 0 (.agg (aska kind op ws dt)) := Rd.whole rfl
theorem sh_rd0 [AgI P T false] : Rd P T (.cells (shc op).toArray E fr) 0 (.int .i64 (shq op).1) := Rd.one rfl
theorem sh_rdW {z : Value} [AgI P T true] [InfoI P T 5 z] : Rd P T (.cells (shc op).toArray E fr) 0 (.agg (shc op).toArray) := Rd.whole rfl
end rd
attribute [local irreducible] shq
theorem shapeOf_calls (kind : Int) (op n c : Nat) (p : Option Addr) (q : Option Addr) (d e : Nat) (w : World) : Calls Tryz.prog 53 #[.agg (aska kind op (.slice p n c) (.slice q d e))] w (Ret w (.tuple #[.agg (shc op).toArray, .bool (askB kind op n)])) := by
  have hSh0 := shaped_calls op
  unfold askB
  refine enter (args := [_]) _ [] [] Tryz.func53 rfl Tryz.ntmps53 rfl (by simp) .nil ?_
  cases hb : (shq op).2.2.2.2.2 with
  | false =>
    rw [hb] at hSh0
    have hSh : ∀ w, Calls Tryz.prog 47 #[.int .u8 (op : Int)] w (Ret w (.tuple #[.agg (shc op).toArray, .bool false])) := hSh0
    (refine sRz ?_; apply LW.boxA; rfl; rfl; intro _; apply LW.allocA; rfl; intro _; refine vAz ?_; refine nSz ?_; refine vFz ?_; refine ldz rfl (.tail .head) ask_rd1 ?_; apply LW.callE; rfl; rfl; infer_instance; exact .cons rfl .nil; intro w _; exact hSh w; refine vMz ?_; refine vEz ?_; refine vEz ?_; apply LW.allocA; rfl; intro _; refine LW.store rfl rfl .head (.whole rfl rfl rfl) ?_; refine vAz ?_; refine nNz ?_; refine CW.seq ?_; apply CW.pre; refine AnyW.any 16 mixed (by decide +kernel) ?_; (try simp only [tsOf_cons, tsOf_nil, tsOf_app]); apply DW.loadO; rfl; rfl; rfl; exact WantT.none; rfl; apply TRead.head; exact ancB_nil; exact sh_rdW; refine dvz (.move rfl) ?_; refine dvz (.move rfl) ?_; (iterate 3 refine dSz ?_); refine dvz (.pickF' rfl (by with_reducible rfl) rfl) ?_; refine dvz (.move rfl) ?_; (iterate 6 refine dSz ?_); refine dvz (.pickF' rfl (by with_reducible rfl) rfl) ?_; apply DW.store; rfl; rfl; exact WantT.none; rfl; rfl; apply TSet.tail; apply TSet.head; exact ancB_nil; exact ancB_nil; apply Wr.whole; rfl; rfl; rfl; apply DW.nil; simp only [fsOf_cons, fsOf_nil, fsOf_app, fsOf_tsOf, fsOf_new]; refine vAz ?_; refine nNz ?_; refine CW.ret ?_)
    (apply finR; exact .inl rfl; rfl; rfl; rfl; apply ResL.cons; apply Res.cell; rfl; apply Known.at; apply FsAt.tail; apply FsAt.head; exact sh_rdW; apply ResL.cons; exact Res.tmp rfl; exact ResL.nil)
    rfl
  | true =>
    rw [hb] at hSh0
    have hSh : ∀ w, Calls Tryz.prog 47 #[.int .u8 (op : Int)] w (Ret w (.tuple #[.agg (shc op).toArray, .bool true])) := hSh0
    by_cases hk : kind = 2
    · subst hk
      by_cases hn : (n : Int) = (shq op).1
      · rw [decide_eq_true hn]
        (refine sRz ?_; apply LW.boxA; rfl; rfl; intro _; apply LW.allocA; rfl; intro _; refine vAz ?_; refine nSz ?_; refine vFz ?_; refine ldz rfl (.tail .head) ask_rd1 ?_; apply LW.callE; rfl; rfl; infer_instance; exact .cons rfl .nil; intro w _; exact hSh w; refine vMz ?_; refine vEz ?_; refine vEz ?_; apply LW.allocA; rfl; intro _; refine LW.store rfl rfl .head (.whole rfl rfl rfl) ?_; refine vAz ?_; refine nNz ?_; refine CW.seq ?_; apply CW.pre; refine AnyW.any 16 mixed (by decide +kernel) ?_; (try simp only [tsOf_cons, tsOf_nil, tsOf_app]); apply DW.loadO; rfl; rfl; rfl; exact WantT.none; rfl; apply TRead.head; exact ancB_nil; exact sh_rdW; refine dvz (.move rfl) ?_; refine dvz (.move rfl) ?_; refine dwz (.fieldAddr rfl rfl) ?_; apply DW.loadO; rfl; rfl; rfl; apply wantYes; rfl; rfl; (with_reducible rfl); rfl; apply TRead.tail; apply TRead.tail; apply TRead.head; exact ancB_nil; exact ask_rd0; refine dwz (.eqT rfl rfl (by omega)) ?_; refine dvz (.pickT' rfl (by with_reducible rfl) rfl) ?_; refine dvz (.move rfl) ?_; refine dwz (.fieldAddr rfl rfl) ?_; apply DW.loadO; rfl; rfl; rfl; apply wantYes; rfl; rfl; (with_reducible rfl); rfl; apply TRead.tail; apply TRead.tail; apply TRead.head; exact ancB_nil; exact ask_rd2; refine dwz (.lenR rfl inferInstance rfl) ?_; refine dwz (.fieldAddr rfl rfl) ?_; apply DW.loadO; rfl; rfl; rfl; apply wantYes; rfl; rfl; (with_reducible rfl); rfl; apply TRead.head; exact ancB_nil; exact sh_rd0; refine dwz (.eqT rfl rfl (by omega)) ?_; refine dvz (.pickT' rfl (by with_reducible rfl) rfl) ?_; apply DW.store; rfl; rfl; exact WantT.none; rfl; rfl; apply TSet.tail; apply TSet.head; exact ancB_nil; exact ancB_nil; apply Wr.whole; rfl; rfl; rfl; apply DW.nil; simp only [fsOf_cons, fsOf_nil, fsOf_app, fsOf_tsOf, fsOf_new]; refine vAz ?_; refine nNz ?_; refine CW.ret ?_)
        (apply finR; exact .inl rfl; rfl; rfl; rfl; apply ResL.cons; apply Res.cell; rfl; apply Known.at; apply FsAt.tail; apply FsAt.head; exact sh_rdW; apply ResL.cons; exact Res.tmp rfl; exact ResL.nil)
        rfl
      · rw [decide_eq_false hn]
        (refine sRz ?_; apply LW.boxA; rfl; rfl; intro _; apply LW.allocA; rfl; intro _; refine vAz ?_; refine nSz ?_; refine vFz ?_; refine ldz rfl (.tail .head) ask_rd1 ?_; apply LW.callE; rfl; rfl; infer_instance; exact .cons rfl .nil; intro w _; exact hSh w; refine vMz ?_; refine vEz ?_; refine vEz ?_; apply LW.allocA; rfl; intro _; refine LW.store rfl rfl .head (.whole rfl rfl rfl) ?_; refine vAz ?_; refine nNz ?_; refine CW.seq ?_; apply CW.pre; refine AnyW.any 16 mixed (by decide +kernel) ?_; (try simp only [tsOf_cons, tsOf_nil, tsOf_app]); apply DW.loadO; rfl; rfl; rfl; exact WantT.none; rfl; apply TRead.head; exact ancB_nil; exact sh_rdW; refine dvz (.move rfl) ?_; refine dvz (.move rfl) ?_; refine dwz (.fieldAddr rfl rfl) ?_; apply DW.loadO; rfl; rfl; rfl; apply wantYes; rfl; rfl; (with_reducible rfl); rfl; apply TRead.tail; apply TRead.tail; apply TRead.head; exact ancB_nil; exact ask_rd0; refine dwz (.eqT rfl rfl (by omega)) ?_; refine dvz (.pickT' rfl (by with_reducible rfl) rfl) ?_; refine dvz (.move rfl) ?_; refine dwz (.fieldAddr rfl rfl) ?_; apply DW.loadO; rfl; rfl; rfl; apply wantYes; rfl; rfl; (with_reducible rfl); rfl; apply TRead.tail; apply TRead.tail; apply TRead.head; exact ancB_nil; exact ask_rd2; refine dwz (.lenR rfl inferInstance rfl) ?_; refine dwz (.fieldAddr rfl rfl) ?_; apply DW.loadO; rfl; rfl; rfl; apply wantYes; rfl; rfl; (with_reducible rfl); rfl; apply TRead.head; exact ancB_nil; exact sh_rd0; refine dwz (.eqF rfl rfl (by omega)) ?_; refine dvz (.pickT' rfl (by with_reducible rfl) rfl) ?_; apply DW.store; rfl; rfl; exact WantT.none; rfl; rfl; apply TSet.tail; apply TSet.head; exact ancB_nil; exact ancB_nil; apply Wr.whole; rfl; rfl; rfl; apply DW.nil; simp only [fsOf_cons, fsOf_nil, fsOf_app, fsOf_tsOf, fsOf_new]; refine vAz ?_; refine nNz ?_; refine CW.ret ?_)
        (apply finR; exact .inl rfl; rfl; rfl; rfl; apply ResL.cons; apply Res.cell; rfl; apply Known.at; apply FsAt.tail; apply FsAt.head; exact sh_rdW; apply ResL.cons; exact Res.tmp rfl; exact ResL.nil)
        rfl
    · rw [decide_eq_false hk]
      (refine sRz ?_; apply LW.boxA; rfl; rfl; intro _; apply LW.allocA; rfl; intro _; refine vAz ?_; refine nSz ?_; refine vFz ?_; refine ldz rfl (.tail .head) ask_rd1 ?_; apply LW.callE; rfl; rfl; infer_instance; exact .cons rfl .nil; intro w _; exact hSh w; refine vMz ?_; refine vEz ?_; refine vEz ?_; apply LW.allocA; rfl; intro _; refine LW.store rfl rfl .head (.whole rfl rfl rfl) ?_; refine vAz ?_; refine nNz ?_; refine CW.seq ?_; apply CW.pre; refine AnyW.any 16 mixed (by decide +kernel) ?_; (try simp only [tsOf_cons, tsOf_nil, tsOf_app]); apply DW.loadO; rfl; rfl; rfl; exact WantT.none; rfl; apply TRead.head; exact ancB_nil; exact sh_rdW; refine dvz (.move rfl) ?_; refine dvz (.move rfl) ?_; refine dwz (.fieldAddr rfl rfl) ?_; apply DW.loadO; rfl; rfl; rfl; apply wantYes; rfl; rfl; (with_reducible rfl); rfl; apply TRead.tail; apply TRead.tail; apply TRead.head; exact ancB_nil; exact ask_rd0; refine dwz (.eqF rfl rfl (by omega)) ?_; refine dvz (.pickT' rfl (by with_reducible rfl) rfl) ?_; refine dvz (.move rfl) ?_; (iterate 6 refine dSz ?_); refine dvz (.pickF' rfl (by with_reducible rfl) rfl) ?_; apply DW.store; rfl; rfl; exact WantT.none; rfl; rfl; apply TSet.tail; apply TSet.head; exact ancB_nil; exact ancB_nil; apply Wr.whole; rfl; rfl; rfl; apply DW.nil; simp only [fsOf_cons, fsOf_nil, fsOf_app, fsOf_tsOf, fsOf_new]; refine vAz ?_; refine nNz ?_; refine CW.ret ?_)
      (apply finR; exact .inl rfl; rfl; rfl; rfl; apply ResL.cons; apply Res.cell; rfl; apply Known.at; apply FsAt.tail; apply FsAt.head; exact sh_rdW; apply ResL.cons; exact Res.tmp rfl; exact ResL.nil)
      rfl
/-! ### Who is called -/
theorem word_rd {P : Program} {T E : TypeId} {fr : Nat × Nat} {cs : Array Value} {off m : Nat} {l : List Nat} [AgI P T true] {z : Value} [InfoI P T 4 z] (hx : (cs.toList.drop off).take m = wcs l) (i : Nat) (hi : i < l.length) : Rd P T (.cells cs E fr) (off + i * 4) (wv (l.getD i 0)) := by
  have h := Rd.elemA (P := P) (T := T) (E := E) (fr := fr) (g := fun a => (wc a).toList) (l := l) (a := l[i]) hx (wcs_len l) (List.getElem?_eq_getElem hi)
  rw [List.getD_eq_getElem?_getD, List.getElem?_eq_getElem hi]
  exact h
theorem shq_ok {op : Nat} (h : (shq op).2.2.2.2.2 = true) : (op = 241 ∧ shq op = (7, 1, 2, 3, 5, true)) ∨ ((op = 244 ∨ op = 250) ∧ shq op = (6, 1, -1, 2, 4, true)) ∨ (op = 245 ∧ shq op = (4, -1, 0, 1, -1, true)) := by
  unfold shq at h ⊢
  by_cases h1 : op = 241
  · rw [if_pos h1] at h ⊢; exact .inl ⟨h1, rfl⟩
  · rw [if_neg h1] at h ⊢
    by_cases h2 : op = 244 ∨ op = 250
    · rw [if_pos h2] at h ⊢; exact .inr (.inl ⟨h2, rfl⟩)
    · rw [if_neg h2] at h ⊢
      by_cases h3 : op = 245
      · rw [if_pos h3] at h ⊢; exact .inr (.inr ⟨h3, rfl⟩)
      · rw [if_neg h3] at h; cases h
end Go.Proofs.YtpgdnfgjbhdbpaaGreatDoor

/-
  Calls: which may be; the document's; what their ends lay.
  Conditions: none.
-/
namespace Go.Proofs.YtpgdnfgjbhdbpaaGreatDoor
open Go Go.RowKit SL
open CK (CheckC_calls)
set_option maxRecDepth 8000
set_option maxHeartbeats 4000000
set_option linter.unusedSimpArgs false
set_option linter.unusedVariables false
attribute [local irreducible] SL.CW SL.LW SL.DW Calls SL.Ret SL.RetG SL.beginQ SL.roundQ SL.rangeQ SL.inQ SL.RW SL.AnyW SL.thenQ SL.thenC SL.thenW SL.blkQ SL.finQ SL.ValP SL.NewP SL.SetP SL.CallP SL.Rd SL.Wr SL.Known
/-- What a call's cells say. -/
structure ClV where
  op : Nat
  dst : Nat
  self : Nat
  frm : Nat
  val : Nat
  mv : Bool
  gas : Nat
  inp : Value
  code : Value
  pl : Nat
  n : Nat
  stat : Bool
def clc (c : ClV) : List Value := .int .u8 (c.op : Int) :: .int .u64 (c.dst : Int) :: .int .u64 (c.self : Int) :: .int .u64 (c.frm : Int) :: ((wc c.val).toList ++ [.bool c.mv, .int .u64 (c.gas : Int), c.inp, c.code, .int .u64 (c.pl : Int), .int .u64 (c.n : Int), .bool c.stat])
abbrev cla (c : ClV) : Array Value := (clc c).toArray
abbrev clv (c : ClV) : Value := .agg (cla c)
/-- What a call's rows hold. -/
structure ClL where
  il : List UInt8
  cl : List UInt8
structure ClRows (w : World) (c : ClV) (L : ClL) : Prop where
  i : RowAt w 1 c.inp L.il.length (ucs L.il)
  c : RowAt w 1 c.code L.cl.length (ucs L.cl)
theorem ClRows.st {w0 w : World} {f : ClV} {L : ClL} {fs : Fs} (h : ClRows w0 f L) (hs : St w0 [] fs w) : ClRows w f L := ⟨h.i.st hs, h.c.st hs⟩
theorem ClRows.bel {w0 w : World} {f : ClV} {L : ClL} (h : ClRows w0 f L) (hb : Bel w0.heap.size [] w0 w) : ClRows w f L := ⟨h.i.bel hb, h.c.bel hb⟩
section rd
variable {P : Program} {T E : TypeId} {fr : Nat × Nat} {op dst self frm val gas pl n : Nat} {inp code : Value} {mv stat : Bool}
theorem cl_rd0 [AgI P T false] : Rd P T (.cells (cla ⟨op, dst, self, frm, val, mv, gas, inp, code, pl, n, stat⟩) E fr) 0 (.int .u8 (op : Int)) := Rd.one rfl
theorem cl_rd1 [AgI P T false] : Rd P T (.cells (cla ⟨op, dst, self, frm, val, mv, gas, inp, code, pl, n, stat⟩) E fr) 1 (.int .u64 (dst : Int)) := Rd.one rfl
theorem cl_rd2 [AgI P T false] : Rd P T (.cells (cla ⟨op, dst, self, frm, val, mv, gas, inp, code, pl, n, stat⟩) E fr) 2 (.int .u64 (self : Int)) := Rd.one rfl
theorem cl_rd3 [AgI P T false] : Rd P T (.cells (cla ⟨op, dst, self, frm, val, mv, gas, inp, code, pl, n, stat⟩) E fr) 3 (.int .u64 (frm : Int)) := Rd.one rfl
theorem cl_rd4 [AgI P T true] {z : Value} [InfoI P T 4 z] : Rd P T (.cells (cla ⟨op, dst, self, frm, val, mv, gas, inp, code, pl, n, stat⟩) E fr) 4 (wv val) := Rd.mid (cs := (wc val).toList) rfl rfl
theorem cl_rd9 [AgI P T false] : Rd P T (.cells (cla ⟨op, dst, self, frm, val, mv, gas, inp, code, pl, n, stat⟩) E fr) 9 (.int .u64 (gas : Int)) := Rd.one rfl
theorem cl_rd10 [AgI P T false] : Rd P T (.cells (cla ⟨op, dst, self, frm, val, mv, gas, inp, code, pl, n, stat⟩) E fr) 10 inp := Rd.one rfl
theorem cl_rd11 [AgI P T false] : Rd P T (.cells (cla ⟨op, dst, self, frm, val, mv, gas, inp, code, pl, n, stat⟩) E fr) 11 code := Rd.one rfl
theorem cl_rd12 [AgI P T false] : Rd P T (.cells (cla ⟨op, dst, self, frm, val, mv, gas, inp, code, pl, n, stat⟩) E fr) 12 (.int .u64 (pl : Int)) := Rd.one rfl
theorem cl_rd13 [AgI P T false] : Rd P T (.cells (cla ⟨op, dst, self, frm, val, mv, gas, inp, code, pl, n, stat⟩) E fr) 13 (.int .u64 (n : Int)) := Rd.one rfl
theorem cl_rd14 [AgI P T false] : Rd P T (.cells (cla ⟨op, dst, self, frm, val, mv, gas, inp, code, pl, n, stat⟩) E fr) 14 (.bool stat) := Rd.one rfl
theorem cl_rdW {c : ClV} {z : Value} [AgI P T true] [InfoI P T 15 z] : Rd P T (.cells (cla c) E fr) 0 (clv c) := Rd.whole rfl
end rd
/-- May a call be? -/
def okC (c : ClV) (L : ClL) : Prop := (c.op = 241 ∨ c.op = 244 ∨ c.op = 245 ∨ c.op = 250) ∧ (c.gas ≤ 20000 ∧ L.il.length ≤ 1024 ∧ L.cl.length ≤ 200) ∧ (c.n ≤ 1024 ∧ c.pl + c.n ≤ 1024 ∧ (0 < c.n ∨ c.pl = 0)) ∧ (c.op = 245 → L.il.length = 0 ∧ c.n = 0) ∧ (¬ c.op = 245 → L.cl.length = 0)
instance (c : ClV) (L : ClL) : Decidable (okC c L) := by unfold okC; infer_instance
attribute [local irreducible] shq
theorem callCheck_calls (c : ClV) (L : ClL) (w : World) (h : ClRows w c L) : Calls Tryz.prog 19 #[clv c] w (Ret w (.int .i64 (if okC c L then 0 else 250))) := by
  obtain ⟨e, he⟩ : ∃ e : Int, e = if okC c L then 0 else 250 := ⟨_, rfl⟩
  have hp : okC c L → e = 0 := fun h => by rw [he, if_pos h]
  have hn : ¬ okC c L → e = 250 := fun h => by rw [he, if_neg h]
  rw [← he]
  clear he
  unfold okC at hp hn
  obtain ⟨op, dst, self, frm, val, mv, gas, inp, code, pl, n, stat⟩ := c
  obtain ⟨h10, h11⟩ := h
  dsimp only at h10 h11 hp hn
  obtain ⟨p10, c10, rfl, _, hm10⟩ := h10.form
  obtain ⟨p11, c11, rfl, _, hm11⟩ := h11.form
  have hCk0 : ∀ w' {fs}, St w [] fs w' → Calls Tryz.prog 48 #[.slice p11 L.cl.length c11] w' (Ret w' (.int .i64 (if L.cl.length ≤ 200 then 0 else 3))) := fun w' fs hst => CheckC_calls _ _ _ w' (h11.st hst)
  simp only [maxLen] at hm10 hm11
  have hSh0 := shaped_calls op
  refine enter (args := [_]) _ [] [] Tryz.func19 rfl Tryz.ntmps19 rfl (by simp) .nil ?_
  by_cases hop : op = 241 ∨ op = 244 ∨ op = 245 ∨ op = 250
  · have hb : (shq op).2.2.2.2.2 = true := by unfold shq; rcases hop with h | h | h | h <;> subst h <;> rfl
    rw [hb] at hSh0
    have hSh : ∀ w, Calls Tryz.prog 47 #[.int .u8 (op : Int)] w (Ret w (.tuple #[.agg (shc op).toArray, .bool true])) := hSh0
    by_cases hc : L.cl.length ≤ 200
    · rw [if_pos hc] at hCk0
      have hCk : ∀ w' {fs}, St w [] fs w' → Calls Tryz.prog 48 #[.slice p11 L.cl.length c11] w' (Ret w' (.int .i64 0)) := hCk0
      by_cases h245 : op = 245
      · (refine sRz ?_; apply LW.boxA; rfl; rfl; intro _; refine vAz ?_; refine nSz ?_; refine vFz ?_; refine ldz rfl .head cl_rd0 ?_; apply LW.callE; rfl; rfl; infer_instance; exact .cons rfl .nil; intro w _; exact hSh w; refine vMz ?_; refine vEz ?_; refine vEz ?_; apply LW.allocA; rfl; intro _; refine LW.store rfl rfl .head (.whole rfl rfl rfl) ?_; refine vAz ?_; refine nSz ?_; refine vMz ?_; refine vMz ?_; refine gTz ?_; refine vFz ?_; refine gTz ?_; refine ldz rfl (.tail .head) cl_rd9 ?_; refine gTz ?_; refine lvz (.leq rfl rfl) ?_; refine pTz ?_; refine vMz ?_)
        (refine LW.guardDT rfl rfl rfl (fun hsq hsp => ?_) (fun hsq hsp => ?_))
        (refine vFz ?_; refine gTaz ?_; refine ldz rfl (.tail .head) cl_rd10 ?_; refine gTaz ?_; refine lvz (.lenR rfl inferInstance rfl) ?_; refine gTaz ?_; refine lvz (.leq rfl rfl) ?_; refine pTaz ?_; refine vMz ?_; refine LW.guardDT rfl rfl rfl (fun hsq hsp => ?_) (fun hsq hsp => ?_); refine vFz ?_; refine gTaz ?_; refine ldz rfl (.tail .head) cl_rd11 ?_; refine gTaz ?_; apply LW.callE; rfl; rfl; infer_instance; exact .cons rfl .nil; intro w _; exact hCk w (by assumption); refine gTaz ?_; refine lvz (.eqT rfl rfl (by omega)) ?_; refine pTaz ?_; refine vAz ?_; refine nSz ?_; refine vMz ?_; refine vMz ?_; refine gTz ?_; refine vFz ?_; refine gTz ?_; refine ldz rfl (.tail .head) cl_rd13 ?_; refine gTz ?_; refine lvz (.leq rfl rfl) ?_; refine pTz ?_; refine vMz ?_; refine LW.guardDT rfl rfl rfl (fun hsq hsp => ?_) (fun hsq hsp => ?_); refine vFz ?_; refine gTaz ?_; refine ldz rfl (.tail .head) cl_rd12 ?_; refine gTaz ?_; refine vFz ?_; refine gTaz ?_; refine ldz rfl (.tail .head) cl_rd13 ?_; refine gTaz ?_; refine lvz (.subNK rfl rfl (by decide) (by omega) (by omega)) ?_; refine gTaz ?_; refine lvz (.leq rfl rfl) ?_; refine pTaz ?_; refine vMz ?_; refine LW.guardDT rfl rfl rfl (fun hsq hsp => ?_) (fun hsq hsp => ?_); refine vFz ?_; refine gTaz ?_; refine ldz rfl (.tail .head) cl_rd13 ?_; refine gTaz ?_; refine lvz (.gtr rfl rfl) ?_; refine gTaz ?_; refine vMz ?_; refine LW.guardDF rfl rfl rfl (fun hsq hsp => ?_) (fun hsq hsp => ?_); refine vFz ?_; refine gTaz ?_; refine ldz rfl (.tail .head) cl_rd12 ?_; refine gTaz ?_; refine lvz (.eq rfl rfl) ?_; refine gTaz ?_; refine pFaz ?_; refine pTaz ?_; refine vAz ?_; refine nNz ?_; refine CW.seq ?_; refine sRz ?_; refine vFz ?_; refine ldz rfl (.tail .head) cl_rd0 ?_; refine lvz (.eqT rfl rfl (by omega)) ?_; refine nNz ?_; refine cTz ?_; refine CW.region ?_; refine vMz ?_; refine vMz ?_; refine LW.guardDT rfl rfl rfl (fun hsq hsp => ?_) (fun hsq hsp => ?_); refine vFz ?_; refine gTaz ?_; refine ldz rfl (.tail .head) cl_rd10 ?_; refine gTaz ?_; refine lvz (.lenR rfl inferInstance rfl) ?_; refine gTaz ?_; refine lvz (.eq rfl rfl) ?_; refine pTaz ?_; refine vMz ?_; refine LW.guardDT rfl rfl rfl (fun hsq hsp => ?_) (fun hsq hsp => ?_); refine vFz ?_; refine gTaz ?_; refine ldz rfl (.tail .head) cl_rd13 ?_; refine gTaz ?_; refine lvz (.eqT rfl rfl (by omega)) ?_; refine pTaz ?_; refine vAz ?_; refine nNz ?_; refine CW.seq ?_; refine sRz ?_; refine vMz ?_; refine lvz (.notT rfl (by with_reducible rfl)) ?_; refine nNz ?_; refine cFz ?_; refine CW.skip ?_; refine thenN ?_; refine sRz ?_; refine vAz ?_; refine nNz ?_; refine CW.ret ?_; apply finR; exact .inl rfl; rfl; rfl; rfl; apply ResL.cons; exact Res.tmp rfl; exact ResL.nil; rw [hp (by omega)]; rfl; refine gFaz ?_; refine gFaz ?_; refine pFaz ?_; refine vAz ?_; refine nNz ?_; refine CW.seq ?_; refine sRz ?_; refine vMz ?_; refine lvz (.notF rfl (by with_reducible rfl)) ?_; refine nNz ?_; refine cTz ?_; refine sRz ?_; refine vAz ?_; refine nNz ?_; refine CW.ret ?_; refine thenR (finR (.inl rfl) rfl rfl rfl (.cons (.tmp rfl) .nil) ?_); rw [hn (by omega)]; rfl; (iterate 3 refine gFaz ?_); refine pFaz ?_; refine vMz ?_; (iterate 3 refine gFz ?_); refine pFz ?_; refine vAz ?_; refine nNz ?_; refine CW.seq ?_; refine sRz ?_; refine vMz ?_; refine lvz (.notF rfl (by with_reducible rfl)) ?_; refine nNz ?_; refine cTz ?_; refine sRz ?_; refine vAz ?_; refine nNz ?_; refine CW.ret ?_; refine thenR (finR (.inl rfl) rfl rfl rfl (.cons (.tmp rfl) .nil) ?_); rw [hn (by omega)]; rfl; refine gFaz ?_; refine gFaz ?_; refine gTaz ?_; refine pTaz ?_; refine pTaz ?_; refine vAz ?_; refine nNz ?_; refine CW.seq ?_; refine sRz ?_; refine vFz ?_; refine ldz rfl (.tail .head) cl_rd0 ?_; refine lvz (.eqT rfl rfl (by omega)) ?_; refine nNz ?_; refine cTz ?_; refine CW.region ?_; refine vMz ?_; refine vMz ?_; refine gTz ?_; refine vFz ?_; refine gTz ?_; refine ldz rfl (.tail .head) cl_rd10 ?_; refine gTz ?_; refine lvz (.lenR rfl inferInstance rfl) ?_; refine gTz ?_; refine lvz (.eq rfl rfl) ?_; refine pTz ?_; refine vMz ?_; refine LW.guardDT rfl rfl rfl (fun hsq hsp => ?_) (fun hsq hsp => ?_); refine vFz ?_; refine gTaz ?_; refine ldz rfl (.tail .head) cl_rd13 ?_; refine gTaz ?_; refine lvz (.eqF rfl rfl (by omega)) ?_; refine pTaz ?_; refine vAz ?_; refine nNz ?_; refine CW.seq ?_; refine sRz ?_; refine vMz ?_; refine lvz (.notF rfl (by with_reducible rfl)) ?_; refine nNz ?_; refine cTz ?_; refine sRz ?_; refine vAz ?_; refine nNz ?_; refine CW.ret ?_; refine thenR (finR (.inl rfl) rfl rfl rfl (.cons (.tmp rfl) .nil) ?_); rw [hn (by omega)]; rfl; refine gFaz ?_; refine gFaz ?_; refine pFaz ?_; refine vAz ?_; refine nNz ?_; refine CW.seq ?_; refine sRz ?_; refine vMz ?_; refine lvz (.notF rfl (by with_reducible rfl)) ?_; refine nNz ?_; refine cTz ?_; refine sRz ?_; refine vAz ?_; refine nNz ?_; refine CW.ret ?_; refine thenR (finR (.inl rfl) rfl rfl rfl (.cons (.tmp rfl) .nil) ?_); rw [hn (by omega)]; rfl; (iterate 3 refine gFaz ?_); (iterate 3 refine gUz ?_); refine gFaz ?_; refine pFaz ?_; refine vAz ?_; refine nNz ?_; refine CW.seq ?_; refine sRz ?_; refine vFz ?_; refine ldz rfl (.tail .head) cl_rd0 ?_; refine lvz (.eqT rfl rfl (by omega)) ?_; refine nNz ?_; refine cTz ?_; refine CW.region ?_; refine vMz ?_; refine vMz ?_; (iterate 4 refine gFz ?_); refine pFz ?_; refine vMz ?_; (iterate 3 refine gFz ?_); refine pFz ?_; refine vAz ?_; refine nNz ?_; refine CW.seq ?_; refine sRz ?_; refine vMz ?_; refine lvz (.notF rfl (by with_reducible rfl)) ?_; refine nNz ?_; refine cTz ?_; refine sRz ?_; refine vAz ?_; refine nNz ?_; refine CW.ret ?_; refine thenR (finR (.inl rfl) rfl rfl rfl (.cons (.tmp rfl) .nil) ?_); rw [hn (by omega)]; rfl; (iterate 5 refine gFaz ?_); refine pFaz ?_; refine vMz ?_; (iterate 4 refine gFz ?_); (iterate 3 refine gUz ?_); refine gFz ?_; refine pFz ?_; refine vAz ?_; refine nNz ?_; refine CW.seq ?_; refine sRz ?_; refine vFz ?_; refine ldz rfl (.tail .head) cl_rd0 ?_; refine lvz (.eqT rfl rfl (by omega)) ?_; refine nNz ?_; refine cTz ?_; refine CW.region ?_; refine vMz ?_; refine vMz ?_; (iterate 4 refine gFz ?_); refine pFz ?_; refine vMz ?_; (iterate 3 refine gFz ?_); refine pFz ?_; refine vAz ?_; refine nNz ?_; refine CW.seq ?_; refine sRz ?_; refine vMz ?_; refine lvz (.notF rfl (by with_reducible rfl)) ?_; refine nNz ?_; refine cTz ?_; refine sRz ?_; refine vAz ?_; refine nNz ?_; refine CW.ret ?_; refine thenR (finR (.inl rfl) rfl rfl rfl (.cons (.tmp rfl) .nil) ?_); rw [hn (by omega)]; rfl; (iterate 3 refine gFaz ?_); refine pFaz ?_; refine vAz ?_; refine nSz ?_; refine vMz ?_; refine vMz ?_; (iterate 3 refine gFz ?_); refine pFz ?_; refine vMz ?_; (iterate 6 refine gFz ?_); refine pFz ?_; refine vMz ?_; (iterate 4 refine gFz ?_); (iterate 3 refine gUz ?_); refine gFz ?_; refine pFz ?_; refine vAz ?_; refine nNz ?_; refine CW.seq ?_; refine sRz ?_; refine vFz ?_; refine ldz rfl (.tail .head) cl_rd0 ?_; refine lvz (.eqT rfl rfl (by omega)) ?_; refine nNz ?_; refine cTz ?_; refine CW.region ?_; refine vMz ?_; refine vMz ?_; (iterate 4 refine gFz ?_); refine pFz ?_; refine vMz ?_; (iterate 3 refine gFz ?_); refine pFz ?_; refine vAz ?_; refine nNz ?_; refine CW.seq ?_; refine sRz ?_; refine vMz ?_; refine lvz (.notF rfl (by with_reducible rfl)) ?_; refine nNz ?_; refine cTz ?_; refine sRz ?_; refine vAz ?_; refine nNz ?_; refine CW.ret ?_; refine thenR (finR (.inl rfl) rfl rfl rfl (.cons (.tmp rfl) .nil) ?_); rw [hn (by omega)]; rfl; (iterate 3 refine gFaz ?_); refine pFaz ?_; refine vMz ?_; (iterate 4 refine gFz ?_); refine pFz ?_; refine vAz ?_; refine nSz ?_; refine vMz ?_; refine vMz ?_; (iterate 3 refine gFz ?_); refine pFz ?_; refine vMz ?_; (iterate 6 refine gFz ?_); refine pFz ?_; refine vMz ?_; (iterate 4 refine gFz ?_); (iterate 3 refine gUz ?_); refine gFz ?_; refine pFz ?_; refine vAz ?_; refine nNz ?_; refine CW.seq ?_; refine sRz ?_; refine vFz ?_; refine ldz rfl (.tail .head) cl_rd0 ?_; refine lvz (.eqT rfl rfl (by omega)) ?_; refine nNz ?_; refine cTz ?_; refine CW.region ?_; refine vMz ?_; refine vMz ?_; (iterate 4 refine gFz ?_); refine pFz ?_; refine vMz ?_; (iterate 3 refine gFz ?_); refine pFz ?_; refine vAz ?_; refine nNz ?_; refine CW.seq ?_; refine sRz ?_; refine vMz ?_; refine lvz (.notF rfl (by with_reducible rfl)) ?_; refine nNz ?_; refine cTz ?_; refine sRz ?_; refine vAz ?_; refine nNz ?_; refine CW.ret ?_; refine thenR (finR (.inl rfl) rfl rfl rfl (.cons (.tmp rfl) .nil) ?_); rw [hn (by omega)]; rfl)
      · (refine sRz ?_; apply LW.boxA; rfl; rfl; intro _; refine vAz ?_; refine nSz ?_; refine vFz ?_; refine ldz rfl .head cl_rd0 ?_; apply LW.callE; rfl; rfl; infer_instance; exact .cons rfl .nil; intro w _; exact hSh w; refine vMz ?_; refine vEz ?_; refine vEz ?_; apply LW.allocA; rfl; intro _; refine LW.store rfl rfl .head (.whole rfl rfl rfl) ?_; refine vAz ?_; refine nSz ?_; refine vMz ?_; refine vMz ?_; refine gTz ?_; refine vFz ?_; refine gTz ?_; refine ldz rfl (.tail .head) cl_rd9 ?_; refine gTz ?_; refine lvz (.leq rfl rfl) ?_; refine pTz ?_; refine vMz ?_)
        (refine LW.guardDT rfl rfl rfl (fun hsq hsp => ?_) (fun hsq hsp => ?_))
        (refine vFz ?_; refine gTaz ?_; refine ldz rfl (.tail .head) cl_rd10 ?_; refine gTaz ?_; refine lvz (.lenR rfl inferInstance rfl) ?_; refine gTaz ?_; refine lvz (.leq rfl rfl) ?_; refine pTaz ?_; refine vMz ?_; refine LW.guardDT rfl rfl rfl (fun hsq hsp => ?_) (fun hsq hsp => ?_); refine vFz ?_; refine gTaz ?_; refine ldz rfl (.tail .head) cl_rd11 ?_; refine gTaz ?_; apply LW.callE; rfl; rfl; infer_instance; exact .cons rfl .nil; intro w _; exact hCk w (by assumption); refine gTaz ?_; refine lvz (.eqT rfl rfl (by omega)) ?_; refine pTaz ?_; refine vAz ?_; refine nSz ?_; refine vMz ?_; refine vMz ?_; refine gTz ?_; refine vFz ?_; refine gTz ?_; refine ldz rfl (.tail .head) cl_rd13 ?_; refine gTz ?_; refine lvz (.leq rfl rfl) ?_; refine pTz ?_; refine vMz ?_; refine LW.guardDT rfl rfl rfl (fun hsq hsp => ?_) (fun hsq hsp => ?_); refine vFz ?_; refine gTaz ?_; refine ldz rfl (.tail .head) cl_rd12 ?_; refine gTaz ?_; refine vFz ?_; refine gTaz ?_; refine ldz rfl (.tail .head) cl_rd13 ?_; refine gTaz ?_; refine lvz (.subNK rfl rfl (by decide) (by omega) (by omega)) ?_; refine gTaz ?_; refine lvz (.leq rfl rfl) ?_; refine pTaz ?_; refine vMz ?_; refine LW.guardDT rfl rfl rfl (fun hsq hsp => ?_) (fun hsq hsp => ?_); refine vFz ?_; refine gTaz ?_; refine ldz rfl (.tail .head) cl_rd13 ?_; refine gTaz ?_; refine lvz (.gtr rfl rfl) ?_; refine gTaz ?_; refine vMz ?_; refine LW.guardDF rfl rfl rfl (fun hsq hsp => ?_) (fun hsq hsp => ?_); refine vFz ?_; refine gTaz ?_; refine ldz rfl (.tail .head) cl_rd12 ?_; refine gTaz ?_; refine lvz (.eq rfl rfl) ?_; refine gTaz ?_; refine pFaz ?_; refine pTaz ?_; refine vAz ?_; refine nNz ?_; refine CW.seq ?_; refine sRz ?_; refine vFz ?_; refine ldz rfl (.tail .head) cl_rd0 ?_; refine lvz (.eqF rfl rfl (by omega)) ?_; refine nNz ?_; refine cFz ?_; refine CW.region ?_; refine vMz ?_; refine vMz ?_; refine LW.guardDT rfl rfl rfl (fun hsq hsp => ?_) (fun hsq hsp => ?_); refine vFz ?_; refine gTaz ?_; refine ldz rfl (.tail .head) cl_rd11 ?_; refine gTaz ?_; refine lvz (.lenR rfl inferInstance rfl) ?_; refine gTaz ?_; refine lvz (.eq rfl rfl) ?_; refine pTaz ?_; refine vAz ?_; refine nNz ?_; refine CW.seq ?_; refine sRz ?_; refine vMz ?_; refine lvz (.notB rfl) ?_; refine nNz ?_; refine CW.condN rfl (fun hsq hsp => ?_) (fun hsq hsp => ?_); refine sRz ?_; refine vAz ?_; refine nNz ?_; refine CW.ret ?_; refine thenR (finR (.inl rfl) rfl rfl rfl (.cons (.tmp rfl) .nil) ?_); rw [hn (by omega)]; rfl; refine CW.skip ?_; refine thenN ?_; refine sRz ?_; refine vAz ?_; refine nNz ?_; refine CW.ret ?_; apply finR; exact .inl rfl; rfl; rfl; rfl; apply ResL.cons; exact Res.tmp rfl; exact ResL.nil; rw [hp (by omega)]; rfl; (iterate 3 refine gFaz ?_); refine pFaz ?_; refine vAz ?_; refine nNz ?_; refine CW.seq ?_; refine sRz ?_; refine vMz ?_; refine lvz (.notF rfl (by with_reducible rfl)) ?_; refine nNz ?_; refine cTz ?_; refine sRz ?_; refine vAz ?_; refine nNz ?_; refine CW.ret ?_; refine thenR (finR (.inl rfl) rfl rfl rfl (.cons (.tmp rfl) .nil) ?_); rw [hn (by omega)]; rfl; refine gFaz ?_; refine gFaz ?_; refine gTaz ?_; refine pTaz ?_; refine pTaz ?_; refine vAz ?_; refine nNz ?_; refine CW.seq ?_; refine sRz ?_; refine vFz ?_; refine ldz rfl (.tail .head) cl_rd0 ?_; refine lvz (.eqF rfl rfl (by omega)) ?_; refine nNz ?_; refine cFz ?_; refine CW.region ?_; refine vMz ?_; refine vMz ?_; refine gTz ?_; refine vFz ?_; refine gTz ?_; refine ldz rfl (.tail .head) cl_rd11 ?_; refine gTz ?_; refine lvz (.lenR rfl inferInstance rfl) ?_; refine gTz ?_; refine lvz (.eq rfl rfl) ?_; refine pTz ?_; refine vAz ?_; refine nNz ?_; refine CW.seq ?_; refine sRz ?_; refine vMz ?_; refine lvz (.notB rfl) ?_; refine nNz ?_; refine CW.condN rfl (fun hsq hsp => ?_) (fun hsq hsp => ?_); refine sRz ?_; refine vAz ?_; refine nNz ?_; refine CW.ret ?_; refine thenR (finR (.inl rfl) rfl rfl rfl (.cons (.tmp rfl) .nil) ?_); rw [hn (by omega)]; rfl; refine CW.skip ?_; refine thenN ?_; refine sRz ?_; refine vAz ?_; refine nNz ?_; refine CW.ret ?_; apply finR; exact .inl rfl; rfl; rfl; rfl; apply ResL.cons; exact Res.tmp rfl; exact ResL.nil; rw [hp (by omega)]; rfl; (iterate 3 refine gFaz ?_); (iterate 3 refine gUz ?_); refine gFaz ?_; refine pFaz ?_; refine vAz ?_; refine nNz ?_; refine CW.seq ?_; refine sRz ?_; refine vFz ?_; refine ldz rfl (.tail .head) cl_rd0 ?_; refine lvz (.eqF rfl rfl (by omega)) ?_; refine nNz ?_; refine cFz ?_; refine CW.region ?_; refine vMz ?_; refine vMz ?_; (iterate 4 refine gFz ?_); refine pFz ?_; refine vAz ?_; refine nNz ?_; refine CW.seq ?_; refine sRz ?_; refine vMz ?_; refine lvz (.notF rfl (by with_reducible rfl)) ?_; refine nNz ?_; refine cTz ?_; refine sRz ?_; refine vAz ?_; refine nNz ?_; refine CW.ret ?_; refine thenR (finR (.inl rfl) rfl rfl rfl (.cons (.tmp rfl) .nil) ?_); rw [hn (by omega)]; rfl; (iterate 5 refine gFaz ?_); refine pFaz ?_; refine vMz ?_; (iterate 4 refine gFz ?_); (iterate 3 refine gUz ?_); refine gFz ?_; refine pFz ?_; refine vAz ?_; refine nNz ?_; refine CW.seq ?_; refine sRz ?_; refine vFz ?_; refine ldz rfl (.tail .head) cl_rd0 ?_; refine lvz (.eqF rfl rfl (by omega)) ?_; refine nNz ?_; refine cFz ?_; refine CW.region ?_; refine vMz ?_; refine vMz ?_; (iterate 4 refine gFz ?_); refine pFz ?_; refine vAz ?_; refine nNz ?_; refine CW.seq ?_; refine sRz ?_; refine vMz ?_; refine lvz (.notF rfl (by with_reducible rfl)) ?_; refine nNz ?_; refine cTz ?_; refine sRz ?_; refine vAz ?_; refine nNz ?_; refine CW.ret ?_; refine thenR (finR (.inl rfl) rfl rfl rfl (.cons (.tmp rfl) .nil) ?_); rw [hn (by omega)]; rfl; (iterate 3 refine gFaz ?_); refine pFaz ?_; refine vAz ?_; refine nSz ?_; refine vMz ?_; refine vMz ?_; (iterate 3 refine gFz ?_); refine pFz ?_; refine vMz ?_; (iterate 6 refine gFz ?_); refine pFz ?_; refine vMz ?_; (iterate 4 refine gFz ?_); (iterate 3 refine gUz ?_); refine gFz ?_; refine pFz ?_; refine vAz ?_; refine nNz ?_; refine CW.seq ?_; refine sRz ?_; refine vFz ?_; refine ldz rfl (.tail .head) cl_rd0 ?_; refine lvz (.eqF rfl rfl (by omega)) ?_; refine nNz ?_; refine cFz ?_; refine CW.region ?_; refine vMz ?_; refine vMz ?_; (iterate 4 refine gFz ?_); refine pFz ?_; refine vAz ?_; refine nNz ?_; refine CW.seq ?_; refine sRz ?_; refine vMz ?_; refine lvz (.notF rfl (by with_reducible rfl)) ?_; refine nNz ?_; refine cTz ?_; refine sRz ?_; refine vAz ?_; refine nNz ?_; refine CW.ret ?_; refine thenR (finR (.inl rfl) rfl rfl rfl (.cons (.tmp rfl) .nil) ?_); rw [hn (by omega)]; rfl; (iterate 3 refine gFaz ?_); refine pFaz ?_; refine vMz ?_; (iterate 4 refine gFz ?_); refine pFz ?_; refine vAz ?_; refine nSz ?_; refine vMz ?_; refine vMz ?_; (iterate 3 refine gFz ?_); refine pFz ?_; refine vMz ?_; (iterate 6 refine gFz ?_); refine pFz ?_; refine vMz ?_; (iterate 4 refine gFz ?_); (iterate 3 refine gUz ?_); refine gFz ?_; refine pFz ?_; refine vAz ?_; refine nNz ?_; refine CW.seq ?_; refine sRz ?_; refine vFz ?_; refine ldz rfl (.tail .head) cl_rd0 ?_; refine lvz (.eqF rfl rfl (by omega)) ?_; refine nNz ?_; refine cFz ?_; refine CW.region ?_; refine vMz ?_; refine vMz ?_; (iterate 4 refine gFz ?_); refine pFz ?_; refine vAz ?_; refine nNz ?_; refine CW.seq ?_; refine sRz ?_; refine vMz ?_; refine lvz (.notF rfl (by with_reducible rfl)) ?_; refine nNz ?_; refine cTz ?_; refine sRz ?_; refine vAz ?_; refine nNz ?_; refine CW.ret ?_; refine thenR (finR (.inl rfl) rfl rfl rfl (.cons (.tmp rfl) .nil) ?_); rw [hn (by omega)]; rfl)
    · rw [if_neg hc] at hCk0
      have hCk : ∀ w' {fs}, St w [] fs w' → Calls Tryz.prog 48 #[.slice p11 L.cl.length c11] w' (Ret w' (.int .i64 3)) := hCk0
      rw [hn (fun h => hc h.2.1.2.2)] at *
      clear hp hn
      by_cases h245 : op = 245
      · (refine sRz ?_; apply LW.boxA; rfl; rfl; intro _; refine vAz ?_; refine nSz ?_; refine vFz ?_; refine ldz rfl .head cl_rd0 ?_; apply LW.callE; rfl; rfl; infer_instance; exact .cons rfl .nil; intro w _; exact hSh w; refine vMz ?_; refine vEz ?_; refine vEz ?_; apply LW.allocA; rfl; intro _; refine LW.store rfl rfl .head (.whole rfl rfl rfl) ?_; refine vAz ?_; refine nSz ?_; refine vMz ?_; refine vMz ?_; refine gTz ?_; refine vFz ?_; refine gTz ?_; refine ldz rfl (.tail .head) cl_rd9 ?_; refine gTz ?_; refine lvz (.leq rfl rfl) ?_; refine pTz ?_; refine vMz ?_)
        (refine LW.guardDT rfl rfl rfl (fun hsq hsp => ?_) (fun hsq hsp => ?_))
        (refine vFz ?_; refine gTaz ?_; refine ldz rfl (.tail .head) cl_rd10 ?_; refine gTaz ?_; refine lvz (.lenR rfl inferInstance rfl) ?_; refine gTaz ?_; refine lvz (.leq rfl rfl) ?_; refine pTaz ?_; refine vMz ?_; refine LW.guardDT rfl rfl rfl (fun hsq hsp => ?_) (fun hsq hsp => ?_); refine vFz ?_; refine gTaz ?_; refine ldz rfl (.tail .head) cl_rd11 ?_; refine gTaz ?_; apply LW.callE; rfl; rfl; infer_instance; exact .cons rfl .nil; intro w _; exact hCk w (by assumption); refine gTaz ?_; refine lvz (.eqF rfl rfl (by omega)) ?_; refine pTaz ?_; refine vAz ?_; refine nSz ?_; refine vMz ?_; refine vMz ?_; (iterate 3 refine gFz ?_); refine pFz ?_; refine vMz ?_; (iterate 6 refine gFz ?_); refine pFz ?_; refine vMz ?_; (iterate 4 refine gFz ?_); (iterate 3 refine gUz ?_); refine gFz ?_; refine pFz ?_; refine vAz ?_; refine nNz ?_; refine CW.seq ?_; refine sRz ?_; refine vFz ?_; refine ldz rfl (.tail .head) cl_rd0 ?_; refine lvz (.eqT rfl rfl (by omega)) ?_; refine nNz ?_; refine cTz ?_; refine CW.region ?_; refine vMz ?_; refine vMz ?_; (iterate 4 refine gFz ?_); refine pFz ?_; refine vMz ?_; (iterate 3 refine gFz ?_); refine pFz ?_; refine vAz ?_; refine nNz ?_; refine CW.seq ?_; refine sRz ?_; refine vMz ?_; refine lvz (.notF rfl (by with_reducible rfl)) ?_; refine nNz ?_; refine cTz ?_; refine sRz ?_; refine vAz ?_; refine nNz ?_; refine CW.ret ?_; refine thenR (finR (.inl rfl) rfl rfl rfl (.cons (.tmp rfl) .nil) ?_); rfl; (iterate 3 refine gFaz ?_); refine pFaz ?_; refine vAz ?_; refine nSz ?_; refine vMz ?_; refine vMz ?_; (iterate 3 refine gFz ?_); refine pFz ?_; refine vMz ?_; (iterate 6 refine gFz ?_); refine pFz ?_; refine vMz ?_; (iterate 4 refine gFz ?_); (iterate 3 refine gUz ?_); refine gFz ?_; refine pFz ?_; refine vAz ?_; refine nNz ?_; refine CW.seq ?_; refine sRz ?_; refine vFz ?_; refine ldz rfl (.tail .head) cl_rd0 ?_; refine lvz (.eqT rfl rfl (by omega)) ?_; refine nNz ?_; refine cTz ?_; refine CW.region ?_; refine vMz ?_; refine vMz ?_; (iterate 4 refine gFz ?_); refine pFz ?_; refine vMz ?_; (iterate 3 refine gFz ?_); refine pFz ?_; refine vAz ?_; refine nNz ?_; refine CW.seq ?_; refine sRz ?_; refine vMz ?_; refine lvz (.notF rfl (by with_reducible rfl)) ?_; refine nNz ?_; refine cTz ?_; refine sRz ?_; refine vAz ?_; refine nNz ?_; refine CW.ret ?_; refine thenR (finR (.inl rfl) rfl rfl rfl (.cons (.tmp rfl) .nil) ?_); rfl; (iterate 3 refine gFaz ?_); refine pFaz ?_; refine vMz ?_; (iterate 4 refine gFz ?_); refine pFz ?_; refine vAz ?_; refine nSz ?_; refine vMz ?_; refine vMz ?_; (iterate 3 refine gFz ?_); refine pFz ?_; refine vMz ?_; (iterate 6 refine gFz ?_); refine pFz ?_; refine vMz ?_; (iterate 4 refine gFz ?_); (iterate 3 refine gUz ?_); refine gFz ?_; refine pFz ?_; refine vAz ?_; refine nNz ?_; refine CW.seq ?_; refine sRz ?_; refine vFz ?_; refine ldz rfl (.tail .head) cl_rd0 ?_; refine lvz (.eqT rfl rfl (by omega)) ?_; refine nNz ?_; refine cTz ?_; refine CW.region ?_; refine vMz ?_; refine vMz ?_; (iterate 4 refine gFz ?_); refine pFz ?_; refine vMz ?_; (iterate 3 refine gFz ?_); refine pFz ?_; refine vAz ?_; refine nNz ?_; refine CW.seq ?_; refine sRz ?_; refine vMz ?_; refine lvz (.notF rfl (by with_reducible rfl)) ?_; refine nNz ?_; refine cTz ?_; refine sRz ?_; refine vAz ?_; refine nNz ?_; refine CW.ret ?_; refine thenR (finR (.inl rfl) rfl rfl rfl (.cons (.tmp rfl) .nil) ?_); rfl)
      · (refine sRz ?_; apply LW.boxA; rfl; rfl; intro _; refine vAz ?_; refine nSz ?_; refine vFz ?_; refine ldz rfl .head cl_rd0 ?_; apply LW.callE; rfl; rfl; infer_instance; exact .cons rfl .nil; intro w _; exact hSh w; refine vMz ?_; refine vEz ?_; refine vEz ?_; apply LW.allocA; rfl; intro _; refine LW.store rfl rfl .head (.whole rfl rfl rfl) ?_; refine vAz ?_; refine nSz ?_; refine vMz ?_; refine vMz ?_; refine gTz ?_; refine vFz ?_; refine gTz ?_; refine ldz rfl (.tail .head) cl_rd9 ?_; refine gTz ?_; refine lvz (.leq rfl rfl) ?_; refine pTz ?_; refine vMz ?_)
        (refine LW.guardDT rfl rfl rfl (fun hsq hsp => ?_) (fun hsq hsp => ?_))
        (refine vFz ?_; refine gTaz ?_; refine ldz rfl (.tail .head) cl_rd10 ?_; refine gTaz ?_; refine lvz (.lenR rfl inferInstance rfl) ?_; refine gTaz ?_; refine lvz (.leq rfl rfl) ?_; refine pTaz ?_; refine vMz ?_; refine LW.guardDT rfl rfl rfl (fun hsq hsp => ?_) (fun hsq hsp => ?_); refine vFz ?_; refine gTaz ?_; refine ldz rfl (.tail .head) cl_rd11 ?_; refine gTaz ?_; apply LW.callE; rfl; rfl; infer_instance; exact .cons rfl .nil; intro w _; exact hCk w (by assumption); refine gTaz ?_; refine lvz (.eqF rfl rfl (by omega)) ?_; refine pTaz ?_; refine vAz ?_; refine nSz ?_; refine vMz ?_; refine vMz ?_; (iterate 3 refine gFz ?_); refine pFz ?_; refine vMz ?_; (iterate 6 refine gFz ?_); refine pFz ?_; refine vMz ?_; (iterate 4 refine gFz ?_); (iterate 3 refine gUz ?_); refine gFz ?_; refine pFz ?_; refine vAz ?_; refine nNz ?_; refine CW.seq ?_; refine sRz ?_; refine vFz ?_; refine ldz rfl (.tail .head) cl_rd0 ?_; refine lvz (.eqF rfl rfl (by omega)) ?_; refine nNz ?_; refine cFz ?_; refine CW.region ?_; refine vMz ?_; refine vMz ?_; (iterate 4 refine gFz ?_); refine pFz ?_; refine vAz ?_; refine nNz ?_; refine CW.seq ?_; refine sRz ?_; refine vMz ?_; refine lvz (.notF rfl (by with_reducible rfl)) ?_; refine nNz ?_; refine cTz ?_; refine sRz ?_; refine vAz ?_; refine nNz ?_; refine CW.ret ?_; refine thenR (finR (.inl rfl) rfl rfl rfl (.cons (.tmp rfl) .nil) ?_); rfl; (iterate 3 refine gFaz ?_); refine pFaz ?_; refine vAz ?_; refine nSz ?_; refine vMz ?_; refine vMz ?_; (iterate 3 refine gFz ?_); refine pFz ?_; refine vMz ?_; (iterate 6 refine gFz ?_); refine pFz ?_; refine vMz ?_; (iterate 4 refine gFz ?_); (iterate 3 refine gUz ?_); refine gFz ?_; refine pFz ?_; refine vAz ?_; refine nNz ?_; refine CW.seq ?_; refine sRz ?_; refine vFz ?_; refine ldz rfl (.tail .head) cl_rd0 ?_; refine lvz (.eqF rfl rfl (by omega)) ?_; refine nNz ?_; refine cFz ?_; refine CW.region ?_; refine vMz ?_; refine vMz ?_; (iterate 4 refine gFz ?_); refine pFz ?_; refine vAz ?_; refine nNz ?_; refine CW.seq ?_; refine sRz ?_; refine vMz ?_; refine lvz (.notF rfl (by with_reducible rfl)) ?_; refine nNz ?_; refine cTz ?_; refine sRz ?_; refine vAz ?_; refine nNz ?_; refine CW.ret ?_; refine thenR (finR (.inl rfl) rfl rfl rfl (.cons (.tmp rfl) .nil) ?_); rfl; (iterate 3 refine gFaz ?_); refine pFaz ?_; refine vMz ?_; (iterate 4 refine gFz ?_); refine pFz ?_; refine vAz ?_; refine nSz ?_; refine vMz ?_; refine vMz ?_; (iterate 3 refine gFz ?_); refine pFz ?_; refine vMz ?_; (iterate 6 refine gFz ?_); refine pFz ?_; refine vMz ?_; (iterate 4 refine gFz ?_); (iterate 3 refine gUz ?_); refine gFz ?_; refine pFz ?_; refine vAz ?_; refine nNz ?_; refine CW.seq ?_; refine sRz ?_; refine vFz ?_; refine ldz rfl (.tail .head) cl_rd0 ?_; refine lvz (.eqF rfl rfl (by omega)) ?_; refine nNz ?_; refine cFz ?_; refine CW.region ?_; refine vMz ?_; refine vMz ?_; (iterate 4 refine gFz ?_); refine pFz ?_; refine vAz ?_; refine nNz ?_; refine CW.seq ?_; refine sRz ?_; refine vMz ?_; refine lvz (.notF rfl (by with_reducible rfl)) ?_; refine nNz ?_; refine cTz ?_; refine sRz ?_; refine vAz ?_; refine nNz ?_; refine CW.ret ?_; refine thenR (finR (.inl rfl) rfl rfl rfl (.cons (.tmp rfl) .nil) ?_); rfl)
  · have hb : (shq op).2.2.2.2.2 = false := by unfold shq; rw [if_neg (by omega), if_neg (by omega), if_neg (by omega)]
    rw [hb] at hSh0
    have hSh : ∀ w, Calls Tryz.prog 47 #[.int .u8 (op : Int)] w (Ret w (.tuple #[.agg (shc op).toArray, .bool false])) := hSh0
    rw [hn (fun h => hop h.1)]
    clear hp hn
    have h245 : ¬ op = 245 := by omega
    (refine sRz ?_; apply LW.boxA; rfl; rfl; intro _; refine vAz ?_; refine nSz ?_; refine vFz ?_; refine ldz rfl .head cl_rd0 ?_; apply LW.callE; rfl; rfl; infer_instance; exact .cons rfl .nil; intro w _; exact hSh w; refine vMz ?_; refine vEz ?_; refine vEz ?_; apply LW.allocA; rfl; intro _; refine LW.store rfl rfl .head (.whole rfl rfl rfl) ?_; refine vAz ?_; refine nSz ?_; refine vMz ?_; refine vMz ?_; (iterate 3 refine gFz ?_); refine pFz ?_; refine vMz ?_; (iterate 4 refine gFz ?_); refine pFz ?_; refine vMz ?_; (iterate 4 refine gFz ?_); refine pFz ?_; refine vAz ?_; refine nSz ?_; refine vMz ?_; refine vMz ?_; (iterate 3 refine gFz ?_); refine pFz ?_; refine vMz ?_; (iterate 6 refine gFz ?_); refine pFz ?_; refine vMz ?_; (iterate 4 refine gFz ?_); (iterate 3 refine gUz ?_); refine gFz ?_; refine pFz ?_; refine vAz ?_; refine nNz ?_; refine CW.seq ?_; refine sRz ?_; refine vFz ?_; refine ldz rfl (.tail .head) cl_rd0 ?_; refine lvz (.eqF rfl rfl (by omega)) ?_; refine nNz ?_; refine cFz ?_; refine CW.region ?_; refine vMz ?_; refine vMz ?_; (iterate 4 refine gFz ?_); refine pFz ?_; refine vAz ?_; refine nNz ?_; refine CW.seq ?_; refine sRz ?_; refine vMz ?_; refine lvz (.notF rfl (by with_reducible rfl)) ?_; refine nNz ?_; refine cTz ?_; refine sRz ?_; refine vAz ?_; refine nNz ?_; refine CW.ret ?_; refine thenR ?_)
    (apply finR; exact .inl rfl; rfl; rfl; rfl; apply ResL.cons; exact Res.tmp rfl; exact ResL.nil)
    rfl
end Go.Proofs.YtpgdnfgjbhdbpaaGreatDoor

/-
  The same bytes, the same words.
  Conditions: none.
-/
namespace Go.Proofs.YtpgdnfgjbhdbpaaGreatDoor
open Go Go.RowKit SL
set_option maxRecDepth 8000
set_option maxHeartbeats 4000000
set_option linter.unusedSimpArgs false
set_option linter.unusedVariables false
attribute [local irreducible] SL.CW SL.LW SL.DW Calls SL.Ret SL.RetG SL.beginQ SL.roundQ SL.rangeQ SL.inQ SL.RW SL.AnyW SL.thenQ SL.thenC SL.thenW SL.blkQ SL.finQ SL.ValP SL.NewP SL.SetP SL.CallP SL.Rd SL.Wr SL.Known
theorem sEqB_calls (a b : List UInt8) (va vb : Value) (w : World) (ha : RowAt w 1 va a.length (ucs a)) (hb : RowAt w 1 vb b.length (ucs b)) : Calls Tryz.prog 18 #[va, vb] w (Ret w (.bool (decide (a = b)))) := by
  obtain ⟨p0, c0, rfl, hc0, hm0⟩ := ha.form
  obtain ⟨p1, c1, rfl, hc1, hm1⟩ := hb.form
  simp only [maxLen] at hm0 hm1
  refine enter (args := [_, _]) _ [] [] Tryz.func18 rfl Tryz.ntmps18 rfl (by simp) .nil ?_
  by_cases hl : a.length = b.length
  · (refine sRz ?_; refine vAz ?_; refine nNz ?_; refine CW.seq ?_; refine sRz ?_; refine vMz ?_; refine lvz (.lenR rfl inferInstance rfl) ?_; refine vMz ?_; refine lvz (.lenR rfl inferInstance rfl) ?_; refine lvz (.neF rfl rfl (by omega)) ?_; refine nNz ?_; refine cFz ?_; refine CW.skip ?_; refine thenN ?_; refine CW.seq ?_; refine sRz ?_; refine vMz ?_; refine lvz (.lenR rfl inferInstance rfl) ?_; refine vMz ?_; refine nNz ?_; refine CW.block ?_)
    refine CW.loop (fun k : Nat => ([(0, .slice p0 a.length c0), (1, .slice p1 b.length c1), (12, .int .i64 (a.length : Int)), (13, .int .i64 (k : Int))], []))
      (fun k => k ≤ a.length ∧ ∀ j, j < k → a[j]? = b[j]?) (fun k => a.length - k) 0 ⟨Nat.zero_le _, fun j h => absurd h (Nat.not_lt_zero _)⟩ ⟨rfl, rfl, rfl, rfl, trivial⟩ (List.Sublist.refl _) ?_
    rintro k ⟨hk, hall⟩
    dsimp only
    rcases Nat.lt_or_ge k a.length with hlt | hge
    · obtain ⟨b1, off1, c', cs1, E1, fr1, heq, hbk1, hx1⟩ := ha.pos (by omega)
      cases heq
      obtain ⟨b2, off2, c', cs2, E2, fr2, heq, hbk2, hx2⟩ := hb.pos (by omega)
      cases heq
      have hlt2 : k < b.length := by omega
      obtain ⟨x, hx⟩ : ∃ x, a[k] = x := ⟨_, rfl⟩
      obtain ⟨y, hy⟩ : ∃ y, b[k] = y := ⟨_, rfl⟩
      have hrd1 : Rd Tryz.prog 5 (.cells cs1 E1 fr1) (off1 + k * 1) (.int .u8 (x.toNat : Int)) := Rd.elem1 hx1 (ucs_one a) (List.getElem?_eq_getElem hlt) (by rw [hx])
      have hrd2 : Rd Tryz.prog 5 (.cells cs2 E2 fr2) (off2 + k * 1) (.int .u8 (y.toNat : Int)) := Rd.elem1 hx2 (ucs_one b) (List.getElem?_eq_getElem hlt2) (by rw [hy])
      by_cases he : x = y
      · subst he
        (refine sRz ?_; refine lvz (.lssT rfl rfl (by omega)) ?_; refine nNz ?_; refine CW.seq ?_; refine cTz ?_; refine CW.skip ?_; refine thenN ?_; refine CW.seq ?_; refine CW.block ?_; refine sRz ?_; refine vMz ?_; refine vAz ?_; refine nNz ?_; refine CW.seq ?_; refine CW.quiet rfl mixed (by decide +kernel) ?_; apply QW.v0; rfl; exact WantT.none; apply ValP.move; rfl; apply QW.v0; rfl; exact WantT.none; apply ValP.move; rfl; apply QW.v0; rfl; exact WantT.none; apply ValP.indexAddrS; rfl; rfl; rfl; omega; apply QW.load; rfl; exact WantT.none; rfl; exact Known.ext (by assumption) (by simp); assumption; apply QW.v0; rfl; exact WantT.none; apply ValP.move; rfl; apply QW.v0; rfl; exact WantT.none; apply ValP.move; rfl; apply QW.v0; rfl; exact WantT.none; apply ValP.indexAddrS; rfl; rfl; rfl; omega; apply QW.load; rfl; exact WantT.none; rfl; exact Known.ext (by assumption) (by simp); assumption; apply QW.v0; rfl; exact WantT.none; apply ValP.neF; rfl; rfl; omega; refine QW.nil ?_; refine thenN ?_; refine cFz ?_; refine CW.skip ?_; refine blkN ?_; refine thenN ?_; refine CW.region ?_; refine lvz (.addZL rfl rfl (by decide) (by omega)) ?_; refine vMz ?_; apply LW.nil)
        apply thenX
        refine ⟨rfl, k + 1, ⟨hlt, fun j hj => ?_⟩, by omega, ⟨rfl, rfl, rfl, rfl, trivial⟩, List.Sublist.refl _⟩
        rcases Nat.lt_or_ge j k with h | h
        · exact hall j h
        · obtain rfl : j = k := by omega
          rw [List.getElem?_eq_getElem hlt, List.getElem?_eq_getElem hlt2, hx, hy]
      · have hne : ¬ (x.toNat : Int) = (y.toNat : Int) := fun h => he (UInt8.toNat_inj.1 (by omega))
        rw [decide_eq_false (fun h : a = b => he (by rw [← hx, ← hy]; subst h; rfl))]
        (refine sRz ?_; refine lvz (.lssT rfl rfl (by omega)) ?_; refine nNz ?_; refine CW.seq ?_; refine cTz ?_; refine CW.skip ?_; refine thenN ?_; refine CW.seq ?_; refine CW.block ?_; refine sRz ?_; refine vMz ?_; refine vAz ?_; refine nNz ?_; refine CW.seq ?_; refine CW.quiet rfl mixed (by decide +kernel) ?_; apply QW.v0; rfl; exact WantT.none; apply ValP.move; rfl; apply QW.v0; rfl; exact WantT.none; apply ValP.move; rfl; apply QW.v0; rfl; exact WantT.none; apply ValP.indexAddrS; rfl; rfl; rfl; omega; apply QW.load; rfl; exact WantT.none; rfl; exact Known.ext (by assumption) (by simp); assumption; apply QW.v0; rfl; exact WantT.none; apply ValP.move; rfl; apply QW.v0; rfl; exact WantT.none; apply ValP.move; rfl; apply QW.v0; rfl; exact WantT.none; apply ValP.indexAddrS; rfl; rfl; rfl; omega; apply QW.load; rfl; exact WantT.none; rfl; exact Known.ext (by assumption) (by simp); assumption; apply QW.v0; rfl; exact WantT.none; apply ValP.neT; rfl; rfl; omega; refine QW.nil ?_; refine thenN ?_; refine cTz ?_; refine sRz ?_; refine vAz ?_; refine nNz ?_; refine CW.ret ?_; refine blkR ?_; refine thenR ?_; refine thenR ?_; refine blkR ?_; refine thenR ?_)
        (apply finR; exact .inl rfl; rfl; rfl; rfl; apply ResL.cons; exact Res.tmp rfl; exact ResL.nil)
        rfl
    · rw [decide_eq_true (List.ext_getElem? fun j => by
        rcases Nat.lt_or_ge j k with h | h
        · exact hall j h
        · rw [List.getElem?_eq_none (by omega), List.getElem?_eq_none (by omega)])]
      (refine sRz ?_; refine lvz (.lssF rfl rfl (by omega)) ?_; refine nNz ?_; refine CW.seq ?_; refine cFz ?_; refine CW.exit ?_; refine thenE ?_; refine thenE ?_; refine blkE rfl ?_; refine thenN ?_; refine sRz ?_; refine vAz ?_; refine nNz ?_; refine CW.ret ?_)
      (apply finR; exact .inl rfl; rfl; rfl; rfl; apply ResL.cons; exact Res.tmp rfl; exact ResL.nil)
      rfl
  · rw [decide_eq_false (fun h : a = b => hl (by rw [h]))]
    (refine sRz ?_; refine vAz ?_; refine nNz ?_; refine CW.seq ?_; refine sRz ?_; refine vMz ?_; refine lvz (.lenR rfl inferInstance rfl) ?_; refine vMz ?_; refine lvz (.lenR rfl inferInstance rfl) ?_; refine lvz (.neT rfl rfl (by omega)) ?_; refine nNz ?_; refine cTz ?_; refine sRz ?_; refine vAz ?_; refine nNz ?_; refine CW.ret ?_; refine thenR ?_)
    (apply finR; exact .inl rfl; rfl; rfl; rfl; apply ResL.cons; exact Res.tmp rfl; exact ResL.nil)
    rfl
theorem sEqW_calls (a b : List Nat) (hwa : ∀ x ∈ a, x < M256) (hwb : ∀ x ∈ b, x < M256) (va vb : Value) (w : World) (ha : RowAt w 4 va a.length (wcs a)) (hb : RowAt w 4 vb b.length (wcs b)) : Calls Tryz.prog 30 #[va, vb] w (Ret w (.bool (decide (a = b)))) := by
  obtain ⟨p0, c0, rfl, hc0, hm0⟩ := ha.form
  obtain ⟨p1, c1, rfl, hc1, hm1⟩ := hb.form
  simp only [maxLen] at hm0 hm1
  refine enter (args := [_, _]) _ [] [] Tryz.func30 rfl Tryz.ntmps30 rfl (by simp) .nil ?_
  by_cases hl : a.length = b.length
  · (refine sRz ?_; refine vAz ?_; refine nNz ?_; refine CW.seq ?_; refine sRz ?_; refine vMz ?_; refine lvz (.lenR rfl inferInstance rfl) ?_; refine vMz ?_; refine lvz (.lenR rfl inferInstance rfl) ?_; refine lvz (.neF rfl rfl (by omega)) ?_; refine nNz ?_; refine cFz ?_; refine CW.skip ?_; refine thenN ?_; refine CW.seq ?_; refine sRz ?_; refine vMz ?_; refine lvz (.lenR rfl inferInstance rfl) ?_; refine vMz ?_; refine nNz ?_; refine CW.block ?_)
    refine CW.loop (fun k : Nat => ([(0, .slice p0 a.length c0), (1, .slice p1 b.length c1), (12, .int .i64 (a.length : Int)), (13, .int .i64 (k : Int))], []))
      (fun k => k ≤ a.length ∧ ∀ j, j < k → a[j]? = b[j]?) (fun k => a.length - k) 0 ⟨Nat.zero_le _, fun j h => absurd h (Nat.not_lt_zero _)⟩ ⟨rfl, rfl, rfl, rfl, trivial⟩ (List.Sublist.refl _) ?_
    rintro k ⟨hk, hall⟩
    dsimp only
    rcases Nat.lt_or_ge k a.length with hlt | hge
    · obtain ⟨b1, off1, c', cs1, E1, fr1, heq, hbk1, hx1⟩ := ha.pos (by omega)
      cases heq
      obtain ⟨b2, off2, c', cs2, E2, fr2, heq, hbk2, hx2⟩ := hb.pos (by omega)
      cases heq
      have hlt2 : k < b.length := by omega
      obtain ⟨x, hx⟩ : ∃ x, a[k] = x := ⟨_, rfl⟩
      obtain ⟨y, hy⟩ : ∃ y, b[k] = y := ⟨_, rfl⟩
      have hxl : x < M256 := by rw [← hx]; exact hwa _ (List.getElem_mem hlt)
      have hyl : y < M256 := by rw [← hy]; exact hwb _ (List.getElem_mem hlt2)
      have hrd1 : Rd Tryz.prog 29 (.cells cs1 E1 fr1) (off1 + k * 4) (wv x) := by have h := word_rd (P := Tryz.prog) (T := 29) (E := E1) (fr := fr1) hx1 k hlt; rwa [List.getD_eq_getElem?_getD, List.getElem?_eq_getElem hlt, Option.getD_some, hx] at h
      have hrd2 : Rd Tryz.prog 29 (.cells cs2 E2 fr2) (off2 + k * 4) (wv y) := by have h := word_rd (P := Tryz.prog) (T := 29) (E := E2) (fr := fr2) hx2 k hlt2; rwa [List.getD_eq_getElem?_getD, List.getElem?_eq_getElem hlt2, Option.getD_some, hy] at h
      by_cases he : x = y
      · subst he
        (refine sRz ?_; refine lvz (.lssT rfl rfl (by omega)) ?_; refine nNz ?_; refine CW.seq ?_; refine cTz ?_; refine CW.skip ?_; refine thenN ?_; refine CW.seq ?_; refine CW.block ?_; refine sRz ?_; refine vMz ?_; refine vAz ?_; refine nNz ?_; refine CW.seq ?_; refine CW.quiet rfl mixed (by decide +kernel) ?_; apply QW.v0; rfl; exact WantT.none; apply ValP.move; rfl; apply QW.v0; rfl; exact WantT.none; apply ValP.move; rfl; apply QW.v0; rfl; exact WantT.none; apply ValP.indexAddrS; rfl; rfl; rfl; omega; apply QW.load; rfl; exact WantT.none; rfl; exact Known.ext (by assumption) (by simp); assumption; apply QW.v0; rfl; exact WantT.none; apply ValP.move; rfl; apply QW.v0; rfl; exact WantT.none; apply ValP.move; rfl; apply QW.v0; rfl; exact WantT.none; apply ValP.indexAddrS; rfl; rfl; rfl; omega; apply QW.load; rfl; exact WantT.none; rfl; exact Known.ext (by assumption) (by simp); assumption; apply QW.v0; rfl; exact WantT.none; apply ValP.neWF; rfl; rfl; (with_reducible rfl); refine QW.nil ?_; refine thenN ?_; refine cFz ?_; refine CW.skip ?_; refine blkN ?_; refine thenN ?_; refine CW.region ?_; refine lvz (.addZL rfl rfl (by decide) (by omega)) ?_; refine vMz ?_; apply LW.nil)
        apply thenX
        refine ⟨rfl, k + 1, ⟨hlt, fun j hj => ?_⟩, by omega, ⟨rfl, rfl, rfl, rfl, trivial⟩, List.Sublist.refl _⟩
        rcases Nat.lt_or_ge j k with h | h
        · exact hall j h
        · obtain rfl : j = k := by omega
          rw [List.getElem?_eq_getElem hlt, List.getElem?_eq_getElem hlt2, hx, hy]
      · have hne := he
        rw [decide_eq_false (fun h : a = b => he (by rw [← hx, ← hy]; subst h; rfl))]
        (refine sRz ?_; refine lvz (.lssT rfl rfl (by omega)) ?_; refine nNz ?_; refine CW.seq ?_; refine cTz ?_; refine CW.skip ?_; refine thenN ?_; refine CW.seq ?_; refine CW.block ?_; refine sRz ?_; refine vMz ?_; refine vAz ?_; refine nNz ?_; refine CW.seq ?_; refine CW.quiet rfl mixed (by decide +kernel) ?_; apply QW.v0; rfl; exact WantT.none; apply ValP.move; rfl; apply QW.v0; rfl; exact WantT.none; apply ValP.move; rfl; apply QW.v0; rfl; exact WantT.none; apply ValP.indexAddrS; rfl; rfl; rfl; omega; apply QW.load; rfl; exact WantT.none; rfl; exact Known.ext (by assumption) (by simp); assumption; apply QW.v0; rfl; exact WantT.none; apply ValP.move; rfl; apply QW.v0; rfl; exact WantT.none; apply ValP.move; rfl; apply QW.v0; rfl; exact WantT.none; apply ValP.indexAddrS; rfl; rfl; rfl; omega; apply QW.load; rfl; exact WantT.none; rfl; exact Known.ext (by assumption) (by simp); assumption; apply QW.v0; rfl; exact WantT.none; apply ValP.neWT; rfl; rfl; assumption; assumption; assumption; refine QW.nil ?_; refine thenN ?_; refine cTz ?_; refine sRz ?_; refine vAz ?_; refine nNz ?_; refine CW.ret ?_; refine blkR ?_; refine thenR ?_; refine thenR ?_; refine blkR ?_; refine thenR ?_)
        (apply finR; exact .inl rfl; rfl; rfl; rfl; apply ResL.cons; exact Res.tmp rfl; exact ResL.nil)
        rfl
    · rw [decide_eq_true (List.ext_getElem? fun j => by
        rcases Nat.lt_or_ge j k with h | h
        · exact hall j h
        · rw [List.getElem?_eq_none (by omega), List.getElem?_eq_none (by omega)])]
      (refine sRz ?_; refine lvz (.lssF rfl rfl (by omega)) ?_; refine nNz ?_; refine CW.seq ?_; refine cFz ?_; refine CW.exit ?_; refine thenE ?_; refine thenE ?_; refine blkE rfl ?_; refine thenN ?_; refine sRz ?_; refine vAz ?_; refine nNz ?_; refine CW.ret ?_)
      (apply finR; exact .inl rfl; rfl; rfl; rfl; apply ResL.cons; exact Res.tmp rfl; exact ResL.nil)
      rfl
  · rw [decide_eq_false (fun h : a = b => hl (by rw [h]))]
    (refine sRz ?_; refine vAz ?_; refine nNz ?_; refine CW.seq ?_; refine sRz ?_; refine vMz ?_; refine lvz (.lenR rfl inferInstance rfl) ?_; refine vMz ?_; refine lvz (.lenR rfl inferInstance rfl) ?_; refine lvz (.neT rfl rfl (by omega)) ?_; refine nNz ?_; refine cTz ?_; refine sRz ?_; refine vAz ?_; refine nNz ?_; refine CW.ret ?_; refine thenR ?_)
    (apply finR; exact .inl rfl; rfl; rfl; rfl; apply ResL.cons; exact Res.tmp rfl; exact ResL.nil)
    rfl
end Go.Proofs.YtpgdnfgjbhdbpaaGreatDoor

/-
  The same frames, the same calls, in the code's and the document's words.
  Conditions: none.
-/
namespace Go.Proofs.YtpgdnfgjbhdbpaaGreatDoor
open Go Go.RowKit SL
set_option maxRecDepth 8000
set_option maxHeartbeats 4000000
set_option linter.unusedSimpArgs false
set_option linter.unusedVariables false
attribute [local irreducible] SL.CW SL.LW SL.DW Calls SL.Ret SL.RetG SL.beginQ SL.roundQ SL.rangeQ SL.inQ SL.RW SL.AnyW SL.thenQ SL.thenC SL.thenW SL.blkQ SL.finQ SL.ValP SL.NewP SL.SetP SL.CallP SL.Rd SL.Wr SL.Known
/-- What a frame's numbers are below. -/
structure FrNum (f : FrV) (L : FrL) : Prop where
  gas : f.gas < 18446744073709551616
  self : f.self < 18446744073709551616
  frm : f.frm < 18446744073709551616
  val : f.val < M256
  ws : ∀ x ∈ L.ws, x < M256
def sameF (f : FrV) (L : FrL) (g : FrV) (M : FrL) : Prop := f.pc = g.pc ∧ f.gas = g.gas ∧ f.self = g.self ∧ f.frm = g.frm ∧ f.val = g.val ∧ f.stat = g.stat ∧ L.cl = M.cl ∧ L.il = M.il ∧ L.bl = M.bl ∧ (L.ws = M.ws ∧ L.ms = M.ms)
instance (f : FrV) (L : FrL) (g : FrV) (M : FrL) : Decidable (sameF f L g M) := by unfold sameF; infer_instance
def sameC (f : ClV) (L : ClL) (g : ClV) (M : ClL) : Prop := f.op = g.op ∧ f.dst = g.dst ∧ f.self = g.self ∧ f.frm = g.frm ∧ f.val = g.val ∧ f.mv = g.mv ∧ f.gas = g.gas ∧ f.pl = g.pl ∧ f.n = g.n ∧ f.stat = g.stat ∧ L.il = M.il ∧ L.cl = M.cl
instance (f : ClV) (L : ClL) (g : ClV) (M : ClL) : Decidable (sameC f L g M) := by unfold sameC; infer_instance
theorem SL.LW.joinF {C : Cu} {ops : Array Oper} {Q : Post} {l : List Oper} {e : Env} {fs : Fs} (k : Nat) (e1 : Env) (h2 : LW C ops Q (l.drop k) e1 fs) (h1 : LW C ops (joinQ C e1 fs Q) (l.take k) e fs) : LW C ops Q l e fs := LW.join k e1 fs h2 h1
theorem scSame1_calls (x y : List UInt8) (vx vy : Value) (w : World) (hx : RowAt w 1 vx x.length (ucs x)) (hy : RowAt w 1 vy y.length (ucs y)) : Calls Tryz.prog 103 #[vx, vy] w (Ret w (.bool (decide (x = y)))) := by
  obtain ⟨p2, c2, rfl, _, _⟩ := id hx.form
  obtain ⟨p3, c3, rfl, _, _⟩ := id hy.form
  have hB := fun w' {fs : Fs} (hst : St w [] fs w') => sEqB_calls x y _ _ w' (hx.st hst) (hy.st hst)
  refine enter (args := [_, _]) _ [] [] Tryz.func103 rfl Tryz.ntmps103 rfl (by simp) .nil ?_
  (refine sRz ?_; refine vAz ?_; refine nSz ?_; refine vMz ?_; refine vMz ?_; apply LW.callE; rfl; rfl; infer_instance; exact .cons rfl (.cons rfl .nil); intro w _; exact hB w (by assumption); refine vAz ?_; refine nNz ?_; refine CW.ret ?_)
  (apply finR; exact .inl rfl; rfl; rfl; rfl; apply ResL.cons; exact Res.tmp rfl; exact ResL.nil)
  rfl
theorem scSame_calls (a b : List Nat) (x y : List UInt8) (hwa : ∀ x ∈ a, x < M256) (hwb : ∀ x ∈ b, x < M256) (va vb vx vy : Value) (w : World) (ha : RowAt w 4 va a.length (wcs a)) (hb : RowAt w 4 vb b.length (wcs b)) (hx : RowAt w 1 vx x.length (ucs x)) (hy : RowAt w 1 vy y.length (ucs y)) :
    Calls Tryz.prog 68 #[.agg #[va, vx], .agg #[vb, vy]] w (Ret w (.bool (decide (a = b ∧ x = y)))) := by
  obtain ⟨p0, c0, rfl, _, _⟩ := id ha.form
  obtain ⟨p1, c1, rfl, _, _⟩ := id hb.form
  obtain ⟨p2, c2, rfl, _, _⟩ := id hx.form
  obtain ⟨p3, c3, rfl, _, _⟩ := id hy.form
  have hW0 := fun w' {fs : Fs} (hst : St w [] fs w') => sEqW_calls a b hwa hwb _ _ w' (ha.st hst) (hb.st hst)
  have hB0 := fun w' {fs : Fs} (hst : St w [] fs w') => scSame1_calls x y _ _ w' (hx.st hst) (hy.st hst)
  refine enter (args := [_, _]) _ [] [] Tryz.func68 rfl Tryz.ntmps68 rfl (by simp) .nil ?_
  by_cases e : a = b
  · have hW : ∀ w' {fs : Fs}, St w [] fs w' → Calls Tryz.prog 30 #[.slice p0 a.length c0, .slice p1 b.length c1] w' (Ret w' (.bool true)) := fun w' fs hst => by have h := hW0 w' hst; rwa [decide_eq_true e] at h
    by_cases e2 : x = y
    · have hB : ∀ w' {fs : Fs}, St w [] fs w' → Calls Tryz.prog 103 #[.slice p2 x.length c2, .slice p3 y.length c3] w' (Ret w' (.bool true)) := fun w' fs hst => by have h := hB0 w' hst; rwa [decide_eq_true e2] at h
      rw [decide_eq_true ⟨e, e2⟩]
      (refine sRz ?_; apply LW.boxA; rfl; rfl; intro _; apply LW.boxA; rfl; rfl; intro _; refine vAz ?_; refine nSz ?_; refine vAz ?_; refine nSz ?_; refine vFz ?_; refine ldz rfl (.tail .head) sc_rd0 ?_; refine vFz ?_; refine ldz rfl .head sc_rd0 ?_; apply LW.callE; rfl; rfl; infer_instance; exact .cons rfl (.cons rfl .nil); intro w _; exact hW w (by assumption); refine vMz ?_; refine gTz ?_; refine vMz ?_; refine gTz ?_; refine vFz ?_; refine gTz ?_; refine ldz rfl (.tail .head) sc_rd1 ?_; refine gTz ?_; refine vFz ?_; refine gTz ?_; refine ldz rfl .head sc_rd1 ?_; refine gTz ?_; apply LW.callE; rfl; rfl; infer_instance; exact .cons rfl (.cons rfl .nil); intro w _; exact hB w (by assumption); refine pTz ?_; refine vAz ?_; refine nNz ?_; refine CW.ret ?_)
      (apply finR; exact .inl rfl; rfl; rfl; rfl; apply ResL.cons; exact Res.tmp rfl; exact ResL.nil)
      rfl
    · have hB : ∀ w' {fs : Fs}, St w [] fs w' → Calls Tryz.prog 103 #[.slice p2 x.length c2, .slice p3 y.length c3] w' (Ret w' (.bool false)) := fun w' fs hst => by have h := hB0 w' hst; rwa [decide_eq_false e2] at h
      rw [decide_eq_false (fun h => e2 h.2)]
      (refine sRz ?_; apply LW.boxA; rfl; rfl; intro _; apply LW.boxA; rfl; rfl; intro _; refine vAz ?_; refine nSz ?_; refine vAz ?_; refine nSz ?_; refine vFz ?_; refine ldz rfl (.tail .head) sc_rd0 ?_; refine vFz ?_; refine ldz rfl .head sc_rd0 ?_; apply LW.callE; rfl; rfl; infer_instance; exact .cons rfl (.cons rfl .nil); intro w _; exact hW w (by assumption); refine vMz ?_; refine gTz ?_; refine vMz ?_; refine gTz ?_; refine vFz ?_; refine gTz ?_; refine ldz rfl (.tail .head) sc_rd1 ?_; refine gTz ?_; refine vFz ?_; refine gTz ?_; refine ldz rfl .head sc_rd1 ?_; refine gTz ?_; apply LW.callE; rfl; rfl; infer_instance; exact .cons rfl (.cons rfl .nil); intro w _; exact hB w (by assumption); refine pTz ?_; refine vAz ?_; refine nNz ?_; refine CW.ret ?_)
      (apply finR; exact .inl rfl; rfl; rfl; rfl; apply ResL.cons; exact Res.tmp rfl; exact ResL.nil)
      rfl
  · have hW : ∀ w' {fs : Fs}, St w [] fs w' → Calls Tryz.prog 30 #[.slice p0 a.length c0, .slice p1 b.length c1] w' (Ret w' (.bool false)) := fun w' fs hst => by have h := hW0 w' hst; rwa [decide_eq_false e] at h
    rw [decide_eq_false (fun h => e h.1)]
    (refine sRz ?_; apply LW.boxA; rfl; rfl; intro _; apply LW.boxA; rfl; rfl; intro _; refine vAz ?_; refine nSz ?_; refine vAz ?_; refine nSz ?_; refine vFz ?_; refine ldz rfl (.tail .head) sc_rd0 ?_; refine vFz ?_; refine ldz rfl .head sc_rd0 ?_; apply LW.callE; rfl; rfl; infer_instance; exact .cons rfl (.cons rfl .nil); intro w _; exact hW w (by assumption); refine vMz ?_; (iterate 6 refine gFz ?_); refine pFz ?_; refine vAz ?_; refine nNz ?_; refine CW.ret ?_)
    (apply finR; exact .inl rfl; rfl; rfl; rfl; apply ResL.cons; exact Res.tmp rfl; exact ResL.nil)
    rfl
theorem fSame_calls (f g : FrV) (L M : FrL) (hf : FrNum f L) (hg : FrNum g M) (w : World) (h : FrRows w f L) (h' : FrRows w g M) : Calls Tryz.prog 32 #[frv f, frv g] w (Ret w (.bool (decide (sameF f L g M)))) := by
  have hww := hf.ws
  have hwm := hg.ws
  have hv1 := hf.val
  have hv2 := hg.val
  obtain ⟨code, pc, stk, mem, gas, self, frm, val, inp, back, stat⟩ := f
  obtain ⟨code', pc', stk', mem', gas', self', frm', val', inp', back', stat'⟩ := g
  obtain ⟨h0, h2, h3, h11, h12⟩ := h
  obtain ⟨k0, k2, k3, k11, k12⟩ := h'
  dsimp only at h0 h2 h3 h11 h12 k0 k2 k3 k11 k12 hv1 hv2
  obtain ⟨p0, c0, rfl, _, _⟩ := id h0.form
  obtain ⟨p2, c2, rfl, _, _⟩ := id h2.form
  obtain ⟨p3, c3, rfl, _, _⟩ := id h3.form
  obtain ⟨p11, c11, rfl, _, _⟩ := id h11.form
  obtain ⟨p12, c12, rfl, _, _⟩ := id h12.form
  obtain ⟨r0, d0, rfl, _, _⟩ := id k0.form
  obtain ⟨r2, d2, rfl, _, _⟩ := id k2.form
  obtain ⟨r3, d3, rfl, _, _⟩ := id k3.form
  obtain ⟨r11, d11, rfl, _, _⟩ := id k11.form
  obtain ⟨r12, d12, rfl, _, _⟩ := id k12.form
  have hq6 := fun w' {fs : Fs} (hst : St w [] fs w') => sEqB_calls L.cl M.cl _ _ w' (h0.st hst) (k0.st hst)
  have hq7 := fun w' {fs : Fs} (hst : St w [] fs w') => sEqB_calls L.il M.il _ _ w' (h11.st hst) (k11.st hst)
  have hq8 := fun w' {fs : Fs} (hst : St w [] fs w') => sEqB_calls L.bl M.bl _ _ w' (h12.st hst) (k12.st hst)
  have hq9 := fun w' {fs : Fs} (hst : St w [] fs w') => scSame_calls L.ws M.ws L.ms M.ms hww hwm _ _ _ _ w' (h2.st hst) (k2.st hst) (h3.st hst) (k3.st hst)
  refine enter (args := [_, _]) _ [] [] Tryz.func32 rfl Tryz.ntmps32 rfl (by simp) .nil ?_
  (refine sRz ?_; apply LW.boxA; rfl; rfl; intro _; apply LW.boxA; rfl; rfl; intro _; refine vAz ?_; refine nSz ?_; refine vFz ?_; refine ldz rfl (.tail .head) fr_rd1 ?_; refine vFz ?_; refine ldz rfl .head fr_rd1 ?_; refine lvz (.eq rfl rfl) ?_; refine vMz ?_)
  rename_i b2 b3
  obtain ⟨y0, hy0⟩ : ∃ c : Bool, c = decide (pc = pc') := ⟨_, rfl⟩
  refine LW.joinF 0 ((11, .bool (y0)) :: [(2, .pointer (some ⟨b2, 0, none⟩)), (3, .pointer (some ⟨b3, 0, none⟩))]) ?_ ?_
  rotate_left
  · rw [hy0]
    (apply LW.nil)
    exact joinI ⟨getB rfl (by (rfl)), rfl, rfl, trivial⟩ (List.Sublist.refl _)
  obtain ⟨y1, hy1⟩ : ∃ c : Bool, c = (y0 && decide (gas = gas')) := ⟨_, rfl⟩
  refine LW.joinF 7 ((18, .bool (y1)) :: [(2, .pointer (some ⟨b2, 0, none⟩)), (3, .pointer (some ⟨b3, 0, none⟩))]) ?_ ?_
  rotate_left
  · rw [hy1]
    clear hy1 hy0
    cases y0
    · ((iterate 5 refine gFz ?_); refine pFz ?_; refine vMz ?_; apply LW.nil)
      exact joinI ⟨getB rfl (by (rfl)), rfl, rfl, trivial⟩ (List.Sublist.refl _)
    · (refine gTz ?_; refine vFz ?_; refine gTz ?_; refine ldz rfl (.tail .head) fr_rd4 ?_; refine gTz ?_; refine vFz ?_; refine gTz ?_; refine ldz rfl .head fr_rd4 ?_; refine gTz ?_; refine lvz (.eq rfl rfl) ?_; refine pTz ?_; refine vMz ?_; apply LW.nil)
      exact joinI ⟨getB rfl (by (exact decide_eq_decide.2 Int.ofNat_inj)), rfl, rfl, trivial⟩ (List.Sublist.refl _)
  obtain ⟨y2, hy2⟩ : ∃ c : Bool, c = (y1 && decide (self = self')) := ⟨_, rfl⟩
  refine LW.joinF 7 ((25, .bool (y2)) :: [(2, .pointer (some ⟨b2, 0, none⟩)), (3, .pointer (some ⟨b3, 0, none⟩))]) ?_ ?_
  rotate_left
  · rw [hy2]
    clear hy2 hy1 hy0
    cases y1
    · ((iterate 5 refine gFz ?_); refine pFz ?_; refine vMz ?_; apply LW.nil)
      exact joinI ⟨getB rfl (by (rfl)), rfl, rfl, trivial⟩ (List.Sublist.refl _)
    · (refine gTz ?_; refine vFz ?_; refine gTz ?_; refine ldz rfl (.tail .head) fr_rd5 ?_; refine gTz ?_; refine vFz ?_; refine gTz ?_; refine ldz rfl .head fr_rd5 ?_; refine gTz ?_; refine lvz (.eq rfl rfl) ?_; refine pTz ?_; refine vMz ?_; apply LW.nil)
      exact joinI ⟨getB rfl (by (exact decide_eq_decide.2 Int.ofNat_inj)), rfl, rfl, trivial⟩ (List.Sublist.refl _)
  obtain ⟨y3, hy3⟩ : ∃ c : Bool, c = (y2 && decide (frm = frm')) := ⟨_, rfl⟩
  refine LW.joinF 7 ((32, .bool (y3)) :: [(2, .pointer (some ⟨b2, 0, none⟩)), (3, .pointer (some ⟨b3, 0, none⟩))]) ?_ ?_
  rotate_left
  · rw [hy3]
    clear hy3 hy2 hy1 hy0
    cases y2
    · ((iterate 5 refine gFz ?_); refine pFz ?_; refine vMz ?_; apply LW.nil)
      exact joinI ⟨getB rfl (by (rfl)), rfl, rfl, trivial⟩ (List.Sublist.refl _)
    · (refine gTz ?_; refine vFz ?_; refine gTz ?_; refine ldz rfl (.tail .head) fr_rd6 ?_; refine gTz ?_; refine vFz ?_; refine gTz ?_; refine ldz rfl .head fr_rd6 ?_; refine gTz ?_; refine lvz (.eq rfl rfl) ?_; refine pTz ?_; refine vMz ?_; apply LW.nil)
      exact joinI ⟨getB rfl (by (exact decide_eq_decide.2 Int.ofNat_inj)), rfl, rfl, trivial⟩ (List.Sublist.refl _)
  obtain ⟨y4, hy4⟩ : ∃ c : Bool, c = (y3 && decide (val = val')) := ⟨_, rfl⟩
  refine LW.joinF 7 ((39, .bool (y4)) :: [(2, .pointer (some ⟨b2, 0, none⟩)), (3, .pointer (some ⟨b3, 0, none⟩))]) ?_ ?_
  rotate_left
  · rw [hy4]
    clear hy4 hy3 hy2 hy1 hy0
    cases y3
    · ((iterate 5 refine gFz ?_); refine pFz ?_; refine vMz ?_; apply LW.nil)
      exact joinI ⟨getB rfl (by (rfl)), rfl, rfl, trivial⟩ (List.Sublist.refl _)
    · (refine gTz ?_; refine vFz ?_; refine gTz ?_; refine ldz rfl (.tail .head) fr_rd7 ?_; refine gTz ?_; refine vFz ?_; refine gTz ?_; refine ldz rfl .head fr_rd7 ?_; refine gTz ?_; refine lvz (.eqW rfl rfl (by assumption) (by assumption)) ?_; refine pTz ?_; refine vMz ?_; apply LW.nil)
      exact joinI ⟨getB rfl (by (rfl)), rfl, rfl, trivial⟩ (List.Sublist.refl _)
  obtain ⟨y5, hy5⟩ : ∃ c : Bool, c = (y4 && decide (stat = stat')) := ⟨_, rfl⟩
  refine LW.joinF 7 ((5, .bool (y5)) :: [(2, .pointer (some ⟨b2, 0, none⟩)), (3, .pointer (some ⟨b3, 0, none⟩))]) ?_ ?_
  rotate_left
  · rw [hy5]
    clear hy5 hy4 hy3 hy2 hy1 hy0
    cases y4
    · ((iterate 5 refine gFz ?_); refine pFz ?_; refine vAz ?_; apply LW.nil)
      exact joinI ⟨getB rfl (by (rfl)), rfl, rfl, trivial⟩ (List.Sublist.refl _)
    · (refine gTz ?_; refine vFz ?_; refine gTz ?_; refine ldz rfl (.tail .head) fr_rd13 ?_; refine gTz ?_; refine vFz ?_; refine gTz ?_; refine ldz rfl .head fr_rd13 ?_; refine gTz ?_; refine lvz (.boolEq rfl rfl) ?_; refine pTz ?_; refine vAz ?_; apply LW.nil)
      exact joinI ⟨getB rfl (by (rfl)), rfl, rfl, trivial⟩ (List.Sublist.refl _)
  (refine nSz ?_; refine vMz ?_; refine vMz ?_)
  obtain ⟨y6, hy6⟩ : ∃ c : Bool, c = (y5 && decide (L.cl = M.cl)) := ⟨_, rfl⟩
  refine LW.joinF 7 ((54, .bool (y6)) :: [(2, .pointer (some ⟨b2, 0, none⟩)), (3, .pointer (some ⟨b3, 0, none⟩))]) ?_ ?_
  rotate_left
  · rw [hy6]
    clear hy6 hy5 hy4 hy3 hy2 hy1 hy0
    cases y5
    · ((iterate 5 refine gFz ?_); refine pFz ?_; refine vMz ?_; apply LW.nil)
      exact joinI ⟨getB rfl (by (rfl)), rfl, rfl, trivial⟩ (List.Sublist.refl _)
    · (refine gTz ?_; refine vFz ?_; refine gTz ?_; refine ldz rfl (.tail .head) fr_rd0 ?_; refine gTz ?_; refine vFz ?_; refine gTz ?_; refine ldz rfl .head fr_rd0 ?_; refine gTz ?_; apply LW.callE; rfl; rfl; infer_instance; exact .cons rfl (.cons rfl .nil); intro w _; exact hq6 w (by assumption); refine pTz ?_; refine vMz ?_; apply LW.nil)
      exact joinI ⟨getB rfl (by (rfl)), rfl, rfl, trivial⟩ (List.Sublist.refl _)
  obtain ⟨y7, hy7⟩ : ∃ c : Bool, c = (y6 && decide (L.il = M.il)) := ⟨_, rfl⟩
  refine LW.joinF 7 ((61, .bool (y7)) :: [(2, .pointer (some ⟨b2, 0, none⟩)), (3, .pointer (some ⟨b3, 0, none⟩))]) ?_ ?_
  rotate_left
  · rw [hy7]
    clear hy7 hy6 hy5 hy4 hy3 hy2 hy1 hy0
    cases y6
    · ((iterate 5 refine gFz ?_); refine pFz ?_; refine vMz ?_; apply LW.nil)
      exact joinI ⟨getB rfl (by (rfl)), rfl, rfl, trivial⟩ (List.Sublist.refl _)
    · (refine gTz ?_; refine vFz ?_; refine gTz ?_; refine ldz rfl (.tail .head) fr_rd11 ?_; refine gTz ?_; refine vFz ?_; refine gTz ?_; refine ldz rfl .head fr_rd11 ?_; refine gTz ?_; apply LW.callE; rfl; rfl; infer_instance; exact .cons rfl (.cons rfl .nil); intro w _; exact hq7 w (by assumption); refine pTz ?_; refine vMz ?_; apply LW.nil)
      exact joinI ⟨getB rfl (by (rfl)), rfl, rfl, trivial⟩ (List.Sublist.refl _)
  obtain ⟨y8, hy8⟩ : ∃ c : Bool, c = (y7 && decide (L.bl = M.bl)) := ⟨_, rfl⟩
  refine LW.joinF 7 ((68, .bool (y8)) :: [(2, .pointer (some ⟨b2, 0, none⟩)), (3, .pointer (some ⟨b3, 0, none⟩))]) ?_ ?_
  rotate_left
  · rw [hy8]
    clear hy8 hy7 hy6 hy5 hy4 hy3 hy2 hy1 hy0
    cases y7
    · ((iterate 5 refine gFz ?_); refine pFz ?_; refine vMz ?_; apply LW.nil)
      exact joinI ⟨getB rfl (by (rfl)), rfl, rfl, trivial⟩ (List.Sublist.refl _)
    · (refine gTz ?_; refine vFz ?_; refine gTz ?_; refine ldz rfl (.tail .head) fr_rd12 ?_; refine gTz ?_; refine vFz ?_; refine gTz ?_; refine ldz rfl .head fr_rd12 ?_; refine gTz ?_; apply LW.callE; rfl; rfl; infer_instance; exact .cons rfl (.cons rfl .nil); intro w _; exact hq8 w (by assumption); refine pTz ?_; refine vMz ?_; apply LW.nil)
      exact joinI ⟨getB rfl (by (rfl)), rfl, rfl, trivial⟩ (List.Sublist.refl _)
  obtain ⟨y9, hy9⟩ : ∃ c : Bool, c = (y8 && decide (L.ws = M.ws ∧ L.ms = M.ms)) := ⟨_, rfl⟩
  refine LW.joinF 7 ((4, .bool (y9)) :: [(2, .pointer (some ⟨b2, 0, none⟩)), (3, .pointer (some ⟨b3, 0, none⟩))]) ?_ ?_
  rotate_left
  · rw [hy9]
    clear hy9 hy8 hy7 hy6 hy5 hy4 hy3 hy2 hy1 hy0
    cases y8
    · ((iterate 5 refine gFz ?_); refine pFz ?_; refine vAz ?_; apply LW.nil)
      exact joinI ⟨getB rfl (by (rfl)), rfl, rfl, trivial⟩ (List.Sublist.refl _)
    · (refine gTz ?_; refine vFz ?_; refine gTz ?_; refine ldz rfl (.tail .head) fr_rd2 ?_; refine gTz ?_; refine vFz ?_; refine gTz ?_; refine ldz rfl .head fr_rd2 ?_; refine gTz ?_; apply LW.callE; rfl; rfl; infer_instance; exact .cons rfl (.cons rfl .nil); intro w _; exact hq9 w (by assumption); refine pTz ?_; refine vAz ?_; apply LW.nil)
      exact joinI ⟨getB rfl (by (rfl)), rfl, rfl, trivial⟩ (List.Sublist.refl _)
  have hfin : y9 = decide (sameF ⟨.slice p0 L.cl.length c0, pc, .slice p2 L.ws.length c2, .slice p3 L.ms.length c3, gas, self, frm, val, .slice p11 L.il.length c11, .slice p12 L.bl.length c12, stat⟩ L ⟨.slice r0 M.cl.length d0, pc', .slice r2 M.ws.length d2, .slice r3 M.ms.length d3, gas', self', frm', val', .slice r11 M.il.length d11, .slice r12 M.bl.length d12, stat'⟩ M) := by
    rw [Bool.eq_iff_iff]
    simp only [hy9, hy8, hy7, hy6, hy5, hy4, hy3, hy2, hy1, hy0, Bool.and_eq_true, decide_eq_true_eq]
    unfold sameF
    dsimp only
    exact ⟨fun ⟨⟨⟨⟨⟨⟨⟨⟨⟨e0, e1⟩, e2⟩, e3⟩, e4⟩, e5⟩, e6⟩, e7⟩, e8⟩, e9⟩ => ⟨e0, e1, e2, e3, e4, e5, e6, e7, e8, e9⟩, fun ⟨e0, e1, e2, e3, e4, e5, e6, e7, e8, e9⟩ => ⟨⟨⟨⟨⟨⟨⟨⟨⟨e0, e1⟩, e2⟩, e3⟩, e4⟩, e5⟩, e6⟩, e7⟩, e8⟩, e9⟩⟩
  rw [← hfin]
  (refine nNz ?_; refine CW.ret ?_)
  (apply finR; exact .inl rfl; rfl; rfl; rfl; apply ResL.cons; exact Res.tmp rfl; exact ResL.nil)
  rfl
end Go.Proofs.YtpgdnfgjbhdbpaaGreatDoor

/-
  The document's frames: which may be, copies.
  Conditions: none.
-/
namespace Go.Proofs.YtpgdnfgjbhdbpaaGreatDoor
open Go Go.RowKit SL
open CK (readB)
set_option maxRecDepth 8000
set_option maxHeartbeats 4000000
set_option linter.unusedSimpArgs false
set_option linter.unusedVariables false
attribute [local irreducible] SL.CW SL.LW SL.DW Calls SL.Ret SL.RetG SL.beginQ SL.roundQ SL.rangeQ SL.inQ SL.RW SL.AnyW SL.thenQ SL.thenC SL.thenW SL.blkQ SL.finQ SL.ValP SL.NewP SL.SetP SL.CallP SL.Rd SL.Wr SL.Known
/-! ### Copies -/
theorem IsRow.le {E : TypeId} {sz n n' c : Nat} {p : Option Addr} {xs : List Value} {seg : Fs} (h : IsRow E sz (.slice p n' c) n xs seg) : n' ≤ c := by
  cases h with
  | nil => exact Nat.le_refl _
  | own hn _ _ _ _ => exact hn
end Go.Proofs.YtpgdnfgjbhdbpaaGreatDoor

/-
  The frames in which calls begin, in the code's and the document's words.
  Conditions: none.
-/
namespace Go.Proofs.YtpgdnfgjbhdbpaaGreatDoor
open Go Go.RowKit SL
open CK (readB readFrom readFrom_hit)
set_option maxRecDepth 8000
set_option maxHeartbeats 4000000
set_option linter.unusedSimpArgs false
set_option linter.unusedVariables false
attribute [local irreducible] SL.CW SL.LW SL.DW Calls SL.Ret SL.RetG SL.beginQ SL.roundQ SL.rangeQ SL.inQ SL.RW SL.AnyW SL.thenQ SL.thenC SL.thenW SL.blkQ SL.finQ SL.ValP SL.NewP SL.SetP SL.CallP SL.Rd SL.Wr SL.Known
/-- The frame in which a call begins. -/
def staF (c : ClV) (cv sv mv iv bv : Value) : FrV := ⟨cv, 0, sv, mv, c.gas, c.self, c.frm, c.val, iv, bv, c.stat⟩
def staL (L : ClL) (pl : List UInt8) : FrL := ⟨pl, [], [], L.il, []⟩
def okS (c : ClV) (L : ClL) (pl : List UInt8) : Prop := okC c L ∧ ¬ c.self = 0 ∧ pl.length ≤ 200
instance (c : ClV) (L : ClL) (pl : List UInt8) : Decidable (okS c L pl) := by unfold okS; infer_instance
theorem okS_frame {c : ClV} {L : ClL} {pl : List UInt8} {a b d e f : Value} (h : okC c L) : okF (staF c a b d e f) (staL L pl) ↔ (¬ c.self = 0 ∧ pl.length ≤ 200) := by
  have hr : ((0 : Int) = (pl.length : Int)) ∨ readB pl 0 = true := by
    rcases Nat.eq_zero_or_pos pl.length with h0 | h0
    · exact .inl (by omega)
    · refine .inr ?_
      have h1 : readFrom pl 0 ((0 : Nat) : Int) = true := readFrom_hit h0
      have h2 : readFrom pl 0 0 = readB pl 0 := by unfold readFrom readB; rw [List.drop_zero]
      rw [← h2]; exact h1
  obtain ⟨_, ⟨h1, h2, _⟩, _⟩ := h
  unfold okF staF staL okSc
  dsimp only
  constructor
  · rintro ⟨_, h3, h4, _⟩
    exact ⟨h3, h4⟩
  · rintro ⟨h3, h4⟩
    exact ⟨⟨h2, by simp, h1⟩, h3, h4, ⟨by simp, by simp, by simp⟩, hr⟩
def progL (c : ClV) (L : ClL) (pl : List UInt8) : List UInt8 := if c.op = 245 then L.cl else pl
def StaR (z : Value) (y : Value) (c : ClV) (L : ClL) (pl : List UInt8) (v : Value) (gs : Fs) : Prop :=
  (okS c L pl ∧ ∃ a b d e f, v = .tuple #[frv (staF c a b d e f), y] ∧ FrO (staF c a b d e f) (staL L pl) gs) ∨ (¬ okS c L pl ∧ v = .tuple #[frv zeroF, z] ∧ gs = [])
theorem Start_calls (c : ClV) (L : ClL) (pl : List UInt8) (hi : L.il.length ≤ 100000) (hc : L.cl.length ≤ 100000) (hpl : pl.length ≤ 100000) (v : Value) (w : World) (hv : RowAt w 1 v pl.length (ucs pl)) (h : ClRows w c L) :
    Calls Tryz.prog 22 #[clv c, v] w (RetG w [] (StaR (.int .i64 250) (.int .i64 0) c L (progL c L pl))) := by
  have hCc0 := fun w' {fs : Fs} (hst : St w [] fs w') => callCheck_calls c L w' (h.st hst)
  obtain ⟨op, dst, self, frm, val, mv, gas, inp, code, pc, n, stat⟩ := c
  obtain ⟨h10, h11⟩ := h
  dsimp only at h10 h11 hCc0
  obtain ⟨p10, c10, rfl, _, _⟩ := id h10.form
  obtain ⟨p11, c11, rfl, _, _⟩ := id h11.form
  obtain ⟨pv, cv, rfl, _, _⟩ := id hv.form
  have hzs := zero_sl
  have hCc1 : okC ⟨op, dst, self, frm, val, mv, gas, .slice p10 L.il.length c10, .slice p11 L.cl.length c11, pc, n, stat⟩ L → ∀ w' {fs : Fs}, St w [] fs w' → Calls Tryz.prog 19 #[clv ⟨op, dst, self, frm, val, mv, gas, .slice p10 L.il.length c10, .slice p11 L.cl.length c11, pc, n, stat⟩] w' (Ret w' (.int .i64 0)) := fun hok w' fs hst => by have h := hCc0 w' hst; rwa [if_pos hok] at h
  have hCc2 : ¬ okC ⟨op, dst, self, frm, val, mv, gas, .slice p10 L.il.length c10, .slice p11 L.cl.length c11, pc, n, stat⟩ L → ∀ w' {fs : Fs}, St w [] fs w' → Calls Tryz.prog 19 #[clv ⟨op, dst, self, frm, val, mv, gas, .slice p10 L.il.length c10, .slice p11 L.cl.length c11, pc, n, stat⟩] w' (Ret w' (.int .i64 250)) := fun hok w' fs hst => by have h := hCc0 w' hst; rwa [if_neg hok] at h
  by_cases h245 : op = 245
  · have hpr : progL ⟨op, dst, self, frm, val, mv, gas, .slice p10 L.il.length c10, .slice p11 L.cl.length c11, pc, n, stat⟩ L pl = L.cl := if_pos h245
    rw [hpr]
    refine enter (args := [_, _]) _ [] [] Tryz.func22 rfl Tryz.ntmps22 rfl (by simp) .nil ?_
    (refine sRz ?_; apply LW.boxA; rfl; rfl; intro _; apply LW.allocA; rfl; intro _; refine vAz ?_; refine nNz ?_; refine CW.seq ?_; refine sRz ?_; refine vFz ?_; refine ldz rfl (.tail .head) cl_rd0 ?_; refine lvz (.eqT rfl rfl (by omega)) ?_; refine nNz ?_; refine cTz ?_; refine CW.region ?_; refine vFz ?_; refine ldz rfl (.tail .head) cl_rd11 ?_; refine vAz ?_; refine nSz ?_; refine vMz ?_; refine vFz ?_; refine ldz rfl (.tail .head) cl_rd9 ?_; refine vFz ?_; refine ldz rfl (.tail .head) cl_rd2 ?_; refine vFz ?_; refine ldz rfl (.tail .head) cl_rd3 ?_; refine vFz ?_; refine ldz rfl (.tail .head) cl_rd4 ?_; refine vFz ?_; refine ldz rfl (.tail .head) cl_rd10 ?_; refine vFz ?_; refine ldz rfl (.tail .head) cl_rd14 ?_; apply LW.v0; rfl; rfl; apply ValP.buildT; infer_instance; infer_instance; apply PartsOk.cons; rfl; apply PartsOk.cons; rfl; apply PartsOk.cons; rfl; apply PartsOk.cons; rfl; apply PartsOk.cons; rfl; apply PartsOk.cons; rfl; apply PartsOk.cons; rfl; exact PartsOk.nil; rfl; simp only [fillP, wrCells, fra, frc, wc, Value.cells, List.getElem?_cons_zero, List.getElem?_cons_succ, List.toList_toArray, List.setIfInBounds_toArray, List.set_cons_succ, List.set_cons_zero, List.cons_append, List.nil_append, Nat.reduceAdd, Nat.zero_add]; rfl)
    (apply LW.callR; rfl; rfl; infer_instance; exact .cons rfl .nil; intro w hs)
    exact callCopied_calls ⟨.slice p11 L.cl.length c11, 0, .slice none 0 0, .slice none 0 0, gas, self, frm, val, .slice p10 L.il.length c10, .slice none 0 0, stat⟩ (staL L L.cl) ⟨hc, by simp [staL], by simp [staL], hi, by simp [staL]⟩ w ⟨h11.st hs, .nil, .nil, h10.st hs, .nil⟩
    rintro vo go ⟨a, b, d, e, f, rfl, hfr⟩
    have hsl := hfr.sl
    by_cases hok : okC ⟨op, dst, self, frm, val, mv, gas, .slice p10 L.il.length c10, .slice p11 L.cl.length c11, pc, n, stat⟩ L
    · have hCc := hCc1 hok
      by_cases hs2 : ¬ self = 0 ∧ L.cl.length ≤ 200
      · have hFc : ∀ w' {fs : Fs}, St w [] fs w' → (∀ p ∈ go, p ∈ fs) → Calls Tryz.prog 31 #[frv (staF ⟨op, dst, self, frm, val, mv, gas, .slice p10 L.il.length c10, .slice p11 L.cl.length c11, pc, n, stat⟩ a b d e f)] w' (Ret w' (.int .i64 0)) := fun w' fs hst hm => by
          have h := fCheck_calls (staF ⟨op, dst, self, frm, val, mv, gas, .slice p10 L.il.length c10, .slice p11 L.cl.length c11, pc, n, stat⟩ a b d e f) (staL L L.cl) w' (hfr.st hst hm)
          rwa [if_pos ((okS_frame hok).2 hs2)] at h
        (apply LW.allocA; rfl; intro _; apply LW.store; rfl; rfl; apply SetAt.head; apply fr_wrW; rfl; assumption; refine nNz ?_; refine CW.seq ?_; refine sRz ?_; refine ldz rfl (.tail (.app (.tail .head))) cl_rdW ?_; apply LW.callE; rfl; rfl; infer_instance; exact .cons rfl .nil; intro w _; exact hCc w (by assumption); refine lvz (.neF rfl rfl (by omega)) ?_; refine vMz ?_; refine gTz ?_; refine ldz rfl .head fr_rdW ?_; refine gTz ?_; apply LW.callE; rfl; rfl; infer_instance; exact .cons rfl .nil; intro w _; exact hFc w (by assumption) (fun p hp => List.mem_cons_of_mem _ (List.mem_append_left _ hp)); refine gTz ?_; refine lvz (.neF rfl rfl (by omega)) ?_; refine pFz ?_; refine nNz ?_; refine cFz ?_; refine CW.skip ?_; refine thenN ?_; refine sRz ?_; refine ldz rfl .head fr_rdW ?_; apply LW.store; rfl; rfl; apply SetAt.tail; apply SetAt.app; apply SetAt.head; apply fr_wrW; rfl; assumption; refine vAz ?_; refine nNz ?_; refine CW.ret ?_)
        refine fin (vs := [frv (staF ⟨op, dst, self, frm, val, mv, gas, .slice p10 L.il.length c10, .slice p11 L.cl.length c11, pc, n, stat⟩ a b d e f), .int .i64 0]) go (.inl rfl) rfl rfl (by (apply ResL.cons; apply Res.cell; rfl; apply Known.at; apply FsAt.tail; apply FsAt.app; apply FsAt.head; exact fr_rdW; apply ResL.cons; exact Res.tmp rfl; exact ResL.nil)) ?_ (.inl ⟨⟨hok, hs2⟩, a, b, d, e, f, rfl, hfr⟩)
        exact List.Sublist.cons _ (List.sublist_append_left _ _)
      · have hFc : ∀ w' {fs : Fs}, St w [] fs w' → (∀ p ∈ go, p ∈ fs) → Calls Tryz.prog 31 #[frv (staF ⟨op, dst, self, frm, val, mv, gas, .slice p10 L.il.length c10, .slice p11 L.cl.length c11, pc, n, stat⟩ a b d e f)] w' (Ret w' (.int .i64 240)) := fun w' fs hst hm => by
          have h := fCheck_calls (staF ⟨op, dst, self, frm, val, mv, gas, .slice p10 L.il.length c10, .slice p11 L.cl.length c11, pc, n, stat⟩ a b d e f) (staL L L.cl) w' (hfr.st hst hm)
          rwa [if_neg (fun h => hs2 ((okS_frame hok).1 h))] at h
        (apply LW.allocA; rfl; intro _; apply LW.store; rfl; rfl; apply SetAt.head; apply fr_wrW; rfl; assumption; refine nNz ?_; refine CW.seq ?_; refine sRz ?_; refine ldz rfl (.tail (.app (.tail .head))) cl_rdW ?_; apply LW.callE; rfl; rfl; infer_instance; exact .cons rfl .nil; intro w _; exact hCc w (by assumption); refine lvz (.neF rfl rfl (by omega)) ?_; refine vMz ?_; refine gTz ?_; refine ldz rfl .head fr_rdW ?_; refine gTz ?_; apply LW.callE; rfl; rfl; infer_instance; exact .cons rfl .nil; intro w _; exact hFc w (by assumption) (fun p hp => List.mem_cons_of_mem _ (List.mem_append_left _ hp)); refine gTz ?_; refine lvz (.neT rfl rfl (by omega)) ?_; refine pFz ?_; refine nNz ?_; refine cTz ?_; refine sRz ?_; apply LW.v0; rfl; rfl; apply ValP.buildT; infer_instance; infer_instance; exact PartsOk.nil; rfl; simp only [fillP, wrCells, fra, frc, wc, Value.cells, List.getElem?_cons_zero, List.getElem?_cons_succ, List.toList_toArray, List.setIfInBounds_toArray, List.set_cons_succ, List.set_cons_zero, List.cons_append, List.nil_append, Nat.reduceAdd, Nat.zero_add]; rfl; refine LW.store rfl rfl (.tail (.app .head)) (.whole rfl rfl rfl) ?_; refine vAz ?_; refine nNz ?_; refine CW.ret ?_; refine thenR ?_)
        exact fin (vs := [frv zeroF, .int .i64 250]) [] (.inl rfl) rfl rfl (by (apply ResL.cons; apply Res.cell; rfl; apply Known.at; apply FsAt.tail; apply FsAt.app; apply FsAt.head; exact Rd.whole rfl; apply ResL.cons; exact Res.tmp rfl; exact ResL.nil)) (List.nil_sublist _) (.inr ⟨fun h => hs2 h.2, rfl, rfl⟩)
    · have hCc := hCc2 hok
      (apply LW.allocA; rfl; intro _; apply LW.store; rfl; rfl; apply SetAt.head; apply fr_wrW; rfl; assumption; refine nNz ?_; refine CW.seq ?_; refine sRz ?_; refine ldz rfl (.tail (.app (.tail .head))) cl_rdW ?_; apply LW.callE; rfl; rfl; infer_instance; exact .cons rfl .nil; intro w _; exact hCc w (by assumption); refine lvz (.neT rfl rfl (by omega)) ?_; refine vMz ?_; (iterate 3 refine gFz ?_); refine pTz ?_; refine nNz ?_; refine cTz ?_; refine sRz ?_; apply LW.v0; rfl; rfl; apply ValP.buildT; infer_instance; infer_instance; exact PartsOk.nil; rfl; simp only [fillP, wrCells, fra, frc, wc, Value.cells, List.getElem?_cons_zero, List.getElem?_cons_succ, List.toList_toArray, List.setIfInBounds_toArray, List.set_cons_succ, List.set_cons_zero, List.cons_append, List.nil_append, Nat.reduceAdd, Nat.zero_add]; rfl; refine LW.store rfl rfl (.tail (.app .head)) (.whole rfl rfl rfl) ?_; refine vAz ?_; refine nNz ?_; refine CW.ret ?_; refine thenR ?_)
      exact fin (vs := [frv zeroF, .int .i64 250]) [] (.inl rfl) rfl rfl (by (apply ResL.cons; apply Res.cell; rfl; apply Known.at; apply FsAt.tail; apply FsAt.app; apply FsAt.head; exact Rd.whole rfl; apply ResL.cons; exact Res.tmp rfl; exact ResL.nil)) (List.nil_sublist _) (.inr ⟨fun h => hok h.1, rfl, rfl⟩)
  · have hpr : progL ⟨op, dst, self, frm, val, mv, gas, .slice p10 L.il.length c10, .slice p11 L.cl.length c11, pc, n, stat⟩ L pl = pl := if_neg h245
    rw [hpr]
    refine enter (args := [_, _]) _ [] [] Tryz.func22 rfl Tryz.ntmps22 rfl (by simp) .nil ?_
    (refine sRz ?_; apply LW.boxA; rfl; rfl; intro _; apply LW.allocA; rfl; intro _; refine vAz ?_; refine nNz ?_; refine CW.seq ?_; refine sRz ?_; refine vFz ?_; refine ldz rfl (.tail .head) cl_rd0 ?_; refine lvz (.eqF rfl rfl (by omega)) ?_; refine nNz ?_; refine cFz ?_; refine CW.skip ?_; refine thenN ?_; refine sRz ?_; refine vMz ?_; refine vFz ?_; refine ldz rfl (.tail .head) cl_rd9 ?_; refine vFz ?_; refine ldz rfl (.tail .head) cl_rd2 ?_; refine vFz ?_; refine ldz rfl (.tail .head) cl_rd3 ?_; refine vFz ?_; refine ldz rfl (.tail .head) cl_rd4 ?_; refine vFz ?_; refine ldz rfl (.tail .head) cl_rd10 ?_; refine vFz ?_; refine ldz rfl (.tail .head) cl_rd14 ?_; apply LW.v0; rfl; rfl; apply ValP.buildT; infer_instance; infer_instance; apply PartsOk.cons; rfl; apply PartsOk.cons; rfl; apply PartsOk.cons; rfl; apply PartsOk.cons; rfl; apply PartsOk.cons; rfl; apply PartsOk.cons; rfl; apply PartsOk.cons; rfl; exact PartsOk.nil; rfl; simp only [fillP, wrCells, fra, frc, wc, Value.cells, List.getElem?_cons_zero, List.getElem?_cons_succ, List.toList_toArray, List.setIfInBounds_toArray, List.set_cons_succ, List.set_cons_zero, List.cons_append, List.nil_append, Nat.reduceAdd, Nat.zero_add]; rfl)
    (apply LW.callR; rfl; rfl; infer_instance; exact .cons rfl .nil; intro w hs)
    exact callCopied_calls ⟨.slice pv pl.length cv, 0, .slice none 0 0, .slice none 0 0, gas, self, frm, val, .slice p10 L.il.length c10, .slice none 0 0, stat⟩ (staL L pl) ⟨hpl, by simp [staL], by simp [staL], hi, by simp [staL]⟩ w ⟨hv.st hs, .nil, .nil, h10.st hs, .nil⟩
    rintro vo go ⟨a, b, d, e, f, rfl, hfr⟩
    have hsl := hfr.sl
    by_cases hok : okC ⟨op, dst, self, frm, val, mv, gas, .slice p10 L.il.length c10, .slice p11 L.cl.length c11, pc, n, stat⟩ L
    · have hCc := hCc1 hok
      by_cases hs2 : ¬ self = 0 ∧ pl.length ≤ 200
      · have hFc : ∀ w' {fs : Fs}, St w [] fs w' → (∀ p ∈ go, p ∈ fs) → Calls Tryz.prog 31 #[frv (staF ⟨op, dst, self, frm, val, mv, gas, .slice p10 L.il.length c10, .slice p11 L.cl.length c11, pc, n, stat⟩ a b d e f)] w' (Ret w' (.int .i64 0)) := fun w' fs hst hm => by
          have h := fCheck_calls (staF ⟨op, dst, self, frm, val, mv, gas, .slice p10 L.il.length c10, .slice p11 L.cl.length c11, pc, n, stat⟩ a b d e f) (staL L pl) w' (hfr.st hst hm)
          rwa [if_pos ((okS_frame hok).2 hs2)] at h
        (apply LW.allocA; rfl; intro _; apply LW.store; rfl; rfl; apply SetAt.head; apply fr_wrW; rfl; assumption; refine nNz ?_; refine CW.seq ?_; refine sRz ?_; refine ldz rfl (.tail (.app (.tail .head))) cl_rdW ?_; apply LW.callE; rfl; rfl; infer_instance; exact .cons rfl .nil; intro w _; exact hCc w (by assumption); refine lvz (.neF rfl rfl (by omega)) ?_; refine vMz ?_; refine gTz ?_; refine ldz rfl .head fr_rdW ?_; refine gTz ?_; apply LW.callE; rfl; rfl; infer_instance; exact .cons rfl .nil; intro w _; exact hFc w (by assumption) (fun p hp => List.mem_cons_of_mem _ (List.mem_append_left _ hp)); refine gTz ?_; refine lvz (.neF rfl rfl (by omega)) ?_; refine pFz ?_; refine nNz ?_; refine cFz ?_; refine CW.skip ?_; refine thenN ?_; refine sRz ?_; refine ldz rfl .head fr_rdW ?_; apply LW.store; rfl; rfl; apply SetAt.tail; apply SetAt.app; apply SetAt.head; apply fr_wrW; rfl; assumption; refine vAz ?_; refine nNz ?_; refine CW.ret ?_)
        refine fin (vs := [frv (staF ⟨op, dst, self, frm, val, mv, gas, .slice p10 L.il.length c10, .slice p11 L.cl.length c11, pc, n, stat⟩ a b d e f), .int .i64 0]) go (.inl rfl) rfl rfl (by (apply ResL.cons; apply Res.cell; rfl; apply Known.at; apply FsAt.tail; apply FsAt.app; apply FsAt.head; exact fr_rdW; apply ResL.cons; exact Res.tmp rfl; exact ResL.nil)) ?_ (.inl ⟨⟨hok, hs2⟩, a, b, d, e, f, rfl, hfr⟩)
        exact List.Sublist.cons _ (List.sublist_append_left _ _)
      · have hFc : ∀ w' {fs : Fs}, St w [] fs w' → (∀ p ∈ go, p ∈ fs) → Calls Tryz.prog 31 #[frv (staF ⟨op, dst, self, frm, val, mv, gas, .slice p10 L.il.length c10, .slice p11 L.cl.length c11, pc, n, stat⟩ a b d e f)] w' (Ret w' (.int .i64 240)) := fun w' fs hst hm => by
          have h := fCheck_calls (staF ⟨op, dst, self, frm, val, mv, gas, .slice p10 L.il.length c10, .slice p11 L.cl.length c11, pc, n, stat⟩ a b d e f) (staL L pl) w' (hfr.st hst hm)
          rwa [if_neg (fun h => hs2 ((okS_frame hok).1 h))] at h
        (apply LW.allocA; rfl; intro _; apply LW.store; rfl; rfl; apply SetAt.head; apply fr_wrW; rfl; assumption; refine nNz ?_; refine CW.seq ?_; refine sRz ?_; refine ldz rfl (.tail (.app (.tail .head))) cl_rdW ?_; apply LW.callE; rfl; rfl; infer_instance; exact .cons rfl .nil; intro w _; exact hCc w (by assumption); refine lvz (.neF rfl rfl (by omega)) ?_; refine vMz ?_; refine gTz ?_; refine ldz rfl .head fr_rdW ?_; refine gTz ?_; apply LW.callE; rfl; rfl; infer_instance; exact .cons rfl .nil; intro w _; exact hFc w (by assumption) (fun p hp => List.mem_cons_of_mem _ (List.mem_append_left _ hp)); refine gTz ?_; refine lvz (.neT rfl rfl (by omega)) ?_; refine pFz ?_; refine nNz ?_; refine cTz ?_; refine sRz ?_; apply LW.v0; rfl; rfl; apply ValP.buildT; infer_instance; infer_instance; exact PartsOk.nil; rfl; simp only [fillP, wrCells, fra, frc, wc, Value.cells, List.getElem?_cons_zero, List.getElem?_cons_succ, List.toList_toArray, List.setIfInBounds_toArray, List.set_cons_succ, List.set_cons_zero, List.cons_append, List.nil_append, Nat.reduceAdd, Nat.zero_add]; rfl; refine LW.store rfl rfl (.tail (.app .head)) (.whole rfl rfl rfl) ?_; refine vAz ?_; refine nNz ?_; refine CW.ret ?_; refine thenR ?_)
        exact fin (vs := [frv zeroF, .int .i64 250]) [] (.inl rfl) rfl rfl (by (apply ResL.cons; apply Res.cell; rfl; apply Known.at; apply FsAt.tail; apply FsAt.app; apply FsAt.head; exact Rd.whole rfl; apply ResL.cons; exact Res.tmp rfl; exact ResL.nil)) (List.nil_sublist _) (.inr ⟨fun h => hs2 h.2, rfl, rfl⟩)
    · have hCc := hCc2 hok
      (apply LW.allocA; rfl; intro _; apply LW.store; rfl; rfl; apply SetAt.head; apply fr_wrW; rfl; assumption; refine nNz ?_; refine CW.seq ?_; refine sRz ?_; refine ldz rfl (.tail (.app (.tail .head))) cl_rdW ?_; apply LW.callE; rfl; rfl; infer_instance; exact .cons rfl .nil; intro w _; exact hCc w (by assumption); refine lvz (.neT rfl rfl (by omega)) ?_; refine vMz ?_; (iterate 3 refine gFz ?_); refine pTz ?_; refine nNz ?_; refine cTz ?_; refine sRz ?_; apply LW.v0; rfl; rfl; apply ValP.buildT; infer_instance; infer_instance; exact PartsOk.nil; rfl; simp only [fillP, wrCells, fra, frc, wc, Value.cells, List.getElem?_cons_zero, List.getElem?_cons_succ, List.toList_toArray, List.setIfInBounds_toArray, List.set_cons_succ, List.set_cons_zero, List.cons_append, List.nil_append, Nat.reduceAdd, Nat.zero_add]; rfl; refine LW.store rfl rfl (.tail (.app .head)) (.whole rfl rfl rfl) ?_; refine vAz ?_; refine nNz ?_; refine CW.ret ?_; refine thenR ?_)
      exact fin (vs := [frv zeroF, .int .i64 250]) [] (.inl rfl) rfl rfl (by (apply ResL.cons; apply Res.cell; rfl; apply Known.at; apply FsAt.tail; apply FsAt.app; apply FsAt.head; exact Rd.whole rfl; apply ResL.cons; exact Res.tmp rfl; exact ResL.nil)) (List.nil_sublist _) (.inr ⟨fun h => hok h.1, rfl, rfl⟩)
/-! ### The document's copy, and its start -/
section wr
variable {P : Program} {T E : TypeId} {code stk mem inp back z : Value} {pc : Int} {gas self frm val n c n2 c2 : Nat} {stat : Bool} {p p2 : Option Addr}
theorem fr_wr23 [InfoI P T 2 z] : Wr P T (.cells (fra ⟨code, pc, stk, mem, gas, self, frm, val, inp, back, stat⟩) E (0, 0)) (0 + 2) (.agg #[.slice p n c, .slice p2 n2 c2]) (.cells (fra ⟨code, pc, .slice p n c, .slice p2 n2 c2, gas, self, frm, val, inp, back, stat⟩) E (0, 0)) := Wr.cells (n := 2) (z := z) rfl rfl (by show 0 + 2 + 2 ≤ 14; omega) rfl
end wr
end Go.Proofs.YtpgdnfgjbhdbpaaGreatDoor

/-
  The ends of calls.
  Conditions: none.
-/
namespace Go.Proofs.YtpgdnfgjbhdbpaaGreatDoor
open Go Go.RowKit SL
set_option maxRecDepth 8000
set_option maxHeartbeats 4000000
set_option linter.unusedSimpArgs false
set_option linter.unusedVariables false
attribute [local irreducible] SL.CW SL.LW SL.DW Calls SL.Ret SL.RetG SL.beginQ SL.roundQ SL.rangeQ SL.inQ SL.RW SL.AnyW SL.thenQ SL.thenC SL.thenW SL.blkQ SL.finQ SL.ValP SL.NewP SL.SetP SL.CallP SL.Rd SL.Wr SL.Known
/-- The word that a call's end lays. -/
def laidW (c : ClV) (ok : Bool) : Nat := if ok = false then 0 else if c.op = 245 then c.dst else 1
theorem laid_calls (c : ClV) (ok : Bool) (hd : c.dst < 18446744073709551616) (w : World) (hsl : ∃ p n q p2 n2 q2, c.inp = .slice p n q ∧ c.code = .slice p2 n2 q2) : Calls Tryz.prog 40 #[clv c, .bool ok] w (Ret w (wv (laidW c ok))) := by
  obtain ⟨op, dst, self, frm, val, mv, gas, inp, code, pl, n, stat⟩ := c
  obtain ⟨p, nn, q, p2, n2, q2, rfl, rfl⟩ := hsl
  dsimp only at hd
  unfold laidW
  cases ok with
  | false =>
    rw [if_pos rfl]
    refine enter (args := [_, _]) _ [] [] Tryz.func40 rfl Tryz.ntmps40 rfl (by simp) .nil ?_
    (refine sRz ?_; apply LW.boxA; rfl; rfl; intro _; apply LW.allocW; rfl; intro _; refine nNz ?_; refine CW.seq ?_; refine CW.block ?_; refine sRz ?_; refine vMz ?_; refine lvz (.notF rfl (by with_reducible rfl)) ?_; refine vAz ?_; refine nNz ?_; refine cTz ?_; refine sRz ?_; apply LW.v0; rfl; rfl; exact ValP.buildW0; refine LW.store rfl rfl .head (.whole rfl rfl rfl) ?_; refine nNz ?_; refine CW.ret ?_; refine blkR ?_; refine thenR ?_)
    (apply finR; exact .inl rfl; rfl; rfl; rfl; apply ResL.cons; apply Res.cell; rfl; apply Known.at; apply FsAt.head; exact Rd.whole rfl; exact ResL.nil)
    rfl
  | true =>
    rw [if_neg (fun h => by cases h)]
    by_cases h245 : op = 245
    · rw [if_pos h245]
      refine enter (args := [_, _]) _ [] [] Tryz.func40 rfl Tryz.ntmps40 rfl (by simp) .nil ?_
      (refine sRz ?_; apply LW.boxA; rfl; rfl; intro _; apply LW.allocW; rfl; intro _; refine nNz ?_; refine CW.seq ?_; refine CW.block ?_; refine sRz ?_; refine vMz ?_; refine lvz (.notT rfl (by with_reducible rfl)) ?_; refine vAz ?_; refine nNz ?_; refine cFz ?_; refine sRz ?_; refine vFz ?_; refine ldz rfl (.tail .head) cl_rd0 ?_; refine lvz (.eqT rfl rfl (by omega)) ?_; refine vAz ?_; refine nNz ?_; refine cTz ?_; refine sRz ?_; refine vFz ?_; refine ldz rfl (.tail .head) cl_rd1 ?_; apply LW.callE; rfl; rfl; infer_instance; exact .cons rfl .nil; intro w _; exact aWord_calls _ hd w; refine LW.store rfl rfl .head (.whole rfl rfl rfl) ?_; refine nNz ?_; refine CW.ret ?_; refine blkR ?_; refine thenR ?_)
      (apply finR; exact .inl rfl; rfl; rfl; rfl; apply ResL.cons; apply Res.cell; rfl; apply Known.at; apply FsAt.head; exact Rd.whole rfl; exact ResL.nil)
      rfl
    · rw [if_neg h245]
      refine enter (args := [_, _]) _ [] [] Tryz.func40 rfl Tryz.ntmps40 rfl (by simp) .nil ?_
      (refine sRz ?_; apply LW.boxA; rfl; rfl; intro _; apply LW.allocW; rfl; intro _; refine nNz ?_; refine CW.seq ?_; refine CW.block ?_; refine sRz ?_; refine vMz ?_; refine lvz (.notT rfl (by with_reducible rfl)) ?_; refine vAz ?_; refine nNz ?_; refine cFz ?_; refine sRz ?_; refine vFz ?_; refine ldz rfl (.tail .head) cl_rd0 ?_; refine lvz (.eqF rfl rfl (by omega)) ?_; refine vAz ?_; refine nNz ?_; refine cFz ?_; refine CW.skip ?_; refine blkN ?_; refine thenN ?_; refine sRz ?_; apply LW.callE; rfl; rfl; infer_instance; exact .cons rfl .nil; intro w _; exact Of_calls 1 (by decide) w; refine LW.store rfl rfl .head (.whole rfl rfl rfl) ?_; refine nNz ?_; refine CW.ret ?_)
      (apply finR; exact .inl rfl; rfl; rfl; rfl; apply ResL.cons; apply Res.cell; rfl; apply Known.at; apply FsAt.head; exact Rd.whole rfl; exact ResL.nil)
      rfl
/-! ### A call's end -/
def ova (ok : Bool) (left : Nat) (out : Value) : Array Value := #[.bool ok, .int .u64 (left : Int), out]
section rd
variable {P : Program} {T E : TypeId} {fr : Nat × Nat} {ok : Bool} {left : Nat} {out : Value}
theorem ov_rd0 [AgI P T false] : Rd P T (.cells (ova ok left out) E fr) 0 (.bool ok) := Rd.one rfl
theorem ov_rd1 [AgI P T false] : Rd P T (.cells (ova ok left out) E fr) 1 (.int .u64 (left : Int)) := Rd.one rfl
theorem ov_rd2 [AgI P T false] : Rd P T (.cells (ova ok left out) E fr) 2 out := Rd.one rfl
end rd
/-- May such a call's end come to such a frame? -/
def okE (f : FrV) (L : FrL) (c : ClV) (M : ClL) (left : Nat) (l : List UInt8) : Prop := okF f L ∧ okC c M ∧ (left ≤ c.gas ∧ l.length ≤ 1024 ∧ f.gas + left ≤ 20000 ∧ c.pl + c.n ≤ L.ms.length) ∧ L.ws.length < 64
instance (f : FrV) (L : FrL) (c : ClV) (M : ClL) (left : Nat) (l : List UInt8) : Decidable (okE f L c M left l) := by unfold okE; infer_instance
/-- Bytes with others laid over them. -/
def overL (ms : List UInt8) (pl : Nat) (l : List UInt8) : List UInt8 := ms.take pl ++ (l ++ ms.drop (pl + l.length))
def endL (L : FrL) (c : ClV) (ok : Bool) (l : List UInt8) : FrL := ⟨L.cl, L.ws ++ [laidW c ok], overL L.ms c.pl (l.take c.n), L.il, if c.op = 245 ∧ ok = true then [] else l⟩
def EndR (f : FrV) (L : FrL) (c : ClV) (M : ClL) (ok : Bool) (left : Nat) (l : List UInt8) (v : Value) (gs : Fs) : Prop :=
  (okE f L c M left l ∧ ∃ a s m i b, v = .tuple #[frv (f.rowsG (f.gas + left) a s m i b), .bool true] ∧ FrO (f.rowsG (f.gas + left) a s m i b) (endL L c ok l) gs) ∨ (¬ okE f L c M left l ∧ v = .tuple #[frv zeroF, .bool false] ∧ gs = [])
theorem blocks_frv {f : FrV} (h : FrSl f) : blocksN 4 (frv f) = [f.code, f.stk, f.mem, f.inp, f.back].flatMap (blocksN 4) := by
  show (frc f).flatMap (blocksN 3) = _
  have e : ∀ (k : IntKind) (n : Int), blocksN 3 (.int k n) = [] := fun _ _ => rfl
  have e2 : ∀ b : Bool, blocksN 3 (.bool b) = [] := fun _ => rfl
  simp only [frc, wc, List.flatMap_cons, List.flatMap_nil, List.cons_append, List.nil_append, e, e2, List.append_nil, blocks_sl h.c, blocks_sl h.s, blocks_sl h.m, blocks_sl h.i, blocks_sl h.b]
theorem blocks_clv {c : ClV} (h1 : ∃ p n q, c.inp = .slice p n q) (h2 : ∃ p n q, c.code = .slice p n q) : blocksN 4 (clv c) = [c.inp, c.code].flatMap (blocksN 4) := by
  show (clc c).flatMap (blocksN 3) = _
  have e : ∀ (k : IntKind) (n : Int), blocksN 3 (.int k n) = [] := fun _ _ => rfl
  have e2 : ∀ b : Bool, blocksN 3 (.bool b) = [] := fun _ => rfl
  simp only [clc, wc, List.flatMap_cons, List.flatMap_nil, List.cons_append, List.nil_append, e, e2, List.append_nil, blocks_sl h1, blocks_sl h2]
theorem RowAt.cutMax {w : World} {sz n c k : Nat} {p : Option Addr} {xs : List Value} (h : RowAt w sz (.slice p n c) n xs) (hk : k ≤ n) : RowAt w sz (.slice p k k) k (xs.take (k * sz)) := by
  have h1 := h.take hk
  obtain ⟨_, _, he, hle, hmx⟩ := h.form
  cases he
  refine ⟨⟨_, _, rfl, Nat.le_refl _, by omega⟩, h1.len, fun h0 => ?_, fun p' n' c' he => ?_⟩
  · obtain ⟨b, off, c2, cs, E, fr, he, hb, hx⟩ := h1.pos h0
    cases he
    exact ⟨b, off, k, cs, E, fr, rfl, hb, hx⟩
  · cases he
    rcases Nat.eq_zero_or_pos k with h0 | h0
    · exact .inr (.inl h0)
    · rcases h1.lies _ _ _ rfl with h2 | h2 | h2
      · exact .inl h2
      · omega
      · exact .inr (.inr h2)
theorem take_over {α : Type} (A X : List α) (p N : Nat) (h : p + X.length ≤ N) (hA : N ≤ A.length) : (A.take p ++ X ++ A.drop (p + X.length)).take N = (A.take N).take p ++ (X ++ (A.take N).drop (p + X.length)) := by
  rw [List.append_assoc, List.take_append, List.take_append, List.drop_take, List.take_take, List.take_take, List.length_take]
  rw [show min p A.length = p by omega, show min N p = p by omega, show min p N = p by omega, List.take_of_length_le (show X.length ≤ N - p by omega), show N - p - X.length = N - (p + X.length) by omega]
theorem ucs_over (ms X : List UInt8) (p : Nat) : (ucs ms).take p ++ (ucs X ++ (ucs ms).drop (p + (ucs X).length)) = ucs (overL ms p X) := by
  unfold overL
  rw [ucs_app, ucs_app, ← ucs_take, ← ucs_drop, Nat.mul_one, Nat.mul_one, ucs_len]
theorem perm4 {α : Type} (g1 g2 g3 g4 : List α) : (g1 ++ (g2 ++ (g3 ++ (g4 ++ [])))).Perm (g3 ++ (g1 ++ (g2 ++ (g4 ++ [])))) := by
  have h := perm_ix [g1, g2, g3, g4] (xs := [0, 1, 2, 3]) (ys := [2, 0, 1, 3]) [] rfl
  simpa [catI] using h
theorem perm6 {α : Type} (g1 g2 g3 g4 g6 : List α) : (g1 ++ (g2 ++ (g3 ++ (g4 ++ g6)))).Perm (g6 ++ (g3 ++ (g1 ++ (g2 ++ (g4 ++ []))))) := by
  have h := perm_ix [g1, g2, g3, g4, g6] (xs := [0, 1, 2, 3, 4]) (ys := [4, 2, 0, 1, 3]) [] rfl
  simpa [catI] using h
theorem callEnd_calls (f : FrV) (L : FrL) (c : ClV) (M : ClL) (ok : Bool) (left : Nat) (l : List UInt8) (hd : c.dst < 18446744073709551616) (hleft : left < 18446744073709551616) (out : Value) (w : World) (hf : FrRows w f L) (hc : ClRows w c M) (ho : RowAt w 1 out l.length (ucs l)) :
    Calls Tryz.prog 13 #[frv f, clv c, .agg (ova ok left out)] w (RetG w [] (EndR f L c M ok left l)) := by
  have hf0 := hf
  have hc0 := hc
  have hsl0 := hf.sl
  have hFc0 := fun w' {fs : Fs} (hst : St w [] fs w') => fCheck_calls f L w' (hf0.st hst)
  have hCc0 := fun w' {fs : Fs} (hst : St w [] fs w') => callCheck_calls c M w' (hc0.st hst)
  obtain ⟨pc, cc, hcv, _, _⟩ := id hc.i.form
  obtain ⟨pc2, cc2, hcv2, _, _⟩ := id hc.c.form
  have hLd := fun w => laid_calls c ok hd w ⟨_, _, _, _, _, _, hcv, hcv2⟩
  have hzs := zero_sl
  obtain ⟨po, co, rfl, _, hmo⟩ := id ho.form
  simp only [maxLen] at hmo
  by_cases hF : okF f L
  · have hFc : ∀ w' {fs : Fs}, St w [] fs w' → Calls Tryz.prog 31 #[frv f] w' (Ret w' (.int .i64 0)) := fun w' fs hst => by have h := hFc0 w' hst; rwa [if_pos hF] at h
    by_cases hC : okC c M
    · have hCc : ∀ w' {fs : Fs}, St w [] fs w' → Calls Tryz.prog 19 #[clv c] w' (Ret w' (.int .i64 0)) := fun w' fs hst => by have h := hCc0 w' hst; rwa [if_pos hC] at h
      have hb1 := hF.1.2.2
      have hb2 := hC.2.1.1
      have hb3 := hC.2.2.1.2.1
      obtain ⟨p3, c3, hmv, _, hm3⟩ := id hf.m.form
      simp only [maxLen] at hm3
      have hmem : ∀ {E fr}, Rd Tryz.prog 22 (.cells (fra f) E fr) 3 (.slice p3 L.ms.length c3) := fun {E fr} => by rw [← hmv]; exact fr_rd3
      refine enter (args := [_, _, _]) _ [] [] Tryz.func13 rfl Tryz.ntmps13 rfl (by simp) .nil ?_
      (refine sRz ?_; apply LW.boxA; rfl; rfl; intro _; apply LW.boxA; rfl; rfl; intro _; apply LW.boxA; rfl; rfl; intro _; apply LW.allocA; rfl; intro _; refine vAz ?_; refine nNz ?_; refine CW.seq ?_; refine sRz ?_; refine ldz rfl (.tail (.tail (.tail .head))) fr_rdW ?_; apply LW.callE; rfl; rfl; infer_instance; exact .cons rfl .nil; intro w _; exact hFc w (by assumption); refine lvz (.neF rfl rfl (by omega)) ?_; refine vMz ?_; refine gTz ?_; refine ldz rfl (.tail (.tail .head)) cl_rdW ?_; refine gTz ?_; apply LW.callE; rfl; rfl; infer_instance; exact .cons rfl .nil; intro w _; exact hCc w (by assumption); refine gTz ?_; refine lvz (.neF rfl rfl (by omega)) ?_; refine pFz ?_; refine vMz ?_; refine gTz ?_; refine vFz ?_; refine gTz ?_; refine ldz rfl (.tail .head) ov_rd1 ?_; refine gTz ?_; refine vFz ?_; refine gTz ?_; refine ldz rfl (.tail (.tail .head)) cl_rd9 ?_; refine gTz ?_; refine lvz (.gtr rfl rfl) ?_; refine pFz ?_; refine vMz ?_)
      rename_i b3 b4 b5 b6
      refine LW.cut [(52, .bool (decide (¬ (left ≤ c.gas ∧ l.length ≤ 1024 ∧ f.gas + left ≤ 20000 ∧ c.pl + c.n ≤ L.ms.length)))), (3, .pointer (some ⟨b3, 0, none⟩)), (4, .pointer (some ⟨b4, 0, none⟩)), (5, .pointer (some ⟨b5, 0, none⟩)), (6, .pointer (some ⟨b6, 0, none⟩)), (7, .bool false)] [(b6, .cells (fra zeroF) 31 (0, 0)), (b5, .cells (ova ok left (.slice po l.length co)) 39 (0, 0)), (b4, .cells (cla c) 33 (0, 0)), (b3, .cells (fra f) 31 (0, 0))] ?_ ?_
      · by_cases hA : left ≤ c.gas ∧ l.length ≤ 1024 ∧ f.gas + left ≤ 20000 ∧ c.pl + c.n ≤ L.ms.length
        · rw [decide_eq_false (fun h => h hA)]
          (refine cFz ?_; refine CW.skip ?_; refine thenN ?_; refine CW.seq ?_)
          apply CW.pre
          (refine AnyW.anyM [(6, ToldR f (tellR f L 0 [laidW c ok]))] 12 mixed (by decide +kernel) ?_)
          ((try simp only [tsOf_cons, tsOf_nil, tsOf_app]); apply DW.loadO; rfl; rfl; rfl; exact WantT.none; rfl; apply TRead.tail; apply TRead.tail; apply TRead.tail; apply TRead.head; exact ancB_nil; exact fr_rdW; apply DW.loadO; rfl; rfl; rfl; exact WantT.none; rfl; apply TRead.tail; apply TRead.tail; apply TRead.head; exact ancB_nil; exact cl_rdW; refine dvz (.fieldAddr rfl rfl) ?_; apply DW.loadO; rfl; rfl; rfl; exact WantT.none; rfl; apply TRead.tail; apply TRead.head; exact ancB_nil; exact ov_rd0)
          refine DW.callW (vs' := [c.inp, c.code]) rfl rfl rfl (by (exact WantT.none)) rfl inferInstance (by (exact .cons rfl (.cons rfl .nil))) (by rw [List.flatMap_cons, blocks_clv ⟨_, _, _, hcv⟩ ⟨_, _, _, hcv2⟩]; exact List.append_nil _) (.ext hc0.i rfl (.ext hc0.c rfl .nil)) (fun w _ _ => hLd w) ?_
          ((try simp only [tsOf_cons, tsOf_nil, tsOf_app]); apply DW.layA; rfl; rfl; rfl; exact WantT.none; infer_instance; infer_instance; rfl; rfl; rfl; rfl; rfl; intro _)
          rename_i bS
          refine DW.manyW (vs' := [f.code, f.stk, f.mem, f.inp, f.back, .slice (some ⟨bS, 0, none⟩) 1 1]) rfl rfl rfl (by (exact WantT.none)) rfl inferInstance (by (exact .cons rfl (.cons rfl (.cons rfl .nil)))) (by rw [List.flatMap_cons, blocks_frv hsl0, show ([f.code, f.stk, f.mem, f.inp, f.back, .slice (some ⟨bS, 0, none⟩) 1 1] : List Value) = [f.code, f.stk, f.mem, f.inp, f.back] ++ [.slice (some ⟨bS, 0, none⟩) 1 1] from rfl, List.flatMap_append]; rfl) (.ext hf0.c rfl (.ext hf0.s rfl (.ext hf0.m rfl (.ext hf0.i rfl (.ext hf0.b rfl (.own (by decide) (by (apply TRead.head; kernel_rfl)) .nil)))))) (fun w hb hu => ?_) ?_
          · have h := Tell_calls f L 0 [laidW c ok] _ (by simp) w (row_cells (hu (bS, _) List.mem_cons_self) rfl rfl (by simp [maxLen])) (hf0.bel hb)
            rw [if_pos hF] at h
            exact h
          intro vT gT hT
          by_cases hW : L.ws.length < 64
          · have hR : tellR f L 0 [laidW c ok] = some (f.gas - 0, L.setW (L.ws ++ [laidW c ok])) := by unfold tellR; exact if_pos ⟨Nat.zero_le _, by simp; omega⟩
            rw [hR, Nat.sub_zero] at hT
            obtain ⟨a1, s1, m1, i1, x1, rfl, hfr1⟩ := hT
            have hsl1 := hfr1.sl
            ((try simp only [tsOf_cons, tsOf_nil, tsOf_app]); refine dvz (.move rfl) ?_; refine dvz (.extractN rfl rfl) ?_; refine dvz (.extractN rfl rfl) ?_; apply DW.allocA; rfl; rfl; rfl; exact WantT.none; intro _; apply DW.store; rfl; rfl; exact WantT.none; rfl; rfl; apply TSet.head; kernel_rfl; exact ancB_nil; apply fr_wrW; rfl; assumption; apply DW.nil; simp only [fsOf_cons, fsOf_nil, fsOf_app, fsOf_tsOf, fsOf_new])
            (refine vAz ?_; refine nNz ?_; refine CW.seq ?_; refine sRz ?_; refine vMz ?_; refine lvz (.notT rfl (by with_reducible rfl)) ?_; refine nNz ?_; refine cFz ?_; refine CW.skip ?_; refine thenN ?_; refine sRz ?_; refine ldz rfl .head fr_rdW ?_)
            (apply LW.callR; rfl; rfl; infer_instance; exact .cons rfl .nil; intro w hs)
            exact callCopied_calls (f.rowsG f.gas a1 s1 m1 i1 x1) (L.setW (L.ws ++ [laidW c ok])) ⟨hF.short.1, by simp [FrL.setW]; omega, hF.short.2.2.1, hF.short.2.2.2.1, hF.short.2.2.2.2⟩ w (hfr1.st hs (fun p hp => List.mem_cons_of_mem _ (List.mem_append_left _ hp)))
            rintro vo go2 ⟨c2, s2, m2, i2, x2, rfl, hfr2⟩
            change LW _ _ _ _ ((68, frv ⟨c2, f.pc, s2, m2, f.gas, f.self, f.frm, f.val, i2, x2, f.stat⟩) :: _) _
            have hsl2 : FrSl ⟨c2, f.pc, s2, m2, f.gas, f.self, f.frm, f.val, i2, x2, f.stat⟩ := hfr2.sl
            obtain ⟨g1, g2, g3, g4, g5, hp, k1, k2, k3, k4, k5⟩ := hfr2
            rename_i b8
            refine LW.perm (fs' := (g1 ++ (g2 ++ (g3 ++ (g4 ++ g5)))) ++ ((b8, .cells (fra (f.rowsG f.gas a1 s1 m1 i1 x1)) 31 (0, 0)) :: (gT ++ [(bS, .cells (wc (laidW c ok)) 29 (0, 0)), (b6, .cells (fra zeroF) 31 (0, 0)), (b5, .cells (ova ok left (.slice po l.length co)) 39 (0, 0)), (b4, .cells (cla c) 33 (0, 0)), (b3, .cells (fra f) 31 (0, 0))]))) (hp.append_right _) ?_
            refine LW.subP (fs' := (b8, .cells (fra (f.rowsG f.gas a1 s1 m1 i1 x1)) 31 (0, 0)) :: (b6, .cells (fra zeroF) 31 (0, 0)) :: (b5, .cells (ova ok left (.slice po l.length co)) 39 (0, 0)) :: (b4, .cells (cla c) 33 (0, 0)) :: (g3 ++ (g1 ++ (g2 ++ (g4 ++ []))))) ?_ ?_
            · simp only [List.append_assoc, List.cons_append, List.nil_append]
              exact subp_ix [g1, g2, g3, g4, g5, [_], gT, [_], [_], [_], [_], [_]] (xs := [5, 8, 9, 10, 2, 0, 1, 3]) (ys := [0, 1, 2, 3, 4, 5, 6, 7, 8, 9, 10, 11]) [] rfl
            unfold bM at k3
            change IsRow _ 1 m2 L.ms.length (ucs L.ms) g3 at k3
            obtain ⟨q3, kc3, rfl⟩ := id k3.form
            have hle3 := IsRow.le k3
            have hgas : (f.gas + left) % 18446744073709551616 = f.gas + left := Nat.mod_eq_of_lt (by omega)
            (apply LW.store; rfl; rfl; apply SetAt.head; apply fr_wrW; rfl; assumption; refine nSz ?_; refine vFz ?_; refine ldz rfl .head fr_rd4 ?_; refine vFz ?_; refine ldz rfl (.tail (.tail .head)) ov_rd1 ?_; refine lvz (.addN rfl rfl) ?_; refine vFz ?_; apply LW.store; rfl; rfl; apply SetAt.head; apply fr_wr4 (z := .int .u64 0); refine nSz ?_; refine vFz ?_; refine ldz rfl (.tail (.tail (.tail .head))) cl_rd13 ?_; refine vFz ?_; refine ldz rfl (.tail (.tail .head)) ov_rd2 ?_; refine lvz (.lenR rfl inferInstance rfl) ?_; refine lvz (.convN rfl (by omega) (by omega)) ?_; refine lvz (.minZ rfl rfl) ?_; refine vAz ?_; refine nNz ?_; refine CW.seq ?_)
            rw [hgas]
            rcases Nat.eq_zero_or_pos (min c.n l.length) with hz | hz
            · have hov : overL L.ms c.pl (l.take c.n) = L.ms := by
                have h1 : l.take c.n = [] := List.eq_nil_of_length_eq_zero (by rw [List.length_take]; exact hz)
                unfold overL
                rw [h1]
                simp
              apply CW.pre
              (refine AnyW.any 11 mixed (by decide +kernel) ?_)
              ((try simp only [tsOf_cons, tsOf_nil, tsOf_app]); refine dvz (.fieldAddr rfl rfl) ?_; refine dvz (.fieldAddr rfl rfl) ?_; apply DW.loadO; rfl; rfl; rfl; exact WantT.none; rfl; apply TRead.head; exact ancB_nil; exact fr_rd3; refine dvz (.fieldAddr rfl rfl) ?_; apply DW.loadO; rfl; rfl; rfl; exact WantT.none; rfl; apply TRead.tail; apply TRead.tail; apply TRead.tail; apply TRead.head; exact ancB_nil; exact cl_rd12; refine dvz (.cutFrom inferInstance inferInstance rfl rfl (by omega)) ?_; refine dvz (.fieldAddr rfl rfl) ?_; apply DW.loadO; rfl; rfl; rfl; exact WantT.none; rfl; apply TRead.tail; apply TRead.tail; apply TRead.head; exact ancB_nil; exact ov_rd2; refine dvz (.move rfl) ?_; refine dvz (.move rfl) ?_; apply DW.v0; rfl; rfl; rfl; exact WantT.none; rfl; apply ValP.cutMax; infer_instance; infer_instance; rfl; rfl; rfl; omega; omega; apply DW.nil; simp only [fsOf_cons, fsOf_nil, fsOf_app, fsOf_tsOf, fsOf_new])
              (apply LW.copyNone; rfl; rfl; infer_instance; infer_instance; infer_instance; rfl; rfl; (rw [hz]; exact Nat.zero_min _))
              (refine nNz ?_; refine CW.seq ?_; refine sRz ?_; refine vFz ?_; refine ldz rfl (.tail (.tail .head)) ov_rd2 ?_)
              (apply LW.callR; rfl; rfl; infer_instance; exact .cons rfl .nil; intro w hs)
              exact SK.Clone_calls l _ w (ho.st hs) (by omega)
              intro x3 g6 k6
              have k6' := k6
              obtain ⟨q6, kc6, rfl⟩ := k6'.form
              have hsl3 : ∀ p n q, FrSl ⟨c2, f.pc, s2, .slice q3 L.ms.length kc3, f.gas + left, f.self, f.frm, f.val, i2, .slice p n q, f.stat⟩ := fun p n q => ⟨hsl2.c, hsl2.s, ⟨_, _, _, rfl⟩, hsl2.i, ⟨_, _, _, rfl⟩⟩
              by_cases h245 : c.op = 245
              · cases ok with
                | true =>
                  have hbk : (if c.op = 245 ∧ true = true then [] else l) = ([] : List UInt8) := if_pos ⟨h245, rfl⟩
                  (refine vFz ?_; refine LW.store rfl rfl (.app .head) fr_wr12 ?_; refine nSz ?_; refine vFz ?_; refine ldz rfl (.app (.tail (.tail (.tail .head)))) cl_rd0 ?_; refine lvz (.eqT rfl rfl (by omega)) ?_; refine vMz ?_; refine gTz ?_; refine vFz ?_; refine gTz ?_; refine ldz rfl (.app (.tail (.tail .head))) ov_rd0 ?_; refine pTz ?_; refine nNz ?_; refine cTz ?_; refine CW.region ?_; refine vFz ?_; refine LW.store rfl rfl (.app .head) fr_wr12 ?_; refine nSz ?_; refine ldz rfl (.app .head) fr_rdW ?_; apply LW.store; rfl; rfl; apply SetAt.app; apply SetAt.tail; apply SetAt.head; apply fr_wrW; rfl; exact hsl3 _ _ _; refine vAz ?_; refine nNz ?_; refine CW.ret ?_)
                  refine fin (vs := [frv ⟨c2, f.pc, s2, .slice q3 L.ms.length kc3, f.gas + left, f.self, f.frm, f.val, i2, .slice none 0 0, f.stat⟩, .bool true]) (g3 ++ (g1 ++ (g2 ++ (g4 ++ [])))) (.inl rfl) rfl rfl (by (apply ResL.cons; apply Res.cell; rfl; apply Known.at; apply FsAt.app; apply FsAt.tail; apply FsAt.head; exact fr_rdW; apply ResL.cons; exact Res.tmp rfl; exact ResL.nil)) ?_ (.inl ⟨⟨hF, hC, hA, hW⟩, _, _, _, _, _, rfl, g1, g2, g3, g4, [], perm4 _ _ _ _, k1, k2, ?_, k4, ?_⟩)
                  · exact List.Sublist.trans (List.Sublist.cons _ (List.Sublist.cons _ (List.Sublist.cons _ (List.sublist_cons_self _ _)))) (List.sublist_append_right _ _)
                  · unfold endL bM; dsimp only; rw [hov]; exact k3
                  · unfold endL bM; dsimp only; rw [hbk]; exact .nil
                | false =>
                  have hbk : (if c.op = 245 ∧ false = true then [] else l) = l := if_neg (fun h => by cases h.2)
                  (refine vFz ?_; refine LW.store rfl rfl (.app .head) fr_wr12 ?_; refine nSz ?_; refine vFz ?_; refine ldz rfl (.app (.tail (.tail (.tail .head)))) cl_rd0 ?_; refine lvz (.eqT rfl rfl (by omega)) ?_; refine vMz ?_; refine gTz ?_; refine vFz ?_; refine gTz ?_; refine ldz rfl (.app (.tail (.tail .head))) ov_rd0 ?_; refine pTz ?_; refine nNz ?_; refine cFz ?_; refine CW.skip ?_; refine thenN ?_; refine sRz ?_; refine ldz rfl (.app .head) fr_rdW ?_; apply LW.store; rfl; rfl; apply SetAt.app; apply SetAt.tail; apply SetAt.head; apply fr_wrW; rfl; exact hsl3 _ _ _; refine vAz ?_; refine nNz ?_; refine CW.ret ?_)
                  refine fin (vs := [frv ⟨c2, f.pc, s2, .slice q3 L.ms.length kc3, f.gas + left, f.self, f.frm, f.val, i2, .slice q6 l.length kc6, f.stat⟩, .bool true]) (g6 ++ (g3 ++ (g1 ++ (g2 ++ (g4 ++ []))))) (.inl rfl) rfl rfl (by (apply ResL.cons; apply Res.cell; rfl; apply Known.at; apply FsAt.app; apply FsAt.tail; apply FsAt.head; exact fr_rdW; apply ResL.cons; exact Res.tmp rfl; exact ResL.nil)) ?_ (.inl ⟨⟨hF, hC, hA, hW⟩, _, _, _, _, _, rfl, g1, g2, g3, g4, g6, perm6 _ _ _ _ _, k1, k2, ?_, k4, ?_⟩)
                  · exact List.Sublist.append_left (List.Sublist.cons _ (List.Sublist.cons _ (List.Sublist.cons _ (List.sublist_cons_self _ _)))) _
                  · unfold endL bM; dsimp only; rw [hov]; exact k3
                  · unfold endL bM; dsimp only; rw [hbk]; exact k6
              · have hbk : (if c.op = 245 ∧ ok = true then [] else l) = l := if_neg (fun h => h245 h.1)
                (refine vFz ?_; refine LW.store rfl rfl (.app .head) fr_wr12 ?_; refine nSz ?_; refine vFz ?_; refine ldz rfl (.app (.tail (.tail (.tail .head)))) cl_rd0 ?_; refine lvz (.eqF rfl rfl (by omega)) ?_; refine vMz ?_; refine gFz ?_; refine gFz ?_; refine pFz ?_; refine nNz ?_; refine cFz ?_; refine CW.skip ?_; refine thenN ?_; refine sRz ?_; refine ldz rfl (.app .head) fr_rdW ?_; apply LW.store; rfl; rfl; apply SetAt.app; apply SetAt.tail; apply SetAt.head; apply fr_wrW; rfl; exact hsl3 _ _ _; refine vAz ?_; refine nNz ?_; refine CW.ret ?_)
                refine fin (vs := [frv ⟨c2, f.pc, s2, .slice q3 L.ms.length kc3, f.gas + left, f.self, f.frm, f.val, i2, .slice q6 l.length kc6, f.stat⟩, .bool true]) (g6 ++ (g3 ++ (g1 ++ (g2 ++ (g4 ++ []))))) (.inl rfl) rfl rfl (by (apply ResL.cons; apply Res.cell; rfl; apply Known.at; apply FsAt.app; apply FsAt.tail; apply FsAt.head; exact fr_rdW; apply ResL.cons; exact Res.tmp rfl; exact ResL.nil)) ?_ (.inl ⟨⟨hF, hC, hA, hW⟩, _, _, _, _, _, rfl, g1, g2, g3, g4, g6, perm6 _ _ _ _ _, k1, k2, ?_, k4, ?_⟩)
                · exact List.Sublist.append_left (List.Sublist.cons _ (List.Sublist.cons _ (List.Sublist.cons _ (List.sublist_cons_self _ _)))) _
                · unfold endL bM; dsimp only; rw [hov]; exact k3
                · unfold endL bM; dsimp only; rw [hbk]; exact k6
            · have h3 : 0 < L.ms.length := by omega
              obtain ⟨gm, cur, rfl, rfl, hn3, hm3', hsz3, htk3⟩ := k3.pos h3
              simp only [Nat.mul_one] at hsz3 htk3
              have hcl : (l.take c.n).length = min c.n l.length := by rw [List.length_take]
              have hcut := RowAt.cutMax ho (k := min c.n l.length) (by omega)
              rw [ucs_take, show l.take (min c.n l.length) = l.take c.n by rw [← List.take_take, List.take_length]] at hcut
              obtain ⟨kk, hkk⟩ : ∃ kk, kk = min c.n l.length := ⟨_, rfl⟩
              rw [← hkk] at hz hcl hcut ⊢
              have hk1 : kk ≤ c.n := by omega
              have hk2 : kk ≤ l.length := by omega
              apply CW.pre
              (refine AnyW.any 11 mixed (by decide +kernel) ?_)
              ((try simp only [tsOf_cons, tsOf_nil, tsOf_app]); refine dvz (.fieldAddr rfl rfl) ?_; refine dvz (.fieldAddr rfl rfl) ?_; apply DW.loadO; rfl; rfl; rfl; exact WantT.none; rfl; apply TRead.head; exact ancB_nil; exact fr_rd3; refine dvz (.fieldAddr rfl rfl) ?_; apply DW.loadO; rfl; rfl; rfl; exact WantT.none; rfl; apply TRead.tail; apply TRead.tail; apply TRead.tail; apply TRead.head; exact ancB_nil; exact cl_rd12; apply DW.v0; rfl; rfl; rfl; exact WantT.none; rfl; apply ValP.cutFromO; infer_instance; infer_instance; rfl; rfl; omega; omega; refine dvz (.fieldAddr rfl rfl) ?_; apply DW.loadO; rfl; rfl; rfl; exact WantT.none; rfl; apply TRead.tail; apply TRead.tail; apply TRead.head; exact ancB_nil; exact ov_rd2; refine dvz (.move rfl) ?_; refine dvz (.move rfl) ?_; apply DW.v0; rfl; rfl; rfl; exact WantT.none; rfl; apply ValP.cutMax; infer_instance; infer_instance; rfl; rfl; rfl; omega; omega; apply DW.nil; simp only [fsOf_cons, fsOf_nil, fsOf_app, fsOf_tsOf, fsOf_new])
              (apply LW.copyAt (cur := cur) (E' := 5) (m := kk) (news := ucs (l.take c.n)); rfl; rfl; infer_instance; infer_instance; infer_instance; rfl; rfl)
              · exact fun w' hst => hcut.st hst
              · exact ucs_cells _
              · omega
              · omega
              · (apply SetAt.tail; apply SetAt.tail; apply SetAt.tail; apply SetAt.tail; apply SetAt.head)
              have k7 : IsRow 5 1 (.slice (some ⟨gm, 0, none⟩) L.ms.length kc3) L.ms.length (ucs (overL L.ms c.pl (l.take c.n))) [(gm, .cells (cur.toList.take (0 + c.pl) ++ ucs (l.take c.n) ++ cur.toList.drop (0 + c.pl + kk)).toArray 5 (0, 0))] := by
                have hul : (ucs (l.take c.n)).length = kk := by rw [ucs_len, hcl]
                refine .own hn3 hm3' ?_ ?_ ?_
                · simp only [List.size_toArray, List.length_append, List.length_take, List.length_drop, Array.length_toList, hul, hsz3]
                  omega
                · rw [Nat.mul_one, Nat.zero_add, ← hul, take_over _ _ _ _ (by rw [hul]; omega) (by rw [Array.length_toList, hsz3]; exact hn3), htk3]
                  exact ucs_over _ _ _
                · rw [ucs_len, Nat.mul_one]
                  unfold overL
                  simp only [List.length_append, List.length_take, List.length_drop]
                  omega
              have hol : (overL L.ms c.pl (l.take c.n)).length = L.ms.length := by
                unfold overL
                simp only [List.length_append, List.length_take, List.length_drop]
                omega
              simp only [List.append_eq, List.nil_append]
              (refine nNz ?_; refine CW.seq ?_; refine sRz ?_; refine vFz ?_; refine ldz rfl (.tail (.tail .head)) ov_rd2 ?_)
              (apply LW.callR; rfl; rfl; infer_instance; exact .cons rfl .nil; intro w hs)
              exact SK.Clone_calls l _ w (ho.st hs) (by omega)
              intro x3 g6 k6
              have k6' := k6
              obtain ⟨q6, kc6, rfl⟩ := k6'.form
              have hsl3 : ∀ p n q, FrSl ⟨c2, f.pc, s2, .slice (some ⟨gm, 0, none⟩) L.ms.length kc3, f.gas + left, f.self, f.frm, f.val, i2, .slice p n q, f.stat⟩ := fun p n q => ⟨hsl2.c, hsl2.s, ⟨_, _, _, rfl⟩, hsl2.i, ⟨_, _, _, rfl⟩⟩
              by_cases h245 : c.op = 245
              · cases ok with
                | true =>
                  have hbk : (if c.op = 245 ∧ true = true then [] else l) = ([] : List UInt8) := if_pos ⟨h245, rfl⟩
                  (refine vFz ?_; refine LW.store rfl rfl (.app .head) fr_wr12 ?_; refine nSz ?_; refine vFz ?_; refine ldz rfl (.app (.tail (.tail (.tail .head)))) cl_rd0 ?_; refine lvz (.eqT rfl rfl (by omega)) ?_; refine vMz ?_; refine gTz ?_; refine vFz ?_; refine gTz ?_; refine ldz rfl (.app (.tail (.tail .head))) ov_rd0 ?_; refine pTz ?_; refine nNz ?_; refine cTz ?_; refine CW.region ?_; refine vFz ?_; refine LW.store rfl rfl (.app .head) fr_wr12 ?_; refine nSz ?_; refine ldz rfl (.app .head) fr_rdW ?_; apply LW.store; rfl; rfl; apply SetAt.app; apply SetAt.tail; apply SetAt.head; apply fr_wrW; rfl; exact hsl3 _ _ _; refine vAz ?_; refine nNz ?_; refine CW.ret ?_)
                  refine fin (vs := [frv ⟨c2, f.pc, s2, .slice (some ⟨gm, 0, none⟩) L.ms.length kc3, f.gas + left, f.self, f.frm, f.val, i2, .slice none 0 0, f.stat⟩, .bool true]) ([(gm, .cells (cur.toList.take (0 + c.pl) ++ ucs (l.take c.n) ++ cur.toList.drop (0 + c.pl + kk)).toArray 5 (0, 0))] ++ (g1 ++ (g2 ++ (g4 ++ [])))) (.inl rfl) rfl rfl (by (apply ResL.cons; apply Res.cell; rfl; apply Known.at; apply FsAt.app; apply FsAt.tail; apply FsAt.head; exact fr_rdW; apply ResL.cons; exact Res.tmp rfl; exact ResL.nil)) ?_ (.inl ⟨⟨hF, hC, hA, hW⟩, _, _, _, _, _, rfl, g1, g2, [(gm, .cells (cur.toList.take (0 + c.pl) ++ ucs (l.take c.n) ++ cur.toList.drop (0 + c.pl + kk)).toArray 5 (0, 0))], g4, [], perm4 _ _ _ _, k1, k2, ?_, k4, ?_⟩)
                  · exact List.Sublist.trans (List.Sublist.cons _ (List.Sublist.cons _ (List.Sublist.cons _ (List.sublist_cons_self _ _)))) (List.sublist_append_right _ _)
                  · unfold endL bM; dsimp only; rw [hol]; exact k7
                  · unfold endL bM; dsimp only; rw [hbk]; exact .nil
                | false =>
                  have hbk : (if c.op = 245 ∧ false = true then [] else l) = l := if_neg (fun h => by cases h.2)
                  (refine vFz ?_; refine LW.store rfl rfl (.app .head) fr_wr12 ?_; refine nSz ?_; refine vFz ?_; refine ldz rfl (.app (.tail (.tail (.tail .head)))) cl_rd0 ?_; refine lvz (.eqT rfl rfl (by omega)) ?_; refine vMz ?_; refine gTz ?_; refine vFz ?_; refine gTz ?_; refine ldz rfl (.app (.tail (.tail .head))) ov_rd0 ?_; refine pTz ?_; refine nNz ?_; refine cFz ?_; refine CW.skip ?_; refine thenN ?_; refine sRz ?_; refine ldz rfl (.app .head) fr_rdW ?_; apply LW.store; rfl; rfl; apply SetAt.app; apply SetAt.tail; apply SetAt.head; apply fr_wrW; rfl; exact hsl3 _ _ _; refine vAz ?_; refine nNz ?_; refine CW.ret ?_)
                  refine fin (vs := [frv ⟨c2, f.pc, s2, .slice (some ⟨gm, 0, none⟩) L.ms.length kc3, f.gas + left, f.self, f.frm, f.val, i2, .slice q6 l.length kc6, f.stat⟩, .bool true]) (g6 ++ ([(gm, .cells (cur.toList.take (0 + c.pl) ++ ucs (l.take c.n) ++ cur.toList.drop (0 + c.pl + kk)).toArray 5 (0, 0))] ++ (g1 ++ (g2 ++ (g4 ++ []))))) (.inl rfl) rfl rfl (by (apply ResL.cons; apply Res.cell; rfl; apply Known.at; apply FsAt.app; apply FsAt.tail; apply FsAt.head; exact fr_rdW; apply ResL.cons; exact Res.tmp rfl; exact ResL.nil)) ?_ (.inl ⟨⟨hF, hC, hA, hW⟩, _, _, _, _, _, rfl, g1, g2, [(gm, .cells (cur.toList.take (0 + c.pl) ++ ucs (l.take c.n) ++ cur.toList.drop (0 + c.pl + kk)).toArray 5 (0, 0))], g4, g6, perm6 _ _ _ _ _, k1, k2, ?_, k4, ?_⟩)
                  · exact List.Sublist.append_left (List.Sublist.cons _ (List.Sublist.cons _ (List.Sublist.cons _ (List.sublist_cons_self _ _)))) _
                  · unfold endL bM; dsimp only; rw [hol]; exact k7
                  · unfold endL bM; dsimp only; rw [hbk]; exact k6
              · have hbk : (if c.op = 245 ∧ ok = true then [] else l) = l := if_neg (fun h => h245 h.1)
                (refine vFz ?_; refine LW.store rfl rfl (.app .head) fr_wr12 ?_; refine nSz ?_; refine vFz ?_; refine ldz rfl (.app (.tail (.tail (.tail .head)))) cl_rd0 ?_; refine lvz (.eqF rfl rfl (by omega)) ?_; refine vMz ?_; refine gFz ?_; refine gFz ?_; refine pFz ?_; refine nNz ?_; refine cFz ?_; refine CW.skip ?_; refine thenN ?_; refine sRz ?_; refine ldz rfl (.app .head) fr_rdW ?_; apply LW.store; rfl; rfl; apply SetAt.app; apply SetAt.tail; apply SetAt.head; apply fr_wrW; rfl; exact hsl3 _ _ _; refine vAz ?_; refine nNz ?_; refine CW.ret ?_)
                refine fin (vs := [frv ⟨c2, f.pc, s2, .slice (some ⟨gm, 0, none⟩) L.ms.length kc3, f.gas + left, f.self, f.frm, f.val, i2, .slice q6 l.length kc6, f.stat⟩, .bool true]) (g6 ++ ([(gm, .cells (cur.toList.take (0 + c.pl) ++ ucs (l.take c.n) ++ cur.toList.drop (0 + c.pl + kk)).toArray 5 (0, 0))] ++ (g1 ++ (g2 ++ (g4 ++ []))))) (.inl rfl) rfl rfl (by (apply ResL.cons; apply Res.cell; rfl; apply Known.at; apply FsAt.app; apply FsAt.tail; apply FsAt.head; exact fr_rdW; apply ResL.cons; exact Res.tmp rfl; exact ResL.nil)) ?_ (.inl ⟨⟨hF, hC, hA, hW⟩, _, _, _, _, _, rfl, g1, g2, [(gm, .cells (cur.toList.take (0 + c.pl) ++ ucs (l.take c.n) ++ cur.toList.drop (0 + c.pl + kk)).toArray 5 (0, 0))], g4, g6, perm6 _ _ _ _ _, k1, k2, ?_, k4, ?_⟩)
                · exact List.Sublist.append_left (List.Sublist.cons _ (List.Sublist.cons _ (List.Sublist.cons _ (List.sublist_cons_self _ _)))) _
                · unfold endL bM; dsimp only; rw [hol]; exact k7
                · unfold endL bM; dsimp only; rw [hbk]; exact k6
          · have hR : tellR f L 0 [laidW c ok] = none := by unfold tellR; exact if_neg (fun h => hW (by have h := h.2; simp at h; omega))
            rw [hR] at hT
            obtain ⟨rfl, rfl⟩ := hT
            ((try simp only [tsOf_cons, tsOf_nil, tsOf_app]); refine dvz (.move rfl) ?_; refine dvz (.extractN rfl rfl) ?_; refine dvz (.extractN rfl rfl) ?_; apply DW.allocA; rfl; rfl; rfl; exact WantT.none; intro _; apply DW.store; rfl; rfl; exact WantT.none; rfl; rfl; apply TSet.head; kernel_rfl; exact ancB_nil; apply Wr.whole; rfl; rfl; rfl; apply DW.nil; simp only [fsOf_cons, fsOf_nil, fsOf_app, fsOf_tsOf, fsOf_new])
            (refine vAz ?_; refine nNz ?_; refine CW.seq ?_; refine sRz ?_; refine vMz ?_; refine lvz (.notF rfl (by with_reducible rfl)) ?_; refine nNz ?_; refine cTz ?_; refine sRz ?_; apply LW.v0; rfl; rfl; apply ValP.buildT; infer_instance; infer_instance; exact PartsOk.nil; rfl; simp only [fillP, wrCells, Value.cells, List.getElem?_cons_zero, List.getElem?_cons_succ, List.toList_toArray, List.setIfInBounds_toArray, List.set_cons_succ, List.set_cons_zero, Nat.reduceAdd, Nat.zero_add]; rfl; refine LW.store rfl rfl (.tail (.tail .head)) (.whole rfl rfl rfl) ?_; refine vAz ?_; refine nNz ?_; refine CW.ret ?_; refine thenR ?_)
            exact fin (vs := [frv zeroF, .bool false]) [] (.inl rfl) rfl rfl (by (apply ResL.cons; apply Res.cell; rfl; apply Known.at; apply FsAt.tail; apply FsAt.tail; apply FsAt.head; exact Rd.whole rfl; apply ResL.cons; exact Res.tmp rfl; exact ResL.nil)) (List.nil_sublist _) (.inr ⟨fun h => hW h.2.2.2, rfl, rfl⟩)
        · rw [decide_eq_true hA]
          (refine cTz ?_; refine sRz ?_; apply LW.v0; rfl; rfl; apply ValP.buildT; infer_instance; infer_instance; exact PartsOk.nil; rfl; simp only [fillP, wrCells, Value.cells, List.getElem?_cons_zero, List.getElem?_cons_succ, List.toList_toArray, List.setIfInBounds_toArray, List.set_cons_succ, List.set_cons_zero, Nat.reduceAdd, Nat.zero_add]; rfl; refine LW.store rfl rfl .head (.whole rfl rfl rfl) ?_; refine vAz ?_; refine nNz ?_; refine CW.ret ?_; refine thenR ?_)
          exact fin (vs := [frv zeroF, .bool false]) [] (.inl rfl) rfl rfl (by (apply ResL.cons; apply Res.cell; rfl; apply Known.at; apply FsAt.head; exact Rd.whole rfl; apply ResL.cons; exact Res.tmp rfl; exact ResL.nil)) (List.nil_sublist _) (.inr ⟨fun h => hA h.2.2.1, rfl, rfl⟩)
      · (refine LW.guardDF rfl rfl rfl (fun hsq hsp => ?_) (fun hsq hsp => ?_); refine vFz ?_; refine gTaz ?_; refine ldz rfl (.tail .head) ov_rd2 ?_; refine gTaz ?_; refine lvz (.lenR rfl inferInstance rfl) ?_; refine gTaz ?_; refine lvz (.gtr rfl rfl) ?_; refine pFaz ?_; refine vMz ?_; refine LW.guardDF rfl rfl rfl (fun hsq hsp => ?_) (fun hsq hsp => ?_); refine vFz ?_; refine gTaz ?_; refine ldz rfl (.tail (.tail (.tail .head))) fr_rd4 ?_; refine gTaz ?_; refine vFz ?_; refine gTaz ?_; refine ldz rfl (.tail .head) ov_rd1 ?_; refine gTaz ?_; refine lvz (.addN rfl rfl) ?_; refine gTaz ?_; refine lvz (.gtr rfl rfl) ?_; refine pFaz ?_; refine vMz ?_; refine LW.guardDF rfl rfl rfl (fun hsq hsp => ?_) (fun hsq hsp => ?_); refine vFz ?_; refine gTaz ?_; refine ldz rfl (.tail (.tail .head)) cl_rd12 ?_; refine gTaz ?_; refine vFz ?_; refine gTaz ?_; refine ldz rfl (.tail (.tail .head)) cl_rd13 ?_; refine gTaz ?_; refine lvz (.addN rfl rfl) ?_; refine gTaz ?_; refine vFz ?_; refine gTaz ?_; refine vFz ?_; refine gTaz ?_; refine ldz rfl (.tail (.tail (.tail .head))) hmem ?_; refine gTaz ?_; refine lvz (.lenR rfl inferInstance rfl) ?_; refine gTaz ?_; refine lvz (.convN rfl (by omega) (by omega)) ?_; refine gTaz ?_; refine lvz (.gtr rfl rfl) ?_; refine pFaz ?_; apply LW.nil; refine cutI rfl ⟨getB rfl ?_, rfl, rfl, rfl, rfl, rfl, trivial⟩ ?_; exact decide_eq_decide.2 (by omega); exact List.Sublist.refl _; (iterate 10 refine gFaz ?_); refine pTaz ?_; apply LW.nil; refine cutI rfl ⟨getB rfl ?_, rfl, rfl, rfl, rfl, rfl, trivial⟩ ?_; exact (decide_eq_true (by omega)).symm; exact List.Sublist.refl _; (iterate 5 refine gFaz ?_); refine pTaz ?_; refine vMz ?_; (iterate 11 refine gFz ?_); refine pTz ?_; apply LW.nil; refine cutI rfl ⟨getB rfl ?_, rfl, rfl, rfl, rfl, rfl, trivial⟩ ?_; exact (decide_eq_true (by omega)).symm; exact List.Sublist.refl _; (iterate 3 refine gFaz ?_); refine pTaz ?_; refine vMz ?_; (iterate 6 refine gFz ?_); refine pTz ?_; refine vMz ?_; (iterate 11 refine gFz ?_); refine pTz ?_; apply LW.nil; refine cutI rfl ⟨getB rfl ?_, rfl, rfl, rfl, rfl, rfl, trivial⟩ ?_; exact (decide_eq_true (by omega)).symm; exact List.Sublist.refl _)
    · have hCc : ∀ w' {fs : Fs}, St w [] fs w' → Calls Tryz.prog 19 #[clv c] w' (Ret w' (.int .i64 250)) := fun w' fs hst => by have h := hCc0 w' hst; rwa [if_neg hC] at h
      refine enter (args := [_, _, _]) _ [] [] Tryz.func13 rfl Tryz.ntmps13 rfl (by simp) .nil ?_
      (refine sRz ?_; apply LW.boxA; rfl; rfl; intro _; apply LW.boxA; rfl; rfl; intro _; apply LW.boxA; rfl; rfl; intro _; apply LW.allocA; rfl; intro _; refine vAz ?_; refine nNz ?_; refine CW.seq ?_; refine sRz ?_; refine ldz rfl (.tail (.tail (.tail .head))) fr_rdW ?_; apply LW.callE; rfl; rfl; infer_instance; exact .cons rfl .nil; intro w _; exact hFc w (by assumption); refine lvz (.neF rfl rfl (by omega)) ?_; refine vMz ?_; refine gTz ?_; refine ldz rfl (.tail (.tail .head)) cl_rdW ?_; refine gTz ?_; apply LW.callE; rfl; rfl; infer_instance; exact .cons rfl .nil; intro w _; exact hCc w (by assumption); refine gTz ?_; refine lvz (.neT rfl rfl (by omega)) ?_; refine pFz ?_; refine vMz ?_; (iterate 5 refine gFz ?_); refine pTz ?_; refine vMz ?_; (iterate 4 refine gFz ?_); refine pTz ?_; refine vMz ?_; (iterate 6 refine gFz ?_); refine pTz ?_; refine vMz ?_; (iterate 11 refine gFz ?_); refine pTz ?_; refine nNz ?_; refine cTz ?_; refine sRz ?_; apply LW.v0; rfl; rfl; apply ValP.buildT; infer_instance; infer_instance; exact PartsOk.nil; rfl; simp only [fillP, wrCells, Value.cells, List.getElem?_cons_zero, List.getElem?_cons_succ, List.toList_toArray, List.setIfInBounds_toArray, List.set_cons_succ, List.set_cons_zero, Nat.reduceAdd, Nat.zero_add]; rfl; refine LW.store rfl rfl .head (.whole rfl rfl rfl) ?_; refine vAz ?_; refine nNz ?_; refine CW.ret ?_; refine thenR ?_)
      exact fin (vs := [frv zeroF, .bool false]) [] (.inl rfl) rfl rfl (by (apply ResL.cons; apply Res.cell; rfl; apply Known.at; apply FsAt.head; exact Rd.whole rfl; apply ResL.cons; exact Res.tmp rfl; exact ResL.nil)) (List.nil_sublist _) (.inr ⟨fun h => hC h.2.1, rfl, rfl⟩)
  · have hFc : ∀ w' {fs : Fs}, St w [] fs w' → Calls Tryz.prog 31 #[frv f] w' (Ret w' (.int .i64 240)) := fun w' fs hst => by have h := hFc0 w' hst; rwa [if_neg hF] at h
    refine enter (args := [_, _, _]) _ [] [] Tryz.func13 rfl Tryz.ntmps13 rfl (by simp) .nil ?_
    (refine sRz ?_; apply LW.boxA; rfl; rfl; intro _; apply LW.boxA; rfl; rfl; intro _; apply LW.boxA; rfl; rfl; intro _; apply LW.allocA; rfl; intro _; refine vAz ?_; refine nNz ?_; refine CW.seq ?_; refine sRz ?_; refine ldz rfl (.tail (.tail (.tail .head))) fr_rdW ?_; apply LW.callE; rfl; rfl; infer_instance; exact .cons rfl .nil; intro w _; exact hFc w (by assumption); refine lvz (.neT rfl rfl (by omega)) ?_; refine vMz ?_; (iterate 3 refine gFz ?_); refine pTz ?_; refine vMz ?_; (iterate 5 refine gFz ?_); refine pTz ?_; refine vMz ?_; (iterate 4 refine gFz ?_); refine pTz ?_; refine vMz ?_; (iterate 6 refine gFz ?_); refine pTz ?_; refine vMz ?_; (iterate 11 refine gFz ?_); refine pTz ?_; refine nNz ?_; refine cTz ?_; refine sRz ?_; apply LW.v0; rfl; rfl; apply ValP.buildT; infer_instance; infer_instance; exact PartsOk.nil; rfl; simp only [fillP, wrCells, Value.cells, List.getElem?_cons_zero, List.getElem?_cons_succ, List.toList_toArray, List.setIfInBounds_toArray, List.set_cons_succ, List.set_cons_zero, Nat.reduceAdd, Nat.zero_add]; rfl; refine LW.store rfl rfl .head (.whole rfl rfl rfl) ?_; refine vAz ?_; refine nNz ?_; refine CW.ret ?_; refine thenR ?_)
    exact fin (vs := [frv zeroF, .bool false]) [] (.inl rfl) rfl rfl (by (apply ResL.cons; apply Res.cell; rfl; apply Known.at; apply FsAt.head; exact Rd.whole rfl; apply ResL.cons; exact Res.tmp rfl; exact ResL.nil)) (List.nil_sublist _) (.inr ⟨fun h => hF h.1, rfl, rfl⟩)
end Go.Proofs.YtpgdnfgjbhdbpaaGreatDoor

/-
  The ends of calls, in the document's words.
  Conditions: none.
-/
namespace Go.Proofs.YtpgdnfgjbhdbpaaGreatDoor
open Go Go.RowKit SL
set_option maxRecDepth 8000
set_option maxHeartbeats 4000000
set_option linter.unusedSimpArgs false
set_option linter.unusedVariables false
attribute [local irreducible] SL.CW SL.LW SL.DW Calls SL.Ret SL.RetG SL.beginQ SL.roundQ SL.rangeQ SL.inQ SL.RW SL.AnyW SL.thenQ SL.thenC SL.thenW SL.blkQ SL.finQ SL.ValP SL.NewP SL.SetP SL.CallP SL.Rd SL.Wr SL.Known
theorem permF {α : Type} (g1 gs2 seg g4 : List α) : (g1 ++ (gs2 ++ (seg ++ (g4 ++ [])))).Perm (gs2 ++ (seg ++ (g1 ++ (g4 ++ [])))) := by
  have h := perm_ix [g1, gs2, seg, g4] (xs := [0, 1, 2, 3]) (ys := [1, 2, 0, 3]) [] rfl
  simpa [catI] using h
theorem over_len {ms X : List UInt8} {p : Nat} (h : p + X.length ≤ ms.length) : (overL ms p X).length = ms.length := by
  unfold overL
  simp only [List.length_append, List.length_take, List.length_drop]
  omega
end Go.Proofs.YtpgdnfgjbhdbpaaGreatDoor
