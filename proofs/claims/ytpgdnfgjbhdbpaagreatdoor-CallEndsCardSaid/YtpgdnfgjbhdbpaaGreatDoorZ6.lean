/-
  Texts that were built apart, put behind one another (6 of 6): NU NV NW NX NY NZ.
  Conditions: none.
-/
import Derived.Test.YtpgdnfgjbhdbpaaGreatDoorZ5
/-
  Frames that can be gone through, in memory of their own.
  Conditions: none.
-/
namespace Go.Proofs.YtpgdnfgjbhdbpaaGreatDoor
open Go Go.RowKit SL
set_option maxRecDepth 8000
set_option maxHeartbeats 4000000
set_option linter.unusedSimpArgs false
set_option linter.unusedVariables false
attribute [local irreducible] SL.CW SL.LW SL.DW Calls SL.Ret SL.RetG SL.beginQ SL.roundQ SL.rangeQ SL.inQ SL.RW SL.AnyW SL.thenQ SL.thenC SL.thenW SL.blkQ SL.finQ SL.ValP SL.NewP SL.SetP SL.CallP SL.Rd SL.Wr SL.Known
def fewF (L : FrL) : FrL := ⟨L.cl.take 300, L.ws.take 70, L.ms.take 1100, L.il.take 1100, L.bl.take 1100⟩
def FairR (f : FrV) (L : FrL) (v : Value) (gs : Fs) : Prop := ∃ c s m i b, v = frv (f.rows c s m i b) ∧ FrO (f.rows c s m i b) (fewF L) gs
theorem fair_calls (f : FrV) (L : FrL) (w : World) (h : FrRows w f L) : Calls Tryz.prog 10 #[frv f] w (RetG w [] (FairR f L)) := by
  obtain ⟨code, pc, stk, mem, gas, self, frm, val, inp, back, stat⟩ := f
  obtain ⟨h0, h2, h3, h11, h12⟩ := h
  dsimp only at h0 h2 h3 h11 h12
  obtain ⟨p0, c0, rfl, hle0, hm0⟩ := id h0.form
  obtain ⟨p2, c2, rfl, hle2, hm2⟩ := id h2.form
  obtain ⟨p3, c3, rfl, hle3, hm3⟩ := id h3.form
  obtain ⟨p11, c11, rfl, hle11, hm11⟩ := id h11.form
  obtain ⟨p12, c12, rfl, hle12, hm12⟩ := id h12.form
  simp only [maxLen] at hm0 hm2 hm3 hm11 hm12
  have hf0 := row_few h0 (k := 300) rfl
  have hf2 := row_fewW h2 (k := 70) rfl
  have hf3 := row_few h3 (k := 1100) rfl
  have hf11 := row_few h11 (k := 1100) rfl
  have hf12 := row_few h12 (k := 1100) rfl
  have hl0 : (L.cl.take 300).length ≤ 100000 := by rw [List.length_take]; omega
  have hl2 : (L.ws.take 70).length ≤ 100000 := by rw [List.length_take]; omega
  have hl3 : (L.ms.take 1100).length ≤ 100000 := by rw [List.length_take]; omega
  have hl11 : (L.il.take 1100).length ≤ 100000 := by rw [List.length_take]; omega
  have hl12 : (L.bl.take 1100).length ≤ 100000 := by rw [List.length_take]; omega
  refine enter (args := [_]) _ [] [] Tryz.func10 rfl Tryz.ntmps10 rfl (by simp) .nil ?_
  (refine sRz ?_; apply LW.boxA; rfl; rfl; intro _; apply LW.allocA; rfl; intro _; refine nNz ?_; refine CW.seq ?_)
  apply CW.pre
  (refine AnyW.anyM [(7, bM (L.cl.take 300)), (15, bM (L.il.take 1100)), (23, bM (L.bl.take 1100))] 25 mixed (by decide +kernel) ?_)
  ((try simp only [tsOf_cons, tsOf_nil, tsOf_app]); refine dvz (.fieldAddr rfl rfl) ?_; apply DW.loadO; rfl; rfl; rfl; exact WantT.none; rfl; apply TRead.tail; apply TRead.head; exact ancB_nil; exact fr_rd0; refine dvz (.fieldAddr rfl rfl) ?_; apply DW.loadO; rfl; rfl; rfl; exact WantT.none; rfl; apply TRead.tail; apply TRead.head; exact ancB_nil; exact fr_rd0; refine dvz (.lenR rfl inferInstance rfl) ?_; refine dvz (.minZL rfl rfl (by decide)) ?_; refine dvz (.cutTo inferInstance inferInstance rfl rfl (by omega)) ?_)
  (apply DW.manyV; rfl; rfl; rfl; exact WantT.none; rfl; infer_instance; exact .cons rfl .nil; apply RdV.ext; assumption; rfl; exact RdV.nil; intro w _ _)
  exact SK.Clone_calls _ _ w (hf0.bel (by assumption)) hl0
  intro v1 g1 h1
  ((try simp only [tsOf_cons, tsOf_nil, tsOf_app]); refine dvz (.fieldAddr rfl rfl) ?_; apply DW.loadO; rfl; rfl; rfl; exact WantT.none; rfl; apply TRead.app; apply TRead.tail; apply TRead.head; exact ancB_nil; exact fr_rd11; refine dvz (.fieldAddr rfl rfl) ?_; apply DW.loadO; rfl; rfl; rfl; exact WantT.none; rfl; apply TRead.app; apply TRead.tail; apply TRead.head; exact ancB_nil; exact fr_rd11; refine dvz (.lenR rfl inferInstance rfl) ?_; refine dvz (.minZL rfl rfl (by decide)) ?_; refine dvz (.cutTo inferInstance inferInstance rfl rfl (by omega)) ?_)
  (apply DW.manyV; rfl; rfl; rfl; exact WantT.none; rfl; infer_instance; exact .cons rfl .nil; apply RdV.ext; assumption; rfl; exact RdV.nil; intro w _ _)
  exact SK.Clone_calls _ _ w (hf11.bel (by assumption)) hl11
  intro v4 g4 h4
  ((try simp only [tsOf_cons, tsOf_nil, tsOf_app]); refine dvz (.fieldAddr rfl rfl) ?_; apply DW.loadO; rfl; rfl; rfl; exact WantT.none; rfl; apply TRead.app; apply TRead.app; apply TRead.tail; apply TRead.head; exact ancB_nil; exact fr_rd12; refine dvz (.fieldAddr rfl rfl) ?_; apply DW.loadO; rfl; rfl; rfl; exact WantT.none; rfl; apply TRead.app; apply TRead.app; apply TRead.tail; apply TRead.head; exact ancB_nil; exact fr_rd12; refine dvz (.lenR rfl inferInstance rfl) ?_; refine dvz (.minZL rfl rfl (by decide)) ?_; refine dvz (.cutTo inferInstance inferInstance rfl rfl (by omega)) ?_)
  (apply DW.manyV; rfl; rfl; rfl; exact WantT.none; rfl; infer_instance; exact .cons rfl .nil; apply RdV.ext; assumption; rfl; exact RdV.nil; intro w _ _)
  exact SK.Clone_calls _ _ w (hf12.bel (by assumption)) hl12
  intro v5 g5 h5
  have h1' := h1
  have h4' := h4
  have h5' := h5
  unfold bM at h1' h4' h5'
  obtain ⟨q1, k1, rfl⟩ := h1'.form
  obtain ⟨q4, k4, rfl⟩ := h4'.form
  obtain ⟨q5, k5, rfl⟩ := h5'.form
  ((try simp only [tsOf_cons, tsOf_nil, tsOf_app]); refine dvz (.fieldAddr rfl rfl) ?_; apply DW.nil; simp only [fsOf_cons, fsOf_nil, fsOf_app, fsOf_tsOf, fsOf_new, fsOf_tag])
  (refine LW.store rfl rfl (.app (.app (.app (.tail .head)))) fr_wr0 ?_; refine vFz ?_; refine LW.store rfl rfl (.app (.app (.app (.tail .head)))) fr_wr11 ?_; refine vFz ?_; refine LW.store rfl rfl (.app (.app (.app (.tail .head)))) fr_wr12 ?_; refine nNz ?_; refine CW.seq ?_)
  apply CW.pre
  (refine AnyW.anyM [(9, wM (L.ws.take 70)), (19, bM (L.ms.take 1100))] 22 mixed (by decide +kernel) ?_)
  ((try simp only [tsOf_cons, tsOf_nil, tsOf_app]); refine dvz (.fieldAddr rfl rfl) ?_; refine dvz (.fieldAddr rfl rfl) ?_; apply DW.loadO; rfl; rfl; rfl; exact WantT.none; rfl; apply TRead.app; apply TRead.app; apply TRead.app; apply TRead.tail; apply TRead.head; exact ancB_nil; exact fr_rd2s; refine dvz (.fieldAddr rfl rfl) ?_; refine dvz (.fieldAddr rfl rfl) ?_; apply DW.loadO; rfl; rfl; rfl; exact WantT.none; rfl; apply TRead.app; apply TRead.app; apply TRead.app; apply TRead.tail; apply TRead.head; exact ancB_nil; exact fr_rd2s; refine dvz (.lenR rfl inferInstance rfl) ?_; refine dvz (.minZL rfl rfl (by decide)) ?_; refine dvz (.cutTo inferInstance inferInstance rfl rfl (by omega)) ?_)
  (apply DW.manyV; rfl; rfl; rfl; exact WantT.none; rfl; infer_instance; exact .cons rfl .nil; apply RdV.ext; assumption; rfl; exact RdV.nil; intro w _ _)
  exact CloneW_calls _ _ w (hf2.bel (by assumption)) hl2
  intro v2 g2 hh2
  ((try simp only [tsOf_cons, tsOf_nil, tsOf_app]); refine dvz (.fieldAddr rfl rfl) ?_; refine dvz (.fieldAddr rfl rfl) ?_; apply DW.loadO; rfl; rfl; rfl; exact WantT.none; rfl; apply TRead.app; apply TRead.app; apply TRead.app; apply TRead.app; apply TRead.tail; apply TRead.head; exact ancB_nil; exact fr_rd3; refine dvz (.fieldAddr rfl rfl) ?_; refine dvz (.fieldAddr rfl rfl) ?_; apply DW.loadO; rfl; rfl; rfl; exact WantT.none; rfl; apply TRead.app; apply TRead.app; apply TRead.app; apply TRead.app; apply TRead.tail; apply TRead.head; exact ancB_nil; exact fr_rd3; refine dvz (.lenR rfl inferInstance rfl) ?_; refine dvz (.minZL rfl rfl (by decide)) ?_; refine dvz (.cutTo inferInstance inferInstance rfl rfl (by omega)) ?_)
  (apply DW.manyV; rfl; rfl; rfl; exact WantT.none; rfl; infer_instance; exact .cons rfl .nil; apply RdV.ext; assumption; rfl; exact RdV.nil; intro w _ _)
  exact SK.Clone_calls _ _ w (hf3.bel (by assumption)) hl3
  intro v3 g3 hh3
  have h2' := hh2
  have h3' := hh3
  unfold wM at h2'
  unfold bM at h3'
  obtain ⟨q2, k2, rfl⟩ := h2'.form
  obtain ⟨q3, k3, rfl⟩ := h3'.form
  ((try simp only [tsOf_cons, tsOf_nil, tsOf_app]); refine dvz (.fieldAddr rfl rfl) ?_; refine dvz (.fieldAddr rfl rfl) ?_; apply DW.nil; simp only [fsOf_cons, fsOf_nil, fsOf_app, fsOf_tsOf, fsOf_new, fsOf_tag])
  have hsl : FrSl ⟨.slice q1 (L.cl.take 300).length k1, pc, .slice q2 (L.ws.take 70).length k2, .slice q3 (L.ms.take 1100).length k3, gas, self, frm, val, .slice q4 (L.il.take 1100).length k4, .slice q5 (L.bl.take 1100).length k5, stat⟩ := ⟨⟨_, _, _, rfl⟩, ⟨_, _, _, rfl⟩, ⟨_, _, _, rfl⟩, ⟨_, _, _, rfl⟩, ⟨_, _, _, rfl⟩⟩
  (refine LW.store rfl rfl (.app (.app (.app (.app (.app (.tail .head)))))) fr_wr2 ?_; refine vFz ?_; refine vFz ?_; refine LW.store rfl rfl (.app (.app (.app (.app (.app (.tail .head)))))) fr_wr3 ?_; refine nSz ?_; refine ldz rfl (.app (.app (.app (.app (.app (.tail .head)))))) fr_rdW ?_; apply LW.store; rfl; rfl; apply SetAt.app; apply SetAt.app; apply SetAt.app; apply SetAt.app; apply SetAt.app; apply SetAt.head; apply fr_wrW; rfl; assumption; refine nNz ?_; refine CW.ret ?_)
  refine fin (vs := [frv ⟨.slice q1 (L.cl.take 300).length k1, pc, .slice q2 (L.ws.take 70).length k2, .slice q3 (L.ms.take 1100).length k3, gas, self, frm, val, .slice q4 (L.il.take 1100).length k4, .slice q5 (L.bl.take 1100).length k5, stat⟩]) (g3 ++ (g2 ++ (g5 ++ (g4 ++ g1)))) (.inl rfl) rfl rfl (by (apply ResL.cons; apply Res.cell; rfl; apply Known.at; apply FsAt.app; apply FsAt.app; apply FsAt.app; apply FsAt.app; apply FsAt.app; apply FsAt.head; exact fr_rdW; exact ResL.nil)) ?_ ⟨_, _, _, _, _, rfl, g1, g2, g3, g4, g5, ?_, h1, hh2, hh3, h4, h5⟩
  · exact List.Sublist.append_left (List.Sublist.append_left (List.Sublist.append_left (List.Sublist.append_left (List.sublist_append_left _ _) _) _) _) _
  · exact perm5 g1 g2 g3 g4 g5
end Go.Proofs.YtpgdnfgjbhdbpaaGreatDoor

/-
  Rows of calls; what is read in drawn regions.
  Conditions: none.
-/
namespace Go.Proofs.YtpgdnfgjbhdbpaaGreatDoor
open Go Go.RowKit SL
set_option maxRecDepth 8000
set_option maxHeartbeats 4000000
set_option linter.unusedSimpArgs false
set_option linter.unusedVariables false
attribute [local irreducible] SL.CW SL.LW SL.DW Calls SL.Ret SL.RetG SL.beginQ SL.roundQ SL.rangeQ SL.inQ SL.RW SL.AnyW SL.thenQ SL.thenC SL.thenW SL.blkQ SL.finQ SL.ValP SL.NewP SL.SetP SL.CallP SL.Rd SL.Wr SL.Known
theorem ClO.lie {c : ClV} {L : ClL} {gs : Fs} (h : ClO c L gs) : ∃ us : Fs, blocksN 4 (clv c) = us.map (·.1) ∧ (∀ p ∈ us, p ∈ gs) ∧ ∀ w : World, (∀ p ∈ us, w.heap[p.1]? = some p.2) → ClRows w c L := by
  obtain ⟨g1, g2, rfl, h1, h2⟩ := h
  unfold bM at h1 h2
  obtain ⟨q1, k1, e1⟩ := h1.form
  obtain ⟨q2, k2, e2⟩ := h2.form
  obtain ⟨u1, a1, b1, c1⟩ := rowU_own h1
  obtain ⟨u2, a2, b2, c2⟩ := rowU_own h2
  refine ⟨u1 ++ u2, ?_, fun p hp => ?_, fun w hw => ⟨c1 w fun p h => hw p (by simp [h]), c2 w fun p h => hw p (by simp [h])⟩⟩
  · rw [blocks_clv ⟨_, _, _, e1⟩ ⟨_, _, _, e2⟩]
    simp [a1, a2]
  · rcases List.mem_append.1 hp with h | h
    · exact List.mem_append_right _ (b1 p h)
    · exact List.mem_append_left _ (b2 p h)
theorem ClO.us {c : ClV} {L : ClL} {gs : Fs} {w : World} (h : ClO c L gs) (hw : ∀ p ∈ gs, w.heap[p.1]? = some p.2) : ClRows w c L := by
  obtain ⟨us, _, hm, hr⟩ := h.lie
  exact hr w fun p hp => hw p (hm p hp)
theorem ClO.cells {c : ClV} {L : ClL} {gs : Fs} (h : ClO c L gs) : (cla c).toList.all Value.oneCell' = true := by
  obtain ⟨g1, g2, rfl, h1, h2⟩ := h
  unfold bM at h1 h2
  obtain ⟨q1, k1, e1⟩ := h1.form
  obtain ⟨q2, k2, e2⟩ := h2.form
  exact cl_cells ⟨_, _, _, e1⟩ ⟨_, _, _, e2⟩
theorem ClRows.cells {c : ClV} {L : ClL} {w : World} (h : ClRows w c L) : (cla c).toList.all Value.oneCell' = true := by
  obtain ⟨q1, k1, e1, _⟩ := h.i.form
  obtain ⟨q2, k2, e2, _⟩ := h.c.form
  exact cl_cells ⟨_, _, _, e1⟩ ⟨_, _, _, e2⟩
theorem ClRows.blocks {c : ClV} {L : ClL} {w : World} (h : ClRows w c L) : [clv c].flatMap (blocksN 4) = [c.inp, c.code].flatMap (blocksN 4) := by
  obtain ⟨q1, k1, e1, _⟩ := h.i.form
  obtain ⟨q2, k2, e2, _⟩ := h.c.form
  rw [List.flatMap_cons, blocks_clv ⟨_, _, _, e1⟩ ⟨_, _, _, e2⟩]
  exact List.append_nil _
theorem st_ou {w0 w : World} {S : List Nat} {fs gs : Fs} (hs : St w0 S fs w) (h : List.Sublist gs fs) : ∀ p ∈ gs, w.heap[p.1]? = some p.2 := fun p hp => (hs.own p (h.subset hp)).2
/-- Numbers in their bounds. -/
structure ClNum (c : ClV) : Prop where
  val : c.val < M256
  n : c.n < 18446744073709551616
  pl : c.pl < 18446744073709551616
  gas : c.gas < 18446744073709551616
  self : c.self < 18446744073709551616
  frm : c.frm < 18446744073709551616
/-- The same call, but for where its rows lie. -/
def LikeC (x y : ClV) : Prop := ∃ i k, y = { x with inp := i, code := k }
theorem CalledR.like {x : ClV} {X : ClL} {v : Value} {gs : Fs} (h : CalledR x X v gs) : ∃ y, v = clv y ∧ ClO y (fewC X) gs ∧ LikeC x y := by
  obtain ⟨i, k, rfl, h⟩ := h
  exact ⟨_, rfl, h, i, k, rfl⟩
theorem LikeC.num {x y : ClV} (h : LikeC x y) (hx : ClNum x) : ClNum y := by
  obtain ⟨i, k, rfl⟩ := h
  exact ⟨hx.val, hx.n, hx.pl, hx.gas, hx.self, hx.frm⟩
theorem LikeC.same {x y z : ClV} {L : ClL} (h : LikeC x y) (h2 : LikeC x z) : sameC y L z L := by
  obtain ⟨i, k, rfl⟩ := h
  obtain ⟨i2, k2, rfl⟩ := h2
  exact ⟨rfl, rfl, rfl, rfl, rfl, rfl, rfl, rfl, rfl, rfl, rfl, rfl⟩
theorem StaR.like {x y z : ClV} {L : ClL} {pl : List UInt8} {a b v : Value} {gs : Fs} (h : LikeC x y) (h2 : LikeC x z) (hs : StaR a b z L (progL z L pl) v gs) : StaR a b y L (progL y L pl) v gs := by
  obtain ⟨i, k, rfl⟩ := h
  obtain ⟨i2, k2, rfl⟩ := h2
  exact hs
theorem zeroF_num : FrNum zeroF zeroL := ⟨by decide, by decide, by decide, by decide, fun x hx => by cases hx⟩
theorem FrO.us {f : FrV} {L : FrL} {gs : Fs} {w : World} (h : FrO f L gs) (hw : ∀ p ∈ gs, w.heap[p.1]? = some p.2) : FrRows w f L := h.rows hw
theorem zeroC_o : ClO zeroC ⟨[], []⟩ [] := ⟨[], [], rfl, .nil, .nil⟩
def clp (p : ClV × ClL) : List Value := clc p.1
/-- A row of calls that may be read. -/
structure ClsAt (w : World) (v : Value) (l : List (ClV × ClL)) : Prop where
  row : RowAt w 15 v l.length (l.flatMap clp)
  at_ : ∀ p ∈ l, ClRows w p.1 p.2 ∧ ClNum p.1
theorem markAll_tag {k : Nat} {ws rs : List Nat} {g : Fs} : markAll k (tsTag ws rs g) = tsTag ws (k :: rs) g := by simp [markAll, tsTag]
theorem markAll_new {k j : Nat} {g : Fs} : markAll k (tsNew j g) = tsTag [j] [k] g := by simp [markAll, tsTag, tsNew]
/-- Facts that an operation may read: whoever wrote them is done. -/
def AncT (ops : Array Oper) (k : Nat) (ts : Ts) : Prop := ∀ q ∈ ts, ancB ops k q.2.2.1 = true
section anc
variable {ops : Array Oper} {k j : Nat} {s ts : Ts} {gs : Fs} {b : Nat} {o : Obj} {ws rs : List Nat}
theorem AncT.nil : AncT ops k [] := fun q h => by cases h
theorem AncT.cons (h : ancB ops k ws = true) (ht : AncT ops k ts) : AncT ops k ((b, o, ws, rs) :: ts) := fun q hq => by
  rcases List.mem_cons.1 hq with rfl | hq
  · exact h
  · exact ht q hq
theorem AncT.app (h : AncT ops k s) (ht : AncT ops k ts) : AncT ops k (s ++ ts) := fun q hq => by
  rcases List.mem_append.1 hq with hq | hq
  · exact h q hq
  · exact ht q hq
theorem AncT.tsOf : AncT ops k (tsOf gs) := fun q hq => by
  obtain ⟨p, _, rfl⟩ := List.mem_map.1 (show q ∈ gs.map _ from hq)
  exact anc_nil
theorem AncT.tag (h : ancB ops k ws = true) : AncT ops k (tsTag ws rs gs) := fun q hq => by
  obtain ⟨p, _, rfl⟩ := List.mem_map.1 (show q ∈ gs.map _ from hq)
  exact h
theorem AncT.new (h : ancB ops k [j] = true) : AncT ops k (tsNew j gs) := fun q hq => by
  obtain ⟨p, _, rfl⟩ := List.mem_map.1 (show q ∈ gs.map _ from hq)
  exact h
theorem AncT.mark (h : AncT ops k ts) : AncT ops k (markAll j ts) := fun q hq => by
  obtain ⟨p, hp, rfl⟩ := List.mem_map.1 (show q ∈ ts.map _ from hq)
  exact h p hp
theorem AncT.lie {C : Cu} {p : Nat × Obj} (h : AncT ops k ts) (hp : p ∈ fsOf ts) : Lie C ops k ts p := by
  obtain ⟨q, hq, rfl⟩ := List.mem_map.1 (show p ∈ ts.map _ from hp)
  exact .inl ⟨q.2.2.1, q.2.2.2, hq, h q hq⟩
end anc
end Go.Proofs.YtpgdnfgjbhdbpaaGreatDoor

/-
  Which calls may be, are the same, and the frames in which they begin: the law.
  Conditions: none.
-/
namespace Go.Proofs.YtpgdnfgjbhdbpaaGreatDoor
open Go Go.RowKit SL
set_option maxRecDepth 8000
set_option maxHeartbeats 4000000
set_option linter.unusedSimpArgs false
set_option linter.unusedVariables false
attribute [local irreducible] SL.CW SL.LW SL.DW Calls SL.Ret SL.RetG SL.beginQ SL.roundQ SL.rangeQ SL.inQ SL.RW SL.AnyW SL.thenQ SL.thenC SL.thenW SL.blkQ SL.finQ SL.ValP SL.NewP SL.SetP SL.CallP SL.Rd SL.Wr SL.Known
end Go.Proofs.YtpgdnfgjbhdbpaaGreatDoor

/-
  Arguments of the laws on calls, opened.
  Conditions: none.
-/
namespace Go.Proofs.YtpgdnfgjbhdbpaaGreatDoor
open Go Go.RowKit SL
open Go.ChangeShapes Go.WideShapes
set_option linter.unusedVariables false
section op
variable {w : World}
theorem pair_is {f r : Ty} {cs : List Value} (h : (Ty.pair f r).is w cs) : ∃ a b, cs = a ++ b ∧ f.is w a ∧ r.is w b := ⟨_, _, (List.take_append_drop _ cs).symm, h.1, h.2⟩
theorem is_u64 {cs : List Value} (h : (Ty.int .u64).is w cs) : ∃ n : Nat, n < 18446744073709551616 ∧ cs = [.int .u64 (n : Int)] := by
  obtain ⟨n, rfl, hn⟩ := h
  obtain ⟨k, rfl, hk⟩ := wf_u64 hn
  exact ⟨k, hk, rfl⟩
theorem is_byte {cs : List Value} (h : (Ty.int .u8).is w cs) : ∃ n : Nat, cs = [.int .u8 (n : Int)] := by
  obtain ⟨u, _, rfl⟩ := is_u8 h
  exact ⟨u.toNat, rfl⟩
def tyBs : Ty := .sl (.int .u8)
def tyCl : Ty := .pair (.int .u8) (.pair (.int .u64) (.pair (.int .u64) (.pair (.int .u64) (.pair .word (.pair .bool (.pair (.int .u64) (.pair tyBs (.pair tyBs (.pair (.int .u64) (.pair (.int .u64) (.pair .bool .unit)))))))))))
theorem is_cl {cs : List Value} (h : tyCl.is w cs) : ∃ p : ClV × ClL, (ClRows w p.1 p.2 ∧ ClNum p.1) ∧ cs = clp p := by
  obtain ⟨_, _, rfl, h0, h⟩ := pair_is h
  obtain ⟨_, _, rfl, h1, h⟩ := pair_is h
  obtain ⟨_, _, rfl, h2, h⟩ := pair_is h
  obtain ⟨_, _, rfl, h3, h⟩ := pair_is h
  obtain ⟨_, _, rfl, h4, h⟩ := pair_is h
  obtain ⟨_, _, rfl, h5, h⟩ := pair_is h
  obtain ⟨_, _, rfl, h6, h⟩ := pair_is h
  obtain ⟨_, _, rfl, h7, h⟩ := pair_is h
  obtain ⟨_, _, rfl, h8, h⟩ := pair_is h
  obtain ⟨_, _, rfl, h9, h⟩ := pair_is h
  obtain ⟨_, _, rfl, ha, h⟩ := pair_is h
  obtain ⟨_, _, rfl, hb, h⟩ := pair_is h
  obtain rfl : _ = [] := h
  obtain ⟨n0, rfl⟩ := is_byte h0
  obtain ⟨n1, b1, rfl⟩ := is_u64 h1
  obtain ⟨n2, b2, rfl⟩ := is_u64 h2
  obtain ⟨n3, b3, rfl⟩ := is_u64 h3
  obtain ⟨n4, b4, rfl⟩ := is_word h4
  obtain ⟨f5, rfl⟩ := h5
  obtain ⟨n6, b6, rfl⟩ := is_u64 h6
  obtain ⟨⟨v7, l7⟩, b7, rfl⟩ := is_bytes h7
  obtain ⟨⟨v8, l8⟩, b8, rfl⟩ := is_bytes h8
  obtain ⟨n9, b9, rfl⟩ := is_u64 h9
  obtain ⟨na, ba, rfl⟩ := is_u64 ha
  obtain ⟨fb, rfl⟩ := hb
  exact ⟨(⟨n0, n1, n2, n3, n4, f5, n6, v7, v8, n9, na, fb⟩, ⟨l7, l8⟩), ⟨⟨b7, b8⟩, ⟨b4, ba, b9, b6, b2, b3⟩⟩, rfl⟩
end op
end Go.Proofs.YtpgdnfgjbhdbpaaGreatDoor

/-
  What a call's end does to a frame: the law.
  Conditions: none.
-/
namespace Go.Proofs.YtpgdnfgjbhdbpaaGreatDoor
open Go Go.RowKit SL
set_option maxRecDepth 8000
set_option maxHeartbeats 4000000
set_option linter.unusedSimpArgs false
set_option linter.unusedVariables false
attribute [local irreducible] SL.CW SL.LW SL.DW Calls SL.Ret SL.RetG SL.beginQ SL.roundQ SL.rangeQ SL.inQ SL.RW SL.AnyW SL.thenQ SL.thenC SL.thenW SL.blkQ SL.finQ SL.ValP SL.NewP SL.SetP SL.CallP SL.Rd SL.Wr SL.Known
theorem FrO.lie {f : FrV} {L : FrL} {gs : Fs} (h : FrO f L gs) : ∃ us : Fs, blocksN 4 (frv f) = us.map (·.1) ∧ (∀ p ∈ us, p ∈ gs) ∧ ∀ w : World, (∀ p ∈ us, w.heap[p.1]? = some p.2) → FrRows w f L := by
  have hsl := h.sl
  obtain ⟨g1, g2, g3, g4, g5, hp, h1, h2, h3, h4, h5⟩ := h
  unfold bM at h1 h3 h4 h5
  unfold wM at h2
  obtain ⟨u1, a1, b1, c1⟩ := rowU_own h1
  obtain ⟨u2, a2, b2, c2⟩ := rowU_own h2
  obtain ⟨u3, a3, b3, c3⟩ := rowU_own h3
  obtain ⟨u4, a4, b4, c4⟩ := rowU_own h4
  obtain ⟨u5, a5, b5, c5⟩ := rowU_own h5
  refine ⟨u1 ++ (u2 ++ (u3 ++ (u4 ++ u5))), ?_, fun p hq => hp.subset ?_, fun w hw => ⟨c1 w fun p h => hw p (by simp [h]), c2 w fun p h => hw p (by simp [h]), c3 w fun p h => hw p (by simp [h]), c4 w fun p h => hw p (by simp [h]), c5 w fun p h => hw p (by simp [h])⟩⟩
  · rw [blocks_frv hsl]
    simp [a1, a2, a3, a4, a5]
  · simp only [List.mem_append] at hq ⊢
    rcases hq with h | h | h | h | h
    · exact .inl (b1 p h)
    · exact .inr (.inl (b2 p h))
    · exact .inr (.inr (.inl (b3 p h)))
    · exact .inr (.inr (.inr (.inl (b4 p h))))
    · exact .inr (.inr (.inr (.inr (b5 p h))))
theorem FrRows.blocks {f : FrV} {L : FrL} {w : World} (h : FrRows w f L) : [frv f].flatMap (blocksN 4) = [f.code, f.stk, f.mem, f.inp, f.back].flatMap (blocksN 4) := by
  rw [List.flatMap_cons, blocks_frv h.sl]
  exact List.append_nil _
/-- The same frame, but for where its rows lie. -/
def LikeF (x y : FrV) : Prop := ∃ c s m i b, y = x.rows c s m i b
theorem FairR.like {x : FrV} {X : FrL} {v : Value} {gs : Fs} (h : FairR x X v gs) : ∃ y, v = frv y ∧ FrO y (fewF X) gs ∧ LikeF x y := by
  obtain ⟨c, s, m, i, b, rfl, h⟩ := h
  exact ⟨_, rfl, h, c, s, m, i, b, rfl⟩
theorem fewF_num {x : FrV} {X : FrL} (h : FrNum x X) : FrNum x (fewF X) := ⟨h.gas, h.self, h.frm, h.val, fun u hu => h.ws u (List.mem_of_mem_take hu)⟩
theorem LikeF.num {x y : FrV} {L : FrL} (h : LikeF x y) (hx : FrNum x L) : FrNum y L := by
  obtain ⟨c, s, m, i, b, rfl⟩ := h
  exact ⟨hx.gas, hx.self, hx.frm, hx.val, hx.ws⟩
theorem LikeF.same {x y z : FrV} {L : FrL} (h : LikeF x y) (h2 : LikeF x z) : sameF y L z L := by
  obtain ⟨c, s, m, i, b, rfl⟩ := h
  obtain ⟨c2, s2, m2, i2, b2, rfl⟩ := h2
  exact ⟨rfl, rfl, rfl, rfl, rfl, rfl, rfl, rfl, rfl, rfl, rfl⟩
theorem EndR.like {x y z : FrV} {c d e : ClV} {L : FrL} {M : ClL} {ok : Bool} {left : Nat} {l : List UInt8} {v : Value} {gs : Fs} (h : LikeF x y) (h2 : LikeF x z) (k : LikeC c d) (k2 : LikeC c e) (hs : EndR z L e M ok left l v gs) : EndR y L d M ok left l v gs := by
  obtain ⟨c, s, m, i, b, rfl⟩ := h
  obtain ⟨c2, s2, m2, i2, b2, rfl⟩ := h2
  obtain ⟨i, k, rfl⟩ := k
  obtain ⟨i2, k2, rfl⟩ := k2
  exact hs
/-- Ends of calls, in a row. -/
structure OvV where
  ok : Bool
  left : Nat
  out : Value
  l : List UInt8
def ovp (x : OvV) : List Value := (ova x.ok x.left x.out).toList
theorem ovp_len (l : List OvV) : ∀ u ∈ l, (ovp u).length = 3 := fun _ _ => rfl
structure OvsAt (w : World) (v : Value) (l : List OvV) : Prop where
  row : RowAt w 3 v l.length (l.flatMap ovp)
  at_ : ∀ x ∈ l, RowAt w 1 x.out x.l.length (ucs x.l) ∧ x.left < 18446744073709551616
theorem ov_cells {ok : Bool} {left : Nat} {out : Value} (h : ∃ p n c, out = .slice p n c) : (ova ok left out).toList.all Value.oneCell' = true := by
  obtain ⟨p, n, c, rfl⟩ := h
  rfl
theorem ov_wrW {P : Program} {T E : TypeId} {ok : Bool} {left : Nat} {out z : Value} {cs : Array Value} [InfoI P T 3 z] (h : cs.size = 3) (hc : ∃ p n c, out = .slice p n c) : Wr P T (.cells cs E (0, 0)) 0 (.agg (ova ok left out)) (.cells (ova ok left out) E (0, 0)) := Wr.whole h rfl (ov_cells hc)
theorem ov_wr2 {P : Program} {T E : TypeId} {ok : Bool} {left n c : Nat} {out z : Value} {p : Option Addr} [InfoI P T 1 z] : Wr P T (.cells (ova ok left out) E (0, 0)) (0 + 2) (.slice p n c) (.cells (ova ok left (.slice p n c)) E (0, 0)) := Wr.cells (n := 1) (z := z) rfl rfl (by show 0 + 2 + 1 ≤ 3; omega) rfl
theorem rowsG_num {y : FrV} {X : FrL} {c : ClV} {ok : Bool} {g : Nat} {l : List UInt8} {a s m i b : Value} (hy : FrNum y X) (hc : c.dst < 18446744073709551616) (hg : g < 18446744073709551616) : FrNum (y.rowsG g a s m i b) (endL X c ok l) := by
  refine ⟨hg, hy.self, hy.frm, hy.val, fun u hu => ?_⟩
  rcases List.mem_append.1 hu with h | h
  · exact hy.ws u h
  · obtain rfl := List.mem_singleton.1 h
    unfold laidW
    split
    · decide
    · split
      · exact Nat.lt_trans hc (by decide)
      · decide
theorem blocks_ova {ok : Bool} {left : Nat} {out : Value} (h : ∃ p n c, out = .slice p n c) : blocksN 4 (.agg (ova ok left out)) = blocksN 4 out := by
  obtain ⟨p, n, c, rfl⟩ := h
  simp [ova, blocksN]
  exact blocks_sl ⟨_, _, _, rfl⟩
theorem CallEnds_walk (x : FrV) (X : FrL) (c : ClV) (M : ClL) (v2 : Value) (l2 : List OvV) (hxn : FrNum x X) (hcn : ClNum c) (hcd : c.dst < 18446744073709551616) (w : World) (hx : FrRows w x X) (hc : ClRows w c M) (hr2 : OvsAt w v2 l2) : Calls Tryz.prog 3 #[frv x, clv c, v2] w (Ret w (.bool true)) := by
  obtain ⟨p2, c2, rfl, hc2, hm2⟩ := hr2.row.form
  simp only [maxLen] at hm2
  refine enter (args := [_, _, _]) _ [] [] Tryz.func3 rfl Tryz.ntmps3 rfl (by simp) .nil ?_
  (refine sRz ?_; apply LW.boxA; rfl; rfl; intro _; apply LW.boxA; rfl; rfl; intro _; refine vAz ?_; refine nNz ?_; refine CW.seq ?_; refine sRz ?_; apply LW.callE; rfl; rfl; infer_instance; exact ArgsOk.nil; intro w _; exact lwakes_calls w; refine lvz (.notT rfl (by with_reducible rfl)) ?_; refine nNz ?_; refine cFz ?_; refine CW.skip ?_; refine thenN ?_; refine CW.seq ?_)
  apply CW.pre
  (refine AnyW.anyM [(1, FairR x X), (3, FairR x X), (5, CalledR c M)] 9 mixed (by decide +kernel) ?_)
  ((try simp only [tsOf_cons, tsOf_nil, tsOf_app]); apply DW.loadO; rfl; rfl; rfl; exact WantT.none; rfl; apply TRead.tail; apply TRead.head; exact ancB_nil; exact fr_rdW)
  refine DW.manyW (vs' := [x.code, x.stk, x.mem, x.inp, x.back]) rfl rfl rfl (by (exact WantT.none)) rfl inferInstance (by (exact .cons rfl .nil)) hx.blocks (.ext hx.c rfl (.ext hx.s rfl (.ext hx.m rfl (.ext hx.i rfl (.ext hx.b rfl .nil))))) (fun w hb _ => fair_calls x X w (hx.bel hb)) ?_
  rintro v3 g1 hv3
  obtain ⟨y1, rfl, hy1, hxy1⟩ := hv3.like
  ((try simp only [tsOf_cons, tsOf_nil, tsOf_app]); apply DW.loadO; rfl; rfl; rfl; exact WantT.none; rfl; apply TRead.app; apply TRead.tail; apply TRead.head; exact ancB_nil; exact fr_rdW)
  refine DW.manyW (vs' := [x.code, x.stk, x.mem, x.inp, x.back]) rfl rfl rfl (by (exact WantT.none)) rfl inferInstance (by (exact .cons rfl .nil)) hx.blocks (.ext hx.c rfl (.ext hx.s rfl (.ext hx.m rfl (.ext hx.i rfl (.ext hx.b rfl .nil))))) (fun w hb _ => fair_calls x X w (hx.bel hb)) ?_
  rintro v4 g2 hv4
  obtain ⟨y2, rfl, hy2, hxy2⟩ := hv4.like
  ((try simp only [tsOf_cons, tsOf_nil, tsOf_app]); apply DW.loadO; rfl; rfl; rfl; exact WantT.none; rfl; apply TRead.app; apply TRead.app; apply TRead.head; exact ancB_nil; exact cl_rdW)
  refine DW.manyW (vs' := [c.inp, c.code]) rfl rfl rfl (by (exact WantT.none)) rfl inferInstance (by (exact .cons rfl .nil)) hc.blocks (.ext hc.i rfl (.ext hc.c rfl .nil)) (fun w hb _ => called_calls c M w (hc.bel hb)) ?_
  rintro v5 g3 hv5
  obtain ⟨y3, rfl, hy3, hcy3⟩ := hv5.like
  ((try simp only [tsOf_cons, tsOf_nil, tsOf_app]); apply DW.allocA; rfl; rfl; rfl; exact WantT.none; intro _; apply DW.allocA; rfl; rfl; rfl; exact WantT.none; intro _; apply DW.allocA; rfl; rfl; rfl; exact WantT.none; intro _; apply DW.nil; simp only [fsOf_cons, fsOf_nil, fsOf_app, fsOf_tsOf, fsOf_new, fsOf_tag, fsOf_mark])
  rename_i b3 b4 b7 b8 b9
  have hs1 := hy1.sl
  have hs2 := hy2.sl
  have hcy := hy3.cells
  have hyn1 := hxy1.num (fewF_num hxn)
  have hyn2 := hxy2.num (fewF_num hxn)
  have hyn3 := hcy3.num hcn
  have hyd3 : y3.dst < 18446744073709551616 := by obtain ⟨_, _, rfl⟩ := hcy3; exact hcd
  obtain ⟨us1, hbl1, hin1, hrows1⟩ := hy1.lie
  obtain ⟨us2, hbl2, hin2, hrows2⟩ := hy2.lie
  obtain ⟨us3, hbl3, hin3, hrows3⟩ := hy3.lie
  (apply LW.store; rfl; rfl; apply SetAt.tail; apply SetAt.tail; apply SetAt.head; apply fr_wrW; rfl; exact hs1; apply LW.store; rfl; rfl; apply SetAt.tail; apply SetAt.head; apply fr_wrW; rfl; exact hs2; apply LW.store; rfl; rfl; apply SetAt.head; apply cl_wrW; rfl; exact hcy; refine nNz ?_; refine CW.seq ?_; refine sRz ?_; refine vMz ?_; refine lvz (.lenR rfl inferInstance rfl) ?_; refine vMz ?_; refine nNz ?_; refine CW.block ?_)
  refine CW.loop (fun m : Nat => ([(27, .int .i64 (m : Int)), (26, .int .i64 (l2.length : Int)), (25, .slice p2 l2.length c2), (9, .pointer (some ⟨b9, 0, none⟩)), (8, .pointer (some ⟨b8, 0, none⟩)), (7, .pointer (some ⟨b7, 0, none⟩)), (4, .pointer (some ⟨b4, 0, none⟩)), (3, .pointer (some ⟨b3, 0, none⟩))],
      (b9, .cells (cla y3) 33 (0, 0)) :: (b8, .cells (fra y2) 31 (0, 0)) :: (b7, .cells (fra y1) 31 (0, 0)) :: (g3 ++ (g2 ++ (g1 ++ [(b4, .cells (cla c) 33 (0, 0)), (b3, .cells (fra x) 31 (0, 0))])))))
    (fun m => m ≤ l2.length ∧ m ≤ 8) (fun m => l2.length - m) 0 ⟨Nat.zero_le _, Nat.zero_le _⟩ ⟨rfl, rfl, rfl, rfl, rfl, rfl, rfl, rfl, trivial⟩ (List.Sublist.refl _) ?_
  rintro m ⟨hml, hm8⟩
  dsimp only
  rcases Nat.lt_or_ge m l2.length with hlt | hge
  · obtain ⟨bb, off, c', cs, E, fr, heq, hb', hxx⟩ := hr2.row.pos (by omega)
    cases heq
    have hrd : Rd Tryz.prog 39 (.cells cs E fr) (off + m * 3) (.agg (ova l2[m].ok l2[m].left l2[m].out)) := Rd.elemA (g := ovp) (l := l2) (a := l2[m]) hxx (ovp_len l2) (List.getElem?_eq_getElem hlt)
    obtain ⟨ho, hol⟩ := hr2.at_ l2[m] (List.getElem_mem hlt)
    generalize l2[m] = o at hrd ho hol
    obtain ⟨ok, left, out, lo⟩ := o
    dsimp only at hrd ho hol
    obtain ⟨po, co, rfl, hco, hmo⟩ := id ho.form
    simp only [maxLen] at hmo
    have hfo := row_few ho (k := 1100) rfl
    obtain ⟨lp, hlp⟩ : ∃ lp, lo.take 1100 = lp := ⟨_, rfl⟩
    have hlp3 : lp.length ≤ 1100 := by rw [← hlp, List.length_take]; omega
    rw [hlp] at hfo
    clear hlp
    rcases Nat.lt_or_ge m 8 with h8 | h8
    · (refine sRz ?_; refine lvz (.lssT rfl rfl (by omega)) ?_; refine nNz ?_; refine CW.seq ?_; refine cTz ?_; refine CW.skip ?_; refine thenN ?_; refine CW.seq ?_; refine CW.block ?_; refine sRz ?_; refine vMz ?_; refine lvz (.indexAddrS rfl rfl rfl (by omega)) ?_; apply LW.load; rfl; rfl; exact Known.ext (by assumption) (by simp); assumption; apply LW.allocA; rfl; intro _; refine vAz ?_; apply LW.store; rfl; rfl; apply SetAt.head; apply ov_wrW; rfl; exact ⟨_, _, _, rfl⟩; refine nNz ?_; refine CW.seq ?_; refine sRz ?_; refine vMz ?_; refine lvz (.eqF rfl rfl (by omega)) ?_; refine nNz ?_; refine cFz ?_; refine CW.skip ?_; refine thenN ?_; refine sRz ?_; refine vFz ?_; refine ldz rfl .head ov_rd2 ?_; refine vFz ?_; refine ldz rfl .head ov_rd2 ?_; refine lvz (.lenR rfl inferInstance rfl) ?_; refine lvz (.minZL rfl rfl (by decide)) ?_; refine lvz (.cutTo inferInstance inferInstance rfl rfl (by omega)) ?_)
      refine LW.callR rfl rfl inferInstance (by (exact .cons rfl .nil)) (fun w hst => SK.Clone_calls lp _ w (hfo.st hst) (by omega)) ?_
      rintro ov1 go ho1
      have ho1' := ho1
      unfold bM at ho1'
      obtain ⟨q1, k1, rfl⟩ := ho1'.form
      (refine vFz ?_; refine LW.store rfl rfl (.app .head) ov_wr2 ?_; refine nSz ?_; refine vFz ?_; refine ldz rfl (.app .head) ov_rd2 ?_)
      refine LW.callR rfl rfl inferInstance (by (exact .cons rfl .nil)) (fun w hst => SK.Clone_calls lp _ w (bM_at ho1 (st_ou hst (by (exact List.sublist_append_left _ _)))) (by omega)) ?_
      rintro wv gw hw1
      have hw1' := hw1
      unfold bM at hw1'
      obtain ⟨q2, k2, rfl⟩ := id hw1'.form
      obtain ⟨usw, hblw, hinw, hrowsw⟩ := rowU_own hw1'
      (refine vAz ?_; refine nSz ?_; refine ldz rfl (.app (.app (.tail (.tail (.tail .head))))) fr_rdW ?_; refine ldz rfl (.app (.app (.tail .head))) cl_rdW ?_; refine ldz rfl (.app (.app .head)) (Rd.whole rfl) ?_)
      refine LW.callR rfl rfl inferInstance (by (exact .cons rfl (.cons rfl (.cons rfl .nil)))) (fun w hst => callEnd_calls y1 (fewF X) y3 (fewC M) ok left lp hyd3 hol _ w (hy1.us (st_ou hst (by (apply List.sublist_append_of_sublist_right; apply List.sublist_append_of_sublist_right; apply List.Sublist.cons; apply List.Sublist.cons; apply List.Sublist.cons; apply List.Sublist.cons; apply List.sublist_append_of_sublist_right; apply List.sublist_append_of_sublist_right; exact List.sublist_append_left _ _)))) (hy3.us (st_ou hst (by (apply List.sublist_append_of_sublist_right; apply List.sublist_append_of_sublist_right; apply List.Sublist.cons; apply List.Sublist.cons; apply List.Sublist.cons; apply List.Sublist.cons; exact List.sublist_append_left _ _)))) (bM_at ho1 (st_ou hst (by (apply List.sublist_append_of_sublist_right; exact List.sublist_append_left _ _))))) ?_
      rintro v6 gf hE
      rename_i b11
      rcases hE with ⟨hokE, a, s, mm, i, b, rfl, hF⟩ | ⟨hnE, rfl, hgf⟩
      · have hsl := hF.sl
        have hsl2 := hsl
        (refine vMz ?_; refine vEz ?_; refine vEz ?_; apply LW.allocA; rfl; intro _; apply LW.store; rfl; rfl; apply SetAt.head; apply fr_wrW; rfl; exact hsl; refine vAz ?_; refine nNz ?_; refine CW.seq ?_)
        apply CW.pre
        (refine AnyW.anyM [(1, FairR x X), (3, CalledR c M), (10, EndR y1 (fewF X) y3 (fewC M) ok left lp)] 16 mixed (by decide +kernel) ?_)
        ((try simp only [tsOf_cons, tsOf_nil, tsOf_app]); apply DW.loadO; rfl; rfl; rfl; exact WantT.none; rfl; apply TRead.tail; apply TRead.app; apply TRead.app; apply TRead.app; apply TRead.tail; apply TRead.tail; apply TRead.tail; apply TRead.tail; apply TRead.app; apply TRead.app; apply TRead.app; apply TRead.tail; apply TRead.head; exact ancB_nil; exact fr_rdW)
        refine DW.manyW (vs' := [x.code, x.stk, x.mem, x.inp, x.back]) rfl rfl rfl (by (exact WantT.none)) rfl inferInstance (by (exact .cons rfl .nil)) hx.blocks (.ext hx.c rfl (.ext hx.s rfl (.ext hx.m rfl (.ext hx.i rfl (.ext hx.b rfl .nil))))) (fun w hb _ => fair_calls x X w (hx.bel hb)) ?_
        rintro v7 g7 hv7
        obtain ⟨y7, rfl, hy7, hxy7⟩ := hv7.like
        obtain ⟨us7, hbl7, hin7, hrows7⟩ := hy7.lie
        ((try simp only [tsOf_cons, tsOf_nil, tsOf_app]); apply DW.loadO; rfl; rfl; rfl; exact WantT.none; rfl; apply TRead.app; apply TRead.tail; apply TRead.app; apply TRead.app; apply TRead.app; apply TRead.tail; apply TRead.tail; apply TRead.tail; apply TRead.tail; apply TRead.app; apply TRead.app; apply TRead.app; apply TRead.head; exact ancB_nil; exact cl_rdW)
        refine DW.manyW (vs' := [c.inp, c.code]) rfl rfl rfl (by (exact WantT.none)) rfl inferInstance (by (exact .cons rfl .nil)) hc.blocks (.ext hc.i rfl (.ext hc.c rfl .nil)) (fun w hb _ => called_calls c M w (hc.bel hb)) ?_
        rintro v8 g8 hv8
        obtain ⟨y8, rfl, hy8, hcy8⟩ := hv8.like
        obtain ⟨us8, hbl8, hin8, hrows8⟩ := hy8.lie
        have hyn8 := hcy8.num hcn
        have hyd8 : y8.dst < 18446744073709551616 := by obtain ⟨_, _, rfl⟩ := hcy8; exact hcd
        have heq8 : EndR y7 (fewF X) y8 (fewC M) ok left lp = EndR y1 (fewF X) y3 (fewC M) ok left lp := by
          obtain ⟨_, _, _, _, _, rfl⟩ := hxy1
          obtain ⟨_, _, _, _, _, rfl⟩ := hxy7
          obtain ⟨_, _, rfl⟩ := hcy3
          obtain ⟨_, _, rfl⟩ := hcy8
          rfl
        ((try simp only [tsOf_cons, tsOf_nil, tsOf_app]); refine dvz (.fieldAddr rfl rfl) ?_; apply DW.loadO; rfl; rfl; rfl; exact WantT.none; rfl; apply TRead.app; apply TRead.app; apply TRead.tail; apply TRead.app; apply TRead.app; apply TRead.app; apply TRead.head; exact ancB_nil; exact ov_rd0; refine dvz (.fieldAddr rfl rfl) ?_; apply DW.loadO; rfl; rfl; rfl; exact WantT.none; rfl; apply TRead.app; apply TRead.app; apply TRead.tail; apply TRead.app; apply TRead.app; apply TRead.app; apply TRead.head; exact ancB_nil; exact ov_rd1; refine dvz (.move rfl) ?_; apply DW.v0; rfl; rfl; rfl; exact WantT.none; rfl; apply ValP.buildT; infer_instance; infer_instance; apply PartsOk.cons; rfl; apply PartsOk.cons; rfl; apply PartsOk.cons; rfl; exact PartsOk.nil; rfl; simp only [fillP, wrCells, Value.cells, List.getElem?_cons_zero, List.getElem?_cons_succ, List.toList_toArray, List.setIfInBounds_toArray, List.set_cons_succ, List.set_cons_zero, Nat.reduceAdd, Nat.zero_add]; rfl)
        refine DW.manyA (us7 ++ (us8 ++ usw)) rfl rfl rfl (by (exact WantT.none)) rfl inferInstance (by (exact .cons rfl (.cons rfl (.cons rfl .nil)))) (by rw [List.flatMap_cons, List.flatMap_cons, List.flatMap_cons, hbl7, hbl8, blocks_ova ⟨_, _, _, rfl⟩, hblw]; simp) (fun p hp => AncT.lie (by (refine AncT.app ?_ ?_; refine AncT.new ?_; kernel_rfl; refine AncT.app ?_ ?_; refine AncT.new ?_; kernel_rfl; refine AncT.cons ?_ ?_; exact ancB_nil; refine AncT.app ?_ ?_; exact AncT.tsOf; refine AncT.app ?_ ?_; exact AncT.tsOf; refine AncT.app ?_ ?_; exact AncT.tsOf; refine AncT.cons ?_ ?_; exact ancB_nil; refine AncT.cons ?_ ?_; exact ancB_nil; refine AncT.cons ?_ ?_; exact ancB_nil; refine AncT.cons ?_ ?_; exact ancB_nil; refine AncT.app ?_ ?_; exact AncT.tsOf; refine AncT.app ?_ ?_; exact AncT.tsOf; refine AncT.app ?_ ?_; exact AncT.tsOf; refine AncT.cons ?_ ?_; exact ancB_nil; refine AncT.cons ?_ ?_; exact ancB_nil; exact AncT.nil)) (by rcases List.mem_append.1 hp with hp | hp; · { have hp := hin7 p hp; simp [fsOf, tsOf, tsNew, tsTag, markAll, Function.comp_def, hp] }; · { rcases List.mem_append.1 hp with hp | hp; · { have hp := hin8 p hp; simp [fsOf, tsOf, tsNew, tsTag, markAll, Function.comp_def, hp] }; · { have hp := hinw p hp; simp [fsOf, tsOf, tsNew, tsTag, markAll, Function.comp_def, hp] } })) (fun w _ hu => heq8 ▸ rcallEnd_calls y7 (fewF X) y8 (fewC M) ok left lp hyd8 hyn8.n hyn8.pl hol _ w (hrows7 w fun q hq => hu q (List.mem_append_left _ hq)) (hrows8 w fun q hq => hu q (List.mem_append_right _ (List.mem_append_left _ hq))) (hrowsw w fun q hq => hu q (List.mem_append_right _ (List.mem_append_right _ hq)))) ?_
        (try simp only [markAll_cons, markAll_app, markAll_tsOf, markAll_tag, markAll_new, markAll_nil])
        rintro v9 g6 hE6
        rcases hE6 with ⟨_, a2, s2, mm2, i2, b2, rfl, hF2⟩ | ⟨hn, _⟩
        · clear hsl2
          have hsl2 := hF2.sl
          have hRS : ∀ w', (∀ q ∈ gf, w'.heap[q.1]? = some q.2) → (∀ q ∈ g6, w'.heap[q.1]? = some q.2) → Calls Tryz.prog 15 #[frv (y1.rowsG (y1.gas + left) a s mm i b), frv (y1.rowsG (y1.gas + left) a2 s2 mm2 i2 b2)] w' (Ret w' (.bool true)) := fun w' h h2 => by
            have hg : y1.gas + left < 18446744073709551616 := by have h1 := hokE.2.2.1.2.2.1; omega
            have h := rfSame_calls _ _ _ _ (rowsG_num hyn1 hyd3 hg) (rowsG_num hyn1 hyd3 hg) w' (hF.us h) (hF2.us h2)
            rwa [decide_eq_true ⟨rfl, rfl, rfl, rfl, rfl, rfl, rfl, rfl, rfl, rfl, rfl⟩] at h
          ((try simp only [tsOf_cons, tsOf_nil, tsOf_app]); refine dvz (.move rfl) ?_; refine dvz (.extractN rfl rfl) ?_; refine dvz (.extractN rfl rfl) ?_; apply DW.allocA; rfl; rfl; rfl; exact WantT.none; intro _; apply DW.store; rfl; rfl; exact WantT.none; rfl; rfl; apply TSet.head; kernel_rfl; exact ancB_nil; apply fr_wrW; rfl; exact hsl2; apply DW.nil; simp only [fsOf_cons, fsOf_nil, fsOf_app, fsOf_tsOf, fsOf_new, fsOf_tag, fsOf_mark])
          (refine vAz ?_; refine nNz ?_; refine CW.seq ?_; refine sRz ?_; refine vMz ?_; refine vMz ?_; refine lvz (.boolNeF rfl rfl (by with_reducible rfl)) ?_; refine vMz ?_; refine gTz ?_; refine ldz rfl (.tail (.app (.app (.app .head)))) fr_rdW ?_; refine gTz ?_; refine ldz rfl .head fr_rdW ?_; refine gTz ?_; apply LW.callE; rfl; rfl; infer_instance; exact .cons rfl (.cons rfl .nil); intro w _; rename_i hst; (exact hRS w (st_ou hst (by (repeat (first | exact List.Sublist.refl _ | exact List.sublist_append_left _ _ | apply List.Sublist.cons | apply List.sublist_append_of_sublist_right)))) (st_ou hst (by (repeat (first | exact List.Sublist.refl _ | exact List.sublist_append_left _ _ | apply List.Sublist.cons | apply List.sublist_append_of_sublist_right))))); refine gTz ?_; refine lvz (.notT rfl (by with_reducible rfl)) ?_; refine pFz ?_; refine nNz ?_; refine cFz ?_; refine CW.skip ?_; refine thenN ?_; refine sRz ?_; refine ldz rfl (.tail (.app (.app (.app .head)))) fr_rdW ?_; apply LW.v0; rfl; rfl; apply ValP.buildT; infer_instance; infer_instance; exact PartsOk.nil; rfl; simp only [fillP, wrCells, Value.cells, List.getElem?_cons_zero, List.getElem?_cons_succ, List.toList_toArray, List.setIfInBounds_toArray, List.set_cons_succ, List.set_cons_zero, Nat.reduceAdd, Nat.zero_add]; rfl)
          refine LW.callSt (K := fun v fs' => v = .tuple #[] ∧ fs' = gw ++ (go ++ ((b11, .cells (ova ok left (.slice q1 lp.length k1)) 39 (0, 0)) :: (b9, .cells (cla y3) 33 (0, 0)) :: (b8, .cells (fra y2) 31 (0, 0)) :: (b7, .cells (fra y1) 31 (0, 0)) :: (g3 ++ (g2 ++ (g1 ++ [(b4, .cells (cla c) 33 (0, 0)), (b3, .cells (fra x) 31 (0, 0))])))))) rfl rfl inferInstance (by (exact .cons rfl (.cons rfl .nil))) (fun w hst => ?_) ?_
          · refine Calls.mono (spoil_calls _ _ _ _ zeroC ⟨[], []⟩ gf [] (gw ++ (go ++ ((b11, .cells (ova ok left (.slice q1 lp.length k1)) 39 (0, 0)) :: (b9, .cells (cla y3) 33 (0, 0)) :: (b8, .cells (fra y2) 31 (0, 0)) :: (b7, .cells (fra y1) 31 (0, 0)) :: (g3 ++ (g2 ++ (g1 ++ [(b4, .cells (cla c) 33 (0, 0)), (b3, .cells (fra x) 31 (0, 0))])))))) hF zeroC_o w (SubP.st ?_ hst)) fun x w' ⟨fs', ⟨h1, h2⟩, hst⟩ => ⟨_, _, h1, ⟨rfl, h2⟩, hst⟩
            exact subp_ix [[_], g6, g8, g7, [_], gf, gw, go, []] (xs := [5, 8, 6, 7]) (ys := [0, 1, 2, 3, 4, 5, 6, 7, 8]) _ rfl
          rintro _ _ ⟨rfl, rfl⟩
          (refine nNz ?_; refine CW.seq ?_)
          apply CW.pre
          (refine AnyW.anyM [(7, CalledR c M)] 15 mixed (by decide +kernel) ?_)
          ((try simp only [tsOf_cons, tsOf_nil, tsOf_app]); apply DW.loadO; rfl; rfl; rfl; exact WantT.none; rfl; apply TRead.app; apply TRead.app; apply TRead.tail; apply TRead.tail; apply TRead.tail; apply TRead.head; exact ancB_nil; exact fr_rdW; apply DW.loadO; rfl; rfl; rfl; exact WantT.none; rfl; apply TRead.app; apply TRead.app; apply TRead.tail; apply TRead.tail; apply TRead.head; exact ancB_nil; exact fr_rdW)
          refine DW.callA (us1 ++ us2) (v := .bool true) rfl rfl rfl (by (exact WantT.none)) rfl inferInstance (by (exact .cons rfl (.cons rfl .nil))) (by rw [List.flatMap_cons, List.flatMap_cons, hbl1, hbl2, List.map_append]; simp) (fun p hp => AncT.lie (by (refine AncT.app ?_ ?_; exact AncT.tsOf; refine AncT.app ?_ ?_; exact AncT.tsOf; refine AncT.cons ?_ ?_; exact ancB_nil; refine AncT.cons ?_ ?_; exact ancB_nil; refine AncT.cons ?_ ?_; exact ancB_nil; refine AncT.cons ?_ ?_; exact ancB_nil; refine AncT.app ?_ ?_; exact AncT.tsOf; refine AncT.app ?_ ?_; exact AncT.tsOf; refine AncT.app ?_ ?_; exact AncT.tsOf; refine AncT.cons ?_ ?_; exact ancB_nil; refine AncT.cons ?_ ?_; exact ancB_nil; exact AncT.nil)) (by rcases List.mem_append.1 hp with hp | hp; · { have hp := hin1 p hp; simp [fsOf, tsOf, tsNew, tsTag, markAll, Function.comp_def, hp] }; · { have hp := hin2 p hp; simp [fsOf, tsOf, tsNew, tsTag, markAll, Function.comp_def, hp] })) (fun w _ hu => ?_) ?_
          · have h := rfSame_calls y1 y2 _ _ hyn1 hyn2 w (hrows1 w fun q hq => hu q (List.mem_append_left _ hq)) (hrows2 w fun q hq => hu q (List.mem_append_right _ hq))
            rw [decide_eq_true (hxy1.same hxy2)] at h
            exact h
          (try simp only [markAll_cons, markAll_app, markAll_tsOf, markAll_tag, markAll_new, markAll_nil])
          ((try simp only [tsOf_cons, tsOf_nil, tsOf_app]); refine dvz (.notT rfl (by with_reducible rfl)) ?_; refine dvz (.move rfl) ?_; apply DW.loadO; rfl; rfl; rfl; apply wantYes; rfl; rfl; (with_reducible rfl); rfl; apply TRead.app; apply TRead.app; apply TRead.tail; apply TRead.head; exact ancB_nil; exact cl_rdW; apply DW.loadO; rfl; rfl; rfl; apply wantYes; rfl; rfl; (with_reducible rfl); rfl; apply TRead.app; apply TRead.app; apply TRead.tail; apply TRead.tail; apply TRead.tail; apply TRead.tail; apply TRead.app; apply TRead.app; apply TRead.app; apply TRead.head; exact ancB_nil; exact cl_rdW)
          refine DW.manyW (vs' := [c.inp, c.code]) rfl rfl rfl (by (apply wantYes; rfl; rfl; (with_reducible rfl))) rfl inferInstance (by (exact .cons rfl .nil)) hc.blocks (.ext hc.i rfl (.ext hc.c rfl .nil)) (fun w hb _ => called_calls c M w (hc.bel hb)) ?_
          rintro v10 g10 hv10
          obtain ⟨y10, rfl, hy10, hcy10⟩ := hv10.like
          obtain ⟨us10, hbl10, hin10, hrows10⟩ := hy10.lie
          ((try simp only [tsOf_cons, tsOf_nil, tsOf_app]))
          refine DW.callA (us3 ++ us10) (v := .bool true) rfl rfl rfl (by (apply wantYes; rfl; rfl; (with_reducible rfl))) rfl inferInstance (by (exact .cons rfl (.cons rfl .nil))) (by rw [List.flatMap_cons, List.flatMap_cons, hbl3, hbl10, List.map_append]; simp) (fun p hp => AncT.lie (by (refine AncT.app ?_ ?_; refine AncT.new ?_; kernel_rfl; refine AncT.app ?_ ?_; refine AncT.tag ?_; exact ancB_nil; refine AncT.app ?_ ?_; refine AncT.tag ?_; exact ancB_nil; refine AncT.cons ?_ ?_; exact ancB_nil; refine AncT.cons ?_ ?_; exact ancB_nil; refine AncT.cons ?_ ?_; exact ancB_nil; refine AncT.cons ?_ ?_; exact ancB_nil; refine AncT.app ?_ ?_; refine AncT.tag ?_; exact ancB_nil; refine AncT.app ?_ ?_; refine AncT.tag ?_; exact ancB_nil; refine AncT.app ?_ ?_; refine AncT.tag ?_; exact ancB_nil; refine AncT.cons ?_ ?_; exact ancB_nil; refine AncT.cons ?_ ?_; exact ancB_nil; exact AncT.nil)) (by rcases List.mem_append.1 hp with hp | hp; · { have hp := hin3 p hp; simp [fsOf, tsOf, tsNew, tsTag, markAll, Function.comp_def, hp] }; · { have hp := hin10 p hp; simp [fsOf, tsOf, tsNew, tsTag, markAll, Function.comp_def, hp] })) (fun w _ hu => ?_) ?_
          · have h := rcSame_calls y3 y10 (fewC M) (fewC M) hyn3.val (hcy10.num hcn).val w (hrows3 w fun q hq => hu q (List.mem_append_left _ hq)) (hrows10 w fun q hq => hu q (List.mem_append_right _ hq))
            rw [decide_eq_true (hcy3.same hcy10)] at h
            exact h
          (try simp only [markAll_cons, markAll_app, markAll_tsOf, markAll_tag, markAll_new, markAll_nil])
          ((try simp only [tsOf_cons, tsOf_nil, tsOf_app]); refine dwz (.notT rfl (by with_reducible rfl)) ?_; refine dvz (.pickF' rfl (by with_reducible rfl) rfl) ?_; refine dvz (.move rfl) ?_; refine dwz (.fieldAddr rfl rfl) ?_; apply DW.loadO; rfl; rfl; rfl; apply wantYes; rfl; rfl; (with_reducible rfl); rfl; apply TRead.app; apply TRead.app; apply TRead.app; apply TRead.head; exact ancB_nil; exact ov_rd2; refine dwz (.move rfl) ?_; apply DW.nil; simp only [fsOf_cons, fsOf_nil, fsOf_app, fsOf_tsOf, fsOf_new, fsOf_tag, fsOf_mark])
          have hEq : ∀ w', (∀ q ∈ go, w'.heap[q.1]? = some q.2) → (∀ q ∈ gw, w'.heap[q.1]? = some q.2) → Calls Tryz.prog 18 #[.slice q1 lp.length k1, .slice q2 lp.length k2] w' (Ret w' (.bool true)) := fun w' h h3 => by
            have h := sEqB_calls lp lp _ _ w' (bM_at ho1 h) (bM_at hw1 h3)
            rwa [decide_eq_true rfl] at h
          (refine gTz ?_; apply LW.callE; rfl; rfl; infer_instance; exact .cons rfl (.cons rfl .nil); intro w _; rename_i hst; (exact hEq w (st_ou hst (by (repeat (first | exact List.Sublist.refl _ | exact List.sublist_append_left _ _ | apply List.Sublist.cons | apply List.sublist_append_of_sublist_right)))) (st_ou hst (by (repeat (first | exact List.Sublist.refl _ | exact List.sublist_append_left _ _ | apply List.Sublist.cons | apply List.sublist_append_of_sublist_right))))); refine gTz ?_; refine lvz (.notT rfl (by with_reducible rfl)) ?_; refine pFz ?_; refine nNz ?_; refine cFz ?_; refine CW.skip ?_; refine blkN ?_; refine thenN ?_; refine CW.region ?_; refine lvz (.addZL rfl rfl (by decide) (by omega)) ?_; refine vMz ?_; apply LW.nil)
          apply thenX
          exact ⟨rfl, m + 1, ⟨hlt, h8⟩, by omega, ⟨rfl, rfl, rfl, rfl, rfl, rfl, rfl, rfl, trivial⟩, by (apply List.sublist_append_of_sublist_right; apply List.sublist_append_of_sublist_right; apply List.sublist_append_of_sublist_right; apply List.Sublist.cons; exact List.Sublist.refl _)⟩
        · exact absurd hokE hn
      · have hF : FrO zeroF zeroL gf := hgf ▸ zero_frO
        clear hgf
        have hsl := hF.sl
        have hsl2 := hsl
        (refine vMz ?_; refine vEz ?_; refine vEz ?_; apply LW.allocA; rfl; intro _; apply LW.store; rfl; rfl; apply SetAt.head; apply fr_wrW; rfl; exact hsl; refine vAz ?_; refine nNz ?_; refine CW.seq ?_)
        apply CW.pre
        (refine AnyW.anyM [(1, FairR x X), (3, CalledR c M), (10, EndR y1 (fewF X) y3 (fewC M) ok left lp)] 16 mixed (by decide +kernel) ?_)
        ((try simp only [tsOf_cons, tsOf_nil, tsOf_app]); apply DW.loadO; rfl; rfl; rfl; exact WantT.none; rfl; apply TRead.tail; apply TRead.app; apply TRead.app; apply TRead.app; apply TRead.tail; apply TRead.tail; apply TRead.tail; apply TRead.tail; apply TRead.app; apply TRead.app; apply TRead.app; apply TRead.tail; apply TRead.head; exact ancB_nil; exact fr_rdW)
        refine DW.manyW (vs' := [x.code, x.stk, x.mem, x.inp, x.back]) rfl rfl rfl (by (exact WantT.none)) rfl inferInstance (by (exact .cons rfl .nil)) hx.blocks (.ext hx.c rfl (.ext hx.s rfl (.ext hx.m rfl (.ext hx.i rfl (.ext hx.b rfl .nil))))) (fun w hb _ => fair_calls x X w (hx.bel hb)) ?_
        rintro v7 g7 hv7
        obtain ⟨y7, rfl, hy7, hxy7⟩ := hv7.like
        obtain ⟨us7, hbl7, hin7, hrows7⟩ := hy7.lie
        ((try simp only [tsOf_cons, tsOf_nil, tsOf_app]); apply DW.loadO; rfl; rfl; rfl; exact WantT.none; rfl; apply TRead.app; apply TRead.tail; apply TRead.app; apply TRead.app; apply TRead.app; apply TRead.tail; apply TRead.tail; apply TRead.tail; apply TRead.tail; apply TRead.app; apply TRead.app; apply TRead.app; apply TRead.head; exact ancB_nil; exact cl_rdW)
        refine DW.manyW (vs' := [c.inp, c.code]) rfl rfl rfl (by (exact WantT.none)) rfl inferInstance (by (exact .cons rfl .nil)) hc.blocks (.ext hc.i rfl (.ext hc.c rfl .nil)) (fun w hb _ => called_calls c M w (hc.bel hb)) ?_
        rintro v8 g8 hv8
        obtain ⟨y8, rfl, hy8, hcy8⟩ := hv8.like
        obtain ⟨us8, hbl8, hin8, hrows8⟩ := hy8.lie
        have hyn8 := hcy8.num hcn
        have hyd8 : y8.dst < 18446744073709551616 := by obtain ⟨_, _, rfl⟩ := hcy8; exact hcd
        have heq8 : EndR y7 (fewF X) y8 (fewC M) ok left lp = EndR y1 (fewF X) y3 (fewC M) ok left lp := by
          obtain ⟨_, _, _, _, _, rfl⟩ := hxy1
          obtain ⟨_, _, _, _, _, rfl⟩ := hxy7
          obtain ⟨_, _, rfl⟩ := hcy3
          obtain ⟨_, _, rfl⟩ := hcy8
          rfl
        ((try simp only [tsOf_cons, tsOf_nil, tsOf_app]); refine dvz (.fieldAddr rfl rfl) ?_; apply DW.loadO; rfl; rfl; rfl; exact WantT.none; rfl; apply TRead.app; apply TRead.app; apply TRead.tail; apply TRead.app; apply TRead.app; apply TRead.app; apply TRead.head; exact ancB_nil; exact ov_rd0; refine dvz (.fieldAddr rfl rfl) ?_; apply DW.loadO; rfl; rfl; rfl; exact WantT.none; rfl; apply TRead.app; apply TRead.app; apply TRead.tail; apply TRead.app; apply TRead.app; apply TRead.app; apply TRead.head; exact ancB_nil; exact ov_rd1; refine dvz (.move rfl) ?_; apply DW.v0; rfl; rfl; rfl; exact WantT.none; rfl; apply ValP.buildT; infer_instance; infer_instance; apply PartsOk.cons; rfl; apply PartsOk.cons; rfl; apply PartsOk.cons; rfl; exact PartsOk.nil; rfl; simp only [fillP, wrCells, Value.cells, List.getElem?_cons_zero, List.getElem?_cons_succ, List.toList_toArray, List.setIfInBounds_toArray, List.set_cons_succ, List.set_cons_zero, Nat.reduceAdd, Nat.zero_add]; rfl)
        refine DW.manyA (us7 ++ (us8 ++ usw)) rfl rfl rfl (by (exact WantT.none)) rfl inferInstance (by (exact .cons rfl (.cons rfl (.cons rfl .nil)))) (by rw [List.flatMap_cons, List.flatMap_cons, List.flatMap_cons, hbl7, hbl8, blocks_ova ⟨_, _, _, rfl⟩, hblw]; simp) (fun p hp => AncT.lie (by (refine AncT.app ?_ ?_; refine AncT.new ?_; kernel_rfl; refine AncT.app ?_ ?_; refine AncT.new ?_; kernel_rfl; refine AncT.cons ?_ ?_; exact ancB_nil; refine AncT.app ?_ ?_; exact AncT.tsOf; refine AncT.app ?_ ?_; exact AncT.tsOf; refine AncT.app ?_ ?_; exact AncT.tsOf; refine AncT.cons ?_ ?_; exact ancB_nil; refine AncT.cons ?_ ?_; exact ancB_nil; refine AncT.cons ?_ ?_; exact ancB_nil; refine AncT.cons ?_ ?_; exact ancB_nil; refine AncT.app ?_ ?_; exact AncT.tsOf; refine AncT.app ?_ ?_; exact AncT.tsOf; refine AncT.app ?_ ?_; exact AncT.tsOf; refine AncT.cons ?_ ?_; exact ancB_nil; refine AncT.cons ?_ ?_; exact ancB_nil; exact AncT.nil)) (by rcases List.mem_append.1 hp with hp | hp; · { have hp := hin7 p hp; simp [fsOf, tsOf, tsNew, tsTag, markAll, Function.comp_def, hp] }; · { rcases List.mem_append.1 hp with hp | hp; · { have hp := hin8 p hp; simp [fsOf, tsOf, tsNew, tsTag, markAll, Function.comp_def, hp] }; · { have hp := hinw p hp; simp [fsOf, tsOf, tsNew, tsTag, markAll, Function.comp_def, hp] } })) (fun w _ hu => heq8 ▸ rcallEnd_calls y7 (fewF X) y8 (fewC M) ok left lp hyd8 hyn8.n hyn8.pl hol _ w (hrows7 w fun q hq => hu q (List.mem_append_left _ hq)) (hrows8 w fun q hq => hu q (List.mem_append_right _ (List.mem_append_left _ hq))) (hrowsw w fun q hq => hu q (List.mem_append_right _ (List.mem_append_right _ hq)))) ?_
        (try simp only [markAll_cons, markAll_app, markAll_tsOf, markAll_tag, markAll_new, markAll_nil])
        rintro v9 g6 hE6
        rcases hE6 with ⟨hn, _⟩ | ⟨_, rfl, hg6⟩
        · exact absurd hn hnE
        · have hF2 : FrO zeroF zeroL g6 := hg6 ▸ zero_frO
          clear hg6
          have hRS : ∀ w', (∀ q ∈ gf, w'.heap[q.1]? = some q.2) → (∀ q ∈ g6, w'.heap[q.1]? = some q.2) → Calls Tryz.prog 15 #[frv zeroF, frv zeroF] w' (Ret w' (.bool true)) := fun w' h h2 => by
            have h := rfSame_calls _ _ _ _ zeroF_num zeroF_num w' (hF.us h) (hF2.us h2)
            rwa [decide_eq_true ⟨rfl, rfl, rfl, rfl, rfl, rfl, rfl, rfl, rfl, rfl, rfl⟩] at h
          ((try simp only [tsOf_cons, tsOf_nil, tsOf_app]); refine dvz (.move rfl) ?_; refine dvz (.extractN rfl rfl) ?_; refine dvz (.extractN rfl rfl) ?_; apply DW.allocA; rfl; rfl; rfl; exact WantT.none; intro _; apply DW.store; rfl; rfl; exact WantT.none; rfl; rfl; apply TSet.head; kernel_rfl; exact ancB_nil; apply fr_wrW; rfl; exact hsl; apply DW.nil; simp only [fsOf_cons, fsOf_nil, fsOf_app, fsOf_tsOf, fsOf_new, fsOf_tag, fsOf_mark])
          (refine vAz ?_; refine nNz ?_; refine CW.seq ?_; refine sRz ?_; refine vMz ?_; refine vMz ?_; refine lvz (.boolNeF rfl rfl (by with_reducible rfl)) ?_; refine vMz ?_; refine gTz ?_; refine ldz rfl (.tail (.app (.app (.app .head)))) fr_rdW ?_; refine gTz ?_; refine ldz rfl .head fr_rdW ?_; refine gTz ?_; apply LW.callE; rfl; rfl; infer_instance; exact .cons rfl (.cons rfl .nil); intro w _; rename_i hst; (exact hRS w (st_ou hst (by (repeat (first | exact List.Sublist.refl _ | exact List.sublist_append_left _ _ | apply List.Sublist.cons | apply List.sublist_append_of_sublist_right)))) (st_ou hst (by (repeat (first | exact List.Sublist.refl _ | exact List.sublist_append_left _ _ | apply List.Sublist.cons | apply List.sublist_append_of_sublist_right))))); refine gTz ?_; refine lvz (.notT rfl (by with_reducible rfl)) ?_; refine pFz ?_; refine nNz ?_; refine cFz ?_; refine CW.skip ?_; refine thenN ?_; refine sRz ?_; refine ldz rfl (.tail (.app (.app (.app .head)))) fr_rdW ?_; apply LW.v0; rfl; rfl; apply ValP.buildT; infer_instance; infer_instance; exact PartsOk.nil; rfl; simp only [fillP, wrCells, Value.cells, List.getElem?_cons_zero, List.getElem?_cons_succ, List.toList_toArray, List.setIfInBounds_toArray, List.set_cons_succ, List.set_cons_zero, Nat.reduceAdd, Nat.zero_add]; rfl)
          refine LW.callSt (K := fun v fs' => v = .tuple #[] ∧ fs' = gw ++ (go ++ ((b11, .cells (ova ok left (.slice q1 lp.length k1)) 39 (0, 0)) :: (b9, .cells (cla y3) 33 (0, 0)) :: (b8, .cells (fra y2) 31 (0, 0)) :: (b7, .cells (fra y1) 31 (0, 0)) :: (g3 ++ (g2 ++ (g1 ++ [(b4, .cells (cla c) 33 (0, 0)), (b3, .cells (fra x) 31 (0, 0))])))))) rfl rfl inferInstance (by (exact .cons rfl (.cons rfl .nil))) (fun w hst => ?_) ?_
          · refine Calls.mono (spoil_calls _ _ _ _ zeroC ⟨[], []⟩ gf [] (gw ++ (go ++ ((b11, .cells (ova ok left (.slice q1 lp.length k1)) 39 (0, 0)) :: (b9, .cells (cla y3) 33 (0, 0)) :: (b8, .cells (fra y2) 31 (0, 0)) :: (b7, .cells (fra y1) 31 (0, 0)) :: (g3 ++ (g2 ++ (g1 ++ [(b4, .cells (cla c) 33 (0, 0)), (b3, .cells (fra x) 31 (0, 0))])))))) hF zeroC_o w (SubP.st ?_ hst)) fun x w' ⟨fs', ⟨h1, h2⟩, hst⟩ => ⟨_, _, h1, ⟨rfl, h2⟩, hst⟩
            exact subp_ix [[_], g6, g8, g7, [_], gf, gw, go, []] (xs := [5, 8, 6, 7]) (ys := [0, 1, 2, 3, 4, 5, 6, 7, 8]) _ rfl
          rintro _ _ ⟨rfl, rfl⟩
          (refine nNz ?_; refine CW.seq ?_)
          apply CW.pre
          (refine AnyW.anyM [(7, CalledR c M)] 15 mixed (by decide +kernel) ?_)
          ((try simp only [tsOf_cons, tsOf_nil, tsOf_app]); apply DW.loadO; rfl; rfl; rfl; exact WantT.none; rfl; apply TRead.app; apply TRead.app; apply TRead.tail; apply TRead.tail; apply TRead.tail; apply TRead.head; exact ancB_nil; exact fr_rdW; apply DW.loadO; rfl; rfl; rfl; exact WantT.none; rfl; apply TRead.app; apply TRead.app; apply TRead.tail; apply TRead.tail; apply TRead.head; exact ancB_nil; exact fr_rdW)
          refine DW.callA (us1 ++ us2) (v := .bool true) rfl rfl rfl (by (exact WantT.none)) rfl inferInstance (by (exact .cons rfl (.cons rfl .nil))) (by rw [List.flatMap_cons, List.flatMap_cons, hbl1, hbl2, List.map_append]; simp) (fun p hp => AncT.lie (by (refine AncT.app ?_ ?_; exact AncT.tsOf; refine AncT.app ?_ ?_; exact AncT.tsOf; refine AncT.cons ?_ ?_; exact ancB_nil; refine AncT.cons ?_ ?_; exact ancB_nil; refine AncT.cons ?_ ?_; exact ancB_nil; refine AncT.cons ?_ ?_; exact ancB_nil; refine AncT.app ?_ ?_; exact AncT.tsOf; refine AncT.app ?_ ?_; exact AncT.tsOf; refine AncT.app ?_ ?_; exact AncT.tsOf; refine AncT.cons ?_ ?_; exact ancB_nil; refine AncT.cons ?_ ?_; exact ancB_nil; exact AncT.nil)) (by rcases List.mem_append.1 hp with hp | hp; · { have hp := hin1 p hp; simp [fsOf, tsOf, tsNew, tsTag, markAll, Function.comp_def, hp] }; · { have hp := hin2 p hp; simp [fsOf, tsOf, tsNew, tsTag, markAll, Function.comp_def, hp] })) (fun w _ hu => ?_) ?_
          · have h := rfSame_calls y1 y2 _ _ hyn1 hyn2 w (hrows1 w fun q hq => hu q (List.mem_append_left _ hq)) (hrows2 w fun q hq => hu q (List.mem_append_right _ hq))
            rw [decide_eq_true (hxy1.same hxy2)] at h
            exact h
          (try simp only [markAll_cons, markAll_app, markAll_tsOf, markAll_tag, markAll_new, markAll_nil])
          ((try simp only [tsOf_cons, tsOf_nil, tsOf_app]); refine dvz (.notT rfl (by with_reducible rfl)) ?_; refine dvz (.move rfl) ?_; apply DW.loadO; rfl; rfl; rfl; apply wantYes; rfl; rfl; (with_reducible rfl); rfl; apply TRead.app; apply TRead.app; apply TRead.tail; apply TRead.head; exact ancB_nil; exact cl_rdW; apply DW.loadO; rfl; rfl; rfl; apply wantYes; rfl; rfl; (with_reducible rfl); rfl; apply TRead.app; apply TRead.app; apply TRead.tail; apply TRead.tail; apply TRead.tail; apply TRead.tail; apply TRead.app; apply TRead.app; apply TRead.app; apply TRead.head; exact ancB_nil; exact cl_rdW)
          refine DW.manyW (vs' := [c.inp, c.code]) rfl rfl rfl (by (apply wantYes; rfl; rfl; (with_reducible rfl))) rfl inferInstance (by (exact .cons rfl .nil)) hc.blocks (.ext hc.i rfl (.ext hc.c rfl .nil)) (fun w hb _ => called_calls c M w (hc.bel hb)) ?_
          rintro v10 g10 hv10
          obtain ⟨y10, rfl, hy10, hcy10⟩ := hv10.like
          obtain ⟨us10, hbl10, hin10, hrows10⟩ := hy10.lie
          ((try simp only [tsOf_cons, tsOf_nil, tsOf_app]))
          refine DW.callA (us3 ++ us10) (v := .bool true) rfl rfl rfl (by (apply wantYes; rfl; rfl; (with_reducible rfl))) rfl inferInstance (by (exact .cons rfl (.cons rfl .nil))) (by rw [List.flatMap_cons, List.flatMap_cons, hbl3, hbl10, List.map_append]; simp) (fun p hp => AncT.lie (by (refine AncT.app ?_ ?_; refine AncT.new ?_; kernel_rfl; refine AncT.app ?_ ?_; refine AncT.tag ?_; exact ancB_nil; refine AncT.app ?_ ?_; refine AncT.tag ?_; exact ancB_nil; refine AncT.cons ?_ ?_; exact ancB_nil; refine AncT.cons ?_ ?_; exact ancB_nil; refine AncT.cons ?_ ?_; exact ancB_nil; refine AncT.cons ?_ ?_; exact ancB_nil; refine AncT.app ?_ ?_; refine AncT.tag ?_; exact ancB_nil; refine AncT.app ?_ ?_; refine AncT.tag ?_; exact ancB_nil; refine AncT.app ?_ ?_; refine AncT.tag ?_; exact ancB_nil; refine AncT.cons ?_ ?_; exact ancB_nil; refine AncT.cons ?_ ?_; exact ancB_nil; exact AncT.nil)) (by rcases List.mem_append.1 hp with hp | hp; · { have hp := hin3 p hp; simp [fsOf, tsOf, tsNew, tsTag, markAll, Function.comp_def, hp] }; · { have hp := hin10 p hp; simp [fsOf, tsOf, tsNew, tsTag, markAll, Function.comp_def, hp] })) (fun w _ hu => ?_) ?_
          · have h := rcSame_calls y3 y10 (fewC M) (fewC M) hyn3.val (hcy10.num hcn).val w (hrows3 w fun q hq => hu q (List.mem_append_left _ hq)) (hrows10 w fun q hq => hu q (List.mem_append_right _ hq))
            rw [decide_eq_true (hcy3.same hcy10)] at h
            exact h
          (try simp only [markAll_cons, markAll_app, markAll_tsOf, markAll_tag, markAll_new, markAll_nil])
          ((try simp only [tsOf_cons, tsOf_nil, tsOf_app]); refine dwz (.notT rfl (by with_reducible rfl)) ?_; refine dvz (.pickF' rfl (by with_reducible rfl) rfl) ?_; refine dvz (.move rfl) ?_; refine dwz (.fieldAddr rfl rfl) ?_; apply DW.loadO; rfl; rfl; rfl; apply wantYes; rfl; rfl; (with_reducible rfl); rfl; apply TRead.app; apply TRead.app; apply TRead.app; apply TRead.head; exact ancB_nil; exact ov_rd2; refine dwz (.move rfl) ?_; apply DW.nil; simp only [fsOf_cons, fsOf_nil, fsOf_app, fsOf_tsOf, fsOf_new, fsOf_tag, fsOf_mark])
          have hEq : ∀ w', (∀ q ∈ go, w'.heap[q.1]? = some q.2) → (∀ q ∈ gw, w'.heap[q.1]? = some q.2) → Calls Tryz.prog 18 #[.slice q1 lp.length k1, .slice q2 lp.length k2] w' (Ret w' (.bool true)) := fun w' h h3 => by
            have h := sEqB_calls lp lp _ _ w' (bM_at ho1 h) (bM_at hw1 h3)
            rwa [decide_eq_true rfl] at h
          (refine gTz ?_; apply LW.callE; rfl; rfl; infer_instance; exact .cons rfl (.cons rfl .nil); intro w _; rename_i hst; (exact hEq w (st_ou hst (by (repeat (first | exact List.Sublist.refl _ | exact List.sublist_append_left _ _ | apply List.Sublist.cons | apply List.sublist_append_of_sublist_right)))) (st_ou hst (by (repeat (first | exact List.Sublist.refl _ | exact List.sublist_append_left _ _ | apply List.Sublist.cons | apply List.sublist_append_of_sublist_right))))); refine gTz ?_; refine lvz (.notT rfl (by with_reducible rfl)) ?_; refine pFz ?_; refine nNz ?_; refine cFz ?_; refine CW.skip ?_; refine blkN ?_; refine thenN ?_; refine CW.region ?_; refine lvz (.addZL rfl rfl (by decide) (by omega)) ?_; refine vMz ?_; apply LW.nil)
          apply thenX
          exact ⟨rfl, m + 1, ⟨hlt, h8⟩, by omega, ⟨rfl, rfl, rfl, rfl, rfl, rfl, rfl, rfl, trivial⟩, by (apply List.sublist_append_of_sublist_right; apply List.sublist_append_of_sublist_right; apply List.sublist_append_of_sublist_right; apply List.Sublist.cons; exact List.Sublist.refl _)⟩
    · obtain rfl : m = 8 := by omega
      (refine sRz ?_; refine lvz (.lssT rfl rfl (by omega)) ?_; refine nNz ?_; refine CW.seq ?_; refine cTz ?_; refine CW.skip ?_; refine thenN ?_; refine CW.seq ?_; refine CW.block ?_; refine sRz ?_; refine vMz ?_; refine lvz (.indexAddrSL rfl rfl (by decide) (by omega)) ?_; apply LW.load; rfl; rfl; exact Known.ext (by assumption) (by simp); assumption; apply LW.allocA; rfl; intro _; refine vAz ?_; apply LW.store; rfl; rfl; apply SetAt.head; apply ov_wrW; rfl; exact ⟨_, _, _, rfl⟩; refine nNz ?_; refine CW.seq ?_; refine sRz ?_; refine vMz ?_; refine lvz (.eqT rfl rfl (by omega)) ?_; refine nNz ?_; refine cTz ?_; refine CW.exit ?_; refine thenE ?_; refine blkO rfl ?_; refine thenE ?_; refine thenE ?_; refine blkE rfl ?_; refine thenN ?_; refine sRz ?_; refine vAz ?_; refine nNz ?_; refine CW.ret ?_)
      (apply finR; exact .inl rfl; rfl; rfl; rfl; apply ResL.cons; exact Res.tmp rfl; exact ResL.nil)
      rfl
  · (refine sRz ?_; refine lvz (.lssF rfl rfl (by omega)) ?_; refine nNz ?_; refine CW.seq ?_; refine cFz ?_; refine CW.exit ?_; refine thenE ?_; refine thenE ?_; refine blkE rfl ?_; refine thenN ?_; refine sRz ?_; refine vAz ?_; refine nNz ?_; refine CW.ret ?_)
    (apply finR; exact .inl rfl; rfl; rfl; rfl; apply ResL.cons; exact Res.tmp rfl; exact ResL.nil)
    rfl
end Go.Proofs.YtpgdnfgjbhdbpaaGreatDoor

/-
  Arguments of the laws on frames, calls and their ends, opened.
  Conditions: none.
-/
namespace Go.Proofs.YtpgdnfgjbhdbpaaGreatDoor
open Go Go.RowKit SL
open Go.ChangeShapes Go.WideShapes
set_option linter.unusedVariables false
section op
variable {H : Type} {enc : TypeId × Value → H} {P : Program} {w W : World} {held : Bool} {r : Reach} {base : Nat} {T E : TypeId} {v : Value} {d : DataW H} {ps : List MemPlace}
def aggB (P : Program) (T : TypeId) : Bool := match P.underlying T with | some (.struct _) | some (.array _ _) => true | _ => false
/-- An argument that is a struct, or an array. -/
theorem open_agg {α : Type} {g : α → List Value} {Q : α → Prop} {e : Ty} (hs : aggB P T = true) (hT : e.ok P (.inl T) = true) (he : ∀ cs', e.is w cs' → ∃ x, Q x ∧ cs' = g x)
    (hv : Value.okWide P W r base T v) (h : DataW.Trod enc P w 0 (fun _ => true) held T v d ps) : ∃ x : α, Q x ∧ v = .agg (g x).toArray := by
  obtain ⟨cs, rfl⟩ : ∃ cs, v = .agg cs := by
    unfold aggB at hs
    unfold Value.okWide at hv
    split at hs
    · rename_i fs hu
      simp only [hu] at hv
      obtain ⟨cs, h1, _⟩ := hv
      exact ⟨cs, h1⟩
    · rename_i n e hu
      simp only [hu] at hv
      obtain ⟨cs, h1, _⟩ := hv
      exact ⟨cs, h1⟩
    · cases hs
  obtain ⟨x, hx, he2⟩ := he _ (open_one hT h)
  exact ⟨x, hx, congrArg Value.agg (Array.toList_inj.1 he2)⟩
theorem is_wrow {cs : List Value} (h : (Ty.sl .word).is w cs) : ∃ x : Value × List Nat, (RowAt w 4 x.1 x.2.length (wcs x.2) ∧ ∀ u ∈ x.2, u < M256) ∧ cs = [x.1] := by
  obtain ⟨v, l, h1, h2, h3⟩ := sl_rows (g := fun u : Nat => (wc u).toList) (Q := fun u => u < M256) (sz := 4) rfl (by decide) (fun _ h => is_word h) h
  exact ⟨(v, l), ⟨h3, fun u hu => (h2 u hu).1⟩, h1⟩
theorem is_i64 {cs : List Value} (h : (Ty.int .i64).is w cs) : ∃ n : Int, cs = [.int .i64 n] := by
  obtain ⟨n, rfl, _⟩ := h
  exact ⟨n, rfl⟩
def tySc : Ty := .pair (.sl .word) (.pair tyBs .unit)
def tyFr : Ty := .pair tyBs (.pair (.int .i64) (.pair tySc (.pair (.int .u64) (.pair (.int .u64) (.pair (.int .u64) (.pair .word (.pair tyBs (.pair tyBs (.pair .bool .unit)))))))))
theorem is_fr {cs : List Value} (h : tyFr.is w cs) : ∃ p : FrV × FrL, (FrRows w p.1 p.2 ∧ FrNum p.1 p.2) ∧ cs = frc p.1 := by
  obtain ⟨_, _, rfl, h0, h⟩ := pair_is h
  obtain ⟨_, _, rfl, h1, h⟩ := pair_is h
  obtain ⟨_, _, rfl, h2, h⟩ := pair_is h
  obtain ⟨_, _, rfl, h3, h⟩ := pair_is h
  obtain ⟨_, _, rfl, h4, h⟩ := pair_is h
  obtain ⟨_, _, rfl, h5, h⟩ := pair_is h
  obtain ⟨_, _, rfl, h6, h⟩ := pair_is h
  obtain ⟨_, _, rfl, h7, h⟩ := pair_is h
  obtain ⟨_, _, rfl, h8, h⟩ := pair_is h
  obtain ⟨_, _, rfl, h9, h⟩ := pair_is h
  obtain rfl : _ = [] := h
  obtain ⟨_, _, rfl, ha, h2⟩ := pair_is h2
  obtain ⟨_, _, rfl, hb, h2⟩ := pair_is h2
  obtain rfl : _ = [] := h2
  obtain ⟨⟨v0, l0⟩, b0, rfl⟩ := is_bytes h0
  obtain ⟨n1, rfl⟩ := is_i64 h1
  obtain ⟨⟨va, la⟩, ⟨ba, ca⟩, rfl⟩ := is_wrow ha
  obtain ⟨⟨vb, lb⟩, bb, rfl⟩ := is_bytes hb
  obtain ⟨n3, b3, rfl⟩ := is_u64 h3
  obtain ⟨n4, b4, rfl⟩ := is_u64 h4
  obtain ⟨n5, b5, rfl⟩ := is_u64 h5
  obtain ⟨n6, b6, rfl⟩ := is_word h6
  obtain ⟨⟨v7, l7⟩, b7, rfl⟩ := is_bytes h7
  obtain ⟨⟨v8, l8⟩, b8, rfl⟩ := is_bytes h8
  obtain ⟨f9, rfl⟩ := h9
  exact ⟨(⟨v0, n1, va, vb, n3, n4, n5, n6, v7, v8, f9⟩, ⟨l0, la, lb, l7, l8⟩), ⟨⟨b0, ba, bb, b7, b8⟩, ⟨b3, b4, b5, b6, ca⟩⟩, rfl⟩
/-- .. whom it calls is a number. -/
theorem is_clD {cs : List Value} (h : tyCl.is w cs) : ∃ p : ClV × ClL, (ClRows w p.1 p.2 ∧ ClNum p.1 ∧ p.1.dst < 18446744073709551616) ∧ cs = clc p.1 := by
  obtain ⟨⟨x, X⟩, ⟨h1, h2⟩, e⟩ := is_cl h
  refine ⟨(x, X), ⟨h1, h2, ?_⟩, e⟩
  obtain ⟨a, b, e1, h0, h⟩ := pair_is h
  obtain ⟨a2, b2, rfl, h1, h⟩ := pair_is h
  obtain ⟨n0, rfl⟩ := is_byte h0
  obtain ⟨n1, b1, rfl⟩ := is_u64 h1
  rw [e1] at e
  simp only [clp, clc, List.cons_append, List.nil_append, List.cons.injEq, Value.int.injEq, true_and] at e
  have h5 := e.2.1
  show x.dst < _
  omega
def tyOv : Ty := .pair .bool (.pair (.int .u64) (.pair tyBs .unit))
theorem is_ov {cs : List Value} (h : tyOv.is w cs) : ∃ x : OvV, (RowAt w 1 x.out x.l.length (ucs x.l) ∧ x.left < 18446744073709551616) ∧ cs = ovp x := by
  obtain ⟨_, _, rfl, h0, h⟩ := pair_is h
  obtain ⟨_, _, rfl, h1, h⟩ := pair_is h
  obtain ⟨_, _, rfl, h2, h⟩ := pair_is h
  obtain rfl : _ = [] := h
  obtain ⟨f0, rfl⟩ := h0
  obtain ⟨n1, b1, rfl⟩ := is_u64 h1
  obtain ⟨⟨v2, l2⟩, b2, rfl⟩ := is_bytes h2
  exact ⟨⟨f0, n1, v2, l2⟩, ⟨b2, b1⟩, rfl⟩
end op
end Go.Proofs.YtpgdnfgjbhdbpaaGreatDoor
