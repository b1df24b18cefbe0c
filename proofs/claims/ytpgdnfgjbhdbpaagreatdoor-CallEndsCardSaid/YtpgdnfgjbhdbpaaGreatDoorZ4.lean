/-
  Texts that were built apart, put behind one another (4 of 6): NC ND NE NF NG Smy Smz NH NI NJ NK.
  Conditions: none.
-/
import Derived.Test.YtpgdnfgjbhdbpaaGreatDoorZ3
import Derived.Laws.IdiomCopy
/-
  Frames that are told what they asked for, and in which memory is reached.
  Conditions: none.
-/
namespace Go.Proofs.YtpgdnfgjbhdbpaaGreatDoor
open Go Go.RowKit SL
set_option maxRecDepth 8000
set_option maxHeartbeats 4000000
set_option linter.unusedSimpArgs false
set_option linter.unusedVariables false
attribute [local irreducible] SL.CW SL.LW SL.DW Calls SL.Ret SL.RetG SL.beginQ SL.roundQ SL.rangeQ SL.inQ SL.RW SL.AnyW SL.thenQ SL.thenC SL.thenW SL.blkQ SL.finQ SL.ValP SL.NewP SL.SetP SL.CallP SL.Rd SL.Wr SL.Known
attribute [local irreducible] SL.inP
/-- A frame with another gas, and other words and bytes. -/
def FrV.setR (f : FrV) (g : Nat) (s k : Value) : FrV := { f with gas := g, stk := s, mem := k }
/-- A frame with another gas, and other rows. -/
def FrV.rowsG (f : FrV) (g : Nat) (c s m i b : Value) : FrV := ⟨c, f.pc, s, m, g, f.self, f.frm, f.val, i, b, f.stat⟩
def FrL.setW (L : FrL) (ws : List Nat) : FrL := { L with ws := ws }
theorem FrO.sl {f : FrV} {L : FrL} {gs : Fs} (h : FrO f L gs) : FrSl f := by
  obtain ⟨g1, g2, g3, g4, g5, _, h1, h2, h3, h4, h5⟩ := h
  unfold bM at h1 h3 h4 h5
  unfold wM at h2
  obtain ⟨_, _, h1⟩ := h1.form
  obtain ⟨_, _, h2⟩ := h2.form
  obtain ⟨_, _, h3⟩ := h3.form
  obtain ⟨_, _, h4⟩ := h4.form
  obtain ⟨_, _, h5⟩ := h5.form
  exact ⟨⟨_, _, _, h1⟩, ⟨_, _, _, h2⟩, ⟨_, _, _, h3⟩, ⟨_, _, _, h4⟩, ⟨_, _, _, h5⟩⟩
/-! ### Words laid -/
def LayK (b : Nat) (m : MaV) (L : FrL) (gs : Fs) (l : List Nat) (rest : Fs) : Out := fun x fs' =>
  (64 < L.ws.length + l.length ∧ x = .panicked failC ∧ fs' = (b, maO m) :: (gs ++ rest)) ∨
  (L.ws.length + l.length ≤ 64 ∧ ∃ s k gs', x = .returned (.tuple #[]) ∧ FrO (m.fr.setR m.fr.gas s k) (L.setW (L.ws ++ l)) gs' ∧ fs' = (b, maO (m.setF (m.fr.setR m.fr.gas s k))) :: (gs' ++ rest))
theorem lay_calls (w0 : World) (S : List Nat) (b : Nat) (m : MaV) (L : FrL) (gs : Fs) (l : List Nat) (v : Value) (hok : okSc L.ws.length L.ms.length) (hll : l.length ≤ 100000) (hfr : FrO m.fr L gs) (rest : Fs) (w : World)
    (hv : ∀ w', St w0 S ((b, maO m) :: (gs ++ rest)) w' → RowAt w' 4 v l.length (wcs l)) (hs : St w0 S ((b, maO m) :: (gs ++ rest)) w) :
    Calls Tryz.prog 78 #[.pointer (some ⟨b, 0, none⟩), v] w (fun x w' => ∃ fs', LayK b m L gs l rest x fs' ∧ St w0 S fs' w') := by
  have h1 : ∀ w', St w0 S ((b, maO m) :: (gs ++ rest)) w' → RowAt w' 4 m.fr.stk L.ws.length (wcs L.ws) ∧ RowAt w' 1 m.fr.mem L.ms.length (ucs L.ms) ∧ RowAt w' 4 v l.length (wcs l) := fun w' h => by
    have hr := hfr.st h fun p hp => List.mem_cons_of_mem _ (List.mem_append_left _ hp)
    exact ⟨hr.s, hr.m, hv w' h⟩
  rcases Nat.lt_or_ge 64 (L.ws.length + l.length) with hlt | hge
  · refine Calls.mono (lay_full w0 S b m L.ws L.ms l v (gs ++ rest) w hs h1 hok hll hlt) ?_
    rintro x w' ⟨fs', ⟨rfl, c4, rfl⟩, hst⟩
    exact ⟨_, .inl ⟨hlt, rfl, rfl⟩, st_sub hst (List.Sublist.cons _ (List.Sublist.refl _))⟩
  · refine Calls.mono (lay_ok w0 S b m L.ws L.ms l v (gs ++ rest) w hs h1 hok hll hge) ?_
    rintro x w' ⟨fs', ⟨rfl, s, k, gs2, c4, ⟨s', k', gg1, gg2, he, rfl, hw1, hb1⟩, rfl⟩, hst⟩
    cases he
    obtain ⟨g1, g2, g3, g4, g5, hp, hall⟩ := hfr
    replace hst := hst.perm (fs' := c4 :: ((gg2 ++ gg1) ++ (b, maO (m.setSc s k)) :: ((g1 ++ (g2 ++ (g3 ++ (g4 ++ g5)))) ++ rest))) (List.Perm.cons _ (List.Perm.append_left _ (List.Perm.cons _ (hp.append_right rest))))
    refine ⟨_, .inr ⟨hge, s, k, g1 ++ (gg1 ++ (gg2 ++ (g4 ++ g5))), rfl, ⟨g1, gg1, gg2, g4, g5, .refl _, hall.1, hw1, hb1, hall.2.2.2.1, hall.2.2.2.2⟩, rfl⟩, SubP.st ?_ hst⟩
    simp only [List.append_assoc, List.cons_append, List.nil_append]
    exact subp_ix [[_], gg2, gg1, [_], g1, g2, g3, g4, g5] (xs := [3, 4, 2, 1, 7, 8]) (ys := [0, 1, 2, 3, 4, 5, 6, 7, 8]) rest rfl
/-! ### Something is done to a frame -/
def DoK (b : Nat) (f : FrV) (R : Option (Nat × FrL)) (rest : Fs) : Out := fun x fs' => match R with
  | none => x = .panicked failC ∧ fs' = rest
  | some (g, L') => ∃ s k gs', x = .returned (.tuple #[]) ∧ FrO (f.setR g s k) L' gs' ∧ fs' = (b, maO (ma0 (f.setR g s k) 0 0 0 0)) :: (gs' ++ rest)
def zeroF : FrV := ⟨.slice none 0 0, 0, .slice none 0 0, .slice none 0 0, 0, 0, 0, 0, .slice none 0 0, .slice none 0 0, false⟩
def zeroL : FrL := ⟨[], [], [], [], []⟩
theorem zero_frO : FrO zeroF zeroL [] := ⟨[], [], [], [], [], .refl _, .nil, .nil, .nil, .nil, .nil⟩
def ToldK (f : FrV) (R : Option (Nat × FrL)) (fs : Fs) : Out := fun x fs' => match R with
  | none => x = .returned (.tuple #[frv zeroF, .bool false]) ∧ fs' = fs
  | some (g, L') => ∃ c s m i b gs', x = .returned (.tuple #[frv (f.rowsG g c s m i b), .bool true]) ∧ FrO (f.rowsG g c s m i b) L' gs' ∧ fs' = gs' ++ fs
/-- What a function does to each machine that begins as this frame. -/
def Does (w0 : World) (S : List Nat) (f : FrV) (L : FrL) (fs : Fs) (fn : FuncId) (cap : Array Value) (R : Option (Nat × FrL)) : Prop :=
  ∀ b c s m i b5 gs rest w', FrO (f.rows c s m i b5) L gs → (∀ p ∈ fs, p ∈ rest) → St w0 S ((b, maO (ma0 (f.rows c s m i b5) 0 0 0 0)) :: (gs ++ rest)) w' →
    Calls Tryz.prog fn (Value.pointer (some ⟨b, 0, none⟩) :: cap.toList).toArray w' (fun x w'' => ∃ fs', DoK b (f.rows c s m i b5) R rest x fs' ∧ St w0 S fs' w'')
theorem told1_calls (w0 : World) (S : List Nat) (f : FrV) (L : FrL) (fs : Fs) (fn : FuncId) (cap : Array Value) (R : Option (Nat × FrL)) (hF : FnI Tryz.prog fn) (hd : Does w0 S f L fs fn cap R) (b b3 b6 : Nat) (c s m i b5 : Value) (gs R0 : Fs) (hfr : FrO (f.rows c s m i b5) L gs)
    (hsub : ∀ p ∈ fs, p ∈ R0) (h3 : (b3, Obj.cells #[.func (.func fn) #[] cap] 119 (0, 0)) ∈ R0) (h6 : (b6, Obj.cells #[.pointer (some ⟨b, 0, none⟩)] 116 (0, 0)) ∈ R0) (w : World) (hs : St w0 S ((b, maO (ma0 (f.rows c s m i b5) 0 0 0 0)) :: (gs ++ R0)) w) :
    Calls Tryz.prog 115 #[.pointer (some ⟨b3, 0, none⟩), .pointer (some ⟨b6, 0, none⟩)] w (fun x w' => ∃ fs', DoK b (f.rows c s m i b5) R R0 x fs' ∧ St w0 S fs' w') := by
  have k3 : (b3, Obj.cells #[.func (.func fn) #[] cap] 119 (0, 0)) ∈ (b, maO (ma0 (f.rows c s m i b5) 0 0 0 0)) :: (gs ++ R0) := List.mem_cons_of_mem _ (List.mem_append_right _ h3)
  have k6 : (b6, Obj.cells #[.pointer (some ⟨b, 0, none⟩)] 116 (0, 0)) ∈ (b, maO (ma0 (f.rows c s m i b5) 0 0 0 0)) :: (gs ++ R0) := List.mem_cons_of_mem _ (List.mem_append_right _ h6)
  refine calls_inlineP (K := DoK b (f.rows c s m i b5) R R0) (args := [_, _]) Tryz.func115 rfl Tryz.ntmps115 rfl ?_ hs
  (refine CW.region ?_; apply LW.load; rfl; rfl; exact Known.own k3; exact Rd.one' rfl; apply LW.load; rfl; rfl; exact Known.own k6; exact Rd.one' rfl)
  refine LW.callP (K := DoK b (f.rows c s m i b5) R R0) (aas := .pointer (some ⟨b, 0, none⟩) :: cap.toList) rfl rfl hF (by (exact .cons rfl .nil)) rfl (fun fs h => ?_) (fun w' hst => hd b c s m i b5 gs R0 w' hfr hsub hst) ?_ ?_
  · unfold DoK at h
    cases R with
    | none => cases h.1
    | some x => obtain ⟨_, _, _, h, _⟩ := h; cases h
  · intro v fs' h
    cases R with
    | none => cases h.1
    | some x =>
      obtain ⟨s', k', gs', h1, h2, h3⟩ := h
      cases h1
      (apply LW.nil)
      exact inPI (.inr rfl) .nil rfl .nil rfl ⟨s', k', gs', rfl, h2, h3⟩
  · intro ch fs' h
    cases R with
    | none =>
      obtain ⟨h1, h2⟩ := h
      cases h1
      exact inPP .nil ⟨rfl, h2⟩
    | some x => obtain ⟨_, _, _, h, _⟩ := h; cases h
theorem DoK.try {b : Nat} {f : FrV} {R : Option (Nat × FrL)} {fs : Fs} : TryK (DoK b f R fs) := fun x fs' h => by
  cases R with
  | none => exact .inr h.1
  | some x => obtain ⟨_, _, _, h, _⟩ := h; exact .inl h
theorem DoK.app {b : Nat} {f : FrV} {R : Option (Nat × FrL)} {R0 rest : Fs} {x : Ending} {fs' : Fs} (h : DoK b f R (R0 ++ rest) x fs') : ∃ own', DoK b f R R0 x own' ∧ fs' = own' ++ rest := by
  cases R with
  | none =>
    obtain ⟨h1, rfl⟩ := h
    exact ⟨R0, ⟨h1, rfl⟩, rfl⟩
  | some x =>
    obtain ⟨s, k, gs', h1, h2, rfl⟩ := h
    exact ⟨_, ⟨s, k, gs', h1, h2, rfl⟩, by simp⟩
section rd
variable {P : Program} {T E : TypeId} {fr : Nat × Nat} {m : MaV}
theorem ma_rdF [AgI P T true] {z : Value} [InfoI P T 14 z] : Rd P T (.cells (mca m) E fr) 0 (frv m.fr) := Rd.mid (cs := frc m.fr) rfl rfl
end rd
theorem told_calls (w0 : World) (S : List Nat) (f : FrV) (L : FrL) (fs : Fs) (fn : FuncId) (cap : Array Value) (R : Option (Nat × FrL)) (hl : L.short) (hF : FnI Tryz.prog fn) (hd : Does w0 S f L fs fn cap R) (hok : okF f L) (w : World) (hs : St w0 S fs w) (hf : ∀ w', Bel w0.heap.size S w0 w' → FrRows w' f L) :
    Calls Tryz.prog 75 #[frv f, .func (.func fn) #[] cap] w (fun x w' => ∃ fs', ToldK f R fs x fs' ∧ St w0 S fs' w') := by
  refine calls_anyO (calls_inlineP (K := anyO (ToldK f R fs)) (args := [_, _]) Tryz.func75 rfl Tryz.ntmps75 rfl ?_ hs)
  (refine sRz ?_; apply LW.boxA; rfl; rfl; intro _; apply LW.box1; rfl; rfl; rfl; intro _; apply LW.allocA; rfl; intro _; refine vAz ?_; refine nNz ?_; refine CW.seq ?_; refine sRz ?_; refine ldz rfl (.tail (.tail .head)) (Rd.whole rfl) ?_)
  (apply LW.callE; rfl; rfl; infer_instance; exact .cons rfl .nil; intro w _)
  rename_i hst
  have h0 := fCheck_calls f L w (hf w hst.bel)
  rw [if_pos hok] at h0
  exact h0
  (refine lvz (.neF rfl rfl (by omega)) ?_; refine nNz ?_; refine cFz ?_; refine CW.skip ?_; refine thenN ?_; refine sRz ?_; refine ldz rfl (.tail (.tail .head)) (Rd.whole rfl) ?_; apply LW.v0; rfl; rfl; apply ValP.buildT; infer_instance; infer_instance; exact PartsOk.nil; rfl; simp only [fillP, wrCells, Value.cells, List.getElem?_cons_zero, List.getElem?_cons_succ, List.toList_toArray, List.setIfInBounds_toArray, List.set_cons_succ, List.set_cons_zero, Nat.reduceAdd, Nat.zero_add]; rfl)
  (apply LW.callR; rfl; rfl; infer_instance; exact .cons rfl (.cons rfl .nil); intro w hs)
  exact fOf_calls f L 0 0 0 0 hl w (hf w hs.bel)
  rintro v gso ⟨bm, c, s, m, i, b5, g, rfl, rfl, hfr⟩
  rename_i b2 b3 b4
  (apply LW.alloc1; rfl; rfl; intro _; apply LW.store; rfl; rfl; apply SetAt.head; apply Wr.cells; rfl; rfl; simp only [wc, List.size_toArray, List.length_cons, List.length_nil]; omega; simp only [fillC, wc, wrCells, Value.cells, List.toList_toArray, List.setIfInBounds_toArray, List.set_cons_succ, List.set_cons_zero, Nat.reduceAdd, Nat.reduceMul, Nat.zero_add, Nat.mul_one]; rfl; refine nNz ?_; refine CW.seq ?_; refine sRz ?_; apply LW.v0; rfl; rfl; apply ValP.makeFunc; exact ArgsOk.nil; exact .cons rfl (.cons rfl .nil))
  rename_i b6
  refine LW.perm (fs' := (bm, maO (ma0 (f.rows c s m i b5) 0 0 0 0)) :: (g ++ ((b6, .cells #[.pointer (some ⟨bm, 0, none⟩)] 116 (0, 0)) :: (b4, .cells #[.slice none 0 0, .int .i64 0, .slice none 0 0, .slice none 0 0, .int .u64 0, .int .u64 0, .int .u64 0, .int .u64 0, .int .u64 0, .int .u64 0, .int .u64 0, .slice none 0 0, .slice none 0 0, .bool false] 31 (0, 0)) :: (b3, .cells #[.func (.func fn) #[] cap] 119 (0, 0)) :: (b2, .cells (fra f) 31 (0, 0)) :: fs))) ?_ ?_
  · simp only [List.cons_append]
    exact perm_ix [[_], [_], g, [_], [_], [_]] (xs := [1, 2, 0, 3, 4, 5]) (ys := [0, 1, 2, 3, 4, 5]) fs rfl
  generalize hR0 : ((b6, Obj.cells #[.pointer (some ⟨bm, 0, none⟩)] 116 (0, 0)) :: (b4, Obj.cells #[.slice none 0 0, .int .i64 0, .slice none 0 0, .slice none 0 0, .int .u64 0, .int .u64 0, .int .u64 0, .int .u64 0, .int .u64 0, .int .u64 0, .int .u64 0, .slice none 0 0, .slice none 0 0, .bool false] 31 (0, 0)) :: (b3, Obj.cells #[.func (.func fn) #[] cap] 119 (0, 0)) :: (b2, Obj.cells (fra f) 31 (0, 0)) :: fs) = R0
  refine LW.callP (K := fun x fs' => ∃ ok own', x = .returned (.bool ok) ∧ DoK bm (f.rows c s m i b5) R R0 (match ok with | true => .returned (.tuple #[]) | false => .panicked failC) own' ∧ fs' = own' ++ []) rfl rfl inferInstance (by (exact .cons rfl .nil)) rfl (fun fs h => by obtain ⟨_, _, h, _⟩ := h; cases h)
    (fun w' hst => tries_calls w0 S 115 #[.pointer (some ⟨b3, 0, none⟩), .pointer (some ⟨b6, 0, none⟩)] (DoK bm (f.rows c s m i b5) R R0) DoK.try inferInstance ((bm, maO (ma0 (f.rows c s m i b5) 0 0 0 0)) :: (g ++ R0)) [] w' (fun rest w2 h2 => ?_) (by rw [List.append_nil]; exact hst)) ?_ ?_
  · rw [List.cons_append, List.append_assoc] at h2
    refine Calls.mono (told1_calls w0 S f L fs fn cap R hF hd bm b3 b6 c s m i b5 g (R0 ++ rest) hfr ?_ ?_ ?_ w2 h2) ?_
    · intro p hp; rw [← hR0]; simp [hp]
    · rw [← hR0]; simp
    · rw [← hR0]; simp
    · rintro x w3 ⟨fs', hk, h3⟩
      obtain ⟨own', h4, rfl⟩ := hk.app
      exact ⟨_, ⟨own', h4, rfl⟩, h3⟩
  · rintro v fs' ⟨ok, own', h1, h2, rfl⟩
    cases h1
    rw [List.append_nil]
    cases R with
    | none =>
      obtain ⟨h3, rfl⟩ := h2
      cases ok with
      | true => cases h3
      | false =>
        subst hR0
        (refine lvz (.notF rfl (by with_reducible rfl)) ?_; refine nNz ?_; refine cTz ?_; refine sRz ?_; apply LW.v0; rfl; rfl; apply ValP.buildT; infer_instance; infer_instance; exact PartsOk.nil; rfl; simp only [fillP, wrCells, Value.cells, List.getElem?_cons_zero, List.getElem?_cons_succ, List.toList_toArray, List.setIfInBounds_toArray, List.set_cons_succ, List.set_cons_zero, Nat.reduceAdd, Nat.zero_add]; rfl; refine LW.store rfl rfl (.tail .head) (.whole rfl rfl rfl) ?_; refine vAz ?_; refine nNz ?_; refine CW.ret ?_; refine thenR ?_)
        refine inPI (.inl rfl) .nil rfl (by (apply ResL.cons; apply Res.cell; rfl; apply Known.at; apply FsAt.tail; apply FsAt.head; exact Rd.whole rfl; apply ResL.cons; exact Res.tmp rfl; exact ResL.nil)) rfl ⟨fs, ⟨rfl, rfl⟩, subp_ix [[_], [_], [_], [_]] (xs := []) (ys := [0, 1, 2, 3]) fs rfl⟩
    | some x =>
      obtain ⟨gg, L'⟩ := x
      obtain ⟨s', k', gs', h3, h4, rfl⟩ := h2
      cases ok with
      | false => cases h3
      | true =>
        subst hR0
        have hsl : FrSl (ma0 ((f.rows c s m i b5).setR gg s' k') 0 0 0 0).fr := h4.sl
        (refine lvz (.notT rfl (by with_reducible rfl)) ?_; refine nNz ?_; refine cFz ?_; refine CW.skip ?_; refine thenN ?_; refine sRz ?_; refine ldz rfl (.tail (.app .head)) (Rd.one' rfl) ?_; refine vNz ?_; refine vFz ?_; refine ldz rfl .head ma_rdF ?_; apply LW.store; rfl; rfl; apply SetAt.tail; apply SetAt.app; apply SetAt.tail; apply SetAt.head; apply fr_wrW; rfl; assumption; refine vAz ?_; refine nNz ?_; refine CW.ret ?_)
        refine inPI (.inl rfl) .nil rfl (by (apply ResL.cons; apply Res.cell; rfl; apply Known.at; apply FsAt.tail; apply FsAt.app; apply FsAt.tail; apply FsAt.head; exact Rd.whole rfl; apply ResL.cons; exact Res.tmp rfl; exact ResL.nil)) rfl ⟨gs' ++ fs, ⟨c, s', k', i, b5, gs', rfl, h4, rfl⟩, subp_ix [[_], gs', [_], [_], [_], [_]] (xs := [1]) (ys := [0, 1, 2, 3, 4, 5]) fs rfl⟩
  · rintro ch fs' ⟨_, _, h, _⟩
    cases h
end Go.Proofs.YtpgdnfgjbhdbpaaGreatDoor

/-
  Frames in which memory is reached; frames that are told what they asked for.
  Conditions: none.
-/
namespace Go.Proofs.YtpgdnfgjbhdbpaaGreatDoor
open Go Go.RowKit SL
set_option maxRecDepth 8000
set_option maxHeartbeats 4000000
set_option linter.unusedSimpArgs false
set_option linter.unusedVariables false
attribute [local irreducible] SL.CW SL.LW SL.DW Calls SL.Ret SL.RetG SL.beginQ SL.roundQ SL.rangeQ SL.inQ SL.RW SL.AnyW SL.thenQ SL.thenC SL.thenW SL.blkQ SL.finQ SL.ValP SL.NewP SL.SetP SL.CallP SL.Rd SL.Wr SL.Known
attribute [local irreducible] SL.inP
def ToldR (f : FrV) (R : Option (Nat × FrL)) (v : Value) (gs : Fs) : Prop := match R with
  | none => v = .tuple #[frv zeroF, .bool false] ∧ gs = []
  | some (g, L') => ∃ c s m i b, v = .tuple #[frv (f.rowsG g c s m i b), .bool true] ∧ FrO (f.rowsG g c s m i b) L' gs
def reachR (f : FrV) (L : FrL) (a n : Nat) : Option (Nat × FrL) := if costR L a n ≤ f.gas then some (f.gas - costR L a n, memR L a n) else none
def tellR (f : FrV) (L : FrL) (cost : Nat) (l : List Nat) : Option (Nat × FrL) := if cost ≤ f.gas ∧ L.ws.length + l.length ≤ 64 then some (f.gas - cost, L.setW (L.ws ++ l)) else none
theorem okF.short {f : FrV} {L : FrL} (h : okF f L) : L.short := by
  obtain ⟨⟨h1, h2, _⟩, _, h4, ⟨h5, h6, _⟩, _⟩ := h
  exact ⟨by omega, by omega, by omega, by omega, by omega⟩
/-! ### Frames that may not be -/
theorem told_bad (w0 : World) (S : List Nat) (f : FrV) (L : FrL) (fs : Fs) (fn : FuncId) (cap : Array Value) (hok : ¬ okF f L) (w : World) (hs : St w0 S fs w) (hf : ∀ w', Bel w0.heap.size S w0 w' → FrRows w' f L) :
    Calls Tryz.prog 75 #[frv f, .func (.func fn) #[] cap] w (fun x w' => ∃ fs', ToldK f none fs x fs' ∧ St w0 S fs' w') := by
  have hC : ∀ w' {fs}, St w0 S fs w' → Calls Tryz.prog 31 #[frv f] w' (Ret w' (.int .i64 240)) := fun w' fs hst => by
    have h0 := fCheck_calls f L w' (hf w' hst.bel)
    rw [if_neg hok] at h0
    exact h0
  refine calls_anyO (calls_inlineP (K := anyO (ToldK f none fs)) (args := [_, _]) Tryz.func75 rfl Tryz.ntmps75 rfl ?_ hs)
  (refine sRz ?_; apply LW.boxA; rfl; rfl; intro _; apply LW.box1; rfl; rfl; rfl; intro _; apply LW.allocA; rfl; intro _; refine vAz ?_; refine nNz ?_; refine CW.seq ?_; refine sRz ?_; refine ldz rfl (.tail (.tail .head)) (Rd.whole rfl) ?_; apply LW.callE; rfl; rfl; infer_instance; exact .cons rfl .nil; intro w _; exact hC w (by assumption); refine lvz (.neT rfl rfl (by omega)) ?_; refine nNz ?_; refine cTz ?_; refine sRz ?_; apply LW.v0; rfl; rfl; apply ValP.buildT; infer_instance; infer_instance; exact PartsOk.nil; rfl; simp only [fillP, wrCells, Value.cells, List.getElem?_cons_zero, List.getElem?_cons_succ, List.toList_toArray, List.setIfInBounds_toArray, List.set_cons_succ, List.set_cons_zero, Nat.reduceAdd, Nat.zero_add]; rfl; refine LW.store rfl rfl .head (.whole rfl rfl rfl) ?_; refine vAz ?_; refine nNz ?_; refine CW.ret ?_; refine thenR ?_)
  refine inPI (.inl rfl) .nil rfl (by (apply ResL.cons; apply Res.cell; rfl; apply Known.at; apply FsAt.head; exact Rd.whole rfl; apply ResL.cons; exact Res.tmp rfl; exact ResL.nil)) rfl ⟨fs, ⟨rfl, rfl⟩, subp_ix [[_], [_], [_]] (xs := []) (ys := [0, 1, 2]) fs rfl⟩
/-! ### Memory reached -/
theorem reach1_does (w0 : World) (S : List Nat) (f : FrV) (L : FrL) (a n : Nat) (ha : a < M256) (hn : n < M256) (hok : okF f L) (fs : Fs) (b4 b5 : Nat) (k4 : (b4, Obj.cells (wc a) 29 (0, 0)) ∈ fs) (k5 : (b5, Obj.cells (wc n) 29 (0, 0)) ∈ fs) :
    Does w0 S f L fs 145 #[.pointer (some ⟨b4, 0, none⟩), .pointer (some ⟨b5, 0, none⟩)] (reachR f L a n) := by
  intro b c s m i b0 gs rest w hfr hsub hs
  have k4 := List.mem_cons_of_mem (b, maO (ma0 (f.rows c s m i b0) 0 0 0 0)) (List.mem_append_right gs (hsub _ k4))
  have k5 := List.mem_cons_of_mem (b, maO (ma0 (f.rows c s m i b0) 0 0 0 0)) (List.mem_append_right gs (hsub _ k5))
  refine calls_anyO (calls_inlineP (K := anyO (DoK b (f.rows c s m i b0) (reachR f L a n) rest)) (args := [_, _, _]) Tryz.func145 rfl Tryz.ntmps145 rfl ?_ hs)
  (refine CW.region ?_; refine vMz ?_; apply LW.load; rfl; rfl; exact Known.own k4; exact Rd.whole rfl; apply LW.load; rfl; rfl; exact Known.own k5; exact Rd.whole rfl)
  refine LW.callP (K := ReachK b (ma0 (f.rows c s m i b0) 0 0 0 0) L gs a n rest) rfl rfl inferInstance (by (exact .cons rfl (.cons rfl (.cons rfl .nil)))) rfl (fun fs h => by rcases h with ⟨_, h, _⟩ | ⟨_, _, _, _, h, _⟩ <;> cases h) (fun w' hst => reach_calls w0 S b _ L gs a n ha hn hok.2.2.2.1 hok.1.2.2 hfr rest w' hst) ?_ ?_
  · rintro v fs' (⟨_, h, _⟩ | ⟨hc, s', k', gs', h, hfr', rfl⟩)
    · cases h
    · have hR : reachR f L a n = some (f.gas - costR L a n, memR L a n) := by unfold reachR; exact if_pos hc
      rw [hR]
      cases h
      (apply LW.nil)
      exact inPI (.inr rfl) .nil rfl .nil rfl ⟨_, ⟨s', k', gs', rfl, hfr', rfl⟩, _, .refl _, .refl _⟩
  · rintro ch fs' (⟨hc, h, rfl⟩ | ⟨_, _, _, _, h, _⟩)
    · have hR : reachR f L a n = none := by unfold reachR; exact if_neg (Nat.not_le.2 hc)
      rw [hR]
      cases h
      exact inPP .nil ⟨rest, ⟨rfl, rfl⟩, _, List.Sublist.cons _ (List.sublist_append_right _ _), .refl _⟩
    · cases h
theorem zero_sl : FrSl zeroF := zero_frO.sl
theorem ToldK.ret {f : FrV} {R : Option (Nat × FrL)} {fs fs' : Fs} {x : Ending} (h : ToldK f R fs x fs') : ∃ v, x = .returned v := by
  cases R with
  | none => exact ⟨_, h.1⟩
  | some x => obtain ⟨_, _, _, _, _, _, h, _⟩ := h; exact ⟨_, h⟩
theorem Reach_calls (f : FrV) (L : FrL) (a n : Nat) (ha : a < M256) (hn : n < M256) (w : World) (h : FrRows w f L) : Calls Tryz.prog 123 #[frv f, wv a, wv n] w (RetG w [] (ToldR f (if okF f L then reachR f L a n else none))) := by
  refine enter (args := [_, _, _]) _ [] [] Tryz.func123 rfl Tryz.ntmps123 rfl (by simp) .nil ?_
  have hzs := zero_sl
  (refine sRz ?_; apply LW.boxA; rfl; rfl; intro _; apply LW.boxA; rfl; rfl; intro _; apply LW.boxA; rfl; rfl; intro _; apply LW.allocA; rfl; intro _; refine vAz ?_; refine nSz ?_; refine ldz rfl (.tail (.tail (.tail .head))) (Rd.whole rfl) ?_; apply LW.v0; rfl; rfl; apply ValP.makeFunc; exact ArgsOk.nil; exact .cons rfl (.cons rfl .nil))
  rename_i b3 b4 b5 b6
  refine LW.callP (K := ToldK f (if okF f L then reachR f L a n else none) ((b6, Obj.cells (fra zeroF) 31 (0, 0)) :: (b5, Obj.cells (wc n) 29 (0, 0)) :: (b4, Obj.cells (wc a) 29 (0, 0)) :: (b3, Obj.cells (fra f) 31 (0, 0)) :: [])) rfl rfl inferInstance (by (exact .cons rfl (.cons rfl .nil))) rfl (fun fs h => ?_) (fun w' hst => ?_) ?_ ?_
  · obtain ⟨_, h⟩ := h.ret; cases h
  · by_cases hok : okF f L
    · rw [if_pos hok]
      exact told_calls w [] f L _ _ _ _ hok.short inferInstance (reach1_does w [] f L a n ha hn hok _ b4 b5 (by simp) (by simp)) hok w' hst fun w2 hb => h.bel hb
    · rw [if_neg hok]
      exact told_bad w [] f L _ _ _ hok w' hst fun w2 hb => h.bel hb
  · intro v fs' hk
    cases hR : (if okF f L then reachR f L a n else none) with
    | none =>
      rw [hR] at hk
      obtain ⟨h1, rfl⟩ := hk
      cases h1
      (refine vEz ?_; refine vEz ?_; refine LW.store rfl rfl .head (.whole rfl rfl rfl) ?_; refine vAz ?_; refine nNz ?_; refine CW.ret ?_)
      exact fin (vs := [frv zeroF, .bool false]) [] (.inl rfl) rfl rfl (by (apply ResL.cons; apply Res.cell; rfl; apply Known.at; apply FsAt.head; exact Rd.whole rfl; apply ResL.cons; exact Res.tmp rfl; exact ResL.nil)) (List.nil_sublist _) ⟨rfl, rfl⟩
    | some x =>
      rw [hR] at hk
      obtain ⟨g, L'⟩ := x
      obtain ⟨c, s, m, i, b, gs', h1, hfr, rfl⟩ := hk
      cases h1
      have hsl := hfr.sl
      (refine vEz ?_; refine vEz ?_; apply LW.store; rfl; rfl; apply SetAt.app; apply SetAt.head; apply fr_wrW; rfl; assumption; refine vAz ?_; refine nNz ?_; refine CW.ret ?_)
      exact fin (vs := [frv (f.rowsG g c s m i b), .bool true]) gs' (.inl rfl) rfl rfl (by (apply ResL.cons; apply Res.cell; rfl; apply Known.at; apply FsAt.app; apply FsAt.head; exact Rd.whole rfl; apply ResL.cons; exact Res.tmp rfl; exact ResL.nil)) (List.sublist_append_left _ _) ⟨c, s, m, i, b, rfl, hfr⟩
  · intro ch fs' h
    obtain ⟨_, h⟩ := h.ret
    cases h
/-! ### Words told -/
theorem tell1_does (w0 : World) (S : List Nat) (f : FrV) (L : FrL) (cost : Nat) (l : List Nat) (v : Value) (hll : l.length ≤ 100000) (hv : ∀ w', Bel w0.heap.size S w0 w' → RowAt w' 4 v l.length (wcs l)) (hok : okF f L) (fs : Fs) (b4 b5 : Nat) (k4 : (b4, Obj.cells #[.int .u64 (cost : Int)] 26 (0, 0)) ∈ fs) (k5 : (b5, Obj.cells #[v] 23 (0, 0)) ∈ fs) :
    Does w0 S f L fs 76 #[.pointer (some ⟨b4, 0, none⟩), .pointer (some ⟨b5, 0, none⟩)] (tellR f L cost l) := by
  intro b c s m i b0 gs rest w hfr hsub hs
  have k4 := List.mem_cons_of_mem (b, maO (ma0 (f.rows c s m i b0) 0 0 0 0)) (List.mem_append_right gs (hsub _ k4))
  have k50 := List.mem_cons_of_mem (b, maO (ma0 (f.rows c s m i b0) 0 0 0 0)) (List.mem_append_right gs (hsub _ k5))
  refine calls_anyO (calls_inlineP (K := anyO (DoK b (f.rows c s m i b0) (tellR f L cost l) rest)) (args := [_, _, _]) Tryz.func76 rfl Tryz.ntmps76 rfl ?_ hs)
  (refine sRz ?_; refine vMz ?_; apply LW.load; rfl; rfl; exact Known.own k4; exact Rd.one' rfl; apply LW.lay1; rfl; infer_instance; infer_instance; rfl; rfl; rfl; rfl; rfl; rfl; intro _)
  rename_i b6
  refine LW.perm (fs' := (b, maO (ma0 (f.rows c s m i b0) 0 0 0 0)) :: (gs ++ ((b6, .cells #[.int .u64 (cost : Int)] 26 (0, 0)) :: rest))) ?_ ?_
  · exact perm_ix [[_], [_], gs] (xs := [1, 2, 0]) (ys := [0, 1, 2]) rest rfl
  refine LW.callP (K := MaK b (ma0 (f.rows c s m i b0) 0 0 0 0) (spendM (ma0 (f.rows c s m i b0) 0 0 0 0) [cost]) (gs ++ ((b6, .cells #[.int .u64 (cost : Int)] 26 (0, 0)) :: rest))) rfl rfl inferInstance (by (exact .cons rfl (.cons rfl .nil))) rfl (fun fs h => ?_) (fun w' hst => spend_calls w0 S b _ [cost] (Nat.lt_of_le_of_lt hok.1.2.2 (by decide)) _ _ w' hst (fun w2 h2 => row_cells (h2.own (b6, _) (List.mem_cons_of_mem _ (List.mem_append_right _ List.mem_cons_self))).2 rfl rfl (by simp [maxLen]))) ?_ ?_
  · unfold MaK at h
    split at h <;> cases h.1
  · rcases Nat.lt_or_ge f.gas cost with hlt | hge
    · have hsp : spendM (ma0 (f.rows c s m i b0) 0 0 0 0) [cost] = none := by unfold spendM; rw [if_neg (by simp; exact hlt)]
      rw [hsp]
      rintro v fs' ⟨h, _⟩
      cases h
    · have hsp : spendM (ma0 (f.rows c s m i b0) 0 0 0 0) [cost] = some (ma0 ((f.rows c s m i b0).setR (f.gas - cost) s m) 0 0 0 0) := by unfold spendM; rw [if_pos (by simp; exact hge)]; simp; rfl
      rw [hsp]
      rintro v fs' ⟨h, rfl⟩
      cases h
      have k5 : (b5, Obj.cells #[v] 23 (0, 0)) ∈ (b, maO (ma0 ((f.rows c s m i b0).setR (f.gas - cost) s m) 0 0 0 0)) :: (gs ++ (b6, Obj.cells #[.int .u64 (cost : Int)] 26 (0, 0)) :: rest) := List.mem_cons_of_mem _ (List.mem_append_right _ (List.mem_cons_of_mem _ (hsub _ k5)))
      (refine nNz ?_; refine CW.region ?_; refine vMz ?_; apply LW.load; rfl; rfl; exact Known.own k5; exact Rd.one' rfl)
      have hfr1 : FrO ((f.rows c s m i b0).setR (f.gas - cost) s m) L gs := hfr
      refine LW.callP (K := LayK b (ma0 ((f.rows c s m i b0).setR (f.gas - cost) s m) 0 0 0 0) L gs l ((b6, Obj.cells #[.int .u64 (cost : Int)] 26 (0, 0)) :: rest)) rfl rfl inferInstance (by (exact .cons rfl (.cons rfl .nil))) rfl (fun fs h => by rcases h with ⟨_, h, _⟩ | ⟨_, _, _, _, h, _⟩ <;> cases h) (fun w' hst => lay_calls w0 S b _ L gs l v hok.2.2.2.1 hll hfr1 _ w' (fun w2 h2 => hv w2 h2.bel) hst) ?_ ?_
      · rintro v fs' (⟨_, h, _⟩ | ⟨hc, s', k', gs', h, hfr', rfl⟩)
        · cases h
        · have hR : tellR f L cost l = some (f.gas - cost, L.setW (L.ws ++ l)) := by unfold tellR; exact if_pos ⟨hge, hc⟩
          rw [hR]
          cases h
          (apply LW.nil)
          exact inPI (.inr rfl) .nil rfl .nil rfl ⟨_, ⟨s', k', gs', rfl, hfr', rfl⟩, _, List.Sublist.cons_cons _ (List.Sublist.append_left (List.sublist_cons_self _ _) _), .refl _⟩
      · rintro ch fs' (⟨hc, h, rfl⟩ | ⟨_, _, _, _, h, _⟩)
        · have hR : tellR f L cost l = none := by unfold tellR; exact if_neg (fun h => by omega)
          rw [hR]
          cases h
          exact inPP .nil ⟨rest, ⟨rfl, rfl⟩, _, List.Sublist.cons _ (List.Sublist.trans (List.sublist_cons_self _ _) (List.sublist_append_right _ _)), .refl _⟩
        · cases h
  · rcases Nat.lt_or_ge f.gas cost with hlt | hge
    · have hsp : spendM (ma0 (f.rows c s m i b0) 0 0 0 0) [cost] = none := by unfold spendM; rw [if_neg (by simp; exact hlt)]
      rw [hsp]
      rintro ch fs' ⟨h, rfl⟩
      have hR : tellR f L cost l = none := by unfold tellR; exact if_neg (fun h => by omega)
      rw [hR]
      cases h
      refine thenP ?_
      exact inPP .nil ⟨rest, ⟨rfl, rfl⟩, _, List.Sublist.cons _ (List.Sublist.trans (List.sublist_cons_self _ _) (List.sublist_append_right _ _)), .refl _⟩
    · have hsp : spendM (ma0 (f.rows c s m i b0) 0 0 0 0) [cost] = some (ma0 ((f.rows c s m i b0).setR (f.gas - cost) s m) 0 0 0 0) := by unfold spendM; rw [if_pos (by simp; exact hge)]; simp; rfl
      rw [hsp]
      rintro ch fs' ⟨h, _⟩
      cases h
theorem Tell_calls (f : FrV) (L : FrL) (cost : Nat) (l : List Nat) (v : Value) (hll : l.length ≤ 100000) (w : World) (hv : RowAt w 4 v l.length (wcs l)) (h : FrRows w f L) : Calls Tryz.prog 39 #[frv f, .int .u64 (cost : Int), v] w (RetG w [] (ToldR f (if okF f L then tellR f L cost l else none))) := by
  obtain ⟨p, cc, rfl, _, _⟩ := id hv.form
  refine enter (args := [_, _, _]) _ [] [] Tryz.func39 rfl Tryz.ntmps39 rfl (by simp) .nil ?_
  have hzs := zero_sl
  (refine sRz ?_; apply LW.boxA; rfl; rfl; intro _; apply LW.box1; rfl; rfl; rfl; intro _; apply LW.box1; rfl; rfl; rfl; intro _; apply LW.allocA; rfl; intro _; refine vAz ?_; refine nSz ?_; refine ldz rfl (.tail (.tail (.tail .head))) (Rd.whole rfl) ?_; apply LW.v0; rfl; rfl; apply ValP.makeFunc; exact ArgsOk.nil; exact .cons rfl (.cons rfl .nil))
  rename_i b3 b4 b5 b6
  refine LW.callP (K := ToldK f (if okF f L then tellR f L cost l else none) ((b6, Obj.cells (fra zeroF) 31 (0, 0)) :: (b5, Obj.cells #[.slice p l.length cc] 23 (0, 0)) :: (b4, Obj.cells #[.int .u64 (cost : Int)] 26 (0, 0)) :: (b3, Obj.cells (fra f) 31 (0, 0)) :: [])) rfl rfl inferInstance (by (exact .cons rfl (.cons rfl .nil))) rfl (fun fs h => ?_) (fun w' hst => ?_) ?_ ?_
  · obtain ⟨_, h⟩ := h.ret; cases h
  · by_cases hok : okF f L
    · rw [if_pos hok]
      exact told_calls w [] f L _ _ _ _ hok.short inferInstance (tell1_does w [] f L cost l _ hll (fun w2 hb => hv.bel hb) hok _ b4 b5 (by simp) (by simp)) hok w' hst fun w2 hb => h.bel hb
    · rw [if_neg hok]
      exact told_bad w [] f L _ _ _ hok w' hst fun w2 hb => h.bel hb
  · intro v fs' hk
    cases hR : (if okF f L then tellR f L cost l else none) with
    | none =>
      rw [hR] at hk
      obtain ⟨h1, rfl⟩ := hk
      cases h1
      (refine vEz ?_; refine vEz ?_; refine LW.store rfl rfl .head (.whole rfl rfl rfl) ?_; refine vAz ?_; refine nNz ?_; refine CW.ret ?_)
      exact fin (vs := [frv zeroF, .bool false]) [] (.inl rfl) rfl rfl (by (apply ResL.cons; apply Res.cell; rfl; apply Known.at; apply FsAt.head; exact Rd.whole rfl; apply ResL.cons; exact Res.tmp rfl; exact ResL.nil)) (List.nil_sublist _) ⟨rfl, rfl⟩
    | some x =>
      rw [hR] at hk
      obtain ⟨g, L'⟩ := x
      obtain ⟨c, s, m, i, b, gs', h1, hfr, rfl⟩ := hk
      cases h1
      have hsl := hfr.sl
      (refine vEz ?_; refine vEz ?_; apply LW.store; rfl; rfl; apply SetAt.app; apply SetAt.head; apply fr_wrW; rfl; assumption; refine vAz ?_; refine nNz ?_; refine CW.ret ?_)
      exact fin (vs := [frv (f.rowsG g c s m i b), .bool true]) gs' (.inl rfl) rfl rfl (by (apply ResL.cons; apply Res.cell; rfl; apply Known.at; apply FsAt.app; apply FsAt.head; exact Rd.whole rfl; apply ResL.cons; exact Res.tmp rfl; exact ResL.nil)) (List.sublist_append_left _ _) ⟨c, s, m, i, b, rfl, hfr⟩
  · intro ch fs' h
    obtain ⟨_, h⟩ := h.ret
    cases h
end Go.Proofs.YtpgdnfgjbhdbpaaGreatDoor

/-
  Calls: their shapes; which may be; who is called; what their ends lay.
  Conditions: none.
-/
namespace Go.Proofs.YtpgdnfgjbhdbpaaGreatDoor
open Go Go.RowKit SL
open CK (CheckC_calls)
set_option maxRecDepth 8000
set_option maxHeartbeats 4000000
set_option linter.unusedSimpArgs false
set_option linter.unusedVariables false
attribute [local irreducible] SL.CW SL.LW SL.DW Calls SL.Ret SL.RetG SL.beginQ SL.roundQ SL.rangeQ SL.inQ SL.RW SL.AnyW SL.thenQ SL.thenC SL.thenW SL.blkQ SL.finQ SL.ValP SL.NewP SL.SetP SL.CallP SL.Rd SL.Wr SL.Known
/-! ### Addresses -/
theorem aOf_calls (a : Nat) (w : World) : Calls Tryz.prog 65 #[wv a] w (Ret w (.int .u64 ((a % 18446744073709551616 : Nat) : Int))) := by
  refine enter (args := [_]) _ [] [] Tryz.func65 rfl Tryz.ntmps65 rfl (by simp) .nil ?_
  (refine sRz ?_; apply LW.boxA; rfl; rfl; intro _; refine vAz ?_; refine nSz ?_; refine lvz (.indexAddrL rfl rfl rfl) ?_; refine ldz rfl .head (Rd.one' rfl) ?_; refine vAz ?_; refine nNz ?_; refine CW.ret ?_)
  (apply finR; exact .inl rfl; rfl; rfl; rfl; apply ResL.cons; exact Res.tmp rfl; exact ResL.nil)
  rfl
theorem aWord_calls (a : Nat) (ha : a < 18446744073709551616) (w : World) : Calls Tryz.prog 79 #[.int .u64 (a : Int)] w (Ret w (wv a)) := by
  refine enter (args := [_]) _ [] [] Tryz.func79 rfl Tryz.ntmps79 rfl (by simp) .nil ?_
  (refine sRz ?_; apply LW.allocW; rfl; intro _; refine nSz ?_; refine vMz ?_; apply LW.callE; rfl; rfl; infer_instance; exact .cons rfl .nil; intro w _; exact Of_calls a ha w; refine LW.store rfl rfl .head (.whole rfl rfl rfl) ?_; refine nNz ?_; refine CW.ret ?_)
  (apply finR; exact .inl rfl; rfl; rfl; rfl; apply ResL.cons; apply Res.cell; rfl; apply Known.at; apply FsAt.head; exact Rd.whole rfl; exact ResL.nil)
  rfl
/-! ### Shapes -/
/-- The shape of an operation. -/
def shq (op : Nat) : Int × Int × Int × Int × Int × Bool := if op = 241 then (7, 1, 2, 3, 5, true) else if op = 244 ∨ op = 250 then (6, 1, -1, 2, 4, true) else if op = 245 then (4, -1, 0, 1, -1, true) else (0, 0, 0, 0, 0, false)
def shc (op : Nat) : List Value := [.int .i64 (shq op).1, .int .i64 (shq op).2.1, .int .i64 (shq op).2.2.1, .int .i64 (shq op).2.2.2.1, .int .i64 (shq op).2.2.2.2.1]
theorem shaped_calls (op : Nat) (w : World) : Calls Tryz.prog 47 #[.int .u8 (op : Int)] w (Ret w (.tuple #[.agg (shc op).toArray, .bool (shq op).2.2.2.2.2])) := by
  refine enter (args := [_]) _ [] [] Tryz.func47 rfl Tryz.ntmps47 rfl (by simp) .nil ?_
  by_cases h1 : op = 241
  · have hs : shq op = (7, 1, 2, 3, 5, true) := if_pos h1
    unfold shc
    rw [hs]
    (refine sRz ?_; apply LW.allocA; rfl; intro _; refine vAz ?_; refine nNz ?_; refine CW.seq ?_; refine sRz ?_; refine vMz ?_; refine nNz ?_; refine CW.block ?_; refine sRz ?_; refine lvz (.eqT rfl rfl (by omega)) ?_; refine vAz ?_; refine nNz ?_; refine cTz ?_; refine sRz ?_; apply LW.v0; rfl; rfl; apply ValP.buildT; infer_instance; infer_instance; apply PartsOk.cons; rfl; apply PartsOk.cons; rfl; apply PartsOk.cons; rfl; apply PartsOk.cons; rfl; apply PartsOk.cons; rfl; exact PartsOk.nil; rfl; simp only [fillP, wrCells, Value.cells, List.getElem?_cons_zero, List.getElem?_cons_succ, List.toList_toArray, List.setIfInBounds_toArray, List.set_cons_succ, List.set_cons_zero, Nat.reduceAdd, Nat.zero_add]; rfl; refine LW.store rfl rfl .head (.whole rfl rfl rfl) ?_; refine vAz ?_; refine nNz ?_; refine CW.ret ?_; refine blkR ?_; refine thenR ?_)
    (apply finR; exact .inl rfl; rfl; rfl; rfl; apply ResL.cons; apply Res.cell; rfl; apply Known.at; apply FsAt.head; exact Rd.whole rfl; apply ResL.cons; exact Res.tmp rfl; exact ResL.nil)
    rfl
  · by_cases h2 : op = 244 ∨ op = 250
    · have hs : shq op = (6, 1, -1, 2, 4, true) := by unfold shq; rw [if_neg h1, if_pos h2]
      unfold shc
      rw [hs]
      rcases h2 with h2 | h2
      · (refine sRz ?_; apply LW.allocA; rfl; intro _; refine vAz ?_; refine nNz ?_; refine CW.seq ?_; refine sRz ?_; refine vMz ?_; refine nNz ?_; refine CW.block ?_; refine sRz ?_; refine lvz (.eqF rfl rfl (by omega)) ?_; refine vAz ?_; refine nNz ?_; refine cFz ?_; refine CW.seq ?_; refine sRz ?_; refine lvz (.eqT rfl rfl (by omega)) ?_; refine vAz ?_; refine nNz ?_; refine cTz ?_; refine CW.skip ?_; refine thenN ?_; refine cTz ?_; refine sRz ?_; apply LW.v0; rfl; rfl; apply ValP.buildT; infer_instance; infer_instance; apply PartsOk.cons; rfl; apply PartsOk.cons; rfl; apply PartsOk.cons; rfl; apply PartsOk.cons; rfl; apply PartsOk.cons; rfl; exact PartsOk.nil; rfl; simp only [fillP, wrCells, Value.cells, List.getElem?_cons_zero, List.getElem?_cons_succ, List.toList_toArray, List.setIfInBounds_toArray, List.set_cons_succ, List.set_cons_zero, Nat.reduceAdd, Nat.zero_add]; rfl; refine LW.store rfl rfl .head (.whole rfl rfl rfl) ?_; refine vAz ?_; refine nNz ?_; refine CW.ret ?_; refine blkR ?_; refine thenR ?_)
        (apply finR; exact .inl rfl; rfl; rfl; rfl; apply ResL.cons; apply Res.cell; rfl; apply Known.at; apply FsAt.head; exact Rd.whole rfl; apply ResL.cons; exact Res.tmp rfl; exact ResL.nil)
        rfl
      · (refine sRz ?_; apply LW.allocA; rfl; intro _; refine vAz ?_; refine nNz ?_; refine CW.seq ?_; refine sRz ?_; refine vMz ?_; refine nNz ?_; refine CW.block ?_; refine sRz ?_; refine lvz (.eqF rfl rfl (by omega)) ?_; refine vAz ?_; refine nNz ?_; refine cFz ?_; refine CW.seq ?_; refine sRz ?_; refine lvz (.eqF rfl rfl (by omega)) ?_; refine vAz ?_; refine nNz ?_; refine cFz ?_; refine CW.region ?_; refine lvz (.eqT rfl rfl (by omega)) ?_; refine vAz ?_; refine nNz ?_; refine cTz ?_; refine sRz ?_; apply LW.v0; rfl; rfl; apply ValP.buildT; infer_instance; infer_instance; apply PartsOk.cons; rfl; apply PartsOk.cons; rfl; apply PartsOk.cons; rfl; apply PartsOk.cons; rfl; apply PartsOk.cons; rfl; exact PartsOk.nil; rfl; simp only [fillP, wrCells, Value.cells, List.getElem?_cons_zero, List.getElem?_cons_succ, List.toList_toArray, List.setIfInBounds_toArray, List.set_cons_succ, List.set_cons_zero, Nat.reduceAdd, Nat.zero_add]; rfl; refine LW.store rfl rfl .head (.whole rfl rfl rfl) ?_; refine vAz ?_; refine nNz ?_; refine CW.ret ?_; refine blkR ?_; refine thenR ?_)
        (apply finR; exact .inl rfl; rfl; rfl; rfl; apply ResL.cons; apply Res.cell; rfl; apply Known.at; apply FsAt.head; exact Rd.whole rfl; apply ResL.cons; exact Res.tmp rfl; exact ResL.nil)
        rfl
    · by_cases h3 : op = 245
      · have hs : shq op = (4, -1, 0, 1, -1, true) := by unfold shq; rw [if_neg h1, if_neg h2, if_pos h3]
        unfold shc
        rw [hs]
        (refine sRz ?_; apply LW.allocA; rfl; intro _; refine vAz ?_; refine nNz ?_; refine CW.seq ?_; refine sRz ?_; refine vMz ?_; refine nNz ?_; refine CW.block ?_; refine sRz ?_; refine lvz (.eqF rfl rfl (by omega)) ?_; refine vAz ?_; refine nNz ?_; refine cFz ?_; refine CW.seq ?_; refine sRz ?_; refine lvz (.eqF rfl rfl (by omega)) ?_; refine vAz ?_; refine nNz ?_; refine cFz ?_; refine CW.region ?_; refine lvz (.eqF rfl rfl (by omega)) ?_; refine vAz ?_; refine nNz ?_; refine cFz ?_; refine sRz ?_; refine lvz (.eqT rfl rfl (by omega)) ?_; refine vAz ?_; refine nNz ?_; refine cTz ?_; refine sRz ?_; apply LW.v0; rfl; rfl; apply ValP.buildT; infer_instance; infer_instance; apply PartsOk.cons; rfl; apply PartsOk.cons; rfl; apply PartsOk.cons; rfl; apply PartsOk.cons; rfl; apply PartsOk.cons; rfl; exact PartsOk.nil; rfl; simp only [fillP, wrCells, Value.cells, List.getElem?_cons_zero, List.getElem?_cons_succ, List.toList_toArray, List.setIfInBounds_toArray, List.set_cons_succ, List.set_cons_zero, Nat.reduceAdd, Nat.zero_add]; rfl; refine LW.store rfl rfl .head (.whole rfl rfl rfl) ?_; refine vAz ?_; refine nNz ?_; refine CW.ret ?_; refine blkR ?_; refine thenR ?_)
        (apply finR; exact .inl rfl; rfl; rfl; rfl; apply ResL.cons; apply Res.cell; rfl; apply Known.at; apply FsAt.head; exact Rd.whole rfl; apply ResL.cons; exact Res.tmp rfl; exact ResL.nil)
        rfl
      · have hs : shq op = (0, 0, 0, 0, 0, false) := by unfold shq; rw [if_neg h1, if_neg h2, if_neg h3]
        unfold shc
        rw [hs]
        (refine sRz ?_; apply LW.allocA; rfl; intro _; refine vAz ?_; refine nNz ?_; refine CW.seq ?_; refine sRz ?_; refine vMz ?_; refine nNz ?_; refine CW.block ?_; refine sRz ?_; refine lvz (.eqF rfl rfl (by omega)) ?_; refine vAz ?_; refine nNz ?_; refine cFz ?_; refine CW.seq ?_; refine sRz ?_; refine lvz (.eqF rfl rfl (by omega)) ?_; refine vAz ?_; refine nNz ?_; refine cFz ?_; refine CW.region ?_; refine lvz (.eqF rfl rfl (by omega)) ?_; refine vAz ?_; refine nNz ?_; refine cFz ?_; refine sRz ?_; refine lvz (.eqF rfl rfl (by omega)) ?_; refine vAz ?_; refine nNz ?_; refine cFz ?_; refine CW.skip ?_; refine blkN ?_; refine thenN ?_; refine sRz ?_; apply LW.v0; rfl; rfl; apply ValP.buildT; infer_instance; infer_instance; exact PartsOk.nil; rfl; simp only [fillP, wrCells, Value.cells, List.getElem?_cons_zero, List.getElem?_cons_succ, List.toList_toArray, List.setIfInBounds_toArray, List.set_cons_succ, List.set_cons_zero, Nat.reduceAdd, Nat.zero_add]; rfl; refine LW.store rfl rfl .head (.whole rfl rfl rfl) ?_; refine vAz ?_; refine nNz ?_; refine CW.ret ?_)
        (apply finR; exact .inl rfl; rfl; rfl; rfl; apply ResL.cons; apply Res.cell; rfl; apply Known.at; apply FsAt.head; exact Rd.whole rfl; apply ResL.cons; exact Res.tmp rfl; exact ResL.nil)
        rfl
/-- What is asked for. -/
def aska (kind : Int) (op : Nat) (ws dt : Value) : Array Value := #[.int .i64 kind, .int .u8 (op : Int), ws, dt]
/-- Is it a call that is asked for, with as many words as that has? -/
def askB (kind : Int) (op n : Nat) : Bool := (shq op).2.2.2.2.2 && (decide (kind = 2) && decide ((n : Int) = (shq op).1))
section rd
variable {P : Program} {T E : TypeId} {fr : Nat × Nat} {kind : Int} {op : Nat} {ws dt : Value}
theorem ask_rd0 [AgI P T false] : Rd P T (.cells (aska kind op ws dt) E fr) 0 (.int .i64 kind) := Rd.one rfl
theorem ask_rd1 [AgI P T false] : Rd P T (.cells (aska kind op ws dt) E fr) 1 (.int .u8 (op : Int)) := Rd.one rfl
theorem ask_rd2 [AgI P T false] : Rd P T (.cells (aska kind op ws dt) E fr) 2 ws := Rd.one rfl
theorem ask_rdW {z : Value} [AgI P T true] [InfoI P T 4 z] : Rd P T (.cells (aska kind op ws dt) E fr) 0 (.agg (aska kind op ws dt)) := Rd.whole rfl
theorem sh_rd0 [AgI P T false] : Rd P T (.cells (shc op).toArray E fr) 0 (.int .i64 (shq op).1) := Rd.one rfl
theorem sh_rdW {z : Value} [AgI P T true] [InfoI P T 5 z] : Rd P T (.cells (shc op).toArray E fr) 0 (.agg (shc op).toArray) := Rd.whole rfl
end rd
attribute [local irreducible] shq
theorem shapeOf_calls (kind : Int) (op n c : Nat) (p : Option Addr) (q : Option Addr) (d e : Nat) (w : World) : Calls Tryz.prog 53 #[.agg (aska kind op (.slice p n c) (.slice q d e))] w (Ret w (.tuple #[.agg (shc op).toArray, .bool (askB kind op n)])) := by
  have hSh0 := shaped_calls op
  unfold askB
  refine enter (args := [_]) _ [] [] Tryz.func53 rfl Tryz.ntmps53 rfl (by simp) .nil ?_
  cases hb : (shq op).2.2.2.2.2 with
  | false =>
    rw [hb] at hSh0
    have hSh : ∀ w, Calls Tryz.prog 47 #[.int .u8 (op : Int)] w (Ret w (.tuple #[.agg (shc op).toArray, .bool false])) := hSh0
    (refine sRz ?_; apply LW.boxA; rfl; rfl; intro _; apply LW.allocA; rfl; intro _; refine vAz ?_; refine nSz ?_; refine vFz ?_; refine ldz rfl (.tail .head) ask_rd1 ?_; apply LW.callE; rfl; rfl; infer_instance; exact .cons rfl .nil; intro w _; exact hSh w; refine vMz ?_; refine vEz ?_; refine vEz ?_; apply LW.allocA; rfl; intro _; refine LW.store rfl rfl .head (.whole rfl rfl rfl) ?_; refine vAz ?_; refine nNz ?_; refine CW.seq ?_; apply CW.pre; refine AnyW.any 16 mixed (by decide +kernel) ?_; (try simp only [tsOf_cons, tsOf_nil, tsOf_app]); apply DW.loadO; rfl; rfl; rfl; exact WantT.none; rfl; apply TRead.head; exact ancB_nil; exact sh_rdW; refine dvz (.move rfl) ?_; refine dvz (.move rfl) ?_; (iterate 3 refine dSz ?_); refine dvz (.pickF' rfl (by with_reducible rfl) rfl) ?_; refine dvz (.move rfl) ?_; (iterate 6 refine dSz ?_); refine dvz (.pickF' rfl (by with_reducible rfl) rfl) ?_; apply DW.store; rfl; rfl; exact WantT.none; rfl; rfl; apply TSet.tail; apply TSet.head; exact ancB_nil; exact ancB_nil; apply Wr.whole; rfl; rfl; rfl; apply DW.nil; simp only [fsOf_cons, fsOf_nil, fsOf_app, fsOf_tsOf, fsOf_new]; refine vAz ?_; refine nNz ?_; refine CW.ret ?_)
    (apply finR; exact .inl rfl; rfl; rfl; rfl; apply ResL.cons; apply Res.cell; rfl; apply Known.at; apply FsAt.tail; apply FsAt.head; exact sh_rdW; apply ResL.cons; exact Res.tmp rfl; exact ResL.nil)
    rfl
  | true =>
    rw [hb] at hSh0
    have hSh : ∀ w, Calls Tryz.prog 47 #[.int .u8 (op : Int)] w (Ret w (.tuple #[.agg (shc op).toArray, .bool true])) := hSh0
    by_cases hk : kind = 2
    · subst hk
      by_cases hn : (n : Int) = (shq op).1
      · rw [decide_eq_true hn]
        (refine sRz ?_; apply LW.boxA; rfl; rfl; intro _; apply LW.allocA; rfl; intro _; refine vAz ?_; refine nSz ?_; refine vFz ?_; refine ldz rfl (.tail .head) ask_rd1 ?_; apply LW.callE; rfl; rfl; infer_instance; exact .cons rfl .nil; intro w _; exact hSh w; refine vMz ?_; refine vEz ?_; refine vEz ?_; apply LW.allocA; rfl; intro _; refine LW.store rfl rfl .head (.whole rfl rfl rfl) ?_; refine vAz ?_; refine nNz ?_; refine CW.seq ?_; apply CW.pre; refine AnyW.any 16 mixed (by decide +kernel) ?_; (try simp only [tsOf_cons, tsOf_nil, tsOf_app]); apply DW.loadO; rfl; rfl; rfl; exact WantT.none; rfl; apply TRead.head; exact ancB_nil; exact sh_rdW; refine dvz (.move rfl) ?_; refine dvz (.move rfl) ?_; refine dwz (.fieldAddr rfl rfl) ?_; apply DW.loadO; rfl; rfl; rfl; apply wantYes; rfl; rfl; (with_reducible rfl); rfl; apply TRead.tail; apply TRead.tail; apply TRead.head; exact ancB_nil; exact ask_rd0; refine dwz (.eqT rfl rfl (by omega)) ?_; refine dvz (.pickT' rfl (by with_reducible rfl) rfl) ?_; refine dvz (.move rfl) ?_; refine dwz (.fieldAddr rfl rfl) ?_; apply DW.loadO; rfl; rfl; rfl; apply wantYes; rfl; rfl; (with_reducible rfl); rfl; apply TRead.tail; apply TRead.tail; apply TRead.head; exact ancB_nil; exact ask_rd2; refine dwz (.lenR rfl inferInstance rfl) ?_; refine dwz (.fieldAddr rfl rfl) ?_; apply DW.loadO; rfl; rfl; rfl; apply wantYes; rfl; rfl; (with_reducible rfl); rfl; apply TRead.head; exact ancB_nil; exact sh_rd0; refine dwz (.eqT rfl rfl (by omega)) ?_; refine dvz (.pickT' rfl (by with_reducible rfl) rfl) ?_; apply DW.store; rfl; rfl; exact WantT.none; rfl; rfl; apply TSet.tail; apply TSet.head; exact ancB_nil; exact ancB_nil; apply Wr.whole; rfl; rfl; rfl; apply DW.nil; simp only [fsOf_cons, fsOf_nil, fsOf_app, fsOf_tsOf, fsOf_new]; refine vAz ?_; refine nNz ?_; refine CW.ret ?_)
        (apply finR; exact .inl rfl; rfl; rfl; rfl; apply ResL.cons; apply Res.cell; rfl; apply Known.at; apply FsAt.tail; apply FsAt.head; exact sh_rdW; apply ResL.cons; exact Res.tmp rfl; exact ResL.nil)
        rfl
      · rw [decide_eq_false hn]
        (refine sRz ?_; apply LW.boxA; rfl; rfl; intro _; apply LW.allocA; rfl; intro _; refine vAz ?_; refine nSz ?_; refine vFz ?_; refine ldz rfl (.tail .head) ask_rd1 ?_; apply LW.callE; rfl; rfl; infer_instance; exact .cons rfl .nil; intro w _; exact hSh w; refine vMz ?_; refine vEz ?_; refine vEz ?_; apply LW.allocA; rfl; intro _; refine LW.store rfl rfl .head (.whole rfl rfl rfl) ?_; refine vAz ?_; refine nNz ?_; refine CW.seq ?_; apply CW.pre; refine AnyW.any 16 mixed (by decide +kernel) ?_; (try simp only [tsOf_cons, tsOf_nil, tsOf_app]); apply DW.loadO; rfl; rfl; rfl; exact WantT.none; rfl; apply TRead.head; exact ancB_nil; exact sh_rdW; refine dvz (.move rfl) ?_; refine dvz (.move rfl) ?_; refine dwz (.fieldAddr rfl rfl) ?_; apply DW.loadO; rfl; rfl; rfl; apply wantYes; rfl; rfl; (with_reducible rfl); rfl; apply TRead.tail; apply TRead.tail; apply TRead.head; exact ancB_nil; exact ask_rd0; refine dwz (.eqT rfl rfl (by omega)) ?_; refine dvz (.pickT' rfl (by with_reducible rfl) rfl) ?_; refine dvz (.move rfl) ?_; refine dwz (.fieldAddr rfl rfl) ?_; apply DW.loadO; rfl; rfl; rfl; apply wantYes; rfl; rfl; (with_reducible rfl); rfl; apply TRead.tail; apply TRead.tail; apply TRead.head; exact ancB_nil; exact ask_rd2; refine dwz (.lenR rfl inferInstance rfl) ?_; refine dwz (.fieldAddr rfl rfl) ?_; apply DW.loadO; rfl; rfl; rfl; apply wantYes; rfl; rfl; (with_reducible rfl); rfl; apply TRead.head; exact ancB_nil; exact sh_rd0; refine dwz (.eqF rfl rfl (by omega)) ?_; refine dvz (.pickT' rfl (by with_reducible rfl) rfl) ?_; apply DW.store; rfl; rfl; exact WantT.none; rfl; rfl; apply TSet.tail; apply TSet.head; exact ancB_nil; exact ancB_nil; apply Wr.whole; rfl; rfl; rfl; apply DW.nil; simp only [fsOf_cons, fsOf_nil, fsOf_app, fsOf_tsOf, fsOf_new]; refine vAz ?_; refine nNz ?_; refine CW.ret ?_)
        (apply finR; exact .inl rfl; rfl; rfl; rfl; apply ResL.cons; apply Res.cell; rfl; apply Known.at; apply FsAt.tail; apply FsAt.head; exact sh_rdW; apply ResL.cons; exact Res.tmp rfl; exact ResL.nil)
        rfl
    · rw [decide_eq_false hk]
      (refine sRz ?_; apply LW.boxA; rfl; rfl; intro _; apply LW.allocA; rfl; intro _; refine vAz ?_; refine nSz ?_; refine vFz ?_; refine ldz rfl (.tail .head) ask_rd1 ?_; apply LW.callE; rfl; rfl; infer_instance; exact .cons rfl .nil; intro w _; exact hSh w; refine vMz ?_; refine vEz ?_; refine vEz ?_; apply LW.allocA; rfl; intro _; refine LW.store rfl rfl .head (.whole rfl rfl rfl) ?_; refine vAz ?_; refine nNz ?_; refine CW.seq ?_; apply CW.pre; refine AnyW.any 16 mixed (by decide +kernel) ?_; (try simp only [tsOf_cons, tsOf_nil, tsOf_app]); apply DW.loadO; rfl; rfl; rfl; exact WantT.none; rfl; apply TRead.head; exact ancB_nil; exact sh_rdW; refine dvz (.move rfl) ?_; refine dvz (.move rfl) ?_; refine dwz (.fieldAddr rfl rfl) ?_; apply DW.loadO; rfl; rfl; rfl; apply wantYes; rfl; rfl; (with_reducible rfl); rfl; apply TRead.tail; apply TRead.tail; apply TRead.head; exact ancB_nil; exact ask_rd0; refine dwz (.eqF rfl rfl (by omega)) ?_; refine dvz (.pickT' rfl (by with_reducible rfl) rfl) ?_; refine dvz (.move rfl) ?_; (iterate 6 refine dSz ?_); refine dvz (.pickF' rfl (by with_reducible rfl) rfl) ?_; apply DW.store; rfl; rfl; exact WantT.none; rfl; rfl; apply TSet.tail; apply TSet.head; exact ancB_nil; exact ancB_nil; apply Wr.whole; rfl; rfl; rfl; apply DW.nil; simp only [fsOf_cons, fsOf_nil, fsOf_app, fsOf_tsOf, fsOf_new]; refine vAz ?_; refine nNz ?_; refine CW.ret ?_)
      (apply finR; exact .inl rfl; rfl; rfl; rfl; apply ResL.cons; apply Res.cell; rfl; apply Known.at; apply FsAt.tail; apply FsAt.head; exact sh_rdW; apply ResL.cons; exact Res.tmp rfl; exact ResL.nil)
      rfl
/-! ### Who is called -/
theorem word_rd {P : Program} {T E : TypeId} {fr : Nat × Nat} {cs : Array Value} {off m : Nat} {l : List Nat} [AgI P T true] {z : Value} [InfoI P T 4 z] (hx : (cs.toList.drop off).take m = wcs l) (i : Nat) (hi : i < l.length) : Rd P T (.cells cs E fr) (off + i * 4) (wv (l.getD i 0)) := by
  have h := Rd.elemA (P := P) (T := T) (E := E) (fr := fr) (g := fun a => (wc a).toList) (l := l) (a := l[i]) hx (wcs_len l) (List.getElem?_eq_getElem hi)
  rw [List.getD_eq_getElem?_getD, List.getElem?_eq_getElem hi]
  exact h
theorem shq_ok {op : Nat} (h : (shq op).2.2.2.2.2 = true) : (op = 241 ∧ shq op = (7, 1, 2, 3, 5, true)) ∨ ((op = 244 ∨ op = 250) ∧ shq op = (6, 1, -1, 2, 4, true)) ∨ (op = 245 ∧ shq op = (4, -1, 0, 1, -1, true)) := by
  unfold shq at h ⊢
  by_cases h1 : op = 241
  · rw [if_pos h1] at h ⊢; exact .inl ⟨h1, rfl⟩
  · rw [if_neg h1] at h ⊢
    by_cases h2 : op = 244 ∨ op = 250
    · rw [if_pos h2] at h ⊢; exact .inr (.inl ⟨h2, rfl⟩)
    · rw [if_neg h2] at h ⊢
      by_cases h3 : op = 245
      · rw [if_pos h3] at h ⊢; exact .inr (.inr ⟨h3, rfl⟩)
      · rw [if_neg h3] at h; cases h
end Go.Proofs.YtpgdnfgjbhdbpaaGreatDoor

/-
  Calls: which may be; the document's; what their ends lay.
  Conditions: none.
-/
namespace Go.Proofs.YtpgdnfgjbhdbpaaGreatDoor
open Go Go.RowKit SL
open CK (CheckC_calls)
set_option maxRecDepth 8000
set_option maxHeartbeats 4000000
set_option linter.unusedSimpArgs false
set_option linter.unusedVariables false
attribute [local irreducible] SL.CW SL.LW SL.DW Calls SL.Ret SL.RetG SL.beginQ SL.roundQ SL.rangeQ SL.inQ SL.RW SL.AnyW SL.thenQ SL.thenC SL.thenW SL.blkQ SL.finQ SL.ValP SL.NewP SL.SetP SL.CallP SL.Rd SL.Wr SL.Known
/-- What a call's cells say. -/
structure ClV where
  op : Nat
  dst : Nat
  self : Nat
  frm : Nat
  val : Nat
  mv : Bool
  gas : Nat
  inp : Value
  code : Value
  pl : Nat
  n : Nat
  stat : Bool
def clc (c : ClV) : List Value := .int .u8 (c.op : Int) :: .int .u64 (c.dst : Int) :: .int .u64 (c.self : Int) :: .int .u64 (c.frm : Int) :: ((wc c.val).toList ++ [.bool c.mv, .int .u64 (c.gas : Int), c.inp, c.code, .int .u64 (c.pl : Int), .int .u64 (c.n : Int), .bool c.stat])
abbrev cla (c : ClV) : Array Value := (clc c).toArray
abbrev clv (c : ClV) : Value := .agg (cla c)
/-- What a call's rows hold. -/
structure ClL where
  il : List UInt8
  cl : List UInt8
structure ClRows (w : World) (c : ClV) (L : ClL) : Prop where
  i : RowAt w 1 c.inp L.il.length (ucs L.il)
  c : RowAt w 1 c.code L.cl.length (ucs L.cl)
theorem ClRows.st {w0 w : World} {f : ClV} {L : ClL} {fs : Fs} (h : ClRows w0 f L) (hs : St w0 [] fs w) : ClRows w f L := ⟨h.i.st hs, h.c.st hs⟩
theorem ClRows.bel {w0 w : World} {f : ClV} {L : ClL} (h : ClRows w0 f L) (hb : Bel w0.heap.size [] w0 w) : ClRows w f L := ⟨h.i.bel hb, h.c.bel hb⟩
section rd
variable {P : Program} {T E : TypeId} {fr : Nat × Nat} {op dst self frm val gas pl n : Nat} {inp code : Value} {mv stat : Bool}
theorem cl_rd0 [AgI P T false] : Rd P T (.cells (cla ⟨op, dst, self, frm, val, mv, gas, inp, code, pl, n, stat⟩) E fr) 0 (.int .u8 (op : Int)) := Rd.one rfl
theorem cl_rd1 [AgI P T false] : Rd P T (.cells (cla ⟨op, dst, self, frm, val, mv, gas, inp, code, pl, n, stat⟩) E fr) 1 (.int .u64 (dst : Int)) := Rd.one rfl
theorem cl_rd2 [AgI P T false] : Rd P T (.cells (cla ⟨op, dst, self, frm, val, mv, gas, inp, code, pl, n, stat⟩) E fr) 2 (.int .u64 (self : Int)) := Rd.one rfl
theorem cl_rd3 [AgI P T false] : Rd P T (.cells (cla ⟨op, dst, self, frm, val, mv, gas, inp, code, pl, n, stat⟩) E fr) 3 (.int .u64 (frm : Int)) := Rd.one rfl
theorem cl_rd4 [AgI P T true] {z : Value} [InfoI P T 4 z] : Rd P T (.cells (cla ⟨op, dst, self, frm, val, mv, gas, inp, code, pl, n, stat⟩) E fr) 4 (wv val) := Rd.mid (cs := (wc val).toList) rfl rfl
theorem cl_rd8 [AgI P T false] : Rd P T (.cells (cla ⟨op, dst, self, frm, val, mv, gas, inp, code, pl, n, stat⟩) E fr) 8 (.bool mv) := Rd.one rfl
theorem cl_rd9 [AgI P T false] : Rd P T (.cells (cla ⟨op, dst, self, frm, val, mv, gas, inp, code, pl, n, stat⟩) E fr) 9 (.int .u64 (gas : Int)) := Rd.one rfl
theorem cl_rd10 [AgI P T false] : Rd P T (.cells (cla ⟨op, dst, self, frm, val, mv, gas, inp, code, pl, n, stat⟩) E fr) 10 inp := Rd.one rfl
theorem cl_rd11 [AgI P T false] : Rd P T (.cells (cla ⟨op, dst, self, frm, val, mv, gas, inp, code, pl, n, stat⟩) E fr) 11 code := Rd.one rfl
theorem cl_rd12 [AgI P T false] : Rd P T (.cells (cla ⟨op, dst, self, frm, val, mv, gas, inp, code, pl, n, stat⟩) E fr) 12 (.int .u64 (pl : Int)) := Rd.one rfl
theorem cl_rd13 [AgI P T false] : Rd P T (.cells (cla ⟨op, dst, self, frm, val, mv, gas, inp, code, pl, n, stat⟩) E fr) 13 (.int .u64 (n : Int)) := Rd.one rfl
theorem cl_rd14 [AgI P T false] : Rd P T (.cells (cla ⟨op, dst, self, frm, val, mv, gas, inp, code, pl, n, stat⟩) E fr) 14 (.bool stat) := Rd.one rfl
theorem cl_rdW {c : ClV} {z : Value} [AgI P T true] [InfoI P T 15 z] : Rd P T (.cells (cla c) E fr) 0 (clv c) := Rd.whole rfl
end rd
/-- May a call be? -/
def okC (c : ClV) (L : ClL) : Prop := (c.op = 241 ∨ c.op = 244 ∨ c.op = 245 ∨ c.op = 250) ∧ (c.gas ≤ 20000 ∧ L.il.length ≤ 1024 ∧ L.cl.length ≤ 200) ∧ (c.n ≤ 1024 ∧ c.pl + c.n ≤ 1024 ∧ (0 < c.n ∨ c.pl = 0)) ∧ (c.op = 245 → L.il.length = 0 ∧ c.n = 0) ∧ (¬ c.op = 245 → L.cl.length = 0)
instance (c : ClV) (L : ClL) : Decidable (okC c L) := by unfold okC; infer_instance
attribute [local irreducible] shq
theorem rOp_calls (op : Nat) (w : World) : Calls Tryz.prog 49 #[.int .u8 (op : Int)] w (Ret w (.bool (shq op).2.2.2.2.2)) := by
  obtain ⟨e, he⟩ : ∃ e : Bool, e = (shq op).2.2.2.2.2 := ⟨_, rfl⟩
  have hp : (op = 241 ∨ op = 244 ∨ op = 245 ∨ op = 250) → e = true := by
    rw [he]
    unfold shq
    rintro (h | h | h | h) <;> subst h <;> rfl
  have hn : ¬ (op = 241 ∨ op = 244 ∨ op = 245 ∨ op = 250) → e = false := by
    rw [he]
    unfold shq
    intro h
    rw [if_neg (by omega), if_neg (by omega), if_neg (by omega)]
  rw [← he]
  clear he
  refine enter (args := [_]) _ [] [] Tryz.func49 rfl Tryz.ntmps49 rfl (by simp) .nil ?_
  by_cases h245 : op = 245
  · (refine sRz ?_; refine vAz ?_; refine nSz ?_; refine vMz ?_; refine lvz (.eqF rfl rfl (by omega)) ?_; refine vMz ?_; refine gTz ?_; refine vMz ?_; refine gTz ?_; refine lvz (.eqF rfl rfl (by omega)) ?_; refine pFz ?_; refine vMz ?_; refine gTz ?_; refine vMz ?_; refine gTz ?_; refine lvz (.eqF rfl rfl (by omega)) ?_; refine pFz ?_; refine vMz ?_; refine gTz ?_; refine vMz ?_; refine gTz ?_; refine lvz (.eqT rfl rfl (by omega)) ?_; refine pFz ?_; refine vAz ?_; refine nNz ?_; refine CW.ret ?_)
    (apply finR; exact .inl rfl; rfl; rfl; rfl; apply ResL.cons; exact Res.tmp rfl; exact ResL.nil; rw [hp (by omega)]; rfl)
  · (refine sRz ?_; refine vAz ?_; refine nSz ?_; refine vMz ?_; refine lvz (.eq rfl rfl) ?_; refine vMz ?_)
    (refine LW.guardDF rfl rfl rfl (fun hsq hsp => ?_) (fun hsq hsp => ?_))
    (refine vMz ?_; refine gTaz ?_; refine lvz (.eq rfl rfl) ?_; refine pFaz ?_; refine vMz ?_; refine LW.guardDF rfl rfl rfl (fun hsq hsp => ?_) (fun hsq hsp => ?_); refine vMz ?_; refine gTaz ?_; refine lvz (.eq rfl rfl) ?_; refine pFaz ?_; refine vMz ?_; refine LW.guardDF rfl rfl rfl (fun hsq hsp => ?_) (fun hsq hsp => ?_); refine vMz ?_; refine gTaz ?_; refine lvz (.eqF rfl rfl (by omega)) ?_; refine pFaz ?_; refine vAz ?_; refine nNz ?_; refine CW.ret ?_; apply finR; exact .inl rfl; rfl; rfl; rfl; apply ResL.cons; exact Res.tmp rfl; exact ResL.nil; rw [hn (by omega)]; rfl; refine gFaz ?_; refine pTaz ?_; refine vAz ?_; refine nNz ?_; refine CW.ret ?_; apply finR; exact .inl rfl; rfl; rfl; rfl; apply ResL.cons; exact Res.tmp rfl; exact ResL.nil; rw [hp (by omega)]; rfl; refine gFaz ?_; refine pTaz ?_; refine vMz ?_; refine gFz ?_; refine gFz ?_; refine pTz ?_; refine vAz ?_; refine nNz ?_; refine CW.ret ?_; apply finR; exact .inl rfl; rfl; rfl; rfl; apply ResL.cons; exact Res.tmp rfl; exact ResL.nil; rw [hp (by omega)]; rfl; refine gFaz ?_; refine pTaz ?_; refine vMz ?_; refine gFz ?_; refine gFz ?_; refine pTz ?_; refine vMz ?_; refine gFz ?_; refine gFz ?_; refine pTz ?_; refine vAz ?_; refine nNz ?_; refine CW.ret ?_; apply finR; exact .inl rfl; rfl; rfl; rfl; apply ResL.cons; exact Res.tmp rfl; exact ResL.nil; rw [hp (by omega)]; rfl)
theorem callCheck_calls (c : ClV) (L : ClL) (w : World) (h : ClRows w c L) : Calls Tryz.prog 19 #[clv c] w (Ret w (.int .i64 (if okC c L then 0 else 250))) := by
  obtain ⟨e, he⟩ : ∃ e : Int, e = if okC c L then 0 else 250 := ⟨_, rfl⟩
  have hp : okC c L → e = 0 := fun h => by rw [he, if_pos h]
  have hn : ¬ okC c L → e = 250 := fun h => by rw [he, if_neg h]
  rw [← he]
  clear he
  unfold okC at hp hn
  obtain ⟨op, dst, self, frm, val, mv, gas, inp, code, pl, n, stat⟩ := c
  obtain ⟨h10, h11⟩ := h
  dsimp only at h10 h11 hp hn
  obtain ⟨p10, c10, rfl, _, hm10⟩ := h10.form
  obtain ⟨p11, c11, rfl, _, hm11⟩ := h11.form
  have hCk0 : ∀ w' {fs}, St w [] fs w' → Calls Tryz.prog 48 #[.slice p11 L.cl.length c11] w' (Ret w' (.int .i64 (if L.cl.length ≤ 200 then 0 else 3))) := fun w' fs hst => CheckC_calls _ _ _ w' (h11.st hst)
  simp only [maxLen] at hm10 hm11
  have hSh0 := shaped_calls op
  refine enter (args := [_]) _ [] [] Tryz.func19 rfl Tryz.ntmps19 rfl (by simp) .nil ?_
  by_cases hop : op = 241 ∨ op = 244 ∨ op = 245 ∨ op = 250
  · have hb : (shq op).2.2.2.2.2 = true := by unfold shq; rcases hop with h | h | h | h <;> subst h <;> rfl
    rw [hb] at hSh0
    have hSh : ∀ w, Calls Tryz.prog 47 #[.int .u8 (op : Int)] w (Ret w (.tuple #[.agg (shc op).toArray, .bool true])) := hSh0
    by_cases hc : L.cl.length ≤ 200
    · rw [if_pos hc] at hCk0
      have hCk : ∀ w' {fs}, St w [] fs w' → Calls Tryz.prog 48 #[.slice p11 L.cl.length c11] w' (Ret w' (.int .i64 0)) := hCk0
      by_cases h245 : op = 245
      · (refine sRz ?_; apply LW.boxA; rfl; rfl; intro _; refine vAz ?_; refine nSz ?_; refine vFz ?_; refine ldz rfl .head cl_rd0 ?_; apply LW.callE; rfl; rfl; infer_instance; exact .cons rfl .nil; intro w _; exact hSh w; refine vMz ?_; refine vEz ?_; refine vEz ?_; apply LW.allocA; rfl; intro _; refine LW.store rfl rfl .head (.whole rfl rfl rfl) ?_; refine vAz ?_; refine nSz ?_; refine vMz ?_; refine vMz ?_; refine gTz ?_; refine vFz ?_; refine gTz ?_; refine ldz rfl (.tail .head) cl_rd9 ?_; refine gTz ?_; refine lvz (.leq rfl rfl) ?_; refine pTz ?_; refine vMz ?_)
        (refine LW.guardDT rfl rfl rfl (fun hsq hsp => ?_) (fun hsq hsp => ?_))
        (refine vFz ?_; refine gTaz ?_; refine ldz rfl (.tail .head) cl_rd10 ?_; refine gTaz ?_; refine lvz (.lenR rfl inferInstance rfl) ?_; refine gTaz ?_; refine lvz (.leq rfl rfl) ?_; refine pTaz ?_; refine vMz ?_; refine LW.guardDT rfl rfl rfl (fun hsq hsp => ?_) (fun hsq hsp => ?_); refine vFz ?_; refine gTaz ?_; refine ldz rfl (.tail .head) cl_rd11 ?_; refine gTaz ?_; apply LW.callE; rfl; rfl; infer_instance; exact .cons rfl .nil; intro w _; exact hCk w (by assumption); refine gTaz ?_; refine lvz (.eqT rfl rfl (by omega)) ?_; refine pTaz ?_; refine vAz ?_; refine nSz ?_; refine vMz ?_; refine vMz ?_; refine gTz ?_; refine vFz ?_; refine gTz ?_; refine ldz rfl (.tail .head) cl_rd13 ?_; refine gTz ?_; refine lvz (.leq rfl rfl) ?_; refine pTz ?_; refine vMz ?_; refine LW.guardDT rfl rfl rfl (fun hsq hsp => ?_) (fun hsq hsp => ?_); refine vFz ?_; refine gTaz ?_; refine ldz rfl (.tail .head) cl_rd12 ?_; refine gTaz ?_; refine vFz ?_; refine gTaz ?_; refine ldz rfl (.tail .head) cl_rd13 ?_; refine gTaz ?_; refine lvz (.subNK rfl rfl (by decide) (by omega) (by omega)) ?_; refine gTaz ?_; refine lvz (.leq rfl rfl) ?_; refine pTaz ?_; refine vMz ?_; refine LW.guardDT rfl rfl rfl (fun hsq hsp => ?_) (fun hsq hsp => ?_); refine vFz ?_; refine gTaz ?_; refine ldz rfl (.tail .head) cl_rd13 ?_; refine gTaz ?_; refine lvz (.gtr rfl rfl) ?_; refine gTaz ?_; refine vMz ?_; refine LW.guardDF rfl rfl rfl (fun hsq hsp => ?_) (fun hsq hsp => ?_); refine vFz ?_; refine gTaz ?_; refine ldz rfl (.tail .head) cl_rd12 ?_; refine gTaz ?_; refine lvz (.eq rfl rfl) ?_; refine gTaz ?_; refine pFaz ?_; refine pTaz ?_; refine vAz ?_; refine nNz ?_; refine CW.seq ?_; refine sRz ?_; refine vFz ?_; refine ldz rfl (.tail .head) cl_rd0 ?_; refine lvz (.eqT rfl rfl (by omega)) ?_; refine nNz ?_; refine cTz ?_; refine CW.region ?_; refine vMz ?_; refine vMz ?_; refine LW.guardDT rfl rfl rfl (fun hsq hsp => ?_) (fun hsq hsp => ?_); refine vFz ?_; refine gTaz ?_; refine ldz rfl (.tail .head) cl_rd10 ?_; refine gTaz ?_; refine lvz (.lenR rfl inferInstance rfl) ?_; refine gTaz ?_; refine lvz (.eq rfl rfl) ?_; refine pTaz ?_; refine vMz ?_; refine LW.guardDT rfl rfl rfl (fun hsq hsp => ?_) (fun hsq hsp => ?_); refine vFz ?_; refine gTaz ?_; refine ldz rfl (.tail .head) cl_rd13 ?_; refine gTaz ?_; refine lvz (.eqT rfl rfl (by omega)) ?_; refine pTaz ?_; refine vAz ?_; refine nNz ?_; refine CW.seq ?_; refine sRz ?_; refine vMz ?_; refine lvz (.notT rfl (by with_reducible rfl)) ?_; refine nNz ?_; refine cFz ?_; refine CW.skip ?_; refine thenN ?_; refine sRz ?_; refine vAz ?_; refine nNz ?_; refine CW.ret ?_; apply finR; exact .inl rfl; rfl; rfl; rfl; apply ResL.cons; exact Res.tmp rfl; exact ResL.nil; rw [hp (by omega)]; rfl; refine gFaz ?_; refine gFaz ?_; refine pFaz ?_; refine vAz ?_; refine nNz ?_; refine CW.seq ?_; refine sRz ?_; refine vMz ?_; refine lvz (.notF rfl (by with_reducible rfl)) ?_; refine nNz ?_; refine cTz ?_; refine sRz ?_; refine vAz ?_; refine nNz ?_; refine CW.ret ?_; refine thenR (finR (.inl rfl) rfl rfl rfl (.cons (.tmp rfl) .nil) ?_); rw [hn (by omega)]; rfl; (iterate 3 refine gFaz ?_); refine pFaz ?_; refine vMz ?_; (iterate 3 refine gFz ?_); refine pFz ?_; refine vAz ?_; refine nNz ?_; refine CW.seq ?_; refine sRz ?_; refine vMz ?_; refine lvz (.notF rfl (by with_reducible rfl)) ?_; refine nNz ?_; refine cTz ?_; refine sRz ?_; refine vAz ?_; refine nNz ?_; refine CW.ret ?_; refine thenR (finR (.inl rfl) rfl rfl rfl (.cons (.tmp rfl) .nil) ?_); rw [hn (by omega)]; rfl; refine gFaz ?_; refine gFaz ?_; refine gTaz ?_; refine pTaz ?_; refine pTaz ?_; refine vAz ?_; refine nNz ?_; refine CW.seq ?_; refine sRz ?_; refine vFz ?_; refine ldz rfl (.tail .head) cl_rd0 ?_; refine lvz (.eqT rfl rfl (by omega)) ?_; refine nNz ?_; refine cTz ?_; refine CW.region ?_; refine vMz ?_; refine vMz ?_; refine gTz ?_; refine vFz ?_; refine gTz ?_; refine ldz rfl (.tail .head) cl_rd10 ?_; refine gTz ?_; refine lvz (.lenR rfl inferInstance rfl) ?_; refine gTz ?_; refine lvz (.eq rfl rfl) ?_; refine pTz ?_; refine vMz ?_; refine LW.guardDT rfl rfl rfl (fun hsq hsp => ?_) (fun hsq hsp => ?_); refine vFz ?_; refine gTaz ?_; refine ldz rfl (.tail .head) cl_rd13 ?_; refine gTaz ?_; refine lvz (.eqF rfl rfl (by omega)) ?_; refine pTaz ?_; refine vAz ?_; refine nNz ?_; refine CW.seq ?_; refine sRz ?_; refine vMz ?_; refine lvz (.notF rfl (by with_reducible rfl)) ?_; refine nNz ?_; refine cTz ?_; refine sRz ?_; refine vAz ?_; refine nNz ?_; refine CW.ret ?_; refine thenR (finR (.inl rfl) rfl rfl rfl (.cons (.tmp rfl) .nil) ?_); rw [hn (by omega)]; rfl; refine gFaz ?_; refine gFaz ?_; refine pFaz ?_; refine vAz ?_; refine nNz ?_; refine CW.seq ?_; refine sRz ?_; refine vMz ?_; refine lvz (.notF rfl (by with_reducible rfl)) ?_; refine nNz ?_; refine cTz ?_; refine sRz ?_; refine vAz ?_; refine nNz ?_; refine CW.ret ?_; refine thenR (finR (.inl rfl) rfl rfl rfl (.cons (.tmp rfl) .nil) ?_); rw [hn (by omega)]; rfl; (iterate 3 refine gFaz ?_); (iterate 3 refine gUz ?_); refine gFaz ?_; refine pFaz ?_; refine vAz ?_; refine nNz ?_; refine CW.seq ?_; refine sRz ?_; refine vFz ?_; refine ldz rfl (.tail .head) cl_rd0 ?_; refine lvz (.eqT rfl rfl (by omega)) ?_; refine nNz ?_; refine cTz ?_; refine CW.region ?_; refine vMz ?_; refine vMz ?_; (iterate 4 refine gFz ?_); refine pFz ?_; refine vMz ?_; (iterate 3 refine gFz ?_); refine pFz ?_; refine vAz ?_; refine nNz ?_; refine CW.seq ?_; refine sRz ?_; refine vMz ?_; refine lvz (.notF rfl (by with_reducible rfl)) ?_; refine nNz ?_; refine cTz ?_; refine sRz ?_; refine vAz ?_; refine nNz ?_; refine CW.ret ?_; refine thenR (finR (.inl rfl) rfl rfl rfl (.cons (.tmp rfl) .nil) ?_); rw [hn (by omega)]; rfl; (iterate 5 refine gFaz ?_); refine pFaz ?_; refine vMz ?_; (iterate 4 refine gFz ?_); (iterate 3 refine gUz ?_); refine gFz ?_; refine pFz ?_; refine vAz ?_; refine nNz ?_; refine CW.seq ?_; refine sRz ?_; refine vFz ?_; refine ldz rfl (.tail .head) cl_rd0 ?_; refine lvz (.eqT rfl rfl (by omega)) ?_; refine nNz ?_; refine cTz ?_; refine CW.region ?_; refine vMz ?_; refine vMz ?_; (iterate 4 refine gFz ?_); refine pFz ?_; refine vMz ?_; (iterate 3 refine gFz ?_); refine pFz ?_; refine vAz ?_; refine nNz ?_; refine CW.seq ?_; refine sRz ?_; refine vMz ?_; refine lvz (.notF rfl (by with_reducible rfl)) ?_; refine nNz ?_; refine cTz ?_; refine sRz ?_; refine vAz ?_; refine nNz ?_; refine CW.ret ?_; refine thenR (finR (.inl rfl) rfl rfl rfl (.cons (.tmp rfl) .nil) ?_); rw [hn (by omega)]; rfl; (iterate 3 refine gFaz ?_); refine pFaz ?_; refine vAz ?_; refine nSz ?_; refine vMz ?_; refine vMz ?_; (iterate 3 refine gFz ?_); refine pFz ?_; refine vMz ?_; (iterate 6 refine gFz ?_); refine pFz ?_; refine vMz ?_; (iterate 4 refine gFz ?_); (iterate 3 refine gUz ?_); refine gFz ?_; refine pFz ?_; refine vAz ?_; refine nNz ?_; refine CW.seq ?_; refine sRz ?_; refine vFz ?_; refine ldz rfl (.tail .head) cl_rd0 ?_; refine lvz (.eqT rfl rfl (by omega)) ?_; refine nNz ?_; refine cTz ?_; refine CW.region ?_; refine vMz ?_; refine vMz ?_; (iterate 4 refine gFz ?_); refine pFz ?_; refine vMz ?_; (iterate 3 refine gFz ?_); refine pFz ?_; refine vAz ?_; refine nNz ?_; refine CW.seq ?_; refine sRz ?_; refine vMz ?_; refine lvz (.notF rfl (by with_reducible rfl)) ?_; refine nNz ?_; refine cTz ?_; refine sRz ?_; refine vAz ?_; refine nNz ?_; refine CW.ret ?_; refine thenR (finR (.inl rfl) rfl rfl rfl (.cons (.tmp rfl) .nil) ?_); rw [hn (by omega)]; rfl; (iterate 3 refine gFaz ?_); refine pFaz ?_; refine vMz ?_; (iterate 4 refine gFz ?_); refine pFz ?_; refine vAz ?_; refine nSz ?_; refine vMz ?_; refine vMz ?_; (iterate 3 refine gFz ?_); refine pFz ?_; refine vMz ?_; (iterate 6 refine gFz ?_); refine pFz ?_; refine vMz ?_; (iterate 4 refine gFz ?_); (iterate 3 refine gUz ?_); refine gFz ?_; refine pFz ?_; refine vAz ?_; refine nNz ?_; refine CW.seq ?_; refine sRz ?_; refine vFz ?_; refine ldz rfl (.tail .head) cl_rd0 ?_; refine lvz (.eqT rfl rfl (by omega)) ?_; refine nNz ?_; refine cTz ?_; refine CW.region ?_; refine vMz ?_; refine vMz ?_; (iterate 4 refine gFz ?_); refine pFz ?_; refine vMz ?_; (iterate 3 refine gFz ?_); refine pFz ?_; refine vAz ?_; refine nNz ?_; refine CW.seq ?_; refine sRz ?_; refine vMz ?_; refine lvz (.notF rfl (by with_reducible rfl)) ?_; refine nNz ?_; refine cTz ?_; refine sRz ?_; refine vAz ?_; refine nNz ?_; refine CW.ret ?_; refine thenR (finR (.inl rfl) rfl rfl rfl (.cons (.tmp rfl) .nil) ?_); rw [hn (by omega)]; rfl)
      · (refine sRz ?_; apply LW.boxA; rfl; rfl; intro _; refine vAz ?_; refine nSz ?_; refine vFz ?_; refine ldz rfl .head cl_rd0 ?_; apply LW.callE; rfl; rfl; infer_instance; exact .cons rfl .nil; intro w _; exact hSh w; refine vMz ?_; refine vEz ?_; refine vEz ?_; apply LW.allocA; rfl; intro _; refine LW.store rfl rfl .head (.whole rfl rfl rfl) ?_; refine vAz ?_; refine nSz ?_; refine vMz ?_; refine vMz ?_; refine gTz ?_; refine vFz ?_; refine gTz ?_; refine ldz rfl (.tail .head) cl_rd9 ?_; refine gTz ?_; refine lvz (.leq rfl rfl) ?_; refine pTz ?_; refine vMz ?_)
        (refine LW.guardDT rfl rfl rfl (fun hsq hsp => ?_) (fun hsq hsp => ?_))
        (refine vFz ?_; refine gTaz ?_; refine ldz rfl (.tail .head) cl_rd10 ?_; refine gTaz ?_; refine lvz (.lenR rfl inferInstance rfl) ?_; refine gTaz ?_; refine lvz (.leq rfl rfl) ?_; refine pTaz ?_; refine vMz ?_; refine LW.guardDT rfl rfl rfl (fun hsq hsp => ?_) (fun hsq hsp => ?_); refine vFz ?_; refine gTaz ?_; refine ldz rfl (.tail .head) cl_rd11 ?_; refine gTaz ?_; apply LW.callE; rfl; rfl; infer_instance; exact .cons rfl .nil; intro w _; exact hCk w (by assumption); refine gTaz ?_; refine lvz (.eqT rfl rfl (by omega)) ?_; refine pTaz ?_; refine vAz ?_; refine nSz ?_; refine vMz ?_; refine vMz ?_; refine gTz ?_; refine vFz ?_; refine gTz ?_; refine ldz rfl (.tail .head) cl_rd13 ?_; refine gTz ?_; refine lvz (.leq rfl rfl) ?_; refine pTz ?_; refine vMz ?_; refine LW.guardDT rfl rfl rfl (fun hsq hsp => ?_) (fun hsq hsp => ?_); refine vFz ?_; refine gTaz ?_; refine ldz rfl (.tail .head) cl_rd12 ?_; refine gTaz ?_; refine vFz ?_; refine gTaz ?_; refine ldz rfl (.tail .head) cl_rd13 ?_; refine gTaz ?_; refine lvz (.subNK rfl rfl (by decide) (by omega) (by omega)) ?_; refine gTaz ?_; refine lvz (.leq rfl rfl) ?_; refine pTaz ?_; refine vMz ?_; refine LW.guardDT rfl rfl rfl (fun hsq hsp => ?_) (fun hsq hsp => ?_); refine vFz ?_; refine gTaz ?_; refine ldz rfl (.tail .head) cl_rd13 ?_; refine gTaz ?_; refine lvz (.gtr rfl rfl) ?_; refine gTaz ?_; refine vMz ?_; refine LW.guardDF rfl rfl rfl (fun hsq hsp => ?_) (fun hsq hsp => ?_); refine vFz ?_; refine gTaz ?_; refine ldz rfl (.tail .head) cl_rd12 ?_; refine gTaz ?_; refine lvz (.eq rfl rfl) ?_; refine gTaz ?_; refine pFaz ?_; refine pTaz ?_; refine vAz ?_; refine nNz ?_; refine CW.seq ?_; refine sRz ?_; refine vFz ?_; refine ldz rfl (.tail .head) cl_rd0 ?_; refine lvz (.eqF rfl rfl (by omega)) ?_; refine nNz ?_; refine cFz ?_; refine CW.region ?_; refine vMz ?_; refine vMz ?_; refine LW.guardDT rfl rfl rfl (fun hsq hsp => ?_) (fun hsq hsp => ?_); refine vFz ?_; refine gTaz ?_; refine ldz rfl (.tail .head) cl_rd11 ?_; refine gTaz ?_; refine lvz (.lenR rfl inferInstance rfl) ?_; refine gTaz ?_; refine lvz (.eq rfl rfl) ?_; refine pTaz ?_; refine vAz ?_; refine nNz ?_; refine CW.seq ?_; refine sRz ?_; refine vMz ?_; refine lvz (.notB rfl) ?_; refine nNz ?_; refine CW.condN rfl (fun hsq hsp => ?_) (fun hsq hsp => ?_); refine sRz ?_; refine vAz ?_; refine nNz ?_; refine CW.ret ?_; refine thenR (finR (.inl rfl) rfl rfl rfl (.cons (.tmp rfl) .nil) ?_); rw [hn (by omega)]; rfl; refine CW.skip ?_; refine thenN ?_; refine sRz ?_; refine vAz ?_; refine nNz ?_; refine CW.ret ?_; apply finR; exact .inl rfl; rfl; rfl; rfl; apply ResL.cons; exact Res.tmp rfl; exact ResL.nil; rw [hp (by omega)]; rfl; (iterate 3 refine gFaz ?_); refine pFaz ?_; refine vAz ?_; refine nNz ?_; refine CW.seq ?_; refine sRz ?_; refine vMz ?_; refine lvz (.notF rfl (by with_reducible rfl)) ?_; refine nNz ?_; refine cTz ?_; refine sRz ?_; refine vAz ?_; refine nNz ?_; refine CW.ret ?_; refine thenR (finR (.inl rfl) rfl rfl rfl (.cons (.tmp rfl) .nil) ?_); rw [hn (by omega)]; rfl; refine gFaz ?_; refine gFaz ?_; refine gTaz ?_; refine pTaz ?_; refine pTaz ?_; refine vAz ?_; refine nNz ?_; refine CW.seq ?_; refine sRz ?_; refine vFz ?_; refine ldz rfl (.tail .head) cl_rd0 ?_; refine lvz (.eqF rfl rfl (by omega)) ?_; refine nNz ?_; refine cFz ?_; refine CW.region ?_; refine vMz ?_; refine vMz ?_; refine gTz ?_; refine vFz ?_; refine gTz ?_; refine ldz rfl (.tail .head) cl_rd11 ?_; refine gTz ?_; refine lvz (.lenR rfl inferInstance rfl) ?_; refine gTz ?_; refine lvz (.eq rfl rfl) ?_; refine pTz ?_; refine vAz ?_; refine nNz ?_; refine CW.seq ?_; refine sRz ?_; refine vMz ?_; refine lvz (.notB rfl) ?_; refine nNz ?_; refine CW.condN rfl (fun hsq hsp => ?_) (fun hsq hsp => ?_); refine sRz ?_; refine vAz ?_; refine nNz ?_; refine CW.ret ?_; refine thenR (finR (.inl rfl) rfl rfl rfl (.cons (.tmp rfl) .nil) ?_); rw [hn (by omega)]; rfl; refine CW.skip ?_; refine thenN ?_; refine sRz ?_; refine vAz ?_; refine nNz ?_; refine CW.ret ?_; apply finR; exact .inl rfl; rfl; rfl; rfl; apply ResL.cons; exact Res.tmp rfl; exact ResL.nil; rw [hp (by omega)]; rfl; (iterate 3 refine gFaz ?_); (iterate 3 refine gUz ?_); refine gFaz ?_; refine pFaz ?_; refine vAz ?_; refine nNz ?_; refine CW.seq ?_; refine sRz ?_; refine vFz ?_; refine ldz rfl (.tail .head) cl_rd0 ?_; refine lvz (.eqF rfl rfl (by omega)) ?_; refine nNz ?_; refine cFz ?_; refine CW.region ?_; refine vMz ?_; refine vMz ?_; (iterate 4 refine gFz ?_); refine pFz ?_; refine vAz ?_; refine nNz ?_; refine CW.seq ?_; refine sRz ?_; refine vMz ?_; refine lvz (.notF rfl (by with_reducible rfl)) ?_; refine nNz ?_; refine cTz ?_; refine sRz ?_; refine vAz ?_; refine nNz ?_; refine CW.ret ?_; refine thenR (finR (.inl rfl) rfl rfl rfl (.cons (.tmp rfl) .nil) ?_); rw [hn (by omega)]; rfl; (iterate 5 refine gFaz ?_); refine pFaz ?_; refine vMz ?_; (iterate 4 refine gFz ?_); (iterate 3 refine gUz ?_); refine gFz ?_; refine pFz ?_; refine vAz ?_; refine nNz ?_; refine CW.seq ?_; refine sRz ?_; refine vFz ?_; refine ldz rfl (.tail .head) cl_rd0 ?_; refine lvz (.eqF rfl rfl (by omega)) ?_; refine nNz ?_; refine cFz ?_; refine CW.region ?_; refine vMz ?_; refine vMz ?_; (iterate 4 refine gFz ?_); refine pFz ?_; refine vAz ?_; refine nNz ?_; refine CW.seq ?_; refine sRz ?_; refine vMz ?_; refine lvz (.notF rfl (by with_reducible rfl)) ?_; refine nNz ?_; refine cTz ?_; refine sRz ?_; refine vAz ?_; refine nNz ?_; refine CW.ret ?_; refine thenR (finR (.inl rfl) rfl rfl rfl (.cons (.tmp rfl) .nil) ?_); rw [hn (by omega)]; rfl; (iterate 3 refine gFaz ?_); refine pFaz ?_; refine vAz ?_; refine nSz ?_; refine vMz ?_; refine vMz ?_; (iterate 3 refine gFz ?_); refine pFz ?_; refine vMz ?_; (iterate 6 refine gFz ?_); refine pFz ?_; refine vMz ?_; (iterate 4 refine gFz ?_); (iterate 3 refine gUz ?_); refine gFz ?_; refine pFz ?_; refine vAz ?_; refine nNz ?_; refine CW.seq ?_; refine sRz ?_; refine vFz ?_; refine ldz rfl (.tail .head) cl_rd0 ?_; refine lvz (.eqF rfl rfl (by omega)) ?_; refine nNz ?_; refine cFz ?_; refine CW.region ?_; refine vMz ?_; refine vMz ?_; (iterate 4 refine gFz ?_); refine pFz ?_; refine vAz ?_; refine nNz ?_; refine CW.seq ?_; refine sRz ?_; refine vMz ?_; refine lvz (.notF rfl (by with_reducible rfl)) ?_; refine nNz ?_; refine cTz ?_; refine sRz ?_; refine vAz ?_; refine nNz ?_; refine CW.ret ?_; refine thenR (finR (.inl rfl) rfl rfl rfl (.cons (.tmp rfl) .nil) ?_); rw [hn (by omega)]; rfl; (iterate 3 refine gFaz ?_); refine pFaz ?_; refine vMz ?_; (iterate 4 refine gFz ?_); refine pFz ?_; refine vAz ?_; refine nSz ?_; refine vMz ?_; refine vMz ?_; (iterate 3 refine gFz ?_); refine pFz ?_; refine vMz ?_; (iterate 6 refine gFz ?_); refine pFz ?_; refine vMz ?_; (iterate 4 refine gFz ?_); (iterate 3 refine gUz ?_); refine gFz ?_; refine pFz ?_; refine vAz ?_; refine nNz ?_; refine CW.seq ?_; refine sRz ?_; refine vFz ?_; refine ldz rfl (.tail .head) cl_rd0 ?_; refine lvz (.eqF rfl rfl (by omega)) ?_; refine nNz ?_; refine cFz ?_; refine CW.region ?_; refine vMz ?_; refine vMz ?_; (iterate 4 refine gFz ?_); refine pFz ?_; refine vAz ?_; refine nNz ?_; refine CW.seq ?_; refine sRz ?_; refine vMz ?_; refine lvz (.notF rfl (by with_reducible rfl)) ?_; refine nNz ?_; refine cTz ?_; refine sRz ?_; refine vAz ?_; refine nNz ?_; refine CW.ret ?_; refine thenR (finR (.inl rfl) rfl rfl rfl (.cons (.tmp rfl) .nil) ?_); rw [hn (by omega)]; rfl)
    · rw [if_neg hc] at hCk0
      have hCk : ∀ w' {fs}, St w [] fs w' → Calls Tryz.prog 48 #[.slice p11 L.cl.length c11] w' (Ret w' (.int .i64 3)) := hCk0
      rw [hn (fun h => hc h.2.1.2.2)] at *
      clear hp hn
      by_cases h245 : op = 245
      · (refine sRz ?_; apply LW.boxA; rfl; rfl; intro _; refine vAz ?_; refine nSz ?_; refine vFz ?_; refine ldz rfl .head cl_rd0 ?_; apply LW.callE; rfl; rfl; infer_instance; exact .cons rfl .nil; intro w _; exact hSh w; refine vMz ?_; refine vEz ?_; refine vEz ?_; apply LW.allocA; rfl; intro _; refine LW.store rfl rfl .head (.whole rfl rfl rfl) ?_; refine vAz ?_; refine nSz ?_; refine vMz ?_; refine vMz ?_; refine gTz ?_; refine vFz ?_; refine gTz ?_; refine ldz rfl (.tail .head) cl_rd9 ?_; refine gTz ?_; refine lvz (.leq rfl rfl) ?_; refine pTz ?_; refine vMz ?_)
        (refine LW.guardDT rfl rfl rfl (fun hsq hsp => ?_) (fun hsq hsp => ?_))
        (refine vFz ?_; refine gTaz ?_; refine ldz rfl (.tail .head) cl_rd10 ?_; refine gTaz ?_; refine lvz (.lenR rfl inferInstance rfl) ?_; refine gTaz ?_; refine lvz (.leq rfl rfl) ?_; refine pTaz ?_; refine vMz ?_; refine LW.guardDT rfl rfl rfl (fun hsq hsp => ?_) (fun hsq hsp => ?_); refine vFz ?_; refine gTaz ?_; refine ldz rfl (.tail .head) cl_rd11 ?_; refine gTaz ?_; apply LW.callE; rfl; rfl; infer_instance; exact .cons rfl .nil; intro w _; exact hCk w (by assumption); refine gTaz ?_; refine lvz (.eqF rfl rfl (by omega)) ?_; refine pTaz ?_; refine vAz ?_; refine nSz ?_; refine vMz ?_; refine vMz ?_; (iterate 3 refine gFz ?_); refine pFz ?_; refine vMz ?_; (iterate 6 refine gFz ?_); refine pFz ?_; refine vMz ?_; (iterate 4 refine gFz ?_); (iterate 3 refine gUz ?_); refine gFz ?_; refine pFz ?_; refine vAz ?_; refine nNz ?_; refine CW.seq ?_; refine sRz ?_; refine vFz ?_; refine ldz rfl (.tail .head) cl_rd0 ?_; refine lvz (.eqT rfl rfl (by omega)) ?_; refine nNz ?_; refine cTz ?_; refine CW.region ?_; refine vMz ?_; refine vMz ?_; (iterate 4 refine gFz ?_); refine pFz ?_; refine vMz ?_; (iterate 3 refine gFz ?_); refine pFz ?_; refine vAz ?_; refine nNz ?_; refine CW.seq ?_; refine sRz ?_; refine vMz ?_; refine lvz (.notF rfl (by with_reducible rfl)) ?_; refine nNz ?_; refine cTz ?_; refine sRz ?_; refine vAz ?_; refine nNz ?_; refine CW.ret ?_; refine thenR (finR (.inl rfl) rfl rfl rfl (.cons (.tmp rfl) .nil) ?_); rfl; (iterate 3 refine gFaz ?_); refine pFaz ?_; refine vAz ?_; refine nSz ?_; refine vMz ?_; refine vMz ?_; (iterate 3 refine gFz ?_); refine pFz ?_; refine vMz ?_; (iterate 6 refine gFz ?_); refine pFz ?_; refine vMz ?_; (iterate 4 refine gFz ?_); (iterate 3 refine gUz ?_); refine gFz ?_; refine pFz ?_; refine vAz ?_; refine nNz ?_; refine CW.seq ?_; refine sRz ?_; refine vFz ?_; refine ldz rfl (.tail .head) cl_rd0 ?_; refine lvz (.eqT rfl rfl (by omega)) ?_; refine nNz ?_; refine cTz ?_; refine CW.region ?_; refine vMz ?_; refine vMz ?_; (iterate 4 refine gFz ?_); refine pFz ?_; refine vMz ?_; (iterate 3 refine gFz ?_); refine pFz ?_; refine vAz ?_; refine nNz ?_; refine CW.seq ?_; refine sRz ?_; refine vMz ?_; refine lvz (.notF rfl (by with_reducible rfl)) ?_; refine nNz ?_; refine cTz ?_; refine sRz ?_; refine vAz ?_; refine nNz ?_; refine CW.ret ?_; refine thenR (finR (.inl rfl) rfl rfl rfl (.cons (.tmp rfl) .nil) ?_); rfl; (iterate 3 refine gFaz ?_); refine pFaz ?_; refine vMz ?_; (iterate 4 refine gFz ?_); refine pFz ?_; refine vAz ?_; refine nSz ?_; refine vMz ?_; refine vMz ?_; (iterate 3 refine gFz ?_); refine pFz ?_; refine vMz ?_; (iterate 6 refine gFz ?_); refine pFz ?_; refine vMz ?_; (iterate 4 refine gFz ?_); (iterate 3 refine gUz ?_); refine gFz ?_; refine pFz ?_; refine vAz ?_; refine nNz ?_; refine CW.seq ?_; refine sRz ?_; refine vFz ?_; refine ldz rfl (.tail .head) cl_rd0 ?_; refine lvz (.eqT rfl rfl (by omega)) ?_; refine nNz ?_; refine cTz ?_; refine CW.region ?_; refine vMz ?_; refine vMz ?_; (iterate 4 refine gFz ?_); refine pFz ?_; refine vMz ?_; (iterate 3 refine gFz ?_); refine pFz ?_; refine vAz ?_; refine nNz ?_; refine CW.seq ?_; refine sRz ?_; refine vMz ?_; refine lvz (.notF rfl (by with_reducible rfl)) ?_; refine nNz ?_; refine cTz ?_; refine sRz ?_; refine vAz ?_; refine nNz ?_; refine CW.ret ?_; refine thenR (finR (.inl rfl) rfl rfl rfl (.cons (.tmp rfl) .nil) ?_); rfl)
      · (refine sRz ?_; apply LW.boxA; rfl; rfl; intro _; refine vAz ?_; refine nSz ?_; refine vFz ?_; refine ldz rfl .head cl_rd0 ?_; apply LW.callE; rfl; rfl; infer_instance; exact .cons rfl .nil; intro w _; exact hSh w; refine vMz ?_; refine vEz ?_; refine vEz ?_; apply LW.allocA; rfl; intro _; refine LW.store rfl rfl .head (.whole rfl rfl rfl) ?_; refine vAz ?_; refine nSz ?_; refine vMz ?_; refine vMz ?_; refine gTz ?_; refine vFz ?_; refine gTz ?_; refine ldz rfl (.tail .head) cl_rd9 ?_; refine gTz ?_; refine lvz (.leq rfl rfl) ?_; refine pTz ?_; refine vMz ?_)
        (refine LW.guardDT rfl rfl rfl (fun hsq hsp => ?_) (fun hsq hsp => ?_))
        (refine vFz ?_; refine gTaz ?_; refine ldz rfl (.tail .head) cl_rd10 ?_; refine gTaz ?_; refine lvz (.lenR rfl inferInstance rfl) ?_; refine gTaz ?_; refine lvz (.leq rfl rfl) ?_; refine pTaz ?_; refine vMz ?_; refine LW.guardDT rfl rfl rfl (fun hsq hsp => ?_) (fun hsq hsp => ?_); refine vFz ?_; refine gTaz ?_; refine ldz rfl (.tail .head) cl_rd11 ?_; refine gTaz ?_; apply LW.callE; rfl; rfl; infer_instance; exact .cons rfl .nil; intro w _; exact hCk w (by assumption); refine gTaz ?_; refine lvz (.eqF rfl rfl (by omega)) ?_; refine pTaz ?_; refine vAz ?_; refine nSz ?_; refine vMz ?_; refine vMz ?_; (iterate 3 refine gFz ?_); refine pFz ?_; refine vMz ?_; (iterate 6 refine gFz ?_); refine pFz ?_; refine vMz ?_; (iterate 4 refine gFz ?_); (iterate 3 refine gUz ?_); refine gFz ?_; refine pFz ?_; refine vAz ?_; refine nNz ?_; refine CW.seq ?_; refine sRz ?_; refine vFz ?_; refine ldz rfl (.tail .head) cl_rd0 ?_; refine lvz (.eqF rfl rfl (by omega)) ?_; refine nNz ?_; refine cFz ?_; refine CW.region ?_; refine vMz ?_; refine vMz ?_; (iterate 4 refine gFz ?_); refine pFz ?_; refine vAz ?_; refine nNz ?_; refine CW.seq ?_; refine sRz ?_; refine vMz ?_; refine lvz (.notF rfl (by with_reducible rfl)) ?_; refine nNz ?_; refine cTz ?_; refine sRz ?_; refine vAz ?_; refine nNz ?_; refine CW.ret ?_; refine thenR (finR (.inl rfl) rfl rfl rfl (.cons (.tmp rfl) .nil) ?_); rfl; (iterate 3 refine gFaz ?_); refine pFaz ?_; refine vAz ?_; refine nSz ?_; refine vMz ?_; refine vMz ?_; (iterate 3 refine gFz ?_); refine pFz ?_; refine vMz ?_; (iterate 6 refine gFz ?_); refine pFz ?_; refine vMz ?_; (iterate 4 refine gFz ?_); (iterate 3 refine gUz ?_); refine gFz ?_; refine pFz ?_; refine vAz ?_; refine nNz ?_; refine CW.seq ?_; refine sRz ?_; refine vFz ?_; refine ldz rfl (.tail .head) cl_rd0 ?_; refine lvz (.eqF rfl rfl (by omega)) ?_; refine nNz ?_; refine cFz ?_; refine CW.region ?_; refine vMz ?_; refine vMz ?_; (iterate 4 refine gFz ?_); refine pFz ?_; refine vAz ?_; refine nNz ?_; refine CW.seq ?_; refine sRz ?_; refine vMz ?_; refine lvz (.notF rfl (by with_reducible rfl)) ?_; refine nNz ?_; refine cTz ?_; refine sRz ?_; refine vAz ?_; refine nNz ?_; refine CW.ret ?_; refine thenR (finR (.inl rfl) rfl rfl rfl (.cons (.tmp rfl) .nil) ?_); rfl; (iterate 3 refine gFaz ?_); refine pFaz ?_; refine vMz ?_; (iterate 4 refine gFz ?_); refine pFz ?_; refine vAz ?_; refine nSz ?_; refine vMz ?_; refine vMz ?_; (iterate 3 refine gFz ?_); refine pFz ?_; refine vMz ?_; (iterate 6 refine gFz ?_); refine pFz ?_; refine vMz ?_; (iterate 4 refine gFz ?_); (iterate 3 refine gUz ?_); refine gFz ?_; refine pFz ?_; refine vAz ?_; refine nNz ?_; refine CW.seq ?_; refine sRz ?_; refine vFz ?_; refine ldz rfl (.tail .head) cl_rd0 ?_; refine lvz (.eqF rfl rfl (by omega)) ?_; refine nNz ?_; refine cFz ?_; refine CW.region ?_; refine vMz ?_; refine vMz ?_; (iterate 4 refine gFz ?_); refine pFz ?_; refine vAz ?_; refine nNz ?_; refine CW.seq ?_; refine sRz ?_; refine vMz ?_; refine lvz (.notF rfl (by with_reducible rfl)) ?_; refine nNz ?_; refine cTz ?_; refine sRz ?_; refine vAz ?_; refine nNz ?_; refine CW.ret ?_; refine thenR (finR (.inl rfl) rfl rfl rfl (.cons (.tmp rfl) .nil) ?_); rfl)
  · have hb : (shq op).2.2.2.2.2 = false := by unfold shq; rw [if_neg (by omega), if_neg (by omega), if_neg (by omega)]
    rw [hb] at hSh0
    have hSh : ∀ w, Calls Tryz.prog 47 #[.int .u8 (op : Int)] w (Ret w (.tuple #[.agg (shc op).toArray, .bool false])) := hSh0
    rw [hn (fun h => hop h.1)]
    clear hp hn
    have h245 : ¬ op = 245 := by omega
    (refine sRz ?_; apply LW.boxA; rfl; rfl; intro _; refine vAz ?_; refine nSz ?_; refine vFz ?_; refine ldz rfl .head cl_rd0 ?_; apply LW.callE; rfl; rfl; infer_instance; exact .cons rfl .nil; intro w _; exact hSh w; refine vMz ?_; refine vEz ?_; refine vEz ?_; apply LW.allocA; rfl; intro _; refine LW.store rfl rfl .head (.whole rfl rfl rfl) ?_; refine vAz ?_; refine nSz ?_; refine vMz ?_; refine vMz ?_; (iterate 3 refine gFz ?_); refine pFz ?_; refine vMz ?_; (iterate 4 refine gFz ?_); refine pFz ?_; refine vMz ?_; (iterate 4 refine gFz ?_); refine pFz ?_; refine vAz ?_; refine nSz ?_; refine vMz ?_; refine vMz ?_; (iterate 3 refine gFz ?_); refine pFz ?_; refine vMz ?_; (iterate 6 refine gFz ?_); refine pFz ?_; refine vMz ?_; (iterate 4 refine gFz ?_); (iterate 3 refine gUz ?_); refine gFz ?_; refine pFz ?_; refine vAz ?_; refine nNz ?_; refine CW.seq ?_; refine sRz ?_; refine vFz ?_; refine ldz rfl (.tail .head) cl_rd0 ?_; refine lvz (.eqF rfl rfl (by omega)) ?_; refine nNz ?_; refine cFz ?_; refine CW.region ?_; refine vMz ?_; refine vMz ?_; (iterate 4 refine gFz ?_); refine pFz ?_; refine vAz ?_; refine nNz ?_; refine CW.seq ?_; refine sRz ?_; refine vMz ?_; refine lvz (.notF rfl (by with_reducible rfl)) ?_; refine nNz ?_; refine cTz ?_; refine sRz ?_; refine vAz ?_; refine nNz ?_; refine CW.ret ?_; refine thenR ?_)
    (apply finR; exact .inl rfl; rfl; rfl; rfl; apply ResL.cons; exact Res.tmp rfl; exact ResL.nil)
    rfl
theorem callRight_calls (c : ClV) (L : ClL) (hN : c.n < 18446744073709551616) (hP : c.pl < 18446744073709551616) (w : World) (h : ClRows w c L) : Calls Tryz.prog 20 #[clv c] w (Ret w (.bool (decide (okC c L)))) := by
  obtain ⟨e, he⟩ : ∃ e : Bool, e = decide (okC c L) := ⟨_, rfl⟩
  have hp : okC c L → e = true := fun h => by rw [he, decide_eq_true h]
  have hn : ¬ okC c L → e = false := fun h => by rw [he, decide_eq_false h]
  rw [← he]
  clear he
  unfold okC at hp hn
  obtain ⟨op, dst, self, frm, val, mv, gas, inp, code, pl, n, stat⟩ := c
  obtain ⟨h10, h11⟩ := h
  dsimp only at h10 h11 hp hn hN hP
  obtain ⟨p10, c10, rfl, _, hm10⟩ := h10.form
  obtain ⟨p11, c11, rfl, _, hm11⟩ := h11.form
  simp only [maxLen] at hm10 hm11
  have hOp0 := rOp_calls op
  refine enter (args := [_]) _ [] [] Tryz.func20 rfl Tryz.ntmps20 rfl (by simp) .nil ?_
  by_cases hop : op = 241 ∨ op = 244 ∨ op = 245 ∨ op = 250
  · have hb : (shq op).2.2.2.2.2 = true := by unfold shq; rcases hop with h | h | h | h <;> subst h <;> rfl
    rw [hb] at hOp0
    have hOp : ∀ w, Calls Tryz.prog 49 #[.int .u8 (op : Int)] w (Ret w (.bool true)) := hOp0
    by_cases h245 : op = 245
    · by_cases hz : L.il.length = 0 ∧ n = 0
      · (refine sRz ?_; apply LW.boxA; rfl; rfl; intro _; refine vAz ?_; refine nNz ?_; refine CW.seq ?_; refine sRz ?_; refine vFz ?_; refine ldz rfl .head cl_rd0 ?_; apply LW.callE; rfl; rfl; infer_instance; exact .cons rfl .nil; intro w _; exact hOp w; refine lvz (.notT rfl (by with_reducible rfl)) ?_; refine vMz ?_; refine gTz ?_; refine vFz ?_; refine gTz ?_; refine ldz rfl .head cl_rd9 ?_; refine gTz ?_; refine lvz (.gtr rfl rfl) ?_; refine pFz ?_; refine vMz ?_)
        (refine LW.guardDF rfl rfl rfl (fun hsq hsp => ?_) (fun hsq hsp => ?_))
        (refine vFz ?_; refine gTaz ?_; refine ldz rfl .head cl_rd10 ?_; refine gTaz ?_; refine lvz (.lenR rfl inferInstance rfl) ?_; refine gTaz ?_; refine lvz (.gtrF rfl rfl (by omega)) ?_; refine pFaz ?_; refine vMz ?_; refine gTz ?_; refine vFz ?_; refine gTz ?_; refine ldz rfl .head cl_rd11 ?_; refine gTz ?_; refine lvz (.lenR rfl inferInstance rfl) ?_; refine gTz ?_; refine lvz (.gtr rfl rfl) ?_; refine pFz ?_; refine nNz ?_; refine CW.condD rfl (fun hsq hsp => ?_) (fun hsq hsp => ?_); refine sRz ?_; refine vAz ?_; refine nNz ?_; refine CW.ret ?_; refine thenR (finR (.inl rfl) rfl rfl rfl (.cons (.tmp rfl) .nil) ?_); rw [hn (by omega)]; rfl; refine CW.skip ?_; refine thenN ?_; refine CW.seq ?_; refine sRz ?_; refine vFz ?_; refine ldz rfl .head cl_rd13 ?_; refine lvz (.gtrF rfl rfl (by omega)) ?_; refine vMz ?_; refine gTz ?_; refine vFz ?_; refine gTz ?_; refine ldz rfl .head cl_rd12 ?_; refine gTz ?_; refine lvz (.gtr rfl rfl) ?_; refine pFz ?_; refine vMz ?_; refine LW.guardDF rfl rfl rfl (fun hsq hsp => ?_) (fun hsq hsp => ?_); refine vFz ?_; refine gTaz ?_; refine ldz rfl .head cl_rd12 ?_; refine gTaz ?_; refine vFz ?_; refine gTaz ?_; refine ldz rfl .head cl_rd13 ?_; refine gTaz ?_; refine lvz (.addN rfl rfl) ?_; refine gTaz ?_; refine lvz (.gtrF rfl rfl (by omega)) ?_; refine pFaz ?_; refine vMz ?_; refine gTz ?_; refine vFz ?_; refine gTz ?_; refine ldz rfl .head cl_rd13 ?_; refine gTz ?_; refine lvz (.eqT rfl rfl (by omega)) ?_; refine gTz ?_; refine vMz ?_; refine gTz ?_; refine vFz ?_; refine gTz ?_; refine ldz rfl .head cl_rd12 ?_; refine gTz ?_; refine lvz (.ne rfl rfl) ?_; refine gTz ?_; refine pTz ?_; refine pFz ?_; refine nNz ?_; refine CW.condN rfl (fun hsq hsp => ?_) (fun hsq hsp => ?_); refine sRz ?_; refine vAz ?_; refine nNz ?_; refine CW.ret ?_; refine thenR (finR (.inl rfl) rfl rfl rfl (.cons (.tmp rfl) .nil) ?_); rw [hn (by omega)]; rfl; refine CW.skip ?_; refine thenN ?_; refine CW.seq ?_; refine sRz ?_; refine vFz ?_; refine ldz rfl .head cl_rd0 ?_; refine lvz (.eqT rfl rfl (by omega)) ?_; refine nNz ?_; refine cTz ?_; refine sRz ?_; refine vFz ?_; refine ldz rfl .head cl_rd10 ?_; refine lvz (.lenR rfl inferInstance rfl) ?_; refine lvz (.eqT rfl rfl (by omega)) ?_; refine vMz ?_; refine gTz ?_; refine vFz ?_; refine gTz ?_; refine ldz rfl .head cl_rd13 ?_; refine gTz ?_; refine lvz (.eqT rfl rfl (by omega)) ?_; refine pTz ?_; refine vAz ?_; refine nNz ?_; refine CW.ret ?_; refine thenR (finR (.inl rfl) rfl rfl rfl (.cons (.tmp rfl) .nil) ?_); rw [hp (by omega)]; rfl; (iterate 5 refine gFaz ?_); refine pTaz ?_; refine vMz ?_; (iterate 4 refine gFz ?_); (iterate 3 refine gUz ?_); refine gFz ?_; refine pTz ?_; refine nNz ?_; refine cTz ?_; refine sRz ?_; refine vAz ?_; refine nNz ?_; refine CW.ret ?_; refine thenR (finR (.inl rfl) rfl rfl rfl (.cons (.tmp rfl) .nil) ?_); rw [hn (by omega)]; rfl; (iterate 3 refine gFaz ?_); refine pTaz ?_; refine vMz ?_; (iterate 4 refine gFz ?_); refine pTz ?_; refine nNz ?_; refine cTz ?_; refine sRz ?_; refine vAz ?_; refine nNz ?_; refine CW.ret ?_; refine thenR (finR (.inl rfl) rfl rfl rfl (.cons (.tmp rfl) .nil) ?_); rw [hn (by omega)]; rfl)
      · (refine sRz ?_; apply LW.boxA; rfl; rfl; intro _; refine vAz ?_; refine nNz ?_; refine CW.seq ?_; refine sRz ?_; refine vFz ?_; refine ldz rfl .head cl_rd0 ?_; apply LW.callE; rfl; rfl; infer_instance; exact .cons rfl .nil; intro w _; exact hOp w; refine lvz (.notT rfl (by with_reducible rfl)) ?_; refine vMz ?_; refine gTz ?_; refine vFz ?_; refine gTz ?_; refine ldz rfl .head cl_rd9 ?_; refine gTz ?_; refine lvz (.gtr rfl rfl) ?_; refine pFz ?_; refine vMz ?_)
        (refine LW.guardDF rfl rfl rfl (fun hsq hsp => ?_) (fun hsq hsp => ?_))
        (refine vFz ?_; refine gTaz ?_; refine ldz rfl .head cl_rd10 ?_; refine gTaz ?_; refine lvz (.lenR rfl inferInstance rfl) ?_; refine gTaz ?_; refine lvz (.gtr rfl rfl) ?_; refine pFaz ?_; refine vMz ?_; refine LW.guardDF rfl rfl rfl (fun hsq hsp => ?_) (fun hsq hsp => ?_); refine vFz ?_; refine gTaz ?_; refine ldz rfl .head cl_rd11 ?_; refine gTaz ?_; refine lvz (.lenR rfl inferInstance rfl) ?_; refine gTaz ?_; refine lvz (.gtr rfl rfl) ?_; refine pFaz ?_; refine nNz ?_; refine CW.condD rfl (fun hsq hsp => ?_) (fun hsq hsp => ?_); refine sRz ?_; refine vAz ?_; refine nNz ?_; refine CW.ret ?_; refine thenR (finR (.inl rfl) rfl rfl rfl (.cons (.tmp rfl) .nil) ?_); rw [hn (by omega)]; rfl; refine CW.skip ?_; refine thenN ?_; refine CW.seq ?_; refine sRz ?_; refine vFz ?_; refine ldz rfl .head cl_rd13 ?_; refine lvz (.gtr rfl rfl) ?_; refine vMz ?_; refine LW.guardDF rfl rfl rfl (fun hsq hsp => ?_) (fun hsq hsp => ?_); refine vFz ?_; refine gTaz ?_; refine ldz rfl .head cl_rd12 ?_; refine gTaz ?_; refine lvz (.gtr rfl rfl) ?_; refine pFaz ?_; refine vMz ?_; refine LW.guardDF rfl rfl rfl (fun hsq hsp => ?_) (fun hsq hsp => ?_); refine vFz ?_; refine gTaz ?_; refine ldz rfl .head cl_rd12 ?_; refine gTaz ?_; refine vFz ?_; refine gTaz ?_; refine ldz rfl .head cl_rd13 ?_; refine gTaz ?_; refine lvz (.addN rfl rfl) ?_; refine gTaz ?_; refine lvz (.gtr rfl rfl) ?_; refine pFaz ?_; refine vMz ?_; refine LW.guardDF rfl rfl rfl (fun hsq hsp => ?_) (fun hsq hsp => ?_); refine vFz ?_; refine gTaz ?_; refine ldz rfl .head cl_rd13 ?_; refine gTaz ?_; refine lvz (.eq rfl rfl) ?_; refine gTaz ?_; refine vMz ?_; refine LW.guardDT rfl rfl rfl (fun hsq hsp => ?_) (fun hsq hsp => ?_); refine vFz ?_; refine gTaz ?_; refine ldz rfl .head cl_rd12 ?_; refine gTaz ?_; refine lvz (.ne rfl rfl) ?_; refine gTaz ?_; refine pTaz ?_; refine pFaz ?_; refine nNz ?_; refine CW.condN rfl (fun hsq hsp => ?_) (fun hsq hsp => ?_); refine sRz ?_; refine vAz ?_; refine nNz ?_; refine CW.ret ?_; refine thenR (finR (.inl rfl) rfl rfl rfl (.cons (.tmp rfl) .nil) ?_); rw [hn (by omega)]; rfl; refine CW.skip ?_; refine thenN ?_; refine CW.seq ?_; refine sRz ?_; refine vFz ?_; refine ldz rfl .head cl_rd0 ?_; refine lvz (.eqT rfl rfl (by omega)) ?_; refine nNz ?_; refine cTz ?_; refine sRz ?_; refine vFz ?_; refine ldz rfl .head cl_rd10 ?_; refine lvz (.lenR rfl inferInstance rfl) ?_; refine lvz (.eqF rfl rfl (by omega)) ?_; refine vMz ?_; (iterate 3 refine gFz ?_); refine pFz ?_; refine vAz ?_; refine nNz ?_; refine CW.ret ?_; refine thenR (finR (.inl rfl) rfl rfl rfl (.cons (.tmp rfl) .nil) ?_); rw [hn (by omega)]; rfl; refine gFaz ?_; refine gFaz ?_; refine gTaz ?_; refine pFaz ?_; refine pFaz ?_; refine nNz ?_; refine cFz ?_; refine CW.skip ?_; refine thenN ?_; refine CW.seq ?_; refine sRz ?_; refine vFz ?_; refine ldz rfl .head cl_rd0 ?_; refine lvz (.eqT rfl rfl (by omega)) ?_; refine nNz ?_; refine cTz ?_; refine sRz ?_; refine vFz ?_; refine ldz rfl .head cl_rd10 ?_; refine lvz (.lenR rfl inferInstance rfl) ?_; refine lvz (.eq rfl rfl) ?_; refine vMz ?_; refine LW.guardDT rfl rfl rfl (fun hsq hsp => ?_) (fun hsq hsp => ?_); refine vFz ?_; refine gTaz ?_; refine ldz rfl .head cl_rd13 ?_; refine gTaz ?_; refine lvz (.eqF rfl rfl (by omega)) ?_; refine pTaz ?_; refine vAz ?_; refine nNz ?_; refine CW.ret ?_; refine thenR (finR (.inl rfl) rfl rfl rfl (.cons (.tmp rfl) .nil) ?_); rw [hn (by omega)]; rfl; refine gFaz ?_; refine gFaz ?_; refine pFaz ?_; refine vAz ?_; refine nNz ?_; refine CW.ret ?_; refine thenR (finR (.inl rfl) rfl rfl rfl (.cons (.tmp rfl) .nil) ?_); rw [hn (by omega)]; rfl; (iterate 3 refine gFaz ?_); (iterate 3 refine gUz ?_); refine gFaz ?_; refine pTaz ?_; refine nNz ?_; refine cTz ?_; refine sRz ?_; refine vAz ?_; refine nNz ?_; refine CW.ret ?_; refine thenR (finR (.inl rfl) rfl rfl rfl (.cons (.tmp rfl) .nil) ?_); rw [hn (by omega)]; rfl; (iterate 5 refine gFaz ?_); refine pTaz ?_; refine vMz ?_; (iterate 4 refine gFz ?_); (iterate 3 refine gUz ?_); refine gFz ?_; refine pTz ?_; refine nNz ?_; refine cTz ?_; refine sRz ?_; refine vAz ?_; refine nNz ?_; refine CW.ret ?_; refine thenR (finR (.inl rfl) rfl rfl rfl (.cons (.tmp rfl) .nil) ?_); rw [hn (by omega)]; rfl; refine gFaz ?_; refine gFaz ?_; refine pTaz ?_; refine vMz ?_; (iterate 6 refine gFz ?_); refine pTz ?_; refine vMz ?_; (iterate 4 refine gFz ?_); (iterate 3 refine gUz ?_); refine gFz ?_; refine pTz ?_; refine nNz ?_; refine cTz ?_; refine sRz ?_; refine vAz ?_; refine nNz ?_; refine CW.ret ?_; refine thenR (finR (.inl rfl) rfl rfl rfl (.cons (.tmp rfl) .nil) ?_); rw [hn (by omega)]; rfl; (iterate 3 refine gFaz ?_); refine pTaz ?_; refine nNz ?_; refine cTz ?_; refine sRz ?_; refine vAz ?_; refine nNz ?_; refine CW.ret ?_; refine thenR (finR (.inl rfl) rfl rfl rfl (.cons (.tmp rfl) .nil) ?_); rw [hn (by omega)]; rfl; (iterate 3 refine gFaz ?_); refine pTaz ?_; refine vMz ?_; (iterate 4 refine gFz ?_); refine pTz ?_; refine nNz ?_; refine cTz ?_; refine sRz ?_; refine vAz ?_; refine nNz ?_; refine CW.ret ?_; refine thenR (finR (.inl rfl) rfl rfl rfl (.cons (.tmp rfl) .nil) ?_); rw [hn (by omega)]; rfl)
    · by_cases hz : L.cl.length = 0
      · (refine sRz ?_; apply LW.boxA; rfl; rfl; intro _; refine vAz ?_; refine nNz ?_; refine CW.seq ?_; refine sRz ?_; refine vFz ?_; refine ldz rfl .head cl_rd0 ?_; apply LW.callE; rfl; rfl; infer_instance; exact .cons rfl .nil; intro w _; exact hOp w; refine lvz (.notT rfl (by with_reducible rfl)) ?_; refine vMz ?_; refine gTz ?_; refine vFz ?_; refine gTz ?_; refine ldz rfl .head cl_rd9 ?_; refine gTz ?_; refine lvz (.gtr rfl rfl) ?_; refine pFz ?_; refine vMz ?_)
        (refine LW.guardDF rfl rfl rfl (fun hsq hsp => ?_) (fun hsq hsp => ?_))
        (refine vFz ?_; refine gTaz ?_; refine ldz rfl .head cl_rd10 ?_; refine gTaz ?_; refine lvz (.lenR rfl inferInstance rfl) ?_; refine gTaz ?_; refine lvz (.gtr rfl rfl) ?_; refine pFaz ?_; refine vMz ?_; refine LW.guardDF rfl rfl rfl (fun hsq hsp => ?_) (fun hsq hsp => ?_); refine vFz ?_; refine gTaz ?_; refine ldz rfl .head cl_rd11 ?_; refine gTaz ?_; refine lvz (.lenR rfl inferInstance rfl) ?_; refine gTaz ?_; refine lvz (.gtrF rfl rfl (by omega)) ?_; refine pFaz ?_; refine nNz ?_; refine cFz ?_; refine CW.skip ?_; refine thenN ?_; refine CW.seq ?_; refine sRz ?_; refine vFz ?_; refine ldz rfl .head cl_rd13 ?_; refine lvz (.gtr rfl rfl) ?_; refine vMz ?_; refine LW.guardDF rfl rfl rfl (fun hsq hsp => ?_) (fun hsq hsp => ?_); refine vFz ?_; refine gTaz ?_; refine ldz rfl .head cl_rd12 ?_; refine gTaz ?_; refine lvz (.gtr rfl rfl) ?_; refine pFaz ?_; refine vMz ?_; refine LW.guardDF rfl rfl rfl (fun hsq hsp => ?_) (fun hsq hsp => ?_); refine vFz ?_; refine gTaz ?_; refine ldz rfl .head cl_rd12 ?_; refine gTaz ?_; refine vFz ?_; refine gTaz ?_; refine ldz rfl .head cl_rd13 ?_; refine gTaz ?_; refine lvz (.addN rfl rfl) ?_; refine gTaz ?_; refine lvz (.gtr rfl rfl) ?_; refine pFaz ?_; refine vMz ?_; refine LW.guardDF rfl rfl rfl (fun hsq hsp => ?_) (fun hsq hsp => ?_); refine vFz ?_; refine gTaz ?_; refine ldz rfl .head cl_rd13 ?_; refine gTaz ?_; refine lvz (.eq rfl rfl) ?_; refine gTaz ?_; refine vMz ?_; refine LW.guardDT rfl rfl rfl (fun hsq hsp => ?_) (fun hsq hsp => ?_); refine vFz ?_; refine gTaz ?_; refine ldz rfl .head cl_rd12 ?_; refine gTaz ?_; refine lvz (.ne rfl rfl) ?_; refine gTaz ?_; refine pTaz ?_; refine pFaz ?_; refine nNz ?_; refine CW.condN rfl (fun hsq hsp => ?_) (fun hsq hsp => ?_); refine sRz ?_; refine vAz ?_; refine nNz ?_; refine CW.ret ?_; refine thenR (finR (.inl rfl) rfl rfl rfl (.cons (.tmp rfl) .nil) ?_); rw [hn (by omega)]; rfl; refine CW.skip ?_; refine thenN ?_; refine CW.seq ?_; refine sRz ?_; refine vFz ?_; refine ldz rfl .head cl_rd0 ?_; refine lvz (.eqF rfl rfl (by omega)) ?_; refine nNz ?_; refine cFz ?_; refine CW.skip ?_; refine thenN ?_; refine sRz ?_; refine vFz ?_; refine ldz rfl .head cl_rd11 ?_; refine lvz (.lenR rfl inferInstance rfl) ?_; refine lvz (.eqT rfl rfl (by omega)) ?_; refine vAz ?_; refine nNz ?_; refine CW.ret ?_; apply finR; exact .inl rfl; rfl; rfl; rfl; apply ResL.cons; exact Res.tmp rfl; exact ResL.nil; rw [hp (by omega)]; rfl; refine gFaz ?_; refine gFaz ?_; refine gTaz ?_; refine pFaz ?_; refine pFaz ?_; refine nNz ?_; refine cFz ?_; refine CW.skip ?_; refine thenN ?_; refine CW.seq ?_; refine sRz ?_; refine vFz ?_; refine ldz rfl .head cl_rd0 ?_; refine lvz (.eqF rfl rfl (by omega)) ?_; refine nNz ?_; refine cFz ?_; refine CW.skip ?_; refine thenN ?_; refine sRz ?_; refine vFz ?_; refine ldz rfl .head cl_rd11 ?_; refine lvz (.lenR rfl inferInstance rfl) ?_; refine lvz (.eqT rfl rfl (by omega)) ?_; refine vAz ?_; refine nNz ?_; refine CW.ret ?_; apply finR; exact .inl rfl; rfl; rfl; rfl; apply ResL.cons; exact Res.tmp rfl; exact ResL.nil; rw [hp (by omega)]; rfl; (iterate 3 refine gFaz ?_); (iterate 3 refine gUz ?_); refine gFaz ?_; refine pTaz ?_; refine nNz ?_; refine cTz ?_; refine sRz ?_; refine vAz ?_; refine nNz ?_; refine CW.ret ?_; refine thenR (finR (.inl rfl) rfl rfl rfl (.cons (.tmp rfl) .nil) ?_); rw [hn (by omega)]; rfl; (iterate 5 refine gFaz ?_); refine pTaz ?_; refine vMz ?_; (iterate 4 refine gFz ?_); (iterate 3 refine gUz ?_); refine gFz ?_; refine pTz ?_; refine nNz ?_; refine cTz ?_; refine sRz ?_; refine vAz ?_; refine nNz ?_; refine CW.ret ?_; refine thenR (finR (.inl rfl) rfl rfl rfl (.cons (.tmp rfl) .nil) ?_); rw [hn (by omega)]; rfl; refine gFaz ?_; refine gFaz ?_; refine pTaz ?_; refine vMz ?_; (iterate 6 refine gFz ?_); refine pTz ?_; refine vMz ?_; (iterate 4 refine gFz ?_); (iterate 3 refine gUz ?_); refine gFz ?_; refine pTz ?_; refine nNz ?_; refine cTz ?_; refine sRz ?_; refine vAz ?_; refine nNz ?_; refine CW.ret ?_; refine thenR (finR (.inl rfl) rfl rfl rfl (.cons (.tmp rfl) .nil) ?_); rw [hn (by omega)]; rfl; (iterate 3 refine gFaz ?_); refine pTaz ?_; refine nNz ?_; refine cTz ?_; refine sRz ?_; refine vAz ?_; refine nNz ?_; refine CW.ret ?_; refine thenR (finR (.inl rfl) rfl rfl rfl (.cons (.tmp rfl) .nil) ?_); rw [hn (by omega)]; rfl; (iterate 3 refine gFaz ?_); refine pTaz ?_; refine vMz ?_; (iterate 4 refine gFz ?_); refine pTz ?_; refine nNz ?_; refine cTz ?_; refine sRz ?_; refine vAz ?_; refine nNz ?_; refine CW.ret ?_; refine thenR (finR (.inl rfl) rfl rfl rfl (.cons (.tmp rfl) .nil) ?_); rw [hn (by omega)]; rfl)
      · (refine sRz ?_; apply LW.boxA; rfl; rfl; intro _; refine vAz ?_; refine nNz ?_; refine CW.seq ?_; refine sRz ?_; refine vFz ?_; refine ldz rfl .head cl_rd0 ?_; apply LW.callE; rfl; rfl; infer_instance; exact .cons rfl .nil; intro w _; exact hOp w; refine lvz (.notT rfl (by with_reducible rfl)) ?_; refine vMz ?_; refine gTz ?_; refine vFz ?_; refine gTz ?_; refine ldz rfl .head cl_rd9 ?_; refine gTz ?_; refine lvz (.gtr rfl rfl) ?_; refine pFz ?_; refine vMz ?_)
        (refine LW.guardDF rfl rfl rfl (fun hsq hsp => ?_) (fun hsq hsp => ?_))
        (refine vFz ?_; refine gTaz ?_; refine ldz rfl .head cl_rd10 ?_; refine gTaz ?_; refine lvz (.lenR rfl inferInstance rfl) ?_; refine gTaz ?_; refine lvz (.gtr rfl rfl) ?_; refine pFaz ?_; refine vMz ?_; refine LW.guardDF rfl rfl rfl (fun hsq hsp => ?_) (fun hsq hsp => ?_); refine vFz ?_; refine gTaz ?_; refine ldz rfl .head cl_rd11 ?_; refine gTaz ?_; refine lvz (.lenR rfl inferInstance rfl) ?_; refine gTaz ?_; refine lvz (.gtr rfl rfl) ?_; refine pFaz ?_; refine nNz ?_; refine CW.condD rfl (fun hsq hsp => ?_) (fun hsq hsp => ?_); refine sRz ?_; refine vAz ?_; refine nNz ?_; refine CW.ret ?_; refine thenR (finR (.inl rfl) rfl rfl rfl (.cons (.tmp rfl) .nil) ?_); rw [hn (by omega)]; rfl; refine CW.skip ?_; refine thenN ?_; refine CW.seq ?_; refine sRz ?_; refine vFz ?_; refine ldz rfl .head cl_rd13 ?_; refine lvz (.gtr rfl rfl) ?_; refine vMz ?_; refine LW.guardDF rfl rfl rfl (fun hsq hsp => ?_) (fun hsq hsp => ?_); refine vFz ?_; refine gTaz ?_; refine ldz rfl .head cl_rd12 ?_; refine gTaz ?_; refine lvz (.gtr rfl rfl) ?_; refine pFaz ?_; refine vMz ?_; refine LW.guardDF rfl rfl rfl (fun hsq hsp => ?_) (fun hsq hsp => ?_); refine vFz ?_; refine gTaz ?_; refine ldz rfl .head cl_rd12 ?_; refine gTaz ?_; refine vFz ?_; refine gTaz ?_; refine ldz rfl .head cl_rd13 ?_; refine gTaz ?_; refine lvz (.addN rfl rfl) ?_; refine gTaz ?_; refine lvz (.gtr rfl rfl) ?_; refine pFaz ?_; refine vMz ?_; refine LW.guardDF rfl rfl rfl (fun hsq hsp => ?_) (fun hsq hsp => ?_); refine vFz ?_; refine gTaz ?_; refine ldz rfl .head cl_rd13 ?_; refine gTaz ?_; refine lvz (.eq rfl rfl) ?_; refine gTaz ?_; refine vMz ?_; refine LW.guardDT rfl rfl rfl (fun hsq hsp => ?_) (fun hsq hsp => ?_); refine vFz ?_; refine gTaz ?_; refine ldz rfl .head cl_rd12 ?_; refine gTaz ?_; refine lvz (.ne rfl rfl) ?_; refine gTaz ?_; refine pTaz ?_; refine pFaz ?_; refine nNz ?_; refine CW.condN rfl (fun hsq hsp => ?_) (fun hsq hsp => ?_); refine sRz ?_; refine vAz ?_; refine nNz ?_; refine CW.ret ?_; refine thenR (finR (.inl rfl) rfl rfl rfl (.cons (.tmp rfl) .nil) ?_); rw [hn (by omega)]; rfl; refine CW.skip ?_; refine thenN ?_; refine CW.seq ?_; refine sRz ?_; refine vFz ?_; refine ldz rfl .head cl_rd0 ?_; refine lvz (.eqF rfl rfl (by omega)) ?_; refine nNz ?_; refine cFz ?_; refine CW.skip ?_; refine thenN ?_; refine sRz ?_; refine vFz ?_; refine ldz rfl .head cl_rd11 ?_; refine lvz (.lenR rfl inferInstance rfl) ?_; refine lvz (.eqF rfl rfl (by omega)) ?_; refine vAz ?_; refine nNz ?_; refine CW.ret ?_; apply finR; exact .inl rfl; rfl; rfl; rfl; apply ResL.cons; exact Res.tmp rfl; exact ResL.nil; rw [hn (by omega)]; rfl; refine gFaz ?_; refine gFaz ?_; refine gTaz ?_; refine pFaz ?_; refine pFaz ?_; refine nNz ?_; refine cFz ?_; refine CW.skip ?_; refine thenN ?_; refine CW.seq ?_; refine sRz ?_; refine vFz ?_; refine ldz rfl .head cl_rd0 ?_; refine lvz (.eqF rfl rfl (by omega)) ?_; refine nNz ?_; refine cFz ?_; refine CW.skip ?_; refine thenN ?_; refine sRz ?_; refine vFz ?_; refine ldz rfl .head cl_rd11 ?_; refine lvz (.lenR rfl inferInstance rfl) ?_; refine lvz (.eqF rfl rfl (by omega)) ?_; refine vAz ?_; refine nNz ?_; refine CW.ret ?_; apply finR; exact .inl rfl; rfl; rfl; rfl; apply ResL.cons; exact Res.tmp rfl; exact ResL.nil; rw [hn (by omega)]; rfl; (iterate 3 refine gFaz ?_); (iterate 3 refine gUz ?_); refine gFaz ?_; refine pTaz ?_; refine nNz ?_; refine cTz ?_; refine sRz ?_; refine vAz ?_; refine nNz ?_; refine CW.ret ?_; refine thenR (finR (.inl rfl) rfl rfl rfl (.cons (.tmp rfl) .nil) ?_); rw [hn (by omega)]; rfl; (iterate 5 refine gFaz ?_); refine pTaz ?_; refine vMz ?_; (iterate 4 refine gFz ?_); (iterate 3 refine gUz ?_); refine gFz ?_; refine pTz ?_; refine nNz ?_; refine cTz ?_; refine sRz ?_; refine vAz ?_; refine nNz ?_; refine CW.ret ?_; refine thenR (finR (.inl rfl) rfl rfl rfl (.cons (.tmp rfl) .nil) ?_); rw [hn (by omega)]; rfl; refine gFaz ?_; refine gFaz ?_; refine pTaz ?_; refine vMz ?_; (iterate 6 refine gFz ?_); refine pTz ?_; refine vMz ?_; (iterate 4 refine gFz ?_); (iterate 3 refine gUz ?_); refine gFz ?_; refine pTz ?_; refine nNz ?_; refine cTz ?_; refine sRz ?_; refine vAz ?_; refine nNz ?_; refine CW.ret ?_; refine thenR (finR (.inl rfl) rfl rfl rfl (.cons (.tmp rfl) .nil) ?_); rw [hn (by omega)]; rfl; (iterate 3 refine gFaz ?_); refine pTaz ?_; refine nNz ?_; refine cTz ?_; refine sRz ?_; refine vAz ?_; refine nNz ?_; refine CW.ret ?_; refine thenR (finR (.inl rfl) rfl rfl rfl (.cons (.tmp rfl) .nil) ?_); rw [hn (by omega)]; rfl; (iterate 3 refine gFaz ?_); refine pTaz ?_; refine vMz ?_; (iterate 4 refine gFz ?_); refine pTz ?_; refine nNz ?_; refine cTz ?_; refine sRz ?_; refine vAz ?_; refine nNz ?_; refine CW.ret ?_; refine thenR (finR (.inl rfl) rfl rfl rfl (.cons (.tmp rfl) .nil) ?_); rw [hn (by omega)]; rfl)
  · have hb : (shq op).2.2.2.2.2 = false := by unfold shq; rw [if_neg (by omega), if_neg (by omega), if_neg (by omega)]
    rw [hb] at hOp0
    have hOp : ∀ w, Calls Tryz.prog 49 #[.int .u8 (op : Int)] w (Ret w (.bool false)) := hOp0
    rw [hn (fun h => hop h.1)]
    clear hp hn
    (refine sRz ?_; apply LW.boxA; rfl; rfl; intro _; refine vAz ?_; refine nNz ?_; refine CW.seq ?_; refine sRz ?_; refine vFz ?_; refine ldz rfl .head cl_rd0 ?_; apply LW.callE; rfl; rfl; infer_instance; exact .cons rfl .nil; intro w _; exact hOp w; refine lvz (.notF rfl (by with_reducible rfl)) ?_; refine vMz ?_; (iterate 3 refine gFz ?_); refine pTz ?_; refine vMz ?_; (iterate 4 refine gFz ?_); refine pTz ?_; refine vMz ?_; (iterate 4 refine gFz ?_); refine pTz ?_; refine nNz ?_; refine cTz ?_; refine sRz ?_; refine vAz ?_; refine nNz ?_; refine CW.ret ?_; refine thenR ?_)
    (apply finR; exact .inl rfl; rfl; rfl; rfl; apply ResL.cons; exact Res.tmp rfl; exact ResL.nil)
    rfl
end Go.Proofs.YtpgdnfgjbhdbpaaGreatDoor

/-
  The same bytes, the same words.
  Conditions: none.
-/
namespace Go.Proofs.YtpgdnfgjbhdbpaaGreatDoor
open Go Go.RowKit SL
set_option maxRecDepth 8000
set_option maxHeartbeats 4000000
set_option linter.unusedSimpArgs false
set_option linter.unusedVariables false
attribute [local irreducible] SL.CW SL.LW SL.DW Calls SL.Ret SL.RetG SL.beginQ SL.roundQ SL.rangeQ SL.inQ SL.RW SL.AnyW SL.thenQ SL.thenC SL.thenW SL.blkQ SL.finQ SL.ValP SL.NewP SL.SetP SL.CallP SL.Rd SL.Wr SL.Known
theorem sEqB_calls (a b : List UInt8) (va vb : Value) (w : World) (ha : RowAt w 1 va a.length (ucs a)) (hb : RowAt w 1 vb b.length (ucs b)) : Calls Tryz.prog 18 #[va, vb] w (Ret w (.bool (decide (a = b)))) := by
  obtain ⟨p0, c0, rfl, hc0, hm0⟩ := ha.form
  obtain ⟨p1, c1, rfl, hc1, hm1⟩ := hb.form
  simp only [maxLen] at hm0 hm1
  refine enter (args := [_, _]) _ [] [] Tryz.func18 rfl Tryz.ntmps18 rfl (by simp) .nil ?_
  by_cases hl : a.length = b.length
  · (refine sRz ?_; refine vAz ?_; refine nNz ?_; refine CW.seq ?_; refine sRz ?_; refine vMz ?_; refine lvz (.lenR rfl inferInstance rfl) ?_; refine vMz ?_; refine lvz (.lenR rfl inferInstance rfl) ?_; refine lvz (.neF rfl rfl (by omega)) ?_; refine nNz ?_; refine cFz ?_; refine CW.skip ?_; refine thenN ?_; refine CW.seq ?_; refine sRz ?_; refine vMz ?_; refine lvz (.lenR rfl inferInstance rfl) ?_; refine vMz ?_; refine nNz ?_; refine CW.block ?_)
    refine CW.loop (fun k : Nat => ([(0, .slice p0 a.length c0), (1, .slice p1 b.length c1), (12, .int .i64 (a.length : Int)), (13, .int .i64 (k : Int))], []))
      (fun k => k ≤ a.length ∧ ∀ j, j < k → a[j]? = b[j]?) (fun k => a.length - k) 0 ⟨Nat.zero_le _, fun j h => absurd h (Nat.not_lt_zero _)⟩ ⟨rfl, rfl, rfl, rfl, trivial⟩ (List.Sublist.refl _) ?_
    rintro k ⟨hk, hall⟩
    dsimp only
    rcases Nat.lt_or_ge k a.length with hlt | hge
    · obtain ⟨b1, off1, c', cs1, E1, fr1, heq, hbk1, hx1⟩ := ha.pos (by omega)
      cases heq
      obtain ⟨b2, off2, c', cs2, E2, fr2, heq, hbk2, hx2⟩ := hb.pos (by omega)
      cases heq
      have hlt2 : k < b.length := by omega
      obtain ⟨x, hx⟩ : ∃ x, a[k] = x := ⟨_, rfl⟩
      obtain ⟨y, hy⟩ : ∃ y, b[k] = y := ⟨_, rfl⟩
      have hrd1 : Rd Tryz.prog 5 (.cells cs1 E1 fr1) (off1 + k * 1) (.int .u8 (x.toNat : Int)) := Rd.elem1 hx1 (ucs_one a) (List.getElem?_eq_getElem hlt) (by rw [hx])
      have hrd2 : Rd Tryz.prog 5 (.cells cs2 E2 fr2) (off2 + k * 1) (.int .u8 (y.toNat : Int)) := Rd.elem1 hx2 (ucs_one b) (List.getElem?_eq_getElem hlt2) (by rw [hy])
      by_cases he : x = y
      · subst he
        (refine sRz ?_; refine lvz (.lssT rfl rfl (by omega)) ?_; refine nNz ?_; refine CW.seq ?_; refine cTz ?_; refine CW.skip ?_; refine thenN ?_; refine CW.seq ?_; refine CW.block ?_; refine sRz ?_; refine vMz ?_; refine vAz ?_; refine nNz ?_; refine CW.seq ?_; refine CW.quiet rfl mixed (by decide +kernel) ?_; apply QW.v0; rfl; exact WantT.none; apply ValP.move; rfl; apply QW.v0; rfl; exact WantT.none; apply ValP.move; rfl; apply QW.v0; rfl; exact WantT.none; apply ValP.indexAddrS; rfl; rfl; rfl; omega; apply QW.load; rfl; exact WantT.none; rfl; exact Known.ext (by assumption) (by simp); assumption; apply QW.v0; rfl; exact WantT.none; apply ValP.move; rfl; apply QW.v0; rfl; exact WantT.none; apply ValP.move; rfl; apply QW.v0; rfl; exact WantT.none; apply ValP.indexAddrS; rfl; rfl; rfl; omega; apply QW.load; rfl; exact WantT.none; rfl; exact Known.ext (by assumption) (by simp); assumption; apply QW.v0; rfl; exact WantT.none; apply ValP.neF; rfl; rfl; omega; refine QW.nil ?_; refine thenN ?_; refine cFz ?_; refine CW.skip ?_; refine blkN ?_; refine thenN ?_; refine CW.region ?_; refine lvz (.addZL rfl rfl (by decide) (by omega)) ?_; refine vMz ?_; apply LW.nil)
        apply thenX
        refine ⟨rfl, k + 1, ⟨hlt, fun j hj => ?_⟩, by omega, ⟨rfl, rfl, rfl, rfl, trivial⟩, List.Sublist.refl _⟩
        rcases Nat.lt_or_ge j k with h | h
        · exact hall j h
        · obtain rfl : j = k := by omega
          rw [List.getElem?_eq_getElem hlt, List.getElem?_eq_getElem hlt2, hx, hy]
      · have hne : ¬ (x.toNat : Int) = (y.toNat : Int) := fun h => he (UInt8.toNat_inj.1 (by omega))
        rw [decide_eq_false (fun h : a = b => he (by rw [← hx, ← hy]; subst h; rfl))]
        (refine sRz ?_; refine lvz (.lssT rfl rfl (by omega)) ?_; refine nNz ?_; refine CW.seq ?_; refine cTz ?_; refine CW.skip ?_; refine thenN ?_; refine CW.seq ?_; refine CW.block ?_; refine sRz ?_; refine vMz ?_; refine vAz ?_; refine nNz ?_; refine CW.seq ?_; refine CW.quiet rfl mixed (by decide +kernel) ?_; apply QW.v0; rfl; exact WantT.none; apply ValP.move; rfl; apply QW.v0; rfl; exact WantT.none; apply ValP.move; rfl; apply QW.v0; rfl; exact WantT.none; apply ValP.indexAddrS; rfl; rfl; rfl; omega; apply QW.load; rfl; exact WantT.none; rfl; exact Known.ext (by assumption) (by simp); assumption; apply QW.v0; rfl; exact WantT.none; apply ValP.move; rfl; apply QW.v0; rfl; exact WantT.none; apply ValP.move; rfl; apply QW.v0; rfl; exact WantT.none; apply ValP.indexAddrS; rfl; rfl; rfl; omega; apply QW.load; rfl; exact WantT.none; rfl; exact Known.ext (by assumption) (by simp); assumption; apply QW.v0; rfl; exact WantT.none; apply ValP.neT; rfl; rfl; omega; refine QW.nil ?_; refine thenN ?_; refine cTz ?_; refine sRz ?_; refine vAz ?_; refine nNz ?_; refine CW.ret ?_; refine blkR ?_; refine thenR ?_; refine thenR ?_; refine blkR ?_; refine thenR ?_)
        (apply finR; exact .inl rfl; rfl; rfl; rfl; apply ResL.cons; exact Res.tmp rfl; exact ResL.nil)
        rfl
    · rw [decide_eq_true (List.ext_getElem? fun j => by
        rcases Nat.lt_or_ge j k with h | h
        · exact hall j h
        · rw [List.getElem?_eq_none (by omega), List.getElem?_eq_none (by omega)])]
      (refine sRz ?_; refine lvz (.lssF rfl rfl (by omega)) ?_; refine nNz ?_; refine CW.seq ?_; refine cFz ?_; refine CW.exit ?_; refine thenE ?_; refine thenE ?_; refine blkE rfl ?_; refine thenN ?_; refine sRz ?_; refine vAz ?_; refine nNz ?_; refine CW.ret ?_)
      (apply finR; exact .inl rfl; rfl; rfl; rfl; apply ResL.cons; exact Res.tmp rfl; exact ResL.nil)
      rfl
  · rw [decide_eq_false (fun h : a = b => hl (by rw [h]))]
    (refine sRz ?_; refine vAz ?_; refine nNz ?_; refine CW.seq ?_; refine sRz ?_; refine vMz ?_; refine lvz (.lenR rfl inferInstance rfl) ?_; refine vMz ?_; refine lvz (.lenR rfl inferInstance rfl) ?_; refine lvz (.neT rfl rfl (by omega)) ?_; refine nNz ?_; refine cTz ?_; refine sRz ?_; refine vAz ?_; refine nNz ?_; refine CW.ret ?_; refine thenR ?_)
    (apply finR; exact .inl rfl; rfl; rfl; rfl; apply ResL.cons; exact Res.tmp rfl; exact ResL.nil)
    rfl
theorem rSame1_calls (a b : List UInt8) (va vb : Value) (w : World) (ha : RowAt w 1 va a.length (ucs a)) (hb : RowAt w 1 vb b.length (ucs b)) : Calls Tryz.prog 45 #[va, vb] w (Ret w (.bool (decide (a = b)))) := by
  obtain ⟨p0, c0, rfl, hc0, hm0⟩ := ha.form
  obtain ⟨p1, c1, rfl, hc1, hm1⟩ := hb.form
  simp only [maxLen] at hm0 hm1
  refine enter (args := [_, _]) _ [] [] Tryz.func45 rfl Tryz.ntmps45 rfl (by simp) .nil ?_
  by_cases hl : a.length = b.length
  · (refine sRz ?_; refine vAz ?_; refine nNz ?_; refine CW.seq ?_; refine sRz ?_; refine vMz ?_; refine lvz (.lenR rfl inferInstance rfl) ?_; refine vMz ?_; refine lvz (.lenR rfl inferInstance rfl) ?_; refine lvz (.neF rfl rfl (by omega)) ?_; refine nNz ?_; refine cFz ?_; refine CW.skip ?_; refine thenN ?_; refine CW.seq ?_; refine sRz ?_; refine vMz ?_; refine lvz (.lenR rfl inferInstance rfl) ?_; refine vMz ?_; refine nNz ?_; refine CW.block ?_)
    refine CW.loop (fun k : Nat => ([(0, .slice p0 a.length c0), (1, .slice p1 b.length c1), (12, .int .i64 (a.length : Int)), (13, .int .i64 (k : Int))], []))
      (fun k => k ≤ a.length ∧ ∀ j, j < k → a[j]? = b[j]?) (fun k => a.length - k) 0 ⟨Nat.zero_le _, fun j h => absurd h (Nat.not_lt_zero _)⟩ ⟨rfl, rfl, rfl, rfl, trivial⟩ (List.Sublist.refl _) ?_
    rintro k ⟨hk, hall⟩
    dsimp only
    rcases Nat.lt_or_ge k a.length with hlt | hge
    · obtain ⟨b1, off1, c', cs1, E1, fr1, heq, hbk1, hx1⟩ := ha.pos (by omega)
      cases heq
      obtain ⟨b2, off2, c', cs2, E2, fr2, heq, hbk2, hx2⟩ := hb.pos (by omega)
      cases heq
      have hlt2 : k < b.length := by omega
      obtain ⟨x, hx⟩ : ∃ x, a[k] = x := ⟨_, rfl⟩
      obtain ⟨y, hy⟩ : ∃ y, b[k] = y := ⟨_, rfl⟩
      have hrd1 : Rd Tryz.prog 5 (.cells cs1 E1 fr1) (off1 + k * 1) (.int .u8 (x.toNat : Int)) := Rd.elem1 hx1 (ucs_one a) (List.getElem?_eq_getElem hlt) (by rw [hx])
      have hrd2 : Rd Tryz.prog 5 (.cells cs2 E2 fr2) (off2 + k * 1) (.int .u8 (y.toNat : Int)) := Rd.elem1 hx2 (ucs_one b) (List.getElem?_eq_getElem hlt2) (by rw [hy])
      by_cases he : x = y
      · subst he
        (refine sRz ?_; refine lvz (.lssT rfl rfl (by omega)) ?_; refine nNz ?_; refine CW.seq ?_; refine cTz ?_; refine CW.skip ?_; refine thenN ?_; refine CW.seq ?_; refine CW.block ?_; refine sRz ?_; refine vMz ?_; refine vAz ?_; refine nNz ?_; refine CW.seq ?_; refine CW.quiet rfl mixed (by decide +kernel) ?_; apply QW.v0; rfl; exact WantT.none; apply ValP.move; rfl; apply QW.v0; rfl; exact WantT.none; apply ValP.move; rfl; apply QW.v0; rfl; exact WantT.none; apply ValP.indexAddrS; rfl; rfl; rfl; omega; apply QW.load; rfl; exact WantT.none; rfl; exact Known.ext (by assumption) (by simp); assumption; apply QW.v0; rfl; exact WantT.none; apply ValP.move; rfl; apply QW.v0; rfl; exact WantT.none; apply ValP.move; rfl; apply QW.v0; rfl; exact WantT.none; apply ValP.indexAddrS; rfl; rfl; rfl; omega; apply QW.load; rfl; exact WantT.none; rfl; exact Known.ext (by assumption) (by simp); assumption; apply QW.v0; rfl; exact WantT.none; apply ValP.neF; rfl; rfl; omega; refine QW.nil ?_; refine thenN ?_; refine cFz ?_; refine CW.skip ?_; refine blkN ?_; refine thenN ?_; refine CW.region ?_; refine lvz (.addZL rfl rfl (by decide) (by omega)) ?_; refine vMz ?_; apply LW.nil)
        apply thenX
        refine ⟨rfl, k + 1, ⟨hlt, fun j hj => ?_⟩, by omega, ⟨rfl, rfl, rfl, rfl, trivial⟩, List.Sublist.refl _⟩
        rcases Nat.lt_or_ge j k with h | h
        · exact hall j h
        · obtain rfl : j = k := by omega
          rw [List.getElem?_eq_getElem hlt, List.getElem?_eq_getElem hlt2, hx, hy]
      · have hne : ¬ (x.toNat : Int) = (y.toNat : Int) := fun h => he (UInt8.toNat_inj.1 (by omega))
        rw [decide_eq_false (fun h : a = b => he (by rw [← hx, ← hy]; subst h; rfl))]
        (refine sRz ?_; refine lvz (.lssT rfl rfl (by omega)) ?_; refine nNz ?_; refine CW.seq ?_; refine cTz ?_; refine CW.skip ?_; refine thenN ?_; refine CW.seq ?_; refine CW.block ?_; refine sRz ?_; refine vMz ?_; refine vAz ?_; refine nNz ?_; refine CW.seq ?_; refine CW.quiet rfl mixed (by decide +kernel) ?_; apply QW.v0; rfl; exact WantT.none; apply ValP.move; rfl; apply QW.v0; rfl; exact WantT.none; apply ValP.move; rfl; apply QW.v0; rfl; exact WantT.none; apply ValP.indexAddrS; rfl; rfl; rfl; omega; apply QW.load; rfl; exact WantT.none; rfl; exact Known.ext (by assumption) (by simp); assumption; apply QW.v0; rfl; exact WantT.none; apply ValP.move; rfl; apply QW.v0; rfl; exact WantT.none; apply ValP.move; rfl; apply QW.v0; rfl; exact WantT.none; apply ValP.indexAddrS; rfl; rfl; rfl; omega; apply QW.load; rfl; exact WantT.none; rfl; exact Known.ext (by assumption) (by simp); assumption; apply QW.v0; rfl; exact WantT.none; apply ValP.neT; rfl; rfl; omega; refine QW.nil ?_; refine thenN ?_; refine cTz ?_; refine sRz ?_; refine vAz ?_; refine nNz ?_; refine CW.ret ?_; refine blkR ?_; refine thenR ?_; refine thenR ?_; refine blkR ?_; refine thenR ?_)
        (apply finR; exact .inl rfl; rfl; rfl; rfl; apply ResL.cons; exact Res.tmp rfl; exact ResL.nil)
        rfl
    · rw [decide_eq_true (List.ext_getElem? fun j => by
        rcases Nat.lt_or_ge j k with h | h
        · exact hall j h
        · rw [List.getElem?_eq_none (by omega), List.getElem?_eq_none (by omega)])]
      (refine sRz ?_; refine lvz (.lssF rfl rfl (by omega)) ?_; refine nNz ?_; refine CW.seq ?_; refine cFz ?_; refine CW.exit ?_; refine thenE ?_; refine thenE ?_; refine blkE rfl ?_; refine thenN ?_; refine sRz ?_; refine vAz ?_; refine nNz ?_; refine CW.ret ?_)
      (apply finR; exact .inl rfl; rfl; rfl; rfl; apply ResL.cons; exact Res.tmp rfl; exact ResL.nil)
      rfl
  · rw [decide_eq_false (fun h : a = b => hl (by rw [h]))]
    (refine sRz ?_; refine vAz ?_; refine nNz ?_; refine CW.seq ?_; refine sRz ?_; refine vMz ?_; refine lvz (.lenR rfl inferInstance rfl) ?_; refine vMz ?_; refine lvz (.lenR rfl inferInstance rfl) ?_; refine lvz (.neT rfl rfl (by omega)) ?_; refine nNz ?_; refine cTz ?_; refine sRz ?_; refine vAz ?_; refine nNz ?_; refine CW.ret ?_; refine thenR ?_)
    (apply finR; exact .inl rfl; rfl; rfl; rfl; apply ResL.cons; exact Res.tmp rfl; exact ResL.nil)
    rfl
theorem rSameB_calls (a b : List UInt8) (va vb : Value) (w : World) (ha : RowAt w 1 va a.length (ucs a)) (hb : RowAt w 1 vb b.length (ucs b)) : Calls Tryz.prog 83 #[va, vb] w (Ret w (.bool (decide (a = b)))) := by
  obtain ⟨p0, c0, rfl, hc0, hm0⟩ := ha.form
  obtain ⟨p1, c1, rfl, hc1, hm1⟩ := hb.form
  simp only [maxLen] at hm0 hm1
  refine enter (args := [_, _]) _ [] [] Tryz.func83 rfl Tryz.ntmps83 rfl (by simp) .nil ?_
  by_cases hl : a.length = b.length
  · (refine sRz ?_; refine vAz ?_; refine nNz ?_; refine CW.seq ?_; refine sRz ?_; refine vMz ?_; refine lvz (.lenR rfl inferInstance rfl) ?_; refine vMz ?_; refine lvz (.lenR rfl inferInstance rfl) ?_; refine lvz (.neF rfl rfl (by omega)) ?_; refine nNz ?_; refine cFz ?_; refine CW.skip ?_; refine thenN ?_; refine CW.seq ?_; refine sRz ?_; refine vAz ?_; refine nNz ?_; refine CW.block ?_)
    refine CW.loop (fun k : Nat => ([(0, .slice p0 a.length c0), (1, .slice p1 b.length c1), (4, .bool false), (5, .int .i64 (k : Int))], []))
      (fun k => k ≤ a.length ∧ ∀ j, j < k → a[j]? = b[j]?) (fun k => a.length - k) 0 ⟨Nat.zero_le _, fun j h => absurd h (Nat.not_lt_zero _)⟩ ⟨rfl, rfl, rfl, rfl, trivial⟩ (List.Sublist.refl _) ?_
    rintro k ⟨hk, hall⟩
    dsimp only
    rcases Nat.lt_or_ge k a.length with hlt | hge
    · obtain ⟨b1, off1, c', cs1, E1, fr1, heq, hbk1, hx1⟩ := ha.pos (by omega)
      cases heq
      obtain ⟨b2, off2, c', cs2, E2, fr2, heq, hbk2, hx2⟩ := hb.pos (by omega)
      cases heq
      have hlt2 : k < b.length := by omega
      obtain ⟨x, hx⟩ : ∃ x, a[k] = x := ⟨_, rfl⟩
      obtain ⟨y, hy⟩ : ∃ y, b[k] = y := ⟨_, rfl⟩
      have hrd1 : Rd Tryz.prog 5 (.cells cs1 E1 fr1) (off1 + k * 1) (.int .u8 (x.toNat : Int)) := Rd.elem1 hx1 (ucs_one a) (List.getElem?_eq_getElem hlt) (by rw [hx])
      have hrd2 : Rd Tryz.prog 5 (.cells cs2 E2 fr2) (off2 + k * 1) (.int .u8 (y.toNat : Int)) := Rd.elem1 hx2 (ucs_one b) (List.getElem?_eq_getElem hlt2) (by rw [hy])
      by_cases he : x = y
      · subst he
        (refine CW.seq ?_; refine sRz ?_; refine vMz ?_; refine vMz ?_; refine lvz (.lenR rfl inferInstance rfl) ?_; refine lvz (.lssT rfl rfl (by omega)) ?_; refine nNz ?_; refine cTz ?_; refine CW.skip ?_; refine thenN ?_; refine CW.seq ?_; refine CW.block ?_; refine CW.seq ?_; refine CW.quiet rfl mixed (by decide +kernel) ?_; apply QW.v0; rfl; exact WantT.none; apply ValP.move; rfl; apply QW.v0; rfl; exact WantT.none; apply ValP.move; rfl; apply QW.v0; rfl; exact WantT.none; apply ValP.indexAddrS; rfl; rfl; rfl; omega; apply QW.load; rfl; exact WantT.none; rfl; exact Known.ext (by assumption) (by simp); assumption; apply QW.v0; rfl; exact WantT.none; apply ValP.move; rfl; apply QW.v0; rfl; exact WantT.none; apply ValP.move; rfl; apply QW.v0; rfl; exact WantT.none; apply ValP.indexAddrS; rfl; rfl; rfl; omega; apply QW.load; rfl; exact WantT.none; rfl; exact Known.ext (by assumption) (by simp); assumption; apply QW.v0; rfl; exact WantT.none; apply ValP.neF; rfl; rfl; omega; refine QW.nil ?_; refine thenN ?_; refine cFz ?_; refine CW.skip ?_; refine blkN ?_; refine thenN ?_; refine CW.region ?_; refine vMz ?_; refine lvz (.addZL rfl rfl (by decide) (by omega)) ?_; refine vAz ?_; apply LW.nil)
        apply thenX
        refine ⟨rfl, k + 1, ⟨hlt, fun j hj => ?_⟩, by omega, ⟨rfl, rfl, rfl, rfl, trivial⟩, List.Sublist.refl _⟩
        rcases Nat.lt_or_ge j k with h | h
        · exact hall j h
        · obtain rfl : j = k := by omega
          rw [List.getElem?_eq_getElem hlt, List.getElem?_eq_getElem hlt2, hx, hy]
      · have hne : ¬ (x.toNat : Int) = (y.toNat : Int) := fun h => he (UInt8.toNat_inj.1 (by omega))
        rw [decide_eq_false (fun h : a = b => he (by rw [← hx, ← hy]; subst h; rfl))]
        (refine CW.seq ?_; refine sRz ?_; refine vMz ?_; refine vMz ?_; refine lvz (.lenR rfl inferInstance rfl) ?_; refine lvz (.lssT rfl rfl (by omega)) ?_; refine nNz ?_; refine cTz ?_; refine CW.skip ?_; refine thenN ?_; refine CW.seq ?_; refine CW.block ?_; refine CW.seq ?_; refine CW.quiet rfl mixed (by decide +kernel) ?_; apply QW.v0; rfl; exact WantT.none; apply ValP.move; rfl; apply QW.v0; rfl; exact WantT.none; apply ValP.move; rfl; apply QW.v0; rfl; exact WantT.none; apply ValP.indexAddrS; rfl; rfl; rfl; omega; apply QW.load; rfl; exact WantT.none; rfl; exact Known.ext (by assumption) (by simp); assumption; apply QW.v0; rfl; exact WantT.none; apply ValP.move; rfl; apply QW.v0; rfl; exact WantT.none; apply ValP.move; rfl; apply QW.v0; rfl; exact WantT.none; apply ValP.indexAddrS; rfl; rfl; rfl; omega; apply QW.load; rfl; exact WantT.none; rfl; exact Known.ext (by assumption) (by simp); assumption; apply QW.v0; rfl; exact WantT.none; apply ValP.neT; rfl; rfl; omega; refine QW.nil ?_; refine thenN ?_; refine cTz ?_; refine sRz ?_; refine vAz ?_; refine nNz ?_; refine CW.ret ?_; refine blkR ?_; refine thenR ?_; refine thenR ?_; refine blkR ?_; refine thenR ?_)
        (apply finR; exact .inl rfl; rfl; rfl; rfl; apply ResL.cons; exact Res.tmp rfl; exact ResL.nil)
        rfl
    · rw [decide_eq_true (List.ext_getElem? fun j => by
        rcases Nat.lt_or_ge j k with h | h
        · exact hall j h
        · rw [List.getElem?_eq_none (by omega), List.getElem?_eq_none (by omega)])]
      (refine CW.seq ?_; refine sRz ?_; refine vMz ?_; refine vMz ?_; refine lvz (.lenR rfl inferInstance rfl) ?_; refine lvz (.lssF rfl rfl (by omega)) ?_; refine nNz ?_; refine cFz ?_; refine CW.exit ?_; refine thenE ?_; refine thenE ?_; refine blkE rfl ?_; refine thenN ?_; refine sRz ?_; refine vAz ?_; refine nNz ?_; refine CW.ret ?_)
      (apply finR; exact .inl rfl; rfl; rfl; rfl; apply ResL.cons; exact Res.tmp rfl; exact ResL.nil)
      rfl
  · rw [decide_eq_false (fun h : a = b => hl (by rw [h]))]
    (refine sRz ?_; refine vAz ?_; refine nNz ?_; refine CW.seq ?_; refine sRz ?_; refine vMz ?_; refine lvz (.lenR rfl inferInstance rfl) ?_; refine vMz ?_; refine lvz (.lenR rfl inferInstance rfl) ?_; refine lvz (.neT rfl rfl (by omega)) ?_; refine nNz ?_; refine cTz ?_; refine sRz ?_; refine vAz ?_; refine nNz ?_; refine CW.ret ?_; refine thenR ?_)
    (apply finR; exact .inl rfl; rfl; rfl; rfl; apply ResL.cons; exact Res.tmp rfl; exact ResL.nil)
    rfl
theorem rSameW_calls (a b : List Nat) (hwa : ∀ x ∈ a, x < M256) (hwb : ∀ x ∈ b, x < M256) (va vb : Value) (w : World) (ha : RowAt w 4 va a.length (wcs a)) (hb : RowAt w 4 vb b.length (wcs b)) : Calls Tryz.prog 82 #[va, vb] w (Ret w (.bool (decide (a = b)))) := by
  obtain ⟨p0, c0, rfl, hc0, hm0⟩ := ha.form
  obtain ⟨p1, c1, rfl, hc1, hm1⟩ := hb.form
  simp only [maxLen] at hm0 hm1
  refine enter (args := [_, _]) _ [] [] Tryz.func82 rfl Tryz.ntmps82 rfl (by simp) .nil ?_
  by_cases hl : a.length = b.length
  · (refine sRz ?_; refine vAz ?_; refine nNz ?_; refine CW.seq ?_; refine sRz ?_; refine vMz ?_; refine lvz (.lenR rfl inferInstance rfl) ?_; refine vMz ?_; refine lvz (.lenR rfl inferInstance rfl) ?_; refine lvz (.neF rfl rfl (by omega)) ?_; refine nNz ?_; refine cFz ?_; refine CW.skip ?_; refine thenN ?_; refine CW.seq ?_; refine sRz ?_; refine vAz ?_; refine nNz ?_; refine CW.block ?_)
    refine CW.loop (fun k : Nat => ([(0, .slice p0 a.length c0), (1, .slice p1 b.length c1), (4, .bool false), (5, .int .i64 (k : Int))], []))
      (fun k => k ≤ a.length ∧ ∀ j, j < k → a[j]? = b[j]?) (fun k => a.length - k) 0 ⟨Nat.zero_le _, fun j h => absurd h (Nat.not_lt_zero _)⟩ ⟨rfl, rfl, rfl, rfl, trivial⟩ (List.Sublist.refl _) ?_
    rintro k ⟨hk, hall⟩
    dsimp only
    rcases Nat.lt_or_ge k a.length with hlt | hge
    · obtain ⟨b1, off1, c', cs1, E1, fr1, heq, hbk1, hx1⟩ := ha.pos (by omega)
      cases heq
      obtain ⟨b2, off2, c', cs2, E2, fr2, heq, hbk2, hx2⟩ := hb.pos (by omega)
      cases heq
      have hlt2 : k < b.length := by omega
      obtain ⟨x, hx⟩ : ∃ x, a[k] = x := ⟨_, rfl⟩
      obtain ⟨y, hy⟩ : ∃ y, b[k] = y := ⟨_, rfl⟩
      have hxl : x < M256 := by rw [← hx]; exact hwa _ (List.getElem_mem hlt)
      have hyl : y < M256 := by rw [← hy]; exact hwb _ (List.getElem_mem hlt2)
      have hrd1 : Rd Tryz.prog 29 (.cells cs1 E1 fr1) (off1 + k * 4) (wv x) := by have h := word_rd (P := Tryz.prog) (T := 29) (E := E1) (fr := fr1) hx1 k hlt; rwa [List.getD_eq_getElem?_getD, List.getElem?_eq_getElem hlt, Option.getD_some, hx] at h
      have hrd2 : Rd Tryz.prog 29 (.cells cs2 E2 fr2) (off2 + k * 4) (wv y) := by have h := word_rd (P := Tryz.prog) (T := 29) (E := E2) (fr := fr2) hx2 k hlt2; rwa [List.getD_eq_getElem?_getD, List.getElem?_eq_getElem hlt2, Option.getD_some, hy] at h
      by_cases he : x = y
      · subst he
        (refine CW.seq ?_; refine sRz ?_; refine vMz ?_; refine vMz ?_; refine lvz (.lenR rfl inferInstance rfl) ?_; refine lvz (.lssT rfl rfl (by omega)) ?_; refine nNz ?_; refine cTz ?_; refine CW.skip ?_; refine thenN ?_; refine CW.seq ?_; refine CW.block ?_; refine CW.seq ?_; refine CW.quiet rfl mixed (by decide +kernel) ?_; apply QW.v0; rfl; exact WantT.none; apply ValP.move; rfl; apply QW.v0; rfl; exact WantT.none; apply ValP.move; rfl; apply QW.v0; rfl; exact WantT.none; apply ValP.indexAddrS; rfl; rfl; rfl; omega; apply QW.load; rfl; exact WantT.none; rfl; exact Known.ext (by assumption) (by simp); assumption; apply QW.v0; rfl; exact WantT.none; apply ValP.move; rfl; apply QW.v0; rfl; exact WantT.none; apply ValP.move; rfl; apply QW.v0; rfl; exact WantT.none; apply ValP.indexAddrS; rfl; rfl; rfl; omega; apply QW.load; rfl; exact WantT.none; rfl; exact Known.ext (by assumption) (by simp); assumption; apply QW.v0; rfl; exact WantT.none; apply ValP.neWF; rfl; rfl; (with_reducible rfl); refine QW.nil ?_; refine thenN ?_; refine cFz ?_; refine CW.skip ?_; refine blkN ?_; refine thenN ?_; refine CW.region ?_; refine vMz ?_; refine lvz (.addZL rfl rfl (by decide) (by omega)) ?_; refine vAz ?_; apply LW.nil)
        apply thenX
        refine ⟨rfl, k + 1, ⟨hlt, fun j hj => ?_⟩, by omega, ⟨rfl, rfl, rfl, rfl, trivial⟩, List.Sublist.refl _⟩
        rcases Nat.lt_or_ge j k with h | h
        · exact hall j h
        · obtain rfl : j = k := by omega
          rw [List.getElem?_eq_getElem hlt, List.getElem?_eq_getElem hlt2, hx, hy]
      · have hne := he
        rw [decide_eq_false (fun h : a = b => he (by rw [← hx, ← hy]; subst h; rfl))]
        (refine CW.seq ?_; refine sRz ?_; refine vMz ?_; refine vMz ?_; refine lvz (.lenR rfl inferInstance rfl) ?_; refine lvz (.lssT rfl rfl (by omega)) ?_; refine nNz ?_; refine cTz ?_; refine CW.skip ?_; refine thenN ?_; refine CW.seq ?_; refine CW.block ?_; refine CW.seq ?_; refine CW.quiet rfl mixed (by decide +kernel) ?_; apply QW.v0; rfl; exact WantT.none; apply ValP.move; rfl; apply QW.v0; rfl; exact WantT.none; apply ValP.move; rfl; apply QW.v0; rfl; exact WantT.none; apply ValP.indexAddrS; rfl; rfl; rfl; omega; apply QW.load; rfl; exact WantT.none; rfl; exact Known.ext (by assumption) (by simp); assumption; apply QW.v0; rfl; exact WantT.none; apply ValP.move; rfl; apply QW.v0; rfl; exact WantT.none; apply ValP.move; rfl; apply QW.v0; rfl; exact WantT.none; apply ValP.indexAddrS; rfl; rfl; rfl; omega; apply QW.load; rfl; exact WantT.none; rfl; exact Known.ext (by assumption) (by simp); assumption; apply QW.v0; rfl; exact WantT.none; apply ValP.neWT; rfl; rfl; assumption; assumption; assumption; refine QW.nil ?_; refine thenN ?_; refine cTz ?_; refine sRz ?_; refine vAz ?_; refine nNz ?_; refine CW.ret ?_; refine blkR ?_; refine thenR ?_; refine thenR ?_; refine blkR ?_; refine thenR ?_)
        (apply finR; exact .inl rfl; rfl; rfl; rfl; apply ResL.cons; exact Res.tmp rfl; exact ResL.nil)
        rfl
    · rw [decide_eq_true (List.ext_getElem? fun j => by
        rcases Nat.lt_or_ge j k with h | h
        · exact hall j h
        · rw [List.getElem?_eq_none (by omega), List.getElem?_eq_none (by omega)])]
      (refine CW.seq ?_; refine sRz ?_; refine vMz ?_; refine vMz ?_; refine lvz (.lenR rfl inferInstance rfl) ?_; refine lvz (.lssF rfl rfl (by omega)) ?_; refine nNz ?_; refine cFz ?_; refine CW.exit ?_; refine thenE ?_; refine thenE ?_; refine blkE rfl ?_; refine thenN ?_; refine sRz ?_; refine vAz ?_; refine nNz ?_; refine CW.ret ?_)
      (apply finR; exact .inl rfl; rfl; rfl; rfl; apply ResL.cons; exact Res.tmp rfl; exact ResL.nil)
      rfl
  · rw [decide_eq_false (fun h : a = b => hl (by rw [h]))]
    (refine sRz ?_; refine vAz ?_; refine nNz ?_; refine CW.seq ?_; refine sRz ?_; refine vMz ?_; refine lvz (.lenR rfl inferInstance rfl) ?_; refine vMz ?_; refine lvz (.lenR rfl inferInstance rfl) ?_; refine lvz (.neT rfl rfl (by omega)) ?_; refine nNz ?_; refine cTz ?_; refine sRz ?_; refine vAz ?_; refine nNz ?_; refine CW.ret ?_; refine thenR ?_)
    (apply finR; exact .inl rfl; rfl; rfl; rfl; apply ResL.cons; exact Res.tmp rfl; exact ResL.nil)
    rfl
end Go.Proofs.YtpgdnfgjbhdbpaaGreatDoor

/-
  A SMALL LOGIC OVER THE KIT's WALK, PART MY: what is put behind an empty slice, in whatever order.
  Conditions: none; over any program.
-/
namespace Go.Proofs.YtpgdnfgjbhdbpaaGreatDoor.SL
set_option linter.unusedVariables false
set_option linter.unusedSimpArgs false
open Go Go.RowKit
/-- **append**, on a slice without room. -/
theorem row_append0 {P : Program} {T E ty : TypeId} {i : TypeInfo} {z : Value} {size : Nat} (ht : P.underlying T = some (.slice E)) (hi : P.info? E = some i) (hz : i.zero = some z) (hsz : i.size = size) (hzs : z.cells.size = size)
    {a0 : Addr} {w0 : World} {S : List Nat} {w : World} (hs : St w0 S [] w)
    (a : Addr) (m c : Nat) (news : List Value) (hl : news.length = m * size) (hnews : ∀ j u, news[j]? = some u → w.cell? (a.add j) = some u) (hm : 0 < m) (h63 : m ≤ maxLen) (hbytes : m * i.bytes ≤ 140737488355328) :
    ∃ v' seg' w', (Builtin.append_ #[T, T] ty #[.slice (some a0) 0 0, .slice (some a) m c]).run P w = .ok v' w' ∧ IsRow E size v' m news seg' ∧ St w0 S seg' w' ∧ w.heap.size ≤ w'.heap.size ∧
      (∀ b, b < w.heap.size → b ∉ seg'.map (·.1) → w'.heap[b]? = w.heap[b]?) ∧ (∀ q ∈ seg', w.heap.size ≤ q.1 ∨ q.1 ∈ ([] : Fs).map (·.1)) := by
  subst hsz
  have h63' : m ≤ 9223372036854775807 := by simp only [maxLen] at h63; omega
  have hge := grownCap_ge w m 0 E
  have hr := run_append_grow (P := P) w T ty E i z ht hi hz a0 0 0 [] (by simp) (fun j u hu => by simp at hu) a m c news hl hnews (by omega) (by omega) (growslice_fits (by omega) (by simpa using hbytes))
  simp only [Nat.zero_add] at hr
  have hsize : ((#[] : Array Value) ++ news.toArray ++ Builtin.zeroCells z.cells (grownCap w m 0 E - m)).size = grownCap w m 0 E * i.size := by
    simp only [Array.size_append, List.size_toArray, size_zeroCells, hzs, hl, List.length_nil, Nat.zero_add, ← Nat.add_mul]
    congr 1
    omega
  have htake : ((#[] : Array Value) ++ news.toArray ++ Builtin.zeroCells z.cells (grownCap w m 0 E - m)).toList.take (m * i.size) = news := by
    simp only [Array.toList_append, List.append_assoc, List.nil_append]
    rw [← hl]
    exact List.take_left
  refine ⟨_, [(w.heap.size, .cells (#[] ++ news.toArray ++ Builtin.zeroCells z.cells (grownCap w m 0 E - m)) E (0, 0))], _, hr, .own hge (grownCap_le_maxLen w m 0 E h63) hsize htake hl, ?_, ?_, fun b hb _ => Below.heap_alloc w.drew _ b hb, fun q hq => ?_⟩
  · exact St.lay (pre := []) (post := []) (w := w) hs ((hs.bel.drew).alloc (by have := hs.bel.size; simpa [World.drew] using this) _) (World.alloc_heap_new w.drew _) (Nat.le_refl _) (fun k hk => Below.heap_alloc w.drew _ k hk)
  · rw [World.size_alloc]; exact Nat.le_succ _
  · obtain rfl : q = _ := by simpa using hq
    exact .inl (Nat.le_refl _)
section dw
variable {C : Cu} {ops : Array Oper} {μ : Mu} {Q : Post} {tl rest : List Oper} {k d : Nat} {e : Env} {ts : Ts} {t : TypeId} {pos : String} {af : Array Edge} {g : Option (Nat × Bool)}
/-- **append(s, x...)** in whatever order, s without room, x a row of the caller's. -/
theorem DW.appendE {s x : Operand} {tys : Array TypeId} {T E size bytes m : Nat} {z vx : Value} {a0 : Addr} {news : List Value} {M : Rel1}
    (hk : ops[k]? = some ⟨some d, .call { callee := .builtin .append, args := #[s, x], argTypes := tys }, t, pos, af, g⟩) (hm : μ k = some (cst M, false)) (hd : Nat.blt d C.N = true) (hg : WantT ops e g)
    (hT : tys = #[T, T]) (hU : UnI C.P T (.slice E)) (hI : InfoI C.P E size z) (hB : BytI C.P E bytes) (hz : z.cells.size = size) (hs : e.ev s = some (.slice (some a0) 0 0)) (hx : e.ev x = some vx)
    (hat : RowAt C.w0 size vx m news) (hS : C.S = []) (hm0 : 0 < m) (h63 : m ≤ maxLen) (hb : m * bytes ≤ 140737488355328) (hM : ∀ v gs, IsRow E size v m news gs → M v gs)
    (kk : ∀ v' seg', M v' seg' → DW C ops μ Q tl rest (k + 1) ((d, v') :: e) (tsTag (k :: []) (k :: []) seg' ++ ts)) :
    DW C ops μ Q tl (⟨some d, .call { callee := .builtin .append, args := #[s, x], argTypes := tys }, t, pos, af, g⟩ :: rest) k e ts := by
  subst hT
  refine DW.appendX (us := []) (us3 := []) (seg := []) hk hm hd hg hs hx ⟨rfl, rfl⟩ .nil (RdV.ext hat hS .nil) (fun p hp => by cases hp) (fun w hst _ => ?_) (fun ψ v' seg' _ hR => kk v' seg' hR)
  obtain ⟨i, q1, q2, q3, q4⟩ := info_all (P := C.P) (T := E)
  have hA : RowAt w size vx m news := hat.bel (by have := hst.bel; rwa [hS] at this)
  obtain ⟨b, off, c, cs, E', fr, rfl, hb1, hx1⟩ := hA.pos hm0
  obtain ⟨v', seg', w', hr, hrow', hst', g1, g2, g3⟩ := row_append0 (P := C.P) (ty := t) (a0 := a0) hU.un q1 q3 q2 hz hst ⟨b, off, none⟩ m c news hA.len (fun j u hj => by
    rw [addr_add, cell_of hb1]; exact cut_get hx1 hj) hm0 h63 (by rw [q4]; exact hb)
  exact ⟨v', seg', w', hr, fun ψ _ => hM _ _ hrow', hst', g1, g2, g3⟩
/-- The first operand, as it is. -/
def sameR : Rel2 := fun vs _ v gs => vs.head? = some v ∧ gs = []
/-- **append(s, x...)** in whatever order, s without room, x a row of none. -/
theorem DW.appendN {s x : Operand} {tys : Array TypeId} {T E size : TypeId} {q : Option Addr} {c' : Nat} {z : Value} {a0 : Addr}
    (hk : ops[k]? = some ⟨some d, .call { callee := .builtin .append, args := #[s, x], argTypes := tys }, t, pos, af, g⟩) (hm : μ k = some (sameR, false)) (hd : Nat.blt d C.N = true) (hg : WantT ops e g)
    (hT : tys = #[T, T]) (hU : UnI C.P T (.slice E)) (hI : InfoI C.P E size z) (hs : e.ev s = some (.slice (some a0) 0 0)) (hx : e.ev x = some (.slice q 0 c'))
    (hat : RowAt C.w0 size (.slice q 0 c') 0 []) (hS : C.S = [])
    (kk : DW C ops μ Q tl rest (k + 1) ((d, .slice (some a0) 0 0) :: e) (tsTag (k :: []) (k :: []) [] ++ ts)) :
    DW C ops μ Q tl (⟨some d, .call { callee := .builtin .append, args := #[s, x], argTypes := tys }, t, pos, af, g⟩ :: rest) k e ts := by
  subst hT
  refine DW.appendX (us := []) (us3 := []) (seg := []) hk hm hd hg hs hx ⟨rfl, rfl⟩ .nil (RdV.ext hat hS .nil) (fun p hp => by cases hp) (fun w hst _ => ?_) (fun ψ v' seg' _ hR => ?_)
  · obtain ⟨i, h1, h2, _⟩ := info_of (P := C.P) (T := E)
    have hsrc : Src C.P i.size T (.slice q 0 c') 0 [] w := by
      cases q with
      | none => exact Src.ofNil w hU.un c'
      | some a => exact Src.ofSlice w hU.un a 0 c' [] (by simp) (fun j u h => by simp at h) (fun u h => by cases h)
    have hr := run_append_nothing (P := C.P) w T T t E i hU.un h1 (some a0) 0 0 (Nat.le_refl 0) _ hsrc
    exact ⟨_, [], w, hr, fun ψ _ => ⟨rfl, rfl⟩, hst, Nat.le_refl _, fun b _ _ => rfl, fun q hq => by cases hq⟩
  · obtain ⟨h1, rfl⟩ := hR
    cases h1
    exact kk
theorem DW.lay0 {T E sz : TypeId} {z : Value} (hk : ops[k]? = some ⟨some d, .buildSlice T 0 #[], t, pos, af, g⟩) (hm : μ k = none) (hd : Nat.blt d C.N = true) (hg : WantT ops e g) (hU : UnI C.P T (.slice E)) (hI : InfoI C.P E sz z)
    (kk : ∀ b, DW C ops μ Q tl rest (k + 1) ((d, .slice (some ⟨b, 0, none⟩) 0 0) :: e) ((b, .cells #[] E (0, 0), [k], []) :: ts)) : DW C ops μ Q tl (⟨some d, .buildSlice T 0 #[], t, pos, af, g⟩ :: rest) k e ts :=
  DW.new hk hm hd hg rfl (NewP.build0 hU hI) kk
end dw
end Go.Proofs.YtpgdnfgjbhdbpaaGreatDoor.SL

/-
  A SMALL LOGIC OVER THE KIT's WALK, PART MZ: within a region, what is behind ways that part told once.
  Conditions: none; over any program.
-/
namespace Go.Proofs.YtpgdnfgjbhdbpaaGreatDoor.SL
set_option linter.unusedVariables false
set_option linter.unusedSimpArgs false
open Go Go.RowKit
theorem upon_join {F : Fence} {n : Nat} {P : Program} {o : Oper} {a : Act} {w : World} {K K' : Act → World → Prop} {Q Q' : Exit → Act → World → Prop} (h : ∀ a w, K a w → K' a w) (hp : ∀ ch a w, Q (.panic ch) a w → Q' (.panic ch) a w) (hl : LetsOut Q → LetsOut Q')
    (hh : o.wpIn F n P a w K Q) : o.wpIn F n P a w K' Q' := by
  unfold Oper.wpIn at *
  refine ⟨hh.1, ?_⟩
  have hh := hh.2
  generalize (o.semAt F.round a.eval).run P w = r at *
  cases r with
  | ok x w' =>
    cases x <;> simp only [Oper.uponIn] at hh ⊢ <;>
      first
        | exact h _ _ hh
        | exact ⟨hh.1, CallsIn.mono hh.2 (fun e w'' he => by cases e <;> first | exact h _ _ he | exact hp _ _ _ he | exact hl he)⟩
        | exact ⟨hh.1, RowsIn.mono hh.2 (fun _ _ he => h _ _ he)⟩
        | exact ⟨hh.1, RoundIn.mono hh.2 (fun e w'' he => by cases e <;> first | exact h _ _ he | exact hp _ _ _ he | exact hl he)⟩
  | halt x w' => cases x <;> simp only [Oper.uponIn] at hh ⊢ <;> first | exact hp _ _ _ hh | exact hh
theorem list_join {F : Fence} {n : Nat} {P : Program} {ops : Array Oper} {Qm Q : Exit → Act → World → Prop} {l2 : List Oper} (hn : ∀ a w, Qm .normal a w → wpListIn F n P ops Q l2 a w) (hp : ∀ ch a w, Qm (.panic ch) a w → Q (.panic ch) a w) (hl : LetsOut Qm → LetsOut Q) :
    ∀ (l1 : List Oper) (a : Act) (w : World), wpListIn F n P ops Qm l1 a w → wpListIn F n P ops Q (l1 ++ l2) a w
  | [], a, w, h => hn a w h
  | o :: r, a, w, h => by
    rw [List.cons_append]
    unfold wpListIn at h ⊢
    split
    · rename_i hw
      rw [if_pos hw] at h
      exact upon_join (fun a w h => list_join hn hp hl r a w h) hp hl h
    · rename_i hw
      rw [if_neg hw] at h
      exact ⟨h.1, list_join hn hp hl r _ _ h.2⟩
/-- The end of a part of a region: the state is as told, or else. -/
def joinQ (C : Cu) (e1 : Env) (fs1 : Fs) (Q : Post) : Post := fun x ds e fs => match x with
  | .normal => ds = C.ds ∧ e.le e1 ∧ List.Sublist fs1 fs
  | x => Q x ds e fs
/-- The first k operations lead to what is told, whatever way they take; the others follow from that. -/
theorem LW.join {C : Cu} {ops : Array Oper} {Q : Post} {l : List Oper} {e : Env} {fs : Fs} (k : Nat) (e1 : Env) (fs1 : Fs) (h2 : LW C ops Q (l.drop k) e1 fs1) (h1 : LW C ops (joinQ C e1 fs1 Q) (l.take k) e fs) : LW C ops Q l e fs := fun a w hs => by
  have h := h1 a w hs
  rw [← List.take_append_drop k l]
  refine list_join (fun a w hq => ?_) (fun ch a w hq => ?_) (fun hq => ?_) _ _ _ h
  · obtain ⟨ds, e', fs', ⟨rfl, h4, h5⟩, s⟩ := hq
    exact h2 a w (fs_sub s h4 h5)
  · obtain ⟨ds, e', fs', hq, s⟩ := hq
    exact ⟨ds, e', fs', hq, s⟩
  · obtain ⟨a, w, ds, e', fs', hq, s⟩ := hq
    exact ⟨a, w, ds, e', fs', hq, s⟩
theorem joinI {C : Cu} {e1 e : Env} {fs1 fs : Fs} {Q : Post} (h1 : e.le e1) (h2 : List.Sublist fs1 fs) : joinQ C e1 fs1 Q .normal C.ds e fs := ⟨rfl, h1, h2⟩
/-! ### x[:j:k]; nothing copied -/
section hm
variable {P : Program} {e : Env} {T : TypeId} {x : Operand} {n : Nat}
theorem run_slice_hm {w : World} {a : Option Addr} {len cap : Nat} (ht : P.underlying T = some (.slice (P.elem T))) (kh km : IntKind) (h m : Int) (h0 : 0 ≤ h) (h2 : h ≤ m) (h3 : m ≤ cap) :
    (Instr.slice T (.slice a len cap) none (some (.int kh h)) (some (.int km m))).run P w = ((sizeOf (P.elem T)).run P w).andThen fun s w => .ok (sliced a 0 h.toNat m.toNat s) w := by
  have eh : (h.toNat : Int) = h := Int.toNat_of_nonneg (by omega)
  have em : (m.toNat : Int) = m := Int.toNat_of_nonneg (by omega)
  simp [Instr.slice, run_underlying ht, Instr.sliceBounds, run_sliceBound, sliced, *, eh, em, (by omega : 0 ≤ h), (by omega : 0 ≤ m)]
theorem ValP.cutMax {ik im : IntKind} {E j k c sz : Nat} {z : Value} {p : Option Addr} {hi mx : Operand} (hU : UnI P T (.slice E)) (hI : InfoI P E sz z) (hx : e.ev x = some (.slice p n c)) (hh : e.ev hi = some (.int ik (j : Int))) (hm : e.ev mx = some (.int im (k : Int))) (h2 : j ≤ k) (h3 : k ≤ c) :
    ValP P e [] (.slice T x none (some hi) (some mx)) (.slice p j k) := fun ρ w hρ _ d t pos af g => by
  have hu : P.underlying T = some (.slice E) := hU.un
  have h1 := run_slice_hm (P := P) (T := T) (w := w) (a := p) (len := n) (cap := c) (elem_un hu) ik im (j : Int) (k : Int) (by omega) (by omega) (by omega)
  rw [elem_eq hu, run_size] at h1
  have h2 : (Instr.sliceAt T (.slice p n c) none (some (.int ik (j : Int))) (some (.int im (k : Int)))).run P w = .ok (.slice p j k) w := by
    rw [run_sliceAt_slice (w := w) T _ _ _ _ (elem_un hu), h1]
    simp only [Result.andThen_ok, sliced, Int.toNat_natCast, Nat.sub_zero, Nat.zero_mul]
    cases p with
    | none => simp
    | some a => cases a with | mk b o s => simp [addr_add, Addr.add]
  simp [execOp, hρ x _ hx, hρ hi _ hh, hρ mx _ hm, h2]
end hm
/-- **copy(x, y)** of none. -/
theorem LW.copyNone {C : Cu} {ops : Array Oper} {Q : Post} {rest : List Oper} {e : Env} {fs : Fs} {d : Nat} {t : TypeId} {pos : String} {af : Array Edge} {x y : Operand} {tys : Array TypeId} {T E bytes : TypeId} {z : Value} {p q : Option Addr} {n c m c' : Nat} (hd : Nat.blt d C.N = true) (hT : tys = #[T, T]) (hU : UnI C.P T (.slice E)) (hI : InfoI C.P E 1 z) (hB : BytI C.P E bytes)
    (hx : e.ev x = some (.slice p n c)) (hy : e.ev y = some (.slice q m c')) (h0 : Nat.min m n = 0) (k : LW C ops Q rest ((d, .int .i64 0) :: e) fs) :
    LW C ops Q (⟨some d, .call { callee := .builtin .copy, args := #[x, y], argTypes := tys }, t, pos, af, none⟩ :: rest) e fs := by
  subst hT
  have hsz : (C.P.info? E).map (·.size) = some 1 := by
    obtain ⟨i, i1, i2, i3, i4⟩ := info_all (P := C.P) (T := E); rw [i1]; simp [i2]
  refine LW.v0 hd rfl (fun ρ w hρ _ d t pos af g => ?_) k
  have hrun := run_copy_none (P := C.P) w T T t E p q n c m c' hU.un hsz h0
  simp [execOp, resolve, invoke, builtin, hρ x _ hx, hρ y _ hy, hrun, goInt]
/-! ### Drawn calls that are handed values of parts -/
section dv
variable {C : Cu} {ops : Array Oper} {Q : Post} {tl rest : List Oper} {e : Env} {ts : Ts} {μ : Mu} {k d : Nat} {t : TypeId} {pos : String} {af : Array Edge} {g : Option (Nat × Bool)} {fo : Operand} {args : Array Operand} {tys : Array TypeId} {f : FuncId} {vs vs' : List Value} {us : Fs} {ts' : Ts}
theorem DW.callW {v : Value} (hk : ops[k]? = some ⟨some d, .call { callee := .value fo, args := args, argTypes := tys }, t, pos, af, g⟩) (hm : μ k = none)
    (hd : Nat.blt d C.N = true) (hg : WantT ops e g) (hf : e.ev fo = some (.func (.func f) #[] #[])) (hF : FnI C.P f) (ha : ArgsOk e args.toList vs) (hbl : vs.flatMap (blocksN 4) = vs'.flatMap (blocksN 4)) (hr : RdV C ops k vs' ts us ts')
    (hc : ∀ w, Bel C.w0.heap.size C.S C.w0 w → (∀ p ∈ us, w.heap[p.1]? = some p.2) → Calls C.P f vs.toArray w (Ret w v)) (kk : DW C ops μ Q tl rest (k + 1) ((d, v) :: e) ts') :
    DW C ops μ Q tl (⟨some d, .call { callee := .value fo, args := args, argTypes := tys }, t, pos, af, g⟩ :: rest) k e ts := by
  obtain ⟨us2, h1, h2⟩ := hr.all
  rw [← hbl] at h1
  exact DW.callE hk hm hd hg hf hF ha (show _ = vs.flatMap (blocksN 4) from rfl) h1 (fun w hb hu => hc w hb fun p hp => hu p (h2 p hp)) kk
theorem DW.manyW {M : Rel1} (hk : ops[k]? = some ⟨some d, .call { callee := .value fo, args := args, argTypes := tys }, t, pos, af, g⟩) (hm : μ k = some (cst M, false))
    (hd : Nat.blt d C.N = true) (hg : WantT ops e g) (hf : e.ev fo = some (.func (.func f) #[] #[])) (hF : FnI C.P f) (ha : ArgsOk e args.toList vs) (hbl : vs.flatMap (blocksN 4) = vs'.flatMap (blocksN 4)) (hr : RdV C ops k vs' ts us ts')
    (hc : ∀ w, Bel C.w0.heap.size C.S C.w0 w → (∀ p ∈ us, w.heap[p.1]? = some p.2) → Calls C.P f vs.toArray w (RetG w [] M)) (kk : ∀ v gs, M v gs → DW C ops μ Q tl rest (k + 1) ((d, v) :: e) (tsNew k gs ++ ts')) :
    DW C ops μ Q tl (⟨some d, .call { callee := .value fo, args := args, argTypes := tys }, t, pos, af, g⟩ :: rest) k e ts := by
  obtain ⟨us2, h1, h2⟩ := hr.all
  rw [← hbl] at h1
  exact DW.manyE hk hm hd hg hf hF ha (show _ = vs.flatMap (blocksN 4) from rfl) h1 (fun w hb hu => hc w hb fun p hp => hu p (h2 p hp)) kk
theorem blocks_sl {x : Value} (h : ∃ p n c, x = .slice p n c) : blocksN 3 x = blocksN 4 x := by
  obtain ⟨p, n, c, rfl⟩ := h
  cases p <;> rfl
end dv
/-! ### What is put behind an empty slice: a row of ours, in whatever order -/
section de
variable {C : Cu} {ops : Array Oper} {μ : Mu} {Q : Post} {tl rest : List Oper} {k d : Nat} {e : Env} {ts : Ts} {t : TypeId} {pos : String} {af : Array Edge} {g : Option (Nat × Bool)}
theorem DW.appendF {s x : Operand} {tys : Array TypeId} {T E size bytes m : Nat} {z vx : Value} {a0 : Addr} {news : List Value} {M : Rel1} {us : Fs} {ts2 : Ts}
    (hk : ops[k]? = some ⟨some d, .call { callee := .builtin .append, args := #[s, x], argTypes := tys }, t, pos, af, g⟩) (hm : μ k = some (cst M, false)) (hd : Nat.blt d C.N = true) (hg : WantT ops e g)
    (hT : tys = #[T, T]) (hU : UnI C.P T (.slice E)) (hI : InfoI C.P E size z) (hB : BytI C.P E bytes) (hz : z.cells.size = size) (hs : e.ev s = some (.slice (some a0) 0 0)) (hx : e.ev x = some vx)
    (hr : RdV C ops k [vx] ts us ts2) (hat : ∀ w, (∀ p ∈ us, w.heap[p.1]? = some p.2) → RowAt w size vx m news) (hm0 : 0 < m) (h63 : m ≤ maxLen) (hb : m * bytes ≤ 140737488355328) (hM : ∀ v gs, IsRow E size v m news gs → M v gs)
    (kk : ∀ v' seg', M v' seg' → DW C ops μ Q tl rest (k + 1) ((d, v') :: e) (tsTag (k :: []) (k :: []) seg' ++ ts2)) :
    DW C ops μ Q tl (⟨some d, .call { callee := .builtin .append, args := #[s, x], argTypes := tys }, t, pos, af, g⟩ :: rest) k e ts := by
  subst hT
  refine DW.appendX (us := us) (us3 := []) (seg := []) hk hm hd hg hs hx ⟨rfl, rfl⟩ .nil hr (fun p hp => by cases hp) (fun w hst hu => ?_) (fun ψ v' seg' _ hR => kk v' seg' hR)
  obtain ⟨i, q1, q2, q3, q4⟩ := info_all (P := C.P) (T := E)
  have hA : RowAt w size vx m news := hat w hu
  obtain ⟨b, off, c, cs, E', fr, rfl, hb1, hx1⟩ := hA.pos hm0
  obtain ⟨v', seg', w', hr, hrow', hst', g1, g2, g3⟩ := row_append0 (P := C.P) (ty := t) (a0 := a0) hU.un q1 q3 q2 hz hst ⟨b, off, none⟩ m c news hA.len (fun j u hj => by
    rw [addr_add, cell_of hb1]; exact cut_get hx1 hj) hm0 h63 (by rw [q4]; exact hb)
  exact ⟨v', seg', w', hr, fun ψ _ => hM _ _ hrow', hst', g1, g2, g3⟩
theorem DW.appendNF {s x : Operand} {tys : Array TypeId} {T E size : TypeId} {q : Option Addr} {c' : Nat} {z : Value} {a0 : Addr} {us : Fs} {ts2 : Ts}
    (hk : ops[k]? = some ⟨some d, .call { callee := .builtin .append, args := #[s, x], argTypes := tys }, t, pos, af, g⟩) (hm : μ k = some (sameR, false)) (hd : Nat.blt d C.N = true) (hg : WantT ops e g)
    (hT : tys = #[T, T]) (hU : UnI C.P T (.slice E)) (hI : InfoI C.P E size z) (hs : e.ev s = some (.slice (some a0) 0 0)) (hx : e.ev x = some (.slice q 0 c'))
    (hr : RdV C ops k [.slice q 0 c'] ts us ts2)
    (kk : DW C ops μ Q tl rest (k + 1) ((d, .slice (some a0) 0 0) :: e) (tsTag (k :: []) (k :: []) [] ++ ts2)) :
    DW C ops μ Q tl (⟨some d, .call { callee := .builtin .append, args := #[s, x], argTypes := tys }, t, pos, af, g⟩ :: rest) k e ts := by
  subst hT
  refine DW.appendX (us := us) (us3 := []) (seg := []) hk hm hd hg hs hx ⟨rfl, rfl⟩ .nil hr (fun p hp => by cases hp) (fun w hst _ => ?_) (fun ψ v' seg' _ hR => ?_)
  · obtain ⟨i, h1, h2, _⟩ := info_of (P := C.P) (T := E)
    have hsrc : Src C.P i.size T (.slice q 0 c') 0 [] w := by
      cases q with
      | none => exact Src.ofNil w hU.un c'
      | some a => exact Src.ofSlice w hU.un a 0 c' [] (by simp) (fun j u h => by simp at h) (fun u h => by cases h)
    have hr := run_append_nothing (P := C.P) w T T t E i hU.un h1 (some a0) 0 0 (Nat.le_refl 0) _ hsrc
    exact ⟨_, [], w, hr, fun ψ _ => ⟨rfl, rfl⟩, hst, Nat.le_refl _, fun b _ _ => rfl, fun q hq => by cases hq⟩
  · obtain ⟨h1, rfl⟩ := hR
    cases h1
    exact kk
end de
end Go.Proofs.YtpgdnfgjbhdbpaaGreatDoor.SL

/-
  The same frames, the same calls, in the code's and the document's words.
  Conditions: none.
-/
namespace Go.Proofs.YtpgdnfgjbhdbpaaGreatDoor
open Go Go.RowKit SL
set_option maxRecDepth 8000
set_option maxHeartbeats 4000000
set_option linter.unusedSimpArgs false
set_option linter.unusedVariables false
attribute [local irreducible] SL.CW SL.LW SL.DW Calls SL.Ret SL.RetG SL.beginQ SL.roundQ SL.rangeQ SL.inQ SL.RW SL.AnyW SL.thenQ SL.thenC SL.thenW SL.blkQ SL.finQ SL.ValP SL.NewP SL.SetP SL.CallP SL.Rd SL.Wr SL.Known
/-- What a frame's numbers are below. -/
structure FrNum (f : FrV) (L : FrL) : Prop where
  gas : f.gas < 18446744073709551616
  self : f.self < 18446744073709551616
  frm : f.frm < 18446744073709551616
  val : f.val < M256
  ws : ∀ x ∈ L.ws, x < M256
def sameF (f : FrV) (L : FrL) (g : FrV) (M : FrL) : Prop := f.pc = g.pc ∧ f.gas = g.gas ∧ f.self = g.self ∧ f.frm = g.frm ∧ f.val = g.val ∧ f.stat = g.stat ∧ L.cl = M.cl ∧ L.il = M.il ∧ L.bl = M.bl ∧ (L.ws = M.ws ∧ L.ms = M.ms)
instance (f : FrV) (L : FrL) (g : FrV) (M : FrL) : Decidable (sameF f L g M) := by unfold sameF; infer_instance
def sameC (f : ClV) (L : ClL) (g : ClV) (M : ClL) : Prop := f.op = g.op ∧ f.dst = g.dst ∧ f.self = g.self ∧ f.frm = g.frm ∧ f.val = g.val ∧ f.mv = g.mv ∧ f.gas = g.gas ∧ f.pl = g.pl ∧ f.n = g.n ∧ f.stat = g.stat ∧ L.il = M.il ∧ L.cl = M.cl
instance (f : ClV) (L : ClL) (g : ClV) (M : ClL) : Decidable (sameC f L g M) := by unfold sameC; infer_instance
theorem SL.LW.joinF {C : Cu} {ops : Array Oper} {Q : Post} {l : List Oper} {e : Env} {fs : Fs} (k : Nat) (e1 : Env) (h2 : LW C ops Q (l.drop k) e1 fs) (h1 : LW C ops (joinQ C e1 fs Q) (l.take k) e fs) : LW C ops Q l e fs := LW.join k e1 fs h2 h1
theorem rScSame_calls (a b : List Nat) (x y : List UInt8) (hwa : ∀ x ∈ a, x < M256) (hwb : ∀ x ∈ b, x < M256) (va vb vx vy : Value) (w : World) (ha : RowAt w 4 va a.length (wcs a)) (hb : RowAt w 4 vb b.length (wcs b)) (hx : RowAt w 1 vx x.length (ucs x)) (hy : RowAt w 1 vy y.length (ucs y)) :
    Calls Tryz.prog 46 #[.agg #[va, vx], .agg #[vb, vy]] w (Ret w (.bool (decide (a = b ∧ x = y)))) := by
  obtain ⟨p0, c0, rfl, _, _⟩ := id ha.form
  obtain ⟨p1, c1, rfl, _, _⟩ := id hb.form
  obtain ⟨p2, c2, rfl, _, _⟩ := id hx.form
  obtain ⟨p3, c3, rfl, _, _⟩ := id hy.form
  have hW0 := fun w' {fs : Fs} (hst : St w [] fs w') => rSameW_calls a b hwa hwb _ _ w' (ha.st hst) (hb.st hst)
  have hB0 := fun w' {fs : Fs} (hst : St w [] fs w') => rSameB_calls x y _ _ w' (hx.st hst) (hy.st hst)
  refine enter (args := [_, _]) _ [] [] Tryz.func46 rfl Tryz.ntmps46 rfl (by simp) .nil ?_
  by_cases e : a = b
  · have hW : ∀ w' {fs : Fs}, St w [] fs w' → Calls Tryz.prog 82 #[.slice p0 a.length c0, .slice p1 b.length c1] w' (Ret w' (.bool true)) := fun w' fs hst => by have h := hW0 w' hst; rwa [decide_eq_true e] at h
    by_cases e2 : x = y
    · have hB : ∀ w' {fs : Fs}, St w [] fs w' → Calls Tryz.prog 83 #[.slice p2 x.length c2, .slice p3 y.length c3] w' (Ret w' (.bool true)) := fun w' fs hst => by have h := hB0 w' hst; rwa [decide_eq_true e2] at h
      rw [decide_eq_true ⟨e, e2⟩]
      (refine sRz ?_; apply LW.boxA; rfl; rfl; intro _; apply LW.boxA; rfl; rfl; intro _; refine vAz ?_; refine nSz ?_; refine vFz ?_; refine ldz rfl (.tail .head) sc_rd0 ?_; refine vFz ?_; refine ldz rfl .head sc_rd0 ?_; apply LW.callE; rfl; rfl; infer_instance; exact .cons rfl (.cons rfl .nil); intro w _; exact hW w (by assumption); refine vMz ?_; refine gTz ?_; refine vFz ?_; refine gTz ?_; refine ldz rfl (.tail .head) sc_rd1 ?_; refine gTz ?_; refine vFz ?_; refine gTz ?_; refine ldz rfl .head sc_rd1 ?_; refine gTz ?_; apply LW.callE; rfl; rfl; infer_instance; exact .cons rfl (.cons rfl .nil); intro w _; exact hB w (by assumption); refine pTz ?_; refine vAz ?_; refine nNz ?_; refine CW.ret ?_)
      (apply finR; exact .inl rfl; rfl; rfl; rfl; apply ResL.cons; exact Res.tmp rfl; exact ResL.nil)
      rfl
    · have hB : ∀ w' {fs : Fs}, St w [] fs w' → Calls Tryz.prog 83 #[.slice p2 x.length c2, .slice p3 y.length c3] w' (Ret w' (.bool false)) := fun w' fs hst => by have h := hB0 w' hst; rwa [decide_eq_false e2] at h
      rw [decide_eq_false (fun h => e2 h.2)]
      (refine sRz ?_; apply LW.boxA; rfl; rfl; intro _; apply LW.boxA; rfl; rfl; intro _; refine vAz ?_; refine nSz ?_; refine vFz ?_; refine ldz rfl (.tail .head) sc_rd0 ?_; refine vFz ?_; refine ldz rfl .head sc_rd0 ?_; apply LW.callE; rfl; rfl; infer_instance; exact .cons rfl (.cons rfl .nil); intro w _; exact hW w (by assumption); refine vMz ?_; refine gTz ?_; refine vFz ?_; refine gTz ?_; refine ldz rfl (.tail .head) sc_rd1 ?_; refine gTz ?_; refine vFz ?_; refine gTz ?_; refine ldz rfl .head sc_rd1 ?_; refine gTz ?_; apply LW.callE; rfl; rfl; infer_instance; exact .cons rfl (.cons rfl .nil); intro w _; exact hB w (by assumption); refine pTz ?_; refine vAz ?_; refine nNz ?_; refine CW.ret ?_)
      (apply finR; exact .inl rfl; rfl; rfl; rfl; apply ResL.cons; exact Res.tmp rfl; exact ResL.nil)
      rfl
  · have hW : ∀ w' {fs : Fs}, St w [] fs w' → Calls Tryz.prog 82 #[.slice p0 a.length c0, .slice p1 b.length c1] w' (Ret w' (.bool false)) := fun w' fs hst => by have h := hW0 w' hst; rwa [decide_eq_false e] at h
    rw [decide_eq_false (fun h => e h.1)]
    (refine sRz ?_; apply LW.boxA; rfl; rfl; intro _; apply LW.boxA; rfl; rfl; intro _; refine vAz ?_; refine nSz ?_; refine vFz ?_; refine ldz rfl (.tail .head) sc_rd0 ?_; refine vFz ?_; refine ldz rfl .head sc_rd0 ?_; apply LW.callE; rfl; rfl; infer_instance; exact .cons rfl (.cons rfl .nil); intro w _; exact hW w (by assumption); refine vMz ?_; (iterate 5 refine gFz ?_); refine pFz ?_; refine vAz ?_; refine nNz ?_; refine CW.ret ?_)
    (apply finR; exact .inl rfl; rfl; rfl; rfl; apply ResL.cons; exact Res.tmp rfl; exact ResL.nil)
    rfl
theorem rfSame_calls (f g : FrV) (L M : FrL) (hf : FrNum f L) (hg : FrNum g M) (w : World) (h : FrRows w f L) (h' : FrRows w g M) : Calls Tryz.prog 15 #[frv f, frv g] w (Ret w (.bool (decide (sameF f L g M)))) := by
  have hww := hf.ws
  have hwm := hg.ws
  have hv1 := hf.val
  have hv2 := hg.val
  obtain ⟨code, pc, stk, mem, gas, self, frm, val, inp, back, stat⟩ := f
  obtain ⟨code', pc', stk', mem', gas', self', frm', val', inp', back', stat'⟩ := g
  obtain ⟨h0, h2, h3, h11, h12⟩ := h
  obtain ⟨k0, k2, k3, k11, k12⟩ := h'
  dsimp only at h0 h2 h3 h11 h12 k0 k2 k3 k11 k12 hv1 hv2
  obtain ⟨p0, c0, rfl, _, _⟩ := id h0.form
  obtain ⟨p2, c2, rfl, _, _⟩ := id h2.form
  obtain ⟨p3, c3, rfl, _, _⟩ := id h3.form
  obtain ⟨p11, c11, rfl, _, _⟩ := id h11.form
  obtain ⟨p12, c12, rfl, _, _⟩ := id h12.form
  obtain ⟨r0, d0, rfl, _, _⟩ := id k0.form
  obtain ⟨r2, d2, rfl, _, _⟩ := id k2.form
  obtain ⟨r3, d3, rfl, _, _⟩ := id k3.form
  obtain ⟨r11, d11, rfl, _, _⟩ := id k11.form
  obtain ⟨r12, d12, rfl, _, _⟩ := id k12.form
  have hq6 := fun w' {fs : Fs} (hst : St w [] fs w') => rSame1_calls L.cl M.cl _ _ w' (h0.st hst) (k0.st hst)
  have hq7 := fun w' {fs : Fs} (hst : St w [] fs w') => rSame1_calls L.il M.il _ _ w' (h11.st hst) (k11.st hst)
  have hq8 := fun w' {fs : Fs} (hst : St w [] fs w') => rSame1_calls L.bl M.bl _ _ w' (h12.st hst) (k12.st hst)
  have hq9 := fun w' {fs : Fs} (hst : St w [] fs w') => rScSame_calls L.ws M.ws L.ms M.ms hww hwm _ _ _ _ w' (h2.st hst) (k2.st hst) (h3.st hst) (k3.st hst)
  refine enter (args := [_, _]) _ [] [] Tryz.func15 rfl Tryz.ntmps15 rfl (by simp) .nil ?_
  (refine sRz ?_; apply LW.boxA; rfl; rfl; intro _; apply LW.boxA; rfl; rfl; intro _; refine vAz ?_; refine nNz ?_; refine CW.seq ?_; refine sRz ?_; refine vFz ?_; refine ldz rfl (.tail .head) fr_rd1 ?_; refine vFz ?_; refine ldz rfl .head fr_rd1 ?_; refine lvz (.ne rfl rfl) ?_; refine vMz ?_)
  rename_i b2 b3
  obtain ⟨y0, hy0⟩ : ∃ c : Bool, c = decide (pc = pc') := ⟨_, rfl⟩
  refine LW.joinF 0 ((10, .bool (!y0)) :: [(2, .pointer (some ⟨b2, 0, none⟩)), (3, .pointer (some ⟨b3, 0, none⟩))]) ?_ ?_
  rotate_left
  · rw [hy0]
    (apply LW.nil)
    exact joinI ⟨getB rfl (by (rfl)), rfl, rfl, trivial⟩ (List.Sublist.refl _)
  obtain ⟨y1, hy1⟩ : ∃ c : Bool, c = (y0 && decide (gas = gas')) := ⟨_, rfl⟩
  refine LW.joinF 7 ((17, .bool (!y1)) :: [(2, .pointer (some ⟨b2, 0, none⟩)), (3, .pointer (some ⟨b3, 0, none⟩))]) ?_ ?_
  rotate_left
  · rw [hy1]
    clear hy1 hy0
    cases y0
    · ((iterate 5 refine gFrz ?_); apply LW.v0; rfl; rfl; apply ValP.pickT'; rfl; simp only [Bool.not_true, Bool.not_false]; rfl; refine vMz ?_; apply LW.nil)
      exact joinI ⟨getB rfl (by (rfl)), rfl, rfl, trivial⟩ (List.Sublist.refl _)
    · (refine gTsz ?_; refine vFz ?_; refine gTsz ?_; refine ldz rfl (.tail .head) fr_rd4 ?_; refine gTsz ?_; refine vFz ?_; refine gTsz ?_; refine ldz rfl .head fr_rd4 ?_; refine gTsz ?_; refine lvz (.ne rfl rfl) ?_; apply LW.v0; rfl; rfl; apply ValP.pickF'; rfl; simp only [Bool.not_true, Bool.not_false]; rfl; refine vMz ?_; apply LW.nil)
      exact joinI ⟨getB rfl (by (exact congrArg not (decide_eq_decide.2 Int.ofNat_inj))), rfl, rfl, trivial⟩ (List.Sublist.refl _)
  obtain ⟨y2, hy2⟩ : ∃ c : Bool, c = (y1 && decide (self = self')) := ⟨_, rfl⟩
  refine LW.joinF 7 ((24, .bool (!y2)) :: [(2, .pointer (some ⟨b2, 0, none⟩)), (3, .pointer (some ⟨b3, 0, none⟩))]) ?_ ?_
  rotate_left
  · rw [hy2]
    clear hy2 hy1 hy0
    cases y1
    · ((iterate 5 refine gFrz ?_); apply LW.v0; rfl; rfl; apply ValP.pickT'; rfl; simp only [Bool.not_true, Bool.not_false]; rfl; refine vMz ?_; apply LW.nil)
      exact joinI ⟨getB rfl (by (rfl)), rfl, rfl, trivial⟩ (List.Sublist.refl _)
    · (refine gTsz ?_; refine vFz ?_; refine gTsz ?_; refine ldz rfl (.tail .head) fr_rd5 ?_; refine gTsz ?_; refine vFz ?_; refine gTsz ?_; refine ldz rfl .head fr_rd5 ?_; refine gTsz ?_; refine lvz (.ne rfl rfl) ?_; apply LW.v0; rfl; rfl; apply ValP.pickF'; rfl; simp only [Bool.not_true, Bool.not_false]; rfl; refine vMz ?_; apply LW.nil)
      exact joinI ⟨getB rfl (by (exact congrArg not (decide_eq_decide.2 Int.ofNat_inj))), rfl, rfl, trivial⟩ (List.Sublist.refl _)
  obtain ⟨y3, hy3⟩ : ∃ c : Bool, c = (y2 && decide (frm = frm')) := ⟨_, rfl⟩
  refine LW.joinF 7 ((31, .bool (!y3)) :: [(2, .pointer (some ⟨b2, 0, none⟩)), (3, .pointer (some ⟨b3, 0, none⟩))]) ?_ ?_
  rotate_left
  · rw [hy3]
    clear hy3 hy2 hy1 hy0
    cases y2
    · ((iterate 5 refine gFrz ?_); apply LW.v0; rfl; rfl; apply ValP.pickT'; rfl; simp only [Bool.not_true, Bool.not_false]; rfl; refine vMz ?_; apply LW.nil)
      exact joinI ⟨getB rfl (by (rfl)), rfl, rfl, trivial⟩ (List.Sublist.refl _)
    · (refine gTsz ?_; refine vFz ?_; refine gTsz ?_; refine ldz rfl (.tail .head) fr_rd6 ?_; refine gTsz ?_; refine vFz ?_; refine gTsz ?_; refine ldz rfl .head fr_rd6 ?_; refine gTsz ?_; refine lvz (.ne rfl rfl) ?_; apply LW.v0; rfl; rfl; apply ValP.pickF'; rfl; simp only [Bool.not_true, Bool.not_false]; rfl; refine vMz ?_; apply LW.nil)
      exact joinI ⟨getB rfl (by (exact congrArg not (decide_eq_decide.2 Int.ofNat_inj))), rfl, rfl, trivial⟩ (List.Sublist.refl _)
  obtain ⟨y4, hy4⟩ : ∃ c : Bool, c = (y3 && decide (val = val')) := ⟨_, rfl⟩
  refine LW.joinF 7 ((38, .bool (!y4)) :: [(2, .pointer (some ⟨b2, 0, none⟩)), (3, .pointer (some ⟨b3, 0, none⟩))]) ?_ ?_
  rotate_left
  · rw [hy4]
    clear hy4 hy3 hy2 hy1 hy0
    cases y3
    · ((iterate 5 refine gFrz ?_); apply LW.v0; rfl; rfl; apply ValP.pickT'; rfl; simp only [Bool.not_true, Bool.not_false]; rfl; refine vMz ?_; apply LW.nil)
      exact joinI ⟨getB rfl (by (rfl)), rfl, rfl, trivial⟩ (List.Sublist.refl _)
    · (refine gTsz ?_; refine vFz ?_; refine gTsz ?_; refine ldz rfl (.tail .head) fr_rd7 ?_; refine gTsz ?_; refine vFz ?_; refine gTsz ?_; refine ldz rfl .head fr_rd7 ?_; refine gTsz ?_; refine lvz (.neW rfl rfl (by assumption) (by assumption)) ?_; apply LW.v0; rfl; rfl; apply ValP.pickF'; rfl; simp only [Bool.not_true, Bool.not_false]; rfl; refine vMz ?_; apply LW.nil)
      exact joinI ⟨getB rfl (by (rfl)), rfl, rfl, trivial⟩ (List.Sublist.refl _)
  obtain ⟨y5, hy5⟩ : ∃ c : Bool, c = (y4 && decide (stat = stat')) := ⟨_, rfl⟩
  refine LW.joinF 6 ((44, .bool (!y5)) :: [(2, .pointer (some ⟨b2, 0, none⟩)), (3, .pointer (some ⟨b3, 0, none⟩))]) ?_ ?_
  rotate_left
  · rw [hy5]
    clear hy5 hy4 hy3 hy2 hy1 hy0
    cases y4
    · ((iterate 5 refine gFrz ?_); apply LW.v0; rfl; rfl; apply ValP.pickT'; rfl; simp only [Bool.not_true, Bool.not_false]; rfl; apply LW.nil)
      exact joinI ⟨getB rfl (by (rfl)), rfl, rfl, trivial⟩ (List.Sublist.refl _)
    · (refine gTsz ?_; refine vFz ?_; refine gTsz ?_; refine ldz rfl (.tail .head) fr_rd13 ?_; refine gTsz ?_; refine vFz ?_; refine gTsz ?_; refine ldz rfl .head fr_rd13 ?_; refine gTsz ?_; refine lvz (.boolNe rfl rfl) ?_; apply LW.v0; rfl; rfl; apply ValP.pickF'; rfl; simp only [Bool.not_true, Bool.not_false]; rfl; apply LW.nil)
      exact joinI ⟨getB rfl (by (rfl)), rfl, rfl, trivial⟩ (List.Sublist.refl _)
  cases hyy : y5
  · rw [show decide (sameF ⟨.slice p0 L.cl.length c0, pc, .slice p2 L.ws.length c2, .slice p3 L.ms.length c3, gas, self, frm, val, .slice p11 L.il.length c11, .slice p12 L.bl.length c12, stat⟩ L ⟨.slice r0 M.cl.length d0, pc', .slice r2 M.ws.length d2, .slice r3 M.ms.length d3, gas', self', frm', val', .slice r11 M.il.length d11, .slice r12 M.bl.length d12, stat'⟩ M) = false from decide_eq_false fun h => by unfold sameF at h; dsimp only at h; obtain ⟨e0, e1, e2, e3, e4, e5, e6, e7, e8, e9⟩ := h; simp [hy5, hy4, hy3, hy2, hy1, hy0, e0, e1, e2, e3, e4, e5] at hyy]
    (refine nNz ?_; apply CW.condT; rfl; simp only [Bool.not_true, Bool.not_false]; refine sRz ?_; refine vAz ?_; refine nNz ?_; refine CW.ret ?_; refine thenR ?_)
    (apply finR; exact .inl rfl; rfl; rfl; rfl; apply ResL.cons; exact Res.tmp rfl; exact ResL.nil)
    rfl
  simp only [hy5, hy4, hy3, hy2, hy1, hy0, Bool.and_eq_true, decide_eq_true_eq] at hyy
  obtain ⟨⟨⟨⟨⟨e0, e1⟩, e2⟩, e3⟩, e4⟩, e5⟩ := hyy
  (refine nNz ?_; apply CW.condF; rfl; simp only [Bool.not_true, Bool.not_false]; refine CW.skip ?_; refine thenN ?_; refine sRz ?_; refine vFz ?_; refine ldz rfl (.tail .head) fr_rd0 ?_; refine vFz ?_; refine ldz rfl .head fr_rd0 ?_; apply LW.callE; rfl; rfl; infer_instance; exact .cons rfl (.cons rfl .nil); intro w _; exact hq6 w (by assumption); refine vMz ?_)
  obtain ⟨y6, hy6⟩ : ∃ c : Bool, c = decide (L.cl = M.cl) := ⟨_, rfl⟩
  refine LW.joinF 0 ((50, .bool (y6)) :: [(2, .pointer (some ⟨b2, 0, none⟩)), (3, .pointer (some ⟨b3, 0, none⟩))]) ?_ ?_
  rotate_left
  · rw [hy6]
    (apply LW.nil)
    exact joinI ⟨getB rfl (by (rfl)), rfl, rfl, trivial⟩ (List.Sublist.refl _)
  obtain ⟨y7, hy7⟩ : ∃ c : Bool, c = (y6 && decide (L.il = M.il)) := ⟨_, rfl⟩
  refine LW.joinF 7 ((57, .bool (y7)) :: [(2, .pointer (some ⟨b2, 0, none⟩)), (3, .pointer (some ⟨b3, 0, none⟩))]) ?_ ?_
  rotate_left
  · rw [hy7]
    clear hy7 hy6 hy5 hy4 hy3 hy2 hy1 hy0
    cases y6
    · ((iterate 5 refine gFz ?_); refine pFz ?_; refine vMz ?_; apply LW.nil)
      exact joinI ⟨getB rfl (by (rfl)), rfl, rfl, trivial⟩ (List.Sublist.refl _)
    · (refine gTz ?_; refine vFz ?_; refine gTz ?_; refine ldz rfl (.tail .head) fr_rd11 ?_; refine gTz ?_; refine vFz ?_; refine gTz ?_; refine ldz rfl .head fr_rd11 ?_; refine gTz ?_; apply LW.callE; rfl; rfl; infer_instance; exact .cons rfl (.cons rfl .nil); intro w _; exact hq7 w (by assumption); refine pTz ?_; refine vMz ?_; apply LW.nil)
      exact joinI ⟨getB rfl (by (rfl)), rfl, rfl, trivial⟩ (List.Sublist.refl _)
  obtain ⟨y8, hy8⟩ : ∃ c : Bool, c = (y7 && decide (L.bl = M.bl)) := ⟨_, rfl⟩
  refine LW.joinF 7 ((64, .bool (y8)) :: [(2, .pointer (some ⟨b2, 0, none⟩)), (3, .pointer (some ⟨b3, 0, none⟩))]) ?_ ?_
  rotate_left
  · rw [hy8]
    clear hy8 hy7 hy6 hy5 hy4 hy3 hy2 hy1 hy0
    cases y7
    · ((iterate 5 refine gFz ?_); refine pFz ?_; refine vMz ?_; apply LW.nil)
      exact joinI ⟨getB rfl (by (rfl)), rfl, rfl, trivial⟩ (List.Sublist.refl _)
    · (refine gTz ?_; refine vFz ?_; refine gTz ?_; refine ldz rfl (.tail .head) fr_rd12 ?_; refine gTz ?_; refine vFz ?_; refine gTz ?_; refine ldz rfl .head fr_rd12 ?_; refine gTz ?_; apply LW.callE; rfl; rfl; infer_instance; exact .cons rfl (.cons rfl .nil); intro w _; exact hq8 w (by assumption); refine pTz ?_; refine vMz ?_; apply LW.nil)
      exact joinI ⟨getB rfl (by (rfl)), rfl, rfl, trivial⟩ (List.Sublist.refl _)
  obtain ⟨y9, hy9⟩ : ∃ c : Bool, c = (y8 && decide (L.ws = M.ws ∧ L.ms = M.ms)) := ⟨_, rfl⟩
  refine LW.joinF 7 ((4, .bool (y9)) :: [(2, .pointer (some ⟨b2, 0, none⟩)), (3, .pointer (some ⟨b3, 0, none⟩))]) ?_ ?_
  rotate_left
  · rw [hy9]
    clear hy9 hy8 hy7 hy6 hy5 hy4 hy3 hy2 hy1 hy0
    cases y8
    · ((iterate 5 refine gFz ?_); refine pFz ?_; refine vAz ?_; apply LW.nil)
      exact joinI ⟨getB rfl (by (rfl)), rfl, rfl, trivial⟩ (List.Sublist.refl _)
    · (refine gTz ?_; refine vFz ?_; refine gTz ?_; refine ldz rfl (.tail .head) fr_rd2 ?_; refine gTz ?_; refine vFz ?_; refine gTz ?_; refine ldz rfl .head fr_rd2 ?_; refine gTz ?_; apply LW.callE; rfl; rfl; infer_instance; exact .cons rfl (.cons rfl .nil); intro w _; exact hq9 w (by assumption); refine pTz ?_; refine vAz ?_; apply LW.nil)
      exact joinI ⟨getB rfl (by (rfl)), rfl, rfl, trivial⟩ (List.Sublist.refl _)
  have hfin : y9 = decide (sameF ⟨.slice p0 L.cl.length c0, pc, .slice p2 L.ws.length c2, .slice p3 L.ms.length c3, gas, self, frm, val, .slice p11 L.il.length c11, .slice p12 L.bl.length c12, stat⟩ L ⟨.slice r0 M.cl.length d0, pc', .slice r2 M.ws.length d2, .slice r3 M.ms.length d3, gas', self', frm', val', .slice r11 M.il.length d11, .slice r12 M.bl.length d12, stat'⟩ M) := by
    rw [Bool.eq_iff_iff]
    simp only [hy9, hy8, hy7, hy6, Bool.and_eq_true, decide_eq_true_eq]
    unfold sameF
    dsimp only
    exact ⟨fun ⟨⟨⟨e6, e7⟩, e8⟩, e9⟩ => ⟨e0, e1, e2, e3, e4, e5, e6, e7, e8, e9⟩, fun ⟨e0, e1, e2, e3, e4, e5, e6, e7, e8, e9⟩ => ⟨⟨⟨e6, e7⟩, e8⟩, e9⟩⟩
  rw [← hfin]
  (refine nNz ?_; refine CW.ret ?_)
  (apply finR; exact .inl rfl; rfl; rfl; rfl; apply ResL.cons; exact Res.tmp rfl; exact ResL.nil)
  rfl
theorem rcSame_calls (f g : ClV) (L M : ClL) (hv1 : f.val < M256) (hv2 : g.val < M256) (w : World) (h : ClRows w f L) (h' : ClRows w g M) : Calls Tryz.prog 17 #[clv f, clv g] w (Ret w (.bool (decide (sameC f L g M)))) := by
  obtain ⟨op, dst, self, frm, val, mv, gas, inp, code, pl, n, stat⟩ := f
  obtain ⟨op', dst', self', frm', val', mv', gas', inp', code', pl', n', stat'⟩ := g
  obtain ⟨h0, h1⟩ := h
  obtain ⟨k0, k1⟩ := h'
  dsimp only at h0 h1 k0 k1 hv1 hv2
  obtain ⟨p0, c0, rfl, _, _⟩ := id h0.form
  obtain ⟨p1, c1, rfl, _, _⟩ := id h1.form
  obtain ⟨r0, d0, rfl, _, _⟩ := id k0.form
  obtain ⟨r1, d1, rfl, _, _⟩ := id k1.form
  have hq10 := fun w' {fs : Fs} (hst : St w [] fs w') => rSame1_calls L.il M.il _ _ w' (h0.st hst) (k0.st hst)
  have hq11 := fun w' {fs : Fs} (hst : St w [] fs w') => rSame1_calls L.cl M.cl _ _ w' (h1.st hst) (k1.st hst)
  refine enter (args := [_, _]) _ [] [] Tryz.func17 rfl Tryz.ntmps17 rfl (by simp) .nil ?_
  (refine sRz ?_; apply LW.boxA; rfl; rfl; intro _; apply LW.boxA; rfl; rfl; intro _; refine vAz ?_; refine nNz ?_; refine CW.seq ?_; refine sRz ?_; refine vFz ?_; refine ldz rfl (.tail .head) cl_rd0 ?_; refine vFz ?_; refine ldz rfl .head cl_rd0 ?_; refine lvz (.ne rfl rfl) ?_; refine vMz ?_)
  rename_i b2 b3
  obtain ⟨y0, hy0⟩ : ∃ c : Bool, c = decide (op = op') := ⟨_, rfl⟩
  refine LW.joinF 0 ((10, .bool (!y0)) :: [(2, .pointer (some ⟨b2, 0, none⟩)), (3, .pointer (some ⟨b3, 0, none⟩))]) ?_ ?_
  rotate_left
  · rw [hy0]
    (apply LW.nil)
    exact joinI ⟨getB rfl (by (exact congrArg not (decide_eq_decide.2 Int.ofNat_inj))), rfl, rfl, trivial⟩ (List.Sublist.refl _)
  obtain ⟨y1, hy1⟩ : ∃ c : Bool, c = (y0 && decide (dst = dst')) := ⟨_, rfl⟩
  refine LW.joinF 7 ((17, .bool (!y1)) :: [(2, .pointer (some ⟨b2, 0, none⟩)), (3, .pointer (some ⟨b3, 0, none⟩))]) ?_ ?_
  rotate_left
  · rw [hy1]
    clear hy1 hy0
    cases y0
    · ((iterate 5 refine gFrz ?_); apply LW.v0; rfl; rfl; apply ValP.pickT'; rfl; simp only [Bool.not_true, Bool.not_false]; rfl; refine vMz ?_; apply LW.nil)
      exact joinI ⟨getB rfl (by (rfl)), rfl, rfl, trivial⟩ (List.Sublist.refl _)
    · (refine gTsz ?_; refine vFz ?_; refine gTsz ?_; refine ldz rfl (.tail .head) cl_rd1 ?_; refine gTsz ?_; refine vFz ?_; refine gTsz ?_; refine ldz rfl .head cl_rd1 ?_; refine gTsz ?_; refine lvz (.ne rfl rfl) ?_; apply LW.v0; rfl; rfl; apply ValP.pickF'; rfl; simp only [Bool.not_true, Bool.not_false]; rfl; refine vMz ?_; apply LW.nil)
      exact joinI ⟨getB rfl (by (exact congrArg not (decide_eq_decide.2 Int.ofNat_inj))), rfl, rfl, trivial⟩ (List.Sublist.refl _)
  obtain ⟨y2, hy2⟩ : ∃ c : Bool, c = (y1 && decide (self = self')) := ⟨_, rfl⟩
  refine LW.joinF 7 ((24, .bool (!y2)) :: [(2, .pointer (some ⟨b2, 0, none⟩)), (3, .pointer (some ⟨b3, 0, none⟩))]) ?_ ?_
  rotate_left
  · rw [hy2]
    clear hy2 hy1 hy0
    cases y1
    · ((iterate 5 refine gFrz ?_); apply LW.v0; rfl; rfl; apply ValP.pickT'; rfl; simp only [Bool.not_true, Bool.not_false]; rfl; refine vMz ?_; apply LW.nil)
      exact joinI ⟨getB rfl (by (rfl)), rfl, rfl, trivial⟩ (List.Sublist.refl _)
    · (refine gTsz ?_; refine vFz ?_; refine gTsz ?_; refine ldz rfl (.tail .head) cl_rd2 ?_; refine gTsz ?_; refine vFz ?_; refine gTsz ?_; refine ldz rfl .head cl_rd2 ?_; refine gTsz ?_; refine lvz (.ne rfl rfl) ?_; apply LW.v0; rfl; rfl; apply ValP.pickF'; rfl; simp only [Bool.not_true, Bool.not_false]; rfl; refine vMz ?_; apply LW.nil)
      exact joinI ⟨getB rfl (by (exact congrArg not (decide_eq_decide.2 Int.ofNat_inj))), rfl, rfl, trivial⟩ (List.Sublist.refl _)
  obtain ⟨y3, hy3⟩ : ∃ c : Bool, c = (y2 && decide (frm = frm')) := ⟨_, rfl⟩
  refine LW.joinF 7 ((31, .bool (!y3)) :: [(2, .pointer (some ⟨b2, 0, none⟩)), (3, .pointer (some ⟨b3, 0, none⟩))]) ?_ ?_
  rotate_left
  · rw [hy3]
    clear hy3 hy2 hy1 hy0
    cases y2
    · ((iterate 5 refine gFrz ?_); apply LW.v0; rfl; rfl; apply ValP.pickT'; rfl; simp only [Bool.not_true, Bool.not_false]; rfl; refine vMz ?_; apply LW.nil)
      exact joinI ⟨getB rfl (by (rfl)), rfl, rfl, trivial⟩ (List.Sublist.refl _)
    · (refine gTsz ?_; refine vFz ?_; refine gTsz ?_; refine ldz rfl (.tail .head) cl_rd3 ?_; refine gTsz ?_; refine vFz ?_; refine gTsz ?_; refine ldz rfl .head cl_rd3 ?_; refine gTsz ?_; refine lvz (.ne rfl rfl) ?_; apply LW.v0; rfl; rfl; apply ValP.pickF'; rfl; simp only [Bool.not_true, Bool.not_false]; rfl; refine vMz ?_; apply LW.nil)
      exact joinI ⟨getB rfl (by (exact congrArg not (decide_eq_decide.2 Int.ofNat_inj))), rfl, rfl, trivial⟩ (List.Sublist.refl _)
  obtain ⟨y4, hy4⟩ : ∃ c : Bool, c = (y3 && decide (val = val')) := ⟨_, rfl⟩
  refine LW.joinF 7 ((38, .bool (!y4)) :: [(2, .pointer (some ⟨b2, 0, none⟩)), (3, .pointer (some ⟨b3, 0, none⟩))]) ?_ ?_
  rotate_left
  · rw [hy4]
    clear hy4 hy3 hy2 hy1 hy0
    cases y3
    · ((iterate 5 refine gFrz ?_); apply LW.v0; rfl; rfl; apply ValP.pickT'; rfl; simp only [Bool.not_true, Bool.not_false]; rfl; refine vMz ?_; apply LW.nil)
      exact joinI ⟨getB rfl (by (rfl)), rfl, rfl, trivial⟩ (List.Sublist.refl _)
    · (refine gTsz ?_; refine vFz ?_; refine gTsz ?_; refine ldz rfl (.tail .head) cl_rd4 ?_; refine gTsz ?_; refine vFz ?_; refine gTsz ?_; refine ldz rfl .head cl_rd4 ?_; refine gTsz ?_; refine lvz (.neW rfl rfl (by assumption) (by assumption)) ?_; apply LW.v0; rfl; rfl; apply ValP.pickF'; rfl; simp only [Bool.not_true, Bool.not_false]; rfl; refine vMz ?_; apply LW.nil)
      exact joinI ⟨getB rfl (by (rfl)), rfl, rfl, trivial⟩ (List.Sublist.refl _)
  obtain ⟨y5, hy5⟩ : ∃ c : Bool, c = (y4 && decide (mv = mv')) := ⟨_, rfl⟩
  refine LW.joinF 7 ((45, .bool (!y5)) :: [(2, .pointer (some ⟨b2, 0, none⟩)), (3, .pointer (some ⟨b3, 0, none⟩))]) ?_ ?_
  rotate_left
  · rw [hy5]
    clear hy5 hy4 hy3 hy2 hy1 hy0
    cases y4
    · ((iterate 5 refine gFrz ?_); apply LW.v0; rfl; rfl; apply ValP.pickT'; rfl; simp only [Bool.not_true, Bool.not_false]; rfl; refine vMz ?_; apply LW.nil)
      exact joinI ⟨getB rfl (by (rfl)), rfl, rfl, trivial⟩ (List.Sublist.refl _)
    · (refine gTsz ?_; refine vFz ?_; refine gTsz ?_; refine ldz rfl (.tail .head) cl_rd8 ?_; refine gTsz ?_; refine vFz ?_; refine gTsz ?_; refine ldz rfl .head cl_rd8 ?_; refine gTsz ?_; refine lvz (.boolNe rfl rfl) ?_; apply LW.v0; rfl; rfl; apply ValP.pickF'; rfl; simp only [Bool.not_true, Bool.not_false]; rfl; refine vMz ?_; apply LW.nil)
      exact joinI ⟨getB rfl (by (rfl)), rfl, rfl, trivial⟩ (List.Sublist.refl _)
  obtain ⟨y6, hy6⟩ : ∃ c : Bool, c = (y5 && decide (gas = gas')) := ⟨_, rfl⟩
  refine LW.joinF 6 ((51, .bool (!y6)) :: [(2, .pointer (some ⟨b2, 0, none⟩)), (3, .pointer (some ⟨b3, 0, none⟩))]) ?_ ?_
  rotate_left
  · rw [hy6]
    clear hy6 hy5 hy4 hy3 hy2 hy1 hy0
    cases y5
    · ((iterate 5 refine gFrz ?_); apply LW.v0; rfl; rfl; apply ValP.pickT'; rfl; simp only [Bool.not_true, Bool.not_false]; rfl; apply LW.nil)
      exact joinI ⟨getB rfl (by (rfl)), rfl, rfl, trivial⟩ (List.Sublist.refl _)
    · (refine gTsz ?_; refine vFz ?_; refine gTsz ?_; refine ldz rfl (.tail .head) cl_rd9 ?_; refine gTsz ?_; refine vFz ?_; refine gTsz ?_; refine ldz rfl .head cl_rd9 ?_; refine gTsz ?_; refine lvz (.ne rfl rfl) ?_; apply LW.v0; rfl; rfl; apply ValP.pickF'; rfl; simp only [Bool.not_true, Bool.not_false]; rfl; apply LW.nil)
      exact joinI ⟨getB rfl (by (exact congrArg not (decide_eq_decide.2 Int.ofNat_inj))), rfl, rfl, trivial⟩ (List.Sublist.refl _)
  cases hyy : y6
  · rw [show decide (sameC ⟨op, dst, self, frm, val, mv, gas, .slice p0 L.il.length c0, .slice p1 L.cl.length c1, pl, n, stat⟩ L ⟨op', dst', self', frm', val', mv', gas', .slice r0 M.il.length d0, .slice r1 M.cl.length d1, pl', n', stat'⟩ M) = false from decide_eq_false fun h => by unfold sameC at h; dsimp only at h; obtain ⟨e0, e1, e2, e3, e4, e5, e6, e7, e8, e9, e10, e11⟩ := h; simp [hy6, hy5, hy4, hy3, hy2, hy1, hy0, e0, e1, e2, e3, e4, e5, e6] at hyy]
    (refine nNz ?_; apply CW.condT; rfl; simp only [Bool.not_true, Bool.not_false]; refine sRz ?_; refine vAz ?_; refine nNz ?_; refine CW.ret ?_; refine thenR ?_)
    (apply finR; exact .inl rfl; rfl; rfl; rfl; apply ResL.cons; exact Res.tmp rfl; exact ResL.nil)
    rfl
  simp only [hy6, hy5, hy4, hy3, hy2, hy1, hy0, Bool.and_eq_true, decide_eq_true_eq] at hyy
  obtain ⟨⟨⟨⟨⟨⟨e0, e1⟩, e2⟩, e3⟩, e4⟩, e5⟩, e6⟩ := hyy
  (refine nNz ?_; apply CW.condF; rfl; simp only [Bool.not_true, Bool.not_false]; refine CW.skip ?_; refine thenN ?_; refine sRz ?_; refine vFz ?_; refine ldz rfl (.tail .head) cl_rd12 ?_; refine vFz ?_; refine ldz rfl .head cl_rd12 ?_; refine lvz (.eq rfl rfl) ?_; refine vMz ?_)
  obtain ⟨y7, hy7⟩ : ∃ c : Bool, c = decide (pl = pl') := ⟨_, rfl⟩
  refine LW.joinF 0 ((57, .bool (y7)) :: [(2, .pointer (some ⟨b2, 0, none⟩)), (3, .pointer (some ⟨b3, 0, none⟩))]) ?_ ?_
  rotate_left
  · rw [hy7]
    (apply LW.nil)
    exact joinI ⟨getB rfl (by (exact decide_eq_decide.2 Int.ofNat_inj)), rfl, rfl, trivial⟩ (List.Sublist.refl _)
  obtain ⟨y8, hy8⟩ : ∃ c : Bool, c = (y7 && decide (n = n')) := ⟨_, rfl⟩
  refine LW.joinF 7 ((64, .bool (y8)) :: [(2, .pointer (some ⟨b2, 0, none⟩)), (3, .pointer (some ⟨b3, 0, none⟩))]) ?_ ?_
  rotate_left
  · rw [hy8]
    clear hy8 hy7 hy6 hy5 hy4 hy3 hy2 hy1 hy0
    cases y7
    · ((iterate 5 refine gFz ?_); refine pFz ?_; refine vMz ?_; apply LW.nil)
      exact joinI ⟨getB rfl (by (rfl)), rfl, rfl, trivial⟩ (List.Sublist.refl _)
    · (refine gTz ?_; refine vFz ?_; refine gTz ?_; refine ldz rfl (.tail .head) cl_rd13 ?_; refine gTz ?_; refine vFz ?_; refine gTz ?_; refine ldz rfl .head cl_rd13 ?_; refine gTz ?_; refine lvz (.eq rfl rfl) ?_; refine pTz ?_; refine vMz ?_; apply LW.nil)
      exact joinI ⟨getB rfl (by (exact decide_eq_decide.2 Int.ofNat_inj)), rfl, rfl, trivial⟩ (List.Sublist.refl _)
  obtain ⟨y9, hy9⟩ : ∃ c : Bool, c = (y8 && decide (stat = stat')) := ⟨_, rfl⟩
  refine LW.joinF 7 ((71, .bool (y9)) :: [(2, .pointer (some ⟨b2, 0, none⟩)), (3, .pointer (some ⟨b3, 0, none⟩))]) ?_ ?_
  rotate_left
  · rw [hy9]
    clear hy9 hy8 hy7 hy6 hy5 hy4 hy3 hy2 hy1 hy0
    cases y8
    · ((iterate 5 refine gFz ?_); refine pFz ?_; refine vMz ?_; apply LW.nil)
      exact joinI ⟨getB rfl (by (rfl)), rfl, rfl, trivial⟩ (List.Sublist.refl _)
    · (refine gTz ?_; refine vFz ?_; refine gTz ?_; refine ldz rfl (.tail .head) cl_rd14 ?_; refine gTz ?_; refine vFz ?_; refine gTz ?_; refine ldz rfl .head cl_rd14 ?_; refine gTz ?_; refine lvz (.boolEq rfl rfl) ?_; refine pTz ?_; refine vMz ?_; apply LW.nil)
      exact joinI ⟨getB rfl (by (rfl)), rfl, rfl, trivial⟩ (List.Sublist.refl _)
  obtain ⟨y10, hy10⟩ : ∃ c : Bool, c = (y9 && decide (L.il = M.il)) := ⟨_, rfl⟩
  refine LW.joinF 7 ((78, .bool (y10)) :: [(2, .pointer (some ⟨b2, 0, none⟩)), (3, .pointer (some ⟨b3, 0, none⟩))]) ?_ ?_
  rotate_left
  · rw [hy10]
    clear hy10 hy9 hy8 hy7 hy6 hy5 hy4 hy3 hy2 hy1 hy0
    cases y9
    · ((iterate 5 refine gFz ?_); refine pFz ?_; refine vMz ?_; apply LW.nil)
      exact joinI ⟨getB rfl (by (rfl)), rfl, rfl, trivial⟩ (List.Sublist.refl _)
    · (refine gTz ?_; refine vFz ?_; refine gTz ?_; refine ldz rfl (.tail .head) cl_rd10 ?_; refine gTz ?_; refine vFz ?_; refine gTz ?_; refine ldz rfl .head cl_rd10 ?_; refine gTz ?_; apply LW.callE; rfl; rfl; infer_instance; exact .cons rfl (.cons rfl .nil); intro w _; exact hq10 w (by assumption); refine pTz ?_; refine vMz ?_; apply LW.nil)
      exact joinI ⟨getB rfl (by (rfl)), rfl, rfl, trivial⟩ (List.Sublist.refl _)
  obtain ⟨y11, hy11⟩ : ∃ c : Bool, c = (y10 && decide (L.cl = M.cl)) := ⟨_, rfl⟩
  refine LW.joinF 7 ((4, .bool (y11)) :: [(2, .pointer (some ⟨b2, 0, none⟩)), (3, .pointer (some ⟨b3, 0, none⟩))]) ?_ ?_
  rotate_left
  · rw [hy11]
    clear hy11 hy10 hy9 hy8 hy7 hy6 hy5 hy4 hy3 hy2 hy1 hy0
    cases y10
    · ((iterate 5 refine gFz ?_); refine pFz ?_; refine vAz ?_; apply LW.nil)
      exact joinI ⟨getB rfl (by (rfl)), rfl, rfl, trivial⟩ (List.Sublist.refl _)
    · (refine gTz ?_; refine vFz ?_; refine gTz ?_; refine ldz rfl (.tail .head) cl_rd11 ?_; refine gTz ?_; refine vFz ?_; refine gTz ?_; refine ldz rfl .head cl_rd11 ?_; refine gTz ?_; apply LW.callE; rfl; rfl; infer_instance; exact .cons rfl (.cons rfl .nil); intro w _; exact hq11 w (by assumption); refine pTz ?_; refine vAz ?_; apply LW.nil)
      exact joinI ⟨getB rfl (by (rfl)), rfl, rfl, trivial⟩ (List.Sublist.refl _)
  have hfin : y11 = decide (sameC ⟨op, dst, self, frm, val, mv, gas, .slice p0 L.il.length c0, .slice p1 L.cl.length c1, pl, n, stat⟩ L ⟨op', dst', self', frm', val', mv', gas', .slice r0 M.il.length d0, .slice r1 M.cl.length d1, pl', n', stat'⟩ M) := by
    rw [Bool.eq_iff_iff]
    simp only [hy11, hy10, hy9, hy8, hy7, Bool.and_eq_true, decide_eq_true_eq]
    unfold sameC
    dsimp only
    exact ⟨fun ⟨⟨⟨⟨e7, e8⟩, e9⟩, e10⟩, e11⟩ => ⟨e0, e1, e2, e3, e4, e5, e6, e7, e8, e9, e10, e11⟩, fun ⟨e0, e1, e2, e3, e4, e5, e6, e7, e8, e9, e10, e11⟩ => ⟨⟨⟨⟨e7, e8⟩, e9⟩, e10⟩, e11⟩⟩
  rw [← hfin]
  (refine nNz ?_; refine CW.ret ?_)
  (apply finR; exact .inl rfl; rfl; rfl; rfl; apply ResL.cons; exact Res.tmp rfl; exact ResL.nil)
  rfl
end Go.Proofs.YtpgdnfgjbhdbpaaGreatDoor

/-
  The document's frames: which may be, copies.
  Conditions: none.
-/
namespace Go.Proofs.YtpgdnfgjbhdbpaaGreatDoor
open Go Go.RowKit SL
open CK (readB)
set_option maxRecDepth 8000
set_option maxHeartbeats 4000000
set_option linter.unusedSimpArgs false
set_option linter.unusedVariables false
attribute [local irreducible] SL.CW SL.LW SL.DW Calls SL.Ret SL.RetG SL.beginQ SL.roundQ SL.rangeQ SL.inQ SL.RW SL.AnyW SL.thenQ SL.thenC SL.thenW SL.blkQ SL.finQ SL.ValP SL.NewP SL.SetP SL.CallP SL.Rd SL.Wr SL.Known
theorem rScRight_calls (p q : Option Addr) (n c k d : Nat) (hn1 : n ≤ maxLen) (hk1 : k ≤ maxLen) (w : World) : Calls Tryz.prog 51 #[.agg #[.slice p n c, .slice q k d]] w (Ret w (.bool (decide (okSc n k)))) := by
  obtain ⟨e, he⟩ : ∃ e : Bool, e = decide (okSc n k) := ⟨_, rfl⟩
  have hp : okSc n k → e = true := fun h => by rw [he, decide_eq_true h]
  have hn : ¬ okSc n k → e = false := fun h => by rw [he, decide_eq_false h]
  rw [← he]
  clear he
  unfold okSc at hp hn
  refine enter (args := [_]) _ [] [] Tryz.func51 rfl Tryz.ntmps51 rfl (by simp) .nil ?_
  by_cases hz : k % 32 = 0
  · (refine sRz ?_; apply LW.boxA; rfl; rfl; intro _; refine vAz ?_; refine nSz ?_; refine vFz ?_; refine ldz rfl .head sc_rd0 ?_; refine lvz (.lenR rfl inferInstance rfl) ?_; refine lvz (.leq rfl rfl) ?_; refine vMz ?_)
    (refine LW.guardDT rfl rfl rfl (fun hsq hsp => ?_) (fun hsq hsp => ?_))
    (refine vFz ?_; refine gTaz ?_; refine ldz rfl .head sc_rd1 ?_; refine gTaz ?_; refine lvz (.lenR rfl inferInstance rfl) ?_; refine gTaz ?_; refine lvz (.leq rfl rfl) ?_; refine pTaz ?_; refine vMz ?_; refine LW.guardDT rfl rfl rfl (fun hsq hsp => ?_) (fun hsq hsp => ?_); refine vFz ?_; refine gTaz ?_; refine ldz rfl .head sc_rd1 ?_; refine gTaz ?_; refine lvz (.lenR rfl inferInstance rfl) ?_; refine gTaz ?_; refine lvz (.remZL rfl rfl (by decide) (by omega)) ?_; refine gTaz ?_; refine lvz (.eqT rfl rfl (by omega)) ?_; refine pTaz ?_; refine vAz ?_; refine nNz ?_; refine CW.ret ?_; apply finR; exact .inl rfl; rfl; rfl; rfl; apply ResL.cons; exact Res.tmp rfl; exact ResL.nil; rw [hp (by omega)]; rfl; (iterate 4 refine gFaz ?_); refine pFaz ?_; refine vAz ?_; refine nNz ?_; refine CW.ret ?_; apply finR; exact .inl rfl; rfl; rfl; rfl; apply ResL.cons; exact Res.tmp rfl; exact ResL.nil; rw [hn (by omega)]; rfl; (iterate 3 refine gFaz ?_); refine pFaz ?_; refine vMz ?_; (iterate 5 refine gFz ?_); refine pFz ?_; refine vAz ?_; refine nNz ?_; refine CW.ret ?_; apply finR; exact .inl rfl; rfl; rfl; rfl; apply ResL.cons; exact Res.tmp rfl; exact ResL.nil; rw [hn (by omega)]; rfl)
  · (refine sRz ?_; apply LW.boxA; rfl; rfl; intro _; refine vAz ?_; refine nSz ?_; refine vFz ?_; refine ldz rfl .head sc_rd0 ?_; refine lvz (.lenR rfl inferInstance rfl) ?_; refine lvz (.leq rfl rfl) ?_; refine vMz ?_)
    (refine LW.guardDT rfl rfl rfl (fun hsq hsp => ?_) (fun hsq hsp => ?_))
    (refine vFz ?_; refine gTaz ?_; refine ldz rfl .head sc_rd1 ?_; refine gTaz ?_; refine lvz (.lenR rfl inferInstance rfl) ?_; refine gTaz ?_; refine lvz (.leq rfl rfl) ?_; refine pTaz ?_; refine vMz ?_; refine LW.guardDT rfl rfl rfl (fun hsq hsp => ?_) (fun hsq hsp => ?_); refine vFz ?_; refine gTaz ?_; refine ldz rfl .head sc_rd1 ?_; refine gTaz ?_; refine lvz (.lenR rfl inferInstance rfl) ?_; refine gTaz ?_; refine lvz (.remZL rfl rfl (by decide) (by omega)) ?_; refine gTaz ?_; refine lvz (.eqF rfl rfl (by omega)) ?_; refine pTaz ?_; refine vAz ?_; refine nNz ?_; refine CW.ret ?_; apply finR; exact .inl rfl; rfl; rfl; rfl; apply ResL.cons; exact Res.tmp rfl; exact ResL.nil; rw [hn (by omega)]; rfl; (iterate 4 refine gFaz ?_); refine pFaz ?_; refine vAz ?_; refine nNz ?_; refine CW.ret ?_; apply finR; exact .inl rfl; rfl; rfl; rfl; apply ResL.cons; exact Res.tmp rfl; exact ResL.nil; rw [hn (by omega)]; rfl; (iterate 3 refine gFaz ?_); refine pFaz ?_; refine vMz ?_; (iterate 5 refine gFz ?_); refine pFz ?_; refine vAz ?_; refine nNz ?_; refine CW.ret ?_; apply finR; exact .inl rfl; rfl; rfl; rfl; apply ResL.cons; exact Res.tmp rfl; exact ResL.nil; rw [hn (by omega)]; rfl)
theorem rfRight_calls (f : FrV) (L : FrL) (w : World) (h : FrRows w f L) : Calls Tryz.prog 24 #[frv f] w (Ret w (.bool (decide (okF f L)))) := by
  obtain ⟨e, he⟩ : ∃ e : Bool, e = decide (okF f L) := ⟨_, rfl⟩
  have hp : okF f L → e = true := fun h => by rw [he, decide_eq_true h]
  have hn : ¬ okF f L → e = false := fun h => by rw [he, decide_eq_false h]
  rw [← he]
  clear he
  unfold okF at hp hn
  obtain ⟨code, pc, stk, mem, gas, self, frm, val, inp, back, stat⟩ := f
  obtain ⟨h0, h2, h3, h11, h12⟩ := h
  dsimp only at h0 h2 h3 h11 h12 hp hn
  obtain ⟨p0, c0, rfl, _, hm0⟩ := h0.form
  obtain ⟨p2, c2, rfl, _, hm2⟩ := h2.form
  obtain ⟨p3, c3, rfl, _, hm3⟩ := h3.form
  obtain ⟨p11, c11, rfl, _, hm11⟩ := h11.form
  obtain ⟨p12, c12, rfl, _, hm12⟩ := h12.form
  have hS0 := rScRight_calls p2 p3 L.ws.length c2 L.ms.length c3 (by omega) (by omega)
  have hC0 : ∀ w' {fs}, St w [] fs w' → Calls Tryz.prog 50 #[.slice p0 L.cl.length c0] w' (Ret w' (.bool (decide (L.cl.length ≤ 200)))) := fun w' fs hst => CK.Right_calls _ _ _ w' (h0.st hst)
  simp only [maxLen] at hm0 hm2 hm3 hm11 hm12
  refine enter (args := [_]) _ [] [] Tryz.func24 rfl Tryz.ntmps24 rfl (by simp) .nil ?_
  by_cases hc : L.cl.length ≤ 200
  · have hRd0 : ∀ w' {fs}, St w [] fs w' → Calls Tryz.prog 52 #[.slice p0 L.cl.length c0, .int .i64 pc] w' (Ret w' (.bool (readB L.cl pc))) := fun w' fs hst => CK.Read_calls _ (by omega) _ _ w' (h0.st hst)
    rw [decide_eq_true hc] at hC0
    have hC : ∀ w' {fs}, St w [] fs w' → Calls Tryz.prog 50 #[.slice p0 L.cl.length c0] w' (Ret w' (.bool true)) := hC0
    by_cases hs : okSc L.ws.length L.ms.length
    · rw [decide_eq_true hs] at hS0
      have hS : ∀ w', Calls Tryz.prog 51 #[.agg #[.slice p2 L.ws.length c2, .slice p3 L.ms.length c3]] w' (Ret w' (.bool true)) := hS0
      simp only [hs, true_and] at hp hn
      by_cases hpc : pc = (L.cl.length : Int)
      · simp only [hpc, true_or, and_true] at hp hn
        subst hpc
        (refine sRz ?_; apply LW.boxA; rfl; rfl; intro _; refine vAz ?_; refine nNz ?_; refine CW.seq ?_; refine sRz ?_; refine vFz ?_; refine ldz rfl .head fr_rd0 ?_; apply LW.callE; rfl; rfl; infer_instance; exact .cons rfl .nil; intro w _; exact hC w (by assumption); refine lvz (.notT rfl (by with_reducible rfl)) ?_; refine vMz ?_; refine gTz ?_; refine vFz ?_; refine gTz ?_; refine ldz rfl .head fr_rd2 ?_; refine gTz ?_; apply LW.callE; rfl; rfl; infer_instance; exact .cons rfl .nil; intro w _; exact hS w; refine gTz ?_; refine lvz (.notT rfl (by with_reducible rfl)) ?_; refine pFz ?_; refine vMz ?_; refine gTz ?_; refine vFz ?_; refine gTz ?_; refine ldz rfl .head fr_rd4 ?_; refine gTz ?_; refine lvz (.gtr rfl rfl) ?_; refine pFz ?_; refine vMz ?_)
        (refine LW.guardDF rfl rfl rfl (fun hsq hsp => ?_) (fun hsq hsp => ?_))
        (refine vFz ?_; refine gTaz ?_; refine ldz rfl .head fr_rd5 ?_; refine gTaz ?_; refine lvz (.eq rfl rfl) ?_; refine pFaz ?_; refine nNz ?_; refine CW.condD rfl (fun hsq hsp => ?_) (fun hsq hsp => ?_); refine sRz ?_; refine vAz ?_; refine nNz ?_; refine CW.ret ?_; refine thenR (finR (.inl rfl) rfl rfl rfl (.cons (.tmp rfl) .nil) ?_); rw [hn (by omega)]; rfl; refine CW.skip ?_; refine thenN ?_; refine CW.seq ?_; refine sRz ?_; refine vFz ?_; refine ldz rfl .head fr_rd11 ?_; refine lvz (.lenR rfl inferInstance rfl) ?_; refine lvz (.gtr rfl rfl) ?_; refine vMz ?_; refine LW.guardDF rfl rfl rfl (fun hsq hsp => ?_) (fun hsq hsp => ?_); refine vFz ?_; refine gTaz ?_; refine ldz rfl .head fr_rd12 ?_; refine gTaz ?_; refine lvz (.lenR rfl inferInstance rfl) ?_; refine gTaz ?_; refine lvz (.gtr rfl rfl) ?_; refine pFaz ?_; refine nNz ?_; refine CW.condD rfl (fun hsq hsp => ?_) (fun hsq hsp => ?_); refine sRz ?_; refine vAz ?_; refine nNz ?_; refine CW.ret ?_; refine thenR (finR (.inl rfl) rfl rfl rfl (.cons (.tmp rfl) .nil) ?_); rw [hn (by omega)]; rfl; refine CW.skip ?_; refine thenN ?_; refine sRz ?_; refine vFz ?_; refine ldz rfl .head fr_rd1 ?_; refine vFz ?_; refine ldz rfl .head fr_rd0 ?_; refine lvz (.lenR rfl inferInstance rfl) ?_; refine lvz (.eqT rfl rfl (by omega)) ?_; refine vMz ?_; (iterate 5 refine gFz ?_); refine pTz ?_; refine vAz ?_; refine nNz ?_; refine CW.ret ?_; apply finR; exact .inl rfl; rfl; rfl; rfl; apply ResL.cons; exact Res.tmp rfl; exact ResL.nil; rw [hp (by omega)]; rfl; (iterate 3 refine gFaz ?_); refine pTaz ?_; refine nNz ?_; refine cTz ?_; refine sRz ?_; refine vAz ?_; refine nNz ?_; refine CW.ret ?_; refine thenR (finR (.inl rfl) rfl rfl rfl (.cons (.tmp rfl) .nil) ?_); rw [hn (by omega)]; rfl; refine gFaz ?_; refine gFaz ?_; refine pTaz ?_; refine nNz ?_; refine cTz ?_; refine sRz ?_; refine vAz ?_; refine nNz ?_; refine CW.ret ?_; refine thenR (finR (.inl rfl) rfl rfl rfl (.cons (.tmp rfl) .nil) ?_); rw [hn (by omega)]; rfl)
      · cases hr : readB L.cl pc with
        | true =>
          rw [hr] at hRd0 hp hn
          have hRd : ∀ w' {fs}, St w [] fs w' → Calls Tryz.prog 52 #[.slice p0 L.cl.length c0, .int .i64 pc] w' (Ret w' (.bool true)) := hRd0
          simp only [or_true, and_true] at hp hn
          (refine sRz ?_; apply LW.boxA; rfl; rfl; intro _; refine vAz ?_; refine nNz ?_; refine CW.seq ?_; refine sRz ?_; refine vFz ?_; refine ldz rfl .head fr_rd0 ?_; apply LW.callE; rfl; rfl; infer_instance; exact .cons rfl .nil; intro w _; exact hC w (by assumption); refine lvz (.notT rfl (by with_reducible rfl)) ?_; refine vMz ?_; refine gTz ?_; refine vFz ?_; refine gTz ?_; refine ldz rfl .head fr_rd2 ?_; refine gTz ?_; apply LW.callE; rfl; rfl; infer_instance; exact .cons rfl .nil; intro w _; exact hS w; refine gTz ?_; refine lvz (.notT rfl (by with_reducible rfl)) ?_; refine pFz ?_; refine vMz ?_; refine gTz ?_; refine vFz ?_; refine gTz ?_; refine ldz rfl .head fr_rd4 ?_; refine gTz ?_; refine lvz (.gtr rfl rfl) ?_; refine pFz ?_; refine vMz ?_)
          (refine LW.guardDF rfl rfl rfl (fun hsq hsp => ?_) (fun hsq hsp => ?_))
          (refine vFz ?_; refine gTaz ?_; refine ldz rfl .head fr_rd5 ?_; refine gTaz ?_; refine lvz (.eq rfl rfl) ?_; refine pFaz ?_; refine nNz ?_; refine CW.condD rfl (fun hsq hsp => ?_) (fun hsq hsp => ?_); refine sRz ?_; refine vAz ?_; refine nNz ?_; refine CW.ret ?_; refine thenR (finR (.inl rfl) rfl rfl rfl (.cons (.tmp rfl) .nil) ?_); rw [hn (by omega)]; rfl; refine CW.skip ?_; refine thenN ?_; refine CW.seq ?_; refine sRz ?_; refine vFz ?_; refine ldz rfl .head fr_rd11 ?_; refine lvz (.lenR rfl inferInstance rfl) ?_; refine lvz (.gtr rfl rfl) ?_; refine vMz ?_; refine LW.guardDF rfl rfl rfl (fun hsq hsp => ?_) (fun hsq hsp => ?_); refine vFz ?_; refine gTaz ?_; refine ldz rfl .head fr_rd12 ?_; refine gTaz ?_; refine lvz (.lenR rfl inferInstance rfl) ?_; refine gTaz ?_; refine lvz (.gtr rfl rfl) ?_; refine pFaz ?_; refine nNz ?_; refine CW.condD rfl (fun hsq hsp => ?_) (fun hsq hsp => ?_); refine sRz ?_; refine vAz ?_; refine nNz ?_; refine CW.ret ?_; refine thenR (finR (.inl rfl) rfl rfl rfl (.cons (.tmp rfl) .nil) ?_); rw [hn (by omega)]; rfl; refine CW.skip ?_; refine thenN ?_; refine sRz ?_; refine vFz ?_; refine ldz rfl .head fr_rd1 ?_; refine vFz ?_; refine ldz rfl .head fr_rd0 ?_; refine lvz (.lenR rfl inferInstance rfl) ?_; refine lvz (.eqF rfl rfl (by omega)) ?_; refine vMz ?_; refine gTz ?_; refine vFz ?_; refine gTz ?_; refine ldz rfl .head fr_rd0 ?_; refine gTz ?_; refine vFz ?_; refine gTz ?_; refine ldz rfl .head fr_rd1 ?_; refine gTz ?_; apply LW.callE; rfl; rfl; infer_instance; exact .cons rfl (.cons rfl .nil); intro w _; exact hRd w (by assumption); refine pFz ?_; refine vAz ?_; refine nNz ?_; refine CW.ret ?_; apply finR; exact .inl rfl; rfl; rfl; rfl; apply ResL.cons; exact Res.tmp rfl; exact ResL.nil; rw [hp (by omega)]; rfl; (iterate 3 refine gFaz ?_); refine pTaz ?_; refine nNz ?_; refine cTz ?_; refine sRz ?_; refine vAz ?_; refine nNz ?_; refine CW.ret ?_; refine thenR (finR (.inl rfl) rfl rfl rfl (.cons (.tmp rfl) .nil) ?_); rw [hn (by omega)]; rfl; refine gFaz ?_; refine gFaz ?_; refine pTaz ?_; refine nNz ?_; refine cTz ?_; refine sRz ?_; refine vAz ?_; refine nNz ?_; refine CW.ret ?_; refine thenR (finR (.inl rfl) rfl rfl rfl (.cons (.tmp rfl) .nil) ?_); rw [hn (by omega)]; rfl)
        | false =>
          rw [hr] at hRd0 hp hn
          have hRd : ∀ w' {fs}, St w [] fs w' → Calls Tryz.prog 52 #[.slice p0 L.cl.length c0, .int .i64 pc] w' (Ret w' (.bool false)) := hRd0
          simp only [Bool.false_eq_true, or_false] at hp hn
          (refine sRz ?_; apply LW.boxA; rfl; rfl; intro _; refine vAz ?_; refine nNz ?_; refine CW.seq ?_; refine sRz ?_; refine vFz ?_; refine ldz rfl .head fr_rd0 ?_; apply LW.callE; rfl; rfl; infer_instance; exact .cons rfl .nil; intro w _; exact hC w (by assumption); refine lvz (.notT rfl (by with_reducible rfl)) ?_; refine vMz ?_; refine gTz ?_; refine vFz ?_; refine gTz ?_; refine ldz rfl .head fr_rd2 ?_; refine gTz ?_; apply LW.callE; rfl; rfl; infer_instance; exact .cons rfl .nil; intro w _; exact hS w; refine gTz ?_; refine lvz (.notT rfl (by with_reducible rfl)) ?_; refine pFz ?_; refine vMz ?_; refine gTz ?_; refine vFz ?_; refine gTz ?_; refine ldz rfl .head fr_rd4 ?_; refine gTz ?_; refine lvz (.gtr rfl rfl) ?_; refine pFz ?_; refine vMz ?_)
          (refine LW.guardDF rfl rfl rfl (fun hsq hsp => ?_) (fun hsq hsp => ?_))
          (refine vFz ?_; refine gTaz ?_; refine ldz rfl .head fr_rd5 ?_; refine gTaz ?_; refine lvz (.eq rfl rfl) ?_; refine pFaz ?_; refine nNz ?_; refine CW.condD rfl (fun hsq hsp => ?_) (fun hsq hsp => ?_); refine sRz ?_; refine vAz ?_; refine nNz ?_; refine CW.ret ?_; refine thenR (finR (.inl rfl) rfl rfl rfl (.cons (.tmp rfl) .nil) ?_); rw [hn (by omega)]; rfl; refine CW.skip ?_; refine thenN ?_; refine CW.seq ?_; refine sRz ?_; refine vFz ?_; refine ldz rfl .head fr_rd11 ?_; refine lvz (.lenR rfl inferInstance rfl) ?_; refine lvz (.gtr rfl rfl) ?_; refine vMz ?_; refine LW.guardDF rfl rfl rfl (fun hsq hsp => ?_) (fun hsq hsp => ?_); refine vFz ?_; refine gTaz ?_; refine ldz rfl .head fr_rd12 ?_; refine gTaz ?_; refine lvz (.lenR rfl inferInstance rfl) ?_; refine gTaz ?_; refine lvz (.gtr rfl rfl) ?_; refine pFaz ?_; refine nNz ?_; refine CW.condD rfl (fun hsq hsp => ?_) (fun hsq hsp => ?_); refine sRz ?_; refine vAz ?_; refine nNz ?_; refine CW.ret ?_; refine thenR (finR (.inl rfl) rfl rfl rfl (.cons (.tmp rfl) .nil) ?_); rw [hn (by omega)]; rfl; refine CW.skip ?_; refine thenN ?_; refine sRz ?_; refine vFz ?_; refine ldz rfl .head fr_rd1 ?_; refine vFz ?_; refine ldz rfl .head fr_rd0 ?_; refine lvz (.lenR rfl inferInstance rfl) ?_; refine lvz (.eqF rfl rfl (by omega)) ?_; refine vMz ?_; refine gTz ?_; refine vFz ?_; refine gTz ?_; refine ldz rfl .head fr_rd0 ?_; refine gTz ?_; refine vFz ?_; refine gTz ?_; refine ldz rfl .head fr_rd1 ?_; refine gTz ?_; apply LW.callE; rfl; rfl; infer_instance; exact .cons rfl (.cons rfl .nil); intro w _; exact hRd w (by assumption); refine pFz ?_; refine vAz ?_; refine nNz ?_; refine CW.ret ?_; apply finR; exact .inl rfl; rfl; rfl; rfl; apply ResL.cons; exact Res.tmp rfl; exact ResL.nil; rw [hn (by omega)]; rfl; (iterate 3 refine gFaz ?_); refine pTaz ?_; refine nNz ?_; refine cTz ?_; refine sRz ?_; refine vAz ?_; refine nNz ?_; refine CW.ret ?_; refine thenR (finR (.inl rfl) rfl rfl rfl (.cons (.tmp rfl) .nil) ?_); rw [hn (by omega)]; rfl; refine gFaz ?_; refine gFaz ?_; refine pTaz ?_; refine nNz ?_; refine cTz ?_; refine sRz ?_; refine vAz ?_; refine nNz ?_; refine CW.ret ?_; refine thenR (finR (.inl rfl) rfl rfl rfl (.cons (.tmp rfl) .nil) ?_); rw [hn (by omega)]; rfl)
    · rw [decide_eq_false hs] at hS0
      have hS : ∀ w', Calls Tryz.prog 51 #[.agg #[.slice p2 L.ws.length c2, .slice p3 L.ms.length c3]] w' (Ret w' (.bool false)) := hS0
      rw [hn (fun h => hs h.2.2.2.1)] at *
      clear hp hn
      (refine sRz ?_; apply LW.boxA; rfl; rfl; intro _; refine vAz ?_; refine nNz ?_; refine CW.seq ?_; refine sRz ?_; refine vFz ?_; refine ldz rfl .head fr_rd0 ?_; apply LW.callE; rfl; rfl; infer_instance; exact .cons rfl .nil; intro w _; exact hC w (by assumption); refine lvz (.notT rfl (by with_reducible rfl)) ?_; refine vMz ?_; refine gTz ?_; refine vFz ?_; refine gTz ?_; refine ldz rfl .head fr_rd2 ?_; refine gTz ?_; apply LW.callE; rfl; rfl; infer_instance; exact .cons rfl .nil; intro w _; exact hS w; refine gTz ?_; refine lvz (.notF rfl (by with_reducible rfl)) ?_; refine pFz ?_; refine vMz ?_; (iterate 3 refine gFz ?_); refine pTz ?_; refine vMz ?_; (iterate 3 refine gFz ?_); refine pTz ?_; refine nNz ?_; refine cTz ?_; refine sRz ?_; refine vAz ?_; refine nNz ?_; refine CW.ret ?_; refine thenR ?_)
      (apply finR; exact .inl rfl; rfl; rfl; rfl; apply ResL.cons; exact Res.tmp rfl; exact ResL.nil)
      rfl
  · rw [decide_eq_false hc] at hC0
    have hC : ∀ w' {fs}, St w [] fs w' → Calls Tryz.prog 50 #[.slice p0 L.cl.length c0] w' (Ret w' (.bool false)) := hC0
    rw [hn (fun h => hc h.2.2.1)] at *
    clear hp hn
    (refine sRz ?_; apply LW.boxA; rfl; rfl; intro _; refine vAz ?_; refine nNz ?_; refine CW.seq ?_; refine sRz ?_; refine vFz ?_; refine ldz rfl .head fr_rd0 ?_; apply LW.callE; rfl; rfl; infer_instance; exact .cons rfl .nil; intro w _; exact hC w (by assumption); refine lvz (.notF rfl (by with_reducible rfl)) ?_; refine vMz ?_; (iterate 4 refine gFz ?_); refine pTz ?_; refine vMz ?_; (iterate 3 refine gFz ?_); refine pTz ?_; refine vMz ?_; (iterate 3 refine gFz ?_); refine pTz ?_; refine nNz ?_; refine cTz ?_; refine sRz ?_; refine vAz ?_; refine nNz ?_; refine CW.ret ?_; refine thenR ?_)
    (apply finR; exact .inl rfl; rfl; rfl; rfl; apply ResL.cons; exact Res.tmp rfl; exact ResL.nil)
    rfl
/-! ### Copies -/
theorem IsRow.le {E : TypeId} {sz n n' c : Nat} {p : Option Addr} {xs : List Value} {seg : Fs} (h : IsRow E sz (.slice p n' c) n xs seg) : n' ≤ c := by
  cases h with
  | nil => exact Nat.le_refl _
  | own hn _ _ _ _ => exact hn
theorem rBoth_calls (l : List UInt8) (v : Value) (w : World) (hv : RowAt w 1 v l.length (ucs l)) (hl : l.length ≤ 100000) : Calls Tryz.prog 43 #[v, .slice none 0 0] w (RetG w [] (bM l)) := by
  obtain ⟨p, c, rfl, _, _⟩ := id hv.form
  refine enter (args := [_, _]) _ [] [] Tryz.func43 rfl Tryz.ntmps43 rfl (by simp) .nil ?_
  (refine sRz ?_; refine vAz ?_; refine nSz ?_; refine vMz ?_; refine lvz (.lenR rfl inferInstance rfl) ?_; refine vMz ?_; refine lvz (.lenR rfl inferInstance rfl) ?_; refine lvz (.addZ rfl rfl (by omega)) ?_)
  refine LW.n0 rfl rfl (NewP.make0 (c := l.length + 0) inferInstance inferInstance inferInstance rfl rfl (by omega) (by omega)) fun g => ?_
  simp only [Sh.val]
  (refine vAz ?_; refine nSz ?_; refine vMz ?_; refine vMz ?_)
  have hrow0 : IsRow 5 1 (.slice (some ⟨g, 0, none⟩) 0 (l.length + 0)) 0 [] [(g, .cells (madeCells (Value.int .u8 0).cells ((l.length + 0) * 1)) 5 (0, 0))] := .own (by omega) (by simp only [maxLen]; omega) (by rw [← Array.length_toList, made_one rfl, List.length_replicate, Nat.mul_one]) rfl rfl
  (apply LW.appendAny; (case hrow => exact hrow0); rfl; rfl; infer_instance; infer_instance; infer_instance; rfl; rfl; rfl; exact AtSeg.head (seg := [_]) (post := []))
  · exact fun w hs => hv.st hs
  · exact ucs_cells _
  · simp only [maxLen]; omega
  · omega
  intro v1 seg1 hrow1
  refine ⟨_, AtSeg.head (post := []), ?_⟩
  simp only [List.nil_append, Nat.zero_add] at hrow1
  obtain ⟨q1, k1, rfl⟩ := hrow1.form
  have hle1 : l.length ≤ k1 := IsRow.le hrow1
  (refine vMz ?_; apply LW.v0; rfl; rfl; apply ValP.append0; rfl; infer_instance; infer_instance; rfl; rfl; assumption; refine vAz ?_; refine nNz ?_; refine CW.ret ?_)
  exact fin (vs := [.slice q1 l.length k1]) seg1 (.inl rfl) rfl rfl (by (apply ResL.cons; exact Res.tmp rfl; exact ResL.nil)) (List.sublist_append_left _ _) hrow1
theorem rScCopy_calls (ws : List Nat) (ms : List UInt8) (s m : Value) (w : World) (hs : RowAt w 4 s ws.length (wcs ws)) (hm : RowAt w 1 m ms.length (ucs ms)) (hl : ws.length ≤ 100000) (hl2 : ms.length ≤ 100000) :
    Calls Tryz.prog 81 #[.agg #[s, m]] w (RetG w [] (fun v gs => ∃ s m g1 g2, v = .agg #[s, m] ∧ gs = g2 ++ g1 ∧ wM ws s g1 ∧ bM ms m g2 ∧ (ws.length = 0 → ∃ p, s = .slice p 0 0))) := by
  obtain ⟨p, c, rfl, _, _⟩ := id hs.form
  obtain ⟨p2, c2, rfl, _, _⟩ := id hm.form
  refine enter (args := [_]) _ [] [] Tryz.func81 rfl Tryz.ntmps81 rfl (by simp) .nil ?_
  (refine sRz ?_; apply LW.boxA; rfl; rfl; intro _; apply LW.allocA; rfl; intro _; refine nNz ?_; refine CW.seq ?_)
  apply CW.pre
  rcases Nat.eq_zero_or_pos ws.length with h0 | h0
  · have hw : ws = [] := List.length_eq_zero_iff.1 h0
    subst hw
    (refine AnyW.anyS [(3, sameR)] 7 mixed (by decide +kernel) ?_)
    ((try simp only [tsOf_cons, tsOf_nil, tsOf_app]); apply DW.lay0; rfl; rfl; rfl; exact WantT.none; infer_instance; infer_instance; intro _; refine dvz (.fieldAddr rfl rfl) ?_; apply DW.loadO; rfl; rfl; rfl; exact WantT.none; rfl; apply TRead.tail; apply TRead.tail; apply TRead.head; exact ancB_nil; exact sc_rd0)
    refine DW.appendN rfl rfl rfl (by (exact WantT.none)) rfl inferInstance inferInstance rfl rfl hs rfl ?_
    ((try simp only [tsOf_cons, tsOf_nil, tsOf_app]); apply DW.lay0; rfl; rfl; rfl; exact WantT.none; infer_instance; infer_instance; intro _; refine dvz (.fieldAddr rfl rfl) ?_; apply DW.loadO; rfl; rfl; rfl; exact WantT.none; rfl; apply TRead.tail; apply TRead.tail; apply TRead.tail; apply TRead.head; exact ancB_nil; exact sc_rd1; apply DW.nil; simp only [fsOf_cons, fsOf_nil, fsOf_app, fsOf_tsOf, fsOf_new])
    rename_i ba bb bc bd
    have hrow0 : IsRow 5 1 (.slice (some ⟨bd, 0, none⟩) 0 0) 0 [] [(bd, .cells #[] 5 (0, 0))] := .own (Nat.le_refl 0) (by simp [maxLen]) rfl rfl rfl
    (apply LW.appendAny; (case hrow => exact hrow0); rfl; rfl; infer_instance; infer_instance; infer_instance; rfl; rfl; rfl; exact AtSeg.head (seg := [_]) (post := _ :: _))
    · exact fun w hs => hm.st hs
    · exact ucs_cells _
    · simp only [maxLen]; omega
    · omega
    intro v2 g2 h2
    simp only [List.nil_append, Nat.zero_add] at h2
    refine ⟨_, AtSeg.head, ?_⟩
    obtain ⟨q2, k2, rfl⟩ := id h2.form
    (apply LW.v0; rfl; rfl; apply ValP.buildT; infer_instance; infer_instance; apply PartsOk.cons; rfl; apply PartsOk.cons; rfl; exact PartsOk.nil; rfl; simp only [fillP, wrCells, Value.cells, List.getElem?_cons_zero, List.getElem?_cons_succ, List.toList_toArray, List.setIfInBounds_toArray, List.set_cons_succ, List.set_cons_zero, Nat.reduceAdd, Nat.zero_add]; rfl; refine LW.store rfl rfl (.app (.tail .head)) (.whole rfl rfl rfl) ?_; refine nNz ?_; refine CW.ret ?_)
    refine fin (vs := [.agg #[.slice (some ⟨bc, 0, none⟩) 0 0, .slice q2 ms.length k2]]) (g2 ++ [(bc, .cells #[] 29 (0, 0))]) (.inl rfl) rfl rfl (by (apply ResL.cons; apply Res.cell; rfl; apply Known.at; apply FsAt.app; apply FsAt.tail; apply FsAt.head; exact Rd.whole rfl; exact ResL.nil)) ?_ ⟨_, _, [(bc, .cells #[] 29 (0, 0))], g2, rfl, rfl, .own (Nat.le_refl 0) (by simp [maxLen]) rfl rfl rfl, h2, fun _ => ⟨_, rfl⟩⟩
    (apply List.Sublist.append_left; apply List.Sublist.cons_cons; apply List.Sublist.cons; apply List.Sublist.cons; exact List.Sublist.refl _)
  · (refine AnyW.anyS [(3, cst (wM ws))] 7 mixed (by decide +kernel) ?_)
    ((try simp only [tsOf_cons, tsOf_nil, tsOf_app]); apply DW.lay0; rfl; rfl; rfl; exact WantT.none; infer_instance; infer_instance; intro _; refine dvz (.fieldAddr rfl rfl) ?_; apply DW.loadO; rfl; rfl; rfl; exact WantT.none; rfl; apply TRead.tail; apply TRead.tail; apply TRead.head; exact ancB_nil; exact sc_rd0)
    refine DW.appendE rfl rfl rfl (by (exact WantT.none)) rfl inferInstance inferInstance inferInstance rfl rfl rfl hs rfl h0 (by simp only [maxLen]; omega) (by omega) (fun v gs h => h) ?_
    intro v1 g1 h1
    have h1' := h1
    unfold wM at h1'
    obtain ⟨q1, k1, rfl⟩ := h1'.form
    ((try simp only [tsOf_cons, tsOf_nil, tsOf_app]); apply DW.lay0; rfl; rfl; rfl; exact WantT.none; infer_instance; infer_instance; intro _; refine dvz (.fieldAddr rfl rfl) ?_; apply DW.loadO; rfl; rfl; rfl; exact WantT.none; rfl; apply TRead.tail; apply TRead.app; apply TRead.tail; apply TRead.tail; apply TRead.head; exact ancB_nil; exact sc_rd1; apply DW.nil; simp only [fsOf_cons, fsOf_nil, fsOf_app, fsOf_tsOf, fsOf_new])
    simp only [fsOf_tag]
    rename_i ba bb bc bd
    have hrow0 : IsRow 5 1 (.slice (some ⟨bd, 0, none⟩) 0 0) 0 [] [(bd, .cells #[] 5 (0, 0))] := .own (Nat.le_refl 0) (by simp [maxLen]) rfl rfl rfl
    (apply LW.appendAny; (case hrow => exact hrow0); rfl; rfl; infer_instance; infer_instance; infer_instance; rfl; rfl; rfl; exact AtSeg.head (seg := [_]) (post := g1 ++ _))
    · exact fun w hs => hm.st hs
    · exact ucs_cells _
    · simp only [maxLen]; omega
    · omega
    intro v2 g2 h2
    simp only [List.nil_append, Nat.zero_add] at h2
    refine ⟨_, AtSeg.head, ?_⟩
    obtain ⟨q2, k2, rfl⟩ := id h2.form
    (apply LW.v0; rfl; rfl; apply ValP.buildT; infer_instance; infer_instance; apply PartsOk.cons; rfl; apply PartsOk.cons; rfl; exact PartsOk.nil; rfl; simp only [fillP, wrCells, Value.cells, List.getElem?_cons_zero, List.getElem?_cons_succ, List.toList_toArray, List.setIfInBounds_toArray, List.set_cons_succ, List.set_cons_zero, Nat.reduceAdd, Nat.zero_add]; rfl; refine LW.store rfl rfl (.app (.app (.tail .head))) (.whole rfl rfl rfl) ?_; refine nNz ?_; refine CW.ret ?_)
    refine fin (vs := [.agg #[.slice q1 ws.length k1, .slice q2 ms.length k2]]) (g2 ++ g1) (.inl rfl) rfl rfl (by (apply ResL.cons; apply Res.cell; rfl; apply Known.at; apply FsAt.app; apply FsAt.app; apply FsAt.tail; apply FsAt.head; exact Rd.whole rfl; exact ResL.nil)) ?_ ⟨_, _, g1, g2, rfl, rfl, h1, h2, fun h => absurd h0 (by omega)⟩
    exact List.Sublist.append_left (List.sublist_append_left _ _) _
end Go.Proofs.YtpgdnfgjbhdbpaaGreatDoor

/-
  The frames in which calls begin, in the code's and the document's words.
  Conditions: none.
-/
namespace Go.Proofs.YtpgdnfgjbhdbpaaGreatDoor
open Go Go.RowKit SL
open CK (readB readFrom readFrom_hit)
set_option maxRecDepth 8000
set_option maxHeartbeats 4000000
set_option linter.unusedSimpArgs false
set_option linter.unusedVariables false
attribute [local irreducible] SL.CW SL.LW SL.DW Calls SL.Ret SL.RetG SL.beginQ SL.roundQ SL.rangeQ SL.inQ SL.RW SL.AnyW SL.thenQ SL.thenC SL.thenW SL.blkQ SL.finQ SL.ValP SL.NewP SL.SetP SL.CallP SL.Rd SL.Wr SL.Known
/-- The frame in which a call begins. -/
def staF (c : ClV) (cv sv mv iv bv : Value) : FrV := ⟨cv, 0, sv, mv, c.gas, c.self, c.frm, c.val, iv, bv, c.stat⟩
def staL (L : ClL) (pl : List UInt8) : FrL := ⟨pl, [], [], L.il, []⟩
def okS (c : ClV) (L : ClL) (pl : List UInt8) : Prop := okC c L ∧ ¬ c.self = 0 ∧ pl.length ≤ 200
instance (c : ClV) (L : ClL) (pl : List UInt8) : Decidable (okS c L pl) := by unfold okS; infer_instance
theorem okS_frame {c : ClV} {L : ClL} {pl : List UInt8} {a b d e f : Value} (h : okC c L) : okF (staF c a b d e f) (staL L pl) ↔ (¬ c.self = 0 ∧ pl.length ≤ 200) := by
  have hr : ((0 : Int) = (pl.length : Int)) ∨ readB pl 0 = true := by
    rcases Nat.eq_zero_or_pos pl.length with h0 | h0
    · exact .inl (by omega)
    · refine .inr ?_
      have h1 : readFrom pl 0 ((0 : Nat) : Int) = true := readFrom_hit h0
      have h2 : readFrom pl 0 0 = readB pl 0 := by unfold readFrom readB; rw [List.drop_zero]
      rw [← h2]; exact h1
  obtain ⟨_, ⟨h1, h2, _⟩, _⟩ := h
  unfold okF staF staL okSc
  dsimp only
  constructor
  · rintro ⟨_, h3, h4, _⟩
    exact ⟨h3, h4⟩
  · rintro ⟨h3, h4⟩
    exact ⟨⟨h2, by simp, h1⟩, h3, h4, ⟨by simp, by simp, by simp⟩, hr⟩
def progL (c : ClV) (L : ClL) (pl : List UInt8) : List UInt8 := if c.op = 245 then L.cl else pl
def StaR (z : Value) (y : Value) (c : ClV) (L : ClL) (pl : List UInt8) (v : Value) (gs : Fs) : Prop :=
  (okS c L pl ∧ ∃ a b d e f, v = .tuple #[frv (staF c a b d e f), y] ∧ FrO (staF c a b d e f) (staL L pl) gs) ∨ (¬ okS c L pl ∧ v = .tuple #[frv zeroF, z] ∧ gs = [])
theorem Start_calls (c : ClV) (L : ClL) (pl : List UInt8) (hi : L.il.length ≤ 100000) (hc : L.cl.length ≤ 100000) (hpl : pl.length ≤ 100000) (v : Value) (w : World) (hv : RowAt w 1 v pl.length (ucs pl)) (h : ClRows w c L) :
    Calls Tryz.prog 22 #[clv c, v] w (RetG w [] (StaR (.int .i64 250) (.int .i64 0) c L (progL c L pl))) := by
  have hCc0 := fun w' {fs : Fs} (hst : St w [] fs w') => callCheck_calls c L w' (h.st hst)
  obtain ⟨op, dst, self, frm, val, mv, gas, inp, code, pc, n, stat⟩ := c
  obtain ⟨h10, h11⟩ := h
  dsimp only at h10 h11 hCc0
  obtain ⟨p10, c10, rfl, _, _⟩ := id h10.form
  obtain ⟨p11, c11, rfl, _, _⟩ := id h11.form
  obtain ⟨pv, cv, rfl, _, _⟩ := id hv.form
  have hzs := zero_sl
  have hCc1 : okC ⟨op, dst, self, frm, val, mv, gas, .slice p10 L.il.length c10, .slice p11 L.cl.length c11, pc, n, stat⟩ L → ∀ w' {fs : Fs}, St w [] fs w' → Calls Tryz.prog 19 #[clv ⟨op, dst, self, frm, val, mv, gas, .slice p10 L.il.length c10, .slice p11 L.cl.length c11, pc, n, stat⟩] w' (Ret w' (.int .i64 0)) := fun hok w' fs hst => by have h := hCc0 w' hst; rwa [if_pos hok] at h
  have hCc2 : ¬ okC ⟨op, dst, self, frm, val, mv, gas, .slice p10 L.il.length c10, .slice p11 L.cl.length c11, pc, n, stat⟩ L → ∀ w' {fs : Fs}, St w [] fs w' → Calls Tryz.prog 19 #[clv ⟨op, dst, self, frm, val, mv, gas, .slice p10 L.il.length c10, .slice p11 L.cl.length c11, pc, n, stat⟩] w' (Ret w' (.int .i64 250)) := fun hok w' fs hst => by have h := hCc0 w' hst; rwa [if_neg hok] at h
  by_cases h245 : op = 245
  · have hpr : progL ⟨op, dst, self, frm, val, mv, gas, .slice p10 L.il.length c10, .slice p11 L.cl.length c11, pc, n, stat⟩ L pl = L.cl := if_pos h245
    rw [hpr]
    refine enter (args := [_, _]) _ [] [] Tryz.func22 rfl Tryz.ntmps22 rfl (by simp) .nil ?_
    (refine sRz ?_; apply LW.boxA; rfl; rfl; intro _; apply LW.allocA; rfl; intro _; refine vAz ?_; refine nNz ?_; refine CW.seq ?_; refine sRz ?_; refine vFz ?_; refine ldz rfl (.tail .head) cl_rd0 ?_; refine lvz (.eqT rfl rfl (by omega)) ?_; refine nNz ?_; refine cTz ?_; refine CW.region ?_; refine vFz ?_; refine ldz rfl (.tail .head) cl_rd11 ?_; refine vAz ?_; refine nSz ?_; refine vMz ?_; refine vFz ?_; refine ldz rfl (.tail .head) cl_rd9 ?_; refine vFz ?_; refine ldz rfl (.tail .head) cl_rd2 ?_; refine vFz ?_; refine ldz rfl (.tail .head) cl_rd3 ?_; refine vFz ?_; refine ldz rfl (.tail .head) cl_rd4 ?_; refine vFz ?_; refine ldz rfl (.tail .head) cl_rd10 ?_; refine vFz ?_; refine ldz rfl (.tail .head) cl_rd14 ?_; apply LW.v0; rfl; rfl; apply ValP.buildT; infer_instance; infer_instance; apply PartsOk.cons; rfl; apply PartsOk.cons; rfl; apply PartsOk.cons; rfl; apply PartsOk.cons; rfl; apply PartsOk.cons; rfl; apply PartsOk.cons; rfl; apply PartsOk.cons; rfl; exact PartsOk.nil; rfl; simp only [fillP, wrCells, fra, frc, wc, Value.cells, List.getElem?_cons_zero, List.getElem?_cons_succ, List.toList_toArray, List.setIfInBounds_toArray, List.set_cons_succ, List.set_cons_zero, List.cons_append, List.nil_append, Nat.reduceAdd, Nat.zero_add]; rfl)
    (apply LW.callR; rfl; rfl; infer_instance; exact .cons rfl .nil; intro w hs)
    exact callCopied_calls ⟨.slice p11 L.cl.length c11, 0, .slice none 0 0, .slice none 0 0, gas, self, frm, val, .slice p10 L.il.length c10, .slice none 0 0, stat⟩ (staL L L.cl) ⟨hc, by simp [staL], by simp [staL], hi, by simp [staL]⟩ w ⟨h11.st hs, .nil, .nil, h10.st hs, .nil⟩
    rintro vo go ⟨a, b, d, e, f, rfl, hfr⟩
    have hsl := hfr.sl
    by_cases hok : okC ⟨op, dst, self, frm, val, mv, gas, .slice p10 L.il.length c10, .slice p11 L.cl.length c11, pc, n, stat⟩ L
    · have hCc := hCc1 hok
      by_cases hs2 : ¬ self = 0 ∧ L.cl.length ≤ 200
      · have hFc : ∀ w' {fs : Fs}, St w [] fs w' → (∀ p ∈ go, p ∈ fs) → Calls Tryz.prog 31 #[frv (staF ⟨op, dst, self, frm, val, mv, gas, .slice p10 L.il.length c10, .slice p11 L.cl.length c11, pc, n, stat⟩ a b d e f)] w' (Ret w' (.int .i64 0)) := fun w' fs hst hm => by
          have h := fCheck_calls (staF ⟨op, dst, self, frm, val, mv, gas, .slice p10 L.il.length c10, .slice p11 L.cl.length c11, pc, n, stat⟩ a b d e f) (staL L L.cl) w' (hfr.st hst hm)
          rwa [if_pos ((okS_frame hok).2 hs2)] at h
        (apply LW.allocA; rfl; intro _; apply LW.store; rfl; rfl; apply SetAt.head; apply fr_wrW; rfl; assumption; refine nNz ?_; refine CW.seq ?_; refine sRz ?_; refine ldz rfl (.tail (.app (.tail .head))) cl_rdW ?_; apply LW.callE; rfl; rfl; infer_instance; exact .cons rfl .nil; intro w _; exact hCc w (by assumption); refine lvz (.neF rfl rfl (by omega)) ?_; refine vMz ?_; refine gTz ?_; refine ldz rfl .head fr_rdW ?_; refine gTz ?_; apply LW.callE; rfl; rfl; infer_instance; exact .cons rfl .nil; intro w _; exact hFc w (by assumption) (fun p hp => List.mem_cons_of_mem _ (List.mem_append_left _ hp)); refine gTz ?_; refine lvz (.neF rfl rfl (by omega)) ?_; refine pFz ?_; refine nNz ?_; refine cFz ?_; refine CW.skip ?_; refine thenN ?_; refine sRz ?_; refine ldz rfl .head fr_rdW ?_; apply LW.store; rfl; rfl; apply SetAt.tail; apply SetAt.app; apply SetAt.head; apply fr_wrW; rfl; assumption; refine vAz ?_; refine nNz ?_; refine CW.ret ?_)
        refine fin (vs := [frv (staF ⟨op, dst, self, frm, val, mv, gas, .slice p10 L.il.length c10, .slice p11 L.cl.length c11, pc, n, stat⟩ a b d e f), .int .i64 0]) go (.inl rfl) rfl rfl (by (apply ResL.cons; apply Res.cell; rfl; apply Known.at; apply FsAt.tail; apply FsAt.app; apply FsAt.head; exact fr_rdW; apply ResL.cons; exact Res.tmp rfl; exact ResL.nil)) ?_ (.inl ⟨⟨hok, hs2⟩, a, b, d, e, f, rfl, hfr⟩)
        exact List.Sublist.cons _ (List.sublist_append_left _ _)
      · have hFc : ∀ w' {fs : Fs}, St w [] fs w' → (∀ p ∈ go, p ∈ fs) → Calls Tryz.prog 31 #[frv (staF ⟨op, dst, self, frm, val, mv, gas, .slice p10 L.il.length c10, .slice p11 L.cl.length c11, pc, n, stat⟩ a b d e f)] w' (Ret w' (.int .i64 240)) := fun w' fs hst hm => by
          have h := fCheck_calls (staF ⟨op, dst, self, frm, val, mv, gas, .slice p10 L.il.length c10, .slice p11 L.cl.length c11, pc, n, stat⟩ a b d e f) (staL L L.cl) w' (hfr.st hst hm)
          rwa [if_neg (fun h => hs2 ((okS_frame hok).1 h))] at h
        (apply LW.allocA; rfl; intro _; apply LW.store; rfl; rfl; apply SetAt.head; apply fr_wrW; rfl; assumption; refine nNz ?_; refine CW.seq ?_; refine sRz ?_; refine ldz rfl (.tail (.app (.tail .head))) cl_rdW ?_; apply LW.callE; rfl; rfl; infer_instance; exact .cons rfl .nil; intro w _; exact hCc w (by assumption); refine lvz (.neF rfl rfl (by omega)) ?_; refine vMz ?_; refine gTz ?_; refine ldz rfl .head fr_rdW ?_; refine gTz ?_; apply LW.callE; rfl; rfl; infer_instance; exact .cons rfl .nil; intro w _; exact hFc w (by assumption) (fun p hp => List.mem_cons_of_mem _ (List.mem_append_left _ hp)); refine gTz ?_; refine lvz (.neT rfl rfl (by omega)) ?_; refine pFz ?_; refine nNz ?_; refine cTz ?_; refine sRz ?_; apply LW.v0; rfl; rfl; apply ValP.buildT; infer_instance; infer_instance; exact PartsOk.nil; rfl; simp only [fillP, wrCells, fra, frc, wc, Value.cells, List.getElem?_cons_zero, List.getElem?_cons_succ, List.toList_toArray, List.setIfInBounds_toArray, List.set_cons_succ, List.set_cons_zero, List.cons_append, List.nil_append, Nat.reduceAdd, Nat.zero_add]; rfl; refine LW.store rfl rfl (.tail (.app .head)) (.whole rfl rfl rfl) ?_; refine vAz ?_; refine nNz ?_; refine CW.ret ?_; refine thenR ?_)
        exact fin (vs := [frv zeroF, .int .i64 250]) [] (.inl rfl) rfl rfl (by (apply ResL.cons; apply Res.cell; rfl; apply Known.at; apply FsAt.tail; apply FsAt.app; apply FsAt.head; exact Rd.whole rfl; apply ResL.cons; exact Res.tmp rfl; exact ResL.nil)) (List.nil_sublist _) (.inr ⟨fun h => hs2 h.2, rfl, rfl⟩)
    · have hCc := hCc2 hok
      (apply LW.allocA; rfl; intro _; apply LW.store; rfl; rfl; apply SetAt.head; apply fr_wrW; rfl; assumption; refine nNz ?_; refine CW.seq ?_; refine sRz ?_; refine ldz rfl (.tail (.app (.tail .head))) cl_rdW ?_; apply LW.callE; rfl; rfl; infer_instance; exact .cons rfl .nil; intro w _; exact hCc w (by assumption); refine lvz (.neT rfl rfl (by omega)) ?_; refine vMz ?_; (iterate 3 refine gFz ?_); refine pTz ?_; refine nNz ?_; refine cTz ?_; refine sRz ?_; apply LW.v0; rfl; rfl; apply ValP.buildT; infer_instance; infer_instance; exact PartsOk.nil; rfl; simp only [fillP, wrCells, fra, frc, wc, Value.cells, List.getElem?_cons_zero, List.getElem?_cons_succ, List.toList_toArray, List.setIfInBounds_toArray, List.set_cons_succ, List.set_cons_zero, List.cons_append, List.nil_append, Nat.reduceAdd, Nat.zero_add]; rfl; refine LW.store rfl rfl (.tail (.app .head)) (.whole rfl rfl rfl) ?_; refine vAz ?_; refine nNz ?_; refine CW.ret ?_; refine thenR ?_)
      exact fin (vs := [frv zeroF, .int .i64 250]) [] (.inl rfl) rfl rfl (by (apply ResL.cons; apply Res.cell; rfl; apply Known.at; apply FsAt.tail; apply FsAt.app; apply FsAt.head; exact Rd.whole rfl; apply ResL.cons; exact Res.tmp rfl; exact ResL.nil)) (List.nil_sublist _) (.inr ⟨fun h => hok h.1, rfl, rfl⟩)
  · have hpr : progL ⟨op, dst, self, frm, val, mv, gas, .slice p10 L.il.length c10, .slice p11 L.cl.length c11, pc, n, stat⟩ L pl = pl := if_neg h245
    rw [hpr]
    refine enter (args := [_, _]) _ [] [] Tryz.func22 rfl Tryz.ntmps22 rfl (by simp) .nil ?_
    (refine sRz ?_; apply LW.boxA; rfl; rfl; intro _; apply LW.allocA; rfl; intro _; refine vAz ?_; refine nNz ?_; refine CW.seq ?_; refine sRz ?_; refine vFz ?_; refine ldz rfl (.tail .head) cl_rd0 ?_; refine lvz (.eqF rfl rfl (by omega)) ?_; refine nNz ?_; refine cFz ?_; refine CW.skip ?_; refine thenN ?_; refine sRz ?_; refine vMz ?_; refine vFz ?_; refine ldz rfl (.tail .head) cl_rd9 ?_; refine vFz ?_; refine ldz rfl (.tail .head) cl_rd2 ?_; refine vFz ?_; refine ldz rfl (.tail .head) cl_rd3 ?_; refine vFz ?_; refine ldz rfl (.tail .head) cl_rd4 ?_; refine vFz ?_; refine ldz rfl (.tail .head) cl_rd10 ?_; refine vFz ?_; refine ldz rfl (.tail .head) cl_rd14 ?_; apply LW.v0; rfl; rfl; apply ValP.buildT; infer_instance; infer_instance; apply PartsOk.cons; rfl; apply PartsOk.cons; rfl; apply PartsOk.cons; rfl; apply PartsOk.cons; rfl; apply PartsOk.cons; rfl; apply PartsOk.cons; rfl; apply PartsOk.cons; rfl; exact PartsOk.nil; rfl; simp only [fillP, wrCells, fra, frc, wc, Value.cells, List.getElem?_cons_zero, List.getElem?_cons_succ, List.toList_toArray, List.setIfInBounds_toArray, List.set_cons_succ, List.set_cons_zero, List.cons_append, List.nil_append, Nat.reduceAdd, Nat.zero_add]; rfl)
    (apply LW.callR; rfl; rfl; infer_instance; exact .cons rfl .nil; intro w hs)
    exact callCopied_calls ⟨.slice pv pl.length cv, 0, .slice none 0 0, .slice none 0 0, gas, self, frm, val, .slice p10 L.il.length c10, .slice none 0 0, stat⟩ (staL L pl) ⟨hpl, by simp [staL], by simp [staL], hi, by simp [staL]⟩ w ⟨hv.st hs, .nil, .nil, h10.st hs, .nil⟩
    rintro vo go ⟨a, b, d, e, f, rfl, hfr⟩
    have hsl := hfr.sl
    by_cases hok : okC ⟨op, dst, self, frm, val, mv, gas, .slice p10 L.il.length c10, .slice p11 L.cl.length c11, pc, n, stat⟩ L
    · have hCc := hCc1 hok
      by_cases hs2 : ¬ self = 0 ∧ pl.length ≤ 200
      · have hFc : ∀ w' {fs : Fs}, St w [] fs w' → (∀ p ∈ go, p ∈ fs) → Calls Tryz.prog 31 #[frv (staF ⟨op, dst, self, frm, val, mv, gas, .slice p10 L.il.length c10, .slice p11 L.cl.length c11, pc, n, stat⟩ a b d e f)] w' (Ret w' (.int .i64 0)) := fun w' fs hst hm => by
          have h := fCheck_calls (staF ⟨op, dst, self, frm, val, mv, gas, .slice p10 L.il.length c10, .slice p11 L.cl.length c11, pc, n, stat⟩ a b d e f) (staL L pl) w' (hfr.st hst hm)
          rwa [if_pos ((okS_frame hok).2 hs2)] at h
        (apply LW.allocA; rfl; intro _; apply LW.store; rfl; rfl; apply SetAt.head; apply fr_wrW; rfl; assumption; refine nNz ?_; refine CW.seq ?_; refine sRz ?_; refine ldz rfl (.tail (.app (.tail .head))) cl_rdW ?_; apply LW.callE; rfl; rfl; infer_instance; exact .cons rfl .nil; intro w _; exact hCc w (by assumption); refine lvz (.neF rfl rfl (by omega)) ?_; refine vMz ?_; refine gTz ?_; refine ldz rfl .head fr_rdW ?_; refine gTz ?_; apply LW.callE; rfl; rfl; infer_instance; exact .cons rfl .nil; intro w _; exact hFc w (by assumption) (fun p hp => List.mem_cons_of_mem _ (List.mem_append_left _ hp)); refine gTz ?_; refine lvz (.neF rfl rfl (by omega)) ?_; refine pFz ?_; refine nNz ?_; refine cFz ?_; refine CW.skip ?_; refine thenN ?_; refine sRz ?_; refine ldz rfl .head fr_rdW ?_; apply LW.store; rfl; rfl; apply SetAt.tail; apply SetAt.app; apply SetAt.head; apply fr_wrW; rfl; assumption; refine vAz ?_; refine nNz ?_; refine CW.ret ?_)
        refine fin (vs := [frv (staF ⟨op, dst, self, frm, val, mv, gas, .slice p10 L.il.length c10, .slice p11 L.cl.length c11, pc, n, stat⟩ a b d e f), .int .i64 0]) go (.inl rfl) rfl rfl (by (apply ResL.cons; apply Res.cell; rfl; apply Known.at; apply FsAt.tail; apply FsAt.app; apply FsAt.head; exact fr_rdW; apply ResL.cons; exact Res.tmp rfl; exact ResL.nil)) ?_ (.inl ⟨⟨hok, hs2⟩, a, b, d, e, f, rfl, hfr⟩)
        exact List.Sublist.cons _ (List.sublist_append_left _ _)
      · have hFc : ∀ w' {fs : Fs}, St w [] fs w' → (∀ p ∈ go, p ∈ fs) → Calls Tryz.prog 31 #[frv (staF ⟨op, dst, self, frm, val, mv, gas, .slice p10 L.il.length c10, .slice p11 L.cl.length c11, pc, n, stat⟩ a b d e f)] w' (Ret w' (.int .i64 240)) := fun w' fs hst hm => by
          have h := fCheck_calls (staF ⟨op, dst, self, frm, val, mv, gas, .slice p10 L.il.length c10, .slice p11 L.cl.length c11, pc, n, stat⟩ a b d e f) (staL L pl) w' (hfr.st hst hm)
          rwa [if_neg (fun h => hs2 ((okS_frame hok).1 h))] at h
        (apply LW.allocA; rfl; intro _; apply LW.store; rfl; rfl; apply SetAt.head; apply fr_wrW; rfl; assumption; refine nNz ?_; refine CW.seq ?_; refine sRz ?_; refine ldz rfl (.tail (.app (.tail .head))) cl_rdW ?_; apply LW.callE; rfl; rfl; infer_instance; exact .cons rfl .nil; intro w _; exact hCc w (by assumption); refine lvz (.neF rfl rfl (by omega)) ?_; refine vMz ?_; refine gTz ?_; refine ldz rfl .head fr_rdW ?_; refine gTz ?_; apply LW.callE; rfl; rfl; infer_instance; exact .cons rfl .nil; intro w _; exact hFc w (by assumption) (fun p hp => List.mem_cons_of_mem _ (List.mem_append_left _ hp)); refine gTz ?_; refine lvz (.neT rfl rfl (by omega)) ?_; refine pFz ?_; refine nNz ?_; refine cTz ?_; refine sRz ?_; apply LW.v0; rfl; rfl; apply ValP.buildT; infer_instance; infer_instance; exact PartsOk.nil; rfl; simp only [fillP, wrCells, fra, frc, wc, Value.cells, List.getElem?_cons_zero, List.getElem?_cons_succ, List.toList_toArray, List.setIfInBounds_toArray, List.set_cons_succ, List.set_cons_zero, List.cons_append, List.nil_append, Nat.reduceAdd, Nat.zero_add]; rfl; refine LW.store rfl rfl (.tail (.app .head)) (.whole rfl rfl rfl) ?_; refine vAz ?_; refine nNz ?_; refine CW.ret ?_; refine thenR ?_)
        exact fin (vs := [frv zeroF, .int .i64 250]) [] (.inl rfl) rfl rfl (by (apply ResL.cons; apply Res.cell; rfl; apply Known.at; apply FsAt.tail; apply FsAt.app; apply FsAt.head; exact Rd.whole rfl; apply ResL.cons; exact Res.tmp rfl; exact ResL.nil)) (List.nil_sublist _) (.inr ⟨fun h => hs2 h.2, rfl, rfl⟩)
    · have hCc := hCc2 hok
      (apply LW.allocA; rfl; intro _; apply LW.store; rfl; rfl; apply SetAt.head; apply fr_wrW; rfl; assumption; refine nNz ?_; refine CW.seq ?_; refine sRz ?_; refine ldz rfl (.tail (.app (.tail .head))) cl_rdW ?_; apply LW.callE; rfl; rfl; infer_instance; exact .cons rfl .nil; intro w _; exact hCc w (by assumption); refine lvz (.neT rfl rfl (by omega)) ?_; refine vMz ?_; (iterate 3 refine gFz ?_); refine pTz ?_; refine nNz ?_; refine cTz ?_; refine sRz ?_; apply LW.v0; rfl; rfl; apply ValP.buildT; infer_instance; infer_instance; exact PartsOk.nil; rfl; simp only [fillP, wrCells, fra, frc, wc, Value.cells, List.getElem?_cons_zero, List.getElem?_cons_succ, List.toList_toArray, List.setIfInBounds_toArray, List.set_cons_succ, List.set_cons_zero, List.cons_append, List.nil_append, Nat.reduceAdd, Nat.zero_add]; rfl; refine LW.store rfl rfl (.tail (.app .head)) (.whole rfl rfl rfl) ?_; refine vAz ?_; refine nNz ?_; refine CW.ret ?_; refine thenR ?_)
      exact fin (vs := [frv zeroF, .int .i64 250]) [] (.inl rfl) rfl rfl (by (apply ResL.cons; apply Res.cell; rfl; apply Known.at; apply FsAt.tail; apply FsAt.app; apply FsAt.head; exact Rd.whole rfl; apply ResL.cons; exact Res.tmp rfl; exact ResL.nil)) (List.nil_sublist _) (.inr ⟨fun h => hok h.1, rfl, rfl⟩)
/-! ### The document's copy, and its start -/
section wr
variable {P : Program} {T E : TypeId} {code stk mem inp back z : Value} {pc : Int} {gas self frm val n c n2 c2 : Nat} {stat : Bool} {p p2 : Option Addr}
theorem fr_wr23 [InfoI P T 2 z] : Wr P T (.cells (fra ⟨code, pc, stk, mem, gas, self, frm, val, inp, back, stat⟩) E (0, 0)) (0 + 2) (.agg #[.slice p n c, .slice p2 n2 c2]) (.cells (fra ⟨code, pc, .slice p n c, .slice p2 n2 c2, gas, self, frm, val, inp, back, stat⟩) E (0, 0)) := Wr.cells (n := 2) (z := z) rfl rfl (by show 0 + 2 + 2 ≤ 14; omega) rfl
end wr
def rCopyR (f : FrV) (L : FrL) (v : Value) (gs : Fs) : Prop := ∃ c s m i b, v = frv (f.rows c s m i b) ∧ FrO (f.rows c s m i b) L gs ∧ (L.ws.length = 0 → ∃ p, s = .slice p 0 0)
theorem rfCopy_calls (f : FrV) (L : FrL) (hl : L.short) (w : World) (h : FrRows w f L) : Calls Tryz.prog 42 #[frv f] w (RetG w [] (rCopyR f L)) := by
  obtain ⟨code, pc, stk, mem, gas, self, frm, val, inp, back, stat⟩ := f
  obtain ⟨h0, h2, h3, h11, h12⟩ := h
  dsimp only at h0 h2 h3 h11 h12
  obtain ⟨p0, c0, rfl, _, hm0⟩ := id h0.form
  obtain ⟨p2, c2, rfl, _, hm2⟩ := id h2.form
  obtain ⟨p3, c3, rfl, _, hm3⟩ := id h3.form
  obtain ⟨p11, c11, rfl, _, hm11⟩ := id h11.form
  obtain ⟨p12, c12, rfl, _, hm12⟩ := id h12.form
  refine enter (args := [_]) _ [] [] Tryz.func42 rfl Tryz.ntmps42 rfl (by simp) .nil ?_
  (refine sRz ?_; apply LW.boxA; rfl; rfl; intro _; apply LW.allocA; rfl; intro _; refine nNz ?_; refine CW.seq ?_)
  rename_i b1 b2
  apply CW.pre
  (refine AnyW.anyM [(2, bM L.cl), (5, bM L.il), (8, bM L.bl)] 10 mixed (by decide +kernel) ?_)
  ((try simp only [tsOf_cons, tsOf_nil, tsOf_app]); refine dvz (.fieldAddr rfl rfl) ?_; apply DW.loadO; rfl; rfl; rfl; exact WantT.none; rfl; apply TRead.tail; apply TRead.head; exact ancB_nil; exact fr_rd0)
  (apply DW.manyV; rfl; rfl; rfl; exact WantT.none; rfl; infer_instance; exact .cons rfl (.cons rfl .nil); apply RdV.ext; assumption; rfl; apply RdV.plain; rfl; exact RdV.nil; intro w _ _)
  exact rBoth_calls _ _ w (h0.bel (by assumption)) hl.1
  intro v1 g1 h1
  ((try simp only [tsOf_cons, tsOf_nil, tsOf_app]); refine dvz (.fieldAddr rfl rfl) ?_; apply DW.loadO; rfl; rfl; rfl; exact WantT.none; rfl; apply TRead.app; apply TRead.tail; apply TRead.head; exact ancB_nil; exact fr_rd11)
  (apply DW.manyV; rfl; rfl; rfl; exact WantT.none; rfl; infer_instance; exact .cons rfl (.cons rfl .nil); apply RdV.ext; assumption; rfl; apply RdV.plain; rfl; exact RdV.nil; intro w _ _)
  exact rBoth_calls _ _ w (h11.bel (by assumption)) hl.2.2.2.1
  intro v4 g4 h4
  ((try simp only [tsOf_cons, tsOf_nil, tsOf_app]); refine dvz (.fieldAddr rfl rfl) ?_; apply DW.loadO; rfl; rfl; rfl; exact WantT.none; rfl; apply TRead.app; apply TRead.app; apply TRead.tail; apply TRead.head; exact ancB_nil; exact fr_rd12)
  (apply DW.manyV; rfl; rfl; rfl; exact WantT.none; rfl; infer_instance; exact .cons rfl (.cons rfl .nil); apply RdV.ext; assumption; rfl; apply RdV.plain; rfl; exact RdV.nil; intro w _ _)
  exact rBoth_calls _ _ w (h12.bel (by assumption)) hl.2.2.2.2
  intro v5 g5 h5
  have h1' := h1
  have h4' := h4
  have h5' := h5
  unfold bM at h1' h4' h5'
  obtain ⟨q1, k1, rfl⟩ := h1'.form
  obtain ⟨q4, k4, rfl⟩ := h4'.form
  obtain ⟨q5, k5, rfl⟩ := h5'.form
  ((try simp only [tsOf_cons, tsOf_nil, tsOf_app]); refine dvz (.fieldAddr rfl rfl) ?_; apply DW.nil; simp only [fsOf_cons, fsOf_nil, fsOf_app, fsOf_tsOf, fsOf_new, fsOf_tag])
  (refine LW.store rfl rfl (.app (.app (.app (.tail .head)))) fr_wr0 ?_; refine vFz ?_; refine LW.store rfl rfl (.app (.app (.app (.tail .head)))) fr_wr11 ?_; refine vFz ?_; refine LW.store rfl rfl (.app (.app (.app (.tail .head)))) fr_wr12 ?_; refine nSz ?_; refine vFz ?_; refine ldz rfl (.app (.app (.app (.tail .head)))) fr_rd2 ?_)
  (apply LW.callR; rfl; rfl; infer_instance; exact .cons rfl .nil; intro w hs)
  exact rScCopy_calls L.ws L.ms _ _ w (h2.st hs) (h3.st hs) hl.2.1 hl.2.2.1
  rintro vo gso ⟨s1, m1, g2, g3, rfl, rfl, hh2, hh3, h00⟩
  have h2' := hh2
  have h3' := hh3
  unfold wM at h2'
  unfold bM at h3'
  obtain ⟨q2, k2, rfl⟩ := h2'.form
  obtain ⟨q3, k3, rfl⟩ := h3'.form
  rw [List.append_assoc]
  have hsl : FrSl ⟨.slice q1 L.cl.length k1, pc, .slice q2 L.ws.length k2, .slice q3 L.ms.length k3, gas, self, frm, val, .slice q4 L.il.length k4, .slice q5 L.bl.length k5, stat⟩ := ⟨⟨_, _, _, rfl⟩, ⟨_, _, _, rfl⟩, ⟨_, _, _, rfl⟩, ⟨_, _, _, rfl⟩, ⟨_, _, _, rfl⟩⟩
  (refine vFz ?_; refine LW.store rfl rfl (.app (.app (.app (.app (.app (.tail .head)))))) fr_wr23 ?_; refine nSz ?_; refine ldz rfl (.app (.app (.app (.app (.app (.tail .head)))))) fr_rdW ?_; apply LW.store; rfl; rfl; apply SetAt.app; apply SetAt.app; apply SetAt.app; apply SetAt.app; apply SetAt.app; apply SetAt.head; apply fr_wrW; rfl; assumption; refine nNz ?_; refine CW.ret ?_)
  refine fin (vs := [frv ⟨.slice q1 L.cl.length k1, pc, .slice q2 L.ws.length k2, .slice q3 L.ms.length k3, gas, self, frm, val, .slice q4 L.il.length k4, .slice q5 L.bl.length k5, stat⟩]) (g3 ++ (g2 ++ (g5 ++ (g4 ++ g1)))) (.inl rfl) rfl rfl (by (apply ResL.cons; apply Res.cell; rfl; apply Known.at; apply FsAt.app; apply FsAt.app; apply FsAt.app; apply FsAt.app; apply FsAt.app; apply FsAt.head; exact fr_rdW; exact ResL.nil)) ?_ ⟨_, _, _, _, _, rfl, ⟨g1, g2, g3, g4, g5, perm5 g1 g2 g3 g4 g5, h1, hh2, hh3, h4, h5⟩, h00⟩
  exact List.Sublist.append_left (List.Sublist.append_left (List.Sublist.append_left (List.Sublist.append_left (List.sublist_append_left _ _) _) _) _) _
end Go.Proofs.YtpgdnfgjbhdbpaaGreatDoor

/-
  The ends of calls.
  Conditions: none.
-/
namespace Go.Proofs.YtpgdnfgjbhdbpaaGreatDoor
open Go Go.RowKit SL
set_option maxRecDepth 8000
set_option maxHeartbeats 4000000
set_option linter.unusedSimpArgs false
set_option linter.unusedVariables false
attribute [local irreducible] SL.CW SL.LW SL.DW Calls SL.Ret SL.RetG SL.beginQ SL.roundQ SL.rangeQ SL.inQ SL.RW SL.AnyW SL.thenQ SL.thenC SL.thenW SL.blkQ SL.finQ SL.ValP SL.NewP SL.SetP SL.CallP SL.Rd SL.Wr SL.Known
/-- The word that a call's end lays. -/
def laidW (c : ClV) (ok : Bool) : Nat := if ok = false then 0 else if c.op = 245 then c.dst else 1
theorem laid_calls (c : ClV) (ok : Bool) (hd : c.dst < 18446744073709551616) (w : World) (hsl : ∃ p n q p2 n2 q2, c.inp = .slice p n q ∧ c.code = .slice p2 n2 q2) : Calls Tryz.prog 40 #[clv c, .bool ok] w (Ret w (wv (laidW c ok))) := by
  obtain ⟨op, dst, self, frm, val, mv, gas, inp, code, pl, n, stat⟩ := c
  obtain ⟨p, nn, q, p2, n2, q2, rfl, rfl⟩ := hsl
  dsimp only at hd
  unfold laidW
  cases ok with
  | false =>
    rw [if_pos rfl]
    refine enter (args := [_, _]) _ [] [] Tryz.func40 rfl Tryz.ntmps40 rfl (by simp) .nil ?_
    (refine sRz ?_; apply LW.boxA; rfl; rfl; intro _; apply LW.allocW; rfl; intro _; refine nNz ?_; refine CW.seq ?_; refine CW.block ?_; refine sRz ?_; refine vMz ?_; refine lvz (.notF rfl (by with_reducible rfl)) ?_; refine vAz ?_; refine nNz ?_; refine cTz ?_; refine sRz ?_; apply LW.v0; rfl; rfl; exact ValP.buildW0; refine LW.store rfl rfl .head (.whole rfl rfl rfl) ?_; refine nNz ?_; refine CW.ret ?_; refine blkR ?_; refine thenR ?_)
    (apply finR; exact .inl rfl; rfl; rfl; rfl; apply ResL.cons; apply Res.cell; rfl; apply Known.at; apply FsAt.head; exact Rd.whole rfl; exact ResL.nil)
    rfl
  | true =>
    rw [if_neg (fun h => by cases h)]
    by_cases h245 : op = 245
    · rw [if_pos h245]
      refine enter (args := [_, _]) _ [] [] Tryz.func40 rfl Tryz.ntmps40 rfl (by simp) .nil ?_
      (refine sRz ?_; apply LW.boxA; rfl; rfl; intro _; apply LW.allocW; rfl; intro _; refine nNz ?_; refine CW.seq ?_; refine CW.block ?_; refine sRz ?_; refine vMz ?_; refine lvz (.notT rfl (by with_reducible rfl)) ?_; refine vAz ?_; refine nNz ?_; refine cFz ?_; refine sRz ?_; refine vFz ?_; refine ldz rfl (.tail .head) cl_rd0 ?_; refine lvz (.eqT rfl rfl (by omega)) ?_; refine vAz ?_; refine nNz ?_; refine cTz ?_; refine sRz ?_; refine vFz ?_; refine ldz rfl (.tail .head) cl_rd1 ?_; apply LW.callE; rfl; rfl; infer_instance; exact .cons rfl .nil; intro w _; exact aWord_calls _ hd w; refine LW.store rfl rfl .head (.whole rfl rfl rfl) ?_; refine nNz ?_; refine CW.ret ?_; refine blkR ?_; refine thenR ?_)
      (apply finR; exact .inl rfl; rfl; rfl; rfl; apply ResL.cons; apply Res.cell; rfl; apply Known.at; apply FsAt.head; exact Rd.whole rfl; exact ResL.nil)
      rfl
    · rw [if_neg h245]
      refine enter (args := [_, _]) _ [] [] Tryz.func40 rfl Tryz.ntmps40 rfl (by simp) .nil ?_
      (refine sRz ?_; apply LW.boxA; rfl; rfl; intro _; apply LW.allocW; rfl; intro _; refine nNz ?_; refine CW.seq ?_; refine CW.block ?_; refine sRz ?_; refine vMz ?_; refine lvz (.notT rfl (by with_reducible rfl)) ?_; refine vAz ?_; refine nNz ?_; refine cFz ?_; refine sRz ?_; refine vFz ?_; refine ldz rfl (.tail .head) cl_rd0 ?_; refine lvz (.eqF rfl rfl (by omega)) ?_; refine vAz ?_; refine nNz ?_; refine cFz ?_; refine CW.skip ?_; refine blkN ?_; refine thenN ?_; refine sRz ?_; apply LW.callE; rfl; rfl; infer_instance; exact .cons rfl .nil; intro w _; exact Of_calls 1 (by decide) w; refine LW.store rfl rfl .head (.whole rfl rfl rfl) ?_; refine nNz ?_; refine CW.ret ?_)
      (apply finR; exact .inl rfl; rfl; rfl; rfl; apply ResL.cons; apply Res.cell; rfl; apply Known.at; apply FsAt.head; exact Rd.whole rfl; exact ResL.nil)
      rfl
/-! ### A call's end -/
def ova (ok : Bool) (left : Nat) (out : Value) : Array Value := #[.bool ok, .int .u64 (left : Int), out]
section rd
variable {P : Program} {T E : TypeId} {fr : Nat × Nat} {ok : Bool} {left : Nat} {out : Value}
theorem ov_rd0 [AgI P T false] : Rd P T (.cells (ova ok left out) E fr) 0 (.bool ok) := Rd.one rfl
theorem ov_rd1 [AgI P T false] : Rd P T (.cells (ova ok left out) E fr) 1 (.int .u64 (left : Int)) := Rd.one rfl
theorem ov_rd2 [AgI P T false] : Rd P T (.cells (ova ok left out) E fr) 2 out := Rd.one rfl
end rd
/-- May such a call's end come to such a frame? -/
def okE (f : FrV) (L : FrL) (c : ClV) (M : ClL) (left : Nat) (l : List UInt8) : Prop := okF f L ∧ okC c M ∧ (left ≤ c.gas ∧ l.length ≤ 1024 ∧ f.gas + left ≤ 20000 ∧ c.pl + c.n ≤ L.ms.length) ∧ L.ws.length < 64
instance (f : FrV) (L : FrL) (c : ClV) (M : ClL) (left : Nat) (l : List UInt8) : Decidable (okE f L c M left l) := by unfold okE; infer_instance
/-- Bytes with others laid over them. -/
def overL (ms : List UInt8) (pl : Nat) (l : List UInt8) : List UInt8 := ms.take pl ++ (l ++ ms.drop (pl + l.length))
def endL (L : FrL) (c : ClV) (ok : Bool) (l : List UInt8) : FrL := ⟨L.cl, L.ws ++ [laidW c ok], overL L.ms c.pl (l.take c.n), L.il, if c.op = 245 ∧ ok = true then [] else l⟩
def EndR (f : FrV) (L : FrL) (c : ClV) (M : ClL) (ok : Bool) (left : Nat) (l : List UInt8) (v : Value) (gs : Fs) : Prop :=
  (okE f L c M left l ∧ ∃ a s m i b, v = .tuple #[frv (f.rowsG (f.gas + left) a s m i b), .bool true] ∧ FrO (f.rowsG (f.gas + left) a s m i b) (endL L c ok l) gs) ∨ (¬ okE f L c M left l ∧ v = .tuple #[frv zeroF, .bool false] ∧ gs = [])
theorem blocks_frv {f : FrV} (h : FrSl f) : blocksN 4 (frv f) = [f.code, f.stk, f.mem, f.inp, f.back].flatMap (blocksN 4) := by
  show (frc f).flatMap (blocksN 3) = _
  have e : ∀ (k : IntKind) (n : Int), blocksN 3 (.int k n) = [] := fun _ _ => rfl
  have e2 : ∀ b : Bool, blocksN 3 (.bool b) = [] := fun _ => rfl
  simp only [frc, wc, List.flatMap_cons, List.flatMap_nil, List.cons_append, List.nil_append, e, e2, List.append_nil, blocks_sl h.c, blocks_sl h.s, blocks_sl h.m, blocks_sl h.i, blocks_sl h.b]
theorem blocks_clv {c : ClV} (h1 : ∃ p n q, c.inp = .slice p n q) (h2 : ∃ p n q, c.code = .slice p n q) : blocksN 4 (clv c) = [c.inp, c.code].flatMap (blocksN 4) := by
  show (clc c).flatMap (blocksN 3) = _
  have e : ∀ (k : IntKind) (n : Int), blocksN 3 (.int k n) = [] := fun _ _ => rfl
  have e2 : ∀ b : Bool, blocksN 3 (.bool b) = [] := fun _ => rfl
  simp only [clc, wc, List.flatMap_cons, List.flatMap_nil, List.cons_append, List.nil_append, e, e2, List.append_nil, blocks_sl h1, blocks_sl h2]
theorem RowAt.cutMax {w : World} {sz n c k : Nat} {p : Option Addr} {xs : List Value} (h : RowAt w sz (.slice p n c) n xs) (hk : k ≤ n) : RowAt w sz (.slice p k k) k (xs.take (k * sz)) := by
  have h1 := h.take hk
  obtain ⟨_, _, he, hle, hmx⟩ := h.form
  cases he
  refine ⟨⟨_, _, rfl, Nat.le_refl _, by omega⟩, h1.len, fun h0 => ?_, fun p' n' c' he => ?_⟩
  · obtain ⟨b, off, c2, cs, E, fr, he, hb, hx⟩ := h1.pos h0
    cases he
    exact ⟨b, off, k, cs, E, fr, rfl, hb, hx⟩
  · cases he
    rcases Nat.eq_zero_or_pos k with h0 | h0
    · exact .inr (.inl h0)
    · rcases h1.lies _ _ _ rfl with h2 | h2 | h2
      · exact .inl h2
      · omega
      · exact .inr (.inr h2)
theorem take_over {α : Type} (A X : List α) (p N : Nat) (h : p + X.length ≤ N) (hA : N ≤ A.length) : (A.take p ++ X ++ A.drop (p + X.length)).take N = (A.take N).take p ++ (X ++ (A.take N).drop (p + X.length)) := by
  rw [List.append_assoc, List.take_append, List.take_append, List.drop_take, List.take_take, List.take_take, List.length_take]
  rw [show min p A.length = p by omega, show min N p = p by omega, show min p N = p by omega, List.take_of_length_le (show X.length ≤ N - p by omega), show N - p - X.length = N - (p + X.length) by omega]
theorem ucs_over (ms X : List UInt8) (p : Nat) : (ucs ms).take p ++ (ucs X ++ (ucs ms).drop (p + (ucs X).length)) = ucs (overL ms p X) := by
  unfold overL
  rw [ucs_app, ucs_app, ← ucs_take, ← ucs_drop, Nat.mul_one, Nat.mul_one, ucs_len]
theorem perm4 {α : Type} (g1 g2 g3 g4 : List α) : (g1 ++ (g2 ++ (g3 ++ (g4 ++ [])))).Perm (g3 ++ (g1 ++ (g2 ++ (g4 ++ [])))) := by
  have h := perm_ix [g1, g2, g3, g4] (xs := [0, 1, 2, 3]) (ys := [2, 0, 1, 3]) [] rfl
  simpa [catI] using h
theorem perm6 {α : Type} (g1 g2 g3 g4 g6 : List α) : (g1 ++ (g2 ++ (g3 ++ (g4 ++ g6)))).Perm (g6 ++ (g3 ++ (g1 ++ (g2 ++ (g4 ++ []))))) := by
  have h := perm_ix [g1, g2, g3, g4, g6] (xs := [0, 1, 2, 3, 4]) (ys := [4, 2, 0, 1, 3]) [] rfl
  simpa [catI] using h
theorem callEnd_calls (f : FrV) (L : FrL) (c : ClV) (M : ClL) (ok : Bool) (left : Nat) (l : List UInt8) (hd : c.dst < 18446744073709551616) (hleft : left < 18446744073709551616) (out : Value) (w : World) (hf : FrRows w f L) (hc : ClRows w c M) (ho : RowAt w 1 out l.length (ucs l)) :
    Calls Tryz.prog 13 #[frv f, clv c, .agg (ova ok left out)] w (RetG w [] (EndR f L c M ok left l)) := by
  have hf0 := hf
  have hc0 := hc
  have hsl0 := hf.sl
  have hFc0 := fun w' {fs : Fs} (hst : St w [] fs w') => fCheck_calls f L w' (hf0.st hst)
  have hCc0 := fun w' {fs : Fs} (hst : St w [] fs w') => callCheck_calls c M w' (hc0.st hst)
  obtain ⟨pc, cc, hcv, _, _⟩ := id hc.i.form
  obtain ⟨pc2, cc2, hcv2, _, _⟩ := id hc.c.form
  have hLd := fun w => laid_calls c ok hd w ⟨_, _, _, _, _, _, hcv, hcv2⟩
  have hzs := zero_sl
  obtain ⟨po, co, rfl, _, hmo⟩ := id ho.form
  simp only [maxLen] at hmo
  by_cases hF : okF f L
  · have hFc : ∀ w' {fs : Fs}, St w [] fs w' → Calls Tryz.prog 31 #[frv f] w' (Ret w' (.int .i64 0)) := fun w' fs hst => by have h := hFc0 w' hst; rwa [if_pos hF] at h
    by_cases hC : okC c M
    · have hCc : ∀ w' {fs : Fs}, St w [] fs w' → Calls Tryz.prog 19 #[clv c] w' (Ret w' (.int .i64 0)) := fun w' fs hst => by have h := hCc0 w' hst; rwa [if_pos hC] at h
      have hb1 := hF.1.2.2
      have hb2 := hC.2.1.1
      have hb3 := hC.2.2.1.2.1
      obtain ⟨p3, c3, hmv, _, hm3⟩ := id hf.m.form
      simp only [maxLen] at hm3
      have hmem : ∀ {E fr}, Rd Tryz.prog 22 (.cells (fra f) E fr) 3 (.slice p3 L.ms.length c3) := fun {E fr} => by rw [← hmv]; exact fr_rd3
      refine enter (args := [_, _, _]) _ [] [] Tryz.func13 rfl Tryz.ntmps13 rfl (by simp) .nil ?_
      (refine sRz ?_; apply LW.boxA; rfl; rfl; intro _; apply LW.boxA; rfl; rfl; intro _; apply LW.boxA; rfl; rfl; intro _; apply LW.allocA; rfl; intro _; refine vAz ?_; refine nNz ?_; refine CW.seq ?_; refine sRz ?_; refine ldz rfl (.tail (.tail (.tail .head))) fr_rdW ?_; apply LW.callE; rfl; rfl; infer_instance; exact .cons rfl .nil; intro w _; exact hFc w (by assumption); refine lvz (.neF rfl rfl (by omega)) ?_; refine vMz ?_; refine gTz ?_; refine ldz rfl (.tail (.tail .head)) cl_rdW ?_; refine gTz ?_; apply LW.callE; rfl; rfl; infer_instance; exact .cons rfl .nil; intro w _; exact hCc w (by assumption); refine gTz ?_; refine lvz (.neF rfl rfl (by omega)) ?_; refine pFz ?_; refine vMz ?_; refine gTz ?_; refine vFz ?_; refine gTz ?_; refine ldz rfl (.tail .head) ov_rd1 ?_; refine gTz ?_; refine vFz ?_; refine gTz ?_; refine ldz rfl (.tail (.tail .head)) cl_rd9 ?_; refine gTz ?_; refine lvz (.gtr rfl rfl) ?_; refine pFz ?_; refine vMz ?_)
      rename_i b3 b4 b5 b6
      refine LW.cut [(52, .bool (decide (¬ (left ≤ c.gas ∧ l.length ≤ 1024 ∧ f.gas + left ≤ 20000 ∧ c.pl + c.n ≤ L.ms.length)))), (3, .pointer (some ⟨b3, 0, none⟩)), (4, .pointer (some ⟨b4, 0, none⟩)), (5, .pointer (some ⟨b5, 0, none⟩)), (6, .pointer (some ⟨b6, 0, none⟩)), (7, .bool false)] [(b6, .cells (fra zeroF) 31 (0, 0)), (b5, .cells (ova ok left (.slice po l.length co)) 39 (0, 0)), (b4, .cells (cla c) 33 (0, 0)), (b3, .cells (fra f) 31 (0, 0))] ?_ ?_
      · by_cases hA : left ≤ c.gas ∧ l.length ≤ 1024 ∧ f.gas + left ≤ 20000 ∧ c.pl + c.n ≤ L.ms.length
        · rw [decide_eq_false (fun h => h hA)]
          (refine cFz ?_; refine CW.skip ?_; refine thenN ?_; refine CW.seq ?_)
          apply CW.pre
          (refine AnyW.anyM [(6, ToldR f (tellR f L 0 [laidW c ok]))] 12 mixed (by decide +kernel) ?_)
          ((try simp only [tsOf_cons, tsOf_nil, tsOf_app]); apply DW.loadO; rfl; rfl; rfl; exact WantT.none; rfl; apply TRead.tail; apply TRead.tail; apply TRead.tail; apply TRead.head; exact ancB_nil; exact fr_rdW; apply DW.loadO; rfl; rfl; rfl; exact WantT.none; rfl; apply TRead.tail; apply TRead.tail; apply TRead.head; exact ancB_nil; exact cl_rdW; refine dvz (.fieldAddr rfl rfl) ?_; apply DW.loadO; rfl; rfl; rfl; exact WantT.none; rfl; apply TRead.tail; apply TRead.head; exact ancB_nil; exact ov_rd0)
          refine DW.callW (vs' := [c.inp, c.code]) rfl rfl rfl (by (exact WantT.none)) rfl inferInstance (by (exact .cons rfl (.cons rfl .nil))) (by rw [List.flatMap_cons, blocks_clv ⟨_, _, _, hcv⟩ ⟨_, _, _, hcv2⟩]; exact List.append_nil _) (.ext hc0.i rfl (.ext hc0.c rfl .nil)) (fun w _ _ => hLd w) ?_
          ((try simp only [tsOf_cons, tsOf_nil, tsOf_app]); apply DW.layA; rfl; rfl; rfl; exact WantT.none; infer_instance; infer_instance; rfl; rfl; rfl; rfl; rfl; intro _)
          rename_i bS
          refine DW.manyW (vs' := [f.code, f.stk, f.mem, f.inp, f.back, .slice (some ⟨bS, 0, none⟩) 1 1]) rfl rfl rfl (by (exact WantT.none)) rfl inferInstance (by (exact .cons rfl (.cons rfl (.cons rfl .nil)))) (by rw [List.flatMap_cons, blocks_frv hsl0, show ([f.code, f.stk, f.mem, f.inp, f.back, .slice (some ⟨bS, 0, none⟩) 1 1] : List Value) = [f.code, f.stk, f.mem, f.inp, f.back] ++ [.slice (some ⟨bS, 0, none⟩) 1 1] from rfl, List.flatMap_append]; rfl) (.ext hf0.c rfl (.ext hf0.s rfl (.ext hf0.m rfl (.ext hf0.i rfl (.ext hf0.b rfl (.own (by decide) (by (apply TRead.head; kernel_rfl)) .nil)))))) (fun w hb hu => ?_) ?_
          · have h := Tell_calls f L 0 [laidW c ok] _ (by simp) w (row_cells (hu (bS, _) List.mem_cons_self) rfl rfl (by simp [maxLen])) (hf0.bel hb)
            rw [if_pos hF] at h
            exact h
          intro vT gT hT
          by_cases hW : L.ws.length < 64
          · have hR : tellR f L 0 [laidW c ok] = some (f.gas - 0, L.setW (L.ws ++ [laidW c ok])) := by unfold tellR; exact if_pos ⟨Nat.zero_le _, by simp; omega⟩
            rw [hR, Nat.sub_zero] at hT
            obtain ⟨a1, s1, m1, i1, x1, rfl, hfr1⟩ := hT
            have hsl1 := hfr1.sl
            ((try simp only [tsOf_cons, tsOf_nil, tsOf_app]); refine dvz (.move rfl) ?_; refine dvz (.extractN rfl rfl) ?_; refine dvz (.extractN rfl rfl) ?_; apply DW.allocA; rfl; rfl; rfl; exact WantT.none; intro _; apply DW.store; rfl; rfl; exact WantT.none; rfl; rfl; apply TSet.head; kernel_rfl; exact ancB_nil; apply fr_wrW; rfl; assumption; apply DW.nil; simp only [fsOf_cons, fsOf_nil, fsOf_app, fsOf_tsOf, fsOf_new])
            (refine vAz ?_; refine nNz ?_; refine CW.seq ?_; refine sRz ?_; refine vMz ?_; refine lvz (.notT rfl (by with_reducible rfl)) ?_; refine nNz ?_; refine cFz ?_; refine CW.skip ?_; refine thenN ?_; refine sRz ?_; refine ldz rfl .head fr_rdW ?_)
            (apply LW.callR; rfl; rfl; infer_instance; exact .cons rfl .nil; intro w hs)
            exact callCopied_calls (f.rowsG f.gas a1 s1 m1 i1 x1) (L.setW (L.ws ++ [laidW c ok])) ⟨hF.short.1, by simp [FrL.setW]; omega, hF.short.2.2.1, hF.short.2.2.2.1, hF.short.2.2.2.2⟩ w (hfr1.st hs (fun p hp => List.mem_cons_of_mem _ (List.mem_append_left _ hp)))
            rintro vo go2 ⟨c2, s2, m2, i2, x2, rfl, hfr2⟩
            change LW _ _ _ _ ((68, frv ⟨c2, f.pc, s2, m2, f.gas, f.self, f.frm, f.val, i2, x2, f.stat⟩) :: _) _
            have hsl2 : FrSl ⟨c2, f.pc, s2, m2, f.gas, f.self, f.frm, f.val, i2, x2, f.stat⟩ := hfr2.sl
            obtain ⟨g1, g2, g3, g4, g5, hp, k1, k2, k3, k4, k5⟩ := hfr2
            rename_i b8
            refine LW.perm (fs' := (g1 ++ (g2 ++ (g3 ++ (g4 ++ g5)))) ++ ((b8, .cells (fra (f.rowsG f.gas a1 s1 m1 i1 x1)) 31 (0, 0)) :: (gT ++ [(bS, .cells (wc (laidW c ok)) 29 (0, 0)), (b6, .cells (fra zeroF) 31 (0, 0)), (b5, .cells (ova ok left (.slice po l.length co)) 39 (0, 0)), (b4, .cells (cla c) 33 (0, 0)), (b3, .cells (fra f) 31 (0, 0))]))) (hp.append_right _) ?_
            refine LW.subP (fs' := (b8, .cells (fra (f.rowsG f.gas a1 s1 m1 i1 x1)) 31 (0, 0)) :: (b6, .cells (fra zeroF) 31 (0, 0)) :: (b5, .cells (ova ok left (.slice po l.length co)) 39 (0, 0)) :: (b4, .cells (cla c) 33 (0, 0)) :: (g3 ++ (g1 ++ (g2 ++ (g4 ++ []))))) ?_ ?_
            · simp only [List.append_assoc, List.cons_append, List.nil_append]
              exact subp_ix [g1, g2, g3, g4, g5, [_], gT, [_], [_], [_], [_], [_]] (xs := [5, 8, 9, 10, 2, 0, 1, 3]) (ys := [0, 1, 2, 3, 4, 5, 6, 7, 8, 9, 10, 11]) [] rfl
            unfold bM at k3
            change IsRow _ 1 m2 L.ms.length (ucs L.ms) g3 at k3
            obtain ⟨q3, kc3, rfl⟩ := id k3.form
            have hle3 := IsRow.le k3
            have hgas : (f.gas + left) % 18446744073709551616 = f.gas + left := Nat.mod_eq_of_lt (by omega)
            (apply LW.store; rfl; rfl; apply SetAt.head; apply fr_wrW; rfl; assumption; refine nSz ?_; refine vFz ?_; refine ldz rfl .head fr_rd4 ?_; refine vFz ?_; refine ldz rfl (.tail (.tail .head)) ov_rd1 ?_; refine lvz (.addN rfl rfl) ?_; refine vFz ?_; apply LW.store; rfl; rfl; apply SetAt.head; apply fr_wr4 (z := .int .u64 0); refine nSz ?_; refine vFz ?_; refine ldz rfl (.tail (.tail (.tail .head))) cl_rd13 ?_; refine vFz ?_; refine ldz rfl (.tail (.tail .head)) ov_rd2 ?_; refine lvz (.lenR rfl inferInstance rfl) ?_; refine lvz (.convN rfl (by omega) (by omega)) ?_; refine lvz (.minZ rfl rfl) ?_; refine vAz ?_; refine nNz ?_; refine CW.seq ?_)
            rw [hgas]
            rcases Nat.eq_zero_or_pos (min c.n l.length) with hz | hz
            · have hov : overL L.ms c.pl (l.take c.n) = L.ms := by
                have h1 : l.take c.n = [] := List.eq_nil_of_length_eq_zero (by rw [List.length_take]; exact hz)
                unfold overL
                rw [h1]
                simp
              apply CW.pre
              (refine AnyW.any 11 mixed (by decide +kernel) ?_)
              ((try simp only [tsOf_cons, tsOf_nil, tsOf_app]); refine dvz (.fieldAddr rfl rfl) ?_; refine dvz (.fieldAddr rfl rfl) ?_; apply DW.loadO; rfl; rfl; rfl; exact WantT.none; rfl; apply TRead.head; exact ancB_nil; exact fr_rd3; refine dvz (.fieldAddr rfl rfl) ?_; apply DW.loadO; rfl; rfl; rfl; exact WantT.none; rfl; apply TRead.tail; apply TRead.tail; apply TRead.tail; apply TRead.head; exact ancB_nil; exact cl_rd12; refine dvz (.cutFrom inferInstance inferInstance rfl rfl (by omega)) ?_; refine dvz (.fieldAddr rfl rfl) ?_; apply DW.loadO; rfl; rfl; rfl; exact WantT.none; rfl; apply TRead.tail; apply TRead.tail; apply TRead.head; exact ancB_nil; exact ov_rd2; refine dvz (.move rfl) ?_; refine dvz (.move rfl) ?_; apply DW.v0; rfl; rfl; rfl; exact WantT.none; rfl; apply ValP.cutMax; infer_instance; infer_instance; rfl; rfl; rfl; omega; omega; apply DW.nil; simp only [fsOf_cons, fsOf_nil, fsOf_app, fsOf_tsOf, fsOf_new])
              (apply LW.copyNone; rfl; rfl; infer_instance; infer_instance; infer_instance; rfl; rfl; (rw [hz]; exact Nat.zero_min _))
              (refine nNz ?_; refine CW.seq ?_; refine sRz ?_; refine vFz ?_; refine ldz rfl (.tail (.tail .head)) ov_rd2 ?_)
              (apply LW.callR; rfl; rfl; infer_instance; exact .cons rfl .nil; intro w hs)
              exact SK.Clone_calls l _ w (ho.st hs) (by omega)
              intro x3 g6 k6
              have k6' := k6
              obtain ⟨q6, kc6, rfl⟩ := k6'.form
              have hsl3 : ∀ p n q, FrSl ⟨c2, f.pc, s2, .slice q3 L.ms.length kc3, f.gas + left, f.self, f.frm, f.val, i2, .slice p n q, f.stat⟩ := fun p n q => ⟨hsl2.c, hsl2.s, ⟨_, _, _, rfl⟩, hsl2.i, ⟨_, _, _, rfl⟩⟩
              by_cases h245 : c.op = 245
              · cases ok with
                | true =>
                  have hbk : (if c.op = 245 ∧ true = true then [] else l) = ([] : List UInt8) := if_pos ⟨h245, rfl⟩
                  (refine vFz ?_; refine LW.store rfl rfl (.app .head) fr_wr12 ?_; refine nSz ?_; refine vFz ?_; refine ldz rfl (.app (.tail (.tail (.tail .head)))) cl_rd0 ?_; refine lvz (.eqT rfl rfl (by omega)) ?_; refine vMz ?_; refine gTz ?_; refine vFz ?_; refine gTz ?_; refine ldz rfl (.app (.tail (.tail .head))) ov_rd0 ?_; refine pTz ?_; refine nNz ?_; refine cTz ?_; refine CW.region ?_; refine vFz ?_; refine LW.store rfl rfl (.app .head) fr_wr12 ?_; refine nSz ?_; refine ldz rfl (.app .head) fr_rdW ?_; apply LW.store; rfl; rfl; apply SetAt.app; apply SetAt.tail; apply SetAt.head; apply fr_wrW; rfl; exact hsl3 _ _ _; refine vAz ?_; refine nNz ?_; refine CW.ret ?_)
                  refine fin (vs := [frv ⟨c2, f.pc, s2, .slice q3 L.ms.length kc3, f.gas + left, f.self, f.frm, f.val, i2, .slice none 0 0, f.stat⟩, .bool true]) (g3 ++ (g1 ++ (g2 ++ (g4 ++ [])))) (.inl rfl) rfl rfl (by (apply ResL.cons; apply Res.cell; rfl; apply Known.at; apply FsAt.app; apply FsAt.tail; apply FsAt.head; exact fr_rdW; apply ResL.cons; exact Res.tmp rfl; exact ResL.nil)) ?_ (.inl ⟨⟨hF, hC, hA, hW⟩, _, _, _, _, _, rfl, g1, g2, g3, g4, [], perm4 _ _ _ _, k1, k2, ?_, k4, ?_⟩)
                  · exact List.Sublist.trans (List.Sublist.cons _ (List.Sublist.cons _ (List.Sublist.cons _ (List.sublist_cons_self _ _)))) (List.sublist_append_right _ _)
                  · unfold endL bM; dsimp only; rw [hov]; exact k3
                  · unfold endL bM; dsimp only; rw [hbk]; exact .nil
                | false =>
                  have hbk : (if c.op = 245 ∧ false = true then [] else l) = l := if_neg (fun h => by cases h.2)
                  (refine vFz ?_; refine LW.store rfl rfl (.app .head) fr_wr12 ?_; refine nSz ?_; refine vFz ?_; refine ldz rfl (.app (.tail (.tail (.tail .head)))) cl_rd0 ?_; refine lvz (.eqT rfl rfl (by omega)) ?_; refine vMz ?_; refine gTz ?_; refine vFz ?_; refine gTz ?_; refine ldz rfl (.app (.tail (.tail .head))) ov_rd0 ?_; refine pTz ?_; refine nNz ?_; refine cFz ?_; refine CW.skip ?_; refine thenN ?_; refine sRz ?_; refine ldz rfl (.app .head) fr_rdW ?_; apply LW.store; rfl; rfl; apply SetAt.app; apply SetAt.tail; apply SetAt.head; apply fr_wrW; rfl; exact hsl3 _ _ _; refine vAz ?_; refine nNz ?_; refine CW.ret ?_)
                  refine fin (vs := [frv ⟨c2, f.pc, s2, .slice q3 L.ms.length kc3, f.gas + left, f.self, f.frm, f.val, i2, .slice q6 l.length kc6, f.stat⟩, .bool true]) (g6 ++ (g3 ++ (g1 ++ (g2 ++ (g4 ++ []))))) (.inl rfl) rfl rfl (by (apply ResL.cons; apply Res.cell; rfl; apply Known.at; apply FsAt.app; apply FsAt.tail; apply FsAt.head; exact fr_rdW; apply ResL.cons; exact Res.tmp rfl; exact ResL.nil)) ?_ (.inl ⟨⟨hF, hC, hA, hW⟩, _, _, _, _, _, rfl, g1, g2, g3, g4, g6, perm6 _ _ _ _ _, k1, k2, ?_, k4, ?_⟩)
                  · exact List.Sublist.append_left (List.Sublist.cons _ (List.Sublist.cons _ (List.Sublist.cons _ (List.sublist_cons_self _ _)))) _
                  · unfold endL bM; dsimp only; rw [hov]; exact k3
                  · unfold endL bM; dsimp only; rw [hbk]; exact k6
              · have hbk : (if c.op = 245 ∧ ok = true then [] else l) = l := if_neg (fun h => h245 h.1)
                (refine vFz ?_; refine LW.store rfl rfl (.app .head) fr_wr12 ?_; refine nSz ?_; refine vFz ?_; refine ldz rfl (.app (.tail (.tail (.tail .head)))) cl_rd0 ?_; refine lvz (.eqF rfl rfl (by omega)) ?_; refine vMz ?_; refine gFz ?_; refine gFz ?_; refine pFz ?_; refine nNz ?_; refine cFz ?_; refine CW.skip ?_; refine thenN ?_; refine sRz ?_; refine ldz rfl (.app .head) fr_rdW ?_; apply LW.store; rfl; rfl; apply SetAt.app; apply SetAt.tail; apply SetAt.head; apply fr_wrW; rfl; exact hsl3 _ _ _; refine vAz ?_; refine nNz ?_; refine CW.ret ?_)
                refine fin (vs := [frv ⟨c2, f.pc, s2, .slice q3 L.ms.length kc3, f.gas + left, f.self, f.frm, f.val, i2, .slice q6 l.length kc6, f.stat⟩, .bool true]) (g6 ++ (g3 ++ (g1 ++ (g2 ++ (g4 ++ []))))) (.inl rfl) rfl rfl (by (apply ResL.cons; apply Res.cell; rfl; apply Known.at; apply FsAt.app; apply FsAt.tail; apply FsAt.head; exact fr_rdW; apply ResL.cons; exact Res.tmp rfl; exact ResL.nil)) ?_ (.inl ⟨⟨hF, hC, hA, hW⟩, _, _, _, _, _, rfl, g1, g2, g3, g4, g6, perm6 _ _ _ _ _, k1, k2, ?_, k4, ?_⟩)
                · exact List.Sublist.append_left (List.Sublist.cons _ (List.Sublist.cons _ (List.Sublist.cons _ (List.sublist_cons_self _ _)))) _
                · unfold endL bM; dsimp only; rw [hov]; exact k3
                · unfold endL bM; dsimp only; rw [hbk]; exact k6
            · have h3 : 0 < L.ms.length := by omega
              obtain ⟨gm, cur, rfl, rfl, hn3, hm3', hsz3, htk3⟩ := k3.pos h3
              simp only [Nat.mul_one] at hsz3 htk3
              have hcl : (l.take c.n).length = min c.n l.length := by rw [List.length_take]
              have hcut := RowAt.cutMax ho (k := min c.n l.length) (by omega)
              rw [ucs_take, show l.take (min c.n l.length) = l.take c.n by rw [← List.take_take, List.take_length]] at hcut
              obtain ⟨kk, hkk⟩ : ∃ kk, kk = min c.n l.length := ⟨_, rfl⟩
              rw [← hkk] at hz hcl hcut ⊢
              have hk1 : kk ≤ c.n := by omega
              have hk2 : kk ≤ l.length := by omega
              apply CW.pre
              (refine AnyW.any 11 mixed (by decide +kernel) ?_)
              ((try simp only [tsOf_cons, tsOf_nil, tsOf_app]); refine dvz (.fieldAddr rfl rfl) ?_; refine dvz (.fieldAddr rfl rfl) ?_; apply DW.loadO; rfl; rfl; rfl; exact WantT.none; rfl; apply TRead.head; exact ancB_nil; exact fr_rd3; refine dvz (.fieldAddr rfl rfl) ?_; apply DW.loadO; rfl; rfl; rfl; exact WantT.none; rfl; apply TRead.tail; apply TRead.tail; apply TRead.tail; apply TRead.head; exact ancB_nil; exact cl_rd12; apply DW.v0; rfl; rfl; rfl; exact WantT.none; rfl; apply ValP.cutFromO; infer_instance; infer_instance; rfl; rfl; omega; omega; refine dvz (.fieldAddr rfl rfl) ?_; apply DW.loadO; rfl; rfl; rfl; exact WantT.none; rfl; apply TRead.tail; apply TRead.tail; apply TRead.head; exact ancB_nil; exact ov_rd2; refine dvz (.move rfl) ?_; refine dvz (.move rfl) ?_; apply DW.v0; rfl; rfl; rfl; exact WantT.none; rfl; apply ValP.cutMax; infer_instance; infer_instance; rfl; rfl; rfl; omega; omega; apply DW.nil; simp only [fsOf_cons, fsOf_nil, fsOf_app, fsOf_tsOf, fsOf_new])
              (apply LW.copyAt (cur := cur) (E' := 5) (m := kk) (news := ucs (l.take c.n)); rfl; rfl; infer_instance; infer_instance; infer_instance; rfl; rfl)
              · exact fun w' hst => hcut.st hst
              · exact ucs_cells _
              · omega
              · omega
              · (apply SetAt.tail; apply SetAt.tail; apply SetAt.tail; apply SetAt.tail; apply SetAt.head)
              have k7 : IsRow 5 1 (.slice (some ⟨gm, 0, none⟩) L.ms.length kc3) L.ms.length (ucs (overL L.ms c.pl (l.take c.n))) [(gm, .cells (cur.toList.take (0 + c.pl) ++ ucs (l.take c.n) ++ cur.toList.drop (0 + c.pl + kk)).toArray 5 (0, 0))] := by
                have hul : (ucs (l.take c.n)).length = kk := by rw [ucs_len, hcl]
                refine .own hn3 hm3' ?_ ?_ ?_
                · simp only [List.size_toArray, List.length_append, List.length_take, List.length_drop, Array.length_toList, hul, hsz3]
                  omega
                · rw [Nat.mul_one, Nat.zero_add, ← hul, take_over _ _ _ _ (by rw [hul]; omega) (by rw [Array.length_toList, hsz3]; exact hn3), htk3]
                  exact ucs_over _ _ _
                · rw [ucs_len, Nat.mul_one]
                  unfold overL
                  simp only [List.length_append, List.length_take, List.length_drop]
                  omega
              have hol : (overL L.ms c.pl (l.take c.n)).length = L.ms.length := by
                unfold overL
                simp only [List.length_append, List.length_take, List.length_drop]
                omega
              simp only [List.append_eq, List.nil_append]
              (refine nNz ?_; refine CW.seq ?_; refine sRz ?_; refine vFz ?_; refine ldz rfl (.tail (.tail .head)) ov_rd2 ?_)
              (apply LW.callR; rfl; rfl; infer_instance; exact .cons rfl .nil; intro w hs)
              exact SK.Clone_calls l _ w (ho.st hs) (by omega)
              intro x3 g6 k6
              have k6' := k6
              obtain ⟨q6, kc6, rfl⟩ := k6'.form
              have hsl3 : ∀ p n q, FrSl ⟨c2, f.pc, s2, .slice (some ⟨gm, 0, none⟩) L.ms.length kc3, f.gas + left, f.self, f.frm, f.val, i2, .slice p n q, f.stat⟩ := fun p n q => ⟨hsl2.c, hsl2.s, ⟨_, _, _, rfl⟩, hsl2.i, ⟨_, _, _, rfl⟩⟩
              by_cases h245 : c.op = 245
              · cases ok with
                | true =>
                  have hbk : (if c.op = 245 ∧ true = true then [] else l) = ([] : List UInt8) := if_pos ⟨h245, rfl⟩
                  (refine vFz ?_; refine LW.store rfl rfl (.app .head) fr_wr12 ?_; refine nSz ?_; refine vFz ?_; refine ldz rfl (.app (.tail (.tail (.tail .head)))) cl_rd0 ?_; refine lvz (.eqT rfl rfl (by omega)) ?_; refine vMz ?_; refine gTz ?_; refine vFz ?_; refine gTz ?_; refine ldz rfl (.app (.tail (.tail .head))) ov_rd0 ?_; refine pTz ?_; refine nNz ?_; refine cTz ?_; refine CW.region ?_; refine vFz ?_; refine LW.store rfl rfl (.app .head) fr_wr12 ?_; refine nSz ?_; refine ldz rfl (.app .head) fr_rdW ?_; apply LW.store; rfl; rfl; apply SetAt.app; apply SetAt.tail; apply SetAt.head; apply fr_wrW; rfl; exact hsl3 _ _ _; refine vAz ?_; refine nNz ?_; refine CW.ret ?_)
                  refine fin (vs := [frv ⟨c2, f.pc, s2, .slice (some ⟨gm, 0, none⟩) L.ms.length kc3, f.gas + left, f.self, f.frm, f.val, i2, .slice none 0 0, f.stat⟩, .bool true]) ([(gm, .cells (cur.toList.take (0 + c.pl) ++ ucs (l.take c.n) ++ cur.toList.drop (0 + c.pl + kk)).toArray 5 (0, 0))] ++ (g1 ++ (g2 ++ (g4 ++ [])))) (.inl rfl) rfl rfl (by (apply ResL.cons; apply Res.cell; rfl; apply Known.at; apply FsAt.app; apply FsAt.tail; apply FsAt.head; exact fr_rdW; apply ResL.cons; exact Res.tmp rfl; exact ResL.nil)) ?_ (.inl ⟨⟨hF, hC, hA, hW⟩, _, _, _, _, _, rfl, g1, g2, [(gm, .cells (cur.toList.take (0 + c.pl) ++ ucs (l.take c.n) ++ cur.toList.drop (0 + c.pl + kk)).toArray 5 (0, 0))], g4, [], perm4 _ _ _ _, k1, k2, ?_, k4, ?_⟩)
                  · exact List.Sublist.trans (List.Sublist.cons _ (List.Sublist.cons _ (List.Sublist.cons _ (List.sublist_cons_self _ _)))) (List.sublist_append_right _ _)
                  · unfold endL bM; dsimp only; rw [hol]; exact k7
                  · unfold endL bM; dsimp only; rw [hbk]; exact .nil
                | false =>
                  have hbk : (if c.op = 245 ∧ false = true then [] else l) = l := if_neg (fun h => by cases h.2)
                  (refine vFz ?_; refine LW.store rfl rfl (.app .head) fr_wr12 ?_; refine nSz ?_; refine vFz ?_; refine ldz rfl (.app (.tail (.tail (.tail .head)))) cl_rd0 ?_; refine lvz (.eqT rfl rfl (by omega)) ?_; refine vMz ?_; refine gTz ?_; refine vFz ?_; refine gTz ?_; refine ldz rfl (.app (.tail (.tail .head))) ov_rd0 ?_; refine pTz ?_; refine nNz ?_; refine cFz ?_; refine CW.skip ?_; refine thenN ?_; refine sRz ?_; refine ldz rfl (.app .head) fr_rdW ?_; apply LW.store; rfl; rfl; apply SetAt.app; apply SetAt.tail; apply SetAt.head; apply fr_wrW; rfl; exact hsl3 _ _ _; refine vAz ?_; refine nNz ?_; refine CW.ret ?_)
                  refine fin (vs := [frv ⟨c2, f.pc, s2, .slice (some ⟨gm, 0, none⟩) L.ms.length kc3, f.gas + left, f.self, f.frm, f.val, i2, .slice q6 l.length kc6, f.stat⟩, .bool true]) (g6 ++ ([(gm, .cells (cur.toList.take (0 + c.pl) ++ ucs (l.take c.n) ++ cur.toList.drop (0 + c.pl + kk)).toArray 5 (0, 0))] ++ (g1 ++ (g2 ++ (g4 ++ []))))) (.inl rfl) rfl rfl (by (apply ResL.cons; apply Res.cell; rfl; apply Known.at; apply FsAt.app; apply FsAt.tail; apply FsAt.head; exact fr_rdW; apply ResL.cons; exact Res.tmp rfl; exact ResL.nil)) ?_ (.inl ⟨⟨hF, hC, hA, hW⟩, _, _, _, _, _, rfl, g1, g2, [(gm, .cells (cur.toList.take (0 + c.pl) ++ ucs (l.take c.n) ++ cur.toList.drop (0 + c.pl + kk)).toArray 5 (0, 0))], g4, g6, perm6 _ _ _ _ _, k1, k2, ?_, k4, ?_⟩)
                  · exact List.Sublist.append_left (List.Sublist.cons _ (List.Sublist.cons _ (List.Sublist.cons _ (List.sublist_cons_self _ _)))) _
                  · unfold endL bM; dsimp only; rw [hol]; exact k7
                  · unfold endL bM; dsimp only; rw [hbk]; exact k6
              · have hbk : (if c.op = 245 ∧ ok = true then [] else l) = l := if_neg (fun h => h245 h.1)
                (refine vFz ?_; refine LW.store rfl rfl (.app .head) fr_wr12 ?_; refine nSz ?_; refine vFz ?_; refine ldz rfl (.app (.tail (.tail (.tail .head)))) cl_rd0 ?_; refine lvz (.eqF rfl rfl (by omega)) ?_; refine vMz ?_; refine gFz ?_; refine gFz ?_; refine pFz ?_; refine nNz ?_; refine cFz ?_; refine CW.skip ?_; refine thenN ?_; refine sRz ?_; refine ldz rfl (.app .head) fr_rdW ?_; apply LW.store; rfl; rfl; apply SetAt.app; apply SetAt.tail; apply SetAt.head; apply fr_wrW; rfl; exact hsl3 _ _ _; refine vAz ?_; refine nNz ?_; refine CW.ret ?_)
                refine fin (vs := [frv ⟨c2, f.pc, s2, .slice (some ⟨gm, 0, none⟩) L.ms.length kc3, f.gas + left, f.self, f.frm, f.val, i2, .slice q6 l.length kc6, f.stat⟩, .bool true]) (g6 ++ ([(gm, .cells (cur.toList.take (0 + c.pl) ++ ucs (l.take c.n) ++ cur.toList.drop (0 + c.pl + kk)).toArray 5 (0, 0))] ++ (g1 ++ (g2 ++ (g4 ++ []))))) (.inl rfl) rfl rfl (by (apply ResL.cons; apply Res.cell; rfl; apply Known.at; apply FsAt.app; apply FsAt.tail; apply FsAt.head; exact fr_rdW; apply ResL.cons; exact Res.tmp rfl; exact ResL.nil)) ?_ (.inl ⟨⟨hF, hC, hA, hW⟩, _, _, _, _, _, rfl, g1, g2, [(gm, .cells (cur.toList.take (0 + c.pl) ++ ucs (l.take c.n) ++ cur.toList.drop (0 + c.pl + kk)).toArray 5 (0, 0))], g4, g6, perm6 _ _ _ _ _, k1, k2, ?_, k4, ?_⟩)
                · exact List.Sublist.append_left (List.Sublist.cons _ (List.Sublist.cons _ (List.Sublist.cons _ (List.sublist_cons_self _ _)))) _
                · unfold endL bM; dsimp only; rw [hol]; exact k7
                · unfold endL bM; dsimp only; rw [hbk]; exact k6
          · have hR : tellR f L 0 [laidW c ok] = none := by unfold tellR; exact if_neg (fun h => hW (by have h := h.2; simp at h; omega))
            rw [hR] at hT
            obtain ⟨rfl, rfl⟩ := hT
            ((try simp only [tsOf_cons, tsOf_nil, tsOf_app]); refine dvz (.move rfl) ?_; refine dvz (.extractN rfl rfl) ?_; refine dvz (.extractN rfl rfl) ?_; apply DW.allocA; rfl; rfl; rfl; exact WantT.none; intro _; apply DW.store; rfl; rfl; exact WantT.none; rfl; rfl; apply TSet.head; kernel_rfl; exact ancB_nil; apply Wr.whole; rfl; rfl; rfl; apply DW.nil; simp only [fsOf_cons, fsOf_nil, fsOf_app, fsOf_tsOf, fsOf_new])
            (refine vAz ?_; refine nNz ?_; refine CW.seq ?_; refine sRz ?_; refine vMz ?_; refine lvz (.notF rfl (by with_reducible rfl)) ?_; refine nNz ?_; refine cTz ?_; refine sRz ?_; apply LW.v0; rfl; rfl; apply ValP.buildT; infer_instance; infer_instance; exact PartsOk.nil; rfl; simp only [fillP, wrCells, Value.cells, List.getElem?_cons_zero, List.getElem?_cons_succ, List.toList_toArray, List.setIfInBounds_toArray, List.set_cons_succ, List.set_cons_zero, Nat.reduceAdd, Nat.zero_add]; rfl; refine LW.store rfl rfl (.tail (.tail .head)) (.whole rfl rfl rfl) ?_; refine vAz ?_; refine nNz ?_; refine CW.ret ?_; refine thenR ?_)
            exact fin (vs := [frv zeroF, .bool false]) [] (.inl rfl) rfl rfl (by (apply ResL.cons; apply Res.cell; rfl; apply Known.at; apply FsAt.tail; apply FsAt.tail; apply FsAt.head; exact Rd.whole rfl; apply ResL.cons; exact Res.tmp rfl; exact ResL.nil)) (List.nil_sublist _) (.inr ⟨fun h => hW h.2.2.2, rfl, rfl⟩)
        · rw [decide_eq_true hA]
          (refine cTz ?_; refine sRz ?_; apply LW.v0; rfl; rfl; apply ValP.buildT; infer_instance; infer_instance; exact PartsOk.nil; rfl; simp only [fillP, wrCells, Value.cells, List.getElem?_cons_zero, List.getElem?_cons_succ, List.toList_toArray, List.setIfInBounds_toArray, List.set_cons_succ, List.set_cons_zero, Nat.reduceAdd, Nat.zero_add]; rfl; refine LW.store rfl rfl .head (.whole rfl rfl rfl) ?_; refine vAz ?_; refine nNz ?_; refine CW.ret ?_; refine thenR ?_)
          exact fin (vs := [frv zeroF, .bool false]) [] (.inl rfl) rfl rfl (by (apply ResL.cons; apply Res.cell; rfl; apply Known.at; apply FsAt.head; exact Rd.whole rfl; apply ResL.cons; exact Res.tmp rfl; exact ResL.nil)) (List.nil_sublist _) (.inr ⟨fun h => hA h.2.2.1, rfl, rfl⟩)
      · (refine LW.guardDF rfl rfl rfl (fun hsq hsp => ?_) (fun hsq hsp => ?_); refine vFz ?_; refine gTaz ?_; refine ldz rfl (.tail .head) ov_rd2 ?_; refine gTaz ?_; refine lvz (.lenR rfl inferInstance rfl) ?_; refine gTaz ?_; refine lvz (.gtr rfl rfl) ?_; refine pFaz ?_; refine vMz ?_; refine LW.guardDF rfl rfl rfl (fun hsq hsp => ?_) (fun hsq hsp => ?_); refine vFz ?_; refine gTaz ?_; refine ldz rfl (.tail (.tail (.tail .head))) fr_rd4 ?_; refine gTaz ?_; refine vFz ?_; refine gTaz ?_; refine ldz rfl (.tail .head) ov_rd1 ?_; refine gTaz ?_; refine lvz (.addN rfl rfl) ?_; refine gTaz ?_; refine lvz (.gtr rfl rfl) ?_; refine pFaz ?_; refine vMz ?_; refine LW.guardDF rfl rfl rfl (fun hsq hsp => ?_) (fun hsq hsp => ?_); refine vFz ?_; refine gTaz ?_; refine ldz rfl (.tail (.tail .head)) cl_rd12 ?_; refine gTaz ?_; refine vFz ?_; refine gTaz ?_; refine ldz rfl (.tail (.tail .head)) cl_rd13 ?_; refine gTaz ?_; refine lvz (.addN rfl rfl) ?_; refine gTaz ?_; refine vFz ?_; refine gTaz ?_; refine vFz ?_; refine gTaz ?_; refine ldz rfl (.tail (.tail (.tail .head))) hmem ?_; refine gTaz ?_; refine lvz (.lenR rfl inferInstance rfl) ?_; refine gTaz ?_; refine lvz (.convN rfl (by omega) (by omega)) ?_; refine gTaz ?_; refine lvz (.gtr rfl rfl) ?_; refine pFaz ?_; apply LW.nil; refine cutI rfl ⟨getB rfl ?_, rfl, rfl, rfl, rfl, rfl, trivial⟩ ?_; exact decide_eq_decide.2 (by omega); exact List.Sublist.refl _; (iterate 10 refine gFaz ?_); refine pTaz ?_; apply LW.nil; refine cutI rfl ⟨getB rfl ?_, rfl, rfl, rfl, rfl, rfl, trivial⟩ ?_; exact (decide_eq_true (by omega)).symm; exact List.Sublist.refl _; (iterate 5 refine gFaz ?_); refine pTaz ?_; refine vMz ?_; (iterate 11 refine gFz ?_); refine pTz ?_; apply LW.nil; refine cutI rfl ⟨getB rfl ?_, rfl, rfl, rfl, rfl, rfl, trivial⟩ ?_; exact (decide_eq_true (by omega)).symm; exact List.Sublist.refl _; (iterate 3 refine gFaz ?_); refine pTaz ?_; refine vMz ?_; (iterate 6 refine gFz ?_); refine pTz ?_; refine vMz ?_; (iterate 11 refine gFz ?_); refine pTz ?_; apply LW.nil; refine cutI rfl ⟨getB rfl ?_, rfl, rfl, rfl, rfl, rfl, trivial⟩ ?_; exact (decide_eq_true (by omega)).symm; exact List.Sublist.refl _)
    · have hCc : ∀ w' {fs : Fs}, St w [] fs w' → Calls Tryz.prog 19 #[clv c] w' (Ret w' (.int .i64 250)) := fun w' fs hst => by have h := hCc0 w' hst; rwa [if_neg hC] at h
      refine enter (args := [_, _, _]) _ [] [] Tryz.func13 rfl Tryz.ntmps13 rfl (by simp) .nil ?_
      (refine sRz ?_; apply LW.boxA; rfl; rfl; intro _; apply LW.boxA; rfl; rfl; intro _; apply LW.boxA; rfl; rfl; intro _; apply LW.allocA; rfl; intro _; refine vAz ?_; refine nNz ?_; refine CW.seq ?_; refine sRz ?_; refine ldz rfl (.tail (.tail (.tail .head))) fr_rdW ?_; apply LW.callE; rfl; rfl; infer_instance; exact .cons rfl .nil; intro w _; exact hFc w (by assumption); refine lvz (.neF rfl rfl (by omega)) ?_; refine vMz ?_; refine gTz ?_; refine ldz rfl (.tail (.tail .head)) cl_rdW ?_; refine gTz ?_; apply LW.callE; rfl; rfl; infer_instance; exact .cons rfl .nil; intro w _; exact hCc w (by assumption); refine gTz ?_; refine lvz (.neT rfl rfl (by omega)) ?_; refine pFz ?_; refine vMz ?_; (iterate 5 refine gFz ?_); refine pTz ?_; refine vMz ?_; (iterate 4 refine gFz ?_); refine pTz ?_; refine vMz ?_; (iterate 6 refine gFz ?_); refine pTz ?_; refine vMz ?_; (iterate 11 refine gFz ?_); refine pTz ?_; refine nNz ?_; refine cTz ?_; refine sRz ?_; apply LW.v0; rfl; rfl; apply ValP.buildT; infer_instance; infer_instance; exact PartsOk.nil; rfl; simp only [fillP, wrCells, Value.cells, List.getElem?_cons_zero, List.getElem?_cons_succ, List.toList_toArray, List.setIfInBounds_toArray, List.set_cons_succ, List.set_cons_zero, Nat.reduceAdd, Nat.zero_add]; rfl; refine LW.store rfl rfl .head (.whole rfl rfl rfl) ?_; refine vAz ?_; refine nNz ?_; refine CW.ret ?_; refine thenR ?_)
      exact fin (vs := [frv zeroF, .bool false]) [] (.inl rfl) rfl rfl (by (apply ResL.cons; apply Res.cell; rfl; apply Known.at; apply FsAt.head; exact Rd.whole rfl; apply ResL.cons; exact Res.tmp rfl; exact ResL.nil)) (List.nil_sublist _) (.inr ⟨fun h => hC h.2.1, rfl, rfl⟩)
  · have hFc : ∀ w' {fs : Fs}, St w [] fs w' → Calls Tryz.prog 31 #[frv f] w' (Ret w' (.int .i64 240)) := fun w' fs hst => by have h := hFc0 w' hst; rwa [if_neg hF] at h
    refine enter (args := [_, _, _]) _ [] [] Tryz.func13 rfl Tryz.ntmps13 rfl (by simp) .nil ?_
    (refine sRz ?_; apply LW.boxA; rfl; rfl; intro _; apply LW.boxA; rfl; rfl; intro _; apply LW.boxA; rfl; rfl; intro _; apply LW.allocA; rfl; intro _; refine vAz ?_; refine nNz ?_; refine CW.seq ?_; refine sRz ?_; refine ldz rfl (.tail (.tail (.tail .head))) fr_rdW ?_; apply LW.callE; rfl; rfl; infer_instance; exact .cons rfl .nil; intro w _; exact hFc w (by assumption); refine lvz (.neT rfl rfl (by omega)) ?_; refine vMz ?_; (iterate 3 refine gFz ?_); refine pTz ?_; refine vMz ?_; (iterate 5 refine gFz ?_); refine pTz ?_; refine vMz ?_; (iterate 4 refine gFz ?_); refine pTz ?_; refine vMz ?_; (iterate 6 refine gFz ?_); refine pTz ?_; refine vMz ?_; (iterate 11 refine gFz ?_); refine pTz ?_; refine nNz ?_; refine cTz ?_; refine sRz ?_; apply LW.v0; rfl; rfl; apply ValP.buildT; infer_instance; infer_instance; exact PartsOk.nil; rfl; simp only [fillP, wrCells, Value.cells, List.getElem?_cons_zero, List.getElem?_cons_succ, List.toList_toArray, List.setIfInBounds_toArray, List.set_cons_succ, List.set_cons_zero, Nat.reduceAdd, Nat.zero_add]; rfl; refine LW.store rfl rfl .head (.whole rfl rfl rfl) ?_; refine vAz ?_; refine nNz ?_; refine CW.ret ?_; refine thenR ?_)
    exact fin (vs := [frv zeroF, .bool false]) [] (.inl rfl) rfl rfl (by (apply ResL.cons; apply Res.cell; rfl; apply Known.at; apply FsAt.head; exact Rd.whole rfl; apply ResL.cons; exact Res.tmp rfl; exact ResL.nil)) (List.nil_sublist _) (.inr ⟨fun h => hF h.1, rfl, rfl⟩)
end Go.Proofs.YtpgdnfgjbhdbpaaGreatDoor
