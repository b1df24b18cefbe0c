/-
  Texts that were built apart, put behind one another (4 of 5): U7 U8 U9 UA UB UC UD UG UH US K1 K2 V7 K3 K4 K5 K6 K7 K8 K9 KA KB KD KE KO KI KJ KK KM KG KP Smn Smo Smp V1 V2 Smq V4 UI UK.
  Conditions: none.
-/
import Derived.Test.YtobkhnmglbfheaaDoorZ3
import Derived.Test.YtobkhnmglbfheaaDoorRows
import Derived.LaidMore
import Derived.Lib.LaidTab
import Derived.Lib.LaidU8
import Derived.Laws.Externs
import Derived.Lib.BytesEntry
import Derived.Laws.StructEq
import Derived.Sort.QuietThIn
/-
  Operations of accounts laid: words and numbers become parts.
  Conditions: none.
-/
namespace Go.Proofs.YtobkhnmglbfheaaDoor
open Go Go.RowKit SL
set_option maxRecDepth 8000
set_option maxHeartbeats 4000000
set_option linter.unusedSimpArgs false
set_option linter.unusedVariables false
attribute [local irreducible] SL.CW SL.LW SL.DW Calls SL.Ret SL.RetG SL.beginQ SL.roundQ SL.rangeQ SL.inQ SL.RW SL.AnyW SL.thenQ SL.thenC SL.thenW SL.blkQ SL.finQ SL.ValP SL.NewP SL.SetP SL.CallP SL.Rd SL.Wr SL.Known
/-- A form's cells: the operation, the parts, whether it reads, whether it is bad. -/
def fma (u : OpV) (pv : Value) (rd bad : Bool) : Array Value := (opc u ++ [pv, .bool rd, .bool bad]).toArray
section rd
variable {P : Program} {T E : TypeId} {fr : Nat × Nat} {u : OpV} {pv : Value} {r b : Bool}
theorem fm_rd1 {z : Value} [AgI P T true] [InfoI P T 4 z] : Rd P T (.cells (fma u pv r b) E fr) 1 (wv u.no) := Rd.mid (cs := (wc u.no).toList) rfl rfl
theorem fm_rd17 [AgI P T false] : Rd P T (.cells (fma u pv r b) E fr) 17 pv := Rd.one rfl
theorem fm_rd18 [AgI P T false] : Rd P T (.cells (fma u pv r b) E fr) 18 (.bool r) := Rd.one rfl
theorem fm_rd19 [AgI P T false] : Rd P T (.cells (fma u pv r b) E fr) 19 (.bool b) := Rd.one rfl
theorem fm_wr17 {z : Value} {p : Option Addr} {n c : Nat} [InfoI P T 1 z] : Wr P T (.cells (fma u pv r b) E (0, 0)) 17 (.slice p n c) (.cells (fma u (.slice p n c) r b) E (0, 0)) := Wr.cells (n := 1) (z := z) rfl rfl (by show 17 + 1 ≤ 20; omega) rfl
theorem fm_wr19 {z : Value} {b' : Bool} [InfoI P T 1 z] : Wr P T (.cells (fma u pv r b) E (0, 0)) 19 (.bool b') (.cells (fma u pv r b') E (0, 0)) := Wr.cells (n := 1) (z := z) rfl rfl (by show 19 + 1 ≤ 20; omega) rfl
end rd
/-- Parts that are laid one behind the other: the row, and where their bytes lie. -/
structure PS (ps : List PartV) (pv : Value) (segO gsD : Fs) : Prop where
  row : IsRow 61 6 pv ps.length (ps.flatMap psc) segO
  dat : DatAt gsD ps
  small : ∀ p ∈ ps, p.wd < M256
  ne : pv = .slice none 0 0 ∨ 0 < ps.length
theorem PS.word {ps : List PartV} {pv v' : Value} {segO gsD seg' : Fs} (h : PS ps pv segO gsD) {a : Nat} (ha : a < M256) (hrow : IsRow 61 6 v' (ps.length + 1) (ps.flatMap psc ++ psc (ofP a)) seg') : PS (ps ++ [ofP a]) v' seg' gsD where
  row := by rw [flat_snoc, List.length_append, List.length_singleton]; exact hrow
  dat := h.dat.app (hs := []) (qs := [ofP a]) (fun w' _ q hq => by
    obtain rfl : q = ofP a := by simpa using hq
    exact RowAt.nil)
  small := fun p hp => by
    rcases List.mem_append.1 hp with hp | hp
    · exact h.small p hp
    · obtain rfl : p = ofP a := by simpa using hp
      exact ha
  ne := .inr (by rw [List.length_append, List.length_singleton]; omega)
theorem calls_sub2 {P : Program} {f : FuncId} {args : Array Value} {w w0 : World} {S : List Nat} {K : Value → Fs → Prop} (h : Calls P f args w (fun x w' => ∃ v fs', x = .returned v ∧ (∃ fs2 fs3, List.Sublist fs2 fs' ∧ fs3.Perm fs2 ∧ K v fs3) ∧ St w0 S fs' w')) :
    Calls P f args w (fun x w' => ∃ v fs', x = .returned v ∧ K v fs' ∧ St w0 S fs' w') :=
  Calls.mono h fun x w' ⟨v, fs', hx, ⟨fs2, fs3, hf, hp, hK⟩, hs⟩ => ⟨v, fs3, hx, hK, St.perm ⟨hs.bel, fun p hp => hs.own p (hf.subset hp), hs.nd.sublist hf⟩ hp⟩
theorem perm1 {α : Type} {x : α} {s r : List α} : (x :: (s ++ r)).Perm (s ++ x :: r) := List.perm_middle.symm
theorem perm2 {α : Type} {x y : α} {m s r : List α} : (x :: (m ++ y :: (s ++ r))).Perm (s ++ x :: (m ++ y :: r)) :=
  ((perm1.append_left m).trans (List.perm_append_comm_assoc _ _ _)).cons x |>.trans perm1
theorem wordF_lay {w0 : World} {bF off a : Nat} {u : OpV} {ps : List PartV} {pv : Value} {segO gsD rest : Fs} (hP : PS ps pv segO gsD) (hn : ps.length ≤ 100) (ha : a < M256) (hrd : ∀ {pv E fr}, Rd Tryd.prog 27 (.cells (fma u pv false false) E fr) off (wv a)) (w : World)
    (hs : St w0 [] ((bF, .cells (fma u pv false false) 72 (0, 0)) :: (segO ++ (gsD ++ rest))) w) :
    Calls Tryd.prog 70 #[.pointer (some ⟨bF, 0, none⟩), .pointer (some ⟨bF, off, none⟩)] w (fun x w' => ∃ v fs', x = .returned v ∧ (v = .tuple #[] ∧ ∃ pv' segO', PS (ps ++ [ofP a]) pv' segO' gsD ∧ fs' = (bF, .cells (fma u pv' false false) 72 (0, 0)) :: (segO' ++ (gsD ++ rest))) ∧ St w0 [] fs' w') := by
  obtain ⟨pp, cp, rfl⟩ := hP.row.form
  refine calls_sub2 ?_
  refine calls_inline (args := [_, _]) Tryd.func70 rfl Tryd.ntmps70 rfl ?_ hs
  (refine CW.seq ?_; refine CW.seq ?_; refine CW.region ?_; apply LW.v0; rfl; rfl; apply ValP.move; rfl; apply LW.v0; rfl; rfl; apply ValP.nilCheck; rfl; apply LW.v0; rfl; rfl; apply ValP.fieldAddr; rfl; rfl; apply LW.load; rfl; rfl; apply Known.at; apply FsAt.head; exact fm_rd18; apply LW.nil; refine thenN ?_; apply CW.condF; rfl; (with_reducible rfl); refine CW.skip ?_; refine thenN ?_)
  apply CW.pre
  (refine AnyW.anyM [(10, fun v gs => IsRow 61 6 v (ps.length + 1) (ps.flatMap psc ++ psc (ofP a)) gs)] 11 mixed (by decide +kernel) ?_)
  ((try simp only [tsOf_cons, tsOf_nil, tsOf_app]); apply DW.v0; rfl; rfl; rfl; exact WantT.none; rfl; apply ValP.move; rfl; apply DW.v0; rfl; rfl; rfl; exact WantT.none; rfl; apply ValP.move; rfl; apply DW.v0; rfl; rfl; rfl; exact WantT.none; rfl; apply ValP.nilCheck; rfl; apply DW.v0; rfl; rfl; rfl; exact WantT.none; rfl; apply ValP.fieldAddr; rfl; rfl; apply DW.loadO; rfl; rfl; rfl; exact WantT.none; rfl; apply TRead.head; exact ancB_nil; exact fm_rd17; apply DW.v0; rfl; rfl; rfl; exact WantT.none; rfl; apply ValP.move; rfl; apply DW.v0; rfl; rfl; rfl; exact WantT.none; rfl; apply ValP.nilCheck; rfl; apply DW.loadO; rfl; rfl; rfl; exact WantT.none; rfl; apply TRead.head; exact ancB_nil; exact hrd; apply DW.callE; rfl; rfl; rfl; exact WantT.none; rfl; infer_instance; apply ArgsOk.cons; rfl; exact ArgsOk.nil; rfl; exact ReadAll.nil; intro w _ _; exact pOf_calls _ ha w; apply DW.layA; rfl; rfl; rfl; exact WantT.none; infer_instance; infer_instance; rfl; rfl; rfl; rfl; rfl; intro _)
  refine DW.appendV (news := psc (ofP a)) rfl rfl rfl (by (exact WantT.none)) rfl inferInstance inferInstance inferInstance rfl rfl rfl hP.row hP.ne (by (apply TOut.cons; apply TOut.cons; exact TOut.old)) (by (apply RdV.own; omega; apply TRead.head; kernel_rfl; exact RdV.nil)) (fun w' hbel hus => row_cells (hus _ (List.Mem.head _)) rfl rfl (by decide)) (by intro x hx; exact List.all_eq_true.1 (psc_one (p := ofP a) rfl) x hx) (by simp only [maxLen]; omega) (by omega) ?_
  intro v' seg' hrow'
  obtain ⟨p', c', rfl⟩ := hrow'.form
  ((try simp only [tsOf_cons, tsOf_nil, tsOf_app]); apply DW.nil; simp only [fsOf_cons, fsOf_nil, fsOf_app, fsOf_tsOf, fsOf_new, fsOf_tag])
  (apply LW.v0; rfl; rfl; apply ValP.nilCheck; rfl; apply LW.v0; rfl; rfl; apply ValP.fieldAddr; rfl; rfl; apply LW.store; rfl; rfl; apply SetAt.app; apply SetAt.tail; apply SetAt.head; exact fm_wr17; apply LW.nil)
  apply inI
  (exact .inr rfl)
  (exact Shut.nil)
  rfl
  (exact ResL.nil)
  rfl
  exact ⟨_, _, List.Sublist.append_left (List.Sublist.cons _ (List.Sublist.refl _)) _, perm1, rfl, _, _, hP.word ha hrow', rfl⟩
theorem wordL_lay {w0 : World} {bF bW a : Nat} {u : OpV} {ps : List PartV} {pv : Value} {segO gsD rest mid : Fs} (hP : PS ps pv segO gsD) (hn : ps.length ≤ 100) (ha : a < M256) (w : World)
    (hs : St w0 [] ((bW, .cells (wc a) 27 (0, 0)) :: (mid ++ ((bF, .cells (fma u pv false false) 72 (0, 0)) :: (segO ++ (gsD ++ rest))))) w) :
    Calls Tryd.prog 70 #[.pointer (some ⟨bF, 0, none⟩), .pointer (some ⟨bW, 0, none⟩)] w (fun x w' => ∃ v fs', x = .returned v ∧ (v = .tuple #[] ∧ ∃ pv' segO', PS (ps ++ [ofP a]) pv' segO' gsD ∧ fs' = (bW, .cells (wc a) 27 (0, 0)) :: (mid ++ ((bF, .cells (fma u pv' false false) 72 (0, 0)) :: (segO' ++ (gsD ++ rest))))) ∧ St w0 [] fs' w') := by
  obtain ⟨pp, cp, rfl⟩ := hP.row.form
  have hrd : True := trivial
  refine calls_sub2 ?_
  refine calls_inline (args := [_, _]) Tryd.func70 rfl Tryd.ntmps70 rfl ?_ hs
  (refine CW.seq ?_; refine CW.seq ?_; refine CW.region ?_; apply LW.v0; rfl; rfl; apply ValP.move; rfl; apply LW.v0; rfl; rfl; apply ValP.nilCheck; rfl; apply LW.v0; rfl; rfl; apply ValP.fieldAddr; rfl; rfl; apply LW.load; rfl; rfl; apply Known.at; apply FsAt.tail; apply FsAt.app; apply FsAt.head; exact fm_rd18; apply LW.nil; refine thenN ?_; apply CW.condF; rfl; (with_reducible rfl); refine CW.skip ?_; refine thenN ?_)
  apply CW.pre
  (refine AnyW.anyM [(10, fun v gs => IsRow 61 6 v (ps.length + 1) (ps.flatMap psc ++ psc (ofP a)) gs)] 11 mixed (by decide +kernel) ?_)
  ((try simp only [tsOf_cons, tsOf_nil, tsOf_app]); apply DW.v0; rfl; rfl; rfl; exact WantT.none; rfl; apply ValP.move; rfl; apply DW.v0; rfl; rfl; rfl; exact WantT.none; rfl; apply ValP.move; rfl; apply DW.v0; rfl; rfl; rfl; exact WantT.none; rfl; apply ValP.nilCheck; rfl; apply DW.v0; rfl; rfl; rfl; exact WantT.none; rfl; apply ValP.fieldAddr; rfl; rfl; apply DW.loadO; rfl; rfl; rfl; exact WantT.none; rfl; apply TRead.tail; apply TRead.app; apply TRead.head; exact ancB_nil; exact fm_rd17; apply DW.v0; rfl; rfl; rfl; exact WantT.none; rfl; apply ValP.move; rfl; apply DW.v0; rfl; rfl; rfl; exact WantT.none; rfl; apply ValP.nilCheck; rfl; apply DW.loadO; rfl; rfl; rfl; exact WantT.none; rfl; apply TRead.head; exact ancB_nil; exact Rd.whole rfl; apply DW.callE; rfl; rfl; rfl; exact WantT.none; rfl; infer_instance; apply ArgsOk.cons; rfl; exact ArgsOk.nil; rfl; exact ReadAll.nil; intro w _ _; exact pOf_calls _ ha w; apply DW.layA; rfl; rfl; rfl; exact WantT.none; infer_instance; infer_instance; rfl; rfl; rfl; rfl; rfl; intro _)
  refine DW.appendV (news := psc (ofP a)) rfl rfl rfl (by (exact WantT.none)) rfl inferInstance inferInstance inferInstance rfl rfl rfl hP.row hP.ne (by (apply TOut.cons; apply TOut.cons; apply TOut.app; apply TOut.cons; exact TOut.old)) (by (apply RdV.own; omega; apply TRead.head; kernel_rfl; exact RdV.nil)) (fun w' hbel hus => row_cells (hus _ (List.Mem.head _)) rfl rfl (by decide)) (by intro x hx; exact List.all_eq_true.1 (psc_one (p := ofP a) rfl) x hx) (by simp only [maxLen]; omega) (by omega) ?_
  intro v' seg' hrow'
  obtain ⟨p', c', rfl⟩ := hrow'.form
  ((try simp only [tsOf_cons, tsOf_nil, tsOf_app]); apply DW.nil; simp only [fsOf_cons, fsOf_nil, fsOf_app, fsOf_tsOf, fsOf_new, fsOf_tag])
  (apply LW.v0; rfl; rfl; apply ValP.nilCheck; rfl; apply LW.v0; rfl; rfl; apply ValP.fieldAddr; rfl; rfl; apply LW.store; rfl; rfl; apply SetAt.app; apply SetAt.tail; apply SetAt.tail; apply SetAt.app; apply SetAt.head; exact fm_wr17; apply LW.nil)
  apply inI
  (exact .inr rfl)
  (exact Shut.nil)
  rfl
  (exact ResL.nil)
  rfl
  exact ⟨_, _, List.Sublist.append_left (List.Sublist.cons _ (List.Sublist.refl _)) _, perm2, rfl, _, _, hP.word ha hrow', rfl⟩
/-! ### Bytes -/
theorem PS.data {ps : List PartV} {pv v' dv : Value} {segO gsD seg' gs : Fs} {l : List UInt8} (h : PS ps pv segO gsD) (hd : IsRow 5 1 dv l.length (ucs l) gs) (hrow : IsRow 61 6 v' (ps.length + 1) (ps.flatMap psc ++ psc (byP dv l)) seg') : PS (ps ++ [byP dv l]) v' seg' (gs ++ gsD) where
  row := by rw [flat_snoc, List.length_append, List.length_singleton]; exact hrow
  dat := h.dat.app (row_is hd rfl rfl rfl)
  small := fun p hp => by
    rcases List.mem_append.1 hp with hp | hp
    · exact h.small p hp
    · obtain rfl : p = byP dv l := by simpa using hp
      show 0 < M256
      decide
  ne := .inr (by rw [List.length_append, List.length_singleton]; omega)
def byM (l : List UInt8) (v : Value) (gs : Fs) : Prop := ∃ dv, v = .agg (psa (byP dv l)) ∧ IsRow 5 1 dv l.length (ucs l) gs
theorem perm3 {α : Type} {x : α} {s g r : List α} : (x :: (s ++ (g ++ r))).Perm (s ++ (g ++ x :: r)) := perm1.trans (perm1.append_left s)
theorem data_lay {w0 : World} {bF off : Nat} {u : OpV} {ps : List PartV} {pv dv : Value} {l : List UInt8} {segO gsD rest : Fs} (hP : PS ps pv segO gsD) (hn : ps.length ≤ 100) (hl : l.length ≤ 1000) (hd : RowAt w0 1 dv l.length (ucs l)) (hrd : ∀ {pv E fr}, Rd Tryd.prog 28 (.cells (fma u pv false false) E fr) off dv) (w : World)
    (hs : St w0 [] ((bF, .cells (fma u pv false false) 72 (0, 0)) :: (segO ++ (gsD ++ rest))) w) :
    Calls Tryd.prog 71 #[.pointer (some ⟨bF, 0, none⟩), .pointer (some ⟨bF, off, none⟩)] w (fun x w' => ∃ v fs', x = .returned v ∧ (v = .tuple #[] ∧ ∃ dv pv' segO' gsD', PS (ps ++ [byP dv l]) pv' segO' gsD' ∧ fs' = (bF, .cells (fma u pv' false false) 72 (0, 0)) :: (segO' ++ (gsD' ++ rest))) ∧ St w0 [] fs' w') := by
  obtain ⟨pp, cp, rfl⟩ := hP.row.form
  refine calls_sub2 ?_
  refine calls_inline (args := [_, _]) Tryd.func71 rfl Tryd.ntmps71 rfl ?_ hs
  have hl' : l.length ≤ 100000 := by omega
  (refine CW.seq ?_; refine CW.seq ?_; refine CW.region ?_; apply LW.v0; rfl; rfl; apply ValP.move; rfl; apply LW.v0; rfl; rfl; apply ValP.nilCheck; rfl; apply LW.v0; rfl; rfl; apply ValP.fieldAddr; rfl; rfl; apply LW.load; rfl; rfl; apply Known.at; apply FsAt.head; exact fm_rd18; apply LW.nil; refine thenN ?_; apply CW.condF; rfl; (with_reducible rfl); refine CW.skip ?_; refine thenN ?_)
  apply CW.pre
  (refine AnyW.anyS [(8, cst (byM l)), (10, apR 61 6 ps.length (ps.flatMap psc))] 11 mixed (by decide +kernel) ?_)
  ((try simp only [tsOf_cons, tsOf_nil, tsOf_app]); apply DW.v0; rfl; rfl; rfl; exact WantT.none; rfl; apply ValP.move; rfl; apply DW.v0; rfl; rfl; rfl; exact WantT.none; rfl; apply ValP.move; rfl; apply DW.v0; rfl; rfl; rfl; exact WantT.none; rfl; apply ValP.nilCheck; rfl; apply DW.v0; rfl; rfl; rfl; exact WantT.none; rfl; apply ValP.fieldAddr; rfl; rfl; apply DW.loadO; rfl; rfl; rfl; exact WantT.none; rfl; apply TRead.head; exact ancB_nil; exact fm_rd17; apply DW.v0; rfl; rfl; rfl; exact WantT.none; rfl; apply ValP.move; rfl; apply DW.v0; rfl; rfl; rfl; exact WantT.none; rfl; apply ValP.nilCheck; rfl; apply DW.loadO; rfl; rfl; rfl; exact WantT.none; rfl; apply TRead.head; exact ancB_nil; exact hrd)
  (apply DW.manyV; rfl; rfl; rfl; exact WantT.none; rfl; infer_instance; apply ArgsOk.cons; rfl; exact ArgsOk.nil; apply RdV.ext; assumption; rfl; exact RdV.nil; intro w _ _)
  exact pBytes_calls l dv w (hd.bel (by assumption)) hl'
  rintro v1 gs1 ⟨dv1, rfl, hrow1⟩
  have ho1 : dv1.oneCell' = true := by obtain ⟨a1, a2, a3⟩ := hrow1.form; rw [a3]; rfl
  ((try simp only [tsOf_cons, tsOf_nil, tsOf_app]); apply DW.layA; rfl; rfl; rfl; exact WantT.none; infer_instance; infer_instance; rfl; rfl; rfl; rfl; rfl; intro _)
  refine DW.appendY rfl rfl rfl (by (exact WantT.none)) rfl inferInstance inferInstance inferInstance rfl rfl rfl hP.row hP.ne (by (apply TOut.cons; apply TOut.app; apply TOut.cons; exact TOut.old)) (by (apply TRead.head; kernel_rfl)) rfl (fun x hx => List.all_eq_true.1 (psc_one (p := byP dv1 l) ho1) x hx) (by simp only [maxLen]; omega) (by omega) ?_
  intro v' seg' hrow'
  obtain ⟨p', c', rfl⟩ := hrow'.form
  ((try simp only [tsOf_cons, tsOf_nil, tsOf_app]); apply DW.nil; simp only [fsOf_cons, fsOf_nil, fsOf_app, fsOf_tsOf, fsOf_new, fsOf_tag])
  (apply LW.v0; rfl; rfl; apply ValP.nilCheck; rfl; apply LW.v0; rfl; rfl; apply ValP.fieldAddr; rfl; rfl; apply LW.store; rfl; rfl; apply SetAt.app; apply SetAt.tail; apply SetAt.app; apply SetAt.head; exact fm_wr17; apply LW.nil)
  apply inI
  (exact .inr rfl)
  (exact Shut.nil)
  rfl
  (exact ResL.nil)
  rfl
  exact ⟨_, _, List.Sublist.append_left (List.Sublist.cons _ (List.Sublist.refl _)) _, by rw [List.append_assoc]; exact perm3, rfl, dv1, _, seg', gs1 ++ gsD, hP.data hrow1 hrow', rfl⟩
/-! ### Numbers -/
theorem num_lt {n : Nat} (h : n < 18446744073709551616) : n < M256 := Nat.lt_of_lt_of_le h (by decide)
theorem numberF_lay {w0 : World} {bF off n : Nat} {u : OpV} {ps : List PartV} {pv : Value} {segO gsD rest : Fs} (hP : PS ps pv segO gsD) (hn : ps.length ≤ 100) (hlt : n < 18446744073709551616) (hrd : ∀ {pv E fr}, Rd Tryd.prog 23 (.cells (fma u pv false false) E fr) off (.int .u64 (n : Int)))
    (hwr : ∀ {pv}, Wr Tryd.prog 23 (.cells (fma u pv false false) 72 (0, 0)) off (.int .u64 (n : Int)) (.cells (fma u pv false false) 72 (0, 0))) (w : World)
    (hs : St w0 [] ((bF, .cells (fma u pv false false) 72 (0, 0)) :: (segO ++ (gsD ++ rest))) w) :
    Calls Tryd.prog 72 #[.pointer (some ⟨bF, 0, none⟩), .pointer (some ⟨bF, off, none⟩)] w (fun x w' => ∃ v fs', x = .returned v ∧ (v = .tuple #[] ∧ ∃ pv' segO', PS (ps ++ [ofP n]) pv' segO' gsD ∧ fs' = (bF, .cells (fma u pv' false false) 72 (0, 0)) :: (segO' ++ (gsD ++ rest))) ∧ St w0 [] fs' w') := by
  have hSm : ∀ w, Calls Tryd.prog 66 #[wv n] w (Ret w (.tuple #[.int .u64 (n : Int), .bool true])) := fun w => by
    have := Small_calls n (num_lt hlt) w
    rwa [if_pos hlt, decide_eq_true hlt] at this
  refine calls_sub ?_
  refine calls_inline (args := [_, _]) Tryd.func72 rfl Tryd.ntmps72 rfl ?_ hs
  (refine CW.seq ?_; refine CW.region ?_; apply LW.v0; rfl; rfl; apply ValP.move; rfl; apply LW.v0; rfl; rfl; apply ValP.nilCheck; rfl; apply LW.load; rfl; rfl; apply Known.at; apply FsAt.head; exact hrd; apply LW.callE; rfl; rfl; infer_instance; apply ArgsOk.cons; rfl; exact ArgsOk.nil; intro w _; exact Of_calls n hlt w; apply LW.allocW; rfl; intro _; apply LW.store; rfl; rfl; apply SetAt.head; apply Wr.whole; rfl; rfl; rfl; apply LW.nil; refine thenN ?_; refine CW.seq ?_; refine CW.region ?_; apply LW.v0; rfl; rfl; apply ValP.move; rfl)
  refine LW.callSt rfl rfl inferInstance (by (apply ArgsOk.cons; rfl; apply ArgsOk.cons; rfl; exact ArgsOk.nil)) (fun w hs => wordL_lay (mid := []) hP hn (num_lt hlt) w hs) ?_
  rintro v fs' ⟨rfl, pv', segO', hP', rfl⟩
  simp only [List.nil_append]
  (apply LW.nil; refine thenN ?_; refine CW.seq ?_; refine CW.region ?_; apply LW.load; rfl; rfl; apply Known.at; apply FsAt.head; exact Rd.whole rfl; apply LW.callE; rfl; rfl; infer_instance; apply ArgsOk.cons; rfl; exact ArgsOk.nil; intro w _; exact hSm w; apply LW.v0; rfl; rfl; apply ValP.move; rfl; apply LW.v0; rfl; rfl; apply ValP.extractN; rfl; rfl; apply LW.v0; rfl; rfl; apply ValP.extractN; rfl; rfl; apply LW.v0; rfl; rfl; apply ValP.assign; rfl; apply LW.v0; rfl; rfl; apply ValP.assign; rfl; apply LW.nil; refine thenN ?_; refine CW.region ?_; apply LW.v0; rfl; rfl; apply ValP.move; rfl; apply LW.v0; rfl; rfl; apply ValP.move; rfl; apply LW.v0; rfl; rfl; apply ValP.move; rfl; apply LW.v0; rfl; rfl; apply ValP.move; rfl; apply LW.v0; rfl; rfl; apply ValP.nilCheck; rfl; apply LW.v0; rfl; rfl; apply ValP.fieldAddr; rfl; rfl; apply LW.load; rfl; rfl; apply Known.at; apply FsAt.tail; apply FsAt.head; exact fm_rd19; apply LW.v0; rfl; rfl; apply ValP.move; rfl; apply LW.guardT'; rfl; rfl; (with_reducible rfl); apply LW.v0; rfl; rfl; apply ValP.move; rfl; apply LW.guardT'; rfl; rfl; (with_reducible rfl); apply LW.v0; rfl; rfl; apply ValP.notT; rfl; (with_reducible rfl); apply LW.v0; rfl; rfl; apply ValP.pickF'; rfl; (with_reducible rfl); rfl; apply LW.v0; rfl; rfl; apply ValP.nilCheck; rfl; apply LW.store; rfl; rfl; apply SetAt.tail; apply SetAt.head; exact hwr; apply LW.v0; rfl; rfl; apply ValP.nilCheck; rfl; apply LW.v0; rfl; rfl; apply ValP.fieldAddr; rfl; rfl; apply LW.store; rfl; rfl; apply SetAt.tail; apply SetAt.head; exact fm_wr19; apply LW.nil)
  apply inI
  (exact .inr rfl)
  (exact Shut.nil)
  rfl
  (exact ResL.nil)
  rfl
  exact ⟨_, List.Sublist.cons _ (List.Sublist.refl _), rfl, _, _, hP', rfl⟩
theorem numberL_lay {w0 : World} {bF bL n : Nat} {u : OpV} {ps : List PartV} {pv : Value} {segO gsD rest : Fs} (hP : PS ps pv segO gsD) (hn : ps.length ≤ 100) (hlt : n < 18446744073709551616) (w : World)
    (hs : St w0 [] ((bL, .cells #[.int .u64 (n : Int)] 23 (0, 0)) :: (bF, .cells (fma u pv false false) 72 (0, 0)) :: (segO ++ (gsD ++ rest))) w) :
    Calls Tryd.prog 72 #[.pointer (some ⟨bF, 0, none⟩), .pointer (some ⟨bL, 0, none⟩)] w (fun x w' => ∃ v fs', x = .returned v ∧ (v = .tuple #[] ∧ ∃ pv' segO', PS (ps ++ [ofP n]) pv' segO' gsD ∧ fs' = (bL, .cells #[.int .u64 (n : Int)] 23 (0, 0)) :: (bF, .cells (fma u pv' false false) 72 (0, 0)) :: (segO' ++ (gsD ++ rest))) ∧ St w0 [] fs' w') := by
  have hSm : ∀ w, Calls Tryd.prog 66 #[wv n] w (Ret w (.tuple #[.int .u64 (n : Int), .bool true])) := fun w => by
    have := Small_calls n (num_lt hlt) w
    rwa [if_pos hlt, decide_eq_true hlt] at this
  have hrd : True := trivial
  have hwr : True := trivial
  refine calls_sub ?_
  refine calls_inline (args := [_, _]) Tryd.func72 rfl Tryd.ntmps72 rfl ?_ hs
  (refine CW.seq ?_; refine CW.region ?_; apply LW.v0; rfl; rfl; apply ValP.move; rfl; apply LW.v0; rfl; rfl; apply ValP.nilCheck; rfl; apply LW.load; rfl; rfl; apply Known.at; apply FsAt.head; exact Rd.one' rfl; apply LW.callE; rfl; rfl; infer_instance; apply ArgsOk.cons; rfl; exact ArgsOk.nil; intro w _; exact Of_calls n hlt w; apply LW.allocW; rfl; intro _; apply LW.store; rfl; rfl; apply SetAt.head; apply Wr.whole; rfl; rfl; rfl; apply LW.nil; refine thenN ?_; refine CW.seq ?_; refine CW.region ?_; apply LW.v0; rfl; rfl; apply ValP.move; rfl)
  refine LW.callSt rfl rfl inferInstance (by (apply ArgsOk.cons; rfl; apply ArgsOk.cons; rfl; exact ArgsOk.nil)) (fun w hs => wordL_lay (mid := [(bL, .cells #[.int .u64 (n : Int)] 23 (0, 0))]) hP hn (num_lt hlt) w hs) ?_
  rintro v fs' ⟨rfl, pv', segO', hP', rfl⟩
  simp only [List.cons_append, List.nil_append]
  (apply LW.nil; refine thenN ?_; refine CW.seq ?_; refine CW.region ?_; apply LW.load; rfl; rfl; apply Known.at; apply FsAt.head; exact Rd.whole rfl; apply LW.callE; rfl; rfl; infer_instance; apply ArgsOk.cons; rfl; exact ArgsOk.nil; intro w _; exact hSm w; apply LW.v0; rfl; rfl; apply ValP.move; rfl; apply LW.v0; rfl; rfl; apply ValP.extractN; rfl; rfl; apply LW.v0; rfl; rfl; apply ValP.extractN; rfl; rfl; apply LW.v0; rfl; rfl; apply ValP.assign; rfl; apply LW.v0; rfl; rfl; apply ValP.assign; rfl; apply LW.nil; refine thenN ?_; refine CW.region ?_; apply LW.v0; rfl; rfl; apply ValP.move; rfl; apply LW.v0; rfl; rfl; apply ValP.move; rfl; apply LW.v0; rfl; rfl; apply ValP.move; rfl; apply LW.v0; rfl; rfl; apply ValP.move; rfl; apply LW.v0; rfl; rfl; apply ValP.nilCheck; rfl; apply LW.v0; rfl; rfl; apply ValP.fieldAddr; rfl; rfl; apply LW.load; rfl; rfl; apply Known.at; apply FsAt.tail; apply FsAt.tail; apply FsAt.head; exact fm_rd19; apply LW.v0; rfl; rfl; apply ValP.move; rfl; apply LW.guardT'; rfl; rfl; (with_reducible rfl); apply LW.v0; rfl; rfl; apply ValP.move; rfl; apply LW.guardT'; rfl; rfl; (with_reducible rfl); apply LW.v0; rfl; rfl; apply ValP.notT; rfl; (with_reducible rfl); apply LW.v0; rfl; rfl; apply ValP.pickF'; rfl; (with_reducible rfl); rfl; apply LW.v0; rfl; rfl; apply ValP.nilCheck; rfl; apply LW.store; rfl; rfl; apply SetAt.tail; apply SetAt.head; apply Wr.cells; rfl; rfl; simp only [List.size_toArray, List.length_cons, List.length_nil]; omega; simp only [fillC, wc, wrCells, Value.cells, List.toList_toArray, List.setIfInBounds_toArray, List.set_cons_succ, List.set_cons_zero, Nat.reduceAdd, Nat.reduceMul, Nat.zero_add, Nat.mul_one]; rfl; apply LW.v0; rfl; rfl; apply ValP.nilCheck; rfl; apply LW.v0; rfl; rfl; apply ValP.fieldAddr; rfl; rfl; apply LW.store; rfl; rfl; apply SetAt.tail; apply SetAt.tail; apply SetAt.head; exact fm_wr19; apply LW.nil)
  apply inI
  (exact .inr rfl)
  (exact Shut.nil)
  rfl
  (exact ResL.nil)
  rfl
  exact ⟨_, List.Sublist.cons _ (List.Sublist.refl _), rfl, _, _, hP', rfl⟩
theorem addr_lay {w0 : World} {bF off n : Nat} {u : OpV} {ps : List PartV} {pv : Value} {segO gsD rest : Fs} (hP : PS ps pv segO gsD) (hn : ps.length ≤ 100) (hlt : n < 18446744073709551616) (hrd : ∀ {pv E fr}, Rd Tryd.prog 25 (.cells (fma u pv false false) E fr) off (.int .u64 (n : Int)))
    (hwr : ∀ {pv}, Wr Tryd.prog 25 (.cells (fma u pv false false) 72 (0, 0)) off (.int .u64 (n : Int)) (.cells (fma u pv false false) 72 (0, 0))) (w : World)
    (hs : St w0 [] ((bF, .cells (fma u pv false false) 72 (0, 0)) :: (segO ++ (gsD ++ rest))) w) :
    Calls Tryd.prog 69 #[.pointer (some ⟨bF, 0, none⟩), .pointer (some ⟨bF, off, none⟩)] w (fun x w' => ∃ v fs', x = .returned v ∧ (v = .tuple #[] ∧ ∃ pv' segO', PS (ps ++ [ofP n]) pv' segO' gsD ∧ fs' = (bF, .cells (fma u pv' false false) 72 (0, 0)) :: (segO' ++ (gsD ++ rest))) ∧ St w0 [] fs' w') := by
  refine calls_sub ?_
  refine calls_inline (args := [_, _]) Tryd.func69 rfl Tryd.ntmps69 rfl ?_ hs
  (refine CW.seq ?_; refine CW.region ?_; apply LW.v0; rfl; rfl; apply ValP.move; rfl; apply LW.v0; rfl; rfl; apply ValP.nilCheck; rfl; apply LW.load; rfl; rfl; apply Known.at; apply FsAt.head; exact hrd; apply LW.alloc1; rfl; rfl; intro _; apply LW.store; rfl; rfl; apply SetAt.head; apply Wr.cells; rfl; rfl; simp only [List.size_toArray, List.length_cons, List.length_nil]; omega; simp only [fillC, wc, wrCells, Value.cells, List.toList_toArray, List.setIfInBounds_toArray, List.set_cons_succ, List.set_cons_zero, Nat.reduceAdd, Nat.reduceMul, Nat.zero_add, Nat.mul_one]; rfl; apply LW.nil; refine thenN ?_; refine CW.seq ?_; refine CW.region ?_; apply LW.v0; rfl; rfl; apply ValP.move; rfl)
  refine LW.callSt rfl rfl inferInstance (by (apply ArgsOk.cons; rfl; apply ArgsOk.cons; rfl; exact ArgsOk.nil)) (fun w hs => numberL_lay hP hn hlt w hs) ?_
  rintro v fs' ⟨rfl, pv', segO', hP', rfl⟩
  (apply LW.nil; refine thenN ?_; refine CW.region ?_; apply LW.v0; rfl; rfl; apply ValP.move; rfl; apply LW.load; rfl; rfl; apply Known.at; apply FsAt.head; exact Rd.one' rfl; apply LW.v0; rfl; rfl; apply ValP.nilCheck; rfl; apply LW.store; rfl; rfl; apply SetAt.tail; apply SetAt.head; exact hwr; apply LW.nil)
  apply inI
  (exact .inr rfl)
  (exact Shut.nil)
  rfl
  (exact ResL.nil)
  rfl
  exact ⟨_, List.Sublist.cons _ (List.Sublist.refl _), rfl, _, _, hP', rfl⟩
end Go.Proofs.YtobkhnmglbfheaaDoor

/-
  Operations of accounts laid: all fields, and their bytes.
  Conditions: none.
-/
namespace Go.Proofs.YtobkhnmglbfheaaDoor
open Go Go.RowKit SL
set_option maxRecDepth 8000
set_option maxHeartbeats 4000000
set_option linter.unusedSimpArgs false
set_option linter.unusedVariables false
attribute [local irreducible] SL.CW SL.LW SL.DW Calls SL.Ret SL.RetG SL.beginQ SL.roundQ SL.rangeQ SL.inQ SL.RW SL.AnyW SL.thenQ SL.thenC SL.thenW SL.blkQ SL.finQ SL.ValP SL.NewP SL.SetP SL.CallP SL.Rd SL.Wr SL.Known
/-- What has been laid behind ps. -/
def LayK (bF : Nat) (u : OpV) (ps : List PartV) (ds : List PD) (rest : Fs) (fs : Fs) : Prop := ∃ qs pv segO gsD, qs.map dat = ds ∧ PS (ps ++ qs) pv segO gsD ∧ fs = (bF, .cells (fma u pv false false) 72 (0, 0)) :: (segO ++ (gsD ++ rest))
theorem LayK.le {bF : Nat} {u : OpV} {ps : List PartV} {ds : List PD} {rest : Fs} {fs : Fs} {qs : List PartV} {pv : Value} {segO gsD : Fs} (h1 : qs.map dat = ds) (h2 : PS (ps ++ qs) pv segO gsD) (h3 : fs = (bF, .cells (fma u pv false false) 72 (0, 0)) :: (segO ++ (gsD ++ rest))) : LayK bF u ps ds rest fs := ⟨qs, pv, segO, gsD, h1, h2, h3⟩
def wdD (n : Nat) : PD := (false, n, [])
def byD (l : List UInt8) : PD := (true, 0, l)
/-- What a group of fields lays. -/
def Lays (f : FuncId) (k : OpV → List PD) : Prop := ∀ {w0 : World} {bF : Nat} {u : OpV} {ps : List PartV} {pv : Value} {segO gsD rest : Fs} (_ : OpAt w0 u) (_ : u.ib.length ≤ 1000 ∧ u.cb.length ≤ 1000 ∧ u.db.length ≤ 1000 ∧ u.gb.length ≤ 1000) (_ : PS ps pv segO gsD) (_ : ps.length ≤ 50) (w : World)
    (_ : St w0 [] ((bF, .cells (fma u pv false false) 72 (0, 0)) :: (segO ++ (gsD ++ rest))) w), Calls Tryd.prog f #[.pointer (some ⟨bF, 0, none⟩)] w (fun x w' => ∃ v fs', x = .returned v ∧ (v = .tuple #[] ∧ LayK bF u ps (k u) rest fs') ∧ St w0 [] fs' w')
theorem head_lay : Lays 47 fun u => [wdD u.sd, wdD u.no, byD u.ib, byD u.cb] := by
  intro w0 bF u ps pv segO gsD rest hu hl hP hn w hs
  refine calls_sub ?_
  refine calls_inline (args := [_]) Tryd.func47 rfl Tryd.ntmps47 rfl ?_ hs
  (refine CW.seq ?_; refine CW.region ?_; apply LW.v0; rfl; rfl; apply ValP.move; rfl; apply LW.v0; rfl; rfl; apply ValP.move; rfl; apply LW.v0; rfl; rfl; apply ValP.nilCheck; rfl; apply LW.v0; rfl; rfl; apply ValP.fieldAddr; rfl; rfl; apply LW.v0; rfl; rfl; apply ValP.fieldAddr; rfl; rfl)
  refine LW.callSt rfl rfl inferInstance (by (apply ArgsOk.cons; rfl; apply ArgsOk.cons; rfl; exact ArgsOk.nil)) (fun w hs => addr_lay (n := u.sd) hP (by omega) hu.num.sd (Rd.one rfl) (Wr.cells (n := 1) rfl rfl (by show _ + 1 ≤ 20; decide) rfl) w hs) ?_
  rintro v fs' ⟨rfl, pv1, segO1, hP1, rfl⟩
  (apply LW.nil; refine thenN ?_; refine CW.seq ?_; refine CW.region ?_; apply LW.v0; rfl; rfl; apply ValP.move; rfl; apply LW.v0; rfl; rfl; apply ValP.move; rfl; apply LW.v0; rfl; rfl; apply ValP.nilCheck; rfl; apply LW.v0; rfl; rfl; apply ValP.fieldAddr; rfl; rfl; apply LW.v0; rfl; rfl; apply ValP.fieldAddr; rfl; rfl)
  refine LW.callSt rfl rfl inferInstance (by (apply ArgsOk.cons; rfl; apply ArgsOk.cons; rfl; exact ArgsOk.nil)) (fun w hs => wordF_lay (a := u.no) hP1 (by simp only [List.length_append, List.length_singleton]; omega) hu.num.no fm_rd1 w hs) ?_
  rintro v fs' ⟨rfl, pv2, segO2, hP2, rfl⟩
  (apply LW.nil; refine thenN ?_; refine CW.seq ?_; refine CW.region ?_; apply LW.v0; rfl; rfl; apply ValP.move; rfl; apply LW.v0; rfl; rfl; apply ValP.move; rfl; apply LW.v0; rfl; rfl; apply ValP.nilCheck; rfl; apply LW.v0; rfl; rfl; apply ValP.fieldAddr; rfl; rfl; apply LW.v0; rfl; rfl; apply ValP.fieldAddr; rfl; rfl)
  refine LW.callSt rfl rfl inferInstance (by (apply ArgsOk.cons; rfl; apply ArgsOk.cons; rfl; exact ArgsOk.nil)) (fun w hs => data_lay (l := u.ib) (dv := u.iv) hP2 (by simp only [List.length_append, List.length_singleton]; omega) hl.1 hu.i (Rd.one rfl) w hs) ?_
  rintro v fs' ⟨rfl, d3, pv3, segO3, gsD3, hP3, rfl⟩
  (apply LW.nil; refine thenN ?_; refine CW.region ?_; apply LW.v0; rfl; rfl; apply ValP.move; rfl; apply LW.v0; rfl; rfl; apply ValP.move; rfl; apply LW.v0; rfl; rfl; apply ValP.nilCheck; rfl; apply LW.v0; rfl; rfl; apply ValP.fieldAddr; rfl; rfl; apply LW.v0; rfl; rfl; apply ValP.fieldAddr; rfl; rfl)
  refine LW.callSt rfl rfl inferInstance (by (apply ArgsOk.cons; rfl; apply ArgsOk.cons; rfl; exact ArgsOk.nil)) (fun w hs => data_lay (l := u.cb) (dv := u.cv) hP3 (by simp only [List.length_append, List.length_singleton]; omega) hl.2.1 hu.c (Rd.one rfl) w hs) ?_
  rintro v fs' ⟨rfl, d4, pv4, segO4, gsD4, hP4, rfl⟩
  (apply LW.nil)
  (apply inI; exact .inr rfl; exact Shut.nil; rfl; exact ResL.nil; rfl)
  simp only [List.append_assoc, List.cons_append, List.nil_append] at hP4
  exact ⟨_, List.Sublist.refl _, rfl, LayK.le rfl hP4 rfl⟩
theorem gas_lay : Lays 48 fun u => [wdD u.vg, wdD u.cg, wdD u.pg] := by
  intro w0 bF u ps pv segO gsD rest hu hl hP hn w hs
  refine calls_sub ?_
  refine calls_inline (args := [_]) Tryd.func48 rfl Tryd.ntmps48 rfl ?_ hs
  (refine CW.seq ?_; refine CW.region ?_; apply LW.v0; rfl; rfl; apply ValP.move; rfl; apply LW.v0; rfl; rfl; apply ValP.move; rfl; apply LW.v0; rfl; rfl; apply ValP.nilCheck; rfl; apply LW.v0; rfl; rfl; apply ValP.fieldAddr; rfl; rfl; apply LW.v0; rfl; rfl; apply ValP.fieldAddr; rfl; rfl)
  refine LW.callSt rfl rfl inferInstance (by (apply ArgsOk.cons; rfl; apply ArgsOk.cons; rfl; exact ArgsOk.nil)) (fun w hs => numberF_lay (n := u.vg) hP (by omega) hu.num.vg (Rd.one rfl) (Wr.cells (n := 1) rfl rfl (by show _ + 1 ≤ 20; decide) rfl) w hs) ?_
  rintro v fs' ⟨rfl, pv1, segO1, hP1, rfl⟩
  (apply LW.nil; refine thenN ?_; refine CW.seq ?_; refine CW.region ?_; apply LW.v0; rfl; rfl; apply ValP.move; rfl; apply LW.v0; rfl; rfl; apply ValP.move; rfl; apply LW.v0; rfl; rfl; apply ValP.nilCheck; rfl; apply LW.v0; rfl; rfl; apply ValP.fieldAddr; rfl; rfl; apply LW.v0; rfl; rfl; apply ValP.fieldAddr; rfl; rfl)
  refine LW.callSt rfl rfl inferInstance (by (apply ArgsOk.cons; rfl; apply ArgsOk.cons; rfl; exact ArgsOk.nil)) (fun w hs => numberF_lay (n := u.cg) hP1 (by simp only [List.length_append, List.length_singleton]; omega) hu.num.cg (Rd.one rfl) (Wr.cells (n := 1) rfl rfl (by show _ + 1 ≤ 20; decide) rfl) w hs) ?_
  rintro v fs' ⟨rfl, pv2, segO2, hP2, rfl⟩
  (apply LW.nil; refine thenN ?_; refine CW.region ?_; apply LW.v0; rfl; rfl; apply ValP.move; rfl; apply LW.v0; rfl; rfl; apply ValP.move; rfl; apply LW.v0; rfl; rfl; apply ValP.nilCheck; rfl; apply LW.v0; rfl; rfl; apply ValP.fieldAddr; rfl; rfl; apply LW.v0; rfl; rfl; apply ValP.fieldAddr; rfl; rfl)
  refine LW.callSt rfl rfl inferInstance (by (apply ArgsOk.cons; rfl; apply ArgsOk.cons; rfl; exact ArgsOk.nil)) (fun w hs => numberF_lay (n := u.pg) hP2 (by simp only [List.length_append, List.length_singleton]; omega) hu.num.pg (Rd.one rfl) (Wr.cells (n := 1) rfl rfl (by show _ + 1 ≤ 20; decide) rfl) w hs) ?_
  rintro v fs' ⟨rfl, pv3, segO3, hP3, rfl⟩
  (apply LW.nil)
  (apply inI; exact .inr rfl; exact Shut.nil; rfl; exact ResL.nil; rfl)
  simp only [List.append_assoc, List.cons_append, List.nil_append] at hP3
  exact ⟨_, List.Sublist.refl _, rfl, LayK.le rfl hP3 rfl⟩
theorem fees_lay : Lays 49 fun u => [wdD u.mf, wdD u.mp] := by
  intro w0 bF u ps pv segO gsD rest hu hl hP hn w hs
  refine calls_sub ?_
  refine calls_inline (args := [_]) Tryd.func49 rfl Tryd.ntmps49 rfl ?_ hs
  (refine CW.seq ?_; refine CW.region ?_; apply LW.v0; rfl; rfl; apply ValP.move; rfl; apply LW.v0; rfl; rfl; apply ValP.move; rfl; apply LW.v0; rfl; rfl; apply ValP.nilCheck; rfl; apply LW.v0; rfl; rfl; apply ValP.fieldAddr; rfl; rfl; apply LW.v0; rfl; rfl; apply ValP.fieldAddr; rfl; rfl)
  refine LW.callSt rfl rfl inferInstance (by (apply ArgsOk.cons; rfl; apply ArgsOk.cons; rfl; exact ArgsOk.nil)) (fun w hs => numberF_lay (n := u.mf) hP (by omega) hu.num.mf (Rd.one rfl) (Wr.cells (n := 1) rfl rfl (by show _ + 1 ≤ 20; decide) rfl) w hs) ?_
  rintro v fs' ⟨rfl, pv1, segO1, hP1, rfl⟩
  (apply LW.nil; refine thenN ?_; refine CW.region ?_; apply LW.v0; rfl; rfl; apply ValP.move; rfl; apply LW.v0; rfl; rfl; apply ValP.move; rfl; apply LW.v0; rfl; rfl; apply ValP.nilCheck; rfl; apply LW.v0; rfl; rfl; apply ValP.fieldAddr; rfl; rfl; apply LW.v0; rfl; rfl; apply ValP.fieldAddr; rfl; rfl)
  refine LW.callSt rfl rfl inferInstance (by (apply ArgsOk.cons; rfl; apply ArgsOk.cons; rfl; exact ArgsOk.nil)) (fun w hs => numberF_lay (n := u.mp) hP1 (by simp only [List.length_append, List.length_singleton]; omega) hu.num.mp (Rd.one rfl) (Wr.cells (n := 1) rfl rfl (by show _ + 1 ≤ 20; decide) rfl) w hs) ?_
  rintro v fs' ⟨rfl, pv2, segO2, hP2, rfl⟩
  (apply LW.nil)
  (apply inI; exact .inr rfl; exact Shut.nil; rfl; exact ResL.nil; rfl)
  simp only [List.append_assoc, List.cons_append, List.nil_append] at hP2
  exact ⟨_, List.Sublist.refl _, rfl, LayK.le rfl hP2 rfl⟩
theorem payer_lay : Lays 50 fun u => [wdD u.py, wdD u.pv, wdD u.pp] := by
  intro w0 bF u ps pv segO gsD rest hu hl hP hn w hs
  refine calls_sub ?_
  refine calls_inline (args := [_]) Tryd.func50 rfl Tryd.ntmps50 rfl ?_ hs
  (refine CW.seq ?_; refine CW.region ?_; apply LW.v0; rfl; rfl; apply ValP.move; rfl; apply LW.v0; rfl; rfl; apply ValP.move; rfl; apply LW.v0; rfl; rfl; apply ValP.nilCheck; rfl; apply LW.v0; rfl; rfl; apply ValP.fieldAddr; rfl; rfl; apply LW.v0; rfl; rfl; apply ValP.fieldAddr; rfl; rfl)
  refine LW.callSt rfl rfl inferInstance (by (apply ArgsOk.cons; rfl; apply ArgsOk.cons; rfl; exact ArgsOk.nil)) (fun w hs => addr_lay (n := u.py) hP (by omega) hu.num.py (Rd.one rfl) (Wr.cells (n := 1) rfl rfl (by show _ + 1 ≤ 20; decide) rfl) w hs) ?_
  rintro v fs' ⟨rfl, pv1, segO1, hP1, rfl⟩
  (apply LW.nil; refine thenN ?_; refine CW.seq ?_; refine CW.region ?_; apply LW.v0; rfl; rfl; apply ValP.move; rfl; apply LW.v0; rfl; rfl; apply ValP.move; rfl; apply LW.v0; rfl; rfl; apply ValP.nilCheck; rfl; apply LW.v0; rfl; rfl; apply ValP.fieldAddr; rfl; rfl; apply LW.v0; rfl; rfl; apply ValP.fieldAddr; rfl; rfl)
  refine LW.callSt rfl rfl inferInstance (by (apply ArgsOk.cons; rfl; apply ArgsOk.cons; rfl; exact ArgsOk.nil)) (fun w hs => numberF_lay (n := u.pv) hP1 (by simp only [List.length_append, List.length_singleton]; omega) hu.num.pv (Rd.one rfl) (Wr.cells (n := 1) rfl rfl (by show _ + 1 ≤ 20; decide) rfl) w hs) ?_
  rintro v fs' ⟨rfl, pv2, segO2, hP2, rfl⟩
  (apply LW.nil; refine thenN ?_; refine CW.region ?_; apply LW.v0; rfl; rfl; apply ValP.move; rfl; apply LW.v0; rfl; rfl; apply ValP.move; rfl; apply LW.v0; rfl; rfl; apply ValP.nilCheck; rfl; apply LW.v0; rfl; rfl; apply ValP.fieldAddr; rfl; rfl; apply LW.v0; rfl; rfl; apply ValP.fieldAddr; rfl; rfl)
  refine LW.callSt rfl rfl inferInstance (by (apply ArgsOk.cons; rfl; apply ArgsOk.cons; rfl; exact ArgsOk.nil)) (fun w hs => numberF_lay (n := u.pp) hP2 (by simp only [List.length_append, List.length_singleton]; omega) hu.num.pp (Rd.one rfl) (Wr.cells (n := 1) rfl rfl (by show _ + 1 ≤ 20; decide) rfl) w hs) ?_
  rintro v fs' ⟨rfl, pv3, segO3, hP3, rfl⟩
  (apply LW.nil)
  (apply inI; exact .inr rfl; exact Shut.nil; rfl; exact ResL.nil; rfl)
  simp only [List.append_assoc, List.cons_append, List.nil_append] at hP3
  exact ⟨_, List.Sublist.refl _, rfl, LayK.le rfl hP3 rfl⟩
theorem tail_lay : Lays 51 fun u => [byD u.db, byD u.gb] := by
  intro w0 bF u ps pv segO gsD rest hu hl hP hn w hs
  refine calls_sub ?_
  refine calls_inline (args := [_]) Tryd.func51 rfl Tryd.ntmps51 rfl ?_ hs
  (refine CW.seq ?_; refine CW.region ?_; apply LW.v0; rfl; rfl; apply ValP.move; rfl; apply LW.v0; rfl; rfl; apply ValP.move; rfl; apply LW.v0; rfl; rfl; apply ValP.nilCheck; rfl; apply LW.v0; rfl; rfl; apply ValP.fieldAddr; rfl; rfl; apply LW.v0; rfl; rfl; apply ValP.fieldAddr; rfl; rfl)
  refine LW.callSt rfl rfl inferInstance (by (apply ArgsOk.cons; rfl; apply ArgsOk.cons; rfl; exact ArgsOk.nil)) (fun w hs => data_lay (l := u.db) (dv := u.dv) hP (by omega) hl.2.2.1 hu.d (Rd.one rfl) w hs) ?_
  rintro v fs' ⟨rfl, d3, pv3, segO3, gsD3, hP3, rfl⟩
  (apply LW.nil; refine thenN ?_; refine CW.region ?_; apply LW.v0; rfl; rfl; apply ValP.move; rfl; apply LW.v0; rfl; rfl; apply ValP.move; rfl; apply LW.v0; rfl; rfl; apply ValP.nilCheck; rfl; apply LW.v0; rfl; rfl; apply ValP.fieldAddr; rfl; rfl; apply LW.v0; rfl; rfl; apply ValP.fieldAddr; rfl; rfl)
  refine LW.callSt rfl rfl inferInstance (by (apply ArgsOk.cons; rfl; apply ArgsOk.cons; rfl; exact ArgsOk.nil)) (fun w hs => data_lay (l := u.gb) (dv := u.gv) hP3 (by simp only [List.length_append, List.length_singleton]; omega) hl.2.2.2 hu.g (Rd.one rfl) w hs) ?_
  rintro v fs' ⟨rfl, d4, pv4, segO4, gsD4, hP4, rfl⟩
  (apply LW.nil)
  (apply inI; exact .inr rfl; exact Shut.nil; rfl; exact ResL.nil; rfl)
  simp only [List.append_assoc, List.cons_append, List.nil_append] at hP4
  exact ⟨_, List.Sublist.refl _, rfl, LayK.le rfl hP4 rfl⟩
end Go.Proofs.YtobkhnmglbfheaaDoor

/-
  Operations of accounts laid: their bytes.
  Conditions: none.
-/
namespace Go.Proofs.YtobkhnmglbfheaaDoor
open Go Go.RowKit SL
set_option maxRecDepth 8000
set_option maxHeartbeats 4000000
set_option linter.unusedSimpArgs false
set_option linter.unusedVariables false
attribute [local irreducible] SL.CW SL.LW SL.DW Calls SL.Ret SL.RetG SL.beginQ SL.roundQ SL.rangeQ SL.inQ SL.RW SL.AnyW SL.thenQ SL.thenC SL.thenW SL.blkQ SL.finQ SL.ValP SL.NewP SL.SetP SL.CallP SL.Rd SL.Wr SL.Known
/-- What an operation lays. -/
def opD (u : OpV) : List PD := [wdD u.sd, wdD u.no, byD u.ib, byD u.cb, wdD u.vg, wdD u.cg, wdD u.pg, wdD u.mf, wdD u.mp, wdD u.py, wdD u.pv, wdD u.pp, byD u.db, byD u.gb]
theorem goes_lay {w0 : World} {bF : Nat} {u : OpV} {rest : Fs} (hu : OpAt w0 u) (hl : u.ib.length ≤ 1000 ∧ u.cb.length ≤ 1000 ∧ u.db.length ≤ 1000 ∧ u.gb.length ≤ 1000) (w : World)
    (hs : St w0 [] ((bF, .cells (fma u (.slice none 0 0) false false) 72 (0, 0)) :: rest) w) :
    Calls Tryd.prog 34 #[.pointer (some ⟨bF, 0, none⟩)] w (fun x w' => ∃ v fs', x = .returned v ∧ (v = .tuple #[] ∧ LayK bF u [] (opD u) rest fs') ∧ St w0 [] fs' w') := by
  refine calls_sub ?_
  refine calls_inline (args := [_]) Tryd.func34 rfl Tryd.ntmps34 rfl ?_ hs
  have hP : PS [] (.slice none 0 0) [] [] := ⟨.nil, DatAt.nil, (fun _ h => by cases h), .inl rfl⟩
  (refine CW.seq ?_; refine CW.region ?_; apply LW.v0; rfl; rfl; apply ValP.move; rfl; apply LW.v0; rfl; rfl; apply ValP.makeFunc; apply ArgsOk.cons; rfl; exact ArgsOk.nil; exact ArgsOk.nil; apply LW.v0; rfl; rfl; apply ValP.move; rfl; apply LW.v0; rfl; rfl; apply ValP.makeFunc; apply ArgsOk.cons; rfl; exact ArgsOk.nil; exact ArgsOk.nil; apply LW.v0; rfl; rfl; apply ValP.move; rfl; apply LW.v0; rfl; rfl; apply ValP.makeFunc; apply ArgsOk.cons; rfl; exact ArgsOk.nil; exact ArgsOk.nil; apply LW.v0; rfl; rfl; apply ValP.move; rfl; apply LW.v0; rfl; rfl; apply ValP.makeFunc; apply ArgsOk.cons; rfl; exact ArgsOk.nil; exact ArgsOk.nil; apply LW.v0; rfl; rfl; apply ValP.move; rfl; apply LW.v0; rfl; rfl; apply ValP.makeFunc; apply ArgsOk.cons; rfl; exact ArgsOk.nil; exact ArgsOk.nil; apply LW.v0; rfl; rfl; apply ValP.buildA; apply PartsOk.cons; rfl; apply PartsOk.cons; rfl; apply PartsOk.cons; rfl; apply PartsOk.cons; rfl; apply PartsOk.cons; rfl; exact PartsOk.nil; rfl; simp only [fillC, wc, wrCells, Value.cells, List.toList_toArray, List.setIfInBounds_toArray, List.set_cons_succ, List.set_cons_zero, Nat.reduceAdd, Nat.reduceMul, Nat.zero_add, Nat.mul_one]; rfl; apply LW.v0; rfl; rfl; apply ValP.move; rfl; apply LW.nil; refine thenN ?_; refine CW.block ?_)
  refine CW.rounds 6 ?_
  apply RW.step
  (refine CW.seq ?_; refine CW.region ?_; apply LW.v0; rfl; rfl; apply ValP.lssT; rfl; rfl; omega; apply LW.nil; refine thenN ?_; refine CW.seq ?_; apply CW.condT; rfl; (with_reducible rfl); refine CW.skip ?_; refine thenN ?_; refine CW.seq ?_; refine CW.block ?_; refine CW.seq ?_; refine CW.region ?_; apply LW.v0; rfl; rfl; apply ValP.indexAL; rfl; rfl; rfl; rfl; rfl; apply LW.v0; rfl; rfl; apply ValP.assign; rfl; apply LW.nil; refine thenN ?_; refine CW.region ?_; apply LW.v0; rfl; rfl; apply ValP.move; rfl)
  refine LW.callStF (aas := [_]) rfl rfl inferInstance .nil rfl (fun w hs => head_lay hu hl hP (by simp only [List.length_append, List.length_nil]; omega) w hs) ?_
  rintro v fs' ⟨rfl, qs1, pv1, segO1, gsD1, hq1, hP1, rfl⟩
  have hl1 : qs1.length = 4 := by have := congrArg List.length hq1; simpa using this
  (apply LW.nil; refine blkN ?_; refine thenN ?_; refine CW.region ?_; apply LW.v0; rfl; rfl; apply ValP.addI; rfl; rfl; omega; omega; apply LW.v0; rfl; rfl; apply ValP.move; rfl; apply LW.nil; refine thenL ?_)
  apply RW.step
  (refine CW.seq ?_; refine CW.region ?_; apply LW.v0; rfl; rfl; apply ValP.lssT; rfl; rfl; omega; apply LW.nil; refine thenN ?_; refine CW.seq ?_; apply CW.condT; rfl; (with_reducible rfl); refine CW.skip ?_; refine thenN ?_; refine CW.seq ?_; refine CW.block ?_; refine CW.seq ?_; refine CW.region ?_; apply LW.v0; rfl; rfl; apply ValP.indexAL; rfl; rfl; rfl; rfl; rfl; apply LW.v0; rfl; rfl; apply ValP.assign; rfl; apply LW.nil; refine thenN ?_; refine CW.region ?_; apply LW.v0; rfl; rfl; apply ValP.move; rfl)
  refine LW.callStF (aas := [_]) rfl rfl inferInstance .nil rfl (fun w hs => gas_lay hu hl hP1 (by simp only [List.length_append, List.length_nil, hl1]; omega) w hs) ?_
  rintro v fs' ⟨rfl, qs2, pv2, segO2, gsD2, hq2, hP2, rfl⟩
  have hl2 : qs2.length = 3 := by have := congrArg List.length hq2; simpa using this
  (apply LW.nil; refine blkN ?_; refine thenN ?_; refine CW.region ?_; apply LW.v0; rfl; rfl; apply ValP.addI; rfl; rfl; omega; omega; apply LW.v0; rfl; rfl; apply ValP.move; rfl; apply LW.nil; refine thenL ?_)
  apply RW.step
  (refine CW.seq ?_; refine CW.region ?_; apply LW.v0; rfl; rfl; apply ValP.lssT; rfl; rfl; omega; apply LW.nil; refine thenN ?_; refine CW.seq ?_; apply CW.condT; rfl; (with_reducible rfl); refine CW.skip ?_; refine thenN ?_; refine CW.seq ?_; refine CW.block ?_; refine CW.seq ?_; refine CW.region ?_; apply LW.v0; rfl; rfl; apply ValP.indexAL; rfl; rfl; rfl; rfl; rfl; apply LW.v0; rfl; rfl; apply ValP.assign; rfl; apply LW.nil; refine thenN ?_; refine CW.region ?_; apply LW.v0; rfl; rfl; apply ValP.move; rfl)
  refine LW.callStF (aas := [_]) rfl rfl inferInstance .nil rfl (fun w hs => fees_lay hu hl hP2 (by simp only [List.length_append, List.length_nil, hl1, hl2]; omega) w hs) ?_
  rintro v fs' ⟨rfl, qs3, pv3, segO3, gsD3, hq3, hP3, rfl⟩
  have hl3 : qs3.length = 2 := by have := congrArg List.length hq3; simpa using this
  (apply LW.nil; refine blkN ?_; refine thenN ?_; refine CW.region ?_; apply LW.v0; rfl; rfl; apply ValP.addI; rfl; rfl; omega; omega; apply LW.v0; rfl; rfl; apply ValP.move; rfl; apply LW.nil; refine thenL ?_)
  apply RW.step
  (refine CW.seq ?_; refine CW.region ?_; apply LW.v0; rfl; rfl; apply ValP.lssT; rfl; rfl; omega; apply LW.nil; refine thenN ?_; refine CW.seq ?_; apply CW.condT; rfl; (with_reducible rfl); refine CW.skip ?_; refine thenN ?_; refine CW.seq ?_; refine CW.block ?_; refine CW.seq ?_; refine CW.region ?_; apply LW.v0; rfl; rfl; apply ValP.indexAL; rfl; rfl; rfl; rfl; rfl; apply LW.v0; rfl; rfl; apply ValP.assign; rfl; apply LW.nil; refine thenN ?_; refine CW.region ?_; apply LW.v0; rfl; rfl; apply ValP.move; rfl)
  refine LW.callStF (aas := [_]) rfl rfl inferInstance .nil rfl (fun w hs => payer_lay hu hl hP3 (by simp only [List.length_append, List.length_nil, hl1, hl2, hl3]; omega) w hs) ?_
  rintro v fs' ⟨rfl, qs4, pv4, segO4, gsD4, hq4, hP4, rfl⟩
  have hl4 : qs4.length = 3 := by have := congrArg List.length hq4; simpa using this
  (apply LW.nil; refine blkN ?_; refine thenN ?_; refine CW.region ?_; apply LW.v0; rfl; rfl; apply ValP.addI; rfl; rfl; omega; omega; apply LW.v0; rfl; rfl; apply ValP.move; rfl; apply LW.nil; refine thenL ?_)
  apply RW.step
  (refine CW.seq ?_; refine CW.region ?_; apply LW.v0; rfl; rfl; apply ValP.lssT; rfl; rfl; omega; apply LW.nil; refine thenN ?_; refine CW.seq ?_; apply CW.condT; rfl; (with_reducible rfl); refine CW.skip ?_; refine thenN ?_; refine CW.seq ?_; refine CW.block ?_; refine CW.seq ?_; refine CW.region ?_; apply LW.v0; rfl; rfl; apply ValP.indexAL; rfl; rfl; rfl; rfl; rfl; apply LW.v0; rfl; rfl; apply ValP.assign; rfl; apply LW.nil; refine thenN ?_; refine CW.region ?_; apply LW.v0; rfl; rfl; apply ValP.move; rfl)
  refine LW.callStF (aas := [_]) rfl rfl inferInstance .nil rfl (fun w hs => tail_lay hu hl hP4 (by simp only [List.length_append, List.length_nil, hl1, hl2, hl3, hl4]; omega) w hs) ?_
  rintro v fs' ⟨rfl, qs5, pv5, segO5, gsD5, hq5, hP5, rfl⟩
  have hl5 : qs5.length = 2 := by have := congrArg List.length hq5; simpa using this
  (apply LW.nil; refine blkN ?_; refine thenN ?_; refine CW.region ?_; apply LW.v0; rfl; rfl; apply ValP.addI; rfl; rfl; omega; omega; apply LW.v0; rfl; rfl; apply ValP.move; rfl; apply LW.nil; refine thenL ?_)
  apply RW.step
  (refine CW.seq ?_; refine CW.region ?_; apply LW.v0; rfl; rfl; apply ValP.lssF; rfl; rfl; omega; apply LW.nil; refine thenN ?_; refine CW.seq ?_; apply CW.condF; rfl; (with_reducible rfl); refine CW.exit ?_; refine thenE ?_; refine thenE ?_; refine blkE rfl ?_)
  (apply inI; exact .inr rfl; exact Shut.nil; rfl; exact ResL.nil; rfl)
  simp only [List.append_assoc, List.nil_append] at hP5
  exact ⟨_, List.Sublist.refl _, rfl, LayK.le (qs := qs1 ++ (qs2 ++ (qs3 ++ (qs4 ++ qs5)))) (by simp only [List.map_append, hq1, hq2, hq3, hq4, hq5]; rfl) hP5 rfl⟩
end Go.Proofs.YtobkhnmglbfheaaDoor

/-
  Operations of accounts: their bytes, and the form of their parts.
  Conditions: none.
-/
namespace Go.Proofs.YtobkhnmglbfheaaDoor
open Go Go.RowKit SL
set_option maxRecDepth 8000
set_option maxHeartbeats 4000000
set_option linter.unusedSimpArgs false
set_option linter.unusedVariables false
attribute [local irreducible] SL.CW SL.LW SL.DW Calls SL.Ret SL.RetG SL.beginQ SL.roundQ SL.rangeQ SL.inQ SL.RW SL.AnyW SL.thenQ SL.thenC SL.thenW SL.blkQ SL.finQ SL.ValP SL.NewP SL.SetP SL.CallP SL.Rd SL.Wr SL.Known
/-- The parts of an operation. -/
def opL (u : OpV) : List PartV := (opD u).map toP
theorem opL_dat (u : OpV) : (opL u).map dat = opD u := by
  rw [opL, List.map_map]
  exact (List.map_congr_left (fun d _ => dat_toP d)).trans (List.map_id _)
theorem opL_len (u : OpV) : (opL u).length = 14 := rfl
theorem right_wd (n : Nat) : rightP (toP (wdD n)) = true := rfl
theorem right_by {l : List UInt8} (h : l.length ≤ 200) : rightP (toP (byD l)) = true := by
  rw [rightP_long rfl]
  show (decide ((0 : Nat) = 0) && decide (l.length ≤ 200)) = true
  rw [decide_eq_true h]; rfl
theorem opL_chk {u : OpV} (h : okU u) : chkP (opL u) = 0 := by
  unfold okU at h
  obtain ⟨-, -, ⟨h1, h2, h3, h4⟩, -⟩ := h
  have h1 : okP (opL u) = true := by
    simp only [okP, opL, opD, List.map_cons, List.map_nil, List.all_cons, List.all_nil, right_wd, right_by h1, right_by h2, right_by h3, right_by h4, Bool.and_self]
  rw [chkP, opL_len, if_neg (by decide), h1]; rfl
theorem PS.at {ps : List PartV} {pv : Value} {segO gsD : Fs} (h : PS ps pv segO gsD) {w : World} (h1 : ∀ q ∈ segO, w.heap[q.1]? = some q.2) (h2 : ∀ q ∈ gsD, w.heap[q.1]? = some q.2) : PartsAt w pv ps :=
  ⟨h.row.us h1 (List.Sublist.refl _), h.small, h.dat w h2⟩
def encB (u : OpV) : List UInt8 := layF (opL u)
theorem encode_calls (u : OpV) (w : World) (hu : OpAt w u) (ho : okU u) : Calls Tryd.prog 24 #[.agg (opa u)] w (RetG w [] fun v gs => ∃ bv, v = .tuple #[bv, .int .i64 0] ∧ IsRow 5 1 bv (encB u).length (ucs (encB u)) gs) := by
  have hl : u.ib.length ≤ 1000 ∧ u.cb.length ≤ 1000 ∧ u.db.length ≤ 1000 ∧ u.gb.length ≤ 1000 := by unfold okU at ho; omega
  refine enter (args := [_]) _ [] [] Tryd.func24 rfl Tryd.ntmps24 rfl (by simp) .nil ?_
  (refine CW.seq ?_; refine CW.region ?_; apply LW.boxA; rfl; rfl; intro _; apply LW.v0; rfl; rfl; apply ValP.assign; rfl; apply LW.v0; rfl; rfl; apply ValP.assign; rfl; apply LW.nil; refine thenN ?_; refine CW.seq ?_; refine CW.region ?_; apply LW.load; rfl; rfl; apply Known.at; apply FsAt.head; exact op_rdW; apply LW.v0; rfl; rfl; apply ValP.buildT; infer_instance; infer_instance; apply PartsOk.cons; rfl; exact PartsOk.nil; rfl; simp only [opa, opc, wc, fillP, wrCells, Value.cells, List.getElem?_cons_zero, List.getElem?_cons_succ, List.toList_toArray, List.setIfInBounds_toArray, List.set_cons_succ, List.set_cons_zero, Nat.reduceAdd, Nat.zero_add, List.cons_append, List.nil_append]; rfl; apply LW.boxA; rfl; rfl; intro _; apply LW.v0; rfl; rfl; apply ValP.assign; rfl; apply LW.nil; refine thenN ?_; refine CW.seq ?_; refine CW.region ?_; apply LW.v0; rfl; rfl; apply ValP.move; rfl)
  rename_i b1 bF
  refine LW.callSt rfl rfl inferInstance (by (apply ArgsOk.cons; rfl; exact ArgsOk.nil)) (fun w hs => goes_lay hu hl w hs) ?_
  rintro v fs' ⟨rfl, qs, pv, segO, gsD, hq, hP, rfl⟩
  rw [List.nil_append] at hP
  have hdat : qs.map dat = (opL u).map dat := hq.trans (opL_dat u).symm
  (apply LW.nil; refine thenN ?_; refine CW.seq ?_; refine CW.region ?_; apply LW.v0; rfl; rfl; apply ValP.move; rfl; apply LW.v0; rfl; rfl; apply ValP.nilCheck; rfl; apply LW.v0; rfl; rfl; apply ValP.fieldAddr; rfl; rfl; apply LW.load; rfl; rfl; apply Known.at; apply FsAt.head; exact fm_rd17)
  refine LW.callR rfl rfl inferInstance (by (apply ArgsOk.cons; rfl; exact ArgsOk.nil)) (fun w hst => Lay_calls qs pv w (hP.at (fun q hq => (hst.own q (by simp [hq])).2) (fun q hq => (hst.own q (by simp [hq])).2))) ?_
  rintro v5 gs5 ⟨bv, rfl, hrow⟩
  rw [chk_dat hdat, opL_chk ho, if_pos rfl, if_pos rfl, lay_dat hdat] at hrow
  rw [chk_dat hdat, opL_chk ho]
  (apply LW.v0; rfl; rfl; apply ValP.extractN; rfl; rfl; apply LW.v0; rfl; rfl; apply ValP.extractN; rfl; rfl; apply LW.v0; rfl; rfl; apply ValP.assign; rfl; apply LW.v0; rfl; rfl; apply ValP.assign; rfl; apply LW.nil; refine thenN ?_; refine CW.ret ?_)
  refine fin (vs := [bv, .int .i64 0]) gs5 (.inl rfl) rfl rfl (by (apply ResL.cons; exact Res.tmp rfl; apply ResL.cons; exact Res.tmp rfl; exact ResL.nil)) (List.sublist_append_left _ _) ⟨bv, rfl, hrow⟩
theorem Encode_calls (u : OpV) (w : World) (hu : OpAt w u) : Calls Tryd.prog 11 #[.agg (opa u)] w (RetG w [] fun v gs => ∃ bv, v = .tuple #[bv, .int .i64 (if okU u then 0 else 280)] ∧ IsRow 5 1 bv (if okU u then (encB u).length else 0) (ucs (if okU u then encB u else [])) gs) := by
  have hCk0 : ∀ w' {fs}, St w [] fs w' → Calls Tryd.prog 8 #[.agg (opa u)] w' (Ret w' (.int .i64 (if okU u then 0 else 280))) := fun w' fs hst => Check_u_calls u w' (hu.st hst)
  by_cases ho : okU u
  · rw [if_pos ho] at hCk0
    have hCk := hCk0
    rw [if_pos ho, if_pos ho, if_pos ho]
    refine enter (args := [_]) _ [] [] Tryd.func11 rfl Tryd.ntmps11 rfl (by simp) .nil ?_
    (refine CW.seq ?_; refine CW.region ?_; apply LW.boxA; rfl; rfl; intro _; apply LW.v0; rfl; rfl; apply ValP.assign; rfl; apply LW.v0; rfl; rfl; apply ValP.assign; rfl; apply LW.nil; refine thenN ?_; refine CW.seq ?_; refine CW.seq ?_; refine CW.region ?_; apply LW.load; rfl; rfl; apply Known.at; apply FsAt.head; exact op_rdW; apply LW.callE; rfl; rfl; infer_instance; apply ArgsOk.cons; rfl; exact ArgsOk.nil; intro w _; exact hCk w (by assumption); apply LW.v0; rfl; rfl; apply ValP.assign; rfl; apply LW.nil; refine thenN ?_; refine CW.seq ?_; refine CW.region ?_; apply LW.v0; rfl; rfl; apply ValP.move; rfl; apply LW.v0; rfl; rfl; apply ValP.neF; rfl; rfl; omega; apply LW.nil; refine thenN ?_; apply CW.condF; rfl; (with_reducible rfl); refine CW.skip ?_; refine thenN ?_; refine CW.seq ?_; refine CW.region ?_; apply LW.load; rfl; rfl; apply Known.at; apply FsAt.head; exact op_rdW)
    refine LW.callR rfl rfl inferInstance (by (apply ArgsOk.cons; rfl; exact ArgsOk.nil)) (fun w hst => encode_calls u w (hu.st hst) ho) ?_
    rintro v5 gs5 ⟨bv, rfl, hrow⟩
    (apply LW.v0; rfl; rfl; apply ValP.extractN; rfl; rfl; apply LW.v0; rfl; rfl; apply ValP.extractN; rfl; rfl; apply LW.v0; rfl; rfl; apply ValP.assign; rfl; apply LW.v0; rfl; rfl; apply ValP.assign; rfl; apply LW.nil; refine thenN ?_; refine CW.ret ?_)
    refine fin (vs := [bv, .int .i64 0]) gs5 (.inl rfl) rfl rfl (by (apply ResL.cons; exact Res.tmp rfl; apply ResL.cons; exact Res.tmp rfl; exact ResL.nil)) (List.sublist_append_left _ _) ⟨bv, rfl, hrow⟩
  · rw [if_neg ho] at hCk0
    have hCk := hCk0
    rw [if_neg ho, if_neg ho, if_neg ho]
    refine enter (args := [_]) _ [] [] Tryd.func11 rfl Tryd.ntmps11 rfl (by simp) .nil ?_
    (refine CW.seq ?_; refine CW.region ?_; apply LW.boxA; rfl; rfl; intro _; apply LW.v0; rfl; rfl; apply ValP.assign; rfl; apply LW.v0; rfl; rfl; apply ValP.assign; rfl; apply LW.nil; refine thenN ?_; refine CW.seq ?_; refine CW.seq ?_; refine CW.region ?_; apply LW.load; rfl; rfl; apply Known.at; apply FsAt.head; exact op_rdW; apply LW.callE; rfl; rfl; infer_instance; apply ArgsOk.cons; rfl; exact ArgsOk.nil; intro w _; exact hCk w (by assumption); apply LW.v0; rfl; rfl; apply ValP.assign; rfl; apply LW.nil; refine thenN ?_; refine CW.seq ?_; refine CW.region ?_; apply LW.v0; rfl; rfl; apply ValP.move; rfl; apply LW.v0; rfl; rfl; apply ValP.neT; rfl; rfl; omega; apply LW.nil; refine thenN ?_; apply CW.condT; rfl; (with_reducible rfl); refine CW.seq ?_; refine CW.region ?_; apply LW.v0; rfl; rfl; apply ValP.move; rfl; apply LW.v0; rfl; rfl; apply ValP.assign; rfl; apply LW.v0; rfl; rfl; apply ValP.assign; rfl; apply LW.nil; refine thenN ?_; refine CW.ret ?_; refine thenR ?_)
    refine fin (vs := [.slice none 0 0, .int .i64 280]) [] (.inl rfl) rfl rfl (by (apply ResL.cons; exact Res.tmp rfl; apply ResL.cons; exact Res.tmp rfl; exact ResL.nil)) (List.nil_sublist _) ⟨_, rfl, .nil⟩
/-! ### The form of the parts -/
def u00 : OpV := ⟨0, 0, .slice none 0 0, [], .slice none 0 0, [], 0, 0, 0, 0, 0, 0, 0, 0, .slice none 0 0, [], .slice none 0 0, []⟩
theorem u00_at (w : World) : OpAt w u00 := ⟨by constructor <;> decide, RowAt.nil, RowAt.nil, RowAt.nil, RowAt.nil⟩
def fmU : List Bool := [false, false, true, true, false, false, false, false, false, false, false, false, true, true]
theorem long_calls_u (w : World) : Calls Tryd.prog 33 #[] w (RetG w [] fun v gs => IsRow 4 1 v 14 (bls fmU) gs) := by
  refine enter (args := []) _ [] [] Tryd.func33 rfl Tryd.ntmps33 rfl (by simp) .nil ?_
  (refine CW.seq ?_; refine CW.region ?_; apply LW.v0; rfl; rfl; apply ValP.assign; rfl; apply LW.nil; refine thenN ?_; refine CW.seq ?_; refine CW.region ?_; apply LW.v0; rfl; rfl; apply ValP.buildT; infer_instance; infer_instance; exact PartsOk.nil; rfl; simp only [opa, opc, wc, fillP, wrCells, Value.cells, List.getElem?_cons_zero, List.getElem?_cons_succ, List.toList_toArray, List.setIfInBounds_toArray, List.set_cons_succ, List.set_cons_zero, Nat.reduceAdd, Nat.zero_add, List.cons_append, List.nil_append]; rfl; apply LW.boxA; rfl; rfl; intro _; apply LW.v0; rfl; rfl; apply ValP.assign; rfl; apply LW.nil; refine thenN ?_; refine CW.seq ?_; refine CW.region ?_; apply LW.v0; rfl; rfl; apply ValP.move; rfl)
  rename_i bF
  refine LW.callSt rfl rfl inferInstance (by (apply ArgsOk.cons; rfl; exact ArgsOk.nil)) (fun w' hs => goes_lay (u := u00) (u00_at w) (by decide) w' hs) ?_
  rintro v fs' ⟨rfl, qs, pv, segO, gsD, hq, hP, rfl⟩
  rw [List.nil_append] at hP
  have hql : qs.length = 14 := by have h := congrArg List.length hq; rw [List.length_map] at h; exact h
  have hfq : fmP qs = fmU := by
    have h1 : ∀ l : List PartV, fmP l = (l.map dat).map (·.1) := fun l => by simp [fmP, dat]
    rw [h1, hq]; rfl
  have hrow := hP.row
  rw [hql] at hrow
  obtain ⟨pp, cp, rfl⟩ := hrow.form
  obtain ⟨gO, cur, rfl, rfl, hn1, hm1, hs1, ht1⟩ := hrow.pos (by decide)
  refine LW.st fun w1 hst1 => ?_
  have hone : ∀ p ∈ qs, p.dv.oneCell' = true := PartsAt.one (hP.at (w := w1) (fun q hq => (hst1.own q (by rw [List.mem_singleton.1 hq]; simp)).2) (fun q hq => (hst1.own q (by simp [hq])).2))
  clear hst1 w1
  simp only [List.cons_append, List.nil_append]
  (apply LW.nil; refine thenN ?_; refine CW.seq ?_; refine CW.region ?_; apply LW.v0; rfl; rfl; apply ValP.assign; rfl; apply LW.nil; refine thenN ?_; refine CW.seq ?_; refine CW.seq ?_; refine CW.region ?_; apply LW.v0; rfl; rfl; apply ValP.move; rfl; apply LW.v0; rfl; rfl; apply ValP.nilCheck; rfl; apply LW.v0; rfl; rfl; apply ValP.fieldAddr; rfl; rfl; apply LW.load; rfl; rfl; apply Known.at; apply FsAt.head; exact fm_rd17; apply LW.v0; rfl; rfl; apply ValP.lenR; rfl; infer_instance; rfl; apply LW.v0; rfl; rfl; apply ValP.move; rfl; apply LW.nil; refine thenN ?_; refine CW.block ?_)
  refine CW.loop (fun x : FX => ([(14, .int .i64 (x.k : Int)), (13, .int .i64 ((14 : Nat) : Int)), (12, .slice (some ⟨gO, 0, none⟩) 14 cp), (2, x.ov)], x.seg ++ ((bF, .cells (fma u00 (.slice (some ⟨gO, 0, none⟩) 14 cp) false false) 72 (0, 0)) :: (gO, .cells cur 61 (0, 0)) :: (gsD ++ []))))
    (fun x => x.k ≤ 14 ∧ IsRow 4 1 x.ov x.k (bls (fmP (qs.take x.k))) x.seg) (fun x => 14 - x.k) ⟨0, .slice none 0 0, []⟩
    ⟨Nat.zero_le _, .nil⟩ ⟨rfl, rfl, rfl, rfl, trivial⟩ (List.Sublist.refl _) ?_
  rintro ⟨k, ov, seg⟩ ⟨hk, hO⟩
  dsimp only at hk hO ⊢
  obtain ⟨po, co, rfl⟩ := hO.form
  rcases Nat.lt_or_ge k 14 with hlt | hge
  · have hlt' : k < qs.length := by omega
    have hrd : Rd Tryd.prog 61 (.cells cur 61 (0, 0)) (0 + k * 6) (.agg (psa qs[k])) := Rd.elemA (g := psc) (l := qs) (a := qs[k]) (by rw [List.drop_zero]; exact ht1) (psc_len qs) (List.getElem?_eq_getElem hlt')
    have ho := hone _ (List.getElem_mem hlt')
    (refine CW.seq ?_; refine CW.region ?_; apply LW.v0; rfl; rfl; apply ValP.lssT; rfl; rfl; omega; apply LW.nil; refine thenN ?_; refine CW.seq ?_; apply CW.condT; rfl; (with_reducible rfl); refine CW.skip ?_; refine thenN ?_; refine CW.seq ?_; refine CW.block ?_; refine CW.seq ?_; refine CW.region ?_; apply LW.v0; rfl; rfl; apply ValP.indexAddrS; rfl; rfl; rfl; omega; apply LW.load; rfl; rfl; apply Known.at; apply FsAt.app; apply FsAt.tail; apply FsAt.head; assumption; apply LW.allocA; rfl; intro _; apply LW.store; rfl; rfl; apply SetAt.head; apply ps_wrW; rfl; assumption; apply LW.nil; refine thenN ?_; refine CW.region ?_; apply LW.v0; rfl; rfl; apply ValP.move; rfl; apply LW.v0; rfl; rfl; apply ValP.fieldAddr; rfl; rfl; apply LW.load; rfl; rfl; apply Known.at; apply FsAt.head; exact ps_rd0; apply LW.lay1; rfl; infer_instance; infer_instance; rfl; rfl; rfl; rfl; rfl; rfl; intro _)
    refine LW.append (n := k) (m := 1) (news := [.bool qs[k].lg]) rfl rfl inferInstance inferInstance inferInstance rfl rfl rfl (by (apply AtSeg.cons; apply AtSeg.cons; exact AtSeg.head)) hO (by (apply Known.at; apply FsAt.head)) rfl rfl rfl (by omega) (by simp only [maxLen]; omega) (by omega) ?_
    intro ov' seg' hO'
    refine ⟨_, (by (apply AtSeg.cons; apply AtSeg.cons; exact AtSeg.head)), ?_⟩
    (apply LW.v0; rfl; rfl; apply ValP.assign; rfl; apply LW.nil; refine blkN ?_; refine thenN ?_; refine CW.region ?_; apply LW.v0; rfl; rfl; apply ValP.addZL; rfl; rfl; decide; omega; apply LW.v0; rfl; rfl; apply ValP.move; rfl; apply LW.nil)
    apply thenX
    refine ⟨rfl, ⟨k + 1, ov', seg'⟩, ⟨hlt, ?_⟩, by show 14 - (k + 1) < 14 - k; omega, ⟨rfl, rfl, rfl, rfl, trivial⟩, by dsimp only; exact List.Sublist.cons _ (List.Sublist.cons _ (List.Sublist.refl _))⟩
    dsimp only
    rw [List.take_succ_eq_append_getElem hlt', fmP, List.map_append, bls, List.flatMap_append]
    exact hO'
  · obtain rfl : k = 14 := by omega
    rw [List.take_of_length_le (by omega), hfq] at hO
    (refine CW.seq ?_; refine CW.region ?_; apply LW.v0; rfl; rfl; apply ValP.lssF; rfl; rfl; omega; apply LW.nil; refine thenN ?_; refine CW.seq ?_; apply CW.condF; rfl; (with_reducible rfl); refine CW.exit ?_; refine thenE ?_; refine thenE ?_; refine blkE rfl ?_; refine thenN ?_; refine CW.seq ?_; refine CW.region ?_; apply LW.v0; rfl; rfl; apply ValP.move; rfl; apply LW.v0; rfl; rfl; apply ValP.assign; rfl; apply LW.nil; refine thenN ?_; refine CW.ret ?_)
    refine fin (vs := [.slice po 14 co]) seg (.inl rfl) rfl rfl (by (apply ResL.cons; exact Res.tmp rfl; exact ResL.nil)) (List.sublist_append_left _ _) hO
end Go.Proofs.YtobkhnmglbfheaaDoor

/-
  Operations of accounts read: parts become words and numbers.
  Conditions: none.
-/
namespace Go.Proofs.YtobkhnmglbfheaaDoor
open Go Go.RowKit SL
set_option maxRecDepth 8000
set_option maxHeartbeats 4000000
set_option linter.unusedSimpArgs false
set_option linter.unusedVariables false
attribute [local irreducible] SL.CW SL.LW SL.DW Calls SL.Ret SL.RetG SL.beginQ SL.roundQ SL.rangeQ SL.inQ SL.RW SL.AnyW SL.thenQ SL.thenC SL.thenW SL.blkQ SL.finQ SL.ValP SL.NewP SL.SetP SL.CallP SL.Rd SL.Wr SL.Known
/-- What is left of fourteen parts behind the first k. -/
def pvR (gO c k : Nat) : Value := if k < 14 then .slice (some ⟨gO, 6 * k, none⟩) (14 - k) (c - k) else cutAt (some ⟨gO, 78, none⟩) 1 1 (c - 13) 6
theorem pvR_lt {gO c k : Nat} (h : k < 14) : pvR gO c k = .slice (some ⟨gO, 6 * k, none⟩) (14 - k) (c - k) := if_pos h
theorem pvR_next {gO c k : Nat} (h : k < 14) (hc : 14 ≤ c) : cutAt (some ⟨gO, 6 * k, none⟩) 1 (14 - k) (c - k) 6 = pvR gO c (k + 1) := by
  rcases Nat.lt_or_ge k 13 with h2 | h2
  · rw [pvR_lt (by omega), cutAt, if_neg (by omega)]
    show Value.slice (some ⟨gO, 6 * k + 1 * 6, none⟩) _ _ = _
    rw [show 6 * k + 1 * 6 = 6 * (k + 1) by omega, Nat.sub_sub, Nat.sub_sub]
  · obtain rfl : k = 13 := by omega
    rw [pvR, if_neg (by decide)]
/-- The parts that are read lie in block gO. -/
structure RG (gO c : Nat) (cur : Array Value) (qs : List PartV) : Prop where
  len : qs.length = 14
  cap : 14 ≤ c
  max : c ≤ maxLen
  get : cur.toList.take (14 * 6) = qs.flatMap psc
  small : ∀ p ∈ qs, p.wd < M256
  one : ∀ p ∈ qs, ∃ a n c, p.dv = .slice a n c
theorem RG.rd {gO c : Nat} {cur : Array Value} {qs : List PartV} (h : RG gO c cur qs) {k : Nat} (hk : k < 14) {T : TypeId} {z : Value} [AgI Tryd.prog T true] [InfoI Tryd.prog T 6 z] {E : TypeId} {fr : Nat × Nat} : Rd Tryd.prog T (.cells cur E fr) (6 * k + 0 * 6) (.agg (psa (pt qs k))) := by
  have hk' : k < qs.length := by rw [h.len]; exact hk
  have hg := h.get
  rw [← h.len] at hg
  have := Rd.elemA (P := Tryd.prog) (T := T) (E := E) (fr := fr) (g := psc) (l := qs) (a := qs[k]) (off := 0) (i := k) (by rw [List.drop_zero]; exact hg) (psc_len qs) (List.getElem?_eq_getElem hk')
  rw [pt_eq hk']
  rwa [show 6 * k + 0 * 6 = 0 + k * 6 by omega]
theorem RG.p1 {gO c : Nat} {cur : Array Value} {qs : List PartV} (h : RG gO c cur qs) {k : Nat} (hk : k < 14) : (pt qs k).dv.oneCell' = true ∧ (pt qs k).wd < M256 := by
  have hk' : k < qs.length := by rw [h.len]; exact hk
  rw [pt_eq hk']
  refine ⟨?_, h.small _ (List.getElem_mem hk')⟩
  obtain ⟨a, n, c, hd⟩ := h.one _ (List.getElem_mem hk')
  rw [hd]; rfl
theorem RG.sl {gO c : Nat} {cur : Array Value} {qs : List PartV} (h : RG gO c cur qs) {k : Nat} (hk : k < 14) : ∃ a n c, (pt qs k).dv = .slice a n c := by
  have hk' : k < qs.length := by rw [h.len]; exact hk
  rw [pt_eq hk']
  exact h.one _ (List.getElem_mem hk')
theorem fm_wr17V {P : Program} {T E : TypeId} {u : OpV} {pv : Value} {r b : Bool} {z : Value} [InfoI P T 1 z] {gO c k : Nat} : Wr P T (.cells (fma u pv r b) E (0, 0)) 17 (pvR gO c k) (.cells (fma u (pvR gO c k) r b) E (0, 0)) := by
  unfold pvR cutAt
  split <;> exact fm_wr17
theorem next_read {w0 : World} {bF gO c k : Nat} {cur : Array Value} {qs : List PartV} {u : OpV} {bad : Bool} {pre rest : Fs} (hR : RG gO c cur qs) (hk : k < 14) (w : World)
    (hs : St w0 [] (pre ++ ((bF, .cells (fma u (pvR gO c k) true bad) 72 (0, 0)) :: (gO, .cells cur 61 (0, 0)) :: rest)) w) :
    Calls Tryd.prog 79 #[.pointer (some ⟨bF, 0, none⟩)] w (fun x w' => ∃ v fs', x = .returned v ∧ (v = .agg (psa (pt qs k)) ∧ fs' = pre ++ ((bF, .cells (fma u (pvR gO c (k + 1)) true bad) 72 (0, 0)) :: (gO, .cells cur 61 (0, 0)) :: rest)) ∧ St w0 [] fs' w') := by
  obtain ⟨ho, hw⟩ := hR.p1 hk
  have hrd : Rd Tryd.prog 61 (.cells cur 61 (0, 0)) (6 * k + 0 * 6) (.agg (psa (pt qs k))) := hR.rd hk
  have hnx := pvR_next (gO := gO) (c := c) hk hR.cap
  have hcap := hR.cap
  have hmx := hR.max
  have hW17 : Wr Tryd.prog 64 (.cells (fma u (.slice (some ⟨gO, 6 * k, none⟩) (14 - k) (c - k)) true bad) 72 (0, 0)) (0 + 17) (cutAt (some ⟨gO, 6 * k, none⟩) 1 (14 - k) (c - k) 6) (.cells (fma u (pvR gO c (k + 1)) true bad) 72 (0, 0)) := by rw [hnx]; exact fm_wr17V
  rw [pvR_lt hk] at hs
  refine calls_sub ?_
  refine calls_inline (args := [_]) Tryd.func79 rfl Tryd.ntmps79 rfl ?_ hs
  (refine CW.seq ?_; refine CW.region ?_; apply LW.allocA; rfl; intro _; apply LW.nil; refine thenN ?_; refine CW.seq ?_; refine CW.region ?_; apply LW.v0; rfl; rfl; apply ValP.move; rfl; apply LW.v0; rfl; rfl; apply ValP.nilCheck; rfl; apply LW.v0; rfl; rfl; apply ValP.fieldAddr; rfl; rfl; apply LW.load; rfl; rfl; apply Known.at; apply FsAt.tail; apply FsAt.app; apply FsAt.head; exact fm_rd17; apply LW.v0; rfl; rfl; apply ValP.indexAddrSL; rfl; rfl; decide; omega; apply LW.load; rfl; rfl; apply Known.at; apply FsAt.tail; apply FsAt.app; apply FsAt.tail; apply FsAt.head; exact hrd; apply LW.allocA; rfl; intro _; apply LW.store; rfl; rfl; apply SetAt.head; apply ps_wrW; rfl; assumption; apply LW.nil; refine thenN ?_; refine CW.seq ?_; refine CW.region ?_; apply LW.v0; rfl; rfl; apply ValP.move; rfl; apply LW.v0; rfl; rfl; apply ValP.move; rfl; apply LW.v0; rfl; rfl; apply ValP.nilCheck; rfl; apply LW.v0; rfl; rfl; apply ValP.fieldAddr; rfl; rfl; apply LW.load; rfl; rfl; apply Known.at; apply FsAt.tail; apply FsAt.tail; apply FsAt.app; apply FsAt.head; exact fm_rd17; apply LW.v0; rfl; rfl; apply ValP.cutFromL; infer_instance; infer_instance; rfl; rfl; decide; omega; apply LW.v0; rfl; rfl; apply ValP.nilCheck; rfl; apply LW.v0; rfl; rfl; apply ValP.fieldAddr; rfl; rfl; apply LW.store; rfl; rfl; apply SetAt.tail; apply SetAt.tail; apply SetAt.app; apply SetAt.head; exact hW17; apply LW.nil; refine thenN ?_; refine CW.seq ?_; refine CW.region ?_; apply LW.load; rfl; rfl; apply Known.at; apply FsAt.head; exact Rd.whole rfl; apply LW.store; rfl; rfl; apply SetAt.tail; apply SetAt.head; apply ps_wrW; rfl; assumption; apply LW.nil; refine thenN ?_; refine CW.ret ?_)
  (apply inI; exact .inl rfl; exact Shut.nil; rfl; apply ResL.cons; apply Res.cell; rfl; apply Known.at; apply FsAt.tail; apply FsAt.head; exact Rd.whole rfl; exact ResL.nil; rfl)
  exact ⟨_, List.Sublist.cons _ (List.Sublist.cons _ (List.Sublist.refl _)), rfl, rfl⟩
/-! ### Words -/
theorem fld_ps {P : Program} {e : Env} {T ft : TypeId} {x : Operand} {p : PartV} {z : Value} [hF : FldI P T 1 1 ft] [hA : AgI P ft true] [hI : InfoI P ft 4 z] (hx : e.ev x = some (.agg (psa p))) : ValP P e [] (.field T x 1) (wv p.wd) := ValP.fieldA hF hA hI hx rfl
theorem wordF_read {w0 : World} {bF gO c k off : Nat} {cur : Array Value} {qs : List PartV} {u u' : OpV} {bad : Bool} {rest : Fs} (hR : RG gO c cur qs) (hk : k < 14)
    (hwr : ∀ {pv bad}, Wr Tryd.prog 27 (.cells (fma u pv true bad) 72 (0, 0)) off (wv (pt qs k).wd) (.cells (fma u' pv true bad) 72 (0, 0))) (w : World)
    (hs : St w0 [] ((bF, .cells (fma u (pvR gO c k) true bad) 72 (0, 0)) :: (gO, .cells cur 61 (0, 0)) :: rest) w) :
    Calls Tryd.prog 70 #[.pointer (some ⟨bF, 0, none⟩), .pointer (some ⟨bF, off, none⟩)] w (fun x w' => ∃ v fs', x = .returned v ∧ (v = .tuple #[] ∧ fs' = (bF, .cells (fma u' (pvR gO c (k + 1)) true bad) 72 (0, 0)) :: (gO, .cells cur 61 (0, 0)) :: rest) ∧ St w0 [] fs' w') := by
  refine calls_sub ?_
  refine calls_inline (args := [_, _]) Tryd.func70 rfl Tryd.ntmps70 rfl ?_ hs
  (refine CW.seq ?_; refine CW.seq ?_; refine CW.region ?_; apply LW.v0; rfl; rfl; apply ValP.move; rfl; apply LW.v0; rfl; rfl; apply ValP.nilCheck; rfl; apply LW.v0; rfl; rfl; apply ValP.fieldAddr; rfl; rfl; apply LW.load; rfl; rfl; apply Known.at; apply FsAt.head; exact fm_rd18; apply LW.nil; refine thenN ?_; apply CW.condT; rfl; (with_reducible rfl); refine CW.seq ?_; refine CW.region ?_; apply LW.v0; rfl; rfl; apply ValP.move; rfl; apply LW.v0; rfl; rfl; apply ValP.move; rfl)
  refine LW.callSt rfl rfl inferInstance (by (apply ArgsOk.cons; rfl; exact ArgsOk.nil)) (fun w hs => next_read (pre := []) hR hk w hs) ?_
  rintro v fs' ⟨rfl, rfl⟩
  simp only [List.nil_append]
  (apply LW.v0; rfl; rfl; apply fld_ps; rfl; apply LW.v0; rfl; rfl; apply ValP.nilCheck; rfl; apply LW.store; rfl; rfl; apply SetAt.head; exact hwr; apply LW.nil; refine thenN ?_; refine CW.ret ?_; refine thenR ?_)
  (apply inI; exact .inl rfl; exact Shut.nil; rfl; exact ResL.nil; rfl)
  exact ⟨_, List.Sublist.refl _, rfl, rfl⟩
theorem wordL_read {w0 : World} {bF bW gO c k a : Nat} {cur : Array Value} {qs : List PartV} {u : OpV} {bad : Bool} {mid rest : Fs} (hR : RG gO c cur qs) (hk : k < 14) (w : World)
    (hs : St w0 [] ((bW, .cells (wc a) 27 (0, 0)) :: (mid ++ ((bF, .cells (fma u (pvR gO c k) true bad) 72 (0, 0)) :: (gO, .cells cur 61 (0, 0)) :: rest))) w) :
    Calls Tryd.prog 70 #[.pointer (some ⟨bF, 0, none⟩), .pointer (some ⟨bW, 0, none⟩)] w (fun x w' => ∃ v fs', x = .returned v ∧ (v = .tuple #[] ∧ fs' = (bW, .cells (wc (pt qs k).wd) 27 (0, 0)) :: (mid ++ ((bF, .cells (fma u (pvR gO c (k + 1)) true bad) 72 (0, 0)) :: (gO, .cells cur 61 (0, 0)) :: rest))) ∧ St w0 [] fs' w') := by
  refine calls_sub ?_
  refine calls_inline (args := [_, _]) Tryd.func70 rfl Tryd.ntmps70 rfl ?_ hs
  (refine CW.seq ?_; refine CW.seq ?_; refine CW.region ?_; apply LW.v0; rfl; rfl; apply ValP.move; rfl; apply LW.v0; rfl; rfl; apply ValP.nilCheck; rfl; apply LW.v0; rfl; rfl; apply ValP.fieldAddr; rfl; rfl; apply LW.load; rfl; rfl; apply Known.at; apply FsAt.tail; apply FsAt.app; apply FsAt.head; exact fm_rd18; apply LW.nil; refine thenN ?_; apply CW.condT; rfl; (with_reducible rfl); refine CW.seq ?_; refine CW.region ?_; apply LW.v0; rfl; rfl; apply ValP.move; rfl; apply LW.v0; rfl; rfl; apply ValP.move; rfl)
  refine LW.callSt rfl rfl inferInstance (by (apply ArgsOk.cons; rfl; exact ArgsOk.nil)) (fun w hs => next_read (pre := (bW, .cells (wc a) 27 (0, 0)) :: mid) hR hk w hs) ?_
  rintro v fs' ⟨rfl, rfl⟩
  simp only [List.cons_append]
  (apply LW.v0; rfl; rfl; apply fld_ps; rfl; apply LW.v0; rfl; rfl; apply ValP.nilCheck; rfl; apply LW.store; rfl; rfl; apply SetAt.head; apply Wr.whole; rfl; rfl; rfl; apply LW.nil; refine thenN ?_; refine CW.ret ?_; refine thenR ?_)
  (apply inI; exact .inl rfl; exact Shut.nil; rfl; exact ResL.nil; rfl)
  exact ⟨_, List.Sublist.refl _, rfl, rfl⟩
/-! ### Bytes -/
theorem data_read {w0 : World} {bF gO c k off : Nat} {cur : Array Value} {qs : List PartV} {u u' : OpV} {bad : Bool} {rest : Fs} (hR : RG gO c cur qs) (hk : k < 14)
    (hwr : ∀ {pv bad}, Wr Tryd.prog 28 (.cells (fma u pv true bad) 72 (0, 0)) off (pt qs k).dv (.cells (fma u' pv true bad) 72 (0, 0))) (w : World)
    (hs : St w0 [] ((bF, .cells (fma u (pvR gO c k) true bad) 72 (0, 0)) :: (gO, .cells cur 61 (0, 0)) :: rest) w) :
    Calls Tryd.prog 71 #[.pointer (some ⟨bF, 0, none⟩), .pointer (some ⟨bF, off, none⟩)] w (fun x w' => ∃ v fs', x = .returned v ∧ (v = .tuple #[] ∧ fs' = (bF, .cells (fma u' (pvR gO c (k + 1)) true bad) 72 (0, 0)) :: (gO, .cells cur 61 (0, 0)) :: rest) ∧ St w0 [] fs' w') := by
  refine calls_sub ?_
  refine calls_inline (args := [_, _]) Tryd.func71 rfl Tryd.ntmps71 rfl ?_ hs
  (refine CW.seq ?_; refine CW.seq ?_; refine CW.region ?_; apply LW.v0; rfl; rfl; apply ValP.move; rfl; apply LW.v0; rfl; rfl; apply ValP.nilCheck; rfl; apply LW.v0; rfl; rfl; apply ValP.fieldAddr; rfl; rfl; apply LW.load; rfl; rfl; apply Known.at; apply FsAt.head; exact fm_rd18; apply LW.nil; refine thenN ?_; apply CW.condT; rfl; (with_reducible rfl); refine CW.seq ?_; refine CW.region ?_; apply LW.v0; rfl; rfl; apply ValP.move; rfl; apply LW.v0; rfl; rfl; apply ValP.move; rfl)
  refine LW.callSt rfl rfl inferInstance (by (apply ArgsOk.cons; rfl; exact ArgsOk.nil)) (fun w hs => next_read (pre := []) hR hk w hs) ?_
  rintro v fs' ⟨rfl, rfl⟩
  simp only [List.nil_append]
  (apply LW.v0; rfl; rfl; apply ValP.field1; infer_instance; infer_instance; rfl; rfl; apply LW.v0; rfl; rfl; apply ValP.nilCheck; rfl; apply LW.store; rfl; rfl; apply SetAt.head; exact hwr; apply LW.nil; refine thenN ?_; refine CW.ret ?_; refine thenR ?_)
  (apply inI; exact .inl rfl; exact Shut.nil; rfl; exact ResL.nil; rfl)
  exact ⟨_, List.Sublist.refl _, rfl, rfl⟩
/-! ### Numbers -/
def smN (a : Nat) : Nat := if a < 18446744073709551616 then a else 0
theorem smN_lt (a : Nat) : smN a < 18446744073709551616 := by unfold smN; split <;> omega
def smB (a : Nat) : Bool := decide (a < 18446744073709551616)
theorem Small_read (a : Nat) (ha : a < M256) (w : World) : Calls Tryd.prog 66 #[wv a] w (Ret w (.tuple #[.int .u64 (smN a : Int), .bool (smB a)])) := Small_calls a ha w
theorem numberF_read {w0 : World} {bF gO c k off n : Nat} {cur : Array Value} {qs : List PartV} {u u' : OpV} {bad : Bool} {rest : Fs} (hR : RG gO c cur qs) (hk : k < 14) (hlt : n < 18446744073709551616)
    (hrd : ∀ {pv bad E fr}, Rd Tryd.prog 23 (.cells (fma u pv true bad) E fr) off (.int .u64 (n : Int)))
    (hwr : ∀ {pv bad}, Wr Tryd.prog 23 (.cells (fma u pv true bad) 72 (0, 0)) off (.int .u64 (smN (pt qs k).wd : Int)) (.cells (fma u' pv true bad) 72 (0, 0))) (w : World)
    (hs : St w0 [] ((bF, .cells (fma u (pvR gO c k) true bad) 72 (0, 0)) :: (gO, .cells cur 61 (0, 0)) :: rest) w) :
    Calls Tryd.prog 72 #[.pointer (some ⟨bF, 0, none⟩), .pointer (some ⟨bF, off, none⟩)] w (fun x w' => ∃ v fs', x = .returned v ∧ (v = .tuple #[] ∧ fs' = (bF, .cells (fma u' (pvR gO c (k + 1)) true (bad || !smB (pt qs k).wd)) 72 (0, 0)) :: (gO, .cells cur 61 (0, 0)) :: rest) ∧ St w0 [] fs' w') := by
  have hwd := (hR.p1 hk).2
  refine calls_sub ?_
  refine calls_inline (args := [_, _]) Tryd.func72 rfl Tryd.ntmps72 rfl ?_ hs
  (refine CW.seq ?_; refine CW.region ?_; apply LW.v0; rfl; rfl; apply ValP.move; rfl; apply LW.v0; rfl; rfl; apply ValP.nilCheck; rfl; apply LW.load; rfl; rfl; apply Known.at; apply FsAt.head; exact hrd; apply LW.callE; rfl; rfl; infer_instance; apply ArgsOk.cons; rfl; exact ArgsOk.nil; intro w _; exact Of_calls n hlt w; apply LW.allocW; rfl; intro _; apply LW.store; rfl; rfl; apply SetAt.head; apply Wr.whole; rfl; rfl; rfl; apply LW.nil; refine thenN ?_; refine CW.seq ?_; refine CW.region ?_; apply LW.v0; rfl; rfl; apply ValP.move; rfl)
  refine LW.callSt rfl rfl inferInstance (by (apply ArgsOk.cons; rfl; apply ArgsOk.cons; rfl; exact ArgsOk.nil)) (fun w hs => wordL_read (mid := []) hR hk w hs) ?_
  rintro v fs' ⟨rfl, rfl⟩
  (apply LW.nil; refine thenN ?_; refine CW.seq ?_; refine CW.region ?_; apply LW.load; rfl; rfl; apply Known.at; apply FsAt.head; exact Rd.whole rfl; apply LW.callE; rfl; rfl; infer_instance; apply ArgsOk.cons; rfl; exact ArgsOk.nil; intro w _; exact Small_read _ hwd w; apply LW.v0; rfl; rfl; apply ValP.move; rfl; apply LW.v0; rfl; rfl; apply ValP.extractN; rfl; rfl; apply LW.v0; rfl; rfl; apply ValP.extractN; rfl; rfl; apply LW.v0; rfl; rfl; apply ValP.assign; rfl; apply LW.v0; rfl; rfl; apply ValP.assign; rfl; apply LW.nil; refine thenN ?_; refine CW.region ?_; apply LW.v0; rfl; rfl; apply ValP.move; rfl; apply LW.v0; rfl; rfl; apply ValP.move; rfl; apply LW.v0; rfl; rfl; apply ValP.move; rfl; apply LW.v0; rfl; rfl; apply ValP.move; rfl; apply LW.v0; rfl; rfl; apply ValP.nilCheck; rfl; apply LW.v0; rfl; rfl; apply ValP.fieldAddr; rfl; rfl; apply LW.load; rfl; rfl; apply Known.at; apply FsAt.tail; apply FsAt.head; exact fm_rd19; apply LW.v0; rfl; rfl; apply ValP.move; rfl)
  simp only [List.cons_append, List.nil_append]
  rcases bad with _ | _
  · rcases hb : smB (pt qs k).wd with _ | _
    · (apply LW.guardT'; rfl; rfl; (with_reducible rfl); apply LW.v0; rfl; rfl; apply ValP.move; rfl; apply LW.guardT'; rfl; rfl; (with_reducible rfl); apply LW.v0; rfl; rfl; apply ValP.notF; rfl; (with_reducible rfl); apply LW.v0; rfl; rfl; apply ValP.pickF'; rfl; (with_reducible rfl); rfl; apply LW.v0; rfl; rfl; apply ValP.nilCheck; rfl; apply LW.store; rfl; rfl; apply SetAt.tail; apply SetAt.head; exact hwr; apply LW.v0; rfl; rfl; apply ValP.nilCheck; rfl; apply LW.v0; rfl; rfl; apply ValP.fieldAddr; rfl; rfl; apply LW.store; rfl; rfl; apply SetAt.tail; apply SetAt.head; exact fm_wr19; apply LW.nil)
      (apply inI; exact .inr rfl; exact Shut.nil; rfl; exact ResL.nil; rfl)
      exact ⟨_, List.Sublist.cons _ (List.Sublist.refl _), rfl, rfl⟩
    · (apply LW.guardT'; rfl; rfl; (with_reducible rfl); apply LW.v0; rfl; rfl; apply ValP.move; rfl; apply LW.guardT'; rfl; rfl; (with_reducible rfl); apply LW.v0; rfl; rfl; apply ValP.notT; rfl; (with_reducible rfl); apply LW.v0; rfl; rfl; apply ValP.pickF'; rfl; (with_reducible rfl); rfl; apply LW.v0; rfl; rfl; apply ValP.nilCheck; rfl; apply LW.store; rfl; rfl; apply SetAt.tail; apply SetAt.head; exact hwr; apply LW.v0; rfl; rfl; apply ValP.nilCheck; rfl; apply LW.v0; rfl; rfl; apply ValP.fieldAddr; rfl; rfl; apply LW.store; rfl; rfl; apply SetAt.tail; apply SetAt.head; exact fm_wr19; apply LW.nil)
      (apply inI; exact .inr rfl; exact Shut.nil; rfl; exact ResL.nil; rfl)
      exact ⟨_, List.Sublist.cons _ (List.Sublist.refl _), rfl, rfl⟩
  · (apply LW.guardF'; rfl; rfl; simp only [Bool.not_true, Bool.not_false]; rfl; apply LW.guardF'; rfl; rfl; simp only [Bool.not_true, Bool.not_false]; rfl; apply LW.v0; rfl; rfl; apply ValP.pickT'; rfl; (with_reducible rfl); rfl; apply LW.v0; rfl; rfl; apply ValP.nilCheck; rfl; apply LW.store; rfl; rfl; apply SetAt.tail; apply SetAt.head; exact hwr; apply LW.v0; rfl; rfl; apply ValP.nilCheck; rfl; apply LW.v0; rfl; rfl; apply ValP.fieldAddr; rfl; rfl; apply LW.store; rfl; rfl; apply SetAt.tail; apply SetAt.head; exact fm_wr19; apply LW.nil)
    (apply inI; exact .inr rfl; exact Shut.nil; rfl; exact ResL.nil; rfl)
    exact ⟨_, List.Sublist.cons _ (List.Sublist.refl _), rfl, rfl⟩
theorem numberL_read {w0 : World} {bF bL gO c k n : Nat} {cur : Array Value} {qs : List PartV} {u : OpV} {bad : Bool} {rest : Fs} (hR : RG gO c cur qs) (hk : k < 14) (hlt : n < 18446744073709551616) (w : World)
    (hs : St w0 [] ((bL, .cells #[.int .u64 (n : Int)] 23 (0, 0)) :: (bF, .cells (fma u (pvR gO c k) true bad) 72 (0, 0)) :: (gO, .cells cur 61 (0, 0)) :: rest) w) :
    Calls Tryd.prog 72 #[.pointer (some ⟨bF, 0, none⟩), .pointer (some ⟨bL, 0, none⟩)] w (fun x w' => ∃ v fs', x = .returned v ∧ (v = .tuple #[] ∧ fs' = (bL, .cells #[.int .u64 (smN (pt qs k).wd : Int)] 23 (0, 0)) :: (bF, .cells (fma u (pvR gO c (k + 1)) true (bad || !smB (pt qs k).wd)) 72 (0, 0)) :: (gO, .cells cur 61 (0, 0)) :: rest) ∧ St w0 [] fs' w') := by
  have hwd := (hR.p1 hk).2
  have hrd : True := trivial
  have hwr : True := trivial
  refine calls_sub ?_
  refine calls_inline (args := [_, _]) Tryd.func72 rfl Tryd.ntmps72 rfl ?_ hs
  (refine CW.seq ?_; refine CW.region ?_; apply LW.v0; rfl; rfl; apply ValP.move; rfl; apply LW.v0; rfl; rfl; apply ValP.nilCheck; rfl; apply LW.load; rfl; rfl; apply Known.at; apply FsAt.head; exact Rd.one' rfl; apply LW.callE; rfl; rfl; infer_instance; apply ArgsOk.cons; rfl; exact ArgsOk.nil; intro w _; exact Of_calls n hlt w; apply LW.allocW; rfl; intro _; apply LW.store; rfl; rfl; apply SetAt.head; apply Wr.whole; rfl; rfl; rfl; apply LW.nil; refine thenN ?_; refine CW.seq ?_; refine CW.region ?_; apply LW.v0; rfl; rfl; apply ValP.move; rfl)
  refine LW.callSt rfl rfl inferInstance (by (apply ArgsOk.cons; rfl; apply ArgsOk.cons; rfl; exact ArgsOk.nil)) (fun w hs => wordL_read (mid := [(bL, .cells #[.int .u64 (n : Int)] 23 (0, 0))]) hR hk w hs) ?_
  rintro v fs' ⟨rfl, rfl⟩
  (apply LW.nil; refine thenN ?_; refine CW.seq ?_; refine CW.region ?_; apply LW.load; rfl; rfl; apply Known.at; apply FsAt.head; exact Rd.whole rfl; apply LW.callE; rfl; rfl; infer_instance; apply ArgsOk.cons; rfl; exact ArgsOk.nil; intro w _; exact Small_read _ hwd w; apply LW.v0; rfl; rfl; apply ValP.move; rfl; apply LW.v0; rfl; rfl; apply ValP.extractN; rfl; rfl; apply LW.v0; rfl; rfl; apply ValP.extractN; rfl; rfl; apply LW.v0; rfl; rfl; apply ValP.assign; rfl; apply LW.v0; rfl; rfl; apply ValP.assign; rfl; apply LW.nil; refine thenN ?_; refine CW.region ?_; apply LW.v0; rfl; rfl; apply ValP.move; rfl; apply LW.v0; rfl; rfl; apply ValP.move; rfl; apply LW.v0; rfl; rfl; apply ValP.move; rfl; apply LW.v0; rfl; rfl; apply ValP.move; rfl; apply LW.v0; rfl; rfl; apply ValP.nilCheck; rfl; apply LW.v0; rfl; rfl; apply ValP.fieldAddr; rfl; rfl; apply LW.load; rfl; rfl; apply Known.at; apply FsAt.tail; apply FsAt.tail; apply FsAt.head; exact fm_rd19; apply LW.v0; rfl; rfl; apply ValP.move; rfl)
  simp only [List.cons_append, List.nil_append]
  rcases bad with _ | _
  · rcases hb : smB (pt qs k).wd with _ | _
    · (apply LW.guardT'; rfl; rfl; (with_reducible rfl); apply LW.v0; rfl; rfl; apply ValP.move; rfl; apply LW.guardT'; rfl; rfl; (with_reducible rfl); apply LW.v0; rfl; rfl; apply ValP.notF; rfl; (with_reducible rfl); apply LW.v0; rfl; rfl; apply ValP.pickF'; rfl; (with_reducible rfl); rfl; apply LW.v0; rfl; rfl; apply ValP.nilCheck; rfl; apply LW.store; rfl; rfl; apply SetAt.tail; apply SetAt.head; apply Wr.cells; rfl; rfl; simp only [List.size_toArray, List.length_cons, List.length_nil]; omega; simp only [fillC, wc, wrCells, Value.cells, List.toList_toArray, List.setIfInBounds_toArray, List.set_cons_succ, List.set_cons_zero, Nat.reduceAdd, Nat.reduceMul, Nat.zero_add, Nat.mul_one]; rfl; apply LW.v0; rfl; rfl; apply ValP.nilCheck; rfl; apply LW.v0; rfl; rfl; apply ValP.fieldAddr; rfl; rfl; apply LW.store; rfl; rfl; apply SetAt.tail; apply SetAt.tail; apply SetAt.head; exact fm_wr19; apply LW.nil)
      (apply inI; exact .inr rfl; exact Shut.nil; rfl; exact ResL.nil; rfl)
      exact ⟨_, List.Sublist.cons _ (List.Sublist.refl _), rfl, rfl⟩
    · (apply LW.guardT'; rfl; rfl; (with_reducible rfl); apply LW.v0; rfl; rfl; apply ValP.move; rfl; apply LW.guardT'; rfl; rfl; (with_reducible rfl); apply LW.v0; rfl; rfl; apply ValP.notT; rfl; (with_reducible rfl); apply LW.v0; rfl; rfl; apply ValP.pickF'; rfl; (with_reducible rfl); rfl; apply LW.v0; rfl; rfl; apply ValP.nilCheck; rfl; apply LW.store; rfl; rfl; apply SetAt.tail; apply SetAt.head; apply Wr.cells; rfl; rfl; simp only [List.size_toArray, List.length_cons, List.length_nil]; omega; simp only [fillC, wc, wrCells, Value.cells, List.toList_toArray, List.setIfInBounds_toArray, List.set_cons_succ, List.set_cons_zero, Nat.reduceAdd, Nat.reduceMul, Nat.zero_add, Nat.mul_one]; rfl; apply LW.v0; rfl; rfl; apply ValP.nilCheck; rfl; apply LW.v0; rfl; rfl; apply ValP.fieldAddr; rfl; rfl; apply LW.store; rfl; rfl; apply SetAt.tail; apply SetAt.tail; apply SetAt.head; exact fm_wr19; apply LW.nil)
      (apply inI; exact .inr rfl; exact Shut.nil; rfl; exact ResL.nil; rfl)
      exact ⟨_, List.Sublist.cons _ (List.Sublist.refl _), rfl, rfl⟩
  · (apply LW.guardF'; rfl; rfl; simp only [Bool.not_true, Bool.not_false]; rfl; apply LW.guardF'; rfl; rfl; simp only [Bool.not_true, Bool.not_false]; rfl; apply LW.v0; rfl; rfl; apply ValP.pickT'; rfl; (with_reducible rfl); rfl; apply LW.v0; rfl; rfl; apply ValP.nilCheck; rfl; apply LW.store; rfl; rfl; apply SetAt.tail; apply SetAt.head; apply Wr.cells; rfl; rfl; simp only [List.size_toArray, List.length_cons, List.length_nil]; omega; simp only [fillC, wc, wrCells, Value.cells, List.toList_toArray, List.setIfInBounds_toArray, List.set_cons_succ, List.set_cons_zero, Nat.reduceAdd, Nat.reduceMul, Nat.zero_add, Nat.mul_one]; rfl; apply LW.v0; rfl; rfl; apply ValP.nilCheck; rfl; apply LW.v0; rfl; rfl; apply ValP.fieldAddr; rfl; rfl; apply LW.store; rfl; rfl; apply SetAt.tail; apply SetAt.tail; apply SetAt.head; exact fm_wr19; apply LW.nil)
    (apply inI; exact .inr rfl; exact Shut.nil; rfl; exact ResL.nil; rfl)
    exact ⟨_, List.Sublist.cons _ (List.Sublist.refl _), rfl, rfl⟩
theorem addr_read {w0 : World} {bF gO c k off n : Nat} {cur : Array Value} {qs : List PartV} {u u' : OpV} {bad : Bool} {rest : Fs} (hR : RG gO c cur qs) (hk : k < 14) (hlt : n < 18446744073709551616)
    (hrd : ∀ {pv bad E fr}, Rd Tryd.prog 25 (.cells (fma u pv true bad) E fr) off (.int .u64 (n : Int)))
    (hwr : ∀ {pv bad}, Wr Tryd.prog 25 (.cells (fma u pv true bad) 72 (0, 0)) off (.int .u64 (smN (pt qs k).wd : Int)) (.cells (fma u' pv true bad) 72 (0, 0))) (w : World)
    (hs : St w0 [] ((bF, .cells (fma u (pvR gO c k) true bad) 72 (0, 0)) :: (gO, .cells cur 61 (0, 0)) :: rest) w) :
    Calls Tryd.prog 69 #[.pointer (some ⟨bF, 0, none⟩), .pointer (some ⟨bF, off, none⟩)] w (fun x w' => ∃ v fs', x = .returned v ∧ (v = .tuple #[] ∧ fs' = (bF, .cells (fma u' (pvR gO c (k + 1)) true (bad || !smB (pt qs k).wd)) 72 (0, 0)) :: (gO, .cells cur 61 (0, 0)) :: rest) ∧ St w0 [] fs' w') := by
  have hsl := smN_lt (pt qs k).wd
  refine calls_sub ?_
  refine calls_inline (args := [_, _]) Tryd.func69 rfl Tryd.ntmps69 rfl ?_ hs
  (refine CW.seq ?_; refine CW.region ?_; apply LW.v0; rfl; rfl; apply ValP.move; rfl; apply LW.v0; rfl; rfl; apply ValP.nilCheck; rfl; apply LW.load; rfl; rfl; apply Known.at; apply FsAt.head; exact hrd; apply LW.alloc1; rfl; rfl; intro _; apply LW.store; rfl; rfl; apply SetAt.head; apply Wr.cells; rfl; rfl; simp only [List.size_toArray, List.length_cons, List.length_nil]; omega; simp only [fillC, wc, wrCells, Value.cells, List.toList_toArray, List.setIfInBounds_toArray, List.set_cons_succ, List.set_cons_zero, Nat.reduceAdd, Nat.reduceMul, Nat.zero_add, Nat.mul_one]; rfl; apply LW.nil; refine thenN ?_; refine CW.seq ?_; refine CW.region ?_; apply LW.v0; rfl; rfl; apply ValP.move; rfl)
  refine LW.callSt rfl rfl inferInstance (by (apply ArgsOk.cons; rfl; apply ArgsOk.cons; rfl; exact ArgsOk.nil)) (fun w hs => numberL_read hR hk hlt w hs) ?_
  rintro v fs' ⟨rfl, rfl⟩
  (apply LW.nil; refine thenN ?_; refine CW.region ?_; apply LW.v0; rfl; rfl; apply ValP.move; rfl; apply LW.load; rfl; rfl; apply Known.at; apply FsAt.head; exact Rd.one' rfl; apply LW.v0; rfl; rfl; apply ValP.nilCheck; rfl; apply LW.store; rfl; rfl; apply SetAt.tail; apply SetAt.head; exact hwr; apply LW.nil)
  (apply inI; exact .inr rfl; exact Shut.nil; rfl; exact ResL.nil; rfl)
  exact ⟨_, List.Sublist.cons _ (List.Sublist.refl _), rfl, rfl⟩
end Go.Proofs.YtobkhnmglbfheaaDoor

/-
  Operations of accounts read: their fields.
  Conditions: none.
-/
namespace Go.Proofs.YtobkhnmglbfheaaDoor
open Go Go.RowKit SL
set_option maxRecDepth 8000
set_option maxHeartbeats 4000000
set_option linter.unusedSimpArgs false
set_option linter.unusedVariables false
attribute [local irreducible] SL.CW SL.LW SL.DW Calls SL.Ret SL.RetG SL.beginQ SL.roundQ SL.rangeQ SL.inQ SL.RW SL.AnyW SL.thenQ SL.thenC SL.thenW SL.blkQ SL.finQ SL.ValP SL.NewP SL.SetP SL.CallP SL.Rd SL.Wr SL.Known
/-- What a group of fields reads. -/
def Reads (f : FuncId) (k n : Nat) (g : OpV → List PartV → OpV) (bd : Bool → List PartV → Bool) : Prop := ∀ {w0 : World} {bF gO c : Nat} {cur : Array Value} {qs : List PartV} {u : OpV} {bad : Bool} {rest : Fs} (_ : RG gO c cur qs) (_ : OpNum u) (w : World)
    (_ : St w0 [] ((bF, .cells (fma u (pvR gO c k) true bad) 72 (0, 0)) :: (gO, .cells cur 61 (0, 0)) :: rest) w), Calls Tryd.prog f #[.pointer (some ⟨bF, 0, none⟩)] w (fun x w' => ∃ v fs', x = .returned v ∧ (v = .tuple #[] ∧ fs' = (bF, .cells (fma (g u qs) (pvR gO c (k + n)) true (bd bad qs)) 72 (0, 0)) :: (gO, .cells cur 61 (0, 0)) :: rest) ∧ St w0 [] fs' w')
def rHead (u : OpV) (qs : List PartV) : OpV := { u with sd := smN (pt qs 0).wd, no := (pt qs 1).wd, iv := (pt qs 2).dv, ib := (pt qs 2).db, cv := (pt qs 3).dv, cb := (pt qs 3).db }
def bHead (bad : Bool) (qs : List PartV) : Bool := (bad || !smB (pt qs 0).wd)
theorem head_read : Reads 47 0 4 rHead bHead := by
  intro w0 bF gO c cur qs u bad rest hR hu w hs
  refine calls_sub ?_
  refine calls_inline (args := [_]) Tryd.func47 rfl Tryd.ntmps47 rfl ?_ hs
  (refine CW.seq ?_; refine CW.region ?_; apply LW.v0; rfl; rfl; apply ValP.move; rfl; apply LW.v0; rfl; rfl; apply ValP.move; rfl; apply LW.v0; rfl; rfl; apply ValP.nilCheck; rfl; apply LW.v0; rfl; rfl; apply ValP.fieldAddr; rfl; rfl; apply LW.v0; rfl; rfl; apply ValP.fieldAddr; rfl; rfl)
  refine LW.callSt rfl rfl inferInstance (by (apply ArgsOk.cons; rfl; apply ArgsOk.cons; rfl; exact ArgsOk.nil)) (fun w hs => addr_read (k := 0) (n := u.sd) (u' := { u with sd := smN (pt qs 0).wd }) hR (by decide) hu.sd (Rd.one rfl) (Wr.cells (n := 1) rfl rfl (by show _ + 1 ≤ 20; decide) rfl) w hs) ?_
  rintro v fs' ⟨rfl, rfl⟩
  (apply LW.nil; refine thenN ?_; refine CW.seq ?_; refine CW.region ?_; apply LW.v0; rfl; rfl; apply ValP.move; rfl; apply LW.v0; rfl; rfl; apply ValP.move; rfl; apply LW.v0; rfl; rfl; apply ValP.nilCheck; rfl; apply LW.v0; rfl; rfl; apply ValP.fieldAddr; rfl; rfl; apply LW.v0; rfl; rfl; apply ValP.fieldAddr; rfl; rfl)
  refine LW.callSt rfl rfl inferInstance (by (apply ArgsOk.cons; rfl; apply ArgsOk.cons; rfl; exact ArgsOk.nil)) (fun w hs => wordF_read (k := 1) (u' := { u with sd := smN (pt qs 0).wd, no := (pt qs 1).wd }) hR (by decide) (Wr.cells (n := 4) rfl rfl (by show _ + 4 ≤ 20; decide) rfl) w hs) ?_
  rintro v fs' ⟨rfl, rfl⟩
  (apply LW.nil; refine thenN ?_; refine CW.seq ?_; refine CW.region ?_; apply LW.v0; rfl; rfl; apply ValP.move; rfl; apply LW.v0; rfl; rfl; apply ValP.move; rfl; apply LW.v0; rfl; rfl; apply ValP.nilCheck; rfl; apply LW.v0; rfl; rfl; apply ValP.fieldAddr; rfl; rfl; apply LW.v0; rfl; rfl; apply ValP.fieldAddr; rfl; rfl)
  obtain ⟨a2, n2, c2, hd2⟩ := hR.sl (k := 2) (by decide)
  refine LW.callSt rfl rfl inferInstance (by (apply ArgsOk.cons; rfl; apply ArgsOk.cons; rfl; exact ArgsOk.nil)) (fun w hs => data_read (k := 2) (u' := { u with sd := smN (pt qs 0).wd, no := (pt qs 1).wd, iv := (pt qs 2).dv, ib := (pt qs 2).db }) hR (by decide) (by intro _ _; rw [hd2]; exact (Wr.cells (n := 1) rfl rfl (by show _ + 1 ≤ 20; decide) rfl)) w hs) ?_
  rintro v fs' ⟨rfl, rfl⟩
  (apply LW.nil; refine thenN ?_; refine CW.region ?_; apply LW.v0; rfl; rfl; apply ValP.move; rfl; apply LW.v0; rfl; rfl; apply ValP.move; rfl; apply LW.v0; rfl; rfl; apply ValP.nilCheck; rfl; apply LW.v0; rfl; rfl; apply ValP.fieldAddr; rfl; rfl; apply LW.v0; rfl; rfl; apply ValP.fieldAddr; rfl; rfl)
  obtain ⟨a3, n3, c3, hd3⟩ := hR.sl (k := 3) (by decide)
  refine LW.callSt rfl rfl inferInstance (by (apply ArgsOk.cons; rfl; apply ArgsOk.cons; rfl; exact ArgsOk.nil)) (fun w hs => data_read (k := 3) (u' := { u with sd := smN (pt qs 0).wd, no := (pt qs 1).wd, iv := (pt qs 2).dv, ib := (pt qs 2).db, cv := (pt qs 3).dv, cb := (pt qs 3).db }) hR (by decide) (by intro _ _; rw [hd3]; exact (Wr.cells (n := 1) rfl rfl (by show _ + 1 ≤ 20; decide) rfl)) w hs) ?_
  rintro v fs' ⟨rfl, rfl⟩
  (apply LW.nil)
  (apply inI; exact .inr rfl; exact Shut.nil; rfl; exact ResL.nil; rfl)
  exact ⟨_, List.Sublist.refl _, rfl, rfl⟩
def rGas (u : OpV) (qs : List PartV) : OpV := { u with vg := smN (pt qs 4).wd, cg := smN (pt qs 5).wd, pg := smN (pt qs 6).wd }
def bGas (bad : Bool) (qs : List PartV) : Bool := (((bad || !smB (pt qs 4).wd) || !smB (pt qs 5).wd) || !smB (pt qs 6).wd)
theorem gas_read : Reads 48 4 3 rGas bGas := by
  intro w0 bF gO c cur qs u bad rest hR hu w hs
  refine calls_sub ?_
  refine calls_inline (args := [_]) Tryd.func48 rfl Tryd.ntmps48 rfl ?_ hs
  (refine CW.seq ?_; refine CW.region ?_; apply LW.v0; rfl; rfl; apply ValP.move; rfl; apply LW.v0; rfl; rfl; apply ValP.move; rfl; apply LW.v0; rfl; rfl; apply ValP.nilCheck; rfl; apply LW.v0; rfl; rfl; apply ValP.fieldAddr; rfl; rfl; apply LW.v0; rfl; rfl; apply ValP.fieldAddr; rfl; rfl)
  refine LW.callSt rfl rfl inferInstance (by (apply ArgsOk.cons; rfl; apply ArgsOk.cons; rfl; exact ArgsOk.nil)) (fun w hs => numberF_read (k := 4) (n := u.vg) (u' := { u with vg := smN (pt qs 4).wd }) hR (by decide) hu.vg (Rd.one rfl) (Wr.cells (n := 1) rfl rfl (by show _ + 1 ≤ 20; decide) rfl) w hs) ?_
  rintro v fs' ⟨rfl, rfl⟩
  (apply LW.nil; refine thenN ?_; refine CW.seq ?_; refine CW.region ?_; apply LW.v0; rfl; rfl; apply ValP.move; rfl; apply LW.v0; rfl; rfl; apply ValP.move; rfl; apply LW.v0; rfl; rfl; apply ValP.nilCheck; rfl; apply LW.v0; rfl; rfl; apply ValP.fieldAddr; rfl; rfl; apply LW.v0; rfl; rfl; apply ValP.fieldAddr; rfl; rfl)
  refine LW.callSt rfl rfl inferInstance (by (apply ArgsOk.cons; rfl; apply ArgsOk.cons; rfl; exact ArgsOk.nil)) (fun w hs => numberF_read (k := 5) (n := u.cg) (u' := { u with vg := smN (pt qs 4).wd, cg := smN (pt qs 5).wd }) hR (by decide) hu.cg (Rd.one rfl) (Wr.cells (n := 1) rfl rfl (by show _ + 1 ≤ 20; decide) rfl) w hs) ?_
  rintro v fs' ⟨rfl, rfl⟩
  (apply LW.nil; refine thenN ?_; refine CW.region ?_; apply LW.v0; rfl; rfl; apply ValP.move; rfl; apply LW.v0; rfl; rfl; apply ValP.move; rfl; apply LW.v0; rfl; rfl; apply ValP.nilCheck; rfl; apply LW.v0; rfl; rfl; apply ValP.fieldAddr; rfl; rfl; apply LW.v0; rfl; rfl; apply ValP.fieldAddr; rfl; rfl)
  refine LW.callSt rfl rfl inferInstance (by (apply ArgsOk.cons; rfl; apply ArgsOk.cons; rfl; exact ArgsOk.nil)) (fun w hs => numberF_read (k := 6) (n := u.pg) (u' := { u with vg := smN (pt qs 4).wd, cg := smN (pt qs 5).wd, pg := smN (pt qs 6).wd }) hR (by decide) hu.pg (Rd.one rfl) (Wr.cells (n := 1) rfl rfl (by show _ + 1 ≤ 20; decide) rfl) w hs) ?_
  rintro v fs' ⟨rfl, rfl⟩
  (apply LW.nil)
  (apply inI; exact .inr rfl; exact Shut.nil; rfl; exact ResL.nil; rfl)
  exact ⟨_, List.Sublist.refl _, rfl, rfl⟩
def rFees (u : OpV) (qs : List PartV) : OpV := { u with mf := smN (pt qs 7).wd, mp := smN (pt qs 8).wd }
def bFees (bad : Bool) (qs : List PartV) : Bool := ((bad || !smB (pt qs 7).wd) || !smB (pt qs 8).wd)
theorem fees_read : Reads 49 7 2 rFees bFees := by
  intro w0 bF gO c cur qs u bad rest hR hu w hs
  refine calls_sub ?_
  refine calls_inline (args := [_]) Tryd.func49 rfl Tryd.ntmps49 rfl ?_ hs
  (refine CW.seq ?_; refine CW.region ?_; apply LW.v0; rfl; rfl; apply ValP.move; rfl; apply LW.v0; rfl; rfl; apply ValP.move; rfl; apply LW.v0; rfl; rfl; apply ValP.nilCheck; rfl; apply LW.v0; rfl; rfl; apply ValP.fieldAddr; rfl; rfl; apply LW.v0; rfl; rfl; apply ValP.fieldAddr; rfl; rfl)
  refine LW.callSt rfl rfl inferInstance (by (apply ArgsOk.cons; rfl; apply ArgsOk.cons; rfl; exact ArgsOk.nil)) (fun w hs => numberF_read (k := 7) (n := u.mf) (u' := { u with mf := smN (pt qs 7).wd }) hR (by decide) hu.mf (Rd.one rfl) (Wr.cells (n := 1) rfl rfl (by show _ + 1 ≤ 20; decide) rfl) w hs) ?_
  rintro v fs' ⟨rfl, rfl⟩
  (apply LW.nil; refine thenN ?_; refine CW.region ?_; apply LW.v0; rfl; rfl; apply ValP.move; rfl; apply LW.v0; rfl; rfl; apply ValP.move; rfl; apply LW.v0; rfl; rfl; apply ValP.nilCheck; rfl; apply LW.v0; rfl; rfl; apply ValP.fieldAddr; rfl; rfl; apply LW.v0; rfl; rfl; apply ValP.fieldAddr; rfl; rfl)
  refine LW.callSt rfl rfl inferInstance (by (apply ArgsOk.cons; rfl; apply ArgsOk.cons; rfl; exact ArgsOk.nil)) (fun w hs => numberF_read (k := 8) (n := u.mp) (u' := { u with mf := smN (pt qs 7).wd, mp := smN (pt qs 8).wd }) hR (by decide) hu.mp (Rd.one rfl) (Wr.cells (n := 1) rfl rfl (by show _ + 1 ≤ 20; decide) rfl) w hs) ?_
  rintro v fs' ⟨rfl, rfl⟩
  (apply LW.nil)
  (apply inI; exact .inr rfl; exact Shut.nil; rfl; exact ResL.nil; rfl)
  exact ⟨_, List.Sublist.refl _, rfl, rfl⟩
def rPayer (u : OpV) (qs : List PartV) : OpV := { u with py := smN (pt qs 9).wd, pv := smN (pt qs 10).wd, pp := smN (pt qs 11).wd }
def bPayer (bad : Bool) (qs : List PartV) : Bool := (((bad || !smB (pt qs 9).wd) || !smB (pt qs 10).wd) || !smB (pt qs 11).wd)
theorem payer_read : Reads 50 9 3 rPayer bPayer := by
  intro w0 bF gO c cur qs u bad rest hR hu w hs
  refine calls_sub ?_
  refine calls_inline (args := [_]) Tryd.func50 rfl Tryd.ntmps50 rfl ?_ hs
  (refine CW.seq ?_; refine CW.region ?_; apply LW.v0; rfl; rfl; apply ValP.move; rfl; apply LW.v0; rfl; rfl; apply ValP.move; rfl; apply LW.v0; rfl; rfl; apply ValP.nilCheck; rfl; apply LW.v0; rfl; rfl; apply ValP.fieldAddr; rfl; rfl; apply LW.v0; rfl; rfl; apply ValP.fieldAddr; rfl; rfl)
  refine LW.callSt rfl rfl inferInstance (by (apply ArgsOk.cons; rfl; apply ArgsOk.cons; rfl; exact ArgsOk.nil)) (fun w hs => addr_read (k := 9) (n := u.py) (u' := { u with py := smN (pt qs 9).wd }) hR (by decide) hu.py (Rd.one rfl) (Wr.cells (n := 1) rfl rfl (by show _ + 1 ≤ 20; decide) rfl) w hs) ?_
  rintro v fs' ⟨rfl, rfl⟩
  (apply LW.nil; refine thenN ?_; refine CW.seq ?_; refine CW.region ?_; apply LW.v0; rfl; rfl; apply ValP.move; rfl; apply LW.v0; rfl; rfl; apply ValP.move; rfl; apply LW.v0; rfl; rfl; apply ValP.nilCheck; rfl; apply LW.v0; rfl; rfl; apply ValP.fieldAddr; rfl; rfl; apply LW.v0; rfl; rfl; apply ValP.fieldAddr; rfl; rfl)
  refine LW.callSt rfl rfl inferInstance (by (apply ArgsOk.cons; rfl; apply ArgsOk.cons; rfl; exact ArgsOk.nil)) (fun w hs => numberF_read (k := 10) (n := u.pv) (u' := { u with py := smN (pt qs 9).wd, pv := smN (pt qs 10).wd }) hR (by decide) hu.pv (Rd.one rfl) (Wr.cells (n := 1) rfl rfl (by show _ + 1 ≤ 20; decide) rfl) w hs) ?_
  rintro v fs' ⟨rfl, rfl⟩
  (apply LW.nil; refine thenN ?_; refine CW.region ?_; apply LW.v0; rfl; rfl; apply ValP.move; rfl; apply LW.v0; rfl; rfl; apply ValP.move; rfl; apply LW.v0; rfl; rfl; apply ValP.nilCheck; rfl; apply LW.v0; rfl; rfl; apply ValP.fieldAddr; rfl; rfl; apply LW.v0; rfl; rfl; apply ValP.fieldAddr; rfl; rfl)
  refine LW.callSt rfl rfl inferInstance (by (apply ArgsOk.cons; rfl; apply ArgsOk.cons; rfl; exact ArgsOk.nil)) (fun w hs => numberF_read (k := 11) (n := u.pp) (u' := { u with py := smN (pt qs 9).wd, pv := smN (pt qs 10).wd, pp := smN (pt qs 11).wd }) hR (by decide) hu.pp (Rd.one rfl) (Wr.cells (n := 1) rfl rfl (by show _ + 1 ≤ 20; decide) rfl) w hs) ?_
  rintro v fs' ⟨rfl, rfl⟩
  (apply LW.nil)
  (apply inI; exact .inr rfl; exact Shut.nil; rfl; exact ResL.nil; rfl)
  exact ⟨_, List.Sublist.refl _, rfl, rfl⟩
def rTail (u : OpV) (qs : List PartV) : OpV := { u with dv := (pt qs 12).dv, db := (pt qs 12).db, gv := (pt qs 13).dv, gb := (pt qs 13).db }
def bTail (bad : Bool) (qs : List PartV) : Bool := bad
theorem tail_read : Reads 51 12 2 rTail bTail := by
  intro w0 bF gO c cur qs u bad rest hR hu w hs
  refine calls_sub ?_
  refine calls_inline (args := [_]) Tryd.func51 rfl Tryd.ntmps51 rfl ?_ hs
  (refine CW.seq ?_; refine CW.region ?_; apply LW.v0; rfl; rfl; apply ValP.move; rfl; apply LW.v0; rfl; rfl; apply ValP.move; rfl; apply LW.v0; rfl; rfl; apply ValP.nilCheck; rfl; apply LW.v0; rfl; rfl; apply ValP.fieldAddr; rfl; rfl; apply LW.v0; rfl; rfl; apply ValP.fieldAddr; rfl; rfl)
  obtain ⟨a12, n12, c12, hd12⟩ := hR.sl (k := 12) (by decide)
  refine LW.callSt rfl rfl inferInstance (by (apply ArgsOk.cons; rfl; apply ArgsOk.cons; rfl; exact ArgsOk.nil)) (fun w hs => data_read (k := 12) (u' := { u with dv := (pt qs 12).dv, db := (pt qs 12).db }) hR (by decide) (by intro _ _; rw [hd12]; exact (Wr.cells (n := 1) rfl rfl (by show _ + 1 ≤ 20; decide) rfl)) w hs) ?_
  rintro v fs' ⟨rfl, rfl⟩
  (apply LW.nil; refine thenN ?_; refine CW.region ?_; apply LW.v0; rfl; rfl; apply ValP.move; rfl; apply LW.v0; rfl; rfl; apply ValP.move; rfl; apply LW.v0; rfl; rfl; apply ValP.nilCheck; rfl; apply LW.v0; rfl; rfl; apply ValP.fieldAddr; rfl; rfl; apply LW.v0; rfl; rfl; apply ValP.fieldAddr; rfl; rfl)
  obtain ⟨a13, n13, c13, hd13⟩ := hR.sl (k := 13) (by decide)
  refine LW.callSt rfl rfl inferInstance (by (apply ArgsOk.cons; rfl; apply ArgsOk.cons; rfl; exact ArgsOk.nil)) (fun w hs => data_read (k := 13) (u' := { u with dv := (pt qs 12).dv, db := (pt qs 12).db, gv := (pt qs 13).dv, gb := (pt qs 13).db }) hR (by decide) (by intro _ _; rw [hd13]; exact (Wr.cells (n := 1) rfl rfl (by show _ + 1 ≤ 20; decide) rfl)) w hs) ?_
  rintro v fs' ⟨rfl, rfl⟩
  (apply LW.nil)
  (apply inI; exact .inr rfl; exact Shut.nil; rfl; exact ResL.nil; rfl)
  exact ⟨_, List.Sublist.refl _, rfl, rfl⟩
theorem num_read {gO c : Nat} {cur : Array Value} {qs : List PartV} (hR : RG gO c cur qs) {u : OpV} (hu : OpNum u) : OpNum (rHead u qs) ∧ OpNum (rGas u qs) ∧ OpNum (rFees u qs) ∧ OpNum (rPayer u qs) ∧ OpNum (rTail u qs) :=
  ⟨⟨smN_lt _, (hR.p1 (k := 1) (by decide)).2, hu.vg, hu.cg, hu.pg, hu.mf, hu.mp, hu.py, hu.pv, hu.pp⟩, ⟨hu.sd, hu.no, smN_lt _, smN_lt _, smN_lt _, hu.mf, hu.mp, hu.py, hu.pv, hu.pp⟩,
   ⟨hu.sd, hu.no, hu.vg, hu.cg, hu.pg, smN_lt _, smN_lt _, hu.py, hu.pv, hu.pp⟩, ⟨hu.sd, hu.no, hu.vg, hu.cg, hu.pg, hu.mf, hu.mp, smN_lt _, smN_lt _, smN_lt _⟩, ⟨hu.sd, hu.no, hu.vg, hu.cg, hu.pg, hu.mf, hu.mp, hu.py, hu.pv, hu.pp⟩⟩
def rAll (u : OpV) (qs : List PartV) : OpV := rTail (rPayer (rFees (rGas (rHead u qs) qs) qs) qs) qs
def bAll (bad : Bool) (qs : List PartV) : Bool := bTail (bPayer (bFees (bGas (bHead bad qs) qs) qs) qs) qs
theorem goes_read {w0 : World} {bF gO c : Nat} {cur : Array Value} {qs : List PartV} {u : OpV} {bad : Bool} {rest : Fs} (hR : RG gO c cur qs) (hu : OpNum u) (w : World)
    (hs : St w0 [] ((bF, .cells (fma u (pvR gO c 0) true bad) 72 (0, 0)) :: (gO, .cells cur 61 (0, 0)) :: rest) w) :
    Calls Tryd.prog 34 #[.pointer (some ⟨bF, 0, none⟩)] w (fun x w' => ∃ v fs', x = .returned v ∧ (v = .tuple #[] ∧ fs' = (bF, .cells (fma (rAll u qs) (pvR gO c 14) true (bAll bad qs)) 72 (0, 0)) :: (gO, .cells cur 61 (0, 0)) :: rest) ∧ St w0 [] fs' w') := by
  have hu1 := (num_read hR hu).1
  have hu2 := (num_read hR hu1).2.1
  have hu3 := (num_read hR hu2).2.2.1
  have hu4 := (num_read hR hu3).2.2.2.1
  refine calls_sub ?_
  refine calls_inline (args := [_]) Tryd.func34 rfl Tryd.ntmps34 rfl ?_ hs
  (refine CW.seq ?_; refine CW.region ?_; apply LW.v0; rfl; rfl; apply ValP.move; rfl; apply LW.v0; rfl; rfl; apply ValP.makeFunc; apply ArgsOk.cons; rfl; exact ArgsOk.nil; exact ArgsOk.nil; apply LW.v0; rfl; rfl; apply ValP.move; rfl; apply LW.v0; rfl; rfl; apply ValP.makeFunc; apply ArgsOk.cons; rfl; exact ArgsOk.nil; exact ArgsOk.nil; apply LW.v0; rfl; rfl; apply ValP.move; rfl; apply LW.v0; rfl; rfl; apply ValP.makeFunc; apply ArgsOk.cons; rfl; exact ArgsOk.nil; exact ArgsOk.nil; apply LW.v0; rfl; rfl; apply ValP.move; rfl; apply LW.v0; rfl; rfl; apply ValP.makeFunc; apply ArgsOk.cons; rfl; exact ArgsOk.nil; exact ArgsOk.nil; apply LW.v0; rfl; rfl; apply ValP.move; rfl; apply LW.v0; rfl; rfl; apply ValP.makeFunc; apply ArgsOk.cons; rfl; exact ArgsOk.nil; exact ArgsOk.nil; apply LW.v0; rfl; rfl; apply ValP.buildA; apply PartsOk.cons; rfl; apply PartsOk.cons; rfl; apply PartsOk.cons; rfl; apply PartsOk.cons; rfl; apply PartsOk.cons; rfl; exact PartsOk.nil; rfl; simp only [fillC, wc, wrCells, Value.cells, List.toList_toArray, List.setIfInBounds_toArray, List.set_cons_succ, List.set_cons_zero, Nat.reduceAdd, Nat.reduceMul, Nat.zero_add, Nat.mul_one]; rfl; apply LW.v0; rfl; rfl; apply ValP.move; rfl; apply LW.nil; refine thenN ?_; refine CW.block ?_)
  refine CW.rounds 6 ?_
  apply RW.step
  (refine CW.seq ?_; refine CW.region ?_; apply LW.v0; rfl; rfl; apply ValP.lssT; rfl; rfl; omega; apply LW.nil; refine thenN ?_; refine CW.seq ?_; apply CW.condT; rfl; (with_reducible rfl); refine CW.skip ?_; refine thenN ?_; refine CW.seq ?_; refine CW.block ?_; refine CW.seq ?_; refine CW.region ?_; apply LW.v0; rfl; rfl; apply ValP.indexAL; rfl; rfl; rfl; rfl; rfl; apply LW.v0; rfl; rfl; apply ValP.assign; rfl; apply LW.nil; refine thenN ?_; refine CW.region ?_; apply LW.v0; rfl; rfl; apply ValP.move; rfl)
  refine LW.callStF (aas := [_]) rfl rfl inferInstance .nil rfl (fun w hs => head_read hR hu w hs) ?_
  rintro v fs' ⟨rfl, rfl⟩
  (apply LW.nil; refine blkN ?_; refine thenN ?_; refine CW.region ?_; apply LW.v0; rfl; rfl; apply ValP.addI; rfl; rfl; omega; omega; apply LW.v0; rfl; rfl; apply ValP.move; rfl; apply LW.nil; refine thenL ?_)
  apply RW.step
  (refine CW.seq ?_; refine CW.region ?_; apply LW.v0; rfl; rfl; apply ValP.lssT; rfl; rfl; omega; apply LW.nil; refine thenN ?_; refine CW.seq ?_; apply CW.condT; rfl; (with_reducible rfl); refine CW.skip ?_; refine thenN ?_; refine CW.seq ?_; refine CW.block ?_; refine CW.seq ?_; refine CW.region ?_; apply LW.v0; rfl; rfl; apply ValP.indexAL; rfl; rfl; rfl; rfl; rfl; apply LW.v0; rfl; rfl; apply ValP.assign; rfl; apply LW.nil; refine thenN ?_; refine CW.region ?_; apply LW.v0; rfl; rfl; apply ValP.move; rfl)
  refine LW.callStF (aas := [_]) rfl rfl inferInstance .nil rfl (fun w hs => gas_read hR hu1 w hs) ?_
  rintro v fs' ⟨rfl, rfl⟩
  (apply LW.nil; refine blkN ?_; refine thenN ?_; refine CW.region ?_; apply LW.v0; rfl; rfl; apply ValP.addI; rfl; rfl; omega; omega; apply LW.v0; rfl; rfl; apply ValP.move; rfl; apply LW.nil; refine thenL ?_)
  apply RW.step
  (refine CW.seq ?_; refine CW.region ?_; apply LW.v0; rfl; rfl; apply ValP.lssT; rfl; rfl; omega; apply LW.nil; refine thenN ?_; refine CW.seq ?_; apply CW.condT; rfl; (with_reducible rfl); refine CW.skip ?_; refine thenN ?_; refine CW.seq ?_; refine CW.block ?_; refine CW.seq ?_; refine CW.region ?_; apply LW.v0; rfl; rfl; apply ValP.indexAL; rfl; rfl; rfl; rfl; rfl; apply LW.v0; rfl; rfl; apply ValP.assign; rfl; apply LW.nil; refine thenN ?_; refine CW.region ?_; apply LW.v0; rfl; rfl; apply ValP.move; rfl)
  refine LW.callStF (aas := [_]) rfl rfl inferInstance .nil rfl (fun w hs => fees_read hR hu2 w hs) ?_
  rintro v fs' ⟨rfl, rfl⟩
  (apply LW.nil; refine blkN ?_; refine thenN ?_; refine CW.region ?_; apply LW.v0; rfl; rfl; apply ValP.addI; rfl; rfl; omega; omega; apply LW.v0; rfl; rfl; apply ValP.move; rfl; apply LW.nil; refine thenL ?_)
  apply RW.step
  (refine CW.seq ?_; refine CW.region ?_; apply LW.v0; rfl; rfl; apply ValP.lssT; rfl; rfl; omega; apply LW.nil; refine thenN ?_; refine CW.seq ?_; apply CW.condT; rfl; (with_reducible rfl); refine CW.skip ?_; refine thenN ?_; refine CW.seq ?_; refine CW.block ?_; refine CW.seq ?_; refine CW.region ?_; apply LW.v0; rfl; rfl; apply ValP.indexAL; rfl; rfl; rfl; rfl; rfl; apply LW.v0; rfl; rfl; apply ValP.assign; rfl; apply LW.nil; refine thenN ?_; refine CW.region ?_; apply LW.v0; rfl; rfl; apply ValP.move; rfl)
  refine LW.callStF (aas := [_]) rfl rfl inferInstance .nil rfl (fun w hs => payer_read hR hu3 w hs) ?_
  rintro v fs' ⟨rfl, rfl⟩
  (apply LW.nil; refine blkN ?_; refine thenN ?_; refine CW.region ?_; apply LW.v0; rfl; rfl; apply ValP.addI; rfl; rfl; omega; omega; apply LW.v0; rfl; rfl; apply ValP.move; rfl; apply LW.nil; refine thenL ?_)
  apply RW.step
  (refine CW.seq ?_; refine CW.region ?_; apply LW.v0; rfl; rfl; apply ValP.lssT; rfl; rfl; omega; apply LW.nil; refine thenN ?_; refine CW.seq ?_; apply CW.condT; rfl; (with_reducible rfl); refine CW.skip ?_; refine thenN ?_; refine CW.seq ?_; refine CW.block ?_; refine CW.seq ?_; refine CW.region ?_; apply LW.v0; rfl; rfl; apply ValP.indexAL; rfl; rfl; rfl; rfl; rfl; apply LW.v0; rfl; rfl; apply ValP.assign; rfl; apply LW.nil; refine thenN ?_; refine CW.region ?_; apply LW.v0; rfl; rfl; apply ValP.move; rfl)
  refine LW.callStF (aas := [_]) rfl rfl inferInstance .nil rfl (fun w hs => tail_read hR hu4 w hs) ?_
  rintro v fs' ⟨rfl, rfl⟩
  (apply LW.nil; refine blkN ?_; refine thenN ?_; refine CW.region ?_; apply LW.v0; rfl; rfl; apply ValP.addI; rfl; rfl; omega; omega; apply LW.v0; rfl; rfl; apply ValP.move; rfl; apply LW.nil; refine thenL ?_)
  apply RW.step
  (refine CW.seq ?_; refine CW.region ?_; apply LW.v0; rfl; rfl; apply ValP.lssF; rfl; rfl; omega; apply LW.nil; refine thenN ?_; refine CW.seq ?_; apply CW.condF; rfl; (with_reducible rfl); refine CW.exit ?_; refine thenE ?_; refine thenE ?_; refine blkE rfl ?_)
  (apply inI; exact .inr rfl; exact Shut.nil; rfl; exact ResL.nil; rfl)
  exact ⟨_, List.Sublist.refl _, rfl, rfl⟩
end Go.Proofs.YtobkhnmglbfheaaDoor

/-
  Operations of accounts: the operation of bytes.
  Conditions: none.
-/
namespace Go.Proofs.YtobkhnmglbfheaaDoor
open Go Go.RowKit SL
set_option maxRecDepth 8000
set_option maxHeartbeats 4000000
set_option linter.unusedSimpArgs false
set_option linter.unusedVariables false
attribute [local irreducible] SL.CW SL.LW SL.DW Calls SL.Ret SL.RetG SL.beginQ SL.roundQ SL.rangeQ SL.inQ SL.RW SL.AnyW SL.thenQ SL.thenC SL.thenW SL.blkQ SL.finQ SL.ValP SL.NewP SL.SetP SL.CallP SL.Rd SL.Wr SL.Known
/-- The operation of bytes, and whether there is one. -/
def decU (b : List UInt8) : OpV := rAll u00 (rdL b fmU)
def okD (b : List UInt8) : Prop := rdE b fmU = 0 ∧ bAll false (rdL b fmU) = false ∧ okU (decU b)
instance (b : List UInt8) : Decidable (okD b) := by unfold okD; infer_instance
theorem opD_iff (u v : OpV) : opD u = opD v ↔ sameU u v = true := by
  rw [sameU_iff]
  simp only [opD, wdD, byD, List.cons.injEq, Prod.mk.injEq, true_and, and_true]
  constructor
  · rintro ⟨h1, h2, h3, h4, h5, h6, h7, h8, h9, ha, hb, hc, hd, he⟩
    exact ⟨⟨⟨h1, h2, ha⟩, h5, h6, h7, h8, h9, hb, hc⟩, h3, h4, hd, he⟩
  · rintro ⟨⟨⟨h1, h2, ha⟩, h5, h6, h7, h8, h9, hb, hc⟩, h3, h4, hd, he⟩
    exact ⟨h1, h2, h3, h4, h5, h6, h7, h8, h9, ha, hb, hc, hd, he⟩
theorem okU_dat {u v : OpV} (h : opD u = opD v) : okU u ↔ okU v := by
  obtain ⟨⟨⟨h1, h2, h3⟩, h4, h5, h6, h7, h8, h9, h10⟩, h11, h12, h13, h14⟩ := (sameU_iff u v).1 ((opD_iff u v).1 h)
  unfold okU
  rw [h1, h3, h4, h5, h6, h7, h8, h9, h10, h11, h12, h13, h14]
theorem rAll_dat {qs ms : List PartV} (h : qs.map dat = ms.map dat) (u v : OpV) : opD (rAll u qs) = opD (rAll v ms) ∧ bAll false qs = bAll false ms := by
  have hw : ∀ k, (pt qs k).wd = (pt ms k).wd := fun k => congrArg (·.2.1) (pt_dat h k)
  have hd : ∀ k, (pt qs k).db = (pt ms k).db := fun k => congrArg (·.2.2) (pt_dat h k)
  constructor
  · simp only [opD, rAll, rHead, rGas, rFees, rPayer, rTail, hw, hd]
  · simp only [bAll, bHead, bGas, bFees, bPayer, bTail, hw]
theorem LW.perm {C : Cu} {ops : Array Oper} {Q : Post} {l : List Oper} {e : Env} {fs fs' : Fs} (hp : fs'.Perm fs) (h : LW C ops Q l e fs') : LW C ops Q l e fs := by
  unfold SL.LW at h ⊢
  exact fun a w hs => h a w ⟨hs.env, hs.st.perm hp⟩
theorem rAll_at {qs : List PartV} (hl : qs.length = 14) {w : World} (hd : ∀ p ∈ qs, RowAt w 1 p.dv p.db.length (ucs p.db)) (hs : ∀ p ∈ qs, p.wd < M256) : OpAt w (rAll u00 qs) := by
  have hm : ∀ k, k < 14 → pt qs k ∈ qs := fun k hk => by rw [pt_eq (by omega)]; exact List.getElem_mem _
  exact ⟨⟨smN_lt _, hs _ (hm 1 (by decide)), smN_lt _, smN_lt _, smN_lt _, smN_lt _, smN_lt _, smN_lt _, smN_lt _, smN_lt _⟩, hd _ (hm 2 (by decide)), hd _ (hm 3 (by decide)), hd _ (hm 12 (by decide)), hd _ (hm 13 (by decide))⟩
/-- What Decode hands back. -/
def DecR (b : List UInt8) (v : Value) (gs : Fs) : Prop := ∃ u, v = .tuple #[.agg (opa u), .int .i64 (if okD b then 0 else 280)] ∧ OpGs u gs ∧ opD u = opD (if okD b then decU b else u00)
theorem decR_no {b : List UInt8} (h : ¬okD b) : DecR b (.tuple #[.agg (opa u00), .int .i64 280]) [] := ⟨u00, by rw [if_neg h], fun w _ => u00_at w, by rw [if_neg h]⟩
theorem fm_rdW {P : Program} {T E : TypeId} {fr : Nat × Nat} {u : OpV} {pv : Value} {r b : Bool} {z : Value} [AgI P T true] [InfoI P T 17 z] : Rd P T (.cells (fma u pv r b) E fr) 0 (.agg (opa u)) := Rd.mid (cs := opc u) rfl rfl
theorem Decode_calls (b : List UInt8) (bv : Value) (w : World) (hb : RowAt w 1 bv b.length (ucs b)) : Calls Tryd.prog 16 #[bv] w (RetG w [] (DecR b)) := by
  obtain ⟨p, c, rfl, hc, hm⟩ := hb.form
  have hsl0 : OpSl u00 := (u00_at w).sl
  refine enter (args := [_]) _ [] [] Tryd.func16 rfl Tryd.ntmps16 rfl (by simp) .nil ?_
  (refine CW.seq ?_; refine CW.region ?_; apply LW.allocA; rfl; intro _; apply LW.v0; rfl; rfl; apply ValP.assign; rfl; apply LW.nil; refine thenN ?_; refine CW.seq ?_; refine CW.region ?_; apply LW.v0; rfl; rfl; apply ValP.move; rfl)
  refine LW.callR rfl rfl inferInstance (by (exact ArgsOk.nil)) (fun w hst => long_calls_u w) ?_
  rintro fv gsF hF
  obtain ⟨pf, cf, rfl⟩ := hF.form
  skip
  refine LW.callR rfl rfl inferInstance (by (apply ArgsOk.cons; rfl; apply ArgsOk.cons; rfl; exact ArgsOk.nil)) (fun w hst => Read_pack b fmU _ _ w (hb.st hst) (hF.us (st_us hst (List.sublist_append_left _ _)) (List.Sublist.refl _))) ?_
  rintro v5 gs5 ⟨ov, rfl, hok, hno⟩
  by_cases hE : rdE b fmU = 0
  · obtain ⟨qs, hq, gsD, segO, rfl, hO, hD, hsm⟩ := hok hE
    have hql : qs.length = 14 := by have h := congrArg List.length hq; rw [List.length_map] at h; rw [h]; simp [rdK, fmU]
    rw [hE]
    rw [hql] at hO
    obtain ⟨po, co, rfl⟩ := hO.form
    obtain ⟨gO, cur, rfl, rfl, hn1, hm1, hs1, ht1⟩ := hO.pos (by decide)
    simp only [List.append_assoc, List.cons_append, List.nil_append]
    refine LW.st fun w1 hst1 => ?_
    have hD0 := hD w1 (fun q hq => (hst1.own q (by simp [hq])).2)
    clear hst1
    (apply LW.v0; rfl; rfl; apply ValP.move; rfl; apply LW.v0; rfl; rfl; apply ValP.extractN; rfl; rfl; apply LW.v0; rfl; rfl; apply ValP.extractN; rfl; rfl; apply LW.v0; rfl; rfl; apply ValP.assign; rfl; apply LW.v0; rfl; rfl; apply ValP.assign; rfl; apply LW.nil; refine thenN ?_; refine CW.seq ?_; refine CW.seq ?_; refine CW.region ?_; apply LW.v0; rfl; rfl; apply ValP.move; rfl; apply LW.v0; rfl; rfl; apply ValP.neF; rfl; rfl; omega; apply LW.nil; refine thenN ?_; apply CW.condF; rfl; (with_reducible rfl); refine CW.skip ?_; refine thenN ?_; refine CW.seq ?_; refine CW.region ?_; apply LW.v0; rfl; rfl; apply ValP.move; rfl; apply LW.v0; rfl; rfl; apply ValP.buildT; infer_instance; infer_instance; apply PartsOk.cons; rfl; apply PartsOk.cons; rfl; exact PartsOk.nil; rfl; simp only [opa, opc, wc, fillP, wrCells, Value.cells, List.getElem?_cons_zero, List.getElem?_cons_succ, List.toList_toArray, List.setIfInBounds_toArray, List.set_cons_succ, List.set_cons_zero, Nat.reduceAdd, Nat.zero_add, List.cons_append, List.nil_append]; rfl; apply LW.boxA; rfl; rfl; intro _; apply LW.v0; rfl; rfl; apply ValP.assign; rfl; apply LW.nil; refine thenN ?_; refine CW.seq ?_; refine CW.region ?_; apply LW.v0; rfl; rfl; apply ValP.move; rfl)
    have hone : ∀ p ∈ qs, ∃ a n c, p.dv = .slice a n c := fun p hp => by
      obtain ⟨a, c, h, _⟩ := (hD0 p hp).form
      exact ⟨a, _, c, h⟩
    have hR : RG gO co cur qs := ⟨hql, hn1, hm1, ht1, hsm, hone⟩
    have hdat := rAll_dat (hq.trans (rdL_dat b fmU).symm) u00 u00
    refine LW.perm (List.perm_middle.symm.cons _) ?_
    refine LW.callSt rfl rfl inferInstance (by (apply ArgsOk.cons; rfl; exact ArgsOk.nil)) (fun w hs => goes_read (c := co) (u := u00) (bad := false) hR (u00_at w).num w hs) ?_
    rintro v fs' ⟨rfl, rfl⟩
    rw [hdat.2]
    have hA : ∀ {w'}, (∀ q ∈ gsD, w'.heap[q.1]? = some q.2) → OpAt w' (rAll u00 qs) := fun h => rAll_at hql (hD _ h) hsm
    have hsl : OpSl (rAll u00 qs) := (rAll_at hql hD0 hsm).sl
    rcases hB : bAll false (rdL b fmU) with _ | _
    · by_cases ho : okU (decU b)
      · have hCk : ∀ w', (∀ q ∈ gsD, w'.heap[q.1]? = some q.2) → Calls Tryd.prog 8 #[.agg (opa (rAll u00 qs))] w' (Ret w' (.int .i64 0)) := fun w' h => by
          have := Check_u_calls (rAll u00 qs) w' (hA h)
          rwa [if_pos ((okU_dat hdat.1).2 ho)] at this
        have hd : okD b := ⟨hE, hB, ho⟩
        (apply LW.nil; refine thenN ?_; refine CW.seq ?_; refine CW.seq ?_; refine CW.region ?_; apply LW.v0; rfl; rfl; apply ValP.move; rfl; apply LW.v0; rfl; rfl; apply ValP.nilCheck; rfl; apply LW.v0; rfl; rfl; apply ValP.fieldAddr; rfl; rfl; apply LW.load; rfl; rfl; apply Known.at; apply FsAt.head; exact fm_rd19; apply LW.v0; rfl; rfl; apply ValP.move; rfl; apply LW.guardT'; rfl; rfl; (with_reducible rfl); apply LW.v0; rfl; rfl; apply ValP.move; rfl; apply LW.guardT'; rfl; rfl; (with_reducible rfl); apply LW.v0; rfl; rfl; apply ValP.nilCheck; rfl; apply LW.guardT'; rfl; rfl; (with_reducible rfl); apply LW.v0; rfl; rfl; apply ValP.fieldAddr; rfl; rfl; apply LW.guardT'; rfl; rfl; (with_reducible rfl); apply LW.load; rfl; rfl; apply Known.at; apply FsAt.head; exact fm_rdW; apply LW.guardT'; rfl; rfl; (with_reducible rfl); apply LW.callE; rfl; rfl; infer_instance; apply ArgsOk.cons; rfl; exact ArgsOk.nil; intro w _; exact hCk w (st_us (by assumption) (List.Sublist.cons _ (List.Sublist.cons _ (List.sublist_append_left _ _)))); apply LW.guardT'; rfl; rfl; (with_reducible rfl); apply LW.v0; rfl; rfl; apply ValP.neF; rfl; rfl; omega; apply LW.v0; rfl; rfl; apply ValP.pickF'; rfl; (with_reducible rfl); rfl; apply LW.nil; refine thenN ?_; apply CW.condF; rfl; (with_reducible rfl); refine CW.skip ?_; refine thenN ?_; refine CW.seq ?_; refine CW.region ?_; apply LW.v0; rfl; rfl; apply ValP.move; rfl; apply LW.v0; rfl; rfl; apply ValP.nilCheck; rfl; apply LW.v0; rfl; rfl; apply ValP.fieldAddr; rfl; rfl; apply LW.load; rfl; rfl; apply Known.at; apply FsAt.head; exact fm_rdW; apply LW.store; rfl; rfl; apply SetAt.tail; apply SetAt.tail; apply SetAt.app; apply SetAt.app; apply SetAt.head; apply op_wrW; rfl; assumption; apply LW.v0; rfl; rfl; apply ValP.assign; rfl; apply LW.nil; refine thenN ?_; refine CW.ret ?_)
        refine fin (vs := [.agg (opa (rAll u00 qs)), .int .i64 0]) gsD (.inl rfl) rfl rfl (by (apply ResL.cons; apply Res.cell; rfl; apply Known.at; apply FsAt.tail; apply FsAt.tail; apply FsAt.app; apply FsAt.app; apply FsAt.head; exact op_rdW; apply ResL.cons; exact Res.tmp rfl; exact ResL.nil)) (List.Sublist.cons _ (List.Sublist.cons _ (List.sublist_append_left _ _))) ⟨rAll u00 qs, by rw [if_pos hd]; rfl, fun w' hw => hA hw, by rw [if_pos hd]; exact hdat.1⟩
      · have hCk : ∀ w', (∀ q ∈ gsD, w'.heap[q.1]? = some q.2) → Calls Tryd.prog 8 #[.agg (opa (rAll u00 qs))] w' (Ret w' (.int .i64 280)) := fun w' h => by
          have := Check_u_calls (rAll u00 qs) w' (hA h)
          rwa [if_neg (fun h => ho ((okU_dat hdat.1).1 h))] at this
        have hd : ¬okD b := fun h => ho h.2.2
        (apply LW.nil; refine thenN ?_; refine CW.seq ?_; refine CW.seq ?_; refine CW.region ?_; apply LW.v0; rfl; rfl; apply ValP.move; rfl; apply LW.v0; rfl; rfl; apply ValP.nilCheck; rfl; apply LW.v0; rfl; rfl; apply ValP.fieldAddr; rfl; rfl; apply LW.load; rfl; rfl; apply Known.at; apply FsAt.head; exact fm_rd19; apply LW.v0; rfl; rfl; apply ValP.move; rfl; apply LW.guardT'; rfl; rfl; (with_reducible rfl); apply LW.v0; rfl; rfl; apply ValP.move; rfl; apply LW.guardT'; rfl; rfl; (with_reducible rfl); apply LW.v0; rfl; rfl; apply ValP.nilCheck; rfl; apply LW.guardT'; rfl; rfl; (with_reducible rfl); apply LW.v0; rfl; rfl; apply ValP.fieldAddr; rfl; rfl; apply LW.guardT'; rfl; rfl; (with_reducible rfl); apply LW.load; rfl; rfl; apply Known.at; apply FsAt.head; exact fm_rdW; apply LW.guardT'; rfl; rfl; (with_reducible rfl); apply LW.callE; rfl; rfl; infer_instance; apply ArgsOk.cons; rfl; exact ArgsOk.nil; intro w _; exact hCk w (st_us (by assumption) (List.Sublist.cons _ (List.Sublist.cons _ (List.sublist_append_left _ _)))); apply LW.guardT'; rfl; rfl; (with_reducible rfl); apply LW.v0; rfl; rfl; apply ValP.neT; rfl; rfl; omega; apply LW.v0; rfl; rfl; apply ValP.pickF'; rfl; (with_reducible rfl); rfl; apply LW.nil; refine thenN ?_; apply CW.condT; rfl; (with_reducible rfl); refine CW.seq ?_; refine CW.region ?_; apply LW.v0; rfl; rfl; apply ValP.buildT; infer_instance; infer_instance; exact PartsOk.nil; rfl; simp only [opa, opc, wc, fillP, wrCells, Value.cells, List.getElem?_cons_zero, List.getElem?_cons_succ, List.toList_toArray, List.setIfInBounds_toArray, List.set_cons_succ, List.set_cons_zero, Nat.reduceAdd, Nat.zero_add, List.cons_append, List.nil_append]; rfl; apply LW.store; rfl; rfl; apply SetAt.tail; apply SetAt.tail; apply SetAt.app; apply SetAt.app; apply SetAt.head; apply Wr.whole; rfl; rfl; rfl; apply LW.v0; rfl; rfl; apply ValP.assign; rfl; apply LW.nil; refine thenN ?_; refine CW.ret ?_; refine thenR ?_)
        refine fin (vs := [.agg (opa u00), .int .i64 280]) [] (.inl rfl) rfl rfl (by (apply ResL.cons; apply Res.cell; rfl; apply Known.at; apply FsAt.tail; apply FsAt.tail; apply FsAt.app; apply FsAt.app; apply FsAt.head; exact Rd.whole rfl; apply ResL.cons; exact Res.tmp rfl; exact ResL.nil)) (List.nil_sublist _) (decR_no hd)
    · have hd : ¬okD b := fun h => by have := h.2.1; rw [hB] at this; cases this
      (apply LW.nil; refine thenN ?_; refine CW.seq ?_; refine CW.seq ?_; refine CW.region ?_; apply LW.v0; rfl; rfl; apply ValP.move; rfl; apply LW.v0; rfl; rfl; apply ValP.nilCheck; rfl; apply LW.v0; rfl; rfl; apply ValP.fieldAddr; rfl; rfl; apply LW.load; rfl; rfl; apply Known.at; apply FsAt.head; exact fm_rd19; apply LW.v0; rfl; rfl; apply ValP.move; rfl; apply LW.guardF'; rfl; rfl; simp only [Bool.not_true, Bool.not_false]; rfl; apply LW.guardF'; rfl; rfl; simp only [Bool.not_true, Bool.not_false]; rfl; apply LW.guardF'; rfl; rfl; simp only [Bool.not_true, Bool.not_false]; rfl; apply LW.guardF'; rfl; rfl; simp only [Bool.not_true, Bool.not_false]; rfl; apply LW.guardF'; rfl; rfl; simp only [Bool.not_true, Bool.not_false]; rfl; apply LW.guardF'; rfl; rfl; simp only [Bool.not_true, Bool.not_false]; rfl; apply LW.v0; rfl; rfl; apply ValP.pickT'; rfl; (with_reducible rfl); rfl; apply LW.nil; refine thenN ?_; apply CW.condT; rfl; (with_reducible rfl); refine CW.seq ?_; refine CW.region ?_; apply LW.v0; rfl; rfl; apply ValP.buildT; infer_instance; infer_instance; exact PartsOk.nil; rfl; simp only [opa, opc, wc, fillP, wrCells, Value.cells, List.getElem?_cons_zero, List.getElem?_cons_succ, List.toList_toArray, List.setIfInBounds_toArray, List.set_cons_succ, List.set_cons_zero, Nat.reduceAdd, Nat.zero_add, List.cons_append, List.nil_append]; rfl; apply LW.store; rfl; rfl; apply SetAt.tail; apply SetAt.tail; apply SetAt.app; apply SetAt.app; apply SetAt.head; apply Wr.whole; rfl; rfl; rfl; apply LW.v0; rfl; rfl; apply ValP.assign; rfl; apply LW.nil; refine thenN ?_; refine CW.ret ?_; refine thenR ?_)
      refine fin (vs := [.agg (opa u00), .int .i64 280]) [] (.inl rfl) rfl rfl (by (apply ResL.cons; apply Res.cell; rfl; apply Known.at; apply FsAt.tail; apply FsAt.tail; apply FsAt.app; apply FsAt.app; apply FsAt.head; exact Rd.whole rfl; apply ResL.cons; exact Res.tmp rfl; exact ResL.nil)) (List.nil_sublist _) (decR_no hd)
  · have hd : ¬okD b := fun h => hE h.1
    obtain rfl := hno hE
    (apply LW.v0; rfl; rfl; apply ValP.move; rfl; apply LW.v0; rfl; rfl; apply ValP.extractN; rfl; rfl; apply LW.v0; rfl; rfl; apply ValP.extractN; rfl; rfl; apply LW.v0; rfl; rfl; apply ValP.assign; rfl; apply LW.v0; rfl; rfl; apply ValP.assign; rfl; apply LW.nil; refine thenN ?_; refine CW.seq ?_; refine CW.seq ?_; refine CW.region ?_; apply LW.v0; rfl; rfl; apply ValP.move; rfl; apply LW.v0; rfl; rfl; apply ValP.neT; rfl; rfl; omega; apply LW.nil; refine thenN ?_; apply CW.condT; rfl; (with_reducible rfl); refine CW.seq ?_; refine CW.region ?_; apply LW.v0; rfl; rfl; apply ValP.buildT; infer_instance; infer_instance; exact PartsOk.nil; rfl; simp only [opa, opc, wc, fillP, wrCells, Value.cells, List.getElem?_cons_zero, List.getElem?_cons_succ, List.toList_toArray, List.setIfInBounds_toArray, List.set_cons_succ, List.set_cons_zero, Nat.reduceAdd, Nat.zero_add, List.cons_append, List.nil_append]; rfl; apply LW.store; rfl; rfl; apply SetAt.app; apply SetAt.app; apply SetAt.head; apply Wr.whole; rfl; rfl; rfl; apply LW.v0; rfl; rfl; apply ValP.assign; rfl; apply LW.nil; refine thenN ?_; refine CW.ret ?_; refine thenR ?_)
    refine fin (vs := [.agg (opa u00), .int .i64 280]) [] (.inl rfl) rfl rfl (by (apply ResL.cons; apply Res.cell; rfl; apply Known.at; apply FsAt.app; apply FsAt.app; apply FsAt.head; exact Rd.whole rfl; apply ResL.cons; exact Res.tmp rfl; exact ResL.nil)) (List.nil_sublist _) (decR_no hd)
end Go.Proofs.YtobkhnmglbfheaaDoor

/-
  Operations of accounts and their bytes lead back to one another: the plain law.
  Conditions: none.
-/
namespace Go.Proofs.YtobkhnmglbfheaaDoor
open Go Go.RowKit SL
set_option maxRecDepth 8000
set_option maxHeartbeats 4000000
set_option linter.unusedSimpArgs false
set_option linter.unusedVariables false
attribute [local irreducible] SL.CW SL.LW SL.DW Calls SL.Ret SL.RetG SL.beginQ SL.roundQ SL.rangeQ SL.inQ SL.RW SL.AnyW SL.thenQ SL.thenC SL.thenW SL.blkQ SL.finQ SL.ValP SL.NewP SL.SetP SL.CallP SL.Rd SL.Wr SL.Known
theorem opL_fm (u : OpV) : fmP (opL u) = fmU := rfl
theorem opL_small {u : OpV} (h : OpNum u) : ∀ p ∈ opL u, p.wd < M256 := by
  intro p hp
  have h64 : (18446744073709551616 : Nat) < M256 := by decide
  have h0 : 0 < M256 := by decide
  simp only [opL, opD, List.map_cons, List.map_nil, List.mem_cons, List.not_mem_nil, or_false] at hp
  rcases hp with rfl | rfl | rfl | rfl | rfl | rfl | rfl | rfl | rfl | rfl | rfl | rfl | rfl | rfl
  · exact Nat.lt_trans h.sd h64
  · exact h.no
  · exact h0
  · exact h0
  · exact Nat.lt_trans h.vg h64
  · exact Nat.lt_trans h.cg h64
  · exact Nat.lt_trans h.pg h64
  · exact Nat.lt_trans h.mf h64
  · exact Nat.lt_trans h.mp h64
  · exact Nat.lt_trans h.py h64
  · exact Nat.lt_trans h.pv h64
  · exact Nat.lt_trans h.pp h64
  · exact h0
  · exact h0
theorem smN_of {a : Nat} (h : a < 18446744073709551616) : smN a = a := if_pos h
theorem smB_of {a : Nat} (h : a < 18446744073709551616) : smB a = true := decide_eq_true h
theorem rAll_opL {u : OpV} (h : OpNum u) : opD (rAll u00 (opL u)) = opD u ∧ bAll false (opL u) = false := by
  constructor
  · have e : opD (rAll u00 (opL u)) = [wdD (smN u.sd), wdD u.no, byD u.ib, byD u.cb, wdD (smN u.vg), wdD (smN u.cg), wdD (smN u.pg), wdD (smN u.mf), wdD (smN u.mp), wdD (smN u.py), wdD (smN u.pv), wdD (smN u.pp), byD u.db, byD u.gb] := rfl
    rw [e, smN_of h.sd, smN_of h.vg, smN_of h.cg, smN_of h.pg, smN_of h.mf, smN_of h.mp, smN_of h.py, smN_of h.pv, smN_of h.pp]
    rfl
  · have e : bAll false (opL u) = (((((((((false || !smB u.sd) || !smB u.vg) || !smB u.cg) || !smB u.pg) || !smB u.mf) || !smB u.mp) || !smB u.py) || !smB u.pv) || !smB u.pp) := rfl
    rw [e, smB_of h.sd, smB_of h.vg, smB_of h.cg, smB_of h.pg, smB_of h.mf, smB_of h.mp, smB_of h.py, smB_of h.pv, smB_of h.pp]
    rfl
/-- An operation that may be is read again out of its bytes. -/
theorem dec_enc {u : OpV} (ho : okU u) (hn : OpNum u) : okD (encB u) ∧ opD (decU (encB u)) = opD u := by
  have h := read_laid (opL_chk ho) (opL_small hn)
  rw [opL_fm] at h
  have hd : (rdL (encB u) fmU).map dat = (opL u).map dat := by rw [rdL_dat]; exact h.2
  have h1 := rAll_dat hd u00 u00
  have h2 := rAll_opL hn
  have h3 : opD (decU (encB u)) = opD u := h1.1.trans h2.1
  exact ⟨⟨h.1, h1.2.trans h2.2, (okU_dat h3).2 ho⟩, h3⟩
end Go.Proofs.YtobkhnmglbfheaaDoor

/-
  Verdicts, and when they are due.
  Conditions: none.
-/
namespace Go.Proofs.YtobkhnmglbfheaaDoor
open Go Go.RowKit SL
set_option maxRecDepth 8000
set_option maxHeartbeats 4000000
set_option linter.unusedSimpArgs false
set_option linter.unusedVariables false
attribute [local irreducible] SL.CW SL.LW SL.DW Calls SL.Ret SL.RetG SL.beginQ SL.roundQ SL.rangeQ SL.inQ SL.RW SL.AnyW SL.thenQ SL.thenC SL.thenW SL.blkQ SL.finQ SL.ValP SL.NewP SL.SetP SL.CallP SL.Rd SL.Wr SL.Known
end Go.Proofs.YtobkhnmglbfheaaDoor

/-
  Arguments of the laws on operations, opened.
  Conditions: none.
-/
namespace Go.Proofs.YtobkhnmglbfheaaDoor
open Go Go.RowKit SL
open Go.ChangeShapes Go.WideShapes
set_option linter.unusedVariables false
section op
variable {H : Type} {enc : TypeId × Value → H} {P : Program} {w W : World} {held : Bool} {r : Reach} {base : Nat} {T E : TypeId} {v : Value} {d : DataW H} {ps : List MemPlace}
def aggB (P : Program) (T : TypeId) : Bool := match P.underlying T with | some (.struct _) | some (.array _ _) => true | _ => false
/-- An argument that is a struct, or an array. -/
theorem open_agg {α : Type} {g : α → List Value} {Q : α → Prop} {e : Ty} (hs : aggB P T = true) (hT : e.ok P (.inl T) = true) (he : ∀ cs', e.is w cs' → ∃ x, Q x ∧ cs' = g x)
    (hv : Value.okWide P W r base T v) (h : DataW.Trod enc P w 0 (fun _ => true) held T v d ps) : ∃ x : α, Q x ∧ v = .agg (g x).toArray := by
  obtain ⟨cs, rfl⟩ : ∃ cs, v = .agg cs := by
    unfold aggB at hs
    unfold Value.okWide at hv
    split at hs
    · rename_i fs hu
      simp only [hu] at hv
      obtain ⟨cs, h1, _⟩ := hv
      exact ⟨cs, h1⟩
    · rename_i n e hu
      simp only [hu] at hv
      obtain ⟨cs, h1, _⟩ := hv
      exact ⟨cs, h1⟩
    · cases hs
  obtain ⟨x, hx, he2⟩ := he _ (open_one hT h)
  exact ⟨x, hx, congrArg Value.agg (Array.toList_inj.1 he2)⟩
theorem pair_is {f r : Ty} {cs : List Value} (h : (Ty.pair f r).is w cs) : ∃ a b, cs = a ++ b ∧ f.is w a ∧ r.is w b := ⟨_, _, (List.take_append_drop _ cs).symm, h.1, h.2⟩
theorem is_u64 {cs : List Value} (h : (Ty.int .u64).is w cs) : ∃ n : Nat, n < 18446744073709551616 ∧ cs = [.int .u64 (n : Int)] := by
  obtain ⟨n, rfl, hn⟩ := h
  obtain ⟨k, rfl, hk⟩ := wf_u64 hn
  exact ⟨k, hk, rfl⟩
def tyBs : Ty := .sl (.int .u8)
def tyOp : Ty := .pair (.int .u64) (.pair .word (.pair tyBs (.pair tyBs (.pair (.int .u64) (.pair (.int .u64) (.pair (.int .u64) (.pair (.int .u64) (.pair (.int .u64) (.pair (.int .u64) (.pair (.int .u64) (.pair (.int .u64) (.pair tyBs (.pair tyBs .unit)))))))))))))
theorem is_op {cs : List Value} (h : tyOp.is w cs) : ∃ u : OpV, OpAt w u ∧ cs = opc u := by
  obtain ⟨_, _, rfl, h0, h⟩ := pair_is h
  obtain ⟨_, _, rfl, h1, h⟩ := pair_is h
  obtain ⟨_, _, rfl, h2, h⟩ := pair_is h
  obtain ⟨_, _, rfl, h3, h⟩ := pair_is h
  obtain ⟨_, _, rfl, h4, h⟩ := pair_is h
  obtain ⟨_, _, rfl, h5, h⟩ := pair_is h
  obtain ⟨_, _, rfl, h6, h⟩ := pair_is h
  obtain ⟨_, _, rfl, h7, h⟩ := pair_is h
  obtain ⟨_, _, rfl, h8, h⟩ := pair_is h
  obtain ⟨_, _, rfl, h9, h⟩ := pair_is h
  obtain ⟨_, _, rfl, ha, h⟩ := pair_is h
  obtain ⟨_, _, rfl, hb, h⟩ := pair_is h
  obtain ⟨_, _, rfl, hc, h⟩ := pair_is h
  obtain ⟨_, _, rfl, hd, h⟩ := pair_is h
  obtain rfl : _ = [] := h
  obtain ⟨n0, b0, rfl⟩ := is_u64 h0
  obtain ⟨n1, b1, rfl⟩ := is_word h1
  obtain ⟨⟨v2, l2⟩, b2, rfl⟩ := is_bytes h2
  obtain ⟨⟨v3, l3⟩, b3, rfl⟩ := is_bytes h3
  obtain ⟨n4, b4, rfl⟩ := is_u64 h4
  obtain ⟨n5, b5, rfl⟩ := is_u64 h5
  obtain ⟨n6, b6, rfl⟩ := is_u64 h6
  obtain ⟨n7, b7, rfl⟩ := is_u64 h7
  obtain ⟨n8, b8, rfl⟩ := is_u64 h8
  obtain ⟨n9, b9, rfl⟩ := is_u64 h9
  obtain ⟨na, ba, rfl⟩ := is_u64 ha
  obtain ⟨nb, bb, rfl⟩ := is_u64 hb
  obtain ⟨⟨vc, lc⟩, bc, rfl⟩ := is_bytes hc
  obtain ⟨⟨vd, ld⟩, bd, rfl⟩ := is_bytes hd
  exact ⟨⟨n0, n1, v2, l2, v3, l3, n4, n5, n6, n7, n8, n9, na, nb, vc, lc, vd, ld⟩, ⟨⟨b0, b1, b4, b5, b6, b7, b8, b9, ba, bb⟩, b2, b3, bc, bd⟩, rfl⟩
end op
/-- A row of operations that may be read. -/
structure OpsAt (w : World) (v : Value) (l : List OpV) : Prop where
  row : RowAt w 17 v l.length (l.flatMap opc)
  at_ : ∀ u ∈ l, OpAt w u
end Go.Proofs.YtobkhnmglbfheaaDoor

/-
  Contracts of the sponge: places, turns.
  Conditions: none.
-/
namespace Go.Proofs.YtobkhnmglbfheaaDoor.SK
open Go Go.RowKit SL
set_option maxRecDepth 8000
set_option maxHeartbeats 4000000
set_option linter.unusedSimpArgs false
set_option linter.unusedVariables false
attribute [local irreducible] SL.CW SL.LW SL.DW Calls SL.Ret SL.RetG SL.beginQ SL.roundQ SL.rangeQ SL.inQ SL.RW SL.AnyW SL.thenQ SL.thenC SL.thenW SL.blkQ SL.finQ SL.ValP SL.NewP SL.SetP SL.CallP SL.Rd SL.Wr SL.Known
theorem at_calls (x y : Nat) (hx : x < 1000) (hy : y < 1000) (w : World) : Calls Tryd.prog 87 #[.int .i64 (x : Int), .int .i64 (y : Int)] w (Ret w (.int .i64 ((5 * (y % 5) + x % 5 : Nat) : Int))) := by
  refine enter (args := [_, _]) _ [] [] Tryd.func87 rfl Tryd.ntmps87 rfl (by simp) .nil ?_
  (refine CW.seq ?_; refine CW.region ?_; apply LW.v0; rfl; rfl; apply ValP.assign; rfl; apply LW.nil; refine thenN ?_; refine CW.seq ?_; refine CW.region ?_; apply LW.v0; rfl; rfl; apply ValP.move; rfl; apply LW.v0; rfl; rfl; apply ValP.remZL; rfl; rfl; decide; omega; apply LW.v0; rfl; rfl; apply ValP.mulZK; rfl; rfl; decide; omega; apply LW.v0; rfl; rfl; apply ValP.move; rfl; apply LW.v0; rfl; rfl; apply ValP.remZL; rfl; rfl; decide; omega; apply LW.v0; rfl; rfl; apply ValP.addZ; rfl; rfl; omega; apply LW.v0; rfl; rfl; apply ValP.assign; rfl; apply LW.nil; refine thenN ?_; refine CW.ret ?_)
  (apply finR; exact .inl rfl; rfl; rfl; rfl; apply ResL.cons; exact Res.tmp rfl; exact ResL.nil)
  rfl
def rotl (x n : Nat) : Nat := (x * 2 ^ n % 18446744073709551616) ||| (x / 2 ^ (64 - n))
theorem rot_calls (x n : Nat) (hx : x < 18446744073709551616) (hn : n < 64) (w : World) : Calls Tryd.prog 91 #[.int .u64 (x : Int), .int .i64 (n : Int)] w (Ret w (.int .u64 ((rotl x n : Nat) : Int))) := by
  have h63 : n &&& 63 = n := by rw [show (63 : Nat) = 2 ^ 6 - 1 from rfl, Nat.and_two_pow_sub_one_eq_mod]; exact Nat.mod_eq_of_lt hn
  refine enter (args := [_, _]) _ [] [] Tryd.func91 rfl Tryd.ntmps91 rfl (by simp) .nil ?_
  unfold rotl
  conv in (2 ^ n) => rw [← h63]
  conv in (64 - n) => rw [← h63]
  (refine CW.seq ?_; refine CW.region ?_; apply LW.v0; rfl; rfl; apply ValP.assign; rfl; apply LW.nil; refine thenN ?_; refine CW.seq ?_; refine CW.region ?_; apply LW.v0; rfl; rfl; apply ValP.move; rfl; apply LW.v0; rfl; rfl; apply ValP.convN; rfl; omega; omega; apply LW.v0; rfl; rfl; apply ValP.andUL; rfl; rfl; decide; omega; omega; apply LW.v0; rfl; rfl; apply ValP.assign; rfl; apply LW.nil; refine thenN ?_; refine CW.seq ?_; refine CW.region ?_; apply LW.v0; rfl; rfl; apply ValP.move; rfl; apply LW.v0; rfl; rfl; apply ValP.move; rfl; apply LW.v0; rfl; rfl; apply ValP.shlU; rfl; rfl; omega; apply LW.v0; rfl; rfl; apply ValP.move; rfl; apply LW.v0; rfl; rfl; apply ValP.move; rfl; apply LW.v0; rfl; rfl; apply ValP.subNK; rfl; rfl; decide; omega; omega; apply LW.v0; rfl; rfl; apply ValP.shrU; rfl; rfl; omega; apply LW.v0; rfl; rfl; apply ValP.orU; rfl; rfl; omega; apply div64; omega; apply LW.v0; rfl; rfl; apply ValP.assign; rfl; apply LW.nil; refine thenN ?_; refine CW.ret ?_)
  (apply finR; exact .inl rfl; rfl; rfl; rfl; apply ResL.cons; exact Res.tmp rfl; exact ResL.nil)
  rfl
theorem turned_calls (x n : Nat) (hx : x < 18446744073709551616) (hn : n < 64) (w : World) : Calls Tryd.prog 88 #[.int .u64 (x : Int), .int .i64 (n : Int)] w (Ret w (.int .u64 ((rotl x n : Nat) : Int))) := by
  refine enter (args := [_, _]) _ [] [] Tryd.func88 rfl Tryd.ntmps88 rfl (by simp) .nil ?_
  (refine CW.seq ?_; refine CW.region ?_; apply LW.v0; rfl; rfl; apply ValP.assign; rfl; apply LW.nil; refine thenN ?_; refine CW.seq ?_; refine CW.region ?_; apply LW.v0; rfl; rfl; apply ValP.move; rfl; apply LW.v0; rfl; rfl; apply ValP.move; rfl; apply LW.callE; rfl; rfl; infer_instance; apply ArgsOk.cons; rfl; apply ArgsOk.cons; rfl; exact ArgsOk.nil; intro w _; exact rot_calls x n hx hn w; apply LW.v0; rfl; rfl; apply ValP.assign; rfl; apply LW.nil; refine thenN ?_; refine CW.ret ?_)
  (apply finR; exact .inl rfl; rfl; rfl; rfl; apply ResL.cons; exact Res.tmp rfl; exact ResL.nil)
  rfl
/-! ### Rows -/
def rowV (L : List Nat) (x y : Nat) : Nat := L.getD (5 * (y % 5) + x % 5) 0 ^^^ ((18446744073709551615 - L.getD (5 * (y % 5) + (x + 1) % 5) 0) &&& L.getD (5 * (y % 5) + (x + 2) % 5) 0)
def rowsF (L : List Nat) : Nat → List Nat
  | 0 => List.replicate 25 0
  | k + 1 => (rowsF L k).set (5 * (k / 5 % 5) + k % 5 % 5) (rowV L (k % 5) (k / 5))
theorem rowsF_len (L : List Nat) (k : Nat) : (rowsF L k).length = 25 := by
  induction k with
  | zero => simp [rowsF]
  | succ k ih => simp [rowsF, ih]
theorem rowsF_step (L : List Nat) (x y : Nat) (hx : x < 5) : rowsF L (5 * y + x + 1) = (rowsF L (5 * y + x)).set (5 * (y % 5) + x % 5) (rowV L x y) := by
  rw [rowsF, show (5 * y + x) / 5 = y by omega, show (5 * y + x) % 5 = x by omega]
theorem places_calls (w : World) : Calls Tryd.prog 86 #[] w (Ret w (.func (.func 90) #[] #[])) := by
  refine enter (args := []) _ [] [] Tryd.func86 rfl Tryd.ntmps86 rfl (by simp) .nil ?_
  (refine CW.seq ?_; refine CW.region ?_; apply LW.v0; rfl; rfl; apply ValP.assign; rfl; apply LW.nil; refine thenN ?_; refine CW.seq ?_; refine CW.region ?_; apply LW.v0; rfl; rfl; apply ValP.assign; rfl; apply LW.nil; refine thenN ?_; refine CW.ret ?_)
  (apply finR; exact .inl rfl; rfl; rfl; rfl; apply ResL.cons; exact Res.tmp rfl; exact ResL.nil)
  rfl
theorem Rows_calls (L : List Nat) (hL : L.length = 25) (hb : ∀ i, L.getD i 0 < 18446744073709551616) (w : World) : Calls Tryd.prog 81 #[.agg (nca L)] w (Ret w (.agg (nca (rowsF L 25)))) := by
  refine enter (args := [_]) _ [] [] Tryd.func81 rfl Tryd.ntmps81 rfl (by simp) .nil ?_
  (refine CW.seq ?_; refine CW.region ?_; apply LW.boxA; rfl; rfl; intro _; apply LW.allocA; rfl; intro _; apply LW.nil; refine thenN ?_; refine CW.seq ?_; refine CW.seq ?_; refine CW.region ?_; apply LW.callE; rfl; rfl; infer_instance; exact ArgsOk.nil; intro w _; exact places_calls w; apply LW.nil; refine thenN ?_; refine CW.block ?_)
  rename_i b1 b2
  apply CW.rangeFunc
  rfl
  rfl
  infer_instance
  rfl
  exact Tryd.func90
  rfl
  exact Tryd.ntmps90
  rfl
  rfl
  intro l r rec hrec
  (refine CW.scope ?_; refine CW.seq ?_; refine CW.label ?_; refine thenN ?_; refine CW.seq ?_; refine CW.region ?_; apply LW.v0; rfl; rfl; apply ValP.move; rfl; apply LW.nil; refine thenN ?_; refine CW.block ?_)
  refine CW.loop (fun y : Nat => ([(4, .int .i64 (y : Int)), (0, .func (.yield l) #[] #[])],
    [(l, rdy rec), (r, .deferred (some [])), (b2, .cells (nca (rowsF L (5 * y))) 102 (0, 0)), (b1, .cells (nca L) 102 (0, 0))]))
    (fun y => y ≤ 5) (fun y => 5 - y) 0 (Nat.zero_le _) ⟨rfl, rfl, trivial⟩ (List.Sublist.refl _) ?_
  intro y hy
  dsimp only at hy ⊢
  rcases Nat.lt_or_ge y 5 with hy5 | hy5
  · (refine CW.seq ?_; refine CW.region ?_; apply LW.v0; rfl; rfl; apply ValP.lssT; rfl; rfl; omega; apply LW.nil; refine thenN ?_; refine CW.seq ?_; apply CW.condT; rfl; (with_reducible rfl); refine CW.skip ?_; refine thenN ?_; refine CW.seq ?_; refine CW.block ?_; refine CW.seq ?_; refine CW.region ?_; apply LW.v0; rfl; rfl; apply ValP.move; rfl; apply LW.v0; rfl; rfl; apply ValP.assign; rfl; apply LW.nil; refine thenN ?_; refine CW.seq ?_; refine CW.region ?_; apply LW.v0; rfl; rfl; apply ValP.move; rfl; apply LW.nil; refine thenN ?_; refine CW.block ?_)
    refine CW.loop (fun x : Nat => ([(7, .int .i64 (x : Int)), (2, .int .i64 (y : Int)), (4, .int .i64 (y : Int)), (0, .func (.yield l) #[] #[])],
      [(l, rdy rec), (r, .deferred (some [])), (b2, .cells (nca (rowsF L (5 * y + x))) 102 (0, 0)), (b1, .cells (nca L) 102 (0, 0))]))
      (fun x => x ≤ 5) (fun x => 5 - x) 0 (Nat.zero_le _) ⟨rfl, rfl, rfl, rfl, trivial⟩ (List.Sublist.refl _) ?_
    intro x hx
    dsimp only at hx ⊢
    rcases Nat.lt_or_ge x 5 with hx5 | hx5
    · have hlen := rowsF_len L (5 * y + x)
      (refine CW.seq ?_; refine CW.region ?_; apply LW.v0; rfl; rfl; apply ValP.lssT; rfl; rfl; omega; apply LW.nil; refine thenN ?_; refine CW.seq ?_; apply CW.condT; rfl; (with_reducible rfl); refine CW.skip ?_; refine thenN ?_; refine CW.seq ?_; refine CW.block ?_; refine CW.seq ?_; refine CW.region ?_; apply LW.v0; rfl; rfl; apply ValP.move; rfl; apply LW.v0; rfl; rfl; apply ValP.assign; rfl; apply LW.nil; refine thenN ?_; refine CW.seq ?_; refine CW.region ?_; apply LW.v0; rfl; rfl; apply ValP.move; rfl; apply LW.v0; rfl; rfl; apply ValP.move; rfl; apply LW.v0; rfl; rfl; apply ValP.move; rfl)
      apply LW.yield
      rfl
      rfl
      (apply ArgsOk.cons; rfl; apply ArgsOk.cons; rfl; exact ArgsOk.nil)
      exact hrec
      (apply FsAt.head)
      rfl
      rfl
      (refine CW.seq ?_; refine CW.region ?_; apply LW.v0; rfl; rfl; apply ValP.assign; rfl; apply LW.nil; refine thenN ?_; refine CW.region ?_; apply LW.v0; rfl; rfl; apply ValP.assign; rfl; apply LW.nil; apply beginI; apply SetAt.head; refine CW.block ?_; apply CW.pre; refine AnyW.any 22 mixed (by decide +kernel) ?_; (try simp only [tsOf_cons, tsOf_nil, tsOf_app]); apply DW.v0; rfl; rfl; rfl; exact WantT.none; rfl; apply ValP.move; rfl; apply DW.v0; rfl; rfl; rfl; exact WantT.none; rfl; apply ValP.move; rfl; apply DW.callE; rfl; rfl; rfl; exact WantT.none; rfl; infer_instance; apply ArgsOk.cons; rfl; apply ArgsOk.cons; rfl; exact ArgsOk.nil; rfl; exact ReadAll.nil; intro w _ _; refine at_calls _ _ ?_ ?_ w; omega; omega; apply DW.v0; rfl; rfl; rfl; exact WantT.none; rfl; apply ValP.move; rfl; apply DW.v0; rfl; rfl; rfl; exact WantT.none; rfl; apply ValP.move; rfl; apply DW.callE; rfl; rfl; rfl; exact WantT.none; rfl; infer_instance; apply ArgsOk.cons; rfl; apply ArgsOk.cons; rfl; exact ArgsOk.nil; rfl; exact ReadAll.nil; intro w _ _; refine at_calls _ _ ?_ ?_ w; omega; omega; apply DW.v0; rfl; rfl; rfl; exact WantT.none; rfl; apply ValP.indexAddrA; rfl; rfl; rfl; omega; apply DW.loadO; rfl; rfl; rfl; exact WantT.none; rfl; apply TRead.tail; apply TRead.tail; apply TRead.tail; apply TRead.head; exact ancB_nil; apply rd_nca; omega; apply DW.v0; rfl; rfl; rfl; exact WantT.none; rfl; apply ValP.move; rfl; apply DW.v0; rfl; rfl; rfl; exact WantT.none; rfl; apply ValP.addZL; rfl; rfl; decide; omega; apply DW.v0; rfl; rfl; rfl; exact WantT.none; rfl; apply ValP.move; rfl; apply DW.callE; rfl; rfl; rfl; exact WantT.none; rfl; infer_instance; apply ArgsOk.cons; rfl; apply ArgsOk.cons; rfl; exact ArgsOk.nil; rfl; exact ReadAll.nil; intro w _ _; refine at_calls _ _ ?_ ?_ w; omega; omega; apply DW.v0; rfl; rfl; rfl; exact WantT.none; rfl; apply ValP.indexAddrA; rfl; rfl; rfl; omega; apply DW.loadO; rfl; rfl; rfl; exact WantT.none; rfl; apply TRead.tail; apply TRead.tail; apply TRead.tail; apply TRead.head; exact ancB_nil; apply rd_nca; omega; apply DW.v0; rfl; rfl; rfl; exact WantT.none; rfl; apply ValP.notU; rfl; exact hb _; apply DW.v0; rfl; rfl; rfl; exact WantT.none; rfl; apply ValP.move; rfl; apply DW.v0; rfl; rfl; rfl; exact WantT.none; rfl; apply ValP.addZL; rfl; rfl; decide; omega; apply DW.v0; rfl; rfl; rfl; exact WantT.none; rfl; apply ValP.move; rfl; apply DW.callE; rfl; rfl; rfl; exact WantT.none; rfl; infer_instance; apply ArgsOk.cons; rfl; apply ArgsOk.cons; rfl; exact ArgsOk.nil; rfl; exact ReadAll.nil; intro w _ _; refine at_calls _ _ ?_ ?_ w; omega; omega; apply DW.v0; rfl; rfl; rfl; exact WantT.none; rfl; apply ValP.indexAddrA; rfl; rfl; rfl; omega; apply DW.loadO; rfl; rfl; rfl; exact WantT.none; rfl; apply TRead.tail; apply TRead.tail; apply TRead.tail; apply TRead.head; exact ancB_nil; apply rd_nca; omega; apply DW.v0; rfl; rfl; rfl; exact WantT.none; rfl; apply ValP.andU; rfl; rfl; omega; exact hb _; apply DW.nil; simp only [fsOf_cons, fsOf_nil, fsOf_app, fsOf_tsOf, fsOf_new]; apply LW.v0; rfl; rfl; apply ValP.xorU; rfl; rfl; exact hb _; apply and64; omega; apply LW.v0; rfl; rfl; apply ValP.indexAddrA; rfl; rfl; rfl; omega; apply LW.store; rfl; rfl; apply SetAt.tail; apply SetAt.tail; apply SetAt.head; apply wr_nca; omega; apply LW.nil; refine blkN ?_; apply roundN; apply SetAt.head; apply LW.v0; rfl; rfl; apply ValP.notT; rfl; (with_reducible rfl); apply LW.nil; refine thenN ?_; apply CW.condF; rfl; (with_reducible rfl); refine CW.skip ?_; refine blkN ?_; refine thenN ?_; refine CW.region ?_; apply LW.v0; rfl; rfl; apply ValP.addZL; rfl; rfl; decide; omega; apply LW.v0; rfl; rfl; apply ValP.move; rfl; apply LW.nil)
      refine thenX ⟨rfl, x + 1, hx5, by omega, ⟨rfl, rfl, rfl, rfl, trivial⟩, ?_⟩
      rw [← Nat.add_assoc, rowsF_step L x y hx5]
      exact List.Sublist.refl _
    · obtain rfl : x = 5 := by omega
      (refine CW.seq ?_; refine CW.region ?_; apply LW.v0; rfl; rfl; apply ValP.lssF; rfl; rfl; omega; apply LW.nil; refine thenN ?_; refine CW.seq ?_; apply CW.condF; rfl; (with_reducible rfl); refine CW.exit ?_; refine thenE ?_; refine thenE ?_; refine blkE rfl ?_; refine blkN ?_; refine thenN ?_; refine CW.region ?_; apply LW.v0; rfl; rfl; apply ValP.addZL; rfl; rfl; decide; omega; apply LW.v0; rfl; rfl; apply ValP.move; rfl; apply LW.nil)
      refine thenX ⟨rfl, y + 1, hy5, by omega, ⟨rfl, rfl, trivial⟩, ?_⟩
      rw [show 5 * (y + 1) = 5 * y + 5 by omega]
      exact List.Sublist.refl _
  · obtain rfl : y = 5 := by omega
    have hlen := rowsF_len L 25
    (refine CW.seq ?_; refine CW.region ?_; apply LW.v0; rfl; rfl; apply ValP.lssF; rfl; rfl; omega; apply LW.nil; refine thenN ?_; refine CW.seq ?_; apply CW.condF; rfl; (with_reducible rfl); refine CW.exit ?_; refine thenE ?_; refine thenE ?_; refine blkE rfl ?_; refine scopeQ.n ?_)
    apply rangeN
    (exact .inr rfl)
    (exact Shut.nil)
    (apply SetAt.head)
    (refine blkN ?_; refine thenM ?_; refine CW.seq ?_; refine CW.region ?_; apply LW.load; rfl; rfl; apply Known.at; apply FsAt.tail; apply FsAt.tail; apply FsAt.head; apply rd_ncaW; assumption; apply LW.store; rfl; rfl; apply SetAt.tail; apply SetAt.tail; apply SetAt.head; apply wr_ncaW; assumption; assumption; apply LW.nil; refine thenN ?_; refine CW.ret ?_)
    (apply finRM; exact .inl rfl; apply Shut.cons; apply SetAt.tail; apply SetAt.head; exact Shut.nil; rfl; rfl; apply ResL.cons; apply Res.cell; rfl; apply Known.at; apply FsAt.tail; apply FsAt.tail; apply FsAt.head; apply rd_ncaW; assumption; exact ResL.nil)
    rfl
end Go.Proofs.YtobkhnmglbfheaaDoor.SK

/-
  Contracts of the sponge: lanes mixed.
  Conditions: none.
-/
namespace Go.Proofs.YtobkhnmglbfheaaDoor.SK
open Go Go.RowKit SL
set_option maxRecDepth 8000
set_option maxHeartbeats 4000000
set_option linter.unusedSimpArgs false
set_option linter.unusedVariables false
attribute [local irreducible] SL.CW SL.LW SL.DW Calls SL.Ret SL.RetG SL.beginQ SL.roundQ SL.rangeQ SL.inQ SL.RW SL.AnyW SL.thenQ SL.thenC SL.thenW SL.blkQ SL.finQ SL.ValP SL.NewP SL.SetP SL.CallP SL.Rd SL.Wr SL.Known
/-! ### The tables that are laid -/
def turnL : List Nat := [0, 1, 62, 28, 27, 36, 44, 6, 55, 20, 3, 10, 43, 25, 39, 41, 45, 15, 21, 8, 18, 2, 61, 56, 14]
def numL : List Nat := [1, 32898, 9223372036854808714, 9223372039002292224, 32907, 2147483649, 9223372039002292353, 9223372036854808585, 138, 136, 2147516425, 2147483658, 2147516555, 9223372036854775947, 9223372036854808713, 9223372036854808579, 9223372036854808578, 9223372036854775936, 32778, 9223372039002259466, 9223372039002292353, 9223372036854808704, 2147483649, 9223372039002292232]
def ica (L : List Nat) : Array Value := (ics L).toArray
theorem ics_map (l : List Nat) : ics l = l.map fun (x : Nat) => Value.int .i64 (x : Int) := by
  induction l with
  | nil => rfl
  | cons a l ih => simp [ics] at *; exact ih
theorem rd_ica {P : Program} {T E : TypeId} {fr : Nat × Nat} {L : List Nat} {i : Nat} [AgI P T false] (hi : i < L.length) : Rd P T (.cells (ica L) E fr) (0 + i * 1) (.int .i64 ((L.getD i 0 : Nat) : Int)) :=
  Rd.one (by rw [Nat.zero_add, Nat.mul_one]; simp [ica, ics_map, hi, List.getD_eq_getElem?_getD])
def NumAt (w : World) : Prop := ∃ E fr, w.heap[0]? = some (.cells (nca numL) E fr)
def TurnAt (w : World) : Prop := ∃ E fr, w.heap[1]? = some (.cells (ica turnL) E fr)
theorem NumAt.st {w w' : World} {fs : Fs} (h : NumAt w) (hs : St w [] fs w') : NumAt w' := by
  obtain ⟨E, fr, h⟩ := h
  exact ⟨E, fr, by rw [hs.bel.block _ (Array.getElem?_eq_some_iff.1 h).1 (by simp)]; exact h⟩
theorem TurnAt.st {w w' : World} {fs : Fs} (h : TurnAt w) (hs : St w [] fs w') : TurnAt w' := by
  obtain ⟨E, fr, h⟩ := h
  exact ⟨E, fr, by rw [hs.bel.block _ (Array.getElem?_eq_some_iff.1 h).1 (by simp)]; exact h⟩
theorem turnL_lt : ∀ i, turnL.getD i 0 < 64 := fun i => by
  rcases Nat.lt_or_ge i 25 with h | h
  · exact (by decide : ∀ i, i < 25 → turnL.getD i 0 < 64) i h
  · rw [List.getD_eq_getElem?_getD, List.getElem?_eq_none (by simpa [turnL] using h)]; decide
/-! ### Mix -/
theorem getD_set_lt {L : List Nat} {N i x : Nat} (h : ∀ j, L.getD j 0 < N) (hx : x < N) : ∀ j, (L.set i x).getD j 0 < N := fun j => by
  have hj := h j
  rw [List.getD_eq_getElem?_getD] at hj ⊢
  rw [List.getElem?_set]
  split
  · split
    · exact hx
    · exact Nat.lt_of_le_of_lt (Nat.zero_le _) hx
  · exact hj
theorem xor_lt {a b : Nat} (ha : a < 18446744073709551616) (hb : b < 18446744073709551616) : a ^^^ b < 18446744073709551616 := Nat.xor_lt_two_pow (n := 64) ha hb
theorem rotl_lt {x n : Nat} (hx : x < 18446744073709551616) : rotl x n < 18446744073709551616 := Nat.or_lt_two_pow (n := 64) (Nat.mod_lt _ (by decide)) (Nat.lt_of_le_of_lt (Nat.div_le_self _ _) hx)
def cF (L : List Nat) : Nat → List Nat
  | 0 => List.replicate 5 0
  | k + 1 => (cF L k).set (k % 5) ((cF L k).getD (k % 5) 0 ^^^ L.getD (5 * (k / 5 % 5) + k % 5 % 5) 0)
theorem cF_len (L : List Nat) (k : Nat) : (cF L k).length = 5 := by
  induction k with
  | zero => simp [cF]
  | succ k ih => simp [cF, ih]
theorem rep_lt (n : Nat) : ∀ i, (List.replicate n 0).getD i 0 < 18446744073709551616 := fun i => by
  rw [List.getD_eq_getElem?_getD, List.getElem?_replicate]; split <;> decide
theorem cF_lt (L : List Nat) (hb : ∀ i, L.getD i 0 < 18446744073709551616) (k : Nat) : ∀ i, (cF L k).getD i 0 < 18446744073709551616 := by
  induction k with
  | zero => exact rep_lt 5
  | succ k ih => exact getD_set_lt ih (xor_lt (ih _) (hb _))
theorem cF_step (L : List Nat) (x y : Nat) (hx : x < 5) : cF L (5 * y + x + 1) = (cF L (5 * y + x)).set x ((cF L (5 * y + x)).getD x 0 ^^^ L.getD (5 * (y % 5) + x % 5) 0) := by
  rw [cF, show (5 * y + x) / 5 = y by omega, show (5 * y + x) % 5 = x by omega]
def mixV (L C : List Nat) (x y : Nat) : Nat := rotl (L.getD (5 * (y % 5) + x % 5) 0 ^^^ (C.getD ((x + 5 - 1) % 5) 0 ^^^ rotl (C.getD ((x + 1) % 5) 0) 1)) (turnL.getD (5 * (y % 5) + x % 5) 0)
def mixF (L C : List Nat) : Nat → List Nat
  | 0 => List.replicate 25 0
  | k + 1 => (mixF L C k).set (5 * ((2 * (k % 5) + 3 * (k / 5)) % 5) + k / 5 % 5) (mixV L C (k % 5) (k / 5))
theorem mixF_len (L C : List Nat) (k : Nat) : (mixF L C k).length = 25 := by
  induction k with
  | zero => simp [mixF]
  | succ k ih => simp [mixF, ih]
theorem mixV_lt (L C : List Nat) (hb : ∀ i, L.getD i 0 < 18446744073709551616) (hc : ∀ i, C.getD i 0 < 18446744073709551616) (x y : Nat) : mixV L C x y < 18446744073709551616 := rotl_lt (xor_lt (hb _) (xor_lt (hc _) (rotl_lt (hc _))))
theorem mixF_lt (L C : List Nat) (hb : ∀ i, L.getD i 0 < 18446744073709551616) (hc : ∀ i, C.getD i 0 < 18446744073709551616) (k : Nat) : ∀ i, (mixF L C k).getD i 0 < 18446744073709551616 := by
  induction k with
  | zero => exact rep_lt 25
  | succ k ih => exact getD_set_lt ih (mixV_lt L C hb hc _ _)
theorem mixF_step (L C : List Nat) (x y : Nat) (hx : x < 5) : mixF L C (5 * y + x + 1) = (mixF L C (5 * y + x)).set (5 * ((2 * x + 3 * y) % 5) + y % 5) (mixV L C x y) := by
  rw [mixF, show (5 * y + x) / 5 = y by omega, show (5 * y + x) % 5 = x by omega]
def mixL (L : List Nat) : List Nat := mixF L (cF L 25) 25
theorem rd_turn {T E : TypeId} {fr : Nat × Nat} {i : Nat} [AgI Tryd.prog T false] (hi : i < 25) : Rd Tryd.prog T (.cells (ica turnL) E fr) (0 + i * 1) (.int .i64 ((turnL.getD i 0 : Nat) : Int)) := rd_ica (L := turnL) hi
theorem cF_zero (L : List Nat) : cF L 0 = List.replicate 5 0 := rfl
theorem mixF_zero (L C : List Nat) : mixF L C 0 = List.replicate 25 0 := rfl
attribute [local irreducible] turnL cF mixF
theorem Mix_calls (L : List Nat) (hL : L.length = 25) (hb : ∀ i, L.getD i 0 < 18446744073709551616) (w : World) (hT : TurnAt w) : Calls Tryd.prog 82 #[.agg (nca L)] w (Ret w (.agg (nca (mixL L)))) := by
  obtain ⟨ET, frT, hT⟩ := hT
  have hcb := cF_lt L hb
  obtain ⟨C, hC⟩ : ∃ C, C = cF L 25 := ⟨_, rfl⟩
  have hCb : ∀ i, C.getD i 0 < 18446744073709551616 := fun i => by rw [hC]; exact hcb 25 i
  have hCl : C.length = 5 := by rw [hC]; exact cF_len L 25
  have hr1 : ∀ i, rotl (C.getD i 0) 1 < 18446744073709551616 := fun i => rotl_lt (hCb i)
  have hk1 : ∀ i w, Calls Tryd.prog 88 #[.int .u64 ((C.getD i 0 : Nat) : Int), .int .i64 1] w (Ret w (.int .u64 ((rotl (C.getD i 0) 1 : Nat) : Int))) := fun i w => turned_calls _ 1 (hCb i) (by decide) w
  have hk2 : ∀ v i w, v < 18446744073709551616 → Calls Tryd.prog 88 #[.int .u64 ((v : Nat) : Int), .int .i64 ((turnL.getD i 0 : Nat) : Int)] w (Ret w (.int .u64 ((rotl v (turnL.getD i 0) : Nat) : Int))) := fun v i w hv => turned_calls v _ hv (turnL_lt i) w
  have hd : (0 : Nat) < 18446744073709551616 := by decide
  refine enter (args := [_]) _ [] [] Tryd.func82 rfl Tryd.ntmps82 rfl (by simp) .nil ?_
  (refine CW.seq ?_; refine CW.region ?_; apply LW.boxA; rfl; rfl; intro _; apply LW.allocA; rfl; intro _; apply LW.nil; refine thenN ?_; refine CW.seq ?_; refine CW.region ?_; apply LW.allocA; rfl; intro _; apply LW.nil; refine thenN ?_; refine CW.seq ?_; refine CW.seq ?_; refine CW.region ?_; apply LW.callE; rfl; rfl; infer_instance; exact ArgsOk.nil; intro w _; exact places_calls w; apply LW.nil; refine thenN ?_; refine CW.block ?_)
  rename_i b1 b2 b3
  apply CW.rangeFunc
  rfl
  rfl
  infer_instance
  rfl
  exact Tryd.func90
  rfl
  exact Tryd.ntmps90
  rfl
  rfl
  intro l r rec hrec
  (refine CW.scope ?_; refine CW.seq ?_; refine CW.label ?_; refine thenN ?_; refine CW.seq ?_; refine CW.region ?_; apply LW.v0; rfl; rfl; apply ValP.move; rfl; apply LW.nil; refine thenN ?_; refine CW.block ?_)
  refine CW.loop (fun y : Nat => ([(4, .int .i64 (y : Int)), (0, .func (.yield l) #[] #[])],
    [(l, rdy rec), (r, .deferred (some [])), (b3, .cells (nca (cF L (5 * y))) 131 (0, 0)), (b2, .cells (nca (List.replicate 25 0)) 102 (0, 0)), (b1, .cells (nca L) 102 (0, 0))]))
    (fun y => y ≤ 5) (fun y => 5 - y) 0 (Nat.zero_le _) ⟨rfl, rfl, trivial⟩ (by dsimp only; rw [Nat.mul_zero, cF_zero]; exact List.Sublist.refl _) ?_
  intro y hy
  dsimp only at hy ⊢
  rcases Nat.lt_or_ge y 5 with hy5 | hy5
  · (refine CW.seq ?_; refine CW.region ?_; apply LW.v0; rfl; rfl; apply ValP.lssT; rfl; rfl; omega; apply LW.nil; refine thenN ?_; refine CW.seq ?_; apply CW.condT; rfl; (with_reducible rfl); refine CW.skip ?_; refine thenN ?_; refine CW.seq ?_; refine CW.block ?_; refine CW.seq ?_; refine CW.region ?_; apply LW.v0; rfl; rfl; apply ValP.move; rfl; apply LW.v0; rfl; rfl; apply ValP.assign; rfl; apply LW.nil; refine thenN ?_; refine CW.seq ?_; refine CW.region ?_; apply LW.v0; rfl; rfl; apply ValP.move; rfl; apply LW.nil; refine thenN ?_; refine CW.block ?_)
    refine CW.loop (fun x : Nat => ([(7, .int .i64 (x : Int)), (2, .int .i64 (y : Int)), (4, .int .i64 (y : Int)), (0, .func (.yield l) #[] #[])],
      [(l, rdy rec), (r, .deferred (some [])), (b3, .cells (nca (cF L (5 * y + x))) 131 (0, 0)), (b2, .cells (nca (List.replicate 25 0)) 102 (0, 0)), (b1, .cells (nca L) 102 (0, 0))]))
      (fun x => x ≤ 5) (fun x => 5 - x) 0 (Nat.zero_le _) ⟨rfl, rfl, rfl, rfl, trivial⟩ (List.Sublist.refl _) ?_
    intro x hx
    dsimp only at hx ⊢
    rcases Nat.lt_or_ge x 5 with hx5 | hx5
    · have hlen := cF_len L (5 * y + x)
      (refine CW.seq ?_; refine CW.region ?_; apply LW.v0; rfl; rfl; apply ValP.lssT; rfl; rfl; omega; apply LW.nil; refine thenN ?_; refine CW.seq ?_; apply CW.condT; rfl; (with_reducible rfl); refine CW.skip ?_; refine thenN ?_; refine CW.seq ?_; refine CW.block ?_; refine CW.seq ?_; refine CW.region ?_; apply LW.v0; rfl; rfl; apply ValP.move; rfl; apply LW.v0; rfl; rfl; apply ValP.assign; rfl; apply LW.nil; refine thenN ?_; refine CW.seq ?_; refine CW.region ?_; apply LW.v0; rfl; rfl; apply ValP.move; rfl; apply LW.v0; rfl; rfl; apply ValP.move; rfl; apply LW.v0; rfl; rfl; apply ValP.move; rfl)
      apply LW.yield
      rfl
      rfl
      (apply ArgsOk.cons; rfl; apply ArgsOk.cons; rfl; exact ArgsOk.nil)
      exact hrec
      (apply FsAt.head)
      rfl
      rfl
      (refine CW.seq ?_; refine CW.region ?_; apply LW.v0; rfl; rfl; apply ValP.assign; rfl; apply LW.nil; refine thenN ?_; refine CW.region ?_; apply LW.v0; rfl; rfl; apply ValP.assign; rfl; apply LW.nil; apply beginI; apply SetAt.head; refine CW.block ?_; apply CW.pre; refine AnyW.any 8 mixed (by decide +kernel) ?_; (try simp only [tsOf_cons, tsOf_nil, tsOf_app]); apply DW.v0; rfl; rfl; rfl; exact WantT.none; rfl; apply ValP.move; rfl; apply DW.v0; rfl; rfl; rfl; exact WantT.none; rfl; apply ValP.indexAddrA; rfl; rfl; rfl; omega; apply DW.loadO; rfl; rfl; rfl; exact WantT.none; rfl; apply TRead.tail; apply TRead.tail; apply TRead.head; exact ancB_nil; apply rd_nca; omega; apply DW.v0; rfl; rfl; rfl; exact WantT.none; rfl; apply ValP.move; rfl; apply DW.v0; rfl; rfl; rfl; exact WantT.none; rfl; apply ValP.move; rfl; apply DW.callE; rfl; rfl; rfl; exact WantT.none; rfl; infer_instance; apply ArgsOk.cons; rfl; apply ArgsOk.cons; rfl; exact ArgsOk.nil; rfl; exact ReadAll.nil; intro w _ _; refine at_calls _ _ ?_ ?_ w; omega; omega; apply DW.v0; rfl; rfl; rfl; exact WantT.none; rfl; apply ValP.indexAddrA; rfl; rfl; rfl; omega; apply DW.loadO; rfl; rfl; rfl; exact WantT.none; rfl; apply TRead.tail; apply TRead.tail; apply TRead.tail; apply TRead.tail; apply TRead.head; exact ancB_nil; apply rd_nca; omega; apply DW.nil; simp only [fsOf_cons, fsOf_nil, fsOf_app, fsOf_tsOf, fsOf_new]; apply LW.v0; rfl; rfl; apply ValP.xorU; rfl; rfl; exact hcb _ _; exact hb _; apply LW.v0; rfl; rfl; apply ValP.indexAddrA; rfl; rfl; rfl; omega; apply LW.store; rfl; rfl; apply SetAt.tail; apply SetAt.tail; apply SetAt.head; apply wr_nca; omega; apply LW.nil; refine blkN ?_; apply roundN; apply SetAt.head; apply LW.v0; rfl; rfl; apply ValP.notT; rfl; (with_reducible rfl); apply LW.nil; refine thenN ?_; apply CW.condF; rfl; (with_reducible rfl); refine CW.skip ?_; refine blkN ?_; refine thenN ?_; refine CW.region ?_; apply LW.v0; rfl; rfl; apply ValP.addZL; rfl; rfl; decide; omega; apply LW.v0; rfl; rfl; apply ValP.move; rfl; apply LW.nil)
      refine thenX ⟨rfl, x + 1, hx5, by omega, ⟨rfl, rfl, rfl, rfl, trivial⟩, ?_⟩
      rw [← Nat.add_assoc, cF_step L x y hx5]
      exact List.Sublist.refl _
    · obtain rfl : x = 5 := by omega
      (refine CW.seq ?_; refine CW.region ?_; apply LW.v0; rfl; rfl; apply ValP.lssF; rfl; rfl; omega; apply LW.nil; refine thenN ?_; refine CW.seq ?_; apply CW.condF; rfl; (with_reducible rfl); refine CW.exit ?_; refine thenE ?_; refine thenE ?_; refine blkE rfl ?_; refine blkN ?_; refine thenN ?_; refine CW.region ?_; apply LW.v0; rfl; rfl; apply ValP.addZL; rfl; rfl; decide; omega; apply LW.v0; rfl; rfl; apply ValP.move; rfl; apply LW.nil)
      refine thenX ⟨rfl, y + 1, hy5, by omega, ⟨rfl, rfl, trivial⟩, ?_⟩
      rw [show 5 * (y + 1) = 5 * y + 5 by omega]
      exact List.Sublist.refl _
  · obtain rfl : y = 5 := by omega
    (refine CW.seq ?_; refine CW.region ?_; apply LW.v0; rfl; rfl; apply ValP.lssF; rfl; rfl; omega; apply LW.nil; refine thenN ?_; refine CW.seq ?_; apply CW.condF; rfl; (with_reducible rfl); refine CW.exit ?_; refine thenE ?_; refine thenE ?_; refine blkE rfl ?_; refine scopeQ.n ?_)
    apply rangeN
    (exact .inr rfl)
    (exact Shut.nil)
    (apply SetAt.head)
    (refine blkN ?_; refine thenM ?_; refine CW.seq ?_; refine CW.seq ?_; refine CW.region ?_; apply LW.callE; rfl; rfl; infer_instance; exact ArgsOk.nil; intro w _; exact places_calls w; apply LW.nil; refine thenN ?_; refine CW.block ?_)
    rw [show 5 * 5 = 25 from rfl, ← hC]
    apply CW.rangeFunc
    rfl
    rfl
    infer_instance
    rfl
    exact Tryd.func90
    rfl
    exact Tryd.ntmps90
    rfl
    rfl
    intro l2 r2 rec2 hrec2
    (refine CW.scope ?_; refine CW.seq ?_; refine CW.label ?_; refine thenN ?_; refine CW.seq ?_; refine CW.region ?_; apply LW.v0; rfl; rfl; apply ValP.move; rfl; apply LW.nil; refine thenN ?_; refine CW.block ?_)
    refine CW.loop (fun y : Nat => ([(4, .int .i64 (y : Int)), (0, .func (.yield l2) #[] #[])],
      [(l2, rdy rec2), (r2, .deferred (some [])), (r, .deferred (some [])), (b3, .cells (nca C) 131 (0, 0)), (b2, .cells (nca (mixF L C (5 * y))) 102 (0, 0)), (b1, .cells (nca L) 102 (0, 0))]))
      (fun y => y ≤ 5) (fun y => 5 - y) 0 (Nat.zero_le _) ⟨rfl, rfl, trivial⟩ ?_ ?_
    · dsimp only
      rw [Nat.mul_zero, mixF_zero]
      (apply List.Sublist.cons_cons; apply List.Sublist.cons_cons; apply List.Sublist.cons; exact List.Sublist.refl _)
    intro y hy
    dsimp only at hy ⊢
    rcases Nat.lt_or_ge y 5 with hy5 | hy5
    · (refine CW.seq ?_; refine CW.region ?_; apply LW.v0; rfl; rfl; apply ValP.lssT; rfl; rfl; omega; apply LW.nil; refine thenN ?_; refine CW.seq ?_; apply CW.condT; rfl; (with_reducible rfl); refine CW.skip ?_; refine thenN ?_; refine CW.seq ?_; refine CW.block ?_; refine CW.seq ?_; refine CW.region ?_; apply LW.v0; rfl; rfl; apply ValP.move; rfl; apply LW.v0; rfl; rfl; apply ValP.assign; rfl; apply LW.nil; refine thenN ?_; refine CW.seq ?_; refine CW.region ?_; apply LW.v0; rfl; rfl; apply ValP.move; rfl; apply LW.nil; refine thenN ?_; refine CW.block ?_)
      refine CW.loop (fun x : Nat => ([(7, .int .i64 (x : Int)), (2, .int .i64 (y : Int)), (4, .int .i64 (y : Int)), (0, .func (.yield l2) #[] #[])],
        [(l2, rdy rec2), (r2, .deferred (some [])), (r, .deferred (some [])), (b3, .cells (nca C) 131 (0, 0)), (b2, .cells (nca (mixF L C (5 * y + x))) 102 (0, 0)), (b1, .cells (nca L) 102 (0, 0))]))
        (fun x => x ≤ 5) (fun x => 5 - x) 0 (Nat.zero_le _) ⟨rfl, rfl, rfl, rfl, trivial⟩ (List.Sublist.refl _) ?_
      intro x hx
      dsimp only at hx ⊢
      rcases Nat.lt_or_ge x 5 with hx5 | hx5
      · have hlen := mixF_len L C (5 * y + x)
        have hstep := mixF_step L C x y hx5
        (refine CW.seq ?_; refine CW.region ?_; apply LW.v0; rfl; rfl; apply ValP.lssT; rfl; rfl; omega; apply LW.nil; refine thenN ?_; refine CW.seq ?_; apply CW.condT; rfl; (with_reducible rfl); refine CW.skip ?_; refine thenN ?_; refine CW.seq ?_; refine CW.block ?_; refine CW.seq ?_; refine CW.region ?_; apply LW.v0; rfl; rfl; apply ValP.move; rfl; apply LW.v0; rfl; rfl; apply ValP.assign; rfl; apply LW.nil; refine thenN ?_; refine CW.seq ?_; refine CW.region ?_; apply LW.v0; rfl; rfl; apply ValP.move; rfl; apply LW.v0; rfl; rfl; apply ValP.move; rfl; apply LW.v0; rfl; rfl; apply ValP.move; rfl)
        apply LW.yield
        rfl
        rfl
        (apply ArgsOk.cons; rfl; apply ArgsOk.cons; rfl; exact ArgsOk.nil)
        exact hrec2
        (apply FsAt.head)
        rfl
        rfl
        (refine CW.seq ?_; refine CW.region ?_; apply LW.v0; rfl; rfl; apply ValP.assign; rfl; apply LW.nil; refine thenN ?_; refine CW.region ?_; apply LW.v0; rfl; rfl; apply ValP.assign; rfl; apply LW.nil; apply beginI; apply SetAt.head; refine CW.block ?_; refine CW.seq ?_; apply CW.pre; refine AnyW.any 12 mixed (by decide +kernel) ?_; (try simp only [tsOf_cons, tsOf_nil, tsOf_app]); apply DW.v0; rfl; rfl; rfl; exact WantT.none; rfl; apply ValP.move; rfl; apply DW.v0; rfl; rfl; rfl; exact WantT.none; rfl; apply ValP.addZL; rfl; rfl; decide; omega; apply DW.v0; rfl; rfl; rfl; exact WantT.none; rfl; apply ValP.subZL; rfl; rfl; decide; omega; omega; apply DW.v0; rfl; rfl; rfl; exact WantT.none; rfl; apply ValP.remZL; rfl; rfl; decide; omega; apply DW.v0; rfl; rfl; rfl; exact WantT.none; rfl; apply ValP.indexAddrA; rfl; rfl; rfl; omega; apply DW.loadO; rfl; rfl; rfl; exact WantT.none; rfl; apply TRead.tail; apply TRead.tail; apply TRead.tail; apply TRead.head; exact ancB_nil; apply rd_nca; omega; apply DW.v0; rfl; rfl; rfl; exact WantT.none; rfl; apply ValP.move; rfl; apply DW.v0; rfl; rfl; rfl; exact WantT.none; rfl; apply ValP.addZL; rfl; rfl; decide; omega; apply DW.v0; rfl; rfl; rfl; exact WantT.none; rfl; apply ValP.remZL; rfl; rfl; decide; omega; apply DW.v0; rfl; rfl; rfl; exact WantT.none; rfl; apply ValP.indexAddrA; rfl; rfl; rfl; omega; apply DW.loadO; rfl; rfl; rfl; exact WantT.none; rfl; apply TRead.tail; apply TRead.tail; apply TRead.tail; apply TRead.head; exact ancB_nil; apply rd_nca; omega; apply DW.callE; rfl; rfl; rfl; exact WantT.none; rfl; infer_instance; apply ArgsOk.cons; rfl; apply ArgsOk.cons; rfl; exact ArgsOk.nil; rfl; exact ReadAll.nil; intro w _ _; exact hk1 _ w; apply DW.nil; simp only [fsOf_cons, fsOf_nil, fsOf_app, fsOf_tsOf, fsOf_new]; apply LW.v0; rfl; rfl; apply ValP.xorU; rfl; rfl; exact hCb _; exact hr1 _; apply LW.v0; rfl; rfl; apply ValP.assign; rfl; apply LW.nil; refine thenN ?_; apply CW.pre; refine AnyW.any 19 mixed (by decide +kernel) ?_; (try simp only [tsOf_cons, tsOf_nil, tsOf_app]); apply DW.v0; rfl; rfl; rfl; exact WantT.none; rfl; apply ValP.move; rfl; apply DW.v0; rfl; rfl; rfl; exact WantT.none; rfl; apply ValP.move; rfl; apply DW.v0; rfl; rfl; rfl; exact WantT.none; rfl; apply ValP.mulZK; rfl; rfl; decide; omega; apply DW.v0; rfl; rfl; rfl; exact WantT.none; rfl; apply ValP.move; rfl; apply DW.v0; rfl; rfl; rfl; exact WantT.none; rfl; apply ValP.mulZK; rfl; rfl; decide; omega; apply DW.v0; rfl; rfl; rfl; exact WantT.none; rfl; apply ValP.addZ; rfl; rfl; omega; apply DW.callE; rfl; rfl; rfl; exact WantT.none; rfl; infer_instance; apply ArgsOk.cons; rfl; apply ArgsOk.cons; rfl; exact ArgsOk.nil; rfl; exact ReadAll.nil; intro w _ _; refine at_calls _ _ ?_ ?_ w; omega; omega; apply DW.v0; rfl; rfl; rfl; exact WantT.none; rfl; apply ValP.move; rfl; apply DW.v0; rfl; rfl; rfl; exact WantT.none; rfl; apply ValP.move; rfl; apply DW.callE; rfl; rfl; rfl; exact WantT.none; rfl; infer_instance; apply ArgsOk.cons; rfl; apply ArgsOk.cons; rfl; exact ArgsOk.nil; rfl; exact ReadAll.nil; intro w _ _; refine at_calls _ _ ?_ ?_ w; omega; omega; apply DW.v0; rfl; rfl; rfl; exact WantT.none; rfl; apply ValP.indexAddrA; rfl; rfl; rfl; omega; apply DW.loadO; rfl; rfl; rfl; exact WantT.none; rfl; apply TRead.tail; apply TRead.tail; apply TRead.tail; apply TRead.tail; apply TRead.tail; apply TRead.head; exact ancB_nil; apply rd_nca; omega; apply DW.v0; rfl; rfl; rfl; exact WantT.none; rfl; apply ValP.move; rfl; apply DW.v0; rfl; rfl; rfl; exact WantT.none; rfl; apply ValP.xorU; rfl; rfl; exact hb _; apply xor64; exact hCb _; exact hr1 _; apply DW.v0; rfl; rfl; rfl; exact WantT.none; rfl; apply ValP.move; rfl; apply DW.v0; rfl; rfl; rfl; exact WantT.none; rfl; apply ValP.move; rfl; apply DW.callE; rfl; rfl; rfl; exact WantT.none; rfl; infer_instance; apply ArgsOk.cons; rfl; apply ArgsOk.cons; rfl; exact ArgsOk.nil; rfl; exact ReadAll.nil; intro w _ _; refine at_calls _ _ ?_ ?_ w; omega; omega; apply DW.v0; rfl; rfl; rfl; exact WantT.none; rfl; apply ValP.indexAddrA; rfl; rfl; rfl; omega; apply DW.loadX; rfl; rfl; rfl; exact WantT.none; rfl; assumption; simp; apply rd_turn; omega; apply DW.nil; simp only [fsOf_cons, fsOf_nil, fsOf_app, fsOf_tsOf, fsOf_new]; apply LW.callE; rfl; rfl; infer_instance; apply ArgsOk.cons; rfl; apply ArgsOk.cons; rfl; exact ArgsOk.nil; intro w _; refine hk2 _ _ w ?_; apply xor64; exact hb _; apply xor64; exact hCb _; exact hr1 _; apply LW.v0; rfl; rfl; apply ValP.indexAddrA; rfl; rfl; rfl; omega; apply LW.store; rfl; rfl; apply SetAt.tail; apply SetAt.tail; apply SetAt.tail; apply SetAt.tail; apply SetAt.head; apply wr_nca; omega; apply LW.nil; refine blkN ?_; apply roundN; apply SetAt.head; apply LW.v0; rfl; rfl; apply ValP.notT; rfl; (with_reducible rfl); apply LW.nil; refine thenN ?_; apply CW.condF; rfl; (with_reducible rfl); refine CW.skip ?_; refine blkN ?_; refine thenN ?_; refine CW.region ?_; apply LW.v0; rfl; rfl; apply ValP.addZL; rfl; rfl; decide; omega; apply LW.v0; rfl; rfl; apply ValP.move; rfl; apply LW.nil)
        refine thenX ⟨rfl, x + 1, hx5, by omega, ⟨rfl, rfl, rfl, rfl, trivial⟩, ?_⟩
        rw [← Nat.add_assoc, hstep]
        exact List.Sublist.refl _
      · obtain rfl : x = 5 := by omega
        (refine CW.seq ?_; refine CW.region ?_; apply LW.v0; rfl; rfl; apply ValP.lssF; rfl; rfl; omega; apply LW.nil; refine thenN ?_; refine CW.seq ?_; apply CW.condF; rfl; (with_reducible rfl); refine CW.exit ?_; refine thenE ?_; refine thenE ?_; refine blkE rfl ?_; refine blkN ?_; refine thenN ?_; refine CW.region ?_; apply LW.v0; rfl; rfl; apply ValP.addZL; rfl; rfl; decide; omega; apply LW.v0; rfl; rfl; apply ValP.move; rfl; apply LW.nil)
        refine thenX ⟨rfl, y + 1, hy5, by omega, ⟨rfl, rfl, trivial⟩, ?_⟩
        rw [show 5 * (y + 1) = 5 * y + 5 by omega]
        exact List.Sublist.refl _
    · obtain rfl : y = 5 := by omega
      have hml := mixF_len L C 25
      (refine CW.seq ?_; refine CW.region ?_; apply LW.v0; rfl; rfl; apply ValP.lssF; rfl; rfl; omega; apply LW.nil; refine thenN ?_; refine CW.seq ?_; apply CW.condF; rfl; (with_reducible rfl); refine CW.exit ?_; refine thenE ?_; refine thenE ?_; refine blkE rfl ?_; refine scopeQ.n ?_)
      apply rangeN
      (exact .inr rfl)
      (exact Shut.nil)
      (apply SetAt.head)
      (refine blkN ?_; refine thenM ?_; refine CW.seq ?_; refine CW.region ?_; apply LW.load; rfl; rfl; apply Known.at; apply FsAt.tail; apply FsAt.tail; apply FsAt.tail; apply FsAt.tail; apply FsAt.head; apply rd_ncaW; assumption; apply LW.store; rfl; rfl; apply SetAt.tail; apply SetAt.tail; apply SetAt.tail; apply SetAt.tail; apply SetAt.head; apply wr_ncaW; assumption; assumption; apply LW.nil; refine thenN ?_; refine CW.ret ?_)
      (apply finRM; exact .inl rfl; apply Shut.cons; apply SetAt.tail; apply SetAt.head; apply Shut.cons; apply SetAt.tail; apply SetAt.tail; apply SetAt.head; exact Shut.nil; rfl; rfl; apply ResL.cons; apply Res.cell; rfl; apply Known.at; apply FsAt.tail; apply FsAt.tail; apply FsAt.tail; apply FsAt.tail; apply FsAt.head; apply rd_ncaW; assumption; exact ResL.nil)
      show (Value.agg (nca (mixF L C (5 * 5)))) = _
      rw [hC]
      rfl
end Go.Proofs.YtobkhnmglbfheaaDoor.SK

/-
  What is laid, as the contracts of digests ask for it.
  Conditions: none.
-/
namespace Go.Proofs.YtobkhnmglbfheaaDoor
open Go Go.RowKit SL SK
theorem var_heap {P : Program} {w : World} {n : String} {g : Nat} {cs : Array Value} (hg : P.globalNamed n = some g) (h : w.var? P n = some cs) : ∃ E fr, w.heap[g]? = some (.cells cs E fr) := by
  unfold World.var? at h
  rw [hg] at h
  simp only [Option.bind_some] at h
  split at h
  · rename_i cs' E fr hh
    cases h
    exact ⟨E, fr, hh⟩
  · cases h
theorem tab_at {P : Program} {W : World} {l : List (String × DataW Unit)} {n : String} {g T E m : Nat} {k : IntKind} {zs : List Int} (h : laidMet P l W) (hm : (n, Lib.tabData k zs) ∈ l) (hg : P.globalNamed n = some g) (hT : (P.globals[g]?).map (·.type) = some T) (hu : P.underlying T = some (.array m E)) (he : P.underlying E = some (.int k)) (hce : P.cellsOf E = 1) (hct : P.cellsOf T = m) :
    ∃ E' fr, W.heap[g]? = some (.cells (zs.map fun z => Value.int k z).toArray E' fr) := by
  obtain ⟨g', t', cs, fuel, p, h1, h2, h3, h4⟩ := Lib.laidMet.reads h hm
  obtain rfl : g = g' := Option.some.inj (hg.symm.trans h1)
  obtain rfl : T = t' := Option.some.inj (hT.symm.trans h2)
  have hc := Lib.cells_of_tab hu he hce hct h4
  obtain ⟨E', fr, hh⟩ := var_heap hg h3
  refine ⟨E', fr, ?_⟩
  rw [hh, ← hc]
theorem laid_at {l : List (String × DataW Unit)} {W : World} (h : laidMetH Tryd.prog l W) (h0 : (l.all fun x => x.2.handleName?.isNone) = true) (h1 : ("sheafer/sponge.turns", Lib.tabData .i64 (turnL.map fun (n : Nat) => (n : Int))) ∈ l) (h2 : ("sheafer/sponge.numbers", Lib.tabData .u64 (numL.map fun (n : Nat) => (n : Int))) ∈ l) : TurnAt W ∧ NumAt W := by
  rw [MakeChecks.laidMetH_plain _ _ _ h0] at h
  exact ⟨tab_at (T := 133) (E := 3) (m := 25) h h1 (by kernel_rfl) (by kernel_rfl) (by kernel_rfl) (by kernel_rfl) (by kernel_rfl) (by kernel_rfl), tab_at (T := 122) (E := 23) (m := 24) h h2 (by kernel_rfl) (by kernel_rfl) (by kernel_rfl) (by kernel_rfl) (by kernel_rfl) (by kernel_rfl)⟩
theorem laid_hashes {W : World} (h : laidMetH Tryd.prog Rows.useropHashesRow.laid W) : SK.TurnAt W ∧ SK.NumAt W := laid_at h (by kernel_rfl) (List.Mem.head _) (List.Mem.tail _ (List.Mem.head _))
end Go.Proofs.YtobkhnmglbfheaaDoor

/-
  Contracts of the sponge: rounds.
  Conditions: none.
-/
namespace Go.Proofs.YtobkhnmglbfheaaDoor.SK
open Go Go.RowKit SL
set_option maxRecDepth 8000
set_option maxHeartbeats 4000000
set_option linter.unusedSimpArgs false
set_option linter.unusedVariables false
attribute [local irreducible] SL.CW SL.LW SL.DW Calls SL.Ret SL.RetG SL.beginQ SL.roundQ SL.rangeQ SL.inQ SL.RW SL.AnyW SL.thenQ SL.thenC SL.thenW SL.blkQ SL.finQ SL.ValP SL.NewP SL.SetP SL.CallP SL.Rd SL.Wr SL.Known
attribute [local irreducible] turnL cF mixF mixL
def rowsL (L : List Nat) : List Nat := rowsF L 25
theorem mixL_len (L : List Nat) : (mixL L).length = 25 := by unfold mixL; exact mixF_len L _ 25
theorem mixL_lt (L : List Nat) (hb : ∀ i, L.getD i 0 < 18446744073709551616) : ∀ i, (mixL L).getD i 0 < 18446744073709551616 := by unfold mixL; exact mixF_lt L _ hb (cF_lt L hb 25) 25
theorem rowV_lt (L : List Nat) (hb : ∀ i, L.getD i 0 < 18446744073709551616) (x y : Nat) : rowV L x y < 18446744073709551616 :=
  xor_lt (hb _) (Nat.and_lt_two_pow (n := 64) _ (hb _))
theorem rowsF_lt (L : List Nat) (hb : ∀ i, L.getD i 0 < 18446744073709551616) (k : Nat) : ∀ i, (rowsF L k).getD i 0 < 18446744073709551616 := by
  induction k with
  | zero => exact rep_lt 25
  | succ k ih => exact getD_set_lt ih (rowV_lt L hb _ _)
theorem rowsL_len (L : List Nat) : (rowsL L).length = 25 := rowsF_len L 25
theorem rowsL_lt (L : List Nat) (hb : ∀ i, L.getD i 0 < 18446744073709551616) : ∀ i, (rowsL L).getD i 0 < 18446744073709551616 := rowsF_lt L hb 25
def roundL (L : List Nat) (n : Nat) : List Nat := (rowsL (mixL L)).set 0 ((rowsL (mixL L)).getD 0 0 ^^^ n)
theorem roundL_len (L : List Nat) (n : Nat) : (roundL L n).length = 25 := by simp [roundL, rowsL_len]
theorem roundL_lt (L : List Nat) (n : Nat) (hb : ∀ i, L.getD i 0 < 18446744073709551616) (hn : n < 18446744073709551616) : ∀ i, (roundL L n).getD i 0 < 18446744073709551616 :=
  getD_set_lt (rowsL_lt _ (mixL_lt L hb)) (xor_lt (rowsL_lt _ (mixL_lt L hb) 0) hn)
def permF (L : List Nat) : Nat → List Nat
  | 0 => L
  | k + 1 => roundL (permF L k) (numL.getD k 0)
def permL (L : List Nat) : List Nat := permF L 24
theorem numL_lt (i : Nat) (h : i < 24) : numL.getD i 0 < 18446744073709551616 := (by decide : ∀ i, i < 24 → numL.getD i 0 < 18446744073709551616) i h
theorem permF_len (L : List Nat) (hL : L.length = 25) (k : Nat) : (permF L k).length = 25 := by
  cases k with
  | zero => exact hL
  | succ k => exact roundL_len _ _
theorem permF_lt (L : List Nat) (hb : ∀ i, L.getD i 0 < 18446744073709551616) (k : Nat) (hk : k ≤ 24) : ∀ i, (permF L k).getD i 0 < 18446744073709551616 := by
  induction k with
  | zero => exact hb
  | succ k ih => exact roundL_lt _ _ (ih (by omega)) (numL_lt k (by omega))
theorem permL_len (L : List Nat) (hL : L.length = 25) : (permL L).length = 25 := permF_len L hL 24
theorem permL_lt (L : List Nat) (hb : ∀ i, L.getD i 0 < 18446744073709551616) : ∀ i, (permL L).getD i 0 < 18446744073709551616 := permF_lt L hb 24 (Nat.le_refl _)
attribute [local irreducible] rowsL
theorem round_calls (L : List Nat) (n : Nat) (hL : L.length = 25) (hb : ∀ i, L.getD i 0 < 18446744073709551616) (hn : n < 18446744073709551616) (w : World) (hT : TurnAt w) : Calls Tryd.prog 77 #[.agg (nca L), .int .u64 (n : Int)] w (Ret w (.agg (nca (roundL L n)))) := by
  have hM : ∀ w' {fs}, St w [] fs w' → Calls Tryd.prog 82 #[.agg (nca L)] w' (Ret w' (.agg (nca (mixL L)))) := fun w' fs hst => Mix_calls L hL hb w' (hT.st hst)
  have hR : ∀ w', Calls Tryd.prog 81 #[.agg (nca (mixL L))] w' (Ret w' (.agg (nca (rowsL (mixL L))))) := fun w' => by
    unfold rowsL; exact Rows_calls _ (mixL_len L) (mixL_lt L hb) w'
  have hrb := rowsL_lt _ (mixL_lt L hb)
  have hl1 := mixL_len L
  have hl2 := rowsL_len (mixL L)
  have hl3 : ((rowsL (mixL L)).set 0 ((rowsL (mixL L)).getD 0 0 ^^^ n)).length = 25 := roundL_len L n
  refine enter (args := [_, _]) _ [] [] Tryd.func77 rfl Tryd.ntmps77 rfl (by simp) .nil ?_
  (refine CW.seq ?_; refine CW.region ?_; apply LW.boxA; rfl; rfl; intro _; apply LW.allocA; rfl; intro _; apply LW.nil; refine thenN ?_; refine CW.seq ?_; refine CW.region ?_; apply LW.load; rfl; rfl; apply Known.at; apply FsAt.tail; apply FsAt.head; apply rd_ncaW; assumption; apply LW.callE; rfl; rfl; infer_instance; apply ArgsOk.cons; rfl; exact ArgsOk.nil; intro w _; exact hM w (by assumption); apply LW.callE; rfl; rfl; infer_instance; apply ArgsOk.cons; rfl; exact ArgsOk.nil; intro w _; exact hR w; apply LW.store; rfl; rfl; apply SetAt.tail; apply SetAt.head; apply wr_ncaW; assumption; assumption; apply LW.nil; refine thenN ?_; refine CW.seq ?_; refine CW.region ?_; apply LW.v0; rfl; rfl; apply ValP.indexAddrL; rfl; rfl; rfl; apply LW.load; rfl; rfl; apply Known.at; apply FsAt.tail; apply FsAt.head; apply rd_nca0; omega; apply LW.v0; rfl; rfl; apply ValP.move; rfl; apply LW.v0; rfl; rfl; apply ValP.xorU; rfl; rfl; exact hrb _; assumption; apply LW.v0; rfl; rfl; apply ValP.indexAddrL; rfl; rfl; rfl; apply LW.store; rfl; rfl; apply SetAt.tail; apply SetAt.head; apply wr_nca0; omega; apply LW.nil; refine thenN ?_; refine CW.seq ?_; refine CW.region ?_; apply LW.load; rfl; rfl; apply Known.at; apply FsAt.tail; apply FsAt.head; apply rd_ncaW; assumption; apply LW.store; rfl; rfl; apply SetAt.head; apply wr_ncaO; rfl; assumption; apply LW.nil; refine thenN ?_; refine CW.ret ?_)
  (apply finR; exact .inl rfl; rfl; rfl; rfl; apply ResL.cons; apply Res.cell; rfl; apply Known.at; apply FsAt.head; apply rd_ncaW; assumption; exact ResL.nil)
  rfl
attribute [local irreducible] roundL
theorem numL_len : numL.length = 24 := rfl
attribute [local irreducible] numL
theorem Permute_calls (L : List Nat) (hL : L.length = 25) (hb : ∀ i, L.getD i 0 < 18446744073709551616) (w : World) (hT : TurnAt w) (hN : NumAt w) : Calls Tryd.prog 61 #[.agg (nca L)] w (Ret w (.agg (nca (permL L)))) := by
  obtain ⟨EN, frN, hN⟩ := hN
  have hnl := numL_len
  have hR : ∀ k, k < 24 → ∀ w' {fs}, St w [] fs w' → Calls Tryd.prog 77 #[.agg (nca (permF L k)), .int .u64 ((numL.getD k 0 : Nat) : Int)] w' (Ret w' (.agg (nca (roundL (permF L k) (numL.getD k 0))))) := fun k hk w' fs hst => round_calls _ _ (permF_len L hL k) (permF_lt L hb k (by omega)) (numL_lt k hk) w' (hT.st hst)
  refine enter (args := [_]) _ [] [] Tryd.func61 rfl Tryd.ntmps61 rfl (by simp) .nil ?_
  (refine CW.seq ?_; refine CW.region ?_; apply LW.boxA; rfl; rfl; intro _; apply LW.allocA; rfl; intro _; apply LW.nil; refine thenN ?_; refine CW.seq ?_; refine CW.seq ?_; refine CW.region ?_; apply LW.load; rfl; rfl; exact Known.ext (by assumption) (by simp); apply rd_ncaW; assumption; apply LW.v0; rfl; rfl; apply ValP.move; rfl; apply LW.nil; refine thenN ?_; refine CW.block ?_)
  rename_i b1 b2
  refine CW.loop (fun k : Nat => ([(6, .int .i64 (k : Int)), (5, .agg (nca numL)), (2, .pointer (some ⟨b2, 0, none⟩)), (1, .pointer (some ⟨b1, 0, none⟩))],
    [(b2, .cells (nca (List.replicate 25 0)) 102 (0, 0)), (b1, .cells (nca (permF L k)) 102 (0, 0))]))
    (fun k => k ≤ 24) (fun k => 24 - k) 0 (Nat.zero_le _) ⟨rfl, rfl, rfl, rfl, trivial⟩ (List.Sublist.refl _) ?_
  intro k hk
  dsimp only at hk ⊢
  have hlen := permF_len L hL k
  rcases Nat.lt_or_ge k 24 with hk4 | hk4
  · have hR' := fun w' fs hst => hR k hk4 w' (fs := fs) hst
    have hlen' := roundL_len (permF L k) (numL.getD k 0)
    (refine CW.seq ?_; refine CW.region ?_; apply LW.v0; rfl; rfl; apply ValP.lssT; rfl; rfl; omega; apply LW.nil; refine thenN ?_; refine CW.seq ?_; apply CW.condT; rfl; (with_reducible rfl); refine CW.skip ?_; refine thenN ?_; refine CW.seq ?_; refine CW.block ?_; refine CW.seq ?_; refine CW.region ?_; apply LW.v0; rfl; rfl; apply ValP.indexA; rfl; rfl; rfl; rfl; omega; apply nth_nca; omega; apply LW.v0; rfl; rfl; apply ValP.assign; rfl; apply LW.nil; refine thenN ?_; refine CW.region ?_; apply LW.load; rfl; rfl; apply Known.at; apply FsAt.tail; apply FsAt.head; apply rd_ncaW; assumption; apply LW.v0; rfl; rfl; apply ValP.move; rfl; apply LW.callE; rfl; rfl; infer_instance; apply ArgsOk.cons; rfl; apply ArgsOk.cons; rfl; exact ArgsOk.nil; intro w _; exact hR' w _ (by assumption); apply LW.store; rfl; rfl; apply SetAt.tail; apply SetAt.head; apply wr_ncaW; assumption; assumption; apply LW.nil; refine blkN ?_; refine thenN ?_; refine CW.region ?_; apply LW.v0; rfl; rfl; apply ValP.addZL; rfl; rfl; decide; omega; apply LW.v0; rfl; rfl; apply ValP.move; rfl; apply LW.nil)
    refine thenX ⟨rfl, k + 1, hk4, by omega, ⟨rfl, rfl, rfl, rfl, trivial⟩, ?_⟩
    exact List.Sublist.refl _
  · obtain rfl : k = 24 := by omega
    have hlr : (List.replicate 25 0 : List Nat).length = 25 := rfl
    (refine CW.seq ?_; refine CW.region ?_; apply LW.v0; rfl; rfl; apply ValP.lssF; rfl; rfl; omega; apply LW.nil; refine thenN ?_; refine CW.seq ?_; apply CW.condF; rfl; (with_reducible rfl); refine CW.exit ?_; refine thenE ?_; refine thenE ?_; refine blkE rfl ?_; refine thenN ?_; refine CW.seq ?_; refine CW.region ?_; apply LW.load; rfl; rfl; apply Known.at; apply FsAt.tail; apply FsAt.head; apply rd_ncaW; assumption; apply LW.store; rfl; rfl; apply SetAt.head; apply wr_ncaW; assumption; assumption; apply LW.nil; refine thenN ?_; refine CW.ret ?_)
    (apply finR; exact .inl rfl; rfl; rfl; rfl; apply ResL.cons; apply Res.cell; rfl; apply Known.at; apply FsAt.head; apply rd_ncaW; assumption; exact ResL.nil)
    rfl
end Go.Proofs.YtobkhnmglbfheaaDoor.SK

/-
  Contracts of the sponge: padded bytes.
  Conditions: none.
-/
namespace Go.Proofs.YtobkhnmglbfheaaDoor.SK
open Go Go.RowKit SL
set_option maxRecDepth 8000
set_option maxHeartbeats 4000000
set_option linter.unusedSimpArgs false
set_option linter.unusedVariables false
attribute [local irreducible] SL.CW SL.LW SL.DW Calls SL.Ret SL.RetG SL.beginQ SL.roundQ SL.rangeQ SL.inQ SL.RW SL.AnyW SL.thenQ SL.thenC SL.thenW SL.blkQ SL.finQ SL.ValP SL.NewP SL.SetP SL.CallP SL.Rd SL.Wr SL.Known
/-- how many bytes the padded ones are. -/
def padN (n : Nat) : Nat := (n / 136 + 1) * 136
def pad1 (b : List UInt8) : List UInt8 := (b ++ List.replicate (padN b.length - b.length) 0).set b.length 1
def padB (b : List UInt8) : List UInt8 := (pad1 b).set (padN b.length - 1) ((pad1 b).getD (padN b.length - 1) 0 ||| 128)
theorem padN_lt (n : Nat) : n < padN n := by unfold padN; omega
theorem pad1_len (b : List UInt8) : (pad1 b).length = padN b.length := by have := padN_lt b.length; simp [pad1]; omega
theorem padB_len (b : List UInt8) : (padB b).length = padN b.length := by rw [padB, List.length_set, pad1_len]
theorem pad_copy (b : List UInt8) : ((List.replicate (padN b.length) (Value.int .u8 0)).toArray.toList.take 0 ++ ucs b ++ (List.replicate (padN b.length) (Value.int .u8 0)).toArray.toList.drop (0 + b.length)).toArray = uca (b ++ List.replicate (padN b.length - b.length) 0) := by
  simp [uca, ucs_map]
def PadR (b : List UInt8) (v : Value) (gs : Fs) : Prop := ∃ g, v = .slice (some ⟨g, 0, none⟩) (padB b).length (padB b).length ∧ gs = [(g, .cells (uca (padB b)) 5 (0, 0))]
theorem wr_pad1 {T E : TypeId} {z : Value} [InfoI Tryd.prog T 1 z] (b : List UInt8) : Wr Tryd.prog T (.cells (uca (b ++ List.replicate (padN b.length - b.length) (0 : UInt8))) E (0, 0)) (0 + b.length * 1) (.int .u8 1) (.cells (uca (pad1 b)) E (0, 0)) :=
  wr_uca (x := 1) (by have := padN_lt b.length; simp; omega) (by decide)
theorem or_byte (u : UInt8) : UInt8.ofNat (u.toNat ||| 128) = u ||| 128 := by
  apply UInt8.toNat_inj.1
  rw [UInt8.toNat_or, UInt8.toNat_ofNat']
  exact Nat.mod_eq_of_lt (Nat.or_lt_two_pow (n := 8) (UInt8.toNat_lt u) (by decide))
theorem wr_padB {T E : TypeId} {z : Value} [InfoI Tryd.prog T 1 z] (b : List UInt8) : Wr Tryd.prog T (.cells (uca (pad1 b)) E (0, 0)) (0 + (padN b.length - 1) * 1) (.int .u8 ((((pad1 b).getD (padN b.length - 1) 0).toNat ||| 128 : Nat) : Int)) (.cells (uca (padB b)) E (0, 0)) := by
  have h := wr_uca (P := Tryd.prog) (T := T) (E := E) (l := pad1 b) (i := padN b.length - 1) (x := ((pad1 b).getD (padN b.length - 1) 0).toNat ||| 128) (z := z) (by rw [pad1_len]; have := padN_lt b.length; omega) (Nat.or_lt_two_pow (n := 8) (UInt8.toNat_lt _) (by decide))
  rw [or_byte] at h
  exact h
theorem Pad_calls (b : List UInt8) (v : Value) (w : World) (hv : RowAt w 1 v b.length (ucs b)) (hb : b.length ≤ 100000) : Calls Tryd.prog 60 #[v] w (RetG w [] (PadR b)) := by
  obtain ⟨p, c, rfl, hc, hm⟩ := hv.form
  have hlt := padN_lt b.length
  have h1 := pad1_len b
  have h2 := padB_len b
  have hN : padN b.length = (b.length / 136 + 1) * 136 := rfl
  refine enter (args := [_]) _ [] [] Tryd.func60 rfl Tryd.ntmps60 rfl (by simp) .nil ?_
  (refine CW.seq ?_; refine CW.region ?_; apply LW.v0; rfl; rfl; apply ValP.assign; rfl; apply LW.nil; refine thenN ?_; refine CW.seq ?_; refine CW.region ?_; apply LW.v0; rfl; rfl; apply ValP.move; rfl; apply LW.v0; rfl; rfl; apply ValP.lenR; rfl; infer_instance; rfl; apply LW.v0; rfl; rfl; apply ValP.quoZL; rfl; rfl; decide; omega; omega; apply LW.v0; rfl; rfl; apply ValP.addZL; rfl; rfl; decide; omega; apply LW.v0; rfl; rfl; apply ValP.mulZL; rfl; rfl; decide; omega)
  rw [← hN]
  refine LW.makeOwn rfl inferInstance inferInstance inferInstance rfl rfl ?_ ?_ fun g => ?_
  · omega
  · simp only [maxLen]; omega
  (apply LW.v0; rfl; rfl; apply ValP.assign; rfl; apply LW.nil; refine thenN ?_; refine CW.seq ?_; refine CW.region ?_; apply LW.v0; rfl; rfl; apply ValP.move; rfl; apply LW.v0; rfl; rfl; apply ValP.move; rfl; apply LW.v0; rfl; rfl; apply ValP.move; rfl)
  refine LW.copyAt (cur := (List.replicate (padN b.length) (Value.int .u8 0)).toArray) (E' := 5) (fs' := [(g, .cells (((List.replicate (padN b.length) (Value.int .u8 0)).toArray.toList.take 0 ++ ucs b ++ (List.replicate (padN b.length) (Value.int .u8 0)).toArray.toList.drop (0 + b.length)).toArray) 5 (0, 0))]) rfl rfl inferInstance inferInstance inferInstance rfl rfl (fun w hst => hv.st hst) (ucs_cells b) (by omega) (by simp; omega) (by (apply SetAt.head)) ?_
  rw [pad_copy]
  have hl0 : (b ++ List.replicate (padN b.length - b.length) (0 : UInt8)).length = padN b.length := by simp; omega
  (apply LW.v0; rfl; rfl; apply ValP.indexAddrS; rfl; rfl; rfl; omega; apply LW.store; rfl; rfl; apply SetAt.head; exact wr_pad1 b; apply LW.nil; refine thenN ?_; refine CW.seq ?_; refine CW.region ?_; apply LW.v0; rfl; rfl; apply ValP.move; rfl; apply LW.v0; rfl; rfl; apply ValP.move; rfl; apply LW.v0; rfl; rfl; apply ValP.lenR; rfl; infer_instance; rfl; apply LW.v0; rfl; rfl; apply ValP.subZL; rfl; rfl; decide; omega; omega; apply LW.v0; rfl; rfl; apply ValP.indexAddrS; rfl; rfl; rfl; omega; apply LW.load; rfl; rfl; apply Known.at; apply FsAt.head; apply rd_uca; omega; apply LW.v0; rfl; rfl; apply ValP.orBL; rfl; rfl; decide; exact UInt8.toNat_lt _; decide; apply LW.v0; rfl; rfl; apply ValP.indexAddrS; rfl; rfl; rfl; omega; apply LW.store; rfl; rfl; apply SetAt.head; exact wr_padB b; apply LW.nil; refine thenN ?_; refine CW.seq ?_; refine CW.region ?_; apply LW.v0; rfl; rfl; apply ValP.move; rfl; apply LW.v0; rfl; rfl; apply ValP.assign; rfl; apply LW.nil; refine thenN ?_; refine CW.ret ?_)
  refine fin [(g, .cells (uca (padB b)) 5 (0, 0))] (.inl rfl) rfl rfl (by (apply ResL.cons; exact Res.tmp rfl; exact ResL.nil)) (List.Sublist.refl _) ⟨g, ?_, rfl⟩
  rw [h2]; rfl
def ChunkR (v0 : Value) (v : Value) (gs : Fs) : Prop := ∃ b1 b2, v = .func (.func 76) #[] #[.pointer (some ⟨b1, 0, none⟩), .pointer (some ⟨b2, 0, none⟩)] ∧ gs = [(b2, .cells #[.int .i64 136] 3 (0, 0)), (b1, .cells #[v0] 28 (0, 0))]
theorem Chunk_calls (p : Option Addr) (n c : Nat) (w : World) : Calls Tryd.prog 59 #[.slice p n c, .int .i64 136] w (RetG w [] (ChunkR (.slice p n c))) := by
  refine enter (args := [_, _]) _ [] [] Tryd.func59 rfl Tryd.ntmps59 rfl (by simp) .nil ?_
  (refine CW.seq ?_; refine CW.region ?_; apply LW.box1; rfl; rfl; rfl; intro _; apply LW.box1; rfl; rfl; rfl; intro _; apply LW.v0; rfl; rfl; apply ValP.assign; rfl; apply LW.nil; refine thenN ?_; refine CW.seq ?_; refine CW.seq ?_; refine CW.region ?_; apply LW.load; rfl; rfl; apply Known.at; apply FsAt.head; exact Rd.one' rfl; apply LW.v0; rfl; rfl; apply ValP.lssF; rfl; rfl; omega; apply LW.nil; refine thenN ?_; apply CW.condF; rfl; (with_reducible rfl); refine CW.skip ?_; refine thenN ?_; refine CW.seq ?_; refine CW.region ?_; apply LW.v0; rfl; rfl; apply ValP.makeFunc; exact ArgsOk.nil; apply ArgsOk.cons; rfl; apply ArgsOk.cons; rfl; exact ArgsOk.nil; apply LW.v0; rfl; rfl; apply ValP.assign; rfl; apply LW.nil; refine thenN ?_; refine CW.ret ?_)
  rename_i b1 b2
  exact fin _ (.inl rfl) rfl rfl (by (apply ResL.cons; exact Res.tmp rfl; exact ResL.nil)) (List.Sublist.refl _) ⟨b1, b2, rfl, rfl⟩
end Go.Proofs.YtobkhnmglbfheaaDoor.SK

/-
  Contracts of the sponge: digests.
  Conditions: none.
-/
namespace Go.Proofs.YtobkhnmglbfheaaDoor.SK
open Go Go.RowKit SL
set_option maxRecDepth 8000
set_option maxHeartbeats 4000000
set_option linter.unusedSimpArgs false
set_option linter.unusedVariables false
attribute [local irreducible] SL.CW SL.LW SL.DW Calls SL.Ret SL.RetG SL.beginQ SL.roundQ SL.rangeQ SL.inQ SL.RW SL.AnyW SL.thenQ SL.thenC SL.thenW SL.blkQ SL.finQ SL.ValP SL.NewP SL.SetP SL.CallP SL.Rd SL.Wr SL.Known
def soakF (L : List Nat) (p : List UInt8) (o : Nat) : Nat → List Nat
  | 0 => L
  | k + 1 => (soakF L p o k).set (k / 8) ((soakF L p o k).getD (k / 8) 0 ^^^ ((p.getD (o + k) 0).toNat * 2 ^ (8 * (k % 8)) % 18446744073709551616))
theorem soakF_len (L : List Nat) (p : List UInt8) (o k : Nat) : (soakF L p o k).length = L.length := by
  induction k with
  | zero => rfl
  | succ k ih => simp [soakF, ih]
theorem soakF_lt (L : List Nat) (p : List UInt8) (o : Nat) (hb : ∀ i, L.getD i 0 < 18446744073709551616) (k : Nat) : ∀ i, (soakF L p o k).getD i 0 < 18446744073709551616 := by
  induction k with
  | zero => exact hb
  | succ k ih => exact getD_set_lt ih (xor_lt (ih _) (Nat.mod_lt _ (by decide)))
def sumF (p : List UInt8) : Nat → List Nat
  | 0 => List.replicate 25 0
  | c + 1 => permL (soakF (sumF p c) p (136 * c) 136)
theorem sumF_len (p : List UInt8) (c : Nat) : (sumF p c).length = 25 := by
  induction c with
  | zero => simp [sumF]
  | succ c ih => exact permL_len _ (by rw [soakF_len, ih])
theorem sumF_lt (p : List UInt8) (c : Nat) : ∀ i, (sumF p c).getD i 0 < 18446744073709551616 := by
  induction c with
  | zero => exact rep_lt 25
  | succ c ih => exact permL_lt _ (soakF_lt _ _ _ ih _)
def idF (L : List Nat) : Nat → List UInt8
  | 0 => List.replicate 32 0
  | k + 1 => (idF L k).set k (UInt8.ofNat (L.getD (k / 8) 0 / 2 ^ (8 * (k % 8)) % 256))
theorem idF_len (L : List Nat) (k : Nat) : (idF L k).length = 32 := by
  induction k with
  | zero => simp [idF]
  | succ k ih => simp [idF, ih]
def padC (n : Nat) : Nat := n / 136 + 1
def sumB (b : List UInt8) : List UInt8 := idF (sumF (padB b) (padC b.length)) 32
theorem ValP.cut3o {P : Program} {e : Env} {T : TypeId} {x : Operand} {g o o' m n : Nat} {ik il im : IntKind} {E i j k c : Nat} {z : Value} {lo hi mx : Operand} (hU : UnI P T (.slice E)) (hI : InfoI P E 1 z) (hx : e.ev x = some (.slice (some ⟨g, o, none⟩) n c)) (hl : e.ev lo = some (.int il (i : Int))) (hh : e.ev hi = some (.int ik (j : Int))) (hm : e.ev mx = some (.int im (k : Int))) (h1 : j = i + m) (h2 : k = i + m) (h3 : i + m ≤ c) (h4 : 0 < m) (h5 : o' = o + i) :
    ValP P e [] (.slice T x (some lo) (some hi) (some mx)) (.slice (some ⟨g, o', none⟩) m m) := by
  subst h1 h2 h5
  have h := ValP.cut3 (P := P) (e := e) hU hI hx hl hh hm (by omega) (by omega) h3 (by omega)
  have e1 : i + m - i = m := by omega
  have e2 : (Option.map (fun x => Addr.add x (i * 1)) (some ⟨g, o, none⟩)) = some ⟨g, o + i, none⟩ := by simp [Addr.add]
  rw [e1] at h
  rw [← e2]
  exact h
theorem soakF_zero (L : List Nat) (p : List UInt8) (o : Nat) : soakF L p o 0 = L := rfl
theorem sumF_zero (p : List UInt8) : sumF p 0 = List.replicate 25 0 := rfl
theorem soakF_succ (L : List Nat) (p : List UInt8) (o k : Nat) : soakF L p o (k + 1) = (soakF L p o k).set (k / 8) ((soakF L p o k).getD (k / 8) 0 ^^^ ((p.getD (o + k) 0).toNat * 2 ^ (8 * (k % 8)) % 18446744073709551616)) := rfl
theorem sumF_succ (p : List UInt8) (c : Nat) : sumF p (c + 1) = permL (soakF (sumF p c) p (136 * c) 136) := rfl
theorem idF_zero (L : List Nat) : idF L 0 = List.replicate 32 0 := rfl
theorem idF_succ (L : List Nat) (k : Nat) : idF L (k + 1) = (idF L k).set k (UInt8.ofNat (L.getD (k / 8) 0 / 2 ^ (8 * (k % 8)) % 256)) := rfl
attribute [local irreducible] permL padB soakF sumF idF
theorem Sum_calls (b : List UInt8) (v : Value) (w : World) (hv : RowAt w 1 v b.length (ucs b)) (hb : b.length ≤ 100000) (hT : TurnAt w) (hN : NumAt w) : Calls Tryd.prog 39 #[v] w (Ret w (.agg (uca (sumB b)))) := by
  have hPad : ∀ w' {fs}, St w [] fs w' → Calls Tryd.prog 60 #[v] w' (RetG w' [] (PadR b)) := fun w' fs hst => Pad_calls b v w' (hv.st hst) hb
  have hP : ∀ L : List Nat, L.length = 25 → (∀ i, L.getD i 0 < 18446744073709551616) → ∀ w' {fs}, St w [] fs w' → Calls Tryd.prog 61 #[.agg (nca L)] w' (Ret w' (.agg (nca (permL L)))) := fun L h1 h2 w' fs hst => Permute_calls L h1 h2 w' (hT.st hst) (hN.st hst)
  obtain ⟨p0, c0, rfl, _, _⟩ := hv.form
  obtain ⟨P, hPe⟩ : ∃ P, P = padB b := ⟨_, rfl⟩
  obtain ⟨N, hNe⟩ : ∃ N, N = padC b.length := ⟨_, rfl⟩
  have hlP : P.length = 136 * N := by rw [hPe, hNe, padB_len, padN, padC]; omega
  have hNb : N ≤ 1000 := by rw [hNe, padC]; omega
  refine enter (args := [_]) _ [] [] Tryd.func39 rfl Tryd.ntmps39 rfl (by simp) .nil ?_
  (refine CW.seq ?_; refine CW.region ?_; apply LW.allocA; rfl; intro _; apply LW.nil; refine thenN ?_; refine CW.seq ?_; refine CW.region ?_; apply LW.allocA; rfl; intro _; apply LW.nil; refine thenN ?_; refine CW.seq ?_; refine CW.seq ?_; refine CW.region ?_; apply LW.v0; rfl; rfl; apply ValP.move; rfl)
  refine LW.callR rfl rfl inferInstance (by (apply ArgsOk.cons; rfl; exact ArgsOk.nil)) (fun w hst => hPad w hst) ?_
  rintro v1 gs1 ⟨g, rfl, rfl⟩
  rw [← hPe]
  skip
  refine LW.callR rfl rfl inferInstance (by (apply ArgsOk.cons; rfl; apply ArgsOk.cons; rfl; exact ArgsOk.nil)) (fun w hst => Chunk_calls _ _ _ w) ?_
  rintro v2 gs2 ⟨b1, b2, rfl, rfl⟩
  simp only [List.cons_append, List.nil_append]
  (apply LW.nil; refine thenN ?_; refine CW.block ?_)
  rename_i bi bl
  apply CW.rangeFunc
  rfl
  rfl
  infer_instance
  rfl
  exact Tryd.func76
  rfl
  exact Tryd.ntmps76
  rfl
  rfl
  intro l r rec hrec
  (refine CW.seq ?_; refine CW.region ?_; apply LW.v0; rfl; rfl; apply ValP.assign; rfl; apply LW.nil; refine thenN ?_; refine CW.block ?_)
  refine CW.loop (fun c : Nat => ([(4, .int .i64 ((136 * c : Nat) : Int)), (0, .func (.yield l) #[] #[]), (1, .pointer (some ⟨b1, 0, none⟩)), (2, .pointer (some ⟨b2, 0, none⟩))],
    [(l, rdy rec), (r, .deferred (some [])), (b2, .cells #[.int .i64 136] 3 (0, 0)), (b1, .cells #[.slice (some ⟨g, 0, none⟩) P.length P.length] 28 (0, 0)), (g, .cells (uca P) 5 (0, 0)),
      (bl, .cells (nca (sumF P c)) 102 (0, 0)), (bi, .cells (uca (List.replicate 32 0)) 79 (0, 0))]))
    (fun c => c ≤ N) (fun c => N - c) 0 (Nat.zero_le _) ⟨rfl, rfl, rfl, rfl, trivial⟩ (by dsimp only; rw [sumF_zero]; exact List.Sublist.refl _) ?_
  intro c hc
  dsimp only at hc ⊢
  rcases Nat.lt_or_ge c N with hcN | hcN
  · have hle : 136 * c + 136 ≤ P.length := by omega
    (refine CW.seq ?_; refine CW.seq ?_; refine CW.region ?_; apply LW.v0; rfl; rfl; apply ValP.move; rfl; apply LW.load; rfl; rfl; apply Known.at; apply FsAt.tail; apply FsAt.tail; apply FsAt.tail; apply FsAt.head; exact Rd.one' rfl; apply LW.v0; rfl; rfl; apply ValP.lenR; rfl; infer_instance; rfl; apply LW.v0; rfl; rfl; apply ValP.lssT; rfl; rfl; omega; apply LW.nil; refine thenN ?_; apply CW.condT; rfl; (with_reducible rfl); refine CW.skip ?_; refine thenN ?_; refine CW.seq ?_; refine CW.block ?_; refine CW.seq ?_; apply CW.pre; refine AnyW.any 5 mixed (by decide +kernel) ?_; (try simp only [tsOf_cons, tsOf_nil, tsOf_app]); apply DW.loadO; rfl; rfl; rfl; exact WantT.none; rfl; apply TRead.tail; apply TRead.tail; apply TRead.head; exact ancB_nil; exact Rd.one' rfl; apply DW.loadO; rfl; rfl; rfl; exact WantT.none; rfl; apply TRead.tail; apply TRead.tail; apply TRead.tail; apply TRead.head; exact ancB_nil; exact Rd.one' rfl; apply DW.v0; rfl; rfl; rfl; exact WantT.none; rfl; apply ValP.move; rfl; apply DW.v0; rfl; rfl; rfl; exact WantT.none; rfl; apply ValP.cutFrom; infer_instance; infer_instance; rfl; rfl; omega; apply DW.v0; rfl; rfl; rfl; exact WantT.none; rfl; apply ValP.lenR; rfl; infer_instance; rfl; apply DW.nil; simp only [fsOf_cons, fsOf_nil, fsOf_app, fsOf_tsOf, fsOf_new]; apply LW.v0; rfl; rfl; apply ValP.minZ; rfl; rfl; apply LW.v0; rfl; rfl; apply ValP.assign; rfl; apply LW.nil; refine thenN ?_; refine CW.seq ?_; refine CW.region ?_; apply LW.v0; rfl; rfl; apply ValP.move; rfl; apply LW.load; rfl; rfl; apply Known.at; apply FsAt.tail; apply FsAt.tail; apply FsAt.tail; apply FsAt.head; exact Rd.one' rfl; apply LW.v0; rfl; rfl; apply ValP.move; rfl; apply LW.v0; rfl; rfl; apply ValP.move; rfl; apply LW.v0; rfl; rfl; apply ValP.move; rfl; apply LW.v0; rfl; rfl; apply ValP.addZ; rfl; rfl; omega; apply LW.v0; rfl; rfl; apply ValP.move; rfl; apply LW.v0; rfl; rfl; apply ValP.move; rfl; apply LW.v0; rfl; rfl; apply ValP.addZ; rfl; rfl; omega)
    apply LW.v0
    rfl
    rfl
    refine ValP.cut3o (o' := 136 * c) (m := 136) inferInstance inferInstance rfl rfl rfl rfl ?_ ?_ ?_ ?_ ?_
    · show 136 * c + min 136 (P.length - 136 * c) = 136 * c + 136
      omega
    · show 136 * c + min 136 (P.length - 136 * c) = 136 * c + 136
      omega
    · omega
    · omega
    · omega
    apply LW.yield
    rfl
    rfl
    (apply ArgsOk.cons; rfl; exact ArgsOk.nil)
    exact hrec
    (apply FsAt.head)
    rfl
    rfl
    (refine CW.region ?_; apply LW.v0; rfl; rfl; apply ValP.assign; rfl; apply LW.nil; apply beginI; apply SetAt.head; refine CW.block ?_; refine CW.seq ?_; refine CW.seq ?_; refine CW.region ?_; apply LW.v0; rfl; rfl; apply ValP.move; rfl; apply LW.v0; rfl; rfl; apply ValP.lenR; rfl; infer_instance; rfl; apply LW.v0; rfl; rfl; apply ValP.move; rfl; apply LW.nil; refine thenN ?_; refine CW.block ?_)
    refine CW.loop (fun k : Nat => ([(14, .int .i64 (k : Int)), (13, .int .i64 136), (12, .slice (some ⟨g, 136 * c, none⟩) 136 136), (3, .pointer (some ⟨bl, 0, none⟩)), (2, .pointer (some ⟨bi, 0, none⟩))],
      [(l, bsy rec), (r, .deferred (some [])), (b2, .cells #[.int .i64 136] 3 (0, 0)), (b1, .cells #[.slice (some ⟨g, 0, none⟩) P.length P.length] 28 (0, 0)), (g, .cells (uca P) 5 (0, 0)),
      (bl, .cells (nca (soakF (sumF P c) P (136 * c) k)) 102 (0, 0)), (bi, .cells (uca (List.replicate 32 0)) 79 (0, 0))]))
      (fun k => k ≤ 136) (fun k => 136 - k) 0 (Nat.zero_le _) ⟨rfl, rfl, rfl, rfl, rfl, trivial⟩ ?_ ?_
    · dsimp only
      rw [soakF_zero]
      exact List.Sublist.refl _
    intro k hk
    dsimp only at hk ⊢
    have hls := soakF_len (sumF P c) P (136 * c) k
    have hls' := sumF_len P c
    have hsb := soakF_lt _ P (136 * c) (sumF_lt P c) k
    rcases Nat.lt_or_ge k 136 with hk6 | hk6
    · have hbt : (P.getD (136 * c + k) 0).toNat < 256 := UInt8.toNat_lt _
      (refine CW.seq ?_; refine CW.region ?_; apply LW.v0; rfl; rfl; apply ValP.lssT; rfl; rfl; omega; apply LW.nil; refine thenN ?_; refine CW.seq ?_; apply CW.condT; rfl; (with_reducible rfl); refine CW.skip ?_; refine thenN ?_; refine CW.seq ?_; refine CW.block ?_; refine CW.seq ?_; refine CW.region ?_; apply LW.v0; rfl; rfl; apply ValP.move; rfl; apply LW.v0; rfl; rfl; apply ValP.indexAddrS; rfl; rfl; rfl; omega; apply LW.load; rfl; rfl; apply Known.at; apply FsAt.tail; apply FsAt.tail; apply FsAt.tail; apply FsAt.tail; apply FsAt.head; apply rd_ucaO; omega; apply LW.v0; rfl; rfl; apply ValP.assign; rfl; apply LW.v0; rfl; rfl; apply ValP.assign; rfl; apply LW.nil; refine thenN ?_; apply CW.pre; refine AnyW.any 10 mixed (by decide +kernel) ?_; (try simp only [tsOf_cons, tsOf_nil, tsOf_app]); apply DW.v0; rfl; rfl; rfl; exact WantT.none; rfl; apply ValP.move; rfl; apply DW.v0; rfl; rfl; rfl; exact WantT.none; rfl; apply ValP.quoZL; rfl; rfl; decide; omega; omega; apply DW.v0; rfl; rfl; rfl; exact WantT.none; rfl; apply ValP.indexAddrA; rfl; rfl; rfl; omega; apply DW.loadO; rfl; rfl; rfl; exact WantT.none; rfl; apply TRead.tail; apply TRead.tail; apply TRead.tail; apply TRead.tail; apply TRead.tail; apply TRead.head; exact ancB_nil; apply rd_nca; omega; apply DW.v0; rfl; rfl; rfl; exact WantT.none; rfl; apply ValP.move; rfl; apply DW.v0; rfl; rfl; rfl; exact WantT.none; rfl; apply ValP.convN; rfl; omega; omega; apply DW.v0; rfl; rfl; rfl; exact WantT.none; rfl; apply ValP.move; rfl; apply DW.v0; rfl; rfl; rfl; exact WantT.none; rfl; apply ValP.remZL; rfl; rfl; decide; omega; apply DW.v0; rfl; rfl; rfl; exact WantT.none; rfl; apply ValP.mulZK; rfl; rfl; decide; omega; apply DW.v0; rfl; rfl; rfl; exact WantT.none; rfl; apply ValP.shlU; rfl; rfl; omega; apply DW.nil; simp only [fsOf_cons, fsOf_nil, fsOf_app, fsOf_tsOf, fsOf_new]; apply LW.v0; rfl; rfl; apply ValP.xorU; rfl; rfl; exact hsb _; exact Nat.mod_lt _ (by decide); apply LW.v0; rfl; rfl; apply ValP.indexAddrA; rfl; rfl; rfl; omega; apply LW.store; rfl; rfl; apply SetAt.tail; apply SetAt.tail; apply SetAt.tail; apply SetAt.tail; apply SetAt.tail; apply SetAt.head; apply wr_nca; omega; apply LW.nil; refine blkN ?_; refine thenN ?_; refine CW.region ?_; apply LW.v0; rfl; rfl; apply ValP.addZL; rfl; rfl; decide; omega; apply LW.v0; rfl; rfl; apply ValP.move; rfl; apply LW.nil)
      refine thenX ⟨rfl, k + 1, hk6, by omega, ⟨rfl, rfl, rfl, rfl, rfl, trivial⟩, ?_⟩
      rw [soakF_succ]
      exact List.Sublist.refl _
    · obtain rfl : k = 136 := by omega
      have hPerm : ∀ w' {fs}, St w [] fs w' → Calls Tryd.prog 61 #[.agg (nca (soakF (sumF P c) P (136 * c) 136))] w' (Ret w' (.agg (nca (permL (soakF (sumF P c) P (136 * c) 136))))) := hP _ (by rw [hls, hls']) hsb
      have hlp := permL_len (soakF (sumF P c) P (136 * c) 136) (by rw [hls, hls'])
      have hls2 : (soakF (sumF P c) P (136 * c) 136).length = 25 := by rw [hls, hls']
      (refine CW.seq ?_; refine CW.region ?_; apply LW.v0; rfl; rfl; apply ValP.lssF; rfl; rfl; omega; apply LW.nil; refine thenN ?_; refine CW.seq ?_; apply CW.condF; rfl; (with_reducible rfl); refine CW.exit ?_; refine thenE ?_; refine thenE ?_; refine blkE rfl ?_; refine thenN ?_; refine CW.region ?_; apply LW.load; rfl; rfl; apply Known.at; apply FsAt.tail; apply FsAt.tail; apply FsAt.tail; apply FsAt.tail; apply FsAt.tail; apply FsAt.head; apply rd_ncaW; assumption; apply LW.callE; rfl; rfl; infer_instance; apply ArgsOk.cons; rfl; exact ArgsOk.nil; intro w _; exact hPerm w (by assumption); apply LW.store; rfl; rfl; apply SetAt.tail; apply SetAt.tail; apply SetAt.tail; apply SetAt.tail; apply SetAt.tail; apply SetAt.head; apply wr_ncaW; assumption; assumption; apply LW.nil; refine blkN ?_; apply roundN; apply SetAt.head; apply LW.v0; rfl; rfl; apply ValP.notT; rfl; (with_reducible rfl); apply LW.nil; refine thenN ?_; apply CW.condF; rfl; (with_reducible rfl); refine CW.skip ?_; refine blkN ?_; refine thenN ?_; refine CW.region ?_; apply LW.v0; rfl; rfl; apply ValP.move; rfl; apply LW.load; rfl; rfl; apply Known.at; apply FsAt.tail; apply FsAt.tail; apply FsAt.head; exact Rd.one' rfl; apply LW.v0; rfl; rfl; apply ValP.addZL; rfl; rfl; decide; omega; apply LW.v0; rfl; rfl; apply ValP.assign; rfl; apply LW.nil)
      refine thenX ⟨rfl, c + 1, hcN, by omega, ⟨rfl, rfl, rfl, rfl, trivial⟩, ?_⟩
      rw [sumF_succ]
      exact List.Sublist.refl _
  · obtain rfl : c = N := by omega
    have hls := sumF_len P c
    have hsb := sumF_lt P c
    (refine CW.seq ?_; refine CW.seq ?_; refine CW.region ?_; apply LW.v0; rfl; rfl; apply ValP.move; rfl; apply LW.load; rfl; rfl; apply Known.at; apply FsAt.tail; apply FsAt.tail; apply FsAt.tail; apply FsAt.head; exact Rd.one' rfl; apply LW.v0; rfl; rfl; apply ValP.lenR; rfl; infer_instance; rfl; apply LW.v0; rfl; rfl; apply ValP.lssF; rfl; rfl; omega; apply LW.nil; refine thenN ?_; apply CW.condF; rfl; (with_reducible rfl); refine CW.exit ?_; refine thenE ?_; refine thenE ?_; refine blkE rfl ?_)
    apply rangeN
    (exact .inr rfl)
    (exact Shut.nil)
    (apply SetAt.head)
    (refine blkN ?_; refine thenM ?_; refine CW.seq ?_; refine CW.seq ?_; refine CW.region ?_; apply LW.v0; rfl; rfl; apply ValP.move; rfl; apply LW.nil; refine thenN ?_; refine CW.block ?_)
    refine CW.loop (fun k : Nat => ([(34, .int .i64 (k : Int)), (3, .pointer (some ⟨bl, 0, none⟩)), (2, .pointer (some ⟨bi, 0, none⟩))],
      [(r, .deferred (some [])), (bl, .cells (nca (sumF P c)) 102 (0, 0)), (bi, .cells (uca (idF (sumF P c) k)) 79 (0, 0))]))
      (fun k => k ≤ 32) (fun k => 32 - k) 0 (Nat.zero_le _) ⟨rfl, rfl, rfl, trivial⟩ ?_ ?_
    · dsimp only
      rw [idF_zero]
      (apply List.Sublist.cons; apply List.Sublist.cons_cons; apply List.Sublist.cons; apply List.Sublist.cons; apply List.Sublist.cons; exact List.Sublist.refl _)
    intro k hk
    dsimp only at hk ⊢
    have hli := idF_len (sumF P c) k
    rcases Nat.lt_or_ge k 32 with hk6 | hk6
    · (refine CW.seq ?_; refine CW.region ?_; apply LW.v0; rfl; rfl; apply ValP.lssT; rfl; rfl; omega; apply LW.nil; refine thenN ?_; refine CW.seq ?_; apply CW.condT; rfl; (with_reducible rfl); refine CW.skip ?_; refine thenN ?_; refine CW.seq ?_; refine CW.block ?_; refine CW.seq ?_; refine CW.region ?_; apply LW.v0; rfl; rfl; apply ValP.move; rfl; apply LW.v0; rfl; rfl; apply ValP.assign; rfl; apply LW.nil; refine thenN ?_; refine CW.region ?_; apply LW.v0; rfl; rfl; apply ValP.move; rfl; apply LW.v0; rfl; rfl; apply ValP.move; rfl; apply LW.v0; rfl; rfl; apply ValP.quoZL; rfl; rfl; decide; omega; omega; apply LW.v0; rfl; rfl; apply ValP.indexAddrA; rfl; rfl; rfl; omega; apply LW.load; rfl; rfl; apply Known.at; apply FsAt.tail; apply FsAt.head; apply rd_nca; omega; apply LW.v0; rfl; rfl; apply ValP.move; rfl; apply LW.v0; rfl; rfl; apply ValP.remZL; rfl; rfl; decide; omega; apply LW.v0; rfl; rfl; apply ValP.mulZK; rfl; rfl; decide; omega; apply LW.v0; rfl; rfl; apply ValP.shrU; rfl; rfl; omega; apply LW.v0; rfl; rfl; apply ValP.convB; rfl; apply LW.v0; rfl; rfl; apply ValP.indexAddrA; rfl; rfl; rfl; omega; apply LW.store; rfl; rfl; apply SetAt.tail; apply SetAt.tail; apply SetAt.head; apply wr_uca; omega; exact Nat.mod_lt _ (by decide); apply LW.nil; refine blkN ?_; refine thenN ?_; refine CW.region ?_; apply LW.v0; rfl; rfl; apply ValP.addZL; rfl; rfl; decide; omega; apply LW.v0; rfl; rfl; apply ValP.move; rfl; apply LW.nil)
      refine thenX ⟨rfl, k + 1, hk6, by omega, ⟨rfl, rfl, rfl, trivial⟩, ?_⟩
      rw [idF_succ]
      exact List.Sublist.refl _
    · obtain rfl : k = 32 := by omega
      (refine CW.seq ?_; refine CW.region ?_; apply LW.v0; rfl; rfl; apply ValP.lssF; rfl; rfl; omega; apply LW.nil; refine thenN ?_; refine CW.seq ?_; apply CW.condF; rfl; (with_reducible rfl); refine CW.exit ?_; refine thenE ?_; refine thenE ?_; refine blkE rfl ?_; refine thenN ?_; refine CW.seq ?_; refine CW.region ?_; apply LW.load; rfl; rfl; apply Known.at; apply FsAt.tail; apply FsAt.tail; apply FsAt.head; apply rd_ucaW; assumption; apply LW.store; rfl; rfl; apply SetAt.tail; apply SetAt.tail; apply SetAt.head; apply wr_ucaW; assumption; assumption; apply LW.nil; refine thenN ?_; refine CW.ret ?_)
      (apply finRM; exact .inl rfl; apply Shut.cons; apply SetAt.head; exact Shut.nil; rfl; rfl; apply ResL.cons; apply Res.cell; rfl; apply Known.at; apply FsAt.tail; apply FsAt.tail; apply FsAt.head; apply rd_ucaW; assumption; exact ResL.nil)
      rw [sumB, ← hPe, ← hNe]
      rfl
end Go.Proofs.YtobkhnmglbfheaaDoor.SK

/-
  Contracts of the library: strings that are built, bytes compared, digits.
  Conditions: none.
-/
namespace Go.Proofs.YtobkhnmglbfheaaDoor.SK
open Go Go.RowKit SL
set_option maxRecDepth 8000
set_option maxHeartbeats 4000000
set_option linter.unusedSimpArgs false
set_option linter.unusedVariables false
attribute [local irreducible] SL.CW SL.LW SL.DW Calls SL.Ret SL.RetG SL.beginQ SL.roundQ SL.rangeQ SL.inQ SL.RW SL.AnyW SL.thenQ SL.thenC SL.thenW SL.blkQ SL.finQ SL.ValP SL.NewP SL.SetP SL.CallP SL.Rd SL.Wr SL.Known
def bev (l : List UInt8) : Nat := l.foldl (fun n u => 256 * n + u.toNat) 0
theorem bev_snoc (l : List UInt8) (u : UInt8) : bev (l ++ [u]) = 256 * bev l + u.toNat := by simp [bev, List.foldl_append]
theorem bev_go (l : List UInt8) : ∀ n, l.foldl (fun n u => 256 * n + u.toNat) n < (n + 1) * 2 ^ (8 * l.length) := by
  induction l with
  | nil => intro n; simp
  | cons u l ih =>
    intro n
    have hu := u.toNat_lt
    rw [List.foldl_cons, List.length_cons, show 8 * (l.length + 1) = 8 + 8 * l.length by omega, Nat.pow_add, ← Nat.mul_assoc]
    exact Nat.lt_of_lt_of_le (ih _) (Nat.mul_le_mul_right _ (by omega))
theorem bev_lt (l : List UInt8) : bev l < 2 ^ (8 * l.length) := by
  have := bev_go l 0
  rwa [Nat.zero_add, Nat.one_mul] at this
def hexu (u : UInt8) : Option Nat := if 48 ≤ u.toNat ∧ u.toNat ≤ 57 then some (u.toNat - 48) else if 97 ≤ u.toNat ∧ u.toNat ≤ 102 then some (u.toNat - 87) else none
def hexi (c : Nat) : Int := match hexu (UInt8.ofNat c) with | some d => (d : Int) | none => -1
end Go.Proofs.YtobkhnmglbfheaaDoor.SK

/-
  Contracts of the sponge: digests in digits.
  Conditions: none.
-/
namespace Go.Proofs.YtobkhnmglbfheaaDoor.SK
open Go Go.RowKit SL
set_option maxRecDepth 8000
set_option maxHeartbeats 4000000
set_option linter.unusedSimpArgs false
set_option linter.unusedVariables false
attribute [local irreducible] SL.CW SL.LW SL.DW Calls SL.Ret SL.RetG SL.beginQ SL.roundQ SL.rangeQ SL.inQ SL.RW SL.AnyW SL.thenQ SL.thenC SL.thenW SL.blkQ SL.finQ SL.ValP SL.NewP SL.SetP SL.CallP SL.Rd SL.Wr SL.Known
structure TX where
  m : Nat
  p : Value
  v : Value
  seg : Fs
/-! ### The document's -/
end Go.Proofs.YtobkhnmglbfheaaDoor.SK

/-
  Contracts of the sponge: how digests stand.
  Conditions: none.
-/
namespace Go.Proofs.YtobkhnmglbfheaaDoor.SK
open Go Go.RowKit SL
set_option maxRecDepth 8000
set_option maxHeartbeats 4000000
set_option linter.unusedSimpArgs false
set_option linter.unusedVariables false
attribute [local irreducible] SL.CW SL.LW SL.DW Calls SL.Ret SL.RetG SL.beginQ SL.roundQ SL.rangeQ SL.inQ SL.RW SL.AnyW SL.thenQ SL.thenC SL.thenW SL.blkQ SL.finQ SL.ValP SL.NewP SL.SetP SL.CallP SL.Rd SL.Wr SL.Known
/-! ### The document's -/
end Go.Proofs.YtobkhnmglbfheaaDoor.SK

/-
  Contracts of the sponge: digests out of digits.
  Conditions: none.
-/
namespace Go.Proofs.YtobkhnmglbfheaaDoor.SK
open Go Go.RowKit SL
set_option maxRecDepth 8000
set_option maxHeartbeats 4000000
set_option linter.unusedSimpArgs false
set_option linter.unusedVariables false
attribute [local irreducible] SL.CW SL.LW SL.DW Calls SL.Ret SL.RetG SL.beginQ SL.roundQ SL.rangeQ SL.inQ SL.RW SL.AnyW SL.thenQ SL.thenC SL.thenW SL.blkQ SL.finQ SL.ValP SL.NewP SL.SetP SL.CallP SL.Rd SL.Wr SL.Known
/-! ### What digits say -/
/-- the digest of the digits ahead: none, if one of them is no digit. -/
def parF (s : List UInt8) : Nat → List UInt8
  | 0 => List.replicate 32 0
  | k + 1 => (parF s k).set (k / 2) (UInt8.ofNat ((16 * ((parF s k).getD (k / 2) 0).toNat % 256 + (hexi (s.getD k 0).toNat).toNat % 256) % 256))
attribute [local irreducible] parF
/-! ### The document's -/
end Go.Proofs.YtobkhnmglbfheaaDoor.SK

/-
  The sponge: what the law's first line reckons.
  Conditions: none.
-/
namespace Go.Proofs.YtobkhnmglbfheaaDoor.SK
open Go Go.RowKit SL
set_option maxRecDepth 100000
end Go.Proofs.YtobkhnmglbfheaaDoor.SK

/-
  The sponge: the law's first line.
  Conditions: none.
-/
namespace Go.Proofs.YtobkhnmglbfheaaDoor.SK
open Go Go.RowKit SL
set_option maxRecDepth 8000
set_option maxHeartbeats 4000000
set_option linter.unusedSimpArgs false
set_option linter.unusedVariables false
attribute [local irreducible] SL.CW SL.LW SL.DW Calls SL.Ret SL.RetG SL.beginQ SL.roundQ SL.rangeQ SL.inQ SL.RW SL.AnyW SL.thenQ SL.thenC SL.thenW SL.blkQ SL.finQ SL.ValP SL.NewP SL.SetP SL.CallP SL.Rd SL.Wr SL.Known
theorem TurnAt.bel {w w' : World} (h : TurnAt w) (hb : Bel w.heap.size [] w w') : TurnAt w' := by
  obtain ⟨E, fr, h⟩ := h
  exact ⟨E, fr, by rw [hb.block _ (Array.getElem?_eq_some_iff.1 h).1 (by simp)]; exact h⟩
theorem NumAt.bel {w w' : World} (h : NumAt w) (hb : Bel w.heap.size [] w w') : NumAt w' := by
  obtain ⟨E, fr, h⟩ := h
  exact ⟨E, fr, by rw [hb.block _ (Array.getElem?_eq_some_iff.1 h).1 (by simp)]; exact h⟩
end Go.Proofs.YtobkhnmglbfheaaDoor.SK

/-
  The sponge: what the laws do with bytes.
  Conditions: none.
-/
namespace Go.Proofs.YtobkhnmglbfheaaDoor.SK
open Go Go.RowKit SL
set_option maxRecDepth 8000
set_option maxHeartbeats 4000000
set_option linter.unusedSimpArgs false
set_option linter.unusedVariables false
attribute [local irreducible] SL.CW SL.LW SL.DW Calls SL.Ret SL.RetG SL.beginQ SL.roundQ SL.rangeQ SL.inQ SL.RW SL.AnyW SL.thenQ SL.thenC SL.thenW SL.blkQ SL.finQ SL.ValP SL.NewP SL.SetP SL.CallP SL.Rd SL.Wr SL.Known
/-! ### Bytes compared -/
theorem Equal_calls (a b : List UInt8) (va vb : Value) (w : World) (ha : RowAt w 1 va a.length (ucs a)) (hb : RowAt w 1 vb b.length (ucs b)) : Calls Tryd.prog 13 #[va, vb] w (Ret w (.bool (decide (a = b)))) := by
  refine enter (args := [_, _]) _ [] [] Tryd.func13 rfl Tryd.ntmps13 rfl (by simp) .nil ?_
  (refine CW.seq ?_; refine CW.region ?_; apply LW.v0; rfl; rfl; apply ValP.assign; rfl; apply LW.nil; refine thenN ?_; refine CW.seq ?_; refine CW.region ?_; apply LW.v0; rfl; rfl; apply ValP.move; rfl)
  refine LW.toStr rfl inferInstance inferInstance inferInstance rfl (fun w hs => ha.st hs) ?_
  (apply LW.v0; rfl; rfl; apply ValP.move; rfl)
  refine LW.toStr rfl inferInstance inferInstance inferInstance rfl (fun w hs => hb.st hs) ?_
  (apply LW.v0; rfl; rfl; apply ValP.strEq; rfl; rfl; apply LW.v0; rfl; rfl; apply ValP.assign; rfl; apply LW.nil; refine thenN ?_; refine CW.ret ?_)
  (apply finR; exact .inl rfl; rfl; rfl; rfl; apply ResL.cons; exact Res.tmp rfl; exact ResL.nil)
  simp [tup, ← bytes_eq]
def litF (l : List UInt8) : Nat → Nat
  | 0 => 0
  | k + 1 => litF l k ||| ((l.getD k 0).toNat * 2 ^ (8 * k) % 18446744073709551616)
attribute [local irreducible] litF
end Go.Proofs.YtobkhnmglbfheaaDoor.SK

/-
  The sponge: plain laws of digits, of order and of padded bytes.
  Conditions: none.
-/
namespace Go.Proofs.YtobkhnmglbfheaaDoor.SK
open Go Go.RowKit SL
set_option maxRecDepth 8000
set_option linter.unusedSimpArgs false
set_option linter.unusedVariables false
/-! ### Order -/
/-! ### Digits lead back -/
/-! ### Padded bytes -/
end Go.Proofs.YtobkhnmglbfheaaDoor.SK

/-
  The document's sponge: padded bytes.
  Conditions: none.
-/
namespace Go.Proofs.YtobkhnmglbfheaaDoor.SK
open Go Go.RowKit SL
set_option maxRecDepth 8000
set_option maxHeartbeats 4000000
set_option linter.unusedSimpArgs false
set_option linter.unusedVariables false
attribute [local irreducible] SL.CW SL.LW SL.DW Calls SL.Ret SL.RetG SL.beginQ SL.roundQ SL.rangeQ SL.inQ SL.RW SL.AnyW SL.thenQ SL.thenC SL.thenW SL.blkQ SL.finQ SL.ValP SL.NewP SL.SetP SL.CallP SL.Rd SL.Wr SL.Known
structure PX where
  k : Nat
  v : Value
  seg : Fs
end Go.Proofs.YtobkhnmglbfheaaDoor.SK

/-
  The document's sponge: lanes mixed, rows.
  Conditions: none.
-/
namespace Go.Proofs.YtobkhnmglbfheaaDoor.SK
open Go Go.RowKit SL
set_option maxRecDepth 8000
set_option maxHeartbeats 4000000
set_option linter.unusedSimpArgs false
set_option linter.unusedVariables false
attribute [local irreducible] SL.CW SL.LW SL.DW Calls SL.Ret SL.RetG SL.beginQ SL.roundQ SL.rangeQ SL.inQ SL.RW SL.AnyW SL.thenQ SL.thenC SL.thenW SL.blkQ SL.finQ SL.ValP SL.NewP SL.SetP SL.CallP SL.Rd SL.Wr SL.Known
/-! ### Lanes mixed -/
def dF (L C : List Nat) : Nat → List Nat
  | 0 => L
  | k + 1 => (dF L C k).set k ((dF L C k).getD k 0 ^^^ (C.getD ((k % 5 + 4) % 5) 0 ^^^ rotl (C.getD ((k % 5 + 1) % 5) 0) 1))
/-- The places, one behind the other. -/
def xyF : Nat → Nat × Nat
  | 0 => (1, 0)
  | t + 1 => ((xyF t).2, (2 * (xyF t).1 + 3 * (xyF t).2) % 5)
def nowF (L : List Nat) : Nat → Nat × List Nat
  | 0 => (L.getD 1 0, L)
  | t + 1 => ((nowF L t).2.getD (5 * (xyF (t + 1)).2 + (xyF (t + 1)).1) 0, (nowF L t).2.set (5 * (xyF (t + 1)).2 + (xyF (t + 1)).1) (rotl (nowF L t).1 ((t + 1) * (t + 2) / 2 % 64)))
/-! ### Rows -/
def rrF (L : List Nat) : Nat → List Nat
  | 0 => L
  | k + 1 => (rrF L k).set k (L.getD k 0 ^^^ ((18446744073709551615 - L.getD (5 * (k / 5) + (k % 5 + 1) % 5) 0) &&& L.getD (5 * (k / 5) + (k % 5 + 2) % 5) 0))
end Go.Proofs.YtobkhnmglbfheaaDoor.SK

/-
  The document's sponge: rounds.
  Conditions: none.
-/
namespace Go.Proofs.YtobkhnmglbfheaaDoor.SK
open Go Go.RowKit SL
set_option maxRecDepth 8000
set_option maxHeartbeats 4000000
set_option linter.unusedSimpArgs false
set_option linter.unusedVariables false
attribute [local irreducible] SL.CW SL.LW SL.DW Calls SL.Ret SL.RetG SL.beginQ SL.roundQ SL.rangeQ SL.inQ SL.RW SL.AnyW SL.thenQ SL.thenC SL.thenW SL.blkQ SL.finQ SL.ValP SL.NewP SL.SetP SL.CallP SL.Rd SL.Wr SL.Known
attribute [local irreducible] cF dF nowF xyF rrF mixL rowsL numL
end Go.Proofs.YtobkhnmglbfheaaDoor.SK

/-
  The document's sponge: rows, numbers, rounds.
  Conditions: none.
-/
namespace Go.Proofs.YtobkhnmglbfheaaDoor.SK
open Go Go.RowKit SL
set_option maxRecDepth 8000
set_option maxHeartbeats 4000000
set_option linter.unusedSimpArgs false
set_option linter.unusedVariables false
attribute [local irreducible] SL.CW SL.LW SL.DW Calls SL.Ret SL.RetG SL.beginQ SL.roundQ SL.rangeQ SL.inQ SL.RW SL.AnyW SL.thenQ SL.thenC SL.thenW SL.blkQ SL.finQ SL.ValP SL.NewP SL.SetP SL.CallP SL.Rd SL.Wr SL.Known
/-! ### Numbers -/
def inN (r : Nat) : Nat → Nat × Nat
  | 0 => (r, 0)
  | j + 1 => ((if 255 < (inN r j).1 * 2 then ((inN r j).1 * 2 - 256) ^^^ 113 else (inN r j).1 * 2), (if (if 255 < (inN r j).1 * 2 then ((inN r j).1 * 2 - 256) ^^^ 113 else (inN r j).1 * 2) / 2 % 2 = 1 then (inN r j).2 ||| 2 ^ (2 ^ j - 1) else (inN r j).2))
def outN : Nat → Nat × Nat
  | 0 => (1, 0)
  | i + 1 => inN (outN i).1 7
attribute [local irreducible] inN outN
end Go.Proofs.YtobkhnmglbfheaaDoor.SK

/-
  The document's sponge: rows, rounds, all rounds.
  Conditions: none.
-/
namespace Go.Proofs.YtobkhnmglbfheaaDoor.SK
open Go Go.RowKit SL
set_option maxRecDepth 8000
set_option maxHeartbeats 4000000
set_option linter.unusedSimpArgs false
set_option linter.unusedVariables false
attribute [local irreducible] SL.CW SL.LW SL.DW Calls SL.Ret SL.RetG SL.beginQ SL.roundQ SL.rangeQ SL.inQ SL.RW SL.AnyW SL.thenQ SL.thenC SL.thenW SL.blkQ SL.finQ SL.ValP SL.NewP SL.SetP SL.CallP SL.Rd SL.Wr SL.Known
attribute [local irreducible] rrF mixL rowsL numL roundL permF
end Go.Proofs.YtobkhnmglbfheaaDoor.SK

/-
  The sponge: plain laws of bytes that are soaked up.
  Conditions: none.
-/
namespace Go.Proofs.YtobkhnmglbfheaaDoor.SK
open Go Go.RowKit SL
set_option maxRecDepth 8000
set_option linter.unusedSimpArgs false
set_option linter.unusedVariables false
/-- Eight bytes from a place on. -/
def litO (p : List UInt8) (o : Nat) : Nat → Nat
  | 0 => 0
  | k + 1 => litO p o k ||| ((p.getD (o + k) 0).toNat * 2 ^ (8 * k) % 18446744073709551616)
/-- Lanes to which eight bytes each come. -/
def litS (L : List Nat) (p : List UInt8) (o : Nat) : Nat → List Nat
  | 0 => L
  | i + 1 => (litS L p o i).set i ((litS L p o i).getD i 0 ^^^ litO p (o + 8 * i) 8)
/-! ### Digests, eight bytes each -/
end Go.Proofs.YtobkhnmglbfheaaDoor.SK

/-
  The document's sponge: digests.
  Conditions: none.
-/
namespace Go.Proofs.YtobkhnmglbfheaaDoor.SK
open Go Go.RowKit SL
set_option maxRecDepth 8000
set_option maxHeartbeats 4000000
set_option linter.unusedSimpArgs false
set_option linter.unusedVariables false
attribute [local irreducible] SL.CW SL.LW SL.DW Calls SL.Ret SL.RetG SL.beginQ SL.roundQ SL.rangeQ SL.inQ SL.RW SL.AnyW SL.thenQ SL.thenC SL.thenW SL.blkQ SL.finQ SL.ValP SL.NewP SL.SetP SL.CallP SL.Rd SL.Wr SL.Known
/-- Eight bytes from a place on, read from the last one down. -/
def yF (p : List UInt8) (o : Nat) : Nat → Nat
  | 0 => 0
  | m + 1 => (256 * yF p o m % 18446744073709551616 + (p.getD (o + (7 - m)) 0).toNat) % 18446744073709551616
structure QX where
  k : Nat
  o : Nat
attribute [local irreducible] padB sumB permL soakF sumF litS litO idF yF
end Go.Proofs.YtobkhnmglbfheaaDoor.SK

/-
  A SMALL LOGIC OVER THE KIT's WALK, PART MN: structs of plain cells, compared with themselves.
  Conditions: none; over any program.
-/
namespace Go.Proofs.YtobkhnmglbfheaaDoor.SL
set_option linter.unusedVariables false
set_option linter.unusedSimpArgs false
open Go Go.RowKit
section
variable {P : Program} {e : Env} {T ty : TypeId} {x y : Operand} {xs : Array Value}
end
end Go.Proofs.YtobkhnmglbfheaaDoor.SL

/-
  A SMALL LOGIC OVER THE KIT's WALK, PART MO: a region that draws its order, and whose operations and callees turn nothing: one walk.
  Conditions: none; over any program.
-/
namespace Go.Proofs.YtobkhnmglbfheaaDoor.SL
set_option linter.unusedVariables false
set_option linter.unusedSimpArgs false
open Go Go.RowKit
/-- From all that is known here, the quiet operations come to Q. -/
def QW (C : Cu) (ops : Array Oper) (Q : Post) (l : List Oper) (e : Env) (fs : Fs) : Prop :=
  ∀ a, EnvOk C.N C.ds e a → wpQuietIn (FR C.r) 0 C.P ops (fun w => St C.w0 C.S fs w) (fun a' => ∀ w', St C.w0 C.S fs w' → down C Q .normal a' w') l a
theorem CW.quiet {C : Cu} {id : Nat} {l : List Oper} {Q : Post} {e : Env} {fs : Fs} (hr : C.r = none) (hm : C.P.follows .mixedOrders = true) (hB : Region.lexB .any l.toArray = true) (h : QW C l.toArray Q l e fs) : CW C (.region id l.toArray true) Q e fs := fun a w hs =>
  wpIn_region_quiet (C := fun w => St C.w0 C.S fs w) hr hm hB ⟨hs.st.bel.drew, hs.st.own, hs.st.nd⟩ (by simpa using h a hs.env)
section
variable {C : Cu} {ops : Array Oper} {Q : Post} {rest : List Oper} {e : Env} {fs : Fs} {d : Nat} {op : Op} {t : TypeId} {pos : String} {af : Array Edge} {g : Option (Nat × Bool)}
theorem QW.nil (h : Q .normal C.ds e fs) : QW C ops Q [] e fs := fun a ha w' hw => ⟨C.ds, e, fs, h, ⟨ha, hw⟩⟩
theorem QW.vk {v : Value} {us : Fs} (hd : Nat.blt d C.N = true) (hg : WantT ops e g) (h : ValP C.P e us op v) (hus : ∀ p ∈ us, Known C fs p) (k : QW C ops Q rest ((d, v) :: e) fs) : QW C ops Q (⟨some d, op, t, pos, af, g⟩ :: rest) e fs := fun a ha =>
  ⟨fun _ _ _ _ => trivial, by
    rw [if_pos (hg.wanted ha)]
    refine ⟨v, fun w hw => ?_, k _ (ha.put hd)⟩
    unfold Oper.quietAtIn
    rw [h a.eval w ha.Ev (fun p hp => (hus p hp).get hw)]
    exact ⟨rfl, rfl⟩⟩
theorem QW.v0 {v : Value} (hd : Nat.blt d C.N = true) (hg : WantT ops e g) (h : ValP C.P e [] op v) (k : QW C ops Q rest ((d, v) :: e) fs) : QW C ops Q (⟨some d, op, t, pos, af, g⟩ :: rest) e fs :=
  QW.vk hd hg h (by simp) k
theorem QW.load {T : TypeId} {x : Operand} {b off : Nat} {o : Obj} {v : Value} (hd : Nat.blt d C.N = true) (hg : WantT ops e g) (hx : e.ev x = some (.pointer (some ⟨b, off, none⟩))) (hp : Known C fs (b, o)) (h : Rd C.P T o off v) (k : QW C ops Q rest ((d, v) :: e) fs) :
    QW C ops Q (⟨some d, .load T x, t, pos, af, g⟩ :: rest) e fs := QW.vk hd hg (.load hx h) (by simpa using hp) k
theorem QW.skip {j s : Nat} {gb b : Bool} (hd : Nat.blt d C.N = true) (hs : (ops[j]?).bind (·.dst) = some s) (he : e.get s = some (.bool b)) (hb : b = !gb) (k : QW C ops Q rest ((d, undef) :: e) fs) : QW C ops Q (⟨some d, op, t, pos, af, some (j, gb)⟩ :: rest) e fs := fun a ha =>
  ⟨fun _ _ _ _ => trivial, by
    have hy : yielded ops a.tmps j = some (!gb) := by simp [yielded, hs, ha.get s _ he, hb]
    rw [if_neg (by cases gb <;> simp [Region.wanted, hy])]
    exact k _ (ha.put hd)⟩
theorem QW.callE {fo : Operand} {args : Array Operand} {tys : Array TypeId} {f : FuncId} {vs : List Value} {v : Value} (hd : Nat.blt d C.N = true) (hg : WantT ops e g) (hf : e.ev fo = some (.func (.func f) #[] #[])) (hF : FnI C.P f) (ha : ArgsOk e args.toList vs)
    (hc : ∀ w, St C.w0 C.S fs w → Calls C.P f vs.toArray w (Ret w v)) (k : QW C ops Q rest ((d, v) :: e) fs) : QW C ops Q (⟨some d, .call { callee := .value fo, args := args, argTypes := tys }, t, pos, af, g⟩ :: rest) e fs := fun a hae =>
  ⟨fun _ _ _ _ => trivial, by
    rw [if_pos (hg.wanted hae)]
    refine ⟨v, fun w hw => ?_, k _ (hae.put hd)⟩
    unfold Oper.quietAtIn
    have hrun := CallP.fn (P := C.P) (tys := tys) hf ha a.eval w hae.Ev (some d) t pos af g
    rw [hrun, arr_id]
    refine ⟨rfl, fun h => (by cases h), CallsIn.mono (calls_FR (hc w hw)) fun x w' hx => ?_⟩
    exact ⟨hx.1, by have := hw.call (gs := []) hx.2 (by simp) .nil; simpa using this⟩⟩
end
end Go.Proofs.YtobkhnmglbfheaaDoor.SL

/-
  A SMALL LOGIC OVER THE KIT's WALK, PART MP: parts of arrays.
  Conditions: none; over any program.
-/
namespace Go.Proofs.YtobkhnmglbfheaaDoor.SL
set_option linter.unusedVariables false
set_option linter.unusedSimpArgs false
open Go Go.RowKit
end Go.Proofs.YtobkhnmglbfheaaDoor.SL

/-
  Digests as words.
  Conditions: none.
-/
namespace Go.Proofs.YtobkhnmglbfheaaDoor
open Go Go.RowKit SL
set_option maxRecDepth 8000
set_option maxHeartbeats 4000000
set_option linter.unusedSimpArgs false
set_option linter.unusedVariables false
attribute [local irreducible] SL.CW SL.LW SL.DW Calls SL.Ret SL.RetG SL.beginQ SL.roundQ SL.rangeQ SL.inQ SL.RW SL.AnyW SL.thenQ SL.thenC SL.thenW SL.blkQ SL.finQ SL.ValP SL.NewP SL.SetP SL.CallP SL.Rd SL.Wr SL.Known
attribute [local irreducible] SK.padB SK.sumB
theorem sum_len (b : List UInt8) : (SK.sumB b).length = 32 := by unfold SK.sumB; rw [SK.idF_len]
/-- The word of a digest. -/
def digW (b : List UInt8) : Nat := bev (SK.sumB b)
attribute [local irreducible] digW
theorem Digest_calls (b : List UInt8) (v : Value) (w : World) (hv : RowAt w 1 v b.length (ucs b)) (hb : b.length ≤ 100000) (hT : SK.TurnAt w) (hN : SK.NumAt w) : Calls Tryd.prog 25 #[v] w (Ret w (wv (digW b))) := by
  have hlen := sum_len b
  have hdw : digW b = bev (SK.sumB b) := by unfold digW; rfl
  have hSum0 : ∀ w' {fs}, St w [] fs w' → Calls Tryd.prog 39 #[v] w' (Ret w' (.agg (uca (SK.sumB b)))) := fun w' fs hst => SK.Sum_calls b v w' (hv.st hst) hb (hT.st hst) (hN.st hst)
  obtain ⟨D, hD⟩ : ∃ D, SK.sumB b = D := ⟨_, rfl⟩
  have hSum := @hSum0
  rw [hD] at hSum hlen hdw
  have hRead : ∀ (g : Nat) (w' : World) {fs : Fs}, St w [] fs w' → w'.heap[g]? = some (.cells (uca D) 79 (0, 0)) → Calls Tryd.prog 40 #[.slice (some ⟨g, 0, none⟩) 32 32] w' (Ret w' (.tuple #[wv (digW b), .int .i64 0])) := fun g w' fs _ h => by
    have h2 := own_row (off := 0) (n := 32) (c := 32) h (by omega) (Nat.le_refl _) (by simp only [maxLen]; omega)
    rw [List.drop_zero, List.take_of_length_le (by omega)] at h2
    rw [hdw]
    exact Read_calls _ D w' (by rw [hlen]; exact h2) (by omega)
  refine enter (args := [_]) _ [] [] Tryd.func25 rfl Tryd.ntmps25 rfl (by simp) .nil ?_
  (refine CW.seq ?_; refine CW.region ?_; apply LW.allocW; rfl; intro _; apply LW.nil; refine thenN ?_; refine CW.seq ?_; refine CW.region ?_; apply LW.v0; rfl; rfl; apply ValP.move; rfl; apply LW.callE; rfl; rfl; infer_instance; apply ArgsOk.cons; rfl; exact ArgsOk.nil; intro w _; rename_i hst; exact hSum w hst; apply LW.allocA; rfl; intro _; apply LW.store; rfl; rfl; apply SetAt.head; apply wr_ucaO; rfl; assumption; apply LW.nil; refine thenN ?_; refine CW.seq ?_; refine CW.region ?_; apply LW.v0; rfl; rfl; apply ValP.cutArrAll; infer_instance; infer_instance; rfl; apply LW.callE; rfl; rfl; infer_instance; apply ArgsOk.cons; rfl; exact ArgsOk.nil; intro w _; rename_i hst; (exact hRead _ w hst ((hst.own (_, .cells (uca D) 79 (0, 0)) (by (repeat (first | exact List.Mem.head _ | apply List.Mem.tail)))).2)); apply LW.v0; rfl; rfl; apply ValP.move; rfl; apply LW.v0; rfl; rfl; apply ValP.extractN; rfl; rfl; apply LW.v0; rfl; rfl; apply ValP.extractN; rfl; rfl; apply LW.allocW; rfl; intro _; apply LW.store; rfl; rfl; apply SetAt.head; apply Wr.whole; rfl; rfl; rfl; apply LW.v0; rfl; rfl; apply ValP.assign; rfl; apply LW.nil; refine thenN ?_; refine CW.seq ?_; refine CW.region ?_; apply LW.load; rfl; rfl; apply Known.at; apply FsAt.head; exact Rd.whole rfl; apply LW.store; rfl; rfl; apply SetAt.tail; apply SetAt.tail; apply SetAt.head; apply Wr.whole; rfl; rfl; rfl; apply LW.nil; refine thenN ?_; refine CW.ret ?_)
  (apply finR; exact .inl rfl; rfl; rfl; rfl; apply ResL.cons; apply Res.cell; rfl; apply Known.at; apply FsAt.tail; apply FsAt.tail; apply FsAt.head; exact Rd.whole rfl; exact ResL.nil)
  rfl
end Go.Proofs.YtobkhnmglbfheaaDoor

/-
  The hash of an operation.
  Conditions: none.
-/
namespace Go.Proofs.YtobkhnmglbfheaaDoor
open Go Go.RowKit SL
set_option maxRecDepth 8000
set_option maxHeartbeats 4000000
set_option linter.unusedSimpArgs false
set_option linter.unusedVariables false
attribute [local irreducible] SL.CW SL.LW SL.DW Calls SL.Ret SL.RetG SL.beginQ SL.roundQ SL.rangeQ SL.inQ SL.RW SL.AnyW SL.thenQ SL.thenC SL.thenW SL.blkQ SL.finQ SL.ValP SL.NewP SL.SetP SL.CallP SL.Rd SL.Wr SL.Known
attribute [local irreducible] digW
structure JX where
  k : Nat
  v : Value
  seg : Fs
def joinB (b : List UInt8) (l : List Nat) : List UInt8 := b ++ l.flatMap fun n => beb 32 n
theorem joinB_snoc (b : List UInt8) (l : List Nat) (k : Nat) (h : k < l.length) : joinB b (l.take (k + 1)) = joinB b (l.take k) ++ beb 32 l[k] := by
  unfold joinB
  rw [List.take_succ_eq_append_getElem h, List.flatMap_append, List.append_assoc]
  simp
theorem joinB_len (b : List UInt8) (l : List Nat) : (joinB b l).length = b.length + 32 * l.length := by
  unfold joinB
  induction l with
  | nil => simp
  | cons a l ih => simp only [List.flatMap_cons, List.length_append, beb_len, List.length_cons] at ih ⊢; omega
theorem joined_calls (b : List UInt8) (l : List Nat) (v lv : Value) (w : World) (hv : RowAt w 1 v b.length (ucs b)) (hl : RowAt w 1 lv l.length (ncs l)) (hb : b.length ≤ 90000) (hll : l.length ≤ 10) (hlt : ∀ x ∈ l, x < 18446744073709551616) :
    Calls Tryd.prog 26 #[v, lv] w (RetG w [] fun v' gs => IsRow 5 1 v' (joinB b l).length (ucs (joinB b l)) gs) := by
  obtain ⟨p, c, rfl, hc, hm⟩ := hv.form
  obtain ⟨q, d, rfl, hd, hmd⟩ := hl.form
  simp only [maxLen] at hm hmd
  refine enter (args := [_, _]) _ [] [] Tryd.func26 rfl Tryd.ntmps26 rfl (by simp) .nil ?_
  (refine CW.seq ?_; refine CW.region ?_; apply LW.v0; rfl; rfl; apply ValP.assign; rfl; apply LW.nil; refine thenN ?_; refine CW.seq ?_; refine CW.region ?_; apply LW.v0; rfl; rfl; apply ValP.move; rfl)
  refine LW.callR rfl rfl inferInstance (by (apply ArgsOk.cons; rfl; exact ArgsOk.nil)) (fun w hst => Clone_calls b _ w (hv.st hst) (by omega)) ?_
  intro bv gs hrow
  (apply LW.v0; rfl; rfl; apply ValP.assign; rfl; apply LW.nil; refine thenN ?_; refine CW.seq ?_; refine CW.seq ?_; refine CW.region ?_; apply LW.v0; rfl; rfl; apply ValP.move; rfl; apply LW.v0; rfl; rfl; apply ValP.lenR; rfl; infer_instance; rfl; apply LW.v0; rfl; rfl; apply ValP.move; rfl; apply LW.nil; refine thenN ?_; refine CW.block ?_)
  refine CW.loop (fun x : JX => ([(11, .int .i64 (x.k : Int)), (10, .int .i64 (l.length : Int)), (9, .slice q l.length d), (0, x.v)], x.seg ++ []))
    (fun x => x.k ≤ l.length ∧ IsRow 5 1 x.v (joinB b (l.take x.k)).length (ucs (joinB b (l.take x.k))) x.seg) (fun x => l.length - x.k) ⟨0, bv, gs⟩
    ⟨Nat.zero_le _, by simpa [joinB] using hrow⟩ ⟨rfl, rfl, rfl, rfl, trivial⟩ (List.Sublist.refl _) ?_
  rintro ⟨k, v, seg⟩ ⟨hk, hR⟩
  dsimp only at hk hR ⊢
  have hjl := joinB_len b (l.take k)
  rw [List.length_take] at hjl
  obtain ⟨pv, cv, rfl⟩ := hR.form
  rcases Nat.lt_or_ge k l.length with hlt1 | hge
  · obtain ⟨bt, offt, ct', cst, Et, frt, heqt, hbt', hxt⟩ := hl.pos (by omega)
    cases heqt
    have hrdt : Rd Tryd.prog 23 (.cells cst Et frt) (offt + k * 1) (.int .u64 ((l[k] : Nat) : Int)) := Rd.elem1 hxt (ncs_one l) (List.getElem?_eq_getElem hlt1) rfl
    have hx := hlt _ (List.getElem_mem hlt1)
    have hsn := joinB_snoc b l k hlt1
    have h64 : (18446744073709551616 : Nat) < M256 := by decide
    obtain ⟨n, hn⟩ : ∃ n, l[k] = n := ⟨_, rfl⟩
    rw [hn] at hrdt hx hsn
    have hOf := Of_calls n hx
    (refine CW.seq ?_; refine CW.region ?_; apply LW.v0; rfl; rfl; apply ValP.lssT; rfl; rfl; omega; apply LW.nil; refine thenN ?_; refine CW.seq ?_; apply CW.condT; rfl; (with_reducible rfl); refine CW.skip ?_; refine thenN ?_; refine CW.seq ?_; refine CW.block ?_; refine CW.seq ?_; refine CW.region ?_; apply LW.v0; rfl; rfl; apply ValP.indexAddrS; rfl; rfl; rfl; omega; apply LW.load; rfl; rfl; exact Known.ext (by assumption) (by simp); assumption; apply LW.v0; rfl; rfl; apply ValP.assign; rfl; apply LW.nil; refine thenN ?_; refine CW.region ?_; apply LW.v0; rfl; rfl; apply ValP.move; rfl; apply LW.v0; rfl; rfl; apply ValP.move; rfl; apply LW.callE; rfl; rfl; infer_instance; apply ArgsOk.cons; rfl; exact ArgsOk.nil; intro w _; exact hOf w)
    refine LW.callR rfl rfl inferInstance (by (apply ArgsOk.cons; rfl; exact ArgsOk.nil)) (fun w hst => Bytes_calls n (by omega) w) ?_
    intro nv gs2 hrow2
    refine LW.appendAny (n := (joinB b (l.take k)).length) (m := 32) (news := ucs (beb 32 n)) rfl rfl inferInstance inferInstance inferInstance rfl rfl rfl (by (apply AtSeg.app; exact AtSeg.head)) hR (fun w hs => hrow2.us (st_us hs (by (exact List.sublist_append_left _ _))) (List.Sublist.refl _)) (ucs_cells _) (by simp only [maxLen]; omega) (by omega) ?_
    intro vy segy hrowy
    refine ⟨_, (by (apply AtSeg.app; exact AtSeg.head)), ?_⟩
    rw [← ucs_app, ← hsn] at hrowy
    (apply LW.v0; rfl; rfl; apply ValP.assign; rfl; apply LW.nil; refine blkN ?_; refine thenN ?_; refine CW.region ?_; apply LW.v0; rfl; rfl; apply ValP.addZL; rfl; rfl; decide; omega; apply LW.v0; rfl; rfl; apply ValP.move; rfl; apply LW.nil)
    apply thenX
    refine ⟨rfl, ⟨k + 1, vy, segy⟩, ⟨hlt1, ?_⟩, by show l.length - (k + 1) < l.length - k; omega, ⟨rfl, rfl, rfl, rfl, trivial⟩, ?_⟩
    · have : (joinB b (l.take (k + 1))).length = (joinB b (l.take k)).length + 32 := by rw [hsn, List.length_append, beb_len]
      dsimp only
      rw [this]
      exact hrowy
    · dsimp only
      exact List.sublist_append_of_sublist_right (List.Sublist.refl _)
  · obtain rfl : k = l.length := by omega
    rw [List.take_length] at hR ⊢
    (refine CW.seq ?_; refine CW.region ?_; apply LW.v0; rfl; rfl; apply ValP.lssF; rfl; rfl; omega; apply LW.nil; refine thenN ?_; refine CW.seq ?_; apply CW.condF; rfl; (with_reducible rfl); refine CW.exit ?_; refine thenE ?_; refine thenE ?_; refine blkE rfl ?_; refine thenN ?_; refine CW.seq ?_; refine CW.region ?_; apply LW.v0; rfl; rfl; apply ValP.move; rfl; apply LW.v0; rfl; rfl; apply ValP.assign; rfl; apply LW.nil; refine thenN ?_; refine CW.ret ?_)
    refine fin (vs := [_]) seg (.inl rfl) rfl rfl (by (apply ResL.cons; exact Res.tmp rfl; exact ResL.nil)) (List.sublist_append_left _ _) hR
theorem cutSig_at {w : World} {u : OpV} (h : OpAt w u) : OpAt w { u with gv := .slice none 0 0, gb := [] } := ⟨⟨h.num.sd, h.num.no, h.num.vg, h.num.cg, h.num.pg, h.num.mf, h.num.mp, h.num.py, h.num.pv, h.num.pp⟩, h.i, h.c, h.d, RowAt.nil⟩
theorem cutSig_ok {u : OpV} (h : okU u) : okU { u with gv := .slice none 0 0, gb := [] } := by
  unfold okU at h ⊢
  obtain ⟨h1, h2, ⟨h3, h4, h5, h6⟩, h7, h8⟩ := h
  exact ⟨h1, h2, ⟨h3, h4, h5, Nat.zero_le _⟩, h7, h8⟩
/-- An operation without what signs it. -/
abbrev noSig (u : OpV) : OpV := { u with gv := .slice none 0 0, gb := [] }
def hashU (u : OpV) (chain : Nat) : Nat := digW (joinB (encB (noSig u)) [1, chain])
theorem enc_len_le {u : OpV} (h : okU u) : (encB u).length ≤ 5000 := by
  have h2 := right_small (opL_chk h)
  have h3 := beh_len h2 (opL u).length
  have h4 := layF_len (opL u)
  rw [atF, opL_len] at h4
  rw [opL_len] at h3
  unfold encB
  omega
theorem Hash_u_calls (u : OpV) (chain : Nat) (w : World) (hu : OpAt w u) (hc : chain < 18446744073709551616) (hT : SK.TurnAt w) (hN : SK.NumAt w) : Calls Tryd.prog 12 #[.agg (opa u), .int .u64 (chain : Int)] w (Ret w (.tuple #[wv (if okU u then hashU u chain else 0), .int .i64 (if okU u then 0 else 280)])) := by
  have hslu := hu.sl
  have hCk0 : ∀ w' {fs}, St w [] fs w' → Calls Tryd.prog 8 #[.agg (opa u)] w' (Ret w' (.int .i64 (if okU u then 0 else 280))) := fun w' fs hst => Check_u_calls u w' (hu.st hst)
  by_cases ho : okU u
  · have hCk := hCk0
    rw [if_pos ho] at hCk
    rw [if_pos ho, if_pos ho]
    have ho2 := cutSig_ok ho
    have hl := enc_len_le ho2
    refine enter (args := [_, _]) _ [] [] Tryd.func12 rfl Tryd.ntmps12 rfl (by simp) .nil ?_
    (refine CW.seq ?_; refine CW.region ?_; apply LW.boxA; rfl; rfl; intro _; apply LW.allocW; rfl; intro _; apply LW.v0; rfl; rfl; apply ValP.assign; rfl; apply LW.nil; refine thenN ?_; refine CW.seq ?_; refine CW.seq ?_; refine CW.region ?_; apply LW.load; rfl; rfl; apply Known.at; apply FsAt.tail; apply FsAt.head; exact op_rdW; apply LW.callE; rfl; rfl; infer_instance; apply ArgsOk.cons; rfl; exact ArgsOk.nil; intro w _; exact hCk w (by assumption); apply LW.v0; rfl; rfl; apply ValP.assign; rfl; apply LW.nil; refine thenN ?_; refine CW.seq ?_; refine CW.region ?_; apply LW.v0; rfl; rfl; apply ValP.move; rfl; apply LW.v0; rfl; rfl; apply ValP.neF; rfl; rfl; omega; apply LW.nil; refine thenN ?_; apply CW.condF; rfl; (with_reducible rfl); refine CW.skip ?_; refine thenN ?_; refine CW.seq ?_; refine CW.region ?_; apply LW.v0; rfl; rfl; apply ValP.fieldAddr; rfl; rfl; apply LW.store; rfl; rfl; apply SetAt.tail; apply SetAt.head; exact op_wr16; apply LW.nil; refine thenN ?_; refine CW.seq ?_; refine CW.region ?_; apply LW.load; rfl; rfl; apply Known.at; apply FsAt.tail; apply FsAt.head; exact op_rdW)
    refine LW.callR rfl rfl inferInstance (by (apply ArgsOk.cons; rfl; exact ArgsOk.nil)) (fun w hst => encode_calls (noSig u) w (cutSig_at (hu.st hst)) ho2) ?_
    rintro v5 gs5 ⟨bv, rfl, hrow⟩
    have hhash : hashU u chain = digW (joinB (encB (noSig u)) [1, chain]) := rfl
    obtain ⟨X, hX⟩ : ∃ X, encB (noSig u) = X := ⟨_, rfl⟩
    rw [hX] at hrow hl hhash
    rw [hhash]
    (apply LW.v0; rfl; rfl; apply ValP.move; rfl; apply LW.v0; rfl; rfl; apply ValP.extractN; rfl; rfl; apply LW.v0; rfl; rfl; apply ValP.extractN; rfl; rfl; apply LW.v0; rfl; rfl; apply ValP.assign; rfl; apply LW.v0; rfl; rfl; apply ValP.assign; rfl; apply LW.nil; refine thenN ?_; refine CW.seq ?_; refine CW.seq ?_; refine CW.region ?_; apply LW.v0; rfl; rfl; apply ValP.move; rfl; apply LW.v0; rfl; rfl; apply ValP.neF; rfl; rfl; omega; apply LW.nil; refine thenN ?_; apply CW.condF; rfl; (with_reducible rfl); refine CW.skip ?_; refine thenN ?_; refine CW.seq ?_; refine CW.region ?_; apply LW.v0; rfl; rfl; apply ValP.move; rfl; apply LW.v0; rfl; rfl; apply ValP.move; rfl)
    refine LW.n0 rfl rfl (NewP.buildSN (vs := [(0, .int .u64 1), (1, .int .u64 (chain : Int))]) (c := #[.int .u64 1, .int .u64 (chain : Int)]) inferInstance inferInstance (by (apply PartsOk.cons; rfl; apply PartsOk.cons; rfl; exact PartsOk.nil)) rfl rfl (by kernel_rfl) (by kernel_rfl)) fun g => ?_
    refine LW.callR rfl rfl inferInstance (by (apply ArgsOk.cons; rfl; apply ArgsOk.cons; rfl; exact ArgsOk.nil)) (fun w hst => joined_calls X [1, chain] _ _ w (hrow.us (st_us hst (by (apply List.Sublist.cons; exact List.sublist_append_left _ _))) (List.Sublist.refl _)) (row_cells (hst.own (g, _) (List.Mem.head _)).2 rfl rfl (by simp [maxLen])) (by omega) (by simp) (by intro x hx; simp at hx; omega)) ?_
    intro jv gsJ hrowJ
    have hJl := joinB_len X [1, chain]
    obtain ⟨J, hJ⟩ : ∃ J, joinB X [1, chain] = J := ⟨_, rfl⟩
    rw [hJ] at hrowJ hJl ⊢
    have hDg : ∀ w' {fs}, St w [] fs w' → RowAt w' 1 jv J.length (ucs J) → Calls Tryd.prog 25 #[jv] w' (Ret w' (wv (digW J))) := fun w' fs hst h => Digest_calls J jv w' h (by rw [hJl]; simp; omega) (hT.st hst) (hN.st hst)
    (apply LW.callE; rfl; rfl; infer_instance; apply ArgsOk.cons; rfl; exact ArgsOk.nil; intro w _; rename_i hst; (exact hDg w hst (hrowJ.us (st_us hst (by (repeat (first | exact List.Sublist.refl _ | exact List.sublist_append_left _ _ | apply List.Sublist.cons | apply List.sublist_append_of_sublist_right)))) (List.Sublist.refl _))); apply LW.store; rfl; rfl; apply SetAt.app; apply SetAt.tail; apply SetAt.app; apply SetAt.head; apply Wr.whole; rfl; rfl; rfl; apply LW.v0; rfl; rfl; apply ValP.assign; rfl; apply LW.nil; refine thenN ?_; refine CW.ret ?_)
    (apply finR; exact .inl rfl; rfl; rfl; rfl; apply ResL.cons; apply Res.cell; rfl; apply Known.at; apply FsAt.app; apply FsAt.tail; apply FsAt.app; apply FsAt.head; exact Rd.whole rfl; apply ResL.cons; exact Res.tmp rfl; exact ResL.nil)
    rfl
  · have hCk := hCk0
    rw [if_neg ho] at hCk
    rw [if_neg ho, if_neg ho]
    refine enter (args := [_, _]) _ [] [] Tryd.func12 rfl Tryd.ntmps12 rfl (by simp) .nil ?_
    (refine CW.seq ?_; refine CW.region ?_; apply LW.boxA; rfl; rfl; intro _; apply LW.allocW; rfl; intro _; apply LW.v0; rfl; rfl; apply ValP.assign; rfl; apply LW.nil; refine thenN ?_; refine CW.seq ?_; refine CW.seq ?_; refine CW.region ?_; apply LW.load; rfl; rfl; apply Known.at; apply FsAt.tail; apply FsAt.head; exact op_rdW; apply LW.callE; rfl; rfl; infer_instance; apply ArgsOk.cons; rfl; exact ArgsOk.nil; intro w _; exact hCk w (by assumption); apply LW.v0; rfl; rfl; apply ValP.assign; rfl; apply LW.nil; refine thenN ?_; refine CW.seq ?_; refine CW.region ?_; apply LW.v0; rfl; rfl; apply ValP.move; rfl; apply LW.v0; rfl; rfl; apply ValP.neT; rfl; rfl; omega; apply LW.nil; refine thenN ?_; apply CW.condT; rfl; (with_reducible rfl); refine CW.seq ?_; refine CW.region ?_; apply LW.v0; rfl; rfl; exact ValP.buildW0; apply LW.v0; rfl; rfl; apply ValP.move; rfl; apply LW.store; rfl; rfl; apply SetAt.head; apply Wr.whole; rfl; rfl; rfl; apply LW.v0; rfl; rfl; apply ValP.assign; rfl; apply LW.nil; refine thenN ?_; refine CW.ret ?_; refine thenR ?_)
    (apply finR; exact .inl rfl; rfl; rfl; rfl; apply ResL.cons; apply Res.cell; rfl; apply Known.at; apply FsAt.head; exact Rd.whole rfl; apply ResL.cons; exact Res.tmp rfl; exact ResL.nil)
    rfl
end Go.Proofs.YtobkhnmglbfheaaDoor

/-
  A SMALL LOGIC OVER THE KIT's WALK, PART MQ: calls in a region that draws its order, which are handed rows of ours, or structs that hold such.
  Conditions: none; over any program.
-/
namespace Go.Proofs.YtobkhnmglbfheaaDoor.SL
set_option linter.unusedVariables false
set_option linter.unusedSimpArgs false
open Go Go.RowKit
/-- The same facts, with more readers told. -/
inductive More : Ts → Ts → Prop
  | nil : More [] []
  | cons {b : Nat} {o : Obj} {ws rs rs' : List Nat} {r r' : Ts} (h : ∀ j ∈ rs, j ∈ rs') (hr : More r r') : More ((b, o, ws, rs) :: r) ((b, o, ws, rs') :: r')
theorem More.refl : ∀ (ts : Ts), More ts ts
  | [] => .nil
  | (_, _, _, _) :: r => .cons (fun _ h => h) (More.refl r)
theorem More.trans {a b c : Ts} (h : More a b) : More b c → More a c := by
  intro h2
  induction h generalizing c with
  | nil => exact h2
  | cons h _ ih =>
    cases h2 with
    | cons h' hr' => exact .cons (fun j hj => h' j (h j hj)) (ih hr')
theorem More.app {a b c d : Ts} (h : More a b) (h' : More c d) : More (a ++ c) (b ++ d) := by
  induction h with
  | nil => exact h'
  | cons h _ ih => exact .cons h ih
theorem More.tag (ws rs rs' : List Nat) (h : ∀ j ∈ rs, j ∈ rs') : ∀ (gs : Fs), More (tsTag ws rs gs) (tsTag ws rs' gs)
  | [] => .nil
  | (_, _) :: r => .cons h (More.tag ws rs rs' h r)
theorem More.mem {a b : Ts} (h : More a b) : ∀ p ∈ b, ∃ q ∈ a, q.1 = p.1 ∧ q.2.1 = p.2.1 ∧ q.2.2.1 = p.2.2.1 ∧ ∀ j ∈ q.2.2.2, j ∈ p.2.2.2 := by
  induction h with
  | nil => intro p hp; cases hp
  | cons h _ ih =>
    intro p hp
    rcases List.mem_cons.1 hp with rfl | hp
    · exact ⟨_, List.mem_cons_self, rfl, rfl, rfl, h⟩
    · obtain ⟨q, hq, h2⟩ := ih p hp
      exact ⟨q, List.mem_cons_of_mem _ hq, h2⟩
theorem More.fsts {a b : Ts} (h : More a b) : b.map (·.1) = a.map (·.1) := by
  induction h with
  | nil => rfl
  | cons _ _ ih => simp [ih]
theorem Rel.more {B : Nat} {ts ts' : Ts} {φ : Facts} {tw tr : Tag} (hr : Rel B ts φ tw tr) (h : More ts ts') : Rel B ts' φ tw tr := by
  refine ⟨fun p hp => ?_, fun p hp j hj => ?_, fun p hp j hj => ?_, hr.old, hr.oldr, pairwise_map1 h.fsts hr.nd⟩
  · obtain ⟨q, hq, e1, e2, _, _⟩ := h.mem p hp; rw [← e1, ← e2]; exact hr.fsome q hq
  · obtain ⟨q, hq, e1, _, e3, _⟩ := h.mem p hp; rw [← e3]; exact hr.ftw q hq j (by rw [e1]; exact hj)
  · obtain ⟨q, hq, e1, _, _, e4⟩ := h.mem p hp; exact e4 j (hr.ftr q hq j (by rw [e1]; exact hj))
theorem DW.more {C : Cu} {ops : Array Oper} {μ : Mu} {Q : Post} {tl l : List Oper} {k : Nat} {e : Env} {ts ts' : Ts} (hm : More ts ts') (h : DW C ops μ Q tl l k e ts') : DW C ops μ Q tl l k e ts := fun a φ tw tr ha hrel hinv => h a φ tw tr ha (hrel.more hm) hinv
section
variable {C : Cu} {ops : Array Oper} {k : Nat}
theorem TRead.less {ts1 ts2 : Ts} {b : Nat} {o : Obj} (h : TRead ops k ts1 b o ts2) : ∀ {ts : Ts}, More ts ts1 → ∃ ts2', TRead ops k ts b o ts2' ∧ More ts2' ts2 := by
  induction h with
  | head hw =>
    intro ts hm
    cases hm with
    | cons hj hr => exact ⟨_, .head hw, .cons (fun j h => by
        rcases List.mem_cons.1 h with rfl | h
        · exact List.mem_cons_self
        · exact List.mem_cons_of_mem _ (hj j h)) hr⟩
  | tail _ ih =>
    intro ts hm
    cases hm with
    | cons hj hr =>
      obtain ⟨t, h1, h2⟩ := ih hr
      exact ⟨_, .tail h1, .cons hj h2⟩
theorem ReadAll.less {bs : List Nat} {ts1 ts2 : Ts} {us : Fs} (h : ReadAll C ops k bs ts1 us ts2) : ∀ {ts : Ts}, More ts ts1 → ∃ ts2', ReadAll C ops k bs ts us ts2' ∧ More ts2' ts2 := by
  induction h with
  | nil => intro ts hm; exact ⟨_, .nil, hm⟩
  | own h _ ih =>
    intro ts hm
    obtain ⟨t, h1, h2⟩ := h.less hm
    obtain ⟨t2, h3, h4⟩ := ih h2
    exact ⟨t2, .own h1 h3, h4⟩
  | ext h hS _ ih =>
    intro ts hm
    obtain ⟨t2, h3, h4⟩ := ih hm
    exact ⟨t2, .ext h hS h3, h4⟩
/-- Where a row's facts lie; they are marked as read. -/
inductive TSeg (ops : Array Oper) (k : Nat) (seg : Fs) : Ts → Ts → Prop
  | tag {ws rs : List Nat} {r : Ts} (h : ancB ops k ws = true) : TSeg ops k seg (tsTag ws rs seg ++ r) (tsTag ws (k :: rs) seg ++ r)
  | old {r : Ts} : TSeg ops k seg (tsOf seg ++ r) (tsTag [] [k] seg ++ r)
  | new {j : Nat} {r : Ts} (h : ancB ops k [j] = true) : TSeg ops k seg (tsNew j seg ++ r) (tsTag [j] [k] seg ++ r)
  | one {b : Nat} {o : Obj} {ws rs : List Nat} {r : Ts} (hs : seg = [(b, o)]) (h : ancB ops k ws = true) : TSeg ops k seg ((b, o, ws, rs) :: r) ((b, o, ws, k :: rs) :: r)
  | cons {p : Nat × Obj × List Nat × List Nat} {r r' : Ts} (h : TSeg ops k seg r r') : TSeg ops k seg (p :: r) (p :: r')
  | app {l r r' : Ts} (h : TSeg ops k seg r r') : TSeg ops k seg (l ++ r) (l ++ r')
theorem TSeg.more {seg : Fs} {ts ts' : Ts} (h : TSeg ops k seg ts ts') : More ts ts' := by
  induction h with
  | tag _ => exact .app (.tag _ _ _ (fun j h => List.mem_cons_of_mem _ h) _) (.refl _)
  | old => exact .app (.tag [] [] [k] (fun j h => by cases h) _) (.refl _)
  | new _ => exact .app (.tag _ [] [k] (fun j h => by cases h) _) (.refl _)
  | one _ _ => exact .cons (fun j h => List.mem_cons_of_mem _ h) (.refl _)
  | cons _ ih => exact More.app (.refl [_]) ih
  | app _ ih => exact .app (.refl _) ih
theorem TRead.app' {l : Ts} {ts ts' : Ts} {b : Nat} {o : Obj} (h : TRead ops k ts b o ts') : TRead ops k (l ++ ts) b o (l ++ ts') := by
  induction l with
  | nil => exact h
  | cons p l ih => exact .tail ih
theorem TSeg.read {b : Nat} {o : Obj} {ts ts' : Ts} {seg : Fs} (h : TSeg ops k seg ts ts') (hs : seg = [(b, o)]) : TRead ops k ts b o ts' := by
  induction h with
  | tag h => subst hs; exact .head h
  | old => subst hs; exact .head rfl
  | new h => subst hs; exact .head h
  | one hs' h =>
    rw [hs] at hs'
    cases hs'
    exact .head h
  | cons _ ih => exact .tail ih
  | app _ ih => exact ih.app'
/-- What a call's operands name is looked at; K: what is known then. -/
inductive RdR (C : Cu) (ops : Array Oper) (k : Nat) : List Value → Ts → (World → Prop) → Ts → Prop
  | nil {ts : Ts} : RdR C ops k [] ts (fun _ => True) ts
  | plain {v : Value} {vs : List Value} {ts ts2 : Ts} {K : World → Prop} (hb : blocksN 4 v = []) (h : RdR C ops k vs ts K ts2) : RdR C ops k (v :: vs) ts K ts2
  | flat {v : Value} {us vs : List Value} {ts ts2 : Ts} {K : World → Prop} (hb : blocksN 4 v = us.flatMap (blocksN 4)) (h : RdR C ops k (us ++ vs) ts K ts2) : RdR C ops k (v :: vs) ts K ts2
  | row {E sz n : Nat} {v : Value} {xs : List Value} {seg : Fs} {vs : List Value} {ts ts1 ts2 : Ts} {K : World → Prop} (h : IsRow E sz v n xs seg) (hs : TSeg ops k seg ts ts1) (hr : RdR C ops k vs ts1 K ts2) : RdR C ops k (v :: vs) ts (fun w => RowAt w sz v n xs ∧ K w) ts2
  | ext {v : Value} {n sz : Nat} {xs : List Value} {vs : List Value} {ts ts2 : Ts} {K : World → Prop} (h : RowAt C.w0 sz v n xs) (hS : C.S = []) (hs : RdR C ops k vs ts K ts2) : RdR C ops k (v :: vs) ts (fun w => RowAt w sz v n xs ∧ K w) ts2
theorem RdR.all {vs : List Value} {ts ts' : Ts} {K : World → Prop} (h : RdR C ops k vs ts K ts') : ∃ us ts3, ReadAll C ops k (vs.flatMap (blocksN 4)) ts us ts3 ∧ More ts3 ts' ∧ ∀ w, Bel C.w0.heap.size C.S C.w0 w → (∀ p ∈ us, w.heap[p.1]? = some p.2) → K w := by
  induction h with
  | nil => exact ⟨[], _, .nil, .refl _, fun _ _ _ => trivial⟩
  | plain hb _ ih =>
    obtain ⟨us, t, h1, h2, h3⟩ := ih
    exact ⟨us, t, by rw [List.flatMap_cons, hb]; exact h1, h2, h3⟩
  | flat hb _ ih =>
    obtain ⟨us, t, h1, h2, h3⟩ := ih
    exact ⟨us, t, by rw [List.flatMap_cons, hb, ← List.flatMap_append]; exact h1, h2, h3⟩
  | @row E sz n v xs seg vs ts ts1 ts2 K h hs hr ih =>
    obtain ⟨us, t, h1, h2, h3⟩ := ih
    have skip : blocksN 4 v = [] → (∀ w, RowAt w sz v n xs) → ∃ us ts3, ReadAll C ops k ((v :: vs).flatMap (blocksN 4)) ts us ts3 ∧ More ts3 ts2 ∧ ∀ w, Bel C.w0.heap.size C.S C.w0 w → (∀ p ∈ us, w.heap[p.1]? = some p.2) → RowAt w sz v n xs ∧ K w := fun e hw => by
      obtain ⟨t2, h4, h5⟩ := h1.less hs.more
      exact ⟨us, t2, by rw [List.flatMap_cons, e]; exact h4, h5.trans h2, fun w hb hu => ⟨hw w, h3 w hb hu⟩⟩
    cases h with
    | nil => exact skip rfl fun _ => .nil
    | @own g _ cap cur _ hn hm hc ht hl =>
      rcases Nat.eq_zero_or_pos cap with hc0 | hc0
      · subst hc0
        obtain rfl : n = 0 := by omega
        exact skip (by simp [blocksN]) fun w => ⟨⟨_, _, rfl, hn, hm⟩, hl, fun h => absurd h (by omega), fun p k d hv => by cases hv; exact .inr (.inl rfl)⟩
      · refine ⟨(g, .cells cur E (0, 0)) :: us, t, ?_, h2, fun w hb hu => ⟨?_, h3 w hb fun p hp => hu p (List.mem_cons_of_mem _ hp)⟩⟩
        · rw [List.flatMap_cons, show blocksN 4 (.slice (some ⟨g, 0, .none⟩) n cap) = [g] by simp [blocksN, Nat.ne_of_gt hc0]]
          exact .own (hs.read rfl) h1
        · exact (IsRow.own hn hm hc ht hl).us (us := [(g, .cells cur E (0, 0))]) (fun p hp => hu p (by rw [List.mem_singleton.1 hp]; exact List.mem_cons_self)) (List.Sublist.refl _)
  | @ext v n sz xs vs ts ts2 K h hS hs ih =>
    obtain ⟨us, t, h1, h2, h3⟩ := ih
    have hw : ∀ w, Bel C.w0.heap.size C.S C.w0 w → RowAt w sz v n xs := fun w hb => by rw [hS] at hb; exact h.bel hb
    obtain ⟨p, c, rfl, _, _⟩ := h.form
    rcases h.lies _ _ _ rfl with rfl | rfl | ⟨b, off, o, rfl, hb⟩
    · exact ⟨us, t, h1, h2, fun w hb hu => ⟨hw w hb, h3 w hb hu⟩⟩
    · exact ⟨us, t, by rw [List.flatMap_cons, show blocksN 4 (.slice p n 0) = [] by cases p <;> simp [blocksN]]; exact h1, h2, fun w hb hu => ⟨hw w hb, h3 w hb hu⟩⟩
    · rcases Nat.eq_zero_or_pos c with hc | hc
      · subst hc
        exact ⟨us, t, by rw [List.flatMap_cons, show blocksN 4 (.slice (some ⟨b, off, .none⟩) n 0) = [] by simp [blocksN]]; exact h1, h2, fun w hb hu => ⟨hw w hb, h3 w hb hu⟩⟩
      · refine ⟨(b, o) :: us, t, ?_, h2, fun w hb hu => ⟨hw w hb, h3 w hb fun p hp => hu p (List.mem_cons_of_mem _ hp)⟩⟩
        rw [List.flatMap_cons, show blocksN 4 (.slice (some ⟨b, off, .none⟩) n c) = [b] by simp [blocksN, Nat.ne_of_gt hc]]
        exact .ext hb (by rw [hS]; simp) h1
end
section dw
variable {C : Cu} {ops : Array Oper} {Q : Post} {tl rest : List Oper} {e : Env} {ts : Ts} {μ : Mu} {k d : Nat} {op : Op} {t : TypeId} {pos : String} {af : Array Edge} {g : Option (Nat × Bool)}
theorem More.new (j : Nat) (gs : Fs) {a b : Ts} (h : More a b) : More (tsNew j gs ++ a) (tsNew j gs ++ b) := .app (.refl _) h
theorem DW.manyK {fo : Operand} {args : Array Operand} {tys : Array TypeId} {f : FuncId} {vs : List Value} {M : Rel1} {K : World → Prop} {ts' : Ts} (hk : ops[k]? = some ⟨some d, .call { callee := .value fo, args := args, argTypes := tys }, t, pos, af, g⟩) (hm : μ k = some (cst M, false))
    (hd : Nat.blt d C.N = true) (hg : WantT ops e g) (hf : e.ev fo = some (.func (.func f) #[] #[])) (hF : FnI C.P f) (ha : ArgsOk e args.toList vs) (hr : RdR C ops k vs ts K ts')
    (hc : ∀ w, Bel C.w0.heap.size C.S C.w0 w → K w → Calls C.P f vs.toArray w (RetG w [] M)) (kk : ∀ v gs, M v gs → DW C ops μ Q tl rest (k + 1) ((d, v) :: e) (tsNew k gs ++ ts')) :
    DW C ops μ Q tl (⟨some d, .call { callee := .value fo, args := args, argTypes := tys }, t, pos, af, g⟩ :: rest) k e ts := by
  obtain ⟨us2, t3, h1, h2, h3⟩ := hr.all
  exact DW.manyE hk hm hd hg hf hF ha (show _ = vs.flatMap (blocksN 4) from rfl) h1 (fun w hb hu => hc w hb (h3 w hb hu)) (fun v gs hM => (kk v gs hM).more (.new k gs h2))
end dw
end Go.Proofs.YtobkhnmglbfheaaDoor.SL

/-
  Operations with bytes of their own, told row by row; calls in drawn regions that are handed operations.
  Conditions: none.
-/
namespace Go.Proofs.YtobkhnmglbfheaaDoor
open Go Go.RowKit SL
set_option maxRecDepth 8000
set_option maxHeartbeats 4000000
set_option linter.unusedSimpArgs false
set_option linter.unusedVariables false
attribute [local irreducible] SL.CW SL.LW SL.DW Calls SL.Ret SL.RetG SL.beginQ SL.roundQ SL.rangeQ SL.inQ SL.RW SL.AnyW SL.thenQ SL.thenC SL.thenW SL.blkQ SL.finQ SL.ValP SL.NewP SL.SetP SL.CallP SL.Rd SL.Wr SL.Known
/-- An operation whose bytes lie in rows of ours. -/
structure OpIn (u : OpV) (g1 g2 g3 g4 : Fs) : Prop where
  num : OpNum u
  i : IsRow 5 1 u.iv u.ib.length (ucs u.ib) g1
  c : IsRow 5 1 u.cv u.cb.length (ucs u.cb) g2
  d : IsRow 5 1 u.dv u.db.length (ucs u.db) g3
  g : IsRow 5 1 u.gv u.gb.length (ucs u.gb) g4
theorem OpIn.gs {u : OpV} {g1 g2 g3 g4 : Fs} (h : OpIn u g1 g2 g3 g4) : OpGs u (g4 ++ (g3 ++ (g2 ++ g1))) := fun w hw =>
  ⟨h.num, h.i.us (fun q hq => hw q (by simp [hq])) (List.Sublist.refl _), h.c.us (fun q hq => hw q (by simp [hq])) (List.Sublist.refl _), h.d.us (fun q hq => hw q (by simp [hq])) (List.Sublist.refl _), h.g.us (fun q hq => hw q (by simp [hq])) (List.Sublist.refl _)⟩
/-- What few hands back, told row by row. -/
def fewO3 (u : OpV) (v : Value) (gs : Fs) : Prop := ∃ a b c d g1 g2 g3 g4, v = .agg (opa (cutO u a b c d)) ∧ gs = g4 ++ (g3 ++ (g2 ++ g1)) ∧ OpIn (cutO u a b c d) g1 g2 g3 g4 ∧ OpSl (cutO u a b c d)
theorem few_u_calls3 (u : OpV) (w : World) (hu : OpAt w u) : Calls Tryd.prog 6 #[.agg (opa u)] w (RetG w [] (fewO3 u)) := by
  have hi := hu.i
  have hc := hu.c
  have hd := hu.d
  have hg := hu.g
  refine enter (args := [_]) _ [] [] Tryd.func6 rfl Tryd.ntmps6 rfl (by simp) .nil ?_
  (refine CW.seq ?_; refine CW.region ?_; apply LW.boxA; rfl; rfl; intro _; apply LW.allocA; rfl; intro _; apply LW.nil; refine thenN ?_; refine CW.seq ?_)
  rename_i b1 b2
  apply CW.pre
  (refine AnyW.anyM [(2, ownM u.ib), (5, ownM u.cb), (8, ownM u.db), (11, ownM u.gb)] 13 mixed (by decide +kernel) ?_)
  ((try simp only [tsOf_cons, tsOf_nil, tsOf_app]); apply DW.v0; rfl; rfl; rfl; exact WantT.none; rfl; apply ValP.fieldAddr; rfl; rfl; apply DW.loadO; rfl; rfl; rfl; exact WantT.none; rfl; apply TRead.tail; apply TRead.head; exact ancB_nil; exact op_rd5)
  (apply DW.manyV; rfl; rfl; rfl; exact WantT.none; rfl; infer_instance; apply ArgsOk.cons; rfl; exact ArgsOk.nil; apply RdV.ext; assumption; rfl; exact RdV.nil; intro w _ _)
  exact own_calls _ _ w (hi.bel (by assumption))
  intro v1 g1 h1
  ((try simp only [tsOf_cons, tsOf_nil, tsOf_app]); apply DW.v0; rfl; rfl; rfl; exact WantT.none; rfl; apply ValP.fieldAddr; rfl; rfl; apply DW.loadO; rfl; rfl; rfl; exact WantT.none; rfl; apply TRead.app; apply TRead.tail; apply TRead.head; exact ancB_nil; exact op_rd6)
  (apply DW.manyV; rfl; rfl; rfl; exact WantT.none; rfl; infer_instance; apply ArgsOk.cons; rfl; exact ArgsOk.nil; apply RdV.ext; assumption; rfl; exact RdV.nil; intro w _ _)
  exact own_calls _ _ w (hc.bel (by assumption))
  intro v2 g2 h2
  ((try simp only [tsOf_cons, tsOf_nil, tsOf_app]); apply DW.v0; rfl; rfl; rfl; exact WantT.none; rfl; apply ValP.fieldAddr; rfl; rfl; apply DW.loadO; rfl; rfl; rfl; exact WantT.none; rfl; apply TRead.app; apply TRead.app; apply TRead.tail; apply TRead.head; exact ancB_nil; exact op_rd15)
  (apply DW.manyV; rfl; rfl; rfl; exact WantT.none; rfl; infer_instance; apply ArgsOk.cons; rfl; exact ArgsOk.nil; apply RdV.ext; assumption; rfl; exact RdV.nil; intro w _ _)
  exact own_calls _ _ w (hd.bel (by assumption))
  intro v3 g3 h3
  ((try simp only [tsOf_cons, tsOf_nil, tsOf_app]); apply DW.v0; rfl; rfl; rfl; exact WantT.none; rfl; apply ValP.fieldAddr; rfl; rfl; apply DW.loadO; rfl; rfl; rfl; exact WantT.none; rfl; apply TRead.app; apply TRead.app; apply TRead.app; apply TRead.tail; apply TRead.head; exact ancB_nil; exact op_rd16)
  (apply DW.manyV; rfl; rfl; rfl; exact WantT.none; rfl; infer_instance; apply ArgsOk.cons; rfl; exact ArgsOk.nil; apply RdV.ext; assumption; rfl; exact RdV.nil; intro w _ _)
  exact own_calls _ _ w (hg.bel (by assumption))
  intro v4 g4 h4
  have h1' := h1
  have h2' := h2
  have h3' := h3
  have h4' := h4
  unfold ownM at h1' h2' h3' h4'
  obtain ⟨q1, k1, rfl⟩ := h1'.form
  obtain ⟨q2, k2, rfl⟩ := h2'.form
  obtain ⟨q3, k3, rfl⟩ := h3'.form
  obtain ⟨q4, k4, rfl⟩ := h4'.form
  ((try simp only [tsOf_cons, tsOf_nil, tsOf_app]); apply DW.v0; rfl; rfl; rfl; exact WantT.none; rfl; apply ValP.fieldAddr; rfl; rfl; apply DW.nil; simp only [fsOf_cons, fsOf_nil, fsOf_app, fsOf_tsOf, fsOf_new, fsOf_tag])
  have hsl : OpSl { u with iv := .slice q1 (u.ib.take 201).length k1, ib := u.ib.take 201, cv := .slice q2 (u.cb.take 201).length k2, cb := u.cb.take 201, dv := .slice q3 (u.db.take 201).length k3, db := u.db.take 201, gv := .slice q4 (u.gb.take 201).length k4, gb := u.gb.take 201 } := ⟨⟨_, _, rfl⟩, ⟨_, _, rfl⟩, ⟨_, _, rfl⟩, ⟨_, _, rfl⟩⟩
  (apply LW.store; rfl; rfl; apply SetAt.app; apply SetAt.app; apply SetAt.app; apply SetAt.app; apply SetAt.tail; apply SetAt.head; exact op_wr5; apply LW.v0; rfl; rfl; apply ValP.fieldAddr; rfl; rfl; apply LW.store; rfl; rfl; apply SetAt.app; apply SetAt.app; apply SetAt.app; apply SetAt.app; apply SetAt.tail; apply SetAt.head; exact op_wr6; apply LW.v0; rfl; rfl; apply ValP.fieldAddr; rfl; rfl; apply LW.store; rfl; rfl; apply SetAt.app; apply SetAt.app; apply SetAt.app; apply SetAt.app; apply SetAt.tail; apply SetAt.head; exact op_wr15; apply LW.v0; rfl; rfl; apply ValP.fieldAddr; rfl; rfl; apply LW.store; rfl; rfl; apply SetAt.app; apply SetAt.app; apply SetAt.app; apply SetAt.app; apply SetAt.tail; apply SetAt.head; exact op_wr16; apply LW.nil; refine thenN ?_; refine CW.seq ?_; refine CW.region ?_; apply LW.load; rfl; rfl; apply Known.at; apply FsAt.app; apply FsAt.app; apply FsAt.app; apply FsAt.app; apply FsAt.tail; apply FsAt.head; exact op_rdW; apply LW.store; rfl; rfl; apply SetAt.app; apply SetAt.app; apply SetAt.app; apply SetAt.app; apply SetAt.head; apply Wr.whole; rfl; rfl; rfl; apply LW.nil; refine thenN ?_; refine CW.ret ?_)
  refine fin (vs := [.agg (opa (cutO u (.slice q1 (u.ib.take 201).length k1) (.slice q2 (u.cb.take 201).length k2) (.slice q3 (u.db.take 201).length k3) (.slice q4 (u.gb.take 201).length k4)))]) (g4 ++ (g3 ++ (g2 ++ g1))) (.inl rfl) rfl rfl (by (apply ResL.cons; apply Res.cell; rfl; apply Known.at; apply FsAt.app; apply FsAt.app; apply FsAt.app; apply FsAt.app; apply FsAt.head; exact op_rdW; exact ResL.nil)) ?_ ⟨_, _, _, _, g1, g2, g3, g4, rfl, rfl, ⟨⟨hu.num.sd, hu.num.no, hu.num.vg, hu.num.cg, hu.num.pg, hu.num.mf, hu.num.mp, hu.num.py, hu.num.pv, hu.num.pp⟩, h1', h2', h3', h4'⟩, ⟨⟨_, _, rfl⟩, ⟨_, _, rfl⟩, ⟨_, _, rfl⟩, ⟨_, _, rfl⟩⟩⟩
  exact List.Sublist.append_left (List.Sublist.append_left (List.Sublist.append_left (List.sublist_append_left _ _) _) _) _
/-- .. told as one. -/
def fewO2 (u : OpV) (v : Value) (gs : Fs) : Prop := ∃ a b c d, v = .agg (opa (cutO u a b c d)) ∧ OpGs (cutO u a b c d) gs ∧ OpSl (cutO u a b c d)
theorem few_u_calls2 (u : OpV) (w : World) (hu : OpAt w u) : Calls Tryd.prog 6 #[.agg (opa u)] w (RetG w [] (fewO2 u)) := by
  refine Calls.mono (few_u_calls3 u w hu) fun x w' hx => ?_
  unfold SL.RetG at hx ⊢
  obtain ⟨v, gs, h1, ⟨a, b, c, d, g1, g2, g3, g4, h2, h3, h4, h5⟩, h6⟩ := hx
  exact ⟨v, gs, h1, ⟨a, b, c, d, h2, by rw [h3]; exact h4.gs, h5⟩, h6⟩
theorem blocks_slice_v {x : Value} {n : Nat} (h : ∃ p c, x = .slice p n c) : blocksN 3 x = blocksN 4 x := by
  obtain ⟨p, c, rfl⟩ := h
  cases p <;> rfl
theorem blocks_op {u : OpV} (h : OpSl u) : blocksN 4 (.agg (opa u)) = [u.iv, u.cv, u.dv, u.gv].flatMap (blocksN 4) := by
  show (opc u).flatMap (blocksN 3) = _
  have e : ∀ (k : IntKind) (n : Int), blocksN 3 (.int k n) = [] := fun _ _ => rfl
  simp only [opc, wc, List.flatMap_cons, List.flatMap_nil, List.cons_append, List.nil_append, e, List.append_nil, blocks_slice_v h.i, blocks_slice_v h.c, blocks_slice_v h.d, blocks_slice_v h.g]
end Go.Proofs.YtobkhnmglbfheaaDoor

/-
  What operations may cost, and their factories.
  Conditions: none.
-/
namespace Go.Proofs.YtobkhnmglbfheaaDoor
open Go Go.RowKit SL
set_option maxRecDepth 8000
set_option maxHeartbeats 4000000
set_option linter.unusedSimpArgs false
set_option linter.unusedVariables false
attribute [local irreducible] SL.CW SL.LW SL.DW Calls SL.Ret SL.RetG SL.beginQ SL.roundQ SL.rangeQ SL.inQ SL.RW SL.AnyW SL.thenQ SL.thenC SL.thenW SL.blkQ SL.finQ SL.ValP SL.NewP SL.SetP SL.CallP SL.Rd SL.Wr SL.Known
def gasU (u : OpV) : Nat := u.vg + u.cg + u.pg + u.pv + u.pp
theorem gasU_le {u : OpV} (h : okU u) : gasU u ≤ 100000 := by
  unfold okU at h
  obtain ⟨-, ⟨h1, h2, h3, h4, h5⟩, -⟩ := h
  unfold gasU
  omega
theorem gas_mod {u : OpV} (h : okU u) : ((((u.vg + u.cg) % 18446744073709551616 + u.pg) % 18446744073709551616 + u.pv) % 18446744073709551616 + u.pp) % 18446744073709551616 = gasU u := by
  unfold okU at h
  obtain ⟨-, ⟨h1, h2, h3, h4, h5⟩, -⟩ := h
  unfold gasU
  omega
theorem pre_lt {u : OpV} (h : okU u) (hm : u.mf < 18446744073709551616) : gasU u * u.mf < M256 := by
  have h1 := gasU_le h
  refine Nat.lt_of_le_of_lt (Nat.mul_le_mul h1 (Nat.le_of_lt hm)) ?_
  decide
theorem Prefund_calls (u : OpV) (w : World) (hu : OpAt w u) : Calls Tryd.prog 17 #[.agg (opa u)] w (Ret w (.tuple #[wv (if okU u then gasU u * u.mf else 0), .int .i64 (if okU u then 0 else 280)])) := by
  have hmf := hu.num.mf
  have hCk0 : ∀ w' {fs}, St w [] fs w' → Calls Tryd.prog 8 #[.agg (opa u)] w' (Ret w' (.int .i64 (if okU u then 0 else 280))) := fun w' fs hst => Check_u_calls u w' (hu.st hst)
  by_cases ho : okU u
  · have hMul : ∀ w, Calls Tryd.prog 35 #[wv (gasU u), wv u.mf] w (Ret w (.tuple #[wv (gasU u * u.mf), .bool (decide (M256 ≤ gasU u * u.mf))])) := fun w => by
      have hg := gasU_le ho
      have h64 : (18446744073709551616 : Nat) < M256 := by decide
      have := Mul_calls (gasU u) u.mf (by omega) (by omega) w
      rwa [Nat.mod_eq_of_lt (pre_lt ho hmf)] at this
    have hOf : ∀ w, Calls Tryd.prog 36 #[.int .u64 (((((((u.vg + u.cg) % 18446744073709551616 + u.pg) % 18446744073709551616 + u.pv) % 18446744073709551616 + u.pp) % 18446744073709551616 : Nat)) : Int)] w (Ret w (wv (gasU u))) := fun w => by
      rw [gas_mod ho]
      exact Of_calls (gasU u) (by have := gasU_le ho; omega) w
    have hCk := hCk0
    rw [if_pos ho] at hCk
    rw [if_pos ho, if_pos ho]
    refine enter (args := [_]) _ [] [] Tryd.func17 rfl Tryd.ntmps17 rfl (by simp) .nil ?_
    (refine CW.seq ?_; refine CW.region ?_; apply LW.boxA; rfl; rfl; intro _; apply LW.allocW; rfl; intro _; apply LW.v0; rfl; rfl; apply ValP.assign; rfl; apply LW.nil; refine thenN ?_; refine CW.seq ?_; refine CW.seq ?_; refine CW.region ?_; apply LW.load; rfl; rfl; apply Known.at; apply FsAt.tail; apply FsAt.head; exact Rd.whole rfl; apply LW.callE; rfl; rfl; infer_instance; apply ArgsOk.cons; rfl; exact ArgsOk.nil; intro w _; exact hCk w (by assumption); apply LW.v0; rfl; rfl; apply ValP.assign; rfl; apply LW.nil; refine thenN ?_; refine CW.seq ?_; refine CW.region ?_; apply LW.v0; rfl; rfl; apply ValP.move; rfl; apply LW.v0; rfl; rfl; apply ValP.neF; rfl; rfl; omega; apply LW.nil; refine thenN ?_; apply CW.condF; rfl; (with_reducible rfl); refine CW.skip ?_; refine thenN ?_; refine CW.seq ?_; apply CW.pre; refine AnyW.any 24 mixed (by decide +kernel) ?_; (try simp only [tsOf_cons, tsOf_nil, tsOf_app]); apply DW.v0; rfl; rfl; rfl; exact WantT.none; rfl; apply ValP.fieldAddr; rfl; rfl; apply DW.loadO; rfl; rfl; rfl; exact WantT.none; rfl; apply TRead.tail; apply TRead.head; exact ancB_nil; exact op_rd7; apply DW.v0; rfl; rfl; rfl; exact WantT.none; rfl; apply ValP.fieldAddr; rfl; rfl; apply DW.loadO; rfl; rfl; rfl; exact WantT.none; rfl; apply TRead.tail; apply TRead.head; exact ancB_nil; exact op_rd8; apply DW.v0; rfl; rfl; rfl; exact WantT.none; rfl; apply ValP.addN; rfl; rfl; apply DW.v0; rfl; rfl; rfl; exact WantT.none; rfl; apply ValP.fieldAddr; rfl; rfl; apply DW.loadO; rfl; rfl; rfl; exact WantT.none; rfl; apply TRead.tail; apply TRead.head; exact ancB_nil; exact op_rd9; apply DW.v0; rfl; rfl; rfl; exact WantT.none; rfl; apply ValP.addN; rfl; rfl; apply DW.v0; rfl; rfl; rfl; exact WantT.none; rfl; apply ValP.fieldAddr; rfl; rfl; apply DW.loadO; rfl; rfl; rfl; exact WantT.none; rfl; apply TRead.tail; apply TRead.head; exact ancB_nil; exact op_rd13; apply DW.v0; rfl; rfl; rfl; exact WantT.none; rfl; apply ValP.addN; rfl; rfl; apply DW.v0; rfl; rfl; rfl; exact WantT.none; rfl; apply ValP.fieldAddr; rfl; rfl; apply DW.loadO; rfl; rfl; rfl; exact WantT.none; rfl; apply TRead.tail; apply TRead.head; exact ancB_nil; exact op_rd14; apply DW.v0; rfl; rfl; rfl; exact WantT.none; rfl; apply ValP.addN; rfl; rfl; apply DW.callE; rfl; rfl; rfl; exact WantT.none; rfl; infer_instance; apply ArgsOk.cons; rfl; exact ArgsOk.nil; rfl; exact ReadAll.nil; intro w _ _; exact hOf w; apply DW.v0; rfl; rfl; rfl; exact WantT.none; rfl; apply ValP.fieldAddr; rfl; rfl; apply DW.loadO; rfl; rfl; rfl; exact WantT.none; rfl; apply TRead.tail; apply TRead.head; exact ancB_nil; exact op_rd10; apply DW.callE; rfl; rfl; rfl; exact WantT.none; rfl; infer_instance; apply ArgsOk.cons; rfl; exact ArgsOk.nil; rfl; exact ReadAll.nil; intro w _ _; exact Of_calls u.mf hmf w; apply DW.callE; rfl; rfl; rfl; exact WantT.none; rfl; infer_instance; apply ArgsOk.cons; rfl; apply ArgsOk.cons; rfl; exact ArgsOk.nil; rfl; exact ReadAll.nil; intro w _ _; exact hMul w; apply DW.v0; rfl; rfl; rfl; exact WantT.none; rfl; apply ValP.move; rfl; apply DW.v0; rfl; rfl; rfl; exact WantT.none; rfl; apply ValP.extractN; rfl; rfl; apply DW.v0; rfl; rfl; rfl; exact WantT.none; rfl; apply ValP.extractN; rfl; rfl; apply DW.allocW; rfl; rfl; rfl; exact WantT.none; intro _; apply DW.store; rfl; rfl; exact WantT.none; rfl; rfl; apply TSet.head; kernel_rfl; exact ancB_nil; apply Wr.whole; rfl; rfl; rfl; apply DW.nil; simp only [fsOf_cons, fsOf_nil, fsOf_app, fsOf_tsOf, fsOf_new]; apply LW.v0; rfl; rfl; apply ValP.assign; rfl; apply LW.nil; refine thenN ?_; refine CW.seq ?_; refine CW.region ?_; apply LW.load; rfl; rfl; apply Known.at; apply FsAt.head; exact Rd.whole rfl; apply LW.store; rfl; rfl; apply SetAt.tail; apply SetAt.head; apply Wr.whole; rfl; rfl; rfl; apply LW.v0; rfl; rfl; apply ValP.assign; rfl; apply LW.nil; refine thenN ?_; refine CW.ret ?_)
    (apply finR; exact .inl rfl; rfl; rfl; rfl; apply ResL.cons; apply Res.cell; rfl; apply Known.at; apply FsAt.tail; apply FsAt.head; exact Rd.whole rfl; apply ResL.cons; exact Res.tmp rfl; exact ResL.nil)
    rfl
  · have hCk := hCk0
    rw [if_neg ho] at hCk
    rw [if_neg ho, if_neg ho]
    refine enter (args := [_]) _ [] [] Tryd.func17 rfl Tryd.ntmps17 rfl (by simp) .nil ?_
    (refine CW.seq ?_; refine CW.region ?_; apply LW.boxA; rfl; rfl; intro _; apply LW.allocW; rfl; intro _; apply LW.v0; rfl; rfl; apply ValP.assign; rfl; apply LW.nil; refine thenN ?_; refine CW.seq ?_; refine CW.seq ?_; refine CW.region ?_; apply LW.load; rfl; rfl; apply Known.at; apply FsAt.tail; apply FsAt.head; exact Rd.whole rfl; apply LW.callE; rfl; rfl; infer_instance; apply ArgsOk.cons; rfl; exact ArgsOk.nil; intro w _; exact hCk w (by assumption); apply LW.v0; rfl; rfl; apply ValP.assign; rfl; apply LW.nil; refine thenN ?_; refine CW.seq ?_; refine CW.region ?_; apply LW.v0; rfl; rfl; apply ValP.move; rfl; apply LW.v0; rfl; rfl; apply ValP.neT; rfl; rfl; omega; apply LW.nil; refine thenN ?_; apply CW.condT; rfl; (with_reducible rfl); refine CW.seq ?_; refine CW.region ?_; apply LW.v0; rfl; rfl; exact ValP.buildW0; apply LW.v0; rfl; rfl; apply ValP.move; rfl; apply LW.store; rfl; rfl; apply SetAt.head; apply Wr.whole; rfl; rfl; rfl; apply LW.v0; rfl; rfl; apply ValP.assign; rfl; apply LW.nil; refine thenN ?_; refine CW.ret ?_; refine thenR ?_)
    (apply finR; exact .inl rfl; rfl; rfl; rfl; apply ResL.cons; apply Res.cell; rfl; apply Known.at; apply FsAt.head; exact Rd.whole rfl; apply ResL.cons; exact Res.tmp rfl; exact ResL.nil)
    rfl
end Go.Proofs.YtobkhnmglbfheaaDoor

/-
  Operations of accounts: does the layer do anything?
  Conditions: none.
-/
namespace Go.Proofs.YtobkhnmglbfheaaDoor
open Go Go.RowKit SL
set_option maxRecDepth 8000
set_option maxHeartbeats 4000000
set_option linter.unusedSimpArgs false
set_option linter.unusedVariables false
attribute [local irreducible] SL.CW SL.LW SL.DW Calls SL.Ret SL.RetG SL.beginQ SL.roundQ SL.rangeQ SL.inQ SL.RW SL.AnyW SL.thenQ SL.thenC SL.thenW SL.blkQ SL.finQ SL.ValP SL.NewP SL.SetP SL.CallP SL.Rd SL.Wr SL.Known
def uW : OpV := { u00 with sd := 20, vg := 100, cg := 50, pg := 30, mf := 10, mp := 2 }
def uX : OpV := { uW with mp := 11 }
theorem uW_at (w : World) : OpAt w uW := ⟨by constructor <;> decide, RowAt.nil, RowAt.nil, RowAt.nil, RowAt.nil⟩
theorem uX_at (w : World) : OpAt w uX := ⟨by constructor <;> decide, RowAt.nil, RowAt.nil, RowAt.nil, RowAt.nil⟩
theorem uW_ok : okU uW := by decide
theorem uX_no : ¬okU uX := by decide
theorem uW_len : (encB uW).length = 576 := by decide +kernel
theorem sd_of {u v : OpV} (h : opD u = opD v) : u.sd = v.sd := ((sameU_iff u v).1 ((opD_iff u v).1 h)).1.1.1
theorem wakes_u_calls (w : World) : Calls Tryd.prog 5 #[] w (Ret w (.bool true)) := by
  have hWx : Wr Tryd.prog 23 (.cells (opa uW) 30 (0, 0)) (0 + 11) (.int .u64 11) (.cells (opa uX) 30 (0, 0)) := Wr.cells (n := 1) rfl rfl (by decide) rfl
  have hslW : OpSl uW := (uW_at w).sl
  have hPre : ∀ w, Calls Tryd.prog 17 #[.agg (opa uW)] w (Ret w (.tuple #[wv 1800, .int .i64 0])) := fun w => by
    have := Prefund_calls uW w (uW_at w)
    rwa [if_pos uW_ok, if_pos uW_ok, show gasU uW * uW.mf = 1800 from rfl] at this
  have hCk : ∀ w, Calls Tryd.prog 8 #[.agg (opa uX)] w (Ret w (.int .i64 280)) := fun w => by
    have := Check_u_calls uX w (uX_at w)
    rwa [if_neg uX_no] at this
  refine enter (args := []) _ [] [] Tryd.func5 rfl Tryd.ntmps5 rfl (by simp) .nil ?_
  (refine CW.seq ?_; refine CW.region ?_; apply LW.v0; rfl; rfl; apply ValP.assign; rfl; apply LW.nil; refine thenN ?_; refine CW.seq ?_; refine CW.region ?_; apply LW.v0; rfl; rfl; apply ValP.buildT; infer_instance; infer_instance; apply PartsOk.cons; rfl; apply PartsOk.cons; rfl; apply PartsOk.cons; rfl; apply PartsOk.cons; rfl; apply PartsOk.cons; rfl; apply PartsOk.cons; rfl; exact PartsOk.nil; rfl; simp only [fillP, wrCells, Value.cells, List.getElem?_cons_zero, List.getElem?_cons_succ, List.toList_toArray, List.setIfInBounds_toArray, List.set_cons_succ, List.set_cons_zero, Nat.reduceAdd, Nat.zero_add]; rfl; apply LW.allocA; rfl; intro _; apply LW.store; rfl; rfl; apply SetAt.head; apply Wr.whole; rfl; rfl; rfl; apply LW.nil; refine thenN ?_; refine CW.seq ?_; refine CW.region ?_; apply LW.load; rfl; rfl; apply Known.at; apply FsAt.head; exact Rd.whole rfl)
  refine LW.callR rfl rfl inferInstance (by (apply ArgsOk.cons; rfl; exact ArgsOk.nil)) (fun w hst => Encode_calls uW w (uW_at w)) ?_
  rintro v4 gs4 ⟨bv, rfl, hrow⟩
  obtain ⟨hdo, hdd⟩ := dec_enc uW_ok (uW_at w).num
  have hlen := uW_len
  rw [if_pos uW_ok, if_pos uW_ok] at hrow
  rw [if_pos uW_ok]
  obtain ⟨X, hX⟩ : ∃ X, encB uW = X := ⟨_, rfl⟩
  rw [hX] at hrow hdo hdd hlen
  obtain ⟨pb, cb, rfl⟩ := hrow.form
  (apply LW.v0; rfl; rfl; apply ValP.move; rfl; apply LW.v0; rfl; rfl; apply ValP.extractN; rfl; rfl; apply LW.v0; rfl; rfl; apply ValP.extractN; rfl; rfl; apply LW.v0; rfl; rfl; apply ValP.assign; rfl; apply LW.v0; rfl; rfl; apply ValP.assign; rfl; apply LW.nil; refine thenN ?_; refine CW.seq ?_; refine CW.region ?_; apply LW.v0; rfl; rfl; apply ValP.move; rfl)
  refine LW.callR rfl rfl inferInstance (by (apply ArgsOk.cons; rfl; exact ArgsOk.nil)) (fun w hst => Decode_calls X _ w (hrow.us (st_us hst (by (exact List.sublist_append_left _ _))) (List.Sublist.refl _))) ?_
  rintro v5 gs5 ⟨u', rfl, hG, hd⟩
  rw [if_pos hdo] at hd ⊢
  have hsd : u'.sd = 20 := sd_of (hd.trans hdd)
  have hr0 : ∀ {E fr}, Rd Tryd.prog 25 (.cells (opa u') E fr) 0 (.int .u64 20) := fun {E fr} => by have := op_rd0 (P := Tryd.prog) (T := 25) (E := E) (fr := fr) (u := u'); rwa [hsd] at this
  rw [hlen]
  refine LW.st fun w1 hst1 => ?_
  have hsl' : OpSl u' := (hG w1 (st_us hst1 (by (exact List.sublist_append_left _ _)))).sl
  clear hst1 w1
  (apply LW.v0; rfl; rfl; apply ValP.move; rfl; apply LW.v0; rfl; rfl; apply ValP.extractN; rfl; rfl; apply LW.v0; rfl; rfl; apply ValP.extractN; rfl; rfl; apply LW.allocA; rfl; intro _; apply LW.store; rfl; rfl; apply SetAt.head; apply op_wrW; rfl; assumption; apply LW.v0; rfl; rfl; apply ValP.assign; rfl; apply LW.nil; refine thenN ?_; refine CW.seq ?_; refine CW.region ?_; apply LW.load; rfl; rfl; apply Known.at; apply FsAt.tail; apply FsAt.app; apply FsAt.app; apply FsAt.head; exact Rd.whole rfl; apply LW.callE; rfl; rfl; infer_instance; apply ArgsOk.cons; rfl; exact ArgsOk.nil; intro w _; exact hPre w; apply LW.v0; rfl; rfl; apply ValP.move; rfl; apply LW.v0; rfl; rfl; apply ValP.extractN; rfl; rfl; apply LW.v0; rfl; rfl; apply ValP.extractN; rfl; rfl; apply LW.allocW; rfl; intro _; apply LW.store; rfl; rfl; apply SetAt.head; apply Wr.whole; rfl; rfl; rfl; apply LW.v0; rfl; rfl; apply ValP.assign; rfl; apply LW.nil; refine thenN ?_; refine CW.seq ?_; refine CW.region ?_; apply LW.v0; rfl; rfl; apply ValP.fieldAddr; rfl; rfl; apply LW.store; rfl; rfl; apply SetAt.tail; apply SetAt.tail; apply SetAt.app; apply SetAt.app; apply SetAt.head; exact hWx; apply LW.nil; refine thenN ?_; refine CW.seq ?_; refine CW.region ?_; apply LW.v0; rfl; rfl; apply ValP.move; rfl; apply LW.v0; rfl; rfl; apply ValP.eqT; rfl; rfl; omega; apply LW.v0; rfl; rfl; apply ValP.move; rfl; apply LW.guardT'; rfl; rfl; (with_reducible rfl); apply LW.v0; rfl; rfl; apply ValP.move; rfl; apply LW.guardT'; rfl; rfl; (with_reducible rfl); apply LW.v0; rfl; rfl; apply ValP.eqT; rfl; rfl; omega; apply LW.v0; rfl; rfl; apply ValP.pickT'; rfl; (with_reducible rfl); rfl; apply LW.v0; rfl; rfl; apply ValP.move; rfl; apply LW.guardT'; rfl; rfl; (with_reducible rfl); apply LW.v0; rfl; rfl; apply ValP.move; rfl; apply LW.guardT'; rfl; rfl; (with_reducible rfl); apply LW.v0; rfl; rfl; apply ValP.eqT; rfl; rfl; omega; apply LW.v0; rfl; rfl; apply ValP.pickT'; rfl; (with_reducible rfl); rfl; apply LW.v0; rfl; rfl; apply ValP.move; rfl; apply LW.guardT'; rfl; rfl; (with_reducible rfl); apply LW.v0; rfl; rfl; apply ValP.move; rfl; apply LW.guardT'; rfl; rfl; (with_reducible rfl); apply LW.v0; rfl; rfl; apply ValP.lenR; rfl; infer_instance; rfl; apply LW.guardT'; rfl; rfl; (with_reducible rfl); apply LW.v0; rfl; rfl; apply ValP.eqT; rfl; rfl; omega; apply LW.v0; rfl; rfl; apply ValP.pickT'; rfl; (with_reducible rfl); rfl; apply LW.v0; rfl; rfl; apply ValP.move; rfl; apply LW.guardT'; rfl; rfl; (with_reducible rfl); apply LW.v0; rfl; rfl; apply ValP.fieldAddr; rfl; rfl; apply LW.guardT'; rfl; rfl; (with_reducible rfl); apply LW.load; rfl; rfl; apply Known.at; apply FsAt.tail; apply FsAt.head; exact op_rd0; apply LW.guardT'; rfl; rfl; (with_reducible rfl); apply LW.v0; rfl; rfl; apply ValP.eqT; rfl; rfl; omega; apply LW.v0; rfl; rfl; apply ValP.pickT'; rfl; (with_reducible rfl); rfl; apply LW.v0; rfl; rfl; apply ValP.move; rfl; apply LW.guardT'; rfl; rfl; (with_reducible rfl); apply LW.load; rfl; rfl; apply Known.at; apply FsAt.head; exact Rd.whole rfl; apply LW.guardT'; rfl; rfl; (with_reducible rfl); apply LW.v0; rfl; rfl; apply ValP.buildW1L; rfl; decide; rfl; apply LW.guardT'; rfl; rfl; (with_reducible rfl); apply LW.v0; rfl; rfl; apply ValP.eqWT; rfl; rfl; (with_reducible rfl); apply LW.v0; rfl; rfl; apply ValP.pickT'; rfl; (with_reducible rfl); rfl; apply LW.v0; rfl; rfl; apply ValP.move; rfl; apply LW.guardT'; rfl; rfl; (with_reducible rfl); apply LW.load; rfl; rfl; apply Known.at; apply FsAt.tail; apply FsAt.tail; apply FsAt.app; apply FsAt.app; apply FsAt.head; exact op_rdW; apply LW.guardT'; rfl; rfl; (with_reducible rfl); apply LW.callE; rfl; rfl; infer_instance; apply ArgsOk.cons; rfl; exact ArgsOk.nil; intro w _; exact hCk w; apply LW.guardT'; rfl; rfl; (with_reducible rfl); apply LW.v0; rfl; rfl; apply ValP.eqT; rfl; rfl; omega; apply LW.v0; rfl; rfl; apply ValP.pickT'; rfl; (with_reducible rfl); rfl; apply LW.v0; rfl; rfl; apply ValP.assign; rfl; apply LW.nil; refine thenN ?_; refine CW.ret ?_)
  trace_state
  (apply finR; exact .inl rfl; rfl; rfl; rfl; apply ResL.cons; exact Res.tmp rfl; exact ResL.nil)
  rfl
end Go.Proofs.YtobkhnmglbfheaaDoor
