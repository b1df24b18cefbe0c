/-
  Texts that were built apart, put behind one another (5 of 6): NM NN NO G12 NP NQ NR NS NT NU NV OC OE OF OG OH OI NW NY OJ OM.
  Conditions: none.
-/
import Derived.Test.YtpgdnfgjbhdbpaaGreatDoorZ4
/-
  What begins a call: words, gas, who calls whom.
  Conditions: none.
-/
namespace Go.Proofs.YtpgdnfgjbhdbpaaGreatDoor
open Go Go.RowKit SL
set_option maxRecDepth 8000
set_option maxHeartbeats 4000000
set_option linter.unusedSimpArgs false
set_option linter.unusedVariables false
attribute [local irreducible] SL.CW SL.LW SL.DW Calls SL.Ret SL.RetG SL.beginQ SL.roundQ SL.rangeQ SL.inQ SL.RW SL.AnyW SL.thenQ SL.thenC SL.thenW SL.blkQ SL.finQ SL.ValP SL.NewP SL.SetP SL.CallP SL.Rd SL.Wr SL.Known
/-- What is asked for, and how. -/
structure AkV where
  kind : Int
  op : Nat
  ws : Value
  dt : Value
  cold : Bool
  vl : Bool
  new : Bool
def bgl (f : FrV) (A : AkV) (c : ClV) : List Value := frc f ++ (shc A.op ++ ([.int .i64 A.kind, .int .u8 (A.op : Int), A.ws, A.dt] ++ ([.bool A.cold, .bool A.vl, .bool A.new] ++ clc c)))
abbrev bga (f : FrV) (A : AkV) (c : ClV) : Array Value := (bgl f A c).toArray
abbrev bgO (f : FrV) (A : AkV) (c : ClV) : Obj := .cells (bga f A c) 96 (0, 0)
attribute [local irreducible] shq
section rd
variable {P : Program} {T E : TypeId} {fr : Nat × Nat} {A : AkV} {f : FrV} {c : ClV} {code stk mem inp back : Value} {pc : Int} {gas self frm val : Nat} {stat : Bool} {op dst cself cfrm cval cgas pl n : Nat} {cinp ccode : Value} {mv cstat : Bool}
theorem bg_rdF [AgI P T true] {z : Value} [InfoI P T 14 z] : Rd P T (.cells (bga f A c) E fr) 0 (frv f) := Rd.mid (cs := frc f) rfl rfl
theorem bg_rd4 [AgI P T false] : Rd P T (.cells (bga ⟨code, pc, stk, mem, gas, self, frm, val, inp, back, stat⟩ A c) E fr) 4 (.int .u64 (gas : Int)) := Rd.one rfl
theorem bg_rd5 [AgI P T false] : Rd P T (.cells (bga ⟨code, pc, stk, mem, gas, self, frm, val, inp, back, stat⟩ A c) E fr) 5 (.int .u64 (self : Int)) := Rd.one rfl
theorem bg_rd6 [AgI P T false] : Rd P T (.cells (bga ⟨code, pc, stk, mem, gas, self, frm, val, inp, back, stat⟩ A c) E fr) 6 (.int .u64 (frm : Int)) := Rd.one rfl
theorem bg_rd7 [AgI P T true] {z : Value} [InfoI P T 4 z] : Rd P T (.cells (bga ⟨code, pc, stk, mem, gas, self, frm, val, inp, back, stat⟩ A c) E fr) 7 (wv val) := Rd.mid (cs := (wc val).toList) rfl rfl
theorem bg_rd13 [AgI P T false] : Rd P T (.cells (bga ⟨code, pc, stk, mem, gas, self, frm, val, inp, back, stat⟩ A c) E fr) 13 (.bool stat) := Rd.one rfl
theorem bg_rd15 [AgI P T false] : Rd P T (.cells (bga f A c) E fr) 15 (.int .i64 (shq A.op).2.1) := Rd.one rfl
theorem bg_rd16 [AgI P T false] : Rd P T (.cells (bga f A c) E fr) 16 (.int .i64 (shq A.op).2.2.1) := Rd.one rfl
theorem bg_rd17 [AgI P T false] : Rd P T (.cells (bga f A c) E fr) 17 (.int .i64 (shq A.op).2.2.2.1) := Rd.one rfl
theorem bg_rd18 [AgI P T false] : Rd P T (.cells (bga f A c) E fr) 18 (.int .i64 (shq A.op).2.2.2.2.1) := Rd.one rfl
theorem bg_rd20 [AgI P T false] : Rd P T (.cells (bga f A c) E fr) 20 (.int .u8 (A.op : Int)) := Rd.one rfl
theorem bg_rd21 [AgI P T false] : Rd P T (.cells (bga f A c) E fr) 21 A.ws := Rd.one rfl
theorem bg_rd23 [AgI P T false] : Rd P T (.cells (bga f A c) E fr) 23 (.bool A.cold) := Rd.one rfl
theorem bg_rd25 [AgI P T false] : Rd P T (.cells (bga f A c) E fr) 25 (.bool A.new) := Rd.one rfl
theorem bg_rd27 [AgI P T false] : Rd P T (.cells (bga f A ⟨op, dst, cself, cfrm, cval, mv, cgas, cinp, ccode, pl, n, cstat⟩) E fr) 27 (.int .u64 (dst : Int)) := Rd.one rfl
theorem bg_rd30 [AgI P T true] {z : Value} [InfoI P T 4 z] : Rd P T (.cells (bga f A ⟨op, dst, cself, cfrm, cval, mv, cgas, cinp, ccode, pl, n, cstat⟩) E fr) 30 (wv cval) := Rd.mid (cs := (wc cval).toList) rfl rfl
theorem bg_rd34 [AgI P T false] : Rd P T (.cells (bga f A ⟨op, dst, cself, cfrm, cval, mv, cgas, cinp, ccode, pl, n, cstat⟩) E fr) 34 (.bool mv) := Rd.one rfl
theorem bg_rd35 [AgI P T false] : Rd P T (.cells (bga f A ⟨op, dst, cself, cfrm, cval, mv, cgas, cinp, ccode, pl, n, cstat⟩) E fr) 35 (.int .u64 (cgas : Int)) := Rd.one rfl
theorem bg_rd36 [AgI P T false] : Rd P T (.cells (bga f A ⟨op, dst, cself, cfrm, cval, mv, cgas, cinp, ccode, pl, n, cstat⟩) E fr) 36 cinp := Rd.one rfl
theorem bg_rd37 [AgI P T false] : Rd P T (.cells (bga f A ⟨op, dst, cself, cfrm, cval, mv, cgas, cinp, ccode, pl, n, cstat⟩) E fr) 37 ccode := Rd.one rfl
theorem bg_rdC [AgI P T true] {z : Value} [InfoI P T 15 z] : Rd P T (.cells (bga f A c) E fr) 26 (clv c) := Rd.mid (cs := clc c) rfl rfl
end rd
section wr
variable {P : Program} {T E : TypeId} {A : AkV} {f : FrV} {c : ClV} {z code stk mem inp back : Value} {pc : Int} {gas self frm val x q k : Nat} {stat y : Bool} {p : Option Addr} {op dst cself cfrm cval cgas pl n : Nat} {cinp ccode : Value} {mv cstat : Bool}
theorem bg_wr4 [InfoI P T 1 z] : Wr P T (.cells (bga ⟨code, pc, stk, mem, gas, self, frm, val, inp, back, stat⟩ A c) E (0, 0)) (0 + 0 + 4) (.int .u64 (x : Int)) (.cells (bga ⟨code, pc, stk, mem, x, self, frm, val, inp, back, stat⟩ A c) E (0, 0)) := Wr.cells (n := 1) (z := z) rfl rfl (by show 0 + 0 + 4 + 1 ≤ 41; omega) rfl
theorem bg_wr26 [InfoI P T 1 z] : Wr P T (.cells (bga f A ⟨op, dst, cself, cfrm, cval, mv, cgas, cinp, ccode, pl, n, cstat⟩) E (0, 0)) (0 + 26 + 0) (.int .u8 (x : Int)) (.cells (bga f A ⟨x, dst, cself, cfrm, cval, mv, cgas, cinp, ccode, pl, n, cstat⟩) E (0, 0)) := Wr.cells (n := 1) (z := z) rfl rfl (by show 0 + 26 + 0 + 1 ≤ 41; omega) rfl
theorem bg_wr27 [InfoI P T 1 z] : Wr P T (.cells (bga f A ⟨op, dst, cself, cfrm, cval, mv, cgas, cinp, ccode, pl, n, cstat⟩) E (0, 0)) (0 + 26 + 1) (.int .u64 (x : Int)) (.cells (bga f A ⟨op, x, cself, cfrm, cval, mv, cgas, cinp, ccode, pl, n, cstat⟩) E (0, 0)) := Wr.cells (n := 1) (z := z) rfl rfl (by show 0 + 26 + 1 + 1 ≤ 41; omega) rfl
theorem bg_wr28 [InfoI P T 1 z] : Wr P T (.cells (bga f A ⟨op, dst, cself, cfrm, cval, mv, cgas, cinp, ccode, pl, n, cstat⟩) E (0, 0)) (0 + 26 + 2) (.int .u64 (x : Int)) (.cells (bga f A ⟨op, dst, x, cfrm, cval, mv, cgas, cinp, ccode, pl, n, cstat⟩) E (0, 0)) := Wr.cells (n := 1) (z := z) rfl rfl (by show 0 + 26 + 2 + 1 ≤ 41; omega) rfl
theorem bg_wr29 [InfoI P T 1 z] : Wr P T (.cells (bga f A ⟨op, dst, cself, cfrm, cval, mv, cgas, cinp, ccode, pl, n, cstat⟩) E (0, 0)) (0 + 26 + 3) (.int .u64 (x : Int)) (.cells (bga f A ⟨op, dst, cself, x, cval, mv, cgas, cinp, ccode, pl, n, cstat⟩) E (0, 0)) := Wr.cells (n := 1) (z := z) rfl rfl (by show 0 + 26 + 3 + 1 ≤ 41; omega) rfl
theorem bg_wr30 [InfoI P T 4 z] : Wr P T (.cells (bga f A ⟨op, dst, cself, cfrm, cval, mv, cgas, cinp, ccode, pl, n, cstat⟩) E (0, 0)) (0 + 26 + 4) (wv x) (.cells (bga f A ⟨op, dst, cself, cfrm, x, mv, cgas, cinp, ccode, pl, n, cstat⟩) E (0, 0)) := Wr.cells (n := 4) (z := z) rfl rfl (by show 0 + 26 + 4 + 4 ≤ 41; omega) rfl
theorem bg_wr34 [InfoI P T 1 z] : Wr P T (.cells (bga f A ⟨op, dst, cself, cfrm, cval, mv, cgas, cinp, ccode, pl, n, cstat⟩) E (0, 0)) (0 + 26 + 8) (.bool y) (.cells (bga f A ⟨op, dst, cself, cfrm, cval, y, cgas, cinp, ccode, pl, n, cstat⟩) E (0, 0)) := Wr.cells (n := 1) (z := z) rfl rfl (by show 0 + 26 + 8 + 1 ≤ 41; omega) rfl
theorem bg_wr35 [InfoI P T 1 z] : Wr P T (.cells (bga f A ⟨op, dst, cself, cfrm, cval, mv, cgas, cinp, ccode, pl, n, cstat⟩) E (0, 0)) (0 + 26 + 9) (.int .u64 (x : Int)) (.cells (bga f A ⟨op, dst, cself, cfrm, cval, mv, x, cinp, ccode, pl, n, cstat⟩) E (0, 0)) := Wr.cells (n := 1) (z := z) rfl rfl (by show 0 + 26 + 9 + 1 ≤ 41; omega) rfl
theorem bg_wr36 [InfoI P T 1 z] : Wr P T (.cells (bga f A ⟨op, dst, cself, cfrm, cval, mv, cgas, cinp, ccode, pl, n, cstat⟩) E (0, 0)) (0 + 26 + 10) (.slice p q k) (.cells (bga f A ⟨op, dst, cself, cfrm, cval, mv, cgas, .slice p q k, ccode, pl, n, cstat⟩) E (0, 0)) := Wr.cells (n := 1) (z := z) rfl rfl (by show 0 + 26 + 10 + 1 ≤ 41; omega) rfl
theorem bg_wr37 [InfoI P T 1 z] : Wr P T (.cells (bga f A ⟨op, dst, cself, cfrm, cval, mv, cgas, cinp, ccode, pl, n, cstat⟩) E (0, 0)) (0 + 26 + 11) (.slice p q k) (.cells (bga f A ⟨op, dst, cself, cfrm, cval, mv, cgas, cinp, .slice p q k, pl, n, cstat⟩) E (0, 0)) := Wr.cells (n := 1) (z := z) rfl rfl (by show 0 + 26 + 11 + 1 ≤ 41; omega) rfl
theorem bg_wr38 [InfoI P T 1 z] : Wr P T (.cells (bga f A ⟨op, dst, cself, cfrm, cval, mv, cgas, cinp, ccode, pl, n, cstat⟩) E (0, 0)) (0 + 26 + 12) (.int .u64 (x : Int)) (.cells (bga f A ⟨op, dst, cself, cfrm, cval, mv, cgas, cinp, ccode, x, n, cstat⟩) E (0, 0)) := Wr.cells (n := 1) (z := z) rfl rfl (by show 0 + 26 + 12 + 1 ≤ 41; omega) rfl
theorem bg_wr39 [InfoI P T 1 z] : Wr P T (.cells (bga f A ⟨op, dst, cself, cfrm, cval, mv, cgas, cinp, ccode, pl, n, cstat⟩) E (0, 0)) (0 + 26 + 13) (.int .u64 (x : Int)) (.cells (bga f A ⟨op, dst, cself, cfrm, cval, mv, cgas, cinp, ccode, pl, x, cstat⟩) E (0, 0)) := Wr.cells (n := 1) (z := z) rfl rfl (by show 0 + 26 + 13 + 1 ≤ 41; omega) rfl
theorem bg_wr40 [InfoI P T 1 z] : Wr P T (.cells (bga f A ⟨op, dst, cself, cfrm, cval, mv, cgas, cinp, ccode, pl, n, cstat⟩) E (0, 0)) (0 + 26 + 14) (.bool y) (.cells (bga f A ⟨op, dst, cself, cfrm, cval, mv, cgas, cinp, ccode, pl, n, y⟩) E (0, 0)) := Wr.cells (n := 1) (z := z) rfl rfl (by show 0 + 26 + 14 + 1 ≤ 41; omega) rfl
end wr
/-- A word that is asked for. -/
def wordI (ws : List Nat) (i : Int) : Nat := if i < 0 then 0 else ws.getD i.toNat 0
theorem bword_calls (f : FrV) (A : AkV) (c : ClV) (b : Nat) (ws : List Nat) (i : Int) (hi : i < ws.length) (w : World) (hb : w.heap[b]? = some (bgO f A c)) (hv : RowAt w 4 A.ws ws.length (wcs ws)) :
    Calls Tryz.prog 89 #[.pointer (some ⟨b, 0, none⟩), .int .i64 i] w (Ret w (wv (wordI ws i))) := by
  unfold wordI
  rcases Int.lt_or_le i 0 with h0 | h0
  · rw [if_pos h0]
    refine enter (args := [_, _]) _ [] [] Tryz.func89 rfl Tryz.ntmps89 rfl (by simp) .nil ?_
    (refine sRz ?_; apply LW.allocW; rfl; intro _; refine nNz ?_; refine CW.seq ?_; refine sRz ?_; refine vMz ?_; refine lvz (.lssT rfl rfl (by omega)) ?_; refine nNz ?_; refine cTz ?_; refine sRz ?_; apply LW.v0; rfl; rfl; exact ValP.buildW0; refine LW.store rfl rfl .head (.whole rfl rfl rfl) ?_; refine nNz ?_; refine CW.ret ?_; refine thenR ?_)
    (apply finR; exact .inl rfl; rfl; rfl; rfl; apply ResL.cons; apply Res.cell; rfl; apply Known.at; apply FsAt.head; exact Rd.whole rfl; exact ResL.nil)
    rfl
  · rw [if_neg (by omega)]
    obtain ⟨k, rfl⟩ : ∃ k : Nat, i = (k : Int) := ⟨i.toNat, (Int.toNat_of_nonneg h0).symm⟩
    rw [Int.toNat_natCast]
    obtain ⟨bw, off, cc, cs, E, fr, heq, hbw, hx⟩ := hv.pos (by omega)
    obtain ⟨kind, op, aws, dt, cold, vl, new⟩ := A
    dsimp only at heq
    subst heq
    have hrd := word_rd (P := Tryz.prog) (T := 29) (E := E) (fr := fr) hx k (by omega)
    obtain ⟨x, hx1⟩ : ∃ x, ws.getD k 0 = x := ⟨_, rfl⟩
    rw [hx1] at hrd ⊢
    refine enter (args := [_, _]) _ [] [] Tryz.func89 rfl Tryz.ntmps89 rfl (by simp) .nil ?_
    (refine sRz ?_; apply LW.allocW; rfl; intro _; refine nNz ?_; refine CW.seq ?_; refine sRz ?_; refine vMz ?_; refine lvz (.lssF rfl rfl (by omega)) ?_; refine nNz ?_; refine cFz ?_; refine CW.skip ?_; refine thenN ?_; refine sRz ?_; refine vMz ?_; refine vNz ?_; refine vFz ?_; refine vFz ?_; apply LW.load; rfl; rfl; exact Known.ext (by assumption) (by simp); exact bg_rd21; refine vMz ?_; refine lvz (.indexAddrS rfl rfl rfl (by omega)) ?_; apply LW.load; rfl; rfl; exact Known.ext (by assumption) (by simp); assumption; refine LW.store rfl rfl .head (.whole rfl rfl rfl) ?_; refine nNz ?_; refine CW.ret ?_)
    (apply finR; exact .inl rfl; rfl; rfl; rfl; apply ResL.cons; apply Res.cell; rfl; apply Known.at; apply FsAt.head; exact Rd.whole rfl; exact ResL.nil)
    rfl
/-! ### Who calls whom -/
def zeroC : ClV := ⟨0, 0, 0, 0, 0, false, 0, .slice none 0 0, .slice none 0 0, 0, 0, false⟩
def whoC (f : FrV) (op : Nat) (ws : List Nat) : ClV :=
  if op = 244 then ⟨op, wordI ws 1 % 18446744073709551616, f.self, f.frm, f.val, false, 0, .slice none 0 0, .slice none 0 0, 0, 0, f.stat⟩
  else ⟨op, wordI ws (shq op).2.1 % 18446744073709551616, wordI ws (shq op).2.1 % 18446744073709551616, f.self, wordI ws (shq op).2.2.1, !decide (wordI ws (shq op).2.2.1 = 0), 0, .slice none 0 0, .slice none 0 0, 0, 0, f.stat || decide (op = 250)⟩
attribute [local irreducible] SL.inP wordI
theorem wordI_lt {ws : List Nat} (hM : ∀ x ∈ ws, x < M256) (i : Int) : wordI ws i < M256 := by
  unfold wordI
  split
  · decide
  · rcases Nat.lt_or_ge i.toNat ws.length with h | h
    · rw [List.getD_eq_getElem?_getD, List.getElem?_eq_getElem h]; exact hM _ (List.getElem_mem h)
    · rw [List.getD_eq_getElem?_getD, List.getElem?_eq_none h]; decide
theorem who_calls (w0 : World) (b : Nat) (f : FrV) (A : AkV) (ws : List Nat) (hM : ∀ x ∈ ws, x < M256) (hlen : (shq A.op).1 = (ws.length : Int)) (hok : (shq A.op).2.2.2.2.2 = true) (rest : Fs) (w : World) (hv : RowAt w0 4 A.ws ws.length (wcs ws)) (hs : St w0 [] ((b, bgO f A zeroC) :: rest) w) :
    Calls Tryz.prog 57 #[.pointer (some ⟨b, 0, none⟩)] w (fun x w' => ∃ fs', (x = .returned (.tuple #[]) ∧ fs' = (b, bgO f A (whoC f A.op ws)) :: rest) ∧ St w0 [] fs' w') := by
  refine calls_inlineP (K := fun x fs' => x = .returned (.tuple #[]) ∧ fs' = (b, bgO f A (whoC f A.op ws)) :: rest) (args := [_]) Tryz.func57 rfl Tryz.ntmps57 rfl ?_ hs
  obtain ⟨code, pc, stk, mem, gas, self, frm, val, inp, back, stat⟩ := f
  have hW : ∀ (c : ClV) (i : Int), i < ws.length → ∀ w', Bel w0.heap.size [] w0 w' → (∀ p ∈ [(b, bgO ⟨code, pc, stk, mem, gas, self, frm, val, inp, back, stat⟩ A c)], w'.heap[p.1]? = some p.2) → Calls Tryz.prog 89 #[.pointer (some ⟨b, 0, none⟩), .int .i64 i] w' (Ret w' (wv (wordI ws i))) := fun c i hi w' hb hp => bword_calls _ A c b ws i hi w' (hp _ List.mem_cons_self) (hv.bel hb)
  have hvl := wordI_lt hM
  rcases shq_ok hok with ⟨ho, hq⟩ | ⟨ho, hq⟩ | ⟨ho, hq⟩
  · have hWt := fun c => hW c 1 (by rw [hq] at hlen; dsimp only at hlen; omega)
    have hWv := fun c => hW c 2 (by rw [hq] at hlen; dsimp only at hlen; omega)
    have hs15 : ∀ {f c E fr}, Rd Tryz.prog 3 (.cells (bga f A c) E fr) 15 (.int .i64 1) := fun {f c E fr} => by have h := bg_rd15 (P := Tryz.prog) (T := 3) (E := E) (fr := fr) (A := A) (f := f) (c := c); rw [hq] at h; exact h
    have hs16 : ∀ {f c E fr}, Rd Tryz.prog 3 (.cells (bga f A c) E fr) 16 (.int .i64 2) := fun {f c E fr} => by have h := bg_rd16 (P := Tryz.prog) (T := 3) (E := E) (fr := fr) (A := A) (f := f) (c := c); rw [hq] at h; exact h
    have hv2 := hvl 2
    cases stat with
    | true =>
      rw [show whoC ⟨code, pc, stk, mem, gas, self, frm, val, inp, back, true⟩ A.op ws = ⟨A.op, wordI ws 1 % 18446744073709551616, wordI ws 1 % 18446744073709551616, self, wordI ws 2, !decide (wordI ws 2 = 0), 0, .slice none 0 0, .slice none 0 0, 0, 0, true⟩ by unfold whoC; rw [if_neg (by omega), hq]; rfl]
      (refine sRz ?_; refine vMz ?_; refine vNz ?_; refine vFz ?_; refine vAz ?_; refine nNz ?_; refine CW.seq ?_; apply CW.pre; refine AnyW.any 23 mixed (by decide +kernel) ?_; (try simp only [tsOf_cons, tsOf_nil, tsOf_app]); refine dvz (.move rfl) ?_; refine dvz (.move rfl) ?_; refine dvz (.move rfl) ?_; refine dvz (.nilCheck rfl) ?_; refine dvz (.fieldAddr rfl rfl) ?_; refine dvz (.fieldAddr rfl rfl) ?_; apply DW.loadO; rfl; rfl; rfl; exact WantT.none; rfl; apply TRead.head; exact ancB_nil; exact bg_rd20; refine dvz (.move rfl) ?_; refine dvz (.nilCheck rfl) ?_; refine dvz (.fieldAddr rfl rfl) ?_; refine dvz (.fieldAddr rfl rfl) ?_; apply DW.loadO; rfl; rfl; rfl; exact WantT.none; rfl; apply TRead.head; exact ancB_nil; exact bg_rd13; refine dvz (.move rfl) ?_; (iterate 6 refine dSz ?_); refine dvz (.pickT' rfl (by with_reducible rfl) rfl) ?_; refine dvz (.nilCheck rfl) ?_; refine dvz (.fieldAddr rfl rfl) ?_; apply DW.store; rfl; rfl; exact WantT.none; rfl; rfl; apply TSet.head; exact ancB_nil; kernel_rfl; apply bg_wr26 (z := .int .u8 0); apply DW.nil; simp only [fsOf_cons, fsOf_nil, fsOf_app, fsOf_tsOf, fsOf_new]; refine vNz ?_; refine vFz ?_; apply LW.store; rfl; rfl; apply SetAt.head; apply bg_wr40 (z := .bool false); refine nNz ?_; refine CW.seq ?_; apply CW.pre; refine AnyW.any 29 mixed (by decide +kernel) ?_; (try simp only [tsOf_cons, tsOf_nil, tsOf_app]); refine dvz (.move rfl) ?_; refine dvz (.move rfl) ?_; refine dvz (.move rfl) ?_; refine dvz (.move rfl) ?_; refine dvz (.move rfl) ?_; refine dvz (.nilCheck rfl) ?_; refine dvz (.fieldAddr rfl rfl) ?_; refine dvz (.fieldAddr rfl rfl) ?_; apply DW.loadO; rfl; rfl; rfl; exact WantT.none; rfl; apply TRead.head; exact ancB_nil; exact hs15; apply DW.callE; rfl; rfl; rfl; exact WantT.none; rfl; infer_instance; exact .cons rfl (.cons rfl .nil); rfl; apply ReadAll.own; apply TRead.head; exact ancB_nil; exact ReadAll.nil; intro w _ _; exact hWt _ w (by assumption) (by assumption); apply DW.callE; rfl; rfl; rfl; exact WantT.none; rfl; infer_instance; exact .cons rfl .nil; rfl; exact ReadAll.nil; intro w _ _; exact aOf_calls _ w; refine dvz (.move rfl) ?_; refine dvz (.nilCheck rfl) ?_; refine dvz (.fieldAddr rfl rfl) ?_; refine dvz (.fieldAddr rfl rfl) ?_; apply DW.loadO; rfl; rfl; rfl; exact WantT.none; rfl; apply TRead.head; exact ancB_nil; exact bg_rd5; refine dvz (.move rfl) ?_; refine dvz (.move rfl) ?_; refine dvz (.nilCheck rfl) ?_; refine dvz (.fieldAddr rfl rfl) ?_; refine dvz (.fieldAddr rfl rfl) ?_; apply DW.loadO; rfl; rfl; rfl; exact WantT.none; rfl; apply TRead.head; exact ancB_nil; exact hs16; apply DW.callE; rfl; rfl; rfl; exact WantT.none; rfl; infer_instance; exact .cons rfl (.cons rfl .nil); rfl; apply ReadAll.own; apply TRead.head; exact ancB_nil; exact ReadAll.nil; intro w _ _; exact hWv _ w (by assumption) (by assumption); refine dvz (.nilCheck rfl) ?_; refine dvz (.fieldAddr rfl rfl) ?_; apply DW.store; rfl; rfl; exact WantT.none; rfl; rfl; apply TSet.head; exact ancB_nil; kernel_rfl; apply bg_wr27 (z := .int .u64 0); refine dvz (.nilCheck rfl) ?_; refine dvz (.fieldAddr rfl rfl) ?_; apply DW.store; rfl; rfl; exact WantT.none; rfl; rfl; apply TSet.head; kernel_rfl; kernel_rfl; apply bg_wr29 (z := .int .u64 0); apply DW.nil; simp only [fsOf_cons, fsOf_nil, fsOf_app, fsOf_tsOf, fsOf_new]; refine vNz ?_; refine vFz ?_; refine LW.store rfl rfl .head bg_wr30 ?_; refine nSz ?_; refine vMz ?_; refine vMz ?_; refine vNz ?_; refine vFz ?_; refine ldz rfl .head bg_rd30 ?_; apply LW.v0; rfl; rfl; exact ValP.buildW0; refine lvz (.neW rfl rfl (by assumption) (by omega)) ?_; refine vNz ?_; refine vFz ?_; apply LW.store; rfl; rfl; apply SetAt.head; apply bg_wr34 (z := .bool false); refine nSz ?_; refine vMz ?_; refine vMz ?_; refine vNz ?_; refine vFz ?_; refine ldz rfl .head bg_rd27 ?_; refine vNz ?_; refine vFz ?_; apply LW.store; rfl; rfl; apply SetAt.head; apply bg_wr28 (z := .int .u64 0); refine nSz ?_; refine vMz ?_; refine vNz ?_; refine vFz ?_; refine vFz ?_; refine ldz rfl .head bg_rd20 ?_; refine lvz (.eqF rfl rfl (by omega)) ?_; refine nNz ?_; refine cFz ?_; refine CW.skip ?_)
      exact inPI (.inr rfl) .nil rfl .nil rfl ⟨rfl, rfl⟩
    | false =>
      rw [show whoC ⟨code, pc, stk, mem, gas, self, frm, val, inp, back, false⟩ A.op ws = ⟨A.op, wordI ws 1 % 18446744073709551616, wordI ws 1 % 18446744073709551616, self, wordI ws 2, !decide (wordI ws 2 = 0), 0, .slice none 0 0, .slice none 0 0, 0, 0, false⟩ by unfold whoC; rw [if_neg (by omega), hq]; rw [show decide (A.op = 250) = false from decide_eq_false (by omega)]; rfl]
      (refine sRz ?_; refine vMz ?_; refine vNz ?_; refine vFz ?_; refine vAz ?_; refine nNz ?_; refine CW.seq ?_; apply CW.pre; refine AnyW.any 23 mixed (by decide +kernel) ?_; (try simp only [tsOf_cons, tsOf_nil, tsOf_app]); refine dvz (.move rfl) ?_; refine dvz (.move rfl) ?_; refine dvz (.move rfl) ?_; refine dvz (.nilCheck rfl) ?_; refine dvz (.fieldAddr rfl rfl) ?_; refine dvz (.fieldAddr rfl rfl) ?_; apply DW.loadO; rfl; rfl; rfl; exact WantT.none; rfl; apply TRead.head; exact ancB_nil; exact bg_rd20; refine dvz (.move rfl) ?_; refine dvz (.nilCheck rfl) ?_; refine dvz (.fieldAddr rfl rfl) ?_; refine dvz (.fieldAddr rfl rfl) ?_; apply DW.loadO; rfl; rfl; rfl; exact WantT.none; rfl; apply TRead.head; exact ancB_nil; exact bg_rd13; refine dvz (.move rfl) ?_; refine dwz (.move rfl) ?_; refine dwz (.nilCheck rfl) ?_; refine dwz (.fieldAddr rfl rfl) ?_; refine dwz (.fieldAddr rfl rfl) ?_; apply DW.loadO; rfl; rfl; rfl; apply wantYes; rfl; rfl; (with_reducible rfl); rfl; apply TRead.head; exact ancB_nil; exact bg_rd20; refine dwz (.eqF rfl rfl (by omega)) ?_; refine dvz (.pickF' rfl (by with_reducible rfl) rfl) ?_; refine dvz (.nilCheck rfl) ?_; refine dvz (.fieldAddr rfl rfl) ?_; apply DW.store; rfl; rfl; exact WantT.none; rfl; rfl; apply TSet.head; exact ancB_nil; kernel_rfl; apply bg_wr26 (z := .int .u8 0); apply DW.nil; simp only [fsOf_cons, fsOf_nil, fsOf_app, fsOf_tsOf, fsOf_new]; refine vNz ?_; refine vFz ?_; apply LW.store; rfl; rfl; apply SetAt.head; apply bg_wr40 (z := .bool false); refine nNz ?_; refine CW.seq ?_; apply CW.pre; refine AnyW.any 29 mixed (by decide +kernel) ?_; (try simp only [tsOf_cons, tsOf_nil, tsOf_app]); refine dvz (.move rfl) ?_; refine dvz (.move rfl) ?_; refine dvz (.move rfl) ?_; refine dvz (.move rfl) ?_; refine dvz (.move rfl) ?_; refine dvz (.nilCheck rfl) ?_; refine dvz (.fieldAddr rfl rfl) ?_; refine dvz (.fieldAddr rfl rfl) ?_; apply DW.loadO; rfl; rfl; rfl; exact WantT.none; rfl; apply TRead.head; exact ancB_nil; exact hs15; apply DW.callE; rfl; rfl; rfl; exact WantT.none; rfl; infer_instance; exact .cons rfl (.cons rfl .nil); rfl; apply ReadAll.own; apply TRead.head; exact ancB_nil; exact ReadAll.nil; intro w _ _; exact hWt _ w (by assumption) (by assumption); apply DW.callE; rfl; rfl; rfl; exact WantT.none; rfl; infer_instance; exact .cons rfl .nil; rfl; exact ReadAll.nil; intro w _ _; exact aOf_calls _ w; refine dvz (.move rfl) ?_; refine dvz (.nilCheck rfl) ?_; refine dvz (.fieldAddr rfl rfl) ?_; refine dvz (.fieldAddr rfl rfl) ?_; apply DW.loadO; rfl; rfl; rfl; exact WantT.none; rfl; apply TRead.head; exact ancB_nil; exact bg_rd5; refine dvz (.move rfl) ?_; refine dvz (.move rfl) ?_; refine dvz (.nilCheck rfl) ?_; refine dvz (.fieldAddr rfl rfl) ?_; refine dvz (.fieldAddr rfl rfl) ?_; apply DW.loadO; rfl; rfl; rfl; exact WantT.none; rfl; apply TRead.head; exact ancB_nil; exact hs16; apply DW.callE; rfl; rfl; rfl; exact WantT.none; rfl; infer_instance; exact .cons rfl (.cons rfl .nil); rfl; apply ReadAll.own; apply TRead.head; exact ancB_nil; exact ReadAll.nil; intro w _ _; exact hWv _ w (by assumption) (by assumption); refine dvz (.nilCheck rfl) ?_; refine dvz (.fieldAddr rfl rfl) ?_; apply DW.store; rfl; rfl; exact WantT.none; rfl; rfl; apply TSet.head; exact ancB_nil; kernel_rfl; apply bg_wr27 (z := .int .u64 0); refine dvz (.nilCheck rfl) ?_; refine dvz (.fieldAddr rfl rfl) ?_; apply DW.store; rfl; rfl; exact WantT.none; rfl; rfl; apply TSet.head; kernel_rfl; kernel_rfl; apply bg_wr29 (z := .int .u64 0); apply DW.nil; simp only [fsOf_cons, fsOf_nil, fsOf_app, fsOf_tsOf, fsOf_new]; refine vNz ?_; refine vFz ?_; refine LW.store rfl rfl .head bg_wr30 ?_; refine nSz ?_; refine vMz ?_; refine vMz ?_; refine vNz ?_; refine vFz ?_; refine ldz rfl .head bg_rd30 ?_; apply LW.v0; rfl; rfl; exact ValP.buildW0; refine lvz (.neW rfl rfl (by assumption) (by omega)) ?_; refine vNz ?_; refine vFz ?_; apply LW.store; rfl; rfl; apply SetAt.head; apply bg_wr34 (z := .bool false); refine nSz ?_; refine vMz ?_; refine vMz ?_; refine vNz ?_; refine vFz ?_; refine ldz rfl .head bg_rd27 ?_; refine vNz ?_; refine vFz ?_; apply LW.store; rfl; rfl; apply SetAt.head; apply bg_wr28 (z := .int .u64 0); refine nSz ?_; refine vMz ?_; refine vNz ?_; refine vFz ?_; refine vFz ?_; refine ldz rfl .head bg_rd20 ?_; refine lvz (.eqF rfl rfl (by omega)) ?_; refine nNz ?_; refine cFz ?_; refine CW.skip ?_)
      exact inPI (.inr rfl) .nil rfl .nil rfl ⟨rfl, rfl⟩
  · have hWt := fun c => hW c 1 (by rw [hq] at hlen; dsimp only at hlen; omega)
    have hWv := fun c => hW c (-1) (by rw [hq] at hlen; dsimp only at hlen; omega)
    have hs15 : ∀ {f c E fr}, Rd Tryz.prog 3 (.cells (bga f A c) E fr) 15 (.int .i64 1) := fun {f c E fr} => by have h := bg_rd15 (P := Tryz.prog) (T := 3) (E := E) (fr := fr) (A := A) (f := f) (c := c); rw [hq] at h; exact h
    have hs16 : ∀ {f c E fr}, Rd Tryz.prog 3 (.cells (bga f A c) E fr) 16 (.int .i64 (-1)) := fun {f c E fr} => by have h := bg_rd16 (P := Tryz.prog) (T := 3) (E := E) (fr := fr) (A := A) (f := f) (c := c); rw [hq] at h; exact h
    have hv2 := hvl (-1)
    rcases ho with ho | ho
    · have h244 := ho
      have hz : wordI ws (-1) = 0 := by unfold wordI; rfl
      rw [hz] at hWv hv2
      cases stat with
      | true =>
        rw [show whoC ⟨code, pc, stk, mem, gas, self, frm, val, inp, back, true⟩ A.op ws = ⟨A.op, wordI ws 1 % 18446744073709551616, self, frm, val, false, 0, .slice none 0 0, .slice none 0 0, 0, 0, true⟩ by unfold whoC; rw [if_pos h244]]
        (refine sRz ?_; refine vMz ?_; refine vNz ?_; refine vFz ?_; refine vAz ?_; refine nNz ?_; refine CW.seq ?_; apply CW.pre; refine AnyW.any 23 mixed (by decide +kernel) ?_; (try simp only [tsOf_cons, tsOf_nil, tsOf_app]); refine dvz (.move rfl) ?_; refine dvz (.move rfl) ?_; refine dvz (.move rfl) ?_; refine dvz (.nilCheck rfl) ?_; refine dvz (.fieldAddr rfl rfl) ?_; refine dvz (.fieldAddr rfl rfl) ?_; apply DW.loadO; rfl; rfl; rfl; exact WantT.none; rfl; apply TRead.head; exact ancB_nil; exact bg_rd20; refine dvz (.move rfl) ?_; refine dvz (.nilCheck rfl) ?_; refine dvz (.fieldAddr rfl rfl) ?_; refine dvz (.fieldAddr rfl rfl) ?_; apply DW.loadO; rfl; rfl; rfl; exact WantT.none; rfl; apply TRead.head; exact ancB_nil; exact bg_rd13; refine dvz (.move rfl) ?_; (iterate 6 refine dSz ?_); refine dvz (.pickT' rfl (by with_reducible rfl) rfl) ?_; refine dvz (.nilCheck rfl) ?_; refine dvz (.fieldAddr rfl rfl) ?_; apply DW.store; rfl; rfl; exact WantT.none; rfl; rfl; apply TSet.head; exact ancB_nil; kernel_rfl; apply bg_wr26 (z := .int .u8 0); apply DW.nil; simp only [fsOf_cons, fsOf_nil, fsOf_app, fsOf_tsOf, fsOf_new]; refine vNz ?_; refine vFz ?_; apply LW.store; rfl; rfl; apply SetAt.head; apply bg_wr40 (z := .bool false); refine nNz ?_; refine CW.seq ?_; apply CW.pre; refine AnyW.any 29 mixed (by decide +kernel) ?_; (try simp only [tsOf_cons, tsOf_nil, tsOf_app]); refine dvz (.move rfl) ?_; refine dvz (.move rfl) ?_; refine dvz (.move rfl) ?_; refine dvz (.move rfl) ?_; refine dvz (.move rfl) ?_; refine dvz (.nilCheck rfl) ?_; refine dvz (.fieldAddr rfl rfl) ?_; refine dvz (.fieldAddr rfl rfl) ?_; apply DW.loadO; rfl; rfl; rfl; exact WantT.none; rfl; apply TRead.head; exact ancB_nil; exact hs15; apply DW.callE; rfl; rfl; rfl; exact WantT.none; rfl; infer_instance; exact .cons rfl (.cons rfl .nil); rfl; apply ReadAll.own; apply TRead.head; exact ancB_nil; exact ReadAll.nil; intro w _ _; exact hWt _ w (by assumption) (by assumption); apply DW.callE; rfl; rfl; rfl; exact WantT.none; rfl; infer_instance; exact .cons rfl .nil; rfl; exact ReadAll.nil; intro w _ _; exact aOf_calls _ w; refine dvz (.move rfl) ?_; refine dvz (.nilCheck rfl) ?_; refine dvz (.fieldAddr rfl rfl) ?_; refine dvz (.fieldAddr rfl rfl) ?_; apply DW.loadO; rfl; rfl; rfl; exact WantT.none; rfl; apply TRead.head; exact ancB_nil; exact bg_rd5; refine dvz (.move rfl) ?_; refine dvz (.move rfl) ?_; refine dvz (.nilCheck rfl) ?_; refine dvz (.fieldAddr rfl rfl) ?_; refine dvz (.fieldAddr rfl rfl) ?_; apply DW.loadO; rfl; rfl; rfl; exact WantT.none; rfl; apply TRead.head; exact ancB_nil; exact hs16; apply DW.callE; rfl; rfl; rfl; exact WantT.none; rfl; infer_instance; exact .cons rfl (.cons rfl .nil); rfl; apply ReadAll.own; apply TRead.head; exact ancB_nil; exact ReadAll.nil; intro w _ _; exact hWv _ w (by assumption) (by assumption); refine dvz (.nilCheck rfl) ?_; refine dvz (.fieldAddr rfl rfl) ?_; apply DW.store; rfl; rfl; exact WantT.none; rfl; rfl; apply TSet.head; exact ancB_nil; kernel_rfl; apply bg_wr27 (z := .int .u64 0); refine dvz (.nilCheck rfl) ?_; refine dvz (.fieldAddr rfl rfl) ?_; apply DW.store; rfl; rfl; exact WantT.none; rfl; rfl; apply TSet.head; kernel_rfl; kernel_rfl; apply bg_wr29 (z := .int .u64 0); apply DW.nil; simp only [fsOf_cons, fsOf_nil, fsOf_app, fsOf_tsOf, fsOf_new]; refine vNz ?_; refine vFz ?_; refine LW.store rfl rfl .head bg_wr30 ?_; refine nSz ?_; refine vMz ?_; refine vMz ?_; refine vNz ?_; refine vFz ?_; refine ldz rfl .head bg_rd30 ?_; apply LW.v0; rfl; rfl; exact ValP.buildW0; refine lvz (.neWF rfl rfl (by with_reducible rfl)) ?_; refine vNz ?_; refine vFz ?_; apply LW.store; rfl; rfl; apply SetAt.head; apply bg_wr34 (z := .bool false); refine nSz ?_; refine vMz ?_; refine vMz ?_; refine vNz ?_; refine vFz ?_; refine ldz rfl .head bg_rd27 ?_; refine vNz ?_; refine vFz ?_; apply LW.store; rfl; rfl; apply SetAt.head; apply bg_wr28 (z := .int .u64 0); refine nSz ?_; refine vMz ?_; refine vNz ?_; refine vFz ?_; refine vFz ?_; refine ldz rfl .head bg_rd20 ?_; refine lvz (.eqT rfl rfl (by omega)) ?_; refine nNz ?_; refine cTz ?_; apply CW.pre; refine AnyW.any 24 mixed (by decide +kernel) ?_; (try simp only [tsOf_cons, tsOf_nil, tsOf_app]); refine dvz (.move rfl) ?_; refine dvz (.move rfl) ?_; refine dvz (.move rfl) ?_; refine dvz (.move rfl) ?_; refine dvz (.nilCheck rfl) ?_; refine dvz (.fieldAddr rfl rfl) ?_; refine dvz (.fieldAddr rfl rfl) ?_; apply DW.loadO; rfl; rfl; rfl; exact WantT.none; rfl; apply TRead.head; exact ancB_nil; exact bg_rd5; refine dvz (.move rfl) ?_; refine dvz (.nilCheck rfl) ?_; refine dvz (.fieldAddr rfl rfl) ?_; refine dvz (.fieldAddr rfl rfl) ?_; apply DW.loadO; rfl; rfl; rfl; exact WantT.none; rfl; apply TRead.head; exact ancB_nil; exact bg_rd6; refine dvz (.move rfl) ?_; refine dvz (.nilCheck rfl) ?_; refine dvz (.fieldAddr rfl rfl) ?_; refine dvz (.fieldAddr rfl rfl) ?_; apply DW.loadO; rfl; rfl; rfl; exact WantT.none; rfl; apply TRead.head; exact ancB_nil; exact bg_rd7; refine dvz (.nilCheck rfl) ?_; refine dvz (.fieldAddr rfl rfl) ?_; apply DW.store; rfl; rfl; exact WantT.none; rfl; rfl; apply TSet.head; exact ancB_nil; kernel_rfl; apply bg_wr28 (z := .int .u64 0); refine dvz (.nilCheck rfl) ?_; refine dvz (.fieldAddr rfl rfl) ?_; apply DW.store; rfl; rfl; exact WantT.none; rfl; rfl; apply TSet.head; kernel_rfl; kernel_rfl; apply bg_wr29 (z := .int .u64 0); apply DW.nil; simp only [fsOf_cons, fsOf_nil, fsOf_app, fsOf_tsOf, fsOf_new]; refine vNz ?_; refine vFz ?_; refine LW.store rfl rfl .head bg_wr30 ?_; apply LW.nil)
        exact inPI (.inr rfl) .nil rfl .nil rfl ⟨rfl, rfl⟩
      | false =>
        rw [show whoC ⟨code, pc, stk, mem, gas, self, frm, val, inp, back, false⟩ A.op ws = ⟨A.op, wordI ws 1 % 18446744073709551616, self, frm, val, false, 0, .slice none 0 0, .slice none 0 0, 0, 0, false⟩ by unfold whoC; rw [if_pos h244]]
        (refine sRz ?_; refine vMz ?_; refine vNz ?_; refine vFz ?_; refine vAz ?_; refine nNz ?_; refine CW.seq ?_; apply CW.pre; refine AnyW.any 23 mixed (by decide +kernel) ?_; (try simp only [tsOf_cons, tsOf_nil, tsOf_app]); refine dvz (.move rfl) ?_; refine dvz (.move rfl) ?_; refine dvz (.move rfl) ?_; refine dvz (.nilCheck rfl) ?_; refine dvz (.fieldAddr rfl rfl) ?_; refine dvz (.fieldAddr rfl rfl) ?_; apply DW.loadO; rfl; rfl; rfl; exact WantT.none; rfl; apply TRead.head; exact ancB_nil; exact bg_rd20; refine dvz (.move rfl) ?_; refine dvz (.nilCheck rfl) ?_; refine dvz (.fieldAddr rfl rfl) ?_; refine dvz (.fieldAddr rfl rfl) ?_; apply DW.loadO; rfl; rfl; rfl; exact WantT.none; rfl; apply TRead.head; exact ancB_nil; exact bg_rd13; refine dvz (.move rfl) ?_; refine dwz (.move rfl) ?_; refine dwz (.nilCheck rfl) ?_; refine dwz (.fieldAddr rfl rfl) ?_; refine dwz (.fieldAddr rfl rfl) ?_; apply DW.loadO; rfl; rfl; rfl; apply wantYes; rfl; rfl; (with_reducible rfl); rfl; apply TRead.head; exact ancB_nil; exact bg_rd20; refine dwz (.eqF rfl rfl (by omega)) ?_; refine dvz (.pickF' rfl (by with_reducible rfl) rfl) ?_; refine dvz (.nilCheck rfl) ?_; refine dvz (.fieldAddr rfl rfl) ?_; apply DW.store; rfl; rfl; exact WantT.none; rfl; rfl; apply TSet.head; exact ancB_nil; kernel_rfl; apply bg_wr26 (z := .int .u8 0); apply DW.nil; simp only [fsOf_cons, fsOf_nil, fsOf_app, fsOf_tsOf, fsOf_new]; refine vNz ?_; refine vFz ?_; apply LW.store; rfl; rfl; apply SetAt.head; apply bg_wr40 (z := .bool false); refine nNz ?_; refine CW.seq ?_; apply CW.pre; refine AnyW.any 29 mixed (by decide +kernel) ?_; (try simp only [tsOf_cons, tsOf_nil, tsOf_app]); refine dvz (.move rfl) ?_; refine dvz (.move rfl) ?_; refine dvz (.move rfl) ?_; refine dvz (.move rfl) ?_; refine dvz (.move rfl) ?_; refine dvz (.nilCheck rfl) ?_; refine dvz (.fieldAddr rfl rfl) ?_; refine dvz (.fieldAddr rfl rfl) ?_; apply DW.loadO; rfl; rfl; rfl; exact WantT.none; rfl; apply TRead.head; exact ancB_nil; exact hs15; apply DW.callE; rfl; rfl; rfl; exact WantT.none; rfl; infer_instance; exact .cons rfl (.cons rfl .nil); rfl; apply ReadAll.own; apply TRead.head; exact ancB_nil; exact ReadAll.nil; intro w _ _; exact hWt _ w (by assumption) (by assumption); apply DW.callE; rfl; rfl; rfl; exact WantT.none; rfl; infer_instance; exact .cons rfl .nil; rfl; exact ReadAll.nil; intro w _ _; exact aOf_calls _ w; refine dvz (.move rfl) ?_; refine dvz (.nilCheck rfl) ?_; refine dvz (.fieldAddr rfl rfl) ?_; refine dvz (.fieldAddr rfl rfl) ?_; apply DW.loadO; rfl; rfl; rfl; exact WantT.none; rfl; apply TRead.head; exact ancB_nil; exact bg_rd5; refine dvz (.move rfl) ?_; refine dvz (.move rfl) ?_; refine dvz (.nilCheck rfl) ?_; refine dvz (.fieldAddr rfl rfl) ?_; refine dvz (.fieldAddr rfl rfl) ?_; apply DW.loadO; rfl; rfl; rfl; exact WantT.none; rfl; apply TRead.head; exact ancB_nil; exact hs16; apply DW.callE; rfl; rfl; rfl; exact WantT.none; rfl; infer_instance; exact .cons rfl (.cons rfl .nil); rfl; apply ReadAll.own; apply TRead.head; exact ancB_nil; exact ReadAll.nil; intro w _ _; exact hWv _ w (by assumption) (by assumption); refine dvz (.nilCheck rfl) ?_; refine dvz (.fieldAddr rfl rfl) ?_; apply DW.store; rfl; rfl; exact WantT.none; rfl; rfl; apply TSet.head; exact ancB_nil; kernel_rfl; apply bg_wr27 (z := .int .u64 0); refine dvz (.nilCheck rfl) ?_; refine dvz (.fieldAddr rfl rfl) ?_; apply DW.store; rfl; rfl; exact WantT.none; rfl; rfl; apply TSet.head; kernel_rfl; kernel_rfl; apply bg_wr29 (z := .int .u64 0); apply DW.nil; simp only [fsOf_cons, fsOf_nil, fsOf_app, fsOf_tsOf, fsOf_new]; refine vNz ?_; refine vFz ?_; refine LW.store rfl rfl .head bg_wr30 ?_; refine nSz ?_; refine vMz ?_; refine vMz ?_; refine vNz ?_; refine vFz ?_; refine ldz rfl .head bg_rd30 ?_; apply LW.v0; rfl; rfl; exact ValP.buildW0; refine lvz (.neWF rfl rfl (by with_reducible rfl)) ?_; refine vNz ?_; refine vFz ?_; apply LW.store; rfl; rfl; apply SetAt.head; apply bg_wr34 (z := .bool false); refine nSz ?_; refine vMz ?_; refine vMz ?_; refine vNz ?_; refine vFz ?_; refine ldz rfl .head bg_rd27 ?_; refine vNz ?_; refine vFz ?_; apply LW.store; rfl; rfl; apply SetAt.head; apply bg_wr28 (z := .int .u64 0); refine nSz ?_; refine vMz ?_; refine vNz ?_; refine vFz ?_; refine vFz ?_; refine ldz rfl .head bg_rd20 ?_; refine lvz (.eqT rfl rfl (by omega)) ?_; refine nNz ?_; refine cTz ?_; apply CW.pre; refine AnyW.any 24 mixed (by decide +kernel) ?_; (try simp only [tsOf_cons, tsOf_nil, tsOf_app]); refine dvz (.move rfl) ?_; refine dvz (.move rfl) ?_; refine dvz (.move rfl) ?_; refine dvz (.move rfl) ?_; refine dvz (.nilCheck rfl) ?_; refine dvz (.fieldAddr rfl rfl) ?_; refine dvz (.fieldAddr rfl rfl) ?_; apply DW.loadO; rfl; rfl; rfl; exact WantT.none; rfl; apply TRead.head; exact ancB_nil; exact bg_rd5; refine dvz (.move rfl) ?_; refine dvz (.nilCheck rfl) ?_; refine dvz (.fieldAddr rfl rfl) ?_; refine dvz (.fieldAddr rfl rfl) ?_; apply DW.loadO; rfl; rfl; rfl; exact WantT.none; rfl; apply TRead.head; exact ancB_nil; exact bg_rd6; refine dvz (.move rfl) ?_; refine dvz (.nilCheck rfl) ?_; refine dvz (.fieldAddr rfl rfl) ?_; refine dvz (.fieldAddr rfl rfl) ?_; apply DW.loadO; rfl; rfl; rfl; exact WantT.none; rfl; apply TRead.head; exact ancB_nil; exact bg_rd7; refine dvz (.nilCheck rfl) ?_; refine dvz (.fieldAddr rfl rfl) ?_; apply DW.store; rfl; rfl; exact WantT.none; rfl; rfl; apply TSet.head; exact ancB_nil; kernel_rfl; apply bg_wr28 (z := .int .u64 0); refine dvz (.nilCheck rfl) ?_; refine dvz (.fieldAddr rfl rfl) ?_; apply DW.store; rfl; rfl; exact WantT.none; rfl; rfl; apply TSet.head; kernel_rfl; kernel_rfl; apply bg_wr29 (z := .int .u64 0); apply DW.nil; simp only [fsOf_cons, fsOf_nil, fsOf_app, fsOf_tsOf, fsOf_new]; refine vNz ?_; refine vFz ?_; refine LW.store rfl rfl .head bg_wr30 ?_; apply LW.nil)
        exact inPI (.inr rfl) .nil rfl .nil rfl ⟨rfl, rfl⟩
    · cases stat with
      | true =>
        rw [show whoC ⟨code, pc, stk, mem, gas, self, frm, val, inp, back, true⟩ A.op ws = ⟨A.op, wordI ws 1 % 18446744073709551616, wordI ws 1 % 18446744073709551616, self, wordI ws (-1), !decide (wordI ws (-1) = 0), 0, .slice none 0 0, .slice none 0 0, 0, 0, true⟩ by unfold whoC; rw [if_neg (by omega), hq]; rfl]
        (refine sRz ?_; refine vMz ?_; refine vNz ?_; refine vFz ?_; refine vAz ?_; refine nNz ?_; refine CW.seq ?_; apply CW.pre; refine AnyW.any 23 mixed (by decide +kernel) ?_; (try simp only [tsOf_cons, tsOf_nil, tsOf_app]); refine dvz (.move rfl) ?_; refine dvz (.move rfl) ?_; refine dvz (.move rfl) ?_; refine dvz (.nilCheck rfl) ?_; refine dvz (.fieldAddr rfl rfl) ?_; refine dvz (.fieldAddr rfl rfl) ?_; apply DW.loadO; rfl; rfl; rfl; exact WantT.none; rfl; apply TRead.head; exact ancB_nil; exact bg_rd20; refine dvz (.move rfl) ?_; refine dvz (.nilCheck rfl) ?_; refine dvz (.fieldAddr rfl rfl) ?_; refine dvz (.fieldAddr rfl rfl) ?_; apply DW.loadO; rfl; rfl; rfl; exact WantT.none; rfl; apply TRead.head; exact ancB_nil; exact bg_rd13; refine dvz (.move rfl) ?_; (iterate 6 refine dSz ?_); refine dvz (.pickT' rfl (by with_reducible rfl) rfl) ?_; refine dvz (.nilCheck rfl) ?_; refine dvz (.fieldAddr rfl rfl) ?_; apply DW.store; rfl; rfl; exact WantT.none; rfl; rfl; apply TSet.head; exact ancB_nil; kernel_rfl; apply bg_wr26 (z := .int .u8 0); apply DW.nil; simp only [fsOf_cons, fsOf_nil, fsOf_app, fsOf_tsOf, fsOf_new]; refine vNz ?_; refine vFz ?_; apply LW.store; rfl; rfl; apply SetAt.head; apply bg_wr40 (z := .bool false); refine nNz ?_; refine CW.seq ?_; apply CW.pre; refine AnyW.any 29 mixed (by decide +kernel) ?_; (try simp only [tsOf_cons, tsOf_nil, tsOf_app]); refine dvz (.move rfl) ?_; refine dvz (.move rfl) ?_; refine dvz (.move rfl) ?_; refine dvz (.move rfl) ?_; refine dvz (.move rfl) ?_; refine dvz (.nilCheck rfl) ?_; refine dvz (.fieldAddr rfl rfl) ?_; refine dvz (.fieldAddr rfl rfl) ?_; apply DW.loadO; rfl; rfl; rfl; exact WantT.none; rfl; apply TRead.head; exact ancB_nil; exact hs15; apply DW.callE; rfl; rfl; rfl; exact WantT.none; rfl; infer_instance; exact .cons rfl (.cons rfl .nil); rfl; apply ReadAll.own; apply TRead.head; exact ancB_nil; exact ReadAll.nil; intro w _ _; exact hWt _ w (by assumption) (by assumption); apply DW.callE; rfl; rfl; rfl; exact WantT.none; rfl; infer_instance; exact .cons rfl .nil; rfl; exact ReadAll.nil; intro w _ _; exact aOf_calls _ w; refine dvz (.move rfl) ?_; refine dvz (.nilCheck rfl) ?_; refine dvz (.fieldAddr rfl rfl) ?_; refine dvz (.fieldAddr rfl rfl) ?_; apply DW.loadO; rfl; rfl; rfl; exact WantT.none; rfl; apply TRead.head; exact ancB_nil; exact bg_rd5; refine dvz (.move rfl) ?_; refine dvz (.move rfl) ?_; refine dvz (.nilCheck rfl) ?_; refine dvz (.fieldAddr rfl rfl) ?_; refine dvz (.fieldAddr rfl rfl) ?_; apply DW.loadO; rfl; rfl; rfl; exact WantT.none; rfl; apply TRead.head; exact ancB_nil; exact hs16; apply DW.callE; rfl; rfl; rfl; exact WantT.none; rfl; infer_instance; exact .cons rfl (.cons rfl .nil); rfl; apply ReadAll.own; apply TRead.head; exact ancB_nil; exact ReadAll.nil; intro w _ _; exact hWv _ w (by assumption) (by assumption); refine dvz (.nilCheck rfl) ?_; refine dvz (.fieldAddr rfl rfl) ?_; apply DW.store; rfl; rfl; exact WantT.none; rfl; rfl; apply TSet.head; exact ancB_nil; kernel_rfl; apply bg_wr27 (z := .int .u64 0); refine dvz (.nilCheck rfl) ?_; refine dvz (.fieldAddr rfl rfl) ?_; apply DW.store; rfl; rfl; exact WantT.none; rfl; rfl; apply TSet.head; kernel_rfl; kernel_rfl; apply bg_wr29 (z := .int .u64 0); apply DW.nil; simp only [fsOf_cons, fsOf_nil, fsOf_app, fsOf_tsOf, fsOf_new]; refine vNz ?_; refine vFz ?_; refine LW.store rfl rfl .head bg_wr30 ?_; refine nSz ?_; refine vMz ?_; refine vMz ?_; refine vNz ?_; refine vFz ?_; refine ldz rfl .head bg_rd30 ?_; apply LW.v0; rfl; rfl; exact ValP.buildW0; refine lvz (.neW rfl rfl (by assumption) (by omega)) ?_; refine vNz ?_; refine vFz ?_; apply LW.store; rfl; rfl; apply SetAt.head; apply bg_wr34 (z := .bool false); refine nSz ?_; refine vMz ?_; refine vMz ?_; refine vNz ?_; refine vFz ?_; refine ldz rfl .head bg_rd27 ?_; refine vNz ?_; refine vFz ?_; apply LW.store; rfl; rfl; apply SetAt.head; apply bg_wr28 (z := .int .u64 0); refine nSz ?_; refine vMz ?_; refine vNz ?_; refine vFz ?_; refine vFz ?_; refine ldz rfl .head bg_rd20 ?_; refine lvz (.eqF rfl rfl (by omega)) ?_; refine nNz ?_; refine cFz ?_; refine CW.skip ?_)
        exact inPI (.inr rfl) .nil rfl .nil rfl ⟨rfl, rfl⟩
      | false =>
        rw [show whoC ⟨code, pc, stk, mem, gas, self, frm, val, inp, back, false⟩ A.op ws = ⟨A.op, wordI ws 1 % 18446744073709551616, wordI ws 1 % 18446744073709551616, self, wordI ws (-1), !decide (wordI ws (-1) = 0), 0, .slice none 0 0, .slice none 0 0, 0, 0, true⟩ by unfold whoC; rw [if_neg (by omega), hq]; rw [decide_eq_true ho]; rfl]
        (refine sRz ?_; refine vMz ?_; refine vNz ?_; refine vFz ?_; refine vAz ?_; refine nNz ?_; refine CW.seq ?_; apply CW.pre; refine AnyW.any 23 mixed (by decide +kernel) ?_; (try simp only [tsOf_cons, tsOf_nil, tsOf_app]); refine dvz (.move rfl) ?_; refine dvz (.move rfl) ?_; refine dvz (.move rfl) ?_; refine dvz (.nilCheck rfl) ?_; refine dvz (.fieldAddr rfl rfl) ?_; refine dvz (.fieldAddr rfl rfl) ?_; apply DW.loadO; rfl; rfl; rfl; exact WantT.none; rfl; apply TRead.head; exact ancB_nil; exact bg_rd20; refine dvz (.move rfl) ?_; refine dvz (.nilCheck rfl) ?_; refine dvz (.fieldAddr rfl rfl) ?_; refine dvz (.fieldAddr rfl rfl) ?_; apply DW.loadO; rfl; rfl; rfl; exact WantT.none; rfl; apply TRead.head; exact ancB_nil; exact bg_rd13; refine dvz (.move rfl) ?_; refine dwz (.move rfl) ?_; refine dwz (.nilCheck rfl) ?_; refine dwz (.fieldAddr rfl rfl) ?_; refine dwz (.fieldAddr rfl rfl) ?_; apply DW.loadO; rfl; rfl; rfl; apply wantYes; rfl; rfl; (with_reducible rfl); rfl; apply TRead.head; exact ancB_nil; exact bg_rd20; refine dwz (.eqT rfl rfl (by omega)) ?_; refine dvz (.pickF' rfl (by with_reducible rfl) rfl) ?_; refine dvz (.nilCheck rfl) ?_; refine dvz (.fieldAddr rfl rfl) ?_; apply DW.store; rfl; rfl; exact WantT.none; rfl; rfl; apply TSet.head; exact ancB_nil; kernel_rfl; apply bg_wr26 (z := .int .u8 0); apply DW.nil; simp only [fsOf_cons, fsOf_nil, fsOf_app, fsOf_tsOf, fsOf_new]; refine vNz ?_; refine vFz ?_; apply LW.store; rfl; rfl; apply SetAt.head; apply bg_wr40 (z := .bool false); refine nNz ?_; refine CW.seq ?_; apply CW.pre; refine AnyW.any 29 mixed (by decide +kernel) ?_; (try simp only [tsOf_cons, tsOf_nil, tsOf_app]); refine dvz (.move rfl) ?_; refine dvz (.move rfl) ?_; refine dvz (.move rfl) ?_; refine dvz (.move rfl) ?_; refine dvz (.move rfl) ?_; refine dvz (.nilCheck rfl) ?_; refine dvz (.fieldAddr rfl rfl) ?_; refine dvz (.fieldAddr rfl rfl) ?_; apply DW.loadO; rfl; rfl; rfl; exact WantT.none; rfl; apply TRead.head; exact ancB_nil; exact hs15; apply DW.callE; rfl; rfl; rfl; exact WantT.none; rfl; infer_instance; exact .cons rfl (.cons rfl .nil); rfl; apply ReadAll.own; apply TRead.head; exact ancB_nil; exact ReadAll.nil; intro w _ _; exact hWt _ w (by assumption) (by assumption); apply DW.callE; rfl; rfl; rfl; exact WantT.none; rfl; infer_instance; exact .cons rfl .nil; rfl; exact ReadAll.nil; intro w _ _; exact aOf_calls _ w; refine dvz (.move rfl) ?_; refine dvz (.nilCheck rfl) ?_; refine dvz (.fieldAddr rfl rfl) ?_; refine dvz (.fieldAddr rfl rfl) ?_; apply DW.loadO; rfl; rfl; rfl; exact WantT.none; rfl; apply TRead.head; exact ancB_nil; exact bg_rd5; refine dvz (.move rfl) ?_; refine dvz (.move rfl) ?_; refine dvz (.nilCheck rfl) ?_; refine dvz (.fieldAddr rfl rfl) ?_; refine dvz (.fieldAddr rfl rfl) ?_; apply DW.loadO; rfl; rfl; rfl; exact WantT.none; rfl; apply TRead.head; exact ancB_nil; exact hs16; apply DW.callE; rfl; rfl; rfl; exact WantT.none; rfl; infer_instance; exact .cons rfl (.cons rfl .nil); rfl; apply ReadAll.own; apply TRead.head; exact ancB_nil; exact ReadAll.nil; intro w _ _; exact hWv _ w (by assumption) (by assumption); refine dvz (.nilCheck rfl) ?_; refine dvz (.fieldAddr rfl rfl) ?_; apply DW.store; rfl; rfl; exact WantT.none; rfl; rfl; apply TSet.head; exact ancB_nil; kernel_rfl; apply bg_wr27 (z := .int .u64 0); refine dvz (.nilCheck rfl) ?_; refine dvz (.fieldAddr rfl rfl) ?_; apply DW.store; rfl; rfl; exact WantT.none; rfl; rfl; apply TSet.head; kernel_rfl; kernel_rfl; apply bg_wr29 (z := .int .u64 0); apply DW.nil; simp only [fsOf_cons, fsOf_nil, fsOf_app, fsOf_tsOf, fsOf_new]; refine vNz ?_; refine vFz ?_; refine LW.store rfl rfl .head bg_wr30 ?_; refine nSz ?_; refine vMz ?_; refine vMz ?_; refine vNz ?_; refine vFz ?_; refine ldz rfl .head bg_rd30 ?_; apply LW.v0; rfl; rfl; exact ValP.buildW0; refine lvz (.neW rfl rfl (by assumption) (by omega)) ?_; refine vNz ?_; refine vFz ?_; apply LW.store; rfl; rfl; apply SetAt.head; apply bg_wr34 (z := .bool false); refine nSz ?_; refine vMz ?_; refine vMz ?_; refine vNz ?_; refine vFz ?_; refine ldz rfl .head bg_rd27 ?_; refine vNz ?_; refine vFz ?_; apply LW.store; rfl; rfl; apply SetAt.head; apply bg_wr28 (z := .int .u64 0); refine nSz ?_; refine vMz ?_; refine vNz ?_; refine vFz ?_; refine vFz ?_; refine ldz rfl .head bg_rd20 ?_; refine lvz (.eqF rfl rfl (by omega)) ?_; refine nNz ?_; refine cFz ?_; refine CW.skip ?_)
        exact inPI (.inr rfl) .nil rfl .nil rfl ⟨rfl, rfl⟩
  · have hWt := fun c => hW c (-1) (by rw [hq] at hlen; dsimp only at hlen; omega)
    have hWv := fun c => hW c 0 (by rw [hq] at hlen; dsimp only at hlen; omega)
    have hs15 : ∀ {f c E fr}, Rd Tryz.prog 3 (.cells (bga f A c) E fr) 15 (.int .i64 (-1)) := fun {f c E fr} => by have h := bg_rd15 (P := Tryz.prog) (T := 3) (E := E) (fr := fr) (A := A) (f := f) (c := c); rw [hq] at h; exact h
    have hs16 : ∀ {f c E fr}, Rd Tryz.prog 3 (.cells (bga f A c) E fr) 16 (.int .i64 0) := fun {f c E fr} => by have h := bg_rd16 (P := Tryz.prog) (T := 3) (E := E) (fr := fr) (A := A) (f := f) (c := c); rw [hq] at h; exact h
    have hv2 := hvl 0
    cases stat with
    | true =>
      rw [show whoC ⟨code, pc, stk, mem, gas, self, frm, val, inp, back, true⟩ A.op ws = ⟨A.op, wordI ws (-1) % 18446744073709551616, wordI ws (-1) % 18446744073709551616, self, wordI ws 0, !decide (wordI ws 0 = 0), 0, .slice none 0 0, .slice none 0 0, 0, 0, true⟩ by unfold whoC; rw [if_neg (by omega), hq]; rfl]
      (refine sRz ?_; refine vMz ?_; refine vNz ?_; refine vFz ?_; refine vAz ?_; refine nNz ?_; refine CW.seq ?_; apply CW.pre; refine AnyW.any 23 mixed (by decide +kernel) ?_; (try simp only [tsOf_cons, tsOf_nil, tsOf_app]); refine dvz (.move rfl) ?_; refine dvz (.move rfl) ?_; refine dvz (.move rfl) ?_; refine dvz (.nilCheck rfl) ?_; refine dvz (.fieldAddr rfl rfl) ?_; refine dvz (.fieldAddr rfl rfl) ?_; apply DW.loadO; rfl; rfl; rfl; exact WantT.none; rfl; apply TRead.head; exact ancB_nil; exact bg_rd20; refine dvz (.move rfl) ?_; refine dvz (.nilCheck rfl) ?_; refine dvz (.fieldAddr rfl rfl) ?_; refine dvz (.fieldAddr rfl rfl) ?_; apply DW.loadO; rfl; rfl; rfl; exact WantT.none; rfl; apply TRead.head; exact ancB_nil; exact bg_rd13; refine dvz (.move rfl) ?_; (iterate 6 refine dSz ?_); refine dvz (.pickT' rfl (by with_reducible rfl) rfl) ?_; refine dvz (.nilCheck rfl) ?_; refine dvz (.fieldAddr rfl rfl) ?_; apply DW.store; rfl; rfl; exact WantT.none; rfl; rfl; apply TSet.head; exact ancB_nil; kernel_rfl; apply bg_wr26 (z := .int .u8 0); apply DW.nil; simp only [fsOf_cons, fsOf_nil, fsOf_app, fsOf_tsOf, fsOf_new]; refine vNz ?_; refine vFz ?_; apply LW.store; rfl; rfl; apply SetAt.head; apply bg_wr40 (z := .bool false); refine nNz ?_; refine CW.seq ?_; apply CW.pre; refine AnyW.any 29 mixed (by decide +kernel) ?_; (try simp only [tsOf_cons, tsOf_nil, tsOf_app]); refine dvz (.move rfl) ?_; refine dvz (.move rfl) ?_; refine dvz (.move rfl) ?_; refine dvz (.move rfl) ?_; refine dvz (.move rfl) ?_; refine dvz (.nilCheck rfl) ?_; refine dvz (.fieldAddr rfl rfl) ?_; refine dvz (.fieldAddr rfl rfl) ?_; apply DW.loadO; rfl; rfl; rfl; exact WantT.none; rfl; apply TRead.head; exact ancB_nil; exact hs15; apply DW.callE; rfl; rfl; rfl; exact WantT.none; rfl; infer_instance; exact .cons rfl (.cons rfl .nil); rfl; apply ReadAll.own; apply TRead.head; exact ancB_nil; exact ReadAll.nil; intro w _ _; exact hWt _ w (by assumption) (by assumption); apply DW.callE; rfl; rfl; rfl; exact WantT.none; rfl; infer_instance; exact .cons rfl .nil; rfl; exact ReadAll.nil; intro w _ _; exact aOf_calls _ w; refine dvz (.move rfl) ?_; refine dvz (.nilCheck rfl) ?_; refine dvz (.fieldAddr rfl rfl) ?_; refine dvz (.fieldAddr rfl rfl) ?_; apply DW.loadO; rfl; rfl; rfl; exact WantT.none; rfl; apply TRead.head; exact ancB_nil; exact bg_rd5; refine dvz (.move rfl) ?_; refine dvz (.move rfl) ?_; refine dvz (.nilCheck rfl) ?_; refine dvz (.fieldAddr rfl rfl) ?_; refine dvz (.fieldAddr rfl rfl) ?_; apply DW.loadO; rfl; rfl; rfl; exact WantT.none; rfl; apply TRead.head; exact ancB_nil; exact hs16; apply DW.callE; rfl; rfl; rfl; exact WantT.none; rfl; infer_instance; exact .cons rfl (.cons rfl .nil); rfl; apply ReadAll.own; apply TRead.head; exact ancB_nil; exact ReadAll.nil; intro w _ _; exact hWv _ w (by assumption) (by assumption); refine dvz (.nilCheck rfl) ?_; refine dvz (.fieldAddr rfl rfl) ?_; apply DW.store; rfl; rfl; exact WantT.none; rfl; rfl; apply TSet.head; exact ancB_nil; kernel_rfl; apply bg_wr27 (z := .int .u64 0); refine dvz (.nilCheck rfl) ?_; refine dvz (.fieldAddr rfl rfl) ?_; apply DW.store; rfl; rfl; exact WantT.none; rfl; rfl; apply TSet.head; kernel_rfl; kernel_rfl; apply bg_wr29 (z := .int .u64 0); apply DW.nil; simp only [fsOf_cons, fsOf_nil, fsOf_app, fsOf_tsOf, fsOf_new]; refine vNz ?_; refine vFz ?_; refine LW.store rfl rfl .head bg_wr30 ?_; refine nSz ?_; refine vMz ?_; refine vMz ?_; refine vNz ?_; refine vFz ?_; refine ldz rfl .head bg_rd30 ?_; apply LW.v0; rfl; rfl; exact ValP.buildW0; refine lvz (.neW rfl rfl (by assumption) (by omega)) ?_; refine vNz ?_; refine vFz ?_; apply LW.store; rfl; rfl; apply SetAt.head; apply bg_wr34 (z := .bool false); refine nSz ?_; refine vMz ?_; refine vMz ?_; refine vNz ?_; refine vFz ?_; refine ldz rfl .head bg_rd27 ?_; refine vNz ?_; refine vFz ?_; apply LW.store; rfl; rfl; apply SetAt.head; apply bg_wr28 (z := .int .u64 0); refine nSz ?_; refine vMz ?_; refine vNz ?_; refine vFz ?_; refine vFz ?_; refine ldz rfl .head bg_rd20 ?_; refine lvz (.eqF rfl rfl (by omega)) ?_; refine nNz ?_; refine cFz ?_; refine CW.skip ?_)
      exact inPI (.inr rfl) .nil rfl .nil rfl ⟨rfl, rfl⟩
    | false =>
      rw [show whoC ⟨code, pc, stk, mem, gas, self, frm, val, inp, back, false⟩ A.op ws = ⟨A.op, wordI ws (-1) % 18446744073709551616, wordI ws (-1) % 18446744073709551616, self, wordI ws 0, !decide (wordI ws 0 = 0), 0, .slice none 0 0, .slice none 0 0, 0, 0, false⟩ by unfold whoC; rw [if_neg (by omega), hq]; rw [show decide (A.op = 250) = false from decide_eq_false (by omega)]; rfl]
      (refine sRz ?_; refine vMz ?_; refine vNz ?_; refine vFz ?_; refine vAz ?_; refine nNz ?_; refine CW.seq ?_; apply CW.pre; refine AnyW.any 23 mixed (by decide +kernel) ?_; (try simp only [tsOf_cons, tsOf_nil, tsOf_app]); refine dvz (.move rfl) ?_; refine dvz (.move rfl) ?_; refine dvz (.move rfl) ?_; refine dvz (.nilCheck rfl) ?_; refine dvz (.fieldAddr rfl rfl) ?_; refine dvz (.fieldAddr rfl rfl) ?_; apply DW.loadO; rfl; rfl; rfl; exact WantT.none; rfl; apply TRead.head; exact ancB_nil; exact bg_rd20; refine dvz (.move rfl) ?_; refine dvz (.nilCheck rfl) ?_; refine dvz (.fieldAddr rfl rfl) ?_; refine dvz (.fieldAddr rfl rfl) ?_; apply DW.loadO; rfl; rfl; rfl; exact WantT.none; rfl; apply TRead.head; exact ancB_nil; exact bg_rd13; refine dvz (.move rfl) ?_; refine dwz (.move rfl) ?_; refine dwz (.nilCheck rfl) ?_; refine dwz (.fieldAddr rfl rfl) ?_; refine dwz (.fieldAddr rfl rfl) ?_; apply DW.loadO; rfl; rfl; rfl; apply wantYes; rfl; rfl; (with_reducible rfl); rfl; apply TRead.head; exact ancB_nil; exact bg_rd20; refine dwz (.eqF rfl rfl (by omega)) ?_; refine dvz (.pickF' rfl (by with_reducible rfl) rfl) ?_; refine dvz (.nilCheck rfl) ?_; refine dvz (.fieldAddr rfl rfl) ?_; apply DW.store; rfl; rfl; exact WantT.none; rfl; rfl; apply TSet.head; exact ancB_nil; kernel_rfl; apply bg_wr26 (z := .int .u8 0); apply DW.nil; simp only [fsOf_cons, fsOf_nil, fsOf_app, fsOf_tsOf, fsOf_new]; refine vNz ?_; refine vFz ?_; apply LW.store; rfl; rfl; apply SetAt.head; apply bg_wr40 (z := .bool false); refine nNz ?_; refine CW.seq ?_; apply CW.pre; refine AnyW.any 29 mixed (by decide +kernel) ?_; (try simp only [tsOf_cons, tsOf_nil, tsOf_app]); refine dvz (.move rfl) ?_; refine dvz (.move rfl) ?_; refine dvz (.move rfl) ?_; refine dvz (.move rfl) ?_; refine dvz (.move rfl) ?_; refine dvz (.nilCheck rfl) ?_; refine dvz (.fieldAddr rfl rfl) ?_; refine dvz (.fieldAddr rfl rfl) ?_; apply DW.loadO; rfl; rfl; rfl; exact WantT.none; rfl; apply TRead.head; exact ancB_nil; exact hs15; apply DW.callE; rfl; rfl; rfl; exact WantT.none; rfl; infer_instance; exact .cons rfl (.cons rfl .nil); rfl; apply ReadAll.own; apply TRead.head; exact ancB_nil; exact ReadAll.nil; intro w _ _; exact hWt _ w (by assumption) (by assumption); apply DW.callE; rfl; rfl; rfl; exact WantT.none; rfl; infer_instance; exact .cons rfl .nil; rfl; exact ReadAll.nil; intro w _ _; exact aOf_calls _ w; refine dvz (.move rfl) ?_; refine dvz (.nilCheck rfl) ?_; refine dvz (.fieldAddr rfl rfl) ?_; refine dvz (.fieldAddr rfl rfl) ?_; apply DW.loadO; rfl; rfl; rfl; exact WantT.none; rfl; apply TRead.head; exact ancB_nil; exact bg_rd5; refine dvz (.move rfl) ?_; refine dvz (.move rfl) ?_; refine dvz (.nilCheck rfl) ?_; refine dvz (.fieldAddr rfl rfl) ?_; refine dvz (.fieldAddr rfl rfl) ?_; apply DW.loadO; rfl; rfl; rfl; exact WantT.none; rfl; apply TRead.head; exact ancB_nil; exact hs16; apply DW.callE; rfl; rfl; rfl; exact WantT.none; rfl; infer_instance; exact .cons rfl (.cons rfl .nil); rfl; apply ReadAll.own; apply TRead.head; exact ancB_nil; exact ReadAll.nil; intro w _ _; exact hWv _ w (by assumption) (by assumption); refine dvz (.nilCheck rfl) ?_; refine dvz (.fieldAddr rfl rfl) ?_; apply DW.store; rfl; rfl; exact WantT.none; rfl; rfl; apply TSet.head; exact ancB_nil; kernel_rfl; apply bg_wr27 (z := .int .u64 0); refine dvz (.nilCheck rfl) ?_; refine dvz (.fieldAddr rfl rfl) ?_; apply DW.store; rfl; rfl; exact WantT.none; rfl; rfl; apply TSet.head; kernel_rfl; kernel_rfl; apply bg_wr29 (z := .int .u64 0); apply DW.nil; simp only [fsOf_cons, fsOf_nil, fsOf_app, fsOf_tsOf, fsOf_new]; refine vNz ?_; refine vFz ?_; refine LW.store rfl rfl .head bg_wr30 ?_; refine nSz ?_; refine vMz ?_; refine vMz ?_; refine vNz ?_; refine vFz ?_; refine ldz rfl .head bg_rd30 ?_; apply LW.v0; rfl; rfl; exact ValP.buildW0; refine lvz (.neW rfl rfl (by assumption) (by omega)) ?_; refine vNz ?_; refine vFz ?_; apply LW.store; rfl; rfl; apply SetAt.head; apply bg_wr34 (z := .bool false); refine nSz ?_; refine vMz ?_; refine vMz ?_; refine vNz ?_; refine vFz ?_; refine ldz rfl .head bg_rd27 ?_; refine vNz ?_; refine vFz ?_; apply LW.store; rfl; rfl; apply SetAt.head; apply bg_wr28 (z := .int .u64 0); refine nSz ?_; refine vMz ?_; refine vNz ?_; refine vFz ?_; refine vFz ?_; refine ldz rfl .head bg_rd20 ?_; refine lvz (.eqF rfl rfl (by omega)) ?_; refine nNz ?_; refine cFz ?_; refine CW.skip ?_)
      exact inPI (.inr rfl) .nil rfl .nil rfl ⟨rfl, rfl⟩
end Go.Proofs.YtpgdnfgjbhdbpaaGreatDoor

/-
  What begins a call: gas spent, memory reached.
  Conditions: none.
-/
namespace Go.Proofs.YtpgdnfgjbhdbpaaGreatDoor
open Go Go.RowKit SL
set_option maxRecDepth 8000
set_option maxHeartbeats 4000000
set_option linter.unusedSimpArgs false
set_option linter.unusedVariables false
attribute [local irreducible] SL.CW SL.LW SL.DW Calls SL.Ret SL.RetG SL.beginQ SL.roundQ SL.rangeQ SL.inQ SL.RW SL.AnyW SL.thenQ SL.thenC SL.thenW SL.blkQ SL.finQ SL.ValP SL.NewP SL.SetP SL.CallP SL.Rd SL.Wr SL.Known
theorem grow_in (ws : List Nat) (ms : List UInt8) (p0 n : Nat) (s m : Value) (w : World) (hs : RowAt w 4 s ws.length (wcs ws)) (hm : RowAt w 1 m ms.length (ucs ms)) (hok : okSc ws.length ms.length) (hn : 0 < n) (hn2 : p0 + n ≤ ms.length) :
    Calls Tryz.prog 147 #[.agg #[s, m], .int .u64 (p0 : Int), .int .u64 (n : Int)] w (RetG w [] (fun r gs => ∃ o, r = .tuple #[o, .int .i64 0] ∧ ScO ws ms o gs)) := by
  have hs0 := hs
  have hm0 := hm
  obtain ⟨p, c, rfl, _, hc⟩ := hs.form
  obtain ⟨p2, c2, rfl, _, hc2⟩ := hm.form
  have hC : ∀ w, Calls Tryz.prog 66 #[.agg #[.slice p ws.length c, .slice p2 ms.length c2]] w (Ret w (.int .i64 0)) := fun w => by
    have h := scCheck_calls p p2 ws.length c ms.length c2 (by omega) (by omega) w
    rwa [if_pos hok] at h
  have hok2 := hok
  unfold okSc at hok2
  obtain ⟨hn1, hk1, hk2⟩ := hok2
  refine enter (args := [_, _, _]) _ [] [] Tryz.func147 rfl Tryz.ntmps147 rfl (by simp) .nil ?_
  (refine sRz ?_; apply LW.boxA; rfl; rfl; intro _; apply LW.allocA; rfl; intro _; refine vAz ?_; refine nNz ?_; refine CW.seq ?_; refine sRz ?_; refine ldz rfl (.tail .head) (Rd.whole rfl) ?_; apply LW.callE; rfl; rfl; infer_instance; exact .cons rfl .nil; intro w _; exact hC w; refine vAz ?_; refine nSz ?_; refine vMz ?_; refine lvz (.neF rfl rfl (by omega)) ?_; refine nNz ?_; refine cFz ?_; refine CW.skip ?_; refine thenN ?_; refine sRz ?_; refine ldz rfl (.tail .head) (Rd.whole rfl) ?_)
  (apply LW.callR; rfl; rfl; infer_instance; exact .cons rfl .nil; intro w hs)
  exact copied_calls ws ms _ _ w (hs0.st hs) (hm0.st hs) (by omega) (by omega)
  rintro vo gso ⟨s1, m1, g1, g2, rfl, rfl, h1, h2⟩
  have h1' := h1
  have h2' := h2
  unfold wM at h1'
  unfold bM at h2'
  obtain ⟨q1, k1, rfl⟩ := h1'.form
  obtain ⟨q2, k2, rfl⟩ := h2'.form
  (apply LW.allocA; rfl; intro _; refine LW.store rfl rfl .head (.whole rfl rfl rfl) ?_; refine nNz ?_; refine CW.seq ?_; refine sRz ?_; refine vMz ?_; refine lvz (.eqF rfl rfl (by omega)) ?_; refine nNz ?_; refine cFz ?_; refine CW.skip ?_; refine thenN ?_; refine CW.seq ?_; refine sRz ?_; refine vMz ?_; refine lvz (.gtrF rfl rfl (by omega)) ?_; refine vMz ?_; refine gTz ?_; refine vMz ?_; refine gTz ?_; refine lvz (.gtrF rfl rfl (by omega)) ?_; refine pFz ?_; refine vMz ?_; refine gTz ?_; refine vMz ?_; refine gTz ?_; refine vMz ?_; refine gTz ?_; refine lvz (.addN rfl rfl) ?_; refine gTz ?_; refine lvz (.gtrF rfl rfl (by omega)) ?_; refine pFz ?_; refine nNz ?_; refine cFz ?_; refine CW.skip ?_; refine thenN ?_; refine sRz ?_; refine vMz ?_; refine vMz ?_; refine lvz (.addN rfl rfl) ?_; refine lvz (.convI rfl (by omega) (by omega)) ?_; refine lvz (.addZL rfl rfl (by decide) (by omega)) ?_; refine lvz (.subZL rfl rfl (by decide) (by omega) (by omega)) ?_; refine lvz (.quoZL rfl rfl (by decide) (by omega) (by omega)) ?_; refine lvz (.mulZL rfl rfl (by decide) (by omega)) ?_; refine vAz ?_; refine nNz ?_; refine CW.seq ?_; refine sRz ?_; refine vMz ?_; refine vFz ?_; refine ldz rfl .head sc_rd1 ?_; refine lvz (.lenR rfl inferInstance rfl) ?_; refine lvz (.subI rfl rfl (by omega) (by omega)) ?_; apply LW.v0; rfl; rfl; apply ValP.maxD; rfl; rfl; refine vMz ?_; refine nNz ?_; refine CW.block ?_)
  rename_i b3 b6 b9
  have hD : ((p0 + n) % 18446744073709551616 + 32 - 1) / 32 * 32 - ms.length = 0 := by omega
  rw [hD]
  refine CW.loop (fun x : Unit => ([(9, .pointer (some ⟨b9, 0, none⟩)), (6, .pointer (some ⟨b6, 0, none⟩)), (48, .int .i64 ((0 : Nat) : Int)), (49, .int .i64 ((0 : Nat) : Int))], (b9, .cells #[.slice q1 ws.length k1, .slice q2 ms.length k2] 25 (0, 0)) :: (g2 ++ (g1 ++ [(b6, .cells #[.slice none 0 0, .slice none 0 0] 25 (0, 0))]))))
    (fun x => True) (fun x => 0) () trivial ⟨rfl, rfl, rfl, rfl, trivial⟩ (by simp) ?_
  intro _ _
  dsimp only
  (refine sRz ?_; refine lvz (.lssF rfl rfl (by omega)) ?_; refine nNz ?_; refine CW.seq ?_; refine cFz ?_; refine CW.exit ?_; refine thenE ?_; refine thenE ?_; refine blkE rfl ?_; refine thenN ?_; refine sRz ?_; refine ldz rfl .head (Rd.whole rfl) ?_; refine LW.store rfl rfl (.tail (.app (.app .head))) (.whole rfl rfl rfl) ?_; refine vAz ?_; refine nNz ?_; refine CW.ret ?_)
  refine fin (vs := [.agg #[.slice q1 ws.length k1, .slice q2 ms.length k2], .int .i64 0]) (g2 ++ g1) (.inl rfl) rfl rfl (by (apply ResL.cons; apply Res.cell; rfl; apply Known.at; apply FsAt.tail; apply FsAt.app; apply FsAt.app; apply FsAt.head; exact Rd.whole rfl; apply ResL.cons; exact Res.tmp rfl; exact ResL.nil)) ?_ ⟨_, rfl, _, _, g1, g2, rfl, rfl, h1, h2⟩
  exact List.Sublist.cons _ (List.Sublist.append_left (List.sublist_append_left _ _) _)
/-- Bytes of memory that were reached. -/
def CutR (ws : List Nat) (ms : List UInt8) (p0 n : Nat) (r : Value) (gs : Fs) : Prop := ∃ o v go gv, r = .tuple #[o, v, .int .i64 0] ∧ gs = gv ++ go ∧ ScO ws ms o go ∧ bM ((ms.drop p0).take n) v gv
theorem RowAt.mid {w : World} {g o N c k n : Nat} {xs : List Value} (h : RowAt w 1 (.slice (some ⟨g, o, none⟩) N c) N xs) (hn : 0 < n) (hk : k + n ≤ N) : RowAt w 1 (.slice (some ⟨g, o + k, none⟩) n n) n ((xs.drop (k * 1)).take (n * 1)) := by
  obtain ⟨_, _, he, hle, _⟩ := h.form
  cases he
  have h1 := h.drop (k := k) (by omega)
  have e1 : cutAt (some ⟨g, o, none⟩) k N c 1 = .slice (some ⟨g, o + k, none⟩) (N - k) (c - k) := by
    unfold cutAt
    rw [if_neg (by omega)]
    simp [Addr.add]
  rw [e1] at h1
  exact RowAt.cutMax h1 (by omega)
theorem cut_in (ws : List Nat) (ms : List UInt8) (p0 n : Nat) (s m : Value) (w : World) (hs : RowAt w 4 s ws.length (wcs ws)) (hm : RowAt w 1 m ms.length (ucs ms)) (hok : okSc ws.length ms.length) (hn : 0 < n) (hn2 : p0 + n ≤ ms.length) :
    Calls Tryz.prog 124 #[.agg #[s, m], .int .u64 (p0 : Int), .int .u64 (n : Int)] w (RetG w [] (CutR ws ms p0 n)) := by
  have hs0 := hs
  have hm0 := hm
  have hk1 := hok.2.1
  obtain ⟨p, c, rfl, _, hc⟩ := id hs.form
  obtain ⟨p2, c2, rfl, _, hc2⟩ := id hm.form
  refine enter (args := [_, _, _]) _ [] [] Tryz.func124 rfl Tryz.ntmps124 rfl (by simp) .nil ?_
  (refine sRz ?_; apply LW.boxA; rfl; rfl; intro _; apply LW.allocA; rfl; intro _; refine vAz ?_; refine vAz ?_; refine nSz ?_; refine ldz rfl (.tail .head) (Rd.whole rfl) ?_; refine vMz ?_; refine vMz ?_)
  (apply LW.callR; rfl; rfl; infer_instance; exact .cons rfl (.cons rfl (.cons rfl .nil)); intro w hs)
  exact grow_in ws ms p0 n _ _ w (hs0.st hs) (hm0.st hs) hok hn hn2
  rintro vo gso ⟨o, rfl, s1, m1, g1, g2, rfl, rfl, h1, h2⟩
  have h1' := h1
  have h2' := h2
  unfold wM at h1'
  unfold bM at h2'
  obtain ⟨q1, k1, rfl⟩ := id h1'.form
  obtain ⟨q2, k2, rfl⟩ := id h2'.form
  have hle2 := IsRow.le h2'
  have hmod : (p0 + n) % 18446744073709551616 = p0 + n := Nat.mod_eq_of_lt (by omega)
  obtain ⟨gm, cur, rfl, rfl, hn3, hm3, hsz3, htk3⟩ := id (h2'.pos (by omega))
  (refine vMz ?_; refine vEz ?_; refine vEz ?_; apply LW.allocA; rfl; intro _; refine LW.store rfl rfl .head (.whole rfl rfl rfl) ?_; refine vAz ?_; refine nNz ?_; refine CW.seq ?_; refine sRz ?_; refine vMz ?_; refine lvz (.neF rfl rfl (by omega)) ?_; refine vMz ?_; refine gTz ?_; refine vMz ?_; refine gTz ?_; refine lvz (.eqF rfl rfl (by omega)) ?_; refine pFz ?_; refine nNz ?_; refine cFz ?_; refine CW.skip ?_; refine thenN ?_; refine CW.seq ?_)
  apply CW.pre
  (refine AnyW.anyM [(11, bM ((ms.drop p0).take n))] 12 mixed (by decide +kernel) ?_)
  ((try simp only [tsOf_cons, tsOf_nil, tsOf_app]); apply DW.loadO; rfl; rfl; rfl; exact WantT.none; rfl; apply TRead.head; exact ancB_nil; exact Rd.whole rfl; refine dvz (.fieldAddr rfl rfl) ?_; apply DW.loadO; rfl; rfl; rfl; exact WantT.none; rfl; apply TRead.head; exact ancB_nil; exact sc_rd1; refine dvz (.move rfl) ?_; refine dvz (.move rfl) ?_; refine dvz (.move rfl) ?_; refine dvz (.addN rfl rfl) ?_; refine dvz (.move rfl) ?_; refine dvz (.move rfl) ?_; refine dvz (.addN rfl rfl) ?_; apply DW.v0; rfl; rfl; rfl; exact WantT.none; rfl; refine SK.ValP.cut3o (m := n) (o' := 0 + p0) inferInstance inferInstance rfl rfl rfl rfl ?_ ?_ ?_ ?_ ?_; omega; omega; omega; omega; rfl)
  (apply DW.manyV; rfl; rfl; rfl; exact WantT.none; rfl; infer_instance; exact .cons rfl .nil; apply RdV.own; assumption; apply TRead.tail; apply TRead.head; exact ancB_nil; exact RdV.nil; intro w _ _)
  · have hr := RowAt.mid (k := p0) (n := n) (IsRow.us h2' (fun p hp => by obtain rfl := List.mem_singleton.1 hp; rename_i hu; exact hu _ List.mem_cons_self) (List.Sublist.refl _)) hn (by omega)
    rw [ucs_drop, ucs_take] at hr
    have hlen : ((ms.drop p0).take n).length = n := by rw [List.length_take, List.length_drop]; omega
    have h9 := SK.Clone_calls ((ms.drop p0).take n) _ w (by rw [hlen]; exact hr) (by omega)
    exact h9
  intro v3 g3 h3
  have h3' := h3
  unfold bM at h3'
  obtain ⟨q3, k3, rfl⟩ := id h3'.form
  ((try simp only [tsOf_cons, tsOf_nil, tsOf_app]); apply DW.nil; simp only [fsOf_cons, fsOf_nil, fsOf_app, fsOf_tsOf, fsOf_new, fsOf_tag])
  simp only [fsOf_cons, fsOf_nil, fsOf_app, fsOf_tsOf, List.append_eq, List.nil_append]
  (refine LW.store rfl rfl (.app (.tail (.tail (.app .head)))) (.whole rfl rfl rfl) ?_; refine vAz ?_; refine vAz ?_; refine nNz ?_; refine CW.ret ?_)
  refine fin (vs := [.agg #[.slice q1 ws.length k1, .slice (some ⟨gm, 0, none⟩) ms.length k2], .slice q3 ((ms.drop p0).take n).length k3, .int .i64 0]) (g3 ++ ((gm, .cells cur 5 (0, 0)) :: g1)) (.inl rfl) rfl rfl (by (apply ResL.cons; apply Res.cell; rfl; apply Known.at; apply FsAt.app; apply FsAt.tail; apply FsAt.tail; apply FsAt.app; apply FsAt.head; exact Rd.whole rfl; apply ResL.cons; exact Res.tmp rfl; apply ResL.cons; exact Res.tmp rfl; exact ResL.nil)) ?_ ⟨_, _, _, g3, rfl, rfl, ⟨_, _, g1, [(gm, .cells cur 5 (0, 0))], rfl, rfl, h1, h2⟩, h3⟩
  exact List.Sublist.append_left (List.Sublist.cons _ (List.Sublist.cons_cons _ (List.sublist_append_left _ _))) _
/-! ### Gas spent -/
abbrev offV : Value := .iface 98 (.agg #[])
abbrev offC : List PanicEntry := [{ v := offV, recovered := false }]
attribute [local irreducible] SL.inP
def FrV.setGas (f : FrV) (g : Nat) : FrV := { f with gas := g }
theorem bspend_calls (w0 : World) (b : Nat) (f : FrV) (A : AkV) (c : ClV) (n : Nat) (hg : f.gas < 18446744073709551616) (rest : Fs) (w : World) (hs : St w0 [] ((b, bgO f A c) :: rest) w) :
    Calls Tryz.prog 85 #[.pointer (some ⟨b, 0, none⟩), .int .u64 (n : Int)] w (fun x w' => ∃ fs', ((n ≤ f.gas ∧ x = .returned (.tuple #[]) ∧ fs' = (b, bgO (f.setGas (f.gas - n)) A c) :: rest) ∨ (f.gas < n ∧ x = .panicked offC ∧ fs' = rest)) ∧ St w0 [] fs' w') := by
  refine calls_anyO (calls_inlineP (K := anyO fun x fs' => (n ≤ f.gas ∧ x = .returned (.tuple #[]) ∧ fs' = (b, bgO (f.setGas (f.gas - n)) A c) :: rest) ∨ (f.gas < n ∧ x = .panicked offC ∧ fs' = rest)) (args := [_, _]) Tryz.func85 rfl Tryz.ntmps85 rfl ?_ hs)
  obtain ⟨code, pc, stk, mem, gas, self, frm, val, inp, back, stat⟩ := f
  dsimp only at hg ⊢
  rcases Nat.lt_or_ge gas n with hlt | hge
  · (refine sRz ?_; refine vMz ?_; refine vNz ?_; refine vFz ?_; refine vFz ?_; refine ldz rfl .head bg_rd4 ?_; refine vMz ?_; apply LW.lay1; rfl; infer_instance; infer_instance; rfl; rfl; rfl; rfl; rfl; rfl; intro _)
    rename_i b13
    (apply LW.callE; rfl; rfl; infer_instance; exact .cons rfl (.cons rfl .nil); intro w _)
    rename_i hst
    have h := Spend_calls gas [n] hg _ w (row_cells (hst.own (b13, _) List.mem_cons_self).2 rfl rfl (by simp [maxLen]))
    rw [spendV, if_neg (by simp; omega)] at h
    exact h
    (refine vMz ?_; refine vEz ?_; refine vEz ?_; refine vAz ?_; refine vAz ?_; refine nNz ?_; refine CW.seq ?_; refine sRz ?_; refine vMz ?_; refine lvz (.notF rfl (by with_reducible rfl)) ?_; refine nNz ?_; refine cTz ?_; refine CW.region ?_; apply LW.v0; rfl; rfl; apply ValP.buildT; infer_instance; infer_instance; exact PartsOk.nil; rfl; simp only [fillP, wrCells, Value.cells, List.getElem?_cons_zero, List.getElem?_cons_succ, List.toList_toArray, List.setIfInBounds_toArray, List.set_cons_succ, List.set_cons_zero, Nat.reduceAdd, Nat.zero_add]; rfl; apply LW.v0; rfl; rfl; apply ValP.mkIface; kernel_rfl; rfl; apply LW.panic; rfl; refine thenP ?_)
    exact inPP .nil ⟨rest, .inr ⟨hlt, rfl, rfl⟩, subp_ix [[_], [_]] (xs := []) (ys := [0, 1]) rest rfl⟩
  · (refine sRz ?_; refine vMz ?_; refine vNz ?_; refine vFz ?_; refine vFz ?_; refine ldz rfl .head bg_rd4 ?_; refine vMz ?_; apply LW.lay1; rfl; infer_instance; infer_instance; rfl; rfl; rfl; rfl; rfl; rfl; intro _)
    rename_i b13
    (apply LW.callE; rfl; rfl; infer_instance; exact .cons rfl (.cons rfl .nil); intro w _)
    rename_i hst
    have h := Spend_calls gas [n] hg _ w (row_cells (hst.own (b13, _) List.mem_cons_self).2 rfl rfl (by simp [maxLen]))
    rw [spendV, if_pos (by simp; omega), show gas - [n].sum = gas - n by simp] at h
    exact h
    (refine vMz ?_; refine vEz ?_; refine vEz ?_; refine vAz ?_; refine vAz ?_; refine nNz ?_; refine CW.seq ?_; refine sRz ?_; refine vMz ?_; refine lvz (.notT rfl (by with_reducible rfl)) ?_; refine nNz ?_; refine cFz ?_; refine CW.skip ?_; refine thenN ?_; refine CW.region ?_; refine vMz ?_; refine vMz ?_; refine vNz ?_; refine vFz ?_; refine vFz ?_; apply LW.store; rfl; rfl; apply SetAt.tail; apply SetAt.head; apply bg_wr4 (z := .int .u64 0); apply LW.nil)
    exact inPI (.inr rfl) .nil rfl .nil rfl ⟨_, .inl ⟨hge, rfl, rfl⟩, subp_ix [[_], [_]] (xs := [1]) (ys := [0, 1]) rest rfl⟩
end Go.Proofs.YtpgdnfgjbhdbpaaGreatDoor

/-
  What begins a call: memory reached.
  Conditions: none.
-/
namespace Go.Proofs.YtpgdnfgjbhdbpaaGreatDoor
open Go Go.RowKit SL
set_option maxRecDepth 8000
set_option maxHeartbeats 4000000
set_option linter.unusedSimpArgs false
set_option linter.unusedVariables false
attribute [local irreducible] SL.CW SL.LW SL.DW Calls SL.Ret SL.RetG SL.beginQ SL.roundQ SL.rangeQ SL.inQ SL.RW SL.AnyW SL.thenQ SL.thenC SL.thenW SL.blkQ SL.finQ SL.ValP SL.NewP SL.SetP SL.CallP SL.Rd SL.Wr SL.Known
/-! ### Where a frame's rows lie -/
theorem rowU_own {E : TypeId} {sz n : Nat} {v : Value} {xs : List Value} {seg : Fs} (h : IsRow E sz v n xs seg) : ∃ us : Fs, blocksN 4 v = us.map (·.1) ∧ (∀ p ∈ us, p ∈ seg) ∧ ∀ w : World, (∀ p ∈ us, w.heap[p.1]? = some p.2) → RowAt w sz v n xs := by
  cases h with
  | nil => exact ⟨[], rfl, (fun p h => by cases h), fun w _ => .nil⟩
  | @own g _ cap cur _ hn hm hc ht hl =>
    rcases Nat.eq_zero_or_pos cap with h0 | h0
    · subst h0
      obtain rfl : n = 0 := by omega
      refine ⟨[], by simp [blocksN], (fun p h => by cases h), fun w _ => ⟨⟨_, _, rfl, Nat.le_refl _, hm⟩, hl, (fun h => by cases h), fun p n c he => by cases he; exact .inr (.inl rfl)⟩⟩
    · exact ⟨[(g, .cells cur E (0, 0))], by simp [blocksN, Nat.ne_of_gt h0], fun p h => h, fun w hw => IsRow.us (.own hn hm hc ht hl) hw (List.Sublist.refl _)⟩
theorem rowU_ext {sz n : Nat} {v : Value} {xs : List Value} {w0 : World} (h : RowAt w0 sz v n xs) : ∃ us : Fs, blocksN 4 v = us.map (·.1) ∧ ∀ p ∈ us, w0.heap[p.1]? = some p.2 := by
  obtain ⟨p, c, rfl, _, _⟩ := h.form
  rcases h.lies _ _ _ rfl with rfl | rfl | ⟨b, off, o, rfl, hb⟩
  · exact ⟨[], rfl, fun p h => by cases h⟩
  · exact ⟨[], by cases p <;> simp [blocksN], fun p h => by cases h⟩
  · rcases Nat.eq_zero_or_pos c with hc | hc
    · subst hc
      exact ⟨[], by simp [blocksN], fun p h => by cases h⟩
    · exact ⟨[(b, o)], by simp [blocksN, Nat.ne_of_gt hc], fun p h => by obtain rfl := List.mem_singleton.1 h; exact hb⟩
/-- A frame whose rows lie with the caller, or are of its own. -/
def FrA (w0 : World) (f : FrV) (L : FrL) (gs : Fs) : Prop := (gs = [] ∧ FrRows w0 f L) ∨ FrO f L gs
theorem FrA.sl {w0 : World} {f : FrV} {L : FrL} {gs : Fs} (h : FrA w0 f L gs) : FrSl f := by
  rcases h with ⟨_, h⟩ | h
  · exact h.sl
  · exact h.sl
theorem FrA.st {w0 w : World} {f : FrV} {L : FrL} {gs fs : Fs} (h : FrA w0 f L gs) (hs : St w0 [] fs w) (hg : ∀ p ∈ gs, p ∈ fs) : FrRows w f L := by
  rcases h with ⟨_, h⟩ | h
  · exact h.st hs
  · exact h.st hs hg
theorem FrA.lie {w0 : World} {f : FrV} {L : FrL} {gs : Fs} (h : FrA w0 f L gs) : ∃ us : Fs, blocksN 4 (frv f) = us.map (·.1) ∧ (∀ p ∈ us, p ∈ gs ∨ w0.heap[p.1]? = some p.2) ∧ ∀ w : World, Bel w0.heap.size [] w0 w → (∀ p ∈ us, w.heap[p.1]? = some p.2) → FrRows w f L := by
  rcases h with ⟨_, h⟩ | h
  · obtain ⟨u1, a1, b1⟩ := rowU_ext h.c
    obtain ⟨u2, a2, b2⟩ := rowU_ext h.s
    obtain ⟨u3, a3, b3⟩ := rowU_ext h.m
    obtain ⟨u4, a4, b4⟩ := rowU_ext h.i
    obtain ⟨u5, a5, b5⟩ := rowU_ext h.b
    refine ⟨u1 ++ (u2 ++ (u3 ++ (u4 ++ u5))), ?_, fun p hp => .inr ?_, fun w hb _ => h.bel hb⟩
    · rw [blocks_frv h.sl]
      simp [a1, a2, a3, a4, a5]
    · simp only [List.mem_append] at hp
      rcases hp with h | h | h | h | h
      · exact b1 p h
      · exact b2 p h
      · exact b3 p h
      · exact b4 p h
      · exact b5 p h
  · have hsl := h.sl
    obtain ⟨g1, g2, g3, g4, g5, hp, h1, h2, h3, h4, h5⟩ := h
    unfold bM at h1 h3 h4 h5
    unfold wM at h2
    obtain ⟨u1, a1, b1, c1⟩ := rowU_own h1
    obtain ⟨u2, a2, b2, c2⟩ := rowU_own h2
    obtain ⟨u3, a3, b3, c3⟩ := rowU_own h3
    obtain ⟨u4, a4, b4, c4⟩ := rowU_own h4
    obtain ⟨u5, a5, b5, c5⟩ := rowU_own h5
    refine ⟨u1 ++ (u2 ++ (u3 ++ (u4 ++ u5))), ?_, fun p hq => .inl (hp.subset ?_), fun w _ hw => ⟨c1 w fun p h => hw p (by simp [h]), c2 w fun p h => hw p (by simp [h]), c3 w fun p h => hw p (by simp [h]), c4 w fun p h => hw p (by simp [h]), c5 w fun p h => hw p (by simp [h])⟩⟩
    · rw [blocks_frv hsl]
      simp [a1, a2, a3, a4, a5]
    · simp only [List.mem_append] at hq ⊢
      rcases hq with h | h | h | h | h
      · exact .inl (b1 p h)
      · exact .inr (.inl (b2 p h))
      · exact .inr (.inr (.inl (b3 p h)))
      · exact .inr (.inr (.inr (.inl (b4 p h))))
      · exact .inr (.inr (.inr (.inr (b5 p h))))
theorem anc_nil {ops : Array Oper} {k : Nat} : ancB ops k [] = true := rfl
theorem wrCells_list : ∀ (vs : List Value) (c : Array Value) (off : Nat), off + vs.length ≤ c.size → (wrCells c off vs).toList = c.toList.take off ++ vs ++ c.toList.drop (off + vs.length) := by
  intro vs
  induction vs with
  | nil => intro c off h; simp [wrCells]
  | cons v r ih =>
    intro c off h
    simp only [List.length_cons] at h
    rw [wrCells, ih _ _ (by simp; omega)]
    simp only [Array.toList_setIfInBounds, List.length_cons]
    have hlt : off < c.toList.length := by simp; omega
    have hl : (c.toList.take off).length = off := by simp; omega
    rw [List.take_set, List.take_succ_eq_append_getElem hlt, List.set_append_right _ _ (by rw [hl]; exact Nat.le_refl _), hl, Nat.sub_self, List.drop_set_of_lt (by omega)]
    simp [Nat.add_assoc, Nat.add_comm 1]
theorem bg_put (f f' : FrV) (A : AkV) (c : ClV) : wrCells (bga f A c) (0 + 0) (frc f') = bga f' A c := by
  apply Array.toList_inj.1
  rw [wrCells_list _ _ _ (by show 0 + 0 + 14 ≤ 41; omega)]
  rw [show 0 + 0 + (frc f').length = (frc f).length from rfl, show (bga f A c).toList = frc f ++ (shc A.op ++ ([.int .i64 A.kind, .int .u8 (A.op : Int), A.ws, A.dt] ++ ([.bool A.cold, .bool A.vl, .bool A.new] ++ clc c))) from rfl, List.drop_left]
  rfl
section wr
variable {P : Program} {T E : TypeId} {A : AkV} {f f' : FrV} {c : ClV} {z : Value}
theorem bg_wrF [InfoI P T 14 z] (h : FrSl f') : Wr P T (.cells (bga f A c) E (0, 0)) (0 + 0) (frv f') (.cells (bga f' A c) E (0, 0)) := Wr.cells (n := 14) (z := z) rfl (fr_cells h) (by show 0 + 0 + 14 ≤ 41; omega) (bg_put f f' A c)
end wr
attribute [local irreducible] SL.inP wordI shq
theorem reach_bounds {L : FrL} {a n : Nat} (hok : okSc L.ws.length L.ms.length) (h0 : 0 < n) (hE : endV a n ≤ 1024) : a + n ≤ 1024 ∧ a + n ≤ (memR L a n).ms.length ∧ okSc (memR L a n).ws.length (memR L a n).ms.length := by
  have h1 : a + n ≤ endV a n := by
    unfold endV at hE ⊢
    rw [if_neg (by omega)] at hE ⊢
    unfold NOG at hE ⊢
    omega
  obtain ⟨h2, h3, h4⟩ := hok
  have h5 : (memR L a n).ms.length = L.ms.length + (upW (endV a n) - L.ms.length) := by unfold memR FrL.setM; simp
  unfold upW at h5
  refine ⟨by omega, by omega, ?_⟩
  unfold okSc
  refine ⟨h2, by omega, by omega⟩
/-- What is reached, and cut. -/
def BReachK (w0 : World) (b : Nat) (f : FrV) (L : FrL) (A : AkV) (c : ClV) (a n : Nat) (rest : Fs) : Out := fun x fs' => match reachR f L a n with
  | none => x = .panicked offC ∧ fs' = rest
  | some (g, L') => ∃ cc s m i b5 gs' lv gl, x = .returned (.tuple #[lv, .int .u64 ((if n = 0 then 0 else a : Nat) : Int), .int .u64 (n : Int)]) ∧ FrO (f.rowsG g cc s m i b5) L' gs' ∧ bM ((L'.ms.drop a).take n) lv gl ∧ fs' = (b, bgO (f.rowsG g cc s m i b5) A c) :: (gs' ++ (gl ++ rest))
theorem breach_calls (w0 : World) (b : Nat) (f : FrV) (L : FrL) (A : AkV) (c : ClV) (ws : List Nat) (hM : ∀ x ∈ ws, x < M256) (i : Nat) (hi : i + 1 < ws.length) (hll : ws.length ≤ 100) (hF : okF f L) (gs rest : Fs) (hfr : FrA w0 f L gs) (w : World) (hv : RowAt w0 4 A.ws ws.length (wcs ws)) (hs : St w0 [] ((b, bgO f A c) :: (gs ++ rest)) w) :
    Calls Tryz.prog 90 #[.pointer (some ⟨b, 0, none⟩), .int .i64 (i : Int)] w (fun x w' => ∃ fs', BReachK w0 b f L A c (wordI ws (i : Int)) (wordI ws ((i : Int) + 1)) rest x fs' ∧ St w0 [] fs' w') := by
  obtain ⟨us, hbl, hin, hrows⟩ := hfr.lie
  have hla := wordI_lt hM (i : Int)
  have hln := wordI_lt hM ((i : Int) + 1)
  have hWa : ∀ (f : FrV) (c : ClV) w', Bel w0.heap.size [] w0 w' → (∀ p ∈ [(b, bgO f A c)], w'.heap[p.1]? = some p.2) → Calls Tryz.prog 89 #[.pointer (some ⟨b, 0, none⟩), .int .i64 (i : Int)] w' (Ret w' (wv (wordI ws (i : Int)))) := fun f c w' hb hp => bword_calls f A c b ws _ (by omega) w' (hp _ List.mem_cons_self) (hv.bel hb)
  have hWn : ∀ (f : FrV) (c : ClV) w', Bel w0.heap.size [] w0 w' → (∀ p ∈ [(b, bgO f A c)], w'.heap[p.1]? = some p.2) → Calls Tryz.prog 89 #[.pointer (some ⟨b, 0, none⟩), .int .i64 ((i : Int) + 1)] w' (Ret w' (wv (wordI ws ((i : Int) + 1)))) := fun f c w' hb hp => bword_calls f A c b ws _ (by omega) w' (hp _ List.mem_cons_self) (hv.bel hb)
  obtain ⟨a, ha⟩ : ∃ a, wordI ws (i : Int) = a := ⟨_, rfl⟩
  obtain ⟨n, hn⟩ : ∃ n, wordI ws ((i : Int) + 1) = n := ⟨_, rfl⟩
  rw [ha] at hla hWa ⊢
  rw [hn] at hln hWn ⊢
  refine calls_anyO (calls_inlineP (K := anyO (BReachK w0 b f L A c a n rest)) (args := [_, _]) Tryz.func90 rfl Tryz.ntmps90 rfl ?_ hs)
  (refine sRz ?_; refine vAz ?_; refine vAz ?_; refine vAz ?_; refine nNz ?_; refine CW.seq ?_; refine sRz ?_; refine vMz ?_; refine lvz (.lssF rfl rfl (by omega)) ?_; refine nNz ?_; refine cFz ?_; refine CW.skip ?_; refine thenN ?_; refine CW.seq ?_)
  apply CW.pre
  (refine AnyW.anyM [(11, ToldR f (reachR f L a n))] 17 mixed (by decide +kernel) ?_)
  ((try simp only [tsOf_cons, tsOf_nil, tsOf_app]); refine dvz (.move rfl) ?_; refine dvz (.nilCheck rfl) ?_; refine dvz (.fieldAddr rfl rfl) ?_; apply DW.loadO; rfl; rfl; rfl; exact WantT.none; rfl; apply TRead.head; exact ancB_nil; exact bg_rdF; refine dvz (.move rfl) ?_; refine dvz (.move rfl) ?_; apply DW.callE; rfl; rfl; rfl; exact WantT.none; rfl; infer_instance; exact .cons rfl (.cons rfl .nil); rfl; apply ReadAll.own; apply TRead.head; exact ancB_nil; exact ReadAll.nil; intro w _ _; exact hWa _ _ w (by assumption) (by assumption); refine dvz (.move rfl) ?_; refine dvz (.move rfl) ?_; refine dvz (.addZL rfl rfl (by decide) (by omega)) ?_; apply DW.callE; rfl; rfl; rfl; exact WantT.none; rfl; infer_instance; exact .cons rfl (.cons rfl .nil); rfl; apply ReadAll.own; apply TRead.head; exact ancB_nil; exact ReadAll.nil; intro w _ _; exact hWn _ _ w (by assumption) (by assumption))
  refine DW.manyA us rfl rfl rfl (by (exact WantT.none)) rfl inferInstance (by (exact .cons rfl (.cons rfl (.cons rfl .nil)))) (by rw [List.flatMap_cons, hbl]; exact List.append_nil _) (fun p hp => ?_) (fun w hb hu => ?_) ?_
  · rcases hin p hp with h | h
    · exact .inl ⟨[], [], by simp [tsOf, h], anc_nil⟩
    · exact .inr ⟨h, by simp⟩
  · have h := Reach_calls f L a n hla hln w (hrows w hb hu)
    rw [if_pos hF] at h
    exact h
  intro vT gT hT
  unfold BReachK
  cases hR : reachR f L a n with
  | none =>
    rw [hR] at hT
    obtain ⟨rfl, rfl⟩ := hT
    have hzs := zero_sl
    ((try simp only [tsOf_cons, tsOf_nil, tsOf_app]); refine dvz (.move rfl) ?_; refine dvz (.extractN rfl rfl) ?_; refine dvz (.extractN rfl rfl) ?_; apply DW.allocA; rfl; rfl; rfl; exact WantT.none; intro _; apply DW.store; rfl; rfl; exact WantT.none; rfl; rfl; apply TSet.head; kernel_rfl; exact ancB_nil; apply Wr.whole; rfl; rfl; rfl; apply DW.nil; simp only [fsOf_cons, fsOf_nil, fsOf_app, fsOf_tsOf, fsOf_new])
    simp only [fsOf_mark, fsOf_cons, fsOf_nil, fsOf_app, fsOf_tsOf, fsOf_new, List.append_eq, List.nil_append]
    (refine vAz ?_; refine nNz ?_; refine CW.seq ?_; refine sRz ?_; refine vMz ?_; refine lvz (.notF rfl (by with_reducible rfl)) ?_; refine nNz ?_; refine cTz ?_; refine CW.region ?_; apply LW.v0; rfl; rfl; apply ValP.buildT; infer_instance; infer_instance; exact PartsOk.nil; rfl; simp only [fillP, wrCells, Value.cells, List.getElem?_cons_zero, List.getElem?_cons_succ, List.toList_toArray, List.setIfInBounds_toArray, List.set_cons_succ, List.set_cons_zero, Nat.reduceAdd, Nat.zero_add]; rfl; apply LW.v0; rfl; rfl; apply ValP.mkIface; kernel_rfl; rfl; apply LW.panic; rfl; refine thenP ?_)
    exact inPP .nil ⟨rest, ⟨rfl, rfl⟩, subp_ix [[_], [_], gs] (xs := []) (ys := [0, 1, 2]) rest rfl⟩
  | some x =>
    rw [hR] at hT
    obtain ⟨g, L'⟩ := x
    obtain ⟨cc, s1, m1, i1, b1, rfl, hfr1⟩ := hT
    have hsl1 := hfr1.sl
    have hc : costR L a n ≤ f.gas := by
      rcases Nat.lt_or_ge f.gas (costR L a n) with h | h
      · unfold reachR at hR; rw [if_neg (by omega)] at hR; cases hR
      · exact h
    obtain ⟨rfl, rfl⟩ : g = f.gas - costR L a n ∧ L' = memR L a n := by
      unfold reachR at hR; rw [if_pos hc] at hR; cases hR; exact ⟨rfl, rfl⟩
    have hE := memV_le hF.2.2.2.1.2.1 hF.1.2.2 hc
    have hWn' : ∀ w' {fs : Fs}, St w0 [] fs w' → (b, bgO (f.rowsG (f.gas - costR L a n) cc s1 m1 i1 b1) A c) ∈ fs → Calls Tryz.prog 89 #[.pointer (some ⟨b, 0, none⟩), .int .i64 ((i : Int) + 1)] w' (Ret w' (wv n)) := fun w' fs hst hm => hWn _ c w' hst.bel (fun p hp => by obtain rfl := List.mem_singleton.1 hp; exact (hst.own _ hm).2)
    have hWa' : ∀ w' {fs : Fs}, St w0 [] fs w' → (b, bgO (f.rowsG (f.gas - costR L a n) cc s1 m1 i1 b1) A c) ∈ fs → Calls Tryz.prog 89 #[.pointer (some ⟨b, 0, none⟩), .int .i64 (i : Int)] w' (Ret w' (wv a)) := fun w' fs hst hm => hWa _ c w' hst.bel (fun p hp => by obtain rfl := List.mem_singleton.1 hp; exact (hst.own _ hm).2)
    rcases Nat.eq_zero_or_pos n with h0 | h0
    · have hSn : ∀ w, Calls Tryz.prog 121 #[wv n] w (Ret w (.tuple #[.int .u64 (n : Int), .bool true])) := fun w => by
        have h := Small_calls n hln w
        rwa [if_pos (by omega), decide_eq_true (by omega)] at h
      ((try simp only [tsOf_cons, tsOf_nil, tsOf_app]); refine dvz (.move rfl) ?_; refine dvz (.extractN rfl rfl) ?_; refine dvz (.extractN rfl rfl) ?_; apply DW.allocA; rfl; rfl; rfl; exact WantT.none; intro _; apply DW.store; rfl; rfl; exact WantT.none; rfl; rfl; apply TSet.head; kernel_rfl; exact ancB_nil; apply fr_wrW; rfl; assumption; apply DW.nil; simp only [fsOf_cons, fsOf_nil, fsOf_app, fsOf_tsOf, fsOf_new])
      simp only [fsOf_mark, fsOf_cons, fsOf_nil, fsOf_app, fsOf_tsOf, fsOf_new, List.append_eq, List.nil_append]
      (refine vAz ?_; refine nNz ?_; refine CW.seq ?_; refine sRz ?_; refine vMz ?_; refine lvz (.notT rfl (by with_reducible rfl)) ?_; refine nNz ?_; refine cFz ?_; refine CW.skip ?_; refine thenN ?_; refine sRz ?_; refine vMz ?_; refine ldz rfl .head fr_rdW ?_; refine vNz ?_; refine vFz ?_; apply LW.store; rfl; rfl; apply SetAt.tail; apply SetAt.app; apply SetAt.head; apply bg_wrF; assumption; refine nSz ?_; refine vMz ?_; refine vMz ?_; refine lvz (.addZL rfl rfl (by decide) (by omega)) ?_; apply LW.callE; rfl; rfl; infer_instance; exact .cons rfl (.cons rfl .nil); intro w _; exact hWn' w (by assumption) (by simp); apply LW.callE; rfl; rfl; infer_instance; exact .cons rfl .nil; intro w _; exact hSn w; refine vMz ?_; refine vEz ?_; refine vEz ?_; refine vAz ?_; refine vAz ?_; refine nNz ?_; refine CW.seq ?_; refine sRz ?_; refine vMz ?_; refine lvz (.eqT rfl rfl (by omega)) ?_; refine nNz ?_; refine cTz ?_; refine sRz ?_; refine vAz ?_; refine vAz ?_; refine vAz ?_; refine nNz ?_; refine CW.ret ?_; refine thenR ?_)
      refine inPI (.inl rfl) .nil rfl (by (apply ResL.cons; exact Res.tmp rfl; apply ResL.cons; exact Res.tmp rfl; apply ResL.cons; exact Res.tmp rfl; exact ResL.nil)) rfl ⟨_, ⟨cc, s1, m1, i1, b1, gT, .slice none 0 0, [], ?_, hfr1, ?_, rfl⟩, ?_⟩
      · rw [if_pos h0, h0]; rfl
      · rw [h0, List.take_zero]; exact .nil
      · exact subp_ix [[_], gT, [_], gs] (xs := [2, 1]) (ys := [0, 1, 2, 3]) rest rfl
    · obtain ⟨hb1, hb2, hok2⟩ := reach_bounds hF.2.2.2.1 h0 hE
      have hSn : ∀ w, Calls Tryz.prog 121 #[wv n] w (Ret w (.tuple #[.int .u64 (n : Int), .bool true])) := fun w => by
        have h := Small_calls n hln w
        rwa [if_pos (by omega), decide_eq_true (by omega)] at h
      have hSa : ∀ w, Calls Tryz.prog 121 #[wv a] w (Ret w (.tuple #[.int .u64 (a : Int), .bool true])) := fun w => by
        have h := Small_calls a hla w
        rwa [if_pos (by omega), decide_eq_true (by omega)] at h
      ((try simp only [tsOf_cons, tsOf_nil, tsOf_app]); refine dvz (.move rfl) ?_; refine dvz (.extractN rfl rfl) ?_; refine dvz (.extractN rfl rfl) ?_; apply DW.allocA; rfl; rfl; rfl; exact WantT.none; intro _; apply DW.store; rfl; rfl; exact WantT.none; rfl; rfl; apply TSet.head; kernel_rfl; exact ancB_nil; apply fr_wrW; rfl; assumption; apply DW.nil; simp only [fsOf_cons, fsOf_nil, fsOf_app, fsOf_tsOf, fsOf_new])
      simp only [fsOf_mark, fsOf_cons, fsOf_nil, fsOf_app, fsOf_tsOf, fsOf_new, List.append_eq, List.nil_append]
      (refine vAz ?_; refine nNz ?_; refine CW.seq ?_; refine sRz ?_; refine vMz ?_; refine lvz (.notT rfl (by with_reducible rfl)) ?_; refine nNz ?_; refine cFz ?_; refine CW.skip ?_; refine thenN ?_; refine sRz ?_; refine vMz ?_; refine ldz rfl .head fr_rdW ?_; refine vNz ?_; refine vFz ?_; apply LW.store; rfl; rfl; apply SetAt.tail; apply SetAt.app; apply SetAt.head; apply bg_wrF; assumption; refine nSz ?_; refine vMz ?_; refine vMz ?_; refine lvz (.addZL rfl rfl (by decide) (by omega)) ?_; apply LW.callE; rfl; rfl; infer_instance; exact .cons rfl (.cons rfl .nil); intro w _; exact hWn' w (by assumption) (by simp); apply LW.callE; rfl; rfl; infer_instance; exact .cons rfl .nil; intro w _; exact hSn w; refine vMz ?_; refine vEz ?_; refine vEz ?_; refine vAz ?_; refine vAz ?_; refine nNz ?_; refine CW.seq ?_; refine sRz ?_; refine vMz ?_; refine lvz (.eqF rfl rfl (by omega)) ?_; refine nNz ?_; refine cFz ?_; refine CW.skip ?_; refine thenN ?_; refine sRz ?_; refine vMz ?_; refine vMz ?_; apply LW.callE; rfl; rfl; infer_instance; exact .cons rfl (.cons rfl .nil); intro w _; exact hWa' w (by assumption) (by simp); apply LW.callE; rfl; rfl; infer_instance; exact .cons rfl .nil; intro w _; exact hSa w; refine vMz ?_; refine vEz ?_; refine vEz ?_; refine vAz ?_; refine vAz ?_; refine nSz ?_; refine vFz ?_; refine ldz rfl .head fr_rd2 ?_; refine vMz ?_; refine vMz ?_)
      (apply LW.callR; rfl; rfl; infer_instance; exact .cons rfl (.cons rfl (.cons rfl .nil)); intro w hs)
      exact cut_in (memR L a n).ws (memR L a n).ms a n _ _ w ((hfr1.st hs (fun p hp => List.mem_cons_of_mem _ (List.mem_append_left _ hp))).s) ((hfr1.st hs (fun p hp => List.mem_cons_of_mem _ (List.mem_append_left _ hp))).m) hok2 h0 hb2
      rintro vo go ⟨o, lv, gsc, gv, rfl, rfl, ⟨s2, m2, ga, gb, rfl, rfl, hh2, hh3⟩, hlv⟩
      unfold wM at hh2
      unfold bM at hh3
      obtain ⟨q2, k2, rfl⟩ := hh2.form
      obtain ⟨q3, k3, rfl⟩ := hh3.form
      have hlv' := hlv
      unfold bM at hlv'
      obtain ⟨q4, k4, rfl⟩ := hlv'.form
      (refine vMz ?_; refine vEz ?_; refine vEz ?_; refine vEz ?_; apply LW.allocA; rfl; intro _; refine LW.store rfl rfl .head (.whole rfl rfl rfl) ?_; refine vAz ?_; refine vAz ?_; refine nNz ?_; refine CW.seq ?_; refine sRz ?_; refine vMz ?_; refine lvz (.neF rfl rfl (by omega)) ?_; refine nNz ?_; refine cFz ?_; refine CW.skip ?_; refine thenN ?_; refine sRz ?_; refine vMz ?_; refine vMz ?_; refine vMz ?_; refine vAz ?_; refine vAz ?_; refine vAz ?_; refine nNz ?_; refine CW.ret ?_)
      refine inPI (.inl rfl) .nil rfl (by (apply ResL.cons; exact Res.tmp rfl; apply ResL.cons; exact Res.tmp rfl; apply ResL.cons; exact Res.tmp rfl; exact ResL.nil)) rfl ⟨_, ⟨cc, s1, m1, i1, b1, gT, _, gv, ?_, hfr1, hlv, rfl⟩, ?_⟩
      · rw [if_neg (by omega)]; rfl
      · simp only [List.append_assoc, List.cons_append]
        exact subp_ix [[_], gv, gb, ga, [_], gT, [_], gs] (xs := [6, 5, 1]) (ys := [0, 1, 2, 3, 4, 5, 6, 7]) rest rfl
end Go.Proofs.YtpgdnfgjbhdbpaaGreatDoor

/-
  What slots and calls cost: contracts.
  Conditions: none.
-/
namespace Go.Proofs.YtpgdnfgjbhdbpaaGreatDoor
open Go Go.RowKit SL
set_option maxRecDepth 8000
set_option maxHeartbeats 4000000
set_option linter.unusedSimpArgs false
set_option linter.unusedVariables false
attribute [local irreducible] SL.CW SL.LW SL.DW Calls SL.Ret SL.RetG SL.beginQ SL.roundQ SL.rangeQ SL.inQ SL.RW SL.AnyW SL.thenQ SL.thenC SL.thenW SL.blkQ SL.finQ SL.ValP SL.NewP SL.SetP SL.CallP SL.Rd SL.Wr SL.Known
def callV (a b c : Bool) : Nat := (if a then 260 else 10) + if b then 900 + (if c then 2500 else 0) else 0
theorem Far_calls (k : Bool) (w : World) : Calls Tryz.prog 120 #[.bool k] w (Ret w (.int .u64 ((callV k false false : Nat) : Int))) := by
  refine enter (args := [_]) _ [] [] Tryz.func120 rfl Tryz.ntmps120 rfl (by simp) .nil ?_
  cases k
  · (refine sRz ?_; refine vAz ?_; refine nNz ?_; refine CW.seq ?_; refine sRz ?_; refine vMz ?_; refine nNz ?_; refine cFz ?_; refine CW.skip ?_; refine thenN ?_; refine sRz ?_; refine vAz ?_; refine nNz ?_; refine CW.ret ?_)
    (apply finR; exact .inl rfl; rfl; rfl; rfl; apply ResL.cons; exact Res.tmp rfl; exact ResL.nil)
    rfl
  · (refine sRz ?_; refine vAz ?_; refine nNz ?_; refine CW.seq ?_; refine sRz ?_; refine vMz ?_; refine nNz ?_; refine cTz ?_; refine sRz ?_; refine vAz ?_; refine nNz ?_; refine CW.ret ?_; refine thenR ?_)
    (apply finR; exact .inl rfl; rfl; rfl; rfl; apply ResL.cons; exact Res.tmp rfl; exact ResL.nil)
    rfl
theorem Call_calls (a b c : Bool) (w : World) : Calls Tryz.prog 86 #[.agg #[.bool a, .bool b, .bool c]] w (Ret w (.int .u64 ((callV a b c : Nat) : Int))) := by
  refine enter (args := [_]) _ [] [] Tryz.func86 rfl Tryz.ntmps86 rfl (by simp) .nil ?_
  cases a
  · cases b
    · cases c
      · (refine sRz ?_; apply LW.boxA; rfl; rfl; intro _; refine vAz ?_; refine nSz ?_; refine vFz ?_; refine ldz rfl .head (Rd.one' rfl) ?_; apply LW.callE; rfl; rfl; infer_instance; exact .cons rfl .nil; intro w _; exact Far_calls _ w; refine vAz ?_; refine nNz ?_; refine CW.seq ?_; refine sRz ?_; refine vFz ?_; refine ldz rfl .head (Rd.one' rfl) ?_; refine nNz ?_; refine cFz ?_; refine CW.skip ?_; refine thenN ?_; refine CW.seq ?_; refine sRz ?_; refine vFz ?_; refine ldz rfl .head (Rd.one' rfl) ?_; refine vMz ?_; refine gFz ?_; refine gFz ?_; refine pFz ?_; refine nNz ?_; refine cFz ?_; refine CW.skip ?_; refine thenN ?_; refine sRz ?_; refine vMz ?_; refine vAz ?_; refine nNz ?_; refine CW.ret ?_)
        (apply finR; exact .inl rfl; rfl; rfl; rfl; apply ResL.cons; exact Res.tmp rfl; exact ResL.nil)
        rfl
      · (refine sRz ?_; apply LW.boxA; rfl; rfl; intro _; refine vAz ?_; refine nSz ?_; refine vFz ?_; refine ldz rfl .head (Rd.one' rfl) ?_; apply LW.callE; rfl; rfl; infer_instance; exact .cons rfl .nil; intro w _; exact Far_calls _ w; refine vAz ?_; refine nNz ?_; refine CW.seq ?_; refine sRz ?_; refine vFz ?_; refine ldz rfl .head (Rd.one' rfl) ?_; refine nNz ?_; refine cFz ?_; refine CW.skip ?_; refine thenN ?_; refine CW.seq ?_; refine sRz ?_; refine vFz ?_; refine ldz rfl .head (Rd.one' rfl) ?_; refine vMz ?_; refine gFz ?_; refine gFz ?_; refine pFz ?_; refine nNz ?_; refine cFz ?_; refine CW.skip ?_; refine thenN ?_; refine sRz ?_; refine vMz ?_; refine vAz ?_; refine nNz ?_; refine CW.ret ?_)
        (apply finR; exact .inl rfl; rfl; rfl; rfl; apply ResL.cons; exact Res.tmp rfl; exact ResL.nil)
        rfl
    · cases c
      · (refine sRz ?_; apply LW.boxA; rfl; rfl; intro _; refine vAz ?_; refine nSz ?_; refine vFz ?_; refine ldz rfl .head (Rd.one' rfl) ?_; apply LW.callE; rfl; rfl; infer_instance; exact .cons rfl .nil; intro w _; exact Far_calls _ w; refine vAz ?_; refine nNz ?_; refine CW.seq ?_; refine sRz ?_; refine vFz ?_; refine ldz rfl .head (Rd.one' rfl) ?_; refine nNz ?_; refine cTz ?_; refine CW.region ?_; refine vMz ?_; refine lvz (.addNL rfl rfl (by decide)) ?_; refine vAz ?_; refine nNz ?_; refine CW.seq ?_; refine sRz ?_; refine vFz ?_; refine ldz rfl .head (Rd.one' rfl) ?_; refine vMz ?_; refine gTz ?_; refine vFz ?_; refine gTz ?_; refine ldz rfl .head (Rd.one' rfl) ?_; refine pTz ?_; refine nNz ?_; refine cFz ?_; refine CW.skip ?_; refine thenN ?_; refine sRz ?_; refine vMz ?_; refine vAz ?_; refine nNz ?_; refine CW.ret ?_)
        (apply finR; exact .inl rfl; rfl; rfl; rfl; apply ResL.cons; exact Res.tmp rfl; exact ResL.nil)
        rfl
      · (refine sRz ?_; apply LW.boxA; rfl; rfl; intro _; refine vAz ?_; refine nSz ?_; refine vFz ?_; refine ldz rfl .head (Rd.one' rfl) ?_; apply LW.callE; rfl; rfl; infer_instance; exact .cons rfl .nil; intro w _; exact Far_calls _ w; refine vAz ?_; refine nNz ?_; refine CW.seq ?_; refine sRz ?_; refine vFz ?_; refine ldz rfl .head (Rd.one' rfl) ?_; refine nNz ?_; refine cTz ?_; refine CW.region ?_; refine vMz ?_; refine lvz (.addNL rfl rfl (by decide)) ?_; refine vAz ?_; refine nNz ?_; refine CW.seq ?_; refine sRz ?_; refine vFz ?_; refine ldz rfl .head (Rd.one' rfl) ?_; refine vMz ?_; refine gTz ?_; refine vFz ?_; refine gTz ?_; refine ldz rfl .head (Rd.one' rfl) ?_; refine pTz ?_; refine nNz ?_; refine cTz ?_; refine CW.region ?_; refine vMz ?_; refine lvz (.addNL rfl rfl (by decide)) ?_; refine vAz ?_; refine nSz ?_; refine vMz ?_; refine vAz ?_; refine nNz ?_; refine CW.ret ?_)
        (apply finR; exact .inl rfl; rfl; rfl; rfl; apply ResL.cons; exact Res.tmp rfl; exact ResL.nil)
        rfl
  · cases b
    · cases c
      · (refine sRz ?_; apply LW.boxA; rfl; rfl; intro _; refine vAz ?_; refine nSz ?_; refine vFz ?_; refine ldz rfl .head (Rd.one' rfl) ?_; apply LW.callE; rfl; rfl; infer_instance; exact .cons rfl .nil; intro w _; exact Far_calls _ w; refine vAz ?_; refine nNz ?_; refine CW.seq ?_; refine sRz ?_; refine vFz ?_; refine ldz rfl .head (Rd.one' rfl) ?_; refine nNz ?_; refine cFz ?_; refine CW.skip ?_; refine thenN ?_; refine CW.seq ?_; refine sRz ?_; refine vFz ?_; refine ldz rfl .head (Rd.one' rfl) ?_; refine vMz ?_; refine gFz ?_; refine gFz ?_; refine pFz ?_; refine nNz ?_; refine cFz ?_; refine CW.skip ?_; refine thenN ?_; refine sRz ?_; refine vMz ?_; refine vAz ?_; refine nNz ?_; refine CW.ret ?_)
        (apply finR; exact .inl rfl; rfl; rfl; rfl; apply ResL.cons; exact Res.tmp rfl; exact ResL.nil)
        rfl
      · (refine sRz ?_; apply LW.boxA; rfl; rfl; intro _; refine vAz ?_; refine nSz ?_; refine vFz ?_; refine ldz rfl .head (Rd.one' rfl) ?_; apply LW.callE; rfl; rfl; infer_instance; exact .cons rfl .nil; intro w _; exact Far_calls _ w; refine vAz ?_; refine nNz ?_; refine CW.seq ?_; refine sRz ?_; refine vFz ?_; refine ldz rfl .head (Rd.one' rfl) ?_; refine nNz ?_; refine cFz ?_; refine CW.skip ?_; refine thenN ?_; refine CW.seq ?_; refine sRz ?_; refine vFz ?_; refine ldz rfl .head (Rd.one' rfl) ?_; refine vMz ?_; refine gFz ?_; refine gFz ?_; refine pFz ?_; refine nNz ?_; refine cFz ?_; refine CW.skip ?_; refine thenN ?_; refine sRz ?_; refine vMz ?_; refine vAz ?_; refine nNz ?_; refine CW.ret ?_)
        (apply finR; exact .inl rfl; rfl; rfl; rfl; apply ResL.cons; exact Res.tmp rfl; exact ResL.nil)
        rfl
    · cases c
      · (refine sRz ?_; apply LW.boxA; rfl; rfl; intro _; refine vAz ?_; refine nSz ?_; refine vFz ?_; refine ldz rfl .head (Rd.one' rfl) ?_; apply LW.callE; rfl; rfl; infer_instance; exact .cons rfl .nil; intro w _; exact Far_calls _ w; refine vAz ?_; refine nNz ?_; refine CW.seq ?_; refine sRz ?_; refine vFz ?_; refine ldz rfl .head (Rd.one' rfl) ?_; refine nNz ?_; refine cTz ?_; refine CW.region ?_; refine vMz ?_; refine lvz (.addNL rfl rfl (by decide)) ?_; refine vAz ?_; refine nNz ?_; refine CW.seq ?_; refine sRz ?_; refine vFz ?_; refine ldz rfl .head (Rd.one' rfl) ?_; refine vMz ?_; refine gTz ?_; refine vFz ?_; refine gTz ?_; refine ldz rfl .head (Rd.one' rfl) ?_; refine pTz ?_; refine nNz ?_; refine cFz ?_; refine CW.skip ?_; refine thenN ?_; refine sRz ?_; refine vMz ?_; refine vAz ?_; refine nNz ?_; refine CW.ret ?_)
        (apply finR; exact .inl rfl; rfl; rfl; rfl; apply ResL.cons; exact Res.tmp rfl; exact ResL.nil)
        rfl
      · (refine sRz ?_; apply LW.boxA; rfl; rfl; intro _; refine vAz ?_; refine nSz ?_; refine vFz ?_; refine ldz rfl .head (Rd.one' rfl) ?_; apply LW.callE; rfl; rfl; infer_instance; exact .cons rfl .nil; intro w _; exact Far_calls _ w; refine vAz ?_; refine nNz ?_; refine CW.seq ?_; refine sRz ?_; refine vFz ?_; refine ldz rfl .head (Rd.one' rfl) ?_; refine nNz ?_; refine cTz ?_; refine CW.region ?_; refine vMz ?_; refine lvz (.addNL rfl rfl (by decide)) ?_; refine vAz ?_; refine nNz ?_; refine CW.seq ?_; refine sRz ?_; refine vFz ?_; refine ldz rfl .head (Rd.one' rfl) ?_; refine vMz ?_; refine gTz ?_; refine vFz ?_; refine gTz ?_; refine ldz rfl .head (Rd.one' rfl) ?_; refine pTz ?_; refine nNz ?_; refine cTz ?_; refine CW.region ?_; refine vMz ?_; refine lvz (.addNL rfl rfl (by decide)) ?_; refine vAz ?_; refine nSz ?_; refine vMz ?_; refine vAz ?_; refine nNz ?_; refine CW.ret ?_)
        (apply finR; exact .inl rfl; rfl; rfl; rfl; apply ResL.cons; exact Res.tmp rfl; exact ResL.nil)
        rfl
end Go.Proofs.YtpgdnfgjbhdbpaaGreatDoor

/-
  What begins a call: all that is reached; what a call costs.
  Conditions: none.
-/
namespace Go.Proofs.YtpgdnfgjbhdbpaaGreatDoor
open Go Go.RowKit SL
set_option maxRecDepth 8000
set_option maxHeartbeats 4000000
set_option linter.unusedSimpArgs false
set_option linter.unusedVariables false
attribute [local irreducible] SL.CW SL.LW SL.DW Calls SL.Ret SL.RetG SL.beginQ SL.roundQ SL.rangeQ SL.inQ SL.RW SL.AnyW SL.thenQ SL.thenC SL.thenW SL.blkQ SL.finQ SL.ValP SL.NewP SL.SetP SL.CallP SL.Rd SL.Wr SL.Known
def reachG (g : Nat) (L : FrL) (a n : Nat) : Option (Nat × FrL) := if costR L a n ≤ g then some (g - costR L a n, memR L a n) else none
theorem reachR_G (f : FrV) (L : FrL) (a n : Nat) : reachR f L a n = reachG f.gas L a n := rfl
theorem reachG_some {g g' : Nat} {L L' : FrL} {a n : Nat} (h : reachG g L a n = some (g', L')) : costR L a n ≤ g ∧ g' = g - costR L a n ∧ L' = memR L a n := by
  unfold reachG at h
  split at h
  · cases h; exact ⟨by assumption, rfl, rfl⟩
  · cases h
/-- A frame in which memory was reached may be. -/
theorem okF_reach {f : FrV} {L L' : FrL} {a n g : Nat} {c s m i b : Value} (h : okF f L) (hr : reachG f.gas L a n = some (g, L')) : okF (f.rowsG g c s m i b) L' := by
  obtain ⟨hc, rfl, rfl⟩ := reachG_some hr
  have hE := memV_le h.2.2.2.1.2.1 h.1.2.2 hc
  obtain ⟨⟨h1, h2, h3⟩, h4, h5, h6, h7⟩ := h
  refine ⟨⟨h1, h2, by show f.gas - _ ≤ _; omega⟩, h4, h5, ?_, h7⟩
  obtain ⟨k1, k2, k3⟩ := h6
  have h5 : (memR L a n).ms.length = L.ms.length + (upW (endV a n) - L.ms.length) := by unfold memR FrL.setM; simp
  unfold upW at h5
  exact ⟨k1, by omega, by omega⟩
attribute [local irreducible] SL.inP wordI shq
/-- All that is reached. -/
def BReachesK (b : Nat) (f : FrV) (L : FrL) (A : AkV) (c : ClV) (a1 n1 a2 n2 : Nat) (rest : Fs) : Out := fun x fs' => match reachG f.gas L a1 n1 with
  | none => x = .panicked offC ∧ fs' = rest
  | some (g1, L1) => match reachG g1 L1 a2 n2 with
    | none => x = .panicked offC ∧ fs' = rest
    | some (g2, L2) => ∃ cc s m i b5 gs' lv gl, x = .returned (.tuple #[]) ∧ FrO (f.rowsG g2 cc s m i b5) L2 gs' ∧ bM ((L1.ms.drop a1).take n1) lv gl ∧ fs' = (b, bgO (f.rowsG g2 cc s m i b5) A { c with inp := lv, pl := if n2 = 0 then 0 else a2, n := n2 }) :: (gs' ++ (gl ++ rest))
section bk
variable {b : Nat} {f : FrV} {L L1 L2 : FrL} {A : AkV} {c : ClV} {a1 n1 a2 n2 g1 g2 : Nat} {rest fs' : Fs} {x : Ending}
theorem BReachesK.no1 (h : reachG f.gas L a1 n1 = none) : BReachesK b f L A c a1 n1 a2 n2 rest (.panicked offC) rest := by
  unfold BReachesK; rw [h]; exact ⟨rfl, rfl⟩
theorem BReachesK.no2 (h : reachG f.gas L a1 n1 = some (g1, L1)) (h2 : reachG g1 L1 a2 n2 = none) : BReachesK b f L A c a1 n1 a2 n2 rest (.panicked offC) rest := by
  unfold BReachesK; rw [h]; dsimp only; rw [h2]; exact ⟨rfl, rfl⟩
theorem BReachesK.mk (h : reachG f.gas L a1 n1 = some (g1, L1)) (h2 : reachG g1 L1 a2 n2 = some (g2, L2)) (hk : ∃ cc s m i b5 gs' lv gl, x = .returned (.tuple #[]) ∧ FrO (f.rowsG g2 cc s m i b5) L2 gs' ∧ bM ((L1.ms.drop a1).take n1) lv gl ∧ fs' = (b, bgO (f.rowsG g2 cc s m i b5) A { c with inp := lv, pl := if n2 = 0 then 0 else a2, n := n2 }) :: (gs' ++ (gl ++ rest))) : BReachesK b f L A c a1 n1 a2 n2 rest x fs' := by
  unfold BReachesK; rw [h]; dsimp only; rw [h2]; exact hk
end bk
theorem BReachK.plain {w0 : World} {b : Nat} {f : FrV} {L : FrL} {A : AkV} {c : ClV} {a n : Nat} {rest : Fs} : (BReachK w0 b f L A c a n rest).plain := fun fs h => by
  unfold BReachK at h
  cases hR : reachR f L a n with
  | none => rw [hR] at h; cases h.1
  | some x => rw [hR] at h; obtain ⟨_, _, _, _, _, _, _, _, h, _⟩ := h; cases h
theorem breaches_calls (w0 : World) (b : Nat) (f : FrV) (L : FrL) (A : AkV) (c : ClV) (ws : List Nat) (hM : ∀ x ∈ ws, x < M256) (i j : Nat) (hqi : (shq A.op).2.2.2.1 = (i : Int)) (hqj : (shq A.op).2.2.2.2.1 = (j : Int)) (hi : i + 1 < ws.length) (hj : j + 1 < ws.length) (hll : ws.length ≤ 100) (hF : okF f L) (gs rest : Fs) (hfr : FrA w0 f L gs) (w : World) (hv : RowAt w0 4 A.ws ws.length (wcs ws)) (hs : St w0 [] ((b, bgO f A c) :: (gs ++ rest)) w) :
    Calls Tryz.prog 58 #[.pointer (some ⟨b, 0, none⟩)] w (fun x w' => ∃ fs', BReachesK b f L A c (wordI ws (i : Int)) (wordI ws ((i : Int) + 1)) (wordI ws (j : Int)) (wordI ws ((j : Int) + 1)) rest x fs' ∧ St w0 [] fs' w') := by
  obtain ⟨cop, cdst, cself, cfrm, cval, cmv, cgas, cinp, ccode, cpl, cn, cstat⟩ := c
  have hs17 : ∀ {f c E fr}, Rd Tryz.prog 3 (.cells (bga f A c) E fr) 17 (.int .i64 (i : Int)) := fun {f c E fr} => by have h := bg_rd17 (P := Tryz.prog) (T := 3) (E := E) (fr := fr) (A := A) (f := f) (c := c); rw [hqi] at h; exact h
  have hs18 : ∀ {f c E fr}, Rd Tryz.prog 3 (.cells (bga f A c) E fr) 18 (.int .i64 (j : Int)) := fun {f c E fr} => by have h := bg_rd18 (P := Tryz.prog) (T := 3) (E := E) (fr := fr) (A := A) (f := f) (c := c); rw [hqj] at h; exact h
  refine calls_anyO (calls_inlineP (K := anyO (BReachesK b f L A ⟨cop, cdst, cself, cfrm, cval, cmv, cgas, cinp, ccode, cpl, cn, cstat⟩ (wordI ws (i : Int)) (wordI ws ((i : Int) + 1)) (wordI ws (j : Int)) (wordI ws ((j : Int) + 1)) rest)) (args := [_]) Tryz.func58 rfl Tryz.ntmps58 rfl ?_ hs)
  (refine sRz ?_; refine vMz ?_; refine vMz ?_; refine vMz ?_; refine vNz ?_; refine vFz ?_; refine vFz ?_; refine ldz rfl .head hs17 ?_)
  refine LW.callP (K := BReachK w0 b f L A _ (wordI ws (i : Int)) (wordI ws ((i : Int) + 1)) rest) rfl rfl inferInstance (by (exact .cons rfl (.cons rfl .nil))) rfl BReachK.plain (fun w' hst => breach_calls w0 b f L A _ ws hM i hi hll hF gs rest hfr w' hv hst) ?_ ?_
  · intro v fs' hK
    unfold BReachK at hK
    rw [reachR_G] at hK
    cases hR : reachG f.gas L (wordI ws (i : Int)) (wordI ws ((i : Int) + 1)) with
    | none => rw [hR] at hK; cases hK.1
    | some x =>
      obtain ⟨g1, L1⟩ := x
      rw [hR] at hK
      obtain ⟨cc, s1, m1, i1, b1, gs1, lv, gl, h1, hfr1, hlv, rfl⟩ := hK
      cases h1
      have hlv' := hlv
      unfold bM at hlv'
      obtain ⟨q1, k1, rfl⟩ := hlv'.form
      have hF1 := okF_reach (c := cc) (s := s1) (m := m1) (i := i1) (b := b1) hF hR
      (refine vMz ?_; refine vEz ?_; refine vEz ?_; refine vEz ?_; refine vNz ?_; refine vFz ?_; refine vFz ?_; refine LW.store rfl rfl .head bg_wr36 ?_; refine nNz ?_; refine CW.region ?_; refine vMz ?_; refine vMz ?_; refine vMz ?_; refine vMz ?_; refine vNz ?_; refine vFz ?_; refine vFz ?_; refine ldz rfl .head hs18 ?_)
      refine LW.callP (K := BReachK w0 b (f.rowsG g1 cc s1 m1 i1 b1) L1 A _ (wordI ws (j : Int)) (wordI ws ((j : Int) + 1)) (gl ++ rest)) rfl rfl inferInstance (by (exact .cons rfl (.cons rfl .nil))) rfl BReachK.plain (fun w' hst => breach_calls w0 b _ L1 A _ ws hM j hj hll hF1 gs1 (gl ++ rest) (.inr hfr1) w' hv hst) ?_ ?_
      · intro v fs' hK
        unfold BReachK at hK
        rw [reachR_G] at hK
        change match reachG g1 L1 (wordI ws (j : Int)) (wordI ws ((j : Int) + 1)) with | none => _ | some (g, L') => _ at hK
        cases hR2 : reachG g1 L1 (wordI ws (j : Int)) (wordI ws ((j : Int) + 1)) with
        | none => rw [hR2] at hK; cases hK.1
        | some x =>
          obtain ⟨g2, L2⟩ := x
          rw [hR2] at hK
          obtain ⟨cc2, s2, m2, i2, b2, gs2, lv2, gl2, h1, hfr2, hlv2, rfl⟩ := hK
          cases h1
          (refine vMz ?_; refine vEz ?_; refine vEz ?_; refine vEz ?_; refine vNz ?_; refine vFz ?_; refine vFz ?_; apply LW.store; rfl; rfl; apply SetAt.head; apply bg_wr38 (z := .int .u64 0); refine vNz ?_; refine vFz ?_; refine vFz ?_; apply LW.store; rfl; rfl; apply SetAt.head; apply bg_wr39 (z := .int .u64 0); apply LW.nil)
          refine inPI (.inr rfl) .nil rfl .nil rfl ⟨_, BReachesK.mk hR hR2 ⟨cc2, s2, m2, i2, b2, gs2, _, gl, rfl, hfr2, hlv, rfl⟩, ?_⟩
          exact subp_ix [[_], gs2, gl2, gl] (xs := [0, 1, 3]) (ys := [0, 1, 2, 3]) rest rfl
      · intro ch fs' hK
        unfold BReachK at hK
        rw [reachR_G] at hK
        change match reachG g1 L1 (wordI ws (j : Int)) (wordI ws ((j : Int) + 1)) with | none => _ | some (g, L') => _ at hK
        cases hR2 : reachG g1 L1 (wordI ws (j : Int)) (wordI ws ((j : Int) + 1)) with
        | none =>
          rw [hR2] at hK
          obtain ⟨h1, rfl⟩ := hK
          cases h1
          exact inPP .nil ⟨_, BReachesK.no2 hR hR2, subp_ix [gl] (xs := []) (ys := [0]) rest rfl⟩
        | some x => rw [hR2] at hK; obtain ⟨_, _, _, _, _, _, _, _, h, _⟩ := hK; cases h
  · intro ch fs' hK
    unfold BReachK at hK
    rw [reachR_G] at hK
    cases hR : reachG f.gas L (wordI ws (i : Int)) (wordI ws ((i : Int) + 1)) with
    | none =>
      rw [hR] at hK
      obtain ⟨h1, rfl⟩ := hK
      cases h1
      refine thenP ?_
      exact inPP .nil ⟨_, BReachesK.no1 hR, _, .refl _, .refl _⟩
    | some x => rw [hR] at hK; obtain ⟨_, _, _, _, _, _, _, _, h, _⟩ := hK; cases h
/-! ### What a call costs, and its gas -/
def lentG (g k w : Nat) : Nat := min w (g - k - (g - k) / 64)
def BCallsK (b : Nat) (f : FrV) (A : AkV) (c : ClV) (w : Nat) (rest : Fs) : Out := fun x fs' =>
  (f.gas < callV A.cold c.mv A.new ∧ x = .panicked offC ∧ fs' = rest) ∨
  (callV A.cold c.mv A.new ≤ f.gas ∧ x = .returned (.tuple #[]) ∧ fs' = (b, bgO (f.setGas (f.gas - callV A.cold c.mv A.new - lentG f.gas (callV A.cold c.mv A.new) w)) A { c with gas := lentG f.gas (callV A.cold c.mv A.new) w + (if c.mv then 230 else 0) }) :: rest)
theorem bcalls_calls (w0 : World) (b : Nat) (f : FrV) (A : AkV) (c : ClV) (ws : List Nat) (hM : ∀ x ∈ ws, x < M256) (h0 : 0 < ws.length) (hll : ws.length ≤ 100) (hg : f.gas ≤ 20000) (rest : Fs) (w : World) (hv : RowAt w0 4 A.ws ws.length (wcs ws)) (hs : St w0 [] ((b, bgO f A c) :: rest) w) :
    Calls Tryz.prog 55 #[.pointer (some ⟨b, 0, none⟩)] w (fun x w' => ∃ fs', BCallsK b f A c (ws.getD 0 0) rest x fs' ∧ St w0 [] fs' w') := by
  obtain ⟨code, pc, stk, mem, gas, self, frm, val, inp, back, stat⟩ := f
  obtain ⟨cop, cdst, cself, cfrm, cval, cmv, cgas, cinp, ccode, cpl, cn, cstat⟩ := c
  obtain ⟨kind, op, aws, dt, cold, vl, new⟩ := A
  dsimp only at hg hv
  obtain ⟨bw, off, cc, cs, E, fr, heq, hbw, hx⟩ := hv.pos (by omega)
  subst heq
  have hrd := word_rd (P := Tryz.prog) (T := 29) (E := E) (fr := fr) hx 0 (by omega)
  have hw0 : ws.getD 0 0 < M256 := by rw [List.getD_eq_getElem?_getD, List.getElem?_eq_getElem h0]; exact hM _ (List.getElem_mem h0)
  obtain ⟨x0, hx0⟩ : ∃ x, ws.getD 0 0 = x := ⟨_, rfl⟩
  rw [hx0] at hrd hw0 ⊢
  unfold BCallsK
  dsimp only
  obtain ⟨k, hk⟩ : ∃ k, callV cold cmv new = k := ⟨_, rfl⟩
  refine calls_anyO (calls_inlineP (K := anyO fun x fs' => (gas < callV cold cmv new ∧ x = .panicked offC ∧ fs' = rest) ∨ (callV cold cmv new ≤ gas ∧ x = .returned (.tuple #[]) ∧ fs' = (b, bgO (FrV.setGas ⟨code, pc, stk, mem, gas, self, frm, val, inp, back, stat⟩ (gas - callV cold cmv new - lentG gas (callV cold cmv new) x0)) ⟨kind, op, .slice (some ⟨bw, off, none⟩) ws.length cc, dt, cold, vl, new⟩ ⟨cop, cdst, cself, cfrm, cval, cmv, lentG gas (callV cold cmv new) x0 + (if cmv then 230 else 0), cinp, ccode, cpl, cn, cstat⟩) :: rest)) (args := [_]) Tryz.func55 rfl Tryz.ntmps55 rfl ?_ hs)
  (refine CW.seq ?_; apply CW.pre; refine AnyW.any 18 mixed (by decide +kernel) ?_; (try simp only [tsOf_cons, tsOf_nil, tsOf_app]); refine dvz (.move rfl) ?_; refine dvz (.move rfl) ?_; refine dvz (.nilCheck rfl) ?_; refine dvz (.fieldAddr rfl rfl) ?_; refine dvz (.fieldAddr rfl rfl) ?_; apply DW.loadO; rfl; rfl; rfl; exact WantT.none; rfl; apply TRead.head; exact ancB_nil; exact bg_rd23; refine dvz (.move rfl) ?_; refine dvz (.nilCheck rfl) ?_; refine dvz (.fieldAddr rfl rfl) ?_; refine dvz (.fieldAddr rfl rfl) ?_; apply DW.loadO; rfl; rfl; rfl; exact WantT.none; rfl; apply TRead.head; exact ancB_nil; exact bg_rd34; refine dvz (.move rfl) ?_; refine dvz (.nilCheck rfl) ?_; refine dvz (.fieldAddr rfl rfl) ?_; refine dvz (.fieldAddr rfl rfl) ?_; apply DW.loadO; rfl; rfl; rfl; exact WantT.none; rfl; apply TRead.head; exact ancB_nil; exact bg_rd25; apply DW.v0; rfl; rfl; rfl; exact WantT.none; rfl; apply ValP.buildT; infer_instance; infer_instance; apply PartsOk.cons; rfl; apply PartsOk.cons; rfl; apply PartsOk.cons; rfl; exact PartsOk.nil; rfl; simp only [fillP, wrCells, Value.cells, List.getElem?_cons_zero, List.getElem?_cons_succ, List.toList_toArray, List.setIfInBounds_toArray, List.set_cons_succ, List.set_cons_zero, Nat.reduceAdd, Nat.zero_add]; rfl; apply DW.callE; rfl; rfl; rfl; exact WantT.none; rfl; infer_instance; exact .cons rfl .nil; rfl; exact ReadAll.nil; intro w _ _; exact Call_calls _ _ _ w; apply DW.nil; simp only [fsOf_cons, fsOf_nil, fsOf_app, fsOf_tsOf, fsOf_new])
  rw [hk]
  refine LW.callP (K := fun x fs' => (k ≤ gas ∧ x = .returned (.tuple #[]) ∧ fs' = (b, bgO (FrV.setGas ⟨code, pc, stk, mem, gas, self, frm, val, inp, back, stat⟩ (gas - k)) ⟨kind, op, .slice (some ⟨bw, off, none⟩) ws.length cc, dt, cold, vl, new⟩ ⟨cop, cdst, cself, cfrm, cval, cmv, cgas, cinp, ccode, cpl, cn, cstat⟩) :: rest) ∨ (gas < k ∧ x = .panicked offC ∧ fs' = rest)) rfl rfl inferInstance (by (exact .cons rfl (.cons rfl .nil))) rfl (fun fs h => by rcases h with ⟨_, h, _⟩ | ⟨_, h, _⟩ <;> cases h) (fun w' hst => bspend_calls w0 b ⟨code, pc, stk, mem, gas, self, frm, val, inp, back, stat⟩ _ _ k (by dsimp only; omega) rest w' hst) ?_ ?_
  · rintro v fs' (⟨hkg, h, rfl⟩ | ⟨_, h, _⟩)
    · cases h
      have hLend : ∀ w, Calls Tryz.prog 87 #[.int .u64 ((gas - k : Nat) : Int), wv x0] w (Ret w (.int .u64 ((lentG gas k x0 : Nat) : Int))) := fun w => Lend_calls (gas - k) x0 (by omega) hw0 w
      have hll2 : lentG gas k x0 ≤ gas - k := by unfold lentG; omega
      change LW _ _ _ _ _ ((b, bgO ⟨code, pc, stk, mem, gas - k, self, frm, val, inp, back, stat⟩ ⟨kind, op, .slice (some ⟨bw, off, none⟩) ws.length cc, dt, cold, vl, new⟩ ⟨cop, cdst, cself, cfrm, cval, cmv, cgas, cinp, ccode, cpl, cn, cstat⟩) :: rest)
      (refine nNz ?_; refine CW.seq ?_; apply CW.pre; refine AnyW.any 14 mixed (by decide +kernel) ?_; (try simp only [tsOf_cons, tsOf_nil, tsOf_app]); refine dvz (.move rfl) ?_; refine dvz (.move rfl) ?_; refine dvz (.nilCheck rfl) ?_; refine dvz (.fieldAddr rfl rfl) ?_; refine dvz (.fieldAddr rfl rfl) ?_; apply DW.loadO; rfl; rfl; rfl; exact WantT.none; rfl; apply TRead.head; exact ancB_nil; exact bg_rd4; refine dvz (.move rfl) ?_; refine dvz (.nilCheck rfl) ?_; refine dvz (.fieldAddr rfl rfl) ?_; refine dvz (.fieldAddr rfl rfl) ?_; apply DW.loadO; rfl; rfl; rfl; exact WantT.none; rfl; apply TRead.head; exact ancB_nil; exact bg_rd21; refine dvz (.indexAddrSL rfl rfl (by decide) (by omega)) ?_; apply DW.loadX; rfl; rfl; rfl; exact WantT.none; rfl; assumption; simp; assumption; apply DW.callE; rfl; rfl; rfl; exact WantT.none; rfl; infer_instance; exact .cons rfl (.cons rfl .nil); rfl; exact ReadAll.nil; intro w _ _; exact hLend w; apply DW.nil; simp only [fsOf_cons, fsOf_nil, fsOf_app, fsOf_tsOf, fsOf_new]; refine vNz ?_; refine vFz ?_; refine vFz ?_; apply LW.store; rfl; rfl; apply SetAt.head; apply bg_wr35 (z := .int .u64 0); refine nSz ?_; refine vMz ?_; refine vMz ?_; refine vNz ?_; refine vFz ?_; refine vFz ?_; refine ldz rfl .head bg_rd35 ?_)
      refine LW.callP (K := fun x fs' => (lentG gas k x0 ≤ gas - k ∧ x = .returned (.tuple #[]) ∧ fs' = (b, bgO (FrV.setGas ⟨code, pc, stk, mem, gas - k, self, frm, val, inp, back, stat⟩ (gas - k - lentG gas k x0)) ⟨kind, op, .slice (some ⟨bw, off, none⟩) ws.length cc, dt, cold, vl, new⟩ ⟨cop, cdst, cself, cfrm, cval, cmv, lentG gas k x0, cinp, ccode, cpl, cn, cstat⟩) :: rest) ∨ (gas - k < lentG gas k x0 ∧ x = .panicked offC ∧ fs' = rest)) rfl rfl inferInstance (by (exact .cons rfl (.cons rfl .nil))) rfl (fun fs h => by rcases h with ⟨_, h, _⟩ | ⟨_, h, _⟩ <;> cases h) (fun w' hst => bspend_calls w0 b ⟨code, pc, stk, mem, gas - k, self, frm, val, inp, back, stat⟩ ⟨kind, op, .slice (some ⟨bw, off, none⟩) ws.length cc, dt, cold, vl, new⟩ ⟨cop, cdst, cself, cfrm, cval, cmv, lentG gas k x0, cinp, ccode, cpl, cn, cstat⟩ (lentG gas k x0) (by dsimp only; omega) rest w' hst) ?_ ?_
      · rintro v fs' (⟨_, h, rfl⟩ | ⟨_, h, _⟩)
        · cases h
          change LW _ _ _ _ _ ((b, bgO ⟨code, pc, stk, mem, gas - k - lentG gas k x0, self, frm, val, inp, back, stat⟩ ⟨kind, op, .slice (some ⟨bw, off, none⟩) ws.length cc, dt, cold, vl, new⟩ ⟨cop, cdst, cself, cfrm, cval, cmv, lentG gas k x0, cinp, ccode, cpl, cn, cstat⟩) :: rest)
          cases cmv with
          | true =>
            have hmod : (lentG gas k x0 + 230) % 18446744073709551616 = lentG gas k x0 + 230 := Nat.mod_eq_of_lt (by omega)
            (refine nSz ?_; refine vMz ?_; refine vNz ?_; refine vFz ?_; refine vFz ?_; refine ldz rfl .head bg_rd34 ?_; refine nNz ?_; refine cTz ?_; refine CW.region ?_; refine vMz ?_; refine vNz ?_; refine vFz ?_; refine vFz ?_; refine ldz rfl .head bg_rd35 ?_; refine lvz (.addNL rfl rfl (by decide)) ?_; refine vNz ?_; refine vFz ?_; refine vFz ?_; apply LW.store; rfl; rfl; apply SetAt.head; apply bg_wr35 (z := .int .u64 0); apply LW.nil)
            rw [hmod]
            exact inPI (.inr rfl) .nil rfl .nil rfl ⟨_, .inr ⟨hkg, rfl, rfl⟩, _, .refl _, .refl _⟩
          | false =>
            (refine nSz ?_; refine vMz ?_; refine vNz ?_; refine vFz ?_; refine vFz ?_; refine ldz rfl .head bg_rd34 ?_; refine nNz ?_; refine cFz ?_; refine CW.skip ?_)
            exact inPI (.inr rfl) .nil rfl .nil rfl ⟨_, .inr ⟨hkg, rfl, rfl⟩, _, .refl _, .refl _⟩
        · cases h
      · rintro ch fs' (⟨_, h, _⟩ | ⟨hkg, h, rfl⟩)
        · cases h
        · omega
    · cases h
  · rintro ch fs' (⟨_, h, _⟩ | ⟨hkg, h, rfl⟩)
    · cases h
    · cases h
      refine thenP ?_
      exact inPP .nil ⟨_, .inl ⟨hkg, rfl, rfl⟩, _, .refl _, .refl _⟩
end Go.Proofs.YtpgdnfgjbhdbpaaGreatDoor

/-
  What is begun of what a frame asks for: calls.
  Conditions: none.
-/
namespace Go.Proofs.YtpgdnfgjbhdbpaaGreatDoor
open Go Go.RowKit SL
set_option maxRecDepth 8000
set_option maxHeartbeats 4000000
set_option linter.unusedSimpArgs false
set_option linter.unusedVariables false
attribute [local irreducible] SL.CW SL.LW SL.DW Calls SL.Ret SL.RetG SL.beginQ SL.roundQ SL.rangeQ SL.inQ SL.RW SL.AnyW SL.thenQ SL.thenC SL.thenW SL.blkQ SL.finQ SL.ValP SL.NewP SL.SetP SL.CallP SL.Rd SL.Wr SL.Known
attribute [local irreducible] SL.inP SL.inD SL.outD wordI shq
theorem neNil {P : Program} {e : Env} {T ty : TypeId} {x : Operand} (hI : P.underlying T = some (.interface (P.methodsAt T))) (hx : e.ev x = some .nilIface) : ValP P e [] (.binOp .neq T x (.const .nilIface) ty) (.bool false) :=
  .bin hx rfl (fun w => by rw [Go.eqGuard_nil_constR]; rfl) fun w => by
    simp only [binOp, Sem.run_bind, run_equal_nil_nil w T hI]; rfl
theorem begin1_idle (w0 : World) (S : List Nat) (fs : Fs) (w : World) (hs : St w0 S fs w) :
    CallsDIn (FR none) 0 Tryz.prog 54 #[] .returning w (fun e u' w' => u' = .returning ∧ ∃ fs', (e = .returned (.tuple #[]) ∧ ∃ b1, fs' = b1 :: fs) ∧ St w0 S fs' w') := by
  refine callsD_cw (args := []) _ Tryz.func54 rfl Tryz.ntmps54 rfl (Rec1.two rfl rfl) ?_ hs
  rw [recV_ret]
  (refine sRz ?_; refine vMz ?_; apply LW.v0; rfl; rfl; apply ValP.assertNil; infer_instance; kernel_rfl; rfl; refine vMz ?_; refine vEz ?_; refine vEz ?_; apply LW.allocA; rfl; intro _; refine LW.store rfl rfl .head (.whole rfl rfl rfl) ?_; refine vAz ?_; refine nSz ?_; refine vMz ?_; refine lvz (.notF rfl (by with_reducible rfl)) ?_; refine vMz ?_; refine gTz ?_; refine vMz ?_; refine gTz ?_; apply LW.v0; rfl; rfl; apply neNil; kernel_rfl; rfl; refine pTz ?_; refine nNz ?_; refine cFz ?_; refine CW.skip ?_)
  exact inDI (.inr rfl) rfl .nil rfl ⟨rfl, _, rfl⟩
theorem begin1_off (w0 : World) (S : List Nat) (fs : Fs) (w : World) (hs : St w0 S fs w) :
    CallsDIn (FR none) 0 Tryz.prog 54 #[] (.panicking offC) w (fun e u' w' => u' = .panicking [{ v := offV, recovered := true }] ∧ ∃ fs', (e = .returned (.tuple #[]) ∧ ∃ b1, fs' = b1 :: fs) ∧ St w0 S fs' w') := by
  refine callsD_cw (args := []) _ Tryz.func54 rfl Tryz.ntmps54 rfl (Rec1.two rfl rfl) ?_ hs
  rw [recV_pan]
  (refine sRz ?_; refine vMz ?_; apply LW.v0; rfl; rfl; apply ValP.assertHit; kernel_rfl; rfl; refine vMz ?_; refine vEz ?_; refine vEz ?_; apply LW.allocA; rfl; intro _; refine LW.store rfl rfl .head (.whole rfl rfl rfl) ?_; refine vAz ?_; refine nSz ?_; refine vMz ?_; refine lvz (.notT rfl (by with_reducible rfl)) ?_; refine vMz ?_; refine gFz ?_; refine gFz ?_; refine pFz ?_; refine nNz ?_; refine cFz ?_; refine CW.skip ?_)
  exact inDI (.inr rfl) rfl .nil rfl ⟨rfl, _, rfl⟩
/-! ### Begin, where nothing is created -/
/-- The word at a place. -/
def beginG (f : FrV) (L : FrL) (A : AkV) (ws : List Nat) : Option (Nat × FrL × List UInt8 × ClV) :=
  let i := (shq A.op).2.2.2.1
  let j := (shq A.op).2.2.2.2.1
  match reachG f.gas L (wordI ws i) (wordI ws (i + 1)) with
  | none => none
  | some (g1, L1) => match reachG g1 L1 (wordI ws j) (wordI ws (j + 1)) with
    | none => none
    | some (g2, L2) =>
      let c := whoC f A.op ws
      let k := callV A.cold c.mv A.new
      if k ≤ g2 then some (g2 - k - lentG g2 k (ws.getD 0 0), L2, (L1.ms.drop (wordI ws i)).take (wordI ws (i + 1)),
        { c with pl := if wordI ws (j + 1) = 0 then 0 else wordI ws j, n := wordI ws (j + 1), gas := lentG g2 k (ws.getD 0 0) + (if c.mv then 230 else 0) }) else none
/-- What is begun. -/
def BegR (f : FrV) (R : Option (Nat × FrL × List UInt8 × ClV)) (v : Value) (gs : Fs) : Prop := match R with
  | none => v = .tuple #[frv zeroF, clv zeroC, .bool false] ∧ gs = []
  | some (g, L', l, c) => ∃ cc s m i b lv g1 g2, v = .tuple #[frv (f.rowsG g cc s m i b), clv { c with inp := lv }, .bool true] ∧ gs = g1 ++ g2 ∧ FrO (f.rowsG g cc s m i b) L' g1 ∧ bM l lv g2
theorem Begin_bad (f : FrV) (L : FrL) (A : AkV) (ws : List Nat) (hd : ∃ p n c, A.dt = .slice p n c) (hbad : askB A.kind A.op ws.length = false ∨ ¬ okF f L) (w : World) (hf : FrRows w f L) (hv : RowAt w 4 A.ws ws.length (wcs ws)) :
    Calls Tryz.prog 26 #[frv f, .agg (aska A.kind A.op A.ws A.dt), .agg #[.bool A.cold, .bool A.vl, .bool A.new]] w (RetG w [] (BegR f none)) := by
  obtain ⟨kind, op, aws, dt, cold, vl, new⟩ := A
  obtain ⟨q, d, e, hd⟩ := hd
  dsimp only at hd hbad hv ⊢
  subst hd
  obtain ⟨p, c, rfl, _, _⟩ := id hv.form
  have hzs := zero_sl
  have hSh0 := shapeOf_calls kind op ws.length c p q d e
  have hFc0 := fun w' {fs : Fs} (hst : St w [] fs w') => fCheck_calls f L w' (hf.st hst)
  refine enter (args := [_, _, _]) _ [] [] Tryz.func26 rfl Tryz.ntmps26 rfl (by simp) .nil ?_
  cases hb : askB kind op ws.length with
  | false =>
    rw [hb] at hSh0
    have hSh : ∀ w, Calls Tryz.prog 53 #[.agg (aska kind op (.slice p ws.length c) (.slice q d e))] w (Ret w (.tuple #[.agg (shc op).toArray, .bool false])) := hSh0
    (refine sRz ?_; apply LW.boxA; rfl; rfl; intro _; apply LW.boxA; rfl; rfl; intro _; apply LW.boxA; rfl; rfl; intro _; apply LW.allocA; rfl; intro _; apply LW.allocA; rfl; intro _; refine vAz ?_; refine nSz ?_; refine ldz rfl (.tail (.tail (.tail .head))) ask_rdW ?_; apply LW.callE; rfl; rfl; infer_instance; exact .cons rfl .nil; intro w _; exact hSh w; refine vMz ?_; refine vEz ?_; refine vEz ?_; apply LW.allocA; rfl; intro _; refine LW.store rfl rfl .head (.whole rfl rfl rfl) ?_; refine vAz ?_; refine nNz ?_; refine CW.seq ?_; refine sRz ?_; refine vMz ?_; refine lvz (.notF rfl (by with_reducible rfl)) ?_; refine vMz ?_; (iterate 3 refine gFz ?_); refine pTz ?_; refine nNz ?_; refine cTz ?_; refine CW.seq ?_; apply CW.pre; refine AnyW.any 3 mixed (by decide +kernel) ?_; (try simp only [tsOf_cons, tsOf_nil, tsOf_app]); apply DW.loadO; rfl; rfl; rfl; exact WantT.none; rfl; apply TRead.tail; apply TRead.tail; apply TRead.head; exact ancB_nil; exact Rd.whole rfl; apply DW.loadO; rfl; rfl; rfl; exact WantT.none; rfl; apply TRead.tail; apply TRead.head; exact ancB_nil; exact Rd.whole rfl; apply DW.store; rfl; rfl; exact WantT.none; rfl; rfl; apply TSet.tail; apply TSet.tail; apply TSet.head; exact ancB_nil; kernel_rfl; apply Wr.whole; rfl; rfl; rfl; apply DW.nil; simp only [fsOf_cons, fsOf_nil, fsOf_app, fsOf_tsOf, fsOf_new]; refine LW.store rfl rfl (.tail .head) (.whole rfl rfl rfl) ?_; refine vAz ?_; refine nNz ?_; refine CW.ret ?_; refine thenR ?_)
    exact fin (vs := [frv zeroF, clv zeroC, .bool false]) [] (.inl rfl) rfl rfl (by (apply ResL.cons; apply Res.cell; rfl; apply Known.at; apply FsAt.tail; apply FsAt.tail; apply FsAt.head; exact Rd.whole rfl; apply ResL.cons; apply Res.cell; rfl; apply Known.at; apply FsAt.tail; apply FsAt.head; exact Rd.whole rfl; apply ResL.cons; exact Res.tmp rfl; exact ResL.nil)) (List.nil_sublist _) ⟨rfl, rfl⟩
  | true =>
    have hF : ¬ okF f L := by
      rcases hbad with h | h
      · rw [hb] at h; cases h
      · exact h
    rw [hb] at hSh0
    have hSh : ∀ w, Calls Tryz.prog 53 #[.agg (aska kind op (.slice p ws.length c) (.slice q d e))] w (Ret w (.tuple #[.agg (shc op).toArray, .bool true])) := hSh0
    have hFc : ∀ w' {fs : Fs}, St w [] fs w' → Calls Tryz.prog 31 #[frv f] w' (Ret w' (.int .i64 240)) := fun w' fs hst => by have h := hFc0 w' hst; rwa [if_neg hF] at h
    (refine sRz ?_; apply LW.boxA; rfl; rfl; intro _; apply LW.boxA; rfl; rfl; intro _; apply LW.boxA; rfl; rfl; intro _; apply LW.allocA; rfl; intro _; apply LW.allocA; rfl; intro _; refine vAz ?_; refine nSz ?_; refine ldz rfl (.tail (.tail (.tail .head))) ask_rdW ?_; apply LW.callE; rfl; rfl; infer_instance; exact .cons rfl .nil; intro w _; exact hSh w; refine vMz ?_; refine vEz ?_; refine vEz ?_; apply LW.allocA; rfl; intro _; refine LW.store rfl rfl .head (.whole rfl rfl rfl) ?_; refine vAz ?_; refine nNz ?_; refine CW.seq ?_; refine sRz ?_; refine vMz ?_; refine lvz (.notT rfl (by with_reducible rfl)) ?_; refine vMz ?_; refine gTz ?_; refine ldz rfl (.tail (.tail (.tail (.tail (.tail .head))))) fr_rdW ?_; refine gTz ?_; apply LW.callE; rfl; rfl; infer_instance; exact .cons rfl .nil; intro w _; exact hFc w (by assumption); refine gTz ?_; refine lvz (.neT rfl rfl (by omega)) ?_; refine pFz ?_; refine nNz ?_; refine cTz ?_; refine CW.seq ?_; apply CW.pre; refine AnyW.any 3 mixed (by decide +kernel) ?_; (try simp only [tsOf_cons, tsOf_nil, tsOf_app]); apply DW.loadO; rfl; rfl; rfl; exact WantT.none; rfl; apply TRead.tail; apply TRead.tail; apply TRead.head; exact ancB_nil; exact Rd.whole rfl; apply DW.loadO; rfl; rfl; rfl; exact WantT.none; rfl; apply TRead.tail; apply TRead.head; exact ancB_nil; exact Rd.whole rfl; apply DW.store; rfl; rfl; exact WantT.none; rfl; rfl; apply TSet.tail; apply TSet.tail; apply TSet.head; exact ancB_nil; kernel_rfl; apply Wr.whole; rfl; rfl; rfl; apply DW.nil; simp only [fsOf_cons, fsOf_nil, fsOf_app, fsOf_tsOf, fsOf_new]; refine LW.store rfl rfl (.tail .head) (.whole rfl rfl rfl) ?_; refine vAz ?_; refine nNz ?_; refine CW.ret ?_; refine thenR ?_)
    exact fin (vs := [frv zeroF, clv zeroC, .bool false]) [] (.inl rfl) rfl rfl (by (apply ResL.cons; apply Res.cell; rfl; apply Known.at; apply FsAt.tail; apply FsAt.tail; apply FsAt.head; exact Rd.whole rfl; apply ResL.cons; apply Res.cell; rfl; apply Known.at; apply FsAt.tail; apply FsAt.head; exact Rd.whole rfl; apply ResL.cons; exact Res.tmp rfl; exact ResL.nil)) (List.nil_sublist _) ⟨rfl, rfl⟩
section bl
variable {f : FrV} {L L1 L2 : FrL} {A : AkV} {ws : List Nat} {i j g1 g2 : Nat}
theorem beginG_no1 (hi : (shq A.op).2.2.2.1 = (i : Int)) (h1 : reachG f.gas L (wordI ws (i : Int)) (wordI ws ((i : Int) + 1)) = none) : beginG f L A ws = none := by
  unfold beginG
  dsimp only
  rw [hi, h1]
theorem beginG_no2 (hi : (shq A.op).2.2.2.1 = (i : Int)) (hj : (shq A.op).2.2.2.2.1 = (j : Int)) (h1 : reachG f.gas L (wordI ws (i : Int)) (wordI ws ((i : Int) + 1)) = some (g1, L1)) (h2 : reachG g1 L1 (wordI ws (j : Int)) (wordI ws ((j : Int) + 1)) = none) : beginG f L A ws = none := by
  unfold beginG
  dsimp only
  rw [hi, h1]
  dsimp only
  rw [hj, h2]
theorem beginG_no3 (hi : (shq A.op).2.2.2.1 = (i : Int)) (hj : (shq A.op).2.2.2.2.1 = (j : Int)) (h1 : reachG f.gas L (wordI ws (i : Int)) (wordI ws ((i : Int) + 1)) = some (g1, L1)) (h2 : reachG g1 L1 (wordI ws (j : Int)) (wordI ws ((j : Int) + 1)) = some (g2, L2)) (h3 : g2 < callV A.cold (whoC f A.op ws).mv A.new) : beginG f L A ws = none := by
  unfold beginG
  dsimp only
  rw [hi, h1]
  dsimp only
  rw [hj, h2]
  dsimp only
  rw [if_neg (by omega)]
theorem beginG_some (hi : (shq A.op).2.2.2.1 = (i : Int)) (hj : (shq A.op).2.2.2.2.1 = (j : Int)) (h1 : reachG f.gas L (wordI ws (i : Int)) (wordI ws ((i : Int) + 1)) = some (g1, L1)) (h2 : reachG g1 L1 (wordI ws (j : Int)) (wordI ws ((j : Int) + 1)) = some (g2, L2)) (h3 : callV A.cold (whoC f A.op ws).mv A.new ≤ g2) :
    beginG f L A ws = some (g2 - callV A.cold (whoC f A.op ws).mv A.new - lentG g2 (callV A.cold (whoC f A.op ws).mv A.new) (ws.getD 0 0), L2, (L1.ms.drop (wordI ws (i : Int))).take (wordI ws ((i : Int) + 1)),
      { whoC f A.op ws with pl := if wordI ws ((j : Int) + 1) = 0 then 0 else wordI ws (j : Int), n := wordI ws ((j : Int) + 1), gas := lentG g2 (callV A.cold (whoC f A.op ws).mv A.new) (ws.getD 0 0) + (if (whoC f A.op ws).mv then 230 else 0) }) := by
  unfold beginG
  dsimp only
  rw [hi, h1]
  dsimp only
  rw [hj, h2]
  dsimp only
  rw [if_pos h3]
end bl
theorem shq_ij {op n : Nat} (hne : op ≠ 245) (h1 : (shq op).2.2.2.2.2 = true) (h2 : (n : Int) = (shq op).1) : n ≤ 7 ∧ 0 < n ∧ ∃ i j : Nat, (shq op).2.2.2.1 = (i : Int) ∧ (shq op).2.2.2.2.1 = (j : Int) ∧ i + 1 < n ∧ j + 1 < n := by
  rcases shq_ok h1 with ⟨_, hs⟩ | ⟨_, hs⟩ | ⟨ho, _⟩
  · rw [hs] at h2 ⊢
    dsimp only at h2 ⊢
    exact ⟨by omega, by omega, 3, 5, rfl, rfl, by omega, by omega⟩
  · rw [hs] at h2 ⊢
    dsimp only at h2 ⊢
    exact ⟨by omega, by omega, 2, 4, rfl, rfl, by omega, by omega⟩
  · exact absurd ho hne
theorem cl_cells {c : ClV} (h1 : ∃ p n q, c.inp = .slice p n q) (h2 : ∃ p n q, c.code = .slice p n q) : (cla c).toList.all Value.oneCell' = true := by
  obtain ⟨_, _, _, h1⟩ := h1
  obtain ⟨_, _, _, h2⟩ := h2
  simp only [cla, clc, wc, List.cons_append, List.nil_append, List.all_cons, List.all_nil, h1, h2]; rfl
theorem cl_wrW {P : Program} {T E : TypeId} {c : ClV} {z : Value} {cs : Array Value} [InfoI P T 15 z] (h : cs.size = 15) (h1 : (cla c).toList.all Value.oneCell' = true) : Wr P T (.cells cs E (0, 0)) 0 (clv c) (.cells (cla c) E (0, 0)) := Wr.whole h rfl h1
section bk
variable {b : Nat} {f : FrV} {L : FrL} {A : AkV} {c : ClV} {a1 n1 a2 n2 : Nat} {rest fs' : Fs}
theorem BReachesK.plain : (BReachesK b f L A c a1 n1 a2 n2 rest).plain := fun fs h => by
  unfold BReachesK at h
  split at h
  · cases h.1
  · split at h
    · cases h.1
    · obtain ⟨_, _, _, _, _, _, _, _, h, _⟩ := h; cases h
theorem BReachesK.ret {v : Value} (h : BReachesK b f L A c a1 n1 a2 n2 rest (.returned v) fs') : ∃ g1 L1 g2 L2, reachG f.gas L a1 n1 = some (g1, L1) ∧ reachG g1 L1 a2 n2 = some (g2, L2) ∧ ∃ cc s m i b5 gs' lv gl, Ending.returned v = .returned (.tuple #[]) ∧ FrO (f.rowsG g2 cc s m i b5) L2 gs' ∧ bM ((L1.ms.drop a1).take n1) lv gl ∧ fs' = (b, bgO (f.rowsG g2 cc s m i b5) A { c with inp := lv, pl := if n2 = 0 then 0 else a2, n := n2 }) :: (gs' ++ (gl ++ rest)) := by
  unfold BReachesK at h
  split at h
  · cases h.1
  · rename_i h1
    split at h
    · cases h.1
    · rename_i h2
      exact ⟨_, _, _, _, h1, h2, h⟩
theorem BReachesK.pan {ch : List PanicEntry} (h : BReachesK b f L A c a1 n1 a2 n2 rest (.panicked ch) fs') : (reachG f.gas L a1 n1 = none ∨ ∃ g1 L1, reachG f.gas L a1 n1 = some (g1, L1) ∧ reachG g1 L1 a2 n2 = none) ∧ Ending.panicked ch = .panicked offC ∧ fs' = rest := by
  unfold BReachesK at h
  split at h
  · rename_i h1
    exact ⟨.inl h1, h⟩
  · rename_i h1
    split at h
    · rename_i h2
      exact ⟨.inr ⟨_, _, h1, h2⟩, h⟩
    · obtain ⟨_, _, _, _, _, _, _, _, h, _⟩ := h; cases h
end bk
theorem whoC_code (f : FrV) (op : Nat) (ws : List Nat) : ∃ p n q, (whoC f op ws).code = .slice p n q := by
  unfold whoC
  split <;> exact ⟨_, _, _, rfl⟩
theorem BeginC_calls (f : FrV) (L : FrL) (A : AkV) (ws : List Nat) (hM : ∀ x ∈ ws, x < M256) (hd : ∃ p n c, A.dt = .slice p n c) (hask : askB A.kind A.op ws.length = true) (hne : A.op ≠ 245) (hF : okF f L) (w : World) (hf : FrRows w f L) (hv : RowAt w 4 A.ws ws.length (wcs ws)) :
    Calls Tryz.prog 26 #[frv f, .agg (aska A.kind A.op A.ws A.dt), .agg #[.bool A.cold, .bool A.vl, .bool A.new]] w (RetG w [] (BegR f (beginG f L A ws))) := by
  have hst0 : St w [] [] w := ⟨Bel.refl _ _ _, (fun p h => by cases h), .nil⟩
  have hv0 := hv
  have hq0 := hask
  unfold askB at hq0
  rw [Bool.and_eq_true, Bool.and_eq_true, decide_eq_true_eq, decide_eq_true_eq] at hq0
  obtain ⟨hq1, hq2, hq3⟩ := hq0
  obtain ⟨kind, op, aws, dt, cold, vl, new⟩ := A
  obtain ⟨q, d, e, hd⟩ := hd
  dsimp only at hd hask hne hq1 hq2 hq3 hv ⊢
  subst hd
  obtain ⟨p, c, rfl, _, _⟩ := id hv.form
  have hzs := zero_sl
  have hsl := hf.sl
  have hSh : ∀ w, Calls Tryz.prog 53 #[.agg (aska kind op (.slice p ws.length c) (.slice q d e))] w (Ret w (.tuple #[.agg (shc op).toArray, .bool true])) := fun w => by
    have h := shapeOf_calls kind op ws.length c p q d e w
    rwa [hask] at h
  have hFc : ∀ w' {fs : Fs}, St w [] fs w' → Calls Tryz.prog 31 #[frv f] w' (Ret w' (.int .i64 0)) := fun w' fs hst => by have h := fCheck_calls f L w' (hf.st hst); rwa [if_pos hF] at h
  refine calls_inlineD (w0 := w) (S := []) (args := [_, _, _]) (R := RetG w [] (BegR f (beginG f L ⟨kind, op, .slice p ws.length c, .slice q d e, cold, vl, new⟩ ws))) Tryz.func26 rfl Tryz.ntmps26 rfl ?_ hst0
  (refine sRz ?_; apply LW.boxA; rfl; rfl; intro _; apply LW.boxA; rfl; rfl; intro _; apply LW.boxA; rfl; rfl; intro _; apply LW.allocA; rfl; intro _; apply LW.allocA; rfl; intro _; refine vAz ?_; refine nSz ?_; refine ldz rfl (.tail (.tail (.tail .head))) ask_rdW ?_; apply LW.callE; rfl; rfl; infer_instance; exact .cons rfl .nil; intro w _; exact hSh w; refine vMz ?_; refine vEz ?_; refine vEz ?_; apply LW.allocA; rfl; intro _; refine LW.store rfl rfl .head (.whole rfl rfl rfl) ?_; refine vAz ?_; refine nNz ?_; refine CW.seq ?_; refine sRz ?_; refine vMz ?_; refine lvz (.notT rfl (by with_reducible rfl)) ?_; refine vMz ?_; refine gTz ?_; refine ldz rfl (.tail (.tail (.tail (.tail (.tail .head))))) fr_rdW ?_; refine gTz ?_; apply LW.callE; rfl; rfl; infer_instance; exact .cons rfl .nil; intro w _; exact hFc w (by assumption); refine gTz ?_; refine lvz (.neF rfl rfl (by omega)) ?_; refine pFz ?_; refine nNz ?_; refine cFz ?_; refine CW.skip ?_; refine thenN ?_; refine sRz ?_; refine ldz rfl (.tail (.tail (.tail (.tail (.tail .head))))) fr_rdW ?_; refine ldz rfl .head sh_rdW ?_; refine ldz rfl (.tail (.tail (.tail (.tail .head)))) ask_rdW ?_; refine ldz rfl (.tail (.tail (.tail .head))) (Rd.whole rfl) ?_; apply LW.v0; rfl; rfl; apply ValP.buildT; infer_instance; infer_instance; apply PartsOk.cons; rfl; apply PartsOk.cons; rfl; apply PartsOk.cons; rfl; apply PartsOk.cons; rfl; exact PartsOk.nil; rfl; simp only [fillP, wrCells, fra, frc, bga, bgl, shc, aska, wc, zeroC, clc, Value.cells, List.getElem?_cons_zero, List.getElem?_cons_succ, List.toList_toArray, List.setIfInBounds_toArray, List.set_cons_succ, List.set_cons_zero, List.cons_append, List.nil_append, Nat.reduceAdd, Nat.zero_add]; rfl; apply LW.boxA; rfl; rfl; intro _; refine vAz ?_; refine nSz ?_)
  rename_i b3 b4 b5 b6 b7 b9 bB
  refine LW.subP (fs' := (bB, bgO f ⟨kind, op, .slice p ws.length c, .slice q d e, cold, vl, new⟩ zeroC) :: (b6, .cells (fra zeroF) 31 (0, 0)) :: (b7, .cells (cla zeroC) 33 (0, 0)) :: (b4, .cells (aska kind op (.slice p ws.length c) (.slice q d e)) 61 (0, 0)) :: []) ?_ ?_
  · exact subp_ix [[_], [_], [_], [_], [_], [_], [_]] (xs := [0, 3, 2, 5]) (ys := [0, 1, 2, 3, 4, 5, 6]) [] rfl
  apply LW.defer
  rfl
  rfl
  (apply LW.nil; refine thenM ?_; refine sRz ?_; refine vMz ?_; apply LW.v0; rfl; rfl; apply ValP.makeFunc; exact .cons rfl .nil; exact ArgsOk.nil; refine vAz ?_; refine nNz ?_; refine CW.seq ?_; refine sRz ?_; refine vFz ?_; refine ldz rfl (.tail (.tail (.tail .head))) ask_rd1 ?_; refine lvz (.eqF rfl rfl (by omega)) ?_; refine nNz ?_; refine cFz ?_; refine CW.skip ?_; refine thenN ?_; refine CW.seq ?_; refine sRz ?_; refine vMz ?_; apply LW.v0; rfl; rfl; apply ValP.makeFunc; exact .cons rfl .nil; exact ArgsOk.nil; refine vMz ?_; apply LW.v0; rfl; rfl; apply ValP.makeFunc; exact .cons rfl .nil; exact ArgsOk.nil; refine vMz ?_; apply LW.v0; rfl; rfl; apply ValP.buildA; apply PartsOk.cons; rfl; apply PartsOk.cons; rfl; apply PartsOk.cons; rfl; exact PartsOk.nil; rfl; simp only [fillC, wc, wrCells, Value.cells, List.toList_toArray, List.setIfInBounds_toArray, List.set_cons_succ, List.set_cons_zero, Nat.reduceAdd, Nat.reduceMul, Nat.zero_add, Nat.mul_one]; rfl; refine vMz ?_; refine nNz ?_; refine CW.block ?_)
  obtain ⟨hw7, hw0, i, j, hqi, hqj, hi, hj⟩ := shq_ij hne hq1 hq3
  apply CW.rounds 4
  apply RW.step
  (refine sRz ?_; refine lvz (.lssT rfl rfl (by omega)) ?_; refine nNz ?_; refine CW.seq ?_; refine cTz ?_; refine CW.skip ?_; refine thenN ?_; refine CW.seq ?_; refine CW.block ?_; refine sRz ?_; refine lvz (.indexAL rfl rfl rfl rfl rfl) ?_; refine vAz ?_; refine nNz ?_; refine CW.region ?_; refine vMz ?_)
  refine LW.callP (K := fun x fs' => x = .returned (.tuple #[]) ∧ fs' = (bB, bgO f ⟨kind, op, .slice p ws.length c, .slice q d e, cold, vl, new⟩ (whoC f op ws)) :: ((b6, .cells (fra zeroF) 31 (0, 0)) :: (b7, .cells (cla zeroC) 33 (0, 0)) :: (b4, .cells (aska kind op (.slice p ws.length c) (.slice q d e)) 61 (0, 0)) :: [])) rfl rfl inferInstance (by (exact ArgsOk.nil)) rfl (fun fs h => by cases h.1) (fun w' hst => who_calls w bB f ⟨kind, op, .slice p ws.length c, .slice q d e, cold, vl, new⟩ ws hM hq3.symm hq1 _ w' hv hst) ?_ ?_
  · rintro v fs' ⟨h, rfl⟩
    cases h
    (apply LW.nil; refine blkN ?_; refine thenN ?_; refine CW.region ?_; refine lvz (.addI rfl rfl (by omega) (by omega)) ?_; refine vMz ?_; apply LW.nil; refine thenL ?_)
    apply RW.step
    (refine sRz ?_; refine lvz (.lssT rfl rfl (by omega)) ?_; refine nNz ?_; refine CW.seq ?_; refine cTz ?_; refine CW.skip ?_; refine thenN ?_; refine CW.seq ?_; refine CW.block ?_; refine sRz ?_; refine lvz (.indexAL rfl rfl rfl rfl rfl) ?_; refine vAz ?_; refine nNz ?_; refine CW.region ?_; refine vMz ?_)
    refine LW.callP (K := BReachesK bB f L ⟨kind, op, .slice p ws.length c, .slice q d e, cold, vl, new⟩ (whoC f op ws) (wordI ws (i : Int)) (wordI ws ((i : Int) + 1)) (wordI ws (j : Int)) (wordI ws ((j : Int) + 1)) ((b6, .cells (fra zeroF) 31 (0, 0)) :: (b7, .cells (cla zeroC) 33 (0, 0)) :: (b4, .cells (aska kind op (.slice p ws.length c) (.slice q d e)) 61 (0, 0)) :: [])) rfl rfl inferInstance (by (exact ArgsOk.nil)) rfl BReachesK.plain (fun w' hst => breaches_calls w bB f L ⟨kind, op, .slice p ws.length c, .slice q d e, cold, vl, new⟩ _ ws hM i j hqi hqj hi hj (by omega) hF [] _ (.inl ⟨rfl, hf⟩) w' hv hst) ?_ ?_
    · intro v fs' hK
      obtain ⟨g1, L1, g2, L2, hR1, hR2, cc, s1, m1, i1, x1, gs1, lv, gl, h1, hfr, hlv, rfl⟩ := hK.ret
      cases h1
      have hF1 := okF_reach (c := cc) (s := s1) (m := m1) (i := i1) (b := x1) (okF_reach (c := cc) (s := s1) (m := m1) (i := i1) (b := x1) hF hR1) hR2
      (apply LW.nil; refine blkN ?_; refine thenN ?_; refine CW.region ?_; refine lvz (.addI rfl rfl (by omega) (by omega)) ?_; refine vMz ?_; apply LW.nil; refine thenL ?_)
      apply RW.step
      (refine sRz ?_; refine lvz (.lssT rfl rfl (by omega)) ?_; refine nNz ?_; refine CW.seq ?_; refine cTz ?_; refine CW.skip ?_; refine thenN ?_; refine CW.seq ?_; refine CW.block ?_; refine sRz ?_; refine lvz (.indexAL rfl rfl rfl rfl rfl) ?_; refine vAz ?_; refine nNz ?_; refine CW.region ?_; refine vMz ?_)
      refine LW.callP (K := BCallsK bB (f.rowsG g2 cc s1 m1 i1 x1) ⟨kind, op, .slice p ws.length c, .slice q d e, cold, vl, new⟩ { whoC f op ws with inp := lv, pl := if wordI ws ((j : Int) + 1) = 0 then 0 else wordI ws (j : Int), n := wordI ws ((j : Int) + 1) } (ws.getD 0 0) (gs1 ++ (gl ++ ((b6, .cells (fra zeroF) 31 (0, 0)) :: (b7, .cells (cla zeroC) 33 (0, 0)) :: (b4, .cells (aska kind op (.slice p ws.length c) (.slice q d e)) 61 (0, 0)) :: [])))) rfl rfl inferInstance (by (exact ArgsOk.nil)) rfl (fun fs h => by rcases h with ⟨_, h, _⟩ | ⟨_, h, _⟩ <;> cases h) (fun w' hst => bcalls_calls w bB (f.rowsG g2 cc s1 m1 i1 x1) ⟨kind, op, .slice p ws.length c, .slice q d e, cold, vl, new⟩ _ ws hM hw0 (by omega) hF1.1.2.2 _ w' hv hst) ?_ ?_
      · rintro v fs' (⟨_, h, _⟩ | ⟨hk, h, rfl⟩)
        · cases h
        · cases h
          have hBeg := beginG_some (f := f) (L := L) (A := ⟨kind, op, .slice p ws.length c, .slice q d e, cold, vl, new⟩) (ws := ws) hqi hqj hR1 hR2 hk
          rw [hBeg]
          (apply LW.nil; refine blkN ?_; refine thenN ?_; refine CW.region ?_; refine lvz (.addI rfl rfl (by omega) (by omega)) ?_; refine vMz ?_; apply LW.nil; refine thenL ?_)
          apply RW.step
          (refine sRz ?_; refine lvz (.lssF rfl rfl (by omega)) ?_; refine nNz ?_; refine CW.seq ?_; refine cFz ?_; refine CW.exit ?_; refine thenE ?_; refine thenE ?_; refine blkE rfl ?_; refine thenN ?_; refine CW.seq ?_)
          have hfr3 : FrO ((f.rowsG g2 cc s1 m1 i1 x1).setGas (g2 - callV cold (whoC f op ws).mv new - lentG g2 (callV cold (whoC f op ws).mv new) (ws.getD 0 0))) L2 gs1 := hfr
          have hfa : FrA w ((f.rowsG g2 cc s1 m1 i1 x1).setGas (g2 - callV cold (whoC f op ws).mv new - lentG g2 (callV cold (whoC f op ws).mv new) (ws.getD 0 0))) L2 gs1 := .inr hfr3
          obtain ⟨us, hbl, hin, hrows⟩ := hfa.lie
          have hlv' := hlv
          unfold bM at hlv'
          obtain ⟨q4, k4, rfl⟩ := hlv'.form
          apply CW.pre
          (refine AnyW.anyM [(4, CopyR ((f.rowsG g2 cc s1 m1 i1 x1).setGas (g2 - callV cold (whoC f op ws).mv new - lentG g2 (callV cold (whoC f op ws).mv new) (ws.getD 0 0))) L2)] 10 mixed (by decide +kernel) ?_)
          ((try simp only [tsOf_cons, tsOf_nil, tsOf_app]); refine dvz (.move rfl) ?_; refine dvz (.nilCheck rfl) ?_; refine dvz (.fieldAddr rfl rfl) ?_; apply DW.loadO; rfl; rfl; rfl; exact WantT.none; rfl; apply TRead.head; exact ancB_nil; exact bg_rdF)
          refine DW.manyA us rfl rfl rfl (by (exact WantT.none)) rfl inferInstance (by (exact .cons rfl .nil)) (by rw [List.flatMap_cons]; exact (List.append_nil _).trans hbl) (fun p hp => ?_) (fun w' hb hu => callCopied_calls _ L2 hF1.short w' (hrows w' hb hu)) ?_
          · rcases hin p hp with h | h
            · exact .inl ⟨[], [], by simp [tsOf, h], anc_nil⟩
            · exact .inr ⟨h, by simp⟩
          rintro vT gT ⟨c4, s4, m4, i4, x4, rfl, hfr4⟩
          have hsl4 := hfr4.sl
          have hcl4 := cl_cells (c := { whoC f op ws with pl := if wordI ws ((j : Int) + 1) = 0 then 0 else wordI ws (j : Int), n := wordI ws ((j : Int) + 1), gas := lentG g2 (callV cold (whoC f op ws).mv new) (ws.getD 0 0) + (if (whoC f op ws).mv then 230 else 0), inp := .slice q4 (List.take (wordI ws ((i : Int) + 1)) (List.drop (wordI ws (i : Int)) L1.ms)).length k4 }) ⟨_, _, _, rfl⟩ (whoC_code f op ws)
          simp only [markAll_app, markAll_cons, markAll_tsOf, markAll_nil]
          ((try simp only [tsOf_cons, tsOf_nil, tsOf_app]); refine dvz (.move rfl) ?_; refine dvz (.nilCheck rfl) ?_; refine dvz (.fieldAddr rfl rfl) ?_; apply DW.loadO; rfl; rfl; rfl; exact WantT.none; rfl; apply TRead.app; apply TRead.head; exact ancB_nil; exact bg_rdC; apply DW.store; rfl; rfl; exact WantT.none; rfl; rfl; apply TSet.app; apply TSet.tail; apply TSet.app; apply TSet.app; apply TSet.head; exact ancB_nil; kernel_rfl; apply fr_wrW; rfl; assumption; apply DW.nil; simp only [fsOf_cons, fsOf_nil, fsOf_app, fsOf_tsOf, fsOf_new, fsOf_tag])
          try simp only [fsOf_mark, fsOf_cons, fsOf_nil, fsOf_app, fsOf_tsOf, fsOf_new, fsOf_tag, List.append_eq, List.nil_append]
          (apply LW.store; rfl; rfl; apply SetAt.app; apply SetAt.tail; apply SetAt.app; apply SetAt.app; apply SetAt.tail; apply SetAt.head; apply cl_wrW; rfl; exact hcl4; refine vAz ?_; refine nNz ?_; refine CW.ret ?_)
          refine outDI (.inl rfl) rfl fun a w2 s2 => ?_
          refine leaves_clo (K := fun e fs' => e = .returned (.tuple #[]) ∧ ∃ b1, fs' = b1 :: _) inferInstance (fun h => by cases h) (begin1_idle w [] _ w2 s2.st) (fun fs h => by cases h.1) ?_ ?_
          · rintro v fs' w' ⟨_, b1, rfl⟩ hst
            refine leaves_end (vs := [frv (f.rowsG (g2 - callV cold (whoC f op ws).mv new - lentG g2 (callV cold (whoC f op ws).mv new) (ws.getD 0 0)) c4 s4 m4 i4 x4), clv { whoC f op ws with pl := if wordI ws ((j : Int) + 1) = 0 then 0 else wordI ws (j : Int), n := wordI ws ((j : Int) + 1), gas := lentG g2 (callV cold (whoC f op ws).mv new) (ws.getD 0 0) + (if (whoC f op ws).mv then 230 else 0), inp := .slice q4 (List.take (wordI ws ((i : Int) + 1)) (List.drop (wordI ws (i : Int)) L1.ms)).length k4 }, .bool true]) (w := w') rfl s2.env hst ?_ rfl ?_
            · (apply ResL.cons; apply Res.cell; rfl; apply Known.at; apply FsAt.tail; apply FsAt.app; apply FsAt.tail; apply FsAt.app; apply FsAt.app; apply FsAt.head; exact fr_rdW; apply ResL.cons; apply Res.cell; rfl; apply Known.at; apply FsAt.tail; apply FsAt.app; apply FsAt.tail; apply FsAt.app; apply FsAt.app; apply FsAt.tail; apply FsAt.head; exact cl_rdW; apply ResL.cons; exact Res.tmp rfl; exact ResL.nil)
            · have h9 := st_sub (gs := gT ++ gl) hst (.cons _ (.append_left (.cons _ (List.Sublist.trans (List.sublist_append_left gl _) (List.sublist_append_right gs1 _))) _))
              unfold RetG
              exact ⟨_, gT ++ gl, rfl, ⟨c4, s4, m4, i4, x4, _, gT, gl, rfl, rfl, hfr4, hlv⟩, hst.bel, h9.own, h9.nd⟩
          · rintro ch fs' w' ⟨h, _⟩
            cases h
      · rintro ch fs' (⟨hk, h, rfl⟩ | ⟨_, h, _⟩)
        · cases h
          have hBeg := beginG_no3 (f := f) (L := L) (A := ⟨kind, op, .slice p ws.length c, .slice q d e, cold, vl, new⟩) (ws := ws) hqi hqj hR1 hR2 hk
          rw [hBeg]
          (repeat (first | refine thenP ?_ | refine blkP ?_))
          refine outDP rfl fun a w2 s2 => ?_
          refine leaves_clo (K := fun e fs' => e = .returned (.tuple #[]) ∧ ∃ b1, fs' = b1 :: _) inferInstance (fun h => by cases h) (begin1_off w [] _ w2 s2.st) (fun fs h => by cases h.1) ?_ ?_
          · rintro v fs' w' ⟨_, b1, rfl⟩ hst
            refine leaves_end (vs := [frv zeroF, clv zeroC, .bool false]) (w := w') rfl s2.env hst ?_ rfl ?_
            · (apply ResL.cons; apply Res.cell; rfl; apply Known.at; apply FsAt.tail; apply FsAt.app; apply FsAt.app; apply FsAt.head; exact fr_rdW; apply ResL.cons; apply Res.cell; rfl; apply Known.at; apply FsAt.tail; apply FsAt.app; apply FsAt.app; apply FsAt.tail; apply FsAt.head; exact cl_rdW; apply ResL.cons; exact Res.tmp rfl; exact ResL.nil)
            · unfold RetG; exact ⟨_, [], rfl, ⟨rfl, rfl⟩, hst.bel, (fun p hp => by cases hp), .nil⟩
          · rintro ch fs' w' ⟨h, _⟩
            cases h
        · cases h
    · intro ch fs' hK
      obtain ⟨hno, h1, rfl⟩ := hK.pan
      cases h1
      have hBeg : beginG f L ⟨kind, op, .slice p ws.length c, .slice q d e, cold, vl, new⟩ ws = none := by
        rcases hno with h | ⟨g1, L1, h1, h2⟩
        · exact beginG_no1 hqi h
        · exact beginG_no2 hqi hqj h1 h2
      rw [hBeg]
      (repeat (first | refine thenP ?_ | refine blkP ?_))
      refine outDP rfl fun a w2 s2 => ?_
      refine leaves_clo (K := fun e fs' => e = .returned (.tuple #[]) ∧ ∃ b1, fs' = b1 :: _) inferInstance (fun h => by cases h) (begin1_off w [] _ w2 s2.st) (fun fs h => by cases h.1) ?_ ?_
      · rintro v fs' w' ⟨_, b1, rfl⟩ hst
        refine leaves_end (vs := [frv zeroF, clv zeroC, .bool false]) (w := w') rfl s2.env hst ?_ rfl ?_
        · (apply ResL.cons; apply Res.cell; rfl; apply Known.at; apply FsAt.tail; apply FsAt.head; exact fr_rdW; apply ResL.cons; apply Res.cell; rfl; apply Known.at; apply FsAt.tail; apply FsAt.tail; apply FsAt.head; exact cl_rdW; apply ResL.cons; exact Res.tmp rfl; exact ResL.nil)
        · unfold RetG; exact ⟨_, [], rfl, ⟨rfl, rfl⟩, hst.bel, (fun p hp => by cases hp), .nil⟩
      · rintro ch fs' w' ⟨h, _⟩
        cases h
  · rintro ch fs' ⟨h, _⟩
    cases h
end Go.Proofs.YtpgdnfgjbhdbpaaGreatDoor

/-
  Does the layer of calls do anything?
  Conditions: none.
-/
namespace Go.Proofs.YtpgdnfgjbhdbpaaGreatDoor
open Go Go.RowKit SL
set_option maxRecDepth 8000
set_option maxHeartbeats 4000000
set_option linter.unusedSimpArgs false
set_option linter.unusedVariables false
attribute [local irreducible] SL.CW SL.LW SL.DW Calls SL.Ret SL.RetG SL.beginQ SL.roundQ SL.rangeQ SL.inQ SL.RW SL.AnyW SL.thenQ SL.thenC SL.thenW SL.blkQ SL.finQ SL.ValP SL.NewP SL.SetP SL.CallP SL.Rd SL.Wr SL.Known
attribute [local irreducible] shq
def plF : FrV := ⟨.slice none 0 0, 0, .slice none 0 0, .slice none 0 0, 5000, 20, 0, 0, .slice none 0 0, .slice none 0 0, false⟩
def plW : List Nat := [100, 21, 0, 0, 0, 0, 32]
def PlainK (v : Value) (gs : Fs) : Prop := ∃ b, v = .tuple #[frv plF, .agg (aska 2 241 (.slice (some ⟨b, 0, none⟩) 7 7) (.slice none 0 0))] ∧ gs = [(b, .cells (wcs plW).toArray 29 (0, 0))]
theorem lplain_calls (w : World) : Calls Tryz.prog 37 #[.int .u64 100, .int .u64 0] w (RetG w [] PlainK) := by
  refine enter (args := [_, _]) _ [] [] Tryz.func37 rfl Tryz.ntmps37 rfl (by simp) .nil ?_
  (refine sRz ?_; apply LW.allocA; rfl; intro _; apply LW.allocA; rfl; intro _; refine nSz ?_; apply LW.v0; rfl; rfl; apply ValP.buildT; infer_instance; infer_instance; apply PartsOk.cons; rfl; apply PartsOk.cons; rfl; exact PartsOk.nil; rfl; simp only [fillP, wrCells, fra, frc, wc, Value.cells, List.getElem?_cons_zero, List.getElem?_cons_succ, List.toList_toArray, List.setIfInBounds_toArray, List.set_cons_succ, List.set_cons_zero, List.cons_append, List.nil_append, Nat.reduceAdd, Nat.zero_add]; rfl; refine vMz ?_; refine lvz (.buildW1L rfl (by decide) rfl) ?_; refine lvz (.buildW1L rfl (by decide) rfl) ?_; refine vMz ?_; refine lvz (.buildW1L rfl (by decide) rfl) ?_; apply LW.v0; rfl; rfl; exact ValP.buildW0; apply LW.v0; rfl; rfl; exact ValP.buildW0; apply LW.v0; rfl; rfl; exact ValP.buildW0; refine lvz (.buildW1L rfl (by decide) rfl) ?_)
  refine LW.n0 rfl rfl (NewP.buildSN (vs := [(0, wv 100), (1, wv 21), (2, wv 0), (3, wv 0), (4, wv 0), (5, wv 0), (6, wv 32)]) (c := (wcs plW).toArray) inferInstance inferInstance (by (apply PartsOk.cons; rfl; apply PartsOk.cons; rfl; apply PartsOk.cons; rfl; apply PartsOk.cons; rfl; apply PartsOk.cons; rfl; apply PartsOk.cons; rfl; apply PartsOk.cons; rfl; exact PartsOk.nil)) rfl rfl (by kernel_rfl) (by kernel_rfl)) fun g => ?_
  simp only [Sh.val]
  (apply LW.v0; rfl; rfl; apply ValP.buildT; infer_instance; infer_instance; apply PartsOk.cons; rfl; apply PartsOk.cons; rfl; apply PartsOk.cons; rfl; exact PartsOk.nil; rfl; simp only [fillP, wrCells, fra, frc, wc, Value.cells, List.getElem?_cons_zero, List.getElem?_cons_succ, List.toList_toArray, List.setIfInBounds_toArray, List.set_cons_succ, List.set_cons_zero, List.cons_append, List.nil_append, Nat.reduceAdd, Nat.zero_add]; rfl; refine LW.store rfl rfl (.tail (.tail .head)) (.whole rfl rfl rfl) ?_; refine LW.store rfl rfl (.tail .head) (.whole rfl rfl rfl) ?_; refine nNz ?_; refine CW.ret ?_)
  refine fin (vs := [frv plF, .agg (aska 2 241 (.slice (some ⟨g, 0, none⟩) 7 7) (.slice none 0 0))]) [(g, .cells (wcs plW).toArray 29 (0, 0))] (.inl rfl) rfl rfl (by (apply ResL.cons; apply Res.cell; rfl; apply Known.at; apply FsAt.tail; apply FsAt.tail; apply FsAt.head; exact Rd.whole rfl; apply ResL.cons; apply Res.cell; rfl; apply Known.at; apply FsAt.tail; apply FsAt.head; exact Rd.whole rfl; exact ResL.nil)) ?_ ⟨g, rfl, rfl⟩
  exact List.Sublist.cons_cons _ (List.nil_sublist _)
/-! ### The layer does something -/
def wkL : FrL := ⟨[], [], List.replicate 32 0, [], []⟩
def wkC (lv : Value) : ClV := ⟨241, 21, 21, 20, 0, false, 100, lv, .slice none 0 0, 0, 32, false⟩
def wkE : FrL := ⟨[], [1], 7 :: List.replicate 31 0, [], [7]⟩
theorem wk_begin (v : Value) : beginG plF zeroL ⟨2, 241, v, .slice none 0 0, false, false, false⟩ plW = some (4887, wkL, [], wkC (.slice none 0 0)) := by kernel_rfl
theorem wk_ask : askB 2 241 7 = true := by kernel_rfl
theorem wk_okF : okF plF zeroL := by unfold okF okSc plF zeroL; simp
theorem wk_okC (lv : Value) : okC (wkC lv) ⟨[], []⟩ := by unfold okC wkC; simp
theorem wk_okS (lv : Value) : okS (wkC lv) ⟨[], []⟩ [0] := ⟨wk_okC lv, by unfold wkC; simp, by simp⟩
theorem wk_okE {c s m i b lv : Value} : okE (plF.rowsG 4887 c s m i b) wkL (wkC lv) ⟨[], []⟩ 40 [7] := by
  refine ⟨?_, wk_okC lv, ?_, ?_⟩
  · unfold okF okSc wkL FrV.rowsG plF; simp
  · unfold wkC FrV.rowsG wkL; simp
  · unfold wkL; simp
theorem wk_end (lv : Value) : endL wkL (wkC lv) true [7] = wkE := by
  unfold endL wkE wkL wkC overL laidW
  simp
theorem lwakes_calls (w : World) : Calls Tryz.prog 9 #[] w (Ret w (.bool true)) := by
  refine enter (args := []) _ [] [] Tryz.func9 rfl Tryz.ntmps9 rfl (by simp) .nil ?_
  (refine sRz ?_; refine vAz ?_; refine nSz ?_)
  (apply LW.callR; rfl; rfl; infer_instance; exact .cons rfl (.cons rfl .nil); intro w hs)
  exact lplain_calls w
  rintro v1 gs1 ⟨bp, rfl, rfl⟩
  have hsl0 : FrSl plF := ⟨⟨_, _, _, rfl⟩, ⟨_, _, _, rfl⟩, ⟨_, _, _, rfl⟩, ⟨_, _, _, rfl⟩, ⟨_, _, _, rfl⟩⟩
  (refine vMz ?_; refine vEz ?_; refine vEz ?_; apply LW.allocA; rfl; intro _; apply LW.allocA; rfl; intro _; refine LW.store rfl rfl (.tail .head) (.whole rfl rfl rfl) ?_; refine LW.store rfl rfl .head (.whole rfl rfl rfl) ?_; refine nSz ?_; refine ldz rfl (.tail .head) fr_rdW ?_; refine ldz rfl .head ask_rdW ?_; apply LW.v0; rfl; rfl; apply ValP.buildT; infer_instance; infer_instance; exact PartsOk.nil; rfl; simp only [fillP, wrCells, fra, frc, wc, Value.cells, List.getElem?_cons_zero, List.getElem?_cons_succ, List.toList_toArray, List.setIfInBounds_toArray, List.set_cons_succ, List.set_cons_zero, List.cons_append, List.nil_append, Nat.reduceAdd, Nat.zero_add]; rfl)
  rename_i b1 b2
  (apply LW.callR; rfl; rfl; infer_instance; exact .cons rfl (.cons rfl (.cons rfl .nil)); intro w hs)
  have h := BeginC_calls plF zeroL ⟨2, 241, .slice (some ⟨bp, 0, none⟩) 7 7, .slice none 0 0, false, false, false⟩ plW (by intro x hx; simp [plW] at hx; rcases hx with rfl | rfl | rfl | rfl <;> decide) ⟨_, _, _, rfl⟩ wk_ask (by show (241 : Nat) ≠ 245; decide) wk_okF w ⟨.nil, .nil, .nil, .nil, .nil⟩ (row_cells (hs.own (bp, _) (List.mem_cons_of_mem _ (List.mem_cons_of_mem _ List.mem_cons_self))).2 rfl rfl (by simp [maxLen]))
  rw [wk_begin] at h
  exact h
  rintro v2 gs2 ⟨c1, s1, m1, i1, x1, lv, g1, g2, rfl, rfl, hfr, hlv⟩
  change LW _ _ _ _ ((17, .tuple #[frv ⟨c1, 0, s1, m1, 4887, 20, 0, 0, i1, x1, false⟩, clv (wkC lv), .bool true]) :: _) _
  have hsl1 : FrSl ⟨c1, 0, s1, m1, 4887, 20, 0, 0, i1, x1, false⟩ := hfr.sl
  have hlv' := hlv
  unfold bM at hlv'
  obtain ⟨ql, kl, rfl⟩ := hlv'.form
  have hcl := cl_cells (c := wkC (.slice ql ([] : List UInt8).length kl)) ⟨_, _, _, rfl⟩ ⟨_, _, _, rfl⟩
  (refine vMz ?_; refine vEz ?_; refine vEz ?_; refine vEz ?_; apply LW.allocA; rfl; intro _; apply LW.allocA; rfl; intro _; apply LW.store; rfl; rfl; apply SetAt.tail; apply SetAt.head; apply fr_wrW; rfl; assumption; refine LW.store rfl rfl .head (.whole rfl rfl rfl) ?_; refine vAz ?_; refine nNz ?_; refine CW.seq ?_; refine sRz ?_; refine vMz ?_; refine lvz (.notT rfl (by with_reducible rfl)) ?_; refine vMz ?_; refine gTz ?_; refine vFz ?_; refine gTz ?_; refine ldz rfl (.tail .head) fr_rd4 ?_; refine gTz ?_; refine lvz (.neF rfl rfl (by omega)) ?_; refine pFz ?_; refine vMz ?_; refine gTz ?_; refine vFz ?_; refine gTz ?_; refine ldz rfl .head cl_rd1 ?_; refine gTz ?_; refine lvz (.neF rfl rfl (by omega)) ?_; refine pFz ?_; refine vMz ?_; refine gTz ?_; refine vFz ?_; refine gTz ?_; refine ldz rfl .head cl_rd3 ?_; refine gTz ?_; refine lvz (.neF rfl rfl (by omega)) ?_; refine pFz ?_; refine vMz ?_; refine gTz ?_; refine vFz ?_; refine gTz ?_; refine ldz rfl .head cl_rd9 ?_; refine gTz ?_; refine lvz (.neF rfl rfl (by omega)) ?_; refine pFz ?_; refine vMz ?_; refine gTz ?_; refine vFz ?_; refine gTz ?_; refine ldz rfl .head cl_rd13 ?_; refine gTz ?_; refine lvz (.neF rfl rfl (by omega)) ?_; refine pFz ?_; refine nNz ?_; refine cFz ?_; refine CW.skip ?_; refine thenN ?_; refine sRz ?_; refine ldz rfl .head cl_rdW ?_; apply LW.lay1; rfl; infer_instance; infer_instance; rfl; rfl; rfl; rfl; rfl; rfl; intro _)
  rename_i b3 b4 b50
  (apply LW.callR; rfl; rfl; infer_instance; exact .cons rfl (.cons rfl .nil); intro w hs)
  have hri : RowAt w 1 (.slice ql ([] : List UInt8).length kl) ([] : List UInt8).length (ucs []) := IsRow.us hlv' (fun p hp => (hs.own p (List.mem_cons_of_mem _ (List.mem_cons_of_mem _ (List.mem_cons_of_mem _ (List.mem_append_left _ (List.mem_append_right _ hp)))))).2) (List.Sublist.refl _)
  have h := Start_calls (wkC (.slice ql ([] : List UInt8).length kl)) ⟨[], []⟩ [0] (by simp) (by simp) (by simp) _ w (row_cells (n := 1) (hs.own (b50, _) List.mem_cons_self).2 rfl rfl (by simp [maxLen])) ⟨hri, .nil⟩
  exact h
  rintro v3 gs3 (⟨_, a3, b3', d3, e3, f3, rfl, hfr3⟩ | ⟨hno, _, _⟩)
  · change LW _ _ _ _ ((51, .tuple #[frv ⟨a3, 0, b3', d3, 100, 21, 20, 0, e3, f3, false⟩, .int .i64 0]) :: _) _
    have hsl3 : FrSl ⟨a3, 0, b3', d3, 100, 21, 20, 0, e3, f3, false⟩ := hfr3.sl
    (refine vMz ?_; refine vEz ?_; refine vEz ?_; apply LW.allocA; rfl; intro _; apply LW.store; rfl; rfl; apply SetAt.head; apply fr_wrW; rfl; assumption; refine vAz ?_; refine nSz ?_; refine ldz rfl (.tail (.app (.tail (.tail .head)))) fr_rdW ?_; refine ldz rfl (.tail (.app (.tail .head))) cl_rdW ?_; apply LW.lay1; rfl; infer_instance; infer_instance; rfl; rfl; rfl; rfl; rfl; rfl; intro _; apply LW.v0; rfl; rfl; apply ValP.buildT; infer_instance; infer_instance; apply PartsOk.cons; rfl; apply PartsOk.cons; rfl; apply PartsOk.cons; rfl; exact PartsOk.nil; rfl; simp only [fillP, wrCells, fra, frc, wc, Value.cells, List.getElem?_cons_zero, List.getElem?_cons_succ, List.toList_toArray, List.setIfInBounds_toArray, List.set_cons_succ, List.set_cons_zero, List.cons_append, List.nil_append, Nat.reduceAdd, Nat.zero_add]; rfl)
    rename_i b6 b57
    (apply LW.callR; rfl; rfl; infer_instance; exact .cons rfl (.cons rfl (.cons rfl .nil)); intro w hs)
    have hri : RowAt w 1 (.slice ql ([] : List UInt8).length kl) ([] : List UInt8).length (ucs []) := IsRow.us hlv' (fun p hp => (hs.own p (List.mem_cons_of_mem _ (List.mem_cons_of_mem _ (List.mem_append_right _ (List.mem_cons_of_mem _ (List.mem_cons_of_mem _ (List.mem_cons_of_mem _ (List.mem_append_left _ (List.mem_append_right _ hp))))))))).2) (List.Sublist.refl _)
    have h := callEnd_calls ⟨c1, 0, s1, m1, 4887, 20, 0, 0, i1, x1, false⟩ wkL (wkC (.slice ql ([] : List UInt8).length kl)) ⟨[], []⟩ true 40 [7] (by show (21 : Nat) < 18446744073709551616; decide) (by decide) _ w (hfr.st hs (fun p hp => List.mem_cons_of_mem _ (List.mem_cons_of_mem _ (List.mem_append_right _ (List.mem_cons_of_mem _ (List.mem_cons_of_mem _ (List.mem_cons_of_mem _ (List.mem_append_left _ (List.mem_append_left _ hp))))))))) ⟨hri, .nil⟩ (row_cells (n := 1) (hs.own (b57, _) List.mem_cons_self).2 rfl rfl (by simp [maxLen]))
    exact h
    rintro v4 gs4 (⟨_, a4, s4, m4, i4, x4, rfl, hfr4⟩ | ⟨hno, _, _⟩)
    · rw [wk_end] at hfr4
      change LW _ _ _ _ ((59, .tuple #[frv ⟨a4, 0, s4, m4, 4927, 20, 0, 0, i4, x4, false⟩, .bool true]) :: _) _
      have hsl4 : FrSl ⟨a4, 0, s4, m4, 4927, 20, 0, 0, i4, x4, false⟩ := hfr4.sl
      obtain ⟨h1, h2, h3, h4, h5, hperm, k1, k2, k3, k4, k5⟩ := hfr4
      refine LW.perm (fs' := (h1 ++ (h2 ++ (h3 ++ (h4 ++ h5)))) ++ _) (hperm.append_right _) ?_
      unfold bM at k3
      unfold wM at k2
      obtain ⟨q2, c2, rfl⟩ := k2.form
      obtain ⟨q3, c3, rfl⟩ := k3.form
      obtain ⟨gm, cur, rfl, rfl, hn3, hm3, hsz3, htk3⟩ := k3.pos (by show 0 < wkE.ms.length; unfold wkE; simp)
      have hrd7 : Rd Tryz.prog 5 (.cells cur 5 (0, 0)) (0 + 0 * 1) (.int .u8 7) := Rd.elem1 (l := wkE.ms) (i := 0) (m := wkE.ms.length * 1) (by rw [List.drop_zero]; exact htk3) (ucs_one _) rfl rfl
      have hw1 : wkE.ws.length = 1 := rfl
      have hw2 : wkE.ms.length = 32 := rfl
      simp only [List.append_assoc, List.cons_append, List.nil_append]
      (refine vMz ?_; refine vEz ?_; refine vEz ?_; apply LW.allocA; rfl; intro _; apply LW.store; rfl; rfl; apply SetAt.head; apply fr_wrW; rfl; assumption; refine vAz ?_; refine nSz ?_; refine vMz ?_; refine lvz (.eqT rfl rfl (by omega)) ?_; refine vMz ?_; refine gTz ?_; refine vFz ?_; refine gTz ?_; refine ldz rfl (.tail (.app (.app (.tail (.app (.app (.tail .head))))))) fr_rd5 ?_; refine gTz ?_; refine lvz (.eqT rfl rfl (by omega)) ?_; refine pTz ?_; refine vMz ?_; refine gTz ?_; refine vMz ?_; refine pTz ?_; refine vMz ?_; refine gTz ?_; refine vFz ?_; refine gTz ?_; refine ldz rfl .head fr_rd4 ?_; refine gTz ?_; refine lvz (.eqT rfl rfl (by omega)) ?_; refine pTz ?_; refine vMz ?_; refine gTz ?_; refine vFz ?_; refine gTz ?_; refine vFz ?_; refine gTz ?_; refine ldz rfl .head fr_rd2s ?_; refine gTz ?_; refine lvz (.lenR rfl inferInstance rfl) ?_; refine gTz ?_; refine lvz (.eqT rfl rfl (by omega)) ?_; refine pTz ?_; refine vMz ?_; refine gTz ?_; refine vFz ?_; refine gTz ?_; refine vFz ?_; refine gTz ?_; refine ldz rfl .head fr_rd3 ?_; refine gTz ?_; refine lvz (.indexAddrSL rfl rfl (by decide) (by omega)) ?_; refine gTz ?_; refine ldz rfl (.tail (.app (.app .head))) (by assumption) ?_; refine gTz ?_; refine lvz (.eqT rfl rfl (by omega)) ?_; refine pTz ?_; refine vAz ?_; refine nNz ?_; refine CW.ret ?_)
      (apply finR; exact .inl rfl; rfl; rfl; rfl; apply ResL.cons; exact Res.tmp rfl; exact ResL.nil)
      rfl
    · exact absurd wk_okE hno
  · exact absurd (wk_okS _) hno
end Go.Proofs.YtpgdnfgjbhdbpaaGreatDoor

/-
  Calls and frames that can be gone through, in memory of their own.
  Conditions: none.
-/
namespace Go.Proofs.YtpgdnfgjbhdbpaaGreatDoor
open Go Go.RowKit SL
set_option maxRecDepth 8000
set_option maxHeartbeats 4000000
set_option linter.unusedSimpArgs false
set_option linter.unusedVariables false
attribute [local irreducible] SL.CW SL.LW SL.DW Calls SL.Ret SL.RetG SL.beginQ SL.roundQ SL.rangeQ SL.inQ SL.RW SL.AnyW SL.thenQ SL.thenC SL.thenW SL.blkQ SL.finQ SL.ValP SL.NewP SL.SetP SL.CallP SL.Rd SL.Wr SL.Known
theorem row_few {w : World} {l : List UInt8} {n k c : Nat} {p : Option Addr} (h : RowAt w 1 (.slice p l.length c) l.length (ucs l)) (hn : n = min l.length k) : RowAt w 1 (.slice p n c) (l.take k).length (ucs (l.take k)) := by
  have h1 := h.take (k := n) (by omega)
  rw [ucs_take] at h1
  have h2 : l.take n = l.take k := by rw [hn, Nat.min_comm, ← List.take_take, List.take_length]
  have h3 : (l.take k).length = n := by rw [List.length_take]; omega
  rw [h2] at h1
  rw [h3]
  exact h1
theorem row_fewW {w : World} {l : List Nat} {n k c : Nat} {p : Option Addr} (h : RowAt w 4 (.slice p l.length c) l.length (wcs l)) (hn : n = min l.length k) : RowAt w 4 (.slice p n c) (l.take k).length (wcs (l.take k)) := by
  have h1 := h.take (k := n) (by omega)
  rw [wcs_take] at h1
  have h2 : l.take n = l.take k := by rw [hn, Nat.min_comm, ← List.take_take, List.take_length]
  have h3 : (l.take k).length = n := by rw [List.length_take]; omega
  rw [h2] at h1
  rw [h3]
  exact h1
section wr
variable {P : Program} {T E : TypeId} {op dst self frm val gas pl n q k : Nat} {inp code z : Value} {mv stat : Bool} {p : Option Addr}
end wr
/-- A call whose rows are of its own. -/
def ClO (c : ClV) (L : ClL) (gs : Fs) : Prop := ∃ g1 g2, gs = g2 ++ g1 ∧ bM L.il c.inp g1 ∧ bM L.cl c.code g2
def fewC (L : ClL) : ClL := ⟨L.il.take 1100, L.cl.take 300⟩
def CalledR (c : ClV) (L : ClL) (v : Value) (gs : Fs) : Prop := ∃ i k, v = clv { c with inp := i, code := k } ∧ ClO { c with inp := i, code := k } (fewC L) gs
end Go.Proofs.YtpgdnfgjbhdbpaaGreatDoor

/-
  What is written over.
  Conditions: none.
-/
namespace Go.Proofs.YtpgdnfgjbhdbpaaGreatDoor
open Go Go.RowKit SL
set_option maxRecDepth 8000
set_option maxHeartbeats 4000000
set_option linter.unusedSimpArgs false
set_option linter.unusedVariables false
attribute [local irreducible] SL.CW SL.LW SL.DW Calls SL.Ret SL.RetG SL.beginQ SL.roundQ SL.rangeQ SL.inQ SL.RW SL.AnyW SL.thenQ SL.thenC SL.thenW SL.blkQ SL.finQ SL.ValP SL.NewP SL.SetP SL.CallP SL.Rd SL.Wr SL.Known
attribute [local irreducible] SL.inP
end Go.Proofs.YtpgdnfgjbhdbpaaGreatDoor

/-
  Frames that can be gone through, in memory of their own.
  Conditions: none.
-/
namespace Go.Proofs.YtpgdnfgjbhdbpaaGreatDoor
open Go Go.RowKit SL
set_option maxRecDepth 8000
set_option maxHeartbeats 4000000
set_option linter.unusedSimpArgs false
set_option linter.unusedVariables false
attribute [local irreducible] SL.CW SL.LW SL.DW Calls SL.Ret SL.RetG SL.beginQ SL.roundQ SL.rangeQ SL.inQ SL.RW SL.AnyW SL.thenQ SL.thenC SL.thenW SL.blkQ SL.finQ SL.ValP SL.NewP SL.SetP SL.CallP SL.Rd SL.Wr SL.Known
def fewF (L : FrL) : FrL := ⟨L.cl.take 300, L.ws.take 70, L.ms.take 1100, L.il.take 1100, L.bl.take 1100⟩
def FairR (f : FrV) (L : FrL) (v : Value) (gs : Fs) : Prop := ∃ c s m i b, v = frv (f.rows c s m i b) ∧ FrO (f.rows c s m i b) (fewF L) gs
theorem fair_calls (f : FrV) (L : FrL) (w : World) (h : FrRows w f L) : Calls Tryz.prog 10 #[frv f] w (RetG w [] (FairR f L)) := by
  obtain ⟨code, pc, stk, mem, gas, self, frm, val, inp, back, stat⟩ := f
  obtain ⟨h0, h2, h3, h11, h12⟩ := h
  dsimp only at h0 h2 h3 h11 h12
  obtain ⟨p0, c0, rfl, hle0, hm0⟩ := id h0.form
  obtain ⟨p2, c2, rfl, hle2, hm2⟩ := id h2.form
  obtain ⟨p3, c3, rfl, hle3, hm3⟩ := id h3.form
  obtain ⟨p11, c11, rfl, hle11, hm11⟩ := id h11.form
  obtain ⟨p12, c12, rfl, hle12, hm12⟩ := id h12.form
  simp only [maxLen] at hm0 hm2 hm3 hm11 hm12
  have hf0 := row_few h0 (k := 300) rfl
  have hf2 := row_fewW h2 (k := 70) rfl
  have hf3 := row_few h3 (k := 1100) rfl
  have hf11 := row_few h11 (k := 1100) rfl
  have hf12 := row_few h12 (k := 1100) rfl
  have hl0 : (L.cl.take 300).length ≤ 100000 := by rw [List.length_take]; omega
  have hl2 : (L.ws.take 70).length ≤ 100000 := by rw [List.length_take]; omega
  have hl3 : (L.ms.take 1100).length ≤ 100000 := by rw [List.length_take]; omega
  have hl11 : (L.il.take 1100).length ≤ 100000 := by rw [List.length_take]; omega
  have hl12 : (L.bl.take 1100).length ≤ 100000 := by rw [List.length_take]; omega
  refine enter (args := [_]) _ [] [] Tryz.func10 rfl Tryz.ntmps10 rfl (by simp) .nil ?_
  (refine sRz ?_; apply LW.boxA; rfl; rfl; intro _; apply LW.allocA; rfl; intro _; refine nNz ?_; refine CW.seq ?_)
  apply CW.pre
  (refine AnyW.anyM [(7, bM (L.cl.take 300)), (15, bM (L.il.take 1100)), (23, bM (L.bl.take 1100))] 25 mixed (by decide +kernel) ?_)
  ((try simp only [tsOf_cons, tsOf_nil, tsOf_app]); refine dvz (.fieldAddr rfl rfl) ?_; apply DW.loadO; rfl; rfl; rfl; exact WantT.none; rfl; apply TRead.tail; apply TRead.head; exact ancB_nil; exact fr_rd0; refine dvz (.fieldAddr rfl rfl) ?_; apply DW.loadO; rfl; rfl; rfl; exact WantT.none; rfl; apply TRead.tail; apply TRead.head; exact ancB_nil; exact fr_rd0; refine dvz (.lenR rfl inferInstance rfl) ?_; refine dvz (.minZL rfl rfl (by decide)) ?_; refine dvz (.cutTo inferInstance inferInstance rfl rfl (by omega)) ?_)
  (apply DW.manyV; rfl; rfl; rfl; exact WantT.none; rfl; infer_instance; exact .cons rfl .nil; apply RdV.ext; assumption; rfl; exact RdV.nil; intro w _ _)
  exact SK.Clone_calls _ _ w (hf0.bel (by assumption)) hl0
  intro v1 g1 h1
  ((try simp only [tsOf_cons, tsOf_nil, tsOf_app]); refine dvz (.fieldAddr rfl rfl) ?_; apply DW.loadO; rfl; rfl; rfl; exact WantT.none; rfl; apply TRead.app; apply TRead.tail; apply TRead.head; exact ancB_nil; exact fr_rd11; refine dvz (.fieldAddr rfl rfl) ?_; apply DW.loadO; rfl; rfl; rfl; exact WantT.none; rfl; apply TRead.app; apply TRead.tail; apply TRead.head; exact ancB_nil; exact fr_rd11; refine dvz (.lenR rfl inferInstance rfl) ?_; refine dvz (.minZL rfl rfl (by decide)) ?_; refine dvz (.cutTo inferInstance inferInstance rfl rfl (by omega)) ?_)
  (apply DW.manyV; rfl; rfl; rfl; exact WantT.none; rfl; infer_instance; exact .cons rfl .nil; apply RdV.ext; assumption; rfl; exact RdV.nil; intro w _ _)
  exact SK.Clone_calls _ _ w (hf11.bel (by assumption)) hl11
  intro v4 g4 h4
  ((try simp only [tsOf_cons, tsOf_nil, tsOf_app]); refine dvz (.fieldAddr rfl rfl) ?_; apply DW.loadO; rfl; rfl; rfl; exact WantT.none; rfl; apply TRead.app; apply TRead.app; apply TRead.tail; apply TRead.head; exact ancB_nil; exact fr_rd12; refine dvz (.fieldAddr rfl rfl) ?_; apply DW.loadO; rfl; rfl; rfl; exact WantT.none; rfl; apply TRead.app; apply TRead.app; apply TRead.tail; apply TRead.head; exact ancB_nil; exact fr_rd12; refine dvz (.lenR rfl inferInstance rfl) ?_; refine dvz (.minZL rfl rfl (by decide)) ?_; refine dvz (.cutTo inferInstance inferInstance rfl rfl (by omega)) ?_)
  (apply DW.manyV; rfl; rfl; rfl; exact WantT.none; rfl; infer_instance; exact .cons rfl .nil; apply RdV.ext; assumption; rfl; exact RdV.nil; intro w _ _)
  exact SK.Clone_calls _ _ w (hf12.bel (by assumption)) hl12
  intro v5 g5 h5
  have h1' := h1
  have h4' := h4
  have h5' := h5
  unfold bM at h1' h4' h5'
  obtain ⟨q1, k1, rfl⟩ := h1'.form
  obtain ⟨q4, k4, rfl⟩ := h4'.form
  obtain ⟨q5, k5, rfl⟩ := h5'.form
  ((try simp only [tsOf_cons, tsOf_nil, tsOf_app]); refine dvz (.fieldAddr rfl rfl) ?_; apply DW.nil; simp only [fsOf_cons, fsOf_nil, fsOf_app, fsOf_tsOf, fsOf_new, fsOf_tag])
  (refine LW.store rfl rfl (.app (.app (.app (.tail .head)))) fr_wr0 ?_; refine vFz ?_; refine LW.store rfl rfl (.app (.app (.app (.tail .head)))) fr_wr11 ?_; refine vFz ?_; refine LW.store rfl rfl (.app (.app (.app (.tail .head)))) fr_wr12 ?_; refine nNz ?_; refine CW.seq ?_)
  apply CW.pre
  (refine AnyW.anyM [(9, wM (L.ws.take 70)), (19, bM (L.ms.take 1100))] 22 mixed (by decide +kernel) ?_)
  ((try simp only [tsOf_cons, tsOf_nil, tsOf_app]); refine dvz (.fieldAddr rfl rfl) ?_; refine dvz (.fieldAddr rfl rfl) ?_; apply DW.loadO; rfl; rfl; rfl; exact WantT.none; rfl; apply TRead.app; apply TRead.app; apply TRead.app; apply TRead.tail; apply TRead.head; exact ancB_nil; exact fr_rd2s; refine dvz (.fieldAddr rfl rfl) ?_; refine dvz (.fieldAddr rfl rfl) ?_; apply DW.loadO; rfl; rfl; rfl; exact WantT.none; rfl; apply TRead.app; apply TRead.app; apply TRead.app; apply TRead.tail; apply TRead.head; exact ancB_nil; exact fr_rd2s; refine dvz (.lenR rfl inferInstance rfl) ?_; refine dvz (.minZL rfl rfl (by decide)) ?_; refine dvz (.cutTo inferInstance inferInstance rfl rfl (by omega)) ?_)
  (apply DW.manyV; rfl; rfl; rfl; exact WantT.none; rfl; infer_instance; exact .cons rfl .nil; apply RdV.ext; assumption; rfl; exact RdV.nil; intro w _ _)
  exact CloneW_calls _ _ w (hf2.bel (by assumption)) hl2
  intro v2 g2 hh2
  ((try simp only [tsOf_cons, tsOf_nil, tsOf_app]); refine dvz (.fieldAddr rfl rfl) ?_; refine dvz (.fieldAddr rfl rfl) ?_; apply DW.loadO; rfl; rfl; rfl; exact WantT.none; rfl; apply TRead.app; apply TRead.app; apply TRead.app; apply TRead.app; apply TRead.tail; apply TRead.head; exact ancB_nil; exact fr_rd3; refine dvz (.fieldAddr rfl rfl) ?_; refine dvz (.fieldAddr rfl rfl) ?_; apply DW.loadO; rfl; rfl; rfl; exact WantT.none; rfl; apply TRead.app; apply TRead.app; apply TRead.app; apply TRead.app; apply TRead.tail; apply TRead.head; exact ancB_nil; exact fr_rd3; refine dvz (.lenR rfl inferInstance rfl) ?_; refine dvz (.minZL rfl rfl (by decide)) ?_; refine dvz (.cutTo inferInstance inferInstance rfl rfl (by omega)) ?_)
  (apply DW.manyV; rfl; rfl; rfl; exact WantT.none; rfl; infer_instance; exact .cons rfl .nil; apply RdV.ext; assumption; rfl; exact RdV.nil; intro w _ _)
  exact SK.Clone_calls _ _ w (hf3.bel (by assumption)) hl3
  intro v3 g3 hh3
  have h2' := hh2
  have h3' := hh3
  unfold wM at h2'
  unfold bM at h3'
  obtain ⟨q2, k2, rfl⟩ := h2'.form
  obtain ⟨q3, k3, rfl⟩ := h3'.form
  ((try simp only [tsOf_cons, tsOf_nil, tsOf_app]); refine dvz (.fieldAddr rfl rfl) ?_; refine dvz (.fieldAddr rfl rfl) ?_; apply DW.nil; simp only [fsOf_cons, fsOf_nil, fsOf_app, fsOf_tsOf, fsOf_new, fsOf_tag])
  have hsl : FrSl ⟨.slice q1 (L.cl.take 300).length k1, pc, .slice q2 (L.ws.take 70).length k2, .slice q3 (L.ms.take 1100).length k3, gas, self, frm, val, .slice q4 (L.il.take 1100).length k4, .slice q5 (L.bl.take 1100).length k5, stat⟩ := ⟨⟨_, _, _, rfl⟩, ⟨_, _, _, rfl⟩, ⟨_, _, _, rfl⟩, ⟨_, _, _, rfl⟩, ⟨_, _, _, rfl⟩⟩
  (refine LW.store rfl rfl (.app (.app (.app (.app (.app (.tail .head)))))) fr_wr2 ?_; refine vFz ?_; refine vFz ?_; refine LW.store rfl rfl (.app (.app (.app (.app (.app (.tail .head)))))) fr_wr3 ?_; refine nSz ?_; refine ldz rfl (.app (.app (.app (.app (.app (.tail .head)))))) fr_rdW ?_; apply LW.store; rfl; rfl; apply SetAt.app; apply SetAt.app; apply SetAt.app; apply SetAt.app; apply SetAt.app; apply SetAt.head; apply fr_wrW; rfl; assumption; refine nNz ?_; refine CW.ret ?_)
  refine fin (vs := [frv ⟨.slice q1 (L.cl.take 300).length k1, pc, .slice q2 (L.ws.take 70).length k2, .slice q3 (L.ms.take 1100).length k3, gas, self, frm, val, .slice q4 (L.il.take 1100).length k4, .slice q5 (L.bl.take 1100).length k5, stat⟩]) (g3 ++ (g2 ++ (g5 ++ (g4 ++ g1)))) (.inl rfl) rfl rfl (by (apply ResL.cons; apply Res.cell; rfl; apply Known.at; apply FsAt.app; apply FsAt.app; apply FsAt.app; apply FsAt.app; apply FsAt.app; apply FsAt.head; exact fr_rdW; exact ResL.nil)) ?_ ⟨_, _, _, _, _, rfl, g1, g2, g3, g4, g5, ?_, h1, hh2, hh3, h4, h5⟩
  · exact List.Sublist.append_left (List.Sublist.append_left (List.Sublist.append_left (List.Sublist.append_left (List.sublist_append_left _ _) _) _) _) _
  · exact perm5 g1 g2 g3 g4 g5
end Go.Proofs.YtpgdnfgjbhdbpaaGreatDoor

/-
  Rows of calls; what is read in drawn regions.
  Conditions: none.
-/
namespace Go.Proofs.YtpgdnfgjbhdbpaaGreatDoor
open Go Go.RowKit SL
set_option maxRecDepth 8000
set_option maxHeartbeats 4000000
set_option linter.unusedSimpArgs false
set_option linter.unusedVariables false
attribute [local irreducible] SL.CW SL.LW SL.DW Calls SL.Ret SL.RetG SL.beginQ SL.roundQ SL.rangeQ SL.inQ SL.RW SL.AnyW SL.thenQ SL.thenC SL.thenW SL.blkQ SL.finQ SL.ValP SL.NewP SL.SetP SL.CallP SL.Rd SL.Wr SL.Known
theorem ClO.lie {c : ClV} {L : ClL} {gs : Fs} (h : ClO c L gs) : ∃ us : Fs, blocksN 4 (clv c) = us.map (·.1) ∧ (∀ p ∈ us, p ∈ gs) ∧ ∀ w : World, (∀ p ∈ us, w.heap[p.1]? = some p.2) → ClRows w c L := by
  obtain ⟨g1, g2, rfl, h1, h2⟩ := h
  unfold bM at h1 h2
  obtain ⟨q1, k1, e1⟩ := h1.form
  obtain ⟨q2, k2, e2⟩ := h2.form
  obtain ⟨u1, a1, b1, c1⟩ := rowU_own h1
  obtain ⟨u2, a2, b2, c2⟩ := rowU_own h2
  refine ⟨u1 ++ u2, ?_, fun p hp => ?_, fun w hw => ⟨c1 w fun p h => hw p (by simp [h]), c2 w fun p h => hw p (by simp [h])⟩⟩
  · rw [blocks_clv ⟨_, _, _, e1⟩ ⟨_, _, _, e2⟩]
    simp [a1, a2]
  · rcases List.mem_append.1 hp with h | h
    · exact List.mem_append_right _ (b1 p h)
    · exact List.mem_append_left _ (b2 p h)
theorem ClO.us {c : ClV} {L : ClL} {gs : Fs} {w : World} (h : ClO c L gs) (hw : ∀ p ∈ gs, w.heap[p.1]? = some p.2) : ClRows w c L := by
  obtain ⟨us, _, hm, hr⟩ := h.lie
  exact hr w fun p hp => hw p (hm p hp)
theorem ClO.cells {c : ClV} {L : ClL} {gs : Fs} (h : ClO c L gs) : (cla c).toList.all Value.oneCell' = true := by
  obtain ⟨g1, g2, rfl, h1, h2⟩ := h
  unfold bM at h1 h2
  obtain ⟨q1, k1, e1⟩ := h1.form
  obtain ⟨q2, k2, e2⟩ := h2.form
  exact cl_cells ⟨_, _, _, e1⟩ ⟨_, _, _, e2⟩
theorem ClRows.cells {c : ClV} {L : ClL} {w : World} (h : ClRows w c L) : (cla c).toList.all Value.oneCell' = true := by
  obtain ⟨q1, k1, e1, _⟩ := h.i.form
  obtain ⟨q2, k2, e2, _⟩ := h.c.form
  exact cl_cells ⟨_, _, _, e1⟩ ⟨_, _, _, e2⟩
theorem ClRows.blocks {c : ClV} {L : ClL} {w : World} (h : ClRows w c L) : [clv c].flatMap (blocksN 4) = [c.inp, c.code].flatMap (blocksN 4) := by
  obtain ⟨q1, k1, e1, _⟩ := h.i.form
  obtain ⟨q2, k2, e2, _⟩ := h.c.form
  rw [List.flatMap_cons, blocks_clv ⟨_, _, _, e1⟩ ⟨_, _, _, e2⟩]
  exact List.append_nil _
theorem st_ou {w0 w : World} {S : List Nat} {fs gs : Fs} (hs : St w0 S fs w) (h : List.Sublist gs fs) : ∀ p ∈ gs, w.heap[p.1]? = some p.2 := fun p hp => (hs.own p (h.subset hp)).2
/-- Numbers in their bounds. -/
structure ClNum (c : ClV) : Prop where
  val : c.val < M256
  n : c.n < 18446744073709551616
  pl : c.pl < 18446744073709551616
  gas : c.gas < 18446744073709551616
  self : c.self < 18446744073709551616
  frm : c.frm < 18446744073709551616
/-- The same call, but for where its rows lie. -/
def LikeC (x y : ClV) : Prop := ∃ i k, y = { x with inp := i, code := k }
theorem CalledR.like {x : ClV} {X : ClL} {v : Value} {gs : Fs} (h : CalledR x X v gs) : ∃ y, v = clv y ∧ ClO y (fewC X) gs ∧ LikeC x y := by
  obtain ⟨i, k, rfl, h⟩ := h
  exact ⟨_, rfl, h, i, k, rfl⟩
theorem LikeC.num {x y : ClV} (h : LikeC x y) (hx : ClNum x) : ClNum y := by
  obtain ⟨i, k, rfl⟩ := h
  exact ⟨hx.val, hx.n, hx.pl, hx.gas, hx.self, hx.frm⟩
theorem StaR.like {x y z : ClV} {L : ClL} {pl : List UInt8} {a b v : Value} {gs : Fs} (h : LikeC x y) (h2 : LikeC x z) (hs : StaR a b z L (progL z L pl) v gs) : StaR a b y L (progL y L pl) v gs := by
  obtain ⟨i, k, rfl⟩ := h
  obtain ⟨i2, k2, rfl⟩ := h2
  exact hs
theorem FrO.us {f : FrV} {L : FrL} {gs : Fs} {w : World} (h : FrO f L gs) (hw : ∀ p ∈ gs, w.heap[p.1]? = some p.2) : FrRows w f L := h.rows hw
theorem zeroC_o : ClO zeroC ⟨[], []⟩ [] := ⟨[], [], rfl, .nil, .nil⟩
def clp (p : ClV × ClL) : List Value := clc p.1
/-- A row of calls that may be read. -/
structure ClsAt (w : World) (v : Value) (l : List (ClV × ClL)) : Prop where
  row : RowAt w 15 v l.length (l.flatMap clp)
  at_ : ∀ p ∈ l, ClRows w p.1 p.2 ∧ ClNum p.1
theorem markAll_tag {k : Nat} {ws rs : List Nat} {g : Fs} : markAll k (tsTag ws rs g) = tsTag ws (k :: rs) g := by simp [markAll, tsTag]
theorem markAll_new {k j : Nat} {g : Fs} : markAll k (tsNew j g) = tsTag [j] [k] g := by simp [markAll, tsTag, tsNew]
/-- Facts that an operation may read: whoever wrote them is done. -/
def AncT (ops : Array Oper) (k : Nat) (ts : Ts) : Prop := ∀ q ∈ ts, ancB ops k q.2.2.1 = true
section anc
variable {ops : Array Oper} {k j : Nat} {s ts : Ts} {gs : Fs} {b : Nat} {o : Obj} {ws rs : List Nat}
theorem AncT.nil : AncT ops k [] := fun q h => by cases h
theorem AncT.cons (h : ancB ops k ws = true) (ht : AncT ops k ts) : AncT ops k ((b, o, ws, rs) :: ts) := fun q hq => by
  rcases List.mem_cons.1 hq with rfl | hq
  · exact h
  · exact ht q hq
theorem AncT.app (h : AncT ops k s) (ht : AncT ops k ts) : AncT ops k (s ++ ts) := fun q hq => by
  rcases List.mem_append.1 hq with hq | hq
  · exact h q hq
  · exact ht q hq
theorem AncT.tsOf : AncT ops k (tsOf gs) := fun q hq => by
  obtain ⟨p, _, rfl⟩ := List.mem_map.1 (show q ∈ gs.map _ from hq)
  exact anc_nil
theorem AncT.tag (h : ancB ops k ws = true) : AncT ops k (tsTag ws rs gs) := fun q hq => by
  obtain ⟨p, _, rfl⟩ := List.mem_map.1 (show q ∈ gs.map _ from hq)
  exact h
theorem AncT.new (h : ancB ops k [j] = true) : AncT ops k (tsNew j gs) := fun q hq => by
  obtain ⟨p, _, rfl⟩ := List.mem_map.1 (show q ∈ gs.map _ from hq)
  exact h
theorem AncT.mark (h : AncT ops k ts) : AncT ops k (markAll j ts) := fun q hq => by
  obtain ⟨p, hp, rfl⟩ := List.mem_map.1 (show q ∈ ts.map _ from hq)
  exact h p hp
theorem AncT.lie {C : Cu} {p : Nat × Obj} (h : AncT ops k ts) (hp : p ∈ fsOf ts) : Lie C ops k ts p := by
  obtain ⟨q, hq, rfl⟩ := List.mem_map.1 (show p ∈ ts.map _ from hp)
  exact .inl ⟨q.2.2.1, q.2.2.2, hq, h q hq⟩
end anc
end Go.Proofs.YtpgdnfgjbhdbpaaGreatDoor

/-
  The address of what is created.
  Conditions: none.
-/
namespace Go.Proofs.YtpgdnfgjbhdbpaaGreatDoor
open Go Go.RowKit SL
open SK (sumB Sum_calls TurnAt NumAt)
open UK (adr adr_lt aRead_calls)
set_option maxRecDepth 8000
set_option maxHeartbeats 4000000
set_option linter.unusedSimpArgs false
set_option linter.unusedVariables false
attribute [local irreducible] SL.CW SL.LW SL.DW Calls SL.Ret SL.RetG SL.beginQ SL.roundQ SL.rangeQ SL.inQ SL.RW SL.AnyW SL.thenQ SL.thenC SL.thenW SL.blkQ SL.finQ SL.ValP SL.NewP SL.SetP SL.CallP SL.Rd SL.Wr SL.Known
attribute [local irreducible] SK.padB SK.sumB
theorem sum_len (b : List UInt8) : (sumB b).length = 32 := by unfold SK.sumB; rw [SK.idF_len]
/-- What is hashed. -/
def crL (a salt : Nat) (D : List UInt8) : List UInt8 := 255 :: (beb 8 a ++ (beb 32 salt ++ D))
def createdA (a salt : Nat) (b : List UInt8) : Nat := adr (sumB (crL a salt (sumB b)))
theorem createdA_lt (a salt : Nat) (b : List UInt8) : createdA a salt b < 18446744073709551616 := adr_lt _
theorem Created_calls (a salt : Nat) (b : List UInt8) (ha : a < 18446744073709551616) (hs : salt < M256) (v : Value) (w : World) (hv : RowAt w 1 v b.length (ucs b)) (hb : b.length ≤ 100000) (hT : TurnAt w) (hN : NumAt w) :
    Calls Tryz.prog 34 #[.int .u64 (a : Int), wv salt, v] w (Ret w (.int .u64 (createdA a salt b : Int))) := by
  have hlen := sum_len b
  have hcr : createdA a salt b = adr (sumB (crL a salt (sumB b))) := rfl
  have hSum0 : ∀ w' {fs}, St w [] fs w' → Calls Tryz.prog 69 #[v] w' (Ret w' (.agg (uca (sumB b)))) := fun w' fs hst => Sum_calls b v w' (hv.st hst) hb (hT.st hst) (hN.st hst)
  obtain ⟨D, hD⟩ : ∃ D, sumB b = D := ⟨_, rfl⟩
  have hSum := @hSum0
  rw [hD] at hSum hlen hcr
  rw [hcr]
  have hlen2 := sum_len (crL a salt D)
  obtain ⟨D2, hD2⟩ : ∃ D2, sumB (crL a salt D) = D2 := ⟨_, rfl⟩
  rw [hD2] at hlen2 ⊢
  have hRead : ∀ (g : Nat) (w' : World) {fs : Fs}, St w [] fs w' → w'.heap[g]? = some (.cells (uca D2) 107 (0, 0)) → Calls Tryz.prog 73 #[.slice (some ⟨g, 0, none⟩) 32 32] w' (Ret w' (.tuple #[.int .u64 (adr D2 : Int), .int .i64 0])) := fun g w' fs _ h => by
    have h2 := own_row (off := 0) (n := 32) (c := 32) h (by omega) (Nat.le_refl _) (by simp only [maxLen]; omega)
    rw [List.drop_zero, List.take_of_length_le (by omega)] at h2
    exact aRead_calls D2 _ w' (by rw [hlen2]; exact h2) (by omega)
  refine enter (args := [_, _, _]) _ [] [] Tryz.func34 rfl Tryz.ntmps34 rfl (by simp) .nil ?_
  (refine sRz ?_; apply LW.boxA; rfl; rfl; intro _; refine vAz ?_; refine nSz ?_; refine vMz ?_; apply LW.callE; rfl; rfl; infer_instance; exact .cons rfl .nil; intro w _; rename_i hst; exact hSum w hst; apply LW.allocA; rfl; intro _; apply LW.store; rfl; rfl; apply SetAt.head; apply wr_ucaO; rfl; assumption; refine nNz ?_; refine CW.seq ?_)
  rename_i b4 b7
  apply CW.pre
  refine AnyW.anyX [(2, bM (beb 8 a), []), (4, (fun v gs => IsRow 5 1 v 32 (ucs (beb 32 salt)) gs), []), (7, bM (crL a salt D), [.tmp 13, .tmp 15, .tmp 17, .tmp 18])] 10 mixed (by decide +kernel) (by kernel_rfl) ?_
  ((try simp only [tsOf_cons, tsOf_nil, tsOf_app]); apply DW.lay1; rfl; rfl; rfl; exact WantT.none; infer_instance; infer_instance; rfl; rfl; rfl; rfl; rfl; rfl; intro _; refine dvz (.move rfl) ?_)
  (apply DW.manyE; rfl; rfl; rfl; exact WantT.none; rfl; infer_instance; exact .cons rfl .nil; rfl; exact ReadAll.nil; intro w _ _)
  exact aBytes_calls a ha w
  rintro v15 g15 h15
  have h15' := h15
  unfold bM at h15'
  obtain ⟨q15, k15, rfl⟩ := id h15'.form
  obtain ⟨u15, hbl15, hin15, hrows15⟩ := rowU_own h15'
  ((try simp only [tsOf_cons, tsOf_nil, tsOf_app]); apply DW.loadO; rfl; rfl; rfl; exact WantT.none; rfl; apply TRead.app; apply TRead.tail; apply TRead.tail; apply TRead.head; exact ancB_nil; exact Rd.whole rfl)
  (apply DW.manyE; rfl; rfl; rfl; exact WantT.none; rfl; infer_instance; exact .cons rfl .nil; rfl; exact ReadAll.nil; intro w _ _)
  exact Bytes_calls salt hs w
  rintro v17 g17 h17
  obtain ⟨q17, k17, rfl⟩ := id h17.form
  obtain ⟨u17, hbl17, hin17, hrows17⟩ := rowU_own h17
  ((try simp only [tsOf_cons, tsOf_nil, tsOf_app]); refine dvz (.cutArrAll inferInstance inferInstance rfl) ?_)
  rename_i b13
  refine DW.new rfl rfl rfl (by (exact WantT.none)) rfl (NewP.buildSN (vs := [(0, .slice (some ⟨b13, 0, none⟩) 1 1), (1, .slice q15 (beb 8 a).length k15), (2, .slice q17 32 k17), (3, .slice (some ⟨b7, 0, none⟩) 32 32)]) (c := #[.slice (some ⟨b13, 0, none⟩) 1 1, .slice q15 (beb 8 a).length k15, .slice q17 32 k17, .slice (some ⟨b7, 0, none⟩) 32 32]) inferInstance inferInstance (by (apply PartsOk.cons; rfl; apply PartsOk.cons; rfl; apply PartsOk.cons; rfl; apply PartsOk.cons; rfl; exact PartsOk.nil)) rfl rfl (by kernel_rfl) (by kernel_rfl)) fun b19 => ?_
  simp only [Sh.val]
  ((try simp only [tsOf_cons, tsOf_nil, tsOf_app]))
  have hj : crL a salt D = catL [(.slice (some ⟨b13, 0, none⟩) 1 1, [255]), (.slice q15 (beb 8 a).length k15, beb 8 a), (.slice q17 32 k17, beb 32 salt), (.slice (some ⟨b7, 0, none⟩) 32 32, D)] := by
    unfold catL crL
    simp
  refine DW.manyX ([(b13, .cells #[.int .u8 255] 5 (0, 0))] ++ (u15 ++ (u17 ++ [(b7, .cells (uca D) 107 (0, 0)), (b19, .cells #[.slice (some ⟨b13, 0, none⟩) 1 1, .slice q15 (beb 8 a).length k15, .slice q17 32 k17, .slice (some ⟨b7, 0, none⟩) 32 32] 22 (0, 0))]))) (xv := [.slice (some ⟨b13, 0, none⟩) 1 1, .slice q15 (beb 8 a).length k15, .slice q17 32 k17, .slice (some ⟨b7, 0, none⟩) 32 32]) rfl rfl rfl (by (exact WantT.none)) rfl inferInstance (by (exact .cons rfl .nil)) (by (exact .cons rfl (.cons rfl (.cons rfl (.cons rfl .nil))))) ?_ ?_ ?_ ?_
  · simp only [List.cons_append, List.nil_append, List.flatMap_cons, List.flatMap_nil, hbl15, hbl17, List.map_cons, List.map_append, List.map_nil]
    rfl
  · intro p hp
    refine AncT.lie (by (refine AncT.cons ?_ ?_; kernel_rfl; refine AncT.app ?_ ?_; refine AncT.new ?_; kernel_rfl; refine AncT.app ?_ ?_; refine AncT.new ?_; kernel_rfl; refine AncT.cons ?_ ?_; kernel_rfl; refine AncT.cons ?_ ?_; exact ancB_nil; refine AncT.cons ?_ ?_; exact ancB_nil; exact AncT.nil)) ?_
    rcases List.mem_append.1 hp with hp | hp
    · obtain rfl := List.mem_singleton.1 hp
      simp [fsOf, tsOf, tsNew, tsTag, markAll, Function.comp_def]
    · rcases List.mem_append.1 hp with hp | hp
      · have hp := hin15 p hp
        simp [fsOf, tsOf, tsNew, tsTag, markAll, Function.comp_def, hp]
      · rcases List.mem_append.1 hp with hp | hp
        · have hp := hin17 p hp
          simp [fsOf, tsOf, tsNew, tsTag, markAll, Function.comp_def, hp]
        · simp only [List.mem_cons, List.not_mem_nil, or_false] at hp
          rcases hp with rfl | rfl
          · simp [fsOf, tsOf, tsNew, tsTag, markAll, Function.comp_def]
          · simp [fsOf, tsOf, tsNew, tsTag, markAll, Function.comp_def]
  · intro w' _ hu
    have hw13 : w'.heap[b13]? = some (.cells #[.int .u8 255] 5 (0, 0)) := hu (b13, _) (by simp)
    have hw7 : w'.heap[b7]? = some (.cells (uca D) 107 (0, 0)) := hu (b7, _) (by simp)
    have hw19 : w'.heap[b19]? = some (.cells #[.slice (some ⟨b13, 0, none⟩) 1 1, .slice q15 (beb 8 a).length k15, .slice q17 32 k17, .slice (some ⟨b7, 0, none⟩) 32 32] 22 (0, 0)) := hu (b19, _) (by simp)
    rw [hj]
    refine joined_calls _ _ w' (row_cells (n := 4) hw19 rfl rfl (by simp [maxLen])) (fun x hx => ?_) (by rw [← hj]; unfold crL; simp only [List.length_cons, List.length_append, beb_len, hlen]; omega)
    simp only [List.mem_cons, List.not_mem_nil, or_false] at hx
    rcases hx with rfl | rfl | rfl | rfl
    · exact row_cells (n := 1) hw13 rfl rfl (by simp [maxLen])
    · exact hrows15 w' fun q hq => hu q (List.mem_append_right _ (List.mem_append_left _ hq))
    · have h := hrows17 w' fun q hq => hu q (List.mem_append_right _ (List.mem_append_right _ (List.mem_append_left _ hq)))
      dsimp only
      rw [beb_len]
      exact h
    · have h2 := own_row (off := 0) (n := 32) (c := 32) hw7 (by omega) (Nat.le_refl _) (by simp only [maxLen]; omega)
      rw [List.drop_zero, List.take_of_length_le (by omega)] at h2
      dsimp only
      rw [hlen]
      exact h2
  rintro v20 g20 h20
  have h20' := h20
  unfold bM at h20'
  obtain ⟨q20, k20, rfl⟩ := id h20'.form
  obtain ⟨u20, hbl20, hin20, hrows20⟩ := rowU_own h20'
  (try simp only [markAll_cons, markAll_app, markAll_tsOf, markAll_tag, markAll_new, markAll_nil])
  ((try simp only [tsOf_cons, tsOf_nil, tsOf_app]))
  refine DW.callA u20 (v := .agg (uca D2)) rfl rfl rfl (by (exact WantT.none)) rfl inferInstance (by (exact .cons rfl .nil)) (by rw [List.flatMap_cons, hbl20]; simp) (fun p hp => AncT.lie (by (refine AncT.app ?_ ?_; refine AncT.new ?_; kernel_rfl; refine AncT.cons ?_ ?_; kernel_rfl; refine AncT.app ?_ ?_; refine AncT.tag ?_; kernel_rfl; refine AncT.app ?_ ?_; refine AncT.tag ?_; kernel_rfl; refine AncT.cons ?_ ?_; kernel_rfl; refine AncT.cons ?_ ?_; exact ancB_nil; refine AncT.cons ?_ ?_; exact ancB_nil; exact AncT.nil)) (by have hp := hin20 p hp; simp [fsOf, tsOf, tsNew, tsTag, markAll, Function.comp_def, hp])) (fun w' hbw hu => ?_) ?_
  · rw [← hD2]
    exact Sum_calls (crL a salt D) _ w' (hrows20 w' hu) (by unfold crL; simp only [List.length_cons, List.length_append, beb_len, hlen]; omega) (hT.st ⟨hbw, (fun p h => by cases h), .nil⟩) (hN.st ⟨hbw, (fun p h => by cases h), .nil⟩)
  (try simp only [markAll_cons, markAll_app, markAll_tsOf, markAll_tag, markAll_new, markAll_nil])
  ((try simp only [tsOf_cons, tsOf_nil, tsOf_app]); apply DW.allocA; rfl; rfl; rfl; exact WantT.none; intro _; apply DW.nil; simp only [fsOf_cons, fsOf_nil, fsOf_app, fsOf_tsOf, fsOf_new, fsOf_tag, fsOf_mark])
  (apply LW.store; rfl; rfl; apply SetAt.head; apply wr_ucaO; rfl; assumption; refine nSz ?_; refine lvz (.cutArrAll inferInstance inferInstance rfl) ?_; apply LW.callE; rfl; rfl; infer_instance; exact .cons rfl .nil; intro w _; rename_i hst; (exact hRead _ w hst ((hst.own (_, .cells (uca D2) 107 (0, 0)) (by (repeat (first | exact List.Mem.head _ | apply List.Mem.tail)))).2)); refine vMz ?_; refine vEz ?_; refine vEz ?_; refine vAz ?_; refine vAz ?_; refine nSz ?_; refine vMz ?_; refine vAz ?_; refine nNz ?_; refine CW.ret ?_)
  (apply finR; exact .inl rfl; rfl; rfl; rfl; apply ResL.cons; exact Res.tmp rfl; exact ResL.nil)
  rfl
end Go.Proofs.YtpgdnfgjbhdbpaaGreatDoor

/-
  What begins a call: a creation.
  Conditions: none.
-/
namespace Go.Proofs.YtpgdnfgjbhdbpaaGreatDoor
open Go Go.RowKit SL
open SK (TurnAt NumAt)
open CK (CheckC_calls)
set_option maxRecDepth 8000
set_option maxHeartbeats 4000000
set_option linter.unusedSimpArgs false
set_option linter.unusedVariables false
attribute [local irreducible] SL.CW SL.LW SL.DW Calls SL.Ret SL.RetG SL.beginQ SL.roundQ SL.rangeQ SL.inQ SL.RW SL.AnyW SL.thenQ SL.thenC SL.thenW SL.blkQ SL.finQ SL.ValP SL.NewP SL.SetP SL.CallP SL.Rd SL.Wr SL.Known
attribute [local irreducible] SL.inP wordI shq createdA
/-- What a creation costs. -/
def creV (n : Nat) : Nat := min (timesV ((n + 31) / 32) 6 + 3200) NOG
def keepV (g : Nat) : Nat := g - g / 64
/-- What is created. -/
def creC (c : ClV) (a g : Nat) (lv : Value) : ClV := { c with code := lv, inp := .slice none 0 0, dst := a, self := a, gas := g }
def BCreatesK (b : Nat) (f : FrV) (A : AkV) (c : ClV) (l : List UInt8) (lv : Value) (salt : Nat) (rest : Fs) : Out := fun x fs' =>
  (¬ (l.length ≤ 200 ∧ creV l.length ≤ f.gas) ∧ x = .panicked offC ∧ fs' = rest) ∨
  ((l.length ≤ 200 ∧ creV l.length ≤ f.gas) ∧ x = .returned (.tuple #[]) ∧ fs' = (b, bgO (f.setGas (f.gas - creV l.length - keepV (f.gas - creV l.length))) A (creC c (createdA f.self salt l) (keepV (f.gas - creV l.length)) lv)) :: rest)
theorem bcreates_calls (w0 : World) (b : Nat) (f : FrV) (A : AkV) (c : ClV) (ws : List Nat) (hM : ∀ x ∈ ws, x < M256) (h4 : ws.length = 4) (hg : f.gas ≤ 20000) (hsf : f.self < 18446744073709551616) (l : List UInt8) (gl : Fs) (hlv : bM l c.inp gl) (hll : l.length ≤ 100000) (rest : Fs) (hgl : ∀ p ∈ gl, p ∈ rest)
    (hT : TurnAt w0) (hN : NumAt w0) (w : World) (hv : RowAt w0 4 A.ws ws.length (wcs ws)) (hs : St w0 [] ((b, bgO f A c) :: rest) w) :
    Calls Tryz.prog 56 #[.pointer (some ⟨b, 0, none⟩)] w (fun x w' => ∃ fs', BCreatesK b f A c l c.inp (ws.getD 3 0) rest x fs' ∧ St w0 [] fs' w') := by
  obtain ⟨code, pc, stk, mem, gas, self, frm, val, inp, back, stat⟩ := f
  obtain ⟨cop, cdst, cself, cfrm, cval, cmv, cgas, cinp, ccode, cpl, cn, cstat⟩ := c
  obtain ⟨kind, op, aws, dt, cold, vl, new⟩ := A
  dsimp only at hg hsf hv hlv
  obtain ⟨bw, off, cc, cs, E, fr, heq, hbw, hx⟩ := hv.pos (by omega)
  subst heq
  have hrd := word_rd (P := Tryz.prog) (T := 29) (E := E) (fr := fr) hx 3 (by omega)
  have hw3 : ws.getD 3 0 < M256 := by rw [List.getD_eq_getElem?_getD, List.getElem?_eq_getElem (by omega : 3 < ws.length)]; exact hM _ (List.getElem_mem _)
  obtain ⟨x0, hx0⟩ : ∃ x, ws.getD 3 0 = x := ⟨_, rfl⟩
  rw [hx0] at hrd hw3 ⊢
  have hlv' := hlv
  unfold bM at hlv'
  obtain ⟨ql, kl, rfl⟩ := id hlv'.form
  obtain ⟨us, hbl, hin, hrows⟩ := rowU_own hlv'
  have hln : l.length < 18446744073709551616 := by omega
  have hrow : ∀ w' {X : Fs}, St w0 [] (X ++ rest) w' → RowAt w' 1 (.slice ql l.length kl) l.length (ucs l) := fun w' X hst => bM_at hlv fun p hp => (hst.own p (List.mem_append_right _ (hgl p hp))).2
  have hCk0 : ∀ w' {X : Fs}, St w0 [] (X ++ rest) w' → Calls Tryz.prog 48 #[.slice ql l.length kl] w' (Ret w' (.int .i64 (if l.length ≤ 200 then 0 else 3))) := fun w' X hst => CheckC_calls _ _ _ w' (hrow w' hst)
  unfold BCreatesK creC
  dsimp only
  obtain ⟨k, hk⟩ : ∃ k, creV l.length = k := ⟨_, rfl⟩
  refine calls_anyO (calls_inlineP (K := anyO fun x fs' => (¬ (l.length ≤ 200 ∧ creV l.length ≤ gas) ∧ x = .panicked offC ∧ fs' = rest) ∨ ((l.length ≤ 200 ∧ creV l.length ≤ gas) ∧ x = .returned (.tuple #[]) ∧ fs' = (b, bgO (FrV.setGas ⟨code, pc, stk, mem, gas, self, frm, val, inp, back, stat⟩ (gas - creV l.length - keepV (gas - creV l.length))) ⟨kind, op, .slice (some ⟨bw, off, none⟩) ws.length cc, dt, cold, vl, new⟩ ⟨cop, createdA self x0 l, createdA self x0 l, cfrm, cval, cmv, keepV (gas - creV l.length), .slice none 0 0, .slice ql l.length kl, cpl, cn, cstat⟩) :: rest)) (args := [_]) Tryz.func56 rfl Tryz.ntmps56 rfl ?_ hs)
  by_cases hc : l.length ≤ 200
  · have hCk : ∀ w' {c E}, St w0 [] ([(b, .cells c E (0, 0))] ++ rest) w' → Calls Tryz.prog 48 #[.slice ql l.length kl] w' (Ret w' (.int .i64 0)) := fun w' c E hst => by have h := hCk0 w' hst; rwa [if_pos hc] at h
    (refine sRz ?_; refine vMz ?_; refine vNz ?_; refine vFz ?_; refine vAz ?_; refine nSz ?_; refine vMz ?_; refine vMz ?_; refine vMz ?_; refine vNz ?_; refine vFz ?_; refine ldz rfl .head bg_rd36 ?_; refine vNz ?_; refine vFz ?_; refine LW.store rfl rfl .head bg_wr37 ?_; refine vNz ?_; refine vFz ?_; refine LW.store rfl rfl .head bg_wr36 ?_; refine nNz ?_; refine CW.seq ?_; refine sRz ?_; refine vMz ?_; refine vNz ?_; refine vFz ?_; refine ldz rfl .head bg_rd37 ?_; apply LW.callE; rfl; rfl; infer_instance; exact .cons rfl .nil; intro w _; rename_i hst; exact hCk w hst; refine lvz (.neF rfl rfl (by omega)) ?_; refine nNz ?_; refine cFz ?_; refine CW.skip ?_; refine thenN ?_; refine sRz ?_; refine vMz ?_; refine vMz ?_; refine vNz ?_; refine vFz ?_; refine ldz rfl .head bg_rd37 ?_; refine lvz (.lenR rfl inferInstance rfl) ?_; refine lvz (.convN rfl (by omega) (by omega)) ?_; apply LW.callE; rfl; rfl; infer_instance; exact .cons rfl .nil; intro w _; exact Create_calls _ hln w)
    rw [show min (timesV ((l.length + 31) / 32) 6 + 3200) NOG = k from hk]
    rw [hk]
    refine LW.callP (K := fun x fs' => (k ≤ gas ∧ x = .returned (.tuple #[]) ∧ fs' = (b, bgO (FrV.setGas ⟨code, pc, stk, mem, gas, self, frm, val, inp, back, stat⟩ (gas - k)) ⟨kind, op, .slice (some ⟨bw, off, none⟩) ws.length cc, dt, cold, vl, new⟩ ⟨cop, cdst, cself, cfrm, cval, cmv, cgas, .slice none 0 0, .slice ql l.length kl, cpl, cn, cstat⟩) :: rest) ∨ (gas < k ∧ x = .panicked offC ∧ fs' = rest)) rfl rfl inferInstance (by (exact .cons rfl (.cons rfl .nil))) rfl (fun fs h => by rcases h with ⟨_, h, _⟩ | ⟨_, h, _⟩ <;> cases h) (fun w' hst => bspend_calls w0 b ⟨code, pc, stk, mem, gas, self, frm, val, inp, back, stat⟩ _ _ k (by dsimp only; omega) rest w' hst) ?_ ?_
    · rintro v fs' (⟨hkg, h, rfl⟩ | ⟨_, h, _⟩)
      · cases h
        change LW _ _ _ _ _ ((b, bgO ⟨code, pc, stk, mem, gas - k, self, frm, val, inp, back, stat⟩ ⟨kind, op, .slice (some ⟨bw, off, none⟩) ws.length cc, dt, cold, vl, new⟩ ⟨cop, cdst, cself, cfrm, cval, cmv, cgas, .slice none 0 0, .slice ql l.length kl, cpl, cn, cstat⟩) :: rest)
        have hPart : ∀ w, Calls Tryz.prog 33 #[.int .u64 ((gas - k : Nat) : Int)] w (Ret w (.int .u64 ((keepV (gas - k) : Nat) : Int))) := fun w => Part_calls (gas - k) (by omega) w
        (refine nNz ?_; refine CW.seq ?_)
        apply CW.pre
        refine AnyW.any 20 mixed (by decide +kernel) ?_
        ((try simp only [tsOf_cons, tsOf_nil, tsOf_app]); refine dvz (.move rfl) ?_; refine dvz (.move rfl) ?_; refine dvz (.nilCheck rfl) ?_; refine dvz (.fieldAddr rfl rfl) ?_; refine dvz (.fieldAddr rfl rfl) ?_; apply DW.loadO; rfl; rfl; rfl; exact WantT.none; rfl; apply TRead.head; exact ancB_nil; exact bg_rd5; refine dvz (.move rfl) ?_; refine dvz (.nilCheck rfl) ?_; refine dvz (.fieldAddr rfl rfl) ?_; refine dvz (.fieldAddr rfl rfl) ?_; apply DW.loadO; rfl; rfl; rfl; exact WantT.none; rfl; apply TRead.head; exact ancB_nil; exact bg_rd21; refine dvz (.indexAddrSL rfl rfl (by decide) (by omega)) ?_; apply DW.loadX; rfl; rfl; rfl; exact WantT.none; rfl; assumption; simp; assumption; refine dvz (.move rfl) ?_; refine dvz (.nilCheck rfl) ?_; refine dvz (.fieldAddr rfl rfl) ?_; apply DW.loadO; rfl; rfl; rfl; exact WantT.none; rfl; apply TRead.head; exact ancB_nil; exact bg_rd37)
        refine DW.callA us (v := .int .u64 (createdA self x0 l : Int)) rfl rfl rfl (by (exact WantT.none)) rfl inferInstance (by (exact .cons rfl (.cons rfl (.cons rfl .nil)))) (by rw [List.flatMap_cons, List.flatMap_cons, List.flatMap_cons, hbl]; simp [blocksN, wc]) (fun p hp => AncT.lie (by (refine AncT.cons ?_ ?_; exact ancB_nil; exact AncT.tsOf)) (by have hp := hgl p (hin p hp); simp [fsOf, tsOf, tsNew, tsTag, markAll, Function.comp_def, hp])) (fun w' hbw hu => Created_calls self x0 l hsf hw3 _ w' (hrows w' hu) hll (hT.st ⟨hbw, (fun p h => by cases h), .nil⟩) (hN.st ⟨hbw, (fun p h => by cases h), .nil⟩)) ?_
        (try simp only [markAll_cons, markAll_app, markAll_tsOf, markAll_tag, markAll_new, markAll_nil])
        ((try simp only [tsOf_cons, tsOf_nil, tsOf_app]); refine dvz (.nilCheck rfl) ?_; refine dvz (.fieldAddr rfl rfl) ?_; apply DW.nil; simp only [fsOf_cons, fsOf_nil, fsOf_app, fsOf_tsOf, fsOf_new, fsOf_tag, fsOf_mark])
        (apply LW.store; rfl; rfl; apply SetAt.head; apply bg_wr27 (z := .int .u64 0); refine nNz ?_; refine CW.seq ?_; apply CW.pre; refine AnyW.any 15 mixed (by decide +kernel) ?_; (try simp only [tsOf_cons, tsOf_nil, tsOf_app]); refine dvz (.move rfl) ?_; refine dvz (.move rfl) ?_; refine dvz (.move rfl) ?_; refine dvz (.nilCheck rfl) ?_; refine dvz (.fieldAddr rfl rfl) ?_; apply DW.loadO; rfl; rfl; rfl; exact WantT.none; rfl; apply TRead.head; exact ancB_nil; exact bg_rd27; refine dvz (.move rfl) ?_; refine dvz (.nilCheck rfl) ?_; refine dvz (.fieldAddr rfl rfl) ?_; refine dvz (.fieldAddr rfl rfl) ?_; apply DW.loadO; rfl; rfl; rfl; exact WantT.none; rfl; apply TRead.head; exact ancB_nil; exact bg_rd4; apply DW.callE; rfl; rfl; rfl; exact WantT.none; rfl; infer_instance; exact .cons rfl .nil; rfl; exact ReadAll.nil; intro w _ _; exact hPart w; refine dvz (.nilCheck rfl) ?_; refine dvz (.fieldAddr rfl rfl) ?_; apply DW.store; rfl; rfl; exact WantT.none; rfl; rfl; apply TSet.head; exact ancB_nil; kernel_rfl; apply bg_wr28 (z := .int .u64 0); apply DW.nil; simp only [fsOf_cons, fsOf_nil, fsOf_app, fsOf_tsOf, fsOf_new, fsOf_tag, fsOf_mark]; refine vNz ?_; refine vFz ?_; apply LW.store; rfl; rfl; apply SetAt.head; apply bg_wr35 (z := .int .u64 0); refine nNz ?_; refine CW.region ?_; refine vMz ?_; refine vMz ?_; refine vNz ?_; refine vFz ?_; refine ldz rfl .head bg_rd35 ?_)
        refine LW.callP (K := fun x fs' => (keepV (gas - k) ≤ gas - k ∧ x = .returned (.tuple #[]) ∧ fs' = (b, bgO (FrV.setGas ⟨code, pc, stk, mem, gas - k, self, frm, val, inp, back, stat⟩ (gas - k - keepV (gas - k))) ⟨kind, op, .slice (some ⟨bw, off, none⟩) ws.length cc, dt, cold, vl, new⟩ ⟨cop, createdA self x0 l, createdA self x0 l, cfrm, cval, cmv, keepV (gas - k), .slice none 0 0, .slice ql l.length kl, cpl, cn, cstat⟩) :: rest) ∨ (gas - k < keepV (gas - k) ∧ x = .panicked offC ∧ fs' = rest)) rfl rfl inferInstance (by (exact .cons rfl (.cons rfl .nil))) rfl (fun fs h => by rcases h with ⟨_, h, _⟩ | ⟨_, h, _⟩ <;> cases h) (fun w' hst => bspend_calls w0 b ⟨code, pc, stk, mem, gas - k, self, frm, val, inp, back, stat⟩ _ _ (keepV (gas - k)) (by dsimp only; omega) rest w' hst) ?_ ?_
        · rintro v fs' (⟨hkg2, h, rfl⟩ | ⟨_, h, _⟩)
          · cases h
            (apply LW.nil)
            exact inPI (.inr rfl) .nil rfl .nil rfl ⟨_, .inr ⟨⟨hc, hkg⟩, rfl, rfl⟩, _, .refl _, .refl _⟩
          · cases h
        · rintro ch fs' (⟨_, h, _⟩ | ⟨hkg2, h, rfl⟩)
          · cases h
          · exact absurd hkg2 (by unfold keepV; omega)
      · cases h
    · rintro ch fs' (⟨_, h, _⟩ | ⟨hkg, h, rfl⟩)
      · cases h
      · cases h
        refine thenP ?_
        exact inPP .nil ⟨_, .inl ⟨fun h => by omega, rfl, rfl⟩, _, .refl _, .refl _⟩
  · have hCk : ∀ w' {c E}, St w0 [] ([(b, .cells c E (0, 0))] ++ rest) w' → Calls Tryz.prog 48 #[.slice ql l.length kl] w' (Ret w' (.int .i64 3)) := fun w' c E hst => by have h := hCk0 w' hst; rwa [if_neg hc] at h
    (refine sRz ?_; refine vMz ?_; refine vNz ?_; refine vFz ?_; refine vAz ?_; refine nSz ?_; refine vMz ?_; refine vMz ?_; refine vMz ?_; refine vNz ?_; refine vFz ?_; refine ldz rfl .head bg_rd36 ?_; refine vNz ?_; refine vFz ?_; refine LW.store rfl rfl .head bg_wr37 ?_; refine vNz ?_; refine vFz ?_; refine LW.store rfl rfl .head bg_wr36 ?_; refine nNz ?_; refine CW.seq ?_; refine sRz ?_; refine vMz ?_; refine vNz ?_; refine vFz ?_; refine ldz rfl .head bg_rd37 ?_; apply LW.callE; rfl; rfl; infer_instance; exact .cons rfl .nil; intro w _; rename_i hst; exact hCk w hst; refine lvz (.neT rfl rfl (by omega)) ?_; refine nNz ?_; refine cTz ?_; refine CW.region ?_; apply LW.v0; rfl; rfl; apply ValP.buildT; infer_instance; infer_instance; exact PartsOk.nil; rfl; simp only [fillP, wrCells, Value.cells, List.getElem?_cons_zero, List.getElem?_cons_succ, List.toList_toArray, List.setIfInBounds_toArray, List.set_cons_succ, List.set_cons_zero, Nat.reduceAdd, Nat.zero_add]; rfl; apply LW.v0; rfl; rfl; apply ValP.mkIface; kernel_rfl; rfl; apply LW.panic; rfl; refine thenP ?_)
    exact inPP .nil ⟨rest, .inl ⟨fun h => hc h.1, rfl, rfl⟩, subp_ix [[_]] (xs := []) (ys := [0]) rest rfl⟩
end Go.Proofs.YtpgdnfgjbhdbpaaGreatDoor

/-
  What is begun of what a frame asks for: creations; all that is begun.
  Conditions: none.
-/
namespace Go.Proofs.YtpgdnfgjbhdbpaaGreatDoor
open Go Go.RowKit SL
open SK (TurnAt NumAt)
set_option maxRecDepth 8000
set_option maxHeartbeats 4000000
set_option linter.unusedSimpArgs false
set_option linter.unusedVariables false
attribute [local irreducible] SL.CW SL.LW SL.DW Calls SL.Ret SL.RetG SL.beginQ SL.roundQ SL.rangeQ SL.inQ SL.RW SL.AnyW SL.thenQ SL.thenC SL.thenW SL.blkQ SL.finQ SL.ValP SL.NewP SL.SetP SL.CallP SL.Rd SL.Wr SL.Known
theorem shq245 : shq 245 = (4, -1, 0, 1, -1, true) := rfl
attribute [local irreducible] SL.inP SL.inD SL.outD wordI shq createdA
theorem breachN_calls (b : Nat) (w : World) : Calls Tryz.prog 90 #[.pointer (some ⟨b, 0, none⟩), .int .i64 (-1)] w (Ret w (.tuple #[.slice none 0 0, .int .u64 0, .int .u64 0])) := by
  refine enter (args := [_, _]) _ [] [] Tryz.func90 rfl Tryz.ntmps90 rfl (by simp) .nil ?_
  (refine sRz ?_; refine vAz ?_; refine vAz ?_; refine vAz ?_; refine nNz ?_; refine CW.seq ?_; refine sRz ?_; refine vMz ?_; refine lvz (.lssT rfl rfl (by omega)) ?_; refine nNz ?_; refine cTz ?_; refine sRz ?_; refine vAz ?_; refine vAz ?_; refine vAz ?_; refine nNz ?_; refine CW.ret ?_; refine thenR ?_)
  (apply finR; exact .inl rfl; rfl; rfl; rfl; apply ResL.cons; exact Res.tmp rfl; apply ResL.cons; exact Res.tmp rfl; apply ResL.cons; exact Res.tmp rfl; exact ResL.nil)
  rfl
/-- What is reached of a creation. -/
def BReachesX (b : Nat) (f : FrV) (L : FrL) (A : AkV) (c : ClV) (a1 n1 : Nat) (rest : Fs) : Out := fun x fs' =>
  (reachG f.gas L a1 n1 = none ∧ x = .panicked offC ∧ fs' = rest) ∨ ∃ g1 L1, reachG f.gas L a1 n1 = some (g1, L1) ∧ ∃ cc s m i b5 gs' lv gl, x = .returned (.tuple #[]) ∧ FrO (f.rowsG g1 cc s m i b5) L1 gs' ∧ bM ((L1.ms.drop a1).take n1) lv gl ∧ fs' = (b, bgO (f.rowsG g1 cc s m i b5) A { c with inp := lv, pl := 0, n := 0 }) :: (gs' ++ (gl ++ rest))
theorem breachesX_calls (w0 : World) (b : Nat) (f : FrV) (L : FrL) (A : AkV) (c : ClV) (ws : List Nat) (hM : ∀ x ∈ ws, x < M256) (hqi : (shq A.op).2.2.2.1 = 1) (hqj : (shq A.op).2.2.2.2.1 = -1) (hi : 2 < ws.length) (hll : ws.length ≤ 100) (hF : okF f L) (gs rest : Fs) (hfr : FrA w0 f L gs) (w : World) (hv : RowAt w0 4 A.ws ws.length (wcs ws)) (hs : St w0 [] ((b, bgO f A c) :: (gs ++ rest)) w) :
    Calls Tryz.prog 58 #[.pointer (some ⟨b, 0, none⟩)] w (fun x w' => ∃ fs', BReachesX b f L A c (wordI ws 1) (wordI ws 2) rest x fs' ∧ St w0 [] fs' w') := by
  obtain ⟨cop, cdst, cself, cfrm, cval, cmv, cgas, cinp, ccode, cpl, cn, cstat⟩ := c
  have hs17 : ∀ {f c E fr}, Rd Tryz.prog 3 (.cells (bga f A c) E fr) 17 (.int .i64 1) := fun {f c E fr} => by have h := bg_rd17 (P := Tryz.prog) (T := 3) (E := E) (fr := fr) (A := A) (f := f) (c := c); rw [hqi] at h; exact h
  have hs18 : ∀ {f c E fr}, Rd Tryz.prog 3 (.cells (bga f A c) E fr) 18 (.int .i64 (-1)) := fun {f c E fr} => by have h := bg_rd18 (P := Tryz.prog) (T := 3) (E := E) (fr := fr) (A := A) (f := f) (c := c); rw [hqj] at h; exact h
  refine calls_anyO (calls_inlineP (K := anyO (BReachesX b f L A ⟨cop, cdst, cself, cfrm, cval, cmv, cgas, cinp, ccode, cpl, cn, cstat⟩ (wordI ws 1) (wordI ws 2) rest)) (args := [_]) Tryz.func58 rfl Tryz.ntmps58 rfl ?_ hs)
  (refine sRz ?_; refine vMz ?_; refine vMz ?_; refine vMz ?_; refine vNz ?_; refine vFz ?_; refine vFz ?_; refine ldz rfl .head hs17 ?_)
  refine LW.callP (K := BReachK w0 b f L A _ (wordI ws 1) (wordI ws 2) rest) rfl rfl inferInstance (by (exact .cons rfl (.cons rfl .nil))) rfl BReachK.plain (fun w' hst => breach_calls w0 b f L A _ ws hM 1 (by omega) hll hF gs rest hfr w' hv hst) ?_ ?_
  · intro v fs' hK
    unfold BReachK at hK
    rw [reachR_G] at hK
    cases hR : reachG f.gas L (wordI ws 1) (wordI ws 2) with
    | none => rw [hR] at hK; cases hK.1
    | some x =>
      rw [hR] at hK
      obtain ⟨g1, L1⟩ := x
      obtain ⟨cc, s1, m1, i1, b1, gs1, lv, gl, h1, hfr1, hlv, rfl⟩ := hK
      cases h1
      have hlv' := hlv
      unfold bM at hlv'
      obtain ⟨q1, k1, rfl⟩ := hlv'.form
      (refine vMz ?_; refine vEz ?_; refine vEz ?_; refine vEz ?_; refine vNz ?_; refine vFz ?_; refine vFz ?_; refine LW.store rfl rfl .head bg_wr36 ?_; refine nNz ?_; refine CW.region ?_; refine vMz ?_; refine vMz ?_; refine vMz ?_; refine vMz ?_; refine vNz ?_; refine vFz ?_; refine vFz ?_; refine ldz rfl .head hs18 ?_; apply LW.callE; rfl; rfl; infer_instance; exact .cons rfl (.cons rfl .nil); intro w _; exact breachN_calls b w; refine vMz ?_; refine vEz ?_; refine vEz ?_; refine vEz ?_; refine vNz ?_; refine vFz ?_; refine vFz ?_; apply LW.store; rfl; rfl; apply SetAt.head; apply bg_wr38 (z := .int .u64 0); refine vNz ?_; refine vFz ?_; refine vFz ?_; apply LW.store; rfl; rfl; apply SetAt.head; apply bg_wr39 (z := .int .u64 0); apply LW.nil)
      exact inPI (.inr rfl) .nil rfl .nil rfl ⟨_, .inr ⟨g1, L1, hR, cc, s1, m1, i1, b1, gs1, _, gl, rfl, hfr1, hlv, rfl⟩, _, .refl _, .refl _⟩
  · intro ch fs' hK
    unfold BReachK at hK
    rw [reachR_G] at hK
    cases hR : reachG f.gas L (wordI ws 1) (wordI ws 2) with
    | none =>
      rw [hR] at hK
      obtain ⟨h1, rfl⟩ := hK
      cases h1
      refine thenP ?_
      exact inPP .nil ⟨_, .inl ⟨hR, rfl, rfl⟩, _, .refl _, .refl _⟩
    | some x => rw [hR] at hK; obtain ⟨_, _, _, _, _, _, _, _, h, _⟩ := hK; cases h
end Go.Proofs.YtpgdnfgjbhdbpaaGreatDoor

/-
  What is begun of what a frame asks for: creations begun; all that is begun.
  Conditions: none.
-/
namespace Go.Proofs.YtpgdnfgjbhdbpaaGreatDoor
open Go Go.RowKit SL
open SK (TurnAt NumAt)
set_option maxRecDepth 8000
set_option maxHeartbeats 4000000
set_option linter.unusedSimpArgs false
set_option linter.unusedVariables false
attribute [local irreducible] SL.CW SL.LW SL.DW Calls SL.Ret SL.RetG SL.beginQ SL.roundQ SL.rangeQ SL.inQ SL.RW SL.AnyW SL.thenQ SL.thenC SL.thenW SL.blkQ SL.finQ SL.ValP SL.NewP SL.SetP SL.CallP SL.Rd SL.Wr SL.Known
/-- What is begun of a frame: its gas and lists, the call's lists, the call. -/
def BegA (f : FrV) (R : Option (Nat × FrL × ClL × ClV)) (v : Value) (gs : Fs) : Prop := match R with
  | none => v = .tuple #[frv zeroF, clv zeroC, .bool false] ∧ gs = []
  | some (g, L', M, c) => ∃ cc s m i b iv kv g1 g2, v = .tuple #[frv (f.rowsG g cc s m i b), clv { c with inp := iv, code := kv }, .bool true] ∧ gs = g1 ++ g2 ∧ FrO (f.rowsG g cc s m i b) L' g1 ∧ ClO { c with inp := iv, code := kv } M g2
def beginX (f : FrV) (L : FrL) (ws : List Nat) : Option (Nat × FrL × ClL × ClV) :=
  match reachG f.gas L (wordI ws 1) (wordI ws 2) with
  | none => none
  | some (g1, L1) =>
    let l := (L1.ms.drop (wordI ws 1)).take (wordI ws 2)
    if l.length ≤ 200 ∧ creV l.length ≤ g1 then some (g1 - creV l.length - keepV (g1 - creV l.length), L1, ⟨[], l⟩, creC { whoC f 245 ws with pl := 0, n := 0 } (createdA f.self (ws.getD 3 0) l) (keepV (g1 - creV l.length)) (.slice none 0 0)) else none
def beginA (f : FrV) (L : FrL) (A : AkV) (ws : List Nat) : Option (Nat × FrL × ClL × ClV) :=
  if askB A.kind A.op ws.length = true ∧ okF f L then (if A.op = 245 then beginX f L ws else (beginG f L A ws).map fun x => (x.1, x.2.1, ⟨x.2.2.1, []⟩, x.2.2.2)) else none
theorem beginX_no1 {f : FrV} {L : FrL} {ws : List Nat} (h : reachG f.gas L (wordI ws 1) (wordI ws 2) = none) : beginX f L ws = none := by unfold beginX; rw [h]
theorem beginX_no2 {f : FrV} {L L1 : FrL} {ws : List Nat} {g1 : Nat} (h : reachG f.gas L (wordI ws 1) (wordI ws 2) = some (g1, L1)) (h2 : ¬ (((L1.ms.drop (wordI ws 1)).take (wordI ws 2)).length ≤ 200 ∧ creV ((L1.ms.drop (wordI ws 1)).take (wordI ws 2)).length ≤ g1)) : beginX f L ws = none := by
  unfold beginX; rw [h]; exact if_neg h2
theorem beginX_some {f : FrV} {L L1 : FrL} {ws : List Nat} {g1 : Nat} (h : reachG f.gas L (wordI ws 1) (wordI ws 2) = some (g1, L1)) (h2 : ((L1.ms.drop (wordI ws 1)).take (wordI ws 2)).length ≤ 200 ∧ creV ((L1.ms.drop (wordI ws 1)).take (wordI ws 2)).length ≤ g1) :
    beginX f L ws = some (g1 - creV ((L1.ms.drop (wordI ws 1)).take (wordI ws 2)).length - keepV (g1 - creV ((L1.ms.drop (wordI ws 1)).take (wordI ws 2)).length), L1, ⟨[], (L1.ms.drop (wordI ws 1)).take (wordI ws 2)⟩, creC { whoC f 245 ws with pl := 0, n := 0 } (createdA f.self (ws.getD 3 0) ((L1.ms.drop (wordI ws 1)).take (wordI ws 2))) (keepV (g1 - creV ((L1.ms.drop (wordI ws 1)).take (wordI ws 2)).length)) (.slice none 0 0)) := by
  unfold beginX; rw [h]; exact if_pos h2
theorem whoC_nil (f : FrV) (op : Nat) (ws : List Nat) : (whoC f op ws).code = .slice none 0 0 ∧ (whoC f op ws).inp = .slice none 0 0 := by
  unfold whoC
  split <;> exact ⟨rfl, rfl⟩
attribute [local irreducible] SL.inP SL.inD SL.outD wordI shq createdA whoC
theorem BeginX_calls (f : FrV) (L : FrL) (A : AkV) (ws : List Nat) (hM : ∀ x ∈ ws, x < M256) (hd : ∃ p n c, A.dt = .slice p n c) (hask : askB A.kind A.op ws.length = true) (he : A.op = 245) (hF : okF f L) (hsf : f.self < 18446744073709551616) (w : World) (hf : FrRows w f L) (hv : RowAt w 4 A.ws ws.length (wcs ws)) (hT : TurnAt w) (hN : NumAt w) :
    Calls Tryz.prog 26 #[frv f, .agg (aska A.kind A.op A.ws A.dt), .agg #[.bool A.cold, .bool A.vl, .bool A.new]] w (RetG w [] (BegA f (beginX f L ws))) := by
  have hst0 : St w [] [] w := ⟨Bel.refl _ _ _, (fun p h => by cases h), .nil⟩
  have hv0 := hv
  have hq0 := hask
  unfold askB at hq0
  rw [Bool.and_eq_true, Bool.and_eq_true, decide_eq_true_eq, decide_eq_true_eq] at hq0
  obtain ⟨hq1, hq2, hq3⟩ := hq0
  obtain ⟨kind, op, aws, dt, cold, vl, new⟩ := A
  obtain ⟨q, d, e, hd⟩ := hd
  dsimp only at hd hask he hq1 hq2 hq3 hv ⊢
  subst hd he
  have h4 : ws.length = 4 := by rw [shq245] at hq3; omega
  obtain ⟨p, c, rfl, _, _⟩ := id hv.form
  have hzs := zero_sl
  have hsl := hf.sl
  have hSh : ∀ w, Calls Tryz.prog 53 #[.agg (aska kind 245 (.slice p ws.length c) (.slice q d e))] w (Ret w (.tuple #[.agg (shc 245).toArray, .bool true])) := fun w => by
    have h := shapeOf_calls kind 245 ws.length c p q d e w
    rwa [hask] at h
  have hFc : ∀ w' {fs : Fs}, St w [] fs w' → Calls Tryz.prog 31 #[frv f] w' (Ret w' (.int .i64 0)) := fun w' fs hst => by have h := fCheck_calls f L w' (hf.st hst); rwa [if_pos hF] at h
  refine calls_inlineD (w0 := w) (S := []) (args := [_, _, _]) (R := RetG w [] (BegA f (beginX f L ws))) Tryz.func26 rfl Tryz.ntmps26 rfl ?_ hst0
  (refine sRz ?_; apply LW.boxA; rfl; rfl; intro _; apply LW.boxA; rfl; rfl; intro _; apply LW.boxA; rfl; rfl; intro _; apply LW.allocA; rfl; intro _; apply LW.allocA; rfl; intro _; refine vAz ?_; refine nSz ?_; refine ldz rfl (.tail (.tail (.tail .head))) ask_rdW ?_; apply LW.callE; rfl; rfl; infer_instance; exact .cons rfl .nil; intro w _; exact hSh w; refine vMz ?_; refine vEz ?_; refine vEz ?_; apply LW.allocA; rfl; intro _; refine LW.store rfl rfl .head (.whole rfl rfl rfl) ?_; refine vAz ?_; refine nNz ?_; refine CW.seq ?_; refine sRz ?_; refine vMz ?_; refine lvz (.notT rfl (by with_reducible rfl)) ?_; refine vMz ?_; refine gTz ?_; refine ldz rfl (.tail (.tail (.tail (.tail (.tail .head))))) fr_rdW ?_; refine gTz ?_; apply LW.callE; rfl; rfl; infer_instance; exact .cons rfl .nil; intro w _; exact hFc w (by assumption); refine gTz ?_; refine lvz (.neF rfl rfl (by omega)) ?_; refine pFz ?_; refine nNz ?_; refine cFz ?_; refine CW.skip ?_; refine thenN ?_; refine sRz ?_; refine ldz rfl (.tail (.tail (.tail (.tail (.tail .head))))) fr_rdW ?_; refine ldz rfl .head sh_rdW ?_; refine ldz rfl (.tail (.tail (.tail (.tail .head)))) ask_rdW ?_; refine ldz rfl (.tail (.tail (.tail .head))) (Rd.whole rfl) ?_; apply LW.v0; rfl; rfl; apply ValP.buildT; infer_instance; infer_instance; apply PartsOk.cons; rfl; apply PartsOk.cons; rfl; apply PartsOk.cons; rfl; apply PartsOk.cons; rfl; exact PartsOk.nil; rfl; simp only [fillP, wrCells, fra, frc, bga, bgl, shc, aska, wc, zeroC, clc, Value.cells, List.getElem?_cons_zero, List.getElem?_cons_succ, List.toList_toArray, List.setIfInBounds_toArray, List.set_cons_succ, List.set_cons_zero, List.cons_append, List.nil_append, Nat.reduceAdd, Nat.zero_add]; rfl; apply LW.boxA; rfl; rfl; intro _; refine vAz ?_; refine nSz ?_)
  rename_i b3 b4 b5 b6 b7 b9 bB
  refine LW.subP (fs' := (bB, bgO f ⟨kind, 245, .slice p ws.length c, .slice q d e, cold, vl, new⟩ zeroC) :: (b6, .cells (fra zeroF) 31 (0, 0)) :: (b7, .cells (cla zeroC) 33 (0, 0)) :: (b4, .cells (aska kind 245 (.slice p ws.length c) (.slice q d e)) 61 (0, 0)) :: []) ?_ ?_
  · exact subp_ix [[_], [_], [_], [_], [_], [_], [_]] (xs := [0, 3, 2, 5]) (ys := [0, 1, 2, 3, 4, 5, 6]) [] rfl
  apply LW.defer
  rfl
  rfl
  (apply LW.nil; refine thenM ?_; refine sRz ?_; refine vMz ?_; apply LW.v0; rfl; rfl; apply ValP.makeFunc; exact .cons rfl .nil; exact ArgsOk.nil; refine vAz ?_; refine nNz ?_; refine CW.seq ?_; refine sRz ?_; refine vFz ?_; refine ldz rfl (.tail (.tail (.tail .head))) ask_rd1 ?_; refine lvz (.eqT rfl rfl (by omega)) ?_; refine nNz ?_; refine cTz ?_; refine CW.region ?_; refine vMz ?_; apply LW.v0; rfl; rfl; apply ValP.makeFunc; exact .cons rfl .nil; exact ArgsOk.nil; refine vAz ?_; refine nNz ?_; refine CW.seq ?_; refine sRz ?_; refine vMz ?_; apply LW.v0; rfl; rfl; apply ValP.makeFunc; exact .cons rfl .nil; exact ArgsOk.nil; refine vMz ?_; apply LW.v0; rfl; rfl; apply ValP.makeFunc; exact .cons rfl .nil; exact ArgsOk.nil; refine vMz ?_; apply LW.v0; rfl; rfl; apply ValP.buildA; apply PartsOk.cons; rfl; apply PartsOk.cons; rfl; apply PartsOk.cons; rfl; exact PartsOk.nil; rfl; simp only [fillC, wc, wrCells, Value.cells, List.toList_toArray, List.setIfInBounds_toArray, List.set_cons_succ, List.set_cons_zero, Nat.reduceAdd, Nat.reduceMul, Nat.zero_add, Nat.mul_one]; rfl; refine vMz ?_; refine nNz ?_; refine CW.block ?_)
  apply CW.rounds 4
  apply RW.step
  (refine sRz ?_; refine lvz (.lssT rfl rfl (by omega)) ?_; refine nNz ?_; refine CW.seq ?_; refine cTz ?_; refine CW.skip ?_; refine thenN ?_; refine CW.seq ?_; refine CW.block ?_; refine sRz ?_; refine lvz (.indexAL rfl rfl rfl rfl rfl) ?_; refine vAz ?_; refine nNz ?_; refine CW.region ?_; refine vMz ?_)
  refine LW.callP (K := fun x fs' => x = .returned (.tuple #[]) ∧ fs' = (bB, bgO f ⟨kind, 245, .slice p ws.length c, .slice q d e, cold, vl, new⟩ (whoC f 245 ws)) :: ((b6, .cells (fra zeroF) 31 (0, 0)) :: (b7, .cells (cla zeroC) 33 (0, 0)) :: (b4, .cells (aska kind 245 (.slice p ws.length c) (.slice q d e)) 61 (0, 0)) :: [])) rfl rfl inferInstance (by (exact ArgsOk.nil)) rfl (fun fs h => by cases h.1) (fun w' hst => who_calls w bB f ⟨kind, 245, .slice p ws.length c, .slice q d e, cold, vl, new⟩ ws hM hq3.symm hq1 _ w' hv hst) ?_ ?_
  · rintro v fs' ⟨h, rfl⟩
    cases h
    (apply LW.nil; refine blkN ?_; refine thenN ?_; refine CW.region ?_; refine lvz (.addI rfl rfl (by omega) (by omega)) ?_; refine vMz ?_; apply LW.nil; refine thenL ?_)
    apply RW.step
    (refine sRz ?_; refine lvz (.lssT rfl rfl (by omega)) ?_; refine nNz ?_; refine CW.seq ?_; refine cTz ?_; refine CW.skip ?_; refine thenN ?_; refine CW.seq ?_; refine CW.block ?_; refine sRz ?_; refine lvz (.indexAL rfl rfl rfl rfl rfl) ?_; refine vAz ?_; refine nNz ?_; refine CW.region ?_; refine vMz ?_)
    refine LW.callP (K := BReachesX bB f L ⟨kind, 245, .slice p ws.length c, .slice q d e, cold, vl, new⟩ (whoC f 245 ws) (wordI ws 1) (wordI ws 2) ((b6, .cells (fra zeroF) 31 (0, 0)) :: (b7, .cells (cla zeroC) 33 (0, 0)) :: (b4, .cells (aska kind 245 (.slice p ws.length c) (.slice q d e)) 61 (0, 0)) :: [])) rfl rfl inferInstance (by (exact ArgsOk.nil)) rfl (fun fs h => by rcases h with ⟨_, h, _⟩ | ⟨_, _, _, _, _, _, _, _, _, _, _, h, _⟩ <;> cases h) (fun w' hst => breachesX_calls w bB f L ⟨kind, 245, .slice p ws.length c, .slice q d e, cold, vl, new⟩ _ ws hM (by dsimp only; rw [shq245]) (by dsimp only; rw [shq245]) (by omega) (by omega) hF [] _ (.inl ⟨rfl, hf⟩) w' hv hst) ?_ ?_
    · rintro v fs' (⟨_, h, _⟩ | ⟨g1, L1, hR1, cc, s1, m1, i1, x1, gs1, lv, gl, h1, hfr, hlv, rfl⟩)
      · cases h
      cases h1
      have hF1 := okF_reach (c := cc) (s := s1) (m := m1) (i := i1) (b := x1) hF hR1
      (apply LW.nil; refine blkN ?_; refine thenN ?_; refine CW.region ?_; refine lvz (.addI rfl rfl (by omega) (by omega)) ?_; refine vMz ?_; apply LW.nil; refine thenL ?_)
      apply RW.step
      (refine sRz ?_; refine lvz (.lssT rfl rfl (by omega)) ?_; refine nNz ?_; refine CW.seq ?_; refine cTz ?_; refine CW.skip ?_; refine thenN ?_; refine CW.seq ?_; refine CW.block ?_; refine sRz ?_; refine lvz (.indexAL rfl rfl rfl rfl rfl) ?_; refine vAz ?_; refine nNz ?_; refine CW.region ?_; refine vMz ?_)
      obtain ⟨l, hl⟩ : ∃ l, (L1.ms.drop (wordI ws 1)).take (wordI ws 2) = l := ⟨_, rfl⟩
      rw [hl] at hlv
      have hll : l.length ≤ 100000 := by
        have h5 := hF1.2.2.2.1.2.1
        rw [← hl, List.length_take, List.length_drop]
        omega
      refine LW.callP (K := BCreatesK bB (f.rowsG g1 cc s1 m1 i1 x1) ⟨kind, 245, .slice p ws.length c, .slice q d e, cold, vl, new⟩ { whoC f 245 ws with inp := lv, pl := 0, n := 0 } l lv (ws.getD 3 0) (gs1 ++ (gl ++ ((b6, .cells (fra zeroF) 31 (0, 0)) :: (b7, .cells (cla zeroC) 33 (0, 0)) :: (b4, .cells (aska kind 245 (.slice p ws.length c) (.slice q d e)) 61 (0, 0)) :: [])))) rfl rfl inferInstance (by (exact ArgsOk.nil)) rfl (fun fs h => by rcases h with ⟨_, h, _⟩ | ⟨_, h, _⟩ <;> cases h) (fun w' hst => bcreates_calls w bB (f.rowsG g1 cc s1 m1 i1 x1) ⟨kind, 245, .slice p ws.length c, .slice q d e, cold, vl, new⟩ { whoC f 245 ws with inp := lv, pl := 0, n := 0 } ws hM h4 hF1.1.2.2 hsf l gl hlv hll _ (fun p hp => List.mem_append_right _ (List.mem_append_left _ hp)) hT hN w' hv hst) ?_ ?_
      · rintro v fs' (⟨_, h, _⟩ | ⟨hk, h, rfl⟩)
        · cases h
        · cases h
          have hBeg := beginX_some (f := f) (L := L) (ws := ws) hR1 (by rw [hl]; exact hk)
          rw [hl] at hBeg
          rw [hBeg]
          (apply LW.nil; refine blkN ?_; refine thenN ?_; refine CW.region ?_; refine lvz (.addI rfl rfl (by omega) (by omega)) ?_; refine vMz ?_; apply LW.nil; refine thenL ?_)
          apply RW.step
          (refine sRz ?_; refine lvz (.lssF rfl rfl (by omega)) ?_; refine nNz ?_; refine CW.seq ?_; refine cFz ?_; refine CW.exit ?_; refine thenE ?_; refine thenE ?_; refine blkE rfl ?_; refine thenN ?_; refine CW.seq ?_)
          have hfr3 : FrO ((f.rowsG g1 cc s1 m1 i1 x1).setGas (g1 - creV l.length - keepV (g1 - creV l.length))) L1 gs1 := hfr
          have hfa : FrA w ((f.rowsG g1 cc s1 m1 i1 x1).setGas (g1 - creV l.length - keepV (g1 - creV l.length))) L1 gs1 := .inr hfr3
          obtain ⟨us, hbl, hin, hrows⟩ := hfa.lie
          have hlv' := hlv
          unfold bM at hlv'
          obtain ⟨q4, k4, rfl⟩ := hlv'.form
          apply CW.pre
          (refine AnyW.anyM [(4, CopyR ((f.rowsG g1 cc s1 m1 i1 x1).setGas (g1 - creV l.length - keepV (g1 - creV l.length))) L1)] 10 mixed (by decide +kernel) ?_)
          ((try simp only [tsOf_cons, tsOf_nil, tsOf_app]); refine dvz (.move rfl) ?_; refine dvz (.nilCheck rfl) ?_; refine dvz (.fieldAddr rfl rfl) ?_; apply DW.loadO; rfl; rfl; rfl; exact WantT.none; rfl; apply TRead.head; exact ancB_nil; exact bg_rdF)
          refine DW.manyA us rfl rfl rfl (by (exact WantT.none)) rfl inferInstance (by (exact .cons rfl .nil)) (by rw [List.flatMap_cons]; exact (List.append_nil _).trans hbl) (fun p hp => ?_) (fun w' hb hu => callCopied_calls _ L1 hF1.short w' (hrows w' hb hu)) ?_
          · rcases hin p hp with h | h
            · exact .inl ⟨[], [], by simp [tsOf, h], anc_nil⟩
            · exact .inr ⟨h, by simp⟩
          rintro vT gT ⟨c4, s4, m4, i4, x4, rfl, hfr4⟩
          have hsl4 := hfr4.sl
          have hcl4 := cl_cells (c := creC { whoC f 245 ws with inp := .slice q4 l.length k4, pl := 0, n := 0 } (createdA f.self (ws.getD 3 0) l) (keepV (g1 - creV l.length)) (.slice q4 l.length k4)) ⟨_, _, _, rfl⟩ ⟨_, _, _, rfl⟩
          simp only [markAll_app, markAll_cons, markAll_tsOf, markAll_nil]
          ((try simp only [tsOf_cons, tsOf_nil, tsOf_app]); refine dvz (.move rfl) ?_; refine dvz (.nilCheck rfl) ?_; refine dvz (.fieldAddr rfl rfl) ?_; apply DW.loadO; rfl; rfl; rfl; exact WantT.none; rfl; apply TRead.app; apply TRead.head; exact ancB_nil; exact bg_rdC; apply DW.store; rfl; rfl; exact WantT.none; rfl; rfl; apply TSet.app; apply TSet.tail; apply TSet.app; apply TSet.app; apply TSet.head; exact ancB_nil; kernel_rfl; apply fr_wrW; rfl; assumption; apply DW.nil; simp only [fsOf_cons, fsOf_nil, fsOf_app, fsOf_tsOf, fsOf_new, fsOf_tag])
          try simp only [fsOf_mark, fsOf_cons, fsOf_nil, fsOf_app, fsOf_tsOf, fsOf_new, fsOf_tag, List.append_eq, List.nil_append]
          (apply LW.store; rfl; rfl; apply SetAt.app; apply SetAt.tail; apply SetAt.app; apply SetAt.app; apply SetAt.tail; apply SetAt.head; apply cl_wrW; rfl; exact hcl4; refine vAz ?_; refine nNz ?_; refine CW.ret ?_)
          refine outDI (.inl rfl) rfl fun a w2 s2 => ?_
          refine leaves_clo (K := fun e fs' => e = .returned (.tuple #[]) ∧ ∃ b1, fs' = b1 :: _) inferInstance (fun h => by cases h) (begin1_idle w [] _ w2 s2.st) (fun fs h => by cases h.1) ?_ ?_
          · rintro v fs' w' ⟨_, b1, rfl⟩ hst
            refine leaves_end (vs := [frv (f.rowsG (g1 - creV l.length - keepV (g1 - creV l.length)) c4 s4 m4 i4 x4), clv (creC { whoC f 245 ws with inp := .slice q4 l.length k4, pl := 0, n := 0 } (createdA f.self (ws.getD 3 0) l) (keepV (g1 - creV l.length)) (.slice q4 l.length k4)), .bool true]) (w := w') rfl s2.env hst ?_ rfl ?_
            · (apply ResL.cons; apply Res.cell; rfl; apply Known.at; apply FsAt.tail; apply FsAt.app; apply FsAt.tail; apply FsAt.app; apply FsAt.app; apply FsAt.head; exact fr_rdW; apply ResL.cons; apply Res.cell; rfl; apply Known.at; apply FsAt.tail; apply FsAt.app; apply FsAt.tail; apply FsAt.app; apply FsAt.app; apply FsAt.tail; apply FsAt.head; exact cl_rdW; apply ResL.cons; exact Res.tmp rfl; exact ResL.nil)
            · have h9 := st_sub (gs := gT ++ gl) hst (.cons _ (.append_left (.cons _ (List.Sublist.trans (List.sublist_append_left gl _) (List.sublist_append_right gs1 _))) _))
              unfold RetG
              exact ⟨_, gT ++ gl, rfl, ⟨c4, s4, m4, i4, x4, .slice none 0 0, .slice q4 l.length k4, gT, gl, rfl, rfl, hfr4, [], gl, (List.append_nil _).symm, .nil, hlv⟩, hst.bel, h9.own, h9.nd⟩
          · rintro ch fs' w' ⟨h, _⟩
            cases h
      · rintro ch fs' (⟨hk, h, rfl⟩ | ⟨_, h, _⟩)
        · cases h
          rw [beginX_no2 hR1 (by rw [hl]; exact hk)]
          (repeat (first | refine thenP ?_ | refine blkP ?_))
          refine outDP rfl fun a w2 s2 => ?_
          refine leaves_clo (K := fun e fs' => e = .returned (.tuple #[]) ∧ ∃ b1, fs' = b1 :: _) inferInstance (fun h => by cases h) (begin1_off w [] _ w2 s2.st) (fun fs h => by cases h.1) ?_ ?_
          · rintro v fs' w' ⟨_, b1, rfl⟩ hst
            refine leaves_end (vs := [frv zeroF, clv zeroC, .bool false]) (w := w') rfl s2.env hst ?_ rfl ?_
            · (apply ResL.cons; apply Res.cell; rfl; apply Known.at; apply FsAt.tail; apply FsAt.app; apply FsAt.app; apply FsAt.head; exact fr_rdW; apply ResL.cons; apply Res.cell; rfl; apply Known.at; apply FsAt.tail; apply FsAt.app; apply FsAt.app; apply FsAt.tail; apply FsAt.head; exact cl_rdW; apply ResL.cons; exact Res.tmp rfl; exact ResL.nil)
            · unfold RetG; exact ⟨_, [], rfl, ⟨rfl, rfl⟩, hst.bel, (fun p hp => by cases hp), .nil⟩
          · rintro ch fs' w' ⟨h, _⟩
            cases h
        · cases h
    · rintro ch fs' (⟨hR, h, rfl⟩ | ⟨_, _, _, _, _, _, _, _, _, _, _, h, _⟩)
      · cases h
        rw [beginX_no1 hR]
        (repeat (first | refine thenP ?_ | refine blkP ?_))
        refine outDP rfl fun a w2 s2 => ?_
        refine leaves_clo (K := fun e fs' => e = .returned (.tuple #[]) ∧ ∃ b1, fs' = b1 :: _) inferInstance (fun h => by cases h) (begin1_off w [] _ w2 s2.st) (fun fs h => by cases h.1) ?_ ?_
        · rintro v fs' w' ⟨_, b1, rfl⟩ hst
          refine leaves_end (vs := [frv zeroF, clv zeroC, .bool false]) (w := w') rfl s2.env hst ?_ rfl ?_
          · (apply ResL.cons; apply Res.cell; rfl; apply Known.at; apply FsAt.tail; apply FsAt.head; exact fr_rdW; apply ResL.cons; apply Res.cell; rfl; apply Known.at; apply FsAt.tail; apply FsAt.tail; apply FsAt.head; exact cl_rdW; apply ResL.cons; exact Res.tmp rfl; exact ResL.nil)
          · unfold RetG; exact ⟨_, [], rfl, ⟨rfl, rfl⟩, hst.bel, (fun p hp => by cases hp), .nil⟩
        · rintro ch fs' w' ⟨h, _⟩
          cases h
      · cases h
  · rintro ch fs' ⟨h, _⟩
    cases h
end Go.Proofs.YtpgdnfgjbhdbpaaGreatDoor

/-
  What is begun of whatever a frame asks for, and what comes of it.
  Conditions: none.
-/
namespace Go.Proofs.YtpgdnfgjbhdbpaaGreatDoor
open Go Go.RowKit SL
open SK (TurnAt NumAt)
set_option maxRecDepth 8000
set_option maxHeartbeats 4000000
set_option linter.unusedSimpArgs false
set_option linter.unusedVariables false
attribute [local irreducible] SL.CW SL.LW SL.DW Calls SL.Ret SL.RetG SL.beginQ SL.roundQ SL.rangeQ SL.inQ SL.RW SL.AnyW SL.thenQ SL.thenC SL.thenW SL.blkQ SL.finQ SL.ValP SL.NewP SL.SetP SL.CallP SL.Rd SL.Wr SL.Known
theorem RetG.imp {w : World} {S : List Nat} {Φ Ψ : Value → Fs → Prop} {e : Ending} {w' : World} (hi : ∀ v gs, Φ v gs → Ψ v gs) (h : RetG w S Φ e w') : RetG w S Ψ e w' := by
  unfold RetG at h ⊢
  obtain ⟨v, gs, h1, h2, h3⟩ := h
  exact ⟨v, gs, h1, hi _ _ h2, h3⟩
theorem Begin_calls (f : FrV) (L : FrL) (A : AkV) (ws : List Nat) (hM : ∀ x ∈ ws, x < M256) (hd : ∃ p n c, A.dt = .slice p n c) (hsf : f.self < 18446744073709551616) (w : World) (hf : FrRows w f L) (hv : RowAt w 4 A.ws ws.length (wcs ws)) (hT : TurnAt w) (hN : NumAt w) :
    Calls Tryz.prog 26 #[frv f, .agg (aska A.kind A.op A.ws A.dt), .agg #[.bool A.cold, .bool A.vl, .bool A.new]] w (RetG w [] (BegA f (beginA f L A ws))) := by
  by_cases hq : askB A.kind A.op ws.length = true ∧ okF f L
  · have hb : beginA f L A ws = if A.op = 245 then beginX f L ws else (beginG f L A ws).map fun x => (x.1, x.2.1, ⟨x.2.2.1, []⟩, x.2.2.2) := if_pos hq
    rw [hb]
    by_cases he : A.op = 245
    · rw [if_pos he]
      exact BeginX_calls f L A ws hM hd hq.1 he hq.2 hsf w hf hv hT hN
    · rw [if_neg he]
      refine Calls.mono (BeginC_calls f L A ws hM hd hq.1 he hq.2 w hf hv) fun e w' h => RetG.imp (fun v gs h => ?_) h
      cases hR : beginG f L A ws with
      | none => rw [hR] at h; exact h
      | some x =>
        obtain ⟨g, L', l, c⟩ := x
        rw [hR] at h
        obtain ⟨cc, s, m, i, b, lv, g1, g2, hv, hg, h1, h2⟩ := h
        have hc : c.code = .slice none 0 0 := by
          unfold beginG at hR
          dsimp only at hR
          split at hR
          · cases hR
          · split at hR
            · cases hR
            · split at hR
              · cases hR
                exact (whoC_nil f A.op ws).1
              · cases hR
        refine ⟨cc, s, m, i, b, lv, .slice none 0 0, g1, g2, ?_, hg, h1, g2, [], rfl, h2, .nil⟩
        rw [hv, ← hc]
  · have hb : beginA f L A ws = none := if_neg hq
    rw [hb]
    refine Calls.mono (Begin_bad f L A ws hd (by
      rcases Decidable.not_and_iff_or_not.1 hq with h | h
      · exact .inl (by simpa using h)
      · exact .inr h) w hf hv) fun e w' h => RetG.imp (fun v gs h => h) h
end Go.Proofs.YtpgdnfgjbhdbpaaGreatDoor

/-
  What is begun may be; gas is left.
  Conditions: none.
-/
namespace Go.Proofs.YtpgdnfgjbhdbpaaGreatDoor
open Go Go.RowKit SL
set_option linter.unusedVariables false
theorem whoC_op (f : FrV) (op : Nat) (ws : List Nat) : (whoC f op ws).op = op := by
  unfold whoC
  split <;> rfl
theorem whoC_mv {f : FrV} {op : Nat} {ws : List Nat} (h : (shq op).2.2.2.2.2 = true) (hm : (whoC f op ws).mv = true) : op = 241 ∨ op = 245 := by
  unfold whoC at hm
  split at hm
  · cases hm
  · rename_i h4
    rcases shq_ok h with ⟨ho, hs⟩ | ⟨ho, hs⟩ | ⟨ho, hs⟩
    · exact .inl ho
    · rw [hs] at hm
      simp [wordI] at hm
    · exact .inr ho
theorem reach_range {f : FrV} {L L' : FrL} {a n g : Nat} (h : okF f L) (hr : reachG f.gas L a n = some (g, L')) : g ≤ f.gas ∧ L'.ms.length ≤ 1024 ∧ L'.ws = L.ws ∧ (0 < n → a + n ≤ 1024 ∧ a + n ≤ L'.ms.length) := by
  have hok := okF_reach (c := f.code) (s := f.stk) (m := f.mem) (i := f.inp) (b := f.back) h hr
  obtain ⟨hc, rfl, rfl⟩ := reachG_some hr
  have hE := memV_le h.2.2.2.1.2.1 h.1.2.2 hc
  refine ⟨Nat.sub_le _ _, hok.2.2.2.1.2.1, rfl, fun h0 => ?_⟩
  obtain ⟨h1, h2, _⟩ := reach_bounds h.2.2.2.1 h0 hE
  exact ⟨h1, h2⟩
/-- What is known of what is begun. -/
structure BegP (f : FrV) (L : FrL) (A : AkV) (g : Nat) (L' : FrL) (M : ClL) (c : ClV) : Prop where
  fr : ∀ cc s m i b, okF (f.rowsG g cc s m i b) L'
  cl : okC c M
  op : c.op = A.op
  mv : c.mv = true → A.op = 241 ∨ A.op = 245
  stip : A.op = 241 → c.mv = true → 230 ≤ c.gas
  left : g + (if A.op = 241 ∧ c.mv = true then c.gas - 230 else c.gas) ≤ f.gas
  all : g + c.gas ≤ f.gas
  part : (if A.op = 241 ∧ c.mv = true then c.gas - 230 else c.gas) ≤ keepV (g + (if A.op = 241 ∧ c.mv = true then c.gas - 230 else c.gas))
  keep : (g + (if A.op = 241 ∧ c.mv = true then c.gas - 230 else c.gas)) / 64 ≤ g
theorem beginG_P {f : FrV} {L : FrL} {A : AkV} {ws : List Nat} {g : Nat} {L' : FrL} {l : List UInt8} {c : ClV} (hask : askB A.kind A.op ws.length = true) (hF : okF f L) (hne : ¬ A.op = 245) (h : beginG f L A ws = some (g, L', l, c)) : BegP f L A g L' ⟨l, []⟩ c := by
  have hq0 := hask
  unfold askB at hq0
  rw [Bool.and_eq_true, Bool.and_eq_true, decide_eq_true_eq, decide_eq_true_eq] at hq0
  obtain ⟨hq1, hq2, hq3⟩ := hq0
  obtain ⟨hw7, hw0, i, j, hqi, hqj, hi, hj⟩ := shq_ij hne hq1 hq3
  unfold beginG at h
  dsimp only at h
  rw [hqi, hqj] at h
  cases hR1 : reachG f.gas L (wordI ws (i : Int)) (wordI ws ((i : Int) + 1)) with
  | none => rw [hR1] at h; cases h
  | some x =>
    obtain ⟨g1, L1⟩ := x
    rw [hR1] at h
    dsimp only at h
    cases hR2 : reachG g1 L1 (wordI ws (j : Int)) (wordI ws ((j : Int) + 1)) with
    | none => rw [hR2] at h; cases h
    | some y =>
      obtain ⟨g2, L2⟩ := y
      rw [hR2] at h
      dsimp only at h
      have hF1 := okF_reach (c := f.code) (s := f.stk) (m := f.mem) (i := f.inp) (b := f.back) hF hR1
      have hF2 := fun (cc s m i b : Value) => okF_reach (c := cc) (s := s) (m := m) (i := i) (b := b) hF1 hR2
      obtain ⟨r1, r2, r3, r4⟩ := reach_range hF hR1
      obtain ⟨s1, s2, s3, s4⟩ := reach_range hF1 hR2
      have s1' : g2 ≤ g1 := s1
      have hg2 : g2 ≤ 20000 := by have := hF.1.2.2; omega
      have hmv := fun h => whoC_mv (f := f) (ws := ws) hq1 h
      have hop := whoC_op f A.op ws
      have hco : A.op = 241 ∨ A.op = 244 ∨ A.op = 250 := by
        rcases shq_ok hq1 with ⟨ho, _⟩ | ⟨ho, _⟩ | ⟨ho, _⟩
        · exact .inl ho
        · exact .inr ho
        · exact absurd ho hne
      generalize whoC f A.op ws = c0 at h hmv hop
      obtain ⟨k, hk⟩ : ∃ k, callV A.cold c0.mv A.new = k := ⟨_, rfl⟩
      rw [hk] at h
      have hk9 : c0.mv = true → 910 ≤ k := fun h => by
        rw [← hk, h]
        unfold callV
        cases A.cold <;> cases A.new <;> decide
      split at h
      · rename_i hkg
        cases h
        obtain ⟨q, hq⟩ : ∃ q, lentG g2 k (ws.getD 0 0) = q := ⟨_, rfl⟩
        have hq' : q ≤ g2 - k - (g2 - k) / 64 := by rw [← hq]; exact Nat.min_le_right _ _
        rw [hq]
        refine ⟨?_, ?_, hop, hmv, ?_, ?_, ?_, ?_, ?_⟩
        · intro cc s m i b
          obtain ⟨⟨h1, h2, h3⟩, h4⟩ := hF2 cc s m i b
          exact ⟨⟨h1, h2, by show g2 - k - q ≤ 20000; omega⟩, h4⟩
        · refine ⟨?_, ⟨?_, ?_, ?_⟩, ⟨?_, ?_, ?_⟩, ?_, ?_⟩
          · show c0.op = 241 ∨ _
            rw [hop]
            omega
          · show q + (if c0.mv then 230 else 0) ≤ 20000
            split
            · have := hk9 (by assumption); omega
            · omega
          · show ((L1.ms.drop _).take _).length ≤ 1024
            rw [List.length_take, List.length_drop]
            omega
          · exact Nat.zero_le _
          · show wordI ws ((j : Int) + 1) ≤ 1024
            rcases Nat.eq_zero_or_pos (wordI ws ((j : Int) + 1)) with h0 | h0
            · omega
            · have := s4 h0; omega
          · show (if wordI ws ((j : Int) + 1) = 0 then 0 else wordI ws (j : Int)) + wordI ws ((j : Int) + 1) ≤ 1024
            rcases Nat.eq_zero_or_pos (wordI ws ((j : Int) + 1)) with h0 | h0
            · rw [if_pos h0]; omega
            · rw [if_neg (by omega)]; have := s4 h0; omega
          · show 0 < wordI ws ((j : Int) + 1) ∨ (if wordI ws ((j : Int) + 1) = 0 then 0 else wordI ws (j : Int)) = 0
            rcases Nat.eq_zero_or_pos (wordI ws ((j : Int) + 1)) with h0 | h0
            · exact .inr (if_pos h0)
            · exact .inl h0
          · intro h5
            exact absurd (hop.symm.trans h5) hne
          · intro _
            rfl
        all_goals dsimp only
        · intro _ hm
          rw [hm]
          exact Nat.le_add_left _ _
        all_goals (cases hm : c0.mv with
          | true =>
            have h9 := hk9 hm
            have hop2 := hmv hm
            have h41 : A.op = 241 := by omega
            simp only [h41, and_self, if_true, keepV]
            omega
          | false =>
            simp only [Bool.false_eq_true, and_false, if_false, keepV]
            omega)
      · cases h
theorem beginX_P {f : FrV} {L : FrL} {A : AkV} {ws : List Nat} {g : Nat} {L' : FrL} {M : ClL} {c : ClV} (hF : okF f L) (he : A.op = 245) (h : beginX f L ws = some (g, L', M, c)) : BegP f L A g L' M c := by
  unfold beginX at h
  cases hR1 : reachG f.gas L (wordI ws 1) (wordI ws 2) with
  | none => rw [hR1] at h; cases h
  | some x =>
    obtain ⟨g1, L1⟩ := x
    rw [hR1] at h
    dsimp only at h
    generalize (L1.ms.drop (wordI ws 1)).take (wordI ws 2) = l at h
    obtain ⟨r1, r2, r3, r4⟩ := reach_range hF hR1
    have hF1 := fun (cc s m i b : Value) => okF_reach (c := cc) (s := s) (m := m) (i := i) (b := b) hF hR1
    have hg1 : g1 ≤ 20000 := by have := hF.1.2.2; omega
    split at h
    · rename_i hk
      cases h
      obtain ⟨k, hk2⟩ : ∃ k, creV l.length = k := ⟨_, rfl⟩
      rw [hk2] at hk ⊢
      have ho := whoC_op f 245 ws
      refine ⟨?_, ?_, ?_, fun _ => .inr he, ?_, ?_, ?_, ?_, ?_⟩
      · intro cc s m i b
        obtain ⟨⟨h1, h2, h3⟩, h4⟩ := hF1 cc s m i b
        exact ⟨⟨h1, h2, by show g1 - k - _ ≤ 20000; omega⟩, h4⟩
      · refine ⟨.inr (.inr (.inl ho)), ⟨?_, Nat.zero_le _, hk.1⟩, ⟨Nat.zero_le _, Nat.zero_le _, .inr rfl⟩, fun _ => ⟨rfl, rfl⟩, fun h5 => absurd ho h5⟩
        show keepV (g1 - k) ≤ 20000
        unfold keepV
        omega
      · exact ho.trans he.symm
      · intro h5
        omega
      all_goals
        first | rw [he] | skip
        try simp only [show ¬ (245 : Nat) = 241 by decide, false_and, if_false]
        simp only [creC, keepV]
        omega
    · cases h
theorem beginA_P {f : FrV} {L : FrL} {A : AkV} {ws : List Nat} {g : Nat} {L' : FrL} {M : ClL} {c : ClV} (h : beginA f L A ws = some (g, L', M, c)) : BegP f L A g L' M c := by
  unfold beginA at h
  split at h
  · rename_i hq
    split at h
    · exact beginX_P hq.2 (by assumption) h
    · rename_i hne
      cases hG : beginG f L A ws with
      | none => rw [hG] at h; cases h
      | some x =>
        obtain ⟨g0, L0, l0, c0⟩ := x
        rw [hG] at h
        cases h
        exact beginG_P hq.1 hq.2 hne hG
  · cases h
end Go.Proofs.YtpgdnfgjbhdbpaaGreatDoor

/-
  Which calls may be, are the same, and the frames in which they begin: the law.
  Conditions: none.
-/
namespace Go.Proofs.YtpgdnfgjbhdbpaaGreatDoor
open Go Go.RowKit SL
set_option maxRecDepth 8000
set_option maxHeartbeats 4000000
set_option linter.unusedSimpArgs false
set_option linter.unusedVariables false
attribute [local irreducible] SL.CW SL.LW SL.DW Calls SL.Ret SL.RetG SL.beginQ SL.roundQ SL.rangeQ SL.inQ SL.RW SL.AnyW SL.thenQ SL.thenC SL.thenW SL.blkQ SL.finQ SL.ValP SL.NewP SL.SetP SL.CallP SL.Rd SL.Wr SL.Known
end Go.Proofs.YtpgdnfgjbhdbpaaGreatDoor

/-
  What a call's end does to a frame: the law.
  Conditions: none.
-/
namespace Go.Proofs.YtpgdnfgjbhdbpaaGreatDoor
open Go Go.RowKit SL
set_option maxRecDepth 8000
set_option maxHeartbeats 4000000
set_option linter.unusedSimpArgs false
set_option linter.unusedVariables false
attribute [local irreducible] SL.CW SL.LW SL.DW Calls SL.Ret SL.RetG SL.beginQ SL.roundQ SL.rangeQ SL.inQ SL.RW SL.AnyW SL.thenQ SL.thenC SL.thenW SL.blkQ SL.finQ SL.ValP SL.NewP SL.SetP SL.CallP SL.Rd SL.Wr SL.Known
theorem FrO.lie {f : FrV} {L : FrL} {gs : Fs} (h : FrO f L gs) : ∃ us : Fs, blocksN 4 (frv f) = us.map (·.1) ∧ (∀ p ∈ us, p ∈ gs) ∧ ∀ w : World, (∀ p ∈ us, w.heap[p.1]? = some p.2) → FrRows w f L := by
  have hsl := h.sl
  obtain ⟨g1, g2, g3, g4, g5, hp, h1, h2, h3, h4, h5⟩ := h
  unfold bM at h1 h3 h4 h5
  unfold wM at h2
  obtain ⟨u1, a1, b1, c1⟩ := rowU_own h1
  obtain ⟨u2, a2, b2, c2⟩ := rowU_own h2
  obtain ⟨u3, a3, b3, c3⟩ := rowU_own h3
  obtain ⟨u4, a4, b4, c4⟩ := rowU_own h4
  obtain ⟨u5, a5, b5, c5⟩ := rowU_own h5
  refine ⟨u1 ++ (u2 ++ (u3 ++ (u4 ++ u5))), ?_, fun p hq => hp.subset ?_, fun w hw => ⟨c1 w fun p h => hw p (by simp [h]), c2 w fun p h => hw p (by simp [h]), c3 w fun p h => hw p (by simp [h]), c4 w fun p h => hw p (by simp [h]), c5 w fun p h => hw p (by simp [h])⟩⟩
  · rw [blocks_frv hsl]
    simp [a1, a2, a3, a4, a5]
  · simp only [List.mem_append] at hq ⊢
    rcases hq with h | h | h | h | h
    · exact .inl (b1 p h)
    · exact .inr (.inl (b2 p h))
    · exact .inr (.inr (.inl (b3 p h)))
    · exact .inr (.inr (.inr (.inl (b4 p h))))
    · exact .inr (.inr (.inr (.inr (b5 p h))))
theorem FrRows.blocks {f : FrV} {L : FrL} {w : World} (h : FrRows w f L) : [frv f].flatMap (blocksN 4) = [f.code, f.stk, f.mem, f.inp, f.back].flatMap (blocksN 4) := by
  rw [List.flatMap_cons, blocks_frv h.sl]
  exact List.append_nil _
/-- The same frame, but for where its rows lie. -/
def LikeF (x y : FrV) : Prop := ∃ c s m i b, y = x.rows c s m i b
theorem FairR.like {x : FrV} {X : FrL} {v : Value} {gs : Fs} (h : FairR x X v gs) : ∃ y, v = frv y ∧ FrO y (fewF X) gs ∧ LikeF x y := by
  obtain ⟨c, s, m, i, b, rfl, h⟩ := h
  exact ⟨_, rfl, h, c, s, m, i, b, rfl⟩
theorem fewF_num {x : FrV} {X : FrL} (h : FrNum x X) : FrNum x (fewF X) := ⟨h.gas, h.self, h.frm, h.val, fun u hu => h.ws u (List.mem_of_mem_take hu)⟩
theorem LikeF.num {x y : FrV} {L : FrL} (h : LikeF x y) (hx : FrNum x L) : FrNum y L := by
  obtain ⟨c, s, m, i, b, rfl⟩ := h
  exact ⟨hx.gas, hx.self, hx.frm, hx.val, hx.ws⟩
theorem EndR.like {x y z : FrV} {c d e : ClV} {L : FrL} {M : ClL} {ok : Bool} {left : Nat} {l : List UInt8} {v : Value} {gs : Fs} (h : LikeF x y) (h2 : LikeF x z) (k : LikeC c d) (k2 : LikeC c e) (hs : EndR z L e M ok left l v gs) : EndR y L d M ok left l v gs := by
  obtain ⟨c, s, m, i, b, rfl⟩ := h
  obtain ⟨c2, s2, m2, i2, b2, rfl⟩ := h2
  obtain ⟨i, k, rfl⟩ := k
  obtain ⟨i2, k2, rfl⟩ := k2
  exact hs
/-- Ends of calls, in a row. -/
structure OvV where
  ok : Bool
  left : Nat
  out : Value
  l : List UInt8
def ovp (x : OvV) : List Value := (ova x.ok x.left x.out).toList
structure OvsAt (w : World) (v : Value) (l : List OvV) : Prop where
  row : RowAt w 3 v l.length (l.flatMap ovp)
  at_ : ∀ x ∈ l, RowAt w 1 x.out x.l.length (ucs x.l) ∧ x.left < 18446744073709551616
theorem ov_wr2 {P : Program} {T E : TypeId} {ok : Bool} {left n c : Nat} {out z : Value} {p : Option Addr} [InfoI P T 1 z] : Wr P T (.cells (ova ok left out) E (0, 0)) (0 + 2) (.slice p n c) (.cells (ova ok left (.slice p n c)) E (0, 0)) := Wr.cells (n := 1) (z := z) rfl rfl (by show 0 + 2 + 1 ≤ 3; omega) rfl
end Go.Proofs.YtpgdnfgjbhdbpaaGreatDoor

/-
  What is asked for, in memory of its own.
  Conditions: none.
-/
namespace Go.Proofs.YtpgdnfgjbhdbpaaGreatDoor
open Go Go.RowKit SL
set_option maxRecDepth 8000
set_option maxHeartbeats 4000000
set_option linter.unusedSimpArgs false
set_option linter.unusedVariables false
attribute [local irreducible] SL.CW SL.LW SL.DW Calls SL.Ret SL.RetG SL.beginQ SL.roundQ SL.rangeQ SL.inQ SL.RW SL.AnyW SL.thenQ SL.thenC SL.thenW SL.blkQ SL.finQ SL.ValP SL.NewP SL.SetP SL.CallP SL.Rd SL.Wr SL.Known
structure AkA where
  kind : Int
  op : Nat
  ws : Value
  l : List Nat
  dt : Value
def akp (a : AkA) : List Value := (aska a.kind a.op a.ws a.dt).toList
structure AkAt (w : World) (a : AkA) : Prop where
  row : RowAt w 4 a.ws a.l.length (wcs a.l)
  dt : ∃ d : List UInt8, RowAt w 1 a.dt d.length (ucs d)
  lt : ∀ x ∈ a.l, x < M256
structure AksAt (w : World) (v : Value) (l : List AkA) : Prop where
  row : RowAt w 4 v l.length (l.flatMap akp)
  at_ : ∀ x ∈ l, AkAt w x
theorem AkAt.bel {w0 w : World} {a : AkA} (h : AkAt w0 a) (hb : Bel w0.heap.size [] w0 w) : AkAt w a := ⟨h.row.bel hb, h.dt.imp fun _ hd => hd.bel hb, h.lt⟩
def AskedR (a : AkA) (v : Value) (gs : Fs) : Prop := ∃ u, v = .agg (aska a.kind a.op u (.slice none 0 0)) ∧ wM (a.l.take 9) u gs
theorem ask_cells {kind : Int} {op : Nat} {u d : Value} (h : ∃ p n c, u = .slice p n c) (h2 : ∃ p n c, d = .slice p n c) : (aska kind op u d).toList.all Value.oneCell' = true := by
  obtain ⟨p, n, c, rfl⟩ := h
  obtain ⟨p, n, c, rfl⟩ := h2
  rfl
theorem ask_wrW {P : Program} {T E : TypeId} {kind : Int} {op : Nat} {u d z : Value} {cs : Array Value} [InfoI P T 4 z] (h : cs.size = 4) (h1 : ∃ p n c, u = .slice p n c) (h2 : ∃ p n c, d = .slice p n c) : Wr P T (.cells cs E (0, 0)) 0 (.agg (aska kind op u d)) (.cells (aska kind op u d) E (0, 0)) := Wr.whole h rfl (ask_cells h1 h2)
theorem ask_blocks {w : World} {a : AkA} (h : AkAt w a) : [Value.agg (aska a.kind a.op a.ws a.dt)].flatMap (blocksN 4) = [a.ws, a.dt].flatMap (blocksN 4) := by
  obtain ⟨p, c, e1, _, _⟩ := h.row.form
  obtain ⟨dl, hdt⟩ := h.dt
  obtain ⟨p2, c2, e2, _, _⟩ := hdt.form
  rw [e1, e2]
  simp [aska, blocksN]
  rw [blocks_sl ⟨_, _, _, rfl⟩, blocks_sl ⟨_, _, _, rfl⟩]
theorem asked_calls (a : AkA) (w : World) (h : AkAt w a) : Calls Tryz.prog 25 #[.agg (aska a.kind a.op a.ws a.dt)] w (RetG w [] (AskedR a)) := by
  obtain ⟨kind, op, u, l, d⟩ := a
  obtain ⟨hr, ⟨dl, hdt⟩, hlt⟩ := h
  dsimp only at hr hlt hdt
  obtain ⟨q, kd, rfl, _, _⟩ := hdt.form
  obtain ⟨p, c, rfl, hc, hm⟩ := id hr.form
  simp only [maxLen] at hm
  have hf := row_fewW hr (k := 9) rfl
  have hl9 : (l.take 9).length ≤ 100000 := by rw [List.length_take]; omega
  refine enter (args := [_]) _ [] [] Tryz.func25 rfl Tryz.ntmps25 rfl (by simp) .nil ?_
  (refine sRz ?_; apply LW.boxA; rfl; rfl; intro _; apply LW.allocA; rfl; intro _; refine nNz ?_; refine CW.seq ?_)
  apply CW.pre
  (refine AnyW.anyM [(11, wM (l.take 9))] 12 mixed (by decide +kernel) ?_)
  ((try simp only [tsOf_cons, tsOf_nil, tsOf_app]); refine dvz (.fieldAddr rfl rfl) ?_; apply DW.loadO; rfl; rfl; rfl; exact WantT.none; rfl; apply TRead.tail; apply TRead.head; exact ancB_nil; exact ask_rd0; refine dvz (.fieldAddr rfl rfl) ?_; apply DW.loadO; rfl; rfl; rfl; exact WantT.none; rfl; apply TRead.tail; apply TRead.head; exact ancB_nil; exact ask_rd1; refine dvz (.fieldAddr rfl rfl) ?_; apply DW.loadO; rfl; rfl; rfl; exact WantT.none; rfl; apply TRead.tail; apply TRead.head; exact ancB_nil; exact ask_rd2; refine dvz (.fieldAddr rfl rfl) ?_; apply DW.loadO; rfl; rfl; rfl; exact WantT.none; rfl; apply TRead.tail; apply TRead.head; exact ancB_nil; exact ask_rd2; refine dvz (.lenR rfl inferInstance rfl) ?_; refine dvz (.minZL rfl rfl (by decide)) ?_; refine dvz (.cutTo inferInstance inferInstance rfl rfl (by omega)) ?_)
  (apply DW.manyV; rfl; rfl; rfl; exact WantT.none; rfl; infer_instance; exact .cons rfl .nil; apply RdV.ext; assumption; rfl; exact RdV.nil; intro w _ _)
  exact CloneW_calls _ _ w (hf.bel (by assumption)) hl9
  intro v1 g1 h1
  have h1' := h1
  unfold wM at h1'
  obtain ⟨q1, k1, rfl⟩ := h1'.form
  ((try simp only [tsOf_cons, tsOf_nil, tsOf_app]); apply DW.nil; simp only [fsOf_cons, fsOf_nil, fsOf_app, fsOf_tsOf, fsOf_new, fsOf_tag])
  (apply LW.v0; rfl; rfl; apply ValP.buildT; infer_instance; infer_instance; apply PartsOk.cons; rfl; apply PartsOk.cons; rfl; apply PartsOk.cons; rfl; exact PartsOk.nil; rfl; simp only [fillP, wrCells, Value.cells, List.getElem?_cons_zero, List.getElem?_cons_succ, List.toList_toArray, List.setIfInBounds_toArray, List.set_cons_succ, List.set_cons_zero, Nat.reduceAdd, Nat.zero_add]; rfl; apply LW.store; rfl; rfl; apply SetAt.app; apply SetAt.head; apply ask_wrW; rfl; exact ⟨_, _, _, rfl⟩; exact ⟨_, _, _, rfl⟩; refine nNz ?_; refine CW.ret ?_)
  exact fin (vs := [.agg (aska kind op (.slice q1 (l.take 9).length k1) (.slice none 0 0))]) g1 (.inl rfl) rfl rfl (by (apply ResL.cons; apply Res.cell; rfl; apply Known.at; apply FsAt.app; apply FsAt.head; exact ask_rdW; exact ResL.nil)) (List.sublist_append_left _ _) ⟨_, rfl, h1⟩
end Go.Proofs.YtpgdnfgjbhdbpaaGreatDoor

/-
  What is begun: memory, the answer's place.
  Conditions: none.
-/
namespace Go.Proofs.YtpgdnfgjbhdbpaaGreatDoor
open Go Go.RowKit SL
set_option linter.unusedVariables false
/-- What is the same in a frame that has begun something. -/
structure BegM (f : FrV) (L : FrL) (L' : FrL) (c : ClV) : Prop where
  ok : okF f L
  ws : L'.ws = L.ws
  cl : L'.cl = L.cl
  il : L'.il = L.il
  bl : L'.bl = L.bl
  ms : ∃ k, L'.ms = L.ms ++ List.replicate k 0
  at_ : c.pl + c.n ≤ L'.ms.length
theorem reach_mem {L L' : FrL} {a n g g' : Nat} (hr : reachG g L a n = some (g', L')) : L'.ws = L.ws ∧ L'.cl = L.cl ∧ L'.il = L.il ∧ L'.bl = L.bl ∧ ∃ k, L'.ms = L.ms ++ List.replicate k 0 := by
  obtain ⟨_, _, rfl⟩ := reachG_some hr
  exact ⟨rfl, rfl, rfl, rfl, _, rfl⟩
theorem beginG_M {f : FrV} {L : FrL} {A : AkV} {ws : List Nat} {g : Nat} {L' : FrL} {l : List UInt8} {c : ClV} (hask : askB A.kind A.op ws.length = true) (hF : okF f L) (hne : ¬ A.op = 245) (h : beginG f L A ws = some (g, L', l, c)) : BegM f L L' c := by
  have hq0 := hask
  unfold askB at hq0
  rw [Bool.and_eq_true, Bool.and_eq_true, decide_eq_true_eq, decide_eq_true_eq] at hq0
  obtain ⟨hq1, hq2, hq3⟩ := hq0
  obtain ⟨hw7, hw0, i, j, hqi, hqj, hi, hj⟩ := shq_ij hne hq1 hq3
  unfold beginG at h
  dsimp only at h
  rw [hqi, hqj] at h
  cases hR1 : reachG f.gas L (wordI ws (i : Int)) (wordI ws ((i : Int) + 1)) with
  | none => rw [hR1] at h; cases h
  | some x =>
    obtain ⟨g1, L1⟩ := x
    rw [hR1] at h
    dsimp only at h
    cases hR2 : reachG g1 L1 (wordI ws (j : Int)) (wordI ws ((j : Int) + 1)) with
    | none => rw [hR2] at h; cases h
    | some y =>
      obtain ⟨g2, L2⟩ := y
      rw [hR2] at h
      dsimp only at h
      have hF1 := okF_reach (c := f.code) (s := f.stk) (m := f.mem) (i := f.inp) (b := f.back) hF hR1
      obtain ⟨s1, s2, s3, s4⟩ := reach_range hF1 hR2
      obtain ⟨m1, m2, m3, m4, k1, m5⟩ := reach_mem hR1
      obtain ⟨n1, n2, n3, n4, k2, n5⟩ := reach_mem hR2
      split at h
      · cases h
        refine ⟨hF, n1.trans m1, n2.trans m2, n3.trans m3, n4.trans m4, ⟨k1 + k2, ?_⟩, ?_⟩
        · rw [n5, m5, List.append_assoc, List.replicate_append_replicate]
        · show (if wordI ws ((j : Int) + 1) = 0 then 0 else wordI ws (j : Int)) + wordI ws ((j : Int) + 1) ≤ _
          rcases Nat.eq_zero_or_pos (wordI ws ((j : Int) + 1)) with h0 | h0
          · rw [if_pos h0]; omega
          · rw [if_neg (by omega)]; exact (s4 h0).2
      · cases h
theorem beginX_M {f : FrV} {L : FrL} {ws : List Nat} {g : Nat} {L' : FrL} {M : ClL} {c : ClV} (hF : okF f L) (h : beginX f L ws = some (g, L', M, c)) : BegM f L L' c := by
  unfold beginX at h
  cases hR1 : reachG f.gas L (wordI ws 1) (wordI ws 2) with
  | none => rw [hR1] at h; cases h
  | some x =>
    obtain ⟨g1, L1⟩ := x
    rw [hR1] at h
    dsimp only at h
    obtain ⟨m1, m2, m3, m4, k1, m5⟩ := reach_mem hR1
    split at h
    · cases h
      exact ⟨hF, m1, m2, m3, m4, ⟨k1, m5⟩, Nat.zero_le _⟩
    · cases h
theorem beginA_M {f : FrV} {L : FrL} {A : AkV} {ws : List Nat} {g : Nat} {L' : FrL} {M : ClL} {c : ClV} (h : beginA f L A ws = some (g, L', M, c)) : BegM f L L' c := by
  unfold beginA at h
  split at h
  · rename_i hq
    split at h
    · exact beginX_M hq.2 h
    · rename_i hne
      cases hG : beginG f L A ws with
      | none => rw [hG] at h; cases h
      | some x =>
        obtain ⟨g0, L0, l0, c0⟩ := x
        rw [hG] at h
        cases h
        exact beginG_M hq.1 hq.2 hne hG
  · cases h
/-! ### Bytes that were laid over others -/
theorem overL_in {ms X : List UInt8} {p k : Nat} (h : p + X.length ≤ ms.length) (hk : k < X.length) : (overL ms p X)[p + k]? = X[k]? := by
  unfold overL
  have h1 : (ms.take p).length = p := by rw [List.length_take]; omega
  rw [List.getElem?_append_right (by omega), h1, Nat.add_sub_cancel_left, List.getElem?_append_left hk]
theorem overL_out {ms X : List UInt8} {p i : Nat} (h : p + X.length ≤ ms.length) (hi : i < p ∨ p + X.length ≤ i) : (overL ms p X)[i]? = ms[i]? := by
  unfold overL
  have h1 : (ms.take p).length = p := by rw [List.length_take]; omega
  rcases hi with hi | hi
  · rw [List.getElem?_append_left (by omega), List.getElem?_take_of_lt hi]
  · rw [List.getElem?_append_right (by omega), h1, List.getElem?_append_right (by omega), List.getElem?_drop]
    congr 1
    omega
/-- The end of what was begun may come, but for a stack that is full. -/
theorem begun_ends {f : FrV} {L : FrL} {A : AkV} {g : Nat} {L' : FrL} {M : ClL} {c : ClV} {left : Nat} {l : List UInt8} {cc s m i b iv kv : Value} (hP : BegP f L A g L' M c) (hB : BegM f L L' c) (hl : left ≤ c.gas) (hn : l.length ≤ 1024) : okE (f.rowsG g cc s m i b) L' { c with inp := iv, code := kv } M left l ↔ L.ws.length < 64 := by
  unfold okE
  have h1 := hP.all
  have h2 := hB.ok.1.2.2
  have h3 := hB.at_
  constructor
  · rintro ⟨_, _, _, h⟩
    rw [hB.ws] at h
    exact h
  · intro h
    exact ⟨hP.fr cc s m i b, hP.cl, ⟨hl, hn, by show g + left ≤ 20000; omega, h3⟩, by rw [hB.ws]; exact h⟩
theorem begun_ended {f : FrV} {L : FrL} {A : AkV} {g : Nat} {L' : FrL} {M : ClL} {c : ClV} {ok : Bool} {left : Nat} {l : List UInt8} {cc s m i b : Value} (hP : BegP f L A g L' M c) (hB : BegM f L L' c) (hl : left ≤ c.gas) (hn : l.length ≤ 1024) (h64 : L.ws.length < 64) : okF (f.rowsG (g + left) cc s m i b) (endL L' c ok l) := by
  obtain ⟨⟨h1, h2, h3⟩, h4, h5, ⟨k1, k2, k3⟩, h6⟩ := hP.fr cc s m i b
  have p1 := hP.all
  have p2 := hB.ok.1.2.2
  have h7 := hB.at_
  have ho : (endL L' c ok l).ms.length = L'.ms.length := by
    show (overL L'.ms c.pl (l.take c.n)).length = _
    refine over_len ?_
    rw [List.length_take]
    omega
  have hw : (endL L' c ok l).ws.length = L.ws.length + 1 := by
    show (L'.ws ++ [laidW c ok]).length = _
    rw [hB.ws, List.length_append]
    rfl
  refine ⟨⟨h1, ?_, by show g + left ≤ 20000; omega⟩, h4, h5, ⟨?_, ?_, ?_⟩, h6⟩
  · show (if c.op = 245 ∧ ok = true then ([] : List UInt8) else l).length ≤ 1024
    split
    · exact Nat.zero_le _
    · exact hn
  · rw [hw]; omega
  · rw [ho]; exact k2
  · rw [ho]; exact k3
end Go.Proofs.YtpgdnfgjbhdbpaaGreatDoor
