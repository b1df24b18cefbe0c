/-
  Texts that were built apart, put behind one another (6 of 6): UI UK UJ UO Smn Smo UP.
  Conditions: none.
-/
import Derived.Test.YtobkhnmglbfheaaZ5
import Derived.Laws.StructEq
import Derived.Sort.QuietThIn
/-
  What operations may cost, and their factories.
  Conditions: none.
-/
namespace Go.Proofs.Ytobkhnmglbfheaa
open Go Go.RowKit SL
set_option maxRecDepth 8000
set_option maxHeartbeats 4000000
set_option linter.unusedSimpArgs false
set_option linter.unusedVariables false
attribute [local irreducible] SL.CW SL.LW SL.DW Calls SL.Ret SL.RetG SL.beginQ SL.roundQ SL.rangeQ SL.inQ SL.RW SL.AnyW SL.thenQ SL.thenC SL.thenW SL.blkQ SL.finQ SL.ValP SL.NewP SL.SetP SL.CallP SL.Rd SL.Wr SL.Known
def gasU (u : OpV) : Nat := u.vg + u.cg + u.pg + u.pv + u.pp
theorem gasU_le {u : OpV} (h : okU u) : gasU u ≤ 100000 := by
  unfold okU at h
  obtain ⟨-, ⟨h1, h2, h3, h4, h5⟩, -⟩ := h
  unfold gasU
  omega
theorem gas_mod {u : OpV} (h : okU u) : ((((u.vg + u.cg) % 18446744073709551616 + u.pg) % 18446744073709551616 + u.pv) % 18446744073709551616 + u.pp) % 18446744073709551616 = gasU u := by
  unfold okU at h
  obtain ⟨-, ⟨h1, h2, h3, h4, h5⟩, -⟩ := h
  unfold gasU
  omega
theorem pre_lt {u : OpV} (h : okU u) (hm : u.mf < 18446744073709551616) : gasU u * u.mf < M256 := by
  have h1 := gasU_le h
  refine Nat.lt_of_le_of_lt (Nat.mul_le_mul h1 (Nat.le_of_lt hm)) ?_
  decide
theorem Prefund_calls (u : OpV) (w : World) (hu : OpAt w u) : Calls Try.prog 24 #[.agg (opa u)] w (Ret w (.tuple #[wv (if okU u then gasU u * u.mf else 0), .int .i64 (if okU u then 0 else 280)])) := by
  have hmf := hu.num.mf
  have hCk0 : ∀ w' {fs}, St w [] fs w' → Calls Try.prog 17 #[.agg (opa u)] w' (Ret w' (.int .i64 (if okU u then 0 else 280))) := fun w' fs hst => Check_u_calls u w' (hu.st hst)
  by_cases ho : okU u
  · have hMul : ∀ w, Calls Try.prog 30 #[wv (gasU u), wv u.mf] w (Ret w (.tuple #[wv (gasU u * u.mf), .bool (decide (M256 ≤ gasU u * u.mf))])) := fun w => by
      have hg := gasU_le ho
      have h64 : (18446744073709551616 : Nat) < M256 := by decide
      have := Mul_calls (gasU u) u.mf (by omega) (by omega) w
      rwa [Nat.mod_eq_of_lt (pre_lt ho hmf)] at this
    have hOf : ∀ w, Calls Try.prog 31 #[.int .u64 (((((((u.vg + u.cg) % 18446744073709551616 + u.pg) % 18446744073709551616 + u.pv) % 18446744073709551616 + u.pp) % 18446744073709551616 : Nat)) : Int)] w (Ret w (wv (gasU u))) := fun w => by
      rw [gas_mod ho]
      exact Of_calls (gasU u) (by have := gasU_le ho; omega) w
    have hCk := hCk0
    rw [if_pos ho] at hCk
    rw [if_pos ho, if_pos ho]
    refine enter (args := [_]) _ [] [] Try.func24 rfl Try.ntmps24 rfl (by simp) .nil ?_
    (refine CW.seq ?_; refine CW.region ?_; apply LW.boxA; rfl; rfl; intro _; apply LW.allocW; rfl; intro _; apply LW.v0; rfl; rfl; apply ValP.assign; rfl; apply LW.nil; refine thenN ?_; refine CW.seq ?_; refine CW.seq ?_; refine CW.region ?_; apply LW.load; rfl; rfl; apply Known.at; apply FsAt.tail; apply FsAt.head; exact Rd.whole rfl; apply LW.callE; rfl; rfl; infer_instance; apply ArgsOk.cons; rfl; exact ArgsOk.nil; intro w _; exact hCk w (by assumption); apply LW.v0; rfl; rfl; apply ValP.assign; rfl; apply LW.nil; refine thenN ?_; refine CW.seq ?_; refine CW.region ?_; apply LW.v0; rfl; rfl; apply ValP.move; rfl; apply LW.v0; rfl; rfl; apply ValP.neF; rfl; rfl; omega; apply LW.nil; refine thenN ?_; apply CW.condF; rfl; (with_reducible rfl); refine CW.skip ?_; refine thenN ?_; refine CW.seq ?_; apply CW.pre; refine AnyW.any 24 mixed (by decide +kernel) ?_; (try simp only [tsOf_cons, tsOf_nil, tsOf_app]); apply DW.v0; rfl; rfl; rfl; exact WantT.none; rfl; apply ValP.fieldAddr; rfl; rfl; apply DW.loadO; rfl; rfl; rfl; exact WantT.none; rfl; apply TRead.tail; apply TRead.head; exact ancB_nil; exact op_rd7; apply DW.v0; rfl; rfl; rfl; exact WantT.none; rfl; apply ValP.fieldAddr; rfl; rfl; apply DW.loadO; rfl; rfl; rfl; exact WantT.none; rfl; apply TRead.tail; apply TRead.head; exact ancB_nil; exact op_rd8; apply DW.v0; rfl; rfl; rfl; exact WantT.none; rfl; apply ValP.addN; rfl; rfl; apply DW.v0; rfl; rfl; rfl; exact WantT.none; rfl; apply ValP.fieldAddr; rfl; rfl; apply DW.loadO; rfl; rfl; rfl; exact WantT.none; rfl; apply TRead.tail; apply TRead.head; exact ancB_nil; exact op_rd9; apply DW.v0; rfl; rfl; rfl; exact WantT.none; rfl; apply ValP.addN; rfl; rfl; apply DW.v0; rfl; rfl; rfl; exact WantT.none; rfl; apply ValP.fieldAddr; rfl; rfl; apply DW.loadO; rfl; rfl; rfl; exact WantT.none; rfl; apply TRead.tail; apply TRead.head; exact ancB_nil; exact op_rd13; apply DW.v0; rfl; rfl; rfl; exact WantT.none; rfl; apply ValP.addN; rfl; rfl; apply DW.v0; rfl; rfl; rfl; exact WantT.none; rfl; apply ValP.fieldAddr; rfl; rfl; apply DW.loadO; rfl; rfl; rfl; exact WantT.none; rfl; apply TRead.tail; apply TRead.head; exact ancB_nil; exact op_rd14; apply DW.v0; rfl; rfl; rfl; exact WantT.none; rfl; apply ValP.addN; rfl; rfl; apply DW.callE; rfl; rfl; rfl; exact WantT.none; rfl; infer_instance; apply ArgsOk.cons; rfl; exact ArgsOk.nil; rfl; exact ReadAll.nil; intro w _ _; exact hOf w; apply DW.v0; rfl; rfl; rfl; exact WantT.none; rfl; apply ValP.fieldAddr; rfl; rfl; apply DW.loadO; rfl; rfl; rfl; exact WantT.none; rfl; apply TRead.tail; apply TRead.head; exact ancB_nil; exact op_rd10; apply DW.callE; rfl; rfl; rfl; exact WantT.none; rfl; infer_instance; apply ArgsOk.cons; rfl; exact ArgsOk.nil; rfl; exact ReadAll.nil; intro w _ _; exact Of_calls u.mf hmf w; apply DW.callE; rfl; rfl; rfl; exact WantT.none; rfl; infer_instance; apply ArgsOk.cons; rfl; apply ArgsOk.cons; rfl; exact ArgsOk.nil; rfl; exact ReadAll.nil; intro w _ _; exact hMul w; apply DW.v0; rfl; rfl; rfl; exact WantT.none; rfl; apply ValP.move; rfl; apply DW.v0; rfl; rfl; rfl; exact WantT.none; rfl; apply ValP.extractN; rfl; rfl; apply DW.v0; rfl; rfl; rfl; exact WantT.none; rfl; apply ValP.extractN; rfl; rfl; apply DW.allocW; rfl; rfl; rfl; exact WantT.none; intro _; apply DW.store; rfl; rfl; exact WantT.none; rfl; rfl; apply TSet.head; kernel_rfl; exact ancB_nil; apply Wr.whole; rfl; rfl; rfl; apply DW.nil; simp only [fsOf_cons, fsOf_nil, fsOf_app, fsOf_tsOf, fsOf_new]; apply LW.v0; rfl; rfl; apply ValP.assign; rfl; apply LW.nil; refine thenN ?_; refine CW.seq ?_; refine CW.region ?_; apply LW.load; rfl; rfl; apply Known.at; apply FsAt.head; exact Rd.whole rfl; apply LW.store; rfl; rfl; apply SetAt.tail; apply SetAt.head; apply Wr.whole; rfl; rfl; rfl; apply LW.v0; rfl; rfl; apply ValP.assign; rfl; apply LW.nil; refine thenN ?_; refine CW.ret ?_)
    (apply finR; exact .inl rfl; rfl; rfl; rfl; apply ResL.cons; apply Res.cell; rfl; apply Known.at; apply FsAt.tail; apply FsAt.head; exact Rd.whole rfl; apply ResL.cons; exact Res.tmp rfl; exact ResL.nil)
    rfl
  · have hCk := hCk0
    rw [if_neg ho] at hCk
    rw [if_neg ho, if_neg ho]
    refine enter (args := [_]) _ [] [] Try.func24 rfl Try.ntmps24 rfl (by simp) .nil ?_
    (refine CW.seq ?_; refine CW.region ?_; apply LW.boxA; rfl; rfl; intro _; apply LW.allocW; rfl; intro _; apply LW.v0; rfl; rfl; apply ValP.assign; rfl; apply LW.nil; refine thenN ?_; refine CW.seq ?_; refine CW.seq ?_; refine CW.region ?_; apply LW.load; rfl; rfl; apply Known.at; apply FsAt.tail; apply FsAt.head; exact Rd.whole rfl; apply LW.callE; rfl; rfl; infer_instance; apply ArgsOk.cons; rfl; exact ArgsOk.nil; intro w _; exact hCk w (by assumption); apply LW.v0; rfl; rfl; apply ValP.assign; rfl; apply LW.nil; refine thenN ?_; refine CW.seq ?_; refine CW.region ?_; apply LW.v0; rfl; rfl; apply ValP.move; rfl; apply LW.v0; rfl; rfl; apply ValP.neT; rfl; rfl; omega; apply LW.nil; refine thenN ?_; apply CW.condT; rfl; (with_reducible rfl); refine CW.seq ?_; refine CW.region ?_; apply LW.v0; rfl; rfl; exact ValP.buildW0; apply LW.v0; rfl; rfl; apply ValP.move; rfl; apply LW.store; rfl; rfl; apply SetAt.head; apply Wr.whole; rfl; rfl; rfl; apply LW.v0; rfl; rfl; apply ValP.assign; rfl; apply LW.nil; refine thenN ?_; refine CW.ret ?_; refine thenR ?_)
    (apply finR; exact .inl rfl; rfl; rfl; rfl; apply ResL.cons; apply Res.cell; rfl; apply Known.at; apply FsAt.head; exact Rd.whole rfl; apply ResL.cons; exact Res.tmp rfl; exact ResL.nil)
    rfl
def priceU (u : OpV) (base : Nat) : Nat := min (u.mp + base) u.mf
theorem Price_calls (u : OpV) (base : Nat) (w : World) (hu : OpAt w u) (hb : base < 18446744073709551616) : Calls Try.prog 28 #[.agg (opa u), .int .u64 (base : Int)] w (Ret w (.int .u64 (priceU u base : Int))) := by
  have hmp := hu.num.mp
  have hmf := hu.num.mf
  have h64 : (36893488147419103232 : Nat) < M256 := by decide
  have hs : u.mp + base < M256 := by omega
  have hAdd : ∀ w, Calls Try.prog 47 #[wv u.mp, wv base] w (Ret w (.tuple #[wv (u.mp + base), .bool (decide (M256 ≤ u.mp + base))])) := fun w => by
    have := Add_calls u.mp base (by omega) (by omega) w
    rwa [Nat.mod_eq_of_lt hs] at this
  have hSm0 := Small_calls (u.mp + base) hs
  unfold priceU
  rcases Nat.lt_or_ge (u.mp + base) 18446744073709551616 with h | h
  · have hSm := hSm0
    rw [if_pos h, decide_eq_true h] at hSm
    refine enter (args := [_, _]) _ [] [] Try.func28 rfl Try.ntmps28 rfl (by simp) .nil ?_
    (refine CW.seq ?_; refine CW.region ?_; apply LW.boxA; rfl; rfl; intro _; apply LW.v0; rfl; rfl; apply ValP.assign; rfl; apply LW.nil; refine thenN ?_; refine CW.seq ?_; refine CW.region ?_; apply LW.v0; rfl; rfl; apply ValP.fieldAddr; rfl; rfl; apply LW.load; rfl; rfl; apply Known.at; apply FsAt.head; exact op_rd11; apply LW.callE; rfl; rfl; infer_instance; apply ArgsOk.cons; rfl; exact ArgsOk.nil; intro w _; exact Of_calls u.mp hmp w; apply LW.v0; rfl; rfl; apply ValP.move; rfl; apply LW.callE; rfl; rfl; infer_instance; apply ArgsOk.cons; rfl; exact ArgsOk.nil; intro w _; exact Of_calls base hb w; apply LW.callE; rfl; rfl; infer_instance; apply ArgsOk.cons; rfl; apply ArgsOk.cons; rfl; exact ArgsOk.nil; intro w _; exact hAdd w; apply LW.v0; rfl; rfl; apply ValP.move; rfl; apply LW.v0; rfl; rfl; apply ValP.extractN; rfl; rfl; apply LW.v0; rfl; rfl; apply ValP.extractN; rfl; rfl; apply LW.allocW; rfl; intro _; apply LW.store; rfl; rfl; apply SetAt.head; apply Wr.whole; rfl; rfl; rfl; apply LW.v0; rfl; rfl; apply ValP.assign; rfl; apply LW.nil; refine thenN ?_; refine CW.seq ?_; refine CW.seq ?_; refine CW.region ?_; apply LW.load; rfl; rfl; apply Known.at; apply FsAt.head; exact Rd.whole rfl; apply LW.callE; rfl; rfl; infer_instance; apply ArgsOk.cons; rfl; exact ArgsOk.nil; intro w _; exact hSm w; apply LW.v0; rfl; rfl; apply ValP.move; rfl; apply LW.v0; rfl; rfl; apply ValP.extractN; rfl; rfl; apply LW.v0; rfl; rfl; apply ValP.extractN; rfl; rfl; apply LW.v0; rfl; rfl; apply ValP.assign; rfl; apply LW.v0; rfl; rfl; apply ValP.assign; rfl; apply LW.nil; refine thenN ?_; refine CW.seq ?_; refine CW.region ?_; apply LW.v0; rfl; rfl; apply ValP.move; rfl; apply LW.nil; refine thenN ?_; apply CW.condT; rfl; (with_reducible rfl); refine CW.seq ?_; refine CW.region ?_; apply LW.v0; rfl; rfl; apply ValP.move; rfl; apply LW.v0; rfl; rfl; apply ValP.fieldAddr; rfl; rfl; apply LW.load; rfl; rfl; apply Known.at; apply FsAt.tail; apply FsAt.head; exact op_rd10; apply LW.v0; rfl; rfl; apply ValP.minZ; rfl; rfl; apply LW.v0; rfl; rfl; apply ValP.assign; rfl; apply LW.nil; refine thenN ?_; refine CW.ret ?_; refine thenR ?_)
    (apply finR; exact .inl rfl; rfl; rfl; rfl; apply ResL.cons; exact Res.tmp rfl; exact ResL.nil)
    rfl
  · have hSm := hSm0
    rw [if_neg (by omega), decide_eq_false (by omega)] at hSm
    rw [Nat.min_eq_right (by omega)]
    refine enter (args := [_, _]) _ [] [] Try.func28 rfl Try.ntmps28 rfl (by simp) .nil ?_
    (refine CW.seq ?_; refine CW.region ?_; apply LW.boxA; rfl; rfl; intro _; apply LW.v0; rfl; rfl; apply ValP.assign; rfl; apply LW.nil; refine thenN ?_; refine CW.seq ?_; refine CW.region ?_; apply LW.v0; rfl; rfl; apply ValP.fieldAddr; rfl; rfl; apply LW.load; rfl; rfl; apply Known.at; apply FsAt.head; exact op_rd11; apply LW.callE; rfl; rfl; infer_instance; apply ArgsOk.cons; rfl; exact ArgsOk.nil; intro w _; exact Of_calls u.mp hmp w; apply LW.v0; rfl; rfl; apply ValP.move; rfl; apply LW.callE; rfl; rfl; infer_instance; apply ArgsOk.cons; rfl; exact ArgsOk.nil; intro w _; exact Of_calls base hb w; apply LW.callE; rfl; rfl; infer_instance; apply ArgsOk.cons; rfl; apply ArgsOk.cons; rfl; exact ArgsOk.nil; intro w _; exact hAdd w; apply LW.v0; rfl; rfl; apply ValP.move; rfl; apply LW.v0; rfl; rfl; apply ValP.extractN; rfl; rfl; apply LW.v0; rfl; rfl; apply ValP.extractN; rfl; rfl; apply LW.allocW; rfl; intro _; apply LW.store; rfl; rfl; apply SetAt.head; apply Wr.whole; rfl; rfl; rfl; apply LW.v0; rfl; rfl; apply ValP.assign; rfl; apply LW.nil; refine thenN ?_; refine CW.seq ?_; refine CW.seq ?_; refine CW.region ?_; apply LW.load; rfl; rfl; apply Known.at; apply FsAt.head; exact Rd.whole rfl; apply LW.callE; rfl; rfl; infer_instance; apply ArgsOk.cons; rfl; exact ArgsOk.nil; intro w _; exact hSm w; apply LW.v0; rfl; rfl; apply ValP.move; rfl; apply LW.v0; rfl; rfl; apply ValP.extractN; rfl; rfl; apply LW.v0; rfl; rfl; apply ValP.extractN; rfl; rfl; apply LW.v0; rfl; rfl; apply ValP.assign; rfl; apply LW.v0; rfl; rfl; apply ValP.assign; rfl; apply LW.nil; refine thenN ?_; refine CW.seq ?_; refine CW.region ?_; apply LW.v0; rfl; rfl; apply ValP.move; rfl; apply LW.nil; refine thenN ?_; apply CW.condF; rfl; (with_reducible rfl); refine CW.skip ?_; refine thenN ?_; refine CW.seq ?_; refine CW.region ?_; apply LW.v0; rfl; rfl; apply ValP.fieldAddr; rfl; rfl; apply LW.load; rfl; rfl; apply Known.at; apply FsAt.tail; apply FsAt.head; exact op_rd10; apply LW.v0; rfl; rfl; apply ValP.assign; rfl; apply LW.nil; refine thenN ?_; refine CW.ret ?_)
    (apply finR; exact .inl rfl; rfl; rfl; rfl; apply ResL.cons; exact Res.tmp rfl; exact ResL.nil)
    rfl
/-- An operation's factory, and its input. -/
def facA (u : OpV) : Nat := if okU u ∧ 0 < u.ib.length then adr u.ib else 0
def facB (u : OpV) : List UInt8 := if okU u ∧ 0 < u.ib.length then u.ib.drop 8 else []
theorem Factory_calls (u : OpV) (w : World) (hu : OpAt w u) : Calls Try.prog 26 #[.agg (opa u)] w (RetG w [] fun v gs => ∃ bv, v = .tuple #[.int .u64 (facA u : Int), bv] ∧ IsRow 5 1 bv (facB u).length (ucs (facB u)) gs) := by
  obtain ⟨p5, c5, h5, hc5, hm5⟩ := hu.i.form
  have hr5 : ∀ {E fr}, Rd Try.prog 24 (.cells (opa u) E fr) 5 (.slice p5 u.ib.length c5) := fun {E fr} => by rw [← h5]; exact op_rd5
  have hi := hu.i
  rw [h5] at hi
  have hCk0 : ∀ w' {fs}, St w [] fs w' → Calls Try.prog 17 #[.agg (opa u)] w' (Ret w' (.int .i64 (if okU u then 0 else 280))) := fun w' fs hst => Check_u_calls u w' (hu.st hst)
  unfold facA facB
  by_cases ho : okU u
  · have hCk := hCk0
    rw [if_pos ho] at hCk
    rcases Nat.eq_zero_or_pos u.ib.length with h0 | h0
    · rw [if_neg (fun h => by omega), if_neg (fun h => by omega)]
      rw [h0] at hr5
      refine enter (args := [_]) _ [] [] Try.func26 rfl Try.ntmps26 rfl (by simp) .nil ?_
      (refine CW.seq ?_; refine CW.region ?_; apply LW.boxA; rfl; rfl; intro _; apply LW.v0; rfl; rfl; apply ValP.assign; rfl; apply LW.v0; rfl; rfl; apply ValP.assign; rfl; apply LW.nil; refine thenN ?_; refine CW.seq ?_; refine CW.seq ?_; refine CW.region ?_; apply LW.load; rfl; rfl; apply Known.at; apply FsAt.head; exact Rd.whole rfl; apply LW.callE; rfl; rfl; infer_instance; apply ArgsOk.cons; rfl; exact ArgsOk.nil; intro w _; exact hCk w (by assumption); apply LW.v0; rfl; rfl; apply ValP.neF; rfl; rfl; omega; apply LW.v0; rfl; rfl; apply ValP.move; rfl; apply LW.guardT'; rfl; rfl; (with_reducible rfl); apply LW.v0; rfl; rfl; apply ValP.fieldAddr; rfl; rfl; apply LW.guardT'; rfl; rfl; (with_reducible rfl); apply LW.load; rfl; rfl; apply Known.at; apply FsAt.head; exact hr5; apply LW.guardT'; rfl; rfl; (with_reducible rfl); apply LW.v0; rfl; rfl; apply ValP.lenR; rfl; infer_instance; rfl; apply LW.guardT'; rfl; rfl; (with_reducible rfl); apply LW.v0; rfl; rfl; apply ValP.eqT; rfl; rfl; omega; apply LW.v0; rfl; rfl; apply ValP.pickF'; rfl; (with_reducible rfl); rfl; apply LW.nil; refine thenN ?_; apply CW.condT; rfl; (with_reducible rfl); refine CW.seq ?_; refine CW.region ?_; apply LW.v0; rfl; rfl; apply ValP.assign; rfl; apply LW.v0; rfl; rfl; apply ValP.assign; rfl; apply LW.nil; refine thenN ?_; refine CW.ret ?_; refine thenR ?_)
      refine fin (vs := [.int .u64 0, .slice none 0 0]) [] (.inl rfl) rfl rfl (by (apply ResL.cons; exact Res.tmp rfl; apply ResL.cons; exact Res.tmp rfl; exact ResL.nil)) (List.nil_sublist _) ⟨_, rfl, .nil⟩
    · have h8 : 8 ≤ u.ib.length ∧ u.ib.length ≤ 200 := by
        have h := ho
        unfold okU at h
        omega
      rw [if_pos ⟨ho, h0⟩, if_pos ⟨ho, h0⟩]
      have hA : ∀ w' {fs}, St w [] fs w' → Calls Try.prog 43 #[.slice p5 u.ib.length c5] w' (Ret w' (.tuple #[.int .u64 (adr u.ib : Int), .int .i64 0])) := fun w' fs hst => aRead_calls u.ib _ w' (hi.st hst) h8.1
      have hdr : ∀ w' {fs}, St w [] fs w' → RowAt w' 1 (cutAt p5 8 u.ib.length c5 1) (u.ib.drop 8).length (ucs (u.ib.drop 8)) := fun w' fs hst => by
        have := (hi.st hst).drop (k := 8) h8.1
        rw [ucs_drop] at this
        rwa [List.length_drop]
      refine enter (args := [_]) _ [] [] Try.func26 rfl Try.ntmps26 rfl (by simp) .nil ?_
      (refine CW.seq ?_; refine CW.region ?_; apply LW.boxA; rfl; rfl; intro _; apply LW.v0; rfl; rfl; apply ValP.assign; rfl; apply LW.v0; rfl; rfl; apply ValP.assign; rfl; apply LW.nil; refine thenN ?_; refine CW.seq ?_; refine CW.seq ?_; refine CW.region ?_; apply LW.load; rfl; rfl; apply Known.at; apply FsAt.head; exact Rd.whole rfl; apply LW.callE; rfl; rfl; infer_instance; apply ArgsOk.cons; rfl; exact ArgsOk.nil; intro w _; exact hCk w (by assumption); apply LW.v0; rfl; rfl; apply ValP.neF; rfl; rfl; omega; apply LW.v0; rfl; rfl; apply ValP.move; rfl; apply LW.guardT'; rfl; rfl; (with_reducible rfl); apply LW.v0; rfl; rfl; apply ValP.fieldAddr; rfl; rfl; apply LW.guardT'; rfl; rfl; (with_reducible rfl); apply LW.load; rfl; rfl; apply Known.at; apply FsAt.head; exact hr5; apply LW.guardT'; rfl; rfl; (with_reducible rfl); apply LW.v0; rfl; rfl; apply ValP.lenR; rfl; infer_instance; rfl; apply LW.guardT'; rfl; rfl; (with_reducible rfl); apply LW.v0; rfl; rfl; apply ValP.eqF; rfl; rfl; omega; apply LW.v0; rfl; rfl; apply ValP.pickF'; rfl; (with_reducible rfl); rfl; apply LW.nil; refine thenN ?_; apply CW.condF; rfl; (with_reducible rfl); refine CW.skip ?_; refine thenN ?_; refine CW.seq ?_; refine CW.region ?_; apply LW.v0; rfl; rfl; apply ValP.fieldAddr; rfl; rfl; apply LW.load; rfl; rfl; apply Known.at; apply FsAt.head; exact hr5; apply LW.callE; rfl; rfl; infer_instance; apply ArgsOk.cons; rfl; exact ArgsOk.nil; intro w _; exact hA w (by assumption); apply LW.v0; rfl; rfl; apply ValP.move; rfl; apply LW.v0; rfl; rfl; apply ValP.extractN; rfl; rfl; apply LW.v0; rfl; rfl; apply ValP.extractN; rfl; rfl; apply LW.v0; rfl; rfl; apply ValP.assign; rfl; apply LW.v0; rfl; rfl; apply ValP.assign; rfl; apply LW.nil; refine thenN ?_; refine CW.seq ?_; refine CW.region ?_; apply LW.v0; rfl; rfl; apply ValP.move; rfl; apply LW.v0; rfl; rfl; apply ValP.fieldAddr; rfl; rfl; apply LW.load; rfl; rfl; apply Known.at; apply FsAt.head; exact hr5; apply LW.v0; rfl; rfl; apply ValP.cutFromL; infer_instance; infer_instance; rfl; rfl; decide; omega)
      refine LW.callR rfl rfl inferInstance (by (apply ArgsOk.cons; rfl; exact ArgsOk.nil)) (fun w hst => Clone_calls (u.ib.drop 8) _ w (hdr w hst) (by rw [List.length_drop]; omega)) ?_
      intro bv gs hrow
      (apply LW.v0; rfl; rfl; apply ValP.assign; rfl; apply LW.v0; rfl; rfl; apply ValP.assign; rfl; apply LW.nil; refine thenN ?_; refine CW.ret ?_)
      refine fin (vs := [.int .u64 (adr u.ib : Int), bv]) gs (.inl rfl) rfl rfl (by (apply ResL.cons; exact Res.tmp rfl; apply ResL.cons; exact Res.tmp rfl; exact ResL.nil)) (List.sublist_append_left _ _) ⟨_, rfl, hrow⟩
  · have hCk := hCk0
    rw [if_neg ho] at hCk
    rw [if_neg (fun h => ho h.1), if_neg (fun h => ho h.1)]
    refine enter (args := [_]) _ [] [] Try.func26 rfl Try.ntmps26 rfl (by simp) .nil ?_
    (refine CW.seq ?_; refine CW.region ?_; apply LW.boxA; rfl; rfl; intro _; apply LW.v0; rfl; rfl; apply ValP.assign; rfl; apply LW.v0; rfl; rfl; apply ValP.assign; rfl; apply LW.nil; refine thenN ?_; refine CW.seq ?_; refine CW.seq ?_; refine CW.region ?_; apply LW.load; rfl; rfl; apply Known.at; apply FsAt.head; exact Rd.whole rfl; apply LW.callE; rfl; rfl; infer_instance; apply ArgsOk.cons; rfl; exact ArgsOk.nil; intro w _; exact hCk w (by assumption); apply LW.v0; rfl; rfl; apply ValP.neT; rfl; rfl; omega; apply LW.v0; rfl; rfl; apply ValP.move; rfl; apply LW.guardF'; rfl; rfl; simp only [Bool.not_true, Bool.not_false]; rfl; apply LW.guardF'; rfl; rfl; simp only [Bool.not_true, Bool.not_false]; rfl; apply LW.guardF'; rfl; rfl; simp only [Bool.not_true, Bool.not_false]; rfl; apply LW.guardF'; rfl; rfl; simp only [Bool.not_true, Bool.not_false]; rfl; apply LW.v0; rfl; rfl; apply ValP.pickT'; rfl; (with_reducible rfl); rfl; apply LW.nil; refine thenN ?_; apply CW.condT; rfl; (with_reducible rfl); refine CW.seq ?_; refine CW.region ?_; apply LW.v0; rfl; rfl; apply ValP.assign; rfl; apply LW.v0; rfl; rfl; apply ValP.assign; rfl; apply LW.nil; refine thenN ?_; refine CW.ret ?_; refine thenR ?_)
    refine fin (vs := [.int .u64 0, .slice none 0 0]) [] (.inl rfl) rfl rfl (by (apply ResL.cons; exact Res.tmp rfl; apply ResL.cons; exact Res.tmp rfl; exact ResL.nil)) (List.nil_sublist _) ⟨_, rfl, .nil⟩
end Go.Proofs.Ytobkhnmglbfheaa

/-
  Operations of accounts: does the layer do anything?
  Conditions: none.
-/
namespace Go.Proofs.Ytobkhnmglbfheaa
open Go Go.RowKit SL
set_option maxRecDepth 8000
set_option maxHeartbeats 4000000
set_option linter.unusedSimpArgs false
set_option linter.unusedVariables false
attribute [local irreducible] SL.CW SL.LW SL.DW Calls SL.Ret SL.RetG SL.beginQ SL.roundQ SL.rangeQ SL.inQ SL.RW SL.AnyW SL.thenQ SL.thenC SL.thenW SL.blkQ SL.finQ SL.ValP SL.NewP SL.SetP SL.CallP SL.Rd SL.Wr SL.Known
def uW : OpV := { u00 with sd := 20, vg := 100, cg := 50, pg := 30, mf := 10, mp := 2 }
def uX : OpV := { uW with mp := 11 }
theorem uW_at (w : World) : OpAt w uW := ⟨by constructor <;> decide, RowAt.nil, RowAt.nil, RowAt.nil, RowAt.nil⟩
theorem uX_at (w : World) : OpAt w uX := ⟨by constructor <;> decide, RowAt.nil, RowAt.nil, RowAt.nil, RowAt.nil⟩
theorem uW_ok : okU uW := by decide
theorem uX_no : ¬okU uX := by decide
theorem uW_len : (encB uW).length = 576 := by decide +kernel
theorem sd_of {u v : OpV} (h : opD u = opD v) : u.sd = v.sd := ((sameU_iff u v).1 ((opD_iff u v).1 h)).1.1.1
theorem wakes_u_calls (w : World) : Calls Try.prog 9 #[] w (Ret w (.bool true)) := by
  have hWx : Wr Try.prog 25 (.cells (opa uW) 30 (0, 0)) (0 + 11) (.int .u64 11) (.cells (opa uX) 30 (0, 0)) := Wr.cells (n := 1) rfl rfl (by decide) rfl
  have hslW : OpSl uW := (uW_at w).sl
  have hPre : ∀ w, Calls Try.prog 24 #[.agg (opa uW)] w (Ret w (.tuple #[wv 1800, .int .i64 0])) := fun w => by
    have := Prefund_calls uW w (uW_at w)
    rwa [if_pos uW_ok, if_pos uW_ok, show gasU uW * uW.mf = 1800 from rfl] at this
  have hCk : ∀ w, Calls Try.prog 17 #[.agg (opa uX)] w (Ret w (.int .i64 280)) := fun w => by
    have := Check_u_calls uX w (uX_at w)
    rwa [if_neg uX_no] at this
  refine enter (args := []) _ [] [] Try.func9 rfl Try.ntmps9 rfl (by simp) .nil ?_
  (refine CW.seq ?_; refine CW.region ?_; apply LW.v0; rfl; rfl; apply ValP.assign; rfl; apply LW.nil; refine thenN ?_; refine CW.seq ?_; refine CW.region ?_; apply LW.v0; rfl; rfl; apply ValP.buildT; infer_instance; infer_instance; apply PartsOk.cons; rfl; apply PartsOk.cons; rfl; apply PartsOk.cons; rfl; apply PartsOk.cons; rfl; apply PartsOk.cons; rfl; apply PartsOk.cons; rfl; exact PartsOk.nil; rfl; simp only [fillP, wrCells, Value.cells, List.getElem?_cons_zero, List.getElem?_cons_succ, List.toList_toArray, List.setIfInBounds_toArray, List.set_cons_succ, List.set_cons_zero, Nat.reduceAdd, Nat.zero_add]; rfl; apply LW.allocA; rfl; intro _; apply LW.store; rfl; rfl; apply SetAt.head; apply Wr.whole; rfl; rfl; rfl; apply LW.nil; refine thenN ?_; refine CW.seq ?_; refine CW.region ?_; apply LW.load; rfl; rfl; apply Known.at; apply FsAt.head; exact Rd.whole rfl)
  refine LW.callR rfl rfl inferInstance (by (apply ArgsOk.cons; rfl; exact ArgsOk.nil)) (fun w hst => Encode_calls uW w (uW_at w)) ?_
  rintro v4 gs4 ⟨bv, rfl, hrow⟩
  obtain ⟨hdo, hdd⟩ := dec_enc uW_ok (uW_at w).num
  have hlen := uW_len
  rw [if_pos uW_ok, if_pos uW_ok] at hrow
  rw [if_pos uW_ok]
  obtain ⟨X, hX⟩ : ∃ X, encB uW = X := ⟨_, rfl⟩
  rw [hX] at hrow hdo hdd hlen
  obtain ⟨pb, cb, rfl⟩ := hrow.form
  (apply LW.v0; rfl; rfl; apply ValP.move; rfl; apply LW.v0; rfl; rfl; apply ValP.extractN; rfl; rfl; apply LW.v0; rfl; rfl; apply ValP.extractN; rfl; rfl; apply LW.v0; rfl; rfl; apply ValP.assign; rfl; apply LW.v0; rfl; rfl; apply ValP.assign; rfl; apply LW.nil; refine thenN ?_; refine CW.seq ?_; refine CW.region ?_; apply LW.v0; rfl; rfl; apply ValP.move; rfl)
  refine LW.callR rfl rfl inferInstance (by (apply ArgsOk.cons; rfl; exact ArgsOk.nil)) (fun w hst => Decode_calls X _ w (hrow.us (st_us hst (by (exact List.sublist_append_left _ _))) (List.Sublist.refl _))) ?_
  rintro v5 gs5 ⟨u', rfl, hG, hd⟩
  rw [if_pos hdo] at hd ⊢
  have hsd : u'.sd = 20 := sd_of (hd.trans hdd)
  have hr0 : ∀ {E fr}, Rd Try.prog 26 (.cells (opa u') E fr) 0 (.int .u64 20) := fun {E fr} => by have := op_rd0 (P := Try.prog) (T := 26) (E := E) (fr := fr) (u := u'); rwa [hsd] at this
  rw [hlen]
  refine LW.st fun w1 hst1 => ?_
  have hsl' : OpSl u' := (hG w1 (st_us hst1 (by (exact List.sublist_append_left _ _)))).sl
  clear hst1 w1
  (apply LW.v0; rfl; rfl; apply ValP.move; rfl; apply LW.v0; rfl; rfl; apply ValP.extractN; rfl; rfl; apply LW.v0; rfl; rfl; apply ValP.extractN; rfl; rfl; apply LW.allocA; rfl; intro _; apply LW.store; rfl; rfl; apply SetAt.head; apply op_wrW; rfl; assumption; apply LW.v0; rfl; rfl; apply ValP.assign; rfl; apply LW.nil; refine thenN ?_; refine CW.seq ?_; refine CW.region ?_; apply LW.load; rfl; rfl; apply Known.at; apply FsAt.tail; apply FsAt.app; apply FsAt.app; apply FsAt.head; exact Rd.whole rfl; apply LW.callE; rfl; rfl; infer_instance; apply ArgsOk.cons; rfl; exact ArgsOk.nil; intro w _; exact hPre w; apply LW.v0; rfl; rfl; apply ValP.move; rfl; apply LW.v0; rfl; rfl; apply ValP.extractN; rfl; rfl; apply LW.v0; rfl; rfl; apply ValP.extractN; rfl; rfl; apply LW.allocW; rfl; intro _; apply LW.store; rfl; rfl; apply SetAt.head; apply Wr.whole; rfl; rfl; rfl; apply LW.v0; rfl; rfl; apply ValP.assign; rfl; apply LW.nil; refine thenN ?_; refine CW.seq ?_; refine CW.region ?_; apply LW.v0; rfl; rfl; apply ValP.fieldAddr; rfl; rfl; apply LW.store; rfl; rfl; apply SetAt.tail; apply SetAt.tail; apply SetAt.app; apply SetAt.app; apply SetAt.head; exact hWx; apply LW.nil; refine thenN ?_; refine CW.seq ?_; refine CW.region ?_; apply LW.v0; rfl; rfl; apply ValP.move; rfl; apply LW.v0; rfl; rfl; apply ValP.eqT; rfl; rfl; omega; apply LW.v0; rfl; rfl; apply ValP.move; rfl; apply LW.guardT'; rfl; rfl; (with_reducible rfl); apply LW.v0; rfl; rfl; apply ValP.move; rfl; apply LW.guardT'; rfl; rfl; (with_reducible rfl); apply LW.v0; rfl; rfl; apply ValP.eqT; rfl; rfl; omega; apply LW.v0; rfl; rfl; apply ValP.pickT'; rfl; (with_reducible rfl); rfl; apply LW.v0; rfl; rfl; apply ValP.move; rfl; apply LW.guardT'; rfl; rfl; (with_reducible rfl); apply LW.v0; rfl; rfl; apply ValP.move; rfl; apply LW.guardT'; rfl; rfl; (with_reducible rfl); apply LW.v0; rfl; rfl; apply ValP.eqT; rfl; rfl; omega; apply LW.v0; rfl; rfl; apply ValP.pickT'; rfl; (with_reducible rfl); rfl; apply LW.v0; rfl; rfl; apply ValP.move; rfl; apply LW.guardT'; rfl; rfl; (with_reducible rfl); apply LW.v0; rfl; rfl; apply ValP.move; rfl; apply LW.guardT'; rfl; rfl; (with_reducible rfl); apply LW.v0; rfl; rfl; apply ValP.lenR; rfl; infer_instance; rfl; apply LW.guardT'; rfl; rfl; (with_reducible rfl); apply LW.v0; rfl; rfl; apply ValP.eqT; rfl; rfl; omega; apply LW.v0; rfl; rfl; apply ValP.pickT'; rfl; (with_reducible rfl); rfl; apply LW.v0; rfl; rfl; apply ValP.move; rfl; apply LW.guardT'; rfl; rfl; (with_reducible rfl); apply LW.v0; rfl; rfl; apply ValP.fieldAddr; rfl; rfl; apply LW.guardT'; rfl; rfl; (with_reducible rfl); apply LW.load; rfl; rfl; apply Known.at; apply FsAt.tail; apply FsAt.head; exact op_rd0; apply LW.guardT'; rfl; rfl; (with_reducible rfl); apply LW.v0; rfl; rfl; apply ValP.eqT; rfl; rfl; omega; apply LW.v0; rfl; rfl; apply ValP.pickT'; rfl; (with_reducible rfl); rfl; apply LW.v0; rfl; rfl; apply ValP.move; rfl; apply LW.guardT'; rfl; rfl; (with_reducible rfl); apply LW.load; rfl; rfl; apply Known.at; apply FsAt.head; exact Rd.whole rfl; apply LW.guardT'; rfl; rfl; (with_reducible rfl); apply LW.v0; rfl; rfl; apply ValP.buildW1L; rfl; decide; rfl; apply LW.guardT'; rfl; rfl; (with_reducible rfl); apply LW.v0; rfl; rfl; apply ValP.eqWT; rfl; rfl; (with_reducible rfl); apply LW.v0; rfl; rfl; apply ValP.pickT'; rfl; (with_reducible rfl); rfl; apply LW.v0; rfl; rfl; apply ValP.move; rfl; apply LW.guardT'; rfl; rfl; (with_reducible rfl); apply LW.load; rfl; rfl; apply Known.at; apply FsAt.tail; apply FsAt.tail; apply FsAt.app; apply FsAt.app; apply FsAt.head; exact op_rdW; apply LW.guardT'; rfl; rfl; (with_reducible rfl); apply LW.callE; rfl; rfl; infer_instance; apply ArgsOk.cons; rfl; exact ArgsOk.nil; intro w _; exact hCk w; apply LW.guardT'; rfl; rfl; (with_reducible rfl); apply LW.v0; rfl; rfl; apply ValP.eqT; rfl; rfl; omega; apply LW.v0; rfl; rfl; apply ValP.pickT'; rfl; (with_reducible rfl); rfl; apply LW.v0; rfl; rfl; apply ValP.assign; rfl; apply LW.nil; refine thenN ?_; refine CW.ret ?_)
  trace_state
  (apply finR; exact .inl rfl; rfl; rfl; rfl; apply ResL.cons; exact Res.tmp rfl; exact ResL.nil)
  rfl
end Go.Proofs.Ytobkhnmglbfheaa

/-
  What operations may cost: the document's answer.
  Conditions: none.
-/
namespace Go.Proofs.Ytobkhnmglbfheaa
open Go Go.RowKit SL
set_option maxRecDepth 8000
set_option maxHeartbeats 4000000
set_option linter.unusedSimpArgs false
set_option linter.unusedVariables false
attribute [local irreducible] SL.CW SL.LW SL.DW Calls SL.Ret SL.RetG SL.beginQ SL.roundQ SL.rangeQ SL.inQ SL.RW SL.AnyW SL.thenQ SL.thenC SL.thenW SL.blkQ SL.finQ SL.ValP SL.NewP SL.SetP SL.CallP SL.Rd SL.Wr SL.Known
theorem rGas_calls (u : OpV) (w : World) (ho : okU u) : Calls Try.prog 45 #[.agg (opa u)] w (Ret w (.int .u64 (gasU u : Int))) := by
  have hg := gas_mod ho
  refine enter (args := [_]) _ [] [] Try.func45 rfl Try.ntmps45 rfl (by simp) .nil ?_
  (refine CW.seq ?_; refine CW.region ?_; apply LW.boxA; rfl; rfl; intro _; apply LW.v0; rfl; rfl; apply ValP.assign; rfl; apply LW.nil; refine thenN ?_; refine CW.seq ?_; refine CW.region ?_; apply LW.v0; rfl; rfl; apply ValP.fieldAddr; rfl; rfl; apply LW.load; rfl; rfl; apply Known.at; apply FsAt.head; exact op_rd7; apply LW.v0; rfl; rfl; apply ValP.fieldAddr; rfl; rfl; apply LW.load; rfl; rfl; apply Known.at; apply FsAt.head; exact op_rd8; apply LW.v0; rfl; rfl; apply ValP.addN; rfl; rfl; apply LW.v0; rfl; rfl; apply ValP.fieldAddr; rfl; rfl; apply LW.load; rfl; rfl; apply Known.at; apply FsAt.head; exact op_rd9; apply LW.v0; rfl; rfl; apply ValP.addN; rfl; rfl; apply LW.v0; rfl; rfl; apply ValP.fieldAddr; rfl; rfl; apply LW.load; rfl; rfl; apply Known.at; apply FsAt.head; exact op_rd13; apply LW.v0; rfl; rfl; apply ValP.addN; rfl; rfl; apply LW.v0; rfl; rfl; apply ValP.fieldAddr; rfl; rfl; apply LW.load; rfl; rfl; apply Known.at; apply FsAt.head; exact op_rd14; apply LW.v0; rfl; rfl; apply ValP.addN; rfl; rfl; apply LW.v0; rfl; rfl; apply ValP.assign; rfl; apply LW.nil; refine thenN ?_; refine CW.ret ?_)
  (apply finR; exact .inl rfl; rfl; rfl; rfl; apply ResL.cons; exact Res.tmp rfl; exact ResL.nil)
  rw [← hg]; rfl
theorem blocks_slice {x : Value} {n : Nat} (h : ∃ p c, x = .slice p n c) : blocksN 3 x = blocksN 4 x := by
  obtain ⟨p, c, rfl⟩ := h
  cases p <;> rfl
theorem blocks_opa {u : OpV} (h : OpSl u) : blocksN 4 (.agg (opa u)) = [u.iv, u.cv, u.dv, u.gv].flatMap (blocksN 4) := by
  show (opc u).flatMap (blocksN 3) = _
  have e : ∀ (k : IntKind) (n : Int), blocksN 3 (.int k n) = [] := fun _ _ => rfl
  simp only [opc, wc, List.flatMap_cons, List.flatMap_nil, List.cons_append, List.nil_append, e, List.append_nil, blocks_slice h.i, blocks_slice h.c, blocks_slice h.d, blocks_slice h.g]
/-- A call in a drawn region that is handed an operation. -/
theorem DW.callOp {C : Cu} {ops : Array Oper} {Q : Post} {tl rest : List Oper} {e : Env} {ts : Ts} {μ : Mu} {k d : Nat} {t : TypeId} {pos : String} {af : Array Edge} {g : Option (Nat × Bool)} {fo : Operand} {args : Array Operand} {tys : Array TypeId} {f : FuncId} {u : OpV} {v : Value} {us : Fs} {ts' : Ts} (hk : ops[k]? = some ⟨some d, .call { callee := .value fo, args := args, argTypes := tys }, t, pos, af, g⟩) (hm : μ k = none)
    (hd : Nat.blt d C.N = true) (hg : WantT ops e g) (hf : e.ev fo = some (.func (.func f) #[] #[])) (hF : FnI C.P f) (ha : ArgsOk e args.toList [.agg (opa u)]) (hsl : OpSl u) (hr : RdV C ops k [u.iv, u.cv, u.dv, u.gv] ts us ts')
    (hc : ∀ w, Bel C.w0.heap.size C.S C.w0 w → (∀ p ∈ us, w.heap[p.1]? = some p.2) → Calls C.P f #[.agg (opa u)] w (Ret w v)) (kk : DW C ops μ Q tl rest (k + 1) ((d, v) :: e) ts') :
    DW C ops μ Q tl (⟨some d, .call { callee := .value fo, args := args, argTypes := tys }, t, pos, af, g⟩ :: rest) k e ts := by
  obtain ⟨us2, h1, h2⟩ := hr.all
  rw [← blocks_opa hsl] at h1
  exact DW.callE hk hm hd hg hf hF ha (show ([Value.agg (opa u)] : List Value).flatMap (blocksN 4) = _ by rw [List.flatMap_cons, List.flatMap_nil, List.append_nil]) h1 (fun w hb hu => hc w hb fun p hp => hu p (h2 p hp)) kk
theorem rPrefund_calls (u : OpV) (w : World) (hu0 : OpAt w u) (ho : okU u) : Calls Try.prog 25 #[.agg (opa u)] w (Ret w (wv (gasU u * u.mf))) := by
  have hu := hu0.num
  have hsl := hu0.sl
  have hmf := hu.mf
  have hg := gasU_le ho
  have hMul : ∀ w, Calls Try.prog 44 #[wv (gasU u), wv u.mf] w (Ret w (.tuple #[wv (gasU u * u.mf), .bool (decide (M256 ≤ gasU u * u.mf))])) := fun w => by
    have h64 : (18446744073709551616 : Nat) < M256 := by decide
    have := rMul_calls (gasU u) u.mf (by omega) (by omega) w
    rwa [Nat.mod_eq_of_lt (pre_lt ho hmf)] at this
  refine enter (args := [_]) _ [] [] Try.func25 rfl Try.ntmps25 rfl (by simp) .nil ?_
  (refine CW.seq ?_; refine CW.region ?_; apply LW.boxA; rfl; rfl; intro _; apply LW.allocW; rfl; intro _; apply LW.nil; refine thenN ?_; refine CW.seq ?_; apply CW.pre; refine AnyW.any 12 mixed (by decide +kernel) ?_; (try simp only [tsOf_cons, tsOf_nil, tsOf_app]); apply DW.loadO; rfl; rfl; rfl; exact WantT.none; rfl; apply TRead.tail; apply TRead.head; exact ancB_nil; exact op_rdW)
  refine DW.callOp rfl rfl rfl (by (exact WantT.none)) rfl inferInstance (by (apply ArgsOk.cons; rfl; exact ArgsOk.nil)) hsl (.ext hu0.i rfl (.ext hu0.c rfl (.ext hu0.d rfl (.ext hu0.g rfl .nil)))) (fun w _ _ => rGas_calls u w ho) ?_
  ((try simp only [tsOf_cons, tsOf_nil, tsOf_app]); apply DW.v0; rfl; rfl; rfl; exact WantT.none; rfl; apply ValP.buildW1; rfl; omega; apply DW.v0; rfl; rfl; rfl; exact WantT.none; rfl; apply ValP.fieldAddr; rfl; rfl; apply DW.loadO; rfl; rfl; rfl; exact WantT.none; rfl; apply TRead.tail; apply TRead.head; exact ancB_nil; exact op_rd10; apply DW.v0; rfl; rfl; rfl; exact WantT.none; rfl; apply ValP.buildW1; rfl; omega; apply DW.callE; rfl; rfl; rfl; exact WantT.none; rfl; infer_instance; apply ArgsOk.cons; rfl; apply ArgsOk.cons; rfl; exact ArgsOk.nil; rfl; exact ReadAll.nil; intro w _ _; exact hMul w; apply DW.v0; rfl; rfl; rfl; exact WantT.none; rfl; apply ValP.move; rfl; apply DW.v0; rfl; rfl; rfl; exact WantT.none; rfl; apply ValP.extractN; rfl; rfl; apply DW.v0; rfl; rfl; rfl; exact WantT.none; rfl; apply ValP.extractN; rfl; rfl; apply DW.allocW; rfl; rfl; rfl; exact WantT.none; intro _; apply DW.store; rfl; rfl; exact WantT.none; rfl; rfl; apply TSet.head; kernel_rfl; exact ancB_nil; apply Wr.whole; rfl; rfl; rfl; apply DW.nil; simp only [fsOf_cons, fsOf_nil, fsOf_app, fsOf_tsOf, fsOf_new])
  (apply LW.v0; rfl; rfl; apply ValP.assign; rfl; apply LW.nil; refine thenN ?_; refine CW.seq ?_; refine CW.region ?_; apply LW.load; rfl; rfl; apply Known.at; apply FsAt.head; exact Rd.whole rfl; apply LW.store; rfl; rfl; apply SetAt.tail; apply SetAt.head; apply Wr.whole; rfl; rfl; rfl; apply LW.nil; refine thenN ?_; refine CW.ret ?_)
  (apply finR; exact .inl rfl; rfl; rfl; rfl; apply ResL.cons; apply Res.cell; rfl; apply Known.at; apply FsAt.tail; apply FsAt.head; exact Rd.whole rfl; exact ResL.nil)
  rfl
theorem rPrice_calls (u : OpV) (base : Nat) (w : World) (hu : OpNum u) (hb : base < 18446744073709551616) : Calls Try.prog 29 #[.agg (opa u), .int .u64 (base : Int)] w (Ret w (.int .u64 (priceU u base : Int))) := by
  have hmp := hu.mp
  have hmf := hu.mf
  have h64 : (36893488147419103232 : Nat) < M256 := by decide
  have hs : u.mp + base < M256 := by omega
  have hAdd : ∀ w, Calls Try.prog 49 #[wv u.mp, wv base] w (Ret w (.tuple #[wv (u.mp + base), .bool (decide (M256 ≤ u.mp + base))])) := fun w => by
    have := rAdd_calls u.mp base (by omega) (by omega) w
    rwa [Nat.mod_eq_of_lt hs] at this
  have hCmp0 := rCmp_calls (u.mp + base) u.mf hs (by omega)
  unfold priceU
  rcases Nat.lt_or_ge (u.mp + base) u.mf with h | h
  · have hCmp := hCmp0
    rw [if_pos h] at hCmp
    refine enter (args := [_, _]) _ [] [] Try.func29 rfl Try.ntmps29 rfl (by simp) .nil ?_
    (refine CW.seq ?_; refine CW.region ?_; apply LW.boxA; rfl; rfl; intro _; apply LW.v0; rfl; rfl; apply ValP.assign; rfl; apply LW.nil; refine thenN ?_; refine CW.seq ?_; refine CW.region ?_; apply LW.v0; rfl; rfl; apply ValP.fieldAddr; rfl; rfl; apply LW.load; rfl; rfl; apply Known.at; apply FsAt.head; exact op_rd11; apply LW.v0; rfl; rfl; apply ValP.buildW1; rfl; omega; apply LW.v0; rfl; rfl; apply ValP.move; rfl; apply LW.v0; rfl; rfl; apply ValP.buildW1; rfl; omega; apply LW.callE; rfl; rfl; infer_instance; apply ArgsOk.cons; rfl; apply ArgsOk.cons; rfl; exact ArgsOk.nil; intro w _; exact hAdd w; apply LW.v0; rfl; rfl; apply ValP.move; rfl; apply LW.v0; rfl; rfl; apply ValP.extractN; rfl; rfl; apply LW.v0; rfl; rfl; apply ValP.extractN; rfl; rfl; apply LW.allocW; rfl; intro _; apply LW.store; rfl; rfl; apply SetAt.head; apply Wr.whole; rfl; rfl; rfl; apply LW.v0; rfl; rfl; apply ValP.assign; rfl; apply LW.nil; refine thenN ?_; refine CW.seq ?_; refine CW.seq ?_; refine CW.region ?_; apply LW.load; rfl; rfl; apply Known.at; apply FsAt.head; exact Rd.whole rfl; apply LW.v0; rfl; rfl; apply ValP.fieldAddr; rfl; rfl; apply LW.load; rfl; rfl; apply Known.at; apply FsAt.tail; apply FsAt.head; exact op_rd10; apply LW.v0; rfl; rfl; apply ValP.buildW1; rfl; omega; apply LW.callE; rfl; rfl; infer_instance; apply ArgsOk.cons; rfl; apply ArgsOk.cons; rfl; exact ArgsOk.nil; intro w _; exact hCmp w; apply LW.v0; rfl; rfl; apply ValP.lssT; rfl; rfl; omega; apply LW.nil; refine thenN ?_; apply CW.condT; rfl; (with_reducible rfl); refine CW.seq ?_; refine CW.region ?_; apply LW.v0; rfl; rfl; apply ValP.indexAddrL; rfl; rfl; rfl; apply LW.load; rfl; rfl; apply Known.at; apply FsAt.head; exact Rd.one' rfl; apply LW.v0; rfl; rfl; apply ValP.assign; rfl; apply LW.nil; refine thenN ?_; refine CW.ret ?_; refine thenR ?_)
    (apply finR; exact .inl rfl; rfl; rfl; rfl; apply ResL.cons; exact Res.tmp rfl; exact ResL.nil)
    rw [Nat.min_eq_left (by omega)]
    show Value.int .u64 (((u.mp + base) % 18446744073709551616 : Nat) : Int) = _
    rw [Nat.mod_eq_of_lt (by omega)]
  · rw [Nat.min_eq_right (by omega)]
    rcases Nat.lt_or_ge u.mf (u.mp + base) with h2 | h2
    · have hCmp := hCmp0
      rw [if_neg (by omega), if_pos h2] at hCmp
      refine enter (args := [_, _]) _ [] [] Try.func29 rfl Try.ntmps29 rfl (by simp) .nil ?_
      (refine CW.seq ?_; refine CW.region ?_; apply LW.boxA; rfl; rfl; intro _; apply LW.v0; rfl; rfl; apply ValP.assign; rfl; apply LW.nil; refine thenN ?_; refine CW.seq ?_; refine CW.region ?_; apply LW.v0; rfl; rfl; apply ValP.fieldAddr; rfl; rfl; apply LW.load; rfl; rfl; apply Known.at; apply FsAt.head; exact op_rd11; apply LW.v0; rfl; rfl; apply ValP.buildW1; rfl; omega; apply LW.v0; rfl; rfl; apply ValP.move; rfl; apply LW.v0; rfl; rfl; apply ValP.buildW1; rfl; omega; apply LW.callE; rfl; rfl; infer_instance; apply ArgsOk.cons; rfl; apply ArgsOk.cons; rfl; exact ArgsOk.nil; intro w _; exact hAdd w; apply LW.v0; rfl; rfl; apply ValP.move; rfl; apply LW.v0; rfl; rfl; apply ValP.extractN; rfl; rfl; apply LW.v0; rfl; rfl; apply ValP.extractN; rfl; rfl; apply LW.allocW; rfl; intro _; apply LW.store; rfl; rfl; apply SetAt.head; apply Wr.whole; rfl; rfl; rfl; apply LW.v0; rfl; rfl; apply ValP.assign; rfl; apply LW.nil; refine thenN ?_; refine CW.seq ?_; refine CW.seq ?_; refine CW.region ?_; apply LW.load; rfl; rfl; apply Known.at; apply FsAt.head; exact Rd.whole rfl; apply LW.v0; rfl; rfl; apply ValP.fieldAddr; rfl; rfl; apply LW.load; rfl; rfl; apply Known.at; apply FsAt.tail; apply FsAt.head; exact op_rd10; apply LW.v0; rfl; rfl; apply ValP.buildW1; rfl; omega; apply LW.callE; rfl; rfl; infer_instance; apply ArgsOk.cons; rfl; apply ArgsOk.cons; rfl; exact ArgsOk.nil; intro w _; exact hCmp w; apply LW.v0; rfl; rfl; apply ValP.lssF; rfl; rfl; omega; apply LW.nil; refine thenN ?_; apply CW.condF; rfl; (with_reducible rfl); refine CW.skip ?_; refine thenN ?_; refine CW.seq ?_; refine CW.region ?_; apply LW.v0; rfl; rfl; apply ValP.fieldAddr; rfl; rfl; apply LW.load; rfl; rfl; apply Known.at; apply FsAt.tail; apply FsAt.head; exact op_rd10; apply LW.v0; rfl; rfl; apply ValP.assign; rfl; apply LW.nil; refine thenN ?_; refine CW.ret ?_)
      (apply finR; exact .inl rfl; rfl; rfl; rfl; apply ResL.cons; exact Res.tmp rfl; exact ResL.nil)
      rfl
    · have hCmp := hCmp0
      rw [if_neg (by omega), if_neg (by omega)] at hCmp
      refine enter (args := [_, _]) _ [] [] Try.func29 rfl Try.ntmps29 rfl (by simp) .nil ?_
      (refine CW.seq ?_; refine CW.region ?_; apply LW.boxA; rfl; rfl; intro _; apply LW.v0; rfl; rfl; apply ValP.assign; rfl; apply LW.nil; refine thenN ?_; refine CW.seq ?_; refine CW.region ?_; apply LW.v0; rfl; rfl; apply ValP.fieldAddr; rfl; rfl; apply LW.load; rfl; rfl; apply Known.at; apply FsAt.head; exact op_rd11; apply LW.v0; rfl; rfl; apply ValP.buildW1; rfl; omega; apply LW.v0; rfl; rfl; apply ValP.move; rfl; apply LW.v0; rfl; rfl; apply ValP.buildW1; rfl; omega; apply LW.callE; rfl; rfl; infer_instance; apply ArgsOk.cons; rfl; apply ArgsOk.cons; rfl; exact ArgsOk.nil; intro w _; exact hAdd w; apply LW.v0; rfl; rfl; apply ValP.move; rfl; apply LW.v0; rfl; rfl; apply ValP.extractN; rfl; rfl; apply LW.v0; rfl; rfl; apply ValP.extractN; rfl; rfl; apply LW.allocW; rfl; intro _; apply LW.store; rfl; rfl; apply SetAt.head; apply Wr.whole; rfl; rfl; rfl; apply LW.v0; rfl; rfl; apply ValP.assign; rfl; apply LW.nil; refine thenN ?_; refine CW.seq ?_; refine CW.seq ?_; refine CW.region ?_; apply LW.load; rfl; rfl; apply Known.at; apply FsAt.head; exact Rd.whole rfl; apply LW.v0; rfl; rfl; apply ValP.fieldAddr; rfl; rfl; apply LW.load; rfl; rfl; apply Known.at; apply FsAt.tail; apply FsAt.head; exact op_rd10; apply LW.v0; rfl; rfl; apply ValP.buildW1; rfl; omega; apply LW.callE; rfl; rfl; infer_instance; apply ArgsOk.cons; rfl; apply ArgsOk.cons; rfl; exact ArgsOk.nil; intro w _; exact hCmp w; apply LW.v0; rfl; rfl; apply ValP.lssF; rfl; rfl; omega; apply LW.nil; refine thenN ?_; apply CW.condF; rfl; (with_reducible rfl); refine CW.skip ?_; refine thenN ?_; refine CW.seq ?_; refine CW.region ?_; apply LW.v0; rfl; rfl; apply ValP.fieldAddr; rfl; rfl; apply LW.load; rfl; rfl; apply Known.at; apply FsAt.tail; apply FsAt.head; exact op_rd10; apply LW.v0; rfl; rfl; apply ValP.assign; rfl; apply LW.nil; refine thenN ?_; refine CW.ret ?_)
      (apply finR; exact .inl rfl; rfl; rfl; rfl; apply ResL.cons; exact Res.tmp rfl; exact ResL.nil)
      rfl
end Go.Proofs.Ytobkhnmglbfheaa

/-
  The price is never above MaxFee, and what is paid ahead is enough for all gas: the law.
  Conditions: none.
-/
namespace Go.Proofs.Ytobkhnmglbfheaa
open Go Go.RowKit SL
set_option maxRecDepth 8000
set_option maxHeartbeats 4000000
set_option linter.unusedSimpArgs false
set_option linter.unusedVariables false
attribute [local irreducible] SL.CW SL.LW SL.DW Calls SL.Ret SL.RetG SL.beginQ SL.roundQ SL.rangeQ SL.inQ SL.RW SL.AnyW SL.thenQ SL.thenC SL.thenW SL.blkQ SL.finQ SL.ValP SL.NewP SL.SetP SL.CallP SL.Rd SL.Wr SL.Known
theorem UseropPays_walk (u : OpV) (base : Nat) (hb : base < 18446744073709551616) (w : World) (hu : OpAt w u) : Calls Try.prog 8 #[.agg (opa u), .int .u64 (base : Int)] w (Ret w (.bool true)) := by
  have hslu := hu.sl
  refine enter (args := [_, _]) _ [] [] Try.func8 rfl Try.ntmps8 rfl (by simp) .nil ?_
  (refine CW.seq ?_; refine CW.region ?_; apply LW.boxA; rfl; rfl; intro _; apply LW.v0; rfl; rfl; apply ValP.assign; rfl; apply LW.nil; refine thenN ?_; refine CW.seq ?_; refine CW.seq ?_; refine CW.region ?_; apply LW.callE; rfl; rfl; infer_instance; exact ArgsOk.nil; intro w _; exact wakes_u_calls w; apply LW.v0; rfl; rfl; apply ValP.notT; rfl; (with_reducible rfl); apply LW.nil; refine thenN ?_; apply CW.condF; rfl; (with_reducible rfl); refine CW.skip ?_; refine thenN ?_; refine CW.seq ?_; refine CW.region ?_; apply LW.load; rfl; rfl; apply Known.at; apply FsAt.head; exact op_rdW)
  refine LW.callR rfl rfl inferInstance (by (apply ArgsOk.cons; rfl; exact ArgsOk.nil)) (fun w hst => few_u_calls u w (hu.st hst)) ?_
  rintro v4 gs ⟨a, b, c, d, rfl, hG⟩
  obtain ⟨U, hU⟩ : ∃ U, cutO u a b c d = U := ⟨_, rfl⟩
  rw [hU] at hG ⊢
  clear hU
  refine LW.st fun w1 hst1 => ?_
  have hsl : OpSl U := (hG w1 (st_us hst1 (by (exact List.sublist_append_left _ _)))).sl
  have hn : OpNum U := (hG w1 (st_us hst1 (by (exact List.sublist_append_left _ _)))).num
  clear hst1 w1
  have hPre0 : ∀ w', (∀ q ∈ gs, w'.heap[q.1]? = some q.2) → Calls Try.prog 24 #[.agg (opa U)] w' (Ret w' (.tuple #[wv (if okU U then gasU U * U.mf else 0), .int .i64 (if okU U then 0 else 280)])) := fun w' h => Prefund_calls U w' (hG w' h)
  by_cases ho : okU U
  · have hPre := hPre0
    rw [if_pos ho, if_pos ho] at hPre
    clear hPre0
    have hmm : U.mp ≤ U.mf := by have h := ho; unfold okU at h; exact h.1.2
    have hmf := hn.mf
    have hmp := hn.mp
    have hPri0 : ∀ w', (∀ q ∈ gs, w'.heap[q.1]? = some q.2) → Calls Try.prog 28 #[.agg (opa U), .int .u64 (base : Int)] w' (Ret w' (.int .u64 (priceU U base : Int))) := fun w' h => Price_calls U base w' (hG w' h) hb
    obtain ⟨pr, hpr⟩ : ∃ pr, priceU U base = pr := ⟨_, rfl⟩
    have hPri := hPri0
    rw [hpr] at hPri
    clear hPri0
    unfold priceU at hpr
    have hp1 : pr ≤ U.mf := by omega
    have hp2 : U.mp ≤ pr := by omega
    have h64 : (18446744073709551616 : Nat) < M256 := by decide
    have hg := gasU_le ho
    have hgm := gas_mod ho
    obtain ⟨G, hGe⟩ : ∃ G, gasU U = G := ⟨_, rfl⟩
    rw [hGe] at hg hgm hPre
    have hle : G * pr ≤ G * U.mf := Nat.mul_le_mul_left _ hp1
    have hpl : G * U.mf < M256 := by rw [← hGe]; exact pre_lt ho hmf
    obtain ⟨A, hA⟩ : ∃ A, G * U.mf = A := ⟨_, rfl⟩
    obtain ⟨B, hB⟩ : ∃ B, G * pr = B := ⟨_, rfl⟩
    have hMul : ∀ w, Calls Try.prog 30 #[wv G, wv pr] w (Ret w (.tuple #[wv B, .bool false])) := fun w => by
      have := Mul_calls G pr (by omega) (by omega) w
      rwa [Nat.mod_eq_of_lt (by omega), decide_eq_false (by omega), hB] at this
    rw [hA] at hPre hle hpl
    rw [hB] at hle
    have hOf : ∀ w, Calls Try.prog 31 #[.int .u64 (((((((U.vg + U.cg) % 18446744073709551616 + U.pg) % 18446744073709551616 + U.pv) % 18446744073709551616 + U.pp) % 18446744073709551616 : Nat)) : Int)] w (Ret w (wv G)) := fun w => by
      rw [hgm]
      exact Of_calls G (by omega) w
    have hOf2 := Of_calls pr (by omega)
    have hCmp0 := Cmp_calls B A (by omega) hpl
    rcases Nat.lt_or_ge B A with hBA | hBA
    · have hCmp := hCmp0
      rw [if_pos hBA] at hCmp
      rcases Nat.lt_or_ge (U.mf - U.mp) base with hbs | hbs
      · have hEq : ((pr : Nat) : Int) = (U.mf : Int) := by omega
        (apply LW.allocA; rfl; intro _; apply LW.store; rfl; rfl; apply SetAt.head; apply op_wrW; rfl; assumption; apply LW.nil; refine thenN ?_; refine CW.seq ?_; refine CW.region ?_; apply LW.load; rfl; rfl; apply Known.at; apply FsAt.head; exact op_rdW; apply LW.callE; rfl; rfl; infer_instance; apply ArgsOk.cons; rfl; exact ArgsOk.nil; intro w _; rename_i hst; (exact hPre w (st_us hst (by (repeat (first | exact List.Sublist.refl _ | exact List.sublist_append_left _ _ | apply List.Sublist.cons | apply List.sublist_append_of_sublist_right))))); apply LW.v0; rfl; rfl; apply ValP.move; rfl; apply LW.v0; rfl; rfl; apply ValP.extractN; rfl; rfl; apply LW.v0; rfl; rfl; apply ValP.extractN; rfl; rfl; apply LW.allocW; rfl; intro _; apply LW.store; rfl; rfl; apply SetAt.head; apply Wr.whole; rfl; rfl; rfl; apply LW.v0; rfl; rfl; apply ValP.assign; rfl; apply LW.nil; refine thenN ?_; refine CW.seq ?_; refine CW.seq ?_; refine CW.region ?_; apply LW.v0; rfl; rfl; apply ValP.move; rfl; apply LW.v0; rfl; rfl; apply ValP.neF; rfl; rfl; omega; apply LW.nil; refine thenN ?_; apply CW.condF; rfl; (with_reducible rfl); refine CW.skip ?_; refine thenN ?_; refine CW.seq ?_; refine CW.region ?_; apply LW.load; rfl; rfl; apply Known.at; apply FsAt.tail; apply FsAt.head; exact op_rdW; apply LW.v0; rfl; rfl; apply ValP.move; rfl; apply LW.callE; rfl; rfl; infer_instance; apply ArgsOk.cons; rfl; apply ArgsOk.cons; rfl; exact ArgsOk.nil; intro w _; rename_i hst; (exact hPri w (st_us hst (by (repeat (first | exact List.Sublist.refl _ | exact List.sublist_append_left _ _ | apply List.Sublist.cons | apply List.sublist_append_of_sublist_right))))); apply LW.v0; rfl; rfl; apply ValP.assign; rfl; apply LW.nil; refine thenN ?_; refine CW.seq ?_; refine CW.seq ?_; refine CW.region ?_; apply LW.v0; rfl; rfl; apply ValP.move; rfl; apply LW.v0; rfl; rfl; apply ValP.fieldAddr; rfl; rfl; apply LW.load; rfl; rfl; apply Known.at; apply FsAt.tail; apply FsAt.head; exact op_rd10; apply LW.v0; rfl; rfl; apply ValP.gtrF; rfl; rfl; omega; apply LW.v0; rfl; rfl; apply ValP.move; rfl; apply LW.guardT'; rfl; rfl; (with_reducible rfl); apply LW.v0; rfl; rfl; apply ValP.move; rfl; apply LW.guardT'; rfl; rfl; (with_reducible rfl); apply LW.v0; rfl; rfl; apply ValP.fieldAddr; rfl; rfl; apply LW.guardT'; rfl; rfl; (with_reducible rfl); apply LW.load; rfl; rfl; apply Known.at; apply FsAt.tail; apply FsAt.head; exact op_rd11; apply LW.guardT'; rfl; rfl; (with_reducible rfl); apply LW.v0; rfl; rfl; apply ValP.lssF; rfl; rfl; omega; apply LW.v0; rfl; rfl; apply ValP.pickF'; rfl; (with_reducible rfl); rfl; apply LW.nil; refine thenN ?_; apply CW.condF; rfl; (with_reducible rfl); refine CW.skip ?_; refine thenN ?_; refine CW.seq ?_; refine CW.region ?_; apply LW.v0; rfl; rfl; apply ValP.fieldAddr; rfl; rfl; apply LW.load; rfl; rfl; apply Known.at; apply FsAt.tail; apply FsAt.head; exact op_rd7; apply LW.v0; rfl; rfl; apply ValP.fieldAddr; rfl; rfl; apply LW.load; rfl; rfl; apply Known.at; apply FsAt.tail; apply FsAt.head; exact op_rd8; apply LW.v0; rfl; rfl; apply ValP.addN; rfl; rfl; apply LW.v0; rfl; rfl; apply ValP.fieldAddr; rfl; rfl; apply LW.load; rfl; rfl; apply Known.at; apply FsAt.tail; apply FsAt.head; exact op_rd9; apply LW.v0; rfl; rfl; apply ValP.addN; rfl; rfl; apply LW.v0; rfl; rfl; apply ValP.fieldAddr; rfl; rfl; apply LW.load; rfl; rfl; apply Known.at; apply FsAt.tail; apply FsAt.head; exact op_rd13; apply LW.v0; rfl; rfl; apply ValP.addN; rfl; rfl; apply LW.v0; rfl; rfl; apply ValP.fieldAddr; rfl; rfl; apply LW.load; rfl; rfl; apply Known.at; apply FsAt.tail; apply FsAt.head; exact op_rd14; apply LW.v0; rfl; rfl; apply ValP.addN; rfl; rfl; apply LW.v0; rfl; rfl; apply ValP.assign; rfl; apply LW.nil; refine thenN ?_; refine CW.seq ?_; refine CW.region ?_; apply LW.v0; rfl; rfl; apply ValP.move; rfl; apply LW.callE; rfl; rfl; infer_instance; apply ArgsOk.cons; rfl; exact ArgsOk.nil; intro w _; exact hOf w; apply LW.v0; rfl; rfl; apply ValP.move; rfl; apply LW.callE; rfl; rfl; infer_instance; apply ArgsOk.cons; rfl; exact ArgsOk.nil; intro w _; exact hOf2 w; apply LW.callE; rfl; rfl; infer_instance; apply ArgsOk.cons; rfl; apply ArgsOk.cons; rfl; exact ArgsOk.nil; intro w _; exact hMul w; apply LW.v0; rfl; rfl; apply ValP.move; rfl; apply LW.v0; rfl; rfl; apply ValP.extractN; rfl; rfl; apply LW.v0; rfl; rfl; apply ValP.extractN; rfl; rfl; apply LW.allocW; rfl; intro _; apply LW.store; rfl; rfl; apply SetAt.head; apply Wr.whole; rfl; rfl; rfl; apply LW.v0; rfl; rfl; apply ValP.assign; rfl; apply LW.nil; refine thenN ?_; refine CW.seq ?_; refine CW.seq ?_; refine CW.region ?_; apply LW.v0; rfl; rfl; apply ValP.move; rfl; apply LW.v0; rfl; rfl; apply ValP.move; rfl; apply LW.guardT'; rfl; rfl; (with_reducible rfl); apply LW.load; rfl; rfl; apply Known.at; apply FsAt.head; exact Rd.whole rfl; apply LW.guardT'; rfl; rfl; (with_reducible rfl); apply LW.load; rfl; rfl; apply Known.at; apply FsAt.tail; apply FsAt.head; exact Rd.whole rfl; apply LW.guardT'; rfl; rfl; (with_reducible rfl); apply LW.callE; rfl; rfl; infer_instance; apply ArgsOk.cons; rfl; apply ArgsOk.cons; rfl; exact ArgsOk.nil; intro w _; exact hCmp w; apply LW.guardT'; rfl; rfl; (with_reducible rfl); apply LW.v0; rfl; rfl; apply ValP.gtrF; rfl; rfl; omega; apply LW.v0; rfl; rfl; apply ValP.pickF'; rfl; (with_reducible rfl); rfl; apply LW.nil; refine thenN ?_; apply CW.condF; rfl; (with_reducible rfl); refine CW.skip ?_; refine thenN ?_; refine CW.seq ?_; refine CW.seq ?_; refine CW.region ?_; apply LW.v0; rfl; rfl; apply ValP.move; rfl; apply LW.v0; rfl; rfl; apply ValP.fieldAddr; rfl; rfl; apply LW.load; rfl; rfl; apply Known.at; apply FsAt.tail; apply FsAt.tail; apply FsAt.head; exact op_rd10; apply LW.v0; rfl; rfl; apply ValP.fieldAddr; rfl; rfl; apply LW.load; rfl; rfl; apply Known.at; apply FsAt.tail; apply FsAt.tail; apply FsAt.head; exact op_rd11; apply LW.v0; rfl; rfl; apply ValP.subN; rfl; rfl; omega; omega; apply LW.v0; rfl; rfl; apply ValP.leqF; rfl; rfl; omega; apply LW.nil; refine thenN ?_; apply CW.condF; rfl; (with_reducible rfl); refine CW.skip ?_; refine thenN ?_; refine CW.seq ?_; refine CW.region ?_; apply LW.v0; rfl; rfl; apply ValP.move; rfl; apply LW.v0; rfl; rfl; apply ValP.fieldAddr; rfl; rfl; apply LW.load; rfl; rfl; apply Known.at; apply FsAt.tail; apply FsAt.tail; apply FsAt.head; exact op_rd10; apply LW.v0; rfl; rfl; apply ValP.eqT; rfl; rfl; omega; apply LW.v0; rfl; rfl; apply ValP.assign; rfl; apply LW.nil; refine thenN ?_; refine CW.ret ?_)
        (apply finR; exact .inl rfl; rfl; rfl; rfl; apply ResL.cons; exact Res.tmp rfl; exact ResL.nil)
        rfl
      · have hEq : ((pr : Nat) : Int) = (((U.mp + base) % 18446744073709551616 : Nat) : Int) := by omega
        (apply LW.allocA; rfl; intro _; apply LW.store; rfl; rfl; apply SetAt.head; apply op_wrW; rfl; assumption; apply LW.nil; refine thenN ?_; refine CW.seq ?_; refine CW.region ?_; apply LW.load; rfl; rfl; apply Known.at; apply FsAt.head; exact op_rdW; apply LW.callE; rfl; rfl; infer_instance; apply ArgsOk.cons; rfl; exact ArgsOk.nil; intro w _; rename_i hst; (exact hPre w (st_us hst (by (repeat (first | exact List.Sublist.refl _ | exact List.sublist_append_left _ _ | apply List.Sublist.cons | apply List.sublist_append_of_sublist_right))))); apply LW.v0; rfl; rfl; apply ValP.move; rfl; apply LW.v0; rfl; rfl; apply ValP.extractN; rfl; rfl; apply LW.v0; rfl; rfl; apply ValP.extractN; rfl; rfl; apply LW.allocW; rfl; intro _; apply LW.store; rfl; rfl; apply SetAt.head; apply Wr.whole; rfl; rfl; rfl; apply LW.v0; rfl; rfl; apply ValP.assign; rfl; apply LW.nil; refine thenN ?_; refine CW.seq ?_; refine CW.seq ?_; refine CW.region ?_; apply LW.v0; rfl; rfl; apply ValP.move; rfl; apply LW.v0; rfl; rfl; apply ValP.neF; rfl; rfl; omega; apply LW.nil; refine thenN ?_; apply CW.condF; rfl; (with_reducible rfl); refine CW.skip ?_; refine thenN ?_; refine CW.seq ?_; refine CW.region ?_; apply LW.load; rfl; rfl; apply Known.at; apply FsAt.tail; apply FsAt.head; exact op_rdW; apply LW.v0; rfl; rfl; apply ValP.move; rfl; apply LW.callE; rfl; rfl; infer_instance; apply ArgsOk.cons; rfl; apply ArgsOk.cons; rfl; exact ArgsOk.nil; intro w _; rename_i hst; (exact hPri w (st_us hst (by (repeat (first | exact List.Sublist.refl _ | exact List.sublist_append_left _ _ | apply List.Sublist.cons | apply List.sublist_append_of_sublist_right))))); apply LW.v0; rfl; rfl; apply ValP.assign; rfl; apply LW.nil; refine thenN ?_; refine CW.seq ?_; refine CW.seq ?_; refine CW.region ?_; apply LW.v0; rfl; rfl; apply ValP.move; rfl; apply LW.v0; rfl; rfl; apply ValP.fieldAddr; rfl; rfl; apply LW.load; rfl; rfl; apply Known.at; apply FsAt.tail; apply FsAt.head; exact op_rd10; apply LW.v0; rfl; rfl; apply ValP.gtrF; rfl; rfl; omega; apply LW.v0; rfl; rfl; apply ValP.move; rfl; apply LW.guardT'; rfl; rfl; (with_reducible rfl); apply LW.v0; rfl; rfl; apply ValP.move; rfl; apply LW.guardT'; rfl; rfl; (with_reducible rfl); apply LW.v0; rfl; rfl; apply ValP.fieldAddr; rfl; rfl; apply LW.guardT'; rfl; rfl; (with_reducible rfl); apply LW.load; rfl; rfl; apply Known.at; apply FsAt.tail; apply FsAt.head; exact op_rd11; apply LW.guardT'; rfl; rfl; (with_reducible rfl); apply LW.v0; rfl; rfl; apply ValP.lssF; rfl; rfl; omega; apply LW.v0; rfl; rfl; apply ValP.pickF'; rfl; (with_reducible rfl); rfl; apply LW.nil; refine thenN ?_; apply CW.condF; rfl; (with_reducible rfl); refine CW.skip ?_; refine thenN ?_; refine CW.seq ?_; refine CW.region ?_; apply LW.v0; rfl; rfl; apply ValP.fieldAddr; rfl; rfl; apply LW.load; rfl; rfl; apply Known.at; apply FsAt.tail; apply FsAt.head; exact op_rd7; apply LW.v0; rfl; rfl; apply ValP.fieldAddr; rfl; rfl; apply LW.load; rfl; rfl; apply Known.at; apply FsAt.tail; apply FsAt.head; exact op_rd8; apply LW.v0; rfl; rfl; apply ValP.addN; rfl; rfl; apply LW.v0; rfl; rfl; apply ValP.fieldAddr; rfl; rfl; apply LW.load; rfl; rfl; apply Known.at; apply FsAt.tail; apply FsAt.head; exact op_rd9; apply LW.v0; rfl; rfl; apply ValP.addN; rfl; rfl; apply LW.v0; rfl; rfl; apply ValP.fieldAddr; rfl; rfl; apply LW.load; rfl; rfl; apply Known.at; apply FsAt.tail; apply FsAt.head; exact op_rd13; apply LW.v0; rfl; rfl; apply ValP.addN; rfl; rfl; apply LW.v0; rfl; rfl; apply ValP.fieldAddr; rfl; rfl; apply LW.load; rfl; rfl; apply Known.at; apply FsAt.tail; apply FsAt.head; exact op_rd14; apply LW.v0; rfl; rfl; apply ValP.addN; rfl; rfl; apply LW.v0; rfl; rfl; apply ValP.assign; rfl; apply LW.nil; refine thenN ?_; refine CW.seq ?_; refine CW.region ?_; apply LW.v0; rfl; rfl; apply ValP.move; rfl; apply LW.callE; rfl; rfl; infer_instance; apply ArgsOk.cons; rfl; exact ArgsOk.nil; intro w _; exact hOf w; apply LW.v0; rfl; rfl; apply ValP.move; rfl; apply LW.callE; rfl; rfl; infer_instance; apply ArgsOk.cons; rfl; exact ArgsOk.nil; intro w _; exact hOf2 w; apply LW.callE; rfl; rfl; infer_instance; apply ArgsOk.cons; rfl; apply ArgsOk.cons; rfl; exact ArgsOk.nil; intro w _; exact hMul w; apply LW.v0; rfl; rfl; apply ValP.move; rfl; apply LW.v0; rfl; rfl; apply ValP.extractN; rfl; rfl; apply LW.v0; rfl; rfl; apply ValP.extractN; rfl; rfl; apply LW.allocW; rfl; intro _; apply LW.store; rfl; rfl; apply SetAt.head; apply Wr.whole; rfl; rfl; rfl; apply LW.v0; rfl; rfl; apply ValP.assign; rfl; apply LW.nil; refine thenN ?_; refine CW.seq ?_; refine CW.seq ?_; refine CW.region ?_; apply LW.v0; rfl; rfl; apply ValP.move; rfl; apply LW.v0; rfl; rfl; apply ValP.move; rfl; apply LW.guardT'; rfl; rfl; (with_reducible rfl); apply LW.load; rfl; rfl; apply Known.at; apply FsAt.head; exact Rd.whole rfl; apply LW.guardT'; rfl; rfl; (with_reducible rfl); apply LW.load; rfl; rfl; apply Known.at; apply FsAt.tail; apply FsAt.head; exact Rd.whole rfl; apply LW.guardT'; rfl; rfl; (with_reducible rfl); apply LW.callE; rfl; rfl; infer_instance; apply ArgsOk.cons; rfl; apply ArgsOk.cons; rfl; exact ArgsOk.nil; intro w _; exact hCmp w; apply LW.guardT'; rfl; rfl; (with_reducible rfl); apply LW.v0; rfl; rfl; apply ValP.gtrF; rfl; rfl; omega; apply LW.v0; rfl; rfl; apply ValP.pickF'; rfl; (with_reducible rfl); rfl; apply LW.nil; refine thenN ?_; apply CW.condF; rfl; (with_reducible rfl); refine CW.skip ?_; refine thenN ?_; refine CW.seq ?_; refine CW.seq ?_; refine CW.region ?_; apply LW.v0; rfl; rfl; apply ValP.move; rfl; apply LW.v0; rfl; rfl; apply ValP.fieldAddr; rfl; rfl; apply LW.load; rfl; rfl; apply Known.at; apply FsAt.tail; apply FsAt.tail; apply FsAt.head; exact op_rd10; apply LW.v0; rfl; rfl; apply ValP.fieldAddr; rfl; rfl; apply LW.load; rfl; rfl; apply Known.at; apply FsAt.tail; apply FsAt.tail; apply FsAt.head; exact op_rd11; apply LW.v0; rfl; rfl; apply ValP.subN; rfl; rfl; omega; omega; apply LW.v0; rfl; rfl; apply ValP.leqT; rfl; rfl; omega; apply LW.nil; refine thenN ?_; apply CW.condT; rfl; (with_reducible rfl); refine CW.seq ?_; refine CW.region ?_; apply LW.v0; rfl; rfl; apply ValP.move; rfl; apply LW.v0; rfl; rfl; apply ValP.fieldAddr; rfl; rfl; apply LW.load; rfl; rfl; apply Known.at; apply FsAt.tail; apply FsAt.tail; apply FsAt.head; exact op_rd11; apply LW.v0; rfl; rfl; apply ValP.move; rfl; apply LW.v0; rfl; rfl; apply ValP.addN; rfl; rfl; apply LW.v0; rfl; rfl; apply ValP.eqT; rfl; rfl; omega; apply LW.v0; rfl; rfl; apply ValP.assign; rfl; apply LW.nil; refine thenN ?_; refine CW.ret ?_; refine thenR ?_)
        (apply finR; exact .inl rfl; rfl; rfl; rfl; apply ResL.cons; exact Res.tmp rfl; exact ResL.nil)
        rfl
    · have hCmp := hCmp0
      rw [if_neg (by omega), if_neg (by omega)] at hCmp
      rcases Nat.lt_or_ge (U.mf - U.mp) base with hbs | hbs
      · have hEq : ((pr : Nat) : Int) = (U.mf : Int) := by omega
        (apply LW.allocA; rfl; intro _; apply LW.store; rfl; rfl; apply SetAt.head; apply op_wrW; rfl; assumption; apply LW.nil; refine thenN ?_; refine CW.seq ?_; refine CW.region ?_; apply LW.load; rfl; rfl; apply Known.at; apply FsAt.head; exact op_rdW; apply LW.callE; rfl; rfl; infer_instance; apply ArgsOk.cons; rfl; exact ArgsOk.nil; intro w _; rename_i hst; (exact hPre w (st_us hst (by (repeat (first | exact List.Sublist.refl _ | exact List.sublist_append_left _ _ | apply List.Sublist.cons | apply List.sublist_append_of_sublist_right))))); apply LW.v0; rfl; rfl; apply ValP.move; rfl; apply LW.v0; rfl; rfl; apply ValP.extractN; rfl; rfl; apply LW.v0; rfl; rfl; apply ValP.extractN; rfl; rfl; apply LW.allocW; rfl; intro _; apply LW.store; rfl; rfl; apply SetAt.head; apply Wr.whole; rfl; rfl; rfl; apply LW.v0; rfl; rfl; apply ValP.assign; rfl; apply LW.nil; refine thenN ?_; refine CW.seq ?_; refine CW.seq ?_; refine CW.region ?_; apply LW.v0; rfl; rfl; apply ValP.move; rfl; apply LW.v0; rfl; rfl; apply ValP.neF; rfl; rfl; omega; apply LW.nil; refine thenN ?_; apply CW.condF; rfl; (with_reducible rfl); refine CW.skip ?_; refine thenN ?_; refine CW.seq ?_; refine CW.region ?_; apply LW.load; rfl; rfl; apply Known.at; apply FsAt.tail; apply FsAt.head; exact op_rdW; apply LW.v0; rfl; rfl; apply ValP.move; rfl; apply LW.callE; rfl; rfl; infer_instance; apply ArgsOk.cons; rfl; apply ArgsOk.cons; rfl; exact ArgsOk.nil; intro w _; rename_i hst; (exact hPri w (st_us hst (by (repeat (first | exact List.Sublist.refl _ | exact List.sublist_append_left _ _ | apply List.Sublist.cons | apply List.sublist_append_of_sublist_right))))); apply LW.v0; rfl; rfl; apply ValP.assign; rfl; apply LW.nil; refine thenN ?_; refine CW.seq ?_; refine CW.seq ?_; refine CW.region ?_; apply LW.v0; rfl; rfl; apply ValP.move; rfl; apply LW.v0; rfl; rfl; apply ValP.fieldAddr; rfl; rfl; apply LW.load; rfl; rfl; apply Known.at; apply FsAt.tail; apply FsAt.head; exact op_rd10; apply LW.v0; rfl; rfl; apply ValP.gtrF; rfl; rfl; omega; apply LW.v0; rfl; rfl; apply ValP.move; rfl; apply LW.guardT'; rfl; rfl; (with_reducible rfl); apply LW.v0; rfl; rfl; apply ValP.move; rfl; apply LW.guardT'; rfl; rfl; (with_reducible rfl); apply LW.v0; rfl; rfl; apply ValP.fieldAddr; rfl; rfl; apply LW.guardT'; rfl; rfl; (with_reducible rfl); apply LW.load; rfl; rfl; apply Known.at; apply FsAt.tail; apply FsAt.head; exact op_rd11; apply LW.guardT'; rfl; rfl; (with_reducible rfl); apply LW.v0; rfl; rfl; apply ValP.lssF; rfl; rfl; omega; apply LW.v0; rfl; rfl; apply ValP.pickF'; rfl; (with_reducible rfl); rfl; apply LW.nil; refine thenN ?_; apply CW.condF; rfl; (with_reducible rfl); refine CW.skip ?_; refine thenN ?_; refine CW.seq ?_; refine CW.region ?_; apply LW.v0; rfl; rfl; apply ValP.fieldAddr; rfl; rfl; apply LW.load; rfl; rfl; apply Known.at; apply FsAt.tail; apply FsAt.head; exact op_rd7; apply LW.v0; rfl; rfl; apply ValP.fieldAddr; rfl; rfl; apply LW.load; rfl; rfl; apply Known.at; apply FsAt.tail; apply FsAt.head; exact op_rd8; apply LW.v0; rfl; rfl; apply ValP.addN; rfl; rfl; apply LW.v0; rfl; rfl; apply ValP.fieldAddr; rfl; rfl; apply LW.load; rfl; rfl; apply Known.at; apply FsAt.tail; apply FsAt.head; exact op_rd9; apply LW.v0; rfl; rfl; apply ValP.addN; rfl; rfl; apply LW.v0; rfl; rfl; apply ValP.fieldAddr; rfl; rfl; apply LW.load; rfl; rfl; apply Known.at; apply FsAt.tail; apply FsAt.head; exact op_rd13; apply LW.v0; rfl; rfl; apply ValP.addN; rfl; rfl; apply LW.v0; rfl; rfl; apply ValP.fieldAddr; rfl; rfl; apply LW.load; rfl; rfl; apply Known.at; apply FsAt.tail; apply FsAt.head; exact op_rd14; apply LW.v0; rfl; rfl; apply ValP.addN; rfl; rfl; apply LW.v0; rfl; rfl; apply ValP.assign; rfl; apply LW.nil; refine thenN ?_; refine CW.seq ?_; refine CW.region ?_; apply LW.v0; rfl; rfl; apply ValP.move; rfl; apply LW.callE; rfl; rfl; infer_instance; apply ArgsOk.cons; rfl; exact ArgsOk.nil; intro w _; exact hOf w; apply LW.v0; rfl; rfl; apply ValP.move; rfl; apply LW.callE; rfl; rfl; infer_instance; apply ArgsOk.cons; rfl; exact ArgsOk.nil; intro w _; exact hOf2 w; apply LW.callE; rfl; rfl; infer_instance; apply ArgsOk.cons; rfl; apply ArgsOk.cons; rfl; exact ArgsOk.nil; intro w _; exact hMul w; apply LW.v0; rfl; rfl; apply ValP.move; rfl; apply LW.v0; rfl; rfl; apply ValP.extractN; rfl; rfl; apply LW.v0; rfl; rfl; apply ValP.extractN; rfl; rfl; apply LW.allocW; rfl; intro _; apply LW.store; rfl; rfl; apply SetAt.head; apply Wr.whole; rfl; rfl; rfl; apply LW.v0; rfl; rfl; apply ValP.assign; rfl; apply LW.nil; refine thenN ?_; refine CW.seq ?_; refine CW.seq ?_; refine CW.region ?_; apply LW.v0; rfl; rfl; apply ValP.move; rfl; apply LW.v0; rfl; rfl; apply ValP.move; rfl; apply LW.guardT'; rfl; rfl; (with_reducible rfl); apply LW.load; rfl; rfl; apply Known.at; apply FsAt.head; exact Rd.whole rfl; apply LW.guardT'; rfl; rfl; (with_reducible rfl); apply LW.load; rfl; rfl; apply Known.at; apply FsAt.tail; apply FsAt.head; exact Rd.whole rfl; apply LW.guardT'; rfl; rfl; (with_reducible rfl); apply LW.callE; rfl; rfl; infer_instance; apply ArgsOk.cons; rfl; apply ArgsOk.cons; rfl; exact ArgsOk.nil; intro w _; exact hCmp w; apply LW.guardT'; rfl; rfl; (with_reducible rfl); apply LW.v0; rfl; rfl; apply ValP.gtrF; rfl; rfl; omega; apply LW.v0; rfl; rfl; apply ValP.pickF'; rfl; (with_reducible rfl); rfl; apply LW.nil; refine thenN ?_; apply CW.condF; rfl; (with_reducible rfl); refine CW.skip ?_; refine thenN ?_; refine CW.seq ?_; refine CW.seq ?_; refine CW.region ?_; apply LW.v0; rfl; rfl; apply ValP.move; rfl; apply LW.v0; rfl; rfl; apply ValP.fieldAddr; rfl; rfl; apply LW.load; rfl; rfl; apply Known.at; apply FsAt.tail; apply FsAt.tail; apply FsAt.head; exact op_rd10; apply LW.v0; rfl; rfl; apply ValP.fieldAddr; rfl; rfl; apply LW.load; rfl; rfl; apply Known.at; apply FsAt.tail; apply FsAt.tail; apply FsAt.head; exact op_rd11; apply LW.v0; rfl; rfl; apply ValP.subN; rfl; rfl; omega; omega; apply LW.v0; rfl; rfl; apply ValP.leqF; rfl; rfl; omega; apply LW.nil; refine thenN ?_; apply CW.condF; rfl; (with_reducible rfl); refine CW.skip ?_; refine thenN ?_; refine CW.seq ?_; refine CW.region ?_; apply LW.v0; rfl; rfl; apply ValP.move; rfl; apply LW.v0; rfl; rfl; apply ValP.fieldAddr; rfl; rfl; apply LW.load; rfl; rfl; apply Known.at; apply FsAt.tail; apply FsAt.tail; apply FsAt.head; exact op_rd10; apply LW.v0; rfl; rfl; apply ValP.eqT; rfl; rfl; omega; apply LW.v0; rfl; rfl; apply ValP.assign; rfl; apply LW.nil; refine thenN ?_; refine CW.ret ?_)
        (apply finR; exact .inl rfl; rfl; rfl; rfl; apply ResL.cons; exact Res.tmp rfl; exact ResL.nil)
        rfl
      · have hEq : ((pr : Nat) : Int) = (((U.mp + base) % 18446744073709551616 : Nat) : Int) := by omega
        (apply LW.allocA; rfl; intro _; apply LW.store; rfl; rfl; apply SetAt.head; apply op_wrW; rfl; assumption; apply LW.nil; refine thenN ?_; refine CW.seq ?_; refine CW.region ?_; apply LW.load; rfl; rfl; apply Known.at; apply FsAt.head; exact op_rdW; apply LW.callE; rfl; rfl; infer_instance; apply ArgsOk.cons; rfl; exact ArgsOk.nil; intro w _; rename_i hst; (exact hPre w (st_us hst (by (repeat (first | exact List.Sublist.refl _ | exact List.sublist_append_left _ _ | apply List.Sublist.cons | apply List.sublist_append_of_sublist_right))))); apply LW.v0; rfl; rfl; apply ValP.move; rfl; apply LW.v0; rfl; rfl; apply ValP.extractN; rfl; rfl; apply LW.v0; rfl; rfl; apply ValP.extractN; rfl; rfl; apply LW.allocW; rfl; intro _; apply LW.store; rfl; rfl; apply SetAt.head; apply Wr.whole; rfl; rfl; rfl; apply LW.v0; rfl; rfl; apply ValP.assign; rfl; apply LW.nil; refine thenN ?_; refine CW.seq ?_; refine CW.seq ?_; refine CW.region ?_; apply LW.v0; rfl; rfl; apply ValP.move; rfl; apply LW.v0; rfl; rfl; apply ValP.neF; rfl; rfl; omega; apply LW.nil; refine thenN ?_; apply CW.condF; rfl; (with_reducible rfl); refine CW.skip ?_; refine thenN ?_; refine CW.seq ?_; refine CW.region ?_; apply LW.load; rfl; rfl; apply Known.at; apply FsAt.tail; apply FsAt.head; exact op_rdW; apply LW.v0; rfl; rfl; apply ValP.move; rfl; apply LW.callE; rfl; rfl; infer_instance; apply ArgsOk.cons; rfl; apply ArgsOk.cons; rfl; exact ArgsOk.nil; intro w _; rename_i hst; (exact hPri w (st_us hst (by (repeat (first | exact List.Sublist.refl _ | exact List.sublist_append_left _ _ | apply List.Sublist.cons | apply List.sublist_append_of_sublist_right))))); apply LW.v0; rfl; rfl; apply ValP.assign; rfl; apply LW.nil; refine thenN ?_; refine CW.seq ?_; refine CW.seq ?_; refine CW.region ?_; apply LW.v0; rfl; rfl; apply ValP.move; rfl; apply LW.v0; rfl; rfl; apply ValP.fieldAddr; rfl; rfl; apply LW.load; rfl; rfl; apply Known.at; apply FsAt.tail; apply FsAt.head; exact op_rd10; apply LW.v0; rfl; rfl; apply ValP.gtrF; rfl; rfl; omega; apply LW.v0; rfl; rfl; apply ValP.move; rfl; apply LW.guardT'; rfl; rfl; (with_reducible rfl); apply LW.v0; rfl; rfl; apply ValP.move; rfl; apply LW.guardT'; rfl; rfl; (with_reducible rfl); apply LW.v0; rfl; rfl; apply ValP.fieldAddr; rfl; rfl; apply LW.guardT'; rfl; rfl; (with_reducible rfl); apply LW.load; rfl; rfl; apply Known.at; apply FsAt.tail; apply FsAt.head; exact op_rd11; apply LW.guardT'; rfl; rfl; (with_reducible rfl); apply LW.v0; rfl; rfl; apply ValP.lssF; rfl; rfl; omega; apply LW.v0; rfl; rfl; apply ValP.pickF'; rfl; (with_reducible rfl); rfl; apply LW.nil; refine thenN ?_; apply CW.condF; rfl; (with_reducible rfl); refine CW.skip ?_; refine thenN ?_; refine CW.seq ?_; refine CW.region ?_; apply LW.v0; rfl; rfl; apply ValP.fieldAddr; rfl; rfl; apply LW.load; rfl; rfl; apply Known.at; apply FsAt.tail; apply FsAt.head; exact op_rd7; apply LW.v0; rfl; rfl; apply ValP.fieldAddr; rfl; rfl; apply LW.load; rfl; rfl; apply Known.at; apply FsAt.tail; apply FsAt.head; exact op_rd8; apply LW.v0; rfl; rfl; apply ValP.addN; rfl; rfl; apply LW.v0; rfl; rfl; apply ValP.fieldAddr; rfl; rfl; apply LW.load; rfl; rfl; apply Known.at; apply FsAt.tail; apply FsAt.head; exact op_rd9; apply LW.v0; rfl; rfl; apply ValP.addN; rfl; rfl; apply LW.v0; rfl; rfl; apply ValP.fieldAddr; rfl; rfl; apply LW.load; rfl; rfl; apply Known.at; apply FsAt.tail; apply FsAt.head; exact op_rd13; apply LW.v0; rfl; rfl; apply ValP.addN; rfl; rfl; apply LW.v0; rfl; rfl; apply ValP.fieldAddr; rfl; rfl; apply LW.load; rfl; rfl; apply Known.at; apply FsAt.tail; apply FsAt.head; exact op_rd14; apply LW.v0; rfl; rfl; apply ValP.addN; rfl; rfl; apply LW.v0; rfl; rfl; apply ValP.assign; rfl; apply LW.nil; refine thenN ?_; refine CW.seq ?_; refine CW.region ?_; apply LW.v0; rfl; rfl; apply ValP.move; rfl; apply LW.callE; rfl; rfl; infer_instance; apply ArgsOk.cons; rfl; exact ArgsOk.nil; intro w _; exact hOf w; apply LW.v0; rfl; rfl; apply ValP.move; rfl; apply LW.callE; rfl; rfl; infer_instance; apply ArgsOk.cons; rfl; exact ArgsOk.nil; intro w _; exact hOf2 w; apply LW.callE; rfl; rfl; infer_instance; apply ArgsOk.cons; rfl; apply ArgsOk.cons; rfl; exact ArgsOk.nil; intro w _; exact hMul w; apply LW.v0; rfl; rfl; apply ValP.move; rfl; apply LW.v0; rfl; rfl; apply ValP.extractN; rfl; rfl; apply LW.v0; rfl; rfl; apply ValP.extractN; rfl; rfl; apply LW.allocW; rfl; intro _; apply LW.store; rfl; rfl; apply SetAt.head; apply Wr.whole; rfl; rfl; rfl; apply LW.v0; rfl; rfl; apply ValP.assign; rfl; apply LW.nil; refine thenN ?_; refine CW.seq ?_; refine CW.seq ?_; refine CW.region ?_; apply LW.v0; rfl; rfl; apply ValP.move; rfl; apply LW.v0; rfl; rfl; apply ValP.move; rfl; apply LW.guardT'; rfl; rfl; (with_reducible rfl); apply LW.load; rfl; rfl; apply Known.at; apply FsAt.head; exact Rd.whole rfl; apply LW.guardT'; rfl; rfl; (with_reducible rfl); apply LW.load; rfl; rfl; apply Known.at; apply FsAt.tail; apply FsAt.head; exact Rd.whole rfl; apply LW.guardT'; rfl; rfl; (with_reducible rfl); apply LW.callE; rfl; rfl; infer_instance; apply ArgsOk.cons; rfl; apply ArgsOk.cons; rfl; exact ArgsOk.nil; intro w _; exact hCmp w; apply LW.guardT'; rfl; rfl; (with_reducible rfl); apply LW.v0; rfl; rfl; apply ValP.gtrF; rfl; rfl; omega; apply LW.v0; rfl; rfl; apply ValP.pickF'; rfl; (with_reducible rfl); rfl; apply LW.nil; refine thenN ?_; apply CW.condF; rfl; (with_reducible rfl); refine CW.skip ?_; refine thenN ?_; refine CW.seq ?_; refine CW.seq ?_; refine CW.region ?_; apply LW.v0; rfl; rfl; apply ValP.move; rfl; apply LW.v0; rfl; rfl; apply ValP.fieldAddr; rfl; rfl; apply LW.load; rfl; rfl; apply Known.at; apply FsAt.tail; apply FsAt.tail; apply FsAt.head; exact op_rd10; apply LW.v0; rfl; rfl; apply ValP.fieldAddr; rfl; rfl; apply LW.load; rfl; rfl; apply Known.at; apply FsAt.tail; apply FsAt.tail; apply FsAt.head; exact op_rd11; apply LW.v0; rfl; rfl; apply ValP.subN; rfl; rfl; omega; omega; apply LW.v0; rfl; rfl; apply ValP.leqT; rfl; rfl; omega; apply LW.nil; refine thenN ?_; apply CW.condT; rfl; (with_reducible rfl); refine CW.seq ?_; refine CW.region ?_; apply LW.v0; rfl; rfl; apply ValP.move; rfl; apply LW.v0; rfl; rfl; apply ValP.fieldAddr; rfl; rfl; apply LW.load; rfl; rfl; apply Known.at; apply FsAt.tail; apply FsAt.tail; apply FsAt.head; exact op_rd11; apply LW.v0; rfl; rfl; apply ValP.move; rfl; apply LW.v0; rfl; rfl; apply ValP.addN; rfl; rfl; apply LW.v0; rfl; rfl; apply ValP.eqT; rfl; rfl; omega; apply LW.v0; rfl; rfl; apply ValP.assign; rfl; apply LW.nil; refine thenN ?_; refine CW.ret ?_; refine thenR ?_)
        (apply finR; exact .inl rfl; rfl; rfl; rfl; apply ResL.cons; exact Res.tmp rfl; exact ResL.nil)
        rfl
  · have hPre := hPre0
    rw [if_neg ho, if_neg ho] at hPre
    (apply LW.allocA; rfl; intro _; apply LW.store; rfl; rfl; apply SetAt.head; apply op_wrW; rfl; assumption; apply LW.nil; refine thenN ?_; refine CW.seq ?_; refine CW.region ?_; apply LW.load; rfl; rfl; apply Known.at; apply FsAt.head; exact op_rdW; apply LW.callE; rfl; rfl; infer_instance; apply ArgsOk.cons; rfl; exact ArgsOk.nil; intro w _; rename_i hst; (exact hPre w (st_us hst (by (repeat (first | exact List.Sublist.refl _ | exact List.sublist_append_left _ _ | apply List.Sublist.cons | apply List.sublist_append_of_sublist_right))))); apply LW.v0; rfl; rfl; apply ValP.move; rfl; apply LW.v0; rfl; rfl; apply ValP.extractN; rfl; rfl; apply LW.v0; rfl; rfl; apply ValP.extractN; rfl; rfl; apply LW.allocW; rfl; intro _; apply LW.store; rfl; rfl; apply SetAt.head; apply Wr.whole; rfl; rfl; rfl; apply LW.v0; rfl; rfl; apply ValP.assign; rfl; apply LW.nil; refine thenN ?_; refine CW.seq ?_; refine CW.seq ?_; refine CW.region ?_; apply LW.v0; rfl; rfl; apply ValP.move; rfl; apply LW.v0; rfl; rfl; apply ValP.neT; rfl; rfl; omega; apply LW.nil; refine thenN ?_; apply CW.condT; rfl; (with_reducible rfl); refine CW.seq ?_; refine CW.region ?_; apply LW.load; rfl; rfl; apply Known.at; apply FsAt.head; exact Rd.whole rfl; apply LW.v0; rfl; rfl; exact ValP.buildW0; apply LW.v0; rfl; rfl; apply ValP.eqWT; rfl; rfl; (with_reducible rfl); apply LW.v0; rfl; rfl; apply ValP.assign; rfl; apply LW.nil; refine thenN ?_; refine CW.ret ?_; refine thenR ?_)
    (apply finR; exact .inl rfl; rfl; rfl; rfl; apply ResL.cons; exact Res.tmp rfl; exact ResL.nil)
    rfl
end Go.Proofs.Ytobkhnmglbfheaa

/-
  A SMALL LOGIC OVER THE KIT's WALK, PART MN: structs of plain cells, compared with themselves.
  Conditions: none; over any program.
-/
namespace Go.Proofs.Ytobkhnmglbfheaa.SL
set_option linter.unusedVariables false
set_option linter.unusedSimpArgs false
open Go Go.RowKit
section
variable {P : Program} {e : Env} {T ty : TypeId} {x y : Operand} {xs : Array Value}
def plainCell (P : Program) (T : TypeId) (v : Option Value) : Bool :=
  match P.underlying T, v with
  | some .bool, some (.bool _) => true
  | some (.int _), some (.int _ _) => true
  | some .string, some (.string _) => true
  | _, _ => false
def sameFs (P : Program) (xs : Array Value) (fs : List Field) : Bool := fs.all fun f => (f.name != "_") && plainCell P f.type xs[f.offset]?
/-- A struct of plain cells, and a value of it. -/
def sameB (P : Program) (T : TypeId) (xs : Array Value) : Bool :=
  match P.underlying T with
  | some (.struct fs) => !P.stoodInHeld T && !P.eqGuardType P.depth T && sameFs P xs fs.toList
  | _ => false
theorem cell_same {T : TypeId} {off : Nat} (h : plainCell P T xs[off]? = true) (d : Nat) (w : World) : ∃ a, (part T xs off).run P w = .ok a w ∧ (Op.equalIn (d + 1) T a a).run P w = .ok true w := by
  unfold plainCell at h
  split at h
  · rename_i b hu hx
    refine ⟨.bool b, by simp [part, isAgg, run_underlying hu, hx], ?_⟩
    rw [Op.equalIn.eq_def]
    simp [Sem.run_bind, run_underlying hu, Result.andThen_ok]
  · rename_i k k' n hu hx
    refine ⟨.int k' n, by simp [part, isAgg, run_underlying hu, hx], ?_⟩
    rw [Op.equalIn.eq_def]
    simp [Sem.run_bind, run_underlying hu, Result.andThen_ok]
  · rename_i s hu hx
    refine ⟨.string s, by simp [part, isAgg, run_underlying hu, hx], ?_⟩
    rw [Op.equalIn.eq_def]
    simp only [Sem.run_bind, run_underlying hu, Result.andThen_ok, beq_toListBytes]
    simp
  · cases h
theorem fs_same (d : Nat) (w : World) : ∀ (fs : List Field), sameFs P xs fs = true → (Op.eqFields (d + 1) xs xs fs).run P w = .ok true w
  | [], _ => by simp [Op.eqFields]
  | f :: fs, h => by
    simp only [sameFs, List.all_cons, Bool.and_eq_true, bne_iff_ne, ne_eq] at h
    obtain ⟨⟨hn, hc⟩, hr⟩ := h
    obtain ⟨a, h1, h2⟩ := cell_same hc d w
    have ih := fs_same d w fs hr
    simp only [Op.eqFields, hn, ne_eq, not_false_eq_true, if_true, Sem.run_bind, h1, h2, Result.andThen_ok]
    simpa using ih
theorem run_same (h : sameB P T xs = true) (w : World) : (Op.equal T (.agg xs) (.agg xs)).run P w = .ok true w ∧ P.eqGuardType P.depth T = false := by
  unfold sameB at h
  split at h
  · rename_i fs hu
    simp only [Bool.and_eq_true, Bool.not_eq_true'] at h
    obtain ⟨⟨h1, h2⟩, h3⟩ := h
    have hf : P.fieldsOf T = fs := by simp [Program.fieldsOf, hu]
    refine ⟨?_, h2⟩
    unfold Op.equal
    rw [show Op.maxDepth = (Op.maxDepth - 1) + 1 from rfl, run_equalIn_struct w _ T xs xs (by rw [hf]; exact hu) h1, hf, show Op.maxDepth - 1 = (Op.maxDepth - 2) + 1 from rfl]
    exact fs_same _ w _ h3
  · cases h
theorem guard_same {op : BinOp} (h : sameB P T xs = true) (w : World) : (eqGuard op T x y (.agg xs) (.agg xs)).run P w = .ok () w := by
  have h5 := (run_same h w).2
  unfold eqGuard
  cases op <;> simp [Sem.run_bind, run_program, h5]
theorem ValP.eqlSame (hx : e.ev x = some (.agg xs)) (hy : e.ev y = some (.agg xs)) (h : sameB P T xs = true) : ValP P e [] (.binOp .eql T x y ty) (.bool true) :=
  .bin hx hy (fun w => guard_same h w) fun w => by simp [binOp, (run_same h w).1]
theorem ValP.neqSame (hx : e.ev x = some (.agg xs)) (hy : e.ev y = some (.agg xs)) (h : sameB P T xs = true) : ValP P e [] (.binOp .neq T x y ty) (.bool false) :=
  .bin hx hy (fun w => guard_same h w) fun w => by simp [binOp, (run_same h w).1]
end
theorem blkQ_mono {id : Nat} {Q Q' : Post} (h : ∀ x ds e fs, Q x ds e fs → Q' x ds e fs) : ∀ x ds e fs, blkQ id Q x ds e fs → blkQ id Q' x ds e fs := fun x ds e fs hx => by
  cases x with
  | exit k =>
    simp only [blkQ] at hx ⊢
    split at hx <;> exact h _ _ _ _ hx
  | _ => exact h _ _ _ _ hx
theorem cut_then {C : Cu} {y : Code} {Q Q' : Post} {e1 : Env} {fs1 : Fs} (k : CW C y Q e1 fs1) : ∀ x ds e fs, thenQ (cutQ C e1 fs1) Q' x ds e fs → thenQ (thenC C y Q) Q' x ds e fs := fun x ds e fs hx => by
  cases x with
  | normal => obtain ⟨rfl, h2, h3⟩ := hx; exact CW.weak (C := C) e1 fs1 h2 h3 k
  | _ => exact hx
/-- What is behind two blocks, told once. -/
theorem CW.cutBB {C : Cu} {c y : Code} {Q Q' : Post} {e : Env} {fs : Fs} {id id2 : Nat} (e1 : Env) (fs1 : Fs) (k : CW C y Q e1 fs1) (h : CW C c (blkQ id (blkQ id2 (thenQ (cutQ C e1 fs1) Q'))) e fs) : CW C c (blkQ id (blkQ id2 (thenQ (thenC C y Q) Q'))) e fs :=
  CW.mono (blkQ_mono (blkQ_mono (cut_then k))) h
end Go.Proofs.Ytobkhnmglbfheaa.SL

/-
  A SMALL LOGIC OVER THE KIT's WALK, PART MO: a region that draws its order, and whose operations and callees turn nothing: one walk.
  Conditions: none; over any program.
-/
namespace Go.Proofs.Ytobkhnmglbfheaa.SL
set_option linter.unusedVariables false
set_option linter.unusedSimpArgs false
open Go Go.RowKit
/-- From all that is known here, the quiet operations come to Q. -/
def QW (C : Cu) (ops : Array Oper) (Q : Post) (l : List Oper) (e : Env) (fs : Fs) : Prop :=
  ∀ a, EnvOk C.N C.ds e a → wpQuietIn (FR C.r) 0 C.P ops (fun w => St C.w0 C.S fs w) (fun a' => ∀ w', St C.w0 C.S fs w' → down C Q .normal a' w') l a
theorem CW.quiet {C : Cu} {id : Nat} {l : List Oper} {Q : Post} {e : Env} {fs : Fs} (hr : C.r = none) (hm : C.P.follows .mixedOrders = true) (hB : Region.lexB .any l.toArray = true) (h : QW C l.toArray Q l e fs) : CW C (.region id l.toArray true) Q e fs := fun a w hs =>
  wpIn_region_quiet (C := fun w => St C.w0 C.S fs w) hr hm hB ⟨hs.st.bel.drew, hs.st.own, hs.st.nd⟩ (by simpa using h a hs.env)
section
variable {C : Cu} {ops : Array Oper} {Q : Post} {rest : List Oper} {e : Env} {fs : Fs} {d : Nat} {op : Op} {t : TypeId} {pos : String} {af : Array Edge} {g : Option (Nat × Bool)}
theorem QW.nil (h : Q .normal C.ds e fs) : QW C ops Q [] e fs := fun a ha w' hw => ⟨C.ds, e, fs, h, ⟨ha, hw⟩⟩
theorem QW.vk {v : Value} {us : Fs} (hd : Nat.blt d C.N = true) (hg : WantT ops e g) (h : ValP C.P e us op v) (hus : ∀ p ∈ us, Known C fs p) (k : QW C ops Q rest ((d, v) :: e) fs) : QW C ops Q (⟨some d, op, t, pos, af, g⟩ :: rest) e fs := fun a ha =>
  ⟨fun _ _ _ _ => trivial, by
    rw [if_pos (hg.wanted ha)]
    refine ⟨v, fun w hw => ?_, k _ (ha.put hd)⟩
    unfold Oper.quietAtIn
    rw [h a.eval w ha.Ev (fun p hp => (hus p hp).get hw)]
    exact ⟨rfl, rfl⟩⟩
theorem QW.v0 {v : Value} (hd : Nat.blt d C.N = true) (hg : WantT ops e g) (h : ValP C.P e [] op v) (k : QW C ops Q rest ((d, v) :: e) fs) : QW C ops Q (⟨some d, op, t, pos, af, g⟩ :: rest) e fs :=
  QW.vk hd hg h (by simp) k
theorem QW.load {T : TypeId} {x : Operand} {b off : Nat} {o : Obj} {v : Value} (hd : Nat.blt d C.N = true) (hg : WantT ops e g) (hx : e.ev x = some (.pointer (some ⟨b, off, none⟩))) (hp : Known C fs (b, o)) (h : Rd C.P T o off v) (k : QW C ops Q rest ((d, v) :: e) fs) :
    QW C ops Q (⟨some d, .load T x, t, pos, af, g⟩ :: rest) e fs := QW.vk hd hg (.load hx h) (by simpa using hp) k
theorem QW.skip {j s : Nat} {gb b : Bool} (hd : Nat.blt d C.N = true) (hs : (ops[j]?).bind (·.dst) = some s) (he : e.get s = some (.bool b)) (hb : b = !gb) (k : QW C ops Q rest ((d, undef) :: e) fs) : QW C ops Q (⟨some d, op, t, pos, af, some (j, gb)⟩ :: rest) e fs := fun a ha =>
  ⟨fun _ _ _ _ => trivial, by
    have hy : yielded ops a.tmps j = some (!gb) := by simp [yielded, hs, ha.get s _ he, hb]
    rw [if_neg (by cases gb <;> simp [Region.wanted, hy])]
    exact k _ (ha.put hd)⟩
theorem QW.skipU {j s : Nat} {gb : Bool} (hd : Nat.blt d C.N = true) (hs : (ops[j]?).bind (·.dst) = some s) (he : e.get s = some undef) (k : QW C ops Q rest ((d, undef) :: e) fs) : QW C ops Q (⟨some d, op, t, pos, af, some (j, gb)⟩ :: rest) e fs := fun a ha =>
  ⟨fun _ _ _ _ => trivial, by
    have hy : yielded ops a.tmps j = none := by simp [yielded, hs, ha.get s _ he, undef]
    rw [if_neg (by simp [Region.wanted, hy])]
    exact k _ (ha.put hd)⟩
theorem QW.callE {fo : Operand} {args : Array Operand} {tys : Array TypeId} {f : FuncId} {vs : List Value} {v : Value} (hd : Nat.blt d C.N = true) (hg : WantT ops e g) (hf : e.ev fo = some (.func (.func f) #[] #[])) (hF : FnI C.P f) (ha : ArgsOk e args.toList vs)
    (hc : ∀ w, St C.w0 C.S fs w → Calls C.P f vs.toArray w (Ret w v)) (k : QW C ops Q rest ((d, v) :: e) fs) : QW C ops Q (⟨some d, .call { callee := .value fo, args := args, argTypes := tys }, t, pos, af, g⟩ :: rest) e fs := fun a hae =>
  ⟨fun _ _ _ _ => trivial, by
    rw [if_pos (hg.wanted hae)]
    refine ⟨v, fun w hw => ?_, k _ (hae.put hd)⟩
    unfold Oper.quietAtIn
    have hrun := CallP.fn (P := C.P) (tys := tys) hf ha a.eval w hae.Ev (some d) t pos af g
    rw [hrun, arr_id]
    refine ⟨rfl, fun h => (by cases h), CallsIn.mono (calls_FR (hc w hw)) fun x w' hx => ?_⟩
    exact ⟨hx.1, by have := hw.call (gs := []) hx.2 (by simp) .nil; simpa using this⟩⟩
end
end Go.Proofs.Ytobkhnmglbfheaa.SL

/-
  What operations may cost, and their factories: the law.
  Conditions: none.
-/
namespace Go.Proofs.Ytobkhnmglbfheaa
open Go Go.RowKit SL
set_option maxRecDepth 8000
set_option maxHeartbeats 4000000
set_option linter.unusedSimpArgs false
set_option linter.unusedVariables false
attribute [local irreducible] SL.CW SL.LW SL.DW Calls SL.Ret SL.RetG SL.beginQ SL.roundQ SL.rangeQ SL.inQ SL.RW SL.AnyW SL.thenQ SL.thenC SL.thenW SL.blkQ SL.finQ SL.ValP SL.NewP SL.SetP SL.CallP SL.Rd SL.Wr SL.Known
theorem UseropCosts_walk (v0 : Value) (l0 : List OpV) (v1 : Value) (l1 : List Nat) (hl1 : ∀ x ∈ l1, x < 18446744073709551616) (w : World) (hr0 : OpsAt w v0 l0) (hr1 : RowAt w 1 v1 l1.length (ncs l1)) : Calls Try.prog 7 #[v0, v1] w (Ret w (.bool true)) := by
  obtain ⟨p0, c0, rfl, hc0, hm0⟩ := hr0.row.form
  obtain ⟨p1, c1, rfl, hc1, hm1⟩ := hr1.form
  simp only [maxLen] at hm0 hm1
  refine enter (args := [_, _]) _ [] [] Try.func7 rfl Try.ntmps7 rfl (by simp) .nil ?_
  (refine CW.seq ?_; refine CW.region ?_; apply LW.v0; rfl; rfl; apply ValP.assign; rfl; apply LW.nil; refine thenN ?_; refine CW.seq ?_; refine CW.seq ?_; refine CW.region ?_; apply LW.callE; rfl; rfl; infer_instance; exact ArgsOk.nil; intro w _; exact wakes_u_calls w; apply LW.v0; rfl; rfl; apply ValP.notT; rfl; (with_reducible rfl); apply LW.nil; refine thenN ?_; apply CW.condF; rfl; (with_reducible rfl); refine CW.skip ?_; refine thenN ?_; refine CW.seq ?_; refine CW.seq ?_; refine CW.region ?_; apply LW.v0; rfl; rfl; apply ValP.move; rfl; apply LW.v0; rfl; rfl; apply ValP.lenR; rfl; infer_instance; rfl; apply LW.v0; rfl; rfl; apply ValP.move; rfl; apply LW.nil; refine thenN ?_; refine CW.block ?_)
  refine CW.loop (fun m : Nat => ([(19, .int .i64 (m : Int)), (18, .int .i64 (l0.length : Int)), (17, .slice p0 l0.length c0), (1, .slice p1 l1.length c1)], []))
    (fun m => m ≤ l0.length ∧ m ≤ 8) (fun m => l0.length - m) 0 ⟨Nat.zero_le _, Nat.zero_le _⟩ ⟨rfl, rfl, rfl, rfl, trivial⟩ (List.Sublist.refl _) ?_
  rintro m ⟨hml, hm8⟩
  dsimp only
  rcases Nat.lt_or_ge m l0.length with hlt | hge
  · obtain ⟨bb, off, c', cs, E, fr, heq, hb', hx⟩ := hr0.row.pos (by omega)
    cases heq
    have hrd : Rd Try.prog 30 (.cells cs E fr) (off + m * 17) (.agg (opa l0[m])) := Rd.elemA (g := opc) (l := l0) (a := l0[m]) hx (opc_len l0) (List.getElem?_eq_getElem hlt)
    have hu := hr0.at_ l0[m] (List.getElem_mem hlt)
    generalize l0[m] = u at hrd hu
    have hslu := hu.sl
    rcases Nat.lt_or_ge m 8 with h8 | h8
    · (refine CW.seq ?_; refine CW.region ?_; apply LW.v0; rfl; rfl; apply ValP.lssT; rfl; rfl; omega; apply LW.nil; refine thenN ?_; refine CW.seq ?_; apply CW.condT; rfl; (with_reducible rfl); refine CW.skip ?_; refine thenN ?_; refine CW.seq ?_; refine CW.block ?_; refine CW.seq ?_; refine CW.region ?_; apply LW.v0; rfl; rfl; apply ValP.move; rfl; apply LW.v0; rfl; rfl; apply ValP.indexAddrS; rfl; rfl; rfl; omega; apply LW.load; rfl; rfl; exact Known.ext (by assumption) (by simp); assumption; apply LW.allocA; rfl; intro _; apply LW.v0; rfl; rfl; apply ValP.assign; rfl; apply LW.store; rfl; rfl; apply SetAt.head; apply op_wrW; rfl; assumption; apply LW.nil; refine thenN ?_; refine CW.seq ?_; refine CW.seq ?_; refine CW.region ?_; apply LW.v0; rfl; rfl; apply ValP.move; rfl; apply LW.v0; rfl; rfl; apply ValP.eqF; rfl; rfl; omega; apply LW.nil; refine thenN ?_; apply CW.condF; rfl; (with_reducible rfl); refine CW.skip ?_; refine thenN ?_; refine CW.seq ?_; refine CW.region ?_; apply LW.load; rfl; rfl; apply Known.at; apply FsAt.head; exact op_rdW)
      refine LW.callR rfl rfl inferInstance (by (apply ArgsOk.cons; rfl; exact ArgsOk.nil)) (fun w hst => few_u_calls u w (hu.st hst)) ?_
      rintro v4 gs ⟨a, b, c, d, rfl, hG⟩
      obtain ⟨U, hU⟩ : ∃ U, cutO u a b c d = U := ⟨_, rfl⟩
      rw [hU] at hG ⊢
      clear hU hrd hu hslu
      refine LW.st fun w1 hst1 => ?_
      have hslU : OpSl U := (hG w1 (st_us hst1 (by (exact List.sublist_append_left _ _)))).sl
      have hn : OpNum U := (hG w1 (st_us hst1 (by (exact List.sublist_append_left _ _)))).num
      obtain ⟨p5, c5, h5, hc5, hm5⟩ := (hG w1 (st_us hst1 (by (exact List.sublist_append_left _ _)))).i.form
      clear hst1 w1
      simp only [maxLen] at hm5
      have hr5 : ∀ {E fr}, Rd Try.prog 24 (.cells (opa U) E fr) 5 (.slice p5 U.ib.length c5) := fun {E fr} => by rw [← h5]; exact op_rd5
      have hi : ∀ w', (∀ q ∈ gs, w'.heap[q.1]? = some q.2) → RowAt w' 1 (.slice p5 U.ib.length c5) U.ib.length (ucs U.ib) := fun w' h => by rw [← h5]; exact (hG w' h).i
      have hPre0 : ∀ w', (∀ q ∈ gs, w'.heap[q.1]? = some q.2) → Calls Try.prog 24 #[.agg (opa U)] w' (Ret w' (.tuple #[wv (if okU U then gasU U * U.mf else 0), .int .i64 (if okU U then 0 else 280)])) := fun w' h => Prefund_calls U w' (hG w' h)
      have hRt0 : ∀ w', (∀ q ∈ gs, w'.heap[q.1]? = some q.2) → Calls Try.prog 23 #[.agg (opa U)] w' (Ret w' (.bool (decide (okU U)))) := fun w' h => Right_calls U w' (hG w' h)
      by_cases ho : okU U
      · have hPre := hPre0
        rw [if_pos ho, if_pos ho] at hPre
        have hRt := hRt0
        rw [decide_eq_true ho] at hRt
        clear hPre0 hRt0
        have hRp : ∀ w', (∀ q ∈ gs, w'.heap[q.1]? = some q.2) → Calls Try.prog 25 #[.agg (opa U)] w' (Ret w' (wv (gasU U * U.mf))) := fun w' h => rPrefund_calls U w' (hG w' h) ho
        obtain ⟨P, hP⟩ : ∃ P, gasU U * U.mf = P := ⟨_, rfl⟩
        rw [hP] at hPre hRp
        (apply LW.allocA; rfl; intro _; apply LW.store; rfl; rfl; apply SetAt.head; apply op_wrW; rfl; assumption; apply LW.nil; refine thenN ?_; refine CW.seq ?_; refine CW.region ?_; apply LW.load; rfl; rfl; apply Known.at; apply FsAt.head; exact op_rdW; apply LW.callE; rfl; rfl; infer_instance; apply ArgsOk.cons; rfl; exact ArgsOk.nil; intro w _; rename_i hst; (exact hRt w (st_us hst (by (repeat (first | exact List.Sublist.refl _ | exact List.sublist_append_left _ _ | apply List.Sublist.cons | apply List.sublist_append_of_sublist_right))))); apply LW.v0; rfl; rfl; apply ValP.assign; rfl; apply LW.nil; refine thenN ?_; refine CW.seq ?_; refine CW.region ?_; apply LW.load; rfl; rfl; apply Known.at; apply FsAt.head; exact op_rdW; apply LW.callE; rfl; rfl; infer_instance; apply ArgsOk.cons; rfl; exact ArgsOk.nil; intro w _; rename_i hst; (exact hPre w (st_us hst (by (repeat (first | exact List.Sublist.refl _ | exact List.sublist_append_left _ _ | apply List.Sublist.cons | apply List.sublist_append_of_sublist_right))))); apply LW.v0; rfl; rfl; apply ValP.move; rfl; apply LW.v0; rfl; rfl; apply ValP.extractN; rfl; rfl; apply LW.v0; rfl; rfl; apply ValP.extractN; rfl; rfl; apply LW.allocW; rfl; intro _; apply LW.store; rfl; rfl; apply SetAt.head; apply Wr.whole; rfl; rfl; rfl; apply LW.v0; rfl; rfl; apply ValP.assign; rfl; apply LW.nil; refine thenN ?_; refine CW.seq ?_; refine CW.seq ?_; refine CW.quiet rfl mixed (by decide +kernel) ?_; apply QW.v0; rfl; exact WantT.none; apply ValP.move; rfl; apply QW.v0; rfl; exact WantT.none; apply ValP.move; rfl; apply QW.v0; rfl; apply wantYes; rfl; rfl; (with_reducible rfl); apply ValP.move; rfl; apply QW.v0; rfl; apply wantYes; rfl; rfl; (with_reducible rfl); apply ValP.neF; rfl; rfl; omega; apply QW.v0; rfl; apply wantYes; rfl; rfl; (with_reducible rfl); apply ValP.move; rfl; apply QW.load; rfl; apply wantYes; rfl; rfl; (with_reducible rfl); rfl; apply Known.at; apply FsAt.head; exact Rd.whole rfl; apply QW.load; rfl; apply wantYes; rfl; rfl; (with_reducible rfl); rfl; apply Known.at; apply FsAt.tail; apply FsAt.head; exact op_rdW; apply QW.callE; rfl; apply wantYes; rfl; rfl; (with_reducible rfl); rfl; infer_instance; apply ArgsOk.cons; rfl; exact ArgsOk.nil; intro w _; rename_i hst; (exact hRp w (st_us hst (by (repeat (first | exact List.Sublist.refl _ | exact List.sublist_append_left _ _ | apply List.Sublist.cons | apply List.sublist_append_of_sublist_right))))); apply QW.v0; rfl; apply wantYes; rfl; rfl; (with_reducible rfl); apply ValP.neWF; rfl; rfl; (with_reducible rfl); apply QW.v0; rfl; apply wantYes; rfl; rfl; (with_reducible rfl); apply ValP.pickF'; rfl; (with_reducible rfl); rfl; apply QW.v0; rfl; exact WantT.none; apply ValP.pickT'; rfl; (with_reducible rfl); rfl; apply QW.v0; rfl; exact WantT.none; apply ValP.move; rfl; apply QW.v0; rfl; apply wantYes; rfl; rfl; (with_reducible rfl); apply ValP.move; rfl; apply QW.v0; rfl; apply wantYes; rfl; rfl; (with_reducible rfl); apply ValP.notT; rfl; (with_reducible rfl); apply QW.v0; rfl; apply wantYes; rfl; rfl; (with_reducible rfl); apply ValP.move; rfl; apply QW.skip; rfl; rfl; rfl; simp only [Bool.not_true, Bool.not_false]; apply QW.skip; rfl; rfl; rfl; simp only [Bool.not_true, Bool.not_false]; apply QW.skip; rfl; rfl; rfl; simp only [Bool.not_true, Bool.not_false]; apply QW.skipU; rfl; rfl; rfl; apply QW.skipU; rfl; rfl; rfl; apply QW.skipU; rfl; rfl; rfl; apply QW.skip; rfl; rfl; rfl; simp only [Bool.not_true, Bool.not_false]; apply QW.v0; rfl; apply wantYes; rfl; rfl; (with_reducible rfl); apply ValP.pickF'; rfl; (with_reducible rfl); rfl; apply QW.v0; rfl; exact WantT.none; apply ValP.pickF'; rfl; (with_reducible rfl); rfl; refine QW.nil ?_; refine thenN ?_; apply CW.condF; rfl; (with_reducible rfl); refine CW.skip ?_; refine thenN ?_; refine CW.seq ?_; refine CW.region ?_; apply LW.load; rfl; rfl; apply Known.at; apply FsAt.tail; apply FsAt.head; exact op_rdW)
        rename_i b7 b9
        refine LW.callR rfl rfl inferInstance (by (apply ArgsOk.cons; rfl; exact ArgsOk.nil)) (fun w hst => Factory_calls U w (hG w (st_us hst (by (apply List.Sublist.cons; apply List.Sublist.cons; exact List.sublist_append_left _ _))))) ?_
        rintro v5 gs5 ⟨bv, rfl, hrow⟩
        rcases Nat.eq_zero_or_pos U.ib.length with h0 | h0
        · have hfa : facA U = 0 := if_neg (fun h => by omega)
          have hfb : facB U = [] := if_neg (fun h => by omega)
          replace hrow : IsRow 5 1 bv 0 (ucs []) gs5 := by rw [hfb] at hrow; exact hrow
          rw [hfa]
          obtain ⟨pb, cb, rfl⟩ := hrow.form
          rw [h0] at hr5
          (apply LW.v0; rfl; rfl; apply ValP.move; rfl; apply LW.v0; rfl; rfl; apply ValP.extractN; rfl; rfl; apply LW.v0; rfl; rfl; apply ValP.extractN; rfl; rfl; apply LW.v0; rfl; rfl; apply ValP.assign; rfl; apply LW.v0; rfl; rfl; apply ValP.assign; rfl; apply LW.nil; refine thenN ?_; refine CW.seq ?_; refine CW.seq ?_; refine CW.region ?_; apply LW.v0; rfl; rfl; apply ValP.move; rfl; apply LW.v0; rfl; rfl; apply ValP.notT; rfl; (with_reducible rfl); apply LW.v0; rfl; rfl; apply ValP.move; rfl; apply LW.guardT'; rfl; rfl; (with_reducible rfl); apply LW.v0; rfl; rfl; apply ValP.fieldAddr; rfl; rfl; apply LW.guardT'; rfl; rfl; (with_reducible rfl); apply LW.load; rfl; rfl; apply Known.at; apply FsAt.app; apply FsAt.tail; apply FsAt.head; exact hr5; apply LW.guardT'; rfl; rfl; (with_reducible rfl); apply LW.v0; rfl; rfl; apply ValP.lenR; rfl; infer_instance; rfl; apply LW.guardT'; rfl; rfl; (with_reducible rfl); apply LW.v0; rfl; rfl; apply ValP.eqT; rfl; rfl; omega; apply LW.v0; rfl; rfl; apply ValP.pickF'; rfl; (with_reducible rfl); rfl; apply LW.nil; refine thenN ?_; apply CW.condT; rfl; (with_reducible rfl); refine CW.seq ?_; refine CW.region ?_; apply LW.v0; rfl; rfl; apply ValP.move; rfl; apply LW.v0; rfl; rfl; apply ValP.neF; rfl; rfl; omega; apply LW.v0; rfl; rfl; apply ValP.move; rfl; apply LW.guardT'; rfl; rfl; (with_reducible rfl); apply LW.v0; rfl; rfl; apply ValP.move; rfl; apply LW.guardT'; rfl; rfl; (with_reducible rfl); apply LW.v0; rfl; rfl; apply ValP.lenR; rfl; infer_instance; rfl; apply LW.guardT'; rfl; rfl; (with_reducible rfl); apply LW.v0; rfl; rfl; apply ValP.neF; rfl; rfl; omega; apply LW.v0; rfl; rfl; apply ValP.pickF'; rfl; (with_reducible rfl); rfl; apply LW.nil; refine thenN ?_; apply CW.condF; rfl; (with_reducible rfl); refine CW.skip ?_; refine thenN ?_; refine CW.seq ?_; refine CW.region ?_; apply LW.v0; rfl; rfl; apply ValP.move; rfl; apply LW.v0; rfl; rfl; apply ValP.lenR; rfl; infer_instance; rfl; apply LW.v0; rfl; rfl; apply ValP.move; rfl; apply LW.nil; refine thenN ?_; refine CW.block ?_)
          refine CW.cutBB [(19, .int .i64 (m : Int)), (18, .int .i64 (l0.length : Int)), (17, .slice (some ⟨bb, off, none⟩) l0.length c0), (1, .slice p1 l1.length c1)] [] ?_ ?_
          · (refine CW.region ?_; apply LW.v0; rfl; rfl; apply ValP.addZL; rfl; rfl; decide; omega; apply LW.v0; rfl; rfl; apply ValP.move; rfl; apply LW.nil)
            apply thenX
            exact ⟨rfl, m + 1, ⟨hlt, h8⟩, by omega, ⟨rfl, rfl, rfl, rfl, trivial⟩, List.nil_sublist _⟩
          refine CW.loop (fun k : Nat => ([(94, .int .i64 (k : Int)), (93, .int .i64 (l1.length : Int)), (92, .slice p1 l1.length c1), (7, .pointer (some ⟨b7, 0, none⟩)), (19, .int .i64 (m : Int)), (18, .int .i64 (l0.length : Int)), (17, .slice (some ⟨bb, off, none⟩) l0.length c0), (1, .slice p1 l1.length c1)], (b7, .cells (opa U) 30 (0, 0)) :: gs))
            (fun k => k ≤ l1.length ∧ k ≤ 6) (fun k => l1.length - k) 0 ⟨Nat.zero_le _, Nat.zero_le _⟩ ⟨rfl, rfl, rfl, rfl, rfl, rfl, rfl, rfl, trivial⟩ (by (apply List.sublist_append_of_sublist_right; apply List.Sublist.cons; exact List.sublist_append_left _ _)) ?_
          rintro k ⟨hkl, hk6⟩
          dsimp only
          rcases Nat.lt_or_ge k l1.length with hlt1 | hge1
          · obtain ⟨bt, offt, ct', cst, Et, frt, heqt, hbt', hxt⟩ := hr1.pos (by omega)
            cases heqt
            have hrdt : Rd Try.prog 25 (.cells cst Et frt) (offt + k * 1) (.int .u64 ((l1[k] : Nat) : Int)) := Rd.elem1 hxt (ncs_one l1) (List.getElem?_eq_getElem hlt1) rfl
            have hb64 := hl1 _ (List.getElem_mem hlt1)
            generalize l1[k] = base at hrdt hb64
            have hP1 : ∀ w', (∀ q ∈ gs, w'.heap[q.1]? = some q.2) → Calls Try.prog 28 #[.agg (opa U), .int .u64 (base : Int)] w' (Ret w' (.int .u64 (priceU U base : Int))) := fun w' h => Price_calls U base w' (hG w' h) hb64
            have hP2 : ∀ w', (∀ q ∈ gs, w'.heap[q.1]? = some q.2) → Calls Try.prog 29 #[.agg (opa U), .int .u64 (base : Int)] w' (Ret w' (.int .u64 (priceU U base : Int))) := fun w' h => rPrice_calls U base w' hn hb64
            rcases Nat.lt_or_ge k 6 with h6 | h6
            · (refine CW.seq ?_; refine CW.region ?_; apply LW.v0; rfl; rfl; apply ValP.lssT; rfl; rfl; omega; apply LW.nil; refine thenN ?_; refine CW.seq ?_; apply CW.condT; rfl; (with_reducible rfl); refine CW.skip ?_; refine thenN ?_; refine CW.seq ?_; refine CW.block ?_; refine CW.seq ?_; refine CW.region ?_; apply LW.v0; rfl; rfl; apply ValP.move; rfl; apply LW.v0; rfl; rfl; apply ValP.indexAddrS; rfl; rfl; rfl; omega; apply LW.load; rfl; rfl; exact Known.ext (by assumption) (by simp); assumption; apply LW.v0; rfl; rfl; apply ValP.assign; rfl; apply LW.v0; rfl; rfl; apply ValP.assign; rfl; apply LW.nil; refine thenN ?_; refine CW.seq ?_; refine CW.seq ?_; refine CW.region ?_; apply LW.v0; rfl; rfl; apply ValP.move; rfl; apply LW.v0; rfl; rfl; apply ValP.eqF; rfl; rfl; omega; apply LW.nil; refine thenN ?_; apply CW.condF; rfl; (with_reducible rfl); refine CW.skip ?_; refine thenN ?_; refine CW.seq ?_; refine CW.quiet rfl mixed (by decide +kernel) ?_; apply QW.load; rfl; exact WantT.none; rfl; apply Known.at; apply FsAt.head; exact op_rdW; apply QW.v0; rfl; exact WantT.none; apply ValP.move; rfl; apply QW.callE; rfl; exact WantT.none; rfl; infer_instance; apply ArgsOk.cons; rfl; apply ArgsOk.cons; rfl; exact ArgsOk.nil; intro w _; rename_i hst; (exact hP1 w (st_us hst (by (repeat (first | exact List.Sublist.refl _ | exact List.sublist_append_left _ _ | apply List.Sublist.cons | apply List.sublist_append_of_sublist_right))))); apply QW.load; rfl; exact WantT.none; rfl; apply Known.at; apply FsAt.head; exact op_rdW; apply QW.v0; rfl; exact WantT.none; apply ValP.move; rfl; apply QW.callE; rfl; exact WantT.none; rfl; infer_instance; apply ArgsOk.cons; rfl; apply ArgsOk.cons; rfl; exact ArgsOk.nil; intro w _; rename_i hst; (exact hP2 w (st_us hst (by (repeat (first | exact List.Sublist.refl _ | exact List.sublist_append_left _ _ | apply List.Sublist.cons | apply List.sublist_append_of_sublist_right))))); apply QW.v0; rfl; exact WantT.none; apply ValP.neF; rfl; rfl; omega; refine QW.nil ?_; refine thenN ?_; apply CW.condF; rfl; (with_reducible rfl); refine CW.skip ?_; refine blkN ?_; refine thenN ?_; refine CW.region ?_; apply LW.v0; rfl; rfl; apply ValP.addZL; rfl; rfl; decide; omega; apply LW.v0; rfl; rfl; apply ValP.move; rfl; apply LW.nil)
              apply thenX
              exact ⟨rfl, k + 1, ⟨hlt1, h6⟩, by omega, ⟨rfl, rfl, rfl, rfl, rfl, rfl, rfl, rfl, trivial⟩, List.Sublist.refl _⟩
            · obtain rfl : k = 6 := by omega
              (refine CW.seq ?_; refine CW.region ?_; apply LW.v0; rfl; rfl; apply ValP.lssT; rfl; rfl; omega; apply LW.nil; refine thenN ?_; refine CW.seq ?_; apply CW.condT; rfl; (with_reducible rfl); refine CW.skip ?_; refine thenN ?_; refine CW.seq ?_; refine CW.block ?_; refine CW.seq ?_; refine CW.region ?_; apply LW.v0; rfl; rfl; apply ValP.move; rfl; apply LW.v0; rfl; rfl; apply ValP.indexAddrSL; rfl; rfl; decide; omega; apply LW.load; rfl; rfl; exact Known.ext (by assumption) (by simp); assumption; apply LW.v0; rfl; rfl; apply ValP.assign; rfl; apply LW.v0; rfl; rfl; apply ValP.assign; rfl; apply LW.nil; refine thenN ?_; refine CW.seq ?_; refine CW.seq ?_; refine CW.region ?_; apply LW.v0; rfl; rfl; apply ValP.move; rfl; apply LW.v0; rfl; rfl; apply ValP.eqT; rfl; rfl; omega; apply LW.nil; refine thenN ?_; apply CW.condT; rfl; (with_reducible rfl); refine CW.exit ?_; refine thenE ?_; refine blkO rfl ?_; refine thenE ?_; refine thenE ?_; refine blkE rfl ?_; refine blkN ?_)
              exact cutI rfl ⟨rfl, rfl, rfl, rfl, trivial⟩ (List.nil_sublist _)
          · (refine CW.seq ?_; refine CW.region ?_; apply LW.v0; rfl; rfl; apply ValP.lssF; rfl; rfl; omega; apply LW.nil; refine thenN ?_; refine CW.seq ?_; apply CW.condF; rfl; (with_reducible rfl); refine CW.exit ?_; refine thenE ?_; refine thenE ?_; refine blkE rfl ?_; refine blkN ?_)
            exact cutI rfl ⟨rfl, rfl, rfl, rfl, trivial⟩ (List.nil_sublist _)
        · have h88 : 8 ≤ U.ib.length ∧ U.ib.length ≤ 200 := by
            have h := ho
            unfold okU at h
            omega
          have hfa : facA U = adr U.ib := if_pos ⟨ho, h0⟩
          have hfb : facB U = U.ib.drop 8 := if_pos ⟨ho, h0⟩
          rw [hfb] at hrow
          rw [hfa]
          obtain ⟨pb, cb, rfl⟩ := hrow.form
          have hRA : ∀ w', (∀ q ∈ gs, w'.heap[q.1]? = some q.2) → Calls Try.prog 27 #[.slice p5 U.ib.length c5] w' (Ret w' (.int .u64 (adr U.ib : Int))) := fun w' h => rARead_calls U.ib _ w' (hi w' h) h88.1
          have hEq : ∀ w', (∀ q ∈ gs5, w'.heap[q.1]? = some q.2) → (∀ q ∈ gs, w'.heap[q.1]? = some q.2) → Calls Try.prog 16 #[.slice pb (U.ib.drop 8).length cb, cutAt p5 8 U.ib.length c5 1] w' (Ret w' (.bool true)) := fun w' h5 h => by
            have h2 := (hi w' h).drop (k := 8) h88.1
            rw [ucs_drop] at h2
            have := Equal_calls _ _ (U.ib.drop 8) (U.ib.drop 8) _ _ w' (hrow.us h5 (List.Sublist.refl _)) h2
            rwa [decide_eq_true rfl] at this
          (apply LW.v0; rfl; rfl; apply ValP.move; rfl; apply LW.v0; rfl; rfl; apply ValP.extractN; rfl; rfl; apply LW.v0; rfl; rfl; apply ValP.extractN; rfl; rfl; apply LW.v0; rfl; rfl; apply ValP.assign; rfl; apply LW.v0; rfl; rfl; apply ValP.assign; rfl; apply LW.nil; refine thenN ?_; refine CW.seq ?_; refine CW.seq ?_; refine CW.region ?_; apply LW.v0; rfl; rfl; apply ValP.move; rfl; apply LW.v0; rfl; rfl; apply ValP.notT; rfl; (with_reducible rfl); apply LW.v0; rfl; rfl; apply ValP.move; rfl; apply LW.guardT'; rfl; rfl; (with_reducible rfl); apply LW.v0; rfl; rfl; apply ValP.fieldAddr; rfl; rfl; apply LW.guardT'; rfl; rfl; (with_reducible rfl); apply LW.load; rfl; rfl; apply Known.at; apply FsAt.app; apply FsAt.tail; apply FsAt.head; exact hr5; apply LW.guardT'; rfl; rfl; (with_reducible rfl); apply LW.v0; rfl; rfl; apply ValP.lenR; rfl; infer_instance; rfl; apply LW.guardT'; rfl; rfl; (with_reducible rfl); apply LW.v0; rfl; rfl; apply ValP.eqF; rfl; rfl; omega; apply LW.v0; rfl; rfl; apply ValP.pickF'; rfl; (with_reducible rfl); rfl; apply LW.nil; refine thenN ?_; apply CW.condF; rfl; (with_reducible rfl); refine CW.seq ?_; refine CW.region ?_; apply LW.v0; rfl; rfl; apply ValP.move; rfl; apply LW.v0; rfl; rfl; apply ValP.fieldAddr; rfl; rfl; apply LW.load; rfl; rfl; apply Known.at; apply FsAt.app; apply FsAt.tail; apply FsAt.head; exact hr5; apply LW.callE; rfl; rfl; infer_instance; apply ArgsOk.cons; rfl; exact ArgsOk.nil; intro w _; rename_i hst; (exact hRA w (st_us hst (by (repeat (first | exact List.Sublist.refl _ | exact List.sublist_append_left _ _ | apply List.Sublist.cons | apply List.sublist_append_of_sublist_right))))); apply LW.v0; rfl; rfl; apply ValP.neF; rfl; rfl; omega; apply LW.v0; rfl; rfl; apply ValP.move; rfl; apply LW.guardT'; rfl; rfl; (with_reducible rfl); apply LW.v0; rfl; rfl; apply ValP.move; rfl; apply LW.guardT'; rfl; rfl; (with_reducible rfl); apply LW.v0; rfl; rfl; apply ValP.fieldAddr; rfl; rfl; apply LW.guardT'; rfl; rfl; (with_reducible rfl); apply LW.load; rfl; rfl; apply Known.at; apply FsAt.app; apply FsAt.tail; apply FsAt.head; exact hr5; apply LW.guardT'; rfl; rfl; (with_reducible rfl); apply LW.v0; rfl; rfl; apply ValP.cutFromL; infer_instance; infer_instance; rfl; rfl; decide; omega; apply LW.guardT'; rfl; rfl; (with_reducible rfl); apply LW.callE; rfl; rfl; infer_instance; apply ArgsOk.cons; rfl; apply ArgsOk.cons; rfl; exact ArgsOk.nil; intro w _; rename_i hst; (exact hEq w (st_us hst (by (repeat (first | exact List.Sublist.refl _ | exact List.sublist_append_left _ _ | apply List.Sublist.cons | apply List.sublist_append_of_sublist_right)))) (st_us hst (by (repeat (first | exact List.Sublist.refl _ | exact List.sublist_append_left _ _ | apply List.Sublist.cons | apply List.sublist_append_of_sublist_right))))); apply LW.guardT'; rfl; rfl; (with_reducible rfl); apply LW.v0; rfl; rfl; apply ValP.notT; rfl; (with_reducible rfl); apply LW.v0; rfl; rfl; apply ValP.pickF'; rfl; (with_reducible rfl); rfl; apply LW.nil; refine thenN ?_; apply CW.condF; rfl; (with_reducible rfl); refine CW.skip ?_; refine thenN ?_; refine CW.seq ?_; refine CW.region ?_; apply LW.v0; rfl; rfl; apply ValP.move; rfl; apply LW.v0; rfl; rfl; apply ValP.lenR; rfl; infer_instance; rfl; apply LW.v0; rfl; rfl; apply ValP.move; rfl; apply LW.nil; refine thenN ?_; refine CW.block ?_)
          refine CW.cutBB [(19, .int .i64 (m : Int)), (18, .int .i64 (l0.length : Int)), (17, .slice (some ⟨bb, off, none⟩) l0.length c0), (1, .slice p1 l1.length c1)] [] ?_ ?_
          · (refine CW.region ?_; apply LW.v0; rfl; rfl; apply ValP.addZL; rfl; rfl; decide; omega; apply LW.v0; rfl; rfl; apply ValP.move; rfl; apply LW.nil)
            apply thenX
            exact ⟨rfl, m + 1, ⟨hlt, h8⟩, by omega, ⟨rfl, rfl, rfl, rfl, trivial⟩, List.nil_sublist _⟩
          refine CW.loop (fun k : Nat => ([(94, .int .i64 (k : Int)), (93, .int .i64 (l1.length : Int)), (92, .slice p1 l1.length c1), (7, .pointer (some ⟨b7, 0, none⟩)), (19, .int .i64 (m : Int)), (18, .int .i64 (l0.length : Int)), (17, .slice (some ⟨bb, off, none⟩) l0.length c0), (1, .slice p1 l1.length c1)], (b7, .cells (opa U) 30 (0, 0)) :: gs))
            (fun k => k ≤ l1.length ∧ k ≤ 6) (fun k => l1.length - k) 0 ⟨Nat.zero_le _, Nat.zero_le _⟩ ⟨rfl, rfl, rfl, rfl, rfl, rfl, rfl, rfl, trivial⟩ (by (apply List.sublist_append_of_sublist_right; apply List.Sublist.cons; exact List.sublist_append_left _ _)) ?_
          rintro k ⟨hkl, hk6⟩
          dsimp only
          rcases Nat.lt_or_ge k l1.length with hlt1 | hge1
          · obtain ⟨bt, offt, ct', cst, Et, frt, heqt, hbt', hxt⟩ := hr1.pos (by omega)
            cases heqt
            have hrdt : Rd Try.prog 25 (.cells cst Et frt) (offt + k * 1) (.int .u64 ((l1[k] : Nat) : Int)) := Rd.elem1 hxt (ncs_one l1) (List.getElem?_eq_getElem hlt1) rfl
            have hb64 := hl1 _ (List.getElem_mem hlt1)
            generalize l1[k] = base at hrdt hb64
            have hP1 : ∀ w', (∀ q ∈ gs, w'.heap[q.1]? = some q.2) → Calls Try.prog 28 #[.agg (opa U), .int .u64 (base : Int)] w' (Ret w' (.int .u64 (priceU U base : Int))) := fun w' h => Price_calls U base w' (hG w' h) hb64
            have hP2 : ∀ w', (∀ q ∈ gs, w'.heap[q.1]? = some q.2) → Calls Try.prog 29 #[.agg (opa U), .int .u64 (base : Int)] w' (Ret w' (.int .u64 (priceU U base : Int))) := fun w' h => rPrice_calls U base w' hn hb64
            rcases Nat.lt_or_ge k 6 with h6 | h6
            · (refine CW.seq ?_; refine CW.region ?_; apply LW.v0; rfl; rfl; apply ValP.lssT; rfl; rfl; omega; apply LW.nil; refine thenN ?_; refine CW.seq ?_; apply CW.condT; rfl; (with_reducible rfl); refine CW.skip ?_; refine thenN ?_; refine CW.seq ?_; refine CW.block ?_; refine CW.seq ?_; refine CW.region ?_; apply LW.v0; rfl; rfl; apply ValP.move; rfl; apply LW.v0; rfl; rfl; apply ValP.indexAddrS; rfl; rfl; rfl; omega; apply LW.load; rfl; rfl; exact Known.ext (by assumption) (by simp); assumption; apply LW.v0; rfl; rfl; apply ValP.assign; rfl; apply LW.v0; rfl; rfl; apply ValP.assign; rfl; apply LW.nil; refine thenN ?_; refine CW.seq ?_; refine CW.seq ?_; refine CW.region ?_; apply LW.v0; rfl; rfl; apply ValP.move; rfl; apply LW.v0; rfl; rfl; apply ValP.eqF; rfl; rfl; omega; apply LW.nil; refine thenN ?_; apply CW.condF; rfl; (with_reducible rfl); refine CW.skip ?_; refine thenN ?_; refine CW.seq ?_; refine CW.quiet rfl mixed (by decide +kernel) ?_; apply QW.load; rfl; exact WantT.none; rfl; apply Known.at; apply FsAt.head; exact op_rdW; apply QW.v0; rfl; exact WantT.none; apply ValP.move; rfl; apply QW.callE; rfl; exact WantT.none; rfl; infer_instance; apply ArgsOk.cons; rfl; apply ArgsOk.cons; rfl; exact ArgsOk.nil; intro w _; rename_i hst; (exact hP1 w (st_us hst (by (repeat (first | exact List.Sublist.refl _ | exact List.sublist_append_left _ _ | apply List.Sublist.cons | apply List.sublist_append_of_sublist_right))))); apply QW.load; rfl; exact WantT.none; rfl; apply Known.at; apply FsAt.head; exact op_rdW; apply QW.v0; rfl; exact WantT.none; apply ValP.move; rfl; apply QW.callE; rfl; exact WantT.none; rfl; infer_instance; apply ArgsOk.cons; rfl; apply ArgsOk.cons; rfl; exact ArgsOk.nil; intro w _; rename_i hst; (exact hP2 w (st_us hst (by (repeat (first | exact List.Sublist.refl _ | exact List.sublist_append_left _ _ | apply List.Sublist.cons | apply List.sublist_append_of_sublist_right))))); apply QW.v0; rfl; exact WantT.none; apply ValP.neF; rfl; rfl; omega; refine QW.nil ?_; refine thenN ?_; apply CW.condF; rfl; (with_reducible rfl); refine CW.skip ?_; refine blkN ?_; refine thenN ?_; refine CW.region ?_; apply LW.v0; rfl; rfl; apply ValP.addZL; rfl; rfl; decide; omega; apply LW.v0; rfl; rfl; apply ValP.move; rfl; apply LW.nil)
              apply thenX
              exact ⟨rfl, k + 1, ⟨hlt1, h6⟩, by omega, ⟨rfl, rfl, rfl, rfl, rfl, rfl, rfl, rfl, trivial⟩, List.Sublist.refl _⟩
            · obtain rfl : k = 6 := by omega
              (refine CW.seq ?_; refine CW.region ?_; apply LW.v0; rfl; rfl; apply ValP.lssT; rfl; rfl; omega; apply LW.nil; refine thenN ?_; refine CW.seq ?_; apply CW.condT; rfl; (with_reducible rfl); refine CW.skip ?_; refine thenN ?_; refine CW.seq ?_; refine CW.block ?_; refine CW.seq ?_; refine CW.region ?_; apply LW.v0; rfl; rfl; apply ValP.move; rfl; apply LW.v0; rfl; rfl; apply ValP.indexAddrSL; rfl; rfl; decide; omega; apply LW.load; rfl; rfl; exact Known.ext (by assumption) (by simp); assumption; apply LW.v0; rfl; rfl; apply ValP.assign; rfl; apply LW.v0; rfl; rfl; apply ValP.assign; rfl; apply LW.nil; refine thenN ?_; refine CW.seq ?_; refine CW.seq ?_; refine CW.region ?_; apply LW.v0; rfl; rfl; apply ValP.move; rfl; apply LW.v0; rfl; rfl; apply ValP.eqT; rfl; rfl; omega; apply LW.nil; refine thenN ?_; apply CW.condT; rfl; (with_reducible rfl); refine CW.exit ?_; refine thenE ?_; refine blkO rfl ?_; refine thenE ?_; refine thenE ?_; refine blkE rfl ?_; refine blkN ?_)
              exact cutI rfl ⟨rfl, rfl, rfl, rfl, trivial⟩ (List.nil_sublist _)
          · (refine CW.seq ?_; refine CW.region ?_; apply LW.v0; rfl; rfl; apply ValP.lssF; rfl; rfl; omega; apply LW.nil; refine thenN ?_; refine CW.seq ?_; apply CW.condF; rfl; (with_reducible rfl); refine CW.exit ?_; refine thenE ?_; refine thenE ?_; refine blkE rfl ?_; refine blkN ?_)
            exact cutI rfl ⟨rfl, rfl, rfl, rfl, trivial⟩ (List.nil_sublist _)
      · have hPre := hPre0
        rw [if_neg ho, if_neg ho] at hPre
        have hRt := hRt0
        rw [decide_eq_false ho] at hRt
        clear hPre0 hRt0
        (apply LW.allocA; rfl; intro _; apply LW.store; rfl; rfl; apply SetAt.head; apply op_wrW; rfl; assumption; apply LW.nil; refine thenN ?_; refine CW.seq ?_; refine CW.region ?_; apply LW.load; rfl; rfl; apply Known.at; apply FsAt.head; exact op_rdW; apply LW.callE; rfl; rfl; infer_instance; apply ArgsOk.cons; rfl; exact ArgsOk.nil; intro w _; rename_i hst; (exact hRt w (st_us hst (by (repeat (first | exact List.Sublist.refl _ | exact List.sublist_append_left _ _ | apply List.Sublist.cons | apply List.sublist_append_of_sublist_right))))); apply LW.v0; rfl; rfl; apply ValP.assign; rfl; apply LW.nil; refine thenN ?_; refine CW.seq ?_; refine CW.region ?_; apply LW.load; rfl; rfl; apply Known.at; apply FsAt.head; exact op_rdW; apply LW.callE; rfl; rfl; infer_instance; apply ArgsOk.cons; rfl; exact ArgsOk.nil; intro w _; rename_i hst; (exact hPre w (st_us hst (by (repeat (first | exact List.Sublist.refl _ | exact List.sublist_append_left _ _ | apply List.Sublist.cons | apply List.sublist_append_of_sublist_right))))); apply LW.v0; rfl; rfl; apply ValP.move; rfl; apply LW.v0; rfl; rfl; apply ValP.extractN; rfl; rfl; apply LW.v0; rfl; rfl; apply ValP.extractN; rfl; rfl; apply LW.allocW; rfl; intro _; apply LW.store; rfl; rfl; apply SetAt.head; apply Wr.whole; rfl; rfl; rfl; apply LW.v0; rfl; rfl; apply ValP.assign; rfl; apply LW.nil; refine thenN ?_; refine CW.seq ?_; refine CW.seq ?_; refine CW.quiet rfl mixed (by decide +kernel) ?_; apply QW.v0; rfl; exact WantT.none; apply ValP.move; rfl; apply QW.v0; rfl; exact WantT.none; apply ValP.move; rfl; apply QW.skip; rfl; rfl; rfl; simp only [Bool.not_true, Bool.not_false]; apply QW.skip; rfl; rfl; rfl; simp only [Bool.not_true, Bool.not_false]; apply QW.skip; rfl; rfl; rfl; simp only [Bool.not_true, Bool.not_false]; apply QW.skipU; rfl; rfl; rfl; apply QW.skipU; rfl; rfl; rfl; apply QW.skipU; rfl; rfl; rfl; apply QW.skipU; rfl; rfl; rfl; apply QW.skip; rfl; rfl; rfl; simp only [Bool.not_true, Bool.not_false]; apply QW.v0; rfl; exact WantT.none; apply ValP.pickF'; rfl; (with_reducible rfl); rfl; apply QW.v0; rfl; exact WantT.none; apply ValP.move; rfl; apply QW.v0; rfl; apply wantYes; rfl; rfl; (with_reducible rfl); apply ValP.move; rfl; apply QW.v0; rfl; apply wantYes; rfl; rfl; (with_reducible rfl); apply ValP.notF; rfl; (with_reducible rfl); apply QW.v0; rfl; apply wantYes; rfl; rfl; (with_reducible rfl); apply ValP.move; rfl; apply QW.v0; rfl; apply wantYes; rfl; rfl; (with_reducible rfl); apply ValP.move; rfl; apply QW.v0; rfl; apply wantYes; rfl; rfl; (with_reducible rfl); apply ValP.neF; rfl; rfl; omega; apply QW.v0; rfl; apply wantYes; rfl; rfl; (with_reducible rfl); apply ValP.move; rfl; apply QW.load; rfl; apply wantYes; rfl; rfl; (with_reducible rfl); rfl; apply Known.at; apply FsAt.head; exact Rd.whole rfl; apply QW.v0; rfl; apply wantYes; rfl; rfl; (with_reducible rfl); exact ValP.buildW0; apply QW.v0; rfl; apply wantYes; rfl; rfl; (with_reducible rfl); apply ValP.neWF; rfl; rfl; (with_reducible rfl); apply QW.v0; rfl; apply wantYes; rfl; rfl; (with_reducible rfl); apply ValP.pickF'; rfl; (with_reducible rfl); rfl; apply QW.v0; rfl; apply wantYes; rfl; rfl; (with_reducible rfl); apply ValP.pickT'; rfl; (with_reducible rfl); rfl; apply QW.v0; rfl; exact WantT.none; apply ValP.pickF'; rfl; (with_reducible rfl); rfl; refine QW.nil ?_; refine thenN ?_; apply CW.condF; rfl; (with_reducible rfl); refine CW.skip ?_; refine thenN ?_; refine CW.seq ?_; refine CW.region ?_; apply LW.load; rfl; rfl; apply Known.at; apply FsAt.tail; apply FsAt.head; exact op_rdW)
        rename_i b7 b9
        refine LW.callR rfl rfl inferInstance (by (apply ArgsOk.cons; rfl; exact ArgsOk.nil)) (fun w hst => Factory_calls U w (hG w (st_us hst (by (apply List.Sublist.cons; apply List.Sublist.cons; exact List.sublist_append_left _ _))))) ?_
        rintro v5 gs5 ⟨bv, rfl, hrow⟩
        have hfa : facA U = 0 := if_neg (fun h => ho h.1)
        have hfb : facB U = [] := if_neg (fun h => ho h.1)
        replace hrow : IsRow 5 1 bv 0 (ucs []) gs5 := by rw [hfb] at hrow; exact hrow
        rw [hfa]
        obtain ⟨pb, cb, rfl⟩ := hrow.form
        (apply LW.v0; rfl; rfl; apply ValP.move; rfl; apply LW.v0; rfl; rfl; apply ValP.extractN; rfl; rfl; apply LW.v0; rfl; rfl; apply ValP.extractN; rfl; rfl; apply LW.v0; rfl; rfl; apply ValP.assign; rfl; apply LW.v0; rfl; rfl; apply ValP.assign; rfl; apply LW.nil; refine thenN ?_; refine CW.seq ?_; refine CW.seq ?_; refine CW.region ?_; apply LW.v0; rfl; rfl; apply ValP.move; rfl; apply LW.v0; rfl; rfl; apply ValP.notF; rfl; (with_reducible rfl); apply LW.v0; rfl; rfl; apply ValP.move; rfl; apply LW.guardF'; rfl; rfl; simp only [Bool.not_true, Bool.not_false]; rfl; apply LW.guardF'; rfl; rfl; simp only [Bool.not_true, Bool.not_false]; rfl; apply LW.guardF'; rfl; rfl; simp only [Bool.not_true, Bool.not_false]; rfl; apply LW.guardF'; rfl; rfl; simp only [Bool.not_true, Bool.not_false]; rfl; apply LW.v0; rfl; rfl; apply ValP.pickT'; rfl; (with_reducible rfl); rfl; apply LW.nil; refine thenN ?_; apply CW.condT; rfl; (with_reducible rfl); refine CW.seq ?_; refine CW.region ?_; apply LW.v0; rfl; rfl; apply ValP.move; rfl; apply LW.v0; rfl; rfl; apply ValP.neF; rfl; rfl; omega; apply LW.v0; rfl; rfl; apply ValP.move; rfl; apply LW.guardT'; rfl; rfl; (with_reducible rfl); apply LW.v0; rfl; rfl; apply ValP.move; rfl; apply LW.guardT'; rfl; rfl; (with_reducible rfl); apply LW.v0; rfl; rfl; apply ValP.lenR; rfl; infer_instance; rfl; apply LW.guardT'; rfl; rfl; (with_reducible rfl); apply LW.v0; rfl; rfl; apply ValP.neF; rfl; rfl; omega; apply LW.v0; rfl; rfl; apply ValP.pickF'; rfl; (with_reducible rfl); rfl; apply LW.nil; refine thenN ?_; apply CW.condF; rfl; (with_reducible rfl); refine CW.skip ?_; refine thenN ?_; refine CW.seq ?_; refine CW.region ?_; apply LW.v0; rfl; rfl; apply ValP.move; rfl; apply LW.v0; rfl; rfl; apply ValP.lenR; rfl; infer_instance; rfl; apply LW.v0; rfl; rfl; apply ValP.move; rfl; apply LW.nil; refine thenN ?_; refine CW.block ?_)
        refine CW.cutBB [(19, .int .i64 (m : Int)), (18, .int .i64 (l0.length : Int)), (17, .slice (some ⟨bb, off, none⟩) l0.length c0), (1, .slice p1 l1.length c1)] [] ?_ ?_
        · (refine CW.region ?_; apply LW.v0; rfl; rfl; apply ValP.addZL; rfl; rfl; decide; omega; apply LW.v0; rfl; rfl; apply ValP.move; rfl; apply LW.nil)
          apply thenX
          exact ⟨rfl, m + 1, ⟨hlt, h8⟩, by omega, ⟨rfl, rfl, rfl, rfl, trivial⟩, List.nil_sublist _⟩
        refine CW.loop (fun k : Nat => ([(94, .int .i64 (k : Int)), (93, .int .i64 (l1.length : Int)), (92, .slice p1 l1.length c1), (7, .pointer (some ⟨b7, 0, none⟩)), (19, .int .i64 (m : Int)), (18, .int .i64 (l0.length : Int)), (17, .slice (some ⟨bb, off, none⟩) l0.length c0), (1, .slice p1 l1.length c1)], (b7, .cells (opa U) 30 (0, 0)) :: gs))
          (fun k => k ≤ l1.length ∧ k ≤ 6) (fun k => l1.length - k) 0 ⟨Nat.zero_le _, Nat.zero_le _⟩ ⟨rfl, rfl, rfl, rfl, rfl, rfl, rfl, rfl, trivial⟩ (by (apply List.sublist_append_of_sublist_right; apply List.Sublist.cons; exact List.sublist_append_left _ _)) ?_
        rintro k ⟨hkl, hk6⟩
        dsimp only
        rcases Nat.lt_or_ge k l1.length with hlt1 | hge1
        · obtain ⟨bt, offt, ct', cst, Et, frt, heqt, hbt', hxt⟩ := hr1.pos (by omega)
          cases heqt
          have hrdt : Rd Try.prog 25 (.cells cst Et frt) (offt + k * 1) (.int .u64 ((l1[k] : Nat) : Int)) := Rd.elem1 hxt (ncs_one l1) (List.getElem?_eq_getElem hlt1) rfl
          have hb64 := hl1 _ (List.getElem_mem hlt1)
          generalize l1[k] = base at hrdt hb64
          have hP1 : ∀ w', (∀ q ∈ gs, w'.heap[q.1]? = some q.2) → Calls Try.prog 28 #[.agg (opa U), .int .u64 (base : Int)] w' (Ret w' (.int .u64 (priceU U base : Int))) := fun w' h => Price_calls U base w' (hG w' h) hb64
          have hP2 : ∀ w', (∀ q ∈ gs, w'.heap[q.1]? = some q.2) → Calls Try.prog 29 #[.agg (opa U), .int .u64 (base : Int)] w' (Ret w' (.int .u64 (priceU U base : Int))) := fun w' h => rPrice_calls U base w' hn hb64
          rcases Nat.lt_or_ge k 6 with h6 | h6
          · (refine CW.seq ?_; refine CW.region ?_; apply LW.v0; rfl; rfl; apply ValP.lssT; rfl; rfl; omega; apply LW.nil; refine thenN ?_; refine CW.seq ?_; apply CW.condT; rfl; (with_reducible rfl); refine CW.skip ?_; refine thenN ?_; refine CW.seq ?_; refine CW.block ?_; refine CW.seq ?_; refine CW.region ?_; apply LW.v0; rfl; rfl; apply ValP.move; rfl; apply LW.v0; rfl; rfl; apply ValP.indexAddrS; rfl; rfl; rfl; omega; apply LW.load; rfl; rfl; exact Known.ext (by assumption) (by simp); assumption; apply LW.v0; rfl; rfl; apply ValP.assign; rfl; apply LW.v0; rfl; rfl; apply ValP.assign; rfl; apply LW.nil; refine thenN ?_; refine CW.seq ?_; refine CW.seq ?_; refine CW.region ?_; apply LW.v0; rfl; rfl; apply ValP.move; rfl; apply LW.v0; rfl; rfl; apply ValP.eqF; rfl; rfl; omega; apply LW.nil; refine thenN ?_; apply CW.condF; rfl; (with_reducible rfl); refine CW.skip ?_; refine thenN ?_; refine CW.seq ?_; refine CW.quiet rfl mixed (by decide +kernel) ?_; apply QW.load; rfl; exact WantT.none; rfl; apply Known.at; apply FsAt.head; exact op_rdW; apply QW.v0; rfl; exact WantT.none; apply ValP.move; rfl; apply QW.callE; rfl; exact WantT.none; rfl; infer_instance; apply ArgsOk.cons; rfl; apply ArgsOk.cons; rfl; exact ArgsOk.nil; intro w _; rename_i hst; (exact hP1 w (st_us hst (by (repeat (first | exact List.Sublist.refl _ | exact List.sublist_append_left _ _ | apply List.Sublist.cons | apply List.sublist_append_of_sublist_right))))); apply QW.load; rfl; exact WantT.none; rfl; apply Known.at; apply FsAt.head; exact op_rdW; apply QW.v0; rfl; exact WantT.none; apply ValP.move; rfl; apply QW.callE; rfl; exact WantT.none; rfl; infer_instance; apply ArgsOk.cons; rfl; apply ArgsOk.cons; rfl; exact ArgsOk.nil; intro w _; rename_i hst; (exact hP2 w (st_us hst (by (repeat (first | exact List.Sublist.refl _ | exact List.sublist_append_left _ _ | apply List.Sublist.cons | apply List.sublist_append_of_sublist_right))))); apply QW.v0; rfl; exact WantT.none; apply ValP.neF; rfl; rfl; omega; refine QW.nil ?_; refine thenN ?_; apply CW.condF; rfl; (with_reducible rfl); refine CW.skip ?_; refine blkN ?_; refine thenN ?_; refine CW.region ?_; apply LW.v0; rfl; rfl; apply ValP.addZL; rfl; rfl; decide; omega; apply LW.v0; rfl; rfl; apply ValP.move; rfl; apply LW.nil)
            apply thenX
            exact ⟨rfl, k + 1, ⟨hlt1, h6⟩, by omega, ⟨rfl, rfl, rfl, rfl, rfl, rfl, rfl, rfl, trivial⟩, List.Sublist.refl _⟩
          · obtain rfl : k = 6 := by omega
            (refine CW.seq ?_; refine CW.region ?_; apply LW.v0; rfl; rfl; apply ValP.lssT; rfl; rfl; omega; apply LW.nil; refine thenN ?_; refine CW.seq ?_; apply CW.condT; rfl; (with_reducible rfl); refine CW.skip ?_; refine thenN ?_; refine CW.seq ?_; refine CW.block ?_; refine CW.seq ?_; refine CW.region ?_; apply LW.v0; rfl; rfl; apply ValP.move; rfl; apply LW.v0; rfl; rfl; apply ValP.indexAddrSL; rfl; rfl; decide; omega; apply LW.load; rfl; rfl; exact Known.ext (by assumption) (by simp); assumption; apply LW.v0; rfl; rfl; apply ValP.assign; rfl; apply LW.v0; rfl; rfl; apply ValP.assign; rfl; apply LW.nil; refine thenN ?_; refine CW.seq ?_; refine CW.seq ?_; refine CW.region ?_; apply LW.v0; rfl; rfl; apply ValP.move; rfl; apply LW.v0; rfl; rfl; apply ValP.eqT; rfl; rfl; omega; apply LW.nil; refine thenN ?_; apply CW.condT; rfl; (with_reducible rfl); refine CW.exit ?_; refine thenE ?_; refine blkO rfl ?_; refine thenE ?_; refine thenE ?_; refine blkE rfl ?_; refine blkN ?_)
            exact cutI rfl ⟨rfl, rfl, rfl, rfl, trivial⟩ (List.nil_sublist _)
        · (refine CW.seq ?_; refine CW.region ?_; apply LW.v0; rfl; rfl; apply ValP.lssF; rfl; rfl; omega; apply LW.nil; refine thenN ?_; refine CW.seq ?_; apply CW.condF; rfl; (with_reducible rfl); refine CW.exit ?_; refine thenE ?_; refine thenE ?_; refine blkE rfl ?_; refine blkN ?_)
          exact cutI rfl ⟨rfl, rfl, rfl, rfl, trivial⟩ (List.nil_sublist _)
    · obtain rfl : m = 8 := by omega
      (refine CW.seq ?_; refine CW.region ?_; apply LW.v0; rfl; rfl; apply ValP.lssT; rfl; rfl; omega; apply LW.nil; refine thenN ?_; refine CW.seq ?_; apply CW.condT; rfl; (with_reducible rfl); refine CW.skip ?_; refine thenN ?_; refine CW.seq ?_; refine CW.block ?_; refine CW.seq ?_; refine CW.region ?_; apply LW.v0; rfl; rfl; apply ValP.move; rfl; apply LW.v0; rfl; rfl; apply ValP.indexAddrSL; rfl; rfl; decide; omega; apply LW.load; rfl; rfl; exact Known.ext (by assumption) (by simp); assumption; apply LW.allocA; rfl; intro _; apply LW.v0; rfl; rfl; apply ValP.assign; rfl; apply LW.store; rfl; rfl; apply SetAt.head; apply op_wrW; rfl; assumption; apply LW.nil; refine thenN ?_; refine CW.seq ?_; refine CW.seq ?_; refine CW.region ?_; apply LW.v0; rfl; rfl; apply ValP.move; rfl; apply LW.v0; rfl; rfl; apply ValP.eqT; rfl; rfl; omega; apply LW.nil; refine thenN ?_; apply CW.condT; rfl; (with_reducible rfl); refine CW.exit ?_; refine thenE ?_; refine blkO rfl ?_; refine thenE ?_; refine thenE ?_; refine blkE rfl ?_; refine thenN ?_; refine CW.seq ?_; refine CW.region ?_; apply LW.v0; rfl; rfl; apply ValP.assign; rfl; apply LW.nil; refine thenN ?_; refine CW.ret ?_)
      (apply finR; exact .inl rfl; rfl; rfl; rfl; apply ResL.cons; exact Res.tmp rfl; exact ResL.nil)
      rfl
  · (refine CW.seq ?_; refine CW.region ?_; apply LW.v0; rfl; rfl; apply ValP.lssF; rfl; rfl; omega; apply LW.nil; refine thenN ?_; refine CW.seq ?_; apply CW.condF; rfl; (with_reducible rfl); refine CW.exit ?_; refine thenE ?_; refine thenE ?_; refine blkE rfl ?_; refine thenN ?_; refine CW.seq ?_; refine CW.region ?_; apply LW.v0; rfl; rfl; apply ValP.assign; rfl; apply LW.nil; refine thenN ?_; refine CW.ret ?_)
    (apply finR; exact .inl rfl; rfl; rfl; rfl; apply ResL.cons; exact Res.tmp rfl; exact ResL.nil)
    rfl
end Go.Proofs.Ytobkhnmglbfheaa
