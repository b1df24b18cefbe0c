/-
  A SMALL LOGIC OVER THE KIT's WALK, PART J: more of rows that grow.
  Conditions: none; over any program.
-/
import Derived.Test.YtahoghldnijnbaaSli
import Derived.Laws.Strings
namespace Go.Proofs.Ytahoghldnijnbaa.SL
set_option linter.unusedVariables false
set_option linter.unusedSimpArgs false
open Go Go.RowKit
theorem Env.get_le {e : Env} : ∀ {e' : Env}, (∀ t v, (t, v) ∈ e' → e.get t = some v) → e.le e'
  | [], _ => trivial
  | (t, v) :: r, h => ⟨h t v List.mem_cons_self, Env.get_le fun t' v' h' => h t' v' (List.mem_cons_of_mem _ h')⟩
/-- Facts that are no longer wanted. -/
theorem LW.drop {C : Cu} {ops : Array Oper} {Q : Post} {l : List Oper} {e : Env} {fs : Fs} (fs' : Fs) (hf : List.Sublist fs' fs) (h : LW C ops Q l e fs') : LW C ops Q l e fs :=
  fun a w hs => h a w ⟨hs.env, hs.st.bel, fun p hp => hs.st.own p (hf.subset hp), hs.st.nd.sublist hf⟩
theorem CW.drop {C : Cu} {c : Code} {Q : Post} {e : Env} {fs : Fs} (fs' : Fs) (hf : List.Sublist fs' fs) (h : CW C c Q e fs') : CW C c Q e fs :=
  fun a w hs => h a w ⟨hs.env, hs.st.bel, fun p hp => hs.st.own p (hf.subset hp), hs.st.nd.sublist hf⟩
theorem IsRow.form {E : TypeId} {size n : Nat} {v : Value} {xs : List Value} {seg : Fs} (h : IsRow E size v n xs seg) : ∃ p c, v = .slice p n c := by
  cases h with
  | nil => exact ⟨_, _, rfl⟩
  | own => exact ⟨_, _, rfl⟩
theorem ValP.lenR {P : Program} {e : Env} {T E : TypeId} {x : Operand} {tys : Array TypeId} {a : Option Addr} {n c : Nat} (hT : tys = #[T]) (hU : UnI P T (.slice E)) (hx : e.ev x = some (.slice a n c)) :
    ValP P e [] (.call { callee := .builtin .len, args := #[x], argTypes := tys }) (.int .i64 (n : Int)) := .lenS hT hx
theorem ValP.us {P : Program} {e : Env} {us : Fs} {op : Op} {v : Value} (h : ValP P e [] op v) : ValP P e us op v := fun ρ w hρ _ => h ρ w hρ (fun p hp => nomatch hp)
theorem ValP.buildW1L {P : Program} {e : Env} {T E : TypeId} [UnI P T (.array 4 E)] [InfoI P E 1 (.int .u64 0)] [InfoI P T 4 (.agg #[.int .u64 0, .int .u64 0, .int .u64 0, .int .u64 0])] {x : Operand} {n : Nat} (hx : e.ev x = some (.int .u64 (OfNat.ofNat n))) (_ : n = n) (hn : Nat.blt (OfNat.ofNat n : Nat) 18446744073709551616 = true) :
    ValP P e [] (.build T #[(0, x)]) (.agg (wc (OfNat.ofNat n : Nat))) := .buildW1 hx (by simpa [Nat.blt_eq] using hn)
section str
variable {P : Program} {e : Env} {T ty : TypeId} {x y : Operand} {s u : ByteArray}
theorem toList_beq (s u : ByteArray) : (s.toList == u.toList) = decide (s = u) := by
  rw [Bool.eq_iff_iff, beq_iff_eq, decide_eq_true_iff]
  constructor
  · intro h
    rw [ByteArray.toList_eq, ByteArray.toList_eq] at h
    exact ByteArray.ext (Array.toList_inj.1 h)
  · intro h; rw [h]
theorem guard_str {op : BinOp} {v : Value} (w : World) : (eqGuard op T x y (.string s) v).run P w = .ok () w := by
  unfold eqGuard; cases op <;> cases v <;> simp
theorem ValP.strEq (hx : e.ev x = some (.string s)) (hy : e.ev y = some (.string u)) : ValP P e [] (.binOp .eql T x y ty) (.bool (decide (s = u))) :=
  .bin hx hy (fun w => guard_str w) fun w => by rw [binOp_string_eql, toList_beq]; rfl
theorem ValP.strNe (hx : e.ev x = some (.string s)) (hy : e.ev y = some (.string u)) : ValP P e [] (.binOp .neq T x y ty) (.bool (!decide (s = u))) :=
  .bin hx hy (fun w => guard_str w) fun w => by rw [binOp_string_neq, toList_beq]; rfl
theorem ValP.strEqT (hx : e.ev x = some (.string s)) (hy : e.ev y = some (.string u)) (h : s = u) : ValP P e [] (.binOp .eql T x y ty) (.bool true) := by
  have := ValP.strEq (P := P) (T := T) (ty := ty) hx hy; rwa [decide_eq_true h] at this
theorem ValP.strEqF (hx : e.ev x = some (.string s)) (hy : e.ev y = some (.string u)) (h : s ≠ u) : ValP P e [] (.binOp .eql T x y ty) (.bool false) := by
  have := ValP.strEq (P := P) (T := T) (ty := ty) hx hy; rwa [decide_eq_false h] at this
theorem ValP.strNeT (hx : e.ev x = some (.string s)) (hy : e.ev y = some (.string u)) (h : s ≠ u) : ValP P e [] (.binOp .neq T x y ty) (.bool true) := by
  have := ValP.strNe (P := P) (T := T) (ty := ty) hx hy; rwa [decide_eq_false h] at this
theorem ValP.strNeF (hx : e.ev x = some (.string s)) (hy : e.ev y = some (.string u)) (h : s = u) : ValP P e [] (.binOp .neq T x y ty) (.bool false) := by
  have := ValP.strNe (P := P) (T := T) (ty := ty) hx hy; rwa [decide_eq_true h] at this
end str
section dw
variable {C : Cu} {ops : Array Oper} {Q : Post} {tl rest : List Oper} {e : Env} {ts : Ts} {μ : Mu} {k d : Nat} {op : Op} {t : TypeId} {pos : String} {af : Array Edge} {g : Option (Nat × Bool)}
theorem DW.sliceData {x : Operand} {tys : Array TypeId} {b off n c : Nat} {o : Obj} {ts' : Ts} (hk : ops[k]? = some ⟨some d, .call { callee := .builtin .unsafeSliceData, args := #[x], argTypes := tys }, t, pos, af, g⟩) (hm : μ k = none) (hd : Nat.blt d C.N = true) (hg : WantT ops e g)
    (hx : e.ev x = some (.slice (some ⟨b, off, none⟩) n c)) (hc : 0 < c) (hr : TRead ops k ts b o ts') (kk : DW C ops μ Q tl rest (k + 1) ((d, .pointer (some ⟨b, off, none⟩)) :: e) ts') :
    DW C ops μ Q tl (⟨some d, .call { callee := .builtin .unsafeSliceData, args := #[x], argTypes := tys }, t, pos, af, g⟩ :: rest) k e ts :=
  DW.vr hk hm hd hg (bs := [b]) (fun ρ hρ => by simp [touch, touchC, Call.operands, hρ _ _ hx, blocksN, Nat.ne_of_gt hc]) (ValP.us (.sliceDataR hx hc)) (.own hr .nil) kk
end dw
end Go.Proofs.Ytahoghldnijnbaa.SL
