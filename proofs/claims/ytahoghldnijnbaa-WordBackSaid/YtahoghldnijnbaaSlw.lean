/-
  A SMALL LOGIC OVER THE KIT's WALK, PART W: strings measured, cut, joined, gone through.
  Conditions: none; over any program.
-/
import Derived.Test.YtahoghldnijnbaaSlv
import Derived.Laws.RangeAny
import Derived.Laws.Concat
import Derived.Laws.Strings2
import Derived.Laws.Slices
namespace Go.Proofs.Ytahoghldnijnbaa.SL
set_option linter.unusedVariables false
set_option linter.unusedSimpArgs false
open Go Go.RowKit
/-! ### A label's scope, where nobody jumps -/
theorem stepR_scope {P : Program} {b : Frame} {a : Act} {k : List Item} {cs : List Frame} {w : World} {c : Code} : step P (lone (b.atR a (.code (.scope c) :: k)) cs w) = .next (lone (b.atR a (.code c :: .inScope c :: k)) cs w) :=
  step_lone_go (by simp [stepG, stepG.exec, Frame.atR])
theorem stepR_inScope {P : Program} {b : Frame} {a : Act} {k : List Item} {cs : List Frame} {w : World} {c : Code} : step P (lone (b.atR a (.inScope c :: k)) cs w) = .next (lone (b.atR a k) cs w) :=
  step_lone_go (by simp [stepG, stepG.exec, Frame.atR])
theorem wpIn_scope {F : Fence} {n : Nat} {P : Program} {c : Code} {Q Q' : Exit → Act → World → Prop} {a : Act} {w : World} (hQ : ∀ x a w, Q' x a w → (∀ l, x ≠ .goto l) ∧ Q x a w) (h : c.wpIn F n P Q' a w) : (Code.scope c).wpIn F n P Q a w := by
  intro b k cs hro hb hr
  have h0 : (lone (b.atR a (.code (.scope c) :: k)) cs w).fenced P F := fenced_calm hb hr rfl
  obtain ⟨e, a₁, w₁, hq, harr⟩ := h b (.inScope c :: k) cs hro hb hr
  obtain ⟨hng, hq⟩ := hQ _ _ _ hq
  cases e with
  | normal => exact ⟨.normal, a₁, w₁, hq, .head h0 stepR_scope (StepsIn.trans harr (.one (fenced_calm hb hr rfl) stepR_inScope))⟩
  | exit id =>
    have hx : exitTo id (.inScope c :: k) = exitTo id k := by simp [exitTo]
    exact ⟨.exit id, a₁, w₁, hq, fun k' hk => .head h0 stepR_scope (harr.1 k' (by rw [hx]; exact hk)),
      fun hr' hk => let ⟨k₁, h1, h2⟩ := harr.2 hr' (by rw [hx]; exact hk); ⟨k₁, h1, .head h0 stepR_scope h2⟩⟩
  | goto l => exact absurd rfl (hng l)
  | ret => exact ⟨_, a₁, w₁, hq, .of_steps (.one h0 stepR_scope) harr⟩
  | panic ch => exact ⟨_, a₁, w₁, hq, .of_steps (.one h0 stepR_scope) harr⟩
  | outgrown => exact ⟨_, a₁, w₁, hq, .of_steps (.one h0 stepR_scope) harr⟩
inductive scopeQ (Q : Post) : Post
  | n {ds : List Deferred} {e : Env} {fs : Fs} (h : Q .normal ds e fs) : scopeQ Q .normal ds e fs
  | r {ds : List Deferred} {e : Env} {fs : Fs} (h : Q .ret ds e fs) : scopeQ Q .ret ds e fs
  | e {id : Nat} {ds : List Deferred} {e : Env} {fs : Fs} (h : Q (.exit id) ds e fs) : scopeQ Q (.exit id) ds e fs
theorem CW.scope {C : Cu} {c : Code} {Q : Post} {e : Env} {fs : Fs} (h : CW C c (scopeQ Q) e fs) : CW C (.scope c) Q e fs := fun a w hs =>
  wpIn_scope (fun x a w ⟨ds, e, fs, q, s⟩ => by
    cases q with
    | n h => exact ⟨(fun _ h => nomatch h), ⟨ds, e, fs, h, s⟩⟩
    | r h => exact ⟨(fun _ h => nomatch h), ⟨ds, e, fs, h, s⟩⟩
    | e h => exact ⟨(fun _ h => nomatch h), ⟨ds, e, fs, h, s⟩⟩) (h a w hs)
/-- A string out of bytes. -/
abbrev sv (l : List UInt8) : Value := .string ⟨l.toArray⟩
theorem str_list (s : ByteArray) : ∃ l : List UInt8, s = ⟨l.toArray⟩ := ⟨s.data.toList, by simp⟩
theorem sv_inj {a b : List UInt8} (h : a ≠ b) : (⟨a.toArray⟩ : ByteArray) ≠ ⟨b.toArray⟩ := fun e => h (by have := congrArg (fun x : ByteArray => x.data.toList) e; simpa using this)
section str
variable {P : Program} {e : Env} {T ty : TypeId} {x y lo hi : Operand} {l r : List UInt8} {tys : Array TypeId}
theorem ValP.lenStr (hT : tys = #[T]) (hU : UnI P T .string) (hx : e.ev x = some (sv l)) : ValP P e [] (.call { callee := .builtin .len, args := #[x], argTypes := tys }) (.int .i64 (l.length : Int)) := fun ρ w hρ _ d t pos af g => by
  subst hT
  have h := run_len_string (P := P) w T t ⟨l.toArray⟩ hU.un
  simp only [goInt, ByteArray.size, List.size_toArray] at h
  simp [execOp, resolve, invoke, builtin, hρ x _ hx, h]
theorem ValP.addStr (hx : e.ev x = some (sv l)) (hy : e.ev y = some (sv r)) (hl : l.length + r.length ≤ 9223372036854775807) : ValP P e [] (.binOp .add T x y ty) (sv (l ++ r)) :=
  .bin hx hy (fun w => guard_str w) fun w => by
    rw [binOp_string_add, run_string_add_sum w _ _ (by simp only [ByteArray.size, List.size_toArray]; omega), ByteArray.mk_append_mk]
theorem ValP.cutStr {ik ik' : IntKind} {i j : Nat} (hU : UnI P T .string) (hx : e.ev x = some (sv l)) (hl : e.ev lo = some (.int ik (i : Int))) (hh : e.ev hi = some (.int ik' (j : Int))) (h1 : i ≤ j) (h2 : j ≤ l.length) :
    ValP P e [] (.slice T x (some lo) (some hi) none) (sv ((l.drop i).take (j - i))) := fun ρ w hρ _ d t pos af g => by
  have h := run_slice_string (P := P) w T ⟨l.toArray⟩ ik ik' (i : Int) (j : Int) hU.un (by omega) (by omega) (by simp only [ByteArray.size, List.size_toArray]; omega)
  rw [Int.toNat_natCast, Int.toNat_natCast, ByteArray.extract_mk] at h
  simp [execOp, hρ x _ hx, hρ lo _ hl, hρ hi _ hh, run_sliceAt_string (w := w) T _ _ _ _ hU.un, h]
theorem ValP.cutStrTo {ik : IntKind} {j : Nat} (hU : UnI P T .string) (hx : e.ev x = some (sv l)) (hh : e.ev hi = some (.int ik (j : Int))) (h2 : j ≤ l.length) :
    ValP P e [] (.slice T x none (some hi) none) (sv (l.take j)) := fun ρ w hρ _ d t pos af g => by
  have h := run_slice_string_h (P := P) w T ⟨l.toArray⟩ hU.un ik (j : Int) (by omega) (by simp only [ByteArray.size, List.size_toArray]; omega)
  rw [Int.toNat_natCast, ByteArray.extract_mk, List.drop_zero, Nat.sub_zero] at h
  simp [execOp, hρ x _ hx, hρ hi _ hh, run_sliceAt_string (w := w) T _ _ _ _ hU.un, h]
theorem ValP.cutStrFrom {ik : IntKind} {i : Nat} (hU : UnI P T .string) (hx : e.ev x = some (sv l)) (hl : e.ev lo = some (.int ik (i : Int))) (h2 : i ≤ l.length) :
    ValP P e [] (.slice T x (some lo) none none) (sv (l.drop i)) := fun ρ w hρ _ d t pos af g => by
  have h := run_slice_string_l (P := P) w T ⟨l.toArray⟩ hU.un ik (i : Int) (by omega) (by simp only [ByteArray.size, List.size_toArray]; omega)
  rw [Int.toNat_natCast, ByteArray.extract_mk] at h
  simp only [ByteArray.size, List.size_toArray, ← List.length_drop, List.take_length] at h
  simp [execOp, hρ x _ hx, hρ lo _ hl, run_sliceAt_string (w := w) T _ _ _ _ hU.un, h]
/-- A byte of a string. -/
theorem ValP.indexSv {ik : IntKind} {j : Int} {k : Nat} {b : UInt8} (hU : UnI P T .string) (hx : e.ev x = some (sv l)) (hy : e.ev y = some (.int ik j)) (hj : j = (k : Int)) (hb : l[k]? = some b) : ValP P e [] (.index T x y) (.int .u8 (b.toNat : Nat)) := by
  have := hU
  refine .indexStr hx hy hj ?_
  obtain ⟨h1, h2⟩ := List.getElem?_eq_some_iff.1 hb
  rw [ByteArray.getElem?_lt' _ _ (by simpa [ByteArray.size] using h1)]
  simp only [← h2]
  rfl
end str
section lw
variable {C : Cu} {ops : Array Oper} {Q : Post} {rest : List Oper} {e : Env} {fs fs' : Fs} {d : Nat} {t : TypeId} {pos : String} {af : Array Edge}
/-- **range** over a string. -/
theorem LW.rangeStr {T : TypeId} {x : Operand} {l : List UInt8} (hd : Nat.blt d C.N = true) (hU : UnI C.P T .string) (hx : e.ev x = some (sv l))
    (k : ∀ b, LW C ops Q rest ((d, .pointer (some ⟨b, 0, none⟩)) :: e) ((b, .stringIter ⟨l.toArray⟩ 0) :: fs)) : LW C ops Q (⟨some d, .range T x, t, pos, af, none⟩ :: rest) e fs :=
  LW.new (s := .ptr) hd (fun c h => by cases h) (fun a w hs => by
    have h := run_range_string (P := C.P) w T ⟨l.toArray⟩ hU.un
    simp [execOp, hs.env.ev hx, h, World.iter, Sh.val]) fun b => k b
theorem LW.nextStr {x : Operand} {b m : Nat} {l : List UInt8} (hd : Nat.blt d C.N = true) (hx : e.ev x = some (.pointer (some ⟨b, 0, none⟩))) (hset : SetAt fs b (.stringIter ⟨l.toArray⟩ m) (.stringIter ⟨l.toArray⟩ (m + (Utf8.decode ⟨l.toArray⟩ m).2)) fs') (hm : m < l.length)
    (k : LW C ops Q rest ((d, .tuple #[.bool true, .int .i64 (m : Int), .int .i32 (((Utf8.decode ⟨l.toArray⟩ m).1 : Nat) : Int)]) :: e) fs') : LW C ops Q (⟨some d, .next x true, t, pos, af, none⟩ :: rest) e fs :=
  LW.valset hd (fun c h => by cases h) hset (fun a w hs hb => by
    have hsz : m < (ByteArray.mk l.toArray).size := by simpa [ByteArray.size] using hm
    have h : (Instr.next (.pointer (some ⟨b, 0, none⟩)) true t).run C.P w = .ok (.tuple #[.bool true, .int .i64 (m : Int), .int .i32 (((Utf8.decode ⟨l.toArray⟩ m).1 : Nat) : Int)]) (w.putObj b (.stringIter ⟨l.toArray⟩ (m + (Utf8.decode ⟨l.toArray⟩ m).2))) := by
      simp only [Instr.next, getObj, setObj, Sem.run_bind, Sem.run, hb, Result.andThen, hsz, if_true]
      simp [goInt, Sem.run, hb, World.putObj]
    simp [execOp, hs.env.ev hx, h]) k
theorem LW.nextEnd {x : Operand} {b m : Nat} {l : List UInt8} (hd : Nat.blt d C.N = true) (hx : e.ev x = some (.pointer (some ⟨b, 0, none⟩))) (hk : Known C fs (b, .stringIter ⟨l.toArray⟩ m)) (hm : l.length ≤ m)
    (k : LW C ops Q rest ((d, .tuple #[.bool false]) :: e) fs) : LW C ops Q (⟨some d, .next x true, t, pos, af, none⟩ :: rest) e fs :=
  LW.val hd (fun c h => by cases h) (fun a w hs => by
    have hb := hk.get hs.st
    have hsz : ¬ m < (ByteArray.mk l.toArray).size := by simpa [ByteArray.size] using hm
    have h : (Instr.next (.pointer (some ⟨b, 0, none⟩)) true t).run C.P w = .ok (.tuple #[.bool false]) w := by
      simp [Instr.next, getObj, Sem.run, hb, hsz]
    simp [execOp, hs.env.ev hx, h]) k
end lw
theorem decode_lo (l : List UInt8) (m : Nat) (hm : m < l.length) (h : l[m].toNat < 128) : Utf8.decode ⟨l.toArray⟩ m = (l[m].toNat, 1) := by
  have := decode_ascii ⟨l.toArray⟩ m (by simpa [ByteArray.size] using hm) (show l.toArray[m].toNat < 128 by simpa using h)
  rw [this]
  show (l.toArray[m].toNat, 1) = _
  simp
theorem decode_hi (l : List UInt8) (m : Nat) (hm : m < l.length) (h : 128 ≤ l[m].toNat) : 128 ≤ (Utf8.decode ⟨l.toArray⟩ m).1 ∧ (Utf8.decode ⟨l.toArray⟩ m).1 ≤ 2147483647 :=
  ⟨(decode_high ⟨l.toArray⟩ m (by simpa [ByteArray.size] using hm) (show 128 ≤ l.toArray[m].toNat by simpa using h)).1, decode_le _ _⟩
theorem is_str {w : World} {cs : List Value} (h : Ty.str.is w cs) : ∃ l : List UInt8, l.length ≤ maxLen ∧ cs = [sv l] := by
  obtain ⟨s, rfl, hs⟩ := h
  obtain ⟨l, rfl⟩ := str_list s
  exact ⟨l, by simpa [ByteArray.size] using hs, rfl⟩
/-- The cells of strings. -/
def scs (l : List (List UInt8)) : List Value := l.flatMap fun x => [sv x]
theorem scs_one (l : List (List UInt8)) : ∀ x ∈ l, ([sv x] : List Value).length = 1 := fun _ _ => rfl
/-- A call of a body of the model's own that reads memory. -/
theorem LW.callXS {C : Cu} {ops : Array Oper} {Q : Post} {rest : List Oper} {e : Env} {fs : Fs} {d : Nat} {t : TypeId} {pos : String} {af : Array Edge} {fo : Operand} {args : Array Operand} {tys : Array TypeId} {f : FuncId} {vs : List Value} {v : Value} (hd : Nat.blt d C.N = true) (hf : e.ev fo = some (.func (.func f) #[] #[])) (ha : ArgsOk e args.toList vs)
    (h : ∀ w, St C.w0 C.S fs w → (callFunc f vs.toArray).run C.P w = .ok (.value v) w) (k : LW C ops Q rest ((d, v) :: e) fs) : LW C ops Q (⟨some d, .call { callee := .value fo, args := args, argTypes := tys }, t, pos, af, none⟩ :: rest) e fs :=
  LW.val hd (fun c h => by cases h) (fun a w hs => by
    simp [execOp, resolve, invoke, Deferred.ofValue, hs.env.ev hf, ha.arr hs.env.Ev, h w hs.st]) k
end Go.Proofs.Ytahoghldnijnbaa.SL
