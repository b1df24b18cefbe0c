/-
  A SMALL LOGIC OVER THE KIT's WALK, PART V: calls in drawn regions that read rows.
  Conditions: none; over any program.
-/
import Derived.Test.YtahoghldnijnbaaSlu
namespace Go.Proofs.Ytahoghldnijnbaa.SL
set_option linter.unusedVariables false
set_option linter.unusedSimpArgs false
open Go Go.RowKit
theorem IsRow.us {E : TypeId} {sz n : Nat} {v : Value} {xs : List Value} {seg us : Fs} {w : World} (h : IsRow E sz v n xs seg) (hu : ∀ p ∈ us, w.heap[p.1]? = some p.2) (hs : List.Sublist seg us) : RowAt w sz v n xs := by
  cases h with
  | nil => exact .nil
  | @own g _ cap cur _ hn hm hc ht hl =>
    have hg := hu (g, .cells cur E (0, 0)) (hs.subset (by simp))
    exact ⟨⟨_, _, rfl, hn, hm⟩, hl, fun _ => ⟨g, 0, cap, cur, E, _, rfl, hg, by simpa using ht⟩, .own hg⟩
theorem ReadAll.app {C : Cu} {ops : Array Oper} {k : Nat} {bs : List Nat} {ts ts1 : Ts} {us : Fs} (h : ReadAll C ops k bs ts us ts1) : ∀ {bs' : List Nat} {us' : Fs} {ts2 : Ts}, ReadAll C ops k bs' ts1 us' ts2 → ReadAll C ops k (bs ++ bs') ts (us ++ us') ts2 := by
  induction h with
  | nil => intro _ _ _ h'; exact h'
  | own h _ ih => intro _ _ _ h'; exact .own h (ih h')
  | ext h hS _ ih => intro _ _ _ h'; exact .ext h hS (ih h')
/-- What a call's operands name is looked at: facts of ours, or rows that lay there when the call began. -/
inductive RdV (C : Cu) (ops : Array Oper) (k : Nat) : List Value → Ts → Fs → Ts → Prop
  | nil {ts : Ts} : RdV C ops k [] ts [] ts
  | plain {v : Value} {vs : List Value} {ts ts2 : Ts} {us : Fs} (hb : blocksN 4 v = []) (h : RdV C ops k vs ts us ts2) : RdV C ops k (v :: vs) ts us ts2
  | none {n c : Nat} {vs : List Value} {ts ts2 : Ts} {us : Fs} (h : RdV C ops k vs ts us ts2) : RdV C ops k (.slice .none n c :: vs) ts us ts2
  | ptr {b off : Nat} {o : Obj} {vs : List Value} {ts ts1 ts2 : Ts} {us : Fs} (h : TRead ops k ts b o ts1) (hs : RdV C ops k vs ts1 us ts2) : RdV C ops k (.pointer (some ⟨b, off, .none⟩) :: vs) ts ((b, o) :: us) ts2
  | own {b off n c : Nat} {o : Obj} {vs : List Value} {ts ts1 ts2 : Ts} {us : Fs} (hc : 0 < c) (h : TRead ops k ts b o ts1) (hs : RdV C ops k vs ts1 us ts2) : RdV C ops k (.slice (some ⟨b, off, .none⟩) n c :: vs) ts ((b, o) :: us) ts2
  | ext {v : Value} {n : Nat} {sz : Nat} {xs : List Value} {vs : List Value} {ts ts2 : Ts} {us : Fs} (h : RowAt C.w0 sz v n xs) (hS : C.S = []) (hs : RdV C ops k vs ts us ts2) : RdV C ops k (v :: vs) ts us ts2
theorem RdV.all {C : Cu} {ops : Array Oper} {k : Nat} {vs : List Value} {ts ts' : Ts} {us : Fs} (h : RdV C ops k vs ts us ts') : ∃ us2, ReadAll C ops k (vs.flatMap (blocksN 4)) ts us2 ts' ∧ ∀ p ∈ us, p ∈ us2 := by
  induction h with
  | nil => exact ⟨[], .nil, by simp⟩
  | plain hb _ ih =>
    obtain ⟨us2, h1, h2⟩ := ih
    exact ⟨us2, by rw [List.flatMap_cons, hb]; exact h1, h2⟩
  | none _ ih =>
    obtain ⟨us2, h1, h2⟩ := ih
    exact ⟨us2, h1, h2⟩
  | @ptr b off o vs ts ts1 ts2 us h _ ih =>
    obtain ⟨us2, h1, h2⟩ := ih
    refine ⟨(b, o) :: us2, .own h h1, fun p hp => ?_⟩
    rcases List.mem_cons.1 hp with rfl | hp
    · exact List.mem_cons_self
    · exact List.mem_cons_of_mem _ (h2 p hp)
  | @own b off n c o vs ts ts1 ts2 us hc h _ ih =>
    obtain ⟨us2, h1, h2⟩ := ih
    refine ⟨(b, o) :: us2, ?_, fun p hp => ?_⟩
    · rw [List.flatMap_cons, show blocksN 4 (.slice (some ⟨b, off, .none⟩) n c) = [b] by simp [blocksN, Nat.ne_of_gt hc]]
      exact .own h h1
    · rcases List.mem_cons.1 hp with rfl | hp
      · exact List.mem_cons_self
      · exact List.mem_cons_of_mem _ (h2 p hp)
  | @ext v n sz xs vs ts ts2 us h hS _ ih =>
    obtain ⟨us2, h1, h2⟩ := ih
    obtain ⟨p, c, rfl, _, _⟩ := h.form
    rcases h.lies _ _ _ rfl with rfl | rfl | ⟨b, off, o, rfl, hb⟩
    · exact ⟨us2, h1, h2⟩
    · exact ⟨us2, by rw [List.flatMap_cons, show blocksN 4 (.slice p n 0) = [] by cases p <;> simp [blocksN]]; exact h1, h2⟩
    · rcases Nat.eq_zero_or_pos c with hc | hc
      · subst hc
        exact ⟨us2, by rw [List.flatMap_cons, show blocksN 4 (.slice (some ⟨b, off, .none⟩) n 0) = [] by simp [blocksN]]; exact h1, h2⟩
      · refine ⟨(b, o) :: us2, ?_, fun p hp => List.mem_cons_of_mem _ (h2 p hp)⟩
        rw [List.flatMap_cons, show blocksN 4 (.slice (some ⟨b, off, .none⟩) n c) = [b] by simp [blocksN, Nat.ne_of_gt hc]]
        exact .ext hb (by rw [hS]; simp) h1
section dw
variable {C : Cu} {ops : Array Oper} {Q : Post} {tl rest : List Oper} {e : Env} {ts : Ts} {μ : Mu} {k d : Nat} {op : Op} {t : TypeId} {pos : String} {af : Array Edge} {g : Option (Nat × Bool)}
theorem DW.callV {fo : Operand} {args : Array Operand} {tys : Array TypeId} {f : FuncId} {vs : List Value} {v : Value} {us : Fs} {ts' : Ts} (hk : ops[k]? = some ⟨some d, .call { callee := .value fo, args := args, argTypes := tys }, t, pos, af, g⟩) (hm : μ k = none)
    (hd : Nat.blt d C.N = true) (hg : WantT ops e g) (hf : e.ev fo = some (.func (.func f) #[] #[])) (hF : FnI C.P f) (ha : ArgsOk e args.toList vs) (hr : RdV C ops k vs ts us ts')
    (hc : ∀ w, Bel C.w0.heap.size C.S C.w0 w → (∀ p ∈ us, w.heap[p.1]? = some p.2) → Calls C.P f vs.toArray w (Ret w v)) (kk : DW C ops μ Q tl rest (k + 1) ((d, v) :: e) ts') :
    DW C ops μ Q tl (⟨some d, .call { callee := .value fo, args := args, argTypes := tys }, t, pos, af, g⟩ :: rest) k e ts := by
  obtain ⟨us2, h1, h2⟩ := hr.all
  exact DW.callE hk hm hd hg hf hF ha (show _ = vs.flatMap (blocksN 4) from rfl) h1 (fun w hb hu => hc w hb fun p hp => hu p (h2 p hp)) kk
theorem DW.manyV {fo : Operand} {args : Array Operand} {tys : Array TypeId} {f : FuncId} {vs : List Value} {M : Rel1} {us : Fs} {ts' : Ts} (hk : ops[k]? = some ⟨some d, .call { callee := .value fo, args := args, argTypes := tys }, t, pos, af, g⟩) (hm : μ k = some M)
    (hd : Nat.blt d C.N = true) (hg : WantT ops e g) (hf : e.ev fo = some (.func (.func f) #[] #[])) (hF : FnI C.P f) (ha : ArgsOk e args.toList vs) (hr : RdV C ops k vs ts us ts')
    (hc : ∀ w, Bel C.w0.heap.size C.S C.w0 w → (∀ p ∈ us, w.heap[p.1]? = some p.2) → Calls C.P f vs.toArray w (RetG w [] M)) (kk : ∀ v gs, M v gs → DW C ops μ Q tl rest (k + 1) ((d, v) :: e) (tsNew k gs ++ ts')) :
    DW C ops μ Q tl (⟨some d, .call { callee := .value fo, args := args, argTypes := tys }, t, pos, af, g⟩ :: rest) k e ts := by
  obtain ⟨us2, h1, h2⟩ := hr.all
  exact DW.manyE hk hm hd hg hf hF ha (show _ = vs.flatMap (blocksN 4) from rfl) h1 (fun w hb hu => hc w hb fun p hp => hu p (h2 p hp)) kk
end dw
end Go.Proofs.Ytahoghldnijnbaa.SL
