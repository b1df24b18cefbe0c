/-
  A SMALL LOGIC OVER THE KIT's WALK, PART A: a region that draws its order of evaluation is walked once, in the text's order: every other order comes to the same, because each operation names the blocks that it touches, and waits for whoever touched them before.
  Conditions: none; over any program.
-/
import Derived.Below
import Derived.StillTail
import Derived.OrdersIn
import Derived.TacticsIn
import Derived.RangeFuncLeaves
import Derived.RangeFuncRecord
import Derived.KernelRfl
namespace Go.Proofs.Ytahoghldnijnbaa.SL
open Go Go.RowKit

/-- Below block number B, but for the blocks of S, the world w' is as w was. -/
structure Bel (B : Nat) (S : List Nat) (w w' : World) : Prop where
  os : w'.os = w.os
  tape : w'.tape = w.tape
  output : w'.output = w.output
  size : w.heap.size ≤ w'.heap.size
  block : ∀ k, k < B → k ∉ S → w'.heap[k]? = w.heap[k]?

theorem Bel.refl (B : Nat) (S : List Nat) (w : World) : Bel B S w w := ⟨rfl, rfl, rfl, Nat.le_refl _, fun _ _ _ => rfl⟩
theorem Bel.trans {B : Nat} {S : List Nat} {a b c : World} (h : Bel B S a b) (k : Bel B S b c) : Bel B S a c :=
  ⟨k.os.trans h.os, k.tape.trans h.tape, k.output.trans h.output, Nat.le_trans h.size k.size, fun i hi hs => (k.block i hi hs).trans (h.block i hi hs)⟩
theorem Bel.mono {B B' : Nat} {S S' : List Nat} {w w' : World} (h : Bel B S w w') (hB : B' ≤ B) (hS : ∀ x ∈ S, x < B' → x ∈ S') : Bel B' S' w w' :=
  ⟨h.os, h.tape, h.output, h.size, fun k hk hs => h.block k (by omega) (fun h' => hs (hS k h' hk))⟩
theorem Bel.below {B : Nat} {w w' : World} (h : Bel B [] w w') : Below B w w' := ⟨h.os, h.tape, h.output, h.size, fun k hk => h.block k hk (by simp)⟩
theorem Bel.of_below {B : Nat} {S : List Nat} {w w' : World} (h : Below B w w') : Bel B S w w' := ⟨h.os, h.tape, h.output, h.size, fun k hk _ => h.block k hk⟩
theorem Bel.drew {B : Nat} {S : List Nat} {a w : World} (h : Bel B S a w) : Bel B S a { w with drawn := w.drawn + 1 } := ⟨h.os, h.tape, h.output, h.size, h.block⟩
theorem Bel.alloc {B : Nat} {S : List Nat} {a w : World} (h : Bel B S a w) (hB : B ≤ w.heap.size) (o : Obj) : Bel B S a (w.alloc o) :=
  h.trans ⟨rfl, rfl, rfl, by simp, fun k hk _ => Below.heap_alloc _ _ _ (by omega)⟩
theorem Bel.put {B : Nat} {S : List Nat} {a w : World} (h : Bel B S a w) {b : Nat} (hb : B ≤ b ∨ b ∈ S) (o : Obj) : Bel B S a (w.putObj b o) :=
  h.trans ⟨rfl, rfl, rfl, by simp [World.putObj], fun k hk hs => World.putObj_heap_other (fun e => by
    subst e
    rcases hb with hb | hb
    · omega
    · exact hs hb)⟩

/-- What a call hands back that leaves all that was there as it was. -/
def Ret (w : World) (v : Value) (e : Ending) (w' : World) : Prop := e = .returned v ∧ Bel w.heap.size [] w w'

/-- What a call hands back: a value v and facts gs of new blocks, or of the blocks of S, that Φ speaks of; all else is as it was. -/
def RetG (w : World) (S : List Nat) (Φ : Value → List (Nat × Obj) → Prop) (e : Ending) (w' : World) : Prop :=
  ∃ v gs, e = .returned v ∧ Φ v gs ∧ Bel w.heap.size S w w' ∧ (∀ p ∈ gs, (w.heap.size ≤ p.1 ∨ p.1 ∈ S) ∧ w'.heap[p.1]? = some p.2) ∧ gs.Pairwise fun p q => p.1 ≠ q.1

/-- A frame at which the machine stands still. -/
def stuckFrame : Frame := { (default : Frame) with fn := 0, tmps := #[], todo := [.code (.refuse "")], defers := [], mode := .run, kind := .normal }

theorem step_stuck {P : Program} {v : Value} {cs : List Frame} {w : World} : ∃ o w', step P (lone (stuckFrame.finish v) cs w) = .ended o w' :=
  by refine ⟨?o, w, step_lone_ended (?h)⟩; case h => (simp only [stuckFrame, Frame.finish, stepG, stepG.exec]; rfl)

/-- What a call hands back hangs on the program, the arguments and the world alone. -/
theorem calls_unique {P : Program} {f : FuncId} {args : Array Value} {w : World} {v v' : Value}
    (h : Calls P f args w (Ret w v)) (h' : Calls P f args w (Ret w v')) : v = v' := by
  obtain ⟨e1, w1, fr1, ⟨he1, _⟩, hc1, hf1, hl1⟩ := h [stuckFrame]
  obtain ⟨e2, w2, fr2, ⟨he2, _⟩, hc2, hf2, hl2⟩ := h' [stuckFrame]
  subst he1; subst he2
  obtain ⟨n1, hn1⟩ := hc1
  obtain ⟨n2, hn2⟩ := hc2
  have key : ∀ (n1 n2 : Nat) (v v' : Value) (w1 w2 : World) (fr1 fr2 : Frame), fr1.leaving P w1 (.returned v) → fr2.leaving P w2 (.returned v') →
      runN P n1 (lone (Frame.enter P f args .normal) [stuckFrame] w) = .next (lone fr1 [stuckFrame] w1) →
      runN P n2 (lone (Frame.enter P f args .normal) [stuckFrame] w) = .next (lone fr2 [stuckFrame] w2) → n1 ≤ n2 → v = v' := by
    intro n1 n2 v v' w1 w2 fr1 fr2 hl1 hl2 hn1 hn2 hle
    obtain ⟨d, rfl⟩ : ∃ d, n2 = n1 + d := ⟨n2 - n1, by omega⟩
    rw [runN_add, hn1] at hn2
    cases d with
    | zero =>
      simp only [runN, Stepped.next.injEq, lone, Machine.mk.injEq] at hn2
      obtain ⟨hw, hg, _⟩ := hn2
      simp only [Array.mk.injEq, List.cons.injEq, Goroutine.mk.injEq] at hg
      obtain ⟨⟨hfr, _⟩, _⟩ := hg
      subst hw; subst hfr
      obtain ⟨_, _, _, fn1, hfn1, hr1⟩ := hl1
      obtain ⟨_, _, _, fn2, hfn2, hr2⟩ := hl2
      rw [hfn1] at hfn2
      cases hfn2
      rw [hr1] at hr2
      cases hr2
      rfl
    | succ d =>
      have hs := step_leave_returned (c := stuckFrame) (cs := []) hl1
      obtain ⟨o, w', ho⟩ := step_stuck (P := P) (v := v) (cs := []) (w := w1)
      simp only [runN, hs] at hn2
      cases d with
      | zero =>
        simp only [runN, Stepped.next.injEq, lone, Machine.mk.injEq] at hn2
        obtain ⟨_, hg, _⟩ := hn2
        simp at hg
      | succ d =>
        simp only [runN, ho] at hn2
        cases hn2
  rcases Nat.le_total n1 n2 with hle | hle
  · exact key n1 n2 v v' w1 w2 fr1 fr2 hl1 hl2 hn1 hn2 hle
  · exact (key n2 n1 v' v w2 w1 fr2 fr1 hl2 hl1 hn2 hn1 hle).symm

/-- What a new block is seen as. -/
inductive Sh where
  | ptr
  | sl (l c : Nat)
  | mp

def Sh.val : Sh → Nat → Value
  | .ptr, b => .pointer (some ⟨b, 0, none⟩)
  | .sl l c, b => .slice (some ⟨b, 0, none⟩) l c
  | .mp, b => .map (some b)

theorem Sh.inj {s s' : Sh} {b : Nat} (h : s.val b = s'.val b) : s = s' := by
  cases s <;> cases s' <;> simp_all [Sh.val]

/-- The blocks that a value names. -/
def blocksN : Nat → Value → List Nat
  | 0, _ => []
  | _ + 1, .pointer (some a) => [a.block]
  | _ + 1, .slice (some a) _ c => if c = 0 then [] else [a.block]
  | _ + 1, .map (some r) => [r]
  | n + 1, .func _ first captured => (first.toList ++ captured.toList).flatMap (blocksN n)
  | n + 1, .iface _ v => blocksN n v
  | n + 1, .agg cs => cs.toList.flatMap (blocksN n)
  | n + 1, .tuple cs => cs.toList.flatMap (blocksN n)
  | _ + 1, _ => []

def touchC (c : Call) (ρ : Operand → Value) : List Nat :=
  match c.callee with
  | .builtin .len => []
  | .builtin .min => []
  | .builtin .max => []
  | _ => c.operands.toList.flatMap fun x => blocksN 4 (ρ x)

/-- The blocks that an operation touches in memory. -/
def touch (o : Oper) (ρ : Operand → Value) : List Nat :=
  match o.op with
  | .load _ x => blocksN 4 (ρ x)
  | .store _ x _ => blocksN 4 (ρ x)
  | .call c => touchC c ρ
  | _ => []

def stBlk (o : Oper) (ρ : Operand → Value) : Option Nat :=
  match o.op with
  | .store _ x _ => (match ρ x with | .pointer (some a) => some a.block | _ => none)
  | _ => none

abbrev Facts := Nat → Option Obj
abbrev Tag := Nat → Nat → Prop
def upd (φ : Facts) (b : Nat) (o : Obj) : Facts := fun k => if k = b then some o else φ k
def addT (t : Tag) (u : List Nat) (i : Nat) : Tag := fun b k => t b k ∨ (k = i ∧ b ∈ u)

theorem upd_same (φ : Facts) (b : Nat) (o : Obj) : upd φ b o b = some o := by simp [upd]
theorem upd_other (φ : Facts) {b k : Nat} (o : Obj) (h : k ≠ b) : upd φ b o k = φ k := by simp [upd, h]
theorem upd_comm (φ : Facts) {b k : Nat} (o o' : Obj) (h : b ≠ k) : upd (upd φ b o) k o' = upd (upd φ k o') b o := by
  funext x
  by_cases h1 : x = k <;> by_cases h2 : x = b <;> simp_all [upd]
theorem addT_comm (t : Tag) (u u' : List Nat) (i j : Nat) : addT (addT t u i) u' j = addT (addT t u' j) u i := by
  funext b k
  simp only [addT, or_assoc, eq_iff_iff]
  exact or_congr_right or_comm

structure Cx where
  P : Program
  w0 : World
  S : List Nat

def Cx.holds (G : Cx) (φ : Facts) (w : World) : Prop := Bel G.w0.heap.size G.S G.w0 w ∧ ∀ b o, φ b = some o → w.heap[b]? = some o
def Cx.on (G : Cx) (φ : Facts) (u : List Nat) (w : World) : Prop := Bel G.w0.heap.size G.S G.w0 w ∧ ∀ b ∈ u, ∀ o, φ b = some o → w.heap[b]? = some o
def Cx.inv (G : Cx) (φ : Facts) : Prop := ∀ b, φ b ≠ none → G.w0.heap.size ≤ b ∨ b ∈ G.S
theorem Cx.holds.on {G : Cx} {φ : Facts} {w : World} (h : G.holds φ w) (u : List Nat) : G.on φ u w := ⟨h.1, fun b _ o ho => h.2 b o ho⟩

inductive Eff where
  | val (v : Value)
  | call (f : FuncId) (args : Array Value) (v : Value)
  | set (b : Nat) (o : Obj)

def Eff.out : Eff → Value
  | .val v => v
  | .call _ _ v => v
  | .set _ _ => undef
def Eff.phi : Eff → Facts → Facts
  | .set b o, φ => upd φ b o
  | _, φ => φ
def Eff.wr : Eff → List Nat
  | .set b _ => [b]
  | _ => []

def Eff.claim (G : Cx) (φ : Facts) (o : Oper) (ρ : Operand → Value) : Eff → Prop
  | .val v => ∀ w, G.on φ (touch o ρ) w → (execOp ρ o).run G.P w = .ok (.value v) w
  | .call f args v => ∀ w, G.on φ (touch o ρ) w → (execOp ρ o).run G.P w = .ok (.enter f args) w ∧ Calls G.P f args w (Ret w v)
  | .set b o' => stBlk o ρ = some b ∧ φ b ≠ none ∧ ∀ w, G.on φ (touch o ρ) w → (execOp ρ o).run G.P w = .ok .skip (w.putObj b o')
/-- What operations that hand back rows are told to hand back. -/
abbrev Rel1 := Value → List (Nat × Obj) → Prop
abbrev Mu := Nat → Option Rel1
def upds (φ : Facts) : List (Nat × Obj) → Facts
  | [] => φ
  | p :: r => upd (upds φ r) p.1 p.2
def keys (gs : List (Nat × Obj)) : List Nat := gs.map (·.1)
theorem upds_other {φ : Facts} : ∀ {gs : List (Nat × Obj)} {b : Nat}, b ∉ keys gs → upds φ gs b = φ b
  | [], _, _ => rfl
  | p :: r, b, h => by
    simp only [keys, List.map_cons, List.mem_cons, not_or] at h
    simp only [upds]
    rw [upd_other _ _ h.1]
    exact upds_other h.2
theorem upds_mem {φ : Facts} : ∀ {gs : List (Nat × Obj)} {b : Nat} {o : Obj}, upds φ gs b = some o → (b, o) ∈ gs ∨ (b ∉ keys gs ∧ φ b = some o)
  | [], _, _, h => .inr ⟨by simp [keys], h⟩
  | p :: r, b, o, h => by
    simp only [upds] at h
    by_cases hb : b = p.1
    · subst hb; rw [upd_same] at h; cases h; exact .inl List.mem_cons_self
    · rw [upd_other _ _ hb] at h
      rcases upds_mem h with h | ⟨h1, h2⟩
      · exact .inl (List.mem_cons_of_mem _ h)
      · exact .inr ⟨by simp only [keys, List.map_cons, List.mem_cons, not_or]; exact ⟨hb, h1⟩, h2⟩
theorem upds_key {φ : Facts} : ∀ {gs : List (Nat × Obj)} {b : Nat}, b ∈ keys gs → upds φ gs b ≠ none
  | p :: r, b, h => by
    simp only [upds]
    by_cases hb : b = p.1
    · subst hb; rw [upd_same]; simp
    · rw [upd_other _ _ hb]
      exact upds_key (by simpa [keys, hb] using h)
theorem upds_upd {φ : Facts} {b : Nat} {o : Obj} : ∀ {gs : List (Nat × Obj)}, b ∉ keys gs → upds (upd φ b o) gs = upd (upds φ gs) b o
  | [], _ => rfl
  | p :: r, h => by
    simp only [keys, List.map_cons, List.mem_cons, not_or] at h
    simp only [upds]
    rw [upds_upd h.2, upd_comm _ _ _ h.1]
theorem upds_comm {φ : Facts} {gs : List (Nat × Obj)} : ∀ {hs : List (Nat × Obj)}, (∀ b ∈ keys hs, b ∉ keys gs) → upds (upds φ gs) hs = upds (upds φ hs) gs
  | [], _ => rfl
  | p :: r, h => by
    simp only [upds]
    rw [upds_comm (fun b hb => h b (List.mem_cons_of_mem _ hb)), ← upds_upd (h p.1 List.mem_cons_self)]
/-- New blocks. -/
def Fresh (G : Cx) (φ : Facts) (gs : List (Nat × Obj)) : Prop := (∀ b ∈ keys gs, G.w0.heap.size ≤ b ∧ φ b = none) ∧ gs.Pairwise fun p q => p.1 ≠ q.1
def newM (s : Sh) (ob : Obj) : Rel1 := fun v gs => ∃ b, v = s.val b ∧ gs = [(b, ob)]
def manyClaim (G : Cx) (φ : Facts) (o : Oper) (ρ : Operand → Value) (M : Rel1) : Prop :=
  ∀ w, G.on φ (touch o ρ) w → ∃ f args, (execOp ρ o).run G.P w = .ok (.enter f args) w ∧ Calls G.P f args w (RetG w [] M)
def newClaim (G : Cx) (φ : Facts) (o : Oper) (ρ : Operand → Value) (s : Sh) (ob : Obj) : Prop :=
  ∀ w, G.on φ (touch o ρ) w → (execOp ρ o).run G.P w = .ok (.value (s.val w.heap.size)) (w.alloc ob)

theorem stBlk_touch {o : Oper} {ρ : Operand → Value} {b : Nat} (h : stBlk o ρ = some b) : b ∈ touch o ρ := by
  unfold stBlk at h
  unfold touch
  cases ho : o.op <;> simp only [ho] at h ⊢ <;> try (cases h; done)
  rename_i t x y
  split at h
  · rename_i a ha; cases h; rw [ha]; simp [blocksN]
  · cases h

section
variable {ops : Array Oper}

theorem eval_put {o : Oper} {a : Act} {dst : Option Tmp} {v : Value} (h : ∀ d, dst = some d → d ∉ o.looksAt ops) {x : Operand} (hx : x ∈ o.op.operands) :
    (a.put dst v).eval x = a.eval x :=
  Act.eval_put fun d hd hxd => h d hd (by
    subst hxd
    exact List.mem_append_left _ (List.mem_filterMap.2 ⟨.tmp d, by simpa using hx, rfl⟩))

theorem touch_put {o : Oper} {a : Act} {dst : Option Tmp} {v : Value} (h : ∀ d, dst = some d → d ∉ o.looksAt ops) : touch o (a.put dst v).eval = touch o a.eval := by
  have he := fun (x : Operand) (hx : x ∈ o.op.operands) => eval_put (a := a) (dst := dst) (v := v) h hx
  unfold touch
  cases ho : o.op <;> simp only [ho] at he ⊢
  · rw [he _ (by simp [Op.operands])]
  · rw [he _ (by simp [Op.operands])]
  · rename_i c
    have : ∀ l : List Operand, (∀ x ∈ l, x ∈ c.operands.toList) → l.flatMap (fun x => blocksN 4 ((a.put dst v).eval x)) = l.flatMap fun x => blocksN 4 (a.eval x) := by
      intro l
      induction l with
      | nil => intro _; rfl
      | cons y l ih =>
        intro hl
        simp only [List.flatMap_cons]
        rw [ih (fun x hx => hl x (List.mem_cons_of_mem _ hx)), he y (by simpa [Op.operands] using hl y List.mem_cons_self)]
    unfold touchC
    split <;> first | rfl | exact this _ (fun _ h => h)

theorem stBlk_put {o : Oper} {a : Act} {dst : Option Tmp} {v : Value} (h : ∀ d, dst = some d → d ∉ o.looksAt ops) : stBlk o (a.put dst v).eval = stBlk o a.eval := by
  have he := fun (x : Operand) (hx : x ∈ o.op.operands) => eval_put (a := a) (dst := dst) (v := v) h hx
  unfold stBlk
  cases ho : o.op <;> simp only [ho] at he ⊢
  rw [he _ (by simp [Op.operands])]
end

theorem on_agree {G : Cx} {φ φ' : Facts} {u : List Nat} (h : ∀ b ∈ u, φ b = φ' b) {w : World} (hw : G.on φ' u w) : G.on φ u w :=
  ⟨hw.1, fun b hb o ho => hw.2 b hb o (by rw [← h b hb]; exact ho)⟩

theorem Eff.claim_agree {G : Cx} {φ φ' : Facts} {o : Oper} {ρ : Operand → Value} {e : Eff} (h : ∀ b ∈ touch o ρ, φ b = φ' b) (hc : e.claim G φ o ρ) : e.claim G φ' o ρ := by
  cases e with
  | val v => exact fun w hw => hc w (on_agree h hw)
  | call f args v => exact fun w hw => hc w (on_agree h hw)
  | set b o' => exact ⟨hc.1, by rw [← h b (stBlk_touch hc.1)]; exact hc.2.1, fun w hw => hc.2.2 w (on_agree h hw)⟩

theorem newClaim_agree {G : Cx} {φ φ' : Facts} {o : Oper} {ρ : Operand → Value} {s : Sh} {ob : Obj} (h : ∀ b ∈ touch o ρ, φ b = φ' b) (hc : newClaim G φ o ρ s ob) : newClaim G φ' o ρ s ob :=
  fun w hw => hc w (on_agree h hw)

theorem manyClaim_agree {G : Cx} {φ φ' : Facts} {o : Oper} {ρ : Operand → Value} {M : Rel1} (h : ∀ b ∈ touch o ρ, φ b = φ' b) (hc : manyClaim G φ o ρ M) : manyClaim G φ' o ρ M :=
  fun w hw => hc w (on_agree h hw)

theorem putObj_inj {w : World} {b : Nat} {o o' : Obj} (hb : b < w.heap.size) (h : w.putObj b o = w.putObj b o') : o = o' := by
  have h1 := World.putObj_heap_same (w := w) (r := b) (o := o) hb
  rw [h, World.putObj_heap_same hb] at h1
  exact (Option.some.inj h1).symm

theorem alloc_ne (w : World) (o : Obj) : w.alloc o ≠ w := fun h => by
  have := congrArg (fun w : World => w.heap.size) h
  simp at this

theorem Eff.unique {G : Cx} {φ : Facts} {o : Oper} {ρ : Operand → Value} {e e' : Eff} {w : World} (hw : G.holds φ w) (h : e.claim G φ o ρ) (h' : e'.claim G φ o ρ) : e = e' := by
  have ho := hw.on (touch o ρ)
  cases e with
  | val v =>
    have h1 := h w ho
    cases e' with
    | val v' => have h2 := h' w ho; rw [h1] at h2; cases h2; rfl
    | call f args v' => have h2 := (h' w ho).1; rw [h1] at h2; cases h2
    | set b o' => have h2 := h'.2.2 w ho; rw [h1] at h2; cases h2
  | call f args v =>
    obtain ⟨h1, c1⟩ := h w ho
    cases e' with
    | val v' => have h2 := h' w ho; rw [h1] at h2; cases h2
    | call f' args' v' =>
      obtain ⟨h2, c2⟩ := h' w ho
      rw [h1] at h2
      cases h2
      rw [calls_unique c1 c2]
    | set b o' => have h2 := h'.2.2 w ho; rw [h1] at h2; cases h2
  | set b ob =>
    have h1 := h.2.2 w ho
    cases e' with
    | val v' => have h2 := h' w ho; rw [h1] at h2; cases h2
    | call f args v' => have h2 := (h' w ho).1; rw [h1] at h2; cases h2
    | set b' ob' =>
      have hb : b = b' := by have := h.1.symm.trans h'.1; simpa using this
      subst hb
      have h2 := h'.2.2 w ho
      rw [h1] at h2
      injection h2 with _ h2
      obtain ⟨x, hx⟩ := Option.ne_none_iff_exists'.1 h.2.1
      have hlt : b < w.heap.size := (Array.getElem?_eq_some_iff.1 (hw.2 b x hx)).1
      rw [putObj_inj hlt h2]

theorem Eff.not_new {G : Cx} {φ : Facts} {o : Oper} {ρ : Operand → Value} {e : Eff} {s : Sh} {ob : Obj} {w : World} (hw : G.holds φ w) (h : e.claim G φ o ρ) (h' : newClaim G φ o ρ s ob) : False := by
  have ho := hw.on (touch o ρ)
  have h2 := h' w ho
  cases e with
  | val v =>
    have h1 := h w ho
    rw [h1] at h2
    injection h2 with _ h2
    exact alloc_ne _ _ h2.symm
  | call f args v => have h1 := (h w ho).1; rw [h1] at h2; cases h2
  | set b o' => have h1 := h.2.2 w ho; rw [h1] at h2; cases h2

theorem new_unique {G : Cx} {φ : Facts} {o : Oper} {ρ : Operand → Value} {s s' : Sh} {ob ob' : Obj} {w : World} (hw : G.holds φ w) (h : newClaim G φ o ρ s ob) (h' : newClaim G φ o ρ s' ob') : s = s' ∧ ob = ob' := by
  have ho := hw.on (touch o ρ)
  have h1 := h w ho
  rw [h' w ho] at h1
  injection h1 with h1 h2
  injection h1 with h1
  refine ⟨(Sh.inj h1).symm, ?_⟩
  have h3 := World.alloc_heap_new w ob
  rw [← h2, World.alloc_heap_new] at h3
  exact (Option.some.inj h3).symm

/-! ### One operation, and two that stand apart -/
abbrev Kont := Act → Facts → Tag → Tag → Prop
variable {ops : Array Oper} {anc : Nat → Nat → Prop} {G : Cx} {μ : Mu}

/-- What an operation does to state (a, φ), but for a new block. -/
def Can (G : Cx) (ops : Array Oper) (m : Option Rel1) (φ : Facts) (o : Oper) (a : Act) (e : Eff) : Prop :=
  (Region.wanted o (yielded ops a.tmps) = true ∧ m = none ∧ e.claim G φ o a.eval) ∨ (Region.wanted o (yielded ops a.tmps) = false ∧ e = .val undef)
def CanMk (G : Cx) (ops : Array Oper) (m : Option Rel1) (φ : Facts) (o : Oper) (a : Act) (M : Rel1) : Prop :=
  Region.wanted o (yielded ops a.tmps) = true ∧ ((m = none ∧ ∃ s ob, newClaim G φ o a.eval s ob ∧ M = newM s ob) ∨ (m = some M ∧ manyClaim G φ o a.eval M))

/-- The blocks that are touched. -/
def tch (ops : Array Oper) (o : Oper) (a : Act) : List Nat := if Region.wanted o (yielded ops a.tmps) = true then touch o a.eval else []

def dOp (G : Cx) (ops : Array Oper) (anc : Nat → Nat → Prop) (μ : Mu) (i : Nat) (K : Kont) : Kont := fun a φ tw tr =>
  match ops[i]? with
  | none => K a φ tw tr
  | some o => (∀ b ∈ tch ops o a, (φ b ≠ none ∨ b < G.w0.heap.size) ∧ ∀ k, tw b k → anc k i) ∧
    ((∃ e, Can G ops (μ i) φ o a e ∧ (∀ b ∈ e.wr, ∀ k, tr b k → anc k i) ∧ K (a.put o.dst e.out) (e.phi φ) (addT tw e.wr i) (addT tr (tch ops o a) i)) ∨
     (∃ M, CanMk G ops (μ i) φ o a M ∧ ∀ v gs, M v gs → Fresh G φ gs → (∃ w, G.holds (upds φ gs) w) → K (a.put o.dst v) (upds φ gs) (addT tw (keys gs) i) (addT tr (tch ops o a) i)))

theorem phi_of_not_wr {e : Eff} {φ : Facts} {b : Nat} (h : b ∉ e.wr) : e.phi φ b = φ b := by
  cases e <;> simp_all [Eff.phi, Eff.wr, upd]

theorem phi_none {e : Eff} {φ : Facts} {b : Nat} {o : Oper} {ρ : Operand → Value} (hc : e.claim G φ o ρ) : e.phi φ b = none ↔ φ b = none := by
  cases e with
  | val v => rfl
  | call f args v => rfl
  | set k o' =>
    by_cases h : b = k
    · subst h; simp [Eff.phi, upd, hc.2.1]
    · simp [Eff.phi, upd, h]

variable {mi : Option Rel1}
theorem Can.phi_none {e : Eff} {φ : Facts} {b : Nat} {o : Oper} {a : Act} (hc : Can G ops mi φ o a e) : e.phi φ b = none ↔ φ b = none := by
  rcases hc with ⟨_, _, h⟩ | ⟨_, rfl⟩
  · exact SL.phi_none h
  · rfl

theorem Can.wr_tch {e : Eff} {φ : Facts} {b : Nat} {o : Oper} {a : Act} (hc : Can G ops mi φ o a e) (hb : b ∈ e.wr) : b ∈ tch ops o a ∧ φ b ≠ none := by
  rcases hc with ⟨hw, _, h⟩ | ⟨_, rfl⟩
  · cases e with
    | set k o' =>
      simp only [Eff.wr, List.mem_singleton] at hb
      subst hb
      exact ⟨by unfold tch; rw [if_pos hw]; exact stBlk_touch h.1, h.2.1⟩
    | _ => simp [Eff.wr] at hb
  · simp [Eff.wr] at hb

theorem Can.agree {e : Eff} {φ φ' : Facts} {o : Oper} {a : Act} (h : ∀ b ∈ tch ops o a, φ b = φ' b) (hc : Can G ops mi φ o a e) : Can G ops mi φ' o a e := by
  rcases hc with ⟨hw, hm, hc⟩ | hc
  · exact .inl ⟨hw, hm, Eff.claim_agree (by unfold tch at h; rw [if_pos hw] at h; exact h) hc⟩
  · exact .inr hc

theorem CanMk.agree {M : Rel1} {φ φ' : Facts} {o : Oper} {a : Act} (h : ∀ b ∈ tch ops o a, φ b = φ' b) (hc : CanMk G ops mi φ o a M) : CanMk G ops mi φ' o a M := by
  have h' : ∀ b ∈ touch o a.eval, φ b = φ' b := by unfold tch at h; rw [if_pos hc.1] at h; exact h
  refine ⟨hc.1, ?_⟩
  rcases hc.2 with ⟨h1, s, ob, h2, h3⟩ | ⟨h1, h2⟩
  · exact .inl ⟨h1, s, ob, newClaim_agree h' h2, h3⟩
  · exact .inr ⟨h1, manyClaim_agree h' h2⟩

section put
variable {o : Oper} {a : Act} {dst : Option Tmp} {v : Value}

theorem tch_put (h : ∀ d, dst = some d → d ∉ o.looksAt ops) : tch ops o (a.put dst v) = tch ops o a := by
  unfold tch
  rw [wanted_put o a dst v h, touch_put h]

theorem Eff.claim_put {e : Eff} {φ : Facts} (hs : ∀ cs b, o.op ≠ .select cs b) (h : ∀ d, dst = some d → d ∉ o.looksAt ops) : e.claim G φ o (a.put dst v).eval ↔ e.claim G φ o a.eval := by
  have h1 := execOp_put o hs a dst v h
  have h2 := touch_put (a := a) (v := v) h
  have h3 := stBlk_put (a := a) (v := v) h
  cases e <;> simp only [Eff.claim, h1, h2, h3]

theorem Can.put {e : Eff} {φ : Facts} (hs : ∀ cs b, o.op ≠ .select cs b) (h : ∀ d, dst = some d → d ∉ o.looksAt ops) : Can G ops mi φ o (a.put dst v) e ↔ Can G ops mi φ o a e := by
  unfold Can
  rw [wanted_put o a dst v h, Eff.claim_put hs h]

theorem CanMk.put {M : Rel1} {φ : Facts} (hs : ∀ cs b, o.op ≠ .select cs b) (h : ∀ d, dst = some d → d ∉ o.looksAt ops) : CanMk G ops mi φ o (a.put dst v) M ↔ CanMk G ops mi φ o a M := by
  unfold CanMk newClaim manyClaim
  rw [wanted_put o a dst v h, execOp_put o hs a dst v h, touch_put h]
end put

theorem Can.unique {φ : Facts} {o : Oper} {a : Act} {e e' : Eff} {w : World} (hw : G.holds φ w) (h : Can G ops mi φ o a e) (h' : Can G ops mi φ o a e') : e = e' := by
  rcases h with ⟨hw1, _, h⟩ | ⟨hw1, rfl⟩ <;> rcases h' with ⟨hw2, _, h'⟩ | ⟨hw2, rfl⟩
  · exact Eff.unique hw h h'
  · rw [hw1] at hw2; cases hw2
  · rw [hw1] at hw2; cases hw2
  · rfl

theorem Can.not_new {φ : Facts} {o : Oper} {a : Act} {e : Eff} {M : Rel1} {w : World} (hw : G.holds φ w) (h : Can G ops mi φ o a e) (h' : CanMk G ops mi φ o a M) : False := by
  rcases h with ⟨_, hm, h⟩ | ⟨hw1, _⟩
  · rcases h'.2 with ⟨_, s, ob, h2, _⟩ | ⟨h2, _⟩
    · exact Eff.not_new hw h h2
    · rw [hm] at h2; cases h2
  · rw [h'.1] at hw1; cases hw1
theorem CanMk.unique {φ : Facts} {o : Oper} {a : Act} {M M' : Rel1} {w : World} (hw : G.holds φ w) (h : CanMk G ops mi φ o a M) (h' : CanMk G ops mi φ o a M') : M = M' := by
  rcases h.2 with ⟨h1, s, ob, h2, rfl⟩ | ⟨h1, h2⟩ <;> rcases h'.2 with ⟨k1, s', ob', k2, rfl⟩ | ⟨k1, k2⟩
  · obtain ⟨rfl, rfl⟩ := new_unique hw h2 k2; rfl
  · rw [h1] at k1; cases k1
  · rw [h1] at k1; cases k1
  · rw [h1] at k1; cases k1; rfl

theorem holds_new {φ : Facts} {w : World} (hw : G.holds φ w) (ob : Obj) : G.w0.heap.size ≤ w.heap.size ∧ φ w.heap.size = none ∧ G.holds (upd φ w.heap.size ob) (w.alloc ob) := by
  refine ⟨hw.1.size, ?_, hw.1.alloc hw.1.size _, fun b o hb => ?_⟩
  · cases h : φ w.heap.size with
    | none => rfl
    | some o => have := (Array.getElem?_eq_some_iff.1 (hw.2 _ _ h)).1; omega
  · by_cases h : b = w.heap.size
    · subst h; rw [upd_same] at hb; cases hb; exact World.alloc_heap_new w ob
    · rw [upd_other _ _ h] at hb
      have h1 := hw.2 b o hb
      rw [Below.heap_alloc _ _ _ (Array.getElem?_eq_some_iff.1 h1).1]; exact h1

theorem holds_many {φ : Facts} {w w' : World} (hw : G.holds φ w) {M : Rel1} {e : Ending} (h : RetG w [] M e w') : ∃ v gs, e = .returned v ∧ M v gs ∧ Fresh G φ gs ∧ G.holds (upds φ gs) w' := by
  obtain ⟨v, gs, he, hM, hb, hg, hn⟩ := h
  refine ⟨v, gs, he, hM, ⟨fun b hb' => ?_, hn⟩, hw.1.trans (hb.mono hw.1.size (by simp)), fun b o hbo => ?_⟩
  · obtain ⟨p, hp, rfl⟩ := List.mem_map.1 hb'
    have h1 : w.heap.size ≤ p.1 := by rcases (hg p hp).1 with h | h; exact h; cases h
    refine ⟨Nat.le_trans hw.1.size h1, ?_⟩
    cases h2 : φ p.1 with
    | none => rfl
    | some o => have := (Array.getElem?_eq_some_iff.1 (hw.2 _ _ h2)).1; omega
  · rcases upds_mem hbo with h1 | ⟨_, h1⟩
    · exact (hg _ h1).2
    · have h2 := hw.2 b o h1
      rw [hb.block b (Array.getElem?_eq_some_iff.1 h2).1 (by simp)]; exact h2
theorem CanMk.some {φ : Facts} {o : Oper} {a : Act} {M : Rel1} {w : World} (hw : G.holds φ w) (h : CanMk G ops mi φ o a M) : ∃ v gs, M v gs ∧ Fresh G φ gs ∧ ∃ w', G.holds (upds φ gs) w' := by
  rcases h.2 with ⟨_, s, ob, h2, rfl⟩ | ⟨_, h2⟩
  · obtain ⟨q1, q2, q3⟩ := holds_new hw ob
    exact ⟨_, _, ⟨_, rfl, rfl⟩, ⟨by simpa [keys] using ⟨q1, q2⟩, by simp⟩, _, q3⟩
  · obtain ⟨f, args, _, h3⟩ := h2 w (hw.on _)
    obtain ⟨e, w', _, h4, _⟩ := h3 []
    obtain ⟨v, gs, _, h5, h6, h7⟩ := holds_many hw h4
    exact ⟨v, gs, h5, h6, w', h7⟩
theorem holds_put {φ : Facts} (hinv : G.inv φ) {w : World} (hw : G.holds φ w) {b : Nat} (hb : φ b ≠ none) (ob : Obj) : G.holds (upd φ b ob) (w.putObj b ob) := by
  obtain ⟨x, hx⟩ := Option.ne_none_iff_exists'.1 hb
  have hlt := (Array.getElem?_eq_some_iff.1 (hw.2 b x hx)).1
  refine ⟨hw.1.put (hinv b hb) _, fun k o hk => ?_⟩
  by_cases h : k = b
  · subst h; rw [upd_same] at hk; cases hk; exact World.putObj_heap_same hlt
  · rw [upd_other _ _ h] at hk; rw [World.putObj_heap_other h]; exact hw.2 k o hk

theorem holds_drop {φ : Facts} {w : World} {b : Nat} {ob : Obj} (hb : φ b = none) (hw : G.holds (upd φ b ob) w) : G.holds φ w :=
  ⟨hw.1, fun k o hk => hw.2 k o (by rw [upd_other _ _ (fun e => by subst e; rw [hb] at hk; cases hk)]; exact hk)⟩

theorem holds_drops {φ : Facts} {w : World} {gs : List (Nat × Obj)} (hg : ∀ b ∈ keys gs, φ b = none) (hw : G.holds (upds φ gs) w) : G.holds φ w :=
  ⟨hw.1, fun k o hk => hw.2 k o (by rw [upds_other (fun h => by rw [hg k h] at hk; cases hk)]; exact hk)⟩
theorem inv_upd {φ : Facts} (hinv : G.inv φ) {b : Nat} (hb : G.w0.heap.size ≤ b ∨ b ∈ G.S) (ob : Obj) : G.inv (upd φ b ob) := fun k hk => by
  by_cases h : k = b
  · subst h; exact hb
  · rw [upd_other _ _ h] at hk; exact hinv k hk

theorem inv_upds {φ : Facts} (hinv : G.inv φ) {gs : List (Nat × Obj)} (hg : ∀ b ∈ keys gs, G.w0.heap.size ≤ b) : G.inv (upds φ gs) := fun k hk => by
  by_cases h : k ∈ keys gs
  · exact .inl (hg k h)
  · rw [upds_other h] at hk; exact hinv k hk
theorem Can.inv {φ : Facts} {o : Oper} {a : Act} {e : Eff} (hinv : G.inv φ) (h : Can G ops mi φ o a e) : G.inv (e.phi φ) := fun k hk => hinv k (fun h0 => hk (h.phi_none.2 h0))

theorem Can.wit {φ : Facts} {o : Oper} {a : Act} {e : Eff} (hinv : G.inv φ) (h : Can G ops mi φ o a e) {w : World} (hw : G.holds φ w) : ∃ w', G.holds (e.phi φ) w' := by
  cases e with
  | val v => exact ⟨w, hw⟩
  | call f args v => exact ⟨w, hw⟩
  | set b ob => exact ⟨_, holds_put hinv hw (h.wr_tch (by simp [Eff.wr])).2 ob⟩

/-- A fact that e has turned, turned back. -/
theorem Can.back {φ : Facts} {o : Oper} {a : Act} {e : Eff} (hinv : G.inv φ) (h : Can G ops mi φ o a e) {gs : List (Nat × Obj)} (hg : ∀ b ∈ keys gs, G.w0.heap.size ≤ b ∧ φ b = none) {w : World}
    (hw : G.holds (upds (e.phi φ) gs) w) : ∃ w', G.holds (upds φ gs) w' := by
  cases e with
  | val v => exact ⟨w, hw⟩
  | call f args v => exact ⟨w, hw⟩
  | set k o' =>
    obtain ⟨_, hk⟩ := h.wr_tch (b := k) (by simp [Eff.wr])
    obtain ⟨x, hx⟩ := Option.ne_none_iff_exists'.1 hk
    have hkg : k ∉ keys gs := fun h0 => hk (hg k h0).2
    have hinv' : G.inv (upds (upd φ k o') gs) := inv_upds (inv_upd hinv (hinv k hk) _) (fun b hb => (hg b hb).1)
    have h1 := holds_put hinv' hw (b := k) (by rw [upds_other hkg, upd_same]; simp) x
    refine ⟨_, h1.1, fun y o hy => h1.2 y o ?_⟩
    by_cases hyk : y = k
    · subst hyk; rw [upd_same]; rw [upds_other hkg, hx] at hy; exact hy
    · rw [upd_other _ _ hyk]
      show upds (upd φ k o') gs y = _
      rw [upds_upd hkg, upd_other _ _ hyk]; exact hy

theorem dOp_mono {i : Nat} {K K' : Kont} {a : Act} {φ : Facts} {tw tr : Tag} (hK : ∀ a φ tw tr, K a φ tw tr → K' a φ tw tr) (h : dOp G ops anc μ i K a φ tw tr) : dOp G ops anc μ i K' a φ tw tr := by
  unfold dOp at *
  split
  · rename_i ho; simp only [ho] at h; exact hK _ _ _ _ h
  · rename_i o ho
    simp only [ho] at h
    refine ⟨h.1, ?_⟩
    rcases h.2 with ⟨e, h1, h2, h3⟩ | ⟨M, h1, h2⟩
    · exact .inl ⟨e, h1, h2, hK _ _ _ _ h3⟩
    · exact .inr ⟨M, h1, fun v gs hM hf hw => hK _ _ _ _ (h2 v gs hM hf hw)⟩

/-- What holds of the facts goes on to hold. -/
theorem dOp_wit {i : Nat} {K : Kont} {a : Act} {φ : Facts} {tw tr : Tag} (hinv : G.inv φ) (hwit : ∃ w, G.holds φ w) (h : dOp G ops anc μ i K a φ tw tr) :
    dOp G ops anc μ i (fun a φ tw tr => (G.inv φ ∧ ∃ w, G.holds φ w) ∧ K a φ tw tr) a φ tw tr := by
  unfold dOp at *
  split
  · rename_i ho; simp only [ho] at h; exact ⟨⟨hinv, hwit⟩, h⟩
  · rename_i o ho
    simp only [ho] at h
    obtain ⟨w, hw⟩ := hwit
    refine ⟨h.1, ?_⟩
    rcases h.2 with ⟨e, h1, h2, h3⟩ | ⟨M, h1, h2⟩
    · exact .inl ⟨e, h1, h2, ⟨h1.inv hinv, h1.wit hinv hw⟩, h3⟩
    · exact .inr ⟨M, h1, fun v gs hM hf hw => ⟨⟨inv_upds hinv (fun b hb => (hf.1 b hb).1), hw⟩, h2 v gs hM hf hw⟩⟩

/-- Somewhere it goes on. -/
theorem dOp_some {i : Nat} {K : Kont} {a : Act} {φ : Facts} {tw tr : Tag} (hwit : ∃ w, G.holds φ w) (h : dOp G ops anc μ i K a φ tw tr) : ∃ a φ tw tr, K a φ tw tr := by
  unfold dOp at h
  split at h
  · exact ⟨_, _, _, _, h⟩
  · obtain ⟨w, hw⟩ := hwit
    rcases h.2 with ⟨e, h1, h2, h3⟩ | ⟨M, h1, h2⟩
    · exact ⟨_, _, _, _, h3⟩
    · obtain ⟨v, gs, hM, hf, hw'⟩ := h1.some hw
      exact ⟨_, _, _, _, h2 v gs hM hf hw'⟩

theorem Eff.phi_comm {e e' : Eff} {φ : Facts} (h : ∀ b ∈ e.wr, b ∉ e'.wr) : e.phi (e'.phi φ) = e'.phi (e.phi φ) := by
  cases e <;> cases e' <;> simp only [Eff.phi]
  rename_i b o b' o'
  exact upd_comm _ _ _ (fun hb => h b (by simp [Eff.wr]) (by simp [Eff.wr, hb]))

theorem Eff.phi_upd {e : Eff} {φ : Facts} {b : Nat} {ob : Obj} (h : b ∉ e.wr) : e.phi (upd φ b ob) = upd (e.phi φ) b ob := by
  cases e <;> simp only [Eff.phi]
  rename_i k o
  exact upd_comm _ _ _ (fun hb => h (by simp [Eff.wr, hb]))

theorem Eff.phi_upds {e : Eff} {φ : Facts} : ∀ {gs : List (Nat × Obj)}, (∀ b ∈ keys gs, b ∉ e.wr) → e.phi (upds φ gs) = upds (e.phi φ) gs
  | [], _ => rfl
  | p :: r, h => by
    simp only [upds]
    rw [Eff.phi_upd (h p.1 List.mem_cons_self), Eff.phi_upds fun b hb => h b (List.mem_cons_of_mem _ hb)]

set_option maxHeartbeats 1000000 in
/-- **TWO OPERATIONS THAT DO NOT WAIT FOR ONE ANOTHER MAY COME IN EITHER ORDER.** -/
theorem swap {i j : Nat} {oi oj : Oper} (hi : ops[i]? = some oi) (hj : ops[j]? = some oj) (hij : ¬ anc i j) (hap : oi.apart ops oj = true)
    (hsi : ∀ cs b, oi.op ≠ .select cs b) (hsj : ∀ cs b, oj.op ≠ .select cs b) {K : Kont} {a : Act} {φ : Facts} {tw tr : Tag} (hinv : G.inv φ) (hwit : ∃ w, G.holds φ w)
    (h : dOp G ops anc μ i (dOp G ops anc μ j K) a φ tw tr) : dOp G ops anc μ j (dOp G ops anc μ i K) a φ tw tr := by
  obtain ⟨p1, p2, p3⟩ := Oper.apart_spec hap
  obtain ⟨w, hw⟩ := hwit
  have tagL : ∀ {t : Tag} {u : List Nat} {x b k : Nat}, t b k → addT t u x b k := fun h => .inl h
  simp only [dOp, hi, hj] at h ⊢
  obtain ⟨ht, h⟩ := h
  rcases h with ⟨e, c1, c2, h3⟩ | ⟨M, c1, h3⟩
  · -- i does what it does
    obtain ⟨ht', h3⟩ := h3
    rw [tch_put p1] at ht' h3
    have nij : ∀ b ∈ tch ops oj a, b ∉ e.wr := fun b hb hw' => hij ((ht' b hb).2 i (.inr ⟨rfl, hw'⟩))
    have agj : ∀ b ∈ tch ops oj a, e.phi φ b = φ b := fun b hb => phi_of_not_wr (nij b hb)
    refine ⟨fun b hb => ⟨by rw [← agj b hb]; exact (ht' b hb).1, fun k hk => (ht' b hb).2 k (tagL hk)⟩, ?_⟩
    rcases h3 with ⟨e', d1, d2, h4⟩ | ⟨M', d1, h4⟩
    · have d1' : Can G ops (μ j) φ oj a e' := ((Can.put hsj p1).1 d1).agree agj
      have nwr : ∀ b ∈ e'.wr, b ∉ tch ops oi a := fun b hb hw' => hij (d2 b hb i (.inr ⟨rfl, hw'⟩))
      refine .inl ⟨e', d1', fun b hb k hk => d2 b hb k (tagL hk), ?_⟩
      rw [tch_put p3]
      have agi : ∀ b ∈ tch ops oi a, φ b = e'.phi φ b := fun b hb => (phi_of_not_wr (fun hw' => nwr b hw' hb)).symm
      refine ⟨fun b hb => ⟨by rw [← agi b hb]; exact (ht b hb).1, fun k hk => ?_⟩, .inl ⟨e, ((Can.put hsi p3).2 (c1.agree agi)), fun b hb k hk => ?_, ?_⟩⟩
      · rcases hk with hk | ⟨rfl, hk⟩
        · exact (ht b hb).2 k hk
        · exact absurd hb (nwr b hk)
      · rcases hk with hk | ⟨rfl, hk⟩
        · exact c2 b hb k hk
        · exact absurd hb (nij b hk)
      · rw [Act.put_comm _ _ _ p2] at h4
        rw [addT_comm, addT_comm tr, Eff.phi_comm (fun b hb hb' => nwr b hb' (c1.wr_tch hb).1)]
        exact h4
    · have d1' : CanMk G ops (μ j) φ oj a M' := ((CanMk.put hsj p1).1 d1).agree agj
      refine .inr ⟨M', d1', fun v gs hM hf hwb => ?_⟩
      rw [tch_put p3]
      have hbi : ∀ b ∈ keys gs, b ∉ tch ops oi a := fun b hb h0 => by
        rcases (ht b h0).1 with h1 | h1
        · exact h1 (hf.1 b hb).2
        · have := (hf.1 b hb).1; omega
      have agi : ∀ x ∈ tch ops oi a, φ x = upds φ gs x := fun x hx => (upds_other (fun h => hbi x h hx)).symm
      have hnb : ∀ b ∈ keys gs, b ∉ e.wr := fun b hb hb' => (c1.wr_tch hb').2 (hf.1 b hb).2
      have c1' : Can G ops (μ i) (upds φ gs) oi a e := c1.agree agi
      refine ⟨fun x hx => ⟨by rw [← agi x hx]; exact (ht x hx).1, fun k hk => ?_⟩, .inl ⟨e, (Can.put hsi p3).2 c1', fun x hx k hk => ?_, ?_⟩⟩
      · rcases hk with hk | ⟨_, hk⟩
        · exact (ht x hx).2 k hk
        · exact absurd hx (hbi x hk)
      · rcases hk with hk | ⟨_, hk⟩
        · exact c2 x hx k hk
        · exact absurd hx (nij x hk)
      · obtain ⟨wb, hwb⟩ := hwb
        have h5 := h4 v gs hM ⟨fun b hb => ⟨(hf.1 b hb).1, c1.phi_none.2 (hf.1 b hb).2⟩, hf.2⟩ (by rw [← Eff.phi_upds hnb]; exact c1'.wit (inv_upds hinv (fun b hb => (hf.1 b hb).1)) hwb)
        rw [Act.put_comm _ _ _ p2] at h5
        rw [addT_comm, addT_comm tr, Eff.phi_upds hnb]
        exact h5
  · -- i lays new blocks: which ones, is open
    obtain ⟨v0, gs0, m0, f0, w0⟩ := c1.some hw
    have h0 := h3 v0 gs0 m0 f0 w0
    rw [tch_put p1] at h0
    obtain ⟨ht', h0⟩ := h0
    have hbj : ∀ gs : List (Nat × Obj), (∀ x ∈ tch ops oj a, ∀ k, addT tw (keys gs) i x k → anc k j) → ∀ b ∈ keys gs, b ∉ tch ops oj a := fun gs hx b hb hb' => hij (hx b hb' i (.inr ⟨rfl, hb⟩))
    have nbj := hbj gs0 (fun x hx => (ht' x hx).2)
    have agj : ∀ x ∈ tch ops oj a, upds φ gs0 x = φ x := fun x hx => upds_other (fun h => nbj x h hx)
    refine ⟨fun x hx => ⟨by rw [← agj x hx]; exact (ht' x hx).1, fun k hk => (ht' x hx).2 k (tagL hk)⟩, ?_⟩
    rcases h0 with ⟨e', d1, d2, _⟩ | ⟨M', d1, _⟩
    · have d1' : Can G ops (μ j) φ oj a e' := ((Can.put hsj p1).1 d1).agree agj
      have nwr : ∀ b ∈ e'.wr, b ∉ tch ops oi a := fun b hb hw' => hij (d2 b hb i (.inr ⟨rfl, hw'⟩))
      refine .inl ⟨e', d1', fun b hb k hk => d2 b hb k (tagL hk), ?_⟩
      rw [tch_put p3]
      have agi : ∀ b ∈ tch ops oi a, φ b = e'.phi φ b := fun b hb => (phi_of_not_wr (fun hw' => nwr b hw' hb)).symm
      refine ⟨fun b hb => ⟨by rw [← agi b hb]; exact (ht b hb).1, fun k hk => ?_⟩, .inr ⟨M, (CanMk.put hsi p3).2 (c1.agree agi), fun v gs hM hf hwb => ?_⟩⟩
      · rcases hk with hk | ⟨rfl, hk⟩
        · exact (ht b hb).2 k hk
        · exact absurd hb (nwr b hk)
      · have hf' : Fresh G φ gs := ⟨fun b hb => ⟨(hf.1 b hb).1, d1'.phi_none.1 (hf.1 b hb).2⟩, hf.2⟩
        obtain ⟨wb, hwb⟩ := hwb
        have h5 := h3 v gs hM hf' (d1'.back hinv hf'.1 hwb)
        rw [tch_put p1] at h5
        obtain ⟨ht5, h5⟩ := h5
        have nbj5 := hbj gs (fun x hx => (ht5 x hx).2)
        have agj5 : ∀ x ∈ tch ops oj a, upds φ gs x = φ x := fun x hx => upds_other (fun h => nbj5 x h hx)
        rcases h5 with ⟨e5, f1, _, h6⟩ | ⟨M5, f1, _⟩
        · have f1' : Can G ops (μ j) φ oj a e5 := ((Can.put hsj p1).1 f1).agree agj5
          obtain rfl : e5 = e' := Can.unique hw f1' d1'
          have hnb : ∀ b ∈ keys gs, b ∉ e5.wr := fun b hb hb' => nbj5 b hb (d1'.wr_tch hb').1
          rw [Act.put_comm _ _ _ p2, Eff.phi_upds hnb] at h6
          rw [addT_comm, addT_comm tr]
          exact h6
        · exact (Can.not_new hw d1' (((CanMk.put hsj p1).1 f1).agree agj5)).elim
    · have d1' : CanMk G ops (μ j) φ oj a M' := ((CanMk.put hsj p1).1 d1).agree agj
      refine .inr ⟨M', d1', fun v gs hM hf hwb => ?_⟩
      rw [tch_put p3]
      have hbi : ∀ b ∈ keys gs, b ∉ tch ops oi a := fun b hb h0 => by
        rcases (ht b h0).1 with h1 | h1
        · exact h1 (hf.1 b hb).2
        · have := (hf.1 b hb).1; omega
      have agi : ∀ x ∈ tch ops oi a, φ x = upds φ gs x := fun x hx => (upds_other (fun h => hbi x h hx)).symm
      refine ⟨fun x hx => ⟨by rw [← agi x hx]; exact (ht x hx).1, fun k hk => ?_⟩, .inr ⟨M, (CanMk.put hsi p3).2 (c1.agree agi), fun u hs hMu hfu hwc => ?_⟩⟩
      · rcases hk with hk | ⟨_, hk⟩
        · exact (ht x hx).2 k hk
        · exact absurd hx (hbi x hk)
      · have hcb : ∀ c ∈ keys hs, c ∉ keys gs := fun c hc h => upds_key h (hfu.1 c hc).2
        have hbc : ∀ b ∈ keys gs, b ∉ keys hs := fun b hb h => hcb b h hb
        have hfu' : Fresh G φ hs := ⟨fun c hc => ⟨(hfu.1 c hc).1, by rw [← upds_other (φ := φ) (hcb c hc)]; exact (hfu.1 c hc).2⟩, hfu.2⟩
        obtain ⟨wc, hwc⟩ := hwc
        have hwc' : G.holds (upds (upds φ hs) gs) wc := by rw [upds_comm hbc]; exact hwc
        have hfb : ∀ b ∈ keys gs, upds φ hs b = none := fun b hb => by rw [upds_other (hbc b hb)]; exact (hf.1 b hb).2
        have h5 := h3 u hs hMu hfu' ⟨wc, holds_drops hfb hwc'⟩
        rw [tch_put p1] at h5
        obtain ⟨ht5, h5⟩ := h5
        have nbj5 := hbj hs (fun x hx => (ht5 x hx).2)
        have agj5 : ∀ x ∈ tch ops oj a, upds φ hs x = φ x := fun x hx => upds_other (fun h => nbj5 x h hx)
        rcases h5 with ⟨e5, f1, _, h6⟩ | ⟨M5, f1, h6⟩
        · exact (Can.not_new hw (((Can.put hsj p1).1 f1).agree agj5) d1').elim
        · obtain rfl := CanMk.unique hw (((CanMk.put hsj p1).1 f1).agree agj5) d1'
          have h7 := h6 v gs hM ⟨fun b hb => ⟨(hf.1 b hb).1, hfb b hb⟩, hf.2⟩ ⟨wc, hwc'⟩
          rw [Act.put_comm _ _ _ p2, upds_comm hbc] at h7
          rw [addT_comm, addT_comm tr]
          exact h7

/-! ### Whatever order -/
/-- Who has come before i in any case. -/
inductive Anc (ops : Array Oper) : Nat → Nat → Prop
  | one {i k : Nat} (h : Region.waitsFor .any ops i k = true) : Anc ops k i
  | more {i j k : Nat} (h : Region.waitsFor .any ops i j = true) (h' : Anc ops k j) : Anc ops k i

theorem Anc.listed {n i k : Nat} {listed : Array Bool} (inv : HeadInv .any ops n listed) (h : Anc ops k i) (hl : listed.getD i false = true) : listed.getD k false = true := by
  induction h with
  | one h => obtain ⟨o, ho, e, he, hb, rfl⟩ := Region.waitsFor_spec h; exact inv.closed _ o ho hl e he hb
  | more h h' ih => obtain ⟨o, ho, e, he, hb, rfl⟩ := Region.waitsFor_spec h; exact ih (inv.closed _ o ho hl e he hb)

theorem Anc.not_ready {n i k : Nat} {listed : Array Bool} (inv : HeadInv .any ops n listed) (hi : i ∈ Region.ready .any ops listed) (hk : k ∈ Region.ready .any ops listed) : ¬ Anc ops k i := by
  intro h
  have hun := getD_both (mem_ready.1 hk).1
  obtain ⟨_, oi, hoi, hall⟩ := mem_ready.1 hi
  have direct : ∀ j, Region.waitsFor .any ops i j = true → listed.getD j false = true := fun j hj => by
    obtain ⟨o, ho, e, he, hb, rfl⟩ := Region.waitsFor_spec hj
    rw [hoi] at ho; cases ho
    exact hall e he hb
  cases h with
  | one h => rw [direct _ h] at hun; cases hun
  | more h h' => rw [h'.listed inv (direct _ h)] at hun; cases hun

def AnyL (G : Cx) (ops : Array Oper) (μ : Mu) (n : Nat) (L : Array Bool → Kont) : Nat → Array Bool → Kont
  | 0, listed => L listed
  | f + 1, listed => fun a φ tw tr => Region.ready .any ops listed ≠ [] ∧ ∀ i ∈ Region.ready .any ops listed, i < n ∧ dOp G ops (Anc ops) μ i (AnyL G ops μ n L f (listed.setIfInBounds i true)) a φ tw tr

theorem AnyL_first {n i : Nat} {oi : Oper} {L : Array Bool → Kont} (hi : ops[i]? = some oi) (hsel : ∀ (j : Nat) (o : Oper) cs b, ops[j]? = some o → o.op ≠ .select cs b)
    (hwait : ∀ listed, HeadInv .any ops n listed → ∀ i, i < n → listed.getD i true = false → ∀ t ∈ Region.ready .any ops listed, t < n) (hin : i < n)
    (hdone : ∀ listed a φ tw tr, L listed a φ tw tr → ∀ j ∈ Region.ready .any ops listed, n ≤ j) :
    ∀ (f : Nat) (listed : Array Bool) (a : Act) (φ : Facts) (tw tr : Tag), HeadInv .any ops n listed → G.inv φ → (∃ w, G.holds φ w) →
      (∀ j oj, ops[j]? = some oj → j ≠ i → listed.getD j true = false → (∀ e ∈ oj.after, Region.binds .any e = true → e.on ≠ i) → oi.apart ops oj = true) →
      i ∈ Region.ready .any ops listed → dOp G ops (Anc ops) μ i (AnyL G ops μ n L f (listed.setIfInBounds i true)) a φ tw tr → AnyL G ops μ n L (f + 1) listed a φ tw tr := by
  intro f
  induction f with
  | zero =>
    intro listed a φ tw tr inv hinv hwit _ hr H
    have hun := (mem_ready.1 hr).1
    refine ⟨fun h => (by rw [h] at hr; cases hr), fun j hj => ?_⟩
    have hjn := hwait listed inv i hin hun j hj
    refine ⟨hjn, ?_⟩
    by_cases hji : j = i
    · subst hji; exact H
    · obtain ⟨a', φ', tw', tr', hL⟩ := dOp_some hwit H
      have := hdone _ _ _ _ _ hL j (ready_mono hj hji)
      omega
  | succ f ih =>
    intro listed a φ tw tr inv hinv hwit hfree hr H
    have hun := (mem_ready.1 hr).1
    refine ⟨fun h => (by rw [h] at hr; cases hr), fun j hj => ?_⟩
    have hjn := hwait listed inv i hin hun j hj
    refine ⟨hjn, ?_⟩
    by_cases hji : j = i
    · subst hji; exact H
    · obtain ⟨hjun, oj, hoj, hall⟩ := mem_ready.1 hj
      have hnot : ∀ e ∈ oj.after, Region.binds .any e = true → e.on ≠ i := fun e he hb heq => by
        have h1 := hall e he hb
        rw [heq, getD_both hun] at h1
        cases h1
      have hap := hfree j oj hoj hji hjun hnot
      have h1 : dOp G ops (Anc ops) μ i (dOp G ops (Anc ops) μ j (AnyL G ops μ n L f ((listed.setIfInBounds i true).setIfInBounds j true))) a φ tw tr :=
        dOp_mono (fun a φ tw tr h => (h.2 j (ready_mono hj hji)).2) H
      have h2 := dOp_wit hinv hwit (swap hi hoj (Anc.not_ready inv hj hr) hap (fun cs b => hsel i oi cs b hi) (fun cs b => hsel j oj cs b hoj) hinv hwit h1)
      have hfree' : ∀ k ok, ops[k]? = some ok → k ≠ i → (listed.setIfInBounds j true).getD k true = false →
          (∀ e ∈ ok.after, Region.binds .any e = true → e.on ≠ i) → oi.apart ops ok = true := fun k ok hk hki hun hno => by
        refine hfree k ok hk hki ?_ hno
        by_cases hjk : j = k
        · subst hjk; exact hjun
        · rw [getD_set_ne true hjk] at hun; exact hun
      refine dOp_mono (fun a' φ' tw' tr' h3 => ih (listed.setIfInBounds j true) a' φ' tw' tr' (inv.set hj hjn) h3.1.1 h3.1.2 hfree' (ready_mono hr (Ne.symm hji)) ?_) h2
      rw [Array.setIfInBounds_comm _ _ hji]
      exact h3.2

/-- One walk of the text's order. -/
def walk (G : Cx) (ops : Array Oper) (anc : Nat → Nat → Prop) (μ : Mu) (K : Kont) : List Oper → Nat → Kont
  | [], _ => K
  | _ :: l, k => dOp G ops anc μ k (walk G ops anc μ K l (k + 1))

theorem AnyL_lex {n g : Nat} {K : Kont} (hsel : Region.noSelect ops = true)
    (hwait : ∀ listed, HeadInv .any ops n listed → ∀ i, i < n → listed.getD i true = false → ∀ t ∈ Region.ready .any ops listed, t < n) :
    ∀ (l : List Oper) (k : Nat) (listed : Array Bool) (a : Act) (φ : Facts) (tw tr : Tag), (∀ j, j < l.length → l[j]? = ops[k + j]?) → k + l.length = n → HeadInv .any ops n listed → G.inv φ → (∃ w, G.holds φ w) →
    Region.lexHead .any ops g l.length k listed = true → walk G ops (Anc ops) μ K l k a φ tw tr →
    AnyL G ops μ n (fun listed' a' φ' tw' tr' => Region.seqB .any ops g n listed' = true ∧ K a' φ' tw' tr') l.length listed a φ tw tr
  | [], k, listed, a, φ, tw, tr, _, hk, _, _, _, hB, h => by
    have : k = n := by simpa using hk
    subst this
    exact ⟨by simpa [Region.lexHead] using hB, h⟩
  | o :: l, k, listed, a, φ, tw, tr, hl, hk, inv, hinv, hwit, hB, h => by
    have h0 : ops[k]? = some o := by simpa using (hl 0 (by simp)).symm
    simp only [List.length_cons, Region.lexHead, Bool.and_eq_true] at hB
    obtain ⟨⟨hr, hf⟩, hB'⟩ := hB
    have hkn : k < n := by simp only [List.length_cons] at hk; omega
    have hr' : k ∈ Region.ready .any ops listed := by simpa using hr
    refine AnyL_first h0 (Region.noSelect_spec hsel) hwait hkn (fun listed' a' φ' tw' tr' hL => seqB_ready hL.1) l.length listed a φ tw tr inv hinv hwit (Region.free_spec h0 hf) hr' ?_
    refine dOp_mono (fun a' φ' tw' tr' h3 => ?_) (dOp_wit hinv hwit h)
    exact AnyL_lex hsel hwait l (k + 1) _ _ _ _ _ (fun j hj => by have := hl (j + 1) (by simp; omega); simpa [Nat.add_assoc, Nat.add_comm 1 j] using this) (by simp only [List.length_cons] at hk; omega) (inv.set hr' hkn) h3.1.1 h3.1.2 hB' h3.2

/-! ### Down to the machine -/
/-- The fence that lets all in, at a function's own frame (none), or at a round's. -/
def FR (r : Option Nat) : Fence := { Fence.wide with round := r }

theorem calls_FR {r : Option Nat} {n : Nat} {P : Program} {f : FuncId} {args : Array Value} {w : World} {R : Ending → World → Prop} (h : Calls P f args w R) : CallsIn (FR r) n P f args w R :=
  (callsIn_wide (n := n)).2 h

theorem FR_fn {r : Option Nat} (f : FuncId) : (FR r).fn f := trivial

def noDefer (ops : Array Oper) : Bool := ops.all fun o => match o.op with | .defer _ => false | _ => true
theorem noDefer_spec (h : noDefer ops = true) (j : Nat) (o : Oper) (ho : ops[j]? = some o) (c : Call) : o.op ≠ .defer c := by
  intro heq
  have := Array.all_eq_true_iff_forall_mem.1 h o (Array.mem_of_getElem? ho)
  simp [heq] at this

variable {r : Option Nat} {m : Nat} {Q : Exit → Act → World → Prop}

theorem wpOpIn_of_dOp {i : Nat} {K : Kont} {K' : Act → World → Prop} {a : Act} {φ : Facts} {tw tr : Tag} {w : World} (hnd : ∀ o, ops[i]? = some o → ∀ c, o.op ≠ .defer c) (hinv : G.inv φ) (hw : G.holds φ w)
    (hK : ∀ a φ tw tr w, K a φ tw tr → G.inv φ → G.holds φ w → K' a w) (h : dOp G ops anc μ i K a φ tw tr) : wpOpIn (FR r) m G.P ops Q i K' a w := by
  unfold dOp at h
  unfold wpOpIn
  split
  · rename_i ho; simp only [ho] at h; exact hK _ _ _ _ _ h hinv hw
  · rename_i o ho
    simp only [ho] at h
    have hsem : o.semAt (FR r).round a.eval = execOp a.eval o := Oper.semAt_eq _ _ _ (hnd o ho)
    rcases h.2 with ⟨e, h1, h2, h3⟩ | ⟨M, h1, h2⟩
    · have h4 := fun w hw => hK _ _ _ _ w h3 (h1.inv hinv) hw
      rcases h1 with ⟨hwan, _, hc⟩ | ⟨hwan, rfl⟩
      · rw [if_pos hwan]
        refine ⟨fun _ _ => trivial, ?_⟩
        rw [hsem]
        have hon := hw.on (touch o a.eval)
        cases e with
        | val v => rw [hc w hon]; exact h4 w hw
        | call f args v =>
          obtain ⟨h5, h6⟩ := hc w hon
          rw [h5]
          refine ⟨fun h => (by cases h), CallsIn.mono (calls_FR h6) fun e w' he => ?_⟩
          obtain ⟨rfl, hb⟩ := he
          refine h4 w' ⟨hw.1.trans (hb.mono hw.1.size (by simp)), fun b o hbo => ?_⟩
          have h7 := hw.2 b o hbo
          rw [hb.block b (Array.getElem?_eq_some_iff.1 h7).1 (by simp)]; exact h7
        | set b o' => rw [hc.2.2 w hon]; exact h4 _ (holds_put hinv hw hc.2.1 _)
      · rw [if_neg (by rw [hwan]; simp)]
        exact ⟨fun _ _ => trivial, h4 w hw⟩
    · rw [if_pos h1.1]
      refine ⟨fun _ _ => trivial, ?_⟩
      rw [hsem]
      rcases h1.2 with ⟨_, s, ob, h5, rfl⟩ | ⟨_, h5⟩
      · rw [h5 w (hw.on _)]
        obtain ⟨q1, q2, q3⟩ := holds_new hw ob
        exact hK _ _ _ _ _ (h2 _ [(_, ob)] ⟨_, rfl, rfl⟩ ⟨by simpa [keys] using ⟨q1, q2⟩, by simp⟩ ⟨_, q3⟩) (inv_upd hinv (.inl q1) _) q3
      · obtain ⟨f, args, h6, h7⟩ := h5 w (hw.on _)
        rw [h6]
        refine ⟨fun h => (by cases h), CallsIn.mono (calls_FR h7) fun e w' he => ?_⟩
        obtain ⟨v, gs, rfl, hM, hf, hw'⟩ := holds_many hw he
        exact hK _ _ _ _ _ (h2 v gs hM hf ⟨_, hw'⟩) (inv_upds hinv (fun b hb => (hf.1 b hb).1)) hw'

theorem wpAnyIn_of_AnyL {n g : Nat} {L : Array Bool → Kont} (hnd : noDefer ops = true) (hL : ∀ listed a φ tw tr w, L listed a φ tw tr → G.inv φ → G.holds φ w → wpAnyIn (FR r) m G.P .any ops Q g listed a w) :
    ∀ (f : Nat) (listed : Array Bool) (a : Act) (φ : Facts) (tw tr : Tag) (w : World), G.inv φ → G.holds φ w → AnyL G ops μ n L f listed a φ tw tr → wpAnyIn (FR r) m G.P .any ops Q (f + g) listed a w
  | 0, listed, a, φ, tw, tr, w, hinv, hw, h => by rw [Nat.zero_add]; exact hL _ _ _ _ _ _ h hinv hw
  | f + 1, listed, a, φ, tw, tr, w, hinv, hw, h => by
    rw [show f + 1 + g = (f + g) + 1 by omega]
    exact ⟨fun h0 => absurd h0 h.1, fun i hi => wpOpIn_of_dOp (fun o ho => noDefer_spec hnd i o ho) hinv hw (fun a φ tw tr w h hi hw => wpAnyIn_of_AnyL hnd hL f _ a φ tw tr w hi hw h) (h.2 i hi).2⟩

theorem wpAnyIn_of_seq : ∀ (l : List Oper) (k : Nat) (listed : Array Bool) (a : Act) (w : World), (∀ j, l[j]? = ops[k + j]?) →
    Region.seqB .any ops l.length k listed = true → wpListIn (FR r) m G.P ops Q l a w → wpAnyIn (FR r) m G.P .any ops Q l.length listed a w
  | [], _, _, _, _, _, hB, h => ⟨by simpa [Region.seqB] using hB, h⟩
  | o :: l, k, listed, a, w, hl, hB, h => by
    have h0 : ops[k]? = some o := by simpa using (hl 0).symm
    simp only [List.length_cons, Region.seqB, Bool.and_eq_true, decide_eq_true_eq] at hB
    refine ⟨fun h1 => (by rw [hB.1] at h1; cases h1), fun i hi => ?_⟩
    rw [hB.1] at hi
    have hik : i = k := by simpa using hi
    subst hik
    have hw : wpOpIn (FR r) m G.P ops Q i (wpListIn (FR r) m G.P ops Q l) a w := by unfold wpOpIn; simp only [h0]; exact h
    exact wpOpIn_mono (fun a' w' h' => wpAnyIn_of_seq l (i + 1) _ a' w' (fun j => by have := hl (j + 1); simpa [Nat.add_assoc, Nat.add_comm 1 j] using this) hB.2 h') hw

/-- What is asked of a region's edges, by reckoning: the first n operations in whatever order, what stands behind them in the text's. -/
def headB (ops : Array Oper) (n : Nat) : Bool :=
  Region.noSelect ops && noDefer ops && decide (n ≤ ops.size) && (n == ops.size || (Region.sinkB .any ops n && Region.chainB .any ops n)) &&
    Region.lexHead .any ops (ops.size - n) n 0 (Array.replicate ops.size false)

/-- **A REGION THAT DRAWS ITS ORDER, WALKED ONCE.** -/
theorem region_any {id : Nat} {a : Act} {w : World} {l : List Oper} (n : Nat) (hm : G.P.follows .mixedOrders = true) (hB : headB l.toArray n = true) {φ : Facts} (hinv : G.inv φ) (hw : G.holds φ w)
    (h : walk G l.toArray (Anc l.toArray) μ (fun a' φ' _ _ => G.inv φ' → ∀ w', G.holds φ' w' → wpListIn (FR r) m G.P l.toArray Q (l.drop n) a' w') (l.take n) 0 a φ (fun _ _ => False) (fun _ _ => False)) :
    (Code.region id l.toArray true).wpIn (FR r) m G.P Q a w := by
  simp only [headB, Bool.and_eq_true, Bool.or_eq_true, decide_eq_true_eq, beq_iff_eq] at hB
  obtain ⟨⟨⟨⟨hsel, hnd⟩, hn⟩, hs⟩, hlex⟩ := hB
  have hn' : n ≤ l.length := by simpa using hn
  have htl : (l.take n).length = n := by simp; omega
  have hdl : (l.drop n).length = l.toArray.size - n := by simp
  have inv0 : HeadInv .any l.toArray n (Array.replicate l.toArray.size false) :=
    ⟨by simp, fun j oj _ hl => (by rw [getD_replicate_false] at hl; cases hl), fun t _ ht => getD_in (by simpa using ht) (getD_replicate_false _ _)⟩
  have hwait : ∀ listed, HeadInv .any l.toArray n listed → ∀ i, i < n → listed.getD i true = false → ∀ t ∈ Region.ready .any l.toArray listed, t < n := by
    intro listed inv i hi hun t ht
    have hts : t < l.toArray.size := by obtain ⟨_, o, ho, _⟩ := mem_ready.1 ht; exact (Array.getElem?_eq_some_iff.1 ho).1
    rcases hs with hs | ⟨hs, hc⟩
    · omega
    · rcases Nat.lt_or_ge n l.toArray.size with hlt | hge
      · rcases Nat.lt_or_ge t n with h | h
        · exact h
        · exact absurd ht (tail_waits hs hc hlt inv _ i rfl hi hun t h)
      · omega
  have hw1 : G.holds φ { w with drawn := w.drawn + 1 } := ⟨hw.1.drew, hw.2⟩
  have H := AnyL_lex (G := G) (g := l.toArray.size - n) hsel hwait (l.take n) 0 _ a φ _ _ (fun j hj => by
    have hj' : j < n := by rw [htl] at hj; exact hj
    simp [hj']) (by simpa using htl) inv0 hinv ⟨_, hw1⟩ (by rw [htl]; exact hlex) h
  refine wpIn_region_any hm ?_
  have := wpAnyIn_of_AnyL (r := r) (m := m) (Q := Q) (g := l.toArray.size - n) hnd (fun listed a' φ' tw' tr' w' hL hi' hw' => by
    have := wpAnyIn_of_seq (G := G) (r := r) (m := m) (Q := Q) (l.drop n) n listed a' w' (fun j => by simp [List.getElem?_drop]) (by rw [hdl]; exact hL.1) (hL.2 hi' w' hw')
    rwa [hdl] at this) _ _ _ _ _ _ _ hinv hw1 H
  rw [htl, show n + (l.toArray.size - n) = l.toArray.size by omega] at this
  exact this

end Go.Proofs.Ytahoghldnijnbaa.SL
