/-
  Texts that were built apart, put behind one another (1 of 6).
  Conditions: none.
-/
import Derived.Below
import Derived.StillTail
import Derived.OrdersIn
import Derived.TacticsIn
import Derived.RangeFuncLeaves
import Derived.RangeFuncRecord
import Derived.KernelRfl
import Derived.LoopNIn
import Derived.WalkKit
import Derived.Laws.StructEq
import Derived.ChangeKeysEq
import Derived.Laws.AppendOwn
import Derived.Lib.Builder
import Derived.Lib.UnsafeStr
import Derived.Laws.Strings
import Derived.OpenShut
import Derived.ShutString
import Derived.ChangeOld
import Derived.Deep.Slices
import Derived.Laws.MakeOwn
import Derived.Laws.Slices
import Derived.Laws.Small
import Derived.Deep.Upon
import Derived.Laws.Cover3
import Derived.Laws.BytesArg
import Derived.Laws.RangeAny
import Derived.Laws.Concat
import Derived.Laws.Strings2
import Derived.MapKept
namespace Go.Proofs.YtdeggbkbblfpoaaGreatDoor.SL
open Go Go.RowKit
set_option linter.unusedVariables false
set_option linter.unusedSimpArgs false
variable {v z : Value} {b off sz i id j size d n : Nat} {T E t : TypeId} {w w0 : World} {x fo y : Operand} {tys : Array TypeId} {P : Program} {o o' : Obj} {vs xs : List Value} {f : FuncId} {ops : Array Oper} {ds : List Deferred} {ik : IntKind} {args : Array Operand} {fr : Nat × Nat} {af : Array Edge} {rest : List Oper} {a : Act} {S : List Nat}
section
theorem dTAtLJ {P:Prop} (h:P:=by
 exact hK _ _ _ _ _ (h2 v gs hM (by unfold mvE;rw [if_pos h1.1];exact hf) ⟨_,hw'⟩) (inv_upds hinv (fun b hb=>(hf.1 b hb).1)) hw'):P:=h
structure Bel (B:Nat) (S:List Nat) (w w':World):Prop where
 os:w'.os=w.os
 tape:w'.tape=w.tape
 output:w'.output=w.output
 size:w.heap.size≤w'.heap.size
 block:∀ k,k < B→k ∉ S→w'.heap[k]?=w.heap[k]?
theorem Bel.refl (B:Nat) (S:List Nat) (w:World):Bel B S w w:=⟨rfl,rfl,rfl,Nat.le_refl _,fun _ _ _=>rfl⟩
theorem Bel.trans {B:Nat} {a b c:World} (h:Bel B S a b) (k:Bel B S b c):Bel B S a c :=
 ⟨k.os.trans h.os,k.tape.trans h.tape,k.output.trans h.output,Nat.le_trans h.size k.size,fun i hi hs=>(k.block i hi hs).trans (h.block i hi hs)⟩
theorem Bel.mono {B B':Nat} {S':List Nat} {w':World} (h:Bel B S w w') (hB:B'≤B) (hS:∀ x∈S,x < B'→x∈S'):Bel B' S' w w' :=
 ⟨h.os,h.tape,h.output,h.size,fun k hk hs=>h.block k (by omega) (fun h'=>hs (hS k h' hk))⟩
theorem Bel.below {B:Nat} {w':World} (h:Bel B [] w w'):Below B w w':=⟨h.os,h.tape,h.output,h.size,fun k hk=>h.block k hk (by simp)⟩
theorem Bel.drew {B:Nat} {a:World} (h:Bel B S a w):Bel B S a { w with drawn:=w.drawn+1 }:=⟨h.os,h.tape,h.output,h.size,h.block⟩
theorem Bel.alloc {B:Nat} {a:World} (h:Bel B S a w) (hB:B≤w.heap.size) (o:Obj):Bel B S a (w.alloc o) :=
 h.trans ⟨rfl,rfl,rfl,by simp,fun k hk _=>Below.heap_alloc _ _ _ (by omega)⟩
theorem Bel.put {B:Nat} {a:World} (h:Bel B S a w) {b:Nat} (hb:B≤b∨b∈S) (o:Obj):Bel B S a (w.putObj b o) :=
 h.trans ⟨rfl,rfl,rfl,by simp [World.putObj],fun k hk hs=>World.putObj_heap_other (fun e=>by
  subst e
  rcases hb with hb|hb
  ·omega
  ·exact hs hb)⟩
def Ret (w:World) (v:Value) (e:Ending) (w':World):Prop:=e=.returned v∧Bel w.heap.size [] w w'
def RetG (w:World) (S:List Nat) (Φ:Value→List (Nat × Obj)→Prop) (e:Ending) (w':World):Prop :=
 ∃ v gs,e=.returned v∧Φ v gs∧Bel w.heap.size S w w'∧(∀ p∈gs,(w.heap.size≤p.1∨p.1∈S)∧w'.heap[p.1]?=some p.2)∧gs.Pairwise fun p q=>p.1 ≠ q.1
def stuckFrame : Frame := { (default : Frame) with fn := 0, tmps := #[], todo := [.code (.refuse "")], defers := [], mode := .run, kind := .normal }
theorem step_stuck {cs:List Frame}:∃ o w',step P (lone (stuckFrame.finish v) cs w)=.ended o w' :=
 by refine ⟨?o,w,step_lone_ended (?h)⟩;case h=>(simp only [stuckFrame,Frame.finish,stepG,stepG.exec];rfl)
theorem calls_unique {P:Program} {f:FuncId} {args:Array Value} {w:World} {v v':Value} 
  (h:Calls P f args w (Ret w v)) (h':Calls P f args w (Ret w v')):v=v':=by
 obtain ⟨e1,w1,fr1,⟨he1,_⟩,hc1,hf1,hl1⟩:=h [stuckFrame]
 obtain ⟨e2,w2,fr2,⟨he2,_⟩,hc2,hf2,hl2⟩:=h' [stuckFrame]
 subst he1;subst he2
 obtain ⟨n1,hn1⟩:=hc1
 obtain ⟨n2,hn2⟩:=hc2
 have key:∀ (n1 n2:Nat) (v v':Value) (w1 w2:World) (fr1 fr2:Frame),fr1.leaving P w1 (.returned v)→fr2.leaving P w2 (.returned v') →
   runN P n1 (lone (Frame.enter P f args .normal) [stuckFrame] w)=.next (lone fr1 [stuckFrame] w1) →
   runN P n2 (lone (Frame.enter P f args .normal) [stuckFrame] w)=.next (lone fr2 [stuckFrame] w2)→n1≤n2→v=v':=by
  intro n1 n2 v v' w1 w2 fr1 fr2 hl1 hl2 hn1 hn2 hle
  obtain ⟨d,rfl⟩:∃ d,n2=n1+d:=⟨n2 - n1,by omega⟩
  rw [runN_add,hn1] at hn2
  cases d with
  |zero =>
   simp only [runN,Stepped.next.injEq,lone,Machine.mk.injEq] at hn2
   obtain ⟨hw,hg,_⟩:=hn2
   simp only [Array.mk.injEq,List.cons.injEq,Goroutine.mk.injEq] at hg
   obtain ⟨⟨hfr,_⟩,_⟩:=hg
   subst hw;subst hfr
   obtain ⟨_,_,_,fn1,hfn1,hr1⟩:=hl1
   obtain ⟨_,_,_,fn2,hfn2,hr2⟩:=hl2
   rw [hfn1] at hfn2
   cases hfn2
   rw [hr1] at hr2
   cases hr2
   rfl
  |succ d =>
   have hs:=step_leave_returned (c:=stuckFrame) (cs:=[]) hl1
   obtain ⟨o,w',ho⟩:=step_stuck (P:=P) (v:=v) (cs:=[]) (w:=w1)
   simp only [runN,hs] at hn2
   cases d with
   |zero =>
    simp only [runN,Stepped.next.injEq,lone,Machine.mk.injEq] at hn2
    obtain ⟨_,hg,_⟩:=hn2
    simp at hg
   |succ d =>
    simp only [runN,ho] at hn2
    cases hn2
 rcases Nat.le_total n1 n2 with hle|hle
 ·exact key n1 n2 v v' w1 w2 fr1 fr2 hl1 hl2 hn1 hn2 hle
 ·exact (key n2 n1 v' v w2 w1 fr2 fr1 hl2 hl1 hn2 hn1 hle).symm
inductive Sh where
 |ptr
 |sl (l c:Nat)
 |mp
def Sh.val:Sh→Nat→Value
 |.ptr,b=>.pointer (some ⟨b,0,none⟩)
 |.sl l c,b=>.slice (some ⟨b,0,none⟩) l c
 |.mp,b=>.map (some b)
theorem Sh.inj {s s':Sh} (h:s.val b=s'.val b):s=s':=by
 cases s<;>cases s'<;>simp_all [Sh.val]
def blocksN:Nat→Value→List Nat
 |0,_=>[]
 |_+1,.pointer (some a)=>[a.block]
 |_+1,.slice (some a) _ c=>if c=0 then [] else [a.block]
 |_+1,.map (some r)=>[r]
 |n+1,.func _ first captured=>(first.toList++captured.toList).flatMap (blocksN n)
 |n+1,.iface _ v=>blocksN n v
 |n+1,.agg cs=>cs.toList.flatMap (blocksN n)
 |n+1,.tuple cs=>cs.toList.flatMap (blocksN n)
 |_+1,_=>[]
def touchC (c:Call) (ρ:Operand→Value):List Nat :=
 match c.callee with
 |.builtin .len=>[]
 |.builtin .min=>[]
 |.builtin .max=>[]
 |_=>c.operands.toList.flatMap fun x=>blocksN 4 (ρ x)
def touch (o:Oper) (ρ:Operand→Value):List Nat :=
 match o.op with
 |.load _ x=>blocksN 4 (ρ x)
 |.store _ x _=>blocksN 4 (ρ x)
 |.call c=>touchC c ρ
 |_=>[]
def stBlk (o:Oper) (ρ:Operand→Value):Option Nat :=
 match o.op with
 |.store _ x _=>(match ρ x with|.pointer (some a)=>some a.block|_=>none)
 |_=>none
abbrev Facts:=Nat→Option Obj
abbrev Tag:=Nat→Nat→Prop
def upd (φ:Facts) (b:Nat) (o:Obj):Facts:=fun k=>if k=b then some o else φ k
def addT (t:Tag) (u:List Nat) (i:Nat):Tag:=fun b k=>t b k∨(k=i∧b∈u)
theorem upd_same (φ:Facts) (b:Nat) (o:Obj):upd φ b o b=some o:=by simp [upd]
theorem upd_other (φ:Facts) {b k:Nat} (o:Obj) (h:k ≠ b):upd φ b o k=φ k:=by simp [upd,h]
theorem upd_comm (φ:Facts) {b k:Nat} (o o':Obj) (h:b ≠ k):upd (upd φ b o) k o'=upd (upd φ k o') b o:=by
 funext x
 by_cases h1:x=k<;>by_cases h2:x=b<;>simp_all [upd]
theorem addT_comm (t:Tag) (u u':List Nat) (i j:Nat):addT (addT t u i) u' j=addT (addT t u' j) u i:=by
 funext b k
 simp only [addT,or_assoc,eq_iff_iff]
 exact or_congr_right or_comm
structure Cx where
 P:Program
 w0:World
 S:List Nat
def Cx.holds (G:Cx) (φ:Facts) (w:World):Prop:=Bel G.w0.heap.size G.S G.w0 w∧∀ b o,φ b=some o→w.heap[b]?=some o
def Cx.on (G:Cx) (φ:Facts) (u:List Nat) (w:World):Prop:=Bel G.w0.heap.size G.S G.w0 w∧∀ b∈u,∀ o,φ b=some o→w.heap[b]?=some o
def Cx.inv (G:Cx) (φ:Facts):Prop:=∀ b,φ b ≠ none→G.w0.heap.size≤b∨b∈G.S
theorem Cx.holds.on {G:Cx} {φ:Facts} (h:G.holds φ w) (u:List Nat):G.on φ u w:=⟨h.1,fun b _ o ho=>h.2 b o ho⟩
inductive Eff where
 |val (v:Value)
 |call (f:FuncId) (args:Array Value) (v:Value)
 |set (b:Nat) (o:Obj)
def Eff.out:Eff→Value
 |.val v=>v
 |.call _ _ v=>v
 |.set _ _=>undef
def Eff.phi:Eff→Facts→Facts
 |.set b o,φ=>upd φ b o
 |_,φ=>φ
def Eff.wr:Eff→List Nat
 |.set b _=>[b]
 |_=>[]
def Eff.claim (G:Cx) (φ:Facts) (o:Oper) (ρ:Operand→Value):Eff→Prop
 |.val v=>∀ w,G.on φ (touch o ρ) w→(execOp ρ o).run G.P w=.ok (.value v) w
 |.call f args v=>∀ w,G.on φ (touch o ρ) w→(execOp ρ o).run G.P w=.ok (.enter f args) w∧Calls G.P f args w (Ret w v)
 |.set b o'=>stBlk o ρ=some b∧φ b ≠ none∧∀ w,G.on φ (touch o ρ) w→(execOp ρ o).run G.P w=.ok .skip (w.putObj b o')
abbrev Rel1:=Value→List (Nat × Obj)→Prop
abbrev Rel2:=List Value→Facts→Rel1
structure Fl where
 f:Bool
 xs:List Operand
instance:Coe Bool Fl:=⟨fun b=>⟨b,[]⟩⟩
abbrev Mu:=Nat→Option (Rel2 × Fl)
def cst (M:Rel1):Rel2:=fun _ _=>M
def rst (φ:Facts) (u:List Nat):Facts:=fun b=>if b∈u then φ b else none
theorem rst_in (φ:Facts) {u:List Nat} {b:Nat} (h:b∈u):rst φ u b=φ b:=if_pos h
theorem rst_agree {φ φ':Facts} {u:List Nat} (h:∀ b∈u,φ b=φ' b):rst φ u=rst φ' u:=by
 funext b
 unfold rst
 split
 ·exact h b (by assumption)
 ·rfl
def valsOf (o:Oper) (ρ:Operand→Value):List Value:=o.op.operands.toList.map ρ
def flg:Option (Rel2 × Fl)→Bool
 |some p=>p.2.f
 |none=>false
def exs:Option (Rel2 × Fl)→List Operand
 |some p=>p.2.xs
 |none=>[]
def touchX (xs:List Operand) (o:Oper) (ρ:Operand→Value):List Nat:=xs.flatMap (fun x=>blocksN 4 (ρ x))++touch o ρ
theorem touch_sub {xs:List Operand} {o:Oper} {ρ:Operand→Value} (h:b∈touch o ρ):b∈touchX xs o ρ:=List.mem_append_right _ h
def upds (φ:Facts):List (Nat × Obj)→Facts
 |[]=>φ
 |p::r=>upd (upds φ r) p.1 p.2
def keys (gs:List (Nat × Obj)):List Nat:=gs.map (·.1)
theorem upds_other {φ:Facts}:∀ {gs:List (Nat × Obj)} {b:Nat},b ∉ keys gs→upds φ gs b=φ b
 |[],_,_=>rfl
 |p::r,b,h=>by
  simp only [keys,List.map_cons,List.mem_cons,not_or] at h
  simp only [upds]
  rw [upd_other _ _ h.1]
  exact upds_other h.2
theorem upds_mem {φ:Facts}:∀ {gs:List (Nat × Obj)} {b:Nat} {o:Obj},upds φ gs b=some o→(b,o)∈gs∨(b ∉ keys gs∧φ b=some o)
 |[],_,_,h=>.inr ⟨by simp [keys],h⟩
 |p::r,b,o,h=>by
  simp only [upds] at h
  by_cases hb:b=p.1
  ·subst hb;rw [upd_same] at h;cases h;exact .inl List.mem_cons_self
  ·rw [upd_other _ _ hb] at h
   rcases upds_mem h with h|⟨h1,h2⟩
   ·exact .inl (List.mem_cons_of_mem _ h)
   ·exact .inr ⟨by simp only [keys,List.map_cons,List.mem_cons,not_or];exact ⟨hb,h1⟩,h2⟩
theorem upds_key {φ:Facts}:∀ {gs:List (Nat × Obj)} {b:Nat},b∈keys gs→upds φ gs b ≠ none
 |p::r,b,h=>by
  simp only [upds]
  by_cases hb:b=p.1
  ·subst hb;rw [upd_same];simp
  ·rw [upd_other _ _ hb]
   exact upds_key (by simpa [keys,hb] using h)
theorem upds_upd {φ:Facts} {b:Nat} {o:Obj}:∀ {gs:List (Nat × Obj)},b ∉ keys gs→upds (upd φ b o) gs=upd (upds φ gs) b o
 |[],_=>rfl
 |p::r,h=>by
  simp only [keys,List.map_cons,List.mem_cons,not_or] at h
  simp only [upds]
  rw [upds_upd h.2,upd_comm _ _ _ h.1]
theorem upds_comm {φ:Facts} {gs:List (Nat × Obj)}:∀ {hs:List (Nat × Obj)},(∀ b∈keys hs,b ∉ keys gs)→upds (upds φ gs) hs=upds (upds φ hs) gs
 |[],_=>rfl
 |p::r,h=>by
  simp only [upds]
  rw [upds_comm (fun b hb=>h b (List.mem_cons_of_mem _ hb)),← upds_upd (h p.1 List.mem_cons_self)]
def Fresh (G:Cx) (φ:Facts) (E:List Nat) (gs:List (Nat × Obj)):Prop:=(∀ b∈keys gs,(G.w0.heap.size≤b∨b∈G.S)∧((φ b=none∧G.w0.heap.size≤b)∨b∈E))∧gs.Pairwise fun p q=>p.1 ≠ q.1
theorem Fresh.none {G:Cx} {φ:Facts} {gs:List (Nat × Obj)} (h:Fresh G φ [] gs):∀ b∈keys gs,G.w0.heap.size≤b∧φ b=none:=fun b hb=>by
 obtain ⟨h1,h2|h2⟩:=h.1 b hb
 ·exact ⟨h2.2,h2.1⟩
 ·cases h2
def mvA (args:Array Operand) (ρ:Operand→Value):List Nat:=match args[0]? with|some x=>blocksN 1 (ρ x)|none=>[]
def mvB (f:Bool) (o:Oper) (ρ:Operand→Value):List Nat :=
 match o.op with
 |.call { callee:=.builtin .append,args:=args,.. }=>mvA args ρ
 |.call { callee:=.value _,args:=args,.. }=>if f then mvA args ρ else []
 |_=>[]
def moveClaim (f:Bool) (G:Cx) (φ:Facts) (o:Oper) (ρ:Operand→Value) (M:Rel1):Prop :=
 ∀ w,G.on φ (touch o ρ) w→∃ v gs w',(execOp ρ o).run G.P w=.ok (.value v) w'∧M v gs∧Bel G.w0.heap.size G.S G.w0 w'∧w.heap.size≤w'.heap.size ∧
  (∀ b,b < w.heap.size→b ∉ keys gs→w'.heap[b]?=w.heap[b]?)∧(∀ q∈gs,w'.heap[q.1]?=some q.2∧(G.w0.heap.size≤q.1∨q.1∈G.S)∧(w.heap.size≤q.1∨q.1∈mvB f o ρ))∧gs.Pairwise fun p q=>p.1 ≠ q.1
def newM (s:Sh) (ob:Obj):Rel1:=fun v gs=>∃ b,v=s.val b∧gs=[(b,ob)]
def manyClaim (f:Bool) (xs:List Operand) (G:Cx) (φ:Facts) (o:Oper) (ρ:Operand→Value) (M:Rel1):Prop :=
 ∀ w,G.on φ (touchX xs o ρ) w→∃ fn args,(execOp ρ o).run G.P w=.ok (.enter fn args) w∧Calls G.P fn args w (RetG w (mvB f o ρ) M)∧(∀ b∈mvB f o ρ,G.w0.heap.size≤b∨b∈G.S)∧∀ v gs,M v gs→∀ b∈mvB f o ρ,b∈keys gs
def newClaim (G:Cx) (φ:Facts) (o:Oper) (ρ:Operand→Value) (s:Sh) (ob:Obj):Prop :=
 ∀ w,G.on φ (touch o ρ) w→(execOp ρ o).run G.P w=.ok (.value (s.val w.heap.size)) (w.alloc ob)
theorem stBlk_touch {o:Oper} {ρ:Operand→Value} (h:stBlk o ρ=some b):b∈touch o ρ:=by
 unfold stBlk at h
 unfold touch
 cases ho:o.op<;>simp only [ho] at h ⊢<;>try (cases h;done)
 rename_i t x y
 split at h
 ·rename_i a ha;cases h;rw [ha];simp [blocksN]
 ·cases h
section
variable {ops : Array Oper}
theorem eval_put {o:Oper} {a:Act} {dst:Option Tmp} {v:Value} (h:∀ d,dst=some d→d ∉ o.looksAt ops) {x:Operand} (hx:x∈o.op.operands) :
  (a.put dst v).eval x=a.eval x :=
 Act.eval_put fun d hd hxd=>h d hd (by
  subst hxd
  exact List.mem_append_left _ (List.mem_filterMap.2 ⟨.tmp d,by simpa using hx,rfl⟩))
theorem touch_put {o:Oper} {dst:Option Tmp} (h:∀ d,dst=some d→d ∉ o.looksAt ops):touch o (a.put dst v).eval=touch o a.eval:=by
 have he:=fun (x:Operand) (hx:x∈o.op.operands)=>eval_put (a:=a) (dst:=dst) (v:=v) h hx
 unfold touch
 cases ho:o.op<;>simp only [ho] at he ⊢
 ·rw [he _ (by simp [Op.operands])]
 ·rw [he _ (by simp [Op.operands])]
 ·rename_i c
  have:∀ l:List Operand,(∀ x∈l,x∈c.operands.toList)→l.flatMap (fun x=>blocksN 4 ((a.put dst v).eval x))=l.flatMap fun x=>blocksN 4 (a.eval x):=by
   intro l
   induction l with
   |nil=>intro _;rfl
   |cons y l ih =>
    intro hl
    simp only [List.flatMap_cons]
    rw [ih (fun x hx=>hl x (List.mem_cons_of_mem _ hx)),he y (by simpa [Op.operands] using hl y List.mem_cons_self)]
  unfold touchC
  split<;>first|rfl|exact this _ (fun _ h=>h)
theorem blocks1 (v:Value):∀ b∈blocksN 1 v,b∈blocksN 4 v:=by
 intro b hb
 unfold blocksN at hb
 split at hb<;>first|(cases hb;done)|(simp_all [blocksN];done)|skip
 all_goals simp_all [blocksN]
theorem mvB_touch {f:Bool} {o:Oper} {ρ:Operand→Value} (h:b∈mvB f o ρ):b∈touch o ρ:=by
 unfold mvB at h
 split at h
 ·rename_i args tys ho
  unfold touch
  rw [ho]
  unfold mvA at h
  split at h
  ·rename_i x hx
   show b∈(Call.operands _).toList.flatMap _
   refine List.mem_flatMap.2 ⟨x,?_,blocks1 _ b h⟩
   have:=Array.mem_of_getElem? hx
   simpa [Call.operands] using this
  ·cases h
 ·rename_i fo args tys ho
  unfold touch
  rw [ho]
  split at h
  ·unfold mvA at h
   split at h
   ·rename_i x hx
    show b∈(Call.operands _).toList.flatMap _
    refine List.mem_flatMap.2 ⟨x,?_,blocks1 _ b h⟩
    have:=Array.mem_of_getElem? hx
    simp [Call.operands,this]
   ·cases h
  ·cases h
 ·cases h
theorem mvB_put {f:Bool} {o:Oper} {dst:Option Tmp} (h:∀ d,dst=some d→d ∉ o.looksAt ops):mvB f o (a.put dst v).eval=mvB f o a.eval:=by
 have he:=fun (x:Operand) (hx:x∈o.op.operands)=>eval_put (a:=a) (dst:=dst) (v:=v) h hx
 unfold mvB
 split
 ·rename_i args tys ho
  unfold mvA
  split
  ·rename_i x hx
   rw [he x (by rw [ho];have:=Array.mem_of_getElem? hx;simpa [Op.operands,Call.operands] using this)]
  ·rfl
 ·rename_i fo args tys ho
  unfold mvA
  split
  ·split
   ·rename_i x hx
    rw [he x (by rw [ho];have:=Array.mem_of_getElem? hx;simp [Op.operands,Call.operands,this])]
   ·rfl
  ·rfl
 ·rfl
theorem stBlk_put {o:Oper} {dst:Option Tmp} (h:∀ d,dst=some d→d ∉ o.looksAt ops):stBlk o (a.put dst v).eval=stBlk o a.eval:=by
 have he:=fun (x:Operand) (hx:x∈o.op.operands)=>eval_put (a:=a) (dst:=dst) (v:=v) h hx
 unfold stBlk
 cases ho:o.op<;>simp only [ho] at he ⊢
 rw [he _ (by simp [Op.operands])]
end
theorem on_agree {G:Cx} {φ φ':Facts} {u:List Nat} (h:∀ b∈u,φ b=φ' b) {w:World} (hw:G.on φ' u w):G.on φ u w :=
 ⟨hw.1,fun b hb o ho=>hw.2 b hb o (by rw [← h b hb];exact ho)⟩
theorem Eff.claim_agree {G:Cx} {φ φ':Facts} {o:Oper} {ρ:Operand→Value} {e:Eff} (h:∀ b∈touch o ρ,φ b=φ' b) (hc:e.claim G φ o ρ):e.claim G φ' o ρ:=by
 cases e with
 |val v=>exact fun w hw=>hc w (on_agree h hw)
 |call f args v=>exact fun w hw=>hc w (on_agree h hw)
 |set b o'=>exact ⟨hc.1,by rw [← h b (stBlk_touch hc.1)];exact hc.2.1,fun w hw=>hc.2.2 w (on_agree h hw)⟩
theorem newClaim_agree {G:Cx} {φ φ':Facts} {o:Oper} {ρ:Operand→Value} {s:Sh} {ob:Obj} (h:∀ b∈touch o ρ,φ b=φ' b) (hc:newClaim G φ o ρ s ob):newClaim G φ' o ρ s ob :=
 fun w hw=>hc w (on_agree h hw)
theorem manyClaim_agree {f:Bool} {xs:List Operand} {G:Cx} {φ φ':Facts} {o:Oper} {ρ:Operand→Value} {M:Rel1} (h:∀ b∈touchX xs o ρ,φ b=φ' b) (hc:manyClaim f xs G φ o ρ M):manyClaim f xs G φ' o ρ M :=
 fun w hw=>hc w (on_agree h hw)
theorem moveClaim_agree {f:Bool} {G:Cx} {φ φ':Facts} {o:Oper} {ρ:Operand→Value} {M:Rel1} (h:∀ b∈touch o ρ,φ b=φ' b) (hc:moveClaim f G φ o ρ M):moveClaim f G φ' o ρ M :=
 fun w hw=>hc w (on_agree h hw)
theorem putObj_inj (hb:b < w.heap.size) (h:w.putObj b o=w.putObj b o'):o=o':=by
 have h1:=World.putObj_heap_same (w:=w) (r:=b) (o:=o) hb
 rw [h,World.putObj_heap_same hb] at h1
 exact (Option.some.inj h1).symm
theorem alloc_ne (w:World) (o:Obj):w.alloc o ≠ w:=fun h=>by
 have:=congrArg (fun w:World=>w.heap.size) h
 simp at this
theorem Eff.unique {G:Cx} {φ:Facts} {o:Oper} {ρ:Operand→Value} {e e':Eff} (hw:G.holds φ w) (h:e.claim G φ o ρ) (h':e'.claim G φ o ρ):e=e':=by
 have ho:=hw.on (touch o ρ)
 cases e with
 |val v =>
  have h1:=h w ho
  cases e' with
  |val v'=>have h2:=h' w ho;rw [h1] at h2;cases h2;rfl
  |call f args v'=>have h2:=(h' w ho).1;rw [h1] at h2;cases h2
  |set b o'=>have h2:=h'.2.2 w ho;rw [h1] at h2;cases h2
 |call f args v =>
  obtain ⟨h1,c1⟩:=h w ho
  cases e' with
  |val v'=>have h2:=h' w ho;rw [h1] at h2;cases h2
  |call f' args' v' =>
   obtain ⟨h2,c2⟩:=h' w ho
   rw [h1] at h2
   cases h2
   rw [calls_unique c1 c2]
  |set b o'=>have h2:=h'.2.2 w ho;rw [h1] at h2;cases h2
 |set b ob =>
  have h1:=h.2.2 w ho
  cases e' with
  |val v'=>have h2:=h' w ho;rw [h1] at h2;cases h2
  |call f args v'=>have h2:=(h' w ho).1;rw [h1] at h2;cases h2
  |set b' ob' =>
   have hb:b=b':=by have:=h.1.symm.trans h'.1;simpa using this
   subst hb
   have h2:=h'.2.2 w ho
   rw [h1] at h2
   injection h2 with _ h2
   obtain ⟨x,hx⟩:=Option.ne_none_iff_exists'.1 h.2.1
   have hlt:b < w.heap.size:=(Array.getElem?_eq_some_iff.1 (hw.2 b x hx)).1
   rw [putObj_inj hlt h2]
theorem Eff.not_new {G:Cx} {φ:Facts} {o:Oper} {ρ:Operand→Value} {e:Eff} {s:Sh} {ob:Obj} (hw:G.holds φ w) (h:e.claim G φ o ρ) (h':newClaim G φ o ρ s ob):False:=by
 have ho:=hw.on (touch o ρ)
 have h2:=h' w ho
 cases e with
 |val v =>
  have h1:=h w ho
  rw [h1] at h2
  injection h2 with _ h2
  exact alloc_ne _ _ h2.symm
 |call f args v=>have h1:=(h w ho).1;rw [h1] at h2;cases h2
 |set b o'=>have h1:=h.2.2 w ho;rw [h1] at h2;cases h2
theorem new_unique {G:Cx} {φ:Facts} {o:Oper} {ρ:Operand→Value} {s s':Sh} {ob ob':Obj} (hw:G.holds φ w) (h:newClaim G φ o ρ s ob) (h':newClaim G φ o ρ s' ob'):s=s'∧ob=ob':=by
 have ho:=hw.on (touch o ρ)
 have h1:=h w ho
 rw [h' w ho] at h1
 injection h1 with h1 h2
 injection h1 with h1
 refine ⟨(Sh.inj h1).symm,?_⟩
 have h3:=World.alloc_heap_new w ob
 rw [← h2,World.alloc_heap_new] at h3
 exact (Option.some.inj h3).symm
abbrev Kont:=Act→Facts→Tag→Tag→Prop
variable {ops : Array Oper} {anc : Nat → Nat → Prop} {G : Cx} {μ : Mu}
def Can (G:Cx) (ops:Array Oper) (m:Option (Rel2 × Fl)) (φ:Facts) (o:Oper) (a:Act) (e:Eff):Prop :=
 (Region.wanted o (yielded ops a.tmps)=true∧m=none∧e.claim G φ o a.eval)∨(Region.wanted o (yielded ops a.tmps)=false∧e=.val undef)
def CanMk (G:Cx) (ops:Array Oper) (m:Option (Rel2 × Fl)) (φ:Facts) (o:Oper) (a:Act) (M:Rel1):Prop :=
 Region.wanted o (yielded ops a.tmps)=true∧((m=none∧∃ s ob,newClaim G φ o a.eval s ob∧M=newM s ob)∨((∃ R:Rel2,m.map (·.1)=some R∧M=R (valsOf o a.eval) (rst φ (touch o a.eval)))∧(manyClaim (flg m) (exs m) G φ o a.eval M∨moveClaim (flg m) G φ o a.eval M)))
def tch (xs:List Operand) (ops:Array Oper) (o:Oper) (a:Act):List Nat:=if Region.wanted o (yielded ops a.tmps)=true then touchX xs o a.eval else []
def mvE (f:Bool) (ops:Array Oper) (o:Oper) (a:Act):List Nat:=if Region.wanted o (yielded ops a.tmps)=true then mvB f o a.eval else []
theorem mvE_tch {f:Bool} {xs:List Operand} {o:Oper} (h:b∈mvE f ops o a):b∈tch xs ops o a:=by
 unfold mvE at h
 unfold tch
 split at h
 ·rename_i hw;rw [if_pos hw];exact touch_sub (mvB_touch h)
 ·cases h
def dOp (G:Cx) (ops:Array Oper) (anc:Nat→Nat→Prop) (μ:Mu) (i:Nat) (K:Kont):Kont:=fun a φ tw tr =>
 match ops[i]? with
 |none=>K a φ tw tr
 |some o=>(∀ b∈tch (exs (μ i)) ops o a,(φ b ≠ none∨b < G.w0.heap.size)∧∀ k,tw b k→anc k i) ∧
  ((∃ e,Can G ops (μ i) φ o a e∧(∀ b∈e.wr,∀ k,tr b k→anc k i)∧K (a.put o.dst e.out) (e.phi φ) (addT tw e.wr i) (addT tr (tch (exs (μ i)) ops o a) i)) ∨
  (∃ M,CanMk G ops (μ i) φ o a M∧(∀ b∈mvE (flg (μ i)) ops o a,∀ k,tr b k→anc k i)∧∀ v gs,M v gs→Fresh G φ (mvE (flg (μ i)) ops o a) gs→(∃ w,G.holds (upds φ gs) w)→K (a.put o.dst v) (upds φ gs) (addT tw (mvE (flg (μ i)) ops o a++keys gs) i) (addT tr (tch (exs (μ i)) ops o a) i)))
theorem phi_of_not_wr {e:Eff} {φ:Facts} (h:b ∉ e.wr):e.phi φ b=φ b:=by
 cases e<;>simp_all [Eff.phi,Eff.wr,upd]
theorem phi_none {e:Eff} {φ:Facts} {o:Oper} {ρ:Operand→Value} (hc:e.claim G φ o ρ):e.phi φ b=none↔φ b=none:=by
 cases e with
 |val v=>rfl
 |call f args v=>rfl
 |set k o' =>
  by_cases h:b=k
  ·subst h;simp [Eff.phi,upd,hc.2.1]
  ·simp [Eff.phi,upd,h]
variable {mi : Option (Rel2 × Fl)}
theorem Can.phi_none {e:Eff} {φ:Facts} {o:Oper} (hc:Can G ops mi φ o a e):e.phi φ b=none↔φ b=none:=by
 rcases hc with ⟨_,_,h⟩|⟨_,rfl⟩
 ·exact SL.phi_none h
 ·rfl
theorem Can.wr_tch {xs:List Operand} {e:Eff} {φ:Facts} {o:Oper} (hc:Can G ops mi φ o a e) (hb:b∈e.wr):b∈tch xs ops o a∧φ b ≠ none:=by
 rcases hc with ⟨hw,_,h⟩|⟨_,rfl⟩
 ·cases e with
  |set k o' =>
   simp only [Eff.wr,List.mem_singleton] at hb
   subst hb
   exact ⟨by unfold tch;rw [if_pos hw];exact touch_sub (stBlk_touch h.1),h.2.1⟩
  |_=>simp [Eff.wr] at hb
 ·simp [Eff.wr] at hb
theorem Can.agree {xs:List Operand} {e:Eff} {φ φ':Facts} {o:Oper} (h:∀ b∈tch xs ops o a,φ b=φ' b) (hc:Can G ops mi φ o a e):Can G ops mi φ' o a e:=by
 rcases hc with ⟨hw,hm,hc⟩|hc
 ·exact .inl ⟨hw,hm,Eff.claim_agree (by unfold tch at h;rw [if_pos hw] at h;exact fun b hb=>h b (touch_sub hb)) hc⟩
 ·exact .inr hc
theorem CanMk.agree {M:Rel1} {φ φ':Facts} {o:Oper} (h:∀ b∈tch (exs mi) ops o a,φ b=φ' b) (hc:CanMk G ops mi φ o a M):CanMk G ops mi φ' o a M:=by
 have hx':∀ b∈touchX (exs mi) o a.eval,φ b=φ' b:=by unfold tch at h;rw [if_pos hc.1] at h;exact h
 have h':∀ b∈touch o a.eval,φ b=φ' b:=fun b hb=>hx' b (touch_sub hb)
 refine ⟨hc.1,?_⟩
 rcases hc.2 with ⟨h1,s,ob,h2,h3⟩|⟨⟨R,h1,h4⟩,h2|h2⟩
 ·exact .inl ⟨h1,s,ob,newClaim_agree h' h2,h3⟩
 ·exact .inr ⟨⟨R,h1,by rw [h4,rst_agree h']⟩,.inl (manyClaim_agree hx' h2)⟩
 ·exact .inr ⟨⟨R,h1,by rw [h4,rst_agree h']⟩,.inr (moveClaim_agree h' h2)⟩
section put
variable {o : Oper} {a : Act} {dst : Option Tmp} {v : Value}
theorem touchX_put {xs:List Operand} (h:∀ d,dst=some d→d ∉ o.looksAt ops) (hx:∀ d,dst=some d→∀ x∈xs,x ≠ .tmp d):touchX xs o (a.put dst v).eval=touchX xs o a.eval:=by
 unfold touchX
 rw [touch_put h]
 congr 1
 induction xs with
 |nil=>rfl
 |cons x l ih =>
  simp only [List.flatMap_cons]
  rw [ih (fun d hd y hy=>hx d hd y (List.mem_cons_of_mem _ hy)),Act.eval_put fun d hd e=>hx d hd x List.mem_cons_self e]
theorem tch_put {xs:List Operand} (h:∀ d,dst=some d→d ∉ o.looksAt ops) (hx:∀ d,dst=some d→∀ x∈xs,x ≠ .tmp d):tch xs ops o (a.put dst v)=tch xs ops o a:=by
 unfold tch
 rw [wanted_put o a dst v h,touchX_put h hx]
theorem Eff.claim_put {e:Eff} {φ:Facts} (hs:∀ cs b,o.op ≠ .select cs b) (h:∀ d,dst=some d→d ∉ o.looksAt ops):e.claim G φ o (a.put dst v).eval↔e.claim G φ o a.eval:=by
 have h1:=execOp_put o hs a dst v h
 have h2:=touch_put (a:=a) (v:=v) h
 have h3:=stBlk_put (a:=a) (v:=v) h
 cases e<;>simp only [Eff.claim,h1,h2,h3]
theorem Can.put {e:Eff} {φ:Facts} (hs:∀ cs b,o.op ≠ .select cs b) (h:∀ d,dst=some d→d ∉ o.looksAt ops):Can G ops mi φ o (a.put dst v) e↔Can G ops mi φ o a e:=by
 unfold Can
 rw [wanted_put o a dst v h,Eff.claim_put hs h]
theorem CanMk.put {M:Rel1} {φ:Facts} (hs:∀ cs b,o.op ≠ .select cs b) (h:∀ d,dst=some d→d ∉ o.looksAt ops) (hx:∀ d,dst=some d→∀ x∈exs mi,x ≠ .tmp d):CanMk G ops mi φ o (a.put dst v) M↔CanMk G ops mi φ o a M:=by
 have hv:valsOf o (a.put dst v).eval=valsOf o a.eval:=List.map_congr_left fun x hx=>eval_put h (by simpa using hx)
 unfold CanMk newClaim manyClaim moveClaim
 rw [wanted_put o a dst v h,execOp_put o hs a dst v h,touch_put h,touchX_put h hx,mvB_put h,hv]
theorem mvE_put {f:Bool} (h:∀ d,dst=some d→d ∉ o.looksAt ops):mvE f ops o (a.put dst v)=mvE f ops o a:=by
 unfold mvE
 rw [wanted_put o a dst v h,mvB_put h]
end put
theorem Can.unique {φ:Facts} {o:Oper} {e e':Eff} (hw:G.holds φ w) (h:Can G ops mi φ o a e) (h':Can G ops mi φ o a e'):e=e':=by
 rcases h with ⟨hw1,_,h⟩|⟨hw1,rfl⟩<;>rcases h' with ⟨hw2,_,h'⟩|⟨hw2,rfl⟩
 ·exact Eff.unique hw h h'
 ·rw [hw1] at hw2;cases hw2
 ·rw [hw1] at hw2;cases hw2
 ·rfl
theorem Can.not_new {φ:Facts} {o:Oper} {e:Eff} {M:Rel1} (hw:G.holds φ w) (h:Can G ops mi φ o a e) (h':CanMk G ops mi φ o a M):False:=by
 rcases h with ⟨_,hm,h⟩|⟨hw1,_⟩
 ·rcases h'.2 with ⟨_,s,ob,h2,_⟩|⟨⟨_,h2,_⟩,_⟩
  ·exact Eff.not_new hw h h2
  ·rw [hm] at h2;simp at h2
 ·rw [h'.1] at hw1;cases hw1
theorem CanMk.unique {φ:Facts} {o:Oper} {M M':Rel1} (hw:G.holds φ w) (h:CanMk G ops mi φ o a M) (h':CanMk G ops mi φ o a M'):M=M':=by
 rcases h.2 with ⟨h1,s,ob,h2,rfl⟩|⟨⟨R,h1,h3⟩,h2⟩<;>rcases h'.2 with ⟨k1,s',ob',k2,rfl⟩|⟨⟨R',k1,k3⟩,k2⟩
 ·obtain ⟨rfl,rfl⟩:=new_unique hw h2 k2;rfl
 ·rw [h1] at k1;simp at k1
 ·rw [k1] at h1;simp at h1
 ·rw [h1] at k1;cases k1;rw [h3,k3]
theorem holds_new {φ:Facts} (hw:G.holds φ w) (ob:Obj):G.w0.heap.size≤w.heap.size∧φ w.heap.size=none∧G.holds (upd φ w.heap.size ob) (w.alloc ob):=by
 refine ⟨hw.1.size,?_,hw.1.alloc hw.1.size _,fun b o hb=>?_⟩
 ·cases h:φ w.heap.size with
  |none=>rfl
  |some o=>have:=(Array.getElem?_eq_some_iff.1 (hw.2 _ _ h)).1;omega
 ·by_cases h:b=w.heap.size
  ·subst h;rw [upd_same] at hb;cases hb;exact World.alloc_heap_new w ob
  ·rw [upd_other _ _ h] at hb
   have h1:=hw.2 b o hb
   rw [Below.heap_alloc _ _ _ (Array.getElem?_eq_some_iff.1 h1).1];exact h1
theorem holds_many {φ:Facts} {w':World} (hw:G.holds φ w) {M:Rel1} {e:Ending} {S:List Nat} (hS:∀ b∈S,G.w0.heap.size≤b∨b∈G.S) (hk:∀ v gs,M v gs→∀ b∈S,b∈keys gs) (h:RetG w S M e w'):∃ v gs,e=.returned v∧M v gs∧Fresh G φ S gs∧G.holds (upds φ gs) w':=by
 obtain ⟨v,gs,he,hM,hb,hg,hn⟩:=h
 refine ⟨v,gs,he,hM,⟨fun b hb'=>?_,hn⟩,hw.1.trans (hb.mono hw.1.size (fun x hx hlt=>by rcases hS x hx with h|h;omega;exact h)),fun b o hbo=>?_⟩
 ·obtain ⟨p,hp,rfl⟩:=List.mem_map.1 hb'
  rcases (hg p hp).1 with h1|h1
  ·refine ⟨.inl (Nat.le_trans hw.1.size h1),.inl ⟨?_,Nat.le_trans hw.1.size h1⟩⟩
   cases h2:φ p.1 with
   |none=>rfl
   |some o=>have:=(Array.getElem?_eq_some_iff.1 (hw.2 _ _ h2)).1;omega
  ·exact ⟨hS _ h1,.inr h1⟩
 ·rcases upds_mem hbo with h1|⟨h0,h1⟩
  ·exact (hg _ h1).2
  ·have h2:=hw.2 b o h1
   rw [hb.block b (Array.getElem?_eq_some_iff.1 h2).1 (fun h=>h0 (hk v gs hM b h))];exact h2
theorem holds_move {f:Bool} {φ:Facts} {o:Oper} {ρ:Operand→Value} {M:Rel1} (hw:G.holds φ w) (h:moveClaim f G φ o ρ M):∃ v gs w',(execOp ρ o).run G.P w=.ok (.value v) w'∧M v gs∧Fresh G φ (mvB f o ρ) gs∧G.holds (upds φ gs) w':=by
 obtain ⟨v,gs,w',h1,h2,h3,h4,h5,h6,h7⟩:=h w (hw.on _)
 refine ⟨v,gs,w',h1,h2,⟨fun b hb=>?_,h7⟩,h3,fun b o' hbo=>?_⟩
 ·obtain ⟨q,hq,rfl⟩:=List.mem_map.1 hb
  obtain ⟨_,q2,q3⟩:=h6 q hq
  refine ⟨q2,?_⟩
  rcases q3 with q3|q3
  ·refine .inl ⟨?_,Nat.le_trans hw.1.size q3⟩
   cases h8:φ q.1 with
   |none=>rfl
   |some o=>have:=(Array.getElem?_eq_some_iff.1 (hw.2 _ _ h8)).1;omega
  ·exact .inr q3
 ·rcases upds_mem hbo with h8|⟨h8,h9⟩
  ·exact (h6 _ h8).1
  ·have h10:=hw.2 b o' h9
   rw [h5 b (Array.getElem?_eq_some_iff.1 h10).1 h8];exact h10
theorem CanMk.some {φ:Facts} {o:Oper} {M:Rel1} (hw:G.holds φ w) (h:CanMk G ops mi φ o a M):∃ v gs,M v gs∧Fresh G φ (mvE (flg mi) ops o a) gs∧∃ w',G.holds (upds φ gs) w':=by
 have hwa:=h.1
 rcases h.2 with ⟨_,s,ob,h2,rfl⟩|⟨_,h2|h2⟩
 ·obtain ⟨q1,q2,q3⟩:=holds_new hw ob
  exact ⟨_,_,⟨_,rfl,rfl⟩,⟨by simpa [keys] using ⟨.inl q1,.inl ⟨q2,q1⟩⟩,by simp⟩,_,q3⟩
 ·obtain ⟨f,args,_,h3,hS,hk⟩:=h2 w (hw.on _)
  obtain ⟨e,w',_,h4,_⟩:=h3 []
  obtain ⟨v,gs,_,h5,h6,h7⟩:=holds_many hw hS hk h4
  exact ⟨v,gs,h5,by unfold mvE;rw [if_pos hwa];exact h6,w',h7⟩
 ·obtain ⟨v,gs,w',_,h5,h6,h7⟩:=holds_move hw h2
  exact ⟨v,gs,h5,by unfold mvE;rw [if_pos hwa];exact h6,w',h7⟩
theorem holds_put {φ:Facts} (hinv:G.inv φ) {w:World} (hw:G.holds φ w) {b:Nat} (hb:φ b ≠ none) (ob:Obj):G.holds (upd φ b ob) (w.putObj b ob):=by
 obtain ⟨x,hx⟩:=Option.ne_none_iff_exists'.1 hb
 have hlt:=(Array.getElem?_eq_some_iff.1 (hw.2 b x hx)).1
 refine ⟨hw.1.put (hinv b hb) _,fun k o hk=>?_⟩
 by_cases h:k=b
 ·subst h;rw [upd_same] at hk;cases hk;exact World.putObj_heap_same hlt
 ·rw [upd_other _ _ h] at hk;rw [World.putObj_heap_other h];exact hw.2 k o hk
theorem holds_drop {φ:Facts} {ob:Obj} (hb:φ b=none) (hw:G.holds (upd φ b ob) w):G.holds φ w :=
 ⟨hw.1,fun k o hk=>hw.2 k o (by rw [upd_other _ _ (fun e=>by subst e;rw [hb] at hk;cases hk)];exact hk)⟩
theorem holds_undo {φ:Facts} (hinv:G.inv φ):∀ {gs:List (Nat × Obj)} {w:World},(∀ b∈keys gs,G.w0.heap.size≤b∨b∈G.S)→G.holds (upds φ gs) w→∃ w',G.holds φ w'
 |[],w,_,hw=>⟨w,hw⟩
 |p::r,w,hg,hw=>by
  have hr:∀ b∈keys r,G.w0.heap.size≤b∨b∈G.S:=fun b hb=>hg b (List.mem_cons_of_mem _ hb)
  have hi:G.inv (upds φ r):=fun k hk=>by
   by_cases h:k∈keys r
   ·exact hr k h
   ·rw [upds_other h] at hk;exact hinv k hk
  cases hx:upds φ r p.1 with
  |none=>exact holds_undo hinv hr (holds_drop hx hw)
  |some x =>
   have hw':G.holds (upd (upds φ r) p.1 p.2) w:=hw
   have hi':G.inv (upd (upds φ r) p.1 p.2):=fun k hk=>by
    by_cases h:k=p.1
    ·subst h;exact hi _ (by rw [hx];simp)
    ·rw [upd_other _ _ h] at hk;exact hi k hk
   have h1:=holds_put hi' hw' (b:=p.1) (by rw [upd_same];simp) x
   refine holds_undo hinv hr (w:=w.putObj p.1 x) ⟨h1.1,fun y o hy=>h1.2 y o ?_⟩
   by_cases hyp:y=p.1
   ·subst hyp;rw [upd_same];rw [hx] at hy;exact hy
   ·rw [upd_other _ _ hyp,upd_other _ _ hyp];exact hy
theorem inv_upd {φ:Facts} (hinv:G.inv φ) {b:Nat} (hb:G.w0.heap.size≤b∨b∈G.S) (ob:Obj):G.inv (upd φ b ob):=fun k hk=>by
 by_cases h:k=b
 ·subst h;exact hb
 ·rw [upd_other _ _ h] at hk;exact hinv k hk
theorem inv_upds {φ:Facts} (hinv:G.inv φ) {gs:List (Nat × Obj)} (hg:∀ b∈keys gs,G.w0.heap.size≤b∨b∈G.S):G.inv (upds φ gs):=fun k hk=>by
 by_cases h:k∈keys gs
 ·exact hg k h
 ·rw [upds_other h] at hk;exact hinv k hk
theorem Can.inv {φ:Facts} {o:Oper} {e:Eff} (hinv:G.inv φ) (h:Can G ops mi φ o a e):G.inv (e.phi φ):=fun k hk=>hinv k (fun h0=>hk (h.phi_none.2 h0))
theorem Can.wit {φ:Facts} {o:Oper} {e:Eff} (hinv:G.inv φ) (h:Can G ops mi φ o a e) {w:World} (hw:G.holds φ w):∃ w',G.holds (e.phi φ) w':=by
 cases e with
 |val v=>exact ⟨w,hw⟩
 |call f args v=>exact ⟨w,hw⟩
 |set b ob=>exact ⟨_,holds_put hinv hw (h.wr_tch (xs:=[]) (by simp [Eff.wr])).2 ob⟩
theorem Can.back {φ:Facts} {o:Oper} {e:Eff} (hinv:G.inv φ) (h:Can G ops mi φ o a e) {gs:List (Nat × Obj)} (hg:∀ b∈keys gs,G.w0.heap.size≤b∨b∈G.S) (hne:∀ b∈keys gs,b ∉ e.wr) {w:World}
  (hw:G.holds (upds (e.phi φ) gs) w):∃ w',G.holds (upds φ gs) w':=by
 cases e with
 |val v=>exact ⟨w,hw⟩
 |call f args v=>exact ⟨w,hw⟩
 |set k o' =>
  obtain ⟨_,hk⟩:=h.wr_tch (xs:=[]) (b:=k) (by simp [Eff.wr])
  obtain ⟨x,hx⟩:=Option.ne_none_iff_exists'.1 hk
  have hkg:k ∉ keys gs:=fun h0=>hne k h0 (by simp [Eff.wr])
  have hinv':G.inv (upds (upd φ k o') gs):=inv_upds (inv_upd hinv (hinv k hk) _) (fun b hb=>hg b hb)
  have h1:=holds_put hinv' hw (b:=k) (by rw [upds_other hkg,upd_same];simp) x
  refine ⟨_,h1.1,fun y o hy=>h1.2 y o ?_⟩
  by_cases hyk:y=k
  ·subst hyk;rw [upd_same];rw [upds_other hkg,hx] at hy;exact hy
  ·rw [upd_other _ _ hyk]
   show upds (upd φ k o') gs y=_
   rw [upds_upd hkg,upd_other _ _ hyk];exact hy
theorem dOp_mono {K K':Kont} {φ:Facts} {tw tr:Tag} (hK:∀ a φ tw tr,K a φ tw tr→K' a φ tw tr) (h:dOp G ops anc μ i K a φ tw tr):dOp G ops anc μ i K' a φ tw tr:=by
 unfold dOp at *
 split
 ·rename_i ho;simp only [ho] at h;exact hK _ _ _ _ h
 ·rename_i o ho
  simp only [ho] at h
  refine ⟨h.1,?_⟩
  rcases h.2 with ⟨e,h1,h2,h3⟩|⟨M,h1,h0,h2⟩
  ·exact .inl ⟨e,h1,h2,hK _ _ _ _ h3⟩
  ·exact .inr ⟨M,h1,h0,fun v gs hM hf hw=>hK _ _ _ _ (h2 v gs hM hf hw)⟩
theorem dOp_wit {K:Kont} {φ:Facts} {tw tr:Tag} (hinv:G.inv φ) (hwit:∃ w,G.holds φ w) (h:dOp G ops anc μ i K a φ tw tr) :
  dOp G ops anc μ i (fun a φ tw tr=>(G.inv φ∧∃ w,G.holds φ w)∧K a φ tw tr) a φ tw tr:=by
 unfold dOp at *
 split
 ·rename_i ho;simp only [ho] at h;exact ⟨⟨hinv,hwit⟩,h⟩
 ·rename_i o ho
  simp only [ho] at h
  obtain ⟨w,hw⟩:=hwit
  refine ⟨h.1,?_⟩
  rcases h.2 with ⟨e,h1,h2,h3⟩|⟨M,h1,h0,h2⟩
  ·exact .inl ⟨e,h1,h2,⟨h1.inv hinv,h1.wit hinv hw⟩,h3⟩
  ·exact .inr ⟨M,h1,h0,fun v gs hM hf hw=>⟨⟨inv_upds hinv (fun b hb=>(hf.1 b hb).1),hw⟩,h2 v gs hM hf hw⟩⟩
theorem dOp_some {K:Kont} {φ:Facts} {tw tr:Tag} (hwit:∃ w,G.holds φ w) (h:dOp G ops anc μ i K a φ tw tr):∃ a φ tw tr,K a φ tw tr:=by
 unfold dOp at h
 split at h
 ·exact ⟨_,_,_,_,h⟩
 ·obtain ⟨w,hw⟩:=hwit
  rcases h.2 with ⟨e,h1,h2,h3⟩|⟨M,h1,_,h2⟩
  ·exact ⟨_,_,_,_,h3⟩
  ·obtain ⟨v,gs,hM,hf,hw'⟩:=h1.some hw
   exact ⟨_,_,_,_,h2 v gs hM hf hw'⟩
theorem Eff.phi_comm {e e':Eff} {φ:Facts} (h:∀ b∈e.wr,b ∉ e'.wr):e.phi (e'.phi φ)=e'.phi (e.phi φ):=by
 cases e<;>cases e'<;>simp only [Eff.phi]
 rename_i b o b' o'
 exact upd_comm _ _ _ (fun hb=>h b (by simp [Eff.wr]) (by simp [Eff.wr,hb]))
theorem Eff.phi_upd {e:Eff} {φ:Facts} {ob:Obj} (h:b ∉ e.wr):e.phi (upd φ b ob)=upd (e.phi φ) b ob:=by
 cases e<;>simp only [Eff.phi]
 rename_i k o
 exact upd_comm _ _ _ (fun hb=>h (by simp [Eff.wr,hb]))
theorem Eff.phi_upds {e:Eff} {φ:Facts}:∀ {gs:List (Nat × Obj)},(∀ b∈keys gs,b ∉ e.wr)→e.phi (upds φ gs)=upds (e.phi φ) gs
 |[],_=>rfl
 |p::r,h=>by
  simp only [upds]
  rw [Eff.phi_upd (h p.1 List.mem_cons_self),Eff.phi_upds fun b hb=>h b (List.mem_cons_of_mem _ hb)]
set_option maxHeartbeats 1000000 in
theorem swap {oi oj:Oper} (hi:ops[i]?=some oi) (hj:ops[j]?=some oj) (hij:¬ anc i j) (hap:oi.apart ops oj=true)
  (hsi:∀ cs b,oi.op ≠ .select cs b) (hsj:∀ cs b,oj.op ≠ .select cs b) (hxi:∀ d,oj.dst=some d→∀ x∈exs (μ i),x ≠ .tmp d) (hxj:∀ d,oi.dst=some d→∀ x∈exs (μ j),x ≠ .tmp d) {K:Kont} {a:Act} {φ:Facts} {tw tr:Tag} (hinv:G.inv φ) (hwit:∃ w,G.holds φ w)
  (h:dOp G ops anc μ i (dOp G ops anc μ j K) a φ tw tr):dOp G ops anc μ j (dOp G ops anc μ i K) a φ tw tr:=by
 obtain ⟨p1,p2,p3⟩:=Oper.apart_spec hap
 obtain ⟨w,hw⟩:=hwit
 have tagL:∀ {t:Tag} {u:List Nat} {x b k:Nat},t b k→addT t u x b k:=fun h=>.inl h
 simp only [dOp,hi,hj] at h ⊢
 obtain ⟨ht,h⟩:=h
 rcases h with ⟨e,c1,c2,h3⟩|⟨M,c1,c0,h3⟩
 ·-- i does what it does
  obtain ⟨ht',h3⟩:=h3
  rw [tch_put p1 hxj] at ht' h3
  rw [mvE_put p1] at h3
  have nij:∀ b∈tch (exs (μ j)) ops oj a,b ∉ e.wr:=fun b hb hw'=>hij ((ht' b hb).2 i (.inr ⟨rfl,hw'⟩))
  have agj:∀ b∈tch (exs (μ j)) ops oj a,e.phi φ b=φ b:=fun b hb=>phi_of_not_wr (nij b hb)
  refine ⟨fun b hb=>⟨by rw [← agj b hb];exact (ht' b hb).1,fun k hk=>(ht' b hb).2 k (tagL hk)⟩,?_⟩
  rcases h3 with ⟨e',d1,d2,h4⟩|⟨M',d1,d0,h4⟩
  ·have d1':Can G ops (μ j) φ oj a e':=((Can.put hsj p1).1 d1).agree agj
   have nwr:∀ b∈e'.wr,b ∉ tch (exs (μ i)) ops oi a:=fun b hb hw'=>hij (d2 b hb i (.inr ⟨rfl,hw'⟩))
   refine .inl ⟨e',d1',fun b hb k hk=>d2 b hb k (tagL hk),?_⟩
   rw [tch_put p3 hxi]
   have agi:∀ b∈tch (exs (μ i)) ops oi a,φ b=e'.phi φ b:=fun b hb=>(phi_of_not_wr (fun hw'=>nwr b hw' hb)).symm
   refine ⟨fun b hb=>⟨by rw [← agi b hb];exact (ht b hb).1,fun k hk=>?_⟩,.inl ⟨e,((Can.put hsi p3).2 (c1.agree agi)),fun b hb k hk=>?_,?_⟩⟩
   ·rcases hk with hk|⟨rfl,hk⟩
    ·exact (ht b hb).2 k hk
    ·exact absurd hb (nwr b hk)
   ·rcases hk with hk|⟨rfl,hk⟩
    ·exact c2 b hb k hk
    ·exact absurd hb (nij b hk)
   ·rw [Act.put_comm _ _ _ p2] at h4
    rw [addT_comm,addT_comm tr,Eff.phi_comm (fun b hb hb'=>nwr b hb' (c1.wr_tch hb).1)]
    exact h4
  ·have d1':CanMk G ops (μ j) φ oj a M':=((CanMk.put hsj p1 hxj).1 d1).agree agj
   have nEi:∀ b∈mvE (flg (μ j)) ops oj a,b ∉ tch (exs (μ i)) ops oi a:=fun b hb hb'=>hij (d0 b hb i (.inr ⟨rfl,hb'⟩))
   refine .inr ⟨M',d1',fun b hb k hk=>d0 b hb k (tagL hk),fun v gs hM hf hwb=>?_⟩
   rw [tch_put p3 hxi]
   have hbi:∀ b∈keys gs,b ∉ tch (exs (μ i)) ops oi a:=fun b hb h0=>by
    obtain ⟨f1,f2|f2⟩:=hf.1 b hb
    ·rcases (ht b h0).1 with h1|h1
     ·exact h1 f2.1
     ·have:=f2.2;omega
    ·exact nEi b f2 h0
   have agi:∀ x∈tch (exs (μ i)) ops oi a,φ x=upds φ gs x:=fun x hx=>(upds_other (fun h=>hbi x h hx)).symm
   have hnb:∀ b∈keys gs,b ∉ e.wr:=fun b hb hb'=>hbi b hb (c1.wr_tch hb').1
   have c1':Can G ops (μ i) (upds φ gs) oi a e:=c1.agree agi
   refine ⟨fun x hx=>⟨by rw [← agi x hx];exact (ht x hx).1,fun k hk=>?_⟩,.inl ⟨e,(Can.put hsi p3).2 c1',fun x hx k hk=>?_,?_⟩⟩
   ·rcases hk with hk|⟨_,hk⟩
    ·exact (ht x hx).2 k hk
    ·rcases List.mem_append.1 hk with hk|hk
     ·exact absurd hx (nEi x hk)
     ·exact absurd hx (hbi x hk)
   ·rcases hk with hk|⟨_,hk⟩
    ·exact c2 x hx k hk
    ·exact absurd hx (nij x hk)
   ·obtain ⟨wb,hwb⟩:=hwb
    have h5:=h4 v gs hM ⟨fun b hb=>⟨(hf.1 b hb).1,(hf.1 b hb).2.imp (fun h=>⟨c1.phi_none.2 h.1,h.2⟩) id⟩,hf.2⟩ (by rw [← Eff.phi_upds hnb];exact c1'.wit (inv_upds hinv (fun b hb=>(hf.1 b hb).1)) hwb)
    rw [Act.put_comm _ _ _ p2] at h5
    rw [addT_comm,addT_comm tr,Eff.phi_upds hnb]
    exact h5
 ·-- i lays new blocks: which ones,is open
  obtain ⟨v0,gs0,m0,f0,w0⟩:=c1.some hw
  have h0:=h3 v0 gs0 m0 f0 w0
  rw [tch_put p1 hxj,mvE_put p1] at h0
  obtain ⟨ht',h0⟩:=h0
  have hbj:∀ gs:List (Nat × Obj),(∀ x∈tch (exs (μ j)) ops oj a,∀ k,addT tw (mvE (flg (μ i)) ops oi a++keys gs) i x k→anc k j)→∀ b∈keys gs,b ∉ tch (exs (μ j)) ops oj a:=fun gs hx b hb hb'=>hij (hx b hb' i (.inr ⟨rfl,List.mem_append_right _ hb⟩))
  have nbj:=hbj gs0 (fun x hx=>(ht' x hx).2)
  have nEj:∀ b∈mvE (flg (μ i)) ops oi a,b ∉ tch (exs (μ j)) ops oj a:=fun b hb hb'=>hij ((ht' b hb').2 i (.inr ⟨rfl,List.mem_append_left _ hb⟩))
  have agj:∀ x∈tch (exs (μ j)) ops oj a,upds φ gs0 x=φ x:=fun x hx=>upds_other (fun h=>nbj x h hx)
  refine ⟨fun x hx=>⟨by rw [← agj x hx];exact (ht' x hx).1,fun k hk=>(ht' x hx).2 k (tagL hk)⟩,?_⟩
  rcases h0 with ⟨e',d1,d2,_⟩|⟨M',d1,d0,_⟩
  ·have d1':Can G ops (μ j) φ oj a e':=((Can.put hsj p1).1 d1).agree agj
   have nwr:∀ b∈e'.wr,b ∉ tch (exs (μ i)) ops oi a:=fun b hb hw'=>hij (d2 b hb i (.inr ⟨rfl,hw'⟩))
   refine .inl ⟨e',d1',fun b hb k hk=>d2 b hb k (tagL hk),?_⟩
   rw [tch_put p3 hxi]
   have agi:∀ b∈tch (exs (μ i)) ops oi a,φ b=e'.phi φ b:=fun b hb=>(phi_of_not_wr (fun hw'=>nwr b hw' hb)).symm
   refine ⟨fun b hb=>⟨by rw [← agi b hb];exact (ht b hb).1,fun k hk=>?_⟩,.inr ⟨M,(CanMk.put hsi p3 hxi).2 (c1.agree agi),fun b hb k hk=>?_,fun v gs hM hf hwb=>?_⟩⟩
   ·rcases hk with hk|⟨rfl,hk⟩
    ·exact (ht b hb).2 k hk
    ·exact absurd hb (nwr b hk)
   ·rw [mvE_put p3] at hb
    rcases hk with hk|⟨_,hk⟩
    ·exact c0 b hb k hk
    ·exact absurd hk (nEj b hb)
   ·rw [mvE_put p3] at hf ⊢
    have hf':Fresh G φ (mvE (flg (μ i)) ops oi a) gs:=⟨fun b hb=>⟨(hf.1 b hb).1,(hf.1 b hb).2.imp (fun h=>⟨d1'.phi_none.1 h.1,h.2⟩) id⟩,hf.2⟩
    have hne':∀ b∈keys gs,b ∉ e'.wr:=fun b hb hb'=>by
     rcases (hf'.1 b hb).2 with h7|h7
     ·exact (d1'.wr_tch (xs:=[]) hb').2 h7.1
     ·exact nEj b h7 (d1'.wr_tch hb').1
    obtain ⟨wb,hwb⟩:=hwb
    have h5:=h3 v gs hM hf' (d1'.back hinv (fun b hb=>(hf'.1 b hb).1) hne' hwb)
    rw [tch_put p1 hxj,mvE_put p1] at h5
    obtain ⟨ht5,h5⟩:=h5
    have nbj5:=hbj gs (fun x hx=>(ht5 x hx).2)
    have agj5:∀ x∈tch (exs (μ j)) ops oj a,upds φ gs x=φ x:=fun x hx=>upds_other (fun h=>nbj5 x h hx)
    rcases h5 with ⟨e5,f1,_,h6⟩|⟨M5,f1,_⟩
    ·have f1':Can G ops (μ j) φ oj a e5:=((Can.put hsj p1).1 f1).agree agj5
     obtain rfl:e5=e':=Can.unique hw f1' d1'
     have hnb:∀ b∈keys gs,b ∉ e5.wr:=fun b hb hb'=>nbj5 b hb (d1'.wr_tch hb').1
     rw [Act.put_comm _ _ _ p2,Eff.phi_upds hnb] at h6
     rw [addT_comm,addT_comm tr]
     exact h6
    ·exact (Can.not_new hw d1' (((CanMk.put hsj p1 hxj).1 f1).agree agj5)).elim
  ·have d1':CanMk G ops (μ j) φ oj a M':=((CanMk.put hsj p1 hxj).1 d1).agree agj
   have nEi:∀ b∈mvE (flg (μ j)) ops oj a,b ∉ tch (exs (μ i)) ops oi a:=fun b hb hb'=>hij (d0 b hb i (.inr ⟨rfl,hb'⟩))
   refine .inr ⟨M',d1',fun b hb k hk=>d0 b hb k (tagL hk),fun v gs hM hf hwb=>?_⟩
   rw [tch_put p3 hxi]
   have hbi:∀ b∈keys gs,b ∉ tch (exs (μ i)) ops oi a:=fun b hb h0=>by
    obtain ⟨f1,f2|f2⟩:=hf.1 b hb
    ·rcases (ht b h0).1 with h1|h1
     ·exact h1 f2.1
     ·have:=f2.2;omega
    ·exact nEi b f2 h0
   have agi:∀ x∈tch (exs (μ i)) ops oi a,φ x=upds φ gs x:=fun x hx=>(upds_other (fun h=>hbi x h hx)).symm
   refine ⟨fun x hx=>⟨by rw [← agi x hx];exact (ht x hx).1,fun k hk=>?_⟩,.inr ⟨M,(CanMk.put hsi p3 hxi).2 (c1.agree agi),fun b hb k hk=>?_,fun u hs hMu hfu hwc=>?_⟩⟩
   ·rcases hk with hk|⟨_,hk⟩
    ·exact (ht x hx).2 k hk
    ·rcases List.mem_append.1 hk with hk|hk
     ·exact absurd hx (nEi x hk)
     ·exact absurd hx (hbi x hk)
   ·rw [mvE_put p3] at hb
    rcases hk with hk|⟨_,hk⟩
    ·exact c0 b hb k hk
    ·exact absurd hk (nEj b hb)
   ·rw [mvE_put p3] at hfu ⊢
    have hcb:∀ c∈keys hs,c ∉ keys gs:=fun c hc h=>by
     rcases (hfu.1 c hc).2 with h7|h7
     ·exact upds_key h h7.1
     ·exact hbi c h (mvE_tch h7)
    have hbc:∀ b∈keys gs,b ∉ keys hs:=fun b hb h=>hcb b h hb
    have hfu':Fresh G φ (mvE (flg (μ i)) ops oi a) hs:=⟨fun c hc=>⟨(hfu.1 c hc).1,(hfu.1 c hc).2.imp (fun h7=>⟨by rw [← upds_other (φ:=φ) (hcb c hc)];exact h7.1,h7.2⟩) id⟩,hfu.2⟩
    obtain ⟨wc,hwc⟩:=hwc
    have hwc':G.holds (upds (upds φ hs) gs) wc:=by rw [upds_comm hbc];exact hwc
    have hfb:∀ b∈keys gs,(upds φ hs b=none∧G.w0.heap.size≤b)∨b∈mvE (flg (μ j)) ops oj a:=fun b hb=>by rw [upds_other (hbc b hb)];exact (hf.1 b hb).2
    have h5:=h3 u hs hMu hfu' (holds_undo (inv_upds hinv (fun b hb=>(hfu'.1 b hb).1)) (fun b hb=>(hf.1 b hb).1) hwc')
    rw [tch_put p1 hxj,mvE_put p1] at h5
    obtain ⟨ht5,h5⟩:=h5
    have nbj5:=hbj hs (fun x hx=>(ht5 x hx).2)
    have agj5:∀ x∈tch (exs (μ j)) ops oj a,upds φ hs x=φ x:=fun x hx=>upds_other (fun h=>nbj5 x h hx)
    rcases h5 with ⟨e5,f1,_,h6⟩|⟨M5,f1,_,h6⟩
    ·exact (Can.not_new hw (((Can.put hsj p1).1 f1).agree agj5) d1').elim
    ·obtain rfl:=CanMk.unique hw (((CanMk.put hsj p1 hxj).1 f1).agree agj5) d1'
     have h7:=h6 v gs hM ⟨fun b hb=>⟨(hf.1 b hb).1,hfb b hb⟩,hf.2⟩ ⟨wc,hwc'⟩
     rw [Act.put_comm _ _ _ p2,upds_comm hbc] at h7
     rw [addT_comm,addT_comm tr]
     exact h7
inductive Anc (ops:Array Oper):Nat→Nat→Prop
 |one {i k:Nat} (h:Region.waitsFor .any ops i k=true):Anc ops k i
 |more {i j k:Nat} (h:Region.waitsFor .any ops i j=true) (h':Anc ops k j):Anc ops k i
theorem Anc.listed {k:Nat} {listed:Array Bool} (inv:HeadInv .any ops n listed) (h:Anc ops k i) (hl:listed.getD i false=true):listed.getD k false=true:=by
 induction h with
 |one h=>obtain ⟨o,ho,e,he,hb,rfl⟩:=Region.waitsFor_spec h;exact inv.closed _ o ho hl e he hb
 |more h h' ih=>obtain ⟨o,ho,e,he,hb,rfl⟩:=Region.waitsFor_spec h;exact ih (inv.closed _ o ho hl e he hb)
theorem Anc.not_ready {k:Nat} {listed:Array Bool} (inv:HeadInv .any ops n listed) (hi:i∈Region.ready .any ops listed) (hk:k∈Region.ready .any ops listed):¬ Anc ops k i:=by
 intro h
 have hun:=getD_both (mem_ready.1 hk).1
 obtain ⟨_,oi,hoi,hall⟩:=mem_ready.1 hi
 have direct:∀ j,Region.waitsFor .any ops i j=true→listed.getD j false=true:=fun j hj=>by
  obtain ⟨o,ho,e,he,hb,rfl⟩:=Region.waitsFor_spec hj
  rw [hoi] at ho;cases ho
  exact hall e he hb
 cases h with
 |one h=>rw [direct _ h] at hun;cases hun
 |more h h'=>rw [h'.listed inv (direct _ h)] at hun;cases hun
def AnyL (G:Cx) (ops:Array Oper) (μ:Mu) (n:Nat) (L:Array Bool→Kont):Nat→Array Bool→Kont
 |0,listed=>L listed
 |f+1,listed=>fun a φ tw tr=>Region.ready .any ops listed ≠ []∧∀ i∈Region.ready .any ops listed,i < n∧dOp G ops (Anc ops) μ i (AnyL G ops μ n L f (listed.setIfInBounds i true)) a φ tw tr
def ExOk (ops:Array Oper) (μ:Mu):Prop:=∀ j x,x∈exs (μ j)→∀ i o d,ops[i]?=some o→o.dst=some d→x=.tmp d→Anc ops i j
theorem AnyL_first {n:Nat} {oi:Oper} {L:Array Bool→Kont} (hX:ExOk ops μ) (hi:ops[i]?=some oi) (hsel:∀ (j:Nat) (o:Oper) cs b,ops[j]?=some o→o.op ≠ .select cs b)
  (hwait:∀ listed,HeadInv .any ops n listed→∀ i,i < n→listed.getD i true=false→∀ t∈Region.ready .any ops listed,t < n) (hin:i < n)
  (hdone:∀ listed a φ tw tr,L listed a φ tw tr→∀ j∈Region.ready .any ops listed,n≤j) :
  ∀ (f:Nat) (listed:Array Bool) (a:Act) (φ:Facts) (tw tr:Tag),HeadInv .any ops n listed→G.inv φ→(∃ w,G.holds φ w) →
   (∀ j oj,ops[j]?=some oj→j ≠ i→listed.getD j true=false→(∀ e∈oj.after,Region.binds .any e=true→e.on ≠ i)→oi.apart ops oj=true) →
   i∈Region.ready .any ops listed→dOp G ops (Anc ops) μ i (AnyL G ops μ n L f (listed.setIfInBounds i true)) a φ tw tr→AnyL G ops μ n L (f+1) listed a φ tw tr:=by
 intro f
 induction f with
 |zero =>
  intro listed a φ tw tr inv hinv hwit _ hr H
  have hun:=(mem_ready.1 hr).1
  refine ⟨fun h=>(by rw [h] at hr;cases hr),fun j hj=>?_⟩
  have hjn:=hwait listed inv i hin hun j hj
  refine ⟨hjn,?_⟩
  by_cases hji:j=i
  ·subst hji;exact H
  ·obtain ⟨a',φ',tw',tr',hL⟩:=dOp_some hwit H
   have:=hdone _ _ _ _ _ hL j (ready_mono hj hji)
   omega
 |succ f ih =>
  intro listed a φ tw tr inv hinv hwit hfree hr H
  have hun:=(mem_ready.1 hr).1
  refine ⟨fun h=>(by rw [h] at hr;cases hr),fun j hj=>?_⟩
  have hjn:=hwait listed inv i hin hun j hj
  refine ⟨hjn,?_⟩
  by_cases hji:j=i
  ·subst hji;exact H
  ·obtain ⟨hjun,oj,hoj,hall⟩:=mem_ready.1 hj
   have hnot:∀ e∈oj.after,Region.binds .any e=true→e.on ≠ i:=fun e he hb heq=>by
    have h1:=hall e he hb
    rw [heq,getD_both hun] at h1
    cases h1
   have hap:=hfree j oj hoj hji hjun hnot
   have h1:dOp G ops (Anc ops) μ i (dOp G ops (Anc ops) μ j (AnyL G ops μ n L f ((listed.setIfInBounds i true).setIfInBounds j true))) a φ tw tr :=
    dOp_mono (fun a φ tw tr h=>(h.2 j (ready_mono hj hji)).2) H
   have h2:=dOp_wit hinv hwit (swap hi hoj (Anc.not_ready inv hj hr) hap (fun cs b=>hsel i oi cs b hi) (fun cs b=>hsel j oj cs b hoj) (fun d hd x hx e=>Anc.not_ready inv hr hj (hX i x hx j oj d hoj hd e)) (fun d hd x hx e=>Anc.not_ready inv hj hr (hX j x hx i oi d hi hd e)) hinv hwit h1)
   have hfree':∀ k ok,ops[k]?=some ok→k ≠ i→(listed.setIfInBounds j true).getD k true=false →
     (∀ e∈ok.after,Region.binds .any e=true→e.on ≠ i)→oi.apart ops ok=true:=fun k ok hk hki hun hno=>by
    refine hfree k ok hk hki ?_ hno
    by_cases hjk:j=k
    ·subst hjk;exact hjun
    ·rw [getD_set_ne true hjk] at hun;exact hun
   refine dOp_mono (fun a' φ' tw' tr' h3=>ih (listed.setIfInBounds j true) a' φ' tw' tr' (inv.set hj hjn) h3.1.1 h3.1.2 hfree' (ready_mono hr (Ne.symm hji)) ?_) h2
   rw [Array.setIfInBounds_comm _ _ hji]
   exact h3.2
def walk (G:Cx) (ops:Array Oper) (anc:Nat→Nat→Prop) (μ:Mu) (K:Kont):List Oper→Nat→Kont
 |[],_=>K
 |_::l,k=>dOp G ops anc μ k (walk G ops anc μ K l (k+1))
theorem AnyL_lex {n g:Nat} {K:Kont} (hX:ExOk ops μ) (hsel:Region.noSelect ops=true)
  (hwait:∀ listed,HeadInv .any ops n listed→∀ i,i < n→listed.getD i true=false→∀ t∈Region.ready .any ops listed,t < n) :
  ∀ (l:List Oper) (k:Nat) (listed:Array Bool) (a:Act) (φ:Facts) (tw tr:Tag),(∀ j,j < l.length→l[j]?=ops[k+j]?)→k+l.length=n→HeadInv .any ops n listed→G.inv φ→(∃ w,G.holds φ w) →
  Region.lexHead .any ops g l.length k listed=true→walk G ops (Anc ops) μ K l k a φ tw tr →
  AnyL G ops μ n (fun listed' a' φ' tw' tr'=>Region.seqB .any ops g n listed'=true∧K a' φ' tw' tr') l.length listed a φ tw tr
 |[],k,listed,a,φ,tw,tr,_,hk,_,_,_,hB,h=>by
  have:k=n:=by simpa using hk
  subst this
  exact ⟨by simpa [Region.lexHead] using hB,h⟩
 |o::l,k,listed,a,φ,tw,tr,hl,hk,inv,hinv,hwit,hB,h=>by
  have h0:ops[k]?=some o:=by simpa using (hl 0 (by simp)).symm
  simp only [List.length_cons,Region.lexHead,Bool.and_eq_true] at hB
  obtain ⟨⟨hr,hf⟩,hB'⟩:=hB
  have hkn:k < n:=by simp only [List.length_cons] at hk;omega
  have hr':k∈Region.ready .any ops listed:=by simpa using hr
  refine AnyL_first hX h0 (Region.noSelect_spec hsel) hwait hkn (fun listed' a' φ' tw' tr' hL=>seqB_ready hL.1) l.length listed a φ tw tr inv hinv hwit (Region.free_spec h0 hf) hr' ?_
  refine dOp_mono (fun a' φ' tw' tr' h3=>?_) (dOp_wit hinv hwit h)
  exact AnyL_lex hX hsel hwait l (k+1) _ _ _ _ _ (fun j hj=>by have:=hl (j+1) (by simp;omega);simpa [Nat.add_assoc,Nat.add_comm 1 j] using this) (by simp only [List.length_cons] at hk;omega) (inv.set hr' hkn) h3.1.1 h3.1.2 hB' h3.2
def FR (r:Option Nat):Fence:={ Fence.wide with round:=r }
theorem calls_FR {r:Option Nat} {args:Array Value} {R:Ending→World→Prop} (h:Calls P f args w R):CallsIn (FR r) n P f args w R :=
 (callsIn_wide (n:=n)).2 h
def noDefer (ops:Array Oper):Bool:=ops.all fun o=>match o.op with|.defer _=>false|_=>true
theorem noDefer_spec (h:noDefer ops=true) (j:Nat) (o:Oper) (ho:ops[j]?=some o) (c:Call):o.op ≠ .defer c:=by
 intro heq
 have:=Array.all_eq_true_iff_forall_mem.1 h o (Array.mem_of_getElem? ho)
 simp [heq] at this
variable {r : Option Nat} {m : Nat} {Q : Exit → Act → World → Prop}
theorem wpOpIn_of_dOp {K:Kont} {K':Act→World→Prop} {a:Act} {φ:Facts} {tw tr:Tag} (hnd:∀ o,ops[i]?=some o→∀ c,o.op ≠ .defer c) (hinv:G.inv φ) (hw:G.holds φ w)
  (hK:∀ a φ tw tr w,K a φ tw tr→G.inv φ→G.holds φ w→K' a w) (h:dOp G ops anc μ i K a φ tw tr):wpOpIn (FR r) m G.P ops Q i K' a w:=by
 unfold dOp at h
 unfold wpOpIn
 split
 ·rename_i ho;simp only [ho] at h;exact hK _ _ _ _ _ h hinv hw
 ·rename_i o ho
  simp only [ho] at h
  have hsem:o.semAt (FR r).round a.eval=execOp a.eval o:=Oper.semAt_eq _ _ _ (hnd o ho)
  rcases h.2 with ⟨e,h1,h2,h3⟩|⟨M,h1,_,h2⟩
  ·have h4:=fun w hw=>hK _ _ _ _ w h3 (h1.inv hinv) hw
   rcases h1 with ⟨hwan,_,hc⟩|⟨hwan,rfl⟩
   ·rw [if_pos hwan]
    refine ⟨fun _ _=>trivial,?_⟩
    rw [hsem]
    have hon:=hw.on (touch o a.eval)
    cases e with
    |val v=>rw [hc w hon];exact h4 w hw
    |call f args v =>
     obtain ⟨h5,h6⟩:=hc w hon
     rw [h5]
     refine ⟨fun h=>(by cases h),CallsIn.mono (calls_FR h6) fun e w' he=>?_⟩
     obtain ⟨rfl,hb⟩:=he
     refine h4 w' ⟨hw.1.trans (hb.mono hw.1.size (by simp)),fun b o hbo=>?_⟩
     have h7:=hw.2 b o hbo
     rw [hb.block b (Array.getElem?_eq_some_iff.1 h7).1 (by simp)];exact h7
    |set b o'=>rw [hc.2.2 w hon];exact h4 _ (holds_put hinv hw hc.2.1 _)
   ·rw [if_neg (by rw [hwan];simp)]
    exact ⟨fun _ _=>trivial,h4 w hw⟩
  ·rw [if_pos h1.1]
   refine ⟨fun _ _=>trivial,?_⟩
   rw [hsem]
   rcases h1.2 with ⟨_,s,ob,h5,rfl⟩|⟨_,h5|h5⟩
   ·rw [h5 w (hw.on _)]
    obtain ⟨q1,q2,q3⟩:=holds_new hw ob
    exact hK _ _ _ _ _ (h2 _ [(_,ob)] ⟨_,rfl,rfl⟩ ⟨by simpa [keys] using ⟨.inl q1,.inl ⟨q2,q1⟩⟩,by simp⟩ ⟨_,q3⟩) (inv_upd hinv (.inl q1) _) q3
   ·obtain ⟨f,args,h6,h7,hS,hk⟩:=h5 w (hw.on _)
    rw [h6]
    refine ⟨fun h=>(by cases h),CallsIn.mono (calls_FR h7) fun e w' he=>?_⟩
    obtain ⟨v,gs,rfl,hM,hf,hw'⟩:=holds_many hw hS hk he
    exact dTAtLJ
   ·obtain ⟨v,gs,w',h6,hM,hf,hw'⟩:=holds_move hw h5
    rw [h6]
    exact dTAtLJ
theorem wpAnyIn_of_AnyL {n g:Nat} {L:Array Bool→Kont} (hnd:noDefer ops=true) (hL:∀ listed a φ tw tr w,L listed a φ tw tr→G.inv φ→G.holds φ w→wpAnyIn (FR r) m G.P .any ops Q g listed a w) :
  ∀ (f:Nat) (listed:Array Bool) (a:Act) (φ:Facts) (tw tr:Tag) (w:World),G.inv φ→G.holds φ w→AnyL G ops μ n L f listed a φ tw tr→wpAnyIn (FR r) m G.P .any ops Q (f+g) listed a w
 |0,listed,a,φ,tw,tr,w,hinv,hw,h=>by rw [Nat.zero_add];exact hL _ _ _ _ _ _ h hinv hw
 |f+1,listed,a,φ,tw,tr,w,hinv,hw,h=>by
  rw [show f+1+g=(f+g)+1 by omega]
  exact ⟨fun h0=>absurd h0 h.1,fun i hi=>wpOpIn_of_dOp (fun o ho=>noDefer_spec hnd i o ho) hinv hw (fun a φ tw tr w h hi hw=>wpAnyIn_of_AnyL hnd hL f _ a φ tw tr w hi hw h) (h.2 i hi).2⟩
theorem wpAnyIn_of_seq:∀ (l:List Oper) (k:Nat) (listed:Array Bool) (a:Act) (w:World),(∀ j,l[j]?=ops[k+j]?) →
  Region.seqB .any ops l.length k listed=true→wpListIn (FR r) m G.P ops Q l a w→wpAnyIn (FR r) m G.P .any ops Q l.length listed a w
 |[],_,_,_,_,_,hB,h=>⟨by simpa [Region.seqB] using hB,h⟩
 |o::l,k,listed,a,w,hl,hB,h=>by
  have h0:ops[k]?=some o:=by simpa using (hl 0).symm
  simp only [List.length_cons,Region.seqB,Bool.and_eq_true,decide_eq_true_eq] at hB
  refine ⟨fun h1=>(by rw [hB.1] at h1;cases h1),fun i hi=>?_⟩
  rw [hB.1] at hi
  have hik:i=k:=by simpa using hi
  subst hik
  have hw:wpOpIn (FR r) m G.P ops Q i (wpListIn (FR r) m G.P ops Q l) a w:=by unfold wpOpIn;simp only [h0];exact h
  exact wpOpIn_mono (fun a' w' h'=>wpAnyIn_of_seq l (i+1) _ a' w' (fun j=>by have:=hl (j+1);simpa [Nat.add_assoc,Nat.add_comm 1 j] using this) hB.2 h') hw
def headB (ops:Array Oper) (n:Nat):Bool :=
 Region.noSelect ops && noDefer ops && decide (n≤ops.size) && (n == ops.size ||(Region.sinkB .any ops n && Region.chainB .any ops n)) &&
  Region.lexHead .any ops (ops.size - n) n 0 (Array.replicate ops.size false)
theorem region_any {id:Nat} {a:Act} {l:List Oper} (n:Nat) (hX:ExOk l.toArray μ) (hm:G.P.follows .mixedOrders=true) (hB:headB l.toArray n=true) {φ:Facts} (hinv:G.inv φ) (hw:G.holds φ w)
  (h:walk G l.toArray (Anc l.toArray) μ (fun a' φ' _ _=>G.inv φ'→∀ w',G.holds φ' w'→wpListIn (FR r) m G.P l.toArray Q (l.drop n) a' w') (l.take n) 0 a φ (fun _ _=>False) (fun _ _=>False)) :
  (Code.region id l.toArray true).wpIn (FR r) m G.P Q a w:=by
 simp only [headB,Bool.and_eq_true,Bool.or_eq_true,decide_eq_true_eq,beq_iff_eq] at hB
 obtain ⟨⟨⟨⟨hsel,hnd⟩,hn⟩,hs⟩,hlex⟩:=hB
 have hn':n≤l.length:=by simpa using hn
 have htl:(l.take n).length=n:=by simp;omega
 have hdl:(l.drop n).length=l.toArray.size - n:=by simp
 have inv0:HeadInv .any l.toArray n (Array.replicate l.toArray.size false) :=
  ⟨by simp,fun j oj _ hl=>(by rw [getD_replicate_false] at hl;cases hl),fun t _ ht=>getD_in (by simpa using ht) (getD_replicate_false _ _)⟩
 have hwait:∀ listed,HeadInv .any l.toArray n listed→∀ i,i < n→listed.getD i true=false→∀ t∈Region.ready .any l.toArray listed,t < n:=by
  intro listed inv i hi hun t ht
  have hts:t < l.toArray.size:=by obtain ⟨_,o,ho,_⟩:=mem_ready.1 ht;exact (Array.getElem?_eq_some_iff.1 ho).1
  rcases hs with hs|⟨hs,hc⟩
  ·omega
  ·rcases Nat.lt_or_ge n l.toArray.size with hlt|hge
   ·rcases Nat.lt_or_ge t n with h|h
    ·exact h
    ·exact absurd ht (tail_waits hs hc hlt inv _ i rfl hi hun t h)
   ·omega
 have hw1:G.holds φ { w with drawn:=w.drawn+1 }:=⟨hw.1.drew,hw.2⟩
 have H:=AnyL_lex (G:=G) (g:=l.toArray.size - n) hX hsel hwait (l.take n) 0 _ a φ _ _ (fun j hj=>by
  have hj':j < n:=by rw [htl] at hj;exact hj
  simp [hj']) (by simpa using htl) inv0 hinv ⟨_,hw1⟩ (by rw [htl];exact hlex) h
 refine wpIn_region_any hm ?_
 have:=wpAnyIn_of_AnyL (r:=r) (m:=m) (Q:=Q) (g:=l.toArray.size - n) hnd (fun listed a' φ' tw' tr' w' hL hi' hw'=>by
  have:=wpAnyIn_of_seq (G:=G) (r:=r) (m:=m) (Q:=Q) (l.drop n) n listed a' w' (fun j=>by simp [List.getElem?_drop]) (by rw [hdl];exact hL.1) (hL.2 hi' w' hw')
  rwa [hdl] at this) _ _ _ _ _ _ _ hinv hw1 H
 rw [htl,show n+(l.toArray.size - n)=l.toArray.size by omega] at this
 exact this
end
variable {φ : Facts} {M : Rel1}
section
theorem dTAAdS {P:Prop} (h:P:=by
 induction h with
 |head=>exact List.mem_cons_self
 |tail _ ih=>exact List.mem_cons_of_mem _ ih
 |app _ ih=>exact List.mem_append_right _ ih):P:=h
abbrev Env:=List (Nat × Value)
abbrev Fs:=List (Nat × Obj)
def Env.get:Env→Nat→Option Value
 |[],_=>none
 |(k,v)::r,t=>match Nat.beq k t with|true=>some v|false=>Env.get r t
def Env.ev (e:Env):Operand→Option Value
 |.tmp t=>e.get t
 |.const v=>some v
 |.global g=>some (.pointer (some ⟨g,0,none⟩))
 |.func f=>some (.func (.func f) #[] #[])
structure EnvOk (N:Nat) (ds:List Deferred) (e:Env) (a:Act):Prop where
 size:a.tmps.size=N
 dfr:a.defers=ds
 get:∀ t v,e.get t=some v→a.tmps[t]?=some v
theorem EnvOk.ev {N:Nat} {e:Env} (h:EnvOk N ds e a) {x:Operand} {v:Value} (hx:e.ev x=some v):a.eval x=v:=by
 cases x with
 |tmp t=>simp [Act.eval,h.get t v hx]
 |const c=>simpa [Env.ev,Act.eval] using hx
 |global g=>simpa [Env.ev,Act.eval] using hx
 |func f=>simpa [Env.ev,Act.eval] using hx
theorem EnvOk.put {N:Nat} {e:Env} (h:EnvOk N ds e a) {d:Nat} {v:Value} (hd:Nat.blt d N=true):EnvOk N ds ((d,v)::e) (a.put (some d) v):=by
 have hd':d < a.tmps.size:=by rw [h.size];simpa [Nat.blt_eq] using hd
 refine ⟨by simp [Act.put,h.size],h.dfr,fun t u ht=>?_⟩
 simp only [Env.get] at ht
 simp only [Act.put]
 split at ht
 ·rename_i hb
  have:=Nat.eq_of_beq_eq_true hb
  subst this
  cases ht
  simp [hd']
 ·rename_i hb
  have hne:d ≠ t:=fun e=>by subst e;simp at hb
  rw [Array.getElem?_setIfInBounds_ne hne]
  exact h.get t u ht
theorem EnvOk.putNone {N:Nat} {e:Env} (h:EnvOk N ds e a) {v:Value}:EnvOk N ds e (a.put none v):=h
theorem EnvOk.sub {N:Nat} {e e':Env} (h:EnvOk N ds e a) (hs:∀ t v,e'.get t=some v→e.get t=some v):EnvOk N ds e' a :=
 ⟨h.size,h.dfr,fun t v ht=>h.get t v (hs t v ht)⟩
def Env.le (e:Env):Env→Prop
 |[]=>True
 |(k,v)::r=>e.get k=some v∧Env.le e r
theorem Env.le_get {e:Env}:∀ {e':Env},e.le e'→∀ t v,e'.get t=some v→e.get t=some v
 |[],_,t,v,h=>by simp [Env.get] at h
 |(k,u)::r,hl,t,v,h=>by
  simp only [Env.get] at h
  split at h
  ·rename_i hb;have:=Nat.eq_of_beq_eq_true hb;subst this;cases h;exact hl.1
  ·exact Env.le_get hl.2 t v h
structure St (w0:World) (S:List Nat) (fs:Fs) (w:World):Prop where
 bel:Bel w0.heap.size S w0 w
 own:∀ p∈fs,(w0.heap.size≤p.1∨p.1∈S)∧w.heap[p.1]?=some p.2
 nd:fs.Pairwise fun p q=>p.1 ≠ q.1
structure Cu where
 P:Program
 w0:World
 S:List Nat
 N:Nat
 ds:List Deferred
 r:Option Nat
def Cu.cx (C:Cu):Cx:=⟨C.P,C.w0,C.S⟩
def Cu.at (C:Cu) (ds:List Deferred):Cu:=⟨C.P,C.w0,C.S,C.N,ds,C.r⟩
structure Sat (C:Cu) (e:Env) (fs:Fs) (a:Act) (w:World):Prop where
 env:EnvOk C.N C.ds e a
 st:St C.w0 C.S fs w
abbrev Post:=Exit→List Deferred→Env→Fs→Prop
def down (C:Cu) (Q:Post):Exit→Act→World→Prop:=fun x a w=>∃ ds e fs,Q x ds e fs∧Sat (C.at ds) e fs a w
def CW (C:Cu) (c:Code) (Q:Post) (e:Env) (fs:Fs):Prop:=∀ a w,Sat C e fs a w→c.wpIn (FR C.r) 0 C.P (down C Q) a w
def LW (C:Cu) (ops:Array Oper) (Q:Post) (l:List Oper) (e:Env) (fs:Fs):Prop:=∀ a w,Sat C e fs a w→wpListIn (FR C.r) 0 C.P ops (down C Q) l a w
def thenQ (K:List Deferred→Env→Fs→Prop) (Q:Post):Post
 |.normal,ds,e,fs=>K ds e fs
 |x,ds,e,fs=>Q x ds e fs
def thenC (C:Cu) (y:Code) (Q:Post):List Deferred→Env→Fs→Prop:=fun ds e fs=>CW (C.at ds) y Q e fs
def blkQ (id:Nat) (Q:Post):Post
 |.exit k,ds,e,fs=>match Nat.beq k id with|true=>Q .normal ds e fs|false=>Q (.exit k) ds e fs
 |x,ds,e,fs=>Q x ds e fs
theorem fs_sub {C:Cu} {e e':Env} {fs fs':Fs} (h:Sat C e fs a w) (he:e.le e') (hf:List.Sublist fs' fs):Sat C e' fs' a w :=
 ⟨h.env.sub (Env.le_get he),h.st.bel,fun p hp=>h.st.own p (hf.subset hp),h.st.nd.sublist hf⟩
theorem CW.seq {C:Cu} {x y:Code} {Q:Post} {e:Env} {fs:Fs} (h:CW C x (thenQ (thenC C y Q) Q) e fs):CW C (.seq x y) Q e fs :=
 fun a w hs=>wpIn_seq (Code.wpIn_mono (fun x a w ⟨ds,e,fs,q,s⟩=>by
  cases x with
  |normal=>exact q a w s
  |_=>exact ⟨ds,e,fs,q,s⟩) (h a w hs))
theorem CW.skip {C:Cu} {Q:Post} {e:Env} {fs:Fs} (h:Q .normal C.ds e fs):CW C .skip Q e fs:=fun _ _ hs=>wpIn_skip ⟨C.ds,e,fs,h,hs⟩
theorem CW.label {C:Cu} {l:Nat} {Q:Post} {e:Env} {fs:Fs} (h:Q .normal C.ds e fs):CW C (.label l) Q e fs:=fun _ _ hs=>wpIn_label ⟨C.ds,e,fs,h,hs⟩
theorem CW.ret {C:Cu} {Q:Post} {e:Env} {fs:Fs} (h:Q .ret C.ds e fs):CW C .ret Q e fs:=fun _ _ hs=>wpIn_ret ⟨C.ds,e,fs,h,hs⟩
theorem CW.exit {C:Cu} {Q:Post} {e:Env} {fs:Fs} (h:Q (.exit id) C.ds e fs):CW C (.exit id) Q e fs:=fun _ _ hs=>wpIn_exit ⟨C.ds,e,fs,h,hs⟩
theorem CW.block {C:Cu} {c:Code} {Q:Post} {e:Env} {fs:Fs} (h:CW C c (blkQ id Q) e fs):CW C (.block id c) Q e fs :=
 fun a w hs=>wpIn_block (Code.wpIn_mono (fun x a w ⟨ds,e,fs,q,s⟩=>by
  cases x with
  |exit k =>
   simp only [Exit.inBlock]
   simp only [blkQ] at q
   split at q
   ·rename_i hb;rw [if_pos (Nat.eq_of_beq_eq_true hb)];exact ⟨ds,e,fs,q,s⟩
   ·rename_i hb;rw [if_neg (fun e=>by subst e;simp at hb)];exact ⟨ds,e,fs,q,s⟩
  |_=>exact ⟨ds,e,fs,q,s⟩) (h a w hs))
theorem CW.cond {C:Cu} {c:Operand} {x y:Code} {Q:Post} {e:Env} {fs:Fs} {b:Bool} (hc:e.ev c=some (.bool b)) (ht:b=true→CW C x Q e fs) (hf:b=false→CW C y Q e fs) :
  CW C (.cond c x y) Q e fs :=
 fun a w hs=>wpIn_cond_split (hs.env.ev hc) (fun hb=>ht hb a w hs) (fun hb=>hf hb a w hs)
theorem CW.condT {C:Cu} {c:Operand} {x y:Code} {Q:Post} {e:Env} {fs:Fs} {b:Bool} (hc:e.ev c=some (.bool b)) (hb:b=true) (ht:CW C x Q e fs):CW C (.cond c x y) Q e fs :=
 CW.cond hc (fun _=>ht) (fun h=>by rw [hb] at h;cases h)
theorem CW.condF {C:Cu} {c:Operand} {x y:Code} {Q:Post} {e:Env} {fs:Fs} {b:Bool} (hc:e.ev c=some (.bool b)) (hb:b=false) (hf:CW C y Q e fs):CW C (.cond c x y) Q e fs :=
 CW.cond hc (fun h=>by rw [hb] at h;cases h) (fun _=>hf)
theorem CW.loop {C:Cu} {c:Code} {Q:Post} {e:Env} {fs:Fs} {α:Type} (st:α→Env × Fs) (inv:α→Prop) (μ:α→Nat) (x0:α) (h0:inv x0) (he:e.le (st x0).1) (hf:List.Sublist (st x0).2 fs)
  (round:∀ x,inv x→CW C c (thenQ (fun ds e fs=>ds=C.ds∧∃ x',inv x'∧μ x' < μ x∧e.le (st x').1∧List.Sublist (st x').2 fs) Q) (st x).1 (st x).2):CW C (.loop c) Q e fs:=by
 intro a w hs
 have key:∀ n x,μ x < n→inv x→∀ a w,Sat C (st x).1 (st x).2 a w→Code.roundsIn (FR C.r) 0 C.P c (down C Q) n a w:=by
  intro n
  induction n with
  |zero=>intro x hn;omega
  |succ n ih =>
   intro x hn hx a w hs
   rw [roundsIn_succ]
   refine Code.wpIn_mono (fun y a w ⟨ds,e,fs,q,s⟩=>?_) (round x hx a w hs)
   cases y with
   |normal =>
    obtain ⟨rfl,x',h1,h2,h3,h4⟩:=q
    exact ih x' (by omega) h1 a w (fs_sub s h3 h4)
   |_=>exact ⟨ds,e,fs,q,s⟩
 exact wpIn_loop_rounds (μ x0+1) (key _ x0 (by omega) h0 a w (fs_sub hs he hf))
theorem CW.region {C:Cu} {l:List Oper} {Q:Post} {e:Env} {fs:Fs} (h:LW C l.toArray Q l e fs):CW C (.region id l.toArray false) Q e fs :=
 fun a w hs=>wpIn_region_lit (h a w hs)
section rows
variable {C : Cu} {ops : Array Oper} {Q : Post} {rest : List Oper} {e : Env} {fs : Fs} {dst : Option Tmp} {d : Nat} {op : Op} {t : TypeId} {pos : String} {af : Array Edge}
theorem LW.nil (h:Q .normal C.ds e fs):LW C ops Q [] e fs:=fun _ _ hs=>wpListIn_nil ⟨C.ds,e,fs,h,hs⟩
theorem LW.weak (e':Env) (fs':Fs) {l:List Oper} (he:e.le e') (hf:List.Sublist fs' fs) (h:LW C ops Q l e' fs'):LW C ops Q l e fs :=
 fun a w hs=>h a w (fs_sub hs he hf)
theorem wpListIn_take {F:Fence} {n:Nat} {P:Program} {Q:Exit→Act→World→Prop} {o:Oper} {w:World} (hw:Region.wanted o (yielded ops a.tmps)=true)
  (h:o.wpIn F n P a w (wpListIn F n P ops Q rest) Q):wpListIn F n P ops Q (o::rest) a w:=by
 simp only [wpListIn,hw,if_true];exact h
theorem wanted_none (o:Oper) (h:o.guard=none) (f:Nat→Option Bool):Region.wanted o f=true:=by simp [Region.wanted,h]
theorem LW.guardT {s:Nat} {g:Bool} (hs:(ops[j]?).bind (·.dst)=some s) (he:e.get s=some (.bool g)) (h:LW C ops Q (⟨dst,op,t,pos,af,none⟩::rest) e fs) :
  LW C ops Q (⟨dst,op,t,pos,af,some (j,g)⟩::rest) e fs:=by
 intro a w hst
 have hy:yielded ops a.tmps j=some g:=by simp [yielded,hs,hst.env.get s _ he]
 refine wpListIn_take (by simp [Region.wanted,hy]) ?_
 have h1:=h a w hst
 unfold wpListIn at h1
 rw [if_pos (wanted_none _ rfl _)] at h1
 exact h1
theorem LW.guardF {s:Nat} {g:Bool} (hs:(ops[j]?).bind (·.dst)=some s) (he:e.get s=some (.bool (!g))) (hd:Nat.blt d C.N=true) (h:LW C ops Q rest ((d,undef)::e) fs) :
  LW C ops Q (⟨some d,op,t,pos,af,some (j,g)⟩::rest) e fs:=by
 intro a w hst
 have h1:=h _ w ⟨hst.env.put (v:=undef) hd,hst.st⟩
 have hy:yielded ops a.tmps j=some (!g):=by simp [yielded,hs,hst.env.get s _ he]
 unfold wpListIn
 rw [if_neg (by cases g<;>simp [Region.wanted,hy])]
 exact ⟨fun _ _=>trivial,h1⟩
theorem semAt_FR {r:Option Nat} {o:Oper} {ρ:Operand→Value} (hnd:∀ c,o.op ≠ .defer c):o.semAt (FR r).round ρ=execOp ρ o:=Oper.semAt_eq _ _ _ hnd
theorem LW.val {v:Value} (hd:Nat.blt d C.N=true) (hnd:∀ c,op ≠ .defer c)
  (h:∀ a w,Sat C e fs a w→(execOp a.eval ⟨some d,op,t,pos,af,none⟩).run C.P w=.ok (.value v) w) (k:LW C ops Q rest ((d,v)::e) fs) :
  LW C ops Q (⟨some d,op,t,pos,af,none⟩::rest) e fs:=fun a w hs=>by
 refine wpListIn_take (wanted_none _ rfl _) ⟨fun _ _=>trivial,?_⟩
 rw [semAt_FR hnd,h a w hs]
 exact k _ w ⟨hs.env.put hd,hs.st⟩
theorem Sat.alloc (hs:Sat C e fs a w) (ob:Obj):St C.w0 C.S ((w.heap.size,ob)::fs) (w.alloc ob):=by
 refine ⟨hs.st.bel.alloc hs.st.bel.size _,fun p hp=>?_,List.pairwise_cons.2 ⟨fun p hp he=>?_,hs.st.nd⟩⟩
 ·rcases List.mem_cons.1 hp with rfl|hp
  ·exact ⟨.inl hs.st.bel.size,World.alloc_heap_new w ob⟩
  ·obtain ⟨h1,h2⟩:=hs.st.own p hp
   exact ⟨h1,by rw [Below.heap_alloc _ _ _ (Array.getElem?_eq_some_iff.1 h2).1];exact h2⟩
 ·obtain ⟨_,h2⟩:=hs.st.own p hp
  have:=(Array.getElem?_eq_some_iff.1 h2).1
  have he':w.heap.size=p.1:=he
  omega
theorem LW.new {s:Sh} {ob:Obj} (hd:Nat.blt d C.N=true) (hnd:∀ c,op ≠ .defer c)
  (h:∀ a w,Sat C e fs a w→(execOp a.eval ⟨some d,op,t,pos,af,none⟩).run C.P w=.ok (.value (s.val w.heap.size)) (w.alloc ob))
  (k:∀ b,LW C ops Q rest ((d,s.val b)::e) ((b,ob)::fs)):LW C ops Q (⟨some d,op,t,pos,af,none⟩::rest) e fs:=fun a w hs=>by
 refine wpListIn_take (wanted_none _ rfl _) ⟨fun _ _=>trivial,?_⟩
 rw [semAt_FR hnd,h a w hs]
 exact k _ _ _ ⟨hs.env.put hd,hs.alloc ob⟩
inductive SetAt:Fs→Nat→Obj→Obj→Fs→Prop
 |head {b:Nat} {o o':Obj} {r:Fs}:SetAt ((b,o)::r) b o o' ((b,o')::r)
 |tail {p:Nat × Obj} {b:Nat} {o o':Obj} {r r':Fs} (h:SetAt r b o o' r'):SetAt (p::r) b o o' (p::r')
 |app {s:Fs} {b:Nat} {o o':Obj} {r r':Fs} (h:SetAt r b o o' r'):SetAt (s++r) b o o' (s++r')
theorem SetAt.mem {fs fs':Fs} (h:SetAt fs b o o' fs'):(b,o)∈fs:=by
 exact dTAAdS
theorem SetAt.fsts {fs fs':Fs} (h:SetAt fs b o o' fs'):fs'.map Prod.fst=fs.map Prod.fst:=by
 induction h with
 |head=>rfl
 |tail _ ih=>simp [ih]
 |app _ ih=>simp [ih]
theorem SetAt.inv {fs fs':Fs} (h:SetAt fs b o o' fs') (hn:fs.Pairwise fun p q=>p.1 ≠ q.1):∀ p∈fs',p=(b,o')∨(p∈fs∧p.1 ≠ b):=by
 induction h with
 |head =>
  intro p hp
  rcases List.mem_cons.1 hp with rfl|hp
  ·exact .inl rfl
  ·exact .inr ⟨List.mem_cons_of_mem _ hp,fun e=>(List.pairwise_cons.1 hn).1 p hp e.symm⟩
 |tail h ih =>
  intro p hp
  obtain ⟨h1,h2⟩:=List.pairwise_cons.1 hn
  rcases List.mem_cons.1 hp with rfl|hp
  ·exact .inr ⟨List.mem_cons_self,h1 _ h.mem⟩
  ·rcases ih h2 p hp with h|h
   ·exact .inl h
   ·exact .inr ⟨List.mem_cons_of_mem _ h.1,h.2⟩
 |app h ih =>
  intro p hp
  obtain ⟨h1,h2,h3⟩:=List.pairwise_append.1 hn
  rcases List.mem_append.1 hp with hp|hp
  ·exact .inr ⟨List.mem_append_left _ hp,h3 _ hp _ h.mem⟩
  ·rcases ih h2 p hp with h|h
   ·exact .inl h
   ·exact .inr ⟨List.mem_append_right _ h.1,h.2⟩
theorem pairwise_fst {fs:Fs}:(fs.Pairwise fun p q=>p.1 ≠ q.1)↔(fs.map Prod.fst).Pairwise (· ≠ ·):=by
 rw [List.pairwise_map]
theorem St.set {fs fs':Fs} (h:St w0 S fs w) (hs:SetAt fs b o o' fs'):St w0 S fs' (w.putObj b o'):=by
 obtain ⟨hb1,hb2⟩:=h.own _ hs.mem
 refine ⟨h.bel.put hb1 _,fun p hp=>?_,?_⟩
 ·rcases hs.inv h.nd p hp with rfl|⟨hp,hne⟩
  ·exact ⟨hb1,World.putObj_heap_same (Array.getElem?_eq_some_iff.1 hb2).1⟩
  ·obtain ⟨h1,h2⟩:=h.own p hp
   exact ⟨h1,by rw [World.putObj_heap_other hne];exact h2⟩
 ·rw [pairwise_fst,hs.fsts,← pairwise_fst];exact h.nd
theorem LW.set {fs':Fs} (hnd:∀ c,op ≠ .defer c) (hset:SetAt fs b o o' fs')
  (h:∀ a w,Sat C e fs a w→w.heap[b]?=some o→(execOp a.eval ⟨none,op,t,pos,af,none⟩).run C.P w=.ok .skip (w.putObj b o')) (k:LW C ops Q rest e fs') :
  LW C ops Q (⟨none,op,t,pos,af,none⟩::rest) e fs:=fun a w hs=>by
 refine wpListIn_take (wanted_none _ rfl _) ⟨fun _ _=>trivial,?_⟩
 rw [semAt_FR hnd,h a w hs (hs.st.own _ hset.mem).2]
 exact k _ _ ⟨hs.env.putNone,hs.st.set hset⟩
theorem RetG.of_ret {e:Ending} {w':World} (h:Ret w v e w'):RetG w [] (fun u gs=>u=v∧gs=[]) e w':=⟨v,[],h.1,⟨rfl,rfl⟩,h.2,by simp,.nil⟩
theorem St.call {fs gs:Fs} {w':World} (h:St w0 S fs w) (hb:Bel w.heap.size [] w w') (hg:∀ p∈gs,(w.heap.size≤p.1∨p.1∈([]:List Nat))∧w'.heap[p.1]?=some p.2) (hn:gs.Pairwise fun p q=>p.1 ≠ q.1) :
  St w0 S (gs++fs) w':=by
 have hlt:∀ p∈fs,p.1 < w.heap.size:=fun p hp=>(Array.getElem?_eq_some_iff.1 (h.own p hp).2).1
 refine ⟨h.bel.trans (hb.mono h.bel.size (by simp)),fun p hp=>?_,List.pairwise_append.2 ⟨hn,h.nd,fun p hp q hq he=>?_⟩⟩
 ·rcases List.mem_append.1 hp with hp|hp
  ·obtain ⟨h1,h2⟩:=hg p hp
   exact ⟨.inl (Nat.le_trans h.bel.size (by simpa using h1)),h2⟩
  ·obtain ⟨h1,h2⟩:=h.own p hp
   exact ⟨h1,by rw [hb.block _ (hlt p hp) (by simp)];exact h2⟩
 ·have h1:=(hg p hp).1
  have h2:=hlt q hq
  simp at h1
  omega
theorem LW.callG {f:FuncId} {vs:Array Value} {Φ:Value→Fs→Prop} (hd:Nat.blt d C.N=true) (hnd:∀ c,op ≠ .defer c)
  (h:∀ a w,Sat C e fs a w→(execOp a.eval ⟨some d,op,t,pos,af,none⟩).run C.P w=.ok (.enter f vs) w)
  (hc:∀ w,St C.w0 C.S fs w→Calls C.P f vs w (RetG w [] Φ)) (k:∀ v gs,Φ v gs→LW C ops Q rest ((d,v)::e) (gs++fs)) :
  LW C ops Q (⟨some d,op,t,pos,af,none⟩::rest) e fs:=fun a w hs=>by
 refine wpListIn_take (wanted_none _ rfl _) ⟨fun _ _=>trivial,?_⟩
 rw [semAt_FR hnd,h a w hs]
 refine ⟨fun h=>(by cases h),CallsIn.mono (calls_FR (hc w hs.st)) fun x w' hx=>?_⟩
 obtain ⟨v,gs,rfl,hΦ,hb,hg,hn⟩:=hx
 exact k v gs hΦ _ _ ⟨hs.env.put hd,hs.st.call hb hg hn⟩
end rows
end
variable {fs fs' seg : Fs} {e : Env} {C : Cu} {Q Q' : Post}
section
class UnI (P:Program) (T:TypeId) (d:outParam TypeDesc):Prop where
 un:P.underlying T=some d
class InfoI (P:Program) (T:TypeId) (n:outParam Nat) (z:outParam Value):Prop where
 info:(P.info? T).map (fun i=>(i.size,i.zero))=some (n,some z)
class FnI (P:Program) (f:FuncId):Prop where
 run:∀ args w,(callFunc f args).run P w=.ok (.enter f args) w
theorem FnI.mk' {fn : Func} (h1 : P.funcs[f]? = some fn) (h2 : (fn.name == "runtime.NumGoroutine") = false := by kernel_rfl) (h3 : fn.body.isNone = false := by kernel_rfl) : FnI P f :=
 ⟨fun args w=>by
  unfold callFunc
  rw [Sem.run_bind,run_program]
  simp only [Result.andThen_ok,h1,h2,h3,Bool.false_eq_true,if_false]
  rfl⟩
section
variable {P : Program}
theorem run_un {d:TypeDesc} [h:UnI P T d] (w:World):(underlying T).run P w=.ok d w:=run_underlying h.un w
theorem info_of [h:InfoI P T n z]:∃ i,P.info? T=some i∧i.size=n∧i.zero=some z:=by
 have:=h.info
 cases hq:P.info? T with
 |none=>simp [hq] at this
 |some i=>simp [hq] at this;exact ⟨i,rfl,this.1,this.2⟩
theorem run_size [InfoI P T n z] (w:World):(sizeOf T).run P w=.ok n w:=by
 obtain ⟨i,h1,h2,_⟩:=info_of (P:=P) (T:=T)
 simp [sizeOf,typeInfo,Sem.run_bind,h1,h2]
theorem run_zero [InfoI P T n z] (w:World):(zeroValue T).run P w=.ok z w:=by
 obtain ⟨i,h1,_,h3⟩:=info_of (P:=P) (T:=T)
 simp [zeroValue,typeInfo,Sem.run_bind,h1,h3]
def isAggD:TypeDesc→Bool
 |.struct _|.array _ _=>true
 |_=>false
class AgI (P:Program) (T:TypeId) (b:outParam Bool):Prop where
 ag:(P.underlying T).map isAggD=some b
class FldI (P:Program) (T:TypeId) (i:Nat) (off:outParam Nat) (ft:outParam TypeId):Prop where
 fld:∃ fs f,P.underlying T=some (.struct fs)∧fs[i]?=some f∧f.offset=off∧f.type=ft
def fldOf (P:Program) (T:TypeId) (i:Nat):Option (Nat × TypeId) :=
 match P.underlying T with
 |some (.struct fs)=>(fs[i]?).map fun f=>(f.offset,f.type)
 |_=>none
theorem FldI.mk' {T ft:Nat} (h:fldOf P T i=some (off,ft)):FldI P T i off ft:=⟨by
 unfold fldOf at h
 split at h
 ·rename_i fs hu
  cases hf:fs[i]? with
  |none=>simp [hf] at h
  |some f=>simp [hf] at h;exact ⟨fs,f,hu,hf,h.1,h.2⟩
 ·cases h⟩
theorem run_isAgg {b:Bool} [h:AgI P T b] (w:World):(isAgg T).run P w=.ok b w:=by
 have h1:=h.ag
 cases hu:P.underlying T with
 |none=>simp [hu] at h1
 |some d =>
  simp only [hu,Option.map_some,Option.some.injEq] at h1
  subst h1
  unfold isAgg
  rw [Sem.run_bind,run_underlying hu w]
  cases d<;>rfl
theorem cell_of {c:Array Value} (h:w.heap[b]?=some (.cells c E fr)):w.cell? ⟨b,off,none⟩=c[off]?:=by
 simp [World.cell?,h]
theorem addr_add (b off i:Nat):(⟨b,off,none⟩:Addr).add i=⟨b,off+i,none⟩:=by
 unfold Addr.add;split<;>simp_all
def Rd (P:Program) (T:TypeId) (o:Obj) (off:Nat) (v:Value):Prop:=∀ w b,w.heap[b]?=some o→(loadVar T ⟨b,off,none⟩).run P w=.ok v w
theorem run_loadVar_one [AgI P T false] {w:World} {a:Addr} {v:Value} (h:w.cell? a=some v):(loadVar T a).run P w=.ok v w:=by
 simp [loadVar,Sem.run_bind,run_isAgg,h]
theorem run_loadVar_agg [AgI P T true] [InfoI P T n z] {w:World} {a:Addr} {cs:List Value} (hn:cs.length=n)
  (h:∀ j v,cs[j]?=some v→w.cell? (a.add j)=some v):(loadVar T a).run P w=.ok (.agg cs.toArray) w:=by
 have h1:=run_loadCells_list (P:=P) w a cs h
 rw [hn] at h1
 simp [loadVar,Sem.run_bind,run_isAgg,run_size,h1]
theorem Rd.one [AgI P T false] {c:Array Value} {E:TypeId} {fr:Nat × Nat} {off:Nat} {v:Value} (h:c[off]?=some v):Rd P T (.cells c E fr) off v :=
 fun w b hb=>run_loadVar_one (by rw [cell_of hb];exact h)
def nth:List Value→Nat→Option Value
 |[],_=>none
 |v::_,0=>some v
 |_::r,n+1=>nth r n
theorem nth_eq:∀ (l:List Value) (n:Nat),nth l n=l[n]?
 |[],_=>by simp [nth]
 |v::r,0=>by simp [nth]
 |v::r,n+1=>by simp [nth,nth_eq r n]
theorem Rd.one' [AgI P T false] {l:List Value} {E:TypeId} {fr:Nat × Nat} {off:Nat} {v:Value} (h:nth l off=some v):Rd P T (.cells l.toArray E fr) off v :=
 Rd.one (by rw [nth_eq] at h;simpa using h)
theorem Rd.whole [AgI P T true] [InfoI P T n z] {c:Array Value} {E:TypeId} {fr:Nat × Nat} (h:c.size=n):Rd P T (.cells c E fr) 0 (.agg c) :=
 fun w b hb=>by
  have:=run_loadVar_agg (P:=P) (T:=T) (w:=w) (a:=⟨b,0,none⟩) (cs:=c.toList) (by simpa using h) (fun j v hv=>by rw [addr_add,cell_of hb];simpa using hv)
  simpa using this
theorem Rd.part [AgI P T true] [InfoI P T n z] {c:Array Value} {E:TypeId} {fr:Nat × Nat} {off:Nat} {cs:List Value} (hn:cs.length=n)
  (h:∀ j v,cs[j]?=some v→c[off+j]?=some v):Rd P T (.cells c E fr) off (.agg cs.toArray) :=
 fun w b hb=>run_loadVar_agg hn (fun j v hv=>by rw [addr_add,cell_of hb];exact h j v hv)
def wrCells (c:Array Value) (off:Nat):List Value→Array Value
 |[]=>c
 |v::r=>wrCells (c.setIfInBounds off v) (off+1) r
theorem setCell_putObj {c:Array Value} (h:w.heap[b]?=some (.cells c E fr)):w.setCell ⟨b,off,none⟩ v=w.putObj b (.cells (c.setIfInBounds off v) E fr):=by
 unfold World.setCell World.putObj
 have hlt:=(Array.getElem?_eq_some_iff.1 h).1
 congr 1
 apply Array.ext_getElem?
 intro i
 by_cases hi:b=i
 ·subst hi;rw [Array.getElem?_modify,if_pos rfl,h];simp [hlt]
 ·simp [Array.getElem?_modify,hi]
theorem putObj_putObj (w:World) (b:Nat) (o o':Obj):(w.putObj b o).putObj b o'=w.putObj b o':=by
 simp [World.putObj]
theorem run_storeCells:∀ (vs:List Value) (w:World) (b off i:Nat) (c:Array Value) (E:TypeId),w.heap[b]?=some (.cells c E (0,0))→off+i+vs.length≤c.size→(∀ v∈vs,v.oneCell'=true) →
  (storeCells ⟨b,off,none⟩ vs i).run P w=.ok () (w.putObj b (.cells (wrCells c (off+i) vs) E (0,0)))
 |[],w,b,off,i,c,E,hb,_,_=>by
  have:w.putObj b (.cells c E (0,0))=w:=by
   unfold World.putObj
   congr 1
   apply Array.ext_getElem?
   intro k
   have hlt:=(Array.getElem?_eq_some_iff.1 hb).1
   by_cases hk:b=k
   ·subst hk;rw [hb];simp [hlt]
   ·simp [hk]
  simp [storeCells,wrCells,this]
 |v::r,w,b,off,i,c,E,hb,hlen,hone=>by
  simp only [List.length_cons] at hlen
  have hcell:w.cell? ⟨b,off+i,none⟩=some c[off+i]:=by rw [cell_of hb];exact Array.getElem?_eq_getElem (by omega)
  have hfr:w.frozen? ⟨b,off+i,none⟩=false:=by simp [World.frozen?,hb]
  have hlt:=(Array.getElem?_eq_some_iff.1 hb).1
  simp only [storeCells,Sem.run_bind,addr_add]
  rw [run_store P w _ v .plain (hone v (by simp))]
  simp only [hcell,hfr,Bool.false_eq_true,if_false,Result.andThen_ok]
  rw [setCell_putObj hb]
  have:=run_storeCells r (w.putObj b (.cells (c.setIfInBounds (off+i) v) E (0,0))) b off (i+1) (c.setIfInBounds (off+i) v) E (World.putObj_heap_same hlt) (by simp;omega) (fun u hu=>hone u (by simp [hu]))
  rw [this,putObj_putObj]
  rfl
def Wr (P:Program) (T:TypeId) (o:Obj) (off:Nat) (v:Value) (o':Obj):Prop:=∀ w b,w.heap[b]?=some o→(storeVar T ⟨b,off,none⟩ v).run P w=.ok () (w.putObj b o')
theorem Wr.cells [InfoI P T n z] {c c':Array Value} {E:TypeId} {off:Nat} {v:Value} (hn:v.cells.size=n) (hone:v.cells.toList.all Value.oneCell'=true) (hl:off+n≤c.size) (hc:wrCells c off v.cells.toList=c') :
  Wr P T (.cells c E (0,0)) off v (.cells c' E (0,0)):=fun w b hb=>by
 have h1:=run_storeCells (P:=P) v.cells.toList w b off 0 c E hb (by simpa [hn] using hl) (fun v hv=>List.all_eq_true.1 hone v hv)
 simp only [Nat.add_zero,hc] at h1
 simp [storeVar,Sem.run_bind,run_size,hn,h1]
def Ev (e:Env) (ρ:Operand→Value):Prop:=∀ x v,e.ev x=some v→ρ x=v
theorem EnvOk.Ev {N:Nat} (h:EnvOk N ds e a):Ev e a.eval:=fun _ _ hx=>h.ev hx
def ValP (P:Program) (e:Env) (u:Fs) (op:Op) (v:Value):Prop :=
 ∀ ρ w,Ev e ρ→(∀ p∈u,w.heap[p.1]?=some p.2)→∀ d t pos af g,(execOp ρ ⟨d,op,t,pos,af,g⟩).run P w=.ok (.value v) w
def NewP (P:Program) (e:Env) (op:Op) (s:Sh) (ob:Obj):Prop :=
 ∀ ρ w,Ev e ρ→∀ d t pos af g,(execOp ρ ⟨d,op,t,pos,af,g⟩).run P w=.ok (.value (s.val w.heap.size)) (w.alloc ob)
def SetP (P:Program) (e:Env) (op:Op) (b:Nat) (o o':Obj):Prop :=
 ∀ ρ w,Ev e ρ→w.heap[b]?=some o→∀ d t pos af g,(execOp ρ ⟨d,op,t,pos,af,g⟩).run P w=.ok .skip (w.putObj b o')
def CallP (P:Program) (e:Env) (op:Op) (f:FuncId) (vs:Array Value):Prop :=
 ∀ ρ w,Ev e ρ→∀ d t pos af g,(execOp ρ ⟨d,op,t,pos,af,g⟩).run P w=.ok (.enter f vs) w
inductive ArgsOk (e:Env):List Operand→List Value→Prop
 |nil:ArgsOk e [] []
 |cons {x:Operand} {v:Value} {l:List Operand} {vs:List Value} (h:e.ev x=some v) (hs:ArgsOk e l vs):ArgsOk e (x::l) (v::vs)
theorem ArgsOk.map {l:List Operand} (h:ArgsOk e l vs) {ρ:Operand→Value} (hρ:Ev e ρ):l.map ρ=vs:=by
 induction h with
 |nil=>rfl
 |cons h _ ih=>simp [hρ _ _ h,ih]
theorem ArgsOk.arr {l:Array Operand} (h:ArgsOk e l.toList vs) {ρ:Operand→Value} (hρ:Ev e ρ):l.map ρ=vs.toArray:=Array.toList_inj.1 (by simpa using h.map hρ)
def noDef:Op→Bool
 |.defer _=>false
 |_=>true
theorem noDef_ne {op:Op} (h:noDef op=true) (c:Call):op ≠ .defer c:=fun e=>by subst e;cases h
section rows
variable {C : Cu} {ops : Array Oper} {Q : Post} {rest : List Oper} {e : Env} {fs : Fs} {d : Nat} {op : Op} {t : TypeId} {pos : String} {af : Array Edge}
def Known (C:Cu) (fs:Fs) (p:Nat × Obj):Prop:=p∈fs∨(C.w0.heap[p.1]?=some p.2∧p.1 ∉ C.S)
theorem Known.get {p:Nat × Obj} (h:Known C fs p) (hs:St C.w0 C.S fs w):w.heap[p.1]?=some p.2:=by
 rcases h with h|⟨h1,h2⟩
 ·exact (hs.own p h).2
 ·rw [hs.bel.block _ (Array.getElem?_eq_some_iff.1 h1).1 h2];exact h1
theorem LW.v0 (hd:Nat.blt d C.N=true) (hn:noDef op=true) (h:ValP C.P e [] op v) (k:LW C ops Q rest ((d,v)::e) fs):LW C ops Q (⟨some d,op,t,pos,af,none⟩::rest) e fs :=
 LW.val hd (noDef_ne hn) (fun a w hs=>h a.eval w hs.env.Ev (by simp) _ _ _ _ _) k
theorem LW.v1 {p:Nat × Obj} (hd:Nat.blt d C.N=true) (hn:noDef op=true) (h:ValP C.P e [p] op v) (hp:Known C fs p) (k:LW C ops Q rest ((d,v)::e) fs) :
  LW C ops Q (⟨some d,op,t,pos,af,none⟩::rest) e fs :=
 LW.val hd (noDef_ne hn) (fun a w hs=>h a.eval w hs.env.Ev (by simpa using hp.get hs.st) _ _ _ _ _) k
theorem LW.n0 {s:Sh} {ob:Obj} (hd:Nat.blt d C.N=true) (hn:noDef op=true) (h:NewP C.P e op s ob) (k:∀ b,LW C ops Q rest ((d,s.val b)::e) ((b,ob)::fs)):LW C ops Q (⟨some d,op,t,pos,af,none⟩::rest) e fs :=
 LW.new hd (noDef_ne hn) (fun a w hs=>h a.eval w hs.env.Ev _ _ _ _ _) k
theorem LW.s0 (hn:noDef op=true) (hset:SetAt fs b o o' fs') (h:SetP C.P e op b o o') (k:LW C ops Q rest e fs'):LW C ops Q (⟨none,op,t,pos,af,none⟩::rest) e fs :=
 LW.set (noDef_ne hn) hset (fun a w hs hb=>h a.eval w hs.env.Ev hb _ _ _ _ _) k
theorem LW.c0 {vs:Array Value} {Φ:Value→Fs→Prop} (hd:Nat.blt d C.N=true) (hn:noDef op=true) (h:CallP C.P e op f vs) (hc:∀ w,St C.w0 C.S fs w→Calls C.P f vs w (RetG w [] Φ))
  (k:∀ v gs,Φ v gs→LW C ops Q rest ((d,v)::e) (gs++fs)):LW C ops Q (⟨some d,op,t,pos,af,none⟩::rest) e fs :=
 LW.callG hd (noDef_ne hn) (fun a w hs=>h a.eval w hs.env.Ev _ _ _ _ _) hc k
theorem LW.cr {vs:Array Value} (hd:Nat.blt d C.N=true) (hn:noDef op=true) (h:CallP C.P e op f vs) (hc:∀ w,St C.w0 C.S fs w→Calls C.P f vs w (Ret w v))
  (k:LW C ops Q rest ((d,v)::e) fs):LW C ops Q (⟨some d,op,t,pos,af,none⟩::rest) e fs :=
 LW.c0 hd hn h (fun w hs=>(hc w hs).mono fun _ _ hr=>RetG.of_ret hr) (fun u gs ⟨h1,h2⟩=>by subst h1;subst h2;exact k)
end rows
variable {e : Env}
theorem ValP.move (h:e.ev x=some v):ValP P e [] (.move x) v:=fun ρ w hρ _ d t pos af g=>by simp [execOp,hρ x v h]
theorem ValP.assign (h:e.ev x=some v):ValP P e [] (.assign x) v:=fun ρ w hρ _ d t pos af g=>by simp [execOp,hρ x v h]
theorem ValP.pickT {c:Operand} (hc:e.ev c=some (.bool true)) (h:e.ev x=some v):ValP P e [] (.pick c x y) v:=fun ρ w hρ _ d t pos af g=>by
 simp [execOp,hρ x v h,hρ c _ hc,asBool]
theorem ValP.pickF {c:Operand} (hc:e.ev c=some (.bool false)) (h:e.ev y=some v):ValP P e [] (.pick c x y) v:=fun ρ w hρ _ d t pos af g=>by
 simp [execOp,hρ y v h,hρ c _ hc,asBool]
theorem ValP.extract {vs:Array Value} (hx:e.ev x=some (.tuple vs)) (hi:vs[i]?=some v):ValP P e [] (.extract x i) v:=fun ρ w hρ _ d t pos af g=>by
 simp [execOp,hρ x _ hx,Instr.extract,hi]
theorem ValP.notB {b:Bool} (hx:e.ev x=some (.bool b)):ValP P e [] (.unOp .not T x) (.bool (!b)):=fun ρ w hρ _ d t pos af g=>by
 simp [execOp,hρ x _ hx,Op.unary]
theorem ValP.makeFunc {fn:Fn} {first cap:Array Operand} {us:List Value} (h1:ArgsOk e first.toList vs) (h2:ArgsOk e cap.toList us):ValP P e [] (.makeFunc fn first cap) (.func fn vs.toArray us.toArray):=fun ρ w hρ _ d t pos af g=>by
 simp [execOp,h1.arr hρ,h2.arr hρ,Instr.makeFunc]
theorem ValP.load (hx:e.ev x=some (.pointer (some ⟨b,off,none⟩))) (h:Rd P T o off v):ValP P e [(b,o)] (.load T x) v:=fun ρ w hρ hu d t pos af g=>by
 have:=h w b (by simpa using hu)
 simp [execOp,hρ x _ hx,Instr.loadAt,Instr.sureAddr,this]
theorem SetP.store (hx:e.ev x=some (.pointer (some ⟨b,off,none⟩))) (hy:e.ev y=some v) (h:Wr P T o off v o'):SetP P e (.store T x y) b o o':=fun ρ w hρ hu d t pos af g=>by
 have:=h w b hu
 simp [execOp,hρ x _ hx,hρ y _ hy,Instr.storeAt,Instr.sureAddr,this]
theorem NewP.alloc [InfoI P T n z]:NewP P e (.alloc T) .ptr (.cells z.cells T (0,0)):=fun ρ w _ d t pos af g=>by
 simp [execOp,Instr.alloc,run_zero,Sem.run_bind,newVar,newRow,Sh.val]
theorem NewP.box (hx:e.ev x=some v):NewP P e (.box T x) .ptr (.cells v.cells T (0,0)):=fun ρ w hρ d t pos af g=>by
 simp [execOp,hρ x _ hx,Instr.box,newVar,newRow,Sh.val]
section ls
variable {C : Cu} {ops : Array Oper} {Q : Post} {rest : List Oper} {e : Env} {fs : Fs} {d : Nat} {t : TypeId} {pos : String} {af : Array Edge}
theorem LW.load (hd:Nat.blt d C.N=true) (hx:e.ev x=some (.pointer (some ⟨b,off,none⟩))) (hp:Known C fs (b,o)) (h:Rd C.P T o off v) (k:LW C ops Q rest ((d,v)::e) fs) :
  LW C ops Q (⟨some d,.load T x,t,pos,af,none⟩::rest) e fs:=LW.v1 hd rfl (.load hx h) hp k
theorem LW.store (hx:e.ev x=some (.pointer (some ⟨b,off,none⟩))) (hy:e.ev y=some v) (hset:SetAt fs b o o' fs') (h:Wr C.P T o off v o') (k:LW C ops Q rest e fs') :
  LW C ops Q (⟨none,.store T x y,t,pos,af,none⟩::rest) e fs:=LW.s0 rfl hset (.store hx hy h) k
theorem LW.allocA {c:Array Value} [InfoI C.P T n (.agg c)] (hd:Nat.blt d C.N=true) (k:∀ b,LW C ops Q rest ((d,.pointer (some ⟨b,0,none⟩))::e) ((b,.cells c T (0,0))::fs)) :
  LW C ops Q (⟨some d,.alloc T,t,pos,af,none⟩::rest) e fs:=LW.n0 (s:=.ptr) hd rfl .alloc k
theorem LW.alloc1 [InfoI C.P T n z] (hd:Nat.blt d C.N=true) (hz:z.cells=#[z]) (k:∀ b,LW C ops Q rest ((d,.pointer (some ⟨b,0,none⟩))::e) ((b,.cells #[z] T (0,0))::fs)) :
  LW C ops Q (⟨some d,.alloc T,t,pos,af,none⟩::rest) e fs:=by rw [← hz] at k;exact LW.n0 (s:=.ptr) hd rfl .alloc k
theorem LW.boxA {c:Array Value} (hd:Nat.blt d C.N=true) (hx:e.ev x=some (.agg c)) (k:∀ b,LW C ops Q rest ((d,.pointer (some ⟨b,0,none⟩))::e) ((b,.cells c T (0,0))::fs)) :
  LW C ops Q (⟨some d,.box T x,t,pos,af,none⟩::rest) e fs:=LW.n0 (s:=.ptr) hd rfl (.box hx) k
theorem LW.box1 (hd:Nat.blt d C.N=true) (hx:e.ev x=some v) (hv:v.cells=#[v]) (k:∀ b,LW C ops Q rest ((d,.pointer (some ⟨b,0,none⟩))::e) ((b,.cells #[v] T (0,0))::fs)) :
  LW C ops Q (⟨some d,.box T x,t,pos,af,none⟩::rest) e fs:=by rw [← hv] at k;exact LW.n0 (s:=.ptr) hd rfl (.box hx) k
end ls
theorem ValP.fieldAddr {fo:Nat} {ft:TypeId} [hF:FldI P T i fo ft] [InfoI P ft n z] (hn:(n == 0)=false) (hx:e.ev x=some (.pointer (some ⟨b,off,none⟩))) :
  ValP P e [] (.fieldAddr T x i) (.pointer (some ⟨b,off+fo,none⟩)):=fun ρ w hρ _ d t pos af g=>by
 have hn':n ≠ 0:=by simpa using hn
 obtain ⟨fs,f,h1,h2,h3,h4⟩:=hF.fld
 subst h3;subst h4
 simp [execOp,hρ x _ hx,Instr.fieldAt,Sem.run_bind,run_underlying h1,h2,Instr.sureAddr,fieldPlace,run_size,hn',addr_add]
theorem ValP.indexAddrA {i:Operand} {len:Nat} {k:Nat} {j:Int} [UnI P T (.array len E)] [InfoI P E n z] (hx:e.ev x=some (.pointer (some ⟨b,off,none⟩))) (hi:e.ev i=some (.int ik j))
  (hj:j=(k:Int)) (hk:k < len):ValP P e [] (.indexAddr T x i) (.pointer (some ⟨b,off+k * n,none⟩)):=fun ρ w hρ _ d t pos af g=>by
 subst hj
 simp [execOp,hρ x _ hx,hρ i _ hi,Instr.indexAt,Sem.run_bind,run_un,asIntOf,Instr.sureAddr,run_size,hk,addr_add]
theorem ValP.indexAddrL {i:Operand} {len:Nat} {k:Nat} [UnI P T (.array len E)] [InfoI P E n z] (hx:e.ev x=some (.pointer (some ⟨b,off,none⟩))) (hi:e.ev i=some (.int ik (OfNat.ofNat k)))
  (hk:Nat.blt k len=true):ValP P e [] (.indexAddr T x i) (.pointer (some ⟨b,off+k * n,none⟩)):=ValP.indexAddrA hx hi rfl (by simpa [Nat.blt_eq] using hk)
theorem ValP.indexAddrS {i:Operand} {len cap:Nat} {k:Nat} {j:Int} [UnI P T (.slice E)] [InfoI P E n z] (hx:e.ev x=some (.slice (some ⟨b,off,none⟩) len cap)) (hi:e.ev i=some (.int ik j))
  (hj:j=(k:Int)) (hk:k < len):ValP P e [] (.indexAddr T x i) (.pointer (some ⟨b,off+k * n,none⟩)):=fun ρ w hρ _ d t pos af g=>by
 subst hj
 simp [execOp,hρ x _ hx,hρ i _ hi,Instr.indexAt,Sem.run_bind,run_un,asIntOf,run_size,hk,addr_add]
theorem ValP.lenS {a:Option Addr} {c:Nat} (hT:tys=#[T]) {E:TypeId} [UnI P T (.slice E)] (hx:e.ev x=some (.slice a n c)) :
  ValP P e [] (.call { callee:=.builtin .len,args:=#[x],argTypes:=tys }) (.int .i64 n):=fun ρ w hρ _ d t pos af g=>by
 subst hT
 simp [execOp,resolve,invoke,builtin,hρ x _ hx,Builtin.len_,run_un,goInt]
theorem CallP.fn {tys:Array TypeId} [FnI P f] {first cap:Array Value} {vs:List Value} (hf:e.ev fo=some (.func (.func f) first cap)) (ha:ArgsOk e args.toList vs) :
  CallP P e (.call { callee:=.value fo,args:=args,argTypes:=tys }) f (first++vs.toArray++cap):=fun ρ w hρ d t pos af g=>by
 simp [execOp,resolve,invoke,Deferred.ofValue,hρ fo _ hf,ha.arr hρ,FnI.run]
end
end
section
variable {P : Program} {e : Env}
theorem wrapI (n:Int) (h0:-9223372036854775808≤n) (h1:n≤9223372036854775807):IntKind.i64.wrap n=n:=by
 simp [IntKind.wrap,IntKind.bits,IntKind.signed];omega
theorem wrapU (n:Int):IntKind.u64.wrap n=n % 18446744073709551616:=by
 simp [IntKind.wrap,IntKind.bits,IntKind.signed]
theorem wrapB (n:Int):IntKind.u8.wrap n=n % 256:=by
 simp [IntKind.wrap,IntKind.bits,IntKind.signed]
theorem ValP.bin {op:BinOp} {ty:TypeId} {vx vy:Value} (hx:e.ev x=some vx) (hy:e.ev y=some vy) (hg:∀ w,(eqGuard op T x y vx vy).run P w=.ok () w) (h:∀ w,(binOp op T vx vy).run P w=.ok v w) :
  ValP P e [] (.binOp op T x y ty) v:=fun ρ w hρ _ d t pos af g=>by
 simp [execOp,hρ x _ hx,hρ y _ hy,hg,h]
theorem guard_int {op:BinOp} {k:IntKind} {a:Int} {vy:Value} (w:World):(eqGuard op T x y (.int k a) vy).run P w=.ok () w:=by
 rw [eqGuard_at_int];rfl
section ints
variable {T ty : TypeId} {x y : Operand} {k : IntKind} {a b : Int}
theorem ValP.addI (hx:e.ev x=some (.int .i64 a)) (hy:e.ev y=some (.int .i64 b)) (h0:-9223372036854775808≤a+b) (h1:a+b≤9223372036854775807):ValP P e [] (.binOp .add T x y ty) (.int .i64 (a+b)) :=
 .bin hx hy (fun w=>guard_int w) fun w=>by simp [binOp_add,Op.intArith,wrapI _ h0 h1]
theorem ValP.subI (hx:e.ev x=some (.int .i64 a)) (hy:e.ev y=some (.int .i64 b)) (h0:-9223372036854775808≤a - b) (h1:a - b≤9223372036854775807):ValP P e [] (.binOp .sub T x y ty) (.int .i64 (a - b)) :=
 .bin hx hy (fun w=>guard_int w) fun w=>by simp [binOp_sub,Op.intArith,wrapI _ h0 h1]
theorem ValP.mulI (hx:e.ev x=some (.int .i64 a)) (hy:e.ev y=some (.int .i64 b)) (h0:-9223372036854775808≤a * b) (h1:a * b≤9223372036854775807):ValP P e [] (.binOp .mul T x y ty) (.int .i64 (a * b)) :=
 .bin hx hy (fun w=>guard_int w) fun w=>by simp [binOp_mul,Op.intArith,wrapI _ h0 h1]
theorem ValP.addU (hx:e.ev x=some (.int .u64 a)) (hy:e.ev y=some (.int .u64 b)):ValP P e [] (.binOp .add T x y ty) (.int .u64 ((a+b) % 18446744073709551616)) :=
 .bin hx hy (fun w=>guard_int w) fun w=>by simp [binOp_add,Op.intArith,wrapU]
theorem ValP.subU (hx:e.ev x=some (.int .u64 a)) (hy:e.ev y=some (.int .u64 b)):ValP P e [] (.binOp .sub T x y ty) (.int .u64 ((a - b) % 18446744073709551616)) :=
 .bin hx hy (fun w=>guard_int w) fun w=>by simp [binOp_sub,Op.intArith,wrapU]
theorem ValP.mulU (hx:e.ev x=some (.int .u64 a)) (hy:e.ev y=some (.int .u64 b)):ValP P e [] (.binOp .mul T x y ty) (.int .u64 ((a * b) % 18446744073709551616)) :=
 .bin hx hy (fun w=>guard_int w) fun w=>by simp [binOp_mul,Op.intArith,wrapU]
theorem ValP.lssT (hx:e.ev x=some (.int k a)) (hy:e.ev y=some (.int k b)) (h:a < b):ValP P e [] (.binOp .lss T x y ty) (.bool true) :=
 .bin hx hy (fun w=>guard_int w) fun w=>by simp [binOp_lss,h]
theorem ValP.lssF (hx:e.ev x=some (.int k a)) (hy:e.ev y=some (.int k b)) (h:b≤a):ValP P e [] (.binOp .lss T x y ty) (.bool false) :=
 .bin hx hy (fun w=>guard_int w) fun w=>by simp [binOp_lss];omega
theorem ValP.lss (hx:e.ev x=some (.int k a)) (hy:e.ev y=some (.int k b)):ValP P e [] (.binOp .lss T x y ty) (.bool (decide (a < b))) :=
 .bin hx hy (fun w=>guard_int w) fun w=>by simp [binOp_lss]
theorem ValP.leqT (hx:e.ev x=some (.int k a)) (hy:e.ev y=some (.int k b)) (h:a≤b):ValP P e [] (.binOp .leq T x y ty) (.bool true) :=
 .bin hx hy (fun w=>guard_int w) fun w=>by simp [binOp_leq,h]
theorem ValP.leqF (hx:e.ev x=some (.int k a)) (hy:e.ev y=some (.int k b)) (h:b < a):ValP P e [] (.binOp .leq T x y ty) (.bool false) :=
 .bin hx hy (fun w=>guard_int w) fun w=>by simp [binOp_leq];omega
theorem ValP.leq (hx:e.ev x=some (.int k a)) (hy:e.ev y=some (.int k b)):ValP P e [] (.binOp .leq T x y ty) (.bool (decide (a≤b))) :=
 .bin hx hy (fun w=>guard_int w) fun w=>by simp [binOp_leq]
theorem ValP.gtrT (hx:e.ev x=some (.int k a)) (hy:e.ev y=some (.int k b)) (h:b < a):ValP P e [] (.binOp .gtr T x y ty) (.bool true) :=
 .bin hx hy (fun w=>guard_int w) fun w=>by simp [binOp_gtr,h]
theorem ValP.gtrF (hx:e.ev x=some (.int k a)) (hy:e.ev y=some (.int k b)) (h:a≤b):ValP P e [] (.binOp .gtr T x y ty) (.bool false) :=
 .bin hx hy (fun w=>guard_int w) fun w=>by simp [binOp_gtr];omega
theorem ValP.gtr (hx:e.ev x=some (.int k a)) (hy:e.ev y=some (.int k b)):ValP P e [] (.binOp .gtr T x y ty) (.bool (decide (b < a))) :=
 .bin hx hy (fun w=>guard_int w) fun w=>by simp [binOp_gtr]
theorem ValP.geqT (hx:e.ev x=some (.int k a)) (hy:e.ev y=some (.int k b)) (h:b≤a):ValP P e [] (.binOp .geq T x y ty) (.bool true) :=
 .bin hx hy (fun w=>guard_int w) fun w=>by simp [binOp_geq,h]
theorem ValP.geqF (hx:e.ev x=some (.int k a)) (hy:e.ev y=some (.int k b)) (h:a < b):ValP P e [] (.binOp .geq T x y ty) (.bool false) :=
 .bin hx hy (fun w=>guard_int w) fun w=>by simp [binOp_geq];omega
theorem ValP.geq (hx:e.ev x=some (.int k a)) (hy:e.ev y=some (.int k b)):ValP P e [] (.binOp .geq T x y ty) (.bool (decide (b≤a))) :=
 .bin hx hy (fun w=>guard_int w) fun w=>by simp [binOp_geq]
theorem ValP.eqT (hx:e.ev x=some (.int k a)) (hy:e.ev y=some (.int k b)) (h:a=b):ValP P e [] (.binOp .eql T x y ty) (.bool true) :=
 .bin hx hy (fun w=>guard_int w) fun w=>by simp [binOp_eql,h]
theorem ValP.eqF (hx:e.ev x=some (.int k a)) (hy:e.ev y=some (.int k b)) (h:a ≠ b):ValP P e [] (.binOp .eql T x y ty) (.bool false) :=
 .bin hx hy (fun w=>guard_int w) fun w=>by simp [binOp_eql,h]
theorem ValP.eq (hx:e.ev x=some (.int k a)) (hy:e.ev y=some (.int k b)):ValP P e [] (.binOp .eql T x y ty) (.bool (decide (a=b))) :=
 .bin hx hy (fun w=>guard_int w) fun w=>by simp [binOp_eql];rfl
theorem ValP.neT (hx:e.ev x=some (.int k a)) (hy:e.ev y=some (.int k b)) (h:a ≠ b):ValP P e [] (.binOp .neq T x y ty) (.bool true) :=
 .bin hx hy (fun w=>guard_int w) fun w=>by simp [binOp_neq,h]
theorem ValP.neF (hx:e.ev x=some (.int k a)) (hy:e.ev y=some (.int k b)) (h:a=b):ValP P e [] (.binOp .neq T x y ty) (.bool false) :=
 .bin hx hy (fun w=>guard_int w) fun w=>by simp [binOp_neq,h]
theorem ValP.ne (hx:e.ev x=some (.int k a)) (hy:e.ev y=some (.int k b)):ValP P e [] (.binOp .neq T x y ty) (.bool (!decide (a=b))) :=
 .bin hx hy (fun w=>guard_int w) fun w=>by simp [binOp_neq,bne];rfl
theorem tdiv_nonneg (a b:Int) (h0:0≤a):a.tdiv b=a / b:=Int.tdiv_eq_ediv_of_nonneg h0
theorem ValP.quoI (hx:e.ev x=some (.int .i64 a)) (hy:e.ev y=some (.int .i64 b)) (h0:0≤a) (hb:0 < b) (h1:a≤9223372036854775807):ValP P e [] (.binOp .quo T x y ty) (.int .i64 (a / b)) :=
 .bin hx hy (fun w=>guard_int w) fun w=>by
  have h2:0≤a / b:=Int.ediv_nonneg h0 (Int.le_of_lt hb)
  have h3:a / b≤a:=Int.ediv_le_self b h0
  simp [binOp_quo,Op.intDiv,Int.ne_of_gt hb,tdiv_nonneg _ _ h0,wrapI _ (show -9223372036854775808≤a / b by omega) (show a / b≤9223372036854775807 by omega)]
theorem ValP.remI (hx:e.ev x=some (.int .i64 a)) (hy:e.ev y=some (.int .i64 b)) (h0:0≤a) (hb:0 < b):ValP P e [] (.binOp .rem T x y ty) (.int .i64 (a % b)) :=
 .bin hx hy (fun w=>guard_int w) fun w=>by
  simp [binOp_rem,Op.intDiv,Int.ne_of_gt hb,Int.tmod_eq_emod_of_nonneg h0]
theorem ValP.quoU (hx:e.ev x=some (.int .u64 a)) (hy:e.ev y=some (.int .u64 b)) (h0:0≤a) (hb:0 < b) (h1:a < 18446744073709551616):ValP P e [] (.binOp .quo T x y ty) (.int .u64 (a / b)) :=
 .bin hx hy (fun w=>guard_int w) fun w=>by
  have h2:0≤a / b:=Int.ediv_nonneg h0 (Int.le_of_lt hb)
  have h3:a / b≤a:=Int.ediv_le_self b h0
  have h4:a / b % 18446744073709551616=a / b:=Int.emod_eq_of_lt h2 (by omega)
  simp [binOp_quo,Op.intDiv,Int.ne_of_gt hb,tdiv_nonneg _ _ h0,wrapU,h4]
theorem ValP.remU (hx:e.ev x=some (.int .u64 a)) (hy:e.ev y=some (.int .u64 b)) (h0:0≤a) (hb:0 < b):ValP P e [] (.binOp .rem T x y ty) (.int .u64 (a % b)) :=
 .bin hx hy (fun w=>guard_int w) fun w=>by
  simp [binOp_rem,Op.intDiv,Int.ne_of_gt hb,Int.tmod_eq_emod_of_nonneg h0]
theorem ofInt64 (m:Nat) (hm:m < 18446744073709551616):(BitVec.ofInt 64 (m:Int)).toNat=m:=by
 simp only [BitVec.ofInt_natCast,BitVec.toNat_ofNat];omega
theorem bits_and (m n:Nat) (hm:m < 18446744073709551616) (hn:n < 18446744073709551616):bits .and .u64 (m:Int) (n:Int)=((m &&& n:Nat):Int):=by
 have h:m &&& n < 18446744073709551616:=Nat.lt_of_le_of_lt Nat.and_le_left hm
 show IntKind.u64.wrap (((BitVec.ofInt 64 (m:Int) &&& BitVec.ofInt 64 (n:Int)).toNat:Nat):Int)=_
 rw [BitVec.toNat_and,ofInt64 m hm,ofInt64 n hn,wrapU]
 omega
theorem bits_or (m n:Nat) (hm:m < 18446744073709551616) (hn:n < 18446744073709551616):bits .or .u64 (m:Int) (n:Int)=((m |||n:Nat):Int):=by
 have h:m |||n < 18446744073709551616:=Nat.or_lt_two_pow (n:=64) hm hn
 show IntKind.u64.wrap (((BitVec.ofInt 64 (m:Int) |||BitVec.ofInt 64 (n:Int)).toNat:Nat):Int)=_
 rw [BitVec.toNat_or,ofInt64 m hm,ofInt64 n hn,wrapU]
 omega
theorem bits_xor (m n:Nat) (hm:m < 18446744073709551616) (hn:n < 18446744073709551616):bits .xor .u64 (m:Int) (n:Int)=((m ^^^ n:Nat):Int):=by
 have h:m ^^^ n < 18446744073709551616:=Nat.xor_lt_two_pow (n:=64) hm hn
 show IntKind.u64.wrap (((BitVec.ofInt 64 (m:Int) ^^^ BitVec.ofInt 64 (n:Int)).toNat:Nat):Int)=_
 rw [BitVec.toNat_xor,ofInt64 m hm,ofInt64 n hn,wrapU]
 omega
theorem ones_xor (m:Nat) (hm:m < 18446744073709551616):(18446744073709551615:Nat) ^^^ m=18446744073709551615 - m:=by
 have h:=congrArg BitVec.toNat (BitVec.allOnes_xor (x:=BitVec.ofNat 64 m))
 rw [BitVec.toNat_xor,BitVec.toNat_not,BitVec.toNat_allOnes,BitVec.toNat_ofNat,Nat.mod_eq_of_lt (by simpa using hm)] at h
 simpa using h
variable {m n : Nat}
theorem ValP.andU (hx:e.ev x=some (.int .u64 (m:Int))) (hy:e.ev y=some (.int .u64 (n:Int))) (hm:m < 18446744073709551616) (hn:n < 18446744073709551616):ValP P e [] (.binOp .and T x y ty) (.int .u64 ((m &&& n:Nat):Int)) :=
 .bin hx hy (fun w=>guard_int w) fun w=>by rw [binOp_and,intBits_and,bits_and m n hm hn];rfl
theorem ValP.orU (hx:e.ev x=some (.int .u64 (m:Int))) (hy:e.ev y=some (.int .u64 (n:Int))) (hm:m < 18446744073709551616) (hn:n < 18446744073709551616):ValP P e [] (.binOp .or T x y ty) (.int .u64 ((m |||n:Nat):Int)) :=
 .bin hx hy (fun w=>guard_int w) fun w=>by rw [binOp_or,intBits_or,bits_or m n hm hn];rfl
theorem ValP.xorU (hx:e.ev x=some (.int .u64 (m:Int))) (hy:e.ev y=some (.int .u64 (n:Int))) (hm:m < 18446744073709551616) (hn:n < 18446744073709551616):ValP P e [] (.binOp .xor T x y ty) (.int .u64 ((m ^^^ n:Nat):Int)) :=
 .bin hx hy (fun w=>guard_int w) fun w=>by rw [binOp_xor,intBits_xor,bits_xor m n hm hn];rfl
theorem ValP.notU (hx:e.ev x=some (.int .u64 (m:Int))) (hm:m < 18446744073709551616):ValP P e [] (.unOp .xor T x) (.int .u64 ((18446744073709551615 - m:Nat):Int)):=fun ρ w hρ _ d t pos af g=>by
 have h1:(18446744073709551615:Nat) ^^^ m=18446744073709551615 - m:=ones_xor m hm
 have h2:bits .xor .u64 ((18446744073709551615:Nat):Int) (m:Int)=((18446744073709551615 ^^^ m:Nat):Int):=bits_xor _ _ (by omega) hm
 have h3:IntKind.u64.max=((18446744073709551615:Nat):Int):=by decide
 simp only [execOp,hρ x _ hx,unary_xor,IntKind.signed,Bool.false_eq_true,if_false,intBits_xor,h3,h2,h1]
 rfl
theorem ValP.shrU {s:Nat} (hx:e.ev x=some (.int .u64 (m:Int))) (hy:e.ev y=some (.int ik (s:Int))) (hs:s≤64):ValP P e [] (.binOp .shr T x y ty) (.int .u64 ((m / 2 ^ s:Nat):Int)) :=
 .bin hx hy (fun w=>guard_int w) fun w=>by
  rw [binOp_shr,shift_shr .u64 ik _ _ (by omega) (by simp [IntKind.bits];omega)]
  simp
theorem ValP.shlU {s:Nat} (hx:e.ev x=some (.int .u64 (m:Int))) (hy:e.ev y=some (.int ik (s:Int))) (hs:s≤64):ValP P e [] (.binOp .shl T x y ty) (.int .u64 ((m * 2 ^ s % 18446744073709551616:Nat):Int)) :=
 .bin hx hy (fun w=>guard_int w) fun w=>by
  rw [binOp_shl,shift_shl .u64 ik _ _ (by omega) (by simp [IntKind.bits];omega),wrapU]
  simp
end ints
theorem ValP.conv {S:TypeId} {k k':IntKind} {n:Int} {ds:TypeDesc} [UnI P S ds] [UnI P T (.int k')] (hx:e.ev x=some (.int k n)):ValP P e [] (.convert S T x) (.int k' (k'.wrap n)):=fun ρ w hρ _ d t pos af g=>by
 simp [execOp,hρ x _ hx,convert,run_un (P:=P) (T:=S),run_un (P:=P) (T:=T),Conv.intToInt]
theorem ValP.conv_in {S:TypeId} {k k':IntKind} {n:Int} {ds:TypeDesc} [UnI P S ds] [UnI P T (.int k')] (hx:e.ev x=some (.int k n)) (hn:k'.wrap n=n):ValP P e [] (.convert S T x) (.int k' n):=by
 have h:=ValP.conv (P:=P) (S:=S) (T:=T) (ds:=ds) (k':=k') hx
 rwa [hn] at h
end
section
theorem dTAFZD {P:Prop} (h:P:=by
 obtain ⟨_,h2⟩:=Env.ofL_get _ _ _ _ ht
 have h3:args[t]?=some v:=by simpa using h2
 have hlt:t < args.length:=(List.getElem?_eq_some_iff.1 h3).1
 show (args.toArray++Array.replicate (fn.ntmps - args.toArray.size) undef)[t]?=some v
 rw [Array.getElem?_append_left (by simpa using hlt)]
 simpa using h3):P:=h
theorem dTAJvq {P:Prop} (h:P:=by
 have htch:tch (exs (μ k)) ops ⟨some d,op,t,pos,af,some (j,b)⟩ a=[]:=by unfold tch;rw [if_neg (by rw [hw];simp)]
 unfold walk dOp
 simp only [hk]
 rw [htch]
 refine ⟨by simp,.inl ⟨.val undef,.inr ⟨hw,rfl⟩,by simp [Eff.wr],?_⟩⟩
 refine kk _ _ _ _ (ha.put hd) ⟨hr.fsome,fun p hp j hj=>?_,fun p hp j hj=>?_,fun b hb j hj=>?_,fun b hb hB j hj=>?_,hr.nd⟩ hinv
 ·rcases hj with hj|⟨_,hj⟩
  ·exact hr.ftw p hp _ hj
  ·simp [Eff.wr] at hj
 ·rcases hj with hj|⟨_,hj⟩
  ·exact hr.ftr p hp _ hj
  ·simp at hj
 ·rcases hj with hj|⟨_,hj⟩
  ·exact hr.old b hb _ hj
  ·simp [Eff.wr] at hj
 ·rcases hj with hj|⟨_,hj⟩
  ·exact hr.oldr b hb hB _ hj
  ·simp at hj):P:=h
theorem dTAieO {P:Prop} (h:P:=by
 obtain ⟨n1,n2⟩:=List.pairwise_cons.1 hn
 simp only [upds]
 rcases List.mem_cons.1 hq with rfl|hq
 ·exact upd_same _ _ _
 ·rw [upd_other _ _ (fun e=>n1 q hq e.symm)];exact ih n2 q hq):P:=h
theorem thenN {y:Code} (h:CW C y Q e fs):thenQ (thenC C y Q) Q' .normal C.ds e fs:=h
theorem thenM {y:Code} (h:CW ⟨C.P,C.w0,C.S,C.N,ds,C.r⟩ y Q e fs):thenQ (thenC C y Q) Q' .normal ds e fs:=h
theorem thenR {K:List Deferred→Env→Fs→Prop} (h:Q .ret ds e fs):thenQ K Q .ret ds e fs:=h
theorem thenE {K:List Deferred→Env→Fs→Prop} (h:Q (.exit id) ds e fs):thenQ K Q (.exit id) ds e fs:=h
theorem blkN (h:Q .normal ds e fs):blkQ id Q .normal ds e fs:=h
theorem blkR (h:Q .ret ds e fs):blkQ id Q .ret ds e fs:=h
theorem blkE {k:Nat} (hk:Nat.beq k id=true) (h:Q .normal ds e fs):blkQ id Q (.exit k) ds e fs:=by simp only [blkQ,hk];exact h
theorem blkO {k:Nat} (hk:Nat.beq k id=false) (h:Q (.exit k) ds e fs):blkQ id Q (.exit k) ds e fs:=by simp only [blkQ,hk];exact h
def RW (C:Cu) (c:Code) (Q:Post) (n:Nat) (e:Env) (fs:Fs):Prop:=∀ a w,Sat C e fs a w→Code.roundsIn (FR C.r) 0 C.P c (down C Q) n a w
def thenW (C:Cu) (c:Code) (Q:Post) (n:Nat):List Deferred→Env→Fs→Prop:=fun ds e fs=>RW (C.at ds) c Q n e fs
theorem thenL {c:Code} (h:RW C c Q n e fs):thenQ (thenW C c Q n) Q' .normal C.ds e fs:=h
theorem CW.rounds {c:Code} (n:Nat) (h:RW C c Q n e fs):CW C (.loop c) Q e fs:=fun a w hs=>wpIn_loop_rounds n (h a w hs)
theorem RW.step {c:Code} (h:CW C c (thenQ (thenW C c Q n) Q) e fs):RW C c Q (n+1) e fs:=fun a w hs=>by
 rw [roundsIn_succ]
 exact Code.wpIn_mono (fun x a w ⟨ds,e,fs,q,s⟩=>by
  cases x with
  |normal=>exact q a w s
  |_=>exact ⟨ds,e,fs,q,s⟩) (h a w hs)
def Env.ofL:List Value→Nat→Env
 |[],_=>[]
 |v::r,k=>(k,v)::Env.ofL r (k+1)
theorem Env.ofL_get:∀ (l:List Value) (k t:Nat) (v:Value),(Env.ofL l k).get t=some v→k≤t∧l[t - k]?=some v
 |[],_,_,_,h=>by simp [Env.ofL,Env.get] at h
 |u::r,k,t,v,h=>by
  simp only [Env.ofL,Env.get] at h
  split at h
  ·rename_i hb;have:=Nat.eq_of_beq_eq_true hb;subst this;cases h;simp
  ·rename_i hb
   obtain ⟨h1,h2⟩:=Env.ofL_get r (k+1) t v h
   refine ⟨by omega,?_⟩
   rw [show t - k=(t - (k+1))+1 by omega]
   simpa using h2
def finQ (C:Cu) (fn:Func) (R:Ending→World→Prop):Post:=fun x ds e fs =>
 (x=.ret∨x=.normal)∧∀ a w,Sat (C.at ds) e fs a w→LeavesInM (FR none) 0 C.P fn a.tmps R a.defers .returning w
theorem enter {fn:Func} {c:Code} {args:List Value} {w:World} {R:Ending→World→Prop} (N:Nat) (S:List Nat) (fs:Fs) (hf:P.funcs[f]?=some fn) (hb:fn.body=some c) (hN:fn.ntmps=N) (hsz:Nat.ble args.length N=true)
  (hfs:∀ p∈fs,p.1∈S∧w.heap[p.1]?=some p.2) (hnd:fs.Pairwise fun p q=>p.1 ≠ q.1) (h:CW ⟨P,w,S,N,[],none⟩ c (finQ ⟨P,w,S,N,[],none⟩ fn R) (Env.ofL args 0) fs):Calls P f args.toArray w R:=by
 have hs:Sat ⟨P,w,S,N,[],none⟩ (Env.ofL args 0) fs { tmps:=args.toArray++Array.replicate (fn.ntmps - args.toArray.size) undef,defers:=[] } w:=by
  refine ⟨⟨by have:=Nat.le_of_ble_eq_true hsz;simp [hN];omega,rfl,fun t v ht=>?_⟩,Bel.refl _ _ _,fun p hp=>⟨.inr (hfs p hp).1,(hfs p hp).2⟩,hnd⟩
  exact dTAFZD
 refine (callsIn_wide (n:=0)).1 (callsIn_of_wp_marks (F:=FR none) hf hb trivial ?_)
 refine Code.wpIn_mono (fun x a w' h'=>?_) (h _ w hs)
 obtain ⟨ds,e,fs,⟨hx,q⟩,s⟩:=h'
 rcases hx with rfl|rfl
 ·exact q a w' s
 ·exact q a w' s
inductive Res (C:Cu) (e:Env) (fs:Fs):ResultVar→Value→Prop
 |tmp {t:Nat} {v:Value} (h:e.get t=some v):Res C e fs (.tmp t) v
 |cell {a:Nat} {T:TypeId} {b off:Nat} {o:Obj} {v:Value} (h:e.get a=some (.pointer (some ⟨b,off,none⟩))) (hk:Known C fs (b,o)) (hr:Rd C.P T o off v):Res C e fs (.cell a T) v
inductive ResL (C:Cu) (e:Env) (fs:Fs):List ResultVar→List Value→Prop
 |nil:ResL C e fs [] []
 |cons {r:ResultVar} {v:Value} {rs:List ResultVar} {vs:List Value} (h:Res C e fs r v) (hs:ResL C e fs rs vs):ResL C e fs (r::rs) (v::vs)
def tup:List Value→Value
 |[v]=>v
 |vs=>.tuple vs.toArray
def rdRes (tmps:Array Value):ResultVar→Sem Value
 |.tmp t=>pure (tmps.getD t undef)
 |.cell x t=>do loadVar t (← asAddr (tmps.getD x undef))
theorem Res.run {r:ResultVar} (h:Res C e fs r v) {a:Act} {w:World} (hs:Sat C e fs a w):(rdRes a.tmps r).run C.P w=.ok v w:=by
 cases h with
 |tmp h=>simp [rdRes,hs.env.get _ _ h]
 |cell h hk hr=>simp [rdRes,hs.env.get _ _ h,asAddr,hr w _ (hk.get hs.st)]
theorem results_eq (fn:Func) (tmps:Array Value):results fn tmps=(fn.results.mapM (rdRes tmps) >>= fun vs=>pure (if h:vs.size=1 then vs[0] else .tuple vs)):=by
 unfold results
 have:∀ f:ResultVar→Sem Value,(∀ r,f r=rdRes tmps r)→(fn.results.mapM f >>= fun vs=>(pure (if h:vs.size=1 then vs[0] else .tuple vs):Sem Value))=(fn.results.mapM (rdRes tmps) >>= fun vs=>pure (if h:vs.size=1 then vs[0] else .tuple vs)):=fun f hf=>by
  rw [show f=rdRes tmps from funext hf]
 exact this _ (fun r=>by cases r<;>rfl)
theorem ResL.run {fn:Func} (h:ResL C e fs fn.results.toList vs) {a:Act} {w:World} (hs:Sat C e fs a w):(results fn a.tmps).run C.P w=.ok (tup vs) w:=by
 have key:∀ (l:List ResultVar) (vs:List Value),ResL C e fs l vs→(l.mapM (rdRes a.tmps)).run C.P w=.ok vs w:=by
  intro l vs h
  induction h with
  |nil=>simp
  |cons h _ ih =>
   rw [List.mapM_cons]
   simp [h.run hs,ih]
 have h1:=key _ _ h
 rw [results_eq,Array.mapM_eq_mapM_toList]
 simp only [Sem.run_bind,Sem.run_map,h1,Result.andThen_ok,Sem.run_pure]
 match vs with
 |[]=>rfl
 |[v]=>rfl
 |v::u::r=>simp [tup]
theorem LeavesInM_nil {fn:Func} {tmps:Array Value} {R:Ending→World→Prop} (h:ds=[]) (h':∃ v,(results fn tmps).run P w=.ok v w∧R (.returned v) w):LeavesInM (FR none) 0 P fn tmps R ds .returning w:=by
 subst h;exact h'
theorem fin {fn:Func} {x:Exit} {rs:List ResultVar} (gs:Fs) {Φ:Value→Fs→Prop} (hx:x=.ret∨x=.normal) (hr:fn.results.toList=rs) (hds:C.ds=[]) (h:ResL C e fs rs vs) (hg:List.Sublist gs fs) (hΦ:Φ (tup vs) gs) :
  finQ C fn (RetG C.w0 C.S Φ) x C.ds e fs:=by
 refine ⟨hx,fun a w hs=>LeavesInM_nil (by rw [hs.env.dfr];exact hds) ⟨tup vs,ResL.run (by rw [hr];exact h) hs,tup vs,gs,rfl,hΦ,hs.st.bel,fun p hp=>hs.st.own p (hg.subset hp),hs.st.nd.sublist hg⟩⟩
theorem finR {fn:Func} {x:Exit} {rs:List ResultVar} (hx:x=.ret∨x=.normal) (hr:fn.results.toList=rs) (hds:C.ds=[]) (hS:C.S=[]) (h:ResL C e fs rs vs) (hv:tup vs=v) :
  finQ C fn (Ret C.w0 v) x C.ds e fs:=by
 refine ⟨hx,fun a w hs=>LeavesInM_nil (by rw [hs.env.dfr];exact hds) ⟨tup vs,ResL.run (by rw [hr];exact h) hs,by rw [hv],?_⟩⟩
 have this:Bel C.w0.heap.size C.S C.w0 w:=hs.st.bel
 rw [hS] at this
 exact this
abbrev Ts:=List (Nat × Obj × List Nat × List Nat)
structure Rel (B:Nat) (ts:Ts) (φ:Facts) (tw tr:Tag):Prop where
 fsome:∀ p∈ts,φ p.1=some p.2.1
 ftw:∀ p∈ts,∀ k,tw p.1 k→k∈p.2.2.1
 ftr:∀ p∈ts,∀ k,tr p.1 k→k∈p.2.2.2
 old:∀ b,φ b=none→∀ k,¬ tw b k
 oldr:∀ b,φ b=none→B≤b→∀ k,¬ tr b k
 nd:ts.Pairwise fun p q=>p.1 ≠ q.1
def tsOf (fs:Fs):Ts:=fs.map fun p=>(p.1,p.2,[],[])
def fsOf (ts:Ts):Fs:=ts.map fun p=>(p.1,p.2.1)
def ancF (ops:Array Oper):Nat→List Nat→List Nat
 |0,l=>l
 |f+1,l=>ancF ops f (l++((List.range ops.size).filter fun k=>!l.contains k && l.any fun i=>Region.waitsFor .any ops i k))
def ancB (ops:Array Oper) (i:Nat) (l:List Nat):Bool :=
 let as:=ancF ops ops.size ((List.range ops.size).filter fun k=>Region.waitsFor .any ops i k)
 l.all fun k=>as.contains k
theorem Anc.snoc {k:Nat} (h:Anc ops j i) (h':Region.waitsFor .any ops j k=true):Anc ops k i:=by
 induction h with
 |one h=>exact .more h (.one h')
 |more h _ ih=>exact .more h (ih h')
theorem ancF_spec {ops:Array Oper} {i:Nat}:∀ (f:Nat) (l:List Nat),(∀ k∈l,Anc ops k i)→∀ k∈ancF ops f l,Anc ops k i
 |0,_,h=>h
 |f+1,l,h=>ancF_spec f _ (fun k hk=>by
  rcases List.mem_append.1 hk with hk|hk
  ·exact h k hk
  ·have h1:=(List.mem_filter.1 hk).2
   simp only [Bool.and_eq_true,List.any_eq_true] at h1
   obtain ⟨_,j,hj,hw⟩:=h1
   exact (h j hj).snoc hw)
theorem ancB_spec {l:List Nat} (h:ancB ops i l=true):∀ k∈l,Anc ops k i:=fun k hk=>by
 have h1:=List.all_eq_true.1 h k hk
 exact ancF_spec _ _ (fun j hj=>.one (List.mem_filter.1 hj).2) k (by simpa using h1)
def tailK (C:Cu) (ops:Array Oper) (Q:Post) (tl:List Oper):Kont:=fun a φ _ _=>C.cx.inv φ→∀ w,C.cx.holds φ w→wpListIn (FR C.r) 0 C.P ops (down C Q) tl a w
def DW (C:Cu) (ops:Array Oper) (μ:Mu) (Q:Post) (tl:List Oper) (l:List Oper) (k:Nat) (e:Env) (ts:Ts):Prop :=
 ∀ a φ tw tr,EnvOk C.N C.ds e a→Rel C.w0.heap.size ts φ tw tr→C.cx.inv φ→walk C.cx ops (Anc ops) μ (tailK C ops Q tl) l k a φ tw tr
def factsOf:Fs→Facts
 |[]=>fun _=>none
 |p::r=>upd (factsOf r) p.1 p.2
theorem factsOf_mem (hn:fs.Pairwise fun p q=>p.1 ≠ q.1):∀ p∈fs,factsOf fs p.1=some p.2:=by
 induction fs with
 |nil=>simp
 |cons q r ih =>
  intro p hp
  obtain ⟨h1,h2⟩:=List.pairwise_cons.1 hn
  rcases List.mem_cons.1 hp with rfl|hp
  ·exact upd_same _ _ _
  ·simp only [factsOf];rw [upd_other _ _ (fun e=>h1 p hp e.symm)];exact ih h2 p hp
theorem factsOf_dom:∀ b o,factsOf fs b=some o→(b,o)∈fs:=by
 induction fs with
 |nil=>simp [factsOf]
 |cons q r ih =>
  intro b o h
  simp only [factsOf] at h
  by_cases hb:b=q.1
  ·subst hb;rw [upd_same] at h;cases h;exact List.mem_cons_self
  ·rw [upd_other _ _ hb] at h;exact List.mem_cons_of_mem _ (ih b o h)
theorem CW.any {id:Nat} {l:List Oper} (μ:Mu) (n:Nat) (hX:ExOk l.toArray μ) (hm:C.P.follows .mixedOrders=true) (hB:headB l.toArray n=true) (h:DW C l.toArray μ Q (l.drop n) (l.take n) 0 e (tsOf fs)) :
  CW C (.region id l.toArray true) Q e fs:=fun a w hs=>by
 have hnd:=hs.st.nd
 have hholds:C.cx.holds (factsOf fs) w:=⟨hs.st.bel,fun b o hb=>(hs.st.own _ (factsOf_dom b o hb)).2⟩
 have hinv:C.cx.inv (factsOf fs):=fun b hb=>by
  obtain ⟨o,ho⟩:=Option.ne_none_iff_exists'.1 hb
  exact (hs.st.own _ (factsOf_dom b o ho)).1
 refine region_any (G:=C.cx) (μ:=μ) n hX hm hB hinv hholds ?_
 refine h a _ _ _ hs.env ⟨fun p hp=>?_,fun p hp k hk=>hk.elim,fun p hp k hk=>hk.elim,fun _ _ _ h=>h,fun _ _ _ _ h=>h,?_⟩ hinv
 ·obtain ⟨q,hq,rfl⟩:=List.mem_map.1 hp
  exact factsOf_mem hnd q hq
 ·simp only [tsOf,List.pairwise_map];exact hnd
inductive WantT (ops:Array Oper) (e:Env):Option (Nat × Bool)→Prop
 |none:WantT ops e none
 |some {j s:Nat} {g:Bool} (hs:(ops[j]?).bind (·.dst)=some s) (he:e.get s=some (.bool g)):WantT ops e (some (j,g))
theorem WantT.wanted {N:Nat} {o:Oper} (h:WantT ops e o.guard) (ha:EnvOk N ds e a):Region.wanted o (yielded ops a.tmps)=true:=by
 generalize hg:o.guard=g at h
 cases h with
 |none=>simp [Region.wanted,hg]
 |some hs he=>simp [Region.wanted,hg,yielded,hs,ha.get _ _ he]
section lc
variable {C : Cu} {ops : Array Oper} {Q : Post} {rest : List Oper} {e : Env} {fs : Fs} {d : Nat} {t : TypeId} {pos : String} {af : Array Edge}
theorem LW.call {tys:Array TypeId} {first cap:Array Value} {v:Value} (hd:Nat.blt d C.N=true) (hf:e.ev fo=some (.func (.func f) first cap)) (hF:FnI C.P f) (ha:ArgsOk e args.toList vs)
  (hc:∀ w,St C.w0 C.S fs w→Calls C.P f (first++vs.toArray++cap) w (Ret w v)) (kk:LW C ops Q rest ((d,v)::e) fs):LW C ops Q (⟨some d,.call { callee:=.value fo,args:=args,argTypes:=tys },t,pos,af,none⟩::rest) e fs :=
 LW.cr hd rfl (.fn hf ha) hc kk
theorem LW.callN {tys:Array TypeId} {first cap:Array Value} {Φ:Value→Fs→Prop} (hd:Nat.blt d C.N=true) (hf:e.ev fo=some (.func (.func f) first cap)) (hF:FnI C.P f) (ha:ArgsOk e args.toList vs)
  (hc:∀ w,St C.w0 C.S fs w→Calls C.P f (first++vs.toArray++cap) w (RetG w [] Φ)) (kk:∀ v gs,Φ v gs→LW C ops Q rest ((d,v)::e) (gs++fs)):LW C ops Q (⟨some d,.call { callee:=.value fo,args:=args,argTypes:=tys },t,pos,af,none⟩::rest) e fs :=
 LW.c0 hd rfl (.fn hf ha) hc kk
end lc
section dw
variable {C : Cu} {ops : Array Oper} {Q : Post} {tl rest : List Oper} {e : Env} {ts : Ts} {μ : Mu} {k d : Nat} {op : Op} {t : TypeId} {pos : String} {af : Array Edge} {g : Option (Nat × Bool)}
theorem DW.nil (h:LW C ops Q tl e (fsOf ts)):DW C ops μ Q tl [] k e ts:=by
 intro a φ tw tr ha hr hinv
 refine fun _ w hw=>h a w ⟨ha,hw.1,fun p hp=>?_,?_⟩
 ·obtain ⟨q,hq,rfl⟩:=List.mem_map.1 hp
  have h1:=hr.fsome q hq
  exact ⟨hinv _ (by rw [h1];simp),hw.2 _ _ h1⟩
 ·simp only [fsOf,List.pairwise_map];exact hr.nd
def noTouch:Op→Bool
 |.load ..=>false
 |.store ..=>false
 |.call { callee:=.builtin .len,.. }=>true
 |.call { callee:=.builtin .min,.. }=>true
 |.call { callee:=.builtin .max,.. }=>true
 |.call _=>false
 |_=>true
theorem touch_none {op:Op} (h:noTouch op=true) {ρ:Operand→Value} {d:Option Nat} {t:TypeId} {pos:String} {af:Array Edge} {g:Option (Nat × Bool)}:touch ⟨d,op,t,pos,af,g⟩ ρ=[]:=by
 unfold touch
 cases op<;>simp only [noTouch] at h ⊢<;>try (cases h;done)
 rename_i c
 unfold touchC
 obtain ⟨callee,args,tys⟩:=c
 cases callee with
 |builtin b=>cases b<;>simp_all
 |_=>simp_all
theorem tch_want {xs:List Operand} {o:Oper} (hw:Region.wanted o (yielded ops a.tmps)=true):tch xs ops o a=touchX xs o a.eval:=by unfold tch;rw [if_pos hw]
theorem mv_none {f:Bool} {op:Op} (h:noTouch op=true) {ρ:Operand→Value} {d:Option Nat} {t:TypeId} {pos:String} {af:Array Edge} {g:Option (Nat × Bool)}:mvB f ⟨d,op,t,pos,af,g⟩ ρ=[]:=by
 unfold mvB
 split
 ·rename_i ho
  have ho':op=_:=ho
  rw [ho'] at h
  cases h
 ·rename_i ho
  have ho':op=_:=ho
  rw [ho'] at h
  cases h
 ·rfl
theorem DW.v0 (hk:ops[k]?=some ⟨some d,op,t,pos,af,g⟩) (hm:μ k=none) (hd:Nat.blt d C.N=true) (hg:WantT ops e g) (ht:noTouch op=true) (h:ValP C.P e [] op v) (kk:DW C ops μ Q tl rest (k+1) ((d,v)::e) ts) :
  DW C ops μ Q tl (⟨some d,op,t,pos,af,g⟩::rest) k e ts:=by
 intro a φ tw tr ha hr hinv
 have hw:=WantT.wanted (o:=⟨some d,op,t,pos,af,g⟩) hg ha
 have htch:tch (exs (μ k)) ops ⟨some d,op,t,pos,af,g⟩ a=[]:=by rw [tch_want hw,hm];exact touch_none ht
 unfold walk dOp
 simp only [hk]
 rw [htch]
 refine ⟨by simp,.inl ⟨.val v,.inl ⟨hw,hm,fun w _=>h _ w ha.Ev (by simp) _ _ _ _ _⟩,by simp [Eff.wr],?_⟩⟩
 refine kk _ _ _ _ (ha.put hd) ⟨hr.fsome,fun p hp j hj=>?_,fun p hp j hj=>?_,fun b hb j hj=>?_,fun b hb hB j hj=>?_,hr.nd⟩ hinv
 ·rcases hj with hj|⟨_,hj⟩
  ·exact hr.ftw p hp j hj
  ·simp [Eff.wr] at hj
 ·rcases hj with hj|⟨_,hj⟩
  ·exact hr.ftr p hp j hj
  ·simp at hj
 ·rcases hj with hj|⟨_,hj⟩
  ·exact hr.old b hb j hj
  ·simp [Eff.wr] at hj
 ·rcases hj with hj|⟨_,hj⟩
  ·exact hr.oldr b hb hB j hj
  ·simp at hj
theorem DW.skip {s:Nat} {b:Bool} (hk:ops[k]?=some ⟨some d,op,t,pos,af,some (j,b)⟩) (hd:Nat.blt d C.N=true) (hs:(ops[j]?).bind (·.dst)=some s) (he:e.get s=some (.bool (!b))) (kk:DW C ops μ Q tl rest (k+1) ((d,undef)::e) ts) :
  DW C ops μ Q tl (⟨some d,op,t,pos,af,some (j,b)⟩::rest) k e ts:=by
 intro a φ tw tr ha hr hinv
 have hw:Region.wanted ⟨some d,op,t,pos,af,some (j,b)⟩ (yielded ops a.tmps)=false:=by
  have hy:yielded ops a.tmps j=some (!b):=by simp [yielded,hs,ha.get s _ he]
  cases b<;>simp [Region.wanted,hy]
 exact dTAJvq
inductive TRead (ops:Array Oper) (k:Nat):Ts→Nat→Obj→Ts→Prop
 |head {b:Nat} {o:Obj} {ws rs:List Nat} {r:Ts} (h:ancB ops k ws=true):TRead ops k ((b,o,ws,rs)::r) b o ((b,o,ws,k::rs)::r)
 |tail {p:Nat × Obj × List Nat × List Nat} {b:Nat} {o:Obj} {r r':Ts} (h:TRead ops k r b o r'):TRead ops k (p::r) b o (p::r')
inductive TSet (ops:Array Oper) (k:Nat) (o':Obj):Ts→Nat→Obj→Ts→Prop
 |head {b:Nat} {o:Obj} {ws rs:List Nat} {r:Ts} (h:ancB ops k ws=true) (h':ancB ops k rs=true):TSet ops k o' ((b,o,ws,rs)::r) b o ((b,o',k::ws,k::rs)::r)
 |tail {p:Nat × Obj × List Nat × List Nat} {b:Nat} {o:Obj} {r r':Ts} (h:TSet ops k o' r b o r'):TSet ops k o' (p::r) b o (p::r')
theorem TRead.mem {ts':Ts} (h:TRead ops k ts b o ts'):∃ ws rs,(b,o,ws,rs)∈ts∧ancB ops k ws=true:=by
 induction h with
 |head h=>exact ⟨_,_,List.mem_cons_self,h⟩
 |tail _ ih=>obtain ⟨ws,rs,h1,h2⟩:=ih;exact ⟨ws,rs,List.mem_cons_of_mem _ h1,h2⟩
theorem TRead.fsts {ts':Ts} (h:TRead ops k ts b o ts'):ts'.map (·.1)=ts.map (·.1):=by
 induction h with
 |head h=>rfl
 |tail _ ih=>simp [ih]
theorem TRead.inv {ts':Ts} (h:TRead ops k ts b o ts'):∀ p∈ts',∃ q∈ts,q.1=p.1∧q.2.1=p.2.1∧q.2.2.1=p.2.2.1∧((p.1=b∧p.2.2.2=k::q.2.2.2)∨p=q):=by
 induction h with
 |head h =>
  intro p hp
  rcases List.mem_cons.1 hp with rfl|hp
  ·exact ⟨_,List.mem_cons_self,rfl,rfl,rfl,.inl ⟨rfl,rfl⟩⟩
  ·exact ⟨p,List.mem_cons_of_mem _ hp,rfl,rfl,rfl,.inr rfl⟩
 |tail _ ih =>
  intro p hp
  rcases List.mem_cons.1 hp with rfl|hp
  ·exact ⟨_,List.mem_cons_self,rfl,rfl,rfl,.inr rfl⟩
  ·obtain ⟨q,h1,h2⟩:=ih p hp;exact ⟨q,List.mem_cons_of_mem _ h1,h2⟩
theorem TSet.mem {ts':Ts} (h:TSet ops k o' ts b o ts'):∃ ws rs,(b,o,ws,rs)∈ts∧ancB ops k ws=true∧ancB ops k rs=true:=by
 induction h with
 |head h h'=>exact ⟨_,_,List.mem_cons_self,h,h'⟩
 |tail _ ih=>obtain ⟨ws,rs,h1,h2⟩:=ih;exact ⟨ws,rs,List.mem_cons_of_mem _ h1,h2⟩
theorem TSet.fsts {ts':Ts} (h:TSet ops k o' ts b o ts'):ts'.map (·.1)=ts.map (·.1):=by
 induction h with
 |head h=>rfl
 |tail _ ih=>simp [ih]
theorem TSet.inv {ts':Ts} (h:TSet ops k o' ts b o ts') (hn:ts.Pairwise fun p q=>p.1 ≠ q.1) :
  ∀ p∈ts',(p.1=b∧p.2.1=o'∧∃ q∈ts,q.1=b∧p.2.2.1=k::q.2.2.1∧p.2.2.2=k::q.2.2.2)∨(p∈ts∧p.1 ≠ b):=by
 induction h with
 |head h =>
  intro p hp
  rcases List.mem_cons.1 hp with rfl|hp
  ·exact .inl ⟨rfl,rfl,_,List.mem_cons_self,rfl,rfl,rfl⟩
  ·exact .inr ⟨List.mem_cons_of_mem _ hp,fun e=>(List.pairwise_cons.1 hn).1 p hp e.symm⟩
 |tail h ih =>
  intro p hp
  obtain ⟨h1,h2⟩:=List.pairwise_cons.1 hn
  rcases List.mem_cons.1 hp with rfl|hp
  ·obtain ⟨ws,rs,hm,_⟩:=h.mem
   exact .inr ⟨List.mem_cons_self,h1 _ hm⟩
  ·rcases ih h2 p hp with ⟨e1,e2,q,hq,e3⟩|⟨e1,e2⟩
   ·exact .inl ⟨e1,e2,q,List.mem_cons_of_mem _ hq,e3⟩
   ·exact .inr ⟨List.mem_cons_of_mem _ e1,e2⟩
theorem pairwise_map1 {ts ts':Ts} (h:ts'.map (·.1)=ts.map (·.1)) (hn:ts.Pairwise fun p q=>p.1 ≠ q.1):ts'.Pairwise fun p q=>p.1 ≠ q.1:=by
 have h1:(ts.map (·.1)).Pairwise (· ≠ ·):=by rw [List.pairwise_map];exact hn
 rw [← h,List.pairwise_map] at h1
 exact h1
inductive ReadAll (C:Cu) (ops:Array Oper) (k:Nat):List Nat→Ts→Fs→Ts→Prop
 |nil {ts:Ts}:ReadAll C ops k [] ts [] ts
 |own {b:Nat} {o:Obj} {bs:List Nat} {ts ts1 ts2:Ts} {us:Fs} (h:TRead ops k ts b o ts1) (hs:ReadAll C ops k bs ts1 us ts2):ReadAll C ops k (b::bs) ts ((b,o)::us) ts2
 |ext {b:Nat} {o:Obj} {bs:List Nat} {ts ts2:Ts} {us:Fs} (h:C.w0.heap[b]?=some o) (hS:b ∉ C.S) (hs:ReadAll C ops k bs ts us ts2):ReadAll C ops k (b::bs) ts ((b,o)::us) ts2
theorem TRead.tag {ts':Ts} (h:TRead ops k ts b o ts'):(ts.Pairwise fun p q=>p.1 ≠ q.1)→∀ p∈ts',p.1=b→k∈p.2.2.2:=by
 induction h with
 |head h =>
  intro hn p hp hpb
  rcases List.mem_cons.1 hp with rfl|hp
  ·exact List.mem_cons_self
  ·exact absurd hpb (fun e=>(List.pairwise_cons.1 hn).1 p hp e.symm)
 |tail h ih =>
  intro hn p hp hpb
  obtain ⟨n1,n2⟩:=List.pairwise_cons.1 hn
  rcases List.mem_cons.1 hp with rfl|hp
  ·obtain ⟨ws,rs,hm,_⟩:=h.mem
   exact absurd hpb (n1 _ hm)
  ·exact ih n2 p hp hpb
theorem Rel.read {B:Nat} {tw tr:Tag} (hr:Rel B ts φ tw tr) {ts':Ts} {b:Nat} {o:Obj} (h:TRead ops k ts b o ts'):Rel B ts' φ tw (addT tr [b] k):=by
 obtain ⟨ws,rs,hm,_⟩:=h.mem
 have hφ:=hr.fsome _ hm
 refine ⟨fun p hp=>?_,fun p hp j hj=>?_,fun p hp j hj=>?_,hr.old,fun x hx hB j hj=>?_,pairwise_map1 h.fsts hr.nd⟩
 ·obtain ⟨q,h1,h2,h3,h4,_⟩:=h.inv p hp;rw [← h2,← h3];exact hr.fsome q h1
 ·obtain ⟨q,h1,h2,h3,h4,_⟩:=h.inv p hp;rw [← h4];exact hr.ftw q h1 j (by rw [h2];exact hj)
 ·obtain ⟨q,h1,h2,h3,h4,h5⟩:=h.inv p hp
  rcases hj with hj|⟨rfl,hj⟩
  ·have:=hr.ftr q h1 j (by rw [h2];exact hj)
   rcases h5 with ⟨_,h5⟩|rfl
   ·rw [h5];exact List.mem_cons_of_mem _ this
   ·exact this
  ·exact h.tag hr.nd p hp (by simpa using hj)
 ·rcases hj with hj|⟨_,hj⟩
  ·exact hr.oldr x hx hB j hj
  ·have:x=b:=by simpa using hj
   subst this
   rw [hφ] at hx
   cases hx
theorem addT_nil (t:Tag) (k:Nat):addT t [] k=t:=by funext b j;simp [addT]
theorem addT_app (t:Tag) (u v:List Nat) (k:Nat):addT t (u++v) k=addT (addT t u k) v k:=by
 funext b j
 simp only [addT,List.mem_append,and_or_left,or_assoc]
theorem ReadAll.rel {bs:List Nat} {us:Fs} {ts':Ts} (h:ReadAll C ops k bs ts us ts'):∀ {φ:Facts} {tw tr:Tag},C.cx.inv φ→Rel C.w0.heap.size ts φ tw tr→Rel C.w0.heap.size ts' φ tw (addT tr bs k) ∧
  (∀ b∈bs,(φ b ≠ none∨b < C.w0.heap.size)∧∀ j,tw b j→Anc ops j k)∧(∀ w,C.cx.on φ bs w→∀ p∈us,w.heap[p.1]?=some p.2):=by
 induction h with
 |nil=>intro φ tw tr _ hr;rw [addT_nil];exact ⟨hr,by simp,by simp⟩
 |own h hs ih =>
  rename_i b o bs ts ts1 ts2 us
  intro φ tw tr hinv hr
  have h1:=hr.read h
  obtain ⟨i1,i2,i3⟩:=ih hinv h1
  obtain ⟨ws,rs,hm,hb⟩:=h.mem
  have hs1:=hr.fsome _ hm
  refine ⟨by rw [show b::bs=[b]++bs from rfl,addT_app];exact i1,fun x hx=>?_,fun w hw p hp=>?_⟩
  ·rcases List.mem_cons.1 hx with rfl|hx
   ·exact ⟨.inl (by rw [hs1];simp),fun j hj=>ancB_spec hb j (hr.ftw _ hm j hj)⟩
   ·exact i2 x hx
  ·rcases List.mem_cons.1 hp with rfl|hp
   ·exact hw.2 b List.mem_cons_self o hs1
   ·exact i3 w ⟨hw.1,fun y hy=>hw.2 y (List.mem_cons_of_mem _ hy)⟩ p hp
 |ext h hS hs ih =>
  rename_i b o bs ts ts2 us
  intro φ tw tr hinv hr
  have hlt:b < C.w0.heap.size:=(Array.getElem?_eq_some_iff.1 h).1
  have hb:φ b=none:=by
   cases hb:φ b with
   |none=>rfl
   |some x =>
    rcases hinv b (by rw [hb];simp) with h1|h1
    ·exact absurd hlt (by simp only [Cu.cx] at h1;omega)
    ·exact absurd h1 hS
  have h1:Rel C.w0.heap.size ts φ tw (addT tr [b] k):=by
   refine ⟨hr.fsome,hr.ftw,fun p hp j hj=>?_,hr.old,fun x hx hB j hj=>?_,hr.nd⟩
   ·rcases hj with hj|⟨_,hj⟩
    ·exact hr.ftr p hp j hj
    ·have:p.1=b:=by simpa using hj
     have h2:=hr.fsome p hp
     rw [this,hb] at h2
     cases h2
   ·rcases hj with hj|⟨_,hj⟩
    ·exact hr.oldr x hx hB j hj
    ·have:x=b:=by simpa using hj
     omega
  obtain ⟨i1,i2,i3⟩:=ih hinv h1
  refine ⟨by rw [show b::bs=[b]++bs from rfl,addT_app];exact i1,fun x hx=>?_,fun w hw p hp=>?_⟩
  ·rcases List.mem_cons.1 hx with rfl|hx
   ·exact ⟨.inr hlt,fun j hj=>absurd hj (hr.old _ hb j)⟩
   ·exact i2 x hx
  ·rcases List.mem_cons.1 hp with rfl|hp
   ·show w.heap[b]?=some o
    rw [hw.1.block b hlt hS];exact h
   ·exact i3 w ⟨hw.1,fun y hy=>hw.2 y (List.mem_cons_of_mem _ hy)⟩ p hp
theorem DW.vr {bs:List Nat} {us:Fs} {ts':Ts} (hk:ops[k]?=some ⟨some d,op,t,pos,af,g⟩) (hm:μ k=none) (hd:Nat.blt d C.N=true) (hg:WantT ops e g) (ht:∀ ρ,Ev e ρ→touch ⟨some d,op,t,pos,af,g⟩ ρ=bs) (h:ValP C.P e us op v)
  (hr:ReadAll C ops k bs ts us ts') (kk:DW C ops μ Q tl rest (k+1) ((d,v)::e) ts'):DW C ops μ Q tl (⟨some d,op,t,pos,af,g⟩::rest) k e ts:=by
 intro a φ tw tr ha hrel hinv
 have hw:=WantT.wanted (o:=⟨some d,op,t,pos,af,g⟩) hg ha
 have htch:tch (exs (μ k)) ops ⟨some d,op,t,pos,af,g⟩ a=bs:=by rw [tch_want hw,hm];exact ht _ ha.Ev
 obtain ⟨i1,i2,i3⟩:=hr.rel hinv hrel
 unfold walk dOp
 simp only [hk]
 rw [htch]
 refine ⟨i2,.inl ⟨.val v,.inl ⟨hw,hm,fun w hw'=>?_⟩,by simp [Eff.wr],?_⟩⟩
 ·rw [ht _ ha.Ev] at hw'
  exact h _ w ha.Ev (i3 w hw') _ _ _ _ _
 ·simp only [Eff.wr,addT_nil]
  exact kk _ _ _ _ (ha.put hd) i1 hinv
theorem DW.cr {vs:Array Value} {v:Value} {bs:List Nat} {us:Fs} {ts':Ts} (hk:ops[k]?=some ⟨some d,op,t,pos,af,g⟩) (hm:μ k=none) (hd:Nat.blt d C.N=true) (hg:WantT ops e g) (ht:∀ ρ,Ev e ρ→touch ⟨some d,op,t,pos,af,g⟩ ρ=bs) (h:CallP C.P e op f vs)
  (hr:ReadAll C ops k bs ts us ts') (hc:∀ w,Bel C.w0.heap.size C.S C.w0 w→(∀ p∈us,w.heap[p.1]?=some p.2)→Calls C.P f vs w (Ret w v)) (kk:DW C ops μ Q tl rest (k+1) ((d,v)::e) ts'):DW C ops μ Q tl (⟨some d,op,t,pos,af,g⟩::rest) k e ts:=by
 intro a φ tw tr ha hrel hinv
 have hw:=WantT.wanted (o:=⟨some d,op,t,pos,af,g⟩) hg ha
 have htch:tch (exs (μ k)) ops ⟨some d,op,t,pos,af,g⟩ a=bs:=by rw [tch_want hw,hm];exact ht _ ha.Ev
 obtain ⟨i1,i2,i3⟩:=hr.rel hinv hrel
 unfold walk dOp
 simp only [hk]
 rw [htch]
 refine ⟨i2,.inl ⟨.call f vs v,.inl ⟨hw,hm,fun w hw'=>?_⟩,by simp [Eff.wr],?_⟩⟩
 ·rw [ht _ ha.Ev] at hw'
  exact ⟨h _ w ha.Ev _ _ _ _ _,hc w hw'.1 (i3 w hw')⟩
 ·simp only [Eff.wr,addT_nil]
  exact kk _ _ _ _ (ha.put hd) i1 hinv
theorem DW.new {s:Sh} {ob:Obj} (hk:ops[k]?=some ⟨some d,op,t,pos,af,g⟩) (hm:μ k=none) (hd:Nat.blt d C.N=true) (hg:WantT ops e g) (ht:noTouch op=true) (h:NewP C.P e op s ob) (kk:∀ b,DW C ops μ Q tl rest (k+1) ((d,s.val b)::e) ((b,ob,[k],[])::ts)) :
  DW C ops μ Q tl (⟨some d,op,t,pos,af,g⟩::rest) k e ts:=by
 intro a φ tw tr ha hrel hinv
 have hw:=WantT.wanted (o:=⟨some d,op,t,pos,af,g⟩) hg ha
 have htch:tch (exs (μ k)) ops ⟨some d,op,t,pos,af,g⟩ a=[]:=by rw [tch_want hw,hm];exact touch_none ht
 unfold walk dOp
 simp only [hk]
 rw [htch]
 have hmv:mvE (flg (μ k)) ops ⟨some d,op,t,pos,af,g⟩ a=[]:=by unfold mvE;rw [if_pos hw];exact mv_none ht
 rw [hmv]
 refine ⟨by simp,.inr ⟨newM s ob,⟨hw,.inl ⟨hm,s,ob,fun w _=>h _ w ha.Ev _ _ _ _ _,rfl⟩⟩,(fun _ h=>by cases h),fun v gs hM hf _=>?_⟩⟩
 obtain ⟨b,rfl,rfl⟩:=hM
 obtain ⟨hb,hn⟩:=hf.none b (by simp [keys])
 simp only [keys,List.map_cons,List.map_nil,upds,List.nil_append]
 rw [addT_nil]
 have hne:∀ p∈ts,p.1 ≠ b:=fun p hp e=>by have:=hrel.fsome p hp;rw [e,hn] at this;cases this
 refine kk b _ _ _ _ (ha.put hd) ⟨fun p hp=>?_,fun p hp j hj=>?_,fun p hp j hj=>?_,fun x hx j hj=>?_,fun x hx hB j hj=>?_,List.pairwise_cons.2 ⟨fun p hp e=>hne p hp e.symm,hrel.nd⟩⟩ (inv_upd hinv (.inl hb) _)
 ·rcases List.mem_cons.1 hp with rfl|hp
  ·exact upd_same _ _ _
  ·rw [upd_other _ _ (hne p hp)];exact hrel.fsome p hp
 ·rcases List.mem_cons.1 hp with rfl|hp
  ·rcases hj with hj|⟨rfl,_⟩
   ·exact absurd hj (hrel.old _ hn j)
   ·exact List.mem_cons_self
  ·rcases hj with hj|⟨_,hj⟩
   ·exact hrel.ftw p hp j hj
   ·exact absurd (by simpa using hj) (hne p hp)
 ·rcases List.mem_cons.1 hp with rfl|hp
  ·exact absurd hj (hrel.oldr _ hn hb j)
  ·exact hrel.ftr p hp j hj
 ·have hxb:x ≠ b:=fun e=>by subst e;rw [upd_same] at hx;cases hx
  rw [upd_other _ _ hxb] at hx
  rcases hj with hj|⟨_,hj⟩
  ·exact hrel.old x hx j hj
  ·exact hxb (by simpa using hj)
 ·have hxb:x ≠ b:=fun e=>by subst e;rw [upd_same] at hx;cases hx
  rw [upd_other _ _ hxb] at hx
  exact hrel.oldr x hx hB j hj
def tsNew (k:Nat) (gs:Fs):Ts:=gs.map fun p=>(p.1,p.2,[k],[])
theorem DW.many {vs:Array Value} {bs:List Nat} {us:Fs} {ts':Ts} {xs:List Operand} (hmv:∀ ρ,mvB false ⟨some d,op,t,pos,af,g⟩ ρ=[]) (hk:ops[k]?=some ⟨some d,op,t,pos,af,g⟩) (hm:μ k=some (cst M,⟨false,xs⟩)) (hd:Nat.blt d C.N=true) (hg:WantT ops e g) (ht:∀ ρ,Ev e ρ→touchX xs ⟨some d,op,t,pos,af,g⟩ ρ=bs) (h:CallP C.P e op f vs)
  (hr:ReadAll C ops k bs ts us ts') (hc:∀ w,Bel C.w0.heap.size C.S C.w0 w→(∀ p∈us,w.heap[p.1]?=some p.2)→Calls C.P f vs w (RetG w [] M)) (kk:∀ v gs,M v gs→DW C ops μ Q tl rest (k+1) ((d,v)::e) (tsNew k gs++ts')):DW C ops μ Q tl (⟨some d,op,t,pos,af,g⟩::rest) k e ts:=by
 intro a φ tw tr ha hrel0 hinv
 have hw:=WantT.wanted (o:=⟨some d,op,t,pos,af,g⟩) hg ha
 have htch:tch (exs (μ k)) ops ⟨some d,op,t,pos,af,g⟩ a=bs:=by rw [tch_want hw,hm];exact ht _ ha.Ev
 obtain ⟨hrel,i2,i3⟩:=hr.rel hinv hrel0
 unfold walk dOp
 simp only [hk]
 rw [htch]
 have hmv':mvE (flg (μ k)) ops ⟨some d,op,t,pos,af,g⟩ a=[]:=by rw [hm];unfold mvE;rw [if_pos hw];exact hmv _
 rw [hmv']
 refine ⟨i2,.inr ⟨M,⟨hw,.inr ⟨⟨cst M,by rw [hm];rfl,rfl⟩,.inl fun w hw'=>?_⟩⟩,(fun _ h=>by cases h),fun v gs hM hf0 _=>?_⟩⟩
 ·rw [show touchX (exs (μ k)) ⟨some d,op,t,pos,af,g⟩ a.eval=bs from by rw [hm];exact ht _ ha.Ev] at hw'
  refine ⟨f,vs,h _ w ha.Ev _ _ _ _ _,?_,?_,?_⟩
  ·rw [hm,show mvB (flg (some (cst M,⟨false,xs⟩))) _ _=[] from hmv _];exact hc w hw'.1 (i3 w hw')
  ·rw [hm,show mvB (flg (some (cst M,⟨false,xs⟩))) _ _=[] from hmv _];intro b hb;cases hb
  ·rw [hm,show mvB (flg (some (cst M,⟨false,xs⟩))) _ _=[] from hmv _];intro _ _ _ b hb;cases hb
 have hf:(∀ b∈keys gs,C.cx.w0.heap.size≤b∧φ b=none)∧gs.Pairwise fun p q=>p.1 ≠ q.1:=⟨hf0.none,hf0.2⟩
 rw [List.nil_append]
 have hkey:∀ p∈ts',p.1 ∉ keys gs:=fun p hp hk'=>by have:=hrel.fsome p hp;rw [(hf.1 _ hk').2] at this;cases this
 have hin:∀ p∈tsNew k gs,p.1∈keys gs∧(p.1,p.2.1)∈gs∧p.2.2=([k],[]):=fun p hp=>by
  obtain ⟨q,hq,rfl⟩:=List.mem_map.1 hp
  exact ⟨List.mem_map.2 ⟨q,hq,rfl⟩,hq,rfl⟩
 have hup:∀ q∈gs,upds φ gs q.1=some q.2:=by
  have:∀ l:Fs,(l.Pairwise fun p q=>p.1 ≠ q.1)→∀ q∈l,upds φ l q.1=some q.2:=by
   intro l
   induction l with
   |nil=>intro _ q hq;cases hq
   |cons x l ih =>
    intro hn q hq
    exact dTAieO
  exact this gs hf.2
 refine kk v gs hM _ _ _ _ (ha.put hd) ⟨fun p hp=>?_,fun p hp j hj=>?_,fun p hp j hj=>?_,fun x hx j hj=>?_,fun x hx hB j hj=>?_,?_⟩ (inv_upds hinv (fun b hb=>.inl (hf.1 b hb).1))
 ·rcases List.mem_append.1 hp with hp|hp
  ·exact hup _ (hin p hp).2.1
  ·rw [upds_other (hkey p hp)];exact hrel.fsome p hp
 ·rcases List.mem_append.1 hp with hp|hp
  ·rw [(hin p hp).2.2]
   rcases hj with hj|⟨rfl,_⟩
   ·exact absurd hj (hrel.old _ (hf.1 _ (hin p hp).1).2 j)
   ·exact List.mem_cons_self
  ·rcases hj with hj|⟨_,hj⟩
   ·exact hrel.ftw p hp j hj
   ·exact absurd hj (hkey p hp)
 ·rcases List.mem_append.1 hp with hp|hp
  ·obtain ⟨h1,h2⟩:=hf.1 _ (hin p hp).1
   exact absurd hj (hrel.oldr _ h2 h1 j)
  ·exact hrel.ftr p hp j hj
 ·have hxk:x ∉ keys gs:=fun h=>upds_key h hx
  rw [upds_other hxk] at hx
  rcases hj with hj|⟨_,hj⟩
  ·exact hrel.old x hx j hj
  ·exact hxk hj
 ·have hxk:x ∉ keys gs:=fun h=>upds_key h hx
  rw [upds_other hxk] at hx
  exact hrel.oldr x hx hB j hj
 ·refine List.pairwise_append.2 ⟨?_,hrel.nd,fun p hp q hq e=>hkey q hq (by rw [← e];exact (hin p hp).1)⟩
  simp only [tsNew,List.pairwise_map];exact hf.2
theorem DW.set {ts':Ts} (hk:ops[k]?=some ⟨none,op,t,pos,af,g⟩) (hm:μ k=none) (hg:WantT ops e g) (ht:∀ ρ,Ev e ρ→touch ⟨none,op,t,pos,af,g⟩ ρ=[b]∧stBlk ⟨none,op,t,pos,af,g⟩ ρ=some b) (hs:TSet ops k o' ts b o ts') (h:SetP C.P e op b o o')
  (kk:DW C ops μ Q tl rest (k+1) e ts'):DW C ops μ Q tl (⟨none,op,t,pos,af,g⟩::rest) k e ts:=by
 have hmu:=hm
 intro a φ tw tr ha hr hinv
 have hw:=WantT.wanted (o:=⟨none,op,t,pos,af,g⟩) hg ha
 have htch:tch (exs (μ k)) ops ⟨none,op,t,pos,af,g⟩ a=[b]:=by rw [tch_want hw,hmu];exact (ht _ ha.Ev).1
 obtain ⟨ws,rs,hm,hb1,hb2⟩:=hs.mem
 have hφ:=hr.fsome _ hm
 have hne:φ b ≠ none:=by rw [hφ];simp
 unfold walk dOp
 simp only [hk]
 rw [htch]
 refine ⟨fun x hx=>?_,.inl ⟨.set b o',.inl ⟨hw,hmu,(ht _ ha.Ev).2,hne,fun w hw'=>?_⟩,fun x hx j hj=>?_,?_⟩⟩
 ·have:x=b:=by simpa using hx
  subst this
  exact ⟨.inl hne,fun j hj=>ancB_spec hb1 j (hr.ftw _ hm j hj)⟩
 ·rw [(ht _ ha.Ev).1] at hw'
  exact h _ w ha.Ev (hw'.2 b (by simp) o hφ) _ _ _ _ _
 ·have:x=b:=by simpa [Eff.wr] using hx
  subst this
  exact ancB_spec hb2 j (hr.ftr _ hm j hj)
 ·refine kk _ _ _ _ ha.putNone ⟨fun p hp=>?_,fun p hp j hj=>?_,fun p hp j hj=>?_,fun x hx j hj=>?_,fun x hx hB j hj=>?_,pairwise_map1 hs.fsts hr.nd⟩ (inv_upd hinv (hinv b hne) _)
  ·rcases hs.inv hr.nd p hp with ⟨e1,e2,_⟩|⟨e1,e2⟩
   ·rw [e1,e2];exact upd_same _ _ _
   ·exact (upd_other _ _ e2).trans (hr.fsome p e1)
  ·rcases hs.inv hr.nd p hp with ⟨e1,e2,q,hq,e3,e4,e5⟩|⟨e1,e2⟩
   ·rcases hj with hj|⟨rfl,_⟩
    ·rw [e4];exact List.mem_cons_of_mem _ (hr.ftw q hq j (by rw [e3,← e1];exact hj))
    ·rw [e4];exact List.mem_cons_self
   ·rcases hj with hj|⟨_,hj⟩
    ·exact hr.ftw p e1 j hj
    ·exact absurd (by simpa [Eff.wr] using hj) e2
  ·rcases hs.inv hr.nd p hp with ⟨e1,e2,q,hq,e3,e4,e5⟩|⟨e1,e2⟩
   ·rcases hj with hj|⟨rfl,_⟩
    ·rw [e5];exact List.mem_cons_of_mem _ (hr.ftr q hq j (by rw [e3,← e1];exact hj))
    ·rw [e5];exact List.mem_cons_self
   ·rcases hj with hj|⟨_,hj⟩
    ·exact hr.ftr p e1 j hj
    ·exact absurd (by simpa using hj) e2
  ·have hxb:x ≠ b:=fun e=>by
    subst e
    have:Eff.phi (.set x o') φ x=none:=hx
    simp [Eff.phi,upd] at this
   have hx':φ x=none:=(upd_other φ o' hxb).symm.trans hx
   rcases hj with hj|⟨_,hj⟩
   ·exact hr.old x hx' j hj
   ·exact hxb (by simpa [Eff.wr] using hj)
  ·have hxb:x ≠ b:=fun e=>by
    subst e
    have:Eff.phi (.set x o') φ x=none:=hx
    simp [Eff.phi,upd] at this
   have hx':φ x=none:=(upd_other φ o' hxb).symm.trans hx
   rcases hj with hj|⟨_,hj⟩
   ·exact hr.oldr x hx' hB j hj
   ·exact hxb (by simpa using hj)
theorem ancB_nil:ancB ops i []=true:=rfl
theorem blocks_ptr {s:Option Nat}:blocksN 4 (.pointer (some ⟨b,off,s⟩))=[b]:=rfl
theorem DW.loadO {o:Obj} {v:Value} {ts':Ts} (hk:ops[k]?=some ⟨some d,.load T x,t,pos,af,g⟩) (hm:μ k=none) (hd:Nat.blt d C.N=true) (hg:WantT ops e g) (hx:e.ev x=some (.pointer (some ⟨b,off,none⟩)))
  (hr:TRead ops k ts b o ts') (h:Rd C.P T o off v) (kk:DW C ops μ Q tl rest (k+1) ((d,v)::e) ts'):DW C ops μ Q tl (⟨some d,.load T x,t,pos,af,g⟩::rest) k e ts :=
 DW.vr hk hm hd hg (bs:=[b]) (fun ρ hρ=>by simp only [touch,hρ _ _ hx,blocks_ptr]) (.load hx h) (.own hr .nil) kk
theorem DW.loadX {o:Obj} {v:Value} (hk:ops[k]?=some ⟨some d,.load T x,t,pos,af,g⟩) (hm:μ k=none) (hd:Nat.blt d C.N=true) (hg:WantT ops e g) (hx:e.ev x=some (.pointer (some ⟨b,off,none⟩)))
  (hr:C.w0.heap[b]?=some o) (hS:b ∉ C.S) (h:Rd C.P T o off v) (kk:DW C ops μ Q tl rest (k+1) ((d,v)::e) ts):DW C ops μ Q tl (⟨some d,.load T x,t,pos,af,g⟩::rest) k e ts :=
 DW.vr hk hm hd hg (bs:=[b]) (fun ρ hρ=>by simp only [touch,hρ _ _ hx,blocks_ptr]) (.load hx h) (.ext hr hS .nil) kk
theorem DW.store {o o':Obj} {ts':Ts} (hk:ops[k]?=some ⟨none,.store T x y,t,pos,af,g⟩) (hm:μ k=none) (hg:WantT ops e g) (hx:e.ev x=some (.pointer (some ⟨b,off,none⟩))) (hy:e.ev y=some v)
  (hs:TSet ops k o' ts b o ts') (h:Wr C.P T o off v o') (kk:DW C ops μ Q tl rest (k+1) e ts'):DW C ops μ Q tl (⟨none,.store T x y,t,pos,af,g⟩::rest) k e ts :=
 DW.set hk hm hg (fun ρ hρ=>⟨by simp only [touch,hρ _ _ hx,blocks_ptr],by simp only [stBlk,hρ _ _ hx]⟩) hs (.store hx hy h) kk
theorem DW.allocA {c:Array Value} [InfoI C.P T n (.agg c)] (hk:ops[k]?=some ⟨some d,.alloc T,t,pos,af,g⟩) (hm:μ k=none) (hd:Nat.blt d C.N=true) (hg:WantT ops e g)
  (kk:∀ b,DW C ops μ Q tl rest (k+1) ((d,.pointer (some ⟨b,0,none⟩))::e) ((b,.cells c T (0,0),[k],[])::ts)):DW C ops μ Q tl (⟨some d,.alloc T,t,pos,af,g⟩::rest) k e ts:=DW.new (s:=.ptr) hk hm hd hg rfl .alloc kk
theorem touch_call {tys:Array TypeId} {vf:Value} {ρ:Operand→Value} {dd:Option Nat} (hf:e.ev fo=some vf) (ha:ArgsOk e args.toList vs) (hρ:Ev e ρ) :
  touch ⟨dd,.call { callee:=.value fo,args:=args,argTypes:=tys },t,pos,af,g⟩ ρ=(vf::vs).flatMap (blocksN 4):=by
 have key:args.toList.flatMap (fun x=>blocksN 4 (ρ x))=vs.flatMap (blocksN 4):=by
  rw [← ha.map hρ,List.flatMap_map]
 show ((#[fo]++args).toList.flatMap fun x=>blocksN 4 (ρ x))=_
 simp only [Array.toList_append,List.flatMap_append,key,List.flatMap_cons]
 simp [hρ fo vf hf]
theorem DW.call {fo:Operand} {args:Array Operand} {tys:Array TypeId} {f:FuncId} {first cap:Array Value} {vs:List Value} {v:Value} {bs:List Nat} {us:Fs} {ts':Ts} (hk:ops[k]?=some ⟨some d,.call { callee:=.value fo,args:=args,argTypes:=tys },t,pos,af,g⟩) (hm:μ k=none)
  (hd:Nat.blt d C.N=true) (hg:WantT ops e g) (hf:e.ev fo=some (.func (.func f) first cap)) (hF:FnI C.P f) (ha:ArgsOk e args.toList vs) (hb:(Value.func (.func f) first cap::vs).flatMap (blocksN 4)=bs) (hr:ReadAll C ops k bs ts us ts')
  (hc:∀ w,Bel C.w0.heap.size C.S C.w0 w→(∀ p∈us,w.heap[p.1]?=some p.2)→Calls C.P f (first++vs.toArray++cap) w (Ret w v)) (kk:DW C ops μ Q tl rest (k+1) ((d,v)::e) ts') :
  DW C ops μ Q tl (⟨some d,.call { callee:=.value fo,args:=args,argTypes:=tys },t,pos,af,g⟩::rest) k e ts :=
 DW.cr hk hm hd hg (fun ρ hρ=>by rw [touch_call hf ha hρ,hb]) (.fn hf ha) hr hc kk
end dw
theorem Known.own {p:Nat × Obj} (h:p∈fs):Known C fs p:=.inl h
theorem Known.ext (h:C.w0.heap[b]?=some o) (h':b ∉ C.S):Known C fs (b,o):=.inr ⟨h,h'⟩
end
variable {ts' ts : Ts}
section
theorem dTAEAH {P:Prop} (h:P:=by
 intro vs
 induction vs with
 |nil=>intro c off h;simp at h;subst h;rw [wrCells,List.append_nil,List.take_of_length_le (by simp)]
 |cons v r ih =>
  intro c off h
  simp only [List.length_cons] at h
  rw [wrCells,ih _ _ (by simp;omega)]
  congr 1
  have hlt:off < c.toList.length:=by simp;omega
  simp only [Array.toList_setIfInBounds]
  have hl:(c.toList.take off).length=off:=by simp;omega
  rw [List.take_set,List.take_succ_eq_append_getElem hlt,List.set_append_right _ _ (by rw [hl];exact Nat.le_refl _),hl,Nat.sub_self]
  simp):P:=h
theorem dTAlMM {P:Prop} (h:P:=by
 simp only [execOp]
 exact (show ((do pure (.value (← Instr.build T (parts.map fun p=>(p.1,ρ p.2)))):Sem Next)).run P w=.ok (.value (.agg c)) w by simp [h4])):P:=h
variable {P : Program} {e : Env}
class EqI (P:Program) (T:TypeId) (n:outParam Nat) (k:outParam IntKind):Prop where
 eqi:∃ E i,P.underlying T=some (.array n E)∧P.info? E=some i∧P.cellsOf E=1∧P.underlying E=some (.int k)∧P.eqGuardType P.depth T=false
def eqiB (P:Program) (T n:Nat) (k:IntKind):Bool :=
 match P.underlying T with
 |some (.array m E)=>m == n && (P.info? E).isSome && P.cellsOf E == 1 && (match P.underlying E with|some (.int q)=>decide (q=k)|_=>false) && !P.eqGuardType P.depth T
 |_=>false
theorem EqI.mk' {T:Nat} {k:IntKind} (h:eqiB P T n k=true):EqI P T n k:=⟨by
 unfold eqiB at h
 split at h
 ·rename_i m E hu
  simp only [Bool.and_eq_true,beq_iff_eq,Bool.not_eq_true'] at h
  obtain ⟨⟨⟨⟨h1,h2⟩,h3⟩,h4⟩,h5⟩:=h
  subst h1
  split at h4
  ·rename_i q hq
   have:q=k:=by simpa using h4
   subst this
   cases hi:P.info? E with
   |none=>simp [hi] at h2
   |some i=>exact ⟨E,i,hu,hi,h3,hq,h5⟩
  ·cases h4
 ·cases h⟩
theorem part_int {k:IntKind} (hu:P.underlying E=some (.int k)) {xs:Array Value} {off:Nat} {v:Value} (hx:xs[off]?=some v) (w:World):(part E xs off).run P w=.ok v w:=by
 simp [part,isAgg,run_underlying hu,hx]
theorem eqItems_ints {E:TypeId} {k:IntKind} (hu:P.underlying E=some (.int k)) (d:Nat) (a b:List Int) (w:World):∀ (m i:Nat),i+m=a.length→a.length=b.length →
  (Op.eqItems (d+1) E 1 (a.map (Value.int k)).toArray (b.map (Value.int k)).toArray (List.range' i m)).run P w=.ok (decide (a.drop i=b.drop i)) w
 |0,i,h1,h2=>by
  have ha:a.drop i=[]:=List.drop_eq_nil_of_le (by omega)
  have hb:b.drop i=[]:=List.drop_eq_nil_of_le (by omega)
  simp [Op.eqItems,ha,hb]
 |m+1,i,h1,h2=>by
  have hi:i < a.length:=by omega
  have hi':i < b.length:=by omega
  have ha:a.drop i=a[i]::a.drop (i+1):=List.drop_eq_getElem_cons hi
  have hb:b.drop i=b[i]::b.drop (i+1):=List.drop_eq_getElem_cons hi'
  have p1:=part_int (P:=P) hu (xs:=(a.map (Value.int k)).toArray) (off:=i * 1) (v:=.int k a[i]) (by simp [hi]) w
  have p2:=part_int (P:=P) hu (xs:=(b.map (Value.int k)).toArray) (off:=i * 1) (v:=.int k b[i]) (by simp [hi']) w
  have ih:=eqItems_ints hu d a b w m (i+1) (by omega) h2
  simp only [List.range'_succ,Op.eqItems,Sem.run_bind,p1,p2,Result.andThen_ok,run_equalIn_int w d E k k _ _ hu]
  by_cases h:a[i]=b[i]
  ·rw [ha,hb,h];simp only [BEq.rfl,Bool.not_true,Bool.false_eq_true,if_false,ih,List.cons.injEq,true_and]
  ·rw [ha,hb];have h':(a[i] == b[i])=false:=by simpa using h
   simp only [h',Bool.not_false,if_true,Sem.run_pure,List.cons.injEq,h,false_and,decide_false]
def getInts (k:IntKind):List Value→Option (List Int)
 |[]=>some []
 |.int k' n::r=>match IntKind.beqK k' k with
  |true=>(getInts k r).map (n::·)
  |false=>none
 |_=>none
where IntKind.beqK:IntKind→IntKind→Bool:=fun a b=>decide (a=b)
theorem getInts_map {k:IntKind}:∀ {l:List Value} {a:List Int},getInts k l=some a→l=a.map (Value.int k)
 |[],a,h=>by simp [getInts] at h;subst h;rfl
 |v::r,a,h=>by
  cases v with
  |int k' n =>
   simp only [getInts] at h
   split at h
   ·rename_i hb
    simp only [getInts.IntKind.beqK,decide_eq_true_eq] at hb
    subst hb
    simp only [Option.map_eq_some_iff] at h
    obtain ⟨a',h1,rfl⟩:=h
    simp [getInts_map h1]
   ·cases h
  |_=>simp [getInts] at h
theorem run_eq_ints {T:Nat} {k:IntKind} [h:EqI P T n k] {xs ys:Array Value} {a b:List Int} (hx:getInts k xs.toList=some a) (hy:getInts k ys.toList=some b) (ha:a.length=n) (hb:b.length=n) (w:World) :
  (Op.equal T (.agg xs) (.agg ys)).run P w=.ok (decide (a=b)) w:=by
 obtain ⟨E,i,h1,h2,h3,h4,_⟩:=h.eqi
 have ex:xs=(a.map (Value.int k)).toArray:=by rw [← getInts_map hx]
 have ey:ys=(b.map (Value.int k)).toArray:=by rw [← getInts_map hy]
 subst ex;subst ey
 unfold Op.equal
 rw [show Op.maxDepth=(Op.maxDepth - 1)+1 from rfl,run_equalIn_array w _ _ _ h1 h2,h3,List.range_eq_range',show Op.maxDepth - 1=(Op.maxDepth - 2)+1 from rfl]
 have:=eqItems_ints h4 (Op.maxDepth - 2) a b w n 0 (by omega) (by omega)
 simpa using this
theorem guard_agg {op:BinOp} {T:Nat} {k:IntKind} [h:EqI P T n k] {x y:Operand} {xs ys:Array Value} (w:World):(eqGuard op T x y (.agg xs) (.agg ys)).run P w=.ok () w:=by
 obtain ⟨E,i,h1,h2,h3,h4,h5⟩:=h.eqi
 unfold eqGuard
 cases op<;>simp [Sem.run_bind,run_program,h5]
section eqs
variable {T ty n : Nat} {k : IntKind} [EqI P T n k] {x y : Operand} {xs ys : Array Value} {a b : List Int}
theorem ValP.eqlA (hx:e.ev x=some (.agg xs)) (hy:e.ev y=some (.agg ys)) (h1:getInts k xs.toList=some a) (h2:getInts k ys.toList=some b) (ha:a.length=n) (hb:b.length=n) :
  ValP P e [] (.binOp .eql T x y ty) (.bool (decide (a=b))) :=
 .bin hx hy (fun w=>guard_agg w) fun w=>by simp [binOp,run_eq_ints h1 h2 ha hb]
theorem ValP.neqA (hx:e.ev x=some (.agg xs)) (hy:e.ev y=some (.agg ys)) (h1:getInts k xs.toList=some a) (h2:getInts k ys.toList=some b) (ha:a.length=n) (hb:b.length=n) :
  ValP P e [] (.binOp .neq T x y ty) (.bool (!decide (a=b))) :=
 .bin hx hy (fun w=>guard_agg w) fun w=>by simp [binOp,run_eq_ints h1 h2 ha hb]
end eqs
def fillC (sz:Nat):Array Value→List (Nat × Value)→Array Value
 |z,[]=>z
 |z,(i,v)::r=>fillC sz (wrCells z (i * sz) v.cells.toList) r
def fillOk (sz len:Nat):List (Nat × Value)→Bool
 |[]=>true
 |(i,v)::r=>v.cells.size == sz && Nat.ble (i * sz+sz) len && fillOk sz len r
theorem wrCells_size:∀ (vs:List Value) (c:Array Value) (off:Nat),(wrCells c off vs).size=c.size
 |[],_,_=>rfl
 |v::r,c,off=>by simp [wrCells,wrCells_size r]
theorem foldl_wr:∀ (vs:List Value) (c:Array Value) (off j:Nat),(vs.zipIdx j).foldl (fun cs (p:Value × Nat)=>cs.setIfInBounds (off+p.2) p.1) c=wrCells c (off+j) vs
 |[],_,_,_=>rfl
 |v::r,c,off,j=>by
  simp only [List.zipIdx_cons,List.foldl_cons,wrCells]
  rw [foldl_wr r _ off (j+1)]
  rfl
theorem fill_eq {sz:Nat}:∀ (parts:List (Nat × Value)) (z:Array Value),fillOk sz z.size parts=true→Instr.fill (fun i=>some (i * sz,sz)) z parts=some (fillC sz z parts)
 |[],z,_=>rfl
 |(i,v)::r,z,h=>by
  simp only [fillOk,Bool.and_eq_true,beq_iff_eq] at h
  obtain ⟨⟨h1,h2⟩,h3⟩:=h
  have h2:=Nat.le_of_ble_eq_true h2
  have hf:(v.cells.zipIdx.foldl (fun cs (p:Value × Nat)=>cs.setIfInBounds (i * sz+p.2) p.1) z)=wrCells z (i * sz) v.cells.toList:=by
   have:=foldl_wr v.cells.toList z (i * sz) 0
   rw [← Array.foldl_toList]
   simpa using this
  have ih:=fill_eq r (wrCells z (i * sz) v.cells.toList) (by rw [wrCells_size];exact h3)
  simp only [Instr.fill,fillC]
  rw [if_neg (by simp [h1];omega)]
  exact (congrArg (fun q=>Instr.fill (fun i=>some (i * sz,sz)) q r) hf).trans ih
inductive PartsOk (e:Env):List (Nat × Operand)→List (Nat × Value)→Prop
 |nil:PartsOk e [] []
 |cons {i:Nat} {x:Operand} {v:Value} {l:List (Nat × Operand)} {vs:List (Nat × Value)} (h:e.ev x=some v) (hs:PartsOk e l vs):PartsOk e ((i,x)::l) ((i,v)::vs)
theorem PartsOk.map {l:List (Nat × Operand)} {vs:List (Nat × Value)} (h:PartsOk e l vs) {ρ:Operand→Value} (hρ:Ev e ρ):l.map (fun p=>(p.1,ρ p.2))=vs:=by
 induction h with
 |nil=>rfl
 |cons h _ ih=>simp [hρ _ _ h,ih]
theorem ValP.buildA {T len E nT:Nat} {zE:Value} {z:Array Value} {parts:Array (Nat × Operand)} {vs:List (Nat × Value)} {c:Array Value} [UnI P T (.array len E)] [InfoI P E sz zE] [InfoI P T nT (.agg z)] (hp:PartsOk e parts.toList vs)
  (hok:fillOk sz z.size vs=true) (hc:fillC sz z vs=c):ValP P e [] (.build T parts) (.agg c):=fun ρ w hρ _ d t pos af g=>by
 have h1:(parts.map fun p=>(p.1,ρ p.2)).toList=vs:=by simpa using hp.map hρ
 have h2:(Value.agg z).cells=z:=rfl
 have h3:=fill_eq vs z hok
 rw [hc] at h3
 have h4:(Instr.build T (parts.map fun p=>(p.1,ρ p.2))).run P w=.ok (.agg c) w:=by
  unfold Instr.build
  simp only [Sem.run_bind,run_zero,Result.andThen_ok,run_un,run_size,h1,h2,h3]
  simp
 exact dTAlMM
theorem Wr.whole {T:Nat} [InfoI P T n z] {c c':Array Value} {E:TypeId} (h1:c.size=n) (h2:c'.size=n) (hone:c'.toList.all Value.oneCell'=true):Wr P T (.cells c E (0,0)) 0 (.agg c') (.cells c' E (0,0)):=by
 refine Wr.cells (n:=n) (z:=z) (by simpa [Value.cells] using h2) hone (by omega) ?_
 have key:∀ (vs:List Value) (c:Array Value) (off:Nat),off+vs.length=c.size→wrCells c off vs=(c.toList.take off++vs).toArray:=by
  exact dTAEAH
 have:=key c'.toList c 0 (by simp;omega)
 simpa [Value.cells] using this
theorem ValP.indexA {T len E:Nat} {i:Operand} {c:Array Value} {j:Int} {k:Nat} {zE v:Value} [UnI P T (.array len E)] [AgI P E false] [InfoI P E sz zE] (hsz:(sz == 1)=true) (hx:e.ev x=some (.agg c)) (hi:e.ev i=some (.int ik j))
  (hj:j=(k:Int)) (hk:k < len) (hv:nth c.toList k=some v):ValP P e [] (.index T x i) v:=fun ρ w hρ _ d t pos af g=>by
 subst hj
 have h1:sz=1:=by simpa using hsz
 subst h1
 have h2:c[k]?=some v:=by rw [nth_eq] at hv;simpa using hv
 simp [execOp,hρ x _ hx,hρ i _ hi,Instr.index,Sem.run_bind,run_un,asIntOf,run_size,hk,part,run_isAgg,h2]
theorem LW.guardT' {C:Cu} {Q:Post} {rest:List Oper} {fs:Fs} {dst:Option Tmp} {op:Op} {t:TypeId} {pos:String} {af:Array Edge} {s:Nat} {g b:Bool} (hs:(ops[j]?).bind (·.dst)=some s) (he:e.get s=some (.bool b)) (hb:b=g)
  (h:LW C ops Q (⟨dst,op,t,pos,af,none⟩::rest) e fs):LW C ops Q (⟨dst,op,t,pos,af,some (j,g)⟩::rest) e fs:=LW.guardT hs (by rw [he,hb]) h
theorem LW.guardF' {Q:Post} {rest:List Oper} {fs:Fs} {op:Op} {t:TypeId} {pos:String} {af:Array Edge} {s:Nat} {g b:Bool} (hs:(ops[j]?).bind (·.dst)=some s) (he:e.get s=some (.bool b)) (hb:b=!g) (hd:Nat.blt d C.N=true)
  (h:LW C ops Q rest ((d,undef)::e) fs):LW C ops Q (⟨some d,op,t,pos,af,some (j,g)⟩::rest) e fs:=LW.guardF hs (by rw [he,hb]) hd h
theorem wantYes {s:Nat} {g b:Bool} (hs:(ops[j]?).bind (·.dst)=some s) (he:e.get s=some (.bool b)) (hb:b=g):WantT ops e (some (j,g)):=WantT.some hs (by rw [he,hb])
theorem DW.skip' {Q:Post} {tl rest:List Oper} {ts:Ts} {μ:Mu} {k:Nat} {op:Op} {pos:String} {s:Nat} {g b:Bool} (hk:ops[k]?=some ⟨some d,op,t,pos,af,some (j,g)⟩) (hd:Nat.blt d C.N=true) (hs:(ops[j]?).bind (·.dst)=some s)
  (he:e.get s=some (.bool b)) (hb:b=!g) (kk:DW C ops μ Q tl rest (k+1) ((d,undef)::e) ts):DW C ops μ Q tl (⟨some d,op,t,pos,af,some (j,g)⟩::rest) k e ts:=DW.skip hk hd hs (by rw [he,hb]) kk
theorem ValP.pickT' {c:Operand} {b:Bool} (hc:e.ev c=some (.bool b)) (hb:b=true) (h:e.ev x=some v):ValP P e [] (.pick c x y) v:=.pickT (by rw [hc,hb]) h
theorem ValP.pickF' {c:Operand} {b:Bool} (hc:e.ev c=some (.bool b)) (hb:b=false) (h:e.ev y=some v):ValP P e [] (.pick c x y) v:=.pickF (by rw [hc,hb]) h
theorem ValP.notT {b:Bool} (hx:e.ev x=some (.bool b)) (hb:b=true):ValP P e [] (.unOp .not T x) (.bool false):=by subst hb;exact .notB hx
theorem ValP.notF {b:Bool} (hx:e.ev x=some (.bool b)) (hb:b=false):ValP P e [] (.unOp .not T x) (.bool true):=by subst hb;exact .notB hx
theorem arr_id (l:List Value):(#[]:Array Value)++l.toArray++(#[]:Array Value)=l.toArray:=by simp
section ce
variable {C : Cu} {ops : Array Oper} {Q : Post} {tl rest : List Oper} {fs : Fs} {ts : Ts} {μ : Mu} {k d : Nat} {t : TypeId} {pos : String} {af : Array Edge} {g : Option (Nat × Bool)}
theorem LW.callE {tys:Array TypeId} {v:Value} (hd:Nat.blt d C.N=true) (hf:e.ev fo=some (.func (.func f) #[] #[])) (hF:FnI C.P f) (ha:ArgsOk e args.toList vs)
  (hc:∀ w,St C.w0 C.S fs w→Calls C.P f vs.toArray w (Ret w v)) (kk:LW C ops Q rest ((d,v)::e) fs):LW C ops Q (⟨some d,.call { callee:=.value fo,args:=args,argTypes:=tys },t,pos,af,none⟩::rest) e fs :=
 LW.call hd hf hF ha (fun w hw=>by rw [arr_id];exact hc w hw) kk
theorem DW.callE {fo:Operand} {args:Array Operand} {tys:Array TypeId} {f:FuncId} {vs:List Value} {v:Value} {bs:List Nat} {us:Fs} {ts':Ts} (hk:ops[k]?=some ⟨some d,.call { callee:=.value fo,args:=args,argTypes:=tys },t,pos,af,g⟩) (hm:μ k=none)
  (hd:Nat.blt d C.N=true) (hg:WantT ops e g) (hf:e.ev fo=some (.func (.func f) #[] #[])) (hF:FnI C.P f) (ha:ArgsOk e args.toList vs) (hb:(Value.func (.func f) #[] #[]::vs).flatMap (blocksN 4)=bs) (hr:ReadAll C ops k bs ts us ts')
  (hc:∀ w,Bel C.w0.heap.size C.S C.w0 w→(∀ p∈us,w.heap[p.1]?=some p.2)→Calls C.P f vs.toArray w (Ret w v)) (kk:DW C ops μ Q tl rest (k+1) ((d,v)::e) ts') :
  DW C ops μ Q tl (⟨some d,.call { callee:=.value fo,args:=args,argTypes:=tys },t,pos,af,g⟩::rest) k e ts :=
 DW.call hk hm hd hg hf hF ha hb hr (fun w h1 h2=>by rw [arr_id];exact hc w h1 h2) kk
theorem DW.manyE {fo:Operand} {args:Array Operand} {tys:Array TypeId} {f:FuncId} {vs:List Value} {M:Rel1} {bs:List Nat} {us:Fs} {ts':Ts} (hk:ops[k]?=some ⟨some d,.call { callee:=.value fo,args:=args,argTypes:=tys },t,pos,af,g⟩) (hm:μ k=some (cst M,(false:Fl)))
  (hd:Nat.blt d C.N=true) (hg:WantT ops e g) (hf:e.ev fo=some (.func (.func f) #[] #[])) (hF:FnI C.P f) (ha:ArgsOk e args.toList vs) (hb:(Value.func (.func f) #[] #[]::vs).flatMap (blocksN 4)=bs) (hr:ReadAll C ops k bs ts us ts')
  (hc:∀ w,Bel C.w0.heap.size C.S C.w0 w→(∀ p∈us,w.heap[p.1]?=some p.2)→Calls C.P f vs.toArray w (RetG w [] M)) (kk:∀ v gs,M v gs→DW C ops μ Q tl rest (k+1) ((d,v)::e) (tsNew k gs++ts')) :
  DW C ops μ Q tl (⟨some d,.call { callee:=.value fo,args:=args,argTypes:=tys },t,pos,af,g⟩::rest) k e ts :=
 DW.many (fun _=>rfl) hk hm hd hg (fun ρ hρ=>by show touch ⟨some d,.call { callee:=.value fo,args:=args,argTypes:=tys },t,pos,af,g⟩ ρ=bs;rw [touch_call hf ha hρ,hb]) (.fn hf ha) hr (fun w h1 h2=>by rw [arr_id];exact hc w h1 h2) kk
theorem fsOf_new {k:Nat} {gs:Fs}:fsOf (tsNew k gs)=gs:=by
 simp only [fsOf,tsNew,List.map_map]
 exact List.map_id _
end ce
section cv
variable {S T : TypeId} {x : Operand} {k : IntKind}
theorem ValP.convI {n:Int} {dd:TypeDesc} [UnI P S dd] [UnI P T (.int .i64)] (hx:e.ev x=some (.int k n)) (h0:-9223372036854775808≤n) (h1:n≤9223372036854775807):ValP P e [] (.convert S T x) (.int .i64 n):=.conv_in (ds:=dd) hx (wrapI n h0 h1)
theorem ValP.convN {n:Int} {dd:TypeDesc} [UnI P S dd] [UnI P T (.int .u64)] (hx:e.ev x=some (.int k n)) (h0:0≤n) (h1:n < 18446744073709551616):ValP P e [] (.convert S T x) (.int .u64 n):=.conv_in (ds:=dd) hx (by rw [wrapU];omega)
theorem ValP.convB {dd:TypeDesc} [UnI P S dd] [UnI P T (.int .u8)] (hx:e.ev x=some (.int k (n:Int))):ValP P e [] (.convert S T x) (.int .u8 ((n % 256:Nat):Int)):=by
 have h:=ValP.conv (P:=P) (S:=S) (T:=T) (ds:=dd) (k':=.u8) hx
 rwa [wrapB,show (n:Int) % 256=((n % 256:Nat):Int) by omega] at h
end cv
theorem ValP.extractN {vs:Array Value} (hx:e.ev x=some (.tuple vs)) (hi:nth vs.toList i=some v):ValP P e [] (.extract x i) v:=ValP.extract hx (by rw [nth_eq] at hi;simpa using hi)
theorem or64 {a:Nat} (ha:a < 18446744073709551616) (hb:b < 18446744073709551616):a |||b < 18446744073709551616:=Nat.or_lt_two_pow (n:=64) ha hb
theorem xor64 {a:Nat} (ha:a < 18446744073709551616) (hb:b < 18446744073709551616):a ^^^ b < 18446744073709551616:=Nat.xor_lt_two_pow (n:=64) ha hb
theorem div64 {a:Nat} (ha:a < 18446744073709551616):a / b < 18446744073709551616:=Nat.lt_of_le_of_lt (Nat.div_le_self _ _) ha
theorem and64 {a:Nat} (ha:a < 18446744073709551616):a &&& b < 18446744073709551616:=Nat.lt_of_le_of_lt Nat.and_le_left ha
section nats
variable {T ty : TypeId} {x y : Operand} {m n : Nat}
theorem ValP.addN (hx:e.ev x=some (.int .u64 (m:Int))) (hy:e.ev y=some (.int .u64 (n:Int))):ValP P e [] (.binOp .add T x y ty) (.int .u64 (((m+n) % 18446744073709551616:Nat):Int)):=by
 have:=ValP.addU (P:=P) (T:=T) (ty:=ty) hx hy
 simpa using this
theorem ValP.subN (hx:e.ev x=some (.int .u64 (m:Int))) (hy:e.ev y=some (.int .u64 (n:Int))) (h:n≤m) (hm:m < 18446744073709551616):ValP P e [] (.binOp .sub T x y ty) (.int .u64 ((m - n:Nat):Int)):=by
 have:=ValP.subU (P:=P) (T:=T) (ty:=ty) hx hy
 have h1:((m:Int) - n) % 18446744073709551616=((m - n:Nat):Int):=by omega
 rwa [h1] at this
theorem ValP.mulN (hx:e.ev x=some (.int .u64 (m:Int))) (hy:e.ev y=some (.int .u64 (n:Int))):ValP P e [] (.binOp .mul T x y ty) (.int .u64 ((m * n % 18446744073709551616:Nat):Int)):=by
 have:=ValP.mulU (P:=P) (T:=T) (ty:=ty) hx hy
 simpa using this
theorem ValP.quoN (hx:e.ev x=some (.int .u64 (m:Int))) (hy:e.ev y=some (.int .u64 (n:Int))) (hn:0 < n) (hm:m < 18446744073709551616):ValP P e [] (.binOp .quo T x y ty) (.int .u64 ((m / n:Nat):Int)):=by
 have:=ValP.quoU (P:=P) (T:=T) (ty:=ty) hx hy (by omega) (by omega) (by omega)
 simpa using this
theorem ValP.remN (hx:e.ev x=some (.int .u64 (m:Int))) (hy:e.ev y=some (.int .u64 (n:Int))) (hn:0 < n):ValP P e [] (.binOp .rem T x y ty) (.int .u64 ((m % n:Nat):Int)):=by
 have:=ValP.remU (P:=P) (T:=T) (ty:=ty) hx hy (by omega) (by omega)
 simpa using this
end nats
class ExI (P:Program) (f:FuncId) (F:outParam (List Value→Option Value)):Prop where
 ext:∀ vs v w,F vs=some v→(callFunc f vs.toArray).run P w=.ok (.value v) w
theorem ValP.callX {tys:Array TypeId} (hf:e.ev fo=some (.func (.func f) #[] #[])) (ha:ArgsOk e args.toList vs) (h:∀ w,(callFunc f vs.toArray).run P w=.ok (.value v) w) :
  ValP P e [] (.call { callee:=.value fo,args:=args,argTypes:=tys }) v:=fun ρ w hρ _ d t pos af g=>by
 simp [execOp,resolve,invoke,Deferred.ofValue,hρ fo _ hf,ha.arr hρ,h]
section dx
variable {C : Cu} {ops : Array Oper} {Q : Post} {tl rest : List Oper} {ts : Ts} {μ : Mu} {k d : Nat} {t : TypeId} {pos : String} {af : Array Edge} {g : Option (Nat × Bool)}
theorem DW.callX {fo:Operand} {args:Array Operand} {tys:Array TypeId} {f:FuncId} {vs:List Value} {v:Value} (hk:ops[k]?=some ⟨some d,.call { callee:=.value fo,args:=args,argTypes:=tys },t,pos,af,g⟩) (hm:μ k=none)
  (hd:Nat.blt d C.N=true) (hg:WantT ops e g) (hf:e.ev fo=some (.func (.func f) #[] #[])) (ha:ArgsOk e args.toList vs) (hb:(Value.func (.func f) #[] #[]::vs).flatMap (blocksN 4)=[]) (h:∀ w,(callFunc f vs.toArray).run C.P w=.ok (.value v) w)
  (kk:DW C ops μ Q tl rest (k+1) ((d,v)::e) ts):DW C ops μ Q tl (⟨some d,.call { callee:=.value fo,args:=args,argTypes:=tys },t,pos,af,g⟩::rest) k e ts :=
 DW.vr hk hm hd hg (fun ρ hρ=>by rw [touch_call hf ha hρ,hb]) (.callX hf ha h) .nil kk
end dx
inductive FsAt:Fs→Nat→Obj→Prop
 |head {b:Nat} {o:Obj} {r:Fs}:FsAt ((b,o)::r) b o
 |tail {p:Nat × Obj} {b:Nat} {o:Obj} {r:Fs} (h:FsAt r b o):FsAt (p::r) b o
 |app {s:Fs} {b:Nat} {o:Obj} {r:Fs} (h:FsAt r b o):FsAt (s++r) b o
theorem FsAt.mem (h:FsAt fs b o):(b,o)∈fs:=by
 exact dTAAdS
theorem Known.at (h:FsAt fs b o):Known C fs (b,o):=.inl h.mem
theorem tsOf_nil:tsOf []=[]:=rfl
theorem tsOf_cons:tsOf ((b,o)::fs)=(b,o,[],[])::tsOf fs:=rfl
theorem tsOf_app {s:Fs}:tsOf (s++fs)=tsOf s++tsOf fs:=by simp [tsOf]
theorem fsOf_nil:fsOf []=[]:=rfl
theorem fsOf_cons {ws rs:List Nat}:fsOf ((b,o,ws,rs)::ts)=(b,o)::fsOf ts:=rfl
theorem fsOf_app {s:Ts}:fsOf (s++ts)=fsOf s++fsOf ts:=by simp [fsOf]
theorem fsOf_tsOf:fsOf (tsOf fs)=fs:=by
 induction fs with
 |nil=>rfl
 |cons p r ih=>show (p.1,p.2)::fsOf (tsOf r)=_;rw [ih]
theorem TRead.app {k:Nat} {s r r':Ts} (h:TRead ops k r b o r'):TRead ops k (s++r) b o (s++r'):=by
 induction s with
 |nil=>exact h
 |cons p t ih=>exact .tail ih
theorem TSet.app {k:Nat} {s r r':Ts} (h:TSet ops k o' r b o r'):TSet ops k o' (s++r) b o (s++r'):=by
 induction s with
 |nil=>exact h
 |cons p t ih=>exact .tail ih
def AnyW (C:Cu) (id:Nat) (l:List Oper) (Q:Post) (e:Env) (fs:Fs):Prop:=CW C (.region id l.toArray true) Q e fs
theorem CW.pre {l:List Oper} (h:AnyW C id l Q e fs):CW C (.region id l.toArray true) Q e fs:=h
def noMu:Mu:=fun _=>none
theorem AnyW.any {id:Nat} {l:List Oper} (n:Nat) (hm:C.P.follows .mixedOrders=true) (hB:headB l.toArray n=true) (h:DW C l.toArray noMu Q (l.drop n) (l.take n) 0 e (tsOf fs)) :
  AnyW C id l Q e fs:=CW.any noMu n (fun _ _ h=>by cases h) hm hB h
def muL (l:List (Nat × Rel1)):Mu:=fun k=>(l.find? fun p=>Nat.beq p.1 k).map fun p=>(cst p.2,false)
theorem exs_cst {o:Option (Nat × Rel1)}:exs (o.map fun p=>(cst p.2,(false:Bool)))=[]:=by cases o<;>rfl
theorem AnyW.anyM {id:Nat} {l:List Oper} (ms:List (Nat × Rel1)) (n:Nat) (hm:C.P.follows .mixedOrders=true) (hB:headB l.toArray n=true) (h:DW C l.toArray (muL ms) Q (l.drop n) (l.take n) 0 e (tsOf fs)) :
  AnyW C id l Q e fs:=CW.any (muL ms) n (fun j x h=>by rw [show exs (muL ms j)=[] from exs_cst] at h;cases h) hm hB h
def wc (n:Nat):Array Value:=#[.int .u64 ((n % 18446744073709551616:Nat):Int),.int .u64 ((n / 18446744073709551616 % 18446744073709551616:Nat):Int),.int .u64 ((n / 340282366920938463463374607431768211456 % 18446744073709551616:Nat):Int),.int .u64 ((n / 6277101735386680763835789423207666416102355444464034512896 % 18446744073709551616:Nat):Int)]
abbrev wv (n:Nat):Value:=.agg (wc n)
abbrev M256:Nat:=115792089237316195423570985008687907853269984665640564039457584007913129639936
theorem wc_of (a b c d:Nat) (ha:a < 18446744073709551616) (hb:b < 18446744073709551616) (hc:c < 18446744073709551616) (hd:d < 18446744073709551616) :
  #[Value.int .u64 (a:Int),.int .u64 (b:Int),.int .u64 (c:Int),.int .u64 (d:Int)]=wc (a+18446744073709551616 * b+340282366920938463463374607431768211456 * c+6277101735386680763835789423207666416102355444464034512896 * d):=by
 have e0:(a+18446744073709551616 * b+340282366920938463463374607431768211456 * c+6277101735386680763835789423207666416102355444464034512896 * d) % 18446744073709551616=a:=by omega
 have e1:(a+18446744073709551616 * b+340282366920938463463374607431768211456 * c+6277101735386680763835789423207666416102355444464034512896 * d) / 18446744073709551616 % 18446744073709551616=b:=by omega
 have e2:(a+18446744073709551616 * b+340282366920938463463374607431768211456 * c+6277101735386680763835789423207666416102355444464034512896 * d) / 340282366920938463463374607431768211456 % 18446744073709551616=c:=by omega
 have e3:(a+18446744073709551616 * b+340282366920938463463374607431768211456 * c+6277101735386680763835789423207666416102355444464034512896 * d) / 6277101735386680763835789423207666416102355444464034512896 % 18446744073709551616=d:=by omega
 unfold wc
 rw [e0,e1,e2,e3]
theorem wc_val {n a c:Nat} (ha:a < 18446744073709551616) (hb:b < 18446744073709551616) (hc:c < 18446744073709551616) (hd:d < 18446744073709551616)
  (h:n=a+18446744073709551616 * b+340282366920938463463374607431768211456 * c+6277101735386680763835789423207666416102355444464034512896 * d) :
  #[Value.int .u64 (a:Int),.int .u64 (b:Int),.int .u64 (c:Int),.int .u64 (d:Int)]=wc n:=by rw [h];exact wc_of a b c d ha hb hc hd
def wl (n:Nat):List Int:=[((n % 18446744073709551616:Nat):Int),((n / 18446744073709551616 % 18446744073709551616:Nat):Int),((n / 340282366920938463463374607431768211456 % 18446744073709551616:Nat):Int),((n / 6277101735386680763835789423207666416102355444464034512896 % 18446744073709551616:Nat):Int)]
theorem getInts_wc (n:Nat):getInts .u64 (wc n).toList=some (wl n):=rfl
theorem wl_eq {a:Nat} (ha:a < M256) (hb:b < M256):(wl a=wl b)↔a=b:=by
 refine ⟨fun h=>?_,fun h=>by rw [h]⟩
 simp only [wl,List.cons.injEq,and_true] at h
 simp only [M256] at ha hb
 omega
section weq
variable {T ty : Nat} [EqI P T 4 .u64] {x y : Operand} {a b : Nat}
theorem ValP.eqW (hx:e.ev x=some (.agg (wc a))) (hy:e.ev y=some (.agg (wc b))) (ha:a < M256) (hb:b < M256):ValP P e [] (.binOp .eql T x y ty) (.bool (decide (a=b))):=by
 have:=ValP.eqlA (P:=P) (T:=T) (ty:=ty) hx hy (getInts_wc a) (getInts_wc b) rfl rfl
 simpa only [wl_eq ha hb] using this
theorem ValP.neW (hx:e.ev x=some (.agg (wc a))) (hy:e.ev y=some (.agg (wc b))) (ha:a < M256) (hb:b < M256):ValP P e [] (.binOp .neq T x y ty) (.bool (!decide (a=b))):=by
 have:=ValP.neqA (P:=P) (T:=T) (ty:=ty) hx hy (getInts_wc a) (getInts_wc b) rfl rfl
 simpa only [wl_eq ha hb] using this
theorem ValP.eqWT (hx:e.ev x=some (.agg (wc a))) (hy:e.ev y=some (.agg (wc b))) (h:a=b):ValP P e [] (.binOp .eql T x y ty) (.bool true):=by
 subst h
 simpa using ValP.eqlA (P:=P) (T:=T) (ty:=ty) hx hy (getInts_wc a) (getInts_wc a) rfl rfl
theorem ValP.neWF (hx:e.ev x=some (.agg (wc a))) (hy:e.ev y=some (.agg (wc b))) (h:a=b):ValP P e [] (.binOp .neq T x y ty) (.bool false):=by
 subst h
 simpa using ValP.neqA (P:=P) (T:=T) (ty:=ty) hx hy (getInts_wc a) (getInts_wc a) rfl rfl
theorem ValP.eqWF (hx:e.ev x=some (.agg (wc a))) (hy:e.ev y=some (.agg (wc b))) (ha:a < M256) (hb:b < M256) (h:a ≠ b):ValP P e [] (.binOp .eql T x y ty) (.bool false):=by
 have:=ValP.eqW (P:=P) (T:=T) (ty:=ty) hx hy ha hb
 rwa [decide_eq_false h] at this
theorem ValP.neWT (hx:e.ev x=some (.agg (wc a))) (hy:e.ev y=some (.agg (wc b))) (ha:a < M256) (hb:b < M256) (h:a ≠ b):ValP P e [] (.binOp .neq T x y ty) (.bool true):=by
 have:=ValP.neW (P:=P) (T:=T) (ty:=ty) hx hy ha hb
 rwa [decide_eq_false h] at this
end weq
end
section
theorem dTAwDa {P:Prop} (h:P:=by
 induction h with
 |nil=>intro w hw hR;exact hR w hw
 |cons h _ ih =>
  intro w hw hR
  refine ⟨(fun h=>by cases h),.inl ⟨_,_,rfl,run_takeDeferred (hw.own _ h.mem).2,?_⟩⟩
  exact ih _ (hw.set h) hR):P:=h
abbrev markD (r:Nat):Deferred:={ target:=.collected r,args:=#[] }
inductive Shut:List Deferred→Fs→Fs→Prop
 |nil {fs:Fs}:Shut [] fs fs
 |cons {r:Nat} {ds:List Deferred} {fs fs1 fs2:Fs} (h:SetAt fs r (.deferred (some [])) (.deferred none) fs1) (hs:Shut ds fs1 fs2):Shut (markD r::ds) fs fs2
theorem leaves_shut {P:Program} {fn:Func} {tmps:Array Value} {R:Ending→World→Prop} (h:Shut ds fs fs'):∀ w,St w0 S fs w →
  (∀ w',St w0 S fs' w'→∃ v,(results fn tmps).run P w'=.ok v w'∧R (.returned v) w')→LeavesInM (FR none) 0 P fn tmps R ds .returning w:=by
 exact dTAwDa
theorem ResL.runS {fn:Func} (h:ResL C e fs fn.results.toList vs) {ds:List Deferred} {a:Act} {w:World} (ha:EnvOk C.N ds e a) (hs:St C.w0 C.S fs w):(results fn a.tmps).run C.P w=.ok (tup vs) w :=
 ResL.run (C:=C.at ds) (by
  have key:∀ l vs,ResL C e fs l vs→ResL (C.at ds) e fs l vs:=by
   intro l vs h
   induction h with
   |nil=>exact .nil
   |cons h _ ih =>
    refine .cons ?_ ih
    cases h with
    |tmp h=>exact .tmp h
    |cell h hk hr=>exact .cell h hk hr
  exact key _ _ h) ⟨ha,hs⟩
theorem finRM {fn:Func} {x:Exit} {rs:List ResultVar} (hx:x=.ret∨x=.normal) (hsh:Shut ds fs fs') (hr:fn.results.toList=rs) (hS:C.S=[]) (h:ResL C e fs' rs vs) (hv:tup vs=v) :
  finQ C fn (Ret C.w0 v) x ds e fs:=by
 refine ⟨hx,fun a w hs=>?_⟩
 rw [show a.defers=ds from hs.env.dfr]
 refine leaves_shut hsh w hs.st fun w' hw'=>⟨tup vs,ResL.runS (by rw [hr];exact h) hs.env hw',by rw [hv],?_⟩
 have this:Bel C.w0.heap.size C.S C.w0 w':=hw'.bel
 rw [hS] at this
 exact this
theorem finM {fn:Func} {x:Exit} {rs:List ResultVar} (gs:Fs) {Φ:Value→Fs→Prop} (hx:x=.ret∨x=.normal) (hsh:Shut ds fs fs') (hr:fn.results.toList=rs) (h:ResL C e fs' rs vs) (hg:List.Sublist gs fs') (hΦ:Φ (tup vs) gs) :
  finQ C fn (RetG C.w0 C.S Φ) x ds e fs:=by
 refine ⟨hx,fun a w hs=>?_⟩
 rw [show a.defers=ds from hs.env.dfr]
 exact leaves_shut hsh w hs.st fun w' hw'=>⟨tup vs,ResL.runS (by rw [hr];exact h) hs.env hw',tup vs,gs,rfl,hΦ,hw'.bel,fun p hp=>hw'.own p (hg.subset hp),hw'.nd.sublist hg⟩
def inQ (C:Cu) (fn:Func) (K:Value→Fs→Prop):Post:=fun x ds e fs =>
 (x=.ret∨x=.normal)∧∃ vs fs',Shut ds fs fs'∧ResL C e fs' fn.results.toList vs∧K (tup vs) fs'
theorem calls_inline {w0:World} {S:List Nat} {fn:Func} {c:Code} {args:List Value} {N:Nat} {K:Value→Fs→Prop} {fs:Fs} {w:World} (hf:P.funcs[f]?=some fn) (hb:fn.body=some c) (hN:fn.ntmps=N) (hsz:Nat.ble args.length N=true)
  (h:CW ⟨P,w0,S,N,[],none⟩ c (inQ ⟨P,w0,S,N,[],none⟩ fn K) (Env.ofL args 0) fs) (hw:St w0 S fs w) :
  Calls P f args.toArray w (fun x w'=>∃ v fs',x=.returned v∧K v fs'∧St w0 S fs' w'):=by
 have hs:Sat ⟨P,w0,S,N,[],none⟩ (Env.ofL args 0) fs { tmps:=args.toArray++Array.replicate (fn.ntmps - args.toArray.size) undef,defers:=[] } w:=by
  refine ⟨⟨by have:=Nat.le_of_ble_eq_true hsz;simp [hN];omega,rfl,fun t v ht=>?_⟩,hw⟩
  exact dTAFZD
 refine (callsIn_wide (n:=0)).1 (callsIn_of_wp_marks (F:=FR none) hf hb trivial ?_)
 refine Code.wpIn_mono (fun x a w' h'=>?_) (h _ w hs)
 obtain ⟨ds,e,fs1,⟨hx,vs,fs',hsh,hr,hK⟩,s⟩:=h'
 have key:LeavesInM (FR none) 0 P fn a.tmps (fun x w'=>∃ v fs',x=.returned v∧K v fs'∧St w0 S fs' w') a.defers .returning w':=by
  rw [show a.defers=ds from s.env.dfr]
  exact leaves_shut hsh w' s.st fun w2 hw2=>⟨tup vs,ResL.runS hr s.env hw2,tup vs,fs',rfl,hK,hw2⟩
 rcases hx with rfl|rfl
 ·exact key
 ·exact key
section inl
variable {C : Cu} {ops : Array Oper} {Q : Post} {rest : List Oper} {e : Env} {fs : Fs} {d : Nat} {t : TypeId} {pos : String} {af : Array Edge}
theorem LW.inline {tys:Array TypeId} {fn:Func} {c:Code} {N:Nat} {first cap:Array Value} {as:List Value} (hd:Nat.blt d C.N=true) (hfo:e.ev fo=some (.func (.func f) first cap)) (hF:FnI C.P f) (ha:ArgsOk e args.toList vs)
  (has:first.toList++vs++cap.toList=as) (hf:C.P.funcs[f]?=some fn) (hb:fn.body=some c) (hN:fn.ntmps=N) (hsz:Nat.ble as.length N=true)
  (h:CW ⟨C.P,C.w0,C.S,N,[],none⟩ c (inQ ⟨C.P,C.w0,C.S,N,[],none⟩ fn (fun v fs'=>LW C ops Q rest ((d,v)::e) fs')) (Env.ofL as 0) fs) :
  LW C ops Q (⟨some d,.call { callee:=.value fo,args:=args,argTypes:=tys },t,pos,af,none⟩::rest) e fs:=fun a w hs=>by
 refine wpListIn_take (wanted_none _ rfl _) ⟨fun _ _=>trivial,?_⟩
 have hrun:=CallP.fn (P:=C.P) (tys:=tys) hfo ha a.eval w hs.env.Ev (some d) t pos af none
 rw [semAt_FR (fun c h=>by cases h),hrun]
 have e1:first++vs.toArray++cap=as.toArray:=by rw [← has];apply Array.toList_inj.1;simp
 refine ⟨fun h=>(by cases h),CallsIn.mono (calls_FR (e1 ▸ calls_inline hf hb hN hsz h hs.st)) fun x w' hx=>?_⟩
 obtain ⟨v,fs',rfl,hK,hw'⟩:=hx
 exact hK _ _ ⟨hs.env.put hd,hw'⟩
end inl
structure RecOk (N:Nat) (e:Env) (rec:Loop) (ps:Array Tmp) (assign body:Code):Prop where
 size:rec.tmps.size=N
 get:∀ t v,e.get t=some v→rec.tmps[t]?=some v
 ps:rec.params=ps
 asg:rec.assign=assign
 bod:rec.body=body
abbrev rdy (rec:Loop):Obj:=.loop { rec with state:=.ready,pending:=none }
abbrev bsy (rec:Loop):Obj:=.loop { rec with state:=.busy,pending:=none }
abbrev dne (rec:Loop) (c:Code):Obj:=.loop { rec with state:=.done,pending:=some c }
abbrev exh (rec:Loop) (c:Option Code):Obj:=.loop { rec with state:=.exhausted,pending:=c }
def jumpQ (Q:Post) (ds:List Deferred) (e:Env) (fs:Fs):Option Code→Prop
 |none=>Q .normal ds e fs
 |some .ret=>Q .ret ds e fs
 |some (.exit id)=>Q (.exit id) ds e fs
 |_=>False
def rangeQ (C:Cu) (l r:Nat) (rec:Loop) (Q:Post) (e:Env):Post:=fun x ds _ fs =>
 (x=.ret∨x=.normal)∧∃ fs1,Shut ds fs fs1∧((∃ fs',SetAt fs1 l (rdy rec) (exh rec none) fs'∧Q .normal (markD r::C.ds) e fs') ∨
  (∃ c fs',SetAt fs1 l (dne rec c) (exh rec (some c)) fs'∧jumpQ Q (markD r::C.ds) e fs' (some c)))
theorem results_none' {fn:Func} {tmps:Array Value} (h:fn.results=#[]):∃ v,(results fn tmps).run P w=.ok v w:=by
 refine ⟨tup [],?_⟩
 rw [results_eq,h]
 simp [tup]
theorem CW.rangeFunc {g:Operand} {ps:Array Tmp} {assign body:Code} {Q:Post} {e:Env} {fs:Fs} {gf:FuncId} {fn:Func} {c:Code} {N:Nat} {cap:Array Value} {as:List Value} (hr:C.r=none)
  (hg:e.ev g=some (.func (.func gf) #[] cap)) (hF:FnI C.P gf) (has:cap.toList=as) (hf:C.P.funcs[gf]?=some fn) (hb:fn.body=some c) (hN:fn.ntmps=N) (hsz:Nat.ble (as.length+1) N=true) (hres:fn.results=#[])
  (h:∀ l r rec,RecOk C.N e rec ps assign body→CW ⟨C.P,C.w0,C.S,N,[],none⟩ c (rangeQ C l r rec Q e) (Env.ofL (.func (.yield l) #[] #[]::as) 0) ((l,rdy rec)::(r,.deferred (some []))::fs)) :
  CW C (.rangeFunc g ps assign body) Q e fs:=fun a w hs=>by
 have hg':=hs.env.ev hg
 refine wpIn_rangeFunc fun fid _=>?_
 have hro:(FR C.r).round=none:=hr
 have hent:=run_enterLoop_outer (P:=C.P) (w:=w) fid a.tmps ps assign body
 rw [← hro] at hent
 let rec0:Loop:={ state:=.ready,pending:=none,fn:=fid,tmps:=a.tmps,params:=ps,assign:=assign,body:=body,defers:=w.heap.size }
 have hst:St C.w0 C.S ((w.heap.size+1,rdy rec0)::(w.heap.size,.deferred (some []))::fs) ((w.alloc (.deferred (some []))).alloc (.loop rec0)):=by
  have h1:=hs.alloc (.deferred (some []))
  have h2:=Sat.alloc (C:=C) (e:=e) (a:=a) ⟨hs.env,h1⟩ (.loop rec0)
  rw [World.size_alloc] at h2
  exact h2
 refine ⟨_,_,_,{ target:=.fn (.func gf) cap,args:=#[.func (.yield (w.heap.size+1)) #[] #[]] },(w.alloc (.deferred (some []))).alloc (.loop rec0),gf,(Value.func (.yield (w.heap.size+1)) #[] #[]::as).toArray,(w.alloc (.deferred (some []))).alloc (.loop rec0),hent,?_,fun _ _=>trivial,?_,fun h=>(by cases h),?_⟩
 ·have e1:(#[Operand.const (.func (.yield (w.heap.size+1)) #[] #[])]:Array Operand).map a.eval=#[.func (.yield (w.heap.size+1)) #[] #[]]:=by simp [Act.eval]
  unfold resolve
  simp only [e1,hg',Deferred.ofValue]
  simp;rfl
 ·have:=hF.run (#[.func (.yield (w.heap.size+1)) #[] #[]]++cap) ((w.alloc (.deferred (some []))).alloc (.loop rec0))
  have e1:#[Value.func (.yield (w.heap.size+1)) #[] #[]]++cap=(Value.func (.yield (w.heap.size+1)) #[] #[]::as).toArray:=by rw [← has];apply Array.toList_inj.1;simp
  rw [e1] at this
  simp only [invoke,e1]
  exact this
 ·have hbody:=h (w.heap.size+1) w.heap.size rec0 ⟨hs.env.size,hs.env.get,rfl,rfl,rfl⟩
  refine callsIn_of_wp_marks (F:=FR C.r) hf hb trivial ?_ hro
  have hsat:Sat ⟨C.P,C.w0,C.S,N,[],none⟩ (Env.ofL (Value.func (.yield (w.heap.size+1)) #[] #[]::as) 0) ((w.heap.size+1,rdy rec0)::(w.heap.size,.deferred (some []))::fs)
    { tmps:=(Value.func (.yield (w.heap.size+1)) #[] #[]::as).toArray++Array.replicate (fn.ntmps - (Value.func (.yield (w.heap.size+1)) #[] #[]::as).toArray.size) undef,defers:=[] } ((w.alloc (.deferred (some []))).alloc (.loop rec0)):=by
   refine ⟨⟨by have:=Nat.le_of_ble_eq_true hsz;simp [hN];omega,rfl,fun t v ht=>?_⟩,hst⟩
   obtain ⟨_,h2⟩:=Env.ofL_get _ _ _ _ ht
   have h3:(Value.func (.yield (w.heap.size+1)) #[] #[]::as)[t]?=some v:=by simpa using h2
   have hlt:t < (Value.func (.yield (w.heap.size+1)) #[] #[]::as).length:=(List.getElem?_eq_some_iff.1 h3).1
   show ((Value.func (.yield (w.heap.size+1)) #[] #[]::as).toArray++Array.replicate (fn.ntmps - (Value.func (.yield (w.heap.size+1)) #[] #[]::as).toArray.size) undef)[t]?=some v
   rw [Array.getElem?_append_left (by simpa using hlt)]
   simpa using h3
  have hcr:FR C.r=FR none:=by rw [hr]
  rw [hcr]
  refine Code.wpIn_mono (fun x a1 w1 h'=>?_) (hbody _ _ hsat)
  obtain ⟨ds1,e1,fs1,⟨hx,fs2,hsh,hq⟩,s1⟩:=h'
  have key:LeavesInM (FR none) (0 - 1) C.P fn a1.tmps (rangePost (FR none) 0 C.P (w.heap.size+1) (down C Q) { a with defers:=[{ target:=.collected w.heap.size,args:=#[] }]++a.defers }) a1.defers .returning w1:=by
   rw [show a1.defers=ds1 from s1.env.dfr]
   refine leaves_shut hsh w1 s1.st fun w2 hw2=>?_
   obtain ⟨v,hv⟩:=results_none' (P:=C.P) (tmps:=a1.tmps) (w:=w2) hres
   refine ⟨v,hv,?_⟩
   have henv:EnvOk C.N (markD w.heap.size::C.ds) e { a with defers:=[{ target:=.collected w.heap.size,args:=#[] }]++a.defers }:=⟨hs.env.size,by rw [← hs.env.dfr];rfl,hs.env.get⟩
   rcases hq with ⟨fs3,hset,hQ⟩|⟨c,fs3,hset,hQ⟩
   ·exact ⟨none,_,run_endLoop (hw2.own _ hset.mem).2 (fun h=>by cases h),_,e,fs3,hQ,henv,hw2.set hset⟩
   ·refine ⟨some c,_,run_endLoop (hw2.own _ hset.mem).2 (fun h=>by cases h),?_⟩
    have hw3:=hw2.set hset
    cases c with
    |ret=>exact wpIn_ret ⟨_,e,fs3,hQ,henv,hw3⟩
    |exit id=>exact wpIn_exit ⟨_,e,fs3,hQ,henv,hw3⟩
    |_=>exact hQ.elim
  rcases hx with rfl|rfl
  ·exact key
  ·exact key
def roundQ (l:Nat) (rec:Loop) (K:Bool→Fs→Prop):Post:=fun x ds _ fs=>ds=[] ∧
 match x with
 |.normal=>∃ fs',SetAt fs l (bsy rec) (rdy rec) fs'∧K true fs'
 |.ret=>∃ fs',SetAt fs l (bsy rec) (dne rec .ret) fs'∧K false fs'
 |.exit id=>∃ fs',SetAt fs l (bsy rec) (dne rec (.exit id)) fs'∧K false fs'
 |_=>False
def beginQ (C:Cu) (l:Nat) (rec:Loop) (body:Code) (K:Bool→Fs→Prop):Post:=fun x ds e fs=>x=.normal∧ds=[]∧∃ fs',SetAt fs l (rdy rec) (bsy rec) fs'∧CW C body (roundQ l rec K) e fs'
def putPs:Env→List Tmp→List Value→Env
 |e,p::ps,v::vs=>putPs ((p,v)::e) ps vs
 |e,_,_=>e
theorem EnvOk.putPs {N:Nat} {ds:List Deferred}:∀ (ps:List Tmp) (vs:List Value) {e:Env} {a:Act},EnvOk N ds e a→ps.all (Nat.blt · N)=true →
  EnvOk N ds (SL.putPs e ps vs) { a with tmps:=(ps.zip vs).foldl (fun tmps (p:Tmp × Value)=>tmps.setIfInBounds p.1 p.2) a.tmps }
 |[],vs,e,a,h,_=>by cases vs<;>exact h
 |p::ps,[],e,a,h,_=>h
 |p::ps,v::vs,e,a,h,hp=>by
  simp only [List.all_cons,Bool.and_eq_true] at hp
  exact EnvOk.putPs ps vs (h.put hp.1) hp.2
section yl
variable {C : Cu} {ops : Array Oper} {Q : Post} {rest : List Oper} {e : Env} {fs : Fs} {d : Nat} {t : TypeId} {pos : String} {af : Array Edge}
theorem LW.yield {tys:Array TypeId} {l:Nat} {rec:Loop} {ps:Array Tmp} {assign body:Code} {N:Nat} {e0:Env} (hd:Nat.blt d C.N=true) (hfo:e.ev fo=some (.func (.yield l) #[] #[])) (ha:ArgsOk e args.toList vs)
  (hrec:RecOk N e0 rec ps assign body) (hl:FsAt fs l (rdy rec)) (hps:ps.size=vs.length) (hpn:ps.toList.all (Nat.blt · N)=true)
  (h:CW ⟨C.P,C.w0,C.S,N,[],some l⟩ assign (beginQ ⟨C.P,C.w0,C.S,N,[],some l⟩ l rec body (fun b fs'=>LW C ops Q rest ((d,.bool b)::e) fs')) (putPs e0 ps.toList vs) fs) :
  LW C ops Q (⟨some d,.call { callee:=.value fo,args:=args,argTypes:=tys },t,pos,af,none⟩::rest) e fs:=fun a w hs=>by
 refine wpListIn_take (wanted_none _ rfl _) ⟨fun _ _=>trivial,?_⟩
 have hw:=(hs.st.own _ hl.mem).2
 have hy:=run_yield (P:=C.P) (w:=w) (args:=vs.toArray) hw (by simp [hrec.ps,hps])
 have hrun:(execOp a.eval ⟨some d,.call { callee:=.value fo,args:=args,argTypes:=tys },t,pos,af,none⟩).run C.P w=(Instr.yield l vs.toArray).run C.P w:=by
  simp [execOp,resolve,invoke,Deferred.ofValue,hs.env.ev hfo,ha.arr hs.env.Ev]
 rw [semAt_FR (fun c h=>by cases h),hrun,hy]
 refine ⟨fun h=>(by cases h),RoundIn.mono (R:=fun x w'=>∃ b fs',x=.returned (.bool b)∧LW C ops Q rest ((d,.bool b)::e) fs'∧St C.w0 C.S fs' w') ?_ (fun x w' hx=>?_)⟩
 ·refine roundIn_of_wpIn trivial ?_
  have henv:EnvOk N [] (putPs e0 ps.toList vs) { tmps:=((rec.params.zip vs.toArray).foldl (fun tmps (p:Tmp × Value)=>tmps.setIfInBounds p.1 p.2) rec.tmps),defers:=[] }:=by
   have h0:EnvOk N [] e0 { tmps:=rec.tmps,defers:=[] }:=⟨hrec.size,rfl,hrec.get⟩
   have h1:=EnvOk.putPs ps.toList vs h0 hpn
   have h2:(rec.params.zip vs.toArray).foldl (fun tmps (p:Tmp × Value)=>tmps.setIfInBounds p.1 p.2) rec.tmps=(ps.toList.zip vs).foldl (fun tmps (p:Tmp × Value)=>tmps.setIfInBounds p.1 p.2) rec.tmps:=by
    rw [hrec.ps,← Array.foldl_toList,Array.toList_zip]
   rw [h2]
   exact h1
  have hF:(FR C.r).inRound l=FR (some l):=rfl
  rw [hF]
  show (rec.assign).wpIn (FR (some l)) (0 - 1) C.P _ _ _
  rw [hrec.asg]
  refine Code.wpIn_mono (fun x a1 w1 h'=>?_) (h _ w ⟨henv,hs.st⟩)
  obtain ⟨ds1,e1,fs1,⟨rfl,rfl,fs2,hset,hbody⟩,s1⟩:=h'
  refine ⟨_,run_beginRound (s1.st.own _ hset.mem).2 rfl,?_⟩
  have hbody':CW ⟨C.P,C.w0,C.S,N,[],some l⟩ rec.body (roundQ l rec fun b fs'=>LW C ops Q rest ((d,.bool b)::e) fs') e1 fs2:=by rw [hrec.bod];exact hbody
  have hw2:St C.w0 C.S fs2 (w1.putObj l (bsy rec)):=s1.st.set hset
  refine Code.wpIn_mono (fun x a2 w2 h'=>?_) (hbody' a1 _ ⟨s1.env,hw2⟩)
  obtain ⟨ds2,e2,fs3,⟨_,hx⟩,s2⟩:=h'
  cases x with
  |normal =>
   obtain ⟨fs4,hset4,hK⟩:=hx
   exact ⟨_,_,run_endRound none (s2.st.own _ hset4.mem).2,true,fs4,rfl,hK,s2.st.set hset4⟩
  |ret =>
   obtain ⟨fs4,hset4,hK⟩:=hx
   exact ⟨_,_,run_endRound (some .ret) (s2.st.own _ hset4.mem).2,false,fs4,rfl,hK,s2.st.set hset4⟩
  |exit id =>
   obtain ⟨fs4,hset4,hK⟩:=hx
   exact ⟨_,_,run_endRound (some (.exit id)) (s2.st.own _ hset4.mem).2,false,fs4,rfl,hK,s2.st.set hset4⟩
  |_=>exact hx.elim
 ·obtain ⟨b,fs',rfl,hK,hw'⟩:=hx
  exact hK _ _ ⟨hs.env.put hd,hw'⟩
end yl
theorem beginI {l:Nat} {rec:Loop} {body:Code} {K:Bool→Fs→Prop} (hs:SetAt fs l (rdy rec) (bsy rec) fs') (h:CW C body (roundQ l rec K) e fs'):beginQ C l rec body K .normal [] e fs:=⟨rfl,rfl,fs',hs,h⟩
theorem roundN {l:Nat} {rec:Loop} {K:Bool→Fs→Prop} (hs:SetAt fs l (bsy rec) (rdy rec) fs') (h:K true fs'):roundQ l rec K .normal [] e fs:=⟨rfl,fs',hs,h⟩
theorem roundR {l:Nat} {rec:Loop} {K:Bool→Fs→Prop} (hs:SetAt fs l (bsy rec) (dne rec .ret) fs') (h:K false fs'):roundQ l rec K .ret [] e fs:=⟨rfl,fs',hs,h⟩
theorem rangeN {l r:Nat} {rec:Loop} {e':Env} {x:Exit} {fs1:Fs} (hx:x=.ret∨x=.normal) (hsh:Shut ds fs fs1) (hs:SetAt fs1 l (rdy rec) (exh rec none) fs') (h:Q .normal (markD r::C.ds) e fs'):rangeQ C l r rec Q e x ds e' fs :=
 ⟨hx,fs1,hsh,.inl ⟨fs',hs,h⟩⟩
theorem rangeR {l r:Nat} {rec:Loop} {e':Env} {x:Exit} {fs1:Fs} (hx:x=.ret∨x=.normal) (hsh:Shut ds fs fs1) (hs:SetAt fs1 l (dne rec .ret) (exh rec (some .ret)) fs') (h:Q .ret (markD r::C.ds) e fs'):rangeQ C l r rec Q e x ds e' fs :=
 ⟨hx,fs1,hsh,.inr ⟨.ret,fs',hs,h⟩⟩
theorem inI {fn:Func} {K:Value→Fs→Prop} {x:Exit} {rs:List ResultVar} (hx:x=.ret∨x=.normal) (hsh:Shut ds fs fs') (hr:fn.results.toList=rs) (h:ResL C e fs' rs vs) (hv:tup vs=v) (hK:K v fs'):inQ C fn K x ds e fs :=
 ⟨hx,vs,fs',hsh,by rw [hr];exact h,by rw [hv];exact hK⟩
theorem thenX {K:List Deferred→Env→Fs→Prop} (h:K ds e fs):thenQ K Q .normal ds e fs:=h
section ni
variable {P : Program} {e : Env} {T ty : TypeId} {x y : Operand} {m n : Nat}
theorem ValP.quoZ (hx:e.ev x=some (.int .i64 (m:Int))) (hy:e.ev y=some (.int .i64 (n:Int))) (hn:0 < n) (hm:m < 9223372036854775808):ValP P e [] (.binOp .quo T x y ty) (.int .i64 ((m / n:Nat):Int)):=by
 have:=ValP.quoI (P:=P) (T:=T) (ty:=ty) hx hy (by omega) (by omega) (by omega)
 simpa using this
theorem ValP.remZ (hx:e.ev x=some (.int .i64 (m:Int))) (hy:e.ev y=some (.int .i64 (n:Int))) (hn:0 < n):ValP P e [] (.binOp .rem T x y ty) (.int .i64 ((m % n:Nat):Int)):=by
 have:=ValP.remI (P:=P) (T:=T) (ty:=ty) hx hy (by omega) (by omega)
 simpa using this
theorem ValP.addZ (hx:e.ev x=some (.int .i64 (m:Int))) (hy:e.ev y=some (.int .i64 (n:Int))) (h:m+n < 9223372036854775808):ValP P e [] (.binOp .add T x y ty) (.int .i64 ((m+n:Nat):Int)):=by
 have:=ValP.addI (P:=P) (T:=T) (ty:=ty) hx hy (by omega) (by omega)
 simpa using this
theorem ValP.mulZ (hx:e.ev x=some (.int .i64 (m:Int))) (hy:e.ev y=some (.int .i64 (n:Int))) (h:m * n < 9223372036854775808):ValP P e [] (.binOp .mul T x y ty) (.int .i64 ((m * n:Nat):Int)):=by
 have:=ValP.mulI (P:=P) (T:=T) (ty:=ty) hx hy (by omega) (by rw [← Int.natCast_mul];omega)
 simpa using this
theorem ValP.subZ (hx:e.ev x=some (.int .i64 (m:Int))) (hy:e.ev y=some (.int .i64 (n:Int))) (h:n≤m) (hm:m < 9223372036854775808):ValP P e [] (.binOp .sub T x y ty) (.int .i64 ((m - n:Nat):Int)):=by
 have:=ValP.subI (P:=P) (T:=T) (ty:=ty) hx hy (by omega) (by omega)
 rwa [show (m:Int) - n=((m - n:Nat):Int) by omega] at this
theorem ValP.quoZL (hx:e.ev x=some (.int .i64 (m:Int))) (hy:e.ev y=some (.int .i64 (OfNat.ofNat n))) (_:n=n) (h0:0 < (OfNat.ofNat n:Nat)) (h1:m < 9223372036854775808):ValP P e [] (.binOp .quo T x y ty) (.int .i64 ((m / (OfNat.ofNat n:Nat):Nat):Int)):=.quoZ hx hy h0 h1
theorem ValP.remZL (hx:e.ev x=some (.int .i64 (m:Int))) (hy:e.ev y=some (.int .i64 (OfNat.ofNat n))) (_:n=n) (h0:0 < (OfNat.ofNat n:Nat)):ValP P e [] (.binOp .rem T x y ty) (.int .i64 ((m % (OfNat.ofNat n:Nat):Nat):Int)):=.remZ hx hy h0
theorem ValP.addZL (hx:e.ev x=some (.int .i64 (m:Int))) (hy:e.ev y=some (.int .i64 (OfNat.ofNat n))) (_:n=n) (h0:m+(OfNat.ofNat n:Nat) < 9223372036854775808):ValP P e [] (.binOp .add T x y ty) (.int .i64 ((m+(OfNat.ofNat n:Nat):Nat):Int)):=.addZ hx hy h0
theorem ValP.addZK (hx:e.ev x=some (.int .i64 (OfNat.ofNat m))) (hy:e.ev y=some (.int .i64 (n:Int))) (_:m=m) (h0:(OfNat.ofNat m:Nat)+n < 9223372036854775808):ValP P e [] (.binOp .add T x y ty) (.int .i64 (((OfNat.ofNat m:Nat)+n:Nat):Int)):=.addZ hx hy h0
theorem ValP.mulZL (hx:e.ev x=some (.int .i64 (m:Int))) (hy:e.ev y=some (.int .i64 (OfNat.ofNat n))) (_:n=n) (h0:m * (OfNat.ofNat n:Nat) < 9223372036854775808):ValP P e [] (.binOp .mul T x y ty) (.int .i64 ((m * (OfNat.ofNat n:Nat):Nat):Int)):=.mulZ hx hy h0
theorem ValP.mulZK (hx:e.ev x=some (.int .i64 (OfNat.ofNat m))) (hy:e.ev y=some (.int .i64 (n:Int))) (_:m=m) (h0:(OfNat.ofNat m:Nat) * n < 9223372036854775808):ValP P e [] (.binOp .mul T x y ty) (.int .i64 (((OfNat.ofNat m:Nat) * n:Nat):Int)):=.mulZ hx hy h0
theorem ValP.subZL (hx:e.ev x=some (.int .i64 (m:Int))) (hy:e.ev y=some (.int .i64 (OfNat.ofNat n))) (_:n=n) (h0:(OfNat.ofNat n:Nat)≤m) (h1:m < 9223372036854775808):ValP P e [] (.binOp .sub T x y ty) (.int .i64 ((m - (OfNat.ofNat n:Nat):Nat):Int)):=.subZ hx hy h0 h1
theorem ValP.subZK (hx:e.ev x=some (.int .i64 (OfNat.ofNat m))) (hy:e.ev y=some (.int .i64 (n:Int))) (_:m=m) (h0:n≤(OfNat.ofNat m:Nat)) (h1:(OfNat.ofNat m:Nat) < 9223372036854775808):ValP P e [] (.binOp .sub T x y ty) (.int .i64 (((OfNat.ofNat m:Nat) - n:Nat):Int)):=.subZ hx hy h0 h1
theorem ValP.quoNL (hx:e.ev x=some (.int .u64 (m:Int))) (hy:e.ev y=some (.int .u64 (OfNat.ofNat n))) (_:n=n) (h0:0 < (OfNat.ofNat n:Nat)) (h1:m < 18446744073709551616):ValP P e [] (.binOp .quo T x y ty) (.int .u64 ((m / (OfNat.ofNat n:Nat):Nat):Int)):=.quoN hx hy h0 h1
theorem ValP.remNL (hx:e.ev x=some (.int .u64 (m:Int))) (hy:e.ev y=some (.int .u64 (OfNat.ofNat n))) (_:n=n) (h0:0 < (OfNat.ofNat n:Nat)):ValP P e [] (.binOp .rem T x y ty) (.int .u64 ((m % (OfNat.ofNat n:Nat):Nat):Int)):=.remN hx hy h0
theorem ValP.addNL (hx:e.ev x=some (.int .u64 (m:Int))) (hy:e.ev y=some (.int .u64 (OfNat.ofNat n))) (_:n=n) :ValP P e [] (.binOp .add T x y ty) (.int .u64 (((m+(OfNat.ofNat n:Nat)) % 18446744073709551616:Nat):Int)):=.addN hx hy 
theorem ValP.addNK (hx:e.ev x=some (.int .u64 (OfNat.ofNat m))) (hy:e.ev y=some (.int .u64 (n:Int))) (_:m=m) :ValP P e [] (.binOp .add T x y ty) (.int .u64 ((((OfNat.ofNat m:Nat)+n) % 18446744073709551616:Nat):Int)):=.addN hx hy 
theorem ValP.mulNK (hx:e.ev x=some (.int .u64 (OfNat.ofNat m))) (hy:e.ev y=some (.int .u64 (n:Int))) (_:m=m) :ValP P e [] (.binOp .mul T x y ty) (.int .u64 (((OfNat.ofNat m:Nat) * n % 18446744073709551616:Nat):Int)):=.mulN hx hy 
theorem ValP.subNL (hx:e.ev x=some (.int .u64 (m:Int))) (hy:e.ev y=some (.int .u64 (OfNat.ofNat n))) (_:n=n) (h0:(OfNat.ofNat n:Nat)≤m) (h1:m < 18446744073709551616):ValP P e [] (.binOp .sub T x y ty) (.int .u64 ((m - (OfNat.ofNat n:Nat):Nat):Int)):=.subN hx hy h0 h1
theorem ValP.subNK (hx:e.ev x=some (.int .u64 (OfNat.ofNat m))) (hy:e.ev y=some (.int .u64 (n:Int))) (_:m=m) (h0:n≤(OfNat.ofNat m:Nat)) (h1:(OfNat.ofNat m:Nat) < 18446744073709551616):ValP P e [] (.binOp .sub T x y ty) (.int .u64 (((OfNat.ofNat m:Nat) - n:Nat):Int)):=.subN hx hy h0 h1
theorem ValP.andUL (hx:e.ev x=some (.int .u64 (m:Int))) (hy:e.ev y=some (.int .u64 (OfNat.ofNat n))) (_:n=n) (h0:m < 18446744073709551616) (h1:(OfNat.ofNat n:Nat) < 18446744073709551616):ValP P e [] (.binOp .and T x y ty) (.int .u64 ((m &&& (OfNat.ofNat n:Nat):Nat):Int)):=.andU hx hy h0 h1
theorem ValP.orUL (hx:e.ev x=some (.int .u64 (m:Int))) (hy:e.ev y=some (.int .u64 (OfNat.ofNat n))) (_:n=n) (h0:m < 18446744073709551616) (h1:(OfNat.ofNat n:Nat) < 18446744073709551616):ValP P e [] (.binOp .or T x y ty) (.int .u64 ((m |||(OfNat.ofNat n:Nat):Nat):Int)):=.orU hx hy h0 h1
theorem ValP.shrUL (hx:e.ev x=some (.int .u64 (m:Int))) (hy:e.ev y=some (.int ik (OfNat.ofNat n))) (_:n=n) (hs:(OfNat.ofNat n:Nat)≤64):ValP P e [] (.binOp .shr T x y ty) (.int .u64 ((m / 2 ^ (OfNat.ofNat n:Nat):Nat):Int)):=.shrU hx hy hs
theorem ValP.shlUL (hx:e.ev x=some (.int .u64 (m:Int))) (hy:e.ev y=some (.int ik (OfNat.ofNat n))) (_:n=n) (hs:(OfNat.ofNat n:Nat)≤64):ValP P e [] (.binOp .shl T x y ty) (.int .u64 ((m * 2 ^ (OfNat.ofNat n:Nat) % 18446744073709551616:Nat):Int)):=.shlU hx hy hs
end ni
section bw
variable {P : Program} {e : Env} {T : TypeId}
theorem ValP.buildW0 [UnI P T (.array 4 E)] [InfoI P E 1 (.int .u64 0)] [InfoI P T 4 (.agg #[.int .u64 0,.int .u64 0,.int .u64 0,.int .u64 0])]:ValP P e [] (.build T #[]) (.agg (wc 0)) :=
 ValP.buildA (z:=#[.int .u64 0,.int .u64 0,.int .u64 0,.int .u64 0]) .nil rfl rfl
theorem ValP.buildW1 [UnI P T (.array 4 E)] [InfoI P E 1 (.int .u64 0)] [InfoI P T 4 (.agg #[.int .u64 0,.int .u64 0,.int .u64 0,.int .u64 0])] {x:Operand} {n:Nat} (hx:e.ev x=some (.int .u64 (n:Int))) (hn:n < 18446744073709551616):ValP P e [] (.build T #[(0,x)]) (.agg (wc n)) :=
 ValP.buildA (sz:=1) (zE:=.int .u64 0) (nT:=4) (E:=E) (len:=4) (z:=#[.int .u64 0,.int .u64 0,.int .u64 0,.int .u64 0]) (.cons hx .nil) rfl (show #[Value.int .u64 (n:Int),.int .u64 ((0:Nat):Int),.int .u64 ((0:Nat):Int),.int .u64 ((0:Nat):Int)]=wc n from wc_val hn (by decide) (by decide) (by decide) (by omega))
end bw
section aw
variable {C : Cu} {ops : Array Oper} {Q : Post} {tl rest : List Oper} {e : Env} {fs : Fs} {ts : Ts} {μ : Mu} {k d : Nat} {t : TypeId} {pos : String} {af : Array Edge} {g : Option (Nat × Bool)}
theorem LW.allocW [InfoI C.P T 4 (.agg #[.int .u64 0,.int .u64 0,.int .u64 0,.int .u64 0])] (hd:Nat.blt d C.N=true) (k:∀ b,LW C ops Q rest ((d,.pointer (some ⟨b,0,none⟩))::e) ((b,.cells (wc 0) T (0,0))::fs)) :
  LW C ops Q (⟨some d,.alloc T,t,pos,af,none⟩::rest) e fs:=LW.allocA (c:=wc 0) (n:=4) hd k
theorem DW.allocW [InfoI C.P T 4 (.agg #[.int .u64 0,.int .u64 0,.int .u64 0,.int .u64 0])] (hk:ops[k]?=some ⟨some d,.alloc T,t,pos,af,g⟩) (hm:μ k=none) (hd:Nat.blt d C.N=true) (hg:WantT ops e g)
  (kk:∀ b,DW C ops μ Q tl rest (k+1) ((d,.pointer (some ⟨b,0,none⟩))::e) ((b,.cells (wc 0) T (0,0),[k],[])::ts)):DW C ops μ Q tl (⟨some d,.alloc T,t,pos,af,g⟩::rest) k e ts:=DW.allocA (c:=wc 0) (n:=4) hk hm hd hg kk
end aw
theorem nth_wc (a k:Nat) (h:k < 4):nth (wc a).toList k=some (.int .u64 ((a / 2 ^ (64 * k) % 18446744073709551616:Nat):Int)):=by
 match k,h with
 |0,_=>simp [wc,nth]
 |1,_=>rfl
 |2,_=>rfl
 |3,_=>rfl
end
section
inductive IsRow (E:TypeId) (size:Nat):Value→Nat→List Value→Fs→Prop
 |nil:IsRow E size (.slice none 0 0) 0 [] []
 |own {g n cap:Nat} {cur:Array Value} {xs:List Value} (hn:n≤cap) (hm:cap≤maxLen) (hc:cur.size=cap * size) (ht:cur.toList.take (n * size)=xs) (hl:xs.length=n * size):IsRow E size (.slice (some ⟨g,0,none⟩) n cap) n xs [(g,.cells cur E (0,0))]
theorem IsRow.len (h:IsRow E size v n xs seg):xs.length=n * size:=by
 cases h with
 |nil=>simp
 |own _ _ _ _ hl=>exact hl
theorem St.swap {pre post:Fs} {b':Nat} {w':World} (h:St w0 S (pre++(b,o)::post) w) (hb:Bel w0.heap.size S w0 w') (hn:w'.heap[b']?=some o') (hlo:w0.heap.size≤b'∨b'∈S) (hne:b'=b∨w.heap.size≤b') (hk:∀ k,k < w.heap.size→k ≠ b'→w'.heap[k]?=w.heap[k]?) :
  St w0 S (pre++(b',o')::post) w':=by
 have hlt:∀ p∈pre++(b,o)::post,p.1 < w.heap.size:=fun p hp=>(Array.getElem?_eq_some_iff.1 (h.own p hp).2).1
 obtain ⟨n1,n2,n3⟩:=List.pairwise_append.1 h.nd
 obtain ⟨n4,n5⟩:=List.pairwise_cons.1 n2
 have hpre:∀ p∈pre,p.1 ≠ b':=fun p hp e=>by
  rcases hne with rfl|hge
  ·exact n3 p hp (b',o) List.mem_cons_self e
  ·have:=hlt p (List.mem_append_left _ hp);omega
 have hpost:∀ p∈post,b' ≠ p.1:=fun p hp e=>by
  rcases hne with rfl|hge
  ·exact n4 p hp e
  ·have:=hlt p (List.mem_append_right _ (List.mem_cons_of_mem _ hp));omega
 refine ⟨hb,fun p hp=>?_,List.pairwise_append.2 ⟨n1,List.pairwise_cons.2 ⟨fun p hp=>hpost p hp,n5⟩,fun p hp q hq=>?_⟩⟩
 ·rcases List.mem_append.1 hp with hp|hp
  ·obtain ⟨h1,h2⟩:=h.own p (List.mem_append_left _ hp)
   exact ⟨h1,by rw [hk _ (hlt p (List.mem_append_left _ hp)) (hpre p hp)];exact h2⟩
  ·rcases List.mem_cons.1 hp with rfl|hp
   ·exact ⟨hlo,hn⟩
   ·obtain ⟨h1,h2⟩:=h.own p (List.mem_append_right _ (List.mem_cons_of_mem _ hp))
    exact ⟨h1,by rw [hk _ (hlt p (List.mem_append_right _ (List.mem_cons_of_mem _ hp))) (fun e=>hpost p hp e.symm)];exact h2⟩
 ·rcases List.mem_cons.1 hq with rfl|hq
  ·exact hpre p hp
  ·exact n3 p hp q (List.mem_cons_of_mem _ hq)
theorem St.lay {pre post:Fs} {b':Nat} {w':World} (h:St w0 S (pre++post) w) (hb:Bel w0.heap.size S w0 w') (hn:w'.heap[b']?=some o') (hge:w.heap.size≤b') (hk:∀ k,k < w.heap.size→w'.heap[k]?=w.heap[k]?) :
  St w0 S (pre++(b',o')::post) w':=by
 have hlt:∀ p∈pre++post,p.1 < w.heap.size:=fun p hp=>(Array.getElem?_eq_some_iff.1 (h.own p hp).2).1
 obtain ⟨n1,n2,n3⟩:=List.pairwise_append.1 h.nd
 refine ⟨hb,fun p hp=>?_,List.pairwise_append.2 ⟨n1,List.pairwise_cons.2 ⟨fun p hp e=>?_,n2⟩,fun p hp q hq=>?_⟩⟩
 ·rcases List.mem_append.1 hp with hp|hp
  ·obtain ⟨h1,h2⟩:=h.own p (List.mem_append_left _ hp)
   exact ⟨h1,by rw [hk _ (hlt p (List.mem_append_left _ hp))];exact h2⟩
  ·rcases List.mem_cons.1 hp with rfl|hp
   ·exact ⟨.inl (Nat.le_trans h.bel.size hge),hn⟩
   ·obtain ⟨h1,h2⟩:=h.own p (List.mem_append_right _ hp)
    exact ⟨h1,by rw [hk _ (hlt p (List.mem_append_right _ hp))];exact h2⟩
 ·have:=hlt p (List.mem_append_right _ hp);have e':b'=p.1:=e;omega
 ·rcases List.mem_cons.1 hq with rfl|hq
  ·intro e;have:=hlt p (List.mem_append_left _ hp);have e':p.1=b':=e;omega
  ·exact n3 p hp q hq
theorem row_append2 {ty:TypeId} {i:TypeInfo} (ht:P.underlying T=some (.slice E)) (hi:P.info? E=some i) (hz:i.zero=some z) (hsz:i.size=size) (hzs:z.cells.size=size)
  {v:Value} {n:Nat} {xs:List Value} {seg pre post:Fs} {w0:World} {S:List Nat} {w:World} (h:IsRow E size v n xs seg) (hs:St w0 S (pre++(seg++post)) w)
  (a:Addr) (m c:Nat) (news:List Value) (hl:news.length=m * size) (hnews:∀ j u,news[j]?=some u→w.cell? (a.add j)=some u) (h1:∀ u∈news,u.oneCell'=true) (hm:0 < m) (h63:n+m≤maxLen) (hbytes:(n+m) * i.bytes≤140737488355328) :
  ∃ v' seg' w',(Builtin.append_ #[T,T] ty #[v,.slice (some a) m c]).run P w=.ok v' w'∧IsRow E size v' (n+m) (xs++news) seg'∧St w0 S (pre++(seg'++post)) w'∧w.heap.size≤w'.heap.size ∧
   (∀ b,b < w.heap.size→b ∉ seg'.map (·.1)→w'.heap[b]?=w.heap[b]?)∧(∀ q∈seg',w.heap.size≤q.1∨q.1∈seg.map (·.1)):=by
 subst hsz
 have h63':n+m≤9223372036854775807:=by simp only [maxLen] at h63;omega
 have fresh:∀ (old:Nat) (o:Obj),Bel w0.heap.size S w0 (w.drew.alloc o):=fun old o=>(hs.bel.drew).alloc (by have:=hs.bel.size;simpa [World.drew] using this) o
 have alike:∀ (o:Obj) k,k < w.heap.size→(w.drew.alloc o).heap[k]?=w.heap[k]?:=fun o k hk=>Below.heap_alloc w.drew o k hk
 have cells:∀ (old:Nat) (ys:List Value),ys.length=n * i.size→((ys.toArray++news.toArray++Builtin.zeroCells z.cells (grownCap w (n+m) old E - (n+m))).size=grownCap w (n+m) old E * i.size) ∧
   (ys.toArray++news.toArray++Builtin.zeroCells z.cells (grownCap w (n+m) old E - (n+m))).toList.take ((n+m) * i.size)=ys++news:=fun old ys hys=>by
  have hge:=grownCap_ge w (n+m) old E
  constructor
  ·simp only [Array.size_append,List.size_toArray,size_zeroCells,hzs,hys,hl,← Nat.add_mul]
   congr 1
   omega
  ·have hlen:(ys++news).length=(n+m) * i.size:=by rw [List.length_append,hys,hl,Nat.add_mul]
   simp only [Array.toList_append,List.append_assoc]
   rw [← List.append_assoc,← hlen]
   exact List.take_left
 cases h with
 |nil =>
  simp only [Nat.zero_add] at *
  have hr:=run_append_nil (P:=P) w T ty E i z ht hi hz a m c news hl hnews hm (by omega) (by omega)
  obtain ⟨c1,c2⟩:=cells 0 [] (by simp)
  simp only [List.nil_append,Array.empty_append] at c1 c2
  refine ⟨_,[(w.heap.size,.cells (news.toArray++Builtin.zeroCells z.cells (grownCap w m 0 E - m)) E (0,0))],_,hr,.own (grownCap_ge w m 0 E) (grownCap_le_maxLen w m 0 E h63) c1 c2 hl,?_,?_,fun b hb _=>alike _ b hb,fun q hq=>?_⟩
  ·exact St.lay (w:=w) hs (fresh 0 _) (World.alloc_heap_new w.drew _) (Nat.le_refl _) (alike _)
  ·rw [World.size_alloc];exact Nat.le_succ _
  ·obtain rfl:q=_:=by simpa using hq
   exact .inl (Nat.le_refl _)
 |@own g _ cap cur _ hn hmx hc htk hlx =>
  obtain ⟨hg1,hg2⟩:=hs.own (g,.cells cur E (0,0)) (List.mem_append_right _ (by simp))
  by_cases hroom:n+m≤cap
  ·have hfit:n * i.size+news.length≤cur.size:=by rw [hl,hc,← Nat.add_mul];exact Nat.mul_le_mul_right _ hroom
   have hr:=run_append_room (P:=P) w T ty E i ht hi g n cap cur hg2 a m c news hl hnews h1 hroom hfit
   refine ⟨_,[(g,.cells (cur.toList.take (n * i.size)++news++cur.toList.drop (n * i.size+news.length)).toArray E (0,0))],_,hr,.own hroom hmx ?_ ?_ (by rw [List.length_append,hlx,hl,Nat.add_mul]),?_,?_,fun b hb hk=>?_,fun q hq=>?_⟩
   ·simp only [List.size_toArray,List.length_append,List.length_take,List.length_drop,Array.length_toList]
    omega
   ·rw [htk,← show (xs++news).length=(n+m) * i.size by rw [List.length_append,hlx,hl,Nat.add_mul]]
    exact List.take_left
   ·refine St.swap (w:=w) hs (hs.bel.trans ⟨rfl,rfl,rfl,by simp,fun k hk hS=>setRow_other w g k _ (fun e=>?_)⟩) (setRow_heap w g cur _ E _ hg2) hg1 (.inl rfl) (fun k _ hk=>setRow_other w g k _ hk)
    subst e
    rcases hg1 with hg1|hg1
    ·exact absurd hk (by have:w0.heap.size≤k:=hg1;omega)
    ·exact hS hg1
   ·simp
   ·exact setRow_other w g b _ (fun e=>hk (by simp [e]))
   ·obtain rfl:q=_:=by simpa using hq
    exact .inr (by simp)
  ·have holds:∀ j u,xs[j]?=some u→w.cell? ((⟨g,0,none⟩:Addr).add j)=some u:=fun j u hu=>by
    rw [addr_add,Nat.zero_add,cell_of hg2]
    rw [← htk,List.getElem?_take] at hu
    split at hu
    ·simpa using hu
    ·cases hu
   have hr:=run_append_grow (P:=P) w T ty E i z ht hi hz ⟨g,0,none⟩ n cap xs hlx holds a m c news hl hnews (by omega) (by omega) (growslice_fits (by omega) hbytes)
   obtain ⟨c1,c2⟩:=cells cap xs hlx
   refine ⟨_,[(w.heap.size,.cells (xs.toArray++news.toArray++Builtin.zeroCells z.cells (grownCap w (n+m) cap E - (n+m))) E (0,0))],_,hr,.own (grownCap_ge w (n+m) cap E) (grownCap_le_maxLen w (n+m) cap E h63) c1 c2 (by rw [List.length_append,hlx,hl,Nat.add_mul]),?_,?_,fun b hb _=>alike _ b hb,fun q hq=>?_⟩
   ·exact St.swap (w:=w) hs (fresh 0 _) (World.alloc_heap_new w.drew _) (.inl hs.bel.size) (.inr (Nat.le_refl _)) (fun k hk _=>alike _ k hk)
   ·rw [World.size_alloc];exact Nat.le_succ _
   ·obtain rfl:q=_:=by simpa using hq
    exact .inl (Nat.le_refl _)
theorem row_append {ty:TypeId} {i:TypeInfo} (ht:P.underlying T=some (.slice E)) (hi:P.info? E=some i) (hz:i.zero=some z) (hsz:i.size=size) (hzs:z.cells.size=size)
  {v:Value} {n:Nat} {xs:List Value} {seg pre post:Fs} {w0:World} {S:List Nat} {w:World} (h:IsRow E size v n xs seg) (hs:St w0 S (pre++(seg++post)) w)
  (a:Addr) (m c:Nat) (news:List Value) (hl:news.length=m * size) (hnews:∀ j u,news[j]?=some u→w.cell? (a.add j)=some u) (h1:∀ u∈news,u.oneCell'=true) (hm:0 < m) (h63:n+m≤maxLen) (hbytes:(n+m) * i.bytes≤140737488355328) :
  ∃ v' seg' w',(Builtin.append_ #[T,T] ty #[v,.slice (some a) m c]).run P w=.ok v' w'∧IsRow E size v' (n+m) (xs++news) seg'∧St w0 S (pre++(seg'++post)) w':=by
 obtain ⟨v',seg',w',h1',h2',h3',_⟩:=row_append2 (ty:=ty) ht hi hz hsz hzs h hs a m c news hl hnews h1 hm h63 hbytes
 exact ⟨v',seg',w',h1',h2',h3'⟩
class BytI (P:Program) (T:TypeId) (b:outParam Nat):Prop where
 byt:(P.info? T).map (·.bytes)=some b
theorem info_all [h:InfoI P T n z] [h':BytI P T b]:∃ i,P.info? T=some i∧i.size=n∧i.zero=some z∧i.bytes=b:=by
 obtain ⟨i,h1,h2,h3⟩:=info_of (P:=P) (T:=T)
 have:=h'.byt
 rw [h1] at this
 exact ⟨i,h1,h2,h3,by simpa using this⟩
inductive AtSeg:Fs→Fs→Fs→Fs→Prop
 |head {seg post:Fs}:AtSeg (seg++post) [] seg post
 |cons {p:Nat × Obj} {r pre seg post:Fs} (h:AtSeg r pre seg post):AtSeg (p::r) (p::pre) seg post
 |app {s r pre seg post:Fs} (h:AtSeg r pre seg post):AtSeg (s++r) (s++pre) seg post
theorem AtSeg.eq {pre post:Fs} (h:AtSeg fs pre seg post):fs=pre++(seg++post):=by
 induction h with
 |head=>rfl
 |cons _ ih=>rw [ih];rfl
 |app _ ih=>rw [ih,List.append_assoc]
section ap
variable {C : Cu} {ops : Array Oper} {Q : Post} {rest : List Oper} {e : Env} {fs : Fs} {d : Nat} {t : TypeId} {pos : String} {af : Array Edge}
theorem LW.append {s x:Operand} {bytes:Nat} {v:Value} {n m c b off:Nat} {cs:Array Value} {E':TypeId} {fr:Nat × Nat} {xs news:List Value} {seg pre post:Fs} (hd:Nat.blt d C.N=true) (hT:tys=#[T,T]) (hU:UnI C.P T (.slice E)) (hI:InfoI C.P E size z) (hB:BytI C.P E bytes)
  (hz:z.cells.size=size) (hs:e.ev s=some v) (hx:e.ev x=some (.slice (some ⟨b,off,none⟩) m c)) (hseg:AtSeg fs pre seg post) (hrow:IsRow E size v n xs seg) (hk:Known C fs (b,.cells cs E' fr)) (hnews:(cs.toList.drop off).take (m * size)=news) (hl:news.length=m * size)
  (h1:news.all Value.oneCell'=true) (hm:0 < m) (h63:n+m≤maxLen) (hb:(n+m) * bytes≤140737488355328)
  (k:∀ v' seg',IsRow E size v' (n+m) (xs++news) seg'→∃ fs',AtSeg fs' pre seg' post∧LW C ops Q rest ((d,v')::e) fs') :
  LW C ops Q (⟨some d,.call { callee:=.builtin .append,args:=#[s,x],argTypes:=tys },t,pos,af,none⟩::rest) e fs:=fun a w hsat=>by
 subst hT
 obtain ⟨i,i1,i2,i3,i4⟩:=info_all (P:=C.P) (T:=E)
 have hblk:=hk.get hsat.st
 have hst:=hsat.st
 rw [hseg.eq] at hst
 have hu:C.P.underlying T=some (.slice E):=UnI.un
 obtain ⟨v',seg',w',hr,hrow',hw'⟩:=row_append (P:=C.P) (ty:=t) hu i1 i3 i2 hz hrow hst ⟨b,off,none⟩ m c news hl (fun j u hj=>by
  rw [addr_add,cell_of hblk]
  subst hnews
  rw [List.getElem?_take,List.getElem?_drop] at hj
  split at hj
  ·simpa using hj
  ·cases hj) (fun u hu=>List.all_eq_true.1 h1 u hu) hm h63 (by rw [i4];exact hb)
 obtain ⟨fs',hat,hK⟩:=k v' seg' hrow'
 have hrun:(execOp a.eval ⟨some d,.call { callee:=.builtin .append,args:=#[s,x],argTypes:=#[T,T] },t,pos,af,none⟩).run C.P w=.ok (.value v') w':=by
  simp [execOp,resolve,invoke,builtin,hsat.env.ev hs,hsat.env.ev hx,hr]
 refine wpListIn_take (wanted_none _ rfl _) ⟨fun _ _=>trivial,?_⟩
 rw [semAt_FR (fun c h=>by cases h),hrun]
 exact hK _ _ ⟨hsat.env.put hd,by rw [hat.eq];exact hw'⟩
end ap
theorem wrCells_full:∀ (vs:List Value) (c:Array Value) (off:Nat),off+vs.length=c.size→wrCells c off vs=(c.toList.take off++vs).toArray:=by
 exact dTAEAH
theorem NewP.buildS1 [UnI P T (.slice E)] [InfoI P E size z] (hz:z.cells.size=size) (hs:Nat.blt 0 size=true) (hs':Nat.ble size 1000000=true) (hx:e.ev x=some v) (hv:v.cells.size=size) :
  NewP P e (.buildSlice T 1 #[(0,x)]) (.sl 1 1) (.cells v.cells E (0,0)):=fun ρ w hρ d t pos af g=>by
 have h0:0 < size:=by simpa [Nat.blt_eq] using hs
 have h1:=Nat.le_of_ble_eq_true hs'
 have hf:=fill_eq (sz:=size) [(0,v)] ((Array.range (1 * size)).map (z.cells[· % z.cells.size]!)) (by simp [fillOk,hv])
 have hc:fillC size ((Array.range (1 * size)).map (z.cells[· % z.cells.size]!)) [(0,v)]=v.cells:=by
  simp only [fillC,Nat.zero_mul]
  rw [wrCells_full _ _ _ (by simp [hv])]
  simp
 rw [hc] at hf
 have hr:(Instr.buildSlice T 1 ((#[(0,x)]:Array (Nat × Operand)).map fun p=>(p.1,ρ p.2))).run P w=.ok ((Sh.sl 1 1).val w.heap.size) (w.alloc (.cells v.cells E (0,0))):=by
  unfold Instr.buildSlice
  simp only [Sem.run_bind,run_un,run_size,Result.andThen_ok]
  have hne:¬ (1 * size > 2 ^ 24):=by omega
  have hnz:¬ (1 * size=0):=by omega
  have hp:((#[(0,x)]:Array (Nat × Operand)).map fun p=>(p.1,ρ p.2)).toList=[(0,v)]:=by simp [hρ x v hx]
  simp only [hne,hnz,if_false,Sem.run_bind,run_zero,Result.andThen_ok,Sem.run_pure,hp,hf]
  simp [newRow,Sh.val]
 simp only [execOp]
 exact (show ((do pure (.value (← Instr.buildSlice T 1 ((#[(0,x)]:Array (Nat × Operand)).map fun p=>(p.1,ρ p.2)))):Sem Next)).run P w=_ by simp only [Sem.run_bind,hr];rfl)
section ptr
variable {P : Program} {e : Env} {T ty : TypeId} {x y : Operand}
theorem ValP.nilCheck {a:Addr} (hx:e.ev x=some (.pointer (some a))):ValP P e [] (.nilCheck x) (.pointer (some a)):=fun ρ w hρ _ d t pos af g=>by
 simp [execOp,hρ x _ hx]
end ptr
end
section
def strOf (P:Program) (T:TypeId):Option (List (Nat × Nat)) :=
 match P.underlying T with
 |some (.struct fs)=>fs.toList.mapM fun f=>(P.info? f.type).map fun i=>(f.offset,i.size)
 |_=>none
class StrI (P:Program) (T:TypeId) (pl:outParam (List (Nat × Nat))):Prop where
 str:strOf P T=some pl
section ptr
variable {P : Program} {e : Env} {T ty : TypeId} {x y : Operand}
end ptr
section us
variable {C : Cu} {ops : Array Oper} {Q : Post} {rest : List Oper} {e : Env} {fs fs' : Fs} {d : Nat} {op : Op} {t : TypeId} {pos : String} {af : Array Edge}
theorem LW.valset {v:Value} (hd:Nat.blt d C.N=true) (hnd:∀ c,op ≠ .defer c) (hset:SetAt fs b o o' fs')
  (h:∀ a w,Sat C e fs a w→w.heap[b]?=some o→(execOp a.eval ⟨some d,op,t,pos,af,none⟩).run C.P w=.ok (.value v) (w.putObj b o')) (k:LW C ops Q rest ((d,v)::e) fs') :
  LW C ops Q (⟨some d,op,t,pos,af,none⟩::rest) e fs:=fun a w hs=>by
 refine wpListIn_take (wanted_none _ rfl _) ⟨fun _ _=>trivial,?_⟩
 rw [semAt_FR hnd,h a w hs (hs.st.own _ hset.mem).2]
 exact k _ _ ⟨hs.env.put hd,hs.st.set hset⟩
end us
section cu
variable {C : Cu} {ops : Array Oper} {Q : Post} {rest : List Oper} {e : Env} {fs : Fs} {d : Nat} {t' : TypeId} {pos : String} {af : Array Edge}
end cu
theorem St.perm (h:St w0 S fs w) (hp:fs'.Perm fs):St w0 S fs' w :=
 ⟨h.bel,fun p hp'=>h.own p (hp.subset hp'),(hp.pairwise_iff (fun {x y} h=>Ne.symm h)).2 h.nd⟩
theorem LW.perm {l:List Oper} (hp:fs'.Perm fs) (h:LW C ops Q l e fs'):LW C ops Q l e fs:=fun a w hs=>h a w ⟨hs.env,hs.st.perm hp⟩
theorem CW.perm {c:Code} (hp:fs'.Perm fs) (h:CW C c Q e fs'):CW C c Q e fs:=fun a w hs=>h a w ⟨hs.env,hs.st.perm hp⟩
theorem LW.callSt {ops:Array Oper} {Q:Post} {rest:List Oper} {e:Env} {fs:Fs} {t:TypeId} {pos:String} {af:Array Edge} {fo:Operand} {args:Array Operand} {tys:Array TypeId} {f:FuncId} {vs:List Value} {K:Value→Fs→Prop} (hd:Nat.blt d C.N=true)
  (hf:e.ev fo=some (.func (.func f) #[] #[])) (hF:FnI C.P f) (ha:ArgsOk e args.toList vs) (hc:∀ w,St C.w0 C.S fs w→Calls C.P f vs.toArray w (fun x w'=>∃ v fs',x=.returned v∧K v fs'∧St C.w0 C.S fs' w'))
  (k:∀ v fs',K v fs'→LW C ops Q rest ((d,v)::e) fs'):LW C ops Q (⟨some d,.call { callee:=.value fo,args:=args,argTypes:=tys },t,pos,af,none⟩::rest) e fs:=fun a w hs=>by
 refine wpListIn_take (wanted_none _ rfl _) ⟨fun _ _=>trivial,?_⟩
 have hrun:=CallP.fn (P:=C.P) (tys:=tys) hf ha a.eval w hs.env.Ev (some d) t pos af none
 rw [arr_id] at hrun
 rw [semAt_FR (fun c h=>by cases h),hrun]
 refine ⟨fun h=>(by cases h),CallsIn.mono (calls_FR (hc w hs.st)) fun x w' hx=>?_⟩
 obtain ⟨v,fs',rfl,hK,hw'⟩:=hx
 exact k _ _ hK _ _ ⟨hs.env.put hd,hw'⟩
end
section
theorem LW.drop {l:List Oper} (fs':Fs) (hf:List.Sublist fs' fs) (h:LW C ops Q l e fs'):LW C ops Q l e fs :=
 fun a w hs=>h a w ⟨hs.env,hs.st.bel,fun p hp=>hs.st.own p (hf.subset hp),hs.st.nd.sublist hf⟩
theorem IsRow.form (h:IsRow E size v n xs seg):∃ p c,v=.slice p n c:=by
 cases h with
 |nil=>exact ⟨_,_,rfl⟩
 |own=>exact ⟨_,_,rfl⟩
theorem ValP.lenR {a:Option Addr} {c:Nat} (hT:tys=#[T]) (hU:UnI P T (.slice E)) (hx:e.ev x=some (.slice a n c)) :
  ValP P e [] (.call { callee:=.builtin .len,args:=#[x],argTypes:=tys }) (.int .i64 (n:Int)):=.lenS hT hx
theorem ValP.buildW1L [UnI P T (.array 4 E)] [InfoI P E 1 (.int .u64 0)] [InfoI P T 4 (.agg #[.int .u64 0,.int .u64 0,.int .u64 0,.int .u64 0])] {x:Operand} {n:Nat} (hx:e.ev x=some (.int .u64 (OfNat.ofNat n))) (_:n=n) (hn:Nat.blt (OfNat.ofNat n:Nat) 18446744073709551616=true) :
  ValP P e [] (.build T #[(0,x)]) (.agg (wc (OfNat.ofNat n:Nat))):=.buildW1 hx (by simpa [Nat.blt_eq] using hn)
section str
variable {P : Program} {e : Env} {T ty : TypeId} {x y : Operand} {s u : ByteArray}
theorem guard_str {op:BinOp} (w:World):(eqGuard op T x y (.string s) v).run P w=.ok () w:=by
 unfold eqGuard;cases op<;>cases v<;>simp
end str
section dw
variable {C : Cu} {ops : Array Oper} {Q : Post} {tl rest : List Oper} {e : Env} {ts : Ts} {μ : Mu} {k d : Nat} {op : Op} {t : TypeId} {pos : String} {af : Array Edge} {g : Option (Nat × Bool)}
end dw
end
section
open Go Go.RowKit Go.Deep
inductive Ty
 |bool|int (k:IntKind)|str|sl (e:Ty)|arr (n:Nat) (e:Ty)|unit|pair (f r:Ty)
def Ty.cells:Ty→Nat
 |.arr n e=>n * e.cells
 |.unit=>0
 |.pair f r=>f.cells+r.cells
 |_=>1
def Ty.ok (P:Program):Ty→TypeId ⊕ (List Field × Nat)→Bool
 |.bool,.inl T=>match P.underlying T with|some .bool=>true|_=>false
 |.int k,.inl T=>match P.underlying T with|some (.int k')=>decide (k=k')|_=>false
 |.str,.inl T=>match P.underlying T with|some .string=>true|_=>false
 |.sl e,.inl T=>match P.underlying T with|some (.slice E)=>Nat.beq (P.cellsOf E) e.cells && e.ok P (.inl E)|_=>false
 |.arr n e,.inl T=>match P.underlying T with|some (.array n' E)=>Nat.beq n n' && Nat.beq (P.cellsOf E) e.cells && Nat.beq (P.cellsOf T) (n * e.cells) && e.ok P (.inl E)|_=>false
 |.unit,.inl T=>match P.underlying T with|some (.struct fs)=>fs.isEmpty && Nat.beq (P.cellsOf T) 0|_=>false
 |.pair f r,.inl T=>match P.underlying T with|some (.struct fs)=>Nat.beq (P.cellsOf T) (f.cells+r.cells) && (match fs.toList with|[]=>false|x::l=>Nat.beq x.offset 0 && Nat.beq (P.cellsOf x.type) f.cells && f.ok P (.inl x.type) && r.ok P (.inr (l,f.cells)))|_=>false
 |.unit,.inr (l,_)=>l.isEmpty
 |.pair f r,.inr (l,o)=>match l with|[]=>false|x::l=>Nat.beq x.offset o && Nat.beq (P.cellsOf x.type) f.cells && f.ok P (.inl x.type) && r.ok P (.inr (l,o+f.cells))
 |_,.inr _=>false
def Ty.is (w:World):Ty→List Value→Prop
 |.bool,cs=>∃ b,cs=[.bool b]
 |.int k,cs=>∃ n,cs=[.int k n]∧(Lit.int k n).wf=true
 |.str,cs=>∃ s,cs=[.string s]∧s.size≤maxLen
 |.sl e,cs=>cs=[.slice none 0 0]∨∃ a n c,cs=[.slice (some a) n c]∧n≤c∧c≤maxLen∧∀ i,i < c→∃ cs',w.cells? 0 (a.add (i * e.cells)) e.cells=some cs'∧e.is w cs'
 |.arr n e,cs=>cs.length=n * e.cells∧∀ i,i < n→e.is w ((cs.drop (i * e.cells)).take e.cells)
 |.unit,cs=>cs=[]
 |.pair f r,cs=>f.is w (cs.take f.cells)∧r.is w (cs.drop f.cells)
section op
variable {H : Type} {enc : TypeId × Value → H} {P : Program} {w : World} {held : Bool}
theorem trod_is:∀ (ty:Ty),(∀ (T:TypeId) (fuel:Nat) (cs:List Value) (x:DataW H × List MemPlace),ty.ok P (.inl T)=true→DataW.trod enc P w 0 (fun _=>true) held fuel T cs=some x→ty.is w cs) ∧
  (∀ (l:List Field) (o:Nat) (m:Nat) (cs:List Value),ty.ok P (.inr (l,o))=true→cs.length=o+ty.cells→(∀ f∈l,∃ x,DataW.trod enc P w 0 (fun _=>true) held m f.type ((cs.drop f.offset).take (P.cellsOf f.type))=some x)→ty.is w (cs.drop o)):=by
 intro ty
 induction ty with
 |bool =>
  refine ⟨fun T fuel cs x hT h=>?_,fun l o m cs h=>by cases (show false=true from h)⟩
  have hu:P.underlying T=some .bool:=by simp only [Ty.ok] at hT;split at hT<;>simp_all
  obtain ⟨b,rfl,_⟩:=DataW.trod_bool hu h
  exact ⟨b,rfl⟩
 |int k =>
  refine ⟨fun T fuel cs x hT h=>?_,fun l o m cs h=>by cases (show false=true from h)⟩
  have hu:P.underlying T=some (.int k):=by simp only [Ty.ok] at hT;split at hT<;>simp_all
  obtain ⟨n,rfl,_,hw⟩:=DataW.trod_int hu h
  exact ⟨n,rfl,hw⟩
 |str =>
  refine ⟨fun T fuel cs x hT h=>?_,fun l o m cs h=>by cases (show false=true from h)⟩
  have hu:P.underlying T=some .string:=by simp only [Ty.ok] at hT;split at hT<;>simp_all
  obtain ⟨s,rfl,_,hw⟩:=DataW.trod_string hu h
  exact ⟨s,rfl,hw⟩
 |sl e ih =>
  refine ⟨fun T fuel cs x hT h=>?_,fun l o m cs h=>by cases (show false=true from h)⟩
  simp only [Ty.ok] at hT
  split at hT
  ·rename_i E hu
   simp only [Bool.and_eq_true,Nat.beq_eq] at hT
   obtain ⟨hc,he⟩:=hT
   rcases open_slice hu h with ⟨rfl,_⟩|⟨a,len,cap,m,n,D,Pl,rfl,_,h1,h2,h3,_,h5⟩
   ·exact .inl rfl
   ·refine .inr ⟨a,len,cap,rfl,h1,h2,fun i hi=>?_⟩
    obtain ⟨cs',h6,h7⟩:=h5 i (by simpa [h3] using hi)
    rw [hc] at h6
    exact ⟨cs',h6,ih.1 E _ _ _ he h7⟩
  ·cases hT
 |arr n e ih =>
  refine ⟨fun T fuel cs x hT h=>?_,fun l o m cs h=>by cases (show false=true from h)⟩
  simp only [Ty.ok] at hT
  split at hT
  ·rename_i n' E hu
   simp only [Bool.and_eq_true,Nat.beq_eq] at hT
   obtain ⟨⟨⟨rfl,hc⟩,hcT⟩,he⟩:=hT
   obtain ⟨xs,m,_,_,hl,hx,hall⟩:=DataW.trod_array hu h
   refine ⟨by rw [hl,hcT],fun i hi=>?_⟩
   have h2:=hall i hi
   rw [List.getElem?_eq_getElem (by omega),hc] at h2
   exact ih.1 E _ _ _ he h2
  ·cases hT
 |unit =>
  refine ⟨fun T fuel cs x hT h=>?_,fun l o m cs h hl _=>?_⟩
  ·simp only [Ty.ok] at hT
   split at hT
   ·rename_i fs hu
    simp only [Bool.and_eq_true,Nat.beq_eq] at hT
    obtain ⟨xs,m,_,_,hl,_⟩:=DataW.trod_struct hu h
    exact List.length_eq_zero_iff.1 (by rw [hl,hT.2])
   ·cases hT
  ·exact List.drop_eq_nil_of_le (by simp [Ty.cells] at hl;omega)
 |pair f r ihf ihr =>
  refine ⟨fun T fuel cs x hT h=>?_,fun l o m cs h hl hall=>?_⟩
  ·simp only [Ty.ok] at hT
   split at hT
   ·rename_i fs hu
    simp only [Bool.and_eq_true,Nat.beq_eq] at hT
    obtain ⟨hcT,hT⟩:=hT
    obtain ⟨xs,m,_,_,hl,hx,hall⟩:=DataW.trod_struct hu h
    have hmem:∀ y∈fs.toList,∃ x,DataW.trod enc P w 0 (fun _=>true) held m y.type ((cs.drop y.offset).take (P.cellsOf y.type))=some x:=fun y hy=>by
     obtain ⟨i,hi,rfl⟩:=List.getElem_of_mem hy
     have h2:=hall i fs.toList[i] (by rw [← Array.getElem?_toList];exact List.getElem?_eq_getElem hi)
     have hi':i < xs.length:=by rw [hx];simpa using hi
     rw [List.getElem?_eq_getElem hi'] at h2
     exact ⟨_,h2⟩
    split at hT
    ·cases hT
    ·rename_i y l hfs
     simp only [Bool.and_eq_true,Nat.beq_eq] at hT
     obtain ⟨⟨⟨h1,h2⟩,h3⟩,h4⟩:=hT
     rw [hfs] at hmem
     obtain ⟨x1,hx1⟩:=hmem y List.mem_cons_self
     rw [h1,h2,List.drop_zero] at hx1
     exact ⟨ihf.1 _ _ _ _ h3 hx1,ihr.2 l f.cells m cs h4 (by rw [hl,hcT]) fun z hz=>hmem z (List.mem_cons_of_mem _ hz)⟩
   ·cases hT
  ·simp only [Ty.ok] at h
   split at h
   ·cases h
   ·rename_i y l
    simp only [Bool.and_eq_true,Nat.beq_eq] at h
    obtain ⟨⟨⟨h1,h2⟩,h3⟩,h4⟩:=h
    obtain ⟨x1,hx1⟩:=hall y List.mem_cons_self
    rw [h1,h2] at hx1
    refine ⟨ihf.1 _ _ _ _ h3 hx1,?_⟩
    rw [List.drop_drop]
    exact ihr.2 l (o+f.cells) m cs h4 (by rw [hl];simp [Ty.cells];omega) fun z hz=>hall z (List.mem_cons_of_mem _ hz)
theorem open_one {ty:Ty} {d:DataW H} {ps:List MemPlace} (hT:ty.ok P (.inl T)=true) (h:DataW.Trod enc P w 0 (fun _=>true) held T v d ps):ty.is w v.cells.toList:=by
 obtain ⟨m,hm⟩:=h
 exact (trod_is ty).1 T m _ _ hT hm
def Ty.word:Ty:=.arr 4 (.int .u64)
theorem wf_u64 {n:Int} (h:(Lit.int .u64 n).wf=true):∃ k:Nat,n=(k:Int)∧k < 18446744073709551616:=by
 simp [Lit.wf,IntKind.min,IntKind.max,IntKind.signed,IntKind.bits] at h
 exact ⟨n.toNat,by omega,by omega⟩
theorem is_word {cs:List Value} (h:Ty.word.is w cs):∃ a,a < M256∧cs=(wc a).toList:=by
 obtain ⟨hl,h⟩:=h
 obtain ⟨n0,e0,w0⟩:=h 0 (by decide)
 obtain ⟨n1,e1,w1⟩:=h 1 (by decide)
 obtain ⟨n2,e2,w2⟩:=h 2 (by decide)
 obtain ⟨n3,e3,w3⟩:=h 3 (by decide)
 obtain ⟨k0,rfl,h0⟩:=wf_u64 w0
 obtain ⟨k1,rfl,h1⟩:=wf_u64 w1
 obtain ⟨k2,rfl,h2⟩:=wf_u64 w2
 obtain ⟨k3,rfl,h3⟩:=wf_u64 w3
 match cs,hl with
 |[x0,x1,x2,x3],_ =>
  simp [Ty.cells] at e0 e1 e2 e3
  subst e0 e1 e2 e3
  refine ⟨k0+18446744073709551616 * k1+340282366920938463463374607431768211456 * k2+6277101735386680763835789423207666416102355444464034512896 * k3,by simp only [M256];omega,?_⟩
  rw [← wc_val h0 h1 h2 h3 rfl]
end op
end
section
theorem dTAOEC {P:Prop} (h:P:=by
 exact ⟨⟨_,_,rfl,hn,hm⟩,hl,fun _=>⟨g,0,cap,cur,E,_,rfl,hg,by simpa using ht⟩,.own hg⟩):P:=h
def Lies (w:World) (v:Value):Prop:=∀ p n c,v=.slice p n c→p=none∨c=0∨∃ b off o,p=some ⟨b,off,none⟩∧w.heap[b]?=some o
theorem Lies.own {c:Nat} (h:w.heap[b]?=some o):Lies w (.slice (some ⟨b,off,none⟩) n c):=fun _ _ _ h'=>by cases h';exact .inr (.inr ⟨_,_,_,rfl,h⟩)
structure RowAt (w:World) (sz:Nat) (v:Value) (n:Nat) (xs:List Value):Prop where
 form:∃ p c,v=.slice p n c∧n≤c∧c≤maxLen
 len:xs.length=n * sz
 pos:0 < n→∃ b off c cs E fr,v=.slice (some ⟨b,off,none⟩) n c∧w.heap[b]?=some (.cells cs E fr)∧(cs.toList.drop off).take (n * sz)=xs
 lies:Lies w v
theorem RowAt.nil:RowAt w sz (.slice none 0 0) 0 []:=⟨⟨_,_,rfl,Nat.le_refl _,by simp [maxLen]⟩,by simp,(fun h=>nomatch h),(fun _ _ _ h=>by cases h;exact .inl rfl)⟩
theorem IsRow.at {pre post:Fs} (h:IsRow E sz v n xs seg) (hs:St w0 S (pre++(seg++post)) w):RowAt w sz v n xs:=by
 cases h with
 |nil=>exact .nil
 |@own g _ cap cur _ hn hm hc ht hl =>
  have hg:=(hs.own (g,.cells cur E (0,0)) (List.mem_append_right _ (by simp))).2
  exact dTAOEC
theorem cut_get {cs:Array Value} {m:Nat} (h:(cs.toList.drop off).take m=xs) (hv:xs[j]?=some v):cs[off+j]?=some v:=by
 subst h
 rw [List.getElem?_take,List.getElem?_drop] at hv
 split at hv
 ·simpa using hv
 ·cases hv
theorem flat_get {α:Type} {g:α→List Value} {sz:Nat}:∀ {l:List α} (_:∀ a∈l,(g a).length=sz) {i j:Nat} {a:α} {v:Value},l[i]?=some a→(g a)[j]?=some v→(l.flatMap g)[i * sz+j]?=some v
 |[],_,i,j,a,v,hi,_=>by simp at hi
 |x::l,hl,0,j,a,v,hi,hj=>by
  simp only [List.getElem?_cons_zero,Option.some.injEq] at hi
  subst hi
  have hlt:=(List.getElem?_eq_some_iff.1 hj).1
  rw [List.flatMap_cons,List.getElem?_append_left (by omega)]
  simpa using hj
 |x::l,hl,i+1,j,a,v,hi,hj=>by
  have hx:=hl x List.mem_cons_self
  rw [List.flatMap_cons,List.getElem?_append_right (by rw [hx,Nat.succ_mul];omega),hx,show (i+1) * sz+j - sz=i * sz+j by rw [Nat.succ_mul];omega]
  exact flat_get (fun a ha=>hl a (List.mem_cons_of_mem _ ha)) (by simpa using hi) hj
theorem flat_len {α:Type} {g:α→List Value} {sz:Nat}:∀ {l:List α} (_:∀ a∈l,(g a).length=sz),(l.flatMap g).length=l.length * sz
 |[],_=>by simp
 |x::l,hl=>by rw [List.flatMap_cons,List.length_append,hl x List.mem_cons_self,flat_len fun a ha=>hl a (List.mem_cons_of_mem _ ha),List.length_cons,Nat.succ_mul];omega
section rd
variable {P : Program} {T : TypeId} {cs : Array Value} {E : TypeId} {fr : Nat × Nat} {off m sz i : Nat} {α : Type} {g : α → List Value} {l : List α} {a : α}
theorem Rd.elem1 [AgI P T false] {v:Value} (h:(cs.toList.drop off).take m=l.flatMap g) (hl:∀ a∈l,(g a).length=1) (hi:l[i]?=some a) (hv:g a=[v]):Rd P T (.cells cs E fr) (off+i * 1) v :=
 Rd.one (cut_get h (by have:=flat_get hl hi (j:=0) (v:=v) (by simp [hv]);simpa using this))
theorem Rd.elemA [AgI P T true] [InfoI P T n z] (h:(cs.toList.drop off).take m=l.flatMap g) (hl:∀ a∈l,(g a).length=n) (hi:l[i]?=some a):Rd P T (.cells cs E fr) (off+i * n) (.agg (g a).toArray) :=
 Rd.part (hl a (List.mem_of_getElem? hi)) fun j v hv=>by rw [Nat.add_assoc];exact cut_get h (flat_get hl hi hv)
end rd
theorem cells?_get {w:World} {b:Nat} {a:Addr} {n:Nat} {cs':List Value} (h:w.cells? b a n=some cs'):cs'.length=n∧∀ j,j < n→w.cell? (a.add j)=cs'[j]?:=by
 unfold World.cells? at h
 split at h
 ·exact ⟨by simpa using mapM_some_length h,fun j hj=>mapM_some_get h j j (by simp [hj])⟩
 ·cases h
theorem cell?_inv {w:World} {a:Addr} {v:Value} (h:w.cell? a=some v):∃ b off cs E fr,a=⟨b,off,none⟩∧w.heap[b]?=some (.cells cs E fr)∧cs[off]?=some v:=by
 obtain ⟨b,off,spot⟩:=a
 unfold World.cell? at h
 split at h
 ·rename_i c E fr hb
  split at h
  ·cases h
  ·rename_i hs
   cases spot with
   |some _=>simp at hs
   |none=>exact ⟨b,off,c,E,fr,rfl,hb,h⟩
 ·cases h
theorem sl_rows {α:Type} {g:α→List Value} {Q:α→Prop} {e:Ty} {cs:List Value} (hc:e.cells=sz) (h0:0 < sz) (he:∀ cs',e.is w cs'→∃ x,Q x∧cs'=g x) (h:(Ty.sl e).is w cs) :
  ∃ (v:Value) (l:List α),cs=[v]∧(∀ x∈l,Q x∧(g x).length=sz)∧RowAt w sz v l.length (l.flatMap g):=by
 subst hc
 rcases h with rfl|⟨a,n,c,rfl,hn,hm,hall⟩
 ·exact ⟨_,[],rfl,(fun x hx=>nomatch hx),.nil⟩
 ·have key:∀ k,k≤n→∃ l:List α,l.length=k∧(∀ x∈l,Q x∧(g x).length=e.cells)∧∀ i j v,i < k→j < e.cells→(l.flatMap g)[i * e.cells+j]?=some v→w.cell? ((a.add (i * e.cells)).add j)=some v:=by
   intro k
   induction k with
   |zero=>intro _;exact ⟨[],rfl,by simp,fun i j v hi=>by omega⟩
   |succ k ih =>
    intro hk
    obtain ⟨l,hl,hq,hget⟩:=ih (by omega)
    obtain ⟨cs',h1,h2⟩:=hall k (by omega)
    obtain ⟨x,hx,rfl⟩:=he _ h2
    obtain ⟨h3,h4⟩:=cells?_get h1
    refine ⟨l++[x],by simp [hl],fun y hy=>?_,fun i j v hi hj hv=>?_⟩
    ·rcases List.mem_append.1 hy with hy|hy
     ·exact hq y hy
     ·obtain rfl:y=x:=by simpa using hy
      exact ⟨hx,h3⟩
    ·have hfl:(l.flatMap g).length=k * e.cells:=by rw [flat_len fun a ha=>(hq a ha).2,hl]
     rw [List.flatMap_append] at hv
     by_cases hik:i < k
     ·rw [List.getElem?_append_left (by rw [hfl];calc i * e.cells+j < i * e.cells+e.cells:=by omega
       _=(i+1) * e.cells:=by rw [Nat.succ_mul]
       _≤k * e.cells:=Nat.mul_le_mul_right _ hik)] at hv
      exact hget i j v hik hj hv
     ·obtain rfl:i=k:=by omega
      rw [List.getElem?_append_right (by omega),hfl,show i * e.cells+j - i * e.cells=j by omega] at hv
      rw [h4 j hj]
      simpa using hv
  obtain ⟨l,hl,hq,hget⟩:=key n (Nat.le_refl _)
  have hfl:(l.flatMap g).length=n * e.cells:=by rw [flat_len fun a ha=>(hq a ha).2,hl]
  have hlies:Lies w (.slice (some a) n c):=fun p' n' c' he=>by
   cases he
   rcases Nat.eq_zero_or_pos c with hc0|hc0
   ·exact .inr (.inl hc0)
   ·obtain ⟨cs',h1,_⟩:=hall 0 hc0
    obtain ⟨h3,h4⟩:=cells?_get h1
    have h5:=h4 0 h0
    rw [List.getElem?_eq_getElem (by omega)] at h5
    obtain ⟨b,off,ocs,E,fr,ha,hb,_⟩:=cell?_inv h5
    have ha':a=⟨b,off,none⟩:=by simpa [Addr.add] using ha
    subst ha'
    exact .inr (.inr ⟨_,_,_,rfl,hb⟩)
  refine ⟨_,l,rfl,hq,⟨⟨_,_,by rw [hl],by omega,hm⟩,by rw [hl,hfl],fun hpos=>?_,hlies⟩⟩
  rw [hl] at hpos ⊢
  have hlt:0 < (l.flatMap g).length:=by rw [hfl];exact Nat.mul_pos hpos h0
  obtain ⟨b,off,ocs,E,fr,ha,hb,hcell⟩:=cell?_inv (hget 0 0 _ hpos h0 (by rw [Nat.zero_mul];exact List.getElem?_eq_getElem hlt))
  have ha':a=⟨b,off,none⟩:=by simpa [Addr.add] using ha
  subst ha'
  refine ⟨b,off,c,ocs,E,fr,rfl,hb,?_⟩
  apply List.ext_getElem?
  intro m
  rw [List.getElem?_take,List.getElem?_drop]
  split
  ·rename_i hm'
   have h5:m / e.cells < n:=Nat.div_lt_of_lt_mul (by rw [Nat.mul_comm];exact hm')
   have h6:m % e.cells < e.cells:=Nat.mod_lt _ h0
   have h7:m / e.cells * e.cells+m % e.cells=m:=by rw [Nat.mul_comm];exact Nat.div_add_mod m _
   have h8:=hget (m / e.cells) (m % e.cells) _ h5 h6 (by rw [h7];exact List.getElem?_eq_getElem (by omega))
   rw [addr_add,addr_add,Nat.add_assoc,h7,cell_of hb] at h8
   rw [List.getElem?_eq_getElem (l:=l.flatMap g) (by omega)]
   simpa using h8
  ·rw [List.getElem?_eq_none (by omega)]
end
section
def cutAt (p:Option Addr) (k n c sz:Nat):Value:=.slice (if c=k then p else p.map (·.add (k * sz))) (n - k) (c - k)
theorem RowAt.take {c k:Nat} {p:Option Addr} (h:RowAt w sz (.slice p n c) n xs) (hk:k≤n):RowAt w sz (.slice p k c) k (xs.take (k * sz)):=by
 obtain ⟨p',c',he,h1,h2⟩:=h.form
 cases he
 refine ⟨⟨_,_,rfl,by omega,h2⟩,?_,fun h0=>?_,fun _ _ _ he=>by cases he;exact h.lies _ _ _ rfl⟩
 ·rw [List.length_take,h.len];exact Nat.min_eq_left (Nat.mul_le_mul_right _ hk)
 ·obtain ⟨b,off,c',cs,E,fr,he,hb,hx⟩:=h.pos (by omega)
  cases he
  refine ⟨b,off,c,cs,E,fr,rfl,hb,?_⟩
  rw [← hx,List.take_take,Nat.min_eq_left (Nat.mul_le_mul_right _ hk)]
theorem RowAt.drop {c k:Nat} {p:Option Addr} (h:RowAt w sz (.slice p n c) n xs) (hk:k≤n):RowAt w sz (cutAt p k n c sz) (n - k) (xs.drop (k * sz)):=by
 obtain ⟨p',c',he,h1,h2⟩:=h.form
 cases he
 refine ⟨⟨_,_,rfl,by omega,by omega⟩,?_,fun h0=>?_,fun p' n' c' he=>by
  unfold cutAt at he
  simp only [Value.slice.injEq] at he
  obtain ⟨e1,_,e3⟩:=he
  by_cases hck:c=k
  ·exact .inr (.inl (by omega))
  ·rw [if_neg hck] at e1
   rcases h.lies _ _ _ rfl with h|h|⟨b,off,o,h,hb⟩
   ·subst h;exact .inl (by simpa using e1.symm)
   ·exact .inr (.inl (by omega))
   ·subst h;exact .inr (.inr ⟨b,off+k * sz,o,by simpa [addr_add] using e1.symm,hb⟩)⟩
 ·rw [List.length_drop,h.len,Nat.sub_mul]
 ·obtain ⟨b,off,c',cs,E,fr,he,hb,hx⟩:=h.pos (by omega)
  cases he
  refine ⟨b,off+k * sz,c - k,cs,E,fr,?_,hb,?_⟩
  ·unfold cutAt;rw [if_neg (by omega)];simp [addr_add]
  ·rw [← hx,List.drop_take,List.drop_drop,Nat.sub_mul]
theorem IsRow.take {c k:Nat} {p:Option Addr} (h:IsRow E sz (.slice p n c) n xs seg) (hk:k≤n):IsRow E sz (.slice p k c) k (xs.take (k * sz)) seg:=by
 cases h with
 |nil=>(obtain rfl:k=0:=(by omega));simpa using IsRow.nil
 |own hn hm hc ht hl =>
  refine .own (by omega) hm hc ?_ ?_
  ·rw [← ht,List.take_take,Nat.min_eq_left (Nat.mul_le_mul_right _ hk)]
  ·rw [List.length_take,hl];exact Nat.min_eq_left (Nat.mul_le_mul_right _ hk)
section cut
variable {P : Program} {e : Env} {T E : TypeId} {x lo hi : Operand} {p : Option Addr} {n c : Nat}
theorem elem_un (h:P.underlying T=some (.slice E)):P.underlying T=some (.slice (P.elem T)):=by
 rw [h,Program.elem,h]
theorem elem_eq (h:P.underlying T=some (.slice E)):P.elem T=E:=by rw [Program.elem,h]
theorem ValP.cutTo {k:Nat} (hU:UnI P T (.slice E)) (hI:InfoI P E sz z) (hx:e.ev x=some (.slice p n c)) (hh:e.ev hi=some (.int ik (k:Int))) (hk:k≤c):ValP P e [] (.slice T x none (some hi) none) (.slice p k c):=fun ρ w hρ _ d t pos af g=>by
 have hu:P.underlying T=some (.slice E):=hU.un
 have h1:=run_slice_h (P:=P) w T p n c (elem_un hu) ik (k:Int) (by omega) (by omega)
 rw [elem_eq hu,run_size] at h1
 have h2:(Instr.sliceAt T (.slice p n c) none (some (.int ik (k:Int))) none).run P w=.ok (.slice p k c) w:=by
  rw [run_sliceAt_slice (w:=w) T _ _ _ _ (elem_un hu),h1]
  simp only [Result.andThen_ok,sliced,Nat.zero_mul,Int.toNat_natCast,Nat.sub_zero]
  cases p with
  |none=>simp
  |some a=>simp [Addr.add]
 simp [execOp,hρ x _ hx,hρ hi _ hh,h2]
theorem ValP.cutFrom {il:IntKind} {k:Nat} (hU:UnI P T (.slice E)) (hI:InfoI P E sz z) (hx:e.ev x=some (.slice p n c)) (hl:e.ev lo=some (.int il (k:Int))) (hk:k≤n):ValP P e [] (.slice T x (some lo) none none) (cutAt p k n c sz):=fun ρ w hρ _ d t pos af g=>by
 have hu:P.underlying T=some (.slice E):=hU.un
 have h1:=run_slice_l (P:=P) w T p n c (elem_un hu) il (k:Int) (by omega) (by omega)
 rw [elem_eq hu,run_size] at h1
 have h2:(Instr.sliceAt T (.slice p n c) (some (.int il (k:Int))) none none).run P w=.ok (cutAt p k n c sz) w:=by
  rw [run_sliceAt_slice (w:=w) T _ _ _ _ (elem_un hu),h1]
  simp only [Result.andThen_ok,sliced,Int.toNat_natCast,cutAt]
 simp [execOp,hρ x _ hx,hρ lo _ hl,h2]
end cut
section mk
variable {C : Cu} {ops : Array Oper} {Q : Post} {rest : List Oper} {e : Env} {fs : Fs} {d : Nat} {t : TypeId} {pos : String} {af : Array Edge}
theorem NewP.makeSlice {T E bytes:Nat} (hU:UnI P T (.slice E)) (hI:InfoI P E sz z) (hB:BytI P E bytes) (hx:e.ev x=some (.int ik (n:Int))) (hb:n * bytes≤281474976710656) (h63:n≤9223372036854775807) :
  NewP P e (.makeSlice T x x) (.sl n n) (.cells (madeCells z.cells (n * sz)) E (0,0)):=fun ρ w hρ d t pos af g=>by
 obtain ⟨i,i1,i2,i3,i4⟩:=info_all (P:=P) (T:=E)
 have hr:=run_make (P:=P) w T E i z hU.un i1 i3 ik ik (n:Int) (n:Int) (by omega) (by omega) (by rw [i4];(have:((n * bytes:Nat):Int)≤281474976710656:=(by omega));rwa [Int.natCast_mul,Int.mul_comm] at this) (by omega)
 simp only [Int.toNat_natCast,i2] at hr
 simp [execOp,hρ x _ hx,hr,Sh.val]
theorem made_one (hz:z.cells=#[z]):(madeCells z.cells (n * 1)).toList=List.replicate n z:=by
 rw [hz,Nat.mul_one]
 apply List.ext_getElem?
 intro i
 simp only [madeCells]
 rw [Array.getElem?_toList,Array.getElem?_map,List.getElem?_replicate]
 split
 ·rename_i h
  rw [Array.getElem?_eq_getElem (by simpa using h)]
  simp [Nat.mod_one]
 ·rename_i h
  rw [Array.getElem?_eq_none (by simpa using h)]
  rfl
theorem LW.makeRow {T E bytes:Nat} (hd:Nat.blt d C.N=true) (hU:UnI C.P T (.slice E)) (hI:InfoI C.P E 1 z) (hB:BytI C.P E bytes) (hz:z.cells=#[z]) (hx:e.ev x=some (.int ik (n:Int))) (hb:n * bytes≤281474976710656) (h63:n≤maxLen)
  (k:∀ v seg,IsRow E 1 v n (List.replicate n z) seg→LW C ops Q rest ((d,v)::e) (seg++fs)):LW C ops Q (⟨some d,.makeSlice T x x,t,pos,af,none⟩::rest) e fs :=
 LW.n0 hd rfl (.makeSlice hU hI hB hx hb (by simpa [maxLen] using h63)) fun g=>k _ [(g,_)] (.own (Nat.le_refl _) h63 (by simp [madeCells]) (by rw [made_one hz];simp) (by simp))
theorem LW.appendAt {s x:Operand} {bytes:Nat} {v vx:Value} {n m:Nat} {xs news:List Value} {seg pre post:Fs} (hd:Nat.blt d C.N=true) (hT:tys=#[T,T]) (hU:UnI C.P T (.slice E)) (hI:InfoI C.P E size z) (hB:BytI C.P E bytes)
  (hz:z.cells.size=size) (hs:e.ev s=some v) (hx:e.ev x=some vx) (hseg:AtSeg fs pre seg post) (hrow:IsRow E size v n xs seg) (hat:∀ w,St C.w0 C.S fs w→RowAt w size vx m news)
  (h1:∀ u∈news,u.oneCell'=true) (hm:0 < m) (h63:n+m≤maxLen) (hb:(n+m) * bytes≤140737488355328)
  (k:∀ v' seg',IsRow E size v' (n+m) (xs++news) seg'→∃ fs',AtSeg fs' pre seg' post∧LW C ops Q rest ((d,v')::e) fs') :
  LW C ops Q (⟨some d,.call { callee:=.builtin .append,args:=#[s,x],argTypes:=tys },t,pos,af,none⟩::rest) e fs:=fun a w hsat=>by
 subst hT
 obtain ⟨i,i1,i2,i3,i4⟩:=info_all (P:=C.P) (T:=E)
 have hA:=hat w hsat.st
 obtain ⟨b,off,c,cs,E',fr,rfl,hblk,hnx⟩:=hA.pos hm
 have hst:=hsat.st
 rw [hseg.eq] at hst
 obtain ⟨v',seg',w',hr,hrow',hw'⟩:=row_append (P:=C.P) (ty:=t) hU.un i1 i3 i2 hz hrow hst ⟨b,off,none⟩ m c news hA.len (fun j u hj=>by
  rw [addr_add,cell_of hblk];exact cut_get hnx hj) h1 hm h63 (by rw [i4];exact hb)
 obtain ⟨fs',hat',hK⟩:=k v' seg' hrow'
 have hrun:(execOp a.eval ⟨some d,.call { callee:=.builtin .append,args:=#[s,x],argTypes:=#[T,T] },t,pos,af,none⟩).run C.P w=.ok (.value v') w':=by
  simp [execOp,resolve,invoke,builtin,hsat.env.ev hs,hsat.env.ev hx,hr]
 refine wpListIn_take (wanted_none _ rfl _) ⟨fun _ _=>trivial,?_⟩
 rw [semAt_FR (fun c h=>by cases h),hrun]
 exact hK _ _ ⟨hsat.env.put hd,by rw [hat'.eq];exact hw'⟩
theorem LW.lay1 {sz:TypeId} (hd:Nat.blt d C.N=true) (hU:UnI C.P T (.slice E)) (hI:InfoI C.P E sz z) (hz:z.cells.size=sz) (hs:Nat.blt 0 sz=true) (hs':Nat.ble sz 1000000=true) (hx:e.ev x=some v) (hv:v.cells=#[v]) (h1:sz=1)
  (k:∀ b,LW C ops Q rest ((d,.slice (some ⟨b,0,none⟩) 1 1)::e) ((b,.cells #[v] E (0,0))::fs)):LW C ops Q (⟨some d,.buildSlice T 1 #[(0,x)],t,pos,af,none⟩::rest) e fs:=by
 refine LW.n0 hd rfl (NewP.buildS1 hz hs hs' hx (by rw [hv,h1];rfl)) fun b=>?_
 rw [hv];exact k b
theorem LW.layA {sz:TypeId} {c:Array Value} (hd:Nat.blt d C.N=true) (hU:UnI C.P T (.slice E)) (hI:InfoI C.P E sz z) (hz:z.cells.size=sz) (hs:Nat.blt 0 sz=true) (hs':Nat.ble sz 1000000=true) (hx:e.ev x=some (.agg c)) (hc:c.size=sz)
  (k:∀ b,LW C ops Q rest ((d,.slice (some ⟨b,0,none⟩) 1 1)::e) ((b,.cells c E (0,0))::fs)):LW C ops Q (⟨some d,.buildSlice T 1 #[(0,x)],t,pos,af,none⟩::rest) e fs :=
 LW.n0 hd rfl (NewP.buildS1 hz hs hs' hx hc) k
theorem LW.callR {tys:Array TypeId} {Φ:Value→Fs→Prop} (hd:Nat.blt d C.N=true) (hf:e.ev fo=some (.func (.func f) #[] #[])) (hF:FnI C.P f) (ha:ArgsOk e args.toList vs)
  (hc:∀ w,St C.w0 C.S fs w→Calls C.P f vs.toArray w (RetG w [] Φ)) (kk:∀ v gs,Φ v gs→LW C ops Q rest ((d,v)::e) (gs++fs)):LW C ops Q (⟨some d,.call { callee:=.value fo,args:=args,argTypes:=tys },t,pos,af,none⟩::rest) e fs :=
 LW.callN hd hf hF ha (fun w hs=>by rw [arr_id];exact hc w hs) kk
end mk
section dwl
variable {C : Cu} {ops : Array Oper} {Q : Post} {tl rest : List Oper} {e : Env} {ts : Ts} {μ : Mu} {k d : Nat} {op : Op} {t : TypeId} {pos : String} {af : Array Edge} {g : Option (Nat × Bool)}
theorem DW.lay1 {sz:TypeId} (hk:ops[k]?=some ⟨some d,.buildSlice T 1 #[(0,x)],t,pos,af,g⟩) (hm:μ k=none) (hd:Nat.blt d C.N=true) (hg:WantT ops e g) (hU:UnI C.P T (.slice E)) (hI:InfoI C.P E sz z) (hz:z.cells.size=sz) (hs:Nat.blt 0 sz=true) (hs':Nat.ble sz 1000000=true) (hx:e.ev x=some v) (hv:v.cells=#[v]) (h1:sz=1)
  (kk:∀ b,DW C ops μ Q tl rest (k+1) ((d,.slice (some ⟨b,0,none⟩) 1 1)::e) ((b,.cells #[v] E (0,0),[k],[])::ts)):DW C ops μ Q tl (⟨some d,.buildSlice T 1 #[(0,x)],t,pos,af,g⟩::rest) k e ts:=by
 refine DW.new hk hm hd hg rfl (NewP.buildS1 hz hs hs' hx (by rw [hv,h1];rfl)) fun b=>?_
 rw [hv];exact kk b
theorem DW.layA {sz:TypeId} {c:Array Value} (hk:ops[k]?=some ⟨some d,.buildSlice T 1 #[(0,x)],t,pos,af,g⟩) (hm:μ k=none) (hd:Nat.blt d C.N=true) (hg:WantT ops e g) (hU:UnI C.P T (.slice E)) (hI:InfoI C.P E sz z) (hz:z.cells.size=sz) (hs:Nat.blt 0 sz=true) (hs':Nat.ble sz 1000000=true) (hx:e.ev x=some (.agg c)) (hc:c.size=sz)
  (kk:∀ b,DW C ops μ Q tl rest (k+1) ((d,.slice (some ⟨b,0,none⟩) 1 1)::e) ((b,.cells c E (0,0),[k],[])::ts)):DW C ops μ Q tl (⟨some d,.buildSlice T 1 #[(0,x)],t,pos,af,g⟩::rest) k e ts :=
 DW.new hk hm hd hg rfl (NewP.buildS1 hz hs hs' hx hc) kk
end dwl
theorem RowAt.us {g cap:Nat} {cur:Array Value} {us:Fs} (hu:∀ p∈(g,Obj.cells cur E fr)::us,w.heap[p.1]?=some p.2) (hn:n≤cap) (hm:cap≤maxLen) (ht:cur.toList.take (n * sz)=xs) (hl:xs.length=n * sz):RowAt w sz (.slice (some ⟨g,0,none⟩) n cap) n xs :=
 ⟨⟨_,_,rfl,hn,hm⟩,hl,fun _=>⟨g,0,cap,cur,E,fr,rfl,hu _ List.mem_cons_self,by simpa using ht⟩,.own (hu _ List.mem_cons_self)⟩
theorem ValP.indexAddrSL {i:Operand} {len cap:Nat} {k:Nat} [UnI P T (.slice E)] [InfoI P E n z] (hx:e.ev x=some (.slice (some ⟨b,off,none⟩) len cap)) (hi:e.ev i=some (.int ik (OfNat.ofNat k))) (_:k=k) (hk:(OfNat.ofNat k:Nat) < len) :
  ValP P e [] (.indexAddr T x i) (.pointer (some ⟨b,off+(OfNat.ofNat k:Nat) * n,none⟩)):=.indexAddrS hx hi rfl hk
section mm
variable {P : Program} {e : Env} {x y : Operand} {tys : Array TypeId} {m n : Nat} {ik : IntKind}
theorem ValP.maxZ (hx:e.ev x=some (.int ik (m:Int))) (hy:e.ev y=some (.int ik (n:Int))):ValP P e [] (.call { callee:=.builtin .max,args:=#[x,y],argTypes:=tys }) (.int ik ((max m n:Nat):Int)):=fun ρ w hρ _ d t pos af g=>by
 have h:(if (n:Int) > (m:Int) then (n:Int) else (m:Int))=((max m n:Nat):Int):=by split<;>omega
 have h2:=run_max_int2 (P:=P) (w:=w) tys t ik ik (m:Int) (n:Int)
 rw [h] at h2
 simp [execOp,resolve,invoke,builtin,hρ x _ hx,hρ y _ hy,h2]
theorem ValP.minZ (hx:e.ev x=some (.int ik (m:Int))) (hy:e.ev y=some (.int ik (n:Int))):ValP P e [] (.call { callee:=.builtin .min,args:=#[x,y],argTypes:=tys }) (.int ik ((min m n:Nat):Int)):=fun ρ w hρ _ d t pos af g=>by
 have h:(if (n:Int) < (m:Int) then (n:Int) else (m:Int))=((min m n:Nat):Int):=by split<;>omega
 have h2:=run_min_int2 (P:=P) (w:=w) tys t ik ik (m:Int) (n:Int)
 rw [h] at h2
 simp [execOp,resolve,invoke,builtin,hρ x _ hx,hρ y _ hy,h2]
end mm
def ics (l:List Nat):List Value:=l.flatMap fun (b:Nat)=>[Value.int .i64 (b:Int)]
theorem ics_len (l:List Nat):∀ b∈l,([Value.int .i64 (b:Int)]).length=1:=fun _ _=>rfl
theorem ics_app (l r:List Nat):ics (l++r)=ics l++ics r:=by simp [ics]
theorem ics_cells (l:List Nat):∀ u∈ics l,u.oneCell'=true:=fun u hu=>by
 obtain ⟨b,_,hb⟩:=List.mem_flatMap.1 hu
 obtain rfl:u=_:=by simpa using hb
 rfl
theorem ics_zero (n:Nat):List.replicate n (Value.int .i64 0)=ics (List.replicate n 0):=by
 induction n with
 |zero=>rfl
 |succ n ih=>rw [List.replicate_succ,List.replicate_succ,ih];rfl
theorem ics_take (l:List Nat) (k:Nat):(ics l).take (k * 1)=ics (l.take k):=by
 rw [Nat.mul_one]
 induction l generalizing k with
 |nil=>simp [ics]
 |cons a l ih =>
  cases k with
  |zero=>simp [ics]
  |succ k=>have:=ih k;simp only [ics,List.flatMap_cons,List.singleton_append,List.take_succ_cons] at *;rw [this]
theorem ics_drop (l:List Nat) (k:Nat):(ics l).drop (k * 1)=ics (l.drop k):=by
 rw [Nat.mul_one]
 induction l generalizing k with
 |nil=>simp [ics]
 |cons a l ih =>
  cases k with
  |zero=>simp [ics]
  |succ k=>have:=ih k;simp only [ics,List.flatMap_cons,List.singleton_append,List.drop_succ_cons] at *;rw [this]
theorem IsRow.atSeg {pre post:Fs} (h:IsRow E sz v n xs seg) (hseg:AtSeg fs pre seg post) (hs:St w0 S fs w):RowAt w sz v n xs:=by
 rw [hseg.eq] at hs
 exact h.at hs
end
section
theorem dTAVEH {P:Prop} (h:P:=by
 rw [Op.equalIn.eq_def];simp only [Sem.run_bind,run_un (P:=P) (T:=T),Result.andThen_ok];rfl):P:=h
section bo
variable {P : Program} {e : Env} {T ty : TypeId} {x y : Operand} {a b : Bool}
theorem guard_bool {op:BinOp} (w:World):(eqGuard op T x y (.bool a) v).run P w=.ok () w:=by
 unfold eqGuard;cases op<;>cases v<;>simp
theorem eqIn_bool (d:Nat) (w:World) [UnI P T .bool]:(Op.equalIn (d+1) T (.bool a) (.bool b)).run P w=.ok (a == b) w:=by
 exact dTAVEH
theorem ValP.boolNe [UnI P T .bool] (hx:e.ev x=some (.bool a)) (hy:e.ev y=some (.bool b)):ValP P e [] (.binOp .neq T x y ty) (.bool (a != b)) :=
 .bin hx hy (fun w=>guard_bool w) fun w=>by
  have:=eqIn_bool (P:=P) (T:=T) (a:=a) (b:=b) (Op.maxDepth - 1) w
  simp only [binOp,Op.equal,Sem.run_bind]
  rw [show Op.maxDepth=Op.maxDepth - 1+1 from rfl,this];rfl
end bo
theorem Rd.mid [AgI P T true] [InfoI P T n z] {c:Array Value} {E:TypeId} {fr:Nat × Nat} {off:Nat} {cs:List Value} (hn:cs.length=n) (h:(c.toList.drop off).take n=cs):Rd P T (.cells c E fr) off (.agg cs.toArray) :=
 Rd.part hn fun j v hv=>cut_get h hv
end
section
open Go Go.RowKit Go.ChangeShapes Go.WideShapes
section op
variable {H : Type} {enc : TypeId × Value → H} {P : Program} {w W : World} {held : Bool} {r : Reach} {base : Nat} {T E : TypeId} {v : Value} {d : DataW H} {ps : List MemPlace}
theorem open_row {α:Type} {g:α→List Value} {Q:α→Prop} {e:Ty} (hu:P.underlying T=some (.slice E)) (hT:(Ty.sl e).ok P (.inl T)=true) (hc:e.cells=sz) (h0:0 < sz) (he:∀ cs',e.is w cs'→∃ x,Q x∧cs'=g x)
  (hv:Value.okWide P W r base T v) (h:DataW.Trod enc P w 0 (fun _=>true) held T v d ps):∃ l:List α,(∀ x∈l,Q x)∧RowAt w sz v l.length (l.flatMap g):=by
 obtain ⟨a,n,c,rfl⟩:=okWide_slice hu hv
 obtain ⟨v',l,h1,h2,h3⟩:=sl_rows hc h0 he (open_one hT h)
 obtain rfl:v'=_:=by simpa [Value.cells] using h1.symm
 exact ⟨l,fun x hx=>(h2 x hx).1,h3⟩
end op
end
section
theorem dTAEvs {P:Prop} (h:P:=by
 cases q with
 |none=>exact Src.ofNil w hU.un c'
 |some a=>exact Src.ofSlice w hU.un a 0 c' [] (by simp) (fun j u h=>by simp at h) (fun u h=>by cases h)):P:=h
theorem RowAt.bel (h:RowAt w0 sz v n xs) (hb:Bel w0.heap.size [] w0 w):RowAt w sz v n xs :=
 ⟨h.form,h.len,fun h0=>by
  obtain ⟨b,off,c,cs,E,fr,h1,h2,h3⟩:=h.pos h0
  exact ⟨b,off,c,cs,E,fr,h1,by rw [hb.block b (Array.getElem?_eq_some_iff.1 h2).1 (by simp)];exact h2,h3⟩,fun p n c he=>by
  rcases h.lies p n c he with h|h|⟨b,off,o,h1,h2⟩
  ·exact .inl h
  ·exact .inr (.inl h)
  ·exact .inr (.inr ⟨b,off,o,h1,by rw [hb.block b (Array.getElem?_eq_some_iff.1 h2).1 (by simp)];exact h2⟩)⟩
theorem RowAt.st (h:RowAt w0 sz v n xs) (hs:St w0 [] fs w):RowAt w sz v n xs:=h.bel hs.bel
theorem IsRow.pos {c:Nat} {p:Option Addr} (h:IsRow E sz (.slice p n c) n xs seg) (h0:0 < n):∃ g cur,p=some ⟨g,0,none⟩∧seg=[(g,.cells cur E (0,0))]∧n≤c∧c≤maxLen∧cur.size=c * sz∧cur.toList.take (n * sz)=xs:=by
 cases h with
 |nil=>cases h0
 |own hn hm hc ht hl=>exact ⟨_,_,rfl,rfl,hn,hm,hc,ht⟩
theorem NewP.build0 (hU:UnI P T (.slice E)) (hI:InfoI P E size z):NewP P e (.buildSlice T 0 #[]) (.sl 0 0) (.cells #[] E (0,0)):=fun ρ w hρ d t pos af g=>by
 have hr:(Instr.buildSlice T 0 ((#[]:Array (Nat × Operand)).map fun p=>(p.1,ρ p.2))).run P w=.ok ((Sh.sl 0 0).val w.heap.size) (w.alloc (.cells #[] E (0,0))):=by
  unfold Instr.buildSlice
  simp only [Sem.run_bind,run_un,run_size,Result.andThen_ok]
  simp [newRow,Sh.val,Instr.fill,Array.range_zero']
 simp only [execOp]
 exact (show ((do pure (.value (← Instr.buildSlice T 0 ((#[]:Array (Nat × Operand)).map fun p=>(p.1,ρ p.2)))):Sem Next)).run P w=_ by simp only [Sem.run_bind,hr];rfl)
section mm
variable {P : Program} {e : Env} {x y : Operand} {tys : Array TypeId} {m n : Nat} {ik : IntKind}
theorem ValP.minZL (hx:e.ev x=some (.int ik (m:Int))) (hy:e.ev y=some (.int ik (OfNat.ofNat n))) (_:n=n):ValP P e [] (.call { callee:=.builtin .min,args:=#[x,y],argTypes:=tys }) (.int ik ((min m (OfNat.ofNat n):Nat):Int)):=.minZ hx hy
theorem ValP.cutToL {hi:Operand} {p:Option Addr} {c k:Nat} (hU:UnI P T (.slice E)) (hI:InfoI P E sz z) (hx:e.ev x=some (.slice p n c)) (hh:e.ev hi=some (.int ik (OfNat.ofNat k))) (_:k=k) (hk:(OfNat.ofNat k:Nat)≤c):ValP P e [] (.slice T x none (some hi) none) (.slice p (OfNat.ofNat k) c):=.cutTo hU hI hx hh hk
theorem ValP.cutFromL {lo:Operand} {p:Option Addr} {c k:Nat} (hU:UnI P T (.slice E)) (hI:InfoI P E sz z) (hx:e.ev x=some (.slice p n c)) (hl:e.ev lo=some (.int ik (OfNat.ofNat k))) (_:k=k) (hk:(OfNat.ofNat k:Nat)≤n):ValP P e [] (.slice T x (some lo) none none) (cutAt p (OfNat.ofNat k) n c sz):=.cutFrom hU hI hx hl hk
end mm
section lw
variable {C : Cu} {ops : Array Oper} {Q : Post} {rest : List Oper} {e : Env} {fs : Fs} {d : Nat} {t : TypeId} {pos : String} {af : Array Edge}
theorem LW.lay0 {sz:TypeId} (hd:Nat.blt d C.N=true) (hU:UnI C.P T (.slice E)) (hI:InfoI C.P E sz z) (k:∀ v seg,IsRow E sz v 0 [] seg→LW C ops Q rest ((d,v)::e) (seg++fs)) :
  LW C ops Q (⟨some d,.buildSlice T 0 #[],t,pos,af,none⟩::rest) e fs :=
 LW.n0 hd rfl (NewP.build0 hU hI) fun g=>k _ [(g,_)] (.own (cur:=#[]) (Nat.le_refl 0) (Nat.zero_le _) (by simp) (by simp) (by simp))
theorem ValP.append0 {s:Operand} {sz:TypeId} {p q:Option Addr} {c c':Nat} (hT:tys=#[T,T]) (hU:UnI P T (.slice E)) (hI:InfoI P E sz z) (hs:e.ev s=some (.slice p n c)) (hx:e.ev x=some (.slice q 0 c')) (hle:n≤c) :
  ValP P e [] (.call { callee:=.builtin .append,args:=#[s,x],argTypes:=tys }) (.slice p n c):=fun ρ w hρ _ d t pos af g=>by
 subst hT
 obtain ⟨i,h1,h2,_⟩:=info_of (P:=P) (T:=E)
 have hsrc:Src P i.size T (.slice q 0 c') 0 [] w:=by
  exact dTAEvs
 have hr:=run_append_nothing (P:=P) w T T t E i hU.un h1 p n c hle _ hsrc
 simp [execOp,resolve,invoke,builtin,hρ s _ hs,hρ x _ hx,hr]
theorem LW.appendAny {s x:Operand} {bytes:Nat} {v vx:Value} {n m:Nat} {xs news:List Value} {seg pre post:Fs} (hd:Nat.blt d C.N=true) (hT:tys=#[T,T]) (hU:UnI C.P T (.slice E)) (hI:InfoI C.P E size z) (hB:BytI C.P E bytes)
  (hz:z.cells.size=size) (hs:e.ev s=some v) (hx:e.ev x=some vx) (hseg:AtSeg fs pre seg post) (hrow:IsRow E size v n xs seg) (hat:∀ w,St C.w0 C.S fs w→RowAt w size vx m news)
  (h1:∀ u∈news,u.oneCell'=true) (h63:n+m≤maxLen) (hb:(n+m) * bytes≤140737488355328)
  (k:∀ v' seg',IsRow E size v' (n+m) (xs++news) seg'→∃ fs',AtSeg fs' pre seg' post∧LW C ops Q rest ((d,v')::e) fs') :
  LW C ops Q (⟨some d,.call { callee:=.builtin .append,args:=#[s,x],argTypes:=tys },t,pos,af,none⟩::rest) e fs:=by
 rcases Nat.eq_zero_or_pos m with hm|hm
 ·subst hm
  intro a w hsat
  have hA:=hat w hsat.st
  have hn:news=[]:=List.length_eq_zero_iff.1 (by rw [hA.len,Nat.zero_mul])
  subst hn
  obtain ⟨q,c',rfl,_,_⟩:=hA.form
  have hp:∃ p c,v=.slice p n c∧n≤c:=by
   cases hrow with
   |nil=>exact ⟨_,_,rfl,Nat.le_refl _⟩
   |own hn _ _ _ _=>exact ⟨_,_,rfl,hn⟩
  obtain ⟨p,c,rfl,hle⟩:=hp
  obtain ⟨fs',hat',hK⟩:=k _ seg (by simpa using hrow)
  have:fs'=fs:=by rw [hat'.eq,hseg.eq]
  subst this
  exact LW.v0 hd rfl (ValP.append0 hT hU hI hs hx hle) hK a w hsat
 ·exact LW.appendAt hd hT hU hI hB hz hs hx hseg hrow hat h1 hm h63 hb k
end lw
theorem wr_take {cur:Array Value} {m:Nat} (ht:cur.toList.take (m * sz)=xs) (hvs:vs.length=sz) (hi:i < m) (hlen:m * sz≤cur.size) :
  (wrCells cur (i * sz) vs).toList.take (m * sz)=xs.take (i * sz)++vs++xs.drop ((i+1) * sz)∧(wrCells cur (i * sz) vs).size=cur.size:=by
 have hk:∀ (vs:List Value) (c:Array Value) (off:Nat),off+vs.length≤c.size→(wrCells c off vs).toList=c.toList.take off++vs++c.toList.drop (off+vs.length):=by
  intro vs
  induction vs with
  |nil=>intro c off h;simp [wrCells]
  |cons v r ih =>
   intro c off h
   simp only [List.length_cons] at h
   rw [wrCells,ih _ _ (by simp;omega)]
   simp only [Array.toList_setIfInBounds,List.length_cons]
   have hlt:off < c.toList.length:=by simp;omega
   have hl:(c.toList.take off).length=off:=by simp;omega
   rw [List.take_set,List.take_succ_eq_append_getElem hlt,List.set_append_right _ _ (by rw [hl];exact Nat.le_refl _),hl,Nat.sub_self,List.drop_set_of_lt (by omega)]
   simp [Nat.add_assoc,Nat.add_comm 1]
 have h1:(i+1) * sz≤m * sz:=Nat.mul_le_mul_right _ hi
 have h2:(i+1) * sz=i * sz+sz:=Nat.succ_mul i sz
 have h3:=hk vs cur (i * sz) (by rw [hvs,← h2];omega)
 constructor
 ·rw [h3,hvs,← h2,← ht]
  have hl1:(cur.toList.take (i * sz)).length=i * sz:=by simp;omega
  rw [List.append_assoc,List.take_append,hl1,List.take_of_length_le (by rw [hl1];omega),List.take_append,hvs,List.take_of_length_le (l:=vs) (by omega),List.take_take,Nat.min_eq_left (by omega),List.append_assoc]
  congr 2
  rw [List.drop_take]
  congr 1
  omega
 ·rw [← Array.length_toList,h3]
  simp [hvs]
  omega
end
section
section ar
variable {P : Program} {e : Env} {x hi : Operand} {T E A : TypeId} {n sz k : Nat} {z : Value} {ik : IntKind} {b off : Nat}
theorem ValP.cutArr (hU:UnI P T (.array n E)) (hI:InfoI P E sz z) (hx:e.ev x=some (.pointer (some ⟨b,off,none⟩))) (hh:e.ev hi=some (.int ik (OfNat.ofNat k))) (hk:Nat.ble (OfNat.ofNat k) n=true):ValP P e [] (.slice T x none (some hi) none) (.slice (some ⟨b,off,none⟩) (OfNat.ofNat k) n):=fun ρ w hρ _ d t pos af g=>by
 have hk':=Nat.le_of_ble_eq_true hk
 have hu:=hU.un
 have h1:(Instr.sliceAt T (.pointer (some ⟨b,off,none⟩)) none (some (.int ik (OfNat.ofNat k))) none).run P w=.ok (.slice (some ⟨b,off,none⟩) (OfNat.ofNat k) n) w:=by
  have hal:P.arrayLen T=n:=by rw [Program.arrayLen,hu]
  have hel:P.elem T=E:=by rw [Program.elem,hu]
  have h2:=run_sliceAt_array_h (P:=P) w T ⟨b,off,none⟩ (by rw [hal,hel];exact hu) ik ((OfNat.ofNat k:Nat):Int) (Int.natCast_nonneg _) (by rw [hal];exact Int.ofNat_le.2 hk')
  rw [hel,run_size,hal] at h2
  have e1:((OfNat.ofNat k:Int))=((OfNat.ofNat k:Nat):Int):=rfl
  rw [e1,h2]
  simp only [Result.andThen_ok,slicedAt,Nat.zero_mul,Int.toNat_natCast,Nat.sub_zero]
  simp [Addr.add]
 simp [execOp,hρ x _ hx,hρ hi _ hh,h1]
theorem ValP.asArr {p:Option Addr} {m c:Nat} (hU:UnI P A (.array n E)) (hx:e.ev x=some (.slice p m c)) (hn:Nat.ble n m=true):ValP P e [] (.sliceToArrayPointer A x) (.pointer p):=fun ρ w hρ _ d t pos af g=>by
 have h1:=run_arrayAt (P:=P) w A E n p m c hU.un (Nat.le_of_ble_eq_true hn)
 simp [execOp,hρ x _ hx,h1]
end ar
end
theorem LW.guardU {op:Op} {t:TypeId} {pos:String} {af:Array Edge} {s:Nat} {g:Bool} (hs:(ops[j]?).bind (·.dst)=some s) (he:e.get s=some undef) (hd:Nat.blt d C.N=true) (h:LW C ops Q rest ((d,undef)::e) fs) :
  LW C ops Q (⟨some d,op,t,pos,af,some (j,g)⟩::rest) e fs:=by
 intro a w hst
 have h1:=h _ w ⟨hst.env.put (v:=undef) hd,hst.st⟩
 have hy:yielded ops a.tmps j=none:=by simp [yielded,hs,hst.env.get s _ he,undef]
 unfold wpListIn
 rw [if_neg (by simp [Region.wanted,hy])]
 exact ⟨fun _ _=>trivial,h1⟩
theorem DW.skipU {Q:Post} {tl rest:List Oper} {e:Env} {ts:Ts} {μ:Mu} {k:Nat} {op:Op} {pos:String} {s:Nat} {b:Bool} (hk:ops[k]?=some ⟨some d,op,t,pos,af,some (j,b)⟩) (hd:Nat.blt d C.N=true) (hs:(ops[j]?).bind (·.dst)=some s)
  (he:e.get s=some undef) (kk:DW C ops μ Q tl rest (k+1) ((d,undef)::e) ts):DW C ops μ Q tl (⟨some d,op,t,pos,af,some (j,b)⟩::rest) k e ts:=by
 intro a φ tw tr ha hr hinv
 have hw:Region.wanted ⟨some d,op,t,pos,af,some (j,b)⟩ (yielded ops a.tmps)=false:=by
  have hy:yielded ops a.tmps j=none:=by simp [yielded,hs,ha.get s _ he,undef]
  simp [Region.wanted,hy]
 exact dTAJvq
section
def ucs (l:List UInt8):List Value:=l.flatMap fun u=>[Value.int .u8 (u.toNat:Int)]
theorem ucs_map (l:List UInt8):ucs l=l.map fun u=>Value.int .u8 (u.toNat:Int):=by
 induction l with
 |nil=>rfl
 |cons a l ih=>simp [ucs] at *;exact ih
theorem ucs_len (l:List UInt8):(ucs l).length=l.length:=by rw [ucs_map,List.length_map]
theorem ucs_one (l:List UInt8):∀ u∈l,([Value.int .u8 (u.toNat:Int)]:List Value).length=1:=fun _ _=>rfl
theorem ucs_app (l r:List UInt8):ucs (l++r)=ucs l++ucs r:=by simp [ucs]
theorem ucs_take (l:List UInt8) (k:Nat):(ucs l).take (k * 1)=ucs (l.take k):=by rw [ucs_map,ucs_map,Nat.mul_one,List.map_take]
theorem ucs_drop (l:List UInt8) (k:Nat):(ucs l).drop (k * 1)=ucs (l.drop k):=by rw [ucs_map,ucs_map,Nat.mul_one,List.map_drop]
theorem ucs_cells (l:List UInt8):∀ u∈ucs l,u.oneCell'=true:=fun u hu=>by
 rw [ucs_map] at hu
 obtain ⟨a,_,rfl⟩:=List.mem_map.1 hu
 rfl
theorem ucs_zero (n:Nat):ucs (List.replicate n 0)=List.replicate n (Value.int .u8 0):=by rw [ucs_map,List.map_replicate];rfl
theorem is_u8 {cs:List Value} (h:(Ty.int .u8).is w cs):∃ u:UInt8,True∧cs=[Value.int .u8 (u.toNat:Int)]:=by
 obtain ⟨n,rfl,hn⟩:=h
 simp [Lit.wf,IntKind.min,IntKind.max,IntKind.signed,IntKind.bits] at hn
 refine ⟨UInt8.ofNat n.toNat,trivial,?_⟩
 rw [UInt8.toNat_ofNat']
 congr 2
 omega
theorem is_bytes {cs:List Value} (h:(Ty.sl (.int .u8)).is w cs):∃ x:Value × List UInt8,RowAt w 1 x.1 x.2.length (ucs x.2)∧cs=[x.1]:=by
 obtain ⟨v,l,h1,_,h3⟩:=sl_rows (g:=fun u:UInt8=>[Value.int .u8 (u.toNat:Int)]) (Q:=fun _=>True) (sz:=1) rfl (by decide) (fun _ h=>is_u8 h) h
 exact ⟨(v,l),h3,h1⟩
theorem RowAt.string {l:List UInt8} {S:TypeId} (h:RowAt w 1 v n (ucs l)) (hS:P.underlying S=some (.slice E)) (hE:P.underlying E=some (.int .u8)) (hT:P.underlying T=some .string) :
  (convert S T v).run P w=.ok (.string ⟨l.toArray⟩) w:=by
 have hn:l.length=n:=by have:=h.len;rw [ucs_len] at this;omega
 rcases Nat.eq_zero_or_pos n with h0|h0
 ·subst h0
  obtain rfl:l=[]:=List.length_eq_zero_iff.1 hn
  obtain ⟨p,c,rfl,_,_⟩:=h.form
  rw [run_convert_bytes_string w S T E _ 0 c hS hE hT]
  cases p<;>simp [Conv.bytesToString,loadCells]
  all_goals rfl
 ·obtain ⟨b,off,c,cs,E',fr,rfl,hb,hx⟩:=h.pos h0
  have:=run_convert_bytes_arg (P:=P) w S E hS hE b off n c (l.map fun u=>(u.toNat:Int)) (by simpa using hn) (fun i hi=>by
   have hlt:i < l.length:=by omega
   have hg:=cut_get (j:=i) (v:=.int .u8 (l[i].toNat:Int)) hx (by rw [ucs_map];simp [hlt])
   rw [cell_of hb,hg]
   simp [List.getD,hlt]) T hT
  rw [this]
  congr 2
  simp only [strOfNums,List.map_map]
  congr 2
  conv=>rhs;rw [← List.map_id l]
  apply List.map_congr_left
  intro u _
  simp
section lw
variable {C : Cu} {ops : Array Oper} {Q : Post} {rest : List Oper} {e : Env} {fs : Fs} {d : Nat} {t : TypeId} {pos : String} {af : Array Edge}
theorem LW.toStr {S:TypeId} {l:List UInt8} (hd:Nat.blt d C.N=true) (hS:UnI C.P S (.slice E)) (hE:UnI C.P E (.int .u8)) (hT:UnI C.P T .string) (hx:e.ev x=some v) (hat:∀ w,St C.w0 C.S fs w→RowAt w 1 v n (ucs l))
  (k:LW C ops Q rest ((d,.string ⟨l.toArray⟩)::e) fs):LW C ops Q (⟨some d,.convert S T x,t,pos,af,none⟩::rest) e fs :=
 LW.val hd (fun c h=>by cases h) (fun a w hs=>by
  have:=(hat w hs.st).string (P:=C.P) hS.un hE.un hT.un
  simp [execOp,hs.env.ev hx,this]) k
end lw
end

section
theorem dTArCh {P:Prop} (h:P:=by
 exact DW.manyE hk hm hd hg hf hF ha (show _=vs.flatMap (blocksN 4) from rfl) h1 (fun w hb hu=>hc w hb fun p hp=>hu p (h2 p hp)) kk):P:=h
theorem dTAvad {P:Prop} (h:P:=by
 rcases List.mem_cons.1 hp with rfl|hp
 ·exact List.mem_cons_self
 ·exact List.mem_cons_of_mem _ (h2 p hp)):P:=h
theorem IsRow.us {us:Fs} (h:IsRow E sz v n xs seg) (hu:∀ p∈us,w.heap[p.1]?=some p.2) (hs:List.Sublist seg us):RowAt w sz v n xs:=by
 cases h with
 |nil=>exact .nil
 |@own g _ cap cur _ hn hm hc ht hl =>
  have hg:=hu (g,.cells cur E (0,0)) (hs.subset (by simp))
  exact dTAOEC
inductive RdV (C:Cu) (ops:Array Oper) (k:Nat):List Value→Ts→Fs→Ts→Prop
 |nil {ts:Ts}:RdV C ops k [] ts [] ts
 |plain {v:Value} {vs:List Value} {ts ts2:Ts} {us:Fs} (hb:blocksN 4 v=[]) (h:RdV C ops k vs ts us ts2):RdV C ops k (v::vs) ts us ts2
 |none {n c:Nat} {vs:List Value} {ts ts2:Ts} {us:Fs} (h:RdV C ops k vs ts us ts2):RdV C ops k (.slice .none n c::vs) ts us ts2
 |ptr {b off:Nat} {o:Obj} {vs:List Value} {ts ts1 ts2:Ts} {us:Fs} (h:TRead ops k ts b o ts1) (hs:RdV C ops k vs ts1 us ts2):RdV C ops k (.pointer (some ⟨b,off,.none⟩)::vs) ts ((b,o)::us) ts2
 |own {b off n c:Nat} {o:Obj} {vs:List Value} {ts ts1 ts2:Ts} {us:Fs} (hc:0 < c) (h:TRead ops k ts b o ts1) (hs:RdV C ops k vs ts1 us ts2):RdV C ops k (.slice (some ⟨b,off,.none⟩) n c::vs) ts ((b,o)::us) ts2
 |ext {v:Value} {n:Nat} {sz:Nat} {xs:List Value} {vs:List Value} {ts ts2:Ts} {us:Fs} (h:RowAt C.w0 sz v n xs) (hS:C.S=[]) (hs:RdV C ops k vs ts us ts2):RdV C ops k (v::vs) ts us ts2
theorem RdV.all {k:Nat} {us:Fs} (h:RdV C ops k vs ts us ts'):∃ us2,ReadAll C ops k (vs.flatMap (blocksN 4)) ts us2 ts'∧∀ p∈us,p∈us2:=by
 induction h with
 |nil=>exact ⟨[],.nil,by simp⟩
 |plain hb _ ih =>
  obtain ⟨us2,h1,h2⟩:=ih
  exact ⟨us2,by rw [List.flatMap_cons,hb];exact h1,h2⟩
 |none _ ih =>
  obtain ⟨us2,h1,h2⟩:=ih
  exact ⟨us2,h1,h2⟩
 |@ptr b off o vs ts ts1 ts2 us h _ ih =>
  obtain ⟨us2,h1,h2⟩:=ih
  refine ⟨(b,o)::us2,.own h h1,fun p hp=>?_⟩
  exact dTAvad
 |@own b off n c o vs ts ts1 ts2 us hc h _ ih =>
  obtain ⟨us2,h1,h2⟩:=ih
  refine ⟨(b,o)::us2,?_,fun p hp=>?_⟩
  ·rw [List.flatMap_cons,show blocksN 4 (.slice (some ⟨b,off,.none⟩) n c)=[b] by simp [blocksN,Nat.ne_of_gt hc]]
   exact .own h h1
  ·exact dTAvad
 |@ext v n sz xs vs ts ts2 us h hS _ ih =>
  obtain ⟨us2,h1,h2⟩:=ih
  obtain ⟨p,c,rfl,_,_⟩:=h.form
  rcases h.lies _ _ _ rfl with rfl|rfl|⟨b,off,o,rfl,hb⟩
  ·exact ⟨us2,h1,h2⟩
  ·exact ⟨us2,by rw [List.flatMap_cons,show blocksN 4 (.slice p n 0)=[] by cases p<;>simp [blocksN]];exact h1,h2⟩
  ·rcases Nat.eq_zero_or_pos c with hc|hc
   ·subst hc
    exact ⟨us2,by rw [List.flatMap_cons,show blocksN 4 (.slice (some ⟨b,off,.none⟩) n 0)=[] by simp [blocksN]];exact h1,h2⟩
   ·refine ⟨(b,o)::us2,?_,fun p hp=>List.mem_cons_of_mem _ (h2 p hp)⟩
    rw [List.flatMap_cons,show blocksN 4 (.slice (some ⟨b,off,.none⟩) n c)=[b] by simp [blocksN,Nat.ne_of_gt hc]]
    exact .ext hb (by rw [hS];simp) h1
section dw
variable {C : Cu} {ops : Array Oper} {Q : Post} {tl rest : List Oper} {e : Env} {ts : Ts} {μ : Mu} {k d : Nat} {op : Op} {t : TypeId} {pos : String} {af : Array Edge} {g : Option (Nat × Bool)}
theorem DW.callV {fo:Operand} {args:Array Operand} {tys:Array TypeId} {f:FuncId} {vs:List Value} {v:Value} {us:Fs} {ts':Ts} (hk:ops[k]?=some ⟨some d,.call { callee:=.value fo,args:=args,argTypes:=tys },t,pos,af,g⟩) (hm:μ k=none)
  (hd:Nat.blt d C.N=true) (hg:WantT ops e g) (hf:e.ev fo=some (.func (.func f) #[] #[])) (hF:FnI C.P f) (ha:ArgsOk e args.toList vs) (hr:RdV C ops k vs ts us ts')
  (hc:∀ w,Bel C.w0.heap.size C.S C.w0 w→(∀ p∈us,w.heap[p.1]?=some p.2)→Calls C.P f vs.toArray w (Ret w v)) (kk:DW C ops μ Q tl rest (k+1) ((d,v)::e) ts') :
  DW C ops μ Q tl (⟨some d,.call { callee:=.value fo,args:=args,argTypes:=tys },t,pos,af,g⟩::rest) k e ts:=by
 obtain ⟨us2,h1,h2⟩:=hr.all
 exact DW.callE hk hm hd hg hf hF ha (show _=vs.flatMap (blocksN 4) from rfl) h1 (fun w hb hu=>hc w hb fun p hp=>hu p (h2 p hp)) kk
theorem DW.manyV {fo:Operand} {args:Array Operand} {tys:Array TypeId} {f:FuncId} {vs:List Value} {M:Rel1} {us:Fs} {ts':Ts} (hk:ops[k]?=some ⟨some d,.call { callee:=.value fo,args:=args,argTypes:=tys },t,pos,af,g⟩) (hm:μ k=some (cst M,(false:Fl)))
  (hd:Nat.blt d C.N=true) (hg:WantT ops e g) (hf:e.ev fo=some (.func (.func f) #[] #[])) (hF:FnI C.P f) (ha:ArgsOk e args.toList vs) (hr:RdV C ops k vs ts us ts')
  (hc:∀ w,Bel C.w0.heap.size C.S C.w0 w→(∀ p∈us,w.heap[p.1]?=some p.2)→Calls C.P f vs.toArray w (RetG w [] M)) (kk:∀ v gs,M v gs→DW C ops μ Q tl rest (k+1) ((d,v)::e) (tsNew k gs++ts')) :
  DW C ops μ Q tl (⟨some d,.call { callee:=.value fo,args:=args,argTypes:=tys },t,pos,af,g⟩::rest) k e ts:=by
 obtain ⟨us2,h1,h2⟩:=hr.all
 exact dTArCh
end dw
end
section
theorem stepR_scope {b:Frame} {k:List Item} {cs:List Frame} {c:Code}:step P (lone (b.atR a (.code (.scope c)::k)) cs w)=.next (lone (b.atR a (.code c::.inScope c::k)) cs w) :=
 step_lone_go (by simp [stepG,stepG.exec,Frame.atR])
theorem stepR_inScope {b:Frame} {k:List Item} {cs:List Frame} {c:Code}:step P (lone (b.atR a (.inScope c::k)) cs w)=.next (lone (b.atR a k) cs w) :=
 step_lone_go (by simp [stepG,stepG.exec,Frame.atR])
theorem wpIn_scope {F:Fence} {c:Code} {Q Q':Exit→Act→World→Prop} (hQ:∀ x a w,Q' x a w→(∀ l,x ≠ .goto l)∧Q x a w) (h:c.wpIn F n P Q' a w):(Code.scope c).wpIn F n P Q a w:=by
 intro b k cs hro hb hr
 have h0:(lone (b.atR a (.code (.scope c)::k)) cs w).fenced P F:=fenced_calm hb hr rfl
 obtain ⟨e,a₁,w₁,hq,harr⟩:=h b (.inScope c::k) cs hro hb hr
 obtain ⟨hng,hq⟩:=hQ _ _ _ hq
 cases e with
 |normal=>exact ⟨.normal,a₁,w₁,hq,.head h0 stepR_scope (StepsIn.trans harr (.one (fenced_calm hb hr rfl) stepR_inScope))⟩
 |exit id =>
  have hx:exitTo id (.inScope c::k)=exitTo id k:=by simp [exitTo]
  exact ⟨.exit id,a₁,w₁,hq,fun k' hk=>.head h0 stepR_scope (harr.1 k' (by rw [hx];exact hk)),
   fun hr' hk=>let ⟨k₁,h1,h2⟩:=harr.2 hr' (by rw [hx];exact hk);⟨k₁,h1,.head h0 stepR_scope h2⟩⟩
 |goto l=>exact absurd rfl (hng l)
 |ret=>exact ⟨_,a₁,w₁,hq,.of_steps (.one h0 stepR_scope) harr⟩
 |panic ch=>exact ⟨_,a₁,w₁,hq,.of_steps (.one h0 stepR_scope) harr⟩
 |outgrown=>exact ⟨_,a₁,w₁,hq,.of_steps (.one h0 stepR_scope) harr⟩
inductive scopeQ (Q:Post):Post
 |n {ds:List Deferred} {e:Env} {fs:Fs} (h:Q .normal ds e fs):scopeQ Q .normal ds e fs
 |r {ds:List Deferred} {e:Env} {fs:Fs} (h:Q .ret ds e fs):scopeQ Q .ret ds e fs
 |e {id:Nat} {ds:List Deferred} {e:Env} {fs:Fs} (h:Q (.exit id) ds e fs):scopeQ Q (.exit id) ds e fs
theorem CW.scope {c:Code} (h:CW C c (scopeQ Q) e fs):CW C (.scope c) Q e fs:=fun a w hs =>
 wpIn_scope (fun x a w ⟨ds,e,fs,q,s⟩=>by
  cases q with
  |n h=>exact ⟨(fun _ h=>nomatch h),⟨ds,e,fs,h,s⟩⟩
  |r h=>exact ⟨(fun _ h=>nomatch h),⟨ds,e,fs,h,s⟩⟩
  |e h=>exact ⟨(fun _ h=>nomatch h),⟨ds,e,fs,h,s⟩⟩) (h a w hs)
abbrev sv (l:List UInt8):Value:=.string ⟨l.toArray⟩
section str
variable {P : Program} {e : Env} {T ty : TypeId} {x y lo hi : Operand} {l r : List UInt8} {tys : Array TypeId}
theorem ValP.addStr (hx:e.ev x=some (sv l)) (hy:e.ev y=some (sv r)) (hl:l.length+r.length≤9223372036854775807):ValP P e [] (.binOp .add T x y ty) (sv (l++r)) :=
 .bin hx hy (fun w=>guard_str w) fun w=>by
  rw [binOp_string_add,run_string_add_sum w _ _ (by simp only [ByteArray.size,List.size_toArray];omega),ByteArray.mk_append_mk]
theorem ValP.cutStr {ik':IntKind} (hU:UnI P T .string) (hx:e.ev x=some (sv l)) (hl:e.ev lo=some (.int ik (i:Int))) (hh:e.ev hi=some (.int ik' (j:Int))) (h1:i≤j) (h2:j≤l.length) :
  ValP P e [] (.slice T x (some lo) (some hi) none) (sv ((l.drop i).take (j - i))):=fun ρ w hρ _ d t pos af g=>by
 have h:=run_slice_string (P:=P) w T ⟨l.toArray⟩ ik ik' (i:Int) (j:Int) hU.un (by omega) (by omega) (by simp only [ByteArray.size,List.size_toArray];omega)
 rw [Int.toNat_natCast,Int.toNat_natCast,ByteArray.extract_mk] at h
 simp [execOp,hρ x _ hx,hρ lo _ hl,hρ hi _ hh,run_sliceAt_string (w:=w) T _ _ _ _ hU.un,h]
end str
section lw
variable {C : Cu} {ops : Array Oper} {Q : Post} {rest : List Oper} {e : Env} {fs fs' : Fs} {d : Nat} {t : TypeId} {pos : String} {af : Array Edge}
end lw
end
section
open Go Go.RowKit Go.MapKept
def putNow (dd:TypeDesc) (key val:Value) (es:Array MapEntry) (clock:Nat):Option (Array MapEntry × Nat) :=
 match Instr.findNow dd key es.toList 0 with
 |some none=>some (es.push ⟨key,val,clock⟩,clock+1)
 |some (some (i,_))=>if Instr.sameBits 10000 (((es[i]?).map (·.key)).getD key) key=true then some (es.modify i fun e=>{ e with key:=key,val:=val },clock) else none
 |none=>none
theorem mapUpdate_run {K:TypeId} {dd:TypeDesc} {clock clock':Nat} {es es':Array MapEntry} {key val:Value} (hU:P.underlying T=some (.map K E)) (hK:P.underlying K=some dd) (hkey:IsKey dd key) (hput:putNow dd key val es clock=some (es',clock')) {w:World} (hb:w.heap[b]?=some (.map es clock)) :
  (Instr.mapUpdate T (.map (some b)) key val).run P w=.ok () (w.putObj b (.map es' clock')):=by
 unfold putNow at hput
 unfold Instr.mapUpdate
 simp only [Sem.run_bind,run_underlying hU,MapKept.run_getObj_map hb,MapKept.run_checkKey hK hkey,Result.andThen_ok]
 split at hput
 ·rename_i hf
  simp only [Option.some.injEq,Prod.mk.injEq] at hput
  obtain ⟨rfl,rfl⟩:=hput
  simp only [MapKept.run_findKey hK hf,Result.andThen_ok,MapKept.run_setObj_map _ hb]
  rfl
 ·rename_i i v hf
  split at hput
  ·rename_i hs
   simp only [Option.some.injEq,Prod.mk.injEq] at hput
   obtain ⟨rfl,rfl⟩:=hput
   simp only [MapKept.run_findKey hK hf,Result.andThen_ok,Instr.keyThatStays,hs,if_true,Sem.run_bind,Sem.run_pure,MapKept.run_setObj_map _ hb]
   rfl
  ·cases hput
 ·cases hput
def lookV (z:Value) (ok:Bool) (r:Option (Nat × Value)):Value:=match r with
 |some (_,v)=>if ok then .tuple #[v,.bool true] else v
 |none=>if ok then .tuple #[z,.bool false] else z
theorem lookup_run {K n:TypeId} {dd:TypeDesc} {clock:Nat} {es:Array MapEntry} {key:Value} {r:Option (Nat × Value)} (hU:P.underlying T=some (.map K E)) (hK:P.underlying K=some dd) (hI:InfoI P E n z) (hkey:IsKey dd key) (hf:Instr.findNow dd key es.toList 0=some r) (ok:Bool) {w:World} (hb:w.heap[b]?=some (.map es clock)) :
  (Instr.lookup T (.map (some b)) key ok).run P w=.ok (lookV z ok r) w:=by
 unfold lookV
 unfold Instr.lookup
 simp only [Sem.run_bind,run_underlying hU,MapKept.run_getObj_map hb,Sem.run_pure,MapKept.run_checkKey hK hkey,Result.andThen_ok,MapKept.run_findKey hK hf]
 cases r with
 |none=>simp only [Sem.run_bind,run_zero,Result.andThen_ok,Sem.run_pure]
 |some x=>simp only [Sem.run_bind,Result.andThen_ok,Sem.run_pure]
section lw
variable {C : Cu} {ops : Array Oper} {Q : Post} {rest : List Oper} {e : Env} {fs fs' : Fs} {d : Nat} {t : TypeId} {pos : String} {af : Array Edge}
theorem LW.makeMap (hd:Nat.blt d C.N=true) (k:∀ b,LW C ops Q rest ((d,.map (some b))::e) ((b,.map #[] 0)::fs)):LW C ops Q (⟨some d,.makeMap T none,t,pos,af,none⟩::rest) e fs :=
 LW.new (s:=.mp) hd (fun c h=>by cases h) (fun a w hs=>by
  have h:(Instr.makeMap T none).run C.P w=.ok (.map (some w.heap.size)) (w.alloc (.map #[] 0)):=rfl
  simp [execOp,h,Sh.val]) k
theorem LW.mapIns {K:TypeId} {dd:TypeDesc} {xm xk xv:Operand} {clock clock':Nat} {es es':Array MapEntry} {key val:Value} (hU:UnI C.P T (.map K E)) (hK:UnI C.P K dd) (hm:e.ev xm=some (.map (some b))) (hk:e.ev xk=some key) (hv:e.ev xv=some val) (hset:SetAt fs b (.map es clock) (.map es' clock') fs')
  (hkey:IsKey dd key) (hput:putNow dd key val es clock=some (es',clock')) (k:LW C ops Q rest e fs'):LW C ops Q (⟨none,.insert T xm xk xv,t,pos,af,none⟩::rest) e fs :=
 LW.s0 rfl hset (fun ρ w hρ hb d t pos af g=>by simp [execOp,hρ _ _ hm,hρ _ _ hk,hρ _ _ hv,mapUpdate_run hU.un hK.un hkey hput hb]) k
theorem LW.mapGet {K n:TypeId} {v:Value} {dd:TypeDesc} {xm xk:Operand} {clock:Nat} {es:Array MapEntry} {key:Value} {r:Option (Nat × Value)} {ok:Bool} (hd:Nat.blt d C.N=true) (hU:UnI C.P T (.map K E)) (hK:UnI C.P K dd) (hI:InfoI C.P E n z) (hm:e.ev xm=some (.map (some b))) (hk:e.ev xk=some key) (hp:Known C fs (b,.map es clock))
  (hkey:IsKey dd key) (hf:Instr.findNow dd key es.toList 0=some r) (hv:lookV z ok r=v) (k:LW C ops Q rest ((d,v)::e) fs):LW C ops Q (⟨some d,.lookup T xm xk ok,t,pos,af,none⟩::rest) e fs :=
 LW.val hd (fun c h=>by cases h) (fun a w hs=>by
  have h:=lookup_run (P:=C.P) hU.un hK.un hI hkey hf ok (hp.get hs.st)
  simp only [hv] at h
  simp [execOp,hs.env.ev hm,hs.env.ev hk,h]) k
end lw
end
section
theorem mapM_sizes {P:Program} {w:World}:∀ (fs:List Field) (pl:List (Nat × Nat)),(fs.mapM fun f=>(P.info? f.type).map fun i=>(f.offset,i.size))=some pl →
  (fs.mapM fun f=>(do pure (f.offset,← sizeOf f.type):Sem (Nat × Nat))).run P w=.ok pl w
 |[],pl,h=>by simp at h;subst h;rfl
 |f::fs,pl,h=>by
  rw [List.mapM_cons] at h ⊢
  cases hi:P.info? f.type with
  |none=>rw [hi] at h;cases h
  |some i =>
   rw [hi] at h
   cases hr:(fs.mapM fun f=>(P.info? f.type).map fun i=>(f.offset,i.size)) with
   |none=>rw [hr] at h;cases h
   |some r =>
    rw [hr] at h
    have ih:=mapM_sizes (P:=P) (w:=w) fs r hr
    have he:pl=(f.offset,i.size)::r:=by simpa using h.symm
    subst he
    have hs:(sizeOf f.type).run P w=.ok i.size w:=by simp [sizeOf,typeInfo,Sem.run_bind,hi]
    simp only [Sem.run_bind,hs,Result.andThen_ok,Sem.run_pure,ih]
def fillP (pl:List (Nat × Nat)):Array Value→List (Nat × Value)→Array Value
 |z,[]=>z
 |z,(i,v)::r=>match pl[i]? with
  |some (off,_)=>fillP pl (wrCells z off v.cells.toList) r
  |none=>z
def fillPok (pl:List (Nat × Nat)) (len:Nat):List (Nat × Value)→Bool
 |[]=>true
 |(i,v)::r=>match pl[i]? with
  |some (off,n)=>Nat.beq v.cells.size n && Nat.ble (off+n) len && fillPok pl len r
  |none=>false
theorem fillP_eq {pl:List (Nat × Nat)}:∀ (parts:List (Nat × Value)) (z:Array Value),fillPok pl z.size parts=true→Instr.fill (pl[·]?) z parts=some (fillP pl z parts)
 |[],z,_=>rfl
 |(i,v)::r,z,h=>by
  unfold fillPok at h
  unfold Instr.fill fillP
  cases hp:pl[i]? with
  |none=>rw [hp] at h;cases h
  |some q =>
   obtain ⟨off,n⟩:=q
   rw [hp] at h
   simp only [Bool.and_eq_true,Nat.beq_eq] at h
   obtain ⟨⟨h1,h2⟩,h3⟩:=h
   have h2:=Nat.le_of_ble_eq_true h2
   have hf:(v.cells.zipIdx.foldl (fun cs (p:Value × Nat)=>cs.setIfInBounds (off+p.2) p.1) z)=wrCells z off v.cells.toList:=by
    have:=foldl_wr v.cells.toList z off 0
    rw [← Array.foldl_toList]
    simpa using this
   have ih:=fillP_eq (pl:=pl) r (wrCells z off v.cells.toList) (by rw [wrCells_size];exact h3)
   simp only
   rw [if_neg (by simp [h1];omega)]
   exact (congrArg (fun q=>Instr.fill (pl[·]?) q r) hf).trans ih
section st
variable {P : Program} {e : Env} {T : TypeId} {x : Operand}
theorem ValP.buildT {nT:Nat} {z:Array Value} {parts:Array (Nat × Operand)} {pl:List (Nat × Nat)} {vs:List (Nat × Value)} {c:Array Value} (hS:StrI P T pl) (hI:InfoI P T nT (.agg z)) (hp:PartsOk e parts.toList vs)
  (hok:fillPok pl z.size vs=true) (hcc:fillP pl z vs=c):ValP P e [] (.build T parts) (.agg c):=fun ρ w hρ _ d t pos af g=>by
 have hc:Instr.fill (pl[·]?) z vs=some c:=by rw [fillP_eq vs z hok,hcc]
 have h1:(parts.map fun p=>(p.1,ρ p.2)).toList=vs:=by simpa using hp.map hρ
 have h2:(Value.agg z).cells=z:=rfl
 have hs:=hS.str
 unfold strOf at hs
 split at hs
 ·rename_i fs hu
  have hm:=mapM_sizes (P:=P) (w:=w) fs.toList pl hs
  have hm2:(fs.mapM fun f=>(do pure (f.offset,← sizeOf f.type):Sem (Nat × Nat))).run P w=.ok pl.toArray w:=by
   rw [Array.mapM_eq_mapM_toList]
   show ((fs.toList.mapM fun f=>(do pure (f.offset,← sizeOf f.type):Sem (Nat × Nat))) >>= fun l=>pure l.toArray).run P w=_
   simp only [Sem.run_bind,hm,Result.andThen_ok,Sem.run_pure]
  have h4:(Instr.build T (parts.map fun p=>(p.1,ρ p.2))).run P w=.ok (.agg c) w:=by
   unfold Instr.build
   simp only [Sem.run_bind,run_zero,Result.andThen_ok,run_underlying hu,hm2,h1,h2]
   have:Instr.fill (fun i=>pl.toArray[i]?) z vs=some c:=by simpa using hc
   simp only [this,Sem.run_pure]
  exact dTAlMM
 ·cases hs
theorem ValP.cutArrAll (hU:UnI P T (.array n E)) (hI:InfoI P E sz z) (hx:e.ev x=some (.pointer (some ⟨b,off,none⟩))):ValP P e [] (.slice T x none none none) (.slice (some ⟨b,off,none⟩) n n):=fun ρ w hρ _ d t pos af g=>by
 have hu:=hU.un
 have h1:(Instr.sliceAt T (.pointer (some ⟨b,off,none⟩)) none none none).run P w=.ok (.slice (some ⟨b,off,none⟩) n n) w:=by
  have hal:P.arrayLen T=n:=by rw [Program.arrayLen,hu]
  have hel:P.elem T=E:=by rw [Program.elem,hu]
  have h2:=run_sliceAt_array_all (P:=P) w T ⟨b,off,none⟩ (by rw [hal,hel];exact hu)
  rw [hel,run_size,hal] at h2
  rw [h2]
  simp only [Result.andThen_ok,slicedAt,Nat.zero_mul,Nat.sub_zero]
  simp [Addr.add]
 simp [execOp,hρ x _ hx,h1]
end st
end
theorem NewP.buildSN {T E len:Nat} {parts:Array (Nat × Operand)} {vs:List (Nat × Value)} {c:Array Value} (hU:UnI P T (.slice E)) (hI:InfoI P E size z) (hp:PartsOk e parts.toList vs) (hl:Nat.blt 0 (len * size)=true) (hl':Nat.ble (len * size) 1000000=true)
  (hok:fillOk size ((Array.range (len * size)).map (z.cells[· % z.cells.size]!)).size vs=true) (hc:fillC size ((Array.range (len * size)).map (z.cells[· % z.cells.size]!)) vs=c):NewP P e (.buildSlice T len parts) (.sl len len) (.cells c E (0,0)):=fun ρ w hρ d t pos af g=>by
 have h0:0 < len * size:=by simpa [Nat.blt_eq] using hl
 have h1:=Nat.le_of_ble_eq_true hl'
 have hf:=fill_eq (sz:=size) vs _ hok
 rw [hc] at hf
 have hpm:(parts.map fun p=>(p.1,ρ p.2)).toList=vs:=by simpa using hp.map hρ
 have hr:(Instr.buildSlice T len (parts.map fun p=>(p.1,ρ p.2))).run P w=.ok ((Sh.sl len len).val w.heap.size) (w.alloc (.cells c E (0,0))):=by
  unfold Instr.buildSlice
  simp only [Sem.run_bind,run_un,run_size,Result.andThen_ok]
  have hne:¬ (len * size > 2 ^ 24):=by omega
  have hnz:¬ (len * size=0):=by omega
  simp only [hne,hnz,if_false,Sem.run_bind,run_zero,Result.andThen_ok,Sem.run_pure,hpm,hf]
  simp [newRow,Sh.val]
 simp only [execOp]
 exact (show ((do pure (.value (← Instr.buildSlice T len (parts.map fun p=>(p.1,ρ p.2)))):Sem Next)).run P w=_ by simp only [Sem.run_bind,hr];rfl)
def ncs (l:List Nat):List Value:=l.flatMap fun (x:Nat)=>[Value.int .u64 (x:Int)]
theorem ncs_one (l:List Nat):∀ x∈l,([Value.int .u64 (x:Int)]:List Value).length=1:=fun _ _=>rfl
theorem ncs_map (l:List Nat):ncs l=l.map fun (x:Nat)=>Value.int .u64 (x:Int):=by
 induction l with
 |nil=>rfl
 |cons a l ih=>simp [ncs] at *;exact ih
theorem ncs_len (l:List Nat):(ncs l).length=l.length:=by rw [ncs_map,List.length_map]
theorem row_cells {cs:Array Value} (hb:w.heap[b]?=some (.cells cs E fr)) (hx:cs.toList=xs) (hl:xs.length=n * sz) (hn:n≤maxLen):RowAt w sz (.slice (some ⟨b,0,none⟩) n n) n xs :=
 ⟨⟨_,_,rfl,Nat.le_refl _,hn⟩,hl,fun _=>⟨b,0,n,cs,E,fr,rfl,hb,by rw [List.drop_zero,hx,← hl];exact List.take_length⟩,.own hb⟩
section
section lw
variable {C : Cu} {ops : Array Oper} {Q Q' : Post} {rest : List Oper} {e : Env} {fs : Fs} {d : Nat} {op : Op} {t : TypeId} {pos : String} {af : Array Edge} {v : Value} {x y c : Operand} {code z : Code}
theorem lvz (h:ValP C.P e [] op v) (k:LW C ops Q rest ((d,v)::e) fs) (hd:Nat.blt d C.N=true:=by rfl) (hn:noDef op=true:=by rfl):LW C ops Q (⟨some d,op,t,pos,af,none⟩::rest) e fs:=LW.v0 hd hn h k
theorem vMz (k:LW C ops Q rest ((d,v)::e) fs) (hd:Nat.blt d C.N=true:=by rfl) (h:e.ev x=some v:=by rfl):LW C ops Q (⟨some d,.move x,t,pos,af,none⟩::rest) e fs:=LW.v0 hd rfl (.move h) k
theorem vAz (k:LW C ops Q rest ((d,v)::e) fs) (hd:Nat.blt d C.N=true:=by rfl) (h:e.ev x=some v:=by rfl):LW C ops Q (⟨some d,.assign x,t,pos,af,none⟩::rest) e fs:=LW.v0 hd rfl (.assign h) k
theorem vNz {a:Addr} (k:LW C ops Q rest ((d,.pointer (some a))::e) fs) (hd:Nat.blt d C.N=true:=by rfl) (h:e.ev x=some (.pointer (some a)):=by rfl):LW C ops Q (⟨some d,.nilCheck x,t,pos,af,none⟩::rest) e fs:=LW.v0 hd rfl (.nilCheck h) k
theorem vEz {i:Nat} {vs:Array Value} (k:LW C ops Q rest ((d,v)::e) fs) (hd:Nat.blt d C.N=true:=by rfl) (hx:e.ev x=some (.tuple vs):=by rfl) (hi:nth vs.toList i=some v:=by rfl):LW C ops Q (⟨some d,.extract x i,t,pos,af,none⟩::rest) e fs:=LW.v0 hd rfl (.extractN hx hi) k
theorem vFz {fo:Nat} {ft:TypeId} {u:Value} [hF:FldI C.P T i fo ft] [InfoI C.P ft n u] (k:LW C ops Q rest ((d,.pointer (some ⟨b,off+fo,none⟩))::e) fs) (hd:Nat.blt d C.N=true:=by rfl) (hn:(n == 0)=false:=by rfl) (hx:e.ev x=some (.pointer (some ⟨b,off,none⟩)):=by rfl) :
  LW C ops Q (⟨some d,.fieldAddr T x i,t,pos,af,none⟩::rest) e fs:=LW.v0 hd rfl (.fieldAddr hn hx) k
theorem pTz {b:Bool} (k:LW C ops Q rest ((d,v)::e) fs) (hd:Nat.blt d C.N=true:=by rfl) (hc:e.ev c=some (.bool b):=by rfl) (hb:b=true:=by with_reducible rfl) (h:e.ev x=some v:=by rfl):LW C ops Q (⟨some d,.pick c x y,t,pos,af,none⟩::rest) e fs:=LW.v0 hd rfl (.pickT' hc hb h) k
theorem pFz {b:Bool} (k:LW C ops Q rest ((d,v)::e) fs) (hd:Nat.blt d C.N=true:=by rfl) (hc:e.ev c=some (.bool b):=by rfl) (hb:b=false:=by with_reducible rfl) (h:e.ev y=some v:=by rfl):LW C ops Q (⟨some d,.pick c x y,t,pos,af,none⟩::rest) e fs:=LW.v0 hd rfl (.pickF' hc hb h) k
theorem pTaz {b:Bool} (k:LW C ops Q rest ((d,v)::e) fs) (hd:Nat.blt d C.N=true:=by rfl) (hc:e.ev c=some (.bool b):=by rfl) (hb:b=true:=by with_reducible assumption) (h:e.ev x=some v:=by rfl):LW C ops Q (⟨some d,.pick c x y,t,pos,af,none⟩::rest) e fs:=LW.v0 hd rfl (.pickT' hc hb h) k
theorem pFaz {b:Bool} (k:LW C ops Q rest ((d,v)::e) fs) (hd:Nat.blt d C.N=true:=by rfl) (hc:e.ev c=some (.bool b):=by rfl) (hb:b=false:=by with_reducible assumption) (h:e.ev y=some v:=by rfl):LW C ops Q (⟨some d,.pick c x y,t,pos,af,none⟩::rest) e fs:=LW.v0 hd rfl (.pickF' hc hb h) k
theorem ldz (hx:e.ev x=some (.pointer (some ⟨b,off,none⟩))) (hp:FsAt fs b o) (h:Rd C.P T o off v) (k:LW C ops Q rest ((d,v)::e) fs) (hd:Nat.blt d C.N=true:=by rfl) :
  LW C ops Q (⟨some d,.load T x,t,pos,af,none⟩::rest) e fs:=LW.load hd hx (.at hp) h k
section gd
variable {dst : Option Tmp} {j s : Nat} {g b : Bool}
theorem gTz (h:LW C ops Q (⟨dst,op,t,pos,af,none⟩::rest) e fs) (hs:(ops[j]?).bind (·.dst)=some s:=by rfl) (he:e.get s=some (.bool b):=by rfl) (hb:b=g:=by with_reducible rfl):LW C ops Q (⟨dst,op,t,pos,af,some (j,g)⟩::rest) e fs:=LW.guardT' hs he hb h
theorem gTaz (h:LW C ops Q (⟨dst,op,t,pos,af,none⟩::rest) e fs) (hs:(ops[j]?).bind (·.dst)=some s:=by rfl) (he:e.get s=some (.bool b):=by rfl) (hb:b=g:=by with_reducible assumption):LW C ops Q (⟨dst,op,t,pos,af,some (j,g)⟩::rest) e fs:=LW.guardT' hs he hb h
theorem gTsz (h:LW C ops Q (⟨dst,op,t,pos,af,none⟩::rest) e fs) (hs:(ops[j]?).bind (·.dst)=some s:=by rfl) (he:e.get s=some (.bool b):=by rfl) (hb:b=g:=by simp only [Bool.not_true,Bool.not_false]):LW C ops Q (⟨dst,op,t,pos,af,some (j,g)⟩::rest) e fs:=LW.guardT' hs he hb h
theorem gFz (h:LW C ops Q rest ((d,undef)::e) fs) (hs:(ops[j]?).bind (·.dst)=some s:=by rfl) (he:e.get s=some (.bool b):=by rfl) (hb:b=!g:=by simp only [Bool.not_true,Bool.not_false]) (hd:Nat.blt d C.N=true:=by rfl):LW C ops Q (⟨some d,op,t,pos,af,some (j,g)⟩::rest) e fs:=LW.guardF' hs he hb hd h
theorem gFaz (h:LW C ops Q rest ((d,undef)::e) fs) (hs:(ops[j]?).bind (·.dst)=some s:=by rfl) (he:e.get s=some (.bool b):=by rfl) (hb:b=!g:=by simp only [Bool.not_true,Bool.not_false];(with_reducible assumption)) (hd:Nat.blt d C.N=true:=by rfl):LW C ops Q (⟨some d,op,t,pos,af,some (j,g)⟩::rest) e fs:=LW.guardF' hs he hb hd h
end gd
theorem nNz (h:CW C code Q e fs):LW C ops (thenQ (thenC C code Q) Q') [] e fs:=LW.nil (thenN h)
theorem sRz {l:List Oper} (h:LW C l.toArray (thenQ (thenC C code Q) Q) l e fs):CW C (.seq (.region id l.toArray false) code) Q e fs:=CW.seq (CW.region h)
theorem nSz {l:List Oper} (h:LW C l.toArray (thenQ (thenC C code Q) Q) l e fs):LW C ops (thenQ (thenC C (.seq (.region id l.toArray false) code) Q) Q') [] e fs:=nNz (sRz h)
section cd
variable {b : Bool}
theorem cTz (ht:CW C code Q e fs) (hc:e.ev c=some (.bool b):=by rfl) (hb:b=true:=by with_reducible rfl):CW C (.cond c code z) Q e fs:=CW.condT hc hb ht
theorem cFz (hf:CW C z Q e fs) (hc:e.ev c=some (.bool b):=by rfl) (hb:b=false:=by with_reducible rfl):CW C (.cond c code z) Q e fs:=CW.condF hc hb hf
end cd
end lw
section dwz
variable {C : Cu} {ops : Array Oper} {Q : Post} {tl rest : List Oper} {e : Env} {ts : Ts} {μ : Mu} {k d : Nat} {op : Op} {t : TypeId} {pos : String} {af : Array Edge} {v : Value} {x : Operand} {j s : Nat} {g b : Bool}
theorem dvz (h:ValP C.P e [] op v) (kk:DW C ops μ Q tl rest (k+1) ((d,v)::e) ts) (hk:ops[k]?=some ⟨some d,op,t,pos,af,none⟩:=by rfl) (hm:μ k=none:=by rfl) (hd:Nat.blt d C.N=true:=by rfl) (ht:noTouch op=true:=by rfl) :
  DW C ops μ Q tl (⟨some d,op,t,pos,af,none⟩::rest) k e ts:=DW.v0 hk hm hd .none ht h kk
theorem dwz (h:ValP C.P e [] op v) (kk:DW C ops μ Q tl rest (k+1) ((d,v)::e) ts) (hk:ops[k]?=some ⟨some d,op,t,pos,af,some (j,g)⟩:=by rfl) (hm:μ k=none:=by rfl) (hd:Nat.blt d C.N=true:=by rfl) (hs:(ops[j]?).bind (·.dst)=some s:=by rfl) (he:e.get s=some (.bool b):=by rfl) (hb:b=g:=by with_reducible rfl) (ht:noTouch op=true:=by rfl) :
  DW C ops μ Q tl (⟨some d,op,t,pos,af,some (j,g)⟩::rest) k e ts:=DW.v0 hk hm hd (wantYes hs he hb) ht h kk
end dwz
end
section
section mm
variable {P : Program} {e : Env} {ik : IntKind} {m n k : Nat} {x y z : Operand} {tys : Array TypeId}
end mm
end

section
def nca (L:List Nat):Array Value:=(ncs L).toArray
theorem nca_size (L:List Nat):(nca L).size=L.length:=by simp [nca,ncs_len]
theorem nca_get (L:List Nat) (i:Nat) (hi:i < L.length):(nca L)[i]?=some (.int .u64 ((L.getD i 0:Nat):Int)):=by
 simp [nca,ncs_map,hi,List.getD_eq_getElem?_getD]
theorem nth_nca (L:List Nat) (i:Nat) (hi:i < L.length):nth (nca L).toList i=some (.int .u64 ((L.getD i 0:Nat):Int)):=by
 rw [nth_eq];simpa using nca_get L i hi
section rd
variable {P : Program} {T E : TypeId} {fr : Nat × Nat} {L : List Nat} {i x : Nat}
theorem rd_nca [AgI P T false] (hi:i < L.length):Rd P T (.cells (nca L) E fr) (0+i * 1) (.int .u64 ((L.getD i 0:Nat):Int)) :=
 Rd.one (by rw [Nat.zero_add,Nat.mul_one];exact nca_get L i hi)
theorem rd_nca0 [AgI P T false] (hi:0 < L.length):Rd P T (.cells (nca L) E fr) (0+0 * 1) (.int .u64 ((L.getD 0 0:Nat):Int)):=rd_nca hi
theorem rd_ncaW [AgI P T true] [InfoI P T n z] (h:L.length=n):Rd P T (.cells (nca L) E fr) 0 (.agg (nca L)):=Rd.whole (by rw [nca_size,h])
theorem nca_set (L:List Nat) (i x:Nat):wrCells (nca L) i [Value.int .u64 (x:Int)]=nca (L.set i x):=by
 simp [wrCells,nca,ncs_map,List.map_set]
theorem wr_nca [InfoI P T 1 z] (hi:i < L.length):Wr P T (.cells (nca L) E (0,0)) (0+i * 1) (.int .u64 (x:Int)) (.cells (nca (L.set i x)) E (0,0)) :=
 Wr.cells (n:=1) (z:=z) rfl rfl (by rw [nca_size];omega) (by rw [Nat.zero_add,Nat.mul_one];exact nca_set L i x)
theorem wr_nca0 [InfoI P T 1 z] (hi:0 < L.length):Wr P T (.cells (nca L) E (0,0)) (0+0 * 1) (.int .u64 (x:Int)) (.cells (nca (L.set 0 x)) E (0,0)):=wr_nca hi
theorem wr_ncaW {K:List Nat} [InfoI P T n z] (h:K.length=n) (h2:L.length=n):Wr P T (.cells (nca K) E (0,0)) 0 (.agg (nca L)) (.cells (nca L) E (0,0)) :=
 Wr.whole (by rw [nca_size,h]) (by rw [nca_size,h2]) (by simp [nca,ncs_map,Value.oneCell'])
theorem wr_ncaO {cs:Array Value} [InfoI P T n z] (h:cs.size=n) (h2:L.length=n):Wr P T (.cells cs E (0,0)) 0 (.agg (nca L)) (.cells (nca L) E (0,0)) :=
 Wr.whole h (by rw [nca_size,h2]) (by simp [nca,ncs_map,Value.oneCell'])
end rd
end
end Go.Proofs.YtdeggbkbblfpoaaGreatDoor.SL
