/-
  Texts that were built apart, put behind one another (2 of 5): Smd Sme Smf Smg Smh Smi Smu Smv Smw Smj Smk Sml Smm Smn Smo Smp Smq Smr Sms Inst N1 N2 W1 W2 W3 W4 W5 W6 W7 W8 W9 W10 W11 W12 W13 G1 G2 G3 G4 G5 G6 G8 G9 G14 W14 W15 W16 W17 W18 W19.
  Conditions: none.
-/
import Derived.Test.YtdeggbkbblfpoaaGreatDoorZ1
import Derived.Laws.CopyRow
import Derived.Laws.IdiomCopy
import Derived.Laws.IdiomStrings
import Derived.RecoverIn
import Derived.WideLaws
import Derived.Laws.Build
import Derived.Laws.StructEq
import Derived.Sort.QuietThIn
import Derived.Lib.AppendStr
import Derived.Lib.MakeNoZero
import Derived.Test.YtdeggbkbblfpoaaGreatDoorRows
import Derived.Shelf.Spec.BitsCarry
import Derived.Lib.Mul64
namespace Go.Proofs.YtdeggbkbblfpoaaGreatDoor.SL
set_option linter.unusedVariables false
set_option linter.unusedSimpArgs false
open Go Go.RowKit
def uca (l:List UInt8):Array Value:=(ucs l).toArray
theorem uca_size (l:List UInt8):(uca l).size=l.length:=by simp [uca,ucs_len]
theorem uca_get (l:List UInt8) (i:Nat) (hi:i < l.length):(uca l)[i]?=some (.int .u8 ((l.getD i 0).toNat:Int)):=by
 simp [uca,ucs_map,hi,List.getD_eq_getElem?_getD]
theorem uca_set (l:List UInt8) (i x:Nat) (hx:x < 256):wrCells (uca l) i [Value.int .u8 (x:Int)]=uca (l.set i (UInt8.ofNat x)):=by
 have h:(UInt8.ofNat x).toNat=x:=by rw [UInt8.toNat_ofNat'];omega
 simp [wrCells,uca,ucs_map,List.map_set,h,Nat.mod_eq_of_lt hx]
section rd
variable {P : Program} {T E : TypeId} {fr : Nat × Nat} {l : List UInt8} {i x off : Nat}
theorem rd_uca [AgI P T false] (hi:i < l.length):Rd P T (.cells (uca l) E fr) (0+i * 1) (.int .u8 ((l.getD i 0).toNat:Int)) :=
 Rd.one (by rw [Nat.zero_add,Nat.mul_one];exact uca_get l i hi)
theorem rd_ucaO [AgI P T false] (hi:off+i < l.length):Rd P T (.cells (uca l) E fr) (off+i * 1) (.int .u8 ((l.getD (off+i) 0).toNat:Int)) :=
 Rd.one (by rw [Nat.mul_one];exact uca_get l (off+i) hi)
theorem rd_ucaW {n:Nat} {z:Value} [AgI P T true] [InfoI P T n z] (h:l.length=n):Rd P T (.cells (uca l) E fr) 0 (.agg (uca l)):=Rd.whole (by rw [uca_size,h])
theorem wr_uca {z:Value} [InfoI P T 1 z] (hi:i < l.length) (hx:x < 256):Wr P T (.cells (uca l) E (0,0)) (0+i * 1) (.int .u8 (x:Int)) (.cells (uca (l.set i (UInt8.ofNat x))) E (0,0)) :=
 Wr.cells (n:=1) (z:=z) rfl rfl (by rw [uca_size];omega) (by rw [Nat.zero_add,Nat.mul_one];exact uca_set l i x hx)
theorem wr_ucaW {n:Nat} {z:Value} {k:List UInt8} [InfoI P T n z] (h:k.length=n) (h2:l.length=n):Wr P T (.cells (uca k) E (0,0)) 0 (.agg (uca l)) (.cells (uca l) E (0,0)) :=
 Wr.whole (by rw [uca_size,h]) (by rw [uca_size,h2]) (by simp [uca,ucs_map,Value.oneCell'])
theorem wr_ucaO {n:Nat} {z:Value} {cs:Array Value} [InfoI P T n z] (h:cs.size=n) (h2:l.length=n):Wr P T (.cells cs E (0,0)) 0 (.agg (uca l)) (.cells (uca l) E (0,0)) :=
 Wr.whole h (by rw [uca_size,h2]) (by simp [uca,ucs_map,Value.oneCell'])
end rd
theorem own_row {w:World} {g off n c:Nat} {l:List UInt8} {E:TypeId} {fr:Nat × Nat} (h:w.heap[g]?=some (.cells (uca l) E fr)) (hn:off+n≤l.length) (hc:n≤c) (hm:c≤maxLen) :
  RowAt w 1 (.slice (some ⟨g,off,none⟩) n c) n (ucs ((l.drop off).take n)) :=
 ⟨⟨_,_,rfl,hc,hm⟩,by rw [ucs_len,List.length_take,List.length_drop];omega,fun _=>⟨g,off,c,_,E,fr,rfl,h,by simp [uca,ucs_map,List.map_drop,List.map_take]⟩,fun p k d hv=>by
  cases hv;exact .inr (.inr ⟨g,off,_,rfl,h⟩)⟩
section num
variable {P : Program} {e : Env} {T ty : TypeId} {x y : Operand} {m n : Nat}
theorem ofInt8 (m:Nat) (hm:m < 256):(BitVec.ofInt 8 (m:Int)).toNat=m:=by
 simp only [BitVec.ofInt_natCast,BitVec.toNat_ofNat];omega
theorem ValP.orB (hx:e.ev x=some (.int .u8 (m:Int))) (hy:e.ev y=some (.int .u8 (n:Int))) (hm:m < 256) (hn:n < 256):ValP P e [] (.binOp .or T x y ty) (.int .u8 ((m |||n:Nat):Int)) :=
 .bin hx hy (fun w=>guard_int w) fun w=>by
  have h:m |||n < 256:=Nat.or_lt_two_pow (n:=8) hm hn
  have hb:bits .or .u8 (m:Int) (n:Int)=((m |||n:Nat):Int):=by
   show IntKind.u8.wrap (((BitVec.ofInt 8 (m:Int) |||BitVec.ofInt 8 (n:Int)).toNat:Nat):Int)=_
   rw [BitVec.toNat_or,ofInt8 m hm,ofInt8 n hn,wrapB]
   omega
  rw [binOp_or,intBits_or,hb];rfl
theorem ValP.subB (hx:e.ev x=some (.int .u8 (m:Int))) (hy:e.ev y=some (.int .u8 (n:Int))) (hm:m < 256) (h:n≤m):ValP P e [] (.binOp .sub T x y ty) (.int .u8 ((m - n:Nat):Int)) :=
 .bin hx hy (fun w=>guard_int w) fun w=>by
  have h1:((m:Int) - n) % 256=((m - n:Nat):Int):=by omega
  simp [binOp_sub,Op.intArith,wrapB,h1]
theorem ValP.orBL (hx:e.ev x=some (.int .u8 (m:Int))) (hy:e.ev y=some (.int .u8 (OfNat.ofNat n))) (_:n=n) (h0:m < 256) (h1:(OfNat.ofNat n:Nat) < 256):ValP P e [] (.binOp .or T x y ty) (.int .u8 ((m |||(OfNat.ofNat n:Nat):Nat):Int)):=.orB hx hy h0 h1
theorem ValP.subBL (hx:e.ev x=some (.int .u8 (m:Int))) (hy:e.ev y=some (.int .u8 (OfNat.ofNat n))) (_:n=n) (h0:m < 256) (h1:(OfNat.ofNat n:Nat)≤m):ValP P e [] (.binOp .sub T x y ty) (.int .u8 ((m - (OfNat.ofNat n:Nat):Nat):Int)):=.subB hx hy h0 h1
theorem ValP.cut3 {ik il im:IntKind} {E i j k c sz:Nat} {z:Value} {p:Option Addr} {lo hi mx:Operand} (hU:UnI P T (.slice E)) (hI:InfoI P E sz z) (hx:e.ev x=some (.slice p n c)) (hl:e.ev lo=some (.int il (i:Int))) (hh:e.ev hi=some (.int ik (j:Int))) (hm:e.ev mx=some (.int im (k:Int))) (h1:i≤j) (h2:j≤k) (h3:k≤c) (h4:i < k) :
  ValP P e [] (.slice T x (some lo) (some hi) (some mx)) (.slice (p.map (·.add (i * sz))) (j - i) (k - i)):=fun ρ w hρ _ d t pos af g=>by
 have hu:P.underlying T=some (.slice E):=hU.un
 have h1:=run_slice_lhm (P:=P) w T p n c (elem_un hu) il ik im (i:Int) (j:Int) (k:Int) (by omega) (by omega) (by omega) (by omega)
 rw [elem_eq hu,run_size] at h1
 have h2:(Instr.sliceAt T (.slice p n c) (some (.int il (i:Int))) (some (.int ik (j:Int))) (some (.int im (k:Int)))).run P w=.ok (.slice (p.map (·.add (i * sz))) (j - i) (k - i)) w:=by
  rw [run_sliceAt_slice (w:=w) T _ _ _ _ (elem_un hu),h1]
  simp only [Result.andThen_ok,sliced,Int.toNat_natCast]
  rw [if_neg (by omega)]
 simp [execOp,hρ x _ hx,hρ lo _ hl,hρ hi _ hh,hρ mx _ hm,h2]
end num
theorem put_same {w:World} {g:Nat} {o:Obj} (h:w.heap[g]?=some o):w.putObj g o=w:=by
 obtain ⟨hlt,rfl⟩:=Array.getElem?_eq_some_iff.1 h
 simp [World.putObj,Array.setIfInBounds,hlt]
theorem setRow_put {w:World} {g:Nat} {cs cur:Array Value} {E:TypeId} (h:w.heap[g]?=some (.cells cur E (0,0))):w.setRow g cs=w.putObj g (.cells cs E (0,0)):=by
 unfold World.setRow World.putObj
 have hlt:=(Array.getElem?_eq_some_iff.1 h).1
 congr 1
 apply Array.ext_getElem?
 intro i
 by_cases hi:g=i
 ·subst hi;rw [Array.getElem?_modify,if_pos rfl,h];simp [hlt]
 ·simp [Array.getElem?_modify,hi]
section dw
variable {C : Cu} {ops : Array Oper} {Q : Post} {tl rest : List Oper} {e : Env} {ts : Ts} {μ : Mu} {k d : Nat} {op : Op} {t : TypeId} {pos : String} {af : Array Edge} {g : Option (Nat × Bool)}
end dw
section lw
variable {C : Cu} {ops : Array Oper} {Q : Post} {rest : List Oper} {e : Env} {fs : Fs} {d : Nat} {t : TypeId} {pos : String} {af : Array Edge}
theorem LW.makeOwn {T E bytes:Nat} {z:Value} {x:Operand} {ik:IntKind} {n:Nat} (hd:Nat.blt d C.N=true) (hU:UnI C.P T (.slice E)) (hI:InfoI C.P E 1 z) (hB:BytI C.P E bytes) (hz:z.cells=#[z]) (hx:e.ev x=some (.int ik (n:Int))) (hb:n * bytes≤281474976710656) (h63:n≤maxLen)
  (k:∀ g,LW C ops Q rest ((d,.slice (some ⟨g,0,none⟩) n n)::e) ((g,.cells (List.replicate n z).toArray E (0,0))::fs)):LW C ops Q (⟨some d,.makeSlice T x x,t,pos,af,none⟩::rest) e fs :=
 LW.n0 hd rfl (.makeSlice hU hI hB hx hb (by simpa [maxLen] using h63)) fun g=>by
  have h:madeCells z.cells (n * 1)=(List.replicate n z).toArray:=by rw [← made_one hz]
  rw [h];exact k g
theorem LW.copyAt {x y:Operand} {tys:Array TypeId} {T E bytes:TypeId} {z vx:Value} {g off dLen dCap m:Nat} {cur:Array Value} {E':TypeId} {news:List Value} {fs':Fs} (hd:Nat.blt d C.N=true) (hT:tys=#[T,T]) (hU:UnI C.P T (.slice E)) (hI:InfoI C.P E 1 z) (hB:BytI C.P E bytes)
  (hx:e.ev x=some (.slice (some ⟨g,off,none⟩) dLen dCap)) (hy:e.ev y=some vx) (hat:∀ w,St C.w0 C.S fs w→RowAt w 1 vx m news) (h1:∀ u∈news,u.oneCell'=true) (hm:m≤dLen) (hfit:off+m≤cur.size)
  (hset:SetAt fs g (.cells cur E' (0,0)) (.cells (cur.toList.take off++news++cur.toList.drop (off+m)).toArray E' (0,0)) fs')
  (k:LW C ops Q rest ((d,.int .i64 (m:Int))::e) fs') :
  LW C ops Q (⟨some d,.call { callee:=.builtin .copy,args:=#[x,y],argTypes:=tys },t,pos,af,none⟩::rest) e fs:=by
 subst hT
 refine LW.valset hd (fun c h=>by cases h) hset (fun a w hs hg=>?_) k
 have hA:=hat w hs.st
 have hl:news.length=m:=by have:=hA.len;omega
 have hsz:(C.P.info? E).map (·.size)=some 1:=by
  obtain ⟨i,i1,i2,i3,i4⟩:=info_all (P:=C.P) (T:=E);rw [i1];simp [i2]
 rcases Nat.eq_zero_or_pos m with h0|h0
 ·subst h0
  obtain ⟨p,c,rfl,_,_⟩:=hA.form
  have hn:news=[]:=List.length_eq_zero_iff.1 (by omega)
  have hrun:=run_copy_none (P:=C.P) w T T t E (some ⟨g,off,none⟩) p dLen dCap 0 c hU.un hsz (Nat.zero_min _)
  have e1:(Obj.cells (cur.toList.take off++news++cur.toList.drop (off+0)).toArray E' (0,0))=.cells cur E' (0,0):=by rw [hn];simp
  rw [e1]
  have hput:w.putObj g (.cells cur E' (0,0))=w:=put_same hg
  rw [hput]
  simp [execOp,resolve,invoke,builtin,hs.env.ev hx,hs.env.ev hy,hrun,goInt]
 ·obtain ⟨b,o2,c,cs,E2,fr,rfl,hblk,hnx⟩:=hA.pos h0
  have hrun:=run_copy_row (P:=C.P) w T T t E g off dLen dCap ⟨b,o2,none⟩ m c cur E' news hU.un hsz hg (by rw [hl];exact (Nat.min_eq_left hm).symm) (fun j u hj=>by
   rw [addr_add,cell_of hblk];exact cut_get hnx hj) (by rw [hl];exact hfit) h1
  rw [hl] at hrun
  have hput:w.setRow g (cur.toList.take off++news++cur.toList.drop (off+m)).toArray=w.putObj g (.cells (cur.toList.take off++news++cur.toList.drop (off+m)).toArray E' (0,0)):=setRow_put hg
  rw [hput] at hrun
  simp [execOp,resolve,invoke,builtin,hs.env.ev hx,hs.env.ev hy,hrun,goInt]
end lw
end Go.Proofs.YtdeggbkbblfpoaaGreatDoor.SL
namespace Go.Proofs.YtdeggbkbblfpoaaGreatDoor.SL
set_option linter.unusedVariables false
set_option linter.unusedSimpArgs false
open Go Go.RowKit
section lw
variable {C : Cu} {ops : Array Oper} {Q : Post} {rest : List Oper} {e : Env} {fs : Fs} {d : Nat} {t : TypeId} {pos : String} {af : Array Edge}
end lw
end Go.Proofs.YtdeggbkbblfpoaaGreatDoor.SL
namespace Go.Proofs.YtdeggbkbblfpoaaGreatDoor.SL
set_option linter.unusedVariables false
set_option linter.unusedSimpArgs false
open Go Go.RowKit
variable {P : Program} {e : Env}
section eqs
variable {T ty n : Nat} {k : IntKind} {x y : Operand}
variable {a b : List UInt8} {l m : List Nat}
end eqs
section sli
variable {T ty : TypeId} {x y : Operand} {n c : Nat}
theorem guard_sli {op:BinOp} {p:Option Addr} {v:Value} (w:World):(eqGuard op T x y (.slice p n c) v).run P w=.ok () w:=by
 unfold eqGuard;cases op<;>cases v<;>simp
theorem eqIn_ln {E:TypeId} [UnI P T (.slice E)] (d:Nat) (w:World):(Op.equalIn (d+1) T (.slice none n c) (.slice none 0 0)).run P w=.ok true w:=by
 rw [Op.equalIn.eq_def];simp only [Sem.run_bind,run_un (P:=P) (T:=T),Result.andThen_ok];rfl
theorem eqIn_ls {E:TypeId} {a:Addr} [UnI P T (.slice E)] (d:Nat) (w:World):(Op.equalIn (d+1) T (.slice (some a) n c) (.slice none 0 0)).run P w=.ok false w:=by
 rw [Op.equalIn.eq_def];simp only [Sem.run_bind,run_un (P:=P) (T:=T),Result.andThen_ok];rfl
theorem ValP.sliNilT {E:TypeId} [UnI P T (.slice E)] (hx:e.ev x=some (.slice none n c)) (hy:e.ev y=some (.slice none 0 0)):ValP P e [] (.binOp .eql T x y ty) (.bool true) :=
 .bin hx hy (fun w=>guard_sli w) fun w=>by
  have:=eqIn_ln (P:=P) (T:=T) (n:=n) (c:=c) (Op.maxDepth - 1) w
  simp only [binOp,Op.equal,Sem.run_bind]
  rw [show Op.maxDepth=Op.maxDepth - 1+1 from rfl,this];rfl
theorem ValP.sliNilF {E:TypeId} {a:Addr} [UnI P T (.slice E)] (hx:e.ev x=some (.slice (some a) n c)) (hy:e.ev y=some (.slice none 0 0)):ValP P e [] (.binOp .eql T x y ty) (.bool false) :=
 .bin hx hy (fun w=>guard_sli w) fun w=>by
  have:=eqIn_ls (P:=P) (T:=T) (a:=a) (n:=n) (c:=c) (Op.maxDepth - 1) w
  simp only [binOp,Op.equal,Sem.run_bind]
  rw [show Op.maxDepth=Op.maxDepth - 1+1 from rfl,this];rfl
end sli
end Go.Proofs.YtdeggbkbblfpoaaGreatDoor.SL
namespace Go.Proofs.YtdeggbkbblfpoaaGreatDoor.SL
set_option linter.unusedVariables false
set_option linter.unusedSimpArgs false
open Go Go.RowKit
variable {P : Program} {e : Env}
section cut
variable {T E x y lo : Nat}
end cut
end Go.Proofs.YtdeggbkbblfpoaaGreatDoor.SL
namespace Go.Proofs.YtdeggbkbblfpoaaGreatDoor.SL
set_option linter.unusedVariables false
set_option linter.unusedSimpArgs false
open Go Go.RowKit
section num
variable {P : Program} {e : Env} {T ty : TypeId} {x y : Operand} {m n : Nat}
end num
end Go.Proofs.YtdeggbkbblfpoaaGreatDoor.SL
namespace Go.Proofs.YtdeggbkbblfpoaaGreatDoor.SL
set_option linter.unusedVariables false
set_option linter.unusedSimpArgs false
open Go Go.RowKit
def tsTag (ws rs:List Nat) (gs:Fs):Ts:=gs.map fun p=>(p.1,p.2,ws,rs)
theorem fsOf_tag {ws rs:List Nat} {gs:Fs}:fsOf (tsTag ws rs gs)=gs:=by
 simp only [fsOf,tsTag,List.map_map]
 conv=>rhs;rw [← List.map_id gs]
 rfl
inductive TOut (ops:Array Oper) (k:Nat):Ts→Fs→List Nat→List Nat→Ts→Prop
 |nil {ts:Ts}:TOut ops k ts [] [] [] ts
 |one {b:Nat} {o:Obj} {ws rs:List Nat} {r:Ts} (h:ancB ops k ws=true) (h':ancB ops k rs=true):TOut ops k ((b,o,ws,rs)::r) [(b,o)] ws rs r
 |old {seg:Fs} {r:Ts}:TOut ops k (tsOf seg++r) seg [] [] r
 |new {j:Nat} {seg:Fs} {r:Ts} (h:ancB ops k [j]=true):TOut ops k (tsNew j seg++r) seg [j] [] r
 |tag {seg:Fs} {ws rs:List Nat} {r:Ts} (h:ancB ops k ws=true) (h':ancB ops k rs=true):TOut ops k (tsTag ws rs seg++r) seg ws rs r
 |cons {p:Nat × Obj × List Nat × List Nat} {ts r:Ts} {seg:Fs} {ws rs:List Nat} (h:TOut ops k ts seg ws rs r):TOut ops k (p::ts) seg ws rs (p::r)
 |app {l ts r:Ts} {seg:Fs} {ws rs:List Nat} (h:TOut ops k ts seg ws rs r):TOut ops k (l++ts) seg ws rs (l++r)
theorem TOut.spec {ops:Array Oper} {k:Nat} {ts r:Ts} {seg:Fs} {ws rs:List Nat} (h:TOut ops k ts seg ws rs r):(tsTag ws rs seg++r).Perm ts∧ancB ops k ws=true∧ancB ops k rs=true:=by
 induction h with
 |nil=>exact ⟨by simp [tsTag],ancB_nil,ancB_nil⟩
 |one h h'=>exact ⟨by simp [tsTag],h,h'⟩
 |old=>exact ⟨by simp [tsTag,tsOf],ancB_nil,ancB_nil⟩
 |new h=>exact ⟨by simp [tsTag,tsNew],h,ancB_nil⟩
 |tag h h'=>exact ⟨.refl _,h,h'⟩
 |cons h ih=>exact ⟨List.perm_middle.trans (ih.1.cons _),ih.2⟩
 |@app l ts r seg ws rs h ih =>
  refine ⟨?_,ih.2⟩
  have:(tsTag ws rs seg++(l++r)).Perm (l++(tsTag ws rs seg++r)):=by
   rw [← List.append_assoc,← List.append_assoc]
   exact List.Perm.append_right _ List.perm_append_comm
  exact this.trans (ih.1.append_left _)
theorem ReadAll.fsts {C:Cu} {ops:Array Oper} {k:Nat} {bs:List Nat} {ts ts':Ts} {us:Fs} (h:ReadAll C ops k bs ts us ts'):ts'.map (·.1)=ts.map (·.1):=by
 induction h with
 |nil=>rfl
 |own h _ ih=>rw [ih,h.fsts]
 |ext _ _ _ ih=>exact ih
theorem mem_fst {ts ts':Ts} (h:ts'.map (·.1)=ts.map (·.1)) {p:Nat × Obj × List Nat × List Nat} (hp:p∈ts'):∃ q∈ts,q.1=p.1:=by
 have:p.1∈ts.map (·.1):=by rw [← h];exact List.mem_map.2 ⟨p,hp,rfl⟩
 obtain ⟨q,hq,he⟩:=List.mem_map.1 this
 exact ⟨q,hq,he⟩
theorem upds_in {φ:Facts} {gs:Fs} (hn:gs.Pairwise fun p q=>p.1 ≠ q.1):∀ q∈gs,upds φ gs q.1=some q.2:=by
 induction gs with
 |nil=>intro q hq;cases hq
 |cons x l ih =>
  intro q hq
  obtain ⟨n1,n2⟩:=List.pairwise_cons.1 hn
  simp only [upds]
  rcases List.mem_cons.1 hq with rfl|hq
  ·exact upd_same _ _ _
  ·rw [upd_other _ _ (fun e=>n1 q hq e.symm)];exact ih n2 q hq
section dw
variable {C : Cu} {ops : Array Oper} {Q : Post} {tl rest : List Oper} {e : Env} {ts : Ts} {μ : Mu} {k d : Nat} {t : TypeId} {pos : String} {af : Array Edge} {g : Option (Nat × Bool)}
theorem IsRow.blocks {E:TypeId} {size n:Nat} {v:Value} {xs:List Value} {seg:Fs} (hrow:IsRow E size v n xs seg) (h0:v=.slice none 0 0∨0 < n):blocksN 4 v=keys seg∧blocksN 1 v=keys seg:=by
 cases hrow with
 |nil=>exact ⟨rfl,rfl⟩
 |@own gg _ cap cur _ hn _ _ _ _ =>
  have hc:cap ≠ 0:=by
   rcases h0 with h0|h0
   ·cases h0
   ·omega
  exact ⟨by simp [blocksN,hc,keys],by simp [blocksN,hc,keys]⟩
theorem DW.moveG {o:Oper} {bl:List Nat} {M:Value→Fs→Prop} {seg us2:Fs} {ws rs:List Nat} {ts1 ts2:Ts} (hk:ops[k]?=some o) (hdst:o.dst=some d) (hd:Nat.blt d C.N=true)
  (htch0:∀ a,EnvOk C.N C.ds e a→tch (exs (μ k)) ops o a=keys seg++bl) (hmv0:∀ a,EnvOk C.N C.ds e a→mvE (flg (μ k)) ops o a=keys seg) (hout:TOut ops k ts seg ws rs ts1) (hra:ReadAll C ops k bl ts1 us2 ts2)
  (hcl:∀ a φ,EnvOk C.N C.ds e a→(∀ q∈seg,φ q.1=some q.2∧(C.w0.heap.size≤q.1∨q.1∈C.S))→seg.Pairwise (fun p q=>p.1 ≠ q.1)→(∀ w,C.cx.on φ bl w→∀ p∈us2,w.heap[p.1]?=some p.2)→CanMk C.cx ops (μ k) φ o a M)
  (kk:∀ v' seg',M v' seg'→DW C ops μ Q tl rest (k+1) ((d,v')::e) (tsTag (k::ws) (k::rs) seg'++ts2)) :
  DW C ops μ Q tl (o::rest) k e ts:=by
 intro a φ tw tr ha hrel hinv
 obtain ⟨hperm,hws,hrs⟩:=hout.spec
 have htch:=htch0 a ha
 have hmvE:=hmv0 a ha
 have hin:∀ q∈seg,(q.1,q.2,ws,rs)∈ts:=fun q hq=>hperm.subset (List.mem_append_left _ (List.mem_map.2 ⟨q,hq,rfl⟩))
 have hsub:∀ p∈ts1,p∈ts:=fun p hp=>hperm.subset (List.mem_append_right _ hp)
 have hnd:(tsTag ws rs seg++ts1).Pairwise fun p q=>p.1 ≠ q.1:=hperm.symm.pairwise hrel.nd (fun h e=>h e.symm)
 obtain ⟨nd1,nd2,nd3⟩:=List.pairwise_append.1 hnd
 have hdis:∀ q∈seg,∀ p∈ts1,p.1 ≠ q.1:=fun q hq p hp e=>nd3 (q.1,q.2,ws,rs) (List.mem_map.2 ⟨q,hq,rfl⟩) p hp e.symm
 have hks:∀ b∈keys seg,∃ q∈seg,q.1=b:=fun b hb=>by obtain ⟨q,hq,he⟩:=List.mem_map.1 hb;exact ⟨q,hq,he⟩
 have hφs:∀ q∈seg,φ q.1=some q.2:=fun q hq=>hrel.fsome _ (hin q hq)
 have hrel1:Rel C.w0.heap.size ts1 φ tw (addT tr (keys seg) k):=by
  refine ⟨fun p hp=>hrel.fsome p (hsub p hp),fun p hp j hj=>hrel.ftw p (hsub p hp) j hj,fun p hp j hj=>?_,hrel.old,fun b hb hB j hj=>?_,nd2⟩
  ·rcases hj with hj|⟨_,hj⟩
   ·exact hrel.ftr p (hsub p hp) j hj
   ·obtain ⟨q,hq,he⟩:=hks _ hj
    exact absurd he.symm (hdis q hq p hp)
  ·rcases hj with hj|⟨_,hj⟩
   ·exact hrel.oldr b hb hB j hj
   ·obtain ⟨q,hq,rfl⟩:=hks _ hj
    rw [hφs q hq] at hb;cases hb
 obtain ⟨i1,i2,i3⟩:=hra.rel hinv hrel1
 have hts2:∀ p∈ts2,∀ q∈seg,p.1 ≠ q.1:=fun p hp q hq=>by
  obtain ⟨p',hp',he⟩:=mem_fst hra.fsts hp
  rw [← he];exact hdis q hq p' hp'
 unfold walk dOp
 simp only [hk]
 rw [htch,hmvE]
 refine ⟨fun b hb=>?_,.inr ⟨M,hcl a φ ha (fun q hq=>⟨hφs q hq,hinv q.1 (by rw [hφs q hq];simp)⟩) ?_ (fun w hon=>i3 w hon),fun b hb j hj=>?_,fun v' gs hM hf _=>?_⟩⟩
 ·rcases List.mem_append.1 hb with hb|hb
  ·obtain ⟨q,hq,rfl⟩:=hks _ hb
   exact ⟨.inl (by rw [hφs q hq];simp),fun j hj=>ancB_spec hws j (hrel.ftw _ (hin q hq) j hj)⟩
  ·exact i2 b hb
 ·have:=nd1
  simp only [tsTag,List.pairwise_map] at this
  exact this
 ·obtain ⟨q,hq,rfl⟩:=hks _ hb
  exact ancB_spec hrs j (hrel.ftr _ (hin q hq) j hj)
 ·have hfk:∀ b∈keys gs,(φ b=none∧C.w0.heap.size≤b)∨b∈keys seg:=fun b hb=>(hf.1 b hb).2
  have hk2:∀ p∈ts2,p.1 ∉ keys gs:=fun p hp hk'=>by
   rcases hfk _ hk' with h|h
   ·rw [i1.fsome p hp] at h;cases h.1
   ·obtain ⟨q,hq,he⟩:=hks _ h
    exact hts2 p hp q hq he.symm
  have hup:=upds_in (φ:=φ) hf.2
  have hg:∀ p∈tsTag (k::ws) (k::rs) gs,∃ q∈gs,p=(q.1,q.2,k::ws,k::rs):=fun p hp=>by
   obtain ⟨q,hq,rfl⟩:=List.mem_map.1 hp;exact ⟨q,hq,rfl⟩
  rw [hdst]
  refine kk v' gs hM _ _ _ _ (ha.put hd) ⟨fun p hp=>?_,fun p hp j hj=>?_,fun p hp j hj=>?_,fun x hx j hj=>?_,fun x hx hB j hj=>?_,?_⟩ (inv_upds hinv (fun b hb=>(hf.1 b hb).1))
  ·rcases List.mem_append.1 hp with hp|hp
   ·obtain ⟨q,hq,rfl⟩:=hg p hp;exact hup q hq
   ·rw [upds_other (hk2 p hp)];exact i1.fsome p hp
  ·rcases List.mem_append.1 hp with hp|hp
   ·obtain ⟨q,hq,rfl⟩:=hg p hp
    rcases hj with hj|⟨rfl,_⟩
    ·rcases hfk q.1 (List.mem_map.2 ⟨q,hq,rfl⟩) with h|h
     ·exact absurd hj (hrel.old _ h.1 j)
     ·obtain ⟨q',hq',he⟩:=hks _ h
      exact List.mem_cons_of_mem _ (hrel.ftw _ (hin q' hq') j (by rw [he];exact hj))
    ·exact List.mem_cons_self
   ·rcases hj with hj|⟨_,hj⟩
    ·exact i1.ftw p hp j hj
    ·rcases List.mem_append.1 hj with hj|hj
     ·obtain ⟨q,hq,he⟩:=hks _ hj
      exact absurd he.symm (hts2 p hp q hq)
     ·exact absurd hj (hk2 p hp)
  ·rcases List.mem_append.1 hp with hp|hp
   ·obtain ⟨q,hq,rfl⟩:=hg p hp
    rcases hj with hj|⟨rfl,_⟩
    ·rcases hfk q.1 (List.mem_map.2 ⟨q,hq,rfl⟩) with h|h
     ·exact absurd hj (hrel.oldr _ h.1 h.2 j)
     ·obtain ⟨q',hq',he⟩:=hks _ h
      exact List.mem_cons_of_mem _ (hrel.ftr _ (hin q' hq') j (by rw [he];exact hj))
    ·exact List.mem_cons_self
   ·exact i1.ftr p hp j (by rw [← addT_app];exact hj)
  ·have hxk:x ∉ keys gs:=fun h=>upds_key h hx
   rw [upds_other hxk] at hx
   rcases hj with hj|⟨_,hj⟩
   ·exact hrel.old x hx j hj
   ·rcases List.mem_append.1 hj with hj|hj
    ·obtain ⟨q,hq,rfl⟩:=hks _ hj
     rw [hφs q hq] at hx;cases hx
    ·exact hxk hj
  ·have hxk:x ∉ keys gs:=fun h=>upds_key h hx
   rw [upds_other hxk] at hx
   exact i1.oldr x hx hB j (by rw [← addT_app];exact hj)
  ·refine List.pairwise_append.2 ⟨?_,i1.nd,fun p hp q hq e=>?_⟩
   ·simp only [tsTag,List.pairwise_map];exact hf.2
   ·obtain ⟨q',hq',rfl⟩:=hg p hp
    exact hk2 q hq (by rw [← e];exact List.mem_map.2 ⟨q',hq',rfl⟩)
theorem DW.appendG {s x:Operand} {tys:Array TypeId} {v vx:Value} {M:Value→Fs→Prop} {seg us:Fs} {ws rs:List Nat} {ts1 ts2:Ts}
  (hk:ops[k]?=some ⟨some d,.call { callee:=.builtin .append,args:=#[s,x],argTypes:=tys },t,pos,af,g⟩) (hm:μ k=some (cst M,(false:Fl))) (hd:Nat.blt d C.N=true) (hg:WantT ops e g)
  (hs:e.ev s=some v) (hx:e.ev x=some vx) (hvk:blocksN 4 v=keys seg∧blocksN 1 v=keys seg) (hout:TOut ops k ts seg ws rs ts1) (hrd:RdV C ops k [vx] ts1 us ts2)
  (hrun:∀ w,St C.w0 C.S seg w→(∀ p∈us,w.heap[p.1]?=some p.2)→∃ v' seg' w',(Builtin.append_ tys t #[v,vx]).run C.P w=.ok v' w'∧M v' seg'∧St C.w0 C.S seg' w'∧w.heap.size≤w'.heap.size∧(∀ b,b < w.heap.size→b ∉ seg'.map (·.1)→w'.heap[b]?=w.heap[b]?)∧(∀ q∈seg',w.heap.size≤q.1∨q.1∈seg.map (·.1)))
  (kk:∀ v' seg',M v' seg'→DW C ops μ Q tl rest (k+1) ((d,v')::e) (tsTag (k::ws) (k::rs) seg'++ts2)) :
  DW C ops μ Q tl (⟨some d,.call { callee:=.builtin .append,args:=#[s,x],argTypes:=tys },t,pos,af,g⟩::rest) k e ts:=by
 obtain ⟨us2,hra,hus⟩:=hrd.all
 have hra:ReadAll C ops k (blocksN 4 vx) ts1 us2 ts2:=by simpa using hra
 have hmvB:∀ a:Act,EnvOk C.N C.ds e a→mvB false ⟨some d,.call { callee:=.builtin .append,args:=#[s,x],argTypes:=tys },t,pos,af,g⟩ a.eval=blocksN 1 v:=fun a ha=>by
  show (match (#[s,x]:Array Operand)[0]? with|some x=>blocksN 1 (a.eval x)|none=>[])=_
  simp [ha.Ev s v hs]
 refine DW.moveG (M:=M) hk rfl hd (fun a ha=>?_) (fun a ha=>?_) hout hra (fun a φ ha hseg hnd hus3=>?_) kk
 ·have hw:=WantT.wanted (o:=⟨some d,.call { callee:=.builtin .append,args:=#[s,x],argTypes:=tys },t,pos,af,g⟩) hg ha
  rw [tch_want hw,hm,← hvk.1]
  show ((#[]++#[s,x]:Array Operand).toList.flatMap fun y=>blocksN 4 (a.eval y))=_
  simp [ha.Ev s v hs,ha.Ev x vx hx]
 ·have hw:=WantT.wanted (o:=⟨some d,.call { callee:=.builtin .append,args:=#[s,x],argTypes:=tys },t,pos,af,g⟩) hg ha
  rw [hm];unfold mvE;rw [if_pos hw,← hvk.2];exact hmvB a ha
 ·have hw:=WantT.wanted (o:=⟨some d,.call { callee:=.builtin .append,args:=#[s,x],argTypes:=tys },t,pos,af,g⟩) hg ha
  have hes:=ha.Ev s v hs
  have hex:=ha.Ev x vx hx
  have htch:touch ⟨some d,.call { callee:=.builtin .append,args:=#[s,x],argTypes:=tys },t,pos,af,g⟩ a.eval=keys seg++blocksN 4 vx:=by
   rw [← hvk.1]
   show ((#[]++#[s,x]:Array Operand).toList.flatMap fun y=>blocksN 4 (a.eval y))=_
   simp [hes,hex]
  refine ⟨hw,.inr ⟨⟨cst M,by rw [hm];rfl,rfl⟩,.inr fun w hon=>?_⟩⟩
  rw [htch] at hon
  have hst:St C.w0 C.S seg w:=⟨hon.1,fun q hq=>⟨(hseg q hq).2,hon.2 q.1 (List.mem_append_left _ (List.mem_map.2 ⟨q,hq,rfl⟩)) _ (hseg q hq).1⟩,hnd⟩
  obtain ⟨v',seg',w',hr,hM,hst',g1,g2,g3⟩:=hrun w hst (fun p hp=>hus3 w ⟨hon.1,fun y hy o ho=>hon.2 y (List.mem_append_right _ hy) o ho⟩ p (hus p hp))
  refine ⟨v',seg',w',?_,hM,hst'.bel,g1,g2,fun q hq=>⟨(hst'.own q hq).2,?_,?_⟩,hst'.nd⟩
  ·show (execOp a.eval ⟨some d,.call { callee:=.builtin .append,args:=#[s,x],argTypes:=tys },t,pos,af,g⟩).run C.P w=.ok (.value v') w'
   simp [execOp,resolve,invoke,builtin,hes,hex,hr]
  ·exact (hst'.own q hq).1
  ·rw [hm,show mvB (flg (some (cst M,false))) _ _=keys seg from (hmvB a ha).trans hvk.2];exact g3 q hq
theorem DW.appendV {s x:Operand} {tys:Array TypeId} {T E size bytes n m:Nat} {z v vx:Value} {xs news:List Value} {seg us:Fs} {ws rs:List Nat} {ts1 ts2:Ts}
  (hk:ops[k]?=some ⟨some d,.call { callee:=.builtin .append,args:=#[s,x],argTypes:=tys },t,pos,af,g⟩) (hm:μ k=some (cst fun v' gs=>IsRow E size v' (n+m) (xs++news) gs,(false:Fl))) (hd:Nat.blt d C.N=true) (hg:WantT ops e g)
  (hT:tys=#[T,T]) (hU:UnI C.P T (.slice E)) (hI:InfoI C.P E size z) (hB:BytI C.P E bytes) (hz:z.cells.size=size) (hs:e.ev s=some v) (hx:e.ev x=some vx)
  (hrow:IsRow E size v n xs seg) (h0:v=.slice none 0 0∨0 < n) (hout:TOut ops k ts seg ws rs ts1) (hrd:RdV C ops k [vx] ts1 us ts2)
  (hat:∀ w,Bel C.w0.heap.size C.S C.w0 w→(∀ p∈us,w.heap[p.1]?=some p.2)→RowAt w size vx m news) (h1:∀ u∈news,u.oneCell'=true) (h63:n+m≤maxLen) (hb:(n+m) * bytes≤140737488355328)
  (kk:∀ v' seg',IsRow E size v' (n+m) (xs++news) seg'→DW C ops μ Q tl rest (k+1) ((d,v')::e) (tsTag (k::ws) (k::rs) seg'++ts2)) :
  DW C ops μ Q tl (⟨some d,.call { callee:=.builtin .append,args:=#[s,x],argTypes:=tys },t,pos,af,g⟩::rest) k e ts:=by
 subst hT
 refine DW.appendG hk hm hd hg hs hx (hrow.blocks h0) hout hrd (fun w hst hus=>?_) kk
 have hA:=hat w hst.bel hus
 obtain ⟨i,q1,q2,q3,q4⟩:=info_all (P:=C.P) (T:=E)
 rcases Nat.eq_zero_or_pos m with hm0|hm0
 ·subst hm0
  obtain ⟨q0,c0,rfl,_,_⟩:=hA.form
  have hn0:news=[]:=List.length_eq_zero_iff.1 (by rw [hA.len,Nat.zero_mul])
  subst hn0
  obtain ⟨p0,c1,rfl⟩:=hrow.form
  have hle:n≤c1:=by
   cases hrow with
   |nil=>exact Nat.zero_le _
   |own h _ _ _ _=>exact h
  have hsrc:Src C.P i.size T (.slice q0 0 c0) 0 [] w:=by
   cases q0 with
   |none=>exact Src.ofNil w hU.un c0
   |some a=>exact Src.ofSlice w hU.un a 0 c0 [] (by simp) (fun j u h=>by simp at h) (fun u h=>by cases h)
  have hr:=run_append_nothing (P:=C.P) w T T t E i hU.un q1 p0 n c1 hle _ hsrc
  exact ⟨_,seg,w,hr,by simpa using hrow,hst,Nat.le_refl _,fun _ _ _=>rfl,fun q hq=>.inr (List.mem_map.2 ⟨q,hq,rfl⟩)⟩
 ·obtain ⟨bb,off,c,cs,E',fr,rfl,hblk,hnx⟩:=hA.pos hm0
  obtain ⟨v',seg',w',hr,hrow',hst',g1,g2,g3⟩:=row_append2 (P:=C.P) (ty:=t) (pre:=[]) (post:=[]) hU.un q1 q3 q2 hz hrow (by simpa using hst) ⟨bb,off,none⟩ m c news hA.len (fun j u hj=>by
   rw [addr_add,cell_of hblk];exact cut_get hnx hj) h1 hm0 h63 (by rw [q4];exact hb)
  simp only [List.nil_append,List.append_nil] at hst'
  exact ⟨v',seg',w',hr,hrow',hst',g1,g2,g3⟩
end dw
end Go.Proofs.YtdeggbkbblfpoaaGreatDoor.SL
namespace Go.Proofs.YtdeggbkbblfpoaaGreatDoor.SL
set_option linter.unusedVariables false
set_option linter.unusedSimpArgs false
open Go Go.RowKit
abbrev Out:=Ending→Fs→Prop
def Out.plain (K:Out):Prop:=∀ fs,¬ K .outgrown fs
theorem thenP {K:List Deferred→Env→Fs→Prop} {Q:Post} {ch:List PanicEntry} {ds:List Deferred} {e:Env} {fs:Fs} (h:Q (.panic ch) ds e fs):thenQ K Q (.panic ch) ds e fs:=h
section cp
variable {C : Cu} {ops : Array Oper} {Q : Post} {rest : List Oper} {e : Env} {fs : Fs} {d : Nat} {t : TypeId} {pos : String} {af : Array Edge}
theorem LW.callP {fo:Operand} {args:Array Operand} {tys:Array TypeId} {f:FuncId} {first cap:Array Value} {vs aas:List Value} {K:Out} (hd:Nat.blt d C.N=true)
  (hf:e.ev fo=some (.func (.func f) first cap)) (hF:FnI C.P f) (ha:ArgsOk e args.toList vs) (has:first.toList++vs++cap.toList=aas) (hpl:K.plain)
  (hc:∀ w,St C.w0 C.S fs w→Calls C.P f aas.toArray w (fun x w'=>∃ fs',K x fs'∧St C.w0 C.S fs' w'))
  (k:∀ v fs',K (.returned v) fs'→LW C ops Q rest ((d,v)::e) fs') (kp:∀ ch fs',K (.panicked ch) fs'→Q (.panic ch) C.ds e fs') :
  LW C ops Q (⟨some d,.call { callee:=.value fo,args:=args,argTypes:=tys },t,pos,af,none⟩::rest) e fs:=fun a w hs=>by
 refine wpListIn_take (wanted_none _ rfl _) ⟨fun _ _=>trivial,?_⟩
 have hrun:=CallP.fn (P:=C.P) (tys:=tys) hf ha a.eval w hs.env.Ev (some d) t pos af none
 rw [semAt_FR (fun c h=>by cases h),hrun]
 have e1:first++vs.toArray++cap=aas.toArray:=by rw [← has];apply Array.toList_inj.1;simp
 refine ⟨fun h=>(by cases h),CallsIn.mono (calls_FR (e1 ▸ hc w hs.st)) fun x w' hx=>?_⟩
 obtain ⟨fs',hK,hst⟩:=hx
 cases x with
 |returned v=>exact k v fs' hK _ _ ⟨hs.env.put hd,hst⟩
 |panicked ch=>exact ⟨C.ds,e,fs',kp ch fs' hK,⟨hs.env,hst⟩⟩
 |outgrown=>exact absurd hK (hpl fs')
theorem LW.panic {o:Option Nat} {x:Operand} {T:TypeId} {v:Value} (hx:e.ev x=some (.iface T v)) (h:Q (.panic [{ v:=.iface T v,recovered:=false }]) C.ds e fs) :
  LW C ops Q (⟨o,.panic x,t,pos,af,none⟩::rest) e fs:=fun a w hs=>by
 refine wpListIn_take (wanted_none _ rfl _) ⟨fun _ _=>trivial,?_⟩
 have hrun:(execOp a.eval ⟨o,.panic x,t,pos,af,none⟩).run C.P w=.halt (.panic (.iface T v)) w:=by
  have h0:(Instr.panic (.iface T v)).run C.P w=.halt (.panic (.iface T v)) w:=rfl
  simp [execOp,hs.env.ev hx,h0,Result.andThen]
 rw [semAt_FR (fun c h=>by cases h),hrun]
 exact ⟨C.ds,e,fs,h,hs⟩
theorem LW.defer {fo:Operand} {tys:Array TypeId} {f:FuncId} {cap:Array Value} (hr:C.r=none) (hf:e.ev fo=some (.func (.func f) #[] cap))
  (h:LW (C.at ({ target:=.fn (.func f) cap,args:=#[] }::C.ds)) ops Q rest e fs):LW C ops Q (⟨none,.defer { callee:=.value fo,args:=#[],argTypes:=tys },t,pos,af,none⟩::rest) e fs:=fun a w hs=>by
 refine wpListIn_take (wanted_none _ rfl _) ⟨fun _ _=>trivial,?_⟩
 have hrun:(execOp a.eval ⟨none,.defer { callee:=.value fo,args:=#[],argTypes:=tys },t,pos,af,none⟩).run C.P w=.ok (.defer { target:=.fn (.func f) cap,args:=#[] }) w:=by
  simp [execOp,resolve,Deferred.ofValue,hs.env.ev hf]
 have hro:(FR C.r).round=none:=hr
 rw [hro,Oper.semAt_none,hrun]
 exact h { a with defers:={ target:=.fn (.func f) cap,args:=#[] }::a.defers } w ⟨⟨hs.env.size,by rw [show a.defers=C.ds from hs.env.dfr];rfl,hs.env.get⟩,hs.st⟩
end cp
theorem leaves_shutP {P:Program} {w0:World} {S:List Nat} {fn:Func} {tmps:Array Value} {R:Ending→World→Prop} {ch:List PanicEntry} {ds:List Deferred} {fs fs':Fs} (h:Shut ds fs fs'):∀ w,St w0 S fs w →
  (∀ w',St w0 S fs' w'→R (.panicked ch) w')→LeavesInM (FR none) 0 P fn tmps R ds (.panicking ch) w:=by
 induction h with
 |nil=>intro w hw hR;exact hR w hw
 |cons h _ ih =>
  intro w hw hR
  refine ⟨(fun h=>by cases h),.inl ⟨_,_,rfl,run_takeDeferred (hw.own _ h.mem).2,?_⟩⟩
  exact ih _ (hw.set h) hR
def inP (C:Cu) (fn:Func) (K:Out):Post:=fun x ds e fs=>match x with
 |.ret=>∃ vs fs',Shut ds fs fs'∧ResL C e fs' fn.results.toList vs∧K (.returned (tup vs)) fs'
 |.normal=>∃ vs fs',Shut ds fs fs'∧ResL C e fs' fn.results.toList vs∧K (.returned (tup vs)) fs'
 |.panic ch=>∃ fs',Shut ds fs fs'∧K (.panicked ch) fs'
 |_=>False
theorem inPI {C:Cu} {fn:Func} {K:Out} {x:Exit} {ds:List Deferred} {e:Env} {fs fs':Fs} {rs:List ResultVar} {vs:List Value} {v:Value} (hx:x=.ret∨x=.normal) (hsh:Shut ds fs fs') (hr:fn.results.toList=rs) (h:ResL C e fs' rs vs) (hv:tup vs=v) (hK:K (.returned v) fs'):inP C fn K x ds e fs:=by
 subst hv
 subst hr
 rcases hx with rfl|rfl
 ·exact ⟨vs,fs',hsh,h,hK⟩
 ·exact ⟨vs,fs',hsh,h,hK⟩
theorem inPP {C:Cu} {fn:Func} {K:Out} {ch:List PanicEntry} {ds:List Deferred} {e:Env} {fs fs':Fs} (hsh:Shut ds fs fs') (hK:K (.panicked ch) fs'):inP C fn K (.panic ch) ds e fs:=⟨fs',hsh,hK⟩
theorem calls_inlineP {P:Program} {w0:World} {S:List Nat} {f:FuncId} {fn:Func} {c:Code} {args:List Value} {N:Nat} {K:Out} {fs:Fs} {w:World} (hf:P.funcs[f]?=some fn) (hb:fn.body=some c) (hN:fn.ntmps=N) (hsz:Nat.ble args.length N=true)
  (h:CW ⟨P,w0,S,N,[],none⟩ c (inP ⟨P,w0,S,N,[],none⟩ fn K) (Env.ofL args 0) fs) (hw:St w0 S fs w) :
  Calls P f args.toArray w (fun x w'=>∃ fs',K x fs'∧St w0 S fs' w'):=by
 have hs:Sat ⟨P,w0,S,N,[],none⟩ (Env.ofL args 0) fs { tmps:=args.toArray++Array.replicate (fn.ntmps - args.toArray.size) undef,defers:=[] } w:=by
  refine ⟨⟨by have:=Nat.le_of_ble_eq_true hsz;simp [hN];omega,rfl,fun t v ht=>?_⟩,hw⟩
  obtain ⟨_,h2⟩:=Env.ofL_get _ _ _ _ ht
  have h3:args[t]?=some v:=by simpa using h2
  have hlt:t < args.length:=(List.getElem?_eq_some_iff.1 h3).1
  show (args.toArray++Array.replicate (fn.ntmps - args.toArray.size) undef)[t]?=some v
  rw [Array.getElem?_append_left (by simpa using hlt)]
  simpa using h3
 refine (callsIn_wide (n:=0)).1 (callsIn_of_wp_marks (F:=FR none) hf hb trivial ?_)
 refine Code.wpIn_mono (fun x a w' h'=>?_) (h _ w hs)
 obtain ⟨ds,e,fs1,hq,s⟩:=h'
 have key:∀ vs fs',Shut ds fs1 fs'→ResL ⟨P,w0,S,N,[],none⟩ e fs' fn.results.toList vs→K (.returned (tup vs)) fs'→LeavesInM (FR none) 0 P fn a.tmps (fun x w'=>∃ fs',K x fs'∧St w0 S fs' w') a.defers .returning w':=by
  intro vs fs' hsh hr hK
  rw [show a.defers=ds from s.env.dfr]
  exact leaves_shut hsh w' s.st fun w2 hw2=>⟨tup vs,ResL.runS hr s.env hw2,fs',hK,hw2⟩
 cases x with
 |ret=>obtain ⟨vs,fs',h1,h2,h3⟩:=hq;exact key vs fs' h1 h2 h3
 |normal=>obtain ⟨vs,fs',h1,h2,h3⟩:=hq;exact key vs fs' h1 h2 h3
 |panic ch =>
  obtain ⟨fs',hsh,hK⟩:=hq
  show LeavesInM (FR none) 0 P fn a.tmps _ a.defers (.panicking ch) w'
  rw [show a.defers=ds from s.env.dfr]
  exact leaves_shutP hsh w' s.st fun w2 hw2=>⟨fs',hK,hw2⟩
 |_=>exact hq.elim
end Go.Proofs.YtdeggbkbblfpoaaGreatDoor.SL
namespace Go.Proofs.YtdeggbkbblfpoaaGreatDoor.SL
set_option linter.unusedVariables false
set_option linter.unusedSimpArgs false
open Go Go.RowKit
def recV:FrameMode→Value × FrameMode
 |.panicking ({ v,recovered:=false,goexit:=false }::older)=>(v,.panicking ({ v,recovered:=true }::older))
 |m=>(.nilIface,m)
theorem recV_ret:recV .returning=(.nilIface,.returning):=rfl
theorem recV_pan {v:Value} {older:List PanicEntry}:recV (.panicking ({ v:=v,recovered:=false }::older))=(v,.panicking ({ v:=v,recovered:=true }::older)):=rfl
section rc
variable {F : Fence} {n : Nat} {P : Program} {Q : Exit → Act → List Frame → World → Prop} {a : Act} {cs : List Frame} {w : World}
theorem frame_same {c₀:Frame} {u:FrameMode} (hu:c₀.mode=u):{ c₀ with mode:=u }=c₀:=by subst hu;rfl
theorem recover_run {d:Nat} {t:TypeId} {pos:String} {af:Array Edge} {tys:Array TypeId} (ρ:Operand→Value):(execOp ρ ⟨some d,.call { callee:=.builtin .recover,args:=#[],argTypes:=tys },t,pos,af,none⟩).run P w=.ok .recover w:=by
 simp [execOp,resolve,invoke]
 rfl
theorem recoverD_eq {c₀:Frame} {u:FrameMode} (hu:c₀.mode=u):(∃ v cs',recoverD (c₀::cs)=some (v,cs')∧v=(recV u).1∧cs'={ c₀ with mode:=(recV u).2 }::cs)∨(recoverD (c₀::cs)=none∧(recV u).1=.nilIface∧{ c₀ with mode:=(recV u).2 }::cs=c₀::cs):=by
 have e:recoverD (c₀::cs)=(match c₀.mode with
   |.panicking ({ v,recovered:=false,goexit:=false }::older)=>some (v,{ c₀ with mode:=.panicking ({ v,recovered:=true }::older) }::cs)
   |_=>none):=rfl
 rw [e,hu]
 have hc:{ c₀ with mode:=u }=c₀:=frame_same hu
 cases u with
 |run=>exact .inr ⟨rfl,rfl,congrArg (·::cs) hc⟩
 |returning=>exact .inr ⟨rfl,rfl,congrArg (·::cs) hc⟩
 |panicking chain =>
  cases chain with
  |nil=>exact .inr ⟨rfl,rfl,congrArg (·::cs) hc⟩
  |cons p older =>
   obtain ⟨v,r,g⟩:=p
   cases r with
   |true=>exact .inr ⟨rfl,rfl,congrArg (·::cs) hc⟩
   |false =>
    cases g with
    |true=>exact .inr ⟨rfl,rfl,congrArg (·::cs) hc⟩
    |false=>exact .inl ⟨_,_,rfl,rfl,rfl⟩
theorem wpSIn_recover {id d:Nat} {t:TypeId} {pos:String} {af:Array Edge} {tys:Array TypeId} {rest:List Oper} {c₀:Frame} {u:FrameMode} (hF:∀ f,F.fn f) (hu:c₀.mode=u)
  (h:wpOpsSIn F n P (⟨some d,.call { callee:=.builtin .recover,args:=#[],argTypes:=tys },t,pos,af,none⟩::rest).toArray Q ((List.range (rest.length+1)).drop 1) (a.put (some d) (recV u).1) ({ c₀ with mode:=(recV u).2 }::cs) w) :
  (Code.region id (⟨some d,.call { callee:=.builtin .recover,args:=#[],argTypes:=tys },t,pos,af,none⟩::rest).toArray false).wpSIn F n P Q a (c₀::cs) w:=by
 refine wpSIn_region ?_
 rw [show (⟨some d,.call { callee:=.builtin .recover,args:=#[],argTypes:=tys },t,pos,af,none⟩::rest:List Oper).toArray.size=rest.length+1 by simp]
 have hr:List.range (rest.length+1)=0::(List.range (rest.length+1)).drop 1:=by
  rw [List.range_succ_eq_map];rfl
 rw [hr]
 unfold wpOpsSIn
 simp only [List.getElem?_toArray,List.getElem?_cons_zero]
 refine ⟨fun f _=>hF f,?_⟩
 rw [if_pos (wanted_none _ rfl _),recover_run]
 dsimp only
 rcases recoverD_eq (cs:=cs) hu with ⟨v,cs',h1,rfl,rfl⟩|⟨h1,h2,h3⟩
 ·rw [h1];exact h
 ·rw [h1];rw [h2,h3] at h;exact h
end rc
def inD (C:Cu) (fn:Func) (K:Out):Post:=fun x ds e fs=>ds=[]∧match x with
 |.ret=>∃ vs,ResL C e fs fn.results.toList vs∧K (.returned (tup vs)) fs
 |.normal=>∃ vs,ResL C e fs fn.results.toList vs∧K (.returned (tup vs)) fs
 |.panic ch=>K (.panicked ch) fs
 |_=>False
theorem inDI {C:Cu} {fn:Func} {K:Out} {x:Exit} {e:Env} {fs:Fs} {rs:List ResultVar} {vs:List Value} {v:Value} (hx:x=.ret∨x=.normal) (hr:fn.results.toList=rs) (h:ResL C e fs rs vs) (hv:tup vs=v) (hK:K (.returned v) fs):inD C fn K x [] e fs:=by
 subst hv
 subst hr
 rcases hx with rfl|rfl
 ·exact ⟨rfl,vs,h,hK⟩
 ·exact ⟨rfl,vs,h,hK⟩
def Rec1 (P:Program) (c1:Code) (N:Nat) (e0 e1:Env) (u:FrameMode):Prop:=∀ (Q:Exit→Act→List Frame→World→Prop) (n:Nat) (a:Act) (c₀:Frame) (cs:List Frame) (w:World),c₀.mode=u→EnvOk N [] e0 a→(∀ a',EnvOk N [] e1 a'→Q .normal a' ({ c₀ with mode:=(recV u).2 }::cs) w)→c1.wpSIn (FR none) n P Q a (c₀::cs) w
theorem Rec1.one {P:Program} {id d N:Nat} {e0:Env} {t:TypeId} {pos:String} {af:Array Edge} {tys:Array TypeId} {u:FrameMode} (hd:Nat.blt d N=true) :
  Rec1 P (.region id #[⟨some d,.call { callee:=.builtin .recover,args:=#[],argTypes:=tys },t,pos,af,none⟩] false) N e0 ((d,(recV u).1)::e0) u :=
 fun Q n a c₀ cs w hu ha h=>wpSIn_recover (rest:=[]) (fun _=>trivial) hu (h _ (ha.put hd))
theorem callsD_cw {P:Program} {w0:World} {S:List Nat} {f:FuncId} {fn:Func} {c1 rest:Code} {args:List Value} {N:Nat} {K:Out} {fs:Fs} {w:World} {u:FrameMode} (e1:Env) (hf:P.funcs[f]?=some fn) (hb:fn.body=some (.seq c1 rest)) (hN:fn.ntmps=N) (hsz:Nat.ble args.length N=true)
  (h1:Rec1 P c1 N (Env.ofL args 0) e1 u) (h:CW ⟨P,w0,S,N,[],none⟩ rest (inD ⟨P,w0,S,N,[],none⟩ fn K) e1 fs) (hw:St w0 S fs w) :
  CallsDIn (FR none) 0 P f args.toArray u w (fun e u' w'=>u'=(recV u).2∧∃ fs',K e fs'∧St w0 S fs' w'):=by
 have ha:EnvOk N [] (Env.ofL args 0) { tmps:=args.toArray++Array.replicate (fn.ntmps - args.toArray.size) undef,defers:=[] }:=by
  refine ⟨by have:=Nat.le_of_ble_eq_true hsz;simp [hN];omega,rfl,fun t v ht=>?_⟩
  obtain ⟨_,h2⟩:=Env.ofL_get _ _ _ _ ht
  have h3:args[t]?=some v:=by simpa using h2
  have hlt:t < args.length:=(List.getElem?_eq_some_iff.1 h3).1
  show (args.toArray++Array.replicate (fn.ntmps - args.toArray.size) undef)[t]?=some v
  rw [Array.getElem?_append_left (by simpa using hlt)]
  simpa using h3
 refine callsDIn_of_wpSIn hf hb trivial fun c₀ cs hu=>?_
 refine wpSIn_seq (h1 _ 0 _ c₀ cs w hu ha fun a' ha'=>?_)
 show rest.wpSIn (FR none) 0 P _ a' _ w
 refine wpSIn_of_wpIn rfl ?_
 refine Code.wpIn_mono (fun x a2 w2 h'=>?_) (h a' w ⟨ha',hw⟩)
 obtain ⟨ds,e,fs2,⟨rfl,hq⟩,s⟩:=h'
 have hd:a2.defers=[]:=s.env.dfr
 have hm:({ c₀ with mode:=(recV u).2 }::cs:List Frame)={ c₀ with mode:=(recV u).2 }::cs:=rfl
 have key:∀ vs,ResL ⟨P,w0,S,N,[],none⟩ e fs2 fn.results.toList vs→K (.returned (tup vs)) fs2→(a2.defers=[]∧∃ u',({ c₀ with mode:=(recV u).2 }::cs:List Frame)={ c₀ with mode:=u' }::cs∧∃ v,(results fn a2.tmps).run P w2=.ok v w2∧(u'=(recV u).2∧∃ fs',K (.returned v) fs'∧St w0 S fs' w2)):=fun vs hr hK =>
  ⟨hd,_,rfl,tup vs,ResL.run hr s,rfl,fs2,hK,s.st⟩
 cases x with
 |ret=>obtain ⟨vs,hr,hK⟩:=hq;exact key vs hr hK
 |normal=>obtain ⟨vs,hr,hK⟩:=hq;exact key vs hr hK
 |panic ch=>exact ⟨hd,_,rfl,rfl,fs2,hq,s.st⟩
 |_=>exact hq.elim
abbrev clo (f:FuncId) (cap:Array Value):Deferred:={ target:=.fn (.func f) cap,args:=#[] }
def outD (C:Cu) (fn:Func) (dd:Deferred) (R:Ending→World→Prop):Post:=fun x ds e fs=>ds=[dd]∧match x with
 |.ret=>∀ a w,Sat (C.at [dd]) e fs a w→LeavesInM (FR none) 0 C.P fn a.tmps R [dd] .returning w
 |.normal=>∀ a w,Sat (C.at [dd]) e fs a w→LeavesInM (FR none) 0 C.P fn a.tmps R [dd] .returning w
 |.panic ch=>∀ a w,Sat (C.at [dd]) e fs a w→LeavesInM (FR none) 0 C.P fn a.tmps R [dd] (.panicking ch) w
 |_=>False
theorem calls_inlineD {P:Program} {w0:World} {S:List Nat} {f:FuncId} {fn:Func} {c:Code} {args:List Value} {N:Nat} {R:Ending→World→Prop} {fs:Fs} {w:World} (hf:P.funcs[f]?=some fn) (hb:fn.body=some c) (hN:fn.ntmps=N) (hsz:Nat.ble args.length N=true)
  (h:CW ⟨P,w0,S,N,[],none⟩ c (fun x ds e fs=>∃ dd,outD ⟨P,w0,S,N,[],none⟩ fn dd R x ds e fs) (Env.ofL args 0) fs) (hw:St w0 S fs w):Calls P f args.toArray w R:=by
 have hs:Sat ⟨P,w0,S,N,[],none⟩ (Env.ofL args 0) fs { tmps:=args.toArray++Array.replicate (fn.ntmps - args.toArray.size) undef,defers:=[] } w:=by
  refine ⟨⟨by have:=Nat.le_of_ble_eq_true hsz;simp [hN];omega,rfl,fun t v ht=>?_⟩,hw⟩
  obtain ⟨_,h2⟩:=Env.ofL_get _ _ _ _ ht
  have h3:args[t]?=some v:=by simpa using h2
  have hlt:t < args.length:=(List.getElem?_eq_some_iff.1 h3).1
  show (args.toArray++Array.replicate (fn.ntmps - args.toArray.size) undef)[t]?=some v
  rw [Array.getElem?_append_left (by simpa using hlt)]
  simpa using h3
 refine (callsIn_wide (n:=0)).1 (callsIn_of_wp_marks (F:=FR none) hf hb trivial ?_)
 refine Code.wpIn_mono (fun x a w' h'=>?_) (h _ w hs)
 obtain ⟨ds,e,fs1,⟨dd,rfl,hq⟩,s⟩:=h'
 have hd:a.defers=[dd]:=s.env.dfr
 cases x with
 |ret=>show LeavesInM (FR none) 0 P fn a.tmps R a.defers .returning w';rw [hd];exact hq a w' s
 |normal=>show LeavesInM (FR none) 0 P fn a.tmps R a.defers .returning w';rw [hd];exact hq a w' s
 |panic ch=>show LeavesInM (FR none) 0 P fn a.tmps R a.defers (.panicking ch) w';rw [hd];exact hq a w' s
 |_=>exact hq.elim
theorem leaves_clo {P:Program} {w0:World} {S:List Nat} {fn:Func} {tmps:Array Value} {R:Ending→World→Prop} {f:FuncId} {cap:Array Value} {K:Out} {u:FrameMode} {w:World} (hF:FnI P f) (hu:u ≠ .run)
  (hc:CallsDIn (FR none) 0 P f cap u w (fun e u' w'=>u'=(recV u).2∧∃ fs',K e fs'∧St w0 S fs' w'))
  (hK:K.plain) (hret:∀ v fs' w',K (.returned v) fs'→St w0 S fs' w'→LeavesIn (FR none) 0 P fn tmps R [] (settle (recV u).2) w')
  (hpan:∀ ch fs' w',K (.panicked ch) fs'→St w0 S fs' w'→LeavesIn (FR none) 0 P fn tmps R [] (raised (recV u).2 ch) w'):LeavesInM (FR none) 0 P fn tmps R [clo f cap] u w:=by
 refine ⟨hu,.inr ⟨(fun h=>by cases h),.func f,cap,f,cap,rfl,?_,(fun _ _=>trivial),?_⟩⟩
 ·have:=hF.run cap w
  simpa [invoke] using this
 ·refine CallsDIn.mono hc fun e u' w' ⟨hu',fs',hk,hst⟩=>?_
  subst hu'
  cases e with
  |returned v=>exact hret v fs' w' hk hst
  |panicked ch=>exact hpan ch fs' w' hk hst
  |outgrown=>exact absurd hk (hK fs')
end Go.Proofs.YtdeggbkbblfpoaaGreatDoor.SL
namespace Go.Proofs.YtdeggbkbblfpoaaGreatDoor.SL
set_option linter.unusedVariables false
set_option linter.unusedSimpArgs false
open Go Go.RowKit
section iv
variable {P : Program} {e : Env} {T ty : TypeId} {x y : Operand}
theorem ValP.mkIface {v:Value} (hc:P.concrete T=true) (hx:e.ev x=some v):ValP P e [] (.makeInterface T x) (.iface T v):=fun ρ w hρ _ d t pos af g=>by
 simp [execOp,hρ x v hx,run_makeInterface w T v hc]
theorem run_assertHit {v:Value} {X:TypeId} (hc:P.concrete T=true) (w:World):(Instr.typeAssert (.iface T v) X T true).run P w=.ok (.tuple #[v,.bool true]) w:=by
 unfold Program.concrete at hc
 cases hd:P.underlying T with
 |none=>simp [hd] at hc
 |some d=>cases d<;>first|(simp [hd] at hc;done)|simp [Instr.typeAssert,run_underlying hd]
theorem ValP.assertHit {v:Value} {X:TypeId} (hc:P.concrete T=true) (hx:e.ev x=some (.iface T v)):ValP P e [] (.typeAssert x X T true) (.tuple #[v,.bool true]):=fun ρ w hρ _ d t pos af g=>by
 simp [execOp,hρ x _ hx,run_assertHit hc]
theorem ValP.eqNilT {U:TypeId} (hI:P.underlying T=some (.interface (P.methodsAt T))) (hx:e.ev x=some .nilIface):ValP P e [] (.binOp .eql T x (.const .nilIface) ty) (.bool true) :=
 .bin hx rfl (fun w=>by rw [Go.eqGuard_nil_constR];rfl) fun w=>by
  simp only [binOp,Sem.run_bind,run_equal_nil_nil w T hI];rfl
theorem ValP.eqNilF {U:TypeId} {v:Value} (hI:P.underlying T=some (.interface (P.methodsAt T))) (hx:e.ev x=some (.iface U v)):ValP P e [] (.binOp .eql T x (.const .nilIface) ty) (.bool false) :=
 .bin hx rfl (fun w=>by first|rfl|(unfold eqGuard;rfl)) fun w=>by
  simp only [binOp,Sem.run_bind,run_equal_held_nil w T U v hI];rfl
end iv
end Go.Proofs.YtdeggbkbblfpoaaGreatDoor.SL
namespace Go.Proofs.YtdeggbkbblfpoaaGreatDoor.SL
set_option linter.unusedVariables false
set_option linter.unusedSimpArgs false
open Go Go.RowKit
section run
variable {P : Program} {w : World}
end run
section lw
variable {C : Cu} {ops : Array Oper} {Q : Post} {rest : List Oper} {e : Env} {fs : Fs} {d : Nat} {t : TypeId} {pos : String} {af : Array Edge}
end lw
section dw
variable {C : Cu} {ops : Array Oper} {Q : Post} {tl rest : List Oper} {e : Env} {ts : Ts} {μ : Mu} {k d : Nat} {t : TypeId} {pos : String} {af : Array Edge} {g : Option (Nat × Bool)}
end dw
end Go.Proofs.YtdeggbkbblfpoaaGreatDoor.SL
namespace Go.Proofs.YtdeggbkbblfpoaaGreatDoor
open Go Go.RowKit
section
open Go Go.RowKit SL
abbrev zA := @PartsOk.cons
abbrev zB := @PartsOk.nil
abbrev zC := @WantT.none
abbrev zD := @ResL.cons
abbrev zF := @ResL.nil
abbrev zG := @Res.tmp
abbrev zH := @Res.cell
abbrev zI := @CW.seq
abbrev zJ := @CW.skip
abbrev zK := @CW.ret
abbrev zL := @CW.region
abbrev zM := @CW.block
abbrev zN := @ancB_nil
abbrev zO := @TRead.tail
abbrev zP := @TRead.head
abbrev zQ := @TRead.app
abbrev zR := @LW.store
abbrev zS := @LW.callE
abbrev zT := @LW.boxA
abbrev zU := @LW.allocA
abbrev zV := @LW.nil
abbrev zW := @ValP.buildT
abbrev zX := @FsAt.tail
abbrev zY := @FsAt.head
abbrev zZ := @FsAt.app
abbrev qA := @SetAt.head
abbrev qD := @SetAt.tail
abbrev qE := @SetAt.app
abbrev qF := @DW.loadO
abbrev qG := @Known.at
abbrev qH := @Rd.whole
abbrev qI := @List.setIfInBounds_toArray
abbrev qJ := @List.getElem?_cons_zero
abbrev qK := @List.getElem?_cons_succ
abbrev qL := @List.toList_toArray
abbrev qM := @List.set_cons_zero
abbrev qN := @List.set_cons_succ
abbrev qO := @List.Sublist.refl
abbrev qP := @Nat.zero_add
abbrev qQ := @List.mem_cons_of_mem
abbrev qR := @List.sublist_append_left
abbrev qS := @List.Sublist.cons
end
namespace SL
section cut
variable {P : Program} {e : Env} {T E : TypeId} {x lo hi : Operand} {p : Option Addr} {n c : Nat}
end cut
section xb
variable {P : Program} {e : Env} {T ty : TypeId} {x y : Operand} {m n : Nat}
end xb
end SL
end Go.Proofs.YtdeggbkbblfpoaaGreatDoor
namespace Go.Proofs.YtdeggbkbblfpoaaGreatDoor.SL
set_option linter.unusedVariables false
set_option linter.unusedSimpArgs false
open Go Go.RowKit
section mm
variable {P : Program} {e : Env} {ik : IntKind} {m n k l : Nat} {x y z u : Operand} {tys : Array TypeId}
end mm
section gc
variable {C : Cu} {ops : Array Oper} {Q : Post} {rest : List Oper} {e : Env} {fs : Fs} {d : Nat} {op : Op} {t : TypeId} {pos : String} {af : Array Edge} {j s : Nat} {b : Bool} {p : Prop} [Decidable p]
theorem LW.guardCF (hs:(ops[j]?).bind (·.dst)=some s) (he:e.get s=some (.bool b)) (hd:Nat.blt d C.N=true) (h1:b=false→LW C ops Q (⟨some d,op,t,pos,af,none⟩::rest) e fs) (h2:b=true→LW C ops Q rest ((d,undef)::e) fs) :
  LW C ops Q (⟨some d,op,t,pos,af,some (j,false)⟩::rest) e fs:=by
 cases b with
 |true=>exact LW.guardF hs he hd (h2 rfl)
 |false=>exact LW.guardT hs he (h1 rfl)
theorem LW.guardDF (hs:(ops[j]?).bind (·.dst)=some s) (he:e.get s=some (.bool (decide p))) (hd:Nat.blt d C.N=true) (h1:¬ p→decide p=false→LW C ops Q (⟨some d,op,t,pos,af,none⟩::rest) e fs) (h2:p→decide p=true→LW C ops Q rest ((d,undef)::e) fs) :
  LW C ops Q (⟨some d,op,t,pos,af,some (j,false)⟩::rest) e fs :=
 LW.guardCF hs he hd (fun h=>h1 (of_decide_eq_false h) h) (fun h=>h2 (of_decide_eq_true h) h)
variable {c : Operand} {x y : Code}
theorem CW.condN (hc:e.ev c=some (.bool (!decide p))) (ht:¬ p→(!decide p)=true→CW C x Q e fs) (hf:p→(!decide p)=false→CW C y Q e fs):CW C (.cond c x y) Q e fs :=
 CW.cond hc (fun h=>ht (by simpa using h) h) (fun h=>hf (by simpa using h) h)
end gc
end Go.Proofs.YtdeggbkbblfpoaaGreatDoor.SL
namespace Go.Proofs.YtdeggbkbblfpoaaGreatDoor.SL
set_option linter.unusedVariables false
set_option linter.unusedSimpArgs false
open Go Go.RowKit
section dw
variable {C : Cu} {ops : Array Oper} {Q : Post} {tl rest : List Oper} {e : Env} {ts : Ts} {μ : Mu} {k d : Nat} {t : TypeId} {pos : String} {af : Array Edge} {g : Option (Nat × Bool)}
theorem DW.moveX {o:Oper} {bl:List Nat} {M:Facts→Value→Fs→Prop} {seg us2 us3:Fs} {ws rs:List Nat} {ts1 ts2:Ts} (hk:ops[k]?=some o) (hdst:o.dst=some d) (hd:Nat.blt d C.N=true)
  (htch0:∀ a,EnvOk C.N C.ds e a→tch (exs (μ k)) ops o a=keys seg++bl) (hmv0:∀ a,EnvOk C.N C.ds e a→mvE (flg (μ k)) ops o a=keys seg) (hout:TOut ops k ts seg ws rs ts1) (hra:ReadAll C ops k bl ts1 us2 ts2) (hown:∀ p∈us3,∃ ws rs,(p.1,p.2,ws,rs)∈ts1)
  (hcl:∀ a φ,EnvOk C.N C.ds e a→(∀ q∈seg,φ q.1=some q.2∧(C.w0.heap.size≤q.1∨q.1∈C.S))→seg.Pairwise (fun p q=>p.1 ≠ q.1)→(∀ w,C.cx.on φ bl w→∀ p∈us2,w.heap[p.1]?=some p.2)→(∀ p∈us3,φ p.1=some p.2)→CanMk C.cx ops (μ k) φ o a (M φ))
  (kk:∀ φ v' seg',(∀ p∈us3,φ p.1=some p.2)→M φ v' seg'→DW C ops μ Q tl rest (k+1) ((d,v')::e) (tsTag (k::ws) (k::rs) seg'++ts2)) :
  DW C ops μ Q tl (o::rest) k e ts:=by
 intro a φ tw tr ha hrel hinv
 obtain ⟨hperm,hws,hrs⟩:=hout.spec
 have htch:=htch0 a ha
 have hmvE:=hmv0 a ha
 have hin:∀ q∈seg,(q.1,q.2,ws,rs)∈ts:=fun q hq=>hperm.subset (List.mem_append_left _ (List.mem_map.2 ⟨q,hq,rfl⟩))
 have hsub:∀ p∈ts1,p∈ts:=fun p hp=>hperm.subset (List.mem_append_right _ hp)
 have hnd:(tsTag ws rs seg++ts1).Pairwise fun p q=>p.1 ≠ q.1:=hperm.symm.pairwise hrel.nd (fun h e=>h e.symm)
 obtain ⟨nd1,nd2,nd3⟩:=List.pairwise_append.1 hnd
 have hdis:∀ q∈seg,∀ p∈ts1,p.1 ≠ q.1:=fun q hq p hp e=>nd3 (q.1,q.2,ws,rs) (List.mem_map.2 ⟨q,hq,rfl⟩) p hp e.symm
 have hks:∀ b∈keys seg,∃ q∈seg,q.1=b:=fun b hb=>by obtain ⟨q,hq,he⟩:=List.mem_map.1 hb;exact ⟨q,hq,he⟩
 have hφs:∀ q∈seg,φ q.1=some q.2:=fun q hq=>hrel.fsome _ (hin q hq)
 have hrel1:Rel C.w0.heap.size ts1 φ tw (addT tr (keys seg) k):=by
  refine ⟨fun p hp=>hrel.fsome p (hsub p hp),fun p hp j hj=>hrel.ftw p (hsub p hp) j hj,fun p hp j hj=>?_,hrel.old,fun b hb hB j hj=>?_,nd2⟩
  ·rcases hj with hj|⟨_,hj⟩
   ·exact hrel.ftr p (hsub p hp) j hj
   ·obtain ⟨q,hq,he⟩:=hks _ hj
    exact absurd he.symm (hdis q hq p hp)
  ·rcases hj with hj|⟨_,hj⟩
   ·exact hrel.oldr b hb hB j hj
   ·obtain ⟨q,hq,rfl⟩:=hks _ hj
    rw [hφs q hq] at hb;cases hb
 obtain ⟨i1,i2,i3⟩:=hra.rel hinv hrel1
 have hts2:∀ p∈ts2,∀ q∈seg,p.1 ≠ q.1:=fun p hp q hq=>by
  obtain ⟨p',hp',he⟩:=mem_fst hra.fsts hp
  rw [← he];exact hdis q hq p' hp'
 have hφ3:∀ p∈us3,φ p.1=some p.2:=fun p hp=>by
  obtain ⟨ws',rs',h⟩:=hown p hp
  exact hrel1.fsome _ h
 unfold walk dOp
 simp only [hk]
 rw [htch,hmvE]
 refine ⟨fun b hb=>?_,.inr ⟨M φ,hcl a φ ha (fun q hq=>⟨hφs q hq,hinv q.1 (by rw [hφs q hq];simp)⟩) ?_ (fun w hon=>i3 w hon) hφ3,fun b hb j hj=>?_,fun v' gs hM hf _=>?_⟩⟩
 ·rcases List.mem_append.1 hb with hb|hb
  ·obtain ⟨q,hq,rfl⟩:=hks _ hb
   exact ⟨.inl (by rw [hφs q hq];simp),fun j hj=>ancB_spec hws j (hrel.ftw _ (hin q hq) j hj)⟩
  ·exact i2 b hb
 ·have:=nd1
  simp only [tsTag,List.pairwise_map] at this
  exact this
 ·obtain ⟨q,hq,rfl⟩:=hks _ hb
  exact ancB_spec hrs j (hrel.ftr _ (hin q hq) j hj)
 ·have hfk:∀ b∈keys gs,(φ b=none∧C.w0.heap.size≤b)∨b∈keys seg:=fun b hb=>(hf.1 b hb).2
  have hk2:∀ p∈ts2,p.1 ∉ keys gs:=fun p hp hk'=>by
   rcases hfk _ hk' with h|h
   ·rw [i1.fsome p hp] at h;cases h.1
   ·obtain ⟨q,hq,he⟩:=hks _ h
    exact hts2 p hp q hq he.symm
  have hup:=upds_in (φ:=φ) hf.2
  have hg:∀ p∈tsTag (k::ws) (k::rs) gs,∃ q∈gs,p=(q.1,q.2,k::ws,k::rs):=fun p hp=>by
   obtain ⟨q,hq,rfl⟩:=List.mem_map.1 hp;exact ⟨q,hq,rfl⟩
  rw [hdst]
  refine kk φ v' gs hφ3 hM _ _ _ _ (ha.put hd) ⟨fun p hp=>?_,fun p hp j hj=>?_,fun p hp j hj=>?_,fun x hx j hj=>?_,fun x hx hB j hj=>?_,?_⟩ (inv_upds hinv (fun b hb=>(hf.1 b hb).1))
  ·rcases List.mem_append.1 hp with hp|hp
   ·obtain ⟨q,hq,rfl⟩:=hg p hp;exact hup q hq
   ·rw [upds_other (hk2 p hp)];exact i1.fsome p hp
  ·rcases List.mem_append.1 hp with hp|hp
   ·obtain ⟨q,hq,rfl⟩:=hg p hp
    rcases hj with hj|⟨rfl,_⟩
    ·rcases hfk q.1 (List.mem_map.2 ⟨q,hq,rfl⟩) with h|h
     ·exact absurd hj (hrel.old _ h.1 j)
     ·obtain ⟨q',hq',he⟩:=hks _ h
      exact qQ _ (hrel.ftw _ (hin q' hq') j (by rw [he];exact hj))
    ·exact List.mem_cons_self
   ·rcases hj with hj|⟨_,hj⟩
    ·exact i1.ftw p hp j hj
    ·rcases List.mem_append.1 hj with hj|hj
     ·obtain ⟨q,hq,he⟩:=hks _ hj
      exact absurd he.symm (hts2 p hp q hq)
     ·exact absurd hj (hk2 p hp)
  ·rcases List.mem_append.1 hp with hp|hp
   ·obtain ⟨q,hq,rfl⟩:=hg p hp
    rcases hj with hj|⟨rfl,_⟩
    ·rcases hfk q.1 (List.mem_map.2 ⟨q,hq,rfl⟩) with h|h
     ·exact absurd hj (hrel.oldr _ h.1 h.2 j)
     ·obtain ⟨q',hq',he⟩:=hks _ h
      exact qQ _ (hrel.ftr _ (hin q' hq') j (by rw [he];exact hj))
    ·exact List.mem_cons_self
   ·exact i1.ftr p hp j (by rw [← addT_app];exact hj)
  ·have hxk:x ∉ keys gs:=fun h=>upds_key h hx
   rw [upds_other hxk] at hx
   rcases hj with hj|⟨_,hj⟩
   ·exact hrel.old x hx j hj
   ·rcases List.mem_append.1 hj with hj|hj
    ·obtain ⟨q,hq,rfl⟩:=hks _ hj
     rw [hφs q hq] at hx;cases hx
    ·exact hxk hj
  ·have hxk:x ∉ keys gs:=fun h=>upds_key h hx
   rw [upds_other hxk] at hx
   exact i1.oldr x hx hB j (by rw [← addT_app];exact hj)
  ·refine List.pairwise_append.2 ⟨?_,i1.nd,fun p hp q hq e=>?_⟩
   ·simp only [tsTag,List.pairwise_map];exact hf.2
   ·obtain ⟨q',hq',rfl⟩:=hg p hp
    exact hk2 q hq (by rw [← e];exact List.mem_map.2 ⟨q',hq',rfl⟩)
theorem DW.appendX {s x:Operand} {tys:Array TypeId} {v vx:Value} {R:Rel2} {seg us us3:Fs} {ws rs:List Nat} {ts1 ts2:Ts}
  (hk:ops[k]?=some ⟨some d,.call { callee:=.builtin .append,args:=#[s,x],argTypes:=tys },t,pos,af,g⟩) (hm:μ k=some (R,(false:Fl))) (hd:Nat.blt d C.N=true) (hg:WantT ops e g)
  (hs:e.ev s=some v) (hx:e.ev x=some vx) (hvk:blocksN 4 v=keys seg∧blocksN 1 v=keys seg) (hout:TOut ops k ts seg ws rs ts1) (hrd:RdV C ops k [vx] ts1 us ts2) (hown:∀ p∈us3,(∃ ws rs,(p.1,p.2,ws,rs)∈ts1)∧p.1∈blocksN 4 vx)
  (hrun:∀ w,St C.w0 C.S seg w→(∀ p∈us,w.heap[p.1]?=some p.2)→∃ v' seg' w',(Builtin.append_ tys t #[v,vx]).run C.P w=.ok v' w'∧(∀ ψ:Facts,(∀ p∈us3,ψ p.1=some p.2)→R [v,vx] ψ v' seg')∧St C.w0 C.S seg' w'∧w.heap.size≤w'.heap.size∧(∀ b,b < w.heap.size→b ∉ seg'.map (·.1)→w'.heap[b]?=w.heap[b]?)∧(∀ q∈seg',w.heap.size≤q.1∨q.1∈seg.map (·.1)))
  (kk:∀ ψ v' seg',(∀ p∈us3,ψ p.1=some p.2)→R [v,vx] ψ v' seg'→DW C ops μ Q tl rest (k+1) ((d,v')::e) (tsTag (k::ws) (k::rs) seg'++ts2)) :
  DW C ops μ Q tl (⟨some d,.call { callee:=.builtin .append,args:=#[s,x],argTypes:=tys },t,pos,af,g⟩::rest) k e ts:=by
 obtain ⟨us2,hra,hus⟩:=hrd.all
 have hra:ReadAll C ops k (blocksN 4 vx) ts1 us2 ts2:=by simpa using hra
 have hmvB:∀ a:Act,EnvOk C.N C.ds e a→mvB false ⟨some d,.call { callee:=.builtin .append,args:=#[s,x],argTypes:=tys },t,pos,af,g⟩ a.eval=blocksN 1 v:=fun a ha=>by
  show (match (#[s,x]:Array Operand)[0]? with|some x=>blocksN 1 (a.eval x)|none=>[])=_
  simp [ha.Ev s v hs]
 have hr3:∀ φ:Facts,(∀ p∈us3,φ p.1=some p.2)→∀ p∈us3,rst φ (keys seg++blocksN 4 vx) p.1=some p.2:=fun φ h p hp=>by rw [rst_in φ (List.mem_append_right _ (hown p hp).2)];exact h p hp
 refine DW.moveX (us3:=us3) (M:=fun φ=>R [v,vx] (rst φ (keys seg++blocksN 4 vx))) hk rfl hd (fun a ha=>?_) (fun a ha=>?_) hout hra (fun p hp=>(hown p hp).1) (fun a φ ha hseg hnd hus3 hφ3=>?_) (fun φ v' seg' h3 hM=>kk _ v' seg' (hr3 φ h3) hM)
 ·have hw:=WantT.wanted (o:=⟨some d,.call { callee:=.builtin .append,args:=#[s,x],argTypes:=tys },t,pos,af,g⟩) hg ha
  rw [tch_want hw,hm,← hvk.1]
  show ((#[]++#[s,x]:Array Operand).toList.flatMap fun y=>blocksN 4 (a.eval y))=_
  simp [ha.Ev s v hs,ha.Ev x vx hx]
 ·have hw:=WantT.wanted (o:=⟨some d,.call { callee:=.builtin .append,args:=#[s,x],argTypes:=tys },t,pos,af,g⟩) hg ha
  rw [hm];unfold mvE;rw [if_pos hw,← hvk.2];exact hmvB a ha
 ·have hw:=WantT.wanted (o:=⟨some d,.call { callee:=.builtin .append,args:=#[s,x],argTypes:=tys },t,pos,af,g⟩) hg ha
  have hes:=ha.Ev s v hs
  have hex:=ha.Ev x vx hx
  have htch:touch ⟨some d,.call { callee:=.builtin .append,args:=#[s,x],argTypes:=tys },t,pos,af,g⟩ a.eval=keys seg++blocksN 4 vx:=by
   rw [← hvk.1]
   show ((#[]++#[s,x]:Array Operand).toList.flatMap fun y=>blocksN 4 (a.eval y))=_
   simp [hes,hex]
  have hvo:valsOf ⟨some d,.call { callee:=.builtin .append,args:=#[s,x],argTypes:=tys },t,pos,af,g⟩ a.eval=[v,vx]:=by
   show ((#[]++#[s,x]:Array Operand).toList.map fun y=>a.eval y)=_
   simp [hes,hex]
  refine ⟨hw,.inr ⟨⟨R,by rw [hm];rfl,by rw [hvo,htch]⟩,.inr fun w hon=>?_⟩⟩
  rw [htch] at hon
  have hst:St C.w0 C.S seg w:=⟨hon.1,fun q hq=>⟨(hseg q hq).2,hon.2 q.1 (List.mem_append_left _ (List.mem_map.2 ⟨q,hq,rfl⟩)) _ (hseg q hq).1⟩,hnd⟩
  obtain ⟨v',seg',w',hr,hM,hst',g1,g2,g3⟩:=hrun w hst (fun p hp=>hus3 w ⟨hon.1,fun y hy o ho=>hon.2 y (List.mem_append_right _ hy) o ho⟩ p (hus p hp))
  refine ⟨v',seg',w',?_,hM _ (hr3 φ hφ3),hst'.bel,g1,g2,fun q hq=>⟨(hst'.own q hq).2,?_,?_⟩,hst'.nd⟩
  ·show (execOp a.eval ⟨some d,.call { callee:=.builtin .append,args:=#[s,x],argTypes:=tys },t,pos,af,g⟩).run C.P w=.ok (.value v') w'
   simp [execOp,resolve,invoke,builtin,hes,hex,hr]
  ·exact (hst'.own q hq).1
  ·rw [hm,show mvB (flg (some (R,false))) _ _=keys seg from (hmvB a ha).trans hvk.2];exact g3 q hq
end dw
end Go.Proofs.YtdeggbkbblfpoaaGreatDoor.SL
namespace Go.Proofs.YtdeggbkbblfpoaaGreatDoor.SL
set_option linter.unusedVariables false
set_option linter.unusedSimpArgs false
open Go Go.RowKit
section
variable {P : Program} {e : Env} {T ty : TypeId} {x y : Operand} {xs : Array Value}
end
end Go.Proofs.YtdeggbkbblfpoaaGreatDoor.SL
namespace Go.Proofs.YtdeggbkbblfpoaaGreatDoor.SL
set_option linter.unusedVariables false
set_option linter.unusedSimpArgs false
open Go Go.RowKit
def QW (C:Cu) (ops:Array Oper) (Q:Post) (l:List Oper) (e:Env) (fs:Fs):Prop :=
 ∀ a,EnvOk C.N C.ds e a→wpQuietIn (FR C.r) 0 C.P ops (fun w=>St C.w0 C.S fs w) (fun a'=>∀ w',St C.w0 C.S fs w'→down C Q .normal a' w') l a
theorem CW.quiet {C:Cu} {id:Nat} {l:List Oper} {Q:Post} {e:Env} {fs:Fs} (hr:C.r=none) (hm:C.P.follows .mixedOrders=true) (hB:Region.lexB .any l.toArray=true) (h:QW C l.toArray Q l e fs):CW C (.region id l.toArray true) Q e fs:=fun a w hs =>
 wpIn_region_quiet (C:=fun w=>St C.w0 C.S fs w) hr hm hB ⟨hs.st.bel.drew,hs.st.own,hs.st.nd⟩ (by simpa using h a hs.env)
section
variable {C : Cu} {ops : Array Oper} {Q : Post} {rest : List Oper} {e : Env} {fs : Fs} {d : Nat} {op : Op} {t : TypeId} {pos : String} {af : Array Edge} {g : Option (Nat × Bool)}
theorem QW.nil (h:Q .normal C.ds e fs):QW C ops Q [] e fs:=fun a ha w' hw=>⟨C.ds,e,fs,h,⟨ha,hw⟩⟩
theorem QW.vk {v:Value} {us:Fs} (hd:Nat.blt d C.N=true) (hg:WantT ops e g) (h:ValP C.P e us op v) (hus:∀ p∈us,Known C fs p) (k:QW C ops Q rest ((d,v)::e) fs):QW C ops Q (⟨some d,op,t,pos,af,g⟩::rest) e fs:=fun a ha =>
 ⟨fun _ _ _ _=>trivial,by
  rw [if_pos (hg.wanted ha)]
  refine ⟨v,fun w hw=>?_,k _ (ha.put hd)⟩
  unfold Oper.quietAtIn
  rw [h a.eval w ha.Ev (fun p hp=>(hus p hp).get hw)]
  exact ⟨rfl,rfl⟩⟩
theorem QW.v0 {v:Value} (hd:Nat.blt d C.N=true) (hg:WantT ops e g) (h:ValP C.P e [] op v) (k:QW C ops Q rest ((d,v)::e) fs):QW C ops Q (⟨some d,op,t,pos,af,g⟩::rest) e fs :=
 QW.vk hd hg h (by simp) k
theorem QW.load {T:TypeId} {x:Operand} {b off:Nat} {o:Obj} {v:Value} (hd:Nat.blt d C.N=true) (hg:WantT ops e g) (hx:e.ev x=some (.pointer (some ⟨b,off,none⟩))) (hp:Known C fs (b,o)) (h:Rd C.P T o off v) (k:QW C ops Q rest ((d,v)::e) fs) :
  QW C ops Q (⟨some d,.load T x,t,pos,af,g⟩::rest) e fs:=QW.vk hd hg (.load hx h) (by simpa using hp) k
end
end Go.Proofs.YtdeggbkbblfpoaaGreatDoor.SL
namespace Go.Proofs.YtdeggbkbblfpoaaGreatDoor.SL
set_option linter.unusedVariables false
set_option linter.unusedSimpArgs false
open Go Go.RowKit

end Go.Proofs.YtdeggbkbblfpoaaGreatDoor.SL
namespace Go.Proofs.YtdeggbkbblfpoaaGreatDoor.SL
set_option linter.unusedVariables false
set_option linter.unusedSimpArgs false
open Go Go.RowKit
section
variable {C : Cu} {ops : Array Oper} {k : Nat}
end
section dw
variable {C : Cu} {ops : Array Oper} {Q : Post} {tl rest : List Oper} {e : Env} {ts : Ts} {μ : Mu} {k d : Nat} {op : Op} {t : TypeId} {pos : String} {af : Array Edge} {g : Option (Nat × Bool)}
end dw
end Go.Proofs.YtdeggbkbblfpoaaGreatDoor.SL
namespace Go.Proofs.YtdeggbkbblfpoaaGreatDoor.SL
set_option linter.unusedVariables false
set_option linter.unusedSimpArgs false
open Go Go.RowKit
section
variable {C : Cu} {ops : Array Oper} {Q : Post} {rest : List Oper} {e : Env} {fs : Fs} {d : Nat} {t : TypeId} {pos : String} {af : Array Edge}
end
end Go.Proofs.YtdeggbkbblfpoaaGreatDoor.SL
namespace Go.Proofs.YtdeggbkbblfpoaaGreatDoor.SL
set_option linter.unusedVariables false
set_option linter.unusedSimpArgs false
open Go Go.RowKit
section dw
variable {C : Cu} {ops : Array Oper} {Q : Post} {tl rest : List Oper} {e : Env} {ts : Ts} {μ : Mu} {k d : Nat} {t : TypeId} {pos : String} {af : Array Edge} {g : Option (Nat × Bool)}
end dw
end Go.Proofs.YtdeggbkbblfpoaaGreatDoor.SL
namespace Go.Proofs.YtdeggbkbblfpoaaGreatDoor
open Go Go.RowKit SL
instance:AgI Tryz.prog 3 false:=⟨by kernel_rfl⟩
instance:UnI Tryz.prog 3 (.int .i64):=⟨by kernel_rfl⟩
instance:InfoI Tryz.prog 3 1 (.int .i64 0):=⟨by kernel_rfl⟩
instance:BytI Tryz.prog 3 8:=⟨by kernel_rfl⟩
instance:AgI Tryz.prog 4 false:=⟨by kernel_rfl⟩
instance:InfoI Tryz.prog 4 1 (.bool false):=⟨by kernel_rfl⟩
instance:AgI Tryz.prog 5 false:=⟨by kernel_rfl⟩
instance:UnI Tryz.prog 5 (.int .u8):=⟨by kernel_rfl⟩
instance:InfoI Tryz.prog 5 1 (.int .u8 0):=⟨by kernel_rfl⟩
instance:BytI Tryz.prog 5 1:=⟨by kernel_rfl⟩
instance:UnI Tryz.prog 9 (.string):=⟨by kernel_rfl⟩
instance:AgI Tryz.prog 22 false:=⟨by kernel_rfl⟩
instance:UnI Tryz.prog 22 (.slice 5):=⟨by kernel_rfl⟩
instance:InfoI Tryz.prog 22 1 (.slice none 0 0):=⟨by kernel_rfl⟩
instance:AgI Tryz.prog 23 false:=⟨by kernel_rfl⟩
instance:UnI Tryz.prog 23 (.slice 29):=⟨by kernel_rfl⟩
instance:InfoI Tryz.prog 23 1 (.slice none 0 0):=⟨by kernel_rfl⟩
instance:AgI Tryz.prog 25 true:=⟨by kernel_rfl⟩
instance:InfoI Tryz.prog 25 2 (.agg #[.slice none 0 0,.slice none 0 0]):=⟨by kernel_rfl⟩
instance:StrI Tryz.prog 25 [(0,1),(1,1)]:=⟨by kernel_rfl⟩
instance:FldI Tryz.prog 25 0 0 23:=.mk' (by kernel_rfl)
instance:FldI Tryz.prog 25 1 1 22:=.mk' (by kernel_rfl)
instance:AgI Tryz.prog 26 false:=⟨by kernel_rfl⟩
instance:UnI Tryz.prog 26 (.int .u64):=⟨by kernel_rfl⟩
instance:InfoI Tryz.prog 26 1 (.int .u64 0):=⟨by kernel_rfl⟩
instance:AgI Tryz.prog 27 false:=⟨by kernel_rfl⟩
instance:InfoI Tryz.prog 27 1 (.int .u64 0):=⟨by kernel_rfl⟩
instance:AgI Tryz.prog 29 true:=⟨by kernel_rfl⟩
instance:UnI Tryz.prog 29 (.array 4 26):=⟨by kernel_rfl⟩
instance:InfoI Tryz.prog 29 4 (.agg #[.int .u64 0,.int .u64 0,.int .u64 0,.int .u64 0]):=⟨by kernel_rfl⟩
instance:BytI Tryz.prog 29 32:=⟨by kernel_rfl⟩
instance:EqI Tryz.prog 29 4 .u64:=.mk' (by kernel_rfl)
instance:AgI Tryz.prog 31 true:=⟨by kernel_rfl⟩
instance:InfoI Tryz.prog 31 14 (.agg #[.slice none 0 0,.int .i64 0,.slice none 0 0,.slice none 0 0,.int .u64 0,.int .u64 0,.int .u64 0,.int .u64 0,.int .u64 0,.int .u64 0,.int .u64 0,.slice none 0 0,.slice none 0 0,.bool false]):=⟨by kernel_rfl⟩
instance:StrI Tryz.prog 31 [(0,1),(1,1),(2,2),(4,1),(5,1),(6,1),(7,4),(11,1),(12,1),(13,1)]:=⟨by kernel_rfl⟩
instance:FldI Tryz.prog 31 0 0 22:=.mk' (by kernel_rfl)
instance:FldI Tryz.prog 31 1 1 3:=.mk' (by kernel_rfl)
instance:FldI Tryz.prog 31 2 2 25:=.mk' (by kernel_rfl)
instance:FldI Tryz.prog 31 3 4 26:=.mk' (by kernel_rfl)
instance:FldI Tryz.prog 31 4 5 27:=.mk' (by kernel_rfl)
instance:FldI Tryz.prog 31 5 6 27:=.mk' (by kernel_rfl)
instance:FldI Tryz.prog 31 6 7 29:=.mk' (by kernel_rfl)
instance:FldI Tryz.prog 31 7 11 22:=.mk' (by kernel_rfl)
instance:FldI Tryz.prog 31 8 12 22:=.mk' (by kernel_rfl)
instance:FldI Tryz.prog 31 9 13 4:=.mk' (by kernel_rfl)
instance:AgI Tryz.prog 33 true:=⟨by kernel_rfl⟩
instance:InfoI Tryz.prog 33 4 (.agg #[.int .u64 0,.int .u64 0,.int .u64 0,.int .u64 0]):=⟨by kernel_rfl⟩
instance:StrI Tryz.prog 33 [(0,1),(1,1),(2,1),(3,1)]:=⟨by kernel_rfl⟩
instance:FldI Tryz.prog 33 0 0 27:=.mk' (by kernel_rfl)
instance:FldI Tryz.prog 33 1 1 26:=.mk' (by kernel_rfl)
instance:FldI Tryz.prog 33 2 2 26:=.mk' (by kernel_rfl)
instance:FldI Tryz.prog 33 3 3 26:=.mk' (by kernel_rfl)
instance:AgI Tryz.prog 37 true:=⟨by kernel_rfl⟩
instance:InfoI Tryz.prog 37 4 (.agg #[.int .i64 0,.int .u8 0,.slice none 0 0,.slice none 0 0]):=⟨by kernel_rfl⟩
instance:StrI Tryz.prog 37 [(0,1),(1,1),(2,1),(3,1)]:=⟨by kernel_rfl⟩
instance:FldI Tryz.prog 37 0 0 3:=.mk' (by kernel_rfl)
instance:FldI Tryz.prog 37 1 1 5:=.mk' (by kernel_rfl)
instance:FldI Tryz.prog 37 2 2 23:=.mk' (by kernel_rfl)
instance:InfoI Tryz.prog 53 1 (.nilFunc):=⟨by kernel_rfl⟩
instance:UnI Tryz.prog 54 (.map 5 29):=⟨by kernel_rfl⟩
instance:UnI Tryz.prog 71 (.int .u64):=⟨by kernel_rfl⟩
instance:AgI Tryz.prog 74 false:=⟨by kernel_rfl⟩
instance:InfoI Tryz.prog 74 1 (.pointer none):=⟨by kernel_rfl⟩
instance:InfoI Tryz.prog 78 23 (.agg #[.slice none 0 0,.int .i64 0,.slice none 0 0,.slice none 0 0,.int .u64 0,.int .u64 0,.int .u64 0,.int .u64 0,.int .u64 0,.int .u64 0,.int .u64 0,.slice none 0 0,.slice none 0 0,.bool false,.int .u64 0,.int .u64 0,.int .u64 0,.int .u64 0,.slice none 0 0,.int .i64 0,.int .u8 0,.slice none 0 0,.slice none 0 0]):=⟨by kernel_rfl⟩
instance:StrI Tryz.prog 78 [(0,14),(14,4),(18,1),(19,4)]:=⟨by kernel_rfl⟩
instance:FldI Tryz.prog 78 0 0 31:=.mk' (by kernel_rfl)
instance:FldI Tryz.prog 78 1 14 33:=.mk' (by kernel_rfl)
instance:FldI Tryz.prog 78 2 18 23:=.mk' (by kernel_rfl)
instance:FldI Tryz.prog 78 3 19 37:=.mk' (by kernel_rfl)
instance:AgI Tryz.prog 86 true:=⟨by kernel_rfl⟩
instance:InfoI Tryz.prog 86 5 (.agg #[.int .u8 0,.string ⟨#[]⟩,.int .i64 0,.int .i64 0,.int .i64 0]):=⟨by kernel_rfl⟩
instance:StrI Tryz.prog 86 [(0,1),(1,1),(2,1),(3,1),(4,1)]:=⟨by kernel_rfl⟩
instance:FldI Tryz.prog 86 0 0 5:=.mk' (by kernel_rfl)
instance:FldI Tryz.prog 86 2 2 3:=.mk' (by kernel_rfl)
instance:FldI Tryz.prog 86 3 3 3:=.mk' (by kernel_rfl)
instance:FldI Tryz.prog 86 4 4 3:=.mk' (by kernel_rfl)
instance:UnI Tryz.prog 103 (.array 8 26):=⟨by kernel_rfl⟩
instance:InfoI Tryz.prog 103 8 (.agg #[.int .u64 0,.int .u64 0,.int .u64 0,.int .u64 0,.int .u64 0,.int .u64 0,.int .u64 0,.int .u64 0]):=⟨by kernel_rfl⟩
instance:UnI Tryz.prog 106 (.slice 26):=⟨by kernel_rfl⟩
instance:AgI Tryz.prog 116 false:=⟨by kernel_rfl⟩
instance:InfoI Tryz.prog 116 1 (.nilFunc):=⟨by kernel_rfl⟩
instance:InfoI Tryz.prog 126 0 (.agg #[]):=⟨by kernel_rfl⟩
instance:StrI Tryz.prog 126 []:=⟨by kernel_rfl⟩
instance:UnI Tryz.prog 134 (.map 5 53):=⟨by kernel_rfl⟩
instance:InfoI Tryz.prog 136 1 (.nilFunc):=⟨by kernel_rfl⟩
instance:UnI Tryz.prog 138 (.map 5 136):=⟨by kernel_rfl⟩
instance:UnI Tryz.prog 142 (.map 5 116):=⟨by kernel_rfl⟩
instance:UnI Tryz.prog 148 (.slice 86):=⟨by kernel_rfl⟩
instance:UnI Tryz.prog 165 (.map 5 26):=⟨by kernel_rfl⟩
instance:AgI Tryz.prog 176 false:=⟨by kernel_rfl⟩
instance:UnI Tryz.prog 176 (.slice 3):=⟨by kernel_rfl⟩
instance:InfoI Tryz.prog 176 1 (.slice none 0 0):=⟨by kernel_rfl⟩
instance:UnI Tryz.prog 182 (.array 50 86):=⟨by kernel_rfl⟩
instance:InfoI Tryz.prog 182 250 (.agg #[.int .u8 0,.string ⟨#[]⟩,.int .i64 0,.int .i64 0,.int .i64 0,.int .u8 0,.string ⟨#[]⟩,.int .i64 0,.int .i64 0,.int .i64 0,.int .u8 0,.string ⟨#[]⟩,.int .i64 0,.int .i64 0,.int .i64 0,.int .u8 0,.string ⟨#[]⟩,.int .i64 0,.int .i64 0,.int .i64 0,.int .u8 0,.string ⟨#[]⟩,.int .i64 0,.int .i64 0,.int .i64 0,.int .u8 0,.string ⟨#[]⟩,.int .i64 0,.int .i64 0,.int .i64 0,.int .u8 0,.string ⟨#[]⟩,.int .i64 0,.int .i64 0,.int .i64 0,.int .u8 0,.string ⟨#[]⟩,.int .i64 0,.int .i64 0,.int .i64 0,.int .u8 0,.string ⟨#[]⟩,.int .i64 0,.int .i64 0,.int .i64 0,.int .u8 0,.string ⟨#[]⟩,.int .i64 0,.int .i64 0,.int .i64 0,.int .u8 0,.string ⟨#[]⟩,.int .i64 0,.int .i64 0,.int .i64 0,.int .u8 0,.string ⟨#[]⟩,.int .i64 0,.int .i64 0,.int .i64 0,.int .u8 0,.string ⟨#[]⟩,.int .i64 0,.int .i64 0,.int .i64 0,.int .u8 0,.string ⟨#[]⟩,.int .i64 0,.int .i64 0,.int .i64 0,.int .u8 0,.string ⟨#[]⟩,.int .i64 0,.int .i64 0,.int .i64 0,.int .u8 0,.string ⟨#[]⟩,.int .i64 0,.int .i64 0,.int .i64 0,.int .u8 0,.string ⟨#[]⟩,.int .i64 0,.int .i64 0,.int .i64 0,.int .u8 0,.string ⟨#[]⟩,.int .i64 0,.int .i64 0,.int .i64 0,.int .u8 0,.string ⟨#[]⟩,.int .i64 0,.int .i64 0,.int .i64 0,.int .u8 0,.string ⟨#[]⟩,.int .i64 0,.int .i64 0,.int .i64 0,.int .u8 0,.string ⟨#[]⟩,.int .i64 0,.int .i64 0,.int .i64 0,.int .u8 0,.string ⟨#[]⟩,.int .i64 0,.int .i64 0,.int .i64 0,.int .u8 0,.string ⟨#[]⟩,.int .i64 0,.int .i64 0,.int .i64 0,.int .u8 0,.string ⟨#[]⟩,.int .i64 0,.int .i64 0,.int .i64 0,.int .u8 0,.string ⟨#[]⟩,.int .i64 0,.int .i64 0,.int .i64 0,.int .u8 0,.string ⟨#[]⟩,.int .i64 0,.int .i64 0,.int .i64 0,.int .u8 0,.string ⟨#[]⟩,.int .i64 0,.int .i64 0,.int .i64 0,.int .u8 0,.string ⟨#[]⟩,.int .i64 0,.int .i64 0,.int .i64 0,.int .u8 0,.string ⟨#[]⟩,.int .i64 0,.int .i64 0,.int .i64 0,.int .u8 0,.string ⟨#[]⟩,.int .i64 0,.int .i64 0,.int .i64 0,.int .u8 0,.string ⟨#[]⟩,.int .i64 0,.int .i64 0,.int .i64 0,.int .u8 0,.string ⟨#[]⟩,.int .i64 0,.int .i64 0,.int .i64 0,.int .u8 0,.string ⟨#[]⟩,.int .i64 0,.int .i64 0,.int .i64 0,.int .u8 0,.string ⟨#[]⟩,.int .i64 0,.int .i64 0,.int .i64 0,.int .u8 0,.string ⟨#[]⟩,.int .i64 0,.int .i64 0,.int .i64 0,.int .u8 0,.string ⟨#[]⟩,.int .i64 0,.int .i64 0,.int .i64 0,.int .u8 0,.string ⟨#[]⟩,.int .i64 0,.int .i64 0,.int .i64 0,.int .u8 0,.string ⟨#[]⟩,.int .i64 0,.int .i64 0,.int .i64 0,.int .u8 0,.string ⟨#[]⟩,.int .i64 0,.int .i64 0,.int .i64 0,.int .u8 0,.string ⟨#[]⟩,.int .i64 0,.int .i64 0,.int .i64 0,.int .u8 0,.string ⟨#[]⟩,.int .i64 0,.int .i64 0,.int .i64 0,.int .u8 0,.string ⟨#[]⟩,.int .i64 0,.int .i64 0,.int .i64 0,.int .u8 0,.string ⟨#[]⟩,.int .i64 0,.int .i64 0,.int .i64 0,.int .u8 0,.string ⟨#[]⟩,.int .i64 0,.int .i64 0,.int .i64 0,.int .u8 0,.string ⟨#[]⟩,.int .i64 0,.int .i64 0,.int .i64 0,.int .u8 0,.string ⟨#[]⟩,.int .i64 0,.int .i64 0,.int .i64 0,.int .u8 0,.string ⟨#[]⟩,.int .i64 0,.int .i64 0,.int .i64 0,.int .u8 0,.string ⟨#[]⟩,.int .i64 0,.int .i64 0,.int .i64 0,.int .u8 0,.string ⟨#[]⟩,.int .i64 0,.int .i64 0,.int .i64 0,.int .u8 0,.string ⟨#[]⟩,.int .i64 0,.int .i64 0,.int .i64 0]):=⟨by kernel_rfl⟩
instance:AgI Tryz.prog 196 true:=⟨by kernel_rfl⟩
instance:UnI Tryz.prog 196 (.array 32 5):=⟨by kernel_rfl⟩
instance:InfoI Tryz.prog 196 32 (.agg #[.int .u8 0,.int .u8 0,.int .u8 0,.int .u8 0,.int .u8 0,.int .u8 0,.int .u8 0,.int .u8 0,.int .u8 0,.int .u8 0,.int .u8 0,.int .u8 0,.int .u8 0,.int .u8 0,.int .u8 0,.int .u8 0,.int .u8 0,.int .u8 0,.int .u8 0,.int .u8 0,.int .u8 0,.int .u8 0,.int .u8 0,.int .u8 0,.int .u8 0,.int .u8 0,.int .u8 0,.int .u8 0,.int .u8 0,.int .u8 0,.int .u8 0,.int .u8 0]):=⟨by kernel_rfl⟩
instance:AgI Tryz.prog 208 true:=⟨by kernel_rfl⟩
instance:UnI Tryz.prog 208 (.array 25 26):=⟨by kernel_rfl⟩
instance:InfoI Tryz.prog 208 25 (.agg #[.int .u64 0,.int .u64 0,.int .u64 0,.int .u64 0,.int .u64 0,.int .u64 0,.int .u64 0,.int .u64 0,.int .u64 0,.int .u64 0,.int .u64 0,.int .u64 0,.int .u64 0,.int .u64 0,.int .u64 0,.int .u64 0,.int .u64 0,.int .u64 0,.int .u64 0,.int .u64 0,.int .u64 0,.int .u64 0,.int .u64 0,.int .u64 0,.int .u64 0]):=⟨by kernel_rfl⟩
instance:AgI Tryz.prog 222 true:=⟨by kernel_rfl⟩
instance:UnI Tryz.prog 222 (.array 24 26):=⟨by kernel_rfl⟩
instance:InfoI Tryz.prog 222 24 (.agg #[.int .u64 0,.int .u64 0,.int .u64 0,.int .u64 0,.int .u64 0,.int .u64 0,.int .u64 0,.int .u64 0,.int .u64 0,.int .u64 0,.int .u64 0,.int .u64 0,.int .u64 0,.int .u64 0,.int .u64 0,.int .u64 0,.int .u64 0,.int .u64 0,.int .u64 0,.int .u64 0,.int .u64 0,.int .u64 0,.int .u64 0,.int .u64 0]):=⟨by kernel_rfl⟩
instance:UnI Tryz.prog 231 (.array 5 26):=⟨by kernel_rfl⟩
instance:InfoI Tryz.prog 231 5 (.agg #[.int .u64 0,.int .u64 0,.int .u64 0,.int .u64 0,.int .u64 0]):=⟨by kernel_rfl⟩
instance:UnI Tryz.prog 238 (.array 25 3):=⟨by kernel_rfl⟩
instance:FnI Tryz.prog 8:=.mk' Tryz.func8 (by kernel_rfl) (by kernel_rfl)
instance:FnI Tryz.prog 10:=.mk' Tryz.func10 (by kernel_rfl) (by kernel_rfl)
instance:FnI Tryz.prog 16:=.mk' Tryz.func16 (by kernel_rfl) (by kernel_rfl)
instance:FnI Tryz.prog 17:=.mk' Tryz.func17 (by kernel_rfl) (by kernel_rfl)
instance:FnI Tryz.prog 18:=.mk' Tryz.func18 (by kernel_rfl) (by kernel_rfl)
instance:FnI Tryz.prog 19:=.mk' Tryz.func19 (by kernel_rfl) (by kernel_rfl)
instance:FnI Tryz.prog 20:=.mk' Tryz.func20 (by kernel_rfl) (by kernel_rfl)
instance:FnI Tryz.prog 21:=.mk' Tryz.func21 (by kernel_rfl) (by kernel_rfl)
instance:FnI Tryz.prog 22:=.mk' Tryz.func22 (by kernel_rfl) (by kernel_rfl)
instance:FnI Tryz.prog 23:=.mk' Tryz.func23 (by kernel_rfl) (by kernel_rfl)
instance:FnI Tryz.prog 24:=.mk' Tryz.func24 (by kernel_rfl) (by kernel_rfl)
instance:FnI Tryz.prog 25:=.mk' Tryz.func25 (by kernel_rfl) (by kernel_rfl)
instance:FnI Tryz.prog 26:=.mk' Tryz.func26 (by kernel_rfl) (by kernel_rfl)
instance:FnI Tryz.prog 27:=.mk' Tryz.func27 (by kernel_rfl) (by kernel_rfl)
instance:FnI Tryz.prog 28:=.mk' Tryz.func28 (by kernel_rfl) (by kernel_rfl)
instance:FnI Tryz.prog 34:=.mk' Tryz.func34 (by kernel_rfl) (by kernel_rfl)
instance:FnI Tryz.prog 40:=.mk' Tryz.func40 (by kernel_rfl) (by kernel_rfl)
instance:FnI Tryz.prog 41:=.mk' Tryz.func41 (by kernel_rfl) (by kernel_rfl)
instance:FnI Tryz.prog 42:=.mk' Tryz.func42 (by kernel_rfl) (by kernel_rfl)
instance:FnI Tryz.prog 59:=.mk' Tryz.func59 (by kernel_rfl) (by kernel_rfl)
instance:FnI Tryz.prog 60:=.mk' Tryz.func60 (by kernel_rfl) (by kernel_rfl)
instance:FnI Tryz.prog 63:=.mk' Tryz.func63 (by kernel_rfl) (by kernel_rfl)
instance:FnI Tryz.prog 64:=.mk' Tryz.func64 (by kernel_rfl) (by kernel_rfl)
instance:FnI Tryz.prog 65:=.mk' Tryz.func65 (by kernel_rfl) (by kernel_rfl)
instance:FnI Tryz.prog 66:=.mk' Tryz.func66 (by kernel_rfl) (by kernel_rfl)
instance:FnI Tryz.prog 67:=.mk' Tryz.func67 (by kernel_rfl) (by kernel_rfl)
instance:FnI Tryz.prog 68:=.mk' Tryz.func68 (by kernel_rfl) (by kernel_rfl)
instance:FnI Tryz.prog 69:=.mk' Tryz.func69 (by kernel_rfl) (by kernel_rfl)
instance:FnI Tryz.prog 70:=.mk' Tryz.func70 (by kernel_rfl) (by kernel_rfl)
instance:FnI Tryz.prog 71:=.mk' Tryz.func71 (by kernel_rfl) (by kernel_rfl)
instance:FnI Tryz.prog 72:=.mk' Tryz.func72 (by kernel_rfl) (by kernel_rfl)
instance:FnI Tryz.prog 73:=.mk' Tryz.func73 (by kernel_rfl) (by kernel_rfl)
instance:FnI Tryz.prog 74:=.mk' Tryz.func74 (by kernel_rfl) (by kernel_rfl)
instance:FnI Tryz.prog 77:=.mk' Tryz.func77 (by kernel_rfl) (by kernel_rfl)
instance:FnI Tryz.prog 82:=.mk' Tryz.func82 (by kernel_rfl) (by kernel_rfl)
instance:FnI Tryz.prog 83:=.mk' Tryz.func83 (by kernel_rfl) (by kernel_rfl)
instance:FnI Tryz.prog 84:=.mk' Tryz.func84 (by kernel_rfl) (by kernel_rfl)
instance:FnI Tryz.prog 85:=.mk' Tryz.func85 (by kernel_rfl) (by kernel_rfl)
instance:FnI Tryz.prog 89:=.mk' Tryz.func89 (by kernel_rfl) (by kernel_rfl)
instance:FnI Tryz.prog 90:=.mk' Tryz.func90 (by kernel_rfl) (by kernel_rfl)
instance:FnI Tryz.prog 91:=.mk' Tryz.func91 (by kernel_rfl) (by kernel_rfl)
instance:FnI Tryz.prog 92:=.mk' Tryz.func92 (by kernel_rfl) (by kernel_rfl)
instance:FnI Tryz.prog 93:=.mk' Tryz.func93 (by kernel_rfl) (by kernel_rfl)
instance:FnI Tryz.prog 94:=.mk' Tryz.func94 (by kernel_rfl) (by kernel_rfl)
instance:FnI Tryz.prog 95:=.mk' Tryz.func95 (by kernel_rfl) (by kernel_rfl)
instance:FnI Tryz.prog 96:=.mk' Tryz.func96 (by kernel_rfl) (by kernel_rfl)
instance:FnI Tryz.prog 97:=.mk' Tryz.func97 (by kernel_rfl) (by kernel_rfl)
instance:FnI Tryz.prog 98:=.mk' Tryz.func98 (by kernel_rfl) (by kernel_rfl)
instance:FnI Tryz.prog 99:=.mk' Tryz.func99 (by kernel_rfl) (by kernel_rfl)
instance:FnI Tryz.prog 115:=.mk' Tryz.func115 (by kernel_rfl) (by kernel_rfl)
instance:FnI Tryz.prog 116:=.mk' Tryz.func116 (by kernel_rfl) (by kernel_rfl)
instance:FnI Tryz.prog 117:=.mk' Tryz.func117 (by kernel_rfl) (by kernel_rfl)
instance:FnI Tryz.prog 118:=.mk' Tryz.func118 (by kernel_rfl) (by kernel_rfl)
instance:FnI Tryz.prog 119:=.mk' Tryz.func119 (by kernel_rfl) (by kernel_rfl)
instance:FnI Tryz.prog 120:=.mk' Tryz.func120 (by kernel_rfl) (by kernel_rfl)
instance:FnI Tryz.prog 121:=.mk' Tryz.func121 (by kernel_rfl) (by kernel_rfl)
instance:FnI Tryz.prog 122:=.mk' Tryz.func122 (by kernel_rfl) (by kernel_rfl)
instance:FnI Tryz.prog 126:=.mk' Tryz.func126 (by kernel_rfl) (by kernel_rfl)
instance:FnI Tryz.prog 127:=.mk' Tryz.func127 (by kernel_rfl) (by kernel_rfl)
instance:FnI Tryz.prog 128:=.mk' Tryz.func128 (by kernel_rfl) (by kernel_rfl)
instance:FnI Tryz.prog 129:=.mk' Tryz.func129 (by kernel_rfl) (by kernel_rfl)
instance:FnI Tryz.prog 130:=.mk' Tryz.func130 (by kernel_rfl) (by kernel_rfl)
instance:FnI Tryz.prog 131:=.mk' Tryz.func131 (by kernel_rfl) (by kernel_rfl)
instance:FnI Tryz.prog 132:=.mk' Tryz.func132 (by kernel_rfl) (by kernel_rfl)
instance:FnI Tryz.prog 133:=.mk' Tryz.func133 (by kernel_rfl) (by kernel_rfl)
instance:FnI Tryz.prog 134:=.mk' Tryz.func134 (by kernel_rfl) (by kernel_rfl)
instance:FnI Tryz.prog 135:=.mk' Tryz.func135 (by kernel_rfl) (by kernel_rfl)
instance:FnI Tryz.prog 136:=.mk' Tryz.func136 (by kernel_rfl) (by kernel_rfl)
instance:FnI Tryz.prog 137:=.mk' Tryz.func137 (by kernel_rfl) (by kernel_rfl)
instance:FnI Tryz.prog 138:=.mk' Tryz.func138 (by kernel_rfl) (by kernel_rfl)
instance:FnI Tryz.prog 139:=.mk' Tryz.func139 (by kernel_rfl) (by kernel_rfl)
instance:FnI Tryz.prog 140:=.mk' Tryz.func140 (by kernel_rfl) (by kernel_rfl)
instance:FnI Tryz.prog 141:=.mk' Tryz.func141 (by kernel_rfl) (by kernel_rfl)
instance:FnI Tryz.prog 142:=.mk' Tryz.func142 (by kernel_rfl) (by kernel_rfl)
instance:FnI Tryz.prog 143:=.mk' Tryz.func143 (by kernel_rfl) (by kernel_rfl)
instance:FnI Tryz.prog 144:=.mk' Tryz.func144 (by kernel_rfl) (by kernel_rfl)
instance:FnI Tryz.prog 145:=.mk' Tryz.func145 (by kernel_rfl) (by kernel_rfl)
instance:FnI Tryz.prog 146:=.mk' Tryz.func146 (by kernel_rfl) (by kernel_rfl)
instance:FnI Tryz.prog 147:=.mk' Tryz.func147 (by kernel_rfl) (by kernel_rfl)
instance:FnI Tryz.prog 148:=.mk' Tryz.func148 (by kernel_rfl) (by kernel_rfl)
instance:FnI Tryz.prog 149:=.mk' Tryz.func149 (by kernel_rfl) (by kernel_rfl)
instance:FnI Tryz.prog 150:=.mk' Tryz.func150 (by kernel_rfl) (by kernel_rfl)
instance:FnI Tryz.prog 151:=.mk' Tryz.func151 (by kernel_rfl) (by kernel_rfl)
instance:FnI Tryz.prog 152:=.mk' Tryz.func152 (by kernel_rfl) (by kernel_rfl)
instance:FnI Tryz.prog 153:=.mk' Tryz.func153 (by kernel_rfl) (by kernel_rfl)
instance:FnI Tryz.prog 154:=.mk' Tryz.func154 (by kernel_rfl) (by kernel_rfl)
instance:FnI Tryz.prog 155:=.mk' Tryz.func155 (by kernel_rfl) (by kernel_rfl)
instance:FnI Tryz.prog 156:=.mk' Tryz.func156 (by kernel_rfl) (by kernel_rfl)
instance:FnI Tryz.prog 157:=.mk' Tryz.func157 (by kernel_rfl) (by kernel_rfl)
instance:FnI Tryz.prog 158:=.mk' Tryz.func158 (by kernel_rfl) (by kernel_rfl)
instance:FnI Tryz.prog 159:=.mk' Tryz.func159 (by kernel_rfl) (by kernel_rfl)
instance:FnI Tryz.prog 160:=.mk' Tryz.func160 (by kernel_rfl) (by kernel_rfl)
instance:FnI Tryz.prog 161:=.mk' Tryz.func161 (by kernel_rfl) (by kernel_rfl)
instance:FnI Tryz.prog 162:=.mk' Tryz.func162 (by kernel_rfl) (by kernel_rfl)
instance:FnI Tryz.prog 163:=.mk' Tryz.func163 (by kernel_rfl) (by kernel_rfl)
instance:FnI Tryz.prog 164:=.mk' Tryz.func164 (by kernel_rfl) (by kernel_rfl)
instance:FnI Tryz.prog 165:=.mk' Tryz.func165 (by kernel_rfl) (by kernel_rfl)
instance:FnI Tryz.prog 166:=.mk' Tryz.func166 (by kernel_rfl) (by kernel_rfl)
instance:FnI Tryz.prog 167:=.mk' Tryz.func167 (by kernel_rfl) (by kernel_rfl)
instance:FnI Tryz.prog 168:=.mk' Tryz.func168 (by kernel_rfl) (by kernel_rfl)
instance:FnI Tryz.prog 169:=.mk' Tryz.func169 (by kernel_rfl) (by kernel_rfl)
instance:FnI Tryz.prog 170:=.mk' Tryz.func170 (by kernel_rfl) (by kernel_rfl)
instance:FnI Tryz.prog 171:=.mk' Tryz.func171 (by kernel_rfl) (by kernel_rfl)
instance:FnI Tryz.prog 172:=.mk' Tryz.func172 (by kernel_rfl) (by kernel_rfl)
instance:FnI Tryz.prog 173:=.mk' Tryz.func173 (by kernel_rfl) (by kernel_rfl)
instance:FnI Tryz.prog 174:=.mk' Tryz.func174 (by kernel_rfl) (by kernel_rfl)
instance:FnI Tryz.prog 175:=.mk' Tryz.func175 (by kernel_rfl) (by kernel_rfl)
instance:FnI Tryz.prog 194:=.mk' Tryz.func194 (by kernel_rfl) (by kernel_rfl)
instance:FnI Tryz.prog 195:=.mk' Tryz.func195 (by kernel_rfl) (by kernel_rfl)
instance:FnI Tryz.prog 198:=.mk' Tryz.func198 (by kernel_rfl) (by kernel_rfl)
instance:FnI Tryz.prog 199:=.mk' Tryz.func199 (by kernel_rfl) (by kernel_rfl)
instance:FnI Tryz.prog 200:=.mk' Tryz.func200 (by kernel_rfl) (by kernel_rfl)
instance:FnI Tryz.prog 201:=.mk' Tryz.func201 (by kernel_rfl) (by kernel_rfl)
instance:FnI Tryz.prog 202:=.mk' Tryz.func202 (by kernel_rfl) (by kernel_rfl)
instance:FnI Tryz.prog 203:=.mk' Tryz.func203 (by kernel_rfl) (by kernel_rfl)
instance:FnI Tryz.prog 204:=.mk' Tryz.func204 (by kernel_rfl) (by kernel_rfl)
instance:FnI Tryz.prog 205:=.mk' Tryz.func205 (by kernel_rfl) (by kernel_rfl)
instance:FnI Tryz.prog 206:=.mk' Tryz.func206 (by kernel_rfl) (by kernel_rfl)
instance:FnI Tryz.prog 207:=.mk' Tryz.func207 (by kernel_rfl) (by kernel_rfl)
instance:FnI Tryz.prog 208:=.mk' Tryz.func208 (by kernel_rfl) (by kernel_rfl)
instance:FnI Tryz.prog 209:=.mk' Tryz.func209 (by kernel_rfl) (by kernel_rfl)
instance:FnI Tryz.prog 210:=.mk' Tryz.func210 (by kernel_rfl) (by kernel_rfl)
instance:FnI Tryz.prog 217:=.mk' Tryz.func217 (by kernel_rfl) (by kernel_rfl)
instance:FnI Tryz.prog 218:=.mk' Tryz.func218 (by kernel_rfl) (by kernel_rfl)
instance:FnI Tryz.prog 219:=.mk' Tryz.func219 (by kernel_rfl) (by kernel_rfl)
instance:FnI Tryz.prog 220:=.mk' Tryz.func220 (by kernel_rfl) (by kernel_rfl)
instance:FnI Tryz.prog 221:=.mk' Tryz.func221 (by kernel_rfl) (by kernel_rfl)
instance:FnI Tryz.prog 222:=.mk' Tryz.func222 (by kernel_rfl) (by kernel_rfl)
instance:FnI Tryz.prog 223:=.mk' Tryz.func223 (by kernel_rfl) (by kernel_rfl)
instance:FnI Tryz.prog 224:=.mk' Tryz.func224 (by kernel_rfl) (by kernel_rfl)
instance:FnI Tryz.prog 225:=.mk' Tryz.func225 (by kernel_rfl) (by kernel_rfl)
instance:FnI Tryz.prog 226:=.mk' Tryz.func226 (by kernel_rfl) (by kernel_rfl)
instance:FnI Tryz.prog 227:=.mk' Tryz.func227 (by kernel_rfl) (by kernel_rfl)
instance:FnI Tryz.prog 230:=.mk' Tryz.func230 (by kernel_rfl) (by kernel_rfl)
instance:FnI Tryz.prog 231:=.mk' Tryz.func231 (by kernel_rfl) (by kernel_rfl)
instance:FnI Tryz.prog 232:=.mk' Tryz.func232 (by kernel_rfl) (by kernel_rfl)
instance:FnI Tryz.prog 233:=.mk' Tryz.func233 (by kernel_rfl) (by kernel_rfl)
instance:FnI Tryz.prog 234:=.mk' Tryz.func234 (by kernel_rfl) (by kernel_rfl)
instance:FnI Tryz.prog 235:=.mk' Tryz.func235 (by kernel_rfl) (by kernel_rfl)
instance:FnI Tryz.prog 236:=.mk' Tryz.func236 (by kernel_rfl) (by kernel_rfl)
instance:FnI Tryz.prog 238:=.mk' Tryz.func238 (by kernel_rfl) (by kernel_rfl)
instance:FnI Tryz.prog 242:=.mk' Tryz.func242 (by kernel_rfl) (by kernel_rfl)
instance:FnI Tryz.prog 243:=.mk' Tryz.func243 (by kernel_rfl) (by kernel_rfl)
instance:FnI Tryz.prog 252:=.mk' Tryz.func252 (by kernel_rfl) (by kernel_rfl)
instance:FnI Tryz.prog 253:=.mk' Tryz.func253 (by kernel_rfl) (by kernel_rfl)
instance:FnI Tryz.prog 257:=.mk' Tryz.func257 (by kernel_rfl) (by kernel_rfl)
instance:FnI Tryz.prog 258:=.mk' Tryz.func258 (by kernel_rfl) (by kernel_rfl)
instance:FnI Tryz.prog 259:=.mk' Tryz.func259 (by kernel_rfl) (by kernel_rfl)
instance:FnI Tryz.prog 260:=.mk' Tryz.func260 (by kernel_rfl) (by kernel_rfl)
instance:FnI Tryz.prog 261:=.mk' Tryz.func261 (by kernel_rfl) (by kernel_rfl)
theorem mixed:Tryz.prog.follows .mixedOrders=true:=by kernel_rfl
end Go.Proofs.YtdeggbkbblfpoaaGreatDoor
namespace Go.Proofs.YtdeggbkbblfpoaaGreatDoor
open Go Go.RowKit SL
set_option maxRecDepth 8000
set_option maxHeartbeats 4000000
set_option linter.unusedSimpArgs false
set_option linter.unusedVariables false
attribute [local irreducible] SL.CW SL.LW SL.DW Calls SL.Ret SL.RetG SL.beginQ SL.roundQ SL.rangeQ SL.inQ SL.RW SL.AnyW SL.thenQ SL.thenC SL.thenW SL.blkQ SL.finQ SL.ValP SL.NewP SL.SetP SL.CallP SL.Rd SL.Wr SL.Known
section
theorem outDI {C:Cu} {fn:Func} {dd:Deferred} {R:Ending→World→Prop} {x:Exit} {ds:List Deferred} {e:Env} {fs:Fs} (hx:x=.ret∨x=.normal) (hd:ds=[dd]) (h:∀ a w,Sat (C.at [dd]) e fs a w→LeavesInM (FR none) 0 C.P fn a.tmps R [dd] .returning w):∃ dd,outD C fn dd R x ds e fs:=by
 rcases hx with rfl|rfl
 ·exact ⟨_,hd,h⟩
 ·exact ⟨_,hd,h⟩
theorem outDP {C:Cu} {fn:Func} {dd:Deferred} {R:Ending→World→Prop} {ch:List PanicEntry} {ds:List Deferred} {e:Env} {fs:Fs} (hd:ds=[dd]) (h:∀ a w,Sat (C.at [dd]) e fs a w→LeavesInM (FR none) 0 C.P fn a.tmps R [dd] (.panicking ch) w):∃ dd,outD C fn dd R (.panic ch) ds e fs:=⟨_,hd,h⟩
theorem leaves_end {C:Cu} {fn:Func} {e:Env} {fs:Fs} {ds:List Deferred} {a:Act} {w:World} {R:Ending→World→Prop} {rs:List ResultVar} {vs:List Value} {v:Value} (hr:fn.results.toList=rs) (ha:EnvOk C.N ds e a) (hs:St C.w0 C.S fs w) (h:ResL C e fs rs vs) (hv:tup vs=v) (hR:R (.returned v) w) :
  LeavesIn (FR none) 0 C.P fn a.tmps R [] .returning w:=⟨_,ResL.runS (by rw [hr];exact h) ha hs,by rw [hv];exact hR⟩
attribute [local irreducible] SL.inP SL.inD SL.outD
abbrev failV:Value:=.iface 126 (.agg #[])
abbrev failC:List PanicEntry:=[{ v:=failV,recovered:=false }]
def NeedK (fs:Fs):Out:=fun x fs'=>x=.panicked failC∧fs'=fs
theorem need_true (w:World):Calls Tryz.prog 92 #[.bool true] w (Ret w (.tuple #[])):=by
 refine enter (args:=[_]) _ [] [] Tryz.func92 rfl Tryz.ntmps92 rfl (by simp) .nil ?_
 (refine sRz<|vMz ?_;refine lvz (.notT rfl (by with_reducible rfl)) ?_;refine nNz<|cFz<|zJ ?_)
 (apply finR;exact .inr rfl;rfl;rfl;rfl;exact zF)
 rfl
theorem need_false (w0:World) (S:List Nat) (fs:Fs) (w:World) (hs:St w0 S fs w):Calls Tryz.prog 92 #[.bool false] w (fun x w'=>∃ fs',NeedK fs x fs'∧St w0 S fs' w'):=by
 refine calls_inlineP (args:=[_]) Tryz.func92 rfl Tryz.ntmps92 rfl ?_ hs
 (refine sRz<|vMz ?_;refine lvz (.notF rfl (by with_reducible rfl)) ?_;refine nNz<|cTz<|zL ?_;apply LW.v0;rfl;rfl;apply zW;infer_instance;infer_instance;exact zB;rfl;simp only [fillP,wrCells,Value.cells,qJ,qK,qL,qI,qN,qM,Nat.reduceAdd,qP];rfl;apply LW.v0;rfl;rfl;apply ValP.mkIface;kernel_rfl;rfl;apply LW.panic;rfl)
 exact inPP .nil ⟨rfl,rfl⟩
theorem tries1_idle (w0:World) (S:List Nat) (b:Nat) (x:Bool) (fs:Fs) (w:World) (hs:St w0 S ((b,.cells #[.bool x] 4 (0,0))::fs) w) :
  CallsDIn (FR none) 0 Tryz.prog 90 #[.pointer (some ⟨b,0,none⟩)] .returning w (fun e u' w'=>u'=.returning∧∃ fs',(e=.returned (.tuple #[])∧fs'=(b,.cells #[.bool x] 4 (0,0))::fs)∧St w0 S fs' w'):=by
 refine callsD_cw (args:=[_]) _ Tryz.func90 rfl Tryz.ntmps90 rfl (Rec1.one rfl) ?_ hs
 rw [recV_ret]
 (refine zM<|sRz ?_;apply LW.v0;rfl;rfl;apply ValP.eqNilT (U:=0);kernel_rfl;rfl;refine nNz<|cTz<|zL<|vAz ?_;apply zV;refine blkN ?_)
 exact inDI (.inr rfl) rfl (by (exact zF)) rfl ⟨rfl,rfl⟩
theorem tries1_failed (w0:World) (S:List Nat) (b:Nat) (x:Bool) (fs:Fs) (w:World) (hs:St w0 S ((b,.cells #[.bool x] 4 (0,0))::fs) w) :
  CallsDIn (FR none) 0 Tryz.prog 90 #[.pointer (some ⟨b,0,none⟩)] (.panicking failC) w (fun e u' w'=>u'=.panicking [{ v:=failV,recovered:=true }]∧∃ fs',(e=.returned (.tuple #[])∧∃ b2,fs'=b2::(b,.cells #[.bool false] 4 (0,0))::fs)∧St w0 S fs' w'):=by
 refine callsD_cw (args:=[_]) _ Tryz.func90 rfl Tryz.ntmps90 rfl (Rec1.one rfl) ?_ hs
 rw [recV_pan]
 (refine zM<|sRz ?_;apply LW.v0;rfl;rfl;apply ValP.eqNilF;kernel_rfl;rfl;refine nNz<|cFz<|sRz ?_;apply LW.v0;rfl;rfl;apply ValP.assertHit;kernel_rfl;rfl;refine vEz ?_;refine vEz ?_;refine nNz<|cTz<|sRz ?_;apply zU;rfl;intro _;refine zR rfl rfl .head (.whole rfl rfl rfl)<|nNz<|zL ?_;apply zR;rfl;rfl;apply qD;apply qA;apply Wr.cells;rfl;rfl;simp only [wc,List.size_toArray,List.length_cons,List.length_nil];omega;simp only [fillC,wc,wrCells,Value.cells,qL,qI,qN,qM,Nat.reduceAdd,Nat.reduceMul,qP,Nat.mul_one];rfl;apply zV;refine blkN ?_)
 exact inDI (.inr rfl) rfl (by (exact zF)) rfl ⟨rfl,_,rfl⟩
def TryK (K:Out):Prop:=∀ x fs,K x fs→x=.returned (.tuple #[])∨x=.panicked failC
theorem tries_calls (w0:World) (S:List Nat) (f:FuncId) (cap:Array Value) (K:Out) (hK:TryK K) (hF:FnI Tryz.prog f) (own rest:Fs) (w:World)
  (hc:∀ rest w',St w0 S (own++rest) w'→Calls Tryz.prog f cap w' (fun x w''=>∃ fs',(∃ own',K x own'∧fs'=own'++rest)∧St w0 S fs' w'')) (hs:St w0 S (own++rest) w) :
  Calls Tryz.prog 41 #[.func (.func f) #[] cap] w (fun x w'=>∃ fs',(∃ ok own',x=.returned (.bool ok)∧K (match ok with|true=>.returned (.tuple #[])|false=>.panicked failC) own'∧fs'=own'++rest)∧St w0 S fs' w'):=by
 refine calls_inlineD (args:=[_]) Tryz.func41 rfl Tryz.ntmps41 rfl ?_ hs
 (refine sRz ?_;apply LW.alloc1;rfl;rfl;intro _;refine nSz ?_;apply LW.v0;rfl;rfl;apply ValP.makeFunc;exact ArgsOk.nil;exact .cons rfl .nil)
 rename_i bok
 apply LW.defer
 rfl
 rfl
 (apply zV;refine thenM<|sRz<|vMz ?_)
 refine LW.perm (fs':=own++(bok,.cells #[.bool false] 4 (0,0))::rest) List.perm_middle ?_
 refine LW.callP (K:=fun x fs'=>∃ own',K x own'∧fs'=own'++(bok,.cells #[.bool false] 4 (0,0))::rest) rfl rfl hF (by (exact ArgsOk.nil)) rfl (fun fs ⟨own',h,_⟩=>by rcases hK _ _ h with h|h<;>cases h) (fun w' hst=>by simpa using hc _ w' hst) ?_ ?_
 ·rintro v fs' ⟨own',hKv,rfl⟩
  obtain rfl:v=.tuple #[]:=by
   rcases hK _ _ hKv with h|h
   ·exact Ending.returned.inj h
   ·cases h
  refine LW.perm (fs':=(bok,.cells #[.bool false] 4 (0,0))::(own'++rest)) List.perm_middle.symm ?_
  (refine nSz ?_;apply zR;rfl;rfl;apply qA;apply Wr.cells;rfl;rfl;simp only [wc,List.size_toArray,List.length_cons,List.length_nil];omega;simp only [fillC,wc,wrCells,Value.cells,qL,qI,qN,qM,Nat.reduceAdd,Nat.reduceMul,qP,Nat.mul_one];rfl;refine nNz<|zK ?_)
  refine outDI (.inl rfl) rfl fun a w2 s2=>?_
  refine leaves_clo (K:=fun e fs'=>e=.returned (.tuple #[])∧fs'=(bok,.cells #[.bool true] 4 (0,0))::(own'++rest)) inferInstance (fun h=>by cases h) (tries1_idle w0 S bok true (own'++rest) w2 s2.st) (fun fs h=>by cases h.1) ?_ ?_
  ·rintro v fs' w' ⟨_,rfl⟩ hst
   refine leaves_end (vs:=[.bool true]) (w:=w') rfl s2.env hst ?_ rfl ?_
   ·(apply zD;apply zH;rfl;apply qG;apply zY;exact Rd.one' rfl;exact zF)
   ·refine ⟨own'++rest,⟨true,own',rfl,hKv,rfl⟩,?_⟩
    exact ⟨hst.bel,fun p hp=>hst.own p (qQ _ hp),(List.pairwise_cons.1 hst.nd).2⟩
  ·rintro ch fs' w' ⟨h,_⟩
   cases h
 ·rintro ch fs' ⟨own',hKv,rfl⟩
  obtain rfl:ch=failC:=by
   rcases hK _ _ hKv with h|h
   ·cases h
   ·exact Ending.panicked.inj h
  refine thenP ?_
  refine outDP rfl fun a w2 s2=>?_
  have s3:=s2.st.perm List.perm_middle.symm
  refine leaves_clo (K:=fun e fs'=>e=.returned (.tuple #[])∧∃ b2,fs'=b2::(bok,.cells #[.bool false] 4 (0,0))::(own'++rest)) inferInstance (fun h=>by cases h) (tries1_failed w0 S bok false (own'++rest) w2 s3) (fun fs h=>by cases h.1) ?_ ?_
  ·rintro v fs' w' ⟨_,b2,rfl⟩ hst
   refine leaves_end (vs:=[.bool false]) (w:=w') rfl s2.env hst ?_ rfl ?_
   ·(apply zD;apply zH;rfl;apply qG;apply zX;apply zY;exact Rd.one' rfl;exact zF)
   ·refine ⟨own'++rest,⟨false,own',rfl,hKv,rfl⟩,?_⟩
    exact ⟨hst.bel,fun p hp=>hst.own p (qQ _ (qQ _ hp)),(List.pairwise_cons.1 (List.pairwise_cons.1 hst.nd).2).2⟩
  ·rintro ch fs' w' ⟨h,_⟩
   cases h
end
section
def okSc (n k:Nat):Prop:=n≤64∧k≤1024∧k % 32=0
instance (n k:Nat):Decidable (okSc n k):=by unfold okSc;infer_instance
section rd
variable {P : Program} {T E : TypeId} {fr : Nat × Nat} {s m : Value}
theorem sc_rd0 [AgI P T false]:Rd P T (.cells #[s,m] E fr) 0 s:=Rd.one rfl
theorem sc_rd1 [AgI P T false]:Rd P T (.cells #[s,m] E fr) 1 m:=Rd.one rfl
end rd
theorem scCheck_calls (p q:Option Addr) (n c k d:Nat) (hn1:n≤maxLen) (hk1:k≤maxLen) (w:World):Calls Tryz.prog 84 #[.agg #[.slice p n c,.slice q k d]] w (Ret w (.int .i64 (if okSc n k then 0 else 230))):=by
 obtain ⟨e,he⟩:∃ e:Int,e=if okSc n k then 0 else 230:=⟨_,rfl⟩
 have hp:okSc n k→e=0:=fun h=>by rw [he,if_pos h]
 have hn:¬ okSc n k→e=230:=fun h=>by rw [he,if_neg h]
 rw [← he]
 clear he
 unfold okSc at hp hn
 refine enter (args:=[_]) _ [] [] Tryz.func84 rfl Tryz.ntmps84 rfl (by simp) .nil ?_
 (refine sRz ?_;apply zT;rfl;rfl;intro _;refine vAz<|nNz<|zI<|sRz<|vFz<|ldz rfl .head sc_rd0<|lvz (.lenR rfl inferInstance rfl)<|lvz (.gtr rfl rfl)<|vMz ?_)
 (refine LW.guardDF rfl rfl rfl (fun hsq hsp=>?_) (fun hsq hsp=>?_))
 (refine vFz<|gTaz<|ldz rfl .head sc_rd1<|gTaz<|lvz (.lenR rfl inferInstance rfl)<|gTaz<|lvz (.gtr rfl rfl)<|pFaz<|vMz ?_;refine LW.guardDF rfl rfl rfl (fun hsq hsp=>?_) (fun hsq hsp=>?_);refine vFz<|gTaz<|ldz rfl .head sc_rd1<|gTaz<|lvz (.lenR rfl inferInstance rfl)<|gTaz ?_;refine lvz (.remZL rfl rfl (by decide) (by omega)) ?_;refine gTaz<|lvz (.ne rfl rfl)<|pFaz<|nNz ?_;refine CW.condN rfl (fun hsq hsp=>?_) (fun hsq hsp=>?_);refine sRz<|vAz<|nNz<|zK ?_;refine thenR (finR (.inl rfl) rfl rfl rfl (.cons (.tmp rfl) .nil) ?_);rw [hn (by omega)];rfl;refine zJ<|thenN<|sRz<|vAz<|nNz<|zK ?_;apply finR;exact .inl rfl;rfl;rfl;rfl;apply zD;exact zG rfl;exact zF;rw [hp (by omega)];rfl;(iterate 4 refine gFaz ?_);refine pTaz<|nNz<|cTz<|sRz<|vAz<|nNz<|zK ?_;refine thenR (finR (.inl rfl) rfl rfl rfl (.cons (.tmp rfl) .nil) ?_);rw [hn (by omega)];rfl;(iterate 3 refine gFaz ?_);refine pTaz<|vMz ?_;(iterate 5 refine gFz ?_);refine pTz<|nNz<|cTz<|sRz<|vAz<|nNz<|zK ?_;refine thenR (finR (.inl rfl) rfl rfl rfl (.cons (.tmp rfl) .nil) ?_);rw [hn (by omega)];rfl)
end
theorem And1_calls (m n:Nat) (hm:m < 18446744073709551616) (hn:n < 18446744073709551616) (w:World):Calls Tryz.prog 67 #[.int .u64 (m:Int),.int .u64 (n:Int)] w (Ret w (.int .u64 ((m &&& n:Nat):Int))):=by
 refine enter (args:=[_,_]) _ [] [] Tryz.func67 rfl Tryz.ntmps67 rfl (by simp) .nil ?_
 (refine sRz<|vAz<|nSz<|vMz<|vMz ?_;refine lvz (.andU rfl rfl (by omega) (by omega)) ?_;refine vAz<|nNz<|zK ?_)
 (apply finR;exact .inl rfl;rfl;rfl;rfl;apply zD;exact zG rfl;exact zF)
 rfl
theorem Or1_calls (m n:Nat) (hm:m < 18446744073709551616) (hn:n < 18446744073709551616) (w:World):Calls Tryz.prog 68 #[.int .u64 (m:Int),.int .u64 (n:Int)] w (Ret w (.int .u64 ((m |||n:Nat):Int))):=by
 refine enter (args:=[_,_]) _ [] [] Tryz.func68 rfl Tryz.ntmps68 rfl (by simp) .nil ?_
 (refine sRz<|vAz<|nSz<|vMz<|vMz ?_;refine lvz (.orU rfl rfl (by omega) (by omega)) ?_;refine vAz<|nNz<|zK ?_)
 (apply finR;exact .inl rfl;rfl;rfl;rfl;apply zD;exact zG rfl;exact zF)
 rfl
theorem Xor1_calls (m n:Nat) (hm:m < 18446744073709551616) (hn:n < 18446744073709551616) (w:World):Calls Tryz.prog 69 #[.int .u64 (m:Int),.int .u64 (n:Int)] w (Ret w (.int .u64 ((m ^^^ n:Nat):Int))):=by
 refine enter (args:=[_,_]) _ [] [] Tryz.func69 rfl Tryz.ntmps69 rfl (by simp) .nil ?_
 (refine sRz<|vAz<|nSz<|vMz<|vMz ?_;refine lvz (.xorU rfl rfl (by omega) (by omega)) ?_;refine vAz<|nNz<|zK ?_)
 (apply finR;exact .inl rfl;rfl;rfl;rfl;apply zD;exact zG rfl;exact zF)
 rfl
theorem Not1_calls (m n:Nat) (hm:m < 18446744073709551616) (w:World):Calls Tryz.prog 219 #[.int .u64 (m:Int),.int .u64 (n:Int)] w (Ret w (.int .u64 ((18446744073709551615 - m:Nat):Int))):=by
 refine enter (args:=[_,_]) _ [] [] Tryz.func219 rfl Tryz.ntmps219 rfl (by simp) .nil ?_
 (refine sRz<|vAz<|nSz<|vMz ?_;refine lvz (.notU rfl (by omega)) ?_;refine vAz<|nNz<|zK ?_)
 (apply finR;exact .inl rfl;rfl;rfl;rfl;apply zD;exact zG rfl;exact zF)
 rfl
theorem each_calls (f:FuncId) [FnI Tryz.prog f] (a0 a1 a2 a3 b0 b1 b2 b3 r0 r1 r2 r3:Nat) (w:World)
  (h0:∀ w,Calls Tryz.prog f #[.int .u64 (a0:Int),.int .u64 (b0:Int)] w (Ret w (.int .u64 (r0:Int))))
  (h1:∀ w,Calls Tryz.prog f #[.int .u64 (a1:Int),.int .u64 (b1:Int)] w (Ret w (.int .u64 (r1:Int))))
  (h2:∀ w,Calls Tryz.prog f #[.int .u64 (a2:Int),.int .u64 (b2:Int)] w (Ret w (.int .u64 (r2:Int))))
  (h3:∀ w,Calls Tryz.prog f #[.int .u64 (a3:Int),.int .u64 (b3:Int)] w (Ret w (.int .u64 (r3:Int)))) :
  Calls Tryz.prog 66 #[.agg #[.int .u64 a0,.int .u64 a1,.int .u64 a2,.int .u64 a3],.agg #[.int .u64 b0,.int .u64 b1,.int .u64 b2,.int .u64 b3],.func (.func f) #[] #[]] w (Ret w (.agg #[.int .u64 r0,.int .u64 r1,.int .u64 r2,.int .u64 r3])):=by
 refine enter (args:=[_,_,_]) _ [] [] Tryz.func66 rfl Tryz.ntmps66 rfl (by simp) .nil ?_
 (refine sRz ?_;apply zT;rfl;rfl;intro _;apply zT;rfl;rfl;intro _;apply LW.allocW;rfl;intro _;refine nNz<|zI<|sRz<|vMz<|nNz<|zM ?_)
 apply CW.rounds 5
 (apply RW.step;refine sRz ?_;refine lvz (.lssT rfl rfl (by omega)) ?_;refine nNz<|zI<|cTz<|zJ<|thenN<|zI<|zM<|sRz<|vMz<|vAz<|nNz ?_;apply CW.pre;refine AnyW.any 9 mixed (by decide +kernel) ?_;(try simp only [tsOf_cons,tsOf_nil,tsOf_app]);refine dvz (.move rfl)<|dvz (.move rfl)<|dvz (.move rfl)<|dvz (.indexAddrL rfl rfl rfl) ?_;apply qF;rfl;rfl;rfl;exact zC;rfl;apply zO;apply zO;apply zP;exact zN;exact Rd.one' rfl;refine dvz (.move rfl)<|dvz (.indexAddrL rfl rfl rfl) ?_;apply qF;rfl;rfl;rfl;exact zC;rfl;apply zO;apply zP;exact zN;exact Rd.one' rfl;apply DW.callE;rfl;rfl;rfl;exact zC;rfl;infer_instance;exact .cons rfl (.cons rfl .nil);rfl;exact ReadAll.nil;intro w _ _;exact h0 w;apply DW.nil;simp only [fsOf_cons,fsOf_nil,fsOf_app,fsOf_tsOf,fsOf_new];refine lvz (.indexAddrL rfl rfl rfl) ?_;apply zR;rfl;rfl;apply qD;apply qD;apply qA;apply Wr.cells;rfl;rfl;simp only [wc,List.size_toArray,List.length_cons,List.length_nil];omega;simp only [fillC,wc,wrCells,Value.cells,qL,qI,qN,qM,Nat.reduceAdd,Nat.reduceMul,qP,Nat.mul_one];rfl;apply zV;refine blkN<|thenN<|zL ?_;refine lvz (.addI rfl rfl (by omega) (by omega)) ?_;refine vMz ?_;apply zV;refine thenL ?_)
 (apply RW.step;refine sRz ?_;refine lvz (.lssT rfl rfl (by omega)) ?_;refine nNz<|zI<|cTz<|zJ<|thenN<|zI<|zM<|sRz<|vMz<|vAz<|nNz ?_;apply CW.pre;refine AnyW.any 9 mixed (by decide +kernel) ?_;(try simp only [tsOf_cons,tsOf_nil,tsOf_app]);refine dvz (.move rfl)<|dvz (.move rfl)<|dvz (.move rfl)<|dvz (.indexAddrL rfl rfl rfl) ?_;apply qF;rfl;rfl;rfl;exact zC;rfl;apply zO;apply zO;apply zP;exact zN;exact Rd.one' rfl;refine dvz (.move rfl)<|dvz (.indexAddrL rfl rfl rfl) ?_;apply qF;rfl;rfl;rfl;exact zC;rfl;apply zO;apply zP;exact zN;exact Rd.one' rfl;apply DW.callE;rfl;rfl;rfl;exact zC;rfl;infer_instance;exact .cons rfl (.cons rfl .nil);rfl;exact ReadAll.nil;intro w _ _;exact h1 w;apply DW.nil;simp only [fsOf_cons,fsOf_nil,fsOf_app,fsOf_tsOf,fsOf_new];refine lvz (.indexAddrL rfl rfl rfl) ?_;apply zR;rfl;rfl;apply qD;apply qD;apply qA;apply Wr.cells;rfl;rfl;simp only [wc,List.size_toArray,List.length_cons,List.length_nil];omega;simp only [fillC,wc,wrCells,Value.cells,qL,qI,qN,qM,Nat.reduceAdd,Nat.reduceMul,qP,Nat.mul_one];rfl;apply zV;refine blkN<|thenN<|zL ?_;refine lvz (.addI rfl rfl (by omega) (by omega)) ?_;refine vMz ?_;apply zV;refine thenL ?_)
 (apply RW.step;refine sRz ?_;refine lvz (.lssT rfl rfl (by omega)) ?_;refine nNz<|zI<|cTz<|zJ<|thenN<|zI<|zM<|sRz<|vMz<|vAz<|nNz ?_;apply CW.pre;refine AnyW.any 9 mixed (by decide +kernel) ?_;(try simp only [tsOf_cons,tsOf_nil,tsOf_app]);refine dvz (.move rfl)<|dvz (.move rfl)<|dvz (.move rfl)<|dvz (.indexAddrL rfl rfl rfl) ?_;apply qF;rfl;rfl;rfl;exact zC;rfl;apply zO;apply zO;apply zP;exact zN;exact Rd.one' rfl;refine dvz (.move rfl)<|dvz (.indexAddrL rfl rfl rfl) ?_;apply qF;rfl;rfl;rfl;exact zC;rfl;apply zO;apply zP;exact zN;exact Rd.one' rfl;apply DW.callE;rfl;rfl;rfl;exact zC;rfl;infer_instance;exact .cons rfl (.cons rfl .nil);rfl;exact ReadAll.nil;intro w _ _;exact h2 w;apply DW.nil;simp only [fsOf_cons,fsOf_nil,fsOf_app,fsOf_tsOf,fsOf_new];refine lvz (.indexAddrL rfl rfl rfl) ?_;apply zR;rfl;rfl;apply qD;apply qD;apply qA;apply Wr.cells;rfl;rfl;simp only [wc,List.size_toArray,List.length_cons,List.length_nil];omega;simp only [fillC,wc,wrCells,Value.cells,qL,qI,qN,qM,Nat.reduceAdd,Nat.reduceMul,qP,Nat.mul_one];rfl;apply zV;refine blkN<|thenN<|zL ?_;refine lvz (.addI rfl rfl (by omega) (by omega)) ?_;refine vMz ?_;apply zV;refine thenL ?_)
 (apply RW.step;refine sRz ?_;refine lvz (.lssT rfl rfl (by omega)) ?_;refine nNz<|zI<|cTz<|zJ<|thenN<|zI<|zM<|sRz<|vMz<|vAz<|nNz ?_;apply CW.pre;refine AnyW.any 9 mixed (by decide +kernel) ?_;(try simp only [tsOf_cons,tsOf_nil,tsOf_app]);refine dvz (.move rfl)<|dvz (.move rfl)<|dvz (.move rfl)<|dvz (.indexAddrL rfl rfl rfl) ?_;apply qF;rfl;rfl;rfl;exact zC;rfl;apply zO;apply zO;apply zP;exact zN;exact Rd.one' rfl;refine dvz (.move rfl)<|dvz (.indexAddrL rfl rfl rfl) ?_;apply qF;rfl;rfl;rfl;exact zC;rfl;apply zO;apply zP;exact zN;exact Rd.one' rfl;apply DW.callE;rfl;rfl;rfl;exact zC;rfl;infer_instance;exact .cons rfl (.cons rfl .nil);rfl;exact ReadAll.nil;intro w _ _;exact h3 w;apply DW.nil;simp only [fsOf_cons,fsOf_nil,fsOf_app,fsOf_tsOf,fsOf_new];refine lvz (.indexAddrL rfl rfl rfl) ?_;apply zR;rfl;rfl;apply qD;apply qD;apply qA;apply Wr.cells;rfl;rfl;simp only [wc,List.size_toArray,List.length_cons,List.length_nil];omega;simp only [fillC,wc,wrCells,Value.cells,qL,qI,qN,qM,Nat.reduceAdd,Nat.reduceMul,qP,Nat.mul_one];rfl;apply zV;refine blkN<|thenN<|zL ?_;refine lvz (.addI rfl rfl (by omega) (by omega)) ?_;refine vMz ?_;apply zV;refine thenL ?_)
 (apply RW.step;refine sRz ?_;refine lvz (.lssF rfl rfl (by omega)) ?_;refine nNz<|zI<|cFz<|CW.exit<|thenE<|thenE<|blkE rfl<|thenN<|sRz<|ldz rfl (.tail (.tail .head)) (qH rfl) ?_;refine zR rfl rfl .head (.whole rfl rfl rfl)<|nNz<|zK ?_)
 (apply finR;exact .inl rfl;rfl;rfl;rfl;apply zD;apply zH;rfl;apply qG;apply zY;exact qH rfl;exact zF)
 rfl
theorem lim_and (a b:Nat):#[Value.int .u64 ((a % 18446744073709551616 &&& b % 18446744073709551616:Nat):Int),.int .u64 ((a / 18446744073709551616 % 18446744073709551616 &&& b / 18446744073709551616 % 18446744073709551616:Nat):Int),.int .u64 ((a / 340282366920938463463374607431768211456 % 18446744073709551616 &&& b / 340282366920938463463374607431768211456 % 18446744073709551616:Nat):Int),.int .u64 ((a / 6277101735386680763835789423207666416102355444464034512896 % 18446744073709551616 &&& b / 6277101735386680763835789423207666416102355444464034512896 % 18446744073709551616:Nat):Int)]=wc (a &&& b):=by
 unfold wc
 rw [show (18446744073709551616:Nat)=2 ^ 64 from rfl,show (340282366920938463463374607431768211456:Nat)=2 ^ 128 from rfl,show (6277101735386680763835789423207666416102355444464034512896:Nat)=2 ^ 192 from rfl]
 simp only [Nat.and_mod_two_pow,Nat.and_div_two_pow]
theorem lim_or (a b:Nat):#[Value.int .u64 ((a % 18446744073709551616 |||b % 18446744073709551616:Nat):Int),.int .u64 ((a / 18446744073709551616 % 18446744073709551616 |||b / 18446744073709551616 % 18446744073709551616:Nat):Int),.int .u64 ((a / 340282366920938463463374607431768211456 % 18446744073709551616 |||b / 340282366920938463463374607431768211456 % 18446744073709551616:Nat):Int),.int .u64 ((a / 6277101735386680763835789423207666416102355444464034512896 % 18446744073709551616 |||b / 6277101735386680763835789423207666416102355444464034512896 % 18446744073709551616:Nat):Int)]=wc (a |||b):=by
 unfold wc
 rw [show (18446744073709551616:Nat)=2 ^ 64 from rfl,show (340282366920938463463374607431768211456:Nat)=2 ^ 128 from rfl,show (6277101735386680763835789423207666416102355444464034512896:Nat)=2 ^ 192 from rfl]
 simp only [Nat.or_mod_two_pow,Nat.or_div_two_pow]
theorem lim_xor (a b:Nat):#[Value.int .u64 ((a % 18446744073709551616 ^^^ b % 18446744073709551616:Nat):Int),.int .u64 ((a / 18446744073709551616 % 18446744073709551616 ^^^ b / 18446744073709551616 % 18446744073709551616:Nat):Int),.int .u64 ((a / 340282366920938463463374607431768211456 % 18446744073709551616 ^^^ b / 340282366920938463463374607431768211456 % 18446744073709551616:Nat):Int),.int .u64 ((a / 6277101735386680763835789423207666416102355444464034512896 % 18446744073709551616 ^^^ b / 6277101735386680763835789423207666416102355444464034512896 % 18446744073709551616:Nat):Int)]=wc (a ^^^ b):=by
 unfold wc
 rw [show (18446744073709551616:Nat)=2 ^ 64 from rfl,show (340282366920938463463374607431768211456:Nat)=2 ^ 128 from rfl,show (6277101735386680763835789423207666416102355444464034512896:Nat)=2 ^ 192 from rfl]
 simp only [Nat.xor_mod_two_pow,Nat.xor_div_two_pow]
theorem lim_not (a:Nat) (ha:a < M256):#[Value.int .u64 ((18446744073709551615 - a % 18446744073709551616:Nat):Int),.int .u64 ((18446744073709551615 - a / 18446744073709551616 % 18446744073709551616:Nat):Int),.int .u64 ((18446744073709551615 - a / 340282366920938463463374607431768211456 % 18446744073709551616:Nat):Int),.int .u64 ((18446744073709551615 - a / 6277101735386680763835789423207666416102355444464034512896 % 18446744073709551616:Nat):Int)]=wc (M256 - 1 - a):=by
 simp only [M256] at ha ⊢
 exact wc_val (by omega) (by omega) (by omega) (by omega) (by omega)
theorem And_calls (a b:Nat) (w:World):Calls Tryz.prog 21 #[wv a,wv b] w (Ret w (wv (a &&& b))):=by
 refine enter (args:=[_,_]) _ [] [] Tryz.func21 rfl Tryz.ntmps21 rfl (by simp) .nil ?_
 (refine sRz ?_;apply zT;rfl;rfl;intro _;apply zT;rfl;rfl;intro _;apply LW.allocW;rfl;intro _;refine nSz<|ldz rfl (.tail (.tail .head)) (qH rfl)<|ldz rfl (.tail .head) (qH rfl) ?_;apply zS;rfl;rfl;infer_instance;exact .cons rfl (.cons rfl (.cons rfl .nil));intro w _;exact each_calls _ _ _ _ _ _ _ _ _ _ _ _ _ w (And1_calls _ _ (by omega) (by omega)) (And1_calls _ _ (by omega) (by omega)) (And1_calls _ _ (by omega) (by omega)) (And1_calls _ _ (by omega) (by omega));refine zR rfl rfl .head (.whole rfl rfl rfl)<|nNz<|zK ?_)
 (apply finR;exact .inl rfl;rfl;rfl;rfl;apply zD;apply zH;rfl;apply qG;apply zY;exact qH rfl;exact zF)
 exact congrArg Value.agg (lim_and a b)
theorem Or_calls (a b:Nat) (w:World):Calls Tryz.prog 22 #[wv a,wv b] w (Ret w (wv (a |||b))):=by
 refine enter (args:=[_,_]) _ [] [] Tryz.func22 rfl Tryz.ntmps22 rfl (by simp) .nil ?_
 (refine sRz ?_;apply zT;rfl;rfl;intro _;apply zT;rfl;rfl;intro _;apply LW.allocW;rfl;intro _;refine nSz<|ldz rfl (.tail (.tail .head)) (qH rfl)<|ldz rfl (.tail .head) (qH rfl) ?_;apply zS;rfl;rfl;infer_instance;exact .cons rfl (.cons rfl (.cons rfl .nil));intro w _;exact each_calls _ _ _ _ _ _ _ _ _ _ _ _ _ w (Or1_calls _ _ (by omega) (by omega)) (Or1_calls _ _ (by omega) (by omega)) (Or1_calls _ _ (by omega) (by omega)) (Or1_calls _ _ (by omega) (by omega));refine zR rfl rfl .head (.whole rfl rfl rfl)<|nNz<|zK ?_)
 (apply finR;exact .inl rfl;rfl;rfl;rfl;apply zD;apply zH;rfl;apply qG;apply zY;exact qH rfl;exact zF)
 exact congrArg Value.agg (lim_or a b)
theorem Xor_calls (a b:Nat) (w:World):Calls Tryz.prog 23 #[wv a,wv b] w (Ret w (wv (a ^^^ b))):=by
 refine enter (args:=[_,_]) _ [] [] Tryz.func23 rfl Tryz.ntmps23 rfl (by simp) .nil ?_
 (refine sRz ?_;apply zT;rfl;rfl;intro _;apply zT;rfl;rfl;intro _;apply LW.allocW;rfl;intro _;refine nSz<|ldz rfl (.tail (.tail .head)) (qH rfl)<|ldz rfl (.tail .head) (qH rfl) ?_;apply zS;rfl;rfl;infer_instance;exact .cons rfl (.cons rfl (.cons rfl .nil));intro w _;exact each_calls _ _ _ _ _ _ _ _ _ _ _ _ _ w (Xor1_calls _ _ (by omega) (by omega)) (Xor1_calls _ _ (by omega) (by omega)) (Xor1_calls _ _ (by omega) (by omega)) (Xor1_calls _ _ (by omega) (by omega));refine zR rfl rfl .head (.whole rfl rfl rfl)<|nNz<|zK ?_)
 (apply finR;exact .inl rfl;rfl;rfl;rfl;apply zD;apply zH;rfl;apply qG;apply zY;exact qH rfl;exact zF)
 exact congrArg Value.agg (lim_xor a b)
theorem Not_calls (a:Nat) (ha:a < M256) (w:World):Calls Tryz.prog 202 #[wv a] w (Ret w (wv (M256 - 1 - a))):=by
 refine enter (args:=[_]) _ [] [] Tryz.func202 rfl Tryz.ntmps202 rfl (by simp) .nil ?_
 (refine sRz ?_;apply zT;rfl;rfl;intro _;apply LW.allocW;rfl;intro _;refine nSz<|ldz rfl (.tail .head) (qH rfl)<|ldz rfl (.tail .head) (qH rfl) ?_;apply zS;rfl;rfl;infer_instance;exact .cons rfl (.cons rfl (.cons rfl .nil));intro w _;exact each_calls _ _ _ _ _ _ _ _ _ _ _ _ _ w (Not1_calls _ _ (by omega)) (Not1_calls _ _ (by omega)) (Not1_calls _ _ (by omega)) (Not1_calls _ _ (by omega));refine zR rfl rfl .head (.whole rfl rfl rfl)<|nNz<|zK ?_)
 (apply finR;exact .inl rfl;rfl;rfl;rfl;apply zD;apply zH;rfl;apply qG;apply zY;exact qH rfl;exact zF)
 exact congrArg Value.agg (lim_not a ha)
theorem add64_run (x y c:Nat) (hc:c≤1) (w:World):(callFunc 61 #[.int .u64 x,.int .u64 y,.int .u64 c]).run Tryz.prog w=.ok (.value (.tuple #[.int .u64 (((x+y+c) % 18446744073709551616:Nat):Int),.int .u64 (((x+y+c) / 18446744073709551616:Nat):Int)])) w:=by
 rw [run_callFunc_extern Tryz.func61 (by kernel_rfl) (by kernel_rfl) (by kernel_rfl) (e:=add64Entry) (by kernel_rfl),run_add64 x y c (by omega) (by omega) (by omega) (by omega)]
 simp only [Result.andThen]
 congr 5<;>omega
theorem sub64_run (x y b:Nat) (hb:b≤1) (w:World):(callFunc 62 #[.int .u64 x,.int .u64 y,.int .u64 b]).run Tryz.prog w=.ok (.value (.tuple #[.int .u64 (((x+18446744073709551616 - y - b) % 18446744073709551616:Nat):Int),.int .u64 ((if x < y+b then 1 else 0:Nat):Int)])) w:=by
 rw [run_callFunc_extern Tryz.func62 (by kernel_rfl) (by kernel_rfl) (by kernel_rfl) (e:=sub64Entry) (by kernel_rfl),run_sub64 x y b hb]
 rfl
theorem carried_calls (f:FuncId) (a0 a1 a2 a3 b0 b1 b2 b3 r0 r1 r2 r3 c1 c2 c3 c4:Nat) (w:World)
  (h0:∀ w,(callFunc f #[.int .u64 a0,.int .u64 b0,.int .u64 (0:Int)]).run Tryz.prog w=.ok (.value (.tuple #[.int .u64 r0,.int .u64 c1])) w)
  (h1:∀ w,(callFunc f #[.int .u64 a1,.int .u64 b1,.int .u64 c1]).run Tryz.prog w=.ok (.value (.tuple #[.int .u64 r1,.int .u64 c2])) w)
  (h2:∀ w,(callFunc f #[.int .u64 a2,.int .u64 b2,.int .u64 c2]).run Tryz.prog w=.ok (.value (.tuple #[.int .u64 r2,.int .u64 c3])) w)
  (h3:∀ w,(callFunc f #[.int .u64 a3,.int .u64 b3,.int .u64 c3]).run Tryz.prog w=.ok (.value (.tuple #[.int .u64 r3,.int .u64 c4])) w) :
  Calls Tryz.prog 60 #[.agg #[.int .u64 a0,.int .u64 a1,.int .u64 a2,.int .u64 a3],.agg #[.int .u64 b0,.int .u64 b1,.int .u64 b2,.int .u64 b3],.func (.func f) #[] #[]] w (Ret w (.tuple #[.agg #[.int .u64 r0,.int .u64 r1,.int .u64 r2,.int .u64 r3],.bool (!decide ((c4:Int)=0))])):=by
 refine enter (args:=[_,_,_]) _ [] [] Tryz.func60 rfl Tryz.ntmps60 rfl (by simp) .nil ?_
 (refine sRz ?_;apply zT;rfl;rfl;intro _;apply zT;rfl;rfl;intro _;apply LW.allocW;rfl;intro _;refine vAz<|nSz<|vAz<|nNz<|zI<|sRz<|vMz<|nNz<|zM ?_)
 apply CW.rounds 5
 (apply RW.step;refine sRz ?_;refine lvz (.lssT rfl rfl (by omega)) ?_;refine nNz<|zI<|cTz<|zJ<|thenN<|zI<|zM<|sRz<|vMz<|vAz<|nNz ?_;apply CW.pre;refine AnyW.any 15 mixed (by decide +kernel) ?_;(try simp only [tsOf_cons,tsOf_nil,tsOf_app]);refine dvz (.move rfl)<|dvz (.move rfl)<|dvz (.move rfl)<|dvz (.indexAddrL rfl rfl rfl) ?_;apply qF;rfl;rfl;rfl;exact zC;rfl;apply zO;apply zO;apply zP;exact zN;exact Rd.one' rfl;refine dvz (.move rfl)<|dvz (.indexAddrL rfl rfl rfl) ?_;apply qF;rfl;rfl;rfl;exact zC;rfl;apply zO;apply zP;exact zN;exact Rd.one' rfl;refine dvz (.move rfl) ?_;apply DW.callX;rfl;rfl;rfl;exact zC;rfl;exact .cons rfl (.cons rfl (.cons rfl .nil));rfl;exact h0;refine dvz (.move rfl) ?_;refine dvz (.extractN rfl rfl) ?_;refine dvz (.extractN rfl rfl) ?_;refine dvz (.indexAddrL rfl rfl rfl) ?_;apply DW.store;rfl;rfl;exact zC;rfl;rfl;apply TSet.tail;apply TSet.tail;apply TSet.head;exact zN;kernel_rfl;apply Wr.cells;rfl;rfl;simp only [wc,List.size_toArray,List.length_cons,List.length_nil];omega;simp only [fillC,wc,wrCells,Value.cells,qL,qI,qN,qM,Nat.reduceAdd,Nat.reduceMul,qP,Nat.mul_one];rfl;apply DW.nil;simp only [fsOf_cons,fsOf_nil,fsOf_app,fsOf_tsOf,fsOf_new];refine vAz ?_;apply zV;refine blkN<|thenN<|zL ?_;refine lvz (.addI rfl rfl (by omega) (by omega)) ?_;refine vMz ?_;apply zV;refine thenL ?_)
 (apply RW.step;refine sRz ?_;refine lvz (.lssT rfl rfl (by omega)) ?_;refine nNz<|zI<|cTz<|zJ<|thenN<|zI<|zM<|sRz<|vMz<|vAz<|nNz ?_;apply CW.pre;refine AnyW.any 15 mixed (by decide +kernel) ?_;(try simp only [tsOf_cons,tsOf_nil,tsOf_app]);refine dvz (.move rfl)<|dvz (.move rfl)<|dvz (.move rfl)<|dvz (.indexAddrL rfl rfl rfl) ?_;apply qF;rfl;rfl;rfl;exact zC;rfl;apply zO;apply zO;apply zP;exact zN;exact Rd.one' rfl;refine dvz (.move rfl)<|dvz (.indexAddrL rfl rfl rfl) ?_;apply qF;rfl;rfl;rfl;exact zC;rfl;apply zO;apply zP;exact zN;exact Rd.one' rfl;refine dvz (.move rfl) ?_;apply DW.callX;rfl;rfl;rfl;exact zC;rfl;exact .cons rfl (.cons rfl (.cons rfl .nil));rfl;exact h1;refine dvz (.move rfl) ?_;refine dvz (.extractN rfl rfl) ?_;refine dvz (.extractN rfl rfl) ?_;refine dvz (.indexAddrL rfl rfl rfl) ?_;apply DW.store;rfl;rfl;exact zC;rfl;rfl;apply TSet.tail;apply TSet.tail;apply TSet.head;exact zN;kernel_rfl;apply Wr.cells;rfl;rfl;simp only [wc,List.size_toArray,List.length_cons,List.length_nil];omega;simp only [fillC,wc,wrCells,Value.cells,qL,qI,qN,qM,Nat.reduceAdd,Nat.reduceMul,qP,Nat.mul_one];rfl;apply DW.nil;simp only [fsOf_cons,fsOf_nil,fsOf_app,fsOf_tsOf,fsOf_new];refine vAz ?_;apply zV;refine blkN<|thenN<|zL ?_;refine lvz (.addI rfl rfl (by omega) (by omega)) ?_;refine vMz ?_;apply zV;refine thenL ?_)
 (apply RW.step;refine sRz ?_;refine lvz (.lssT rfl rfl (by omega)) ?_;refine nNz<|zI<|cTz<|zJ<|thenN<|zI<|zM<|sRz<|vMz<|vAz<|nNz ?_;apply CW.pre;refine AnyW.any 15 mixed (by decide +kernel) ?_;(try simp only [tsOf_cons,tsOf_nil,tsOf_app]);refine dvz (.move rfl)<|dvz (.move rfl)<|dvz (.move rfl)<|dvz (.indexAddrL rfl rfl rfl) ?_;apply qF;rfl;rfl;rfl;exact zC;rfl;apply zO;apply zO;apply zP;exact zN;exact Rd.one' rfl;refine dvz (.move rfl)<|dvz (.indexAddrL rfl rfl rfl) ?_;apply qF;rfl;rfl;rfl;exact zC;rfl;apply zO;apply zP;exact zN;exact Rd.one' rfl;refine dvz (.move rfl) ?_;apply DW.callX;rfl;rfl;rfl;exact zC;rfl;exact .cons rfl (.cons rfl (.cons rfl .nil));rfl;exact h2;refine dvz (.move rfl) ?_;refine dvz (.extractN rfl rfl) ?_;refine dvz (.extractN rfl rfl) ?_;refine dvz (.indexAddrL rfl rfl rfl) ?_;apply DW.store;rfl;rfl;exact zC;rfl;rfl;apply TSet.tail;apply TSet.tail;apply TSet.head;exact zN;kernel_rfl;apply Wr.cells;rfl;rfl;simp only [wc,List.size_toArray,List.length_cons,List.length_nil];omega;simp only [fillC,wc,wrCells,Value.cells,qL,qI,qN,qM,Nat.reduceAdd,Nat.reduceMul,qP,Nat.mul_one];rfl;apply DW.nil;simp only [fsOf_cons,fsOf_nil,fsOf_app,fsOf_tsOf,fsOf_new];refine vAz ?_;apply zV;refine blkN<|thenN<|zL ?_;refine lvz (.addI rfl rfl (by omega) (by omega)) ?_;refine vMz ?_;apply zV;refine thenL ?_)
 (apply RW.step;refine sRz ?_;refine lvz (.lssT rfl rfl (by omega)) ?_;refine nNz<|zI<|cTz<|zJ<|thenN<|zI<|zM<|sRz<|vMz<|vAz<|nNz ?_;apply CW.pre;refine AnyW.any 15 mixed (by decide +kernel) ?_;(try simp only [tsOf_cons,tsOf_nil,tsOf_app]);refine dvz (.move rfl)<|dvz (.move rfl)<|dvz (.move rfl)<|dvz (.indexAddrL rfl rfl rfl) ?_;apply qF;rfl;rfl;rfl;exact zC;rfl;apply zO;apply zO;apply zP;exact zN;exact Rd.one' rfl;refine dvz (.move rfl)<|dvz (.indexAddrL rfl rfl rfl) ?_;apply qF;rfl;rfl;rfl;exact zC;rfl;apply zO;apply zP;exact zN;exact Rd.one' rfl;refine dvz (.move rfl) ?_;apply DW.callX;rfl;rfl;rfl;exact zC;rfl;exact .cons rfl (.cons rfl (.cons rfl .nil));rfl;exact h3;refine dvz (.move rfl) ?_;refine dvz (.extractN rfl rfl) ?_;refine dvz (.extractN rfl rfl) ?_;refine dvz (.indexAddrL rfl rfl rfl) ?_;apply DW.store;rfl;rfl;exact zC;rfl;rfl;apply TSet.tail;apply TSet.tail;apply TSet.head;exact zN;kernel_rfl;apply Wr.cells;rfl;rfl;simp only [wc,List.size_toArray,List.length_cons,List.length_nil];omega;simp only [fillC,wc,wrCells,Value.cells,qL,qI,qN,qM,Nat.reduceAdd,Nat.reduceMul,qP,Nat.mul_one];rfl;apply DW.nil;simp only [fsOf_cons,fsOf_nil,fsOf_app,fsOf_tsOf,fsOf_new];refine vAz ?_;apply zV;refine blkN<|thenN<|zL ?_;refine lvz (.addI rfl rfl (by omega) (by omega)) ?_;refine vMz ?_;apply zV;refine thenL ?_)
 (apply RW.step;refine sRz ?_;refine lvz (.lssF rfl rfl (by omega)) ?_;refine nNz<|zI<|cFz<|CW.exit<|thenE<|thenE<|blkE rfl<|thenN<|sRz<|ldz rfl (.tail (.tail .head)) (qH rfl)<|vMz<|lvz (.ne rfl rfl) ?_;refine zR rfl rfl .head (.whole rfl rfl rfl)<|vAz<|nNz<|zK ?_)
 (apply finR;exact .inl rfl;rfl;rfl;rfl;apply zD;apply zH;rfl;apply qG;apply zY;exact qH rfl;apply zD;exact zG rfl;exact zF)
 rfl
theorem Of_calls (n:Nat) (hn:n < 18446744073709551616) (w:World):Calls Tryz.prog 98 #[.int .u64 n] w (Ret w (wv n)):=by
 refine enter (args:=[_]) _ [] [] Tryz.func98 rfl Tryz.ntmps98 rfl (by simp) .nil ?_
 (refine sRz ?_;apply LW.allocW;rfl;intro _;refine nSz<|vMz ?_;refine lvz (.buildW1 rfl (by omega)) ?_;refine zR rfl rfl .head (.whole rfl rfl rfl)<|nNz<|zK ?_)
 (apply finR;exact .inl rfl;rfl;rfl;rfl;apply zD;apply zH;rfl;apply qG;apply zY;exact qH rfl;exact zF)
 rfl
theorem small_or (a:Nat) (ha:a < M256):(((a / 18446744073709551616 % 18446744073709551616 |||a / 340282366920938463463374607431768211456 % 18446744073709551616 |||a / 6277101735386680763835789423207666416102355444464034512896 % 18446744073709551616:Nat):Int)=0)↔a < 18446744073709551616:=by
 simp only [M256] at ha
 rw [Int.natCast_eq_zero,Nat.or_eq_zero_iff,Nat.or_eq_zero_iff]
 omega
theorem Small_calls (a:Nat) (ha:a < M256) (w:World):Calls Tryz.prog 116 #[wv a] w (Ret w (.tuple #[.int .u64 ((if a < 18446744073709551616 then a else 0:Nat):Int),.bool (decide (a < 18446744073709551616))])):=by
 refine enter (args:=[_]) _ [] [] Tryz.func116 rfl Tryz.ntmps116 rfl (by simp) .nil ?_
 (refine sRz ?_;apply zT;rfl;rfl;intro _;refine vAz<|vAz<|nNz<|zI<|sRz<|lvz (.indexAddrL rfl rfl rfl)<|ldz rfl .head (Rd.one' rfl)<|lvz (.indexAddrL rfl rfl rfl)<|ldz rfl .head (Rd.one' rfl) ?_;refine lvz (.orU rfl rfl (by omega) (by omega)) ?_;refine lvz (.indexAddrL rfl rfl rfl)<|ldz rfl .head (Rd.one' rfl) ?_;apply LW.v0;rfl;rfl;apply ValP.orU;rfl;rfl;apply or64;omega;omega;omega;refine lvz (.ne rfl rfl)<|nNz ?_)
 apply CW.cond
 rfl
 ·intro hb
  have h:¬ a < 18446744073709551616:=fun h=>by rw [decide_eq_true ((small_or a ha).2 h)] at hb;cases hb
  (refine sRz<|vAz<|vAz<|nNz<|zK<|thenR ?_)
  (apply finR;exact .inl rfl;rfl;rfl;rfl;apply zD;exact zG rfl;apply zD;exact zG rfl;exact zF)
  rw [if_neg h,decide_eq_false h];rfl
 ·intro hb
  have h:a < 18446744073709551616:=(small_or a ha).1 (by simpa using hb)
  (refine zJ<|thenN<|sRz<|lvz (.indexAddrL rfl rfl rfl)<|ldz rfl .head (Rd.one' rfl)<|vAz<|vAz<|nNz<|zK ?_)
  (apply finR;exact .inl rfl;rfl;rfl;rfl;apply zD;exact zG rfl;apply zD;exact zG rfl;exact zF)
  rw [if_pos h,decide_eq_true h,show (a:Int)=((a % 18446744073709551616:Nat):Int) by omega];rfl
theorem val_limbs (a:Nat) (ha:a < M256):a=a % 18446744073709551616+18446744073709551616 * (a / 18446744073709551616 % 18446744073709551616)+340282366920938463463374607431768211456 * (a / 340282366920938463463374607431768211456 % 18446744073709551616)+6277101735386680763835789423207666416102355444464034512896 * (a / 6277101735386680763835789423207666416102355444464034512896 % 18446744073709551616):=by
 simp only [M256] at ha
 omega
theorem over_of {c:Nat} {p:Prop} [Decidable p] (h:(c:Int)=0↔¬ p):(!decide ((c:Int)=0))=decide p:=by
 by_cases hp:p
 ·have:¬ ((c:Int)=0):=fun h'=>(h.1 h') hp
  rw [decide_eq_false this,decide_eq_true hp];rfl
 ·rw [decide_eq_true (h.2 hp),decide_eq_false hp];rfl
theorem lim_lt (a:Nat):a % 18446744073709551616 < 18446744073709551616∧a / 18446744073709551616 % 18446744073709551616 < 18446744073709551616∧a / 340282366920938463463374607431768211456 % 18446744073709551616 < 18446744073709551616∧a / 6277101735386680763835789423207666416102355444464034512896 % 18446744073709551616 < 18446744073709551616:=by
 refine ⟨?_,?_,?_,?_⟩<;>exact Nat.mod_lt _ (by decide)
theorem add_step (x y c:Nat) (hx:x < 18446744073709551616) (hy:y < 18446744073709551616) (hc:c≤1):∃ r c',(∀ w,(callFunc 61 #[.int .u64 x,.int .u64 y,.int .u64 c]).run Tryz.prog w=.ok (.value (.tuple #[.int .u64 (r:Nat),.int .u64 (c':Nat)])) w)∧r+18446744073709551616 * c'=x+y+c∧r < 18446744073709551616∧c'≤1 :=
 ⟨_,_,fun w=>add64_run x y c hc w,by omega,by omega,by omega⟩
theorem sub_step (x y c:Nat) (hx:x < 18446744073709551616) (hy:y < 18446744073709551616) (hc:c≤1):∃ r c',(∀ w,(callFunc 62 #[.int .u64 x,.int .u64 y,.int .u64 c]).run Tryz.prog w=.ok (.value (.tuple #[.int .u64 (r:Nat),.int .u64 (c':Nat)])) w)∧r+y+c=x+18446744073709551616 * c'∧r < 18446744073709551616∧c'≤1:=by
 refine ⟨_,_,fun w=>sub64_run x y c hc w,?_,by omega,?_⟩<;>split<;>omega
theorem carried_finAdd (a b a0 a1 a2 a3 b0 b1 b2 b3 r0 r1 r2 r3 c1 c2 c3 c4:Nat) (va:a=a0+18446744073709551616 * a1+340282366920938463463374607431768211456 * a2+6277101735386680763835789423207666416102355444464034512896 * a3) (vb:b=b0+18446744073709551616 * b1+340282366920938463463374607431768211456 * b2+6277101735386680763835789423207666416102355444464034512896 * b3) (e0:r0+18446744073709551616 * c1=a0+b0+0) (e1:r1+18446744073709551616 * c2=a1+b1+c1) (e2:r2+18446744073709551616 * c3=a2+b2+c2) (e3:r3+18446744073709551616 * c4=a3+b3+c3):r0+18446744073709551616 * r1+340282366920938463463374607431768211456 * r2+6277101735386680763835789423207666416102355444464034512896 * r3+115792089237316195423570985008687907853269984665640564039457584007913129639936 * c4=a+b:=by omega
theorem carried_valAdd (a b r0 r1 r2 r3 c4:Nat) (ha:a < M256) (hb:b < M256) (f0:r0 < 18446744073709551616) (f1:r1 < 18446744073709551616) (f2:r2 < 18446744073709551616) (f3:r3 < 18446744073709551616) (g4:c4≤1) (h:r0+18446744073709551616 * r1+340282366920938463463374607431768211456 * r2+6277101735386680763835789423207666416102355444464034512896 * r3+115792089237316195423570985008687907853269984665640564039457584007913129639936 * c4=a+b):#[Value.int .u64 (r0:Int),.int .u64 (r1:Int),.int .u64 (r2:Int),.int .u64 (r3:Int)]=wc ((a+b) % M256) :=
 wc_val f0 f1 f2 f3 (by simp only [M256] at *;omega)
theorem carried_overAdd (a b r0 r1 r2 r3 c4:Nat) (ha:a < M256) (hb:b < M256) (f0:r0 < 18446744073709551616) (f1:r1 < 18446744073709551616) (f2:r2 < 18446744073709551616) (f3:r3 < 18446744073709551616) (g4:c4≤1) (h:r0+18446744073709551616 * r1+340282366920938463463374607431768211456 * r2+6277101735386680763835789423207666416102355444464034512896 * r3+115792089237316195423570985008687907853269984665640564039457584007913129639936 * c4=a+b):(!decide ((c4:Int)=0))=decide (M256≤a+b):=by
 have:((c4:Int)=0)↔¬ (M256≤a+b):=by simp only [M256] at *;omega
 exact over_of this
theorem carriedAdd_calls (a b:Nat) (ha:a < M256) (hb:b < M256) (w:World):Calls Tryz.prog 60 #[wv a,wv b,.func (.func 61) #[] #[]] w (Ret w (.tuple #[wv ((a+b) % M256),.bool (decide (M256≤a+b))])):=by
 obtain ⟨la0,la1,la2,la3⟩:=lim_lt a
 obtain ⟨lb0,lb1,lb2,lb3⟩:=lim_lt b
 have va:=val_limbs a ha
 have vb:=val_limbs b hb
 obtain ⟨r0,c1,h0,e0,f0,g1⟩:=add_step (a % 18446744073709551616) (b % 18446744073709551616) 0 la0 lb0 (by decide)
 obtain ⟨r1,c2,h1,e1,f1,g2⟩:=add_step (a / 18446744073709551616 % 18446744073709551616) (b / 18446744073709551616 % 18446744073709551616) c1 la1 lb1 g1
 obtain ⟨r2,c3,h2,e2,f2,g3⟩:=add_step (a / 340282366920938463463374607431768211456 % 18446744073709551616) (b / 340282366920938463463374607431768211456 % 18446744073709551616) c2 la2 lb2 g2
 obtain ⟨r3,c4,h3,e3,f3,g4⟩:=add_step (a / 6277101735386680763835789423207666416102355444464034512896 % 18446744073709551616) (b / 6277101735386680763835789423207666416102355444464034512896 % 18446744073709551616) c3 la3 lb3 g3
 have key:=carried_calls 61 _ _ _ _ _ _ _ _ _ _ _ _ _ _ _ _ w h0 h1 h2 h3
 clear h0 h1 h2 h3
 have h:r0+18446744073709551616 * r1+340282366920938463463374607431768211456 * r2+6277101735386680763835789423207666416102355444464034512896 * r3+115792089237316195423570985008687907853269984665640564039457584007913129639936 * c4=a+b:=carried_finAdd _ _ _ _ _ _ _ _ _ _ _ _ _ _ _ _ _ _ va vb e0 e1 e2 e3
 rw [show #[Value.int .u64 (r0:Int),.int .u64 (r1:Int),.int .u64 (r2:Int),.int .u64 (r3:Int)]=wc ((a+b) % M256) from carried_valAdd _ _ _ _ _ _ _ ha hb f0 f1 f2 f3 g4 h,carried_overAdd _ _ _ _ _ _ _ ha hb f0 f1 f2 f3 g4 h] at key
 exact key
theorem carried_finSub (a b a0 a1 a2 a3 b0 b1 b2 b3 r0 r1 r2 r3 c1 c2 c3 c4:Nat) (va:a=a0+18446744073709551616 * a1+340282366920938463463374607431768211456 * a2+6277101735386680763835789423207666416102355444464034512896 * a3) (vb:b=b0+18446744073709551616 * b1+340282366920938463463374607431768211456 * b2+6277101735386680763835789423207666416102355444464034512896 * b3) (e0:r0+b0+0=a0+18446744073709551616 * c1) (e1:r1+b1+c1=a1+18446744073709551616 * c2) (e2:r2+b2+c2=a2+18446744073709551616 * c3) (e3:r3+b3+c3=a3+18446744073709551616 * c4):r0+18446744073709551616 * r1+340282366920938463463374607431768211456 * r2+6277101735386680763835789423207666416102355444464034512896 * r3+b=a+115792089237316195423570985008687907853269984665640564039457584007913129639936 * c4:=by omega
theorem carried_valSub (a b r0 r1 r2 r3 c4:Nat) (ha:a < M256) (hb:b < M256) (f0:r0 < 18446744073709551616) (f1:r1 < 18446744073709551616) (f2:r2 < 18446744073709551616) (f3:r3 < 18446744073709551616) (g4:c4≤1) (h:r0+18446744073709551616 * r1+340282366920938463463374607431768211456 * r2+6277101735386680763835789423207666416102355444464034512896 * r3+b=a+115792089237316195423570985008687907853269984665640564039457584007913129639936 * c4):#[Value.int .u64 (r0:Int),.int .u64 (r1:Int),.int .u64 (r2:Int),.int .u64 (r3:Int)]=wc ((a+M256 - b) % M256) :=
 wc_val f0 f1 f2 f3 (by simp only [M256] at *;omega)
theorem carried_overSub (a b r0 r1 r2 r3 c4:Nat) (ha:a < M256) (hb:b < M256) (f0:r0 < 18446744073709551616) (f1:r1 < 18446744073709551616) (f2:r2 < 18446744073709551616) (f3:r3 < 18446744073709551616) (g4:c4≤1) (h:r0+18446744073709551616 * r1+340282366920938463463374607431768211456 * r2+6277101735386680763835789423207666416102355444464034512896 * r3+b=a+115792089237316195423570985008687907853269984665640564039457584007913129639936 * c4):(!decide ((c4:Int)=0))=decide (a < b):=by
 have:((c4:Int)=0)↔¬ (a < b):=by simp only [M256] at *;omega
 exact over_of this
theorem carriedSub_calls (a b:Nat) (ha:a < M256) (hb:b < M256) (w:World):Calls Tryz.prog 60 #[wv a,wv b,.func (.func 62) #[] #[]] w (Ret w (.tuple #[wv ((a+M256 - b) % M256),.bool (decide (a < b))])):=by
 obtain ⟨la0,la1,la2,la3⟩:=lim_lt a
 obtain ⟨lb0,lb1,lb2,lb3⟩:=lim_lt b
 have va:=val_limbs a ha
 have vb:=val_limbs b hb
 obtain ⟨r0,c1,h0,e0,f0,g1⟩:=sub_step (a % 18446744073709551616) (b % 18446744073709551616) 0 la0 lb0 (by decide)
 obtain ⟨r1,c2,h1,e1,f1,g2⟩:=sub_step (a / 18446744073709551616 % 18446744073709551616) (b / 18446744073709551616 % 18446744073709551616) c1 la1 lb1 g1
 obtain ⟨r2,c3,h2,e2,f2,g3⟩:=sub_step (a / 340282366920938463463374607431768211456 % 18446744073709551616) (b / 340282366920938463463374607431768211456 % 18446744073709551616) c2 la2 lb2 g2
 obtain ⟨r3,c4,h3,e3,f3,g4⟩:=sub_step (a / 6277101735386680763835789423207666416102355444464034512896 % 18446744073709551616) (b / 6277101735386680763835789423207666416102355444464034512896 % 18446744073709551616) c3 la3 lb3 g3
 have key:=carried_calls 62 _ _ _ _ _ _ _ _ _ _ _ _ _ _ _ _ w h0 h1 h2 h3
 clear h0 h1 h2 h3
 have h:r0+18446744073709551616 * r1+340282366920938463463374607431768211456 * r2+6277101735386680763835789423207666416102355444464034512896 * r3+b=a+115792089237316195423570985008687907853269984665640564039457584007913129639936 * c4:=carried_finSub _ _ _ _ _ _ _ _ _ _ _ _ _ _ _ _ _ _ va vb e0 e1 e2 e3
 rw [show #[Value.int .u64 (r0:Int),.int .u64 (r1:Int),.int .u64 (r2:Int),.int .u64 (r3:Int)]=wc ((a+M256 - b) % M256) from carried_valSub _ _ _ _ _ _ _ ha hb f0 f1 f2 f3 g4 h,carried_overSub _ _ _ _ _ _ _ ha hb f0 f1 f2 f3 g4 h] at key
 exact key
theorem Add_calls (a b:Nat) (ha:a < M256) (hb:b < M256) (w:World):Calls Tryz.prog 17 #[wv a,wv b] w (Ret w (.tuple #[wv ((a+b) % M256),.bool (decide (M256≤a+b))])):=by
 refine enter (args:=[_,_]) _ [] [] Tryz.func17 rfl Tryz.ntmps17 rfl (by simp) .nil ?_
 (refine sRz ?_;apply zT;rfl;rfl;intro _;apply zT;rfl;rfl;intro _;apply LW.allocW;rfl;intro _;refine vAz<|nSz<|ldz rfl (.tail (.tail .head)) (qH rfl)<|ldz rfl (.tail .head) (qH rfl) ?_;apply zS;rfl;rfl;infer_instance;exact .cons rfl (.cons rfl (.cons rfl .nil));intro w _;refine carriedAdd_calls _ _ ?_ ?_ w;assumption;assumption;refine vEz ?_;refine vEz ?_;apply zR;rfl;rfl;apply qA;apply Wr.whole;rfl;rfl;rfl;refine vAz<|nNz<|zK ?_)
 (apply finR;exact .inl rfl;rfl;rfl;rfl;apply zD;apply zH;rfl;apply qG;apply zY;exact qH rfl;apply zD;exact zG rfl;exact zF)
 rfl
theorem Sub_calls (a b:Nat) (ha:a < M256) (hb:b < M256) (w:World):Calls Tryz.prog 18 #[wv a,wv b] w (Ret w (.tuple #[wv ((a+M256 - b) % M256),.bool (decide (a < b))])):=by
 refine enter (args:=[_,_]) _ [] [] Tryz.func18 rfl Tryz.ntmps18 rfl (by simp) .nil ?_
 (refine sRz ?_;apply zT;rfl;rfl;intro _;apply zT;rfl;rfl;intro _;apply LW.allocW;rfl;intro _;refine vAz<|nSz<|ldz rfl (.tail (.tail .head)) (qH rfl)<|ldz rfl (.tail .head) (qH rfl) ?_;apply zS;rfl;rfl;infer_instance;exact .cons rfl (.cons rfl (.cons rfl .nil));intro w _;refine carriedSub_calls _ _ ?_ ?_ w;assumption;assumption;refine vEz ?_;refine vEz ?_;apply zR;rfl;rfl;apply qA;apply Wr.whole;rfl;rfl;rfl;refine vAz<|nNz<|zK ?_)
 (apply finR;exact .inl rfl;rfl;rfl;rfl;apply zD;apply zH;rfl;apply qG;apply zY;exact qH rfl;apply zD;exact zG rfl;exact zF)
 rfl
theorem Cmp_calls (a b:Nat) (ha:a < M256) (hb:b < M256) (w:World):Calls Tryz.prog 65 #[wv a,wv b] w (Ret w (.int .i64 (if a < b then -1 else if b < a then 1 else 0))):=by
 simp only [M256] at ha hb
 refine enter (args:=[_,_]) _ [] [] Tryz.func65 rfl Tryz.ntmps65 rfl (by simp) .nil ?_
 (refine sRz ?_;apply zT;rfl;rfl;intro _;apply zT;rfl;rfl;intro _;refine vAz<|nNz<|zI<|sRz<|vAz<|nNz<|zM ?_)
 apply CW.rounds 5
 (apply RW.step;refine zI<|sRz<|vMz ?_;refine lvz (.geqT rfl rfl (by omega)) ?_;refine nNz<|cTz<|zJ<|thenN<|zI<|zM<|zM<|zI ?_;apply CW.pre;refine AnyW.any 6 mixed (by decide +kernel) ?_;(try simp only [tsOf_cons,tsOf_nil,tsOf_app]);refine dvz (.move rfl)<|dvz (.indexAddrL rfl rfl rfl) ?_;apply qF;rfl;rfl;rfl;exact zC;rfl;apply zO;apply zP;exact zN;exact Rd.one' rfl;refine dvz (.move rfl)<|dvz (.indexAddrL rfl rfl rfl) ?_;apply qF;rfl;rfl;rfl;exact zC;rfl;apply zP;exact zN;exact Rd.one' rfl;apply DW.nil;simp only [fsOf_cons,fsOf_nil,fsOf_app,fsOf_tsOf,fsOf_new];refine lvz (.lss rfl rfl)<|vAz<|nNz ?_)
 apply CW.cond
 rfl
 ·intro hq
  simp only [decide_eq_true_eq] at hq
  (refine sRz<|vAz<|nNz<|zK<|blkR<|blkR<|thenR<|thenR<|blkR<|thenR ?_)
  (apply finR;exact .inl rfl;rfl;rfl;rfl;apply zD;exact zG rfl;exact zF)
  (rw [if_pos (by omega)];rfl)
 intro hq
 simp only [decide_eq_false_iff_not] at hq
 (refine zI ?_;apply CW.pre;refine AnyW.any 6 mixed (by decide +kernel) ?_;(try simp only [tsOf_cons,tsOf_nil,tsOf_app]);refine dvz (.move rfl)<|dvz (.indexAddrL rfl rfl rfl) ?_;apply qF;rfl;rfl;rfl;exact zC;rfl;apply zO;apply zP;exact zN;exact Rd.one' rfl;refine dvz (.move rfl)<|dvz (.indexAddrL rfl rfl rfl) ?_;apply qF;rfl;rfl;rfl;exact zC;rfl;apply zP;exact zN;exact Rd.one' rfl;apply DW.nil;simp only [fsOf_cons,fsOf_nil,fsOf_app,fsOf_tsOf,fsOf_new];refine lvz (.gtr rfl rfl)<|vAz<|nNz ?_)
 apply CW.cond
 rfl
 ·intro hq
  simp only [decide_eq_true_eq] at hq
  (refine sRz<|vAz<|nNz<|zK<|blkR<|blkR<|thenR<|thenR<|blkR<|thenR ?_)
  (apply finR;exact .inl rfl;rfl;rfl;rfl;apply zD;exact zG rfl;exact zF)
  (rw [if_neg (by omega),if_pos (by omega)];rfl)
 intro hq
 simp only [decide_eq_false_iff_not] at hq
 (refine zJ<|blkN<|blkN<|thenN<|zL<|vMz ?_;refine lvz (.subI rfl rfl (by omega) (by omega)) ?_;refine vAz ?_;apply zV;refine thenL ?_)
 (apply RW.step;refine zI<|sRz<|vMz ?_;refine lvz (.geqT rfl rfl (by omega)) ?_;refine nNz<|cTz<|zJ<|thenN<|zI<|zM<|zM<|zI ?_;apply CW.pre;refine AnyW.any 6 mixed (by decide +kernel) ?_;(try simp only [tsOf_cons,tsOf_nil,tsOf_app]);refine dvz (.move rfl)<|dvz (.indexAddrL rfl rfl rfl) ?_;apply qF;rfl;rfl;rfl;exact zC;rfl;apply zO;apply zP;exact zN;exact Rd.one' rfl;refine dvz (.move rfl)<|dvz (.indexAddrL rfl rfl rfl) ?_;apply qF;rfl;rfl;rfl;exact zC;rfl;apply zP;exact zN;exact Rd.one' rfl;apply DW.nil;simp only [fsOf_cons,fsOf_nil,fsOf_app,fsOf_tsOf,fsOf_new];refine lvz (.lss rfl rfl)<|vAz<|nNz ?_)
 apply CW.cond
 rfl
 ·intro hq
  simp only [decide_eq_true_eq] at hq
  (refine sRz<|vAz<|nNz<|zK<|blkR<|blkR<|thenR<|thenR<|blkR<|thenR ?_)
  (apply finR;exact .inl rfl;rfl;rfl;rfl;apply zD;exact zG rfl;exact zF)
  (rw [if_pos (by omega)];rfl)
 intro hq
 simp only [decide_eq_false_iff_not] at hq
 (refine zI ?_;apply CW.pre;refine AnyW.any 6 mixed (by decide +kernel) ?_;(try simp only [tsOf_cons,tsOf_nil,tsOf_app]);refine dvz (.move rfl)<|dvz (.indexAddrL rfl rfl rfl) ?_;apply qF;rfl;rfl;rfl;exact zC;rfl;apply zO;apply zP;exact zN;exact Rd.one' rfl;refine dvz (.move rfl)<|dvz (.indexAddrL rfl rfl rfl) ?_;apply qF;rfl;rfl;rfl;exact zC;rfl;apply zP;exact zN;exact Rd.one' rfl;apply DW.nil;simp only [fsOf_cons,fsOf_nil,fsOf_app,fsOf_tsOf,fsOf_new];refine lvz (.gtr rfl rfl)<|vAz<|nNz ?_)
 apply CW.cond
 rfl
 ·intro hq
  simp only [decide_eq_true_eq] at hq
  (refine sRz<|vAz<|nNz<|zK<|blkR<|blkR<|thenR<|thenR<|blkR<|thenR ?_)
  (apply finR;exact .inl rfl;rfl;rfl;rfl;apply zD;exact zG rfl;exact zF)
  (rw [if_neg (by omega),if_pos (by omega)];rfl)
 intro hq
 simp only [decide_eq_false_iff_not] at hq
 (refine zJ<|blkN<|blkN<|thenN<|zL<|vMz ?_;refine lvz (.subI rfl rfl (by omega) (by omega)) ?_;refine vAz ?_;apply zV;refine thenL ?_)
 (apply RW.step;refine zI<|sRz<|vMz ?_;refine lvz (.geqT rfl rfl (by omega)) ?_;refine nNz<|cTz<|zJ<|thenN<|zI<|zM<|zM<|zI ?_;apply CW.pre;refine AnyW.any 6 mixed (by decide +kernel) ?_;(try simp only [tsOf_cons,tsOf_nil,tsOf_app]);refine dvz (.move rfl)<|dvz (.indexAddrL rfl rfl rfl) ?_;apply qF;rfl;rfl;rfl;exact zC;rfl;apply zO;apply zP;exact zN;exact Rd.one' rfl;refine dvz (.move rfl)<|dvz (.indexAddrL rfl rfl rfl) ?_;apply qF;rfl;rfl;rfl;exact zC;rfl;apply zP;exact zN;exact Rd.one' rfl;apply DW.nil;simp only [fsOf_cons,fsOf_nil,fsOf_app,fsOf_tsOf,fsOf_new];refine lvz (.lss rfl rfl)<|vAz<|nNz ?_)
 apply CW.cond
 rfl
 ·intro hq
  simp only [decide_eq_true_eq] at hq
  (refine sRz<|vAz<|nNz<|zK<|blkR<|blkR<|thenR<|thenR<|blkR<|thenR ?_)
  (apply finR;exact .inl rfl;rfl;rfl;rfl;apply zD;exact zG rfl;exact zF)
  (rw [if_pos (by omega)];rfl)
 intro hq
 simp only [decide_eq_false_iff_not] at hq
 (refine zI ?_;apply CW.pre;refine AnyW.any 6 mixed (by decide +kernel) ?_;(try simp only [tsOf_cons,tsOf_nil,tsOf_app]);refine dvz (.move rfl)<|dvz (.indexAddrL rfl rfl rfl) ?_;apply qF;rfl;rfl;rfl;exact zC;rfl;apply zO;apply zP;exact zN;exact Rd.one' rfl;refine dvz (.move rfl)<|dvz (.indexAddrL rfl rfl rfl) ?_;apply qF;rfl;rfl;rfl;exact zC;rfl;apply zP;exact zN;exact Rd.one' rfl;apply DW.nil;simp only [fsOf_cons,fsOf_nil,fsOf_app,fsOf_tsOf,fsOf_new];refine lvz (.gtr rfl rfl)<|vAz<|nNz ?_)
 apply CW.cond
 rfl
 ·intro hq
  simp only [decide_eq_true_eq] at hq
  (refine sRz<|vAz<|nNz<|zK<|blkR<|blkR<|thenR<|thenR<|blkR<|thenR ?_)
  (apply finR;exact .inl rfl;rfl;rfl;rfl;apply zD;exact zG rfl;exact zF)
  (rw [if_neg (by omega),if_pos (by omega)];rfl)
 intro hq
 simp only [decide_eq_false_iff_not] at hq
 (refine zJ<|blkN<|blkN<|thenN<|zL<|vMz ?_;refine lvz (.subI rfl rfl (by omega) (by omega)) ?_;refine vAz ?_;apply zV;refine thenL ?_)
 (apply RW.step;refine zI<|sRz<|vMz ?_;refine lvz (.geqT rfl rfl (by omega)) ?_;refine nNz<|cTz<|zJ<|thenN<|zI<|zM<|zM<|zI ?_;apply CW.pre;refine AnyW.any 6 mixed (by decide +kernel) ?_;(try simp only [tsOf_cons,tsOf_nil,tsOf_app]);refine dvz (.move rfl)<|dvz (.indexAddrL rfl rfl rfl) ?_;apply qF;rfl;rfl;rfl;exact zC;rfl;apply zO;apply zP;exact zN;exact Rd.one' rfl;refine dvz (.move rfl)<|dvz (.indexAddrL rfl rfl rfl) ?_;apply qF;rfl;rfl;rfl;exact zC;rfl;apply zP;exact zN;exact Rd.one' rfl;apply DW.nil;simp only [fsOf_cons,fsOf_nil,fsOf_app,fsOf_tsOf,fsOf_new];refine lvz (.lss rfl rfl)<|vAz<|nNz ?_)
 apply CW.cond
 rfl
 ·intro hq
  simp only [decide_eq_true_eq] at hq
  (refine sRz<|vAz<|nNz<|zK<|blkR<|blkR<|thenR<|thenR<|blkR<|thenR ?_)
  (apply finR;exact .inl rfl;rfl;rfl;rfl;apply zD;exact zG rfl;exact zF)
  (rw [if_pos (by omega)];rfl)
 intro hq
 simp only [decide_eq_false_iff_not] at hq
 (refine zI ?_;apply CW.pre;refine AnyW.any 6 mixed (by decide +kernel) ?_;(try simp only [tsOf_cons,tsOf_nil,tsOf_app]);refine dvz (.move rfl)<|dvz (.indexAddrL rfl rfl rfl) ?_;apply qF;rfl;rfl;rfl;exact zC;rfl;apply zO;apply zP;exact zN;exact Rd.one' rfl;refine dvz (.move rfl)<|dvz (.indexAddrL rfl rfl rfl) ?_;apply qF;rfl;rfl;rfl;exact zC;rfl;apply zP;exact zN;exact Rd.one' rfl;apply DW.nil;simp only [fsOf_cons,fsOf_nil,fsOf_app,fsOf_tsOf,fsOf_new];refine lvz (.gtr rfl rfl)<|vAz<|nNz ?_)
 apply CW.cond
 rfl
 ·intro hq
  simp only [decide_eq_true_eq] at hq
  (refine sRz<|vAz<|nNz<|zK<|blkR<|blkR<|thenR<|thenR<|blkR<|thenR ?_)
  (apply finR;exact .inl rfl;rfl;rfl;rfl;apply zD;exact zG rfl;exact zF)
  (rw [if_neg (by omega),if_pos (by omega)];rfl)
 intro hq
 simp only [decide_eq_false_iff_not] at hq
 (refine zJ<|blkN<|blkN<|thenN<|zL<|vMz ?_;refine lvz (.subI rfl rfl (by omega) (by omega)) ?_;refine vAz ?_;apply zV;refine thenL ?_)
 (apply RW.step;refine zI<|sRz<|vMz ?_;refine lvz (.geqF rfl rfl (by omega)) ?_;refine nNz<|cFz<|CW.exit<|thenE<|thenE<|blkE rfl<|thenN<|sRz<|vAz<|nNz<|zK ?_)
 (apply finR;exact .inl rfl;rfl;rfl;rfl;apply zD;exact zG rfl;exact zF)
 (rw [if_neg (by omega),if_neg (by omega)];rfl)
theorem moves_calls (n:Nat) (hn:n < M256) (w:World):Calls Tryz.prog 70 #[wv n] w (Ret w (.int .i64 ((min n 256:Nat):Int))):=by
 refine enter (args:=[_]) _ [] [] Tryz.func70 rfl Tryz.ntmps70 rfl (by simp) .nil ?_
 by_cases h:n < 18446744073709551616
 ·have h0:=Small_calls n hn
  rw [if_pos h,decide_eq_true h] at h0
  by_cases h':n < 256
  ·(refine sRz ?_;apply zT;rfl;rfl;intro _;refine vAz<|nNz<|zI<|sRz<|ldz rfl .head (qH rfl) ?_;apply zS;rfl;rfl;infer_instance;exact .cons rfl .nil;intro w _;exact h0 w;refine vMz ?_;refine vEz ?_;refine vEz ?_;refine vAz<|vAz<|nSz<|vMz<|vMz<|gTz<|vMz<|gTz ?_;refine lvz (.lssT rfl rfl (by omega)) ?_;refine pTz<|nNz<|cTz<|sRz<|vMz ?_;refine lvz (.convI rfl (by omega) (by omega)) ?_;refine vAz<|nNz<|zK<|thenR ?_)
   (apply finR;exact .inl rfl;rfl;rfl;rfl;apply zD;exact zG rfl;exact zF)
   rw [Nat.min_eq_left (by omega)];rfl
  ·(refine sRz ?_;apply zT;rfl;rfl;intro _;refine vAz<|nNz<|zI<|sRz<|ldz rfl .head (qH rfl) ?_;apply zS;rfl;rfl;infer_instance;exact .cons rfl .nil;intro w _;exact h0 w;refine vMz ?_;refine vEz ?_;refine vEz ?_;refine vAz<|vAz<|nSz<|vMz<|vMz<|gTz<|vMz<|gTz ?_;refine lvz (.lssF rfl rfl (by omega)) ?_;refine pTz<|nNz<|cFz<|zJ<|thenN<|sRz<|vAz<|nNz<|zK ?_)
   (apply finR;exact .inl rfl;rfl;rfl;rfl;apply zD;exact zG rfl;exact zF)
   rw [Nat.min_eq_right (by omega)];rfl
 ·have h0:=Small_calls n hn
  rw [if_neg h,decide_eq_false h] at h0
  (refine sRz ?_;apply zT;rfl;rfl;intro _;refine vAz<|nNz<|zI<|sRz<|ldz rfl .head (qH rfl) ?_;apply zS;rfl;rfl;infer_instance;exact .cons rfl .nil;intro w _;exact h0 w;refine vMz ?_;refine vEz ?_;refine vEz ?_;refine vAz<|vAz<|nSz<|vMz<|vMz<|gFz<|gFz<|pFz<|nNz<|cFz<|zJ<|thenN<|sRz<|vAz ?_;refine nNz<|zK ?_)
  (apply finR;exact .inl rfl;rfl;rfl;rfl;apply zD;exact zG rfl;exact zF)
  rw [Nat.min_eq_right (by omega)];rfl
theorem or_bit (x c:Nat) (hx:x % 2=0) (hc:c < 2):x |||c=x+c:=by
 have h:=Nat.two_pow_add_eq_or_of_lt (i:=1) (b:=c) (by simpa using hc) (x / 2)
 have e:2 ^ 1 * (x / 2)=x:=by omega
 rw [e] at h
 exact h.symm
theorem fold_bit (n c:Nat) (hn:n % 2=0) (hc:c < 2) (hM:n+c < M256):#[Value.int .u64 ((n % 18446744073709551616 |||c:Nat):Int),.int .u64 ((n / 18446744073709551616 % 18446744073709551616:Nat):Int),.int .u64 ((n / 340282366920938463463374607431768211456 % 18446744073709551616:Nat):Int),.int .u64 ((n / 6277101735386680763835789423207666416102355444464034512896 % 18446744073709551616:Nat):Int)]=wc (n+c):=by
 rw [or_bit _ _ (by omega) hc]
 simp only [M256] at hM
 exact wc_val (by omega) (by omega) (by omega) (by omega) (by omega)
theorem bit_and (a k:Nat) (hk:k < 256):a / 2 ^ (64 * (k / 64)) % 18446744073709551616 / 2 ^ (k % 64) &&& 1=a / 2 ^ k % 2:=by
 rw [Nat.and_one_is_mod,show (18446744073709551616:Nat)=2 ^ (k % 64+(64 - k % 64)) by rw [show k % 64+(64 - k % 64)=64 by omega]]
 rw [Nat.pow_add,Nat.mod_mul_right_div_self,Nat.div_div_eq_div_mul,← Nat.pow_add,show 64 * (k / 64)+k % 64=k by omega]
 obtain ⟨j,hj⟩:∃ j,64 - k % 64=j+1:=⟨63 - k % 64,by omega⟩
 rw [hj,Nat.pow_succ,Nat.mod_mod_of_dvd _ ⟨2 ^ j,by rw [Nat.mul_comm]⟩]
theorem div_step (A b q r c:Nat) (hb:0 < b) (hq:q=A / b) (hr:r=A % b) (hc:c < 2) (h:b≤2 * r+c):(2 * A+c) / b=2 * q+1∧(2 * A+c) % b=2 * r+c - b:=by
 have h1:=Nat.div_add_mod A b
 have h2:=Nat.mod_lt A hb
 rw [← hq,← hr] at h1
 rw [← hr] at h2
 refine (Nat.div_mod_unique hb).2 ⟨?_,by omega⟩
 have h3:b * (2 * q+1)=2 * (b * q)+b:=by rw [Nat.mul_add,Nat.mul_left_comm,Nat.mul_one]
 rw [h3];omega
theorem div_step' (A b q r c:Nat) (hb:0 < b) (hq:q=A / b) (hr:r=A % b) (hc:c < 2) (h:¬ b≤2 * r+c):(2 * A+c) / b=2 * q∧(2 * A+c) % b=2 * r+c:=by
 have h1:=Nat.div_add_mod A b
 rw [← hq,← hr] at h1
 refine (Nat.div_mod_unique hb).2 ⟨?_,by omega⟩
 have h3:b * (2 * q)=2 * (b * q):=Nat.mul_left_comm _ _ _
 rw [h3];omega
theorem sub_eq (r c b n:Nat) (hr:r < b) (hb:b < M256) (hc:c < 2) (hn:n=(r+r) % M256) (h:b≤2 * r+c):(n+c+M256 - b) % M256=2 * r+c - b:=by
 simp only [M256] at *
 omega
theorem Div_calls0 (a:Nat) (w:World):Calls Tryz.prog 20 #[wv a,wv 0] w (Ret w (.tuple #[wv 0,wv 0])):=by
 refine enter (args:=[_,_]) _ [] [] Tryz.func20 rfl Tryz.ntmps20 rfl (by simp) .nil ?_
 (refine sRz ?_;apply zT;rfl;rfl;intro _;apply zT;rfl;rfl;intro _;apply LW.allocW;rfl;intro _;apply LW.allocW;rfl;intro _;refine nSz ?_;apply LW.allocW;rfl;intro _;apply LW.allocW;rfl;intro _;refine nNz<|zI<|sRz<|ldz rfl (.tail (.tail (.tail (.tail .head)))) (qH rfl) ?_;apply LW.v0;rfl;rfl;exact ValP.buildW0;refine lvz (.eqWT rfl rfl (by with_reducible rfl)) ?_;refine nNz<|cTz<|zI ?_;apply CW.pre;refine AnyW.any 3 mixed (by decide +kernel) ?_;(try simp only [tsOf_cons,tsOf_nil,tsOf_app]);apply qF;rfl;rfl;rfl;exact zC;rfl;apply zO;apply zP;exact zN;exact qH rfl;apply qF;rfl;rfl;rfl;exact zC;rfl;apply zP;exact zN;exact qH rfl;apply DW.store;rfl;rfl;exact zC;rfl;rfl;apply TSet.tail;apply TSet.tail;apply TSet.tail;apply TSet.head;exact zN;exact zN;apply Wr.whole;rfl;rfl;rfl;apply DW.nil;simp only [fsOf_cons,fsOf_nil,fsOf_app,fsOf_tsOf,fsOf_new];apply zR;rfl;rfl;apply qD;apply qD;apply qA;apply Wr.whole;rfl;rfl;rfl;refine nNz<|zK<|thenR ?_)
 (apply finR;exact .inl rfl;rfl;rfl;rfl;apply zD;apply zH;rfl;apply qG;apply zX;apply zX;apply zX;apply zY;exact qH rfl;apply zD;apply zH;rfl;apply qG;apply zX;apply zX;apply zY;exact qH rfl;exact zF)
 rfl
theorem Div_calls (a b:Nat) (ha:a < M256) (hb:b < M256) (h0:b ≠ 0) (w:World):Calls Tryz.prog 20 #[wv a,wv b] w (Ret w (.tuple #[wv (a / b),wv (a % b)])):=by
 have hz:(0:Nat) < M256:=by decide
 have hb0:0 < b:=Nat.pos_of_ne_zero h0
 obtain ⟨R,hR⟩:∃ R:Nat→Nat,∀ m,R m=a / 2 ^ m % b:=⟨_,fun _=>rfl⟩
 obtain ⟨D,hD⟩:∃ D:Nat→Nat,∀ m,D m=a / 2 ^ m / b:=⟨_,fun _=>rfl⟩
 have hRb:∀ m,R m < b:=fun m=>by rw [hR];exact Nat.mod_lt _ hb0
 have hDm:∀ m,D m≤a / 2 ^ m:=fun m=>by rw [hD];exact Nat.div_le_self _ _
 have hAk:∀ k,a / 2 ^ k=2 * (a / 2 ^ (k+1))+a / 2 ^ k % 2:=fun k=>by rw [Nat.pow_succ,← Nat.div_div_eq_div_mul];omega
 have hAm:∀ m,a / 2 ^ m≤a:=fun m=>Nat.div_le_self _ _
 refine enter (args:=[_,_]) _ [] [] Tryz.func20 rfl Tryz.ntmps20 rfl (by simp) .nil ?_
 (refine sRz ?_;apply zT;rfl;rfl;intro _;apply zT;rfl;rfl;intro _;apply LW.allocW;rfl;intro _;apply LW.allocW;rfl;intro _;refine nSz ?_;apply LW.allocW;rfl;intro _;apply LW.allocW;rfl;intro _;refine nNz<|zI<|sRz<|ldz rfl (.tail (.tail (.tail (.tail .head)))) (qH rfl) ?_;apply LW.v0;rfl;rfl;exact ValP.buildW0;refine lvz (.eqWF rfl rfl (by assumption) (by assumption) (by assumption)) ?_;refine nNz<|cFz<|zJ<|thenN<|zI<|sRz<|ldz rfl (.tail (.tail (.tail (.tail (.tail .head))))) (qH rfl) ?_)
 apply LW.inline
 rfl
 rfl
 infer_instance
 (exact .cons rfl .nil)
 rfl
 exact Tryz.func64
 rfl
 exact Tryz.ntmps64
 rfl
 (refine sRz ?_;apply zT;rfl;rfl;intro _;refine vAz<|nSz ?_;apply LW.v0;rfl;rfl;apply ValP.makeFunc;exact ArgsOk.nil;exact .cons rfl .nil;refine vAz<|nNz<|zK ?_)
 apply inI
 (exact .inl rfl)
 (exact Shut.nil)
 rfl
 (apply zD;exact zG rfl;exact zF)
 rfl
 (refine nNz<|zM ?_)
 apply CW.rangeFunc
 rfl
 rfl
 infer_instance
 rfl
 exact Tryz.func115
 rfl
 exact Tryz.ntmps115
 rfl
 rfl
 intro l r rec hrec
 (refine sRz<|vAz<|nNz<|zM ?_)
 rename_i b2 b3 b4 b5 b6 b7 bd
 refine CW.loop (fun m:Nat=>([(3,.int .i64 ((m:Int) - 1)),(0,.func (.yield l) #[] #[]),(1,.pointer (some ⟨bd,0,none⟩))],
  [(l,rdy rec),(r,.deferred (some [])),(bd,.cells (wc a) 29 (0,0)),(b7,.cells (wc (R m)) 29 (0,0)),(b6,.cells (wc (D m)) 29 (0,0)),(b5,.cells (wc 0) 29 (0,0)),(b4,.cells (wc 0) 29 (0,0)),(b3,.cells (wc b) 29 (0,0)),(b2,.cells (wc a) 29 (0,0))]))
  (fun m=>m≤256) (fun m=>m) 256 (Nat.le_refl _) ⟨rfl,rfl,rfl,trivial⟩ ?_ ?_
 ·rw [hR,hD,show a / 2 ^ 256=0 from Nat.div_eq_of_lt ha,Nat.zero_mod,Nat.zero_div]
  exact qO _
 ·intro m hm
  dsimp only
  rcases m with _|k
  ·(refine zI<|sRz<|vMz ?_;refine lvz (.geqF rfl rfl (by omega)) ?_;refine nNz<|cFz<|CW.exit<|thenE<|thenE<|blkE rfl ?_)
   apply rangeN
   (exact .inr rfl)
   (exact Shut.nil)
   (apply qA)
   (refine blkN<|thenM<|zI ?_;apply CW.pre;refine AnyW.any 3 mixed (by decide +kernel) ?_;(try simp only [tsOf_cons,tsOf_nil,tsOf_app]);apply qF;rfl;rfl;rfl;exact zC;rfl;apply zO;apply zO;apply zO;apply zO;apply zP;exact zN;exact qH rfl;apply qF;rfl;rfl;rfl;exact zC;rfl;apply zO;apply zO;apply zO;apply zP;exact zN;exact qH rfl;apply DW.store;rfl;rfl;exact zC;rfl;rfl;apply TSet.tail;apply TSet.tail;apply TSet.tail;apply TSet.tail;apply TSet.tail;apply TSet.tail;apply TSet.head;exact zN;exact zN;apply Wr.whole;rfl;rfl;rfl;apply DW.nil;simp only [fsOf_cons,fsOf_nil,fsOf_app,fsOf_tsOf,fsOf_new];apply zR;rfl;rfl;apply qD;apply qD;apply qD;apply qD;apply qD;apply qA;apply Wr.whole;rfl;rfl;rfl;refine nNz<|zK ?_)
   (apply finRM;exact .inl rfl;apply Shut.cons;apply qD;apply qA;exact Shut.nil;rfl;rfl;apply zD;apply zH;rfl;apply qG;apply zX;apply zX;apply zX;apply zX;apply zX;apply zX;apply zY;exact qH rfl;apply zD;apply zH;rfl;apply qG;apply zX;apply zX;apply zX;apply zX;apply zX;apply zY;exact qH rfl;exact zF)
   rw [hD,hR,Nat.pow_zero,Nat.div_one];rfl
  ·have e0:(((k+1:Nat):Int) - 1)=(k:Int):=by omega
   rw [e0]
   have hbit:a / 2 ^ (64 * (0+k / 64 * 1)) % 18446744073709551616 / 2 ^ (k % 64) &&& 1=a / 2 ^ k % 2:=by rw [show 0+k / 64 * 1=k / 64 by omega];exact bit_and a k (by omega)
   obtain ⟨c,hc⟩:∃ c,c=a / 2 ^ k % 2:=⟨_,rfl⟩
   rw [← hc] at hbit
   have hc2:c < 2:=by omega
   have hak:=hAk k
   rw [← hc] at hak
   have hrb:=hRb (k+1)
   have hrb':=hRb k
   have hdm:=hDm (k+1)
   have hdm':=hDm k
   have ham:=hAm k
   have ham':=hAm (k+1)
   have hx:b≤2 * R (k+1)+c→D k=2 * D (k+1)+1∧R k=2 * R (k+1)+c - b:=fun h=>by
    rw [hD k,hR k,hak];exact div_step _ b _ _ c hb0 (hD _) (hR _) hc2 h
   have hy:¬ b≤2 * R (k+1)+c→D k=2 * D (k+1)∧R k=2 * R (k+1)+c:=fun h=>by
    rw [hD k,hR k,hak];exact div_step' _ b _ _ c hb0 (hD _) (hR _) hc2 h
   clear hR hD hRb hDm hAk hAm
   obtain ⟨n,hn⟩:∃ n,n=(R (k+1)+R (k+1)) % M256:=⟨_,rfl⟩
   have hA:=Add_calls (R (k+1)) (R (k+1)) (by omega) (by omega)
   have hQ:=Add_calls (D (k+1)) (D (k+1)) (by omega) (by omega)
   rw [← hn] at hA
   have hn2:n % 2=0:=by simp only [M256] at *;omega
   have hnM:n+c < M256:=by simp only [M256] at *;omega
   have hf:=fold_bit n c hn2 hc2 hnM
   have hS:=Sub_calls (n+c) b hnM hb
   have hC0:=Cmp_calls (n+c) b hnM hb
   by_cases h:b≤2 * R (k+1)+c
   ·obtain ⟨x1,x2⟩:=hx h
    have e7:(n+c+M256 - b) % M256=R k:=by rw [x2];exact sub_eq _ c b n hrb hb hc2 hn h
    have hd:D (k+1)+D (k+1)+1 < M256:=by omega
    have hdd:(D (k+1)+D (k+1)) % M256=D (k+1)+D (k+1):=Nat.mod_eq_of_lt (by omega)
    have e6:(D (k+1)+D (k+1)) % M256+1=D k:=by rw [hdd];omega
    have hf6:=fold_bit ((D (k+1)+D (k+1)) % M256) 1 (by rw [hdd];omega) (by decide) (by rw [hdd];omega)
    rw [e6] at hf6
    by_cases h1:M256≤R (k+1)+R (k+1)
    ·rw [decide_eq_true h1] at hA
     have hC:=hC0
     (refine zI<|sRz<|vMz ?_;refine lvz (.geqT rfl rfl (by omega)) ?_;refine nNz<|cTz<|zJ<|thenN<|zI<|zM<|sRz<|vMz<|vMz ?_;refine lvz (.quoZL rfl rfl (by decide) (by omega) (by omega)) ?_;refine lvz (.indexAddrA rfl rfl rfl (by omega)) ?_;apply LW.load;rfl;rfl;apply qG;apply zX;apply zX;apply zY;apply Rd.one';apply nth_wc;omega;refine vMz ?_;refine lvz (.remZL rfl rfl (by decide) (by omega)) ?_;refine lvz (.shrU rfl rfl (by omega)) ?_;apply LW.v0;rfl;rfl;apply ValP.andUL;rfl;rfl;decide;apply div64;omega;omega)
     rw [hbit]
     apply LW.yield
     rfl
     rfl
     (exact .cons rfl .nil)
     exact hrec
     (apply zY)
     rfl
     rfl
     (refine zL<|vAz ?_;apply zV;apply beginI;apply qA;refine zM<|sRz<|ldz rfl (.tail (.tail (.tail .head))) (qH rfl)<|ldz rfl (.tail (.tail (.tail .head))) (qH rfl) ?_;apply zS;rfl;rfl;infer_instance;exact .cons rfl (.cons rfl .nil);intro w _;exact hA w;refine vMz ?_;refine vEz ?_;refine vEz ?_;apply LW.allocW;rfl;intro _;apply zR;rfl;rfl;apply qA;apply Wr.whole;rfl;rfl;rfl;refine vAz<|nSz<|ldz rfl .head (qH rfl) ?_;apply zR;rfl;rfl;apply qD;apply qD;apply qD;apply qD;apply qA;apply Wr.whole;rfl;rfl;rfl;refine nSz<|lvz (.indexAddrL rfl rfl rfl)<|ldz rfl (.tail (.tail (.tail (.tail .head)))) (Rd.one' rfl)<|vMz ?_;refine lvz (.orU rfl rfl (by omega) (by omega)) ?_;refine lvz (.indexAddrL rfl rfl rfl) ?_;apply zR;rfl;rfl;apply qD;apply qD;apply qD;apply qD;apply qA;apply Wr.cells;rfl;rfl;simp only [wc,List.size_toArray,List.length_cons,List.length_nil];omega;simp only [fillC,wc,wrCells,Value.cells,qL,qI,qN,qM,Nat.reduceAdd,Nat.reduceMul,qP,Nat.mul_one];rfl;refine nSz<|ldz rfl (.tail (.tail (.tail (.tail (.tail .head))))) (qH rfl)<|ldz rfl (.tail (.tail (.tail (.tail (.tail .head))))) (qH rfl) ?_;apply zS;rfl;rfl;infer_instance;exact .cons rfl (.cons rfl .nil);intro w _;exact hQ w;refine vMz ?_;refine vEz ?_;refine vEz ?_;apply zR;rfl;rfl;apply qD;apply qD;apply qD;apply qD;apply qD;apply qA;apply Wr.whole;rfl;rfl;rfl;refine nSz<|vMz<|vMz ?_;(iterate 4 refine gFz ?_);refine pTz<|nNz<|cTz<|sRz<|ldz rfl (.tail (.tail (.tail (.tail .head)))) (qH rfl)<|ldz rfl (.tail (.tail (.tail (.tail (.tail (.tail (.tail (.tail .head)))))))) (qH rfl) ?_;apply zS;rfl;rfl;infer_instance;exact .cons rfl (.cons rfl .nil);intro w _;rw [hf];exact hS w;refine vMz ?_;refine vEz ?_;refine vEz ?_;apply zR;rfl;rfl;apply qD;apply qD;apply qD;apply qD;apply qA;apply Wr.whole;rfl;rfl;rfl;refine nNz<|zL<|lvz (.indexAddrL rfl rfl rfl)<|ldz rfl (.tail (.tail (.tail (.tail (.tail .head))))) (Rd.one' rfl) ?_;refine lvz (.orUL rfl rfl (by decide) (by omega) (by omega)) ?_;refine lvz (.indexAddrL rfl rfl rfl) ?_;apply zR;rfl;rfl;apply qD;apply qD;apply qD;apply qD;apply qD;apply qA;apply Wr.cells;rfl;rfl;simp only [wc,List.size_toArray,List.length_cons,List.length_nil];omega;simp only [fillC,wc,wrCells,Value.cells,qL,qI,qN,qM,Nat.reduceAdd,Nat.reduceMul,qP,Nat.mul_one];rfl;apply zV;refine blkN ?_;apply roundN;apply qD;apply qA;refine lvz (.notT rfl (by with_reducible rfl)) ?_;refine nNz<|cFz<|zJ<|blkN<|thenN<|zL<|vMz ?_;refine lvz (.subI rfl rfl (by omega) (by omega)) ?_;refine vAz ?_;apply zV)
     rw [e7,hf6]
     refine thenX ⟨rfl,k,by omega,by omega,⟨rfl,rfl,rfl,trivial⟩,?_⟩
     (apply qS;exact qO _)
    ·rw [decide_eq_false h1] at hA
     have h2:¬ n+c < b:=by rw [hn,Nat.mod_eq_of_lt (by omega)];omega
     obtain ⟨z,hz0,hC⟩:∃ z:Int,0≤z∧∀ w,Calls Tryz.prog 65 #[wv (n+c),wv b] w (Ret w (.int .i64 z)):=by
      rw [if_neg h2] at hC0
      by_cases h3:b < n+c
      ·rw [if_pos h3] at hC0;exact ⟨1,by decide,hC0⟩
      ·rw [if_neg h3] at hC0;exact ⟨0,by decide,hC0⟩
     (refine zI<|sRz<|vMz ?_;refine lvz (.geqT rfl rfl (by omega)) ?_;refine nNz<|cTz<|zJ<|thenN<|zI<|zM<|sRz<|vMz<|vMz ?_;refine lvz (.quoZL rfl rfl (by decide) (by omega) (by omega)) ?_;refine lvz (.indexAddrA rfl rfl rfl (by omega)) ?_;apply LW.load;rfl;rfl;apply qG;apply zX;apply zX;apply zY;apply Rd.one';apply nth_wc;omega;refine vMz ?_;refine lvz (.remZL rfl rfl (by decide) (by omega)) ?_;refine lvz (.shrU rfl rfl (by omega)) ?_;apply LW.v0;rfl;rfl;apply ValP.andUL;rfl;rfl;decide;apply div64;omega;omega)
     rw [hbit]
     apply LW.yield
     rfl
     rfl
     (exact .cons rfl .nil)
     exact hrec
     (apply zY)
     rfl
     rfl
     (refine zL<|vAz ?_;apply zV;apply beginI;apply qA;refine zM<|sRz<|ldz rfl (.tail (.tail (.tail .head))) (qH rfl)<|ldz rfl (.tail (.tail (.tail .head))) (qH rfl) ?_;apply zS;rfl;rfl;infer_instance;exact .cons rfl (.cons rfl .nil);intro w _;exact hA w;refine vMz ?_;refine vEz ?_;refine vEz ?_;apply LW.allocW;rfl;intro _;apply zR;rfl;rfl;apply qA;apply Wr.whole;rfl;rfl;rfl;refine vAz<|nSz<|ldz rfl .head (qH rfl) ?_;apply zR;rfl;rfl;apply qD;apply qD;apply qD;apply qD;apply qA;apply Wr.whole;rfl;rfl;rfl;refine nSz<|lvz (.indexAddrL rfl rfl rfl)<|ldz rfl (.tail (.tail (.tail (.tail .head)))) (Rd.one' rfl)<|vMz ?_;refine lvz (.orU rfl rfl (by omega) (by omega)) ?_;refine lvz (.indexAddrL rfl rfl rfl) ?_;apply zR;rfl;rfl;apply qD;apply qD;apply qD;apply qD;apply qA;apply Wr.cells;rfl;rfl;simp only [wc,List.size_toArray,List.length_cons,List.length_nil];omega;simp only [fillC,wc,wrCells,Value.cells,qL,qI,qN,qM,Nat.reduceAdd,Nat.reduceMul,qP,Nat.mul_one];rfl;refine nSz<|ldz rfl (.tail (.tail (.tail (.tail (.tail .head))))) (qH rfl)<|ldz rfl (.tail (.tail (.tail (.tail (.tail .head))))) (qH rfl) ?_;apply zS;rfl;rfl;infer_instance;exact .cons rfl (.cons rfl .nil);intro w _;exact hQ w;refine vMz ?_;refine vEz ?_;refine vEz ?_;apply zR;rfl;rfl;apply qD;apply qD;apply qD;apply qD;apply qD;apply qA;apply Wr.whole;rfl;rfl;rfl;refine nSz<|vMz<|vMz<|gTz<|ldz rfl (.tail (.tail (.tail (.tail .head)))) (qH rfl)<|gTz<|ldz rfl (.tail (.tail (.tail (.tail (.tail (.tail (.tail (.tail .head)))))))) (qH rfl)<|gTz ?_;apply zS;rfl;rfl;infer_instance;exact .cons rfl (.cons rfl .nil);intro w _;rw [hf];exact hC w;refine gTz ?_;refine lvz (.geqT rfl rfl (by omega)) ?_;refine pFz<|nNz<|cTz<|sRz<|ldz rfl (.tail (.tail (.tail (.tail .head)))) (qH rfl)<|ldz rfl (.tail (.tail (.tail (.tail (.tail (.tail (.tail (.tail .head)))))))) (qH rfl) ?_;apply zS;rfl;rfl;infer_instance;exact .cons rfl (.cons rfl .nil);intro w _;rw [hf];exact hS w;refine vMz ?_;refine vEz ?_;refine vEz ?_;apply zR;rfl;rfl;apply qD;apply qD;apply qD;apply qD;apply qA;apply Wr.whole;rfl;rfl;rfl;refine nNz<|zL<|lvz (.indexAddrL rfl rfl rfl)<|ldz rfl (.tail (.tail (.tail (.tail (.tail .head))))) (Rd.one' rfl) ?_;refine lvz (.orUL rfl rfl (by decide) (by omega) (by omega)) ?_;refine lvz (.indexAddrL rfl rfl rfl) ?_;apply zR;rfl;rfl;apply qD;apply qD;apply qD;apply qD;apply qD;apply qA;apply Wr.cells;rfl;rfl;simp only [wc,List.size_toArray,List.length_cons,List.length_nil];omega;simp only [fillC,wc,wrCells,Value.cells,qL,qI,qN,qM,Nat.reduceAdd,Nat.reduceMul,qP,Nat.mul_one];rfl;apply zV;refine blkN ?_;apply roundN;apply qD;apply qA;refine lvz (.notT rfl (by with_reducible rfl)) ?_;refine nNz<|cFz<|zJ<|blkN<|thenN<|zL<|vMz ?_;refine lvz (.subI rfl rfl (by omega) (by omega)) ?_;refine vAz ?_;apply zV)
     rw [e7,hf6]
     refine thenX ⟨rfl,k,by omega,by omega,⟨rfl,rfl,rfl,trivial⟩,?_⟩
     (apply qS;exact qO _)
   ·obtain ⟨x1,x2⟩:=hy h
    have h1:¬ M256≤R (k+1)+R (k+1):=by omega
    rw [decide_eq_false h1] at hA
    have h2:n+c < b:=by rw [hn,Nat.mod_eq_of_lt (by omega)];omega
    have e7:n+c=R k:=by rw [hn,Nat.mod_eq_of_lt (by omega)];omega
    have hd:D (k+1)+D (k+1) < M256:=by omega
    have e6:(D (k+1)+D (k+1)) % M256=D k:=by rw [Nat.mod_eq_of_lt (by omega)];omega
    have hC:=hC0
    rw [if_pos h2] at hC
    (refine zI<|sRz<|vMz ?_;refine lvz (.geqT rfl rfl (by omega)) ?_;refine nNz<|cTz<|zJ<|thenN<|zI<|zM<|sRz<|vMz<|vMz ?_;refine lvz (.quoZL rfl rfl (by decide) (by omega) (by omega)) ?_;refine lvz (.indexAddrA rfl rfl rfl (by omega)) ?_;apply LW.load;rfl;rfl;apply qG;apply zX;apply zX;apply zY;apply Rd.one';apply nth_wc;omega;refine vMz ?_;refine lvz (.remZL rfl rfl (by decide) (by omega)) ?_;refine lvz (.shrU rfl rfl (by omega)) ?_;apply LW.v0;rfl;rfl;apply ValP.andUL;rfl;rfl;decide;apply div64;omega;omega)
    rw [hbit]
    apply LW.yield
    rfl
    rfl
    (exact .cons rfl .nil)
    exact hrec
    (apply zY)
    rfl
    rfl
    (refine zL<|vAz ?_;apply zV;apply beginI;apply qA;refine zM<|sRz<|ldz rfl (.tail (.tail (.tail .head))) (qH rfl)<|ldz rfl (.tail (.tail (.tail .head))) (qH rfl) ?_;apply zS;rfl;rfl;infer_instance;exact .cons rfl (.cons rfl .nil);intro w _;exact hA w;refine vMz ?_;refine vEz ?_;refine vEz ?_;apply LW.allocW;rfl;intro _;apply zR;rfl;rfl;apply qA;apply Wr.whole;rfl;rfl;rfl;refine vAz<|nSz<|ldz rfl .head (qH rfl) ?_;apply zR;rfl;rfl;apply qD;apply qD;apply qD;apply qD;apply qA;apply Wr.whole;rfl;rfl;rfl;refine nSz<|lvz (.indexAddrL rfl rfl rfl)<|ldz rfl (.tail (.tail (.tail (.tail .head)))) (Rd.one' rfl)<|vMz ?_;refine lvz (.orU rfl rfl (by omega) (by omega)) ?_;refine lvz (.indexAddrL rfl rfl rfl) ?_;apply zR;rfl;rfl;apply qD;apply qD;apply qD;apply qD;apply qA;apply Wr.cells;rfl;rfl;simp only [wc,List.size_toArray,List.length_cons,List.length_nil];omega;simp only [fillC,wc,wrCells,Value.cells,qL,qI,qN,qM,Nat.reduceAdd,Nat.reduceMul,qP,Nat.mul_one];rfl;refine nSz<|ldz rfl (.tail (.tail (.tail (.tail (.tail .head))))) (qH rfl)<|ldz rfl (.tail (.tail (.tail (.tail (.tail .head))))) (qH rfl) ?_;apply zS;rfl;rfl;infer_instance;exact .cons rfl (.cons rfl .nil);intro w _;exact hQ w;refine vMz ?_;refine vEz ?_;refine vEz ?_;apply zR;rfl;rfl;apply qD;apply qD;apply qD;apply qD;apply qD;apply qA;apply Wr.whole;rfl;rfl;rfl;refine nSz<|vMz<|vMz<|gTz<|ldz rfl (.tail (.tail (.tail (.tail .head)))) (qH rfl)<|gTz<|ldz rfl (.tail (.tail (.tail (.tail (.tail (.tail (.tail (.tail .head)))))))) (qH rfl)<|gTz ?_;apply zS;rfl;rfl;infer_instance;exact .cons rfl (.cons rfl .nil);intro w _;rw [hf];exact hC w;refine gTz ?_;refine lvz (.geqF rfl rfl (by omega)) ?_;refine pFz<|nNz<|cFz<|zJ<|blkN ?_;apply roundN;apply qD;apply qA;refine lvz (.notT rfl (by with_reducible rfl)) ?_;refine nNz<|cFz<|zJ<|blkN<|thenN<|zL<|vMz ?_;refine lvz (.subI rfl rfl (by omega) (by omega)) ?_;refine vAz ?_;apply zV)
    rw [hf,e7,e6]
    refine thenX ⟨rfl,k,by omega,by omega,⟨rfl,rfl,rfl,trivial⟩,?_⟩
    (apply qS;exact qO _)


def wcs (l:List Nat):List Value:=l.flatMap fun a=>(wc a).toList
theorem wcs_len (l:List Nat):∀ a∈l,((wc a).toList).length=4:=fun _ _=>rfl
theorem take_step (l:List Nat) (m:Nat) (h:m < l.length):(l.take (m+1)).sum=(l.take m).sum+l[m]:=by
 rw [List.take_succ_eq_append_getElem h,List.sum_append];simp
def bl (a m:Nat):List Nat:=(List.range m).map fun n=>a / 2 ^ n % 2
theorem pow_pos2 (k:Nat):0 < 2 ^ k:=Nat.pow_pos (by decide)


structure OpV where
 c:Nat
 nm:List UInt8
 tk:Nat
 ly:Nat
 dt:Nat
def opl (x:OpV):List Value:=[.int .u8 (x.c:Int),sv x.nm,.int .i64 (x.tk:Int),.int .i64 (x.ly:Int),.int .i64 (x.dt:Int)]
abbrev opc (x:OpV):Array Value:=(opl x).toArray
def opcs (l:List OpV):List Value:=l.flatMap opl
theorem opl_len (l:List OpV):∀ x∈l,(opl x).length=5:=fun _ _=>rfl
def plainOps:List OpV:=[
 ⟨0,[83,84,79,80],0,0,0⟩,
 ⟨1,[65,68,68],2,1,0⟩,
 ⟨2,[77,85,76],2,1,0⟩,
 ⟨3,[83,85,66],2,1,0⟩,
 ⟨4,[68,73,86],2,1,0⟩,
 ⟨6,[77,79,68],2,1,0⟩,
 ⟨16,[76,84],2,1,0⟩,
 ⟨17,[71,84],2,1,0⟩,
 ⟨20,[69,81],2,1,0⟩,
 ⟨21,[73,83,90,69,82,79],1,1,0⟩,
 ⟨22,[65,78,68],2,1,0⟩,
 ⟨23,[79,82],2,1,0⟩,
 ⟨24,[88,79,82],2,1,0⟩,
 ⟨25,[78,79,84],1,1,0⟩,
 ⟨27,[83,72,76],2,1,0⟩,
 ⟨28,[83,72,82],2,1,0⟩,
 ⟨32,[72,65,83,72],2,1,0⟩,
 ⟨48,[65,68,68,82,69,83,83],0,1,0⟩,
 ⟨49,[66,65,76,65,78,67,69],1,1,0⟩,
 ⟨50,[79,82,73,71,73,78],0,1,0⟩,
 ⟨51,[67,65,76,76,69,82],0,1,0⟩,
 ⟨52,[67,65,76,76,86,65,76,85,69],0,1,0⟩,
 ⟨53,[68,65,84,65,76,79,65,68],1,1,0⟩,
 ⟨54,[68,65,84,65,83,73,90,69],0,1,0⟩,
 ⟨55,[68,65,84,65,67,79,80,89],3,0,0⟩,
 ⟨61,[82,69,84,85,82,78,83,73,90,69],0,1,0⟩,
 ⟨62,[82,69,84,85,82,78,67,79,80,89],3,0,0⟩,
 ⟨66,[84,73,77,69],0,1,0⟩,
 ⟨67,[78,85,77,66,69,82],0,1,0⟩,
 ⟨71,[83,69,76,70,66,65,76,65,78,67,69],0,1,0⟩,
 ⟨72,[66,65,83,69,70,69,69],0,1,0⟩,
 ⟨80,[80,79,80],1,0,0⟩,
 ⟨81,[77,76,79,65,68],1,1,0⟩,
 ⟨82,[77,83,84,79,82,69],2,0,0⟩,
 ⟨83,[77,83,84,79,82,69,56],2,0,0⟩,
 ⟨84,[83,76,79,65,68],1,1,0⟩,
 ⟨85,[83,83,84,79,82,69],2,0,0⟩,
 ⟨86,[74,85,77,80],1,0,0⟩,
 ⟨87,[74,85,77,80,73],2,0,0⟩,
 ⟨90,[71,65,83],0,1,0⟩,
 ⟨91,[74,85,77,80,68,69,83,84],0,0,0⟩,
 ⟨92,[84,76,79,65,68],1,1,0⟩,
 ⟨93,[84,83,84,79,82,69],2,0,0⟩,
 ⟨241,[67,65,76,76],7,1,0⟩,
 ⟨243,[82,69,84,85,82,78],2,0,0⟩,
 ⟨244,[68,69,76,69,71,65,84,69,67,65,76,76],6,1,0⟩,
 ⟨245,[67,82,69,65,84,69,50],4,1,0⟩,
 ⟨250,[83,84,65,84,73,67,67,65,76,76],6,1,0⟩,
 ⟨253,[82,69,86,69,82,84],2,0,0⟩,
 ⟨254,[73,78,86,65,76,73,68],0,0,0⟩]
def itoa (n:Nat):List UInt8:=if n < 10 then [UInt8.ofNat (48+n)] else [UInt8.ofNat (48+n / 10),UInt8.ofNat (48+n % 10)]
def rowOp (b:Nat):Option OpV :=
 if 96≤b∧b≤127 then some ⟨b,[80,85,83,72]++itoa (b - 95),0,1,b - 95⟩
 else if 128≤b∧b≤143 then some ⟨b,[68,85,80]++itoa (b - 127),b - 127,b - 126,0⟩
 else if 144≤b∧b≤159 then some ⟨b,[83,87,65,80]++itoa (b - 143),b - 142,b - 142,0⟩
 else none
def opOf (b:Nat):Option OpV:=match rowOp b with
 |some x=>some x
 |none=>plainOps.find? (fun x=>x.c == b)
def lows:List UInt8:=[48,49,50,51,52,53,54,55,56,57,97,98,99,100,101,102,103,104,105,106,107,108,109,110,111,112,113,114,115,116,117,118,119,120,121,122]
def smalls:List UInt8:=(List.range 100).flatMap fun n=>[UInt8.ofNat (48+n / 10),UInt8.ofNat (48+n % 10)]
theorem lows_cut:∀ n,n < 10→(lows.drop n).take (n+1 - n)=itoa n:=by decide +kernel
theorem smalls_cut:∀ n,n < 100→10≤n→(smalls.drop (n * 2)).take (n * 2+2 - n * 2)=itoa n:=by decide +kernel
theorem small_calls (n:Nat) (hn:n < 100) (w:World):Calls Tryz.prog 238 #[.int .i64 (n:Int)] w (Ret w (sv (itoa n))):=by
 refine enter (args:=[_]) _ [] [] Tryz.func238 rfl Tryz.ntmps238 rfl (by simp) .nil ?_
 rcases Nat.lt_or_ge n 10 with h|h
 ·(refine sRz<|vAz<|nNz<|zI<|sRz<|vMz ?_;refine lvz (.lssT rfl rfl (by omega)) ?_;refine nNz<|cTz<|sRz<|vMz<|vMz ?_;refine lvz (.addZL rfl rfl (by decide) (by omega)) ?_;apply LW.v0;rfl;rfl;apply ValP.cutStr;infer_instance;rfl;rfl;rfl;omega;simp;omega;refine vAz<|nNz<|zK<|thenR ?_)
  (apply finR;exact .inl rfl;rfl;rfl;rfl;apply zD;exact zG rfl;exact zF)
  exact congrArg (fun l=>sv l) (lows_cut n h)
 ·(refine sRz<|vAz<|nNz<|zI<|sRz<|vMz ?_;refine lvz (.lssF rfl rfl (by omega)) ?_;refine nNz<|cFz<|zJ<|thenN<|sRz<|vMz ?_;refine lvz (.mulZL rfl rfl (by decide) (by omega)) ?_;refine vMz ?_;refine lvz (.mulZL rfl rfl (by decide) (by omega)) ?_;refine lvz (.addZL rfl rfl (by decide) (by omega)) ?_;apply LW.v0;rfl;rfl;apply ValP.cutStr;infer_instance;rfl;rfl;rfl;omega;simp;omega;refine vAz<|nNz<|zK ?_)
  (apply finR;exact .inl rfl;rfl;rfl;rfl;apply zD;exact zG rfl;exact zF)
  exact congrArg (fun l=>sv l) (smalls_cut n hn h)
theorem FormatInt_calls (n:Nat) (hn:n < 100) (w:World):Calls Tryz.prog 230 #[.int .i64 (n:Int),.int .i64 10] w (Ret w (sv (itoa n))):=by
 refine enter (args:=[_,_]) _ [] [] Tryz.func230 rfl Tryz.ntmps230 rfl (by simp) .nil ?_
 (refine sRz<|vAz<|nNz<|zI<|sRz<|vMz ?_;refine lvz (.eqT rfl rfl (by omega)) ?_;refine nNz<|cTz<|zI<|sRz<|vMz ?_;refine lvz (.leqT rfl rfl (by omega)) ?_;refine vMz<|gTz<|vMz<|gTz ?_;refine lvz (.lssT rfl rfl (by omega)) ?_;refine pTz<|nNz<|cTz<|sRz<|vMz ?_;apply zS;rfl;rfl;infer_instance;exact .cons rfl .nil;intro w _;exact small_calls _ hn w;refine vAz<|nNz<|zK<|thenR<|thenR ?_)
 (apply finR;exact .inl rfl;rfl;rfl;rfl;apply zD;exact zG rfl;exact zF)
 rfl
theorem iItoa_calls (n:Nat) (hn:n < 100) (w:World):Calls Tryz.prog 217 #[.int .i64 (n:Int)] w (Ret w (sv (itoa n))):=by
 have h1:=FormatInt_calls n hn
 refine enter (args:=[_]) _ [] [] Tryz.func217 rfl Tryz.ntmps217 rfl (by simp) .nil ?_
 (refine sRz<|vAz<|nSz<|vMz ?_;apply zS;rfl;rfl;infer_instance;exact .cons rfl (.cons rfl .nil);intro w _;exact h1 w;refine vAz<|nNz<|zK ?_)
 (apply finR;exact .inl rfl;rfl;rfl;rfl;apply zD;exact zG rfl;exact zF)
 rfl
theorem Itoa_calls (n:Nat) (hn:n < 100) (w:World):Calls Tryz.prog 198 #[.int .i64 (n:Int)] w (Ret w (sv (itoa n))):=by
 have h1:=iItoa_calls n hn
 refine enter (args:=[_]) _ [] [] Tryz.func198 rfl Tryz.ntmps198 rfl (by simp) .nil ?_
 (refine sRz<|vAz<|nSz<|vMz ?_;apply zS;rfl;rfl;infer_instance;exact .cons rfl .nil;intro w _;exact h1 w;refine vAz<|nNz<|zK ?_)
 (apply finR;exact .inl rfl;rfl;rfl;rfl;apply zD;exact zG rfl;exact zF)
 rfl
theorem itoa_len (n:Nat):(itoa n).length≤2:=by unfold itoa;split<;>simp
def tupOp (o:Option OpV):Value:=match o with
 |some x=>.tuple #[.agg (opc x),.bool true]
 |none=>.tuple #[.agg (opc ⟨0,[],0,0,0⟩),.bool false]
theorem row_calls (b:Nat) (hb:b < 256) (w:World):Calls Tryz.prog 126 #[.int .u8 (b:Int)] w (Ret w (tupOp (rowOp b))):=by
 have hl:=itoa_len
 refine enter (args:=[_]) _ [] [] Tryz.func126 rfl Tryz.ntmps126 rfl (by simp) .nil ?_
 rcases Nat.lt_or_ge b 96 with h1|h1
 ·rw [show rowOp b=none by unfold rowOp;rw [if_neg (by omega),if_neg (by omega),if_neg (by omega)]]
  (refine sRz ?_;apply zU;rfl;intro _;refine vAz<|nSz<|vMz ?_;refine lvz (.convI rfl (by omega) (by omega)) ?_;refine vAz<|nNz<|zI<|zM<|sRz<|vMz ?_;refine lvz (.geqF rfl rfl (by omega)) ?_;refine vMz<|gFz<|gFz<|pFz<|vAz<|nNz<|cFz<|sRz<|vMz ?_;refine lvz (.geqF rfl rfl (by omega)) ?_;refine vMz<|gFz<|gFz<|pFz<|vAz<|nNz<|cFz<|sRz<|vMz ?_;refine lvz (.geqF rfl rfl (by omega)) ?_;refine vMz<|gFz<|gFz<|pFz<|vAz<|nNz<|cFz<|zJ<|blkN<|thenN<|sRz ?_;apply LW.v0;rfl;rfl;apply zW;infer_instance;infer_instance;exact zB;rfl;simp only [fillP,wrCells,Value.cells,qJ,qK,qL,qI,qN,qM,Nat.reduceAdd,qP];rfl;refine zR rfl rfl .head (.whole rfl rfl rfl)<|vAz<|nNz<|zK ?_)
  (apply finR;exact .inl rfl;rfl;rfl;rfl;apply zD;apply zH;rfl;apply qG;apply zY;exact qH rfl;apply zD;exact zG rfl;exact zF)
  rfl
 rcases Nat.lt_or_ge b 128 with h2|h2
 ·rw [show rowOp b=some ⟨b,[80,85,83,72]++itoa (b - 95),0,1,b - 95⟩ by unfold rowOp;rw [if_pos (by omega)]]
  have hn:=Itoa_calls (b - 95) (by omega)
  have hl1:=hl (b - 95)
  (refine sRz ?_;apply zU;rfl;intro _;refine vAz<|nSz<|vMz ?_;refine lvz (.convI rfl (by omega) (by omega)) ?_;refine vAz<|nNz<|zI<|zM<|sRz<|vMz ?_;refine lvz (.geqT rfl rfl (by omega)) ?_;refine vMz<|gTz<|vMz<|gTz ?_;refine lvz (.leqT rfl rfl (by omega)) ?_;refine pTz<|vAz<|nNz<|cTz<|sRz<|vMz ?_;refine lvz (.subZL rfl rfl (by decide) (by omega) (by omega)) ?_;refine vAz<|nSz<|vMz<|vMz ?_;apply zS;rfl;rfl;infer_instance;exact .cons rfl .nil;intro w _;exact hn w;apply LW.v0;rfl;rfl;apply ValP.addStr;rfl;rfl;simp;omega;refine vMz ?_;apply LW.v0;rfl;rfl;apply zW;infer_instance;infer_instance;apply zA;rfl;apply zA;rfl;apply zA;rfl;apply zA;rfl;exact zB;rfl;simp only [fillP,wrCells,Value.cells,qJ,qK,qL,qI,qN,qM,Nat.reduceAdd,qP];rfl;refine zR rfl rfl .head (.whole rfl rfl rfl)<|vAz<|nNz<|zK<|blkR<|thenR ?_)
  (apply finR;exact .inl rfl;rfl;rfl;rfl;apply zD;apply zH;rfl;apply qG;apply zY;exact qH rfl;apply zD;exact zG rfl;exact zF)
  rfl
 rcases Nat.lt_or_ge b 144 with h3|h3
 ·rw [show rowOp b=some ⟨b,[68,85,80]++itoa (b - 127),b - 127,b - 127+1,0⟩ by unfold rowOp;rw [if_neg (by omega),if_pos (by omega),show b - 126=b - 127+1 by omega]]
  have hn:=Itoa_calls (b - 127) (by omega)
  have hl1:=hl (b - 127)
  (refine sRz ?_;apply zU;rfl;intro _;refine vAz<|nSz<|vMz ?_;refine lvz (.convI rfl (by omega) (by omega)) ?_;refine vAz<|nNz<|zI<|zM<|sRz<|vMz ?_;refine lvz (.geqT rfl rfl (by omega)) ?_;refine vMz<|gTz<|vMz<|gTz ?_;refine lvz (.leqF rfl rfl (by omega)) ?_;refine pTz<|vAz<|nNz<|cFz<|sRz<|vMz ?_;refine lvz (.geqT rfl rfl (by omega)) ?_;refine vMz<|gTz<|vMz<|gTz ?_;refine lvz (.leqT rfl rfl (by omega)) ?_;refine pTz<|vAz<|nNz<|cTz<|sRz<|vMz ?_;refine lvz (.subZL rfl rfl (by decide) (by omega) (by omega)) ?_;refine vAz<|nSz<|vMz<|vMz ?_;apply zS;rfl;rfl;infer_instance;exact .cons rfl .nil;intro w _;exact hn w;apply LW.v0;rfl;rfl;apply ValP.addStr;rfl;rfl;simp;omega;refine vMz<|vMz ?_;refine lvz (.addZL rfl rfl (by decide) (by omega)) ?_;apply LW.v0;rfl;rfl;apply zW;infer_instance;infer_instance;apply zA;rfl;apply zA;rfl;apply zA;rfl;apply zA;rfl;exact zB;rfl;simp only [fillP,wrCells,Value.cells,qJ,qK,qL,qI,qN,qM,Nat.reduceAdd,qP];rfl;refine zR rfl rfl .head (.whole rfl rfl rfl)<|vAz<|nNz<|zK<|blkR<|thenR ?_)
  (apply finR;exact .inl rfl;rfl;rfl;rfl;apply zD;apply zH;rfl;apply qG;apply zY;exact qH rfl;apply zD;exact zG rfl;exact zF)
  rfl
 rcases Nat.lt_or_ge b 160 with h4|h4
 ·rw [show rowOp b=some ⟨b,[83,87,65,80]++itoa (b - 143),b - 143+1,b - 143+1,0⟩ by unfold rowOp;rw [if_neg (by omega),if_neg (by omega),if_pos (by omega),show b - 142=b - 143+1 by omega]]
  have hn:=Itoa_calls (b - 143) (by omega)
  have hl1:=hl (b - 143)
  (refine sRz ?_;apply zU;rfl;intro _;refine vAz<|nSz<|vMz ?_;refine lvz (.convI rfl (by omega) (by omega)) ?_;refine vAz<|nNz<|zI<|zM<|sRz<|vMz ?_;refine lvz (.geqT rfl rfl (by omega)) ?_;refine vMz<|gTz<|vMz<|gTz ?_;refine lvz (.leqF rfl rfl (by omega)) ?_;refine pTz<|vAz<|nNz<|cFz<|sRz<|vMz ?_;refine lvz (.geqT rfl rfl (by omega)) ?_;refine vMz<|gTz<|vMz<|gTz ?_;refine lvz (.leqF rfl rfl (by omega)) ?_;refine pTz<|vAz<|nNz<|cFz<|sRz<|vMz ?_;refine lvz (.geqT rfl rfl (by omega)) ?_;refine vMz<|gTz<|vMz<|gTz ?_;refine lvz (.leqT rfl rfl (by omega)) ?_;refine pTz<|vAz<|nNz<|cTz<|sRz<|vMz ?_;refine lvz (.subZL rfl rfl (by decide) (by omega) (by omega)) ?_;refine vAz<|nSz<|vMz<|vMz ?_;apply zS;rfl;rfl;infer_instance;exact .cons rfl .nil;intro w _;exact hn w;apply LW.v0;rfl;rfl;apply ValP.addStr;rfl;rfl;simp;omega;refine vMz ?_;refine lvz (.addZL rfl rfl (by decide) (by omega)) ?_;refine vMz ?_;refine lvz (.addZL rfl rfl (by decide) (by omega)) ?_;apply LW.v0;rfl;rfl;apply zW;infer_instance;infer_instance;apply zA;rfl;apply zA;rfl;apply zA;rfl;apply zA;rfl;exact zB;rfl;simp only [fillP,wrCells,Value.cells,qJ,qK,qL,qI,qN,qM,Nat.reduceAdd,qP];rfl;refine zR rfl rfl .head (.whole rfl rfl rfl)<|vAz<|nNz<|zK<|blkR<|thenR ?_)
  (apply finR;exact .inl rfl;rfl;rfl;rfl;apply zD;apply zH;rfl;apply qG;apply zY;exact qH rfl;apply zD;exact zG rfl;exact zF)
  rfl
 ·rw [show rowOp b=none by unfold rowOp;rw [if_neg (by omega),if_neg (by omega),if_neg (by omega)]]
  (refine sRz ?_;apply zU;rfl;intro _;refine vAz<|nSz<|vMz ?_;refine lvz (.convI rfl (by omega) (by omega)) ?_;refine vAz<|nNz<|zI<|zM<|sRz<|vMz ?_;refine lvz (.geqT rfl rfl (by omega)) ?_;refine vMz<|gTz<|vMz<|gTz ?_;refine lvz (.leqF rfl rfl (by omega)) ?_;refine pTz<|vAz<|nNz<|cFz<|sRz<|vMz ?_;refine lvz (.geqT rfl rfl (by omega)) ?_;refine vMz<|gTz<|vMz<|gTz ?_;refine lvz (.leqF rfl rfl (by omega)) ?_;refine pTz<|vAz<|nNz<|cFz<|sRz<|vMz ?_;refine lvz (.geqT rfl rfl (by omega)) ?_;refine vMz<|gTz<|vMz<|gTz ?_;refine lvz (.leqF rfl rfl (by omega)) ?_;refine pTz<|vAz<|nNz<|cFz<|zJ<|blkN<|thenN<|sRz ?_;apply LW.v0;rfl;rfl;apply zW;infer_instance;infer_instance;exact zB;rfl;simp only [fillP,wrCells,Value.cells,qJ,qK,qL,qI,qN,qM,Nat.reduceAdd,qP];rfl;refine zR rfl rfl .head (.whole rfl rfl rfl)<|vAz<|nNz<|zK ?_)
  (apply finR;exact .inl rfl;rfl;rfl;rfl;apply zD;apply zH;rfl;apply qG;apply zY;exact qH rfl;apply zD;exact zG rfl;exact zF)
  rfl
def PlainV (v:Value) (gs:Fs):Prop:=∃ b,v=.slice (some ⟨b,0,none⟩) 50 50∧gs=[(b,.cells (opcs plainOps).toArray 182 (0,0))]
theorem plain_len:(opcs plainOps).length=250:=by kernel_rfl
theorem PlainV.us {v:Value} {gs us:Fs} {w:World} (h:PlainV v gs) (hu:∀ p∈us,w.heap[p.1]?=some p.2) (hs:List.Sublist gs us):RowAt w 5 v plainOps.length (opcs plainOps):=by
 obtain ⟨b,rfl,rfl⟩:=h
 have hg:=hu (b,.cells (opcs plainOps).toArray 182 (0,0)) (hs.subset (by simp))
 exact ⟨⟨_,_,rfl,by decide,by decide⟩,plain_len,fun _=>⟨b,0,50,_,_,_,rfl,hg,by rw [List.drop_zero];exact List.take_of_length_le (by rw [qL,plain_len];decide)⟩,.own hg⟩
theorem plain_calls (w:World):Calls Tryz.prog 128 #[] w (RetG w [] PlainV):=by
 refine enter (args:=[]) _ [] [] Tryz.func128 rfl Tryz.ntmps128 rfl (by simp) .nil ?_
 (refine sRz<|vAz<|nSz ?_;apply LW.v0;rfl;rfl;apply zW;infer_instance;infer_instance;apply zA;rfl;apply zA;rfl;exact zB;rfl;simp only [fillP,wrCells,Value.cells,qJ,qK,qL,qI,qN,qM,Nat.reduceAdd,qP];rfl;apply LW.v0;rfl;rfl;apply zW;infer_instance;infer_instance;apply zA;rfl;apply zA;rfl;apply zA;rfl;apply zA;rfl;exact zB;rfl;simp only [fillP,wrCells,Value.cells,qJ,qK,qL,qI,qN,qM,Nat.reduceAdd,qP];rfl;apply LW.v0;rfl;rfl;apply zW;infer_instance;infer_instance;apply zA;rfl;apply zA;rfl;apply zA;rfl;apply zA;rfl;exact zB;rfl;simp only [fillP,wrCells,Value.cells,qJ,qK,qL,qI,qN,qM,Nat.reduceAdd,qP];rfl;apply LW.v0;rfl;rfl;apply zW;infer_instance;infer_instance;apply zA;rfl;apply zA;rfl;apply zA;rfl;apply zA;rfl;exact zB;rfl;simp only [fillP,wrCells,Value.cells,qJ,qK,qL,qI,qN,qM,Nat.reduceAdd,qP];rfl;apply LW.v0;rfl;rfl;apply zW;infer_instance;infer_instance;apply zA;rfl;apply zA;rfl;apply zA;rfl;apply zA;rfl;exact zB;rfl;simp only [fillP,wrCells,Value.cells,qJ,qK,qL,qI,qN,qM,Nat.reduceAdd,qP];rfl;apply LW.v0;rfl;rfl;apply zW;infer_instance;infer_instance;apply zA;rfl;apply zA;rfl;apply zA;rfl;apply zA;rfl;exact zB;rfl;simp only [fillP,wrCells,Value.cells,qJ,qK,qL,qI,qN,qM,Nat.reduceAdd,qP];rfl;apply LW.v0;rfl;rfl;apply zW;infer_instance;infer_instance;apply zA;rfl;apply zA;rfl;apply zA;rfl;apply zA;rfl;exact zB;rfl;simp only [fillP,wrCells,Value.cells,qJ,qK,qL,qI,qN,qM,Nat.reduceAdd,qP];rfl;apply LW.v0;rfl;rfl;apply zW;infer_instance;infer_instance;apply zA;rfl;apply zA;rfl;apply zA;rfl;apply zA;rfl;exact zB;rfl;simp only [fillP,wrCells,Value.cells,qJ,qK,qL,qI,qN,qM,Nat.reduceAdd,qP];rfl;apply LW.v0;rfl;rfl;apply zW;infer_instance;infer_instance;apply zA;rfl;apply zA;rfl;apply zA;rfl;apply zA;rfl;exact zB;rfl;simp only [fillP,wrCells,Value.cells,qJ,qK,qL,qI,qN,qM,Nat.reduceAdd,qP];rfl;apply LW.v0;rfl;rfl;apply zW;infer_instance;infer_instance;apply zA;rfl;apply zA;rfl;apply zA;rfl;apply zA;rfl;exact zB;rfl;simp only [fillP,wrCells,Value.cells,qJ,qK,qL,qI,qN,qM,Nat.reduceAdd,qP];rfl;apply LW.v0;rfl;rfl;apply zW;infer_instance;infer_instance;apply zA;rfl;apply zA;rfl;apply zA;rfl;apply zA;rfl;exact zB;rfl;simp only [fillP,wrCells,Value.cells,qJ,qK,qL,qI,qN,qM,Nat.reduceAdd,qP];rfl;apply LW.v0;rfl;rfl;apply zW;infer_instance;infer_instance;apply zA;rfl;apply zA;rfl;apply zA;rfl;apply zA;rfl;exact zB;rfl;simp only [fillP,wrCells,Value.cells,qJ,qK,qL,qI,qN,qM,Nat.reduceAdd,qP];rfl;apply LW.v0;rfl;rfl;apply zW;infer_instance;infer_instance;apply zA;rfl;apply zA;rfl;apply zA;rfl;apply zA;rfl;exact zB;rfl;simp only [fillP,wrCells,Value.cells,qJ,qK,qL,qI,qN,qM,Nat.reduceAdd,qP];rfl;apply LW.v0;rfl;rfl;apply zW;infer_instance;infer_instance;apply zA;rfl;apply zA;rfl;apply zA;rfl;apply zA;rfl;exact zB;rfl;simp only [fillP,wrCells,Value.cells,qJ,qK,qL,qI,qN,qM,Nat.reduceAdd,qP];rfl;apply LW.v0;rfl;rfl;apply zW;infer_instance;infer_instance;apply zA;rfl;apply zA;rfl;apply zA;rfl;apply zA;rfl;exact zB;rfl;simp only [fillP,wrCells,Value.cells,qJ,qK,qL,qI,qN,qM,Nat.reduceAdd,qP];rfl;apply LW.v0;rfl;rfl;apply zW;infer_instance;infer_instance;apply zA;rfl;apply zA;rfl;apply zA;rfl;apply zA;rfl;exact zB;rfl;simp only [fillP,wrCells,Value.cells,qJ,qK,qL,qI,qN,qM,Nat.reduceAdd,qP];rfl;apply LW.v0;rfl;rfl;apply zW;infer_instance;infer_instance;apply zA;rfl;apply zA;rfl;apply zA;rfl;apply zA;rfl;exact zB;rfl;simp only [fillP,wrCells,Value.cells,qJ,qK,qL,qI,qN,qM,Nat.reduceAdd,qP];rfl;apply LW.v0;rfl;rfl;apply zW;infer_instance;infer_instance;apply zA;rfl;apply zA;rfl;apply zA;rfl;exact zB;rfl;simp only [fillP,wrCells,Value.cells,qJ,qK,qL,qI,qN,qM,Nat.reduceAdd,qP];rfl;apply LW.v0;rfl;rfl;apply zW;infer_instance;infer_instance;apply zA;rfl;apply zA;rfl;apply zA;rfl;apply zA;rfl;exact zB;rfl;simp only [fillP,wrCells,Value.cells,qJ,qK,qL,qI,qN,qM,Nat.reduceAdd,qP];rfl;apply LW.v0;rfl;rfl;apply zW;infer_instance;infer_instance;apply zA;rfl;apply zA;rfl;apply zA;rfl;exact zB;rfl;simp only [fillP,wrCells,Value.cells,qJ,qK,qL,qI,qN,qM,Nat.reduceAdd,qP];rfl;apply LW.v0;rfl;rfl;apply zW;infer_instance;infer_instance;apply zA;rfl;apply zA;rfl;apply zA;rfl;exact zB;rfl;simp only [fillP,wrCells,Value.cells,qJ,qK,qL,qI,qN,qM,Nat.reduceAdd,qP];rfl;apply LW.v0;rfl;rfl;apply zW;infer_instance;infer_instance;apply zA;rfl;apply zA;rfl;apply zA;rfl;exact zB;rfl;simp only [fillP,wrCells,Value.cells,qJ,qK,qL,qI,qN,qM,Nat.reduceAdd,qP];rfl;apply LW.v0;rfl;rfl;apply zW;infer_instance;infer_instance;apply zA;rfl;apply zA;rfl;apply zA;rfl;apply zA;rfl;exact zB;rfl;simp only [fillP,wrCells,Value.cells,qJ,qK,qL,qI,qN,qM,Nat.reduceAdd,qP];rfl;apply LW.v0;rfl;rfl;apply zW;infer_instance;infer_instance;apply zA;rfl;apply zA;rfl;apply zA;rfl;exact zB;rfl;simp only [fillP,wrCells,Value.cells,qJ,qK,qL,qI,qN,qM,Nat.reduceAdd,qP];rfl;apply LW.v0;rfl;rfl;apply zW;infer_instance;infer_instance;apply zA;rfl;apply zA;rfl;apply zA;rfl;exact zB;rfl;simp only [fillP,wrCells,Value.cells,qJ,qK,qL,qI,qN,qM,Nat.reduceAdd,qP];rfl;apply LW.v0;rfl;rfl;apply zW;infer_instance;infer_instance;apply zA;rfl;apply zA;rfl;apply zA;rfl;exact zB;rfl;simp only [fillP,wrCells,Value.cells,qJ,qK,qL,qI,qN,qM,Nat.reduceAdd,qP];rfl;apply LW.v0;rfl;rfl;apply zW;infer_instance;infer_instance;apply zA;rfl;apply zA;rfl;apply zA;rfl;exact zB;rfl;simp only [fillP,wrCells,Value.cells,qJ,qK,qL,qI,qN,qM,Nat.reduceAdd,qP];rfl;apply LW.v0;rfl;rfl;apply zW;infer_instance;infer_instance;apply zA;rfl;apply zA;rfl;apply zA;rfl;exact zB;rfl;simp only [fillP,wrCells,Value.cells,qJ,qK,qL,qI,qN,qM,Nat.reduceAdd,qP];rfl;apply LW.v0;rfl;rfl;apply zW;infer_instance;infer_instance;apply zA;rfl;apply zA;rfl;apply zA;rfl;exact zB;rfl;simp only [fillP,wrCells,Value.cells,qJ,qK,qL,qI,qN,qM,Nat.reduceAdd,qP];rfl;apply LW.v0;rfl;rfl;apply zW;infer_instance;infer_instance;apply zA;rfl;apply zA;rfl;apply zA;rfl;exact zB;rfl;simp only [fillP,wrCells,Value.cells,qJ,qK,qL,qI,qN,qM,Nat.reduceAdd,qP];rfl;apply LW.v0;rfl;rfl;apply zW;infer_instance;infer_instance;apply zA;rfl;apply zA;rfl;apply zA;rfl;exact zB;rfl;simp only [fillP,wrCells,Value.cells,qJ,qK,qL,qI,qN,qM,Nat.reduceAdd,qP];rfl;apply LW.v0;rfl;rfl;apply zW;infer_instance;infer_instance;apply zA;rfl;apply zA;rfl;apply zA;rfl;exact zB;rfl;simp only [fillP,wrCells,Value.cells,qJ,qK,qL,qI,qN,qM,Nat.reduceAdd,qP];rfl;apply LW.v0;rfl;rfl;apply zW;infer_instance;infer_instance;apply zA;rfl;apply zA;rfl;apply zA;rfl;apply zA;rfl;exact zB;rfl;simp only [fillP,wrCells,Value.cells,qJ,qK,qL,qI,qN,qM,Nat.reduceAdd,qP];rfl;apply LW.v0;rfl;rfl;apply zW;infer_instance;infer_instance;apply zA;rfl;apply zA;rfl;apply zA;rfl;exact zB;rfl;simp only [fillP,wrCells,Value.cells,qJ,qK,qL,qI,qN,qM,Nat.reduceAdd,qP];rfl;apply LW.v0;rfl;rfl;apply zW;infer_instance;infer_instance;apply zA;rfl;apply zA;rfl;apply zA;rfl;exact zB;rfl;simp only [fillP,wrCells,Value.cells,qJ,qK,qL,qI,qN,qM,Nat.reduceAdd,qP];rfl;apply LW.v0;rfl;rfl;apply zW;infer_instance;infer_instance;apply zA;rfl;apply zA;rfl;apply zA;rfl;apply zA;rfl;exact zB;rfl;simp only [fillP,wrCells,Value.cells,qJ,qK,qL,qI,qN,qM,Nat.reduceAdd,qP];rfl;apply LW.v0;rfl;rfl;apply zW;infer_instance;infer_instance;apply zA;rfl;apply zA;rfl;apply zA;rfl;exact zB;rfl;simp only [fillP,wrCells,Value.cells,qJ,qK,qL,qI,qN,qM,Nat.reduceAdd,qP];rfl;apply LW.v0;rfl;rfl;apply zW;infer_instance;infer_instance;apply zA;rfl;apply zA;rfl;apply zA;rfl;exact zB;rfl;simp only [fillP,wrCells,Value.cells,qJ,qK,qL,qI,qN,qM,Nat.reduceAdd,qP];rfl;apply LW.v0;rfl;rfl;apply zW;infer_instance;infer_instance;apply zA;rfl;apply zA;rfl;apply zA;rfl;exact zB;rfl;simp only [fillP,wrCells,Value.cells,qJ,qK,qL,qI,qN,qM,Nat.reduceAdd,qP];rfl;apply LW.v0;rfl;rfl;apply zW;infer_instance;infer_instance;apply zA;rfl;apply zA;rfl;apply zA;rfl;exact zB;rfl;simp only [fillP,wrCells,Value.cells,qJ,qK,qL,qI,qN,qM,Nat.reduceAdd,qP];rfl;apply LW.v0;rfl;rfl;apply zW;infer_instance;infer_instance;apply zA;rfl;apply zA;rfl;exact zB;rfl;simp only [fillP,wrCells,Value.cells,qJ,qK,qL,qI,qN,qM,Nat.reduceAdd,qP];rfl;apply LW.v0;rfl;rfl;apply zW;infer_instance;infer_instance;apply zA;rfl;apply zA;rfl;apply zA;rfl;apply zA;rfl;exact zB;rfl;simp only [fillP,wrCells,Value.cells,qJ,qK,qL,qI,qN,qM,Nat.reduceAdd,qP];rfl;apply LW.v0;rfl;rfl;apply zW;infer_instance;infer_instance;apply zA;rfl;apply zA;rfl;apply zA;rfl;exact zB;rfl;simp only [fillP,wrCells,Value.cells,qJ,qK,qL,qI,qN,qM,Nat.reduceAdd,qP];rfl;apply LW.v0;rfl;rfl;apply zW;infer_instance;infer_instance;apply zA;rfl;apply zA;rfl;apply zA;rfl;apply zA;rfl;exact zB;rfl;simp only [fillP,wrCells,Value.cells,qJ,qK,qL,qI,qN,qM,Nat.reduceAdd,qP];rfl;apply LW.v0;rfl;rfl;apply zW;infer_instance;infer_instance;apply zA;rfl;apply zA;rfl;apply zA;rfl;exact zB;rfl;simp only [fillP,wrCells,Value.cells,qJ,qK,qL,qI,qN,qM,Nat.reduceAdd,qP];rfl;apply LW.v0;rfl;rfl;apply zW;infer_instance;infer_instance;apply zA;rfl;apply zA;rfl;apply zA;rfl;apply zA;rfl;exact zB;rfl;simp only [fillP,wrCells,Value.cells,qJ,qK,qL,qI,qN,qM,Nat.reduceAdd,qP];rfl;apply LW.v0;rfl;rfl;apply zW;infer_instance;infer_instance;apply zA;rfl;apply zA;rfl;apply zA;rfl;apply zA;rfl;exact zB;rfl;simp only [fillP,wrCells,Value.cells,qJ,qK,qL,qI,qN,qM,Nat.reduceAdd,qP];rfl;apply LW.v0;rfl;rfl;apply zW;infer_instance;infer_instance;apply zA;rfl;apply zA;rfl;apply zA;rfl;apply zA;rfl;exact zB;rfl;simp only [fillP,wrCells,Value.cells,qJ,qK,qL,qI,qN,qM,Nat.reduceAdd,qP];rfl;apply LW.v0;rfl;rfl;apply zW;infer_instance;infer_instance;apply zA;rfl;apply zA;rfl;apply zA;rfl;exact zB;rfl;simp only [fillP,wrCells,Value.cells,qJ,qK,qL,qI,qN,qM,Nat.reduceAdd,qP];rfl;apply LW.v0;rfl;rfl;apply zW;infer_instance;infer_instance;apply zA;rfl;apply zA;rfl;exact zB;rfl;simp only [fillP,wrCells,Value.cells,qJ,qK,qL,qI,qN,qM,Nat.reduceAdd,qP];rfl)
 refine LW.v0 rfl rfl (ValP.buildA (vs:=(plainOps.zipIdx.map fun p=>(p.2,.agg (opc p.1)))) (c:=(opcs plainOps).toArray) ?_ (by kernel_rfl) (by kernel_rfl)) ?_
 ·(apply zA;rfl;apply zA;rfl;apply zA;rfl;apply zA;rfl;apply zA;rfl;apply zA;rfl;apply zA;rfl;apply zA;rfl;apply zA;rfl;apply zA;rfl;apply zA;rfl;apply zA;rfl;apply zA;rfl;apply zA;rfl;apply zA;rfl;apply zA;rfl;apply zA;rfl;apply zA;rfl;apply zA;rfl;apply zA;rfl;apply zA;rfl;apply zA;rfl;apply zA;rfl;apply zA;rfl;apply zA;rfl;apply zA;rfl;apply zA;rfl;apply zA;rfl;apply zA;rfl;apply zA;rfl;apply zA;rfl;apply zA;rfl;apply zA;rfl;apply zA;rfl;apply zA;rfl;apply zA;rfl;apply zA;rfl;apply zA;rfl;apply zA;rfl;apply zA;rfl;apply zA;rfl;apply zA;rfl;apply zA;rfl;apply zA;rfl;apply zA;rfl;apply zA;rfl;apply zA;rfl;apply zA;rfl;apply zA;rfl;apply zA;rfl;exact zB)
 (apply zU;rfl;intro _;apply zR;rfl;rfl;apply qA;apply Wr.whole;kernel_rfl;kernel_rfl;kernel_rfl;refine nSz<|lvz (.cutArrAll inferInstance inferInstance rfl)<|vAz<|nNz<|zK ?_)
 rename_i b
 apply finM [(b,.cells (opcs plainOps).toArray 182 (0,0))];(exact .inl rfl);(exact Shut.nil);rfl;(apply zD;exact zG rfl;exact zF);exact qO _
 exact ⟨b,rfl,rfl⟩
theorem Of1_calls (x:OpV) (k bb:Nat) (E:TypeId) (fr:Nat × Nat) (w:World) (hb:w.heap[bb]?=some (.cells #[.int .u8 (k:Int)] E fr)):Calls Tryz.prog 129 #[.agg (opc x),.pointer (some ⟨bb,0,none⟩)] w (Ret w (.bool (decide (x.c=k)))):=by
 refine enter (args:=[_,_]) _ [] [] Tryz.func129 rfl Tryz.ntmps129 rfl (by simp) .nil ?_
 (refine sRz ?_;apply zT;rfl;rfl;intro _;refine vAz<|nSz<|vFz<|ldz rfl .head (Rd.one' rfl) ?_;apply LW.load;rfl;rfl;exact Known.ext (by assumption) (by simp);exact Rd.one' rfl;refine lvz (.eq rfl rfl)<|vAz<|nNz<|zK ?_)
 (apply finR;exact .inl rfl;rfl;rfl;rfl;apply zD;exact zG rfl;exact zF)
 exact congrArg Value.bool (decide_eq_decide.2 Int.natCast_inj)
def idxOf (l:List OpV) (k:Nat):Int:=match l.findIdx? (fun x=>x.c == k) with
 |some i=>(i:Int)
 |none=>-1
theorem idxOf_hit {l:List OpV} {k m:Nat} (hm:m < l.length) (h:∀ i (hi:i < m),l[i].c ≠ k) (he:l[m].c=k):idxOf l k=(m:Int):=by
 unfold idxOf
 rw [List.findIdx?_eq_some_iff_getElem.2 ⟨hm,by simpa using he,fun i hi=>by simpa using h i hi⟩]
theorem idxOf_miss {l:List OpV} {k:Nat} (h:∀ i (hi:i < l.length),l[i].c ≠ k):idxOf l k=-1:=by
 unfold idxOf
 rw [List.findIdx?_eq_none_iff.2 fun x hx=>by obtain ⟨i,hi,rfl⟩:=List.getElem_of_mem hx;simpa using h i hi]
theorem IndexFunc_calls (l:List OpV) (k:Nat) (v:Value) (bb:Nat) (E:TypeId) (fr:Nat × Nat) (w:World) (hv:RowAt w 5 v l.length (opcs l)) (hb:w.heap[bb]?=some (.cells #[.int .u8 (k:Int)] E fr)) :
  Calls Tryz.prog 127 #[v,.func (.func 129) #[] #[.pointer (some ⟨bb,0,none⟩)]] w (Ret w (.int .i64 (idxOf l k))):=by
 obtain ⟨p,c,rfl,hc,hm⟩:=hv.form
 simp only [maxLen] at hm
 refine enter (args:=[_,_]) _ [] [] Tryz.func127 rfl Tryz.ntmps127 rfl (by simp) .nil ?_
 (refine sRz<|vAz<|nNz<|zI<|sRz<|vMz<|lvz (.lenR rfl inferInstance rfl)<|vMz<|nNz<|zM ?_)
 refine CW.loop (fun m:Nat=>([(8,.int .i64 (m:Int)),(7,.int .i64 (l.length:Int)),(0,.slice p l.length c),(1,.func (.func 129) #[] #[.pointer (some ⟨bb,0,none⟩)])],[]))
  (fun m=>m≤l.length∧∀ i (hi:i < m) (hl:i < l.length),l[i].c ≠ k) (fun m=>l.length - m) 0 ⟨Nat.zero_le _,fun i hi=>by omega⟩ ⟨rfl,rfl,rfl,rfl,trivial⟩ (qO _) ?_
 rintro m ⟨hml,hall⟩
 dsimp only
 rcases Nat.lt_or_ge m l.length with hlt|hge
 ·obtain ⟨b,off,c',cs,E',fr',heq,hbk,hx⟩:=hv.pos (by omega)
  cases heq
  have hrd:Rd Tryz.prog 86 (.cells cs E' fr') (off+m * 5) (.agg (opc l[m])):=Rd.elemA (g:=opl) (l:=l) (a:=l[m]) hx (opl_len l) (List.getElem?_eq_getElem hlt)
  (refine sRz ?_;refine lvz (.lssT rfl rfl (by omega)) ?_;refine nNz<|zI<|cTz<|zJ<|thenN<|zI<|zM<|sRz<|vMz<|vAz<|nSz<|vMz<|vMz<|vMz ?_;refine lvz (.indexAddrS rfl rfl rfl (by omega)) ?_;apply LW.load;rfl;rfl;exact Known.ext (by assumption) (by simp);assumption)
  apply LW.call
  rfl
  rfl
  infer_instance
  (exact .cons rfl .nil)
  ·intro w' hs
   exact Of1_calls l[m] k bb E fr w' (by rw [hs.bel.block bb (Array.getElem?_eq_some_iff.1 hb).1 (by simp)];exact hb)
  by_cases he:l[m].c=k
  ·have hi:=idxOf_hit hlt (fun i hi=>hall i hi (by omega)) he
   rw [decide_eq_true he,hi]
   (refine nNz<|cTz<|sRz<|vMz<|vAz<|nNz<|zK<|blkR<|thenR<|thenR<|blkR<|thenR ?_)
   (apply finR;exact .inl rfl;rfl;rfl;rfl;apply zD;exact zG rfl;exact zF)
   rfl
  ·rw [decide_eq_false he]
   (refine nNz<|cFz<|zJ<|blkN<|thenN<|zL ?_;refine lvz (.addZL rfl rfl (by decide) (by omega)) ?_;refine vMz ?_;apply zV)
   apply thenX
   exact ⟨rfl,m+1,⟨hlt,fun i hi hl=>by
    rcases Nat.lt_or_ge i m with h|h
    ·exact hall i h hl
    ·obtain rfl:i=m:=by omega
     exact he⟩,by omega,⟨rfl,rfl,rfl,rfl,trivial⟩,qO _⟩
 ·have hi:=idxOf_miss (l:=l) (k:=k) fun i hi=>hall i (by omega) hi
  rw [hi]
  (refine sRz ?_;refine lvz (.lssF rfl rfl (by omega)) ?_;refine nNz<|zI<|cFz<|CW.exit<|thenE<|thenE<|blkE rfl<|thenN<|sRz<|vAz<|nNz<|zK ?_)
  (apply finR;exact .inl rfl;rfl;rfl;rfl;apply zD;exact zG rfl;exact zF)
  rfl
def zeroOp:OpV:=⟨0,[],0,0,0⟩
def OfV (o:Option OpV):Value:=match o with
 |some x=>.tuple #[.agg (opc x),.int .i64 0]
 |none=>.tuple #[.agg (opc zeroOp),.int .i64 4]
theorem st_us {w0 w:World} {S:List Nat} {fs:Fs} (hs:St w0 S fs w):∀ p∈fs,w.heap[p.1]?=some p.2:=fun p hp=>(hs.own p hp).2
theorem plain_rd (i:Nat) (hi:i < plainOps.length) {E:TypeId} {fr:Nat × Nat}:Rd Tryz.prog 86 (.cells (opcs plainOps).toArray E fr) (0+i * 5) (.agg (opc plainOps[i])) :=
 Rd.elemA (g:=opl) (l:=plainOps) (a:=plainOps[i]) (m:=250) (by rw [List.drop_zero];exact List.take_of_length_le (by rw [qL,plain_len];decide)) (opl_len _) (List.getElem?_eq_getElem hi)
theorem Of_op_calls (b:Nat) (hb:b < 256) (w:World):Calls Tryz.prog 91 #[.int .u8 (b:Int)] w (Ret w (OfV (opOf b))):=by
 have hRow0:=row_calls b hb
 refine enter (args:=[_]) _ [] [] Tryz.func91 rfl Tryz.ntmps91 rfl (by simp) .nil ?_
 cases hr:rowOp b with
 |some x =>
  rw [hr] at hRow0
  have hRow:∀ w,Calls Tryz.prog 126 #[.int .u8 (b:Int)] w (Ret w (.tuple #[.agg (opc x),.bool true])):=hRow0
  rw [show opOf b=some x by unfold opOf;rw [hr]]
  (refine sRz ?_;apply LW.box1;rfl;rfl;rfl;intro _;apply zU;rfl;intro _;refine vAz<|nNz<|zI<|sRz<|ldz rfl (.tail .head) (Rd.one' rfl) ?_;apply zS;rfl;rfl;infer_instance;exact .cons rfl .nil;intro w _;exact hRow w;refine vMz ?_;refine vEz ?_;refine vEz ?_;apply zU;rfl;intro _;refine zR rfl rfl .head (.whole rfl rfl rfl)<|vAz<|nSz<|vMz<|nNz<|cTz<|sRz<|ldz rfl .head (qH rfl) ?_;refine zR rfl rfl (.tail .head) (.whole rfl rfl rfl)<|vAz<|nNz<|zK<|thenR ?_)
  (apply finR;exact .inl rfl;rfl;rfl;rfl;apply zD;apply zH;rfl;apply qG;apply zX;apply zY;exact qH rfl;apply zD;exact zG rfl;exact zF)
  rfl
 |none =>
  rw [hr] at hRow0
  have hRow:∀ w,Calls Tryz.prog 126 #[.int .u8 (b:Int)] w (Ret w (.tuple #[.agg (opc zeroOp),.bool false])):=hRow0
  (refine sRz ?_;apply LW.box1;rfl;rfl;rfl;intro _;apply zU;rfl;intro _;refine vAz<|nNz<|zI<|sRz<|ldz rfl (.tail .head) (Rd.one' rfl) ?_;apply zS;rfl;rfl;infer_instance;exact .cons rfl .nil;intro w _;exact hRow w;refine vMz ?_;refine vEz ?_;refine vEz ?_;apply zU;rfl;intro _;refine zR rfl rfl .head (.whole rfl rfl rfl)<|vAz<|nSz<|vMz<|nNz<|cFz<|zJ<|thenN<|sRz ?_)
  rename_i bx b2 b4
  (apply LW.callR;rfl;rfl;infer_instance;exact ArgsOk.nil;intro w hs)
  exact plain_calls w
  intro vp gp hpl
  obtain ⟨bp,rfl,rfl⟩:=id hpl
  cases hi:plainOps.findIdx? (fun x=>x.c == b) with
  |none =>
   have hidx:idxOf plainOps b=-1:=by unfold idxOf;rw [hi]
   rw [show opOf b=none by unfold opOf;rw [hr];exact List.find?_eq_none.2 (by simpa using List.findIdx?_eq_none_iff.1 hi)]
   (apply LW.v0;rfl;rfl;apply ValP.makeFunc;exact ArgsOk.nil;exact .cons rfl .nil;apply zS;rfl;rfl;infer_instance;exact .cons rfl (.cons rfl .nil);intro w _;rename_i hst;(exact IndexFunc_calls plainOps b _ _ _ _ w (hpl.us (st_us hst) (by exact List.singleton_sublist.2 (by (repeat (first|exact List.Mem.head _|apply List.Mem.tail))))) ((hst.own (bx,_) (by (repeat (first|exact List.Mem.head _|apply List.Mem.tail)))).2));refine vAz<|nNz<|zI<|sRz<|vMz ?_;refine lvz (.lssT rfl rfl (by omega)) ?_;refine nNz<|cTz<|sRz ?_;apply LW.v0;rfl;rfl;apply zW;infer_instance;infer_instance;exact zB;rfl;simp only [fillP,wrCells,Value.cells,qJ,qK,qL,qI,qN,qM,Nat.reduceAdd,qP];rfl;refine zR rfl rfl (.tail (.tail .head)) (.whole rfl rfl rfl)<|vAz<|nNz<|zK<|thenR ?_)
   (apply finR;exact .inl rfl;rfl;rfl;rfl;apply zD;apply zH;rfl;apply qG;apply zX;apply zX;apply zY;exact qH rfl;apply zD;exact zG rfl;exact zF)
   rfl
  |some i =>
   have hidx:idxOf plainOps b=(i:Int):=by unfold idxOf;rw [hi]
   obtain ⟨hlt,hc,hall⟩:=List.findIdx?_eq_some_iff_getElem.1 hi
   have hlt50:i < 50:=hlt
   have hrd:=plain_rd i hlt (E:=182) (fr:=(0,0))
   rw [show opOf b=some plainOps[i] by unfold opOf;rw [hr];exact List.find?_eq_some_iff_getElem.2 ⟨hc,i,hlt,rfl,fun j hj=>by simpa using hall j hj⟩]
   (apply LW.v0;rfl;rfl;apply ValP.makeFunc;exact ArgsOk.nil;exact .cons rfl .nil;apply zS;rfl;rfl;infer_instance;exact .cons rfl (.cons rfl .nil);intro w _;rename_i hst;(exact IndexFunc_calls plainOps b _ _ _ _ w (hpl.us (st_us hst) (by exact List.singleton_sublist.2 (by (repeat (first|exact List.Mem.head _|apply List.Mem.tail))))) ((hst.own (bx,_) (by (repeat (first|exact List.Mem.head _|apply List.Mem.tail)))).2));refine vAz<|nNz<|zI<|sRz<|vMz ?_;refine lvz (.lssF rfl rfl (by omega)) ?_;refine nNz<|cFz<|zJ<|thenN<|sRz ?_)
   rw [hidx]
   skip
   (apply LW.callR;rfl;rfl;infer_instance;exact ArgsOk.nil;intro w hs)
   exact plain_calls w
   intro vq gq hpq
   obtain ⟨bq,rfl,rfl⟩:=id hpq
   (refine vMz ?_;refine lvz (.indexAddrS rfl rfl rfl (by omega)) ?_;refine ldz rfl .head (by assumption) ?_;refine zR rfl rfl (.tail (.tail (.tail .head))) (.whole rfl rfl rfl)<|vAz<|nNz<|zK ?_)
   (apply finR;exact .inl rfl;rfl;rfl;rfl;apply zD;apply zH;rfl;apply qG;apply zX;apply zX;apply zX;apply zY;exact qH rfl;apply zD;exact zG rfl;exact zF)
   rfl
def basesE:Array MapEntry:=#[⟨.int .u8 91,.int .u64 1,0⟩,⟨.int .u8 2,.int .u64 5,1⟩,⟨.int .u8 4,.int .u64 5,2⟩,⟨.int .u8 6,.int .u64 5,3⟩,⟨.int .u8 71,.int .u64 5,4⟩,⟨.int .u8 86,.int .u64 8,5⟩,⟨.int .u8 87,.int .u64 10,6⟩,⟨.int .u8 32,.int .u64 30,7⟩,⟨.int .u8 92,.int .u64 10,8⟩,⟨.int .u8 93,.int .u64 10,9⟩]
def MapV (v:Value) (gs:Fs):Prop:=∃ b,v=.map (some b)∧gs=[(b,.map basesE 10)]
theorem bases_calls (w:World):Calls Tryz.prog 130 #[] w (RetG w [] MapV):=by
 refine enter (args:=[]) _ [] [] Tryz.func130 rfl Tryz.ntmps130 rfl (by simp) .nil ?_
 (refine sRz<|vAz<|nSz ?_;apply LW.makeMap;rfl;intro _;apply LW.mapIns;infer_instance;infer_instance;rfl;rfl;rfl;apply qA;rfl;rfl;apply LW.mapIns;infer_instance;infer_instance;rfl;rfl;rfl;apply qA;rfl;rfl;apply LW.mapIns;infer_instance;infer_instance;rfl;rfl;rfl;apply qA;rfl;rfl;apply LW.mapIns;infer_instance;infer_instance;rfl;rfl;rfl;apply qA;rfl;rfl;apply LW.mapIns;infer_instance;infer_instance;rfl;rfl;rfl;apply qA;rfl;rfl;apply LW.mapIns;infer_instance;infer_instance;rfl;rfl;rfl;apply qA;rfl;rfl;apply LW.mapIns;infer_instance;infer_instance;rfl;rfl;rfl;apply qA;rfl;rfl;apply LW.mapIns;infer_instance;infer_instance;rfl;rfl;rfl;apply qA;rfl;rfl;apply LW.mapIns;infer_instance;infer_instance;rfl;rfl;rfl;apply qA;rfl;rfl;apply LW.mapIns;infer_instance;infer_instance;rfl;rfl;rfl;apply qA;rfl;rfl;refine vMz<|vAz<|nNz<|zK ?_)
 rename_i b
 apply finM [(b,.map basesE 10)];(exact .inl rfl);(exact Shut.nil);rfl;(apply zD;exact zG rfl;exact zF);exact qO _
 exact ⟨b,rfl,rfl⟩
def gasB (b:Nat):Nat:=if b=91 then 1 else if b=2 then 5 else if b=4 then 5 else if b=6 then 5 else if b=71 then 5 else if b=86 then 8 else if b=87 then 10 else if b=32 then 30 else if b=92 then 10 else if b=93 then 10 else if b=49 then 0 else if b=84 then 0 else if b=85 then 0 else if b=241 then 0 else if b=244 then 0 else if b=250 then 0 else if b=245 then 0 else if b=0 then 0 else if b=243 then 0 else if b=253 then 0 else if b=254 then 0 else if b=48 then 2 else if b=50 then 2 else if b=51 then 2 else if b=52 then 2 else if b=54 then 2 else if b=61 then 2 else if b=66 then 2 else if b=67 then 2 else if b=72 then 2 else if b=80 then 2 else if b=90 then 2 else 3
theorem Base_calls (b:Nat) (hb:b < 256) (w:World):Calls Tryz.prog 93 #[.int .u8 (b:Int)] w (Ret w (match opOf b with|some _=>.tuple #[.int .u64 (gasB b:Int),.int .i64 0]|none=>.tuple #[.int .u64 0,.int .i64 220])):=by
 have hOf0:=Of_op_calls b hb
 refine enter (args:=[_]) _ [] [] Tryz.func93 rfl Tryz.ntmps93 rfl (by simp) .nil ?_
 cases ho:opOf b with
 |none =>
  rw [ho] at hOf0
  have hOf:∀ w,Calls Tryz.prog 91 #[.int .u8 (b:Int)] w (Ret w (.tuple #[.agg (opc zeroOp),.int .i64 4])):=hOf0
  (refine sRz<|vAz<|vAz<|nNz<|zI<|sRz<|vMz ?_;apply zS;rfl;rfl;infer_instance;exact .cons rfl .nil;intro w _;exact hOf w;refine vMz ?_;refine vEz ?_;refine vEz ?_;apply zU;rfl;intro _;refine zR rfl rfl .head (.whole rfl rfl rfl)<|vAz<|nSz<|vMz ?_;refine lvz (.neT rfl rfl (by omega)) ?_;refine nNz<|cTz<|sRz<|vAz<|vAz<|nNz<|zK<|thenR ?_)
  (apply finR;exact .inl rfl;rfl;rfl;rfl;apply zD;exact zG rfl;apply zD;exact zG rfl;exact zF)
  rfl
 |some x =>
  rw [ho] at hOf0
  have hOf:∀ w,Calls Tryz.prog 91 #[.int .u8 (b:Int)] w (Ret w (.tuple #[.agg (opc x),.int .i64 0])):=hOf0
  by_cases h91:b=91
  ·have hf:Instr.findNow (.int .u8) (.int .u8 (b:Int)) basesE.toList 0=some (some (0,.int .u64 1)):=by rw [h91];rfl
   (refine sRz<|vAz<|vAz<|nNz<|zI<|sRz<|vMz ?_;apply zS;rfl;rfl;infer_instance;exact .cons rfl .nil;intro w _;exact hOf w;refine vMz ?_;refine vEz ?_;refine vEz ?_;apply zU;rfl;intro _;refine zR rfl rfl .head (.whole rfl rfl rfl)<|vAz<|nSz<|vMz ?_;refine lvz (.neF rfl rfl (by omega)) ?_;refine nNz<|cFz<|zJ<|thenN<|zI<|sRz ?_)
   (apply LW.callR;rfl;rfl;infer_instance;exact ArgsOk.nil;intro w hs)
   exact bases_calls w
   intro vm gm hm
   obtain ⟨bm,rfl,rfl⟩:=hm
   simp only [List.cons_append,List.nil_append]
   (refine vMz ?_;apply LW.mapGet;rfl;infer_instance;infer_instance;infer_instance;rfl;rfl;apply qG;apply zY;rfl;assumption;rfl;refine vMz ?_;refine vEz ?_;refine vEz ?_;refine vAz<|vAz<|nSz<|vMz<|nNz<|cTz<|sRz<|vMz<|vAz<|vAz<|nNz<|zK<|thenR ?_)
   (apply finR;exact .inl rfl;rfl;rfl;rfl;apply zD;exact zG rfl;apply zD;exact zG rfl;exact zF)
   subst h91;rfl
  by_cases h2:b=2
  ·have hf:Instr.findNow (.int .u8) (.int .u8 (b:Int)) basesE.toList 0=some (some (1,.int .u64 5)):=by rw [h2];rfl
   (refine sRz<|vAz<|vAz<|nNz<|zI<|sRz<|vMz ?_;apply zS;rfl;rfl;infer_instance;exact .cons rfl .nil;intro w _;exact hOf w;refine vMz ?_;refine vEz ?_;refine vEz ?_;apply zU;rfl;intro _;refine zR rfl rfl .head (.whole rfl rfl rfl)<|vAz<|nSz<|vMz ?_;refine lvz (.neF rfl rfl (by omega)) ?_;refine nNz<|cFz<|zJ<|thenN<|zI<|sRz ?_)
   (apply LW.callR;rfl;rfl;infer_instance;exact ArgsOk.nil;intro w hs)
   exact bases_calls w
   intro vm gm hm
   obtain ⟨bm,rfl,rfl⟩:=hm
   simp only [List.cons_append,List.nil_append]
   (refine vMz ?_;apply LW.mapGet;rfl;infer_instance;infer_instance;infer_instance;rfl;rfl;apply qG;apply zY;rfl;assumption;rfl;refine vMz ?_;refine vEz ?_;refine vEz ?_;refine vAz<|vAz<|nSz<|vMz<|nNz<|cTz<|sRz<|vMz<|vAz<|vAz<|nNz<|zK<|thenR ?_)
   (apply finR;exact .inl rfl;rfl;rfl;rfl;apply zD;exact zG rfl;apply zD;exact zG rfl;exact zF)
   subst h2;rfl
  by_cases h4:b=4
  ·have hf:Instr.findNow (.int .u8) (.int .u8 (b:Int)) basesE.toList 0=some (some (2,.int .u64 5)):=by rw [h4];rfl
   (refine sRz<|vAz<|vAz<|nNz<|zI<|sRz<|vMz ?_;apply zS;rfl;rfl;infer_instance;exact .cons rfl .nil;intro w _;exact hOf w;refine vMz ?_;refine vEz ?_;refine vEz ?_;apply zU;rfl;intro _;refine zR rfl rfl .head (.whole rfl rfl rfl)<|vAz<|nSz<|vMz ?_;refine lvz (.neF rfl rfl (by omega)) ?_;refine nNz<|cFz<|zJ<|thenN<|zI<|sRz ?_)
   (apply LW.callR;rfl;rfl;infer_instance;exact ArgsOk.nil;intro w hs)
   exact bases_calls w
   intro vm gm hm
   obtain ⟨bm,rfl,rfl⟩:=hm
   simp only [List.cons_append,List.nil_append]
   (refine vMz ?_;apply LW.mapGet;rfl;infer_instance;infer_instance;infer_instance;rfl;rfl;apply qG;apply zY;rfl;assumption;rfl;refine vMz ?_;refine vEz ?_;refine vEz ?_;refine vAz<|vAz<|nSz<|vMz<|nNz<|cTz<|sRz<|vMz<|vAz<|vAz<|nNz<|zK<|thenR ?_)
   (apply finR;exact .inl rfl;rfl;rfl;rfl;apply zD;exact zG rfl;apply zD;exact zG rfl;exact zF)
   subst h4;rfl
  by_cases h6:b=6
  ·have hf:Instr.findNow (.int .u8) (.int .u8 (b:Int)) basesE.toList 0=some (some (3,.int .u64 5)):=by rw [h6];rfl
   (refine sRz<|vAz<|vAz<|nNz<|zI<|sRz<|vMz ?_;apply zS;rfl;rfl;infer_instance;exact .cons rfl .nil;intro w _;exact hOf w;refine vMz ?_;refine vEz ?_;refine vEz ?_;apply zU;rfl;intro _;refine zR rfl rfl .head (.whole rfl rfl rfl)<|vAz<|nSz<|vMz ?_;refine lvz (.neF rfl rfl (by omega)) ?_;refine nNz<|cFz<|zJ<|thenN<|zI<|sRz ?_)
   (apply LW.callR;rfl;rfl;infer_instance;exact ArgsOk.nil;intro w hs)
   exact bases_calls w
   intro vm gm hm
   obtain ⟨bm,rfl,rfl⟩:=hm
   simp only [List.cons_append,List.nil_append]
   (refine vMz ?_;apply LW.mapGet;rfl;infer_instance;infer_instance;infer_instance;rfl;rfl;apply qG;apply zY;rfl;assumption;rfl;refine vMz ?_;refine vEz ?_;refine vEz ?_;refine vAz<|vAz<|nSz<|vMz<|nNz<|cTz<|sRz<|vMz<|vAz<|vAz<|nNz<|zK<|thenR ?_)
   (apply finR;exact .inl rfl;rfl;rfl;rfl;apply zD;exact zG rfl;apply zD;exact zG rfl;exact zF)
   subst h6;rfl
  by_cases h71:b=71
  ·have hf:Instr.findNow (.int .u8) (.int .u8 (b:Int)) basesE.toList 0=some (some (4,.int .u64 5)):=by rw [h71];rfl
   (refine sRz<|vAz<|vAz<|nNz<|zI<|sRz<|vMz ?_;apply zS;rfl;rfl;infer_instance;exact .cons rfl .nil;intro w _;exact hOf w;refine vMz ?_;refine vEz ?_;refine vEz ?_;apply zU;rfl;intro _;refine zR rfl rfl .head (.whole rfl rfl rfl)<|vAz<|nSz<|vMz ?_;refine lvz (.neF rfl rfl (by omega)) ?_;refine nNz<|cFz<|zJ<|thenN<|zI<|sRz ?_)
   (apply LW.callR;rfl;rfl;infer_instance;exact ArgsOk.nil;intro w hs)
   exact bases_calls w
   intro vm gm hm
   obtain ⟨bm,rfl,rfl⟩:=hm
   simp only [List.cons_append,List.nil_append]
   (refine vMz ?_;apply LW.mapGet;rfl;infer_instance;infer_instance;infer_instance;rfl;rfl;apply qG;apply zY;rfl;assumption;rfl;refine vMz ?_;refine vEz ?_;refine vEz ?_;refine vAz<|vAz<|nSz<|vMz<|nNz<|cTz<|sRz<|vMz<|vAz<|vAz<|nNz<|zK<|thenR ?_)
   (apply finR;exact .inl rfl;rfl;rfl;rfl;apply zD;exact zG rfl;apply zD;exact zG rfl;exact zF)
   subst h71;rfl
  by_cases h86:b=86
  ·have hf:Instr.findNow (.int .u8) (.int .u8 (b:Int)) basesE.toList 0=some (some (5,.int .u64 8)):=by rw [h86];rfl
   (refine sRz<|vAz<|vAz<|nNz<|zI<|sRz<|vMz ?_;apply zS;rfl;rfl;infer_instance;exact .cons rfl .nil;intro w _;exact hOf w;refine vMz ?_;refine vEz ?_;refine vEz ?_;apply zU;rfl;intro _;refine zR rfl rfl .head (.whole rfl rfl rfl)<|vAz<|nSz<|vMz ?_;refine lvz (.neF rfl rfl (by omega)) ?_;refine nNz<|cFz<|zJ<|thenN<|zI<|sRz ?_)
   (apply LW.callR;rfl;rfl;infer_instance;exact ArgsOk.nil;intro w hs)
   exact bases_calls w
   intro vm gm hm
   obtain ⟨bm,rfl,rfl⟩:=hm
   simp only [List.cons_append,List.nil_append]
   (refine vMz ?_;apply LW.mapGet;rfl;infer_instance;infer_instance;infer_instance;rfl;rfl;apply qG;apply zY;rfl;assumption;rfl;refine vMz ?_;refine vEz ?_;refine vEz ?_;refine vAz<|vAz<|nSz<|vMz<|nNz<|cTz<|sRz<|vMz<|vAz<|vAz<|nNz<|zK<|thenR ?_)
   (apply finR;exact .inl rfl;rfl;rfl;rfl;apply zD;exact zG rfl;apply zD;exact zG rfl;exact zF)
   subst h86;rfl
  by_cases h87:b=87
  ·have hf:Instr.findNow (.int .u8) (.int .u8 (b:Int)) basesE.toList 0=some (some (6,.int .u64 10)):=by rw [h87];rfl
   (refine sRz<|vAz<|vAz<|nNz<|zI<|sRz<|vMz ?_;apply zS;rfl;rfl;infer_instance;exact .cons rfl .nil;intro w _;exact hOf w;refine vMz ?_;refine vEz ?_;refine vEz ?_;apply zU;rfl;intro _;refine zR rfl rfl .head (.whole rfl rfl rfl)<|vAz<|nSz<|vMz ?_;refine lvz (.neF rfl rfl (by omega)) ?_;refine nNz<|cFz<|zJ<|thenN<|zI<|sRz ?_)
   (apply LW.callR;rfl;rfl;infer_instance;exact ArgsOk.nil;intro w hs)
   exact bases_calls w
   intro vm gm hm
   obtain ⟨bm,rfl,rfl⟩:=hm
   simp only [List.cons_append,List.nil_append]
   (refine vMz ?_;apply LW.mapGet;rfl;infer_instance;infer_instance;infer_instance;rfl;rfl;apply qG;apply zY;rfl;assumption;rfl;refine vMz ?_;refine vEz ?_;refine vEz ?_;refine vAz<|vAz<|nSz<|vMz<|nNz<|cTz<|sRz<|vMz<|vAz<|vAz<|nNz<|zK<|thenR ?_)
   (apply finR;exact .inl rfl;rfl;rfl;rfl;apply zD;exact zG rfl;apply zD;exact zG rfl;exact zF)
   subst h87;rfl
  by_cases h32:b=32
  ·have hf:Instr.findNow (.int .u8) (.int .u8 (b:Int)) basesE.toList 0=some (some (7,.int .u64 30)):=by rw [h32];rfl
   (refine sRz<|vAz<|vAz<|nNz<|zI<|sRz<|vMz ?_;apply zS;rfl;rfl;infer_instance;exact .cons rfl .nil;intro w _;exact hOf w;refine vMz ?_;refine vEz ?_;refine vEz ?_;apply zU;rfl;intro _;refine zR rfl rfl .head (.whole rfl rfl rfl)<|vAz<|nSz<|vMz ?_;refine lvz (.neF rfl rfl (by omega)) ?_;refine nNz<|cFz<|zJ<|thenN<|zI<|sRz ?_)
   (apply LW.callR;rfl;rfl;infer_instance;exact ArgsOk.nil;intro w hs)
   exact bases_calls w
   intro vm gm hm
   obtain ⟨bm,rfl,rfl⟩:=hm
   simp only [List.cons_append,List.nil_append]
   (refine vMz ?_;apply LW.mapGet;rfl;infer_instance;infer_instance;infer_instance;rfl;rfl;apply qG;apply zY;rfl;assumption;rfl;refine vMz ?_;refine vEz ?_;refine vEz ?_;refine vAz<|vAz<|nSz<|vMz<|nNz<|cTz<|sRz<|vMz<|vAz<|vAz<|nNz<|zK<|thenR ?_)
   (apply finR;exact .inl rfl;rfl;rfl;rfl;apply zD;exact zG rfl;apply zD;exact zG rfl;exact zF)
   subst h32;rfl
  by_cases h92:b=92
  ·have hf:Instr.findNow (.int .u8) (.int .u8 (b:Int)) basesE.toList 0=some (some (8,.int .u64 10)):=by rw [h92];rfl
   (refine sRz<|vAz<|vAz<|nNz<|zI<|sRz<|vMz ?_;apply zS;rfl;rfl;infer_instance;exact .cons rfl .nil;intro w _;exact hOf w;refine vMz ?_;refine vEz ?_;refine vEz ?_;apply zU;rfl;intro _;refine zR rfl rfl .head (.whole rfl rfl rfl)<|vAz<|nSz<|vMz ?_;refine lvz (.neF rfl rfl (by omega)) ?_;refine nNz<|cFz<|zJ<|thenN<|zI<|sRz ?_)
   (apply LW.callR;rfl;rfl;infer_instance;exact ArgsOk.nil;intro w hs)
   exact bases_calls w
   intro vm gm hm
   obtain ⟨bm,rfl,rfl⟩:=hm
   simp only [List.cons_append,List.nil_append]
   (refine vMz ?_;apply LW.mapGet;rfl;infer_instance;infer_instance;infer_instance;rfl;rfl;apply qG;apply zY;rfl;assumption;rfl;refine vMz ?_;refine vEz ?_;refine vEz ?_;refine vAz<|vAz<|nSz<|vMz<|nNz<|cTz<|sRz<|vMz<|vAz<|vAz<|nNz<|zK<|thenR ?_)
   (apply finR;exact .inl rfl;rfl;rfl;rfl;apply zD;exact zG rfl;apply zD;exact zG rfl;exact zF)
   subst h92;rfl
  by_cases h93:b=93
  ·have hf:Instr.findNow (.int .u8) (.int .u8 (b:Int)) basesE.toList 0=some (some (9,.int .u64 10)):=by rw [h93];rfl
   (refine sRz<|vAz<|vAz<|nNz<|zI<|sRz<|vMz ?_;apply zS;rfl;rfl;infer_instance;exact .cons rfl .nil;intro w _;exact hOf w;refine vMz ?_;refine vEz ?_;refine vEz ?_;apply zU;rfl;intro _;refine zR rfl rfl .head (.whole rfl rfl rfl)<|vAz<|nSz<|vMz ?_;refine lvz (.neF rfl rfl (by omega)) ?_;refine nNz<|cFz<|zJ<|thenN<|zI<|sRz ?_)
   (apply LW.callR;rfl;rfl;infer_instance;exact ArgsOk.nil;intro w hs)
   exact bases_calls w
   intro vm gm hm
   obtain ⟨bm,rfl,rfl⟩:=hm
   simp only [List.cons_append,List.nil_append]
   (refine vMz ?_;apply LW.mapGet;rfl;infer_instance;infer_instance;infer_instance;rfl;rfl;apply qG;apply zY;rfl;assumption;rfl;refine vMz ?_;refine vEz ?_;refine vEz ?_;refine vAz<|vAz<|nSz<|vMz<|nNz<|cTz<|sRz<|vMz<|vAz<|vAz<|nNz<|zK<|thenR ?_)
   (apply finR;exact .inl rfl;rfl;rfl;rfl;apply zD;exact zG rfl;apply zD;exact zG rfl;exact zF)
   subst h93;rfl
  have hf:Instr.findNow (.int .u8) (.int .u8 (b:Int)) basesE.toList 0=some none:=by
   have hk:∀ k:Nat,b ≠ k→((b:Int) == (k:Int))=false:=fun k h=>by simpa using fun e:(b:Int)=(k:Int)=>h (Int.natCast_inj.1 e)
   simp only [basesE,Instr.findNow,Instr.sameNow,if_true,show ((b:Int) == 91)=false from hk 91 h91,show ((b:Int) == 2)=false from hk 2 h2,show ((b:Int) == 4)=false from hk 4 h4,show ((b:Int) == 6)=false from hk 6 h6,show ((b:Int) == 71)=false from hk 71 h71,show ((b:Int) == 86)=false from hk 86 h86,show ((b:Int) == 87)=false from hk 87 h87,show ((b:Int) == 32)=false from hk 32 h32,show ((b:Int) == 92)=false from hk 92 h92,show ((b:Int) == 93)=false from hk 93 h93]
  by_cases h49:b=49
  ·(refine sRz<|vAz<|vAz<|nNz<|zI<|sRz<|vMz ?_;apply zS;rfl;rfl;infer_instance;exact .cons rfl .nil;intro w _;exact hOf w;refine vMz ?_;refine vEz ?_;refine vEz ?_;apply zU;rfl;intro _;refine zR rfl rfl .head (.whole rfl rfl rfl)<|vAz<|nSz<|vMz ?_;refine lvz (.neF rfl rfl (by omega)) ?_;refine nNz<|cFz<|zJ<|thenN<|zI<|sRz ?_)
   (apply LW.callR;rfl;rfl;infer_instance;exact ArgsOk.nil;intro w hs)
   exact bases_calls w
   intro vm gm hm
   obtain ⟨bm,rfl,rfl⟩:=hm
   simp only [List.cons_append,List.nil_append]
   (refine vMz ?_;apply LW.mapGet;rfl;infer_instance;infer_instance;infer_instance;rfl;rfl;apply qG;apply zY;rfl;assumption;rfl;refine vMz ?_;refine vEz ?_;refine vEz ?_;refine vAz<|vAz<|nSz<|vMz<|nNz<|cFz<|zJ<|thenN<|zI<|sRz<|vMz<|nNz<|zM<|zI ?_;refine zM<|zI<|zM<|zM<|zI<|zI<|zI<|sRz ?_;refine lvz (.eqT rfl rfl (by omega)) ?_;refine vAz<|nNz<|cTz<|zJ<|thenN<|cTz<|CW.exit<|thenE<|thenE<|blkE rfl<|blkN<|thenN<|zI<|sRz ?_;refine vAz<|vAz<|nNz<|zK<|thenR<|blkR<|thenR<|blkR<|thenR ?_)
   (apply finR;exact .inl rfl;rfl;rfl;rfl;apply zD;exact zG rfl;apply zD;exact zG rfl;exact zF)
   subst h49;rfl
  by_cases h84:b=84
  ·(refine sRz<|vAz<|vAz<|nNz<|zI<|sRz<|vMz ?_;apply zS;rfl;rfl;infer_instance;exact .cons rfl .nil;intro w _;exact hOf w;refine vMz ?_;refine vEz ?_;refine vEz ?_;apply zU;rfl;intro _;refine zR rfl rfl .head (.whole rfl rfl rfl)<|vAz<|nSz<|vMz ?_;refine lvz (.neF rfl rfl (by omega)) ?_;refine nNz<|cFz<|zJ<|thenN<|zI<|sRz ?_)
   (apply LW.callR;rfl;rfl;infer_instance;exact ArgsOk.nil;intro w hs)
   exact bases_calls w
   intro vm gm hm
   obtain ⟨bm,rfl,rfl⟩:=hm
   simp only [List.cons_append,List.nil_append]
   (refine vMz ?_;apply LW.mapGet;rfl;infer_instance;infer_instance;infer_instance;rfl;rfl;apply qG;apply zY;rfl;assumption;rfl;refine vMz ?_;refine vEz ?_;refine vEz ?_;refine vAz<|vAz<|nSz<|vMz<|nNz<|cFz<|zJ<|thenN<|zI<|sRz<|vMz<|nNz<|zM<|zI ?_;refine zM<|zI<|zM<|zM<|zI<|zI<|zI<|sRz ?_;refine lvz (.eqF rfl rfl (by omega)) ?_;refine vAz<|nNz<|cFz<|sRz ?_;refine lvz (.eqT rfl rfl (by omega)) ?_;refine vAz<|nNz<|cTz<|zJ<|thenN<|cTz<|CW.exit<|thenE<|thenE<|blkE rfl<|blkN<|thenN<|zI<|sRz ?_;refine vAz<|vAz<|nNz<|zK<|thenR<|blkR<|thenR<|blkR<|thenR ?_)
   (apply finR;exact .inl rfl;rfl;rfl;rfl;apply zD;exact zG rfl;apply zD;exact zG rfl;exact zF)
   subst h84;rfl
  by_cases h85:b=85
  ·(refine sRz<|vAz<|vAz<|nNz<|zI<|sRz<|vMz ?_;apply zS;rfl;rfl;infer_instance;exact .cons rfl .nil;intro w _;exact hOf w;refine vMz ?_;refine vEz ?_;refine vEz ?_;apply zU;rfl;intro _;refine zR rfl rfl .head (.whole rfl rfl rfl)<|vAz<|nSz<|vMz ?_;refine lvz (.neF rfl rfl (by omega)) ?_;refine nNz<|cFz<|zJ<|thenN<|zI<|sRz ?_)
   (apply LW.callR;rfl;rfl;infer_instance;exact ArgsOk.nil;intro w hs)
   exact bases_calls w
   intro vm gm hm
   obtain ⟨bm,rfl,rfl⟩:=hm
   simp only [List.cons_append,List.nil_append]
   (refine vMz ?_;apply LW.mapGet;rfl;infer_instance;infer_instance;infer_instance;rfl;rfl;apply qG;apply zY;rfl;assumption;rfl;refine vMz ?_;refine vEz ?_;refine vEz ?_;refine vAz<|vAz<|nSz<|vMz<|nNz<|cFz<|zJ<|thenN<|zI<|sRz<|vMz<|nNz<|zM<|zI ?_;refine zM<|zI<|zM<|zM<|zI<|zI<|zI<|sRz ?_;refine lvz (.eqF rfl rfl (by omega)) ?_;refine vAz<|nNz<|cFz<|sRz ?_;refine lvz (.eqF rfl rfl (by omega)) ?_;refine vAz<|nNz<|cFz<|sRz ?_;refine lvz (.eqT rfl rfl (by omega)) ?_;refine vAz<|nNz<|cTz<|zJ<|thenN<|cTz<|CW.exit<|thenE<|thenE<|blkE rfl<|blkN<|thenN<|zI<|sRz ?_;refine vAz<|vAz<|nNz<|zK<|thenR<|blkR<|thenR<|blkR<|thenR ?_)
   (apply finR;exact .inl rfl;rfl;rfl;rfl;apply zD;exact zG rfl;apply zD;exact zG rfl;exact zF)
   subst h85;rfl
  by_cases h241:b=241
  ·(refine sRz<|vAz<|vAz<|nNz<|zI<|sRz<|vMz ?_;apply zS;rfl;rfl;infer_instance;exact .cons rfl .nil;intro w _;exact hOf w;refine vMz ?_;refine vEz ?_;refine vEz ?_;apply zU;rfl;intro _;refine zR rfl rfl .head (.whole rfl rfl rfl)<|vAz<|nSz<|vMz ?_;refine lvz (.neF rfl rfl (by omega)) ?_;refine nNz<|cFz<|zJ<|thenN<|zI<|sRz ?_)
   (apply LW.callR;rfl;rfl;infer_instance;exact ArgsOk.nil;intro w hs)
   exact bases_calls w
   intro vm gm hm
   obtain ⟨bm,rfl,rfl⟩:=hm
   simp only [List.cons_append,List.nil_append]
   (refine vMz ?_;apply LW.mapGet;rfl;infer_instance;infer_instance;infer_instance;rfl;rfl;apply qG;apply zY;rfl;assumption;rfl;refine vMz ?_;refine vEz ?_;refine vEz ?_;refine vAz<|vAz<|nSz<|vMz<|nNz<|cFz<|zJ<|thenN<|zI<|sRz<|vMz<|nNz<|zM<|zI ?_;refine zM<|zI<|zM<|zM<|zI<|zI<|zI<|sRz ?_;refine lvz (.eqF rfl rfl (by omega)) ?_;refine vAz<|nNz<|cFz<|sRz ?_;refine lvz (.eqF rfl rfl (by omega)) ?_;refine vAz<|nNz<|cFz<|sRz ?_;refine lvz (.eqF rfl rfl (by omega)) ?_;refine vAz<|nNz<|cFz<|sRz ?_;refine lvz (.eqT rfl rfl (by omega)) ?_;refine vAz<|nNz<|cTz<|zJ<|thenN<|cTz<|CW.exit<|thenE<|thenE<|blkE rfl<|blkN<|thenN<|zI<|sRz ?_;refine vAz<|vAz<|nNz<|zK<|thenR<|blkR<|thenR<|blkR<|thenR ?_)
   (apply finR;exact .inl rfl;rfl;rfl;rfl;apply zD;exact zG rfl;apply zD;exact zG rfl;exact zF)
   subst h241;rfl
  by_cases h244:b=244
  ·(refine sRz<|vAz<|vAz<|nNz<|zI<|sRz<|vMz ?_;apply zS;rfl;rfl;infer_instance;exact .cons rfl .nil;intro w _;exact hOf w;refine vMz ?_;refine vEz ?_;refine vEz ?_;apply zU;rfl;intro _;refine zR rfl rfl .head (.whole rfl rfl rfl)<|vAz<|nSz<|vMz ?_;refine lvz (.neF rfl rfl (by omega)) ?_;refine nNz<|cFz<|zJ<|thenN<|zI<|sRz ?_)
   (apply LW.callR;rfl;rfl;infer_instance;exact ArgsOk.nil;intro w hs)
   exact bases_calls w
   intro vm gm hm
   obtain ⟨bm,rfl,rfl⟩:=hm
   simp only [List.cons_append,List.nil_append]
   (refine vMz ?_;apply LW.mapGet;rfl;infer_instance;infer_instance;infer_instance;rfl;rfl;apply qG;apply zY;rfl;assumption;rfl;refine vMz ?_;refine vEz ?_;refine vEz ?_;refine vAz<|vAz<|nSz<|vMz<|nNz<|cFz<|zJ<|thenN<|zI<|sRz<|vMz<|nNz<|zM<|zI ?_;refine zM<|zI<|zM<|zM<|zI<|zI<|zI<|sRz ?_;refine lvz (.eqF rfl rfl (by omega)) ?_;refine vAz<|nNz<|cFz<|sRz ?_;refine lvz (.eqF rfl rfl (by omega)) ?_;refine vAz<|nNz<|cFz<|sRz ?_;refine lvz (.eqF rfl rfl (by omega)) ?_;refine vAz<|nNz<|cFz<|sRz ?_;refine lvz (.eqF rfl rfl (by omega)) ?_;refine vAz<|nNz<|cFz<|sRz ?_;refine lvz (.eqT rfl rfl (by omega)) ?_;refine vAz<|nNz<|cTz<|zJ<|thenN<|cTz<|CW.exit<|thenE<|thenE<|blkE rfl<|blkN<|thenN<|zI<|sRz ?_;refine vAz<|vAz<|nNz<|zK<|thenR<|blkR<|thenR<|blkR<|thenR ?_)
   (apply finR;exact .inl rfl;rfl;rfl;rfl;apply zD;exact zG rfl;apply zD;exact zG rfl;exact zF)
   subst h244;rfl
  by_cases h250:b=250
  ·(refine sRz<|vAz<|vAz<|nNz<|zI<|sRz<|vMz ?_;apply zS;rfl;rfl;infer_instance;exact .cons rfl .nil;intro w _;exact hOf w;refine vMz ?_;refine vEz ?_;refine vEz ?_;apply zU;rfl;intro _;refine zR rfl rfl .head (.whole rfl rfl rfl)<|vAz<|nSz<|vMz ?_;refine lvz (.neF rfl rfl (by omega)) ?_;refine nNz<|cFz<|zJ<|thenN<|zI<|sRz ?_)
   (apply LW.callR;rfl;rfl;infer_instance;exact ArgsOk.nil;intro w hs)
   exact bases_calls w
   intro vm gm hm
   obtain ⟨bm,rfl,rfl⟩:=hm
   simp only [List.cons_append,List.nil_append]
   (refine vMz ?_;apply LW.mapGet;rfl;infer_instance;infer_instance;infer_instance;rfl;rfl;apply qG;apply zY;rfl;assumption;rfl;refine vMz ?_;refine vEz ?_;refine vEz ?_;refine vAz<|vAz<|nSz<|vMz<|nNz<|cFz<|zJ<|thenN<|zI<|sRz<|vMz<|nNz<|zM<|zI ?_;refine zM<|zI<|zM<|zM<|zI<|zI<|zI<|sRz ?_;refine lvz (.eqF rfl rfl (by omega)) ?_;refine vAz<|nNz<|cFz<|sRz ?_;refine lvz (.eqF rfl rfl (by omega)) ?_;refine vAz<|nNz<|cFz<|sRz ?_;refine lvz (.eqF rfl rfl (by omega)) ?_;refine vAz<|nNz<|cFz<|sRz ?_;refine lvz (.eqF rfl rfl (by omega)) ?_;refine vAz<|nNz<|cFz<|sRz ?_;refine lvz (.eqF rfl rfl (by omega)) ?_;refine vAz<|nNz<|cFz<|sRz ?_;refine lvz (.eqT rfl rfl (by omega)) ?_;refine vAz<|nNz<|cTz<|zJ<|thenN<|cTz<|CW.exit<|thenE<|thenE<|blkE rfl<|blkN<|thenN<|zI<|sRz ?_;refine vAz<|vAz<|nNz<|zK<|thenR<|blkR<|thenR<|blkR<|thenR ?_)
   (apply finR;exact .inl rfl;rfl;rfl;rfl;apply zD;exact zG rfl;apply zD;exact zG rfl;exact zF)
   subst h250;rfl
  by_cases h245:b=245
  ·(refine sRz<|vAz<|vAz<|nNz<|zI<|sRz<|vMz ?_;apply zS;rfl;rfl;infer_instance;exact .cons rfl .nil;intro w _;exact hOf w;refine vMz ?_;refine vEz ?_;refine vEz ?_;apply zU;rfl;intro _;refine zR rfl rfl .head (.whole rfl rfl rfl)<|vAz<|nSz<|vMz ?_;refine lvz (.neF rfl rfl (by omega)) ?_;refine nNz<|cFz<|zJ<|thenN<|zI<|sRz ?_)
   (apply LW.callR;rfl;rfl;infer_instance;exact ArgsOk.nil;intro w hs)
   exact bases_calls w
   intro vm gm hm
   obtain ⟨bm,rfl,rfl⟩:=hm
   simp only [List.cons_append,List.nil_append]
   (refine vMz ?_;apply LW.mapGet;rfl;infer_instance;infer_instance;infer_instance;rfl;rfl;apply qG;apply zY;rfl;assumption;rfl;refine vMz ?_;refine vEz ?_;refine vEz ?_;refine vAz<|vAz<|nSz<|vMz<|nNz<|cFz<|zJ<|thenN<|zI<|sRz<|vMz<|nNz<|zM<|zI ?_;refine zM<|zI<|zM<|zM<|zI<|zI<|zI<|sRz ?_;refine lvz (.eqF rfl rfl (by omega)) ?_;refine vAz<|nNz<|cFz<|sRz ?_;refine lvz (.eqF rfl rfl (by omega)) ?_;refine vAz<|nNz<|cFz<|sRz ?_;refine lvz (.eqF rfl rfl (by omega)) ?_;refine vAz<|nNz<|cFz<|sRz ?_;refine lvz (.eqF rfl rfl (by omega)) ?_;refine vAz<|nNz<|cFz<|sRz ?_;refine lvz (.eqF rfl rfl (by omega)) ?_;refine vAz<|nNz<|cFz<|sRz ?_;refine lvz (.eqF rfl rfl (by omega)) ?_;refine vAz<|nNz<|cFz<|zL ?_;refine lvz (.eqT rfl rfl (by omega)) ?_;refine vAz<|nNz<|cTz<|CW.exit<|thenE<|thenE<|blkE rfl<|blkN<|thenN<|zI<|sRz<|vAz<|vAz<|nNz ?_;refine zK<|thenR<|blkR<|thenR<|blkR<|thenR ?_)
   (apply finR;exact .inl rfl;rfl;rfl;rfl;apply zD;exact zG rfl;apply zD;exact zG rfl;exact zF)
   subst h245;rfl
  by_cases h0:b=0
  ·(refine sRz<|vAz<|vAz<|nNz<|zI<|sRz<|vMz ?_;apply zS;rfl;rfl;infer_instance;exact .cons rfl .nil;intro w _;exact hOf w;refine vMz ?_;refine vEz ?_;refine vEz ?_;apply zU;rfl;intro _;refine zR rfl rfl .head (.whole rfl rfl rfl)<|vAz<|nSz<|vMz ?_;refine lvz (.neF rfl rfl (by omega)) ?_;refine nNz<|cFz<|zJ<|thenN<|zI<|sRz ?_)
   (apply LW.callR;rfl;rfl;infer_instance;exact ArgsOk.nil;intro w hs)
   exact bases_calls w
   intro vm gm hm
   obtain ⟨bm,rfl,rfl⟩:=hm
   simp only [List.cons_append,List.nil_append]
   (refine vMz ?_;apply LW.mapGet;rfl;infer_instance;infer_instance;infer_instance;rfl;rfl;apply qG;apply zY;rfl;assumption;rfl;refine vMz ?_;refine vEz ?_;refine vEz ?_;refine vAz<|vAz<|nSz<|vMz<|nNz<|cFz<|zJ<|thenN<|zI<|sRz<|vMz<|nNz<|zM<|zI ?_;refine zM<|zI<|zM<|zM<|zI<|zI<|zI<|sRz ?_;refine lvz (.eqF rfl rfl (by omega)) ?_;refine vAz<|nNz<|cFz<|sRz ?_;refine lvz (.eqF rfl rfl (by omega)) ?_;refine vAz<|nNz<|cFz<|sRz ?_;refine lvz (.eqF rfl rfl (by omega)) ?_;refine vAz<|nNz<|cFz<|sRz ?_;refine lvz (.eqF rfl rfl (by omega)) ?_;refine vAz<|nNz<|cFz<|sRz ?_;refine lvz (.eqF rfl rfl (by omega)) ?_;refine vAz<|nNz<|cFz<|sRz ?_;refine lvz (.eqF rfl rfl (by omega)) ?_;refine vAz<|nNz<|cFz<|zL ?_;refine lvz (.eqF rfl rfl (by omega)) ?_;refine vAz<|nNz<|cFz<|zJ<|thenN<|zI<|zI<|sRz ?_;refine lvz (.eqT rfl rfl (by omega)) ?_;refine vAz<|nNz<|cTz<|zJ<|thenN<|cTz<|CW.exit<|thenE<|thenE<|blkO rfl<|blkE rfl<|thenN<|zI<|sRz ?_;refine vAz<|vAz<|nNz<|zK<|thenR<|blkR<|thenR<|blkR<|thenR ?_)
   (apply finR;exact .inl rfl;rfl;rfl;rfl;apply zD;exact zG rfl;apply zD;exact zG rfl;exact zF)
   subst h0;rfl
  by_cases h243:b=243
  ·(refine sRz<|vAz<|vAz<|nNz<|zI<|sRz<|vMz ?_;apply zS;rfl;rfl;infer_instance;exact .cons rfl .nil;intro w _;exact hOf w;refine vMz ?_;refine vEz ?_;refine vEz ?_;apply zU;rfl;intro _;refine zR rfl rfl .head (.whole rfl rfl rfl)<|vAz<|nSz<|vMz ?_;refine lvz (.neF rfl rfl (by omega)) ?_;refine nNz<|cFz<|zJ<|thenN<|zI<|sRz ?_)
   (apply LW.callR;rfl;rfl;infer_instance;exact ArgsOk.nil;intro w hs)
   exact bases_calls w
   intro vm gm hm
   obtain ⟨bm,rfl,rfl⟩:=hm
   simp only [List.cons_append,List.nil_append]
   (refine vMz ?_;apply LW.mapGet;rfl;infer_instance;infer_instance;infer_instance;rfl;rfl;apply qG;apply zY;rfl;assumption;rfl;refine vMz ?_;refine vEz ?_;refine vEz ?_;refine vAz<|vAz<|nSz<|vMz<|nNz<|cFz<|zJ<|thenN<|zI<|sRz<|vMz<|nNz<|zM<|zI ?_;refine zM<|zI<|zM<|zM<|zI<|zI<|zI<|sRz ?_;refine lvz (.eqF rfl rfl (by omega)) ?_;refine vAz<|nNz<|cFz<|sRz ?_;refine lvz (.eqF rfl rfl (by omega)) ?_;refine vAz<|nNz<|cFz<|sRz ?_;refine lvz (.eqF rfl rfl (by omega)) ?_;refine vAz<|nNz<|cFz<|sRz ?_;refine lvz (.eqF rfl rfl (by omega)) ?_;refine vAz<|nNz<|cFz<|sRz ?_;refine lvz (.eqF rfl rfl (by omega)) ?_;refine vAz<|nNz<|cFz<|sRz ?_;refine lvz (.eqF rfl rfl (by omega)) ?_;refine vAz<|nNz<|cFz<|zL ?_;refine lvz (.eqF rfl rfl (by omega)) ?_;refine vAz<|nNz<|cFz<|zJ<|thenN<|zI<|zI<|sRz ?_;refine lvz (.eqF rfl rfl (by omega)) ?_;refine vAz<|nNz<|cFz<|sRz ?_;refine lvz (.eqT rfl rfl (by omega)) ?_;refine vAz<|nNz<|cTz<|zJ<|thenN<|cTz<|CW.exit<|thenE<|thenE<|blkO rfl<|blkE rfl<|thenN<|zI<|sRz ?_;refine vAz<|vAz<|nNz<|zK<|thenR<|blkR<|thenR<|blkR<|thenR ?_)
   (apply finR;exact .inl rfl;rfl;rfl;rfl;apply zD;exact zG rfl;apply zD;exact zG rfl;exact zF)
   subst h243;rfl
  by_cases h253:b=253
  ·(refine sRz<|vAz<|vAz<|nNz<|zI<|sRz<|vMz ?_;apply zS;rfl;rfl;infer_instance;exact .cons rfl .nil;intro w _;exact hOf w;refine vMz ?_;refine vEz ?_;refine vEz ?_;apply zU;rfl;intro _;refine zR rfl rfl .head (.whole rfl rfl rfl)<|vAz<|nSz<|vMz ?_;refine lvz (.neF rfl rfl (by omega)) ?_;refine nNz<|cFz<|zJ<|thenN<|zI<|sRz ?_)
   (apply LW.callR;rfl;rfl;infer_instance;exact ArgsOk.nil;intro w hs)
   exact bases_calls w
   intro vm gm hm
   obtain ⟨bm,rfl,rfl⟩:=hm
   simp only [List.cons_append,List.nil_append]
   (refine vMz ?_;apply LW.mapGet;rfl;infer_instance;infer_instance;infer_instance;rfl;rfl;apply qG;apply zY;rfl;assumption;rfl;refine vMz ?_;refine vEz ?_;refine vEz ?_;refine vAz<|vAz<|nSz<|vMz<|nNz<|cFz<|zJ<|thenN<|zI<|sRz<|vMz<|nNz<|zM<|zI ?_;refine zM<|zI<|zM<|zM<|zI<|zI<|zI<|sRz ?_;refine lvz (.eqF rfl rfl (by omega)) ?_;refine vAz<|nNz<|cFz<|sRz ?_;refine lvz (.eqF rfl rfl (by omega)) ?_;refine vAz<|nNz<|cFz<|sRz ?_;refine lvz (.eqF rfl rfl (by omega)) ?_;refine vAz<|nNz<|cFz<|sRz ?_;refine lvz (.eqF rfl rfl (by omega)) ?_;refine vAz<|nNz<|cFz<|sRz ?_;refine lvz (.eqF rfl rfl (by omega)) ?_;refine vAz<|nNz<|cFz<|sRz ?_;refine lvz (.eqF rfl rfl (by omega)) ?_;refine vAz<|nNz<|cFz<|zL ?_;refine lvz (.eqF rfl rfl (by omega)) ?_;refine vAz<|nNz<|cFz<|zJ<|thenN<|zI<|zI<|sRz ?_;refine lvz (.eqF rfl rfl (by omega)) ?_;refine vAz<|nNz<|cFz<|sRz ?_;refine lvz (.eqF rfl rfl (by omega)) ?_;refine vAz<|nNz<|cFz<|sRz ?_;refine lvz (.eqT rfl rfl (by omega)) ?_;refine vAz<|nNz<|cTz<|zJ<|thenN<|cTz<|CW.exit<|thenE<|thenE<|blkO rfl<|blkE rfl<|thenN<|zI<|sRz ?_;refine vAz<|vAz<|nNz<|zK<|thenR<|blkR<|thenR<|blkR<|thenR ?_)
   (apply finR;exact .inl rfl;rfl;rfl;rfl;apply zD;exact zG rfl;apply zD;exact zG rfl;exact zF)
   subst h253;rfl
  by_cases h254:b=254
  ·(refine sRz<|vAz<|vAz<|nNz<|zI<|sRz<|vMz ?_;apply zS;rfl;rfl;infer_instance;exact .cons rfl .nil;intro w _;exact hOf w;refine vMz ?_;refine vEz ?_;refine vEz ?_;apply zU;rfl;intro _;refine zR rfl rfl .head (.whole rfl rfl rfl)<|vAz<|nSz<|vMz ?_;refine lvz (.neF rfl rfl (by omega)) ?_;refine nNz<|cFz<|zJ<|thenN<|zI<|sRz ?_)
   (apply LW.callR;rfl;rfl;infer_instance;exact ArgsOk.nil;intro w hs)
   exact bases_calls w
   intro vm gm hm
   obtain ⟨bm,rfl,rfl⟩:=hm
   simp only [List.cons_append,List.nil_append]
   (refine vMz ?_;apply LW.mapGet;rfl;infer_instance;infer_instance;infer_instance;rfl;rfl;apply qG;apply zY;rfl;assumption;rfl;refine vMz ?_;refine vEz ?_;refine vEz ?_;refine vAz<|vAz<|nSz<|vMz<|nNz<|cFz<|zJ<|thenN<|zI<|sRz<|vMz<|nNz<|zM<|zI ?_;refine zM<|zI<|zM<|zM<|zI<|zI<|zI<|sRz ?_;refine lvz (.eqF rfl rfl (by omega)) ?_;refine vAz<|nNz<|cFz<|sRz ?_;refine lvz (.eqF rfl rfl (by omega)) ?_;refine vAz<|nNz<|cFz<|sRz ?_;refine lvz (.eqF rfl rfl (by omega)) ?_;refine vAz<|nNz<|cFz<|sRz ?_;refine lvz (.eqF rfl rfl (by omega)) ?_;refine vAz<|nNz<|cFz<|sRz ?_;refine lvz (.eqF rfl rfl (by omega)) ?_;refine vAz<|nNz<|cFz<|sRz ?_;refine lvz (.eqF rfl rfl (by omega)) ?_;refine vAz<|nNz<|cFz<|zL ?_;refine lvz (.eqF rfl rfl (by omega)) ?_;refine vAz<|nNz<|cFz<|zJ<|thenN<|zI<|zI<|sRz ?_;refine lvz (.eqF rfl rfl (by omega)) ?_;refine vAz<|nNz<|cFz<|sRz ?_;refine lvz (.eqF rfl rfl (by omega)) ?_;refine vAz<|nNz<|cFz<|sRz ?_;refine lvz (.eqF rfl rfl (by omega)) ?_;refine vAz<|nNz<|cFz<|zL ?_;refine lvz (.eqT rfl rfl (by omega)) ?_;refine vAz<|nNz<|cTz<|CW.exit<|thenE<|thenE<|blkO rfl<|blkE rfl<|thenN<|zI<|sRz<|vAz<|vAz<|nNz ?_;refine zK<|thenR<|blkR<|thenR<|blkR<|thenR ?_)
   (apply finR;exact .inl rfl;rfl;rfl;rfl;apply zD;exact zG rfl;apply zD;exact zG rfl;exact zF)
   subst h254;rfl
  by_cases h48:b=48
  ·(refine sRz<|vAz<|vAz<|nNz<|zI<|sRz<|vMz ?_;apply zS;rfl;rfl;infer_instance;exact .cons rfl .nil;intro w _;exact hOf w;refine vMz ?_;refine vEz ?_;refine vEz ?_;apply zU;rfl;intro _;refine zR rfl rfl .head (.whole rfl rfl rfl)<|vAz<|nSz<|vMz ?_;refine lvz (.neF rfl rfl (by omega)) ?_;refine nNz<|cFz<|zJ<|thenN<|zI<|sRz ?_)
   (apply LW.callR;rfl;rfl;infer_instance;exact ArgsOk.nil;intro w hs)
   exact bases_calls w
   intro vm gm hm
   obtain ⟨bm,rfl,rfl⟩:=hm
   simp only [List.cons_append,List.nil_append]
   (refine vMz ?_;apply LW.mapGet;rfl;infer_instance;infer_instance;infer_instance;rfl;rfl;apply qG;apply zY;rfl;assumption;rfl;refine vMz ?_;refine vEz ?_;refine vEz ?_;refine vAz<|vAz<|nSz<|vMz<|nNz<|cFz<|zJ<|thenN<|zI<|sRz<|vMz<|nNz<|zM<|zI ?_;refine zM<|zI<|zM<|zM<|zI<|zI<|zI<|sRz ?_;refine lvz (.eqF rfl rfl (by omega)) ?_;refine vAz<|nNz<|cFz<|sRz ?_;refine lvz (.eqF rfl rfl (by omega)) ?_;refine vAz<|nNz<|cFz<|sRz ?_;refine lvz (.eqF rfl rfl (by omega)) ?_;refine vAz<|nNz<|cFz<|sRz ?_;refine lvz (.eqF rfl rfl (by omega)) ?_;refine vAz<|nNz<|cFz<|sRz ?_;refine lvz (.eqF rfl rfl (by omega)) ?_;refine vAz<|nNz<|cFz<|sRz ?_;refine lvz (.eqF rfl rfl (by omega)) ?_;refine vAz<|nNz<|cFz<|zL ?_;refine lvz (.eqF rfl rfl (by omega)) ?_;refine vAz<|nNz<|cFz<|zJ<|thenN<|zI<|zI<|sRz ?_;refine lvz (.eqF rfl rfl (by omega)) ?_;refine vAz<|nNz<|cFz<|sRz ?_;refine lvz (.eqF rfl rfl (by omega)) ?_;refine vAz<|nNz<|cFz<|sRz ?_;refine lvz (.eqF rfl rfl (by omega)) ?_;refine vAz<|nNz<|cFz<|zL ?_;refine lvz (.eqF rfl rfl (by omega)) ?_;refine vAz<|nNz<|cFz<|zJ<|thenN<|zI<|sRz ?_;refine lvz (.eqT rfl rfl (by omega)) ?_;refine vAz<|nNz<|cTz<|zJ<|thenN<|cTz<|CW.exit<|thenE<|blkO rfl<|blkO rfl<|thenE<|blkE rfl<|thenN<|zI ?_;refine sRz<|vAz<|vAz<|nNz<|zK<|thenR<|blkR<|thenR ?_)
   (apply finR;exact .inl rfl;rfl;rfl;rfl;apply zD;exact zG rfl;apply zD;exact zG rfl;exact zF)
   subst h48;rfl
  by_cases h50:b=50
  ·(refine sRz<|vAz<|vAz<|nNz<|zI<|sRz<|vMz ?_;apply zS;rfl;rfl;infer_instance;exact .cons rfl .nil;intro w _;exact hOf w;refine vMz ?_;refine vEz ?_;refine vEz ?_;apply zU;rfl;intro _;refine zR rfl rfl .head (.whole rfl rfl rfl)<|vAz<|nSz<|vMz ?_;refine lvz (.neF rfl rfl (by omega)) ?_;refine nNz<|cFz<|zJ<|thenN<|zI<|sRz ?_)
   (apply LW.callR;rfl;rfl;infer_instance;exact ArgsOk.nil;intro w hs)
   exact bases_calls w
   intro vm gm hm
   obtain ⟨bm,rfl,rfl⟩:=hm
   simp only [List.cons_append,List.nil_append]
   (refine vMz ?_;apply LW.mapGet;rfl;infer_instance;infer_instance;infer_instance;rfl;rfl;apply qG;apply zY;rfl;assumption;rfl;refine vMz ?_;refine vEz ?_;refine vEz ?_;refine vAz<|vAz<|nSz<|vMz<|nNz<|cFz<|zJ<|thenN<|zI<|sRz<|vMz<|nNz<|zM<|zI ?_;refine zM<|zI<|zM<|zM<|zI<|zI<|zI<|sRz ?_;refine lvz (.eqF rfl rfl (by omega)) ?_;refine vAz<|nNz<|cFz<|sRz ?_;refine lvz (.eqF rfl rfl (by omega)) ?_;refine vAz<|nNz<|cFz<|sRz ?_;refine lvz (.eqF rfl rfl (by omega)) ?_;refine vAz<|nNz<|cFz<|sRz ?_;refine lvz (.eqF rfl rfl (by omega)) ?_;refine vAz<|nNz<|cFz<|sRz ?_;refine lvz (.eqF rfl rfl (by omega)) ?_;refine vAz<|nNz<|cFz<|sRz ?_;refine lvz (.eqF rfl rfl (by omega)) ?_;refine vAz<|nNz<|cFz<|zL ?_;refine lvz (.eqF rfl rfl (by omega)) ?_;refine vAz<|nNz<|cFz<|zJ<|thenN<|zI<|zI<|sRz ?_;refine lvz (.eqF rfl rfl (by omega)) ?_;refine vAz<|nNz<|cFz<|sRz ?_;refine lvz (.eqF rfl rfl (by omega)) ?_;refine vAz<|nNz<|cFz<|sRz ?_;refine lvz (.eqF rfl rfl (by omega)) ?_;refine vAz<|nNz<|cFz<|zL ?_;refine lvz (.eqF rfl rfl (by omega)) ?_;refine vAz<|nNz<|cFz<|zJ<|thenN<|zI<|sRz ?_;refine lvz (.eqF rfl rfl (by omega)) ?_;refine vAz<|nNz<|cFz<|sRz ?_;refine lvz (.eqT rfl rfl (by omega)) ?_;refine vAz<|nNz<|cTz<|zJ<|thenN<|cTz<|CW.exit<|thenE<|blkO rfl<|blkO rfl<|thenE<|blkE rfl<|thenN<|zI ?_;refine sRz<|vAz<|vAz<|nNz<|zK<|thenR<|blkR<|thenR ?_)
   (apply finR;exact .inl rfl;rfl;rfl;rfl;apply zD;exact zG rfl;apply zD;exact zG rfl;exact zF)
   subst h50;rfl
  by_cases h51:b=51
  ·(refine sRz<|vAz<|vAz<|nNz<|zI<|sRz<|vMz ?_;apply zS;rfl;rfl;infer_instance;exact .cons rfl .nil;intro w _;exact hOf w;refine vMz ?_;refine vEz ?_;refine vEz ?_;apply zU;rfl;intro _;refine zR rfl rfl .head (.whole rfl rfl rfl)<|vAz<|nSz<|vMz ?_;refine lvz (.neF rfl rfl (by omega)) ?_;refine nNz<|cFz<|zJ<|thenN<|zI<|sRz ?_)
   (apply LW.callR;rfl;rfl;infer_instance;exact ArgsOk.nil;intro w hs)
   exact bases_calls w
   intro vm gm hm
   obtain ⟨bm,rfl,rfl⟩:=hm
   simp only [List.cons_append,List.nil_append]
   (refine vMz ?_;apply LW.mapGet;rfl;infer_instance;infer_instance;infer_instance;rfl;rfl;apply qG;apply zY;rfl;assumption;rfl;refine vMz ?_;refine vEz ?_;refine vEz ?_;refine vAz<|vAz<|nSz<|vMz<|nNz<|cFz<|zJ<|thenN<|zI<|sRz<|vMz<|nNz<|zM<|zI ?_;refine zM<|zI<|zM<|zM<|zI<|zI<|zI<|sRz ?_;refine lvz (.eqF rfl rfl (by omega)) ?_;refine vAz<|nNz<|cFz<|sRz ?_;refine lvz (.eqF rfl rfl (by omega)) ?_;refine vAz<|nNz<|cFz<|sRz ?_;refine lvz (.eqF rfl rfl (by omega)) ?_;refine vAz<|nNz<|cFz<|sRz ?_;refine lvz (.eqF rfl rfl (by omega)) ?_;refine vAz<|nNz<|cFz<|sRz ?_;refine lvz (.eqF rfl rfl (by omega)) ?_;refine vAz<|nNz<|cFz<|sRz ?_;refine lvz (.eqF rfl rfl (by omega)) ?_;refine vAz<|nNz<|cFz<|zL ?_;refine lvz (.eqF rfl rfl (by omega)) ?_;refine vAz<|nNz<|cFz<|zJ<|thenN<|zI<|zI<|sRz ?_;refine lvz (.eqF rfl rfl (by omega)) ?_;refine vAz<|nNz<|cFz<|sRz ?_;refine lvz (.eqF rfl rfl (by omega)) ?_;refine vAz<|nNz<|cFz<|sRz ?_;refine lvz (.eqF rfl rfl (by omega)) ?_;refine vAz<|nNz<|cFz<|zL ?_;refine lvz (.eqF rfl rfl (by omega)) ?_;refine vAz<|nNz<|cFz<|zJ<|thenN<|zI<|sRz ?_;refine lvz (.eqF rfl rfl (by omega)) ?_;refine vAz<|nNz<|cFz<|sRz ?_;refine lvz (.eqF rfl rfl (by omega)) ?_;refine vAz<|nNz<|cFz<|sRz ?_;refine lvz (.eqT rfl rfl (by omega)) ?_;refine vAz<|nNz<|cTz<|zJ<|thenN<|cTz<|CW.exit<|thenE<|blkO rfl<|blkO rfl<|thenE<|blkE rfl<|thenN<|zI ?_;refine sRz<|vAz<|vAz<|nNz<|zK<|thenR<|blkR<|thenR ?_)
   (apply finR;exact .inl rfl;rfl;rfl;rfl;apply zD;exact zG rfl;apply zD;exact zG rfl;exact zF)
   subst h51;rfl
  by_cases h52:b=52
  ·(refine sRz<|vAz<|vAz<|nNz<|zI<|sRz<|vMz ?_;apply zS;rfl;rfl;infer_instance;exact .cons rfl .nil;intro w _;exact hOf w;refine vMz ?_;refine vEz ?_;refine vEz ?_;apply zU;rfl;intro _;refine zR rfl rfl .head (.whole rfl rfl rfl)<|vAz<|nSz<|vMz ?_;refine lvz (.neF rfl rfl (by omega)) ?_;refine nNz<|cFz<|zJ<|thenN<|zI<|sRz ?_)
   (apply LW.callR;rfl;rfl;infer_instance;exact ArgsOk.nil;intro w hs)
   exact bases_calls w
   intro vm gm hm
   obtain ⟨bm,rfl,rfl⟩:=hm
   simp only [List.cons_append,List.nil_append]
   (refine vMz ?_;apply LW.mapGet;rfl;infer_instance;infer_instance;infer_instance;rfl;rfl;apply qG;apply zY;rfl;assumption;rfl;refine vMz ?_;refine vEz ?_;refine vEz ?_;refine vAz<|vAz<|nSz<|vMz<|nNz<|cFz<|zJ<|thenN<|zI<|sRz<|vMz<|nNz<|zM<|zI ?_;refine zM<|zI<|zM<|zM<|zI<|zI<|zI<|sRz ?_;refine lvz (.eqF rfl rfl (by omega)) ?_;refine vAz<|nNz<|cFz<|sRz ?_;refine lvz (.eqF rfl rfl (by omega)) ?_;refine vAz<|nNz<|cFz<|sRz ?_;refine lvz (.eqF rfl rfl (by omega)) ?_;refine vAz<|nNz<|cFz<|sRz ?_;refine lvz (.eqF rfl rfl (by omega)) ?_;refine vAz<|nNz<|cFz<|sRz ?_;refine lvz (.eqF rfl rfl (by omega)) ?_;refine vAz<|nNz<|cFz<|sRz ?_;refine lvz (.eqF rfl rfl (by omega)) ?_;refine vAz<|nNz<|cFz<|zL ?_;refine lvz (.eqF rfl rfl (by omega)) ?_;refine vAz<|nNz<|cFz<|zJ<|thenN<|zI<|zI<|sRz ?_;refine lvz (.eqF rfl rfl (by omega)) ?_;refine vAz<|nNz<|cFz<|sRz ?_;refine lvz (.eqF rfl rfl (by omega)) ?_;refine vAz<|nNz<|cFz<|sRz ?_;refine lvz (.eqF rfl rfl (by omega)) ?_;refine vAz<|nNz<|cFz<|zL ?_;refine lvz (.eqF rfl rfl (by omega)) ?_;refine vAz<|nNz<|cFz<|zJ<|thenN<|zI<|sRz ?_;refine lvz (.eqF rfl rfl (by omega)) ?_;refine vAz<|nNz<|cFz<|sRz ?_;refine lvz (.eqF rfl rfl (by omega)) ?_;refine vAz<|nNz<|cFz<|sRz ?_;refine lvz (.eqF rfl rfl (by omega)) ?_;refine vAz<|nNz<|cFz<|sRz ?_;refine lvz (.eqT rfl rfl (by omega)) ?_;refine vAz<|nNz<|cTz<|zJ<|thenN<|cTz<|CW.exit<|thenE<|blkO rfl<|blkO rfl<|thenE<|blkE rfl<|thenN<|zI ?_;refine sRz<|vAz<|vAz<|nNz<|zK<|thenR<|blkR<|thenR ?_)
   (apply finR;exact .inl rfl;rfl;rfl;rfl;apply zD;exact zG rfl;apply zD;exact zG rfl;exact zF)
   subst h52;rfl
  by_cases h54:b=54
  ·(refine sRz<|vAz<|vAz<|nNz<|zI<|sRz<|vMz ?_;apply zS;rfl;rfl;infer_instance;exact .cons rfl .nil;intro w _;exact hOf w;refine vMz ?_;refine vEz ?_;refine vEz ?_;apply zU;rfl;intro _;refine zR rfl rfl .head (.whole rfl rfl rfl)<|vAz<|nSz<|vMz ?_;refine lvz (.neF rfl rfl (by omega)) ?_;refine nNz<|cFz<|zJ<|thenN<|zI<|sRz ?_)
   (apply LW.callR;rfl;rfl;infer_instance;exact ArgsOk.nil;intro w hs)
   exact bases_calls w
   intro vm gm hm
   obtain ⟨bm,rfl,rfl⟩:=hm
   simp only [List.cons_append,List.nil_append]
   (refine vMz ?_;apply LW.mapGet;rfl;infer_instance;infer_instance;infer_instance;rfl;rfl;apply qG;apply zY;rfl;assumption;rfl;refine vMz ?_;refine vEz ?_;refine vEz ?_;refine vAz<|vAz<|nSz<|vMz<|nNz<|cFz<|zJ<|thenN<|zI<|sRz<|vMz<|nNz<|zM<|zI ?_;refine zM<|zI<|zM<|zM<|zI<|zI<|zI<|sRz ?_;refine lvz (.eqF rfl rfl (by omega)) ?_;refine vAz<|nNz<|cFz<|sRz ?_;refine lvz (.eqF rfl rfl (by omega)) ?_;refine vAz<|nNz<|cFz<|sRz ?_;refine lvz (.eqF rfl rfl (by omega)) ?_;refine vAz<|nNz<|cFz<|sRz ?_;refine lvz (.eqF rfl rfl (by omega)) ?_;refine vAz<|nNz<|cFz<|sRz ?_;refine lvz (.eqF rfl rfl (by omega)) ?_;refine vAz<|nNz<|cFz<|sRz ?_;refine lvz (.eqF rfl rfl (by omega)) ?_;refine vAz<|nNz<|cFz<|zL ?_;refine lvz (.eqF rfl rfl (by omega)) ?_;refine vAz<|nNz<|cFz<|zJ<|thenN<|zI<|zI<|sRz ?_;refine lvz (.eqF rfl rfl (by omega)) ?_;refine vAz<|nNz<|cFz<|sRz ?_;refine lvz (.eqF rfl rfl (by omega)) ?_;refine vAz<|nNz<|cFz<|sRz ?_;refine lvz (.eqF rfl rfl (by omega)) ?_;refine vAz<|nNz<|cFz<|zL ?_;refine lvz (.eqF rfl rfl (by omega)) ?_;refine vAz<|nNz<|cFz<|zJ<|thenN<|zI<|sRz ?_;refine lvz (.eqF rfl rfl (by omega)) ?_;refine vAz<|nNz<|cFz<|sRz ?_;refine lvz (.eqF rfl rfl (by omega)) ?_;refine vAz<|nNz<|cFz<|sRz ?_;refine lvz (.eqF rfl rfl (by omega)) ?_;refine vAz<|nNz<|cFz<|sRz ?_;refine lvz (.eqF rfl rfl (by omega)) ?_;refine vAz<|nNz<|cFz<|sRz ?_;refine lvz (.eqT rfl rfl (by omega)) ?_;refine vAz<|nNz<|cTz<|zJ<|thenN<|cTz<|CW.exit<|thenE<|blkO rfl<|blkO rfl<|thenE<|blkE rfl<|thenN<|zI ?_;refine sRz<|vAz<|vAz<|nNz<|zK<|thenR<|blkR<|thenR ?_)
   (apply finR;exact .inl rfl;rfl;rfl;rfl;apply zD;exact zG rfl;apply zD;exact zG rfl;exact zF)
   subst h54;rfl
  by_cases h61:b=61
  ·(refine sRz<|vAz<|vAz<|nNz<|zI<|sRz<|vMz ?_;apply zS;rfl;rfl;infer_instance;exact .cons rfl .nil;intro w _;exact hOf w;refine vMz ?_;refine vEz ?_;refine vEz ?_;apply zU;rfl;intro _;refine zR rfl rfl .head (.whole rfl rfl rfl)<|vAz<|nSz<|vMz ?_;refine lvz (.neF rfl rfl (by omega)) ?_;refine nNz<|cFz<|zJ<|thenN<|zI<|sRz ?_)
   (apply LW.callR;rfl;rfl;infer_instance;exact ArgsOk.nil;intro w hs)
   exact bases_calls w
   intro vm gm hm
   obtain ⟨bm,rfl,rfl⟩:=hm
   simp only [List.cons_append,List.nil_append]
   (refine vMz ?_;apply LW.mapGet;rfl;infer_instance;infer_instance;infer_instance;rfl;rfl;apply qG;apply zY;rfl;assumption;rfl;refine vMz ?_;refine vEz ?_;refine vEz ?_;refine vAz<|vAz<|nSz<|vMz<|nNz<|cFz<|zJ<|thenN<|zI<|sRz<|vMz<|nNz<|zM<|zI ?_;refine zM<|zI<|zM<|zM<|zI<|zI<|zI<|sRz ?_;refine lvz (.eqF rfl rfl (by omega)) ?_;refine vAz<|nNz<|cFz<|sRz ?_;refine lvz (.eqF rfl rfl (by omega)) ?_;refine vAz<|nNz<|cFz<|sRz ?_;refine lvz (.eqF rfl rfl (by omega)) ?_;refine vAz<|nNz<|cFz<|sRz ?_;refine lvz (.eqF rfl rfl (by omega)) ?_;refine vAz<|nNz<|cFz<|sRz ?_;refine lvz (.eqF rfl rfl (by omega)) ?_;refine vAz<|nNz<|cFz<|sRz ?_;refine lvz (.eqF rfl rfl (by omega)) ?_;refine vAz<|nNz<|cFz<|zL ?_;refine lvz (.eqF rfl rfl (by omega)) ?_;refine vAz<|nNz<|cFz<|zJ<|thenN<|zI<|zI<|sRz ?_;refine lvz (.eqF rfl rfl (by omega)) ?_;refine vAz<|nNz<|cFz<|sRz ?_;refine lvz (.eqF rfl rfl (by omega)) ?_;refine vAz<|nNz<|cFz<|sRz ?_;refine lvz (.eqF rfl rfl (by omega)) ?_;refine vAz<|nNz<|cFz<|zL ?_;refine lvz (.eqF rfl rfl (by omega)) ?_;refine vAz<|nNz<|cFz<|zJ<|thenN<|zI<|sRz ?_;refine lvz (.eqF rfl rfl (by omega)) ?_;refine vAz<|nNz<|cFz<|sRz ?_;refine lvz (.eqF rfl rfl (by omega)) ?_;refine vAz<|nNz<|cFz<|sRz ?_;refine lvz (.eqF rfl rfl (by omega)) ?_;refine vAz<|nNz<|cFz<|sRz ?_;refine lvz (.eqF rfl rfl (by omega)) ?_;refine vAz<|nNz<|cFz<|sRz ?_;refine lvz (.eqF rfl rfl (by omega)) ?_;refine vAz<|nNz<|cFz<|sRz ?_;refine lvz (.eqT rfl rfl (by omega)) ?_;refine vAz<|nNz<|cTz<|zJ<|thenN<|cTz<|CW.exit<|thenE<|blkO rfl<|blkO rfl<|thenE<|blkE rfl<|thenN<|zI ?_;refine sRz<|vAz<|vAz<|nNz<|zK<|thenR<|blkR<|thenR ?_)
   (apply finR;exact .inl rfl;rfl;rfl;rfl;apply zD;exact zG rfl;apply zD;exact zG rfl;exact zF)
   subst h61;rfl
  by_cases h66:b=66
  ·(refine sRz<|vAz<|vAz<|nNz<|zI<|sRz<|vMz ?_;apply zS;rfl;rfl;infer_instance;exact .cons rfl .nil;intro w _;exact hOf w;refine vMz ?_;refine vEz ?_;refine vEz ?_;apply zU;rfl;intro _;refine zR rfl rfl .head (.whole rfl rfl rfl)<|vAz<|nSz<|vMz ?_;refine lvz (.neF rfl rfl (by omega)) ?_;refine nNz<|cFz<|zJ<|thenN<|zI<|sRz ?_)
   (apply LW.callR;rfl;rfl;infer_instance;exact ArgsOk.nil;intro w hs)
   exact bases_calls w
   intro vm gm hm
   obtain ⟨bm,rfl,rfl⟩:=hm
   simp only [List.cons_append,List.nil_append]
   (refine vMz ?_;apply LW.mapGet;rfl;infer_instance;infer_instance;infer_instance;rfl;rfl;apply qG;apply zY;rfl;assumption;rfl;refine vMz ?_;refine vEz ?_;refine vEz ?_;refine vAz<|vAz<|nSz<|vMz<|nNz<|cFz<|zJ<|thenN<|zI<|sRz<|vMz<|nNz<|zM<|zI ?_;refine zM<|zI<|zM<|zM<|zI<|zI<|zI<|sRz ?_;refine lvz (.eqF rfl rfl (by omega)) ?_;refine vAz<|nNz<|cFz<|sRz ?_;refine lvz (.eqF rfl rfl (by omega)) ?_;refine vAz<|nNz<|cFz<|sRz ?_;refine lvz (.eqF rfl rfl (by omega)) ?_;refine vAz<|nNz<|cFz<|sRz ?_;refine lvz (.eqF rfl rfl (by omega)) ?_;refine vAz<|nNz<|cFz<|sRz ?_;refine lvz (.eqF rfl rfl (by omega)) ?_;refine vAz<|nNz<|cFz<|sRz ?_;refine lvz (.eqF rfl rfl (by omega)) ?_;refine vAz<|nNz<|cFz<|zL ?_;refine lvz (.eqF rfl rfl (by omega)) ?_;refine vAz<|nNz<|cFz<|zJ<|thenN<|zI<|zI<|sRz ?_;refine lvz (.eqF rfl rfl (by omega)) ?_;refine vAz<|nNz<|cFz<|sRz ?_;refine lvz (.eqF rfl rfl (by omega)) ?_;refine vAz<|nNz<|cFz<|sRz ?_;refine lvz (.eqF rfl rfl (by omega)) ?_;refine vAz<|nNz<|cFz<|zL ?_;refine lvz (.eqF rfl rfl (by omega)) ?_;refine vAz<|nNz<|cFz<|zJ<|thenN<|zI<|sRz ?_;refine lvz (.eqF rfl rfl (by omega)) ?_;refine vAz<|nNz<|cFz<|sRz ?_;refine lvz (.eqF rfl rfl (by omega)) ?_;refine vAz<|nNz<|cFz<|sRz ?_;refine lvz (.eqF rfl rfl (by omega)) ?_;refine vAz<|nNz<|cFz<|sRz ?_;refine lvz (.eqF rfl rfl (by omega)) ?_;refine vAz<|nNz<|cFz<|sRz ?_;refine lvz (.eqF rfl rfl (by omega)) ?_;refine vAz<|nNz<|cFz<|sRz ?_;refine lvz (.eqF rfl rfl (by omega)) ?_;refine vAz<|nNz<|cFz<|sRz ?_;refine lvz (.eqT rfl rfl (by omega)) ?_;refine vAz<|nNz<|cTz<|zJ<|thenN<|cTz<|CW.exit<|thenE<|blkO rfl<|blkO rfl<|thenE<|blkE rfl<|thenN<|zI ?_;refine sRz<|vAz<|vAz<|nNz<|zK<|thenR<|blkR<|thenR ?_)
   (apply finR;exact .inl rfl;rfl;rfl;rfl;apply zD;exact zG rfl;apply zD;exact zG rfl;exact zF)
   subst h66;rfl
  by_cases h67:b=67
  ·(refine sRz<|vAz<|vAz<|nNz<|zI<|sRz<|vMz ?_;apply zS;rfl;rfl;infer_instance;exact .cons rfl .nil;intro w _;exact hOf w;refine vMz ?_;refine vEz ?_;refine vEz ?_;apply zU;rfl;intro _;refine zR rfl rfl .head (.whole rfl rfl rfl)<|vAz<|nSz<|vMz ?_;refine lvz (.neF rfl rfl (by omega)) ?_;refine nNz<|cFz<|zJ<|thenN<|zI<|sRz ?_)
   (apply LW.callR;rfl;rfl;infer_instance;exact ArgsOk.nil;intro w hs)
   exact bases_calls w
   intro vm gm hm
   obtain ⟨bm,rfl,rfl⟩:=hm
   simp only [List.cons_append,List.nil_append]
   (refine vMz ?_;apply LW.mapGet;rfl;infer_instance;infer_instance;infer_instance;rfl;rfl;apply qG;apply zY;rfl;assumption;rfl;refine vMz ?_;refine vEz ?_;refine vEz ?_;refine vAz<|vAz<|nSz<|vMz<|nNz<|cFz<|zJ<|thenN<|zI<|sRz<|vMz<|nNz<|zM<|zI ?_;refine zM<|zI<|zM<|zM<|zI<|zI<|zI<|sRz ?_;refine lvz (.eqF rfl rfl (by omega)) ?_;refine vAz<|nNz<|cFz<|sRz ?_;refine lvz (.eqF rfl rfl (by omega)) ?_;refine vAz<|nNz<|cFz<|sRz ?_;refine lvz (.eqF rfl rfl (by omega)) ?_;refine vAz<|nNz<|cFz<|sRz ?_;refine lvz (.eqF rfl rfl (by omega)) ?_;refine vAz<|nNz<|cFz<|sRz ?_;refine lvz (.eqF rfl rfl (by omega)) ?_;refine vAz<|nNz<|cFz<|sRz ?_;refine lvz (.eqF rfl rfl (by omega)) ?_;refine vAz<|nNz<|cFz<|zL ?_;refine lvz (.eqF rfl rfl (by omega)) ?_;refine vAz<|nNz<|cFz<|zJ<|thenN<|zI<|zI<|sRz ?_;refine lvz (.eqF rfl rfl (by omega)) ?_;refine vAz<|nNz<|cFz<|sRz ?_;refine lvz (.eqF rfl rfl (by omega)) ?_;refine vAz<|nNz<|cFz<|sRz ?_;refine lvz (.eqF rfl rfl (by omega)) ?_;refine vAz<|nNz<|cFz<|zL ?_;refine lvz (.eqF rfl rfl (by omega)) ?_;refine vAz<|nNz<|cFz<|zJ<|thenN<|zI<|sRz ?_;refine lvz (.eqF rfl rfl (by omega)) ?_;refine vAz<|nNz<|cFz<|sRz ?_;refine lvz (.eqF rfl rfl (by omega)) ?_;refine vAz<|nNz<|cFz<|sRz ?_;refine lvz (.eqF rfl rfl (by omega)) ?_;refine vAz<|nNz<|cFz<|sRz ?_;refine lvz (.eqF rfl rfl (by omega)) ?_;refine vAz<|nNz<|cFz<|sRz ?_;refine lvz (.eqF rfl rfl (by omega)) ?_;refine vAz<|nNz<|cFz<|sRz ?_;refine lvz (.eqF rfl rfl (by omega)) ?_;refine vAz<|nNz<|cFz<|sRz ?_;refine lvz (.eqF rfl rfl (by omega)) ?_;refine vAz<|nNz<|cFz<|sRz ?_;refine lvz (.eqT rfl rfl (by omega)) ?_;refine vAz<|nNz<|cTz<|zJ<|thenN<|cTz<|CW.exit<|thenE<|blkO rfl<|blkO rfl<|thenE<|blkE rfl<|thenN<|zI ?_;refine sRz<|vAz<|vAz<|nNz<|zK<|thenR<|blkR<|thenR ?_)
   (apply finR;exact .inl rfl;rfl;rfl;rfl;apply zD;exact zG rfl;apply zD;exact zG rfl;exact zF)
   subst h67;rfl
  by_cases h72:b=72
  ·(refine sRz<|vAz<|vAz<|nNz<|zI<|sRz<|vMz ?_;apply zS;rfl;rfl;infer_instance;exact .cons rfl .nil;intro w _;exact hOf w;refine vMz ?_;refine vEz ?_;refine vEz ?_;apply zU;rfl;intro _;refine zR rfl rfl .head (.whole rfl rfl rfl)<|vAz<|nSz<|vMz ?_;refine lvz (.neF rfl rfl (by omega)) ?_;refine nNz<|cFz<|zJ<|thenN<|zI<|sRz ?_)
   (apply LW.callR;rfl;rfl;infer_instance;exact ArgsOk.nil;intro w hs)
   exact bases_calls w
   intro vm gm hm
   obtain ⟨bm,rfl,rfl⟩:=hm
   simp only [List.cons_append,List.nil_append]
   (refine vMz ?_;apply LW.mapGet;rfl;infer_instance;infer_instance;infer_instance;rfl;rfl;apply qG;apply zY;rfl;assumption;rfl;refine vMz ?_;refine vEz ?_;refine vEz ?_;refine vAz<|vAz<|nSz<|vMz<|nNz<|cFz<|zJ<|thenN<|zI<|sRz<|vMz<|nNz<|zM<|zI ?_;refine zM<|zI<|zM<|zM<|zI<|zI<|zI<|sRz ?_;refine lvz (.eqF rfl rfl (by omega)) ?_;refine vAz<|nNz<|cFz<|sRz ?_;refine lvz (.eqF rfl rfl (by omega)) ?_;refine vAz<|nNz<|cFz<|sRz ?_;refine lvz (.eqF rfl rfl (by omega)) ?_;refine vAz<|nNz<|cFz<|sRz ?_;refine lvz (.eqF rfl rfl (by omega)) ?_;refine vAz<|nNz<|cFz<|sRz ?_;refine lvz (.eqF rfl rfl (by omega)) ?_;refine vAz<|nNz<|cFz<|sRz ?_;refine lvz (.eqF rfl rfl (by omega)) ?_;refine vAz<|nNz<|cFz<|zL ?_;refine lvz (.eqF rfl rfl (by omega)) ?_;refine vAz<|nNz<|cFz<|zJ<|thenN<|zI<|zI<|sRz ?_;refine lvz (.eqF rfl rfl (by omega)) ?_;refine vAz<|nNz<|cFz<|sRz ?_;refine lvz (.eqF rfl rfl (by omega)) ?_;refine vAz<|nNz<|cFz<|sRz ?_;refine lvz (.eqF rfl rfl (by omega)) ?_;refine vAz<|nNz<|cFz<|zL ?_;refine lvz (.eqF rfl rfl (by omega)) ?_;refine vAz<|nNz<|cFz<|zJ<|thenN<|zI<|sRz ?_;refine lvz (.eqF rfl rfl (by omega)) ?_;refine vAz<|nNz<|cFz<|sRz ?_;refine lvz (.eqF rfl rfl (by omega)) ?_;refine vAz<|nNz<|cFz<|sRz ?_;refine lvz (.eqF rfl rfl (by omega)) ?_;refine vAz<|nNz<|cFz<|sRz ?_;refine lvz (.eqF rfl rfl (by omega)) ?_;refine vAz<|nNz<|cFz<|sRz ?_;refine lvz (.eqF rfl rfl (by omega)) ?_;refine vAz<|nNz<|cFz<|sRz ?_;refine lvz (.eqF rfl rfl (by omega)) ?_;refine vAz<|nNz<|cFz<|sRz ?_;refine lvz (.eqF rfl rfl (by omega)) ?_;refine vAz<|nNz<|cFz<|sRz ?_;refine lvz (.eqF rfl rfl (by omega)) ?_;refine vAz<|nNz<|cFz<|sRz ?_;refine lvz (.eqT rfl rfl (by omega)) ?_;refine vAz<|nNz<|cTz<|zJ<|thenN<|cTz<|CW.exit<|thenE<|blkO rfl<|blkO rfl<|thenE<|blkE rfl<|thenN<|zI ?_;refine sRz<|vAz<|vAz<|nNz<|zK<|thenR<|blkR<|thenR ?_)
   (apply finR;exact .inl rfl;rfl;rfl;rfl;apply zD;exact zG rfl;apply zD;exact zG rfl;exact zF)
   subst h72;rfl
  by_cases h80:b=80
  ·(refine sRz<|vAz<|vAz<|nNz<|zI<|sRz<|vMz ?_;apply zS;rfl;rfl;infer_instance;exact .cons rfl .nil;intro w _;exact hOf w;refine vMz ?_;refine vEz ?_;refine vEz ?_;apply zU;rfl;intro _;refine zR rfl rfl .head (.whole rfl rfl rfl)<|vAz<|nSz<|vMz ?_;refine lvz (.neF rfl rfl (by omega)) ?_;refine nNz<|cFz<|zJ<|thenN<|zI<|sRz ?_)
   (apply LW.callR;rfl;rfl;infer_instance;exact ArgsOk.nil;intro w hs)
   exact bases_calls w
   intro vm gm hm
   obtain ⟨bm,rfl,rfl⟩:=hm
   simp only [List.cons_append,List.nil_append]
   (refine vMz ?_;apply LW.mapGet;rfl;infer_instance;infer_instance;infer_instance;rfl;rfl;apply qG;apply zY;rfl;assumption;rfl;refine vMz ?_;refine vEz ?_;refine vEz ?_;refine vAz<|vAz<|nSz<|vMz<|nNz<|cFz<|zJ<|thenN<|zI<|sRz<|vMz<|nNz<|zM<|zI ?_;refine zM<|zI<|zM<|zM<|zI<|zI<|zI<|sRz ?_;refine lvz (.eqF rfl rfl (by omega)) ?_;refine vAz<|nNz<|cFz<|sRz ?_;refine lvz (.eqF rfl rfl (by omega)) ?_;refine vAz<|nNz<|cFz<|sRz ?_;refine lvz (.eqF rfl rfl (by omega)) ?_;refine vAz<|nNz<|cFz<|sRz ?_;refine lvz (.eqF rfl rfl (by omega)) ?_;refine vAz<|nNz<|cFz<|sRz ?_;refine lvz (.eqF rfl rfl (by omega)) ?_;refine vAz<|nNz<|cFz<|sRz ?_;refine lvz (.eqF rfl rfl (by omega)) ?_;refine vAz<|nNz<|cFz<|zL ?_;refine lvz (.eqF rfl rfl (by omega)) ?_;refine vAz<|nNz<|cFz<|zJ<|thenN<|zI<|zI<|sRz ?_;refine lvz (.eqF rfl rfl (by omega)) ?_;refine vAz<|nNz<|cFz<|sRz ?_;refine lvz (.eqF rfl rfl (by omega)) ?_;refine vAz<|nNz<|cFz<|sRz ?_;refine lvz (.eqF rfl rfl (by omega)) ?_;refine vAz<|nNz<|cFz<|zL ?_;refine lvz (.eqF rfl rfl (by omega)) ?_;refine vAz<|nNz<|cFz<|zJ<|thenN<|zI<|sRz ?_;refine lvz (.eqF rfl rfl (by omega)) ?_;refine vAz<|nNz<|cFz<|sRz ?_;refine lvz (.eqF rfl rfl (by omega)) ?_;refine vAz<|nNz<|cFz<|sRz ?_;refine lvz (.eqF rfl rfl (by omega)) ?_;refine vAz<|nNz<|cFz<|sRz ?_;refine lvz (.eqF rfl rfl (by omega)) ?_;refine vAz<|nNz<|cFz<|sRz ?_;refine lvz (.eqF rfl rfl (by omega)) ?_;refine vAz<|nNz<|cFz<|sRz ?_;refine lvz (.eqF rfl rfl (by omega)) ?_;refine vAz<|nNz<|cFz<|sRz ?_;refine lvz (.eqF rfl rfl (by omega)) ?_;refine vAz<|nNz<|cFz<|sRz ?_;refine lvz (.eqF rfl rfl (by omega)) ?_;refine vAz<|nNz<|cFz<|sRz ?_;refine lvz (.eqF rfl rfl (by omega)) ?_;refine vAz<|nNz<|cFz<|sRz ?_;refine lvz (.eqT rfl rfl (by omega)) ?_;refine vAz<|nNz<|cTz<|zJ<|thenN<|cTz<|CW.exit<|thenE<|blkO rfl<|blkO rfl<|thenE<|blkE rfl<|thenN<|zI ?_;refine sRz<|vAz<|vAz<|nNz<|zK<|thenR<|blkR<|thenR ?_)
   (apply finR;exact .inl rfl;rfl;rfl;rfl;apply zD;exact zG rfl;apply zD;exact zG rfl;exact zF)
   subst h80;rfl
  by_cases h90:b=90
  ·(refine sRz<|vAz<|vAz<|nNz<|zI<|sRz<|vMz ?_;apply zS;rfl;rfl;infer_instance;exact .cons rfl .nil;intro w _;exact hOf w;refine vMz ?_;refine vEz ?_;refine vEz ?_;apply zU;rfl;intro _;refine zR rfl rfl .head (.whole rfl rfl rfl)<|vAz<|nSz<|vMz ?_;refine lvz (.neF rfl rfl (by omega)) ?_;refine nNz<|cFz<|zJ<|thenN<|zI<|sRz ?_)
   (apply LW.callR;rfl;rfl;infer_instance;exact ArgsOk.nil;intro w hs)
   exact bases_calls w
   intro vm gm hm
   obtain ⟨bm,rfl,rfl⟩:=hm
   simp only [List.cons_append,List.nil_append]
   (refine vMz ?_;apply LW.mapGet;rfl;infer_instance;infer_instance;infer_instance;rfl;rfl;apply qG;apply zY;rfl;assumption;rfl;refine vMz ?_;refine vEz ?_;refine vEz ?_;refine vAz<|vAz<|nSz<|vMz<|nNz<|cFz<|zJ<|thenN<|zI<|sRz<|vMz<|nNz<|zM<|zI ?_;refine zM<|zI<|zM<|zM<|zI<|zI<|zI<|sRz ?_;refine lvz (.eqF rfl rfl (by omega)) ?_;refine vAz<|nNz<|cFz<|sRz ?_;refine lvz (.eqF rfl rfl (by omega)) ?_;refine vAz<|nNz<|cFz<|sRz ?_;refine lvz (.eqF rfl rfl (by omega)) ?_;refine vAz<|nNz<|cFz<|sRz ?_;refine lvz (.eqF rfl rfl (by omega)) ?_;refine vAz<|nNz<|cFz<|sRz ?_;refine lvz (.eqF rfl rfl (by omega)) ?_;refine vAz<|nNz<|cFz<|sRz ?_;refine lvz (.eqF rfl rfl (by omega)) ?_;refine vAz<|nNz<|cFz<|zL ?_;refine lvz (.eqF rfl rfl (by omega)) ?_;refine vAz<|nNz<|cFz<|zJ<|thenN<|zI<|zI<|sRz ?_;refine lvz (.eqF rfl rfl (by omega)) ?_;refine vAz<|nNz<|cFz<|sRz ?_;refine lvz (.eqF rfl rfl (by omega)) ?_;refine vAz<|nNz<|cFz<|sRz ?_;refine lvz (.eqF rfl rfl (by omega)) ?_;refine vAz<|nNz<|cFz<|zL ?_;refine lvz (.eqF rfl rfl (by omega)) ?_;refine vAz<|nNz<|cFz<|zJ<|thenN<|zI<|sRz ?_;refine lvz (.eqF rfl rfl (by omega)) ?_;refine vAz<|nNz<|cFz<|sRz ?_;refine lvz (.eqF rfl rfl (by omega)) ?_;refine vAz<|nNz<|cFz<|sRz ?_;refine lvz (.eqF rfl rfl (by omega)) ?_;refine vAz<|nNz<|cFz<|sRz ?_;refine lvz (.eqF rfl rfl (by omega)) ?_;refine vAz<|nNz<|cFz<|sRz ?_;refine lvz (.eqF rfl rfl (by omega)) ?_;refine vAz<|nNz<|cFz<|sRz ?_;refine lvz (.eqF rfl rfl (by omega)) ?_;refine vAz<|nNz<|cFz<|sRz ?_;refine lvz (.eqF rfl rfl (by omega)) ?_;refine vAz<|nNz<|cFz<|sRz ?_;refine lvz (.eqF rfl rfl (by omega)) ?_;refine vAz<|nNz<|cFz<|sRz ?_;refine lvz (.eqF rfl rfl (by omega)) ?_;refine vAz<|nNz<|cFz<|sRz ?_;refine lvz (.eqF rfl rfl (by omega)) ?_;refine vAz<|nNz<|cFz<|zL ?_;refine lvz (.eqT rfl rfl (by omega)) ?_;refine vAz<|nNz<|cTz<|CW.exit<|thenE<|blkO rfl<|blkO rfl<|thenE<|blkE rfl<|thenN<|zI<|sRz<|vAz<|vAz ?_;refine nNz<|zK<|thenR<|blkR<|thenR ?_)
   (apply finR;exact .inl rfl;rfl;rfl;rfl;apply zD;exact zG rfl;apply zD;exact zG rfl;exact zF)
   subst h90;rfl
  (refine sRz<|vAz<|vAz<|nNz<|zI<|sRz<|vMz ?_;apply zS;rfl;rfl;infer_instance;exact .cons rfl .nil;intro w _;exact hOf w;refine vMz ?_;refine vEz ?_;refine vEz ?_;apply zU;rfl;intro _;refine zR rfl rfl .head (.whole rfl rfl rfl)<|vAz<|nSz<|vMz ?_;refine lvz (.neF rfl rfl (by omega)) ?_;refine nNz<|cFz<|zJ<|thenN<|zI<|sRz ?_)
  (apply LW.callR;rfl;rfl;infer_instance;exact ArgsOk.nil;intro w hs)
  exact bases_calls w
  intro vm gm hm
  obtain ⟨bm,rfl,rfl⟩:=hm
  simp only [List.cons_append,List.nil_append]
  (refine vMz ?_;apply LW.mapGet;rfl;infer_instance;infer_instance;infer_instance;rfl;rfl;apply qG;apply zY;rfl;assumption;rfl;refine vMz ?_;refine vEz ?_;refine vEz ?_;refine vAz<|vAz<|nSz<|vMz<|nNz<|cFz<|zJ<|thenN<|zI<|sRz<|vMz<|nNz<|zM<|zI ?_;refine zM<|zI<|zM<|zM<|zI<|zI<|zI<|sRz ?_;refine lvz (.eqF rfl rfl (by omega)) ?_;refine vAz<|nNz<|cFz<|sRz ?_;refine lvz (.eqF rfl rfl (by omega)) ?_;refine vAz<|nNz<|cFz<|sRz ?_;refine lvz (.eqF rfl rfl (by omega)) ?_;refine vAz<|nNz<|cFz<|sRz ?_;refine lvz (.eqF rfl rfl (by omega)) ?_;refine vAz<|nNz<|cFz<|sRz ?_;refine lvz (.eqF rfl rfl (by omega)) ?_;refine vAz<|nNz<|cFz<|sRz ?_;refine lvz (.eqF rfl rfl (by omega)) ?_;refine vAz<|nNz<|cFz<|zL ?_;refine lvz (.eqF rfl rfl (by omega)) ?_;refine vAz<|nNz<|cFz<|zJ<|thenN<|zI<|zI<|sRz ?_;refine lvz (.eqF rfl rfl (by omega)) ?_;refine vAz<|nNz<|cFz<|sRz ?_;refine lvz (.eqF rfl rfl (by omega)) ?_;refine vAz<|nNz<|cFz<|sRz ?_;refine lvz (.eqF rfl rfl (by omega)) ?_;refine vAz<|nNz<|cFz<|zL ?_;refine lvz (.eqF rfl rfl (by omega)) ?_;refine vAz<|nNz<|cFz<|zJ<|thenN<|zI<|sRz ?_;refine lvz (.eqF rfl rfl (by omega)) ?_;refine vAz<|nNz<|cFz<|sRz ?_;refine lvz (.eqF rfl rfl (by omega)) ?_;refine vAz<|nNz<|cFz<|sRz ?_;refine lvz (.eqF rfl rfl (by omega)) ?_;refine vAz<|nNz<|cFz<|sRz ?_;refine lvz (.eqF rfl rfl (by omega)) ?_;refine vAz<|nNz<|cFz<|sRz ?_;refine lvz (.eqF rfl rfl (by omega)) ?_;refine vAz<|nNz<|cFz<|sRz ?_;refine lvz (.eqF rfl rfl (by omega)) ?_;refine vAz<|nNz<|cFz<|sRz ?_;refine lvz (.eqF rfl rfl (by omega)) ?_;refine vAz<|nNz<|cFz<|sRz ?_;refine lvz (.eqF rfl rfl (by omega)) ?_;refine vAz<|nNz<|cFz<|sRz ?_;refine lvz (.eqF rfl rfl (by omega)) ?_;refine vAz<|nNz<|cFz<|sRz ?_;refine lvz (.eqF rfl rfl (by omega)) ?_;refine vAz<|nNz<|cFz<|zL ?_;refine lvz (.eqF rfl rfl (by omega)) ?_;refine vAz<|nNz<|cFz<|zJ<|thenN<|CW.exit<|blkO rfl<|blkO rfl<|thenE<|blkO rfl<|thenE<|blkE rfl<|thenN<|sRz ?_;refine vAz<|vAz<|nNz<|zK ?_)
  (apply finR;exact .inl rfl;rfl;rfl;rfl;apply zD;exact zG rfl;apply zD;exact zG rfl;exact zF)
  unfold gasB
  rw [if_neg h91,if_neg h2,if_neg h4,if_neg h6,if_neg h71,if_neg h86,if_neg h87,if_neg h32,if_neg h92,if_neg h93,if_neg h49,if_neg h84,if_neg h85,if_neg h241,if_neg h244,if_neg h250,if_neg h245,if_neg h0,if_neg h243,if_neg h253,if_neg h254,if_neg h48,if_neg h50,if_neg h51,if_neg h52,if_neg h54,if_neg h61,if_neg h66,if_neg h67,if_neg h72,if_neg h80,if_neg h90]
  rfl
theorem Words_calls (n:Nat) (hn:n < 18446744073709551616) (w:World):Calls Tryz.prog 195 #[.int .u64 (n:Int)] w (Ret w (.int .u64 (((n+31) / 32:Nat):Int))):=by
 refine enter (args:=[_]) _ [] [] Tryz.func195 rfl Tryz.ntmps195 rfl (by simp) .nil ?_
 rcases Nat.eq_zero_or_pos (n % 32) with h|h
 ·rw [show (n+31) / 32=n / 32 by omega]
  (refine sRz<|vAz<|nSz<|vMz ?_;refine lvz (.quoNL rfl rfl (by decide) (by omega) (by omega)) ?_;refine vAz<|nNz<|zI<|sRz<|vMz ?_;refine lvz (.remNL rfl rfl (by decide) (by omega)) ?_;refine lvz (.gtrF rfl rfl (by omega)) ?_;refine nNz<|cFz<|zJ<|thenN<|sRz<|vMz<|vAz<|nNz<|zK ?_)
  (apply finR;exact .inl rfl;rfl;rfl;rfl;apply zD;exact zG rfl;exact zF)
  rfl
 ·rw [show (n+31) / 32=(n / 32+1) % 18446744073709551616 by omega]
  (refine sRz<|vAz<|nSz<|vMz ?_;refine lvz (.quoNL rfl rfl (by decide) (by omega) (by omega)) ?_;refine vAz<|nNz<|zI<|sRz<|vMz ?_;refine lvz (.remNL rfl rfl (by decide) (by omega)) ?_;refine lvz (.gtrT rfl rfl (by omega)) ?_;refine nNz<|cTz<|zL<|vMz ?_;refine lvz (.addNL rfl rfl (by decide)) ?_;refine vAz<|nSz<|vMz<|vAz<|nNz<|zK ?_)
  (apply finR;exact .inl rfl;rfl;rfl;rfl;apply zD;exact zG rfl;exact zF)
  rfl
def memW (x:Nat):Nat:=3 * x+x * x / 512
theorem memW_eq (x:Nat) (hx:x≤1000):(3 * x % 18446744073709551616+x * x % 18446744073709551616 / 512) % 18446744073709551616=memW x:=by
 have h:=Nat.mul_le_mul hx hx
 unfold memW
 omega
theorem words_calls (x:Nat) (hx:x≤1000) (w:World):Calls Tryz.prog 194 #[.int .u64 (x:Int)] w (Ret w (.int .u64 ((memW x:Nat):Int))):=by
 refine enter (args:=[_]) _ [] [] Tryz.func194 rfl Tryz.ntmps194 rfl (by simp) .nil ?_
 rw [← memW_eq x hx]
 (refine sRz<|vAz<|nSz<|vMz ?_;refine lvz (.mulNK rfl rfl (by decide)) ?_;refine vMz<|vMz<|lvz (.mulN rfl rfl) ?_;refine lvz (.quoNL rfl rfl (by decide) (by omega) (by omega)) ?_;refine lvz (.addN rfl rfl)<|vAz<|nNz<|zK ?_)
 (apply finR;exact .inl rfl;rfl;rfl;rfl;apply zD;exact zG rfl;exact zF)
 rfl
theorem memW_mono {x y:Nat} (h:x≤y):memW x≤memW y:=by
 unfold memW
 have:=Nat.mul_le_mul h h
 have:=Nat.div_le_div_right (c:=512) this
 omega
def memV (a b:Nat):Nat:=if b≤a then 0 else if 1024 < b then 1099511627776 else memW ((b+31) / 32) - memW ((a+31) / 32)
theorem Memory_calls (a b:Nat) (ha:a < 18446744073709551616) (hb:b < 18446744073709551616) (w:World):Calls Tryz.prog 121 #[.int .u64 (a:Int),.int .u64 (b:Int)] w (Ret w (.int .u64 ((memV a b:Nat):Int))):=by
 refine enter (args:=[_,_]) _ [] [] Tryz.func121 rfl Tryz.ntmps121 rfl (by simp) .nil ?_
 unfold memV
 by_cases h1:b≤a
 ·rw [if_pos h1]
  (refine sRz<|vAz<|nNz<|zI<|zM<|sRz<|vMz<|vMz ?_;refine lvz (.leqT rfl rfl (by omega)) ?_;refine vAz<|nNz<|cTz<|sRz<|vAz<|nNz<|zK<|blkR<|thenR ?_)
  (apply finR;exact .inl rfl;rfl;rfl;rfl;apply zD;exact zG rfl;exact zF)
  rfl
 ·rw [if_neg h1]
  by_cases h2:1024 < b
  ·rw [if_pos h2]
   (refine sRz<|vAz<|nNz<|zI<|zM<|sRz<|vMz<|vMz ?_;refine lvz (.leqF rfl rfl (by omega)) ?_;refine vAz<|nNz<|cFz<|sRz<|vMz ?_;refine lvz (.gtrT rfl rfl (by omega)) ?_;refine vAz<|nNz<|cTz<|sRz<|vAz<|nNz<|zK<|blkR<|thenR ?_)
   (apply finR;exact .inl rfl;rfl;rfl;rfl;apply zD;exact zG rfl;exact zF)
   rfl
  ·rw [if_neg h2]
   have hm:=memW_mono (show (a+31) / 32≤(b+31) / 32 by omega)
   have hm2:=memW_mono (show (b+31) / 32≤32 by omega)
   have hm3:memW 32=98:=by decide
   (refine sRz<|vAz<|nNz<|zI<|zM<|sRz<|vMz<|vMz ?_;refine lvz (.leqF rfl rfl (by omega)) ?_;refine vAz<|nNz<|cFz<|sRz<|vMz ?_;refine lvz (.gtrF rfl rfl (by omega)) ?_;refine vAz<|nNz<|cFz<|zJ<|blkN<|thenN<|sRz<|vMz ?_;apply zS;rfl;rfl;infer_instance;exact .cons rfl .nil;intro w _;refine Words_calls _ ?_ w;omega;apply zS;rfl;rfl;infer_instance;exact .cons rfl .nil;intro w _;refine words_calls _ ?_ w;omega;refine vMz ?_;apply zS;rfl;rfl;infer_instance;exact .cons rfl .nil;intro w _;refine Words_calls _ ?_ w;omega;apply zS;rfl;rfl;infer_instance;exact .cons rfl .nil;intro w _;refine words_calls _ ?_ w;omega;refine lvz (.subN rfl rfl (by omega) (by omega)) ?_;refine vAz<|nNz<|zK ?_)
   (apply finR;exact .inl rfl;rfl;rfl;rfl;apply zD;exact zG rfl;exact zF)
   rfl
theorem take_le (l:List Nat) (m:Nat):(l.take m).sum≤l.sum:=by
 conv=>rhs;rw [← List.take_append_drop m l]
 rw [List.sum_append];omega
def spendV (left:Nat) (l:List Nat):Value:=if l.sum≤left then .tuple #[.int .u64 ((left - l.sum:Nat):Int),.bool true] else .tuple #[.int .u64 0,.bool false]
theorem Spend_calls (left:Nat) (l:List Nat) (hl:left < 18446744073709551616) (v:Value) (w:World) (hv:RowAt w 1 v l.length (ncs l)):Calls Tryz.prog 118 #[.int .u64 (left:Int),v] w (Ret w (spendV left l)):=by
 obtain ⟨p,c,rfl,hc,hm⟩:=hv.form
 simp only [maxLen] at hm
 refine enter (args:=[_,_]) _ [] [] Tryz.func118 rfl Tryz.ntmps118 rfl (by simp) .nil ?_
 (refine sRz<|vAz<|vAz<|nNz<|CW.scope<|sRz<|vAz<|nNz<|zI<|CW.label<|thenN<|zI<|sRz<|vMz ?_;refine lvz (.lenR rfl inferInstance rfl)<|vMz<|nNz<|zM ?_)
 refine CW.loop (fun m:Nat=>([(11,.int .i64 (m:Int)),(10,.int .i64 (l.length:Int)),(9,.slice p l.length c),(6,.bool true),(0,.int .u64 ((left - (l.take m).sum:Nat):Int))],[]))
  (fun m=>m≤l.length∧(l.take m).sum≤left) (fun m=>l.length - m) 0 ⟨Nat.zero_le _,Nat.zero_le _⟩ ⟨rfl,rfl,rfl,rfl,rfl,trivial⟩ (qO _) ?_
 rintro m ⟨hml,hS⟩
 dsimp only
 rcases Nat.lt_or_ge m l.length with hlt|hge
 ·obtain ⟨b,off,c',cs,E,fr,heq,hb,hx⟩:=hv.pos (by omega)
  cases heq
  obtain ⟨n,hn⟩:∃ n,n=l[m]:=⟨_,rfl⟩
  have hrd:Rd Tryz.prog 26 (.cells cs E fr) (off+m * 1) (.int .u64 (n:Int)):=Rd.elem1 hx (ncs_one l) (by rw [hn];exact List.getElem?_eq_getElem hlt) rfl
  have hst:=take_step l m hlt
  have htot:=take_le l (m+1)
  rw [← hn] at hst
  by_cases hle:n≤left - (l.take m).sum
  ·(refine sRz ?_;refine lvz (.lssT rfl rfl (by omega)) ?_;refine nNz<|zI<|cTz<|zJ<|thenN<|zI<|zM<|sRz ?_;refine lvz (.indexAddrS rfl rfl rfl (by omega)) ?_;apply LW.load;rfl;rfl;exact Known.ext (by assumption) (by simp);assumption;refine vAz<|nNz<|zI<|sRz<|vMz<|vMz ?_;refine lvz (.leqT rfl rfl (by omega)) ?_;refine vAz<|nSz<|vMz ?_;refine lvz (.notT rfl (by with_reducible rfl)) ?_;refine nNz<|cFz<|zJ<|thenN<|zL<|vMz<|vMz ?_;refine lvz (.subN rfl rfl (by omega) (by omega)) ?_;refine vAz ?_;apply zV;refine blkN<|thenN<|zL ?_;refine lvz (.addZL rfl rfl (by decide) (by omega)) ?_;refine vMz ?_;apply zV)
   apply thenX
   refine ⟨rfl,m+1,⟨hlt,by omega⟩,by omega,⟨rfl,rfl,rfl,rfl,?_,trivial⟩,qO _⟩
   rw [hst,← Nat.sub_sub];rfl
  ·unfold spendV
   rw [if_neg (by omega)]
   (refine sRz ?_;refine lvz (.lssT rfl rfl (by omega)) ?_;refine nNz<|zI<|cTz<|zJ<|thenN<|zI<|zM<|sRz ?_;refine lvz (.indexAddrS rfl rfl rfl (by omega)) ?_;apply LW.load;rfl;rfl;exact Known.ext (by assumption) (by simp);assumption;refine vAz<|nNz<|zI<|sRz<|vMz<|vMz ?_;refine lvz (.leqF rfl rfl (by omega)) ?_;refine vAz<|nSz<|vMz ?_;refine lvz (.notF rfl (by with_reducible rfl)) ?_;refine nNz<|cTz<|CW.exit<|thenE<|blkO rfl<|thenE<|thenE<|blkE rfl<|thenN<|zI<|sRz<|vMz ?_;refine lvz (.notF rfl (by with_reducible rfl)) ?_;refine nNz<|cTz<|sRz<|vAz<|vAz<|nNz<|zK<|thenR<|scopeQ.r ?_)
   (apply finR;exact .inl rfl;rfl;rfl;rfl;apply zD;exact zG rfl;apply zD;exact zG rfl;exact zF)
   rfl
 ·obtain rfl:m=l.length:=by omega
  rw [List.take_length] at hS ⊢
  unfold spendV
  rw [if_pos hS]
  (refine sRz ?_;refine lvz (.lssF rfl rfl (by omega)) ?_;refine nNz<|zI<|cFz<|CW.exit<|thenE<|thenE<|blkE rfl<|thenN<|zI<|sRz<|vMz ?_;refine lvz (.notT rfl (by with_reducible rfl)) ?_;refine nNz<|cFz<|zJ<|thenN<|sRz<|vMz<|vAz<|vAz<|nNz<|zK<|scopeQ.r ?_)
  (apply finR;exact .inl rfl;rfl;rfl;rfl;apply zD;exact zG rfl;apply zD;exact zG rfl;exact zF)
  rfl

abbrev NOG:Nat:=1099511627776
def timesV (n k:Nat):Nat:=if NOG≤n then NOG else min (n * k) NOG
theorem times1_calls (n k bb:Nat) (E:TypeId) (fr:Nat × Nat) (w:World) (hb:w.heap[bb]?=some (.cells #[.int .u64 (k:Int)] E fr)):Calls Tryz.prog 232 #[.int .u64 (n:Int),.pointer (some ⟨bb,0,none⟩)] w (Ret w (.int .u64 ((n * k % 18446744073709551616:Nat):Int))):=by
 refine enter (args:=[_,_]) _ [] [] Tryz.func232 rfl Tryz.ntmps232 rfl (by simp) .nil ?_
 (refine sRz<|vAz<|nSz<|vMz ?_;apply LW.load;rfl;rfl;exact Known.ext (by assumption) (by simp);exact Rd.one' rfl;refine lvz (.mulN rfl rfl)<|vAz<|nNz<|zK ?_)
 (apply finR;exact .inl rfl;rfl;rfl;rfl;apply zD;exact zG rfl;exact zF)
 rfl
theorem within_calls (n k bb:Nat) (hn:n < 18446744073709551616) (hk:k≤1000) (E:TypeId) (fr:Nat × Nat) (w:World) (hb:w.heap[bb]?=some (.cells #[.int .u64 (k:Int)] E fr)) :
  Calls Tryz.prog 231 #[.int .u64 (n:Int),.func (.func 232) #[] #[.pointer (some ⟨bb,0,none⟩)]] w (Ret w (.int .u64 ((timesV n k:Nat):Int))):=by
 refine enter (args:=[_,_]) _ [] [] Tryz.func231 rfl Tryz.ntmps231 rfl (by simp) .nil ?_
 unfold timesV
 by_cases h:NOG≤n
 ·rw [if_pos h]
  simp only [NOG] at h
  (refine sRz<|vAz<|nNz<|zI<|sRz<|vMz ?_;refine lvz (.geqT rfl rfl (by omega)) ?_;refine nNz<|cTz<|sRz<|vAz<|nNz<|zK<|thenR ?_)
  (apply finR;exact .inl rfl;rfl;rfl;rfl;apply zD;exact zG rfl;exact zF)
  rfl
 ·rw [if_neg h]
  simp only [NOG] at h
  have hp:=Nat.mul_le_mul (show n≤1099511627775 by omega) hk
  have hm:n * k % 18446744073709551616=n * k:=Nat.mod_eq_of_lt (by omega)
  (refine sRz<|vAz<|nNz<|zI<|sRz<|vMz ?_;refine lvz (.geqF rfl rfl (by omega)) ?_;refine nNz<|cFz<|zJ<|thenN<|sRz<|vMz<|vMz ?_)
  apply LW.call
  rfl
  rfl
  infer_instance
  (exact .cons rfl .nil)
  ·intro w' hs
   have:=times1_calls n k bb E fr w' (by rw [hs.bel.block bb (Array.getElem?_eq_some_iff.1 hb).1 (by simp)];exact hb)
   rw [hm] at this
   exact this
  (refine lvz (.minZL rfl rfl (by decide)) ?_;refine vAz<|nNz<|zK ?_)
  (apply finR;exact .inl rfl;rfl;rfl;rfl;apply zD;exact zG rfl;exact zF)
  rfl
theorem times_calls (n k:Nat) (hn:n < 18446744073709551616) (hk:k≤1000) (w:World):Calls Tryz.prog 224 #[.int .u64 (n:Int),.int .u64 (k:Int)] w (Ret w (.int .u64 ((timesV n k:Nat):Int))):=by
 refine enter (args:=[_,_]) _ [] [] Tryz.func224 rfl Tryz.ntmps224 rfl (by simp) .nil ?_
 (refine sRz ?_;apply LW.box1;rfl;rfl;rfl;intro _;refine vAz<|nSz<|vMz ?_;apply LW.v0;rfl;rfl;apply ValP.makeFunc;exact ArgsOk.nil;exact .cons rfl .nil)
 rename_i bb
 (apply zS;rfl;rfl;infer_instance;exact .cons rfl (.cons rfl .nil);intro w _;rename_i hst;(exact within_calls _ _ _ hn hk _ _ w ((hst.own (bb,_) (by (repeat (first|exact List.Mem.head _|apply List.Mem.tail)))).2));refine vAz<|nNz<|zK ?_)
 (apply finR;exact .inl rfl;rfl;rfl;rfl;apply zD;exact zG rfl;exact zF)
 rfl
theorem Hash_calls (n:Nat) (hn:n < 18446744073709551616) (w:World):Calls Tryz.prog 207 #[.int .u64 (n:Int)] w (Ret w (.int .u64 ((timesV ((n+31) / 32) 6:Nat):Int))):=by
 have h1:∀ w,Calls Tryz.prog 224 #[.int .u64 (((n+31) / 32:Nat):Int),.int .u64 6] w (Ret w (.int .u64 ((timesV ((n+31) / 32) 6:Nat):Int))):=times_calls _ 6 (by omega) (by decide)
 refine enter (args:=[_]) _ [] [] Tryz.func207 rfl Tryz.ntmps207 rfl (by simp) .nil ?_
 (refine sRz<|vAz<|nSz<|vMz ?_;apply zS;rfl;rfl;infer_instance;exact .cons rfl .nil;intro w _;refine Words_calls _ ?_ w;omega;apply zS;rfl;rfl;infer_instance;exact .cons rfl (.cons rfl .nil);intro w _;exact h1 w;refine vAz<|nNz<|zK ?_)
 (apply finR;exact .inl rfl;rfl;rfl;rfl;apply zD;exact zG rfl;exact zF)
 rfl
theorem Copy_calls (n:Nat) (hn:n < 18446744073709551616) (w:World):Calls Tryz.prog 221 #[.int .u64 (n:Int)] w (Ret w (.int .u64 ((timesV ((n+31) / 32) 3:Nat):Int))):=by
 have h1:∀ w,Calls Tryz.prog 224 #[.int .u64 (((n+31) / 32:Nat):Int),.int .u64 3] w (Ret w (.int .u64 ((timesV ((n+31) / 32) 3:Nat):Int))):=times_calls _ 3 (by omega) (by decide)
 refine enter (args:=[_]) _ [] [] Tryz.func221 rfl Tryz.ntmps221 rfl (by simp) .nil ?_
 (refine sRz<|vAz<|nSz<|vMz ?_;apply zS;rfl;rfl;infer_instance;exact .cons rfl .nil;intro w _;refine Words_calls _ ?_ w;omega;apply zS;rfl;rfl;infer_instance;exact .cons rfl (.cons rfl .nil);intro w _;exact h1 w;refine vAz<|nNz<|zK ?_)
 (apply finR;exact .inl rfl;rfl;rfl;rfl;apply zD;exact zG rfl;exact zF)
 rfl
def endV (a n:Nat):Nat:=if n=0 then 0 else min (a+n) NOG
theorem End_calls (a n:Nat) (ha:a < M256) (hn:n < M256) (w:World):Calls Tryz.prog 120 #[wv a,wv n] w (Ret w (.int .u64 ((endV a n:Nat):Int))):=by
 refine enter (args:=[_,_]) _ [] [] Tryz.func120 rfl Tryz.ntmps120 rfl (by simp) .nil ?_
 unfold endV
 have hz:(0:Nat) < M256:=by decide
 by_cases h0:n=0
 ·subst h0
  rw [if_pos rfl]
  (refine sRz ?_;apply zT;rfl;rfl;intro _;apply zT;rfl;rfl;intro _;refine vAz<|nNz<|zI<|sRz<|ldz rfl .head (qH rfl) ?_;apply LW.v0;rfl;rfl;exact ValP.buildW0;refine lvz (.eqWT rfl rfl (by with_reducible rfl)) ?_;refine nNz<|cTz<|sRz<|vAz<|nNz<|zK<|thenR ?_)
  (apply finR;exact .inl rfl;rfl;rfl;rfl;apply zD;exact zG rfl;exact zF)
  rfl
 ·rw [if_neg h0]
  have hA0:=Add_calls a n ha hn
  have hS0:=Small_calls ((a+n) % M256) (Nat.mod_lt _ (by decide))
  rcases Nat.lt_or_ge (a+n) M256 with h|h
  ·rw [Nat.mod_eq_of_lt h] at hA0 hS0
   rw [decide_eq_false (Nat.not_le.2 h)] at hA0
   have hA:=hA0
   rcases Nat.lt_or_ge (a+n) 18446744073709551616 with hs|hs
   ·rw [if_pos hs,decide_eq_true hs] at hS0
    have hS:=hS0
    (refine sRz ?_;apply zT;rfl;rfl;intro _;apply zT;rfl;rfl;intro _;refine vAz<|nNz<|zI<|sRz<|ldz rfl .head (qH rfl) ?_;apply LW.v0;rfl;rfl;exact ValP.buildW0;refine lvz (.eqWF rfl rfl (by assumption) (by assumption) (by assumption)) ?_;refine nNz<|cFz<|zJ<|thenN<|sRz<|ldz rfl (.tail .head) (qH rfl)<|ldz rfl .head (qH rfl) ?_;apply zS;rfl;rfl;infer_instance;exact .cons rfl (.cons rfl .nil);intro w _;exact hA w;refine vMz ?_;refine vEz ?_;refine vEz ?_;apply LW.allocW;rfl;intro _;refine zR rfl rfl .head (.whole rfl rfl rfl)<|vAz<|nSz<|ldz rfl .head (qH rfl) ?_;apply zS;rfl;rfl;infer_instance;exact .cons rfl .nil;intro w _;exact hS w;refine vMz ?_;refine vEz ?_;refine vEz ?_;refine vAz<|vAz<|nNz<|zI<|sRz<|vMz<|vMz<|gTz<|vMz<|gTz ?_;refine lvz (.notT rfl (by with_reducible rfl)) ?_;refine pFz<|nNz<|cFz<|zJ<|thenN<|sRz<|vMz ?_;refine lvz (.minZL rfl rfl (by decide)) ?_;refine vAz<|nNz<|zK ?_)
    (apply finR;exact .inl rfl;rfl;rfl;rfl;apply zD;exact zG rfl;exact zF)
    rfl
   ·rw [if_neg (Nat.not_lt.2 hs),decide_eq_false (Nat.not_lt.2 hs)] at hS0
    have hS:=hS0
    rw [Nat.min_eq_right (by simp only [NOG];omega)]
    (refine sRz ?_;apply zT;rfl;rfl;intro _;apply zT;rfl;rfl;intro _;refine vAz<|nNz<|zI<|sRz<|ldz rfl .head (qH rfl) ?_;apply LW.v0;rfl;rfl;exact ValP.buildW0;refine lvz (.eqWF rfl rfl (by assumption) (by assumption) (by assumption)) ?_;refine nNz<|cFz<|zJ<|thenN<|sRz<|ldz rfl (.tail .head) (qH rfl)<|ldz rfl .head (qH rfl) ?_;apply zS;rfl;rfl;infer_instance;exact .cons rfl (.cons rfl .nil);intro w _;exact hA w;refine vMz ?_;refine vEz ?_;refine vEz ?_;apply LW.allocW;rfl;intro _;refine zR rfl rfl .head (.whole rfl rfl rfl)<|vAz<|nSz<|ldz rfl .head (qH rfl) ?_;apply zS;rfl;rfl;infer_instance;exact .cons rfl .nil;intro w _;exact hS w;refine vMz ?_;refine vEz ?_;refine vEz ?_;refine vAz<|vAz<|nNz<|zI<|sRz<|vMz<|vMz<|gTz<|vMz<|gTz ?_;refine lvz (.notF rfl (by with_reducible rfl)) ?_;refine pFz<|nNz<|cTz<|sRz<|vAz<|nNz<|zK<|thenR ?_)
    (apply finR;exact .inl rfl;rfl;rfl;rfl;apply zD;exact zG rfl;exact zF)
    rfl
  ·rw [decide_eq_true h] at hA0
   have hA:=hA0
   rw [Nat.min_eq_right (by simp only [NOG];simp only [M256] at h;omega)]
   obtain ⟨x,y,hS⟩:∃ x y,∀ w,Calls Tryz.prog 116 #[wv ((a+n) % M256)] w (Ret w (.tuple #[.int .u64 ((x:Nat):Int),.bool y])):=⟨_,_,hS0⟩
   (refine sRz ?_;apply zT;rfl;rfl;intro _;apply zT;rfl;rfl;intro _;refine vAz<|nNz<|zI<|sRz<|ldz rfl .head (qH rfl) ?_;apply LW.v0;rfl;rfl;exact ValP.buildW0;refine lvz (.eqWF rfl rfl (by assumption) (by assumption) (by assumption)) ?_;refine nNz<|cFz<|zJ<|thenN<|sRz<|ldz rfl (.tail .head) (qH rfl)<|ldz rfl .head (qH rfl) ?_;apply zS;rfl;rfl;infer_instance;exact .cons rfl (.cons rfl .nil);intro w _;exact hA w;refine vMz ?_;refine vEz ?_;refine vEz ?_;apply LW.allocW;rfl;intro _;refine zR rfl rfl .head (.whole rfl rfl rfl)<|vAz<|nSz<|ldz rfl .head (qH rfl) ?_;apply zS;rfl;rfl;infer_instance;exact .cons rfl .nil;intro w _;exact hS w;refine vMz ?_;refine vEz ?_;refine vEz ?_;refine vAz<|vAz<|nNz<|zI<|sRz<|vMz<|vMz<|gFz<|gFz<|pTz<|nNz<|cTz<|sRz<|vAz ?_;refine nNz<|zK<|thenR ?_)
   (apply finR;exact .inl rfl;rfl;rfl;rfl;apply zD;exact zG rfl;exact zF)
   rfl


theorem wcs_app (l r:List Nat):wcs (l++r)=wcs l++wcs r:=by simp [wcs]
theorem wcs_take (l:List Nat) (k:Nat):(wcs l).take (k * 4)=wcs (l.take k):=by
 induction l generalizing k with
 |nil=>simp [wcs]
 |cons a l ih =>
  cases k with
  |zero=>simp [wcs]
  |succ k =>
   have:=ih k
   simp only [wcs,List.flatMap_cons,List.take_succ_cons] at *
   rw [← this,show (k+1) * 4=(wc a).toList.length+k * 4 by show (k+1) * 4=4+k * 4;omega,List.take_length_add_append]
theorem wcs_drop (l:List Nat) (k:Nat):(wcs l).drop (k * 4)=wcs (l.drop k):=by
 induction l generalizing k with
 |nil=>simp [wcs]
 |cons a l ih =>
  cases k with
  |zero=>simp [wcs]
  |succ k =>
   have:=ih k
   simp only [wcs,List.flatMap_cons,List.drop_succ_cons] at *
   rw [← this,show (k+1) * 4=(wc a).toList.length+k * 4 by show (k+1) * 4=4+k * 4;omega,List.drop_length_add_append]
theorem wcs_cells (l:List Nat):∀ u∈wcs l,u.oneCell'=true:=fun u hu=>by
 obtain ⟨a,_,hb⟩:=List.mem_flatMap.1 hu
 simp only [wc,List.mem_cons,List.not_mem_nil,or_false] at hb
 rcases hb with rfl|rfl|rfl|rfl<;>rfl

theorem and32 (n:Nat):n &&& 4294967295=n % 4294967296:=Nat.and_two_pow_sub_one_eq_mod n 32
theorem Mul64_calls (x y:Nat) (hx:x < 18446744073709551616) (hy:y < 18446744073709551616) (w:World):Calls Tryz.prog 63 #[.int .u64 (x:Int),.int .u64 (y:Int)] w (Ret w (.tuple #[.int .u64 ((x * y / 18446744073709551616:Nat):Int),.int .u64 ((x * y % 18446744073709551616:Nat):Int)])):=by
 refine enter (args:=[_,_]) _ [] [] Tryz.func63 rfl Tryz.ntmps63 rfl (by simp) .nil ?_
 (refine sRz<|vAz<|vAz<|nSz<|vMz ?_;refine lvz (.andUL rfl rfl (by decide) (by omega) (by omega)) ?_;refine vAz<|nSz<|vMz ?_;refine lvz (.shrUL rfl rfl (by decide) (by omega)) ?_;refine vAz<|nSz<|vMz ?_;refine lvz (.andUL rfl rfl (by decide) (by omega) (by omega)) ?_;refine vAz<|nSz<|vMz ?_;refine lvz (.shrUL rfl rfl (by decide) (by omega)) ?_;refine vAz<|nSz<|vMz<|vMz<|lvz (.mulN rfl rfl)<|vAz<|nSz<|vMz<|vMz<|lvz (.mulN rfl rfl)<|vMz ?_;refine lvz (.shrUL rfl rfl (by decide) (by omega)) ?_;refine lvz (.addN rfl rfl)<|vAz<|nSz<|vMz ?_;refine lvz (.andUL rfl rfl (by decide) (by omega) (by omega)) ?_;refine vAz<|nSz<|vMz ?_;refine lvz (.shrUL rfl rfl (by decide) (by omega)) ?_;refine vAz<|nSz<|vMz<|vMz<|vMz<|lvz (.mulN rfl rfl)<|lvz (.addN rfl rfl)<|vAz<|nSz<|vMz<|vMz<|lvz (.mulN rfl rfl)<|vMz<|lvz (.addN rfl rfl) ?_;refine vMz ?_;refine lvz (.shrUL rfl rfl (by decide) (by omega)) ?_;refine lvz (.addN rfl rfl)<|vAz<|nSz<|vMz<|vMz<|lvz (.mulN rfl rfl)<|vAz<|nNz<|zK ?_)
 (apply finR;exact .inl rfl;rfl;rfl;rfl;apply zD;exact zG rfl;apply zD;exact zG rfl;exact zF)
 refine congrArg (fun z:Nat=>Value.tuple #[.int .u64 (z:Int),.int .u64 ((x * y % 18446744073709551616:Nat):Int)]) ?_
 simp only [and32,Nat.reducePow]
 have e:x * y=(x / 4294967296) * (y / 4294967296) * (4294967296 * 4294967296)+((x / 4294967296) * (y % 4294967296)+(x % 4294967296) * (y / 4294967296)) * 4294967296+(x % 4294967296) * (y % 4294967296):=by
  rw [← Lib.split_mul,Nat.div_add_mod' x 4294967296,Nat.div_add_mod' y 4294967296]
 have ha:=Lib.half_mul_le (a:=x / 4294967296) (b:=y / 4294967296) (by omega) (by omega)
 have hb:=Lib.half_mul_le (a:=x / 4294967296) (b:=y % 4294967296) (by omega) (by omega)
 have hc:=Lib.half_mul_le (a:=x % 4294967296) (b:=y / 4294967296) (by omega) (by omega)
 have hd:=Lib.half_mul_le (a:=x % 4294967296) (b:=y % 4294967296) (by omega) (by omega)
 rw [e]
 generalize (x / 4294967296) * (y / 4294967296)=a at ha ⊢
 generalize (x / 4294967296) * (y % 4294967296)=b at hb ⊢
 generalize (x % 4294967296) * (y / 4294967296)=c at hc ⊢
 generalize (x % 4294967296) * (y % 4294967296)=d at hd ⊢
 clear e hx hy
 omega
def val:List Nat→Nat
 |[]=>0
 |x::r=>x+18446744073709551616 * val r
theorem val_set:∀ (L:List Nat) (j v:Nat) (hj:j < L.length),val (L.set j v)+L[j] * 18446744073709551616 ^ j=val L+v * 18446744073709551616 ^ j
 |x::r,0,v,_=>by simp [val];omega
 |x::r,j+1,v,hj=>by
  have:=val_set r j v (by simpa using hj)
  simp only [qN,val,List.getElem_cons_succ,Nat.pow_succ]
  have e:∀ y,y * (18446744073709551616 ^ j * 18446744073709551616)=18446744073709551616 * (y * 18446744073709551616 ^ j):=fun y=>by rw [← Nat.mul_assoc,Nat.mul_comm]
  rw [e,e]
  omega
theorem mul_step (x y l c:Nat) (hx:x < 18446744073709551616) (hy:y < 18446744073709551616) (hl:l < 18446744073709551616) (hc:c < 18446744073709551616) :
  let lo:=x * y % 18446744073709551616;let hi:=x * y / 18446744073709551616
  let l1:=(lo+l+0) % 18446744073709551616;let c1:=(lo+l+0) / 18446744073709551616
  let l2:=(l1+c+0) % 18446744073709551616;let c2:=(l1+c+0) / 18446744073709551616
  (hi+c1) % 18446744073709551616=hi+c1∧(hi+c1+c2) % 18446744073709551616=hi+c1+c2∧l2+18446744073709551616 * (hi+c1+c2)=x * y+l+c∧l2 < 18446744073709551616∧hi+c1+c2 < 18446744073709551616:=by
 have hxy:x * y≤18446744073709551615 * 18446744073709551615:=Nat.mul_le_mul (by omega) (by omega)
 generalize x * y=p at *
 dsimp only
 omega
theorem inv_step (v v' l lo c c' xy P:Nat) (h1:v'+l * P=v+lo * P) (h2:lo+18446744073709551616 * c'=xy+l+c):v'+c' * (P * 18446744073709551616)=v+c * P+xy * P:=by
 have h3:(lo+18446744073709551616 * c') * P=(xy+l+c) * P:=by rw [h2]
 rw [Nat.add_mul,Nat.add_mul,Nat.add_mul] at h3
 have e:c' * (P * 18446744073709551616)=18446744073709551616 * c' * P:=by rw [Nat.mul_comm P,← Nat.mul_assoc,Nat.mul_comm c']
 rw [e];omega
theorem mul_last (l0 l1 l2 l3 l4 l5 l6 l7 n:Nat) (h0:l0 < 18446744073709551616) (h1:l1 < 18446744073709551616) (h2:l2 < 18446744073709551616) (h3:l3 < 18446744073709551616) (h:val [l0,l1,l2,l3,l4,l5,l6,l7]=n) :
  n % 115792089237316195423570985008687907853269984665640564039457584007913129639936=l0+18446744073709551616 * l1+340282366920938463463374607431768211456 * l2+6277101735386680763835789423207666416102355444464034512896 * l3 ∧
  (115792089237316195423570985008687907853269984665640564039457584007913129639936≤n↔(l4 ≠ 0∨l5 ≠ 0∨l6 ≠ 0∨l7 ≠ 0)):=by
 simp only [val] at h
 constructor<;>omega
def lcs (L:List Nat):Array Value:=(L.map fun x=>Value.int .u64 ((x:Nat):Int)).toArray
theorem Add64_run (x y:Nat) (w:World):(callFunc 61 #[.int .u64 x,.int .u64 y,.int .u64 (0:Int)]).run Tryz.prog w=.ok (.value (.tuple #[.int .u64 (((x+y+0) % 18446744073709551616:Nat):Int),.int .u64 (((x+y+0) / 18446744073709551616:Nat):Int)])) w:=add64_run x y 0 (by decide) w
theorem lcs_get (L:List Nat) (j:Nat) (h:j < L.length):(lcs L)[j]?=some (.int .u64 ((L[j]:Nat):Int)):=by simp [lcs,h]
theorem lcs_set (L:List Nat) (j v:Nat):wrCells (lcs L) j [.int .u64 ((v:Nat):Int)]=lcs (L.set j v):=by
 simp only [wrCells,lcs]
 rw [qI,List.map_set]
theorem lcs_rd (L:List Nat) (j:Nat) (h:j < L.length) {E:TypeId} {fr:Nat × Nat}:Rd Tryz.prog 26 (.cells (lcs L) E fr) (0+j * 1) (.int .u64 ((L[j]:Nat):Int)):=Rd.one (by rw [qP,Nat.mul_one];exact lcs_get L j h)
theorem lcs_wr (L:List Nat) (j v:Nat) (h:j < L.length) {E:TypeId}:Wr Tryz.prog 26 (.cells (lcs L) E (0,0)) (0+j * 1) (.int .u64 ((v:Nat):Int)) (.cells (lcs (L.set j v)) E (0,0)) :=
 Wr.cells rfl rfl (by show 0+j * 1+1≤(lcs L).size;simp [lcs];omega) (by rw [qP,Nat.mul_one];exact lcs_set L j v)
structure MO where
 i:Nat
 L:List Nat
structure MI where
 k:Nat
 c:Nat
 L:List Nat
def limb (a i:Nat):Nat:=a / 2 ^ (64 * i) % 18446744073709551616
theorem B_pow (i:Nat):(18446744073709551616:Nat) ^ i=2 ^ (64 * i):=by rw [show (18446744073709551616:Nat)=2 ^ 64 from rfl,← Nat.pow_mul]
theorem limb_step (a i:Nat):a % 2 ^ (64 * (i+1))=a % 2 ^ (64 * i)+limb a i * 18446744073709551616 ^ i:=by
 rw [Nat.mul_add,Nat.mul_one,Nat.pow_add,Nat.mod_mul,limb,B_pow,Nat.mul_comm (2 ^ (64 * i))]
theorem nth_limb (a k:Nat) (h:k < 4):nth (wc a).toList k=some (.int .u64 ((limb a k:Nat):Int)):=nth_wc a k h
theorem limb_lt (a i:Nat):limb a i < 18446744073709551616:=Nat.mod_lt _ (by decide)
theorem getElem_mem_lt {L:List Nat} (h:∀ y∈L,y < 18446744073709551616) (j:Nat) (hj:j < L.length):L[j] < 18446744073709551616:=h _ (List.getElem_mem hj)
theorem set_lt {L:List Nat} (h:∀ y∈L,y < 18446744073709551616) (j v:Nat) (hv:v < 18446744073709551616):∀ y∈L.set j v,y < 18446744073709551616:=fun y hy=>by
 rcases List.mem_or_eq_of_mem_set hy with h1|rfl
 ·exact h y h1
 ·exact hv
theorem Mul_calls (a b:Nat) (ha:a < M256) (hb:b < M256) (w:World):Calls Tryz.prog 19 #[wv a,wv b] w (Ret w (.tuple #[wv (a * b % M256),.bool (decide (M256≤a * b))])):=by
 refine enter (args:=[_,_]) _ [] [] Tryz.func19 rfl Tryz.ntmps19 rfl (by simp) .nil ?_
 (refine sRz ?_;apply zT;rfl;rfl;intro _;apply zT;rfl;rfl;intro _;apply LW.allocW;rfl;intro _;refine vAz<|nSz ?_;apply zU;rfl;intro _;refine nNz<|zI<|sRz<|ldz rfl (.tail (.tail (.tail .head))) (qH rfl)<|vMz<|nNz<|zM ?_)
 rename_i ba bb bc bd
 refine CW.loop (fun x:MO=>([(16,.int .i64 (x.i:Int)),(15,.agg (wc a)),(6,.pointer (some ⟨bd,0,none⟩)),(5,.bool false),(4,.pointer (some ⟨bc,0,none⟩)),(3,.pointer (some ⟨bb,0,none⟩))],
   [(bd,.cells (lcs x.L) 103 (0,0)),(bc,.cells (wc 0) 29 (0,0)),(bb,.cells (wc b) 29 (0,0)),(ba,.cells (wc a) 29 (0,0))]))
  (fun x=>x.i≤4∧x.L.length=8∧(∀ y∈x.L,y < 18446744073709551616)∧val x.L=a % 2 ^ (64 * x.i) * b∧∀ j (h:j < x.L.length),x.i+4≤j→x.L[j]=0) (fun x=>4 - x.i) ⟨0,[0,0,0,0,0,0,0,0]⟩ ⟨Nat.zero_le _,rfl,by decide,by simp [val,Nat.mod_one],by decide⟩ ⟨rfl,rfl,rfl,rfl,rfl,rfl,trivial⟩ (qO _) ?_
 rintro ⟨i,L⟩ ⟨hi,hL,hLb,hval,hz⟩
 dsimp only at hi hL hLb hval hz ⊢
 rcases Nat.lt_or_ge i 4 with hlt|hge
 ·have hx0:=limb_lt a i
  (refine sRz ?_;refine lvz (.lssT rfl rfl (by omega)) ?_;refine nNz<|zI<|cTz<|zJ<|thenN<|zI<|zM<|sRz<|vMz ?_;apply LW.v0;rfl;rfl;apply ValP.indexA;rfl;rfl;rfl;rfl;omega;apply nth_limb;omega;refine vAz<|vAz<|nSz<|vAz<|nNz<|zI<|sRz<|ldz rfl (.tail (.tail .head)) (qH rfl)<|vMz<|nNz<|zM ?_)
  refine CW.loop (fun x:MI=>([(21,.int .i64 (x.k:Int)),(20,.agg (wc b)),(9,.int .u64 ((x.c:Nat):Int)),(8,.int .u64 ((limb a i:Nat):Int)),(7,.int .i64 (i:Int)),(16,.int .i64 (i:Int)),(15,.agg (wc a)),(6,.pointer (some ⟨bd,0,none⟩)),(5,.bool false),(4,.pointer (some ⟨bc,0,none⟩)),(3,.pointer (some ⟨bb,0,none⟩))],
    [(bd,.cells (lcs x.L) 103 (0,0)),(bc,.cells (wc 0) 29 (0,0)),(bb,.cells (wc b) 29 (0,0)),(ba,.cells (wc a) 29 (0,0))]))
   (fun x=>x.k≤4∧x.c < 18446744073709551616∧x.L.length=8∧(∀ y∈x.L,y < 18446744073709551616)∧val x.L+x.c * 18446744073709551616 ^ (i+x.k)=a % 2 ^ (64 * i) * b+limb a i * (b % 2 ^ (64 * x.k)) * 18446744073709551616 ^ i∧∀ j (h:j < x.L.length),i+4≤j→x.L[j]=0) (fun x=>4 - x.k) ⟨0,0,L⟩
   ⟨Nat.zero_le _,(show 0 < 18446744073709551616 by decide),hL,hLb,by simp [hval,Nat.mod_one],hz⟩ ⟨rfl,rfl,rfl,rfl,rfl,rfl,rfl,rfl,rfl,rfl,rfl,trivial⟩ (qO _) ?_
  clear hL hLb hval hz L
  rintro ⟨k,c,L⟩ ⟨hk,hc,hL,hLb,hval,hz⟩
  dsimp only at hk hc hL hLb hval hz ⊢
  rcases Nat.lt_or_ge k 4 with hkl|hkg
  ·have hy0:=limb_lt b k
   have hj:i+k < L.length:=by omega
   obtain ⟨l,hl⟩:∃ l,l=L[i+k]:=⟨_,rfl⟩
   have hl0:l < 18446744073709551616:=by rw [hl];exact getElem_mem_lt hLb _ hj
   have hrd:=lcs_rd L (i+k) hj (E:=103) (fr:=(0,0))
   rw [← hl] at hrd
   obtain ⟨s1,s2,s3,s4,s5⟩:=mul_step (limb a i) (limb b k) l c hx0 hy0 hl0 hc
   have hW:=lcs_wr L (i+k) (((limb a i * limb b k % 18446744073709551616+l+0) % 18446744073709551616+c+0) % 18446744073709551616) hj (E:=103)
   have hv:=val_set L (i+k) (((limb a i * limb b k % 18446744073709551616+l+0) % 18446744073709551616+c+0) % 18446744073709551616) hj
   rw [← hl] at hv
   have hinv:=inv_step _ _ _ _ _ _ _ _ hv s3
   (refine sRz ?_;refine lvz (.lssT rfl rfl (by omega)) ?_;refine nNz<|zI<|cTz<|zJ<|thenN<|zI<|zM<|sRz<|vMz ?_;apply LW.v0;rfl;rfl;apply ValP.indexA;rfl;rfl;rfl;rfl;omega;apply nth_limb;omega;refine vAz<|vAz<|nSz<|vMz<|vMz ?_;apply zS;rfl;rfl;infer_instance;exact .cons rfl (.cons rfl .nil);intro w _;refine Mul64_calls _ _ ?_ ?_ w;assumption;assumption;refine vMz ?_;refine vEz ?_;refine vEz ?_;refine vAz<|vAz<|nSz<|vMz<|vMz<|vMz ?_;refine lvz (.addZ rfl rfl (by omega)) ?_;refine lvz (.indexAddrA rfl rfl rfl (by omega)) ?_;refine ldz rfl .head (by assumption) ?_;apply LW.v0;rfl;rfl;apply ValP.callX;rfl;exact .cons rfl (.cons rfl (.cons rfl .nil));exact Add64_run _ _;refine vMz ?_;refine vEz ?_;refine vEz ?_;refine vAz<|vAz<|nSz<|vMz<|vMz<|lvz (.addN rfl rfl)<|vAz<|nSz<|vMz<|vMz ?_;apply LW.v0;rfl;rfl;apply ValP.callX;rfl;exact .cons rfl (.cons rfl (.cons rfl .nil));exact Add64_run _ _;refine vMz ?_;refine vEz ?_;refine vEz ?_;refine vAz<|vAz<|nNz<|zL<|vMz<|vMz ?_;refine lvz (.addZ rfl rfl (by omega)) ?_;refine vMz<|vMz<|vMz<|lvz (.addN rfl rfl) ?_;refine lvz (.indexAddrA rfl rfl rfl (by omega)) ?_;apply zR;rfl;rfl;apply qA;assumption;refine vAz ?_;apply zV;refine blkN<|thenN<|zL ?_;refine lvz (.addZL rfl rfl (by decide) (by omega)) ?_;refine vMz ?_;apply zV)
   apply thenX
   refine ⟨rfl,⟨k+1,_,_⟩,⟨hkl,?_,?_,?_,?_,?_⟩,by show 4 - (k+1) < 4 - k;omega,⟨rfl,rfl,rfl,rfl,rfl,rfl,rfl,rfl,rfl,rfl,rfl,trivial⟩,qO _⟩
   ·exact Nat.mod_lt _ (by decide)
   ·simpa using hL
   ·exact set_lt hLb _ _ s4
   ·dsimp only
    rw [s1,s2,← Nat.add_assoc,Nat.pow_succ,hinv,hval,limb_step,Nat.mul_add,Nat.add_mul,Nat.pow_add,Nat.add_assoc]
    congr 2
    rw [Nat.mul_assoc,Nat.mul_assoc,Nat.mul_assoc,Nat.mul_comm (18446744073709551616 ^ i)]
   ·intro j hjl hji
    dsimp only at hjl ⊢
    rw [List.getElem_set_ne (by omega)]
    exact hz j (by simpa using hjl) hji
  ·obtain rfl:k=4:=by omega
   have hj:i+4 < L.length:=by omega
   have hb4:b % 2 ^ (64 * 4)=b:=Nat.mod_eq_of_lt hb
   have hW:=lcs_wr L (i+4) c hj (E:=103)
   have hv:=val_set L (i+4) c hj
   rw [hz (i+4) hj (Nat.le_refl _),Nat.zero_mul,Nat.add_zero,hval,hb4] at hv
   (refine sRz ?_;refine lvz (.lssF rfl rfl (by omega)) ?_;refine nNz<|zI<|cFz<|CW.exit<|thenE<|thenE<|blkE rfl<|thenN<|zL<|vMz ?_;refine lvz (.addZL rfl rfl (by decide) (by omega)) ?_;refine vMz ?_;refine lvz (.indexAddrA rfl rfl rfl (by omega)) ?_;apply zR;rfl;rfl;apply qA;assumption;apply zV;refine blkN<|thenN<|zL ?_;refine lvz (.addZL rfl rfl (by decide) (by omega)) ?_;refine vMz ?_;apply zV)
   apply thenX
   refine ⟨rfl,⟨i+1,_⟩,⟨hlt,?_,?_,?_,?_⟩,by show 4 - (i+1) < 4 - i;omega,⟨rfl,rfl,rfl,rfl,rfl,rfl,trivial⟩,qO _⟩
   ·simpa using hL
   ·exact set_lt hLb _ _ hc
   ·dsimp only
    rw [hv,limb_step,Nat.add_mul,Nat.mul_right_comm]
   ·intro j hjl hji
    dsimp only at hjl hji ⊢
    rw [List.getElem_set_ne (by omega)]
    exact hz j (by simpa using hjl) (by omega)
 ·obtain rfl:i=4:=by omega
  have ha4:a % 2 ^ (64 * 4)=a:=Nat.mod_eq_of_lt ha
  rw [ha4] at hval
  match L,hL with
  |[l0,l1,l2,l3,l4,l5,l6,l7],_ =>
   have h0:=hLb l0 (by simp)
   have h1:=hLb l1 (by simp)
   have h2:=hLb l2 (by simp)
   have h3:=hLb l3 (by simp)
   have h4:=hLb l4 (by simp)
   have h5:=hLb l5 (by simp)
   have h6:=hLb l6 (by simp)
   have h7:=hLb l7 (by simp)
   obtain ⟨m1,m2⟩:=mul_last l0 l1 l2 l3 l4 l5 l6 l7 (a * b) h0 h1 h2 h3 hval
   have hrw:Rd Tryz.prog 29 (.cells (lcs [l0,l1,l2,l3,l4,l5,l6,l7]) 103 (0,0)) 0 (wv (a * b % M256)):=by
    rw [wv,← wc_val h0 h1 h2 h3 m1]
    exact Rd.mid (cs:=[.int .u64 (l0:Int),.int .u64 (l1:Int),.int .u64 (l2:Int),.int .u64 (l3:Int)]) rfl rfl
   have hbool:(!decide (((l4 |||l5 |||l6 |||l7:Nat):Int)=0))=decide (M256≤a * b):=by
    rw [Bool.eq_iff_iff,Bool.not_eq_true',decide_eq_false_iff_not,decide_eq_true_iff,Int.natCast_eq_zero,Nat.or_eq_zero_iff,Nat.or_eq_zero_iff,Nat.or_eq_zero_iff,m2];omega
   (refine sRz ?_;refine lvz (.lssF rfl rfl (by omega)) ?_;refine nNz<|zI<|cFz<|CW.exit<|thenE<|thenE<|blkE rfl<|thenN<|zI ?_;apply CW.pre;refine AnyW.any 16 mixed (by decide +kernel) ?_;(try simp only [tsOf_cons,tsOf_nil,tsOf_app]);refine dvz (.cutArr inferInstance inferInstance rfl rfl rfl)<|dvz (.asArr inferInstance rfl rfl) ?_;apply qF;rfl;rfl;rfl;exact zC;rfl;apply zP;exact zN;assumption;refine dvz (.indexAddrL rfl rfl rfl) ?_;apply qF;rfl;rfl;rfl;exact zC;rfl;apply zP;exact zN;exact Rd.one' rfl;refine dvz (.indexAddrL rfl rfl rfl) ?_;apply qF;rfl;rfl;rfl;exact zC;rfl;apply zP;exact zN;exact Rd.one' rfl;refine dvz (.orU rfl rfl (by omega) (by omega)) ?_;refine dvz (.indexAddrL rfl rfl rfl) ?_;apply qF;rfl;rfl;rfl;exact zC;rfl;apply zP;exact zN;exact Rd.one' rfl;apply DW.v0;rfl;rfl;rfl;exact zC;rfl;apply ValP.orU;rfl;rfl;apply or64;omega;omega;omega;refine dvz (.indexAddrL rfl rfl rfl) ?_;apply qF;rfl;rfl;rfl;exact zC;rfl;apply zP;exact zN;exact Rd.one' rfl;apply DW.v0;rfl;rfl;rfl;exact zC;rfl;apply ValP.orU;rfl;rfl;apply or64;apply or64;omega;omega;omega;omega;refine dvz (.ne rfl rfl) ?_;apply DW.store;rfl;rfl;exact zC;rfl;rfl;apply TSet.tail;apply TSet.head;exact zN;exact zN;apply Wr.whole;rfl;rfl;rfl;apply DW.nil;simp only [fsOf_cons,fsOf_nil,fsOf_app,fsOf_tsOf,fsOf_new];refine vAz<|nNz<|zK ?_)
   (apply finR;exact .inl rfl;rfl;rfl;rfl;apply zD;apply zH;rfl;apply qG;apply zX;apply zY;exact qH rfl;apply zD;exact zG rfl;exact zF)
   rw [← hbool];rfl


end Go.Proofs.YtdeggbkbblfpoaaGreatDoor
