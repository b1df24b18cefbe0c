/-
  Texts that were built apart, put behind one another (2 of 4): Smd Sme Smf Smg Smh Smi Smu Smv Smw Smj Smk Sml Smm Smn Smo Smp Smq Smr Sms Inst N1 N2 W1 W2 W3 W4 W5 W6 W7 W8 W9 W10 W11 W12 W13 G1 G2 G3 G4 G5 G6 G8 G9 G14 W14 W15 W16 W17 W18 W19 W20 W22 W23 W26 P0 P1 P2 P3 P4 P5 P6 P7 P8 P9 PA PB PC PD PE U1 U2 U3 N3 K6 K7 K8 K1 K2 K3 K4 K5 K9 KA KB KD N4 N5 N6 Smx N7 N8 C1 C2 C3 C4 C5 C6 C7 N9.
  Conditions: none.
-/
import Derived.Test.YtpgdnfgjbhdbpaaGreatDoorZ1
import Derived.Laws.CopyRow
import Derived.Laws.IdiomCopy
import Derived.Laws.IdiomStrings
import Derived.RecoverIn
import Derived.WideLaws
import Derived.Laws.Build
import Derived.Laws.StructEq
import Derived.Sort.QuietThIn
import Derived.Lib.AppendStr
import Derived.Lib.MakeNoZero
import Derived.Test.YtpgdnfgjbhdbpaaGreatDoorRows
import Derived.Shelf.Spec.BitsCarry
import Derived.Lib.Mul64
import Derived.Laws.Externs
import Derived.Lib.BytesEntry
import Derived.Lib.Bytealg
namespace Go.Proofs.YtpgdnfgjbhdbpaaGreatDoor.SL
set_option linter.unusedVariables false
set_option linter.unusedSimpArgs false
open Go Go.RowKit
def uca (l:List UInt8):Array Value:=(ucs l).toArray
theorem uca_size (l:List UInt8):(uca l).size=l.length:=by simp [uca,ucs_len]
theorem uca_get (l:List UInt8) (i:Nat) (hi:i < l.length):(uca l)[i]?=some (.int .u8 ((l.getD i 0).toNat:Int)):=by
 simp [uca,ucs_map,hi,List.getD_eq_getElem?_getD]
theorem uca_set (l:List UInt8) (i x:Nat) (hx:x < 256):wrCells (uca l) i [Value.int .u8 (x:Int)]=uca (l.set i (UInt8.ofNat x)):=by
 have h:(UInt8.ofNat x).toNat=x:=by rw [UInt8.toNat_ofNat'];omega
 simp [wrCells,uca,ucs_map,List.map_set,h,Nat.mod_eq_of_lt hx]
section rd
variable {P : Program} {T E : TypeId} {fr : Nat × Nat} {l : List UInt8} {i x off : Nat}
theorem rd_uca [AgI P T false] (hi:i < l.length):Rd P T (.cells (uca l) E fr) (0+i * 1) (.int .u8 ((l.getD i 0).toNat:Int)) :=
 Rd.one (by rw [Nat.zero_add,Nat.mul_one];exact uca_get l i hi)
theorem rd_ucaO [AgI P T false] (hi:off+i < l.length):Rd P T (.cells (uca l) E fr) (off+i * 1) (.int .u8 ((l.getD (off+i) 0).toNat:Int)) :=
 Rd.one (by rw [Nat.mul_one];exact uca_get l (off+i) hi)
theorem rd_ucaW {n:Nat} {z:Value} [AgI P T true] [InfoI P T n z] (h:l.length=n):Rd P T (.cells (uca l) E fr) 0 (.agg (uca l)):=Rd.whole (by rw [uca_size,h])
theorem wr_uca {z:Value} [InfoI P T 1 z] (hi:i < l.length) (hx:x < 256):Wr P T (.cells (uca l) E (0,0)) (0+i * 1) (.int .u8 (x:Int)) (.cells (uca (l.set i (UInt8.ofNat x))) E (0,0)) :=
 Wr.cells (n:=1) (z:=z) rfl rfl (by rw [uca_size];omega) (by rw [Nat.zero_add,Nat.mul_one];exact uca_set l i x hx)
theorem wr_ucaW {n:Nat} {z:Value} {k:List UInt8} [InfoI P T n z] (h:k.length=n) (h2:l.length=n):Wr P T (.cells (uca k) E (0,0)) 0 (.agg (uca l)) (.cells (uca l) E (0,0)) :=
 Wr.whole (by rw [uca_size,h]) (by rw [uca_size,h2]) (by simp [uca,ucs_map,Value.oneCell'])
theorem wr_ucaO {n:Nat} {z:Value} {cs:Array Value} [InfoI P T n z] (h:cs.size=n) (h2:l.length=n):Wr P T (.cells cs E (0,0)) 0 (.agg (uca l)) (.cells (uca l) E (0,0)) :=
 Wr.whole h (by rw [uca_size,h2]) (by simp [uca,ucs_map,Value.oneCell'])
end rd
theorem own_row {w:World} {g off n c:Nat} {l:List UInt8} {E:TypeId} {fr:Nat × Nat} (h:w.heap[g]?=some (.cells (uca l) E fr)) (hn:off+n≤l.length) (hc:n≤c) (hm:c≤maxLen) :
  RowAt w 1 (.slice (some ⟨g,off,none⟩) n c) n (ucs ((l.drop off).take n)) :=
 ⟨⟨_,_,rfl,hc,hm⟩,by rw [ucs_len,List.length_take,List.length_drop];omega,fun _=>⟨g,off,c,_,E,fr,rfl,h,by simp [uca,ucs_map,List.map_drop,List.map_take]⟩,fun p k d hv=>by
  cases hv;exact .inr (.inr ⟨g,off,_,rfl,h⟩)⟩
section num
variable {P : Program} {e : Env} {T ty : TypeId} {x y : Operand} {m n : Nat}
theorem ofInt8 (m:Nat) (hm:m < 256):(BitVec.ofInt 8 (m:Int)).toNat=m:=by
 simp only [BitVec.ofInt_natCast,BitVec.toNat_ofNat];omega
theorem ValP.orB (hx:e.ev x=some (.int .u8 (m:Int))) (hy:e.ev y=some (.int .u8 (n:Int))) (hm:m < 256) (hn:n < 256):ValP P e [] (.binOp .or T x y ty) (.int .u8 ((m |||n:Nat):Int)) :=
 .bin hx hy (fun w=>guard_int w) fun w=>by
  have h:m |||n < 256:=Nat.or_lt_two_pow (n:=8) hm hn
  have hb:bits .or .u8 (m:Int) (n:Int)=((m |||n:Nat):Int):=by
   show IntKind.u8.wrap (((BitVec.ofInt 8 (m:Int) |||BitVec.ofInt 8 (n:Int)).toNat:Nat):Int)=_
   rw [BitVec.toNat_or,ofInt8 m hm,ofInt8 n hn,wrapB]
   omega
  rw [binOp_or,intBits_or,hb];rfl
theorem ValP.orBL (hx:e.ev x=some (.int .u8 (m:Int))) (hy:e.ev y=some (.int .u8 (OfNat.ofNat n))) (_:n=n) (h0:m < 256) (h1:(OfNat.ofNat n:Nat) < 256):ValP P e [] (.binOp .or T x y ty) (.int .u8 ((m |||(OfNat.ofNat n:Nat):Nat):Int)):=.orB hx hy h0 h1
theorem ValP.cut3 {ik il im:IntKind} {E i j k c sz:Nat} {z:Value} {p:Option Addr} {lo hi mx:Operand} (hU:UnI P T (.slice E)) (hI:InfoI P E sz z) (hx:e.ev x=some (.slice p n c)) (hl:e.ev lo=some (.int il (i:Int))) (hh:e.ev hi=some (.int ik (j:Int))) (hm:e.ev mx=some (.int im (k:Int))) (h1:i≤j) (h2:j≤k) (h3:k≤c) (h4:i < k) :
  ValP P e [] (.slice T x (some lo) (some hi) (some mx)) (.slice (p.map (·.add (i * sz))) (j - i) (k - i)):=fun ρ w hρ _ d t pos af g=>by
 have hu:P.underlying T=some (.slice E):=hU.un
 have h1:=run_slice_lhm (P:=P) w T p n c (elem_un hu) il ik im (i:Int) (j:Int) (k:Int) (by omega) (by omega) (by omega) (by omega)
 rw [elem_eq hu,run_size] at h1
 have h2:(Instr.sliceAt T (.slice p n c) (some (.int il (i:Int))) (some (.int ik (j:Int))) (some (.int im (k:Int)))).run P w=.ok (.slice (p.map (·.add (i * sz))) (j - i) (k - i)) w:=by
  rw [run_sliceAt_slice (w:=w) T _ _ _ _ (elem_un hu),h1]
  simp only [Result.andThen_ok,sliced,Int.toNat_natCast]
  rw [if_neg (by omega)]
 simp [execOp,hρ x _ hx,hρ lo _ hl,hρ hi _ hh,hρ mx _ hm,h2]
end num
theorem put_same {w:World} {g:Nat} {o:Obj} (h:w.heap[g]?=some o):w.putObj g o=w:=by
 obtain ⟨hlt,rfl⟩:=Array.getElem?_eq_some_iff.1 h
 simp [World.putObj,Array.setIfInBounds,hlt]
theorem setRow_put {w:World} {g:Nat} {cs cur:Array Value} {E:TypeId} (h:w.heap[g]?=some (.cells cur E (0,0))):w.setRow g cs=w.putObj g (.cells cs E (0,0)):=by
 unfold World.setRow World.putObj
 have hlt:=(Array.getElem?_eq_some_iff.1 h).1
 congr 1
 apply Array.ext_getElem?
 intro i
 by_cases hi:g=i
 ·subst hi;rw [Array.getElem?_modify,if_pos rfl,h];simp [hlt]
 ·simp [Array.getElem?_modify,hi]
section dw
variable {C : Cu} {ops : Array Oper} {Q : Post} {tl rest : List Oper} {e : Env} {ts : Ts} {μ : Mu} {k d : Nat} {op : Op} {t : TypeId} {pos : String} {af : Array Edge} {g : Option (Nat × Bool)}
end dw
section lw
variable {C : Cu} {ops : Array Oper} {Q : Post} {rest : List Oper} {e : Env} {fs : Fs} {d : Nat} {t : TypeId} {pos : String} {af : Array Edge}
theorem LW.makeOwn {T E bytes:Nat} {z:Value} {x:Operand} {ik:IntKind} {n:Nat} (hd:Nat.blt d C.N=true) (hU:UnI C.P T (.slice E)) (hI:InfoI C.P E 1 z) (hB:BytI C.P E bytes) (hz:z.cells=#[z]) (hx:e.ev x=some (.int ik (n:Int))) (hb:n * bytes≤281474976710656) (h63:n≤maxLen)
  (k:∀ g,LW C ops Q rest ((d,.slice (some ⟨g,0,none⟩) n n)::e) ((g,.cells (List.replicate n z).toArray E (0,0))::fs)):LW C ops Q (⟨some d,.makeSlice T x x,t,pos,af,none⟩::rest) e fs :=
 LW.n0 hd rfl (.makeSlice hU hI hB hx hb (by simpa [maxLen] using h63)) fun g=>by
  have h:madeCells z.cells (n * 1)=(List.replicate n z).toArray:=by rw [← made_one hz]
  rw [h];exact k g
theorem LW.copyAt {x y:Operand} {tys:Array TypeId} {T E bytes:TypeId} {z vx:Value} {g off dLen dCap m:Nat} {cur:Array Value} {E':TypeId} {news:List Value} {fs':Fs} (hd:Nat.blt d C.N=true) (hT:tys=#[T,T]) (hU:UnI C.P T (.slice E)) (hI:InfoI C.P E 1 z) (hB:BytI C.P E bytes)
  (hx:e.ev x=some (.slice (some ⟨g,off,none⟩) dLen dCap)) (hy:e.ev y=some vx) (hat:∀ w,St C.w0 C.S fs w→RowAt w 1 vx m news) (h1:∀ u∈news,u.oneCell'=true) (hm:m≤dLen) (hfit:off+m≤cur.size)
  (hset:SetAt fs g (.cells cur E' (0,0)) (.cells (cur.toList.take off++news++cur.toList.drop (off+m)).toArray E' (0,0)) fs')
  (k:LW C ops Q rest ((d,.int .i64 (m:Int))::e) fs') :
  LW C ops Q (⟨some d,.call { callee:=.builtin .copy,args:=#[x,y],argTypes:=tys },t,pos,af,none⟩::rest) e fs:=by
 subst hT
 refine LW.valset hd (fun c h=>by cases h) hset (fun a w hs hg=>?_) k
 have hA:=hat w hs.st
 have hl:news.length=m:=by have:=hA.len;omega
 have hsz:(C.P.info? E).map (·.size)=some 1:=by
  obtain ⟨i,i1,i2,i3,i4⟩:=info_all (P:=C.P) (T:=E);rw [i1];simp [i2]
 rcases Nat.eq_zero_or_pos m with h0|h0
 ·subst h0
  obtain ⟨p,c,rfl,_,_⟩:=hA.form
  have hn:news=[]:=List.length_eq_zero_iff.1 (by omega)
  have hrun:=run_copy_none (P:=C.P) w T T t E (some ⟨g,off,none⟩) p dLen dCap 0 c hU.un hsz (Nat.zero_min _)
  have e1:(Obj.cells (cur.toList.take off++news++cur.toList.drop (off+0)).toArray E' (0,0))=.cells cur E' (0,0):=by rw [hn];simp
  rw [e1]
  have hput:w.putObj g (.cells cur E' (0,0))=w:=put_same hg
  rw [hput]
  simp [execOp,resolve,invoke,builtin,hs.env.ev hx,hs.env.ev hy,hrun,goInt]
 ·obtain ⟨b,o2,c,cs,E2,fr,rfl,hblk,hnx⟩:=hA.pos h0
  have hrun:=run_copy_row (P:=C.P) w T T t E g off dLen dCap ⟨b,o2,none⟩ m c cur E' news hU.un hsz hg (by rw [hl];exact (Nat.min_eq_left hm).symm) (fun j u hj=>by
   rw [addr_add,cell_of hblk];exact cut_get hnx hj) (by rw [hl];exact hfit) h1
  rw [hl] at hrun
  have hput:w.setRow g (cur.toList.take off++news++cur.toList.drop (off+m)).toArray=w.putObj g (.cells (cur.toList.take off++news++cur.toList.drop (off+m)).toArray E' (0,0)):=setRow_put hg
  rw [hput] at hrun
  simp [execOp,resolve,invoke,builtin,hs.env.ev hx,hs.env.ev hy,hrun,goInt]
end lw
end Go.Proofs.YtpgdnfgjbhdbpaaGreatDoor.SL
namespace Go.Proofs.YtpgdnfgjbhdbpaaGreatDoor.SL
set_option linter.unusedVariables false
set_option linter.unusedSimpArgs false
open Go Go.RowKit
section lw
variable {C : Cu} {ops : Array Oper} {Q : Post} {rest : List Oper} {e : Env} {fs : Fs} {d : Nat} {t : TypeId} {pos : String} {af : Array Edge}
end lw
end Go.Proofs.YtpgdnfgjbhdbpaaGreatDoor.SL
namespace Go.Proofs.YtpgdnfgjbhdbpaaGreatDoor.SL
set_option linter.unusedVariables false
set_option linter.unusedSimpArgs false
open Go Go.RowKit
variable {P : Program} {e : Env}
section eqs
variable {T ty n : Nat} {k : IntKind} {x y : Operand}
variable {a b : List UInt8} {l m : List Nat}
end eqs
section sli
variable {T ty : TypeId} {x y : Operand} {n c : Nat}
theorem guard_sli {op:BinOp} {p:Option Addr} {v:Value} (w:World):(eqGuard op T x y (.slice p n c) v).run P w=.ok () w:=by
 unfold eqGuard;cases op<;>cases v<;>simp
theorem eqIn_ln {E:TypeId} [UnI P T (.slice E)] (d:Nat) (w:World):(Op.equalIn (d+1) T (.slice none n c) (.slice none 0 0)).run P w=.ok true w:=by
 rw [Op.equalIn.eq_def];simp only [Sem.run_bind,run_un (P:=P) (T:=T),Result.andThen_ok];rfl
theorem eqIn_ls {E:TypeId} {a:Addr} [UnI P T (.slice E)] (d:Nat) (w:World):(Op.equalIn (d+1) T (.slice (some a) n c) (.slice none 0 0)).run P w=.ok false w:=by
 rw [Op.equalIn.eq_def];simp only [Sem.run_bind,run_un (P:=P) (T:=T),Result.andThen_ok];rfl
theorem ValP.sliNilT {E:TypeId} [UnI P T (.slice E)] (hx:e.ev x=some (.slice none n c)) (hy:e.ev y=some (.slice none 0 0)):ValP P e [] (.binOp .eql T x y ty) (.bool true) :=
 .bin hx hy (fun w=>guard_sli w) fun w=>by
  have:=eqIn_ln (P:=P) (T:=T) (n:=n) (c:=c) (Op.maxDepth - 1) w
  simp only [binOp,Op.equal,Sem.run_bind]
  rw [show Op.maxDepth=Op.maxDepth - 1+1 from rfl,this];rfl
theorem ValP.sliNilF {E:TypeId} {a:Addr} [UnI P T (.slice E)] (hx:e.ev x=some (.slice (some a) n c)) (hy:e.ev y=some (.slice none 0 0)):ValP P e [] (.binOp .eql T x y ty) (.bool false) :=
 .bin hx hy (fun w=>guard_sli w) fun w=>by
  have:=eqIn_ls (P:=P) (T:=T) (a:=a) (n:=n) (c:=c) (Op.maxDepth - 1) w
  simp only [binOp,Op.equal,Sem.run_bind]
  rw [show Op.maxDepth=Op.maxDepth - 1+1 from rfl,this];rfl
end sli
end Go.Proofs.YtpgdnfgjbhdbpaaGreatDoor.SL
namespace Go.Proofs.YtpgdnfgjbhdbpaaGreatDoor.SL
set_option linter.unusedVariables false
set_option linter.unusedSimpArgs false
open Go Go.RowKit
variable {P : Program} {e : Env}
section cut
variable {T E x y lo : Nat}
theorem ValP.cutFromO {T E:TypeId} {x lo:Operand} {b o n c k:Nat} {il:IntKind} {z:Value} (hU:UnI P T (.slice E)) (hI:InfoI P E 1 z) (hx:e.ev x=some (.slice (some ⟨b,o,none⟩) n c)) (hl:e.ev lo=some (.int il (k:Int))) (hk:k≤n) (hc:k < c):ValP P e [] (.slice T x (some lo) none none) (.slice (some ⟨b,o+k,none⟩) (n - k) (c - k)):=by
 have h:=ValP.cutFrom (P:=P) hU hI hx hl hk
 have e1:cutAt (some ⟨b,o,none⟩) k n c 1=.slice (some ⟨b,o+k,none⟩) (n - k) (c - k):=by
  unfold cutAt
  rw [if_neg (by omega)]
  simp [Addr.add]
 rwa [e1] at h
end cut
end Go.Proofs.YtpgdnfgjbhdbpaaGreatDoor.SL
namespace Go.Proofs.YtpgdnfgjbhdbpaaGreatDoor.SL
set_option linter.unusedVariables false
set_option linter.unusedSimpArgs false
open Go Go.RowKit
section num
variable {P : Program} {e : Env} {T ty : TypeId} {x y : Operand} {m n : Nat}
end num
end Go.Proofs.YtpgdnfgjbhdbpaaGreatDoor.SL
namespace Go.Proofs.YtpgdnfgjbhdbpaaGreatDoor.SL
set_option linter.unusedVariables false
set_option linter.unusedSimpArgs false
open Go Go.RowKit
def tsTag (ws rs:List Nat) (gs:Fs):Ts:=gs.map fun p=>(p.1,p.2,ws,rs)
theorem fsOf_tag {ws rs:List Nat} {gs:Fs}:fsOf (tsTag ws rs gs)=gs:=by
 simp only [fsOf,tsTag,List.map_map]
 conv=>rhs;rw [← List.map_id gs]
 rfl
section dw
variable {C : Cu} {ops : Array Oper} {Q : Post} {tl rest : List Oper} {e : Env} {ts : Ts} {μ : Mu} {k d : Nat} {t : TypeId} {pos : String} {af : Array Edge} {g : Option (Nat × Bool)}
end dw
end Go.Proofs.YtpgdnfgjbhdbpaaGreatDoor.SL
namespace Go.Proofs.YtpgdnfgjbhdbpaaGreatDoor.SL
set_option linter.unusedVariables false
set_option linter.unusedSimpArgs false
open Go Go.RowKit
abbrev Out:=Ending→Fs→Prop
def Out.plain (K:Out):Prop:=∀ fs,¬ K .outgrown fs
theorem thenP {K:List Deferred→Env→Fs→Prop} {Q:Post} {ch:List PanicEntry} {ds:List Deferred} {e:Env} {fs:Fs} (h:Q (.panic ch) ds e fs):thenQ K Q (.panic ch) ds e fs:=h
theorem blkP {id:Nat} {Q:Post} {ch:List PanicEntry} {ds:List Deferred} {e:Env} {fs:Fs} (h:Q (.panic ch) ds e fs):blkQ id Q (.panic ch) ds e fs:=h
section cp
variable {C : Cu} {ops : Array Oper} {Q : Post} {rest : List Oper} {e : Env} {fs : Fs} {d : Nat} {t : TypeId} {pos : String} {af : Array Edge}
theorem LW.callP {fo:Operand} {args:Array Operand} {tys:Array TypeId} {f:FuncId} {first cap:Array Value} {vs aas:List Value} {K:Out} (hd:Nat.blt d C.N=true)
  (hf:e.ev fo=some (.func (.func f) first cap)) (hF:FnI C.P f) (ha:ArgsOk e args.toList vs) (has:first.toList++vs++cap.toList=aas) (hpl:K.plain)
  (hc:∀ w,St C.w0 C.S fs w→Calls C.P f aas.toArray w (fun x w'=>∃ fs',K x fs'∧St C.w0 C.S fs' w'))
  (k:∀ v fs',K (.returned v) fs'→LW C ops Q rest ((d,v)::e) fs') (kp:∀ ch fs',K (.panicked ch) fs'→Q (.panic ch) C.ds e fs') :
  LW C ops Q (⟨some d,.call { callee:=.value fo,args:=args,argTypes:=tys },t,pos,af,none⟩::rest) e fs:=fun a w hs=>by
 refine wpListIn_take (wanted_none _ rfl _) ⟨fun _ _=>trivial,?_⟩
 have hrun:=CallP.fn (P:=C.P) (tys:=tys) hf ha a.eval w hs.env.Ev (some d) t pos af none
 rw [semAt_FR (fun c h=>by cases h),hrun]
 have e1:first++vs.toArray++cap=aas.toArray:=by rw [← has];apply Array.toList_inj.1;simp
 refine ⟨fun h=>(by cases h),CallsIn.mono (calls_FR (e1 ▸ hc w hs.st)) fun x w' hx=>?_⟩
 obtain ⟨fs',hK,hst⟩:=hx
 cases x with
 |returned v=>exact k v fs' hK _ _ ⟨hs.env.put hd,hst⟩
 |panicked ch=>exact ⟨C.ds,e,fs',kp ch fs' hK,⟨hs.env,hst⟩⟩
 |outgrown=>exact absurd hK (hpl fs')
theorem LW.panic {o:Option Nat} {x:Operand} {T:TypeId} {v:Value} (hx:e.ev x=some (.iface T v)) (h:Q (.panic [{ v:=.iface T v,recovered:=false }]) C.ds e fs) :
  LW C ops Q (⟨o,.panic x,t,pos,af,none⟩::rest) e fs:=fun a w hs=>by
 refine wpListIn_take (wanted_none _ rfl _) ⟨fun _ _=>trivial,?_⟩
 have hrun:(execOp a.eval ⟨o,.panic x,t,pos,af,none⟩).run C.P w=.halt (.panic (.iface T v)) w:=by
  have h0:(Instr.panic (.iface T v)).run C.P w=.halt (.panic (.iface T v)) w:=rfl
  simp [execOp,hs.env.ev hx,h0,Result.andThen]
 rw [semAt_FR (fun c h=>by cases h),hrun]
 exact ⟨C.ds,e,fs,h,hs⟩
theorem LW.defer {fo:Operand} {tys:Array TypeId} {f:FuncId} {cap:Array Value} (hr:C.r=none) (hf:e.ev fo=some (.func (.func f) #[] cap))
  (h:LW (C.at ({ target:=.fn (.func f) cap,args:=#[] }::C.ds)) ops Q rest e fs):LW C ops Q (⟨none,.defer { callee:=.value fo,args:=#[],argTypes:=tys },t,pos,af,none⟩::rest) e fs:=fun a w hs=>by
 refine wpListIn_take (wanted_none _ rfl _) ⟨fun _ _=>trivial,?_⟩
 have hrun:(execOp a.eval ⟨none,.defer { callee:=.value fo,args:=#[],argTypes:=tys },t,pos,af,none⟩).run C.P w=.ok (.defer { target:=.fn (.func f) cap,args:=#[] }) w:=by
  simp [execOp,resolve,Deferred.ofValue,hs.env.ev hf]
 have hro:(FR C.r).round=none:=hr
 rw [hro,Oper.semAt_none,hrun]
 exact h { a with defers:={ target:=.fn (.func f) cap,args:=#[] }::a.defers } w ⟨⟨hs.env.size,by rw [show a.defers=C.ds from hs.env.dfr];rfl,hs.env.get⟩,hs.st⟩
end cp
theorem leaves_shutP {P:Program} {w0:World} {S:List Nat} {fn:Func} {tmps:Array Value} {R:Ending→World→Prop} {ch:List PanicEntry} {ds:List Deferred} {fs fs':Fs} (h:Shut ds fs fs'):∀ w,St w0 S fs w →
  (∀ w',St w0 S fs' w'→R (.panicked ch) w')→LeavesInM (FR none) 0 P fn tmps R ds (.panicking ch) w:=by
 induction h with
 |nil=>intro w hw hR;exact hR w hw
 |cons h _ ih =>
  intro w hw hR
  refine ⟨(fun h=>by cases h),.inl ⟨_,_,rfl,run_takeDeferred (hw.own _ h.mem).2,?_⟩⟩
  exact ih _ (hw.set h) hR
def inP (C:Cu) (fn:Func) (K:Out):Post:=fun x ds e fs=>match x with
 |.ret=>∃ vs fs',Shut ds fs fs'∧ResL C e fs' fn.results.toList vs∧K (.returned (tup vs)) fs'
 |.normal=>∃ vs fs',Shut ds fs fs'∧ResL C e fs' fn.results.toList vs∧K (.returned (tup vs)) fs'
 |.panic ch=>∃ fs',Shut ds fs fs'∧K (.panicked ch) fs'
 |_=>False
theorem inPI {C:Cu} {fn:Func} {K:Out} {x:Exit} {ds:List Deferred} {e:Env} {fs fs':Fs} {rs:List ResultVar} {vs:List Value} {v:Value} (hx:x=.ret∨x=.normal) (hsh:Shut ds fs fs') (hr:fn.results.toList=rs) (h:ResL C e fs' rs vs) (hv:tup vs=v) (hK:K (.returned v) fs'):inP C fn K x ds e fs:=by
 subst hv
 subst hr
 rcases hx with rfl|rfl
 ·exact ⟨vs,fs',hsh,h,hK⟩
 ·exact ⟨vs,fs',hsh,h,hK⟩
theorem inPP {C:Cu} {fn:Func} {K:Out} {ch:List PanicEntry} {ds:List Deferred} {e:Env} {fs fs':Fs} (hsh:Shut ds fs fs') (hK:K (.panicked ch) fs'):inP C fn K (.panic ch) ds e fs:=⟨fs',hsh,hK⟩
theorem calls_inlineP {P:Program} {w0:World} {S:List Nat} {f:FuncId} {fn:Func} {c:Code} {args:List Value} {N:Nat} {K:Out} {fs:Fs} {w:World} (hf:P.funcs[f]?=some fn) (hb:fn.body=some c) (hN:fn.ntmps=N) (hsz:Nat.ble args.length N=true)
  (h:CW ⟨P,w0,S,N,[],none⟩ c (inP ⟨P,w0,S,N,[],none⟩ fn K) (Env.ofL args 0) fs) (hw:St w0 S fs w) :
  Calls P f args.toArray w (fun x w'=>∃ fs',K x fs'∧St w0 S fs' w'):=by
 have hs:Sat ⟨P,w0,S,N,[],none⟩ (Env.ofL args 0) fs { tmps:=args.toArray++Array.replicate (fn.ntmps - args.toArray.size) undef,defers:=[] } w:=by
  refine ⟨⟨by have:=Nat.le_of_ble_eq_true hsz;simp [hN];omega,rfl,fun t v ht=>?_⟩,hw⟩
  obtain ⟨_,h2⟩:=Env.ofL_get _ _ _ _ ht
  have h3:args[t]?=some v:=by simpa using h2
  have hlt:t < args.length:=(List.getElem?_eq_some_iff.1 h3).1
  show (args.toArray++Array.replicate (fn.ntmps - args.toArray.size) undef)[t]?=some v
  rw [Array.getElem?_append_left (by simpa using hlt)]
  simpa using h3
 refine (callsIn_wide (n:=0)).1 (callsIn_of_wp_marks (F:=FR none) hf hb trivial ?_)
 refine Code.wpIn_mono (fun x a w' h'=>?_) (h _ w hs)
 obtain ⟨ds,e,fs1,hq,s⟩:=h'
 have key:∀ vs fs',Shut ds fs1 fs'→ResL ⟨P,w0,S,N,[],none⟩ e fs' fn.results.toList vs→K (.returned (tup vs)) fs'→LeavesInM (FR none) 0 P fn a.tmps (fun x w'=>∃ fs',K x fs'∧St w0 S fs' w') a.defers .returning w':=by
  intro vs fs' hsh hr hK
  rw [show a.defers=ds from s.env.dfr]
  exact leaves_shut hsh w' s.st fun w2 hw2=>⟨tup vs,ResL.runS hr s.env hw2,fs',hK,hw2⟩
 cases x with
 |ret=>obtain ⟨vs,fs',h1,h2,h3⟩:=hq;exact key vs fs' h1 h2 h3
 |normal=>obtain ⟨vs,fs',h1,h2,h3⟩:=hq;exact key vs fs' h1 h2 h3
 |panic ch =>
  obtain ⟨fs',hsh,hK⟩:=hq
  show LeavesInM (FR none) 0 P fn a.tmps _ a.defers (.panicking ch) w'
  rw [show a.defers=ds from s.env.dfr]
  exact leaves_shutP hsh w' s.st fun w2 hw2=>⟨fs',hK,hw2⟩
 |_=>exact hq.elim
end Go.Proofs.YtpgdnfgjbhdbpaaGreatDoor.SL
namespace Go.Proofs.YtpgdnfgjbhdbpaaGreatDoor.SL
set_option linter.unusedVariables false
set_option linter.unusedSimpArgs false
open Go Go.RowKit
def recV:FrameMode→Value × FrameMode
 |.panicking ({ v,recovered:=false,goexit:=false }::older)=>(v,.panicking ({ v,recovered:=true }::older))
 |m=>(.nilIface,m)
theorem recV_ret:recV .returning=(.nilIface,.returning):=rfl
theorem recV_pan {v:Value} {older:List PanicEntry}:recV (.panicking ({ v:=v,recovered:=false }::older))=(v,.panicking ({ v:=v,recovered:=true }::older)):=rfl
section rc
variable {F : Fence} {n : Nat} {P : Program} {Q : Exit → Act → List Frame → World → Prop} {a : Act} {cs : List Frame} {w : World}
theorem frame_same {c₀:Frame} {u:FrameMode} (hu:c₀.mode=u):{ c₀ with mode:=u }=c₀:=by subst hu;rfl
theorem recover_run {d:Nat} {t:TypeId} {pos:String} {af:Array Edge} {tys:Array TypeId} (ρ:Operand→Value):(execOp ρ ⟨some d,.call { callee:=.builtin .recover,args:=#[],argTypes:=tys },t,pos,af,none⟩).run P w=.ok .recover w:=by
 simp [execOp,resolve,invoke]
 rfl
theorem recoverD_eq {c₀:Frame} {u:FrameMode} (hu:c₀.mode=u):(∃ v cs',recoverD (c₀::cs)=some (v,cs')∧v=(recV u).1∧cs'={ c₀ with mode:=(recV u).2 }::cs)∨(recoverD (c₀::cs)=none∧(recV u).1=.nilIface∧{ c₀ with mode:=(recV u).2 }::cs=c₀::cs):=by
 have e:recoverD (c₀::cs)=(match c₀.mode with
   |.panicking ({ v,recovered:=false,goexit:=false }::older)=>some (v,{ c₀ with mode:=.panicking ({ v,recovered:=true }::older) }::cs)
   |_=>none):=rfl
 rw [e,hu]
 have hc:{ c₀ with mode:=u }=c₀:=frame_same hu
 cases u with
 |run=>exact .inr ⟨rfl,rfl,congrArg (·::cs) hc⟩
 |returning=>exact .inr ⟨rfl,rfl,congrArg (·::cs) hc⟩
 |panicking chain =>
  cases chain with
  |nil=>exact .inr ⟨rfl,rfl,congrArg (·::cs) hc⟩
  |cons p older =>
   obtain ⟨v,r,g⟩:=p
   cases r with
   |true=>exact .inr ⟨rfl,rfl,congrArg (·::cs) hc⟩
   |false =>
    cases g with
    |true=>exact .inr ⟨rfl,rfl,congrArg (·::cs) hc⟩
    |false=>exact .inl ⟨_,_,rfl,rfl,rfl⟩
theorem wpSIn_recover {id d:Nat} {t:TypeId} {pos:String} {af:Array Edge} {tys:Array TypeId} {rest:List Oper} {c₀:Frame} {u:FrameMode} (hF:∀ f,F.fn f) (hu:c₀.mode=u)
  (h:wpOpsSIn F n P (⟨some d,.call { callee:=.builtin .recover,args:=#[],argTypes:=tys },t,pos,af,none⟩::rest).toArray Q ((List.range (rest.length+1)).drop 1) (a.put (some d) (recV u).1) ({ c₀ with mode:=(recV u).2 }::cs) w) :
  (Code.region id (⟨some d,.call { callee:=.builtin .recover,args:=#[],argTypes:=tys },t,pos,af,none⟩::rest).toArray false).wpSIn F n P Q a (c₀::cs) w:=by
 refine wpSIn_region ?_
 rw [show (⟨some d,.call { callee:=.builtin .recover,args:=#[],argTypes:=tys },t,pos,af,none⟩::rest:List Oper).toArray.size=rest.length+1 by simp]
 have hr:List.range (rest.length+1)=0::(List.range (rest.length+1)).drop 1:=by
  rw [List.range_succ_eq_map];rfl
 rw [hr]
 unfold wpOpsSIn
 simp only [List.getElem?_toArray,List.getElem?_cons_zero]
 refine ⟨fun f _=>hF f,?_⟩
 rw [if_pos (wanted_none _ rfl _),recover_run]
 dsimp only
 rcases recoverD_eq (cs:=cs) hu with ⟨v,cs',h1,rfl,rfl⟩|⟨h1,h2,h3⟩
 ·rw [h1];exact h
 ·rw [h1];rw [h2,h3] at h;exact h
end rc
def inD (C:Cu) (fn:Func) (K:Out):Post:=fun x ds e fs=>ds=[]∧match x with
 |.ret=>∃ vs,ResL C e fs fn.results.toList vs∧K (.returned (tup vs)) fs
 |.normal=>∃ vs,ResL C e fs fn.results.toList vs∧K (.returned (tup vs)) fs
 |.panic ch=>K (.panicked ch) fs
 |_=>False
theorem inDI {C:Cu} {fn:Func} {K:Out} {x:Exit} {e:Env} {fs:Fs} {rs:List ResultVar} {vs:List Value} {v:Value} (hx:x=.ret∨x=.normal) (hr:fn.results.toList=rs) (h:ResL C e fs rs vs) (hv:tup vs=v) (hK:K (.returned v) fs):inD C fn K x [] e fs:=by
 subst hv
 subst hr
 rcases hx with rfl|rfl
 ·exact ⟨rfl,vs,h,hK⟩
 ·exact ⟨rfl,vs,h,hK⟩
def Rec1 (P:Program) (c1:Code) (N:Nat) (e0 e1:Env) (u:FrameMode):Prop:=∀ (Q:Exit→Act→List Frame→World→Prop) (n:Nat) (a:Act) (c₀:Frame) (cs:List Frame) (w:World),c₀.mode=u→EnvOk N [] e0 a→(∀ a',EnvOk N [] e1 a'→Q .normal a' ({ c₀ with mode:=(recV u).2 }::cs) w)→c1.wpSIn (FR none) n P Q a (c₀::cs) w
theorem Rec1.one {P:Program} {id d N:Nat} {e0:Env} {t:TypeId} {pos:String} {af:Array Edge} {tys:Array TypeId} {u:FrameMode} (hd:Nat.blt d N=true) :
  Rec1 P (.region id #[⟨some d,.call { callee:=.builtin .recover,args:=#[],argTypes:=tys },t,pos,af,none⟩] false) N e0 ((d,(recV u).1)::e0) u :=
 fun Q n a c₀ cs w hu ha h=>wpSIn_recover (rest:=[]) (fun _=>trivial) hu (h _ (ha.put hd))
theorem Rec1.two {P:Program} {id d d2 N:Nat} {e0:Env} {t t2:TypeId} {pos pos2:String} {af af2:Array Edge} {tys:Array TypeId} {u:FrameMode} (hd:Nat.blt d N=true) (hd2:Nat.blt d2 N=true) :
  Rec1 P (.region id #[⟨some d,.call { callee:=.builtin .recover,args:=#[],argTypes:=tys },t,pos,af,none⟩,⟨some d2,.assign (.tmp d),t2,pos2,af2,none⟩] false) N e0 ((d2,(recV u).1)::(d,(recV u).1)::e0) u :=
 fun Q n a c₀ cs w hu ha h=>by
  refine wpSIn_recover (rest:=[_]) (fun _=>trivial) hu ?_
  have h1:=ha.put (v:=(recV u).1) hd
  show wpOpsSIn (FR none) n P _ Q [1] _ _ w
  unfold wpOpsSIn
  simp only [List.getElem?_toArray,List.getElem?_cons_succ,List.getElem?_cons_zero]
  refine ⟨fun f _=>trivial,?_⟩
  rw [if_pos (wanted_none _ rfl _)]
  have hv:(a.put (some d) (recV u).1).eval (.tmp d)=(recV u).1:=h1.ev (by simp [Env.ev,Env.get])
  have hrun:(execOp (a.put (some d) (recV u).1).eval ⟨some d2,.assign (.tmp d),t2,pos2,af2,none⟩).run P w=.ok (.value (recV u).1) w:=by
   simp [execOp,hv]
  rw [hrun]
  exact h _ (h1.put hd2)
theorem callsD_cw {P:Program} {w0:World} {S:List Nat} {f:FuncId} {fn:Func} {c1 rest:Code} {args:List Value} {N:Nat} {K:Out} {fs:Fs} {w:World} {u:FrameMode} (e1:Env) (hf:P.funcs[f]?=some fn) (hb:fn.body=some (.seq c1 rest)) (hN:fn.ntmps=N) (hsz:Nat.ble args.length N=true)
  (h1:Rec1 P c1 N (Env.ofL args 0) e1 u) (h:CW ⟨P,w0,S,N,[],none⟩ rest (inD ⟨P,w0,S,N,[],none⟩ fn K) e1 fs) (hw:St w0 S fs w) :
  CallsDIn (FR none) 0 P f args.toArray u w (fun e u' w'=>u'=(recV u).2∧∃ fs',K e fs'∧St w0 S fs' w'):=by
 have ha:EnvOk N [] (Env.ofL args 0) { tmps:=args.toArray++Array.replicate (fn.ntmps - args.toArray.size) undef,defers:=[] }:=by
  refine ⟨by have:=Nat.le_of_ble_eq_true hsz;simp [hN];omega,rfl,fun t v ht=>?_⟩
  obtain ⟨_,h2⟩:=Env.ofL_get _ _ _ _ ht
  have h3:args[t]?=some v:=by simpa using h2
  have hlt:t < args.length:=(List.getElem?_eq_some_iff.1 h3).1
  show (args.toArray++Array.replicate (fn.ntmps - args.toArray.size) undef)[t]?=some v
  rw [Array.getElem?_append_left (by simpa using hlt)]
  simpa using h3
 refine callsDIn_of_wpSIn hf hb trivial fun c₀ cs hu=>?_
 refine wpSIn_seq (h1 _ 0 _ c₀ cs w hu ha fun a' ha'=>?_)
 show rest.wpSIn (FR none) 0 P _ a' _ w
 refine wpSIn_of_wpIn rfl ?_
 refine Code.wpIn_mono (fun x a2 w2 h'=>?_) (h a' w ⟨ha',hw⟩)
 obtain ⟨ds,e,fs2,⟨rfl,hq⟩,s⟩:=h'
 have hd:a2.defers=[]:=s.env.dfr
 have hm:({ c₀ with mode:=(recV u).2 }::cs:List Frame)={ c₀ with mode:=(recV u).2 }::cs:=rfl
 have key:∀ vs,ResL ⟨P,w0,S,N,[],none⟩ e fs2 fn.results.toList vs→K (.returned (tup vs)) fs2→(a2.defers=[]∧∃ u',({ c₀ with mode:=(recV u).2 }::cs:List Frame)={ c₀ with mode:=u' }::cs∧∃ v,(results fn a2.tmps).run P w2=.ok v w2∧(u'=(recV u).2∧∃ fs',K (.returned v) fs'∧St w0 S fs' w2)):=fun vs hr hK =>
  ⟨hd,_,rfl,tup vs,ResL.run hr s,rfl,fs2,hK,s.st⟩
 cases x with
 |ret=>obtain ⟨vs,hr,hK⟩:=hq;exact key vs hr hK
 |normal=>obtain ⟨vs,hr,hK⟩:=hq;exact key vs hr hK
 |panic ch=>exact ⟨hd,_,rfl,rfl,fs2,hq,s.st⟩
 |_=>exact hq.elim
abbrev clo (f:FuncId) (cap:Array Value):Deferred:={ target:=.fn (.func f) cap,args:=#[] }
def outD (C:Cu) (fn:Func) (dd:Deferred) (R:Ending→World→Prop):Post:=fun x ds e fs=>ds=[dd]∧match x with
 |.ret=>∀ a w,Sat (C.at [dd]) e fs a w→LeavesInM (FR none) 0 C.P fn a.tmps R [dd] .returning w
 |.normal=>∀ a w,Sat (C.at [dd]) e fs a w→LeavesInM (FR none) 0 C.P fn a.tmps R [dd] .returning w
 |.panic ch=>∀ a w,Sat (C.at [dd]) e fs a w→LeavesInM (FR none) 0 C.P fn a.tmps R [dd] (.panicking ch) w
 |_=>False
theorem calls_inlineD {P:Program} {w0:World} {S:List Nat} {f:FuncId} {fn:Func} {c:Code} {args:List Value} {N:Nat} {R:Ending→World→Prop} {fs:Fs} {w:World} (hf:P.funcs[f]?=some fn) (hb:fn.body=some c) (hN:fn.ntmps=N) (hsz:Nat.ble args.length N=true)
  (h:CW ⟨P,w0,S,N,[],none⟩ c (fun x ds e fs=>∃ dd,outD ⟨P,w0,S,N,[],none⟩ fn dd R x ds e fs) (Env.ofL args 0) fs) (hw:St w0 S fs w):Calls P f args.toArray w R:=by
 have hs:Sat ⟨P,w0,S,N,[],none⟩ (Env.ofL args 0) fs { tmps:=args.toArray++Array.replicate (fn.ntmps - args.toArray.size) undef,defers:=[] } w:=by
  refine ⟨⟨by have:=Nat.le_of_ble_eq_true hsz;simp [hN];omega,rfl,fun t v ht=>?_⟩,hw⟩
  obtain ⟨_,h2⟩:=Env.ofL_get _ _ _ _ ht
  have h3:args[t]?=some v:=by simpa using h2
  have hlt:t < args.length:=(List.getElem?_eq_some_iff.1 h3).1
  show (args.toArray++Array.replicate (fn.ntmps - args.toArray.size) undef)[t]?=some v
  rw [Array.getElem?_append_left (by simpa using hlt)]
  simpa using h3
 refine (callsIn_wide (n:=0)).1 (callsIn_of_wp_marks (F:=FR none) hf hb trivial ?_)
 refine Code.wpIn_mono (fun x a w' h'=>?_) (h _ w hs)
 obtain ⟨ds,e,fs1,⟨dd,rfl,hq⟩,s⟩:=h'
 have hd:a.defers=[dd]:=s.env.dfr
 cases x with
 |ret=>show LeavesInM (FR none) 0 P fn a.tmps R a.defers .returning w';rw [hd];exact hq a w' s
 |normal=>show LeavesInM (FR none) 0 P fn a.tmps R a.defers .returning w';rw [hd];exact hq a w' s
 |panic ch=>show LeavesInM (FR none) 0 P fn a.tmps R a.defers (.panicking ch) w';rw [hd];exact hq a w' s
 |_=>exact hq.elim
theorem leaves_clo {P:Program} {w0:World} {S:List Nat} {fn:Func} {tmps:Array Value} {R:Ending→World→Prop} {f:FuncId} {cap:Array Value} {K:Out} {u:FrameMode} {w:World} (hF:FnI P f) (hu:u ≠ .run)
  (hc:CallsDIn (FR none) 0 P f cap u w (fun e u' w'=>u'=(recV u).2∧∃ fs',K e fs'∧St w0 S fs' w'))
  (hK:K.plain) (hret:∀ v fs' w',K (.returned v) fs'→St w0 S fs' w'→LeavesIn (FR none) 0 P fn tmps R [] (settle (recV u).2) w')
  (hpan:∀ ch fs' w',K (.panicked ch) fs'→St w0 S fs' w'→LeavesIn (FR none) 0 P fn tmps R [] (raised (recV u).2 ch) w'):LeavesInM (FR none) 0 P fn tmps R [clo f cap] u w:=by
 refine ⟨hu,.inr ⟨(fun h=>by cases h),.func f,cap,f,cap,rfl,?_,(fun _ _=>trivial),?_⟩⟩
 ·have:=hF.run cap w
  simpa [invoke] using this
 ·refine CallsDIn.mono hc fun e u' w' ⟨hu',fs',hk,hst⟩=>?_
  subst hu'
  cases e with
  |returned v=>exact hret v fs' w' hk hst
  |panicked ch=>exact hpan ch fs' w' hk hst
  |outgrown=>exact absurd hk (hK fs')
end Go.Proofs.YtpgdnfgjbhdbpaaGreatDoor.SL
namespace Go.Proofs.YtpgdnfgjbhdbpaaGreatDoor.SL
set_option linter.unusedVariables false
set_option linter.unusedSimpArgs false
open Go Go.RowKit
section iv
variable {P : Program} {e : Env} {T ty : TypeId} {x y : Operand}
theorem ValP.mkIface {v:Value} (hc:P.concrete T=true) (hx:e.ev x=some v):ValP P e [] (.makeInterface T x) (.iface T v):=fun ρ w hρ _ d t pos af g=>by
 simp [execOp,hρ x v hx,run_makeInterface w T v hc]
theorem run_assertHit {v:Value} {X:TypeId} (hc:P.concrete T=true) (w:World):(Instr.typeAssert (.iface T v) X T true).run P w=.ok (.tuple #[v,.bool true]) w:=by
 unfold Program.concrete at hc
 cases hd:P.underlying T with
 |none=>simp [hd] at hc
 |some d=>cases d<;>first|(simp [hd] at hc;done)|simp [Instr.typeAssert,run_underlying hd]
theorem ValP.assertHit {v:Value} {X:TypeId} (hc:P.concrete T=true) (hx:e.ev x=some (.iface T v)):ValP P e [] (.typeAssert x X T true) (.tuple #[v,.bool true]):=fun ρ w hρ _ d t pos af g=>by
 simp [execOp,hρ x _ hx,run_assertHit hc]
theorem run_assertNil {n:Nat} {z:Value} {X:TypeId} [InfoI P T n z] (hc:P.concrete T=true) (w:World):(Instr.typeAssert .nilIface X T true).run P w=.ok (.tuple #[z,.bool false]) w:=by
 unfold Program.concrete at hc
 cases hd:P.underlying T with
 |none=>simp [hd] at hc
 |some d=>cases d<;>first|(simp [hd] at hc;done)|simp [Instr.typeAssert,run_underlying hd,run_zero]
theorem ValP.assertNil {n:Nat} {z:Value} {X:TypeId} (hI:InfoI P T n z) (hc:P.concrete T=true) (hx:e.ev x=some .nilIface):ValP P e [] (.typeAssert x X T true) (.tuple #[z,.bool false]):=fun ρ w hρ _ d t pos af g=>by
 simp [execOp,hρ x _ hx,run_assertNil hc]
theorem ValP.eqNilT {U:TypeId} (hI:P.underlying T=some (.interface (P.methodsAt T))) (hx:e.ev x=some .nilIface):ValP P e [] (.binOp .eql T x (.const .nilIface) ty) (.bool true) :=
 .bin hx rfl (fun w=>by rw [Go.eqGuard_nil_constR];rfl) fun w=>by
  simp only [binOp,Sem.run_bind,run_equal_nil_nil w T hI];rfl
theorem ValP.eqNilF {U:TypeId} {v:Value} (hI:P.underlying T=some (.interface (P.methodsAt T))) (hx:e.ev x=some (.iface U v)):ValP P e [] (.binOp .eql T x (.const .nilIface) ty) (.bool false) :=
 .bin hx rfl (fun w=>by first|rfl|(unfold eqGuard;rfl)) fun w=>by
  simp only [binOp,Sem.run_bind,run_equal_held_nil w T U v hI];rfl
end iv
end Go.Proofs.YtpgdnfgjbhdbpaaGreatDoor.SL
namespace Go.Proofs.YtpgdnfgjbhdbpaaGreatDoor.SL
set_option linter.unusedVariables false
set_option linter.unusedSimpArgs false
open Go Go.RowKit
section run
variable {P : Program} {w : World}
theorem zero_cells {z:Value} (hz:z.cells=#[z]) (n:Nat):Builtin.zeroCells z.cells n=(List.replicate n z).toArray:=by
 apply Array.ext_getElem?
 intro j
 rw [hz]
 by_cases h:j < n
 ·simp [Builtin.zeroCells,h,Nat.mod_one]
 ·simp [Builtin.zeroCells,h]
theorem run_appz_nil (t u ty e:TypeId) (i:TypeInfo) (z:Value) (ht:P.underlying t=some (.slice e)) (hu:P.underlying u=some (.int .i64)) (hi:P.info? e=some i) (hz:i.zero=some z) (hs:i.size=1)
  (n:Nat) (h0:0 < n) (h63:(n:Int)≤9223372036854775807) (h48:n * i.bytes≤281474976710656) :
  (Builtin.append_ #[t,u] ty #[.slice none 0 0,.int .i64 (n:Int)]).run P w =
   .ok (.slice (some ⟨w.heap.size,0,none⟩) n (grownCap w n 0 e)) (w.drew.alloc (.cells (Builtin.zeroCells z.cells n++Builtin.zeroCells z.cells (grownCap w n 0 e - n)) e)):=by
 have hn:n ≠ 0:=by omega
 have h63':¬ (9223372036854775807 < (n:Int)):=by omega
 have hw:IntKind.i64.wrap (n:Int)=(n:Int):=wrapI _ (by omega) (by omega)
 have hn0:¬ ((n:Int) < 0):=by omega
 have h48i:¬ (281474976710656 < (n:Int) * (i.bytes:Int)):=by rw [← Int.natCast_mul];omega
 have h48':¬ (281474976710656 < Builtin.nextslicecap n 0 * i.bytes):=by rw [nextslicecap_zero h0];omega
 simp [Builtin.append_,run_underlying ht,run_underlying hu,sizeOf,typeInfo,zeroValue,hi,hz,asInt,asIntOf,hw,hn0,h48i,hn,h63',h48',hs,Question.forced,run_firstCells_none,newRow,grownCap]
theorem run_appz_room (t u ty e:TypeId) (i:TypeInfo) (z:Value) (ht:P.underlying t=some (.slice e)) (hu:P.underlying u=some (.int .i64)) (hi:P.info? e=some i) (hz:i.zero=some z) (hs:i.size=1) (hc:z.cells=#[z]) (h1:z.oneCell'=true)
  (g sLen sCap:Nat) (cur:Array Value) (hg:w.heap[g]?=some (.cells cur e (0,0))) (m:Nat) (h63:(m:Int)≤9223372036854775807) (h48:m * i.bytes≤281474976710656)
  (hroom:sLen+m≤sCap) (hfit:sLen+m≤cur.size) :
  (Builtin.append_ #[t,u] ty #[.slice (some ⟨g,0,none⟩) sLen sCap,.int .i64 (m:Int)]).run P w =
   .ok (.slice (some ⟨g,0,none⟩) (sLen+m) sCap) (w.setRow g (cur.toList.take sLen++List.replicate m z++cur.toList.drop (sLen+m)).toArray):=by
 have hw:IntKind.i64.wrap (m:Int)=(m:Int):=wrapI _ (by omega) (by omega)
 have hn0:¬ ((m:Int) < 0):=by omega
 have h48i:¬ (281474976710656 < (m:Int) * (i.bytes:Int)):=by rw [← Int.natCast_mul];omega
 have hst:=run_storeCells_at P g sLen e (List.replicate m z) 0 cur w hg (by simpa using hfit) (fun v hv=>by rw [List.eq_of_mem_replicate hv];exact h1)
 simp only [Nat.add_zero,List.length_replicate] at hst
 rcases Nat.eq_zero_or_pos m with h0|h0
 ·subst h0
  simp only [List.replicate_zero] at hst ⊢
  have hw0:IntKind.i64.wrap 0=0:=by decide
  have hr0:sLen≤sCap:=by omega
  simp [Builtin.append_,run_underlying ht,run_underlying hu,sizeOf,typeInfo,hi,asInt,asIntOf,hs,hr0,hw0,Addr.add_lit,hst]
 ·have hm:m ≠ 0:=by omega
  simp [Builtin.append_,run_underlying ht,run_underlying hu,sizeOf,typeInfo,zeroValue,hi,hz,asInt,asIntOf,hw,hn0,h48i,hs,hm,hroom,zero_cells hc,Addr.add_lit,hst]
theorem run_appz_grow (t u ty e:TypeId) (i:TypeInfo) (z:Value) (ht:P.underlying t=some (.slice e)) (hu:P.underlying u=some (.int .i64)) (hi:P.info? e=some i) (hz:i.zero=some z) (hs:i.size=1)
  (b:Addr) (sLen sCap:Nat) (olds:List Value) (hlo:olds.length=sLen) (holds:∀ j v,olds[j]?=some v→w.cell? (b.add j)=some v)
  (n:Nat) (h0:0 < n) (hg:sCap < sLen+n) (h63:((sLen+n:Nat):Int)≤9223372036854775807) (h48:n * i.bytes≤281474976710656) (hfit:Builtin.nextslicecap (sLen+n) sCap * i.bytes≤281474976710656) :
  (Builtin.append_ #[t,u] ty #[.slice (some b) sLen sCap,.int .i64 (n:Int)]).run P w =
   .ok (.slice (some ⟨w.heap.size,0,none⟩) (sLen+n) (grownCap w (sLen+n) sCap e))
    (w.drew.alloc (.cells (olds.toArray++Builtin.zeroCells z.cells n++Builtin.zeroCells z.cells (grownCap w (sLen+n) sCap e - (sLen+n))) e)):=by
 have hn:¬ (sLen+n≤sCap):=by omega
 have hn':n ≠ 0:=by omega
 have hw:IntKind.i64.wrap (n:Int)=(n:Int):=wrapI _ (by omega) (by omega)
 have hn0:¬ ((n:Int) < 0):=by omega
 have h48i:¬ (281474976710656 < (n:Int) * (i.bytes:Int)):=by rw [← Int.natCast_mul];omega
 have h63':¬ (9223372036854775807 < ((sLen:Int)+(n:Int))):=by omega
 have h48':¬ (281474976710656 < Builtin.nextslicecap (sLen+n) sCap * i.bytes):=by omega
 have hfo:=run_firstCells_some (P:=P) w.drew 1 sLen b sLen sCap olds (by omega) (by simpa using holds)
 simp [Builtin.append_,run_underlying ht,run_underlying hu,sizeOf,typeInfo,zeroValue,hi,hz,asInt,asIntOf,hw,hn0,h48i,hs,hn',hn,h63',h48',Question.forced,hfo,newRow,grownCap]
end run
theorem row_appz {P:Program} {T U E ty:TypeId} {i:TypeInfo} {z:Value} (ht:P.underlying T=some (.slice E)) (hu:P.underlying U=some (.int .i64)) (hi:P.info? E=some i) (hz:i.zero=some z) (hsz:i.size=1) (hzc:z.cells=#[z]) (h1:z.oneCell'=true)
  {v:Value} {n:Nat} {xs:List Value} {seg pre post:Fs} {w0:World} {S:List Nat} {w:World} (h:IsRow E 1 v n xs seg) (hs:St w0 S (pre++(seg++post)) w)
  (m:Nat) (h63:n+m≤maxLen) (hbytes:(n+m) * i.bytes≤140737488355328) :
  ∃ v' seg' w',(Builtin.append_ #[T,U] ty #[v,.int .i64 (m:Int)]).run P w=.ok v' w'∧IsRow E 1 v' (n+m) (xs++List.replicate m z) seg'∧St w0 S (pre++(seg'++post)) w'∧w.heap.size≤w'.heap.size ∧
   (∀ b,b < w.heap.size→b ∉ seg'.map (·.1)→w'.heap[b]?=w.heap[b]?)∧(∀ q∈seg',w.heap.size≤q.1∨q.1∈seg.map (·.1)):=by
 have h63':n+m≤9223372036854775807:=by simp only [maxLen] at h63;omega
 have hmb:m * i.bytes≤(n+m) * i.bytes:=Nat.mul_le_mul_right _ (by omega)
 have fresh:∀ (o:Obj),Bel w0.heap.size S w0 (w.drew.alloc o):=fun o=>(hs.bel.drew).alloc (by have:=hs.bel.size;simpa [World.drew] using this) o
 have alike:∀ (o:Obj) k,k < w.heap.size→(w.drew.alloc o).heap[k]?=w.heap[k]?:=fun o k hk=>Below.heap_alloc w.drew o k hk
 have cells:∀ (old:Nat) (ys:List Value),ys.length=n→((ys.toArray++Builtin.zeroCells z.cells m++Builtin.zeroCells z.cells (grownCap w (n+m) old E - (n+m))).size=grownCap w (n+m) old E * 1) ∧
   (ys.toArray++Builtin.zeroCells z.cells m++Builtin.zeroCells z.cells (grownCap w (n+m) old E - (n+m))).toList.take ((n+m) * 1)=ys++List.replicate m z:=fun old ys hys=>by
  have hge:=grownCap_ge w (n+m) old E
  rw [zero_cells hzc,zero_cells hzc]
  constructor
  ·simp only [Array.size_append,List.size_toArray,List.length_replicate,hys]
   omega
  ·have hlen:(ys++List.replicate m z).length=(n+m) * 1:=by rw [List.length_append,hys,List.length_replicate];omega
   simp only [Array.toList_append]
   rw [← hlen]
   exact List.take_left
 cases h with
 |nil =>
  rcases Nat.eq_zero_or_pos m with h0|h0
  ·subst h0
   refine ⟨.slice none 0 0,[],w,?_,.nil,hs,Nat.le_refl _,fun _ _ _=>rfl,fun q hq=>by cases hq⟩
   have hw0:IntKind.i64.wrap 0=0:=by decide
   simp [Builtin.append_,run_underlying ht,run_underlying hu,sizeOf,typeInfo,hi,asInt,asIntOf,hsz,hw0]
  ·simp only [Nat.zero_add] at *
   have hr:=run_appz_nil (P:=P) (w:=w) T U ty E i z ht hu hi hz hsz m h0 (by omega) (by omega)
   obtain ⟨c1,c2⟩:=cells 0 [] (by simp)
   simp only [List.nil_append,Array.empty_append] at c1 c2
   refine ⟨_,[(w.heap.size,.cells (Builtin.zeroCells z.cells m++Builtin.zeroCells z.cells (grownCap w m 0 E - m)) E (0,0))],_,hr,.own (grownCap_ge w m 0 E) (grownCap_le_maxLen w m 0 E h63) c1 c2 (by simp),?_,?_,fun b hb _=>alike _ b hb,fun q hq=>?_⟩
   ·exact St.lay (w:=w) hs (fresh _) (World.alloc_heap_new w.drew _) (Nat.le_refl _) (alike _)
   ·rw [World.size_alloc];exact Nat.le_succ _
   ·obtain rfl:q=_:=by simpa using hq
    exact .inl (Nat.le_refl _)
 |@own g _ cap cur _ hn hmx hc htk hlx =>
  obtain ⟨hg1,hg2⟩:=hs.own (g,.cells cur E (0,0)) (List.mem_append_right _ (by simp))
  by_cases hroom:n+m≤cap
  ·have hfit:n+m≤cur.size:=by omega
   have hr:=run_appz_room (P:=P) (w:=w) T U ty E i z ht hu hi hz hsz hzc h1 g n cap cur hg2 m (by omega) (by omega) hroom hfit
   refine ⟨_,[(g,.cells (cur.toList.take n++List.replicate m z++cur.toList.drop (n+m)).toArray E (0,0))],_,hr,.own hroom hmx ?_ ?_ (by rw [List.length_append,hlx,List.length_replicate];omega),?_,?_,fun b hb hk=>?_,fun q hq=>?_⟩
   ·simp only [List.size_toArray,List.length_append,List.length_take,List.length_drop,Array.length_toList,List.length_replicate]
    omega
   ·rw [Nat.mul_one] at htk
    rw [htk,← show (xs++List.replicate m z).length=(n+m) * 1 by rw [List.length_append,hlx,List.length_replicate];omega]
    exact List.take_left
   ·refine St.swap (w:=w) hs (hs.bel.trans ⟨rfl,rfl,rfl,by simp,fun k hk hS=>setRow_other w g k _ (fun e=>?_)⟩) (setRow_heap w g cur _ E _ hg2) hg1 (.inl rfl) (fun k _ hk=>setRow_other w g k _ hk)
    subst e
    rcases hg1 with hg1|hg1
    ·exact absurd hk (by have:w0.heap.size≤k:=hg1;omega)
    ·exact hS hg1
   ·simp
   ·exact setRow_other w g b _ (fun e=>hk (by simp [e]))
   ·obtain rfl:q=_:=by simpa using hq
    exact .inr (by simp)
  ·have hlx':xs.length=n:=by omega
   have holds:∀ j u,xs[j]?=some u→w.cell? ((⟨g,0,none⟩:Addr).add j)=some u:=fun j u hu=>by
    rw [addr_add,Nat.zero_add,cell_of hg2]
    rw [← htk,List.getElem?_take] at hu
    split at hu
    ·simpa using hu
    ·cases hu
   have hr:=run_appz_grow (P:=P) (w:=w) T U ty E i z ht hu hi hz hsz ⟨g,0,none⟩ n cap xs hlx' holds m (by omega) (by omega) (by omega) (by omega) (growslice_fits (by omega) hbytes)
   obtain ⟨c1,c2⟩:=cells cap xs hlx'
   refine ⟨_,[(w.heap.size,.cells (xs.toArray++Builtin.zeroCells z.cells m++Builtin.zeroCells z.cells (grownCap w (n+m) cap E - (n+m))) E (0,0))],_,hr,.own (grownCap_ge w (n+m) cap E) (grownCap_le_maxLen w (n+m) cap E h63) c1 c2 (by rw [List.length_append,hlx',List.length_replicate];omega),?_,?_,fun b hb _=>alike _ b hb,fun q hq=>?_⟩
   ·exact St.swap (w:=w) hs (fresh _) (World.alloc_heap_new w.drew _) (.inl hs.bel.size) (.inr (Nat.le_refl _)) (fun k hk _=>alike _ k hk)
   ·rw [World.size_alloc];exact Nat.le_succ _
   ·obtain rfl:q=_:=by simpa using hq
    exact .inl (Nat.le_refl _)
section lw
variable {C : Cu} {ops : Array Oper} {Q : Post} {rest : List Oper} {e : Env} {fs : Fs} {d : Nat} {t : TypeId} {pos : String} {af : Array Edge}
theorem LW.appendZ {s x:Operand} {tys:Array TypeId} {T U E bytes:TypeId} {z v:Value} {n m:Nat} {xs:List Value} {seg pre post:Fs} (hd:Nat.blt d C.N=true) (hT:tys=#[T,U]) (hU:UnI C.P T (.slice E)) (hU2:UnI C.P U (.int .i64)) (hI:InfoI C.P E 1 z) (hB:BytI C.P E bytes)
  (hz:z.cells=#[z]) (h1:z.oneCell'=true) (hs:e.ev s=some v) (hx:e.ev x=some (.int .i64 (m:Int))) (hseg:AtSeg fs pre seg post) (hrow:IsRow E 1 v n xs seg) (h63:n+m≤maxLen) (hb:(n+m) * bytes≤140737488355328)
  (k:∀ v' seg',IsRow E 1 v' (n+m) (xs++List.replicate m z) seg'→∃ fs',AtSeg fs' pre seg' post∧LW C ops Q rest ((d,v')::e) fs') :
  LW C ops Q (⟨some d,.call { callee:=.builtin .append,args:=#[s,x],argTypes:=tys },t,pos,af,none⟩::rest) e fs:=fun a w hsat=>by
 subst hT
 obtain ⟨i,i1,i2,i3,i4⟩:=info_all (P:=C.P) (T:=E)
 have hst:=hsat.st
 rw [hseg.eq] at hst
 obtain ⟨v',seg',w',hr,hrow',hw',_⟩:=row_appz (P:=C.P) (ty:=t) hU.un hU2.un i1 i3 i2 hz h1 hrow hst m h63 (by rw [i4];exact hb)
 obtain ⟨fs',hat',hK⟩:=k v' seg' hrow'
 have hrun:(execOp a.eval ⟨some d,.call { callee:=.builtin .append,args:=#[s,x],argTypes:=#[T,U] },t,pos,af,none⟩).run C.P w=.ok (.value v') w':=by
  simp [execOp,resolve,invoke,builtin,hsat.env.ev hs,hsat.env.ev hx,hr]
 refine wpListIn_take (wanted_none _ rfl _) ⟨fun _ _=>trivial,?_⟩
 rw [semAt_FR (fun c h=>by cases h),hrun]
 exact hK _ _ ⟨hsat.env.put hd,by rw [hat'.eq];exact hw'⟩
end lw
section dw
variable {C : Cu} {ops : Array Oper} {Q : Post} {tl rest : List Oper} {e : Env} {ts : Ts} {μ : Mu} {k d : Nat} {t : TypeId} {pos : String} {af : Array Edge} {g : Option (Nat × Bool)}
end dw
end Go.Proofs.YtpgdnfgjbhdbpaaGreatDoor.SL
namespace Go.Proofs.YtpgdnfgjbhdbpaaGreatDoor
open Go Go.RowKit
section
open Go Go.RowKit SL
abbrev zA := @PartsOk.cons
abbrev zB := @PartsOk.nil
abbrev zC := @WantT.none
abbrev zD := @ResL.cons
abbrev zF := @ResL.nil
abbrev zG := @Res.tmp
abbrev zH := @Res.cell
abbrev zI := @CW.seq
abbrev zJ := @CW.skip
abbrev zK := @CW.ret
abbrev zL := @CW.region
abbrev zM := @CW.block
abbrev zN := @ancB_nil
abbrev zO := @TRead.tail
abbrev zP := @TRead.head
abbrev zQ := @TRead.app
abbrev zR := @LW.store
abbrev zS := @LW.callE
abbrev zT := @LW.boxA
abbrev zU := @LW.allocA
abbrev zV := @LW.nil
abbrev zW := @ValP.buildT
abbrev zX := @FsAt.tail
abbrev zY := @FsAt.head
abbrev zZ := @FsAt.app
abbrev qA := @SetAt.head
abbrev qB := @SetAt.tail
abbrev qC := @SetAt.app
abbrev qD := @DW.loadO
abbrev qE := @Known.at
abbrev qF := @Rd.whole
abbrev qG := @List.setIfInBounds_toArray
abbrev qH := @List.getElem?_cons_zero
abbrev qI := @List.getElem?_cons_succ
abbrev qJ := @List.toList_toArray
abbrev qK := @List.set_cons_zero
abbrev qL := @List.set_cons_succ
abbrev qM := @List.Sublist.refl
abbrev qN := @Nat.zero_add
abbrev qO := @List.mem_cons_of_mem
abbrev qP := @List.sublist_append_left
abbrev qQ := @List.Sublist.cons
end
namespace SL
section cut
variable {P : Program} {e : Env} {T E : TypeId} {x lo hi : Operand} {p : Option Addr} {n c : Nat}
end cut
section xb
variable {P : Program} {e : Env} {T ty : TypeId} {x y : Operand} {m n : Nat}
end xb
end SL
end Go.Proofs.YtpgdnfgjbhdbpaaGreatDoor
namespace Go.Proofs.YtpgdnfgjbhdbpaaGreatDoor.SL
set_option linter.unusedVariables false
set_option linter.unusedSimpArgs false
open Go Go.RowKit
section mm
variable {P : Program} {e : Env} {ik : IntKind} {m n k l : Nat} {x y z u : Operand} {tys : Array TypeId}
end mm
theorem oper_mono {F:Fence} {n:Nat} {P:Program} {o:Oper} {a:Act} {w:World} {K K':Act→World→Prop} {Q Q':Exit→Act→World→Prop} (h:∀ a w,K a w→K' a w) (hq:∀ x a w,Q x a w→Q' x a w)
  (hh:o.wpIn F n P a w K Q):o.wpIn F n P a w K' Q':=by
 unfold Oper.wpIn at *
 refine ⟨hh.1,?_⟩
 have hh:=hh.2
 generalize (o.semAt F.round a.eval).run P w=r at *
 have hl:LetsOut Q→LetsOut Q':=fun ⟨a,w,h⟩=>⟨a,w,hq _ _ _ h⟩
 cases r with
 |ok x w' =>
  cases x<;>simp only [Oper.uponIn] at hh ⊢ <;>
   first
    |exact h _ _ hh
    |exact ⟨hh.1,CallsIn.mono hh.2 (fun e w'' he=>by cases e<;>first|exact h _ _ he|exact hq _ _ _ he|exact hl he)⟩
    |exact ⟨hh.1,RowsIn.mono hh.2 (fun _ _ he=>h _ _ he)⟩
    |exact ⟨hh.1,RoundIn.mono hh.2 (fun e w'' he=>by cases e<;>first|exact h _ _ he|exact hq _ _ _ he|exact hl he)⟩
 |halt x w'=>cases x<;>simp only [Oper.uponIn] at hh ⊢<;>first|exact hh|exact hq _ _ _ hh|exact hl hh
theorem wpList_mono {F:Fence} {n:Nat} {P:Program} {ops:Array Oper} {Q Q':Exit→Act→World→Prop} (hq:∀ x a w,Q x a w→Q' x a w):∀ (l:List Oper) (a:Act) (w:World),wpListIn F n P ops Q l a w→wpListIn F n P ops Q' l a w
 |[],a,w,h=>hq _ _ _ h
 |o::rest,a,w,h=>by
  unfold wpListIn at h ⊢
  split
  ·rename_i hw
   rw [if_pos hw] at h
   exact oper_mono (fun a w h=>wpList_mono hq rest a w h) hq h
  ·rename_i hw
   rw [if_neg hw] at h
   exact ⟨h.1,wpList_mono hq rest _ _ h.2⟩
theorem LW.mono {C:Cu} {ops:Array Oper} {Q Q':Post} {l:List Oper} {e:Env} {fs:Fs} (hq:∀ x ds e fs,Q x ds e fs→Q' x ds e fs) (h:LW C ops Q l e fs):LW C ops Q' l e fs :=
 fun a w hs=>wpList_mono (fun x _ _ ⟨ds,e,fs,q,s⟩=>⟨ds,e,fs,hq x ds e fs q,s⟩) l a w (h a w hs)
theorem LW.cut {C:Cu} {ops:Array Oper} {l:List Oper} {y:Code} {Q Q':Post} {e:Env} {fs:Fs} (e1:Env) (fs1:Fs) (k:CW C y Q e1 fs1) (h:LW C ops (thenQ (cutQ C e1 fs1) Q') l e fs):LW C ops (thenQ (thenC C y Q) Q') l e fs :=
 LW.mono (fun x ds e fs hx=>by
  cases x with
  |normal=>obtain ⟨rfl,h2,h3⟩:=hx;exact CW.weak (C:=C) e1 fs1 h2 h3 k
  |_=>exact hx) h
section gc
variable {C : Cu} {ops : Array Oper} {Q : Post} {rest : List Oper} {e : Env} {fs : Fs} {d : Nat} {op : Op} {t : TypeId} {pos : String} {af : Array Edge} {j s : Nat} {b : Bool} {p : Prop} [Decidable p]
theorem LW.guardCT (hs:(ops[j]?).bind (·.dst)=some s) (he:e.get s=some (.bool b)) (hd:Nat.blt d C.N=true) (h1:b=true→LW C ops Q (⟨some d,op,t,pos,af,none⟩::rest) e fs) (h2:b=false→LW C ops Q rest ((d,undef)::e) fs) :
  LW C ops Q (⟨some d,op,t,pos,af,some (j,true)⟩::rest) e fs:=by
 cases b with
 |true=>exact LW.guardT hs he (h1 rfl)
 |false=>exact LW.guardF hs he hd (h2 rfl)
theorem LW.guardCF (hs:(ops[j]?).bind (·.dst)=some s) (he:e.get s=some (.bool b)) (hd:Nat.blt d C.N=true) (h1:b=false→LW C ops Q (⟨some d,op,t,pos,af,none⟩::rest) e fs) (h2:b=true→LW C ops Q rest ((d,undef)::e) fs) :
  LW C ops Q (⟨some d,op,t,pos,af,some (j,false)⟩::rest) e fs:=by
 cases b with
 |true=>exact LW.guardF hs he hd (h2 rfl)
 |false=>exact LW.guardT hs he (h1 rfl)
theorem LW.guardDT (hs:(ops[j]?).bind (·.dst)=some s) (he:e.get s=some (.bool (decide p))) (hd:Nat.blt d C.N=true) (h1:p→decide p=true→LW C ops Q (⟨some d,op,t,pos,af,none⟩::rest) e fs) (h2:¬ p→decide p=false→LW C ops Q rest ((d,undef)::e) fs) :
  LW C ops Q (⟨some d,op,t,pos,af,some (j,true)⟩::rest) e fs :=
 LW.guardCT hs he hd (fun h=>h1 (of_decide_eq_true h) h) (fun h=>h2 (of_decide_eq_false h) h)
theorem LW.guardDF (hs:(ops[j]?).bind (·.dst)=some s) (he:e.get s=some (.bool (decide p))) (hd:Nat.blt d C.N=true) (h1:¬ p→decide p=false→LW C ops Q (⟨some d,op,t,pos,af,none⟩::rest) e fs) (h2:p→decide p=true→LW C ops Q rest ((d,undef)::e) fs) :
  LW C ops Q (⟨some d,op,t,pos,af,some (j,false)⟩::rest) e fs :=
 LW.guardCF hs he hd (fun h=>h1 (of_decide_eq_false h) h) (fun h=>h2 (of_decide_eq_true h) h)
variable {c : Operand} {x y : Code}
theorem CW.condN (hc:e.ev c=some (.bool (!decide p))) (ht:¬ p→(!decide p)=true→CW C x Q e fs) (hf:p→(!decide p)=false→CW C y Q e fs):CW C (.cond c x y) Q e fs :=
 CW.cond hc (fun h=>ht (by simpa using h) h) (fun h=>hf (by simpa using h) h)
theorem getB {k:Nat} {b b':Bool} (h:e.get k=some (.bool b)) (hb:b=b'):e.get k=some (.bool b'):=by rw [h,hb]
end gc
end Go.Proofs.YtpgdnfgjbhdbpaaGreatDoor.SL
namespace Go.Proofs.YtpgdnfgjbhdbpaaGreatDoor.SL
set_option linter.unusedVariables false
set_option linter.unusedSimpArgs false
open Go Go.RowKit
section dw
variable {C : Cu} {ops : Array Oper} {Q : Post} {tl rest : List Oper} {e : Env} {ts : Ts} {μ : Mu} {k d : Nat} {t : TypeId} {pos : String} {af : Array Edge} {g : Option (Nat × Bool)}
end dw
end Go.Proofs.YtpgdnfgjbhdbpaaGreatDoor.SL
namespace Go.Proofs.YtpgdnfgjbhdbpaaGreatDoor.SL
set_option linter.unusedVariables false
set_option linter.unusedSimpArgs false
open Go Go.RowKit
section
variable {P : Program} {e : Env} {T ty : TypeId} {x y : Operand} {xs : Array Value}
end
end Go.Proofs.YtpgdnfgjbhdbpaaGreatDoor.SL
namespace Go.Proofs.YtpgdnfgjbhdbpaaGreatDoor.SL
set_option linter.unusedVariables false
set_option linter.unusedSimpArgs false
open Go Go.RowKit
section
variable {C : Cu} {ops : Array Oper} {Q : Post} {rest : List Oper} {e : Env} {fs : Fs} {d : Nat} {op : Op} {t : TypeId} {pos : String} {af : Array Edge} {g : Option (Nat × Bool)}
end
end Go.Proofs.YtpgdnfgjbhdbpaaGreatDoor.SL
namespace Go.Proofs.YtpgdnfgjbhdbpaaGreatDoor.SL
set_option linter.unusedVariables false
set_option linter.unusedSimpArgs false
open Go Go.RowKit

end Go.Proofs.YtpgdnfgjbhdbpaaGreatDoor.SL
namespace Go.Proofs.YtpgdnfgjbhdbpaaGreatDoor.SL
set_option linter.unusedVariables false
set_option linter.unusedSimpArgs false
open Go Go.RowKit
section
variable {C : Cu} {ops : Array Oper} {k : Nat}
end
section dw
variable {C : Cu} {ops : Array Oper} {Q : Post} {tl rest : List Oper} {e : Env} {ts : Ts} {μ : Mu} {k d : Nat} {op : Op} {t : TypeId} {pos : String} {af : Array Edge} {g : Option (Nat × Bool)}
end dw
end Go.Proofs.YtpgdnfgjbhdbpaaGreatDoor.SL
namespace Go.Proofs.YtpgdnfgjbhdbpaaGreatDoor.SL
set_option linter.unusedVariables false
set_option linter.unusedSimpArgs false
open Go Go.RowKit
section
variable {C : Cu} {ops : Array Oper} {Q : Post} {rest : List Oper} {e : Env} {fs : Fs} {d : Nat} {t : TypeId} {pos : String} {af : Array Edge}
end
end Go.Proofs.YtpgdnfgjbhdbpaaGreatDoor.SL
namespace Go.Proofs.YtpgdnfgjbhdbpaaGreatDoor.SL
set_option linter.unusedVariables false
set_option linter.unusedSimpArgs false
open Go Go.RowKit
theorem ValP.capS {P:Program} {e:Env} {T E:TypeId} {x:Operand} {tys:Array TypeId} {a:Option Addr} {n c:Nat} (hT:tys=#[T]) (hU:UnI P T (.slice E)) (hx:e.ev x=some (.slice a n c)) :
  ValP P e [] (.call { callee:=.builtin .cap,args:=#[x],argTypes:=tys }) (.int .i64 (c:Int)):=fun ρ w hρ _ d t pos af g=>by
 subst hT
 simp [execOp,resolve,invoke,builtin,hρ x _ hx,Builtin.cap_,run_un,goInt]
section dw
variable {C : Cu} {ops : Array Oper} {Q : Post} {tl rest : List Oper} {e : Env} {ts : Ts} {μ : Mu} {k d : Nat} {t : TypeId} {pos : String} {af : Array Edge} {g : Option (Nat × Bool)}
end dw
end Go.Proofs.YtpgdnfgjbhdbpaaGreatDoor.SL
namespace Go.Proofs.YtpgdnfgjbhdbpaaGreatDoor
open Go Go.RowKit SL
instance:AgI Tryz.prog 1 false:=⟨by kernel_rfl⟩
instance:InfoI Tryz.prog 1 1 (.nilFunc):=⟨by kernel_rfl⟩
instance:AgI Tryz.prog 3 false:=⟨by kernel_rfl⟩
instance:UnI Tryz.prog 3 (.int .i64):=⟨by kernel_rfl⟩
instance:InfoI Tryz.prog 3 1 (.int .i64 0):=⟨by kernel_rfl⟩
instance:AgI Tryz.prog 4 false:=⟨by kernel_rfl⟩
instance:UnI Tryz.prog 4 (.bool):=⟨by kernel_rfl⟩
instance:InfoI Tryz.prog 4 1 (.bool false):=⟨by kernel_rfl⟩
instance:AgI Tryz.prog 5 false:=⟨by kernel_rfl⟩
instance:UnI Tryz.prog 5 (.int .u8):=⟨by kernel_rfl⟩
instance:InfoI Tryz.prog 5 1 (.int .u8 0):=⟨by kernel_rfl⟩
instance:BytI Tryz.prog 5 1:=⟨by kernel_rfl⟩
instance:UnI Tryz.prog 9 (.string):=⟨by kernel_rfl⟩
instance:AgI Tryz.prog 22 false:=⟨by kernel_rfl⟩
instance:UnI Tryz.prog 22 (.slice 5):=⟨by kernel_rfl⟩
instance:InfoI Tryz.prog 22 1 (.slice none 0 0):=⟨by kernel_rfl⟩
instance:AgI Tryz.prog 23 false:=⟨by kernel_rfl⟩
instance:UnI Tryz.prog 23 (.slice 29):=⟨by kernel_rfl⟩
instance:InfoI Tryz.prog 23 1 (.slice none 0 0):=⟨by kernel_rfl⟩
instance:AgI Tryz.prog 25 true:=⟨by kernel_rfl⟩
instance:InfoI Tryz.prog 25 2 (.agg #[.slice none 0 0,.slice none 0 0]):=⟨by kernel_rfl⟩
instance:StrI Tryz.prog 25 [(0,1),(1,1)]:=⟨by kernel_rfl⟩
instance:FldI Tryz.prog 25 0 0 23:=.mk' (by kernel_rfl)
instance:FldI Tryz.prog 25 1 1 22:=.mk' (by kernel_rfl)
instance:AgI Tryz.prog 26 false:=⟨by kernel_rfl⟩
instance:UnI Tryz.prog 26 (.int .u64):=⟨by kernel_rfl⟩
instance:InfoI Tryz.prog 26 1 (.int .u64 0):=⟨by kernel_rfl⟩
instance:AgI Tryz.prog 27 false:=⟨by kernel_rfl⟩
instance:UnI Tryz.prog 27 (.int .u64):=⟨by kernel_rfl⟩
instance:InfoI Tryz.prog 27 1 (.int .u64 0):=⟨by kernel_rfl⟩
instance:AgI Tryz.prog 29 true:=⟨by kernel_rfl⟩
instance:UnI Tryz.prog 29 (.array 4 26):=⟨by kernel_rfl⟩
instance:InfoI Tryz.prog 29 4 (.agg #[.int .u64 0,.int .u64 0,.int .u64 0,.int .u64 0]):=⟨by kernel_rfl⟩
instance:BytI Tryz.prog 29 32:=⟨by kernel_rfl⟩
instance:EqI Tryz.prog 29 4 .u64:=.mk' (by kernel_rfl)
instance:AgI Tryz.prog 31 true:=⟨by kernel_rfl⟩
instance:InfoI Tryz.prog 31 14 (.agg #[.slice none 0 0,.int .i64 0,.slice none 0 0,.slice none 0 0,.int .u64 0,.int .u64 0,.int .u64 0,.int .u64 0,.int .u64 0,.int .u64 0,.int .u64 0,.slice none 0 0,.slice none 0 0,.bool false]):=⟨by kernel_rfl⟩
instance:StrI Tryz.prog 31 [(0,1),(1,1),(2,2),(4,1),(5,1),(6,1),(7,4),(11,1),(12,1),(13,1)]:=⟨by kernel_rfl⟩
instance:FldI Tryz.prog 31 0 0 22:=.mk' (by kernel_rfl)
instance:FldI Tryz.prog 31 1 1 3:=.mk' (by kernel_rfl)
instance:FldI Tryz.prog 31 2 2 25:=.mk' (by kernel_rfl)
instance:FldI Tryz.prog 31 3 4 26:=.mk' (by kernel_rfl)
instance:FldI Tryz.prog 31 4 5 27:=.mk' (by kernel_rfl)
instance:FldI Tryz.prog 31 5 6 27:=.mk' (by kernel_rfl)
instance:FldI Tryz.prog 31 6 7 29:=.mk' (by kernel_rfl)
instance:FldI Tryz.prog 31 7 11 22:=.mk' (by kernel_rfl)
instance:FldI Tryz.prog 31 8 12 22:=.mk' (by kernel_rfl)
instance:FldI Tryz.prog 31 9 13 4:=.mk' (by kernel_rfl)
instance:AgI Tryz.prog 33 true:=⟨by kernel_rfl⟩
instance:InfoI Tryz.prog 33 15 (.agg #[.int .u8 0,.int .u64 0,.int .u64 0,.int .u64 0,.int .u64 0,.int .u64 0,.int .u64 0,.int .u64 0,.bool false,.int .u64 0,.slice none 0 0,.slice none 0 0,.int .u64 0,.int .u64 0,.bool false]):=⟨by kernel_rfl⟩
instance:FldI Tryz.prog 33 0 0 5:=.mk' (by kernel_rfl)
instance:FldI Tryz.prog 33 1 1 27:=.mk' (by kernel_rfl)
instance:FldI Tryz.prog 33 2 2 27:=.mk' (by kernel_rfl)
instance:FldI Tryz.prog 33 3 3 27:=.mk' (by kernel_rfl)
instance:FldI Tryz.prog 33 4 4 29:=.mk' (by kernel_rfl)
instance:FldI Tryz.prog 33 5 8 4:=.mk' (by kernel_rfl)
instance:FldI Tryz.prog 33 6 9 26:=.mk' (by kernel_rfl)
instance:FldI Tryz.prog 33 7 10 22:=.mk' (by kernel_rfl)
instance:FldI Tryz.prog 33 8 11 22:=.mk' (by kernel_rfl)
instance:FldI Tryz.prog 33 9 12 26:=.mk' (by kernel_rfl)
instance:FldI Tryz.prog 33 10 13 26:=.mk' (by kernel_rfl)
instance:FldI Tryz.prog 33 11 14 4:=.mk' (by kernel_rfl)
instance:InfoI Tryz.prog 39 3 (.agg #[.bool false,.int .u64 0,.slice none 0 0]):=⟨by kernel_rfl⟩
instance:StrI Tryz.prog 39 [(0,1),(1,1),(2,1)]:=⟨by kernel_rfl⟩
instance:FldI Tryz.prog 39 0 0 4:=.mk' (by kernel_rfl)
instance:FldI Tryz.prog 39 1 1 26:=.mk' (by kernel_rfl)
instance:FldI Tryz.prog 39 2 2 22:=.mk' (by kernel_rfl)
instance:AgI Tryz.prog 58 true:=⟨by kernel_rfl⟩
instance:InfoI Tryz.prog 58 3 (.agg #[.bool false,.bool false,.bool false]):=⟨by kernel_rfl⟩
instance:StrI Tryz.prog 58 [(0,1),(1,1),(2,1)]:=⟨by kernel_rfl⟩
instance:FldI Tryz.prog 58 0 0 4:=.mk' (by kernel_rfl)
instance:FldI Tryz.prog 58 1 1 4:=.mk' (by kernel_rfl)
instance:FldI Tryz.prog 58 2 2 4:=.mk' (by kernel_rfl)
instance:AgI Tryz.prog 61 true:=⟨by kernel_rfl⟩
instance:InfoI Tryz.prog 61 4 (.agg #[.int .i64 0,.int .u8 0,.slice none 0 0,.slice none 0 0]):=⟨by kernel_rfl⟩
instance:StrI Tryz.prog 61 [(0,1),(1,1),(2,1),(3,1)]:=⟨by kernel_rfl⟩
instance:FldI Tryz.prog 61 0 0 3:=.mk' (by kernel_rfl)
instance:FldI Tryz.prog 61 1 1 5:=.mk' (by kernel_rfl)
instance:FldI Tryz.prog 61 2 2 23:=.mk' (by kernel_rfl)
instance:AgI Tryz.prog 85 true:=⟨by kernel_rfl⟩
instance:InfoI Tryz.prog 85 5 (.agg #[.int .i64 0,.int .i64 0,.int .i64 0,.int .i64 0,.int .i64 0]):=⟨by kernel_rfl⟩
instance:StrI Tryz.prog 85 [(0,1),(1,1),(2,1),(3,1),(4,1)]:=⟨by kernel_rfl⟩
instance:FldI Tryz.prog 85 0 0 3:=.mk' (by kernel_rfl)
instance:FldI Tryz.prog 85 1 1 3:=.mk' (by kernel_rfl)
instance:FldI Tryz.prog 85 2 2 3:=.mk' (by kernel_rfl)
instance:FldI Tryz.prog 85 3 3 3:=.mk' (by kernel_rfl)
instance:FldI Tryz.prog 85 4 4 3:=.mk' (by kernel_rfl)
instance:InfoI Tryz.prog 96 41 (.agg #[.slice none 0 0,.int .i64 0,.slice none 0 0,.slice none 0 0,.int .u64 0,.int .u64 0,.int .u64 0,.int .u64 0,.int .u64 0,.int .u64 0,.int .u64 0,.slice none 0 0,.slice none 0 0,.bool false,.int .i64 0,.int .i64 0,.int .i64 0,.int .i64 0,.int .i64 0,.int .i64 0,.int .u8 0,.slice none 0 0,.slice none 0 0,.bool false,.bool false,.bool false,.int .u8 0,.int .u64 0,.int .u64 0,.int .u64 0,.int .u64 0,.int .u64 0,.int .u64 0,.int .u64 0,.bool false,.int .u64 0,.slice none 0 0,.slice none 0 0,.int .u64 0,.int .u64 0,.bool false]):=⟨by kernel_rfl⟩
instance:StrI Tryz.prog 96 [(0,14),(14,5),(19,4),(23,3),(26,15)]:=⟨by kernel_rfl⟩
instance:FldI Tryz.prog 96 0 0 31:=.mk' (by kernel_rfl)
instance:FldI Tryz.prog 96 1 14 85:=.mk' (by kernel_rfl)
instance:FldI Tryz.prog 96 2 19 61:=.mk' (by kernel_rfl)
instance:FldI Tryz.prog 96 3 23 58:=.mk' (by kernel_rfl)
instance:FldI Tryz.prog 96 4 26 33:=.mk' (by kernel_rfl)
instance:InfoI Tryz.prog 98 0 (.agg #[]):=⟨by kernel_rfl⟩
instance:StrI Tryz.prog 98 []:=⟨by kernel_rfl⟩
instance:UnI Tryz.prog 100 (.array 3 1):=⟨by kernel_rfl⟩
instance:InfoI Tryz.prog 100 3 (.agg #[.nilFunc,.nilFunc,.nilFunc]):=⟨by kernel_rfl⟩
instance:AgI Tryz.prog 107 true:=⟨by kernel_rfl⟩
instance:UnI Tryz.prog 107 (.array 32 5):=⟨by kernel_rfl⟩
instance:InfoI Tryz.prog 107 32 (.agg #[.int .u8 0,.int .u8 0,.int .u8 0,.int .u8 0,.int .u8 0,.int .u8 0,.int .u8 0,.int .u8 0,.int .u8 0,.int .u8 0,.int .u8 0,.int .u8 0,.int .u8 0,.int .u8 0,.int .u8 0,.int .u8 0,.int .u8 0,.int .u8 0,.int .u8 0,.int .u8 0,.int .u8 0,.int .u8 0,.int .u8 0,.int .u8 0,.int .u8 0,.int .u8 0,.int .u8 0,.int .u8 0,.int .u8 0,.int .u8 0,.int .u8 0,.int .u8 0]):=⟨by kernel_rfl⟩
instance:AgI Tryz.prog 116 false:=⟨by kernel_rfl⟩
instance:InfoI Tryz.prog 116 1 (.pointer none):=⟨by kernel_rfl⟩
instance:AgI Tryz.prog 119 false:=⟨by kernel_rfl⟩
instance:AgI Tryz.prog 136 true:=⟨by kernel_rfl⟩
instance:InfoI Tryz.prog 136 5 (.agg #[.int .u8 0,.string ⟨#[]⟩,.int .i64 0,.int .i64 0,.int .i64 0]):=⟨by kernel_rfl⟩
instance:StrI Tryz.prog 136 [(0,1),(1,1),(2,1),(3,1),(4,1)]:=⟨by kernel_rfl⟩
instance:FldI Tryz.prog 136 0 0 5:=.mk' (by kernel_rfl)
instance:FldI Tryz.prog 136 4 4 3:=.mk' (by kernel_rfl)
instance:AgI Tryz.prog 140 true:=⟨by kernel_rfl⟩
instance:UnI Tryz.prog 140 (.array 25 26):=⟨by kernel_rfl⟩
instance:InfoI Tryz.prog 140 25 (.agg #[.int .u64 0,.int .u64 0,.int .u64 0,.int .u64 0,.int .u64 0,.int .u64 0,.int .u64 0,.int .u64 0,.int .u64 0,.int .u64 0,.int .u64 0,.int .u64 0,.int .u64 0,.int .u64 0,.int .u64 0,.int .u64 0,.int .u64 0,.int .u64 0,.int .u64 0,.int .u64 0,.int .u64 0,.int .u64 0,.int .u64 0,.int .u64 0,.int .u64 0]):=⟨by kernel_rfl⟩
instance:UnI Tryz.prog 145 (.slice 22):=⟨by kernel_rfl⟩
instance:UnI Tryz.prog 147 (.int .u64):=⟨by kernel_rfl⟩
instance:AgI Tryz.prog 152 true:=⟨by kernel_rfl⟩
instance:InfoI Tryz.prog 152 4 (.agg #[.int .u64 0,.int .u64 0,.int .u64 0,.int .u64 0]):=⟨by kernel_rfl⟩
instance:StrI Tryz.prog 152 [(0,1),(1,1),(2,1),(3,1)]:=⟨by kernel_rfl⟩
instance:InfoI Tryz.prog 155 23 (.agg #[.slice none 0 0,.int .i64 0,.slice none 0 0,.slice none 0 0,.int .u64 0,.int .u64 0,.int .u64 0,.int .u64 0,.int .u64 0,.int .u64 0,.int .u64 0,.slice none 0 0,.slice none 0 0,.bool false,.int .u64 0,.int .u64 0,.int .u64 0,.int .u64 0,.slice none 0 0,.int .i64 0,.int .u8 0,.slice none 0 0,.slice none 0 0]):=⟨by kernel_rfl⟩
instance:StrI Tryz.prog 155 [(0,14),(14,4),(18,1),(19,4)]:=⟨by kernel_rfl⟩
instance:FldI Tryz.prog 155 0 0 31:=.mk' (by kernel_rfl)
instance:UnI Tryz.prog 156 (.slice 26):=⟨by kernel_rfl⟩
instance:UnI Tryz.prog 171 (.slice 136):=⟨by kernel_rfl⟩
instance:AgI Tryz.prog 174 true:=⟨by kernel_rfl⟩
instance:UnI Tryz.prog 174 (.array 24 26):=⟨by kernel_rfl⟩
instance:InfoI Tryz.prog 174 24 (.agg #[.int .u64 0,.int .u64 0,.int .u64 0,.int .u64 0,.int .u64 0,.int .u64 0,.int .u64 0,.int .u64 0,.int .u64 0,.int .u64 0,.int .u64 0,.int .u64 0,.int .u64 0,.int .u64 0,.int .u64 0,.int .u64 0,.int .u64 0,.int .u64 0,.int .u64 0,.int .u64 0,.int .u64 0,.int .u64 0,.int .u64 0,.int .u64 0]):=⟨by kernel_rfl⟩
instance:InfoI Tryz.prog 180 0 (.agg #[]):=⟨by kernel_rfl⟩
instance:StrI Tryz.prog 180 []:=⟨by kernel_rfl⟩
instance:UnI Tryz.prog 190 (.array 50 136):=⟨by kernel_rfl⟩
instance:InfoI Tryz.prog 190 250 (.agg #[.int .u8 0,.string ⟨#[]⟩,.int .i64 0,.int .i64 0,.int .i64 0,.int .u8 0,.string ⟨#[]⟩,.int .i64 0,.int .i64 0,.int .i64 0,.int .u8 0,.string ⟨#[]⟩,.int .i64 0,.int .i64 0,.int .i64 0,.int .u8 0,.string ⟨#[]⟩,.int .i64 0,.int .i64 0,.int .i64 0,.int .u8 0,.string ⟨#[]⟩,.int .i64 0,.int .i64 0,.int .i64 0,.int .u8 0,.string ⟨#[]⟩,.int .i64 0,.int .i64 0,.int .i64 0,.int .u8 0,.string ⟨#[]⟩,.int .i64 0,.int .i64 0,.int .i64 0,.int .u8 0,.string ⟨#[]⟩,.int .i64 0,.int .i64 0,.int .i64 0,.int .u8 0,.string ⟨#[]⟩,.int .i64 0,.int .i64 0,.int .i64 0,.int .u8 0,.string ⟨#[]⟩,.int .i64 0,.int .i64 0,.int .i64 0,.int .u8 0,.string ⟨#[]⟩,.int .i64 0,.int .i64 0,.int .i64 0,.int .u8 0,.string ⟨#[]⟩,.int .i64 0,.int .i64 0,.int .i64 0,.int .u8 0,.string ⟨#[]⟩,.int .i64 0,.int .i64 0,.int .i64 0,.int .u8 0,.string ⟨#[]⟩,.int .i64 0,.int .i64 0,.int .i64 0,.int .u8 0,.string ⟨#[]⟩,.int .i64 0,.int .i64 0,.int .i64 0,.int .u8 0,.string ⟨#[]⟩,.int .i64 0,.int .i64 0,.int .i64 0,.int .u8 0,.string ⟨#[]⟩,.int .i64 0,.int .i64 0,.int .i64 0,.int .u8 0,.string ⟨#[]⟩,.int .i64 0,.int .i64 0,.int .i64 0,.int .u8 0,.string ⟨#[]⟩,.int .i64 0,.int .i64 0,.int .i64 0,.int .u8 0,.string ⟨#[]⟩,.int .i64 0,.int .i64 0,.int .i64 0,.int .u8 0,.string ⟨#[]⟩,.int .i64 0,.int .i64 0,.int .i64 0,.int .u8 0,.string ⟨#[]⟩,.int .i64 0,.int .i64 0,.int .i64 0,.int .u8 0,.string ⟨#[]⟩,.int .i64 0,.int .i64 0,.int .i64 0,.int .u8 0,.string ⟨#[]⟩,.int .i64 0,.int .i64 0,.int .i64 0,.int .u8 0,.string ⟨#[]⟩,.int .i64 0,.int .i64 0,.int .i64 0,.int .u8 0,.string ⟨#[]⟩,.int .i64 0,.int .i64 0,.int .i64 0,.int .u8 0,.string ⟨#[]⟩,.int .i64 0,.int .i64 0,.int .i64 0,.int .u8 0,.string ⟨#[]⟩,.int .i64 0,.int .i64 0,.int .i64 0,.int .u8 0,.string ⟨#[]⟩,.int .i64 0,.int .i64 0,.int .i64 0,.int .u8 0,.string ⟨#[]⟩,.int .i64 0,.int .i64 0,.int .i64 0,.int .u8 0,.string ⟨#[]⟩,.int .i64 0,.int .i64 0,.int .i64 0,.int .u8 0,.string ⟨#[]⟩,.int .i64 0,.int .i64 0,.int .i64 0,.int .u8 0,.string ⟨#[]⟩,.int .i64 0,.int .i64 0,.int .i64 0,.int .u8 0,.string ⟨#[]⟩,.int .i64 0,.int .i64 0,.int .i64 0,.int .u8 0,.string ⟨#[]⟩,.int .i64 0,.int .i64 0,.int .i64 0,.int .u8 0,.string ⟨#[]⟩,.int .i64 0,.int .i64 0,.int .i64 0,.int .u8 0,.string ⟨#[]⟩,.int .i64 0,.int .i64 0,.int .i64 0,.int .u8 0,.string ⟨#[]⟩,.int .i64 0,.int .i64 0,.int .i64 0,.int .u8 0,.string ⟨#[]⟩,.int .i64 0,.int .i64 0,.int .i64 0,.int .u8 0,.string ⟨#[]⟩,.int .i64 0,.int .i64 0,.int .i64 0,.int .u8 0,.string ⟨#[]⟩,.int .i64 0,.int .i64 0,.int .i64 0,.int .u8 0,.string ⟨#[]⟩,.int .i64 0,.int .i64 0,.int .i64 0,.int .u8 0,.string ⟨#[]⟩,.int .i64 0,.int .i64 0,.int .i64 0,.int .u8 0,.string ⟨#[]⟩,.int .i64 0,.int .i64 0,.int .i64 0,.int .u8 0,.string ⟨#[]⟩,.int .i64 0,.int .i64 0,.int .i64 0,.int .u8 0,.string ⟨#[]⟩,.int .i64 0,.int .i64 0,.int .i64 0,.int .u8 0,.string ⟨#[]⟩,.int .i64 0,.int .i64 0,.int .i64 0,.int .u8 0,.string ⟨#[]⟩,.int .i64 0,.int .i64 0,.int .i64 0,.int .u8 0,.string ⟨#[]⟩,.int .i64 0,.int .i64 0,.int .i64 0,.int .u8 0,.string ⟨#[]⟩,.int .i64 0,.int .i64 0,.int .i64 0]):=⟨by kernel_rfl⟩
instance:UnI Tryz.prog 197 (.array 5 26):=⟨by kernel_rfl⟩
instance:InfoI Tryz.prog 197 5 (.agg #[.int .u64 0,.int .u64 0,.int .u64 0,.int .u64 0,.int .u64 0]):=⟨by kernel_rfl⟩
instance:UnI Tryz.prog 199 (.array 25 3):=⟨by kernel_rfl⟩
instance:FnI Tryz.prog 9:=.mk' Tryz.func9 (by kernel_rfl) (by kernel_rfl)
instance:FnI Tryz.prog 10:=.mk' Tryz.func10 (by kernel_rfl) (by kernel_rfl)
instance:FnI Tryz.prog 12:=.mk' Tryz.func12 (by kernel_rfl) (by kernel_rfl)
instance:FnI Tryz.prog 13:=.mk' Tryz.func13 (by kernel_rfl) (by kernel_rfl)
instance:FnI Tryz.prog 19:=.mk' Tryz.func19 (by kernel_rfl) (by kernel_rfl)
instance:FnI Tryz.prog 22:=.mk' Tryz.func22 (by kernel_rfl) (by kernel_rfl)
instance:FnI Tryz.prog 25:=.mk' Tryz.func25 (by kernel_rfl) (by kernel_rfl)
instance:FnI Tryz.prog 26:=.mk' Tryz.func26 (by kernel_rfl) (by kernel_rfl)
instance:FnI Tryz.prog 28:=.mk' Tryz.func28 (by kernel_rfl) (by kernel_rfl)
instance:FnI Tryz.prog 31:=.mk' Tryz.func31 (by kernel_rfl) (by kernel_rfl)
instance:FnI Tryz.prog 33:=.mk' Tryz.func33 (by kernel_rfl) (by kernel_rfl)
instance:FnI Tryz.prog 34:=.mk' Tryz.func34 (by kernel_rfl) (by kernel_rfl)
instance:FnI Tryz.prog 35:=.mk' Tryz.func35 (by kernel_rfl) (by kernel_rfl)
instance:FnI Tryz.prog 36:=.mk' Tryz.func36 (by kernel_rfl) (by kernel_rfl)
instance:FnI Tryz.prog 37:=.mk' Tryz.func37 (by kernel_rfl) (by kernel_rfl)
instance:FnI Tryz.prog 38:=.mk' Tryz.func38 (by kernel_rfl) (by kernel_rfl)
instance:FnI Tryz.prog 39:=.mk' Tryz.func39 (by kernel_rfl) (by kernel_rfl)
instance:FnI Tryz.prog 40:=.mk' Tryz.func40 (by kernel_rfl) (by kernel_rfl)
instance:FnI Tryz.prog 41:=.mk' Tryz.func41 (by kernel_rfl) (by kernel_rfl)
instance:FnI Tryz.prog 47:=.mk' Tryz.func47 (by kernel_rfl) (by kernel_rfl)
instance:FnI Tryz.prog 48:=.mk' Tryz.func48 (by kernel_rfl) (by kernel_rfl)
instance:FnI Tryz.prog 53:=.mk' Tryz.func53 (by kernel_rfl) (by kernel_rfl)
instance:FnI Tryz.prog 54:=.mk' Tryz.func54 (by kernel_rfl) (by kernel_rfl)
instance:FnI Tryz.prog 55:=.mk' Tryz.func55 (by kernel_rfl) (by kernel_rfl)
instance:FnI Tryz.prog 56:=.mk' Tryz.func56 (by kernel_rfl) (by kernel_rfl)
instance:FnI Tryz.prog 57:=.mk' Tryz.func57 (by kernel_rfl) (by kernel_rfl)
instance:FnI Tryz.prog 58:=.mk' Tryz.func58 (by kernel_rfl) (by kernel_rfl)
instance:FnI Tryz.prog 65:=.mk' Tryz.func65 (by kernel_rfl) (by kernel_rfl)
instance:FnI Tryz.prog 66:=.mk' Tryz.func66 (by kernel_rfl) (by kernel_rfl)
instance:FnI Tryz.prog 67:=.mk' Tryz.func67 (by kernel_rfl) (by kernel_rfl)
instance:FnI Tryz.prog 69:=.mk' Tryz.func69 (by kernel_rfl) (by kernel_rfl)
instance:FnI Tryz.prog 70:=.mk' Tryz.func70 (by kernel_rfl) (by kernel_rfl)
instance:FnI Tryz.prog 71:=.mk' Tryz.func71 (by kernel_rfl) (by kernel_rfl)
instance:FnI Tryz.prog 72:=.mk' Tryz.func72 (by kernel_rfl) (by kernel_rfl)
instance:FnI Tryz.prog 73:=.mk' Tryz.func73 (by kernel_rfl) (by kernel_rfl)
instance:FnI Tryz.prog 75:=.mk' Tryz.func75 (by kernel_rfl) (by kernel_rfl)
instance:FnI Tryz.prog 76:=.mk' Tryz.func76 (by kernel_rfl) (by kernel_rfl)
instance:FnI Tryz.prog 77:=.mk' Tryz.func77 (by kernel_rfl) (by kernel_rfl)
instance:FnI Tryz.prog 78:=.mk' Tryz.func78 (by kernel_rfl) (by kernel_rfl)
instance:FnI Tryz.prog 79:=.mk' Tryz.func79 (by kernel_rfl) (by kernel_rfl)
instance:FnI Tryz.prog 80:=.mk' Tryz.func80 (by kernel_rfl) (by kernel_rfl)
instance:FnI Tryz.prog 85:=.mk' Tryz.func85 (by kernel_rfl) (by kernel_rfl)
instance:FnI Tryz.prog 86:=.mk' Tryz.func86 (by kernel_rfl) (by kernel_rfl)
instance:FnI Tryz.prog 87:=.mk' Tryz.func87 (by kernel_rfl) (by kernel_rfl)
instance:FnI Tryz.prog 88:=.mk' Tryz.func88 (by kernel_rfl) (by kernel_rfl)
instance:FnI Tryz.prog 89:=.mk' Tryz.func89 (by kernel_rfl) (by kernel_rfl)
instance:FnI Tryz.prog 90:=.mk' Tryz.func90 (by kernel_rfl) (by kernel_rfl)
instance:FnI Tryz.prog 102:=.mk' Tryz.func102 (by kernel_rfl) (by kernel_rfl)
instance:FnI Tryz.prog 104:=.mk' Tryz.func104 (by kernel_rfl) (by kernel_rfl)
instance:FnI Tryz.prog 105:=.mk' Tryz.func105 (by kernel_rfl) (by kernel_rfl)
instance:FnI Tryz.prog 106:=.mk' Tryz.func106 (by kernel_rfl) (by kernel_rfl)
instance:FnI Tryz.prog 107:=.mk' Tryz.func107 (by kernel_rfl) (by kernel_rfl)
instance:FnI Tryz.prog 108:=.mk' Tryz.func108 (by kernel_rfl) (by kernel_rfl)
instance:FnI Tryz.prog 113:=.mk' Tryz.func113 (by kernel_rfl) (by kernel_rfl)
instance:FnI Tryz.prog 114:=.mk' Tryz.func114 (by kernel_rfl) (by kernel_rfl)
instance:FnI Tryz.prog 115:=.mk' Tryz.func115 (by kernel_rfl) (by kernel_rfl)
instance:FnI Tryz.prog 116:=.mk' Tryz.func116 (by kernel_rfl) (by kernel_rfl)
instance:FnI Tryz.prog 117:=.mk' Tryz.func117 (by kernel_rfl) (by kernel_rfl)
instance:FnI Tryz.prog 118:=.mk' Tryz.func118 (by kernel_rfl) (by kernel_rfl)
instance:FnI Tryz.prog 120:=.mk' Tryz.func120 (by kernel_rfl) (by kernel_rfl)
instance:FnI Tryz.prog 121:=.mk' Tryz.func121 (by kernel_rfl) (by kernel_rfl)
instance:FnI Tryz.prog 122:=.mk' Tryz.func122 (by kernel_rfl) (by kernel_rfl)
instance:FnI Tryz.prog 123:=.mk' Tryz.func123 (by kernel_rfl) (by kernel_rfl)
instance:FnI Tryz.prog 124:=.mk' Tryz.func124 (by kernel_rfl) (by kernel_rfl)
instance:FnI Tryz.prog 130:=.mk' Tryz.func130 (by kernel_rfl) (by kernel_rfl)
instance:FnI Tryz.prog 131:=.mk' Tryz.func131 (by kernel_rfl) (by kernel_rfl)
instance:FnI Tryz.prog 132:=.mk' Tryz.func132 (by kernel_rfl) (by kernel_rfl)
instance:FnI Tryz.prog 133:=.mk' Tryz.func133 (by kernel_rfl) (by kernel_rfl)
instance:FnI Tryz.prog 134:=.mk' Tryz.func134 (by kernel_rfl) (by kernel_rfl)
instance:FnI Tryz.prog 135:=.mk' Tryz.func135 (by kernel_rfl) (by kernel_rfl)
instance:FnI Tryz.prog 136:=.mk' Tryz.func136 (by kernel_rfl) (by kernel_rfl)
instance:FnI Tryz.prog 139:=.mk' Tryz.func139 (by kernel_rfl) (by kernel_rfl)
instance:FnI Tryz.prog 140:=.mk' Tryz.func140 (by kernel_rfl) (by kernel_rfl)
instance:FnI Tryz.prog 143:=.mk' Tryz.func143 (by kernel_rfl) (by kernel_rfl)
instance:FnI Tryz.prog 144:=.mk' Tryz.func144 (by kernel_rfl) (by kernel_rfl)
instance:FnI Tryz.prog 145:=.mk' Tryz.func145 (by kernel_rfl) (by kernel_rfl)
instance:FnI Tryz.prog 146:=.mk' Tryz.func146 (by kernel_rfl) (by kernel_rfl)
instance:FnI Tryz.prog 147:=.mk' Tryz.func147 (by kernel_rfl) (by kernel_rfl)
instance:FnI Tryz.prog 153:=.mk' Tryz.func153 (by kernel_rfl) (by kernel_rfl)
instance:FnI Tryz.prog 154:=.mk' Tryz.func154 (by kernel_rfl) (by kernel_rfl)
instance:FnI Tryz.prog 155:=.mk' Tryz.func155 (by kernel_rfl) (by kernel_rfl)
instance:FnI Tryz.prog 156:=.mk' Tryz.func156 (by kernel_rfl) (by kernel_rfl)
instance:FnI Tryz.prog 157:=.mk' Tryz.func157 (by kernel_rfl) (by kernel_rfl)
instance:FnI Tryz.prog 158:=.mk' Tryz.func158 (by kernel_rfl) (by kernel_rfl)
instance:FnI Tryz.prog 159:=.mk' Tryz.func159 (by kernel_rfl) (by kernel_rfl)
instance:FnI Tryz.prog 163:=.mk' Tryz.func163 (by kernel_rfl) (by kernel_rfl)
instance:FnI Tryz.prog 164:=.mk' Tryz.func164 (by kernel_rfl) (by kernel_rfl)
instance:FnI Tryz.prog 165:=.mk' Tryz.func165 (by kernel_rfl) (by kernel_rfl)
instance:FnI Tryz.prog 166:=.mk' Tryz.func166 (by kernel_rfl) (by kernel_rfl)
instance:FnI Tryz.prog 167:=.mk' Tryz.func167 (by kernel_rfl) (by kernel_rfl)
instance:FnI Tryz.prog 168:=.mk' Tryz.func168 (by kernel_rfl) (by kernel_rfl)
instance:FnI Tryz.prog 170:=.mk' Tryz.func170 (by kernel_rfl) (by kernel_rfl)
instance:FnI Tryz.prog 171:=.mk' Tryz.func171 (by kernel_rfl) (by kernel_rfl)
instance:FnI Tryz.prog 172:=.mk' Tryz.func172 (by kernel_rfl) (by kernel_rfl)
instance:FnI Tryz.prog 173:=.mk' Tryz.func173 (by kernel_rfl) (by kernel_rfl)
instance:FnI Tryz.prog 175:=.mk' Tryz.func175 (by kernel_rfl) (by kernel_rfl)
theorem mixed:Tryz.prog.follows .mixedOrders=true:=by kernel_rfl
end Go.Proofs.YtpgdnfgjbhdbpaaGreatDoor
namespace Go.Proofs.YtpgdnfgjbhdbpaaGreatDoor
open Go Go.RowKit SL
set_option maxRecDepth 8000
set_option maxHeartbeats 4000000
set_option linter.unusedSimpArgs false
set_option linter.unusedVariables false
attribute [local irreducible] SL.CW SL.LW SL.DW Calls SL.Ret SL.RetG SL.beginQ SL.roundQ SL.rangeQ SL.RW SL.AnyW SL.thenQ SL.thenC SL.thenW SL.blkQ SL.finQ SL.ValP SL.NewP SL.SetP SL.CallP SL.Rd SL.Wr SL.Known
section
theorem outDI {C:Cu} {fn:Func} {dd:Deferred} {R:Ending→World→Prop} {x:Exit} {ds:List Deferred} {e:Env} {fs:Fs} (hx:x=.ret∨x=.normal) (hd:ds=[dd]) (h:∀ a w,Sat (C.at [dd]) e fs a w→LeavesInM (FR none) 0 C.P fn a.tmps R [dd] .returning w):∃ dd,outD C fn dd R x ds e fs:=by
 rcases hx with rfl|rfl
 ·exact ⟨_,hd,h⟩
 ·exact ⟨_,hd,h⟩
theorem outDP {C:Cu} {fn:Func} {dd:Deferred} {R:Ending→World→Prop} {ch:List PanicEntry} {ds:List Deferred} {e:Env} {fs:Fs} (hd:ds=[dd]) (h:∀ a w,Sat (C.at [dd]) e fs a w→LeavesInM (FR none) 0 C.P fn a.tmps R [dd] (.panicking ch) w):∃ dd,outD C fn dd R (.panic ch) ds e fs:=⟨_,hd,h⟩
theorem leaves_end {C:Cu} {fn:Func} {e:Env} {fs:Fs} {ds:List Deferred} {a:Act} {w:World} {R:Ending→World→Prop} {rs:List ResultVar} {vs:List Value} {v:Value} (hr:fn.results.toList=rs) (ha:EnvOk C.N ds e a) (hs:St C.w0 C.S fs w) (h:ResL C e fs rs vs) (hv:tup vs=v) (hR:R (.returned v) w) :
  LeavesIn (FR none) 0 C.P fn a.tmps R [] .returning w:=⟨_,ResL.runS (by rw [hr];exact h) ha hs,by rw [hv];exact hR⟩
attribute [local irreducible] SL.inP SL.inD SL.outD
abbrev failV:Value:=.iface 180 (.agg #[])
abbrev failC:List PanicEntry:=[{ v:=failV,recovered:=false }]
def NeedK (fs:Fs):Out:=fun x fs'=>x=.panicked failC∧fs'=fs
theorem need_true (w:World):Calls Tryz.prog 117 #[.bool true] w (Ret w (.tuple #[])):=by
 refine enter (args:=[_]) _ [] [] Tryz.func117 rfl Tryz.ntmps117 rfl (by simp) .nil ?_
 (refine sRz<|vMz ?_;refine lvz (.notT rfl (by with_reducible rfl)) ?_;refine nNz<|cFz<|zJ ?_)
 (apply finR;exact .inr rfl;rfl;rfl;rfl;exact zF)
 rfl
theorem need_false (w0:World) (S:List Nat) (fs:Fs) (w:World) (hs:St w0 S fs w):Calls Tryz.prog 117 #[.bool false] w (fun x w'=>∃ fs',NeedK fs x fs'∧St w0 S fs' w'):=by
 refine calls_inlineP (args:=[_]) Tryz.func117 rfl Tryz.ntmps117 rfl ?_ hs
 (refine sRz<|vMz ?_;refine lvz (.notF rfl (by with_reducible rfl)) ?_;refine nNz<|cTz<|zL ?_;apply LW.v0;rfl;rfl;apply zW;infer_instance;infer_instance;exact zB;rfl;simp only [fillP,wrCells,Value.cells,qH,qI,qJ,qG,qL,qK,Nat.reduceAdd,qN];rfl;apply LW.v0;rfl;rfl;apply ValP.mkIface;kernel_rfl;rfl;apply LW.panic;rfl)
 exact inPP .nil ⟨rfl,rfl⟩
theorem tries1_idle (w0:World) (S:List Nat) (b:Nat) (x:Bool) (fs:Fs) (w:World) (hs:St w0 S ((b,.cells #[.bool x] 4 (0,0))::fs) w) :
  CallsDIn (FR none) 0 Tryz.prog 139 #[.pointer (some ⟨b,0,none⟩)] .returning w (fun e u' w'=>u'=.returning∧∃ fs',(e=.returned (.tuple #[])∧fs'=(b,.cells #[.bool x] 4 (0,0))::fs)∧St w0 S fs' w'):=by
 refine callsD_cw (args:=[_]) _ Tryz.func139 rfl Tryz.ntmps139 rfl (Rec1.one rfl) ?_ hs
 rw [recV_ret]
 (refine zM<|sRz ?_;apply LW.v0;rfl;rfl;apply ValP.eqNilT (U:=0);kernel_rfl;rfl;refine nNz<|cTz<|zL<|vAz ?_;apply zV;refine blkN ?_)
 exact inDI (.inr rfl) rfl (by (exact zF)) rfl ⟨rfl,rfl⟩
theorem tries1_failed (w0:World) (S:List Nat) (b:Nat) (x:Bool) (fs:Fs) (w:World) (hs:St w0 S ((b,.cells #[.bool x] 4 (0,0))::fs) w) :
  CallsDIn (FR none) 0 Tryz.prog 139 #[.pointer (some ⟨b,0,none⟩)] (.panicking failC) w (fun e u' w'=>u'=.panicking [{ v:=failV,recovered:=true }]∧∃ fs',(e=.returned (.tuple #[])∧∃ b2,fs'=b2::(b,.cells #[.bool false] 4 (0,0))::fs)∧St w0 S fs' w'):=by
 refine callsD_cw (args:=[_]) _ Tryz.func139 rfl Tryz.ntmps139 rfl (Rec1.one rfl) ?_ hs
 rw [recV_pan]
 (refine zM<|sRz ?_;apply LW.v0;rfl;rfl;apply ValP.eqNilF;kernel_rfl;rfl;refine nNz<|cFz<|sRz ?_;apply LW.v0;rfl;rfl;apply ValP.assertHit;kernel_rfl;rfl;refine vEz ?_;refine vEz ?_;refine nNz<|cTz<|sRz ?_;apply zU;rfl;intro _;refine zR rfl rfl .head (.whole rfl rfl rfl)<|nNz<|zL ?_;apply zR;rfl;rfl;apply qB;apply qA;apply Wr.cells;rfl;rfl;simp only [wc,List.size_toArray,List.length_cons,List.length_nil];omega;simp only [fillC,wc,wrCells,Value.cells,qJ,qG,qL,qK,Nat.reduceAdd,Nat.reduceMul,qN,Nat.mul_one];rfl;apply zV;refine blkN ?_)
 exact inDI (.inr rfl) rfl (by (exact zF)) rfl ⟨rfl,_,rfl⟩
def TryK (K:Out):Prop:=∀ x fs,K x fs→x=.returned (.tuple #[])∨x=.panicked failC
theorem tries_calls (w0:World) (S:List Nat) (f:FuncId) (cap:Array Value) (K:Out) (hK:TryK K) (hF:FnI Tryz.prog f) (own rest:Fs) (w:World)
  (hc:∀ rest w',St w0 S (own++rest) w'→Calls Tryz.prog f cap w' (fun x w''=>∃ fs',(∃ own',K x own'∧fs'=own'++rest)∧St w0 S fs' w'')) (hs:St w0 S (own++rest) w) :
  Calls Tryz.prog 114 #[.func (.func f) #[] cap] w (fun x w'=>∃ fs',(∃ ok own',x=.returned (.bool ok)∧K (match ok with|true=>.returned (.tuple #[])|false=>.panicked failC) own'∧fs'=own'++rest)∧St w0 S fs' w'):=by
 refine calls_inlineD (args:=[_]) Tryz.func114 rfl Tryz.ntmps114 rfl ?_ hs
 (refine sRz ?_;apply LW.alloc1;rfl;rfl;intro _;refine nSz ?_;apply LW.v0;rfl;rfl;apply ValP.makeFunc;exact ArgsOk.nil;exact .cons rfl .nil)
 rename_i bok
 apply LW.defer
 rfl
 rfl
 (apply zV;refine thenM<|sRz<|vMz ?_)
 refine LW.perm (fs':=own++(bok,.cells #[.bool false] 4 (0,0))::rest) List.perm_middle ?_
 refine LW.callP (K:=fun x fs'=>∃ own',K x own'∧fs'=own'++(bok,.cells #[.bool false] 4 (0,0))::rest) rfl rfl hF (by (exact ArgsOk.nil)) rfl (fun fs ⟨own',h,_⟩=>by rcases hK _ _ h with h|h<;>cases h) (fun w' hst=>by simpa using hc _ w' hst) ?_ ?_
 ·rintro v fs' ⟨own',hKv,rfl⟩
  obtain rfl:v=.tuple #[]:=by
   rcases hK _ _ hKv with h|h
   ·exact Ending.returned.inj h
   ·cases h
  refine LW.perm (fs':=(bok,.cells #[.bool false] 4 (0,0))::(own'++rest)) List.perm_middle.symm ?_
  (refine nSz ?_;apply zR;rfl;rfl;apply qA;apply Wr.cells;rfl;rfl;simp only [wc,List.size_toArray,List.length_cons,List.length_nil];omega;simp only [fillC,wc,wrCells,Value.cells,qJ,qG,qL,qK,Nat.reduceAdd,Nat.reduceMul,qN,Nat.mul_one];rfl;refine nNz<|zK ?_)
  refine outDI (.inl rfl) rfl fun a w2 s2=>?_
  refine leaves_clo (K:=fun e fs'=>e=.returned (.tuple #[])∧fs'=(bok,.cells #[.bool true] 4 (0,0))::(own'++rest)) inferInstance (fun h=>by cases h) (tries1_idle w0 S bok true (own'++rest) w2 s2.st) (fun fs h=>by cases h.1) ?_ ?_
  ·rintro v fs' w' ⟨_,rfl⟩ hst
   refine leaves_end (vs:=[.bool true]) (w:=w') rfl s2.env hst ?_ rfl ?_
   ·(apply zD;apply zH;rfl;apply qE;apply zY;exact Rd.one' rfl;exact zF)
   ·refine ⟨own'++rest,⟨true,own',rfl,hKv,rfl⟩,?_⟩
    exact ⟨hst.bel,fun p hp=>hst.own p (qO _ hp),(List.pairwise_cons.1 hst.nd).2⟩
  ·rintro ch fs' w' ⟨h,_⟩
   cases h
 ·rintro ch fs' ⟨own',hKv,rfl⟩
  obtain rfl:ch=failC:=by
   rcases hK _ _ hKv with h|h
   ·cases h
   ·exact Ending.panicked.inj h
  refine thenP ?_
  refine outDP rfl fun a w2 s2=>?_
  have s3:=s2.st.perm List.perm_middle.symm
  refine leaves_clo (K:=fun e fs'=>e=.returned (.tuple #[])∧∃ b2,fs'=b2::(bok,.cells #[.bool false] 4 (0,0))::(own'++rest)) inferInstance (fun h=>by cases h) (tries1_failed w0 S bok false (own'++rest) w2 s3) (fun fs h=>by cases h.1) ?_ ?_
  ·rintro v fs' w' ⟨_,b2,rfl⟩ hst
   refine leaves_end (vs:=[.bool false]) (w:=w') rfl s2.env hst ?_ rfl ?_
   ·(apply zD;apply zH;rfl;apply qE;apply zX;apply zY;exact Rd.one' rfl;exact zF)
   ·refine ⟨own'++rest,⟨false,own',rfl,hKv,rfl⟩,?_⟩
    exact ⟨hst.bel,fun p hp=>hst.own p (qO _ (qO _ hp)),(List.pairwise_cons.1 (List.pairwise_cons.1 hst.nd).2).2⟩
  ·rintro ch fs' w' ⟨h,_⟩
   cases h
end
section
def okSc (n k:Nat):Prop:=n≤64∧k≤1024∧k % 32=0
instance (n k:Nat):Decidable (okSc n k):=by unfold okSc;infer_instance
section rd
variable {P : Program} {T E : TypeId} {fr : Nat × Nat} {s m : Value}
theorem sc_rd0 [AgI P T false]:Rd P T (.cells #[s,m] E fr) 0 s:=Rd.one rfl
theorem sc_rd1 [AgI P T false]:Rd P T (.cells #[s,m] E fr) 1 m:=Rd.one rfl
end rd
theorem scCheck_calls (p q:Option Addr) (n c k d:Nat) (hn1:n≤maxLen) (hk1:k≤maxLen) (w:World):Calls Tryz.prog 66 #[.agg #[.slice p n c,.slice q k d]] w (Ret w (.int .i64 (if okSc n k then 0 else 230))):=by
 obtain ⟨e,he⟩:∃ e:Int,e=if okSc n k then 0 else 230:=⟨_,rfl⟩
 have hp:okSc n k→e=0:=fun h=>by rw [he,if_pos h]
 have hn:¬ okSc n k→e=230:=fun h=>by rw [he,if_neg h]
 rw [← he]
 clear he
 unfold okSc at hp hn
 refine enter (args:=[_]) _ [] [] Tryz.func66 rfl Tryz.ntmps66 rfl (by simp) .nil ?_
 (refine sRz ?_;apply zT;rfl;rfl;intro _;refine vAz<|nNz<|zI<|sRz<|vFz<|ldz rfl .head sc_rd0<|lvz (.lenR rfl inferInstance rfl)<|lvz (.gtr rfl rfl)<|vMz ?_)
 (refine LW.guardDF rfl rfl rfl (fun hsq hsp=>?_) (fun hsq hsp=>?_))
 (refine vFz<|gTaz<|ldz rfl .head sc_rd1<|gTaz<|lvz (.lenR rfl inferInstance rfl)<|gTaz<|lvz (.gtr rfl rfl)<|pFaz<|vMz ?_;refine LW.guardDF rfl rfl rfl (fun hsq hsp=>?_) (fun hsq hsp=>?_);refine vFz<|gTaz<|ldz rfl .head sc_rd1<|gTaz<|lvz (.lenR rfl inferInstance rfl)<|gTaz ?_;refine lvz (.remZL rfl rfl (by decide) (by omega)) ?_;refine gTaz<|lvz (.ne rfl rfl)<|pFaz<|nNz ?_;refine CW.condN rfl (fun hsq hsp=>?_) (fun hsq hsp=>?_);refine sRz<|vAz<|nNz<|zK ?_;refine thenR (finR (.inl rfl) rfl rfl rfl (.cons (.tmp rfl) .nil) ?_);rw [hn (by omega)];rfl;refine zJ<|thenN<|sRz<|vAz<|nNz<|zK ?_;apply finR;exact .inl rfl;rfl;rfl;rfl;apply zD;exact zG rfl;exact zF;rw [hp (by omega)];rfl;(iterate 4 refine gFaz ?_);refine pTaz<|nNz<|cTz<|sRz<|vAz<|nNz<|zK ?_;refine thenR (finR (.inl rfl) rfl rfl rfl (.cons (.tmp rfl) .nil) ?_);rw [hn (by omega)];rfl;(iterate 3 refine gFaz ?_);refine pTaz<|vMz ?_;(iterate 5 refine gFz ?_);refine pTz<|nNz<|cTz<|sRz<|vAz<|nNz<|zK ?_;refine thenR (finR (.inl rfl) rfl rfl rfl (.cons (.tmp rfl) .nil) ?_);rw [hn (by omega)];rfl)
end


theorem add64_run (x y c:Nat) (hc:c≤1) (w:World):(callFunc 174 #[.int .u64 x,.int .u64 y,.int .u64 c]).run Tryz.prog w=.ok (.value (.tuple #[.int .u64 (((x+y+c) % 18446744073709551616:Nat):Int),.int .u64 (((x+y+c) / 18446744073709551616:Nat):Int)])) w:=by
 rw [run_callFunc_extern Tryz.func174 (by kernel_rfl) (by kernel_rfl) (by kernel_rfl) (e:=add64Entry) (by kernel_rfl),run_add64 x y c (by omega) (by omega) (by omega) (by omega)]
 simp only [Result.andThen]
 congr 5<;>omega
theorem carried_calls (f:FuncId) (a0 a1 a2 a3 b0 b1 b2 b3 r0 r1 r2 r3 c1 c2 c3 c4:Nat) (w:World)
  (h0:∀ w,(callFunc f #[.int .u64 a0,.int .u64 b0,.int .u64 (0:Int)]).run Tryz.prog w=.ok (.value (.tuple #[.int .u64 r0,.int .u64 c1])) w)
  (h1:∀ w,(callFunc f #[.int .u64 a1,.int .u64 b1,.int .u64 c1]).run Tryz.prog w=.ok (.value (.tuple #[.int .u64 r1,.int .u64 c2])) w)
  (h2:∀ w,(callFunc f #[.int .u64 a2,.int .u64 b2,.int .u64 c2]).run Tryz.prog w=.ok (.value (.tuple #[.int .u64 r2,.int .u64 c3])) w)
  (h3:∀ w,(callFunc f #[.int .u64 a3,.int .u64 b3,.int .u64 c3]).run Tryz.prog w=.ok (.value (.tuple #[.int .u64 r3,.int .u64 c4])) w) :
  Calls Tryz.prog 173 #[.agg #[.int .u64 a0,.int .u64 a1,.int .u64 a2,.int .u64 a3],.agg #[.int .u64 b0,.int .u64 b1,.int .u64 b2,.int .u64 b3],.func (.func f) #[] #[]] w (Ret w (.tuple #[.agg #[.int .u64 r0,.int .u64 r1,.int .u64 r2,.int .u64 r3],.bool (!decide ((c4:Int)=0))])):=by
 refine enter (args:=[_,_,_]) _ [] [] Tryz.func173 rfl Tryz.ntmps173 rfl (by simp) .nil ?_
 (refine sRz ?_;apply zT;rfl;rfl;intro _;apply zT;rfl;rfl;intro _;apply LW.allocW;rfl;intro _;refine vAz<|nSz<|vAz<|nNz<|zI<|sRz<|vMz<|nNz<|zM ?_)
 apply CW.rounds 5
 (apply RW.step;refine sRz ?_;refine lvz (.lssT rfl rfl (by omega)) ?_;refine nNz<|zI<|cTz<|zJ<|thenN<|zI<|zM<|sRz<|vMz<|vAz<|nNz ?_;apply CW.pre;refine AnyW.any 15 mixed (by decide +kernel) ?_;(try simp only [tsOf_cons,tsOf_nil,tsOf_app]);refine dvz (.move rfl)<|dvz (.move rfl)<|dvz (.move rfl)<|dvz (.indexAddrL rfl rfl rfl) ?_;apply qD;rfl;rfl;rfl;exact zC;rfl;apply zO;apply zO;apply zP;exact zN;exact Rd.one' rfl;refine dvz (.move rfl)<|dvz (.indexAddrL rfl rfl rfl) ?_;apply qD;rfl;rfl;rfl;exact zC;rfl;apply zO;apply zP;exact zN;exact Rd.one' rfl;refine dvz (.move rfl) ?_;apply DW.callX;rfl;rfl;rfl;exact zC;rfl;exact .cons rfl (.cons rfl (.cons rfl .nil));rfl;exact h0;refine dvz (.move rfl) ?_;refine dvz (.extractN rfl rfl) ?_;refine dvz (.extractN rfl rfl) ?_;refine dvz (.indexAddrL rfl rfl rfl) ?_;apply DW.store;rfl;rfl;exact zC;rfl;rfl;apply TSet.tail;apply TSet.tail;apply TSet.head;exact zN;kernel_rfl;apply Wr.cells;rfl;rfl;simp only [wc,List.size_toArray,List.length_cons,List.length_nil];omega;simp only [fillC,wc,wrCells,Value.cells,qJ,qG,qL,qK,Nat.reduceAdd,Nat.reduceMul,qN,Nat.mul_one];rfl;apply DW.nil;simp only [fsOf_cons,fsOf_nil,fsOf_app,fsOf_tsOf,fsOf_new];refine vAz ?_;apply zV;refine blkN<|thenN<|zL ?_;refine lvz (.addI rfl rfl (by omega) (by omega)) ?_;refine vMz ?_;apply zV;refine thenL ?_)
 (apply RW.step;refine sRz ?_;refine lvz (.lssT rfl rfl (by omega)) ?_;refine nNz<|zI<|cTz<|zJ<|thenN<|zI<|zM<|sRz<|vMz<|vAz<|nNz ?_;apply CW.pre;refine AnyW.any 15 mixed (by decide +kernel) ?_;(try simp only [tsOf_cons,tsOf_nil,tsOf_app]);refine dvz (.move rfl)<|dvz (.move rfl)<|dvz (.move rfl)<|dvz (.indexAddrL rfl rfl rfl) ?_;apply qD;rfl;rfl;rfl;exact zC;rfl;apply zO;apply zO;apply zP;exact zN;exact Rd.one' rfl;refine dvz (.move rfl)<|dvz (.indexAddrL rfl rfl rfl) ?_;apply qD;rfl;rfl;rfl;exact zC;rfl;apply zO;apply zP;exact zN;exact Rd.one' rfl;refine dvz (.move rfl) ?_;apply DW.callX;rfl;rfl;rfl;exact zC;rfl;exact .cons rfl (.cons rfl (.cons rfl .nil));rfl;exact h1;refine dvz (.move rfl) ?_;refine dvz (.extractN rfl rfl) ?_;refine dvz (.extractN rfl rfl) ?_;refine dvz (.indexAddrL rfl rfl rfl) ?_;apply DW.store;rfl;rfl;exact zC;rfl;rfl;apply TSet.tail;apply TSet.tail;apply TSet.head;exact zN;kernel_rfl;apply Wr.cells;rfl;rfl;simp only [wc,List.size_toArray,List.length_cons,List.length_nil];omega;simp only [fillC,wc,wrCells,Value.cells,qJ,qG,qL,qK,Nat.reduceAdd,Nat.reduceMul,qN,Nat.mul_one];rfl;apply DW.nil;simp only [fsOf_cons,fsOf_nil,fsOf_app,fsOf_tsOf,fsOf_new];refine vAz ?_;apply zV;refine blkN<|thenN<|zL ?_;refine lvz (.addI rfl rfl (by omega) (by omega)) ?_;refine vMz ?_;apply zV;refine thenL ?_)
 (apply RW.step;refine sRz ?_;refine lvz (.lssT rfl rfl (by omega)) ?_;refine nNz<|zI<|cTz<|zJ<|thenN<|zI<|zM<|sRz<|vMz<|vAz<|nNz ?_;apply CW.pre;refine AnyW.any 15 mixed (by decide +kernel) ?_;(try simp only [tsOf_cons,tsOf_nil,tsOf_app]);refine dvz (.move rfl)<|dvz (.move rfl)<|dvz (.move rfl)<|dvz (.indexAddrL rfl rfl rfl) ?_;apply qD;rfl;rfl;rfl;exact zC;rfl;apply zO;apply zO;apply zP;exact zN;exact Rd.one' rfl;refine dvz (.move rfl)<|dvz (.indexAddrL rfl rfl rfl) ?_;apply qD;rfl;rfl;rfl;exact zC;rfl;apply zO;apply zP;exact zN;exact Rd.one' rfl;refine dvz (.move rfl) ?_;apply DW.callX;rfl;rfl;rfl;exact zC;rfl;exact .cons rfl (.cons rfl (.cons rfl .nil));rfl;exact h2;refine dvz (.move rfl) ?_;refine dvz (.extractN rfl rfl) ?_;refine dvz (.extractN rfl rfl) ?_;refine dvz (.indexAddrL rfl rfl rfl) ?_;apply DW.store;rfl;rfl;exact zC;rfl;rfl;apply TSet.tail;apply TSet.tail;apply TSet.head;exact zN;kernel_rfl;apply Wr.cells;rfl;rfl;simp only [wc,List.size_toArray,List.length_cons,List.length_nil];omega;simp only [fillC,wc,wrCells,Value.cells,qJ,qG,qL,qK,Nat.reduceAdd,Nat.reduceMul,qN,Nat.mul_one];rfl;apply DW.nil;simp only [fsOf_cons,fsOf_nil,fsOf_app,fsOf_tsOf,fsOf_new];refine vAz ?_;apply zV;refine blkN<|thenN<|zL ?_;refine lvz (.addI rfl rfl (by omega) (by omega)) ?_;refine vMz ?_;apply zV;refine thenL ?_)
 (apply RW.step;refine sRz ?_;refine lvz (.lssT rfl rfl (by omega)) ?_;refine nNz<|zI<|cTz<|zJ<|thenN<|zI<|zM<|sRz<|vMz<|vAz<|nNz ?_;apply CW.pre;refine AnyW.any 15 mixed (by decide +kernel) ?_;(try simp only [tsOf_cons,tsOf_nil,tsOf_app]);refine dvz (.move rfl)<|dvz (.move rfl)<|dvz (.move rfl)<|dvz (.indexAddrL rfl rfl rfl) ?_;apply qD;rfl;rfl;rfl;exact zC;rfl;apply zO;apply zO;apply zP;exact zN;exact Rd.one' rfl;refine dvz (.move rfl)<|dvz (.indexAddrL rfl rfl rfl) ?_;apply qD;rfl;rfl;rfl;exact zC;rfl;apply zO;apply zP;exact zN;exact Rd.one' rfl;refine dvz (.move rfl) ?_;apply DW.callX;rfl;rfl;rfl;exact zC;rfl;exact .cons rfl (.cons rfl (.cons rfl .nil));rfl;exact h3;refine dvz (.move rfl) ?_;refine dvz (.extractN rfl rfl) ?_;refine dvz (.extractN rfl rfl) ?_;refine dvz (.indexAddrL rfl rfl rfl) ?_;apply DW.store;rfl;rfl;exact zC;rfl;rfl;apply TSet.tail;apply TSet.tail;apply TSet.head;exact zN;kernel_rfl;apply Wr.cells;rfl;rfl;simp only [wc,List.size_toArray,List.length_cons,List.length_nil];omega;simp only [fillC,wc,wrCells,Value.cells,qJ,qG,qL,qK,Nat.reduceAdd,Nat.reduceMul,qN,Nat.mul_one];rfl;apply DW.nil;simp only [fsOf_cons,fsOf_nil,fsOf_app,fsOf_tsOf,fsOf_new];refine vAz ?_;apply zV;refine blkN<|thenN<|zL ?_;refine lvz (.addI rfl rfl (by omega) (by omega)) ?_;refine vMz ?_;apply zV;refine thenL ?_)
 (apply RW.step;refine sRz ?_;refine lvz (.lssF rfl rfl (by omega)) ?_;refine nNz<|zI<|cFz<|CW.exit<|thenE<|thenE<|blkE rfl<|thenN<|sRz<|ldz rfl (.tail (.tail .head)) (qF rfl)<|vMz<|lvz (.ne rfl rfl) ?_;refine zR rfl rfl .head (.whole rfl rfl rfl)<|vAz<|nNz<|zK ?_)
 (apply finR;exact .inl rfl;rfl;rfl;rfl;apply zD;apply zH;rfl;apply qE;apply zY;exact qF rfl;apply zD;exact zG rfl;exact zF)
 rfl
theorem Of_calls (n:Nat) (hn:n < 18446744073709551616) (w:World):Calls Tryz.prog 80 #[.int .u64 n] w (Ret w (wv n)):=by
 refine enter (args:=[_]) _ [] [] Tryz.func80 rfl Tryz.ntmps80 rfl (by simp) .nil ?_
 (refine sRz ?_;apply LW.allocW;rfl;intro _;refine nSz<|vMz ?_;refine lvz (.buildW1 rfl (by omega)) ?_;refine zR rfl rfl .head (.whole rfl rfl rfl)<|nNz<|zK ?_)
 (apply finR;exact .inl rfl;rfl;rfl;rfl;apply zD;apply zH;rfl;apply qE;apply zY;exact qF rfl;exact zF)
 rfl
theorem small_or (a:Nat) (ha:a < M256):(((a / 18446744073709551616 % 18446744073709551616 |||a / 340282366920938463463374607431768211456 % 18446744073709551616 |||a / 6277101735386680763835789423207666416102355444464034512896 % 18446744073709551616:Nat):Int)=0)↔a < 18446744073709551616:=by
 simp only [M256] at ha
 rw [Int.natCast_eq_zero,Nat.or_eq_zero_iff,Nat.or_eq_zero_iff]
 omega
theorem Small_calls (a:Nat) (ha:a < M256) (w:World):Calls Tryz.prog 121 #[wv a] w (Ret w (.tuple #[.int .u64 ((if a < 18446744073709551616 then a else 0:Nat):Int),.bool (decide (a < 18446744073709551616))])):=by
 refine enter (args:=[_]) _ [] [] Tryz.func121 rfl Tryz.ntmps121 rfl (by simp) .nil ?_
 (refine sRz ?_;apply zT;rfl;rfl;intro _;refine vAz<|vAz<|nNz<|zI<|sRz<|lvz (.indexAddrL rfl rfl rfl)<|ldz rfl .head (Rd.one' rfl)<|lvz (.indexAddrL rfl rfl rfl)<|ldz rfl .head (Rd.one' rfl) ?_;refine lvz (.orU rfl rfl (by omega) (by omega)) ?_;refine lvz (.indexAddrL rfl rfl rfl)<|ldz rfl .head (Rd.one' rfl) ?_;apply LW.v0;rfl;rfl;apply ValP.orU;rfl;rfl;apply or64;omega;omega;omega;refine lvz (.ne rfl rfl)<|nNz ?_)
 apply CW.cond
 rfl
 ·intro hb
  have h:¬ a < 18446744073709551616:=fun h=>by rw [decide_eq_true ((small_or a ha).2 h)] at hb;cases hb
  (refine sRz<|vAz<|vAz<|nNz<|zK<|thenR ?_)
  (apply finR;exact .inl rfl;rfl;rfl;rfl;apply zD;exact zG rfl;apply zD;exact zG rfl;exact zF)
  rw [if_neg h,decide_eq_false h];rfl
 ·intro hb
  have h:a < 18446744073709551616:=(small_or a ha).1 (by simpa using hb)
  (refine zJ<|thenN<|sRz<|lvz (.indexAddrL rfl rfl rfl)<|ldz rfl .head (Rd.one' rfl)<|vAz<|vAz<|nNz<|zK ?_)
  (apply finR;exact .inl rfl;rfl;rfl;rfl;apply zD;exact zG rfl;apply zD;exact zG rfl;exact zF)
  rw [if_pos h,decide_eq_true h,show (a:Int)=((a % 18446744073709551616:Nat):Int) by omega];rfl
theorem val_limbs (a:Nat) (ha:a < M256):a=a % 18446744073709551616+18446744073709551616 * (a / 18446744073709551616 % 18446744073709551616)+340282366920938463463374607431768211456 * (a / 340282366920938463463374607431768211456 % 18446744073709551616)+6277101735386680763835789423207666416102355444464034512896 * (a / 6277101735386680763835789423207666416102355444464034512896 % 18446744073709551616):=by
 simp only [M256] at ha
 omega
theorem over_of {c:Nat} {p:Prop} [Decidable p] (h:(c:Int)=0↔¬ p):(!decide ((c:Int)=0))=decide p:=by
 by_cases hp:p
 ·have:¬ ((c:Int)=0):=fun h'=>(h.1 h') hp
  rw [decide_eq_false this,decide_eq_true hp];rfl
 ·rw [decide_eq_true (h.2 hp),decide_eq_false hp];rfl
theorem lim_lt (a:Nat):a % 18446744073709551616 < 18446744073709551616∧a / 18446744073709551616 % 18446744073709551616 < 18446744073709551616∧a / 340282366920938463463374607431768211456 % 18446744073709551616 < 18446744073709551616∧a / 6277101735386680763835789423207666416102355444464034512896 % 18446744073709551616 < 18446744073709551616:=by
 refine ⟨?_,?_,?_,?_⟩<;>exact Nat.mod_lt _ (by decide)
theorem add_step (x y c:Nat) (hx:x < 18446744073709551616) (hy:y < 18446744073709551616) (hc:c≤1):∃ r c',(∀ w,(callFunc 174 #[.int .u64 x,.int .u64 y,.int .u64 c]).run Tryz.prog w=.ok (.value (.tuple #[.int .u64 (r:Nat),.int .u64 (c':Nat)])) w)∧r+18446744073709551616 * c'=x+y+c∧r < 18446744073709551616∧c'≤1 :=
 ⟨_,_,fun w=>add64_run x y c hc w,by omega,by omega,by omega⟩
theorem carried_finAdd (a b a0 a1 a2 a3 b0 b1 b2 b3 r0 r1 r2 r3 c1 c2 c3 c4:Nat) (va:a=a0+18446744073709551616 * a1+340282366920938463463374607431768211456 * a2+6277101735386680763835789423207666416102355444464034512896 * a3) (vb:b=b0+18446744073709551616 * b1+340282366920938463463374607431768211456 * b2+6277101735386680763835789423207666416102355444464034512896 * b3) (e0:r0+18446744073709551616 * c1=a0+b0+0) (e1:r1+18446744073709551616 * c2=a1+b1+c1) (e2:r2+18446744073709551616 * c3=a2+b2+c2) (e3:r3+18446744073709551616 * c4=a3+b3+c3):r0+18446744073709551616 * r1+340282366920938463463374607431768211456 * r2+6277101735386680763835789423207666416102355444464034512896 * r3+115792089237316195423570985008687907853269984665640564039457584007913129639936 * c4=a+b:=by omega
theorem carried_valAdd (a b r0 r1 r2 r3 c4:Nat) (ha:a < M256) (hb:b < M256) (f0:r0 < 18446744073709551616) (f1:r1 < 18446744073709551616) (f2:r2 < 18446744073709551616) (f3:r3 < 18446744073709551616) (g4:c4≤1) (h:r0+18446744073709551616 * r1+340282366920938463463374607431768211456 * r2+6277101735386680763835789423207666416102355444464034512896 * r3+115792089237316195423570985008687907853269984665640564039457584007913129639936 * c4=a+b):#[Value.int .u64 (r0:Int),.int .u64 (r1:Int),.int .u64 (r2:Int),.int .u64 (r3:Int)]=wc ((a+b) % M256) :=
 wc_val f0 f1 f2 f3 (by simp only [M256] at *;omega)
theorem carried_overAdd (a b r0 r1 r2 r3 c4:Nat) (ha:a < M256) (hb:b < M256) (f0:r0 < 18446744073709551616) (f1:r1 < 18446744073709551616) (f2:r2 < 18446744073709551616) (f3:r3 < 18446744073709551616) (g4:c4≤1) (h:r0+18446744073709551616 * r1+340282366920938463463374607431768211456 * r2+6277101735386680763835789423207666416102355444464034512896 * r3+115792089237316195423570985008687907853269984665640564039457584007913129639936 * c4=a+b):(!decide ((c4:Int)=0))=decide (M256≤a+b):=by
 have:((c4:Int)=0)↔¬ (M256≤a+b):=by simp only [M256] at *;omega
 exact over_of this
theorem carriedAdd_calls (a b:Nat) (ha:a < M256) (hb:b < M256) (w:World):Calls Tryz.prog 173 #[wv a,wv b,.func (.func 174) #[] #[]] w (Ret w (.tuple #[wv ((a+b) % M256),.bool (decide (M256≤a+b))])):=by
 obtain ⟨la0,la1,la2,la3⟩:=lim_lt a
 obtain ⟨lb0,lb1,lb2,lb3⟩:=lim_lt b
 have va:=val_limbs a ha
 have vb:=val_limbs b hb
 obtain ⟨r0,c1,h0,e0,f0,g1⟩:=add_step (a % 18446744073709551616) (b % 18446744073709551616) 0 la0 lb0 (by decide)
 obtain ⟨r1,c2,h1,e1,f1,g2⟩:=add_step (a / 18446744073709551616 % 18446744073709551616) (b / 18446744073709551616 % 18446744073709551616) c1 la1 lb1 g1
 obtain ⟨r2,c3,h2,e2,f2,g3⟩:=add_step (a / 340282366920938463463374607431768211456 % 18446744073709551616) (b / 340282366920938463463374607431768211456 % 18446744073709551616) c2 la2 lb2 g2
 obtain ⟨r3,c4,h3,e3,f3,g4⟩:=add_step (a / 6277101735386680763835789423207666416102355444464034512896 % 18446744073709551616) (b / 6277101735386680763835789423207666416102355444464034512896 % 18446744073709551616) c3 la3 lb3 g3
 have key:=carried_calls 174 _ _ _ _ _ _ _ _ _ _ _ _ _ _ _ _ w h0 h1 h2 h3
 clear h0 h1 h2 h3
 have h:r0+18446744073709551616 * r1+340282366920938463463374607431768211456 * r2+6277101735386680763835789423207666416102355444464034512896 * r3+115792089237316195423570985008687907853269984665640564039457584007913129639936 * c4=a+b:=carried_finAdd _ _ _ _ _ _ _ _ _ _ _ _ _ _ _ _ _ _ va vb e0 e1 e2 e3
 rw [show #[Value.int .u64 (r0:Int),.int .u64 (r1:Int),.int .u64 (r2:Int),.int .u64 (r3:Int)]=wc ((a+b) % M256) from carried_valAdd _ _ _ _ _ _ _ ha hb f0 f1 f2 f3 g4 h,carried_overAdd _ _ _ _ _ _ _ ha hb f0 f1 f2 f3 g4 h] at key
 exact key
theorem Add_calls (a b:Nat) (ha:a < M256) (hb:b < M256) (w:World):Calls Tryz.prog 167 #[wv a,wv b] w (Ret w (.tuple #[wv ((a+b) % M256),.bool (decide (M256≤a+b))])):=by
 refine enter (args:=[_,_]) _ [] [] Tryz.func167 rfl Tryz.ntmps167 rfl (by simp) .nil ?_
 (refine sRz ?_;apply zT;rfl;rfl;intro _;apply zT;rfl;rfl;intro _;apply LW.allocW;rfl;intro _;refine vAz<|nSz<|ldz rfl (.tail (.tail .head)) (qF rfl)<|ldz rfl (.tail .head) (qF rfl) ?_;apply zS;rfl;rfl;infer_instance;exact .cons rfl (.cons rfl (.cons rfl .nil));intro w _;refine carriedAdd_calls _ _ ?_ ?_ w;assumption;assumption;refine vEz ?_;refine vEz ?_;refine zR rfl rfl .head (.whole rfl rfl rfl)<|vAz<|nNz<|zK ?_)
 (apply finR;exact .inl rfl;rfl;rfl;rfl;apply zD;apply zH;rfl;apply qE;apply zY;exact qF rfl;apply zD;exact zG rfl;exact zF)
 rfl




def wcs (l:List Nat):List Value:=l.flatMap fun a=>(wc a).toList
theorem wcs_len (l:List Nat):∀ a∈l,((wc a).toList).length=4:=fun _ _=>rfl
theorem take_step (l:List Nat) (m:Nat) (h:m < l.length):(l.take (m+1)).sum=(l.take m).sum+l[m]:=by
 rw [List.take_succ_eq_append_getElem h,List.sum_append];simp




structure OpV where
 c:Nat
 nm:List UInt8
 tk:Nat
 ly:Nat
 dt:Nat
def opl (x:OpV):List Value:=[.int .u8 (x.c:Int),sv x.nm,.int .i64 (x.tk:Int),.int .i64 (x.ly:Int),.int .i64 (x.dt:Int)]
abbrev opc (x:OpV):Array Value:=(opl x).toArray
def opcs (l:List OpV):List Value:=l.flatMap opl
theorem opl_len (l:List OpV):∀ x∈l,(opl x).length=5:=fun _ _=>rfl
def plainOps:List OpV:=[
 ⟨0,[83,84,79,80],0,0,0⟩,
 ⟨1,[65,68,68],2,1,0⟩,
 ⟨2,[77,85,76],2,1,0⟩,
 ⟨3,[83,85,66],2,1,0⟩,
 ⟨4,[68,73,86],2,1,0⟩,
 ⟨6,[77,79,68],2,1,0⟩,
 ⟨16,[76,84],2,1,0⟩,
 ⟨17,[71,84],2,1,0⟩,
 ⟨20,[69,81],2,1,0⟩,
 ⟨21,[73,83,90,69,82,79],1,1,0⟩,
 ⟨22,[65,78,68],2,1,0⟩,
 ⟨23,[79,82],2,1,0⟩,
 ⟨24,[88,79,82],2,1,0⟩,
 ⟨25,[78,79,84],1,1,0⟩,
 ⟨27,[83,72,76],2,1,0⟩,
 ⟨28,[83,72,82],2,1,0⟩,
 ⟨32,[72,65,83,72],2,1,0⟩,
 ⟨48,[65,68,68,82,69,83,83],0,1,0⟩,
 ⟨49,[66,65,76,65,78,67,69],1,1,0⟩,
 ⟨50,[79,82,73,71,73,78],0,1,0⟩,
 ⟨51,[67,65,76,76,69,82],0,1,0⟩,
 ⟨52,[67,65,76,76,86,65,76,85,69],0,1,0⟩,
 ⟨53,[68,65,84,65,76,79,65,68],1,1,0⟩,
 ⟨54,[68,65,84,65,83,73,90,69],0,1,0⟩,
 ⟨55,[68,65,84,65,67,79,80,89],3,0,0⟩,
 ⟨61,[82,69,84,85,82,78,83,73,90,69],0,1,0⟩,
 ⟨62,[82,69,84,85,82,78,67,79,80,89],3,0,0⟩,
 ⟨66,[84,73,77,69],0,1,0⟩,
 ⟨67,[78,85,77,66,69,82],0,1,0⟩,
 ⟨71,[83,69,76,70,66,65,76,65,78,67,69],0,1,0⟩,
 ⟨72,[66,65,83,69,70,69,69],0,1,0⟩,
 ⟨80,[80,79,80],1,0,0⟩,
 ⟨81,[77,76,79,65,68],1,1,0⟩,
 ⟨82,[77,83,84,79,82,69],2,0,0⟩,
 ⟨83,[77,83,84,79,82,69,56],2,0,0⟩,
 ⟨84,[83,76,79,65,68],1,1,0⟩,
 ⟨85,[83,83,84,79,82,69],2,0,0⟩,
 ⟨86,[74,85,77,80],1,0,0⟩,
 ⟨87,[74,85,77,80,73],2,0,0⟩,
 ⟨90,[71,65,83],0,1,0⟩,
 ⟨91,[74,85,77,80,68,69,83,84],0,0,0⟩,
 ⟨92,[84,76,79,65,68],1,1,0⟩,
 ⟨93,[84,83,84,79,82,69],2,0,0⟩,
 ⟨241,[67,65,76,76],7,1,0⟩,
 ⟨243,[82,69,84,85,82,78],2,0,0⟩,
 ⟨244,[68,69,76,69,71,65,84,69,67,65,76,76],6,1,0⟩,
 ⟨245,[67,82,69,65,84,69,50],4,1,0⟩,
 ⟨250,[83,84,65,84,73,67,67,65,76,76],6,1,0⟩,
 ⟨253,[82,69,86,69,82,84],2,0,0⟩,
 ⟨254,[73,78,86,65,76,73,68],0,0,0⟩]
def itoa (n:Nat):List UInt8:=if n < 10 then [UInt8.ofNat (48+n)] else [UInt8.ofNat (48+n / 10),UInt8.ofNat (48+n % 10)]
def rowOp (b:Nat):Option OpV :=
 if 96≤b∧b≤127 then some ⟨b,[80,85,83,72]++itoa (b - 95),0,1,b - 95⟩
 else if 128≤b∧b≤143 then some ⟨b,[68,85,80]++itoa (b - 127),b - 127,b - 126,0⟩
 else if 144≤b∧b≤159 then some ⟨b,[83,87,65,80]++itoa (b - 143),b - 142,b - 142,0⟩
 else none
def opOf (b:Nat):Option OpV:=match rowOp b with
 |some x=>some x
 |none=>plainOps.find? (fun x=>x.c == b)
def lows:List UInt8:=[48,49,50,51,52,53,54,55,56,57,97,98,99,100,101,102,103,104,105,106,107,108,109,110,111,112,113,114,115,116,117,118,119,120,121,122]
def smalls:List UInt8:=(List.range 100).flatMap fun n=>[UInt8.ofNat (48+n / 10),UInt8.ofNat (48+n % 10)]
theorem lows_cut:∀ n,n < 10→(lows.drop n).take (n+1 - n)=itoa n:=by decide +kernel
theorem smalls_cut:∀ n,n < 100→10≤n→(smalls.drop (n * 2)).take (n * 2+2 - n * 2)=itoa n:=by decide +kernel
theorem small_calls (n:Nat) (hn:n < 100) (w:World):Calls Tryz.prog 175 #[.int .i64 (n:Int)] w (Ret w (sv (itoa n))):=by
 refine enter (args:=[_]) _ [] [] Tryz.func175 rfl Tryz.ntmps175 rfl (by simp) .nil ?_
 rcases Nat.lt_or_ge n 10 with h|h
 ·(refine sRz<|vAz<|nNz<|zI<|sRz<|vMz ?_;refine lvz (.lssT rfl rfl (by omega)) ?_;refine nNz<|cTz<|sRz<|vMz<|vMz ?_;refine lvz (.addZL rfl rfl (by decide) (by omega)) ?_;apply LW.v0;rfl;rfl;apply ValP.cutStr;infer_instance;rfl;rfl;rfl;omega;simp;omega;refine vAz<|nNz<|zK<|thenR ?_)
  (apply finR;exact .inl rfl;rfl;rfl;rfl;apply zD;exact zG rfl;exact zF)
  exact congrArg (fun l=>sv l) (lows_cut n h)
 ·(refine sRz<|vAz<|nNz<|zI<|sRz<|vMz ?_;refine lvz (.lssF rfl rfl (by omega)) ?_;refine nNz<|cFz<|zJ<|thenN<|sRz<|vMz ?_;refine lvz (.mulZL rfl rfl (by decide) (by omega)) ?_;refine vMz ?_;refine lvz (.mulZL rfl rfl (by decide) (by omega)) ?_;refine lvz (.addZL rfl rfl (by decide) (by omega)) ?_;apply LW.v0;rfl;rfl;apply ValP.cutStr;infer_instance;rfl;rfl;rfl;omega;simp;omega;refine vAz<|nNz<|zK ?_)
  (apply finR;exact .inl rfl;rfl;rfl;rfl;apply zD;exact zG rfl;exact zF)
  exact congrArg (fun l=>sv l) (smalls_cut n hn h)
theorem FormatInt_calls (n:Nat) (hn:n < 100) (w:World):Calls Tryz.prog 170 #[.int .i64 (n:Int),.int .i64 10] w (Ret w (sv (itoa n))):=by
 refine enter (args:=[_,_]) _ [] [] Tryz.func170 rfl Tryz.ntmps170 rfl (by simp) .nil ?_
 (refine sRz<|vAz<|nNz<|zI<|sRz<|vMz ?_;refine lvz (.eqT rfl rfl (by omega)) ?_;refine nNz<|cTz<|zI<|sRz<|vMz ?_;refine lvz (.leqT rfl rfl (by omega)) ?_;refine vMz<|gTz<|vMz<|gTz ?_;refine lvz (.lssT rfl rfl (by omega)) ?_;refine pTz<|nNz<|cTz<|sRz<|vMz ?_;apply zS;rfl;rfl;infer_instance;exact .cons rfl .nil;intro w _;exact small_calls _ hn w;refine vAz<|nNz<|zK<|thenR<|thenR ?_)
 (apply finR;exact .inl rfl;rfl;rfl;rfl;apply zD;exact zG rfl;exact zF)
 rfl
theorem iItoa_calls (n:Nat) (hn:n < 100) (w:World):Calls Tryz.prog 163 #[.int .i64 (n:Int)] w (Ret w (sv (itoa n))):=by
 have h1:=FormatInt_calls n hn
 refine enter (args:=[_]) _ [] [] Tryz.func163 rfl Tryz.ntmps163 rfl (by simp) .nil ?_
 (refine sRz<|vAz<|nSz<|vMz ?_;apply zS;rfl;rfl;infer_instance;exact .cons rfl (.cons rfl .nil);intro w _;exact h1 w;refine vAz<|nNz<|zK ?_)
 (apply finR;exact .inl rfl;rfl;rfl;rfl;apply zD;exact zG rfl;exact zF)
 rfl
theorem Itoa_calls (n:Nat) (hn:n < 100) (w:World):Calls Tryz.prog 153 #[.int .i64 (n:Int)] w (Ret w (sv (itoa n))):=by
 have h1:=iItoa_calls n hn
 refine enter (args:=[_]) _ [] [] Tryz.func153 rfl Tryz.ntmps153 rfl (by simp) .nil ?_
 (refine sRz<|vAz<|nSz<|vMz ?_;apply zS;rfl;rfl;infer_instance;exact .cons rfl .nil;intro w _;exact h1 w;refine vAz<|nNz<|zK ?_)
 (apply finR;exact .inl rfl;rfl;rfl;rfl;apply zD;exact zG rfl;exact zF)
 rfl
theorem itoa_len (n:Nat):(itoa n).length≤2:=by unfold itoa;split<;>simp
def tupOp (o:Option OpV):Value:=match o with
 |some x=>.tuple #[.agg (opc x),.bool true]
 |none=>.tuple #[.agg (opc ⟨0,[],0,0,0⟩),.bool false]
theorem row_calls (b:Nat) (hb:b < 256) (w:World):Calls Tryz.prog 130 #[.int .u8 (b:Int)] w (Ret w (tupOp (rowOp b))):=by
 have hl:=itoa_len
 refine enter (args:=[_]) _ [] [] Tryz.func130 rfl Tryz.ntmps130 rfl (by simp) .nil ?_
 rcases Nat.lt_or_ge b 96 with h1|h1
 ·rw [show rowOp b=none by unfold rowOp;rw [if_neg (by omega),if_neg (by omega),if_neg (by omega)]]
  (refine sRz ?_;apply zU;rfl;intro _;refine vAz<|nSz<|vMz ?_;refine lvz (.convI rfl (by omega) (by omega)) ?_;refine vAz<|nNz<|zI<|zM<|sRz<|vMz ?_;refine lvz (.geqF rfl rfl (by omega)) ?_;refine vMz<|gFz<|gFz<|pFz<|vAz<|nNz<|cFz<|sRz<|vMz ?_;refine lvz (.geqF rfl rfl (by omega)) ?_;refine vMz<|gFz<|gFz<|pFz<|vAz<|nNz<|cFz<|sRz<|vMz ?_;refine lvz (.geqF rfl rfl (by omega)) ?_;refine vMz<|gFz<|gFz<|pFz<|vAz<|nNz<|cFz<|zJ<|blkN<|thenN<|sRz ?_;apply LW.v0;rfl;rfl;apply zW;infer_instance;infer_instance;exact zB;rfl;simp only [fillP,wrCells,Value.cells,qH,qI,qJ,qG,qL,qK,Nat.reduceAdd,qN];rfl;refine zR rfl rfl .head (.whole rfl rfl rfl)<|vAz<|nNz<|zK ?_)
  (apply finR;exact .inl rfl;rfl;rfl;rfl;apply zD;apply zH;rfl;apply qE;apply zY;exact qF rfl;apply zD;exact zG rfl;exact zF)
  rfl
 rcases Nat.lt_or_ge b 128 with h2|h2
 ·rw [show rowOp b=some ⟨b,[80,85,83,72]++itoa (b - 95),0,1,b - 95⟩ by unfold rowOp;rw [if_pos (by omega)]]
  have hn:=Itoa_calls (b - 95) (by omega)
  have hl1:=hl (b - 95)
  (refine sRz ?_;apply zU;rfl;intro _;refine vAz<|nSz<|vMz ?_;refine lvz (.convI rfl (by omega) (by omega)) ?_;refine vAz<|nNz<|zI<|zM<|sRz<|vMz ?_;refine lvz (.geqT rfl rfl (by omega)) ?_;refine vMz<|gTz<|vMz<|gTz ?_;refine lvz (.leqT rfl rfl (by omega)) ?_;refine pTz<|vAz<|nNz<|cTz<|sRz<|vMz ?_;refine lvz (.subZL rfl rfl (by decide) (by omega) (by omega)) ?_;refine vAz<|nSz<|vMz<|vMz ?_;apply zS;rfl;rfl;infer_instance;exact .cons rfl .nil;intro w _;exact hn w;apply LW.v0;rfl;rfl;apply ValP.addStr;rfl;rfl;simp;omega;refine vMz ?_;apply LW.v0;rfl;rfl;apply zW;infer_instance;infer_instance;apply zA;rfl;apply zA;rfl;apply zA;rfl;apply zA;rfl;exact zB;rfl;simp only [fillP,wrCells,Value.cells,qH,qI,qJ,qG,qL,qK,Nat.reduceAdd,qN];rfl;refine zR rfl rfl .head (.whole rfl rfl rfl)<|vAz<|nNz<|zK<|blkR<|thenR ?_)
  (apply finR;exact .inl rfl;rfl;rfl;rfl;apply zD;apply zH;rfl;apply qE;apply zY;exact qF rfl;apply zD;exact zG rfl;exact zF)
  rfl
 rcases Nat.lt_or_ge b 144 with h3|h3
 ·rw [show rowOp b=some ⟨b,[68,85,80]++itoa (b - 127),b - 127,b - 127+1,0⟩ by unfold rowOp;rw [if_neg (by omega),if_pos (by omega),show b - 126=b - 127+1 by omega]]
  have hn:=Itoa_calls (b - 127) (by omega)
  have hl1:=hl (b - 127)
  (refine sRz ?_;apply zU;rfl;intro _;refine vAz<|nSz<|vMz ?_;refine lvz (.convI rfl (by omega) (by omega)) ?_;refine vAz<|nNz<|zI<|zM<|sRz<|vMz ?_;refine lvz (.geqT rfl rfl (by omega)) ?_;refine vMz<|gTz<|vMz<|gTz ?_;refine lvz (.leqF rfl rfl (by omega)) ?_;refine pTz<|vAz<|nNz<|cFz<|sRz<|vMz ?_;refine lvz (.geqT rfl rfl (by omega)) ?_;refine vMz<|gTz<|vMz<|gTz ?_;refine lvz (.leqT rfl rfl (by omega)) ?_;refine pTz<|vAz<|nNz<|cTz<|sRz<|vMz ?_;refine lvz (.subZL rfl rfl (by decide) (by omega) (by omega)) ?_;refine vAz<|nSz<|vMz<|vMz ?_;apply zS;rfl;rfl;infer_instance;exact .cons rfl .nil;intro w _;exact hn w;apply LW.v0;rfl;rfl;apply ValP.addStr;rfl;rfl;simp;omega;refine vMz<|vMz ?_;refine lvz (.addZL rfl rfl (by decide) (by omega)) ?_;apply LW.v0;rfl;rfl;apply zW;infer_instance;infer_instance;apply zA;rfl;apply zA;rfl;apply zA;rfl;apply zA;rfl;exact zB;rfl;simp only [fillP,wrCells,Value.cells,qH,qI,qJ,qG,qL,qK,Nat.reduceAdd,qN];rfl;refine zR rfl rfl .head (.whole rfl rfl rfl)<|vAz<|nNz<|zK<|blkR<|thenR ?_)
  (apply finR;exact .inl rfl;rfl;rfl;rfl;apply zD;apply zH;rfl;apply qE;apply zY;exact qF rfl;apply zD;exact zG rfl;exact zF)
  rfl
 rcases Nat.lt_or_ge b 160 with h4|h4
 ·rw [show rowOp b=some ⟨b,[83,87,65,80]++itoa (b - 143),b - 143+1,b - 143+1,0⟩ by unfold rowOp;rw [if_neg (by omega),if_neg (by omega),if_pos (by omega),show b - 142=b - 143+1 by omega]]
  have hn:=Itoa_calls (b - 143) (by omega)
  have hl1:=hl (b - 143)
  (refine sRz ?_;apply zU;rfl;intro _;refine vAz<|nSz<|vMz ?_;refine lvz (.convI rfl (by omega) (by omega)) ?_;refine vAz<|nNz<|zI<|zM<|sRz<|vMz ?_;refine lvz (.geqT rfl rfl (by omega)) ?_;refine vMz<|gTz<|vMz<|gTz ?_;refine lvz (.leqF rfl rfl (by omega)) ?_;refine pTz<|vAz<|nNz<|cFz<|sRz<|vMz ?_;refine lvz (.geqT rfl rfl (by omega)) ?_;refine vMz<|gTz<|vMz<|gTz ?_;refine lvz (.leqF rfl rfl (by omega)) ?_;refine pTz<|vAz<|nNz<|cFz<|sRz<|vMz ?_;refine lvz (.geqT rfl rfl (by omega)) ?_;refine vMz<|gTz<|vMz<|gTz ?_;refine lvz (.leqT rfl rfl (by omega)) ?_;refine pTz<|vAz<|nNz<|cTz<|sRz<|vMz ?_;refine lvz (.subZL rfl rfl (by decide) (by omega) (by omega)) ?_;refine vAz<|nSz<|vMz<|vMz ?_;apply zS;rfl;rfl;infer_instance;exact .cons rfl .nil;intro w _;exact hn w;apply LW.v0;rfl;rfl;apply ValP.addStr;rfl;rfl;simp;omega;refine vMz ?_;refine lvz (.addZL rfl rfl (by decide) (by omega)) ?_;refine vMz ?_;refine lvz (.addZL rfl rfl (by decide) (by omega)) ?_;apply LW.v0;rfl;rfl;apply zW;infer_instance;infer_instance;apply zA;rfl;apply zA;rfl;apply zA;rfl;apply zA;rfl;exact zB;rfl;simp only [fillP,wrCells,Value.cells,qH,qI,qJ,qG,qL,qK,Nat.reduceAdd,qN];rfl;refine zR rfl rfl .head (.whole rfl rfl rfl)<|vAz<|nNz<|zK<|blkR<|thenR ?_)
  (apply finR;exact .inl rfl;rfl;rfl;rfl;apply zD;apply zH;rfl;apply qE;apply zY;exact qF rfl;apply zD;exact zG rfl;exact zF)
  rfl
 ·rw [show rowOp b=none by unfold rowOp;rw [if_neg (by omega),if_neg (by omega),if_neg (by omega)]]
  (refine sRz ?_;apply zU;rfl;intro _;refine vAz<|nSz<|vMz ?_;refine lvz (.convI rfl (by omega) (by omega)) ?_;refine vAz<|nNz<|zI<|zM<|sRz<|vMz ?_;refine lvz (.geqT rfl rfl (by omega)) ?_;refine vMz<|gTz<|vMz<|gTz ?_;refine lvz (.leqF rfl rfl (by omega)) ?_;refine pTz<|vAz<|nNz<|cFz<|sRz<|vMz ?_;refine lvz (.geqT rfl rfl (by omega)) ?_;refine vMz<|gTz<|vMz<|gTz ?_;refine lvz (.leqF rfl rfl (by omega)) ?_;refine pTz<|vAz<|nNz<|cFz<|sRz<|vMz ?_;refine lvz (.geqT rfl rfl (by omega)) ?_;refine vMz<|gTz<|vMz<|gTz ?_;refine lvz (.leqF rfl rfl (by omega)) ?_;refine pTz<|vAz<|nNz<|cFz<|zJ<|blkN<|thenN<|sRz ?_;apply LW.v0;rfl;rfl;apply zW;infer_instance;infer_instance;exact zB;rfl;simp only [fillP,wrCells,Value.cells,qH,qI,qJ,qG,qL,qK,Nat.reduceAdd,qN];rfl;refine zR rfl rfl .head (.whole rfl rfl rfl)<|vAz<|nNz<|zK ?_)
  (apply finR;exact .inl rfl;rfl;rfl;rfl;apply zD;apply zH;rfl;apply qE;apply zY;exact qF rfl;apply zD;exact zG rfl;exact zF)
  rfl
def PlainV (v:Value) (gs:Fs):Prop:=∃ b,v=.slice (some ⟨b,0,none⟩) 50 50∧gs=[(b,.cells (opcs plainOps).toArray 190 (0,0))]
theorem plain_len:(opcs plainOps).length=250:=by kernel_rfl
theorem PlainV.us {v:Value} {gs us:Fs} {w:World} (h:PlainV v gs) (hu:∀ p∈us,w.heap[p.1]?=some p.2) (hs:List.Sublist gs us):RowAt w 5 v plainOps.length (opcs plainOps):=by
 obtain ⟨b,rfl,rfl⟩:=h
 have hg:=hu (b,.cells (opcs plainOps).toArray 190 (0,0)) (hs.subset (by simp))
 exact ⟨⟨_,_,rfl,by decide,by decide⟩,plain_len,fun _=>⟨b,0,50,_,_,_,rfl,hg,by rw [List.drop_zero];exact List.take_of_length_le (by rw [qJ,plain_len];decide)⟩,.own hg⟩
theorem plain_calls (w:World):Calls Tryz.prog 132 #[] w (RetG w [] PlainV):=by
 refine enter (args:=[]) _ [] [] Tryz.func132 rfl Tryz.ntmps132 rfl (by simp) .nil ?_
 (refine sRz<|vAz<|nSz ?_;apply LW.v0;rfl;rfl;apply zW;infer_instance;infer_instance;apply zA;rfl;apply zA;rfl;exact zB;rfl;simp only [fillP,wrCells,Value.cells,qH,qI,qJ,qG,qL,qK,Nat.reduceAdd,qN];rfl;apply LW.v0;rfl;rfl;apply zW;infer_instance;infer_instance;apply zA;rfl;apply zA;rfl;apply zA;rfl;apply zA;rfl;exact zB;rfl;simp only [fillP,wrCells,Value.cells,qH,qI,qJ,qG,qL,qK,Nat.reduceAdd,qN];rfl;apply LW.v0;rfl;rfl;apply zW;infer_instance;infer_instance;apply zA;rfl;apply zA;rfl;apply zA;rfl;apply zA;rfl;exact zB;rfl;simp only [fillP,wrCells,Value.cells,qH,qI,qJ,qG,qL,qK,Nat.reduceAdd,qN];rfl;apply LW.v0;rfl;rfl;apply zW;infer_instance;infer_instance;apply zA;rfl;apply zA;rfl;apply zA;rfl;apply zA;rfl;exact zB;rfl;simp only [fillP,wrCells,Value.cells,qH,qI,qJ,qG,qL,qK,Nat.reduceAdd,qN];rfl;apply LW.v0;rfl;rfl;apply zW;infer_instance;infer_instance;apply zA;rfl;apply zA;rfl;apply zA;rfl;apply zA;rfl;exact zB;rfl;simp only [fillP,wrCells,Value.cells,qH,qI,qJ,qG,qL,qK,Nat.reduceAdd,qN];rfl;apply LW.v0;rfl;rfl;apply zW;infer_instance;infer_instance;apply zA;rfl;apply zA;rfl;apply zA;rfl;apply zA;rfl;exact zB;rfl;simp only [fillP,wrCells,Value.cells,qH,qI,qJ,qG,qL,qK,Nat.reduceAdd,qN];rfl;apply LW.v0;rfl;rfl;apply zW;infer_instance;infer_instance;apply zA;rfl;apply zA;rfl;apply zA;rfl;apply zA;rfl;exact zB;rfl;simp only [fillP,wrCells,Value.cells,qH,qI,qJ,qG,qL,qK,Nat.reduceAdd,qN];rfl;apply LW.v0;rfl;rfl;apply zW;infer_instance;infer_instance;apply zA;rfl;apply zA;rfl;apply zA;rfl;apply zA;rfl;exact zB;rfl;simp only [fillP,wrCells,Value.cells,qH,qI,qJ,qG,qL,qK,Nat.reduceAdd,qN];rfl;apply LW.v0;rfl;rfl;apply zW;infer_instance;infer_instance;apply zA;rfl;apply zA;rfl;apply zA;rfl;apply zA;rfl;exact zB;rfl;simp only [fillP,wrCells,Value.cells,qH,qI,qJ,qG,qL,qK,Nat.reduceAdd,qN];rfl;apply LW.v0;rfl;rfl;apply zW;infer_instance;infer_instance;apply zA;rfl;apply zA;rfl;apply zA;rfl;apply zA;rfl;exact zB;rfl;simp only [fillP,wrCells,Value.cells,qH,qI,qJ,qG,qL,qK,Nat.reduceAdd,qN];rfl;apply LW.v0;rfl;rfl;apply zW;infer_instance;infer_instance;apply zA;rfl;apply zA;rfl;apply zA;rfl;apply zA;rfl;exact zB;rfl;simp only [fillP,wrCells,Value.cells,qH,qI,qJ,qG,qL,qK,Nat.reduceAdd,qN];rfl;apply LW.v0;rfl;rfl;apply zW;infer_instance;infer_instance;apply zA;rfl;apply zA;rfl;apply zA;rfl;apply zA;rfl;exact zB;rfl;simp only [fillP,wrCells,Value.cells,qH,qI,qJ,qG,qL,qK,Nat.reduceAdd,qN];rfl;apply LW.v0;rfl;rfl;apply zW;infer_instance;infer_instance;apply zA;rfl;apply zA;rfl;apply zA;rfl;apply zA;rfl;exact zB;rfl;simp only [fillP,wrCells,Value.cells,qH,qI,qJ,qG,qL,qK,Nat.reduceAdd,qN];rfl;apply LW.v0;rfl;rfl;apply zW;infer_instance;infer_instance;apply zA;rfl;apply zA;rfl;apply zA;rfl;apply zA;rfl;exact zB;rfl;simp only [fillP,wrCells,Value.cells,qH,qI,qJ,qG,qL,qK,Nat.reduceAdd,qN];rfl;apply LW.v0;rfl;rfl;apply zW;infer_instance;infer_instance;apply zA;rfl;apply zA;rfl;apply zA;rfl;apply zA;rfl;exact zB;rfl;simp only [fillP,wrCells,Value.cells,qH,qI,qJ,qG,qL,qK,Nat.reduceAdd,qN];rfl;apply LW.v0;rfl;rfl;apply zW;infer_instance;infer_instance;apply zA;rfl;apply zA;rfl;apply zA;rfl;apply zA;rfl;exact zB;rfl;simp only [fillP,wrCells,Value.cells,qH,qI,qJ,qG,qL,qK,Nat.reduceAdd,qN];rfl;apply LW.v0;rfl;rfl;apply zW;infer_instance;infer_instance;apply zA;rfl;apply zA;rfl;apply zA;rfl;apply zA;rfl;exact zB;rfl;simp only [fillP,wrCells,Value.cells,qH,qI,qJ,qG,qL,qK,Nat.reduceAdd,qN];rfl;apply LW.v0;rfl;rfl;apply zW;infer_instance;infer_instance;apply zA;rfl;apply zA;rfl;apply zA;rfl;exact zB;rfl;simp only [fillP,wrCells,Value.cells,qH,qI,qJ,qG,qL,qK,Nat.reduceAdd,qN];rfl;apply LW.v0;rfl;rfl;apply zW;infer_instance;infer_instance;apply zA;rfl;apply zA;rfl;apply zA;rfl;apply zA;rfl;exact zB;rfl;simp only [fillP,wrCells,Value.cells,qH,qI,qJ,qG,qL,qK,Nat.reduceAdd,qN];rfl;apply LW.v0;rfl;rfl;apply zW;infer_instance;infer_instance;apply zA;rfl;apply zA;rfl;apply zA;rfl;exact zB;rfl;simp only [fillP,wrCells,Value.cells,qH,qI,qJ,qG,qL,qK,Nat.reduceAdd,qN];rfl;apply LW.v0;rfl;rfl;apply zW;infer_instance;infer_instance;apply zA;rfl;apply zA;rfl;apply zA;rfl;exact zB;rfl;simp only [fillP,wrCells,Value.cells,qH,qI,qJ,qG,qL,qK,Nat.reduceAdd,qN];rfl;apply LW.v0;rfl;rfl;apply zW;infer_instance;infer_instance;apply zA;rfl;apply zA;rfl;apply zA;rfl;exact zB;rfl;simp only [fillP,wrCells,Value.cells,qH,qI,qJ,qG,qL,qK,Nat.reduceAdd,qN];rfl;apply LW.v0;rfl;rfl;apply zW;infer_instance;infer_instance;apply zA;rfl;apply zA;rfl;apply zA;rfl;apply zA;rfl;exact zB;rfl;simp only [fillP,wrCells,Value.cells,qH,qI,qJ,qG,qL,qK,Nat.reduceAdd,qN];rfl;apply LW.v0;rfl;rfl;apply zW;infer_instance;infer_instance;apply zA;rfl;apply zA;rfl;apply zA;rfl;exact zB;rfl;simp only [fillP,wrCells,Value.cells,qH,qI,qJ,qG,qL,qK,Nat.reduceAdd,qN];rfl;apply LW.v0;rfl;rfl;apply zW;infer_instance;infer_instance;apply zA;rfl;apply zA;rfl;apply zA;rfl;exact zB;rfl;simp only [fillP,wrCells,Value.cells,qH,qI,qJ,qG,qL,qK,Nat.reduceAdd,qN];rfl;apply LW.v0;rfl;rfl;apply zW;infer_instance;infer_instance;apply zA;rfl;apply zA;rfl;apply zA;rfl;exact zB;rfl;simp only [fillP,wrCells,Value.cells,qH,qI,qJ,qG,qL,qK,Nat.reduceAdd,qN];rfl;apply LW.v0;rfl;rfl;apply zW;infer_instance;infer_instance;apply zA;rfl;apply zA;rfl;apply zA;rfl;exact zB;rfl;simp only [fillP,wrCells,Value.cells,qH,qI,qJ,qG,qL,qK,Nat.reduceAdd,qN];rfl;apply LW.v0;rfl;rfl;apply zW;infer_instance;infer_instance;apply zA;rfl;apply zA;rfl;apply zA;rfl;exact zB;rfl;simp only [fillP,wrCells,Value.cells,qH,qI,qJ,qG,qL,qK,Nat.reduceAdd,qN];rfl;apply LW.v0;rfl;rfl;apply zW;infer_instance;infer_instance;apply zA;rfl;apply zA;rfl;apply zA;rfl;exact zB;rfl;simp only [fillP,wrCells,Value.cells,qH,qI,qJ,qG,qL,qK,Nat.reduceAdd,qN];rfl;apply LW.v0;rfl;rfl;apply zW;infer_instance;infer_instance;apply zA;rfl;apply zA;rfl;apply zA;rfl;exact zB;rfl;simp only [fillP,wrCells,Value.cells,qH,qI,qJ,qG,qL,qK,Nat.reduceAdd,qN];rfl;apply LW.v0;rfl;rfl;apply zW;infer_instance;infer_instance;apply zA;rfl;apply zA;rfl;apply zA;rfl;exact zB;rfl;simp only [fillP,wrCells,Value.cells,qH,qI,qJ,qG,qL,qK,Nat.reduceAdd,qN];rfl;apply LW.v0;rfl;rfl;apply zW;infer_instance;infer_instance;apply zA;rfl;apply zA;rfl;apply zA;rfl;exact zB;rfl;simp only [fillP,wrCells,Value.cells,qH,qI,qJ,qG,qL,qK,Nat.reduceAdd,qN];rfl;apply LW.v0;rfl;rfl;apply zW;infer_instance;infer_instance;apply zA;rfl;apply zA;rfl;apply zA;rfl;apply zA;rfl;exact zB;rfl;simp only [fillP,wrCells,Value.cells,qH,qI,qJ,qG,qL,qK,Nat.reduceAdd,qN];rfl;apply LW.v0;rfl;rfl;apply zW;infer_instance;infer_instance;apply zA;rfl;apply zA;rfl;apply zA;rfl;exact zB;rfl;simp only [fillP,wrCells,Value.cells,qH,qI,qJ,qG,qL,qK,Nat.reduceAdd,qN];rfl;apply LW.v0;rfl;rfl;apply zW;infer_instance;infer_instance;apply zA;rfl;apply zA;rfl;apply zA;rfl;exact zB;rfl;simp only [fillP,wrCells,Value.cells,qH,qI,qJ,qG,qL,qK,Nat.reduceAdd,qN];rfl;apply LW.v0;rfl;rfl;apply zW;infer_instance;infer_instance;apply zA;rfl;apply zA;rfl;apply zA;rfl;apply zA;rfl;exact zB;rfl;simp only [fillP,wrCells,Value.cells,qH,qI,qJ,qG,qL,qK,Nat.reduceAdd,qN];rfl;apply LW.v0;rfl;rfl;apply zW;infer_instance;infer_instance;apply zA;rfl;apply zA;rfl;apply zA;rfl;exact zB;rfl;simp only [fillP,wrCells,Value.cells,qH,qI,qJ,qG,qL,qK,Nat.reduceAdd,qN];rfl;apply LW.v0;rfl;rfl;apply zW;infer_instance;infer_instance;apply zA;rfl;apply zA;rfl;apply zA;rfl;exact zB;rfl;simp only [fillP,wrCells,Value.cells,qH,qI,qJ,qG,qL,qK,Nat.reduceAdd,qN];rfl;apply LW.v0;rfl;rfl;apply zW;infer_instance;infer_instance;apply zA;rfl;apply zA;rfl;apply zA;rfl;exact zB;rfl;simp only [fillP,wrCells,Value.cells,qH,qI,qJ,qG,qL,qK,Nat.reduceAdd,qN];rfl;apply LW.v0;rfl;rfl;apply zW;infer_instance;infer_instance;apply zA;rfl;apply zA;rfl;apply zA;rfl;exact zB;rfl;simp only [fillP,wrCells,Value.cells,qH,qI,qJ,qG,qL,qK,Nat.reduceAdd,qN];rfl;apply LW.v0;rfl;rfl;apply zW;infer_instance;infer_instance;apply zA;rfl;apply zA;rfl;exact zB;rfl;simp only [fillP,wrCells,Value.cells,qH,qI,qJ,qG,qL,qK,Nat.reduceAdd,qN];rfl;apply LW.v0;rfl;rfl;apply zW;infer_instance;infer_instance;apply zA;rfl;apply zA;rfl;apply zA;rfl;apply zA;rfl;exact zB;rfl;simp only [fillP,wrCells,Value.cells,qH,qI,qJ,qG,qL,qK,Nat.reduceAdd,qN];rfl;apply LW.v0;rfl;rfl;apply zW;infer_instance;infer_instance;apply zA;rfl;apply zA;rfl;apply zA;rfl;exact zB;rfl;simp only [fillP,wrCells,Value.cells,qH,qI,qJ,qG,qL,qK,Nat.reduceAdd,qN];rfl;apply LW.v0;rfl;rfl;apply zW;infer_instance;infer_instance;apply zA;rfl;apply zA;rfl;apply zA;rfl;apply zA;rfl;exact zB;rfl;simp only [fillP,wrCells,Value.cells,qH,qI,qJ,qG,qL,qK,Nat.reduceAdd,qN];rfl;apply LW.v0;rfl;rfl;apply zW;infer_instance;infer_instance;apply zA;rfl;apply zA;rfl;apply zA;rfl;exact zB;rfl;simp only [fillP,wrCells,Value.cells,qH,qI,qJ,qG,qL,qK,Nat.reduceAdd,qN];rfl;apply LW.v0;rfl;rfl;apply zW;infer_instance;infer_instance;apply zA;rfl;apply zA;rfl;apply zA;rfl;apply zA;rfl;exact zB;rfl;simp only [fillP,wrCells,Value.cells,qH,qI,qJ,qG,qL,qK,Nat.reduceAdd,qN];rfl;apply LW.v0;rfl;rfl;apply zW;infer_instance;infer_instance;apply zA;rfl;apply zA;rfl;apply zA;rfl;apply zA;rfl;exact zB;rfl;simp only [fillP,wrCells,Value.cells,qH,qI,qJ,qG,qL,qK,Nat.reduceAdd,qN];rfl;apply LW.v0;rfl;rfl;apply zW;infer_instance;infer_instance;apply zA;rfl;apply zA;rfl;apply zA;rfl;apply zA;rfl;exact zB;rfl;simp only [fillP,wrCells,Value.cells,qH,qI,qJ,qG,qL,qK,Nat.reduceAdd,qN];rfl;apply LW.v0;rfl;rfl;apply zW;infer_instance;infer_instance;apply zA;rfl;apply zA;rfl;apply zA;rfl;exact zB;rfl;simp only [fillP,wrCells,Value.cells,qH,qI,qJ,qG,qL,qK,Nat.reduceAdd,qN];rfl;apply LW.v0;rfl;rfl;apply zW;infer_instance;infer_instance;apply zA;rfl;apply zA;rfl;exact zB;rfl;simp only [fillP,wrCells,Value.cells,qH,qI,qJ,qG,qL,qK,Nat.reduceAdd,qN];rfl)
 refine LW.v0 rfl rfl (ValP.buildA (vs:=(plainOps.zipIdx.map fun p=>(p.2,.agg (opc p.1)))) (c:=(opcs plainOps).toArray) ?_ (by kernel_rfl) (by kernel_rfl)) ?_
 ·(apply zA;rfl;apply zA;rfl;apply zA;rfl;apply zA;rfl;apply zA;rfl;apply zA;rfl;apply zA;rfl;apply zA;rfl;apply zA;rfl;apply zA;rfl;apply zA;rfl;apply zA;rfl;apply zA;rfl;apply zA;rfl;apply zA;rfl;apply zA;rfl;apply zA;rfl;apply zA;rfl;apply zA;rfl;apply zA;rfl;apply zA;rfl;apply zA;rfl;apply zA;rfl;apply zA;rfl;apply zA;rfl;apply zA;rfl;apply zA;rfl;apply zA;rfl;apply zA;rfl;apply zA;rfl;apply zA;rfl;apply zA;rfl;apply zA;rfl;apply zA;rfl;apply zA;rfl;apply zA;rfl;apply zA;rfl;apply zA;rfl;apply zA;rfl;apply zA;rfl;apply zA;rfl;apply zA;rfl;apply zA;rfl;apply zA;rfl;apply zA;rfl;apply zA;rfl;apply zA;rfl;apply zA;rfl;apply zA;rfl;apply zA;rfl;exact zB)
 (apply zU;rfl;intro _;apply zR;rfl;rfl;apply qA;apply Wr.whole;kernel_rfl;kernel_rfl;kernel_rfl;refine nSz<|lvz (.cutArrAll inferInstance inferInstance rfl)<|vAz<|nNz<|zK ?_)
 rename_i b
 apply finM [(b,.cells (opcs plainOps).toArray 190 (0,0))];(exact .inl rfl);(exact Shut.nil);rfl;(apply zD;exact zG rfl;exact zF);exact qM _
 exact ⟨b,rfl,rfl⟩
theorem Of1_calls (x:OpV) (k bb:Nat) (E:TypeId) (fr:Nat × Nat) (w:World) (hb:w.heap[bb]?=some (.cells #[.int .u8 (k:Int)] E fr)):Calls Tryz.prog 133 #[.agg (opc x),.pointer (some ⟨bb,0,none⟩)] w (Ret w (.bool (decide (x.c=k)))):=by
 refine enter (args:=[_,_]) _ [] [] Tryz.func133 rfl Tryz.ntmps133 rfl (by simp) .nil ?_
 (refine sRz ?_;apply zT;rfl;rfl;intro _;refine vAz<|nSz<|vFz<|ldz rfl .head (Rd.one' rfl) ?_;apply LW.load;rfl;rfl;exact Known.ext (by assumption) (by simp);exact Rd.one' rfl;refine lvz (.eq rfl rfl)<|vAz<|nNz<|zK ?_)
 (apply finR;exact .inl rfl;rfl;rfl;rfl;apply zD;exact zG rfl;exact zF)
 exact congrArg Value.bool (decide_eq_decide.2 Int.natCast_inj)
def idxOf (l:List OpV) (k:Nat):Int:=match l.findIdx? (fun x=>x.c == k) with
 |some i=>(i:Int)
 |none=>-1
theorem idxOf_hit {l:List OpV} {k m:Nat} (hm:m < l.length) (h:∀ i (hi:i < m),l[i].c ≠ k) (he:l[m].c=k):idxOf l k=(m:Int):=by
 unfold idxOf
 rw [List.findIdx?_eq_some_iff_getElem.2 ⟨hm,by simpa using he,fun i hi=>by simpa using h i hi⟩]
theorem idxOf_miss {l:List OpV} {k:Nat} (h:∀ i (hi:i < l.length),l[i].c ≠ k):idxOf l k=-1:=by
 unfold idxOf
 rw [List.findIdx?_eq_none_iff.2 fun x hx=>by obtain ⟨i,hi,rfl⟩:=List.getElem_of_mem hx;simpa using h i hi]
theorem IndexFunc_calls (l:List OpV) (k:Nat) (v:Value) (bb:Nat) (E:TypeId) (fr:Nat × Nat) (w:World) (hv:RowAt w 5 v l.length (opcs l)) (hb:w.heap[bb]?=some (.cells #[.int .u8 (k:Int)] E fr)) :
  Calls Tryz.prog 131 #[v,.func (.func 133) #[] #[.pointer (some ⟨bb,0,none⟩)]] w (Ret w (.int .i64 (idxOf l k))):=by
 obtain ⟨p,c,rfl,hc,hm⟩:=hv.form
 simp only [maxLen] at hm
 refine enter (args:=[_,_]) _ [] [] Tryz.func131 rfl Tryz.ntmps131 rfl (by simp) .nil ?_
 (refine sRz<|vAz<|nNz<|zI<|sRz<|vMz<|lvz (.lenR rfl inferInstance rfl)<|vMz<|nNz<|zM ?_)
 refine CW.loop (fun m:Nat=>([(8,.int .i64 (m:Int)),(7,.int .i64 (l.length:Int)),(0,.slice p l.length c),(1,.func (.func 133) #[] #[.pointer (some ⟨bb,0,none⟩)])],[]))
  (fun m=>m≤l.length∧∀ i (hi:i < m) (hl:i < l.length),l[i].c ≠ k) (fun m=>l.length - m) 0 ⟨Nat.zero_le _,fun i hi=>by omega⟩ ⟨rfl,rfl,rfl,rfl,trivial⟩ (qM _) ?_
 rintro m ⟨hml,hall⟩
 dsimp only
 rcases Nat.lt_or_ge m l.length with hlt|hge
 ·obtain ⟨b,off,c',cs,E',fr',heq,hbk,hx⟩:=hv.pos (by omega)
  cases heq
  have hrd:Rd Tryz.prog 136 (.cells cs E' fr') (off+m * 5) (.agg (opc l[m])):=Rd.elemA (g:=opl) (l:=l) (a:=l[m]) hx (opl_len l) (List.getElem?_eq_getElem hlt)
  (refine sRz ?_;refine lvz (.lssT rfl rfl (by omega)) ?_;refine nNz<|zI<|cTz<|zJ<|thenN<|zI<|zM<|sRz<|vMz<|vAz<|nSz<|vMz<|vMz<|vMz ?_;refine lvz (.indexAddrS rfl rfl rfl (by omega)) ?_;apply LW.load;rfl;rfl;exact Known.ext (by assumption) (by simp);assumption)
  apply LW.call
  rfl
  rfl
  infer_instance
  (exact .cons rfl .nil)
  ·intro w' hs
   exact Of1_calls l[m] k bb E fr w' (by rw [hs.bel.block bb (Array.getElem?_eq_some_iff.1 hb).1 (by simp)];exact hb)
  by_cases he:l[m].c=k
  ·have hi:=idxOf_hit hlt (fun i hi=>hall i hi (by omega)) he
   rw [decide_eq_true he,hi]
   (refine nNz<|cTz<|sRz<|vMz<|vAz<|nNz<|zK<|blkR<|thenR<|thenR<|blkR<|thenR ?_)
   (apply finR;exact .inl rfl;rfl;rfl;rfl;apply zD;exact zG rfl;exact zF)
   rfl
  ·rw [decide_eq_false he]
   (refine nNz<|cFz<|zJ<|blkN<|thenN<|zL ?_;refine lvz (.addZL rfl rfl (by decide) (by omega)) ?_;refine vMz ?_;apply zV)
   apply thenX
   exact ⟨rfl,m+1,⟨hlt,fun i hi hl=>by
    rcases Nat.lt_or_ge i m with h|h
    ·exact hall i h hl
    ·obtain rfl:i=m:=by omega
     exact he⟩,by omega,⟨rfl,rfl,rfl,rfl,trivial⟩,qM _⟩
 ·have hi:=idxOf_miss (l:=l) (k:=k) fun i hi=>hall i (by omega) hi
  rw [hi]
  (refine sRz ?_;refine lvz (.lssF rfl rfl (by omega)) ?_;refine nNz<|zI<|cFz<|CW.exit<|thenE<|thenE<|blkE rfl<|thenN<|sRz<|vAz<|nNz<|zK ?_)
  (apply finR;exact .inl rfl;rfl;rfl;rfl;apply zD;exact zG rfl;exact zF)
  rfl
def zeroOp:OpV:=⟨0,[],0,0,0⟩
def OfV (o:Option OpV):Value:=match o with
 |some x=>.tuple #[.agg (opc x),.int .i64 0]
 |none=>.tuple #[.agg (opc zeroOp),.int .i64 4]
theorem st_us {w0 w:World} {S:List Nat} {fs:Fs} (hs:St w0 S fs w):∀ p∈fs,w.heap[p.1]?=some p.2:=fun p hp=>(hs.own p hp).2
theorem plain_rd (i:Nat) (hi:i < plainOps.length) {E:TypeId} {fr:Nat × Nat}:Rd Tryz.prog 136 (.cells (opcs plainOps).toArray E fr) (0+i * 5) (.agg (opc plainOps[i])) :=
 Rd.elemA (g:=opl) (l:=plainOps) (a:=plainOps[i]) (m:=250) (by rw [List.drop_zero];exact List.take_of_length_le (by rw [qJ,plain_len];decide)) (opl_len _) (List.getElem?_eq_getElem hi)
theorem Of_op_calls (b:Nat) (hb:b < 256) (w:World):Calls Tryz.prog 102 #[.int .u8 (b:Int)] w (Ret w (OfV (opOf b))):=by
 have hRow0:=row_calls b hb
 refine enter (args:=[_]) _ [] [] Tryz.func102 rfl Tryz.ntmps102 rfl (by simp) .nil ?_
 cases hr:rowOp b with
 |some x =>
  rw [hr] at hRow0
  have hRow:∀ w,Calls Tryz.prog 130 #[.int .u8 (b:Int)] w (Ret w (.tuple #[.agg (opc x),.bool true])):=hRow0
  rw [show opOf b=some x by unfold opOf;rw [hr]]
  (refine sRz ?_;apply LW.box1;rfl;rfl;rfl;intro _;apply zU;rfl;intro _;refine vAz<|nNz<|zI<|sRz<|ldz rfl (.tail .head) (Rd.one' rfl) ?_;apply zS;rfl;rfl;infer_instance;exact .cons rfl .nil;intro w _;exact hRow w;refine vMz ?_;refine vEz ?_;refine vEz ?_;apply zU;rfl;intro _;refine zR rfl rfl .head (.whole rfl rfl rfl)<|vAz<|nSz<|vMz<|nNz<|cTz<|sRz<|ldz rfl .head (qF rfl) ?_;refine zR rfl rfl (.tail .head) (.whole rfl rfl rfl)<|vAz<|nNz<|zK<|thenR ?_)
  (apply finR;exact .inl rfl;rfl;rfl;rfl;apply zD;apply zH;rfl;apply qE;apply zX;apply zY;exact qF rfl;apply zD;exact zG rfl;exact zF)
  rfl
 |none =>
  rw [hr] at hRow0
  have hRow:∀ w,Calls Tryz.prog 130 #[.int .u8 (b:Int)] w (Ret w (.tuple #[.agg (opc zeroOp),.bool false])):=hRow0
  (refine sRz ?_;apply LW.box1;rfl;rfl;rfl;intro _;apply zU;rfl;intro _;refine vAz<|nNz<|zI<|sRz<|ldz rfl (.tail .head) (Rd.one' rfl) ?_;apply zS;rfl;rfl;infer_instance;exact .cons rfl .nil;intro w _;exact hRow w;refine vMz ?_;refine vEz ?_;refine vEz ?_;apply zU;rfl;intro _;refine zR rfl rfl .head (.whole rfl rfl rfl)<|vAz<|nSz<|vMz<|nNz<|cFz<|zJ<|thenN<|sRz ?_)
  rename_i bx b2 b4
  (apply LW.callR;rfl;rfl;infer_instance;exact ArgsOk.nil;intro w hs)
  exact plain_calls w
  intro vp gp hpl
  obtain ⟨bp,rfl,rfl⟩:=id hpl
  cases hi:plainOps.findIdx? (fun x=>x.c == b) with
  |none =>
   have hidx:idxOf plainOps b=-1:=by unfold idxOf;rw [hi]
   rw [show opOf b=none by unfold opOf;rw [hr];exact List.find?_eq_none.2 (by simpa using List.findIdx?_eq_none_iff.1 hi)]
   (apply LW.v0;rfl;rfl;apply ValP.makeFunc;exact ArgsOk.nil;exact .cons rfl .nil;apply zS;rfl;rfl;infer_instance;exact .cons rfl (.cons rfl .nil);intro w _;rename_i hst;(exact IndexFunc_calls plainOps b _ _ _ _ w (hpl.us (st_us hst) (by exact List.singleton_sublist.2 (by (repeat (first|exact List.Mem.head _|apply List.Mem.tail))))) ((hst.own (bx,_) (by (repeat (first|exact List.Mem.head _|apply List.Mem.tail)))).2));refine vAz<|nNz<|zI<|sRz<|vMz ?_;refine lvz (.lssT rfl rfl (by omega)) ?_;refine nNz<|cTz<|sRz ?_;apply LW.v0;rfl;rfl;apply zW;infer_instance;infer_instance;exact zB;rfl;simp only [fillP,wrCells,Value.cells,qH,qI,qJ,qG,qL,qK,Nat.reduceAdd,qN];rfl;refine zR rfl rfl (.tail (.tail .head)) (.whole rfl rfl rfl)<|vAz<|nNz<|zK<|thenR ?_)
   (apply finR;exact .inl rfl;rfl;rfl;rfl;apply zD;apply zH;rfl;apply qE;apply zX;apply zX;apply zY;exact qF rfl;apply zD;exact zG rfl;exact zF)
   rfl
  |some i =>
   have hidx:idxOf plainOps b=(i:Int):=by unfold idxOf;rw [hi]
   obtain ⟨hlt,hc,hall⟩:=List.findIdx?_eq_some_iff_getElem.1 hi
   have hlt50:i < 50:=hlt
   have hrd:=plain_rd i hlt (E:=190) (fr:=(0,0))
   rw [show opOf b=some plainOps[i] by unfold opOf;rw [hr];exact List.find?_eq_some_iff_getElem.2 ⟨hc,i,hlt,rfl,fun j hj=>by simpa using hall j hj⟩]
   (apply LW.v0;rfl;rfl;apply ValP.makeFunc;exact ArgsOk.nil;exact .cons rfl .nil;apply zS;rfl;rfl;infer_instance;exact .cons rfl (.cons rfl .nil);intro w _;rename_i hst;(exact IndexFunc_calls plainOps b _ _ _ _ w (hpl.us (st_us hst) (by exact List.singleton_sublist.2 (by (repeat (first|exact List.Mem.head _|apply List.Mem.tail))))) ((hst.own (bx,_) (by (repeat (first|exact List.Mem.head _|apply List.Mem.tail)))).2));refine vAz<|nNz<|zI<|sRz<|vMz ?_;refine lvz (.lssF rfl rfl (by omega)) ?_;refine nNz<|cFz<|zJ<|thenN<|sRz ?_)
   rw [hidx]
   skip
   (apply LW.callR;rfl;rfl;infer_instance;exact ArgsOk.nil;intro w hs)
   exact plain_calls w
   intro vq gq hpq
   obtain ⟨bq,rfl,rfl⟩:=id hpq
   (refine vMz ?_;refine lvz (.indexAddrS rfl rfl rfl (by omega)) ?_;refine ldz rfl .head (by assumption) ?_;refine zR rfl rfl (.tail (.tail (.tail .head))) (.whole rfl rfl rfl)<|vAz<|nNz<|zK ?_)
   (apply finR;exact .inl rfl;rfl;rfl;rfl;apply zD;apply zH;rfl;apply qE;apply zX;apply zX;apply zX;apply zY;exact qF rfl;apply zD;exact zG rfl;exact zF)
   rfl

theorem Words_calls (n:Nat) (hn:n < 18446744073709551616) (w:World):Calls Tryz.prog 144 #[.int .u64 (n:Int)] w (Ret w (.int .u64 (((n+31) / 32:Nat):Int))):=by
 refine enter (args:=[_]) _ [] [] Tryz.func144 rfl Tryz.ntmps144 rfl (by simp) .nil ?_
 rcases Nat.eq_zero_or_pos (n % 32) with h|h
 ·rw [show (n+31) / 32=n / 32 by omega]
  (refine sRz<|vAz<|nSz<|vMz ?_;refine lvz (.quoNL rfl rfl (by decide) (by omega) (by omega)) ?_;refine vAz<|nNz<|zI<|sRz<|vMz ?_;refine lvz (.remNL rfl rfl (by decide) (by omega)) ?_;refine lvz (.gtrF rfl rfl (by omega)) ?_;refine nNz<|cFz<|zJ<|thenN<|sRz<|vMz<|vAz<|nNz<|zK ?_)
  (apply finR;exact .inl rfl;rfl;rfl;rfl;apply zD;exact zG rfl;exact zF)
  rfl
 ·rw [show (n+31) / 32=(n / 32+1) % 18446744073709551616 by omega]
  (refine sRz<|vAz<|nSz<|vMz ?_;refine lvz (.quoNL rfl rfl (by decide) (by omega) (by omega)) ?_;refine vAz<|nNz<|zI<|sRz<|vMz ?_;refine lvz (.remNL rfl rfl (by decide) (by omega)) ?_;refine lvz (.gtrT rfl rfl (by omega)) ?_;refine nNz<|cTz<|zL<|vMz ?_;refine lvz (.addNL rfl rfl (by decide)) ?_;refine vAz<|nSz<|vMz<|vAz<|nNz<|zK ?_)
  (apply finR;exact .inl rfl;rfl;rfl;rfl;apply zD;exact zG rfl;exact zF)
  rfl
def memW (x:Nat):Nat:=3 * x+x * x / 512
theorem memW_eq (x:Nat) (hx:x≤1000):(3 * x % 18446744073709551616+x * x % 18446744073709551616 / 512) % 18446744073709551616=memW x:=by
 have h:=Nat.mul_le_mul hx hx
 unfold memW
 omega
theorem words_calls (x:Nat) (hx:x≤1000) (w:World):Calls Tryz.prog 168 #[.int .u64 (x:Int)] w (Ret w (.int .u64 ((memW x:Nat):Int))):=by
 refine enter (args:=[_]) _ [] [] Tryz.func168 rfl Tryz.ntmps168 rfl (by simp) .nil ?_
 rw [← memW_eq x hx]
 (refine sRz<|vAz<|nSz<|vMz ?_;refine lvz (.mulNK rfl rfl (by decide)) ?_;refine vMz<|vMz<|lvz (.mulN rfl rfl) ?_;refine lvz (.quoNL rfl rfl (by decide) (by omega) (by omega)) ?_;refine lvz (.addN rfl rfl)<|vAz<|nNz<|zK ?_)
 (apply finR;exact .inl rfl;rfl;rfl;rfl;apply zD;exact zG rfl;exact zF)
 rfl
theorem memW_mono {x y:Nat} (h:x≤y):memW x≤memW y:=by
 unfold memW
 have:=Nat.mul_le_mul h h
 have:=Nat.div_le_div_right (c:=512) this
 omega
def memV (a b:Nat):Nat:=if b≤a then 0 else if 1024 < b then 1099511627776 else memW ((b+31) / 32) - memW ((a+31) / 32)
theorem Memory_calls (a b:Nat) (ha:a < 18446744073709551616) (hb:b < 18446744073709551616) (w:World):Calls Tryz.prog 159 #[.int .u64 (a:Int),.int .u64 (b:Int)] w (Ret w (.int .u64 ((memV a b:Nat):Int))):=by
 refine enter (args:=[_,_]) _ [] [] Tryz.func159 rfl Tryz.ntmps159 rfl (by simp) .nil ?_
 unfold memV
 by_cases h1:b≤a
 ·rw [if_pos h1]
  (refine sRz<|vAz<|nNz<|zI<|zM<|sRz<|vMz<|vMz ?_;refine lvz (.leqT rfl rfl (by omega)) ?_;refine vAz<|nNz<|cTz<|sRz<|vAz<|nNz<|zK<|blkR<|thenR ?_)
  (apply finR;exact .inl rfl;rfl;rfl;rfl;apply zD;exact zG rfl;exact zF)
  rfl
 ·rw [if_neg h1]
  by_cases h2:1024 < b
  ·rw [if_pos h2]
   (refine sRz<|vAz<|nNz<|zI<|zM<|sRz<|vMz<|vMz ?_;refine lvz (.leqF rfl rfl (by omega)) ?_;refine vAz<|nNz<|cFz<|sRz<|vMz ?_;refine lvz (.gtrT rfl rfl (by omega)) ?_;refine vAz<|nNz<|cTz<|sRz<|vAz<|nNz<|zK<|blkR<|thenR ?_)
   (apply finR;exact .inl rfl;rfl;rfl;rfl;apply zD;exact zG rfl;exact zF)
   rfl
  ·rw [if_neg h2]
   have hm:=memW_mono (show (a+31) / 32≤(b+31) / 32 by omega)
   have hm2:=memW_mono (show (b+31) / 32≤32 by omega)
   have hm3:memW 32=98:=by decide
   (refine sRz<|vAz<|nNz<|zI<|zM<|sRz<|vMz<|vMz ?_;refine lvz (.leqF rfl rfl (by omega)) ?_;refine vAz<|nNz<|cFz<|sRz<|vMz ?_;refine lvz (.gtrF rfl rfl (by omega)) ?_;refine vAz<|nNz<|cFz<|zJ<|blkN<|thenN<|sRz<|vMz ?_;apply zS;rfl;rfl;infer_instance;exact .cons rfl .nil;intro w _;refine Words_calls _ ?_ w;omega;apply zS;rfl;rfl;infer_instance;exact .cons rfl .nil;intro w _;refine words_calls _ ?_ w;omega;refine vMz ?_;apply zS;rfl;rfl;infer_instance;exact .cons rfl .nil;intro w _;refine Words_calls _ ?_ w;omega;apply zS;rfl;rfl;infer_instance;exact .cons rfl .nil;intro w _;refine words_calls _ ?_ w;omega;refine lvz (.subN rfl rfl (by omega) (by omega)) ?_;refine vAz<|nNz<|zK ?_)
   (apply finR;exact .inl rfl;rfl;rfl;rfl;apply zD;exact zG rfl;exact zF)
   rfl
theorem Part_calls (n:Nat) (hn:n < 18446744073709551616) (w:World):Calls Tryz.prog 33 #[.int .u64 (n:Int)] w (Ret w (.int .u64 ((n - n / 64:Nat):Int))):=by
 refine enter (args:=[_]) _ [] [] Tryz.func33 rfl Tryz.ntmps33 rfl (by simp) .nil ?_
 (refine sRz<|vAz<|nSz<|vMz<|vMz ?_;refine lvz (.quoNL rfl rfl (by decide) (by omega) (by omega)) ?_;refine lvz (.subN rfl rfl (by omega) (by omega)) ?_;refine vAz<|nNz<|zK ?_)
 (apply finR;exact .inl rfl;rfl;rfl;rfl;apply zD;exact zG rfl;exact zF)
 rfl
theorem take_le (l:List Nat) (m:Nat):(l.take m).sum≤l.sum:=by
 conv=>rhs;rw [← List.take_append_drop m l]
 rw [List.sum_append];omega
def spendV (left:Nat) (l:List Nat):Value:=if l.sum≤left then .tuple #[.int .u64 ((left - l.sum:Nat):Int),.bool true] else .tuple #[.int .u64 0,.bool false]
theorem Spend_calls (left:Nat) (l:List Nat) (hl:left < 18446744073709551616) (v:Value) (w:World) (hv:RowAt w 1 v l.length (ncs l)):Calls Tryz.prog 116 #[.int .u64 (left:Int),v] w (Ret w (spendV left l)):=by
 obtain ⟨p,c,rfl,hc,hm⟩:=hv.form
 simp only [maxLen] at hm
 refine enter (args:=[_,_]) _ [] [] Tryz.func116 rfl Tryz.ntmps116 rfl (by simp) .nil ?_
 (refine sRz<|vAz<|vAz<|nNz<|CW.scope<|sRz<|vAz<|nNz<|zI<|CW.label<|thenN<|zI<|sRz<|vMz ?_;refine lvz (.lenR rfl inferInstance rfl)<|vMz<|nNz<|zM ?_)
 refine CW.loop (fun m:Nat=>([(11,.int .i64 (m:Int)),(10,.int .i64 (l.length:Int)),(9,.slice p l.length c),(6,.bool true),(0,.int .u64 ((left - (l.take m).sum:Nat):Int))],[]))
  (fun m=>m≤l.length∧(l.take m).sum≤left) (fun m=>l.length - m) 0 ⟨Nat.zero_le _,Nat.zero_le _⟩ ⟨rfl,rfl,rfl,rfl,rfl,trivial⟩ (qM _) ?_
 rintro m ⟨hml,hS⟩
 dsimp only
 rcases Nat.lt_or_ge m l.length with hlt|hge
 ·obtain ⟨b,off,c',cs,E,fr,heq,hb,hx⟩:=hv.pos (by omega)
  cases heq
  obtain ⟨n,hn⟩:∃ n,n=l[m]:=⟨_,rfl⟩
  have hrd:Rd Tryz.prog 26 (.cells cs E fr) (off+m * 1) (.int .u64 (n:Int)):=Rd.elem1 hx (ncs_one l) (by rw [hn];exact List.getElem?_eq_getElem hlt) rfl
  have hst:=take_step l m hlt
  have htot:=take_le l (m+1)
  rw [← hn] at hst
  by_cases hle:n≤left - (l.take m).sum
  ·(refine sRz ?_;refine lvz (.lssT rfl rfl (by omega)) ?_;refine nNz<|zI<|cTz<|zJ<|thenN<|zI<|zM<|sRz ?_;refine lvz (.indexAddrS rfl rfl rfl (by omega)) ?_;apply LW.load;rfl;rfl;exact Known.ext (by assumption) (by simp);assumption;refine vAz<|nNz<|zI<|sRz<|vMz<|vMz ?_;refine lvz (.leqT rfl rfl (by omega)) ?_;refine vAz<|nSz<|vMz ?_;refine lvz (.notT rfl (by with_reducible rfl)) ?_;refine nNz<|cFz<|zJ<|thenN<|zL<|vMz<|vMz ?_;refine lvz (.subN rfl rfl (by omega) (by omega)) ?_;refine vAz ?_;apply zV;refine blkN<|thenN<|zL ?_;refine lvz (.addZL rfl rfl (by decide) (by omega)) ?_;refine vMz ?_;apply zV)
   apply thenX
   refine ⟨rfl,m+1,⟨hlt,by omega⟩,by omega,⟨rfl,rfl,rfl,rfl,?_,trivial⟩,qM _⟩
   rw [hst,← Nat.sub_sub];rfl
  ·unfold spendV
   rw [if_neg (by omega)]
   (refine sRz ?_;refine lvz (.lssT rfl rfl (by omega)) ?_;refine nNz<|zI<|cTz<|zJ<|thenN<|zI<|zM<|sRz ?_;refine lvz (.indexAddrS rfl rfl rfl (by omega)) ?_;apply LW.load;rfl;rfl;exact Known.ext (by assumption) (by simp);assumption;refine vAz<|nNz<|zI<|sRz<|vMz<|vMz ?_;refine lvz (.leqF rfl rfl (by omega)) ?_;refine vAz<|nSz<|vMz ?_;refine lvz (.notF rfl (by with_reducible rfl)) ?_;refine nNz<|cTz<|CW.exit<|thenE<|blkO rfl<|thenE<|thenE<|blkE rfl<|thenN<|zI<|sRz<|vMz ?_;refine lvz (.notF rfl (by with_reducible rfl)) ?_;refine nNz<|cTz<|sRz<|vAz<|vAz<|nNz<|zK<|thenR<|scopeQ.r ?_)
   (apply finR;exact .inl rfl;rfl;rfl;rfl;apply zD;exact zG rfl;apply zD;exact zG rfl;exact zF)
   rfl
 ·obtain rfl:m=l.length:=by omega
  rw [List.take_length] at hS ⊢
  unfold spendV
  rw [if_pos hS]
  (refine sRz ?_;refine lvz (.lssF rfl rfl (by omega)) ?_;refine nNz<|zI<|cFz<|CW.exit<|thenE<|thenE<|blkE rfl<|thenN<|zI<|sRz<|vMz ?_;refine lvz (.notT rfl (by with_reducible rfl)) ?_;refine nNz<|cFz<|zJ<|thenN<|sRz<|vMz<|vAz<|vAz<|nNz<|zK<|scopeQ.r ?_)
  (apply finR;exact .inl rfl;rfl;rfl;rfl;apply zD;exact zG rfl;apply zD;exact zG rfl;exact zF)
  rfl

abbrev NOG:Nat:=1099511627776
def timesV (n k:Nat):Nat:=if NOG≤n then NOG else min (n * k) NOG
theorem times1_calls (n k bb:Nat) (E:TypeId) (fr:Nat × Nat) (w:World) (hb:w.heap[bb]?=some (.cells #[.int .u64 (k:Int)] E fr)):Calls Tryz.prog 157 #[.int .u64 (n:Int),.pointer (some ⟨bb,0,none⟩)] w (Ret w (.int .u64 ((n * k % 18446744073709551616:Nat):Int))):=by
 refine enter (args:=[_,_]) _ [] [] Tryz.func157 rfl Tryz.ntmps157 rfl (by simp) .nil ?_
 (refine sRz<|vAz<|nSz<|vMz ?_;apply LW.load;rfl;rfl;exact Known.ext (by assumption) (by simp);exact Rd.one' rfl;refine lvz (.mulN rfl rfl)<|vAz<|nNz<|zK ?_)
 (apply finR;exact .inl rfl;rfl;rfl;rfl;apply zD;exact zG rfl;exact zF)
 rfl
theorem within_calls (n k bb:Nat) (hn:n < 18446744073709551616) (hk:k≤1000) (E:TypeId) (fr:Nat × Nat) (w:World) (hb:w.heap[bb]?=some (.cells #[.int .u64 (k:Int)] E fr)) :
  Calls Tryz.prog 156 #[.int .u64 (n:Int),.func (.func 157) #[] #[.pointer (some ⟨bb,0,none⟩)]] w (Ret w (.int .u64 ((timesV n k:Nat):Int))):=by
 refine enter (args:=[_,_]) _ [] [] Tryz.func156 rfl Tryz.ntmps156 rfl (by simp) .nil ?_
 unfold timesV
 by_cases h:NOG≤n
 ·rw [if_pos h]
  simp only [NOG] at h
  (refine sRz<|vAz<|nNz<|zI<|sRz<|vMz ?_;refine lvz (.geqT rfl rfl (by omega)) ?_;refine nNz<|cTz<|sRz<|vAz<|nNz<|zK<|thenR ?_)
  (apply finR;exact .inl rfl;rfl;rfl;rfl;apply zD;exact zG rfl;exact zF)
  rfl
 ·rw [if_neg h]
  simp only [NOG] at h
  have hp:=Nat.mul_le_mul (show n≤1099511627775 by omega) hk
  have hm:n * k % 18446744073709551616=n * k:=Nat.mod_eq_of_lt (by omega)
  (refine sRz<|vAz<|nNz<|zI<|sRz<|vMz ?_;refine lvz (.geqF rfl rfl (by omega)) ?_;refine nNz<|cFz<|zJ<|thenN<|sRz<|vMz<|vMz ?_)
  apply LW.call
  rfl
  rfl
  infer_instance
  (exact .cons rfl .nil)
  ·intro w' hs
   have:=times1_calls n k bb E fr w' (by rw [hs.bel.block bb (Array.getElem?_eq_some_iff.1 hb).1 (by simp)];exact hb)
   rw [hm] at this
   exact this
  (refine lvz (.minZL rfl rfl (by decide)) ?_;refine vAz<|nNz<|zK ?_)
  (apply finR;exact .inl rfl;rfl;rfl;rfl;apply zD;exact zG rfl;exact zF)
  rfl
theorem times_calls (n k:Nat) (hn:n < 18446744073709551616) (hk:k≤1000) (w:World):Calls Tryz.prog 143 #[.int .u64 (n:Int),.int .u64 (k:Int)] w (Ret w (.int .u64 ((timesV n k:Nat):Int))):=by
 refine enter (args:=[_,_]) _ [] [] Tryz.func143 rfl Tryz.ntmps143 rfl (by simp) .nil ?_
 (refine sRz ?_;apply LW.box1;rfl;rfl;rfl;intro _;refine vAz<|nSz<|vMz ?_;apply LW.v0;rfl;rfl;apply ValP.makeFunc;exact ArgsOk.nil;exact .cons rfl .nil)
 rename_i bb
 (apply zS;rfl;rfl;infer_instance;exact .cons rfl (.cons rfl .nil);intro w _;rename_i hst;(exact within_calls _ _ _ hn hk _ _ w ((hst.own (bb,_) (by (repeat (first|exact List.Mem.head _|apply List.Mem.tail)))).2));refine vAz<|nNz<|zK ?_)
 (apply finR;exact .inl rfl;rfl;rfl;rfl;apply zD;exact zG rfl;exact zF)
 rfl
theorem Hash_calls (n:Nat) (hn:n < 18446744073709551616) (w:World):Calls Tryz.prog 122 #[.int .u64 (n:Int)] w (Ret w (.int .u64 ((timesV ((n+31) / 32) 6:Nat):Int))):=by
 have h1:∀ w,Calls Tryz.prog 143 #[.int .u64 (((n+31) / 32:Nat):Int),.int .u64 6] w (Ret w (.int .u64 ((timesV ((n+31) / 32) 6:Nat):Int))):=times_calls _ 6 (by omega) (by decide)
 refine enter (args:=[_]) _ [] [] Tryz.func122 rfl Tryz.ntmps122 rfl (by simp) .nil ?_
 (refine sRz<|vAz<|nSz<|vMz ?_;apply zS;rfl;rfl;infer_instance;exact .cons rfl .nil;intro w _;refine Words_calls _ ?_ w;omega;apply zS;rfl;rfl;infer_instance;exact .cons rfl (.cons rfl .nil);intro w _;exact h1 w;refine vAz<|nNz<|zK ?_)
 (apply finR;exact .inl rfl;rfl;rfl;rfl;apply zD;exact zG rfl;exact zF)
 rfl
theorem timesV_le (n k:Nat):timesV n k≤NOG:=by unfold timesV;split;exact Nat.le_refl _;exact Nat.min_le_right _ _
theorem Create_calls (n:Nat) (hn:n < 18446744073709551616) (w:World):Calls Tryz.prog 88 #[.int .u64 (n:Int)] w (Ret w (.int .u64 ((min (timesV ((n+31) / 32) 6+3200) NOG:Nat):Int))):=by
 have h1:=Hash_calls n hn
 have hle:=timesV_le ((n+31) / 32) 6
 have hm:(timesV ((n+31) / 32) 6+3200) % 18446744073709551616=timesV ((n+31) / 32) 6+3200:=Nat.mod_eq_of_lt (by simp only [NOG] at hle;omega)
 refine enter (args:=[_]) _ [] [] Tryz.func88 rfl Tryz.ntmps88 rfl (by simp) .nil ?_
 (refine sRz<|vAz<|nSz<|vMz ?_;apply zS;rfl;rfl;infer_instance;exact .cons rfl .nil;intro w _;exact h1 w;refine lvz (.addNL rfl rfl (by decide)) ?_;refine lvz (.minZL rfl rfl (by decide)) ?_;refine vAz<|nNz<|zK ?_)
 (apply finR;exact .inl rfl;rfl;rfl;rfl;apply zD;exact zG rfl;exact zF)
 rw [hm];rfl
def endV (a n:Nat):Nat:=if n=0 then 0 else min (a+n) NOG
theorem End_calls (a n:Nat) (ha:a < M256) (hn:n < M256) (w:World):Calls Tryz.prog 158 #[wv a,wv n] w (Ret w (.int .u64 ((endV a n:Nat):Int))):=by
 refine enter (args:=[_,_]) _ [] [] Tryz.func158 rfl Tryz.ntmps158 rfl (by simp) .nil ?_
 unfold endV
 have hz:(0:Nat) < M256:=by decide
 by_cases h0:n=0
 ·subst h0
  rw [if_pos rfl]
  (refine sRz ?_;apply zT;rfl;rfl;intro _;apply zT;rfl;rfl;intro _;refine vAz<|nNz<|zI<|sRz<|ldz rfl .head (qF rfl) ?_;apply LW.v0;rfl;rfl;exact ValP.buildW0;refine lvz (.eqWT rfl rfl (by with_reducible rfl)) ?_;refine nNz<|cTz<|sRz<|vAz<|nNz<|zK<|thenR ?_)
  (apply finR;exact .inl rfl;rfl;rfl;rfl;apply zD;exact zG rfl;exact zF)
  rfl
 ·rw [if_neg h0]
  have hA0:=Add_calls a n ha hn
  have hS0:=Small_calls ((a+n) % M256) (Nat.mod_lt _ (by decide))
  rcases Nat.lt_or_ge (a+n) M256 with h|h
  ·rw [Nat.mod_eq_of_lt h] at hA0 hS0
   rw [decide_eq_false (Nat.not_le.2 h)] at hA0
   have hA:=hA0
   rcases Nat.lt_or_ge (a+n) 18446744073709551616 with hs|hs
   ·rw [if_pos hs,decide_eq_true hs] at hS0
    have hS:=hS0
    (refine sRz ?_;apply zT;rfl;rfl;intro _;apply zT;rfl;rfl;intro _;refine vAz<|nNz<|zI<|sRz<|ldz rfl .head (qF rfl) ?_;apply LW.v0;rfl;rfl;exact ValP.buildW0;refine lvz (.eqWF rfl rfl (by assumption) (by assumption) (by assumption)) ?_;refine nNz<|cFz<|zJ<|thenN<|sRz<|ldz rfl (.tail .head) (qF rfl)<|ldz rfl .head (qF rfl) ?_;apply zS;rfl;rfl;infer_instance;exact .cons rfl (.cons rfl .nil);intro w _;exact hA w;refine vMz ?_;refine vEz ?_;refine vEz ?_;apply LW.allocW;rfl;intro _;refine zR rfl rfl .head (.whole rfl rfl rfl)<|vAz<|nSz<|ldz rfl .head (qF rfl) ?_;apply zS;rfl;rfl;infer_instance;exact .cons rfl .nil;intro w _;exact hS w;refine vMz ?_;refine vEz ?_;refine vEz ?_;refine vAz<|vAz<|nNz<|zI<|sRz<|vMz<|vMz<|gTz<|vMz<|gTz ?_;refine lvz (.notT rfl (by with_reducible rfl)) ?_;refine pFz<|nNz<|cFz<|zJ<|thenN<|sRz<|vMz ?_;refine lvz (.minZL rfl rfl (by decide)) ?_;refine vAz<|nNz<|zK ?_)
    (apply finR;exact .inl rfl;rfl;rfl;rfl;apply zD;exact zG rfl;exact zF)
    rfl
   ·rw [if_neg (Nat.not_lt.2 hs),decide_eq_false (Nat.not_lt.2 hs)] at hS0
    have hS:=hS0
    rw [Nat.min_eq_right (by simp only [NOG];omega)]
    (refine sRz ?_;apply zT;rfl;rfl;intro _;apply zT;rfl;rfl;intro _;refine vAz<|nNz<|zI<|sRz<|ldz rfl .head (qF rfl) ?_;apply LW.v0;rfl;rfl;exact ValP.buildW0;refine lvz (.eqWF rfl rfl (by assumption) (by assumption) (by assumption)) ?_;refine nNz<|cFz<|zJ<|thenN<|sRz<|ldz rfl (.tail .head) (qF rfl)<|ldz rfl .head (qF rfl) ?_;apply zS;rfl;rfl;infer_instance;exact .cons rfl (.cons rfl .nil);intro w _;exact hA w;refine vMz ?_;refine vEz ?_;refine vEz ?_;apply LW.allocW;rfl;intro _;refine zR rfl rfl .head (.whole rfl rfl rfl)<|vAz<|nSz<|ldz rfl .head (qF rfl) ?_;apply zS;rfl;rfl;infer_instance;exact .cons rfl .nil;intro w _;exact hS w;refine vMz ?_;refine vEz ?_;refine vEz ?_;refine vAz<|vAz<|nNz<|zI<|sRz<|vMz<|vMz<|gTz<|vMz<|gTz ?_;refine lvz (.notF rfl (by with_reducible rfl)) ?_;refine pFz<|nNz<|cTz<|sRz<|vAz<|nNz<|zK<|thenR ?_)
    (apply finR;exact .inl rfl;rfl;rfl;rfl;apply zD;exact zG rfl;exact zF)
    rfl
  ·rw [decide_eq_true h] at hA0
   have hA:=hA0
   rw [Nat.min_eq_right (by simp only [NOG];simp only [M256] at h;omega)]
   obtain ⟨x,y,hS⟩:∃ x y,∀ w,Calls Tryz.prog 121 #[wv ((a+n) % M256)] w (Ret w (.tuple #[.int .u64 ((x:Nat):Int),.bool y])):=⟨_,_,hS0⟩
   (refine sRz ?_;apply zT;rfl;rfl;intro _;apply zT;rfl;rfl;intro _;refine vAz<|nNz<|zI<|sRz<|ldz rfl .head (qF rfl) ?_;apply LW.v0;rfl;rfl;exact ValP.buildW0;refine lvz (.eqWF rfl rfl (by assumption) (by assumption) (by assumption)) ?_;refine nNz<|cFz<|zJ<|thenN<|sRz<|ldz rfl (.tail .head) (qF rfl)<|ldz rfl .head (qF rfl) ?_;apply zS;rfl;rfl;infer_instance;exact .cons rfl (.cons rfl .nil);intro w _;exact hA w;refine vMz ?_;refine vEz ?_;refine vEz ?_;apply LW.allocW;rfl;intro _;refine zR rfl rfl .head (.whole rfl rfl rfl)<|vAz<|nSz<|ldz rfl .head (qF rfl) ?_;apply zS;rfl;rfl;infer_instance;exact .cons rfl .nil;intro w _;exact hS w;refine vMz ?_;refine vEz ?_;refine vEz ?_;refine vAz<|vAz<|nNz<|zI<|sRz<|vMz<|vMz<|gFz<|gFz<|pTz<|nNz<|cTz<|sRz<|vAz ?_;refine nNz<|zK<|thenR ?_)
   (apply finR;exact .inl rfl;rfl;rfl;rfl;apply zD;exact zG rfl;exact zF)
   rfl
theorem Lend_calls (left asked:Nat) (hl:left < 18446744073709551616) (ha:asked < M256) (w:World):Calls Tryz.prog 87 #[.int .u64 (left:Int),wv asked] w (Ret w (.int .u64 ((min asked (left - left / 64):Nat):Int))):=by
 have hS0:=Small_calls asked ha
 refine enter (args:=[_,_]) _ [] [] Tryz.func87 rfl Tryz.ntmps87 rfl (by simp) .nil ?_
 rcases Nat.lt_or_ge asked 18446744073709551616 with hs|hs
 ·rw [if_pos hs,decide_eq_true hs] at hS0
  have hS:=hS0
  (refine sRz ?_;apply zT;rfl;rfl;intro _;refine vAz<|nSz<|ldz rfl .head (qF rfl) ?_;apply zS;rfl;rfl;infer_instance;exact .cons rfl .nil;intro w _;exact hS w;refine vMz ?_;refine vEz ?_;refine vEz ?_;refine vAz<|vAz<|nNz<|zI<|sRz<|vMz ?_;refine lvz (.notT rfl (by with_reducible rfl)) ?_;refine nNz<|cFz<|zJ<|thenN<|sRz<|vMz<|vMz ?_;apply zS;rfl;rfl;infer_instance;exact .cons rfl .nil;intro w _;refine Part_calls _ ?_ w;omega;refine lvz (.minZ rfl rfl)<|vAz<|nNz<|zK ?_)
  (apply finR;exact .inl rfl;rfl;rfl;rfl;apply zD;exact zG rfl;exact zF)
  rfl
 ·rw [if_neg (Nat.not_lt.2 hs),decide_eq_false (Nat.not_lt.2 hs)] at hS0
  have hS:=hS0
  rw [Nat.min_eq_right (by omega)]
  (refine sRz ?_;apply zT;rfl;rfl;intro _;refine vAz<|nSz<|ldz rfl .head (qF rfl) ?_;apply zS;rfl;rfl;infer_instance;exact .cons rfl .nil;intro w _;exact hS w;refine vMz ?_;refine vEz ?_;refine vEz ?_;refine vAz<|vAz<|nNz<|zI<|sRz<|vMz ?_;refine lvz (.notF rfl (by with_reducible rfl)) ?_;refine nNz<|cTz<|sRz<|vMz ?_;apply zS;rfl;rfl;infer_instance;exact .cons rfl .nil;intro w _;refine Part_calls _ ?_ w;omega;refine vAz<|nNz<|zK<|thenR ?_)
  (apply finR;exact .inl rfl;rfl;rfl;rfl;apply zD;exact zG rfl;exact zF)
  rfl


theorem wcs_app (l r:List Nat):wcs (l++r)=wcs l++wcs r:=by simp [wcs]
theorem wcs_take (l:List Nat) (k:Nat):(wcs l).take (k * 4)=wcs (l.take k):=by
 induction l generalizing k with
 |nil=>simp [wcs]
 |cons a l ih =>
  cases k with
  |zero=>simp [wcs]
  |succ k =>
   have:=ih k
   simp only [wcs,List.flatMap_cons,List.take_succ_cons] at *
   rw [← this,show (k+1) * 4=(wc a).toList.length+k * 4 by show (k+1) * 4=4+k * 4;omega,List.take_length_add_append]
theorem wcs_cells (l:List Nat):∀ u∈wcs l,u.oneCell'=true:=fun u hu=>by
 obtain ⟨a,_,hb⟩:=List.mem_flatMap.1 hu
 simp only [wc,List.mem_cons,List.not_mem_nil,or_false] at hb
 rcases hb with rfl|rfl|rfl|rfl<;>rfl

def val:List Nat→Nat
 |[]=>0
 |x::r=>x+18446744073709551616 * val r


theorem or_low {R A t:Nat} {r:Nat} (hR:R=2 ^ r) (hA:R ∣ A) (ht:t < R):A |||t=A+t:=by
 obtain ⟨q,rfl⟩:=hA
 subst hR
 rw [Nat.mul_comm,← Nat.shiftLeft_eq,Nat.shiftLeft_add_eq_or_of_lt ht]


def beb (m a:Nat):List UInt8:=(List.range m).map fun i=>UInt8.ofNat (a / 256 ^ (m - 1 - i))
theorem beb_len (m a:Nat):(beb m a).length=m:=by simp [beb]
theorem beb_get (m a i:Nat) (h:i < m):(beb m a)[i]?=some (UInt8.ofNat (a / 256 ^ (m - 1 - i))):=by simp [beb,h]
theorem byte_limb (a n:Nat) (hn:n < 32):a / 2 ^ (64 * (0+n / 8 * 1)) % 18446744073709551616 / 2 ^ (8 * (n % 8)) % 256=a / 256 ^ n % 256:=by
 rw [show (18446744073709551616:Nat)=2 ^ (8 * (n % 8)+(64 - 8 * (n % 8))) by rw [show 8 * (n % 8)+(64 - 8 * (n % 8))=64 by omega]]
 rw [Nat.pow_add,Nat.mod_mul_right_div_self,Nat.div_div_eq_div_mul,← Nat.pow_add,show 64 * (0+n / 8 * 1)+8 * (n % 8)=8 * n by omega,Nat.pow_mul]
 obtain ⟨j,hj⟩:∃ j,64 - 8 * (n % 8)=8+j:=⟨56 - 8 * (n % 8),by omega⟩
 rw [hj,Nat.pow_add,show (256:Nat)=2 ^ 8 from rfl,Nat.mod_mod_of_dvd _ ⟨2 ^ j,rfl⟩]
theorem beb_u8 (a k:Nat) (hk:k < 32):((a / 2 ^ (64 * (0+(32 - 1 - k) / 8 * 1)) % 18446744073709551616 / 2 ^ (8 * ((32 - 1 - k) % 8)) % 256:Nat):Int)=(((UInt8.ofNat (a / 256 ^ (32 - 1 - k))).toNat:Nat):Int):=by
 rw [byte_limb a _ (by omega),UInt8.toNat_ofNat']
def fillB (L:List UInt8) (k:Nat):List UInt8:=L.take k++List.replicate (L.length - k) 0
theorem fillB_step (L:List UInt8) (k:Nat) (u:UInt8) (h:k < L.length) (hu:L[k]?=some u):ucs ((fillB L k).take k)++[Value.int .u8 (u.toNat:Int)]++ucs ((fillB L k).drop (k+1))=ucs (fillB L (k+1)):=by
 have h1:(L.take k).length=k:=by simp;omega
 have e1:(fillB L k).take k=L.take k:=by unfold fillB;rw [List.take_append_of_le_length (by omega),List.take_of_length_le (by omega)]
 have e2:(fillB L k).drop (k+1)=List.replicate (L.length - (k+1)) 0:=by
  unfold fillB
  rw [List.drop_append,h1,List.drop_eq_nil_of_le (by omega),List.nil_append,List.drop_replicate]
  congr 1;omega
 obtain ⟨hk,hv⟩:=List.getElem?_eq_some_iff.1 hu
 rw [e1,e2,show [Value.int .u8 (u.toNat:Int)]=ucs [u] from rfl,← ucs_app,← ucs_app]
 unfold fillB
 rw [List.take_succ_eq_append_getElem hk,hv]
theorem fillB_len (L:List UInt8) (k:Nat) (h:k≤L.length):(fillB L k).length=L.length:=by simp [fillB];omega
structure BX where
 m:Nat
 seg:Fs
theorem Bytes_calls (a:Nat) (ha:a < M256) (w:World):Calls Tryz.prog 72 #[wv a] w (RetG w [] fun v gs=>IsRow 5 1 v 32 (ucs (beb 32 a)) gs):=by
 refine enter (args:=[_]) _ [] [] Tryz.func72 rfl Tryz.ntmps72 rfl (by simp) .nil ?_
 (refine sRz ?_;apply zT;rfl;rfl;intro _;refine vAz<|nSz ?_)
 rename_i b
 refine LW.makeRow (n:=32) rfl inferInstance inferInstance inferInstance rfl rfl (by decide) (by decide) ?_
 intro v0 seg0 hrow0
 obtain ⟨p0,c0,rfl⟩:=hrow0.form
 rw [← ucs_zero] at hrow0
 (refine vAz<|nNz<|zI<|sRz<|vMz<|lvz (.lenR rfl inferInstance rfl)<|vMz<|nNz<|zM ?_)
 refine CW.loop (fun x:BX=>([(9,.int .i64 (x.m:Int)),(8,.int .i64 32),(3,.slice p0 32 c0),(1,.pointer (some ⟨b,0,none⟩))],x.seg++[(b,.cells (wc a) 29 (0,0))]))
  (fun x=>x.m≤32∧IsRow 5 1 (.slice p0 32 c0) 32 (ucs (fillB (beb 32 a) x.m)) x.seg) (fun x=>32 - x.m) ⟨0,seg0⟩ ⟨Nat.zero_le _,by simpa [fillB,beb_len] using hrow0⟩ ⟨rfl,rfl,rfl,rfl,trivial⟩ (qM _) ?_
 rintro ⟨k,seg⟩ ⟨hk,hrow⟩
 dsimp only at hk hrow ⊢
 rcases Nat.lt_or_ge k 32 with hlt|hge
 ·obtain ⟨g,cur,rfl,rfl,hc1,hmx,hsz,ht⟩:=hrow.pos (by decide)
  have hu:=beb_get 32 a k hlt
  have hval:=beb_u8 a k hlt
  obtain ⟨u,hu'⟩:∃ u,u=UInt8.ofNat (a / 256 ^ (32 - 1 - k)):=⟨_,rfl⟩
  rw [← hu'] at hu hval
  obtain ⟨w1,w2⟩:=wr_take (i:=k) (vs:=[Value.int .u8 (u.toNat:Int)]) ht rfl hlt (by omega)
  rw [ucs_take,ucs_drop,fillB_step _ _ _ (by rw [beb_len];exact hlt) hu] at w1
  have hW:Wr Tryz.prog 5 (.cells cur 5 (0,0)) (0+k * 1) (.int .u8 (u.toNat:Int)) (.cells (wrCells cur (k * 1) [Value.int .u8 (u.toNat:Int)]) 5 (0,0)):=Wr.cells rfl rfl (by rw [hsz];show 0+k * 1+1≤c0 * 1;omega) (by rw [qN];rfl)
  rw [← hval] at hW
  (refine sRz ?_;refine lvz (.lssT rfl rfl (by omega)) ?_;refine nNz<|zI<|cTz<|zJ<|thenN<|zI<|zM<|sRz<|vMz<|vAz<|nSz<|vMz<|lvz (.lenR rfl inferInstance rfl) ?_;refine lvz (.subZL rfl rfl (by decide) (by omega) (by omega)) ?_;refine vMz ?_;refine lvz (.subZ rfl rfl (by omega) (by omega)) ?_;refine vAz<|nNz<|zL<|vMz<|vMz<|vMz ?_;refine lvz (.quoZL rfl rfl (by decide) (by omega) (by omega)) ?_;refine lvz (.indexAddrA rfl rfl rfl (by omega)) ?_;apply LW.load;rfl;rfl;apply qE;apply zX;apply zY;apply Rd.one';apply nth_wc;omega;refine vMz ?_;refine lvz (.remZL rfl rfl (by decide) (by omega)) ?_;refine lvz (.mulZK rfl rfl (by decide) (by omega)) ?_;refine lvz (.shrU rfl rfl (by omega)) ?_;refine lvz (.convB rfl) ?_;refine lvz (.indexAddrS rfl rfl rfl (by omega)) ?_;apply zR;rfl;rfl;apply qA;assumption;apply zV;refine blkN<|thenN<|zL ?_;refine lvz (.addZL rfl rfl (by decide) (by omega)) ?_;refine vMz ?_;apply zV)
  apply thenX
  refine ⟨rfl,⟨k+1,_⟩,⟨hlt,.own hc1 hmx (by rw [w2,hsz]) w1 ?_⟩,by show 32 - (k+1) < 32 - k;omega,⟨rfl,rfl,rfl,rfl,trivial⟩,by rw [hval];exact qM _⟩
  rw [ucs_len,fillB_len _ _ (by rw [beb_len];exact hlt),beb_len]
 ·obtain rfl:k=32:=by omega
  rw [show fillB (beb 32 a) 32=beb 32 a by simp [fillB,beb_len,List.take_of_length_le]] at hrow
  (refine sRz ?_;refine lvz (.lssF rfl rfl (by omega)) ?_;refine nNz<|zI<|cFz<|CW.exit<|thenE<|thenE<|blkE rfl<|thenN<|sRz<|vMz<|vAz<|nNz<|zK ?_)
  apply finM seg;(exact .inl rfl);(exact Shut.nil);rfl;(apply zD;exact zG rfl;exact zF);exact qP _ _
  exact hrow
def bev (l:List UInt8):Nat:=l.foldl (fun n u=>256 * n+u.toNat) 0
theorem bev_snoc (l:List UInt8) (u:UInt8):bev (l++[u])=256 * bev l+u.toNat:=by simp [bev,List.foldl_append]
theorem bev_go (l:List UInt8):∀ n,l.foldl (fun n u=>256 * n+u.toNat) n < (n+1) * 2 ^ (8 * l.length):=by
 induction l with
 |nil=>intro n;simp
 |cons u l ih =>
  intro n
  have hu:=u.toNat_lt
  rw [List.foldl_cons,List.length_cons,show 8 * (l.length+1)=8+8 * l.length by omega,Nat.pow_add,← Nat.mul_assoc]
  exact Nat.lt_of_lt_of_le (ih _) (Nat.mul_le_mul_right _ (by omega))
theorem bev_lt (l:List UInt8):bev l < 2 ^ (8 * l.length):=by
 have:=bev_go l 0
 rwa [qN,Nat.one_mul] at this
end Go.Proofs.YtpgdnfgjbhdbpaaGreatDoor
namespace Go.Proofs.YtpgdnfgjbhdbpaaGreatDoor.UK
open Go Go.RowKit SL

end Go.Proofs.YtpgdnfgjbhdbpaaGreatDoor.UK
namespace Go.Proofs.YtpgdnfgjbhdbpaaGreatDoor.UK
open Go Go.RowKit SL
set_option maxRecDepth 8000
set_option maxHeartbeats 4000000
set_option linter.unusedSimpArgs false
set_option linter.unusedVariables false
attribute [local irreducible] SL.CW SL.LW SL.DW Calls SL.Ret SL.RetG SL.beginQ SL.roundQ SL.rangeQ SL.RW SL.AnyW SL.thenQ SL.thenC SL.thenW SL.blkQ SL.finQ SL.ValP SL.NewP SL.SetP SL.CallP SL.Rd SL.Wr SL.Known
section
structure PartV where
 lg:Bool
 wd:Nat
 dv:Value
 db:List UInt8
section rd
variable {P : Program} {T E : TypeId} {fr : Nat × Nat} {p : PartV}
end rd
end




section
section lw
variable {w0 : World} {S : List Nat} {N : Nat} {ds : List Deferred} {r : Option Nat} {ops : Array Oper} {Q : Post} {rest : List Oper} {e : Env} {fs : Fs} {d : Nat} {t : TypeId} {pos : String} {af : Array Edge}
end lw
end







end Go.Proofs.YtpgdnfgjbhdbpaaGreatDoor.UK
namespace Go.Proofs.YtpgdnfgjbhdbpaaGreatDoor.UK
open Go Go.RowKit SL

end Go.Proofs.YtpgdnfgjbhdbpaaGreatDoor.UK
namespace Go.Proofs.YtpgdnfgjbhdbpaaGreatDoor.UK
open Go Go.RowKit SL
set_option maxRecDepth 8000
set_option maxHeartbeats 4000000
set_option linter.unusedSimpArgs false
set_option linter.unusedVariables false
attribute [local irreducible] SL.CW SL.LW SL.DW Calls SL.Ret SL.RetG SL.beginQ SL.roundQ SL.rangeQ SL.RW SL.AnyW SL.thenQ SL.thenC SL.thenW SL.blkQ SL.finQ SL.ValP SL.NewP SL.SetP SL.CallP SL.Rd SL.Wr SL.Known
section
structure OpV where
 sd:Nat
 no:Nat
 iv:Value
 ib:List UInt8
 cv:Value
 cb:List UInt8
 vg:Nat
 cg:Nat
 pg:Nat
 mf:Nat
 mp:Nat
 py:Nat
 pv:Nat
 pp:Nat
 dv:Value
 db:List UInt8
 gv:Value
 gb:List UInt8
section rd
variable {P : Program} {T E : TypeId} {fr : Nat × Nat} {u : OpV}
end rd
theorem bev_shift (l:List UInt8) (m:Nat) (h:m < l.length):bev (l.take m) * 256 |||l[m].toNat=bev (l.take (m+1)):=by
 have hu:=l[m].toNat_lt
 rw [or_low (R:=256) (r:=8) rfl ⟨bev (l.take m),Nat.mul_comm _ _⟩ hu,List.take_succ_eq_append_getElem h,bev_snoc,Nat.mul_comm]
theorem bev8 {l:List UInt8} {m:Nat} (h:m≤8):bev (l.take m) < 2 ^ (8 * m):=by
 refine Nat.lt_of_lt_of_le (bev_lt _) (Nat.pow_le_pow_right (by decide) ?_)
 rw [List.length_take];omega
def adr (l:List UInt8):Nat:=bev (l.take 8)
theorem adr_lt (l:List UInt8):adr l < 18446744073709551616:=bev8 (l:=l) (m:=8) (by decide)
theorem aRead_calls (l:List UInt8) (v:Value) (w:World) (hv:RowAt w 1 v l.length (ucs l)) (hl:8≤l.length):Calls Tryz.prog 73 #[v] w (Ret w (.tuple #[.int .u64 (adr l:Int),.int .i64 0])):=by
 obtain ⟨p,c,rfl,hc,hm⟩:=hv.form
 simp only [maxLen] at hm
 refine enter (args:=[_]) _ [] [] Tryz.func73 rfl Tryz.ntmps73 rfl (by simp) .nil ?_
 (refine sRz<|vAz<|vAz<|nNz<|zI<|sRz<|vMz<|lvz (.lenR rfl inferInstance rfl) ?_;refine lvz (.lssF rfl rfl (by omega)) ?_;refine nNz<|cFz<|zJ<|thenN<|sRz<|vAz<|nNz<|zI<|sRz<|vMz<|nNz<|zM ?_)
 refine CW.loop (fun m:Nat=>([(9,.int .i64 (m:Int)),(4,.int .u64 (bev (l.take m):Int)),(0,.slice p l.length c)],[])) (fun m=>m≤8) (fun m=>8 - m) 0 (Nat.zero_le _) ⟨rfl,rfl,rfl,trivial⟩ (List.nil_sublist _) ?_
 rintro m hm
 dsimp only at hm ⊢
 rcases Nat.lt_or_ge m 8 with hlt|hge
 ·obtain ⟨b,off,c',cs,E,fr,heq,hb,hx⟩:=hv.pos (by omega)
  cases heq
  have hml:m < l.length:=by omega
  obtain ⟨u,hu⟩:∃ u,u=l[m]:=⟨_,rfl⟩
  have hu8:=u.toNat_lt
  have hrd:Rd Tryz.prog 5 (.cells cs E fr) (off+m * 1) (.int .u8 (u.toNat:Int)):=Rd.elem1 hx (ucs_one l) (by rw [hu];exact List.getElem?_eq_getElem hml) rfl
  have hb8:=bev8 (l:=l) (m:=m) (by omega)
  have hb7:bev (l.take m) < 72057594037927936:=Nat.lt_of_lt_of_le hb8 (show 2 ^ (8 * m)≤2 ^ 56 from Nat.pow_le_pow_right (by decide) (by omega))
  have hsh:=bev_shift l m hml
  rw [← hu] at hsh
  obtain ⟨x,hx1⟩:∃ x,bev (l.take m)=x:=⟨_,rfl⟩
  rw [hx1] at hsh hb7 ⊢
  have e:x * 2 ^ 8 % 18446744073709551616=x * 256:=Nat.mod_eq_of_lt (by omega)
  (refine sRz ?_;refine lvz (.lssT rfl rfl (by omega)) ?_;refine nNz<|zI<|cTz<|zJ<|thenN<|zI<|zM<|sRz<|vMz<|vAz<|nNz<|zL<|vMz ?_;refine lvz (.shlUL rfl rfl (by decide) (by omega)) ?_;refine vMz<|vMz ?_;refine lvz (.indexAddrS rfl rfl rfl (by omega)) ?_;apply LW.load;rfl;rfl;exact Known.ext (by assumption) (by simp);assumption;refine lvz (.convN rfl (by omega) (by omega)) ?_;refine lvz (.orU rfl rfl (by omega) (by omega)) ?_;refine vAz ?_;apply zV;refine blkN<|thenN<|zL ?_;refine lvz (.addZL rfl rfl (by decide) (by omega)) ?_;refine vMz ?_;apply zV)
  rw [e,hsh]
  apply thenX
  exact ⟨rfl,m+1,hlt,by omega,⟨rfl,rfl,rfl,trivial⟩,List.nil_sublist _⟩
 ·obtain rfl:m=8:=by omega
  (refine sRz ?_;refine lvz (.lssF rfl rfl (by omega)) ?_;refine nNz<|zI<|cFz<|CW.exit<|thenE<|thenE<|blkE rfl<|thenN<|sRz<|vMz<|vAz<|vAz<|nNz<|zK ?_)
  (apply finR;exact .inl rfl;rfl;rfl;rfl;apply zD;exact zG rfl;apply zD;exact zG rfl;exact zF)
  rfl
end


end Go.Proofs.YtpgdnfgjbhdbpaaGreatDoor.UK
namespace Go.Proofs.YtpgdnfgjbhdbpaaGreatDoor
open Go Go.RowKit SL
set_option maxRecDepth 8000
set_option maxHeartbeats 4000000
set_option linter.unusedSimpArgs false
set_option linter.unusedVariables false
attribute [local irreducible] SL.CW SL.LW SL.DW Calls SL.Ret SL.RetG SL.beginQ SL.roundQ SL.rangeQ SL.RW SL.AnyW SL.thenQ SL.thenC SL.thenW SL.blkQ SL.finQ SL.ValP SL.NewP SL.SetP SL.CallP SL.Rd SL.Wr SL.Known
section
structure FrV where
 code:Value
 pc:Int
 stk:Value
 mem:Value
 gas:Nat
 self:Nat
 frm:Nat
 val:Nat
 inp:Value
 back:Value
 stat:Bool
def frc (f:FrV):List Value:=f.code::.int .i64 f.pc::f.stk::f.mem::.int .u64 (f.gas:Int)::.int .u64 (f.self:Int)::.int .u64 (f.frm:Int)::((wc f.val).toList++[f.inp,f.back,.bool f.stat])
structure MaV where
 fr:FrV
 e0:Nat
 e1:Nat
 e2:Nat
 e3:Nat
 took:Value
 kind:Int
 op:Nat
 words:Value
 data:Value
def mcl (m:MaV):List Value:=frc m.fr++[.int .u64 (m.e0:Int),.int .u64 (m.e1:Int),.int .u64 (m.e2:Int),.int .u64 (m.e3:Int),m.took,.int .i64 m.kind,.int .u8 (m.op:Int),m.words,m.data]
def mca (m:MaV):Array Value:=(mcl m).toArray
abbrev maO (m:MaV):Obj:=.cells (mca m) 155 (0,0)
def MaV.setGas (m:MaV) (g:Nat):MaV:={ m with fr:={ m.fr with gas:=g } }
def MaV.setSc (m:MaV) (s k:Value):MaV:={ m with fr:={ m.fr with stk:=s,mem:=k } }
section rd
variable {P : Program} {T E : TypeId} {fr : Nat × Nat} {m : MaV}
theorem ma_rd4 [AgI P T false]:Rd P T (.cells (mca m) E fr) 4 (.int .u64 (m.fr.gas:Int)):=Rd.one rfl
theorem ma_rd3 [AgI P T false]:Rd P T (.cells (mca m) E fr) 3 m.fr.mem:=Rd.one rfl
theorem ma_rd2 [AgI P T true] {z:Value} [InfoI P T 2 z]:Rd P T (.cells (mca m) E fr) 2 (.agg #[m.fr.stk,m.fr.mem]):=Rd.mid (cs:=[m.fr.stk,m.fr.mem]) rfl rfl
theorem ma_wr4 {z:Value} {g:Nat} [InfoI P T 1 z]:Wr P T (.cells (mca m) E (0,0)) 4 (.int .u64 (g:Int)) (.cells (mca (m.setGas g)) E (0,0)):=Wr.cells (n:=1) (z:=z) rfl rfl (by show 4+1≤23;omega) rfl
theorem ma_wr2 {z s k:Value} [InfoI P T 2 z] (hs:s.oneCell'=true) (hk:k.oneCell'=true) (hsc:s.cells=#[s]) (hkc:k.cells=#[k]):Wr P T (.cells (mca m) E (0,0)) 2 (.agg #[s,k]) (.cells (mca (m.setSc s k)) E (0,0)) :=
 Wr.cells (n:=2) (z:=z) rfl (by show (s.oneCell' && (k.oneCell' && true))=true;rw [hs,hk];rfl) (by show 2+2≤23;omega) rfl
end rd
attribute [local irreducible] SL.inP
def MaK (b:Nat) (m:MaV) (r:Option MaV) (rest:Fs):Out:=fun x fs'=>match r with
 |some m'=>x=.returned (.tuple #[])∧fs'=(b,maO m')::rest
 |none=>x=.panicked failC∧fs'=(b,maO m)::rest
def spendM (m:MaV) (l:List Nat):Option MaV:=if l.sum≤m.fr.gas then some (m.setGas (m.fr.gas - l.sum)) else none
theorem spend_calls (w0:World) (S:List Nat) (b:Nat) (m:MaV) (l:List Nat) (hg:m.fr.gas < 18446744073709551616) (v:Value) (rest:Fs) (w:World) (hs:St w0 S ((b,maO m)::rest) w) (hv:∀ w',St w0 S ((b,maO m)::rest) w'→RowAt w' 1 v l.length (ncs l)) :
  Calls Tryz.prog 77 #[.pointer (some ⟨b,0,none⟩),v] w (fun x w'=>∃ fs',MaK b m (spendM m l) rest x fs'∧St w0 S fs' w'):=by
 by_cases hle:l.sum≤m.fr.gas
 ·have hSp:∀ w',St w0 S ((b,maO m)::rest) w'→Calls Tryz.prog 116 #[.int .u64 (m.fr.gas:Int),v] w' (Ret w' (.tuple #[.int .u64 ((m.fr.gas - l.sum:Nat):Int),.bool true])):=fun w' hw=>by
   have h:=Spend_calls m.fr.gas l hg v w' (hv w' hw)
   rwa [spendV,if_pos hle] at h
  refine calls_inlineP (args:=[_,_]) Tryz.func77 rfl Tryz.ntmps77 rfl ?_ hs
  (refine sRz<|vMz<|vNz<|vFz<|vFz<|ldz rfl .head ma_rd4<|vMz ?_;apply zS;rfl;rfl;infer_instance;exact .cons rfl (.cons rfl .nil);intro w _;exact hSp w (by assumption);refine vMz ?_;refine vEz ?_;refine vEz ?_;refine vAz<|vAz<|nSz<|vMz ?_;apply zS;rfl;rfl;infer_instance;exact .cons rfl .nil;intro w _;exact need_true w;refine nNz<|zL<|vMz<|vMz<|vNz<|vFz<|vFz ?_;apply zR;rfl;rfl;apply qA;apply ma_wr4 (z:=.int .u64 0);apply zV)
  exact inPI (.inr rfl) .nil rfl .nil rfl (by unfold spendM;rw [if_pos hle];exact ⟨rfl,rfl⟩)
 ·have hSp:∀ w',St w0 S ((b,maO m)::rest) w'→Calls Tryz.prog 116 #[.int .u64 (m.fr.gas:Int),v] w' (Ret w' (.tuple #[.int .u64 0,.bool false])):=fun w' hw=>by
   have h:=Spend_calls m.fr.gas l hg v w' (hv w' hw)
   rwa [spendV,if_neg hle] at h
  refine calls_inlineP (args:=[_,_]) Tryz.func77 rfl Tryz.ntmps77 rfl ?_ hs
  (refine sRz<|vMz<|vNz<|vFz<|vFz<|ldz rfl .head ma_rd4<|vMz ?_;apply zS;rfl;rfl;infer_instance;exact .cons rfl (.cons rfl .nil);intro w _;exact hSp w (by assumption);refine vMz ?_;refine vEz ?_;refine vEz ?_;refine vAz<|vAz<|nSz<|vMz ?_)
  refine LW.callP (K:=NeedK ((b,maO m)::rest)) rfl rfl inferInstance (by (exact .cons rfl .nil)) rfl (fun fs h=>by cases h.1) (fun w' hst=>need_false w0 S _ w' hst) ?_ ?_
  ·rintro v fs' ⟨h,_⟩
   cases h
  ·rintro ch fs' ⟨h,rfl⟩
   cases h
   refine thenP ?_
   exact inPP .nil (by unfold spendM;rw [if_neg hle];exact ⟨rfl,rfl⟩)
end
end Go.Proofs.YtpgdnfgjbhdbpaaGreatDoor
namespace Go.Proofs.YtpgdnfgjbhdbpaaGreatDoor.SK
open Go Go.RowKit SL
set_option maxRecDepth 8000
set_option maxHeartbeats 4000000
set_option linter.unusedSimpArgs false
set_option linter.unusedVariables false
attribute [local irreducible] SL.CW SL.LW SL.DW Calls SL.Ret SL.RetG SL.beginQ SL.roundQ SL.rangeQ SL.RW SL.AnyW SL.thenQ SL.thenC SL.thenW SL.blkQ SL.finQ SL.ValP SL.NewP SL.SetP SL.CallP SL.Rd SL.Wr SL.Known
def bev (l:List UInt8):Nat:=l.foldl (fun n u=>256 * n+u.toNat) 0
theorem bev_snoc (l:List UInt8) (u:UInt8):bev (l++[u])=256 * bev l+u.toNat:=by simp [bev,List.foldl_append]


theorem at_calls (x y:Nat) (hx:x < 1000) (hy:y < 1000) (w:World):Calls Tryz.prog 165 #[.int .i64 (x:Int),.int .i64 (y:Int)] w (Ret w (.int .i64 ((5 * (y % 5)+x % 5:Nat):Int))):=by
 refine enter (args:=[_,_]) _ [] [] Tryz.func165 rfl Tryz.ntmps165 rfl (by simp) .nil ?_
 (refine sRz<|vAz<|nSz<|vMz ?_;refine lvz (.remZL rfl rfl (by decide) (by omega)) ?_;refine lvz (.mulZK rfl rfl (by decide) (by omega)) ?_;refine vMz ?_;refine lvz (.remZL rfl rfl (by decide) (by omega)) ?_;refine lvz (.addZ rfl rfl (by omega)) ?_;refine vAz<|nNz<|zK ?_)
 (apply finR;exact .inl rfl;rfl;rfl;rfl;apply zD;exact zG rfl;exact zF)
 rfl
def rotl (x n:Nat):Nat:=(x * 2 ^ n % 18446744073709551616) |||(x / 2 ^ (64 - n))
theorem rot_calls (x n:Nat) (hx:x < 18446744073709551616) (hn:n < 64) (w:World):Calls Tryz.prog 172 #[.int .u64 (x:Int),.int .i64 (n:Int)] w (Ret w (.int .u64 ((rotl x n:Nat):Int))):=by
 have h63:n &&& 63=n:=by rw [show (63:Nat)=2 ^ 6 - 1 from rfl,Nat.and_two_pow_sub_one_eq_mod];exact Nat.mod_eq_of_lt hn
 refine enter (args:=[_,_]) _ [] [] Tryz.func172 rfl Tryz.ntmps172 rfl (by simp) .nil ?_
 unfold rotl
 conv in (2 ^ n)=>rw [← h63]
 conv in (64 - n)=>rw [← h63]
 (refine sRz<|vAz<|nSz<|vMz ?_;refine lvz (.convN rfl (by omega) (by omega)) ?_;refine lvz (.andUL rfl rfl (by decide) (by omega) (by omega)) ?_;refine vAz<|nSz<|vMz<|vMz ?_;refine lvz (.shlU rfl rfl (by omega)) ?_;refine vMz<|vMz ?_;refine lvz (.subNK rfl rfl (by decide) (by omega) (by omega)) ?_;refine lvz (.shrU rfl rfl (by omega)) ?_;apply LW.v0;rfl;rfl;apply ValP.orU;rfl;rfl;omega;apply div64;omega;refine vAz<|nNz<|zK ?_)
 (apply finR;exact .inl rfl;rfl;rfl;rfl;apply zD;exact zG rfl;exact zF)
 rfl
theorem turned_calls (x n:Nat) (hx:x < 18446744073709551616) (hn:n < 64) (w:World):Calls Tryz.prog 166 #[.int .u64 (x:Int),.int .i64 (n:Int)] w (Ret w (.int .u64 ((rotl x n:Nat):Int))):=by
 refine enter (args:=[_,_]) _ [] [] Tryz.func166 rfl Tryz.ntmps166 rfl (by simp) .nil ?_
 (refine sRz<|vAz<|nSz<|vMz<|vMz ?_;apply zS;rfl;rfl;infer_instance;exact .cons rfl (.cons rfl .nil);intro w _;exact rot_calls x n hx hn w;refine vAz<|nNz<|zK ?_)
 (apply finR;exact .inl rfl;rfl;rfl;rfl;apply zD;exact zG rfl;exact zF)
 rfl
def rowV (L:List Nat) (x y:Nat):Nat:=L.getD (5 * (y % 5)+x % 5) 0 ^^^ ((18446744073709551615 - L.getD (5 * (y % 5)+(x+1) % 5) 0) &&& L.getD (5 * (y % 5)+(x+2) % 5) 0)
def rowsF (L:List Nat):Nat→List Nat
 |0=>List.replicate 25 0
 |k+1=>(rowsF L k).set (5 * (k / 5 % 5)+k % 5 % 5) (rowV L (k % 5) (k / 5))
theorem rowsF_len (L:List Nat) (k:Nat):(rowsF L k).length=25:=by
 induction k with
 |zero=>simp [rowsF]
 |succ k ih=>simp [rowsF,ih]
theorem rowsF_step (L:List Nat) (x y:Nat) (hx:x < 5):rowsF L (5 * y+x+1)=(rowsF L (5 * y+x)).set (5 * (y % 5)+x % 5) (rowV L x y):=by
 rw [rowsF,show (5 * y+x) / 5=y by omega,show (5 * y+x) % 5=x by omega]
theorem places_calls (w:World):Calls Tryz.prog 164 #[] w (Ret w (.func (.func 171) #[] #[])):=by
 refine enter (args:=[]) _ [] [] Tryz.func164 rfl Tryz.ntmps164 rfl (by simp) .nil ?_
 (refine sRz<|vAz<|nSz<|vAz<|nNz<|zK ?_)
 (apply finR;exact .inl rfl;rfl;rfl;rfl;apply zD;exact zG rfl;exact zF)
 rfl
theorem Rows_calls (L:List Nat) (hL:L.length=25) (hb:∀ i,L.getD i 0 < 18446744073709551616) (w:World):Calls Tryz.prog 154 #[.agg (nca L)] w (Ret w (.agg (nca (rowsF L 25)))):=by
 refine enter (args:=[_]) _ [] [] Tryz.func154 rfl Tryz.ntmps154 rfl (by simp) .nil ?_
 (refine sRz ?_;apply zT;rfl;rfl;intro _;apply zU;rfl;intro _;refine nNz<|zI<|sRz ?_;apply zS;rfl;rfl;infer_instance;exact ArgsOk.nil;intro w _;exact places_calls w;refine nNz<|zM ?_)
 rename_i b1 b2
 apply CW.rangeFunc
 rfl
 rfl
 infer_instance
 rfl
 exact Tryz.func171
 rfl
 exact Tryz.ntmps171
 rfl
 rfl
 intro l r rec hrec
 (refine CW.scope<|zI<|CW.label<|thenN<|sRz<|vMz<|nNz<|zM ?_)
 refine CW.loop (fun y:Nat=>([(4,.int .i64 (y:Int)),(0,.func (.yield l) #[] #[])],
  [(l,rdy rec),(r,.deferred (some [])),(b2,.cells (nca (rowsF L (5 * y))) 140 (0,0)),(b1,.cells (nca L) 140 (0,0))]))
  (fun y=>y≤5) (fun y=>5 - y) 0 (Nat.zero_le _) ⟨rfl,rfl,trivial⟩ (qM _) ?_
 intro y hy
 dsimp only at hy ⊢
 rcases Nat.lt_or_ge y 5 with hy5|hy5
 ·(refine sRz ?_;refine lvz (.lssT rfl rfl (by omega)) ?_;refine nNz<|zI<|cTz<|zJ<|thenN<|zI<|zM<|sRz<|vMz<|vAz<|nSz<|vMz<|nNz<|zM ?_)
  refine CW.loop (fun x:Nat=>([(7,.int .i64 (x:Int)),(2,.int .i64 (y:Int)),(4,.int .i64 (y:Int)),(0,.func (.yield l) #[] #[])],
   [(l,rdy rec),(r,.deferred (some [])),(b2,.cells (nca (rowsF L (5 * y+x))) 140 (0,0)),(b1,.cells (nca L) 140 (0,0))]))
   (fun x=>x≤5) (fun x=>5 - x) 0 (Nat.zero_le _) ⟨rfl,rfl,rfl,rfl,trivial⟩ (qM _) ?_
  intro x hx
  dsimp only at hx ⊢
  rcases Nat.lt_or_ge x 5 with hx5|hx5
  ·have hlen:=rowsF_len L (5 * y+x)
   (refine sRz ?_;refine lvz (.lssT rfl rfl (by omega)) ?_;refine nNz<|zI<|cTz<|zJ<|thenN<|zI<|zM<|sRz<|vMz<|vAz<|nSz<|vMz<|vMz<|vMz ?_)
   apply LW.yield
   rfl
   rfl
   (exact .cons rfl (.cons rfl .nil))
   exact hrec
   (apply zY)
   rfl
   rfl
   (refine sRz<|vAz<|nNz<|zL<|vAz ?_;apply zV;apply beginI;apply qA;refine zM ?_;apply CW.pre;refine AnyW.any 22 mixed (by decide +kernel) ?_;(try simp only [tsOf_cons,tsOf_nil,tsOf_app]);refine dvz (.move rfl)<|dvz (.move rfl) ?_;apply DW.callE;rfl;rfl;rfl;exact zC;rfl;infer_instance;exact .cons rfl (.cons rfl .nil);rfl;exact ReadAll.nil;intro w _ _;refine at_calls _ _ ?_ ?_ w;omega;omega;refine dvz (.move rfl)<|dvz (.move rfl) ?_;apply DW.callE;rfl;rfl;rfl;exact zC;rfl;infer_instance;exact .cons rfl (.cons rfl .nil);rfl;exact ReadAll.nil;intro w _ _;refine at_calls _ _ ?_ ?_ w;omega;omega;refine dvz (.indexAddrA rfl rfl rfl (by omega)) ?_;apply qD;rfl;rfl;rfl;exact zC;rfl;apply zO;apply zO;apply zO;apply zP;exact zN;apply rd_nca;omega;refine dvz (.move rfl) ?_;refine dvz (.addZL rfl rfl (by decide) (by omega)) ?_;refine dvz (.move rfl) ?_;apply DW.callE;rfl;rfl;rfl;exact zC;rfl;infer_instance;exact .cons rfl (.cons rfl .nil);rfl;exact ReadAll.nil;intro w _ _;refine at_calls _ _ ?_ ?_ w;omega;omega;refine dvz (.indexAddrA rfl rfl rfl (by omega)) ?_;apply qD;rfl;rfl;rfl;exact zC;rfl;apply zO;apply zO;apply zO;apply zP;exact zN;apply rd_nca;omega;apply DW.v0;rfl;rfl;rfl;exact zC;rfl;apply ValP.notU;rfl;exact hb _;refine dvz (.move rfl) ?_;refine dvz (.addZL rfl rfl (by decide) (by omega)) ?_;refine dvz (.move rfl) ?_;apply DW.callE;rfl;rfl;rfl;exact zC;rfl;infer_instance;exact .cons rfl (.cons rfl .nil);rfl;exact ReadAll.nil;intro w _ _;refine at_calls _ _ ?_ ?_ w;omega;omega;refine dvz (.indexAddrA rfl rfl rfl (by omega)) ?_;apply qD;rfl;rfl;rfl;exact zC;rfl;apply zO;apply zO;apply zO;apply zP;exact zN;apply rd_nca;omega;apply DW.v0;rfl;rfl;rfl;exact zC;rfl;apply ValP.andU;rfl;rfl;omega;exact hb _;apply DW.nil;simp only [fsOf_cons,fsOf_nil,fsOf_app,fsOf_tsOf,fsOf_new];apply LW.v0;rfl;rfl;apply ValP.xorU;rfl;rfl;exact hb _;apply and64;omega;refine lvz (.indexAddrA rfl rfl rfl (by omega)) ?_;apply zR;rfl;rfl;apply qB;apply qB;apply qA;apply wr_nca;omega;apply zV;refine blkN ?_;apply roundN;apply qA;refine lvz (.notT rfl (by with_reducible rfl)) ?_;refine nNz<|cFz<|zJ<|blkN<|thenN<|zL ?_;refine lvz (.addZL rfl rfl (by decide) (by omega)) ?_;refine vMz ?_;apply zV)
   refine thenX ⟨rfl,x+1,hx5,by omega,⟨rfl,rfl,rfl,rfl,trivial⟩,?_⟩
   rw [← Nat.add_assoc,rowsF_step L x y hx5]
   exact qM _
  ·obtain rfl:x=5:=by omega
   (refine sRz ?_;refine lvz (.lssF rfl rfl (by omega)) ?_;refine nNz<|zI<|cFz<|CW.exit<|thenE<|thenE<|blkE rfl<|blkN<|thenN<|zL ?_;refine lvz (.addZL rfl rfl (by decide) (by omega)) ?_;refine vMz ?_;apply zV)
   refine thenX ⟨rfl,y+1,hy5,by omega,⟨rfl,rfl,trivial⟩,?_⟩
   rw [show 5 * (y+1)=5 * y+5 by omega]
   exact qM _
 ·obtain rfl:y=5:=by omega
  have hlen:=rowsF_len L 25
  (refine sRz ?_;refine lvz (.lssF rfl rfl (by omega)) ?_;refine nNz<|zI<|cFz<|CW.exit<|thenE<|thenE<|blkE rfl<|scopeQ.n ?_)
  apply rangeN
  (exact .inr rfl)
  (exact Shut.nil)
  (apply qA)
  (refine blkN<|thenM<|sRz ?_;apply LW.load;rfl;rfl;apply qE;apply zX;apply zX;apply zY;apply rd_ncaW;assumption;apply zR;rfl;rfl;apply qB;apply qB;apply qA;apply wr_ncaW;assumption;assumption;refine nNz<|zK ?_)
  (apply finRM;exact .inl rfl;apply Shut.cons;apply qB;apply qA;exact Shut.nil;rfl;rfl;apply zD;apply zH;rfl;apply qE;apply zX;apply zX;apply zY;apply rd_ncaW;assumption;exact zF)
  rfl
section
def turnL:List Nat:=[0,1,62,28,27,36,44,6,55,20,3,10,43,25,39,41,45,15,21,8,18,2,61,56,14]
def numL:List Nat:=[1,32898,9223372036854808714,9223372039002292224,32907,2147483649,9223372039002292353,9223372036854808585,138,136,2147516425,2147483658,2147516555,9223372036854775947,9223372036854808713,9223372036854808579,9223372036854808578,9223372036854775936,32778,9223372039002259466,9223372039002292353,9223372036854808704,2147483649,9223372039002292232]
def ica (L:List Nat):Array Value:=(ics L).toArray
theorem ics_map (l:List Nat):ics l=l.map fun (x:Nat)=>Value.int .i64 (x:Int):=by
 induction l with
 |nil=>rfl
 |cons a l ih=>simp [ics] at *;exact ih
theorem rd_ica {P:Program} {T E:TypeId} {fr:Nat × Nat} {L:List Nat} {i:Nat} [AgI P T false] (hi:i < L.length):Rd P T (.cells (ica L) E fr) (0+i * 1) (.int .i64 ((L.getD i 0:Nat):Int)) :=
 Rd.one (by rw [qN,Nat.mul_one];simp [ica,ics_map,hi,List.getD_eq_getElem?_getD])
def NumAt (w:World):Prop:=∃ E fr,w.heap[1]?=some (.cells (nca numL) E fr)
def TurnAt (w:World):Prop:=∃ E fr,w.heap[2]?=some (.cells (ica turnL) E fr)
theorem NumAt.st {w w':World} {fs:Fs} (h:NumAt w) (hs:St w [] fs w'):NumAt w':=by
 obtain ⟨E,fr,h⟩:=h
 exact ⟨E,fr,by rw [hs.bel.block _ (Array.getElem?_eq_some_iff.1 h).1 (by simp)];exact h⟩
theorem TurnAt.st {w w':World} {fs:Fs} (h:TurnAt w) (hs:St w [] fs w'):TurnAt w':=by
 obtain ⟨E,fr,h⟩:=h
 exact ⟨E,fr,by rw [hs.bel.block _ (Array.getElem?_eq_some_iff.1 h).1 (by simp)];exact h⟩
theorem turnL_lt:∀ i,turnL.getD i 0 < 64:=fun i=>by
 rcases Nat.lt_or_ge i 25 with h|h
 ·exact (by decide:∀ i,i < 25→turnL.getD i 0 < 64) i h
 ·rw [List.getD_eq_getElem?_getD,List.getElem?_eq_none (by simpa [turnL] using h)];decide
theorem getD_set_lt {L:List Nat} {N i x:Nat} (h:∀ j,L.getD j 0 < N) (hx:x < N):∀ j,(L.set i x).getD j 0 < N:=fun j=>by
 have hj:=h j
 rw [List.getD_eq_getElem?_getD] at hj ⊢
 rw [List.getElem?_set]
 split
 ·split
  ·exact hx
  ·exact Nat.lt_of_le_of_lt (Nat.zero_le _) hx
 ·exact hj
theorem xor_lt {a b:Nat} (ha:a < 18446744073709551616) (hb:b < 18446744073709551616):a ^^^ b < 18446744073709551616:=Nat.xor_lt_two_pow (n:=64) ha hb
theorem rotl_lt {x n:Nat} (hx:x < 18446744073709551616):rotl x n < 18446744073709551616:=Nat.or_lt_two_pow (n:=64) (Nat.mod_lt _ (by decide)) (Nat.lt_of_le_of_lt (Nat.div_le_self _ _) hx)
def cF (L:List Nat):Nat→List Nat
 |0=>List.replicate 5 0
 |k+1=>(cF L k).set (k % 5) ((cF L k).getD (k % 5) 0 ^^^ L.getD (5 * (k / 5 % 5)+k % 5 % 5) 0)
theorem cF_len (L:List Nat) (k:Nat):(cF L k).length=5:=by
 induction k with
 |zero=>simp [cF]
 |succ k ih=>simp [cF,ih]
theorem rep_lt (n:Nat):∀ i,(List.replicate n 0).getD i 0 < 18446744073709551616:=fun i=>by
 rw [List.getD_eq_getElem?_getD,List.getElem?_replicate];split<;>decide
theorem cF_lt (L:List Nat) (hb:∀ i,L.getD i 0 < 18446744073709551616) (k:Nat):∀ i,(cF L k).getD i 0 < 18446744073709551616:=by
 induction k with
 |zero=>exact rep_lt 5
 |succ k ih=>exact getD_set_lt ih (xor_lt (ih _) (hb _))
theorem cF_step (L:List Nat) (x y:Nat) (hx:x < 5):cF L (5 * y+x+1)=(cF L (5 * y+x)).set x ((cF L (5 * y+x)).getD x 0 ^^^ L.getD (5 * (y % 5)+x % 5) 0):=by
 rw [cF,show (5 * y+x) / 5=y by omega,show (5 * y+x) % 5=x by omega]
def mixV (L C:List Nat) (x y:Nat):Nat:=rotl (L.getD (5 * (y % 5)+x % 5) 0 ^^^ (C.getD ((x+5 - 1) % 5) 0 ^^^ rotl (C.getD ((x+1) % 5) 0) 1)) (turnL.getD (5 * (y % 5)+x % 5) 0)
def mixF (L C:List Nat):Nat→List Nat
 |0=>List.replicate 25 0
 |k+1=>(mixF L C k).set (5 * ((2 * (k % 5)+3 * (k / 5)) % 5)+k / 5 % 5) (mixV L C (k % 5) (k / 5))
theorem mixF_len (L C:List Nat) (k:Nat):(mixF L C k).length=25:=by
 induction k with
 |zero=>simp [mixF]
 |succ k ih=>simp [mixF,ih]
theorem mixV_lt (L C:List Nat) (hb:∀ i,L.getD i 0 < 18446744073709551616) (hc:∀ i,C.getD i 0 < 18446744073709551616) (x y:Nat):mixV L C x y < 18446744073709551616:=rotl_lt (xor_lt (hb _) (xor_lt (hc _) (rotl_lt (hc _))))
theorem mixF_lt (L C:List Nat) (hb:∀ i,L.getD i 0 < 18446744073709551616) (hc:∀ i,C.getD i 0 < 18446744073709551616) (k:Nat):∀ i,(mixF L C k).getD i 0 < 18446744073709551616:=by
 induction k with
 |zero=>exact rep_lt 25
 |succ k ih=>exact getD_set_lt ih (mixV_lt L C hb hc _ _)
theorem mixF_step (L C:List Nat) (x y:Nat) (hx:x < 5):mixF L C (5 * y+x+1)=(mixF L C (5 * y+x)).set (5 * ((2 * x+3 * y) % 5)+y % 5) (mixV L C x y):=by
 rw [mixF,show (5 * y+x) / 5=y by omega,show (5 * y+x) % 5=x by omega]
def mixL (L:List Nat):List Nat:=mixF L (cF L 25) 25
theorem rd_turn {T E:TypeId} {fr:Nat × Nat} {i:Nat} [AgI Tryz.prog T false] (hi:i < 25):Rd Tryz.prog T (.cells (ica turnL) E fr) (0+i * 1) (.int .i64 ((turnL.getD i 0:Nat):Int)):=rd_ica (L:=turnL) hi
theorem cF_zero (L:List Nat):cF L 0=List.replicate 5 0:=rfl
theorem mixF_zero (L C:List Nat):mixF L C 0=List.replicate 25 0:=rfl
attribute [local irreducible] turnL cF mixF
theorem Mix_calls (L:List Nat) (hL:L.length=25) (hb:∀ i,L.getD i 0 < 18446744073709551616) (w:World) (hT:TurnAt w):Calls Tryz.prog 155 #[.agg (nca L)] w (Ret w (.agg (nca (mixL L)))):=by
 obtain ⟨ET,frT,hT⟩:=hT
 have hcb:=cF_lt L hb
 obtain ⟨C,hC⟩:∃ C,C=cF L 25:=⟨_,rfl⟩
 have hCb:∀ i,C.getD i 0 < 18446744073709551616:=fun i=>by rw [hC];exact hcb 25 i
 have hCl:C.length=5:=by rw [hC];exact cF_len L 25
 have hr1:∀ i,rotl (C.getD i 0) 1 < 18446744073709551616:=fun i=>rotl_lt (hCb i)
 have hk1:∀ i w,Calls Tryz.prog 166 #[.int .u64 ((C.getD i 0:Nat):Int),.int .i64 1] w (Ret w (.int .u64 ((rotl (C.getD i 0) 1:Nat):Int))):=fun i w=>turned_calls _ 1 (hCb i) (by decide) w
 have hk2:∀ v i w,v < 18446744073709551616→Calls Tryz.prog 166 #[.int .u64 ((v:Nat):Int),.int .i64 ((turnL.getD i 0:Nat):Int)] w (Ret w (.int .u64 ((rotl v (turnL.getD i 0):Nat):Int))):=fun v i w hv=>turned_calls v _ hv (turnL_lt i) w
 have hd:(0:Nat) < 18446744073709551616:=by decide
 refine enter (args:=[_]) _ [] [] Tryz.func155 rfl Tryz.ntmps155 rfl (by simp) .nil ?_
 (refine sRz ?_;apply zT;rfl;rfl;intro _;apply zU;rfl;intro _;refine nSz ?_;apply zU;rfl;intro _;refine nNz<|zI<|sRz ?_;apply zS;rfl;rfl;infer_instance;exact ArgsOk.nil;intro w _;exact places_calls w;refine nNz<|zM ?_)
 rename_i b1 b2 b3
 apply CW.rangeFunc
 rfl
 rfl
 infer_instance
 rfl
 exact Tryz.func171
 rfl
 exact Tryz.ntmps171
 rfl
 rfl
 intro l r rec hrec
 (refine CW.scope<|zI<|CW.label<|thenN<|sRz<|vMz<|nNz<|zM ?_)
 refine CW.loop (fun y:Nat=>([(4,.int .i64 (y:Int)),(0,.func (.yield l) #[] #[])],
  [(l,rdy rec),(r,.deferred (some [])),(b3,.cells (nca (cF L (5 * y))) 197 (0,0)),(b2,.cells (nca (List.replicate 25 0)) 140 (0,0)),(b1,.cells (nca L) 140 (0,0))]))
  (fun y=>y≤5) (fun y=>5 - y) 0 (Nat.zero_le _) ⟨rfl,rfl,trivial⟩ (by dsimp only;rw [Nat.mul_zero,cF_zero];exact qM _) ?_
 intro y hy
 dsimp only at hy ⊢
 rcases Nat.lt_or_ge y 5 with hy5|hy5
 ·(refine sRz ?_;refine lvz (.lssT rfl rfl (by omega)) ?_;refine nNz<|zI<|cTz<|zJ<|thenN<|zI<|zM<|sRz<|vMz<|vAz<|nSz<|vMz<|nNz<|zM ?_)
  refine CW.loop (fun x:Nat=>([(7,.int .i64 (x:Int)),(2,.int .i64 (y:Int)),(4,.int .i64 (y:Int)),(0,.func (.yield l) #[] #[])],
   [(l,rdy rec),(r,.deferred (some [])),(b3,.cells (nca (cF L (5 * y+x))) 197 (0,0)),(b2,.cells (nca (List.replicate 25 0)) 140 (0,0)),(b1,.cells (nca L) 140 (0,0))]))
   (fun x=>x≤5) (fun x=>5 - x) 0 (Nat.zero_le _) ⟨rfl,rfl,rfl,rfl,trivial⟩ (qM _) ?_
  intro x hx
  dsimp only at hx ⊢
  rcases Nat.lt_or_ge x 5 with hx5|hx5
  ·have hlen:=cF_len L (5 * y+x)
   (refine sRz ?_;refine lvz (.lssT rfl rfl (by omega)) ?_;refine nNz<|zI<|cTz<|zJ<|thenN<|zI<|zM<|sRz<|vMz<|vAz<|nSz<|vMz<|vMz<|vMz ?_)
   apply LW.yield
   rfl
   rfl
   (exact .cons rfl (.cons rfl .nil))
   exact hrec
   (apply zY)
   rfl
   rfl
   (refine sRz<|vAz<|nNz<|zL<|vAz ?_;apply zV;apply beginI;apply qA;refine zM ?_;apply CW.pre;refine AnyW.any 8 mixed (by decide +kernel) ?_;(try simp only [tsOf_cons,tsOf_nil,tsOf_app]);refine dvz (.move rfl) ?_;refine dvz (.indexAddrA rfl rfl rfl (by omega)) ?_;apply qD;rfl;rfl;rfl;exact zC;rfl;apply zO;apply zO;apply zP;exact zN;apply rd_nca;omega;refine dvz (.move rfl)<|dvz (.move rfl) ?_;apply DW.callE;rfl;rfl;rfl;exact zC;rfl;infer_instance;exact .cons rfl (.cons rfl .nil);rfl;exact ReadAll.nil;intro w _ _;refine at_calls _ _ ?_ ?_ w;omega;omega;refine dvz (.indexAddrA rfl rfl rfl (by omega)) ?_;apply qD;rfl;rfl;rfl;exact zC;rfl;apply zO;apply zO;apply zO;apply zO;apply zP;exact zN;apply rd_nca;omega;apply DW.nil;simp only [fsOf_cons,fsOf_nil,fsOf_app,fsOf_tsOf,fsOf_new];apply LW.v0;rfl;rfl;apply ValP.xorU;rfl;rfl;exact hcb _ _;exact hb _;refine lvz (.indexAddrA rfl rfl rfl (by omega)) ?_;apply zR;rfl;rfl;apply qB;apply qB;apply qA;apply wr_nca;omega;apply zV;refine blkN ?_;apply roundN;apply qA;refine lvz (.notT rfl (by with_reducible rfl)) ?_;refine nNz<|cFz<|zJ<|blkN<|thenN<|zL ?_;refine lvz (.addZL rfl rfl (by decide) (by omega)) ?_;refine vMz ?_;apply zV)
   refine thenX ⟨rfl,x+1,hx5,by omega,⟨rfl,rfl,rfl,rfl,trivial⟩,?_⟩
   rw [← Nat.add_assoc,cF_step L x y hx5]
   exact qM _
  ·obtain rfl:x=5:=by omega
   (refine sRz ?_;refine lvz (.lssF rfl rfl (by omega)) ?_;refine nNz<|zI<|cFz<|CW.exit<|thenE<|thenE<|blkE rfl<|blkN<|thenN<|zL ?_;refine lvz (.addZL rfl rfl (by decide) (by omega)) ?_;refine vMz ?_;apply zV)
   refine thenX ⟨rfl,y+1,hy5,by omega,⟨rfl,rfl,trivial⟩,?_⟩
   rw [show 5 * (y+1)=5 * y+5 by omega]
   exact qM _
 ·obtain rfl:y=5:=by omega
  (refine sRz ?_;refine lvz (.lssF rfl rfl (by omega)) ?_;refine nNz<|zI<|cFz<|CW.exit<|thenE<|thenE<|blkE rfl<|scopeQ.n ?_)
  apply rangeN
  (exact .inr rfl)
  (exact Shut.nil)
  (apply qA)
  (refine blkN<|thenM<|zI<|sRz ?_;apply zS;rfl;rfl;infer_instance;exact ArgsOk.nil;intro w _;exact places_calls w;refine nNz<|zM ?_)
  rw [show 5 * 5=25 from rfl,← hC]
  apply CW.rangeFunc
  rfl
  rfl
  infer_instance
  rfl
  exact Tryz.func171
  rfl
  exact Tryz.ntmps171
  rfl
  rfl
  intro l2 r2 rec2 hrec2
  (refine CW.scope<|zI<|CW.label<|thenN<|sRz<|vMz<|nNz<|zM ?_)
  refine CW.loop (fun y:Nat=>([(4,.int .i64 (y:Int)),(0,.func (.yield l2) #[] #[])],
   [(l2,rdy rec2),(r2,.deferred (some [])),(r,.deferred (some [])),(b3,.cells (nca C) 197 (0,0)),(b2,.cells (nca (mixF L C (5 * y))) 140 (0,0)),(b1,.cells (nca L) 140 (0,0))]))
   (fun y=>y≤5) (fun y=>5 - y) 0 (Nat.zero_le _) ⟨rfl,rfl,trivial⟩ ?_ ?_
  ·dsimp only
   rw [Nat.mul_zero,mixF_zero]
   (apply List.Sublist.cons_cons;apply List.Sublist.cons_cons;apply qQ;exact qM _)
  intro y hy
  dsimp only at hy ⊢
  rcases Nat.lt_or_ge y 5 with hy5|hy5
  ·(refine sRz ?_;refine lvz (.lssT rfl rfl (by omega)) ?_;refine nNz<|zI<|cTz<|zJ<|thenN<|zI<|zM<|sRz<|vMz<|vAz<|nSz<|vMz<|nNz<|zM ?_)
   refine CW.loop (fun x:Nat=>([(7,.int .i64 (x:Int)),(2,.int .i64 (y:Int)),(4,.int .i64 (y:Int)),(0,.func (.yield l2) #[] #[])],
    [(l2,rdy rec2),(r2,.deferred (some [])),(r,.deferred (some [])),(b3,.cells (nca C) 197 (0,0)),(b2,.cells (nca (mixF L C (5 * y+x))) 140 (0,0)),(b1,.cells (nca L) 140 (0,0))]))
    (fun x=>x≤5) (fun x=>5 - x) 0 (Nat.zero_le _) ⟨rfl,rfl,rfl,rfl,trivial⟩ (qM _) ?_
   intro x hx
   dsimp only at hx ⊢
   rcases Nat.lt_or_ge x 5 with hx5|hx5
   ·have hlen:=mixF_len L C (5 * y+x)
    have hstep:=mixF_step L C x y hx5
    (refine sRz ?_;refine lvz (.lssT rfl rfl (by omega)) ?_;refine nNz<|zI<|cTz<|zJ<|thenN<|zI<|zM<|sRz<|vMz<|vAz<|nSz<|vMz<|vMz<|vMz ?_)
    apply LW.yield
    rfl
    rfl
    (exact .cons rfl (.cons rfl .nil))
    exact hrec2
    (apply zY)
    rfl
    rfl
    (refine sRz<|vAz<|nNz<|zL<|vAz ?_;apply zV;apply beginI;apply qA;refine zM<|zI ?_;apply CW.pre;refine AnyW.any 12 mixed (by decide +kernel) ?_;(try simp only [tsOf_cons,tsOf_nil,tsOf_app]);refine dvz (.move rfl) ?_;refine dvz (.addZL rfl rfl (by decide) (by omega)) ?_;refine dvz (.subZL rfl rfl (by decide) (by omega) (by omega)) ?_;refine dvz (.remZL rfl rfl (by decide) (by omega)) ?_;refine dvz (.indexAddrA rfl rfl rfl (by omega)) ?_;apply qD;rfl;rfl;rfl;exact zC;rfl;apply zO;apply zO;apply zO;apply zP;exact zN;apply rd_nca;omega;refine dvz (.move rfl) ?_;refine dvz (.addZL rfl rfl (by decide) (by omega)) ?_;refine dvz (.remZL rfl rfl (by decide) (by omega)) ?_;refine dvz (.indexAddrA rfl rfl rfl (by omega)) ?_;apply qD;rfl;rfl;rfl;exact zC;rfl;apply zO;apply zO;apply zO;apply zP;exact zN;apply rd_nca;omega;apply DW.callE;rfl;rfl;rfl;exact zC;rfl;infer_instance;exact .cons rfl (.cons rfl .nil);rfl;exact ReadAll.nil;intro w _ _;exact hk1 _ w;apply DW.nil;simp only [fsOf_cons,fsOf_nil,fsOf_app,fsOf_tsOf,fsOf_new];apply LW.v0;rfl;rfl;apply ValP.xorU;rfl;rfl;exact hCb _;exact hr1 _;refine vAz<|nNz ?_;apply CW.pre;refine AnyW.any 19 mixed (by decide +kernel) ?_;(try simp only [tsOf_cons,tsOf_nil,tsOf_app]);refine dvz (.move rfl)<|dvz (.move rfl) ?_;refine dvz (.mulZK rfl rfl (by decide) (by omega)) ?_;refine dvz (.move rfl) ?_;refine dvz (.mulZK rfl rfl (by decide) (by omega)) ?_;refine dvz (.addZ rfl rfl (by omega)) ?_;apply DW.callE;rfl;rfl;rfl;exact zC;rfl;infer_instance;exact .cons rfl (.cons rfl .nil);rfl;exact ReadAll.nil;intro w _ _;refine at_calls _ _ ?_ ?_ w;omega;omega;refine dvz (.move rfl)<|dvz (.move rfl) ?_;apply DW.callE;rfl;rfl;rfl;exact zC;rfl;infer_instance;exact .cons rfl (.cons rfl .nil);rfl;exact ReadAll.nil;intro w _ _;refine at_calls _ _ ?_ ?_ w;omega;omega;refine dvz (.indexAddrA rfl rfl rfl (by omega)) ?_;apply qD;rfl;rfl;rfl;exact zC;rfl;apply zO;apply zO;apply zO;apply zO;apply zO;apply zP;exact zN;apply rd_nca;omega;refine dvz (.move rfl) ?_;apply DW.v0;rfl;rfl;rfl;exact zC;rfl;apply ValP.xorU;rfl;rfl;exact hb _;apply xor64;exact hCb _;exact hr1 _;refine dvz (.move rfl)<|dvz (.move rfl) ?_;apply DW.callE;rfl;rfl;rfl;exact zC;rfl;infer_instance;exact .cons rfl (.cons rfl .nil);rfl;exact ReadAll.nil;intro w _ _;refine at_calls _ _ ?_ ?_ w;omega;omega;refine dvz (.indexAddrA rfl rfl rfl (by omega)) ?_;apply DW.loadX;rfl;rfl;rfl;exact zC;rfl;assumption;simp;apply rd_turn;omega;apply DW.nil;simp only [fsOf_cons,fsOf_nil,fsOf_app,fsOf_tsOf,fsOf_new];apply zS;rfl;rfl;infer_instance;exact .cons rfl (.cons rfl .nil);intro w _;refine hk2 _ _ w ?_;apply xor64;exact hb _;apply xor64;exact hCb _;exact hr1 _;refine lvz (.indexAddrA rfl rfl rfl (by omega)) ?_;apply zR;rfl;rfl;apply qB;apply qB;apply qB;apply qB;apply qA;apply wr_nca;omega;apply zV;refine blkN ?_;apply roundN;apply qA;refine lvz (.notT rfl (by with_reducible rfl)) ?_;refine nNz<|cFz<|zJ<|blkN<|thenN<|zL ?_;refine lvz (.addZL rfl rfl (by decide) (by omega)) ?_;refine vMz ?_;apply zV)
    refine thenX ⟨rfl,x+1,hx5,by omega,⟨rfl,rfl,rfl,rfl,trivial⟩,?_⟩
    rw [← Nat.add_assoc,hstep]
    exact qM _
   ·obtain rfl:x=5:=by omega
    (refine sRz ?_;refine lvz (.lssF rfl rfl (by omega)) ?_;refine nNz<|zI<|cFz<|CW.exit<|thenE<|thenE<|blkE rfl<|blkN<|thenN<|zL ?_;refine lvz (.addZL rfl rfl (by decide) (by omega)) ?_;refine vMz ?_;apply zV)
    refine thenX ⟨rfl,y+1,hy5,by omega,⟨rfl,rfl,trivial⟩,?_⟩
    rw [show 5 * (y+1)=5 * y+5 by omega]
    exact qM _
  ·obtain rfl:y=5:=by omega
   have hml:=mixF_len L C 25
   (refine sRz ?_;refine lvz (.lssF rfl rfl (by omega)) ?_;refine nNz<|zI<|cFz<|CW.exit<|thenE<|thenE<|blkE rfl<|scopeQ.n ?_)
   apply rangeN
   (exact .inr rfl)
   (exact Shut.nil)
   (apply qA)
   (refine blkN<|thenM<|sRz ?_;apply LW.load;rfl;rfl;apply qE;apply zX;apply zX;apply zX;apply zX;apply zY;apply rd_ncaW;assumption;apply zR;rfl;rfl;apply qB;apply qB;apply qB;apply qB;apply qA;apply wr_ncaW;assumption;assumption;refine nNz<|zK ?_)
   (apply finRM;exact .inl rfl;apply Shut.cons;apply qB;apply qA;apply Shut.cons;apply qB;apply qB;apply qA;exact Shut.nil;rfl;rfl;apply zD;apply zH;rfl;apply qE;apply zX;apply zX;apply zX;apply zX;apply zY;apply rd_ncaW;assumption;exact zF)
   show (Value.agg (nca (mixF L C (5 * 5))))=_
   rw [hC]
   rfl
end
section
attribute [local irreducible] turnL cF mixF mixL
def rowsL (L:List Nat):List Nat:=rowsF L 25
theorem mixL_len (L:List Nat):(mixL L).length=25:=by unfold mixL;exact mixF_len L _ 25
theorem mixL_lt (L:List Nat) (hb:∀ i,L.getD i 0 < 18446744073709551616):∀ i,(mixL L).getD i 0 < 18446744073709551616:=by unfold mixL;exact mixF_lt L _ hb (cF_lt L hb 25) 25
theorem rowV_lt (L:List Nat) (hb:∀ i,L.getD i 0 < 18446744073709551616) (x y:Nat):rowV L x y < 18446744073709551616 :=
 xor_lt (hb _) (Nat.and_lt_two_pow (n:=64) _ (hb _))
theorem rowsF_lt (L:List Nat) (hb:∀ i,L.getD i 0 < 18446744073709551616) (k:Nat):∀ i,(rowsF L k).getD i 0 < 18446744073709551616:=by
 induction k with
 |zero=>exact rep_lt 25
 |succ k ih=>exact getD_set_lt ih (rowV_lt L hb _ _)
theorem rowsL_len (L:List Nat):(rowsL L).length=25:=rowsF_len L 25
theorem rowsL_lt (L:List Nat) (hb:∀ i,L.getD i 0 < 18446744073709551616):∀ i,(rowsL L).getD i 0 < 18446744073709551616:=rowsF_lt L hb 25
def roundL (L:List Nat) (n:Nat):List Nat:=(rowsL (mixL L)).set 0 ((rowsL (mixL L)).getD 0 0 ^^^ n)
theorem roundL_len (L:List Nat) (n:Nat):(roundL L n).length=25:=by simp [roundL,rowsL_len]
theorem roundL_lt (L:List Nat) (n:Nat) (hb:∀ i,L.getD i 0 < 18446744073709551616) (hn:n < 18446744073709551616):∀ i,(roundL L n).getD i 0 < 18446744073709551616 :=
 getD_set_lt (rowsL_lt _ (mixL_lt L hb)) (xor_lt (rowsL_lt _ (mixL_lt L hb) 0) hn)
def permF (L:List Nat):Nat→List Nat
 |0=>L
 |k+1=>roundL (permF L k) (numL.getD k 0)
def permL (L:List Nat):List Nat:=permF L 24
theorem numL_lt (i:Nat) (h:i < 24):numL.getD i 0 < 18446744073709551616:=(by decide:∀ i,i < 24→numL.getD i 0 < 18446744073709551616) i h
theorem permF_len (L:List Nat) (hL:L.length=25) (k:Nat):(permF L k).length=25:=by
 cases k with
 |zero=>exact hL
 |succ k=>exact roundL_len _ _
theorem permF_lt (L:List Nat) (hb:∀ i,L.getD i 0 < 18446744073709551616) (k:Nat) (hk:k≤24):∀ i,(permF L k).getD i 0 < 18446744073709551616:=by
 induction k with
 |zero=>exact hb
 |succ k ih=>exact roundL_lt _ _ (ih (by omega)) (numL_lt k (by omega))
theorem permL_len (L:List Nat) (hL:L.length=25):(permL L).length=25:=permF_len L hL 24
theorem permL_lt (L:List Nat) (hb:∀ i,L.getD i 0 < 18446744073709551616):∀ i,(permL L).getD i 0 < 18446744073709551616:=permF_lt L hb 24 (Nat.le_refl _)
attribute [local irreducible] rowsL
theorem round_calls (L:List Nat) (n:Nat) (hL:L.length=25) (hb:∀ i,L.getD i 0 < 18446744073709551616) (hn:n < 18446744073709551616) (w:World) (hT:TurnAt w):Calls Tryz.prog 135 #[.agg (nca L),.int .u64 (n:Int)] w (Ret w (.agg (nca (roundL L n)))):=by
 have hM:∀ w' {fs},St w [] fs w'→Calls Tryz.prog 155 #[.agg (nca L)] w' (Ret w' (.agg (nca (mixL L)))):=fun w' fs hst=>Mix_calls L hL hb w' (hT.st hst)
 have hR:∀ w',Calls Tryz.prog 154 #[.agg (nca (mixL L))] w' (Ret w' (.agg (nca (rowsL (mixL L))))):=fun w'=>by
  unfold rowsL;exact Rows_calls _ (mixL_len L) (mixL_lt L hb) w'
 have hrb:=rowsL_lt _ (mixL_lt L hb)
 have hl1:=mixL_len L
 have hl2:=rowsL_len (mixL L)
 have hl3:((rowsL (mixL L)).set 0 ((rowsL (mixL L)).getD 0 0 ^^^ n)).length=25:=roundL_len L n
 refine enter (args:=[_,_]) _ [] [] Tryz.func135 rfl Tryz.ntmps135 rfl (by simp) .nil ?_
 (refine sRz ?_;apply zT;rfl;rfl;intro _;apply zU;rfl;intro _;refine nSz ?_;apply LW.load;rfl;rfl;apply qE;apply zX;apply zY;apply rd_ncaW;assumption;apply zS;rfl;rfl;infer_instance;exact .cons rfl .nil;intro w _;exact hM w (by assumption);apply zS;rfl;rfl;infer_instance;exact .cons rfl .nil;intro w _;exact hR w;apply zR;rfl;rfl;apply qB;apply qA;apply wr_ncaW;assumption;assumption;refine nSz<|lvz (.indexAddrL rfl rfl rfl) ?_;apply LW.load;rfl;rfl;apply qE;apply zX;apply zY;apply rd_nca0;omega;refine vMz ?_;apply LW.v0;rfl;rfl;apply ValP.xorU;rfl;rfl;exact hrb _;assumption;refine lvz (.indexAddrL rfl rfl rfl) ?_;apply zR;rfl;rfl;apply qB;apply qA;apply wr_nca0;omega;refine nSz ?_;apply LW.load;rfl;rfl;apply qE;apply zX;apply zY;apply rd_ncaW;assumption;apply zR;rfl;rfl;apply qA;apply wr_ncaO;rfl;assumption;refine nNz<|zK ?_)
 (apply finR;exact .inl rfl;rfl;rfl;rfl;apply zD;apply zH;rfl;apply qE;apply zY;apply rd_ncaW;assumption;exact zF)
 rfl
attribute [local irreducible] roundL
theorem numL_len:numL.length=24:=rfl
attribute [local irreducible] numL
theorem Permute_calls (L:List Nat) (hL:L.length=25) (hb:∀ i,L.getD i 0 < 18446744073709551616) (w:World) (hT:TurnAt w) (hN:NumAt w):Calls Tryz.prog 106 #[.agg (nca L)] w (Ret w (.agg (nca (permL L)))):=by
 obtain ⟨EN,frN,hN⟩:=hN
 have hnl:=numL_len
 have hR:∀ k,k < 24→∀ w' {fs},St w [] fs w'→Calls Tryz.prog 135 #[.agg (nca (permF L k)),.int .u64 ((numL.getD k 0:Nat):Int)] w' (Ret w' (.agg (nca (roundL (permF L k) (numL.getD k 0))))):=fun k hk w' fs hst=>round_calls _ _ (permF_len L hL k) (permF_lt L hb k (by omega)) (numL_lt k hk) w' (hT.st hst)
 refine enter (args:=[_]) _ [] [] Tryz.func106 rfl Tryz.ntmps106 rfl (by simp) .nil ?_
 (refine sRz ?_;apply zT;rfl;rfl;intro _;apply zU;rfl;intro _;refine nNz<|zI<|sRz ?_;apply LW.load;rfl;rfl;exact Known.ext (by assumption) (by simp);apply rd_ncaW;assumption;refine vMz<|nNz<|zM ?_)
 rename_i b1 b2
 refine CW.loop (fun k:Nat=>([(6,.int .i64 (k:Int)),(5,.agg (nca numL)),(2,.pointer (some ⟨b2,0,none⟩)),(1,.pointer (some ⟨b1,0,none⟩))],
  [(b2,.cells (nca (List.replicate 25 0)) 140 (0,0)),(b1,.cells (nca (permF L k)) 140 (0,0))]))
  (fun k=>k≤24) (fun k=>24 - k) 0 (Nat.zero_le _) ⟨rfl,rfl,rfl,rfl,trivial⟩ (qM _) ?_
 intro k hk
 dsimp only at hk ⊢
 have hlen:=permF_len L hL k
 rcases Nat.lt_or_ge k 24 with hk4|hk4
 ·have hR':=fun w' fs hst=>hR k hk4 w' (fs:=fs) hst
  have hlen':=roundL_len (permF L k) (numL.getD k 0)
  (refine sRz ?_;refine lvz (.lssT rfl rfl (by omega)) ?_;refine nNz<|zI<|cTz<|zJ<|thenN<|zI<|zM<|sRz ?_;apply LW.v0;rfl;rfl;apply ValP.indexA;rfl;rfl;rfl;rfl;omega;apply nth_nca;omega;refine vAz<|nNz<|zL ?_;apply LW.load;rfl;rfl;apply qE;apply zX;apply zY;apply rd_ncaW;assumption;refine vMz ?_;apply zS;rfl;rfl;infer_instance;exact .cons rfl (.cons rfl .nil);intro w _;exact hR' w _ (by assumption);apply zR;rfl;rfl;apply qB;apply qA;apply wr_ncaW;assumption;assumption;apply zV;refine blkN<|thenN<|zL ?_;refine lvz (.addZL rfl rfl (by decide) (by omega)) ?_;refine vMz ?_;apply zV)
  refine thenX ⟨rfl,k+1,hk4,by omega,⟨rfl,rfl,rfl,rfl,trivial⟩,?_⟩
  exact qM _
 ·obtain rfl:k=24:=by omega
  have hlr:(List.replicate 25 0:List Nat).length=25:=rfl
  (refine sRz ?_;refine lvz (.lssF rfl rfl (by omega)) ?_;refine nNz<|zI<|cFz<|CW.exit<|thenE<|thenE<|blkE rfl<|thenN<|sRz ?_;apply LW.load;rfl;rfl;apply qE;apply zX;apply zY;apply rd_ncaW;assumption;apply zR;rfl;rfl;apply qA;apply wr_ncaW;assumption;assumption;refine nNz<|zK ?_)
  (apply finR;exact .inl rfl;rfl;rfl;rfl;apply zD;apply zH;rfl;apply qE;apply zY;apply rd_ncaW;assumption;exact zF)
  rfl
end
def padN (n:Nat):Nat:=(n / 136+1) * 136
def pad1 (b:List UInt8):List UInt8:=(b++List.replicate (padN b.length - b.length) 0).set b.length 1
def padB (b:List UInt8):List UInt8:=(pad1 b).set (padN b.length - 1) ((pad1 b).getD (padN b.length - 1) 0 |||128)
theorem padN_lt (n:Nat):n < padN n:=by unfold padN;omega
theorem pad1_len (b:List UInt8):(pad1 b).length=padN b.length:=by have:=padN_lt b.length;simp [pad1];omega
theorem padB_len (b:List UInt8):(padB b).length=padN b.length:=by rw [padB,List.length_set,pad1_len]
theorem pad_copy (b:List UInt8):((List.replicate (padN b.length) (Value.int .u8 0)).toArray.toList.take 0++ucs b++(List.replicate (padN b.length) (Value.int .u8 0)).toArray.toList.drop (0+b.length)).toArray=uca (b++List.replicate (padN b.length - b.length) 0):=by
 simp [uca,ucs_map]
def PadR (b:List UInt8) (v:Value) (gs:Fs):Prop:=∃ g,v=.slice (some ⟨g,0,none⟩) (padB b).length (padB b).length∧gs=[(g,.cells (uca (padB b)) 5 (0,0))]
theorem wr_pad1 {T E:TypeId} {z:Value} [InfoI Tryz.prog T 1 z] (b:List UInt8):Wr Tryz.prog T (.cells (uca (b++List.replicate (padN b.length - b.length) (0:UInt8))) E (0,0)) (0+b.length * 1) (.int .u8 1) (.cells (uca (pad1 b)) E (0,0)) :=
 wr_uca (x:=1) (by have:=padN_lt b.length;simp;omega) (by decide)
theorem or_byte (u:UInt8):UInt8.ofNat (u.toNat |||128)=u |||128:=by
 apply UInt8.toNat_inj.1
 rw [UInt8.toNat_or,UInt8.toNat_ofNat']
 exact Nat.mod_eq_of_lt (Nat.or_lt_two_pow (n:=8) (UInt8.toNat_lt u) (by decide))
theorem wr_padB {T E:TypeId} {z:Value} [InfoI Tryz.prog T 1 z] (b:List UInt8):Wr Tryz.prog T (.cells (uca (pad1 b)) E (0,0)) (0+(padN b.length - 1) * 1) (.int .u8 ((((pad1 b).getD (padN b.length - 1) 0).toNat |||128:Nat):Int)) (.cells (uca (padB b)) E (0,0)):=by
 have h:=wr_uca (P:=Tryz.prog) (T:=T) (E:=E) (l:=pad1 b) (i:=padN b.length - 1) (x:=((pad1 b).getD (padN b.length - 1) 0).toNat |||128) (z:=z) (by rw [pad1_len];have:=padN_lt b.length;omega) (Nat.or_lt_two_pow (n:=8) (UInt8.toNat_lt _) (by decide))
 rw [or_byte] at h
 exact h
theorem Pad_calls (b:List UInt8) (v:Value) (w:World) (hv:RowAt w 1 v b.length (ucs b)) (hb:b.length≤100000):Calls Tryz.prog 105 #[v] w (RetG w [] (PadR b)):=by
 obtain ⟨p,c,rfl,hc,hm⟩:=hv.form
 have hlt:=padN_lt b.length
 have h1:=pad1_len b
 have h2:=padB_len b
 have hN:padN b.length=(b.length / 136+1) * 136:=rfl
 refine enter (args:=[_]) _ [] [] Tryz.func105 rfl Tryz.ntmps105 rfl (by simp) .nil ?_
 (refine sRz<|vAz<|nSz<|vMz<|lvz (.lenR rfl inferInstance rfl) ?_;refine lvz (.quoZL rfl rfl (by decide) (by omega) (by omega)) ?_;refine lvz (.addZL rfl rfl (by decide) (by omega)) ?_;refine lvz (.mulZL rfl rfl (by decide) (by omega)) ?_)
 rw [← hN]
 refine LW.makeOwn rfl inferInstance inferInstance inferInstance rfl rfl ?_ ?_ fun g=>?_
 ·omega
 ·simp only [maxLen];omega
 (refine vAz<|nSz<|vMz<|vMz<|vMz ?_)
 refine LW.copyAt (cur:=(List.replicate (padN b.length) (Value.int .u8 0)).toArray) (E':=5) (fs':=[(g,.cells (((List.replicate (padN b.length) (Value.int .u8 0)).toArray.toList.take 0++ucs b++(List.replicate (padN b.length) (Value.int .u8 0)).toArray.toList.drop (0+b.length)).toArray) 5 (0,0))]) rfl rfl inferInstance inferInstance inferInstance rfl rfl (fun w hst=>hv.st hst) (ucs_cells b) (by omega) (by simp;omega) (by (apply qA)) ?_
 rw [pad_copy]
 have hl0:(b++List.replicate (padN b.length - b.length) (0:UInt8)).length=padN b.length:=by simp;omega
 (refine lvz (.indexAddrS rfl rfl rfl (by omega)) ?_;refine zR rfl rfl .head (wr_pad1 b)<|nSz<|vMz<|vMz<|lvz (.lenR rfl inferInstance rfl) ?_;refine lvz (.subZL rfl rfl (by decide) (by omega) (by omega)) ?_;refine lvz (.indexAddrS rfl rfl rfl (by omega)) ?_;apply LW.load;rfl;rfl;apply qE;apply zY;apply rd_uca;omega;apply LW.v0;rfl;rfl;apply ValP.orBL;rfl;rfl;decide;exact UInt8.toNat_lt _;decide;refine lvz (.indexAddrS rfl rfl rfl (by omega)) ?_;refine zR rfl rfl .head (wr_padB b)<|nSz<|vMz<|vAz<|nNz<|zK ?_)
 refine fin [(g,.cells (uca (padB b)) 5 (0,0))] (.inl rfl) rfl rfl (by (apply zD;exact zG rfl;exact zF)) (qM _) ⟨g,?_,rfl⟩
 rw [h2];rfl
def ChunkR (v0:Value) (v:Value) (gs:Fs):Prop:=∃ b1 b2,v=.func (.func 134) #[] #[.pointer (some ⟨b1,0,none⟩),.pointer (some ⟨b2,0,none⟩)]∧gs=[(b2,.cells #[.int .i64 136] 3 (0,0)),(b1,.cells #[v0] 22 (0,0))]
theorem Chunk_calls (p:Option Addr) (n c:Nat) (w:World):Calls Tryz.prog 104 #[.slice p n c,.int .i64 136] w (RetG w [] (ChunkR (.slice p n c))):=by
 refine enter (args:=[_,_]) _ [] [] Tryz.func104 rfl Tryz.ntmps104 rfl (by simp) .nil ?_
 (refine sRz ?_;apply LW.box1;rfl;rfl;rfl;intro _;apply LW.box1;rfl;rfl;rfl;intro _;refine vAz<|nNz<|zI<|sRz<|ldz rfl .head (Rd.one' rfl) ?_;refine lvz (.lssF rfl rfl (by omega)) ?_;refine nNz<|cFz<|zJ<|thenN<|sRz ?_;apply LW.v0;rfl;rfl;apply ValP.makeFunc;exact ArgsOk.nil;exact .cons rfl (.cons rfl .nil);refine vAz<|nNz<|zK ?_)
 rename_i b1 b2
 exact fin _ (.inl rfl) rfl rfl (by (apply zD;exact zG rfl;exact zF)) (qM _) ⟨b1,b2,rfl,rfl⟩
section
def soakF (L:List Nat) (p:List UInt8) (o:Nat):Nat→List Nat
 |0=>L
 |k+1=>(soakF L p o k).set (k / 8) ((soakF L p o k).getD (k / 8) 0 ^^^ ((p.getD (o+k) 0).toNat * 2 ^ (8 * (k % 8)) % 18446744073709551616))
theorem soakF_len (L:List Nat) (p:List UInt8) (o k:Nat):(soakF L p o k).length=L.length:=by
 induction k with
 |zero=>rfl
 |succ k ih=>simp [soakF,ih]
theorem soakF_lt (L:List Nat) (p:List UInt8) (o:Nat) (hb:∀ i,L.getD i 0 < 18446744073709551616) (k:Nat):∀ i,(soakF L p o k).getD i 0 < 18446744073709551616:=by
 induction k with
 |zero=>exact hb
 |succ k ih=>exact getD_set_lt ih (xor_lt (ih _) (Nat.mod_lt _ (by decide)))
def sumF (p:List UInt8):Nat→List Nat
 |0=>List.replicate 25 0
 |c+1=>permL (soakF (sumF p c) p (136 * c) 136)
theorem sumF_len (p:List UInt8) (c:Nat):(sumF p c).length=25:=by
 induction c with
 |zero=>simp [sumF]
 |succ c ih=>exact permL_len _ (by rw [soakF_len,ih])
theorem sumF_lt (p:List UInt8) (c:Nat):∀ i,(sumF p c).getD i 0 < 18446744073709551616:=by
 induction c with
 |zero=>exact rep_lt 25
 |succ c ih=>exact permL_lt _ (soakF_lt _ _ _ ih _)
def idF (L:List Nat):Nat→List UInt8
 |0=>List.replicate 32 0
 |k+1=>(idF L k).set k (UInt8.ofNat (L.getD (k / 8) 0 / 2 ^ (8 * (k % 8)) % 256))
theorem idF_len (L:List Nat) (k:Nat):(idF L k).length=32:=by
 induction k with
 |zero=>simp [idF]
 |succ k ih=>simp [idF,ih]
def padC (n:Nat):Nat:=n / 136+1
def sumB (b:List UInt8):List UInt8:=idF (sumF (padB b) (padC b.length)) 32
theorem ValP.cut3o {P:Program} {e:Env} {T:TypeId} {x:Operand} {g o o' m n:Nat} {ik il im:IntKind} {E i j k c:Nat} {z:Value} {lo hi mx:Operand} (hU:UnI P T (.slice E)) (hI:InfoI P E 1 z) (hx:e.ev x=some (.slice (some ⟨g,o,none⟩) n c)) (hl:e.ev lo=some (.int il (i:Int))) (hh:e.ev hi=some (.int ik (j:Int))) (hm:e.ev mx=some (.int im (k:Int))) (h1:j=i+m) (h2:k=i+m) (h3:i+m≤c) (h4:0 < m) (h5:o'=o+i) :
  ValP P e [] (.slice T x (some lo) (some hi) (some mx)) (.slice (some ⟨g,o',none⟩) m m):=by
 subst h1 h2 h5
 have h:=ValP.cut3 (P:=P) (e:=e) hU hI hx hl hh hm (by omega) (by omega) h3 (by omega)
 have e1:i+m - i=m:=by omega
 have e2:(Option.map (fun x=>Addr.add x (i * 1)) (some ⟨g,o,none⟩))=some ⟨g,o+i,none⟩:=by simp [Addr.add]
 rw [e1] at h
 rw [← e2]
 exact h
theorem soakF_zero (L:List Nat) (p:List UInt8) (o:Nat):soakF L p o 0=L:=rfl
theorem sumF_zero (p:List UInt8):sumF p 0=List.replicate 25 0:=rfl
theorem soakF_succ (L:List Nat) (p:List UInt8) (o k:Nat):soakF L p o (k+1)=(soakF L p o k).set (k / 8) ((soakF L p o k).getD (k / 8) 0 ^^^ ((p.getD (o+k) 0).toNat * 2 ^ (8 * (k % 8)) % 18446744073709551616)):=rfl
theorem sumF_succ (p:List UInt8) (c:Nat):sumF p (c+1)=permL (soakF (sumF p c) p (136 * c) 136):=rfl
theorem idF_zero (L:List Nat):idF L 0=List.replicate 32 0:=rfl
theorem idF_succ (L:List Nat) (k:Nat):idF L (k+1)=(idF L k).set k (UInt8.ofNat (L.getD (k / 8) 0 / 2 ^ (8 * (k % 8)) % 256)):=rfl
attribute [local irreducible] permL padB soakF sumF idF
theorem Sum_calls (b:List UInt8) (v:Value) (w:World) (hv:RowAt w 1 v b.length (ucs b)) (hb:b.length≤100000) (hT:TurnAt w) (hN:NumAt w):Calls Tryz.prog 69 #[v] w (Ret w (.agg (uca (sumB b)))):=by
 have hPad:∀ w' {fs},St w [] fs w'→Calls Tryz.prog 105 #[v] w' (RetG w' [] (PadR b)):=fun w' fs hst=>Pad_calls b v w' (hv.st hst) hb
 have hP:∀ L:List Nat,L.length=25→(∀ i,L.getD i 0 < 18446744073709551616)→∀ w' {fs},St w [] fs w'→Calls Tryz.prog 106 #[.agg (nca L)] w' (Ret w' (.agg (nca (permL L)))):=fun L h1 h2 w' fs hst=>Permute_calls L h1 h2 w' (hT.st hst) (hN.st hst)
 obtain ⟨p0,c0,rfl,_,_⟩:=hv.form
 obtain ⟨P,hPe⟩:∃ P,P=padB b:=⟨_,rfl⟩
 obtain ⟨N,hNe⟩:∃ N,N=padC b.length:=⟨_,rfl⟩
 have hlP:P.length=136 * N:=by rw [hPe,hNe,padB_len,padN,padC];omega
 have hNb:N≤1000:=by rw [hNe,padC];omega
 refine enter (args:=[_]) _ [] [] Tryz.func69 rfl Tryz.ntmps69 rfl (by simp) .nil ?_
 (refine sRz ?_;apply zU;rfl;intro _;refine nSz ?_;apply zU;rfl;intro _;refine nNz<|zI<|sRz<|vMz ?_)
 refine LW.callR rfl rfl inferInstance (by (exact .cons rfl .nil)) (fun w hst=>hPad w hst) ?_
 rintro v1 gs1 ⟨g,rfl,rfl⟩
 rw [← hPe]
 skip
 refine LW.callR rfl rfl inferInstance (by (exact .cons rfl (.cons rfl .nil))) (fun w hst=>Chunk_calls _ _ _ w) ?_
 rintro v2 gs2 ⟨b1,b2,rfl,rfl⟩
 simp only [List.cons_append,List.nil_append]
 (refine nNz<|zM ?_)
 rename_i bi bl
 apply CW.rangeFunc
 rfl
 rfl
 infer_instance
 rfl
 exact Tryz.func134
 rfl
 exact Tryz.ntmps134
 rfl
 rfl
 intro l r rec hrec
 (refine sRz<|vAz<|nNz<|zM ?_)
 refine CW.loop (fun c:Nat=>([(4,.int .i64 ((136 * c:Nat):Int)),(0,.func (.yield l) #[] #[]),(1,.pointer (some ⟨b1,0,none⟩)),(2,.pointer (some ⟨b2,0,none⟩))],
  [(l,rdy rec),(r,.deferred (some [])),(b2,.cells #[.int .i64 136] 3 (0,0)),(b1,.cells #[.slice (some ⟨g,0,none⟩) P.length P.length] 22 (0,0)),(g,.cells (uca P) 5 (0,0)),
   (bl,.cells (nca (sumF P c)) 140 (0,0)),(bi,.cells (uca (List.replicate 32 0)) 107 (0,0))]))
  (fun c=>c≤N) (fun c=>N - c) 0 (Nat.zero_le _) ⟨rfl,rfl,rfl,rfl,trivial⟩ (by dsimp only;rw [sumF_zero];exact qM _) ?_
 intro c hc
 dsimp only at hc ⊢
 rcases Nat.lt_or_ge c N with hcN|hcN
 ·have hle:136 * c+136≤P.length:=by omega
  (refine zI<|sRz<|vMz<|ldz rfl (.tail (.tail (.tail .head))) (Rd.one' rfl)<|lvz (.lenR rfl inferInstance rfl) ?_;refine lvz (.lssT rfl rfl (by omega)) ?_;refine nNz<|cTz<|zJ<|thenN<|zI<|zM<|zI ?_;apply CW.pre;refine AnyW.any 5 mixed (by decide +kernel) ?_;(try simp only [tsOf_cons,tsOf_nil,tsOf_app]);apply qD;rfl;rfl;rfl;exact zC;rfl;apply zO;apply zO;apply zP;exact zN;exact Rd.one' rfl;apply qD;rfl;rfl;rfl;exact zC;rfl;apply zO;apply zO;apply zO;apply zP;exact zN;exact Rd.one' rfl;refine dvz (.move rfl) ?_;refine dvz (.cutFrom inferInstance inferInstance rfl rfl (by omega)) ?_;refine dvz (.lenR rfl inferInstance rfl) ?_;apply DW.nil;simp only [fsOf_cons,fsOf_nil,fsOf_app,fsOf_tsOf,fsOf_new];refine lvz (.minZ rfl rfl)<|vAz<|nSz<|vMz<|ldz rfl (.tail (.tail (.tail .head))) (Rd.one' rfl)<|vMz<|vMz<|vMz ?_;refine lvz (.addZ rfl rfl (by omega)) ?_;refine vMz<|vMz ?_;refine lvz (.addZ rfl rfl (by omega)) ?_)
  apply LW.v0
  rfl
  rfl
  refine ValP.cut3o (o':=136 * c) (m:=136) inferInstance inferInstance rfl rfl rfl rfl ?_ ?_ ?_ ?_ ?_
  ·show 136 * c+min 136 (P.length - 136 * c)=136 * c+136
   omega
  ·show 136 * c+min 136 (P.length - 136 * c)=136 * c+136
   omega
  ·omega
  ·omega
  ·omega
  apply LW.yield
  rfl
  rfl
  (exact .cons rfl .nil)
  exact hrec
  (apply zY)
  rfl
  rfl
  (refine zL<|vAz ?_;apply zV;apply beginI;apply qA;refine zM<|zI<|sRz<|vMz<|lvz (.lenR rfl inferInstance rfl)<|vMz<|nNz<|zM ?_)
  refine CW.loop (fun k:Nat=>([(14,.int .i64 (k:Int)),(13,.int .i64 136),(12,.slice (some ⟨g,136 * c,none⟩) 136 136),(3,.pointer (some ⟨bl,0,none⟩)),(2,.pointer (some ⟨bi,0,none⟩))],
   [(l,bsy rec),(r,.deferred (some [])),(b2,.cells #[.int .i64 136] 3 (0,0)),(b1,.cells #[.slice (some ⟨g,0,none⟩) P.length P.length] 22 (0,0)),(g,.cells (uca P) 5 (0,0)),
   (bl,.cells (nca (soakF (sumF P c) P (136 * c) k)) 140 (0,0)),(bi,.cells (uca (List.replicate 32 0)) 107 (0,0))]))
   (fun k=>k≤136) (fun k=>136 - k) 0 (Nat.zero_le _) ⟨rfl,rfl,rfl,rfl,rfl,trivial⟩ ?_ ?_
  ·dsimp only
   rw [soakF_zero]
   exact qM _
  intro k hk
  dsimp only at hk ⊢
  have hls:=soakF_len (sumF P c) P (136 * c) k
  have hls':=sumF_len P c
  have hsb:=soakF_lt _ P (136 * c) (sumF_lt P c) k
  rcases Nat.lt_or_ge k 136 with hk6|hk6
  ·have hbt:(P.getD (136 * c+k) 0).toNat < 256:=UInt8.toNat_lt _
   (refine sRz ?_;refine lvz (.lssT rfl rfl (by omega)) ?_;refine nNz<|zI<|cTz<|zJ<|thenN<|zI<|zM<|sRz<|vMz ?_;refine lvz (.indexAddrS rfl rfl rfl (by omega)) ?_;apply LW.load;rfl;rfl;apply qE;apply zX;apply zX;apply zX;apply zX;apply zY;apply rd_ucaO;omega;refine vAz<|vAz<|nNz ?_;apply CW.pre;refine AnyW.any 10 mixed (by decide +kernel) ?_;(try simp only [tsOf_cons,tsOf_nil,tsOf_app]);refine dvz (.move rfl) ?_;refine dvz (.quoZL rfl rfl (by decide) (by omega) (by omega)) ?_;refine dvz (.indexAddrA rfl rfl rfl (by omega)) ?_;apply qD;rfl;rfl;rfl;exact zC;rfl;apply zO;apply zO;apply zO;apply zO;apply zO;apply zP;exact zN;apply rd_nca;omega;refine dvz (.move rfl) ?_;refine dvz (.convN rfl (by omega) (by omega)) ?_;refine dvz (.move rfl) ?_;refine dvz (.remZL rfl rfl (by decide) (by omega)) ?_;refine dvz (.mulZK rfl rfl (by decide) (by omega)) ?_;refine dvz (.shlU rfl rfl (by omega)) ?_;apply DW.nil;simp only [fsOf_cons,fsOf_nil,fsOf_app,fsOf_tsOf,fsOf_new];apply LW.v0;rfl;rfl;apply ValP.xorU;rfl;rfl;exact hsb _;exact Nat.mod_lt _ (by decide);refine lvz (.indexAddrA rfl rfl rfl (by omega)) ?_;apply zR;rfl;rfl;apply qB;apply qB;apply qB;apply qB;apply qB;apply qA;apply wr_nca;omega;apply zV;refine blkN<|thenN<|zL ?_;refine lvz (.addZL rfl rfl (by decide) (by omega)) ?_;refine vMz ?_;apply zV)
   refine thenX ⟨rfl,k+1,hk6,by omega,⟨rfl,rfl,rfl,rfl,rfl,trivial⟩,?_⟩
   rw [soakF_succ]
   exact qM _
  ·obtain rfl:k=136:=by omega
   have hPerm:∀ w' {fs},St w [] fs w'→Calls Tryz.prog 106 #[.agg (nca (soakF (sumF P c) P (136 * c) 136))] w' (Ret w' (.agg (nca (permL (soakF (sumF P c) P (136 * c) 136))))):=hP _ (by rw [hls,hls']) hsb
   have hlp:=permL_len (soakF (sumF P c) P (136 * c) 136) (by rw [hls,hls'])
   have hls2:(soakF (sumF P c) P (136 * c) 136).length=25:=by rw [hls,hls']
   (refine sRz ?_;refine lvz (.lssF rfl rfl (by omega)) ?_;refine nNz<|zI<|cFz<|CW.exit<|thenE<|thenE<|blkE rfl<|thenN<|zL ?_;apply LW.load;rfl;rfl;apply qE;apply zX;apply zX;apply zX;apply zX;apply zX;apply zY;apply rd_ncaW;assumption;apply zS;rfl;rfl;infer_instance;exact .cons rfl .nil;intro w _;exact hPerm w (by assumption);apply zR;rfl;rfl;apply qB;apply qB;apply qB;apply qB;apply qB;apply qA;apply wr_ncaW;assumption;assumption;apply zV;refine blkN ?_;apply roundN;apply qA;refine lvz (.notT rfl (by with_reducible rfl)) ?_;refine nNz<|cFz<|zJ<|blkN<|thenN<|zL<|vMz<|ldz rfl (.tail (.tail .head)) (Rd.one' rfl) ?_;refine lvz (.addZL rfl rfl (by decide) (by omega)) ?_;refine vAz ?_;apply zV)
   refine thenX ⟨rfl,c+1,hcN,by omega,⟨rfl,rfl,rfl,rfl,trivial⟩,?_⟩
   rw [sumF_succ]
   exact qM _
 ·obtain rfl:c=N:=by omega
  have hls:=sumF_len P c
  have hsb:=sumF_lt P c
  (refine zI<|sRz<|vMz<|ldz rfl (.tail (.tail (.tail .head))) (Rd.one' rfl)<|lvz (.lenR rfl inferInstance rfl) ?_;refine lvz (.lssF rfl rfl (by omega)) ?_;refine nNz<|cFz<|CW.exit<|thenE<|thenE<|blkE rfl ?_)
  apply rangeN
  (exact .inr rfl)
  (exact Shut.nil)
  (apply qA)
  (refine blkN<|thenM<|zI<|sRz<|vMz<|nNz<|zM ?_)
  refine CW.loop (fun k:Nat=>([(34,.int .i64 (k:Int)),(3,.pointer (some ⟨bl,0,none⟩)),(2,.pointer (some ⟨bi,0,none⟩))],
   [(r,.deferred (some [])),(bl,.cells (nca (sumF P c)) 140 (0,0)),(bi,.cells (uca (idF (sumF P c) k)) 107 (0,0))]))
   (fun k=>k≤32) (fun k=>32 - k) 0 (Nat.zero_le _) ⟨rfl,rfl,rfl,trivial⟩ ?_ ?_
  ·dsimp only
   rw [idF_zero]
   (apply qQ;apply List.Sublist.cons_cons;apply qQ;apply qQ;apply qQ;exact qM _)
  intro k hk
  dsimp only at hk ⊢
  have hli:=idF_len (sumF P c) k
  rcases Nat.lt_or_ge k 32 with hk6|hk6
  ·(refine sRz ?_;refine lvz (.lssT rfl rfl (by omega)) ?_;refine nNz<|zI<|cTz<|zJ<|thenN<|zI<|zM<|sRz<|vMz<|vAz<|nNz<|zL<|vMz<|vMz ?_;refine lvz (.quoZL rfl rfl (by decide) (by omega) (by omega)) ?_;refine lvz (.indexAddrA rfl rfl rfl (by omega)) ?_;apply LW.load;rfl;rfl;apply qE;apply zX;apply zY;apply rd_nca;omega;refine vMz ?_;refine lvz (.remZL rfl rfl (by decide) (by omega)) ?_;refine lvz (.mulZK rfl rfl (by decide) (by omega)) ?_;refine lvz (.shrU rfl rfl (by omega)) ?_;refine lvz (.convB rfl) ?_;refine lvz (.indexAddrA rfl rfl rfl (by omega)) ?_;apply zR;rfl;rfl;apply qB;apply qB;apply qA;apply wr_uca;omega;exact Nat.mod_lt _ (by decide);apply zV;refine blkN<|thenN<|zL ?_;refine lvz (.addZL rfl rfl (by decide) (by omega)) ?_;refine vMz ?_;apply zV)
   refine thenX ⟨rfl,k+1,hk6,by omega,⟨rfl,rfl,rfl,trivial⟩,?_⟩
   rw [idF_succ]
   exact qM _
  ·obtain rfl:k=32:=by omega
   (refine sRz ?_;refine lvz (.lssF rfl rfl (by omega)) ?_;refine nNz<|zI<|cFz<|CW.exit<|thenE<|thenE<|blkE rfl<|thenN<|sRz ?_;apply LW.load;rfl;rfl;apply qE;apply zX;apply zX;apply zY;apply rd_ucaW;assumption;apply zR;rfl;rfl;apply qB;apply qB;apply qA;apply wr_ucaW;assumption;assumption;refine nNz<|zK ?_)
   (apply finRM;exact .inl rfl;apply Shut.cons;apply qA;exact Shut.nil;rfl;rfl;apply zD;apply zH;rfl;apply qE;apply zX;apply zX;apply zY;apply rd_ucaW;assumption;exact zF)
   rw [sumB,← hPe,← hNe]
   rfl
end

end Go.Proofs.YtpgdnfgjbhdbpaaGreatDoor.SK
namespace Go.Proofs.YtpgdnfgjbhdbpaaGreatDoor.SK
open Go Go.RowKit SL
set_option maxRecDepth 100000

end Go.Proofs.YtpgdnfgjbhdbpaaGreatDoor.SK
namespace Go.Proofs.YtpgdnfgjbhdbpaaGreatDoor.SK
open Go Go.RowKit SL
set_option maxRecDepth 8000
set_option maxHeartbeats 4000000
set_option linter.unusedSimpArgs false
set_option linter.unusedVariables false
attribute [local irreducible] SL.CW SL.LW SL.DW Calls SL.Ret SL.RetG SL.beginQ SL.roundQ SL.rangeQ SL.RW SL.AnyW SL.thenQ SL.thenC SL.thenW SL.blkQ SL.finQ SL.ValP SL.NewP SL.SetP SL.CallP SL.Rd SL.Wr SL.Known

theorem Clone_calls (l:List UInt8) (v:Value) (w:World) (hv:RowAt w 1 v l.length (ucs l)) (hl:l.length≤100000):Calls Tryz.prog 12 #[v] w (RetG w [] (fun v' gs=>IsRow 5 1 v' l.length (ucs l) gs)):=by
 obtain ⟨p,c,rfl,_,_⟩:=hv.form
 cases p with
 |none =>
  have h0:l.length=0:=by
   rcases Nat.eq_zero_or_pos l.length with h|h
   ·exact h
   ·obtain ⟨_,_,_,_,_,_,he,_,_⟩:=hv.pos h
    cases he
  have hn:l=[]:=List.length_eq_zero_iff.1 h0
  subst hn
  refine enter (args:=[_]) _ [] [] Tryz.func12 rfl Tryz.ntmps12 rfl (by simp) .nil ?_
  (refine sRz<|vAz<|nNz<|zI<|sRz<|vMz ?_;apply LW.v0;rfl;rfl;apply ValP.sliNilT;rfl;rfl;refine nNz<|cTz<|sRz<|vAz<|nNz<|zK<|thenR ?_)
  exact fin [] (.inl rfl) rfl rfl (by (apply zD;exact zG rfl;exact zF)) (qM _) .nil
 |some a =>
  refine enter (args:=[_]) _ [] [] Tryz.func12 rfl Tryz.ntmps12 rfl (by simp) .nil ?_
  (refine sRz<|vAz<|nNz<|zI<|sRz<|vMz ?_;apply LW.v0;rfl;rfl;apply ValP.sliNilF;rfl;rfl;refine nNz<|cFz<|zJ<|thenN<|sRz ?_)
  refine LW.lay0 rfl inferInstance inferInstance fun v0 seg hrow=>?_
  (refine vMz ?_)
  (apply LW.appendAny;(case hrow=>assumption);rfl;rfl;infer_instance;infer_instance;infer_instance;rfl;rfl;rfl;exact AtSeg.head)
  ·exact fun w hs=>hv.st hs
  ·exact ucs_cells l
  ·simp only [maxLen];omega
  ·omega
  intro v1 seg1 hrow1
  refine ⟨_,(by (exact AtSeg.head)),?_⟩
  simp only [List.nil_append,qN,List.append_nil] at hrow1 ⊢
  (refine vAz<|nNz<|zK ?_)
  refine fin (vs:=[v1]) seg1 (.inl rfl) rfl rfl (by (apply zD;exact zG rfl;exact zF)) ?_ hrow1
  (exact qM _)
theorem Equal_calls (a b:List UInt8) (va vb:Value) (w:World) (ha:RowAt w 1 va a.length (ucs a)) (hb:RowAt w 1 vb b.length (ucs b)):Calls Tryz.prog 36 #[va,vb] w (Ret w (.bool (decide (a=b)))):=by
 refine enter (args:=[_,_]) _ [] [] Tryz.func36 rfl Tryz.ntmps36 rfl (by simp) .nil ?_
 (refine sRz<|vAz<|nSz<|vMz ?_)
 refine LW.toStr rfl inferInstance inferInstance inferInstance rfl (fun w hs=>ha.st hs) ?_
 (refine vMz ?_)
 refine LW.toStr rfl inferInstance inferInstance inferInstance rfl (fun w hs=>hb.st hs) ?_
 (refine lvz (.strEq rfl rfl)<|vAz<|nNz<|zK ?_)
 (apply finR;exact .inl rfl;rfl;rfl;rfl;apply zD;exact zG rfl;exact zF)
 simp [tup,← bytes_eq]
end Go.Proofs.YtpgdnfgjbhdbpaaGreatDoor.SK
namespace Go.Proofs.YtpgdnfgjbhdbpaaGreatDoor
open Go Go.RowKit SL
set_option maxRecDepth 8000
set_option maxHeartbeats 4000000
set_option linter.unusedSimpArgs false
set_option linter.unusedVariables false
attribute [local irreducible] SL.CW SL.LW SL.DW Calls SL.Ret SL.RetG SL.beginQ SL.roundQ SL.rangeQ SL.RW SL.AnyW SL.thenQ SL.thenC SL.thenW SL.blkQ SL.finQ SL.ValP SL.NewP SL.SetP SL.CallP SL.Rd SL.Wr SL.Known
theorem CloneW_calls (l:List Nat) (v:Value) (w:World) (hv:RowAt w 4 v l.length (wcs l)) (hl:l.length≤100000):Calls Tryz.prog 38 #[v] w (RetG w [] (fun v' gs=>IsRow 29 4 v' l.length (wcs l) gs)):=by
 obtain ⟨p,c,rfl,_,_⟩:=hv.form
 cases p with
 |none =>
  have h0:l.length=0:=by
   rcases Nat.eq_zero_or_pos l.length with h|h
   ·exact h
   ·obtain ⟨_,_,_,_,_,_,he,_,_⟩:=hv.pos h
    cases he
  have hn:l=[]:=List.length_eq_zero_iff.1 h0
  subst hn
  refine enter (args:=[_]) _ [] [] Tryz.func38 rfl Tryz.ntmps38 rfl (by simp) .nil ?_
  (refine sRz<|vAz<|nNz<|zI<|sRz<|vMz ?_;apply LW.v0;rfl;rfl;apply ValP.sliNilT;rfl;rfl;refine nNz<|cTz<|sRz<|vAz<|nNz<|zK<|thenR ?_)
  exact fin [] (.inl rfl) rfl rfl (by (apply zD;exact zG rfl;exact zF)) (qM _) .nil
 |some a =>
  refine enter (args:=[_]) _ [] [] Tryz.func38 rfl Tryz.ntmps38 rfl (by simp) .nil ?_
  (refine sRz<|vAz<|nNz<|zI<|sRz<|vMz ?_;apply LW.v0;rfl;rfl;apply ValP.sliNilF;rfl;rfl;refine nNz<|cFz<|zJ<|thenN<|sRz ?_)
  refine LW.lay0 rfl inferInstance inferInstance fun v0 seg hrow=>?_
  (refine vMz ?_)
  (apply LW.appendAny;(case hrow=>assumption);rfl;rfl;infer_instance;infer_instance;infer_instance;rfl;rfl;rfl;exact AtSeg.head)
  ·exact fun w hs=>hv.st hs
  ·exact wcs_cells l
  ·simp only [maxLen];omega
  ·omega
  intro v1 seg1 hrow1
  refine ⟨_,(by (exact AtSeg.head)),?_⟩
  simp only [List.nil_append,qN,List.append_nil] at hrow1 ⊢
  (refine vAz<|nNz<|zK ?_)
  refine fin (vs:=[v1]) seg1 (.inl rfl) rfl rfl (by (apply zD;exact zG rfl;exact zF)) ?_ hrow1
  (exact qM _)
def wM (l:List Nat) (v:Value) (gs:Fs):Prop:=IsRow 29 4 v l.length (wcs l) gs
def bM (l:List UInt8) (v:Value) (gs:Fs):Prop:=IsRow 5 1 v l.length (ucs l) gs
def ScO (ws:List Nat) (ms:List UInt8) (v:Value) (gs:Fs):Prop:=∃ s m g1 g2,v=.agg #[s,m]∧gs=g2++g1∧wM ws s g1∧bM ms m g2
theorem copied_calls (ws:List Nat) (ms:List UInt8) (s m:Value) (w:World) (hs:RowAt w 4 s ws.length (wcs ws)) (hm:RowAt w 1 m ms.length (ucs ms)) (hl:ws.length≤100000) (hl2:ms.length≤100000) :
  Calls Tryz.prog 140 #[.agg #[s,m]] w (RetG w [] (ScO ws ms)):=by
 obtain ⟨p,c,rfl,_,_⟩:=hs.form
 obtain ⟨p2,c2,rfl,_,_⟩:=hm.form
 refine enter (args:=[_]) _ [] [] Tryz.func140 rfl Tryz.ntmps140 rfl (by simp) .nil ?_
 (refine sRz ?_;apply zT;rfl;rfl;intro _;apply zU;rfl;intro _;refine nNz<|zI ?_)
 rename_i b1 b2
 apply CW.pre
 (refine AnyW.anyM [(2,wM ws),(5,bM ms)] 5 mixed (by decide +kernel) ?_)
 ((try simp only [tsOf_cons,tsOf_nil,tsOf_app]);refine dvz (.fieldAddr rfl rfl) ?_;apply qD;rfl;rfl;rfl;exact zC;rfl;apply zO;apply zP;exact zN;exact sc_rd0)
 (apply DW.manyV;rfl;rfl;rfl;exact zC;rfl;infer_instance;exact .cons rfl .nil;apply RdV.ext;assumption;rfl;exact RdV.nil;intro w _ _)
 exact CloneW_calls _ _ w (hs.bel (by assumption)) hl
 intro v1 g1 h1
 ((try simp only [tsOf_cons,tsOf_nil,tsOf_app]);refine dvz (.fieldAddr rfl rfl) ?_;apply qD;rfl;rfl;rfl;exact zC;rfl;apply zQ;apply zO;apply zP;exact zN;exact sc_rd1;apply DW.nil;simp only [fsOf_cons,fsOf_nil,fsOf_app,fsOf_tsOf,fsOf_new,fsOf_tag])
 (apply LW.callR;rfl;rfl;infer_instance;exact .cons rfl .nil;intro w hs)
 exact SK.Clone_calls _ _ w (hm.st hs) hl2
 intro v2 g2 h2
 have h1':=h1
 have h2':=h2
 unfold wM at h1'
 unfold bM at h2'
 obtain ⟨q1,k1,rfl⟩:=h1'.form
 obtain ⟨q2,k2,rfl⟩:=h2'.form
 (apply LW.v0;rfl;rfl;apply zW;infer_instance;infer_instance;apply zA;rfl;apply zA;rfl;exact zB;rfl;simp only [fillP,wrCells,Value.cells,qH,qI,qJ,qG,qL,qK,Nat.reduceAdd,qN];rfl;refine zR rfl rfl (.app (.app .head)) (.whole rfl rfl rfl)<|nNz<|zK ?_)
 refine fin (vs:=[.agg #[.slice q1 ws.length k1,.slice q2 ms.length k2]]) (g2++g1) (.inl rfl) rfl rfl (by (apply zD;apply zH;rfl;apply qE;apply zZ;apply zZ;apply zY;exact qF rfl;exact zF)) ?_ ⟨_,_,g1,g2,rfl,rfl,h1,h2⟩
 exact List.Sublist.append_left (qP _ _) _
section
section wr
variable {P : Program} {T E : TypeId} {s m z : Value} {p : Option Addr} {n c : Nat}
theorem sc_wr0 [InfoI P T 1 z]:Wr P T (.cells #[s,m] E (0,0)) 0 (.slice p n c) (.cells #[.slice p n c,m] E (0,0)):=Wr.cells (n:=1) (z:=z) rfl rfl (by show 0+1≤2;omega) rfl
theorem sc_wr1 [InfoI P T 1 z]:Wr P T (.cells #[s,m] E (0,0)) 1 (.slice p n c) (.cells #[s,.slice p n c] E (0,0)):=Wr.cells (n:=1) (z:=z) rfl rfl (by show 1+1≤2;omega) rfl
end wr
theorem push_full (ws:List Nat) (ms:List UInt8) (l:List Nat) (s m v:Value) (w:World) (hs:RowAt w 4 s ws.length (wcs ws)) (hm:RowAt w 1 m ms.length (ucs ms)) (hv:RowAt w 4 v l.length (wcs l)) (hok:okSc ws.length ms.length) (hll:l.length≤100000) (hf:64 < ws.length+l.length) :
  Calls Tryz.prog 118 #[.agg #[s,m],v] w (Ret w (.tuple #[.agg #[.slice none 0 0,.slice none 0 0],.int .i64 6])):=by
 obtain ⟨p,c,rfl,_,hc⟩:=hs.form
 obtain ⟨p2,c2,rfl,_,hc2⟩:=hm.form
 obtain ⟨p3,c3,rfl,_,_⟩:=hv.form
 have hC:∀ w,Calls Tryz.prog 66 #[.agg #[.slice p ws.length c,.slice p2 ms.length c2]] w (Ret w (.int .i64 0)):=fun w=>by
  have h:=scCheck_calls p p2 ws.length c ms.length c2 (by omega) (by omega) w
  rwa [if_pos hok] at h
 have hok2:=hok
 unfold okSc at hok2
 obtain ⟨hn1,hk1,hk2⟩:=hok2
 refine enter (args:=[_,_]) _ [] [] Tryz.func118 rfl Tryz.ntmps118 rfl (by simp) .nil ?_
 (refine sRz ?_;apply zT;rfl;rfl;intro _;apply zU;rfl;intro _;refine vAz<|nNz<|zI<|sRz<|ldz rfl (.tail .head) (qF rfl) ?_;apply zS;rfl;rfl;infer_instance;exact .cons rfl .nil;intro w _;exact hC w;refine vAz<|nSz<|vMz ?_;refine lvz (.neF rfl rfl (by omega)) ?_;refine nNz<|cFz<|zJ<|thenN<|zI<|sRz<|vFz<|ldz rfl (.tail .head) sc_rd0<|lvz (.lenR rfl inferInstance rfl)<|vMz<|lvz (.lenR rfl inferInstance rfl) ?_;refine lvz (.addZ rfl rfl (by omega)) ?_;refine lvz (.gtrT rfl rfl (by omega)) ?_;refine nNz<|cTz<|sRz ?_;apply LW.v0;rfl;rfl;apply zW;infer_instance;infer_instance;exact zB;rfl;simp only [fillP,wrCells,Value.cells,qH,qI,qJ,qG,qL,qK,Nat.reduceAdd,qN];rfl;refine zR rfl rfl .head (.whole rfl rfl rfl)<|vAz<|nNz<|zK<|thenR ?_)
 (apply finR;exact .inl rfl;rfl;rfl;rfl;apply zD;apply zH;rfl;apply qE;apply zY;exact qF rfl;apply zD;exact zG rfl;exact zF)
 rfl
theorem push_ok (ws:List Nat) (ms:List UInt8) (l:List Nat) (s m v:Value) (w:World) (hs:RowAt w 4 s ws.length (wcs ws)) (hm:RowAt w 1 m ms.length (ucs ms)) (hv:RowAt w 4 v l.length (wcs l)) (hok:okSc ws.length ms.length) (hll:l.length≤100000) (hf:ws.length+l.length≤64) :
  Calls Tryz.prog 118 #[.agg #[s,m],v] w (RetG w [] (fun r gs=>∃ o,r=.tuple #[o,.int .i64 0]∧ScO (ws++l) ms o gs)):=by
 have hs0:=hs
 have hm0:=hm
 obtain ⟨p,c,rfl,_,hc⟩:=hs.form
 obtain ⟨p2,c2,rfl,_,hc2⟩:=hm.form
 obtain ⟨p3,c3,rfl,_,_⟩:=id hv.form
 have hC:∀ w,Calls Tryz.prog 66 #[.agg #[.slice p ws.length c,.slice p2 ms.length c2]] w (Ret w (.int .i64 0)):=fun w=>by
  have h:=scCheck_calls p p2 ws.length c ms.length c2 (by omega) (by omega) w
  rwa [if_pos hok] at h
 have hok2:=hok
 unfold okSc at hok2
 obtain ⟨hn1,hk1,hk2⟩:=hok2
 refine enter (args:=[_,_]) _ [] [] Tryz.func118 rfl Tryz.ntmps118 rfl (by simp) .nil ?_
 (refine sRz ?_;apply zT;rfl;rfl;intro _;apply zU;rfl;intro _;refine vAz<|nNz<|zI<|sRz<|ldz rfl (.tail .head) (qF rfl) ?_;apply zS;rfl;rfl;infer_instance;exact .cons rfl .nil;intro w _;exact hC w;refine vAz<|nSz<|vMz ?_;refine lvz (.neF rfl rfl (by omega)) ?_;refine nNz<|cFz<|zJ<|thenN<|zI<|sRz<|vFz<|ldz rfl (.tail .head) sc_rd0<|lvz (.lenR rfl inferInstance rfl)<|vMz<|lvz (.lenR rfl inferInstance rfl) ?_;refine lvz (.addZ rfl rfl (by omega)) ?_;refine lvz (.gtrF rfl rfl (by omega)) ?_;refine nNz<|cFz<|zJ<|thenN<|sRz<|ldz rfl (.tail .head) (qF rfl) ?_)
 (apply LW.callR;rfl;rfl;infer_instance;exact .cons rfl .nil;intro w hs)
 exact copied_calls ws ms _ _ w (hs0.st hs) (hm0.st hs) (by omega) (by omega)
 rintro vo gso ⟨s1,m1,g1,g2,rfl,rfl,h1,h2⟩
 have h1':=h1
 have h2':=h2
 unfold wM at h1'
 unfold bM at h2'
 obtain ⟨q1,k1,rfl⟩:=h1'.form
 obtain ⟨q2,k2,rfl⟩:=h2'.form
 (apply zU;rfl;intro _;refine zR rfl rfl .head (.whole rfl rfl rfl)<|nSz<|vFz<|ldz rfl .head sc_rd0<|vMz ?_)
 rw [List.append_assoc]
 (apply LW.appendAny;(case hrow=>exact h1');rfl;rfl;infer_instance;infer_instance;infer_instance;rfl;rfl;rfl;(apply AtSeg.cons;apply AtSeg.app;exact AtSeg.head))
 ·exact fun w hs=>hv.st hs
 ·exact wcs_cells l
 ·simp only [maxLen];omega
 ·omega
 intro v1 seg1 hrow1
 refine ⟨_,(by (apply AtSeg.cons;apply AtSeg.app;exact AtSeg.head)),?_⟩
 simp only [List.nil_append,qN,List.append_nil] at hrow1 ⊢
 obtain ⟨q3,k3,rfl⟩:=hrow1.form
 (refine vFz ?_;refine zR rfl rfl .head sc_wr0<|nSz<|ldz rfl .head (qF rfl) ?_;refine zR rfl rfl (.tail (.app (.app .head))) (.whole rfl rfl rfl)<|vAz<|nNz<|zK ?_)
 refine fin (vs:=[.agg #[.slice q3 (ws.length+l.length) k3,.slice q2 ms.length k2],.int .i64 0]) (g2++seg1) (.inl rfl) rfl rfl (by (apply zD;apply zH;rfl;apply qE;apply zX;apply zZ;apply zZ;apply zY;exact qF rfl;apply zD;exact zG rfl;exact zF)) ?_ ⟨_,rfl,_,_,seg1,g2,rfl,rfl,?_,h2⟩
 ·exact qQ _ (List.Sublist.append_left (qP _ _) _)
 ·unfold wM
  rw [List.length_append,wcs_app]
  exact hrow1
end
section
attribute [local irreducible] SL.inP
theorem lay_ok (w0:World) (S:List Nat) (b:Nat) (m:MaV) (ws:List Nat) (ms:List UInt8) (l:List Nat) (v:Value) (rest:Fs) (w:World) (hs:St w0 S ((b,maO m)::rest) w)
  (h1:∀ w',St w0 S ((b,maO m)::rest) w'→RowAt w' 4 m.fr.stk ws.length (wcs ws)∧RowAt w' 1 m.fr.mem ms.length (ucs ms)∧RowAt w' 4 v l.length (wcs l)) (hok:okSc ws.length ms.length) (hll:l.length≤100000) (hf:ws.length+l.length≤64) :
  Calls Tryz.prog 78 #[.pointer (some ⟨b,0,none⟩),v] w (fun x w'=>∃ fs',(x=.returned (.tuple #[])∧∃ s k gs c4,ScO (ws++l) ms (.agg #[s,k]) gs∧fs'=c4::(gs++(b,maO (m.setSc s k))::rest))∧St w0 S fs' w'):=by
 refine calls_inlineP (K:=fun x fs'=>x=.returned (.tuple #[])∧∃ s k gs c4,ScO (ws++l) ms (.agg #[s,k]) gs∧fs'=c4::(gs++(b,maO (m.setSc s k))::rest)) (args:=[_,_]) Tryz.func78 rfl Tryz.ntmps78 rfl ?_ hs
 (refine sRz<|vMz<|vNz<|vFz<|vFz<|ldz rfl .head ma_rd2<|vMz ?_)
 (apply LW.callR;rfl;rfl;infer_instance;exact .cons rfl (.cons rfl .nil);intro w hs)
 exact push_ok ws ms l _ _ _ w (h1 w hs).1 (h1 w hs).2.1 (h1 w hs).2.2 hok hll hf
 rintro vo gso ⟨o,rfl,s1,m1,g1,g2,rfl,rfl,hw1,hb1⟩
 have hw1':=hw1
 have hb1':=hb1
 unfold wM at hw1'
 unfold bM at hb1'
 obtain ⟨q1,k1,rfl⟩:=hw1'.form
 obtain ⟨q2,k2,rfl⟩:=hb1'.form
 (refine vMz ?_;refine vEz ?_;refine vEz ?_;apply zU;rfl;intro _;refine zR rfl rfl .head (.whole rfl rfl rfl)<|vAz<|nSz<|vMz ?_;refine lvz (.eqT rfl rfl (by omega)) ?_;apply zS;rfl;rfl;infer_instance;exact .cons rfl .nil;intro w _;exact need_true w;refine nNz<|zL<|vMz<|ldz rfl .head (qF rfl)<|vNz<|vFz<|vFz ?_;refine zR rfl rfl (.tail (.app .head)) (ma_wr2 rfl rfl rfl rfl) ?_;apply zV)
 exact inPI (.inr rfl) .nil rfl .nil rfl ⟨rfl,_,_,g2++g1,_,⟨_,_,g1,g2,rfl,rfl,hw1,hb1⟩,rfl⟩
theorem lay_full (w0:World) (S:List Nat) (b:Nat) (m:MaV) (ws:List Nat) (ms:List UInt8) (l:List Nat) (v:Value) (rest:Fs) (w:World) (hs:St w0 S ((b,maO m)::rest) w)
  (h1:∀ w',St w0 S ((b,maO m)::rest) w'→RowAt w' 4 m.fr.stk ws.length (wcs ws)∧RowAt w' 1 m.fr.mem ms.length (ucs ms)∧RowAt w' 4 v l.length (wcs l)) (hok:okSc ws.length ms.length) (hll:l.length≤100000) (hf:64 < ws.length+l.length) :
  Calls Tryz.prog 78 #[.pointer (some ⟨b,0,none⟩),v] w (fun x w'=>∃ fs',(x=.panicked failC∧∃ c4,fs'=c4::(b,maO m)::rest)∧St w0 S fs' w'):=by
 have hP:∀ w',St w0 S ((b,maO m)::rest) w'→Calls Tryz.prog 118 #[.agg #[m.fr.stk,m.fr.mem],v] w' (Ret w' (.tuple #[.agg #[.slice none 0 0,.slice none 0 0],.int .i64 6])):=fun w' hst =>
  push_full ws ms l _ _ _ w' (h1 w' hst).1 (h1 w' hst).2.1 (h1 w' hst).2.2 hok hll hf
 refine calls_inlineP (K:=fun x fs'=>x=.panicked failC∧∃ c4,fs'=c4::(b,maO m)::rest) (args:=[_,_]) Tryz.func78 rfl Tryz.ntmps78 rfl ?_ hs
 (refine sRz<|vMz<|vNz<|vFz<|vFz<|ldz rfl .head ma_rd2<|vMz ?_;apply zS;rfl;rfl;infer_instance;exact .cons rfl (.cons rfl .nil);intro w _;exact hP w (by assumption);refine vMz ?_;refine vEz ?_;refine vEz ?_;apply zU;rfl;intro _;refine zR rfl rfl .head (.whole rfl rfl rfl)<|vAz<|nSz<|vMz ?_;refine lvz (.eqF rfl rfl (by omega)) ?_)
 rename_i b4
 refine LW.callP (K:=NeedK ((b4,.cells #[.slice none 0 0,.slice none 0 0] 25 (0,0))::(b,maO m)::rest)) rfl rfl inferInstance (by (exact .cons rfl .nil)) rfl (fun fs h=>by cases h.1) (fun w' hst=>need_false w0 S _ w' hst) ?_ ?_
 ·rintro v fs' ⟨h,_⟩
  cases h
 ·rintro ch fs' ⟨h,rfl⟩
  cases h
  refine thenP ?_
  exact inPP .nil ⟨rfl,_,rfl⟩
end
end Go.Proofs.YtpgdnfgjbhdbpaaGreatDoor
namespace Go.Proofs.YtpgdnfgjbhdbpaaGreatDoor.SL
set_option linter.unusedVariables false
open Go Go.RowKit
section mm
variable {P : Program} {e : Env} {x y : Operand} {tys : Array TypeId} {m n : Nat} {ik : IntKind}
theorem ValP.maxD (hx:e.ev x=some (.int ik ((m:Int) - (n:Int)))) (hy:e.ev y=some (.int ik 0)):ValP P e [] (.call { callee:=.builtin .max,args:=#[x,y],argTypes:=tys }) (.int ik ((m - n:Nat):Int)):=fun ρ w hρ _ d t pos af g=>by
 have h:(if (0:Int) > (m:Int) - (n:Int) then (0:Int) else (m:Int) - (n:Int))=((m - n:Nat):Int):=by split<;>omega
 have h2:=run_max_int2 (P:=P) (w:=w) tys t ik ik ((m:Int) - (n:Int)) 0
 rw [h] at h2
 simp [execOp,resolve,invoke,builtin,hρ x _ hx,hρ y _ hy,h2]
end mm
end Go.Proofs.YtpgdnfgjbhdbpaaGreatDoor.SL
namespace Go.Proofs.YtpgdnfgjbhdbpaaGreatDoor
open Go Go.RowKit SL
set_option maxRecDepth 8000
set_option maxHeartbeats 4000000
set_option linter.unusedSimpArgs false
set_option linter.unusedVariables false
attribute [local irreducible] SL.CW SL.LW SL.DW Calls SL.Ret SL.RetG SL.beginQ SL.roundQ SL.rangeQ SL.RW SL.AnyW SL.thenQ SL.thenC SL.thenW SL.blkQ SL.finQ SL.ValP SL.NewP SL.SetP SL.CallP SL.Rd SL.Wr SL.Known
def upW (n:Nat):Nat:=(n+31) / 32 * 32
theorem grow_ok (ws:List Nat) (ms:List UInt8) (n:Nat) (s m:Value) (w:World) (hs:RowAt w 4 s ws.length (wcs ws)) (hm:RowAt w 1 m ms.length (ucs ms)) (hok:okSc ws.length ms.length) (hn:0 < n) (hn2:n≤1024) :
  Calls Tryz.prog 147 #[.agg #[s,m],.int .u64 0,.int .u64 (n:Int)] w (RetG w [] (fun r gs=>∃ o,r=.tuple #[o,.int .i64 0]∧ScO ws (ms++List.replicate (upW n - ms.length) 0) o gs)):=by
 have hs0:=hs
 have hm0:=hm
 obtain ⟨p,c,rfl,_,hc⟩:=hs.form
 obtain ⟨p2,c2,rfl,_,hc2⟩:=hm.form
 have hC:∀ w,Calls Tryz.prog 66 #[.agg #[.slice p ws.length c,.slice p2 ms.length c2]] w (Ret w (.int .i64 0)):=fun w=>by
  have h:=scCheck_calls p p2 ws.length c ms.length c2 (by omega) (by omega) w
  rwa [if_pos hok] at h
 have hok2:=hok
 unfold okSc at hok2
 obtain ⟨hn1,hk1,hk2⟩:=hok2
 refine enter (args:=[_,_,_]) _ [] [] Tryz.func147 rfl Tryz.ntmps147 rfl (by simp) .nil ?_
 (refine sRz ?_;apply zT;rfl;rfl;intro _;apply zU;rfl;intro _;refine vAz<|nNz<|zI<|sRz<|ldz rfl (.tail .head) (qF rfl) ?_;apply zS;rfl;rfl;infer_instance;exact .cons rfl .nil;intro w _;exact hC w;refine vAz<|nSz<|vMz ?_;refine lvz (.neF rfl rfl (by omega)) ?_;refine nNz<|cFz<|zJ<|thenN<|sRz<|ldz rfl (.tail .head) (qF rfl) ?_)
 (apply LW.callR;rfl;rfl;infer_instance;exact .cons rfl .nil;intro w hs)
 exact copied_calls ws ms _ _ w (hs0.st hs) (hm0.st hs) (by omega) (by omega)
 rintro vo gso ⟨s1,m1,g1,g2,rfl,rfl,h1,h2⟩
 have h1':=h1
 have h2':=h2
 unfold wM at h1'
 unfold bM at h2'
 obtain ⟨q1,k1,rfl⟩:=h1'.form
 obtain ⟨q2,k2,rfl⟩:=h2'.form
 (apply zU;rfl;intro _;refine zR rfl rfl .head (.whole rfl rfl rfl)<|nNz<|zI<|sRz<|vMz ?_;refine lvz (.eqF rfl rfl (by omega)) ?_;refine nNz<|cFz<|zJ<|thenN<|zI<|sRz<|vMz ?_;refine lvz (.gtrF rfl rfl (by omega)) ?_;refine vMz<|gTz<|vMz<|gTz ?_;refine lvz (.gtrF rfl rfl (by omega)) ?_;refine pFz<|vMz<|gTz<|vMz<|gTz<|vMz<|gTz ?_;refine lvz (.addNK rfl rfl (by decide)) ?_;refine gTz ?_;refine lvz (.gtrF rfl rfl (by omega)) ?_;refine pFz<|nNz<|cFz<|zJ<|thenN<|sRz<|vMz<|vMz ?_;refine lvz (.addNK rfl rfl (by decide)) ?_;refine lvz (.convI rfl (by omega) (by omega)) ?_;refine lvz (.addZL rfl rfl (by decide) (by omega)) ?_;refine lvz (.subZL rfl rfl (by decide) (by omega) (by omega)) ?_;refine lvz (.quoZL rfl rfl (by decide) (by omega) (by omega)) ?_;refine lvz (.mulZL rfl rfl (by decide) (by omega)) ?_;refine vAz<|nNz<|zI<|sRz<|vMz<|vFz<|ldz rfl .head sc_rd1<|lvz (.lenR rfl inferInstance rfl) ?_;refine lvz (.subI rfl rfl (by omega) (by omega)) ?_;apply LW.v0;rfl;rfl;apply ValP.maxD;rfl;rfl;refine vMz<|nNz<|zM ?_)
 rename_i b3 b6 b9
 obtain ⟨D,hD⟩:∃ D,D=((0+n) % 18446744073709551616+32 - 1) / 32 * 32 - ms.length:=⟨_,rfl⟩
 have hDu:D=upW n - ms.length:=by unfold upW;omega
 rw [← hD]
 refine CW.loop (fun x:Nat × Option Addr × Nat × Fs=>([(9,.pointer (some ⟨b9,0,none⟩)),(6,.pointer (some ⟨b6,0,none⟩)),(48,.int .i64 (D:Int)),(49,.int .i64 (x.1:Int))],(b9,.cells #[.slice q1 ws.length k1,.slice x.2.1 (ms.length+x.1) x.2.2.1] 25 (0,0))::(x.2.2.2++(g1++[(b6,.cells #[.slice none 0 0,.slice none 0 0] 25 (0,0))]))))
  (fun x=>x.1≤D∧IsRow 5 1 (.slice x.2.1 (ms.length+x.1) x.2.2.1) (ms.length+x.1) (ucs (ms++List.replicate x.1 0)) x.2.2.2) (fun x=>D - x.1) (0,q2,k2,g2) ⟨Nat.zero_le _,by simpa using h2'⟩ ⟨rfl,rfl,rfl,rfl,trivial⟩ (by simp) ?_
 rintro ⟨k,q,kc,seg⟩ ⟨hk,hrow⟩
 dsimp only at hk hrow ⊢
 rcases Nat.lt_or_ge k D with hlt|hge
 ·(refine sRz ?_;refine lvz (.lssT rfl rfl (by omega)) ?_;refine nNz<|zI<|cTz<|zJ<|thenN<|zI<|zM<|zL<|vFz<|ldz rfl .head sc_rd1 ?_;apply LW.lay1;rfl;infer_instance;infer_instance;rfl;rfl;rfl;rfl;rfl;rfl;intro _)
  (apply LW.append;rfl;rfl;infer_instance;infer_instance;infer_instance;rfl;rfl;rfl;(case hrow=>assumption);apply AtSeg.cons;apply AtSeg.cons;exact AtSeg.head;apply qE;apply zY;rfl;rfl;rfl;omega;simp only [maxLen];omega;omega;intro v' seg' hrow';obtain ⟨p',c',rfl⟩:=hrow'.form;(refine ⟨_,(by (repeat (first|exact AtSeg.head|apply AtSeg.cons|apply AtSeg.app))),?_⟩);(try simp only [List.cons_append,List.nil_append]))
  (refine vFz ?_;refine zR rfl rfl (.tail .head) sc_wr1 ?_;apply zV;refine blkN<|thenN<|zL ?_;refine lvz (.addZL rfl rfl (by decide) (by omega)) ?_;refine vMz ?_;apply zV)
  apply thenX
  refine ⟨rfl,(k+1,p',c',seg'),⟨hlt,?_⟩,by show D - (k+1) < D - k;omega,⟨rfl,rfl,rfl,rfl,trivial⟩,qQ _ (qM _)⟩
  have e:ucs (ms++List.replicate (k+1) 0)=ucs (ms++List.replicate k 0)++[.int .u8 0]:=by
   rw [List.replicate_succ',← List.append_assoc]
   simp [ucs]
  dsimp only
  rw [e]
  exact hrow'
 ·(refine sRz ?_;refine lvz (.lssF rfl rfl (by omega)) ?_;refine nNz<|zI<|cFz<|CW.exit<|thenE<|thenE<|blkE rfl<|thenN<|sRz<|ldz rfl .head (qF rfl) ?_;refine zR rfl rfl (.tail (.app (.app .head))) (.whole rfl rfl rfl)<|vAz<|nNz<|zK ?_)
  obtain rfl:k=D:=by omega
  rw [← hDu]
  refine fin (vs:=[.agg #[.slice q1 ws.length k1,.slice q (ms.length+k) kc],.int .i64 0]) (seg++g1) (.inl rfl) rfl rfl (by (apply zD;apply zH;rfl;apply qE;apply zX;apply zZ;apply zZ;apply zY;exact qF rfl;apply zD;exact zG rfl;exact zF)) ?_ ⟨_,rfl,_,_,g1,seg,rfl,rfl,h1,?_⟩
  ·exact qQ _ (List.Sublist.append_left (qP _ _) _)
  ·unfold bM
   rw [List.length_append,List.length_replicate]
   exact hrow
section
theorem st_sub {w0 w:World} {S:List Nat} {fs gs:Fs} (h:St w0 S fs w) (hg:List.Sublist gs fs):St w0 S gs w:=⟨h.bel,fun p hp=>h.own p (hg.subset hp),h.nd.sublist hg⟩
attribute [local irreducible] SL.inP
theorem reach_gas (w0:World) (S:List Nat) (b:Nat) (m:MaV) (a n k:Nat) (p2:Option Addr) (c2:Nat) (ha:a < M256) (hn:n < M256) (hE:endV a n < 18446744073709551616) (hk:k≤1024) (hg:m.fr.gas < 18446744073709551616) (hm:m.fr.mem=.slice p2 k c2) (rest:Fs) (w:World) (hs:St w0 S ((b,maO m)::rest) w)
  (hcost:m.fr.gas < memV k (endV a n)) :
  Calls Tryz.prog 146 #[.pointer (some ⟨b,0,none⟩),wv a,wv n] w (fun x w'=>∃ fs',(x=.panicked failC∧∃ ex,fs'=(b,maO m)::(ex++rest))∧St w0 S fs' w'):=by
 have hmem:∀ {E fr},Rd Tryz.prog 22 (.cells (mca m) E fr) 3 (.slice p2 k c2):=fun {E fr}=>by rw [← hm];exact ma_rd3
 refine calls_inlineP (K:=fun x fs'=>x=.panicked failC∧∃ ex,fs'=(b,maO m)::(ex++rest)) (args:=[_,_,_]) Tryz.func146 rfl Tryz.ntmps146 rfl ?_ hs
 (refine sRz ?_;apply zT;rfl;rfl;intro _;apply zT;rfl;rfl;intro _;refine vAz<|vAz<|nSz<|ldz rfl (.tail .head) (qF rfl)<|ldz rfl .head (qF rfl) ?_;apply zS;rfl;rfl;infer_instance;exact .cons rfl (.cons rfl .nil);intro w _;exact End_calls a n ha hn w;refine vAz<|nSz<|vMz<|vMz<|vNz<|vFz<|vFz<|vFz<|ldz rfl (.tail (.tail .head)) hmem<|lvz (.lenR rfl inferInstance rfl) ?_;refine lvz (.convN rfl (by omega) (by omega)) ?_;refine vMz ?_;apply zS;rfl;rfl;infer_instance;exact .cons rfl (.cons rfl .nil);intro w _;exact Memory_calls _ _ (by omega) hE w;apply LW.lay1;rfl;infer_instance;infer_instance;rfl;rfl;rfl;rfl;rfl;rfl;intro _)
 rename_i b4 b5 b29
 obtain ⟨c,hc⟩:∃ c,c=memV k (endV a n):=⟨_,rfl⟩
 rw [← hc] at hcost ⊢
 have hsp:spendM m [c]=none:=by unfold spendM;rw [if_neg (by simp;omega)]
 refine LW.perm (fs':=(b,maO m)::(b29,.cells #[.int .u64 (c:Int)] 26 (0,0))::(b5,.cells (wc n) 29 (0,0))::(b4,.cells (wc a) 29 (0,0))::rest) (by exact (List.perm_middle (l₁:=[_,_,_])).symm) ?_
 refine LW.callP (K:=MaK b m (spendM m [c]) _) rfl rfl inferInstance (by (exact .cons rfl (.cons rfl .nil))) rfl (fun fs h=>?_) (fun w' hst=>spend_calls w0 S b m [c] hg _ _ w' hst (fun w2 h2=>row_cells (h2.own (b29,_) (List.Mem.tail _ (List.Mem.head _))).2 rfl rfl (by simp [maxLen]))) ?_ ?_
 ·rw [hsp] at h;cases h.1
 ·rintro v fs' h
  rw [hsp] at h;cases h.1
 ·rintro ch fs' h
  rw [hsp] at h
  obtain ⟨h,rfl⟩:=h
  cases h
  refine thenP ?_
  exact inPP .nil ⟨rfl,[_,_,_],rfl⟩
theorem reach_none (w0:World) (S:List Nat) (b:Nat) (m:MaV) (a n k:Nat) (hn0:n=0) (p2:Option Addr) (c2:Nat) (ha:a < M256) (hk:k≤1024) (hg:m.fr.gas < 18446744073709551616) (hm:m.fr.mem=.slice p2 k c2) (rest:Fs) (w:World) (hs:St w0 S ((b,maO m)::rest) w) :
  Calls Tryz.prog 146 #[.pointer (some ⟨b,0,none⟩),wv a,wv n] w (fun x w'=>∃ fs',(x=.returned (.tuple #[.int .u64 0,.int .u64 0])∧∃ ex,fs'=(b,maO m)::(ex++rest))∧St w0 S fs' w'):=by
 have hmem:∀ {E fr},Rd Tryz.prog 22 (.cells (mca m) E fr) 3 (.slice p2 k c2):=fun {E fr}=>by rw [← hm];exact ma_rd3
 have hE:endV a n < 18446744073709551616:=by simp [endV,hn0]
 have hn:n < M256:=by rw [hn0];decide
 have he:endV a n=0:=by simp [endV,hn0]
 refine calls_inlineP (K:=fun x fs'=>x=.returned (.tuple #[.int .u64 0,.int .u64 0])∧∃ ex,fs'=(b,maO m)::(ex++rest)) (args:=[_,_,_]) Tryz.func146 rfl Tryz.ntmps146 rfl ?_ hs
 (refine sRz ?_;apply zT;rfl;rfl;intro _;apply zT;rfl;rfl;intro _;refine vAz<|vAz<|nSz<|ldz rfl (.tail .head) (qF rfl)<|ldz rfl .head (qF rfl) ?_;apply zS;rfl;rfl;infer_instance;exact .cons rfl (.cons rfl .nil);intro w _;exact End_calls a n ha hn w;refine vAz<|nSz<|vMz<|vMz<|vNz<|vFz<|vFz<|vFz<|ldz rfl (.tail (.tail .head)) hmem<|lvz (.lenR rfl inferInstance rfl) ?_;refine lvz (.convN rfl (by omega) (by omega)) ?_;refine vMz ?_;apply zS;rfl;rfl;infer_instance;exact .cons rfl (.cons rfl .nil);intro w _;exact Memory_calls _ _ (by omega) hE w;apply LW.lay1;rfl;infer_instance;infer_instance;rfl;rfl;rfl;rfl;rfl;rfl;intro _)
 rename_i b4 b5 b29
 have hc:memV k (endV a n)=0:=by rw [he];simp [memV]
 rw [hc,he]
 have hsp:spendM m [0]=some m:=by unfold spendM;rw [if_pos (by simp)];rfl
 refine LW.perm (fs':=(b,maO m)::(b29,.cells #[.int .u64 ((0:Nat):Int)] 26 (0,0))::(b5,.cells (wc n) 29 (0,0))::(b4,.cells (wc a) 29 (0,0))::rest) (by exact (List.perm_middle (l₁:=[_,_,_])).symm) ?_
 refine LW.callP (K:=MaK b m (spendM m [0]) _) rfl rfl inferInstance (by (exact .cons rfl (.cons rfl .nil))) rfl (fun fs h=>?_) (fun w' hst=>spend_calls w0 S b m [0] hg _ _ w' hst (fun w2 h2=>row_cells (h2.own (b29,_) (List.Mem.tail _ (List.Mem.head _))).2 rfl rfl (by simp [maxLen]))) ?_ ?_
 ·rw [hsp] at h;cases h.1
 ·rintro v fs' h
  rw [hsp] at h
  obtain ⟨h,rfl⟩:=h
  (refine nNz<|zI<|sRz<|vMz ?_;refine lvz (.eqT rfl rfl (by omega)) ?_;refine nNz<|cTz<|sRz<|vAz<|vAz<|nNz<|zK<|thenR ?_)
  exact inPI (.inl rfl) .nil rfl (by (apply zD;exact zG rfl;apply zD;exact zG rfl;exact zF)) rfl ⟨rfl,[_,_,_],rfl⟩
 ·rintro ch fs' h
  rw [hsp] at h;cases h.1
end
end Go.Proofs.YtpgdnfgjbhdbpaaGreatDoor
namespace Go.Proofs.YtpgdnfgjbhdbpaaGreatDoor.CK
open Go Go.RowKit SL
set_option maxRecDepth 8000
set_option maxHeartbeats 4000000
set_option linter.unusedSimpArgs false
set_option linter.unusedVariables false
attribute [local irreducible] SL.CW SL.LW SL.DW Calls SL.Ret SL.RetG SL.beginQ SL.roundQ SL.rangeQ SL.RW SL.AnyW SL.thenQ SL.thenC SL.thenW SL.blkQ SL.finQ SL.ValP SL.NewP SL.SetP SL.CallP SL.Rd SL.Wr SL.Known


theorem ucs_app (a b:List UInt8):ucs (a++b)=ucs a++ucs b:=by simp [ucs]

section
attribute [local irreducible] opOf
def szOf (b:Nat):Nat:=match opOf b with
 |some x=>x.dt
 |none=>0
attribute [local irreducible] szOf
theorem CheckC_calls (v:Value) (n:Nat) (xs:List Value) (w:World) (hv:RowAt w 1 v n xs):Calls Tryz.prog 48 #[v] w (Ret w (.int .i64 (if n≤200 then 0 else 3))):=by
 obtain ⟨p,c,rfl,hc,hm⟩:=hv.form
 refine enter (args:=[_]) _ [] [] Tryz.func48 rfl Tryz.ntmps48 rfl (by simp) .nil ?_
 rcases Nat.lt_or_ge 200 n with h|h
 ·rw [if_neg (by omega)]
  (refine sRz<|vAz<|nNz<|zI<|sRz<|vMz<|lvz (.lenR rfl inferInstance rfl) ?_;refine lvz (.gtrT rfl rfl (by omega)) ?_;refine nNz<|cTz<|sRz<|vAz<|nNz<|zK<|thenR ?_)
  (apply finR;exact .inl rfl;rfl;rfl;rfl;apply zD;exact zG rfl;exact zF)
  rfl
 ·rw [if_pos h]
  (refine sRz<|vAz<|nNz<|zI<|sRz<|vMz<|lvz (.lenR rfl inferInstance rfl) ?_;refine lvz (.gtrF rfl rfl (by omega)) ?_;refine nNz<|cFz<|zJ<|thenN<|sRz<|vAz<|nNz<|zK ?_)
  (apply finR;exact .inl rfl;rfl;rfl;rfl;apply zD;exact zG rfl;exact zF)
  rfl
end
section
theorem row_dt {b:Nat} {x:OpV} (h:rowOp b=some x):x.dt≤32:=by
 unfold rowOp at h
 split at h
 ·cases h;dsimp only;omega
 ·split at h
  ·cases h;exact Nat.zero_le _
  ·split at h
   ·cases h;exact Nat.zero_le _
   ·cases h
theorem plain_dt:∀ x∈plainOps,x.dt=0:=by decide
theorem opOf_dt {b:Nat} {x:OpV} (h:opOf b=some x):x.dt≤32:=by
 unfold opOf at h
 cases hr:rowOp b with
 |some y=>rw [hr] at h;cases h;exact row_dt hr
 |none=>rw [hr] at h;rw [plain_dt x (List.mem_of_find?_eq_some h)];exact Nat.zero_le _
theorem szOf_le (b:Nat):szOf b≤32:=by
 unfold szOf
 cases h:opOf b with
 |none=>exact Nat.zero_le _
 |some x=>exact opOf_dt h
attribute [local irreducible] opOf
def segsAt (p:Nat) (bs:List UInt8):List (Nat × UInt8 × List UInt8):=match bs with
 |[]=>[]
 |b::r=>(p,b,r.take (szOf b.toNat))::segsAt (p+1+szOf b.toNat) (r.drop (szOf b.toNat))
termination_by bs.length
decreasing_by simp [List.length_drop];omega
theorem segsAt_nil (p:Nat):segsAt p []=[]:=by rw [segsAt]
theorem segsAt_cons (p:Nat) (b:UInt8) (r:List UInt8):segsAt p (b::r)=(p,b,r.take (szOf b.toNat))::segsAt (p+1+szOf b.toNat) (r.drop (szOf b.toNat)):=by rw [segsAt]
theorem segs_step (bs:List UInt8) (p:Nat) (h:p < bs.length):segsAt p (bs.drop p)=(p,bs.getD p 0,(bs.drop (p+1)).take (szOf (bs.getD p 0).toNat))::segsAt (p+szOf (bs.getD p 0).toNat+1) (bs.drop (p+szOf (bs.getD p 0).toNat+1)):=by
 rw [List.drop_eq_getElem_cons h,segsAt_cons,List.drop_drop,show bs[p]=bs.getD p 0 by simp [h],Nat.add_right_comm p 1]
theorem segs_end (bs:List UInt8) (p q:Nat) (h:bs.length≤p):segsAt q (bs.drop p)=[]:=by rw [List.drop_eq_nil_of_le h,segsAt_nil]
end
section
attribute [local irreducible] opOf
def readB (bs:List UInt8) (i:Int):Bool:=(segsAt 0 bs).any fun s=>decide ((s.1:Int)=i)
def readFrom (bs:List UInt8) (p:Nat) (i:Int):Bool:=(segsAt p (bs.drop p)).any fun s=>decide ((s.1:Int)=i)
theorem segsAt_ge (n:Nat):∀ (bs:List UInt8) (p:Nat),bs.length≤n→∀ s∈segsAt p bs,p≤s.1:=by
 induction n with
 |zero =>
  intro bs p h s hs
  rw [List.eq_nil_of_length_eq_zero (show bs.length=0 by omega),segsAt_nil] at hs
  cases hs
 |succ n ih =>
  intro bs p h s hs
  cases bs with
  |nil=>rw [segsAt_nil] at hs;cases hs
  |cons b r =>
   rw [segsAt_cons] at hs
   rcases List.mem_cons.1 hs with rfl|hs
   ·exact Nat.le_refl _
   ·have:=ih (r.drop (szOf b.toNat)) (p+1+szOf b.toNat) (by simp at h ⊢;omega) s hs
    omega
theorem readFrom_gt {bs:List UInt8} {p:Nat} {i:Int} (h:i < (p:Int)):readFrom bs p i=false:=by
 unfold readFrom
 refine List.any_eq_false.2 fun s hs=>?_
 have:=segsAt_ge _ _ p (Nat.le_refl _) s hs
 simp;omega
theorem readFrom_end {bs:List UInt8} {p:Nat} {i:Int} (h:bs.length≤p):readFrom bs p i=false:=by
 unfold readFrom;rw [segs_end bs p p h];rfl
theorem readFrom_hit {bs:List UInt8} {p:Nat} (h:p < bs.length):readFrom bs p (p:Int)=true:=by
 unfold readFrom;rw [segs_step bs p h,List.any_cons];simp
theorem readFrom_step {bs:List UInt8} {p:Nat} {i:Int} (h:p < bs.length) (hi:(p:Int) < i):readFrom bs (p+1+szOf (bs.getD p 0).toNat) i=readFrom bs p i:=by
 unfold readFrom
 rw [segs_step bs p h,List.any_cons,decide_eq_false (by dsimp only;omega),Bool.false_or,Nat.add_right_comm p 1]
end
end Go.Proofs.YtpgdnfgjbhdbpaaGreatDoor.CK
namespace Go.Proofs.YtpgdnfgjbhdbpaaGreatDoor
open Go Go.RowKit SL
set_option maxRecDepth 8000
set_option maxHeartbeats 4000000
set_option linter.unusedSimpArgs false
set_option linter.unusedVariables false
attribute [local irreducible] SL.CW SL.LW SL.DW Calls SL.Ret SL.RetG SL.beginQ SL.roundQ SL.rangeQ SL.RW SL.AnyW SL.thenQ SL.thenC SL.thenW SL.blkQ SL.finQ SL.ValP SL.NewP SL.SetP SL.CallP SL.Rd SL.Wr SL.Known
section
open CK (readB readFrom readFrom_step readFrom_hit readFrom_gt readFrom_end szOf szOf_le CheckC_calls)
attribute [local irreducible] opOf szOf
def opX (b:Nat):OpV:=(opOf b).getD zeroOp
theorem opX_dt (b:Nat):(opX b).dt=szOf b:=by
 unfold opX szOf
 cases opOf b<;>rfl
theorem OfX_calls (b:Nat) (hb:b < 256) (w:World):∃ e:Int,(∀ w,Calls Tryz.prog 102 #[.int .u8 (b:Int)] w (Ret w (.tuple #[.agg (opc (opX b)),.int .i64 e])))∧e=(if (opOf b).isSome then 0 else 4):=by
 cases ho:opOf b with
 |none=>exact ⟨4,fun w=>by have h:=Of_op_calls b hb w;rw [ho] at h;unfold opX;rw [ho];exact h,rfl⟩
 |some x=>exact ⟨0,fun w=>by have h:=Of_op_calls b hb w;rw [ho] at h;unfold opX;rw [ho];exact h,rfl⟩
attribute [local irreducible] opX
theorem fread_calls (bs:List UInt8) (hb:bs.length≤1000) (i:Int) (v:Value) (w:World) (hv:RowAt w 1 v bs.length (ucs bs)):Calls Tryz.prog 67 #[v,.int .i64 i] w (Ret w (.bool (readB bs i))):=by
 obtain ⟨p0,c0,rfl,hc0,hm0⟩:=hv.form
 have h0:readFrom bs 0 i=readB bs i:=by unfold readFrom readB;rw [List.drop_zero]
 refine enter (args:=[_,_]) _ [] [] Tryz.func67 rfl Tryz.ntmps67 rfl (by simp) .nil ?_
 (refine sRz<|vAz<|nSz<|vAz<|nNz<|zI<|zM ?_)
 refine CW.loop (fun k:Nat=>([(0,.slice p0 bs.length c0),(1,.int .i64 i),(4,.bool false),(5,.int .i64 (k:Int))],[]))
  (fun k=>k≤2000∧readFrom bs k i=readB bs i) (fun k=>bs.length - k) 0 ⟨Nat.zero_le _,h0⟩ ⟨rfl,rfl,rfl,rfl,trivial⟩ (qM _) ?_
 rintro k ⟨hk,hr⟩
 dsimp only
 rcases Nat.lt_or_ge k bs.length with hlt|hge
 ·rcases Int.lt_or_le (k:Int) i with hki|hki
  ·obtain ⟨b,off,c',cs,E,fr,heq,hbk,hx⟩:=hv.pos (by omega)
   cases heq
   have hst:=readFrom_step hlt hki
   obtain ⟨u,hu⟩:∃ u,bs.getD k 0=u:=⟨_,rfl⟩
   rw [hu,hr] at hst
   have hrd:Rd Tryz.prog 5 (.cells cs E fr) (off+k * 1) (.int .u8 (u.toNat:Int)):=Rd.elem1 hx (ucs_one bs) (List.getElem?_eq_getElem hlt) (by rw [← hu];simp [hlt])
   obtain ⟨e,hOf,_⟩:=OfX_calls u.toNat u.toNat_lt w
   have hzl:=szOf_le u.toNat
   rw [← opX_dt] at hst hzl
   rw [Nat.add_assoc] at hst
   (refine zI<|sRz<|vMz<|vMz ?_;refine lvz (.lssT rfl rfl (by omega)) ?_;refine vMz<|gTz<|vMz<|gTz<|vMz<|gTz<|lvz (.lenR rfl inferInstance rfl)<|gTz ?_;refine lvz (.lssT rfl rfl (by omega)) ?_;refine pTz<|nNz<|cTz<|zJ<|thenN<|zM<|sRz<|vMz<|vMz ?_;refine lvz (.indexAddrS rfl rfl rfl (by omega)) ?_;apply LW.load;rfl;rfl;exact Known.ext (by assumption) (by simp);assumption;apply zS;rfl;rfl;infer_instance;exact .cons rfl .nil;intro w _;exact hOf w;refine vMz ?_;refine vEz ?_;refine vEz ?_;apply zU;rfl;intro _;refine zR rfl rfl .head (.whole rfl rfl rfl)<|vAz<|nNz<|zL<|vMz<|vFz<|ldz rfl .head (Rd.one' rfl) ?_;refine lvz (.addZK rfl rfl (by decide) (by omega)) ?_;refine lvz (.addZ rfl rfl (by omega)) ?_;refine vAz ?_;apply zV;refine blkN ?_)
   apply thenX
   exact ⟨rfl,k+(1+(opX u.toNat).dt),⟨by omega,hst⟩,by omega,⟨rfl,rfl,rfl,rfl,trivial⟩,List.nil_sublist _⟩
  ·rcases Int.lt_or_eq_of_le hki with hlt'|heq
   ·rw [← hr,readFrom_gt hlt']
    have hne:¬ (k:Int)=i:=by omega
    (refine zI<|sRz<|vMz<|vMz ?_;refine lvz (.lssF rfl rfl (by omega)) ?_;refine vMz ?_;(iterate 4 refine gFz ?_);refine pFz<|nNz<|cFz<|CW.exit<|thenE<|thenE<|blkE rfl<|thenN<|sRz<|vMz<|vMz ?_;refine lvz (.eqF rfl rfl (by omega)) ?_;refine vMz ?_;(iterate 4 refine gFz ?_);refine pFz<|vAz<|nNz<|zK ?_)
    (apply finR;exact .inl rfl;rfl;rfl;rfl;apply zD;exact zG rfl;exact zF)
    rfl
   ·subst heq
    rw [← hr,readFrom_hit hlt]
    (refine zI<|sRz<|vMz<|vMz ?_;refine lvz (.lssF rfl rfl (by omega)) ?_;refine vMz ?_;(iterate 4 refine gFz ?_);refine pFz<|nNz<|cFz<|CW.exit<|thenE<|thenE<|blkE rfl<|thenN<|sRz<|vMz<|vMz ?_;refine lvz (.eqT rfl rfl (by omega)) ?_;refine vMz<|gTz<|vMz<|gTz<|vMz<|gTz<|lvz (.lenR rfl inferInstance rfl)<|gTz ?_;refine lvz (.lssT rfl rfl (by omega)) ?_;refine pTz<|vAz<|nNz<|zK ?_)
    (apply finR;exact .inl rfl;rfl;rfl;rfl;apply zD;exact zG rfl;exact zF)
    rfl
 ·rw [← hr,readFrom_end hge]
  rcases Int.lt_or_le (k:Int) i with hki|hki
  ·have hne:¬ (k:Int)=i:=by omega
   (refine zI<|sRz<|vMz<|vMz ?_;refine lvz (.lssT rfl rfl (by omega)) ?_;refine vMz<|gTz<|vMz<|gTz<|vMz<|gTz<|lvz (.lenR rfl inferInstance rfl)<|gTz ?_;refine lvz (.lssF rfl rfl (by omega)) ?_;refine pTz<|nNz<|cFz<|CW.exit<|thenE<|thenE<|blkE rfl<|thenN<|sRz<|vMz<|vMz ?_;refine lvz (.eqF rfl rfl (by omega)) ?_;refine vMz ?_;(iterate 4 refine gFz ?_);refine pFz<|vAz<|nNz<|zK ?_)
   (apply finR;exact .inl rfl;rfl;rfl;rfl;apply zD;exact zG rfl;exact zF)
   rfl
  ·by_cases heq:(k:Int)=i
   ·subst heq
    (refine zI<|sRz<|vMz<|vMz ?_;refine lvz (.lssF rfl rfl (by omega)) ?_;refine vMz ?_;(iterate 4 refine gFz ?_);refine pFz<|nNz<|cFz<|CW.exit<|thenE<|thenE<|blkE rfl<|thenN<|sRz<|vMz<|vMz ?_;refine lvz (.eqT rfl rfl (by omega)) ?_;refine vMz<|gTz<|vMz<|gTz<|vMz<|gTz<|lvz (.lenR rfl inferInstance rfl)<|gTz ?_;refine lvz (.lssF rfl rfl (by omega)) ?_;refine pTz<|vAz<|nNz<|zK ?_)
    (apply finR;exact .inl rfl;rfl;rfl;rfl;apply zD;exact zG rfl;exact zF)
    rfl
   ·(refine zI<|sRz<|vMz<|vMz ?_;refine lvz (.lssF rfl rfl (by omega)) ?_;refine vMz ?_;(iterate 4 refine gFz ?_);refine pFz<|nNz<|cFz<|CW.exit<|thenE<|thenE<|blkE rfl<|thenN<|sRz<|vMz<|vMz ?_;refine lvz (.eqF rfl rfl (by omega)) ?_;refine vMz ?_;(iterate 4 refine gFz ?_);refine pFz<|vAz<|nNz<|zK ?_)
    (apply finR;exact .inl rfl;rfl;rfl;rfl;apply zD;exact zG rfl;exact zF)
    rfl
structure FrL where
 cl:List UInt8
 ws:List Nat
 ms:List UInt8
 il:List UInt8
 bl:List UInt8
structure FrRows (w:World) (f:FrV) (L:FrL):Prop where
 c:RowAt w 1 f.code L.cl.length (ucs L.cl)
 s:RowAt w 4 f.stk L.ws.length (wcs L.ws)
 m:RowAt w 1 f.mem L.ms.length (ucs L.ms)
 i:RowAt w 1 f.inp L.il.length (ucs L.il)
 b:RowAt w 1 f.back L.bl.length (ucs L.bl)
theorem FrRows.st {w0 w:World} {f:FrV} {L:FrL} {fs:Fs} (h:FrRows w0 f L) (hs:St w0 [] fs w):FrRows w f L:=⟨h.c.st hs,h.s.st hs,h.m.st hs,h.i.st hs,h.b.st hs⟩
theorem FrRows.bel {w0 w:World} {f:FrV} {L:FrL} (h:FrRows w0 f L) (hb:Bel w0.heap.size [] w0 w):FrRows w f L:=⟨h.c.bel hb,h.s.bel hb,h.m.bel hb,h.i.bel hb,h.b.bel hb⟩
abbrev fra (f:FrV):Array Value:=(frc f).toArray
abbrev frv (f:FrV):Value:=.agg (fra f)
section rd
variable {P : Program} {T E : TypeId} {fr : Nat × Nat} {code stk mem inp back : Value} {pc : Int} {gas self frm val : Nat} {stat : Bool}
theorem fr_rd0 [AgI P T false]:Rd P T (.cells (fra ⟨code,pc,stk,mem,gas,self,frm,val,inp,back,stat⟩) E fr) 0 code:=Rd.one rfl
theorem fr_rd1 [AgI P T false]:Rd P T (.cells (fra ⟨code,pc,stk,mem,gas,self,frm,val,inp,back,stat⟩) E fr) 1 (.int .i64 pc):=Rd.one rfl
theorem fr_rd2 [AgI P T true] {z:Value} [InfoI P T 2 z]:Rd P T (.cells (fra ⟨code,pc,stk,mem,gas,self,frm,val,inp,back,stat⟩) E fr) 2 (.agg #[stk,mem]):=Rd.mid (cs:=[stk,mem]) rfl rfl
theorem fr_rd2s [AgI P T false]:Rd P T (.cells (fra ⟨code,pc,stk,mem,gas,self,frm,val,inp,back,stat⟩) E fr) 2 stk:=Rd.one rfl
theorem fr_rd3 [AgI P T false]:Rd P T (.cells (fra ⟨code,pc,stk,mem,gas,self,frm,val,inp,back,stat⟩) E fr) 3 mem:=Rd.one rfl
theorem fr_rd4 [AgI P T false]:Rd P T (.cells (fra ⟨code,pc,stk,mem,gas,self,frm,val,inp,back,stat⟩) E fr) 4 (.int .u64 (gas:Int)):=Rd.one rfl
theorem fr_rd5 [AgI P T false]:Rd P T (.cells (fra ⟨code,pc,stk,mem,gas,self,frm,val,inp,back,stat⟩) E fr) 5 (.int .u64 (self:Int)):=Rd.one rfl
theorem fr_rd6 [AgI P T false]:Rd P T (.cells (fra ⟨code,pc,stk,mem,gas,self,frm,val,inp,back,stat⟩) E fr) 6 (.int .u64 (frm:Int)):=Rd.one rfl
theorem fr_rd7 [AgI P T true] {z:Value} [InfoI P T 4 z]:Rd P T (.cells (fra ⟨code,pc,stk,mem,gas,self,frm,val,inp,back,stat⟩) E fr) 7 (wv val):=Rd.mid (cs:=(wc val).toList) rfl rfl
theorem fr_rd11 [AgI P T false]:Rd P T (.cells (fra ⟨code,pc,stk,mem,gas,self,frm,val,inp,back,stat⟩) E fr) 11 inp:=Rd.one rfl
theorem fr_rd12 [AgI P T false]:Rd P T (.cells (fra ⟨code,pc,stk,mem,gas,self,frm,val,inp,back,stat⟩) E fr) 12 back:=Rd.one rfl
theorem fr_rd13 [AgI P T false]:Rd P T (.cells (fra ⟨code,pc,stk,mem,gas,self,frm,val,inp,back,stat⟩) E fr) 13 (.bool stat):=Rd.one rfl
theorem fr_rdW {f:FrV} {z:Value} [AgI P T true] [InfoI P T 14 z]:Rd P T (.cells (fra f) E fr) 0 (frv f):=qF rfl
end rd
def okF (f:FrV) (L:FrL):Prop:=(L.il.length≤1024∧L.bl.length≤1024∧f.gas≤20000)∧¬ f.self=0∧L.cl.length≤200∧okSc L.ws.length L.ms.length∧(f.pc=(L.cl.length:Int)∨readB L.cl f.pc=true)
instance (f:FrV) (L:FrL):Decidable (okF f L):=by unfold okF;infer_instance
theorem fCheck_calls (f:FrV) (L:FrL) (w:World) (h:FrRows w f L):Calls Tryz.prog 31 #[frv f] w (Ret w (.int .i64 (if okF f L then 0 else 240))):=by
 obtain ⟨e,he⟩:∃ e:Int,e=if okF f L then 0 else 240:=⟨_,rfl⟩
 have hp:okF f L→e=0:=fun h=>by rw [he,if_pos h]
 have hn:¬ okF f L→e=240:=fun h=>by rw [he,if_neg h]
 rw [← he]
 clear he
 unfold okF at hp hn
 obtain ⟨code,pc,stk,mem,gas,self,frm,val,inp,back,stat⟩:=f
 obtain ⟨h0,h2,h3,h11,h12⟩:=h
 dsimp only at h0 h2 h3 h11 h12 hp hn
 obtain ⟨p0,c0,rfl,_,hm0⟩:=h0.form
 obtain ⟨p2,c2,rfl,_,hm2⟩:=h2.form
 obtain ⟨p3,c3,rfl,_,hm3⟩:=h3.form
 obtain ⟨p11,c11,rfl,_,hm11⟩:=h11.form
 obtain ⟨p12,c12,rfl,_,hm12⟩:=h12.form
 have hS0:=scCheck_calls p2 p3 L.ws.length c2 L.ms.length c3 (by omega) (by omega)
 have hC0:∀ w' {fs},St w [] fs w'→Calls Tryz.prog 48 #[.slice p0 L.cl.length c0] w' (Ret w' (.int .i64 (if L.cl.length≤200 then 0 else 3))):=fun w' fs hst=>CheckC_calls _ _ _ w' (h0.st hst)
 simp only [maxLen] at hm0 hm2 hm3 hm11 hm12
 refine enter (args:=[_]) _ [] [] Tryz.func31 rfl Tryz.ntmps31 rfl (by simp) .nil ?_
 by_cases hc:L.cl.length≤200
 ·have hRd0:∀ w' {fs},St w [] fs w'→Calls Tryz.prog 67 #[.slice p0 L.cl.length c0,.int .i64 pc] w' (Ret w' (.bool (readB L.cl pc))):=fun w' fs hst=>fread_calls _ (by omega) _ _ w' (h0.st hst)
  rw [if_pos hc] at hC0
  have hC:∀ w' {fs},St w [] fs w'→Calls Tryz.prog 48 #[.slice p0 L.cl.length c0] w' (Ret w' (.int .i64 0)):=hC0
  by_cases hs:okSc L.ws.length L.ms.length
  ·rw [if_pos hs] at hS0
   have hS:∀ w',Calls Tryz.prog 66 #[.agg #[.slice p2 L.ws.length c2,.slice p3 L.ms.length c3]] w' (Ret w' (.int .i64 0)):=hS0
   simp only [hs,true_and] at hp hn
   by_cases hpc:pc=(L.cl.length:Int)
   ·simp only [hpc,true_or,and_true] at hp hn
    subst hpc
    (refine sRz ?_;apply zT;rfl;rfl;intro _;refine vAz<|nSz<|vFz<|ldz rfl .head fr_rd11<|lvz (.lenR rfl inferInstance rfl)<|lvz (.gtr rfl rfl)<|vMz ?_)
    (refine LW.guardDF rfl rfl rfl (fun hsq hsp=>?_) (fun hsq hsp=>?_))
    (refine vFz<|gTaz<|ldz rfl .head fr_rd12<|gTaz<|lvz (.lenR rfl inferInstance rfl)<|gTaz<|lvz (.gtr rfl rfl)<|pFaz<|vMz ?_;refine LW.guardDF rfl rfl rfl (fun hsq hsp=>?_) (fun hsq hsp=>?_);refine vFz<|gTaz<|ldz rfl .head fr_rd4<|gTaz<|lvz (.gtr rfl rfl)<|pFaz<|vAz<|nNz<|zI<|sRz<|vMz<|vMz ?_;refine LW.guardDF rfl rfl rfl (fun hsq hsp=>?_) (fun hsq hsp=>?_);refine vFz<|gTaz<|ldz rfl .head fr_rd5<|gTaz<|lvz (.eq rfl rfl)<|pFaz<|vMz ?_;refine LW.guardDF rfl rfl rfl (fun hsq hsp=>?_) (fun hsq hsp=>?_);refine vFz<|gTaz<|ldz rfl .head fr_rd0<|gTaz ?_;apply zS;rfl;rfl;infer_instance;exact .cons rfl .nil;intro w _;exact hC w (by assumption);refine gTaz ?_;refine lvz (.neF rfl rfl (by omega)) ?_;refine pFaz<|vMz<|gTz<|vFz<|gTz<|ldz rfl .head fr_rd2<|gTz ?_;apply zS;rfl;rfl;infer_instance;exact .cons rfl .nil;intro w _;exact hS w;refine gTz ?_;refine lvz (.neF rfl rfl (by omega)) ?_;refine pFz<|nNz<|cFz<|zJ<|thenN<|zI<|sRz<|vFz<|ldz rfl .head fr_rd1<|vFz<|ldz rfl .head fr_rd0<|lvz (.lenR rfl inferInstance rfl) ?_;refine lvz (.neF rfl rfl (by omega)) ?_;refine vMz ?_;(iterate 6 refine gFz ?_);refine pFz<|nNz<|cFz<|zJ<|thenN<|sRz<|vAz<|nNz<|zK ?_;apply finR;exact .inl rfl;rfl;rfl;rfl;apply zD;exact zG rfl;exact zF;rw [hp (by omega)];rfl;(iterate 3 refine gFaz ?_);refine pTaz<|vMz ?_;(iterate 4 refine gFz ?_);refine pTz<|nNz<|cTz<|sRz<|vAz<|nNz<|zK ?_;refine thenR (finR (.inl rfl) rfl rfl rfl (.cons (.tmp rfl) .nil) ?_);rw [hn (by omega)];rfl;refine gFaz<|gFaz<|pTaz<|vMz ?_;(iterate 4 refine gFz ?_);refine pTz<|vMz ?_;(iterate 4 refine gFz ?_);refine pTz<|nNz<|cTz<|sRz<|vAz<|nNz<|zK ?_;refine thenR (finR (.inl rfl) rfl rfl rfl (.cons (.tmp rfl) .nil) ?_);rw [hn (by omega)];rfl;refine gFaz<|gFaz<|pTaz<|vAz<|nNz<|zI<|sRz<|vMz<|vMz ?_;(iterate 3 refine gFz ?_);refine pTz<|vMz ?_;(iterate 4 refine gFz ?_);refine pTz<|vMz ?_;(iterate 4 refine gFz ?_);refine pTz<|nNz<|cTz<|sRz<|vAz<|nNz<|zK ?_;refine thenR (finR (.inl rfl) rfl rfl rfl (.cons (.tmp rfl) .nil) ?_);rw [hn (by omega)];rfl;(iterate 3 refine gFaz ?_);refine pTaz<|vMz ?_;(iterate 3 refine gFz ?_);refine pTz<|vAz<|nNz<|zI<|sRz<|vMz<|vMz ?_;(iterate 3 refine gFz ?_);refine pTz<|vMz ?_;(iterate 4 refine gFz ?_);refine pTz<|vMz ?_;(iterate 4 refine gFz ?_);refine pTz<|nNz<|cTz<|sRz<|vAz<|nNz<|zK ?_;refine thenR (finR (.inl rfl) rfl rfl rfl (.cons (.tmp rfl) .nil) ?_);rw [hn (by omega)];rfl)
   ·cases hr:readB L.cl pc with
    |true =>
     rw [hr] at hRd0 hp hn
     have hRd:∀ w' {fs},St w [] fs w'→Calls Tryz.prog 67 #[.slice p0 L.cl.length c0,.int .i64 pc] w' (Ret w' (.bool true)):=hRd0
     simp only [or_true,and_true] at hp hn
     (refine sRz ?_;apply zT;rfl;rfl;intro _;refine vAz<|nSz<|vFz<|ldz rfl .head fr_rd11<|lvz (.lenR rfl inferInstance rfl)<|lvz (.gtr rfl rfl)<|vMz ?_)
     (refine LW.guardDF rfl rfl rfl (fun hsq hsp=>?_) (fun hsq hsp=>?_))
     (refine vFz<|gTaz<|ldz rfl .head fr_rd12<|gTaz<|lvz (.lenR rfl inferInstance rfl)<|gTaz<|lvz (.gtr rfl rfl)<|pFaz<|vMz ?_;refine LW.guardDF rfl rfl rfl (fun hsq hsp=>?_) (fun hsq hsp=>?_);refine vFz<|gTaz<|ldz rfl .head fr_rd4<|gTaz<|lvz (.gtr rfl rfl)<|pFaz<|vAz<|nNz<|zI<|sRz<|vMz<|vMz ?_;refine LW.guardDF rfl rfl rfl (fun hsq hsp=>?_) (fun hsq hsp=>?_);refine vFz<|gTaz<|ldz rfl .head fr_rd5<|gTaz<|lvz (.eq rfl rfl)<|pFaz<|vMz ?_;refine LW.guardDF rfl rfl rfl (fun hsq hsp=>?_) (fun hsq hsp=>?_);refine vFz<|gTaz<|ldz rfl .head fr_rd0<|gTaz ?_;apply zS;rfl;rfl;infer_instance;exact .cons rfl .nil;intro w _;exact hC w (by assumption);refine gTaz ?_;refine lvz (.neF rfl rfl (by omega)) ?_;refine pFaz<|vMz<|gTz<|vFz<|gTz<|ldz rfl .head fr_rd2<|gTz ?_;apply zS;rfl;rfl;infer_instance;exact .cons rfl .nil;intro w _;exact hS w;refine gTz ?_;refine lvz (.neF rfl rfl (by omega)) ?_;refine pFz<|nNz<|cFz<|zJ<|thenN<|zI<|sRz<|vFz<|ldz rfl .head fr_rd1<|vFz<|ldz rfl .head fr_rd0<|lvz (.lenR rfl inferInstance rfl) ?_;refine lvz (.neT rfl rfl (by omega)) ?_;refine vMz<|gTz<|vFz<|gTz<|ldz rfl .head fr_rd0<|gTz<|vFz<|gTz<|ldz rfl .head fr_rd1<|gTz ?_;apply zS;rfl;rfl;infer_instance;exact .cons rfl (.cons rfl .nil);intro w _;exact hRd w (by assumption);refine gTz ?_;refine lvz (.notT rfl (by with_reducible rfl)) ?_;refine pTz<|nNz<|cFz<|zJ<|thenN<|sRz<|vAz<|nNz<|zK ?_;apply finR;exact .inl rfl;rfl;rfl;rfl;apply zD;exact zG rfl;exact zF;rw [hp (by omega)];rfl;(iterate 3 refine gFaz ?_);refine pTaz<|vMz ?_;(iterate 4 refine gFz ?_);refine pTz<|nNz<|cTz<|sRz<|vAz<|nNz<|zK ?_;refine thenR (finR (.inl rfl) rfl rfl rfl (.cons (.tmp rfl) .nil) ?_);rw [hn (by omega)];rfl;refine gFaz<|gFaz<|pTaz<|vMz ?_;(iterate 4 refine gFz ?_);refine pTz<|vMz ?_;(iterate 4 refine gFz ?_);refine pTz<|nNz<|cTz<|sRz<|vAz<|nNz<|zK ?_;refine thenR (finR (.inl rfl) rfl rfl rfl (.cons (.tmp rfl) .nil) ?_);rw [hn (by omega)];rfl;refine gFaz<|gFaz<|pTaz<|vAz<|nNz<|zI<|sRz<|vMz<|vMz ?_;(iterate 3 refine gFz ?_);refine pTz<|vMz ?_;(iterate 4 refine gFz ?_);refine pTz<|vMz ?_;(iterate 4 refine gFz ?_);refine pTz<|nNz<|cTz<|sRz<|vAz<|nNz<|zK ?_;refine thenR (finR (.inl rfl) rfl rfl rfl (.cons (.tmp rfl) .nil) ?_);rw [hn (by omega)];rfl;(iterate 3 refine gFaz ?_);refine pTaz<|vMz ?_;(iterate 3 refine gFz ?_);refine pTz<|vAz<|nNz<|zI<|sRz<|vMz<|vMz ?_;(iterate 3 refine gFz ?_);refine pTz<|vMz ?_;(iterate 4 refine gFz ?_);refine pTz<|vMz ?_;(iterate 4 refine gFz ?_);refine pTz<|nNz<|cTz<|sRz<|vAz<|nNz<|zK ?_;refine thenR (finR (.inl rfl) rfl rfl rfl (.cons (.tmp rfl) .nil) ?_);rw [hn (by omega)];rfl)
    |false =>
     rw [hr] at hRd0 hp hn
     have hRd:∀ w' {fs},St w [] fs w'→Calls Tryz.prog 67 #[.slice p0 L.cl.length c0,.int .i64 pc] w' (Ret w' (.bool false)):=hRd0
     simp only [Bool.false_eq_true,or_false] at hp hn
     (refine sRz ?_;apply zT;rfl;rfl;intro _;refine vAz<|nSz<|vFz<|ldz rfl .head fr_rd11<|lvz (.lenR rfl inferInstance rfl)<|lvz (.gtr rfl rfl)<|vMz ?_)
     (refine LW.guardDF rfl rfl rfl (fun hsq hsp=>?_) (fun hsq hsp=>?_))
     (refine vFz<|gTaz<|ldz rfl .head fr_rd12<|gTaz<|lvz (.lenR rfl inferInstance rfl)<|gTaz<|lvz (.gtr rfl rfl)<|pFaz<|vMz ?_;refine LW.guardDF rfl rfl rfl (fun hsq hsp=>?_) (fun hsq hsp=>?_);refine vFz<|gTaz<|ldz rfl .head fr_rd4<|gTaz<|lvz (.gtr rfl rfl)<|pFaz<|vAz<|nNz<|zI<|sRz<|vMz<|vMz ?_;refine LW.guardDF rfl rfl rfl (fun hsq hsp=>?_) (fun hsq hsp=>?_);refine vFz<|gTaz<|ldz rfl .head fr_rd5<|gTaz<|lvz (.eq rfl rfl)<|pFaz<|vMz ?_;refine LW.guardDF rfl rfl rfl (fun hsq hsp=>?_) (fun hsq hsp=>?_);refine vFz<|gTaz<|ldz rfl .head fr_rd0<|gTaz ?_;apply zS;rfl;rfl;infer_instance;exact .cons rfl .nil;intro w _;exact hC w (by assumption);refine gTaz ?_;refine lvz (.neF rfl rfl (by omega)) ?_;refine pFaz<|vMz<|gTz<|vFz<|gTz<|ldz rfl .head fr_rd2<|gTz ?_;apply zS;rfl;rfl;infer_instance;exact .cons rfl .nil;intro w _;exact hS w;refine gTz ?_;refine lvz (.neF rfl rfl (by omega)) ?_;refine pFz<|nNz<|cFz<|zJ<|thenN<|zI<|sRz<|vFz<|ldz rfl .head fr_rd1<|vFz<|ldz rfl .head fr_rd0<|lvz (.lenR rfl inferInstance rfl) ?_;refine lvz (.neT rfl rfl (by omega)) ?_;refine vMz<|gTz<|vFz<|gTz<|ldz rfl .head fr_rd0<|gTz<|vFz<|gTz<|ldz rfl .head fr_rd1<|gTz ?_;apply zS;rfl;rfl;infer_instance;exact .cons rfl (.cons rfl .nil);intro w _;exact hRd w (by assumption);refine gTz ?_;refine lvz (.notF rfl (by with_reducible rfl)) ?_;refine pTz<|nNz<|cTz<|sRz<|vAz<|nNz<|zK ?_;refine thenR (finR (.inl rfl) rfl rfl rfl (.cons (.tmp rfl) .nil) ?_);rw [hn (by omega)];rfl;(iterate 3 refine gFaz ?_);refine pTaz<|vMz ?_;(iterate 4 refine gFz ?_);refine pTz<|nNz<|cTz<|sRz<|vAz<|nNz<|zK ?_;refine thenR (finR (.inl rfl) rfl rfl rfl (.cons (.tmp rfl) .nil) ?_);rw [hn (by omega)];rfl;refine gFaz<|gFaz<|pTaz<|vMz ?_;(iterate 4 refine gFz ?_);refine pTz<|vMz ?_;(iterate 4 refine gFz ?_);refine pTz<|nNz<|cTz<|sRz<|vAz<|nNz<|zK ?_;refine thenR (finR (.inl rfl) rfl rfl rfl (.cons (.tmp rfl) .nil) ?_);rw [hn (by omega)];rfl;refine gFaz<|gFaz<|pTaz<|vAz<|nNz<|zI<|sRz<|vMz<|vMz ?_;(iterate 3 refine gFz ?_);refine pTz<|vMz ?_;(iterate 4 refine gFz ?_);refine pTz<|vMz ?_;(iterate 4 refine gFz ?_);refine pTz<|nNz<|cTz<|sRz<|vAz<|nNz<|zK ?_;refine thenR (finR (.inl rfl) rfl rfl rfl (.cons (.tmp rfl) .nil) ?_);rw [hn (by omega)];rfl;(iterate 3 refine gFaz ?_);refine pTaz<|vMz ?_;(iterate 3 refine gFz ?_);refine pTz<|vAz<|nNz<|zI<|sRz<|vMz<|vMz ?_;(iterate 3 refine gFz ?_);refine pTz<|vMz ?_;(iterate 4 refine gFz ?_);refine pTz<|vMz ?_;(iterate 4 refine gFz ?_);refine pTz<|nNz<|cTz<|sRz<|vAz<|nNz<|zK ?_;refine thenR (finR (.inl rfl) rfl rfl rfl (.cons (.tmp rfl) .nil) ?_);rw [hn (by omega)];rfl)
  ·rw [if_neg hs] at hS0
   have hS:∀ w',Calls Tryz.prog 66 #[.agg #[.slice p2 L.ws.length c2,.slice p3 L.ms.length c3]] w' (Ret w' (.int .i64 230)):=hS0
   rw [hn (fun h=>hs h.2.2.2.1)] at *
   clear hp hn
   (refine sRz ?_;apply zT;rfl;rfl;intro _;refine vAz<|nSz<|vFz<|ldz rfl .head fr_rd11<|lvz (.lenR rfl inferInstance rfl)<|lvz (.gtr rfl rfl)<|vMz ?_)
   (refine LW.guardDF rfl rfl rfl (fun hsq hsp=>?_) (fun hsq hsp=>?_))
   (refine vFz<|gTaz<|ldz rfl .head fr_rd12<|gTaz<|lvz (.lenR rfl inferInstance rfl)<|gTaz<|lvz (.gtr rfl rfl)<|pFaz<|vMz ?_;refine LW.guardDF rfl rfl rfl (fun hsq hsp=>?_) (fun hsq hsp=>?_);refine vFz<|gTaz<|ldz rfl .head fr_rd4<|gTaz<|lvz (.gtr rfl rfl)<|pFaz<|vAz<|nNz<|zI<|sRz<|vMz<|vMz ?_;refine LW.guardDF rfl rfl rfl (fun hsq hsp=>?_) (fun hsq hsp=>?_);refine vFz<|gTaz<|ldz rfl .head fr_rd5<|gTaz<|lvz (.eq rfl rfl)<|pFaz<|vMz ?_;refine LW.guardDF rfl rfl rfl (fun hsq hsp=>?_) (fun hsq hsp=>?_);refine vFz<|gTaz<|ldz rfl .head fr_rd0<|gTaz ?_;apply zS;rfl;rfl;infer_instance;exact .cons rfl .nil;intro w _;exact hC w (by assumption);refine gTaz ?_;refine lvz (.neF rfl rfl (by omega)) ?_;refine pFaz<|vMz<|gTz<|vFz<|gTz<|ldz rfl .head fr_rd2<|gTz ?_;apply zS;rfl;rfl;infer_instance;exact .cons rfl .nil;intro w _;exact hS w;refine gTz ?_;refine lvz (.neT rfl rfl (by omega)) ?_;refine pFz<|nNz<|cTz<|sRz<|vAz<|nNz<|zK ?_;refine thenR (finR (.inl rfl) rfl rfl rfl (.cons (.tmp rfl) .nil) ?_);rfl;(iterate 3 refine gFaz ?_);refine pTaz<|vMz ?_;(iterate 4 refine gFz ?_);refine pTz<|nNz<|cTz<|sRz<|vAz<|nNz<|zK ?_;refine thenR (finR (.inl rfl) rfl rfl rfl (.cons (.tmp rfl) .nil) ?_);rfl;refine gFaz<|gFaz<|pTaz<|vMz ?_;(iterate 4 refine gFz ?_);refine pTz<|vMz ?_;(iterate 4 refine gFz ?_);refine pTz<|nNz<|cTz<|sRz<|vAz<|nNz<|zK ?_;refine thenR (finR (.inl rfl) rfl rfl rfl (.cons (.tmp rfl) .nil) ?_);rfl;refine gFaz<|gFaz<|pTaz<|vAz<|nNz<|zI<|sRz<|vMz<|vMz ?_;(iterate 3 refine gFz ?_);refine pTz<|vMz ?_;(iterate 4 refine gFz ?_);refine pTz<|vMz ?_;(iterate 4 refine gFz ?_);refine pTz<|nNz<|cTz<|sRz<|vAz<|nNz<|zK ?_;refine thenR (finR (.inl rfl) rfl rfl rfl (.cons (.tmp rfl) .nil) ?_);rfl;(iterate 3 refine gFaz ?_);refine pTaz<|vMz ?_;(iterate 3 refine gFz ?_);refine pTz<|vAz<|nNz<|zI<|sRz<|vMz<|vMz ?_;(iterate 3 refine gFz ?_);refine pTz<|vMz ?_;(iterate 4 refine gFz ?_);refine pTz<|vMz ?_;(iterate 4 refine gFz ?_);refine pTz<|nNz<|cTz<|sRz<|vAz<|nNz<|zK ?_;refine thenR (finR (.inl rfl) rfl rfl rfl (.cons (.tmp rfl) .nil) ?_);rfl)
 ·rw [if_neg hc] at hC0
  have hC:∀ w' {fs},St w [] fs w'→Calls Tryz.prog 48 #[.slice p0 L.cl.length c0] w' (Ret w' (.int .i64 3)):=hC0
  rw [hn (fun h=>hc h.2.2.1)] at *
  clear hp hn
  (refine sRz ?_;apply zT;rfl;rfl;intro _;refine vAz<|nSz<|vFz<|ldz rfl .head fr_rd11<|lvz (.lenR rfl inferInstance rfl)<|lvz (.gtr rfl rfl)<|vMz ?_)
  (refine LW.guardDF rfl rfl rfl (fun hsq hsp=>?_) (fun hsq hsp=>?_))
  (refine vFz<|gTaz<|ldz rfl .head fr_rd12<|gTaz<|lvz (.lenR rfl inferInstance rfl)<|gTaz<|lvz (.gtr rfl rfl)<|pFaz<|vMz ?_;refine LW.guardDF rfl rfl rfl (fun hsq hsp=>?_) (fun hsq hsp=>?_);refine vFz<|gTaz<|ldz rfl .head fr_rd4<|gTaz<|lvz (.gtr rfl rfl)<|pFaz<|vAz<|nNz<|zI<|sRz<|vMz<|vMz ?_;refine LW.guardDF rfl rfl rfl (fun hsq hsp=>?_) (fun hsq hsp=>?_);refine vFz<|gTaz<|ldz rfl .head fr_rd5<|gTaz<|lvz (.eq rfl rfl)<|pFaz<|vMz ?_;refine LW.guardDF rfl rfl rfl (fun hsq hsp=>?_) (fun hsq hsp=>?_);refine vFz<|gTaz<|ldz rfl .head fr_rd0<|gTaz ?_;apply zS;rfl;rfl;infer_instance;exact .cons rfl .nil;intro w _;exact hC w (by assumption);refine gTaz ?_;refine lvz (.neT rfl rfl (by omega)) ?_;refine pFaz<|vMz ?_;(iterate 4 refine gFz ?_);refine pTz<|nNz<|cTz<|sRz<|vAz<|nNz<|zK ?_;refine thenR (finR (.inl rfl) rfl rfl rfl (.cons (.tmp rfl) .nil) ?_);rfl;(iterate 3 refine gFaz ?_);refine pTaz<|vMz ?_;(iterate 4 refine gFz ?_);refine pTz<|nNz<|cTz<|sRz<|vAz<|nNz<|zK ?_;refine thenR (finR (.inl rfl) rfl rfl rfl (.cons (.tmp rfl) .nil) ?_);rfl;refine gFaz<|gFaz<|pTaz<|vMz ?_;(iterate 4 refine gFz ?_);refine pTz<|vMz ?_;(iterate 4 refine gFz ?_);refine pTz<|nNz<|cTz<|sRz<|vAz<|nNz<|zK ?_;refine thenR (finR (.inl rfl) rfl rfl rfl (.cons (.tmp rfl) .nil) ?_);rfl;refine gFaz<|gFaz<|pTaz<|vAz<|nNz<|zI<|sRz<|vMz<|vMz ?_;(iterate 3 refine gFz ?_);refine pTz<|vMz ?_;(iterate 4 refine gFz ?_);refine pTz<|vMz ?_;(iterate 4 refine gFz ?_);refine pTz<|nNz<|cTz<|sRz<|vAz<|nNz<|zK ?_;refine thenR (finR (.inl rfl) rfl rfl rfl (.cons (.tmp rfl) .nil) ?_);rfl;(iterate 3 refine gFaz ?_);refine pTaz<|vMz ?_;(iterate 3 refine gFz ?_);refine pTz<|vAz<|nNz<|zI<|sRz<|vMz<|vMz ?_;(iterate 3 refine gFz ?_);refine pTz<|vMz ?_;(iterate 4 refine gFz ?_);refine pTz<|vMz ?_;(iterate 4 refine gFz ?_);refine pTz<|nNz<|cTz<|sRz<|vAz<|nNz<|zK ?_;refine thenR (finR (.inl rfl) rfl rfl rfl (.cons (.tmp rfl) .nil) ?_);rfl)
end
end Go.Proofs.YtpgdnfgjbhdbpaaGreatDoor
