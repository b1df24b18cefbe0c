/-
  Texts that were built apart, put behind one another (2 of 6).
  Conditions: none.
-/
import Derived.Test.YtdeggbkbblfpoaaGreatDoorZ1
import Derived.Laws.CopyRow
import Derived.Laws.IdiomCopy
import Derived.Laws.IdiomStrings
import Derived.SizedLaws
import Derived.RecoverIn
import Derived.WideLaws
import Derived.Laws.Build
import Derived.Test.YtdeggbkbblfpoaaGreatDoorRows
import Derived.Laws.StructEq
import Derived.Sort.QuietThIn
import Derived.Lib.AppendStr
import Derived.Lib.MakeNoZero
import Derived.Shelf.Spec.BitsCarry
import Derived.Lib.Mul64
open Go.Proofs.Tryz
namespace Go.Proofs.YtdeggbkbblfpoaaGreatDoor.SL
open Go Go.RowKit
set_option linter.unusedVariables false
set_option linter.unusedSimpArgs false
variable {v z : Value} {fs fs' seg : Fs} {b off sz i id j size d n : Nat} {e : Env} {T E t : TypeId} {w w0 : World} {x fo y : Operand} {C : Cu} {Q Q' : Post} {tys : Array TypeId} {P : Program} {φ : Facts} {o o' : Obj} {vs xs : List Value} {f : FuncId} {ts' ts : Ts} {ops : Array Oper} {ds : List Deferred} {ik : IntKind} {args : Array Operand} {fr : Nat × Nat} {M : Rel1} {af : Array Edge} {rest : List Oper} {a : Act} {S : List Nat}
section
def uca (l:List UInt8):Array Value:=(ucs l).toArray
theorem uca_size (l:List UInt8):(uca l).size=l.length:=by simp [uca,ucs_len]
theorem uca_get (l:List UInt8) (i:Nat) (hi:i < l.length):(uca l)[i]?=some (.int .u8 ((l.getD i 0).toNat:Int)):=by
 simp [uca,ucs_map,hi,List.getD_eq_getElem?_getD]
theorem uca_set (l:List UInt8) (i x:Nat) (hx:x < 256):wrCells (uca l) i [Value.int .u8 (x:Int)]=uca (l.set i (UInt8.ofNat x)):=by
 have h:(UInt8.ofNat x).toNat=x:=by rw [UInt8.toNat_ofNat'];omega
 simp [wrCells,uca,ucs_map,List.map_set,h,Nat.mod_eq_of_lt hx]
section rd
variable {P : Program} {T E : TypeId} {fr : Nat × Nat} {l : List UInt8} {i x off : Nat}
theorem rd_uca [AgI P T false] (hi:i < l.length):Rd P T (.cells (uca l) E fr) (0+i * 1) (.int .u8 ((l.getD i 0).toNat:Int)) :=
 Rd.one (by rw [Nat.zero_add,Nat.mul_one];exact uca_get l i hi)
theorem rd_ucaO [AgI P T false] (hi:off+i < l.length):Rd P T (.cells (uca l) E fr) (off+i * 1) (.int .u8 ((l.getD (off+i) 0).toNat:Int)) :=
 Rd.one (by rw [Nat.mul_one];exact uca_get l (off+i) hi)
theorem rd_ucaW [AgI P T true] [InfoI P T n z] (h:l.length=n):Rd P T (.cells (uca l) E fr) 0 (.agg (uca l)):=Rd.whole (by rw [uca_size,h])
theorem wr_uca [InfoI P T 1 z] (hi:i < l.length) (hx:x < 256):Wr P T (.cells (uca l) E (0,0)) (0+i * 1) (.int .u8 (x:Int)) (.cells (uca (l.set i (UInt8.ofNat x))) E (0,0)) :=
 Wr.cells (n:=1) (z:=z) rfl rfl (by rw [uca_size];omega) (by rw [Nat.zero_add,Nat.mul_one];exact uca_set l i x hx)
theorem wr_ucaW {k:List UInt8} [InfoI P T n z] (h:k.length=n) (h2:l.length=n):Wr P T (.cells (uca k) E (0,0)) 0 (.agg (uca l)) (.cells (uca l) E (0,0)) :=
 Wr.whole (by rw [uca_size,h]) (by rw [uca_size,h2]) (by simp [uca,ucs_map,Value.oneCell'])
theorem wr_ucaO {cs:Array Value} [InfoI P T n z] (h:cs.size=n) (h2:l.length=n):Wr P T (.cells cs E (0,0)) 0 (.agg (uca l)) (.cells (uca l) E (0,0)) :=
 Wr.whole h (by rw [uca_size,h2]) (by simp [uca,ucs_map,Value.oneCell'])
end rd
theorem own_row {g c:Nat} {l:List UInt8} (h:w.heap[g]?=some (.cells (uca l) E fr)) (hn:off+n≤l.length) (hc:n≤c) (hm:c≤maxLen) :
  RowAt w 1 (.slice (some ⟨g,off,none⟩) n c) n (ucs ((l.drop off).take n)) :=
 ⟨⟨_,_,rfl,hc,hm⟩,by rw [ucs_len,List.length_take,List.length_drop];omega,fun _=>⟨g,off,c,_,E,fr,rfl,h,by simp [uca,ucs_map,List.map_drop,List.map_take]⟩,fun p k d hv=>by
  cases hv;exact .inr (.inr ⟨g,off,_,rfl,h⟩)⟩
section num
variable {P : Program} {e : Env} {T ty : TypeId} {x y : Operand} {m n : Nat}
theorem ofInt8 (m:Nat) (hm:m < 256):(BitVec.ofInt 8 (m:Int)).toNat=m:=by
 simp only [BitVec.ofInt_natCast,BitVec.toNat_ofNat];omega
theorem ValP.orB (hx:e.ev x=some (.int .u8 (m:Int))) (hy:e.ev y=some (.int .u8 (n:Int))) (hm:m < 256) (hn:n < 256):ValP P e [] (.binOp .or T x y ty) (.int .u8 ((m |||n:Nat):Int)) :=
 .bin hx hy (fun w=>guard_int w) fun w=>by
  have h:m |||n < 256:=Nat.or_lt_two_pow (n:=8) hm hn
  have hb:bits .or .u8 (m:Int) (n:Int)=((m |||n:Nat):Int):=by
   show IntKind.u8.wrap (((BitVec.ofInt 8 (m:Int) |||BitVec.ofInt 8 (n:Int)).toNat:Nat):Int)=_
   rw [BitVec.toNat_or,ofInt8 m hm,ofInt8 n hn,wrapB]
   omega
  rw [binOp_or,intBits_or,hb];rfl
theorem ValP.addB (hx:e.ev x=some (.int .u8 (m:Int))) (hy:e.ev y=some (.int .u8 (n:Int))):ValP P e [] (.binOp .add T x y ty) (.int .u8 (((m+n) % 256:Nat):Int)) :=
 .bin hx hy (fun w=>guard_int w) fun w=>by simp [binOp_add,Op.intArith,wrapB]
theorem ValP.subB (hx:e.ev x=some (.int .u8 (m:Int))) (hy:e.ev y=some (.int .u8 (n:Int))) (hm:m < 256) (h:n≤m):ValP P e [] (.binOp .sub T x y ty) (.int .u8 ((m - n:Nat):Int)) :=
 .bin hx hy (fun w=>guard_int w) fun w=>by
  have h1:((m:Int) - n) % 256=((m - n:Nat):Int):=by omega
  simp [binOp_sub,Op.intArith,wrapB,h1]
theorem ValP.orBL (hx:e.ev x=some (.int .u8 (m:Int))) (hy:e.ev y=some (.int .u8 (OfNat.ofNat n))) (_:n=n) (h0:m < 256) (h1:(OfNat.ofNat n:Nat) < 256):ValP P e [] (.binOp .or T x y ty) (.int .u8 ((m |||(OfNat.ofNat n:Nat):Nat):Int)):=.orB hx hy h0 h1
theorem ValP.subBL (hx:e.ev x=some (.int .u8 (m:Int))) (hy:e.ev y=some (.int .u8 (OfNat.ofNat n))) (_:n=n) (h0:m < 256) (h1:(OfNat.ofNat n:Nat)≤m):ValP P e [] (.binOp .sub T x y ty) (.int .u8 ((m - (OfNat.ofNat n:Nat):Nat):Int)):=.subB hx hy h0 h1
theorem ValP.addBL (hx:e.ev x=some (.int .u8 (m:Int))) (hy:e.ev y=some (.int .u8 (OfNat.ofNat n))) (_:n=n):ValP P e [] (.binOp .add T x y ty) (.int .u8 (((m+(OfNat.ofNat n:Nat)) % 256:Nat):Int)):=.addB hx hy
theorem ValP.cut3 {il im:IntKind} {E k c:Nat} {p:Option Addr} {lo hi mx:Operand} (hU:UnI P T (.slice E)) (hI:InfoI P E sz z) (hx:e.ev x=some (.slice p n c)) (hl:e.ev lo=some (.int il (i:Int))) (hh:e.ev hi=some (.int ik (j:Int))) (hm:e.ev mx=some (.int im (k:Int))) (h1:i≤j) (h2:j≤k) (h3:k≤c) (h4:i < k) :
  ValP P e [] (.slice T x (some lo) (some hi) (some mx)) (.slice (p.map (·.add (i * sz))) (j - i) (k - i)):=fun ρ w hρ _ d t pos af g=>by
 have hu:P.underlying T=some (.slice E):=hU.un
 have h1:=run_slice_lhm (P:=P) w T p n c (elem_un hu) il ik im (i:Int) (j:Int) (k:Int) (by omega) (by omega) (by omega) (by omega)
 rw [elem_eq hu,run_size] at h1
 have h2:(Instr.sliceAt T (.slice p n c) (some (.int il (i:Int))) (some (.int ik (j:Int))) (some (.int im (k:Int)))).run P w=.ok (.slice (p.map (·.add (i * sz))) (j - i) (k - i)) w:=by
  rw [run_sliceAt_slice (w:=w) T _ _ _ _ (elem_un hu),h1]
  simp only [Result.andThen_ok,sliced,Int.toNat_natCast]
  rw [if_neg (by omega)]
 simp [execOp,hρ x _ hx,hρ lo _ hl,hρ hi _ hh,hρ mx _ hm,h2]
end num
theorem put_same {g:Nat} (h:w.heap[g]?=some o):w.putObj g o=w:=by
 obtain ⟨hlt,rfl⟩:=Array.getElem?_eq_some_iff.1 h
 simp [World.putObj,Array.setIfInBounds,hlt]
theorem setRow_put {g:Nat} {cs cur:Array Value} (h:w.heap[g]?=some (.cells cur E (0,0))):w.setRow g cs=w.putObj g (.cells cs E (0,0)):=by
 unfold World.setRow World.putObj
 have hlt:=(Array.getElem?_eq_some_iff.1 h).1
 congr 1
 apply Array.ext_getElem?
 intro i
 by_cases hi:g=i
 ·subst hi;rw [Array.getElem?_modify,if_pos rfl,h];simp [hlt]
 ·simp [Array.getElem?_modify,hi]
theorem NewP.make0 {T E bytes:Nat} {il:IntKind} {c:Nat} (hU:UnI P T (.slice E)) (hI:InfoI P E sz z) (hB:BytI P E bytes) (hx:e.ev x=some (.int ik 0)) (hy:e.ev y=some (.int il (c:Int))) (hb:c * bytes≤281474976710656) (h63:c≤9223372036854775807) :
  NewP P e (.makeSlice T x y) (.sl 0 c) (.cells (madeCells z.cells (c * sz)) E (0,0)):=fun ρ w hρ d t pos af g=>by
 obtain ⟨i,i1,i2,i3,i4⟩:=info_all (P:=P) (T:=E)
 have hbb:(c:Int) * (bytes:Int)≤281474976710656:=by
  rw [← Int.natCast_mul]
  omega
 have hr:=run_make (P:=P) w T E i z hU.un i1 i3 ik il 0 (c:Int) (by omega) (by omega) (by rw [i4,Int.mul_comm];exact hbb) (by omega)
 simp only [Int.toNat_natCast,i2] at hr
 simp [execOp,hρ x _ hx,hρ y _ hy,hr,Sh.val]
section dw
variable {C : Cu} {ops : Array Oper} {Q : Post} {tl rest : List Oper} {e : Env} {ts : Ts} {μ : Mu} {k d : Nat} {op : Op} {t : TypeId} {pos : String} {af : Array Edge} {g : Option (Nat × Bool)}
end dw
section lw
variable {C : Cu} {ops : Array Oper} {Q : Post} {rest : List Oper} {e : Env} {fs : Fs} {d : Nat} {t : TypeId} {pos : String} {af : Array Edge}
theorem LW.makeOwn {T E bytes:Nat} (hd:Nat.blt d C.N=true) (hU:UnI C.P T (.slice E)) (hI:InfoI C.P E 1 z) (hB:BytI C.P E bytes) (hz:z.cells=#[z]) (hx:e.ev x=some (.int ik (n:Int))) (hb:n * bytes≤281474976710656) (h63:n≤maxLen)
  (k:∀ g,LW C ops Q rest ((d,.slice (some ⟨g,0,none⟩) n n)::e) ((g,.cells (List.replicate n z).toArray E (0,0))::fs)):LW C ops Q (⟨some d,.makeSlice T x x,t,pos,af,none⟩::rest) e fs :=
 LW.n0 hd rfl (.makeSlice hU hI hB hx hb (by simpa [maxLen] using h63)) fun g=>by
  have h:madeCells z.cells (n * 1)=(List.replicate n z).toArray:=by rw [← made_one hz]
  rw [h];exact k g
theorem LW.copyAt {x y:Operand} {bytes:TypeId} {vx:Value} {g off dLen dCap m:Nat} {cur:Array Value} {E':TypeId} {news:List Value} {fs':Fs} (hd:Nat.blt d C.N=true) (hT:tys=#[T,T]) (hU:UnI C.P T (.slice E)) (hI:InfoI C.P E 1 z) (hB:BytI C.P E bytes)
  (hx:e.ev x=some (.slice (some ⟨g,off,none⟩) dLen dCap)) (hy:e.ev y=some vx) (hat:∀ w,St C.w0 C.S fs w→RowAt w 1 vx m news) (h1:∀ u∈news,u.oneCell'=true) (hm:m≤dLen) (hfit:off+m≤cur.size)
  (hset:SetAt fs g (.cells cur E' (0,0)) (.cells (cur.toList.take off++news++cur.toList.drop (off+m)).toArray E' (0,0)) fs')
  (k:LW C ops Q rest ((d,.int .i64 (m:Int))::e) fs') :
  LW C ops Q (⟨some d,.call { callee:=.builtin .copy,args:=#[x,y],argTypes:=tys },t,pos,af,none⟩::rest) e fs:=by
 subst hT
 refine LW.valset hd (fun c h=>by cases h) hset (fun a w hs hg=>?_) k
 have hA:=hat w hs.st
 have hl:news.length=m:=by have:=hA.len;omega
 have hsz:(C.P.info? E).map (·.size)=some 1:=by
  obtain ⟨i,i1,i2,i3,i4⟩:=info_all (P:=C.P) (T:=E);rw [i1];simp [i2]
 rcases Nat.eq_zero_or_pos m with h0|h0
 ·subst h0
  obtain ⟨p,c,rfl,_,_⟩:=hA.form
  have hn:news=[]:=List.length_eq_zero_iff.1 (by omega)
  have hrun:=run_copy_none (P:=C.P) w T T t E (some ⟨g,off,none⟩) p dLen dCap 0 c hU.un hsz (Nat.zero_min _)
  have e1:(Obj.cells (cur.toList.take off++news++cur.toList.drop (off+0)).toArray E' (0,0))=.cells cur E' (0,0):=by rw [hn];simp
  rw [e1]
  have hput:w.putObj g (.cells cur E' (0,0))=w:=put_same hg
  rw [hput]
  simp [execOp,resolve,invoke,builtin,hs.env.ev hx,hs.env.ev hy,hrun,goInt]
 ·obtain ⟨b,o2,c,cs,E2,fr,rfl,hblk,hnx⟩:=hA.pos h0
  have hrun:=run_copy_row (P:=C.P) w T T t E g off dLen dCap ⟨b,o2,none⟩ m c cur E' news hU.un hsz hg (by rw [hl];exact (Nat.min_eq_left hm).symm) (fun j u hj=>by
   rw [addr_add,cell_of hblk];exact cut_get hnx hj) (by rw [hl];exact hfit) h1
  rw [hl] at hrun
  have hput:w.setRow g (cur.toList.take off++news++cur.toList.drop (off+m)).toArray=w.putObj g (.cells (cur.toList.take off++news++cur.toList.drop (off+m)).toArray E' (0,0)):=setRow_put hg
  rw [hput] at hrun
  simp [execOp,resolve,invoke,builtin,hs.env.ev hx,hs.env.ev hy,hrun,goInt]
end lw
end
section
section lw
variable {C : Cu} {ops : Array Oper} {Q : Post} {rest : List Oper} {e : Env} {fs : Fs} {d : Nat} {t : TypeId} {pos : String} {af : Array Edge}
end lw
end
section
variable {P : Program} {e : Env}
section eqs
variable {T ty n : Nat} {k : IntKind} {x y : Operand}
variable {a b : List UInt8} {l m : List Nat}
end eqs
section sli
variable {T ty : TypeId} {x y : Operand} {n c : Nat}
theorem guard_sli {op:BinOp} {p:Option Addr} (w:World):(eqGuard op T x y (.slice p n c) v).run P w=.ok () w:=by
 unfold eqGuard;cases op<;>cases v<;>simp
theorem eqIn_ln [UnI P T (.slice E)] (d:Nat) (w:World):(Op.equalIn (d+1) T (.slice none n c) (.slice none 0 0)).run P w=.ok true w:=by
 exact dTAVEH
theorem eqIn_ls {a:Addr} [UnI P T (.slice E)] (d:Nat) (w:World):(Op.equalIn (d+1) T (.slice (some a) n c) (.slice none 0 0)).run P w=.ok false w:=by
 exact dTAVEH
theorem ValP.sliNilT [UnI P T (.slice E)] (hx:e.ev x=some (.slice none n c)) (hy:e.ev y=some (.slice none 0 0)):ValP P e [] (.binOp .eql T x y ty) (.bool true) :=
 .bin hx hy (fun w=>guard_sli w) fun w=>by
  have:=eqIn_ln (P:=P) (T:=T) (n:=n) (c:=c) (Op.maxDepth - 1) w
  simp only [binOp,Op.equal,Sem.run_bind]
  rw [show Op.maxDepth=Op.maxDepth - 1+1 from rfl,this];rfl
theorem ValP.sliNilF {a:Addr} [UnI P T (.slice E)] (hx:e.ev x=some (.slice (some a) n c)) (hy:e.ev y=some (.slice none 0 0)):ValP P e [] (.binOp .eql T x y ty) (.bool false) :=
 .bin hx hy (fun w=>guard_sli w) fun w=>by
  have:=eqIn_ls (P:=P) (T:=T) (a:=a) (n:=n) (c:=c) (Op.maxDepth - 1) w
  simp only [binOp,Op.equal,Sem.run_bind]
  rw [show Op.maxDepth=Op.maxDepth - 1+1 from rfl,this];rfl
end sli
end
section
variable {P : Program} {e : Env}
section cut
variable {T E x y lo : Nat}
end cut
end
section
section num
variable {P : Program} {e : Env} {T ty : TypeId} {x y : Operand} {m n : Nat}
theorem bits_andNot (m n:Nat) (hm:m < 18446744073709551616) (hn:n < 18446744073709551616):bits .andNot .u64 (m:Int) (n:Int)=(((18446744073709551615 - n) &&& m:Nat):Int):=by
 have h:(18446744073709551615 - n) &&& m < 18446744073709551616:=Nat.lt_of_le_of_lt Nat.and_le_right hm
 show IntKind.u64.wrap (((BitVec.ofInt 64 (m:Int) &&& ~~~ BitVec.ofInt 64 (n:Int)).toNat:Nat):Int)=_
 rw [BitVec.toNat_and,BitVec.toNat_not,ofInt64 m hm,ofInt64 n hn,wrapU,Nat.and_comm]
 rw [show 2 ^ 64 - 1 - n=18446744073709551615 - n from rfl]
 generalize (18446744073709551615 - n) &&& m=q at *
 omega
theorem ValP.andNotU (hx:e.ev x=some (.int .u64 (m:Int))) (hy:e.ev y=some (.int .u64 (n:Int))) (hm:m < 18446744073709551616) (hn:n < 18446744073709551616):ValP P e [] (.binOp .andNot T x y ty) (.int .u64 (((18446744073709551615 - n) &&& m:Nat):Int)) :=
 .bin hx hy (fun w=>guard_int w) fun w=>by rw [binOp_andNot,intBits_andNot,bits_andNot m n hm hn];rfl
theorem bits_xorI (m n:Nat) (hm:m < 9223372036854775808) (hn:n < 9223372036854775808):bits .xor .i64 (m:Int) (n:Int)=((m ^^^ n:Nat):Int):=by
 have h:m ^^^ n < 9223372036854775808:=Nat.xor_lt_two_pow (n:=63) hm hn
 show IntKind.i64.wrap (((BitVec.ofInt 64 (m:Int) ^^^ BitVec.ofInt 64 (n:Int)).toNat:Nat):Int)=_
 rw [BitVec.toNat_xor,ofInt64 m (by omega),ofInt64 n (by omega)]
 exact wrapI _ (by omega) (by omega)
theorem ValP.xorIL (hx:e.ev x=some (.int .i64 (m:Int))) (hy:e.ev y=some (.int .i64 (OfNat.ofNat n))) (_:n=n) (hm:m < 9223372036854775808) (hn:(OfNat.ofNat n:Nat) < 9223372036854775808):ValP P e [] (.binOp .xor T x y ty) (.int .i64 ((m ^^^ (OfNat.ofNat n:Nat):Nat):Int)) :=
 .bin hx hy (fun w=>guard_int w) fun w=>by
  have h:=bits_xorI m (OfNat.ofNat n) hm hn
  rw [binOp_xor,intBits_xor]
  exact congrArg (fun z=>(Result.ok (Value.int .i64 z) w)) h
end num
end
section
theorem dTAZWr {P:Prop} (h:P:=by
 refine ⟨fun p hp=>hrel.fsome p (hsub p hp),fun p hp j hj=>hrel.ftw p (hsub p hp) j hj,fun p hp j hj=>?_,hrel.old,fun b hb hB j hj=>?_,nd2⟩
 ·rcases hj with hj|⟨_,hj⟩
  ·exact hrel.ftr p (hsub p hp) j hj
  ·obtain ⟨q,hq,he⟩:=hks _ hj
   exact absurd he.symm (hdis q hq p hp)
 ·rcases hj with hj|⟨_,hj⟩
  ·exact hrel.oldr b hb hB j hj
  ·obtain ⟨q,hq,rfl⟩:=hks _ hj
   rw [hφs q hq] at hb;cases hb):P:=h
theorem dTAZab {P:Prop} (h:P:=by
 have hw:=WantT.wanted (o:=⟨some d,.call { callee:=.builtin .append,args:=#[s,x],argTypes:=tys },t,pos,af,g⟩) hg ha
 rw [tch_want hw,hm,← hvk.1]
 show ((#[]++#[s,x]:Array Operand).toList.flatMap fun y=>blocksN 4 (a.eval y))=_
 simp [ha.Ev s v hs,ha.Ev x vx hx]):P:=h
theorem dTAiXX {P:Prop} (h:P:=by
 have hxk:x ∉ keys gs:=fun h=>upds_key h hx
 rw [upds_other hxk] at hx
 rcases hj with hj|⟨_,hj⟩
 ·exact hrel.old x hx j hj
 ·rcases List.mem_append.1 hj with hj|hj
  ·obtain ⟨q,hq,rfl⟩:=hks _ hj
   rw [hφs q hq] at hx;cases hx
  ·exact hxk hj):P:=h
theorem dTAWoQ {P:Prop} (h:P:=by
 refine List.pairwise_append.2 ⟨?_,i1.nd,fun p hp q hq e=>?_⟩
 ·simp only [tsTag,List.pairwise_map];exact hf.2
 ·obtain ⟨q',hq',rfl⟩:=hg p hp
  exact hk2 q hq (by rw [← e];exact List.mem_map.2 ⟨q',hq',rfl⟩)):P:=h
theorem dTAAAr {P:Prop} (h:P:=by
 rcases List.mem_append.1 hb with hb|hb
 ·obtain ⟨q,hq,rfl⟩:=hks _ hb
  exact ⟨.inl (by rw [hφs q hq];simp),fun j hj=>ancB_spec hws j (hrel.ftw _ (hin q hq) j hj)⟩
 ·exact i2 b hb):P:=h
theorem dTAyZm {P:Prop} (h:P:=by
 show (execOp a.eval ⟨some d,.call { callee:=.builtin .append,args:=#[s,x],argTypes:=tys },t,pos,af,g⟩).run C.P w=.ok (.value v') w'
 simp [execOp,resolve,invoke,builtin,hes,hex,hr]):P:=h
theorem dTAcHg {P:Prop} (h:P:=by
 have hw:=WantT.wanted (o:=⟨some d,.call { callee:=.builtin .append,args:=#[s,x],argTypes:=tys },t,pos,af,g⟩) hg ha
 rw [hm];unfold mvE;rw [if_pos hw,← hvk.2];exact hmvB a ha):P:=h
theorem dTAOfE {P:Prop} (h:P:=by
 rcases List.mem_append.1 hp with hp|hp
 ·obtain ⟨q,hq,rfl⟩:=hg p hp;exact hup q hq
 ·rw [upds_other (hk2 p hp)];exact i1.fsome p hp):P:=h
theorem dTAUcZ {P:Prop} (h:P:=by
 have hxk:x ∉ keys gs:=fun h=>upds_key h hx
 rw [upds_other hxk] at hx
 exact i1.oldr x hx hB j (by rw [← addT_app];exact hj)):P:=h
theorem dTAfzl {P:Prop} (h:P:=by
 rcases hfk _ hk' with h|h
 ·rw [i1.fsome p hp] at h;cases h.1
 ·obtain ⟨q,hq,he⟩:=hks _ h
  exact hts2 p hp q hq he.symm):P:=h
theorem dTABXp {P:Prop} (h:P:=by
 rw [← hvk.1]
 show ((#[]++#[s,x]:Array Operand).toList.flatMap fun y=>blocksN 4 (a.eval y))=_
 simp [hes,hex]):P:=h
theorem dTAIMn {P:Prop} (h:P:=by
 show (match (#[s,x]:Array Operand)[0]? with|some x=>blocksN 1 (a.eval x)|none=>[])=_
 simp [ha.Ev s v hs]):P:=h
def tsTag (ws rs:List Nat) (gs:Fs):Ts:=gs.map fun p=>(p.1,p.2,ws,rs)
theorem fsOf_tag {ws rs:List Nat} {gs:Fs}:fsOf (tsTag ws rs gs)=gs:=by
 simp only [fsOf,tsTag,List.map_map]
 conv=>rhs;rw [← List.map_id gs]
 rfl
inductive TOut (ops:Array Oper) (k:Nat):Ts→Fs→List Nat→List Nat→Ts→Prop
 |nil {ts:Ts}:TOut ops k ts [] [] [] ts
 |one {b:Nat} {o:Obj} {ws rs:List Nat} {r:Ts} (h:ancB ops k ws=true) (h':ancB ops k rs=true):TOut ops k ((b,o,ws,rs)::r) [(b,o)] ws rs r
 |old {seg:Fs} {r:Ts}:TOut ops k (tsOf seg++r) seg [] [] r
 |new {j:Nat} {seg:Fs} {r:Ts} (h:ancB ops k [j]=true):TOut ops k (tsNew j seg++r) seg [j] [] r
 |tag {seg:Fs} {ws rs:List Nat} {r:Ts} (h:ancB ops k ws=true) (h':ancB ops k rs=true):TOut ops k (tsTag ws rs seg++r) seg ws rs r
 |cons {p:Nat × Obj × List Nat × List Nat} {ts r:Ts} {seg:Fs} {ws rs:List Nat} (h:TOut ops k ts seg ws rs r):TOut ops k (p::ts) seg ws rs (p::r)
 |app {l ts r:Ts} {seg:Fs} {ws rs:List Nat} (h:TOut ops k ts seg ws rs r):TOut ops k (l++ts) seg ws rs (l++r)
theorem TOut.spec {k:Nat} {r:Ts} {ws rs:List Nat} (h:TOut ops k ts seg ws rs r):(tsTag ws rs seg++r).Perm ts∧ancB ops k ws=true∧ancB ops k rs=true:=by
 induction h with
 |nil=>exact ⟨by simp [tsTag],ancB_nil,ancB_nil⟩
 |one h h'=>exact ⟨by simp [tsTag],h,h'⟩
 |old=>exact ⟨by simp [tsTag,tsOf],ancB_nil,ancB_nil⟩
 |new h=>exact ⟨by simp [tsTag,tsNew],h,ancB_nil⟩
 |tag h h'=>exact ⟨.refl _,h,h'⟩
 |cons h ih=>exact ⟨List.perm_middle.trans (ih.1.cons _),ih.2⟩
 |@app l ts r seg ws rs h ih =>
  refine ⟨?_,ih.2⟩
  have:(tsTag ws rs seg++(l++r)).Perm (l++(tsTag ws rs seg++r)):=by
   rw [← List.append_assoc,← List.append_assoc]
   exact List.Perm.append_right _ List.perm_append_comm
  exact this.trans (ih.1.append_left _)
theorem ReadAll.fsts {k:Nat} {bs:List Nat} {us:Fs} (h:ReadAll C ops k bs ts us ts'):ts'.map (·.1)=ts.map (·.1):=by
 induction h with
 |nil=>rfl
 |own h _ ih=>rw [ih,h.fsts]
 |ext _ _ _ ih=>exact ih
theorem mem_fst (h:ts'.map (·.1)=ts.map (·.1)) {p:Nat × Obj × List Nat × List Nat} (hp:p∈ts'):∃ q∈ts,q.1=p.1:=by
 have:p.1∈ts.map (·.1):=by rw [← h];exact List.mem_map.2 ⟨p,hp,rfl⟩
 obtain ⟨q,hq,he⟩:=List.mem_map.1 this
 exact ⟨q,hq,he⟩
theorem upds_in {gs:Fs} (hn:gs.Pairwise fun p q=>p.1 ≠ q.1):∀ q∈gs,upds φ gs q.1=some q.2:=by
 induction gs with
 |nil=>intro q hq;cases hq
 |cons x l ih =>
  intro q hq
  exact dTAieO
section dw
variable {C : Cu} {ops : Array Oper} {Q : Post} {tl rest : List Oper} {e : Env} {ts : Ts} {μ : Mu} {k d : Nat} {t : TypeId} {pos : String} {af : Array Edge} {g : Option (Nat × Bool)}
theorem DW.moveG {o:Oper} {bl:List Nat} {M:Value→Fs→Prop} {seg us2:Fs} {ws rs:List Nat} {ts1 ts2:Ts} (hk:ops[k]?=some o) (hdst:o.dst=some d) (hd:Nat.blt d C.N=true)
  (htch0:∀ a,EnvOk C.N C.ds e a→tch (exs (μ k)) ops o a=keys seg++bl) (hmv0:∀ a,EnvOk C.N C.ds e a→mvE (flg (μ k)) ops o a=keys seg) (hout:TOut ops k ts seg ws rs ts1) (hra:ReadAll C ops k bl ts1 us2 ts2)
  (hcl:∀ a φ,EnvOk C.N C.ds e a→(∀ q∈seg,φ q.1=some q.2∧(C.w0.heap.size≤q.1∨q.1∈C.S))→seg.Pairwise (fun p q=>p.1 ≠ q.1)→(∀ w,C.cx.on φ bl w→∀ p∈us2,w.heap[p.1]?=some p.2)→CanMk C.cx ops (μ k) φ o a M)
  (kk:∀ v' seg',M v' seg'→DW C ops μ Q tl rest (k+1) ((d,v')::e) (tsTag (k::ws) (k::rs) seg'++ts2)) :
  DW C ops μ Q tl (o::rest) k e ts:=by
 intro a φ tw tr ha hrel hinv
 obtain ⟨hperm,hws,hrs⟩:=hout.spec
 have htch:=htch0 a ha
 have hmvE:=hmv0 a ha
 have hin:∀ q∈seg,(q.1,q.2,ws,rs)∈ts:=fun q hq=>hperm.subset (List.mem_append_left _ (List.mem_map.2 ⟨q,hq,rfl⟩))
 have hsub:∀ p∈ts1,p∈ts:=fun p hp=>hperm.subset (List.mem_append_right _ hp)
 have hnd:(tsTag ws rs seg++ts1).Pairwise fun p q=>p.1 ≠ q.1:=hperm.symm.pairwise hrel.nd (fun h e=>h e.symm)
 obtain ⟨nd1,nd2,nd3⟩:=List.pairwise_append.1 hnd
 have hdis:∀ q∈seg,∀ p∈ts1,p.1 ≠ q.1:=fun q hq p hp e=>nd3 (q.1,q.2,ws,rs) (List.mem_map.2 ⟨q,hq,rfl⟩) p hp e.symm
 have hks:∀ b∈keys seg,∃ q∈seg,q.1=b:=fun b hb=>by obtain ⟨q,hq,he⟩:=List.mem_map.1 hb;exact ⟨q,hq,he⟩
 have hφs:∀ q∈seg,φ q.1=some q.2:=fun q hq=>hrel.fsome _ (hin q hq)
 have hrel1:Rel C.w0.heap.size ts1 φ tw (addT tr (keys seg) k):=by
  exact dTAZWr
 obtain ⟨i1,i2,i3⟩:=hra.rel hinv hrel1
 have hts2:∀ p∈ts2,∀ q∈seg,p.1 ≠ q.1:=fun p hp q hq=>by
  obtain ⟨p',hp',he⟩:=mem_fst hra.fsts hp
  rw [← he];exact hdis q hq p' hp'
 unfold walk dOp
 simp only [hk]
 rw [htch,hmvE]
 refine ⟨fun b hb=>?_,.inr ⟨M,hcl a φ ha (fun q hq=>⟨hφs q hq,hinv q.1 (by rw [hφs q hq];simp)⟩) ?_ (fun w hon=>i3 w hon),fun b hb j hj=>?_,fun v' gs hM hf _=>?_⟩⟩
 ·exact dTAAAr
 ·have:=nd1
  simp only [tsTag,List.pairwise_map] at this
  exact this
 ·obtain ⟨q,hq,rfl⟩:=hks _ hb
  exact ancB_spec hrs j (hrel.ftr _ (hin q hq) j hj)
 ·have hfk:∀ b∈keys gs,(φ b=none∧C.w0.heap.size≤b)∨b∈keys seg:=fun b hb=>(hf.1 b hb).2
  have hk2:∀ p∈ts2,p.1 ∉ keys gs:=fun p hp hk'=>by
   exact dTAfzl
  have hup:=upds_in (φ:=φ) hf.2
  have hg:∀ p∈tsTag (k::ws) (k::rs) gs,∃ q∈gs,p=(q.1,q.2,k::ws,k::rs):=fun p hp=>by
   obtain ⟨q,hq,rfl⟩:=List.mem_map.1 hp;exact ⟨q,hq,rfl⟩
  rw [hdst]
  refine kk v' gs hM _ _ _ _ (ha.put hd) ⟨fun p hp=>?_,fun p hp j hj=>?_,fun p hp j hj=>?_,fun x hx j hj=>?_,fun x hx hB j hj=>?_,?_⟩ (inv_upds hinv (fun b hb=>(hf.1 b hb).1))
  ·exact dTAOfE
  ·rcases List.mem_append.1 hp with hp|hp
   ·obtain ⟨q,hq,rfl⟩:=hg p hp
    rcases hj with hj|⟨rfl,_⟩
    ·rcases hfk q.1 (List.mem_map.2 ⟨q,hq,rfl⟩) with h|h
     ·exact absurd hj (hrel.old _ h.1 j)
     ·obtain ⟨q',hq',he⟩:=hks _ h
      exact List.mem_cons_of_mem _ (hrel.ftw _ (hin q' hq') j (by rw [he];exact hj))
    ·exact List.mem_cons_self
   ·rcases hj with hj|⟨_,hj⟩
    ·exact i1.ftw p hp j hj
    ·rcases List.mem_append.1 hj with hj|hj
     ·obtain ⟨q,hq,he⟩:=hks _ hj
      exact absurd he.symm (hts2 p hp q hq)
     ·exact absurd hj (hk2 p hp)
  ·rcases List.mem_append.1 hp with hp|hp
   ·obtain ⟨q,hq,rfl⟩:=hg p hp
    rcases hj with hj|⟨rfl,_⟩
    ·rcases hfk q.1 (List.mem_map.2 ⟨q,hq,rfl⟩) with h|h
     ·exact absurd hj (hrel.oldr _ h.1 h.2 j)
     ·obtain ⟨q',hq',he⟩:=hks _ h
      exact List.mem_cons_of_mem _ (hrel.ftr _ (hin q' hq') j (by rw [he];exact hj))
    ·exact List.mem_cons_self
   ·exact i1.ftr p hp j (by rw [← addT_app];exact hj)
  ·exact dTAiXX
  ·exact dTAUcZ
  ·exact dTAWoQ
theorem DW.appendG {s x:Operand} {tys:Array TypeId} {v vx:Value} {M:Value→Fs→Prop} {seg us:Fs} {ws rs:List Nat} {ts1 ts2:Ts} 
  (hk:ops[k]?=some ⟨some d,.call { callee:=.builtin .append,args:=#[s,x],argTypes:=tys },t,pos,af,g⟩) (hm:μ k=some (cst M,(false:Fl))) (hd:Nat.blt d C.N=true) (hg:WantT ops e g)
  (hs:e.ev s=some v) (hx:e.ev x=some vx) (hvk:blocksN 4 v=keys seg∧blocksN 1 v=keys seg) (hout:TOut ops k ts seg ws rs ts1) (hrd:RdV C ops k [vx] ts1 us ts2)
  (hrun:∀ w,St C.w0 C.S seg w→(∀ p∈us,w.heap[p.1]?=some p.2)→∃ v' seg' w',(Builtin.append_ tys t #[v,vx]).run C.P w=.ok v' w'∧M v' seg'∧St C.w0 C.S seg' w'∧w.heap.size≤w'.heap.size∧(∀ b,b < w.heap.size→b ∉ seg'.map (·.1)→w'.heap[b]?=w.heap[b]?)∧(∀ q∈seg',w.heap.size≤q.1∨q.1∈seg.map (·.1)))
  (kk:∀ v' seg',M v' seg'→DW C ops μ Q tl rest (k+1) ((d,v')::e) (tsTag (k::ws) (k::rs) seg'++ts2)) :
  DW C ops μ Q tl (⟨some d,.call { callee:=.builtin .append,args:=#[s,x],argTypes:=tys },t,pos,af,g⟩::rest) k e ts:=by
 obtain ⟨us2,hra,hus⟩:=hrd.all
 have hra:ReadAll C ops k (blocksN 4 vx) ts1 us2 ts2:=by simpa using hra
 have hmvB:∀ a:Act,EnvOk C.N C.ds e a→mvB false ⟨some d,.call { callee:=.builtin .append,args:=#[s,x],argTypes:=tys },t,pos,af,g⟩ a.eval=blocksN 1 v:=fun a ha=>by
  exact dTAIMn
 refine DW.moveG (M:=M) hk rfl hd (fun a ha=>?_) (fun a ha=>?_) hout hra (fun a φ ha hseg hnd hus3=>?_) kk
 ·exact dTAZab
 ·exact dTAcHg
 ·have hw:=WantT.wanted (o:=⟨some d,.call { callee:=.builtin .append,args:=#[s,x],argTypes:=tys },t,pos,af,g⟩) hg ha
  have hes:=ha.Ev s v hs
  have hex:=ha.Ev x vx hx
  have htch:touch ⟨some d,.call { callee:=.builtin .append,args:=#[s,x],argTypes:=tys },t,pos,af,g⟩ a.eval=keys seg++blocksN 4 vx:=by
   exact dTABXp
  refine ⟨hw,.inr ⟨⟨cst M,by rw [hm];rfl,rfl⟩,.inr fun w hon=>?_⟩⟩
  rw [htch] at hon
  have hst:St C.w0 C.S seg w:=⟨hon.1,fun q hq=>⟨(hseg q hq).2,hon.2 q.1 (List.mem_append_left _ (List.mem_map.2 ⟨q,hq,rfl⟩)) _ (hseg q hq).1⟩,hnd⟩
  obtain ⟨v',seg',w',hr,hM,hst',g1,g2,g3⟩:=hrun w hst (fun p hp=>hus3 w ⟨hon.1,fun y hy o ho=>hon.2 y (List.mem_append_right _ hy) o ho⟩ p (hus p hp))
  refine ⟨v',seg',w',?_,hM,hst'.bel,g1,g2,fun q hq=>⟨(hst'.own q hq).2,?_,?_⟩,hst'.nd⟩
  ·exact dTAyZm
  ·exact (hst'.own q hq).1
  ·rw [hm,show mvB (flg (some (cst M,false))) _ _=keys seg from (hmvB a ha).trans hvk.2];exact g3 q hq
end dw
end
section
section run
variable {P : Program} {w : World}
end run
section lw
variable {C : Cu} {ops : Array Oper} {Q : Post} {rest : List Oper} {e : Env} {fs : Fs} {d : Nat} {t : TypeId} {pos : String} {af : Array Edge}
end lw
section dw
variable {C : Cu} {ops : Array Oper} {Q : Post} {tl rest : List Oper} {e : Env} {ts : Ts} {μ : Mu} {k d : Nat} {t : TypeId} {pos : String} {af : Array Edge} {g : Option (Nat × Bool)}
end dw
end
section
open Go Go.RowKit Go.ChangeShapes Go.WideShapes Go.Deep

end
section
abbrev Out:=Ending→Fs→Prop
def Out.plain (K:Out):Prop:=∀ fs,¬ K .outgrown fs
theorem thenP {K:List Deferred→Env→Fs→Prop} {ch:List PanicEntry} (h:Q (.panic ch) ds e fs):thenQ K Q (.panic ch) ds e fs:=h
section cp
variable {C : Cu} {ops : Array Oper} {Q : Post} {rest : List Oper} {e : Env} {fs : Fs} {d : Nat} {t : TypeId} {pos : String} {af : Array Edge}
theorem LW.callP {fo:Operand} {args:Array Operand} {tys:Array TypeId} {f:FuncId} {first cap:Array Value} {vs aas:List Value} {K:Out} (hd:Nat.blt d C.N=true)
  (hf:e.ev fo=some (.func (.func f) first cap)) (hF:FnI C.P f) (ha:ArgsOk e args.toList vs) (has:first.toList++vs++cap.toList=aas) (hpl:K.plain)
  (hc:∀ w,St C.w0 C.S fs w→Calls C.P f aas.toArray w (fun x w'=>∃ fs',K x fs'∧St C.w0 C.S fs' w'))
  (k:∀ v fs',K (.returned v) fs'→LW C ops Q rest ((d,v)::e) fs') (kp:∀ ch fs',K (.panicked ch) fs'→Q (.panic ch) C.ds e fs') :
  LW C ops Q (⟨some d,.call { callee:=.value fo,args:=args,argTypes:=tys },t,pos,af,none⟩::rest) e fs:=fun a w hs=>by
 refine wpListIn_take (wanted_none _ rfl _) ⟨fun _ _=>trivial,?_⟩
 have hrun:=CallP.fn (P:=C.P) (tys:=tys) hf ha a.eval w hs.env.Ev (some d) t pos af none
 rw [semAt_FR (fun c h=>by cases h),hrun]
 have e1:first++vs.toArray++cap=aas.toArray:=by rw [← has];apply Array.toList_inj.1;simp
 refine ⟨fun h=>(by cases h),CallsIn.mono (calls_FR (e1 ▸ hc w hs.st)) fun x w' hx=>?_⟩
 obtain ⟨fs',hK,hst⟩:=hx
 cases x with
 |returned v=>exact k v fs' hK _ _ ⟨hs.env.put hd,hst⟩
 |panicked ch=>exact ⟨C.ds,e,fs',kp ch fs' hK,⟨hs.env,hst⟩⟩
 |outgrown=>exact absurd hK (hpl fs')
theorem LW.panic {o:Option Nat} (hx:e.ev x=some (.iface T v)) (h:Q (.panic [{ v:=.iface T v,recovered:=false }]) C.ds e fs) :
  LW C ops Q (⟨o,.panic x,t,pos,af,none⟩::rest) e fs:=fun a w hs=>by
 refine wpListIn_take (wanted_none _ rfl _) ⟨fun _ _=>trivial,?_⟩
 have hrun:(execOp a.eval ⟨o,.panic x,t,pos,af,none⟩).run C.P w=.halt (.panic (.iface T v)) w:=by
  have h0:(Instr.panic (.iface T v)).run C.P w=.halt (.panic (.iface T v)) w:=rfl
  simp [execOp,hs.env.ev hx,h0,Result.andThen]
 rw [semAt_FR (fun c h=>by cases h),hrun]
 exact ⟨C.ds,e,fs,h,hs⟩
theorem LW.defer {tys:Array TypeId} {cap:Array Value} (hr:C.r=none) (hf:e.ev fo=some (.func (.func f) #[] cap))
  (h:LW (C.at ({ target:=.fn (.func f) cap,args:=#[] }::C.ds)) ops Q rest e fs):LW C ops Q (⟨none,.defer { callee:=.value fo,args:=#[],argTypes:=tys },t,pos,af,none⟩::rest) e fs:=fun a w hs=>by
 refine wpListIn_take (wanted_none _ rfl _) ⟨fun _ _=>trivial,?_⟩
 have hrun:(execOp a.eval ⟨none,.defer { callee:=.value fo,args:=#[],argTypes:=tys },t,pos,af,none⟩).run C.P w=.ok (.defer { target:=.fn (.func f) cap,args:=#[] }) w:=by
  simp [execOp,resolve,Deferred.ofValue,hs.env.ev hf]
 have hro:(FR C.r).round=none:=hr
 rw [hro,Oper.semAt_none,hrun]
 exact h { a with defers:={ target:=.fn (.func f) cap,args:=#[] }::a.defers } w ⟨⟨hs.env.size,by rw [show a.defers=C.ds from hs.env.dfr];rfl,hs.env.get⟩,hs.st⟩
end cp
theorem leaves_shutP {P:Program} {fn:Func} {tmps:Array Value} {R:Ending→World→Prop} {ch:List PanicEntry} (h:Shut ds fs fs'):∀ w,St w0 S fs w →
  (∀ w',St w0 S fs' w'→R (.panicked ch) w')→LeavesInM (FR none) 0 P fn tmps R ds (.panicking ch) w:=by
 exact dTAwDa
def inP (C:Cu) (fn:Func) (K:Out):Post:=fun x ds e fs=>match x with
 |.ret=>∃ vs fs',Shut ds fs fs'∧ResL C e fs' fn.results.toList vs∧K (.returned (tup vs)) fs'
 |.normal=>∃ vs fs',Shut ds fs fs'∧ResL C e fs' fn.results.toList vs∧K (.returned (tup vs)) fs'
 |.panic ch=>∃ fs',Shut ds fs fs'∧K (.panicked ch) fs'
 |_=>False
theorem inPI {fn:Func} {K:Out} {x:Exit} {rs:List ResultVar} (hx:x=.ret∨x=.normal) (hsh:Shut ds fs fs') (hr:fn.results.toList=rs) (h:ResL C e fs' rs vs) (hv:tup vs=v) (hK:K (.returned v) fs'):inP C fn K x ds e fs:=by
 subst hv
 subst hr
 rcases hx with rfl|rfl
 ·exact ⟨vs,fs',hsh,h,hK⟩
 ·exact ⟨vs,fs',hsh,h,hK⟩
theorem inPP {fn:Func} {K:Out} {ch:List PanicEntry} (hsh:Shut ds fs fs') (hK:K (.panicked ch) fs'):inP C fn K (.panic ch) ds e fs:=⟨fs',hsh,hK⟩
theorem calls_inlineP {w0:World} {S:List Nat} {fn:Func} {c:Code} {args:List Value} {N:Nat} {K:Out} {fs:Fs} {w:World} (hf:P.funcs[f]?=some fn) (hb:fn.body=some c) (hN:fn.ntmps=N) (hsz:Nat.ble args.length N=true)
  (h:CW ⟨P,w0,S,N,[],none⟩ c (inP ⟨P,w0,S,N,[],none⟩ fn K) (Env.ofL args 0) fs) (hw:St w0 S fs w) :
  Calls P f args.toArray w (fun x w'=>∃ fs',K x fs'∧St w0 S fs' w'):=by
 have hs:Sat ⟨P,w0,S,N,[],none⟩ (Env.ofL args 0) fs { tmps:=args.toArray++Array.replicate (fn.ntmps - args.toArray.size) undef,defers:=[] } w:=by
  refine ⟨⟨by have:=Nat.le_of_ble_eq_true hsz;simp [hN];omega,rfl,fun t v ht=>?_⟩,hw⟩
  exact dTAFZD
 refine (callsIn_wide (n:=0)).1 (callsIn_of_wp_marks (F:=FR none) hf hb trivial ?_)
 refine Code.wpIn_mono (fun x a w' h'=>?_) (h _ w hs)
 obtain ⟨ds,e,fs1,hq,s⟩:=h'
 have key:∀ vs fs',Shut ds fs1 fs'→ResL ⟨P,w0,S,N,[],none⟩ e fs' fn.results.toList vs→K (.returned (tup vs)) fs'→LeavesInM (FR none) 0 P fn a.tmps (fun x w'=>∃ fs',K x fs'∧St w0 S fs' w') a.defers .returning w':=by
  intro vs fs' hsh hr hK
  rw [show a.defers=ds from s.env.dfr]
  exact leaves_shut hsh w' s.st fun w2 hw2=>⟨tup vs,ResL.runS hr s.env hw2,fs',hK,hw2⟩
 cases x with
 |ret=>obtain ⟨vs,fs',h1,h2,h3⟩:=hq;exact key vs fs' h1 h2 h3
 |normal=>obtain ⟨vs,fs',h1,h2,h3⟩:=hq;exact key vs fs' h1 h2 h3
 |panic ch =>
  obtain ⟨fs',hsh,hK⟩:=hq
  show LeavesInM (FR none) 0 P fn a.tmps _ a.defers (.panicking ch) w'
  rw [show a.defers=ds from s.env.dfr]
  exact leaves_shutP hsh w' s.st fun w2 hw2=>⟨fs',hK,hw2⟩
 |_=>exact hq.elim
end
section
def recV:FrameMode→Value × FrameMode
 |.panicking ({ v,recovered:=false,goexit:=false }::older)=>(v,.panicking ({ v,recovered:=true }::older))
 |m=>(.nilIface,m)
theorem recV_ret:recV .returning=(.nilIface,.returning):=rfl
theorem recV_pan {older:List PanicEntry}:recV (.panicking ({ v:=v,recovered:=false }::older))=(v,.panicking ({ v:=v,recovered:=true }::older)):=rfl
section rc
variable {F : Fence} {n : Nat} {P : Program} {Q : Exit → Act → List Frame → World → Prop} {a : Act} {cs : List Frame} {w : World}
theorem frame_same {c₀:Frame} {u:FrameMode} (hu:c₀.mode=u):{ c₀ with mode:=u }=c₀:=by subst hu;rfl
theorem recover_run {t:TypeId} {pos:String} {af:Array Edge} {tys:Array TypeId} (ρ:Operand→Value):(execOp ρ ⟨some d,.call { callee:=.builtin .recover,args:=#[],argTypes:=tys },t,pos,af,none⟩).run P w=.ok .recover w:=by
 simp [execOp,resolve,invoke]
 rfl
theorem recoverD_eq {c₀:Frame} {u:FrameMode} (hu:c₀.mode=u):(∃ v cs',recoverD (c₀::cs)=some (v,cs')∧v=(recV u).1∧cs'={ c₀ with mode:=(recV u).2 }::cs)∨(recoverD (c₀::cs)=none∧(recV u).1=.nilIface∧{ c₀ with mode:=(recV u).2 }::cs=c₀::cs):=by
 have e:recoverD (c₀::cs)=(match c₀.mode with
   |.panicking ({ v,recovered:=false,goexit:=false }::older)=>some (v,{ c₀ with mode:=.panicking ({ v,recovered:=true }::older) }::cs)
   |_=>none):=rfl
 rw [e,hu]
 have hc:{ c₀ with mode:=u }=c₀:=frame_same hu
 cases u with
 |run=>exact .inr ⟨rfl,rfl,congrArg (·::cs) hc⟩
 |returning=>exact .inr ⟨rfl,rfl,congrArg (·::cs) hc⟩
 |panicking chain =>
  cases chain with
  |nil=>exact .inr ⟨rfl,rfl,congrArg (·::cs) hc⟩
  |cons p older =>
   obtain ⟨v,r,g⟩:=p
   cases r with
   |true=>exact .inr ⟨rfl,rfl,congrArg (·::cs) hc⟩
   |false =>
    cases g with
    |true=>exact .inr ⟨rfl,rfl,congrArg (·::cs) hc⟩
    |false=>exact .inl ⟨_,_,rfl,rfl,rfl⟩
theorem wpSIn_recover {id d:Nat} {t:TypeId} {pos:String} {af:Array Edge} {tys:Array TypeId} {rest:List Oper} {c₀:Frame} {u:FrameMode} (hF:∀ f,F.fn f) (hu:c₀.mode=u)
  (h:wpOpsSIn F n P (⟨some d,.call { callee:=.builtin .recover,args:=#[],argTypes:=tys },t,pos,af,none⟩::rest).toArray Q ((List.range (rest.length+1)).drop 1) (a.put (some d) (recV u).1) ({ c₀ with mode:=(recV u).2 }::cs) w) :
  (Code.region id (⟨some d,.call { callee:=.builtin .recover,args:=#[],argTypes:=tys },t,pos,af,none⟩::rest).toArray false).wpSIn F n P Q a (c₀::cs) w:=by
 refine wpSIn_region ?_
 rw [show (⟨some d,.call { callee:=.builtin .recover,args:=#[],argTypes:=tys },t,pos,af,none⟩::rest:List Oper).toArray.size=rest.length+1 by simp]
 have hr:List.range (rest.length+1)=0::(List.range (rest.length+1)).drop 1:=by
  rw [List.range_succ_eq_map];rfl
 rw [hr]
 unfold wpOpsSIn
 simp only [List.getElem?_toArray,List.getElem?_cons_zero]
 refine ⟨fun f _=>hF f,?_⟩
 rw [if_pos (wanted_none _ rfl _),recover_run]
 dsimp only
 rcases recoverD_eq (cs:=cs) hu with ⟨v,cs',h1,rfl,rfl⟩|⟨h1,h2,h3⟩
 ·rw [h1];exact h
 ·rw [h1];rw [h2,h3] at h;exact h
end rc
def inD (C:Cu) (fn:Func) (K:Out):Post:=fun x ds e fs=>ds=[]∧match x with
 |.ret=>∃ vs,ResL C e fs fn.results.toList vs∧K (.returned (tup vs)) fs
 |.normal=>∃ vs,ResL C e fs fn.results.toList vs∧K (.returned (tup vs)) fs
 |.panic ch=>K (.panicked ch) fs
 |_=>False
theorem inDI {fn:Func} {K:Out} {x:Exit} {rs:List ResultVar} (hx:x=.ret∨x=.normal) (hr:fn.results.toList=rs) (h:ResL C e fs rs vs) (hv:tup vs=v) (hK:K (.returned v) fs):inD C fn K x [] e fs:=by
 subst hv
 subst hr
 rcases hx with rfl|rfl
 ·exact ⟨rfl,vs,h,hK⟩
 ·exact ⟨rfl,vs,h,hK⟩
def Rec1 (P:Program) (c1:Code) (N:Nat) (e0 e1:Env) (u:FrameMode):Prop:=∀ (Q:Exit→Act→List Frame→World→Prop) (n:Nat) (a:Act) (c₀:Frame) (cs:List Frame) (w:World),c₀.mode=u→EnvOk N [] e0 a→(∀ a',EnvOk N [] e1 a'→Q .normal a' ({ c₀ with mode:=(recV u).2 }::cs) w)→c1.wpSIn (FR none) n P Q a (c₀::cs) w
theorem Rec1.one {P:Program} {id N:Nat} {e0:Env} {t:TypeId} {pos:String} {af:Array Edge} {tys:Array TypeId} {u:FrameMode} (hd:Nat.blt d N=true) :
  Rec1 P (.region id #[⟨some d,.call { callee:=.builtin .recover,args:=#[],argTypes:=tys },t,pos,af,none⟩] false) N e0 ((d,(recV u).1)::e0) u :=
 fun Q n a c₀ cs w hu ha h=>wpSIn_recover (rest:=[]) (fun _=>trivial) hu (h _ (ha.put hd))
theorem callsD_cw {w0:World} {S:List Nat} {fn:Func} {c1 rest:Code} {args:List Value} {N:Nat} {K:Out} {fs:Fs} {w:World} {u:FrameMode} (e1:Env) (hf:P.funcs[f]?=some fn) (hb:fn.body=some (.seq c1 rest)) (hN:fn.ntmps=N) (hsz:Nat.ble args.length N=true)
  (h1:Rec1 P c1 N (Env.ofL args 0) e1 u) (h:CW ⟨P,w0,S,N,[],none⟩ rest (inD ⟨P,w0,S,N,[],none⟩ fn K) e1 fs) (hw:St w0 S fs w) :
  CallsDIn (FR none) 0 P f args.toArray u w (fun e u' w'=>u'=(recV u).2∧∃ fs',K e fs'∧St w0 S fs' w'):=by
 have ha:EnvOk N [] (Env.ofL args 0) { tmps:=args.toArray++Array.replicate (fn.ntmps - args.toArray.size) undef,defers:=[] }:=by
  refine ⟨by have:=Nat.le_of_ble_eq_true hsz;simp [hN];omega,rfl,fun t v ht=>?_⟩
  exact dTAFZD
 refine callsDIn_of_wpSIn hf hb trivial fun c₀ cs hu=>?_
 refine wpSIn_seq (h1 _ 0 _ c₀ cs w hu ha fun a' ha'=>?_)
 show rest.wpSIn (FR none) 0 P _ a' _ w
 refine wpSIn_of_wpIn rfl ?_
 refine Code.wpIn_mono (fun x a2 w2 h'=>?_) (h a' w ⟨ha',hw⟩)
 obtain ⟨ds,e,fs2,⟨rfl,hq⟩,s⟩:=h'
 have hd:a2.defers=[]:=s.env.dfr
 have hm:({ c₀ with mode:=(recV u).2 }::cs:List Frame)={ c₀ with mode:=(recV u).2 }::cs:=rfl
 have key:∀ vs,ResL ⟨P,w0,S,N,[],none⟩ e fs2 fn.results.toList vs→K (.returned (tup vs)) fs2→(a2.defers=[]∧∃ u',({ c₀ with mode:=(recV u).2 }::cs:List Frame)={ c₀ with mode:=u' }::cs∧∃ v,(results fn a2.tmps).run P w2=.ok v w2∧(u'=(recV u).2∧∃ fs',K (.returned v) fs'∧St w0 S fs' w2)):=fun vs hr hK =>
  ⟨hd,_,rfl,tup vs,ResL.run hr s,rfl,fs2,hK,s.st⟩
 cases x with
 |ret=>obtain ⟨vs,hr,hK⟩:=hq;exact key vs hr hK
 |normal=>obtain ⟨vs,hr,hK⟩:=hq;exact key vs hr hK
 |panic ch=>exact ⟨hd,_,rfl,rfl,fs2,hq,s.st⟩
 |_=>exact hq.elim
abbrev clo (f:FuncId) (cap:Array Value):Deferred:={ target:=.fn (.func f) cap,args:=#[] }
def outD (C:Cu) (fn:Func) (dd:Deferred) (R:Ending→World→Prop):Post:=fun x ds e fs=>ds=[dd]∧match x with
 |.ret=>∀ a w,Sat (C.at [dd]) e fs a w→LeavesInM (FR none) 0 C.P fn a.tmps R [dd] .returning w
 |.normal=>∀ a w,Sat (C.at [dd]) e fs a w→LeavesInM (FR none) 0 C.P fn a.tmps R [dd] .returning w
 |.panic ch=>∀ a w,Sat (C.at [dd]) e fs a w→LeavesInM (FR none) 0 C.P fn a.tmps R [dd] (.panicking ch) w
 |_=>False
theorem calls_inlineD {w0:World} {S:List Nat} {fn:Func} {c:Code} {args:List Value} {N:Nat} {R:Ending→World→Prop} {fs:Fs} {w:World} (hf:P.funcs[f]?=some fn) (hb:fn.body=some c) (hN:fn.ntmps=N) (hsz:Nat.ble args.length N=true)
  (h:CW ⟨P,w0,S,N,[],none⟩ c (fun x ds e fs=>∃ dd,outD ⟨P,w0,S,N,[],none⟩ fn dd R x ds e fs) (Env.ofL args 0) fs) (hw:St w0 S fs w):Calls P f args.toArray w R:=by
 have hs:Sat ⟨P,w0,S,N,[],none⟩ (Env.ofL args 0) fs { tmps:=args.toArray++Array.replicate (fn.ntmps - args.toArray.size) undef,defers:=[] } w:=by
  refine ⟨⟨by have:=Nat.le_of_ble_eq_true hsz;simp [hN];omega,rfl,fun t v ht=>?_⟩,hw⟩
  exact dTAFZD
 refine (callsIn_wide (n:=0)).1 (callsIn_of_wp_marks (F:=FR none) hf hb trivial ?_)
 refine Code.wpIn_mono (fun x a w' h'=>?_) (h _ w hs)
 obtain ⟨ds,e,fs1,⟨dd,rfl,hq⟩,s⟩:=h'
 have hd:a.defers=[dd]:=s.env.dfr
 cases x with
 |ret=>show LeavesInM (FR none) 0 P fn a.tmps R a.defers .returning w';rw [hd];exact hq a w' s
 |normal=>show LeavesInM (FR none) 0 P fn a.tmps R a.defers .returning w';rw [hd];exact hq a w' s
 |panic ch=>show LeavesInM (FR none) 0 P fn a.tmps R a.defers (.panicking ch) w';rw [hd];exact hq a w' s
 |_=>exact hq.elim
theorem leaves_clo {w0:World} {S:List Nat} {fn:Func} {tmps:Array Value} {R:Ending→World→Prop} {cap:Array Value} {K:Out} {u:FrameMode} {w:World} (hF:FnI P f) (hu:u ≠ .run)
  (hc:CallsDIn (FR none) 0 P f cap u w (fun e u' w'=>u'=(recV u).2∧∃ fs',K e fs'∧St w0 S fs' w'))
  (hK:K.plain) (hret:∀ v fs' w',K (.returned v) fs'→St w0 S fs' w'→LeavesIn (FR none) 0 P fn tmps R [] (settle (recV u).2) w')
  (hpan:∀ ch fs' w',K (.panicked ch) fs'→St w0 S fs' w'→LeavesIn (FR none) 0 P fn tmps R [] (raised (recV u).2 ch) w'):LeavesInM (FR none) 0 P fn tmps R [clo f cap] u w:=by
 refine ⟨hu,.inr ⟨(fun h=>by cases h),.func f,cap,f,cap,rfl,?_,(fun _ _=>trivial),?_⟩⟩
 ·have:=hF.run cap w
  simpa [invoke] using this
 ·refine CallsDIn.mono hc fun e u' w' ⟨hu',fs',hk,hst⟩=>?_
  subst hu'
  cases e with
  |returned v=>exact hret v fs' w' hk hst
  |panicked ch=>exact hpan ch fs' w' hk hst
  |outgrown=>exact absurd hk (hK fs')
end
section
section iv
variable {P : Program} {e : Env} {T ty : TypeId} {x y : Operand}
theorem ValP.mkIface (hc:P.concrete T=true) (hx:e.ev x=some v):ValP P e [] (.makeInterface T x) (.iface T v):=fun ρ w hρ _ d t pos af g=>by
 simp [execOp,hρ x v hx,run_makeInterface w T v hc]
theorem run_assertHit {X:TypeId} (hc:P.concrete T=true) (w:World):(Instr.typeAssert (.iface T v) X T true).run P w=.ok (.tuple #[v,.bool true]) w:=by
 unfold Program.concrete at hc
 cases hd:P.underlying T with
 |none=>simp [hd] at hc
 |some d=>cases d<;>first|(simp [hd] at hc;done)|simp [Instr.typeAssert,run_underlying hd]
theorem ValP.assertHit {X:TypeId} (hc:P.concrete T=true) (hx:e.ev x=some (.iface T v)):ValP P e [] (.typeAssert x X T true) (.tuple #[v,.bool true]):=fun ρ w hρ _ d t pos af g=>by
 simp [execOp,hρ x _ hx,run_assertHit hc]
theorem ValP.eqNilT {U:TypeId} (hI:P.underlying T=some (.interface (P.methodsAt T))) (hx:e.ev x=some .nilIface):ValP P e [] (.binOp .eql T x (.const .nilIface) ty) (.bool true) :=
 .bin hx rfl (fun w=>by rw [Go.eqGuard_nil_constR];rfl) fun w=>by
  simp only [binOp,Sem.run_bind,run_equal_nil_nil w T hI];rfl
theorem ValP.eqNilF {U:TypeId} (hI:P.underlying T=some (.interface (P.methodsAt T))) (hx:e.ev x=some (.iface U v)):ValP P e [] (.binOp .eql T x (.const .nilIface) ty) (.bool false) :=
 .bin hx rfl (fun w=>by first|rfl|(unfold eqGuard;rfl)) fun w=>by
  simp only [binOp,Sem.run_bind,run_equal_held_nil w T U v hI];rfl
end iv
end
section
section mm
variable {P : Program} {e : Env} {x y : Operand} {tys : Array TypeId} {m n : Nat} {ik : IntKind}
theorem ValP.maxD (hx:e.ev x=some (.int ik ((m:Int) - (n:Int)))) (hy:e.ev y=some (.int ik 0)):ValP P e [] (.call { callee:=.builtin .max,args:=#[x,y],argTypes:=tys }) (.int ik ((m - n:Nat):Int)):=fun ρ w hρ _ d t pos af g=>by
 have h:(if (0:Int) > (m:Int) - (n:Int) then (0:Int) else (m:Int) - (n:Int))=((m - n:Nat):Int):=by split<;>omega
 have h2:=run_max_int2 (P:=P) (w:=w) tys t ik ik ((m:Int) - (n:Int)) 0
 rw [h] at h2
 simp [execOp,resolve,invoke,builtin,hρ x _ hx,hρ y _ hy,h2]
end mm
end
end Go.Proofs.YtdeggbkbblfpoaaGreatDoor.SL
namespace Go.Proofs.YtdeggbkbblfpoaaGreatDoor
open Go Go.RowKit
section
open Go Go.RowKit SL
abbrev zA := @PartsOk.cons
abbrev zB := @PartsOk.nil
abbrev zC := @WantT.none
abbrev zD := @ResL.cons
abbrev zF := @ResL.nil
abbrev zG := @Res.tmp
abbrev zH := @Res.cell
abbrev zI := @CW.seq
abbrev zJ := @CW.skip
abbrev zK := @CW.ret
abbrev zL := @CW.region
abbrev zM := @CW.block
abbrev zN := @ancB_nil
abbrev zO := @TRead.tail
abbrev zP := @TRead.head
abbrev zQ := @TRead.app
abbrev zR := @LW.store
abbrev zS := @LW.callE
abbrev zT := @LW.boxA
abbrev zU := @LW.allocA
abbrev zV := @LW.nil
abbrev zW := @ValP.buildT
abbrev zX := @FsAt.tail
abbrev zY := @FsAt.head
abbrev zZ := @FsAt.app
abbrev qA := @SetAt.head
abbrev qE := @SetAt.tail
abbrev qF := @SetAt.app
abbrev qG := @DW.loadO
abbrev qH := @Known.at
abbrev qI := @Rd.whole
abbrev qJ := @AtSeg.head
abbrev qK := @AtSeg.cons
abbrev qL := @AtSeg.app
abbrev qM := @CW.loop
abbrev qN := @LW.v0
abbrev qO := @LW.callSt
abbrev qP := @LW.callP
abbrev qQ := @TSet.tail
abbrev qR := @TSet.head
abbrev qS := @ReadAll.nil
abbrev qT := @ArgsOk.nil
abbrev qU := @Wr.cells
abbrev qV := @LW.perm
abbrev qX := @calls_inlineP
abbrev qY := @AnyW.anyM
abbrev qZ := @LW.append
abbrev jA := @List.setIfInBounds_toArray
abbrev jB := @List.getElem?_cons_zero
abbrev jC := @List.getElem?_cons_succ
abbrev jD := @List.toList_toArray
abbrev jE := @List.set_cons_zero
abbrev jF := @List.set_cons_succ
abbrev jG := @List.Sublist.refl
abbrev jH := @Nat.zero_add
abbrev jI := @List.mem_cons_of_mem
abbrev jJ := @List.sublist_append_left
abbrev jK := @List.Sublist.cons
abbrev jL := @List.Sublist.append_left
abbrev jM := @Nat.lt_or_ge
abbrev jN := @List.sublist_append_right
abbrev jO := @List.getElem?_eq_getElem
abbrev jP := @List.Sublist.cons_cons
abbrev jQ := @List.nil_append
abbrev jR := @List.append_assoc
abbrev jS := @List.sublist_append_of_sublist_right
abbrev jT := @List.mem_append_right
abbrev jU := @List.getD_eq_getElem?_getD
abbrev jV := @List.mem_cons_self
abbrev jW := @List.Mem.head
abbrev jX := @List.Mem.tail
abbrev jY := @Nat.mod_eq_of_lt
abbrev jZ := @Option.some.inj
abbrev yA := @List.cons_append
abbrev yB := @Nat.eq_zero_or_pos
abbrev yC := @List.length_append
abbrev yD := @Nat.le_refl
abbrev yE := @Nat.mul_one
abbrev yG := @List.mem_append_left
abbrev yH := @List.length_take
abbrev yI := @List.take_of_length_le
abbrev yJ := @List.flatMap_cons
abbrev yK := @List.length_cons
abbrev yL := @List.length_drop
abbrev yM := @List.append_nil
abbrev yN := @List.getElem?_eq_none
abbrev yO := @Nat.div_div_eq_div_mul
abbrev yP := @Nat.le_of_ble_eq_true
abbrev yQ := @Bool.and_eq_true
abbrev yR := @Nat.lt_of_le_of_lt
abbrev yS := @Nat.mod_lt
abbrev yT := @Nat.zero_le
abbrev yU := @Nat.pow_le_pow_right
abbrev yV := @Nat.pow_add
abbrev yW := @List.drop_zero
abbrev yX := @List.perm_middle
abbrev yY := @Int.toNat_natCast
abbrev yZ := @Nat.mul_comm
abbrev vA := @decide_eq_false
abbrev vE := @decide_eq_true
abbrev vF := @inferInstance
abbrev vG := @Calls.mono
end
namespace SL
section cut
variable {P : Program} {e : Env} {T E : TypeId} {x lo hi : Operand} {p : Option Addr} {n c : Nat}
theorem ValP.cutMid {il ik:IntKind} {i j sz:Nat} {z:Value} (hU:UnI P T (.slice E)) (hI:InfoI P E sz z) (hx:e.ev x=some (.slice p n c)) (hl:e.ev lo=some (.int il (i:Int))) (hh:e.ev hi=some (.int ik (j:Int))) (hij:i≤j) (hj:j≤c):ValP P e [] (.slice T x (some lo) (some hi) none) (cutAt p i j c sz):=fun ρ w hρ _ d t pos af g=>by
 have hu:P.underlying T=some (.slice E):=hU.un
 have h1:=run_slice_lh (P:=P) w T p n c (elem_un hu) il ik (i:Int) (j:Int) (by omega) (by omega) (by omega)
 rw [elem_eq hu,run_size] at h1
 have h2:(Instr.sliceAt T (.slice p n c) (some (.int il (i:Int))) (some (.int ik (j:Int))) none).run P w=.ok (cutAt p i j c sz) w:=by
  rw [run_sliceAt_slice (w:=w) T _ _ _ _ (elem_un hu),h1]
  simp only [Result.andThen_ok,sliced,yY,cutAt]
 simp [execOp,hρ x _ hx,hρ lo _ hl,hρ hi _ hh,h2]
end cut
theorem RowAt.mid {w:World} {sz n c i j:Nat} {p:Option Addr} {xs:List Value} (h:RowAt w sz (.slice p n c) n xs) (hij:i≤j) (hj:j≤n):RowAt w sz (cutAt p i j c sz) (j - i) ((xs.drop (i * sz)).take ((j - i) * sz)):=by
 have:=(h.take hj).drop hij
 rwa [List.drop_take,← Nat.sub_mul] at this
theorem RowAt.midU {w:World} {c i j:Nat} {p:Option Addr} {l:List UInt8} (h:RowAt w 1 (.slice p l.length c) l.length (ucs l)) (hij:i≤j) (hj:j≤l.length):RowAt w 1 (cutAt p i j c 1) ((l.drop i).take (j - i)).length (ucs ((l.drop i).take (j - i))):=by
 have:=h.mid hij hj
 rw [ucs_drop,ucs_take] at this
 rwa [show ((l.drop i).take (j - i)).length=j - i by rw [yH,yL];omega]
section xb
variable {P : Program} {e : Env} {T ty : TypeId} {x y : Operand} {m n : Nat}
end xb
end SL
end Go.Proofs.YtdeggbkbblfpoaaGreatDoor
namespace Go.Proofs.YtdeggbkbblfpoaaGreatDoor
open Go Go.RowKit SL
instance:AgI Tryz.prog 3 false:=⟨by kernel_rfl⟩
instance:UnI Tryz.prog 3 (.int .i64):=⟨by kernel_rfl⟩
instance:InfoI Tryz.prog 3 1 (.int .i64 0):=⟨by kernel_rfl⟩
instance:BytI Tryz.prog 3 8:=⟨by kernel_rfl⟩
instance:AgI Tryz.prog 4 false:=⟨by kernel_rfl⟩
instance:UnI Tryz.prog 4 (.bool):=⟨by kernel_rfl⟩
instance:InfoI Tryz.prog 4 1 (.bool false):=⟨by kernel_rfl⟩
instance:AgI Tryz.prog 5 false:=⟨by kernel_rfl⟩
instance:UnI Tryz.prog 5 (.int .u8):=⟨by kernel_rfl⟩
instance:InfoI Tryz.prog 5 1 (.int .u8 0):=⟨by kernel_rfl⟩
instance:BytI Tryz.prog 5 1:=⟨by kernel_rfl⟩
instance:UnI Tryz.prog 9 (.string):=⟨by kernel_rfl⟩
instance:AgI Tryz.prog 22 false:=⟨by kernel_rfl⟩
instance:UnI Tryz.prog 22 (.slice 5):=⟨by kernel_rfl⟩
instance:InfoI Tryz.prog 22 1 (.slice none 0 0):=⟨by kernel_rfl⟩
instance:AgI Tryz.prog 23 false:=⟨by kernel_rfl⟩
instance:UnI Tryz.prog 23 (.slice 29):=⟨by kernel_rfl⟩
instance:InfoI Tryz.prog 23 1 (.slice none 0 0):=⟨by kernel_rfl⟩
instance:AgI Tryz.prog 25 true:=⟨by kernel_rfl⟩
instance:InfoI Tryz.prog 25 2 (.agg #[.slice none 0 0,.slice none 0 0]):=⟨by kernel_rfl⟩
instance:StrI Tryz.prog 25 [(0,1),(1,1)]:=⟨by kernel_rfl⟩
instance:FldI Tryz.prog 25 0 0 23:=.mk' (by kernel_rfl)
instance:FldI Tryz.prog 25 1 1 22:=.mk' (by kernel_rfl)
instance:AgI Tryz.prog 26 false:=⟨by kernel_rfl⟩
instance:UnI Tryz.prog 26 (.int .u64):=⟨by kernel_rfl⟩
instance:InfoI Tryz.prog 26 1 (.int .u64 0):=⟨by kernel_rfl⟩
instance:AgI Tryz.prog 27 false:=⟨by kernel_rfl⟩
instance:InfoI Tryz.prog 27 1 (.int .u64 0):=⟨by kernel_rfl⟩
instance:AgI Tryz.prog 29 true:=⟨by kernel_rfl⟩
instance:UnI Tryz.prog 29 (.array 4 26):=⟨by kernel_rfl⟩
instance:InfoI Tryz.prog 29 4 (.agg #[.int .u64 0,.int .u64 0,.int .u64 0,.int .u64 0]):=⟨by kernel_rfl⟩
instance:BytI Tryz.prog 29 32:=⟨by kernel_rfl⟩
instance:EqI Tryz.prog 29 4 .u64:=.mk' (by kernel_rfl)
instance:AgI Tryz.prog 31 true:=⟨by kernel_rfl⟩
instance:InfoI Tryz.prog 31 14 (.agg #[.slice none 0 0,.int .i64 0,.slice none 0 0,.slice none 0 0,.int .u64 0,.int .u64 0,.int .u64 0,.int .u64 0,.int .u64 0,.int .u64 0,.int .u64 0,.slice none 0 0,.slice none 0 0,.bool false]):=⟨by kernel_rfl⟩
instance:StrI Tryz.prog 31 [(0,1),(1,1),(2,2),(4,1),(5,1),(6,1),(7,4),(11,1),(12,1),(13,1)]:=⟨by kernel_rfl⟩
instance:FldI Tryz.prog 31 0 0 22:=.mk' (by kernel_rfl)
instance:FldI Tryz.prog 31 1 1 3:=.mk' (by kernel_rfl)
instance:FldI Tryz.prog 31 2 2 25:=.mk' (by kernel_rfl)
instance:FldI Tryz.prog 31 3 4 26:=.mk' (by kernel_rfl)
instance:FldI Tryz.prog 31 4 5 27:=.mk' (by kernel_rfl)
instance:FldI Tryz.prog 31 5 6 27:=.mk' (by kernel_rfl)
instance:FldI Tryz.prog 31 6 7 29:=.mk' (by kernel_rfl)
instance:FldI Tryz.prog 31 7 11 22:=.mk' (by kernel_rfl)
instance:FldI Tryz.prog 31 8 12 22:=.mk' (by kernel_rfl)
instance:FldI Tryz.prog 31 9 13 4:=.mk' (by kernel_rfl)
instance:AgI Tryz.prog 33 true:=⟨by kernel_rfl⟩
instance:InfoI Tryz.prog 33 4 (.agg #[.int .u64 0,.int .u64 0,.int .u64 0,.int .u64 0]):=⟨by kernel_rfl⟩
instance:StrI Tryz.prog 33 [(0,1),(1,1),(2,1),(3,1)]:=⟨by kernel_rfl⟩
instance:FldI Tryz.prog 33 0 0 27:=.mk' (by kernel_rfl)
instance:FldI Tryz.prog 33 1 1 26:=.mk' (by kernel_rfl)
instance:FldI Tryz.prog 33 2 2 26:=.mk' (by kernel_rfl)
instance:FldI Tryz.prog 33 3 3 26:=.mk' (by kernel_rfl)
instance:AgI Tryz.prog 37 true:=⟨by kernel_rfl⟩
instance:InfoI Tryz.prog 37 4 (.agg #[.int .i64 0,.int .u8 0,.slice none 0 0,.slice none 0 0]):=⟨by kernel_rfl⟩
instance:StrI Tryz.prog 37 [(0,1),(1,1),(2,1),(3,1)]:=⟨by kernel_rfl⟩
instance:FldI Tryz.prog 37 0 0 3:=.mk' (by kernel_rfl)
instance:FldI Tryz.prog 37 1 1 5:=.mk' (by kernel_rfl)
instance:FldI Tryz.prog 37 2 2 23:=.mk' (by kernel_rfl)
instance:FldI Tryz.prog 37 3 3 22:=.mk' (by kernel_rfl)
instance:InfoI Tryz.prog 53 1 (.nilFunc):=⟨by kernel_rfl⟩
instance:UnI Tryz.prog 71 (.int .u64):=⟨by kernel_rfl⟩
instance:AgI Tryz.prog 74 false:=⟨by kernel_rfl⟩
instance:InfoI Tryz.prog 74 1 (.pointer none):=⟨by kernel_rfl⟩
instance:InfoI Tryz.prog 78 23 (.agg #[.slice none 0 0,.int .i64 0,.slice none 0 0,.slice none 0 0,.int .u64 0,.int .u64 0,.int .u64 0,.int .u64 0,.int .u64 0,.int .u64 0,.int .u64 0,.slice none 0 0,.slice none 0 0,.bool false,.int .u64 0,.int .u64 0,.int .u64 0,.int .u64 0,.slice none 0 0,.int .i64 0,.int .u8 0,.slice none 0 0,.slice none 0 0]):=⟨by kernel_rfl⟩
instance:StrI Tryz.prog 78 [(0,14),(14,4),(18,1),(19,4)]:=⟨by kernel_rfl⟩
instance:FldI Tryz.prog 78 0 0 31:=.mk' (by kernel_rfl)
instance:FldI Tryz.prog 78 1 14 33:=.mk' (by kernel_rfl)
instance:FldI Tryz.prog 78 2 18 23:=.mk' (by kernel_rfl)
instance:FldI Tryz.prog 78 3 19 37:=.mk' (by kernel_rfl)
instance:AgI Tryz.prog 86 true:=⟨by kernel_rfl⟩
instance:InfoI Tryz.prog 86 5 (.agg #[.int .u8 0,.string ⟨#[]⟩,.int .i64 0,.int .i64 0,.int .i64 0]):=⟨by kernel_rfl⟩
instance:StrI Tryz.prog 86 [(0,1),(1,1),(2,1),(3,1),(4,1)]:=⟨by kernel_rfl⟩
instance:FldI Tryz.prog 86 0 0 5:=.mk' (by kernel_rfl)
instance:FldI Tryz.prog 86 2 2 3:=.mk' (by kernel_rfl)
instance:FldI Tryz.prog 86 3 3 3:=.mk' (by kernel_rfl)
instance:FldI Tryz.prog 86 4 4 3:=.mk' (by kernel_rfl)
instance:InfoI Tryz.prog 92 15 (.agg #[.slice none 0 0,.int .i64 0,.slice none 0 0,.slice none 0 0,.int .u64 0,.int .u64 0,.int .u64 0,.int .u64 0,.int .u64 0,.int .u64 0,.int .u64 0,.slice none 0 0,.slice none 0 0,.bool false,.bool false]):=⟨by kernel_rfl⟩
instance:StrI Tryz.prog 92 [(0,14),(14,1)]:=⟨by kernel_rfl⟩
instance:FldI Tryz.prog 92 0 0 31:=.mk' (by kernel_rfl)
instance:FldI Tryz.prog 92 1 14 4:=.mk' (by kernel_rfl)
instance:UnI Tryz.prog 100 (.slice 22):=⟨by kernel_rfl⟩
instance:UnI Tryz.prog 103 (.array 8 26):=⟨by kernel_rfl⟩
instance:InfoI Tryz.prog 103 8 (.agg #[.int .u64 0,.int .u64 0,.int .u64 0,.int .u64 0,.int .u64 0,.int .u64 0,.int .u64 0,.int .u64 0]):=⟨by kernel_rfl⟩
instance:UnI Tryz.prog 106 (.slice 26):=⟨by kernel_rfl⟩
instance:AgI Tryz.prog 116 false:=⟨by kernel_rfl⟩
instance:InfoI Tryz.prog 116 1 (.nilFunc):=⟨by kernel_rfl⟩
instance:InfoI Tryz.prog 126 0 (.agg #[]):=⟨by kernel_rfl⟩
instance:StrI Tryz.prog 126 []:=⟨by kernel_rfl⟩
instance:UnI Tryz.prog 134 (.map 5 53):=⟨by kernel_rfl⟩
instance:InfoI Tryz.prog 136 1 (.nilFunc):=⟨by kernel_rfl⟩
instance:UnI Tryz.prog 138 (.map 5 136):=⟨by kernel_rfl⟩
instance:UnI Tryz.prog 142 (.map 5 116):=⟨by kernel_rfl⟩
instance:UnI Tryz.prog 148 (.slice 86):=⟨by kernel_rfl⟩
instance:UnI Tryz.prog 165 (.map 5 26):=⟨by kernel_rfl⟩
instance:AgI Tryz.prog 176 false:=⟨by kernel_rfl⟩
instance:UnI Tryz.prog 176 (.slice 3):=⟨by kernel_rfl⟩
instance:InfoI Tryz.prog 176 1 (.slice none 0 0):=⟨by kernel_rfl⟩
instance:UnI Tryz.prog 182 (.array 50 86):=⟨by kernel_rfl⟩
instance:InfoI Tryz.prog 182 250 (.agg #[.int .u8 0,.string ⟨#[]⟩,.int .i64 0,.int .i64 0,.int .i64 0,.int .u8 0,.string ⟨#[]⟩,.int .i64 0,.int .i64 0,.int .i64 0,.int .u8 0,.string ⟨#[]⟩,.int .i64 0,.int .i64 0,.int .i64 0,.int .u8 0,.string ⟨#[]⟩,.int .i64 0,.int .i64 0,.int .i64 0,.int .u8 0,.string ⟨#[]⟩,.int .i64 0,.int .i64 0,.int .i64 0,.int .u8 0,.string ⟨#[]⟩,.int .i64 0,.int .i64 0,.int .i64 0,.int .u8 0,.string ⟨#[]⟩,.int .i64 0,.int .i64 0,.int .i64 0,.int .u8 0,.string ⟨#[]⟩,.int .i64 0,.int .i64 0,.int .i64 0,.int .u8 0,.string ⟨#[]⟩,.int .i64 0,.int .i64 0,.int .i64 0,.int .u8 0,.string ⟨#[]⟩,.int .i64 0,.int .i64 0,.int .i64 0,.int .u8 0,.string ⟨#[]⟩,.int .i64 0,.int .i64 0,.int .i64 0,.int .u8 0,.string ⟨#[]⟩,.int .i64 0,.int .i64 0,.int .i64 0,.int .u8 0,.string ⟨#[]⟩,.int .i64 0,.int .i64 0,.int .i64 0,.int .u8 0,.string ⟨#[]⟩,.int .i64 0,.int .i64 0,.int .i64 0,.int .u8 0,.string ⟨#[]⟩,.int .i64 0,.int .i64 0,.int .i64 0,.int .u8 0,.string ⟨#[]⟩,.int .i64 0,.int .i64 0,.int .i64 0,.int .u8 0,.string ⟨#[]⟩,.int .i64 0,.int .i64 0,.int .i64 0,.int .u8 0,.string ⟨#[]⟩,.int .i64 0,.int .i64 0,.int .i64 0,.int .u8 0,.string ⟨#[]⟩,.int .i64 0,.int .i64 0,.int .i64 0,.int .u8 0,.string ⟨#[]⟩,.int .i64 0,.int .i64 0,.int .i64 0,.int .u8 0,.string ⟨#[]⟩,.int .i64 0,.int .i64 0,.int .i64 0,.int .u8 0,.string ⟨#[]⟩,.int .i64 0,.int .i64 0,.int .i64 0,.int .u8 0,.string ⟨#[]⟩,.int .i64 0,.int .i64 0,.int .i64 0,.int .u8 0,.string ⟨#[]⟩,.int .i64 0,.int .i64 0,.int .i64 0,.int .u8 0,.string ⟨#[]⟩,.int .i64 0,.int .i64 0,.int .i64 0,.int .u8 0,.string ⟨#[]⟩,.int .i64 0,.int .i64 0,.int .i64 0,.int .u8 0,.string ⟨#[]⟩,.int .i64 0,.int .i64 0,.int .i64 0,.int .u8 0,.string ⟨#[]⟩,.int .i64 0,.int .i64 0,.int .i64 0,.int .u8 0,.string ⟨#[]⟩,.int .i64 0,.int .i64 0,.int .i64 0,.int .u8 0,.string ⟨#[]⟩,.int .i64 0,.int .i64 0,.int .i64 0,.int .u8 0,.string ⟨#[]⟩,.int .i64 0,.int .i64 0,.int .i64 0,.int .u8 0,.string ⟨#[]⟩,.int .i64 0,.int .i64 0,.int .i64 0,.int .u8 0,.string ⟨#[]⟩,.int .i64 0,.int .i64 0,.int .i64 0,.int .u8 0,.string ⟨#[]⟩,.int .i64 0,.int .i64 0,.int .i64 0,.int .u8 0,.string ⟨#[]⟩,.int .i64 0,.int .i64 0,.int .i64 0,.int .u8 0,.string ⟨#[]⟩,.int .i64 0,.int .i64 0,.int .i64 0,.int .u8 0,.string ⟨#[]⟩,.int .i64 0,.int .i64 0,.int .i64 0,.int .u8 0,.string ⟨#[]⟩,.int .i64 0,.int .i64 0,.int .i64 0,.int .u8 0,.string ⟨#[]⟩,.int .i64 0,.int .i64 0,.int .i64 0,.int .u8 0,.string ⟨#[]⟩,.int .i64 0,.int .i64 0,.int .i64 0,.int .u8 0,.string ⟨#[]⟩,.int .i64 0,.int .i64 0,.int .i64 0,.int .u8 0,.string ⟨#[]⟩,.int .i64 0,.int .i64 0,.int .i64 0,.int .u8 0,.string ⟨#[]⟩,.int .i64 0,.int .i64 0,.int .i64 0,.int .u8 0,.string ⟨#[]⟩,.int .i64 0,.int .i64 0,.int .i64 0,.int .u8 0,.string ⟨#[]⟩,.int .i64 0,.int .i64 0,.int .i64 0,.int .u8 0,.string ⟨#[]⟩,.int .i64 0,.int .i64 0,.int .i64 0,.int .u8 0,.string ⟨#[]⟩,.int .i64 0,.int .i64 0,.int .i64 0,.int .u8 0,.string ⟨#[]⟩,.int .i64 0,.int .i64 0,.int .i64 0,.int .u8 0,.string ⟨#[]⟩,.int .i64 0,.int .i64 0,.int .i64 0,.int .u8 0,.string ⟨#[]⟩,.int .i64 0,.int .i64 0,.int .i64 0]):=⟨by kernel_rfl⟩
instance:AgI Tryz.prog 196 true:=⟨by kernel_rfl⟩
instance:UnI Tryz.prog 196 (.array 32 5):=⟨by kernel_rfl⟩
instance:InfoI Tryz.prog 196 32 (.agg #[.int .u8 0,.int .u8 0,.int .u8 0,.int .u8 0,.int .u8 0,.int .u8 0,.int .u8 0,.int .u8 0,.int .u8 0,.int .u8 0,.int .u8 0,.int .u8 0,.int .u8 0,.int .u8 0,.int .u8 0,.int .u8 0,.int .u8 0,.int .u8 0,.int .u8 0,.int .u8 0,.int .u8 0,.int .u8 0,.int .u8 0,.int .u8 0,.int .u8 0,.int .u8 0,.int .u8 0,.int .u8 0,.int .u8 0,.int .u8 0,.int .u8 0,.int .u8 0]):=⟨by kernel_rfl⟩
instance:AgI Tryz.prog 208 true:=⟨by kernel_rfl⟩
instance:UnI Tryz.prog 208 (.array 25 26):=⟨by kernel_rfl⟩
instance:InfoI Tryz.prog 208 25 (.agg #[.int .u64 0,.int .u64 0,.int .u64 0,.int .u64 0,.int .u64 0,.int .u64 0,.int .u64 0,.int .u64 0,.int .u64 0,.int .u64 0,.int .u64 0,.int .u64 0,.int .u64 0,.int .u64 0,.int .u64 0,.int .u64 0,.int .u64 0,.int .u64 0,.int .u64 0,.int .u64 0,.int .u64 0,.int .u64 0,.int .u64 0,.int .u64 0,.int .u64 0]):=⟨by kernel_rfl⟩
instance:AgI Tryz.prog 222 true:=⟨by kernel_rfl⟩
instance:UnI Tryz.prog 222 (.array 24 26):=⟨by kernel_rfl⟩
instance:InfoI Tryz.prog 222 24 (.agg #[.int .u64 0,.int .u64 0,.int .u64 0,.int .u64 0,.int .u64 0,.int .u64 0,.int .u64 0,.int .u64 0,.int .u64 0,.int .u64 0,.int .u64 0,.int .u64 0,.int .u64 0,.int .u64 0,.int .u64 0,.int .u64 0,.int .u64 0,.int .u64 0,.int .u64 0,.int .u64 0,.int .u64 0,.int .u64 0,.int .u64 0,.int .u64 0]):=⟨by kernel_rfl⟩
instance:UnI Tryz.prog 231 (.array 5 26):=⟨by kernel_rfl⟩
instance:InfoI Tryz.prog 231 5 (.agg #[.int .u64 0,.int .u64 0,.int .u64 0,.int .u64 0,.int .u64 0]):=⟨by kernel_rfl⟩
instance:UnI Tryz.prog 238 (.array 25 3):=⟨by kernel_rfl⟩
instance:FnI Tryz.prog 8:=.mk' Tryz.func8
instance:FnI Tryz.prog 9:=.mk' Tryz.func9
instance:FnI Tryz.prog 10:=.mk' Tryz.func10
instance:FnI Tryz.prog 11:=.mk' Tryz.func11
instance:FnI Tryz.prog 12:=.mk' Tryz.func12
instance:FnI Tryz.prog 13:=.mk' Tryz.func13
instance:FnI Tryz.prog 14:=.mk' Tryz.func14
instance:FnI Tryz.prog 15:=.mk' Tryz.func15
instance:FnI Tryz.prog 17:=.mk' Tryz.func17
instance:FnI Tryz.prog 18:=.mk' Tryz.func18
instance:FnI Tryz.prog 19:=.mk' Tryz.func19
instance:FnI Tryz.prog 20:=.mk' Tryz.func20
instance:FnI Tryz.prog 21:=.mk' Tryz.func21
instance:FnI Tryz.prog 22:=.mk' Tryz.func22
instance:FnI Tryz.prog 23:=.mk' Tryz.func23
instance:FnI Tryz.prog 24:=.mk' Tryz.func24
instance:FnI Tryz.prog 25:=.mk' Tryz.func25
instance:FnI Tryz.prog 27:=.mk' Tryz.func27
instance:FnI Tryz.prog 28:=.mk' Tryz.func28
instance:FnI Tryz.prog 31:=.mk' Tryz.func31
instance:FnI Tryz.prog 32:=.mk' Tryz.func32
instance:FnI Tryz.prog 34:=.mk' Tryz.func34
instance:FnI Tryz.prog 35:=.mk' Tryz.func35
instance:FnI Tryz.prog 39:=.mk' Tryz.func39
instance:FnI Tryz.prog 40:=.mk' Tryz.func40
instance:FnI Tryz.prog 41:=.mk' Tryz.func41
instance:FnI Tryz.prog 42:=.mk' Tryz.func42
instance:FnI Tryz.prog 43:=.mk' Tryz.func43
instance:FnI Tryz.prog 44:=.mk' Tryz.func44
instance:FnI Tryz.prog 45:=.mk' Tryz.func45
instance:FnI Tryz.prog 46:=.mk' Tryz.func46
instance:FnI Tryz.prog 47:=.mk' Tryz.func47
instance:FnI Tryz.prog 48:=.mk' Tryz.func48
instance:FnI Tryz.prog 49:=.mk' Tryz.func49
instance:FnI Tryz.prog 50:=.mk' Tryz.func50
instance:FnI Tryz.prog 51:=.mk' Tryz.func51
instance:FnI Tryz.prog 52:=.mk' Tryz.func52
instance:FnI Tryz.prog 53:=.mk' Tryz.func53
instance:FnI Tryz.prog 54:=.mk' Tryz.func54
instance:FnI Tryz.prog 55:=.mk' Tryz.func55
instance:FnI Tryz.prog 56:=.mk' Tryz.func56
instance:FnI Tryz.prog 57:=.mk' Tryz.func57
instance:FnI Tryz.prog 58:=.mk' Tryz.func58
instance:FnI Tryz.prog 59:=.mk' Tryz.func59
instance:FnI Tryz.prog 60:=.mk' Tryz.func60
instance:FnI Tryz.prog 63:=.mk' Tryz.func63
instance:FnI Tryz.prog 64:=.mk' Tryz.func64
instance:FnI Tryz.prog 65:=.mk' Tryz.func65
instance:FnI Tryz.prog 66:=.mk' Tryz.func66
instance:FnI Tryz.prog 67:=.mk' Tryz.func67
instance:FnI Tryz.prog 68:=.mk' Tryz.func68
instance:FnI Tryz.prog 69:=.mk' Tryz.func69
instance:FnI Tryz.prog 70:=.mk' Tryz.func70
instance:FnI Tryz.prog 71:=.mk' Tryz.func71
instance:FnI Tryz.prog 72:=.mk' Tryz.func72
instance:FnI Tryz.prog 73:=.mk' Tryz.func73
instance:FnI Tryz.prog 74:=.mk' Tryz.func74
instance:FnI Tryz.prog 75:=.mk' Tryz.func75
instance:FnI Tryz.prog 77:=.mk' Tryz.func77
instance:FnI Tryz.prog 78:=.mk' Tryz.func78
instance:FnI Tryz.prog 79:=.mk' Tryz.func79
instance:FnI Tryz.prog 80:=.mk' Tryz.func80
instance:FnI Tryz.prog 81:=.mk' Tryz.func81
instance:FnI Tryz.prog 82:=.mk' Tryz.func82
instance:FnI Tryz.prog 83:=.mk' Tryz.func83
instance:FnI Tryz.prog 84:=.mk' Tryz.func84
instance:FnI Tryz.prog 85:=.mk' Tryz.func85
instance:FnI Tryz.prog 89:=.mk' Tryz.func89
instance:FnI Tryz.prog 90:=.mk' Tryz.func90
instance:FnI Tryz.prog 91:=.mk' Tryz.func91
instance:FnI Tryz.prog 92:=.mk' Tryz.func92
instance:FnI Tryz.prog 93:=.mk' Tryz.func93
instance:FnI Tryz.prog 94:=.mk' Tryz.func94
instance:FnI Tryz.prog 95:=.mk' Tryz.func95
instance:FnI Tryz.prog 96:=.mk' Tryz.func96
instance:FnI Tryz.prog 97:=.mk' Tryz.func97
instance:FnI Tryz.prog 98:=.mk' Tryz.func98
instance:FnI Tryz.prog 99:=.mk' Tryz.func99
instance:FnI Tryz.prog 100:=.mk' Tryz.func100
instance:FnI Tryz.prog 101:=.mk' Tryz.func101
instance:FnI Tryz.prog 102:=.mk' Tryz.func102
instance:FnI Tryz.prog 103:=.mk' Tryz.func103
instance:FnI Tryz.prog 104:=.mk' Tryz.func104
instance:FnI Tryz.prog 105:=.mk' Tryz.func105
instance:FnI Tryz.prog 106:=.mk' Tryz.func106
instance:FnI Tryz.prog 107:=.mk' Tryz.func107
instance:FnI Tryz.prog 108:=.mk' Tryz.func108
instance:FnI Tryz.prog 109:=.mk' Tryz.func109
instance:FnI Tryz.prog 110:=.mk' Tryz.func110
instance:FnI Tryz.prog 111:=.mk' Tryz.func111
instance:FnI Tryz.prog 112:=.mk' Tryz.func112
instance:FnI Tryz.prog 113:=.mk' Tryz.func113
instance:FnI Tryz.prog 114:=.mk' Tryz.func114
instance:FnI Tryz.prog 115:=.mk' Tryz.func115
instance:FnI Tryz.prog 116:=.mk' Tryz.func116
instance:FnI Tryz.prog 117:=.mk' Tryz.func117
instance:FnI Tryz.prog 118:=.mk' Tryz.func118
instance:FnI Tryz.prog 119:=.mk' Tryz.func119
instance:FnI Tryz.prog 120:=.mk' Tryz.func120
instance:FnI Tryz.prog 121:=.mk' Tryz.func121
instance:FnI Tryz.prog 122:=.mk' Tryz.func122
instance:FnI Tryz.prog 123:=.mk' Tryz.func123
instance:FnI Tryz.prog 124:=.mk' Tryz.func124
instance:FnI Tryz.prog 126:=.mk' Tryz.func126
instance:FnI Tryz.prog 127:=.mk' Tryz.func127
instance:FnI Tryz.prog 128:=.mk' Tryz.func128
instance:FnI Tryz.prog 129:=.mk' Tryz.func129
instance:FnI Tryz.prog 130:=.mk' Tryz.func130
instance:FnI Tryz.prog 131:=.mk' Tryz.func131
instance:FnI Tryz.prog 132:=.mk' Tryz.func132
instance:FnI Tryz.prog 133:=.mk' Tryz.func133
instance:FnI Tryz.prog 134:=.mk' Tryz.func134
instance:FnI Tryz.prog 135:=.mk' Tryz.func135
instance:FnI Tryz.prog 136:=.mk' Tryz.func136
instance:FnI Tryz.prog 137:=.mk' Tryz.func137
instance:FnI Tryz.prog 138:=.mk' Tryz.func138
instance:FnI Tryz.prog 139:=.mk' Tryz.func139
instance:FnI Tryz.prog 140:=.mk' Tryz.func140
instance:FnI Tryz.prog 141:=.mk' Tryz.func141
instance:FnI Tryz.prog 142:=.mk' Tryz.func142
instance:FnI Tryz.prog 143:=.mk' Tryz.func143
instance:FnI Tryz.prog 144:=.mk' Tryz.func144
instance:FnI Tryz.prog 145:=.mk' Tryz.func145
instance:FnI Tryz.prog 146:=.mk' Tryz.func146
instance:FnI Tryz.prog 147:=.mk' Tryz.func147
instance:FnI Tryz.prog 148:=.mk' Tryz.func148
instance:FnI Tryz.prog 149:=.mk' Tryz.func149
instance:FnI Tryz.prog 150:=.mk' Tryz.func150
instance:FnI Tryz.prog 151:=.mk' Tryz.func151
instance:FnI Tryz.prog 152:=.mk' Tryz.func152
instance:FnI Tryz.prog 153:=.mk' Tryz.func153
instance:FnI Tryz.prog 154:=.mk' Tryz.func154
instance:FnI Tryz.prog 155:=.mk' Tryz.func155
instance:FnI Tryz.prog 156:=.mk' Tryz.func156
instance:FnI Tryz.prog 157:=.mk' Tryz.func157
instance:FnI Tryz.prog 158:=.mk' Tryz.func158
instance:FnI Tryz.prog 159:=.mk' Tryz.func159
instance:FnI Tryz.prog 160:=.mk' Tryz.func160
instance:FnI Tryz.prog 161:=.mk' Tryz.func161
instance:FnI Tryz.prog 162:=.mk' Tryz.func162
instance:FnI Tryz.prog 163:=.mk' Tryz.func163
instance:FnI Tryz.prog 164:=.mk' Tryz.func164
instance:FnI Tryz.prog 165:=.mk' Tryz.func165
instance:FnI Tryz.prog 166:=.mk' Tryz.func166
instance:FnI Tryz.prog 167:=.mk' Tryz.func167
instance:FnI Tryz.prog 168:=.mk' Tryz.func168
instance:FnI Tryz.prog 169:=.mk' Tryz.func169
instance:FnI Tryz.prog 170:=.mk' Tryz.func170
instance:FnI Tryz.prog 171:=.mk' Tryz.func171
instance:FnI Tryz.prog 172:=.mk' Tryz.func172
instance:FnI Tryz.prog 173:=.mk' Tryz.func173
instance:FnI Tryz.prog 174:=.mk' Tryz.func174
instance:FnI Tryz.prog 175:=.mk' Tryz.func175
instance:FnI Tryz.prog 176:=.mk' Tryz.func176
instance:FnI Tryz.prog 177:=.mk' Tryz.func177
instance:FnI Tryz.prog 178:=.mk' Tryz.func178
instance:FnI Tryz.prog 179:=.mk' Tryz.func179
instance:FnI Tryz.prog 180:=.mk' Tryz.func180
instance:FnI Tryz.prog 181:=.mk' Tryz.func181
instance:FnI Tryz.prog 182:=.mk' Tryz.func182
instance:FnI Tryz.prog 183:=.mk' Tryz.func183
instance:FnI Tryz.prog 184:=.mk' Tryz.func184
instance:FnI Tryz.prog 185:=.mk' Tryz.func185
instance:FnI Tryz.prog 186:=.mk' Tryz.func186
instance:FnI Tryz.prog 187:=.mk' Tryz.func187
instance:FnI Tryz.prog 188:=.mk' Tryz.func188
instance:FnI Tryz.prog 189:=.mk' Tryz.func189
instance:FnI Tryz.prog 190:=.mk' Tryz.func190
instance:FnI Tryz.prog 191:=.mk' Tryz.func191
instance:FnI Tryz.prog 192:=.mk' Tryz.func192
instance:FnI Tryz.prog 193:=.mk' Tryz.func193
instance:FnI Tryz.prog 194:=.mk' Tryz.func194
instance:FnI Tryz.prog 195:=.mk' Tryz.func195
instance:FnI Tryz.prog 196:=.mk' Tryz.func196
instance:FnI Tryz.prog 197:=.mk' Tryz.func197
instance:FnI Tryz.prog 198:=.mk' Tryz.func198
instance:FnI Tryz.prog 199:=.mk' Tryz.func199
instance:FnI Tryz.prog 200:=.mk' Tryz.func200
instance:FnI Tryz.prog 201:=.mk' Tryz.func201
instance:FnI Tryz.prog 202:=.mk' Tryz.func202
instance:FnI Tryz.prog 203:=.mk' Tryz.func203
instance:FnI Tryz.prog 204:=.mk' Tryz.func204
instance:FnI Tryz.prog 205:=.mk' Tryz.func205
instance:FnI Tryz.prog 206:=.mk' Tryz.func206
instance:FnI Tryz.prog 207:=.mk' Tryz.func207
instance:FnI Tryz.prog 208:=.mk' Tryz.func208
instance:FnI Tryz.prog 209:=.mk' Tryz.func209
instance:FnI Tryz.prog 210:=.mk' Tryz.func210
instance:FnI Tryz.prog 211:=.mk' Tryz.func211
instance:FnI Tryz.prog 212:=.mk' Tryz.func212
instance:FnI Tryz.prog 213:=.mk' Tryz.func213
instance:FnI Tryz.prog 214:=.mk' Tryz.func214
instance:FnI Tryz.prog 215:=.mk' Tryz.func215
instance:FnI Tryz.prog 216:=.mk' Tryz.func216
instance:FnI Tryz.prog 217:=.mk' Tryz.func217
instance:FnI Tryz.prog 218:=.mk' Tryz.func218
instance:FnI Tryz.prog 219:=.mk' Tryz.func219
instance:FnI Tryz.prog 220:=.mk' Tryz.func220
instance:FnI Tryz.prog 221:=.mk' Tryz.func221
instance:FnI Tryz.prog 222:=.mk' Tryz.func222
instance:FnI Tryz.prog 223:=.mk' Tryz.func223
instance:FnI Tryz.prog 224:=.mk' Tryz.func224
instance:FnI Tryz.prog 225:=.mk' Tryz.func225
instance:FnI Tryz.prog 226:=.mk' Tryz.func226
instance:FnI Tryz.prog 227:=.mk' Tryz.func227
instance:FnI Tryz.prog 228:=.mk' Tryz.func228
instance:FnI Tryz.prog 229:=.mk' Tryz.func229
instance:FnI Tryz.prog 230:=.mk' Tryz.func230
instance:FnI Tryz.prog 231:=.mk' Tryz.func231
instance:FnI Tryz.prog 232:=.mk' Tryz.func232
instance:FnI Tryz.prog 233:=.mk' Tryz.func233
instance:FnI Tryz.prog 234:=.mk' Tryz.func234
instance:FnI Tryz.prog 235:=.mk' Tryz.func235
instance:FnI Tryz.prog 236:=.mk' Tryz.func236
instance:FnI Tryz.prog 237:=.mk' Tryz.func237
instance:FnI Tryz.prog 238:=.mk' Tryz.func238
instance:FnI Tryz.prog 242:=.mk' Tryz.func242
instance:FnI Tryz.prog 243:=.mk' Tryz.func243
instance:FnI Tryz.prog 244:=.mk' Tryz.func244
instance:FnI Tryz.prog 245:=.mk' Tryz.func245
instance:FnI Tryz.prog 246:=.mk' Tryz.func246
instance:FnI Tryz.prog 252:=.mk' Tryz.func252
instance:FnI Tryz.prog 253:=.mk' Tryz.func253
instance:FnI Tryz.prog 254:=.mk' Tryz.func254
instance:FnI Tryz.prog 257:=.mk' Tryz.func257
instance:FnI Tryz.prog 258:=.mk' Tryz.func258
instance:FnI Tryz.prog 259:=.mk' Tryz.func259
instance:FnI Tryz.prog 260:=.mk' Tryz.func260
instance:FnI Tryz.prog 261:=.mk' Tryz.func261
theorem mixed:Tryz.prog.follows .mixedOrders=true:=by kernel_rfl
end Go.Proofs.YtdeggbkbblfpoaaGreatDoor
namespace Go.Proofs.YtdeggbkbblfpoaaGreatDoor.SL
open Go Go.RowKit
set_option linter.unusedVariables false
set_option linter.unusedSimpArgs false
variable {v z : Value} {fs fs' seg : Fs} {b off sz i id j size d n : Nat} {e : Env} {T E t : TypeId} {w w0 : World} {x fo y : Operand} {C : Cu} {Q Q' : Post} {tys : Array TypeId} {P : Program} {φ : Facts} {o o' : Obj} {vs xs : List Value} {f : FuncId} {ts' ts : Ts} {ops : Array Oper} {ds : List Deferred} {ik : IntKind} {args : Array Operand} {fr : Nat × Nat} {M : Rel1} {af : Array Edge} {rest : List Oper} {a : Act} {S : List Nat}
section
section mm
variable {P : Program} {e : Env} {ik : IntKind} {m n k l : Nat} {x y z u : Operand} {tys : Array TypeId}
end mm
section gc
variable {C : Cu} {ops : Array Oper} {Q : Post} {rest : List Oper} {e : Env} {fs : Fs} {d : Nat} {op : Op} {t : TypeId} {pos : String} {af : Array Edge} {j s : Nat} {b : Bool} {p : Prop} [Decidable p]
theorem LW.guardCT (hs:(ops[j]?).bind (·.dst)=some s) (he:e.get s=some (.bool b)) (hd:Nat.blt d C.N=true) (h1:b=true→LW C ops Q (⟨some d,op,t,pos,af,none⟩::rest) e fs) (h2:b=false→LW C ops Q rest ((d,undef)::e) fs) :
  LW C ops Q (⟨some d,op,t,pos,af,some (j,true)⟩::rest) e fs:=by
 cases b with
 |true=>exact LW.guardT hs he (h1 rfl)
 |false=>exact LW.guardF hs he hd (h2 rfl)
theorem LW.guardCF (hs:(ops[j]?).bind (·.dst)=some s) (he:e.get s=some (.bool b)) (hd:Nat.blt d C.N=true) (h1:b=false→LW C ops Q (⟨some d,op,t,pos,af,none⟩::rest) e fs) (h2:b=true→LW C ops Q rest ((d,undef)::e) fs) :
  LW C ops Q (⟨some d,op,t,pos,af,some (j,false)⟩::rest) e fs:=by
 cases b with
 |true=>exact LW.guardF hs he hd (h2 rfl)
 |false=>exact LW.guardT hs he (h1 rfl)
theorem LW.guardDT (hs:(ops[j]?).bind (·.dst)=some s) (he:e.get s=some (.bool (decide p))) (hd:Nat.blt d C.N=true) (h1:p→decide p=true→LW C ops Q (⟨some d,op,t,pos,af,none⟩::rest) e fs) (h2:¬ p→decide p=false→LW C ops Q rest ((d,undef)::e) fs) :
  LW C ops Q (⟨some d,op,t,pos,af,some (j,true)⟩::rest) e fs :=
 LW.guardCT hs he hd (fun h=>h1 (of_decide_eq_true h) h) (fun h=>h2 (of_decide_eq_false h) h)
theorem LW.guardDF (hs:(ops[j]?).bind (·.dst)=some s) (he:e.get s=some (.bool (decide p))) (hd:Nat.blt d C.N=true) (h1:¬ p→decide p=false→LW C ops Q (⟨some d,op,t,pos,af,none⟩::rest) e fs) (h2:p→decide p=true→LW C ops Q rest ((d,undef)::e) fs) :
  LW C ops Q (⟨some d,op,t,pos,af,some (j,false)⟩::rest) e fs :=
 LW.guardCF hs he hd (fun h=>h1 (of_decide_eq_false h) h) (fun h=>h2 (of_decide_eq_true h) h)
variable {c : Operand} {x y : Code}
theorem CW.condD (hc:e.ev c=some (.bool (decide p))) (ht:p→decide p=true→CW C x Q e fs) (hf:¬ p→decide p=false→CW C y Q e fs):CW C (.cond c x y) Q e fs :=
 CW.cond hc (fun h=>ht (of_decide_eq_true h) h) (fun h=>hf (of_decide_eq_false h) h)
theorem CW.condN (hc:e.ev c=some (.bool (!decide p))) (ht:¬ p→(!decide p)=true→CW C x Q e fs) (hf:p→(!decide p)=false→CW C y Q e fs):CW C (.cond c x y) Q e fs :=
 CW.cond hc (fun h=>ht (by simpa using h) h) (fun h=>hf (by simpa using h) h)
theorem getB {k:Nat} {b b':Bool} (h:e.get k=some (.bool b)) (hb:b=b'):e.get k=some (.bool b'):=by rw [h,hb]
end gc
end
section
section dw
variable {C : Cu} {ops : Array Oper} {Q : Post} {tl rest : List Oper} {e : Env} {ts : Ts} {μ : Mu} {k d : Nat} {t : TypeId} {pos : String} {af : Array Edge} {g : Option (Nat × Bool)}
theorem DW.moveX {o:Oper} {bl:List Nat} {M:Facts→Value→Fs→Prop} {seg us2 us3:Fs} {ws rs:List Nat} {ts1 ts2:Ts} (hk:ops[k]?=some o) (hdst:o.dst=some d) (hd:Nat.blt d C.N=true)
  (htch0:∀ a,EnvOk C.N C.ds e a→tch (exs (μ k)) ops o a=keys seg++bl) (hmv0:∀ a,EnvOk C.N C.ds e a→mvE (flg (μ k)) ops o a=keys seg) (hout:TOut ops k ts seg ws rs ts1) (hra:ReadAll C ops k bl ts1 us2 ts2) (hown:∀ p∈us3,∃ ws rs,(p.1,p.2,ws,rs)∈ts1)
  (hcl:∀ a φ,EnvOk C.N C.ds e a→(∀ q∈seg,φ q.1=some q.2∧(C.w0.heap.size≤q.1∨q.1∈C.S))→seg.Pairwise (fun p q=>p.1 ≠ q.1)→(∀ w,C.cx.on φ bl w→∀ p∈us2,w.heap[p.1]?=some p.2)→(∀ p∈us3,φ p.1=some p.2)→CanMk C.cx ops (μ k) φ o a (M φ))
  (kk:∀ φ v' seg',(∀ p∈us3,φ p.1=some p.2)→M φ v' seg'→DW C ops μ Q tl rest (k+1) ((d,v')::e) (tsTag (k::ws) (k::rs) seg'++ts2)) :
  DW C ops μ Q tl (o::rest) k e ts:=by
 intro a φ tw tr ha hrel hinv
 obtain ⟨hperm,hws,hrs⟩:=hout.spec
 have htch:=htch0 a ha
 have hmvE:=hmv0 a ha
 have hin:∀ q∈seg,(q.1,q.2,ws,rs)∈ts:=fun q hq=>hperm.subset (yG _ (List.mem_map.2 ⟨q,hq,rfl⟩))
 have hsub:∀ p∈ts1,p∈ts:=fun p hp=>hperm.subset (jT _ hp)
 have hnd:(tsTag ws rs seg++ts1).Pairwise fun p q=>p.1 ≠ q.1:=hperm.symm.pairwise hrel.nd (fun h e=>h e.symm)
 obtain ⟨nd1,nd2,nd3⟩:=List.pairwise_append.1 hnd
 have hdis:∀ q∈seg,∀ p∈ts1,p.1 ≠ q.1:=fun q hq p hp e=>nd3 (q.1,q.2,ws,rs) (List.mem_map.2 ⟨q,hq,rfl⟩) p hp e.symm
 have hks:∀ b∈keys seg,∃ q∈seg,q.1=b:=fun b hb=>by obtain ⟨q,hq,he⟩:=List.mem_map.1 hb;exact ⟨q,hq,he⟩
 have hφs:∀ q∈seg,φ q.1=some q.2:=fun q hq=>hrel.fsome _ (hin q hq)
 have hrel1:Rel C.w0.heap.size ts1 φ tw (addT tr (keys seg) k):=by
  exact dTAZWr
 obtain ⟨i1,i2,i3⟩:=hra.rel hinv hrel1
 have hts2:∀ p∈ts2,∀ q∈seg,p.1 ≠ q.1:=fun p hp q hq=>by
  obtain ⟨p',hp',he⟩:=mem_fst hra.fsts hp
  rw [← he];exact hdis q hq p' hp'
 have hφ3:∀ p∈us3,φ p.1=some p.2:=fun p hp=>by
  obtain ⟨ws',rs',h⟩:=hown p hp
  exact hrel1.fsome _ h
 unfold walk dOp
 simp only [hk]
 rw [htch,hmvE]
 refine ⟨fun b hb=>?_,.inr ⟨M φ,hcl a φ ha (fun q hq=>⟨hφs q hq,hinv q.1 (by rw [hφs q hq];simp)⟩) ?_ (fun w hon=>i3 w hon) hφ3,fun b hb j hj=>?_,fun v' gs hM hf _=>?_⟩⟩
 ·exact dTAAAr
 ·have:=nd1
  simp only [tsTag,List.pairwise_map] at this
  exact this
 ·obtain ⟨q,hq,rfl⟩:=hks _ hb
  exact ancB_spec hrs j (hrel.ftr _ (hin q hq) j hj)
 ·have hfk:∀ b∈keys gs,(φ b=none∧C.w0.heap.size≤b)∨b∈keys seg:=fun b hb=>(hf.1 b hb).2
  have hk2:∀ p∈ts2,p.1 ∉ keys gs:=fun p hp hk'=>by
   exact dTAfzl
  have hup:=upds_in (φ:=φ) hf.2
  have hg:∀ p∈tsTag (k::ws) (k::rs) gs,∃ q∈gs,p=(q.1,q.2,k::ws,k::rs):=fun p hp=>by
   obtain ⟨q,hq,rfl⟩:=List.mem_map.1 hp;exact ⟨q,hq,rfl⟩
  rw [hdst]
  refine kk φ v' gs hφ3 hM _ _ _ _ (ha.put hd) ⟨fun p hp=>?_,fun p hp j hj=>?_,fun p hp j hj=>?_,fun x hx j hj=>?_,fun x hx hB j hj=>?_,?_⟩ (inv_upds hinv (fun b hb=>(hf.1 b hb).1))
  ·exact dTAOfE
  ·rcases List.mem_append.1 hp with hp|hp
   ·obtain ⟨q,hq,rfl⟩:=hg p hp
    rcases hj with hj|⟨rfl,_⟩
    ·rcases hfk q.1 (List.mem_map.2 ⟨q,hq,rfl⟩) with h|h
     ·exact absurd hj (hrel.old _ h.1 j)
     ·obtain ⟨q',hq',he⟩:=hks _ h
      exact jI _ (hrel.ftw _ (hin q' hq') j (by rw [he];exact hj))
    ·exact jV
   ·rcases hj with hj|⟨_,hj⟩
    ·exact i1.ftw p hp j hj
    ·rcases List.mem_append.1 hj with hj|hj
     ·obtain ⟨q,hq,he⟩:=hks _ hj
      exact absurd he.symm (hts2 p hp q hq)
     ·exact absurd hj (hk2 p hp)
  ·rcases List.mem_append.1 hp with hp|hp
   ·obtain ⟨q,hq,rfl⟩:=hg p hp
    rcases hj with hj|⟨rfl,_⟩
    ·rcases hfk q.1 (List.mem_map.2 ⟨q,hq,rfl⟩) with h|h
     ·exact absurd hj (hrel.oldr _ h.1 h.2 j)
     ·obtain ⟨q',hq',he⟩:=hks _ h
      exact jI _ (hrel.ftr _ (hin q' hq') j (by rw [he];exact hj))
    ·exact jV
   ·exact i1.ftr p hp j (by rw [← addT_app];exact hj)
  ·exact dTAiXX
  ·exact dTAUcZ
  ·exact dTAWoQ
theorem DW.appendX {s x:Operand} {tys:Array TypeId} {v vx:Value} {R:Rel2} {seg us us3:Fs} {ws rs:List Nat} {ts1 ts2:Ts} 
  (hk:ops[k]?=some ⟨some d,.call { callee:=.builtin .append,args:=#[s,x],argTypes:=tys },t,pos,af,g⟩) (hm:μ k=some (R,(false:Fl))) (hd:Nat.blt d C.N=true) (hg:WantT ops e g)
  (hs:e.ev s=some v) (hx:e.ev x=some vx) (hvk:blocksN 4 v=keys seg∧blocksN 1 v=keys seg) (hout:TOut ops k ts seg ws rs ts1) (hrd:RdV C ops k [vx] ts1 us ts2) (hown:∀ p∈us3,(∃ ws rs,(p.1,p.2,ws,rs)∈ts1)∧p.1∈blocksN 4 vx)
  (hrun:∀ w,St C.w0 C.S seg w→(∀ p∈us,w.heap[p.1]?=some p.2)→∃ v' seg' w',(Builtin.append_ tys t #[v,vx]).run C.P w=.ok v' w'∧(∀ ψ:Facts,(∀ p∈us3,ψ p.1=some p.2)→R [v,vx] ψ v' seg')∧St C.w0 C.S seg' w'∧w.heap.size≤w'.heap.size∧(∀ b,b < w.heap.size→b ∉ seg'.map (·.1)→w'.heap[b]?=w.heap[b]?)∧(∀ q∈seg',w.heap.size≤q.1∨q.1∈seg.map (·.1)))
  (kk:∀ ψ v' seg',(∀ p∈us3,ψ p.1=some p.2)→R [v,vx] ψ v' seg'→DW C ops μ Q tl rest (k+1) ((d,v')::e) (tsTag (k::ws) (k::rs) seg'++ts2)) :
  DW C ops μ Q tl (⟨some d,.call { callee:=.builtin .append,args:=#[s,x],argTypes:=tys },t,pos,af,g⟩::rest) k e ts:=by
 obtain ⟨us2,hra,hus⟩:=hrd.all
 have hra:ReadAll C ops k (blocksN 4 vx) ts1 us2 ts2:=by simpa using hra
 have hmvB:∀ a:Act,EnvOk C.N C.ds e a→mvB false ⟨some d,.call { callee:=.builtin .append,args:=#[s,x],argTypes:=tys },t,pos,af,g⟩ a.eval=blocksN 1 v:=fun a ha=>by
  exact dTAIMn
 have hr3:∀ φ:Facts,(∀ p∈us3,φ p.1=some p.2)→∀ p∈us3,rst φ (keys seg++blocksN 4 vx) p.1=some p.2:=fun φ h p hp=>by rw [rst_in φ (jT _ (hown p hp).2)];exact h p hp
 refine DW.moveX (us3:=us3) (M:=fun φ=>R [v,vx] (rst φ (keys seg++blocksN 4 vx))) hk rfl hd (fun a ha=>?_) (fun a ha=>?_) hout hra (fun p hp=>(hown p hp).1) (fun a φ ha hseg hnd hus3 hφ3=>?_) (fun φ v' seg' h3 hM=>kk _ v' seg' (hr3 φ h3) hM)
 ·exact dTAZab
 ·exact dTAcHg
 ·have hw:=WantT.wanted (o:=⟨some d,.call { callee:=.builtin .append,args:=#[s,x],argTypes:=tys },t,pos,af,g⟩) hg ha
  have hes:=ha.Ev s v hs
  have hex:=ha.Ev x vx hx
  have htch:touch ⟨some d,.call { callee:=.builtin .append,args:=#[s,x],argTypes:=tys },t,pos,af,g⟩ a.eval=keys seg++blocksN 4 vx:=by
   exact dTABXp
  have hvo:valsOf ⟨some d,.call { callee:=.builtin .append,args:=#[s,x],argTypes:=tys },t,pos,af,g⟩ a.eval=[v,vx]:=by
   show ((#[]++#[s,x]:Array Operand).toList.map fun y=>a.eval y)=_
   simp [hes,hex]
  refine ⟨hw,.inr ⟨⟨R,by rw [hm];rfl,by rw [hvo,htch]⟩,.inr fun w hon=>?_⟩⟩
  rw [htch] at hon
  have hst:St C.w0 C.S seg w:=⟨hon.1,fun q hq=>⟨(hseg q hq).2,hon.2 q.1 (yG _ (List.mem_map.2 ⟨q,hq,rfl⟩)) _ (hseg q hq).1⟩,hnd⟩
  obtain ⟨v',seg',w',hr,hM,hst',g1,g2,g3⟩:=hrun w hst (fun p hp=>hus3 w ⟨hon.1,fun y hy o ho=>hon.2 y (jT _ hy) o ho⟩ p (hus p hp))
  refine ⟨v',seg',w',?_,hM _ (hr3 φ hφ3),hst'.bel,g1,g2,fun q hq=>⟨(hst'.own q hq).2,?_,?_⟩,hst'.nd⟩
  ·exact dTAyZm
  ·exact (hst'.own q hq).1
  ·rw [hm,show mvB (flg (some (R,false))) _ _=keys seg from (hmvB a ha).trans hvk.2];exact g3 q hq
end dw
def muS (l:List (Nat × Rel2)):Mu:=fun k=>(l.find? fun p=>Nat.beq p.1 k).map fun p=>(p.2,false)
theorem AnyW.anyS {id:Nat} {l:List Oper} (ms:List (Nat × Rel2)) (n:Nat) (hm:C.P.follows .mixedOrders=true) (hB:headB l.toArray n=true) (h:DW C l.toArray (muS ms) Q (l.drop n) (l.take n) 0 e (tsOf fs)) :
  AnyW C id l Q e fs:=CW.any (muS ms) n (fun j x h=>by rw [show exs (muS ms j)=[] from by unfold muS;cases (ms.find? fun p=>Nat.beq p.1 j)<;>rfl] at h;cases h) hm hB h
end
section
section
variable {P : Program} {e : Env} {T ty : TypeId} {x y : Operand} {xs : Array Value}
end
end
section
def QW (C:Cu) (ops:Array Oper) (Q:Post) (l:List Oper) (e:Env) (fs:Fs):Prop :=
 ∀ a,EnvOk C.N C.ds e a→wpQuietIn (FR C.r) 0 C.P ops (fun w=>St C.w0 C.S fs w) (fun a'=>∀ w',St C.w0 C.S fs w'→down C Q .normal a' w') l a
theorem CW.quiet {l:List Oper} (hr:C.r=none) (hm:C.P.follows .mixedOrders=true) (hB:Region.lexB .any l.toArray=true) (h:QW C l.toArray Q l e fs):CW C (.region id l.toArray true) Q e fs:=fun a w hs =>
 wpIn_region_quiet (C:=fun w=>St C.w0 C.S fs w) hr hm hB ⟨hs.st.bel.drew,hs.st.own,hs.st.nd⟩ (by simpa using h a hs.env)
section
variable {C : Cu} {ops : Array Oper} {Q : Post} {rest : List Oper} {e : Env} {fs : Fs} {d : Nat} {op : Op} {t : TypeId} {pos : String} {af : Array Edge} {g : Option (Nat × Bool)}
theorem QW.nil (h:Q .normal C.ds e fs):QW C ops Q [] e fs:=fun a ha w' hw=>⟨C.ds,e,fs,h,⟨ha,hw⟩⟩
theorem QW.vk {us:Fs} (hd:Nat.blt d C.N=true) (hg:WantT ops e g) (h:ValP C.P e us op v) (hus:∀ p∈us,Known C fs p) (k:QW C ops Q rest ((d,v)::e) fs):QW C ops Q (⟨some d,op,t,pos,af,g⟩::rest) e fs:=fun a ha =>
 ⟨fun _ _ _ _=>trivial,by
  rw [if_pos (hg.wanted ha)]
  refine ⟨v,fun w hw=>?_,k _ (ha.put hd)⟩
  unfold Oper.quietAtIn
  rw [h a.eval w ha.Ev (fun p hp=>(hus p hp).get hw)]
  exact ⟨rfl,rfl⟩⟩
theorem QW.v0 (hd:Nat.blt d C.N=true) (hg:WantT ops e g) (h:ValP C.P e [] op v) (k:QW C ops Q rest ((d,v)::e) fs):QW C ops Q (⟨some d,op,t,pos,af,g⟩::rest) e fs :=
 QW.vk hd hg h (by simp) k
theorem QW.load (hd:Nat.blt d C.N=true) (hg:WantT ops e g) (hx:e.ev x=some (.pointer (some ⟨b,off,none⟩))) (hp:Known C fs (b,o)) (h:Rd C.P T o off v) (k:QW C ops Q rest ((d,v)::e) fs) :
  QW C ops Q (⟨some d,.load T x,t,pos,af,g⟩::rest) e fs:=QW.vk hd hg (.load hx h) (by simpa using hp) k
theorem QW.skip {s:Nat} {gb b:Bool} (hd:Nat.blt d C.N=true) (hs:(ops[j]?).bind (·.dst)=some s) (he:e.get s=some (.bool b)) (hb:b=!gb) (k:QW C ops Q rest ((d,undef)::e) fs):QW C ops Q (⟨some d,op,t,pos,af,some (j,gb)⟩::rest) e fs:=fun a ha =>
 ⟨fun _ _ _ _=>trivial,by
  have hy:yielded ops a.tmps j=some (!gb):=by simp [yielded,hs,ha.get s _ he,hb]
  rw [if_neg (by cases gb<;>simp [Region.wanted,hy])]
  exact k _ (ha.put hd)⟩
theorem QW.skipU {s:Nat} {gb:Bool} (hd:Nat.blt d C.N=true) (hs:(ops[j]?).bind (·.dst)=some s) (he:e.get s=some undef) (k:QW C ops Q rest ((d,undef)::e) fs):QW C ops Q (⟨some d,op,t,pos,af,some (j,gb)⟩::rest) e fs:=fun a ha =>
 ⟨fun _ _ _ _=>trivial,by
  have hy:yielded ops a.tmps j=none:=by simp [yielded,hs,ha.get s _ he,undef]
  rw [if_neg (by simp [Region.wanted,hy])]
  exact k _ (ha.put hd)⟩
theorem QW.callE {tys:Array TypeId} {v:Value} (hd:Nat.blt d C.N=true) (hg:WantT ops e g) (hf:e.ev fo=some (.func (.func f) #[] #[])) (hF:FnI C.P f) (ha:ArgsOk e args.toList vs)
  (hc:∀ w,St C.w0 C.S fs w→Calls C.P f vs.toArray w (Ret w v)) (k:QW C ops Q rest ((d,v)::e) fs):QW C ops Q (⟨some d,.call { callee:=.value fo,args:=args,argTypes:=tys },t,pos,af,g⟩::rest) e fs:=fun a hae =>
 ⟨fun _ _ _ _=>trivial,by
  rw [if_pos (hg.wanted hae)]
  refine ⟨v,fun w hw=>?_,k _ (hae.put hd)⟩
  unfold Oper.quietAtIn
  have hrun:=CallP.fn (P:=C.P) (tys:=tys) hf ha a.eval w hae.Ev (some d) t pos af g
  rw [hrun,arr_id]
  refine ⟨rfl,fun h=>(by cases h),CallsIn.mono (calls_FR (hc w hw)) fun x w' hx=>?_⟩
  exact ⟨hx.1,by have:=hw.call (gs:=[]) hx.2 (by simp) .nil;simpa using this⟩⟩
end
end
section
theorem dTAlpx {P:Prop} (h:P:=by
 obtain ⟨b,off,c,cs,E',fr,rfl,hb1,hx1⟩:=hA.pos hm0
 obtain ⟨v',seg',w',hr,hrow',hst',g1,g2,g3⟩:=row_append0 (P:=C.P) (ty:=t) (a0:=a0) hU.un q1 q3 q2 hz hst ⟨b,off,none⟩ m c news hA.len (fun j u hj=>by
  rw [addr_add,cell_of hb1];exact cut_get hx1 hj) hm0 h63 (by rw [q4];exact hb)
 exact ⟨v',seg',w',hr,fun ψ _=>hM _ _ hrow',hst',g1,g2,g3⟩):P:=h
theorem row_append0 {ty:TypeId} {i:TypeInfo} (ht:P.underlying T=some (.slice E)) (hi:P.info? E=some i) (hz:i.zero=some z) (hsz:i.size=size) (hzs:z.cells.size=size)
  {a0:Addr} {w0:World} {S:List Nat} {w:World} (hs:St w0 S [] w)
  (a:Addr) (m c:Nat) (news:List Value) (hl:news.length=m * size) (hnews:∀ j u,news[j]?=some u→w.cell? (a.add j)=some u) (hm:0 < m) (h63:m≤maxLen) (hbytes:m * i.bytes≤140737488355328) :
  ∃ v' seg' w',(Builtin.append_ #[T,T] ty #[.slice (some a0) 0 0,.slice (some a) m c]).run P w=.ok v' w'∧IsRow E size v' m news seg'∧St w0 S seg' w'∧w.heap.size≤w'.heap.size ∧
   (∀ b,b < w.heap.size→b ∉ seg'.map (·.1)→w'.heap[b]?=w.heap[b]?)∧(∀ q∈seg',w.heap.size≤q.1∨q.1∈([]:Fs).map (·.1)):=by
 subst hsz
 have h63':m≤9223372036854775807:=by simp only [maxLen] at h63;omega
 have hge:=grownCap_ge w m 0 E
 have hr:=run_append_grow (P:=P) w T ty E i z ht hi hz a0 0 0 [] (by simp) (fun j u hu=>by simp at hu) a m c news hl hnews (by omega) (by omega) (growslice_fits (by omega) (by simpa using hbytes))
 simp only [jH] at hr
 have hsize:((#[]:Array Value)++news.toArray++Builtin.zeroCells z.cells (grownCap w m 0 E - m)).size=grownCap w m 0 E * i.size:=by
  simp only [Array.size_append,List.size_toArray,size_zeroCells,hzs,hl,List.length_nil,jH,← Nat.add_mul]
  congr 1
  omega
 have htake:((#[]:Array Value)++news.toArray++Builtin.zeroCells z.cells (grownCap w m 0 E - m)).toList.take (m * i.size)=news:=by
  simp only [Array.toList_append,jR,jQ]
  rw [← hl]
  exact List.take_left
 refine ⟨_,[(w.heap.size,.cells (#[]++news.toArray++Builtin.zeroCells z.cells (grownCap w m 0 E - m)) E (0,0))],_,hr,.own hge (grownCap_le_maxLen w m 0 E h63) hsize htake hl,?_,?_,fun b hb _=>Below.heap_alloc w.drew _ b hb,fun q hq=>?_⟩
 ·exact St.lay (pre:=[]) (post:=[]) (w:=w) hs ((hs.bel.drew).alloc (by have:=hs.bel.size;simpa [World.drew] using this) _) (World.alloc_heap_new w.drew _) (yD _) (fun k hk=>Below.heap_alloc w.drew _ k hk)
 ·rw [World.size_alloc];exact Nat.le_succ _
 ·obtain rfl:q=_:=by simpa using hq
  exact .inl (yD _)
section dw
variable {C : Cu} {ops : Array Oper} {μ : Mu} {Q : Post} {tl rest : List Oper} {k d : Nat} {e : Env} {ts : Ts} {t : TypeId} {pos : String} {af : Array Edge} {g : Option (Nat × Bool)}
theorem DW.appendE {s x:Operand} {tys:Array TypeId} {T E size bytes m:Nat} {z vx:Value} {a0:Addr} {news:List Value} {M:Rel1} 
  (hk:ops[k]?=some ⟨some d,.call { callee:=.builtin .append,args:=#[s,x],argTypes:=tys },t,pos,af,g⟩) (hm:μ k=some (cst M,(false:Fl))) (hd:Nat.blt d C.N=true) (hg:WantT ops e g)
  (hT:tys=#[T,T]) (hU:UnI C.P T (.slice E)) (hI:InfoI C.P E size z) (hB:BytI C.P E bytes) (hz:z.cells.size=size) (hs:e.ev s=some (.slice (some a0) 0 0)) (hx:e.ev x=some vx)
  (hat:RowAt C.w0 size vx m news) (hS:C.S=[]) (hm0:0 < m) (h63:m≤maxLen) (hb:m * bytes≤140737488355328) (hM:∀ v gs,IsRow E size v m news gs→M v gs)
  (kk:∀ v' seg',M v' seg'→DW C ops μ Q tl rest (k+1) ((d,v')::e) (tsTag (k::[]) (k::[]) seg'++ts)) :
  DW C ops μ Q tl (⟨some d,.call { callee:=.builtin .append,args:=#[s,x],argTypes:=tys },t,pos,af,g⟩::rest) k e ts:=by
 subst hT
 refine DW.appendX (us:=[]) (us3:=[]) (seg:=[]) hk hm hd hg hs hx ⟨rfl,rfl⟩ .nil (RdV.ext hat hS .nil) (fun p hp=>by cases hp) (fun w hst _=>?_) (fun ψ v' seg' _ hR=>kk v' seg' hR)
 obtain ⟨i,q1,q2,q3,q4⟩:=info_all (P:=C.P) (T:=E)
 have hA:RowAt w size vx m news:=hat.bel (by have:=hst.bel;rwa [hS] at this)
 exact dTAlpx
def sameR:Rel2:=fun vs _ v gs=>vs.head?=some v∧gs=[]
theorem DW.appendN {s x:Operand} {tys:Array TypeId} {T E size:TypeId} {q:Option Addr} {c':Nat} {z:Value} {a0:Addr} 
  (hk:ops[k]?=some ⟨some d,.call { callee:=.builtin .append,args:=#[s,x],argTypes:=tys },t,pos,af,g⟩) (hm:μ k=some (sameR,(false:Fl))) (hd:Nat.blt d C.N=true) (hg:WantT ops e g)
  (hT:tys=#[T,T]) (hU:UnI C.P T (.slice E)) (hI:InfoI C.P E size z) (hs:e.ev s=some (.slice (some a0) 0 0)) (hx:e.ev x=some (.slice q 0 c'))
  (hat:RowAt C.w0 size (.slice q 0 c') 0 []) (hS:C.S=[])
  (kk:DW C ops μ Q tl rest (k+1) ((d,.slice (some a0) 0 0)::e) (tsTag (k::[]) (k::[]) []++ts)) :
  DW C ops μ Q tl (⟨some d,.call { callee:=.builtin .append,args:=#[s,x],argTypes:=tys },t,pos,af,g⟩::rest) k e ts:=by
 subst hT
 refine DW.appendX (us:=[]) (us3:=[]) (seg:=[]) hk hm hd hg hs hx ⟨rfl,rfl⟩ .nil (RdV.ext hat hS .nil) (fun p hp=>by cases hp) (fun w hst _=>?_) (fun ψ v' seg' _ hR=>?_)
 ·obtain ⟨i,h1,h2,_⟩:=info_of (P:=C.P) (T:=E)
  have hsrc:Src C.P i.size T (.slice q 0 c') 0 [] w:=by
   exact dTAEvs
  have hr:=run_append_nothing (P:=C.P) w T T t E i hU.un h1 (some a0) 0 0 (yD 0) _ hsrc
  exact ⟨_,[],w,hr,fun ψ _=>⟨rfl,rfl⟩,hst,yD _,fun b _ _=>rfl,fun q hq=>by cases hq⟩
 ·obtain ⟨h1,rfl⟩:=hR
  cases h1
  exact kk
theorem DW.lay0 {sz:TypeId} (hk:ops[k]?=some ⟨some d,.buildSlice T 0 #[],t,pos,af,g⟩) (hm:μ k=none) (hd:Nat.blt d C.N=true) (hg:WantT ops e g) (hU:UnI C.P T (.slice E)) (hI:InfoI C.P E sz z)
  (kk:∀ b,DW C ops μ Q tl rest (k+1) ((d,.slice (some ⟨b,0,none⟩) 0 0)::e) ((b,.cells #[] E (0,0),[k],[])::ts)):DW C ops μ Q tl (⟨some d,.buildSlice T 0 #[],t,pos,af,g⟩::rest) k e ts :=
 DW.new hk hm hd hg rfl (NewP.build0 hU hI) kk
end dw
end
section
theorem upon_join {F:Fence} {n:Nat} {P:Program} {o:Oper} {K K':Act→World→Prop} {Q Q':Exit→Act→World→Prop} (h:∀ a w,K a w→K' a w) (hp:∀ ch a w,Q (.panic ch) a w→Q' (.panic ch) a w) (hl:LetsOut Q→LetsOut Q')
  (hh:o.wpIn F n P a w K Q):o.wpIn F n P a w K' Q':=by
 unfold Oper.wpIn at *
 refine ⟨hh.1,?_⟩
 have hh:=hh.2
 generalize (o.semAt F.round a.eval).run P w=r at *
 cases r with
 |ok x w' =>
  cases x<;>simp only [Oper.uponIn] at hh ⊢ <;>
   first
    |exact h _ _ hh
    |exact ⟨hh.1,CallsIn.mono hh.2 (fun e w'' he=>by cases e<;>first|exact h _ _ he|exact hp _ _ _ he|exact hl he)⟩
    |exact ⟨hh.1,RowsIn.mono hh.2 (fun _ _ he=>h _ _ he)⟩
    |exact ⟨hh.1,RoundIn.mono hh.2 (fun e w'' he=>by cases e<;>first|exact h _ _ he|exact hp _ _ _ he|exact hl he)⟩
 |halt x w'=>cases x<;>simp only [Oper.uponIn] at hh ⊢<;>first|exact hp _ _ _ hh|exact hh
theorem list_join {F:Fence} {n:Nat} {P:Program} {ops:Array Oper} {Qm Q:Exit→Act→World→Prop} {l2:List Oper} (hn:∀ a w,Qm .normal a w→wpListIn F n P ops Q l2 a w) (hp:∀ ch a w,Qm (.panic ch) a w→Q (.panic ch) a w) (hl:LetsOut Qm→LetsOut Q) :
  ∀ (l1:List Oper) (a:Act) (w:World),wpListIn F n P ops Qm l1 a w→wpListIn F n P ops Q (l1++l2) a w
 |[],a,w,h=>hn a w h
 |o::r,a,w,h=>by
  rw [yA]
  unfold wpListIn at h ⊢
  split
  ·rename_i hw
   rw [if_pos hw] at h
   exact upon_join (fun a w h=>list_join hn hp hl r a w h) hp hl h
  ·rename_i hw
   rw [if_neg hw] at h
   exact ⟨h.1,list_join hn hp hl r _ _ h.2⟩
def joinQ (C:Cu) (e1:Env) (fs1:Fs) (Q:Post):Post:=fun x ds e fs=>match x with
 |.normal=>ds=C.ds∧e.le e1∧List.Sublist fs1 fs
 |x=>Q x ds e fs
theorem LW.join {l:List Oper} (k:Nat) (e1:Env) (fs1:Fs) (h2:LW C ops Q (l.drop k) e1 fs1) (h1:LW C ops (joinQ C e1 fs1 Q) (l.take k) e fs):LW C ops Q l e fs:=fun a w hs=>by
 have h:=h1 a w hs
 rw [← List.take_append_drop k l]
 refine list_join (fun a w hq=>?_) (fun ch a w hq=>?_) (fun hq=>?_) _ _ _ h
 ·obtain ⟨ds,e',fs',⟨rfl,h4,h5⟩,s⟩:=hq
  exact h2 a w (fs_sub s h4 h5)
 ·obtain ⟨ds,e',fs',hq,s⟩:=hq
  exact ⟨ds,e',fs',hq,s⟩
 ·obtain ⟨a,w,ds,e',fs',hq,s⟩:=hq
  exact ⟨a,w,ds,e',fs',hq,s⟩
theorem joinI {e1:Env} {fs1:Fs} (h1:e.le e1) (h2:List.Sublist fs1 fs):joinQ C e1 fs1 Q .normal C.ds e fs:=⟨rfl,h1,h2⟩
section hm
variable {P : Program} {e : Env} {T : TypeId} {x : Operand} {n : Nat}
theorem run_slice_hm {w:World} {a:Option Addr} {len cap:Nat} (ht:P.underlying T=some (.slice (P.elem T))) (kh km:IntKind) (h m:Int) (h0:0≤h) (h2:h≤m) (h3:m≤cap) :
  (Instr.slice T (.slice a len cap) none (some (.int kh h)) (some (.int km m))).run P w=((sizeOf (P.elem T)).run P w).andThen fun s w=>.ok (sliced a 0 h.toNat m.toNat s) w:=by
 have eh:(h.toNat:Int)=h:=Int.toNat_of_nonneg (by omega)
 have em:(m.toNat:Int)=m:=Int.toNat_of_nonneg (by omega)
 simp [Instr.slice,run_underlying ht,Instr.sliceBounds,run_sliceBound,sliced, *,eh,em,(by omega:0≤h),(by omega:0≤m)]
theorem ValP.cutMax {im:IntKind} {E k c:Nat} {p:Option Addr} {hi mx:Operand} (hU:UnI P T (.slice E)) (hI:InfoI P E sz z) (hx:e.ev x=some (.slice p n c)) (hh:e.ev hi=some (.int ik (j:Int))) (hm:e.ev mx=some (.int im (k:Int))) (h2:j≤k) (h3:k≤c) :
  ValP P e [] (.slice T x none (some hi) (some mx)) (.slice p j k):=fun ρ w hρ _ d t pos af g=>by
 have hu:P.underlying T=some (.slice E):=hU.un
 have h1:=run_slice_hm (P:=P) (T:=T) (w:=w) (a:=p) (len:=n) (cap:=c) (elem_un hu) ik im (j:Int) (k:Int) (by omega) (by omega) (by omega)
 rw [elem_eq hu,run_size] at h1
 have h2:(Instr.sliceAt T (.slice p n c) none (some (.int ik (j:Int))) (some (.int im (k:Int)))).run P w=.ok (.slice p j k) w:=by
  rw [run_sliceAt_slice (w:=w) T _ _ _ _ (elem_un hu),h1]
  simp only [Result.andThen_ok,sliced,yY,Nat.sub_zero,Nat.zero_mul]
  cases p with
  |none=>simp
  |some a=>cases a with|mk b o s=>simp [addr_add,Addr.add]
 simp [execOp,hρ x _ hx,hρ hi _ hh,hρ mx _ hm,h2]
end hm
theorem LW.copyNone {ops:Array Oper} {Q:Post} {rest:List Oper} {e:Env} {fs:Fs} {t:TypeId} {pos:String} {af:Array Edge} {x y:Operand} {bytes:TypeId} {p q:Option Addr} {n c m c':Nat} (hd:Nat.blt d C.N=true) (hT:tys=#[T,T]) (hU:UnI C.P T (.slice E)) (hI:InfoI C.P E 1 z) (hB:BytI C.P E bytes)
  (hx:e.ev x=some (.slice p n c)) (hy:e.ev y=some (.slice q m c')) (h0:Nat.min m n=0) (k:LW C ops Q rest ((d,.int .i64 0)::e) fs) :
  LW C ops Q (⟨some d,.call { callee:=.builtin .copy,args:=#[x,y],argTypes:=tys },t,pos,af,none⟩::rest) e fs:=by
 subst hT
 have hsz:(C.P.info? E).map (·.size)=some 1:=by
  obtain ⟨i,i1,i2,i3,i4⟩:=info_all (P:=C.P) (T:=E);rw [i1];simp [i2]
 refine qN hd rfl (fun ρ w hρ _ d t pos af g=>?_) k
 have hrun:=run_copy_none (P:=C.P) w T T t E p q n c m c' hU.un hsz h0
 simp [execOp,resolve,invoke,builtin,hρ x _ hx,hρ y _ hy,hrun,goInt]
section dv
variable {C : Cu} {ops : Array Oper} {Q : Post} {tl rest : List Oper} {e : Env} {ts : Ts} {μ : Mu} {k d : Nat} {t : TypeId} {pos : String} {af : Array Edge} {g : Option (Nat × Bool)} {fo : Operand} {args : Array Operand} {tys : Array TypeId} {f : FuncId} {vs vs' : List Value} {us : Fs} {ts' : Ts}
theorem DW.manyW {M:Rel1} (hk:ops[k]?=some ⟨some d,.call { callee:=.value fo,args:=args,argTypes:=tys },t,pos,af,g⟩) (hm:μ k=some (cst M,(false:Fl)))
  (hd:Nat.blt d C.N=true) (hg:WantT ops e g) (hf:e.ev fo=some (.func (.func f) #[] #[])) (hF:FnI C.P f) (ha:ArgsOk e args.toList vs) (hbl:vs.flatMap (blocksN 4)=vs'.flatMap (blocksN 4)) (hr:RdV C ops k vs' ts us ts')
  (hc:∀ w,Bel C.w0.heap.size C.S C.w0 w→(∀ p∈us,w.heap[p.1]?=some p.2)→Calls C.P f vs.toArray w (RetG w [] M)) (kk:∀ v gs,M v gs→DW C ops μ Q tl rest (k+1) ((d,v)::e) (tsNew k gs++ts')) :
  DW C ops μ Q tl (⟨some d,.call { callee:=.value fo,args:=args,argTypes:=tys },t,pos,af,g⟩::rest) k e ts:=by
 obtain ⟨us2,h1,h2⟩:=hr.all
 rw [← hbl] at h1
 exact dTArCh
theorem blocks_sl {x:Value} (h:∃ p n c,x=.slice p n c):blocksN 3 x=blocksN 4 x:=by
 obtain ⟨p,n,c,rfl⟩:=h
 cases p<;>rfl
end dv
section de
variable {C : Cu} {ops : Array Oper} {μ : Mu} {Q : Post} {tl rest : List Oper} {k d : Nat} {e : Env} {ts : Ts} {t : TypeId} {pos : String} {af : Array Edge} {g : Option (Nat × Bool)}
theorem DW.appendF {s x:Operand} {tys:Array TypeId} {T E size bytes m:Nat} {z vx:Value} {a0:Addr} {news:List Value} {M:Rel1} {us:Fs} {ts2:Ts} 
  (hk:ops[k]?=some ⟨some d,.call { callee:=.builtin .append,args:=#[s,x],argTypes:=tys },t,pos,af,g⟩) (hm:μ k=some (cst M,(false:Fl))) (hd:Nat.blt d C.N=true) (hg:WantT ops e g)
  (hT:tys=#[T,T]) (hU:UnI C.P T (.slice E)) (hI:InfoI C.P E size z) (hB:BytI C.P E bytes) (hz:z.cells.size=size) (hs:e.ev s=some (.slice (some a0) 0 0)) (hx:e.ev x=some vx)
  (hr:RdV C ops k [vx] ts us ts2) (hat:∀ w,(∀ p∈us,w.heap[p.1]?=some p.2)→RowAt w size vx m news) (hm0:0 < m) (h63:m≤maxLen) (hb:m * bytes≤140737488355328) (hM:∀ v gs,IsRow E size v m news gs→M v gs)
  (kk:∀ v' seg',M v' seg'→DW C ops μ Q tl rest (k+1) ((d,v')::e) (tsTag (k::[]) (k::[]) seg'++ts2)) :
  DW C ops μ Q tl (⟨some d,.call { callee:=.builtin .append,args:=#[s,x],argTypes:=tys },t,pos,af,g⟩::rest) k e ts:=by
 subst hT
 refine DW.appendX (us:=us) (us3:=[]) (seg:=[]) hk hm hd hg hs hx ⟨rfl,rfl⟩ .nil hr (fun p hp=>by cases hp) (fun w hst hu=>?_) (fun ψ v' seg' _ hR=>kk v' seg' hR)
 obtain ⟨i,q1,q2,q3,q4⟩:=info_all (P:=C.P) (T:=E)
 have hA:RowAt w size vx m news:=hat w hu
 exact dTAlpx
end de
end
section
inductive MoreR:Ts→Ts→Prop
 |nil:MoreR [] []
 |cons {b:Nat} {o:Obj} {ws rs rs':List Nat} {r r':Ts} (h:∀ x∈rs,x∈rs') (t:MoreR r r'):MoreR ((b,o,ws,rs)::r) ((b,o,ws,rs')::r')
def markAll (k:Nat) (ts:Ts):Ts:=ts.map fun p=>(p.1,p.2.1,p.2.2.1,k::p.2.2.2)
theorem MoreR.keys (h:MoreR ts ts'):ts'.map (·.1)=ts.map (·.1):=by
 induction h with
 |nil=>rfl
 |cons _ _ ih=>simp [ih]
theorem MoreR.mem (h:MoreR ts ts'):∀ p'∈ts',∃ rs,(p'.1,p'.2.1,p'.2.2.1,rs)∈ts∧∀ x∈rs,x∈p'.2.2.2:=by
 induction h with
 |nil=>intro p hp;cases hp
 |@cons b o ws rs rs' r r' hx _ ih =>
  intro p hp
  rcases List.mem_cons.1 hp with rfl|hp
  ·exact ⟨rs,jV,hx⟩
  ·obtain ⟨rs,h1,h2⟩:=ih p hp
   exact ⟨rs,jI _ h1,h2⟩
theorem MoreR.refl:∀ ts:Ts,MoreR ts ts
 |[]=>.nil
 |(b,o,ws,rs)::r=>.cons (fun _ h=>h) (MoreR.refl r)
theorem MoreR.mark {k:Nat}:∀ ts:Ts,MoreR ts (markAll k ts)
 |[]=>.nil
 |(b,o,ws,rs)::r=>.cons (fun _ h=>jI _ h) (MoreR.mark r)
theorem more_app:∀ (l:Ts) {ts ts':Ts},MoreR ts ts'→MoreR (l++ts) (l++ts')
 |[],_,_,h=>h
 |(b,o,ws,rs)::l,_,_,h=>.cons (fun _ h=>h) (more_app l h)
theorem fsOf_mark {k:Nat} (ts:Ts):fsOf (markAll k ts)=fsOf ts:=by simp [fsOf,markAll]
theorem DW.moreA {μ:Mu} {tl l:List Oper} {k:Nat} (hm:MoreR ts ts') (h:DW C ops μ Q tl l k e ts'):DW C ops μ Q tl l k e ts:=fun a φ tw tr ha hr hi=>by
 refine h a φ tw tr ha ⟨fun p hp=>?_,fun p hp j hj=>?_,fun p hp j hj=>?_,hr.old,hr.oldr,?_⟩ hi
 ·obtain ⟨rs,h1,_⟩:=hm.mem p hp
  exact hr.fsome (p.1,p.2.1,p.2.2.1,rs) h1
 ·obtain ⟨rs,h1,_⟩:=hm.mem p hp
  exact hr.ftw (p.1,p.2.1,p.2.2.1,rs) h1 j hj
 ·obtain ⟨rs,h1,h2⟩:=hm.mem p hp
  exact h2 _ (hr.ftr (p.1,p.2.1,p.2.2.1,rs) h1 j hj)
 ·have h1:(ts.map (·.1)).Pairwise (· ≠ ·):=List.pairwise_map.2 hr.nd
  rw [← hm.keys] at h1
  exact List.pairwise_map.1 h1
theorem read_one {k:Nat} {tsF:Ts}:∀ {ts:Ts},MoreR tsF ts→MoreR ts (markAll k tsF)→∀ {b:Nat} {o:Obj} {ws rs:List Nat},(b,o,ws,rs)∈tsF→ancB ops k ws=true→∃ ts',TRead ops k ts b o ts'∧MoreR tsF ts'∧MoreR ts' (markAll k tsF):=by
 induction tsF with
 |nil=>intro ts _ _ b o ws rs hm;cases hm
 |cons q r ih =>
  intro ts h0 h
  obtain ⟨qb,qo,qw,qr⟩:=q
  rw [show markAll k ((qb,qo,qw,qr)::r)=(qb,qo,qw,k::qr)::markAll k r from rfl] at h ⊢
  cases h with
  |@cons _ _ _ rs1 _ r1 _ hx ht =>
   cases h0 with
   |cons hy hu =>
    intro b o ws rs hm ha
    rcases List.mem_cons.1 hm with he|hm
    ·cases he
     exact ⟨_,.head ha,.cons (fun x hx'=>jI _ (hy x hx')) hu,.cons (fun x hx'=>by
      rcases List.mem_cons.1 hx' with rfl|h'
      ·exact jV
      ·exact hx x h') ht⟩
    ·obtain ⟨ts',h1,h2,h3⟩:=ih hu ht hm ha
     exact ⟨_,.tail h1,.cons hy h2,.cons hx h3⟩
def Lie (C:Cu) (ops:Array Oper) (k:Nat) (ts:Ts) (p:Nat × Obj):Prop:=(∃ ws rs,(p.1,p.2,ws,rs)∈ts∧ancB ops k ws=true)∨(C.w0.heap[p.1]?=some p.2∧p.1 ∉ C.S)
theorem read_all {C:Cu} {ops:Array Oper} {k:Nat} {tsF:Ts}:∀ (us:Fs) {ts:Ts},MoreR tsF ts→MoreR ts (markAll k tsF)→(∀ p∈us,Lie C ops k tsF p)→∃ ts',ReadAll C ops k (us.map (·.1)) ts us ts'∧MoreR ts' (markAll k tsF)
 |[],ts,_,h,_=>⟨ts,.nil,h⟩
 |(b,o)::us,ts,h0,h,hl=>by
  rcases hl (b,o) jV with ⟨ws,rs,h1,h2⟩|⟨h1,h2⟩
  ·obtain ⟨ts1,h4,h5,h6⟩:=read_one h0 h h1 h2
   obtain ⟨ts',h7,h8⟩:=read_all us h5 h6 fun p hp=>hl p (jI _ hp)
   exact ⟨ts',.own h4 h7,h8⟩
  ·obtain ⟨ts',h7,h8⟩:=read_all us h0 h fun p hp=>hl p (jI _ hp)
   exact ⟨ts',.ext h1 h2 h7,h8⟩
theorem markAll_nil {k:Nat}:markAll k []=[]:=rfl
theorem markAll_cons {k:Nat} {ws rs:List Nat} {r:Ts}:markAll k ((b,o,ws,rs)::r)=(b,o,ws,k::rs)::markAll k r:=rfl
theorem markAll_app {k:Nat} {l r:Ts}:markAll k (l++r)=markAll k l++markAll k r:=by simp [markAll]
theorem markAll_tsOf {k:Nat} {g:Fs}:markAll k (tsOf g)=tsTag [] [k] g:=by simp [markAll,tsOf,tsTag]
section dw
variable {C : Cu} {ops : Array Oper} {Q : Post} {tl rest : List Oper} {e : Env} {ts : Ts} {μ : Mu} {k d : Nat} {t : TypeId} {pos : String} {af : Array Edge} {g : Option (Nat × Bool)} {fo : Operand} {args : Array Operand} {tys : Array TypeId} {f : FuncId} {vs : List Value} (us : Fs)
theorem DW.callA {v:Value} (hk:ops[k]?=some ⟨some d,.call { callee:=.value fo,args:=args,argTypes:=tys },t,pos,af,g⟩) (hm:μ k=none)
  (hd:Nat.blt d C.N=true) (hg:WantT ops e g) (hf:e.ev fo=some (.func (.func f) #[] #[])) (hF:FnI C.P f) (ha:ArgsOk e args.toList vs) (hbl:vs.flatMap (blocksN 4)=us.map (·.1)) (hl:∀ p∈us,Lie C ops k ts p)
  (hc:∀ w,Bel C.w0.heap.size C.S C.w0 w→(∀ p∈us,w.heap[p.1]?=some p.2)→Calls C.P f vs.toArray w (Ret w v)) (kk:DW C ops μ Q tl rest (k+1) ((d,v)::e) (markAll k ts)) :
  DW C ops μ Q tl (⟨some d,.call { callee:=.value fo,args:=args,argTypes:=tys },t,pos,af,g⟩::rest) k e ts:=by
 obtain ⟨ts',h1,h2⟩:=read_all us (MoreR.refl ts) (MoreR.mark ts) hl
 rw [← hbl] at h1
 exact DW.callE hk hm hd hg hf hF ha (show _=vs.flatMap (blocksN 4) from rfl) h1 hc (DW.moreA h2 kk)
theorem DW.manyA {M:Rel1} (hk:ops[k]?=some ⟨some d,.call { callee:=.value fo,args:=args,argTypes:=tys },t,pos,af,g⟩) (hm:μ k=some (cst M,(false:Fl)))
  (hd:Nat.blt d C.N=true) (hg:WantT ops e g) (hf:e.ev fo=some (.func (.func f) #[] #[])) (hF:FnI C.P f) (ha:ArgsOk e args.toList vs) (hbl:vs.flatMap (blocksN 4)=us.map (·.1)) (hl:∀ p∈us,Lie C ops k ts p)
  (hc:∀ w,Bel C.w0.heap.size C.S C.w0 w→(∀ p∈us,w.heap[p.1]?=some p.2)→Calls C.P f vs.toArray w (RetG w [] M)) (kk:∀ v gs,M v gs→DW C ops μ Q tl rest (k+1) ((d,v)::e) (tsNew k gs++markAll k ts)) :
  DW C ops μ Q tl (⟨some d,.call { callee:=.value fo,args:=args,argTypes:=tys },t,pos,af,g⟩::rest) k e ts:=by
 obtain ⟨ts',h1,h2⟩:=read_all us (MoreR.refl ts) (MoreR.mark ts) hl
 rw [← hbl] at h1
 refine DW.manyE hk hm hd hg hf hF ha (show _=vs.flatMap (blocksN 4) from rfl) h1 hc fun v gs hM=>DW.moreA ?_ (kk v gs hM)
 exact (more_app _ h2)
end dw
end
section
section ys
variable {C : Cu} {ops : Array Oper} {Q Q' : Post} {rest : List Oper} {e : Env} {fs : Fs} {d : Nat} {op : Op} {t : TypeId} {pos : String} {af : Array Edge} {v : Value} {x y c : Operand}
theorem vMy (hd:Nat.blt d C.N=true) (h:e.ev x=some v) (k:LW C ops Q rest ((d,v)::e) fs):LW C ops Q (⟨some d,.move x,t,pos,af,none⟩::rest) e fs:=qN hd rfl (.move h) k
theorem vAy (hd:Nat.blt d C.N=true) (h:e.ev x=some v) (k:LW C ops Q rest ((d,v)::e) fs):LW C ops Q (⟨some d,.assign x,t,pos,af,none⟩::rest) e fs:=qN hd rfl (.assign h) k
theorem vNy {a:Addr} (hd:Nat.blt d C.N=true) (h:e.ev x=some (.pointer (some a))) (k:LW C ops Q rest ((d,.pointer (some a))::e) fs):LW C ops Q (⟨some d,.nilCheck x,t,pos,af,none⟩::rest) e fs:=qN hd rfl (.nilCheck h) k
theorem vEy {vs:Array Value} (hd:Nat.blt d C.N=true) (hx:e.ev x=some (.tuple vs)) (hi:nth vs.toList i=some v) (k:LW C ops Q rest ((d,v)::e) fs):LW C ops Q (⟨some d,.extract x i,t,pos,af,none⟩::rest) e fs:=qN hd rfl (.extractN hx hi) k
theorem vFy {fo:Nat} {ft:TypeId} {u:Value} [hF:FldI C.P T i fo ft] [InfoI C.P ft n u] (hd:Nat.blt d C.N=true) (hn:(n == 0)=false) (hx:e.ev x=some (.pointer (some ⟨b,off,none⟩))) (k:LW C ops Q rest ((d,.pointer (some ⟨b,off+fo,none⟩))::e) fs) :
  LW C ops Q (⟨some d,.fieldAddr T x i,t,pos,af,none⟩::rest) e fs:=qN hd rfl (.fieldAddr hn hx) k
end ys
inductive BoxZ (Q:Prop):Prop|mk (k:Q)
theorem BoxZ.k {Q:Prop} (h:BoxZ Q):Q:=h.1
theorem syZ {α:Type} {a b:α} (h:a=b:=by (first|with_reducible rfl|(focus (simp only [Bool.not_true,Bool.not_false];done))|with_reducible assumption|(focus (simp only [Bool.not_true,Bool.not_false];with_reducible assumption)))):a=b:=h
theorem wnZ {g:Option (Nat × Bool)} (h:WantT ops e g:=by (first|exact zC|(apply wantYes;rfl;rfl;exact syZ))):WantT ops e g:=h
theorem rdZ (h:Rd P T o n v:=by (first|assumption|exact hrdS|exact hrdP|exact hrdC|exact hrdT|exact (hrdT rfl)|exact hrdI|exact hrdM|exact hrdK3|exact hrdO|exact hrd2|exact hrd19|exact hrd13|exact hrdZ2|exact hrdJ|exact hrdG|exact hrdF|exact hrdB|exact hrdYm|exact hrdGm|exact qI rfl|exact Rd.one' rfl)):Rd P T o n v:=h
theorem vpZ {us:Fs} {op:Op} (h:ValP P e us op v:=by (first|(apply ValP.move;rfl)|(apply ValP.fieldAddr;rfl;rfl)|(apply ValP.nilCheck;rfl)|(apply ValP.extractN;rfl;rfl)|(apply ValP.assign;rfl)|(apply ValP.indexAddrL;rfl;rfl;rfl)|(apply ValP.indexAddrA;rfl;rfl;rfl;omega)|(apply ValP.indexAddrSL;rfl;rfl;decide;omega)|(apply ValP.indexAddrS;rfl;rfl;rfl;omega)|(apply ValP.pickT';rfl;(first|with_reducible rfl|(focus (simp only [Bool.not_true,Bool.not_false];done))|with_reducible assumption|(focus (simp only [Bool.not_true,Bool.not_false];with_reducible assumption)));rfl)|(apply ValP.pickF';rfl;(first|with_reducible rfl|(focus (simp only [Bool.not_true,Bool.not_false];done))|with_reducible assumption|(focus (simp only [Bool.not_true,Bool.not_false];with_reducible assumption)));rfl)|(apply ValP.notT;rfl;(first|with_reducible rfl|(focus (simp only [Bool.not_true,Bool.not_false];done))|with_reducible assumption|(focus (simp only [Bool.not_true,Bool.not_false];with_reducible assumption))))|(apply ValP.notF;rfl;(first|with_reducible rfl|(focus (simp only [Bool.not_true,Bool.not_false];done))|with_reducible assumption|(focus (simp only [Bool.not_true,Bool.not_false];with_reducible assumption))))|(apply ValP.lenR;rfl;infer_instance;rfl)|(apply ValP.lenStr;rfl;infer_instance;rfl)|(apply ValP.convI;rfl;omega;omega)|(apply ValP.convN;rfl;omega;omega)|(apply ValP.convB;rfl)|(apply ValP.quoZL;rfl;rfl;decide;omega;omega)|(apply ValP.quoZK;rfl;rfl;decide;omega;omega)|(apply ValP.remZL;rfl;rfl;decide;omega)|(apply ValP.remZK;rfl;rfl;decide;omega)|(apply ValP.addZL;rfl;rfl;decide;omega)|(apply ValP.addZK;rfl;rfl;decide;omega)|(apply ValP.addZ;rfl;rfl;omega)|(apply ValP.mulZL;rfl;rfl;decide;omega)|(apply ValP.mulZK;rfl;rfl;decide;omega)|(apply ValP.mulZ;rfl;rfl;omega)|(apply ValP.subZL;rfl;rfl;decide;omega;omega)|(apply ValP.subZK;rfl;rfl;decide;omega;omega)|(apply ValP.subZ;rfl;rfl;omega;omega)|(apply ValP.lssT;rfl;rfl;omega)|(apply ValP.lssF;rfl;rfl;omega)|(apply ValP.leqT;rfl;rfl;omega)|(apply ValP.leqF;rfl;rfl;omega)|(apply ValP.gtrT;rfl;rfl;omega)|(apply ValP.gtrF;rfl;rfl;omega)|(apply ValP.geqT;rfl;rfl;omega)|(apply ValP.geqF;rfl;rfl;omega)|(apply ValP.eqT;rfl;rfl;omega)|(apply ValP.eqF;rfl;rfl;omega)|(apply ValP.neT;rfl;rfl;omega)|(apply ValP.neF;rfl;rfl;omega))):ValP P e us op v:=h
theorem goZ {P Q:Prop} (k:Q) (h:BoxZ Q→P:=by
 (intro kQ
  (repeat (first
  |(apply vMy;rfl;rfl)
  |refine nSz ?_
  |refine nNz ?_
  |(apply vAy;rfl;rfl)
  |refine sRz ?_
  |refine zI ?_
  |(apply LW.guardT';rfl;rfl;exact syZ)
  |(apply vFy;rfl;rfl;rfl)
  |(apply vEy;rfl;rfl;rfl)
  |(apply vNy;rfl;rfl)
  |(apply CW.condF;rfl;exact syZ)
  |(apply CW.condT;rfl;exact syZ)
  |(apply LW.guardF';rfl;rfl;exact syZ;rfl)
  |(apply LW.guardU;rfl;rfl;rfl)
  |(apply LW.load;rfl;rfl;(first|(focus (apply qH;(repeat (first|apply zY|apply zX|apply zZ));done))|exact Known.ext (by assumption) (by simp));exact rdZ)
  |refine thenN ?_
  |refine zK ?_
  |refine zL ?_
  |refine zJ ?_
  |refine zM ?_
  |refine zV ?_
  |refine thenR ?_
  |refine blkN ?_
  |refine blkR ?_
  |refine CW.exit ?_
  |refine thenE ?_
  |refine blkE rfl ?_
  |refine blkO rfl ?_
  |(apply zT;rfl;rfl;intro bZ)
  |(apply LW.allocW;rfl;intro bZ)
  |(apply zU;rfl;intro bZ)
  |(apply zR;rfl;rfl;(repeat (first|apply qA|apply qE|apply qF));(first|(apply fr_wrW;rfl;assumption)|(apply ps_wrW;rfl;assumption)|(apply op_wrW;rfl)|(apply aq_wrW;rfl;(first|assumption|exact nil_sl);(first|assumption|exact nil_sl))|(apply Wr.whole;rfl;rfl;rfl)|(apply qU;rfl;rfl;(simp only [wc,List.size_toArray,yK,List.length_nil];omega);(first|(simp only [fillC,wc,wrCells,Value.cells,jD,jA,jF,jE,Nat.reduceAdd,Nat.reduceMul,jH,yE];rfl)|rfl))|assumption))
  |(apply qN;rfl;rfl;exact vpZ)
  |(apply LW.mapIns;infer_instance;infer_instance;rfl;rfl;rfl;(repeat (first|apply qA|apply qE|apply qF));rfl;rfl)
  |(apply LW.mapGet;rfl;infer_instance;infer_instance;infer_instance;rfl;rfl;(apply qH;(repeat (first|apply zY|apply zX|apply zZ)));rfl;assumption;rfl)
  |(apply LW.lay1;rfl;infer_instance;infer_instance;rfl;rfl;rfl;rfl;rfl;rfl;intro bZ)
  |(apply LW.layA;rfl;infer_instance;infer_instance;rfl;rfl;rfl;rfl;rfl;intro bZ)
  |(apply DW.v0;rfl;rfl;rfl;exact wnZ;rfl;exact vpZ)
  |(apply qG;rfl;rfl;rfl;exact wnZ;rfl;(repeat (first|(apply zP;(first|exact zN|kernel_rfl))|apply zO|apply zQ));exact rdZ)
  |(apply DW.loadX;rfl;rfl;rfl;exact wnZ;rfl;assumption;simp;exact rdZ)
  |(apply DW.allocW;rfl;rfl;rfl;exact wnZ;intro bZ)
  |(apply DW.allocA;rfl;rfl;rfl;exact wnZ;intro bZ)
  |(apply DW.boxA;rfl;rfl;rfl;exact wnZ;rfl;intro bZ)
  |(apply DW.skip';rfl;rfl;rfl;rfl;exact syZ)
  |(apply DW.skipU;rfl;rfl;rfl;rfl)
  |(apply DW.nil;simp only [fsOf_cons,fsOf_nil,fsOf_app,fsOf_tsOf,fsOf_new,fsOf_tag,fsOf_mark])
  |(apply QW.v0;rfl;exact wnZ;exact vpZ)
  |(apply QW.load;rfl;exact wnZ;rfl;(first|(focus (apply qH;(repeat (first|apply zY|apply zX|apply zZ));done))|exact Known.ext (by assumption) (by simp));exact rdZ)
  |(apply QW.skip;rfl;rfl;rfl;exact syZ)
  |(apply QW.skipU;rfl;rfl;rfl)
  |refine QW.nil ?_))
  (repeat revert bZ)
  exact kQ.k)):P:=h ⟨k⟩
theorem tsZ {P Q:Prop} (k:Q) (h:BoxZ Q→P:=by (intro kQ;(try simp only [tsOf_cons,tsOf_nil,tsOf_app]);exact goZ kQ.k)):P:=h ⟨k⟩
theorem anz {id:Nat} {l:List Oper} {Q:Post} {fs:Fs} {e:Env} {R:Prop} (n:Nat) (k:R) (hm:C.P.follows .mixedOrders=true:=by exact mixed) (hB:headB l.toArray n=true:=by decide +kernel) (h:BoxZ R→DW C l.toArray noMu Q (l.drop n) (l.take n) 0 e (tsOf fs):=by (intro kQ;exact tsZ kQ.k)) :
  CW C (.region id l.toArray true) Q e fs:=CW.pre (AnyW.any n hm hB (h ⟨k⟩))
section lw
variable {C : Cu} {ops : Array Oper} {Q : Post} {rest : List Oper} {e : Env} {fs : Fs} {d : Nat} {t : TypeId} {pos : String} {af : Array Edge} {v : Value} {R : Prop} {fo : Operand} {args : Array Operand} {tys : Array TypeId} {f : FuncId} {vs : List Value}
theorem cEz (hd:Nat.blt d C.N=true:=by rfl) (hf:e.ev fo=some (.func (.func f) #[] #[]):=by rfl) (hF:FnI C.P f:=by infer_instance) (ha:ArgsOk e args.toList vs:=by (repeat (first|exact qT|(apply ArgsOk.cons;rfl)))) (c:∀ w,St C.w0 C.S fs w→Calls C.P f vs.toArray w (Ret w v)) (k:R) (h:BoxZ R→LW C ops Q rest ((d,v)::e) fs:=by (intro kQ;exact goZ kQ.k)) :
  LW C ops Q (⟨some d,.call { callee:=.value fo,args:=args,argTypes:=tys },t,pos,af,none⟩::rest) e fs:=zS hd hf hF ha c (h ⟨k⟩)
theorem cEw (hd:Nat.blt d C.N=true:=by rfl) (hf:e.ev fo=some (.func (.func f) #[] #[]):=by rfl) (hF:FnI C.P f:=by infer_instance) (ha:ArgsOk e args.toList vs:=by (repeat (first|exact qT|(apply ArgsOk.cons;rfl)))) (c:∀ w,Calls C.P f vs.toArray w (Ret w v)) (k:R) (h:BoxZ R→LW C ops Q rest ((d,v)::e) fs:=by (intro kQ;exact goZ kQ.k)) :
  LW C ops Q (⟨some d,.call { callee:=.value fo,args:=args,argTypes:=tys },t,pos,af,none⟩::rest) e fs:=zS hd hf hF ha (fun w _=>c w) (h ⟨k⟩)
theorem cEv (c:∀ w,Calls C.P f vs.toArray w (Ret w v)) (k:R) (hd:Nat.blt d C.N=true:=by rfl) (hf:e.ev fo=some (.func (.func f) #[] #[]):=by rfl) (hF:FnI C.P f:=by infer_instance) (ha:ArgsOk e args.toList vs:=by (repeat (first|exact qT|(apply ArgsOk.cons;rfl)))) (h:BoxZ R→LW C ops Q rest ((d,v)::e) fs:=by (intro kQ;exact goZ kQ.k)) :
  LW C ops Q (⟨some d,.call { callee:=.value fo,args:=args,argTypes:=tys },t,pos,af,none⟩::rest) e fs:=zS hd hf hF ha (fun w _=>c w) (h ⟨k⟩)
theorem bTz {T:TypeId} {nT:Nat} {z:Array Value} {parts:Array (Nat × Operand)} {pl:List (Nat × Nat)} {us:List (Nat × Value)} {c:Array Value} (k:R) (hd:Nat.blt d C.N=true:=by rfl) (hS:StrI C.P T pl:=by infer_instance) (hI:InfoI C.P T nT (.agg z):=by infer_instance)
  (hp:PartsOk e parts.toList us:=by (repeat (first|exact zB|(apply zA;rfl)))) (hok:fillPok pl z.size us=true:=by rfl)
  (hcc:fillP pl z us=c:=by (simp only [fillP,wrCells,Value.cells,jB,jC,jD,jA,jF,jE,Nat.reduceAdd,jH];rfl)) (h:BoxZ R→LW C ops Q rest ((d,.agg c)::e) fs:=by (intro kQ;exact goZ kQ.k)) :
  LW C ops Q (⟨some d,.build T parts,t,pos,af,none⟩::rest) e fs:=qN hd rfl (zW hS hI hp hok hcc) (h ⟨k⟩)
theorem ldy {T:TypeId} {x:Operand} {b off:Nat} {o:Obj} (hd:Nat.blt d C.N=true:=by rfl) (hx:e.ev x=some (.pointer (some ⟨b,off,none⟩)):=by rfl) (hp:FsAt fs b o:=by (repeat (first|apply zY|apply zX|apply zZ))) (c:Rd C.P T o off v) (k:R) (h:BoxZ R→LW C ops Q rest ((d,v)::e) fs:=by (intro kQ;exact goZ kQ.k)) :
  LW C ops Q (⟨some d,.load T x,t,pos,af,none⟩::rest) e fs:=LW.load hd hx (.at hp) c (h ⟨k⟩)
section dw
variable {tl : List Oper} {ts ts' : Ts} {μ : Mu} {n : Nat} {g : Option (Nat × Bool)}
theorem dlz {b off:Nat} {o:Obj} (hk:ops[n]?=some ⟨some d,.load T x,t,pos,af,g⟩:=by rfl) (hm:μ n=none:=by rfl) (hd:Nat.blt d C.N=true:=by rfl) (hg:WantT ops e g:=by exact wnZ)
  (hx:e.ev x=some (.pointer (some ⟨b,off,none⟩)):=by rfl) (hr:TRead ops n ts b o ts':=by (repeat (first|(apply zP;(first|exact zN|kernel_rfl))|apply zO|apply zQ))) (c:Rd C.P T o off v) (k:R) (h:BoxZ R→DW C ops μ Q tl rest (n+1) ((d,v)::e) ts':=by (intro kQ;exact goZ kQ.k)) :
  DW C ops μ Q tl (⟨some d,.load T x,t,pos,af,g⟩::rest) n e ts:=qG hk hm hd hg hx hr c (h ⟨k⟩)
theorem dcz {bs:List Nat} {us:Fs} (hk:ops[n]?=some ⟨some d,.call { callee:=.value fo,args:=args,argTypes:=tys },t,pos,af,g⟩:=by rfl) (hm:μ n=none:=by rfl) (hd:Nat.blt d C.N=true:=by rfl)
  (hg:WantT ops e g:=by exact wnZ) (hf:e.ev fo=some (.func (.func f) #[] #[]):=by rfl) (hF:FnI C.P f:=by infer_instance) (ha:ArgsOk e args.toList vs:=by (repeat (first|exact qT|(apply ArgsOk.cons;rfl))))
  (hb:(Value.func (.func f) #[] #[]::vs).flatMap (blocksN 4)=bs:=by rfl) (hr:ReadAll C ops n bs ts us ts':=by (repeat (first|exact qS|(apply ReadAll.own;(repeat (first|(apply zP;(first|exact zN|kernel_rfl))|apply zO|apply zQ))))))
  (c:∀ w,Bel C.w0.heap.size C.S C.w0 w→(∀ p∈us,w.heap[p.1]?=some p.2)→Calls C.P f vs.toArray w (Ret w v)) (k:R) (h:BoxZ R→DW C ops μ Q tl rest (n+1) ((d,v)::e) ts':=by (intro kQ;exact goZ kQ.k)) :
  DW C ops μ Q tl (⟨some d,.call { callee:=.value fo,args:=args,argTypes:=tys },t,pos,af,g⟩::rest) n e ts:=DW.callE hk hm hd hg hf hF ha hb hr c (h ⟨k⟩)
end dw
theorem crz {Φ:Value→Fs→Prop} (hd:Nat.blt d C.N=true:=by rfl) (hf:e.ev fo=some (.func (.func f) #[] #[]):=by rfl) (hF:FnI C.P f:=by infer_instance) (ha:ArgsOk e args.toList vs:=by (repeat (first|exact qT|(apply ArgsOk.cons;rfl)))) (c:∀ w,St C.w0 C.S fs w→Calls C.P f vs.toArray w (RetG w [] Φ)) (k:∀ v gs,Φ v gs→LW C ops Q rest ((d,v)::e) (gs++fs)) :
  LW C ops Q (⟨some d,.call { callee:=.value fo,args:=args,argTypes:=tys },t,pos,af,none⟩::rest) e fs:=LW.callR hd hf hF ha c k
theorem cSz {K:Value→Fs→Prop} (hd:Nat.blt d C.N=true) (hf:e.ev fo=some (.func (.func f) #[] #[])) [hF:FnI C.P f] (hc:∀ w,St C.w0 C.S fs w→Calls C.P f vs.toArray w (fun x w'=>∃ v fs',x=.returned v∧K v fs'∧St C.w0 C.S fs' w'))
  (k:∀ v fs',K v fs'→LW C ops Q rest ((d,v)::e) fs') (ha:ArgsOk e args.toList vs:=by (repeat (first|exact qT|(apply ArgsOk.cons;rfl)))):LW C ops Q (⟨some d,.call { callee:=.value fo,args:=args,argTypes:=tys },t,pos,af,none⟩::rest) e fs:=qO hd hf hF ha hc k
end lw
theorem fsZ {P Q:Prop} (k:Q) (h:BoxZ Q→P:=by (intro kQ;(try simp only [fsOf_mark,fsOf_cons,fsOf_nil,fsOf_app,fsOf_tsOf,fsOf_new,fsOf_tag,List.append_eq,jQ]);exact kQ.k)):P:=h ⟨k⟩
theorem laZ {P Q:Prop} (k:Q) (h:BoxZ Q→P:=by (intro kQ;(try simp only [yA,jQ]);exact kQ.k)):P:=h ⟨k⟩
theorem fiz {C:Cu} {fn:Func} {e:Env} {fs:Fs} {x:Exit} {rs:List ResultVar} (hv:tup vs=v) (hx:x=.ret∨x=.normal:=by (first|exact .inl rfl|exact .inr rfl)) (hr:fn.results.toList=rs:=by rfl) (hds:C.ds=[]:=by rfl) (hS:C.S=[]:=by rfl)
  (h:ResL C e fs rs vs:=by (repeat (first|exact zF|(apply zD;first|exact zG rfl|(apply zH;rfl;(apply qH;(repeat (first|apply zY|apply zX|apply zZ)));exact rdZ))))) :
  finQ C fn (Ret C.w0 v) x C.ds e fs:=finR hx hr hds hS h hv
theorem memZ {α:Type} {a:α} {l:List α} (h:a∈l:=by (repeat (first|exact jW _|apply jX))):a∈l:=h
theorem subZ {l l':Fs} (h:List.Sublist l l':=by (repeat (first|exact jG _|exact jJ _ _|apply jK|apply jS))):List.Sublist l l':=h
theorem agZ {l:List Operand} (h:ArgsOk e l vs:=by (repeat (first|exact qT|(apply ArgsOk.cons;rfl)))):ArgsOk e l vs:=h
theorem rsZ {rs:List ResultVar} (h:ResL C e fs rs vs:=by (repeat (first|exact zF|(apply zD;first|exact zG rfl|(apply zH;rfl;(apply qH;(repeat (first|apply zY|apply zX|apply zZ)));first|exact qI rfl|exact Rd.one' rfl))))):ResL C e fs rs vs:=h
end
theorem ValP.cutArrMid {lo hi:Operand} {il:IntKind} (hU:UnI P T (.array n E)) (hI:InfoI P E 1 z) (hx:e.ev x=some (.pointer (some ⟨b,off,none⟩))) (hl:e.ev lo=some (.int il (i:Int))) (hh:e.ev hi=some (.int ik (j:Int))) (hij:i≤j) (hj:j≤n) (hlt:i < n) :
  ValP P e [] (.slice T x (some lo) (some hi) none) (.slice (some ⟨b,off+i,none⟩) (j - i) (n - i)):=fun ρ w hρ _ d t pos af g=>by
 have hu:=hU.un
 have h1:(Instr.sliceAt T (.pointer (some ⟨b,off,none⟩)) (some (.int il (i:Int))) (some (.int ik (j:Int))) none).run P w=.ok (.slice (some ⟨b,off+i,none⟩) (j - i) (n - i)) w:=by
  have hal:P.arrayLen T=n:=by rw [Program.arrayLen,hu]
  have hel:P.elem T=E:=by rw [Program.elem,hu]
  have h2:=run_sliceAt_array_lh (P:=P) w T ⟨b,off,none⟩ (by rw [hal,hel];exact hu) il ik (i:Int) (j:Int) (by omega) (by omega) (by rw [hal];omega)
  rw [hel,run_size,hal] at h2
  rw [h2]
  simp only [Result.andThen_ok,slicedAt,yY]
  rw [if_neg (by omega)]
  simp [Addr.add]
 simp [execOp,hρ x _ hx,hρ lo _ hl,hρ hi _ hh,h1]
section
section
variable {C : Cu} {ops : Array Oper} {k : Nat}
end
section dw
variable {C : Cu} {ops : Array Oper} {Q : Post} {tl rest : List Oper} {e : Env} {ts : Ts} {μ : Mu} {k d : Nat} {op : Op} {t : TypeId} {pos : String} {af : Array Edge} {g : Option (Nat × Bool)}
end dw
end
section
section
variable {C : Cu} {ops : Array Oper} {Q : Post} {rest : List Oper} {e : Env} {fs : Fs} {d : Nat} {t : TypeId} {pos : String} {af : Array Edge}
end
end
section
section dw
variable {C : Cu} {ops : Array Oper} {Q : Post} {tl rest : List Oper} {e : Env} {ts : Ts} {μ : Mu} {k d : Nat} {t : TypeId} {pos : String} {af : Array Edge} {g : Option (Nat × Bool)}
end dw
end
section
def upTo (ops:Array Oper) (n:Nat):Array Bool:=((List.range ops.size).map fun j=>decide (j < n)).toArray
theorem upTo_size (ops:Array Oper) (n:Nat):(upTo ops n).size=ops.size:=by simp [upTo]
theorem upTo_get (ops:Array Oper) (n j:Nat) (d:Bool) (hj:j < ops.size):(upTo ops n).getD j d=decide (j < n):=by
 simp [upTo,hj]
def lexTo (ops:Array Oper) (target:Array Bool):Nat→Nat→Array Bool→Bool
 |0,_,listed=>decide (listed=target)
 |f+1,k,listed=>(Region.ready .any ops listed).contains k && Region.free .any ops listed k && lexTo ops target f (k+1) (listed.setIfInBounds k true)
def seqTo (ops:Array Oper) (target:Array Bool):Nat→Nat→Array Bool→Bool
 |0,_,listed=>decide (listed=target)
 |g+1,k,listed=>decide (Region.ready .any ops listed=[k]) && seqTo ops target g (k+1) (listed.setIfInBounds k true)
def chainB2 (ops:Array Oper) (n:Nat):Bool:=(List.range ops.size).all fun t=>decide (t≤n) ||(List.range t).any fun j=>decide (n≤j) && Region.waitsFor .any ops t j
def closedB (ops:Array Oper) (n:Nat):Bool:=(List.range n).all fun j=>match ops[j]? with
 |some oj=>oj.after.all fun e=>!Region.binds .any e ||decide (e.on < n)
 |none=>true
def midB (ops:Array Oper) (n m:Nat):Bool :=
 Region.noSelect ops && (noDefer ops && (decide (n < ops.size) && (decide (n+m≤ops.size) && (Region.sinkB .any ops n && (chainB2 ops n && (lexTo ops (upTo ops n) n 0 (Array.replicate ops.size false) && (seqTo ops (upTo ops (n+m)) m n (upTo ops n) &&
  (lexTo ops (upTo ops ops.size) (ops.size - (n+m)) (n+m) (upTo ops (n+m)) && ((Region.ready .any ops (upTo ops ops.size)).isEmpty && closedB ops (n+m))))))))))
theorem tail_waits2 {listed:Array Bool} (hs:Region.sinkB .any ops n=true) (hc:chainB2 ops n=true) (hn:n < ops.size) (inv:HeadInv .any ops n listed) :
  ∀ (d i:Nat),n - i=d→i < n→listed.getD i true=false→∀ t,n≤t→t ∉ Region.ready .any ops listed:=by
 intro d
 induction d using Nat.strongRecOn with
 |_ d ih =>
  intro i hd hi hun t ht hr
  obtain ⟨_,ot,hot,hall⟩:=mem_ready.1 hr
  have htlt:t < ops.size:=(Array.getElem?_eq_some_iff.1 hot).1
  by_cases htn:t=n
  ·subst htn
   have h1:=List.all_eq_true.1 hs i (List.mem_range.2 hi)
   obtain ⟨j,hj,hj2⟩:=List.any_eq_true.1 h1
   simp only [yQ,decide_eq_true_eq] at hj2
   obtain ⟨oj,hoj,e,he,hb,hon⟩:=Region.waitsFor_spec hj2.2
   have hjle:j≤t:=by have:=List.mem_range.1 hj;omega
   by_cases hjt:j=t
   ·subst hjt
    have:oj=ot:=jZ (hoj.symm.trans hot)
    subst this
    have h2:=hall e he hb
    rw [hon,getD_both hun] at h2
    cases h2
   ·cases hl:listed.getD j false with
    |true =>
     have h2:=inv.closed j oj hoj hl e he hb
     rw [hon,getD_both hun] at h2
     cases h2
    |false =>
     have hjs:j < listed.size:=by rw [inv.size];omega
     exact ih (t - j) (by omega) j rfl (by omega) (getD_in hjs hl) t (yD _) hr
  ·have h1:=List.all_eq_true.1 hc t (List.mem_range.2 htlt)
   simp only [Bool.or_eq_true,decide_eq_true_eq] at h1
   rcases h1 with h1|h1
   ·omega
   ·obtain ⟨j,hj,hj2⟩:=List.any_eq_true.1 h1
    simp only [yQ,decide_eq_true_eq] at hj2
    have hjt:=List.mem_range.1 hj
    obtain ⟨o',ho',e,he,hb,hon⟩:=Region.waitsFor_spec hj2.2
    have:o'=ot:=jZ (ho'.symm.trans hot)
    subst this
    have h2:=hall e he hb
    rw [hon,getD_both (inv.tail j hj2.1 (by omega))] at h2
    cases h2
section lex
variable {G : Cx} {ops : Array Oper} {μ : Mu}
theorem AnyL_lex2 {n:Nat} {K:Kont} {target:Array Bool} (hX:ExOk ops μ) (hsel:Region.noSelect ops=true) (hT:∀ j∈Region.ready .any ops target,n≤j)
  (hwait:∀ listed,HeadInv .any ops n listed→∀ i,i < n→listed.getD i true=false→∀ t∈Region.ready .any ops listed,t < n) :
  ∀ (l:List Oper) (k:Nat) (listed:Array Bool) (a:Act) (φ:Facts) (tw tr:Tag),(∀ j,j < l.length→l[j]?=ops[k+j]?)→k+l.length=n→HeadInv .any ops n listed→G.inv φ→(∃ w,G.holds φ w) →
  lexTo ops target l.length k listed=true→walk G ops (Anc ops) μ K l k a φ tw tr →
  AnyL G ops μ n (fun listed' a' φ' tw' tr'=>listed'=target∧K a' φ' tw' tr') l.length listed a φ tw tr
 |[],k,listed,a,φ,tw,tr,_,hk,_,_,_,hB,h=>⟨of_decide_eq_true hB,h⟩
 |o::l,k,listed,a,φ,tw,tr,hl,hk,inv,hinv,hwit,hB,h=>by
  have h0:ops[k]?=some o:=by simpa using (hl 0 (by simp)).symm
  simp only [yK,lexTo,yQ] at hB
  obtain ⟨⟨hr,hf⟩,hB'⟩:=hB
  have hkn:k < n:=by simp only [yK] at hk;omega
  have hr':k∈Region.ready .any ops listed:=by simpa using hr
  refine AnyL_first hX h0 (Region.noSelect_spec hsel) hwait hkn (fun listed' a' φ' tw' tr' hL=>by rw [hL.1];exact hT) l.length listed a φ tw tr inv hinv hwit (Region.free_spec h0 hf) hr' ?_
  refine dOp_mono (fun a' φ' tw' tr' h3=>?_) (dOp_wit hinv hwit h)
  exact AnyL_lex2 hX hsel hT hwait l (k+1) _ _ _ _ _ (fun j hj=>by have:=hl (j+1) (by simp;omega);simpa [Nat.add_assoc,Nat.add_comm 1 j] using this) (by simp only [yK] at hk;omega) (inv.set hr' hkn) h3.1.1 h3.1.2 hB' h3.2
end lex
theorem wpAnyIn_of_seq2 {F:Fence} {m:Nat} {P:Program} {ops:Array Oper} {Qm Q:Exit→Act→World→Prop} {g:Nat} {t2:Array Bool} (hn:∀ a w,Qm .normal a w→wpAnyIn F m P .any ops Q g t2 a w) (hp:∀ ch a w,Qm (.panic ch) a w→Q (.panic ch) a w) (hl:LetsOut Qm→LetsOut Q) :
  ∀ (l:List Oper) (k:Nat) (listed:Array Bool) (a:Act) (w:World),(∀ j,j < l.length→l[j]?=ops[k+j]?)→seqTo ops t2 l.length k listed=true→wpListIn F m P ops Qm l a w→wpAnyIn F m P .any ops Q (l.length+g) listed a w
 |[],_,listed,a,w,_,hB,h=>by
  have e:listed=t2:=of_decide_eq_true hB
  rw [e,List.length_nil,jH]
  exact hn _ _ h
 |o::l,k,listed,a,w,hle,hB,h=>by
  have h0:ops[k]?=some o:=by simpa using (hle 0 (by simp)).symm
  simp only [yK,seqTo,yQ,decide_eq_true_eq] at hB
  rw [yK,show l.length+1+g=(l.length+g)+1 by omega]
  refine ⟨fun h1=>(by rw [hB.1] at h1;cases h1),fun i hi=>?_⟩
  rw [hB.1] at hi
  have hik:i=k:=by simpa using hi
  subst hik
  have hrec:∀ a w,wpListIn F m P ops Qm l a w→wpAnyIn F m P .any ops Q (l.length+g) (listed.setIfInBounds i true) a w:=fun a w h=>wpAnyIn_of_seq2 hn hp hl l (i+1) _ a w (fun j hj=>by have:=hle (j+1) (by simp;omega);simpa [Nat.add_assoc,Nat.add_comm 1 j] using this) hB.2 h
  unfold wpOpIn
  simp only [h0]
  unfold wpListIn at h
  split
  ·rename_i hw
   rw [if_pos hw] at h
   exact upon_join hrec hp hl h
  ·rename_i hw
   rw [if_neg hw] at h
   exact ⟨h.1,hrec _ _ h.2⟩
def midQ (C:Cu) (ops:Array Oper) (μ:Mu) (Q:Post) (tl:List Oper) (k:Nat):Post:=fun x ds e fs=>match x with
 |.normal=>ds=C.ds∧DW C ops μ Q [] tl k e (tsOf fs)
 |x=>Q x ds e fs
theorem facts_ok (hs:Sat C e fs a w):C.cx.inv (factsOf fs)∧C.cx.holds (factsOf fs) w∧Rel C.w0.heap.size (tsOf fs) (factsOf fs) (fun _ _=>False) (fun _ _=>False):=by
 have hnd:=hs.st.nd
 have hholds:C.cx.holds (factsOf fs) w:=⟨hs.st.bel,fun b o hb=>(hs.st.own _ (factsOf_dom b o hb)).2⟩
 have hinv:C.cx.inv (factsOf fs):=fun b hb=>by
  obtain ⟨o,ho⟩:=Option.ne_none_iff_exists'.1 hb
  exact (hs.st.own _ (factsOf_dom b o ho)).1
 refine ⟨hinv,hholds,fun p hp=>?_,fun p hp k hk=>hk.elim,fun p hp k hk=>hk.elim,fun _ _ _ h=>h,fun _ _ _ _ h=>h,?_⟩
 ·obtain ⟨q,hq,rfl⟩:=List.mem_map.1 hp
  exact factsOf_mem hnd q hq
 ·simp only [tsOf,List.pairwise_map];exact hnd
theorem CW.anyMid {id:Nat} {l:List Oper} {Q:Post} {e:Env} {fs:Fs} (μ μ':Mu) (n m:Nat) (hX:ExOk l.toArray μ) (hX':ExOk l.toArray μ') (hm:C.P.follows .mixedOrders=true) (hB:midB l.toArray n m=true)
  (h:DW C l.toArray μ (midQ C l.toArray μ' Q (l.drop (n+m)) (n+m)) ((l.drop n).take m) (l.take n) 0 e (tsOf fs)) :
  CW C (.region id l.toArray true) Q e fs:=fun a w hs=>by
 simp only [midB,yQ,decide_eq_true_eq] at hB
 obtain ⟨hsel,hnd,hn,hnm,hsk,hch,hlex1,hseq,hlex2,hend,hcl⟩:=hB
 have hsz:l.toArray.size=l.length:=by simp
 rw [hsz] at hn hnm
 obtain ⟨hinv,hholds,hrel⟩:=facts_ok hs
 have inv0:HeadInv .any l.toArray n (Array.replicate l.toArray.size false) :=
  ⟨by simp,fun j oj _ hl=>(by rw [getD_replicate_false] at hl;cases hl),fun t _ ht=>getD_in (by simpa using ht) (getD_replicate_false _ _)⟩
 have hT1:∀ j∈Region.ready .any l.toArray (upTo l.toArray n),n≤j:=fun j hj=>by
  obtain ⟨hu,o,ho,_⟩:=mem_ready.1 hj
  have hj2:j < l.toArray.size:=(Array.getElem?_eq_some_iff.1 ho).1
  rw [upTo_get _ _ _ _ hj2] at hu
  have:=of_decide_eq_false hu
  omega
 have hT2:∀ j∈Region.ready .any l.toArray (upTo l.toArray l.toArray.size),l.toArray.size≤j:=fun j hj=>by
  rw [List.isEmpty_iff] at hend
  rw [hend] at hj
  cases hj
 have hwait:∀ listed,HeadInv .any l.toArray n listed→∀ i,i < n→listed.getD i true=false→∀ t∈Region.ready .any l.toArray listed,t < n:=by
  intro listed inv i hi hun t ht
  rcases jM t n with h|h
  ·exact h
  ·exact absurd ht (tail_waits2 hsk hch (by rw [hsz];exact hn) inv _ i rfl hi hun t h)
 have hwait2:∀ listed,HeadInv .any l.toArray l.toArray.size listed→∀ i,i < l.toArray.size→listed.getD i true=false→∀ t∈Region.ready .any l.toArray listed,t < l.toArray.size:=by
  intro listed inv i hi hun t ht
  obtain ⟨_,o,ho,_⟩:=mem_ready.1 ht
  exact (Array.getElem?_eq_some_iff.1 ho).1
 have inv2:HeadInv .any l.toArray l.toArray.size (upTo l.toArray (n+m)):=by
  refine ⟨upTo_size _ _,fun j oj hj hl e he hb=>?_,fun t ht ht2=>absurd ht2 (by omega)⟩
  have hj2:j < l.toArray.size:=(Array.getElem?_eq_some_iff.1 hj).1
  rw [upTo_get _ _ _ _ hj2] at hl
  have hjn:=of_decide_eq_true hl
  have h1:=List.all_eq_true.1 hcl j (List.mem_range.2 hjn)
  simp only [hj] at h1
  have h2:=Array.all_eq_true'.1 h1 e he
  rw [hb] at h2
  simp only [Bool.not_true,Bool.false_or,decide_eq_true_eq] at h2
  rw [upTo_get _ _ _ _ (by rw [hsz];omega)]
  exact vE h2
 have hw1:C.cx.holds (factsOf fs) { w with drawn:=w.drawn+1 }:=⟨hholds.1.drew,hholds.2⟩
 have htl:(l.take n).length=n:=by simp;omega
 have hml:((l.drop n).take m).length=m:=by simp;omega
 have hdl:(l.drop (n+m)).length=l.toArray.size - (n+m):=by simp
 have H:=AnyL_lex2 (G:=C.cx) (target:=upTo l.toArray n) hX hsel hT1 hwait (l.take n) 0 _ a _ _ _ (fun j hj=>by
  have hj':j < n:=by rw [htl] at hj;exact hj
  simp [hj']) (by simpa using htl) inv0 hinv ⟨_,hw1⟩ (by rw [htl];exact hlex1) (h a _ _ _ hs.env hrel hinv)
 refine wpIn_region_any hm ?_
 have:=wpAnyIn_of_AnyL (r:=C.r) (m:=0) (Q:=down C Q) (g:=m+(l.toArray.size - (n+m))) hnd (fun listed a' φ' tw' tr' w' hL hi' hw'=>by
  obtain ⟨rfl,hK⟩:=hL
  have hK:=hK hi' w' hw'
  have h2:=wpAnyIn_of_seq2 (F:=FR C.r) (m:=0) (P:=C.P) (ops:=l.toArray) (Q:=down C Q) (g:=l.toArray.size - (n+m)) (t2:=upTo l.toArray (n+m)) (fun a w hq=>by
   obtain ⟨ds,e2,fs2,⟨rfl,hD⟩,s⟩:=hq
   obtain ⟨hinv2,hholds2,hrel2⟩:=facts_ok (C:=C) s
   have H2:=AnyL_lex2 (G:=C.cx) (target:=upTo l.toArray l.toArray.size) hX' hsel hT2 hwait2 (l.drop (n+m)) (n+m) _ a _ _ _ (fun j hj=>by simp [List.getElem?_drop]) (by rw [hdl,hsz];omega) inv2 hinv2 ⟨_,hholds2⟩ (by rw [hdl];exact hlex2) (hD a _ _ _ s.env hrel2 hinv2)
   have h3:=wpAnyIn_of_AnyL (r:=C.r) (m:=0) (Q:=down C Q) (g:=0) hnd (fun listed a' φ' tw' tr' w' hL hi' hw'=>by
    obtain ⟨rfl,hK⟩:=hL
    exact ⟨by rw [List.isEmpty_iff] at hend;exact hend,hK hi' w' hw'⟩) _ _ _ _ _ _ _ hinv2 hholds2 H2
   rwa [hdl,Nat.add_zero] at h3) (fun ch a w hq=>by
   obtain ⟨ds,e',fs',hq,s⟩:=hq
   exact ⟨ds,e',fs',hq,s⟩) (fun hq=>by
   obtain ⟨a,w,ds,e',fs',hq,s⟩:=hq
   exact ⟨a,w,ds,e',fs',hq,s⟩) ((l.drop n).take m) n _ a' w' (fun j hj=>by rw [hml] at hj;simp [List.getElem?_drop,List.getElem?_take,hj]) (by rw [hml];exact hseq) hK
  rwa [hml] at h2) _ _ _ _ _ _ _ hinv hw1 H
 rw [htl,show n+(m+(l.toArray.size - (n+m)))=l.toArray.size by rw [hsz];omega] at this
 exact this
theorem AnyW.mid {id:Nat} {l:List Oper} {Q:Post} {fs:Fs} {e:Env} (n m:Nat) (hm:C.P.follows .mixedOrders=true) (hB:midB l.toArray n m=true)
  (h:DW C l.toArray noMu (midQ C l.toArray noMu Q (l.drop (n+m)) (n+m)) ((l.drop n).take m) (l.take n) 0 e (tsOf fs)):AnyW C id l Q e fs :=
 CW.anyMid noMu noMu n m (fun _ _ h=>by cases h) (fun _ _ h=>by cases h) hm hB h
theorem midN {μ:Mu} {tl:List Oper} {k:Nat} (h:DW C ops μ Q [] tl k e (tsOf fs)):midQ C ops μ Q tl k .normal C.ds e fs:=⟨rfl,h⟩
theorem midP {μ:Mu} {tl:List Oper} {k:Nat} {ch:List PanicEntry} (h:Q (.panic ch) ds e fs):midQ C ops μ Q tl k (.panic ch) ds e fs:=h
end
section
section dw
variable {C : Cu} {ops : Array Oper} {Q : Post} {tl rest : List Oper} {e : Env} {ts : Ts} {μ : Mu} {k d : Nat} {t : TypeId} {pos : String} {af : Array Edge} {g : Option (Nat × Bool)}
theorem DW.appendC {s x:Operand} {tys:Array TypeId} {T E size bytes n m:Nat} {z v vx:Value} {xs news:List Value} {seg us:Fs} {ws rs:List Nat} {ts1 ts2:Ts} 
  (hk:ops[k]?=some ⟨some d,.call { callee:=.builtin .append,args:=#[s,x],argTypes:=tys },t,pos,af,g⟩) (hm:μ k=some (cst fun v' gs=>IsRow E size v' (n+m) (xs++news) gs,(false:Fl))) (hd:Nat.blt d C.N=true) (hg:WantT ops e g)
  (hT:tys=#[T,T]) (hU:UnI C.P T (.slice E)) (hI:InfoI C.P E size z) (hB:BytI C.P E bytes) (hz:z.cells.size=size) (hs:e.ev s=some v) (hx:e.ev x=some vx)
  (hrow:IsRow E size v n xs seg) (h0:blocksN 4 v=keys seg∧blocksN 1 v=keys seg) (hout:TOut ops k ts seg ws rs ts1) (hrd:RdV C ops k [vx] ts1 us ts2)
  (hat:∀ w,Bel C.w0.heap.size C.S C.w0 w→(∀ p∈us,w.heap[p.1]?=some p.2)→RowAt w size vx m news) (h1:∀ u∈news,u.oneCell'=true) (h63:n+m≤maxLen) (hb:(n+m) * bytes≤140737488355328)
  (kk:∀ v' seg',IsRow E size v' (n+m) (xs++news) seg'→DW C ops μ Q tl rest (k+1) ((d,v')::e) (tsTag (k::ws) (k::rs) seg'++ts2)) :
  DW C ops μ Q tl (⟨some d,.call { callee:=.builtin .append,args:=#[s,x],argTypes:=tys },t,pos,af,g⟩::rest) k e ts:=by
 subst hT
 refine DW.appendG hk hm hd hg hs hx h0 hout hrd (fun w hst hus=>?_) kk
 have hA:=hat w hst.bel hus
 obtain ⟨i,q1,q2,q3,q4⟩:=info_all (P:=C.P) (T:=E)
 rcases yB m with hm0|hm0
 ·subst hm0
  obtain ⟨q0,c0,rfl,_,_⟩:=hA.form
  have hn0:news=[]:=List.length_eq_zero_iff.1 (by rw [hA.len,Nat.zero_mul])
  subst hn0
  obtain ⟨p0,c1,rfl⟩:=hrow.form
  have hle:n≤c1:=by
   cases hrow with
   |nil=>exact yT _
   |own h _ _ _ _=>exact h
  have hsrc:Src C.P i.size T (.slice q0 0 c0) 0 [] w:=by
   cases q0 with
   |none=>exact Src.ofNil w hU.un c0
   |some a=>exact Src.ofSlice w hU.un a 0 c0 [] (by simp) (fun j u h=>by simp at h) (fun u h=>by cases h)
  have hr:=run_append_nothing (P:=C.P) w T T t E i hU.un q1 p0 n c1 hle _ hsrc
  exact ⟨_,seg,w,hr,by simpa using hrow,hst,yD _,fun _ _ _=>rfl,fun q hq=>.inr (List.mem_map.2 ⟨q,hq,rfl⟩)⟩
 ·obtain ⟨bb,off,c,cs,E',fr,rfl,hblk,hnx⟩:=hA.pos hm0
  obtain ⟨v',seg',w',hr,hrow',hst',g1,g2,g3⟩:=row_append2 (P:=C.P) (ty:=t) (pre:=[]) (post:=[]) hU.un q1 q3 q2 hz hrow (by simpa using hst) ⟨bb,off,none⟩ m c news hA.len (fun j u hj=>by
   rw [addr_add,cell_of hblk];exact cut_get hnx hj) h1 hm0 h63 (by rw [q4];exact hb)
  simp only [jQ,yM] at hst'
  exact ⟨v',seg',w',hr,hrow',hst',g1,g2,g3⟩
theorem IsRow.some {c:Nat} {a:Addr} (hrow:IsRow E size (.slice (some a) n c) n xs seg) (h0:c ≠ 0):blocksN 4 (.slice (some a) n c)=keys seg∧blocksN 1 (.slice (some a) n c)=keys seg:=by
 cases hrow with
 |own hn _ _ _ _=>exact ⟨by simp [blocksN,h0,keys],by simp [blocksN,h0,keys]⟩
theorem IsRow.none {c:Nat} (hrow:IsRow E size (.slice none n c) n xs seg):seg=[]:=by cases hrow;rfl
end dw
end
theorem bSz {t:TypeId} {pos:String} {af:Array Edge} {T E size len:Nat} {z:Value} {parts:Array (Nat × Operand)} {us:List (Nat × Value)} {c:Array Value} (l:List Int) (k:∀ g,LW C ops Q rest ((d,.slice (some ⟨g,0,none⟩) len len)::e) ((g,.cells c E (0,0))::fs))
  (hd:Nat.blt d C.N=true:=by rfl) (hU:UnI C.P T (.slice E):=by exact vF) (hI:InfoI C.P E size z:=by exact vF) (hp:PartsOk e parts.toList us:=by (repeat (first|exact zB|(apply zA;rfl)))) (hl:Nat.blt 0 (len * size)=true:=by rfl) (hl':Nat.ble (len * size) 1000000=true:=by rfl)
  (hcl:(l.map fun x=>Value.int .u8 x).toArray=c:=by (simp only [List.map_cons,List.map_nil];rfl)) (hok:fillOk size ((Array.range (len * size)).map (z.cells[· % z.cells.size]!)).size us=true:=by kernel_rfl) (hc:fillC size ((Array.range (len * size)).map (z.cells[· % z.cells.size]!)) us=c:=by kernel_rfl) :
  LW C ops Q (⟨some d,.buildSlice T len parts,t,pos,af,none⟩::rest) e fs:=LW.n0 hd rfl (NewP.buildSN (vs:=us) (c:=c) hU hI hp hl hl' hok hc) k
end Go.Proofs.YtdeggbkbblfpoaaGreatDoor.SL
namespace Go.Proofs.YtdeggbkbblfpoaaGreatDoor
open Go Go.RowKit SL
set_option maxRecDepth 8000
set_option maxHeartbeats 4000000
set_option linter.unusedSimpArgs false
set_option linter.unusedVariables false
attribute [local irreducible] SL.CW SL.LW SL.DW Calls SL.Ret SL.RetG SL.beginQ SL.roundQ SL.rangeQ SL.inQ SL.RW SL.AnyW SL.thenQ SL.thenC SL.thenW SL.blkQ SL.finQ SL.ValP SL.NewP SL.SetP SL.CallP SL.Rd SL.Wr SL.Known
section
theorem dTBJyT {P:Prop} (h:P:=by
 (refine goZ ?_)
 (refine fiz ?_)
 rfl):P:=h
theorem dTBSpj {P:Prop} (h:P:=by
 rintro v fs' ⟨own',hKv,rfl⟩
 obtain rfl:v=.tuple #[]:=by
  rcases hK _ _ hKv with h|h
  ·exact Ending.returned.inj h
  ·cases h
 refine qV (fs':=(bok,.cells #[.bool false] 4 (0,0))::(own'++rest)) List.perm_middle.symm ?_
 (refine goZ ?_)
 refine outDI (.inl rfl) rfl fun a w2 s2=>?_
 refine leaves_clo (K:=fun e fs'=>e=.returned (.tuple #[])∧fs'=(bok,.cells #[.bool true] 4 (0,0))::(own'++rest)) vF (fun h=>by cases h) (tries1_idle w0 S bok true (own'++rest) w2 s2.st) (fun fs h=>by cases h.1) ?_ ?_
 ·rintro v fs' w' ⟨_,rfl⟩ hst
  refine leaves_end (vs:=[.bool true]) (w:=w') rfl s2.env hst ?_ rfl ?_
  ·(apply zD;apply zH;rfl;apply qH;apply zY;exact Rd.one' rfl;exact zF)
  ·refine ⟨own'++rest,⟨true,own',rfl,hKv,rfl⟩,?_⟩
   exact ⟨hst.bel,fun p hp=>hst.own p (jI _ hp),(List.pairwise_cons.1 hst.nd).2⟩
 ·rintro ch fs' w' ⟨h,_⟩
  cases h):P:=h
theorem dTBpdD {P:Prop} (h:P:=by
 rintro ch fs' ⟨own',hKv,rfl⟩
 obtain rfl:ch=failC:=by
  rcases hK _ _ hKv with h|h
  ·cases h
  ·exact Ending.panicked.inj h
 refine thenP ?_
 refine outDP rfl fun a w2 s2=>?_
 have s3:=s2.st.perm List.perm_middle.symm
 refine leaves_clo (K:=fun e fs'=>e=.returned (.tuple #[])∧∃ b2,fs'=b2::(bok,.cells #[.bool false] 4 (0,0))::(own'++rest)) vF (fun h=>by cases h) (tries1_failed w0 S bok false (own'++rest) w2 s3) (fun fs h=>by cases h.1) ?_ ?_
 ·rintro v fs' w' ⟨_,b2,rfl⟩ hst
  refine leaves_end (vs:=[.bool false]) (w:=w') rfl s2.env hst ?_ rfl ?_
  ·(apply zD;apply zH;rfl;apply qH;apply zX;apply zY;exact Rd.one' rfl;exact zF)
  ·refine ⟨own'++rest,⟨false,own',rfl,hKv,rfl⟩,?_⟩
   exact ⟨hst.bel,fun p hp=>hst.own p (jI _ (jI _ hp)),(List.pairwise_cons.1 (List.pairwise_cons.1 hst.nd).2).2⟩
 ·rintro ch fs' w' ⟨h,_⟩
  cases h):P:=h
theorem outDI {C:Cu} {fn:Func} {dd:Deferred} {R:Ending→World→Prop} {x:Exit} {ds:List Deferred} {e:Env} {fs:Fs} (hx:x=.ret∨x=.normal) (hd:ds=[dd]) (h:∀ a w,Sat (C.at [dd]) e fs a w→LeavesInM (FR none) 0 C.P fn a.tmps R [dd] .returning w):∃ dd,outD C fn dd R x ds e fs:=by
 rcases hx with rfl|rfl
 ·exact ⟨_,hd,h⟩
 ·exact ⟨_,hd,h⟩
theorem outDP {C:Cu} {fn:Func} {dd:Deferred} {R:Ending→World→Prop} {ch:List PanicEntry} {ds:List Deferred} {e:Env} {fs:Fs} (hd:ds=[dd]) (h:∀ a w,Sat (C.at [dd]) e fs a w→LeavesInM (FR none) 0 C.P fn a.tmps R [dd] (.panicking ch) w):∃ dd,outD C fn dd R (.panic ch) ds e fs:=⟨_,hd,h⟩
theorem leaves_end {C:Cu} {fn:Func} {e:Env} {fs:Fs} {ds:List Deferred} {a:Act} {w:World} {R:Ending→World→Prop} {rs:List ResultVar} {vs:List Value} {v:Value} (hr:fn.results.toList=rs) (ha:EnvOk C.N ds e a) (hs:St C.w0 C.S fs w) (h:ResL C e fs rs vs) (hv:tup vs=v) (hR:R (.returned v) w) :
  LeavesIn (FR none) 0 C.P fn a.tmps R [] .returning w:=⟨_,ResL.runS (by rw [hr];exact h) ha hs,by rw [hv];exact hR⟩
attribute [local irreducible] SL.inP SL.inD SL.outD
abbrev failV:Value:=.iface 126 (.agg #[])
abbrev failC:List PanicEntry:=[{ v:=failV,recovered:=false }]
def NeedK (fs:Fs):Out:=fun x fs'=>x=.panicked failC∧fs'=fs
theorem need_true (w:World):Calls prog 92 #[.bool true] w (Ret w (.tuple #[])):=by
 refine enter (args:=[_]) _ [] [] func92 rfl ntmps92 rfl (by simp) .nil ?_
 exact dTBJyT
theorem need_false (w0:World) (S:List Nat) (fs:Fs) (w:World) (hs:St w0 S fs w):Calls prog 92 #[.bool false] w (fun x w'=>∃ fs',NeedK fs x fs'∧St w0 S fs' w'):=by
 refine qX (args:=[_]) func92 rfl ntmps92 rfl ?_ hs
 (refine goZ ?_;refine bTz ?_;apply qN;rfl;rfl;apply ValP.mkIface;kernel_rfl;rfl;apply LW.panic;rfl)
 exact inPP .nil ⟨rfl,rfl⟩
theorem tries1_idle (w0:World) (S:List Nat) (b:Nat) (x:Bool) (fs:Fs) (w:World) (hs:St w0 S ((b,.cells #[.bool x] 4 (0,0))::fs) w) :
  CallsDIn (FR none) 0 prog 90 #[.pointer (some ⟨b,0,none⟩)] .returning w (fun e u' w'=>u'=.returning∧∃ fs',(e=.returned (.tuple #[])∧fs'=(b,.cells #[.bool x] 4 (0,0))::fs)∧St w0 S fs' w'):=by
 refine callsD_cw (args:=[_]) _ func90 rfl ntmps90 rfl (Rec1.one rfl) ?_ hs
 rw [recV_ret]
 (refine goZ ?_;apply qN;rfl;rfl;apply ValP.eqNilT (U:=0);kernel_rfl;rfl;refine goZ ?_)
 exact inDI (.inr rfl) rfl (by (exact zF)) rfl ⟨rfl,rfl⟩
theorem tries1_failed (w0:World) (S:List Nat) (b:Nat) (x:Bool) (fs:Fs) (w:World) (hs:St w0 S ((b,.cells #[.bool x] 4 (0,0))::fs) w) :
  CallsDIn (FR none) 0 prog 90 #[.pointer (some ⟨b,0,none⟩)] (.panicking failC) w (fun e u' w'=>u'=.panicking [{ v:=failV,recovered:=true }]∧∃ fs',(e=.returned (.tuple #[])∧∃ b2,fs'=b2::(b,.cells #[.bool false] 4 (0,0))::fs)∧St w0 S fs' w'):=by
 refine callsD_cw (args:=[_]) _ func90 rfl ntmps90 rfl (Rec1.one rfl) ?_ hs
 rw [recV_pan]
 (refine goZ ?_;apply qN;rfl;rfl;apply ValP.eqNilF;kernel_rfl;rfl;refine goZ ?_;apply qN;rfl;rfl;apply ValP.assertHit;kernel_rfl;rfl;refine goZ ?_;intro _)
 exact inDI (.inr rfl) rfl (by (exact zF)) rfl ⟨rfl,_,rfl⟩
def TryK (K:Out):Prop:=∀ x fs,K x fs→x=.returned (.tuple #[])∨x=.panicked failC
theorem tries_calls (w0:World) (S:List Nat) (f:FuncId) (cap:Array Value) (K:Out) (hK:TryK K) (hF:FnI prog f) (own rest:Fs) (w:World)
  (hc:∀ rest w',St w0 S (own++rest) w'→Calls prog f cap w' (fun x w''=>∃ fs',(∃ own',K x own'∧fs'=own'++rest)∧St w0 S fs' w'')) (hs:St w0 S (own++rest) w) :
  Calls prog 41 #[.func (.func f) #[] cap] w (fun x w'=>∃ fs',(∃ ok own',x=.returned (.bool ok)∧K (match ok with|true=>.returned (.tuple #[])|false=>.panicked failC) own'∧fs'=own'++rest)∧St w0 S fs' w'):=by
 refine calls_inlineD (args:=[_]) func41 rfl ntmps41 rfl ?_ hs
 (refine goZ ?_;apply LW.alloc1;rfl;rfl;intro _;refine goZ ?_;apply qN;rfl;rfl;apply ValP.makeFunc;exact qT;exact .cons rfl .nil)
 rename_i bok
 apply LW.defer
 rfl
 rfl
 (refine goZ ?_;refine thenM ?_;refine goZ ?_)
 refine qV (fs':=own++(bok,.cells #[.bool false] 4 (0,0))::rest) yX ?_
 refine qP (K:=fun x fs'=>∃ own',K x own'∧fs'=own'++(bok,.cells #[.bool false] 4 (0,0))::rest) rfl rfl hF (by (exact qT)) rfl (fun fs ⟨own',h,_⟩=>by rcases hK _ _ h with h|h<;>cases h) (fun w' hst=>by simpa using hc _ w' hst) ?_ ?_
 ·exact dTBSpj
 ·exact dTBpdD
end
section
def okSc (n k:Nat):Prop:=n≤64∧k≤1024∧k % 32=0
instance (n k:Nat):Decidable (okSc n k):=by unfold okSc;exact vF
section rd
variable {P : Program} {T E : TypeId} {fr : Nat × Nat} {s m : Value}
theorem sc_rd0 [AgI P T false]:Rd P T (.cells #[s,m] E fr) 0 s:=Rd.one rfl
theorem sc_rd1 [AgI P T false]:Rd P T (.cells #[s,m] E fr) 1 m:=Rd.one rfl
end rd
theorem scCheck_calls (p q:Option Addr) (n c k d:Nat) (hn1:n≤maxLen) (hk1:k≤maxLen) (w:World):Calls prog 84 #[.agg #[.slice p n c,.slice q k d]] w (Ret w (.int .i64 (if okSc n k then 0 else 230))):=by
 obtain ⟨e,he⟩:∃ e:Int,e=if okSc n k then 0 else 230:=⟨_,rfl⟩
 have hp:okSc n k→e=0:=fun h=>by rw [he,if_pos h]
 have hn:¬ okSc n k→e=230:=fun h=>by rw [he,if_neg h]
 rw [← he]
 clear he
 unfold okSc at hp hn
 refine enter (args:=[_]) _ [] [] func84 rfl ntmps84 rfl (by simp) .nil ?_
 (refine goZ ?_;intro _;refine lvz (.gtr rfl rfl) ?_;refine goZ ?_)
 (refine LW.guardDF rfl rfl rfl (fun hsq hsp=>?_) (fun hsq hsp=>?_))
 (refine goZ ?_;refine lvz (.gtr rfl rfl) ?_;refine goZ ?_;refine LW.guardDF rfl rfl rfl (fun hsq hsp=>?_) (fun hsq hsp=>?_);refine goZ ?_;refine lvz (.ne rfl rfl) ?_;refine goZ ?_;refine CW.condN rfl (fun hsq hsp=>?_) (fun hsq hsp=>?_);refine goZ ?_;refine fiz ?_;rw [hn (by omega)];rfl;refine goZ ?_;refine fiz ?_;rw [hp (by omega)];rfl;refine goZ ?_;refine fiz ?_;rw [hn (by omega)];rfl;refine goZ ?_;refine fiz ?_;rw [hn (by omega)];rfl)
end
theorem And1_calls (m n:Nat) (hm:m < 18446744073709551616) (hn:n < 18446744073709551616) (w:World):Calls prog 67 #[.int .u64 (m:Int),.int .u64 (n:Int)] w (Ret w (.int .u64 ((m &&& n:Nat):Int))):=by
 refine enter (args:=[_,_]) _ [] [] func67 rfl ntmps67 rfl (by simp) .nil ?_
 (refine goZ ?_;refine lvz (.andU rfl rfl (by omega) (by omega)) ?_;refine goZ ?_)
 (refine fiz ?_)
 rfl
theorem Or1_calls (m n:Nat) (hm:m < 18446744073709551616) (hn:n < 18446744073709551616) (w:World):Calls prog 68 #[.int .u64 (m:Int),.int .u64 (n:Int)] w (Ret w (.int .u64 ((m |||n:Nat):Int))):=by
 refine enter (args:=[_,_]) _ [] [] func68 rfl ntmps68 rfl (by simp) .nil ?_
 (refine goZ ?_;refine lvz (.orU rfl rfl (by omega) (by omega)) ?_;refine goZ ?_)
 (refine fiz ?_)
 rfl
theorem Xor1_calls (m n:Nat) (hm:m < 18446744073709551616) (hn:n < 18446744073709551616) (w:World):Calls prog 69 #[.int .u64 (m:Int),.int .u64 (n:Int)] w (Ret w (.int .u64 ((m ^^^ n:Nat):Int))):=by
 refine enter (args:=[_,_]) _ [] [] func69 rfl ntmps69 rfl (by simp) .nil ?_
 (refine goZ ?_;refine lvz (.xorU rfl rfl (by omega) (by omega)) ?_;refine goZ ?_)
 (refine fiz ?_)
 rfl
theorem Not1_calls (m n:Nat) (hm:m < 18446744073709551616) (w:World):Calls prog 219 #[.int .u64 (m:Int),.int .u64 (n:Int)] w (Ret w (.int .u64 ((18446744073709551615 - m:Nat):Int))):=by
 refine enter (args:=[_,_]) _ [] [] func219 rfl ntmps219 rfl (by simp) .nil ?_
 (refine goZ ?_;refine lvz (.notU rfl (by omega)) ?_;refine goZ ?_)
 (refine fiz ?_)
 rfl
theorem each_calls (f:FuncId) [FnI prog f] (a0 a1 a2 a3 b0 b1 b2 b3 r0 r1 r2 r3:Nat) (w:World)
  (h0:∀ w,Calls prog f #[.int .u64 (a0:Int),.int .u64 (b0:Int)] w (Ret w (.int .u64 (r0:Int))))
  (h1:∀ w,Calls prog f #[.int .u64 (a1:Int),.int .u64 (b1:Int)] w (Ret w (.int .u64 (r1:Int))))
  (h2:∀ w,Calls prog f #[.int .u64 (a2:Int),.int .u64 (b2:Int)] w (Ret w (.int .u64 (r2:Int))))
  (h3:∀ w,Calls prog f #[.int .u64 (a3:Int),.int .u64 (b3:Int)] w (Ret w (.int .u64 (r3:Int)))) :
  Calls prog 66 #[.agg #[.int .u64 a0,.int .u64 a1,.int .u64 a2,.int .u64 a3],.agg #[.int .u64 b0,.int .u64 b1,.int .u64 b2,.int .u64 b3],.func (.func f) #[] #[]] w (Ret w (.agg #[.int .u64 r0,.int .u64 r1,.int .u64 r2,.int .u64 r3])):=by
 refine enter (args:=[_,_,_]) _ [] [] func66 rfl ntmps66 rfl (by simp) .nil ?_
 (refine goZ ?_;intro _ _ _)
 apply CW.rounds 5
 (apply RW.step;refine goZ ?_;refine anz 9 ?_;refine dcz (c:=fun w _ _=>by exact h0 w) (k:=?_);refine lvz (.addI rfl rfl (by omega) (by omega)) ?_;refine goZ ?_;refine thenL ?_)
 (apply RW.step;refine goZ ?_;refine anz 9 ?_;refine dcz (c:=fun w _ _=>by exact h1 w) (k:=?_);refine lvz (.addI rfl rfl (by omega) (by omega)) ?_;refine goZ ?_;refine thenL ?_)
 (apply RW.step;refine goZ ?_;refine anz 9 ?_;refine dcz (c:=fun w _ _=>by exact h2 w) (k:=?_);refine lvz (.addI rfl rfl (by omega) (by omega)) ?_;refine goZ ?_;refine thenL ?_)
 (apply RW.step;refine goZ ?_;refine anz 9 ?_;refine dcz (c:=fun w _ _=>by exact h3 w) (k:=?_);refine lvz (.addI rfl rfl (by omega) (by omega)) ?_;refine goZ ?_;refine thenL ?_)
 (apply RW.step;refine goZ ?_)
 (refine fiz ?_)
 rfl
theorem dQBCqE {P Q:Prop} (k:Q) (h:BoxZ Q→P:=by
 intro kQ
 unfold wc
 rw [show (18446744073709551616:Nat)=2 ^ 64 from rfl,show (340282366920938463463374607431768211456:Nat)=2 ^ 128 from rfl,show (6277101735386680763835789423207666416102355444464034512896:Nat)=2 ^ 192 from rfl]
 exact kQ.k):P:=h ⟨k⟩
theorem dTBkGD {P:Prop} (h:P:=by
 exact wc_val (by omega) (by omega) (by omega) (by omega) (by omega)):P:=h
theorem lim_and (a b:Nat):#[Value.int .u64 ((a % 18446744073709551616 &&& b % 18446744073709551616:Nat):Int),.int .u64 ((a / 18446744073709551616 % 18446744073709551616 &&& b / 18446744073709551616 % 18446744073709551616:Nat):Int),.int .u64 ((a / 340282366920938463463374607431768211456 % 18446744073709551616 &&& b / 340282366920938463463374607431768211456 % 18446744073709551616:Nat):Int),.int .u64 ((a / 6277101735386680763835789423207666416102355444464034512896 % 18446744073709551616 &&& b / 6277101735386680763835789423207666416102355444464034512896 % 18446744073709551616:Nat):Int)]=wc (a &&& b):=by
 refine dQBCqE ?_
 simp only [Nat.and_mod_two_pow,Nat.and_div_two_pow]
theorem lim_or (a b:Nat):#[Value.int .u64 ((a % 18446744073709551616 |||b % 18446744073709551616:Nat):Int),.int .u64 ((a / 18446744073709551616 % 18446744073709551616 |||b / 18446744073709551616 % 18446744073709551616:Nat):Int),.int .u64 ((a / 340282366920938463463374607431768211456 % 18446744073709551616 |||b / 340282366920938463463374607431768211456 % 18446744073709551616:Nat):Int),.int .u64 ((a / 6277101735386680763835789423207666416102355444464034512896 % 18446744073709551616 |||b / 6277101735386680763835789423207666416102355444464034512896 % 18446744073709551616:Nat):Int)]=wc (a |||b):=by
 refine dQBCqE ?_
 simp only [Nat.or_mod_two_pow,Nat.or_div_two_pow]
theorem lim_xor (a b:Nat):#[Value.int .u64 ((a % 18446744073709551616 ^^^ b % 18446744073709551616:Nat):Int),.int .u64 ((a / 18446744073709551616 % 18446744073709551616 ^^^ b / 18446744073709551616 % 18446744073709551616:Nat):Int),.int .u64 ((a / 340282366920938463463374607431768211456 % 18446744073709551616 ^^^ b / 340282366920938463463374607431768211456 % 18446744073709551616:Nat):Int),.int .u64 ((a / 6277101735386680763835789423207666416102355444464034512896 % 18446744073709551616 ^^^ b / 6277101735386680763835789423207666416102355444464034512896 % 18446744073709551616:Nat):Int)]=wc (a ^^^ b):=by
 refine dQBCqE ?_
 simp only [Nat.xor_mod_two_pow,Nat.xor_div_two_pow]
theorem lim_not (a:Nat) (ha:a < M256):#[Value.int .u64 ((18446744073709551615 - a % 18446744073709551616:Nat):Int),.int .u64 ((18446744073709551615 - a / 18446744073709551616 % 18446744073709551616:Nat):Int),.int .u64 ((18446744073709551615 - a / 340282366920938463463374607431768211456 % 18446744073709551616:Nat):Int),.int .u64 ((18446744073709551615 - a / 6277101735386680763835789423207666416102355444464034512896 % 18446744073709551616:Nat):Int)]=wc (M256 - 1 - a):=by
 simp only [M256] at ha ⊢
 exact dTBkGD
theorem And_calls (a b:Nat) (w:World):Calls prog 21 #[wv a,wv b] w (Ret w (wv (a &&& b))):=by
 refine enter (args:=[_,_]) _ [] [] func21 rfl ntmps21 rfl (by simp) .nil ?_
 (refine goZ ?_;intro _ _ _;refine cEz (c:=fun w _=>by exact each_calls _ _ _ _ _ _ _ _ _ _ _ _ _ w (And1_calls _ _ (by omega) (by omega)) (And1_calls _ _ (by omega) (by omega)) (And1_calls _ _ (by omega) (by omega)) (And1_calls _ _ (by omega) (by omega))) (k:=?_))
 (refine fiz ?_)
 exact congrArg Value.agg (lim_and a b)
theorem Or_calls (a b:Nat) (w:World):Calls prog 22 #[wv a,wv b] w (Ret w (wv (a |||b))):=by
 refine enter (args:=[_,_]) _ [] [] func22 rfl ntmps22 rfl (by simp) .nil ?_
 (refine goZ ?_;intro _ _ _;refine cEz (c:=fun w _=>by exact each_calls _ _ _ _ _ _ _ _ _ _ _ _ _ w (Or1_calls _ _ (by omega) (by omega)) (Or1_calls _ _ (by omega) (by omega)) (Or1_calls _ _ (by omega) (by omega)) (Or1_calls _ _ (by omega) (by omega))) (k:=?_))
 (refine fiz ?_)
 exact congrArg Value.agg (lim_or a b)
theorem Xor_calls (a b:Nat) (w:World):Calls prog 23 #[wv a,wv b] w (Ret w (wv (a ^^^ b))):=by
 refine enter (args:=[_,_]) _ [] [] func23 rfl ntmps23 rfl (by simp) .nil ?_
 (refine goZ ?_;intro _ _ _;refine cEz (c:=fun w _=>by exact each_calls _ _ _ _ _ _ _ _ _ _ _ _ _ w (Xor1_calls _ _ (by omega) (by omega)) (Xor1_calls _ _ (by omega) (by omega)) (Xor1_calls _ _ (by omega) (by omega)) (Xor1_calls _ _ (by omega) (by omega))) (k:=?_))
 (refine fiz ?_)
 exact congrArg Value.agg (lim_xor a b)
theorem Not_calls (a:Nat) (ha:a < M256) (w:World):Calls prog 202 #[wv a] w (Ret w (wv (M256 - 1 - a))):=by
 refine enter (args:=[_]) _ [] [] func202 rfl ntmps202 rfl (by simp) .nil ?_
 (refine goZ ?_;intro _ _;refine cEz (c:=fun w _=>by exact each_calls _ _ _ _ _ _ _ _ _ _ _ _ _ w (Not1_calls _ _ (by omega)) (Not1_calls _ _ (by omega)) (Not1_calls _ _ (by omega)) (Not1_calls _ _ (by omega))) (k:=?_))
 (refine fiz ?_)
 exact congrArg Value.agg (lim_not a ha)
theorem add64_run (x y c:Nat) (hc:c≤1) (w:World):(callFunc 61 #[.int .u64 x,.int .u64 y,.int .u64 c]).run prog w=.ok (.value (.tuple #[.int .u64 (((x+y+c) % 18446744073709551616:Nat):Int),.int .u64 (((x+y+c) / 18446744073709551616:Nat):Int)])) w:=by
 rw [run_callFunc_extern func61 (by kernel_rfl) (by kernel_rfl) (by kernel_rfl) (e:=add64Entry) (by kernel_rfl),run_add64 x y c (by omega) (by omega) (by omega) (by omega)]
 simp only [Result.andThen]
 congr 5<;>omega
theorem sub64_run (x y b:Nat) (hb:b≤1) (w:World):(callFunc 62 #[.int .u64 x,.int .u64 y,.int .u64 b]).run prog w=.ok (.value (.tuple #[.int .u64 (((x+18446744073709551616 - y - b) % 18446744073709551616:Nat):Int),.int .u64 ((if x < y+b then 1 else 0:Nat):Int)])) w:=by
 rw [run_callFunc_extern func62 (by kernel_rfl) (by kernel_rfl) (by kernel_rfl) (e:=sub64Entry) (by kernel_rfl),run_sub64 x y b hb]
 rfl
theorem carried_calls (f:FuncId) (a0 a1 a2 a3 b0 b1 b2 b3 r0 r1 r2 r3 c1 c2 c3 c4:Nat) (w:World)
  (h0:∀ w,(callFunc f #[.int .u64 a0,.int .u64 b0,.int .u64 (0:Int)]).run prog w=.ok (.value (.tuple #[.int .u64 r0,.int .u64 c1])) w)
  (h1:∀ w,(callFunc f #[.int .u64 a1,.int .u64 b1,.int .u64 c1]).run prog w=.ok (.value (.tuple #[.int .u64 r1,.int .u64 c2])) w)
  (h2:∀ w,(callFunc f #[.int .u64 a2,.int .u64 b2,.int .u64 c2]).run prog w=.ok (.value (.tuple #[.int .u64 r2,.int .u64 c3])) w)
  (h3:∀ w,(callFunc f #[.int .u64 a3,.int .u64 b3,.int .u64 c3]).run prog w=.ok (.value (.tuple #[.int .u64 r3,.int .u64 c4])) w) :
  Calls prog 60 #[.agg #[.int .u64 a0,.int .u64 a1,.int .u64 a2,.int .u64 a3],.agg #[.int .u64 b0,.int .u64 b1,.int .u64 b2,.int .u64 b3],.func (.func f) #[] #[]] w (Ret w (.tuple #[.agg #[.int .u64 r0,.int .u64 r1,.int .u64 r2,.int .u64 r3],.bool (!decide ((c4:Int)=0))])):=by
 refine enter (args:=[_,_,_]) _ [] [] func60 rfl ntmps60 rfl (by simp) .nil ?_
 (refine goZ ?_;intro _ _ _)
 apply CW.rounds 5
 (apply RW.step;refine goZ ?_;refine anz 15 ?_;apply DW.callX;rfl;rfl;rfl;exact zC;rfl;exact .cons rfl (.cons rfl (.cons rfl .nil));rfl;exact h0;refine goZ ?_;apply DW.store;rfl;rfl;exact zC;rfl;rfl;apply qQ;apply qQ;apply qR;exact zN;kernel_rfl;apply qU;rfl;rfl;simp only [wc,List.size_toArray,yK,List.length_nil];omega;simp only [fillC,wc,wrCells,Value.cells,jD,jA,jF,jE,Nat.reduceAdd,Nat.reduceMul,jH,yE];rfl;refine goZ ?_;refine lvz (.addI rfl rfl (by omega) (by omega)) ?_;refine goZ ?_;refine thenL ?_)
 (apply RW.step;refine goZ ?_;refine anz 15 ?_;apply DW.callX;rfl;rfl;rfl;exact zC;rfl;exact .cons rfl (.cons rfl (.cons rfl .nil));rfl;exact h1;refine goZ ?_;apply DW.store;rfl;rfl;exact zC;rfl;rfl;apply qQ;apply qQ;apply qR;exact zN;kernel_rfl;apply qU;rfl;rfl;simp only [wc,List.size_toArray,yK,List.length_nil];omega;simp only [fillC,wc,wrCells,Value.cells,jD,jA,jF,jE,Nat.reduceAdd,Nat.reduceMul,jH,yE];rfl;refine goZ ?_;refine lvz (.addI rfl rfl (by omega) (by omega)) ?_;refine goZ ?_;refine thenL ?_)
 (apply RW.step;refine goZ ?_;refine anz 15 ?_;apply DW.callX;rfl;rfl;rfl;exact zC;rfl;exact .cons rfl (.cons rfl (.cons rfl .nil));rfl;exact h2;refine goZ ?_;apply DW.store;rfl;rfl;exact zC;rfl;rfl;apply qQ;apply qQ;apply qR;exact zN;kernel_rfl;apply qU;rfl;rfl;simp only [wc,List.size_toArray,yK,List.length_nil];omega;simp only [fillC,wc,wrCells,Value.cells,jD,jA,jF,jE,Nat.reduceAdd,Nat.reduceMul,jH,yE];rfl;refine goZ ?_;refine lvz (.addI rfl rfl (by omega) (by omega)) ?_;refine goZ ?_;refine thenL ?_)
 (apply RW.step;refine goZ ?_;refine anz 15 ?_;apply DW.callX;rfl;rfl;rfl;exact zC;rfl;exact .cons rfl (.cons rfl (.cons rfl .nil));rfl;exact h3;refine goZ ?_;apply DW.store;rfl;rfl;exact zC;rfl;rfl;apply qQ;apply qQ;apply qR;exact zN;kernel_rfl;apply qU;rfl;rfl;simp only [wc,List.size_toArray,yK,List.length_nil];omega;simp only [fillC,wc,wrCells,Value.cells,jD,jA,jF,jE,Nat.reduceAdd,Nat.reduceMul,jH,yE];rfl;refine goZ ?_;refine lvz (.addI rfl rfl (by omega) (by omega)) ?_;refine goZ ?_;refine thenL ?_)
 (apply RW.step;refine goZ ?_;refine lvz (.ne rfl rfl) ?_;refine goZ ?_)
 (refine fiz ?_)
 rfl
theorem Of_calls (n:Nat) (hn:n < 18446744073709551616) (w:World):Calls prog 98 #[.int .u64 n] w (Ret w (wv n)):=by
 refine enter (args:=[_]) _ [] [] func98 rfl ntmps98 rfl (by simp) .nil ?_
 (refine goZ ?_;intro _;refine lvz (.buildW1 rfl (by omega)) ?_;refine goZ ?_)
 (refine fiz ?_)
 rfl
theorem small_or (a:Nat) (ha:a < M256):(((a / 18446744073709551616 % 18446744073709551616 |||a / 340282366920938463463374607431768211456 % 18446744073709551616 |||a / 6277101735386680763835789423207666416102355444464034512896 % 18446744073709551616:Nat):Int)=0)↔a < 18446744073709551616:=by
 simp only [M256] at ha
 rw [Int.natCast_eq_zero,Nat.or_eq_zero_iff,Nat.or_eq_zero_iff]
 omega
theorem Small_calls (a:Nat) (ha:a < M256) (w:World):Calls prog 116 #[wv a] w (Ret w (.tuple #[.int .u64 ((if a < 18446744073709551616 then a else 0:Nat):Int),.bool (decide (a < 18446744073709551616))])):=by
 refine enter (args:=[_]) _ [] [] func116 rfl ntmps116 rfl (by simp) .nil ?_
 (refine goZ ?_;intro _;refine lvz (.orU rfl rfl (by omega) (by omega)) ?_;refine goZ ?_;apply qN;rfl;rfl;apply ValP.orU;rfl;rfl;apply or64;omega;omega;omega;refine lvz (.ne rfl rfl) ?_;refine goZ ?_)
 apply CW.cond
 rfl
 ·intro hb
  have h:¬ a < 18446744073709551616:=fun h=>by rw [vE ((small_or a ha).2 h)] at hb;cases hb
  (refine goZ ?_)
  (refine fiz ?_)
  rw [if_neg h,vA h];rfl
 ·intro hb
  have h:a < 18446744073709551616:=(small_or a ha).1 (by simpa using hb)
  (refine goZ ?_)
  (refine fiz ?_)
  rw [if_pos h,vE h,show (a:Int)=((a % 18446744073709551616:Nat):Int) by omega];rfl
theorem val_limbs (a:Nat) (ha:a < M256):a=a % 18446744073709551616+18446744073709551616 * (a / 18446744073709551616 % 18446744073709551616)+340282366920938463463374607431768211456 * (a / 340282366920938463463374607431768211456 % 18446744073709551616)+6277101735386680763835789423207666416102355444464034512896 * (a / 6277101735386680763835789423207666416102355444464034512896 % 18446744073709551616):=by
 simp only [M256] at ha
 omega
theorem over_of {c:Nat} {p:Prop} [Decidable p] (h:(c:Int)=0↔¬ p):(!decide ((c:Int)=0))=decide p:=by
 by_cases hp:p
 ·have:¬ ((c:Int)=0):=fun h'=>(h.1 h') hp
  rw [vA this,vE hp];rfl
 ·rw [vE (h.2 hp),vA hp];rfl
theorem lim_lt (a:Nat):a % 18446744073709551616 < 18446744073709551616∧a / 18446744073709551616 % 18446744073709551616 < 18446744073709551616∧a / 340282366920938463463374607431768211456 % 18446744073709551616 < 18446744073709551616∧a / 6277101735386680763835789423207666416102355444464034512896 % 18446744073709551616 < 18446744073709551616:=by
 refine ⟨?_,?_,?_,?_⟩<;>exact yS _ (by decide)
theorem add_step (x y c:Nat) (hx:x < 18446744073709551616) (hy:y < 18446744073709551616) (hc:c≤1):∃ r c',(∀ w,(callFunc 61 #[.int .u64 x,.int .u64 y,.int .u64 c]).run prog w=.ok (.value (.tuple #[.int .u64 (r:Nat),.int .u64 (c':Nat)])) w)∧r+18446744073709551616 * c'=x+y+c∧r < 18446744073709551616∧c'≤1 :=
 ⟨_,_,fun w=>add64_run x y c hc w,by omega,by omega,by omega⟩
theorem sub_step (x y c:Nat) (hx:x < 18446744073709551616) (hy:y < 18446744073709551616) (hc:c≤1):∃ r c',(∀ w,(callFunc 62 #[.int .u64 x,.int .u64 y,.int .u64 c]).run prog w=.ok (.value (.tuple #[.int .u64 (r:Nat),.int .u64 (c':Nat)])) w)∧r+y+c=x+18446744073709551616 * c'∧r < 18446744073709551616∧c'≤1:=by
 refine ⟨_,_,fun w=>sub64_run x y c hc w,?_,by omega,?_⟩<;>split<;>omega
theorem carried_finAdd (a b a0 a1 a2 a3 b0 b1 b2 b3 r0 r1 r2 r3 c1 c2 c3 c4:Nat) (va:a=a0+18446744073709551616 * a1+340282366920938463463374607431768211456 * a2+6277101735386680763835789423207666416102355444464034512896 * a3) (vb:b=b0+18446744073709551616 * b1+340282366920938463463374607431768211456 * b2+6277101735386680763835789423207666416102355444464034512896 * b3) (e0:r0+18446744073709551616 * c1=a0+b0+0) (e1:r1+18446744073709551616 * c2=a1+b1+c1) (e2:r2+18446744073709551616 * c3=a2+b2+c2) (e3:r3+18446744073709551616 * c4=a3+b3+c3):r0+18446744073709551616 * r1+340282366920938463463374607431768211456 * r2+6277101735386680763835789423207666416102355444464034512896 * r3+115792089237316195423570985008687907853269984665640564039457584007913129639936 * c4=a+b:=by omega
theorem carried_valAdd (a b r0 r1 r2 r3 c4:Nat) (ha:a < M256) (hb:b < M256) (f0:r0 < 18446744073709551616) (f1:r1 < 18446744073709551616) (f2:r2 < 18446744073709551616) (f3:r3 < 18446744073709551616) (g4:c4≤1) (h:r0+18446744073709551616 * r1+340282366920938463463374607431768211456 * r2+6277101735386680763835789423207666416102355444464034512896 * r3+115792089237316195423570985008687907853269984665640564039457584007913129639936 * c4=a+b):#[Value.int .u64 (r0:Int),.int .u64 (r1:Int),.int .u64 (r2:Int),.int .u64 (r3:Int)]=wc ((a+b) % M256) :=
 wc_val f0 f1 f2 f3 (by simp only [M256] at *;omega)
theorem carried_overAdd (a b r0 r1 r2 r3 c4:Nat) (ha:a < M256) (hb:b < M256) (f0:r0 < 18446744073709551616) (f1:r1 < 18446744073709551616) (f2:r2 < 18446744073709551616) (f3:r3 < 18446744073709551616) (g4:c4≤1) (h:r0+18446744073709551616 * r1+340282366920938463463374607431768211456 * r2+6277101735386680763835789423207666416102355444464034512896 * r3+115792089237316195423570985008687907853269984665640564039457584007913129639936 * c4=a+b):(!decide ((c4:Int)=0))=decide (M256≤a+b):=by
 have:((c4:Int)=0)↔¬ (M256≤a+b):=by simp only [M256] at *;omega
 exact over_of this
theorem carriedAdd_calls (a b:Nat) (ha:a < M256) (hb:b < M256) (w:World):Calls prog 60 #[wv a,wv b,.func (.func 61) #[] #[]] w (Ret w (.tuple #[wv ((a+b) % M256),.bool (decide (M256≤a+b))])):=by
 obtain ⟨la0,la1,la2,la3⟩:=lim_lt a
 obtain ⟨lb0,lb1,lb2,lb3⟩:=lim_lt b
 have va:=val_limbs a ha
 have vb:=val_limbs b hb
 obtain ⟨r0,c1,h0,e0,f0,g1⟩:=add_step (a % 18446744073709551616) (b % 18446744073709551616) 0 la0 lb0 (by decide)
 obtain ⟨r1,c2,h1,e1,f1,g2⟩:=add_step (a / 18446744073709551616 % 18446744073709551616) (b / 18446744073709551616 % 18446744073709551616) c1 la1 lb1 g1
 obtain ⟨r2,c3,h2,e2,f2,g3⟩:=add_step (a / 340282366920938463463374607431768211456 % 18446744073709551616) (b / 340282366920938463463374607431768211456 % 18446744073709551616) c2 la2 lb2 g2
 obtain ⟨r3,c4,h3,e3,f3,g4⟩:=add_step (a / 6277101735386680763835789423207666416102355444464034512896 % 18446744073709551616) (b / 6277101735386680763835789423207666416102355444464034512896 % 18446744073709551616) c3 la3 lb3 g3
 have key:=carried_calls 61 _ _ _ _ _ _ _ _ _ _ _ _ _ _ _ _ w h0 h1 h2 h3
 clear h0 h1 h2 h3
 have h:r0+18446744073709551616 * r1+340282366920938463463374607431768211456 * r2+6277101735386680763835789423207666416102355444464034512896 * r3+115792089237316195423570985008687907853269984665640564039457584007913129639936 * c4=a+b:=carried_finAdd _ _ _ _ _ _ _ _ _ _ _ _ _ _ _ _ _ _ va vb e0 e1 e2 e3
 rw [show #[Value.int .u64 (r0:Int),.int .u64 (r1:Int),.int .u64 (r2:Int),.int .u64 (r3:Int)]=wc ((a+b) % M256) from carried_valAdd _ _ _ _ _ _ _ ha hb f0 f1 f2 f3 g4 h,carried_overAdd _ _ _ _ _ _ _ ha hb f0 f1 f2 f3 g4 h] at key
 exact key
theorem carried_finSub (a b a0 a1 a2 a3 b0 b1 b2 b3 r0 r1 r2 r3 c1 c2 c3 c4:Nat) (va:a=a0+18446744073709551616 * a1+340282366920938463463374607431768211456 * a2+6277101735386680763835789423207666416102355444464034512896 * a3) (vb:b=b0+18446744073709551616 * b1+340282366920938463463374607431768211456 * b2+6277101735386680763835789423207666416102355444464034512896 * b3) (e0:r0+b0+0=a0+18446744073709551616 * c1) (e1:r1+b1+c1=a1+18446744073709551616 * c2) (e2:r2+b2+c2=a2+18446744073709551616 * c3) (e3:r3+b3+c3=a3+18446744073709551616 * c4):r0+18446744073709551616 * r1+340282366920938463463374607431768211456 * r2+6277101735386680763835789423207666416102355444464034512896 * r3+b=a+115792089237316195423570985008687907853269984665640564039457584007913129639936 * c4:=by omega
theorem carried_valSub (a b r0 r1 r2 r3 c4:Nat) (ha:a < M256) (hb:b < M256) (f0:r0 < 18446744073709551616) (f1:r1 < 18446744073709551616) (f2:r2 < 18446744073709551616) (f3:r3 < 18446744073709551616) (g4:c4≤1) (h:r0+18446744073709551616 * r1+340282366920938463463374607431768211456 * r2+6277101735386680763835789423207666416102355444464034512896 * r3+b=a+115792089237316195423570985008687907853269984665640564039457584007913129639936 * c4):#[Value.int .u64 (r0:Int),.int .u64 (r1:Int),.int .u64 (r2:Int),.int .u64 (r3:Int)]=wc ((a+M256 - b) % M256) :=
 wc_val f0 f1 f2 f3 (by simp only [M256] at *;omega)
theorem carried_overSub (a b r0 r1 r2 r3 c4:Nat) (ha:a < M256) (hb:b < M256) (f0:r0 < 18446744073709551616) (f1:r1 < 18446744073709551616) (f2:r2 < 18446744073709551616) (f3:r3 < 18446744073709551616) (g4:c4≤1) (h:r0+18446744073709551616 * r1+340282366920938463463374607431768211456 * r2+6277101735386680763835789423207666416102355444464034512896 * r3+b=a+115792089237316195423570985008687907853269984665640564039457584007913129639936 * c4):(!decide ((c4:Int)=0))=decide (a < b):=by
 have:((c4:Int)=0)↔¬ (a < b):=by simp only [M256] at *;omega
 exact over_of this
theorem carriedSub_calls (a b:Nat) (ha:a < M256) (hb:b < M256) (w:World):Calls prog 60 #[wv a,wv b,.func (.func 62) #[] #[]] w (Ret w (.tuple #[wv ((a+M256 - b) % M256),.bool (decide (a < b))])):=by
 obtain ⟨la0,la1,la2,la3⟩:=lim_lt a
 obtain ⟨lb0,lb1,lb2,lb3⟩:=lim_lt b
 have va:=val_limbs a ha
 have vb:=val_limbs b hb
 obtain ⟨r0,c1,h0,e0,f0,g1⟩:=sub_step (a % 18446744073709551616) (b % 18446744073709551616) 0 la0 lb0 (by decide)
 obtain ⟨r1,c2,h1,e1,f1,g2⟩:=sub_step (a / 18446744073709551616 % 18446744073709551616) (b / 18446744073709551616 % 18446744073709551616) c1 la1 lb1 g1
 obtain ⟨r2,c3,h2,e2,f2,g3⟩:=sub_step (a / 340282366920938463463374607431768211456 % 18446744073709551616) (b / 340282366920938463463374607431768211456 % 18446744073709551616) c2 la2 lb2 g2
 obtain ⟨r3,c4,h3,e3,f3,g4⟩:=sub_step (a / 6277101735386680763835789423207666416102355444464034512896 % 18446744073709551616) (b / 6277101735386680763835789423207666416102355444464034512896 % 18446744073709551616) c3 la3 lb3 g3
 have key:=carried_calls 62 _ _ _ _ _ _ _ _ _ _ _ _ _ _ _ _ w h0 h1 h2 h3
 clear h0 h1 h2 h3
 have h:r0+18446744073709551616 * r1+340282366920938463463374607431768211456 * r2+6277101735386680763835789423207666416102355444464034512896 * r3+b=a+115792089237316195423570985008687907853269984665640564039457584007913129639936 * c4:=carried_finSub _ _ _ _ _ _ _ _ _ _ _ _ _ _ _ _ _ _ va vb e0 e1 e2 e3
 rw [show #[Value.int .u64 (r0:Int),.int .u64 (r1:Int),.int .u64 (r2:Int),.int .u64 (r3:Int)]=wc ((a+M256 - b) % M256) from carried_valSub _ _ _ _ _ _ _ ha hb f0 f1 f2 f3 g4 h,carried_overSub _ _ _ _ _ _ _ ha hb f0 f1 f2 f3 g4 h] at key
 exact key
theorem Add_calls (a b:Nat) (ha:a < M256) (hb:b < M256) (w:World):Calls prog 17 #[wv a,wv b] w (Ret w (.tuple #[wv ((a+b) % M256),.bool (decide (M256≤a+b))])):=by
 refine enter (args:=[_,_]) _ [] [] func17 rfl ntmps17 rfl (by simp) .nil ?_
 (refine goZ ?_;intro _ _ _;apply zS;rfl;rfl;exact vF;exact .cons rfl (.cons rfl (.cons rfl .nil));intro w _;refine carriedAdd_calls _ _ ?_ ?_ w;assumption;assumption;refine goZ ?_)
 (refine fiz ?_)
 rfl
theorem Sub_calls (a b:Nat) (ha:a < M256) (hb:b < M256) (w:World):Calls prog 18 #[wv a,wv b] w (Ret w (.tuple #[wv ((a+M256 - b) % M256),.bool (decide (a < b))])):=by
 refine enter (args:=[_,_]) _ [] [] func18 rfl ntmps18 rfl (by simp) .nil ?_
 (refine goZ ?_;intro _ _ _;apply zS;rfl;rfl;exact vF;exact .cons rfl (.cons rfl (.cons rfl .nil));intro w _;refine carriedSub_calls _ _ ?_ ?_ w;assumption;assumption;refine goZ ?_)
 (refine fiz ?_)
 rfl
theorem dQBctv {P Q:Prop} (k:Q) (h:BoxZ Q→P:=by
 intro kQ
 (refine goZ ?_;refine lvz (.subI rfl rfl (by omega) (by omega)) ?_;refine goZ ?_;refine thenL ?_)
 exact kQ.k):P:=h ⟨k⟩
theorem dQBwbj {P Q:Prop} (k:Q) (h:BoxZ Q→P:=by
 intro kQ
 (refine goZ ?_;refine anz 6 ?_;refine lvz (.gtr rfl rfl) ?_;refine goZ ?_)
 exact kQ.k):P:=h ⟨k⟩
theorem dTBDCQ {P:Prop} (h:P:=by
 intro hq
 simp only [decide_eq_true_eq] at hq
 (refine goZ ?_)
 (refine fiz ?_)
 (rw [if_neg (by omega),if_pos (by omega)];rfl)):P:=h
theorem dTBHTn {P:Prop} (h:P:=by
 intro hq
 simp only [decide_eq_true_eq] at hq
 (refine goZ ?_)
 (refine fiz ?_)
 (rw [if_pos (by omega)];rfl)):P:=h
theorem Cmp_calls (a b:Nat) (ha:a < M256) (hb:b < M256) (w:World):Calls prog 65 #[wv a,wv b] w (Ret w (.int .i64 (if a < b then -1 else if b < a then 1 else 0))):=by
 simp only [M256] at ha hb
 refine enter (args:=[_,_]) _ [] [] func65 rfl ntmps65 rfl (by simp) .nil ?_
 (refine goZ ?_;intro _ _)
 apply CW.rounds 5
 (apply RW.step;refine goZ ?_;refine anz 6 ?_;refine lvz (.lss rfl rfl) ?_;refine goZ ?_)
 apply CW.cond
 rfl
 ·exact dTBHTn
 intro hq
 simp only [decide_eq_false_iff_not] at hq
 refine dQBwbj ?_
 apply CW.cond
 rfl
 ·exact dTBDCQ
 intro hq
 simp only [decide_eq_false_iff_not] at hq
 refine dQBctv ?_
 (apply RW.step;refine goZ ?_;refine anz 6 ?_;refine lvz (.lss rfl rfl) ?_;refine goZ ?_)
 apply CW.cond
 rfl
 ·exact dTBHTn
 intro hq
 simp only [decide_eq_false_iff_not] at hq
 refine dQBwbj ?_
 apply CW.cond
 rfl
 ·exact dTBDCQ
 intro hq
 simp only [decide_eq_false_iff_not] at hq
 refine dQBctv ?_
 (apply RW.step;refine goZ ?_;refine anz 6 ?_;refine lvz (.lss rfl rfl) ?_;refine goZ ?_)
 apply CW.cond
 rfl
 ·exact dTBHTn
 intro hq
 simp only [decide_eq_false_iff_not] at hq
 refine dQBwbj ?_
 apply CW.cond
 rfl
 ·exact dTBDCQ
 intro hq
 simp only [decide_eq_false_iff_not] at hq
 refine dQBctv ?_
 (apply RW.step;refine goZ ?_;refine anz 6 ?_;refine lvz (.lss rfl rfl) ?_;refine goZ ?_)
 apply CW.cond
 rfl
 ·exact dTBHTn
 intro hq
 simp only [decide_eq_false_iff_not] at hq
 refine dQBwbj ?_
 apply CW.cond
 rfl
 ·exact dTBDCQ
 intro hq
 simp only [decide_eq_false_iff_not] at hq
 refine dQBctv ?_
 (apply RW.step;refine goZ ?_)
 (refine fiz ?_)
 (rw [if_neg (by omega),if_neg (by omega)];rfl)
theorem moves_calls (n:Nat) (hn:n < M256) (w:World):Calls prog 70 #[wv n] w (Ret w (.int .i64 ((min n 256:Nat):Int))):=by
 refine enter (args:=[_]) _ [] [] func70 rfl ntmps70 rfl (by simp) .nil ?_
 by_cases h:n < 18446744073709551616
 ·have h0:=Small_calls n hn
  rw [if_pos h,vE h] at h0
  by_cases h':n < 256
  ·(refine goZ ?_;intro _;refine cEv h0 ?_)
   (refine fiz ?_)
   rw [Nat.min_eq_left (by omega)];rfl
  ·(refine goZ ?_;intro _;refine cEv h0 ?_)
   (refine fiz ?_)
   rw [Nat.min_eq_right (by omega)];rfl
 ·have h0:=Small_calls n hn
  rw [if_neg h,vA h] at h0
  (refine goZ ?_;intro _;refine cEv h0 ?_)
  (refine fiz ?_)
  rw [Nat.min_eq_right (by omega)];rfl
theorem dQBqfP {P Q:Prop} (k:Q) (h:BoxZ Q→P:=by
 intro kQ
 (refine goZ ?_;apply LW.load;rfl;rfl;apply qH;apply zX;apply zX;apply zY;apply Rd.one';apply nth_wc;omega;refine goZ ?_;refine lvz (.shrU rfl rfl (by omega)) ?_;apply qN;rfl;rfl;apply ValP.andUL;rfl;rfl;decide;apply div64;omega;omega)
 rw [hbit]
 exact kQ.k):P:=h ⟨k⟩
theorem or_bit (x c:Nat) (hx:x % 2=0) (hc:c < 2):x |||c=x+c:=by
 have h:=Nat.two_pow_add_eq_or_of_lt (i:=1) (b:=c) (by simpa using hc) (x / 2)
 have e:2 ^ 1 * (x / 2)=x:=by omega
 rw [e] at h
 exact h.symm
theorem fold_bit (n c:Nat) (hn:n % 2=0) (hc:c < 2) (hM:n+c < M256):#[Value.int .u64 ((n % 18446744073709551616 |||c:Nat):Int),.int .u64 ((n / 18446744073709551616 % 18446744073709551616:Nat):Int),.int .u64 ((n / 340282366920938463463374607431768211456 % 18446744073709551616:Nat):Int),.int .u64 ((n / 6277101735386680763835789423207666416102355444464034512896 % 18446744073709551616:Nat):Int)]=wc (n+c):=by
 rw [or_bit _ _ (by omega) hc]
 simp only [M256] at hM
 exact dTBkGD
theorem bit_and (a k:Nat) (hk:k < 256):a / 2 ^ (64 * (k / 64)) % 18446744073709551616 / 2 ^ (k % 64) &&& 1=a / 2 ^ k % 2:=by
 rw [Nat.and_one_is_mod,show (18446744073709551616:Nat)=2 ^ (k % 64+(64 - k % 64)) by rw [show k % 64+(64 - k % 64)=64 by omega]]
 rw [yV,Nat.mod_mul_right_div_self,yO,← yV,show 64 * (k / 64)+k % 64=k by omega]
 obtain ⟨j,hj⟩:∃ j,64 - k % 64=j+1:=⟨63 - k % 64,by omega⟩
 rw [hj,Nat.pow_succ,Nat.mod_mod_of_dvd _ ⟨2 ^ j,by rw [yZ]⟩]
theorem div_step (A b q r c:Nat) (hb:0 < b) (hq:q=A / b) (hr:r=A % b) (hc:c < 2) (h:b≤2 * r+c):(2 * A+c) / b=2 * q+1∧(2 * A+c) % b=2 * r+c - b:=by
 have h1:=Nat.div_add_mod A b
 have h2:=yS A hb
 rw [← hq,← hr] at h1
 rw [← hr] at h2
 refine (Nat.div_mod_unique hb).2 ⟨?_,by omega⟩
 have h3:b * (2 * q+1)=2 * (b * q)+b:=by rw [Nat.mul_add,Nat.mul_left_comm,yE]
 rw [h3];omega
theorem div_step' (A b q r c:Nat) (hb:0 < b) (hq:q=A / b) (hr:r=A % b) (hc:c < 2) (h:¬ b≤2 * r+c):(2 * A+c) / b=2 * q∧(2 * A+c) % b=2 * r+c:=by
 have h1:=Nat.div_add_mod A b
 rw [← hq,← hr] at h1
 refine (Nat.div_mod_unique hb).2 ⟨?_,by omega⟩
 have h3:b * (2 * q)=2 * (b * q):=Nat.mul_left_comm _ _ _
 rw [h3];omega
theorem sub_eq (r c b n:Nat) (hr:r < b) (hb:b < M256) (hc:c < 2) (hn:n=(r+r) % M256) (h:b≤2 * r+c):(n+c+M256 - b) % M256=2 * r+c - b:=by
 simp only [M256] at *
 omega
theorem Div_calls0 (a:Nat) (w:World):Calls prog 20 #[wv a,wv 0] w (Ret w (.tuple #[wv 0,wv 0])):=by
 refine enter (args:=[_,_]) _ [] [] func20 rfl ntmps20 rfl (by simp) .nil ?_
 (refine goZ ?_;intro _ _ _ _ _ _;apply qN;rfl;rfl;exact ValP.buildW0;refine lvz (.eqWT rfl rfl (by with_reducible rfl)) ?_;refine goZ ?_;refine anz 3 ?_;apply DW.store;rfl;rfl;exact zC;rfl;rfl;apply qQ;apply qQ;apply qQ;apply qR;exact zN;exact zN;apply Wr.whole;rfl;rfl;rfl;refine goZ ?_)
 (refine fiz ?_)
 rfl
theorem Div_calls (a b:Nat) (ha:a < M256) (hb:b < M256) (h0:b ≠ 0) (w:World):Calls prog 20 #[wv a,wv b] w (Ret w (.tuple #[wv (a / b),wv (a % b)])):=by
 have hz:(0:Nat) < M256:=by decide
 have hb0:0 < b:=Nat.pos_of_ne_zero h0
 obtain ⟨R,hR⟩:∃ R:Nat→Nat,∀ m,R m=a / 2 ^ m % b:=⟨_,fun _=>rfl⟩
 obtain ⟨D,hD⟩:∃ D:Nat→Nat,∀ m,D m=a / 2 ^ m / b:=⟨_,fun _=>rfl⟩
 have hRb:∀ m,R m < b:=fun m=>by rw [hR];exact yS _ hb0
 have hDm:∀ m,D m≤a / 2 ^ m:=fun m=>by rw [hD];exact Nat.div_le_self _ _
 have hAk:∀ k,a / 2 ^ k=2 * (a / 2 ^ (k+1))+a / 2 ^ k % 2:=fun k=>by rw [Nat.pow_succ,← yO];omega
 have hAm:∀ m,a / 2 ^ m≤a:=fun m=>Nat.div_le_self _ _
 refine enter (args:=[_,_]) _ [] [] func20 rfl ntmps20 rfl (by simp) .nil ?_
 (refine goZ ?_;intro _ _ _ _ _ _;apply qN;rfl;rfl;exact ValP.buildW0;refine lvz (.eqWF rfl rfl (by assumption) (by assumption) (by assumption)) ?_;refine goZ ?_)
 apply LW.inline
 rfl
 rfl
 exact vF
 (exact .cons rfl .nil)
 rfl
 exact func64
 rfl
 exact ntmps64
 rfl
 (refine goZ ?_;intro _;apply qN;rfl;rfl;apply ValP.makeFunc;exact qT;exact .cons rfl .nil;refine goZ ?_)
 apply inI
 (exact .inl rfl)
 (exact Shut.nil)
 rfl
 (apply zD;exact zG rfl;exact zF)
 rfl
 (refine goZ ?_)
 apply CW.rangeFunc
 rfl
 rfl
 exact vF
 rfl
 exact func115
 rfl
 exact ntmps115
 rfl
 rfl
 intro l r rec hrec
 (refine goZ ?_)
 rename_i b2 b3 b4 b5 b6 b7 bd
 refine qM (fun m:Nat=>([(3,.int .i64 ((m:Int) - 1)),(0,.func (.yield l) #[] #[]),(1,.pointer (some ⟨bd,0,none⟩))],
  [(l,rdy rec),(r,.deferred (some [])),(bd,.cells (wc a) 29 (0,0)),(b7,.cells (wc (R m)) 29 (0,0)),(b6,.cells (wc (D m)) 29 (0,0)),(b5,.cells (wc 0) 29 (0,0)),(b4,.cells (wc 0) 29 (0,0)),(b3,.cells (wc b) 29 (0,0)),(b2,.cells (wc a) 29 (0,0))]))
  (fun m=>m≤256) (fun m=>m) 256 (yD _) ⟨rfl,rfl,rfl,trivial⟩ ?_ ?_
 ·rw [hR,hD,show a / 2 ^ 256=0 from Nat.div_eq_of_lt ha,Nat.zero_mod,Nat.zero_div]
  exact jG _
 ·intro m hm
  dsimp only
  rcases m with _|k
  ·(refine goZ ?_)
   apply rangeN
   (exact .inr rfl)
   (exact Shut.nil)
   (apply qA)
   (refine goZ ?_;refine thenM ?_;refine goZ ?_;refine anz 3 ?_;apply DW.store;rfl;rfl;exact zC;rfl;rfl;apply qQ;apply qQ;apply qQ;apply qQ;apply qQ;apply qQ;apply qR;exact zN;exact zN;apply Wr.whole;rfl;rfl;rfl;refine goZ ?_)
   (apply finRM;exact .inl rfl;apply Shut.cons;apply qE;apply qA;exact Shut.nil;rfl;rfl;apply zD;apply zH;rfl;apply qH;apply zX;apply zX;apply zX;apply zX;apply zX;apply zX;apply zY;exact qI rfl;apply zD;apply zH;rfl;apply qH;apply zX;apply zX;apply zX;apply zX;apply zX;apply zY;exact qI rfl;exact zF)
   rw [hD,hR,Nat.pow_zero,Nat.div_one];rfl
  ·have e0:(((k+1:Nat):Int) - 1)=(k:Int):=by omega
   rw [e0]
   have hbit:a / 2 ^ (64 * (0+k / 64 * 1)) % 18446744073709551616 / 2 ^ (k % 64) &&& 1=a / 2 ^ k % 2:=by rw [show 0+k / 64 * 1=k / 64 by omega];exact bit_and a k (by omega)
   obtain ⟨c,hc⟩:∃ c,c=a / 2 ^ k % 2:=⟨_,rfl⟩
   rw [← hc] at hbit
   have hc2:c < 2:=by omega
   have hak:=hAk k
   rw [← hc] at hak
   have hrb:=hRb (k+1)
   have hrb':=hRb k
   have hdm:=hDm (k+1)
   have hdm':=hDm k
   have ham:=hAm k
   have ham':=hAm (k+1)
   have hx:b≤2 * R (k+1)+c→D k=2 * D (k+1)+1∧R k=2 * R (k+1)+c - b:=fun h=>by
    rw [hD k,hR k,hak];exact div_step _ b _ _ c hb0 (hD _) (hR _) hc2 h
   have hy:¬ b≤2 * R (k+1)+c→D k=2 * D (k+1)∧R k=2 * R (k+1)+c:=fun h=>by
    rw [hD k,hR k,hak];exact div_step' _ b _ _ c hb0 (hD _) (hR _) hc2 h
   clear hR hD hRb hDm hAk hAm
   obtain ⟨n,hn⟩:∃ n,n=(R (k+1)+R (k+1)) % M256:=⟨_,rfl⟩
   have hA:=Add_calls (R (k+1)) (R (k+1)) (by omega) (by omega)
   have hQ:=Add_calls (D (k+1)) (D (k+1)) (by omega) (by omega)
   rw [← hn] at hA
   have hn2:n % 2=0:=by simp only [M256] at *;omega
   have hnM:n+c < M256:=by simp only [M256] at *;omega
   have hf:=fold_bit n c hn2 hc2 hnM
   have hS:=Sub_calls (n+c) b hnM hb
   have hC0:=Cmp_calls (n+c) b hnM hb
   by_cases h:b≤2 * R (k+1)+c
   ·obtain ⟨x1,x2⟩:=hx h
    have e7:(n+c+M256 - b) % M256=R k:=by rw [x2];exact sub_eq _ c b n hrb hb hc2 hn h
    have hd:D (k+1)+D (k+1)+1 < M256:=by omega
    have hdd:(D (k+1)+D (k+1)) % M256=D (k+1)+D (k+1):=jY (by omega)
    have e6:(D (k+1)+D (k+1)) % M256+1=D k:=by rw [hdd];omega
    have hf6:=fold_bit ((D (k+1)+D (k+1)) % M256) 1 (by rw [hdd];omega) (by decide) (by rw [hdd];omega)
    rw [e6] at hf6
    by_cases h1:M256≤R (k+1)+R (k+1)
    ·rw [vE h1] at hA
     have hC:=hC0
     refine dQBqfP ?_
     apply LW.yield
     rfl
     rfl
     (exact .cons rfl .nil)
     exact hrec
     (apply zY)
     rfl
     rfl
     (refine goZ ?_;apply beginI;apply qA;refine goZ ?_;refine cEv hA ?_;intro _;refine lvz (.orU rfl rfl (by omega) (by omega)) ?_;refine goZ ?_;refine cEv hQ ?_;apply zS;rfl;rfl;exact vF;exact .cons rfl (.cons rfl .nil);intro w _;rw [hf];exact hS w;refine goZ ?_;refine lvz (.orUL rfl rfl (by decide) (by omega) (by omega)) ?_;refine goZ ?_;apply roundN;apply qE;apply qA;refine goZ ?_;refine lvz (.subI rfl rfl (by omega) (by omega)) ?_;refine goZ ?_)
     rw [e7,hf6]
     refine thenX ⟨rfl,k,by omega,by omega,⟨rfl,rfl,rfl,trivial⟩,?_⟩
     (apply jK;exact jG _)
    ·rw [vA h1] at hA
     have h2:¬ n+c < b:=by rw [hn,jY (by omega)];omega
     obtain ⟨z,hz0,hC⟩:∃ z:Int,0≤z∧∀ w,Calls prog 65 #[wv (n+c),wv b] w (Ret w (.int .i64 z)):=by
      rw [if_neg h2] at hC0
      by_cases h3:b < n+c
      ·rw [if_pos h3] at hC0;exact ⟨1,by decide,hC0⟩
      ·rw [if_neg h3] at hC0;exact ⟨0,by decide,hC0⟩
     refine dQBqfP ?_
     apply LW.yield
     rfl
     rfl
     (exact .cons rfl .nil)
     exact hrec
     (apply zY)
     rfl
     rfl
     (refine goZ ?_;apply beginI;apply qA;refine goZ ?_;refine cEv hA ?_;intro _;refine lvz (.orU rfl rfl (by omega) (by omega)) ?_;refine goZ ?_;refine cEv hQ ?_;apply zS;rfl;rfl;exact vF;exact .cons rfl (.cons rfl .nil);intro w _;rw [hf];exact hC w;refine goZ ?_;apply zS;rfl;rfl;exact vF;exact .cons rfl (.cons rfl .nil);intro w _;rw [hf];exact hS w;refine goZ ?_;refine lvz (.orUL rfl rfl (by decide) (by omega) (by omega)) ?_;refine goZ ?_;apply roundN;apply qE;apply qA;refine goZ ?_;refine lvz (.subI rfl rfl (by omega) (by omega)) ?_;refine goZ ?_)
     rw [e7,hf6]
     refine thenX ⟨rfl,k,by omega,by omega,⟨rfl,rfl,rfl,trivial⟩,?_⟩
     (apply jK;exact jG _)
   ·obtain ⟨x1,x2⟩:=hy h
    have h1:¬ M256≤R (k+1)+R (k+1):=by omega
    rw [vA h1] at hA
    have h2:n+c < b:=by rw [hn,jY (by omega)];omega
    have e7:n+c=R k:=by rw [hn,jY (by omega)];omega
    have hd:D (k+1)+D (k+1) < M256:=by omega
    have e6:(D (k+1)+D (k+1)) % M256=D k:=by rw [jY (by omega)];omega
    have hC:=hC0
    rw [if_pos h2] at hC
    refine dQBqfP ?_
    apply LW.yield
    rfl
    rfl
    (exact .cons rfl .nil)
    exact hrec
    (apply zY)
    rfl
    rfl
    (refine goZ ?_;apply beginI;apply qA;refine goZ ?_;refine cEv hA ?_;intro _;refine lvz (.orU rfl rfl (by omega) (by omega)) ?_;refine goZ ?_;refine cEv hQ ?_;apply zS;rfl;rfl;exact vF;exact .cons rfl (.cons rfl .nil);intro w _;rw [hf];exact hC w;refine goZ ?_;apply roundN;apply qE;apply qA;refine goZ ?_;refine lvz (.subI rfl rfl (by omega) (by omega)) ?_;refine goZ ?_)
    rw [hf,e7,e6]
    refine thenX ⟨rfl,k,by omega,by omega,⟨rfl,rfl,rfl,trivial⟩,?_⟩
    (apply jK;exact jG _)

theorem and256 {a b:Nat} (ha:a < M256):a &&& b < M256:=yR Nat.and_le_left ha
theorem or256 {a b:Nat} (ha:a < M256) (hb:b < M256):a |||b < M256:=Nat.or_lt_two_pow (n:=256) ha hb
theorem xor256 {a b:Nat} (ha:a < M256) (hb:b < M256):a ^^^ b < M256:=Nat.xor_lt_two_pow (n:=256) ha hb
def wcs (l:List Nat):List Value:=l.flatMap fun a=>(wc a).toList
theorem wcs_len (l:List Nat):∀ a∈l,((wc a).toList).length=4:=fun _ _=>rfl
theorem take_step (l:List Nat) (m:Nat) (h:m < l.length):(l.take (m+1)).sum=(l.take m).sum+l[m]:=by
 rw [List.take_succ_eq_append_getElem h,List.sum_append];simp
theorem Bit_calls (a n:Nat) (ha:a < M256) (hn:n < 9223372036854775808) (w:World):Calls prog 191 #[wv a,.int .i64 (n:Int)] w (Ret w (.int .i64 ((a / 2 ^ n % 2:Nat):Int))):=by
 refine enter (args:=[_,_]) _ [] [] func191 rfl ntmps191 rfl (by simp) .nil ?_
 rcases jM n 256 with h|h
 ·have hX:a / 2 ^ (64 * (0+n / 64 * 1)) % 18446744073709551616 / 2 ^ (n % 64) &&& 1=a / 2 ^ n % 2:=by rw [show 0+n / 64 * 1=n / 64 by omega];exact bit_and a n h
  (refine goZ ?_;intro _;apply LW.load;rfl;rfl;apply qH;apply zY;apply Rd.one';apply nth_wc;omega;refine goZ ?_;refine lvz (.shrU rfl rfl (by omega)) ?_;apply qN;rfl;rfl;apply ValP.andUL;rfl;rfl;decide;apply div64;omega;omega;refine goZ ?_)
  (refine fiz ?_)
  rw [hX];rfl
 ·have h0:a / 2 ^ n % 2=0:=by
   rw [Nat.div_eq_of_lt]
   exact Nat.lt_of_lt_of_le ha (yU (n:=2) (by decide) h)
  (refine goZ ?_;intro _)
  (refine fiz ?_)
  rw [h0];rfl
def bl (a m:Nat):List Nat:=(List.range m).map fun n=>a / 2 ^ n % 2
theorem bl_len (a m:Nat):(bl a m).length=m:=by simp [bl]
theorem bl_succ (a m:Nat):bl a (m+1)=bl a m++[a / 2 ^ m % 2]:=by simp [bl,List.range_succ]
theorem bl_get (a m i:Nat) (h:i < m):(bl a m)[i]?=some (a / 2 ^ i % 2):=by simp [bl,h]
structure RX where
 m:Nat
 v:Value
 seg:Fs
theorem bits_calls (a m:Nat) (ha:a < M256) (hm:m < 1000) (w:World):Calls prog 197 #[wv a,.int .i64 (m:Int)] w (RetG w [] fun v gs=>IsRow 3 1 v m (ics (bl a m)) gs):=by
 refine enter (args:=[_,_]) _ [] [] func197 rfl ntmps197 rfl (by simp) .nil ?_
 (refine goZ ?_;intro _)
 rename_i b
 refine qM (fun x:RX=>([(8,.int .i64 (x.m:Int)),(7,.int .i64 (m:Int)),(5,x.v),(2,.pointer (some ⟨b,0,none⟩))],x.seg++[(b,.cells (wc a) 29 (0,0))]))
  (fun x=>x.m≤m∧IsRow 3 1 x.v x.m (ics (bl a x.m)) x.seg) (fun x=>m - x.m) ⟨0,.slice none 0 0,[]⟩ ⟨Nat.zero_le _,.nil⟩ ⟨rfl,rfl,rfl,rfl,trivial⟩ (jG _) ?_
 rintro ⟨k,v,seg⟩ ⟨hk,hrow⟩
 dsimp only at hk hrow ⊢
 obtain ⟨p,c,rfl⟩:=hrow.form
 rcases jM k m with hlt|hge
 ·(refine goZ ?_;apply zS;rfl;rfl;exact vF;exact .cons rfl (.cons rfl .nil);intro w _;refine Bit_calls _ _ ?_ ?_ w;assumption;omega;refine goZ ?_;intro _)
  (apply qZ;(case hrow=>assumption);rfl;rfl;exact vF;exact vF;exact vF;rfl;rfl;rfl;apply qK;exact qJ;apply qH;apply zY;rfl;rfl;rfl;omega;simp only [maxLen];omega;omega;intro v' seg' hrow';obtain ⟨p',c',rfl⟩:=hrow'.form;(refine ⟨_,(by (repeat (first|exact qJ|apply qK|apply qL))),?_⟩);(try simp only [yA,jQ]))
  (refine goZ ?_)
  apply thenX
  exact ⟨rfl,⟨k+1,_,seg'⟩,⟨hlt,by rw [bl_succ,ics_app];exact hrow'⟩,by show m - (k+1) < m - k;omega,⟨rfl,rfl,rfl,rfl,trivial⟩,by (apply jK;exact jG _)⟩
 ·obtain rfl:k=m:=by omega
  (refine goZ ?_)
  (apply finM seg;exact .inl rfl;exact Shut.nil;rfl;apply zD;exact zG rfl;exact zF;exact jJ _ _)
  exact hrow
theorem pow_pos2 (k:Nat):0 < 2 ^ k:=Nat.pow_pos (by decide)
def car (x y k:Nat):Nat:=(x % 2 ^ k+y % 2 ^ k) / 2 ^ k
theorem car_lt (x y k:Nat):car x y k < 2:=by
 have h1:=yS x (pow_pos2 k);have h2:=yS y (pow_pos2 k)
 exact Nat.div_lt_of_lt_mul (by omega)
theorem car_succ (x y k:Nat):car x y (k+1)=(x / 2 ^ k % 2+y / 2 ^ k % 2+car x y k) / 2:=by
 unfold car
 rw [Nat.mod_pow_succ,Nat.mod_pow_succ,show x % 2 ^ k+2 ^ k * (x / 2 ^ k % 2)+(y % 2 ^ k+2 ^ k * (y / 2 ^ k % 2))=x % 2 ^ k+y % 2 ^ k+2 ^ k * (x / 2 ^ k % 2+y / 2 ^ k % 2) by rw [Nat.mul_add];omega,
  Nat.pow_succ,← yO,Nat.add_mul_div_left _ _ (pow_pos2 k),Nat.add_comm]
theorem sum_bit (x y k:Nat):(x+y) / 2 ^ k=x / 2 ^ k+y / 2 ^ k+car x y k:=by
 have h1:=Nat.div_add_mod x (2 ^ k);have h2:=Nat.div_add_mod y (2 ^ k)
 unfold car
 conv=>lhs;rw [← h1,← h2,show 2 ^ k * (x / 2 ^ k)+x % 2 ^ k+(2 ^ k * (y / 2 ^ k)+y % 2 ^ k)=x % 2 ^ k+y % 2 ^ k+2 ^ k * (x / 2 ^ k+y / 2 ^ k) by rw [Nat.mul_add];omega]
 rw [Nat.add_mul_div_left _ _ (pow_pos2 k),Nat.add_comm]
structure RC where
 m:Nat
 v:Value
 seg:Fs
theorem add_calls (x y m:Nat) (hx:x < 2 ^ m) (hy:y < 2 ^ m) (hm:m < 1000) (va vb:Value) (w:World) (h1:RowAt w 1 va m (ics (bl x m))) (h2:RowAt w 1 vb m (ics (bl y m))) :
  Calls prog 196 #[va,vb] w (RetG w [] fun v gs=>IsRow 3 1 v (m+1) (ics (bl (x+y) (m+1))) gs):=by
 obtain ⟨p1,c1,rfl,hc1,hm1⟩:=h1.form
 obtain ⟨p2,c2,rfl,hc2,hm2⟩:=h2.form
 refine enter (args:=[_,_]) _ [] [] func196 rfl ntmps196 rfl (by simp) .nil ?_
 (refine goZ ?_)
 refine qM (fun z:RC=>([(11,.int .i64 (z.m:Int)),(10,.int .i64 (m:Int)),(6,.int .i64 (car x y z.m:Int)),(5,z.v),(0,.slice p1 m c1),(1,.slice p2 m c2)],z.seg++[]))
  (fun z=>z.m≤m∧IsRow 3 1 z.v z.m (ics (bl (x+y) z.m)) z.seg) (fun z=>m - z.m) ⟨0,.slice none 0 0,[]⟩ ⟨Nat.zero_le _,.nil⟩ ⟨rfl,rfl,by rw [show car x y 0=0 by simp [car,Nat.mod_one]];rfl,rfl,rfl,rfl,trivial⟩ (jG _) ?_
 rintro ⟨k,v,seg⟩ ⟨hk,hrow⟩
 dsimp only at hk hrow ⊢
 obtain ⟨p,c,rfl⟩:=hrow.form
 have hcar:=car_lt x y k
 rcases jM k m with hlt|hge
 ·obtain ⟨ba,oa,_,csa,Ea,fra,ea,hba,hxa⟩:=h1.pos (by omega)
  obtain ⟨bb,ob,_,csb,Eb,frb,eb,hbb,hxb⟩:=h2.pos (by omega)
  cases ea
  cases eb
  have hra:Rd prog 3 (.cells csa Ea fra) (oa+k * 1) (.int .i64 ((x / 2 ^ k % 2:Nat):Int)):=Rd.elem1 hxa (ics_len _) (bl_get x m k hlt) rfl
  have hrb:Rd prog 3 (.cells csb Eb frb) (ob+k * 1) (.int .i64 ((y / 2 ^ k % 2:Nat):Int)):=Rd.elem1 hxb (ics_len _) (bl_get y m k hlt) rfl
  have hd:(x / 2 ^ k % 2+y / 2 ^ k % 2+car x y k) % 2=(x+y) / 2 ^ k % 2:=by rw [sum_bit];omega
  (refine goZ ?_;refine anz 10 ?_;intro _)
  (apply qZ;(case hrow=>assumption);rfl;rfl;exact vF;exact vF;exact vF;rfl;rfl;rfl;apply qK;exact qJ;apply qH;apply zY;rfl;rfl;rfl;omega;simp only [maxLen];omega;omega;intro v' seg' hrow';obtain ⟨p',c',rfl⟩:=hrow'.form;(refine ⟨_,(by (repeat (first|exact qJ|apply qK|apply qL))),?_⟩);(try simp only [yA,jQ]))
  (refine goZ ?_)
  apply thenX
  rw [hd] at hrow'
  refine ⟨rfl,⟨k+1,_,seg'⟩,⟨hlt,by rw [bl_succ,ics_app];exact hrow'⟩,by show m - (k+1) < m - k;omega,⟨rfl,rfl,?_,rfl,rfl,rfl,trivial⟩,by (apply jK;exact jG _)⟩
  rw [car_succ];rfl
 ·obtain rfl:k=m:=by omega
  have hd:car x y k=(x+y) / 2 ^ k % 2:=by
   rw [sum_bit,Nat.div_eq_of_lt hx,Nat.div_eq_of_lt hy];omega
  (refine goZ ?_;intro _)
  (apply qZ;(case hrow=>assumption);rfl;rfl;exact vF;exact vF;exact vF;rfl;rfl;rfl;apply qK;exact qJ;apply qH;apply zY;rfl;rfl;rfl;omega;simp only [maxLen];omega;omega;intro v' seg' hrow';obtain ⟨p',c',rfl⟩:=hrow'.form;(refine ⟨_,(by (repeat (first|exact qJ|apply qK|apply qL))),?_⟩);(try simp only [yA,jQ]))
  (apply LW.drop;exact jK _ (jG _))
  (refine goZ ?_)
  rw [hd] at hrow'
  apply finM seg';(exact .inl rfl);(exact Shut.nil);rfl;(apply zD;exact zG rfl;exact zF);exact jJ _ _
  rw [bl_succ,ics_app];exact hrow'
theorem or_add (L P r:Nat) (hP:P=2 ^ r) (hL:L < P) (hr:r < 64):(L |||1 * 2 ^ r % 18446744073709551616)=L+P:=by
 subst hP
 have h64:2 ^ r < 18446744073709551616:=yR (yU (n:=2) (by decide) (show r≤63 by omega)) (by decide)
 rw [Nat.one_mul,jY h64,Nat.or_comm,Nat.add_comm]
 have:=Nat.two_pow_add_eq_or_of_lt hL 1
 rw [yE] at this
 exact this.symm
theorem wc_setbit (n k:Nat) (hk:k < 256) (hn:n < 2 ^ k):((wc n).toList.set (k / 64) (.int .u64 ((n / 2 ^ (64 * (k / 64)) % 18446744073709551616 |||1 * 2 ^ (k % 64) % 18446744073709551616:Nat):Int))).toArray=wc (n+2 ^ k):=by
 obtain ⟨r,hr⟩:∃ r,r=k % 64:=⟨_,rfl⟩
 obtain ⟨P,hP⟩:∃ P,P=2 ^ r:=⟨_,rfl⟩
 have hr64:r < 64:=by omega
 have hP63:P≤9223372036854775808:=by rw [hP];exact Nat.le_trans (yU (n:=2) (by decide) (show r≤63 by omega)) (by decide)
 have h2k:2 ^ k=2 ^ (64 * (k / 64)) * P:=by rw [hP,hr,← yV,show 64 * (k / 64)+k % 64=k by omega]
 have hlt:n / 2 ^ (64 * (k / 64)) < P:=Nat.div_lt_of_lt_mul (by rw [← h2k];exact hn)
 have hL:n / 2 ^ (64 * (k / 64)) % 18446744073709551616 < P:=yR (Nat.mod_le _ _) hlt
 rw [← hr,or_add _ P r hP hL hr64]
 rw [h2k] at hn ⊢
 rcases (show k / 64=0∨k / 64=1∨k / 64=2∨k / 64=3 by omega) with q|q|q|q<;>rw [q] at hlt hL hn ⊢<;>simp only [wc,jE,jF,Nat.mul_zero,Nat.pow_zero,Nat.div_one,yE,Nat.one_mul,Nat.reduceMul,Nat.reducePow] at hlt hL hn ⊢
 ·exact dTBkGD
 ·exact dTBkGD
 ·exact dTBkGD
 ·exact dTBkGD
theorem of_calls (x m:Nat) (hm:m < 1000) (v:Value) (w:World) (hv:RowAt w 1 v m (ics (bl x m))):Calls prog 192 #[v] w (Ret w (wv (x % 2 ^ min m 256))):=by
 obtain ⟨p,c,rfl,hc,hmx⟩:=hv.form
 refine enter (args:=[_]) _ [] [] func192 rfl ntmps192 rfl (by simp) .nil ?_
 (refine goZ ?_;intro _ _)
 rename_i b1 b0
 refine qM (fun k:Nat=>([(8,.int .i64 (k:Int)),(7,.int .i64 (m:Int)),(6,.slice p m c),(3,.pointer (some ⟨b0,0,none⟩)),(2,.pointer (some ⟨b1,0,none⟩))],
  [(b0,.cells (wc (x % 2 ^ min k 256)) 29 (0,0)),(b1,.cells (wc 0) 29 (0,0))]))
  (fun k=>k≤m) (fun k=>m - k) 0 (yT _) ⟨rfl,rfl,rfl,rfl,rfl,trivial⟩ (by simp [Nat.mod_one]) ?_
 intro k hk
 dsimp only at hk ⊢
 rcases jM k m with hlt|hge
 ·obtain ⟨ba,oa,_,csa,Ea,fra,ea,hba,hxa⟩:=hv.pos (by omega)
  cases ea
  have hra:Rd prog 3 (.cells csa Ea fra) (oa+k * 1) (.int .i64 ((x / 2 ^ k % 2:Nat):Int)):=Rd.elem1 hxa (ics_len _) (bl_get x m k hlt) rfl
  rcases jM k 256 with h|h
  ·rcases Nat.mod_two_eq_zero_or_one (x / 2 ^ k) with hb|hb
   ·(refine goZ ?_)
    apply thenX
    refine ⟨rfl,k+1,hlt,by omega,⟨rfl,rfl,rfl,rfl,rfl,trivial⟩,?_⟩
    rw [Nat.min_eq_left h,Nat.mod_pow_succ,hb,Nat.mul_zero,Nat.add_zero,Nat.min_eq_left (Nat.le_of_lt h)]
    (exact jG _)
   ·have hW:=wc_setbit (x % 2 ^ k) k h (yS _ (pow_pos2 k))
    rw [Nat.min_eq_left (Nat.le_of_lt h)]
    (refine goZ ?_;refine anz 7 ?_;apply qG;rfl;rfl;rfl;exact zC;rfl;apply zP;exact zN;apply Rd.one';apply nth_wc;omega;refine goZ ?_;refine dvz (.shlU rfl rfl (by omega)) ?_;refine goZ ?_;refine lvz (.orU rfl rfl (by omega) (by omega)) ?_;refine goZ ?_)
    apply thenX
    refine ⟨rfl,k+1,hlt,by omega,⟨rfl,rfl,rfl,rfl,rfl,trivial⟩,?_⟩
    rw [Nat.min_eq_left h,Nat.mod_pow_succ,hb,yE,← hW]
    exact jG _
  ·(refine goZ ?_)
   apply thenX
   refine ⟨rfl,k+1,hlt,by omega,⟨rfl,rfl,rfl,rfl,rfl,trivial⟩,?_⟩
   rw [Nat.min_eq_right (Nat.le_succ_of_le h),Nat.min_eq_right h]
   (exact jG _)
 ·obtain rfl:k=m:=by omega
  exact dTBJyT
theorem bit_tb (a k:Nat):a / 2 ^ k % 2=(a.testBit k).toNat:=by rw [Nat.testBit_eq_decide_div_mod_eq];rcases Nat.mod_two_eq_zero_or_one (a / 2 ^ k) with h|h<;>rw [h]<;>rfl
theorem band_bit (a b k:Nat):(a &&& b) / 2 ^ k % 2=a / 2 ^ k % 2 * (b / 2 ^ k % 2):=by
 rw [bit_tb,bit_tb,bit_tb,Nat.testBit_and];cases a.testBit k<;>cases b.testBit k<;>rfl
theorem bor_bit (a b k:Nat):(a |||b) / 2 ^ k % 2=max (a / 2 ^ k % 2) (b / 2 ^ k % 2):=by
 rw [bit_tb,bit_tb,bit_tb,Nat.testBit_or];cases a.testBit k<;>cases b.testBit k<;>rfl
theorem bxor_bit (a b k:Nat):(a ^^^ b) / 2 ^ k % 2=(a / 2 ^ k % 2+b / 2 ^ k % 2) % 2:=by
 rw [bit_tb,bit_tb,bit_tb,Nat.testBit_xor];cases a.testBit k<;>cases b.testBit k<;>rfl
theorem not_bit (a k:Nat) (ha:a < M256) (hk:k < 256):(M256 - 1 - a) / 2 ^ k % 2=1 - a / 2 ^ k % 2:=by
 rw [bit_tb,bit_tb,Nat.sub_sub,Nat.add_comm 1,show M256=2 ^ 256 from rfl,Nat.testBit_two_pow_sub_succ (show a < 2 ^ 256 from ha),vE hk];cases a.testBit k<;>rfl
theorem rAnd_calls (a b:Nat) (ha:a < M256) (hb:b < M256) (w:World):Calls prog 185 #[wv a,wv b] w (Ret w (wv (a &&& b))):=by
 refine enter (args:=[_,_]) _ [] [] func185 rfl ntmps185 rfl (by simp) .nil ?_
 (refine goZ ?_;intro _ _ _)
 rename_i ba bb bc
 refine qM (fun x:RC=>([(7,.int .i64 (x.m:Int)),(5,x.v),(2,.pointer (some ⟨ba,0,none⟩)),(3,.pointer (some ⟨bb,0,none⟩)),(4,.pointer (some ⟨bc,0,none⟩))],x.seg++[(bc,.cells (wc 0) 29 (0,0)),(bb,.cells (wc b) 29 (0,0)),(ba,.cells (wc a) 29 (0,0))]))
  (fun x=>x.m≤256∧IsRow 3 1 x.v x.m (ics (bl (a &&& b) x.m)) x.seg) (fun x=>256 - x.m) ⟨0,.slice none 0 0,[]⟩ ⟨Nat.zero_le _,.nil⟩ ⟨rfl,rfl,rfl,rfl,rfl,trivial⟩ (jG _) ?_
 rintro ⟨k,v,seg⟩ ⟨hk,hrow⟩
 dsimp only at hk hrow ⊢
 obtain ⟨p,c,rfl⟩:=hrow.form
 rcases jM k 256 with hlt|hge
 ·have hmul:a / 2 ^ k % 2 * (b / 2 ^ k % 2) < 4:=Nat.mul_lt_mul'' (a:=a / 2 ^ k % 2) (b:=b / 2 ^ k % 2) (c:=2) (d:=2) (by omega) (by omega)
  (refine goZ ?_;refine anz 9 ?_;apply DW.callE;rfl;rfl;rfl;exact zC;rfl;exact vF;exact .cons rfl (.cons rfl .nil);rfl;exact qS;intro w _ _;refine Bit_calls _ _ ?_ ?_ w;assumption;omega;refine goZ ?_;apply DW.callE;rfl;rfl;rfl;exact zC;rfl;exact vF;exact .cons rfl (.cons rfl .nil);rfl;exact qS;intro w _ _;refine Bit_calls _ _ ?_ ?_ w;assumption;omega;refine goZ ?_;apply DW.lay1;rfl;rfl;rfl;exact zC;exact vF;exact vF;rfl;rfl;rfl;rfl;rfl;rfl;intro _;refine goZ ?_)
  (apply qZ;(case hrow=>assumption);rfl;rfl;exact vF;exact vF;exact vF;rfl;rfl;rfl;apply qK;exact qJ;apply qH;apply zY;rfl;rfl;rfl;omega;simp only [maxLen];omega;omega;intro v' seg' hrow';obtain ⟨p',c',rfl⟩:=hrow'.form;(refine ⟨_,(by (repeat (first|exact qJ|apply qK|apply qL))),?_⟩);(try simp only [yA,jQ]))
  (refine goZ ?_)
  apply thenX
  exact ⟨rfl,⟨k+1,_,seg'⟩,⟨hlt,by rw [bl_succ,ics_app,band_bit];exact hrow'⟩,by show 256 - (k+1) < 256 - k;omega,⟨rfl,rfl,rfl,rfl,rfl,trivial⟩,by (apply jK;exact jG _)⟩
 ·obtain rfl:k=256:=by omega
  (refine goZ ?_)
  (apply zS;rfl;rfl;exact vF;exact .cons rfl .nil;intro w hs;exact of_calls _ _ (by decide) _ w (hrow.atSeg qJ hs))
  rw [Nat.min_self,jY (show a &&& b < 2 ^ 256 from and256 ha)]
  (refine goZ ?_)
  (refine fiz ?_)
  rfl
theorem rOr_calls (a b:Nat) (ha:a < M256) (hb:b < M256) (w:World):Calls prog 186 #[wv a,wv b] w (Ret w (wv (a |||b))):=by
 refine enter (args:=[_,_]) _ [] [] func186 rfl ntmps186 rfl (by simp) .nil ?_
 (refine goZ ?_;intro _ _ _)
 rename_i ba bb bc
 refine qM (fun x:RC=>([(7,.int .i64 (x.m:Int)),(5,x.v),(2,.pointer (some ⟨ba,0,none⟩)),(3,.pointer (some ⟨bb,0,none⟩)),(4,.pointer (some ⟨bc,0,none⟩))],x.seg++[(bc,.cells (wc 0) 29 (0,0)),(bb,.cells (wc b) 29 (0,0)),(ba,.cells (wc a) 29 (0,0))]))
  (fun x=>x.m≤256∧IsRow 3 1 x.v x.m (ics (bl (a |||b) x.m)) x.seg) (fun x=>256 - x.m) ⟨0,.slice none 0 0,[]⟩ ⟨Nat.zero_le _,.nil⟩ ⟨rfl,rfl,rfl,rfl,rfl,trivial⟩ (jG _) ?_
 rintro ⟨k,v,seg⟩ ⟨hk,hrow⟩
 dsimp only at hk hrow ⊢
 obtain ⟨p,c,rfl⟩:=hrow.form
 rcases jM k 256 with hlt|hge
 ·skip
  (refine goZ ?_;refine anz 9 ?_;apply DW.callE;rfl;rfl;rfl;exact zC;rfl;exact vF;exact .cons rfl (.cons rfl .nil);rfl;exact qS;intro w _ _;refine Bit_calls _ _ ?_ ?_ w;assumption;omega;refine goZ ?_;apply DW.callE;rfl;rfl;rfl;exact zC;rfl;exact vF;exact .cons rfl (.cons rfl .nil);rfl;exact qS;intro w _ _;refine Bit_calls _ _ ?_ ?_ w;assumption;omega;refine dvz (.maxZ rfl rfl) ?_;apply DW.lay1;rfl;rfl;rfl;exact zC;exact vF;exact vF;rfl;rfl;rfl;rfl;rfl;rfl;intro _;refine goZ ?_)
  (apply qZ;(case hrow=>assumption);rfl;rfl;exact vF;exact vF;exact vF;rfl;rfl;rfl;apply qK;exact qJ;apply qH;apply zY;rfl;rfl;rfl;omega;simp only [maxLen];omega;omega;intro v' seg' hrow';obtain ⟨p',c',rfl⟩:=hrow'.form;(refine ⟨_,(by (repeat (first|exact qJ|apply qK|apply qL))),?_⟩);(try simp only [yA,jQ]))
  (refine goZ ?_)
  apply thenX
  exact ⟨rfl,⟨k+1,_,seg'⟩,⟨hlt,by rw [bl_succ,ics_app,bor_bit];exact hrow'⟩,by show 256 - (k+1) < 256 - k;omega,⟨rfl,rfl,rfl,rfl,rfl,trivial⟩,by (apply jK;exact jG _)⟩
 ·obtain rfl:k=256:=by omega
  (refine goZ ?_)
  (apply zS;rfl;rfl;exact vF;exact .cons rfl .nil;intro w hs;exact of_calls _ _ (by decide) _ w (hrow.atSeg qJ hs))
  rw [Nat.min_self,jY (show a |||b < 2 ^ 256 from or256 ha hb)]
  (refine goZ ?_)
  (refine fiz ?_)
  rfl
theorem rXor_calls (a b:Nat) (ha:a < M256) (hb:b < M256) (w:World):Calls prog 187 #[wv a,wv b] w (Ret w (wv (a ^^^ b))):=by
 refine enter (args:=[_,_]) _ [] [] func187 rfl ntmps187 rfl (by simp) .nil ?_
 (refine goZ ?_;intro _ _ _)
 rename_i ba bb bc
 refine qM (fun x:RC=>([(7,.int .i64 (x.m:Int)),(5,x.v),(2,.pointer (some ⟨ba,0,none⟩)),(3,.pointer (some ⟨bb,0,none⟩)),(4,.pointer (some ⟨bc,0,none⟩))],x.seg++[(bc,.cells (wc 0) 29 (0,0)),(bb,.cells (wc b) 29 (0,0)),(ba,.cells (wc a) 29 (0,0))]))
  (fun x=>x.m≤256∧IsRow 3 1 x.v x.m (ics (bl (a ^^^ b) x.m)) x.seg) (fun x=>256 - x.m) ⟨0,.slice none 0 0,[]⟩ ⟨Nat.zero_le _,.nil⟩ ⟨rfl,rfl,rfl,rfl,rfl,trivial⟩ (jG _) ?_
 rintro ⟨k,v,seg⟩ ⟨hk,hrow⟩
 dsimp only at hk hrow ⊢
 obtain ⟨p,c,rfl⟩:=hrow.form
 rcases jM k 256 with hlt|hge
 ·skip
  (refine goZ ?_;refine anz 10 ?_;apply DW.callE;rfl;rfl;rfl;exact zC;rfl;exact vF;exact .cons rfl (.cons rfl .nil);rfl;exact qS;intro w _ _;refine Bit_calls _ _ ?_ ?_ w;assumption;omega;refine goZ ?_;apply DW.callE;rfl;rfl;rfl;exact zC;rfl;exact vF;exact .cons rfl (.cons rfl .nil);rfl;exact qS;intro w _ _;refine Bit_calls _ _ ?_ ?_ w;assumption;omega;refine goZ ?_;apply DW.lay1;rfl;rfl;rfl;exact zC;exact vF;exact vF;rfl;rfl;rfl;rfl;rfl;rfl;intro _;refine goZ ?_)
  (apply qZ;(case hrow=>assumption);rfl;rfl;exact vF;exact vF;exact vF;rfl;rfl;rfl;apply qK;exact qJ;apply qH;apply zY;rfl;rfl;rfl;omega;simp only [maxLen];omega;omega;intro v' seg' hrow';obtain ⟨p',c',rfl⟩:=hrow'.form;(refine ⟨_,(by (repeat (first|exact qJ|apply qK|apply qL))),?_⟩);(try simp only [yA,jQ]))
  (refine goZ ?_)
  apply thenX
  exact ⟨rfl,⟨k+1,_,seg'⟩,⟨hlt,by rw [bl_succ,ics_app,bxor_bit];exact hrow'⟩,by show 256 - (k+1) < 256 - k;omega,⟨rfl,rfl,rfl,rfl,rfl,trivial⟩,by (apply jK;exact jG _)⟩
 ·obtain rfl:k=256:=by omega
  (refine goZ ?_)
  (apply zS;rfl;rfl;exact vF;exact .cons rfl .nil;intro w hs;exact of_calls _ _ (by decide) _ w (hrow.atSeg qJ hs))
  rw [Nat.min_self,jY (show a ^^^ b < 2 ^ 256 from xor256 ha hb)]
  (refine goZ ?_)
  (refine fiz ?_)
  rfl
theorem rNot_calls (a:Nat) (ha:a < M256) (w:World):Calls prog 113 #[wv a] w (Ret w (wv (M256 - 1 - a))):=by
 refine enter (args:=[_]) _ [] [] func113 rfl ntmps113 rfl (by simp) .nil ?_
 (refine goZ ?_;intro _ _)
 rename_i ba bc
 refine qM (fun x:RC=>([(5,.int .i64 (x.m:Int)),(3,x.v),(1,.pointer (some ⟨ba,0,none⟩)),(2,.pointer (some ⟨bc,0,none⟩))],x.seg++[(bc,.cells (wc 0) 29 (0,0)),(ba,.cells (wc a) 29 (0,0))]))
  (fun x=>x.m≤256∧IsRow 3 1 x.v x.m (ics (bl (M256 - 1 - a) x.m)) x.seg) (fun x=>256 - x.m) ⟨0,.slice none 0 0,[]⟩ ⟨Nat.zero_le _,.nil⟩ ⟨rfl,rfl,rfl,rfl,trivial⟩ (jG _) ?_
 rintro ⟨k,v,seg⟩ ⟨hk,hrow⟩
 dsimp only at hk hrow ⊢
 obtain ⟨p,c,rfl⟩:=hrow.form
 rcases jM k 256 with hlt|hge
 ·skip
  (refine goZ ?_;apply zS;rfl;rfl;exact vF;exact .cons rfl (.cons rfl .nil);intro w _;refine Bit_calls _ _ ?_ ?_ w;assumption;omega;refine goZ ?_;intro _)
  (apply qZ;(case hrow=>assumption);rfl;rfl;exact vF;exact vF;exact vF;rfl;rfl;rfl;apply qK;exact qJ;apply qH;apply zY;rfl;rfl;rfl;omega;simp only [maxLen];omega;omega;intro v' seg' hrow';obtain ⟨p',c',rfl⟩:=hrow'.form;(refine ⟨_,(by (repeat (first|exact qJ|apply qK|apply qL))),?_⟩);(try simp only [yA,jQ]))
  (refine goZ ?_)
  apply thenX
  exact ⟨rfl,⟨k+1,_,seg'⟩,⟨hlt,by rw [bl_succ,ics_app,not_bit a k ha hlt];exact hrow'⟩,by show 256 - (k+1) < 256 - k;omega,⟨rfl,rfl,rfl,rfl,trivial⟩,by (apply jK;exact jG _)⟩
 ·obtain rfl:k=256:=by omega
  (refine goZ ?_)
  (apply zS;rfl;rfl;exact vF;exact .cons rfl .nil;intro w hs;exact of_calls _ _ (by decide) _ w (hrow.atSeg qJ hs))
  rw [Nat.min_self,jY (show M256 - 1 - a < 2 ^ 256 from yR (Nat.sub_le _ _) (by decide))]
  (refine goZ ?_)
  (refine fiz ?_)
  rfl
theorem dTBUaM {P:Prop} (h:P:=by
 (refine goZ ?_;refine anz 7 ?_;apply DW.callV;rfl;rfl;rfl;exact zC;rfl;exact vF;exact .cons rfl .nil;apply RdV.own;omega;apply zP;exact zN;exact RdV.nil;intro w _ _;exact hof w (by assumption);refine goZ ?_;apply DW.store;rfl;rfl;exact zC;rfl;rfl;apply qQ;apply TSet.app;apply qR;exact zN;exact zN;apply Wr.whole;rfl;rfl;rfl;refine goZ ?_)
 (refine fiz ?_)
 rfl):P:=h
def bor (a b k:Nat):Nat:=if a % 2 ^ k < b % 2 ^ k then 1 else 0
theorem bor_lt (a b k:Nat):bor a b k < 2:=by unfold bor;split<;>omega
theorem bor_succ (a b k:Nat):bor a b (k+1)=if a / 2 ^ k % 2 < b / 2 ^ k % 2+bor a b k then 1 else 0:=by
 have key:(a % 2 ^ (k+1) < b % 2 ^ (k+1))↔(a / 2 ^ k % 2 < b / 2 ^ k % 2+bor a b k):=by
  have h01:bor a b k=0∧b % 2 ^ k≤a % 2 ^ k∨bor a b k=1∧a % 2 ^ k < b % 2 ^ k:=by unfold bor;split<;>omega
  rw [Nat.mod_pow_succ,Nat.mod_pow_succ]
  have h1:=yS a (pow_pos2 k);have h2:=yS b (pow_pos2 k)
  generalize bor a b k=C at *
  rcases Nat.mod_two_eq_zero_or_one (a / 2 ^ k) with p|p<;>rcases Nat.mod_two_eq_zero_or_one (b / 2 ^ k) with q|q<;>rw [p,q]<;>simp only [Nat.mul_zero,yE,Nat.add_zero] <;>
   constructor<;>intro h3<;>omega
 show (if a % 2 ^ (k+1) < b % 2 ^ (k+1) then 1 else 0)=_
 by_cases h:a % 2 ^ (k+1) < b % 2 ^ (k+1)
 ·rw [if_pos h,if_pos (key.1 h)]
 ·rw [if_neg h,if_neg (fun h'=>h (key.2 h'))]
theorem sub_mod (M a b j m:Nat) (hM:M=2 ^ j * m) (ha:a < M) (hb:b < M):(a+M - b) % M % 2 ^ j=a % 2 ^ j+2 ^ j * bor a b j - b % 2 ^ j:=by
 subst hM
 rw [Nat.mod_mod_of_dvd _ ⟨m,rfl⟩]
 have e1:=Nat.div_add_mod a (2 ^ j);have e2:=Nat.div_add_mod b (2 ^ j)
 have h1:=yS a (pow_pos2 j);have h2:=yS b (pow_pos2 j)
 have hq:b / 2 ^ j < m:=Nat.div_lt_of_lt_mul hb
 obtain ⟨t,ht⟩:∃ t,m=b / 2 ^ j+1+t:=⟨m - b / 2 ^ j - 1,by omega⟩
 have key:a+2 ^ j * m - b=(a % 2 ^ j+2 ^ j * bor a b j - b % 2 ^ j)+2 ^ j * (a / 2 ^ j+t+1 - bor a b j):=by
  generalize a / 2 ^ j=qa at *
  generalize b / 2 ^ j=qb at *
  subst ht
  have hb2:=bor_lt a b j
  rw [Nat.mul_add,Nat.mul_add,yE]
  unfold bor at *
  split
  ·rw [yE,show qa+t+1 - 1=qa+t by omega,Nat.mul_add];omega
  ·rw [Nat.mul_zero,show qa+t+1 - 0=qa+t+1 by omega,Nat.mul_add,Nat.mul_add,yE];omega
 rw [key,Nat.add_mul_mod_self_left,jY]
 unfold bor
 split<;>omega
theorem sub_bit (a b k:Nat) (hk:k < 256) (ha:a < 2 ^ 256) (hb:b < 2 ^ 256):(a+2 ^ 256 - b) % 2 ^ 256 / 2 ^ k % 2=(a / 2 ^ k % 2+b / 2 ^ k % 2+bor a b k) % 2:=by
 obtain ⟨j,hj⟩:∃ j,256=k+(1+j):=⟨255 - k,by omega⟩
 have h1:=sub_mod (2 ^ 256) a b (k+1) (2 ^ j) (by rw [← yV,Nat.add_assoc,← hj]) ha hb
 have h0:=sub_mod (2 ^ 256) a b k (2 ^ (1+j)) (by rw [← yV,← hj]) ha hb
 have hB:bor a b (k+1)=1∧a / 2 ^ k % 2 < b / 2 ^ k % 2+bor a b k∨bor a b (k+1)=0∧¬ a / 2 ^ k % 2 < b / 2 ^ k % 2+bor a b k:=by
  rw [bor_succ];split<;>simp_all
 generalize (a+2 ^ 256 - b) % 2 ^ 256=D at *
 rw [Nat.mod_pow_succ,Nat.mod_pow_succ,Nat.mod_pow_succ] at h1
 have m1:=yS a (pow_pos2 k);have m2:=yS b (pow_pos2 k);have m3:=yS D (pow_pos2 k)
 have h01:bor a b k=0∧b % 2 ^ k≤a % 2 ^ k∨bor a b k=1∧a % 2 ^ k < b % 2 ^ k:=by unfold bor;split<;>omega
 rw [h0] at h1 m3
 rw [Nat.pow_succ] at h1
 generalize bor a b (k+1)=B at *
 generalize bor a b k=C at *
 have hp2:a / 2 ^ k % 2 < 2:=by omega
 have hq2:b / 2 ^ k % 2 < 2:=by omega
 generalize a / 2 ^ k % 2=p at *
 generalize b / 2 ^ k % 2=q at *
 generalize hr:D / 2 ^ k % 2=r at *
 have hr2:r < 2:=by omega
 generalize 2 ^ k=K at *
 rcases (show r=0∨r=1 by omega) with rfl|rfl<;>rcases (show p=0∨p=1 by omega) with rfl|rfl<;>rcases (show q=0∨q=1 by omega) with rfl|rfl<;>rcases h01 with ⟨rfl,g1⟩|⟨rfl,g1⟩<;>rcases hB with ⟨rfl,g2⟩|⟨rfl,g2⟩ <;>
  simp only [Nat.mul_zero,yE,Nat.add_zero] at h1<;>omega
theorem cmp_eq (a b k:Nat) (h:a / 2 ^ (k+1)=b / 2 ^ (k+1)) (he:a / 2 ^ k % 2=b / 2 ^ k % 2):a / 2 ^ k=b / 2 ^ k:=by
 rw [Nat.pow_succ,← yO,← yO] at h
 omega
theorem cmp_lt (a b k:Nat) (h:a / 2 ^ (k+1)=b / 2 ^ (k+1)) (he:a / 2 ^ k % 2 < b / 2 ^ k % 2):a < b:=by
 rw [Nat.pow_succ,← yO,← yO] at h
 rcases jM a b with h1|h1
 ·exact h1
 ·have:=Nat.div_le_div_right (c:=2 ^ k) h1
  omega
theorem rAdd_calls (a b:Nat) (ha:a < M256) (hb:b < M256) (w:World):Calls prog 123 #[wv a,wv b] w (Ret w (.tuple #[wv ((a+b) % M256),.bool (decide (M256≤a+b))])):=by
 refine enter (args:=[_,_]) _ [] [] func123 rfl ntmps123 rfl (by simp) .nil ?_
 (refine goZ ?_;intro _ _ _)
 apply CW.pre
 refine qY [(1,fun v gs=>IsRow 3 1 v 256 (ics (bl a 256)) gs)] 3 mixed (by decide +kernel) ?_
 (refine tsZ ?_)
 (apply DW.manyE;rfl;rfl;rfl;exact zC;rfl;exact vF;exact .cons rfl (.cons rfl .nil);rfl;exact qS;intro w _ _)
 exact bits_calls _ _ (by assumption) (by decide) w
 intro va ga hra
 obtain ⟨pa,ca,rfl⟩:=hra.form
 (refine tsZ ?_)
 (refine crz (c:=fun w hs=>by exact bits_calls _ _ (by assumption) (by decide) w) (k:=?_))
 intro vb gb hrb
 obtain ⟨pb,cb,rfl⟩:=hrb.form
 skip
 (refine crz (c:=fun w hs=>by exact add_calls a b 256 ha hb (by decide) _ _ w (hra.atSeg (by (apply qL;exact qJ)) hs) (hrb.atSeg (by (exact qJ)) hs)) (k:=?_))
 intro vs gs hrs
 cases hrs with
 |@own g _ cap cur _ hn hmx hc ht hl =>
  have hrd:Rd prog 3 (.cells cur 3 (0,0)) (0+256 * 1) (.int .i64 (((a+b) / 2 ^ 256 % 2:Nat):Int)):=Rd.elem1 (g:=fun (b:Nat)=>[Value.int .i64 (b:Int)]) (l:=bl (a+b) 257) (m:=(256+1) * 1) (show (cur.toList.drop 0).take ((256+1) * 1)=_ from ht) (ics_len _) (bl_get (a+b) 257 256 (by decide)) rfl
  have h1:((a+b) / 2 ^ 256 % 2:Nat)=if M256≤a+b then 1 else 0:=by
   simp only [M256] at ha hb ⊢
   rw [show (2:Nat) ^ 256=115792089237316195423570985008687907853269984665640564039457584007913129639936 from rfl];split<;>omega
  refine LW.drop ((g,_)::_) (jP _ (List.Sublist.trans (jN _ _) (jN _ _))) ?_
  rw [h1] at hrd
  have hof:∀ w,(∀ p∈[(g,Obj.cells cur 3 (0,0))],w.heap[p.1]?=some p.2)→Calls prog 192 #[.slice (some ⟨g,0,none⟩) (256+1) cap] w (Ret w (wv ((a+b) % M256))):=fun w hu=>of_calls (a+b) 257 (by decide) _ w (RowAt.us hu hn hmx ht hl)
  rcases jM (a+b) M256 with h|h
  ·rw [if_neg (Nat.not_le.2 h)] at hrd
   rw [vA (Nat.not_le.2 h)]
   exact dTBUaM
  ·rw [if_pos h] at hrd
   rw [vE h]
   exact dTBUaM
theorem rSub_calls (a b:Nat) (ha:a < M256) (hb:b < M256) (w:World):Calls prog 182 #[wv a,wv b] w (Ret w (.tuple #[wv ((a+M256 - b) % M256),.bool (decide (a < b))])):=by
 refine enter (args:=[_,_]) _ [] [] func182 rfl ntmps182 rfl (by simp) .nil ?_
 (refine goZ ?_;intro _ _ _)
 rename_i ba bb bc
 refine qM (fun x:RC=>([(10,.int .i64 (x.m:Int)),(7,.int .i64 ((bor a b x.m:Nat):Int)),(6,x.v),(5,.bool false),(2,.pointer (some ⟨ba,0,none⟩)),(3,.pointer (some ⟨bb,0,none⟩)),(4,.pointer (some ⟨bc,0,none⟩))],
   x.seg++[(bc,.cells (wc 0) 29 (0,0)),(bb,.cells (wc b) 29 (0,0)),(ba,.cells (wc a) 29 (0,0))]))
  (fun x=>x.m≤256∧IsRow 3 1 x.v x.m (ics (bl ((a+M256 - b) % M256) x.m)) x.seg) (fun x=>256 - x.m) ⟨0,.slice none 0 0,[]⟩ ⟨Nat.zero_le _,.nil⟩ ⟨rfl,by rw [show bor a b 0=0 by simp [bor,Nat.mod_one]];rfl,rfl,rfl,rfl,rfl,rfl,trivial⟩ (jG _) ?_
 rintro ⟨k,v,seg⟩ ⟨hk,hrow⟩
 dsimp only at hk hrow ⊢
 obtain ⟨p,c,rfl⟩:=hrow.form
 have hb2:=bor_lt a b k
 rcases jM k 256 with hlt|hge
 ·have hd:=sub_bit a b k hlt ha hb
  have hs:=bor_succ a b k
  rw [show (2:Nat) ^ 256=M256 from rfl] at hd
  rcases jM (a / 2 ^ k % 2) (b / 2 ^ k % 2+bor a b k) with hc|hc
  ·rw [if_pos hc] at hs
   (refine goZ ?_;refine anz 8 ?_;apply DW.callE;rfl;rfl;rfl;exact zC;rfl;exact vF;exact .cons rfl (.cons rfl .nil);rfl;exact qS;intro w _ _;refine Bit_calls _ _ ?_ ?_ w;assumption;omega;refine goZ ?_;apply DW.callE;rfl;rfl;rfl;exact zC;rfl;exact vF;exact .cons rfl (.cons rfl .nil);rfl;exact qS;intro w _ _;refine Bit_calls _ _ ?_ ?_ w;assumption;omega;refine dvz (.subI rfl rfl (by omega) (by omega)) ?_;refine goZ ?_;refine lvz (.subI rfl rfl (by omega) (by omega)) ?_;refine goZ ?_;refine lvz (.addI rfl rfl (by omega) (by omega)) ?_;refine goZ ?_;intro _)
   (apply qZ;rfl;rfl;exact vF;exact vF;exact vF;rfl;rfl;rfl;(case hrow=>assumption);apply qK;exact qJ;apply qH;apply zY;rfl;rfl;rfl;omega;simp only [maxLen];omega;omega;intro v' seg' hrow';obtain ⟨p',c',rfl⟩:=hrow'.form;(refine ⟨_,(by (repeat (first|exact qJ|apply qK|apply qL))),?_⟩);(try simp only [yA,jQ]))
   (refine goZ ?_)
   apply thenX
   refine ⟨rfl,⟨k+1,_,seg'⟩,⟨hlt,?_⟩,by show 256 - (k+1) < 256 - k;omega,⟨rfl,by rw [hs];rfl,rfl,rfl,rfl,rfl,rfl,trivial⟩,by (apply jK;exact jG _)⟩
   rw [bl_succ,ics_app,hd]
   rw [show ((a / 2 ^ k % 2:Nat):Int) - ((b / 2 ^ k % 2:Nat):Int) - ((bor a b k:Nat):Int)+2=(((a / 2 ^ k % 2+b / 2 ^ k % 2+bor a b k) % 2:Nat):Int) by omega] at hrow'
   exact hrow'
  ·rw [if_neg (Nat.not_lt.2 hc)] at hs
   (refine goZ ?_;refine anz 8 ?_;apply DW.callE;rfl;rfl;rfl;exact zC;rfl;exact vF;exact .cons rfl (.cons rfl .nil);rfl;exact qS;intro w _ _;refine Bit_calls _ _ ?_ ?_ w;assumption;omega;refine goZ ?_;apply DW.callE;rfl;rfl;rfl;exact zC;rfl;exact vF;exact .cons rfl (.cons rfl .nil);rfl;exact qS;intro w _ _;refine Bit_calls _ _ ?_ ?_ w;assumption;omega;refine goZ ?_;intro _)
   (apply qZ;rfl;rfl;exact vF;exact vF;exact vF;rfl;rfl;rfl;(case hrow=>assumption);apply qK;exact qJ;apply qH;apply zY;rfl;rfl;rfl;omega;simp only [maxLen];omega;omega;intro v' seg' hrow';obtain ⟨p',c',rfl⟩:=hrow'.form;(refine ⟨_,(by (repeat (first|exact qJ|apply qK|apply qL))),?_⟩);(try simp only [yA,jQ]))
   (refine goZ ?_)
   apply thenX
   refine ⟨rfl,⟨k+1,_,seg'⟩,⟨hlt,?_⟩,by show 256 - (k+1) < 256 - k;omega,⟨rfl,by rw [hs];rfl,rfl,rfl,rfl,rfl,rfl,trivial⟩,by (apply jK;exact jG _)⟩
   rw [bl_succ,ics_app,hd]
   rw [show a / 2 ^ k % 2 - b / 2 ^ k % 2 - bor a b k=(a / 2 ^ k % 2+b / 2 ^ k % 2+bor a b k) % 2 by omega] at hrow'
   exact hrow'
 ·obtain rfl:k=256:=by omega
  have hbor:bor a b 256=if a < b then 1 else 0:=by unfold bor;rw [jY ha,jY hb]
  (refine goZ ?_)
  (apply zS;rfl;rfl;exact vF;exact .cons rfl .nil;intro w hs;exact of_calls _ _ (by decide) _ w (hrow.atSeg qJ hs))
  rw [Nat.min_self,Nat.mod_mod]
  (refine goZ ?_;refine lvz (.eq rfl rfl) ?_;refine goZ ?_)
  (refine fiz ?_)
  rw [hbor]
  by_cases h:a < b<;>simp [tup,h]
theorem rCmp_calls (a b:Nat) (ha:a < M256) (hb:b < M256) (w:World):Calls prog 124 #[wv a,wv b] w (Ret w (.int .i64 (if a < b then -1 else if b < a then 1 else 0))):=by
 refine enter (args:=[_,_]) _ [] [] func124 rfl ntmps124 rfl (by simp) .nil ?_
 (refine goZ ?_;intro _ _)
 rename_i ba bb
 refine qM (fun m:Nat=>([(5,.int .i64 ((m:Int) - 1)),(4,.int .i64 0),(2,.pointer (some ⟨ba,0,none⟩)),(3,.pointer (some ⟨bb,0,none⟩))],
   [(bb,.cells (wc b) 29 (0,0)),(ba,.cells (wc a) 29 (0,0))]))
  (fun m=>m≤256∧a / 2 ^ m=b / 2 ^ m) (fun m=>m) 256 ⟨Nat.le_refl _,by rw [Nat.div_eq_of_lt ha,Nat.div_eq_of_lt hb]⟩ ⟨rfl,rfl,rfl,rfl,trivial⟩ (jG _) ?_
 rintro m ⟨hm,he⟩
 dsimp only
 rcases m with _|k
 ·have hab:a=b:=by simpa using he
  subst hab
  (refine goZ ?_)
  (refine fiz ?_)
  rw [if_neg (Nat.lt_irrefl a),if_neg (Nat.lt_irrefl a)];rfl
 ·have e0:(((k+1:Nat):Int) - 1)=(k:Int):=by omega
  rw [e0]
  rcases Nat.lt_trichotomy (a / 2 ^ k % 2) (b / 2 ^ k % 2) with h|h|h
  ·have hlt:=cmp_lt a b k he h
   (refine goZ ?_;refine anz 5 ?_;apply DW.callE;rfl;rfl;rfl;exact zC;rfl;exact vF;exact .cons rfl (.cons rfl .nil);rfl;exact qS;intro w _ _;refine Bit_calls _ _ ?_ ?_ w;assumption;omega;refine goZ ?_;apply zS;rfl;rfl;exact vF;exact .cons rfl (.cons rfl .nil);intro w _;refine Bit_calls _ _ ?_ ?_ w;assumption;omega;refine goZ ?_)
   (refine fiz ?_)
   rw [if_pos hlt];rfl
  ·have hq:=cmp_eq a b k he h
   (refine goZ ?_;refine anz 5 ?_;apply DW.callE;rfl;rfl;rfl;exact zC;rfl;exact vF;exact .cons rfl (.cons rfl .nil);rfl;exact qS;intro w _ _;refine Bit_calls _ _ ?_ ?_ w;assumption;omega;refine goZ ?_;apply zS;rfl;rfl;exact vF;exact .cons rfl (.cons rfl .nil);intro w _;refine Bit_calls _ _ ?_ ?_ w;assumption;omega;refine goZ ?_;refine lvz (.subI rfl rfl (by omega) (by omega)) ?_;refine goZ ?_)
   apply thenX
   exact ⟨rfl,k,⟨by omega,hq⟩,Nat.lt_succ_self k,⟨rfl,rfl,rfl,rfl,trivial⟩,jG _⟩
  ·have hlt:=cmp_lt b a k he.symm h
   (refine goZ ?_;refine anz 5 ?_;apply DW.callE;rfl;rfl;rfl;exact zC;rfl;exact vF;exact .cons rfl (.cons rfl .nil);rfl;exact qS;intro w _ _;refine Bit_calls _ _ ?_ ?_ w;assumption;omega;refine goZ ?_;apply zS;rfl;rfl;exact vF;exact .cons rfl (.cons rfl .nil);intro w _;refine Bit_calls _ _ ?_ ?_ w;assumption;omega;refine goZ ?_)
   (refine fiz ?_)
   rw [if_neg (by omega),if_pos hlt];rfl
theorem dQBVvC {P Q:Prop} (k:Q) (h:BoxZ Q→P:=by
 intro kQ
 (refine goZ ?_;apply qN;rfl;rfl;apply ValP.cutStr;exact vF;rfl;rfl;rfl;omega;simp;omega;refine goZ ?_)
 (refine fiz ?_)
 exact kQ.k):P:=h ⟨k⟩
theorem dTBjfO {P:Prop} (h:P:=by
 (refine goZ ?_;intro _;refine cEv hn ?_;apply qN;rfl;rfl;apply ValP.addStr;rfl;rfl;simp;omega;refine goZ ?_;refine bTz ?_)
 (refine fiz ?_)
 rfl):P:=h
theorem dTBSFK {P:Prop} (h:P:=by
 rw [show rowOp b=none by unfold rowOp;rw [if_neg (by omega),if_neg (by omega),if_neg (by omega)]]
 (refine goZ ?_;intro _;refine bTz ?_)
 (refine fiz ?_)
 rfl):P:=h
structure OpV where
 c:Nat
 nm:List UInt8
 tk:Nat
 ly:Nat
 dt:Nat
def opl (x:OpV):List Value:=[.int .u8 (x.c:Int),sv x.nm,.int .i64 (x.tk:Int),.int .i64 (x.ly:Int),.int .i64 (x.dt:Int)]
abbrev opc (x:OpV):Array Value:=(opl x).toArray
def opcs (l:List OpV):List Value:=l.flatMap opl
theorem opl_len (l:List OpV):∀ x∈l,(opl x).length=5:=fun _ _=>rfl
def plainOps:List OpV:=[
 ⟨0,[83,84,79,80],0,0,0⟩,
 ⟨1,[65,68,68],2,1,0⟩,
 ⟨2,[77,85,76],2,1,0⟩,
 ⟨3,[83,85,66],2,1,0⟩,
 ⟨4,[68,73,86],2,1,0⟩,
 ⟨6,[77,79,68],2,1,0⟩,
 ⟨16,[76,84],2,1,0⟩,
 ⟨17,[71,84],2,1,0⟩,
 ⟨20,[69,81],2,1,0⟩,
 ⟨21,[73,83,90,69,82,79],1,1,0⟩,
 ⟨22,[65,78,68],2,1,0⟩,
 ⟨23,[79,82],2,1,0⟩,
 ⟨24,[88,79,82],2,1,0⟩,
 ⟨25,[78,79,84],1,1,0⟩,
 ⟨27,[83,72,76],2,1,0⟩,
 ⟨28,[83,72,82],2,1,0⟩,
 ⟨32,[72,65,83,72],2,1,0⟩,
 ⟨48,[65,68,68,82,69,83,83],0,1,0⟩,
 ⟨49,[66,65,76,65,78,67,69],1,1,0⟩,
 ⟨50,[79,82,73,71,73,78],0,1,0⟩,
 ⟨51,[67,65,76,76,69,82],0,1,0⟩,
 ⟨52,[67,65,76,76,86,65,76,85,69],0,1,0⟩,
 ⟨53,[68,65,84,65,76,79,65,68],1,1,0⟩,
 ⟨54,[68,65,84,65,83,73,90,69],0,1,0⟩,
 ⟨55,[68,65,84,65,67,79,80,89],3,0,0⟩,
 ⟨61,[82,69,84,85,82,78,83,73,90,69],0,1,0⟩,
 ⟨62,[82,69,84,85,82,78,67,79,80,89],3,0,0⟩,
 ⟨66,[84,73,77,69],0,1,0⟩,
 ⟨67,[78,85,77,66,69,82],0,1,0⟩,
 ⟨71,[83,69,76,70,66,65,76,65,78,67,69],0,1,0⟩,
 ⟨72,[66,65,83,69,70,69,69],0,1,0⟩,
 ⟨80,[80,79,80],1,0,0⟩,
 ⟨81,[77,76,79,65,68],1,1,0⟩,
 ⟨82,[77,83,84,79,82,69],2,0,0⟩,
 ⟨83,[77,83,84,79,82,69,56],2,0,0⟩,
 ⟨84,[83,76,79,65,68],1,1,0⟩,
 ⟨85,[83,83,84,79,82,69],2,0,0⟩,
 ⟨86,[74,85,77,80],1,0,0⟩,
 ⟨87,[74,85,77,80,73],2,0,0⟩,
 ⟨90,[71,65,83],0,1,0⟩,
 ⟨91,[74,85,77,80,68,69,83,84],0,0,0⟩,
 ⟨92,[84,76,79,65,68],1,1,0⟩,
 ⟨93,[84,83,84,79,82,69],2,0,0⟩,
 ⟨241,[67,65,76,76],7,1,0⟩,
 ⟨243,[82,69,84,85,82,78],2,0,0⟩,
 ⟨244,[68,69,76,69,71,65,84,69,67,65,76,76],6,1,0⟩,
 ⟨245,[67,82,69,65,84,69,50],4,1,0⟩,
 ⟨250,[83,84,65,84,73,67,67,65,76,76],6,1,0⟩,
 ⟨253,[82,69,86,69,82,84],2,0,0⟩,
 ⟨254,[73,78,86,65,76,73,68],0,0,0⟩]
def itoa (n:Nat):List UInt8:=if n < 10 then [UInt8.ofNat (48+n)] else [UInt8.ofNat (48+n / 10),UInt8.ofNat (48+n % 10)]
def rowOp (b:Nat):Option OpV :=
 if 96≤b∧b≤127 then some ⟨b,[80,85,83,72]++itoa (b - 95),0,1,b - 95⟩
 else if 128≤b∧b≤143 then some ⟨b,[68,85,80]++itoa (b - 127),b - 127,b - 126,0⟩
 else if 144≤b∧b≤159 then some ⟨b,[83,87,65,80]++itoa (b - 143),b - 142,b - 142,0⟩
 else none
def opOf (b:Nat):Option OpV:=match rowOp b with
 |some x=>some x
 |none=>plainOps.find? (fun x=>x.c == b)
def lows:List UInt8:=[48,49,50,51,52,53,54,55,56,57,97,98,99,100,101,102,103,104,105,106,107,108,109,110,111,112,113,114,115,116,117,118,119,120,121,122]
def smalls:List UInt8:=(List.range 100).flatMap fun n=>[UInt8.ofNat (48+n / 10),UInt8.ofNat (48+n % 10)]
theorem lows_cut:∀ n,n < 10→(lows.drop n).take (n+1 - n)=itoa n:=by decide +kernel
theorem smalls_cut:∀ n,n < 100→10≤n→(smalls.drop (n * 2)).take (n * 2+2 - n * 2)=itoa n:=by decide +kernel
theorem small_calls (n:Nat) (hn:n < 100) (w:World):Calls prog 238 #[.int .i64 (n:Int)] w (Ret w (sv (itoa n))):=by
 refine enter (args:=[_]) _ [] [] func238 rfl ntmps238 rfl (by simp) .nil ?_
 rcases jM n 10 with h|h
 ·refine dQBVvC ?_
  exact congrArg (fun l=>sv l) (lows_cut n h)
 ·refine dQBVvC ?_
  exact congrArg (fun l=>sv l) (smalls_cut n hn h)
theorem FormatInt_calls (n:Nat) (hn:n < 100) (w:World):Calls prog 230 #[.int .i64 (n:Int),.int .i64 10] w (Ret w (sv (itoa n))):=by
 refine enter (args:=[_,_]) _ [] [] func230 rfl ntmps230 rfl (by simp) .nil ?_
 (refine goZ ?_;refine cEw (c:=by exact small_calls _ hn) (k:=?_))
 (refine fiz ?_)
 rfl
theorem iItoa_calls (n:Nat) (hn:n < 100) (w:World):Calls prog 217 #[.int .i64 (n:Int)] w (Ret w (sv (itoa n))):=by
 have h1:=FormatInt_calls n hn
 refine enter (args:=[_]) _ [] [] func217 rfl ntmps217 rfl (by simp) .nil ?_
 (refine goZ ?_;refine cEv h1 ?_)
 (refine fiz ?_)
 rfl
theorem Itoa_calls (n:Nat) (hn:n < 100) (w:World):Calls prog 198 #[.int .i64 (n:Int)] w (Ret w (sv (itoa n))):=by
 have h1:=iItoa_calls n hn
 refine enter (args:=[_]) _ [] [] func198 rfl ntmps198 rfl (by simp) .nil ?_
 (refine goZ ?_;refine cEv h1 ?_)
 (refine fiz ?_)
 rfl
theorem itoa_len (n:Nat):(itoa n).length≤2:=by unfold itoa;split<;>simp
def tupOp (o:Option OpV):Value:=match o with
 |some x=>.tuple #[.agg (opc x),.bool true]
 |none=>.tuple #[.agg (opc ⟨0,[],0,0,0⟩),.bool false]
theorem row_calls (b:Nat) (hb:b < 256) (w:World):Calls prog 126 #[.int .u8 (b:Int)] w (Ret w (tupOp (rowOp b))):=by
 have hl:=itoa_len
 refine enter (args:=[_]) _ [] [] func126 rfl ntmps126 rfl (by simp) .nil ?_
 rcases jM b 96 with h1|h1
 ·exact dTBSFK
 rcases jM b 128 with h2|h2
 ·rw [show rowOp b=some ⟨b,[80,85,83,72]++itoa (b - 95),0,1,b - 95⟩ by unfold rowOp;rw [if_pos (by omega)]]
  have hn:=Itoa_calls (b - 95) (by omega)
  have hl1:=hl (b - 95)
  exact dTBjfO
 rcases jM b 144 with h3|h3
 ·rw [show rowOp b=some ⟨b,[68,85,80]++itoa (b - 127),b - 127,b - 127+1,0⟩ by unfold rowOp;rw [if_neg (by omega),if_pos (by omega),show b - 126=b - 127+1 by omega]]
  have hn:=Itoa_calls (b - 127) (by omega)
  have hl1:=hl (b - 127)
  exact dTBjfO
 rcases jM b 160 with h4|h4
 ·rw [show rowOp b=some ⟨b,[83,87,65,80]++itoa (b - 143),b - 143+1,b - 143+1,0⟩ by unfold rowOp;rw [if_neg (by omega),if_neg (by omega),if_pos (by omega),show b - 142=b - 143+1 by omega]]
  have hn:=Itoa_calls (b - 143) (by omega)
  have hl1:=hl (b - 143)
  exact dTBjfO
 ·exact dTBSFK
def PlainV (v:Value) (gs:Fs):Prop:=∃ b,v=.slice (some ⟨b,0,none⟩) 50 50∧gs=[(b,.cells (opcs plainOps).toArray 182 (0,0))]
theorem plain_len:(opcs plainOps).length=250:=by kernel_rfl
theorem PlainV.us {v:Value} {gs us:Fs} {w:World} (h:PlainV v gs) (hu:∀ p∈us,w.heap[p.1]?=some p.2) (hs:List.Sublist gs us):RowAt w 5 v plainOps.length (opcs plainOps):=by
 obtain ⟨b,rfl,rfl⟩:=h
 have hg:=hu (b,.cells (opcs plainOps).toArray 182 (0,0)) (hs.subset (by simp))
 exact ⟨⟨_,_,rfl,by decide,by decide⟩,plain_len,fun _=>⟨b,0,50,_,_,_,rfl,hg,by rw [yW];exact yI (by rw [jD,plain_len];decide)⟩,.own hg⟩
theorem plain_calls (w:World):Calls prog 128 #[] w (RetG w [] PlainV):=by
 refine enter (args:=[]) _ [] [] func128 rfl ntmps128 rfl (by simp) .nil ?_
 (refine goZ ?_;refine bTz ?_;refine bTz ?_;refine bTz ?_;refine bTz ?_;refine bTz ?_;refine bTz ?_;refine bTz ?_;refine bTz ?_;refine bTz ?_;refine bTz ?_;refine bTz ?_;refine bTz ?_;refine bTz ?_;refine bTz ?_;refine bTz ?_;refine bTz ?_;refine bTz ?_;refine bTz ?_;refine bTz ?_;refine bTz ?_;refine bTz ?_;refine bTz ?_;refine bTz ?_;refine bTz ?_;refine bTz ?_;refine bTz ?_;refine bTz ?_;refine bTz ?_;refine bTz ?_;refine bTz ?_;refine bTz ?_;refine bTz ?_;refine bTz ?_;refine bTz ?_;refine bTz ?_;refine bTz ?_;refine bTz ?_;refine bTz ?_;refine bTz ?_;refine bTz ?_;refine bTz ?_;refine bTz ?_;refine bTz ?_;refine bTz ?_;refine bTz ?_;refine bTz ?_;refine bTz ?_;refine bTz ?_;refine bTz ?_;refine bTz ?_)
 refine qN rfl rfl (ValP.buildA (vs:=(plainOps.zipIdx.map fun p=>(p.2,.agg (opc p.1)))) (c:=(opcs plainOps).toArray) ?_ (by kernel_rfl) (by kernel_rfl)) ?_
 ·(apply zA;rfl;apply zA;rfl;apply zA;rfl;apply zA;rfl;apply zA;rfl;apply zA;rfl;apply zA;rfl;apply zA;rfl;apply zA;rfl;apply zA;rfl;apply zA;rfl;apply zA;rfl;apply zA;rfl;apply zA;rfl;apply zA;rfl;apply zA;rfl;apply zA;rfl;apply zA;rfl;apply zA;rfl;apply zA;rfl;apply zA;rfl;apply zA;rfl;apply zA;rfl;apply zA;rfl;apply zA;rfl;apply zA;rfl;apply zA;rfl;apply zA;rfl;apply zA;rfl;apply zA;rfl;apply zA;rfl;apply zA;rfl;apply zA;rfl;apply zA;rfl;apply zA;rfl;apply zA;rfl;apply zA;rfl;apply zA;rfl;apply zA;rfl;apply zA;rfl;apply zA;rfl;apply zA;rfl;apply zA;rfl;apply zA;rfl;apply zA;rfl;apply zA;rfl;apply zA;rfl;apply zA;rfl;apply zA;rfl;apply zA;rfl;exact zB)
 (apply zU;rfl;intro _;apply zR;rfl;rfl;apply qA;apply Wr.whole;kernel_rfl;kernel_rfl;kernel_rfl;refine nSz<|lvz (.cutArrAll vF vF rfl)<|vAz<|nNz<|zK ?_)
 rename_i b
 apply finM [(b,.cells (opcs plainOps).toArray 182 (0,0))];(exact .inl rfl);(exact Shut.nil);rfl;(apply zD;exact zG rfl;exact zF);exact jG _
 exact ⟨b,rfl,rfl⟩
theorem Of1_calls (x:OpV) (k bb:Nat) (E:TypeId) (fr:Nat × Nat) (w:World) (hb:w.heap[bb]?=some (.cells #[.int .u8 (k:Int)] E fr)):Calls prog 129 #[.agg (opc x),.pointer (some ⟨bb,0,none⟩)] w (Ret w (.bool (decide (x.c=k)))):=by
 refine enter (args:=[_,_]) _ [] [] func129 rfl ntmps129 rfl (by simp) .nil ?_
 (refine goZ ?_;intro _;refine lvz (.eq rfl rfl) ?_;refine goZ ?_)
 (refine fiz ?_)
 exact congrArg Value.bool (decide_eq_decide.2 Int.natCast_inj)
def idxOf (l:List OpV) (k:Nat):Int:=match l.findIdx? (fun x=>x.c == k) with
 |some i=>(i:Int)
 |none=>-1
theorem idxOf_hit {l:List OpV} {k m:Nat} (hm:m < l.length) (h:∀ i (hi:i < m),l[i].c ≠ k) (he:l[m].c=k):idxOf l k=(m:Int):=by
 unfold idxOf
 rw [List.findIdx?_eq_some_iff_getElem.2 ⟨hm,by simpa using he,fun i hi=>by simpa using h i hi⟩]
theorem idxOf_miss {l:List OpV} {k:Nat} (h:∀ i (hi:i < l.length),l[i].c ≠ k):idxOf l k=-1:=by
 unfold idxOf
 rw [List.findIdx?_eq_none_iff.2 fun x hx=>by obtain ⟨i,hi,rfl⟩:=List.getElem_of_mem hx;simpa using h i hi]
theorem IndexFunc_calls (l:List OpV) (k:Nat) (v:Value) (bb:Nat) (E:TypeId) (fr:Nat × Nat) (w:World) (hv:RowAt w 5 v l.length (opcs l)) (hb:w.heap[bb]?=some (.cells #[.int .u8 (k:Int)] E fr)) :
  Calls prog 127 #[v,.func (.func 129) #[] #[.pointer (some ⟨bb,0,none⟩)]] w (Ret w (.int .i64 (idxOf l k))):=by
 obtain ⟨p,c,rfl,hc,hm⟩:=hv.form
 simp only [maxLen] at hm
 refine enter (args:=[_,_]) _ [] [] func127 rfl ntmps127 rfl (by simp) .nil ?_
 (refine goZ ?_)
 refine qM (fun m:Nat=>([(8,.int .i64 (m:Int)),(7,.int .i64 (l.length:Int)),(0,.slice p l.length c),(1,.func (.func 129) #[] #[.pointer (some ⟨bb,0,none⟩)])],[]))
  (fun m=>m≤l.length∧∀ i (hi:i < m) (hl:i < l.length),l[i].c ≠ k) (fun m=>l.length - m) 0 ⟨Nat.zero_le _,fun i hi=>by omega⟩ ⟨rfl,rfl,rfl,rfl,trivial⟩ (jG _) ?_
 rintro m ⟨hml,hall⟩
 dsimp only
 rcases jM m l.length with hlt|hge
 ·obtain ⟨b,off,c',cs,E',fr',heq,hbk,hx⟩:=hv.pos (by omega)
  cases heq
  have hrd:Rd prog 86 (.cells cs E' fr') (off+m * 5) (.agg (opc l[m])):=Rd.elemA (g:=opl) (l:=l) (a:=l[m]) hx (opl_len l) (jO hlt)
  (refine goZ ?_)
  apply LW.call
  rfl
  rfl
  exact vF
  (exact .cons rfl .nil)
  ·intro w' hs
   exact Of1_calls l[m] k bb E fr w' (by rw [hs.bel.block bb (Array.getElem?_eq_some_iff.1 hb).1 (by simp)];exact hb)
  by_cases he:l[m].c=k
  ·have hi:=idxOf_hit hlt (fun i hi=>hall i hi (by omega)) he
   rw [vE he,hi]
   exact dTBJyT
  ·rw [vA he]
   (refine goZ ?_)
   apply thenX
   exact ⟨rfl,m+1,⟨hlt,fun i hi hl=>by
    rcases jM i m with h|h
    ·exact hall i h hl
    ·obtain rfl:i=m:=by omega
     exact he⟩,by omega,⟨rfl,rfl,rfl,rfl,trivial⟩,jG _⟩
 ·have hi:=idxOf_miss (l:=l) (k:=k) fun i hi=>hall i (by omega) hi
  rw [hi]
  exact dTBJyT
def zeroOp:OpV:=⟨0,[],0,0,0⟩
def OfV (o:Option OpV):Value:=match o with
 |some x=>.tuple #[.agg (opc x),.int .i64 0]
 |none=>.tuple #[.agg (opc zeroOp),.int .i64 4]
theorem st_us {w0 w:World} {S:List Nat} {fs:Fs} (hs:St w0 S fs w):∀ p∈fs,w.heap[p.1]?=some p.2:=fun p hp=>(hs.own p hp).2
theorem plain_rd (i:Nat) (hi:i < plainOps.length) {E:TypeId} {fr:Nat × Nat}:Rd prog 86 (.cells (opcs plainOps).toArray E fr) (0+i * 5) (.agg (opc plainOps[i])) :=
 Rd.elemA (g:=opl) (l:=plainOps) (a:=plainOps[i]) (m:=250) (by rw [yW];exact yI (by rw [jD,plain_len];decide)) (opl_len _) (jO hi)
theorem Of_op_calls (b:Nat) (hb:b < 256) (w:World):Calls prog 91 #[.int .u8 (b:Int)] w (Ret w (OfV (opOf b))):=by
 have hRow0:=row_calls b hb
 refine enter (args:=[_]) _ [] [] func91 rfl ntmps91 rfl (by simp) .nil ?_
 cases hr:rowOp b with
 |some x =>
  rw [hr] at hRow0
  have hRow:∀ w,Calls prog 126 #[.int .u8 (b:Int)] w (Ret w (.tuple #[.agg (opc x),.bool true])):=hRow0
  rw [show opOf b=some x by unfold opOf;rw [hr]]
  (refine goZ ?_;apply LW.box1;rfl;rfl;rfl;intro _;refine goZ ?_;intro _;refine cEv hRow ?_;intro _)
  (refine fiz ?_)
  rfl
 |none =>
  rw [hr] at hRow0
  have hRow:∀ w,Calls prog 126 #[.int .u8 (b:Int)] w (Ret w (.tuple #[.agg (opc zeroOp),.bool false])):=hRow0
  (refine goZ ?_;apply LW.box1;rfl;rfl;rfl;intro _;refine goZ ?_;intro _;refine cEv hRow ?_;intro _)
  rename_i bx b2 b4
  (refine crz (c:=fun w hs=>by exact plain_calls w) (k:=?_))
  intro vp gp hpl
  obtain ⟨bp,rfl,rfl⟩:=id hpl
  cases hi:plainOps.findIdx? (fun x=>x.c == b) with
  |none =>
   have hidx:idxOf plainOps b=-1:=by unfold idxOf;rw [hi]
   rw [show opOf b=none by unfold opOf;rw [hr];exact List.find?_eq_none.2 (by simpa using List.findIdx?_eq_none_iff.1 hi)]
   (apply qN;rfl;rfl;apply ValP.makeFunc;exact qT;exact .cons rfl .nil;refine cEz (c:=fun w hst=>by exact IndexFunc_calls plainOps b _ _ _ _ w (hpl.us (st_us hst) (by exact List.singleton_sublist.2 memZ)) ((hst.own (bx,_) memZ).2)) (k:=?_);refine bTz ?_)
   (refine fiz ?_)
   rfl
  |some i =>
   have hidx:idxOf plainOps b=(i:Int):=by unfold idxOf;rw [hi]
   obtain ⟨hlt,hc,hall⟩:=List.findIdx?_eq_some_iff_getElem.1 hi
   have hlt50:i < 50:=hlt
   have hrd:=plain_rd i hlt (E:=182) (fr:=(0,0))
   rw [show opOf b=some plainOps[i] by unfold opOf;rw [hr];exact List.find?_eq_some_iff_getElem.2 ⟨hc,i,hlt,rfl,fun j hj=>by simpa using hall j hj⟩]
   (apply qN;rfl;rfl;apply ValP.makeFunc;exact qT;exact .cons rfl .nil;refine cEz (c:=fun w hst=>by exact IndexFunc_calls plainOps b _ _ _ _ w (hpl.us (st_us hst) (by exact List.singleton_sublist.2 memZ)) ((hst.own (bx,_) memZ).2)) (k:=?_))
   rw [hidx]
   skip
   (refine crz (c:=fun w hs=>by exact plain_calls w) (k:=?_))
   intro vq gq hpq
   obtain ⟨bq,rfl,rfl⟩:=id hpq
   (refine goZ ?_)
   (refine fiz ?_)
   rfl
theorem dTBTWW {P:Prop} (h:P:=by
 (refine goZ ?_;refine cEv hOf ?_;intro _)
 (refine crz (c:=fun w hs=>by exact bases_calls w) (k:=?_))
 intro vm gm hm
 obtain ⟨bm,rfl,rfl⟩:=hm
 refine laZ ?_
 (refine goZ ?_)
 (refine fiz ?_)
 subst hb;rfl):P:=h
def basesE:Array MapEntry:=#[⟨.int .u8 91,.int .u64 1,0⟩,⟨.int .u8 2,.int .u64 5,1⟩,⟨.int .u8 4,.int .u64 5,2⟩,⟨.int .u8 6,.int .u64 5,3⟩,⟨.int .u8 71,.int .u64 5,4⟩,⟨.int .u8 86,.int .u64 8,5⟩,⟨.int .u8 87,.int .u64 10,6⟩,⟨.int .u8 32,.int .u64 30,7⟩,⟨.int .u8 92,.int .u64 10,8⟩,⟨.int .u8 93,.int .u64 10,9⟩]
def MapV (v:Value) (gs:Fs):Prop:=∃ b,v=.map (some b)∧gs=[(b,.map basesE 10)]
theorem bases_calls (w:World):Calls prog 130 #[] w (RetG w [] MapV):=by
 refine enter (args:=[]) _ [] [] func130 rfl ntmps130 rfl (by simp) .nil ?_
 (refine goZ ?_;apply LW.makeMap;rfl;intro _;refine goZ ?_)
 rename_i b
 apply finM [(b,.map basesE 10)];(exact .inl rfl);(exact Shut.nil);rfl;(apply zD;exact zG rfl;exact zF);exact jG _
 exact ⟨b,rfl,rfl⟩
def gasB (b:Nat):Nat:=if b=91 then 1 else if b=2 then 5 else if b=4 then 5 else if b=6 then 5 else if b=71 then 5 else if b=86 then 8 else if b=87 then 10 else if b=32 then 30 else if b=92 then 10 else if b=93 then 10 else if b=49 then 0 else if b=84 then 0 else if b=85 then 0 else if b=241 then 0 else if b=244 then 0 else if b=250 then 0 else if b=245 then 0 else if b=0 then 0 else if b=243 then 0 else if b=253 then 0 else if b=254 then 0 else if b=48 then 2 else if b=50 then 2 else if b=51 then 2 else if b=52 then 2 else if b=54 then 2 else if b=61 then 2 else if b=66 then 2 else if b=67 then 2 else if b=72 then 2 else if b=80 then 2 else if b=90 then 2 else 3
theorem Base_calls (b:Nat) (hb:b < 256) (w:World):Calls prog 93 #[.int .u8 (b:Int)] w (Ret w (match opOf b with|some _=>.tuple #[.int .u64 (gasB b:Int),.int .i64 0]|none=>.tuple #[.int .u64 0,.int .i64 220])):=by
 have hOf0:=Of_op_calls b hb
 refine enter (args:=[_]) _ [] [] func93 rfl ntmps93 rfl (by simp) .nil ?_
 cases ho:opOf b with
 |none =>
  rw [ho] at hOf0
  have hOf:∀ w,Calls prog 91 #[.int .u8 (b:Int)] w (Ret w (.tuple #[.agg (opc zeroOp),.int .i64 4])):=hOf0
  (refine goZ ?_;refine cEv hOf ?_;intro _)
  (refine fiz ?_)
  rfl
 |some x =>
  rw [ho] at hOf0
  have hOf:∀ w,Calls prog 91 #[.int .u8 (b:Int)] w (Ret w (.tuple #[.agg (opc x),.int .i64 0])):=hOf0
  by_cases h91:b=91
  ·have hb:=h91
   have hf:Instr.findNow (.int .u8) (.int .u8 (b:Int)) basesE.toList 0=some (some (0,.int .u64 1)):=by rw [h91];rfl
   exact dTBTWW
  by_cases h2:b=2
  ·have hb:=h2
   have hf:Instr.findNow (.int .u8) (.int .u8 (b:Int)) basesE.toList 0=some (some (1,.int .u64 5)):=by rw [h2];rfl
   exact dTBTWW
  by_cases h4:b=4
  ·have hb:=h4
   have hf:Instr.findNow (.int .u8) (.int .u8 (b:Int)) basesE.toList 0=some (some (2,.int .u64 5)):=by rw [h4];rfl
   exact dTBTWW
  by_cases h6:b=6
  ·have hb:=h6
   have hf:Instr.findNow (.int .u8) (.int .u8 (b:Int)) basesE.toList 0=some (some (3,.int .u64 5)):=by rw [h6];rfl
   exact dTBTWW
  by_cases h71:b=71
  ·have hb:=h71
   have hf:Instr.findNow (.int .u8) (.int .u8 (b:Int)) basesE.toList 0=some (some (4,.int .u64 5)):=by rw [h71];rfl
   exact dTBTWW
  by_cases h86:b=86
  ·have hb:=h86
   have hf:Instr.findNow (.int .u8) (.int .u8 (b:Int)) basesE.toList 0=some (some (5,.int .u64 8)):=by rw [h86];rfl
   exact dTBTWW
  by_cases h87:b=87
  ·have hb:=h87
   have hf:Instr.findNow (.int .u8) (.int .u8 (b:Int)) basesE.toList 0=some (some (6,.int .u64 10)):=by rw [h87];rfl
   exact dTBTWW
  by_cases h32:b=32
  ·have hb:=h32
   have hf:Instr.findNow (.int .u8) (.int .u8 (b:Int)) basesE.toList 0=some (some (7,.int .u64 30)):=by rw [h32];rfl
   exact dTBTWW
  by_cases h92:b=92
  ·have hb:=h92
   have hf:Instr.findNow (.int .u8) (.int .u8 (b:Int)) basesE.toList 0=some (some (8,.int .u64 10)):=by rw [h92];rfl
   exact dTBTWW
  by_cases h93:b=93
  ·have hb:=h93
   have hf:Instr.findNow (.int .u8) (.int .u8 (b:Int)) basesE.toList 0=some (some (9,.int .u64 10)):=by rw [h93];rfl
   exact dTBTWW
  have hf:Instr.findNow (.int .u8) (.int .u8 (b:Int)) basesE.toList 0=some none:=by
   have hk:∀ k:Nat,b ≠ k→((b:Int) == (k:Int))=false:=fun k h=>by simpa using fun e:(b:Int)=(k:Int)=>h (Int.natCast_inj.1 e)
   simp only [basesE,Instr.findNow,Instr.sameNow,if_true,show ((b:Int) == 91)=false from hk 91 h91,show ((b:Int) == 2)=false from hk 2 h2,show ((b:Int) == 4)=false from hk 4 h4,show ((b:Int) == 6)=false from hk 6 h6,show ((b:Int) == 71)=false from hk 71 h71,show ((b:Int) == 86)=false from hk 86 h86,show ((b:Int) == 87)=false from hk 87 h87,show ((b:Int) == 32)=false from hk 32 h32,show ((b:Int) == 92)=false from hk 92 h92,show ((b:Int) == 93)=false from hk 93 h93]
  by_cases h49:b=49
  ·have hb:=h49
   exact dTBTWW
  by_cases h84:b=84
  ·have hb:=h84
   exact dTBTWW
  by_cases h85:b=85
  ·have hb:=h85
   exact dTBTWW
  by_cases h241:b=241
  ·have hb:=h241
   exact dTBTWW
  by_cases h244:b=244
  ·have hb:=h244
   exact dTBTWW
  by_cases h250:b=250
  ·have hb:=h250
   exact dTBTWW
  by_cases h245:b=245
  ·have hb:=h245
   exact dTBTWW
  by_cases h0:b=0
  ·have hb:=h0
   exact dTBTWW
  by_cases h243:b=243
  ·have hb:=h243
   exact dTBTWW
  by_cases h253:b=253
  ·have hb:=h253
   exact dTBTWW
  by_cases h254:b=254
  ·have hb:=h254
   exact dTBTWW
  by_cases h48:b=48
  ·have hb:=h48
   exact dTBTWW
  by_cases h50:b=50
  ·have hb:=h50
   exact dTBTWW
  by_cases h51:b=51
  ·have hb:=h51
   exact dTBTWW
  by_cases h52:b=52
  ·have hb:=h52
   exact dTBTWW
  by_cases h54:b=54
  ·have hb:=h54
   exact dTBTWW
  by_cases h61:b=61
  ·have hb:=h61
   exact dTBTWW
  by_cases h66:b=66
  ·have hb:=h66
   exact dTBTWW
  by_cases h67:b=67
  ·have hb:=h67
   exact dTBTWW
  by_cases h72:b=72
  ·have hb:=h72
   exact dTBTWW
  by_cases h80:b=80
  ·have hb:=h80
   exact dTBTWW
  by_cases h90:b=90
  ·have hb:=h90
   exact dTBTWW
  (refine goZ ?_;refine cEv hOf ?_;intro _)
  (refine crz (c:=fun w hs=>by exact bases_calls w) (k:=?_))
  intro vm gm hm
  obtain ⟨bm,rfl,rfl⟩:=hm
  refine laZ ?_
  (refine goZ ?_)
  (refine fiz ?_)
  unfold gasB
  rw [if_neg h91,if_neg h2,if_neg h4,if_neg h6,if_neg h71,if_neg h86,if_neg h87,if_neg h32,if_neg h92,if_neg h93,if_neg h49,if_neg h84,if_neg h85,if_neg h241,if_neg h244,if_neg h250,if_neg h245,if_neg h0,if_neg h243,if_neg h253,if_neg h254,if_neg h48,if_neg h50,if_neg h51,if_neg h52,if_neg h54,if_neg h61,if_neg h66,if_neg h67,if_neg h72,if_neg h80,if_neg h90]
  rfl
theorem dTBXNQ {P:Prop} (h:P:=by
 rcases yB (n % 32) with h|h
 ·rw [show (n+31) / 32=n / 32 by omega]
  (refine goZ ?_;refine lvz (.quoNL rfl rfl (by decide) (by omega) (by omega)) ?_;refine goZ ?_;refine lvz (.remNL rfl rfl (by decide) (by omega)) ?_;refine goZ ?_)
  (refine fiz ?_)
  rfl
 ·rw [show (n+31) / 32=(n / 32+1) % 18446744073709551616 by omega]
  (refine goZ ?_;refine lvz (.quoNL rfl rfl (by decide) (by omega) (by omega)) ?_;refine goZ ?_;refine lvz (.remNL rfl rfl (by decide) (by omega)) ?_;refine goZ ?_;refine lvz (.addNL rfl rfl (by decide)) ?_;refine goZ ?_)
  (refine fiz ?_)
  rfl):P:=h
theorem dTBdLx {P:Prop} (h:P:=by
 rw [← memW_eq x hx]
 (refine goZ ?_;refine lvz (.mulNK rfl rfl (by decide)) ?_;refine goZ ?_;refine lvz (.mulN rfl rfl) ?_;refine lvz (.quoNL rfl rfl (by decide) (by omega) (by omega)) ?_;refine lvz (.addN rfl rfl) ?_;refine goZ ?_)
 (refine fiz ?_)
 rfl):P:=h
theorem Words_calls (n:Nat) (hn:n < 18446744073709551616) (w:World):Calls prog 195 #[.int .u64 (n:Int)] w (Ret w (.int .u64 (((n+31) / 32:Nat):Int))):=by
 refine enter (args:=[_]) _ [] [] func195 rfl ntmps195 rfl (by simp) .nil ?_
 exact dTBXNQ
def memW (x:Nat):Nat:=3 * x+x * x / 512
theorem memW_eq (x:Nat) (hx:x≤1000):(3 * x % 18446744073709551616+x * x % 18446744073709551616 / 512) % 18446744073709551616=memW x:=by
 have h:=Nat.mul_le_mul hx hx
 unfold memW
 omega
theorem words_calls (x:Nat) (hx:x≤1000) (w:World):Calls prog 194 #[.int .u64 (x:Int)] w (Ret w (.int .u64 ((memW x:Nat):Int))):=by
 refine enter (args:=[_]) _ [] [] func194 rfl ntmps194 rfl (by simp) .nil ?_
 exact dTBdLx
theorem memW_mono {x y:Nat} (h:x≤y):memW x≤memW y:=by
 unfold memW
 have:=Nat.mul_le_mul h h
 have:=Nat.div_le_div_right (c:=512) this
 omega
def memV (a b:Nat):Nat:=if b≤a then 0 else if 1024 < b then 1099511627776 else memW ((b+31) / 32) - memW ((a+31) / 32)
theorem Memory_calls (a b:Nat) (ha:a < 18446744073709551616) (hb:b < 18446744073709551616) (w:World):Calls prog 121 #[.int .u64 (a:Int),.int .u64 (b:Int)] w (Ret w (.int .u64 ((memV a b:Nat):Int))):=by
 refine enter (args:=[_,_]) _ [] [] func121 rfl ntmps121 rfl (by simp) .nil ?_
 unfold memV
 by_cases h1:b≤a
 ·rw [if_pos h1]
  exact dTBJyT
 ·rw [if_neg h1]
  by_cases h2:1024 < b
  ·rw [if_pos h2]
   exact dTBJyT
  ·rw [if_neg h2]
   have hm:=memW_mono (show (a+31) / 32≤(b+31) / 32 by omega)
   have hm2:=memW_mono (show (b+31) / 32≤32 by omega)
   have hm3:memW 32=98:=by decide
   (refine goZ ?_;apply zS;rfl;rfl;exact vF;exact .cons rfl .nil;intro w _;refine Words_calls _ ?_ w;omega;apply zS;rfl;rfl;exact vF;exact .cons rfl .nil;intro w _;refine words_calls _ ?_ w;omega;refine goZ ?_;apply zS;rfl;rfl;exact vF;exact .cons rfl .nil;intro w _;refine Words_calls _ ?_ w;omega;apply zS;rfl;rfl;exact vF;exact .cons rfl .nil;intro w _;refine words_calls _ ?_ w;omega;refine lvz (.subN rfl rfl (by omega) (by omega)) ?_;refine goZ ?_)
   (refine fiz ?_)
   rfl
theorem take_le (l:List Nat) (m:Nat):(l.take m).sum≤l.sum:=by
 conv=>rhs;rw [← List.take_append_drop m l]
 rw [List.sum_append];omega
def spendV (left:Nat) (l:List Nat):Value:=if l.sum≤left then .tuple #[.int .u64 ((left - l.sum:Nat):Int),.bool true] else .tuple #[.int .u64 0,.bool false]
theorem Spend_calls (left:Nat) (l:List Nat) (hl:left < 18446744073709551616) (v:Value) (w:World) (hv:RowAt w 1 v l.length (ncs l)):Calls prog 118 #[.int .u64 (left:Int),v] w (Ret w (spendV left l)):=by
 obtain ⟨p,c,rfl,hc,hm⟩:=hv.form
 simp only [maxLen] at hm
 refine enter (args:=[_,_]) _ [] [] func118 rfl ntmps118 rfl (by simp) .nil ?_
 (refine goZ ?_;refine CW.scope ?_;refine goZ ?_;refine CW.label ?_;refine goZ ?_)
 refine qM (fun m:Nat=>([(11,.int .i64 (m:Int)),(10,.int .i64 (l.length:Int)),(9,.slice p l.length c),(6,.bool true),(0,.int .u64 ((left - (l.take m).sum:Nat):Int))],[]))
  (fun m=>m≤l.length∧(l.take m).sum≤left) (fun m=>l.length - m) 0 ⟨Nat.zero_le _,yT _⟩ ⟨rfl,rfl,rfl,rfl,rfl,trivial⟩ (jG _) ?_
 rintro m ⟨hml,hS⟩
 dsimp only
 rcases jM m l.length with hlt|hge
 ·obtain ⟨b,off,c',cs,E,fr,heq,hb,hx⟩:=hv.pos (by omega)
  cases heq
  obtain ⟨n,hn⟩:∃ n,n=l[m]:=⟨_,rfl⟩
  have hrd:Rd prog 26 (.cells cs E fr) (off+m * 1) (.int .u64 (n:Int)):=Rd.elem1 hx (ncs_one l) (by rw [hn];exact jO hlt) rfl
  have hst:=take_step l m hlt
  have htot:=take_le l (m+1)
  rw [← hn] at hst
  by_cases hle:n≤left - (l.take m).sum
  ·(refine goZ ?_;refine lvz (.subN rfl rfl (by omega) (by omega)) ?_;refine goZ ?_)
   apply thenX
   refine ⟨rfl,m+1,⟨hlt,by omega⟩,by omega,⟨rfl,rfl,rfl,rfl,?_,trivial⟩,jG _⟩
   rw [hst,← Nat.sub_sub];rfl
  ·unfold spendV
   rw [if_neg (by omega)]
   (refine goZ ?_;refine scopeQ.r ?_)
   (refine fiz ?_)
   rfl
 ·obtain rfl:m=l.length:=by omega
  rw [List.take_length] at hS ⊢
  unfold spendV
  rw [if_pos hS]
  (refine goZ ?_;refine scopeQ.r ?_)
  (refine fiz ?_)
  rfl

theorem dTBRHh {P:Prop} (h:P:=by
 (refine goZ ?_;intro _ _;apply qN;rfl;rfl;exact ValP.buildW0;refine lvz (.eqWF rfl rfl (by assumption) (by assumption) (by assumption)) ?_;refine goZ ?_;refine cEv hA ?_;intro _;refine cEv hS ?_)
 (refine fiz ?_)
 rfl):P:=h
theorem dTBZmv {P:Prop} (h:P:=by
 subst h0
 rw [if_pos rfl]
 (refine goZ ?_;intro _ _;apply qN;rfl;rfl;exact ValP.buildW0;refine lvz (.eqWT rfl rfl (by with_reducible rfl)) ?_;refine goZ ?_)
 (refine fiz ?_)
 rfl):P:=h
theorem dTBoPy {P:Prop} (h:P:=by
 (refine goZ ?_;apply zS;rfl;rfl;exact vF;exact .cons rfl .nil;intro w _;refine Words_calls _ ?_ w;omega;refine cEv h1 ?_)
 (refine fiz ?_)
 rfl):P:=h
abbrev NOG:Nat:=1099511627776
def timesV (n k:Nat):Nat:=if NOG≤n then NOG else min (n * k) NOG
theorem times1_calls (n k bb:Nat) (E:TypeId) (fr:Nat × Nat) (w:World) (hb:w.heap[bb]?=some (.cells #[.int .u64 (k:Int)] E fr)):Calls prog 232 #[.int .u64 (n:Int),.pointer (some ⟨bb,0,none⟩)] w (Ret w (.int .u64 ((n * k % 18446744073709551616:Nat):Int))):=by
 refine enter (args:=[_,_]) _ [] [] func232 rfl ntmps232 rfl (by simp) .nil ?_
 (refine goZ ?_;refine lvz (.mulN rfl rfl) ?_;refine goZ ?_)
 (refine fiz ?_)
 rfl
theorem within_calls (n k bb:Nat) (hn:n < 18446744073709551616) (hk:k≤1000) (E:TypeId) (fr:Nat × Nat) (w:World) (hb:w.heap[bb]?=some (.cells #[.int .u64 (k:Int)] E fr)) :
  Calls prog 231 #[.int .u64 (n:Int),.func (.func 232) #[] #[.pointer (some ⟨bb,0,none⟩)]] w (Ret w (.int .u64 ((timesV n k:Nat):Int))):=by
 refine enter (args:=[_,_]) _ [] [] func231 rfl ntmps231 rfl (by simp) .nil ?_
 unfold timesV
 by_cases h:NOG≤n
 ·rw [if_pos h]
  simp only [NOG] at h
  exact dTBJyT
 ·rw [if_neg h]
  simp only [NOG] at h
  have hp:=Nat.mul_le_mul (show n≤1099511627775 by omega) hk
  have hm:n * k % 18446744073709551616=n * k:=jY (by omega)
  (refine goZ ?_)
  apply LW.call
  rfl
  rfl
  exact vF
  (exact .cons rfl .nil)
  ·intro w' hs
   have:=times1_calls n k bb E fr w' (by rw [hs.bel.block bb (Array.getElem?_eq_some_iff.1 hb).1 (by simp)];exact hb)
   rw [hm] at this
   exact this
  (refine lvz (.minZL rfl rfl (by decide)) ?_;refine goZ ?_)
  (refine fiz ?_)
  rfl
theorem times_calls (n k:Nat) (hn:n < 18446744073709551616) (hk:k≤1000) (w:World):Calls prog 224 #[.int .u64 (n:Int),.int .u64 (k:Int)] w (Ret w (.int .u64 ((timesV n k:Nat):Int))):=by
 refine enter (args:=[_,_]) _ [] [] func224 rfl ntmps224 rfl (by simp) .nil ?_
 (refine goZ ?_;apply LW.box1;rfl;rfl;rfl;intro _;refine goZ ?_;apply qN;rfl;rfl;apply ValP.makeFunc;exact qT;exact .cons rfl .nil)
 rename_i bb
 (refine cEz (c:=fun w hst=>by exact within_calls _ _ _ hn hk _ _ w ((hst.own (bb,_) memZ).2)) (k:=?_))
 (refine fiz ?_)
 rfl
theorem Hash_calls (n:Nat) (hn:n < 18446744073709551616) (w:World):Calls prog 207 #[.int .u64 (n:Int)] w (Ret w (.int .u64 ((timesV ((n+31) / 32) 6:Nat):Int))):=by
 have h1:∀ w,Calls prog 224 #[.int .u64 (((n+31) / 32:Nat):Int),.int .u64 6] w (Ret w (.int .u64 ((timesV ((n+31) / 32) 6:Nat):Int))):=times_calls _ 6 (by omega) (by decide)
 refine enter (args:=[_]) _ [] [] func207 rfl ntmps207 rfl (by simp) .nil ?_
 exact dTBoPy
theorem Copy_calls (n:Nat) (hn:n < 18446744073709551616) (w:World):Calls prog 221 #[.int .u64 (n:Int)] w (Ret w (.int .u64 ((timesV ((n+31) / 32) 3:Nat):Int))):=by
 have h1:∀ w,Calls prog 224 #[.int .u64 (((n+31) / 32:Nat):Int),.int .u64 3] w (Ret w (.int .u64 ((timesV ((n+31) / 32) 3:Nat):Int))):=times_calls _ 3 (by omega) (by decide)
 refine enter (args:=[_]) _ [] [] func221 rfl ntmps221 rfl (by simp) .nil ?_
 exact dTBoPy
def endV (a n:Nat):Nat:=if n=0 then 0 else min (a+n) NOG
theorem End_calls (a n:Nat) (ha:a < M256) (hn:n < M256) (w:World):Calls prog 120 #[wv a,wv n] w (Ret w (.int .u64 ((endV a n:Nat):Int))):=by
 refine enter (args:=[_,_]) _ [] [] func120 rfl ntmps120 rfl (by simp) .nil ?_
 unfold endV
 have hz:(0:Nat) < M256:=by decide
 by_cases h0:n=0
 ·exact dTBZmv
 ·rw [if_neg h0]
  have hA0:=Add_calls a n ha hn
  have hS0:=Small_calls ((a+n) % M256) (yS _ (by decide))
  rcases jM (a+n) M256 with h|h
  ·rw [jY h] at hA0 hS0
   rw [vA (Nat.not_le.2 h)] at hA0
   have hA:=hA0
   rcases jM (a+n) 18446744073709551616 with hs|hs
   ·rw [if_pos hs,vE hs] at hS0
    have hS:=hS0
    (refine goZ ?_;intro _ _;apply qN;rfl;rfl;exact ValP.buildW0;refine lvz (.eqWF rfl rfl (by assumption) (by assumption) (by assumption)) ?_;refine goZ ?_;refine cEv hA ?_;intro _;refine cEv hS ?_;refine lvz (.minZL rfl rfl (by decide)) ?_;refine goZ ?_)
    (refine fiz ?_)
    rfl
   ·rw [if_neg (Nat.not_lt.2 hs),vA (Nat.not_lt.2 hs)] at hS0
    have hS:=hS0
    rw [Nat.min_eq_right (by simp only [NOG];omega)]
    exact dTBRHh
  ·rw [vE h] at hA0
   have hA:=hA0
   rw [Nat.min_eq_right (by simp only [NOG];simp only [M256] at h;omega)]
   obtain ⟨x,y,hS⟩:∃ x y,∀ w,Calls prog 116 #[wv ((a+n) % M256)] w (Ret w (.tuple #[.int .u64 ((x:Nat):Int),.bool y])):=⟨_,_,hS0⟩
   exact dTBRHh

theorem dTBZLw {P:Prop} (h:P:=by
 (refine goZ ?_;intro _ _;apply qN;rfl;rfl;exact ValP.buildW0;refine lvz (.eqWF rfl rfl (by assumption) (by assumption) (by assumption)) ?_;refine goZ ?_;refine cEv hA ?_;intro _;refine lvz (.buildW1L rfl (by decide) rfl) ?_;refine goZ ?_;refine cEv hC ?_)
 (refine fiz ?_)
 rfl):P:=h
theorem rWords_calls (n:Nat) (hn:n < 18446744073709551616) (w:World):Calls prog 81 #[.int .u64 (n:Int)] w (Ret w (.int .u64 (((n+31) / 32:Nat):Int))):=by
 refine enter (args:=[_]) _ [] [] func81 rfl ntmps81 rfl (by simp) .nil ?_
 exact dTBXNQ
theorem rTimes_calls (n k:Nat) (hn:n < 18446744073709551616) (hk:k≤1000) (w:World):Calls prog 212 #[.int .u64 (n:Int),.int .u64 (k:Int)] w (Ret w (.int .u64 ((timesV n k:Nat):Int))):=by
 refine enter (args:=[_,_]) _ [] [] func212 rfl ntmps212 rfl (by simp) .nil ?_
 unfold timesV
 by_cases h:NOG≤n
 ·rw [if_pos h]
  simp only [NOG] at h
  exact dTBJyT
 ·rw [if_neg h]
  simp only [NOG] at h
  have hp:=Nat.mul_le_mul (show n≤1099511627775 by omega) hk
  have hm:n * k % 18446744073709551616=n * k:=jY (by omega)
  rw [← hm]
  (refine goZ ?_;refine lvz (.mulN rfl rfl) ?_;refine lvz (.minZL rfl rfl (by decide)) ?_;refine goZ ?_)
  (refine fiz ?_)
  rfl
theorem rwords_calls (x:Nat) (hx:x≤1000) (w:World):Calls prog 80 #[.int .u64 (x:Int)] w (Ret w (.int .u64 ((memW x:Nat):Int))):=by
 refine enter (args:=[_]) _ [] [] func80 rfl ntmps80 rfl (by simp) .nil ?_
 exact dTBdLx
theorem rMemory_calls (a b:Nat) (ha:a < 18446744073709551616) (hb:b < 18446744073709551616) (w:World):Calls prog 32 #[.int .u64 (a:Int),.int .u64 (b:Int)] w (Ret w (.int .u64 ((memV a b:Nat):Int))):=by
 refine enter (args:=[_,_]) _ [] [] func32 rfl ntmps32 rfl (by simp) .nil ?_
 unfold memV
 by_cases h1:b≤a
 ·rw [if_pos h1]
  exact dTBJyT
 ·rw [if_neg h1]
  by_cases h2:1024 < b
  ·rw [if_pos h2]
   exact dTBJyT
  ·rw [if_neg h2]
   have hm:=memW_mono (show (a+31) / 32≤(b+31) / 32 by omega)
   have hm2:=memW_mono (show (b+31) / 32≤32 by omega)
   have hm3:memW 32=98:=by decide
   (refine goZ ?_;apply zS;rfl;rfl;exact vF;exact .cons rfl .nil;intro w _;refine rWords_calls _ ?_ w;omega;apply zS;rfl;rfl;exact vF;exact .cons rfl .nil;intro w _;refine rwords_calls _ ?_ w;omega;refine goZ ?_;apply zS;rfl;rfl;exact vF;exact .cons rfl .nil;intro w _;refine rWords_calls _ ?_ w;omega;apply zS;rfl;rfl;exact vF;exact .cons rfl .nil;intro w _;refine rwords_calls _ ?_ w;omega;refine lvz (.subN rfl rfl (by omega) (by omega)) ?_;refine goZ ?_)
   (refine fiz ?_)
   rfl
theorem rEnd_calls (a n:Nat) (ha:a < M256) (hn:n < M256) (w:World):Calls prog 78 #[wv a,wv n] w (Ret w (.int .u64 ((endV a n:Nat):Int))):=by
 have hA0:=rAdd_calls a n ha hn
 have hz:(0:Nat) < M256:=by decide
 have hNM:(1099511627776:Nat) < M256:=by decide
 refine enter (args:=[_,_]) _ [] [] func78 rfl ntmps78 rfl (by simp) .nil ?_
 unfold endV
 by_cases h0:n=0
 ·exact dTBZmv
 ·rw [if_neg h0]
  rcases jM (a+n) M256 with h|h
  ·rw [jY h,vA (Nat.not_le.2 h)] at hA0
   have hA:=hA0
   have hC0:=rCmp_calls (a+n) 1099511627776 h hNM
   rcases jM (a+n) 1099511627776 with hs|hs
   ·rw [if_pos hs] at hC0
    have hC:=hC0
    rw [Nat.min_eq_left (Nat.le_of_lt hs),show a+n=(a+n) % 18446744073709551616 by omega]
    exact dTBZLw
   ·rw [Nat.min_eq_right hs]
    rw [if_neg (Nat.not_lt.2 hs)] at hC0
    rcases jM 1099511627776 (a+n) with hs2|hs2
    ·rw [if_pos hs2] at hC0
     have hC:=hC0
     exact dTBZLw
    ·rw [if_neg (Nat.not_lt.2 hs2)] at hC0
     have hC:=hC0
     exact dTBZLw
  ·rw [vE h] at hA0
   have hA:=hA0
   rw [Nat.min_eq_right (by simp only [NOG];simp only [M256] at h;omega)]
   (refine goZ ?_;intro _ _;apply qN;rfl;rfl;exact ValP.buildW0;refine lvz (.eqWF rfl rfl (by assumption) (by assumption) (by assumption)) ?_;refine goZ ?_;refine cEv hA ?_;intro _)
   (refine fiz ?_)
   rfl
theorem wcs_app (l r:List Nat):wcs (l++r)=wcs l++wcs r:=by simp [wcs]
theorem wcs_take (l:List Nat) (k:Nat):(wcs l).take (k * 4)=wcs (l.take k):=by
 induction l generalizing k with
 |nil=>simp [wcs]
 |cons a l ih =>
  cases k with
  |zero=>simp [wcs]
  |succ k =>
   have:=ih k
   simp only [wcs,yJ,List.take_succ_cons] at *
   rw [← this,show (k+1) * 4=(wc a).toList.length+k * 4 by show (k+1) * 4=4+k * 4;omega,List.take_length_add_append]
theorem wcs_drop (l:List Nat) (k:Nat):(wcs l).drop (k * 4)=wcs (l.drop k):=by
 induction l generalizing k with
 |nil=>simp [wcs]
 |cons a l ih =>
  cases k with
  |zero=>simp [wcs]
  |succ k =>
   have:=ih k
   simp only [wcs,yJ,List.drop_succ_cons] at *
   rw [← this,show (k+1) * 4=(wc a).toList.length+k * 4 by show (k+1) * 4=4+k * 4;omega,List.drop_length_add_append]
theorem wcs_cells (l:List Nat):∀ u∈wcs l,u.oneCell'=true:=fun u hu=>by
 obtain ⟨a,_,hb⟩:=List.mem_flatMap.1 hu
 simp only [wc,List.mem_cons,List.not_mem_nil,or_false] at hb
 rcases hb with rfl|rfl|rfl|rfl<;>rfl
theorem dTBduf {P:Prop} (h:P:=by
 (refine goZ ?_)
 apply thenX
 exact ⟨rfl,k+1,⟨hlt,hl2⟩,by omega,⟨rfl,rfl,rfl,rfl,rfl,trivial⟩,jG _⟩):P:=h
theorem anyFrom_calls (x m f:Nat) (hx:x < 2 ^ m) (hm:m < 1000) (hf:f < 1000) (v:Value) (w:World) (hv:RowAt w 1 v m (ics (bl x m))):Calls prog 215 #[v,.int .i64 (f:Int)] w (Ret w (.bool (decide (2 ^ f≤x)))):=by
 obtain ⟨p,c,rfl,hc,hmx⟩:=hv.form
 refine enter (args:=[_,_]) _ [] [] func215 rfl ntmps215 rfl (by simp) .nil ?_
 (refine goZ ?_)
 refine qM (fun k:Nat=>([(9,.int .i64 (k:Int)),(8,.int .i64 (m:Int)),(7,.slice p m c),(4,.bool false),(1,.int .i64 (f:Int))],[]))
  (fun k=>k≤m∧x % 2 ^ k < 2 ^ f) (fun k=>m - k) 0 ⟨Nat.zero_le _,by rw [Nat.pow_zero,Nat.mod_one];exact pow_pos2 f⟩ ⟨rfl,rfl,rfl,rfl,rfl,trivial⟩ (jG _) ?_
 rintro k ⟨hk,hlow⟩
 dsimp only at hk ⊢
 rcases jM k m with hlt|hge
 ·obtain ⟨ba,oa,_,csa,Ea,fra,ea,hba,hxa⟩:=hv.pos (by omega)
  cases ea
  have hra:Rd prog 3 (.cells csa Ea fra) (oa+k * 1) (.int .i64 ((x / 2 ^ k % 2:Nat):Int)):=Rd.elem1 hxa (ics_len _) (bl_get x m k hlt) rfl
  have hstep:x % 2 ^ (k+1)=x % 2 ^ k+2 ^ k * (x / 2 ^ k % 2):=Nat.mod_pow_succ
  rcases Nat.mod_two_eq_zero_or_one (x / 2 ^ k) with hb|hb
  ·rw [hb] at hra
   have hl2:x % 2 ^ (k+1) < 2 ^ f:=by rw [hstep,hb];omega
   rcases jM k f with h|h
   ·exact dTBduf
   ·exact dTBduf
  ·rw [hb] at hra
   rcases jM k f with h|h
   ·have hl2:x % 2 ^ (k+1) < 2 ^ f:=Nat.lt_of_lt_of_le (yS _ (pow_pos2 _)) (yU (n:=2) (by decide) h)
    exact dTBduf
   ·have hge2:2 ^ f≤x:=by
     rcases jM x (2 ^ k) with h1|h1
     ·rw [Nat.div_eq_of_lt h1] at hb;cases hb
     ·exact Nat.le_trans (yU (n:=2) (by decide) h) h1
    (refine goZ ?_)
    (refine fiz ?_)
    rw [vE hge2];rfl
 ·obtain rfl:k=m:=by omega
  rw [jY hx] at hlow
  (refine goZ ?_)
  (refine fiz ?_)
  rw [vA (Nat.not_le.2 hlow)];rfl
theorem bl_shift (a k:Nat):List.replicate k 0++bl a 256=bl (a * 2 ^ k) (k+256):=by
 apply List.ext_getElem?
 intro i
 rcases jM i k with h|h
 ·rw [List.getElem?_append_left (by simpa using h),List.getElem?_replicate,if_pos h,bl_get _ _ _ (by omega)]
  obtain ⟨j,rfl⟩:∃ j,k=i+1+j:=⟨k - i - 1,by omega⟩
  rw [yV,Nat.pow_succ,yZ (2 ^ i) 2,Nat.mul_assoc 2,← Nat.mul_assoc,yZ a 2,Nat.mul_assoc,Nat.mul_left_comm a,← Nat.mul_assoc,yZ 2 (2 ^ i),Nat.mul_assoc,Nat.mul_div_cancel_left _ (pow_pos2 i),Nat.mul_mod_right]
 ·rw [List.getElem?_append_right (by simpa using h),List.length_replicate]
  rcases jM i (k+256) with h2|h2
  ·rw [bl_get _ _ _ (by omega),bl_get _ _ _ h2]
   obtain ⟨j,rfl⟩:∃ j,i=k+j:=⟨i - k,by omega⟩
   rw [show k+j - k=j by omega,yV,yZ a,Nat.mul_div_mul_left _ _ (pow_pos2 k)]
  ·rw [yN (by rw [bl_len];omega),yN (by rw [bl_len];exact h2)]
theorem bl_high (x j:Nat) (h:x < 2 ^ j):x / 2 ^ j % 2=0:=by rw [Nat.div_eq_of_lt h]
theorem pow_le2 {i j:Nat} (h:i≤j):2 ^ i≤2 ^ j:=yU (by decide) h
theorem lt_more {x i n:Nat} (h:x < 2 ^ i) (hn:i≤n):x < 2 ^ n:=Nat.lt_of_lt_of_le h (pow_le2 hn)
theorem mul_lt_pow {x y i j n:Nat} (hx:x < 2 ^ i) (hy:y < 2 ^ j) (h:i+j≤n):x * y < 2 ^ n:=lt_more (by rw [yV];exact Nat.mul_lt_mul'' hx hy) h
theorem bl_take (x m k:Nat) (h:k≤m):(bl x m).take k=bl x k:=by
 apply List.ext_getElem?
 intro i
 rw [List.getElem?_take]
 split
 ·rename_i hi
  rw [bl_get _ _ _ hi,bl_get _ _ _ (by omega)]
 ·rw [yN (by rw [bl_len];omega)]
theorem rMul_calls (a b:Nat) (ha:a < M256) (hb:b < M256) (w:World):Calls prog 183 #[wv a,wv b] w (Ret w (.tuple #[wv (a * b % M256),.bool (decide (M256≤a * b))])):=by
 refine enter (args:=[_,_]) _ [] [] func183 rfl ntmps183 rfl (by simp) .nil ?_
 (refine goZ ?_;intro _ _ _)
 apply LW.makeRow
 rfl
 exact vF
 exact vF
 exact vF
 rfl
 rfl
 decide
 (simp [maxLen])
 intro va ga hra
 obtain ⟨pa,ca,rfl⟩:=hra.form
 (refine goZ ?_)
 (refine crz (c:=fun w hs=>by exact bits_calls _ _ (by assumption) (by decide) w) (k:=?_))
 intro vo go hro
 replace hro:IsRow 3 1 vo 256 (ics (bl a 256)) go:=hro
 obtain ⟨po,co,rfl⟩:=hro.form
 (refine goZ ?_)
 rename_i ba bb bc
 refine CW.perm (List.perm_append_comm_assoc ga go _) ?_
 refine qM (fun x:RC=>([(13,.int .i64 (x.m:Int)),(7,.slice po 256 co),(6,x.v),(5,.bool false),(4,.pointer (some ⟨bc,0,none⟩)),(3,.pointer (some ⟨bb,0,none⟩)),(2,.pointer (some ⟨ba,0,none⟩))],
   x.seg++(go++[(bc,.cells (wc 0) 29 (0,0)),(bb,.cells (wc b) 29 (0,0)),(ba,.cells (wc a) 29 (0,0))])))
  (fun x=>x.m≤256∧IsRow 3 1 x.v 513 (ics (bl (a * (b % 2 ^ x.m)) 513)) x.seg) (fun x=>256 - x.m) ⟨0,.slice pa 513 ca,ga⟩ ⟨Nat.zero_le _,?_⟩ ⟨rfl,rfl,rfl,rfl,rfl,rfl,rfl,trivial⟩ (by (exact jG _)) ?_
 ·rw [Nat.pow_zero,Nat.mod_one,Nat.mul_zero,show bl 0 513=List.replicate 513 0 from by simp [bl,List.map_const'],← ics_zero]
  exact hra
 rintro ⟨k,v,seg⟩ ⟨hk,hrow⟩
 dsimp only at hk hrow ⊢
 obtain ⟨p,c,rfl⟩:=hrow.form
 have hstep:b % 2 ^ (k+1)=b % 2 ^ k+2 ^ k * (b / 2 ^ k % 2):=Nat.mod_pow_succ
 rcases jM k 256 with hlt|hge
 ·rcases Nat.mod_two_eq_zero_or_one (b / 2 ^ k) with hbit|hbit
  ·(refine goZ ?_;apply zS;rfl;rfl;exact vF;exact .cons rfl (.cons rfl .nil);intro w _;refine Bit_calls _ _ ?_ ?_ w;assumption;omega;refine goZ ?_)
   apply thenX
   exact ⟨rfl,⟨k+1,_,seg⟩,⟨hlt,by rw [hstep,hbit,Nat.mul_zero,Nat.add_zero];exact hrow⟩,by show 256 - (k+1) < 256 - k;omega,⟨rfl,rfl,rfl,rfl,rfl,rfl,rfl,trivial⟩,jG _⟩
  ·have ha2:a < 2 ^ 256:=ha
   have hb2:b % 2 ^ k < 2 ^ k:=yS _ (pow_pos2 k)
   have hy:a * 2 ^ k < 2 ^ (k+256):=by rw [Nat.add_comm,yV];exact Nat.mul_lt_mul_of_pos_right ha2 (pow_pos2 k)
   have hy513:=lt_more (n:=513) hy (by omega)
   have hx513:a * (b % 2 ^ k) < 2 ^ 513:=yR (Nat.mul_le_mul_left a (Nat.le_of_lt hb2)) hy513
   have hsum:a * (b % 2 ^ k)+a * 2 ^ k=a * (b % 2 ^ (k+1)):=by rw [hstep,hbit,yE,Nat.mul_add]
   (refine goZ ?_;apply zS;rfl;rfl;exact vF;exact .cons rfl (.cons rfl .nil);intro w _;refine Bit_calls _ _ ?_ ?_ w;assumption;omega;refine goZ ?_)
   apply LW.makeRow
   rfl
   exact vF
   exact vF
   exact vF
   rfl
   rfl
   omega
   (simp only [maxLen];omega)
   intro vm gm hrm
   obtain ⟨pm,cm,rfl⟩:=hrm.form
   (refine goZ ?_)
   refine LW.appendAt rfl rfl vF vF vF rfl rfl rfl (by (exact qJ)) hrm (fun w hs=>hro.atSeg (by (apply qL;apply qL;exact qJ)) hs) (ics_cells _) (by decide) (by simp only [maxLen];omega) (by omega) ?_
   intro v2 g2 hr2
   rw [ics_zero,← ics_app,bl_shift] at hr2
   obtain ⟨p2,c2,rfl⟩:=hr2.form
   refine ⟨_,(by (exact qJ)),?_⟩
   try simp only [jQ]
   (refine goZ ?_)
   refine qM (fun x:RC=>([(9,x.v),(13,.int .i64 (k:Int)),(7,.slice po 256 co),(6,.slice p 513 c),(5,.bool false),(4,.pointer (some ⟨bc,0,none⟩)),(3,.pointer (some ⟨bb,0,none⟩)),(2,.pointer (some ⟨ba,0,none⟩))],
     x.seg++(seg++(go++[(bc,.cells (wc 0) 29 (0,0)),(bb,.cells (wc b) 29 (0,0)),(ba,.cells (wc a) 29 (0,0))]))))
    (fun x=>k+256≤x.m∧x.m≤513∧IsRow 3 1 x.v x.m (ics (bl (a * 2 ^ k) x.m)) x.seg) (fun x=>513 - x.m) ⟨k+256,.slice p2 (k+256) c2,g2⟩ ⟨Nat.le_refl _,by show k+256≤513;omega,hr2⟩ ⟨rfl,rfl,rfl,rfl,rfl,rfl,rfl,rfl,trivial⟩ (by (exact jG _)) ?_
   rintro ⟨j,vj,sj⟩ ⟨hj1,hj2,hrj⟩
   dsimp only at hj1 hj2 hrj ⊢
   obtain ⟨pj,cj,rfl⟩:=hrj.form
   rcases jM j 513 with hjl|hjg
   ·have hz:(a * 2 ^ k) / 2 ^ j % 2=0:=bl_high _ _ (Nat.lt_of_lt_of_le hy (yU (n:=2) (by decide) hj1))
    (refine goZ ?_;intro _)
    (apply qZ;rfl;rfl;exact vF;exact vF;exact vF;rfl;rfl;rfl;(case hrow=>assumption);apply qK;exact qJ;apply qH;apply zY;rfl;rfl;rfl;omega;simp only [maxLen];omega;omega;intro v' seg' hrow';obtain ⟨p',c',rfl⟩:=hrow'.form;(refine ⟨_,(by (repeat (first|exact qJ|apply qK|apply qL))),?_⟩);(try simp only [yA,jQ]))
    (refine goZ ?_)
    apply thenX
    exact ⟨rfl,⟨j+1,_,seg'⟩,⟨by show k+256≤j+1;omega,hjl,by rw [bl_succ,ics_app,hz];exact hrow'⟩,by show 513 - (j+1) < 513 - j;omega,⟨rfl,rfl,rfl,rfl,rfl,rfl,rfl,rfl,trivial⟩,by (apply jK;exact jG _)⟩
   ·obtain rfl:j=513:=by omega
    (refine goZ ?_)
    (refine crz (c:=fun w hs=>by exact add_calls _ _ 513 hx513 hy513 (by decide) _ _ w (hrow.atSeg (by (apply qL;exact qJ)) hs) (hrj.atSeg (by (exact qJ)) hs)) (k:=?_))
    intro vs gs hrs
    obtain ⟨ps,cs,rfl⟩:=hrs.form
    have hcs:514≤cs:=by cases hrs with|own h _ _ _ _=>exact h
    have hrs2:=hrs.take (k:=513) (by decide)
    rw [ics_take,bl_take _ _ _ (by decide),hsum] at hrs2
    (refine lvz (.cutToL vF vF rfl rfl (by decide) (by omega)) ?_;refine goZ ?_)
    apply thenX
    exact ⟨rfl,⟨k+1,_,gs⟩,⟨hlt,hrs2⟩,by show 256 - (k+1) < 256 - k;omega,⟨rfl,rfl,rfl,rfl,rfl,rfl,rfl,trivial⟩,by (apply jL;apply jS;apply jS;exact jG _)⟩
 ·obtain rfl:k=256:=by omega
  have hbb:b % 2 ^ 256=b:=jY hb
  rw [hbb] at hrow
  have hP:=mul_lt_pow (n:=513) (show a < 2 ^ 256 from ha) (show b < 2 ^ 256 from hb) (by decide)
  (refine goZ ?_)
  apply zS
  rfl
  rfl
  exact vF
  (exact .cons rfl .nil)
  ·intro w hs
   exact of_calls (a * b) 513 (by decide) _ w (hrow.atSeg (by (exact qJ)) hs)
  (refine goZ ?_)
  apply zS
  rfl
  rfl
  exact vF
  (exact .cons rfl (.cons rfl .nil))
  ·intro w hs
   exact anyFrom_calls (a * b) 513 256 hP (by decide) (by decide) _ w (hrow.atSeg (by (exact qJ)) hs)
  exact dTBJyT
theorem and32 (n:Nat):n &&& 4294967295=n % 4294967296:=Nat.and_two_pow_sub_one_eq_mod n 32
theorem Mul64_calls (x y:Nat) (hx:x < 18446744073709551616) (hy:y < 18446744073709551616) (w:World):Calls prog 63 #[.int .u64 (x:Int),.int .u64 (y:Int)] w (Ret w (.tuple #[.int .u64 ((x * y / 18446744073709551616:Nat):Int),.int .u64 ((x * y % 18446744073709551616:Nat):Int)])):=by
 refine enter (args:=[_,_]) _ [] [] func63 rfl ntmps63 rfl (by simp) .nil ?_
 (refine goZ ?_;refine lvz (.andUL rfl rfl (by decide) (by omega) (by omega)) ?_;refine goZ ?_;refine lvz (.shrUL rfl rfl (by decide) (by omega)) ?_;refine goZ ?_;refine lvz (.andUL rfl rfl (by decide) (by omega) (by omega)) ?_;refine goZ ?_;refine lvz (.shrUL rfl rfl (by decide) (by omega)) ?_;refine goZ ?_;refine lvz (.mulN rfl rfl) ?_;refine goZ ?_;refine lvz (.mulN rfl rfl) ?_;refine goZ ?_;refine lvz (.shrUL rfl rfl (by decide) (by omega)) ?_;refine lvz (.addN rfl rfl) ?_;refine goZ ?_;refine lvz (.andUL rfl rfl (by decide) (by omega) (by omega)) ?_;refine goZ ?_;refine lvz (.shrUL rfl rfl (by decide) (by omega)) ?_;refine goZ ?_;refine lvz (.mulN rfl rfl)<|lvz (.addN rfl rfl) ?_;refine goZ ?_;refine lvz (.mulN rfl rfl) ?_;refine goZ ?_;refine lvz (.addN rfl rfl) ?_;refine goZ ?_;refine lvz (.shrUL rfl rfl (by decide) (by omega)) ?_;refine lvz (.addN rfl rfl) ?_;refine goZ ?_;refine lvz (.mulN rfl rfl) ?_;refine goZ ?_)
 (refine fiz ?_)
 refine congrArg (fun z:Nat=>Value.tuple #[.int .u64 (z:Int),.int .u64 ((x * y % 18446744073709551616:Nat):Int)]) ?_
 simp only [and32,Nat.reducePow]
 have e:x * y=(x / 4294967296) * (y / 4294967296) * (4294967296 * 4294967296)+((x / 4294967296) * (y % 4294967296)+(x % 4294967296) * (y / 4294967296)) * 4294967296+(x % 4294967296) * (y % 4294967296):=by
  rw [← Lib.split_mul,Nat.div_add_mod' x 4294967296,Nat.div_add_mod' y 4294967296]
 have ha:=Lib.half_mul_le (a:=x / 4294967296) (b:=y / 4294967296) (by omega) (by omega)
 have hb:=Lib.half_mul_le (a:=x / 4294967296) (b:=y % 4294967296) (by omega) (by omega)
 have hc:=Lib.half_mul_le (a:=x % 4294967296) (b:=y / 4294967296) (by omega) (by omega)
 have hd:=Lib.half_mul_le (a:=x % 4294967296) (b:=y % 4294967296) (by omega) (by omega)
 rw [e]
 generalize (x / 4294967296) * (y / 4294967296)=a at ha ⊢
 generalize (x / 4294967296) * (y % 4294967296)=b at hb ⊢
 generalize (x % 4294967296) * (y / 4294967296)=c at hc ⊢
 generalize (x % 4294967296) * (y % 4294967296)=d at hd ⊢
 clear e hx hy
 omega
def val:List Nat→Nat
 |[]=>0
 |x::r=>x+18446744073709551616 * val r
theorem val_set:∀ (L:List Nat) (j v:Nat) (hj:j < L.length),val (L.set j v)+L[j] * 18446744073709551616 ^ j=val L+v * 18446744073709551616 ^ j
 |x::r,0,v,_=>by simp [val];omega
 |x::r,j+1,v,hj=>by
  have:=val_set r j v (by simpa using hj)
  simp only [jF,val,List.getElem_cons_succ,Nat.pow_succ]
  have e:∀ y,y * (18446744073709551616 ^ j * 18446744073709551616)=18446744073709551616 * (y * 18446744073709551616 ^ j):=fun y=>by rw [← Nat.mul_assoc,yZ]
  rw [e,e]
  omega
theorem mul_step (x y l c:Nat) (hx:x < 18446744073709551616) (hy:y < 18446744073709551616) (hl:l < 18446744073709551616) (hc:c < 18446744073709551616) :
  let lo:=x * y % 18446744073709551616;let hi:=x * y / 18446744073709551616
  let l1:=(lo+l+0) % 18446744073709551616;let c1:=(lo+l+0) / 18446744073709551616
  let l2:=(l1+c+0) % 18446744073709551616;let c2:=(l1+c+0) / 18446744073709551616
  (hi+c1) % 18446744073709551616=hi+c1∧(hi+c1+c2) % 18446744073709551616=hi+c1+c2∧l2+18446744073709551616 * (hi+c1+c2)=x * y+l+c∧l2 < 18446744073709551616∧hi+c1+c2 < 18446744073709551616:=by
 have hxy:x * y≤18446744073709551615 * 18446744073709551615:=Nat.mul_le_mul (by omega) (by omega)
 generalize x * y=p at *
 dsimp only
 omega
theorem inv_step (v v' l lo c c' xy P:Nat) (h1:v'+l * P=v+lo * P) (h2:lo+18446744073709551616 * c'=xy+l+c):v'+c' * (P * 18446744073709551616)=v+c * P+xy * P:=by
 have h3:(lo+18446744073709551616 * c') * P=(xy+l+c) * P:=by rw [h2]
 rw [Nat.add_mul,Nat.add_mul,Nat.add_mul] at h3
 have e:c' * (P * 18446744073709551616)=18446744073709551616 * c' * P:=by rw [yZ P,← Nat.mul_assoc,yZ c']
 rw [e];omega
theorem mul_last (l0 l1 l2 l3 l4 l5 l6 l7 n:Nat) (h0:l0 < 18446744073709551616) (h1:l1 < 18446744073709551616) (h2:l2 < 18446744073709551616) (h3:l3 < 18446744073709551616) (h:val [l0,l1,l2,l3,l4,l5,l6,l7]=n) :
  n % 115792089237316195423570985008687907853269984665640564039457584007913129639936=l0+18446744073709551616 * l1+340282366920938463463374607431768211456 * l2+6277101735386680763835789423207666416102355444464034512896 * l3 ∧
  (115792089237316195423570985008687907853269984665640564039457584007913129639936≤n↔(l4 ≠ 0∨l5 ≠ 0∨l6 ≠ 0∨l7 ≠ 0)):=by
 simp only [val] at h
 constructor<;>omega
def lcs (L:List Nat):Array Value:=(L.map fun x=>Value.int .u64 ((x:Nat):Int)).toArray
theorem Add64_run (x y:Nat) (w:World):(callFunc 61 #[.int .u64 x,.int .u64 y,.int .u64 (0:Int)]).run prog w=.ok (.value (.tuple #[.int .u64 (((x+y+0) % 18446744073709551616:Nat):Int),.int .u64 (((x+y+0) / 18446744073709551616:Nat):Int)])) w:=add64_run x y 0 (by decide) w
theorem lcs_get (L:List Nat) (j:Nat) (h:j < L.length):(lcs L)[j]?=some (.int .u64 ((L[j]:Nat):Int)):=by simp [lcs,h]
theorem lcs_set (L:List Nat) (j v:Nat):wrCells (lcs L) j [.int .u64 ((v:Nat):Int)]=lcs (L.set j v):=by
 simp only [wrCells,lcs]
 rw [jA,List.map_set]
theorem lcs_rd (L:List Nat) (j:Nat) (h:j < L.length) {E:TypeId} {fr:Nat × Nat}:Rd prog 26 (.cells (lcs L) E fr) (0+j * 1) (.int .u64 ((L[j]:Nat):Int)):=Rd.one (by rw [jH,yE];exact lcs_get L j h)
theorem lcs_wr (L:List Nat) (j v:Nat) (h:j < L.length) {E:TypeId}:Wr prog 26 (.cells (lcs L) E (0,0)) (0+j * 1) (.int .u64 ((v:Nat):Int)) (.cells (lcs (L.set j v)) E (0,0)) :=
 qU rfl rfl (by show 0+j * 1+1≤(lcs L).size;simp [lcs];omega) (by rw [jH,yE];exact lcs_set L j v)
structure MO where
 i:Nat
 L:List Nat
structure MI where
 k:Nat
 c:Nat
 L:List Nat
def limb (a i:Nat):Nat:=a / 2 ^ (64 * i) % 18446744073709551616
theorem B_pow (i:Nat):(18446744073709551616:Nat) ^ i=2 ^ (64 * i):=by rw [show (18446744073709551616:Nat)=2 ^ 64 from rfl,← Nat.pow_mul]
theorem limb_step (a i:Nat):a % 2 ^ (64 * (i+1))=a % 2 ^ (64 * i)+limb a i * 18446744073709551616 ^ i:=by
 rw [Nat.mul_add,yE,yV,Nat.mod_mul,limb,B_pow,yZ (2 ^ (64 * i))]
theorem nth_limb (a k:Nat) (h:k < 4):nth (wc a).toList k=some (.int .u64 ((limb a k:Nat):Int)):=nth_wc a k h
theorem limb_lt (a i:Nat):limb a i < 18446744073709551616:=yS _ (by decide)
theorem getElem_mem_lt {L:List Nat} (h:∀ y∈L,y < 18446744073709551616) (j:Nat) (hj:j < L.length):L[j] < 18446744073709551616:=h _ (List.getElem_mem hj)
theorem set_lt {L:List Nat} (h:∀ y∈L,y < 18446744073709551616) (j v:Nat) (hv:v < 18446744073709551616):∀ y∈L.set j v,y < 18446744073709551616:=fun y hy=>by
 rcases List.mem_or_eq_of_mem_set hy with h1|rfl
 ·exact h y h1
 ·exact hv
theorem Mul_calls (a b:Nat) (ha:a < M256) (hb:b < M256) (w:World):Calls prog 19 #[wv a,wv b] w (Ret w (.tuple #[wv (a * b % M256),.bool (decide (M256≤a * b))])):=by
 refine enter (args:=[_,_]) _ [] [] func19 rfl ntmps19 rfl (by simp) .nil ?_
 (refine goZ ?_;intro _ _ _ _)
 rename_i ba bb bc bd
 refine qM (fun x:MO=>([(16,.int .i64 (x.i:Int)),(15,.agg (wc a)),(6,.pointer (some ⟨bd,0,none⟩)),(5,.bool false),(4,.pointer (some ⟨bc,0,none⟩)),(3,.pointer (some ⟨bb,0,none⟩))],
   [(bd,.cells (lcs x.L) 103 (0,0)),(bc,.cells (wc 0) 29 (0,0)),(bb,.cells (wc b) 29 (0,0)),(ba,.cells (wc a) 29 (0,0))]))
  (fun x=>x.i≤4∧x.L.length=8∧(∀ y∈x.L,y < 18446744073709551616)∧val x.L=a % 2 ^ (64 * x.i) * b∧∀ j (h:j < x.L.length),x.i+4≤j→x.L[j]=0) (fun x=>4 - x.i) ⟨0,[0,0,0,0,0,0,0,0]⟩ ⟨Nat.zero_le _,rfl,by decide,by simp [val,Nat.mod_one],by decide⟩ ⟨rfl,rfl,rfl,rfl,rfl,rfl,trivial⟩ (jG _) ?_
 rintro ⟨i,L⟩ ⟨hi,hL,hLb,hval,hz⟩
 dsimp only at hi hL hLb hval hz ⊢
 rcases jM i 4 with hlt|hge
 ·have hx0:=limb_lt a i
  (refine goZ ?_;apply qN;rfl;rfl;apply ValP.indexA;rfl;rfl;rfl;rfl;omega;apply nth_limb;omega;refine goZ ?_)
  refine qM (fun x:MI=>([(21,.int .i64 (x.k:Int)),(20,.agg (wc b)),(9,.int .u64 ((x.c:Nat):Int)),(8,.int .u64 ((limb a i:Nat):Int)),(7,.int .i64 (i:Int)),(16,.int .i64 (i:Int)),(15,.agg (wc a)),(6,.pointer (some ⟨bd,0,none⟩)),(5,.bool false),(4,.pointer (some ⟨bc,0,none⟩)),(3,.pointer (some ⟨bb,0,none⟩))],
    [(bd,.cells (lcs x.L) 103 (0,0)),(bc,.cells (wc 0) 29 (0,0)),(bb,.cells (wc b) 29 (0,0)),(ba,.cells (wc a) 29 (0,0))]))
   (fun x=>x.k≤4∧x.c < 18446744073709551616∧x.L.length=8∧(∀ y∈x.L,y < 18446744073709551616)∧val x.L+x.c * 18446744073709551616 ^ (i+x.k)=a % 2 ^ (64 * i) * b+limb a i * (b % 2 ^ (64 * x.k)) * 18446744073709551616 ^ i∧∀ j (h:j < x.L.length),i+4≤j→x.L[j]=0) (fun x=>4 - x.k) ⟨0,0,L⟩
   ⟨Nat.zero_le _,(show 0 < 18446744073709551616 by decide),hL,hLb,by simp [hval,Nat.mod_one],hz⟩ ⟨rfl,rfl,rfl,rfl,rfl,rfl,rfl,rfl,rfl,rfl,rfl,trivial⟩ (jG _) ?_
  clear hL hLb hval hz L
  rintro ⟨k,c,L⟩ ⟨hk,hc,hL,hLb,hval,hz⟩
  dsimp only at hk hc hL hLb hval hz ⊢
  rcases jM k 4 with hkl|hkg
  ·have hy0:=limb_lt b k
   have hj:i+k < L.length:=by omega
   obtain ⟨l,hl⟩:∃ l,l=L[i+k]:=⟨_,rfl⟩
   have hl0:l < 18446744073709551616:=by rw [hl];exact getElem_mem_lt hLb _ hj
   have hrd:=lcs_rd L (i+k) hj (E:=103) (fr:=(0,0))
   rw [← hl] at hrd
   obtain ⟨s1,s2,s3,s4,s5⟩:=mul_step (limb a i) (limb b k) l c hx0 hy0 hl0 hc
   have hW:=lcs_wr L (i+k) (((limb a i * limb b k % 18446744073709551616+l+0) % 18446744073709551616+c+0) % 18446744073709551616) hj (E:=103)
   have hv:=val_set L (i+k) (((limb a i * limb b k % 18446744073709551616+l+0) % 18446744073709551616+c+0) % 18446744073709551616) hj
   rw [← hl] at hv
   have hinv:=inv_step _ _ _ _ _ _ _ _ hv s3
   (refine goZ ?_;apply qN;rfl;rfl;apply ValP.indexA;rfl;rfl;rfl;rfl;omega;apply nth_limb;omega;refine goZ ?_;apply zS;rfl;rfl;exact vF;exact .cons rfl (.cons rfl .nil);intro w _;refine Mul64_calls _ _ ?_ ?_ w;assumption;assumption;refine goZ ?_;apply qN;rfl;rfl;apply ValP.callX;rfl;exact .cons rfl (.cons rfl (.cons rfl .nil));exact Add64_run _ _;refine goZ ?_;refine lvz (.addN rfl rfl) ?_;refine goZ ?_;apply qN;rfl;rfl;apply ValP.callX;rfl;exact .cons rfl (.cons rfl (.cons rfl .nil));exact Add64_run _ _;refine goZ ?_;refine lvz (.addN rfl rfl) ?_;refine goZ ?_)
   apply thenX
   refine ⟨rfl,⟨k+1,_,_⟩,⟨hkl,?_,?_,?_,?_,?_⟩,by show 4 - (k+1) < 4 - k;omega,⟨rfl,rfl,rfl,rfl,rfl,rfl,rfl,rfl,rfl,rfl,rfl,trivial⟩,jG _⟩
   ·exact yS _ (by decide)
   ·simpa using hL
   ·exact set_lt hLb _ _ s4
   ·dsimp only
    rw [s1,s2,← Nat.add_assoc,Nat.pow_succ,hinv,hval,limb_step,Nat.mul_add,Nat.add_mul,yV,Nat.add_assoc]
    congr 2
    rw [Nat.mul_assoc,Nat.mul_assoc,Nat.mul_assoc,yZ (18446744073709551616 ^ i)]
   ·intro j hjl hji
    dsimp only at hjl ⊢
    rw [List.getElem_set_ne (by omega)]
    exact hz j (by simpa using hjl) hji
  ·obtain rfl:k=4:=by omega
   have hj:i+4 < L.length:=by omega
   have hb4:b % 2 ^ (64 * 4)=b:=jY hb
   have hW:=lcs_wr L (i+4) c hj (E:=103)
   have hv:=val_set L (i+4) c hj
   rw [hz (i+4) hj (yD _),Nat.zero_mul,Nat.add_zero,hval,hb4] at hv
   (refine goZ ?_)
   apply thenX
   refine ⟨rfl,⟨i+1,_⟩,⟨hlt,?_,?_,?_,?_⟩,by show 4 - (i+1) < 4 - i;omega,⟨rfl,rfl,rfl,rfl,rfl,rfl,trivial⟩,jG _⟩
   ·simpa using hL
   ·exact set_lt hLb _ _ hc
   ·dsimp only
    rw [hv,limb_step,Nat.add_mul,Nat.mul_right_comm]
   ·intro j hjl hji
    dsimp only at hjl hji ⊢
    rw [List.getElem_set_ne (by omega)]
    exact hz j (by simpa using hjl) (by omega)
 ·obtain rfl:i=4:=by omega
  have ha4:a % 2 ^ (64 * 4)=a:=jY ha
  rw [ha4] at hval
  match L,hL with
  |[l0,l1,l2,l3,l4,l5,l6,l7],_ =>
   have h0:=hLb l0 (by simp)
   have h1:=hLb l1 (by simp)
   have h2:=hLb l2 (by simp)
   have h3:=hLb l3 (by simp)
   have h4:=hLb l4 (by simp)
   have h5:=hLb l5 (by simp)
   have h6:=hLb l6 (by simp)
   have h7:=hLb l7 (by simp)
   obtain ⟨m1,m2⟩:=mul_last l0 l1 l2 l3 l4 l5 l6 l7 (a * b) h0 h1 h2 h3 hval
   have hrw:Rd prog 29 (.cells (lcs [l0,l1,l2,l3,l4,l5,l6,l7]) 103 (0,0)) 0 (wv (a * b % M256)):=by
    rw [wv,← wc_val h0 h1 h2 h3 m1]
    exact Rd.mid (cs:=[.int .u64 (l0:Int),.int .u64 (l1:Int),.int .u64 (l2:Int),.int .u64 (l3:Int)]) rfl rfl
   have hbool:(!decide (((l4 |||l5 |||l6 |||l7:Nat):Int)=0))=decide (M256≤a * b):=by
    rw [Bool.eq_iff_iff,Bool.not_eq_true',decide_eq_false_iff_not,decide_eq_true_iff,Int.natCast_eq_zero,Nat.or_eq_zero_iff,Nat.or_eq_zero_iff,Nat.or_eq_zero_iff,m2];omega
   (refine goZ ?_;refine anz 16 ?_;refine dvz (.cutArr vF vF rfl rfl rfl)<|dvz (.asArr vF rfl rfl) ?_;refine goZ ?_;refine dvz (.orU rfl rfl (by omega) (by omega)) ?_;refine goZ ?_;apply DW.v0;rfl;rfl;rfl;exact zC;rfl;apply ValP.orU;rfl;rfl;apply or64;omega;omega;omega;refine goZ ?_;apply DW.v0;rfl;rfl;rfl;exact zC;rfl;apply ValP.orU;rfl;rfl;apply or64;apply or64;omega;omega;omega;omega;refine dvz (.ne rfl rfl) ?_;apply DW.store;rfl;rfl;exact zC;rfl;rfl;apply qQ;apply qR;exact zN;exact zN;apply Wr.whole;rfl;rfl;rfl;refine goZ ?_)
   (refine fiz ?_)
   rw [← hbool];rfl

theorem dTBJBK {P:Prop} (h:P:=by
 apply thenX
 refine ⟨rfl,k,by omega,Nat.lt_succ_self k,⟨rfl,rfl,rfl,rfl,rfl,rfl,rfl,trivial⟩,?_⟩
 rw [d1,d2]
 (exact jG _)):P:=h
theorem dTBpfK {P:Prop} (h:P:=by
 have:=Bit_calls r 255 (by omega) (by decide) w
 rwa [h255] at this):P:=h
theorem bl_cons (x b m:Nat) (hb:b < 2):b::bl x m=bl (2 * x+b) (m+1):=by
 apply List.ext_getElem?
 intro i
 cases i with
 |zero=>rw [bl_get _ _ _ (Nat.succ_pos m)];simp;omega
 |succ i =>
  rw [jC]
  rcases jM i m with h|h
  ·rw [bl_get _ _ _ h,bl_get _ _ _ (by omega),Nat.pow_succ,yZ (2 ^ i) 2,← yO,show (2 * x+b) / 2=x by omega]
  ·rw [yN (by rw [bl_len];exact h),yN (by rw [bl_len];omega)]
theorem SL.AtSeg.one {p:Nat × Obj} {r:Fs}:AtSeg (p::r) [] [p] r:=qJ (seg:=[p])
theorem up_calls (x b:Nat) (hx:x < M256) (hb:b < 2) (w:World):Calls prog 216 #[wv x,.int .i64 (b:Int)] w (Ret w (wv ((2 * x+b) % M256))):=by
 refine enter (args:=[_,_]) _ [] [] func216 rfl ntmps216 rfl (by simp) .nil ?_
 (refine goZ ?_;intro _ _ _)
 rename_i bx bz g
 have hg:IsRow 3 1 (.slice (some ⟨g,0,none⟩) 1 1) 1 (ics [b]) [(g,.cells #[.int .i64 (b:Int)] 3 (0,0))]:=.own (yD _) (by decide) rfl rfl rfl
 (refine crz (c:=fun w hs=>by exact bits_calls _ _ (by assumption) (by decide) w) (k:=?_))
 intro v1 g1 hr1
 replace hr1:IsRow 3 1 v1 255 (ics (bl x 255)) g1:=hr1
 obtain ⟨p1,c1,rfl⟩:=hr1.form
 skip
 refine LW.appendAt rfl rfl vF vF vF rfl rfl rfl (.app .one) hg (fun w hs=>hr1.atSeg (by (exact qJ)) hs) (ics_cells _) (by decide) (by decide) (by decide) ?_
 intro v2 g2 hr2
 rw [← ics_app,List.singleton_append,bl_cons x b 255 hb] at hr2
 replace hr2:IsRow 3 1 v2 256 (ics (bl (2 * x+b) 256)) g2:=hr2
 obtain ⟨p2,c2,rfl⟩:=hr2.form
 refine ⟨_,(.app .head),?_⟩
 try simp only [jQ]
 apply zS
 rfl
 rfl
 exact vF
 (exact .cons rfl .nil)
 ·intro w hs
  exact of_calls (2 * x+b) 256 (by decide) _ w (hr2.atSeg (by (apply qL;exact qJ)) hs)
 exact dTBJyT
theorem rDiv_calls (a b:Nat) (ha:a < M256) (hb:b < M256) (w:World):Calls prog 184 #[wv a,wv b] w (Ret w (.tuple #[wv (a / b),wv (if b=0 then 0 else a % b)])):=by
 refine enter (args:=[_,_]) _ [] [] func184 rfl ntmps184 rfl (by simp) .nil ?_
 rcases yB b with h0|h0
 ·subst h0
  (refine goZ ?_;intro _ _ _ _ _ _;apply qN;rfl;rfl;exact ValP.buildW0;refine lvz (.eqWT rfl rfl (by with_reducible rfl)) ?_;refine goZ ?_;refine anz 3 ?_;apply DW.store;rfl;rfl;exact zC;rfl;rfl;apply qQ;apply qQ;apply qQ;apply qR;exact zN;exact zN;apply Wr.whole;rfl;rfl;rfl;refine goZ ?_)
  (refine fiz ?_)
  rw [Nat.div_zero];rfl
 ·have hne:b ≠ 0:=by omega
  rw [if_neg hne]
  have hRb:∀ m,a / 2 ^ m % b < b:=fun m=>yS _ h0
  have hAm:∀ m,a / 2 ^ m≤a:=fun m=>Nat.div_le_self _ _
  have hDm:∀ m,a / 2 ^ m / b≤a / 2 ^ m:=fun m=>Nat.div_le_self _ _
  have hAk:∀ k,a / 2 ^ k=2 * (a / 2 ^ (k+1))+a / 2 ^ k % 2:=fun k=>by rw [Nat.pow_succ,← yO];omega
  (refine goZ ?_;intro _ _ _ _ _ _;apply qN;rfl;rfl;exact ValP.buildW0;refine lvz (.eqWF rfl rfl (by assumption) (by omega) (by assumption)) ?_;refine goZ ?_)
  rename_i ba bb b4 b5 bq br
  refine qM (fun m:Nat=>([(8,.int .i64 ((m:Int) - 1)),(7,.pointer (some ⟨br,0,none⟩)),(6,.pointer (some ⟨bq,0,none⟩)),(5,.pointer (some ⟨b5,0,none⟩)),(4,.pointer (some ⟨b4,0,none⟩)),(3,.pointer (some ⟨bb,0,none⟩)),(2,.pointer (some ⟨ba,0,none⟩))],
    [(br,.cells (wc (a / 2 ^ m % b)) 29 (0,0)),(bq,.cells (wc (a / 2 ^ m / b)) 29 (0,0)),(b5,.cells (wc 0) 29 (0,0)),(b4,.cells (wc 0) 29 (0,0)),(bb,.cells (wc b) 29 (0,0)),(ba,.cells (wc a) 29 (0,0))]))
   (fun m=>m≤256) (fun m=>m) 256 (yD _) ⟨rfl,rfl,rfl,rfl,rfl,rfl,rfl,trivial⟩ ?_ ?_
  ·rw [show a / 2 ^ 256=0 from Nat.div_eq_of_lt ha,Nat.zero_mod,Nat.zero_div]
   exact jG _
  ·intro m hm
   dsimp only
   rcases m with _|k
   ·(refine goZ ?_;refine anz 3 ?_;apply DW.store;rfl;rfl;exact zC;rfl;rfl;apply qQ;apply qQ;apply qQ;apply qR;exact zN;exact zN;apply Wr.whole;rfl;rfl;rfl;refine goZ ?_)
    (refine fiz ?_)
    rw [Nat.pow_zero,Nat.div_one];rfl
   ·have e0:(((k+1:Nat):Int) - 1)=(k:Int):=by omega
    rw [e0]
    obtain ⟨c,hc⟩:∃ c,c=a / 2 ^ k % 2:=⟨_,rfl⟩
    have hc2:c < 2:=by omega
    obtain ⟨r,hr⟩:∃ r,r=a / 2 ^ (k+1) % b:=⟨_,rfl⟩
    obtain ⟨q,hq⟩:∃ q,q=a / 2 ^ (k+1) / b:=⟨_,rfl⟩
    have hrb:r < b:=by rw [hr];exact hRb _
    have hak:=hAk k
    rw [← hc] at hak
    have hk1:=hAm k
    have hqa:q≤a / 2 ^ (k+1):=by rw [hq];exact hDm _
    have cB:∀ w,Calls prog 191 #[wv a,.int .i64 (k:Int)] w (Ret w (.int .i64 (c:Int))):=fun w=>by rw [hc];exact Bit_calls a k ha (by omega) w
    have cU:∀ w,Calls prog 216 #[wv r,.int .i64 (c:Int)] w (Ret w (wv ((2 * r+c) % M256))):=fun w=>up_calls r c (by omega) hc2 w
    rw [← hr,← hq]
    rcases jM (2 * r+c) b with hlt|hge
    ·obtain ⟨d1,d2⟩:=div_step' (a / 2 ^ (k+1)) b q r c h0 hq hr hc2 (by omega)
     rw [← hak] at d1 d2
     have h255:r / 2 ^ 255 % 2=0:=by rw [Nat.div_eq_of_lt];simp only [M256] at hb;omega
     have cR:∀ w,Calls prog 191 #[wv r,.int .i64 255] w (Ret w (.int .i64 ((0:Nat):Int))):=fun w=>by
      exact dTBpfK
     have hm1:(2 * r+c) % M256=2 * r+c:=jY (by omega)
     have hm2:(2 * q+0) % M256=2 * q:=jY (by omega)
     rw [hm1] at cU
     have cC:∀ w,Calls prog 124 #[wv (2 * r+c),wv b] w (Ret w (.int .i64 (-1))):=fun w=>by
      have:=rCmp_calls (2 * r+c) b (by omega) hb w
      rwa [if_pos hlt] at this
     have cQ:∀ w,Calls prog 216 #[wv q,.int .i64 0] w (Ret w (wv (2 * q))):=fun w=>by
      have:=up_calls q 0 (by omega) (by decide) w
      rwa [hm2] at this
     (refine goZ ?_;refine cEv cR ?_;refine anz 4 ?_;refine dcz (c:=fun w _ _=>by exact cB w) (k:=?_);refine cEv cU ?_;refine cEv cC ?_;refine cEv cQ ?_;refine lvz (.subI rfl rfl (by omega) (by omega)) ?_;refine goZ ?_)
     exact dTBJBK
    ·obtain ⟨d1,d2⟩:=div_step (a / 2 ^ (k+1)) b q r c h0 hq hr hc2 hge
     rw [← hak] at d1 d2
     have hd1:=hDm k
     rw [d1] at hd1
     have hm2:(2 * q+1) % M256=2 * q+1:=jY (by omega)
     have cQ:∀ w,Calls prog 216 #[wv q,.int .i64 1] w (Ret w (wv (2 * q+1))):=fun w=>by
      have:=up_calls q 1 (by omega) (by decide) w
      rwa [hm2] at this
     have hM:(2 * r+c) % M256 < M256:=yS _ (by decide)
     have cS:∀ w,Calls prog 182 #[wv ((2 * r+c) % M256),wv b] w (Ret w (.tuple #[wv (2 * r+c - b),.bool (decide ((2 * r+c) % M256 < b))])):=fun w=>by
      have:=rSub_calls ((2 * r+c) % M256) b hM hb w
      rwa [show ((2 * r+c) % M256+M256 - b) % M256=2 * r+c - b by simp only [M256] at *;omega] at this
     rcases jM (2 * r+c) M256 with hlo|hhi
     ·have h255:r / 2 ^ 255 % 2=0:=by rw [Nat.div_eq_of_lt];simp only [M256] at hlo;omega
      have cR:∀ w,Calls prog 191 #[wv r,.int .i64 255] w (Ret w (.int .i64 ((0:Nat):Int))):=fun w=>by
       exact dTBpfK
      obtain ⟨z,hz,cC⟩:∃ z:Int,0≤z∧∀ w,Calls prog 124 #[wv ((2 * r+c) % M256),wv b] w (Ret w (.int .i64 z)):=by
       rw [jY hlo]
       refine ⟨_,?_,fun w=>rCmp_calls (2 * r+c) b hlo hb w⟩
       rw [if_neg (Nat.not_lt.2 hge)];split<;>decide
      (refine goZ ?_;refine cEv cR ?_;refine anz 4 ?_;refine dcz (c:=fun w _ _=>by exact cB w) (k:=?_);refine cEv cU ?_;refine cEv cC ?_;refine cEv cS ?_;refine cEv cQ ?_;refine lvz (.subI rfl rfl (by omega) (by omega)) ?_;refine goZ ?_)
      exact dTBJBK
     ·have h255:r / 2 ^ 255 % 2=1:=by
       have:r / 2 ^ 255=1:=by rw [Nat.div_eq_iff (by decide)];simp only [M256] at *;omega
       rw [this]
      have cR:∀ w,Calls prog 191 #[wv r,.int .i64 255] w (Ret w (.int .i64 ((1:Nat):Int))):=fun w=>by
       exact dTBpfK
      (refine goZ ?_;refine cEv cR ?_;refine anz 4 ?_;refine dcz (c:=fun w _ _=>by exact cB w) (k:=?_);refine cEv cU ?_;refine cEv cS ?_;refine cEv cQ ?_;refine lvz (.subI rfl rfl (by omega) (by omega)) ?_;refine goZ ?_)
      exact dTBJBK
end Go.Proofs.YtdeggbkbblfpoaaGreatDoor
