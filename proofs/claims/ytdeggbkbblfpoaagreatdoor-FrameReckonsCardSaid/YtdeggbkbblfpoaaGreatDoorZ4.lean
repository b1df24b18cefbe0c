/-
  Texts that were built apart, put behind one another (4 of 5): Q5 Q6 Q7 Q4 Q8 QH QI QB KE KO KI KJ KK KM KG KP V1 QS NL NM NN QJ QT QU QV Snd QW QX QY Y1 Y2 Y3 Q9.
  Conditions: none.
-/
import Derived.Test.YtdeggbkbblfpoaaGreatDoorZ3
namespace Go.Proofs.YtdeggbkbblfpoaaGreatDoor
open Go Go.RowKit SL
set_option maxRecDepth 8000
set_option maxHeartbeats 4000000
set_option linter.unusedSimpArgs false
set_option linter.unusedVariables false
attribute [local irreducible] SL.CW SL.LW SL.DW Calls SL.Ret SL.RetG SL.beginQ SL.roundQ SL.rangeQ SL.inQ SL.RW SL.AnyW SL.thenQ SL.thenC SL.thenW SL.blkQ SL.finQ SL.ValP SL.NewP SL.SetP SL.CallP SL.Rd SL.Wr SL.Known
section
open CK (dataC)
theorem number_calls (l:List UInt8) (v:Value) (hl:l.length≤32) (w:World) (h:RowAt w 1 v l.length (ucs l)):Calls Tryz.prog 131 #[v] w (Ret w (wv (bev l))):=by
 obtain ⟨p,c,rfl,_,_⟩:=id h.form
 have hR:=fun w' {fs:Fs} (hst:St w [] fs w')=>Read_calls _ l w' (h.st hst) hl
 refine enter (args:=[_]) _ [] [] Tryz.func131 rfl Tryz.ntmps131 rfl (by simp) .nil ?_
 (refine sRz ?_;apply LW.allocW;rfl;intro _;refine nSz<|vMz ?_;apply zS;rfl;rfl;infer_instance;exact .cons rfl .nil;intro w _;exact hR w (by assumption);refine vMz ?_;refine vEz ?_;refine vEz ?_;apply LW.allocW;rfl;intro _;refine zR rfl rfl .head (.whole rfl rfl rfl)<|vAz<|nSz<|vMz ?_;refine lvz (.eqT rfl rfl (by omega)) ?_;apply zS;rfl;rfl;infer_instance;exact .cons rfl .nil;intro w _;exact need_true w;refine nSz<|ldz rfl .head (qH rfl) ?_;refine zR rfl rfl (.tail .head) (.whole rfl rfl rfl)<|nNz<|zK ?_)
 (apply finR;exact .inl rfl;rfl;rfl;rfl;apply zD;apply zH;rfl;apply qG;apply zX;apply zY;exact qH rfl;exact zF)
 rfl
theorem dataL_len (bs:List UInt8) (i:Int):(CK.dataL bs i).length≤32:=by
 unfold CK.dataL
 split
 ·rw [CK.datF_len]
  exact CK.szOf_le _
 ·exact Nat.zero_le _
theorem dataC_len (bs:List UInt8) (i:Int):(dataC bs i).length≤32:=by
 unfold CK.dataC
 split
 ·exact dataL_len bs i
 ·exact Nat.zero_le _
section rd
variable {P : Program} {T E : TypeId} {fr : Nat × Nat} {m : MaV}
theorem ma_rd0 [AgI P T false]:Rd P T (.cells (mca m) E fr) 0 m.fr.code:=Rd.one rfl
theorem ma_rd1 [AgI P T false]:Rd P T (.cells (mca m) E fr) 1 (.int .i64 m.fr.pc):=Rd.one rfl
theorem ma_rd2s [AgI P T false]:Rd P T (.cells (mca m) E fr) 2 m.fr.stk:=Rd.one rfl
end rd
attribute [local irreducible] SL.inP
def RowK (b:Nat) (m:MaV) (L:FrL) (ws:List Nat) (rest:Fs):Out:=fun x fs'=>x=.returned (.bool true)∧∃ s k gs',FrO (m.fr.setR m.fr.gas s k) (L.setW ws) gs'∧fs'=(b,maO (m.setF (m.fr.setR m.fr.gas s k)))::(gs'++rest)
theorem row_push (w0:World) (S:List Nat) (b:Nat) (m:MaV) (L:FrL) (gs rest:Fs) (op:Nat) (h1:96≤op) (h2:op≤127) (hok:okSc L.ws.length L.ms.length) (hf:L.ws.length+1≤64) (hfr:FrO m.fr L gs) (w:World) (hs:St w0 S ((b,maO m)::(gs++rest)) w) :
  Calls Tryz.prog 94 #[.pointer (some ⟨b,0,none⟩),.int .u8 (op:Int)] w (fun x w'=>∃ fs',RowK b m L (L.ws++[bev (dataC L.cl m.fr.pc)]) rest x fs'∧St w0 S fs' w'):=by
 obtain ⟨g1,g2,g3,g4,g5,hp,hall⟩:=hfr
 replace hs:St w0 S ((b,maO m)::(g1++(g2++(g3++(g4++g5)))++rest)) w:=hs.perm (List.Perm.cons _ (hp.append_right rest))
 clear hp
 obtain ⟨r1,r2,r3,r4,r5⟩:=id hall
 unfold bM at r1 r3
 unfold wM at r2
 obtain ⟨fr,e0,e1,e2,e3,took,kind,aop,awords,adata⟩:=m
 obtain ⟨code,pc,stk,mem,gas,self,frm,val,inp,back,stat⟩:=fr
 dsimp only at r1 r2 r3
 obtain ⟨q1,k1,rfl⟩:=id r1.form
 obtain ⟨q2,k2,rfl⟩:=id r2.form
 obtain ⟨q3,k3,rfl⟩:=id r3.form
 obtain ⟨us1,hbl1,hin1,hrows1⟩:=rowU_own r1
 obtain ⟨us2,hbl2,hin2,hrows2⟩:=rowU_own r2
 obtain ⟨us3,hbl3,hin3,hrows3⟩:=rowU_own r3
 dsimp only
 obtain ⟨x,hx⟩:∃ x,bev (dataC L.cl pc)=x:=⟨_,rfl⟩
 rw [hx]
 refine calls_anyO (calls_inlineP (K:=anyO (RowK b ⟨⟨.slice q1 L.cl.length k1,pc,.slice q2 L.ws.length k2,.slice q3 L.ms.length k3,gas,self,frm,val,inp,back,stat⟩,e0,e1,e2,e3,took,kind,aop,awords,adata⟩ L (L.ws++[x]) rest)) (args:=[_,_]) Tryz.func94 rfl Tryz.ntmps94 rfl ?_ hs)
 (refine sRz<|vAz<|nSz<|vMz<|vNz<|vFz<|vFz<|ldz rfl .head ma_rd2 ?_;apply zU;rfl;intro _;refine zR rfl rfl .head (.whole rfl rfl rfl)<|vAz<|nNz<|zI<|zM<|sRz<|vMz ?_;refine lvz (.geqT rfl rfl (by omega)) ?_;refine vMz<|gTz<|vMz<|gTz ?_;refine lvz (.leqT rfl rfl (by omega)) ?_;refine pTz<|vAz<|nNz<|cTz ?_)
 apply CW.pre
 (refine AnyW.anyM [(11,bM (dataC L.cl pc)),(14,fun r gs=>∃ o,r=.tuple #[o,.int .i64 0]∧ScO (L.ws++[x]) L.ms o gs)] 19 mixed (by decide +kernel) ?_)
 ((try simp only [tsOf_cons,tsOf_nil,tsOf_app]);apply qF;rfl;rfl;rfl;exact zC;rfl;apply zP;exact zN;exact qH rfl;refine dvz (.move rfl)<|dvz (.nilCheck rfl)<|dvz (.fieldAddr rfl rfl)<|dvz (.fieldAddr rfl rfl) ?_;apply qF;rfl;rfl;rfl;exact zC;rfl;apply zO;apply zP;exact zN;exact ma_rd0;refine dvz (.move rfl)<|dvz (.nilCheck rfl)<|dvz (.fieldAddr rfl rfl)<|dvz (.fieldAddr rfl rfl) ?_;apply qF;rfl;rfl;rfl;exact zC;rfl;apply zO;apply zP;exact zN;exact ma_rd1)
 dsimp only
 refine DW.manyA us1 rfl rfl rfl (by (exact zC)) rfl inferInstance (by (exact .cons rfl (.cons rfl .nil))) (by rw [List.flatMap_cons,hbl1];exact List.append_nil _) (fun p hp=>AncT.lie (by (refine AncT.cons ?_ ?_;exact zN;refine AncT.cons ?_ ?_;exact zN;refine AncT.app ?_ ?_;refine AncT.app ?_ ?_;exact AncT.tsOf;refine AncT.app ?_ ?_;exact AncT.tsOf;refine AncT.app ?_ ?_;exact AncT.tsOf;refine AncT.app ?_ ?_;exact AncT.tsOf;exact AncT.tsOf;exact AncT.tsOf)) (by have hp:=hin1 p hp;simp [fsOf,tsOf,tsNew,tsTag,markAll,Function.comp_def,hp])) (fun w _ hu=>CK.Data_calls L.cl pc _ w (hrows1 w hu)) ?_
 intro vD gD hD
 have hD':=hD
 obtain ⟨q4,k4,rfl⟩:=id (IsRow.form hD')
 obtain ⟨us4,hbl4,hin4,hrows4⟩:=rowU_own hD'
 (try simp only [markAll_cons,markAll_app,markAll_tsOf,markAll_tag,markAll_new,markAll_nil])
 ((try simp only [tsOf_cons,tsOf_nil,tsOf_app]))
 refine DW.callA us4 (v:=wv x) rfl rfl rfl (by (exact zC)) rfl inferInstance (by (exact .cons rfl .nil)) (by rw [List.flatMap_cons,hbl4];exact List.append_nil _) (fun p hp=>AncT.lie (by (refine AncT.app ?_ ?_;refine AncT.new ?_;kernel_rfl;refine AncT.cons ?_ ?_;exact zN;refine AncT.cons ?_ ?_;exact zN;refine AncT.app ?_ ?_;refine AncT.app ?_ ?_;refine AncT.tag ?_;exact zN;refine AncT.app ?_ ?_;refine AncT.tag ?_;exact zN;refine AncT.app ?_ ?_;refine AncT.tag ?_;exact zN;refine AncT.app ?_ ?_;refine AncT.tag ?_;exact zN;refine AncT.tag ?_;exact zN;refine AncT.tag ?_;exact zN)) (by have hp:=hin4 p hp;simp [fsOf,tsOf,tsNew,tsTag,markAll,Function.comp_def,hp])) (fun w _ hu=>by rw [← hx];exact number_calls _ _ (dataC_len _ _) w (hrows4 w hu)) ?_
 (try simp only [markAll_cons,markAll_app,markAll_tsOf,markAll_tag,markAll_new,markAll_nil])
 ((try simp only [tsOf_cons,tsOf_nil,tsOf_app]);apply DW.layA;rfl;rfl;rfl;exact zC;infer_instance;infer_instance;rfl;rfl;rfl;rfl;rfl;intro _)
 rename_i b5 b33
 have hrow33:∀ w':World,w'.heap[b33]?=some (.cells (wc x) 29 (0,0))→RowAt w' 4 (.slice (some ⟨b33,0,none⟩) 1 1) 1 (wcs [x]):=fun w' h=>row_cells h rfl rfl (by decide)
 refine DW.manyA (us2++(us3++[(b33,.cells (wc x) 29 (0,0))])) rfl rfl rfl (by (exact zC)) rfl inferInstance (by (exact .cons rfl (.cons rfl .nil))) ?_ (fun p hp=>AncT.lie (by (refine AncT.cons ?_ ?_;kernel_rfl;refine AncT.app ?_ ?_;refine AncT.tag ?_;kernel_rfl;refine AncT.cons ?_ ?_;exact zN;refine AncT.cons ?_ ?_;exact zN;refine AncT.app ?_ ?_;refine AncT.app ?_ ?_;refine AncT.tag ?_;exact zN;refine AncT.app ?_ ?_;refine AncT.tag ?_;exact zN;refine AncT.app ?_ ?_;refine AncT.tag ?_;exact zN;refine AncT.app ?_ ?_;refine AncT.tag ?_;exact zN;refine AncT.tag ?_;exact zN;refine AncT.tag ?_;exact zN)) ?_) (fun w _ hu=>?_) ?_
 ·rw [List.flatMap_cons,List.flatMap_cons,List.map_append,List.map_append,← hbl2,← hbl3,← blocks_sl ⟨q2,_,k2,rfl⟩,← blocks_sl ⟨q3,_,k3,rfl⟩]
  show ((blocksN 3 _++(blocksN 3 _++[]))++([b33]++[]))=_
  simp only [List.append_nil,List.append_assoc]
  rfl
 ·rcases List.mem_append.1 hp with hp|hp
  ·have hp:=hin2 p hp
   simp [fsOf,tsOf,tsNew,tsTag,markAll,Function.comp_def,hp]
  ·rcases List.mem_append.1 hp with hp|hp
   ·have hp:=hin3 p hp
    simp [fsOf,tsOf,tsNew,tsTag,markAll,Function.comp_def,hp]
   ·obtain rfl:=List.mem_singleton.1 hp
    simp [fsOf,tsOf,tsNew,tsTag,markAll,Function.comp_def]
 ·exact push_ok L.ws L.ms [x] _ _ _ w (hrows2 w fun q hq=>hu q (List.mem_append_left _ hq)) (hrows3 w fun q hq=>hu q (List.mem_append_right _ (List.mem_append_left _ hq))) (hrow33 w (hu _ (List.mem_append_right _ (List.mem_append_right _ List.mem_cons_self)))) hok (by show 1≤100000;omega) hf
 rintro vP gP ⟨o,rfl,s1,m1,gg1,gg2,rfl,rfl,hw1,hb1⟩
 have hw1':=hw1
 have hb1':=hb1
 unfold wM at hw1'
 unfold bM at hb1'
 obtain ⟨q5,k5,rfl⟩:=hw1'.form
 obtain ⟨q6,k6,rfl⟩:=hb1'.form
 (try simp only [markAll_cons,markAll_app,markAll_tsOf,markAll_tag,markAll_new,markAll_nil])
 ((try simp only [tsOf_cons,tsOf_nil,tsOf_app]);refine dvz (.move rfl) ?_;refine dvz (.extractN rfl rfl) ?_;refine dvz (.extractN rfl rfl) ?_;apply DW.store;rfl;rfl;exact zC;rfl;rfl;apply TSet.app;apply TSet.tail;apply TSet.app;apply TSet.head;exact zN;kernel_rfl;apply Wr.whole;rfl;rfl;rfl;apply DW.nil;simp only [fsOf_cons,fsOf_nil,fsOf_app,fsOf_tsOf,fsOf_new])
 try simp only [fsOf_mark,fsOf_cons,fsOf_nil,fsOf_app,fsOf_tsOf,fsOf_new,fsOf_tag,List.append_eq,List.nil_append]
 (refine vAz ?_;apply zV;refine blkN<|thenN<|sRz<|vMz ?_;refine lvz (.eqT rfl rfl (by omega)) ?_;apply zS;rfl;rfl;infer_instance;exact .cons rfl .nil;intro w _;exact need_true w;refine nSz<|vMz<|ldz rfl (.app (.tail (.app .head))) (qH rfl)<|vNz<|vFz<|vFz ?_;refine zR rfl rfl (.app (.tail (.app (.tail .head)))) (ma_wr2 rfl rfl rfl rfl)<|nSz<|vAz<|nNz<|zK ?_)
 refine inPI (.inl rfl) .nil rfl (by (apply zD;exact zG rfl;exact zF)) rfl ⟨_,⟨rfl,.slice q5 (L.ws++[x]).length k5,.slice q6 L.ms.length k6,g1++(gg1++(gg2++(g4++g5))),⟨g1,gg1,gg2,g4,g5,.refl _,hall.1,hw1,hb1,hall.2.2.2.1,hall.2.2.2.2⟩,rfl⟩,?_⟩
 simp only [List.append_assoc,List.cons_append,List.nil_append]
 exact subp_ix [gg2,gg1,[_],gD,[_],[_],g1,g2,g3,g4,g5] (xs:=[5,6,1,0,9,10]) (ys:=[0,1,2,3,4,5,6,7,8,9,10]) rest rfl
theorem row_none (w0:World) (S:List Nat) (b:Nat) (m:MaV) (rest:Fs) (op:Nat) (h1:¬ (96≤op∧op≤127)) (h2:¬ (128≤op∧op≤143)) (h3:¬ (144≤op∧op≤159)) (hsl:∃ p n c,m.fr.stk=.slice p n c) (hml:∃ p n c,m.fr.mem=.slice p n c) (w:World) (hs:St w0 S ((b,maO m)::rest) w) :
  Calls Tryz.prog 94 #[.pointer (some ⟨b,0,none⟩),.int .u8 (op:Int)] w (fun x w'=>∃ fs',(x=.returned (.bool false)∧fs'=(b,maO m)::rest)∧St w0 S fs' w'):=by
 obtain ⟨fr,e0,e1,e2,e3,took,kind,aop,awords,adata⟩:=m
 obtain ⟨code,pc,stk,mem,gas,self,frm,val,inp,back,stat⟩:=fr
 dsimp only at hsl hml
 obtain ⟨q2,n2,k2,rfl⟩:=hsl
 obtain ⟨q3,n3,k3,rfl⟩:=hml
 refine calls_anyO (calls_inlineP (K:=anyO fun x fs'=>x=.returned (.bool false)∧fs'=(b,maO ⟨⟨code,pc,.slice q2 n2 k2,.slice q3 n3 k3,gas,self,frm,val,inp,back,stat⟩,e0,e1,e2,e3,took,kind,aop,awords,adata⟩)::rest) (args:=[_,_]) Tryz.func94 rfl Tryz.ntmps94 rfl ?_ hs)
 rcases (by omega:op < 96∨(96≤op∧127 < op∧128≤op∧143 < op∧144≤op∧159 < op)) with hlt|⟨g1,g2,g3,g4,g5,g6⟩
 ·(refine sRz<|vAz<|nSz<|vMz<|vNz<|vFz<|vFz<|ldz rfl .head ma_rd2 ?_;apply zU;rfl;intro _;refine zR rfl rfl .head (.whole rfl rfl rfl)<|vAz<|nNz<|zI<|zM<|sRz<|vMz ?_;refine lvz (.geqF rfl rfl (by omega)) ?_;refine vMz<|gFz<|gFz<|pFz<|vAz<|nNz<|cFz<|sRz<|vMz ?_;refine lvz (.geqF rfl rfl (by omega)) ?_;refine vMz<|gFz<|gFz<|pFz<|vAz<|nNz<|cFz<|sRz<|vMz ?_;refine lvz (.geqF rfl rfl (by omega)) ?_;refine vMz<|gFz<|gFz<|pFz<|vAz<|nNz<|cFz<|sRz<|vAz<|nNz<|zK<|blkR<|thenR ?_)
  refine inPI (.inl rfl) .nil rfl (by (apply zD;exact zG rfl;exact zF)) rfl ⟨_,⟨rfl,rfl⟩,_,qS _ (qO _),.refl _⟩
 ·(refine sRz<|vAz<|nSz<|vMz<|vNz<|vFz<|vFz<|ldz rfl .head ma_rd2 ?_;apply zU;rfl;intro _;refine zR rfl rfl .head (.whole rfl rfl rfl)<|vAz<|nNz<|zI<|zM<|sRz<|vMz ?_;refine lvz (.geqT rfl rfl (by omega)) ?_;refine vMz<|gTz<|vMz<|gTz ?_;refine lvz (.leqF rfl rfl (by omega)) ?_;refine pTz<|vAz<|nNz<|cFz<|sRz<|vMz ?_;refine lvz (.geqT rfl rfl (by omega)) ?_;refine vMz<|gTz<|vMz<|gTz ?_;refine lvz (.leqF rfl rfl (by omega)) ?_;refine pTz<|vAz<|nNz<|cFz<|sRz<|vMz ?_;refine lvz (.geqT rfl rfl (by omega)) ?_;refine vMz<|gTz<|vMz<|gTz ?_;refine lvz (.leqF rfl rfl (by omega)) ?_;refine pTz<|vAz<|nNz<|cFz<|sRz<|vAz<|nNz<|zK<|blkR<|thenR ?_)
  refine inPI (.inl rfl) .nil rfl (by (apply zD;exact zG rfl;exact zF)) rfl ⟨_,⟨rfl,rfl⟩,_,qS _ (qO _),.refl _⟩
end
section
open CK (dataC)
def FrV.setPc (f:FrV) (p:Int):FrV:={ f with pc:=p }
section wr
variable {P : Program} {T E : TypeId} {fr : Nat × Nat} {m : MaV} {x : OpV}
theorem ma_wr1 {z:Value} {p:Int} [InfoI P T 1 z]:Wr P T (.cells (mca m) E (0,0)) 1 (.int .i64 p) (.cells (mca (m.setF (m.fr.setPc p))) E (0,0)):=Wr.cells (n:=1) (z:=z) rfl rfl (by show 1+1≤23;omega) rfl
theorem op_rd2 [AgI P T false]:Rd P T (.cells (opc x) E fr) 2 (.int .i64 (x.tk:Int)):=Rd.one rfl
theorem op_rd3 [AgI P T false]:Rd P T (.cells (opc x) E fr) 3 (.int .i64 (x.ly:Int)):=Rd.one rfl
theorem op_rd4 [AgI P T false]:Rd P T (.cells (opc x) E fr) 4 (.int .i64 (x.dt:Int)):=Rd.one rfl
end wr
theorem op_wrW {P:Program} {T E:TypeId} {x:OpV} {z:Value} {cs:Array Value} [InfoI P T 5 z] (h:cs.size=5):Wr P T (.cells cs E (0,0)) 0 (.agg (opc x)) (.cells (opc x) E (0,0)):=Wr.whole h rfl rfl
attribute [local irreducible] SL.inP opOf opX gasB
theorem push_op {op:Nat} (h1:96≤op) (h2:op≤127):(opOf op).isSome=true∧(opX op).tk=0∧(opX op).ly=1∧gasB op=3:=by
 have hr:opOf op=some ⟨op,[80,85,83,72]++itoa (op - 95),0,1,op - 95⟩:=by
  unfold opOf rowOp
  rw [if_pos ⟨h1,h2⟩]
 refine ⟨by rw [hr];rfl,by unfold opX;rw [hr];rfl,by unfold opX;rw [hr];rfl,?_⟩
 unfold gasB
 repeat rw [if_neg (by omega)]
theorem step_push (w0:World) (S:List Nat) (b:Nat) (f:FrV) (L:FrL) (e0 e1 e2 e3:Nat) (gs rest:Fs) (hF:okF f L) (h1:96≤opF f L) (h2:opF f L≤127) (hg:3≤f.gas) (hf:L.ws.length+1≤64) (hfr:FrO f L gs) (w:World) (hs:St w0 S ((b,maO (ma0 f e0 e1 e2 e3))::(gs++rest)) w) :
  Calls Tryz.prog 42 #[.pointer (some ⟨b,0,none⟩)] w (fun x w'=>∃ fs',(x=.returned (.tuple #[])∧∃ s k gs',FrO ((f.setR (f.gas - 3) s k).setPc ((min (f.pc.toNat+1+(opX (opF f L)).dt) L.cl.length:Nat):Int)) (L.setW (L.ws++[bev (dataC L.cl f.pc)])) gs'∧fs'=(b,maO (ma0 ((f.setR (f.gas - 3) s k).setPc ((min (f.pc.toNat+1+(opX (opF f L)).dt) L.cl.length:Nat):Int)) e0 e1 e2 e3))::(gs'++rest))∧St w0 S fs' w'):=by
 obtain ⟨code,pc,stk,mem,gas,self,frm,val,inp,back,stat⟩:=f
 obtain ⟨g1,g2,g3,g4,g5,hp,r1,r2,r3,r4,r5⟩:=id hfr
 unfold bM at r1 r3
 unfold wM at r2
 dsimp only at r1 r2 r3
 obtain ⟨q1,k1,rfl⟩:=id r1.form
 obtain ⟨q2,k2,rfl⟩:=id r2.form
 obtain ⟨q3,k3,rfl⟩:=id r3.form
 obtain ⟨f,hfe⟩:∃ f:FrV,f=⟨.slice q1 L.cl.length k1,pc,.slice q2 L.ws.length k2,.slice q3 L.ms.length k3,gas,self,frm,val,inp,back,stat⟩:=⟨_,rfl⟩
 rw [← hfe] at hF h1 h2 hg hfr hs ⊢
 have hst1:f.code=.slice q1 L.cl.length k1:=by rw [hfe]
 have hst2:f.stk=.slice q2 L.ws.length k2:=by rw [hfe]
 clear hfe
 have hrdS:∀ {g E fr},Rd Tryz.prog 23 (.cells (mca ((ma0 f e0 e1 e2 e3).setGas g)) E fr) 2 (.slice q2 L.ws.length k2):=fun {g E fr}=>by rw [← hst2];exact ma_rd2s (m:=(ma0 f e0 e1 e2 e3).setGas g)
 have hrdC:∀ {g E fr},Rd Tryz.prog 22 (.cells (mca ((ma0 f e0 e1 e2 e3).setGas g)) E fr) 0 (.slice q1 L.cl.length k1):=fun {g E fr}=>by rw [← hst1];exact ma_rd0 (m:=(ma0 f e0 e1 e2 e3).setGas g)
 obtain ⟨pn,hpn⟩:∃ pn:Nat,f.pc=(pn:Int):=by
  rcases okF_pc hF with h|h
  ·exact ⟨_,h⟩
  ·exact ⟨f.pc.toNat,by omega⟩
 have hpl:pn≤L.cl.length:=by
  rcases okF_pc hF with h|h<;>omega
 have hcl2:L.cl.length≤200:=hF.2.2.1
 have hrdP:∀ {g E fr},Rd Tryz.prog 3 (.cells (mca ((ma0 f e0 e1 e2 e3).setGas g)) E fr) 1 (.int .i64 (pn:Int)):=fun {g E fr}=>by rw [← hpn];exact ma_rd1 (m:=(ma0 f e0 e1 e2 e3).setGas g)
 have hpt:f.pc.toNat=pn:=by rw [hpn];exact Int.toNat_natCast pn
 rw [hpt]
 have hgl:f.gas < 18446744073709551616:=by have:=hF.1.2.2;omega
 have hok:okSc L.ws.length L.ms.length:=hF.2.2.2.1
 have hrowsF:∀ w',(∀ q∈gs,w'.heap[q.1]?=some q.2)→FrRows w' f L:=fun w' h=>hfr.us h
 have hsl:=hfr.sl
 obtain ⟨op,hop⟩:∃ op,opF f L=op:=⟨_,rfl⟩
 have hN:∀ w',(∀ q∈gs,w'.heap[q.1]?=some q.2)→Calls Tryz.prog 82 #[frv f] w' (Ret w' (.int .u8 (op:Int))):=fun w' h=>by
  have h:=next_calls f L (okF_pc hF) w' (hrowsF w' h)
  rwa [hop] at h
 rw [hop] at h1 h2 ⊢
 obtain ⟨o1,o2,o3,o4⟩:=push_op h1 h2
 have o5:(opX op).dt≤32:=by rw [opX_dt];exact CK.szOf_le _
 obtain ⟨e,hOf,he⟩:=OfX_calls op (by omega) w
 rw [if_pos o1] at he
 subst he
 have hBs:∀ w',Calls Tryz.prog 93 #[.int .u8 (op:Int)] w' (Ret w' (.tuple #[.int .u64 3,.int .i64 0])):=fun w'=>by
  have h:=Base_calls op (by omega) w'
  obtain ⟨y,hy⟩:=Option.isSome_iff_exists.1 o1
  rw [hy,o4] at h
  exact h
 refine calls_anyO (calls_inlineP (K:=anyO fun x fs'=>x=.returned (.tuple #[])∧∃ s k gs',FrO ((f.setR (f.gas - 3) s k).setPc ((min (pn+1+(opX op).dt) L.cl.length:Nat):Int)) (L.setW (L.ws++[bev (dataC L.cl f.pc)])) gs'∧fs'=(b,maO (ma0 ((f.setR (f.gas - 3) s k).setPc ((min (pn+1+(opX op).dt) L.cl.length:Nat):Int)) e0 e1 e2 e3))::(gs'++rest)) (args:=[_]) Tryz.func42 rfl Tryz.ntmps42 rfl ?_ hs)
 (refine sRz<|vMz<|vNz<|vFz<|ldz rfl .head ma_rdF ?_;apply zS;rfl;rfl;infer_instance;exact .cons rfl .nil;intro w _;rename_i hst;(exact hN w (st_ou hst (by (repeat (first|exact qO _|exact qR _ _|apply qS|apply List.sublist_append_of_sublist_right)))));refine vAz<|nSz<|vMz ?_;apply zS;rfl;rfl;infer_instance;exact .cons rfl .nil;intro w _;exact hOf w;refine vMz ?_;refine vEz ?_;refine vEz ?_;apply zU;rfl;intro _;apply zR;rfl;rfl;apply qA;apply op_wrW;rfl;refine vAz<|nSz<|vMz ?_;refine lvz (.eqT rfl rfl (by omega)) ?_;refine vMz<|gTz<|vMz<|gTz ?_;refine lvz (.neT rfl rfl (by omega)) ?_;refine pTz ?_;apply zS;rfl;rfl;infer_instance;exact .cons rfl .nil;intro w _;exact need_true w;refine nSz<|vMz ?_;apply zS;rfl;rfl;infer_instance;exact .cons rfl .nil;intro w _;exact hBs w;refine vMz ?_;refine vEz ?_;refine vEz ?_;refine vAz<|vAz<|nSz<|vMz<|vMz ?_;apply LW.lay1;rfl;infer_instance;infer_instance;rfl;rfl;rfl;rfl;rfl;rfl;intro _)
 rename_i b3 b39
 have hsp:spendM (ma0 f e0 e1 e2 e3) [3]=some ((ma0 f e0 e1 e2 e3).setGas (f.gas - 3)):=if_pos (by show 3+0≤f.gas;omega)
 refine LW.perm (fs':=(b,maO (ma0 f e0 e1 e2 e3))::(b39,.cells #[.int .u64 3] 26 (0,0))::(b3,.cells (opc (opX op)) 86 (0,0))::(gs++rest)) (List.perm_middle (l₁:=[_,_])).symm ?_
 refine LW.callP (K:=MaK b (ma0 f e0 e1 e2 e3) (spendM (ma0 f e0 e1 e2 e3) [3]) _) rfl rfl inferInstance (by (exact .cons rfl (.cons rfl .nil))) rfl (fun fs h=>by rw [hsp] at h;cases h.1) (fun w' hst=>spend_calls w0 S b _ [3] hgl _ _ w' hst (fun w2 h2=>row_cells (h2.own (b39,_) (List.Mem.tail _ (List.Mem.head _))).2 rfl rfl (by simp [maxLen]))) ?_ ?_
 rotate_left
 ·rintro ch fs' h
  rw [hsp] at h;cases h.1
 rintro v fs' h
 rw [hsp] at h
 obtain ⟨h,rfl⟩:=h
 cases h
 (refine nSz<|vMz<|vNz<|vFz<|vFz<|vFz<|ldz rfl .head hrdS<|lvz (.lenR rfl inferInstance rfl)<|vAz<|nSz<|vMz<|vFz<|ldz rfl (.tail (.tail .head)) op_rd2 ?_;refine lvz (.geqT rfl rfl (by omega)) ?_;refine vMz<|gTz<|vMz<|gTz<|vFz<|gTz<|ldz rfl (.tail (.tail .head)) op_rd2<|gTz ?_;refine lvz (.subZ rfl rfl (by omega) (by omega)) ?_;refine gTz<|vFz<|gTz<|ldz rfl (.tail (.tail .head)) op_rd3<|gTz ?_;refine lvz (.addZ rfl rfl (by omega)) ?_;refine gTz ?_;refine lvz (.leqT rfl rfl (by omega)) ?_;refine pTz ?_;apply zS;rfl;rfl;infer_instance;exact .cons rfl .nil;intro w _;exact need_true w;refine nNz<|zI ?_)
 apply CW.pre
 (refine AnyW.anyM [] 15 mixed (by decide +kernel) ?_)
 ((try simp only [tsOf_cons,tsOf_nil,tsOf_app]);refine dvz (.move rfl)<|dvz (.nilCheck rfl)<|dvz (.fieldAddr rfl rfl)<|dvz (.fieldAddr rfl rfl) ?_;apply qF;rfl;rfl;rfl;exact zC;rfl;apply zP;exact zN;exact hrdP;refine dvz (.addZL rfl rfl (by decide) (by omega)) ?_;refine dvz (.fieldAddr rfl rfl) ?_;apply qF;rfl;rfl;rfl;exact zC;rfl;apply zO;apply zO;apply zP;exact zN;exact op_rd4;refine dvz (.addZ rfl rfl (by omega)) ?_;refine dvz (.move rfl)<|dvz (.nilCheck rfl)<|dvz (.fieldAddr rfl rfl)<|dvz (.fieldAddr rfl rfl) ?_;apply qF;rfl;rfl;rfl;exact zC;rfl;apply zP;exact zN;exact hrdC;refine dvz (.lenR rfl inferInstance rfl) ?_;apply DW.nil;simp only [fsOf_cons,fsOf_nil,fsOf_app,fsOf_tsOf,fsOf_new])
 try simp only [fsOf_mark,fsOf_cons,fsOf_nil,fsOf_app,fsOf_tsOf,fsOf_new,fsOf_tag,List.append_eq,List.nil_append]
 (refine lvz (.minZ rfl rfl)<|vAz<|nNz<|zI<|sRz<|vMz<|vMz ?_)
 refine LW.perm (fs':=(b,maO ((ma0 f e0 e1 e2 e3).setGas (f.gas - 3)))::(gs++([(b39,.cells #[.int .u64 3] 26 (0,0)),(b3,.cells (opc (opX op)) 86 (0,0))]++rest))) (List.Perm.cons _ (List.perm_append_comm_assoc gs [_,_] rest)) ?_
 refine LW.callSt (K:=fun v fs'=>RowK b ((ma0 f e0 e1 e2 e3).setGas (f.gas - 3)) L (L.ws++[bev (dataC L.cl f.pc)]) ([(b39,.cells #[.int .u64 3] 26 (0,0)),(b3,.cells (opc (opX op)) 86 (0,0))]++rest) (.returned v) fs') rfl rfl inferInstance (by (exact .cons rfl (.cons rfl .nil))) (fun w' hst=>Calls.mono (row_push w0 S b ((ma0 f e0 e1 e2 e3).setGas (f.gas - 3)) L gs _ op h1 h2 hok hf hfr w' hst) fun x w'' ⟨fs',hk,hst⟩=>⟨.bool true,fs',hk.1,by { have h:=hk;rw [hk.1] at h;exact h },hst⟩) ?_
 rintro v fs' ⟨hv,s,k,gs',hfr',rfl⟩
 cases hv
 (refine nNz<|cTz<|sRz<|vMz<|vMz<|vNz<|vFz<|vFz ?_;apply zR;rfl;rfl;apply qA;apply ma_wr1 (z:=.int .i64 0);refine nNz<|zK<|thenR ?_)
 refine inPI (.inl rfl) .nil rfl .nil rfl ⟨_,⟨rfl,s,k,gs',hfr',rfl⟩,_,?_,.refl _⟩
 exact List.Sublist.cons_cons _ (List.Sublist.append_left (.cons _ (.cons _ (.refl _))) gs')
end
section
attribute [local irreducible] SL.inP SL.inD SL.outD
theorem tries_bound (w0:World) (S:List Nat) (f:FuncId) (first:Array Value) (K:Out) (hK:TryK K) (hF:FnI Tryz.prog f) (own rest:Fs) (w:World)
  (hc:∀ rest w',St w0 S (own++rest) w'→Calls Tryz.prog f first w' (fun x w''=>∃ fs',(∃ own',K x own'∧fs'=own'++rest)∧St w0 S fs' w'')) (hs:St w0 S (own++rest) w) :
  Calls Tryz.prog 41 #[.func (.func f) first #[]] w (fun x w'=>∃ fs',(∃ ok own',x=.returned (.bool ok)∧K (match ok with|true=>.returned (.tuple #[])|false=>.panicked failC) own'∧fs'=own'++rest)∧St w0 S fs' w'):=by
 refine calls_inlineD (args:=[_]) Tryz.func41 rfl Tryz.ntmps41 rfl ?_ hs
 (refine sRz ?_;apply LW.alloc1;rfl;rfl;intro _;refine nSz ?_;apply LW.v0;rfl;rfl;apply ValP.makeFunc;exact ArgsOk.nil;exact .cons rfl .nil)
 rename_i bok
 apply LW.defer
 rfl
 rfl
 (apply zV;refine thenM<|sRz<|vMz ?_)
 refine LW.perm (fs':=own++(bok,.cells #[.bool false] 4 (0,0))::rest) List.perm_middle ?_
 refine LW.callP (K:=fun x fs'=>∃ own',K x own'∧fs'=own'++(bok,.cells #[.bool false] 4 (0,0))::rest) rfl rfl hF (by (exact ArgsOk.nil)) (aas:=first.toList) (by simp) (fun fs ⟨own',h,_⟩=>by rcases hK _ _ h with h|h<;>cases h) (fun w' hst=>by simpa using hc _ w' hst) ?_ ?_
 ·rintro v fs' ⟨own',hKv,rfl⟩
  obtain rfl:v=.tuple #[]:=by
   rcases hK _ _ hKv with h|h
   ·exact Ending.returned.inj h
   ·cases h
  refine LW.perm (fs':=(bok,.cells #[.bool false] 4 (0,0))::(own'++rest)) List.perm_middle.symm ?_
  (refine nSz ?_;apply zR;rfl;rfl;apply qA;apply Wr.cells;rfl;rfl;simp only [wc,List.size_toArray,List.length_cons,List.length_nil];omega;simp only [fillC,wc,wrCells,Value.cells,qL,qI,qN,qM,Nat.reduceAdd,Nat.reduceMul,qP,Nat.mul_one];rfl;refine nNz<|zK ?_)
  refine outDI (.inl rfl) rfl fun a w2 s2=>?_
  refine leaves_clo (K:=fun e fs'=>e=.returned (.tuple #[])∧fs'=(bok,.cells #[.bool true] 4 (0,0))::(own'++rest)) inferInstance (fun h=>by cases h) (tries1_idle w0 S bok true (own'++rest) w2 s2.st) (fun fs h=>by cases h.1) ?_ ?_
  ·rintro v fs' w' ⟨_,rfl⟩ hst
   refine leaves_end (vs:=[.bool true]) (w:=w') rfl s2.env hst ?_ rfl ?_
   ·(apply zD;apply zH;rfl;apply qG;apply zY;exact Rd.one' rfl;exact zF)
   ·refine ⟨own'++rest,⟨true,own',rfl,hKv,rfl⟩,?_⟩
    exact ⟨hst.bel,fun p hp=>hst.own p (qQ _ hp),(List.pairwise_cons.1 hst.nd).2⟩
  ·rintro ch fs' w' ⟨h,_⟩
   cases h
 ·rintro ch fs' ⟨own',hKv,rfl⟩
  obtain rfl:ch=failC:=by
   rcases hK _ _ hKv with h|h
   ·cases h
   ·exact Ending.panicked.inj h
  refine thenP ?_
  refine outDP rfl fun a w2 s2=>?_
  have s3:=s2.st.perm List.perm_middle.symm
  refine leaves_clo (K:=fun e fs'=>e=.returned (.tuple #[])∧∃ b2,fs'=b2::(bok,.cells #[.bool false] 4 (0,0))::(own'++rest)) inferInstance (fun h=>by cases h) (tries1_failed w0 S bok false (own'++rest) w2 s3) (fun fs h=>by cases h.1) ?_ ?_
  ·rintro v fs' w' ⟨_,b2,rfl⟩ hst
   refine leaves_end (vs:=[.bool false]) (w:=w') rfl s2.env hst ?_ rfl ?_
   ·(apply zD;apply zH;rfl;apply qG;apply zX;apply zY;exact Rd.one' rfl;exact zF)
   ·refine ⟨own'++rest,⟨false,own',rfl,hKv,rfl⟩,?_⟩
    exact ⟨hst.bel,fun p hp=>hst.own p (qQ _ (qQ _ hp)),(List.pairwise_cons.1 (List.pairwise_cons.1 hst.nd).2).2⟩
  ·rintro ch fs' w' ⟨h,_⟩
   cases h
def StepR (R:MaV→Fs→Prop) (v:Value) (gs:Fs):Prop:=∃ m,R m gs∧v=.tuple #[frv m.fr,.agg (aska m.kind m.op m.words m.data),.int .i64 0]
theorem aq_cells {kind:Int} {op:Nat} {u d:Value} (h:∃ p n c,u=.slice p n c) (h2:∃ p n c,d=.slice p n c):(aska kind op u d).toList.all Value.oneCell'=true:=by
 obtain ⟨p,n,c,rfl⟩:=h
 obtain ⟨p,n,c,rfl⟩:=h2
 rfl
theorem aq_wrW {P:Program} {T E:TypeId} {kind:Int} {op:Nat} {u d z:Value} {cs:Array Value} [InfoI P T 4 z] (h:cs.size=4) (h1:∃ p n c,u=.slice p n c) (h2:∃ p n c,d=.slice p n c):Wr P T (.cells cs E (0,0)) 0 (.agg (aska kind op u d)) (.cells (aska kind op u d) E (0,0)):=Wr.whole h rfl (aq_cells h1 h2)
theorem ma_rdA {P:Program} {T E:TypeId} {fr:Nat × Nat} {m:MaV} [AgI P T true] {z:Value} [InfoI P T 4 z]:Rd P T (.cells (mca m) E fr) 19 (.agg (aska m.kind m.op m.words m.data)):=Rd.mid (cs:=[.int .i64 m.kind,.int .u8 (m.op:Int),m.words,m.data]) rfl rfl
theorem Step_ok (f:FrV) (L:FrL) (e0 e1 e2 e3:Nat) (R:MaV→Fs→Prop) (hF:okF f L) (hR:∀ m gs,R m gs→FrSl m.fr∧(∃ p n c,m.words=.slice p n c)∧(∃ p n c,m.data=.slice p n c))
  (hstep:∀ (w0:World) (S:List Nat) (b:Nat) (c s m i b5:Value) (gs rest:Fs) (w':World),FrO (f.rows c s m i b5) L gs→St w0 S ((b,maO (ma0 (f.rows c s m i b5) e0 e1 e2 e3))::(gs++rest)) w' →
   Calls Tryz.prog 42 #[.pointer (some ⟨b,0,none⟩)] w' (fun x w''=>∃ fs',(x=.returned (.tuple #[])∧∃ m' gs',R m' gs'∧fs'=(b,maO m')::(gs'++rest))∧St w0 S fs' w''))
  (w:World) (h:FrRows w f L):Calls Tryz.prog 10 #[frv f,.agg (enva e0 e1 e2 e3)] w (RetG w [] (StepR R)):=by
 have hC:∀ w' {fs:Fs},St w [] fs w'→Calls Tryz.prog 34 #[frv f] w' (Ret w' (.int .i64 0)):=fun w' fs hst=>by
  have h0:=fCheck_calls f L w' (h.st hst)
  rwa [if_pos hF] at h0
 have hs1:=h.sl
 refine enter (args:=[_,_]) _ [] [] Tryz.func10 rfl Tryz.ntmps10 rfl (by simp) .nil ?_
 (refine sRz ?_;apply zT;rfl;rfl;intro _;apply zT;rfl;rfl;intro _;apply zU;rfl;intro _;apply zU;rfl;intro _;refine vAz<|nNz<|zI<|sRz<|ldz rfl (.tail (.tail (.tail .head))) fr_rdW ?_;apply zS;rfl;rfl;infer_instance;exact .cons rfl .nil;intro w _;exact hC w (by assumption);refine vAz<|nSz<|vMz ?_;refine lvz (.neF rfl rfl (by omega)) ?_;refine nNz<|cFz<|zJ<|thenN<|sRz<|ldz rfl (.tail (.tail (.tail .head))) fr_rdW<|ldz rfl (.tail (.tail .head)) (qH rfl) ?_)
 refine LW.callR rfl rfl inferInstance (by (exact .cons rfl (.cons rfl .nil))) (fun w' hst=>fOf_calls f L e0 e1 e2 e3 hF.short w' (h.st hst)) ?_
 rintro v g ⟨bm,c,s,mm,i,b5x,g1,rfl,rfl,hfr⟩
 rename_i b2 b3 b4 b5
 (refine vAz<|nNz<|zI<|sRz<|vMz ?_;apply LW.v0;rfl;rfl;apply ValP.makeFunc;exact .cons rfl .nil;exact ArgsOk.nil)
 refine LW.callSt (K:=fun v fs'=>v=.bool true∧∃ m' gs',R m' gs'∧fs'=(bm,maO m')::(gs'++[(b5,.cells #[.int .i64 0,.int .u8 0,.slice none 0 0,.slice none 0 0] 37 (0,0)),(b4,.cells #[.slice none 0 0,.int .i64 0,.slice none 0 0,.slice none 0 0,.int .u64 0,.int .u64 0,.int .u64 0,.int .u64 0,.int .u64 0,.int .u64 0,.int .u64 0,.slice none 0 0,.slice none 0 0,.bool false] 31 (0,0)),(b3,.cells (enva e0 e1 e2 e3) 33 (0,0)),(b2,.cells (fra f) 31 (0,0))])) rfl rfl inferInstance (by (exact .cons rfl .nil)) (fun w' hst=>Calls.mono (tries_bound w [] 42 #[.pointer (some ⟨bm,0,none⟩)] (fun x fs'=>x=.returned (.tuple #[])∧∃ m' gs',R m' gs'∧fs'=(bm,maO m')::gs') (fun x fs' h=>.inl h.1) inferInstance ((bm,maO (ma0 (f.rows c s mm i b5x) e0 e1 e2 e3))::g1) [(b5,.cells #[.int .i64 0,.int .u8 0,.slice none 0 0,.slice none 0 0] 37 (0,0)),(b4,.cells #[.slice none 0 0,.int .i64 0,.slice none 0 0,.slice none 0 0,.int .u64 0,.int .u64 0,.int .u64 0,.int .u64 0,.int .u64 0,.int .u64 0,.int .u64 0,.slice none 0 0,.slice none 0 0,.bool false] 31 (0,0)),(b3,.cells (enva e0 e1 e2 e3) 33 (0,0)),(b2,.cells (fra f) 31 (0,0))] w' (fun rest w2 h2=>Calls.mono (hstep w [] bm c s mm i b5x g1 rest w2 hfr h2) fun x w3 ⟨fs',⟨h3,m',gs',h4,h5⟩,hst⟩=>⟨fs',⟨_,⟨h3,m',gs',h4,rfl⟩,h5⟩,hst⟩) hst) fun x w3 ⟨fs',⟨ok,own',h3,h4,h5⟩,hst⟩=>?_) ?_
 ·cases ok with
  |false=>obtain ⟨h6,_⟩:=h4;cases h6
  |true =>
   obtain ⟨_,m',gs',h7,h8⟩:=h4
   exact ⟨_,_,h3,⟨rfl,m',gs',h7,by rw [h5,h8];rfl⟩,hst⟩
 rintro _ _ ⟨rfl,m',gs',hRm,rfl⟩
 obtain ⟨hsf,hsw,hsd⟩:=hR _ _ hRm
 (refine lvz (.notT rfl (by with_reducible rfl)) ?_;refine nNz<|cFz<|zJ<|thenN<|zI ?_)
 apply CW.pre
 (refine AnyW.anyM [] 9 mixed (by decide +kernel) ?_)
 ((try simp only [tsOf_cons,tsOf_nil,tsOf_app]);refine dvz (.move rfl)<|dvz (.nilCheck rfl)<|dvz (.fieldAddr rfl rfl) ?_;apply qF;rfl;rfl;rfl;exact zC;rfl;apply zP;exact zN;exact ma_rdF;refine dvz (.move rfl)<|dvz (.nilCheck rfl)<|dvz (.fieldAddr rfl rfl) ?_;apply qF;rfl;rfl;rfl;exact zC;rfl;apply zP;exact zN;exact ma_rdA;apply DW.store;rfl;rfl;exact zC;rfl;rfl;apply TSet.tail;apply TSet.app;apply TSet.tail;apply TSet.head;exact zN;exact zN;apply fr_wrW;rfl;exact hsf;apply DW.nil;simp only [fsOf_cons,fsOf_nil,fsOf_app,fsOf_tsOf,fsOf_new])
 try simp only [fsOf_mark,fsOf_cons,fsOf_nil,fsOf_app,fsOf_tsOf,fsOf_new,fsOf_tag,List.append_eq,List.nil_append]
 (apply zR;rfl;rfl;apply qD;apply qE;apply qA;apply aq_wrW;rfl;exact hsw;exact hsd;refine vAz<|nNz<|zK ?_)
 trace_state
 exact fin (vs:=[frv m'.fr,.agg (aska m'.kind m'.op m'.words m'.data),.int .i64 0]) gs' (.inl rfl) rfl rfl (by (apply zD;apply zH;rfl;apply qG;apply zX;apply zZ;apply zX;apply zY;exact fr_rdW;apply zD;apply zH;rfl;apply qG;apply zX;apply zZ;apply zY;exact qH rfl;apply zD;exact zG rfl;exact zF)) (qS _ (qR _ _)) ⟨m',hRm,rfl⟩
end
def halvesE:Array MapEntry:=#[⟨.int .u8 1,.func (.func 137) #[] #[],0⟩,⟨.int .u8 3,.func (.func 139) #[] #[],1⟩,⟨.int .u8 2,.func (.func 140) #[] #[],2⟩,⟨.int .u8 4,.func (.func 141) #[] #[],3⟩,⟨.int .u8 6,.func (.func 143) #[] #[],4⟩,⟨.int .u8 22,.func (.func 21) #[] #[],5⟩,⟨.int .u8 23,.func (.func 22) #[] #[],6⟩,⟨.int .u8 24,.func (.func 23) #[] #[],7⟩,⟨.int .u8 27,.func (.func 144) #[] #[],8⟩,⟨.int .u8 28,.func (.func 145) #[] #[],9⟩,⟨.int .u8 16,.func (.func 146) #[] #[],10⟩,⟨.int .u8 17,.func (.func 148) #[] #[],11⟩,⟨.int .u8 20,.func (.func 149) #[] #[],12⟩]
def halvesF (b:Nat):Option (Nat × FuncId):=if b=1 then some (0,137) else if b=3 then some (1,139) else if b=2 then some (2,140) else if b=4 then some (3,141) else if b=6 then some (4,143) else if b=22 then some (5,21) else if b=23 then some (6,22) else if b=24 then some (7,23) else if b=27 then some (8,144) else if b=28 then some (9,145) else if b=16 then some (10,146) else if b=17 then some (11,148) else if b=20 then some (12,149) else none
def halvesM (v:Value) (gs:Fs):Prop:=∃ b,v=.map (some b)∧gs=[(b,.map halvesE 13)]
theorem halves_calls (w:World):Calls Tryz.prog 96 #[] w (RetG w [] halvesM):=by
 refine enter (args:=[]) _ [] [] Tryz.func96 rfl Tryz.ntmps96 rfl (by simp) .nil ?_
 (refine sRz<|vAz<|nSz ?_;apply LW.makeMap;rfl;intro _;apply LW.mapIns;infer_instance;infer_instance;rfl;rfl;rfl;apply qA;rfl;rfl;apply LW.mapIns;infer_instance;infer_instance;rfl;rfl;rfl;apply qA;rfl;rfl;apply LW.mapIns;infer_instance;infer_instance;rfl;rfl;rfl;apply qA;rfl;rfl;apply LW.mapIns;infer_instance;infer_instance;rfl;rfl;rfl;apply qA;rfl;rfl;apply LW.mapIns;infer_instance;infer_instance;rfl;rfl;rfl;apply qA;rfl;rfl;apply LW.mapIns;infer_instance;infer_instance;rfl;rfl;rfl;apply qA;rfl;rfl;apply LW.mapIns;infer_instance;infer_instance;rfl;rfl;rfl;apply qA;rfl;rfl;apply LW.mapIns;infer_instance;infer_instance;rfl;rfl;rfl;apply qA;rfl;rfl;apply LW.mapIns;infer_instance;infer_instance;rfl;rfl;rfl;apply qA;rfl;rfl;apply LW.mapIns;infer_instance;infer_instance;rfl;rfl;rfl;apply qA;rfl;rfl;apply LW.mapIns;infer_instance;infer_instance;rfl;rfl;rfl;apply qA;rfl;rfl;apply LW.mapIns;infer_instance;infer_instance;rfl;rfl;rfl;apply qA;rfl;rfl;apply LW.mapIns;infer_instance;infer_instance;rfl;rfl;rfl;apply qA;rfl;rfl;refine vMz<|vAz<|nNz<|zK ?_)
 rename_i b
 exact fin (vs:=[.map (some b)]) [(b,.map halvesE 13)] (.inl rfl) rfl rfl (by (apply zD;exact zG rfl;exact zF)) (qO _) ⟨b,rfl,rfl⟩
theorem halves_find (b:Nat):Instr.findNow (.int .u8) (.int .u8 (b:Int)) halvesE.toList 0=some ((halvesF b).map fun x=>(x.1,.func (.func x.2) #[] #[])):=by
 have hk:∀ (b k:Nat),¬ b=k→((b:Int) == (k:Int))=false:=fun b k h=>by
  rw [beq_eq_false_iff_ne]
  omega
 unfold halvesF
 by_cases h1:b=1
 ·subst h1;rfl
 rw [if_neg h1]
 by_cases h3:b=3
 ·subst h3;rfl
 rw [if_neg h3]
 by_cases h2:b=2
 ·subst h2;rfl
 rw [if_neg h2]
 by_cases h4:b=4
 ·subst h4;rfl
 rw [if_neg h4]
 by_cases h6:b=6
 ·subst h6;rfl
 rw [if_neg h6]
 by_cases h22:b=22
 ·subst h22;rfl
 rw [if_neg h22]
 by_cases h23:b=23
 ·subst h23;rfl
 rw [if_neg h23]
 by_cases h24:b=24
 ·subst h24;rfl
 rw [if_neg h24]
 by_cases h27:b=27
 ·subst h27;rfl
 rw [if_neg h27]
 by_cases h28:b=28
 ·subst h28;rfl
 rw [if_neg h28]
 by_cases h16:b=16
 ·subst h16;rfl
 rw [if_neg h16]
 by_cases h17:b=17
 ·subst h17;rfl
 rw [if_neg h17]
 by_cases h20:b=20
 ·subst h20;rfl
 rw [if_neg h20]
 simp only [halvesE,Instr.findNow,Instr.sameNow,if_true,Option.map_none,show ((b:Int) == 1)=false from hk b 1 h1,show ((b:Int) == 3)=false from hk b 3 h3,show ((b:Int) == 2)=false from hk b 2 h2,show ((b:Int) == 4)=false from hk b 4 h4,show ((b:Int) == 6)=false from hk b 6 h6,show ((b:Int) == 22)=false from hk b 22 h22,show ((b:Int) == 23)=false from hk b 23 h23,show ((b:Int) == 24)=false from hk b 24 h24,show ((b:Int) == 27)=false from hk b 27 h27,show ((b:Int) == 28)=false from hk b 28 h28,show ((b:Int) == 16)=false from hk b 16 h16,show ((b:Int) == 17)=false from hk b 17 h17,show ((b:Int) == 20)=false from hk b 20 h20,Bool.false_eq_true,if_false]
def saysE:Array MapEntry:=#[⟨.int .u8 48,.func (.func 150) #[] #[],0⟩,⟨.int .u8 51,.func (.func 151) #[] #[],1⟩,⟨.int .u8 50,.func (.func 152) #[] #[],2⟩,⟨.int .u8 66,.func (.func 153) #[] #[],3⟩,⟨.int .u8 67,.func (.func 154) #[] #[],4⟩,⟨.int .u8 72,.func (.func 155) #[] #[],5⟩,⟨.int .u8 54,.func (.func 156) #[] #[],6⟩,⟨.int .u8 61,.func (.func 157) #[] #[],7⟩,⟨.int .u8 90,.func (.func 158) #[] #[],8⟩]
def saysF (b:Nat):Option (Nat × FuncId):=if b=48 then some (0,150) else if b=51 then some (1,151) else if b=50 then some (2,152) else if b=66 then some (3,153) else if b=67 then some (4,154) else if b=72 then some (5,155) else if b=54 then some (6,156) else if b=61 then some (7,157) else if b=90 then some (8,158) else none
def saysM (v:Value) (gs:Fs):Prop:=∃ b,v=.map (some b)∧gs=[(b,.map saysE 9)]
theorem says_calls (w:World):Calls Tryz.prog 97 #[] w (RetG w [] saysM):=by
 refine enter (args:=[]) _ [] [] Tryz.func97 rfl Tryz.ntmps97 rfl (by simp) .nil ?_
 (refine sRz<|vAz<|nSz ?_;apply LW.makeMap;rfl;intro _;apply LW.mapIns;infer_instance;infer_instance;rfl;rfl;rfl;apply qA;rfl;rfl;apply LW.mapIns;infer_instance;infer_instance;rfl;rfl;rfl;apply qA;rfl;rfl;apply LW.mapIns;infer_instance;infer_instance;rfl;rfl;rfl;apply qA;rfl;rfl;apply LW.mapIns;infer_instance;infer_instance;rfl;rfl;rfl;apply qA;rfl;rfl;apply LW.mapIns;infer_instance;infer_instance;rfl;rfl;rfl;apply qA;rfl;rfl;apply LW.mapIns;infer_instance;infer_instance;rfl;rfl;rfl;apply qA;rfl;rfl;apply LW.mapIns;infer_instance;infer_instance;rfl;rfl;rfl;apply qA;rfl;rfl;apply LW.mapIns;infer_instance;infer_instance;rfl;rfl;rfl;apply qA;rfl;rfl;apply LW.mapIns;infer_instance;infer_instance;rfl;rfl;rfl;apply qA;rfl;rfl;refine vMz<|vAz<|nNz<|zK ?_)
 rename_i b
 exact fin (vs:=[.map (some b)]) [(b,.map saysE 9)] (.inl rfl) rfl rfl (by (apply zD;exact zG rfl;exact zF)) (qO _) ⟨b,rfl,rfl⟩
theorem says_find (b:Nat):Instr.findNow (.int .u8) (.int .u8 (b:Int)) saysE.toList 0=some ((saysF b).map fun x=>(x.1,.func (.func x.2) #[] #[])):=by
 have hk:∀ (b k:Nat),¬ b=k→((b:Int) == (k:Int))=false:=fun b k h=>by
  rw [beq_eq_false_iff_ne]
  omega
 unfold saysF
 by_cases h48:b=48
 ·subst h48;rfl
 rw [if_neg h48]
 by_cases h51:b=51
 ·subst h51;rfl
 rw [if_neg h51]
 by_cases h50:b=50
 ·subst h50;rfl
 rw [if_neg h50]
 by_cases h66:b=66
 ·subst h66;rfl
 rw [if_neg h66]
 by_cases h67:b=67
 ·subst h67;rfl
 rw [if_neg h67]
 by_cases h72:b=72
 ·subst h72;rfl
 rw [if_neg h72]
 by_cases h54:b=54
 ·subst h54;rfl
 rw [if_neg h54]
 by_cases h61:b=61
 ·subst h61;rfl
 rw [if_neg h61]
 by_cases h90:b=90
 ·subst h90;rfl
 rw [if_neg h90]
 simp only [saysE,Instr.findNow,Instr.sameNow,if_true,Option.map_none,show ((b:Int) == 48)=false from hk b 48 h48,show ((b:Int) == 51)=false from hk b 51 h51,show ((b:Int) == 50)=false from hk b 50 h50,show ((b:Int) == 66)=false from hk b 66 h66,show ((b:Int) == 67)=false from hk b 67 h67,show ((b:Int) == 72)=false from hk b 72 h72,show ((b:Int) == 54)=false from hk b 54 h54,show ((b:Int) == 61)=false from hk b 61 h61,show ((b:Int) == 90)=false from hk b 90 h90,Bool.false_eq_true,if_false]
def doesE:Array MapEntry:=#[⟨.int .u8 21,.func (.func 159) #[] #[],0⟩,⟨.int .u8 25,.func (.func 160) #[] #[],1⟩,⟨.int .u8 52,.func (.func 161) #[] #[],2⟩,⟨.int .u8 53,.func (.func 162) #[] #[],3⟩,⟨.int .u8 55,.func (.func 163) #[] #[],4⟩,⟨.int .u8 62,.func (.func 164) #[] #[],5⟩,⟨.int .u8 81,.func (.func 165) #[] #[],6⟩,⟨.int .u8 82,.func (.func 166) #[] #[],7⟩,⟨.int .u8 83,.func (.func 167) #[] #[],8⟩,⟨.int .u8 32,.func (.func 168) #[] #[],9⟩,⟨.int .u8 86,.func (.func 169) #[] #[],10⟩,⟨.int .u8 87,.func (.func 170) #[] #[],11⟩,⟨.int .u8 49,.func (.func 171) #[] #[],12⟩,⟨.int .u8 71,.func (.func 171) #[] #[],13⟩,⟨.int .u8 84,.func (.func 171) #[] #[],14⟩,⟨.int .u8 92,.func (.func 171) #[] #[],15⟩,⟨.int .u8 85,.func (.func 172) #[] #[],16⟩,⟨.int .u8 93,.func (.func 172) #[] #[],17⟩,⟨.int .u8 241,.func (.func 173) #[] #[],18⟩,⟨.int .u8 244,.func (.func 173) #[] #[],19⟩,⟨.int .u8 250,.func (.func 173) #[] #[],20⟩,⟨.int .u8 245,.func (.func 173) #[] #[],21⟩,⟨.int .u8 0,.func (.func 174) #[] #[],22⟩,⟨.int .u8 243,.func (.func 175) #[] #[],23⟩,⟨.int .u8 253,.func (.func 175) #[] #[],24⟩]
def doesF (b:Nat):Option (Nat × FuncId):=if b=21 then some (0,159) else if b=25 then some (1,160) else if b=52 then some (2,161) else if b=53 then some (3,162) else if b=55 then some (4,163) else if b=62 then some (5,164) else if b=81 then some (6,165) else if b=82 then some (7,166) else if b=83 then some (8,167) else if b=32 then some (9,168) else if b=86 then some (10,169) else if b=87 then some (11,170) else if b=49 then some (12,171) else if b=71 then some (13,171) else if b=84 then some (14,171) else if b=92 then some (15,171) else if b=85 then some (16,172) else if b=93 then some (17,172) else if b=241 then some (18,173) else if b=244 then some (19,173) else if b=250 then some (20,173) else if b=245 then some (21,173) else if b=0 then some (22,174) else if b=243 then some (23,175) else if b=253 then some (24,175) else none
def doesM (v:Value) (gs:Fs):Prop:=∃ b,v=.map (some b)∧gs=[(b,.map doesE 25)]
theorem does_calls (w:World):Calls Tryz.prog 99 #[] w (RetG w [] doesM):=by
 refine enter (args:=[]) _ [] [] Tryz.func99 rfl Tryz.ntmps99 rfl (by simp) .nil ?_
 (refine sRz<|vAz<|nSz ?_;apply LW.makeMap;rfl;intro _;apply LW.mapIns;infer_instance;infer_instance;rfl;rfl;rfl;apply qA;rfl;rfl;apply LW.mapIns;infer_instance;infer_instance;rfl;rfl;rfl;apply qA;rfl;rfl;apply LW.mapIns;infer_instance;infer_instance;rfl;rfl;rfl;apply qA;rfl;rfl;apply LW.mapIns;infer_instance;infer_instance;rfl;rfl;rfl;apply qA;rfl;rfl;apply LW.mapIns;infer_instance;infer_instance;rfl;rfl;rfl;apply qA;rfl;rfl;apply LW.mapIns;infer_instance;infer_instance;rfl;rfl;rfl;apply qA;rfl;rfl;apply LW.mapIns;infer_instance;infer_instance;rfl;rfl;rfl;apply qA;rfl;rfl;apply LW.mapIns;infer_instance;infer_instance;rfl;rfl;rfl;apply qA;rfl;rfl;apply LW.mapIns;infer_instance;infer_instance;rfl;rfl;rfl;apply qA;rfl;rfl;apply LW.mapIns;infer_instance;infer_instance;rfl;rfl;rfl;apply qA;rfl;rfl;apply LW.mapIns;infer_instance;infer_instance;rfl;rfl;rfl;apply qA;rfl;rfl;apply LW.mapIns;infer_instance;infer_instance;rfl;rfl;rfl;apply qA;rfl;rfl;apply LW.mapIns;infer_instance;infer_instance;rfl;rfl;rfl;apply qA;rfl;rfl;apply LW.mapIns;infer_instance;infer_instance;rfl;rfl;rfl;apply qA;rfl;rfl;apply LW.mapIns;infer_instance;infer_instance;rfl;rfl;rfl;apply qA;rfl;rfl;apply LW.mapIns;infer_instance;infer_instance;rfl;rfl;rfl;apply qA;rfl;rfl;apply LW.mapIns;infer_instance;infer_instance;rfl;rfl;rfl;apply qA;rfl;rfl;apply LW.mapIns;infer_instance;infer_instance;rfl;rfl;rfl;apply qA;rfl;rfl;apply LW.mapIns;infer_instance;infer_instance;rfl;rfl;rfl;apply qA;rfl;rfl;apply LW.mapIns;infer_instance;infer_instance;rfl;rfl;rfl;apply qA;rfl;rfl;apply LW.mapIns;infer_instance;infer_instance;rfl;rfl;rfl;apply qA;rfl;rfl;apply LW.mapIns;infer_instance;infer_instance;rfl;rfl;rfl;apply qA;rfl;rfl;apply LW.mapIns;infer_instance;infer_instance;rfl;rfl;rfl;apply qA;rfl;rfl;apply LW.mapIns;infer_instance;infer_instance;rfl;rfl;rfl;apply qA;rfl;rfl;apply LW.mapIns;infer_instance;infer_instance;rfl;rfl;rfl;apply qA;rfl;rfl;refine vMz<|vAz<|nNz<|zK ?_)
 rename_i b
 exact fin (vs:=[.map (some b)]) [(b,.map doesE 25)] (.inl rfl) rfl rfl (by (apply zD;exact zG rfl;exact zF)) (qO _) ⟨b,rfl,rfl⟩
theorem does_find (b:Nat):Instr.findNow (.int .u8) (.int .u8 (b:Int)) doesE.toList 0=some ((doesF b).map fun x=>(x.1,.func (.func x.2) #[] #[])):=by
 have hk:∀ (b k:Nat),¬ b=k→((b:Int) == (k:Int))=false:=fun b k h=>by
  rw [beq_eq_false_iff_ne]
  omega
 unfold doesF
 by_cases h21:b=21
 ·subst h21;rfl
 rw [if_neg h21]
 by_cases h25:b=25
 ·subst h25;rfl
 rw [if_neg h25]
 by_cases h52:b=52
 ·subst h52;rfl
 rw [if_neg h52]
 by_cases h53:b=53
 ·subst h53;rfl
 rw [if_neg h53]
 by_cases h55:b=55
 ·subst h55;rfl
 rw [if_neg h55]
 by_cases h62:b=62
 ·subst h62;rfl
 rw [if_neg h62]
 by_cases h81:b=81
 ·subst h81;rfl
 rw [if_neg h81]
 by_cases h82:b=82
 ·subst h82;rfl
 rw [if_neg h82]
 by_cases h83:b=83
 ·subst h83;rfl
 rw [if_neg h83]
 by_cases h32:b=32
 ·subst h32;rfl
 rw [if_neg h32]
 by_cases h86:b=86
 ·subst h86;rfl
 rw [if_neg h86]
 by_cases h87:b=87
 ·subst h87;rfl
 rw [if_neg h87]
 by_cases h49:b=49
 ·subst h49;rfl
 rw [if_neg h49]
 by_cases h71:b=71
 ·subst h71;rfl
 rw [if_neg h71]
 by_cases h84:b=84
 ·subst h84;rfl
 rw [if_neg h84]
 by_cases h92:b=92
 ·subst h92;rfl
 rw [if_neg h92]
 by_cases h85:b=85
 ·subst h85;rfl
 rw [if_neg h85]
 by_cases h93:b=93
 ·subst h93;rfl
 rw [if_neg h93]
 by_cases h241:b=241
 ·subst h241;rfl
 rw [if_neg h241]
 by_cases h244:b=244
 ·subst h244;rfl
 rw [if_neg h244]
 by_cases h250:b=250
 ·subst h250;rfl
 rw [if_neg h250]
 by_cases h245:b=245
 ·subst h245;rfl
 rw [if_neg h245]
 by_cases h0:b=0
 ·subst h0;rfl
 rw [if_neg h0]
 by_cases h243:b=243
 ·subst h243;rfl
 rw [if_neg h243]
 by_cases h253:b=253
 ·subst h253;rfl
 rw [if_neg h253]
 simp only [doesE,Instr.findNow,Instr.sameNow,if_true,Option.map_none,show ((b:Int) == 21)=false from hk b 21 h21,show ((b:Int) == 25)=false from hk b 25 h25,show ((b:Int) == 52)=false from hk b 52 h52,show ((b:Int) == 53)=false from hk b 53 h53,show ((b:Int) == 55)=false from hk b 55 h55,show ((b:Int) == 62)=false from hk b 62 h62,show ((b:Int) == 81)=false from hk b 81 h81,show ((b:Int) == 82)=false from hk b 82 h82,show ((b:Int) == 83)=false from hk b 83 h83,show ((b:Int) == 32)=false from hk b 32 h32,show ((b:Int) == 86)=false from hk b 86 h86,show ((b:Int) == 87)=false from hk b 87 h87,show ((b:Int) == 49)=false from hk b 49 h49,show ((b:Int) == 71)=false from hk b 71 h71,show ((b:Int) == 84)=false from hk b 84 h84,show ((b:Int) == 92)=false from hk b 92 h92,show ((b:Int) == 85)=false from hk b 85 h85,show ((b:Int) == 93)=false from hk b 93 h93,show ((b:Int) == 241)=false from hk b 241 h241,show ((b:Int) == 244)=false from hk b 244 h244,show ((b:Int) == 250)=false from hk b 250 h250,show ((b:Int) == 245)=false from hk b 245 h245,show ((b:Int) == 0)=false from hk b 0 h0,show ((b:Int) == 243)=false from hk b 243 h243,show ((b:Int) == 253)=false from hk b 253 h253,Bool.false_eq_true,if_false]
section
open CK (dataC)
def FrP (f:FrV) (L:FrL) (gs:Fs):Prop:=∃ g1 g2 g3 g4 g5,(g1++(g2++(g3++(g4++g5)))).Perm gs∧bM L.cl f.code g1∧wP L.ws f.stk g2∧bM L.ms f.mem g3∧bM L.il f.inp g4∧bM L.bl f.back g5
theorem FrP.sl {f:FrV} {L:FrL} {gs:Fs} (h:FrP f L gs):FrSl f:=by
 obtain ⟨g1,g2,g3,g4,g5,_,h1,h2,h3,h4,h5⟩:=h
 unfold bM at h1 h3 h4 h5
 obtain ⟨_,_,h1⟩:=h1.form
 obtain ⟨_,_,h2⟩:=h2.form
 obtain ⟨_,_,h3⟩:=h3.form
 obtain ⟨_,_,h4⟩:=h4.form
 obtain ⟨_,_,h5⟩:=h5.form
 exact ⟨⟨_,_,_,h1⟩,⟨_,_,_,h2⟩,⟨_,_,_,h3⟩,⟨_,_,_,h4⟩,⟨_,_,_,h5⟩⟩
theorem FrP.rows {f:FrV} {L:FrL} {gs:Fs} {w:World} (h:FrP f L gs) (hw:∀ p∈gs,w.heap[p.1]?=some p.2):FrRows w f L:=by
 obtain ⟨g1,g2,g3,g4,g5,hp,h1,h2,h3,h4,h5⟩:=h
 replace hw:∀ p∈g1++(g2++(g3++(g4++g5))),w.heap[p.1]?=some p.2:=fun p h=>hw p (hp.subset h)
 exact ⟨bM_at h1 fun p hp=>hw p (by simp [hp]),h2.at fun p hp=>hw p (by simp [hp]),bM_at h3 fun p hp=>hw p (by simp [hp]),bM_at h4 fun p hp=>hw p (by simp [hp]),bM_at h5 fun p hp=>hw p (by simp [hp])⟩
section wr
variable {P : Program} {T E : TypeId} {fr : Nat × Nat} {m : MaV}
def MaV.setTook (m:MaV) (t:Value):MaV:={ m with took:=t }
def MaV.setOp (m:MaV) (o:Nat):MaV:={ m with op:=o }
def MaV.setAsk (m:MaV) (k:Int) (o:Nat) (u d:Value):MaV:={ m with kind:=k,op:=o,words:=u,data:=d }
theorem ma_wr18 {z:Value} {p:Option Addr} {n c:Nat} [InfoI P T 1 z]:Wr P T (.cells (mca m) E (0,0)) 18 (.slice p n c) (.cells (mca (m.setTook (.slice p n c))) E (0,0)):=Wr.cells (n:=1) (z:=z) rfl rfl (by show 18+1≤23;omega) rfl
theorem ma_wr20 {z:Value} {o:Nat} [InfoI P T 1 z]:Wr P T (.cells (mca m) E (0,0)) 20 (.int .u8 (o:Int)) (.cells (mca (m.setOp o)) E (0,0)):=Wr.cells (n:=1) (z:=z) rfl rfl (by show 20+1≤23;omega) rfl
theorem ma_wr19 {z:Value} {k:Int} {o:Nat} {p1 p2:Option Addr} {n1 n2 c1 c2:Nat} [InfoI P T 4 z]:Wr P T (.cells (mca m) E (0,0)) 19 (.agg (aska k o (.slice p1 n1 c1) (.slice p2 n2 c2))) (.cells (mca (m.setAsk k o (.slice p1 n1 c1) (.slice p2 n2 c2))) E (0,0)):=Wr.cells (n:=4) (z:=z) rfl rfl (by show 19+4≤23;omega) rfl
theorem ma_rd18 [AgI P T false]:Rd P T (.cells (mca m) E fr) 18 m.took:=Rd.one rfl
theorem ma_rd20 [AgI P T false]:Rd P T (.cells (mca m) E fr) 20 (.int .u8 (m.op:Int)):=Rd.one rfl
theorem ma_rd19 [AgI P T false]:Rd P T (.cells (mca m) E fr) 19 (.int .i64 m.kind):=Rd.one rfl
end wr
attribute [local irreducible] SL.inP
theorem asks_calls (w0:World) (S:List Nat) (b:Nat) (m:MaV) (k:Int) (op:Nat) (rest:Fs) (ht:∃ p n c,m.took=.slice p n c) (w:World) (hs:St w0 S ((b,maO m)::rest) w) :
  Calls Tryz.prog 210 #[.pointer (some ⟨b,0,none⟩),.int .i64 k,.int .u8 (op:Int)] w (fun x w'=>∃ fs',(x=.returned (.tuple #[])∧fs'=(b,maO (m.setAsk k op m.took (.slice none 0 0)))::rest)∧St w0 S fs' w'):=by
 obtain ⟨fr,e0,e1,e2,e3,took,kind,aop,awords,adata⟩:=m
 obtain ⟨p,n,c,rfl⟩:=ht
 refine calls_anyO (calls_inlineP (K:=anyO fun x fs'=>x=.returned (.tuple #[])∧fs'=(b,maO (MaV.setAsk ⟨fr,e0,e1,e2,e3,.slice p n c,kind,aop,awords,adata⟩ k op (.slice p n c) (.slice none 0 0)))::rest) (args:=[_,_,_]) Tryz.func210 rfl Tryz.ntmps210 rfl ?_ hs)
 (refine zL<|vMz<|vMz<|vMz<|vMz<|vNz<|vFz<|ldz rfl .head ma_rd18 ?_;apply LW.v0;rfl;rfl;apply zW;infer_instance;infer_instance;apply zA;rfl;apply zA;rfl;apply zA;rfl;exact zB;rfl;simp only [fillP,wrCells,Value.cells,qJ,qK,qL,qI,qN,qM,Nat.reduceAdd,qP];rfl;refine vNz<|vFz ?_;refine zR rfl rfl .head ma_wr19 ?_;apply zV)
 refine inPI (.inr rfl) .nil rfl .nil rfl ⟨_,⟨rfl,rfl⟩,_,qO _,.refl _⟩
theorem state_calls (w0:World) (S:List Nat) (b:Nat) (m:MaV) (rest:Fs) (ht:∃ p n c,m.took=.slice p n c) (w:World) (hs:St w0 S ((b,maO m)::rest) w) :
  Calls Tryz.prog 171 #[.pointer (some ⟨b,0,none⟩)] w (fun x w'=>∃ fs',(x=.returned (.tuple #[])∧fs'=(b,maO (m.setAsk 1 m.op m.took (.slice none 0 0)))::rest)∧St w0 S fs' w'):=by
 refine calls_anyO (calls_inlineP (K:=anyO fun x fs'=>x=.returned (.tuple #[])∧fs'=(b,maO (m.setAsk 1 m.op m.took (.slice none 0 0)))::rest) (args:=[_]) Tryz.func171 rfl Tryz.ntmps171 rfl ?_ hs)
 (refine zL<|vMz<|vMz<|vNz<|vFz<|vFz<|ldz rfl .head ma_rd20 ?_)
 refine LW.callSt (K:=fun v fs'=>v=.tuple #[]∧fs'=(b,maO (m.setAsk 1 m.op m.took (.slice none 0 0)))::rest) rfl rfl inferInstance (by (exact .cons rfl (.cons rfl (.cons rfl .nil)))) (fun w' hst=>Calls.mono (asks_calls w0 S b m 1 m.op rest ht w' hst) fun x w'' ⟨fs',hk,hst⟩=>⟨_,fs',hk.1,⟨rfl,hk.2⟩,hst⟩) ?_
 rintro v fs' ⟨rfl,rfl⟩
 (apply zV)
 refine inPI (.inr rfl) .nil rfl .nil rfl ⟨_,⟨rfl,rfl⟩,_,qO _,.refl _⟩
end
section
attribute [local irreducible] SL.inP
theorem FrO.toP {f:FrV} {L:FrL} {gs:Fs} (h:FrO f L gs):FrP f L gs:=by
 obtain ⟨g1,g2,g3,g4,g5,hp,h1,h2,h3,h4,h5⟩:=h
 exact ⟨g1,g2,g3,g4,g5,hp,h1,.inl h2,h3,h4,h5⟩
theorem FrP.st {f:FrV} {L:FrL} {gs fs:Fs} {w0 w:World} {S:List Nat} (h:FrP f L gs) (hs:St w0 S fs w) (hg:∀ p∈gs,p∈fs):FrRows w f L:=h.rows fun p hp=>(hs.own p (hg p hp)).2
def LayP (b:Nat) (m:MaV) (L:FrL) (l:List Nat) (rest:Fs):Out:=fun x fs'=>x=.returned (.tuple #[])∧∃ s k gs',FrO (m.fr.setR m.fr.gas s k) (L.setW (L.ws++l)) gs'∧fs'=(b,maO (m.setF (m.fr.setR m.fr.gas s k)))::(gs'++rest)
theorem layP_calls (w0:World) (S:List Nat) (b:Nat) (m:MaV) (L:FrL) (gs:Fs) (l:List Nat) (v:Value) (hok:okSc L.ws.length L.ms.length) (hll:l.length≤100000) (hge:L.ws.length+l.length≤64) (hfr:FrP m.fr L gs) (rest:Fs) (w:World)
  (hv:∀ w',St w0 S ((b,maO m)::(gs++rest)) w'→RowAt w' 4 v l.length (wcs l)) (hs:St w0 S ((b,maO m)::(gs++rest)) w) :
  Calls Tryz.prog 74 #[.pointer (some ⟨b,0,none⟩),v] w (fun x w'=>∃ fs',LayP b m L l rest x fs'∧St w0 S fs' w'):=by
 have h1:∀ w',St w0 S ((b,maO m)::(gs++rest)) w'→RowAt w' 4 m.fr.stk L.ws.length (wcs L.ws)∧RowAt w' 1 m.fr.mem L.ms.length (ucs L.ms)∧RowAt w' 4 v l.length (wcs l):=fun w' h=>by
  have hr:=hfr.st h fun p hp=>qQ _ (List.mem_append_left _ hp)
  exact ⟨hr.s,hr.m,hv w' h⟩
 refine Calls.mono (lay_ok w0 S b m L.ws L.ms l v (gs++rest) w hs h1 hok hll hge) ?_
 rintro x w' ⟨fs',⟨rfl,s,k,gs2,c4,⟨s',k',gg1,gg2,he,rfl,hw1,hb1⟩,rfl⟩,hst⟩
 cases he
 obtain ⟨g1,g2,g3,g4,g5,hp,hall⟩:=hfr
 replace hst:=hst.perm (fs':=c4::((gg2++gg1)++(b,maO (m.setSc s k))::((g1++(g2++(g3++(g4++g5))))++rest))) (List.Perm.cons _ (List.Perm.append_left _ (List.Perm.cons _ (hp.append_right rest))))
 refine ⟨_,⟨rfl,s,k,g1++(gg1++(gg2++(g4++g5))),⟨g1,gg1,gg2,g4,g5,.refl _,hall.1,hw1,hb1,hall.2.2.2.1,hall.2.2.2.2⟩,rfl⟩,SubP.st ?_ hst⟩
 simp only [List.append_assoc,List.cons_append,List.nil_append]
 exact subp_ix [[_],gg2,gg1,[_],g1,g2,g3,g4,g5] (xs:=[3,4,2,1,7,8]) (ys:=[0,1,2,3,4,5,6,7,8]) rest rfl
theorem reachP_ok (w0:World) (S:List Nat) (b:Nat) (m:MaV) (L:FrL) (gs:Fs) (a n:Nat) (ha:a < M256) (hn0:0 < n) (hn:n < M256) (hE2:endV a n≤1024) (hok:okSc L.ws.length L.ms.length) (hg:m.fr.gas < 18446744073709551616) (hfr:FrP m.fr L gs) (rest:Fs) (w:World) (hs:St w0 S ((b,maO m)::(gs++rest)) w)
  (hcost:memV L.ms.length (endV a n)≤m.fr.gas) :
  Calls Tryz.prog 77 #[.pointer (some ⟨b,0,none⟩),wv a,wv n] w (fun x w'=>∃ fs',(x=.returned (.tuple #[.int .u64 (a:Int),.int .u64 (n:Int)])∧∃ s k gs',FrO { m.fr with gas:=m.fr.gas - memV L.ms.length (endV a n),stk:=s,mem:=k } (L.setM (L.ms++List.replicate (upW (endV a n) - L.ms.length) 0)) gs'∧fs'=(b,maO ((m.setGas (m.fr.gas - memV L.ms.length (endV a n))).setSc s k))::(gs'++rest))∧St w0 S fs' w'):=by
 have hfrR:=hfr
 obtain ⟨g1,g2,g3,g4,g5,hp,hall⟩:=hfr
 replace hs:St w0 S ((b,maO m)::(g1++(g2++(g3++(g4++g5)))++rest)) w:=hs.perm (List.Perm.cons _ (hp.append_right rest))
 have hfr2:FrP m.fr L (g1++(g2++(g3++(g4++g5)))):=⟨g1,g2,g3,g4,g5,.refl _,hall⟩
 clear hp
 obtain ⟨_,_,hm3,_,_⟩:=id hall
 unfold bM at hm3
 obtain ⟨p2,c2,hmv⟩:=hm3.form
 have hk:L.ms.length≤1024:=hok.2.1
 have hmem:∀ {E fr},Rd Tryz.prog 22 (.cells (mca m) E fr) 3 (.slice p2 L.ms.length c2):=fun {E fr}=>by rw [← hmv];exact ma_rd3
 have hEnd0:=End_calls a n ha hn
 have hMem0:=Memory_calls L.ms.length (endV a n) (by omega) (by omega)
 have hEa:a+n≤endV a n:=by
  unfold endV at hE2 ⊢
  rw [if_neg (by omega)] at hE2 ⊢
  unfold NOG at hE2 ⊢
  omega
 have hSa0:=Small_calls a ha
 have hSn0:=Small_calls n hn
 obtain ⟨E,hE⟩:∃ E,E=endV a n:=⟨_,rfl⟩
 rw [← hE] at hEnd0 hMem0 hE2 hcost hEa ⊢
 clear hE
 obtain ⟨c,hc⟩:∃ c,c=memV L.ms.length E:=⟨_,rfl⟩
 rw [← hc] at hMem0 hcost ⊢
 clear hc
 rw [if_pos (by omega),decide_eq_true (by omega)] at hSa0 hSn0
 have hEnd:∀ w,Calls Tryz.prog 120 #[wv a,wv n] w (Ret w (.int .u64 (E:Int))):=hEnd0
 have hMem:∀ w,Calls Tryz.prog 121 #[.int .u64 (L.ms.length:Int),.int .u64 (E:Int)] w (Ret w (.int .u64 (c:Int))):=hMem0
 have hSa:∀ w,Calls Tryz.prog 116 #[wv a] w (Ret w (.tuple #[.int .u64 (a:Int),.bool true])):=hSa0
 have hSn:∀ w,Calls Tryz.prog 116 #[wv n] w (Ret w (.tuple #[.int .u64 (n:Int),.bool true])):=hSn0
 have hsp:spendM m [c]=some (m.setGas (m.fr.gas - c)):=by unfold spendM;rw [if_pos (by simp;omega)];simp
 refine calls_anyO (calls_inlineP (K:=anyO fun x fs'=>x=.returned (.tuple #[.int .u64 (a:Int),.int .u64 (n:Int)])∧∃ s k gs',FrO { m.fr with gas:=m.fr.gas - c,stk:=s,mem:=k } (L.setM (L.ms++List.replicate (upW E - L.ms.length) 0)) gs'∧fs'=(b,maO ((m.setGas (m.fr.gas - c)).setSc s k))::(gs'++rest)) (args:=[_,_,_]) Tryz.func77 rfl Tryz.ntmps77 rfl ?_ hs)
 (refine sRz ?_;apply zT;rfl;rfl;intro _;apply zT;rfl;rfl;intro _;refine vAz<|vAz<|nSz<|ldz rfl (.tail .head) (qH rfl)<|ldz rfl .head (qH rfl) ?_;apply zS;rfl;rfl;infer_instance;exact .cons rfl (.cons rfl .nil);intro w _;exact hEnd w;refine vAz<|nSz<|vMz<|vMz<|vNz<|vFz<|vFz<|vFz<|ldz rfl (.tail (.tail .head)) hmem<|lvz (.lenR rfl inferInstance rfl) ?_;refine lvz (.convN rfl (by omega) (by omega)) ?_;refine vMz ?_;apply zS;rfl;rfl;infer_instance;exact .cons rfl (.cons rfl .nil);intro w _;exact hMem w;apply LW.lay1;rfl;infer_instance;infer_instance;rfl;rfl;rfl;rfl;rfl;rfl;intro _)
 rename_i b4 b5 b29
 refine LW.perm (fs':=(b,maO m)::(b29,.cells #[.int .u64 (c:Int)] 26 (0,0))::(b5,.cells (wc n) 29 (0,0))::(b4,.cells (wc a) 29 (0,0))::(g1++(g2++(g3++(g4++g5)))++rest)) (by exact (List.perm_middle (l₁:=[_,_,_])).symm) ?_
 refine LW.callP (K:=MaK b m (spendM m [c]) _) rfl rfl inferInstance (by (exact .cons rfl (.cons rfl .nil))) rfl (fun fs h=>?_) (fun w' hst=>spend_calls w0 S b m [c] hg _ _ w' hst (fun w2 h2=>row_cells (h2.own (b29,_) (List.Mem.tail _ (List.Mem.head _))).2 rfl rfl (by simp [maxLen]))) ?_ ?_
 ·rw [hsp] at h;cases h.1
 ·rintro v fs' h
  rw [hsp] at h
  obtain ⟨h,rfl⟩:=h
  have hmem:∀ {E fr},Rd Tryz.prog 22 (.cells (mca (m.setGas (m.fr.gas - c))) E fr) 3 (.slice p2 L.ms.length c2):=fun {E fr}=>by rw [← hmv];exact ma_rd3 (m:=m.setGas (m.fr.gas - c))
  (refine nNz<|zI<|sRz<|vMz ?_;refine lvz (.eqF rfl rfl (by omega)) ?_;refine nNz<|cFz<|zJ<|thenN<|sRz<|vMz<|vNz<|vFz<|vFz<|ldz rfl .head ma_rd2<|vMz ?_)
  (apply LW.callR;rfl;rfl;infer_instance;exact .cons rfl (.cons rfl (.cons rfl .nil));intro w hs)
  exact grow_ok L.ws L.ms E _ _ w (hfr2.st hs (fun p hp=>qQ _ (by simp only [List.mem_cons,List.mem_append] at hp ⊢;simp [hp]))).s (hfr2.st hs (fun p hp=>qQ _ (by simp only [List.mem_cons,List.mem_append] at hp ⊢;simp [hp]))).m hok (by omega) hE2
  rintro vo gso ⟨o,rfl,s1,m1,gg1,gg2,rfl,rfl,hw1,hb1⟩
  have hw1':=hw1
  have hb1':=hb1
  unfold wM at hw1'
  unfold bM at hb1'
  obtain ⟨q1,k1,rfl⟩:=hw1'.form
  obtain ⟨q2,k2,rfl⟩:=hb1'.form
  (refine vMz ?_;refine vEz ?_;refine vEz ?_;apply zU;rfl;intro _;refine zR rfl rfl .head (.whole rfl rfl rfl)<|vAz<|nSz<|vMz ?_;refine lvz (.eqT rfl rfl (by omega)) ?_;apply zS;rfl;rfl;infer_instance;exact .cons rfl .nil;intro w _;exact need_true w;refine nSz<|vMz<|ldz rfl .head (qH rfl)<|vNz<|vFz<|vFz ?_;refine zR rfl rfl (.tail (.app .head)) (ma_wr2 rfl rfl rfl rfl)<|nSz<|ldz rfl (.tail (.app (.tail (.tail (.tail .head))))) (qH rfl) ?_;apply zS;rfl;rfl;infer_instance;exact .cons rfl .nil;intro w _;exact hSa w;refine vMz ?_;refine vEz ?_;refine vEz ?_;refine vAz<|vAz<|nSz<|ldz rfl (.tail (.app (.tail (.tail .head)))) (qH rfl) ?_;apply zS;rfl;rfl;infer_instance;exact .cons rfl .nil;intro w _;exact hSn w;refine vMz ?_;refine vEz ?_;refine vEz ?_;refine vAz<|vAz<|nSz<|vMz<|vMz<|vAz<|vAz<|nNz<|zK ?_)
  refine inPI (.inl rfl) .nil rfl (by (apply zD;exact zG rfl;apply zD;exact zG rfl;exact zF)) rfl ⟨_,⟨rfl,_,_,g1++(gg1++(gg2++(g4++g5))),⟨g1,gg1,gg2,g4,g5,.refl _,hall.1,hw1,hb1,hall.2.2.2.1,hall.2.2.2.2⟩,rfl⟩,?_⟩
  simp only [List.append_assoc,List.cons_append,List.nil_append]
  exact subp_ix [[_],[_],gg2,gg1,[_],[_],[_],g1,g2,g3,g4,g5] (xs:=[4,7,3,2,10,11]) (ys:=[0,2,3,4,1,5,6,7,8,9,10,11]) rest rfl
 ·rintro ch fs' h
  rw [hsp] at h;cases h.1
def ReachP (b:Nat) (m:MaV) (L:FrL) (a n:Nat) (rest:Fs):Out:=fun x fs' =>
 (m.fr.gas < costR L a n∧x=.panicked failC∧fs'=rest) ∨
 (costR L a n≤m.fr.gas∧∃ s k gs',x=.returned (.tuple #[.int .u64 ((if n=0 then 0 else a:Nat):Int),.int .u64 (n:Int)])∧FrP (frR m.fr L a n s k) (memR L a n) gs'∧fs'=(b,maO (m.setF (frR m.fr L a n s k)))::(gs'++rest))
theorem reachP_calls (w0:World) (S:List Nat) (b:Nat) (m:MaV) (L:FrL) (gs:Fs) (a n:Nat) (ha:a < M256) (hn:n < M256) (hok:okSc L.ws.length L.ms.length) (hg:m.fr.gas≤20000) (hfr:FrP m.fr L gs) (rest:Fs) (w:World) (hs:St w0 S ((b,maO m)::(gs++rest)) w) :
  Calls Tryz.prog 77 #[.pointer (some ⟨b,0,none⟩),wv a,wv n] w (fun x w'=>∃ fs',ReachP b m L a n rest x fs'∧St w0 S fs' w'):=by
 have hk:L.ms.length≤1024:=hok.2.1
 have hm:∃ p2 c2,m.fr.mem=.slice p2 L.ms.length c2:=by
  obtain ⟨g1,g2,g3,g4,g5,_,h1,h2,h3,h4,h5⟩:=hfr
  unfold bM at h3
  exact h3.form
 obtain ⟨p2,c2,hm⟩:=hm
 rcases Nat.lt_or_ge m.fr.gas (costR L a n) with hlt|hge
 ·refine Calls.mono (reach_gas w0 S b m a n L.ms.length p2 c2 ha hn (endV_lt a n) hk (by omega) hm (gs++rest) w hs hlt) ?_
  rintro x w' ⟨fs',⟨rfl,ex,rfl⟩,hst⟩
  exact ⟨_,.inl ⟨hlt,rfl,rfl⟩,st_sub hst (qS _ ((List.sublist_append_right _ _).trans (List.sublist_append_right _ _)))⟩
 ·rcases Nat.eq_zero_or_pos n with rfl|hn0
  ·refine Calls.mono (reach_none w0 S b m a 0 L.ms.length rfl p2 c2 ha hk (by omega) hm (gs++rest) w hs) ?_
   rintro x w' ⟨fs',⟨rfl,ex,rfl⟩,hst⟩
   have he:endV a 0=0:=by simp [endV]
   have hc:costR L a 0=0:=by unfold costR;rw [he];simp [memV]
   have hmr:memR L a 0=L:=by unfold memR FrL.setM;rw [he];simp [upW]
   have hfr2:frR m.fr L a 0 m.fr.stk m.fr.mem=m.fr:=by unfold frR;rw [hc];rfl
   refine ⟨_,.inr ⟨hge,m.fr.stk,m.fr.mem,gs,rfl,?_,?_⟩,st_sub hst (List.Sublist.cons_cons _ (List.sublist_append_right ex _))⟩
   ·rw [hmr,hfr2];exact hfr
   ·rw [hfr2];rfl
  ·refine Calls.mono (reachP_ok w0 S b m L gs a n ha hn0 hn (memV_le hk hg hge) hok (by omega) hfr rest w hs hge) ?_
   rintro x w' ⟨fs',⟨rfl,s,k,gs',h1,rfl⟩,hst⟩
   refine ⟨_,.inr ⟨hge,s,k,gs',?_,h1.toP,rfl⟩,hst⟩
   rw [if_neg (by omega)]
theorem reach_in {L:FrL} {a n g:Nat} (hg:g≤20000) (hok:okSc L.ws.length L.ms.length) (h:costR L a n≤g):okSc (memR L a n).ws.length (memR L a n).ms.length∧(0 < n→a+n≤(memR L a n).ms.length):=by
 have hE:endV a n≤1024:=memV_le hok.2.1 hg h
 obtain ⟨h1,h2,h3⟩:=hok
 have hl:(memR L a n).ms.length=L.ms.length+(upW (endV a n) - L.ms.length):=by
  unfold memR FrL.setM
  simp
 have hu:upW (endV a n)≤1024∧endV a n≤upW (endV a n)∧upW (endV a n) % 32=0:=by
  unfold upW
  omega
 refine ⟨⟨h1,by rw [hl];omega,by rw [hl];omega⟩,fun hn=>?_⟩
 have hEa:a+n≤endV a n:=by
  unfold endV at hE ⊢
  rw [if_neg (by omega)] at hE ⊢
  unfold NOG at hE ⊢
  omega
 rw [hl]
 omega
end
section
open CK (LW.copyFull)
def winL (bs:List UInt8) (a n:Nat):List UInt8:=(List.range n).map fun i=>bs.getD (a+i) 0
theorem winL_len (bs:List UInt8) (a n:Nat):(winL bs a n).length=n:=by simp [winL]
theorem winL_eq (bs:List UInt8) (a n:Nat):winL bs a n=(bs.drop a).take n++List.replicate (n - (bs.length - a)) 0:=by
 unfold winL
 refine List.ext_getElem? fun i=>?_
 rw [List.getElem?_map,List.getElem?_append,List.length_take,List.length_drop]
 rcases Nat.lt_or_ge i n with h|h
 ·rw [List.getElem?_range h,Option.map_some,List.getD_eq_getElem?_getD]
  split
  ·rename_i h2
   rw [List.getElem?_take,if_pos h,List.getElem?_drop,List.getElem?_eq_getElem (show a+i < bs.length by omega)];rfl
  ·rename_i h2
   rw [List.getElem?_replicate,if_pos (by omega),List.getElem?_eq_none (show bs.length≤a+i by omega)];rfl
 ·rw [List.getElem?_eq_none (by simp;omega),Option.map_none]
  split
  ·omega
  ·rw [List.getElem?_replicate,if_neg (by omega)]
theorem winL_far {bs:List UInt8} {a n:Nat} (h:bs.length≤a):winL bs a n=List.replicate n 0:=by
 rw [winL_eq,List.drop_eq_nil_of_le h,show n - (bs.length - a)=n by omega]
 simp
def layL (ms:List UInt8) (a:Nat) (l:List UInt8):List UInt8:=ms.take a++l++ms.drop (a+l.length)
theorem layL_nil (ms:List UInt8) (a:Nat):layL ms a []=ms:=by simp [layL]
theorem layL_len {ms:List UInt8} {a:Nat} {l:List UInt8} (h:l=[]∨a+l.length≤ms.length):(layL ms a l).length=ms.length:=by
 rcases h with rfl|h
 ·rw [layL_nil]
 ·simp only [layL,List.length_append,List.length_take,List.length_drop]
  omega
def WinR (l:List UInt8) (r:Value) (gs:Fs):Prop:=∃ o,r=.tuple #[o,.int .i64 0]∧bM l o gs
theorem Window_calls (bs:List UInt8) (a n:Nat) (hn:n≤1024) (ha:a < 18446744073709551616) (hb:bs.length≤100000) (v:Value) (w:World) (hv:RowAt w 1 v bs.length (ucs bs)):Calls Tryz.prog 220 #[v,.int .u64 (a:Int),.int .u64 (n:Int)] w (RetG w [] (WinR (winL bs a n))):=by
 obtain ⟨p,c,rfl,_,_⟩:=id hv.form
 obtain ⟨T,hT⟩:∃ T,winL bs a n=T:=⟨_,rfl⟩
 have hTl:T.length=n:=by rw [← hT];exact winL_len bs a n
 rw [hT]
 have fin:∀ (g:Nat) (cur:Array Value),cur.toList=ucs T→bM T (.slice (some ⟨g,0,none⟩) n n) [(g,.cells cur 5 (0,0))]:=fun g cur hc=>by
  have h1:cur.size=n:=by rw [← Array.length_toList,hc,ucs_len,hTl]
  unfold bM
  rw [hTl]
  exact IsRow.own (Nat.le_refl _) (by simp only [maxLen];omega) (by rw [h1,Nat.mul_one]) (by rw [hc];exact List.take_of_length_le (by rw [ucs_len,hTl,Nat.mul_one];exact Nat.le_refl _)) (by rw [ucs_len,hTl,Nat.mul_one])
 refine enter (args:=[_,_,_]) _ [] [] Tryz.func220 rfl Tryz.ntmps220 rfl (by simp) .nil ?_
 (refine sRz<|vAz<|vAz<|nNz<|zI<|sRz<|vMz ?_;refine lvz (.gtrF rfl rfl (by omega)) ?_;refine nNz<|cFz<|zJ<|thenN<|sRz<|vMz ?_)
 refine LW.makeOwn rfl inferInstance inferInstance inferInstance rfl rfl (by omega) (by simp only [maxLen];omega) fun g=>?_
 have hz0:(List.replicate n (Value.int .u8 0))=ucs (List.replicate n 0):=(ucs_zero _).symm
 rcases Nat.lt_or_ge a bs.length with hlt|hge
 ·have hcut:=RowAt.drop (k:=a) hv (by omega)
  rw [ucs_drop] at hcut
  (refine vAz<|nNz<|zI<|sRz<|vMz<|vMz<|lvz (.lenR rfl inferInstance rfl) ?_;refine lvz (.convN rfl (by omega) (by omega)) ?_;refine lvz (.lssT rfl rfl (by omega)) ?_;refine nNz<|cTz<|zL<|vMz<|vMz<|vMz ?_;refine lvz (.cutFrom inferInstance inferInstance rfl rfl (by omega)) ?_)
  rcases Nat.eq_zero_or_pos n with rfl|hn0
  ·(apply LW.copyNone;rfl;rfl;infer_instance;infer_instance;infer_instance;rfl;rfl;exact Nat.min_zero _)
   (refine nSz<|vMz<|vAz<|vAz<|nNz<|zK ?_)
   have hc:(List.replicate 0 (Value.int .u8 0)).toArray.toList=ucs T:=by
    rw [List.length_eq_zero_iff.1 hTl];rfl
   exact SL.fin (vs:=[.slice (some ⟨g,0,none⟩) 0 0,.int .i64 0]) [(g,.cells (List.replicate 0 (Value.int .u8 0)).toArray 5 (0,0))] (.inl rfl) rfl rfl (by (apply zD;exact zG rfl;apply zD;exact zG rfl;exact zF)) (qO _) ⟨_,rfl,fin g _ hc⟩
  ·rcases Nat.lt_or_ge (bs.length - a) n with hsh|hfull
   ·refine LW.copyAt (cur:=(List.replicate n (Value.int .u8 0)).toArray) (E':=5) (m:=bs.length - a) (news:=ucs (bs.drop a)) rfl rfl inferInstance inferInstance inferInstance rfl rfl (fun w' hst=>hcut.st hst) (ucs_cells _) (by omega) (by simp;omega) (by (apply qA)) ?_
    have hc:((List.replicate n (Value.int .u8 0)).toArray.toList.take 0++ucs (bs.drop a)++(List.replicate n (Value.int .u8 0)).toArray.toList.drop (0+(bs.length - a))).toArray.toList=ucs T:=by
     rw [← hT,winL_eq,ucs_app,ucs_zero,List.take_of_length_le (show (bs.drop a).length≤n by rw [List.length_drop];omega)]
     simp
    (refine nSz<|vMz<|vAz<|vAz<|nNz<|zK ?_)
    exact SL.fin (vs:=[.slice (some ⟨g,0,none⟩) n n,.int .i64 0]) [(g,_)] (.inl rfl) rfl rfl (by (apply zD;exact zG rfl;apply zD;exact zG rfl;exact zF)) (qO _) ⟨_,rfl,fin g _ hc⟩
   ·refine LW.copyFull (cur:=(List.replicate n (Value.int .u8 0)).toArray) (E':=5) (m:=bs.length - a) (news:=ucs (bs.drop a)) rfl rfl inferInstance inferInstance inferInstance rfl rfl (fun w' hst=>hcut.st hst) (ucs_cells _) hn0 (by omega) (by simp) (by (apply qA)) ?_
    have hc:((List.replicate n (Value.int .u8 0)).toArray.toList.take 0++(ucs (bs.drop a)).take n++(List.replicate n (Value.int .u8 0)).toArray.toList.drop (0+n)).toArray.toList=ucs T:=by
     rw [← hT,winL_eq,ucs_app,ucs_zero,show n - (bs.length - a)=0 by omega,← ucs_take,Nat.mul_one]
     simp
    (refine nSz<|vMz<|vAz<|vAz<|nNz<|zK ?_)
    exact SL.fin (vs:=[.slice (some ⟨g,0,none⟩) n n,.int .i64 0]) [(g,_)] (.inl rfl) rfl rfl (by (apply zD;exact zG rfl;apply zD;exact zG rfl;exact zF)) (qO _) ⟨_,rfl,fin g _ hc⟩
 ·(refine vAz<|nNz<|zI<|sRz<|vMz<|vMz<|lvz (.lenR rfl inferInstance rfl) ?_;refine lvz (.convN rfl (by omega) (by omega)) ?_;refine lvz (.lssF rfl rfl (by omega)) ?_;refine nNz<|cFz<|zJ<|thenN<|sRz<|vMz<|vAz<|vAz<|nNz<|zK ?_)
  have hc:(List.replicate n (Value.int .u8 0)).toArray.toList=ucs T:=by
   rw [← hT,winL_far hge,ucs_zero]
  exact SL.fin (vs:=[.slice (some ⟨g,0,none⟩) n n,.int .i64 0]) [(g,.cells (List.replicate n (Value.int .u8 0)).toArray 5 (0,0))] (.inl rfl) rfl rfl (by (apply zD;exact zG rfl;apply zD;exact zG rfl;exact zF)) (qO _) ⟨_,rfl,fin g _ hc⟩
theorem window_calls (bs:List UInt8) (a n:Nat) (hn:n≤1024) (ha:a < M256) (hb:bs.length≤100000) (v:Value) (w:World) (hv:RowAt w 1 v bs.length (ucs bs)):Calls Tryz.prog 203 #[v,wv a,.int .u64 (n:Int)] w (RetG w [] (bM (winL bs a n))):=by
 obtain ⟨p,c,rfl,_,_⟩:=id hv.form
 have hSm0:=Small_calls a ha
 rcases Nat.lt_or_ge a 18446744073709551616 with hlt|hge
 ·rw [if_pos hlt,decide_eq_true hlt] at hSm0
  have hSm:∀ w,Calls Tryz.prog 116 #[wv a] w (Ret w (.tuple #[.int .u64 (a:Int),.bool true])):=hSm0
  refine enter (args:=[_,_,_]) _ [] [] Tryz.func203 rfl Tryz.ntmps203 rfl (by simp) .nil ?_
  (refine sRz ?_;apply zT;rfl;rfl;intro _;refine vAz<|nSz<|ldz rfl .head (qH rfl) ?_;apply zS;rfl;rfl;infer_instance;exact .cons rfl .nil;intro w _;exact hSm w;refine vMz ?_;refine vEz ?_;refine vEz ?_;refine vAz<|vAz<|nNz<|zI<|sRz<|vMz ?_;refine lvz (.notT rfl (by with_reducible rfl)) ?_;refine nNz<|cFz<|zJ<|thenN<|sRz<|vMz<|vMz<|vMz ?_)
  (apply LW.callR;rfl;rfl;infer_instance;exact .cons rfl (.cons rfl (.cons rfl .nil));intro w hs)
  exact Window_calls bs a n hn hlt hb _ w (hv.st hs)
  rintro _ g ⟨o,rfl,ho⟩
  have ho':=ho
  unfold bM at ho'
  obtain ⟨q,k,rfl⟩:=ho'.form
  (refine vMz ?_;refine vEz ?_;refine vEz ?_;refine vAz<|vAz<|nSz<|vMz ?_;refine lvz (.eqT rfl rfl (by omega)) ?_;apply zS;rfl;rfl;infer_instance;exact .cons rfl .nil;intro w _;exact need_true w;refine nSz<|vMz<|vAz<|nNz<|zK ?_)
  exact SL.fin (vs:=[.slice q _ k]) g (.inl rfl) rfl rfl (by (apply zD;exact zG rfl;exact zF)) (qR _ _) ho
 ·rw [if_neg (by omega),decide_eq_false (by omega)] at hSm0
  have hSm:∀ w,Calls Tryz.prog 116 #[wv a] w (Ret w (.tuple #[.int .u64 ((0:Nat):Int),.bool false])):=hSm0
  have hw:winL bs a n=winL [] 0 n:=by rw [winL_far (by omega),winL_far (Nat.zero_le _)]
  rw [hw]
  refine enter (args:=[_,_,_]) _ [] [] Tryz.func203 rfl Tryz.ntmps203 rfl (by simp) .nil ?_
  (refine sRz ?_;apply zT;rfl;rfl;intro _;refine vAz<|nSz<|ldz rfl .head (qH rfl) ?_;apply zS;rfl;rfl;infer_instance;exact .cons rfl .nil;intro w _;exact hSm w;refine vMz ?_;refine vEz ?_;refine vEz ?_;refine vAz<|vAz<|nNz<|zI<|sRz<|vMz ?_;refine lvz (.notF rfl (by with_reducible rfl)) ?_;refine nNz<|cTz<|zL<|vAz<|nSz<|vMz<|vMz<|vMz ?_)
  (apply LW.callR;rfl;rfl;infer_instance;exact .cons rfl (.cons rfl (.cons rfl .nil));intro w hs)
  exact Window_calls [] 0 n hn (by omega) (by simp) _ w .nil
  rintro _ g ⟨o,rfl,ho⟩
  have ho':=ho
  unfold bM at ho'
  obtain ⟨q,k,rfl⟩:=ho'.form
  (refine vMz ?_;refine vEz ?_;refine vEz ?_;refine vAz<|vAz<|nSz<|vMz ?_;refine lvz (.eqT rfl rfl (by omega)) ?_;apply zS;rfl;rfl;infer_instance;exact .cons rfl .nil;intro w _;exact need_true w;refine nSz<|vMz<|vAz<|nNz<|zK ?_)
  exact SL.fin (vs:=[.slice q _ k]) g (.inl rfl) rfl rfl (by (apply zD;exact zG rfl;exact zF)) (qR _ _) ho
end
section
theorem first1_calls (a:Nat) (t:Bool) (w:World):Calls Tryz.prog 138 #[wv a,.bool t] w (Ret w (wv a)):=by
 refine enter (args:=[_,_]) _ [] [] Tryz.func138 rfl Tryz.ntmps138 rfl (by simp) .nil ?_
 (refine sRz ?_;apply zT;rfl;rfl;intro _;apply LW.allocW;rfl;intro _;refine nSz<|ldz rfl (.tail .head) (qH rfl) ?_;apply zR;rfl;rfl;apply qA;apply Wr.whole;rfl;rfl;rfl;refine nNz<|zK ?_)
 (apply finR;exact .inl rfl;rfl;rfl;rfl;apply zD;apply zH;rfl;apply qG;apply zY;exact qH rfl;exact zF)
 rfl
theorem first2_calls (a b:Nat) (w:World):Calls Tryz.prog 142 #[wv a,wv b] w (Ret w (wv a)):=by
 refine enter (args:=[_,_]) _ [] [] Tryz.func142 rfl Tryz.ntmps142 rfl (by simp) .nil ?_
 (refine sRz ?_;apply zT;rfl;rfl;intro _;apply zT;rfl;rfl;intro _;apply LW.allocW;rfl;intro _;refine nSz<|ldz rfl (.tail (.tail .head)) (qH rfl) ?_;apply zR;rfl;rfl;apply qA;apply Wr.whole;rfl;rfl;rfl;refine nNz<|zK ?_)
 (apply finR;exact .inl rfl;rfl;rfl;rfl;apply zD;apply zH;rfl;apply qG;apply zY;exact qH rfl;exact zF)
 rfl
theorem truth_calls (t:Bool) (w:World):Calls Tryz.prog 147 #[.bool t] w (Ret w (wv (if t then 1 else 0))):=by
 refine enter (args:=[_]) _ [] [] Tryz.func147 rfl Tryz.ntmps147 rfl (by simp) .nil ?_
 cases t with
 |true =>
  (refine sRz ?_;apply LW.allocW;rfl;intro _;refine nNz<|zI<|sRz<|vMz<|nNz<|cTz<|sRz ?_;apply zS;rfl;rfl;infer_instance;exact .cons rfl .nil;intro w _;exact Of_calls 1 (by decide) w;apply zR;rfl;rfl;apply qA;apply Wr.whole;rfl;rfl;rfl;refine nNz<|zK<|thenR ?_)
  (apply finR;exact .inl rfl;rfl;rfl;rfl;apply zD;apply zH;rfl;apply qG;apply zY;exact qH rfl;exact zF)
  rfl
 |false =>
  (refine sRz ?_;apply LW.allocW;rfl;intro _;refine nNz<|zI<|sRz<|vMz<|nNz<|cFz<|zJ<|thenN<|sRz ?_;apply zS;rfl;rfl;infer_instance;exact .cons rfl .nil;intro w _;exact Of_calls 0 (by decide) w;apply zR;rfl;rfl;apply qA;apply Wr.whole;rfl;rfl;rfl;refine nNz<|zK ?_)
  (apply finR;exact .inl rfl;rfl;rfl;rfl;apply zD;apply zH;rfl;apply qG;apply zY;exact qH rfl;exact zF)
  rfl
def halfV (op a b:Nat):Nat :=
 if op=1 then (a+b) % M256 else if op=3 then (a+M256 - b) % M256 else if op=2 then a * b % M256 else if op=4 then (if b=0 then 0 else a / b) else if op=6 then (if b=0 then 0 else a % b) else if op=22 then a &&& b else if op=23 then a |||b else if op=24 then a ^^^ b else if op=27 then b * 2 ^ min a 256 % M256 else if op=28 then b / 2 ^ min a 256 else if op=16 then (if a < b then 1 else 0) else if op=17 then (if b < a then 1 else 0) else (if a=b then 1 else 0)
section
variable (a b : Nat) (ha : a < M256) (hb : b < M256) (w : World)
include ha hb
theorem half1_calls:Calls Tryz.prog 137 #[wv a,wv b] w (Ret w (wv ((a+b) % M256))):=by
 refine enter (args:=[_,_]) _ [] [] Tryz.func137 rfl Tryz.ntmps137 rfl (by simp) .nil ?_
 (refine sRz ?_;apply zT;rfl;rfl;intro _;apply zT;rfl;rfl;intro _;apply LW.allocW;rfl;intro _;refine nSz<|ldz rfl (.tail (.tail .head)) (qH rfl)<|ldz rfl (.tail .head) (qH rfl) ?_;apply zS;rfl;rfl;infer_instance;exact .cons rfl (.cons rfl .nil);intro w _;exact Add_calls a b ha hb w;refine vEz ?_;refine vEz ?_;apply zS;rfl;rfl;infer_instance;exact .cons rfl (.cons rfl .nil);intro w _;exact first1_calls _ _ w;apply zR;rfl;rfl;apply qA;apply Wr.whole;rfl;rfl;rfl;refine nNz<|zK ?_)
 (apply finR;exact .inl rfl;rfl;rfl;rfl;apply zD;apply zH;rfl;apply qG;apply zY;exact qH rfl;exact zF)
 rfl
theorem half2_calls:Calls Tryz.prog 139 #[wv a,wv b] w (Ret w (wv ((a+M256 - b) % M256))):=by
 refine enter (args:=[_,_]) _ [] [] Tryz.func139 rfl Tryz.ntmps139 rfl (by simp) .nil ?_
 (refine sRz ?_;apply zT;rfl;rfl;intro _;apply zT;rfl;rfl;intro _;apply LW.allocW;rfl;intro _;refine nSz<|ldz rfl (.tail (.tail .head)) (qH rfl)<|ldz rfl (.tail .head) (qH rfl) ?_;apply zS;rfl;rfl;infer_instance;exact .cons rfl (.cons rfl .nil);intro w _;exact Sub_calls a b ha hb w;refine vEz ?_;refine vEz ?_;apply zS;rfl;rfl;infer_instance;exact .cons rfl (.cons rfl .nil);intro w _;exact first1_calls _ _ w;apply zR;rfl;rfl;apply qA;apply Wr.whole;rfl;rfl;rfl;refine nNz<|zK ?_)
 (apply finR;exact .inl rfl;rfl;rfl;rfl;apply zD;apply zH;rfl;apply qG;apply zY;exact qH rfl;exact zF)
 rfl
theorem half3_calls:Calls Tryz.prog 140 #[wv a,wv b] w (Ret w (wv (a * b % M256))):=by
 refine enter (args:=[_,_]) _ [] [] Tryz.func140 rfl Tryz.ntmps140 rfl (by simp) .nil ?_
 (refine sRz ?_;apply zT;rfl;rfl;intro _;apply zT;rfl;rfl;intro _;apply LW.allocW;rfl;intro _;refine nSz<|ldz rfl (.tail (.tail .head)) (qH rfl)<|ldz rfl (.tail .head) (qH rfl) ?_;apply zS;rfl;rfl;infer_instance;exact .cons rfl (.cons rfl .nil);intro w _;exact Mul_calls a b ha hb w;refine vEz ?_;refine vEz ?_;apply zS;rfl;rfl;infer_instance;exact .cons rfl (.cons rfl .nil);intro w _;exact first1_calls _ _ w;apply zR;rfl;rfl;apply qA;apply Wr.whole;rfl;rfl;rfl;refine nNz<|zK ?_)
 (apply finR;exact .inl rfl;rfl;rfl;rfl;apply zD;apply zH;rfl;apply qG;apply zY;exact qH rfl;exact zF)
 rfl
theorem half4_calls:Calls Tryz.prog 141 #[wv a,wv b] w (Ret w (wv (if b=0 then 0 else a / b))):=by
 have hD:∀ w,Calls Tryz.prog 20 #[wv a,wv b] w (Ret w (.tuple #[wv (if b=0 then 0 else a / b),wv (if b=0 then 0 else a % b)])):=fun w=>by
  by_cases h0:b=0
  ·subst h0;exact Div_calls0 a w
  ·rw [if_neg h0,if_neg h0];exact Div_calls a b ha hb h0 w
 refine enter (args:=[_,_]) _ [] [] Tryz.func141 rfl Tryz.ntmps141 rfl (by simp) .nil ?_
 (refine sRz ?_;apply zT;rfl;rfl;intro _;apply zT;rfl;rfl;intro _;apply LW.allocW;rfl;intro _;refine nSz<|ldz rfl (.tail (.tail .head)) (qH rfl)<|ldz rfl (.tail .head) (qH rfl) ?_;apply zS;rfl;rfl;infer_instance;exact .cons rfl (.cons rfl .nil);intro w _;exact hD w;refine vEz ?_;refine vEz ?_;apply zS;rfl;rfl;infer_instance;exact .cons rfl (.cons rfl .nil);intro w _;exact first2_calls _ _ w;apply zR;rfl;rfl;apply qA;apply Wr.whole;rfl;rfl;rfl;refine nNz<|zK ?_)
 (apply finR;exact .inl rfl;rfl;rfl;rfl;apply zD;apply zH;rfl;apply qG;apply zY;exact qH rfl;exact zF)
 rfl
theorem half5_calls:Calls Tryz.prog 143 #[wv a,wv b] w (Ret w (wv (if b=0 then 0 else a % b))):=by
 have hD:∀ w,Calls Tryz.prog 20 #[wv a,wv b] w (Ret w (.tuple #[wv (if b=0 then 0 else a / b),wv (if b=0 then 0 else a % b)])):=fun w=>by
  by_cases h0:b=0
  ·subst h0;exact Div_calls0 a w
  ·rw [if_neg h0,if_neg h0];exact Div_calls a b ha hb h0 w
 refine enter (args:=[_,_]) _ [] [] Tryz.func143 rfl Tryz.ntmps143 rfl (by simp) .nil ?_
 (refine sRz ?_;apply zT;rfl;rfl;intro _;apply zT;rfl;rfl;intro _;apply LW.allocW;rfl;intro _;refine nSz<|ldz rfl (.tail (.tail .head)) (qH rfl)<|ldz rfl (.tail .head) (qH rfl) ?_;apply zS;rfl;rfl;infer_instance;exact .cons rfl (.cons rfl .nil);intro w _;exact hD w;refine vMz ?_;refine vEz ?_;refine vEz ?_;apply LW.allocW;rfl;intro _;apply LW.allocW;rfl;intro _;apply zR;rfl;rfl;apply qD;apply qA;apply Wr.whole;rfl;rfl;rfl;apply zR;rfl;rfl;apply qA;apply Wr.whole;rfl;rfl;rfl;refine nSz<|ldz rfl .head (qH rfl) ?_;apply zR;rfl;rfl;apply qD;apply qD;apply qA;apply Wr.whole;rfl;rfl;rfl;refine nNz<|zK ?_)
 (apply finR;exact .inl rfl;rfl;rfl;rfl;apply zD;apply zH;rfl;apply qG;apply zX;apply zX;apply zY;exact qH rfl;exact zF)
 rfl
theorem half6_calls:Calls Tryz.prog 144 #[wv a,wv b] w (Ret w (wv (b * 2 ^ min a 256 % M256))):=by
 refine enter (args:=[_,_]) _ [] [] Tryz.func144 rfl Tryz.ntmps144 rfl (by simp) .nil ?_
 (refine sRz ?_;apply zT;rfl;rfl;intro _;apply zT;rfl;rfl;intro _;apply LW.allocW;rfl;intro _;refine nSz<|ldz rfl (.tail .head) (qH rfl)<|ldz rfl (.tail (.tail .head)) (qH rfl) ?_;apply zS;rfl;rfl;infer_instance;exact .cons rfl (.cons rfl .nil);intro w _;exact Shl_calls b a hb ha w;apply zR;rfl;rfl;apply qA;apply Wr.whole;rfl;rfl;rfl;refine nNz<|zK ?_)
 (apply finR;exact .inl rfl;rfl;rfl;rfl;apply zD;apply zH;rfl;apply qG;apply zY;exact qH rfl;exact zF)
 rfl
theorem half7_calls:Calls Tryz.prog 145 #[wv a,wv b] w (Ret w (wv (b / 2 ^ min a 256))):=by
 refine enter (args:=[_,_]) _ [] [] Tryz.func145 rfl Tryz.ntmps145 rfl (by simp) .nil ?_
 (refine sRz ?_;apply zT;rfl;rfl;intro _;apply zT;rfl;rfl;intro _;apply LW.allocW;rfl;intro _;refine nSz<|ldz rfl (.tail .head) (qH rfl)<|ldz rfl (.tail (.tail .head)) (qH rfl) ?_;apply zS;rfl;rfl;infer_instance;exact .cons rfl (.cons rfl .nil);intro w _;exact Shr_calls b a hb ha w;apply zR;rfl;rfl;apply qA;apply Wr.whole;rfl;rfl;rfl;refine nNz<|zK ?_)
 (apply finR;exact .inl rfl;rfl;rfl;rfl;apply zD;apply zH;rfl;apply qG;apply zY;exact qH rfl;exact zF)
 rfl
theorem half8_calls:Calls Tryz.prog 146 #[wv a,wv b] w (Ret w (wv (if a < b then 1 else 0))):=by
 refine enter (args:=[_,_]) _ [] [] Tryz.func146 rfl Tryz.ntmps146 rfl (by simp) .nil ?_
 (refine sRz ?_;apply zT;rfl;rfl;intro _;apply zT;rfl;rfl;intro _;apply LW.allocW;rfl;intro _;refine nSz<|ldz rfl (.tail (.tail .head)) (qH rfl)<|ldz rfl (.tail .head) (qH rfl) ?_;apply zS;rfl;rfl;infer_instance;exact .cons rfl (.cons rfl .nil);intro w _;exact Cmp_calls a b ha hb w;refine lvz (.lss rfl rfl) ?_;apply zS;rfl;rfl;infer_instance;exact .cons rfl .nil;intro w _;exact truth_calls _ w;apply zR;rfl;rfl;apply qA;apply Wr.whole;rfl;rfl;rfl;refine nNz<|zK ?_)
 (apply finR;exact .inl rfl;rfl;rfl;rfl;apply zD;apply zH;rfl;apply qG;apply zY;exact qH rfl;exact zF)
 refine congrArg wv ?_
 by_cases h1:a < b<;>by_cases h2:b < a<;>simp [h1,h2]
theorem half9_calls:Calls Tryz.prog 148 #[wv a,wv b] w (Ret w (wv (if b < a then 1 else 0))):=by
 refine enter (args:=[_,_]) _ [] [] Tryz.func148 rfl Tryz.ntmps148 rfl (by simp) .nil ?_
 (refine sRz ?_;apply zT;rfl;rfl;intro _;apply zT;rfl;rfl;intro _;apply LW.allocW;rfl;intro _;refine nSz<|ldz rfl (.tail (.tail .head)) (qH rfl)<|ldz rfl (.tail .head) (qH rfl) ?_;apply zS;rfl;rfl;infer_instance;exact .cons rfl (.cons rfl .nil);intro w _;exact Cmp_calls a b ha hb w;refine lvz (.gtr rfl rfl) ?_;apply zS;rfl;rfl;infer_instance;exact .cons rfl .nil;intro w _;exact truth_calls _ w;apply zR;rfl;rfl;apply qA;apply Wr.whole;rfl;rfl;rfl;refine nNz<|zK ?_)
 (apply finR;exact .inl rfl;rfl;rfl;rfl;apply zD;apply zH;rfl;apply qG;apply zY;exact qH rfl;exact zF)
 refine congrArg wv ?_
 by_cases h1:a < b<;>by_cases h2:b < a<;>simp [h1,h2]<;>omega
theorem half10_calls:Calls Tryz.prog 149 #[wv a,wv b] w (Ret w (wv (if a=b then 1 else 0))):=by
 refine enter (args:=[_,_]) _ [] [] Tryz.func149 rfl Tryz.ntmps149 rfl (by simp) .nil ?_
 (refine sRz ?_;apply zT;rfl;rfl;intro _;apply zT;rfl;rfl;intro _;apply LW.allocW;rfl;intro _;refine nSz<|ldz rfl (.tail (.tail .head)) (qH rfl)<|ldz rfl (.tail .head) (qH rfl) ?_;refine lvz (.eqW rfl rfl (by assumption) (by assumption)) ?_;apply zS;rfl;rfl;infer_instance;exact .cons rfl .nil;intro w _;exact truth_calls _ w;apply zR;rfl;rfl;apply qA;apply Wr.whole;rfl;rfl;rfl;refine nNz<|zK ?_)
 (apply finR;exact .inl rfl;rfl;rfl;rfl;apply zD;apply zH;rfl;apply qG;apply zY;exact qH rfl;exact zF)
 refine congrArg wv ?_
 by_cases h1:a=b<;>simp [h1]
theorem halfs_calls {op i:Nat} {fid:FuncId} (h:halvesF op=some (i,fid)):FnI Tryz.prog fid∧∀ w,Calls Tryz.prog fid #[wv a,wv b] w (Ret w (wv (halfV op a b))):=by
 unfold halvesF at h
 unfold halfV
 by_cases h1:op=1
 ·rw [if_pos h1] at h;rw [if_pos h1]
  obtain ⟨-,rfl⟩:=Prod.mk.inj (Option.some.inj h)
  exact ⟨inferInstance,fun w=>half1_calls a b ha hb w⟩
 rw [if_neg h1] at h
 rw [if_neg h1]
 by_cases h3:op=3
 ·rw [if_pos h3] at h;rw [if_pos h3]
  obtain ⟨-,rfl⟩:=Prod.mk.inj (Option.some.inj h)
  exact ⟨inferInstance,fun w=>half2_calls a b ha hb w⟩
 rw [if_neg h3] at h
 rw [if_neg h3]
 by_cases h2:op=2
 ·rw [if_pos h2] at h;rw [if_pos h2]
  obtain ⟨-,rfl⟩:=Prod.mk.inj (Option.some.inj h)
  exact ⟨inferInstance,fun w=>half3_calls a b ha hb w⟩
 rw [if_neg h2] at h
 rw [if_neg h2]
 by_cases h4:op=4
 ·rw [if_pos h4] at h;rw [if_pos h4]
  obtain ⟨-,rfl⟩:=Prod.mk.inj (Option.some.inj h)
  exact ⟨inferInstance,fun w=>half4_calls a b ha hb w⟩
 rw [if_neg h4] at h
 rw [if_neg h4]
 by_cases h6:op=6
 ·rw [if_pos h6] at h;rw [if_pos h6]
  obtain ⟨-,rfl⟩:=Prod.mk.inj (Option.some.inj h)
  exact ⟨inferInstance,fun w=>half5_calls a b ha hb w⟩
 rw [if_neg h6] at h
 rw [if_neg h6]
 by_cases h22:op=22
 ·rw [if_pos h22] at h;rw [if_pos h22]
  obtain ⟨-,rfl⟩:=Prod.mk.inj (Option.some.inj h)
  exact ⟨inferInstance,fun w=>And_calls a b w⟩
 rw [if_neg h22] at h
 rw [if_neg h22]
 by_cases h23:op=23
 ·rw [if_pos h23] at h;rw [if_pos h23]
  obtain ⟨-,rfl⟩:=Prod.mk.inj (Option.some.inj h)
  exact ⟨inferInstance,fun w=>Or_calls a b w⟩
 rw [if_neg h23] at h
 rw [if_neg h23]
 by_cases h24:op=24
 ·rw [if_pos h24] at h;rw [if_pos h24]
  obtain ⟨-,rfl⟩:=Prod.mk.inj (Option.some.inj h)
  exact ⟨inferInstance,fun w=>Xor_calls a b w⟩
 rw [if_neg h24] at h
 rw [if_neg h24]
 by_cases h27:op=27
 ·rw [if_pos h27] at h;rw [if_pos h27]
  obtain ⟨-,rfl⟩:=Prod.mk.inj (Option.some.inj h)
  exact ⟨inferInstance,fun w=>half6_calls a b ha hb w⟩
 rw [if_neg h27] at h
 rw [if_neg h27]
 by_cases h28:op=28
 ·rw [if_pos h28] at h;rw [if_pos h28]
  obtain ⟨-,rfl⟩:=Prod.mk.inj (Option.some.inj h)
  exact ⟨inferInstance,fun w=>half7_calls a b ha hb w⟩
 rw [if_neg h28] at h
 rw [if_neg h28]
 by_cases h16:op=16
 ·rw [if_pos h16] at h;rw [if_pos h16]
  obtain ⟨-,rfl⟩:=Prod.mk.inj (Option.some.inj h)
  exact ⟨inferInstance,fun w=>half8_calls a b ha hb w⟩
 rw [if_neg h16] at h
 rw [if_neg h16]
 by_cases h17:op=17
 ·rw [if_pos h17] at h;rw [if_pos h17]
  obtain ⟨-,rfl⟩:=Prod.mk.inj (Option.some.inj h)
  exact ⟨inferInstance,fun w=>half9_calls a b ha hb w⟩
 rw [if_neg h17] at h
 rw [if_neg h17]
 by_cases h20:op=20
 ·rw [if_pos h20] at h
  obtain ⟨-,rfl⟩:=Prod.mk.inj (Option.some.inj h)
  exact ⟨inferInstance,fun w=>half10_calls a b ha hb w⟩
 rw [if_neg h20] at h
 cases h
end
theorem halfV_lt (op a b:Nat) (ha:a < M256) (hb:b < M256):halfV op a b < M256:=by
 have h0:0 < M256:=by decide
 have hM1:1 < M256:=by decide
 have hM:M256=2 ^ 256:=by decide
 unfold halfV
 by_cases h1:op=1
 ·rw [if_pos h1]
  exact Nat.mod_lt _ h0
 rw [if_neg h1]
 by_cases h3:op=3
 ·rw [if_pos h3]
  exact Nat.mod_lt _ h0
 rw [if_neg h3]
 by_cases h2:op=2
 ·rw [if_pos h2]
  exact Nat.mod_lt _ h0
 rw [if_neg h2]
 by_cases h4:op=4
 ·rw [if_pos h4]
  by_cases hb0:b=0<;>simp only [hb0,if_true,if_false]
  ·exact h0
  ·exact Nat.lt_of_le_of_lt (Nat.div_le_self _ _) ha
 rw [if_neg h4]
 by_cases h6:op=6
 ·rw [if_pos h6]
  by_cases hb0:b=0<;>simp only [hb0,if_true,if_false]
  ·exact h0
  ·exact Nat.lt_of_le_of_lt (Nat.mod_le _ _) ha
 rw [if_neg h6]
 by_cases h22:op=22
 ·rw [if_pos h22]
  exact Nat.lt_of_le_of_lt Nat.and_le_left ha
 rw [if_neg h22]
 by_cases h23:op=23
 ·rw [if_pos h23]
  rw [hM] at ha hb ⊢;exact Nat.or_lt_two_pow ha hb
 rw [if_neg h23]
 by_cases h24:op=24
 ·rw [if_pos h24]
  rw [hM] at ha hb ⊢;exact Nat.xor_lt_two_pow ha hb
 rw [if_neg h24]
 by_cases h27:op=27
 ·rw [if_pos h27]
  exact Nat.mod_lt _ h0
 rw [if_neg h27]
 by_cases h28:op=28
 ·rw [if_pos h28]
  exact Nat.lt_of_le_of_lt (Nat.div_le_self _ _) hb
 rw [if_neg h28]
 by_cases h16:op=16
 ·rw [if_pos h16]
  by_cases c:a < b
  ·rw [if_pos c];exact hM1
  ·rw [if_neg c];exact h0
 rw [if_neg h16]
 by_cases h17:op=17
 ·rw [if_pos h17]
  by_cases c:b < a
  ·rw [if_pos c];exact hM1
  ·rw [if_neg c];exact h0
 rw [if_neg h17]
 by_cases c:a=b
 ·rw [if_pos c];exact hM1
 ·rw [if_neg c];exact h0
end
end Go.Proofs.YtdeggbkbblfpoaaGreatDoor
namespace Go.Proofs.YtdeggbkbblfpoaaGreatDoor.SK
open Go Go.RowKit SL
set_option maxRecDepth 8000
set_option linter.unusedSimpArgs false
set_option linter.unusedVariables false

end Go.Proofs.YtdeggbkbblfpoaaGreatDoor.SK
namespace Go.Proofs.YtdeggbkbblfpoaaGreatDoor.SK
open Go Go.RowKit SL
set_option maxRecDepth 8000
set_option maxHeartbeats 4000000
set_option linter.unusedSimpArgs false
set_option linter.unusedVariables false
attribute [local irreducible] SL.CW SL.LW SL.DW Calls SL.Ret SL.RetG SL.beginQ SL.roundQ SL.rangeQ SL.inQ SL.RW SL.AnyW SL.thenQ SL.thenC SL.thenW SL.blkQ SL.finQ SL.ValP SL.NewP SL.SetP SL.CallP SL.Rd SL.Wr SL.Known


section
attribute [local irreducible] cF mixL rowsL numL
end

section
attribute [local irreducible] mixL rowsL numL roundL permF
end
end Go.Proofs.YtdeggbkbblfpoaaGreatDoor.SK
namespace Go.Proofs.YtdeggbkbblfpoaaGreatDoor.SK
open Go Go.RowKit SL
set_option maxRecDepth 8000
set_option linter.unusedSimpArgs false
set_option linter.unusedVariables false

end Go.Proofs.YtdeggbkbblfpoaaGreatDoor.SK
namespace Go.Proofs.YtdeggbkbblfpoaaGreatDoor.SK
open Go Go.RowKit SL
set_option maxRecDepth 8000
set_option maxHeartbeats 4000000
set_option linter.unusedSimpArgs false
set_option linter.unusedVariables false
attribute [local irreducible] SL.CW SL.LW SL.DW Calls SL.Ret SL.RetG SL.beginQ SL.roundQ SL.rangeQ SL.inQ SL.RW SL.AnyW SL.thenQ SL.thenC SL.thenW SL.blkQ SL.finQ SL.ValP SL.NewP SL.SetP SL.CallP SL.Rd SL.Wr SL.Known
section
attribute [local irreducible] padB sumB permL soakF sumF idF
end
end Go.Proofs.YtdeggbkbblfpoaaGreatDoor.SK
namespace Go.Proofs.YtdeggbkbblfpoaaGreatDoor
open Go Go.RowKit SL
set_option maxRecDepth 8000
set_option maxHeartbeats 4000000
set_option linter.unusedSimpArgs false
set_option linter.unusedVariables false
attribute [local irreducible] SL.CW SL.LW SL.DW Calls SL.Ret SL.RetG SL.beginQ SL.roundQ SL.rangeQ SL.inQ SL.RW SL.AnyW SL.thenQ SL.thenC SL.thenW SL.blkQ SL.finQ SL.ValP SL.NewP SL.SetP SL.CallP SL.Rd SL.Wr SL.Known
section
attribute [local irreducible] SK.padB SK.sumB
theorem sum_len (b:List UInt8):(SK.sumB b).length=32:=by unfold SK.sumB;rw [SK.idF_len]
def digW (b:List UInt8):Nat:=bev (SK.sumB b)
theorem digW_lt (b:List UInt8):digW b < M256:=by
 have:=bev_lt (SK.sumB b)
 rw [sum_len] at this
 exact this
attribute [local irreducible] digW
theorem Digest_calls (b:List UInt8) (v:Value) (w:World) (hv:RowAt w 1 v b.length (ucs b)) (hb:b.length≤100000) (hT:SK.TurnAt w) (hN:SK.NumAt w):Calls Tryz.prog 208 #[v] w (Ret w (wv (digW b))):=by
 have hlen:=sum_len b
 have hdw:digW b=bev (SK.sumB b):=by unfold digW;rfl
 have hSum0:∀ w' {fs},St w [] fs w'→Calls Tryz.prog 225 #[v] w' (Ret w' (.agg (uca (SK.sumB b)))):=fun w' fs hst=>SK.Sum_calls b v w' (hv.st hst) hb (hT.st hst) (hN.st hst)
 obtain ⟨D,hD⟩:∃ D,SK.sumB b=D:=⟨_,rfl⟩
 have hSum:=@hSum0
 rw [hD] at hSum hlen hdw
 have hRead:∀ (g:Nat) (w':World) {fs:Fs},St w [] fs w'→w'.heap[g]?=some (.cells (uca D) 196 (0,0))→Calls Tryz.prog 199 #[.slice (some ⟨g,0,none⟩) 32 32] w' (Ret w' (.tuple #[wv (digW b),.int .i64 0])):=fun g w' fs _ h=>by
  have h2:=own_row (off:=0) (n:=32) (c:=32) h (by omega) (Nat.le_refl _) (by simp only [maxLen];omega)
  rw [List.drop_zero,List.take_of_length_le (by omega)] at h2
  rw [hdw]
  exact Read_calls _ D w' (by rw [hlen];exact h2) (by omega)
 refine enter (args:=[_]) _ [] [] Tryz.func208 rfl Tryz.ntmps208 rfl (by simp) .nil ?_
 (refine zI<|zL ?_;apply LW.allocW;rfl;intro _;apply zV;refine thenN<|zI<|zL ?_;apply LW.v0;rfl;rfl;apply ValP.move;rfl;apply zS;rfl;rfl;infer_instance;apply ArgsOk.cons;rfl;exact ArgsOk.nil;intro w _;rename_i hst;exact hSum w hst;apply zU;rfl;intro _;apply zR;rfl;rfl;apply qA;apply wr_ucaO;rfl;assumption;apply zV;refine thenN<|zI<|zL ?_;apply LW.v0;rfl;rfl;apply ValP.cutArrAll;infer_instance;infer_instance;rfl;apply zS;rfl;rfl;infer_instance;apply ArgsOk.cons;rfl;exact ArgsOk.nil;intro w _;rename_i hst;(exact hRead _ w hst ((hst.own (_,.cells (uca D) 196 (0,0)) (by (repeat (first|exact List.Mem.head _|apply List.Mem.tail)))).2));apply LW.v0;rfl;rfl;apply ValP.move;rfl;apply LW.v0;rfl;rfl;apply ValP.extractN;rfl;rfl;apply LW.v0;rfl;rfl;apply ValP.extractN;rfl;rfl;apply LW.allocW;rfl;intro _;apply zR;rfl;rfl;apply qA;apply Wr.whole;rfl;rfl;rfl;apply LW.v0;rfl;rfl;apply ValP.assign;rfl;apply zV;refine thenN<|zI<|zL ?_;apply LW.load;rfl;rfl;apply qG;apply zY;exact qH rfl;apply zR;rfl;rfl;apply qD;apply qD;apply qA;apply Wr.whole;rfl;rfl;rfl;apply zV;refine thenN<|zK ?_)
 (apply finR;exact .inl rfl;rfl;rfl;rfl;apply zD;apply zH;rfl;apply qG;apply zX;apply zX;apply zY;exact qH rfl;exact zF)
 rfl
end
end Go.Proofs.YtdeggbkbblfpoaaGreatDoor
namespace Go.Proofs.YtdeggbkbblfpoaaGreatDoor
open Go Go.RowKit SL
open CK (dataC jumpC readB)
structure SO where
 kind:Int
 op:Nat
 gas:Nat
 pc:Int
 ws:List Nat
 ms:List UInt8
 words:List Nat
 data:List UInt8
def soOn (f:FrV) (ws:List Nat) (ms:List UInt8):SO:=⟨0,0,f.gas,f.pc,ws,ms,[],[]⟩
def FrV.setG (f:FrV) (g:Nat):FrV:={ f with gas:=g }
def reaV (f:FrV) (L:FrL) (a n:Nat):Option (FrV × List UInt8):=if costR L a n≤f.gas then some (f.setG (f.gas - costR L a n),(memR L a n).ms) else none
def spnV (f:FrV) (c:Nat):Option FrV:=if c≤f.gas then some (f.setG (f.gas - c)) else none
def copyV (f:FrV) (L:FrL) (b:List UInt8) (a at_ n:Nat):Option SO:=do
 let (f1,ms) ← reaV f L a n
 let f2 ← spnV f1 (timesV ((n+31) / 32) 3)
 some (soOn f2 L.ws (layL ms a (winL b at_ n)))
def loadV14 (f:FrV) (L:FrL) (a:Nat):Option SO:=do
 let (f1,ms) ← reaV f L a 32
 some (soOn f1 (L.ws++[bev ((ms.drop a).take 32)]) ms)
def storeV (f:FrV) (L:FrL) (a n:Nat) (l:List UInt8):Option SO:=do
 let (f1,ms) ← reaV f L a n
 some (soOn f1 L.ws (layL ms a l))
def hashV (f:FrV) (L:FrL) (a n:Nat):Option SO:=do
 let (f1,ms) ← reaV f L a n
 let f2 ← spnV f1 (timesV ((n+31) / 32) 6)
 some (soOn f2 (L.ws++[digW ((ms.drop a).take n)]) ms)
def jumpV (f:FrV) (L:FrL) (a:Nat):Option SO:=if a < 18446744073709551616∧jumpC L.cl a=true then some (soOn { f with pc:=(a:Int) } L.ws L.ms) else none
def stateV (op:Nat) (f:FrV) (L:FrL) (l:List Nat):SO:=⟨1,op,f.gas,f.pc,L.ws,L.ms,l,[]⟩
def callV14 (op:Nat) (f:FrV) (L:FrL) (l:List Nat):Option SO:=if f.stat=true∧(op=245∨op=241∧¬ l.getD 2 0=0) then none else some ⟨2,op,f.gas,f.pc,L.ws,L.ms,l,[]⟩
def endsV (op:Nat) (f:FrV) (L:FrL) (a n:Nat):Option SO:=do
 let (f1,ms) ← reaV f L a n
 some ⟨if op=253 then 5 else 4,0,f1.gas,f1.pc,L.ws,ms,[],(ms.drop a).take n⟩
def doV (op:Nat) (f:FrV) (L:FrL) (l:List Nat):Option SO :=
 let a:=l.getD 0 0
 let b:=l.getD 1 0
 let c:=l.getD 2 0
 if op=21 then some (soOn f (L.ws++[if a=0 then 1 else 0]) L.ms)
 else if op=25 then some (soOn f (L.ws++[M256 - 1 - a]) L.ms)
 else if op=52 then some (soOn f (L.ws++[f.val]) L.ms)
 else if op=53 then some (soOn f (L.ws++[bev (winL L.il a 32)]) L.ms)
 else if op=55 then copyV f L L.il a b c
 else if op=62 then (if b+c≤L.bl.length then copyV f L L.bl a b c else none)
 else if op=81 then loadV14 f L a
 else if op=82 then storeV f L a 32 (beb 32 b)
 else if op=83 then storeV f L a 1 ((beb 32 b).drop 31)
 else if op=32 then hashV f L a b
 else if op=86 then jumpV f L a
 else if op=87 then (if b=0 then some (soOn f L.ws L.ms) else jumpV f L a)
 else if op=49∨op=71∨op=84∨op=92 then some (stateV op f L l)
 else if op=85∨op=93 then (if f.stat=true then none else some (stateV op f L l))
 else if op=241∨op=244∨op=250∨op=245 then callV14 op f L l
 else if op=0 then some ⟨3,0,f.gas,f.pc,L.ws,L.ms,[],[]⟩
 else if op=243∨op=253 then endsV op f L a b
 else some (soOn f L.ws L.ms)
def sayV (op:Nat) (f:FrV) (L:FrL) (e0 e1 e2 e3:Nat):Nat :=
 if op=48 then f.self else if op=51 then f.frm else if op=50 then e0 else if op=66 then e1 else if op=67 then e2 else if op=72 then e3 else if op=54 then L.il.length else if op=61 then L.bl.length else f.gas
def swapL (ws:List Nat) (n:Nat):List Nat:=(ws.set (ws.length - 1) (ws.getD (ws.length - 1 - n) 0)).set (ws.length - 1 - n) (ws.getD (ws.length - 1) 0)
def stepV (f:FrV) (L:FrL) (e0 e1 e2 e3:Nat):Option SO :=
 let op:=opF f L
 let x:=opX op
 if ¬ (opOf op).isSome∨op=254 then none
 else if f.gas < gasB op then none
 else if L.ws.length < x.tk∨64 < L.ws.length - x.tk+x.ly then none
 else
  let f1:FrV:={ f with gas:=f.gas - gasB op,pc:=((min (f.pc.toNat+1+x.dt) L.cl.length:Nat):Int) }
  if 96≤op∧op≤127 then some (soOn f1 (L.ws++[bev (dataC L.cl f.pc)]) L.ms)
  else if 128≤op∧op≤143 then some (soOn f1 (L.ws++[L.ws.getD (L.ws.length - (op - 127)) 0]) L.ms)
  else if 144≤op∧op≤159 then some (soOn f1 (swapL L.ws (op - 143)) L.ms)
  else
   let l:=(L.ws.drop (L.ws.length - x.tk)).reverse
   let L1:=L.setW (L.ws.take (L.ws.length - x.tk))
   if (halvesF op).isSome then some (soOn f1 (L1.ws++[halfV op (l.getD 0 0) (l.getD 1 0)]) L.ms)
   else if (saysF op).isSome then some (soOn f1 (L1.ws++[sayV op f1 L1 e0 e1 e2 e3]) L.ms)
   else doV op f1 L1 l
def soF (f:FrV) (o:SO) (s k:Value):FrV:={ f with pc:=o.pc,gas:=o.gas,stk:=s,mem:=k }
def soL (L:FrL) (o:SO):FrL:={ L with ws:=o.ws,ms:=o.ms }
def SoD (f:FrV) (L:FrL) (o:SO) (m:MaV) (gs:Fs):Prop:=∃ s k g1 g2 g3,m.fr=soF f o s k∧m.kind=o.kind∧(g1++(g2++g3)).Perm gs∧FrP m.fr (soL L o) g1 ∧
 ((o.kind=0∧o.op=0∧o.words=[]∧o.data=[])∨(o.kind ≠ 0∧m.op=o.op∧wM o.words m.words g2∧bM o.data m.data g3))
def DoK14 (b:Nat) (f:FrV) (L:FrL) (o:Option SO) (rest:Fs):Out:=fun x fs'=>match o with
 |none=>x=.panicked failC∧fs'=rest
 |some o=>x=.returned (.tuple #[])∧∃ m' gs',SoD f L o m' gs'∧fs'=(b,maO m')::(gs'++rest)
structure DoPre (m:MaV) (L:FrL) (l:List Nat):Prop where
 ok:okSc L.ws.length L.ms.length
 gas:m.fr.gas≤20000
 il:L.il.length≤1024
 bl:L.bl.length≤1024
 cl:L.cl.length≤200
 val:m.fr.val < M256
 ls:∀ x∈l,x < M256
 kind:m.kind=0
def DoC (fid:FuncId) (op:Nat) (tk ly:Nat) (V:FrV→FrL→List Nat→Option SO):Prop :=
 ∀ (w0:World) (b:Nat) (m:MaV) (L:FrL) (l:List Nat) (gs gt rest:Fs) (w:World),SK.TurnAt w0→SK.NumAt w0→DoPre m L l→m.op=op→tk≤l.length→L.ws.length+ly≤64→FrP m.fr L gs→wM l m.took gt→St w0 [] ((b,maO m)::(gs++(gt++rest))) w →
  Calls Tryz.prog fid #[.pointer (some ⟨b,0,none⟩)] w (fun x w'=>∃ fs',DoK14 b m.fr L (V m.fr L l) rest x fs'∧St w0 [] fs' w')
end Go.Proofs.YtdeggbkbblfpoaaGreatDoor
namespace Go.Proofs.YtdeggbkbblfpoaaGreatDoor
open Go Go.RowKit SL
set_option maxRecDepth 8000
set_option maxHeartbeats 4000000
set_option linter.unusedSimpArgs false
set_option linter.unusedVariables false
attribute [local irreducible] SL.CW SL.LW SL.DW Calls SL.Ret SL.RetG SL.beginQ SL.roundQ SL.rangeQ SL.inQ SL.RW SL.AnyW SL.thenQ SL.thenC SL.thenW SL.blkQ SL.finQ SL.ValP SL.NewP SL.SetP SL.CallP SL.Rd SL.Wr SL.Known

section
structure AkV where
 kind:Int
 op:Nat
 ws:Value
 dt:Value
 cold:Bool
 vl:Bool
 new:Bool
section rd
variable {P : Program} {T E : TypeId} {fr : Nat × Nat} {A : AkV} {f : FrV} {c : ClV} {code stk mem inp back : Value} {pc : Int} {gas self frm val : Nat} {stat : Bool} {op dst cself cfrm cval cgas pl n : Nat} {cinp ccode : Value} {mv cstat : Bool}
end rd
section wr
variable {P : Program} {T E : TypeId} {A : AkV} {f : FrV} {c : ClV} {z code stk mem inp back : Value} {pc : Int} {gas self frm val x q k : Nat} {stat y : Bool} {p : Option Addr} {op dst cself cfrm cval cgas pl n : Nat} {cinp ccode : Value} {mv cstat : Bool}
end wr
attribute [local irreducible] SL.inP
end
section
theorem grow_in (ws:List Nat) (ms:List UInt8) (p0 n:Nat) (s m:Value) (w:World) (hs:RowAt w 4 s ws.length (wcs ws)) (hm:RowAt w 1 m ms.length (ucs ms)) (hok:okSc ws.length ms.length) (hn:0 < n) (hn2:p0+n≤ms.length) :
  Calls Tryz.prog 122 #[.agg #[s,m],.int .u64 (p0:Int),.int .u64 (n:Int)] w (RetG w [] (fun r gs=>∃ o,r=.tuple #[o,.int .i64 0]∧ScO ws ms o gs)):=by
 have hs0:=hs
 have hm0:=hm
 obtain ⟨p,c,rfl,_,hc⟩:=hs.form
 obtain ⟨p2,c2,rfl,_,hc2⟩:=hm.form
 have hC:∀ w,Calls Tryz.prog 84 #[.agg #[.slice p ws.length c,.slice p2 ms.length c2]] w (Ret w (.int .i64 0)):=fun w=>by
  have h:=scCheck_calls p p2 ws.length c ms.length c2 (by omega) (by omega) w
  rwa [if_pos hok] at h
 have hok2:=hok
 unfold okSc at hok2
 obtain ⟨hn1,hk1,hk2⟩:=hok2
 refine enter (args:=[_,_,_]) _ [] [] Tryz.func122 rfl Tryz.ntmps122 rfl (by simp) .nil ?_
 (refine sRz ?_;apply zT;rfl;rfl;intro _;apply zU;rfl;intro _;refine vAz<|nNz<|zI<|sRz<|ldz rfl (.tail .head) (qH rfl) ?_;apply zS;rfl;rfl;infer_instance;exact .cons rfl .nil;intro w _;exact hC w;refine vAz<|nSz<|vMz ?_;refine lvz (.neF rfl rfl (by omega)) ?_;refine nNz<|cFz<|zJ<|thenN<|sRz<|ldz rfl (.tail .head) (qH rfl) ?_)
 (apply LW.callR;rfl;rfl;infer_instance;exact .cons rfl .nil;intro w hs)
 exact copied_calls ws ms _ _ w (hs0.st hs) (hm0.st hs) (by omega) (by omega)
 rintro vo gso ⟨s1,m1,g1,g2,rfl,rfl,h1,h2⟩
 have h1':=h1
 have h2':=h2
 unfold wM at h1'
 unfold bM at h2'
 obtain ⟨q1,k1,rfl⟩:=h1'.form
 obtain ⟨q2,k2,rfl⟩:=h2'.form
 (apply zU;rfl;intro _;refine zR rfl rfl .head (.whole rfl rfl rfl)<|nNz<|zI<|sRz<|vMz ?_;refine lvz (.eqF rfl rfl (by omega)) ?_;refine nNz<|cFz<|zJ<|thenN<|zI<|sRz<|vMz ?_;refine lvz (.gtrF rfl rfl (by omega)) ?_;refine vMz<|gTz<|vMz<|gTz ?_;refine lvz (.gtrF rfl rfl (by omega)) ?_;refine pFz<|vMz<|gTz<|vMz<|gTz<|vMz<|gTz<|lvz (.addN rfl rfl)<|gTz ?_;refine lvz (.gtrF rfl rfl (by omega)) ?_;refine pFz<|nNz<|cFz<|zJ<|thenN<|sRz<|vMz<|vMz<|lvz (.addN rfl rfl) ?_;refine lvz (.convI rfl (by omega) (by omega)) ?_;refine lvz (.addZL rfl rfl (by decide) (by omega)) ?_;refine lvz (.subZL rfl rfl (by decide) (by omega) (by omega)) ?_;refine lvz (.quoZL rfl rfl (by decide) (by omega) (by omega)) ?_;refine lvz (.mulZL rfl rfl (by decide) (by omega)) ?_;refine vAz<|nNz<|zI<|sRz<|vMz<|vFz<|ldz rfl .head sc_rd1<|lvz (.lenR rfl inferInstance rfl) ?_;refine lvz (.subI rfl rfl (by omega) (by omega)) ?_;apply LW.v0;rfl;rfl;apply ValP.maxD;rfl;rfl;refine vMz<|nNz<|zM ?_)
 rename_i b3 b6 b9
 have hD:((p0+n) % 18446744073709551616+32 - 1) / 32 * 32 - ms.length=0:=by omega
 rw [hD]
 refine CW.loop (fun x:Unit=>([(9,.pointer (some ⟨b9,0,none⟩)),(6,.pointer (some ⟨b6,0,none⟩)),(48,.int .i64 ((0:Nat):Int)),(49,.int .i64 ((0:Nat):Int))],(b9,.cells #[.slice q1 ws.length k1,.slice q2 ms.length k2] 25 (0,0))::(g2++(g1++[(b6,.cells #[.slice none 0 0,.slice none 0 0] 25 (0,0))]))))
  (fun x=>True) (fun x=>0) () trivial ⟨rfl,rfl,rfl,rfl,trivial⟩ (by simp) ?_
 intro _ _
 dsimp only
 (refine sRz ?_;refine lvz (.lssF rfl rfl (by omega)) ?_;refine nNz<|zI<|cFz<|CW.exit<|thenE<|thenE<|blkE rfl<|thenN<|sRz<|ldz rfl .head (qH rfl) ?_;refine zR rfl rfl (.tail (.app (.app .head))) (.whole rfl rfl rfl)<|vAz<|nNz<|zK ?_)
 refine fin (vs:=[.agg #[.slice q1 ws.length k1,.slice q2 ms.length k2],.int .i64 0]) (g2++g1) (.inl rfl) rfl rfl (by (apply zD;apply zH;rfl;apply qG;apply zX;apply zZ;apply zZ;apply zY;exact qH rfl;apply zD;exact zG rfl;exact zF)) ?_ ⟨_,rfl,_,_,g1,g2,rfl,rfl,h1,h2⟩
 exact qS _ (List.Sublist.append_left (qR _ _) _)
def CutR (ws:List Nat) (ms:List UInt8) (p0 n:Nat) (r:Value) (gs:Fs):Prop:=∃ o v go gv,r=.tuple #[o,v,.int .i64 0]∧gs=gv++go∧ScO ws ms o go∧bM ((ms.drop p0).take n) v gv
theorem RowAt.mid {w:World} {g o N c k n:Nat} {xs:List Value} (h:RowAt w 1 (.slice (some ⟨g,o,none⟩) N c) N xs) (hn:0 < n) (hk:k+n≤N):RowAt w 1 (.slice (some ⟨g,o+k,none⟩) n n) n ((xs.drop (k * 1)).take (n * 1)):=by
 obtain ⟨_,_,he,hle,_⟩:=h.form
 cases he
 have h1:=h.drop (k:=k) (by omega)
 have e1:cutAt (some ⟨g,o,none⟩) k N c 1=.slice (some ⟨g,o+k,none⟩) (N - k) (c - k):=by
  unfold cutAt
  rw [if_neg (by omega)]
  simp [Addr.add]
 rw [e1] at h1
 exact RowAt.cutMax h1 (by omega)
theorem cut_in (ws:List Nat) (ms:List UInt8) (p0 n:Nat) (s m:Value) (w:World) (hs:RowAt w 4 s ws.length (wcs ws)) (hm:RowAt w 1 m ms.length (ucs ms)) (hok:okSc ws.length ms.length) (hn:0 < n) (hn2:p0+n≤ms.length) :
  Calls Tryz.prog 222 #[.agg #[s,m],.int .u64 (p0:Int),.int .u64 (n:Int)] w (RetG w [] (CutR ws ms p0 n)):=by
 have hs0:=hs
 have hm0:=hm
 have hk1:=hok.2.1
 obtain ⟨p,c,rfl,_,hc⟩:=id hs.form
 obtain ⟨p2,c2,rfl,_,hc2⟩:=id hm.form
 refine enter (args:=[_,_,_]) _ [] [] Tryz.func222 rfl Tryz.ntmps222 rfl (by simp) .nil ?_
 (refine sRz ?_;apply zT;rfl;rfl;intro _;apply zU;rfl;intro _;refine vAz<|vAz<|nSz<|ldz rfl (.tail .head) (qH rfl)<|vMz<|vMz ?_)
 (apply LW.callR;rfl;rfl;infer_instance;exact .cons rfl (.cons rfl (.cons rfl .nil));intro w hs)
 exact grow_in ws ms p0 n _ _ w (hs0.st hs) (hm0.st hs) hok hn hn2
 rintro vo gso ⟨o,rfl,s1,m1,g1,g2,rfl,rfl,h1,h2⟩
 have h1':=h1
 have h2':=h2
 unfold wM at h1'
 unfold bM at h2'
 obtain ⟨q1,k1,rfl⟩:=id h1'.form
 obtain ⟨q2,k2,rfl⟩:=id h2'.form
 have hle2:=IsRow.le h2'
 have hmod:(p0+n) % 18446744073709551616=p0+n:=Nat.mod_eq_of_lt (by omega)
 obtain ⟨gm,cur,rfl,rfl,hn3,hm3,hsz3,htk3⟩:=id (h2'.pos (by omega))
 (refine vMz ?_;refine vEz ?_;refine vEz ?_;apply zU;rfl;intro _;refine zR rfl rfl .head (.whole rfl rfl rfl)<|vAz<|nNz<|zI<|sRz<|vMz ?_;refine lvz (.neF rfl rfl (by omega)) ?_;refine vMz<|gTz<|vMz<|gTz ?_;refine lvz (.eqF rfl rfl (by omega)) ?_;refine pFz<|nNz<|cFz<|zJ<|thenN<|zI ?_)
 apply CW.pre
 (refine AnyW.anyM [(11,bM ((ms.drop p0).take n))] 12 mixed (by decide +kernel) ?_)
 ((try simp only [tsOf_cons,tsOf_nil,tsOf_app]);apply qF;rfl;rfl;rfl;exact zC;rfl;apply zP;exact zN;exact qH rfl;refine dvz (.fieldAddr rfl rfl) ?_;apply qF;rfl;rfl;rfl;exact zC;rfl;apply zP;exact zN;exact sc_rd1;refine dvz (.move rfl)<|dvz (.move rfl)<|dvz (.move rfl)<|dvz (.addN rfl rfl)<|dvz (.move rfl)<|dvz (.move rfl)<|dvz (.addN rfl rfl) ?_;apply DW.v0;rfl;rfl;rfl;exact zC;rfl;refine SK.ValP.cut3o (m:=n) (o':=0+p0) inferInstance inferInstance rfl rfl rfl rfl ?_ ?_ ?_ ?_ ?_;omega;omega;omega;omega;rfl)
 (apply DW.manyV;rfl;rfl;rfl;exact zC;rfl;infer_instance;exact .cons rfl .nil;apply RdV.own;assumption;apply zO;apply zP;exact zN;exact RdV.nil;intro w _ _)
 ·have hr:=RowAt.mid (k:=p0) (n:=n) (IsRow.us h2' (fun p hp=>by obtain rfl:=List.mem_singleton.1 hp;rename_i hu;exact hu _ List.mem_cons_self) (qO _)) hn (by omega)
  rw [ucs_drop,ucs_take] at hr
  have hlen:((ms.drop p0).take n).length=n:=by rw [List.length_take,List.length_drop];omega
  have h9:=SK.Clone_calls ((ms.drop p0).take n) _ w (by rw [hlen];exact hr) (by omega)
  exact h9
 intro v3 g3 h3
 have h3':=h3
 unfold bM at h3'
 obtain ⟨q3,k3,rfl⟩:=id h3'.form
 ((try simp only [tsOf_cons,tsOf_nil,tsOf_app]);apply DW.nil;simp only [fsOf_cons,fsOf_nil,fsOf_app,fsOf_tsOf,fsOf_new,fsOf_tag])
 simp only [fsOf_cons,fsOf_nil,fsOf_app,fsOf_tsOf,List.append_eq,List.nil_append]
 (refine zR rfl rfl (.app (.tail (.tail (.app .head)))) (.whole rfl rfl rfl)<|vAz<|vAz<|nNz<|zK ?_)
 refine fin (vs:=[.agg #[.slice q1 ws.length k1,.slice (some ⟨gm,0,none⟩) ms.length k2],.slice q3 ((ms.drop p0).take n).length k3,.int .i64 0]) (g3++((gm,.cells cur 5 (0,0))::g1)) (.inl rfl) rfl rfl (by (apply zD;apply zH;rfl;apply qG;apply zZ;apply zX;apply zX;apply zZ;apply zY;exact qH rfl;apply zD;exact zG rfl;apply zD;exact zG rfl;exact zF)) ?_ ⟨_,_,_,g3,rfl,rfl,⟨_,_,g1,[(gm,.cells cur 5 (0,0))],rfl,rfl,h1,h2⟩,h3⟩
 exact List.Sublist.append_left (qS _ (List.Sublist.cons_cons _ (qR _ _))) _
attribute [local irreducible] SL.inP
end
theorem grow_zero (ws:List Nat) (ms:List UInt8) (a n:Nat) (h0:n=0) (s m:Value) (w:World) (hs:RowAt w 4 s ws.length (wcs ws)) (hm:RowAt w 1 m ms.length (ucs ms)) (hok:okSc ws.length ms.length) :
  Calls Tryz.prog 122 #[.agg #[s,m],.int .u64 (a:Int),.int .u64 (n:Int)] w (RetG w [] (fun r gs=>∃ o,r=.tuple #[o,.int .i64 0]∧ScO ws ms o gs)):=by
 have hs0:=hs
 have hm0:=hm
 obtain ⟨p,c,rfl,_,hc⟩:=hs.form
 obtain ⟨p2,c2,rfl,_,hc2⟩:=hm.form
 have hC:∀ w,Calls Tryz.prog 84 #[.agg #[.slice p ws.length c,.slice p2 ms.length c2]] w (Ret w (.int .i64 0)):=fun w=>by
  have h:=scCheck_calls p p2 ws.length c ms.length c2 (by omega) (by omega) w
  rwa [if_pos hok] at h
 obtain ⟨hn1,hk1,hk2⟩:=id hok
 refine enter (args:=[_,_,_]) _ [] [] Tryz.func122 rfl Tryz.ntmps122 rfl (by simp) .nil ?_
 (refine sRz ?_;apply zT;rfl;rfl;intro _;apply zU;rfl;intro _;refine vAz<|nNz<|zI<|sRz<|ldz rfl (.tail .head) (qH rfl) ?_;apply zS;rfl;rfl;infer_instance;exact .cons rfl .nil;intro w _;exact hC w;refine vAz<|nSz<|vMz ?_;refine lvz (.neF rfl rfl (by omega)) ?_;refine nNz<|cFz<|zJ<|thenN<|sRz<|ldz rfl (.tail .head) (qH rfl) ?_)
 (apply LW.callR;rfl;rfl;infer_instance;exact .cons rfl .nil;intro w hs)
 exact copied_calls ws ms _ _ w (hs0.st hs) (hm0.st hs) (by omega) (by omega)
 rintro vo gso ⟨s1,m1,g1,g2,rfl,rfl,h1,h2⟩
 have h1':=h1
 have h2':=h2
 unfold wM at h1'
 unfold bM at h2'
 obtain ⟨q1,k1,rfl⟩:=h1'.form
 obtain ⟨q2,k2,rfl⟩:=h2'.form
 (apply zU;rfl;intro _;refine zR rfl rfl .head (.whole rfl rfl rfl)<|nNz<|zI<|sRz<|vMz ?_;refine lvz (.eqT rfl rfl (by omega)) ?_;refine nNz<|cTz<|sRz<|ldz rfl .head (qH rfl) ?_;refine zR rfl rfl (.tail (.app .head)) (.whole rfl rfl rfl)<|vAz<|nNz<|zK<|thenR ?_)
 refine fin (vs:=[.agg #[.slice q1 ws.length k1,.slice q2 ms.length k2],.int .i64 0]) (g2++g1) (.inl rfl) rfl rfl (by (apply zD;apply zH;rfl;apply qG;apply zX;apply zZ;apply zY;exact qH rfl;apply zD;exact zG rfl;exact zF)) ?_ ⟨_,rfl,_,_,g1,g2,rfl,rfl,h1,h2⟩
 exact qS _ (qR _ _)
theorem growIn_calls (ws:List Nat) (ms:List UInt8) (a n:Nat) (s m:Value) (w:World) (hs:RowAt w 4 s ws.length (wcs ws)) (hm:RowAt w 1 m ms.length (ucs ms)) (hok:okSc ws.length ms.length) (hn:n=0∨a+n≤ms.length) :
  Calls Tryz.prog 122 #[.agg #[s,m],.int .u64 (a:Int),.int .u64 (n:Int)] w (RetG w [] (fun r gs=>∃ o,r=.tuple #[o,.int .i64 0]∧ScO ws ms o gs)):=by
 rcases Nat.eq_zero_or_pos n with h0|h0
 ·exact grow_zero ws ms a n h0 s m w hs hm hok
 ·exact grow_in ws ms a n s m w hs hm hok h0 (by omega)
theorem cut_zero (ws:List Nat) (ms:List UInt8) (a n:Nat) (h0:n=0) (s m:Value) (w:World) (hs:RowAt w 4 s ws.length (wcs ws)) (hm:RowAt w 1 m ms.length (ucs ms)) (hok:okSc ws.length ms.length) :
  Calls Tryz.prog 222 #[.agg #[s,m],.int .u64 (a:Int),.int .u64 (n:Int)] w (RetG w [] (CutR ws ms a n)):=by
 obtain ⟨p,c,rfl,_,hc⟩:=id hs.form
 obtain ⟨p2,c2,rfl,_,hc2⟩:=id hm.form
 have hs0:=hs
 have hm0:=hm
 refine enter (args:=[_,_,_]) _ [] [] Tryz.func222 rfl Tryz.ntmps222 rfl (by simp) .nil ?_
 (refine sRz ?_;apply zT;rfl;rfl;intro _;apply zU;rfl;intro _;refine vAz<|vAz<|nSz<|ldz rfl (.tail .head) (qH rfl)<|vMz<|vMz ?_)
 (apply LW.callR;rfl;rfl;infer_instance;exact .cons rfl (.cons rfl (.cons rfl .nil));intro w hs)
 exact grow_zero ws ms a n h0 _ _ w (hs0.st hs) (hm0.st hs) hok
 rintro vo gso ⟨o,rfl,s1,m1,g1,g2,rfl,rfl,h1,h2⟩
 have h1':=h1
 have h2':=h2
 unfold wM at h1'
 unfold bM at h2'
 obtain ⟨q1,k1,rfl⟩:=h1'.form
 obtain ⟨q2,k2,rfl⟩:=h2'.form
 subst h0
 (refine vMz ?_;refine vEz ?_;refine vEz ?_;apply zU;rfl;intro _;refine zR rfl rfl .head (.whole rfl rfl rfl)<|vAz<|nNz<|zI<|sRz<|vMz ?_;refine lvz (.neF rfl rfl (by omega)) ?_;refine vMz<|gTz<|vMz<|gTz ?_;refine lvz (.eqT rfl rfl (by omega)) ?_;refine pFz<|nNz<|cTz<|sRz<|ldz rfl .head (qH rfl)<|vMz ?_;refine zR rfl rfl (.tail (.app .head)) (.whole rfl rfl rfl)<|vAz<|vAz<|nNz<|zK<|thenR ?_)
 refine fin (vs:=[.agg #[.slice q1 ws.length k1,.slice q2 ms.length k2],.slice none 0 0,.int .i64 0]) (g2++g1) (.inl rfl) rfl rfl (by (apply zD;apply zH;rfl;apply qG;apply zX;apply zZ;apply zY;exact qH rfl;apply zD;exact zG rfl;apply zD;exact zG rfl;exact zF)) ?_ ⟨_,_,g2++g1,[],rfl,rfl,⟨_,_,g1,g2,rfl,rfl,h1,h2⟩,by rw [List.take_zero];exact .nil⟩
 exact qS _ (qR _ _)
theorem cutIn_calls (ws:List Nat) (ms:List UInt8) (a n:Nat) (s m:Value) (w:World) (hs:RowAt w 4 s ws.length (wcs ws)) (hm:RowAt w 1 m ms.length (ucs ms)) (hok:okSc ws.length ms.length) (hn:n=0∨a+n≤ms.length) :
  Calls Tryz.prog 222 #[.agg #[s,m],.int .u64 (a:Int),.int .u64 (n:Int)] w (RetG w [] (CutR ws ms a n)):=by
 rcases Nat.eq_zero_or_pos n with h0|h0
 ·exact cut_zero ws ms a n h0 s m w hs hm hok
 ·exact cut_in ws ms a n s m w hs hm hok h0 (by omega)
theorem layIn_calls (ws:List Nat) (ms:List UInt8) (a:Nat) (l:List UInt8) (s m v:Value) (w:World) (hs:RowAt w 4 s ws.length (wcs ws)) (hm:RowAt w 1 m ms.length (ucs ms)) (hv:RowAt w 1 v l.length (ucs l)) (hok:okSc ws.length ms.length) (hn:l=[]∨a+l.length≤ms.length) :
  Calls Tryz.prog 223 #[.agg #[s,m],.int .u64 (a:Int),v] w (RetG w [] (fun r gs=>∃ o,r=.tuple #[o,.int .i64 0]∧ScO ws (layL ms a l) o gs)):=by
 have hs0:=hs
 have hm0:=hm
 have hk1:=hok.2.1
 obtain ⟨p,c,rfl,_,hc⟩:=id hs.form
 obtain ⟨p2,c2,rfl,_,hc2⟩:=id hm.form
 obtain ⟨p3,c3,rfl,_,hc3⟩:=id hv.form
 have hn':l.length=0∨a+l.length≤ms.length:=by
  rcases hn with rfl|h
  ·exact .inl rfl
  ·exact .inr h
 have hll:l.length≤1024:=by omega
 refine enter (args:=[_,_,_]) _ [] [] Tryz.func223 rfl Tryz.ntmps223 rfl (by simp) .nil ?_
 (refine sRz ?_;apply zT;rfl;rfl;intro _;apply zU;rfl;intro _;refine vAz<|nSz<|ldz rfl (.tail .head) (qH rfl)<|vMz<|vMz<|lvz (.lenR rfl inferInstance rfl) ?_;refine lvz (.convN rfl (by omega) (by omega)) ?_)
 (apply LW.callR;rfl;rfl;infer_instance;exact .cons rfl (.cons rfl (.cons rfl .nil));intro w hs)
 exact growIn_calls ws ms a l.length _ _ w (hs0.st hs) (hm0.st hs) hok hn'
 rintro vo gso ⟨o,rfl,s1,m1,g1,g2,rfl,rfl,h1,h2⟩
 have h1':=h1
 have h2':=h2
 unfold wM at h1'
 unfold bM at h2'
 obtain ⟨q1,k1,rfl⟩:=id h1'.form
 obtain ⟨q2,k2,rfl⟩:=id h2'.form
 rcases Nat.eq_zero_or_pos l.length with h0|h0
 ·obtain rfl:=List.length_eq_zero_iff.1 h0
  rw [layL_nil]
  (refine vMz ?_;refine vEz ?_;refine vEz ?_;apply zU;rfl;intro _;refine zR rfl rfl .head (.whole rfl rfl rfl)<|vAz<|nNz<|zI<|sRz<|vMz ?_;refine lvz (.neF rfl rfl (by omega)) ?_;refine vMz<|gTz<|vMz<|gTz<|lvz (.lenR rfl inferInstance rfl)<|gTz ?_;refine lvz (.eqT rfl rfl (by omega)) ?_;refine pFz<|nNz<|cTz<|sRz<|ldz rfl .head (qH rfl)<|vMz ?_;refine zR rfl rfl (.tail (.app .head)) (.whole rfl rfl rfl)<|vAz<|nNz<|zK<|thenR ?_)
  refine fin (vs:=[.agg #[.slice q1 ws.length k1,.slice q2 ms.length k2],.int .i64 0]) (g2++g1) (.inl rfl) rfl rfl (by (apply zD;apply zH;rfl;apply qG;apply zX;apply zZ;apply zY;exact qH rfl;apply zD;exact zG rfl;exact zF)) ?_ ⟨_,rfl,_,_,g1,g2,rfl,rfl,h1,h2⟩
  exact qS _ (qR _ _)
 ·have hal:a+l.length≤ms.length:=by omega
  obtain ⟨gm,cur,rfl,rfl,hn3,hm3,hsz3,htk3⟩:=id (h2'.pos (by omega))
  simp only [List.cons_append,List.nil_append]
  (refine vMz ?_;refine vEz ?_;refine vEz ?_;apply zU;rfl;intro _;refine zR rfl rfl .head (.whole rfl rfl rfl)<|vAz<|nNz<|zI<|sRz<|vMz ?_;refine lvz (.neF rfl rfl (by omega)) ?_;refine vMz<|gTz<|vMz<|gTz<|lvz (.lenR rfl inferInstance rfl)<|gTz ?_;refine lvz (.eqF rfl rfl (by omega)) ?_;refine pFz<|nNz<|cFz<|zJ<|thenN<|sRz<|vFz<|ldz rfl .head sc_rd1<|vMz ?_;refine lvz (.cutFrom inferInstance inferInstance rfl rfl (by omega)) ?_;refine vMz ?_)
  have e1:cutAt (some ⟨gm,0,none⟩) a ms.length k2 1=.slice (some ⟨gm,a,none⟩) (ms.length - a) (k2 - a):=by
   unfold cutAt
   rw [if_neg (by omega)]
   simp [Addr.add]
   omega
  rw [e1]
  refine LW.copyAt (cur:=cur) (E':=5) (m:=l.length) (news:=ucs l) rfl rfl inferInstance inferInstance inferInstance rfl rfl (fun w' hst=>hv.st hst) (ucs_cells _) (by omega) (by omega) (by (apply qD;apply qA)) ?_
  (refine nSz<|ldz rfl .head (qH rfl) ?_;refine zR rfl rfl (.tail (.tail (.app .head))) (.whole rfl rfl rfl)<|vAz<|nNz<|zK ?_)
  have hcl:(cur.toList.take a++ucs l++cur.toList.drop (a+l.length)).length=k2:=by
   have hcs:cur.toList.length=k2:=by rw [Array.length_toList,hsz3,Nat.mul_one]
   simp only [List.length_append,List.length_take,List.length_drop,ucs_len,hcs]
   omega
  refine fin (vs:=[.agg #[.slice q1 ws.length k1,.slice (some ⟨gm,0,none⟩) ms.length k2],.int .i64 0]) ([(gm,.cells (cur.toList.take a++ucs l++cur.toList.drop (a+l.length)).toArray 5 (0,0))]++g1) (.inl rfl) rfl rfl (by (apply zD;apply zH;rfl;apply qG;apply zX;apply zX;apply zZ;apply zY;exact qH rfl;apply zD;exact zG rfl;exact zF)) (qS _ (List.Sublist.cons_cons _ (qR _ _))) ⟨_,rfl,_,_,g1,[(gm,_)],rfl,rfl,h1,?_⟩
  unfold bM
  rw [layL_len hn]
  refine .own hn3 hm3 (by rw [List.size_toArray,hcl,Nat.mul_one]) ?_ (by rw [ucs_len,layL_len hn,Nat.mul_one])
  rw [Nat.mul_one] at htk3 ⊢
  show (cur.toList.take a++ucs l++cur.toList.drop (a+l.length)).take ms.length=_
  have hcs:cur.toList.length=k2:=by rw [Array.length_toList,hsz3,Nat.mul_one]
  have e2:ucs (ms.take a)=cur.toList.take a:=by
   have h:=ucs_take ms a
   rw [Nat.mul_one] at h
   rw [← h,← htk3,List.take_take,Nat.min_eq_left (by omega)]
  have e3:ucs (ms.drop (a+l.length))=(cur.toList.drop (a+l.length)).take (ms.length - (a+l.length)):=by
   have h:=ucs_drop ms (a+l.length)
   rw [Nat.mul_one] at h
   rw [← h,← htk3,List.drop_take]
  have e4:(cur.toList.take a++ucs l).length=a+l.length:=by
   rw [List.length_append,ucs_len,List.length_take,hcs]
   omega
  unfold layL
  rw [ucs_app,ucs_app,e2,e3,List.take_append,e4,List.take_of_length_le (by rw [e4];omega)]
section
attribute [local irreducible] SL.inP
def CutP (b:Nat) (m:MaV) (l:List UInt8) (gs rest:Fs):Out:=fun x fs'=>∃ v g',x=.returned v∧bM l v g'∧fs'=(b,maO m)::(gs++(g'++rest))
theorem cutM_calls (w0:World) (b:Nat) (m:MaV) (L:FrL) (gs:Fs) (a n:Nat) (hok:okSc L.ws.length L.ms.length) (hn:n=0∨a+n≤L.ms.length) (hfr:FrP m.fr L gs) (rest:Fs) (w:World) (hs:St w0 [] ((b,maO m)::(gs++rest)) w) :
  Calls Tryz.prog 205 #[.pointer (some ⟨b,0,none⟩),.int .u64 (a:Int),.int .u64 (n:Int)] w (fun x w'=>∃ fs',CutP b m ((L.ms.drop a).take n) gs rest x fs'∧St w0 [] fs' w'):=by
 have h1:∀ w',St w0 [] ((b,maO m)::(gs++rest)) w'→RowAt w' 4 m.fr.stk L.ws.length (wcs L.ws)∧RowAt w' 1 m.fr.mem L.ms.length (ucs L.ms):=fun w' h=>by
  have hr:=hfr.st h fun p hp=>qQ _ (List.mem_append_left _ hp)
  exact ⟨hr.s,hr.m⟩
 refine calls_anyO (calls_inlineP (K:=anyO (CutP b m ((L.ms.drop a).take n) gs rest)) (args:=[_,_,_]) Tryz.func205 rfl Tryz.ntmps205 rfl ?_ hs)
 (refine sRz<|vAz<|nSz<|vMz<|vNz<|vFz<|vFz<|ldz rfl .head ma_rd2<|vMz<|vMz ?_)
 (apply LW.callR;rfl;rfl;infer_instance;exact .cons rfl (.cons rfl (.cons rfl .nil));intro w hs)
 exact cutIn_calls L.ws L.ms a n _ _ w (h1 w hs).1 (h1 w hs).2 hok hn
 rintro vo gso ⟨o,v,go,gv,rfl,rfl,⟨s1,m1,g1,g2,rfl,rfl,hw1,hb1⟩,hv⟩
 have hw1':=hw1
 have hb1':=hb1
 have hv':=hv
 unfold wM at hw1'
 unfold bM at hb1' hv'
 obtain ⟨q1,k1,rfl⟩:=hw1'.form
 obtain ⟨q2,k2,rfl⟩:=hb1'.form
 obtain ⟨q3,k3,rfl⟩:=hv'.form
 (refine vMz ?_;refine vEz ?_;refine vEz ?_;refine vEz ?_;apply zU;rfl;intro _;refine zR rfl rfl .head (.whole rfl rfl rfl)<|vAz<|vAz<|nSz<|vMz ?_;refine lvz (.eqT rfl rfl (by omega)) ?_;apply zS;rfl;rfl;infer_instance;exact .cons rfl .nil;intro w _;exact need_true w;refine nSz<|vMz<|vAz<|nNz<|zK ?_)
 refine inPI (vs:=[.slice q3 (List.take n (List.drop a L.ms)).length k3]) (.inl rfl) .nil rfl (by (apply zD;exact zG rfl;exact zF)) rfl ⟨_,⟨_,gv,rfl,hv,rfl⟩,?_⟩
 simp only [List.append_assoc,List.cons_append,List.nil_append]
 exact subp_ix [[_],gv,g2,g1,[_],gs] (xs:=[4,5,1]) (ys:=[0,1,2,3,4,5]) rest rfl
def PutP (b:Nat) (m:MaV) (L:FrL) (ms:List UInt8) (rest:Fs):Out:=fun x fs'=>x=.returned (.tuple #[])∧∃ s k gs',FrO (m.fr.setR m.fr.gas s k) (L.setM ms) gs'∧fs'=(b,maO (m.setF (m.fr.setR m.fr.gas s k)))::(gs'++rest)
theorem putM_calls (w0:World) (b:Nat) (m:MaV) (L:FrL) (gs:Fs) (a:Nat) (l:List UInt8) (v:Value) (hok:okSc L.ws.length L.ms.length) (hn:l=[]∨a+l.length≤L.ms.length) (hfr:FrP m.fr L gs) (rest:Fs) (w:World)
  (hv:∀ w',St w0 [] ((b,maO m)::(gs++rest)) w'→RowAt w' 1 v l.length (ucs l)) (hs:St w0 [] ((b,maO m)::(gs++rest)) w) :
  Calls Tryz.prog 206 #[.pointer (some ⟨b,0,none⟩),.int .u64 (a:Int),v] w (fun x w'=>∃ fs',PutP b m L (layL L.ms a l) rest x fs'∧St w0 [] fs' w'):=by
 have h1:∀ w',St w0 [] ((b,maO m)::(gs++rest)) w'→RowAt w' 4 m.fr.stk L.ws.length (wcs L.ws)∧RowAt w' 1 m.fr.mem L.ms.length (ucs L.ms):=fun w' h=>by
  have hr:=hfr.st h fun p hp=>qQ _ (List.mem_append_left _ hp)
  exact ⟨hr.s,hr.m⟩
 obtain ⟨g1,g2,g3,g4,g5,hp,hall⟩:=hfr
 have hP:List.Perm ((b,maO m)::(g1++(g2++(g3++(g4++g5)))++rest)) ((b,maO m)::(gs++rest)):=List.Perm.cons _ (hp.append_right rest)
 replace hs:=hs.perm hP
 replace h1:=fun w' h=>h1 w' (St.perm h hP.symm)
 replace hv:=fun w' h=>hv w' (St.perm h hP.symm)
 refine calls_anyO (calls_inlineP (K:=anyO (PutP b m L (layL L.ms a l) rest)) (args:=[_,_,_]) Tryz.func206 rfl Tryz.ntmps206 rfl ?_ hs)
 (refine sRz<|vMz<|vNz<|vFz<|vFz<|ldz rfl .head ma_rd2<|vMz<|vMz ?_)
 (apply LW.callR;rfl;rfl;infer_instance;exact .cons rfl (.cons rfl (.cons rfl .nil));intro w hs)
 exact layIn_calls L.ws L.ms a l _ _ v w (h1 w hs).1 (h1 w hs).2 (hv w hs) hok hn
 rintro vo gso ⟨o,rfl,s1,m1,gg1,gg2,rfl,rfl,hw1,hb1⟩
 have hw1':=hw1
 have hb1':=hb1
 unfold wM at hw1'
 unfold bM at hb1'
 obtain ⟨q1,k1,rfl⟩:=hw1'.form
 obtain ⟨q2,k2,rfl⟩:=hb1'.form
 (refine vMz ?_;refine vEz ?_;refine vEz ?_;apply zU;rfl;intro _;refine zR rfl rfl .head (.whole rfl rfl rfl)<|vAz<|nSz<|vMz ?_;refine lvz (.eqT rfl rfl (by omega)) ?_;apply zS;rfl;rfl;infer_instance;exact .cons rfl .nil;intro w _;exact need_true w;refine nNz<|zL<|vMz<|ldz rfl .head (qH rfl)<|vNz<|vFz<|vFz ?_;refine zR rfl rfl (.tail (.app .head)) (ma_wr2 rfl rfl rfl rfl) ?_;apply zV)
 refine inPI (.inr rfl) .nil rfl .nil rfl ⟨_,⟨rfl,.slice q1 L.ws.length k1,.slice q2 (layL L.ms a l).length k2,g1++(gg1++(gg2++(g4++g5))),⟨g1,gg1,gg2,g4,g5,.refl _,hall.1,hw1,hb1,hall.2.2.2.1,hall.2.2.2.2⟩,rfl⟩,?_⟩
 simp only [List.append_assoc,List.cons_append,List.nil_append]
 exact subp_ix [[_],gg2,gg1,[_],g1,g2,g3,g4,g5] (xs:=[3,4,2,1,7,8]) (ys:=[0,1,2,3,4,5,6,7,8]) rest rfl
end
section
open CK (jumpC)
section rd
variable {P : Program} {T E : TypeId} {fr : Nat × Nat} {m : MaV}
theorem ma_rd11 [AgI P T false]:Rd P T (.cells (mca m) E fr) 11 m.fr.inp:=Rd.one rfl
theorem ma_rd12 [AgI P T false]:Rd P T (.cells (mca m) E fr) 12 m.fr.back:=Rd.one rfl
theorem ma_rd13 [AgI P T false]:Rd P T (.cells (mca m) E fr) 13 (.bool m.fr.stat):=Rd.one rfl
theorem ma_rd7 [AgI P T true] {z:Value} [InfoI P T 4 z]:Rd P T (.cells (mca m) E fr) 7 (wv m.fr.val):=Rd.mid (cs:=(wc m.fr.val).toList) rfl rfl
end rd
theorem took_at {l:List Nat} {t:Value} {gt:Fs} (h:wM l t gt) (h0:0 < l.length):∃ g cur c,t=.slice (some ⟨g,0,none⟩) l.length c∧gt=[(g,.cells cur 29 (0,0))]∧(cur.toList.drop 0).take (l.length * 4)=wcs l:=by
 unfold wM at h
 obtain ⟨q,c,rfl⟩:=id h.form
 obtain ⟨g,cur,rfl,rfl,_,_,_,htk⟩:=h.pos h0
 exact ⟨g,cur,c,rfl,rfl,by rw [List.drop_zero];exact htk⟩
theorem SoD.on {f g:FrV} {L:FrL} {ws:List Nat} {ms:List UInt8} {m:MaV} {gs:Fs} {s k:Value} (hk:m.kind=0) (hf:m.fr=soF f (soOn g ws ms) s k) (h:FrP m.fr (soL L (soOn g ws ms)) gs):SoD f L (soOn g ws ms) m gs :=
 ⟨s,k,gs,[],[],hf,hk,by simp,h,.inl ⟨rfl,rfl,rfl,rfl⟩⟩
attribute [local irreducible] SL.inP
theorem getD_wlt {l:List Nat} {i:Nat} (h:∀ a∈l,a < M256) (hi:i < l.length):l.getD i 0 < M256:=by
 rw [List.getD_eq_getElem?_getD,List.getElem?_eq_getElem hi]
 exact h _ (List.getElem_mem hi)
theorem isZero_do:DoC 159 21 1 1 (fun f L l=>some (soOn f (L.ws++[if l.getD 0 0=0 then 1 else 0]) L.ms)):=by
 intro w0 b m L l gs gt rest w hT hN hp hop hl hly hfr ht hs
 obtain ⟨gt0,cur,ct,htk,rfl,hcur⟩:=took_at ht (by omega)
 have hrdT:∀ {E fr},Rd Tryz.prog 23 (.cells (mca m) E fr) 18 (.slice (some ⟨gt0,0,none⟩) l.length ct):=fun {E fr}=>by rw [show Value.slice (some ⟨gt0,0,none⟩) l.length ct=m.took from htk.symm];exact ma_rd18
 have hrdX:Rd Tryz.prog 29 (.cells cur 29 (0,0)) (0+0 * 4) (wv (l.getD 0 0)):=word_rd hcur 0 (by omega)
 have hx:l.getD 0 0 < M256:=getD_wlt hp.ls (by omega)
 dsimp only
 obtain ⟨x,hxe⟩:∃ x,l.getD 0 0=x:=⟨_,rfl⟩
 rw [hxe] at hrdX hx ⊢
 obtain ⟨Z,hZ⟩:∃ Z,(if x=0 then 1 else 0)=Z:=⟨_,rfl⟩
 have hZ2:(if decide (x=0)=true then 1 else 0)=Z:=by rw [← hZ];by_cases h:x=0<;>simp [h]
 rw [hZ]
 refine calls_anyO (calls_inlineP (K:=anyO (DoK14 b m.fr L (some (soOn m.fr (L.ws++[Z]) L.ms)) rest)) (args:=[_]) Tryz.func159 rfl Tryz.ntmps159 rfl ?_ hs)
 (refine zL<|vMz<|vMz<|vNz<|vFz<|ldz rfl .head hrdT ?_;refine lvz (.indexAddrSL rfl rfl (by decide) (by omega)) ?_;refine ldz rfl (.tail (.app .head)) hrdX ?_;apply LW.v0;rfl;rfl;exact ValP.buildW0;refine lvz (.eqW rfl rfl (by assumption) (by omega)) ?_;apply zS;rfl;rfl;infer_instance;exact .cons rfl .nil;intro w _;exact truth_calls _ w;apply LW.layA;rfl;infer_instance;infer_instance;rfl;rfl;rfl;rfl;rfl;intro _)
 rw [hZ2]
 rename_i bz
 refine LW.perm (fs':=(b,maO m)::(gs++((bz,.cells (wc Z) 29 (0,0))::(gt0,.cells cur 29 (0,0))::rest))) ?_ ?_
 ·exact perm_ix [[_],gs,[_]] (xs:=[0,1,2]) (ys:=[2,0,1]) ((gt0,.cells cur 29 (0,0))::rest) rfl
 refine LW.callSt (K:=fun v fs'=>LayP b m L [Z] ((bz,.cells (wc Z) 29 (0,0))::(gt0,.cells cur 29 (0,0))::rest) (.returned v) fs') rfl rfl inferInstance (by (exact .cons rfl (.cons rfl .nil))) (fun w' hst=>Calls.mono (layP_calls w0 [] b m L gs [Z] _ hp.ok (by show 1≤100000;omega) hly hfr _ w' (fun w2 h2=>row_cells (h2.own (bz,_) (qQ _ (List.mem_append_right _ List.mem_cons_self))).2 rfl rfl (by show 1≤maxLen;decide)) hst) fun x w'' ⟨fs',hk,hst⟩=>⟨_,fs',hk.1,by { have h:=hk;rw [hk.1] at h;exact h },hst⟩) ?_
 rintro v fs' ⟨hv,s,k,gs',hfr',rfl⟩
 cases hv
 (apply zV)
 refine inPI (.inr rfl) .nil rfl .nil rfl ⟨_,⟨rfl,_,gs',SoD.on (m:=m.setF (m.fr.setR m.fr.gas s k)) (s:=s) (k:=k) hp.kind rfl hfr'.toP,rfl⟩,_,?_,.refl _⟩
 exact List.Sublist.cons_cons _ (List.Sublist.append_left (.cons _ (.cons _ (.refl _))) gs')
theorem not_do:DoC 160 25 1 1 (fun f L l=>some (soOn f (L.ws++[M256 - 1 - l.getD 0 0]) L.ms)):=by
 intro w0 b m L l gs gt rest w hT hN hp hop hl hly hfr ht hs
 obtain ⟨gt0,cur,ct,htk,rfl,hcur⟩:=took_at ht (by omega)
 have hrdT:∀ {E fr},Rd Tryz.prog 23 (.cells (mca m) E fr) 18 (.slice (some ⟨gt0,0,none⟩) l.length ct):=fun {E fr}=>by rw [show Value.slice (some ⟨gt0,0,none⟩) l.length ct=m.took from htk.symm];exact ma_rd18
 have hrdX:Rd Tryz.prog 29 (.cells cur 29 (0,0)) (0+0 * 4) (wv (l.getD 0 0)):=word_rd hcur 0 (by omega)
 have hx:l.getD 0 0 < M256:=getD_wlt hp.ls (by omega)
 dsimp only
 obtain ⟨x,hxe⟩:∃ x,l.getD 0 0=x:=⟨_,rfl⟩
 rw [hxe] at hrdX hx ⊢
 refine calls_anyO (calls_inlineP (K:=anyO (DoK14 b m.fr L (some (soOn m.fr (L.ws++[M256 - 1 - x]) L.ms)) rest)) (args:=[_]) Tryz.func160 rfl Tryz.ntmps160 rfl ?_ hs)
 (refine zL<|vMz<|vMz<|vNz<|vFz<|ldz rfl .head hrdT ?_;refine lvz (.indexAddrSL rfl rfl (by decide) (by omega)) ?_;refine ldz rfl (.tail (.app .head)) hrdX ?_;apply zS;rfl;rfl;infer_instance;exact .cons rfl .nil;intro w _;exact Not_calls _ (by assumption) w;apply LW.layA;rfl;infer_instance;infer_instance;rfl;rfl;rfl;rfl;rfl;intro _)
 obtain ⟨Z,hZ⟩:∃ Z,M256 - 1 - x=Z:=⟨_,rfl⟩
 rw [hZ]
 rename_i bz
 refine LW.perm (fs':=(b,maO m)::(gs++((bz,.cells (wc Z) 29 (0,0))::(gt0,.cells cur 29 (0,0))::rest))) ?_ ?_
 ·exact perm_ix [[_],gs,[_]] (xs:=[0,1,2]) (ys:=[2,0,1]) ((gt0,.cells cur 29 (0,0))::rest) rfl
 refine LW.callSt (K:=fun v fs'=>LayP b m L [Z] ((bz,.cells (wc Z) 29 (0,0))::(gt0,.cells cur 29 (0,0))::rest) (.returned v) fs') rfl rfl inferInstance (by (exact .cons rfl (.cons rfl .nil))) (fun w' hst=>Calls.mono (layP_calls w0 [] b m L gs [Z] _ hp.ok (by show 1≤100000;omega) hly hfr _ w' (fun w2 h2=>row_cells (h2.own (bz,_) (qQ _ (List.mem_append_right _ List.mem_cons_self))).2 rfl rfl (by show 1≤maxLen;decide)) hst) fun x w'' ⟨fs',hk,hst⟩=>⟨_,fs',hk.1,by { have h:=hk;rw [hk.1] at h;exact h },hst⟩) ?_
 rintro v fs' ⟨hv,s,k,gs',hfr',rfl⟩
 cases hv
 (apply zV)
 refine inPI (.inr rfl) .nil rfl .nil rfl ⟨_,⟨rfl,_,gs',SoD.on (m:=m.setF (m.fr.setR m.fr.gas s k)) (s:=s) (k:=k) hp.kind rfl hfr'.toP,rfl⟩,_,?_,.refl _⟩
 exact List.Sublist.cons_cons _ (List.Sublist.append_left (.cons _ (.cons _ (.refl _))) gs')
theorem value_do:DoC 161 52 0 1 (fun f L l=>some (soOn f (L.ws++[f.val]) L.ms)):=by
 intro w0 b m L l gs gt rest w hT hN hp hop hl hly hfr ht hs
 refine calls_anyO (calls_inlineP (K:=anyO (DoK14 b m.fr L (some (soOn m.fr (L.ws++[m.fr.val]) L.ms)) rest)) (args:=[_]) Tryz.func161 rfl Tryz.ntmps161 rfl ?_ hs)
 (refine zL<|vMz<|vMz<|vNz<|vFz<|vFz<|ldz rfl .head ma_rd7 ?_;apply LW.layA;rfl;infer_instance;infer_instance;rfl;rfl;rfl;rfl;rfl;intro _)
 obtain ⟨Z,hZ⟩:∃ Z,m.fr.val=Z:=⟨_,rfl⟩
 rw [hZ]
 rename_i bz
 refine LW.perm (fs':=(b,maO m)::(gs++((bz,.cells (wc Z) 29 (0,0))::gt++rest))) ?_ ?_
 ·exact perm_ix [[_],gs,[_]] (xs:=[0,1,2]) (ys:=[2,0,1]) (gt++rest) rfl
 refine LW.callSt (K:=fun v fs'=>LayP b m L [Z] ((bz,.cells (wc Z) 29 (0,0))::gt++rest) (.returned v) fs') rfl rfl inferInstance (by (exact .cons rfl (.cons rfl .nil))) (fun w' hst=>Calls.mono (layP_calls w0 [] b m L gs [Z] _ hp.ok (by show 1≤100000;omega) hly hfr _ w' (fun w2 h2=>row_cells (h2.own (bz,_) (qQ _ (List.mem_append_right _ List.mem_cons_self))).2 rfl rfl (by show 1≤maxLen;decide)) hst) fun x w'' ⟨fs',hk,hst⟩=>⟨_,fs',hk.1,by { have h:=hk;rw [hk.1] at h;exact h },hst⟩) ?_
 rintro v fs' ⟨hv,s,k,gs',hfr',rfl⟩
 cases hv
 (apply zV)
 refine inPI (.inr rfl) .nil rfl .nil rfl ⟨_,⟨rfl,_,gs',SoD.on (m:=m.setF (m.fr.setR m.fr.gas s k)) (s:=s) (k:=k) hp.kind rfl hfr'.toP,rfl⟩,_,?_,.refl _⟩
 exact List.Sublist.cons_cons _ (List.Sublist.append_left (.cons _ (List.sublist_append_right _ _)) gs')
theorem SoD.ask {f:FrV} {L:FrL} {o:SO} {m:MaV} {gs g2 g3:Fs} {s k:Value} (h0:o.kind ≠ 0) (hk:m.kind=o.kind) (ho:m.op=o.op) (hf:m.fr=soF f o s k) (h:FrP m.fr (soL L o) gs) (h2:wM o.words m.words g2) (h3:bM o.data m.data g3):SoD f L o m (gs++(g2++g3)) :=
 ⟨s,k,gs,g2,g3,hf,hk,.refl _,h,.inr ⟨h0,ho,h2,h3⟩⟩
theorem bM_nil:bM [] (.slice none 0 0) []:=.nil
theorem wM_nil:wM [] (.slice none 0 0) []:=.nil
theorem wM_sl {l:List Nat} {t:Value} {gt:Fs} (h:wM l t gt):∃ p n c,t=.slice p n c:=by
 unfold wM at h
 obtain ⟨q,c,rfl⟩:=h.form
 exact ⟨_,_,_,rfl⟩
theorem state_do (op:Nat):DoC 171 op 0 0 (fun f L l=>some (stateV op f L l)):=by
 intro w0 b m L l gs gt rest w hT hN hp hop hl hly hfr ht hs
 refine Calls.mono (state_calls w0 [] b m _ (wM_sl ht) w hs) ?_
 rintro x w' ⟨fs',⟨rfl,rfl⟩,hst⟩
 refine ⟨(b,maO (m.setAsk 1 m.op m.took (.slice none 0 0)))::((gs++(gt++[]))++rest),⟨rfl,m.setAsk 1 m.op m.took (.slice none 0 0),gs++(gt++[]),SoD.ask (by show (1:Int) ≠ 0;decide) rfl hop rfl hfr ht bM_nil,rfl⟩,?_⟩
 rw [List.append_nil,List.append_assoc]
 exact hst
theorem change_do (op:Nat):DoC 172 op 0 0 (fun f L l=>if f.stat=true then none else some (stateV op f L l)):=by
 intro w0 b m L l gs gt rest w hT hN hp hop hl hly hfr ht hs
 dsimp only
 cases hst0:m.fr.stat with
 |true =>
  have hrd13:∀ {E fr},Rd Tryz.prog 4 (.cells (mca m) E fr) 13 (.bool true):=fun {E fr}=>by rw [← hst0];exact ma_rd13
  rw [if_pos rfl]
  refine calls_anyO (calls_inlineP (K:=anyO (DoK14 b m.fr L none rest)) (args:=[_]) Tryz.func172 rfl Tryz.ntmps172 rfl ?_ hs)
  (refine sRz<|vMz<|vNz<|vFz<|vFz<|ldz rfl .head hrd13 ?_;refine lvz (.notT rfl (by with_reducible rfl)) ?_)
  refine LW.callP (K:=NeedK ((b,maO m)::(gs++(gt++rest)))) rfl rfl inferInstance (by (exact .cons rfl .nil)) rfl (fun fs h=>by cases h.1) (fun w' hst=>need_false w0 [] _ w' hst) ?_ ?_
  ·rintro v fs' ⟨h,_⟩
   cases h
  ·rintro ch fs' ⟨h,rfl⟩
   cases h
   refine thenP ?_
   exact inPP .nil ⟨rest,⟨rfl,rfl⟩,_,qS _ ((List.sublist_append_right _ _).trans (List.sublist_append_right _ _)),.refl _⟩
 |false =>
  have hrd13:∀ {E fr},Rd Tryz.prog 4 (.cells (mca m) E fr) 13 (.bool false):=fun {E fr}=>by rw [← hst0];exact ma_rd13
  rw [if_neg (by decide)]
  refine calls_anyO (calls_inlineP (K:=anyO (DoK14 b m.fr L (some (stateV op m.fr L l)) rest)) (args:=[_]) Tryz.func172 rfl Tryz.ntmps172 rfl ?_ hs)
  (refine sRz<|vMz<|vNz<|vFz<|vFz<|ldz rfl .head hrd13 ?_;refine lvz (.notF rfl (by with_reducible rfl)) ?_;apply zS;rfl;rfl;infer_instance;exact .cons rfl .nil;intro w _;exact need_true w;refine nNz<|zL<|vMz ?_)
  refine LW.callSt (K:=fun v fs'=>DoK14 b m.fr L (some (stateV op m.fr L l)) rest (.returned v) fs') rfl rfl inferInstance (by (exact .cons rfl .nil)) (fun w' hst=>Calls.mono (state_do op w0 b m L l gs gt rest w' hT hN hp hop hl hly hfr ht hst) fun x w'' ⟨fs',hk,hst⟩=>⟨_,fs',hk.1,by { have h:=hk;rw [hk.1] at h;exact h },hst⟩) ?_
  rintro v fs' ⟨hv,hk⟩
  cases hv
  (apply zV)
  exact inPI (.inr rfl) .nil rfl .nil rfl ⟨_,⟨rfl,hk⟩,_,.refl _,.refl _⟩
theorem stop_do:DoC 174 0 0 0 (fun f L l=>some ⟨3,0,f.gas,f.pc,L.ws,L.ms,[],[]⟩):=by
 intro w0 b m L l gs gt rest w hT hN hp hop hl hly hfr ht hs
 refine calls_anyO (calls_inlineP (K:=anyO (DoK14 b m.fr L (some ⟨3,0,m.fr.gas,m.fr.pc,L.ws,L.ms,[],[]⟩) rest)) (args:=[_]) Tryz.func174 rfl Tryz.ntmps174 rfl ?_ hs)
 (refine zL<|vMz ?_;apply LW.v0;rfl;rfl;apply zW;infer_instance;infer_instance;apply zA;rfl;exact zB;rfl;simp only [fillP,wrCells,Value.cells,qJ,qK,qL,qI,qN,qM,Nat.reduceAdd,qP];rfl;refine vNz<|vFz ?_;refine zR rfl rfl .head ma_wr19 ?_;apply zV)
 refine inPI (.inr rfl) .nil rfl .nil rfl ⟨(b,maO (m.setAsk 3 0 (.slice none 0 0) (.slice none 0 0)))::((gs++([]++[]))++rest),⟨rfl,m.setAsk 3 0 (.slice none 0 0) (.slice none 0 0),gs++([]++[]),SoD.ask (by show (3:Int) ≠ 0;decide) rfl rfl rfl hfr wM_nil bM_nil,rfl⟩,_,?_,.refl _⟩
 refine List.Sublist.cons_cons _ ?_
 rw [List.append_nil,List.append_nil]
 exact List.Sublist.append_left (List.sublist_append_right _ _) gs
end
section
open CK (jumpC)
attribute [local irreducible] SL.inP
theorem dataLoad_do:DoC 162 53 1 1 (fun f L l=>some (soOn f (L.ws++[bev (winL L.il (l.getD 0 0) 32)]) L.ms)):=by
 intro w0 b m L l gs gt rest w hT hN hp hop hl hly hfr ht hs
 obtain ⟨gt0,cur,ct,htk,rfl,hcur⟩:=took_at ht (by omega)
 replace hs:St w0 [] ((b,maO m)::(gs++((gt0,.cells cur 29 (0,0))::rest))) w:=hs
 have hrdT:∀ {E fr},Rd Tryz.prog 23 (.cells (mca m) E fr) 18 (.slice (some ⟨gt0,0,none⟩) l.length ct):=fun {E fr}=>by rw [show Value.slice (some ⟨gt0,0,none⟩) l.length ct=m.took from htk.symm];exact ma_rd18
 have hrdX:Rd Tryz.prog 29 (.cells cur 29 (0,0)) (0+0 * 4) (wv (l.getD 0 0)):=word_rd hcur 0 (by omega)
 have hx:l.getD 0 0 < M256:=getD_wlt hp.ls (by omega)
 dsimp only
 obtain ⟨x,hxe⟩:∃ x,l.getD 0 0=x:=⟨_,rfl⟩
 rw [hxe] at hrdX hx ⊢
 have hwl:(winL L.il x 32).length≤32:=by rw [winL_len];exact Nat.le_refl _
 obtain ⟨Z,hZ⟩:∃ Z,bev (winL L.il x 32)=Z:=⟨_,rfl⟩
 rw [hZ]
 obtain ⟨g1,g2,g3,g4,g5,hpm,hall⟩:=id hfr
 have r4:=hall.2.2.2.1
 unfold bM at r4
 obtain ⟨q4,k4,hi⟩:=id r4.form
 rw [hi] at r4
 have hrdI:∀ {E fr},Rd Tryz.prog 22 (.cells (mca m) E fr) 11 (.slice q4 L.il.length k4):=fun {E fr}=>by rw [← hi];exact ma_rd11
 obtain ⟨us4,hbl4,hin4,hrows4⟩:=rowU_own r4
 have hin4':∀ p∈us4,p∈gs:=fun p h=>hpm.subset (by have h2:=hin4 p h;simp [h2])
 refine calls_anyO (calls_inlineP (K:=anyO (DoK14 b m.fr L (some (soOn m.fr (L.ws++[Z]) L.ms)) rest)) (args:=[_]) Tryz.func162 rfl Tryz.ntmps162 rfl ?_ hs)
 skip
 apply CW.pre
 (refine AnyW.anyM [(12,bM (winL L.il x 32))] 15 mixed (by decide +kernel) ?_)
 ((try simp only [tsOf_cons,tsOf_nil,tsOf_app]);refine dvz (.move rfl)<|dvz (.move rfl)<|dvz (.nilCheck rfl)<|dvz (.fieldAddr rfl rfl)<|dvz (.fieldAddr rfl rfl) ?_;apply qF;rfl;rfl;rfl;exact zC;rfl;apply zP;exact zN;exact hrdI;refine dvz (.move rfl)<|dvz (.nilCheck rfl)<|dvz (.fieldAddr rfl rfl) ?_;apply qF;rfl;rfl;rfl;exact zC;rfl;apply zP;exact zN;exact hrdT;refine dvz (.indexAddrSL rfl rfl (by decide) (by omega)) ?_;apply qF;rfl;rfl;rfl;exact zC;rfl;apply zO;apply zQ;apply zP;exact zN;exact hrdX)
 refine DW.manyA us4 rfl rfl rfl (by (exact zC)) rfl inferInstance (by (exact .cons rfl (.cons rfl (.cons rfl .nil)))) (by rw [List.flatMap_cons,hbl4];exact List.append_nil _) (fun p hp=>AncT.lie (by (refine AncT.cons ?_ ?_;exact zN;refine AncT.app ?_ ?_;exact AncT.tsOf;refine AncT.cons ?_ ?_;exact zN;exact AncT.tsOf)) (by have hp:=hin4' p hp;simp [fsOf,tsOf,tsNew,tsTag,markAll,Function.comp_def,hp])) (fun w _ hu=>window_calls L.il x 32 (by omega) hx (by have:=hp.il;omega) _ w (hrows4 w hu)) ?_
 intro vD gD hD
 have hD':=hD
 obtain ⟨q5,k5,rfl⟩:=id (IsRow.form hD')
 obtain ⟨us5,hbl5,hin5,hrows5⟩:=rowU_own hD'
 (try simp only [markAll_cons,markAll_app,markAll_tsOf,markAll_tag,markAll_new,markAll_nil])
 ((try simp only [tsOf_cons,tsOf_nil,tsOf_app]))
 refine DW.callA us5 (v:=wv Z) rfl rfl rfl (by (exact zC)) rfl inferInstance (by (exact .cons rfl .nil)) (by rw [List.flatMap_cons,hbl5];exact List.append_nil _) (fun p hp=>AncT.lie (by (refine AncT.app ?_ ?_;refine AncT.new ?_;kernel_rfl;refine AncT.cons ?_ ?_;exact zN;refine AncT.app ?_ ?_;refine AncT.tag ?_;exact zN;refine AncT.cons ?_ ?_;exact zN;refine AncT.tag ?_;exact zN)) (by have hp:=hin5 p hp;simp [fsOf,tsOf,tsNew,tsTag,markAll,Function.comp_def,hp])) (fun w _ hu=>by rw [← hZ];exact number_calls _ _ hwl w (hrows5 w hu)) ?_
 (try simp only [markAll_cons,markAll_app,markAll_tsOf,markAll_tag,markAll_new,markAll_nil])
 ((try simp only [tsOf_cons,tsOf_nil,tsOf_app]);apply DW.layA;rfl;rfl;rfl;exact zC;infer_instance;infer_instance;rfl;rfl;rfl;rfl;rfl;intro _;apply DW.nil;simp only [fsOf_cons,fsOf_nil,fsOf_app,fsOf_tsOf,fsOf_new,fsOf_tag,fsOf_mark])
 try simp only [fsOf_mark,fsOf_cons,fsOf_nil,fsOf_app,fsOf_tsOf,fsOf_new,fsOf_tag,List.append_eq,List.nil_append]
 skip
 rename_i bz
 refine LW.perm (fs':=(b,maO m)::(gs++((bz,.cells (wc Z) 29 (0,0))::gD++(gt0,.cells cur 29 (0,0))::rest))) ?_ ?_
 ·exact perm_ix [[_],gs,[_],gD] (xs:=[0,1,2,3]) (ys:=[2,3,0,1]) (_::rest) rfl
 refine LW.callSt (K:=fun v fs'=>LayP b m L [Z] ((bz,.cells (wc Z) 29 (0,0))::gD++(gt0,.cells cur 29 (0,0))::rest) (.returned v) fs') rfl rfl inferInstance (by (exact .cons rfl (.cons rfl .nil))) (fun w' hst=>Calls.mono (layP_calls w0 [] b m L gs [Z] _ hp.ok (by show 1≤100000;omega) hly hfr _ w' (fun w2 h2=>row_cells (h2.own (bz,_) (qQ _ (List.mem_append_right _ List.mem_cons_self))).2 rfl rfl (by show 1≤maxLen;decide)) hst) fun x w'' ⟨fs',hk,hst⟩=>⟨_,fs',hk.1,by { have h:=hk;rw [hk.1] at h;exact h },hst⟩) ?_
 rintro v fs' ⟨hv,s,k,gs',hfr',rfl⟩
 cases hv
 (apply zV)
 refine inPI (.inr rfl) .nil rfl .nil rfl ⟨_,⟨rfl,_,gs',SoD.on (m:=m.setF (m.fr.setR m.fr.gas s k)) (s:=s) (k:=k) hp.kind rfl hfr'.toP,rfl⟩,_,?_,.refl _⟩
 exact List.Sublist.cons_cons _ (List.Sublist.append_left (.cons _ ((qS _ (.refl _)).trans (List.sublist_append_right gD _))) gs')
theorem DoK14.ret {b:Nat} {f:FrV} {L:FrL} {o:Option SO} {rest:Fs} {v:Value} {fs:Fs} (h:DoK14 b f L o rest (.returned v) fs):v=.tuple #[]:=by
 cases o with
 |none=>cases h.1
 |some o=>exact Ending.returned.inj h.1
theorem DoK14.pan {b:Nat} {f:FrV} {L:FrL} {o:Option SO} {rest:Fs} {ch:List PanicEntry} {fs:Fs} (h:DoK14 b f L o rest (.panicked ch) fs):ch=failC:=by
 cases o with
 |none=>exact Ending.panicked.inj h.1
 |some o=>cases h.1
theorem DoK14.plain {b:Nat} {f:FrV} {L:FrL} {o:Option SO} {rest:Fs}:(DoK14 b f L o rest).plain:=fun fs h=>by
 cases o<;>cases h.1
theorem SoD.jump {m:MaV} {L:FrL} {gs:Fs} {x:Nat} (hk:m.kind=0) (h:FrP m.fr L gs):SoD m.fr L (soOn { m.fr with pc:=(x:Int) } L.ws L.ms) (m.setF (m.fr.setPc (x:Int))) gs :=
 SoD.on (m:=m.setF (m.fr.setPc (x:Int))) (s:=m.fr.stk) (k:=m.fr.mem) hk rfl h
theorem jumpC_lt {bs:List UInt8} {n:Nat} (h:jumpC bs n=true):n < 200:=by
 unfold CK.jumpC at h
 rw [Bool.and_eq_true] at h
 exact of_decide_eq_true h.1
theorem jump_do (op:Nat):DoC 169 op 1 0 (fun f L l=>jumpV f L (l.getD 0 0)):=by
 intro w0 b m L l gs gt rest w hT hN hp hop hl hly hfr ht hs
 obtain ⟨gt0,cur,ct,htk,rfl,hcur⟩:=took_at ht (by omega)
 replace hs:St w0 [] ((b,maO m)::(gs++((gt0,.cells cur 29 (0,0))::rest))) w:=hs
 have hrdT:∀ {E fr},Rd Tryz.prog 23 (.cells (mca m) E fr) 18 (.slice (some ⟨gt0,0,none⟩) l.length ct):=fun {E fr}=>by rw [show Value.slice (some ⟨gt0,0,none⟩) l.length ct=m.took from htk.symm];exact ma_rd18
 have hrdX:Rd Tryz.prog 29 (.cells cur 29 (0,0)) (0+0 * 4) (wv (l.getD 0 0)):=word_rd hcur 0 (by omega)
 have hx:l.getD 0 0 < M256:=getD_wlt hp.ls (by omega)
 dsimp only
 obtain ⟨x,hxe⟩:∃ x,l.getD 0 0=x:=⟨_,rfl⟩
 rw [hxe] at hrdX hx ⊢
 obtain ⟨g1,g2,g3,g4,g5,hpm,hall⟩:=id hfr
 have r1:=hall.1
 unfold bM at r1
 obtain ⟨q1,k1,hi⟩:=id r1.form
 rw [hi] at r1
 have hrdC:∀ {E fr},Rd Tryz.prog 22 (.cells (mca m) E fr) 0 (.slice q1 L.cl.length k1):=fun {E fr}=>by rw [← hi];exact ma_rd0
 have hSm0:=Small_calls x hx
 unfold jumpV
 by_cases hx64:x < 18446744073709551616
 ·rw [if_pos hx64,decide_eq_true hx64] at hSm0
  have hSm:∀ w,Calls Tryz.prog 116 #[wv x] w (Ret w (.tuple #[.int .u64 (x:Int),.bool true])):=hSm0
  have hJ0:∀ w' {fs:Fs},St w0 [] ((b,maO m)::(gs++fs)) w'→Calls Tryz.prog 209 #[.slice q1 L.cl.length k1,.int .u64 (x:Int)] w' (Ret w' (.bool (jumpC L.cl x))):=fun w' fs hst=>by
   have h:=(hfr.st hst fun p hp=>qQ _ (List.mem_append_left _ hp)).c
   rw [hi] at h
   exact CK.Jump_calls L.cl x hx64 _ w' h
  cases hj:jumpC L.cl x with
  |true =>
   have hJ:∀ w' {fs:Fs},St w0 [] ((b,maO m)::(gs++fs)) w'→Calls Tryz.prog 209 #[.slice q1 L.cl.length k1,.int .u64 (x:Int)] w' (Ret w' (.bool true)):=fun w' fs hst=>hj ▸ hJ0 w' hst
   have hx200:=jumpC_lt hj
   rw [if_pos ⟨hx64,rfl⟩]
   refine calls_anyO (calls_inlineP (K:=anyO (DoK14 b m.fr L (some (soOn { m.fr with pc:=(x:Int) } L.ws L.ms)) rest)) (args:=[_]) Tryz.func169 rfl Tryz.ntmps169 rfl ?_ hs)
   (refine sRz<|vMz<|vNz<|vFz<|ldz rfl .head hrdT ?_;refine lvz (.indexAddrSL rfl rfl (by decide) (by omega)) ?_;refine ldz rfl (.tail (.app .head)) hrdX ?_;apply zS;rfl;rfl;infer_instance;exact .cons rfl .nil;intro w _;exact hSm w;refine vMz ?_;refine vEz ?_;refine vEz ?_;refine vAz<|vAz<|nSz<|vMz<|vMz<|gTz<|vMz<|gTz<|vNz<|gTz<|vFz<|gTz<|vFz<|gTz ?_;refine ldz rfl .head hrdC<|gTz<|vMz<|gTz ?_;apply zS;rfl;rfl;infer_instance;exact .cons rfl (.cons rfl .nil);intro w _;rename_i hst;exact hJ w hst;refine pTz ?_;apply zS;rfl;rfl;infer_instance;exact .cons rfl .nil;intro w _;exact need_true w;refine nNz<|zL<|vMz<|vMz ?_;refine lvz (.convI rfl (by omega) (by omega)) ?_;refine vNz<|vFz<|vFz ?_;apply zR;rfl;rfl;apply qA;apply ma_wr1 (z:=.int .i64 0);apply zV)
   refine inPI (.inr rfl) .nil rfl .nil rfl ⟨_,⟨rfl,_,gs,SoD.jump hp.kind hfr,rfl⟩,_,?_,.refl _⟩
   exact List.Sublist.cons_cons _ (List.Sublist.append_left (.cons _ (.refl _)) gs)
  |false =>
   have hJ:∀ w' {fs:Fs},St w0 [] ((b,maO m)::(gs++fs)) w'→Calls Tryz.prog 209 #[.slice q1 L.cl.length k1,.int .u64 (x:Int)] w' (Ret w' (.bool false)):=fun w' fs hst=>hj ▸ hJ0 w' hst
   rw [if_neg (fun h=>by cases h.2)]
   refine calls_anyO (calls_inlineP (K:=anyO (DoK14 b m.fr L none rest)) (args:=[_]) Tryz.func169 rfl Tryz.ntmps169 rfl ?_ hs)
   (refine sRz<|vMz<|vNz<|vFz<|ldz rfl .head hrdT ?_;refine lvz (.indexAddrSL rfl rfl (by decide) (by omega)) ?_;refine ldz rfl (.tail (.app .head)) hrdX ?_;apply zS;rfl;rfl;infer_instance;exact .cons rfl .nil;intro w _;exact hSm w;refine vMz ?_;refine vEz ?_;refine vEz ?_;refine vAz<|vAz<|nSz<|vMz<|vMz<|gTz<|vMz<|gTz<|vNz<|gTz<|vFz<|gTz<|vFz<|gTz ?_;refine ldz rfl .head hrdC<|gTz<|vMz<|gTz ?_;apply zS;rfl;rfl;infer_instance;exact .cons rfl (.cons rfl .nil);intro w _;rename_i hst;exact hJ w hst;refine pTz ?_)
   refine LW.callP (K:=NeedK ((b,maO m)::(gs++((gt0,.cells cur 29 (0,0))::rest)))) rfl rfl inferInstance (by (exact .cons rfl .nil)) rfl (fun fs h=>by cases h.1) (fun w' hst=>need_false w0 [] _ w' hst) ?_ ?_
   ·rintro v fs' ⟨h,_⟩
    cases h
   ·rintro ch fs' ⟨h,rfl⟩
    cases h
    refine thenP ?_
    exact inPP .nil ⟨rest,⟨rfl,rfl⟩,_,qS _ ((qS _ (.refl _)).trans (List.sublist_append_right _ _)),.refl _⟩
 ·rw [if_neg hx64,decide_eq_false hx64] at hSm0
  have hSm:∀ w,Calls Tryz.prog 116 #[wv x] w (Ret w (.tuple #[.int .u64 ((0:Nat):Int),.bool false])):=hSm0
  rw [if_neg (fun h=>hx64 h.1)]
  refine calls_anyO (calls_inlineP (K:=anyO (DoK14 b m.fr L none rest)) (args:=[_]) Tryz.func169 rfl Tryz.ntmps169 rfl ?_ hs)
  (refine sRz<|vMz<|vNz<|vFz<|ldz rfl .head hrdT ?_;refine lvz (.indexAddrSL rfl rfl (by decide) (by omega)) ?_;refine ldz rfl (.tail (.app .head)) hrdX ?_;apply zS;rfl;rfl;infer_instance;exact .cons rfl .nil;intro w _;exact hSm w;refine vMz ?_;refine vEz ?_;refine vEz ?_;refine vAz<|vAz<|nSz<|vMz<|vMz ?_;(iterate 7 refine gFz ?_);refine pFz ?_)
  refine LW.callP (K:=NeedK ((b,maO m)::(gs++((gt0,.cells cur 29 (0,0))::rest)))) rfl rfl inferInstance (by (exact .cons rfl .nil)) rfl (fun fs h=>by cases h.1) (fun w' hst=>need_false w0 [] _ w' hst) ?_ ?_
  ·rintro v fs' ⟨h,_⟩
   cases h
  ·rintro ch fs' ⟨h,rfl⟩
   cases h
   refine thenP ?_
   exact inPP .nil ⟨rest,⟨rfl,rfl⟩,_,qS _ ((qS _ (.refl _)).trans (List.sublist_append_right _ _)),.refl _⟩
theorem jumpIf_do:DoC 170 87 2 0 (fun f L l=>if l.getD 1 0=0 then some (soOn f L.ws L.ms) else jumpV f L (l.getD 0 0)):=by
 intro w0 b m L l gs gt rest w hT hN hp hop hl hly hfr ht hs
 obtain ⟨gt0,cur,ct,htk,hgt,hcur⟩:=took_at ht (by omega)
 have hrdT:∀ {E fr},Rd Tryz.prog 23 (.cells (mca m) E fr) 18 (.slice (some ⟨gt0,0,none⟩) l.length ct):=fun {E fr}=>by rw [show Value.slice (some ⟨gt0,0,none⟩) l.length ct=m.took from htk.symm];exact ma_rd18
 have hrdY:Rd Tryz.prog 29 (.cells cur 29 (0,0)) (0+1 * 4) (wv (l.getD 1 0)):=word_rd hcur 1 (by omega)
 dsimp only
 obtain ⟨y,hye⟩:∃ y,l.getD 1 0=y:=⟨_,rfl⟩
 have hy:y < M256:=hye ▸ getD_wlt hp.ls (by omega)
 rw [hye] at hrdY ⊢
 have hs1:=hs
 rw [hgt] at hs1
 replace hs1:St w0 [] ((b,maO m)::(gs++((gt0,.cells cur 29 (0,0))::rest))) w:=hs1
 by_cases h0:y=0
 ·rw [if_pos h0]
  refine calls_anyO (calls_inlineP (K:=anyO (DoK14 b m.fr L (some (soOn m.fr L.ws L.ms)) rest)) (args:=[_]) Tryz.func170 rfl Tryz.ntmps170 rfl ?_ hs1)
  (refine sRz<|vMz<|vNz<|vFz<|ldz rfl .head hrdT ?_;refine lvz (.indexAddrSL rfl rfl (by decide) (by omega)) ?_;refine ldz rfl (.tail (.app .head)) hrdY ?_;apply LW.v0;rfl;rfl;exact ValP.buildW0;refine lvz (.neWF rfl rfl (by assumption)) ?_;refine nNz<|cFz<|zJ ?_)
  refine inPI (.inr rfl) .nil rfl .nil rfl ⟨_,⟨rfl,m,gs,SoD.on (s:=m.fr.stk) (k:=m.fr.mem) hp.kind rfl hfr,rfl⟩,_,?_,.refl _⟩
  exact List.Sublist.cons_cons _ (List.Sublist.append_left (.cons _ (.refl _)) gs)
 ·rw [if_neg h0]
  refine calls_anyO (calls_inlineP (K:=anyO (DoK14 b m.fr L (jumpV m.fr L (l.getD 0 0)) rest)) (args:=[_]) Tryz.func170 rfl Tryz.ntmps170 rfl ?_ hs1)
  (refine sRz<|vMz<|vNz<|vFz<|ldz rfl .head hrdT ?_;refine lvz (.indexAddrSL rfl rfl (by decide) (by omega)) ?_;refine ldz rfl (.tail (.app .head)) hrdY ?_;apply LW.v0;rfl;rfl;exact ValP.buildW0;refine lvz (.neWT rfl rfl (by assumption) (by omega) (by assumption)) ?_;refine nNz<|cTz<|zL<|vMz ?_)
  refine LW.callP (K:=DoK14 b m.fr L (jumpV m.fr L (l.getD 0 0)) rest) rfl rfl inferInstance (by (exact .cons rfl .nil)) rfl DoK14.plain (fun w' hst=>jump_do 87 w0 b m L l gs gt rest w' hT hN { hp with } hop (by omega) hly hfr ht (by rw [hgt];exact hst)) ?_ ?_
  ·rintro v fs' hk
   obtain rfl:=hk.ret
   (apply zV)
   exact inPI (.inr rfl) .nil rfl .nil rfl ⟨_,hk,_,.refl _,.refl _⟩
  ·rintro ch fs' hk
   obtain rfl:=hk.pan
   exact inPP .nil ⟨_,hk,_,.refl _,.refl _⟩
end
end Go.Proofs.YtdeggbkbblfpoaaGreatDoor
namespace Go.Proofs.YtdeggbkbblfpoaaGreatDoor.SL
set_option linter.unusedVariables false
set_option linter.unusedSimpArgs false
open Go Go.RowKit
def upTo (ops:Array Oper) (n:Nat):Array Bool:=((List.range ops.size).map fun j=>decide (j < n)).toArray
theorem upTo_size (ops:Array Oper) (n:Nat):(upTo ops n).size=ops.size:=by simp [upTo]
theorem upTo_get (ops:Array Oper) (n j:Nat) (d:Bool) (hj:j < ops.size):(upTo ops n).getD j d=decide (j < n):=by
 simp [upTo,hj]
def lexTo (ops:Array Oper) (target:Array Bool):Nat→Nat→Array Bool→Bool
 |0,_,listed=>decide (listed=target)
 |f+1,k,listed=>(Region.ready .any ops listed).contains k && Region.free .any ops listed k && lexTo ops target f (k+1) (listed.setIfInBounds k true)
def seqTo (ops:Array Oper) (target:Array Bool):Nat→Nat→Array Bool→Bool
 |0,_,listed=>decide (listed=target)
 |g+1,k,listed=>decide (Region.ready .any ops listed=[k]) && seqTo ops target g (k+1) (listed.setIfInBounds k true)
def chainB2 (ops:Array Oper) (n:Nat):Bool:=(List.range ops.size).all fun t=>decide (t≤n) ||(List.range t).any fun j=>decide (n≤j) && Region.waitsFor .any ops t j
def closedB (ops:Array Oper) (n:Nat):Bool:=(List.range n).all fun j=>match ops[j]? with
 |some oj=>oj.after.all fun e=>!Region.binds .any e ||decide (e.on < n)
 |none=>true
def midB (ops:Array Oper) (n m:Nat):Bool :=
 Region.noSelect ops && (noDefer ops && (decide (n < ops.size) && (decide (n+m≤ops.size) && (Region.sinkB .any ops n && (chainB2 ops n && (lexTo ops (upTo ops n) n 0 (Array.replicate ops.size false) && (seqTo ops (upTo ops (n+m)) m n (upTo ops n) &&
  (lexTo ops (upTo ops ops.size) (ops.size - (n+m)) (n+m) (upTo ops (n+m)) && ((Region.ready .any ops (upTo ops ops.size)).isEmpty && closedB ops (n+m))))))))))
theorem tail_waits2 {ops:Array Oper} {n:Nat} {listed:Array Bool} (hs:Region.sinkB .any ops n=true) (hc:chainB2 ops n=true) (hn:n < ops.size) (inv:HeadInv .any ops n listed) :
  ∀ (d i:Nat),n - i=d→i < n→listed.getD i true=false→∀ t,n≤t→t ∉ Region.ready .any ops listed:=by
 intro d
 induction d using Nat.strongRecOn with
 |_ d ih =>
  intro i hd hi hun t ht hr
  obtain ⟨_,ot,hot,hall⟩:=mem_ready.1 hr
  have htlt:t < ops.size:=(Array.getElem?_eq_some_iff.1 hot).1
  by_cases htn:t=n
  ·subst htn
   have h1:=List.all_eq_true.1 hs i (List.mem_range.2 hi)
   obtain ⟨j,hj,hj2⟩:=List.any_eq_true.1 h1
   simp only [Bool.and_eq_true,decide_eq_true_eq] at hj2
   obtain ⟨oj,hoj,e,he,hb,hon⟩:=Region.waitsFor_spec hj2.2
   have hjle:j≤t:=by have:=List.mem_range.1 hj;omega
   by_cases hjt:j=t
   ·subst hjt
    have:oj=ot:=Option.some.inj (hoj.symm.trans hot)
    subst this
    have h2:=hall e he hb
    rw [hon,getD_both hun] at h2
    cases h2
   ·cases hl:listed.getD j false with
    |true =>
     have h2:=inv.closed j oj hoj hl e he hb
     rw [hon,getD_both hun] at h2
     cases h2
    |false =>
     have hjs:j < listed.size:=by rw [inv.size];omega
     exact ih (t - j) (by omega) j rfl (by omega) (getD_in hjs hl) t (Nat.le_refl _) hr
  ·have h1:=List.all_eq_true.1 hc t (List.mem_range.2 htlt)
   simp only [Bool.or_eq_true,decide_eq_true_eq] at h1
   rcases h1 with h1|h1
   ·omega
   ·obtain ⟨j,hj,hj2⟩:=List.any_eq_true.1 h1
    simp only [Bool.and_eq_true,decide_eq_true_eq] at hj2
    have hjt:=List.mem_range.1 hj
    obtain ⟨o',ho',e,he,hb,hon⟩:=Region.waitsFor_spec hj2.2
    have:o'=ot:=Option.some.inj (ho'.symm.trans hot)
    subst this
    have h2:=hall e he hb
    rw [hon,getD_both (inv.tail j hj2.1 (by omega))] at h2
    cases h2
section lex
variable {G : Cx} {ops : Array Oper} {μ : Mu}
theorem AnyL_lex2 {n:Nat} {K:Kont} {target:Array Bool} (hX:ExOk ops μ) (hsel:Region.noSelect ops=true) (hT:∀ j∈Region.ready .any ops target,n≤j)
  (hwait:∀ listed,HeadInv .any ops n listed→∀ i,i < n→listed.getD i true=false→∀ t∈Region.ready .any ops listed,t < n) :
  ∀ (l:List Oper) (k:Nat) (listed:Array Bool) (a:Act) (φ:Facts) (tw tr:Tag),(∀ j,j < l.length→l[j]?=ops[k+j]?)→k+l.length=n→HeadInv .any ops n listed→G.inv φ→(∃ w,G.holds φ w) →
  lexTo ops target l.length k listed=true→walk G ops (Anc ops) μ K l k a φ tw tr →
  AnyL G ops μ n (fun listed' a' φ' tw' tr'=>listed'=target∧K a' φ' tw' tr') l.length listed a φ tw tr
 |[],k,listed,a,φ,tw,tr,_,hk,_,_,_,hB,h=>⟨of_decide_eq_true hB,h⟩
 |o::l,k,listed,a,φ,tw,tr,hl,hk,inv,hinv,hwit,hB,h=>by
  have h0:ops[k]?=some o:=by simpa using (hl 0 (by simp)).symm
  simp only [List.length_cons,lexTo,Bool.and_eq_true] at hB
  obtain ⟨⟨hr,hf⟩,hB'⟩:=hB
  have hkn:k < n:=by simp only [List.length_cons] at hk;omega
  have hr':k∈Region.ready .any ops listed:=by simpa using hr
  refine AnyL_first hX h0 (Region.noSelect_spec hsel) hwait hkn (fun listed' a' φ' tw' tr' hL=>by rw [hL.1];exact hT) l.length listed a φ tw tr inv hinv hwit (Region.free_spec h0 hf) hr' ?_
  refine dOp_mono (fun a' φ' tw' tr' h3=>?_) (dOp_wit hinv hwit h)
  exact AnyL_lex2 hX hsel hT hwait l (k+1) _ _ _ _ _ (fun j hj=>by have:=hl (j+1) (by simp;omega);simpa [Nat.add_assoc,Nat.add_comm 1 j] using this) (by simp only [List.length_cons] at hk;omega) (inv.set hr' hkn) h3.1.1 h3.1.2 hB' h3.2
end lex
theorem wpAnyIn_of_seq2 {F:Fence} {m:Nat} {P:Program} {ops:Array Oper} {Qm Q:Exit→Act→World→Prop} {g:Nat} {t2:Array Bool} (hn:∀ a w,Qm .normal a w→wpAnyIn F m P .any ops Q g t2 a w) (hp:∀ ch a w,Qm (.panic ch) a w→Q (.panic ch) a w) (hl:LetsOut Qm→LetsOut Q) :
  ∀ (l:List Oper) (k:Nat) (listed:Array Bool) (a:Act) (w:World),(∀ j,j < l.length→l[j]?=ops[k+j]?)→seqTo ops t2 l.length k listed=true→wpListIn F m P ops Qm l a w→wpAnyIn F m P .any ops Q (l.length+g) listed a w
 |[],_,listed,a,w,_,hB,h=>by
  have e:listed=t2:=of_decide_eq_true hB
  rw [e,List.length_nil,qP]
  exact hn _ _ h
 |o::l,k,listed,a,w,hle,hB,h=>by
  have h0:ops[k]?=some o:=by simpa using (hle 0 (by simp)).symm
  simp only [List.length_cons,seqTo,Bool.and_eq_true,decide_eq_true_eq] at hB
  rw [List.length_cons,show l.length+1+g=(l.length+g)+1 by omega]
  refine ⟨fun h1=>(by rw [hB.1] at h1;cases h1),fun i hi=>?_⟩
  rw [hB.1] at hi
  have hik:i=k:=by simpa using hi
  subst hik
  have hrec:∀ a w,wpListIn F m P ops Qm l a w→wpAnyIn F m P .any ops Q (l.length+g) (listed.setIfInBounds i true) a w:=fun a w h=>wpAnyIn_of_seq2 hn hp hl l (i+1) _ a w (fun j hj=>by have:=hle (j+1) (by simp;omega);simpa [Nat.add_assoc,Nat.add_comm 1 j] using this) hB.2 h
  unfold wpOpIn
  simp only [h0]
  unfold wpListIn at h
  split
  ·rename_i hw
   rw [if_pos hw] at h
   exact upon_join hrec hp hl h
  ·rename_i hw
   rw [if_neg hw] at h
   exact ⟨h.1,hrec _ _ h.2⟩
def midQ (C:Cu) (ops:Array Oper) (μ:Mu) (Q:Post) (tl:List Oper) (k:Nat):Post:=fun x ds e fs=>match x with
 |.normal=>ds=C.ds∧DW C ops μ Q [] tl k e (tsOf fs)
 |x=>Q x ds e fs
theorem facts_ok {C:Cu} {e:Env} {fs:Fs} {a:Act} {w:World} (hs:Sat C e fs a w):C.cx.inv (factsOf fs)∧C.cx.holds (factsOf fs) w∧Rel C.w0.heap.size (tsOf fs) (factsOf fs) (fun _ _=>False) (fun _ _=>False):=by
 have hnd:=hs.st.nd
 have hholds:C.cx.holds (factsOf fs) w:=⟨hs.st.bel,fun b o hb=>(hs.st.own _ (factsOf_dom b o hb)).2⟩
 have hinv:C.cx.inv (factsOf fs):=fun b hb=>by
  obtain ⟨o,ho⟩:=Option.ne_none_iff_exists'.1 hb
  exact (hs.st.own _ (factsOf_dom b o ho)).1
 refine ⟨hinv,hholds,fun p hp=>?_,fun p hp k hk=>hk.elim,fun p hp k hk=>hk.elim,fun _ _ _ h=>h,fun _ _ _ _ h=>h,?_⟩
 ·obtain ⟨q,hq,rfl⟩:=List.mem_map.1 hp
  exact factsOf_mem hnd q hq
 ·simp only [tsOf,List.pairwise_map];exact hnd
theorem CW.anyMid {C:Cu} {id:Nat} {l:List Oper} {Q:Post} {e:Env} {fs:Fs} (μ μ':Mu) (n m:Nat) (hX:ExOk l.toArray μ) (hX':ExOk l.toArray μ') (hm:C.P.follows .mixedOrders=true) (hB:midB l.toArray n m=true)
  (h:DW C l.toArray μ (midQ C l.toArray μ' Q (l.drop (n+m)) (n+m)) ((l.drop n).take m) (l.take n) 0 e (tsOf fs)) :
  CW C (.region id l.toArray true) Q e fs:=fun a w hs=>by
 simp only [midB,Bool.and_eq_true,decide_eq_true_eq] at hB
 obtain ⟨hsel,hnd,hn,hnm,hsk,hch,hlex1,hseq,hlex2,hend,hcl⟩:=hB
 have hsz:l.toArray.size=l.length:=by simp
 rw [hsz] at hn hnm
 obtain ⟨hinv,hholds,hrel⟩:=facts_ok hs
 have inv0:HeadInv .any l.toArray n (Array.replicate l.toArray.size false) :=
  ⟨by simp,fun j oj _ hl=>(by rw [getD_replicate_false] at hl;cases hl),fun t _ ht=>getD_in (by simpa using ht) (getD_replicate_false _ _)⟩
 have hT1:∀ j∈Region.ready .any l.toArray (upTo l.toArray n),n≤j:=fun j hj=>by
  obtain ⟨hu,o,ho,_⟩:=mem_ready.1 hj
  have hj2:j < l.toArray.size:=(Array.getElem?_eq_some_iff.1 ho).1
  rw [upTo_get _ _ _ _ hj2] at hu
  have:=of_decide_eq_false hu
  omega
 have hT2:∀ j∈Region.ready .any l.toArray (upTo l.toArray l.toArray.size),l.toArray.size≤j:=fun j hj=>by
  rw [List.isEmpty_iff] at hend
  rw [hend] at hj
  cases hj
 have hwait:∀ listed,HeadInv .any l.toArray n listed→∀ i,i < n→listed.getD i true=false→∀ t∈Region.ready .any l.toArray listed,t < n:=by
  intro listed inv i hi hun t ht
  rcases Nat.lt_or_ge t n with h|h
  ·exact h
  ·exact absurd ht (tail_waits2 hsk hch (by rw [hsz];exact hn) inv _ i rfl hi hun t h)
 have hwait2:∀ listed,HeadInv .any l.toArray l.toArray.size listed→∀ i,i < l.toArray.size→listed.getD i true=false→∀ t∈Region.ready .any l.toArray listed,t < l.toArray.size:=by
  intro listed inv i hi hun t ht
  obtain ⟨_,o,ho,_⟩:=mem_ready.1 ht
  exact (Array.getElem?_eq_some_iff.1 ho).1
 have inv2:HeadInv .any l.toArray l.toArray.size (upTo l.toArray (n+m)):=by
  refine ⟨upTo_size _ _,fun j oj hj hl e he hb=>?_,fun t ht ht2=>absurd ht2 (by omega)⟩
  have hj2:j < l.toArray.size:=(Array.getElem?_eq_some_iff.1 hj).1
  rw [upTo_get _ _ _ _ hj2] at hl
  have hjn:=of_decide_eq_true hl
  have h1:=List.all_eq_true.1 hcl j (List.mem_range.2 hjn)
  simp only [hj] at h1
  have h2:=Array.all_eq_true'.1 h1 e he
  rw [hb] at h2
  simp only [Bool.not_true,Bool.false_or,decide_eq_true_eq] at h2
  rw [upTo_get _ _ _ _ (by rw [hsz];omega)]
  exact decide_eq_true h2
 have hw1:C.cx.holds (factsOf fs) { w with drawn:=w.drawn+1 }:=⟨hholds.1.drew,hholds.2⟩
 have htl:(l.take n).length=n:=by simp;omega
 have hml:((l.drop n).take m).length=m:=by simp;omega
 have hdl:(l.drop (n+m)).length=l.toArray.size - (n+m):=by simp
 have H:=AnyL_lex2 (G:=C.cx) (target:=upTo l.toArray n) hX hsel hT1 hwait (l.take n) 0 _ a _ _ _ (fun j hj=>by
  have hj':j < n:=by rw [htl] at hj;exact hj
  simp [hj']) (by simpa using htl) inv0 hinv ⟨_,hw1⟩ (by rw [htl];exact hlex1) (h a _ _ _ hs.env hrel hinv)
 refine wpIn_region_any hm ?_
 have:=wpAnyIn_of_AnyL (r:=C.r) (m:=0) (Q:=down C Q) (g:=m+(l.toArray.size - (n+m))) hnd (fun listed a' φ' tw' tr' w' hL hi' hw'=>by
  obtain ⟨rfl,hK⟩:=hL
  have hK:=hK hi' w' hw'
  have h2:=wpAnyIn_of_seq2 (F:=FR C.r) (m:=0) (P:=C.P) (ops:=l.toArray) (Q:=down C Q) (g:=l.toArray.size - (n+m)) (t2:=upTo l.toArray (n+m)) (fun a w hq=>by
   obtain ⟨ds,e2,fs2,⟨rfl,hD⟩,s⟩:=hq
   obtain ⟨hinv2,hholds2,hrel2⟩:=facts_ok (C:=C) s
   have H2:=AnyL_lex2 (G:=C.cx) (target:=upTo l.toArray l.toArray.size) hX' hsel hT2 hwait2 (l.drop (n+m)) (n+m) _ a _ _ _ (fun j hj=>by simp [List.getElem?_drop]) (by rw [hdl,hsz];omega) inv2 hinv2 ⟨_,hholds2⟩ (by rw [hdl];exact hlex2) (hD a _ _ _ s.env hrel2 hinv2)
   have h3:=wpAnyIn_of_AnyL (r:=C.r) (m:=0) (Q:=down C Q) (g:=0) hnd (fun listed a' φ' tw' tr' w' hL hi' hw'=>by
    obtain ⟨rfl,hK⟩:=hL
    exact ⟨by rw [List.isEmpty_iff] at hend;exact hend,hK hi' w' hw'⟩) _ _ _ _ _ _ _ hinv2 hholds2 H2
   rwa [hdl,Nat.add_zero] at h3) (fun ch a w hq=>by
   obtain ⟨ds,e',fs',hq,s⟩:=hq
   exact ⟨ds,e',fs',hq,s⟩) (fun hq=>by
   obtain ⟨a,w,ds,e',fs',hq,s⟩:=hq
   exact ⟨a,w,ds,e',fs',hq,s⟩) ((l.drop n).take m) n _ a' w' (fun j hj=>by rw [hml] at hj;simp [List.getElem?_drop,List.getElem?_take,hj]) (by rw [hml];exact hseq) hK
  rwa [hml] at h2) _ _ _ _ _ _ _ hinv hw1 H
 rw [htl,show n+(m+(l.toArray.size - (n+m)))=l.toArray.size by rw [hsz];omega] at this
 exact this
theorem AnyW.mid {C:Cu} {id:Nat} {l:List Oper} {Q:Post} {fs:Fs} {e:Env} (n m:Nat) (hm:C.P.follows .mixedOrders=true) (hB:midB l.toArray n m=true)
  (h:DW C l.toArray noMu (midQ C l.toArray noMu Q (l.drop (n+m)) (n+m)) ((l.drop n).take m) (l.take n) 0 e (tsOf fs)):AnyW C id l Q e fs :=
 CW.anyMid noMu noMu n m (fun _ _ h=>by cases h) (fun _ _ h=>by cases h) hm hB h
theorem midN {C:Cu} {ops:Array Oper} {μ:Mu} {Q:Post} {tl:List Oper} {k:Nat} {e:Env} {fs:Fs} (h:DW C ops μ Q [] tl k e (tsOf fs)):midQ C ops μ Q tl k .normal C.ds e fs:=⟨rfl,h⟩
theorem midP {C:Cu} {ops:Array Oper} {μ:Mu} {Q:Post} {tl:List Oper} {k:Nat} {ch:List PanicEntry} {ds:List Deferred} {e:Env} {fs:Fs} (h:Q (.panic ch) ds e fs):midQ C ops μ Q tl k (.panic ch) ds e fs:=h
end Go.Proofs.YtdeggbkbblfpoaaGreatDoor.SL
namespace Go.Proofs.YtdeggbkbblfpoaaGreatDoor
open Go Go.RowKit SL
set_option maxRecDepth 8000
set_option maxHeartbeats 4000000
set_option linter.unusedSimpArgs false
set_option linter.unusedVariables false
attribute [local irreducible] SL.CW SL.LW SL.DW Calls SL.Ret SL.RetG SL.beginQ SL.roundQ SL.rangeQ SL.inQ SL.RW SL.AnyW SL.thenQ SL.thenC SL.thenW SL.blkQ SL.finQ SL.ValP SL.NewP SL.SetP SL.CallP SL.Rd SL.Wr SL.Known
section
attribute [local irreducible] SL.inP
theorem store_do:DoC 166 82 2 0 (fun f L l=>storeV f L (l.getD 0 0) 32 (beb 32 (l.getD 1 0))):=by
 intro w0 b m L l gs gt rest w hT hN hp hop hl hly hfr ht hs
 obtain ⟨gt0,cur,ct,htk,rfl,hcur⟩:=took_at ht (by omega)
 replace hs:St w0 [] ((b,maO m)::(gs++((gt0,.cells cur 29 (0,0))::rest))) w:=hs
 have hrdT:∀ {m':MaV} {E fr},m'.took=m.took→Rd Tryz.prog 23 (.cells (mca m') E fr) 18 (.slice (some ⟨gt0,0,none⟩) l.length ct):=fun {m' E fr} he=>by rw [show Value.slice (some ⟨gt0,0,none⟩) l.length ct=m'.took from htk.symm.trans he.symm];exact ma_rd18
 have hrdx:Rd Tryz.prog 29 (.cells cur 29 (0,0)) (0+0 * 4) (wv (l.getD 0 0)):=word_rd hcur 0 (by omega)
 have hx:l.getD 0 0 < M256:=getD_wlt hp.ls (by omega)
 have hrdy:Rd Tryz.prog 29 (.cells cur 29 (0,0)) (0+1 * 4) (wv (l.getD 1 0)):=word_rd hcur 1 (by omega)
 have hy:l.getD 1 0 < M256:=getD_wlt hp.ls (by omega)
 dsimp only
 obtain ⟨x,hxe⟩:∃ x,l.getD 0 0=x:=⟨_,rfl⟩
 rw [hxe] at hrdx hx ⊢
 obtain ⟨y,hye⟩:∃ y,l.getD 1 0=y:=⟨_,rfl⟩
 rw [hye] at hrdy hy ⊢
 refine calls_anyO (calls_inlineP (K:=anyO (DoK14 b m.fr L (storeV m.fr L x 32 (beb 32 y)) rest)) (args:=[_]) Tryz.func166 rfl Tryz.ntmps166 rfl ?_ hs)
 (refine zI ?_)
 apply CW.pre
 refine AnyW.mid 8 1 mixed (by decide +kernel) ?_
 ((try simp only [tsOf_cons,tsOf_nil,tsOf_app]);refine dvz (.move rfl)<|dvz (.move rfl)<|dvz (.nilCheck rfl)<|dvz (.fieldAddr rfl rfl) ?_;apply qF;rfl;rfl;rfl;exact zC;rfl;apply zP;exact zN;exact hrdT rfl;refine dvz (.indexAddrSL rfl rfl (by decide) (by omega)) ?_;apply qF;rfl;rfl;rfl;exact zC;rfl;apply zO;apply zQ;apply zP;exact zN;exact hrdx;apply DW.callE;rfl;rfl;rfl;exact zC;rfl;infer_instance;exact .cons rfl .nil;rfl;exact ReadAll.nil;intro w _ _;exact Of_calls 32 (by decide) w;apply DW.nil;simp only [fsOf_cons,fsOf_nil,fsOf_app,fsOf_tsOf,fsOf_new,fsOf_tag,fsOf_mark])
 refine LW.callP (K:=ReachP b m L x 32 ((gt0,.cells cur 29 (0,0))::rest)) rfl rfl inferInstance (by (exact .cons rfl (.cons rfl (.cons rfl .nil)))) rfl (fun fs h=>by rcases h with ⟨_,h,_⟩|⟨_,_,_,_,h,_⟩<;>cases h) (fun w' hst=>reachP_calls w0 [] b m L gs x 32 hx (by decide) hp.ok hp.gas hfr _ w' hst) ?_ ?_
 ·rintro v fs' (⟨_,h,_⟩|⟨hc,s,k,gs',h,hfr',rfl⟩)
  ·cases h
  cases h
  obtain ⟨hok1,hin⟩:=reach_in hp.gas hp.ok hc
  have hrea:reaV m.fr L x 32=some (m.fr.setG (m.fr.gas - costR L x 32),(memR L x 32).ms):=by unfold reaV;exact if_pos hc
  obtain ⟨m1,hm1⟩:∃ m1,m.setF (frR m.fr L x 32 s k)=m1:=⟨_,rfl⟩
  rw [hm1]
  have hf1:m1.fr=frR m.fr L x 32 s k:=by rw [← hm1];rfl
  have hk1:m1.kind=0:=by rw [← hm1];exact hp.kind
  have ht1:m1.took=m.took:=by rw [← hm1];rfl
  have ho1:m1.op=m.op:=by rw [← hm1];rfl
  have hg1:m1.fr.gas≤20000:=by rw [hf1];show m.fr.gas - _≤20000;have:=hp.gas;omega
  rw [← hf1] at hfr'
  apply zV
  refine midN ?_
  ((try simp only [tsOf_cons,tsOf_nil,tsOf_app]);refine dvz (.move rfl) ?_;refine dvz (.extractN rfl rfl) ?_;refine dvz (.extractN rfl rfl) ?_;refine dvz (.assign rfl)<|dvz (.assign rfl) ?_;apply DW.nil;simp only [fsOf_cons,fsOf_nil,fsOf_app,fsOf_tsOf,fsOf_new,fsOf_tag,fsOf_mark])
  try simp only [fsOf_mark,fsOf_cons,fsOf_nil,fsOf_app,fsOf_tsOf,fsOf_new,fsOf_tag,List.append_eq,List.nil_append]
  rw [show storeV m.fr L x 32 (beb 32 y)=some (soOn (m.fr.setG (m.fr.gas - costR L x 32)) L.ws (layL (memR L x 32).ms x (beb 32 y))) by unfold storeV;rw [hrea];rfl]
  rw [show (if (32:Nat)=0 then 0 else x)=x from if_neg (by decide)]
  (refine nNz<|zL<|vMz<|vMz<|vMz<|vNz<|vFz<|ldz rfl .head (hrdT ht1) ?_;refine lvz (.indexAddrSL rfl rfl (by decide) (by omega)) ?_;refine ldz rfl (.tail (.app .head)) hrdy ?_)
  (apply LW.callR;rfl;rfl;infer_instance;exact .cons rfl .nil;intro w hs)
  exact Bytes_calls y hy w
  rintro vB gB hB
  obtain ⟨qB,kB,rfl⟩:=id (IsRow.form hB)
  skip
  refine LW.perm (fs':=(b,maO m1)::(gs'++(gB++(gt0,.cells cur 29 (0,0))::rest))) (perm_ix [gB,[_],gs'] (xs:=[1,2,0]) (ys:=[0,1,2]) ((gt0,.cells cur 29 (0,0))::rest) rfl) ?_
  refine LW.callSt (K:=fun v fs'=>PutP b m1 (memR L x 32) (layL (memR L x 32).ms x (beb 32 y)) (gB++(gt0,.cells cur 29 (0,0))::rest) (.returned v) fs') rfl rfl inferInstance (by (exact .cons rfl (.cons rfl (.cons rfl .nil)))) (fun w' hst=>Calls.mono (putM_calls w0 b m1 (memR L x 32) gs' x (beb 32 y) _ hok1 (.inr (by rw [beb_len];exact hin (by decide))) hfr' _ w' (fun w2 h2=>by have h:=IsRow.us hB (us:=gB) (w:=w2) (fun p hp=>(h2.own p (qQ _ (List.mem_append_right _ (List.mem_append_left _ hp)))).2) (qO _);rw [beb_len];exact h) hst) fun x w'' ⟨fs',hk,hst⟩=>⟨_,fs',hk.1,by { have h:=hk;rw [hk.1] at h;exact h },hst⟩) ?_
  rintro v fs' ⟨hv,s2,k2,gs2,hfr2,rfl⟩
  cases hv
  (apply zV)
  refine inPI (.inr rfl) .nil rfl .nil rfl ⟨_,⟨rfl,m1.setF (m1.fr.setR m1.fr.gas s2 k2),gs2,SoD.on (m:=m1.setF (m1.fr.setR m1.fr.gas s2 k2)) (s:=s2) (k:=k2) hk1 (by show m1.fr.setR m1.fr.gas s2 k2=_;rw [hf1];rfl) (by have h:=hfr2.toP;exact h),rfl⟩,_,?_,.refl _⟩
  exact List.Sublist.cons_cons _ (List.Sublist.append_left ((qS _ (.refl _)).trans (List.sublist_append_right gB _)) gs2)
 ·rintro ch fs' (⟨hc,h,rfl⟩|⟨_,_,_,_,h,_⟩)
  ·cases h
   have hrea:reaV m.fr L x 32=none:=by unfold reaV;exact if_neg (Nat.not_le.2 hc)
   rw [show storeV m.fr L x 32 (beb 32 y)=none by unfold storeV;rw [hrea];rfl]
   refine midP ?_
   refine thenP ?_
   exact inPP .nil ⟨rest,⟨rfl,rfl⟩,_,qS _ (.refl _),.refl _⟩
  ·cases h
theorem store8_do:DoC 167 83 2 0 (fun f L l=>storeV f L (l.getD 0 0) 1 ((beb 32 (l.getD 1 0)).drop 31)):=by
 intro w0 b m L l gs gt rest w hT hN hp hop hl hly hfr ht hs
 obtain ⟨gt0,cur,ct,htk,rfl,hcur⟩:=took_at ht (by omega)
 replace hs:St w0 [] ((b,maO m)::(gs++((gt0,.cells cur 29 (0,0))::rest))) w:=hs
 have hrdT:∀ {m':MaV} {E fr},m'.took=m.took→Rd Tryz.prog 23 (.cells (mca m') E fr) 18 (.slice (some ⟨gt0,0,none⟩) l.length ct):=fun {m' E fr} he=>by rw [show Value.slice (some ⟨gt0,0,none⟩) l.length ct=m'.took from htk.symm.trans he.symm];exact ma_rd18
 have hrdx:Rd Tryz.prog 29 (.cells cur 29 (0,0)) (0+0 * 4) (wv (l.getD 0 0)):=word_rd hcur 0 (by omega)
 have hx:l.getD 0 0 < M256:=getD_wlt hp.ls (by omega)
 have hrdy:Rd Tryz.prog 29 (.cells cur 29 (0,0)) (0+1 * 4) (wv (l.getD 1 0)):=word_rd hcur 1 (by omega)
 have hy:l.getD 1 0 < M256:=getD_wlt hp.ls (by omega)
 dsimp only
 obtain ⟨x,hxe⟩:∃ x,l.getD 0 0=x:=⟨_,rfl⟩
 rw [hxe] at hrdx hx ⊢
 obtain ⟨y,hye⟩:∃ y,l.getD 1 0=y:=⟨_,rfl⟩
 rw [hye] at hrdy hy ⊢
 refine calls_anyO (calls_inlineP (K:=anyO (DoK14 b m.fr L (storeV m.fr L x 1 ((beb 32 y).drop 31)) rest)) (args:=[_]) Tryz.func167 rfl Tryz.ntmps167 rfl ?_ hs)
 (refine zI ?_)
 apply CW.pre
 refine AnyW.mid 8 1 mixed (by decide +kernel) ?_
 ((try simp only [tsOf_cons,tsOf_nil,tsOf_app]);refine dvz (.move rfl)<|dvz (.move rfl)<|dvz (.nilCheck rfl)<|dvz (.fieldAddr rfl rfl) ?_;apply qF;rfl;rfl;rfl;exact zC;rfl;apply zP;exact zN;exact hrdT rfl;refine dvz (.indexAddrSL rfl rfl (by decide) (by omega)) ?_;apply qF;rfl;rfl;rfl;exact zC;rfl;apply zO;apply zQ;apply zP;exact zN;exact hrdx;apply DW.callE;rfl;rfl;rfl;exact zC;rfl;infer_instance;exact .cons rfl .nil;rfl;exact ReadAll.nil;intro w _ _;exact Of_calls 1 (by decide) w;apply DW.nil;simp only [fsOf_cons,fsOf_nil,fsOf_app,fsOf_tsOf,fsOf_new,fsOf_tag,fsOf_mark])
 refine LW.callP (K:=ReachP b m L x 1 ((gt0,.cells cur 29 (0,0))::rest)) rfl rfl inferInstance (by (exact .cons rfl (.cons rfl (.cons rfl .nil)))) rfl (fun fs h=>by rcases h with ⟨_,h,_⟩|⟨_,_,_,_,h,_⟩<;>cases h) (fun w' hst=>reachP_calls w0 [] b m L gs x 1 hx (by decide) hp.ok hp.gas hfr _ w' hst) ?_ ?_
 ·rintro v fs' (⟨_,h,_⟩|⟨hc,s,k,gs',h,hfr',rfl⟩)
  ·cases h
  cases h
  obtain ⟨hok1,hin⟩:=reach_in hp.gas hp.ok hc
  have hrea:reaV m.fr L x 1=some (m.fr.setG (m.fr.gas - costR L x 1),(memR L x 1).ms):=by unfold reaV;exact if_pos hc
  obtain ⟨m1,hm1⟩:∃ m1,m.setF (frR m.fr L x 1 s k)=m1:=⟨_,rfl⟩
  rw [hm1]
  have hf1:m1.fr=frR m.fr L x 1 s k:=by rw [← hm1];rfl
  have hk1:m1.kind=0:=by rw [← hm1];exact hp.kind
  have ht1:m1.took=m.took:=by rw [← hm1];rfl
  have ho1:m1.op=m.op:=by rw [← hm1];rfl
  have hg1:m1.fr.gas≤20000:=by rw [hf1];show m.fr.gas - _≤20000;have:=hp.gas;omega
  rw [← hf1] at hfr'
  apply zV
  refine midN ?_
  ((try simp only [tsOf_cons,tsOf_nil,tsOf_app]);refine dvz (.move rfl) ?_;refine dvz (.extractN rfl rfl) ?_;refine dvz (.extractN rfl rfl) ?_;refine dvz (.assign rfl)<|dvz (.assign rfl) ?_;apply DW.nil;simp only [fsOf_cons,fsOf_nil,fsOf_app,fsOf_tsOf,fsOf_new,fsOf_tag,fsOf_mark])
  try simp only [fsOf_mark,fsOf_cons,fsOf_nil,fsOf_app,fsOf_tsOf,fsOf_new,fsOf_tag,List.append_eq,List.nil_append]
  rw [show storeV m.fr L x 1 ((beb 32 y).drop 31)=some (soOn (m.fr.setG (m.fr.gas - costR L x 1)) L.ws (layL (memR L x 1).ms x ((beb 32 y).drop 31))) by unfold storeV;rw [hrea];rfl]
  rw [show (if (1:Nat)=0 then 0 else x)=x from if_neg (by decide)]
  (refine nNz<|zL<|vMz<|vMz<|vMz<|vNz<|vFz<|ldz rfl .head (hrdT ht1) ?_;refine lvz (.indexAddrSL rfl rfl (by decide) (by omega)) ?_;refine ldz rfl (.tail (.app .head)) hrdy ?_)
  (apply LW.callR;rfl;rfl;infer_instance;exact .cons rfl .nil;intro w hs)
  exact Bytes_calls y hy w
  rintro vB gB hB
  obtain ⟨qB,kB,rfl⟩:=id (IsRow.form hB)
  obtain ⟨gbb,curB,rfl,rfl,hnB,hmB,hszB,htkB⟩:=id (hB.pos (by omega))
  (refine lvz (.cutFromL inferInstance inferInstance rfl rfl (by decide) (by omega)) ?_)
  have hcb:cutAt (some ⟨gbb,0,none⟩) 31 32 kB 1=.slice (some ⟨gbb,31,none⟩) 1 (kB - 31):=by
   unfold cutAt
   rw [if_neg (by omega)]
   simp [Addr.add]
  have hrowB:∀ w2:World,w2.heap[gbb]?=some (.cells curB 5 (0,0))→RowAt w2 1 (.slice (some ⟨gbb,31,none⟩) 1 (kB - 31)) ((beb 32 y).drop 31).length (ucs ((beb 32 y).drop 31)):=fun w2 h=>by
   have h1:=(IsRow.us hB (fun p hp=>by obtain rfl:=List.mem_singleton.1 hp;exact h) (qO _)).drop (k:=31) (by omega)
   rw [hcb,ucs_drop] at h1
   have e:((beb 32 y).drop 31).length=1:=by rw [List.length_drop,beb_len]
   rw [e]
   exact h1
  try rw [hcb]
  refine LW.perm (fs':=(b,maO m1)::(gs'++((gbb,.cells curB 5 (0,0))::(gt0,.cells cur 29 (0,0))::rest))) (perm_ix [[_],[_],gs'] (xs:=[1,2,0]) (ys:=[0,1,2]) ((gt0,.cells cur 29 (0,0))::rest) rfl) ?_
  refine LW.callSt (K:=fun v fs'=>PutP b m1 (memR L x 1) (layL (memR L x 1).ms x ((beb 32 y).drop 31)) ((gbb,.cells curB 5 (0,0))::(gt0,.cells cur 29 (0,0))::rest) (.returned v) fs') rfl rfl inferInstance (by (exact .cons rfl (.cons rfl (.cons rfl .nil)))) (fun w' hst=>Calls.mono (putM_calls w0 b m1 (memR L x 1) gs' x ((beb 32 y).drop 31) _ hok1 (.inr (by rw [List.length_drop,beb_len];exact hin (by decide))) hfr' _ w' (fun w2 h2=>hrowB w2 (h2.own _ (qQ _ (List.mem_append_right _ List.mem_cons_self))).2) hst) fun x w'' ⟨fs',hk,hst⟩=>⟨_,fs',hk.1,by { have h:=hk;rw [hk.1] at h;exact h },hst⟩) ?_
  rintro v fs' ⟨hv,s2,k2,gs2,hfr2,rfl⟩
  cases hv
  (apply zV)
  refine inPI (.inr rfl) .nil rfl .nil rfl ⟨_,⟨rfl,m1.setF (m1.fr.setR m1.fr.gas s2 k2),gs2,SoD.on (m:=m1.setF (m1.fr.setR m1.fr.gas s2 k2)) (s:=s2) (k:=k2) hk1 (by show m1.fr.setR m1.fr.gas s2 k2=_;rw [hf1];rfl) (by have h:=hfr2.toP;exact h),rfl⟩,_,?_,.refl _⟩
  exact List.Sublist.cons_cons _ (List.Sublist.append_left (.cons _ (.cons _ (.refl _))) gs2)
 ·rintro ch fs' (⟨hc,h,rfl⟩|⟨_,_,_,_,h,_⟩)
  ·cases h
   have hrea:reaV m.fr L x 1=none:=by unfold reaV;exact if_neg (Nat.not_le.2 hc)
   rw [show storeV m.fr L x 1 ((beb 32 y).drop 31)=none by unfold storeV;rw [hrea];rfl]
   refine midP ?_
   refine thenP ?_
   exact inPP .nil ⟨rest,⟨rfl,rfl⟩,_,qS _ (.refl _),.refl _⟩
  ·cases h
theorem load_do:DoC 165 81 1 1 (fun f L l=>loadV14 f L (l.getD 0 0)):=by
 intro w0 b m L l gs gt rest w hT hN hp hop hl hly hfr ht hs
 obtain ⟨gt0,cur,ct,htk,rfl,hcur⟩:=took_at ht (by omega)
 replace hs:St w0 [] ((b,maO m)::(gs++((gt0,.cells cur 29 (0,0))::rest))) w:=hs
 have hrdT:∀ {m':MaV} {E fr},m'.took=m.took→Rd Tryz.prog 23 (.cells (mca m') E fr) 18 (.slice (some ⟨gt0,0,none⟩) l.length ct):=fun {m' E fr} he=>by rw [show Value.slice (some ⟨gt0,0,none⟩) l.length ct=m'.took from htk.symm.trans he.symm];exact ma_rd18
 have hrdx:Rd Tryz.prog 29 (.cells cur 29 (0,0)) (0+0 * 4) (wv (l.getD 0 0)):=word_rd hcur 0 (by omega)
 have hx:l.getD 0 0 < M256:=getD_wlt hp.ls (by omega)
 dsimp only
 obtain ⟨x,hxe⟩:∃ x,l.getD 0 0=x:=⟨_,rfl⟩
 rw [hxe] at hrdx hx ⊢
 refine calls_anyO (calls_inlineP (K:=anyO (DoK14 b m.fr L (loadV14 m.fr L x) rest)) (args:=[_]) Tryz.func165 rfl Tryz.ntmps165 rfl ?_ hs)
 (refine zI ?_)
 apply CW.pre
 refine AnyW.mid 8 1 mixed (by decide +kernel) ?_
 ((try simp only [tsOf_cons,tsOf_nil,tsOf_app]);refine dvz (.move rfl)<|dvz (.move rfl)<|dvz (.nilCheck rfl)<|dvz (.fieldAddr rfl rfl) ?_;apply qF;rfl;rfl;rfl;exact zC;rfl;apply zP;exact zN;exact hrdT rfl;refine dvz (.indexAddrSL rfl rfl (by decide) (by omega)) ?_;apply qF;rfl;rfl;rfl;exact zC;rfl;apply zO;apply zQ;apply zP;exact zN;exact hrdx;apply DW.callE;rfl;rfl;rfl;exact zC;rfl;infer_instance;exact .cons rfl .nil;rfl;exact ReadAll.nil;intro w _ _;exact Of_calls 32 (by decide) w;apply DW.nil;simp only [fsOf_cons,fsOf_nil,fsOf_app,fsOf_tsOf,fsOf_new,fsOf_tag,fsOf_mark])
 refine LW.callP (K:=ReachP b m L x 32 ((gt0,.cells cur 29 (0,0))::rest)) rfl rfl inferInstance (by (exact .cons rfl (.cons rfl (.cons rfl .nil)))) rfl (fun fs h=>by rcases h with ⟨_,h,_⟩|⟨_,_,_,_,h,_⟩<;>cases h) (fun w' hst=>reachP_calls w0 [] b m L gs x 32 hx (by decide) hp.ok hp.gas hfr _ w' hst) ?_ ?_
 ·rintro v fs' (⟨_,h,_⟩|⟨hc,s,k,gs',h,hfr',rfl⟩)
  ·cases h
  cases h
  obtain ⟨hok1,hin⟩:=reach_in hp.gas hp.ok hc
  have hrea:reaV m.fr L x 32=some (m.fr.setG (m.fr.gas - costR L x 32),(memR L x 32).ms):=by unfold reaV;exact if_pos hc
  obtain ⟨m1,hm1⟩:∃ m1,m.setF (frR m.fr L x 32 s k)=m1:=⟨_,rfl⟩
  rw [hm1]
  have hf1:m1.fr=frR m.fr L x 32 s k:=by rw [← hm1];rfl
  have hk1:m1.kind=0:=by rw [← hm1];exact hp.kind
  have ht1:m1.took=m.took:=by rw [← hm1];rfl
  have ho1:m1.op=m.op:=by rw [← hm1];rfl
  have hg1:m1.fr.gas≤20000:=by rw [hf1];show m.fr.gas - _≤20000;have:=hp.gas;omega
  rw [← hf1] at hfr'
  apply zV
  refine midN ?_
  ((try simp only [tsOf_cons,tsOf_nil,tsOf_app]);refine dvz (.move rfl) ?_;refine dvz (.extractN rfl rfl) ?_;refine dvz (.extractN rfl rfl) ?_;refine dvz (.assign rfl)<|dvz (.assign rfl) ?_;apply DW.nil;simp only [fsOf_cons,fsOf_nil,fsOf_app,fsOf_tsOf,fsOf_new,fsOf_tag,fsOf_mark])
  try simp only [fsOf_mark,fsOf_cons,fsOf_nil,fsOf_app,fsOf_tsOf,fsOf_new,fsOf_tag,List.append_eq,List.nil_append]
  obtain ⟨Z,hZ⟩:∃ Z,bev (((memR L x 32).ms.drop x).take 32)=Z:=⟨_,rfl⟩
  rw [show loadV14 m.fr L x=some (soOn (m.fr.setG (m.fr.gas - costR L x 32)) (L.ws++[Z]) (memR L x 32).ms) by unfold loadV14;rw [hrea,← hZ];rfl]
  rw [show (if (32:Nat)=0 then 0 else x)=x from if_neg (by decide)]
  (refine nNz<|zL<|vMz<|vMz<|vMz<|vMz ?_)
  refine LW.callSt (K:=fun v fs'=>∃ gC,bM (((memR L x 32).ms.drop x).take 32) v gC∧fs'=(b,maO m1)::(gs'++(gC++((gt0,.cells cur 29 (0,0))::rest)))) rfl rfl inferInstance (by (exact .cons rfl (.cons rfl (.cons rfl .nil)))) (fun w' hst=>Calls.mono (cutM_calls w0 b m1 (memR L x 32) gs' x 32 hok1 (.inr (hin (by decide))) hfr' _ w' hst) fun x w'' ⟨fs',⟨v,gC,h1,h2,h3⟩,hst⟩=>⟨v,fs',h1,⟨gC,h2,h3⟩,hst⟩) ?_
  rintro vC _ ⟨gC,hC,rfl⟩
  have hC':=hC
  unfold bM at hC'
  obtain ⟨qC,kC,rfl⟩:=id hC'.form
  skip
  refine zS (v:=wv Z) rfl rfl inferInstance (by (exact .cons rfl .nil)) (fun w hst=>by rw [← hZ];exact number_calls _ _ (by rw [List.length_take];omega) w (IsRow.us hC' (us:=gC) (w:=w) (fun p hp=>(hst.own p (qQ _ (List.mem_append_right _ (List.mem_append_left _ hp)))).2) (qO _))) ?_
  (apply LW.layA;rfl;infer_instance;infer_instance;rfl;rfl;rfl;rfl;rfl;intro _)
  rename_i bz
  refine LW.perm (fs':=(b,maO m1)::(gs'++((bz,.cells (wc Z) 29 (0,0))::(gC++((gt0,.cells cur 29 (0,0))::rest))))) (perm_ix [[_],gs',[_]] (xs:=[0,1,2]) (ys:=[2,0,1]) (gC++((gt0,.cells cur 29 (0,0))::rest)) rfl) ?_
  refine LW.callSt (K:=fun v fs'=>LayP b m1 (memR L x 32) [Z] ((bz,.cells (wc Z) 29 (0,0))::(gC++((gt0,.cells cur 29 (0,0))::rest))) (.returned v) fs') rfl rfl inferInstance (by (exact .cons rfl (.cons rfl .nil))) (fun w' hst=>Calls.mono (layP_calls w0 [] b m1 (memR L x 32) gs' [Z] _ hok1 (by show 1≤100000;omega) (hly) hfr' _ w' (fun w2 h2=>row_cells (h2.own (bz,_) (qQ _ (List.mem_append_right _ List.mem_cons_self))).2 rfl rfl (by show 1≤maxLen;decide)) hst) fun x w'' ⟨fs',hk,hst⟩=>⟨_,fs',hk.1,by { have h:=hk;rw [hk.1] at h;exact h },hst⟩) ?_
  rintro v fs' ⟨hv,s2,k2,gs2,hfr2,rfl⟩
  cases hv
  (apply zV)
  refine inPI (.inr rfl) .nil rfl .nil rfl ⟨_,⟨rfl,m1.setF (m1.fr.setR m1.fr.gas s2 k2),gs2,SoD.on (m:=m1.setF (m1.fr.setR m1.fr.gas s2 k2)) (s:=s2) (k:=k2) hk1 (by show m1.fr.setR m1.fr.gas s2 k2=_;rw [hf1];rfl) (by have h:=hfr2.toP;exact h),rfl⟩,_,?_,.refl _⟩
  exact List.Sublist.cons_cons _ (List.Sublist.append_left (.cons _ ((qS _ (.refl _)).trans (List.sublist_append_right gC _))) gs2)
 ·rintro ch fs' (⟨hc,h,rfl⟩|⟨_,_,_,_,h,_⟩)
  ·cases h
   have hrea:reaV m.fr L x 32=none:=by unfold reaV;exact if_neg (Nat.not_le.2 hc)
   rw [show loadV14 m.fr L x=none by unfold loadV14;rw [hrea];rfl]
   refine midP ?_
   refine thenP ?_
   exact inPP .nil ⟨rest,⟨rfl,rfl⟩,_,qS _ (.refl _),.refl _⟩
  ·cases h
theorem hash_do:DoC 168 32 2 1 (fun f L l=>hashV f L (l.getD 0 0) (l.getD 1 0)):=by
 intro w0 b m L l gs gt rest w hT hN hp hop hl hly hfr ht hs
 obtain ⟨gt0,cur,ct,htk,rfl,hcur⟩:=took_at ht (by omega)
 replace hs:St w0 [] ((b,maO m)::(gs++((gt0,.cells cur 29 (0,0))::rest))) w:=hs
 have hrdT:∀ {m':MaV} {E fr},m'.took=m.took→Rd Tryz.prog 23 (.cells (mca m') E fr) 18 (.slice (some ⟨gt0,0,none⟩) l.length ct):=fun {m' E fr} he=>by rw [show Value.slice (some ⟨gt0,0,none⟩) l.length ct=m'.took from htk.symm.trans he.symm];exact ma_rd18
 have hrdx:Rd Tryz.prog 29 (.cells cur 29 (0,0)) (0+0 * 4) (wv (l.getD 0 0)):=word_rd hcur 0 (by omega)
 have hx:l.getD 0 0 < M256:=getD_wlt hp.ls (by omega)
 have hrdy:Rd Tryz.prog 29 (.cells cur 29 (0,0)) (0+1 * 4) (wv (l.getD 1 0)):=word_rd hcur 1 (by omega)
 have hy:l.getD 1 0 < M256:=getD_wlt hp.ls (by omega)
 dsimp only
 obtain ⟨x,hxe⟩:∃ x,l.getD 0 0=x:=⟨_,rfl⟩
 rw [hxe] at hrdx hx ⊢
 obtain ⟨y,hye⟩:∃ y,l.getD 1 0=y:=⟨_,rfl⟩
 rw [hye] at hrdy hy ⊢
 refine calls_anyO (calls_inlineP (K:=anyO (DoK14 b m.fr L (hashV m.fr L x y) rest)) (args:=[_]) Tryz.func168 rfl Tryz.ntmps168 rfl ?_ hs)
 (refine zI ?_)
 apply CW.pre
 refine AnyW.mid 13 1 mixed (by decide +kernel) ?_
 ((try simp only [tsOf_cons,tsOf_nil,tsOf_app]);refine dvz (.move rfl)<|dvz (.move rfl)<|dvz (.nilCheck rfl)<|dvz (.fieldAddr rfl rfl) ?_;apply qF;rfl;rfl;rfl;exact zC;rfl;apply zP;exact zN;exact hrdT rfl;refine dvz (.indexAddrSL rfl rfl (by decide) (by omega)) ?_;apply qF;rfl;rfl;rfl;exact zC;rfl;apply zO;apply zQ;apply zP;exact zN;exact hrdx;refine dvz (.move rfl)<|dvz (.nilCheck rfl)<|dvz (.fieldAddr rfl rfl) ?_;apply qF;rfl;rfl;rfl;exact zC;rfl;apply zP;exact zN;exact hrdT rfl;refine dvz (.indexAddrSL rfl rfl (by decide) (by omega)) ?_;apply qF;rfl;rfl;rfl;exact zC;rfl;apply zO;apply zQ;apply zP;exact zN;exact hrdy;apply DW.nil;simp only [fsOf_cons,fsOf_nil,fsOf_app,fsOf_tsOf,fsOf_new,fsOf_tag,fsOf_mark])
 refine LW.callP (K:=ReachP b m L x y ((gt0,.cells cur 29 (0,0))::rest)) rfl rfl inferInstance (by (exact .cons rfl (.cons rfl (.cons rfl .nil)))) rfl (fun fs h=>by rcases h with ⟨_,h,_⟩|⟨_,_,_,_,h,_⟩<;>cases h) (fun w' hst=>reachP_calls w0 [] b m L gs x y hx hy hp.ok hp.gas hfr _ w' hst) ?_ ?_
 ·rintro v fs' (⟨_,h,_⟩|⟨hc,s,k,gs',h,hfr',rfl⟩)
  ·cases h
  cases h
  obtain ⟨hok1,hin⟩:=reach_in hp.gas hp.ok hc
  have hrea:reaV m.fr L x y=some (m.fr.setG (m.fr.gas - costR L x y),(memR L x y).ms):=by unfold reaV;exact if_pos hc
  obtain ⟨m1,hm1⟩:∃ m1,m.setF (frR m.fr L x y s k)=m1:=⟨_,rfl⟩
  rw [hm1]
  have hf1:m1.fr=frR m.fr L x y s k:=by rw [← hm1];rfl
  have hk1:m1.kind=0:=by rw [← hm1];exact hp.kind
  have ht1:m1.took=m.took:=by rw [← hm1];rfl
  have ho1:m1.op=m.op:=by rw [← hm1];rfl
  have hg1:m1.fr.gas≤20000:=by rw [hf1];show m.fr.gas - _≤20000;have:=hp.gas;omega
  rw [← hf1] at hfr'
  apply zV
  refine midN ?_
  ((try simp only [tsOf_cons,tsOf_nil,tsOf_app]);refine dvz (.move rfl) ?_;refine dvz (.extractN rfl rfl) ?_;refine dvz (.extractN rfl rfl) ?_;refine dvz (.assign rfl)<|dvz (.assign rfl) ?_;apply DW.nil;simp only [fsOf_cons,fsOf_nil,fsOf_app,fsOf_tsOf,fsOf_new,fsOf_tag,fsOf_mark])
  try simp only [fsOf_mark,fsOf_cons,fsOf_nil,fsOf_app,fsOf_tsOf,fsOf_new,fsOf_tag,List.append_eq,List.nil_append]
  obtain ⟨A,hA⟩:∃ A,(if y=0 then 0 else x)=A:=⟨_,rfl⟩
  rw [hA]
  have hn1:y=0∨A+y≤(memR L x y).ms.length:=by
   rcases Nat.eq_zero_or_pos y with h|h
   ·exact .inl h
   ·right;rw [← hA,if_neg (by omega)];exact hin h
  have hn2:y≤1024:=by have:=hok1.2.1;omega
  obtain ⟨c,hc2⟩:∃ c,timesV ((y+31) / 32) 6=c:=⟨_,rfl⟩
  have hHash:∀ w,Calls Tryz.prog 207 #[.int .u64 (y:Int)] w (Ret w (.int .u64 (c:Int))):=fun w=>by rw [← hc2];exact Hash_calls y (by omega) w
  have hce:((memR L x y).ms.drop A).take y=((memR L x y).ms.drop x).take y:=by
   rcases Nat.eq_zero_or_pos y with h|h
   ·rw [h,List.take_zero,List.take_zero]
   ·rw [← hA,if_neg (by omega)]
  by_cases hc3:c≤m1.fr.gas
  ·have hsp:spendM m1 [c]=some (m1.setGas (m1.fr.gas - c)):=by unfold spendM;rw [if_pos (by simpa using hc3)];simp
   obtain ⟨Z,hZ⟩:∃ Z,digW (((memR L x y).ms.drop x).take y)=Z:=⟨_,rfl⟩
   rw [show hashV m.fr L x y=some (soOn ((m.fr.setG (m.fr.gas - costR L x y)).setG (m.fr.gas - costR L x y - c)) (L.ws++[Z]) (memR L x y).ms) by unfold hashV spnV;rw [hrea];show (if timesV ((y+31) / 32) 6≤m.fr.gas - costR L x y then some _ else none).bind _=_;rw [hc2,if_pos (by rw [hf1] at hc3;exact hc3),← hZ];rfl]
   (refine nSz<|vMz<|vMz ?_;apply zS;rfl;rfl;infer_instance;exact .cons rfl .nil;intro w _;exact hHash w;apply LW.lay1;rfl;infer_instance;infer_instance;rfl;rfl;rfl;rfl;rfl;rfl;intro _)
   rename_i bc
   refine LW.perm (fs':=(b,maO m1)::(bc,.cells #[.int .u64 (c:Int)] 26 (0,0))::(gs'++((gt0,.cells cur 29 (0,0))::rest))) (List.perm_middle (l₁:=[_])).symm ?_
   refine LW.callP (K:=MaK b m1 (spendM m1 [c]) _) rfl rfl inferInstance (by (exact .cons rfl (.cons rfl .nil))) rfl (fun fs h=>by rw [hsp] at h;cases h.1) (fun w' hst=>spend_calls w0 [] b m1 [c] (by omega) _ _ w' hst (fun w2 h2=>row_cells (h2.own (bc,_) (List.Mem.tail _ (List.Mem.head _))).2 rfl rfl (by show 1≤maxLen;decide))) ?_ ?_
   ·rintro v fs' h
    rw [hsp] at h
    obtain ⟨h,rfl⟩:=h
    cases h
    obtain ⟨m2,hm2⟩:∃ m2,m1.setGas (m1.fr.gas - c)=m2:=⟨_,rfl⟩
    rw [hm2]
    have hf2:m2.fr=m1.fr.setG (m1.fr.gas - c):=by rw [← hm2];rfl
    have hk2:m2.kind=0:=by rw [← hm2];exact hk1
    replace hfr':FrP m2.fr (memR L x y) gs':=by rw [hf2];exact hfr'
    refine LW.perm (fs':=(b,maO m2)::(gs'++((bc,.cells #[.int .u64 (c:Int)] 26 (0,0))::(gt0,.cells cur 29 (0,0))::rest))) (List.Perm.cons _ (List.perm_middle (l₁:=gs'))) ?_
    (refine nNz<|zL<|vMz<|vMz<|vMz<|vMz ?_)
    refine LW.callSt (K:=fun v fs'=>∃ gC,bM (((memR L x y).ms.drop A).take y) v gC∧fs'=(b,maO m2)::(gs'++(gC++((bc,.cells #[.int .u64 (c:Int)] 26 (0,0))::(gt0,.cells cur 29 (0,0))::rest)))) rfl rfl inferInstance (by (exact .cons rfl (.cons rfl (.cons rfl .nil)))) (fun w' hst=>Calls.mono (cutM_calls w0 b m2 (memR L x y) gs' A y hok1 (hn1) hfr' _ w' hst) fun x w'' ⟨fs',⟨v,gC,h1,h2,h3⟩,hst⟩=>⟨v,fs',h1,⟨gC,h2,h3⟩,hst⟩) ?_
    rintro vC _ ⟨gC,hC,rfl⟩
    have hC':=hC
    unfold bM at hC'
    obtain ⟨qC,kC,rfl⟩:=id hC'.form
    skip
    refine zS (v:=wv Z) rfl rfl inferInstance (by (exact .cons rfl .nil)) (fun w hst=>by rw [← hZ,← hce];exact Digest_calls _ _ w (IsRow.us hC' (us:=gC) (w:=w) (fun p hp=>(hst.own p (qQ _ (List.mem_append_right _ (List.mem_append_left _ hp)))).2) (qO _)) (by rw [List.length_take];omega) (hT.st hst) (hN.st hst)) ?_
    (apply LW.layA;rfl;infer_instance;infer_instance;rfl;rfl;rfl;rfl;rfl;intro _)
    rename_i bz
    refine LW.perm (fs':=(b,maO m2)::(gs'++((bz,.cells (wc Z) 29 (0,0))::(gC++((bc,.cells #[.int .u64 (c:Int)] 26 (0,0))::(gt0,.cells cur 29 (0,0))::rest))))) (perm_ix [[_],gs',[_]] (xs:=[0,1,2]) (ys:=[2,0,1]) (gC++((bc,.cells #[.int .u64 (c:Int)] 26 (0,0))::(gt0,.cells cur 29 (0,0))::rest)) rfl) ?_
    refine LW.callSt (K:=fun v fs'=>LayP b m2 (memR L x y) [Z] ((bz,.cells (wc Z) 29 (0,0))::(gC++((bc,.cells #[.int .u64 (c:Int)] 26 (0,0))::(gt0,.cells cur 29 (0,0))::rest))) (.returned v) fs') rfl rfl inferInstance (by (exact .cons rfl (.cons rfl .nil))) (fun w' hst=>Calls.mono (layP_calls w0 [] b m2 (memR L x y) gs' [Z] _ hok1 (by show 1≤100000;omega) (hly) hfr' _ w' (fun w2 h2=>row_cells (h2.own (bz,_) (qQ _ (List.mem_append_right _ List.mem_cons_self))).2 rfl rfl (by show 1≤maxLen;decide)) hst) fun x w'' ⟨fs',hk,hst⟩=>⟨_,fs',hk.1,by { have h:=hk;rw [hk.1] at h;exact h },hst⟩) ?_
    rintro v fs' ⟨hv,s2,k2,gs2,hfr2,rfl⟩
    cases hv
    (apply zV)
    refine inPI (.inr rfl) .nil rfl .nil rfl ⟨_,⟨rfl,m2.setF (m2.fr.setR m2.fr.gas s2 k2),gs2,SoD.on (m:=m2.setF (m2.fr.setR m2.fr.gas s2 k2)) (s:=s2) (k:=k2) hk2 (by show m2.fr.setR m2.fr.gas s2 k2=_;rw [hf2,hf1];rfl) (by have h:=hfr2.toP;exact h),rfl⟩,_,?_,.refl _⟩
    exact List.Sublist.cons_cons _ (List.Sublist.append_left (.cons _ ((qS _ (qS _ (.refl _))).trans (List.sublist_append_right gC _))) gs2)
   ·rintro ch fs' h
    rw [hsp] at h
    cases h.1
  ·have hsp:spendM m1 [c]=none:=by unfold spendM;rw [if_neg (by simpa using hc3)]
   rw [show hashV m.fr L x y=none by unfold hashV spnV;rw [hrea];show (if timesV ((y+31) / 32) 6≤m.fr.gas - costR L x y then some _ else none).bind _=_;rw [hc2,if_neg (by rw [hf1] at hc3;exact hc3)];rfl]
   (refine nSz<|vMz<|vMz ?_;apply zS;rfl;rfl;infer_instance;exact .cons rfl .nil;intro w _;exact hHash w;apply LW.lay1;rfl;infer_instance;infer_instance;rfl;rfl;rfl;rfl;rfl;rfl;intro _)
   rename_i bc
   refine LW.perm (fs':=(b,maO m1)::(bc,.cells #[.int .u64 (c:Int)] 26 (0,0))::(gs'++((gt0,.cells cur 29 (0,0))::rest))) (List.perm_middle (l₁:=[_])).symm ?_
   refine LW.callP (K:=MaK b m1 (spendM m1 [c]) _) rfl rfl inferInstance (by (exact .cons rfl (.cons rfl .nil))) rfl (fun fs h=>by rw [hsp] at h;cases h.1) (fun w' hst=>spend_calls w0 [] b m1 [c] (by omega) _ _ w' hst (fun w2 h2=>row_cells (h2.own (bc,_) (List.Mem.tail _ (List.Mem.head _))).2 rfl rfl (by show 1≤maxLen;decide))) ?_ ?_
   ·rintro v fs' h
    rw [hsp] at h
    cases h.1
   ·rintro ch fs' h
    rw [hsp] at h
    obtain ⟨h,rfl⟩:=h
    cases h
    refine thenP ?_
    exact inPP .nil ⟨rest,⟨rfl,rfl⟩,_,qS _ (qS _ ((qS _ (.refl _)).trans (List.sublist_append_right gs' _))),.refl _⟩
 ·rintro ch fs' (⟨hc,h,rfl⟩|⟨_,_,_,_,h,_⟩)
  ·cases h
   have hrea:reaV m.fr L x y=none:=by unfold reaV;exact if_neg (Nat.not_le.2 hc)
   rw [show hashV m.fr L x y=none by unfold hashV;rw [hrea];rfl]
   refine midP ?_
   refine thenP ?_
   exact inPP .nil ⟨rest,⟨rfl,rfl⟩,_,qS _ (.refl _),.refl _⟩
  ·cases h
end
section
attribute [local irreducible] SL.inP
theorem ends243_do:DoC 175 243 2 0 (fun f L l=>endsV 243 f L (l.getD 0 0) (l.getD 1 0)):=by
 intro w0 b m L l gs gt rest w hT hN hp hop hl hly hfr ht hs
 obtain ⟨gt0,cur,ct,htk,rfl,hcur⟩:=took_at ht (by omega)
 replace hs:St w0 [] ((b,maO m)::(gs++((gt0,.cells cur 29 (0,0))::rest))) w:=hs
 have hrdT:∀ {m':MaV} {E fr},m'.took=m.took→Rd Tryz.prog 23 (.cells (mca m') E fr) 18 (.slice (some ⟨gt0,0,none⟩) l.length ct):=fun {m' E fr} he=>by rw [show Value.slice (some ⟨gt0,0,none⟩) l.length ct=m'.took from htk.symm.trans he.symm];exact ma_rd18
 have hrdx:Rd Tryz.prog 29 (.cells cur 29 (0,0)) (0+0 * 4) (wv (l.getD 0 0)):=word_rd hcur 0 (by omega)
 have hx:l.getD 0 0 < M256:=getD_wlt hp.ls (by omega)
 have hrdy:Rd Tryz.prog 29 (.cells cur 29 (0,0)) (0+1 * 4) (wv (l.getD 1 0)):=word_rd hcur 1 (by omega)
 have hy:l.getD 1 0 < M256:=getD_wlt hp.ls (by omega)
 dsimp only
 obtain ⟨x,hxe⟩:∃ x,l.getD 0 0=x:=⟨_,rfl⟩
 rw [hxe] at hrdx hx ⊢
 obtain ⟨y,hye⟩:∃ y,l.getD 1 0=y:=⟨_,rfl⟩
 rw [hye] at hrdy hy ⊢
 obtain ⟨o,ho⟩:∃ o,m.op=o:=⟨_,rfl⟩
 have ho2:o=243:=ho.symm.trans hop
 have hrdO:∀ {E fr},Rd Tryz.prog 5 (.cells (mca m) E fr) 20 (.int .u8 (o:Int)):=fun {E fr}=>by rw [← ho];exact ma_rd20
 refine calls_anyO (calls_inlineP (K:=anyO (DoK14 b m.fr L (endsV 243 m.fr L x y) rest)) (args:=[_]) Tryz.func175 rfl Tryz.ntmps175 rfl ?_ hs)
 (refine sRz<|vAz<|nNz<|zI<|sRz<|vMz<|vNz<|vFz<|vFz<|ldz rfl .head hrdO ?_;refine lvz (.eqF rfl rfl (by omega)) ?_;refine nNz<|cFz<|zJ<|thenN<|zI ?_)
 apply CW.pre
 refine AnyW.mid 13 1 mixed (by decide +kernel) ?_
 ((try simp only [tsOf_cons,tsOf_nil,tsOf_app]);refine dvz (.move rfl)<|dvz (.move rfl)<|dvz (.nilCheck rfl)<|dvz (.fieldAddr rfl rfl) ?_;apply qF;rfl;rfl;rfl;exact zC;rfl;apply zP;exact zN;exact hrdT rfl;refine dvz (.indexAddrSL rfl rfl (by decide) (by omega)) ?_;apply qF;rfl;rfl;rfl;exact zC;rfl;apply zO;apply zQ;apply zP;exact zN;exact hrdx;refine dvz (.move rfl)<|dvz (.nilCheck rfl)<|dvz (.fieldAddr rfl rfl) ?_;apply qF;rfl;rfl;rfl;exact zC;rfl;apply zP;exact zN;exact hrdT rfl;refine dvz (.indexAddrSL rfl rfl (by decide) (by omega)) ?_;apply qF;rfl;rfl;rfl;exact zC;rfl;apply zO;apply zQ;apply zP;exact zN;exact hrdy;apply DW.nil;simp only [fsOf_cons,fsOf_nil,fsOf_app,fsOf_tsOf,fsOf_new,fsOf_tag,fsOf_mark])
 refine LW.callP (K:=ReachP b m L x y ((gt0,.cells cur 29 (0,0))::rest)) rfl rfl inferInstance (by (exact .cons rfl (.cons rfl (.cons rfl .nil)))) rfl (fun fs h=>by rcases h with ⟨_,h,_⟩|⟨_,_,_,_,h,_⟩<;>cases h) (fun w' hst=>reachP_calls w0 [] b m L gs x y hx hy hp.ok hp.gas hfr _ w' hst) ?_ ?_
 ·rintro v fs' (⟨_,h,_⟩|⟨hc,s,k,gs',h,hfr',rfl⟩)
  ·cases h
  cases h
  obtain ⟨hok1,hin⟩:=reach_in hp.gas hp.ok hc
  have hrea:reaV m.fr L x y=some (m.fr.setG (m.fr.gas - costR L x y),(memR L x y).ms):=by unfold reaV;exact if_pos hc
  obtain ⟨m1,hm1⟩:∃ m1,m.setF (frR m.fr L x y s k)=m1:=⟨_,rfl⟩
  rw [hm1]
  have hf1:m1.fr=frR m.fr L x y s k:=by rw [← hm1];rfl
  have hk1:m1.kind=0:=by rw [← hm1];exact hp.kind
  have ht1:m1.took=m.took:=by rw [← hm1];rfl
  have ho1:m1.op=m.op:=by rw [← hm1];rfl
  have hg1:m1.fr.gas≤20000:=by rw [hf1];show m.fr.gas - _≤20000;have:=hp.gas;omega
  rw [← hf1] at hfr'
  apply zV
  refine midN ?_
  ((try simp only [tsOf_cons,tsOf_nil,tsOf_app]);refine dvz (.move rfl) ?_;refine dvz (.extractN rfl rfl) ?_;refine dvz (.extractN rfl rfl) ?_;refine dvz (.assign rfl)<|dvz (.assign rfl) ?_;apply DW.nil;simp only [fsOf_cons,fsOf_nil,fsOf_app,fsOf_tsOf,fsOf_new,fsOf_tag,fsOf_mark])
  try simp only [fsOf_mark,fsOf_cons,fsOf_nil,fsOf_app,fsOf_tsOf,fsOf_new,fsOf_tag,List.append_eq,List.nil_append]
  obtain ⟨A,hA⟩:∃ A,(if y=0 then 0 else x)=A:=⟨_,rfl⟩
  rw [hA]
  have hn1:y=0∨A+y≤(memR L x y).ms.length:=by
   rcases Nat.eq_zero_or_pos y with h|h
   ·exact .inl h
   ·right;rw [← hA,if_neg (by omega)];exact hin h
  have hn2:y≤1024:=by have:=hok1.2.1;omega
  have hce:((memR L x y).ms.drop A).take y=((memR L x y).ms.drop x).take y:=by
   rcases Nat.eq_zero_or_pos y with h|h
   ·rw [h,List.take_zero,List.take_zero]
   ·rw [← hA,if_neg (by omega)]
  rw [show endsV 243 m.fr L x y=some ⟨4,0,m.fr.gas - costR L x y,m.fr.pc,L.ws,(memR L x y).ms,[],((memR L x y).ms.drop x).take y⟩ by unfold endsV;rw [hrea];rfl]
  (refine nNz<|zL<|vMz<|vMz<|vMz<|vMz<|vMz ?_)
  refine LW.callSt (K:=fun v fs'=>∃ gC,bM (((memR L x y).ms.drop A).take y) v gC∧fs'=(b,maO m1)::(gs'++(gC++((gt0,.cells cur 29 (0,0))::rest)))) rfl rfl inferInstance (by (exact .cons rfl (.cons rfl (.cons rfl .nil)))) (fun w' hst=>Calls.mono (cutM_calls w0 b m1 (memR L x y) gs' A y hok1 (hn1) hfr' _ w' hst) fun x w'' ⟨fs',⟨v,gC,h1,h2,h3⟩,hst⟩=>⟨v,fs',h1,⟨gC,h2,h3⟩,hst⟩) ?_
  rintro vC _ ⟨gC,hC,rfl⟩
  have hC':=hC
  unfold bM at hC'
  obtain ⟨qC,kC,rfl⟩:=id hC'.form
  (apply LW.v0;rfl;rfl;apply zW;infer_instance;infer_instance;apply zA;rfl;apply zA;rfl;exact zB;rfl;simp only [fillP,wrCells,Value.cells,qJ,qK,qL,qI,qN,qM,Nat.reduceAdd,qP];rfl;refine vNz<|vFz ?_;refine zR rfl rfl .head ma_wr19 ?_;apply zV)
  refine inPI (.inr rfl) .nil rfl .nil rfl ⟨_,⟨rfl,m1.setAsk 4 0 (.slice none 0 0) (.slice qC (List.take y (List.drop A (memR L x y).ms)).length kC),gs'++([]++gC),SoD.ask (o:=⟨4,0,m.fr.gas - costR L x y,m.fr.pc,L.ws,(memR L x y).ms,[],((memR L x y).ms.drop x).take y⟩) (s:=m1.fr.stk) (k:=m1.fr.mem) (by show (4:Int) ≠ 0;decide) rfl rfl (by show m1.fr=_;rw [hf1];rfl) hfr' wM_nil (by show bM (((memR L x y).ms.drop x).take y) _ gC;rw [← hce];exact hC),rfl⟩,_,?_,.refl _⟩
  refine List.Sublist.cons_cons _ ?_
  rw [List.nil_append,List.append_assoc]
  exact List.Sublist.append_left (List.Sublist.append_left (.cons _ (.refl _)) gC) gs'
 ·rintro ch fs' (⟨hc,h,rfl⟩|⟨_,_,_,_,h,_⟩)
  ·cases h
   have hrea:reaV m.fr L x y=none:=by unfold reaV;exact if_neg (Nat.not_le.2 hc)
   rw [show endsV 243 m.fr L x y=none by unfold endsV;rw [hrea];rfl]
   refine midP ?_
   refine thenP ?_
   exact inPP .nil ⟨rest,⟨rfl,rfl⟩,_,qS _ (.refl _),.refl _⟩
  ·cases h
theorem ends253_do:DoC 175 253 2 0 (fun f L l=>endsV 253 f L (l.getD 0 0) (l.getD 1 0)):=by
 intro w0 b m L l gs gt rest w hT hN hp hop hl hly hfr ht hs
 obtain ⟨gt0,cur,ct,htk,rfl,hcur⟩:=took_at ht (by omega)
 replace hs:St w0 [] ((b,maO m)::(gs++((gt0,.cells cur 29 (0,0))::rest))) w:=hs
 have hrdT:∀ {m':MaV} {E fr},m'.took=m.took→Rd Tryz.prog 23 (.cells (mca m') E fr) 18 (.slice (some ⟨gt0,0,none⟩) l.length ct):=fun {m' E fr} he=>by rw [show Value.slice (some ⟨gt0,0,none⟩) l.length ct=m'.took from htk.symm.trans he.symm];exact ma_rd18
 have hrdx:Rd Tryz.prog 29 (.cells cur 29 (0,0)) (0+0 * 4) (wv (l.getD 0 0)):=word_rd hcur 0 (by omega)
 have hx:l.getD 0 0 < M256:=getD_wlt hp.ls (by omega)
 have hrdy:Rd Tryz.prog 29 (.cells cur 29 (0,0)) (0+1 * 4) (wv (l.getD 1 0)):=word_rd hcur 1 (by omega)
 have hy:l.getD 1 0 < M256:=getD_wlt hp.ls (by omega)
 dsimp only
 obtain ⟨x,hxe⟩:∃ x,l.getD 0 0=x:=⟨_,rfl⟩
 rw [hxe] at hrdx hx ⊢
 obtain ⟨y,hye⟩:∃ y,l.getD 1 0=y:=⟨_,rfl⟩
 rw [hye] at hrdy hy ⊢
 obtain ⟨o,ho⟩:∃ o,m.op=o:=⟨_,rfl⟩
 have ho2:o=253:=ho.symm.trans hop
 have hrdO:∀ {E fr},Rd Tryz.prog 5 (.cells (mca m) E fr) 20 (.int .u8 (o:Int)):=fun {E fr}=>by rw [← ho];exact ma_rd20
 refine calls_anyO (calls_inlineP (K:=anyO (DoK14 b m.fr L (endsV 253 m.fr L x y) rest)) (args:=[_]) Tryz.func175 rfl Tryz.ntmps175 rfl ?_ hs)
 (refine sRz<|vAz<|nNz<|zI<|sRz<|vMz<|vNz<|vFz<|vFz<|ldz rfl .head hrdO ?_;refine lvz (.eqT rfl rfl (by omega)) ?_;refine nNz<|cTz<|zL<|vAz<|nNz<|zI ?_)
 apply CW.pre
 refine AnyW.mid 13 1 mixed (by decide +kernel) ?_
 ((try simp only [tsOf_cons,tsOf_nil,tsOf_app]);refine dvz (.move rfl)<|dvz (.move rfl)<|dvz (.nilCheck rfl)<|dvz (.fieldAddr rfl rfl) ?_;apply qF;rfl;rfl;rfl;exact zC;rfl;apply zP;exact zN;exact hrdT rfl;refine dvz (.indexAddrSL rfl rfl (by decide) (by omega)) ?_;apply qF;rfl;rfl;rfl;exact zC;rfl;apply zO;apply zQ;apply zP;exact zN;exact hrdx;refine dvz (.move rfl)<|dvz (.nilCheck rfl)<|dvz (.fieldAddr rfl rfl) ?_;apply qF;rfl;rfl;rfl;exact zC;rfl;apply zP;exact zN;exact hrdT rfl;refine dvz (.indexAddrSL rfl rfl (by decide) (by omega)) ?_;apply qF;rfl;rfl;rfl;exact zC;rfl;apply zO;apply zQ;apply zP;exact zN;exact hrdy;apply DW.nil;simp only [fsOf_cons,fsOf_nil,fsOf_app,fsOf_tsOf,fsOf_new,fsOf_tag,fsOf_mark])
 refine LW.callP (K:=ReachP b m L x y ((gt0,.cells cur 29 (0,0))::rest)) rfl rfl inferInstance (by (exact .cons rfl (.cons rfl (.cons rfl .nil)))) rfl (fun fs h=>by rcases h with ⟨_,h,_⟩|⟨_,_,_,_,h,_⟩<;>cases h) (fun w' hst=>reachP_calls w0 [] b m L gs x y hx hy hp.ok hp.gas hfr _ w' hst) ?_ ?_
 ·rintro v fs' (⟨_,h,_⟩|⟨hc,s,k,gs',h,hfr',rfl⟩)
  ·cases h
  cases h
  obtain ⟨hok1,hin⟩:=reach_in hp.gas hp.ok hc
  have hrea:reaV m.fr L x y=some (m.fr.setG (m.fr.gas - costR L x y),(memR L x y).ms):=by unfold reaV;exact if_pos hc
  obtain ⟨m1,hm1⟩:∃ m1,m.setF (frR m.fr L x y s k)=m1:=⟨_,rfl⟩
  rw [hm1]
  have hf1:m1.fr=frR m.fr L x y s k:=by rw [← hm1];rfl
  have hk1:m1.kind=0:=by rw [← hm1];exact hp.kind
  have ht1:m1.took=m.took:=by rw [← hm1];rfl
  have ho1:m1.op=m.op:=by rw [← hm1];rfl
  have hg1:m1.fr.gas≤20000:=by rw [hf1];show m.fr.gas - _≤20000;have:=hp.gas;omega
  rw [← hf1] at hfr'
  apply zV
  refine midN ?_
  ((try simp only [tsOf_cons,tsOf_nil,tsOf_app]);refine dvz (.move rfl) ?_;refine dvz (.extractN rfl rfl) ?_;refine dvz (.extractN rfl rfl) ?_;refine dvz (.assign rfl)<|dvz (.assign rfl) ?_;apply DW.nil;simp only [fsOf_cons,fsOf_nil,fsOf_app,fsOf_tsOf,fsOf_new,fsOf_tag,fsOf_mark])
  try simp only [fsOf_mark,fsOf_cons,fsOf_nil,fsOf_app,fsOf_tsOf,fsOf_new,fsOf_tag,List.append_eq,List.nil_append]
  obtain ⟨A,hA⟩:∃ A,(if y=0 then 0 else x)=A:=⟨_,rfl⟩
  rw [hA]
  have hn1:y=0∨A+y≤(memR L x y).ms.length:=by
   rcases Nat.eq_zero_or_pos y with h|h
   ·exact .inl h
   ·right;rw [← hA,if_neg (by omega)];exact hin h
  have hn2:y≤1024:=by have:=hok1.2.1;omega
  have hce:((memR L x y).ms.drop A).take y=((memR L x y).ms.drop x).take y:=by
   rcases Nat.eq_zero_or_pos y with h|h
   ·rw [h,List.take_zero,List.take_zero]
   ·rw [← hA,if_neg (by omega)]
  rw [show endsV 253 m.fr L x y=some ⟨5,0,m.fr.gas - costR L x y,m.fr.pc,L.ws,(memR L x y).ms,[],((memR L x y).ms.drop x).take y⟩ by unfold endsV;rw [hrea];rfl]
  (refine nNz<|zL<|vMz<|vMz<|vMz<|vMz<|vMz ?_)
  refine LW.callSt (K:=fun v fs'=>∃ gC,bM (((memR L x y).ms.drop A).take y) v gC∧fs'=(b,maO m1)::(gs'++(gC++((gt0,.cells cur 29 (0,0))::rest)))) rfl rfl inferInstance (by (exact .cons rfl (.cons rfl (.cons rfl .nil)))) (fun w' hst=>Calls.mono (cutM_calls w0 b m1 (memR L x y) gs' A y hok1 (hn1) hfr' _ w' hst) fun x w'' ⟨fs',⟨v,gC,h1,h2,h3⟩,hst⟩=>⟨v,fs',h1,⟨gC,h2,h3⟩,hst⟩) ?_
  rintro vC _ ⟨gC,hC,rfl⟩
  have hC':=hC
  unfold bM at hC'
  obtain ⟨qC,kC,rfl⟩:=id hC'.form
  (apply LW.v0;rfl;rfl;apply zW;infer_instance;infer_instance;apply zA;rfl;apply zA;rfl;exact zB;rfl;simp only [fillP,wrCells,Value.cells,qJ,qK,qL,qI,qN,qM,Nat.reduceAdd,qP];rfl;refine vNz<|vFz ?_;refine zR rfl rfl .head ma_wr19 ?_;apply zV)
  refine inPI (.inr rfl) .nil rfl .nil rfl ⟨_,⟨rfl,m1.setAsk 5 0 (.slice none 0 0) (.slice qC (List.take y (List.drop A (memR L x y).ms)).length kC),gs'++([]++gC),SoD.ask (o:=⟨5,0,m.fr.gas - costR L x y,m.fr.pc,L.ws,(memR L x y).ms,[],((memR L x y).ms.drop x).take y⟩) (s:=m1.fr.stk) (k:=m1.fr.mem) (by show (5:Int) ≠ 0;decide) rfl rfl (by show m1.fr=_;rw [hf1];rfl) hfr' wM_nil (by show bM (((memR L x y).ms.drop x).take y) _ gC;rw [← hce];exact hC),rfl⟩,_,?_,.refl _⟩
  refine List.Sublist.cons_cons _ ?_
  rw [List.nil_append,List.append_assoc]
  exact List.Sublist.append_left (List.Sublist.append_left (.cons _ (.refl _)) gC) gs'
 ·rintro ch fs' (⟨hc,h,rfl⟩|⟨_,_,_,_,h,_⟩)
  ·cases h
   have hrea:reaV m.fr L x y=none:=by unfold reaV;exact if_neg (Nat.not_le.2 hc)
   rw [show endsV 253 m.fr L x y=none by unfold endsV;rw [hrea];rfl]
   refine midP ?_
   refine thenP ?_
   exact inPP .nil ⟨rest,⟨rfl,rfl⟩,_,qS _ (.refl _),.refl _⟩
  ·cases h
theorem copies_calls (w0:World) (b:Nat) (m:MaV) (L:FrL) (l:List Nat) (gs gt rest:Fs) (w:World) (bl:List UInt8) (v:Value) (hbl:bl.length≤100000) (hp:DoPre m L l) (hl:3≤l.length) (hfr:FrP m.fr L gs) (ht:wM l m.took gt) (hs:St w0 [] ((b,maO m)::(gs++(gt++rest))) w)
  (hsel:∀ (f:FrV) (L':FrL) (w':World),FrRows w' f L'→f.inp=m.fr.inp→f.back=m.fr.back→L'.il=L.il→L'.bl=L.bl→RowAt w' 1 v bl.length (ucs bl)) :
  Calls Tryz.prog 204 #[.pointer (some ⟨b,0,none⟩),v] w (fun x w'=>∃ fs',DoK14 b m.fr L (copyV m.fr L bl (l.getD 0 0) (l.getD 1 0) (l.getD 2 0)) rest x fs'∧St w0 [] fs' w'):=by
 obtain ⟨gt0,cur,ct,htk,rfl,hcur⟩:=took_at ht (by omega)
 replace hs:St w0 [] ((b,maO m)::(gs++((gt0,.cells cur 29 (0,0))::rest))) w:=hs
 have hrdT:∀ {m':MaV} {E fr},m'.took=m.took→Rd Tryz.prog 23 (.cells (mca m') E fr) 18 (.slice (some ⟨gt0,0,none⟩) l.length ct):=fun {m' E fr} he=>by rw [show Value.slice (some ⟨gt0,0,none⟩) l.length ct=m'.took from htk.symm.trans he.symm];exact ma_rd18
 have hrdx:Rd Tryz.prog 29 (.cells cur 29 (0,0)) (0+0 * 4) (wv (l.getD 0 0)):=word_rd hcur 0 (by omega)
 have hx:l.getD 0 0 < M256:=getD_wlt hp.ls (by omega)
 have hrdy:Rd Tryz.prog 29 (.cells cur 29 (0,0)) (0+1 * 4) (wv (l.getD 1 0)):=word_rd hcur 1 (by omega)
 have hy:l.getD 1 0 < M256:=getD_wlt hp.ls (by omega)
 have hrdz:Rd Tryz.prog 29 (.cells cur 29 (0,0)) (0+2 * 4) (wv (l.getD 2 0)):=word_rd hcur 2 (by omega)
 have hz:l.getD 2 0 < M256:=getD_wlt hp.ls (by omega)
 obtain ⟨x,hxe⟩:∃ x,l.getD 0 0=x:=⟨_,rfl⟩
 rw [hxe] at hrdx hx ⊢
 obtain ⟨y,hye⟩:∃ y,l.getD 1 0=y:=⟨_,rfl⟩
 rw [hye] at hrdy hy ⊢
 obtain ⟨z,hze⟩:∃ z,l.getD 2 0=z:=⟨_,rfl⟩
 rw [hze] at hrdz hz ⊢
 refine calls_anyO (calls_inlineP (K:=anyO (DoK14 b m.fr L (copyV m.fr L bl x y z) rest)) (args:=[_,_]) Tryz.func204 rfl Tryz.ntmps204 rfl ?_ hs)
 (refine zI ?_)
 apply CW.pre
 refine AnyW.mid 13 1 mixed (by decide +kernel) ?_
 ((try simp only [tsOf_cons,tsOf_nil,tsOf_app]);refine dvz (.move rfl)<|dvz (.move rfl)<|dvz (.nilCheck rfl)<|dvz (.fieldAddr rfl rfl) ?_;apply qF;rfl;rfl;rfl;exact zC;rfl;apply zP;exact zN;exact hrdT rfl;refine dvz (.indexAddrSL rfl rfl (by decide) (by omega)) ?_;apply qF;rfl;rfl;rfl;exact zC;rfl;apply zO;apply zQ;apply zP;exact zN;exact hrdx;refine dvz (.move rfl)<|dvz (.nilCheck rfl)<|dvz (.fieldAddr rfl rfl) ?_;apply qF;rfl;rfl;rfl;exact zC;rfl;apply zP;exact zN;exact hrdT rfl;refine dvz (.indexAddrSL rfl rfl (by decide) (by omega)) ?_;apply qF;rfl;rfl;rfl;exact zC;rfl;apply zO;apply zQ;apply zP;exact zN;exact hrdz;apply DW.nil;simp only [fsOf_cons,fsOf_nil,fsOf_app,fsOf_tsOf,fsOf_new,fsOf_tag,fsOf_mark])
 refine LW.callP (K:=ReachP b m L x z ((gt0,.cells cur 29 (0,0))::rest)) rfl rfl inferInstance (by (exact .cons rfl (.cons rfl (.cons rfl .nil)))) rfl (fun fs h=>by rcases h with ⟨_,h,_⟩|⟨_,_,_,_,h,_⟩<;>cases h) (fun w' hst=>reachP_calls w0 [] b m L gs x z hx hz hp.ok hp.gas hfr _ w' hst) ?_ ?_
 ·rintro v fs' (⟨_,h,_⟩|⟨hc,s,k,gs',h,hfr',rfl⟩)
  ·cases h
  cases h
  obtain ⟨hok1,hin⟩:=reach_in hp.gas hp.ok hc
  have hrea:reaV m.fr L x z=some (m.fr.setG (m.fr.gas - costR L x z),(memR L x z).ms):=by unfold reaV;exact if_pos hc
  obtain ⟨m1,hm1⟩:∃ m1,m.setF (frR m.fr L x z s k)=m1:=⟨_,rfl⟩
  rw [hm1]
  have hf1:m1.fr=frR m.fr L x z s k:=by rw [← hm1];rfl
  have hk1:m1.kind=0:=by rw [← hm1];exact hp.kind
  have ht1:m1.took=m.took:=by rw [← hm1];rfl
  have ho1:m1.op=m.op:=by rw [← hm1];rfl
  have hg1:m1.fr.gas≤20000:=by rw [hf1];show m.fr.gas - _≤20000;have:=hp.gas;omega
  rw [← hf1] at hfr'
  apply zV
  refine midN ?_
  ((try simp only [tsOf_cons,tsOf_nil,tsOf_app]);refine dvz (.move rfl) ?_;refine dvz (.extractN rfl rfl) ?_;refine dvz (.extractN rfl rfl) ?_;refine dvz (.assign rfl)<|dvz (.assign rfl) ?_;apply DW.nil;simp only [fsOf_cons,fsOf_nil,fsOf_app,fsOf_tsOf,fsOf_new,fsOf_tag,fsOf_mark])
  try simp only [fsOf_mark,fsOf_cons,fsOf_nil,fsOf_app,fsOf_tsOf,fsOf_new,fsOf_tag,List.append_eq,List.nil_append]
  obtain ⟨A,hA⟩:∃ A,(if z=0 then 0 else x)=A:=⟨_,rfl⟩
  rw [hA]
  have hn1:z=0∨A+z≤(memR L x z).ms.length:=by
   rcases Nat.eq_zero_or_pos z with h|h
   ·exact .inl h
   ·right;rw [← hA,if_neg (by omega)];exact hin h
  have hn2:z≤1024:=by have:=hok1.2.1;omega
  obtain ⟨c,hc2⟩:∃ c,timesV ((z+31) / 32) 3=c:=⟨_,rfl⟩
  have hCopy:∀ w,Calls Tryz.prog 221 #[.int .u64 (z:Int)] w (Ret w (.int .u64 (c:Int))):=fun w=>by rw [← hc2];exact Copy_calls z (by omega) w
  have hle:(layL (memR L x z).ms A (winL bl y z))=layL (memR L x z).ms x (winL bl y z):=by
   rcases Nat.eq_zero_or_pos z with h|h
   ·rw [h,show winL bl y 0=[] from rfl,layL_nil,layL_nil]
   ·rw [← hA,if_neg (by omega)]
  by_cases hc3:c≤m1.fr.gas
  ·have hsp:spendM m1 [c]=some (m1.setGas (m1.fr.gas - c)):=by unfold spendM;rw [if_pos (by simpa using hc3)];simp
   rw [show copyV m.fr L bl x y z=some (soOn ((m.fr.setG (m.fr.gas - costR L x z)).setG (m.fr.gas - costR L x z - c)) L.ws (layL (memR L x z).ms x (winL bl y z))) by unfold copyV spnV;rw [hrea];show (if timesV ((z+31) / 32) 3≤m.fr.gas - costR L x z then some _ else none).bind _=_;rw [hc2,if_pos (by rw [hf1] at hc3;exact hc3)];rfl]
   (refine nSz<|vMz<|vMz ?_;apply zS;rfl;rfl;infer_instance;exact .cons rfl .nil;intro w _;exact hCopy w;apply LW.lay1;rfl;infer_instance;infer_instance;rfl;rfl;rfl;rfl;rfl;rfl;intro _)
   rename_i bc
   refine LW.perm (fs':=(b,maO m1)::(bc,.cells #[.int .u64 (c:Int)] 26 (0,0))::(gs'++((gt0,.cells cur 29 (0,0))::rest))) (List.perm_middle (l₁:=[_])).symm ?_
   refine LW.callP (K:=MaK b m1 (spendM m1 [c]) _) rfl rfl inferInstance (by (exact .cons rfl (.cons rfl .nil))) rfl (fun fs h=>by rw [hsp] at h;cases h.1) (fun w' hst=>spend_calls w0 [] b m1 [c] (by omega) _ _ w' hst (fun w2 h2=>row_cells (h2.own (bc,_) (List.Mem.tail _ (List.Mem.head _))).2 rfl rfl (by show 1≤maxLen;decide))) ?_ ?_
   ·rintro v fs' h
    rw [hsp] at h
    obtain ⟨h,rfl⟩:=h
    cases h
    obtain ⟨m2,hm2⟩:∃ m2,m1.setGas (m1.fr.gas - c)=m2:=⟨_,rfl⟩
    rw [hm2]
    have hf2:m2.fr=m1.fr.setG (m1.fr.gas - c):=by rw [← hm2];rfl
    have hk2:m2.kind=0:=by rw [← hm2];exact hk1
    have ht2:m2.took=m.took:=by rw [← hm2];exact ht1
    replace hfr':FrP m2.fr (memR L x z) gs':=by rw [hf2];exact hfr'
    refine LW.perm (fs':=(b,maO m2)::(gs'++((bc,.cells #[.int .u64 (c:Int)] 26 (0,0))::(gt0,.cells cur 29 (0,0))::rest))) (List.Perm.cons _ (List.perm_middle (l₁:=gs'))) ?_
    (refine nNz<|zL<|vMz<|vMz<|vMz<|vMz<|vNz<|vFz<|ldz rfl .head (hrdT ht2) ?_;refine lvz (.indexAddrSL rfl rfl (by decide) (by omega)) ?_;refine ldz rfl (.tail (.app (.tail .head))) hrdy<|vMz ?_)
    refine LW.callR rfl rfl inferInstance (by (exact .cons rfl (.cons rfl (.cons rfl .nil)))) (fun w' hst=>window_calls bl y z hn2 hy hbl _ w' (hsel m2.fr (memR L x z) w' (hfr'.st hst fun p hp=>qQ _ (List.mem_append_left _ hp)) (by rw [hf2,hf1];rfl) (by rw [hf2,hf1];rfl) rfl rfl)) ?_
    rintro vB gB hB
    have hB':=hB
    unfold bM at hB'
    obtain ⟨qB,kB,rfl⟩:=id hB'.form
    skip
    refine LW.perm (fs':=(b,maO m2)::(gs'++(gB++((bc,.cells #[.int .u64 (c:Int)] 26 (0,0))::(gt0,.cells cur 29 (0,0))::rest)))) (perm_ix [gB,[_],gs'] (xs:=[1,2,0]) (ys:=[0,1,2]) ((bc,.cells #[.int .u64 (c:Int)] 26 (0,0))::(gt0,.cells cur 29 (0,0))::rest) rfl) ?_
    refine LW.callSt (K:=fun v fs'=>PutP b m2 (memR L x z) (layL (memR L x z).ms A (winL bl y z)) (gB++((bc,.cells #[.int .u64 (c:Int)] 26 (0,0))::(gt0,.cells cur 29 (0,0))::rest)) (.returned v) fs') rfl rfl inferInstance (by (exact .cons rfl (.cons rfl (.cons rfl .nil)))) (fun w' hst=>Calls.mono (putM_calls w0 b m2 (memR L x z) gs' A (winL bl y z) _ hok1 (by rcases hn1 with h|h;exact .inl (by rw [h];rfl);exact .inr (by rw [winL_len];exact h)) hfr' _ w' (fun w2 h2=>IsRow.us hB' (us:=gB) (w:=w2) (fun p hp=>(h2.own p (qQ _ (List.mem_append_right _ (List.mem_append_left _ hp)))).2) (qO _)) hst) fun x w'' ⟨fs',hk,hst⟩=>⟨_,fs',hk.1,by { have h:=hk;rw [hk.1] at h;exact h },hst⟩) ?_
    rintro v fs' ⟨hv,s2,k2,gs2,hfr2,rfl⟩
    cases hv
    (apply zV)
    rw [hle] at hfr2
    refine inPI (.inr rfl) .nil rfl .nil rfl ⟨_,⟨rfl,m2.setF (m2.fr.setR m2.fr.gas s2 k2),gs2,SoD.on (m:=m2.setF (m2.fr.setR m2.fr.gas s2 k2)) (s:=s2) (k:=k2) hk2 (by show m2.fr.setR m2.fr.gas s2 k2=_;rw [hf2,hf1];rfl) (by have h:=hfr2.toP;exact h),rfl⟩,_,?_,.refl _⟩
    exact List.Sublist.cons_cons _ (List.Sublist.append_left ((qS _ (qS _ (.refl _))).trans (List.sublist_append_right gB _)) gs2)
   ·rintro ch fs' h
    rw [hsp] at h
    cases h.1
  ·have hsp:spendM m1 [c]=none:=by unfold spendM;rw [if_neg (by simpa using hc3)]
   rw [show copyV m.fr L bl x y z=none by unfold copyV spnV;rw [hrea];show (if timesV ((z+31) / 32) 3≤m.fr.gas - costR L x z then some _ else none).bind _=_;rw [hc2,if_neg (by rw [hf1] at hc3;exact hc3)];rfl]
   (refine nSz<|vMz<|vMz ?_;apply zS;rfl;rfl;infer_instance;exact .cons rfl .nil;intro w _;exact hCopy w;apply LW.lay1;rfl;infer_instance;infer_instance;rfl;rfl;rfl;rfl;rfl;rfl;intro _)
   rename_i bc
   refine LW.perm (fs':=(b,maO m1)::(bc,.cells #[.int .u64 (c:Int)] 26 (0,0))::(gs'++((gt0,.cells cur 29 (0,0))::rest))) (List.perm_middle (l₁:=[_])).symm ?_
   refine LW.callP (K:=MaK b m1 (spendM m1 [c]) _) rfl rfl inferInstance (by (exact .cons rfl (.cons rfl .nil))) rfl (fun fs h=>by rw [hsp] at h;cases h.1) (fun w' hst=>spend_calls w0 [] b m1 [c] (by omega) _ _ w' hst (fun w2 h2=>row_cells (h2.own (bc,_) (List.Mem.tail _ (List.Mem.head _))).2 rfl rfl (by show 1≤maxLen;decide))) ?_ ?_
   ·rintro v fs' h
    rw [hsp] at h
    cases h.1
   ·rintro ch fs' h
    rw [hsp] at h
    obtain ⟨h,rfl⟩:=h
    cases h
    refine thenP ?_
    exact inPP .nil ⟨rest,⟨rfl,rfl⟩,_,qS _ (qS _ ((qS _ (.refl _)).trans (List.sublist_append_right gs' _))),.refl _⟩
 ·rintro ch fs' (⟨hc,h,rfl⟩|⟨_,_,_,_,h,_⟩)
  ·cases h
   have hrea:reaV m.fr L x z=none:=by unfold reaV;exact if_neg (Nat.not_le.2 hc)
   rw [show copyV m.fr L bl x y z=none by unfold copyV;rw [hrea];rfl]
   refine midP ?_
   refine thenP ?_
   exact inPP .nil ⟨rest,⟨rfl,rfl⟩,_,qS _ (.refl _),.refl _⟩
  ·cases h
theorem dataCopy_do:DoC 163 55 3 0 (fun f L l=>copyV f L L.il (l.getD 0 0) (l.getD 1 0) (l.getD 2 0)):=by
 intro w0 b m L l gs gt rest w hT hN hp hop hl hly hfr ht hs
 dsimp only
 refine calls_anyO (calls_inlineP (K:=anyO (DoK14 b m.fr L (copyV m.fr L L.il (l.getD 0 0) (l.getD 1 0) (l.getD 2 0)) rest)) (args:=[_]) Tryz.func163 rfl Tryz.ntmps163 rfl ?_ hs)
 (refine zL<|vMz<|vMz<|vNz<|vFz<|vFz<|ldz rfl .head ma_rd11 ?_)
 refine LW.callP (K:=DoK14 b m.fr L (copyV m.fr L L.il (l.getD 0 0) (l.getD 1 0) (l.getD 2 0)) rest) rfl rfl inferInstance (by (exact .cons rfl (.cons rfl .nil))) rfl DoK14.plain (fun w' hst=>copies_calls w0 b m L l gs gt rest w' L.il m.fr.inp (by have:=hp.il;omega) hp hl hfr ht hst (fun f L' w2 h h1 _ h2 _=>by have h3:=h.i;rw [h1,h2] at h3;exact h3)) ?_ ?_
 ·rintro v fs' hk
  obtain rfl:=hk.ret
  (apply zV)
  exact inPI (.inr rfl) .nil rfl .nil rfl ⟨_,hk,_,.refl _,.refl _⟩
 ·rintro ch fs' hk
  obtain rfl:=hk.pan
  exact inPP .nil ⟨_,hk,_,.refl _,.refl _⟩
end
section
attribute [local irreducible] SL.inP
theorem DoK14.drop {b:Nat} {f:FrV} {L:FrL} {o:Option SO} {c:Nat × Obj} {rest:Fs} {x:Ending} {fs:Fs} (h:DoK14 b f L o (c::rest) x fs):anyO (DoK14 b f L o rest) x fs:=by
 cases o with
 |none =>
  obtain ⟨h1,rfl⟩:=h
  exact ⟨rest,⟨h1,rfl⟩,_,qS _ (.refl _),.refl _⟩
 |some o =>
  obtain ⟨h1,m',gs',h2,rfl⟩:=h
  exact ⟨_,⟨h1,m',gs',h2,rfl⟩,_,List.Sublist.cons_cons _ (List.Sublist.append_left (.cons _ (.refl _)) gs'),.refl _⟩
theorem backCopy_do:DoC 164 62 3 0 (fun f L l=>if l.getD 1 0+l.getD 2 0≤L.bl.length then copyV f L L.bl (l.getD 0 0) (l.getD 1 0) (l.getD 2 0) else none):=by
 intro w0 b m L l gs gt rest w hT hN hp hop hl hly hfr ht hs
 obtain ⟨gt0,cur,ct,htk,rfl,hcur⟩:=took_at ht (by omega)
 replace hs:St w0 [] ((b,maO m)::(gs++((gt0,.cells cur 29 (0,0))::rest))) w:=hs
 have hrdT:∀ {m':MaV} {E fr},m'.took=m.took→Rd Tryz.prog 23 (.cells (mca m') E fr) 18 (.slice (some ⟨gt0,0,none⟩) l.length ct):=fun {m' E fr} he=>by rw [show Value.slice (some ⟨gt0,0,none⟩) l.length ct=m'.took from htk.symm.trans he.symm];exact ma_rd18
 have hrdx:Rd Tryz.prog 29 (.cells cur 29 (0,0)) (0+0 * 4) (wv (l.getD 0 0)):=word_rd hcur 0 (by omega)
 have hx:l.getD 0 0 < M256:=getD_wlt hp.ls (by omega)
 have hrdy:Rd Tryz.prog 29 (.cells cur 29 (0,0)) (0+1 * 4) (wv (l.getD 1 0)):=word_rd hcur 1 (by omega)
 have hy:l.getD 1 0 < M256:=getD_wlt hp.ls (by omega)
 have hrdz:Rd Tryz.prog 29 (.cells cur 29 (0,0)) (0+2 * 4) (wv (l.getD 2 0)):=word_rd hcur 2 (by omega)
 have hz:l.getD 2 0 < M256:=getD_wlt hp.ls (by omega)
 dsimp only
 obtain ⟨x,hxe⟩:∃ x,l.getD 0 0=x:=⟨_,rfl⟩
 rw [hxe] at hrdx hx ⊢
 obtain ⟨y,hye⟩:∃ y,l.getD 1 0=y:=⟨_,rfl⟩
 rw [hye] at hrdy hy ⊢
 obtain ⟨z,hze⟩:∃ z,l.getD 2 0=z:=⟨_,rfl⟩
 rw [hze] at hrdz hz ⊢
 obtain ⟨g1,g2,g3,g4,g5,hpm,hall⟩:=id hfr
 have r5:=hall.2.2.2.2
 unfold bM at r5
 obtain ⟨q5,k5,hi⟩:=id r5.form
 have hrdB:∀ {E fr},Rd Tryz.prog 22 (.cells (mca m) E fr) 12 (.slice q5 L.bl.length k5):=fun {E fr}=>by rw [← hi];exact ma_rd12
 have hbl:L.bl.length≤1024:=hp.bl
 have hOf:∀ w,Calls Tryz.prog 98 #[.int .u64 (L.bl.length:Int)] w (Ret w (wv L.bl.length)):=fun w=>Of_calls L.bl.length (by omega) w
 have hAdd0:=Add_calls y z hy hz
 obtain ⟨S,hS⟩:∃ S,(y+z) % M256=S:=⟨_,rfl⟩
 have hSl:S < M256:=hS ▸ Nat.mod_lt _ (by decide)
 have hbM:L.bl.length < M256:=Nat.lt_of_le_of_lt hbl (by decide)
 have hCmp:=Cmp_calls S L.bl.length hSl hbM
 rw [hS] at hAdd0
 by_cases hov:M256≤y+z
 ·rw [decide_eq_true hov] at hAdd0
  have hAdd:∀ w,Calls Tryz.prog 17 #[wv y,wv z] w (Ret w (.tuple #[wv S,.bool true])):=hAdd0
  rw [if_neg (by have h1:L.bl.length < y+z:=Nat.lt_of_lt_of_le hbM hov;omega)]
  refine calls_anyO (calls_inlineP (K:=anyO (DoK14 b m.fr L (none) rest)) (args:=[_]) Tryz.func164 rfl Tryz.ntmps164 rfl ?_ hs)
  (refine zI ?_)
  apply CW.pre
  (refine AnyW.anyM [] 18 mixed (by decide +kernel) ?_)
  ((try simp only [tsOf_cons,tsOf_nil,tsOf_app]);refine dvz (.move rfl)<|dvz (.nilCheck rfl)<|dvz (.fieldAddr rfl rfl) ?_;apply qF;rfl;rfl;rfl;exact zC;rfl;apply zP;exact zN;exact hrdT rfl;refine dvz (.indexAddrSL rfl rfl (by decide) (by omega)) ?_;apply qF;rfl;rfl;rfl;exact zC;rfl;apply zO;apply zQ;apply zP;exact zN;exact hrdy;refine dvz (.move rfl)<|dvz (.nilCheck rfl)<|dvz (.fieldAddr rfl rfl) ?_;apply qF;rfl;rfl;rfl;exact zC;rfl;apply zP;exact zN;exact hrdT rfl;refine dvz (.indexAddrSL rfl rfl (by decide) (by omega)) ?_;apply qF;rfl;rfl;rfl;exact zC;rfl;apply zO;apply zQ;apply zP;exact zN;exact hrdz;apply DW.callE;rfl;rfl;rfl;exact zC;rfl;infer_instance;exact .cons rfl (.cons rfl .nil);rfl;exact ReadAll.nil;intro w _ _;exact hAdd w;refine dvz (.move rfl) ?_;refine dvz (.extractN rfl rfl) ?_;refine dvz (.extractN rfl rfl) ?_;apply DW.allocW;rfl;rfl;rfl;exact zC;intro _;apply DW.store;rfl;rfl;exact zC;rfl;rfl;apply TSet.head;kernel_rfl;exact zN;apply Wr.whole;rfl;rfl;rfl;apply DW.nil;simp only [fsOf_cons,fsOf_nil,fsOf_app,fsOf_tsOf,fsOf_new,fsOf_tag,fsOf_mark])
  try simp only [fsOf_mark,fsOf_cons,fsOf_nil,fsOf_app,fsOf_tsOf,fsOf_new,fsOf_tag,List.append_eq,List.nil_append]
  (refine vAz<|nNz<|zI ?_;apply CW.pre;refine AnyW.any 12 mixed (by decide +kernel) ?_;(try simp only [tsOf_cons,tsOf_nil,tsOf_app]);refine dvz (.move rfl) ?_;refine dvz (.notT rfl (by with_reducible rfl)) ?_;refine dvz (.move rfl) ?_;(iterate 9 refine dSz ?_);apply DW.nil;simp only [fsOf_cons,fsOf_nil,fsOf_app,fsOf_tsOf,fsOf_new,fsOf_tag,fsOf_mark];refine gFz<|gFz<|pFz ?_)
  rename_i b2
  refine LW.callP (K:=NeedK ((b2,.cells (wc S) 29 (0,0))::(b,maO m)::(gs++((gt0,.cells cur 29 (0,0))::rest)))) rfl rfl inferInstance (by (exact .cons rfl .nil)) rfl (fun fs h=>by cases h.1) (fun w' hst=>need_false w0 [] _ w' hst) ?_ ?_
  ·rintro v fs' ⟨h,_⟩
   cases h
  ·rintro ch fs' ⟨h,rfl⟩
   cases h
   refine thenP ?_
   exact inPP .nil ⟨rest,⟨rfl,rfl⟩,_,qS _ (qS _ ((qS _ (.refl _)).trans (List.sublist_append_right gs _))),.refl _⟩
 ·rw [decide_eq_false hov] at hAdd0
  have hAdd:∀ w,Calls Tryz.prog 17 #[wv y,wv z] w (Ret w (.tuple #[wv S,.bool false])):=hAdd0
  have hSe:S=y+z:=by rw [← hS];exact Nat.mod_eq_of_lt (Nat.lt_of_not_le hov)
  rw [← hSe]
  by_cases hle:S≤L.bl.length
  ·rw [if_pos hle]
   refine calls_anyO (calls_inlineP (K:=anyO (DoK14 b m.fr L (copyV m.fr L L.bl x y z) rest)) (args:=[_]) Tryz.func164 rfl Tryz.ntmps164 rfl ?_ hs)
   (refine zI ?_)
   apply CW.pre
   (refine AnyW.anyM [] 18 mixed (by decide +kernel) ?_)
   ((try simp only [tsOf_cons,tsOf_nil,tsOf_app]);refine dvz (.move rfl)<|dvz (.nilCheck rfl)<|dvz (.fieldAddr rfl rfl) ?_;apply qF;rfl;rfl;rfl;exact zC;rfl;apply zP;exact zN;exact hrdT rfl;refine dvz (.indexAddrSL rfl rfl (by decide) (by omega)) ?_;apply qF;rfl;rfl;rfl;exact zC;rfl;apply zO;apply zQ;apply zP;exact zN;exact hrdy;refine dvz (.move rfl)<|dvz (.nilCheck rfl)<|dvz (.fieldAddr rfl rfl) ?_;apply qF;rfl;rfl;rfl;exact zC;rfl;apply zP;exact zN;exact hrdT rfl;refine dvz (.indexAddrSL rfl rfl (by decide) (by omega)) ?_;apply qF;rfl;rfl;rfl;exact zC;rfl;apply zO;apply zQ;apply zP;exact zN;exact hrdz;apply DW.callE;rfl;rfl;rfl;exact zC;rfl;infer_instance;exact .cons rfl (.cons rfl .nil);rfl;exact ReadAll.nil;intro w _ _;exact hAdd w;refine dvz (.move rfl) ?_;refine dvz (.extractN rfl rfl) ?_;refine dvz (.extractN rfl rfl) ?_;apply DW.allocW;rfl;rfl;rfl;exact zC;intro _;apply DW.store;rfl;rfl;exact zC;rfl;rfl;apply TSet.head;kernel_rfl;exact zN;apply Wr.whole;rfl;rfl;rfl;apply DW.nil;simp only [fsOf_cons,fsOf_nil,fsOf_app,fsOf_tsOf,fsOf_new,fsOf_tag,fsOf_mark])
   try simp only [fsOf_mark,fsOf_cons,fsOf_nil,fsOf_app,fsOf_tsOf,fsOf_new,fsOf_tag,List.append_eq,List.nil_append]
   (refine vAz<|nNz<|zI ?_;apply CW.pre;refine AnyW.any 12 mixed (by decide +kernel) ?_;(try simp only [tsOf_cons,tsOf_nil,tsOf_app]);refine dvz (.move rfl) ?_;refine dvz (.notF rfl (by with_reducible rfl)) ?_;refine dvz (.move rfl) ?_;apply qF;rfl;rfl;rfl;apply wantYes;rfl;rfl;(with_reducible rfl);rfl;apply zP;exact zN;exact qH rfl;refine dwz (.move rfl)<|dwz (.nilCheck rfl)<|dwz (.fieldAddr rfl rfl)<|dwz (.fieldAddr rfl rfl) ?_;apply qF;rfl;rfl;rfl;apply wantYes;rfl;rfl;(with_reducible rfl);rfl;apply zO;apply zP;exact zN;exact hrdB;refine dwz (.lenR rfl inferInstance rfl) ?_;refine dwz (.convN rfl (by omega) (by omega)) ?_;apply DW.callE;rfl;rfl;rfl;apply wantYes;rfl;rfl;(with_reducible rfl);rfl;infer_instance;exact .cons rfl .nil;rfl;exact ReadAll.nil;intro w _ _;exact hOf w;apply DW.nil;simp only [fsOf_cons,fsOf_nil,fsOf_app,fsOf_tsOf,fsOf_new,fsOf_tag,fsOf_mark];refine gTz ?_;apply zS;rfl;rfl;infer_instance;exact .cons rfl (.cons rfl .nil);intro w _;exact hCmp w;refine gTz ?_;refine lvz (.leqT rfl rfl (by omega)) ?_;refine pTz ?_;apply zS;rfl;rfl;infer_instance;exact .cons rfl .nil;intro w _;exact need_true w;refine nNz<|zL<|vMz<|vMz<|vNz<|vFz<|vFz<|ldz rfl (.tail .head) hrdB ?_)
   rename_i b2
   refine LW.perm (fs':=(b,maO m)::(gs++((gt0,.cells cur 29 (0,0))::(b2,.cells (wc S) 29 (0,0))::rest))) (perm_ix [[_],gs,[_],[_]] (xs:=[0,1,2,3]) (ys:=[3,0,1,2]) rest rfl) ?_
   refine LW.callP (K:=DoK14 b m.fr L (copyV m.fr L L.bl x y z) ((b2,.cells (wc S) 29 (0,0))::rest)) rfl rfl inferInstance (by (exact .cons rfl (.cons rfl .nil))) rfl DoK14.plain (fun w' hst=>by have h:=copies_calls w0 b m L l gs [(gt0,.cells cur 29 (0,0))] ((b2,.cells (wc S) 29 (0,0))::rest) w' L.bl (.slice q5 L.bl.length k5) (by have:=hp.bl;omega) hp hl hfr ht hst (fun f L' w2 h _ h1 _ h2=>by have h3:=h.b;rw [h1,h2,hi] at h3;exact h3);rw [hxe,hye,hze] at h;exact h) ?_ ?_
   ·rintro v fs' hk
    obtain rfl:=hk.ret
    (apply zV)
    exact inPI (.inr rfl) .nil rfl .nil rfl (DoK14.drop hk)
   ·rintro ch fs' hk
    obtain rfl:=hk.pan
    exact inPP .nil (DoK14.drop hk)
  ·rw [if_neg hle]
   refine calls_anyO (calls_inlineP (K:=anyO (DoK14 b m.fr L (none) rest)) (args:=[_]) Tryz.func164 rfl Tryz.ntmps164 rfl ?_ hs)
   (refine zI ?_)
   apply CW.pre
   (refine AnyW.anyM [] 18 mixed (by decide +kernel) ?_)
   ((try simp only [tsOf_cons,tsOf_nil,tsOf_app]);refine dvz (.move rfl)<|dvz (.nilCheck rfl)<|dvz (.fieldAddr rfl rfl) ?_;apply qF;rfl;rfl;rfl;exact zC;rfl;apply zP;exact zN;exact hrdT rfl;refine dvz (.indexAddrSL rfl rfl (by decide) (by omega)) ?_;apply qF;rfl;rfl;rfl;exact zC;rfl;apply zO;apply zQ;apply zP;exact zN;exact hrdy;refine dvz (.move rfl)<|dvz (.nilCheck rfl)<|dvz (.fieldAddr rfl rfl) ?_;apply qF;rfl;rfl;rfl;exact zC;rfl;apply zP;exact zN;exact hrdT rfl;refine dvz (.indexAddrSL rfl rfl (by decide) (by omega)) ?_;apply qF;rfl;rfl;rfl;exact zC;rfl;apply zO;apply zQ;apply zP;exact zN;exact hrdz;apply DW.callE;rfl;rfl;rfl;exact zC;rfl;infer_instance;exact .cons rfl (.cons rfl .nil);rfl;exact ReadAll.nil;intro w _ _;exact hAdd w;refine dvz (.move rfl) ?_;refine dvz (.extractN rfl rfl) ?_;refine dvz (.extractN rfl rfl) ?_;apply DW.allocW;rfl;rfl;rfl;exact zC;intro _;apply DW.store;rfl;rfl;exact zC;rfl;rfl;apply TSet.head;kernel_rfl;exact zN;apply Wr.whole;rfl;rfl;rfl;apply DW.nil;simp only [fsOf_cons,fsOf_nil,fsOf_app,fsOf_tsOf,fsOf_new,fsOf_tag,fsOf_mark])
   try simp only [fsOf_mark,fsOf_cons,fsOf_nil,fsOf_app,fsOf_tsOf,fsOf_new,fsOf_tag,List.append_eq,List.nil_append]
   (refine vAz<|nNz<|zI ?_;apply CW.pre;refine AnyW.any 12 mixed (by decide +kernel) ?_;(try simp only [tsOf_cons,tsOf_nil,tsOf_app]);refine dvz (.move rfl) ?_;refine dvz (.notF rfl (by with_reducible rfl)) ?_;refine dvz (.move rfl) ?_;apply qF;rfl;rfl;rfl;apply wantYes;rfl;rfl;(with_reducible rfl);rfl;apply zP;exact zN;exact qH rfl;refine dwz (.move rfl)<|dwz (.nilCheck rfl)<|dwz (.fieldAddr rfl rfl)<|dwz (.fieldAddr rfl rfl) ?_;apply qF;rfl;rfl;rfl;apply wantYes;rfl;rfl;(with_reducible rfl);rfl;apply zO;apply zP;exact zN;exact hrdB;refine dwz (.lenR rfl inferInstance rfl) ?_;refine dwz (.convN rfl (by omega) (by omega)) ?_;apply DW.callE;rfl;rfl;rfl;apply wantYes;rfl;rfl;(with_reducible rfl);rfl;infer_instance;exact .cons rfl .nil;rfl;exact ReadAll.nil;intro w _ _;exact hOf w;apply DW.nil;simp only [fsOf_cons,fsOf_nil,fsOf_app,fsOf_tsOf,fsOf_new,fsOf_tag,fsOf_mark];refine gTz ?_;apply zS;rfl;rfl;infer_instance;exact .cons rfl (.cons rfl .nil);intro w _;exact hCmp w;refine gTz ?_;refine lvz (.leqF rfl rfl (by omega)) ?_;refine pTz ?_)
   rename_i b2
   refine LW.callP (K:=NeedK ((b2,.cells (wc S) 29 (0,0))::(b,maO m)::(gs++((gt0,.cells cur 29 (0,0))::rest)))) rfl rfl inferInstance (by (exact .cons rfl .nil)) rfl (fun fs h=>by cases h.1) (fun w' hst=>need_false w0 [] _ w' hst) ?_ ?_
   ·rintro v fs' ⟨h,_⟩
    cases h
   ·rintro ch fs' ⟨h,rfl⟩
    cases h
    refine thenP ?_
    exact inPP .nil ⟨rest,⟨rfl,rfl⟩,_,qS _ (qS _ ((qS _ (.refl _)).trans (List.sublist_append_right gs _))),.refl _⟩
theorem call_do (op:Nat) (h4:op=241∨op=244∨op=250∨op=245):DoC 173 op 3 0 (fun f L l=>callV14 op f L l):=by
 intro w0 b m L l gs gt rest w hT hN hp hop hl hly hfr ht hs
 obtain ⟨gt0,cur,ct,htk,rfl,hcur⟩:=took_at ht (by omega)
 replace hs:St w0 [] ((b,maO m)::(gs++((gt0,.cells cur 29 (0,0))::rest))) w:=hs
 have hrdT:∀ {m':MaV} {E fr},m'.took=m.took→Rd Tryz.prog 23 (.cells (mca m') E fr) 18 (.slice (some ⟨gt0,0,none⟩) l.length ct):=fun {m' E fr} he=>by rw [show Value.slice (some ⟨gt0,0,none⟩) l.length ct=m'.took from htk.symm.trans he.symm];exact ma_rd18
 have hrdz:Rd Tryz.prog 29 (.cells cur 29 (0,0)) (0+2 * 4) (wv (l.getD 2 0)):=word_rd hcur 2 (by omega)
 have hz:l.getD 2 0 < M256:=getD_wlt hp.ls (by omega)
 dsimp only
 unfold callV14
 obtain ⟨z,hze⟩:∃ z,l.getD 2 0=z:=⟨_,rfl⟩
 rw [hze] at hrdz hz ⊢
 obtain ⟨o,ho⟩:∃ o,m.op=o:=⟨_,rfl⟩
 have hoe:o=op:=ho.symm.trans hop
 have hrdO:∀ {E fr},Rd Tryz.prog 5 (.cells (mca m) E fr) 20 (.int .u8 (o:Int)):=fun {E fr}=>by rw [← ho];exact ma_rd20
 cases hst0:m.fr.stat with
 |false =>
  have hrdS:∀ {E fr},Rd Tryz.prog 4 (.cells (mca m) E fr) 13 (.bool false):=fun {E fr}=>by rw [← hst0];exact ma_rd13
  rw [if_neg (fun h=>by cases h.1)]
  refine calls_anyO (calls_inlineP (K:=anyO (DoK14 b m.fr L (some ⟨2,op,m.fr.gas,m.fr.pc,L.ws,L.ms,l,[]⟩) rest)) (args:=[_]) Tryz.func173 rfl Tryz.ntmps173 rfl ?_ hs)
  (refine sRz<|vMz<|vNz<|vFz<|vFz<|ldz rfl .head hrdO<|vAz<|nSz<|vMz<|vNz<|vFz<|vFz<|ldz rfl .head hrdS ?_;refine lvz (.notF rfl (by with_reducible rfl)) ?_;refine vMz ?_;(iterate 3 refine gFz ?_);(iterate 12 refine gUz ?_);refine gFz<|pTz ?_;apply zS;rfl;rfl;infer_instance;exact .cons rfl .nil;intro w _;exact need_true w;refine nNz<|zL<|vMz<|vMz ?_)
  refine LW.callSt (K:=fun v fs'=>v=.tuple #[]∧fs'=(b,maO (m.setAsk 2 o m.took (.slice none 0 0)))::(gs++((gt0,.cells cur 29 (0,0))::rest))) rfl rfl inferInstance (by (exact .cons rfl (.cons rfl (.cons rfl .nil)))) (fun w' hst=>Calls.mono (asks_calls w0 [] b m 2 o _ ⟨_,_,_,htk⟩ w' hst) fun x w'' ⟨fs',hk,hst⟩=>⟨_,fs',hk.1,⟨rfl,hk.2⟩,hst⟩) ?_
  rintro _ _ ⟨rfl,rfl⟩
  (apply zV)
  refine inPI (.inr rfl) .nil rfl .nil rfl ⟨_,⟨rfl,m.setAsk 2 o m.took (.slice none 0 0),gs++([(gt0,Obj.cells cur 29 (0,0))]++[]),SoD.ask (m:=m.setAsk 2 o m.took (.slice none 0 0)) (g2:=[(gt0,Obj.cells cur 29 (0,0))]) (g3:=[]) (o:=⟨2,op,m.fr.gas,m.fr.pc,L.ws,L.ms,l,[]⟩) (s:=m.fr.stk) (k:=m.fr.mem) (by show (2:Int) ≠ 0;decide) rfl hoe rfl hfr ht bM_nil,rfl⟩,_,?_,.refl _⟩
  rw [List.append_assoc]
  exact qO _
 |true =>
  have hrdS:∀ {E fr},Rd Tryz.prog 4 (.cells (mca m) E fr) 13 (.bool true):=fun {E fr}=>by rw [← hst0];exact ma_rd13
  by_cases h245:o=245
  ·rw [if_pos ⟨rfl,.inl (by omega)⟩]
   refine calls_anyO (calls_inlineP (K:=anyO (DoK14 b m.fr L (none) rest)) (args:=[_]) Tryz.func173 rfl Tryz.ntmps173 rfl ?_ hs)
   (refine sRz<|vMz<|vNz<|vFz<|vFz<|ldz rfl .head hrdO<|vAz<|nSz<|vMz<|vNz<|vFz<|vFz<|ldz rfl .head hrdS ?_;refine lvz (.notT rfl (by with_reducible rfl)) ?_;refine vMz<|gTz<|vMz<|gTz ?_;refine lvz (.neF rfl rfl (by omega)) ?_;refine gTz<|vMz ?_;(iterate 3 refine gFz ?_);(iterate 8 refine gUz ?_);refine gFz<|gTz<|pFz<|pFz ?_)
   refine LW.callP (K:=NeedK ((b,maO m)::(gs++((gt0,.cells cur 29 (0,0))::rest)))) rfl rfl inferInstance (by (exact .cons rfl .nil)) rfl (fun fs h=>by cases h.1) (fun w' hst=>need_false w0 [] _ w' hst) ?_ ?_
   ·rintro v fs' ⟨h,_⟩
    cases h
   ·rintro ch fs' ⟨h,rfl⟩
    cases h
    refine thenP ?_
    exact inPP .nil ⟨rest,⟨rfl,rfl⟩,_,qS _ ((qS _ (.refl _)).trans (List.sublist_append_right gs _)),.refl _⟩
  ·by_cases h241:o=241
   ·by_cases hz0:z=0
    ·rw [if_neg (fun h=>by rcases h.2 with h|h;omega;exact h.2 hz0)]
     refine calls_anyO (calls_inlineP (K:=anyO (DoK14 b m.fr L (some ⟨2,op,m.fr.gas,m.fr.pc,L.ws,L.ms,l,[]⟩) rest)) (args:=[_]) Tryz.func173 rfl Tryz.ntmps173 rfl ?_ hs)
     (refine sRz<|vMz<|vNz<|vFz<|vFz<|ldz rfl .head hrdO<|vAz<|nSz<|vMz<|vNz<|vFz<|vFz<|ldz rfl .head hrdS ?_;refine lvz (.notT rfl (by with_reducible rfl)) ?_;refine vMz<|gTz<|vMz<|gTz ?_;refine lvz (.neT rfl rfl (by omega)) ?_;refine gTz<|vMz<|gTz<|vMz<|gTz ?_;refine lvz (.neF rfl rfl (by omega)) ?_;refine gTz<|vMz<|gTz<|vMz<|gTz<|vNz<|gTz<|vFz<|gTz<|ldz rfl .head (hrdT rfl)<|gTz ?_;refine lvz (.indexAddrSL rfl rfl (by decide) (by omega)) ?_;refine gTz<|ldz rfl (.tail (.app .head)) hrdz<|gTz ?_;apply LW.v0;rfl;rfl;exact ValP.buildW0;refine gTz ?_;refine lvz (.eqWT rfl rfl (by assumption)) ?_;refine gTz<|pFz<|gTz<|pTz<|pFz ?_;apply zS;rfl;rfl;infer_instance;exact .cons rfl .nil;intro w _;exact need_true w;refine nNz<|zL<|vMz<|vMz ?_)
     refine LW.callSt (K:=fun v fs'=>v=.tuple #[]∧fs'=(b,maO (m.setAsk 2 o m.took (.slice none 0 0)))::(gs++((gt0,.cells cur 29 (0,0))::rest))) rfl rfl inferInstance (by (exact .cons rfl (.cons rfl (.cons rfl .nil)))) (fun w' hst=>Calls.mono (asks_calls w0 [] b m 2 o _ ⟨_,_,_,htk⟩ w' hst) fun x w'' ⟨fs',hk,hst⟩=>⟨_,fs',hk.1,⟨rfl,hk.2⟩,hst⟩) ?_
     rintro _ _ ⟨rfl,rfl⟩
     (apply zV)
     refine inPI (.inr rfl) .nil rfl .nil rfl ⟨_,⟨rfl,m.setAsk 2 o m.took (.slice none 0 0),gs++([(gt0,Obj.cells cur 29 (0,0))]++[]),SoD.ask (m:=m.setAsk 2 o m.took (.slice none 0 0)) (g2:=[(gt0,Obj.cells cur 29 (0,0))]) (g3:=[]) (o:=⟨2,op,m.fr.gas,m.fr.pc,L.ws,L.ms,l,[]⟩) (s:=m.fr.stk) (k:=m.fr.mem) (by show (2:Int) ≠ 0;decide) rfl hoe rfl hfr ht bM_nil,rfl⟩,_,?_,.refl _⟩
     rw [List.append_assoc]
     exact qO _
    ·rw [if_pos ⟨rfl,.inr ⟨by omega,hz0⟩⟩]
     refine calls_anyO (calls_inlineP (K:=anyO (DoK14 b m.fr L (none) rest)) (args:=[_]) Tryz.func173 rfl Tryz.ntmps173 rfl ?_ hs)
     (refine sRz<|vMz<|vNz<|vFz<|vFz<|ldz rfl .head hrdO<|vAz<|nSz<|vMz<|vNz<|vFz<|vFz<|ldz rfl .head hrdS ?_;refine lvz (.notT rfl (by with_reducible rfl)) ?_;refine vMz<|gTz<|vMz<|gTz ?_;refine lvz (.neT rfl rfl (by omega)) ?_;refine gTz<|vMz<|gTz<|vMz<|gTz ?_;refine lvz (.neF rfl rfl (by omega)) ?_;refine gTz<|vMz<|gTz<|vMz<|gTz<|vNz<|gTz<|vFz<|gTz<|ldz rfl .head (hrdT rfl)<|gTz ?_;refine lvz (.indexAddrSL rfl rfl (by decide) (by omega)) ?_;refine gTz<|ldz rfl (.tail (.app .head)) hrdz<|gTz ?_;apply LW.v0;rfl;rfl;exact ValP.buildW0;refine gTz ?_;refine lvz (.eqWF rfl rfl (by assumption) (by omega) (by assumption)) ?_;refine gTz<|pFz<|gTz<|pTz<|pFz ?_)
     refine LW.callP (K:=NeedK ((b,maO m)::(gs++((gt0,.cells cur 29 (0,0))::rest)))) rfl rfl inferInstance (by (exact .cons rfl .nil)) rfl (fun fs h=>by cases h.1) (fun w' hst=>need_false w0 [] _ w' hst) ?_ ?_
     ·rintro v fs' ⟨h,_⟩
      cases h
     ·rintro ch fs' ⟨h,rfl⟩
      cases h
      refine thenP ?_
      exact inPP .nil ⟨rest,⟨rfl,rfl⟩,_,qS _ ((qS _ (.refl _)).trans (List.sublist_append_right gs _)),.refl _⟩
   ·rw [if_neg (fun h=>by rcases h.2 with h|h;omega;exact absurd h.1 (by omega))]
    refine calls_anyO (calls_inlineP (K:=anyO (DoK14 b m.fr L (some ⟨2,op,m.fr.gas,m.fr.pc,L.ws,L.ms,l,[]⟩) rest)) (args:=[_]) Tryz.func173 rfl Tryz.ntmps173 rfl ?_ hs)
    (refine sRz<|vMz<|vNz<|vFz<|vFz<|ldz rfl .head hrdO<|vAz<|nSz<|vMz<|vNz<|vFz<|vFz<|ldz rfl .head hrdS ?_;refine lvz (.notT rfl (by with_reducible rfl)) ?_;refine vMz<|gTz<|vMz<|gTz ?_;refine lvz (.neT rfl rfl (by omega)) ?_;refine gTz<|vMz<|gTz<|vMz<|gTz ?_;refine lvz (.neT rfl rfl (by omega)) ?_;refine gTz<|vMz ?_;(iterate 8 refine gFz ?_);refine gTz<|pTz<|gTz<|pTz<|pFz ?_;apply zS;rfl;rfl;infer_instance;exact .cons rfl .nil;intro w _;exact need_true w;refine nNz<|zL<|vMz<|vMz ?_)
    refine LW.callSt (K:=fun v fs'=>v=.tuple #[]∧fs'=(b,maO (m.setAsk 2 o m.took (.slice none 0 0)))::(gs++((gt0,.cells cur 29 (0,0))::rest))) rfl rfl inferInstance (by (exact .cons rfl (.cons rfl (.cons rfl .nil)))) (fun w' hst=>Calls.mono (asks_calls w0 [] b m 2 o _ ⟨_,_,_,htk⟩ w' hst) fun x w'' ⟨fs',hk,hst⟩=>⟨_,fs',hk.1,⟨rfl,hk.2⟩,hst⟩) ?_
    rintro _ _ ⟨rfl,rfl⟩
    (apply zV)
    refine inPI (.inr rfl) .nil rfl .nil rfl ⟨_,⟨rfl,m.setAsk 2 o m.took (.slice none 0 0),gs++([(gt0,Obj.cells cur 29 (0,0))]++[]),SoD.ask (m:=m.setAsk 2 o m.took (.slice none 0 0)) (g2:=[(gt0,Obj.cells cur 29 (0,0))]) (g3:=[]) (o:=⟨2,op,m.fr.gas,m.fr.pc,L.ws,L.ms,l,[]⟩) (s:=m.fr.stk) (k:=m.fr.mem) (by show (2:Int) ≠ 0;decide) rfl hoe rfl hfr ht bM_nil,rfl⟩,_,?_,.refl _⟩
    rw [List.append_assoc]
    exact qO _
end
section
section rd
variable {P : Program} {T E : TypeId} {fr : Nat × Nat} {m : MaV}
theorem ma_rd5 [AgI P T false]:Rd P T (.cells (mca m) E fr) 5 (.int .u64 (m.fr.self:Int)):=Rd.one rfl
theorem ma_rd6 [AgI P T false]:Rd P T (.cells (mca m) E fr) 6 (.int .u64 (m.fr.frm:Int)):=Rd.one rfl
theorem ma_rd14 [AgI P T false]:Rd P T (.cells (mca m) E fr) 14 (.int .u64 (m.e0:Int)):=Rd.one rfl
theorem ma_rd15 [AgI P T false]:Rd P T (.cells (mca m) E fr) 15 (.int .u64 (m.e1:Int)):=Rd.one rfl
theorem ma_rd16 [AgI P T false]:Rd P T (.cells (mca m) E fr) 16 (.int .u64 (m.e2:Int)):=Rd.one rfl
theorem ma_rd17 [AgI P T false]:Rd P T (.cells (mca m) E fr) 17 (.int .u64 (m.e3:Int)):=Rd.one rfl
end rd
theorem say1_calls (b:Nat) (m:MaV) (L:FrL) (w:World) (hb:w.heap[b]?=some (maO m)) (hi:∃ q c,m.fr.inp=.slice q L.il.length c∧L.il.length≤1024) (hi2:∃ q c,m.fr.back=.slice q L.bl.length c∧L.bl.length≤1024):Calls Tryz.prog 150 #[.pointer (some ⟨b,0,none⟩)] w (Ret w (.int .u64 ((m.fr.self:Nat):Int))):=by
 refine enter (args:=[_]) _ [] [] Tryz.func150 rfl Tryz.ntmps150 rfl (by simp) .nil ?_
 (refine sRz<|vAz<|nSz<|vMz<|vNz<|vFz<|vFz ?_;apply LW.load;rfl;rfl;exact Known.ext (by assumption) (by simp);exact ma_rd5;refine vAz<|nNz<|zK ?_)
 (apply finR;exact .inl rfl;rfl;rfl;rfl;apply zD;exact zG rfl;exact zF)
 rfl
theorem say2_calls (b:Nat) (m:MaV) (L:FrL) (w:World) (hb:w.heap[b]?=some (maO m)) (hi:∃ q c,m.fr.inp=.slice q L.il.length c∧L.il.length≤1024) (hi2:∃ q c,m.fr.back=.slice q L.bl.length c∧L.bl.length≤1024):Calls Tryz.prog 151 #[.pointer (some ⟨b,0,none⟩)] w (Ret w (.int .u64 ((m.fr.frm:Nat):Int))):=by
 refine enter (args:=[_]) _ [] [] Tryz.func151 rfl Tryz.ntmps151 rfl (by simp) .nil ?_
 (refine sRz<|vAz<|nSz<|vMz<|vNz<|vFz<|vFz ?_;apply LW.load;rfl;rfl;exact Known.ext (by assumption) (by simp);exact ma_rd6;refine vAz<|nNz<|zK ?_)
 (apply finR;exact .inl rfl;rfl;rfl;rfl;apply zD;exact zG rfl;exact zF)
 rfl
theorem say3_calls (b:Nat) (m:MaV) (L:FrL) (w:World) (hb:w.heap[b]?=some (maO m)) (hi:∃ q c,m.fr.inp=.slice q L.il.length c∧L.il.length≤1024) (hi2:∃ q c,m.fr.back=.slice q L.bl.length c∧L.bl.length≤1024):Calls Tryz.prog 152 #[.pointer (some ⟨b,0,none⟩)] w (Ret w (.int .u64 ((m.e0:Nat):Int))):=by
 refine enter (args:=[_]) _ [] [] Tryz.func152 rfl Tryz.ntmps152 rfl (by simp) .nil ?_
 (refine sRz<|vAz<|nSz<|vMz<|vNz<|vFz<|vFz ?_;apply LW.load;rfl;rfl;exact Known.ext (by assumption) (by simp);exact ma_rd14;refine vAz<|nNz<|zK ?_)
 (apply finR;exact .inl rfl;rfl;rfl;rfl;apply zD;exact zG rfl;exact zF)
 rfl
theorem say4_calls (b:Nat) (m:MaV) (L:FrL) (w:World) (hb:w.heap[b]?=some (maO m)) (hi:∃ q c,m.fr.inp=.slice q L.il.length c∧L.il.length≤1024) (hi2:∃ q c,m.fr.back=.slice q L.bl.length c∧L.bl.length≤1024):Calls Tryz.prog 153 #[.pointer (some ⟨b,0,none⟩)] w (Ret w (.int .u64 ((m.e1:Nat):Int))):=by
 refine enter (args:=[_]) _ [] [] Tryz.func153 rfl Tryz.ntmps153 rfl (by simp) .nil ?_
 (refine sRz<|vAz<|nSz<|vMz<|vNz<|vFz<|vFz ?_;apply LW.load;rfl;rfl;exact Known.ext (by assumption) (by simp);exact ma_rd15;refine vAz<|nNz<|zK ?_)
 (apply finR;exact .inl rfl;rfl;rfl;rfl;apply zD;exact zG rfl;exact zF)
 rfl
theorem say5_calls (b:Nat) (m:MaV) (L:FrL) (w:World) (hb:w.heap[b]?=some (maO m)) (hi:∃ q c,m.fr.inp=.slice q L.il.length c∧L.il.length≤1024) (hi2:∃ q c,m.fr.back=.slice q L.bl.length c∧L.bl.length≤1024):Calls Tryz.prog 154 #[.pointer (some ⟨b,0,none⟩)] w (Ret w (.int .u64 ((m.e2:Nat):Int))):=by
 refine enter (args:=[_]) _ [] [] Tryz.func154 rfl Tryz.ntmps154 rfl (by simp) .nil ?_
 (refine sRz<|vAz<|nSz<|vMz<|vNz<|vFz<|vFz ?_;apply LW.load;rfl;rfl;exact Known.ext (by assumption) (by simp);exact ma_rd16;refine vAz<|nNz<|zK ?_)
 (apply finR;exact .inl rfl;rfl;rfl;rfl;apply zD;exact zG rfl;exact zF)
 rfl
theorem say6_calls (b:Nat) (m:MaV) (L:FrL) (w:World) (hb:w.heap[b]?=some (maO m)) (hi:∃ q c,m.fr.inp=.slice q L.il.length c∧L.il.length≤1024) (hi2:∃ q c,m.fr.back=.slice q L.bl.length c∧L.bl.length≤1024):Calls Tryz.prog 155 #[.pointer (some ⟨b,0,none⟩)] w (Ret w (.int .u64 ((m.e3:Nat):Int))):=by
 refine enter (args:=[_]) _ [] [] Tryz.func155 rfl Tryz.ntmps155 rfl (by simp) .nil ?_
 (refine sRz<|vAz<|nSz<|vMz<|vNz<|vFz<|vFz ?_;apply LW.load;rfl;rfl;exact Known.ext (by assumption) (by simp);exact ma_rd17;refine vAz<|nNz<|zK ?_)
 (apply finR;exact .inl rfl;rfl;rfl;rfl;apply zD;exact zG rfl;exact zF)
 rfl
theorem say7_calls (b:Nat) (m:MaV) (L:FrL) (w:World) (hb:w.heap[b]?=some (maO m)) (hi:∃ q c,m.fr.inp=.slice q L.il.length c∧L.il.length≤1024) (hi2:∃ q c,m.fr.back=.slice q L.bl.length c∧L.bl.length≤1024):Calls Tryz.prog 156 #[.pointer (some ⟨b,0,none⟩)] w (Ret w (.int .u64 ((L.il.length:Nat):Int))):=by
 obtain ⟨q,c,hi,hle⟩:=hi
 have hrdI:∀ {E fr},Rd Tryz.prog 22 (.cells (mca m) E fr) 11 (.slice q L.il.length c):=fun {E fr}=>by rw [← hi];exact ma_rd11
 refine enter (args:=[_]) _ [] [] Tryz.func156 rfl Tryz.ntmps156 rfl (by simp) .nil ?_
 (refine sRz<|vAz<|nSz<|vMz<|vNz<|vFz<|vFz ?_;apply LW.load;rfl;rfl;exact Known.ext (by assumption) (by simp);exact hrdI;refine lvz (.lenR rfl inferInstance rfl) ?_;refine lvz (.convN rfl (by omega) (by omega)) ?_;refine vAz<|nNz<|zK ?_)
 (apply finR;exact .inl rfl;rfl;rfl;rfl;apply zD;exact zG rfl;exact zF)
 rfl
theorem say8_calls (b:Nat) (m:MaV) (L:FrL) (w:World) (hb:w.heap[b]?=some (maO m)) (hi:∃ q c,m.fr.inp=.slice q L.il.length c∧L.il.length≤1024) (hi2:∃ q c,m.fr.back=.slice q L.bl.length c∧L.bl.length≤1024):Calls Tryz.prog 157 #[.pointer (some ⟨b,0,none⟩)] w (Ret w (.int .u64 ((L.bl.length:Nat):Int))):=by
 obtain ⟨q,c,hi,hle⟩:=hi2
 have hrdI:∀ {E fr},Rd Tryz.prog 22 (.cells (mca m) E fr) 12 (.slice q L.bl.length c):=fun {E fr}=>by rw [← hi];exact ma_rd12
 refine enter (args:=[_]) _ [] [] Tryz.func157 rfl Tryz.ntmps157 rfl (by simp) .nil ?_
 (refine sRz<|vAz<|nSz<|vMz<|vNz<|vFz<|vFz ?_;apply LW.load;rfl;rfl;exact Known.ext (by assumption) (by simp);exact hrdI;refine lvz (.lenR rfl inferInstance rfl) ?_;refine lvz (.convN rfl (by omega) (by omega)) ?_;refine vAz<|nNz<|zK ?_)
 (apply finR;exact .inl rfl;rfl;rfl;rfl;apply zD;exact zG rfl;exact zF)
 rfl
theorem say9_calls (b:Nat) (m:MaV) (L:FrL) (w:World) (hb:w.heap[b]?=some (maO m)) (hi:∃ q c,m.fr.inp=.slice q L.il.length c∧L.il.length≤1024) (hi2:∃ q c,m.fr.back=.slice q L.bl.length c∧L.bl.length≤1024):Calls Tryz.prog 158 #[.pointer (some ⟨b,0,none⟩)] w (Ret w (.int .u64 ((m.fr.gas:Nat):Int))):=by
 refine enter (args:=[_]) _ [] [] Tryz.func158 rfl Tryz.ntmps158 rfl (by simp) .nil ?_
 (refine sRz<|vAz<|nSz<|vMz<|vNz<|vFz<|vFz ?_;apply LW.load;rfl;rfl;exact Known.ext (by assumption) (by simp);exact ma_rd4;refine vAz<|nNz<|zK ?_)
 (apply finR;exact .inl rfl;rfl;rfl;rfl;apply zD;exact zG rfl;exact zF)
 rfl
theorem DoC.mono {fid:FuncId} {op tk ly tk' ly':Nat} {V V':FrV→FrL→List Nat→Option SO} (h:DoC fid op tk ly V) (h1:Nat.ble tk tk'=true) (h2:Nat.ble ly ly'=true) (hV:∀ f L l,V f L l=V' f L l):DoC fid op tk' ly' V':=by
 intro w0 b m L l gs gt rest w hT hN hp hop hl hly hfr ht hs
 rw [← hV]
 have e1:=Nat.le_of_ble_eq_true h1
 have e2:=Nat.le_of_ble_eq_true h2
 exact h w0 b m L l gs gt rest w hT hN hp hop (by omega) (by omega) hfr ht hs
theorem doesF_21:doesF 21=some (0,159):=by decide
theorem doesF_25:doesF 25=some (1,160):=by decide
theorem doesF_52:doesF 52=some (2,161):=by decide
theorem doesF_53:doesF 53=some (3,162):=by decide
theorem doesF_55:doesF 55=some (4,163):=by decide
theorem doesF_62:doesF 62=some (5,164):=by decide
theorem doesF_81:doesF 81=some (6,165):=by decide
theorem doesF_82:doesF 82=some (7,166):=by decide
theorem doesF_83:doesF 83=some (8,167):=by decide
theorem doesF_32:doesF 32=some (9,168):=by decide
theorem doesF_86:doesF 86=some (10,169):=by decide
theorem doesF_87:doesF 87=some (11,170):=by decide
theorem doesF_49:doesF 49=some (12,171):=by decide
theorem doesF_71:doesF 71=some (13,171):=by decide
theorem doesF_84:doesF 84=some (14,171):=by decide
theorem doesF_92:doesF 92=some (15,171):=by decide
theorem doesF_85:doesF 85=some (16,172):=by decide
theorem doesF_93:doesF 93=some (17,172):=by decide
theorem doesF_241:doesF 241=some (18,173):=by decide
theorem doesF_244:doesF 244=some (19,173):=by decide
theorem doesF_250:doesF 250=some (20,173):=by decide
theorem doesF_245:doesF 245=some (21,173):=by decide
theorem doesF_0:doesF 0=some (22,174):=by decide
theorem doesF_243:doesF 243=some (23,175):=by decide
theorem doesF_253:doesF 253=some (24,175):=by decide
theorem saysF_48:saysF 48=some (0,150):=by decide
theorem saysF_51:saysF 51=some (1,151):=by decide
theorem saysF_50:saysF 50=some (2,152):=by decide
theorem saysF_66:saysF 66=some (3,153):=by decide
theorem saysF_67:saysF 67=some (4,154):=by decide
theorem saysF_72:saysF 72=some (5,155):=by decide
theorem saysF_54:saysF 54=some (6,156):=by decide
theorem saysF_61:saysF 61=some (7,157):=by decide
theorem saysF_90:saysF 90=some (8,158):=by decide
theorem does_all {op i:Nat} {fid:FuncId} (h:doesF op=some (i,fid)):FnI Tryz.prog fid∧DoC fid op (opX op).tk (opX op).ly (doV op):=by
 by_cases h21:op=21
 ·subst h21
  cases (Option.some.inj ((doesF_21).symm.trans h))
  exact ⟨inferInstance,isZero_do.mono (by kernel_rfl) (by kernel_rfl) (fun f L l=>by rfl)⟩
 by_cases h25:op=25
 ·subst h25
  cases (Option.some.inj ((doesF_25).symm.trans h))
  exact ⟨inferInstance,not_do.mono (by kernel_rfl) (by kernel_rfl) (fun f L l=>by rfl)⟩
 by_cases h52:op=52
 ·subst h52
  cases (Option.some.inj ((doesF_52).symm.trans h))
  exact ⟨inferInstance,value_do.mono (by kernel_rfl) (by kernel_rfl) (fun f L l=>by rfl)⟩
 by_cases h53:op=53
 ·subst h53
  cases (Option.some.inj ((doesF_53).symm.trans h))
  exact ⟨inferInstance,dataLoad_do.mono (by kernel_rfl) (by kernel_rfl) (fun f L l=>by rfl)⟩
 by_cases h55:op=55
 ·subst h55
  cases (Option.some.inj ((doesF_55).symm.trans h))
  exact ⟨inferInstance,dataCopy_do.mono (by kernel_rfl) (by kernel_rfl) (fun f L l=>by rfl)⟩
 by_cases h62:op=62
 ·subst h62
  cases (Option.some.inj ((doesF_62).symm.trans h))
  exact ⟨inferInstance,backCopy_do.mono (by kernel_rfl) (by kernel_rfl) (fun f L l=>by rfl)⟩
 by_cases h81:op=81
 ·subst h81
  cases (Option.some.inj ((doesF_81).symm.trans h))
  exact ⟨inferInstance,load_do.mono (by kernel_rfl) (by kernel_rfl) (fun f L l=>by rfl)⟩
 by_cases h82:op=82
 ·subst h82
  cases (Option.some.inj ((doesF_82).symm.trans h))
  exact ⟨inferInstance,store_do.mono (by kernel_rfl) (by kernel_rfl) (fun f L l=>by rfl)⟩
 by_cases h83:op=83
 ·subst h83
  cases (Option.some.inj ((doesF_83).symm.trans h))
  exact ⟨inferInstance,store8_do.mono (by kernel_rfl) (by kernel_rfl) (fun f L l=>by rfl)⟩
 by_cases h32:op=32
 ·subst h32
  cases (Option.some.inj ((doesF_32).symm.trans h))
  exact ⟨inferInstance,hash_do.mono (by kernel_rfl) (by kernel_rfl) (fun f L l=>by rfl)⟩
 by_cases h86:op=86
 ·subst h86
  cases (Option.some.inj ((doesF_86).symm.trans h))
  exact ⟨inferInstance,(jump_do 86).mono (by kernel_rfl) (by kernel_rfl) (fun f L l=>by rfl)⟩
 by_cases h87:op=87
 ·subst h87
  cases (Option.some.inj ((doesF_87).symm.trans h))
  exact ⟨inferInstance,jumpIf_do.mono (by kernel_rfl) (by kernel_rfl) (fun f L l=>by rfl)⟩
 by_cases h49:op=49
 ·subst h49
  cases (Option.some.inj ((doesF_49).symm.trans h))
  exact ⟨inferInstance,(state_do 49).mono (by kernel_rfl) (by kernel_rfl) (fun f L l=>by rfl)⟩
 by_cases h71:op=71
 ·subst h71
  cases (Option.some.inj ((doesF_71).symm.trans h))
  exact ⟨inferInstance,(state_do 71).mono (by kernel_rfl) (by kernel_rfl) (fun f L l=>by rfl)⟩
 by_cases h84:op=84
 ·subst h84
  cases (Option.some.inj ((doesF_84).symm.trans h))
  exact ⟨inferInstance,(state_do 84).mono (by kernel_rfl) (by kernel_rfl) (fun f L l=>by rfl)⟩
 by_cases h92:op=92
 ·subst h92
  cases (Option.some.inj ((doesF_92).symm.trans h))
  exact ⟨inferInstance,(state_do 92).mono (by kernel_rfl) (by kernel_rfl) (fun f L l=>by rfl)⟩
 by_cases h85:op=85
 ·subst h85
  cases (Option.some.inj ((doesF_85).symm.trans h))
  exact ⟨inferInstance,(change_do 85).mono (by kernel_rfl) (by kernel_rfl) (fun f L l=>by rfl)⟩
 by_cases h93:op=93
 ·subst h93
  cases (Option.some.inj ((doesF_93).symm.trans h))
  exact ⟨inferInstance,(change_do 93).mono (by kernel_rfl) (by kernel_rfl) (fun f L l=>by rfl)⟩
 by_cases h241:op=241
 ·subst h241
  cases (Option.some.inj ((doesF_241).symm.trans h))
  exact ⟨inferInstance,(call_do 241 (by decide)).mono (by kernel_rfl) (by kernel_rfl) (fun f L l=>by rfl)⟩
 by_cases h244:op=244
 ·subst h244
  cases (Option.some.inj ((doesF_244).symm.trans h))
  exact ⟨inferInstance,(call_do 244 (by decide)).mono (by kernel_rfl) (by kernel_rfl) (fun f L l=>by rfl)⟩
 by_cases h250:op=250
 ·subst h250
  cases (Option.some.inj ((doesF_250).symm.trans h))
  exact ⟨inferInstance,(call_do 250 (by decide)).mono (by kernel_rfl) (by kernel_rfl) (fun f L l=>by rfl)⟩
 by_cases h245:op=245
 ·subst h245
  cases (Option.some.inj ((doesF_245).symm.trans h))
  exact ⟨inferInstance,(call_do 245 (by decide)).mono (by kernel_rfl) (by kernel_rfl) (fun f L l=>by rfl)⟩
 by_cases h0:op=0
 ·subst h0
  cases (Option.some.inj ((doesF_0).symm.trans h))
  exact ⟨inferInstance,stop_do.mono (by kernel_rfl) (by kernel_rfl) (fun f L l=>by rfl)⟩
 by_cases h243:op=243
 ·subst h243
  cases (Option.some.inj ((doesF_243).symm.trans h))
  exact ⟨inferInstance,ends243_do.mono (by kernel_rfl) (by kernel_rfl) (fun f L l=>by rfl)⟩
 by_cases h253:op=253
 ·subst h253
  cases (Option.some.inj ((doesF_253).symm.trans h))
  exact ⟨inferInstance,ends253_do.mono (by kernel_rfl) (by kernel_rfl) (fun f L l=>by rfl)⟩
 unfold doesF at h
 simp only [h21,h25,h52,h53,h55,h62,h81,h82,h83,h32,h86,h87,h49,h71,h84,h92,h85,h93,h241,h244,h250,h245,h0,h243,h253,if_false] at h
 cases h
theorem says_all {op i:Nat} {fid:FuncId} (h:saysF op=some (i,fid)):FnI Tryz.prog fid∧∀ (b:Nat) (m:MaV) (L:FrL) (w:World),w.heap[b]?=some (maO m)→(∃ q c,m.fr.inp=.slice q L.il.length c∧L.il.length≤1024)→(∃ q c,m.fr.back=.slice q L.bl.length c∧L.bl.length≤1024)→Calls Tryz.prog fid #[.pointer (some ⟨b,0,none⟩)] w (Ret w (.int .u64 ((sayV op m.fr L m.e0 m.e1 m.e2 m.e3:Nat):Int))):=by
 by_cases h48:op=48
 ·subst h48
  cases (Option.some.inj ((saysF_48).symm.trans h))
  exact ⟨inferInstance,fun b m L w hb hi hi2=>say1_calls b m L w hb hi hi2⟩
 by_cases h51:op=51
 ·subst h51
  cases (Option.some.inj ((saysF_51).symm.trans h))
  exact ⟨inferInstance,fun b m L w hb hi hi2=>say2_calls b m L w hb hi hi2⟩
 by_cases h50:op=50
 ·subst h50
  cases (Option.some.inj ((saysF_50).symm.trans h))
  exact ⟨inferInstance,fun b m L w hb hi hi2=>say3_calls b m L w hb hi hi2⟩
 by_cases h66:op=66
 ·subst h66
  cases (Option.some.inj ((saysF_66).symm.trans h))
  exact ⟨inferInstance,fun b m L w hb hi hi2=>say4_calls b m L w hb hi hi2⟩
 by_cases h67:op=67
 ·subst h67
  cases (Option.some.inj ((saysF_67).symm.trans h))
  exact ⟨inferInstance,fun b m L w hb hi hi2=>say5_calls b m L w hb hi hi2⟩
 by_cases h72:op=72
 ·subst h72
  cases (Option.some.inj ((saysF_72).symm.trans h))
  exact ⟨inferInstance,fun b m L w hb hi hi2=>say6_calls b m L w hb hi hi2⟩
 by_cases h54:op=54
 ·subst h54
  cases (Option.some.inj ((saysF_54).symm.trans h))
  exact ⟨inferInstance,fun b m L w hb hi hi2=>say7_calls b m L w hb hi hi2⟩
 by_cases h61:op=61
 ·subst h61
  cases (Option.some.inj ((saysF_61).symm.trans h))
  exact ⟨inferInstance,fun b m L w hb hi hi2=>say8_calls b m L w hb hi hi2⟩
 by_cases h90:op=90
 ·subst h90
  cases (Option.some.inj ((saysF_90).symm.trans h))
  exact ⟨inferInstance,fun b m L w hb hi hi2=>say9_calls b m L w hb hi hi2⟩
 unfold saysF at h
 simp only [h48,h51,h50,h66,h67,h72,h54,h61,h90,if_false] at h
 cases h
end
theorem depth_calls (n:Nat) (h1:1≤n) (h2:n≤16) (w:World):Calls Tryz.prog 201 #[.int .i64 (n:Int)] w (Ret w (.bool true)):=by
 refine enter (args:=[_]) _ [] [] Tryz.func201 rfl Tryz.ntmps201 rfl (by simp) .nil ?_
 (refine sRz<|vAz<|nSz<|vMz ?_;refine lvz (.geqT rfl rfl (by omega)) ?_;refine vMz<|gTz<|vMz<|gTz ?_;refine lvz (.leqT rfl rfl (by omega)) ?_;refine pTz<|vAz<|nNz<|zK ?_)
 (apply finR;exact .inl rfl;rfl;rfl;rfl;apply zD;exact zG rfl;exact zF)
 rfl
theorem Dup_calls (ws:List Nat) (ms:List UInt8) (n:Nat) (s m:Value) (h1:1≤n) (h2:n≤16) (hn:n≤ws.length) (hf:ws.length+1≤64) (w:World) (hs:RowAt w 4 s ws.length (wcs ws)) (hm:RowAt w 1 m ms.length (ucs ms)) (hok:okSc ws.length ms.length) :
  Calls Tryz.prog 133 #[.agg #[s,m],.int .i64 (n:Int)] w (RetG w [] (fun r gs=>∃ o,r=.tuple #[o,.int .i64 0]∧ScO (ws++[ws.getD (ws.length - n) 0]) ms o gs)):=by
 have hs0:=hs
 have hm0:=hm
 obtain ⟨b0,off,c,cs,E,fr,rfl,hb,hx⟩:=hs.pos (by omega)
 obtain ⟨p2,c2,rfl,_,hc2⟩:=id hm.form
 obtain ⟨_,_,he,_,hc⟩:=id hs.form
 cases he
 have hC:∀ w,Calls Tryz.prog 84 #[.agg #[.slice (some ⟨b0,off,none⟩) ws.length c,.slice p2 ms.length c2]] w (Ret w (.int .i64 0)):=fun w=>by
  have h:=scCheck_calls (some ⟨b0,off,none⟩) p2 ws.length c ms.length c2 (by omega) (by have:=hok.2.1;simp only [maxLen];omega) w
  rwa [if_pos hok] at h
 have hrd:Rd Tryz.prog 29 (.cells cs E fr) (off+(ws.length - n) * 4) (wv (ws.getD (ws.length - n) 0)):=word_rd hx (ws.length - n) (by omega)
 obtain ⟨x,hxe⟩:∃ x,ws.getD (ws.length - n) 0=x:=⟨_,rfl⟩
 rw [hxe] at hrd ⊢
 refine enter (args:=[_,_]) _ [] [] Tryz.func133 rfl Tryz.ntmps133 rfl (by simp) .nil ?_
 (refine sRz ?_;apply zT;rfl;rfl;intro _;apply zU;rfl;intro _;refine vAz<|nNz<|zI<|sRz<|ldz rfl (.tail .head) (qH rfl) ?_;apply zS;rfl;rfl;infer_instance;exact .cons rfl .nil;intro w _;exact hC w;refine vAz<|nSz<|vMz ?_;refine lvz (.neF rfl rfl (by omega)) ?_;refine nNz<|cFz<|zJ<|thenN<|zI<|zM<|sRz<|vMz ?_;apply zS;rfl;rfl;infer_instance;exact .cons rfl .nil;intro w _;exact depth_calls n h1 h2 w;refine lvz (.notT rfl (by with_reducible rfl)) ?_;refine vAz<|nNz<|cFz<|sRz<|vMz<|vFz<|ldz rfl (.tail .head) sc_rd0<|lvz (.lenR rfl inferInstance rfl) ?_;refine lvz (.gtrF rfl rfl (by omega)) ?_;refine vAz<|nNz<|cFz<|zJ<|blkN<|thenN<|zI ?_)
 apply CW.pre
 (refine AnyW.anyM [(11,fun r gs=>∃ o,r=.tuple #[o,.int .i64 0]∧ScO (ws++[x]) ms o gs)] 14 mixed (by decide +kernel) ?_)
 ((try simp only [tsOf_cons,tsOf_nil,tsOf_app]);apply qF;rfl;rfl;rfl;exact zC;rfl;apply zO;apply zP;exact zN;exact qH rfl;refine dvz (.fieldAddr rfl rfl) ?_;apply qF;rfl;rfl;rfl;exact zC;rfl;apply zO;apply zP;exact zN;exact sc_rd0;refine dvz (.fieldAddr rfl rfl) ?_;apply qF;rfl;rfl;rfl;exact zC;rfl;apply zO;apply zP;exact zN;exact sc_rd0;refine dvz (.lenR rfl inferInstance rfl)<|dvz (.move rfl) ?_;refine dvz (.subZ rfl rfl (by omega) (by omega)) ?_;refine dvz (.indexAddrS rfl rfl rfl (by omega)) ?_;apply DW.loadX;rfl;rfl;rfl;exact zC;rfl;assumption;simp;assumption;apply DW.layA;rfl;rfl;rfl;exact zC;infer_instance;infer_instance;rfl;rfl;rfl;rfl;rfl;intro _)
 rename_i b35
 refine DW.manyW (vs':=[.slice (some ⟨b0,off,none⟩) ws.length c,.slice p2 ms.length c2,.slice (some ⟨b35,0,none⟩) 1 1]) rfl rfl rfl (by (exact zC)) rfl inferInstance (by (exact .cons rfl (.cons rfl .nil))) (by simp only [List.flatMap_cons,List.flatMap_nil,List.append_nil];rw [← blocks_sl ⟨some ⟨b0,off,none⟩,ws.length,c,rfl⟩,← blocks_sl ⟨p2,ms.length,c2,rfl⟩];show (blocksN 3 _++(blocksN 3 _++[]))++_=_;simp) (.ext hs0 rfl (.ext hm0 rfl (.own (by omega) (by (apply zP;kernel_rfl)) .nil))) (fun w hb hu=>push_ok ws ms [x] _ _ _ w (hs0.bel hb) (hm0.bel hb) (row_cells (hu _ List.mem_cons_self) rfl rfl (by show 1≤maxLen;decide)) hok (by show 1≤100000;omega) hf) ?_
 rintro vP gP ⟨o,rfl,s1,m1,gg1,gg2,rfl,rfl,hw1,hb1⟩
 have hw1':=hw1
 have hb1':=hb1
 unfold wM at hw1'
 unfold bM at hb1'
 obtain ⟨q5,k5,rfl⟩:=hw1'.form
 obtain ⟨q6,k6,rfl⟩:=hb1'.form
 ((try simp only [tsOf_cons,tsOf_nil,tsOf_app]);refine dvz (.extractN rfl rfl) ?_;refine dvz (.extractN rfl rfl) ?_;apply DW.nil;simp only [fsOf_cons,fsOf_nil,fsOf_app,fsOf_tsOf,fsOf_new,fsOf_tag,fsOf_mark])
 try simp only [fsOf_mark,fsOf_cons,fsOf_nil,fsOf_app,fsOf_tsOf,fsOf_new,fsOf_tag,List.append_eq,List.nil_append]
 (refine zR rfl rfl (.app (.tail .head)) (.whole rfl rfl rfl)<|vAz<|nNz<|zK ?_)
 refine fin (vs:=[.agg #[.slice q5 (ws++[x]).length k5,.slice q6 ms.length k6],.int .i64 0]) (gg2++gg1) (.inl rfl) rfl rfl (by (apply zD;apply zH;rfl;apply qG;apply zZ;apply zX;apply zY;exact qH rfl;apply zD;exact zG rfl;exact zF)) ?_ ⟨_,rfl,_,_,gg1,gg2,rfl,rfl,hw1,hb1⟩
 exact qR _ _
theorem Swap_calls (ws:List Nat) (ms:List UInt8) (n:Nat) (s m:Value) (h1:1≤n) (h2:n≤16) (hn:n < ws.length) (w:World) (hs:RowAt w 4 s ws.length (wcs ws)) (hm:RowAt w 1 m ms.length (ucs ms)) (hok:okSc ws.length ms.length) :
  Calls Tryz.prog 134 #[.agg #[s,m],.int .i64 (n:Int)] w (RetG w [] (fun r gs=>∃ o,r=.tuple #[o,.int .i64 0]∧ScO (swapL ws n) ms o gs)):=by
 have hs0:=hs
 have hm0:=hm
 obtain ⟨p,c,rfl,_,hc⟩:=hs.form
 obtain ⟨p2,c2,rfl,_,hc2⟩:=hm.form
 have hC:∀ w,Calls Tryz.prog 84 #[.agg #[.slice p ws.length c,.slice p2 ms.length c2]] w (Ret w (.int .i64 0)):=fun w=>by
  have h:=scCheck_calls p p2 ws.length c ms.length c2 (by omega) (by omega) w
  rwa [if_pos hok] at h
 obtain ⟨hn1,hk1,hk2⟩:=id hok
 refine enter (args:=[_,_]) _ [] [] Tryz.func134 rfl Tryz.ntmps134 rfl (by simp) .nil ?_
 (refine sRz ?_;apply zT;rfl;rfl;intro _;apply zU;rfl;intro _;refine vAz<|nNz<|zI<|sRz<|ldz rfl (.tail .head) (qH rfl) ?_;apply zS;rfl;rfl;infer_instance;exact .cons rfl .nil;intro w _;exact hC w;refine vAz<|nSz<|vMz ?_;refine lvz (.neF rfl rfl (by omega)) ?_;refine nNz<|cFz<|zJ<|thenN<|zI<|zM<|sRz<|vMz ?_;apply zS;rfl;rfl;infer_instance;exact .cons rfl .nil;intro w _;exact depth_calls n h1 h2 w;refine lvz (.notT rfl (by with_reducible rfl)) ?_;refine vAz<|nNz<|cFz<|sRz<|vMz<|vFz<|ldz rfl (.tail .head) sc_rd0<|lvz (.lenR rfl inferInstance rfl) ?_;refine lvz (.geqF rfl rfl (by omega)) ?_;refine vAz<|nNz<|cFz<|zJ<|blkN<|thenN<|sRz<|ldz rfl (.tail .head) (qH rfl) ?_)
 (apply LW.callR;rfl;rfl;infer_instance;exact .cons rfl .nil;intro w hs)
 exact copied_calls ws ms _ _ w (hs0.st hs) (hm0.st hs) (by omega) (by omega)
 rintro vo gso ⟨s1,m1,g1,g2,rfl,rfl,hw1,hb1⟩
 have hw1':=hw1
 have hb1':=hb1
 unfold wM at hw1'
 unfold bM at hb1'
 obtain ⟨q1,k1,rfl⟩:=hw1'.form
 obtain ⟨q2,k2,rfl⟩:=hb1'.form
 obtain ⟨gm,cur,rfl,rfl,hn9,hm9,hsz9,htk9⟩:=hw1'.pos (by omega)
 rw [List.append_assoc]
 simp only [List.cons_append,List.nil_append]
 obtain ⟨t,ht⟩:∃ t,ws.length - 1=t:=⟨_,rfl⟩
 have hrdK:Rd Tryz.prog 29 (.cells cur 29 (0,0)) (0+(t - n) * 4) (wv (ws.getD (t - n) 0)):=word_rd (by rw [List.drop_zero];exact htk9) (t - n) (by omega)
 have hrdJ:Rd Tryz.prog 29 (.cells cur 29 (0,0)) (0+t * 4) (wv (ws.getD t 0)):=word_rd (by rw [List.drop_zero];exact htk9) t (by omega)
 have hsw:swapL ws n=(ws.set t (ws.getD (t - n) 0)).set (t - n) (ws.getD t 0):=by unfold swapL;rw [ht]
 obtain ⟨x,hx⟩:∃ x,ws.getD (t - n) 0=x:=⟨_,rfl⟩
 obtain ⟨y,hy⟩:∃ y,ws.getD t 0=y:=⟨_,rfl⟩
 rw [hx] at hrdK hsw
 rw [hy] at hrdJ hsw
 obtain ⟨w1,w2⟩:=wr_take (i:=t) (vs:=(wc x).toList) htk9 rfl (by omega) (by omega)
 rw [wcs_set ws t x (by omega)] at w1
 obtain ⟨w3,w4⟩:=wr_take (i:=t - n) (vs:=(wc y).toList) w1 rfl (by omega) (by omega)
 rw [wcs_set _ (t - n) y (by rw [List.length_set];omega)] at w3
 have hW1:Wr Tryz.prog 29 (.cells cur 29 (0,0)) (0+t * 4) (wv x) (.cells (wrCells cur (t * 4) (wc x).toList) 29 (0,0)):=Wr.cells (z:=wv 0) (n:=4) rfl rfl (by rw [hsz9];show 0+t * 4+4≤k1 * 4;omega) (by rw [qP];rfl)
 have hW2:Wr Tryz.prog 29 (.cells (wrCells cur (t * 4) (wc x).toList) 29 (0,0)) (0+(t - n) * 4) (wv y) (.cells (wrCells (wrCells cur (t * 4) (wc x).toList) ((t - n) * 4) (wc y).toList) 29 (0,0)):=Wr.cells (z:=wv 0) (n:=4) rfl rfl (by rw [w2,hsz9];show 0+(t - n) * 4+4≤k1 * 4;omega) (by rw [qP];rfl)
 (apply zU;rfl;intro _;refine zR rfl rfl .head (.whole rfl rfl rfl)<|nSz<|vFz<|ldz rfl .head sc_rd0<|lvz (.lenR rfl inferInstance rfl) ?_;refine lvz (.subZL rfl rfl (by decide) (by omega) (by omega)) ?_;refine vAz<|nNz<|zI ?_)
 rw [ht]
 apply CW.pre
 (refine AnyW.anyM [] 22 mixed (by decide +kernel) ?_)
 ((try simp only [tsOf_cons,tsOf_nil,tsOf_app]);refine dvz (.fieldAddr rfl rfl) ?_;apply qF;rfl;rfl;rfl;exact zC;rfl;apply zP;exact zN;exact sc_rd0;refine dvz (.move rfl)<|dvz (.fieldAddr rfl rfl) ?_;apply qF;rfl;rfl;rfl;exact zC;rfl;apply zP;exact zN;exact sc_rd0;refine dvz (.move rfl)<|dvz (.move rfl) ?_;refine dvz (.subZ rfl rfl (by omega) (by omega)) ?_;refine dvz (.fieldAddr rfl rfl) ?_;apply qF;rfl;rfl;rfl;exact zC;rfl;apply zP;exact zN;exact sc_rd0;refine dvz (.move rfl)<|dvz (.move rfl) ?_;refine dvz (.subZ rfl rfl (by omega) (by omega)) ?_;refine dvz (.indexAddrS rfl rfl rfl (by omega)) ?_;apply qF;rfl;rfl;rfl;exact zC;rfl;apply zO;apply zQ;apply zP;exact zN;exact hrdK;refine dvz (.fieldAddr rfl rfl) ?_;apply qF;rfl;rfl;rfl;exact zC;rfl;apply zP;exact zN;exact sc_rd0;refine dvz (.move rfl) ?_;refine dvz (.indexAddrS rfl rfl rfl (by omega)) ?_;apply qF;rfl;rfl;rfl;exact zC;rfl;apply zO;apply zQ;apply zP;exact zN;exact hrdJ;refine dvz (.indexAddrS rfl rfl rfl (by omega)) ?_;apply DW.store;rfl;rfl;exact zC;rfl;rfl;apply TSet.tail;apply TSet.app;apply TSet.head;exact zN;kernel_rfl;exact hW1;apply DW.nil;simp only [fsOf_cons,fsOf_nil,fsOf_app,fsOf_tsOf,fsOf_new,fsOf_tag,fsOf_mark])
 try simp only [fsOf_mark,fsOf_cons,fsOf_nil,fsOf_app,fsOf_tsOf,fsOf_new,fsOf_tag,List.append_eq,List.nil_append]
 (refine lvz (.indexAddrS rfl rfl rfl (by omega)) ?_;refine zR rfl rfl (.tail (.app .head)) hW2<|nSz<|ldz rfl .head (qH rfl) ?_;refine zR rfl rfl (.tail (.app (.tail .head))) (.whole rfl rfl rfl)<|vAz<|nNz<|zK ?_)
 refine fin (vs:=[.agg #[.slice (some ⟨gm,0,none⟩) ws.length k1,.slice q2 ms.length k2],.int .i64 0]) (g2++[(gm,.cells (wrCells (wrCells cur (t * 4) (wc x).toList) ((t - n) * 4) (wc y).toList) 29 (0,0))]) (.inl rfl) rfl rfl (by (apply zD;apply zH;rfl;apply qG;apply zX;apply zZ;apply zX;apply zY;exact qH rfl;apply zD;exact zG rfl;exact zF)) ?_ ⟨_,rfl,_,_,[(gm,_)],g2,rfl,rfl,?_,hb1⟩
 ·exact qS _ (List.Sublist.append_left (List.Sublist.cons_cons _ (List.nil_sublist _)) _)
 ·rw [hsw]
  unfold wM
  rw [List.length_set,List.length_set]
  exact .own hn9 hm9 (by rw [w4,w2,hsz9]) w3 (by rw [wcs_lenN,List.length_set,List.length_set])
section
attribute [local irreducible] SL.inP
theorem row_dup (w0:World) (S:List Nat) (b:Nat) (m:MaV) (L:FrL) (gs rest:Fs) (op:Nat) (h1:128≤op) (h2:op≤143) (hok:okSc L.ws.length L.ms.length) (hn:op - 127≤L.ws.length) (hf:L.ws.length+1≤64) (hfr:FrO m.fr L gs) (w:World) (hs:St w0 S ((b,maO m)::(gs++rest)) w) :
  Calls Tryz.prog 94 #[.pointer (some ⟨b,0,none⟩),.int .u8 (op:Int)] w (fun x w'=>∃ fs',RowK b m L (L.ws++[L.ws.getD (L.ws.length - (op - 127)) 0]) rest x fs'∧St w0 S fs' w'):=by
 obtain ⟨g1,g2,g3,g4,g5,hp,hall⟩:=hfr
 replace hs:St w0 S ((b,maO m)::(g1++(g2++(g3++(g4++g5)))++rest)) w:=hs.perm (List.Perm.cons _ (hp.append_right rest))
 clear hp
 obtain ⟨r1,r2,r3,r4,r5⟩:=id hall
 have hfr:FrO m.fr L (g1++(g2++(g3++(g4++g5)))):=⟨g1,g2,g3,g4,g5,.refl _,hall⟩
 have hR:∀ w' {fs:Fs},St w0 S (fs++(b,maO m)::(g1++(g2++(g3++(g4++g5)))++rest)) w'→FrRows w' m.fr L:=fun w' fs h=>hfr.st h fun p hp=>List.mem_append_right _ (qQ _ (List.mem_append_left _ hp))
 replace hR:∀ w' {x:Nat × Obj},St w0 S (x::(b,maO m)::(g1++(g2++(g3++(g4++g5)))++rest)) w'→FrRows w' m.fr L:=fun w' x h=>hR (fs:=[x]) w' h
 obtain ⟨X,hX⟩:∃ X,L.ws++[L.ws.getD (L.ws.length - (op - 127)) 0]=X:=⟨_,rfl⟩
 rw [hX]
 obtain ⟨fr,e0,e1,e2,e3,took,kind,aop,awords,adata⟩:=m
 obtain ⟨code,pc,stk,mem,gas,self,frm,val,inp,back,stat⟩:=fr
 dsimp only at r1 r2 r3 hR hall
 unfold bM at r1 r3
 unfold wM at r2
 obtain ⟨q1,k1,rfl⟩:=id r1.form
 obtain ⟨q2,k2,rfl⟩:=id r2.form
 obtain ⟨q3,k3,rfl⟩:=id r3.form
 refine calls_anyO (calls_inlineP (K:=anyO (RowK b ⟨⟨.slice q1 L.cl.length k1,pc,.slice q2 L.ws.length k2,.slice q3 L.ms.length k3,gas,self,frm,val,inp,back,stat⟩,e0,e1,e2,e3,took,kind,aop,awords,adata⟩ L X rest)) (args:=[_,_]) Tryz.func94 rfl Tryz.ntmps94 rfl ?_ hs)
 (refine sRz<|vAz<|nSz<|vMz<|vNz<|vFz<|vFz<|ldz rfl .head ma_rd2 ?_;apply zU;rfl;intro _;refine zR rfl rfl .head (.whole rfl rfl rfl)<|vAz<|nNz<|zI<|zM<|sRz<|vMz ?_;refine lvz (.geqT rfl rfl (by omega)) ?_;refine vMz<|gTz<|vMz<|gTz ?_;refine lvz (.leqF rfl rfl (by omega)) ?_;refine pTz<|vAz<|nNz<|cFz<|sRz<|vMz ?_;refine lvz (.geqT rfl rfl (by omega)) ?_;refine vMz<|gTz<|vMz<|gTz ?_;refine lvz (.leqT rfl rfl (by omega)) ?_;refine pTz<|vAz<|nNz<|cTz<|zL<|ldz rfl .head (qH rfl)<|vMz ?_;apply LW.v0;rfl;rfl;apply ValP.subBL;rfl;rfl;decide;omega;omega;refine lvz (.convI rfl (by omega) (by omega)) ?_;refine lvz (.addZL rfl rfl (by decide) (by omega)) ?_)
 rw [show op - 128+1=op - 127 by omega]
 (apply LW.callR;rfl;rfl;infer_instance;exact .cons rfl (.cons rfl .nil);intro w hs)
 exact Dup_calls L.ws L.ms (op - 127) _ _ (by omega) (by omega) (by omega) hf w (hR w hs).s (hR w hs).m hok
 rintro vo gso ⟨o,rfl,s1,m1,gg1,gg2,rfl,rfl,hw1,hb1⟩
 rw [hX] at hw1
 have hw1':=hw1
 have hb1':=hb1
 unfold wM at hw1'
 unfold bM at hb1'
 obtain ⟨q5,k5,rfl⟩:=hw1'.form
 obtain ⟨q6,k6,rfl⟩:=hb1'.form
 (refine vMz ?_;refine vEz ?_;refine vEz ?_;refine zR rfl rfl (.app .head) (.whole rfl rfl rfl)<|vAz ?_;apply zV;refine blkN<|thenN<|sRz<|vMz ?_;refine lvz (.eqT rfl rfl (by omega)) ?_;apply zS;rfl;rfl;infer_instance;exact .cons rfl .nil;intro w _;exact need_true w;refine nSz<|vMz<|ldz rfl (.app .head) (qH rfl)<|vNz<|vFz<|vFz ?_;refine zR rfl rfl (.app (.tail .head)) (ma_wr2 rfl rfl rfl rfl)<|nSz<|vAz<|nNz<|zK ?_)
 refine inPI (.inl rfl) .nil rfl (by (apply zD;exact zG rfl;exact zF)) rfl ⟨_,⟨rfl,.slice q5 X.length k5,.slice q6 L.ms.length k6,g1++(gg1++(gg2++(g4++g5))),⟨g1,gg1,gg2,g4,g5,.refl _,hall.1,hw1,hb1,hall.2.2.2.1,hall.2.2.2.2⟩,rfl⟩,?_⟩
 simp only [List.append_assoc,List.cons_append,List.nil_append]
 exact subp_ix [gg2,gg1,[_],[_],g1,g2,g3,g4,g5] (xs:=[3,4,1,0,7,8]) (ys:=[0,1,2,3,4,5,6,7,8]) rest rfl
theorem row_swap (w0:World) (S:List Nat) (b:Nat) (m:MaV) (L:FrL) (gs rest:Fs) (op:Nat) (h1:144≤op) (h2:op≤159) (hok:okSc L.ws.length L.ms.length) (hn:op - 143 < L.ws.length) (hfr:FrO m.fr L gs) (w:World) (hs:St w0 S ((b,maO m)::(gs++rest)) w) :
  Calls Tryz.prog 94 #[.pointer (some ⟨b,0,none⟩),.int .u8 (op:Int)] w (fun x w'=>∃ fs',RowK b m L (swapL L.ws (op - 143)) rest x fs'∧St w0 S fs' w'):=by
 obtain ⟨g1,g2,g3,g4,g5,hp,hall⟩:=hfr
 replace hs:St w0 S ((b,maO m)::(g1++(g2++(g3++(g4++g5)))++rest)) w:=hs.perm (List.Perm.cons _ (hp.append_right rest))
 clear hp
 obtain ⟨r1,r2,r3,r4,r5⟩:=id hall
 have hfr:FrO m.fr L (g1++(g2++(g3++(g4++g5)))):=⟨g1,g2,g3,g4,g5,.refl _,hall⟩
 have hR:∀ w' {fs:Fs},St w0 S (fs++(b,maO m)::(g1++(g2++(g3++(g4++g5)))++rest)) w'→FrRows w' m.fr L:=fun w' fs h=>hfr.st h fun p hp=>List.mem_append_right _ (qQ _ (List.mem_append_left _ hp))
 replace hR:∀ w' {x:Nat × Obj},St w0 S (x::(b,maO m)::(g1++(g2++(g3++(g4++g5)))++rest)) w'→FrRows w' m.fr L:=fun w' x h=>hR (fs:=[x]) w' h
 obtain ⟨X,hX⟩:∃ X,swapL L.ws (op - 143)=X:=⟨_,rfl⟩
 rw [hX]
 obtain ⟨fr,e0,e1,e2,e3,took,kind,aop,awords,adata⟩:=m
 obtain ⟨code,pc,stk,mem,gas,self,frm,val,inp,back,stat⟩:=fr
 dsimp only at r1 r2 r3 hR hall
 unfold bM at r1 r3
 unfold wM at r2
 obtain ⟨q1,k1,rfl⟩:=id r1.form
 obtain ⟨q2,k2,rfl⟩:=id r2.form
 obtain ⟨q3,k3,rfl⟩:=id r3.form
 refine calls_anyO (calls_inlineP (K:=anyO (RowK b ⟨⟨.slice q1 L.cl.length k1,pc,.slice q2 L.ws.length k2,.slice q3 L.ms.length k3,gas,self,frm,val,inp,back,stat⟩,e0,e1,e2,e3,took,kind,aop,awords,adata⟩ L X rest)) (args:=[_,_]) Tryz.func94 rfl Tryz.ntmps94 rfl ?_ hs)
 (refine sRz<|vAz<|nSz<|vMz<|vNz<|vFz<|vFz<|ldz rfl .head ma_rd2 ?_;apply zU;rfl;intro _;refine zR rfl rfl .head (.whole rfl rfl rfl)<|vAz<|nNz<|zI<|zM<|sRz<|vMz ?_;refine lvz (.geqT rfl rfl (by omega)) ?_;refine vMz<|gTz<|vMz<|gTz ?_;refine lvz (.leqF rfl rfl (by omega)) ?_;refine pTz<|vAz<|nNz<|cFz<|sRz<|vMz ?_;refine lvz (.geqT rfl rfl (by omega)) ?_;refine vMz<|gTz<|vMz<|gTz ?_;refine lvz (.leqF rfl rfl (by omega)) ?_;refine pTz<|vAz<|nNz<|cFz<|sRz<|vMz ?_;refine lvz (.geqT rfl rfl (by omega)) ?_;refine vMz<|gTz<|vMz<|gTz ?_;refine lvz (.leqT rfl rfl (by omega)) ?_;refine pTz<|vAz<|nNz<|cTz<|zL<|ldz rfl .head (qH rfl)<|vMz ?_;apply LW.v0;rfl;rfl;apply ValP.subBL;rfl;rfl;decide;omega;omega;refine lvz (.convI rfl (by omega) (by omega)) ?_;refine lvz (.addZL rfl rfl (by decide) (by omega)) ?_)
 rw [show op - 144+1=op - 143 by omega]
 (apply LW.callR;rfl;rfl;infer_instance;exact .cons rfl (.cons rfl .nil);intro w hs)
 exact Swap_calls L.ws L.ms (op - 143) _ _ (by omega) (by omega) (by omega) w (hR w hs).s (hR w hs).m hok
 rintro vo gso ⟨o,rfl,s1,m1,gg1,gg2,rfl,rfl,hw1,hb1⟩
 rw [hX] at hw1
 have hw1':=hw1
 have hb1':=hb1
 unfold wM at hw1'
 unfold bM at hb1'
 obtain ⟨q5,k5,rfl⟩:=hw1'.form
 obtain ⟨q6,k6,rfl⟩:=hb1'.form
 (refine vMz ?_;refine vEz ?_;refine vEz ?_;refine zR rfl rfl (.app .head) (.whole rfl rfl rfl)<|vAz ?_;apply zV;refine blkN<|thenN<|sRz<|vMz ?_;refine lvz (.eqT rfl rfl (by omega)) ?_;apply zS;rfl;rfl;infer_instance;exact .cons rfl .nil;intro w _;exact need_true w;refine nSz<|vMz<|ldz rfl (.app .head) (qH rfl)<|vNz<|vFz<|vFz ?_;refine zR rfl rfl (.app (.tail .head)) (ma_wr2 rfl rfl rfl rfl)<|nSz<|vAz<|nNz<|zK ?_)
 refine inPI (.inl rfl) .nil rfl (by (apply zD;exact zG rfl;exact zF)) rfl ⟨_,⟨rfl,.slice q5 X.length k5,.slice q6 L.ms.length k6,g1++(gg1++(gg2++(g4++g5))),⟨g1,gg1,gg2,g4,g5,.refl _,hall.1,hw1,hb1,hall.2.2.2.1,hall.2.2.2.2⟩,rfl⟩,?_⟩
 simp only [List.append_assoc,List.cons_append,List.nil_append]
 exact subp_ix [gg2,gg1,[_],[_],g1,g2,g3,g4,g5] (xs:=[3,4,1,0,7,8]) (ys:=[0,1,2,3,4,5,6,7,8]) rest rfl
end
section
open CK (dataC)
attribute [local irreducible] SL.inP opOf opX gasB
theorem opF_lt (f:FrV) (L:FrL):opF f L < 256:=by
 unfold opF
 split
 ·omega
 ·exact UInt8.toNat_lt _
def StateM (f:FrV) (L:FrL) (e0 e1 e2 e3 op:Nat) (m:MaV) (gs:Fs):Prop:=∃ s k t gF gT,m=(((ma0 ((f.setR (f.gas - gasB op) s k).setPc ((min (f.pc.toNat+1+(opX op).dt) L.cl.length:Nat):Int)) e0 e1 e2 e3).setTook t).setAsk 1 op t (.slice none 0 0))∧FrP m.fr (L.setW (L.ws.take (L.ws.length - (opX op).tk))) gF∧wM (L.ws.drop (L.ws.length - (opX op).tk)).reverse t gT∧gs=gT++gF
theorem step_state (w0:World) (S:List Nat) (b:Nat) (f:FrV) (L:FrL) (e0 e1 e2 e3:Nat) (gs rest:Fs) (op i:Nat) (hF:okF f L) (hop:opF f L=op) (ho:(opOf op).isSome=true) (hi:op ≠ 254) (hr1:op < 96∨159 < op) (hd1:halvesF op=none) (hd2:saysF op=none) (hd3:doesF op=some (i,171)) (hg:gasB op≤f.gas) (ht:(opX op).tk≤L.ws.length) (hf:L.ws.length - (opX op).tk+(opX op).ly≤64) (hfr:FrO f L gs) (w:World) (hs:St w0 S ((b,maO (ma0 f e0 e1 e2 e3))::(gs++rest)) w) :
  Calls Tryz.prog 42 #[.pointer (some ⟨b,0,none⟩)] w (fun x w'=>∃ fs',(x=.returned (.tuple #[])∧∃ m' gs',StateM f L e0 e1 e2 e3 op m' gs'∧fs'=(b,maO m')::(gs'++rest))∧St w0 S fs' w'):=by
 obtain ⟨code,pc,stk,mem,gas,self,frm,val,inp,back,stat⟩:=f
 obtain ⟨g1,g2,g3,g4,g5,hp,r1,r2,r3,r4,r5⟩:=id hfr
 unfold bM at r1 r3
 unfold wM at r2
 dsimp only at r1 r2 r3
 obtain ⟨q1,k1,rfl⟩:=id r1.form
 obtain ⟨q2,k2,rfl⟩:=id r2.form
 obtain ⟨q3,k3,rfl⟩:=id r3.form
 obtain ⟨us2,hbl2,hin2,hrows2⟩:=rowU_own r2
 obtain ⟨us3,hbl3,hin3,hrows3⟩:=rowU_own r3
 replace hs:St w0 S ((b,maO (ma0 _ e0 e1 e2 e3))::(g1++(g2++(g3++(g4++g5)))++rest)) w:=hs.perm (List.Perm.cons _ (hp.append_right rest))
 obtain ⟨f,hfe⟩:∃ f:FrV,f=⟨.slice q1 L.cl.length k1,pc,.slice q2 L.ws.length k2,.slice q3 L.ms.length k3,gas,self,frm,val,inp,back,stat⟩:=⟨_,rfl⟩
 rw [← hfe] at hF hop hg hfr hs ⊢
 have hst1:f.code=.slice q1 L.cl.length k1:=by rw [hfe]
 have hst2:f.stk=.slice q2 L.ws.length k2:=by rw [hfe]
 have hst3:f.mem=.slice q3 L.ms.length k3:=by rw [hfe]
 have hgb5:f.inp=inp∧f.back=back:=by rw [hfe];exact ⟨rfl,rfl⟩
 clear hfe
 have hrdS:∀ {g E fr},Rd Tryz.prog 23 (.cells (mca ((ma0 f e0 e1 e2 e3).setGas g)) E fr) 2 (.slice q2 L.ws.length k2):=fun {g E fr}=>by rw [← hst2];exact ma_rd2s (m:=(ma0 f e0 e1 e2 e3).setGas g)
 have hrdC:∀ {g E fr},Rd Tryz.prog 22 (.cells (mca ((ma0 f e0 e1 e2 e3).setGas g)) E fr) 0 (.slice q1 L.cl.length k1):=fun {g E fr}=>by rw [← hst1];exact ma_rd0 (m:=(ma0 f e0 e1 e2 e3).setGas g)
 obtain ⟨pn,hpn⟩:∃ pn:Nat,f.pc=(pn:Int):=by
  rcases okF_pc hF with h|h
  ·exact ⟨_,h⟩
  ·exact ⟨f.pc.toNat,by omega⟩
 have hpl:pn≤L.cl.length:=by
  rcases okF_pc hF with h|h<;>omega
 have hcl2:L.cl.length≤200:=hF.2.2.1
 have hrdP:∀ {g E fr},Rd Tryz.prog 3 (.cells (mca ((ma0 f e0 e1 e2 e3).setGas g)) E fr) 1 (.int .i64 (pn:Int)):=fun {g E fr}=>by rw [← hpn];exact ma_rd1 (m:=(ma0 f e0 e1 e2 e3).setGas g)
 have hpt:f.pc.toNat=pn:=by rw [hpn];exact Int.toNat_natCast pn
 have hgl:f.gas < 18446744073709551616:=by have:=hF.1.2.2;omega
 have hok:okSc L.ws.length L.ms.length:=hF.2.2.2.1
 have hN:∀ w',(∀ q∈gs,w'.heap[q.1]?=some q.2)→Calls Tryz.prog 82 #[frv f] w' (Ret w' (.int .u8 (op:Int))):=fun w' h=>by
  have h:=next_calls f L (okF_pc hF) w' (hfr.us h)
  rwa [hop] at h
 have hN:∀ w',(∀ q∈g1++(g2++(g3++(g4++g5))),w'.heap[q.1]?=some q.2)→Calls Tryz.prog 82 #[frv f] w' (Ret w' (.int .u8 (op:Int))):=fun w' h=>hN w' fun q hq=>h q (hp.symm.subset hq)
 have hsl:=hfr.sl
 have hop2:op < 256:=by rw [← hop];exact opF_lt f L
 have o5:(opX op).dt≤32:=by rw [opX_dt];exact CK.szOf_le _
 obtain ⟨e,hOf,he⟩:=OfX_calls op (by omega) w
 rw [if_pos ho] at he
 subst he
 obtain ⟨G,hG⟩:∃ G,gasB op=G:=⟨_,rfl⟩
 have hBs:∀ w',Calls Tryz.prog 93 #[.int .u8 (op:Int)] w' (Ret w' (.tuple #[.int .u64 (G:Int),.int .i64 0])):=fun w'=>by
  have h:=Base_calls op (by omega) w'
  obtain ⟨y,hy⟩:=Option.isSome_iff_exists.1 ho
  rw [hy] at h
  rw [← hG]
  exact h
 have hGd:∀ m gs,(∃ s k t gF gT,m=(((ma0 ((f.setR (f.gas - G) s k).setPc ((min (pn+1+(opX op).dt) L.cl.length:Nat):Int)) e0 e1 e2 e3).setTook t).setAsk 1 op t (.slice none 0 0))∧FrP m.fr (L.setW (L.ws.take (L.ws.length - (opX op).tk))) gF∧wM (L.ws.drop (L.ws.length - (opX op).tk)).reverse t gT∧gs=gT++gF)→StateM f L e0 e1 e2 e3 op m gs:=fun m gs h=>by
  unfold StateM
  rw [hG,hpt]
  exact h
 rw [hG] at hg
 obtain ⟨X,hX⟩:∃ X,opX op=X:=⟨_,rfl⟩
 rw [hX] at ht hf o5 hGd hOf
 refine calls_anyO (calls_inlineP (K:=anyO fun x fs'=>x=.returned (.tuple #[])∧∃ m' gs',StateM f L e0 e1 e2 e3 op m' gs'∧fs'=(b,maO m')::(gs'++rest)) (args:=[_]) Tryz.func42 rfl Tryz.ntmps42 rfl ?_ hs)
 (refine sRz<|vMz<|vNz<|vFz<|ldz rfl .head ma_rdF ?_;apply zS;rfl;rfl;infer_instance;exact .cons rfl .nil;intro w _;rename_i hst;(exact hN w (st_ou hst (by (repeat (first|exact qO _|exact qR _ _|apply qS|apply List.sublist_append_of_sublist_right)))));refine vAz<|nSz<|vMz ?_;apply zS;rfl;rfl;infer_instance;exact .cons rfl .nil;intro w _;exact hOf w;refine vMz ?_;refine vEz ?_;refine vEz ?_;apply zU;rfl;intro _;apply zR;rfl;rfl;apply qA;apply op_wrW;rfl;refine vAz<|nSz<|vMz ?_;refine lvz (.eqT rfl rfl (by omega)) ?_;refine vMz<|gTz<|vMz<|gTz ?_;refine lvz (.neT rfl rfl (by omega)) ?_;refine pTz ?_;apply zS;rfl;rfl;infer_instance;exact .cons rfl .nil;intro w _;exact need_true w;refine nSz<|vMz ?_;apply zS;rfl;rfl;infer_instance;exact .cons rfl .nil;intro w _;exact hBs w;refine vMz ?_;refine vEz ?_;refine vEz ?_;refine vAz<|vAz<|nSz<|vMz<|vMz ?_;apply LW.lay1;rfl;infer_instance;infer_instance;rfl;rfl;rfl;rfl;rfl;rfl;intro _)
 rename_i b3 b39
 have hsp:spendM (ma0 f e0 e1 e2 e3) [G]=some ((ma0 f e0 e1 e2 e3).setGas (f.gas - G)):=if_pos (by show G+0≤f.gas;omega)
 refine LW.perm (fs':=(b,maO (ma0 f e0 e1 e2 e3))::(b39,.cells #[.int .u64 (G:Int)] 26 (0,0))::(b3,.cells (opc X) 86 (0,0))::(g1++(g2++(g3++(g4++g5)))++rest)) (List.perm_middle (l₁:=[_,_])).symm ?_
 refine LW.callP (K:=MaK b (ma0 f e0 e1 e2 e3) (spendM (ma0 f e0 e1 e2 e3) [G]) _) rfl rfl inferInstance (by (exact .cons rfl (.cons rfl .nil))) rfl (fun fs h=>by rw [hsp] at h;cases h.1) (fun w' hst=>spend_calls w0 S b _ [G] hgl _ _ w' hst (fun w2 h2=>row_cells (h2.own (b39,_) (List.Mem.tail _ (List.Mem.head _))).2 rfl rfl (by simp [maxLen]))) ?_ ?_
 rotate_left
 ·rintro ch fs' h
  rw [hsp] at h;cases h.1
 rintro v fs' h
 rw [hsp] at h
 obtain ⟨h,rfl⟩:=h
 cases h
 (refine nSz<|vMz<|vNz<|vFz<|vFz<|vFz<|ldz rfl .head hrdS<|lvz (.lenR rfl inferInstance rfl)<|vAz<|nSz<|vMz<|vFz<|ldz rfl (.tail (.tail .head)) op_rd2 ?_;refine lvz (.geqT rfl rfl (by omega)) ?_;refine vMz<|gTz<|vMz<|gTz<|vFz<|gTz<|ldz rfl (.tail (.tail .head)) op_rd2<|gTz ?_;refine lvz (.subI rfl rfl (by omega) (by omega)) ?_;refine gTz<|vFz<|gTz<|ldz rfl (.tail (.tail .head)) op_rd3<|gTz ?_;refine lvz (.addI rfl rfl (by omega) (by omega)) ?_;refine gTz ?_;refine lvz (.leqT rfl rfl (by omega)) ?_;refine pTz ?_;apply zS;rfl;rfl;infer_instance;exact .cons rfl .nil;intro w _;exact need_true w;refine nNz<|zI ?_)
 apply CW.pre
 (refine AnyW.anyM [] 15 mixed (by decide +kernel) ?_)
 ((try simp only [tsOf_cons,tsOf_nil,tsOf_app]);refine dvz (.move rfl)<|dvz (.nilCheck rfl)<|dvz (.fieldAddr rfl rfl)<|dvz (.fieldAddr rfl rfl) ?_;apply qF;rfl;rfl;rfl;exact zC;rfl;apply zP;exact zN;exact hrdP;refine dvz (.addZL rfl rfl (by decide) (by omega)) ?_;refine dvz (.fieldAddr rfl rfl) ?_;apply qF;rfl;rfl;rfl;exact zC;rfl;apply zO;apply zO;apply zP;exact zN;exact op_rd4;refine dvz (.addZ rfl rfl (by omega)) ?_;refine dvz (.move rfl)<|dvz (.nilCheck rfl)<|dvz (.fieldAddr rfl rfl)<|dvz (.fieldAddr rfl rfl) ?_;apply qF;rfl;rfl;rfl;exact zC;rfl;apply zP;exact zN;exact hrdC;refine dvz (.lenR rfl inferInstance rfl) ?_;apply DW.nil;simp only [fsOf_cons,fsOf_nil,fsOf_app,fsOf_tsOf,fsOf_new])
 try simp only [fsOf_mark,fsOf_cons,fsOf_nil,fsOf_app,fsOf_tsOf,fsOf_new,fsOf_tag,List.append_eq,List.nil_append]
 (refine lvz (.minZ rfl rfl)<|vAz<|nNz<|zI<|sRz<|vMz<|vMz ?_)
 refine LW.callSt (K:=fun v fs'=>v=.bool false∧fs'=(b,maO ((ma0 f e0 e1 e2 e3).setGas (f.gas - G)))::(b39,.cells #[.int .u64 (G:Int)] 26 (0,0))::(b3,.cells (opc X) 86 (0,0))::(g1++(g2++(g3++(g4++g5)))++rest)) rfl rfl inferInstance (by (exact .cons rfl (.cons rfl .nil))) (fun w' hst=>Calls.mono (row_none w0 S b ((ma0 f e0 e1 e2 e3).setGas (f.gas - G)) _ op (by omega) (by omega) (by omega) ⟨_,_,_,hst2⟩ ⟨_,_,_,hst3⟩ w' hst) fun x w'' ⟨fs',hk,hst⟩=>⟨_,fs',hk.1,⟨rfl,hk.2⟩,hst⟩) ?_
 rintro _ _ ⟨rfl,rfl⟩
 (refine nNz<|cFz<|zJ<|thenN<|sRz<|vMz<|vMz<|vNz<|vFz<|vFz ?_;apply zR;rfl;rfl;apply qA;apply ma_wr1 (z:=.int .i64 0);refine nNz<|zI ?_)
 obtain ⟨m1,hm1⟩:∃ m1,(((ma0 f e0 e1 e2 e3).setGas (f.gas - G)).setF (((ma0 f e0 e1 e2 e3).setGas (f.gas - G)).fr.setPc ((min (pn+1+X.dt) L.cl.length:Nat):Int)))=m1:=⟨_,rfl⟩
 rw [hm1]
 have hs1:m1.fr.stk=.slice q2 L.ws.length k2:=by rw [← hm1];exact hst2
 have hs2:m1.fr.mem=.slice q3 L.ms.length k3:=by rw [← hm1];exact hst3
 have hrd2:∀ {E fr},Rd Tryz.prog 25 (.cells (mca m1) E fr) 2 (.agg #[.slice q2 L.ws.length k2,.slice q3 L.ms.length k3]):=fun {E fr}=>by rw [← hs1,← hs2];exact ma_rd2 (z:=.agg #[.slice none 0 0,.slice none 0 0])
 apply CW.pre
 (refine AnyW.anyM [(9,PopR L.ws L.ms X.tk)] 21 mixed (by decide +kernel) ?_)
 ((try simp only [tsOf_cons,tsOf_nil,tsOf_app]);refine dvz (.move rfl)<|dvz (.move rfl)<|dvz (.move rfl)<|dvz (.nilCheck rfl)<|dvz (.fieldAddr rfl rfl)<|dvz (.fieldAddr rfl rfl) ?_;apply qF;rfl;rfl;rfl;exact zC;rfl;apply zP;exact zN;exact hrd2;refine dvz (.fieldAddr rfl rfl) ?_;apply qF;rfl;rfl;rfl;exact zC;rfl;apply zO;apply zO;apply zP;exact zN;exact op_rd2)
 refine DW.manyA (us2++us3) rfl rfl rfl (by (exact zC)) rfl inferInstance (by (exact .cons rfl (.cons rfl .nil))) ?_ (fun p hp=>AncT.lie (by (refine AncT.cons ?_ ?_;exact zN;refine AncT.cons ?_ ?_;exact zN;refine AncT.cons ?_ ?_;exact zN;refine AncT.app ?_ ?_;refine AncT.app ?_ ?_;exact AncT.tsOf;refine AncT.app ?_ ?_;exact AncT.tsOf;refine AncT.app ?_ ?_;exact AncT.tsOf;refine AncT.app ?_ ?_;exact AncT.tsOf;exact AncT.tsOf;exact AncT.tsOf)) ?_) (fun w _ hu=>?_) ?_
 ·rw [List.flatMap_cons,List.flatMap_cons,List.map_append,← hbl2,← hbl3,← blocks_sl ⟨q2,_,k2,rfl⟩,← blocks_sl ⟨q3,_,k3,rfl⟩]
  show ((blocksN 3 _++(blocksN 3 _++[]))++[])=_
  simp only [List.append_nil]
 ·rcases List.mem_append.1 hp with hp|hp
  ·have hp:=hin2 p hp
   simp [fsOf,tsOf,tsNew,tsTag,markAll,Function.comp_def,hp]
  ·have hp:=hin3 p hp
   simp [fsOf,tsOf,tsNew,tsTag,markAll,Function.comp_def,hp]
 ·exact pop_calls L.ws L.ms X.tk _ _ ht w (hrows2 w fun q hq=>hu q (List.mem_append_left _ hq)) (hrows3 w fun q hq=>hu q (List.mem_append_right _ hq)) hok
 rintro vP gP ⟨s1,c1,t1,h1,h2,h3,rfl,rfl,hw1,hb1,ht1⟩
 have hb1':=hb1
 have ht1':=ht1
 unfold wM at ht1'
 unfold bM at hb1'
 obtain ⟨q5,k5,rfl⟩:=hw1.form
 obtain ⟨q6,k6,rfl⟩:=hb1'.form
 obtain ⟨q7,k7,rfl⟩:=ht1'.form
 (try simp only [markAll_cons,markAll_app,markAll_tsOf,markAll_tag,markAll_new,markAll_nil])
 ((try simp only [tsOf_cons,tsOf_nil,tsOf_app]);refine dvz (.move rfl) ?_;refine dvz (.extractN rfl rfl) ?_;refine dvz (.extractN rfl rfl) ?_;refine dvz (.extractN rfl rfl) ?_;refine dvz (.nilCheck rfl)<|dvz (.fieldAddr rfl rfl)<|dvz (.fieldAddr rfl rfl) ?_;apply DW.store;rfl;rfl;exact zC;rfl;rfl;apply TSet.app;apply TSet.head;exact zN;kernel_rfl;exact ma_wr2 rfl rfl rfl rfl;refine dvz (.nilCheck rfl)<|dvz (.fieldAddr rfl rfl) ?_;apply DW.store;rfl;rfl;exact zC;rfl;rfl;apply TSet.app;apply TSet.head;kernel_rfl;kernel_rfl;exact ma_wr18;apply DW.nil;simp only [fsOf_cons,fsOf_nil,fsOf_app,fsOf_tsOf,fsOf_new])
 try simp only [fsOf_mark,fsOf_cons,fsOf_nil,fsOf_app,fsOf_tsOf,fsOf_new,fsOf_tag,List.append_eq,List.nil_append]
 (refine nSz<|vMz<|vMz<|vNz<|vFz<|vFz ?_;refine zR rfl rfl (.app .head) ma_wr20<|nNz<|zI<|sRz ?_)
 have hL1:Instr.findNow (.int .u8) (.int .u8 (op:Int)) halvesE.toList 0=some none:=by rw [halves_find,hd1];rfl
 have hL2:Instr.findNow (.int .u8) (.int .u8 (op:Int)) saysE.toList 0=some none:=by rw [says_find,hd2];rfl
 have hL3:Instr.findNow (.int .u8) (.int .u8 (op:Int)) doesE.toList 0=some (some (i,.func (.func 171) #[] #[])):=by rw [does_find,hd3];rfl
 obtain ⟨m2,hm2⟩:∃ m2,(((m1.setSc (.slice q5 (List.take (L.ws.length - X.tk) L.ws).length k5) (.slice q6 L.ms.length k6)).setTook (.slice q7 (List.drop (L.ws.length - X.tk) L.ws).reverse.length k7)).setOp op)=m2:=⟨_,rfl⟩
 rw [hm2]
 have hm2t:m2.took=.slice q7 (List.drop (L.ws.length - X.tk) L.ws).reverse.length k7:=by rw [← hm2];rfl
 have hm2o:m2.op=op:=by rw [← hm2];rfl
 (apply LW.callR;rfl;rfl;infer_instance;exact ArgsOk.nil;intro w hs)
 exact halves_calls w
 rintro _ _ ⟨bh,rfl,rfl⟩
 simp only [List.cons_append,List.nil_append]
 (refine vMz ?_;apply LW.mapGet;rfl;infer_instance;infer_instance;infer_instance;rfl;rfl;apply qG;apply zY;rfl;assumption;rfl;refine vMz ?_;refine vEz ?_;refine vEz ?_;refine vAz<|vAz<|nSz<|vMz<|nNz<|cFz<|sRz ?_)
 (apply LW.callR;rfl;rfl;infer_instance;exact ArgsOk.nil;intro w hs)
 exact says_calls w
 rintro _ _ ⟨by1,rfl,rfl⟩
 simp only [List.cons_append,List.nil_append]
 (refine vMz ?_;apply LW.mapGet;rfl;infer_instance;infer_instance;infer_instance;rfl;rfl;apply qG;apply zY;rfl;assumption;rfl;refine vMz ?_;refine vEz ?_;refine vEz ?_;refine vAz<|vAz<|nSz<|vMz<|nNz<|cFz<|sRz ?_)
 (apply LW.callR;rfl;rfl;infer_instance;exact ArgsOk.nil;intro w hs)
 exact does_calls w
 rintro _ _ ⟨bd,rfl,rfl⟩
 simp only [List.cons_append,List.nil_append]
 (refine vMz ?_;apply LW.mapGet;rfl;infer_instance;infer_instance;infer_instance;rfl;rfl;apply qG;apply zY;rfl;assumption;rfl;refine vMz ?_;refine vEz ?_;refine vEz ?_;refine vAz<|vAz<|nSz<|vMz<|nNz<|cTz<|zL<|vMz<|vMz ?_)
 refine LW.perm (List.perm_middle (l₁:=_::_::_::(h3++(h2++h1)))).symm ?_
 refine LW.callSt (K:=fun v fs'=>v=.tuple #[]∧fs'=(b,maO (m2.setAsk 1 op m2.took (.slice none 0 0)))::_) rfl rfl inferInstance (by (exact .cons rfl .nil)) (fun w' hst=>Calls.mono (state_calls w0 S b m2 _ ⟨_,_,_,hm2t⟩ w' hst) fun x w'' ⟨fs',hk,hst⟩=>⟨_,fs',hk.1,⟨rfl,by rw [hk.2,hm2o]⟩,hst⟩) ?_
 rintro _ _ ⟨rfl,rfl⟩
 obtain ⟨m3,hm3⟩:∃ m3,m2.setAsk 1 op m2.took (.slice none 0 0)=m3:=⟨_,rfl⟩
 rw [hm3]
 have hk3:m3.kind=((1:Nat):Int):=by rw [← hm3];rfl
 have hrd19:∀ {E fr},Rd Tryz.prog 3 (.cells (mca m3) E fr) 19 (.int .i64 1):=fun {E fr}=>by rw [← show m3.kind=1 from hk3];exact ma_rd19
 (refine nSz<|vMz<|vNz<|vFz<|vFz<|ldz rfl .head hrd19 ?_;refine lvz (.eqF rfl rfl (by omega)) ?_;refine nNz<|cFz<|zJ ?_)
 have hcF:FrP m3.fr (L.setW (L.ws.take (L.ws.length - X.tk))) (g1++(h1++(h2++(g4++g5)))):=by
  have e1:m3.fr.code=f.code:=by rw [← hm3,← hm2,← hm1];rfl
  have e2:m3.fr.stk=.slice q5 (List.take (L.ws.length - X.tk) L.ws).length k5:=by rw [← hm3,← hm2];rfl
  have e3:m3.fr.mem=.slice q6 L.ms.length k6:=by rw [← hm3,← hm2];rfl
  have e4:m3.fr.inp=f.inp:=by rw [← hm3,← hm2,← hm1];rfl
  have e5:m3.fr.back=f.back:=by rw [← hm3,← hm2,← hm1];rfl
  refine ⟨g1,h1,h2,g4,g5,.refl _,?_,?_,?_,?_,?_⟩
  ·rw [e1,hst1];exact r1
  ·rw [e2];exact hw1
  ·rw [e3];exact hb1
  ·rw [e4,hgb5.1];exact r4
  ·rw [e5,hgb5.2];exact r5
 have hmE:m3=(((ma0 ((f.setR (f.gas - G) (.slice q5 (List.take (L.ws.length - X.tk) L.ws).length k5) (.slice q6 L.ms.length k6)).setPc ((min (pn+1+X.dt) L.cl.length:Nat):Int)) e0 e1 e2 e3).setTook (.slice q7 (List.drop (L.ws.length - X.tk) L.ws).reverse.length k7)).setAsk 1 op (.slice q7 (List.drop (L.ws.length - X.tk) L.ws).reverse.length k7) (.slice none 0 0)):=by
  rw [← hm3,← hm2,← hm1]
  rfl
 refine inPI (.inr rfl) .nil rfl .nil rfl ⟨_,⟨rfl,m3,h3++(g1++(h1++(h2++(g4++g5)))),hGd m3 _ ⟨_,_,_,_,_,hmE,hcF,ht1,rfl⟩,rfl⟩,?_⟩
 simp only [List.append_assoc,List.cons_append,List.nil_append]
 exact subp_ix [[_],[_],[_],[_],h3,h2,h1,[_],[_],g1,g2,g3,g4,g5] (xs:=[0,4,9,6,5,12,13]) (ys:=[0,1,2,3,4,5,6,7,8,9,10,11,12,13]) rest rfl
end
end Go.Proofs.YtdeggbkbblfpoaaGreatDoor
