/-
  Texts that were built apart, put behind one another (6 of 6).
  Conditions: none.
-/
import Derived.Test.YtdeggbkbblfpoaaGreatDoorZ5
import Derived.Test.YtdeggbkbblfpoaaGreatDoorRows
import Derived.LaidMore
import Derived.Lib.LaidTab
import Derived.Lib.LaidU8
open Go.Proofs.Tryz
namespace Go.Proofs.YtdeggbkbblfpoaaGreatDoor
open Go Go.RowKit SL
set_option maxRecDepth 8000
set_option maxHeartbeats 4000000
set_option linter.unusedSimpArgs false
set_option linter.unusedVariables false
attribute [local irreducible] SL.CW SL.LW SL.DW Calls SL.Ret SL.RetG SL.beginQ SL.roundQ SL.rangeQ SL.inQ SL.RW SL.AnyW SL.thenQ SL.thenC SL.thenW SL.blkQ SL.finQ SL.ValP SL.NewP SL.SetP SL.CallP SL.Rd SL.Wr SL.Known
section
theorem dQBRsp {P Q:Prop} (k:Q) (h:BoxZ Q→P:=by
 intro kQ
 rw [show decide ((96:Int)≤(op:Int))=true from vE (by omega)]
 exact kQ.k):P:=h ⟨k⟩
theorem dQBEtO {P Q:Prop} (k:Q) (h:BoxZ Q→P:=by
 intro kQ
 (refine goZ ?_;refine zR rfl rfl (.app .head) tu_wr23 ?_;refine goZ ?_;refine ldy (c:=by exact tu_rdF) (k:=?_);refine bTz ?_)
 rw [hF9]
 (refine goZ ?_)
 exact kQ.k):P:=h ⟨k⟩
theorem dTBPhH {P:Prop} (h:P:=by
 subst ho9
 (refine goZ ?_;refine bTz ?_)
 refine fin (vs:=[frv (f.rowsG 0 c s m i bb),.agg (aska 6 0 (.slice none 0 0) (.slice none 0 0))]) gC (.inl rfl) rfl rfl (by (apply zD;apply zH;rfl;apply qH;apply zX;apply zX;apply zZ;apply zX;apply zY;exact fr_rdW;apply zD;apply zH;rfl;apply qH;apply zX;apply zX;apply zZ;apply zY;exact qI rfl;exact zF)) (by first|exact jJ _ _|exact jK _ (jJ _ _)|exact jK _ (jK _ (jJ _ _))) ⟨c,s,m,i,bb,rfl,hfC⟩):P:=h
theorem dTBmpD {P:Prop} (h:P:=by
 simp only [jR,yA,jQ]
 exact subp_ix [u2,u1,[_],g1,g2,g3,g4,g5,[_,_],gC,[_,_,_,_]] (xs:=[3,1,0,6,7]) (ys:=[0,1,2,3,4,5,6,7,8,9,10]) [] rfl):P:=h
theorem dTBMKK {P:Prop} (h:P:=by
 refine LW.weak _ _ ?_ (jG _) hR
 exact ⟨rfl,rfl,rfl,rfl,rfl,rfl,rfl,rfl,rfl,rfl,rfl,trivial⟩):P:=h
attribute [local irreducible] SL.inP
theorem fin14 {C:Cu} {fn:Func} {e:Env} {fs:Fs} {x:Exit} {rs:List ResultVar} {vs:List Value} (gs:Fs) {Φ:Value→Fs→Prop} (hx:x=.ret∨x=.normal) (hr:fn.results.toList=rs) (hds:C.ds=[]) (h:ResL C e fs rs vs) (hg:SubP gs fs) (hΦ:Φ (tup vs) gs) :
  finQ C fn (RetG C.w0 C.S Φ) x C.ds e fs:=by
 unfold finQ RetG
 refine ⟨hx,fun a w hs=>LeavesInM_nil (by rw [hs.env.dfr];exact hds) ⟨tup vs,ResL.run (by rw [hr];exact h) hs,tup vs,gs,rfl,hΦ,?_⟩⟩
 have h2:=hg.st hs.st
 exact ⟨h2.bel,h2.own,h2.nd⟩
theorem tu_wr23 {P:Program} {T E:TypeId} {f:FrV} {fl:Bool} {z:Value} {p q:Option Addr} {m n c d:Nat} [InfoI P T 2 z]:Wr P T (.cells (tuc f fl) E (0,0)) (0+0+2) (.agg #[.slice p m c,.slice q n d]) (.cells (tuc { f with stk:=.slice p m c,mem:=.slice q n d } fl) E (0,0)) :=
 qU (n:=2) (z:=z) rfl rfl (by show 2+2≤15;omega) rfl
theorem tu_wrN {P:Program} {T E:TypeId} {g:FrV} {fl:Bool} {z:Value} {cs:Array Value} [InfoI P T 15 z] (h:cs.size=15) (hf:FrSl g):Wr P T (.cells cs E (0,0)) 0 (.agg (tuc g fl)) (.cells (tuc g fl) E (0,0)):=Wr.whole h rfl (by
 obtain ⟨⟨_,_,_,h1⟩,⟨_,_,_,h2⟩,⟨_,_,_,h3⟩,⟨_,_,_,h4⟩,⟨_,_,_,h5⟩⟩:=hf
 simp only [tuc,frc,wc,yA,jQ,List.all_cons,List.all_nil,h1,h2,h3,h4,h5];rfl)
def StepR14 (f:FrV) (L:FrL) (o:Option SO) (v:Value) (gs:Fs):Prop:=match o with
 |none=>∃ c s m i b,v=.tuple #[frv (f.rowsG 0 c s m i b),.agg (aska 6 0 (.slice none 0 0) (.slice none 0 0))]∧FrO (f.rowsG 0 c s m i b) L gs
 |some o=>∃ c s m i b t d gs1 R,v=.tuple #[frv (f.so o c s m i b),.agg (aska o.kind o.op t d)]∧(∃ p n c,t=.slice p n c)∧(∃ p n c,d=.slice p n c)∧FrO (f.so o c s m i b) (soL L o) gs1∧gs=gs1++R ∧
  ∀ w':World,(∀ p∈gs1++R,w'.heap[p.1]?=some p.2)→RowAt w' 4 t o.words.length (wcs o.words)∧RowAt w' 1 d o.data.length (ucs o.data)
theorem ref_gas (op:Nat) (hop:op < 256) (h:(opOf op).isSome) (h2:op ≠ 254):(refB op).1=gasB op:=by
 have h1:((List.range 256).all fun op=>(!(opOf op).isSome ||(Nat.beq op 254 ||Nat.beq (refB op).1 (gasB op))))=true:=by kernel_rfl
 have h3:=List.all_eq_true.1 h1 op (List.mem_range.2 hop)
 rw [h] at h3
 simp only [Bool.not_true,Bool.false_or,Bool.or_eq_true,Nat.beq_eq] at h3
 exact h3.resolve_left h2
theorem pc_next {f:FrV} {L:FrL} (hF:okF f L) {op:Nat} (hop:opF f L=op):((min (f.pc.toNat+1+(opX op).dt) L.cl.length:Nat):Int)=(L.cl.length:Int)∨CK.readB L.cl ((min (f.pc.toNat+1+(opX op).dt) L.cl.length:Nat):Int)=true:=by
 have hop0:op=if f.pc=(L.cl.length:Int) then 0 else (L.cl.getD f.pc.toNat 0).toNat:=hop.symm
 rw [opX_dt]
 by_cases hc:f.pc=(L.cl.length:Int)
 ·left;rw [hc];show ((min (L.cl.length+1+CK.szOf op) L.cl.length:Nat):Int)=_;omega
 ·rw [if_neg hc] at hop0
  have hr:=hF.2.2.2.2.resolve_left hc
  obtain ⟨r1,r2⟩:=CK.readB_range hr
  obtain ⟨k,hk⟩:∃ k:Nat,f.pc=(k:Int):=⟨f.pc.toNat,by omega⟩
  rw [hk] at hr hop0 ⊢
  rw [yY] at hop0 ⊢
  rcases readB_next hr with h1|h1
  ·rw [← hop0] at h1;left;omega
  ·rw [← hop0] at h1
   have:=(CK.readB_range h1).2
   right
   rw [show min (k+1+CK.szOf op) L.cl.length=k+1+CK.szOf op by omega]
   exact h1
theorem restV_like (op:Nat) (f:FrV) (L:FrL) (l:List Nat) (e0 e1 e2 e3:Nat) (zc zs zm zi zb:Value):restV op (f.rows zc zs zm zi zb) L l e0 e1 e2 e3=restV op f L l e0 e1 e2 e3:=by
 unfold restV
 rw [doV_like]
 rfl
theorem words_of {l:List Nat} {t:Value} {u X:Fs} (h:wM l t u):WordsD t l (u++X):=by
 unfold wM at h
 generalize hn:l.length=n at h
 generalize hx:wcs l=xs at h
 cases h with
 |nil=>exact .inl ⟨List.eq_nil_of_length_eq_zero hn,_,_,rfl⟩
 |@own g _ cap cur _ h1 h2 h3 h4 h5 =>
  by_cases h0:n=0
  ·subst h0
   exact .inl ⟨List.eq_nil_of_length_eq_zero hn,_,_,rfl⟩
  ·obtain ⟨k,rfl⟩:∃ k,cap=k+1:=⟨cap - 1,by omega⟩
   exact .inr ⟨g,k,cur,X,by rw [hn],rfl,by rw [hn,yW,hx];exact h4⟩
theorem two14 {A B:Prop} (f:A→B) (a:A):B:=f a
section
variable (f : FrV) (L : FrL) (e0 e1 e2 e3 : Nat) (he0 : e0 < 18446744073709551616) (he1 : e1 < 18446744073709551616) (he2 : e2 < 18446744073709551616) (he3 : e3 < 18446744073709551616) (hF : okF f L) (hn : FrNum f L) (w : World) (h : FrRows w f L)
include hF hn h he0 he1 he2 he3
theorem rStep_calls (o:Option SO) (ho:stepV f L e0 e1 e2 e3=o) :
  Calls prog 14 #[frv f,.agg (enva e0 e1 e2 e3)] w (RetG w [] (StepR14 f L o)):=by
 have hop:=opF_lt f L
 obtain ⟨op,hope⟩:∃ op,opF f L=op:=⟨_,rfl⟩
 rw [hope] at hop
 have hOp:∀ w' {fs:Fs},St w [] fs w'→Calls prog 35 #[frv f] w' (Ret w' (.int .u8 (op:Int))):=fun w' fs hst=>hope ▸ rOp_calls f L (okF_pc hF) w' (h.st hst)
 have hOf:∀ w',Calls prog 50 #[.int .u8 (op:Int)] w' (Ret w' (tupOp (opOf op))):=fun w'=>CK.rOf_calls op hop w'
 obtain ⟨⟨ga,gb⟩,hg⟩:∃ g,refB op=g:=⟨_,rfl⟩
 have hBase:∀ w',Calls prog 51 #[.int .u8 (op:Int)] w' (Ret w' (.tuple #[.int .u64 (ga:Int),.bool gb])):=fun w'=>by have:=rBase_calls op hop w';rwa [hg] at this
 have hsl:=h.sl
 have hws:L.ws.length≤64:=hF.2.2.2.1.1
 have hgas0:f.gas≤20000:=hF.1.2.2
 obtain ⟨qs,ks,hqs,_⟩:=h.s.form
 have hrdS:∀ {E fr},Rd prog 23 (.cells (fra f) E fr) (0+2+0) (.slice qs L.ws.length ks):=fun {E fr}=>by rw [← hqs];exact fr_rd2s
 obtain ⟨pn,hpn⟩:∃ pn:Nat,f.pc=(pn:Int):=by
  exact dTBjLF
 have hpl:pn≤L.cl.length:=by
  rcases okF_pc hF with h|h<;>omega
 have hcl2:L.cl.length≤200:=hF.2.2.1
 have hrdP:∀ {E fr},Rd prog 3 (.cells (fra f) E fr) (0+1) (.int .i64 (pn:Int)):=fun {E fr}=>by rw [← hpn];exact fr_rd1
 obtain ⟨qc,kc,hqc,_⟩:=h.c.form
 have hrdC:∀ {E fr},Rd prog 22 (.cells (fra f) E fr) 0 (.slice qc L.cl.length kc):=fun {E fr}=>by rw [← hqc];exact fr_rd0
 have hpt:f.pc.toNat=pn:=by rw [hpn];exact yY pn
 refine enter (args:=[_,_]) _ [] [] func14 rfl ntmps14 rfl (by simp) .nil ?_
 (refine goZ ?_;intro _ _ _ _)
 rename_i b2 b3 b4 b5
 refine LW.callR rfl rfl vF agZ (fun w' hst=>rfCopy_calls f L hF.short w' (h.st hst)) ?_
 rintro v gC ⟨c,s,m,i,bb,rfl,hfC,-⟩
 have hslC:FrSl (f.rows c s m i bb):=hfC.sl
 have hslD:FrSl (⟨c,f.pc,s,m,0,f.self,f.frm,f.val,i,bb,f.stat⟩:FrV):=(show FrO (f.rowsG 0 c s m i bb) L gC from hfC).sl
 (refine goZ ?_;intro _;refine zR rfl rfl .head fr_wr4 ?_;refine goZ ?_;refine cEz (c:=fun w _=>by exact hOp w (by assumption)) (k:=?_);refine cEv hOf ?_)
 have hxo:(opOf op).getD zeroOp=opX op:=rfl
 rcases hx:opOf op with _|x
 ·have ho9:o=none:=by
   rw [← ho];unfold stepV;rw [hope];exact if_pos (.inl (by rw [hx];decide))
  (refine goZ ?_;intro _;refine cEv hBase ?_;refine bTz ?_)
  subst ho9
  skip
  refine fin (vs:=[frv (f.rowsG 0 c s m i bb),.agg (aska 6 0 (.slice none 0 0) (.slice none 0 0))]) gC (.inl rfl) rfl rfl (by (apply zD;apply zH;rfl;apply qH;apply zX;apply zX;apply zZ;apply zX;apply zY;exact fr_rdW;apply zD;apply zH;rfl;apply qH;apply zX;apply zX;apply zZ;apply zY;exact qI rfl;exact zF)) (by first|exact jJ _ _|exact jK _ (jJ _ _)|exact jK _ (jK _ (jJ _ _))) ⟨c,s,m,i,bb,rfl,hfC⟩
 ·rw [hx] at hxo
  simp only [Option.getD_some] at hxo
  have hso:(opOf op).isSome=true:=by rw [hx];rfl
  obtain ⟨z1,z2⟩:x.tk < 1000∧x.ly < 1000:=hxo ▸ opX_small op hop
  have z3:x.dt≤32:=by rw [hxo,opX_dt];exact CK.szOf_le _
  (refine goZ ?_;intro _;refine cEv hBase ?_;refine lvz (.eq rfl rfl) ?_;refine goZ ?_)
  by_cases h254:op=254
  ·have ho9:o=none:=by
    rw [← ho];unfold stepV;rw [hope];exact if_pos (.inr h254)
   rw [show decide ((op:Int)=254)=true from vE (by omega)]
   exact dTBPhH
  rw [show decide ((op:Int)=254)=false from vA (by omega)]
  have hgb:=ref_gas op hop hso h254
  rw [hg] at hgb
  dsimp only at hgb
  subst hgb
  by_cases hgas:f.gas < gasB op
  ·have ho9:o=none:=by
    rw [← ho];unfold stepV;rw [hope];dsimp only;rw [if_neg (by rw [hso];simp [h254]),if_pos hgas]
   exact dTBPhH
  by_cases htk:L.ws.length < x.tk
  ·have ho9:o=none:=by
    rw [← ho];unfold stepV;rw [hope];dsimp only;rw [if_neg (by rw [hso];simp [h254]),if_neg hgas,← hxo,if_pos (.inl htk)]
   exact dTBPhH
  by_cases hly:64 < L.ws.length - x.tk+x.ly
  ·have ho9:o=none:=by
    rw [← ho];unfold stepV;rw [hope];dsimp only;rw [if_neg (by rw [hso];simp [h254]),if_neg hgas,← hxo,if_pos (.inr hly)]
   exact dTBPhH
  have hst:stepV f L e0 e1 e2 e3=o:=ho
  (refine goZ ?_)
  refine LW.callR rfl rfl vF agZ (fun w' hst=>rfCopy_calls f L hF.short w' (h.st hst)) ?_
  rename_i b6 b8
  rintro v gT ⟨c',s',m',i',bb',rfl,hfT,-⟩
  obtain ⟨G,hG⟩:∃ G,f.rows c' s' m' i' bb'=G:=⟨_,rfl⟩
  rw [hG] at hfT ⊢
  have hslG:=hfT.sl
  refine qN (v:=.agg (tuc G false)) rfl rfl (zW vF vF (by (apply zA;rfl;exact zB)) rfl ?_) ?_
  ·simp only [fillP,wrCells,fra,frc,frv,tuc,wc,Value.cells,jB,jC,jD,jA,jF,jE,yA,jQ,Nat.reduceAdd,jH]
  have hGg:G.gas=f.gas:=by rw [← hG];rfl
  (refine goZ ?_;intro _;apply zR;rfl;rfl;apply qA;apply tu_wrN;rfl;assumption;refine goZ ?_;refine lvz (.subN rfl rfl (by omega) (by omega)) ?_;refine goZ ?_;apply zR;rfl;rfl;apply qA;apply tu_wr4 (z:=.int .u64 0);refine goZ ?_;refine lvz (.minZ rfl rfl) ?_;refine goZ ?_;apply zR;rfl;rfl;apply qA;apply tu_wr1 (z:=.int .i64 0);refine goZ ?_;refine lvz (.geq rfl rfl) ?_;refine goZ ?_)
  rename_i b13
  obtain ⟨f1,hf1⟩:∃ f1:FrV,{ f with gas:=f.gas - gasB op,pc:=((min (f.pc.toNat+1+x.dt) L.cl.length:Nat):Int) }=f1:=⟨_,rfl⟩
  obtain ⟨F,hFe⟩:∃ F,(G.setG (G.gas - gasB op)).setPc ↑(min (pn+1+x.dt) L.cl.length)=F:=⟨_,rfl⟩
  have hF1:F=f1.rows c' s' m' i' bb':=by rw [← hFe,← hf1,← hG,hpt];rfl
  have hfF:FrO F L gT:=by rw [← hFe];exact hfT
  have hso1:∀ o':SO,f.so o'=f1.so o':=fun o'=>by rw [← hf1];rfl
  rw [hFe]
  have hslF:=hfF.sl
  unfold stepV at hst
  rw [hope] at hst
  dsimp only at hst
  rw [← hxo,if_neg (by rw [hso];simp [h254]),if_neg hgas,if_neg (by omega),hf1] at hst
  clear hFe hG hfT hslG hGg
  by_cases p1:96≤op∧op≤127
  ·rw [if_pos p1] at hst
   subst hst
   refine dQBRsp ?_
   have p2:op≤127:=p1.2
   (refine goZ ?_)
   refine LW.callR rfl rfl vF agZ (fun w' hst'=>CK.rData_calls L.cl (by omega) pn _ w' (by rw [← hqc];exact h.c.st hst')) ?_
   intro vD gD hD
   obtain ⟨X,hX⟩:∃ X,bev (CK.dataL L.cl pn)=X:=⟨_,rfl⟩
   have hdC:bev (CK.dataC L.cl f.pc)=X:=by rw [← hX,hpn];unfold CK.dataC;rw [if_pos hcl2]
   rw [hdC]
   have hRd:∀ w' {fs:Fs},St w [] fs w'→(∀ p∈gD,p∈fs)→Calls prog 53 #[vD] w' (Ret w' (wv X)):=fun w' fs hst hg=>by
    rw [← hX]
    exact rRead_calls vD _ w' (hD.us (fun p hp=>(hst.own p (hg p hp)).2) (jG _)) (dataL_len _ _)
   obtain ⟨qD,kD,rfl⟩:=hD.form
   (apply zS;rfl;rfl;exact vF;exact .cons rfl .nil;intro w _;rename_i hst9;exact hRd _ hst9 (fun p hp=>by simp [hp]))
   refine LW.subP (fs':=(b13,tuO F false)::(gT++_)) ⟨_,jN _ _,.refl _⟩ ?_
   refine cSz rfl rfl (fun w' hst'=>tlay_calls w [] b13 F false L gT X _ w' (by omega) hfF hst') ?_
   rintro v fs' ⟨rfl,s9,g9,hf9,rfl⟩
   have hsl9:=hf9.sl
   (refine goZ ?_;refine ldy (c:=by exact tu_rdF) (k:=?_);refine bTz ?_)
   refine fin14 (vs:=[frv (F.setS s9),.agg (aska 0 0 (.slice none 0 0) (.slice none 0 0))]) (g9++[]) (.inl rfl) rfl rfl (by (apply zD;apply zH;rfl;apply qH;apply zX;apply zZ;apply zX;apply zX;apply zZ;apply zX;apply zY;exact fr_rdW;apply zD;apply zH;rfl;apply qH;apply zX;apply zZ;apply zX;apply zX;apply zZ;apply zY;exact qI rfl;exact zF)) ⟨_,by rw [yM];exact jK _ (jJ _ _),.refl _⟩ ⟨c',s9,m',i',bb',_,_,g9,[],?_,nil_sl,nil_sl,?_,rfl,fun _ _=>⟨.nil,.nil⟩⟩
   ·rw [hso1,hF1];rfl
   ·rw [hso1];rw [hF1] at hf9;exact hf9
  rw [if_neg p1] at hst
  obtain ⟨⟨-,hr2⟩,hr3⟩:=opX_rows op hop
  rw [← hxo] at hr2 hr3
  by_cases p128:128≤op∧op≤143
  ·rw [if_pos p128] at hst
   subst hst
   have hr:=hr2 p128
   have p2:128≤op:=p128.1
   have p3:op≤143:=p128.2
   refine dQBRsp ?_
   (refine gTz<|vMz<|gTz ?_;refine lvz (.leqF rfl rfl (by omega)) ?_;refine pTz<|vAz<|nNz<|cFz<|sRz<|vMz ?_;refine lvz (.geqT rfl rfl (by omega)) ?_;refine vMz<|gTz<|vMz<|gTz ?_;refine lvz (.leqT rfl rfl (by omega)) ?_;refine pTz<|vAz<|nNz<|cTz<|sRz<|vFz<|ldz rfl (.tail (.app (.tail (.tail (.app (.tail (.tail (.tail .head)))))))) fr_rd2<|vMz ?_;apply qN;rfl;rfl;apply ValP.subBL;rfl;rfl;rfl;omega;omega;refine lvz (.convI rfl (by omega) (by omega)) ?_;refine lvz (.addZL rfl rfl (by decide) (by omega)) ?_)
   rw [show op - 127=op - 128+1 by omega]
   refine LW.callR rfl rfl vF agZ (fun w' hst'=>rDup_calls L.ws L.ms (op - 128+1) f.stk f.mem (by omega) (by omega) (by omega) (by omega) w' (h.s.st hst') (h.m.st hst') hF.2.2.2.1) ?_
   rintro v gD ⟨s9,m9,u1,u2,rfl,rfl,hu1,hu2⟩
   obtain ⟨g1,g2,g3,g4,g5,hp,d1,d2,d3,d4,d5⟩:=hfF
   refine qV (((hp.append_right _).cons _).append_left _) ?_
   have hu1':=hu1
   have hu2':=hu2
   unfold wM at hu1'
   unfold bM at hu2'
   obtain ⟨q6,k6,rfl⟩:=hu1'.form
   obtain ⟨q7,k7,rfl⟩:=hu2'.form
   obtain ⟨F9,hF9⟩:∃ F9:FrV,{ F with stk:=.slice q6 (L.ws++[L.ws.getD (L.ws.length - (op - 128+1)) 0]).length k6,mem:=.slice q7 L.ms.length k7 }=F9:=⟨_,rfl⟩
   have hf9:FrO F9 (soL L (soOn f1 (L.ws++[L.ws.getD (L.ws.length - (op - 128+1)) 0]) L.ms)) (g1++(u1++(u2++(g4++g5)))):=by
    rw [← hF9]
    exact ⟨g1,u1,u2,g4,g5,.refl _,d1,hu1,hu2,d4,d5⟩
   have hsl9:=hf9.sl
   refine dQBEtO ?_
   refine fin14 (vs:=[frv F9,.agg (aska 0 0 (.slice none 0 0) (.slice none 0 0))]) ((g1++(u1++(u2++(g4++g5))))++[]) (.inl rfl) rfl rfl (by (apply zD;apply zH;rfl;apply qH;apply zZ;apply zX;apply zZ;apply zX;apply zX;apply zZ;apply zX;apply zY;exact fr_rdW;apply zD;apply zH;rfl;apply qH;apply zZ;apply zX;apply zZ;apply zX;apply zX;apply zZ;apply zY;exact qI rfl;exact zF)) ?_ ⟨c',.slice q6 (L.ws++[L.ws.getD (L.ws.length - (op - 128+1)) 0]).length k6,.slice q7 L.ms.length k7,i',bb',_,_,_,[],?_,nil_sl,nil_sl,?_,rfl,fun _ _=>⟨.nil,.nil⟩⟩
   ·exact dTBmpD
   ·rw [hso1,← hF9,hF1];rfl
   ·rw [hso1];rw [← hF9,hF1] at hf9;exact hf9
  rw [if_neg p128] at hst
  by_cases p144:144≤op∧op≤159
  ·rw [if_pos p144] at hst
   subst hst
   have hr:=hr3 p144
   have p2:144≤op:=p144.1
   have p3:op≤159:=p144.2
   refine dQBRsp ?_
   (refine gTz<|vMz<|gTz ?_;refine lvz (.leqF rfl rfl (by omega)) ?_;refine pTz<|vAz<|nNz<|cFz<|sRz<|vMz ?_;refine lvz (.geqT rfl rfl (by omega)) ?_;refine vMz<|gTz<|vMz<|gTz ?_;refine lvz (.leqF rfl rfl (by omega)) ?_;refine pTz<|vAz<|nNz<|cFz<|sRz<|vMz ?_;refine lvz (.geqT rfl rfl (by omega)) ?_;refine vMz<|gTz<|vMz<|gTz ?_;refine lvz (.leqT rfl rfl (by omega)) ?_;refine pTz<|vAz<|nNz<|cTz<|sRz<|vFz<|ldz rfl (.tail (.app (.tail (.tail (.app (.tail (.tail (.tail .head)))))))) fr_rd2<|vMz ?_;apply qN;rfl;rfl;apply ValP.subBL;rfl;rfl;rfl;omega;omega;refine lvz (.convI rfl (by omega) (by omega)) ?_;refine lvz (.addZL rfl rfl (by decide) (by omega)) ?_)
   rw [show op - 143=op - 144+1 by omega]
   refine LW.callR rfl rfl vF agZ (fun w' hst'=>rSwap_calls L.ws L.ms (op - 144+1) f.stk f.mem (by omega) (by omega) (by omega) w' (h.s.st hst') (h.m.st hst') hF.2.2.2.1) ?_
   rintro v gD ⟨s9,m9,u1,u2,rfl,rfl,hu1,hu2⟩
   obtain ⟨g1,g2,g3,g4,g5,hp,d1,d2,d3,d4,d5⟩:=hfF
   refine qV (((hp.append_right _).cons _).append_left _) ?_
   have hu1':=hu1
   have hu2':=hu2
   unfold wM at hu1'
   unfold bM at hu2'
   obtain ⟨q6,k6,rfl⟩:=hu1'.form
   obtain ⟨q7,k7,rfl⟩:=hu2'.form
   obtain ⟨F9,hF9⟩:∃ F9:FrV,{ F with stk:=.slice q6 (swapL L.ws (op - 144+1)).length k6,mem:=.slice q7 L.ms.length k7 }=F9:=⟨_,rfl⟩
   have hf9:FrO F9 (soL L (soOn f1 (swapL L.ws (op - 144+1)) L.ms)) (g1++(u1++(u2++(g4++g5)))):=by
    rw [← hF9]
    exact ⟨g1,u1,u2,g4,g5,.refl _,d1,hu1,hu2,d4,d5⟩
   have hsl9:=hf9.sl
   refine dQBEtO ?_
   refine fin14 (vs:=[frv F9,.agg (aska 0 0 (.slice none 0 0) (.slice none 0 0))]) ((g1++(u1++(u2++(g4++g5))))++[]) (.inl rfl) rfl rfl (by (apply zD;apply zH;rfl;apply qH;apply zZ;apply zX;apply zZ;apply zX;apply zX;apply zZ;apply zX;apply zY;exact fr_rdW;apply zD;apply zH;rfl;apply qH;apply zZ;apply zX;apply zZ;apply zX;apply zX;apply zZ;apply zY;exact qI rfl;exact zF)) ?_ ⟨c',.slice q6 (swapL L.ws (op - 144+1)).length k6,.slice q7 L.ms.length k7,i',bb',_,_,_,[],?_,nil_sl,nil_sl,?_,rfl,fun _ _=>⟨.nil,.nil⟩⟩
   ·exact dTBmpD
   ·rw [hso1,← hF9,hF1];rfl
   ·rw [hso1];rw [← hF9,hF1] at hf9;exact hf9
  rw [if_neg p144] at hst
  replace hst:restV op f1 (L.setW (L.ws.take (L.ws.length - x.tk))) ((L.ws.drop (L.ws.length - x.tk)).reverse) e0 e1 e2 e3=o:=by rw [← hst];rfl
  apply two14 (A:=LW ⟨prog,w,[],171,[],none⟩ _ _ _ [(153,.int .i64 (x.tk:Int)),(151,.agg #[F.stk,F.mem]),(14,.slice none 0 0),(13,.pointer (some ⟨b13,0,none⟩)),(8,.pointer (some ⟨b8,0,none⟩)),(7,.int .u8 (op:Int)),(6,.pointer (some ⟨b6,0,none⟩)),(5,.pointer (some ⟨b5,0,none⟩)),(4,.pointer (some ⟨b4,0,none⟩)),(3,.pointer (some ⟨b3,0,none⟩)),(2,.pointer (some ⟨b2,0,none⟩))] _)
  ·intro hR
   by_cases q1:op < 96
   ·rw [show decide ((96:Int)≤(op:Int))=false from vA (by omega)]
    (refine gFz<|gFz<|pFz<|vAz<|nNz<|cFz<|sRz<|vMz ?_;refine lvz (.geqF rfl rfl (by omega)) ?_;refine vMz<|gFz<|gFz<|pFz<|vAz<|nNz<|cFz<|sRz<|vMz ?_;refine lvz (.geqF rfl rfl (by omega)) ?_;refine vMz<|gFz<|gFz<|pFz<|vAz<|nNz<|cFz<|zJ<|blkN<|thenN<|sRz<|vAz<|nSz<|vFz ?_;refine vFz<|ldz rfl .head tu_rd2<|vFz<|ldz rfl (.tail (.app .head)) (Rd.one' rfl) ?_)
    exact dTBMKK
   ·refine dQBRsp ?_
    have q2:160≤op:=by omega
    (refine gTz<|vMz<|gTz ?_;refine lvz (.leqF rfl rfl (by omega)) ?_;refine pTz<|vAz<|nNz<|cFz<|sRz<|vMz ?_;refine lvz (.geqT rfl rfl (by omega)) ?_;refine vMz<|gTz<|vMz<|gTz ?_;refine lvz (.leqF rfl rfl (by omega)) ?_;refine pTz<|vAz<|nNz<|cFz<|sRz<|vMz ?_;refine lvz (.geqT rfl rfl (by omega)) ?_;refine vMz<|gTz<|vMz<|gTz ?_;refine lvz (.leqF rfl rfl (by omega)) ?_;refine pTz<|vAz<|nNz<|cFz<|zJ<|blkN<|thenN<|sRz<|vAz<|nSz<|vFz<|vFz<|ldz rfl .head tu_rd2<|vFz ?_;refine ldz rfl (.tail (.app .head)) (Rd.one' rfl) ?_)
    exact dTBMKK
  have hsl:=hfF.sl
  have hPop:∀ w' {fs:Fs},St w [] fs w'→(∀ p∈gT,p∈fs)→Calls prog 57 #[.agg #[F.stk,F.mem],.int .i64 (x.tk:Int)] w' (RetG w' [] (RPopR L.ws L.ms x.tk)):=fun w' fs hst' hg=>by
   have hr:=hfF.rows (w:=w') (fun p hp=>(hst'.own p (hg p hp)).2)
   exact rPop_calls L.ws L.ms x.tk F.stk F.mem w' (by omega) hr.s hr.m (by omega) (by have:=hF.2.2.2.1.2.1;omega)
  refine LW.callR rfl rfl vF agZ (fun w' hst'=>hPop w' hst' (fun p hp=>by simp [hp])) ?_
  rintro v gP ⟨s9,m9,t9,u1,u2,u3,rfl,rfl,hu1,hu2,hu3⟩
  obtain ⟨g1,g2,g3,g4,g5,hp,d1,d2,d3,d4,d5⟩:=hfF
  refine qV (((hp.append_right _).cons _).append_left _) ?_
  obtain ⟨l,hl⟩:∃ l,(L.ws.drop (L.ws.length - x.tk)).reverse=l:=⟨_,rfl⟩
  obtain ⟨L1,hL1⟩:∃ L1,L.setW (L.ws.take (L.ws.length - x.tk))=L1:=⟨_,rfl⟩
  rw [hl,hL1] at hst
  rw [hl] at hu3
  have hll:l.length=x.tk:=by rw [← hl,List.length_reverse,yL];omega
  have hlm:∀ x∈l,x < M256:=fun y hy=>hn.ws y (List.mem_of_mem_drop (List.mem_reverse.1 (hl ▸ hy)))
  have hu1':=hu1
  have hu2':=hu2
  have hu3':=hu3
  unfold wM at hu1' hu3'
  unfold bM at hu2'
  obtain ⟨q6,k6,rfl⟩:=hu1'.form
  obtain ⟨q7,k7,rfl⟩:=hu2'.form
  obtain ⟨q8,k8,rfl⟩:=hu3'.form
  obtain ⟨F2,hF2⟩:∃ F2:FrV,{ F with stk:=.slice q6 (L.ws.take (L.ws.length - x.tk)).length k6,mem:=.slice q7 L.ms.length k7 }=F2:=⟨_,rfl⟩
  have hf2:FrO F2 L1 (g1++(u1++(u2++(g4++g5)))):=by
   rw [← hF2,← hL1]
   exact ⟨g1,u1,u2,g4,g5,.refl _,d1,hu1,hu2,d4,d5⟩
  (refine goZ ?_;refine zR rfl rfl (.app .head) tu_wr23 ?_;refine goZ ?_)
  rw [hF2]
  have hF2e:F2=f1.rows c' (.slice q6 (L.ws.take (L.ws.length - x.tk)).length k6) (.slice q7 L.ms.length k7) i' bb':=by rw [← hF2,hF1];rfl
  have hst2:restV op F2 L1 l e0 e1 e2 e3=o:=by rw [hF2e,restV_like];exact hst
  have hok2:okF F2 L1:=by
   rw [hF2e,← hf1,← hL1]
   refine ⟨⟨hF.1.1,hF.1.2.1,by show f.gas - gasB op≤20000;omega⟩,hF.2.1,hF.2.2.1,⟨?_,hF.2.2.2.1.2⟩,hxo ▸ pc_next hF hope⟩
   show (L.ws.take _).length≤64
   rw [yH]
   omega
  have hn2:FrNum F2 L1:=by
   rw [hF2e,← hf1,← hL1]
   exact ⟨by show f.gas - gasB op < _;omega,hn.self,hn.frm,hn.val,fun y hy=>hn.ws y (List.mem_of_mem_take hy)⟩
  have hly2:L1.ws.length+(opX op).ly≤64:=by
   rw [← hL1,← hxo]
   show (L.ws.take _).length+_≤64
   rw [yH]
   omega
  have hlk:l.length=(opX op).tk:=by rw [hll,hxo]
  have hso2:∀ o' c s m i bb,f.so o' c s m i bb=F2.so o' c s m i bb:=fun o' c s m i bb=>by rw [hF2e,← hf1];rfl
  refine LW.subP (fs':=(b13,tuO F2 false)::((g1++(u1++(u2++(g4++g5))))++(u3++([(b8,_),(b6,_)]++(gC++[(b5,_),(b4,_),(b3,_),(b2,_)]))))) (by simp only [jR,yA,jQ];exact subp_ix [u3,u2,u1,[_],g1,g2,g3,g4,g5,[_,_],gC,[_,_,_,_]] (xs:=[3,4,2,1,7,8,0,9,10,11]) (ys:=[0,1,2,3,4,5,6,7,8,9,10,11]) [] rfl) ?_
  refine cSz rfl rfl (fun w' hst'=>tdoes_calls w b13 F2 L1 _ u3 _ w' hok2 hn2 hf2 hst' e0 e1 e2 e3 he0 he1 he2 he3 l _ (words_of hu3) (fun w' hw=>wM_at hu3 hw) hlm op hop hlk hly2) ?_
  rintro v fs' h9
  rw [hst2] at h9
  cases o with
  |none =>
   obtain ⟨⟨ka,oa,ta,da,rfl,hta,hda⟩,f',g',rfl⟩:=h9
   (refine goZ ?_;intro _;refine bTz ?_)
   refine fin14 (vs:=[frv (f.rowsG 0 c s m i bb),.agg (aska 6 0 (.slice none 0 0) (.slice none 0 0))]) gC (.inl rfl) rfl rfl (by (apply zD;apply zH;rfl;apply qH;apply zX;apply zX;apply zZ;apply zZ;apply zX;apply zX;apply zZ;apply zZ;apply zX;apply zY;exact fr_rdW;apply zD;apply zH;rfl;apply qH;apply zX;apply zX;apply zZ;apply zZ;apply zX;apply zX;apply zZ;apply zZ;apply zY;exact qI rfl;exact zF)) ?_ ⟨c,s,m,i,bb,rfl,hfC⟩
   rw [show gC=gC++[] from (yM _).symm]
   simp only [jR,yA,jQ]
   exact subp_ix [[_,_],g',u3,[_,_],gC,[_,_,_,_]] (xs:=[4]) (ys:=[0,1,2,3,4,5]) [] rfl
  |some o =>
   obtain ⟨c9,s9,m9,i9,bb9,g9,ta,da,rfl,hta,hda,hf9,rfl,hrw⟩:=h9
   have hsl9:=hf9.sl
   (refine goZ ?_;intro _;refine anz 4 ?_;refine dlz (c:=by exact tu_rdF) (k:=?_);apply DW.store;rfl;rfl;exact zC;rfl;rfl;apply qQ;apply qQ;apply TSet.app;apply TSet.app;apply qQ;apply qQ;apply TSet.app;apply TSet.app;apply qQ;apply qR;exact zN;exact zN;apply fr_wrW;rfl;assumption;refine goZ ?_)
   rw [← hso2] at hf9
   refine fin14 (vs:=[frv (f.so o c9 s9 m9 i9 bb9),.agg (aska o.kind o.op ta da)]) (g9++u3) (.inl rfl) rfl rfl (by rw [hso2];(apply zD;apply zH;rfl;apply qH;apply zX;apply zX;apply zZ;apply zZ;apply zX;apply zX;apply zZ;apply zZ;apply zX;apply zY;exact fr_rdW;apply zD;apply zH;rfl;apply qH;apply zX;apply zX;apply zZ;apply zZ;apply zX;apply zX;apply zZ;apply zZ;apply zY;exact qI rfl;exact zF)) ?_ ⟨c9,s9,m9,i9,bb9,ta,da,g9,u3,rfl,hta,hda,by rw [← hL1] at hf9;exact hf9,rfl,hrw⟩
   rw [show g9++u3=g9++(u3++[]) by rw [yM]]
   simp only [jR,yA,jQ]
   exact subp_ix [[_,_],g9,u3,[_,_],gC,[_,_,_,_]] (xs:=[1,2]) (ys:=[0,1,2,3,4,5]) [] rfl
end
end
theorem do_words {op:Nat} {f:FrV} {L:FrL} {l:List Nat} {o:SO} (h:doV op f L l=some o):o.words=[]∨o.words=l:=by
 have Z:∀ {r:Option SO},ZeroO r→r=some o→o.words=[]∨o.words=l:=fun hz he=>.inl (hz o he).2.2.1
 unfold doV at h
 dsimp only at h
 by_cases c1:op=21
 ·rw [if_pos c1] at h;exact Z (zero_on _ _ _) h
 rw [if_neg c1] at h
 by_cases c2:op=25
 ·rw [if_pos c2] at h;exact Z (zero_on _ _ _) h
 rw [if_neg c2] at h
 by_cases c3:op=52
 ·rw [if_pos c3] at h;exact Z (zero_on _ _ _) h
 rw [if_neg c3] at h
 by_cases c4:op=53
 ·rw [if_pos c4] at h;exact Z (zero_on _ _ _) h
 rw [if_neg c4] at h
 by_cases c5:op=55
 ·rw [if_pos c5] at h;exact Z (zero_copy _ _ _ _ _ _) h
 rw [if_neg c5] at h
 by_cases c6:op=62
 ·rw [if_pos c6] at h
  split at h
  ·exact Z (zero_copy _ _ _ _ _ _) h
  ·cases h
 rw [if_neg c6] at h
 by_cases c7:op=81
 ·rw [if_pos c7] at h;exact Z (zero_load _ _ _) h
 rw [if_neg c7] at h
 by_cases c8:op=82
 ·rw [if_pos c8] at h;exact Z (zero_store _ _ _ _ _) h
 rw [if_neg c8] at h
 by_cases c9:op=83
 ·rw [if_pos c9] at h;exact Z (zero_store _ _ _ _ _) h
 rw [if_neg c9] at h
 by_cases d1:op=32
 ·rw [if_pos d1] at h;exact Z (zero_hash _ _ _ _) h
 rw [if_neg d1] at h
 by_cases d2:op=86
 ·rw [if_pos d2] at h;exact Z (jump_zero _ _ _) h
 rw [if_neg d2] at h
 by_cases d3:op=87
 ·rw [if_pos d3] at h
  split at h
  ·exact Z (zero_on _ _ _) h
  ·exact Z (jump_zero _ _ _) h
 rw [if_neg d3] at h
 by_cases d4:op=49∨op=71∨op=84∨op=92
 ·rw [if_pos d4] at h;cases h;exact .inr rfl
 rw [if_neg d4] at h
 by_cases d5:op=85∨op=93
 ·rw [if_pos d5] at h
  split at h
  ·cases h
  ·cases h;exact .inr rfl
 rw [if_neg d5] at h
 by_cases d6:op=241∨op=244∨op=250∨op=245
 ·rw [if_pos d6] at h
  unfold callV14 at h
  split at h
  ·cases h
  ·cases h;exact .inr rfl
 rw [if_neg d6] at h
 by_cases d7:op=0
 ·rw [if_pos d7] at h;cases h;exact .inl rfl
 rw [if_neg d7] at h
 by_cases d8:op=243∨op=253
 ·rw [if_pos d8] at h
  unfold endsV reaV at h
  split at h
  ·cases h;exact .inl rfl
  ·cases h
 rw [if_neg d8] at h
 exact Z (zero_on _ _ _) h
theorem step_words {f:FrV} {L:FrL} {e0 e1 e2 e3:Nat} {o:SO} (hn:FrNum f L) (h:stepV f L e0 e1 e2 e3=some o):∀ x∈o.words,x < M256:=by
 have key:o.words=[]∨o.words=(L.ws.drop (L.ws.length - (opX (opF f L)).tk)).reverse:=by
  unfold stepV at h
  dsimp only at h
  split at h
  ·cases h
  split at h
  ·cases h
  split at h
  ·cases h
  split at h
  ·cases h;exact .inl rfl
  split at h
  ·cases h;exact .inl rfl
  split at h
  ·cases h;exact .inl rfl
  split at h
  ·cases h;exact .inl rfl
  split at h
  ·cases h;exact .inl rfl
  exact do_words h
 intro x hx
 rcases key with k|k
 ·rw [k] at hx;cases hx
 ·rw [k] at hx
  exact hn.ws x (List.mem_of_mem_drop (List.mem_reverse.1 hx))
def soB (f:FrV) (r:Option SO):FrV:=match r with
 |none=>f.setG 0
 |some o=>f.so o f.code f.stk f.mem f.inp f.back
def soBL (L:FrL) (r:Option SO):FrL:=match r with
 |none=>L
 |some o=>soL L o
def soBA (r:Option SO):Int × Nat × List Nat × List UInt8:=match r with
 |none=>(6,0,[],[])
 |some o=>(o.kind,o.op,o.words,o.data)
theorem StepRes.one {f:FrV} {L:FrL} {r:Option SO} {v:Value} {gs:Fs} (h:StepRes f L r v gs):∃ G t d g1 g2 g3,v=.tuple #[frv G,.agg (aska (soBA r).1 (soBA r).2.1 t d),.int .i64 0]∧LikeF (soB f r) G∧FrP G (soBL L r) g1∧wM (soBA r).2.2.1 t g2∧bM (soBA r).2.2.2 d g3∧(g1++(g2++g3)).Perm gs:=by
 cases r with
 |none =>
  obtain ⟨c,s,m,i,b,rfl,hf⟩:=h
  exact ⟨_,_,_,gs,[],[],rfl,⟨c,s,m,i,b,rfl⟩,hf.toP,wM_nil,bM_nil,by simp⟩
 |some o =>
  obtain ⟨c,s,m,i,b,t,d,g1,g2,g3,rfl,hP,hw,hb,hp⟩:=h
  exact ⟨_,t,d,g1,g2,g3,rfl,⟨c,s,m,i,b,rfl⟩,hP,hw,hb,hp⟩
theorem StepR14.one {f:FrV} {L:FrL} {r:Option SO} {v:Value} {gs:Fs} (h:StepR14 f L r v gs):∃ W t d g1 R,v=.tuple #[frv W,.agg (aska (soBA r).1 (soBA r).2.1 t d)]∧LikeF (soB f r) W∧FrO W (soBL L r) g1∧gs=g1++R∧(∃ p n c,t=.slice p n c)∧(∃ p n c,d=.slice p n c) ∧
  ∀ w':World,(∀ p∈g1++R,w'.heap[p.1]?=some p.2)→RowAt w' 4 t (soBA r).2.2.1.length (wcs (soBA r).2.2.1)∧RowAt w' 1 d (soBA r).2.2.2.length (ucs (soBA r).2.2.2):=by
 cases r with
 |none =>
  obtain ⟨c,s,m,i,b,rfl,hf⟩:=h
  exact ⟨_,_,_,gs,[],rfl,⟨c,s,m,i,b,rfl⟩,hf,(yM _).symm,nil_sl,nil_sl,fun _ _=>⟨.nil,.nil⟩⟩
 |some o =>
  obtain ⟨c,s,m,i,b,t,d,g1,R,rfl,ht,hd,hf,rfl,hr⟩:=h
  exact ⟨_,t,d,g1,R,rfl,⟨c,s,m,i,b,rfl⟩,hf,rfl,ht,hd,hr⟩
theorem few_of {L:FrL} (h1:L.cl.length≤300) (h2:L.ws.length≤65) (h3:L.ms.length≤1025) (h4:L.il.length≤1025) (h5:L.bl.length≤1025):fewQ L=L:=by
 unfold fewQ
 rw [yI h1,yI h2,yI h3,yI h4,yI h5]
structure KeepB (f:FrV) (L:FrL) (r:Option SO):Prop where
 num:FrNum (soB f r) (soBL L r)
 cl:(soBL L r).cl.length≤300
 ws:(soBL L r).ws.length≤64
 ms:(soBL L r).ms.length≤1025
 il:(soBL L r).il.length≤1025
 bl:(soBL L r).bl.length≤1025
 wd:∀ x∈(soBA r).2.2.1,x < M256
theorem keepB {f:FrV} {L:FrL} {e0 e1 e2 e3:Nat} {r:Option SO} (he0:e0 < 18446744073709551616) (he1:e1 < 18446744073709551616) (he2:e2 < 18446744073709551616) (he3:e3 < 18446744073709551616) (hF:okF f L) (hn:FrNum f L) (h:stepV f L e0 e1 e2 e3=r):KeepB f L r:=by
 obtain ⟨⟨h1,h2,h3⟩,h4,h5,⟨h6,h7,h8⟩,h9⟩:=hF
 cases r with
 |none=>exact ⟨⟨by show (0:Nat) < 18446744073709551616;decide,hn.self,hn.frm,hn.val,hn.ws⟩,by show L.cl.length≤300;omega,h6,by show L.ms.length≤1025;omega,by show L.il.length≤1025;omega,by show L.bl.length≤1025;omega,fun x hx=>by cases hx⟩
 |some o =>
  have K:=stepV_keep he0 he1 he2 he3 ⟨⟨h1,h2,h3⟩,h4,h5,⟨h6,h7,h8⟩,h9⟩ hn h
  have k1:=K.gas
  have k2:=K.wsl
  have k3:=K.msl
  exact ⟨⟨by show o.gas < 18446744073709551616;have:=hn.gas;omega,hn.self,hn.frm,hn.val,K.wsn⟩,by show L.cl.length≤300;omega,k2,by show o.ms.length≤1025;omega,by show L.il.length≤1025;omega,by show L.bl.length≤1025;omega,step_words hn h⟩
theorem dTBDwy {P:Prop} (h:P:=by
 intro v2 seg2 hrow2
 obtain ⟨q9,k9,rfl⟩:=hrow2.form
 refine ⟨_,(by (apply qL;exact qJ)),?_⟩
 have hXg:=hXn.gas
 (refine vFz<|vFz ?_;refine zR rfl rfl (.app (.app (.app (.app (.app (.tail (.tail (.tail (.app (.app (.app (.tail .head)))))))))))) fr_wrS<|nNz<|zL<|vFz<|ldz rfl (.app (.app (.app (.app (.app (.tail (.tail (.tail (.app (.app (.app (.tail .head)))))))))))) fr_rd4<|vFz<|ldz rfl (.app (.app (.app (.app (.app (.tail (.tail (.tail (.app (.app (.app (.tail .head)))))))))))) fr_rd4<|vMz ?_;refine lvz (.convN rfl (by omega) (by omega)) ?_;refine lvz (.minZ rfl rfl) ?_;refine lvz (.subN rfl rfl (by omega) (by omega)) ?_;refine vFz ?_;refine zR rfl rfl (.app (.app (.app (.app (.app (.tail (.tail (.tail (.app (.app (.app (.tail .head)))))))))))) fr_wrX ?_;apply zV;refine blkN<|thenN<|zL ?_;refine lvz (.addZL rfl rfl (by decide) (by omega)) ?_;refine vMz ?_;apply zV)
 rw [← wcs_app] at hrow2
 have hX2:FrO ((X.setS (.slice q9 (BL.ws.length+nl.length) k9)).setG (X.gas - min X.gas k)) (BL.setW (BL.ws++nl)) (y1++(seg2++(y3++(y4++y5)))):=⟨y1,seg2,y3,y4,y5,.refl _,r1,(by unfold wM;rw [show (BL.setW (BL.ws++nl)).ws.length=BL.ws.length+nl.length from yC];exact hrow2),r3,r4,r5⟩
 have hX3:FrNum ((X.setS (.slice q9 (BL.ws.length+nl.length) k9)).setG (X.gas - min X.gas k)) (BL.setW (BL.ws++nl)):=⟨by show X.gas - min X.gas k < 18446744073709551616;omega,hXn.self,hXn.frm,hXn.val,fun a ha=>(List.mem_append.1 ha).elim (hXn.ws a) (hnm a)⟩
 apply thenX
 refine ⟨rfl,(k+1,_,_,_),⟨hlt,hX3,hX2,few_of K2 (by show (BL.ws++nl).length≤65;rw [yC];omega) K4 K5 K6⟩,by show 40 - (k+1) < 40 - k;omega,⟨rfl,rfl,rfl,rfl,rfl,trivial⟩,?_⟩
 dsimp only
 simp only [jR]
 exact jL (jL (jL (jL (jL (jK _ (jK _ (jK _ ((jN gs _).trans ((jN gz _).trans (jN gW1 _)))))) _) _) _) _) _):P:=h
theorem fr_wrX {P:Program} {T E:TypeId} {f:FrV} {z:Value} {x:Nat} [InfoI P T 1 z]:Wr P T (.cells (fra f) E (0,0)) (0+4) (.int .u64 (x:Int)) (.cells (fra (f.setG x)) E (0,0)):=qU (n:=1) (z:=z) rfl rfl (by show 4+1≤14;omega) rfl
theorem fr_wrS {P:Program} {T E:TypeId} {f:FrV} {z:Value} {p:Option Addr} {n c:Nat} [InfoI P T 1 z]:Wr P T (.cells (fra f) E (0,0)) (0+2+0) (.slice p n c) (.cells (fra (f.setS (.slice p n c))) E (0,0)):=qU (n:=1) (z:=z) rfl rfl (by show 2+1≤14;omega) rfl
theorem wcs_one (l:List Nat):∀ u∈wcs l,u.oneCell'=true:=fun u hu=>by
 obtain ⟨x,_,h⟩:=List.mem_flatMap.1 hu
 simp [wc] at h
 rcases h with rfl|rfl|rfl|rfl<;>rfl
theorem step14_like {f u:FrV} {L:FrL} {r:Option SO} (h:LikeF f u):StepR14 u L r=StepR14 f L r:=by
 obtain ⟨c,s,m,i,b,rfl⟩:=h
 cases r<;>rfl
theorem FrameSteps_walk (x0:FrV) (X0:FrL) (e0 e1 e2 e3:Nat) (v2:Value) (l2:List Nat) (w:World) (hT:SK.TurnAt w) (hNum:SK.NumAt w) (hr0:FrRows w x0 X0) (hn0:FrNum x0 X0) (he0:e0 < 18446744073709551616) (he1:e1 < 18446744073709551616) (he2:e2 < 18446744073709551616) (he3:e3 < 18446744073709551616) (hl2:∀ a∈l2,a < M256) (hr2:RowAt w 4 v2 l2.length (wcs l2)):Calls prog 3 #[frv x0,.agg (enva e0 e1 e2 e3),v2] w (Ret w (.bool true)):=by
 obtain ⟨p2,c2,rfl,hc2,hm2⟩:=id hr2.form
 simp only [maxLen] at hm2
 have hsl:=hr0.sl
 refine enter (args:=[_,_,_]) _ [] [] func3 rfl ntmps3 rfl (by simp) .nil ?_
 (refine goZ ?_;intro _ _;refine cEv wakes14_calls ?_)
 refine LW.callR rfl rfl vF agZ (fun w' hst=>few14_calls x0 X0 w' (hr0.st hst)) ?_
 rename_i b3 b4
 rintro v1 g1 hv1
 obtain ⟨y,rfl,hy,hyx⟩:=hv1.like
 clear hsl
 have hsl:=hy.sl
 obtain ⟨Y,hY⟩:∃ Y,fewQ X0=Y:=⟨_,rfl⟩
 have hyn:FrNum y Y:=hY ▸ hyx.num hn0.few
 rw [hY] at hy
 have hYY:fewQ Y=Y:=by rw [← hY,fewQ_idem]
 (refine goZ ?_)
 refine qM (fun x:Nat × FrV × FrL × Fs=>([(19,.int .i64 (x.1:Int)),(4,.pointer (some ⟨b4,0,none⟩)),(3,.pointer (some ⟨b3,0,none⟩)),(6,.bool false),(2,.slice p2 l2.length c2)],x.2.2.2++[(b4,.cells (enva e0 e1 e2 e3) 33 (0,0)),(b3,.cells (fra x.2.1) 31 (0,0))]))
  (fun x=>x.1≤40∧FrNum x.2.1 x.2.2.1∧FrO x.2.1 x.2.2.1 x.2.2.2∧fewQ x.2.2.1=x.2.2.1) (fun x=>40 - x.1) (0,y,Y,g1) ⟨Nat.zero_le _,hyn,hy,hYY⟩ ⟨rfl,rfl,rfl,rfl,rfl,trivial⟩ (jG _) ?_
 clear hsl hr0 hy hyn hYY hY hn0 hyx
 rintro ⟨k,f,L,gs⟩ ⟨hk,hn,hfr,hfw⟩
 dsimp only at hk hn hfr hfw ⊢
 rcases jM k 40 with hlt|hge
 ·have hsl:=hfr.sl
  (refine goZ ?_)
  refine LW.callR rfl rfl vF agZ (fun w' hst=>few14_calls f L w' (hfr.us (st_ou hst (by (exact jJ _ _))))) ?_
  rintro vz gz hvz
  obtain ⟨z,rfl,hz,hzy⟩:=hvz.at hfw
  have hsl2:=hz.sl
  have hzn:FrNum z L:=hzy.num hn
  have hRt0:∀ w',(∀ q∈gz,w'.heap[q.1]?=some q.2)→Calls prog 11 #[frv z] w' (Ret w' (.bool (decide (okF f L)))):=fun w' h=>by
   have h:=rfRight_calls z L w' (hz.us h)
   rwa [decide_eq_decide.2 hzy.ok] at h
  by_cases hok:okF f L
  ·have hRt:=hRt0
   rw [vE hok] at hRt
   obtain ⟨r,hr⟩:∃ r,stepV f L e0 e1 e2 e3=r:=⟨_,rfl⟩
   have K:=keepB he0 he1 he2 he3 hok hn hr
   have hst0:∀ (w':World),SK.TurnAt w'→SK.NumAt w'→FrRows w' f L→Calls prog 10 #[frv f,.agg (enva e0 e1 e2 e3)] w' (RetG w' [] (StepRes f L r)):=fun w' h1 h2 h3=>by
    have h:=Step_calls f L e0 e1 e2 e3 he0 he1 he2 he3 hok hn w' h1 h2 h3
    rwa [hr] at h
   obtain ⟨B,hB⟩:∃ B,soB f r=B:=⟨_,rfl⟩
   obtain ⟨BL,hBL⟩:∃ BL,soBL L r=BL:=⟨_,rfl⟩
   obtain ⟨⟨kd,oo,ws,ds⟩,hA⟩:∃ A,soBA r=A:=⟨_,rfl⟩
   (refine goZ ?_;intro _)
   refine LW.callR rfl rfl vF agZ (fun w' hst=>hst0 w' (hT.st hst) (hNum.st hst) (hfr.us (st_ou hst (by (apply jK;apply jS;exact jJ _ _))))) ?_
   rintro v gs2 hv
   obtain ⟨G,t,d,g1',g2',g3',rfl,hGB,hG,hgt,hgd,hpm⟩:=hv.one
   obtain ⟨K1,K2,K3,K4,K5,K6,K7⟩:=K
   rw [hB] at hGB K1
   rw [hBL] at hG K1 K2 K3 K4 K5 K6
   rw [hA] at hgt hgd K7 ⊢
   dsimp only at hgt hgd K7 ⊢
   refine qV (fs':=(g1'++(g2'++g3'))++_) (hpm.append_right _) ?_
   simp only [jR]
   have hsl3:=hG.sl
   obtain ⟨qt,kt,rfl⟩:∃ q k,t=.slice q ws.length k:=by
    unfold wM at hgt
    exact hgt.form
   obtain ⟨qd,kd',rfl⟩:∃ q k,d=.slice q ds.length k:=by
    unfold bM at hgd
    exact hgd.form
   have hsw:∃ p n c,Value.slice qt ws.length kt=.slice p n c:=⟨_,_,_,rfl⟩
   have hsd:∃ p n c,Value.slice qd ds.length kd'=.slice p n c:=⟨_,_,_,rfl⟩
   (refine goZ ?_;intro _ _;refine cEz (c:=fun w hst=>by exact hRt w (st_ou hst subZ)) (k:=?_))
   apply CW.pre
   (refine qY [(1,FewR z L),(3,StepR14 f L r)] 10 mixed (by decide +kernel) ?_)
   (refine tsZ ?_)
   obtain ⟨uz,hz1,hz2,hz3⟩:=hz.lie
   refine DW.manyA uz rfl rfl rfl (by (exact zC)) rfl vF agZ (by rw [yJ,hz1];exact yM _) (fun p hp=>AncT.lie (by (refine AncT.cons ?_ ?_;exact zN;refine AncT.cons ?_ ?_;exact zN;refine AncT.app ?_ ?_;exact AncT.tsOf;refine AncT.app ?_ ?_;exact AncT.tsOf;refine AncT.app ?_ ?_;exact AncT.tsOf;refine AncT.cons ?_ ?_;exact zN;refine AncT.app ?_ ?_;exact AncT.tsOf;refine AncT.app ?_ ?_;exact AncT.tsOf;refine AncT.cons ?_ ?_;exact zN;refine AncT.cons ?_ ?_;exact zN;exact AncT.nil)) (by have hp:=hz2 p hp;simp [fsOf,tsOf,tsNew,tsTag,markAll,Function.comp_def,hp])) (fun w _ hu=>few14_calls z L w (hz3 w hu)) ?_
   rintro vu gu hvu
   obtain ⟨u,rfl,hu,huz⟩:=hvu.at hfw
   have huf:LikeF f u:=hzy.trans huz
   (try simp only [markAll_cons,markAll_app,markAll_tsOf,markAll_tag,markAll_new,markAll_nil])
   (refine tsZ ?_)
   obtain ⟨uu,hu1,hu2,hu3⟩:=hu.lie
   have hSt14:∀ w,FrRows w u L→Calls prog 14 #[frv u,.agg (enva e0 e1 e2 e3)] w (RetG w [] (StepR14 f L r)):=fun w h=>by
    have h2:=rStep_calls u L e0 e1 e2 e3 he0 he1 he2 he3 (huf.ok.2 hok) (huf.num hn) w h r (by obtain ⟨c,s,m,i,b,rfl⟩:=huf;rw [stepV_like];exact hr)
    rwa [step14_like huf] at h2
   refine DW.manyA uu rfl rfl rfl (by (exact zC)) rfl vF agZ (by rw [yJ,hu1];exact yM _) (fun p hp=>AncT.lie (by (refine AncT.app ?_ ?_;refine AncT.new ?_;kernel_rfl;refine AncT.cons ?_ ?_;exact zN;refine AncT.cons ?_ ?_;exact zN;refine AncT.app ?_ ?_;refine AncT.tag ?_;exact zN;refine AncT.app ?_ ?_;refine AncT.tag ?_;exact zN;refine AncT.app ?_ ?_;refine AncT.tag ?_;exact zN;refine AncT.cons ?_ ?_;exact zN;refine AncT.app ?_ ?_;refine AncT.tag ?_;exact zN;refine AncT.app ?_ ?_;refine AncT.tag ?_;exact zN;refine AncT.cons ?_ ?_;exact zN;refine AncT.cons ?_ ?_;exact zN;exact AncT.nil)) (by have hp:=hu2 p hp;simp [fsOf,tsOf,tsNew,tsTag,markAll,Function.comp_def,hp])) (fun w _ hu=>hSt14 w (hu3 w hu)) ?_
   rintro vW gW hvW
   obtain ⟨W,t2,d2,gW1,R,rfl,hWB,hW,rfl,ht2,hd2,hrw⟩:=hvW.one
   rw [hB] at hWB
   rw [hBL] at hW
   rw [hA] at hrw ⊢
   dsimp only at hrw ⊢
   have hsl4:=hW.sl
   (try simp only [markAll_cons,markAll_app,markAll_tsOf,markAll_tag,markAll_new,markAll_nil])
   (refine tsZ ?_;intro _ _;apply DW.store;rfl;rfl;exact zC;rfl;rfl;apply qQ;apply qR;kernel_rfl;exact zN;apply fr_wrW;rfl;exact hsl4;refine goZ ?_)
   refine fsZ ?_
   have hAk:∀ w',(∀ q∈g2',w'.heap[q.1]?=some q.2)→(∀ q∈g3',w'.heap[q.1]?=some q.2)→(∀ q∈gW1,w'.heap[q.1]?=some q.2)→(∀ q∈R,w'.heap[q.1]?=some q.2)→Calls prog 13 #[.agg (aska kd oo (.slice qt ws.length kt) (.slice qd ds.length kd')),.agg (aska kd oo t2 d2)] w' (Ret w' (.bool true)):=fun w' h1 h2 h3 h4=>by
    obtain ⟨r1,r2⟩:=hrw w' fun p hp=>(List.mem_append.1 hp).elim (h3 p) (h4 p)
    have h:=rSameAsk_calls ⟨kd,oo,.slice qt ws.length kt,ws,.slice qd ds.length kd',ds⟩ ⟨kd,oo,t2,ws,d2,ds⟩ w' ⟨wM_at hgt h1,bM_at hgd h2,K7⟩ ⟨r1,r2,K7⟩
    rwa [vE (p:=sameA ⟨kd,oo,.slice qt ws.length kt,ws,.slice qd ds.length kd',ds⟩ ⟨kd,oo,t2,ws,d2,ds⟩) ⟨rfl,rfl,rfl,rfl⟩] at h
   simp only [jR]
   have hSm:∀ w',(∀ q∈g1',w'.heap[q.1]?=some q.2)→(∀ q∈gW1,w'.heap[q.1]?=some q.2)→Calls prog 12 #[frv G,frv W] w' (Ret w' (.bool true)):=fun w' h h3=>by
    have h:=rfSame_calls G W BL BL (hGB.num K1) (hWB.num K1) w' (hG.rows h) (hW.us h3)
    rwa [vE (LikeF.same hGB hWB)] at h
   (refine goZ ?_;refine cEz (c:=fun w hst=>by exact hSm w (st_ou hst subZ) (st_ou hst subZ)) (k:=?_);refine cEz (c:=fun w hst=>by exact hAk w (st_ou hst subZ) (st_ou hst subZ) (st_ou hst subZ) (st_ou hst subZ)) (k:=?_);refine bTz ?_)
   rename_i b8 b9 b10 b12 b13
   refine qO (K:=fun v fs'=>v=.tuple #[]∧fs'=(b13,.cells (aska kd oo t2 d2) 37 (0,0))::(b12,.cells (fra W) 31 (0,0))::(b8,.cells (fra z) 31 (0,0))::(gW1++(gz++(gs++[(b4,.cells (enva e0 e1 e2 e3) 33 (0,0)),(b3,.cells (fra f) 31 (0,0))])))) rfl rfl vF agZ (fun w' hst=>?_) ?_
   ·refine vG (spoil_calls w [] G BL g1' ((b13,.cells (aska kd oo t2 d2) 37 (0,0))::(b12,.cells (fra W) 31 (0,0))::(b8,.cells (fra z) 31 (0,0))::(gW1++(gz++(gs++[(b4,.cells (enva e0 e1 e2 e3) 33 (0,0)),(b3,.cells (fra f) 31 (0,0))])))) hG w' (SubP.st ?_ hst)) fun x w' ⟨fs',⟨h1,h2⟩,hst⟩=>⟨_,_,h1,⟨rfl,h2⟩,hst⟩
    exact subp_ix [[_,_],gW1,R,gu,[_,_],g1',g2',g3',[_],gz,gs,[_,_]] (xs:=[5,0,8,1,9,10,11]) (ys:=[0,1,2,3,4,5,6,7,8,9,10,11]) [] rfl
   rintro _ _ ⟨rfl,rfl⟩
   clear hSm
   have hSm:∀ w',(∀ q∈gs,w'.heap[q.1]?=some q.2)→(∀ q∈gz,w'.heap[q.1]?=some q.2)→Calls prog 12 #[frv f,frv z] w' (Ret w' (.bool true)):=fun w' h h3=>by
    have h:=rfSame_calls f z L L hn hzn w' (hfr.us h) (hz.us h3)
    rwa [vE (LikeF.same (LikeF.refl f) hzy)] at h
   (refine goZ ?_;refine cEz (c:=fun w hst=>by exact hSm w (st_ou hst subZ) (st_ou hst subZ)) (k:=?_))
   refine LW.callR rfl rfl vF agZ (fun w' hst=>few14_calls W BL w' (hW.us (st_ou hst (by (apply jK;apply jK;apply jK;exact jJ _ _))))) ?_
   rintro vX gX hvX
   obtain ⟨X,rfl,hX,hXW⟩:=hvX.at (few_of K2 (by omega) K4 K5 K6)
   have hsl5:=hX.sl
   have hXn:FrNum X BL:=hXW.num (hWB.num K1)
   (refine goZ ?_;refine lvz (.gtr rfl rfl) ?_;refine goZ ?_)
   have hBLf:fewQ BL=BL:=few_of K2 (by omega) K4 K5 K6
   refine CW.condD rfl (fun q1 hd=>?_) (fun q1 hd=>?_)
   ·exact dTBJyT
   by_cases q2:kd=0
   ·subst q2
    (refine goZ ?_)
    apply thenX
    exact ⟨rfl,(k+1,X,BL,gX),⟨hlt,hXn,hX,hBLf⟩,by show 40 - (k+1) < 40 - k;omega,⟨rfl,rfl,rfl,rfl,rfl,trivial⟩,jL (jK _ (jK _ (jK _ ((jN gs _).trans ((jN gz _).trans (jN gW1 _)))))) _⟩
   obtain ⟨y1,y2,y3,y4,y5,hp,r1,r2,r3,r4,r5⟩:=hX
   have r2':=r2
   unfold wM at r2'
   obtain ⟨qs,ks,hqs⟩:=r2'.form
   have hrdS:∀ {E fr},Rd prog 23 (.cells (fra X) E fr) (0+2+0) (.slice qs BL.ws.length ks):=fun {E fr}=>by rw [← hqs];exact fr_rd2s
   rw [hqs] at r2'
   refine CW.perm (fs':=(y1++(y2++(y3++(y4++y5))))++_) (hp.append_right _) ?_
   simp only [jR]
   by_cases q3:k < l2.length∧oo ≠ 85∧oo ≠ 93
   ·obtain ⟨q4,q5,q6⟩:=q3
    (refine goZ ?_;apply qN;rfl;rfl;apply ValP.cutMid;exact vF;exact vF;rfl;rfl;rfl;omega;omega;refine goZ ?_)
    obtain ⟨nl,hnl⟩:∃ nl,(l2.drop k).take 1=nl:=⟨_,rfl⟩
    obtain ⟨tv,htv⟩:∃ tv,cutAt p2 k (k+1) c2 4=tv:=⟨_,rfl⟩
    have hat:∀ w',RowAt w' 4 (.slice p2 l2.length c2) l2.length (wcs l2)→RowAt w' 4 tv nl.length (wcs nl):=fun w' h=>by
     have h:=h.mid (i:=k) (j:=k+1) (by omega) (by omega)
     rw [htv,wcs_drop,wcs_take,show k+1 - k=1 by omega,hnl] at h
     rw [show nl.length=1 by rw [← hnl,yH,yL];omega]
     exact h
    have hnm:∀ a∈nl,a < M256:=fun a ha=>hl2 a (List.mem_of_mem_drop (List.mem_of_mem_take (hnl ▸ ha)))
    have hn1:nl.length≤1:=by rw [← hnl,yH];omega
    rw [htv]
    skip
    (apply LW.appendAny;(case hrow=>exact r2');rfl;rfl;exact vF;exact vF;exact vF;rfl;rfl;rfl;exact qL qJ)
    ·exact fun w' hs=>hat w' (hr2.st hs)
    ·exact wcs_one _
    ·simp only [maxLen];omega
    ·omega
    exact dTBDwy
   ·obtain ⟨nl,hnl⟩:∃ nl:List Nat,nl=[]:=⟨_,rfl⟩
    have hat:∀ w',RowAt w' 4 (.slice p2 l2.length c2) l2.length (wcs l2)→RowAt w' 4 (.slice none 0 0) nl.length (wcs nl):=fun w' _=>by rw [hnl];exact .nil
    have hnm:∀ a∈nl,a < M256:=fun a ha=>by rw [hnl] at ha;cases ha
    have hn1:nl.length≤1:=by rw [hnl];exact yT _
    by_cases q4:k < l2.length
    ·by_cases q5:oo=85
     ·(refine goZ ?_)
      (apply LW.appendAny;(case hrow=>exact r2');rfl;rfl;exact vF;exact vF;exact vF;rfl;rfl;rfl;exact qL qJ)
      ·exact fun w' hs=>hat w' (hr2.st hs)
      ·exact wcs_one _
      ·simp only [maxLen];omega
      ·omega
      intro v2 seg2 hrow2
      obtain ⟨q9,k9,rfl⟩:=hrow2.form
      refine ⟨_,(by (apply qL;exact qJ)),?_⟩
      have hXg:=hXn.gas
      (refine vFz<|vFz ?_;refine zR rfl rfl (.app (.app (.app (.app (.app (.tail (.tail (.tail (.app (.app (.app (.tail .head)))))))))))) fr_wrS<|nNz<|zL<|vFz<|ldz rfl (.app (.app (.app (.app (.app (.tail (.tail (.tail (.app (.app (.app (.tail .head)))))))))))) fr_rd4<|vFz<|ldz rfl (.app (.app (.app (.app (.app (.tail (.tail (.tail (.app (.app (.app (.tail .head)))))))))))) fr_rd4<|vMz ?_;refine lvz (.convN rfl (by omega) (by omega)) ?_;refine lvz (.minZ rfl rfl) ?_;refine lvz (.subN rfl rfl (by omega) (by omega)) ?_;refine vFz ?_;refine zR rfl rfl (.app (.app (.app (.app (.app (.tail (.tail (.tail (.app (.app (.app (.tail .head)))))))))))) fr_wrX ?_;apply zV;refine blkN<|thenN<|zL ?_;refine lvz (.addZL rfl rfl (by decide) (by omega)) ?_;refine vMz ?_;apply zV)
      rw [← wcs_app] at hrow2
      have hX2:FrO ((X.setS (.slice q9 (BL.ws.length+nl.length) k9)).setG (X.gas - min X.gas k)) (BL.setW (BL.ws++nl)) (y1++(seg2++(y3++(y4++y5)))):=⟨y1,seg2,y3,y4,y5,.refl _,r1,(by unfold wM;rw [show (BL.setW (BL.ws++nl)).ws.length=BL.ws.length+nl.length from yC];exact hrow2),r3,r4,r5⟩
      have hX3:FrNum ((X.setS (.slice q9 (BL.ws.length+nl.length) k9)).setG (X.gas - min X.gas k)) (BL.setW (BL.ws++nl)):=⟨by show X.gas - min X.gas k < 18446744073709551616;omega,hXn.self,hXn.frm,hXn.val,fun a ha=>(List.mem_append.1 ha).elim (hXn.ws a) (hnm a)⟩
      apply thenX
      refine ⟨rfl,(k+1,_,_,_),⟨hlt,hX3,hX2,few_of K2 (by show (BL.ws++nl).length≤65;rw [yC];omega) K4 K5 K6⟩,by show 40 - (k+1) < 40 - k;omega,⟨rfl,rfl,rfl,rfl,rfl,trivial⟩,?_⟩
      dsimp only
      simp only [jR]
      exact jL (jL (jL (jL (jL (jK _ (jK _ (jK _ ((jN gs _).trans ((jN gz _).trans (jN gW1 _)))))) _) _) _) _) _
     ·have q6:oo=93:=by omega
      (refine goZ ?_)
      (apply LW.appendAny;(case hrow=>exact r2');rfl;rfl;exact vF;exact vF;exact vF;rfl;rfl;rfl;exact qL qJ)
      ·exact fun w' hs=>hat w' (hr2.st hs)
      ·exact wcs_one _
      ·simp only [maxLen];omega
      ·omega
      intro v2 seg2 hrow2
      obtain ⟨q9,k9,rfl⟩:=hrow2.form
      refine ⟨_,(by (apply qL;exact qJ)),?_⟩
      have hXg:=hXn.gas
      (refine vFz<|vFz ?_;refine zR rfl rfl (.app (.app (.app (.app (.app (.tail (.tail (.tail (.app (.app (.app (.tail .head)))))))))))) fr_wrS<|nNz<|zL<|vFz<|ldz rfl (.app (.app (.app (.app (.app (.tail (.tail (.tail (.app (.app (.app (.tail .head)))))))))))) fr_rd4<|vFz<|ldz rfl (.app (.app (.app (.app (.app (.tail (.tail (.tail (.app (.app (.app (.tail .head)))))))))))) fr_rd4<|vMz ?_;refine lvz (.convN rfl (by omega) (by omega)) ?_;refine lvz (.minZ rfl rfl) ?_;refine lvz (.subN rfl rfl (by omega) (by omega)) ?_;refine vFz ?_;refine zR rfl rfl (.app (.app (.app (.app (.app (.tail (.tail (.tail (.app (.app (.app (.tail .head)))))))))))) fr_wrX ?_;apply zV;refine blkN<|thenN<|zL ?_;refine lvz (.addZL rfl rfl (by decide) (by omega)) ?_;refine vMz ?_;apply zV)
      rw [← wcs_app] at hrow2
      have hX2:FrO ((X.setS (.slice q9 (BL.ws.length+nl.length) k9)).setG (X.gas - min X.gas k)) (BL.setW (BL.ws++nl)) (y1++(seg2++(y3++(y4++y5)))):=⟨y1,seg2,y3,y4,y5,.refl _,r1,(by unfold wM;rw [show (BL.setW (BL.ws++nl)).ws.length=BL.ws.length+nl.length from yC];exact hrow2),r3,r4,r5⟩
      have hX3:FrNum ((X.setS (.slice q9 (BL.ws.length+nl.length) k9)).setG (X.gas - min X.gas k)) (BL.setW (BL.ws++nl)):=⟨by show X.gas - min X.gas k < 18446744073709551616;omega,hXn.self,hXn.frm,hXn.val,fun a ha=>(List.mem_append.1 ha).elim (hXn.ws a) (hnm a)⟩
      apply thenX
      refine ⟨rfl,(k+1,_,_,_),⟨hlt,hX3,hX2,few_of K2 (by show (BL.ws++nl).length≤65;rw [yC];omega) K4 K5 K6⟩,by show 40 - (k+1) < 40 - k;omega,⟨rfl,rfl,rfl,rfl,rfl,trivial⟩,?_⟩
      dsimp only
      simp only [jR]
      exact jL (jL (jL (jL (jL (jK _ (jK _ (jK _ ((jN gs _).trans ((jN gz _).trans (jN gW1 _)))))) _) _) _) _) _
    ·(refine goZ ?_)
     (apply LW.appendAny;(case hrow=>exact r2');rfl;rfl;exact vF;exact vF;exact vF;rfl;rfl;rfl;exact qL qJ)
     ·exact fun w' hs=>hat w' (hr2.st hs)
     ·exact wcs_one _
     ·simp only [maxLen];omega
     ·omega
     exact dTBDwy
  ·have hRt:=hRt0
   rw [vA hok] at hRt
   have hBad:∀ w',(∀ q∈gs,w'.heap[q.1]?=some q.2)→Calls prog 10 #[frv f,.agg (enva e0 e1 e2 e3)] w' (Ret w' (.tuple #[frv zeroF,.agg (aska 0 0 (.slice none 0 0) (.slice none 0 0)),.int .i64 240])):=fun w' h=>Step_bad f L e0 e1 e2 e3 hok w' (hfr.us h)
   have hsl3:=zero_sl
   have hSz:∀ w,Calls prog 12 #[frv zeroF,frv zeroF] w (Ret w (.bool true)):=fun w=>by
    have h:=rfSame_calls zeroF zeroF zeroL zeroL zeroF_num zeroF_num w (zero_frO.us (fun p hp=>by cases hp)) (zero_frO.us (fun p hp=>by cases hp))
    rwa [vE (LikeF.same (LikeF.refl zeroF) (LikeF.refl zeroF))] at h
   have hAz:∀ w,Calls prog 13 #[.agg (aska 0 0 (.slice none 0 0) (.slice none 0 0)),.agg (aska 0 0 (.slice none 0 0) (.slice none 0 0))] w (Ret w (.bool true)):=fun w=>by
    have hz:AskQAt w ⟨0,0,.slice none 0 0,[],.slice none 0 0,[]⟩:=⟨.nil,.nil,fun x hx=>by cases hx⟩
    have h:=rSameAsk_calls ⟨0,0,.slice none 0 0,[],.slice none 0 0,[]⟩ ⟨0,0,.slice none 0 0,[],.slice none 0 0,[]⟩ w hz hz
    rwa [vE (show sameA _ _ from ⟨rfl,rfl,rfl,rfl⟩)] at h
   have hsw:∃ p n c,Value.slice none 0 0=.slice p n c:=⟨_,_,_,rfl⟩
   have hsd:=hsw
   (refine goZ ?_;intro _;refine cEz (c:=fun w hst=>by exact hBad w (st_ou hst subZ)) (k:=?_);intro _ _;refine cEz (c:=fun w hst=>by exact hRt w (st_ou hst subZ)) (k:=?_);refine bTz ?_;refine cEv hSz ?_;refine bTz ?_;refine cEv hAz ?_)
   (refine fiz ?_)
   rfl
 ·have hk40:k=40:=by omega
  subst hk40
  exact dTBJyT
end Go.Proofs.YtdeggbkbblfpoaaGreatDoor
namespace Go.Proofs.YtdeggbkbblfpoaaGreatDoor
open Go Go.RowKit SL
open Go.ChangeShapes Go.WideShapes
set_option linter.unusedVariables false
theorem var_heap {P:Program} {w:World} {n:String} {g:Nat} {cs:Array Value} (hg:P.globalNamed n=some g) (h:w.var? P n=some cs):∃ E fr,w.heap[g]?=some (.cells cs E fr):=by
 unfold World.var? at h
 rw [hg] at h
 simp only [Option.bind_some] at h
 split at h
 ·rename_i cs' E fr hh
  cases h
  exact ⟨E,fr,hh⟩
 ·cases h
theorem tab_at {P:Program} {W:World} {l:List (String × DataW Unit)} {n:String} {g T E m:Nat} {k:IntKind} {zs:List Int} (h:laidMet P l W) (hm:(n,Lib.tabData k zs)∈l) (hg:P.globalNamed n=some g) (hT:(P.globals[g]?).map (·.type)=some T) (hu:P.underlying T=some (.array m E)) (he:P.underlying E=some (.int k)) (hce:P.cellsOf E=1) (hct:P.cellsOf T=m) :
  ∃ E' fr,W.heap[g]?=some (.cells (zs.map fun z=>Value.int k z).toArray E' fr):=by
 obtain ⟨g',t',cs,fuel,p,h1,h2,h3,h4⟩:=Lib.laidMet.reads h hm
 obtain rfl:g=g':=jZ (hg.symm.trans h1)
 obtain rfl:T=t':=jZ (hT.symm.trans h2)
 have hc:=Lib.cells_of_tab hu he hce hct h4
 obtain ⟨E',fr,hh⟩:=var_heap hg h3
 refine ⟨E',fr,?_⟩
 rw [hh,← hc]
theorem laid_at {l : List (String × DataW Unit)} {W : World} (h : laidMetH Tryz.prog l W) (h0 : (l.all fun x => x.2.handleName?.isNone) = true) (h1 : ("sheafer/sponge.turns", Lib.tabData .i64 (SK.turnL.map fun (n : Nat) => (n : Int))) ∈ l) (h2 : ("sheafer/sponge.numbers", Lib.tabData .u64 (SK.numL.map fun (n : Nat) => (n : Int))) ∈ l) : SK.TurnAt W ∧ SK.NumAt W := by
 rw [MakeChecks.laidMetH_plain _ _ _ h0] at h
 exact ⟨tab_at (T:=238) (E:=3) (m:=25) h h1 (by kernel_rfl) (by kernel_rfl) (by kernel_rfl) (by kernel_rfl) (by kernel_rfl) (by kernel_rfl),tab_at (T:=222) (E:=26) (m:=24) h h2 (by kernel_rfl) (by kernel_rfl) (by kernel_rfl) (by kernel_rfl) (by kernel_rfl) (by kernel_rfl)⟩
theorem laid_steps {W:World} (h:laidMetH Tryz.prog Rows.frameStepsRow.laid W):SK.TurnAt W∧SK.NumAt W:=laid_at h (by kernel_rfl) (by unfold Rows.frameStepsRow;simp only [];repeat (first|exact jW _|apply jX)) (by unfold Rows.frameStepsRow;simp only [];repeat (first|exact jW _|apply jX))
end Go.Proofs.YtdeggbkbblfpoaaGreatDoor
