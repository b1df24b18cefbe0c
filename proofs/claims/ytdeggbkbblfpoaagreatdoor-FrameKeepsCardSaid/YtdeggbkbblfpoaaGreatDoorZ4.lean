/-
  Texts that were built apart, put behind one another (4 of 6): Q3 Q5 Q6 Q7 Q4 Q8 Q9 QA QB QC QD Q1 QE QF QG QH QI KE KO KI KJ KK KM KG KP V1 QS NL NM NN QJ QT QU QV.
  Conditions: none.
-/
import Derived.Test.YtdeggbkbblfpoaaGreatDoorZ3
namespace Go.Proofs.YtdeggbkbblfpoaaGreatDoor
open Go Go.RowKit SL
set_option maxRecDepth 8000
set_option maxHeartbeats 4000000
set_option linter.unusedSimpArgs false
set_option linter.unusedVariables false
attribute [local irreducible] SL.CW SL.LW SL.DW Calls SL.Ret SL.RetG SL.beginQ SL.roundQ SL.rangeQ SL.inQ SL.RW SL.AnyW SL.thenQ SL.thenC SL.thenW SL.blkQ SL.finQ SL.ValP SL.NewP SL.SetP SL.CallP SL.Rd SL.Wr SL.Known
section
def revS (l L:List Nat) (k:Nat):Prop:=L.length=l.length∧∀ i,i < l.length→L[i]?=if i < k∨l.length - 1 - i < k then l[l.length - 1 - i]? else l[i]?
theorem revS_zero (l:List Nat):revS l l 0:=⟨rfl,fun i hi=>by rw [if_neg (by omega)]⟩
theorem revS_step {l L:List Nat} {k x y:Nat} (h:revS l L k) (hk:2 * k+1 < l.length) (hx:L[l.length - 1 - k]?=some x) (hy:L[k]?=some y):revS l ((L.set k x).set (l.length - 1 - k) y) (k+1):=by
 obtain ⟨h1,h2⟩:=h
 have hx0:=h2 (l.length - 1 - k) (by omega)
 rw [if_neg (by omega),hx] at hx0
 have hy0:=h2 k (by omega)
 rw [if_neg (by omega),hy] at hy0
 refine ⟨by rw [List.length_set,List.length_set,h1],fun i hi=>?_⟩
 by_cases e1:i=l.length - 1 - k
 ·subst e1
  rw [List.getElem?_set_self (by rw [List.length_set];omega),if_pos (by omega),show l.length - 1 - (l.length - 1 - k)=k by omega]
  exact hy0
 ·rw [List.getElem?_set_ne (fun h=>e1 h.symm)]
  by_cases e2:i=k
  ·subst e2
   rw [List.getElem?_set_self (by omega),if_pos (by omega)]
   exact hx0
  ·rw [List.getElem?_set_ne (fun h=>e2 h.symm),h2 i hi]
   by_cases c:i < k∨l.length - 1 - i < k
   ·rw [if_pos c,if_pos (by omega)]
   ·rw [if_neg c,if_neg (by omega)]
theorem revS_end {l L:List Nat} {k:Nat} (h:revS l L k) (hk:l.length≤2 * k+1):L=l.reverse:=by
 obtain ⟨h1,h2⟩:=h
 refine List.ext_getElem? fun i=>?_
 rcases Nat.lt_or_ge i l.length with hi|hi
 ·rw [h2 i hi,List.getElem?_reverse hi]
  by_cases c:i < k∨l.length - 1 - i < k
  ·rw [if_pos c]
  ·rw [if_neg c,show l.length - 1 - i=i by omega]
 ·rw [List.getElem?_eq_none (by omega),List.getElem?_eq_none (by rw [List.length_reverse];exact hi)]
theorem wcs_lenN (L:List Nat):(wcs L).length=L.length * 4:=by
 induction L with
 |nil=>rfl
 |cons x L ih =>
  show ((wc x).toList++wcs L).length=_
  rw [List.length_append,ih,List.length_cons]
  show 4+_=_
  omega
theorem wcs_set (L:List Nat) (i x:Nat) (hi:i < L.length):(wcs L).take (i * 4)++(wc x).toList++(wcs L).drop ((i+1) * 4)=wcs (L.set i x):=by
 rw [wcs_take,wcs_drop,List.set_eq_take_append_cons_drop,if_pos hi,wcs_app]
 show _++_++_=wcs (L.take i)++((wc x).toList++wcs (L.drop (i+1)))
 rw [List.append_assoc]
attribute [local irreducible] SL.inP
theorem reverse_calls (w0:World) (S:List Nat) (l:List Nat) (v:Value) (g rest:Fs) (hr:wM l v g) (hl:l.length≤100000) (w:World) (hs:St w0 S (g++rest) w) :
  Calls Tryz.prog 136 #[v] w (fun x w'=>∃ fs',(x=.returned (.tuple #[])∧∃ g',wM l.reverse v g'∧fs'=g'++rest)∧St w0 S fs' w'):=by
 unfold wM at hr ⊢
 obtain ⟨q,c,rfl⟩:=id hr.form
 refine calls_inlineP (K:=fun x fs'=>x=.returned (.tuple #[])∧∃ g',IsRow 29 4 (.slice q l.length c) l.reverse.length (wcs l.reverse) g'∧fs'=g'++rest) (args:=[_]) Tryz.func136 rfl Tryz.ntmps136 rfl ?_ hs
 (refine sRz<|vMz<|lvz (.lenR rfl inferInstance rfl) ?_;refine lvz (.subI rfl rfl (by omega) (by omega)) ?_;refine vAz<|vAz<|nNz<|zM ?_)
 refine CW.loop (fun x:Nat × List Nat × Fs=>([(3,.int .i64 ((l.length:Int) - 1 - (x.1:Int))),(2,.int .i64 (x.1:Int)),(0,.slice q l.length c)],x.2.2++rest))
  (fun x=>x.1≤l.length∧revS l x.2.1 x.1∧IsRow 29 4 (.slice q l.length c) l.length (wcs x.2.1) x.2.2) (fun x=>l.length - x.1) (0,l,g) ⟨Nat.zero_le _,revS_zero l,hr⟩ ⟨(by have h:(l.length:Int) - 1=(l.length:Int) - 1 - ((0:Nat):Int):=by { omega };exact congrArg (fun z=>some (Value.int .i64 z)) h),rfl,rfl,trivial⟩ (qQ _) ?_
 rintro ⟨k,L,seg⟩ ⟨hk,hrev,hrow⟩
 dsimp only at hk hrev hrow ⊢
 rcases Nat.lt_or_ge (2 * k+1) l.length with hlt|hge
 ·obtain ⟨gm,cur,rfl,rfl,hn9,hm9,hsz9,htk9⟩:=hrow.pos (by omega)
  have hLl:L.length=l.length:=hrev.1
  obtain ⟨j,hj⟩:∃ j,l.length - 1 - k=j:=⟨_,rfl⟩
  rw [show (l.length:Int) - 1 - (k:Int)=(j:Int) by omega]
  have hrdK:Rd Tryz.prog 29 (.cells cur 29 (0,0)) (0+k * 4) (wv (L.getD k 0)):=word_rd (by rw [List.drop_zero];exact htk9) k (by omega)
  have hrdJ:Rd Tryz.prog 29 (.cells cur 29 (0,0)) (0+j * 4) (wv (L.getD j 0)):=word_rd (by rw [List.drop_zero];exact htk9) j (by omega)
  have hgk:L[k]?=some (L.getD k 0):=by rw [List.getD_eq_getElem?_getD,List.getElem?_eq_getElem (by omega)];rfl
  have hgj:L[l.length - 1 - k]?=some (L.getD j 0):=by rw [hj,List.getD_eq_getElem?_getD,List.getElem?_eq_getElem (by omega)];rfl
  have hstep:=revS_step hrev hlt hgj hgk
  rw [hj] at hstep
  obtain ⟨x,hx⟩:∃ x,L.getD j 0=x:=⟨_,rfl⟩
  obtain ⟨y,hy⟩:∃ y,L.getD k 0=y:=⟨_,rfl⟩
  rw [hx] at hrdJ hstep
  rw [hy] at hrdK hstep
  obtain ⟨w1,w2⟩:=wr_take (i:=k) (vs:=(wc x).toList) htk9 rfl (by omega) (by omega)
  rw [wcs_set L k x (by omega)] at w1
  obtain ⟨w3,w4⟩:=wr_take (i:=j) (vs:=(wc y).toList) w1 rfl (by omega) (by omega)
  rw [wcs_set _ j y (by rw [List.length_set];omega)] at w3
  have hW1:Wr Tryz.prog 29 (.cells cur 29 (0,0)) (0+k * 4) (wv x) (.cells (wrCells cur (k * 4) (wc x).toList) 29 (0,0)):=Wr.cells (z:=wv 0) (n:=4) rfl rfl (by rw [hsz9];show 0+k * 4+4≤c * 4;omega) (by rw [qR];rfl)
  have hW2:Wr Tryz.prog 29 (.cells (wrCells cur (k * 4) (wc x).toList) 29 (0,0)) (0+j * 4) (wv y) (.cells (wrCells (wrCells cur (k * 4) (wc x).toList) (j * 4) (wc y).toList) 29 (0,0)):=Wr.cells (z:=wv 0) (n:=4) rfl rfl (by rw [w2,hsz9];show 0+j * 4+4≤c * 4;omega) (by rw [qR];rfl)
  (refine zI<|sRz<|vMz<|vMz ?_;refine lvz (.lssT rfl rfl (by omega)) ?_;refine nNz<|cTz<|zJ<|thenN<|zI<|zM ?_)
  apply CW.pre
  (refine AnyW.anyM [] 14 mixed (by decide +kernel) ?_)
  ((try simp only [tsOf_cons,tsOf_nil,tsOf_app]);refine dvz (.move rfl)<|dvz (.move rfl)<|dvz (.move rfl)<|dvz (.move rfl)<|dvz (.move rfl)<|dvz (.move rfl) ?_;refine dvz (.indexAddrS rfl rfl rfl (by omega)) ?_;apply qH;rfl;rfl;rfl;exact zC;rfl;apply zP;exact zN;exact hrdJ;refine dvz (.move rfl)<|dvz (.move rfl) ?_;refine dvz (.indexAddrS rfl rfl rfl (by omega)) ?_;apply qH;rfl;rfl;rfl;exact zC;rfl;apply zP;exact zN;exact hrdK;refine dvz (.indexAddrS rfl rfl rfl (by omega)) ?_;apply DW.store;rfl;rfl;exact zC;rfl;rfl;apply TSet.head;exact zN;kernel_rfl;exact hW1;apply DW.nil;simp only [fsOf_cons,fsOf_nil,fsOf_app,fsOf_tsOf,fsOf_new])
  try simp only [fsOf_mark,fsOf_cons,fsOf_nil,fsOf_app,fsOf_tsOf,fsOf_new,fsOf_tag,List.append_eq,List.nil_append]
  (refine lvz (.indexAddrS rfl rfl rfl (by omega)) ?_;refine zR rfl rfl .head hW2 ?_;apply zV;refine blkN<|thenN<|zL<|vMz ?_;refine lvz (.addZL rfl rfl (by decide) (by omega)) ?_;refine vMz ?_;refine lvz (.subZL rfl rfl (by decide) (by omega) (by omega)) ?_;refine vAz<|vAz ?_;apply zV)
  apply thenX
  exact ⟨rfl,(k+1,_,_),⟨by omega,hstep,.own hn9 hm9 (by rw [w4,w2,hsz9]) w3 (by rw [wcs_lenN,List.length_set,List.length_set,hLl])⟩,by show l.length - (k+1) < l.length - k;omega,⟨(by have h:((j - 1:Nat):Int)=(l.length:Int) - 1 - ((k+1:Nat):Int):=by { omega };exact congrArg (fun z=>some (Value.int .i64 z)) h),rfl,rfl,trivial⟩,qQ _⟩
 ·obtain rfl:=revS_end hrev hge
  (refine zI<|sRz<|vMz<|vMz ?_;refine lvz (.lssF rfl rfl (by omega)) ?_;refine nNz<|cFz<|CW.exit<|thenE<|thenE<|blkE rfl ?_)
  exact inPI (.inr rfl) .nil rfl .nil rfl ⟨rfl,seg,by rw [List.length_reverse];exact hrow,rfl⟩
def wP (l:List Nat) (v:Value) (gs:Fs):Prop:=wM l v gs∨∃ g cur,v=.slice (some ⟨g,0,none⟩) l.length l.length∧gs=[(g,.cells cur 29 (0,0))]∧l.length * 4≤cur.size∧cur.toList.take (l.length * 4)=wcs l∧l.length≤maxLen
theorem wP.form {l:List Nat} {v:Value} {gs:Fs} (h:wP l v gs):∃ p c,v=.slice p l.length c:=by
 rcases h with h|⟨g,cur,rfl,_⟩
 ·unfold wM at h
  exact h.form
 ·exact ⟨_,_,rfl⟩
theorem wP.at {l:List Nat} {v:Value} {g:Fs} {w:World} (h:wP l v g) (hw:∀ p∈g,w.heap[p.1]?=some p.2):RowAt w 4 v l.length (wcs l):=by
 rcases h with h|⟨b,cur,rfl,rfl,hsz,htk,hm⟩
 ·exact wM_at h hw
 ·exact RowAt.us (us:=[]) hw (Nat.le_refl _) hm htk (wcs_lenN l)
theorem wM_cut {l:List Nat} {p:Option Addr} {c k:Nat} {gs:Fs} (h:wM l (.slice p l.length c) gs) (hk:k≤l.length):wP (l.take k) (.slice p k k) gs:=by
 unfold wM at h
 have hlk:(l.take k).length=k:=by rw [List.length_take];omega
 rcases Nat.eq_zero_or_pos l.length with h0|h0
 ·have hl0:=List.length_eq_zero_iff.1 h0
  subst hl0
  obtain rfl:k=0:=by simpa using hk
  generalize hn:([]:List Nat).length=n at h
  generalize hx:wcs []=xs at h
  cases h with
  |nil=>exact .inl .nil
  |own hn hm hc ht hl=>exact .inr ⟨_,_,rfl,rfl,Nat.zero_le _,rfl,Nat.zero_le _⟩
 ·obtain ⟨g,cur,rfl,rfl,hn,hm,hsz,htk⟩:=IsRow.pos h h0
  refine .inr ⟨g,cur,by rw [hlk],rfl,by rw [hlk,hsz];omega,?_,by rw [hlk];omega⟩
  rw [hlk,← wcs_take,← htk,List.take_take,Nat.min_eq_left (by omega)]
def PopR (ws:List Nat) (ms:List UInt8) (n:Nat) (v:Value) (gs:Fs):Prop:=∃ s k t g1 g2 g3,v=.tuple #[.agg #[s,k],t,.int .i64 0]∧gs=g3++(g2++g1)∧wP (ws.take (ws.length - n)) s g1∧bM ms k g2∧wM ((ws.drop (ws.length - n)).reverse) t g3
theorem pop_calls (ws:List Nat) (ms:List UInt8) (n:Nat) (s m:Value) (hn:n≤ws.length) (w:World) (hs:RowAt w 4 s ws.length (wcs ws)) (hm:RowAt w 1 m ms.length (ucs ms)) (hok:okSc ws.length ms.length) :
  Calls Tryz.prog 95 #[.agg #[s,m],.int .i64 (n:Int)] w (RetG w [] (PopR ws ms n)):=by
 have hs0:=hs
 have hm0:=hm
 obtain ⟨p,c,rfl,_,hc⟩:=hs.form
 obtain ⟨p2,c2,rfl,_,hc2⟩:=hm.form
 have hC:∀ w,Calls Tryz.prog 84 #[.agg #[.slice p ws.length c,.slice p2 ms.length c2]] w (Ret w (.int .i64 0)):=fun w=>by
  have h:=scCheck_calls p p2 ws.length c ms.length c2 (by omega) (by omega) w
  rwa [if_pos hok] at h
 have hok2:=hok
 unfold okSc at hok2
 obtain ⟨hn1,hk1,hk2⟩:=hok2
 refine enter (args:=[_,_]) _ [] [] Tryz.func95 rfl Tryz.ntmps95 rfl (by simp) .nil ?_
 (refine sRz ?_;apply zT;rfl;rfl;intro _;apply zU;rfl;intro _;refine vAz<|vAz<|nNz<|zI<|sRz<|ldz rfl (.tail .head) (qJ rfl) ?_;apply zS;rfl;rfl;infer_instance;exact .cons rfl .nil;intro w _;exact hC w;refine vAz<|nSz<|vMz ?_;refine lvz (.neF rfl rfl (by omega)) ?_;refine nNz<|cFz<|zJ<|thenN<|zI<|zM<|sRz<|vMz ?_;refine lvz (.lssF rfl rfl (by omega)) ?_;refine vAz<|nNz<|cFz<|sRz<|vMz<|vFz<|ldz rfl (.tail .head) sc_rd0<|lvz (.lenR rfl inferInstance rfl) ?_;refine lvz (.gtrF rfl rfl (by omega)) ?_;refine vAz<|nNz<|cFz<|zJ<|blkN<|thenN<|sRz<|ldz rfl (.tail .head) (qJ rfl) ?_)
 (apply LW.callR;rfl;rfl;infer_instance;exact .cons rfl .nil;intro w hs)
 exact copied_calls ws ms _ _ w (hs0.st hs) (hm0.st hs) (by omega) (by omega)
 rintro vo gso ⟨s1,m1,g1,g2,rfl,rfl,h1,h2⟩
 have h1':=h1
 have h2':=h2
 unfold wM at h1'
 unfold bM at h2'
 obtain ⟨q1,k1,rfl⟩:=h1'.form
 obtain ⟨q2,k2,rfl⟩:=h2'.form
 rw [List.append_assoc]
 (apply zU;rfl;intro _;refine zR rfl rfl .head (.whole rfl rfl rfl)<|nSz<|vFz<|ldz rfl .head sc_rd0<|lvz (.lenR rfl inferInstance rfl)<|vMz ?_;refine lvz (.subZ rfl rfl (by omega) (by omega)) ?_;refine vAz<|nSz<|vFz<|ldz rfl .head sc_rd0<|vMz ?_;refine lvz (.cutFrom inferInstance inferInstance rfl rfl (by omega)) ?_)
 refine LW.callR rfl rfl inferInstance (by (exact .cons rfl .nil)) (fun w hst=>CloneW_calls (ws.drop (ws.length - n)) _ w (by
  have h:=(h1'.us (fun p hp=>(hst.own p (qS _ (List.mem_append_right _ (List.mem_append_left _ hp)))).2) (qQ _)).drop (k:=ws.length - n) (by omega)
  rw [wcs_drop] at h
  rw [List.length_drop]
  exact h) (by rw [List.length_drop];omega)) ?_
 intro v3 g3 h3
 have h3':=h3
 unfold wM at h3'
 obtain ⟨q3,k3,rfl⟩:=id h3'.form
 (refine vAz<|nSz<|vMz ?_)
 rename_i b2 b4 b8
 have hrl:(ws.drop (ws.length - n)).length≤100000:=by rw [List.length_drop];omega
 replace h3:wM (ws.drop (ws.length - n)) (.slice q3 (ws.drop (ws.length - n)).length k3) g3:=h3
 refine LW.callSt (K:=fun v fs'=>v=.tuple #[]∧∃ g',wM (ws.drop (ws.length - n)).reverse (.slice q3 (ws.drop (ws.length - n)).length k3) g'∧fs'=g'++((b8,.cells #[.slice q1 ws.length k1,.slice q2 ms.length k2] 25 (0,0))::(g2++(g1++[(b4,.cells #[.slice none 0 0,.slice none 0 0] 25 (0,0)),(b2,.cells #[.slice p ws.length c,.slice p2 ms.length c2] 25 (0,0))])))) rfl rfl inferInstance (by (exact .cons rfl .nil)) (fun w' hst=>Calls.mono (reverse_calls _ _ _ _ g3 _ h3 hrl w' hst) fun x w'' ⟨fs',⟨h1,h2⟩,hst⟩=>⟨_,_,h1,⟨rfl,h2⟩,hst⟩) ?_
 rintro _ _ ⟨rfl,g4,h4,rfl⟩
 have hroom:ws.length≤k1:=IsRow.le h1'
 (refine nSz<|vFz<|ldz rfl (.app .head) sc_rd0<|vMz<|vMz ?_;apply LW.v0;rfl;rfl;apply ValP.cutMax;infer_instance;infer_instance;rfl;rfl;rfl;omega;omega;refine vFz ?_;refine zR rfl rfl (.app .head) sc_wr0<|nSz<|ldz rfl (.app .head) (qJ rfl)<|vMz ?_;refine zR rfl rfl (.app (.tail (.app (.app .head)))) (.whole rfl rfl rfl)<|vAz<|vAz<|nNz<|zK ?_)
 refine fin (vs:=[.agg #[.slice q1 (ws.length - n) (ws.length - n),.slice q2 ms.length k2],.slice q3 (ws.drop (ws.length - n)).length k3,.int .i64 0]) (g4++(g2++g1)) (.inl rfl) rfl rfl (by (apply zD;apply zH;rfl;apply qI;apply zZ;apply zX;apply zZ;apply zZ;apply zY;exact qJ rfl;apply zD;exact zG rfl;apply zD;exact zG rfl;exact zF)) ?_ ⟨_,_,_,g1,g2,g4,rfl,rfl,wM_cut h1 (by omega),h2,h4⟩
 exact List.Sublist.append_left (List.Sublist.append_left (qT _ _) _ |>.cons _) _
end
section
open CK (dataC)
theorem number_calls (l:List UInt8) (v:Value) (hl:l.length≤32) (w:World) (h:RowAt w 1 v l.length (ucs l)):Calls Tryz.prog 131 #[v] w (Ret w (wv (bev l))):=by
 obtain ⟨p,c,rfl,_,_⟩:=id h.form
 have hR:=fun w' {fs:Fs} (hst:St w [] fs w')=>Read_calls _ l w' (h.st hst) hl
 refine enter (args:=[_]) _ [] [] Tryz.func131 rfl Tryz.ntmps131 rfl (by simp) .nil ?_
 (refine sRz ?_;apply LW.allocW;rfl;intro _;refine nSz<|vMz ?_;apply zS;rfl;rfl;infer_instance;exact .cons rfl .nil;intro w _;exact hR w (by assumption);refine vMz ?_;refine vEz ?_;refine vEz ?_;apply LW.allocW;rfl;intro _;refine zR rfl rfl .head (.whole rfl rfl rfl)<|vAz<|nSz<|vMz ?_;refine lvz (.eqT rfl rfl (by omega)) ?_;apply zS;rfl;rfl;infer_instance;exact .cons rfl .nil;intro w _;exact need_true w;refine nSz<|ldz rfl .head (qJ rfl) ?_;refine zR rfl rfl (.tail .head) (.whole rfl rfl rfl)<|nNz<|zK ?_)
 (apply finR;exact .inl rfl;rfl;rfl;rfl;apply zD;apply zH;rfl;apply qI;apply zX;apply zY;exact qJ rfl;exact zF)
 rfl
theorem dataL_len (bs:List UInt8) (i:Int):(CK.dataL bs i).length≤32:=by
 unfold CK.dataL
 split
 ·rw [CK.datF_len]
  exact CK.szOf_le _
 ·exact Nat.zero_le _
theorem dataC_len (bs:List UInt8) (i:Int):(dataC bs i).length≤32:=by
 unfold CK.dataC
 split
 ·exact dataL_len bs i
 ·exact Nat.zero_le _
section rd
variable {P : Program} {T E : TypeId} {fr : Nat × Nat} {m : MaV}
theorem ma_rd0 [AgI P T false]:Rd P T (.cells (mca m) E fr) 0 m.fr.code:=Rd.one rfl
theorem ma_rd1 [AgI P T false]:Rd P T (.cells (mca m) E fr) 1 (.int .i64 m.fr.pc):=Rd.one rfl
theorem ma_rd2s [AgI P T false]:Rd P T (.cells (mca m) E fr) 2 m.fr.stk:=Rd.one rfl
end rd
attribute [local irreducible] SL.inP
def RowK (b:Nat) (m:MaV) (L:FrL) (ws:List Nat) (rest:Fs):Out:=fun x fs'=>x=.returned (.bool true)∧∃ s k gs',FrO (m.fr.setR m.fr.gas s k) (L.setW ws) gs'∧fs'=(b,maO (m.setF (m.fr.setR m.fr.gas s k)))::(gs'++rest)
theorem row_push (w0:World) (S:List Nat) (b:Nat) (m:MaV) (L:FrL) (gs rest:Fs) (op:Nat) (h1:96≤op) (h2:op≤127) (hok:okSc L.ws.length L.ms.length) (hf:L.ws.length+1≤64) (hfr:FrO m.fr L gs) (w:World) (hs:St w0 S ((b,maO m)::(gs++rest)) w) :
  Calls Tryz.prog 94 #[.pointer (some ⟨b,0,none⟩),.int .u8 (op:Int)] w (fun x w'=>∃ fs',RowK b m L (L.ws++[bev (dataC L.cl m.fr.pc)]) rest x fs'∧St w0 S fs' w'):=by
 obtain ⟨g1,g2,g3,g4,g5,hp,hall⟩:=hfr
 replace hs:St w0 S ((b,maO m)::(g1++(g2++(g3++(g4++g5)))++rest)) w:=hs.perm (List.Perm.cons _ (hp.append_right rest))
 clear hp
 obtain ⟨r1,r2,r3,r4,r5⟩:=id hall
 unfold bM at r1 r3
 unfold wM at r2
 obtain ⟨fr,e0,e1,e2,e3,took,kind,aop,awords,adata⟩:=m
 obtain ⟨code,pc,stk,mem,gas,self,frm,val,inp,back,stat⟩:=fr
 dsimp only at r1 r2 r3
 obtain ⟨q1,k1,rfl⟩:=id r1.form
 obtain ⟨q2,k2,rfl⟩:=id r2.form
 obtain ⟨q3,k3,rfl⟩:=id r3.form
 obtain ⟨us1,hbl1,hin1,hrows1⟩:=rowU_own r1
 obtain ⟨us2,hbl2,hin2,hrows2⟩:=rowU_own r2
 obtain ⟨us3,hbl3,hin3,hrows3⟩:=rowU_own r3
 dsimp only
 obtain ⟨x,hx⟩:∃ x,bev (dataC L.cl pc)=x:=⟨_,rfl⟩
 rw [hx]
 refine calls_anyO (calls_inlineP (K:=anyO (RowK b ⟨⟨.slice q1 L.cl.length k1,pc,.slice q2 L.ws.length k2,.slice q3 L.ms.length k3,gas,self,frm,val,inp,back,stat⟩,e0,e1,e2,e3,took,kind,aop,awords,adata⟩ L (L.ws++[x]) rest)) (args:=[_,_]) Tryz.func94 rfl Tryz.ntmps94 rfl ?_ hs)
 (refine sRz<|vAz<|nSz<|vMz<|vNz<|vFz<|vFz<|ldz rfl .head ma_rd2 ?_;apply zU;rfl;intro _;refine zR rfl rfl .head (.whole rfl rfl rfl)<|vAz<|nNz<|zI<|zM<|sRz<|vMz ?_;refine lvz (.geqT rfl rfl (by omega)) ?_;refine vMz<|gTz<|vMz<|gTz ?_;refine lvz (.leqT rfl rfl (by omega)) ?_;refine pTz<|vAz<|nNz<|cTz ?_)
 apply CW.pre
 (refine AnyW.anyM [(11,bM (dataC L.cl pc)),(14,fun r gs=>∃ o,r=.tuple #[o,.int .i64 0]∧ScO (L.ws++[x]) L.ms o gs)] 19 mixed (by decide +kernel) ?_)
 ((try simp only [tsOf_cons,tsOf_nil,tsOf_app]);apply qH;rfl;rfl;rfl;exact zC;rfl;apply zP;exact zN;exact qJ rfl;refine dvz (.move rfl)<|dvz (.nilCheck rfl)<|dvz (.fieldAddr rfl rfl)<|dvz (.fieldAddr rfl rfl) ?_;apply qH;rfl;rfl;rfl;exact zC;rfl;apply zO;apply zP;exact zN;exact ma_rd0;refine dvz (.move rfl)<|dvz (.nilCheck rfl)<|dvz (.fieldAddr rfl rfl)<|dvz (.fieldAddr rfl rfl) ?_;apply qH;rfl;rfl;rfl;exact zC;rfl;apply zO;apply zP;exact zN;exact ma_rd1)
 dsimp only
 refine DW.manyA us1 rfl rfl rfl (by (exact zC)) rfl inferInstance (by (exact .cons rfl (.cons rfl .nil))) (by rw [List.flatMap_cons,hbl1];exact List.append_nil _) (fun p hp=>AncT.lie (by (refine AncT.cons ?_ ?_;exact zN;refine AncT.cons ?_ ?_;exact zN;refine AncT.app ?_ ?_;refine AncT.app ?_ ?_;exact AncT.tsOf;refine AncT.app ?_ ?_;exact AncT.tsOf;refine AncT.app ?_ ?_;exact AncT.tsOf;refine AncT.app ?_ ?_;exact AncT.tsOf;exact AncT.tsOf;exact AncT.tsOf)) (by have hp:=hin1 p hp;simp [fsOf,tsOf,tsNew,tsTag,markAll,Function.comp_def,hp])) (fun w _ hu=>CK.Data_calls L.cl pc _ w (hrows1 w hu)) ?_
 intro vD gD hD
 have hD':=hD
 obtain ⟨q4,k4,rfl⟩:=id (IsRow.form hD')
 obtain ⟨us4,hbl4,hin4,hrows4⟩:=rowU_own hD'
 (try simp only [markAll_cons,markAll_app,markAll_tsOf,markAll_tag,markAll_new,markAll_nil])
 ((try simp only [tsOf_cons,tsOf_nil,tsOf_app]))
 refine DW.callA us4 (v:=wv x) rfl rfl rfl (by (exact zC)) rfl inferInstance (by (exact .cons rfl .nil)) (by rw [List.flatMap_cons,hbl4];exact List.append_nil _) (fun p hp=>AncT.lie (by (refine AncT.app ?_ ?_;refine AncT.new ?_;kernel_rfl;refine AncT.cons ?_ ?_;exact zN;refine AncT.cons ?_ ?_;exact zN;refine AncT.app ?_ ?_;refine AncT.app ?_ ?_;refine AncT.tag ?_;exact zN;refine AncT.app ?_ ?_;refine AncT.tag ?_;exact zN;refine AncT.app ?_ ?_;refine AncT.tag ?_;exact zN;refine AncT.app ?_ ?_;refine AncT.tag ?_;exact zN;refine AncT.tag ?_;exact zN;refine AncT.tag ?_;exact zN)) (by have hp:=hin4 p hp;simp [fsOf,tsOf,tsNew,tsTag,markAll,Function.comp_def,hp])) (fun w _ hu=>by rw [← hx];exact number_calls _ _ (dataC_len _ _) w (hrows4 w hu)) ?_
 (try simp only [markAll_cons,markAll_app,markAll_tsOf,markAll_tag,markAll_new,markAll_nil])
 ((try simp only [tsOf_cons,tsOf_nil,tsOf_app]);apply DW.layA;rfl;rfl;rfl;exact zC;infer_instance;infer_instance;rfl;rfl;rfl;rfl;rfl;intro _)
 rename_i b5 b33
 have hrow33:∀ w':World,w'.heap[b33]?=some (.cells (wc x) 29 (0,0))→RowAt w' 4 (.slice (some ⟨b33,0,none⟩) 1 1) 1 (wcs [x]):=fun w' h=>row_cells h rfl rfl (by decide)
 refine DW.manyA (us2++(us3++[(b33,.cells (wc x) 29 (0,0))])) rfl rfl rfl (by (exact zC)) rfl inferInstance (by (exact .cons rfl (.cons rfl .nil))) ?_ (fun p hp=>AncT.lie (by (refine AncT.cons ?_ ?_;kernel_rfl;refine AncT.app ?_ ?_;refine AncT.tag ?_;kernel_rfl;refine AncT.cons ?_ ?_;exact zN;refine AncT.cons ?_ ?_;exact zN;refine AncT.app ?_ ?_;refine AncT.app ?_ ?_;refine AncT.tag ?_;exact zN;refine AncT.app ?_ ?_;refine AncT.tag ?_;exact zN;refine AncT.app ?_ ?_;refine AncT.tag ?_;exact zN;refine AncT.app ?_ ?_;refine AncT.tag ?_;exact zN;refine AncT.tag ?_;exact zN;refine AncT.tag ?_;exact zN)) ?_) (fun w _ hu=>?_) ?_
 ·rw [List.flatMap_cons,List.flatMap_cons,List.map_append,List.map_append,← hbl2,← hbl3,← blocks_sl ⟨q2,_,k2,rfl⟩,← blocks_sl ⟨q3,_,k3,rfl⟩]
  show ((blocksN 3 _++(blocksN 3 _++[]))++([b33]++[]))=_
  simp only [List.append_nil,List.append_assoc]
  rfl
 ·rcases List.mem_append.1 hp with hp|hp
  ·have hp:=hin2 p hp
   simp [fsOf,tsOf,tsNew,tsTag,markAll,Function.comp_def,hp]
  ·rcases List.mem_append.1 hp with hp|hp
   ·have hp:=hin3 p hp
    simp [fsOf,tsOf,tsNew,tsTag,markAll,Function.comp_def,hp]
   ·obtain rfl:=List.mem_singleton.1 hp
    simp [fsOf,tsOf,tsNew,tsTag,markAll,Function.comp_def]
 ·exact push_ok L.ws L.ms [x] _ _ _ w (hrows2 w fun q hq=>hu q (List.mem_append_left _ hq)) (hrows3 w fun q hq=>hu q (List.mem_append_right _ (List.mem_append_left _ hq))) (hrow33 w (hu _ (List.mem_append_right _ (List.mem_append_right _ List.mem_cons_self)))) hok (by show 1≤100000;omega) hf
 rintro vP gP ⟨o,rfl,s1,m1,gg1,gg2,rfl,rfl,hw1,hb1⟩
 have hw1':=hw1
 have hb1':=hb1
 unfold wM at hw1'
 unfold bM at hb1'
 obtain ⟨q5,k5,rfl⟩:=hw1'.form
 obtain ⟨q6,k6,rfl⟩:=hb1'.form
 (try simp only [markAll_cons,markAll_app,markAll_tsOf,markAll_tag,markAll_new,markAll_nil])
 ((try simp only [tsOf_cons,tsOf_nil,tsOf_app]);refine dvz (.move rfl) ?_;refine dvz (.extractN rfl rfl) ?_;refine dvz (.extractN rfl rfl) ?_;apply DW.store;rfl;rfl;exact zC;rfl;rfl;apply TSet.app;apply TSet.tail;apply TSet.app;apply TSet.head;exact zN;kernel_rfl;apply Wr.whole;rfl;rfl;rfl;apply DW.nil;simp only [fsOf_cons,fsOf_nil,fsOf_app,fsOf_tsOf,fsOf_new])
 try simp only [fsOf_mark,fsOf_cons,fsOf_nil,fsOf_app,fsOf_tsOf,fsOf_new,fsOf_tag,List.append_eq,List.nil_append]
 (refine vAz ?_;apply zV;refine blkN<|thenN<|sRz<|vMz ?_;refine lvz (.eqT rfl rfl (by omega)) ?_;apply zS;rfl;rfl;infer_instance;exact .cons rfl .nil;intro w _;exact need_true w;refine nSz<|vMz<|ldz rfl (.app (.tail (.app .head))) (qJ rfl)<|vNz<|vFz<|vFz ?_;refine zR rfl rfl (.app (.tail (.app (.tail .head)))) (ma_wr2 rfl rfl rfl rfl)<|nSz<|vAz<|nNz<|zK ?_)
 refine inPI (.inl rfl) .nil rfl (by (apply zD;exact zG rfl;exact zF)) rfl ⟨_,⟨rfl,.slice q5 (L.ws++[x]).length k5,.slice q6 L.ms.length k6,g1++(gg1++(gg2++(g4++g5))),⟨g1,gg1,gg2,g4,g5,.refl _,hall.1,hw1,hb1,hall.2.2.2.1,hall.2.2.2.2⟩,rfl⟩,?_⟩
 simp only [List.append_assoc,List.cons_append,List.nil_append]
 exact subp_ix [gg2,gg1,[_],gD,[_],[_],g1,g2,g3,g4,g5] (xs:=[5,6,1,0,9,10]) (ys:=[0,1,2,3,4,5,6,7,8,9,10]) rest rfl
theorem row_none (w0:World) (S:List Nat) (b:Nat) (m:MaV) (rest:Fs) (op:Nat) (h1:¬ (96≤op∧op≤127)) (h2:¬ (128≤op∧op≤143)) (h3:¬ (144≤op∧op≤159)) (hsl:∃ p n c,m.fr.stk=.slice p n c) (hml:∃ p n c,m.fr.mem=.slice p n c) (w:World) (hs:St w0 S ((b,maO m)::rest) w) :
  Calls Tryz.prog 94 #[.pointer (some ⟨b,0,none⟩),.int .u8 (op:Int)] w (fun x w'=>∃ fs',(x=.returned (.bool false)∧fs'=(b,maO m)::rest)∧St w0 S fs' w'):=by
 obtain ⟨fr,e0,e1,e2,e3,took,kind,aop,awords,adata⟩:=m
 obtain ⟨code,pc,stk,mem,gas,self,frm,val,inp,back,stat⟩:=fr
 dsimp only at hsl hml
 obtain ⟨q2,n2,k2,rfl⟩:=hsl
 obtain ⟨q3,n3,k3,rfl⟩:=hml
 refine calls_anyO (calls_inlineP (K:=anyO fun x fs'=>x=.returned (.bool false)∧fs'=(b,maO ⟨⟨code,pc,.slice q2 n2 k2,.slice q3 n3 k3,gas,self,frm,val,inp,back,stat⟩,e0,e1,e2,e3,took,kind,aop,awords,adata⟩)::rest) (args:=[_,_]) Tryz.func94 rfl Tryz.ntmps94 rfl ?_ hs)
 rcases (by omega:op < 96∨(96≤op∧127 < op∧128≤op∧143 < op∧144≤op∧159 < op)) with hlt|⟨g1,g2,g3,g4,g5,g6⟩
 ·(refine sRz<|vAz<|nSz<|vMz<|vNz<|vFz<|vFz<|ldz rfl .head ma_rd2 ?_;apply zU;rfl;intro _;refine zR rfl rfl .head (.whole rfl rfl rfl)<|vAz<|nNz<|zI<|zM<|sRz<|vMz ?_;refine lvz (.geqF rfl rfl (by omega)) ?_;refine vMz<|gFz<|gFz<|pFz<|vAz<|nNz<|cFz<|sRz<|vMz ?_;refine lvz (.geqF rfl rfl (by omega)) ?_;refine vMz<|gFz<|gFz<|pFz<|vAz<|nNz<|cFz<|sRz<|vMz ?_;refine lvz (.geqF rfl rfl (by omega)) ?_;refine vMz<|gFz<|gFz<|pFz<|vAz<|nNz<|cFz<|sRz<|vAz<|nNz<|zK<|blkR<|thenR ?_)
  refine inPI (.inl rfl) .nil rfl (by (apply zD;exact zG rfl;exact zF)) rfl ⟨_,⟨rfl,rfl⟩,_,qU _ (qQ _),.refl _⟩
 ·(refine sRz<|vAz<|nSz<|vMz<|vNz<|vFz<|vFz<|ldz rfl .head ma_rd2 ?_;apply zU;rfl;intro _;refine zR rfl rfl .head (.whole rfl rfl rfl)<|vAz<|nNz<|zI<|zM<|sRz<|vMz ?_;refine lvz (.geqT rfl rfl (by omega)) ?_;refine vMz<|gTz<|vMz<|gTz ?_;refine lvz (.leqF rfl rfl (by omega)) ?_;refine pTz<|vAz<|nNz<|cFz<|sRz<|vMz ?_;refine lvz (.geqT rfl rfl (by omega)) ?_;refine vMz<|gTz<|vMz<|gTz ?_;refine lvz (.leqF rfl rfl (by omega)) ?_;refine pTz<|vAz<|nNz<|cFz<|sRz<|vMz ?_;refine lvz (.geqT rfl rfl (by omega)) ?_;refine vMz<|gTz<|vMz<|gTz ?_;refine lvz (.leqF rfl rfl (by omega)) ?_;refine pTz<|vAz<|nNz<|cFz<|sRz<|vAz<|nNz<|zK<|blkR<|thenR ?_)
  refine inPI (.inl rfl) .nil rfl (by (apply zD;exact zG rfl;exact zF)) rfl ⟨_,⟨rfl,rfl⟩,_,qU _ (qQ _),.refl _⟩
end
section
open CK (dataC)
def FrV.setPc (f:FrV) (p:Int):FrV:={ f with pc:=p }
section wr
variable {P : Program} {T E : TypeId} {fr : Nat × Nat} {m : MaV} {x : OpV}
theorem ma_wr1 {z:Value} {p:Int} [InfoI P T 1 z]:Wr P T (.cells (mca m) E (0,0)) 1 (.int .i64 p) (.cells (mca (m.setF (m.fr.setPc p))) E (0,0)):=Wr.cells (n:=1) (z:=z) rfl rfl (by show 1+1≤23;omega) rfl
theorem op_rd2 [AgI P T false]:Rd P T (.cells (opc x) E fr) 2 (.int .i64 (x.tk:Int)):=Rd.one rfl
theorem op_rd3 [AgI P T false]:Rd P T (.cells (opc x) E fr) 3 (.int .i64 (x.ly:Int)):=Rd.one rfl
theorem op_rd4 [AgI P T false]:Rd P T (.cells (opc x) E fr) 4 (.int .i64 (x.dt:Int)):=Rd.one rfl
end wr
theorem op_wrW {P:Program} {T E:TypeId} {x:OpV} {z:Value} {cs:Array Value} [InfoI P T 5 z] (h:cs.size=5):Wr P T (.cells cs E (0,0)) 0 (.agg (opc x)) (.cells (opc x) E (0,0)):=Wr.whole h rfl rfl
attribute [local irreducible] SL.inP opOf opX gasB
theorem push_op {op:Nat} (h1:96≤op) (h2:op≤127):(opOf op).isSome=true∧(opX op).tk=0∧(opX op).ly=1∧gasB op=3:=by
 have hr:opOf op=some ⟨op,[80,85,83,72]++itoa (op - 95),0,1,op - 95⟩:=by
  unfold opOf rowOp
  rw [if_pos ⟨h1,h2⟩]
 refine ⟨by rw [hr];rfl,by unfold opX;rw [hr];rfl,by unfold opX;rw [hr];rfl,?_⟩
 unfold gasB
 repeat rw [if_neg (by omega)]
theorem step_push (w0:World) (S:List Nat) (b:Nat) (f:FrV) (L:FrL) (e0 e1 e2 e3:Nat) (gs rest:Fs) (hF:okF f L) (h1:96≤opF f L) (h2:opF f L≤127) (hg:3≤f.gas) (hf:L.ws.length+1≤64) (hfr:FrO f L gs) (w:World) (hs:St w0 S ((b,maO (ma0 f e0 e1 e2 e3))::(gs++rest)) w) :
  Calls Tryz.prog 42 #[.pointer (some ⟨b,0,none⟩)] w (fun x w'=>∃ fs',(x=.returned (.tuple #[])∧∃ s k gs',FrO ((f.setR (f.gas - 3) s k).setPc ((min (f.pc.toNat+1+(opX (opF f L)).dt) L.cl.length:Nat):Int)) (L.setW (L.ws++[bev (dataC L.cl f.pc)])) gs'∧fs'=(b,maO (ma0 ((f.setR (f.gas - 3) s k).setPc ((min (f.pc.toNat+1+(opX (opF f L)).dt) L.cl.length:Nat):Int)) e0 e1 e2 e3))::(gs'++rest))∧St w0 S fs' w'):=by
 obtain ⟨code,pc,stk,mem,gas,self,frm,val,inp,back,stat⟩:=f
 obtain ⟨g1,g2,g3,g4,g5,hp,r1,r2,r3,r4,r5⟩:=id hfr
 unfold bM at r1 r3
 unfold wM at r2
 dsimp only at r1 r2 r3
 obtain ⟨q1,k1,rfl⟩:=id r1.form
 obtain ⟨q2,k2,rfl⟩:=id r2.form
 obtain ⟨q3,k3,rfl⟩:=id r3.form
 obtain ⟨f,hfe⟩:∃ f:FrV,f=⟨.slice q1 L.cl.length k1,pc,.slice q2 L.ws.length k2,.slice q3 L.ms.length k3,gas,self,frm,val,inp,back,stat⟩:=⟨_,rfl⟩
 rw [← hfe] at hF h1 h2 hg hfr hs ⊢
 have hst1:f.code=.slice q1 L.cl.length k1:=by rw [hfe]
 have hst2:f.stk=.slice q2 L.ws.length k2:=by rw [hfe]
 clear hfe
 have hrdS:∀ {g E fr},Rd Tryz.prog 23 (.cells (mca ((ma0 f e0 e1 e2 e3).setGas g)) E fr) 2 (.slice q2 L.ws.length k2):=fun {g E fr}=>by rw [← hst2];exact ma_rd2s (m:=(ma0 f e0 e1 e2 e3).setGas g)
 have hrdC:∀ {g E fr},Rd Tryz.prog 22 (.cells (mca ((ma0 f e0 e1 e2 e3).setGas g)) E fr) 0 (.slice q1 L.cl.length k1):=fun {g E fr}=>by rw [← hst1];exact ma_rd0 (m:=(ma0 f e0 e1 e2 e3).setGas g)
 obtain ⟨pn,hpn⟩:∃ pn:Nat,f.pc=(pn:Int):=by
  rcases okF_pc hF with h|h
  ·exact ⟨_,h⟩
  ·exact ⟨f.pc.toNat,by omega⟩
 have hpl:pn≤L.cl.length:=by
  rcases okF_pc hF with h|h<;>omega
 have hcl2:L.cl.length≤200:=hF.2.2.1
 have hrdP:∀ {g E fr},Rd Tryz.prog 3 (.cells (mca ((ma0 f e0 e1 e2 e3).setGas g)) E fr) 1 (.int .i64 (pn:Int)):=fun {g E fr}=>by rw [← hpn];exact ma_rd1 (m:=(ma0 f e0 e1 e2 e3).setGas g)
 have hpt:f.pc.toNat=pn:=by rw [hpn];exact Int.toNat_natCast pn
 rw [hpt]
 have hgl:f.gas < 18446744073709551616:=by have:=hF.1.2.2;omega
 have hok:okSc L.ws.length L.ms.length:=hF.2.2.2.1
 have hrowsF:∀ w',(∀ q∈gs,w'.heap[q.1]?=some q.2)→FrRows w' f L:=fun w' h=>hfr.us h
 have hsl:=hfr.sl
 obtain ⟨op,hop⟩:∃ op,opF f L=op:=⟨_,rfl⟩
 have hN:∀ w',(∀ q∈gs,w'.heap[q.1]?=some q.2)→Calls Tryz.prog 82 #[frv f] w' (Ret w' (.int .u8 (op:Int))):=fun w' h=>by
  have h:=next_calls f L (okF_pc hF) w' (hrowsF w' h)
  rwa [hop] at h
 rw [hop] at h1 h2 ⊢
 obtain ⟨o1,o2,o3,o4⟩:=push_op h1 h2
 have o5:(opX op).dt≤32:=by rw [opX_dt];exact CK.szOf_le _
 obtain ⟨e,hOf,he⟩:=OfX_calls op (by omega) w
 rw [if_pos o1] at he
 subst he
 have hBs:∀ w',Calls Tryz.prog 93 #[.int .u8 (op:Int)] w' (Ret w' (.tuple #[.int .u64 3,.int .i64 0])):=fun w'=>by
  have h:=Base_calls op (by omega) w'
  obtain ⟨y,hy⟩:=Option.isSome_iff_exists.1 o1
  rw [hy,o4] at h
  exact h
 refine calls_anyO (calls_inlineP (K:=anyO fun x fs'=>x=.returned (.tuple #[])∧∃ s k gs',FrO ((f.setR (f.gas - 3) s k).setPc ((min (pn+1+(opX op).dt) L.cl.length:Nat):Int)) (L.setW (L.ws++[bev (dataC L.cl f.pc)])) gs'∧fs'=(b,maO (ma0 ((f.setR (f.gas - 3) s k).setPc ((min (pn+1+(opX op).dt) L.cl.length:Nat):Int)) e0 e1 e2 e3))::(gs'++rest)) (args:=[_]) Tryz.func42 rfl Tryz.ntmps42 rfl ?_ hs)
 (refine sRz<|vMz<|vNz<|vFz<|ldz rfl .head ma_rdF ?_;apply zS;rfl;rfl;infer_instance;exact .cons rfl .nil;intro w _;rename_i hst;(exact hN w (st_ou hst (by (repeat (first|exact qQ _|exact qT _ _|apply qU|apply List.sublist_append_of_sublist_right)))));refine vAz<|nSz<|vMz ?_;apply zS;rfl;rfl;infer_instance;exact .cons rfl .nil;intro w _;exact hOf w;refine vMz ?_;refine vEz ?_;refine vEz ?_;apply zU;rfl;intro _;apply zR;rfl;rfl;apply qA;apply op_wrW;rfl;refine vAz<|nSz<|vMz ?_;refine lvz (.eqT rfl rfl (by omega)) ?_;refine vMz<|gTz<|vMz<|gTz ?_;refine lvz (.neT rfl rfl (by omega)) ?_;refine pTz ?_;apply zS;rfl;rfl;infer_instance;exact .cons rfl .nil;intro w _;exact need_true w;refine nSz<|vMz ?_;apply zS;rfl;rfl;infer_instance;exact .cons rfl .nil;intro w _;exact hBs w;refine vMz ?_;refine vEz ?_;refine vEz ?_;refine vAz<|vAz<|nSz<|vMz<|vMz ?_;apply LW.lay1;rfl;infer_instance;infer_instance;rfl;rfl;rfl;rfl;rfl;rfl;intro _)
 rename_i b3 b39
 have hsp:spendM (ma0 f e0 e1 e2 e3) [3]=some ((ma0 f e0 e1 e2 e3).setGas (f.gas - 3)):=if_pos (by show 3+0≤f.gas;omega)
 refine LW.perm (fs':=(b,maO (ma0 f e0 e1 e2 e3))::(b39,.cells #[.int .u64 3] 26 (0,0))::(b3,.cells (opc (opX op)) 86 (0,0))::(gs++rest)) (List.perm_middle (l₁:=[_,_])).symm ?_
 refine LW.callP (K:=MaK b (ma0 f e0 e1 e2 e3) (spendM (ma0 f e0 e1 e2 e3) [3]) _) rfl rfl inferInstance (by (exact .cons rfl (.cons rfl .nil))) rfl (fun fs h=>by rw [hsp] at h;cases h.1) (fun w' hst=>spend_calls w0 S b _ [3] hgl _ _ w' hst (fun w2 h2=>row_cells (h2.own (b39,_) (List.Mem.tail _ (List.Mem.head _))).2 rfl rfl (by simp [maxLen]))) ?_ ?_
 rotate_left
 ·rintro ch fs' h
  rw [hsp] at h;cases h.1
 rintro v fs' h
 rw [hsp] at h
 obtain ⟨h,rfl⟩:=h
 cases h
 (refine nSz<|vMz<|vNz<|vFz<|vFz<|vFz<|ldz rfl .head hrdS<|lvz (.lenR rfl inferInstance rfl)<|vAz<|nSz<|vMz<|vFz<|ldz rfl (.tail (.tail .head)) op_rd2 ?_;refine lvz (.geqT rfl rfl (by omega)) ?_;refine vMz<|gTz<|vMz<|gTz<|vFz<|gTz<|ldz rfl (.tail (.tail .head)) op_rd2<|gTz ?_;refine lvz (.subZ rfl rfl (by omega) (by omega)) ?_;refine gTz<|vFz<|gTz<|ldz rfl (.tail (.tail .head)) op_rd3<|gTz ?_;refine lvz (.addZ rfl rfl (by omega)) ?_;refine gTz ?_;refine lvz (.leqT rfl rfl (by omega)) ?_;refine pTz ?_;apply zS;rfl;rfl;infer_instance;exact .cons rfl .nil;intro w _;exact need_true w;refine nNz<|zI ?_)
 apply CW.pre
 (refine AnyW.anyM [] 15 mixed (by decide +kernel) ?_)
 ((try simp only [tsOf_cons,tsOf_nil,tsOf_app]);refine dvz (.move rfl)<|dvz (.nilCheck rfl)<|dvz (.fieldAddr rfl rfl)<|dvz (.fieldAddr rfl rfl) ?_;apply qH;rfl;rfl;rfl;exact zC;rfl;apply zP;exact zN;exact hrdP;refine dvz (.addZL rfl rfl (by decide) (by omega)) ?_;refine dvz (.fieldAddr rfl rfl) ?_;apply qH;rfl;rfl;rfl;exact zC;rfl;apply zO;apply zO;apply zP;exact zN;exact op_rd4;refine dvz (.addZ rfl rfl (by omega)) ?_;refine dvz (.move rfl)<|dvz (.nilCheck rfl)<|dvz (.fieldAddr rfl rfl)<|dvz (.fieldAddr rfl rfl) ?_;apply qH;rfl;rfl;rfl;exact zC;rfl;apply zP;exact zN;exact hrdC;refine dvz (.lenR rfl inferInstance rfl) ?_;apply DW.nil;simp only [fsOf_cons,fsOf_nil,fsOf_app,fsOf_tsOf,fsOf_new])
 try simp only [fsOf_mark,fsOf_cons,fsOf_nil,fsOf_app,fsOf_tsOf,fsOf_new,fsOf_tag,List.append_eq,List.nil_append]
 (refine lvz (.minZ rfl rfl)<|vAz<|nNz<|zI<|sRz<|vMz<|vMz ?_)
 refine LW.perm (fs':=(b,maO ((ma0 f e0 e1 e2 e3).setGas (f.gas - 3)))::(gs++([(b39,.cells #[.int .u64 3] 26 (0,0)),(b3,.cells (opc (opX op)) 86 (0,0))]++rest))) (List.Perm.cons _ (List.perm_append_comm_assoc gs [_,_] rest)) ?_
 refine LW.callSt (K:=fun v fs'=>RowK b ((ma0 f e0 e1 e2 e3).setGas (f.gas - 3)) L (L.ws++[bev (dataC L.cl f.pc)]) ([(b39,.cells #[.int .u64 3] 26 (0,0)),(b3,.cells (opc (opX op)) 86 (0,0))]++rest) (.returned v) fs') rfl rfl inferInstance (by (exact .cons rfl (.cons rfl .nil))) (fun w' hst=>Calls.mono (row_push w0 S b ((ma0 f e0 e1 e2 e3).setGas (f.gas - 3)) L gs _ op h1 h2 hok hf hfr w' hst) fun x w'' ⟨fs',hk,hst⟩=>⟨.bool true,fs',hk.1,by { have h:=hk;rw [hk.1] at h;exact h },hst⟩) ?_
 rintro v fs' ⟨hv,s,k,gs',hfr',rfl⟩
 cases hv
 (refine nNz<|cTz<|sRz<|vMz<|vMz<|vNz<|vFz<|vFz ?_;apply zR;rfl;rfl;apply qA;apply ma_wr1 (z:=.int .i64 0);refine nNz<|zK<|thenR ?_)
 refine inPI (.inl rfl) .nil rfl .nil rfl ⟨_,⟨rfl,s,k,gs',hfr',rfl⟩,_,?_,.refl _⟩
 exact List.Sublist.cons_cons _ (List.Sublist.append_left (.cons _ (.cons _ (.refl _))) gs')
end
section
attribute [local irreducible] SL.inP SL.inD SL.outD
theorem tries_bound (w0:World) (S:List Nat) (f:FuncId) (first:Array Value) (K:Out) (hK:TryK K) (hF:FnI Tryz.prog f) (own rest:Fs) (w:World)
  (hc:∀ rest w',St w0 S (own++rest) w'→Calls Tryz.prog f first w' (fun x w''=>∃ fs',(∃ own',K x own'∧fs'=own'++rest)∧St w0 S fs' w'')) (hs:St w0 S (own++rest) w) :
  Calls Tryz.prog 41 #[.func (.func f) first #[]] w (fun x w'=>∃ fs',(∃ ok own',x=.returned (.bool ok)∧K (match ok with|true=>.returned (.tuple #[])|false=>.panicked failC) own'∧fs'=own'++rest)∧St w0 S fs' w'):=by
 refine calls_inlineD (args:=[_]) Tryz.func41 rfl Tryz.ntmps41 rfl ?_ hs
 (refine sRz ?_;apply LW.alloc1;rfl;rfl;intro _;refine nSz ?_;apply LW.v0;rfl;rfl;apply ValP.makeFunc;exact ArgsOk.nil;exact .cons rfl .nil)
 rename_i bok
 apply LW.defer
 rfl
 rfl
 (apply zV;refine thenM<|sRz<|vMz ?_)
 refine LW.perm (fs':=own++(bok,.cells #[.bool false] 4 (0,0))::rest) List.perm_middle ?_
 refine LW.callP (K:=fun x fs'=>∃ own',K x own'∧fs'=own'++(bok,.cells #[.bool false] 4 (0,0))::rest) rfl rfl hF (by (exact ArgsOk.nil)) (aas:=first.toList) (by simp) (fun fs ⟨own',h,_⟩=>by rcases hK _ _ h with h|h<;>cases h) (fun w' hst=>by simpa using hc _ w' hst) ?_ ?_
 ·rintro v fs' ⟨own',hKv,rfl⟩
  obtain rfl:v=.tuple #[]:=by
   rcases hK _ _ hKv with h|h
   ·exact Ending.returned.inj h
   ·cases h
  refine LW.perm (fs':=(bok,.cells #[.bool false] 4 (0,0))::(own'++rest)) List.perm_middle.symm ?_
  (refine nSz ?_;apply zR;rfl;rfl;apply qA;apply Wr.cells;rfl;rfl;simp only [wc,List.size_toArray,List.length_cons,List.length_nil];omega;simp only [fillC,wc,wrCells,Value.cells,qN,qK,qP,qO,Nat.reduceAdd,Nat.reduceMul,qR,Nat.mul_one];rfl;refine nNz<|zK ?_)
  refine outDI (.inl rfl) rfl fun a w2 s2=>?_
  refine leaves_clo (K:=fun e fs'=>e=.returned (.tuple #[])∧fs'=(bok,.cells #[.bool true] 4 (0,0))::(own'++rest)) inferInstance (fun h=>by cases h) (tries1_idle w0 S bok true (own'++rest) w2 s2.st) (fun fs h=>by cases h.1) ?_ ?_
  ·rintro v fs' w' ⟨_,rfl⟩ hst
   refine leaves_end (vs:=[.bool true]) (w:=w') rfl s2.env hst ?_ rfl ?_
   ·(apply zD;apply zH;rfl;apply qI;apply zY;exact Rd.one' rfl;exact zF)
   ·refine ⟨own'++rest,⟨true,own',rfl,hKv,rfl⟩,?_⟩
    exact ⟨hst.bel,fun p hp=>hst.own p (qS _ hp),(List.pairwise_cons.1 hst.nd).2⟩
  ·rintro ch fs' w' ⟨h,_⟩
   cases h
 ·rintro ch fs' ⟨own',hKv,rfl⟩
  obtain rfl:ch=failC:=by
   rcases hK _ _ hKv with h|h
   ·cases h
   ·exact Ending.panicked.inj h
  refine thenP ?_
  refine outDP rfl fun a w2 s2=>?_
  have s3:=s2.st.perm List.perm_middle.symm
  refine leaves_clo (K:=fun e fs'=>e=.returned (.tuple #[])∧∃ b2,fs'=b2::(bok,.cells #[.bool false] 4 (0,0))::(own'++rest)) inferInstance (fun h=>by cases h) (tries1_failed w0 S bok false (own'++rest) w2 s3) (fun fs h=>by cases h.1) ?_ ?_
  ·rintro v fs' w' ⟨_,b2,rfl⟩ hst
   refine leaves_end (vs:=[.bool false]) (w:=w') rfl s2.env hst ?_ rfl ?_
   ·(apply zD;apply zH;rfl;apply qI;apply zX;apply zY;exact Rd.one' rfl;exact zF)
   ·refine ⟨own'++rest,⟨false,own',rfl,hKv,rfl⟩,?_⟩
    exact ⟨hst.bel,fun p hp=>hst.own p (qS _ (qS _ hp)),(List.pairwise_cons.1 (List.pairwise_cons.1 hst.nd).2).2⟩
  ·rintro ch fs' w' ⟨h,_⟩
   cases h
def StepR (R:MaV→Fs→Prop) (v:Value) (gs:Fs):Prop:=∃ m,R m gs∧v=.tuple #[frv m.fr,.agg (aska m.kind m.op m.words m.data),.int .i64 0]
theorem aq_cells {kind:Int} {op:Nat} {u d:Value} (h:∃ p n c,u=.slice p n c) (h2:∃ p n c,d=.slice p n c):(aska kind op u d).toList.all Value.oneCell'=true:=by
 obtain ⟨p,n,c,rfl⟩:=h
 obtain ⟨p,n,c,rfl⟩:=h2
 rfl
theorem aq_wrW {P:Program} {T E:TypeId} {kind:Int} {op:Nat} {u d z:Value} {cs:Array Value} [InfoI P T 4 z] (h:cs.size=4) (h1:∃ p n c,u=.slice p n c) (h2:∃ p n c,d=.slice p n c):Wr P T (.cells cs E (0,0)) 0 (.agg (aska kind op u d)) (.cells (aska kind op u d) E (0,0)):=Wr.whole h rfl (aq_cells h1 h2)
theorem ma_rdA {P:Program} {T E:TypeId} {fr:Nat × Nat} {m:MaV} [AgI P T true] {z:Value} [InfoI P T 4 z]:Rd P T (.cells (mca m) E fr) 19 (.agg (aska m.kind m.op m.words m.data)):=Rd.mid (cs:=[.int .i64 m.kind,.int .u8 (m.op:Int),m.words,m.data]) rfl rfl
theorem Step_ok (f:FrV) (L:FrL) (e0 e1 e2 e3:Nat) (R:MaV→Fs→Prop) (hF:okF f L) (hR:∀ m gs,R m gs→FrSl m.fr∧(∃ p n c,m.words=.slice p n c)∧(∃ p n c,m.data=.slice p n c))
  (hstep:∀ (w0:World) (S:List Nat) (b:Nat) (c s m i b5:Value) (gs rest:Fs) (w':World),FrO (f.rows c s m i b5) L gs→St w0 S ((b,maO (ma0 (f.rows c s m i b5) e0 e1 e2 e3))::(gs++rest)) w' →
   Calls Tryz.prog 42 #[.pointer (some ⟨b,0,none⟩)] w' (fun x w''=>∃ fs',(x=.returned (.tuple #[])∧∃ m' gs',R m' gs'∧fs'=(b,maO m')::(gs'++rest))∧St w0 S fs' w''))
  (w:World) (h:FrRows w f L):Calls Tryz.prog 10 #[frv f,.agg (enva e0 e1 e2 e3)] w (RetG w [] (StepR R)):=by
 have hC:∀ w' {fs:Fs},St w [] fs w'→Calls Tryz.prog 34 #[frv f] w' (Ret w' (.int .i64 0)):=fun w' fs hst=>by
  have h0:=fCheck_calls f L w' (h.st hst)
  rwa [if_pos hF] at h0
 have hs1:=h.sl
 refine enter (args:=[_,_]) _ [] [] Tryz.func10 rfl Tryz.ntmps10 rfl (by simp) .nil ?_
 (refine sRz ?_;apply zT;rfl;rfl;intro _;apply zT;rfl;rfl;intro _;apply zU;rfl;intro _;apply zU;rfl;intro _;refine vAz<|nNz<|zI<|sRz<|ldz rfl (.tail (.tail (.tail .head))) fr_rdW ?_;apply zS;rfl;rfl;infer_instance;exact .cons rfl .nil;intro w _;exact hC w (by assumption);refine vAz<|nSz<|vMz ?_;refine lvz (.neF rfl rfl (by omega)) ?_;refine nNz<|cFz<|zJ<|thenN<|sRz<|ldz rfl (.tail (.tail (.tail .head))) fr_rdW<|ldz rfl (.tail (.tail .head)) (qJ rfl) ?_)
 refine LW.callR rfl rfl inferInstance (by (exact .cons rfl (.cons rfl .nil))) (fun w' hst=>fOf_calls f L e0 e1 e2 e3 hF.short w' (h.st hst)) ?_
 rintro v g ⟨bm,c,s,mm,i,b5x,g1,rfl,rfl,hfr⟩
 rename_i b2 b3 b4 b5
 (refine vAz<|nNz<|zI<|sRz<|vMz ?_;apply LW.v0;rfl;rfl;apply ValP.makeFunc;exact .cons rfl .nil;exact ArgsOk.nil)
 refine LW.callSt (K:=fun v fs'=>v=.bool true∧∃ m' gs',R m' gs'∧fs'=(bm,maO m')::(gs'++[(b5,.cells #[.int .i64 0,.int .u8 0,.slice none 0 0,.slice none 0 0] 37 (0,0)),(b4,.cells #[.slice none 0 0,.int .i64 0,.slice none 0 0,.slice none 0 0,.int .u64 0,.int .u64 0,.int .u64 0,.int .u64 0,.int .u64 0,.int .u64 0,.int .u64 0,.slice none 0 0,.slice none 0 0,.bool false] 31 (0,0)),(b3,.cells (enva e0 e1 e2 e3) 33 (0,0)),(b2,.cells (fra f) 31 (0,0))])) rfl rfl inferInstance (by (exact .cons rfl .nil)) (fun w' hst=>Calls.mono (tries_bound w [] 42 #[.pointer (some ⟨bm,0,none⟩)] (fun x fs'=>x=.returned (.tuple #[])∧∃ m' gs',R m' gs'∧fs'=(bm,maO m')::gs') (fun x fs' h=>.inl h.1) inferInstance ((bm,maO (ma0 (f.rows c s mm i b5x) e0 e1 e2 e3))::g1) [(b5,.cells #[.int .i64 0,.int .u8 0,.slice none 0 0,.slice none 0 0] 37 (0,0)),(b4,.cells #[.slice none 0 0,.int .i64 0,.slice none 0 0,.slice none 0 0,.int .u64 0,.int .u64 0,.int .u64 0,.int .u64 0,.int .u64 0,.int .u64 0,.int .u64 0,.slice none 0 0,.slice none 0 0,.bool false] 31 (0,0)),(b3,.cells (enva e0 e1 e2 e3) 33 (0,0)),(b2,.cells (fra f) 31 (0,0))] w' (fun rest w2 h2=>Calls.mono (hstep w [] bm c s mm i b5x g1 rest w2 hfr h2) fun x w3 ⟨fs',⟨h3,m',gs',h4,h5⟩,hst⟩=>⟨fs',⟨_,⟨h3,m',gs',h4,rfl⟩,h5⟩,hst⟩) hst) fun x w3 ⟨fs',⟨ok,own',h3,h4,h5⟩,hst⟩=>?_) ?_
 ·cases ok with
  |false=>obtain ⟨h6,_⟩:=h4;cases h6
  |true =>
   obtain ⟨_,m',gs',h7,h8⟩:=h4
   exact ⟨_,_,h3,⟨rfl,m',gs',h7,by rw [h5,h8];rfl⟩,hst⟩
 rintro _ _ ⟨rfl,m',gs',hRm,rfl⟩
 obtain ⟨hsf,hsw,hsd⟩:=hR _ _ hRm
 (refine lvz (.notT rfl (by with_reducible rfl)) ?_;refine nNz<|cFz<|zJ<|thenN<|zI ?_)
 apply CW.pre
 (refine AnyW.anyM [] 9 mixed (by decide +kernel) ?_)
 ((try simp only [tsOf_cons,tsOf_nil,tsOf_app]);refine dvz (.move rfl)<|dvz (.nilCheck rfl)<|dvz (.fieldAddr rfl rfl) ?_;apply qH;rfl;rfl;rfl;exact zC;rfl;apply zP;exact zN;exact ma_rdF;refine dvz (.move rfl)<|dvz (.nilCheck rfl)<|dvz (.fieldAddr rfl rfl) ?_;apply qH;rfl;rfl;rfl;exact zC;rfl;apply zP;exact zN;exact ma_rdA;apply DW.store;rfl;rfl;exact zC;rfl;rfl;apply TSet.tail;apply TSet.app;apply TSet.tail;apply TSet.head;exact zN;exact zN;apply fr_wrW;rfl;exact hsf;apply DW.nil;simp only [fsOf_cons,fsOf_nil,fsOf_app,fsOf_tsOf,fsOf_new])
 try simp only [fsOf_mark,fsOf_cons,fsOf_nil,fsOf_app,fsOf_tsOf,fsOf_new,fsOf_tag,List.append_eq,List.nil_append]
 (apply zR;rfl;rfl;apply qD;apply qE;apply qA;apply aq_wrW;rfl;exact hsw;exact hsd;refine vAz<|nNz<|zK ?_)
 trace_state
 exact fin (vs:=[frv m'.fr,.agg (aska m'.kind m'.op m'.words m'.data),.int .i64 0]) gs' (.inl rfl) rfl rfl (by (apply zD;apply zH;rfl;apply qI;apply zX;apply zZ;apply zX;apply zY;exact fr_rdW;apply zD;apply zH;rfl;apply qI;apply zX;apply zZ;apply zY;exact qJ rfl;apply zD;exact zG rfl;exact zF)) (qU _ (qT _ _)) ⟨m',hRm,rfl⟩
end
def halvesE:Array MapEntry:=#[⟨.int .u8 1,.func (.func 137) #[] #[],0⟩,⟨.int .u8 3,.func (.func 139) #[] #[],1⟩,⟨.int .u8 2,.func (.func 140) #[] #[],2⟩,⟨.int .u8 4,.func (.func 141) #[] #[],3⟩,⟨.int .u8 6,.func (.func 143) #[] #[],4⟩,⟨.int .u8 22,.func (.func 21) #[] #[],5⟩,⟨.int .u8 23,.func (.func 22) #[] #[],6⟩,⟨.int .u8 24,.func (.func 23) #[] #[],7⟩,⟨.int .u8 27,.func (.func 144) #[] #[],8⟩,⟨.int .u8 28,.func (.func 145) #[] #[],9⟩,⟨.int .u8 16,.func (.func 146) #[] #[],10⟩,⟨.int .u8 17,.func (.func 148) #[] #[],11⟩,⟨.int .u8 20,.func (.func 149) #[] #[],12⟩]
def halvesF (b:Nat):Option (Nat × FuncId):=if b=1 then some (0,137) else if b=3 then some (1,139) else if b=2 then some (2,140) else if b=4 then some (3,141) else if b=6 then some (4,143) else if b=22 then some (5,21) else if b=23 then some (6,22) else if b=24 then some (7,23) else if b=27 then some (8,144) else if b=28 then some (9,145) else if b=16 then some (10,146) else if b=17 then some (11,148) else if b=20 then some (12,149) else none
def halvesM (v:Value) (gs:Fs):Prop:=∃ b,v=.map (some b)∧gs=[(b,.map halvesE 13)]
theorem halves_calls (w:World):Calls Tryz.prog 96 #[] w (RetG w [] halvesM):=by
 refine enter (args:=[]) _ [] [] Tryz.func96 rfl Tryz.ntmps96 rfl (by simp) .nil ?_
 (refine sRz<|vAz<|nSz ?_;apply LW.makeMap;rfl;intro _;apply LW.mapIns;infer_instance;infer_instance;rfl;rfl;rfl;apply qA;rfl;rfl;apply LW.mapIns;infer_instance;infer_instance;rfl;rfl;rfl;apply qA;rfl;rfl;apply LW.mapIns;infer_instance;infer_instance;rfl;rfl;rfl;apply qA;rfl;rfl;apply LW.mapIns;infer_instance;infer_instance;rfl;rfl;rfl;apply qA;rfl;rfl;apply LW.mapIns;infer_instance;infer_instance;rfl;rfl;rfl;apply qA;rfl;rfl;apply LW.mapIns;infer_instance;infer_instance;rfl;rfl;rfl;apply qA;rfl;rfl;apply LW.mapIns;infer_instance;infer_instance;rfl;rfl;rfl;apply qA;rfl;rfl;apply LW.mapIns;infer_instance;infer_instance;rfl;rfl;rfl;apply qA;rfl;rfl;apply LW.mapIns;infer_instance;infer_instance;rfl;rfl;rfl;apply qA;rfl;rfl;apply LW.mapIns;infer_instance;infer_instance;rfl;rfl;rfl;apply qA;rfl;rfl;apply LW.mapIns;infer_instance;infer_instance;rfl;rfl;rfl;apply qA;rfl;rfl;apply LW.mapIns;infer_instance;infer_instance;rfl;rfl;rfl;apply qA;rfl;rfl;apply LW.mapIns;infer_instance;infer_instance;rfl;rfl;rfl;apply qA;rfl;rfl;refine vMz<|vAz<|nNz<|zK ?_)
 rename_i b
 exact fin (vs:=[.map (some b)]) [(b,.map halvesE 13)] (.inl rfl) rfl rfl (by (apply zD;exact zG rfl;exact zF)) (qQ _) ⟨b,rfl,rfl⟩
theorem halves_find (b:Nat):Instr.findNow (.int .u8) (.int .u8 (b:Int)) halvesE.toList 0=some ((halvesF b).map fun x=>(x.1,.func (.func x.2) #[] #[])):=by
 have hk:∀ (b k:Nat),¬ b=k→((b:Int) == (k:Int))=false:=fun b k h=>by
  rw [beq_eq_false_iff_ne]
  omega
 unfold halvesF
 by_cases h1:b=1
 ·subst h1;rfl
 rw [if_neg h1]
 by_cases h3:b=3
 ·subst h3;rfl
 rw [if_neg h3]
 by_cases h2:b=2
 ·subst h2;rfl
 rw [if_neg h2]
 by_cases h4:b=4
 ·subst h4;rfl
 rw [if_neg h4]
 by_cases h6:b=6
 ·subst h6;rfl
 rw [if_neg h6]
 by_cases h22:b=22
 ·subst h22;rfl
 rw [if_neg h22]
 by_cases h23:b=23
 ·subst h23;rfl
 rw [if_neg h23]
 by_cases h24:b=24
 ·subst h24;rfl
 rw [if_neg h24]
 by_cases h27:b=27
 ·subst h27;rfl
 rw [if_neg h27]
 by_cases h28:b=28
 ·subst h28;rfl
 rw [if_neg h28]
 by_cases h16:b=16
 ·subst h16;rfl
 rw [if_neg h16]
 by_cases h17:b=17
 ·subst h17;rfl
 rw [if_neg h17]
 by_cases h20:b=20
 ·subst h20;rfl
 rw [if_neg h20]
 simp only [halvesE,Instr.findNow,Instr.sameNow,if_true,Option.map_none,show ((b:Int) == 1)=false from hk b 1 h1,show ((b:Int) == 3)=false from hk b 3 h3,show ((b:Int) == 2)=false from hk b 2 h2,show ((b:Int) == 4)=false from hk b 4 h4,show ((b:Int) == 6)=false from hk b 6 h6,show ((b:Int) == 22)=false from hk b 22 h22,show ((b:Int) == 23)=false from hk b 23 h23,show ((b:Int) == 24)=false from hk b 24 h24,show ((b:Int) == 27)=false from hk b 27 h27,show ((b:Int) == 28)=false from hk b 28 h28,show ((b:Int) == 16)=false from hk b 16 h16,show ((b:Int) == 17)=false from hk b 17 h17,show ((b:Int) == 20)=false from hk b 20 h20,Bool.false_eq_true,if_false]
def saysE:Array MapEntry:=#[⟨.int .u8 48,.func (.func 150) #[] #[],0⟩,⟨.int .u8 51,.func (.func 151) #[] #[],1⟩,⟨.int .u8 50,.func (.func 152) #[] #[],2⟩,⟨.int .u8 66,.func (.func 153) #[] #[],3⟩,⟨.int .u8 67,.func (.func 154) #[] #[],4⟩,⟨.int .u8 72,.func (.func 155) #[] #[],5⟩,⟨.int .u8 54,.func (.func 156) #[] #[],6⟩,⟨.int .u8 61,.func (.func 157) #[] #[],7⟩,⟨.int .u8 90,.func (.func 158) #[] #[],8⟩]
def saysF (b:Nat):Option (Nat × FuncId):=if b=48 then some (0,150) else if b=51 then some (1,151) else if b=50 then some (2,152) else if b=66 then some (3,153) else if b=67 then some (4,154) else if b=72 then some (5,155) else if b=54 then some (6,156) else if b=61 then some (7,157) else if b=90 then some (8,158) else none
def saysM (v:Value) (gs:Fs):Prop:=∃ b,v=.map (some b)∧gs=[(b,.map saysE 9)]
theorem says_calls (w:World):Calls Tryz.prog 97 #[] w (RetG w [] saysM):=by
 refine enter (args:=[]) _ [] [] Tryz.func97 rfl Tryz.ntmps97 rfl (by simp) .nil ?_
 (refine sRz<|vAz<|nSz ?_;apply LW.makeMap;rfl;intro _;apply LW.mapIns;infer_instance;infer_instance;rfl;rfl;rfl;apply qA;rfl;rfl;apply LW.mapIns;infer_instance;infer_instance;rfl;rfl;rfl;apply qA;rfl;rfl;apply LW.mapIns;infer_instance;infer_instance;rfl;rfl;rfl;apply qA;rfl;rfl;apply LW.mapIns;infer_instance;infer_instance;rfl;rfl;rfl;apply qA;rfl;rfl;apply LW.mapIns;infer_instance;infer_instance;rfl;rfl;rfl;apply qA;rfl;rfl;apply LW.mapIns;infer_instance;infer_instance;rfl;rfl;rfl;apply qA;rfl;rfl;apply LW.mapIns;infer_instance;infer_instance;rfl;rfl;rfl;apply qA;rfl;rfl;apply LW.mapIns;infer_instance;infer_instance;rfl;rfl;rfl;apply qA;rfl;rfl;apply LW.mapIns;infer_instance;infer_instance;rfl;rfl;rfl;apply qA;rfl;rfl;refine vMz<|vAz<|nNz<|zK ?_)
 rename_i b
 exact fin (vs:=[.map (some b)]) [(b,.map saysE 9)] (.inl rfl) rfl rfl (by (apply zD;exact zG rfl;exact zF)) (qQ _) ⟨b,rfl,rfl⟩
theorem says_find (b:Nat):Instr.findNow (.int .u8) (.int .u8 (b:Int)) saysE.toList 0=some ((saysF b).map fun x=>(x.1,.func (.func x.2) #[] #[])):=by
 have hk:∀ (b k:Nat),¬ b=k→((b:Int) == (k:Int))=false:=fun b k h=>by
  rw [beq_eq_false_iff_ne]
  omega
 unfold saysF
 by_cases h48:b=48
 ·subst h48;rfl
 rw [if_neg h48]
 by_cases h51:b=51
 ·subst h51;rfl
 rw [if_neg h51]
 by_cases h50:b=50
 ·subst h50;rfl
 rw [if_neg h50]
 by_cases h66:b=66
 ·subst h66;rfl
 rw [if_neg h66]
 by_cases h67:b=67
 ·subst h67;rfl
 rw [if_neg h67]
 by_cases h72:b=72
 ·subst h72;rfl
 rw [if_neg h72]
 by_cases h54:b=54
 ·subst h54;rfl
 rw [if_neg h54]
 by_cases h61:b=61
 ·subst h61;rfl
 rw [if_neg h61]
 by_cases h90:b=90
 ·subst h90;rfl
 rw [if_neg h90]
 simp only [saysE,Instr.findNow,Instr.sameNow,if_true,Option.map_none,show ((b:Int) == 48)=false from hk b 48 h48,show ((b:Int) == 51)=false from hk b 51 h51,show ((b:Int) == 50)=false from hk b 50 h50,show ((b:Int) == 66)=false from hk b 66 h66,show ((b:Int) == 67)=false from hk b 67 h67,show ((b:Int) == 72)=false from hk b 72 h72,show ((b:Int) == 54)=false from hk b 54 h54,show ((b:Int) == 61)=false from hk b 61 h61,show ((b:Int) == 90)=false from hk b 90 h90,Bool.false_eq_true,if_false]
def doesE:Array MapEntry:=#[⟨.int .u8 21,.func (.func 159) #[] #[],0⟩,⟨.int .u8 25,.func (.func 160) #[] #[],1⟩,⟨.int .u8 52,.func (.func 161) #[] #[],2⟩,⟨.int .u8 53,.func (.func 162) #[] #[],3⟩,⟨.int .u8 55,.func (.func 163) #[] #[],4⟩,⟨.int .u8 62,.func (.func 164) #[] #[],5⟩,⟨.int .u8 81,.func (.func 165) #[] #[],6⟩,⟨.int .u8 82,.func (.func 166) #[] #[],7⟩,⟨.int .u8 83,.func (.func 167) #[] #[],8⟩,⟨.int .u8 32,.func (.func 168) #[] #[],9⟩,⟨.int .u8 86,.func (.func 169) #[] #[],10⟩,⟨.int .u8 87,.func (.func 170) #[] #[],11⟩,⟨.int .u8 49,.func (.func 171) #[] #[],12⟩,⟨.int .u8 71,.func (.func 171) #[] #[],13⟩,⟨.int .u8 84,.func (.func 171) #[] #[],14⟩,⟨.int .u8 92,.func (.func 171) #[] #[],15⟩,⟨.int .u8 85,.func (.func 172) #[] #[],16⟩,⟨.int .u8 93,.func (.func 172) #[] #[],17⟩,⟨.int .u8 241,.func (.func 173) #[] #[],18⟩,⟨.int .u8 244,.func (.func 173) #[] #[],19⟩,⟨.int .u8 250,.func (.func 173) #[] #[],20⟩,⟨.int .u8 245,.func (.func 173) #[] #[],21⟩,⟨.int .u8 0,.func (.func 174) #[] #[],22⟩,⟨.int .u8 243,.func (.func 175) #[] #[],23⟩,⟨.int .u8 253,.func (.func 175) #[] #[],24⟩]
def doesF (b:Nat):Option (Nat × FuncId):=if b=21 then some (0,159) else if b=25 then some (1,160) else if b=52 then some (2,161) else if b=53 then some (3,162) else if b=55 then some (4,163) else if b=62 then some (5,164) else if b=81 then some (6,165) else if b=82 then some (7,166) else if b=83 then some (8,167) else if b=32 then some (9,168) else if b=86 then some (10,169) else if b=87 then some (11,170) else if b=49 then some (12,171) else if b=71 then some (13,171) else if b=84 then some (14,171) else if b=92 then some (15,171) else if b=85 then some (16,172) else if b=93 then some (17,172) else if b=241 then some (18,173) else if b=244 then some (19,173) else if b=250 then some (20,173) else if b=245 then some (21,173) else if b=0 then some (22,174) else if b=243 then some (23,175) else if b=253 then some (24,175) else none
def doesM (v:Value) (gs:Fs):Prop:=∃ b,v=.map (some b)∧gs=[(b,.map doesE 25)]
theorem does_calls (w:World):Calls Tryz.prog 99 #[] w (RetG w [] doesM):=by
 refine enter (args:=[]) _ [] [] Tryz.func99 rfl Tryz.ntmps99 rfl (by simp) .nil ?_
 (refine sRz<|vAz<|nSz ?_;apply LW.makeMap;rfl;intro _;apply LW.mapIns;infer_instance;infer_instance;rfl;rfl;rfl;apply qA;rfl;rfl;apply LW.mapIns;infer_instance;infer_instance;rfl;rfl;rfl;apply qA;rfl;rfl;apply LW.mapIns;infer_instance;infer_instance;rfl;rfl;rfl;apply qA;rfl;rfl;apply LW.mapIns;infer_instance;infer_instance;rfl;rfl;rfl;apply qA;rfl;rfl;apply LW.mapIns;infer_instance;infer_instance;rfl;rfl;rfl;apply qA;rfl;rfl;apply LW.mapIns;infer_instance;infer_instance;rfl;rfl;rfl;apply qA;rfl;rfl;apply LW.mapIns;infer_instance;infer_instance;rfl;rfl;rfl;apply qA;rfl;rfl;apply LW.mapIns;infer_instance;infer_instance;rfl;rfl;rfl;apply qA;rfl;rfl;apply LW.mapIns;infer_instance;infer_instance;rfl;rfl;rfl;apply qA;rfl;rfl;apply LW.mapIns;infer_instance;infer_instance;rfl;rfl;rfl;apply qA;rfl;rfl;apply LW.mapIns;infer_instance;infer_instance;rfl;rfl;rfl;apply qA;rfl;rfl;apply LW.mapIns;infer_instance;infer_instance;rfl;rfl;rfl;apply qA;rfl;rfl;apply LW.mapIns;infer_instance;infer_instance;rfl;rfl;rfl;apply qA;rfl;rfl;apply LW.mapIns;infer_instance;infer_instance;rfl;rfl;rfl;apply qA;rfl;rfl;apply LW.mapIns;infer_instance;infer_instance;rfl;rfl;rfl;apply qA;rfl;rfl;apply LW.mapIns;infer_instance;infer_instance;rfl;rfl;rfl;apply qA;rfl;rfl;apply LW.mapIns;infer_instance;infer_instance;rfl;rfl;rfl;apply qA;rfl;rfl;apply LW.mapIns;infer_instance;infer_instance;rfl;rfl;rfl;apply qA;rfl;rfl;apply LW.mapIns;infer_instance;infer_instance;rfl;rfl;rfl;apply qA;rfl;rfl;apply LW.mapIns;infer_instance;infer_instance;rfl;rfl;rfl;apply qA;rfl;rfl;apply LW.mapIns;infer_instance;infer_instance;rfl;rfl;rfl;apply qA;rfl;rfl;apply LW.mapIns;infer_instance;infer_instance;rfl;rfl;rfl;apply qA;rfl;rfl;apply LW.mapIns;infer_instance;infer_instance;rfl;rfl;rfl;apply qA;rfl;rfl;apply LW.mapIns;infer_instance;infer_instance;rfl;rfl;rfl;apply qA;rfl;rfl;apply LW.mapIns;infer_instance;infer_instance;rfl;rfl;rfl;apply qA;rfl;rfl;refine vMz<|vAz<|nNz<|zK ?_)
 rename_i b
 exact fin (vs:=[.map (some b)]) [(b,.map doesE 25)] (.inl rfl) rfl rfl (by (apply zD;exact zG rfl;exact zF)) (qQ _) ⟨b,rfl,rfl⟩
theorem does_find (b:Nat):Instr.findNow (.int .u8) (.int .u8 (b:Int)) doesE.toList 0=some ((doesF b).map fun x=>(x.1,.func (.func x.2) #[] #[])):=by
 have hk:∀ (b k:Nat),¬ b=k→((b:Int) == (k:Int))=false:=fun b k h=>by
  rw [beq_eq_false_iff_ne]
  omega
 unfold doesF
 by_cases h21:b=21
 ·subst h21;rfl
 rw [if_neg h21]
 by_cases h25:b=25
 ·subst h25;rfl
 rw [if_neg h25]
 by_cases h52:b=52
 ·subst h52;rfl
 rw [if_neg h52]
 by_cases h53:b=53
 ·subst h53;rfl
 rw [if_neg h53]
 by_cases h55:b=55
 ·subst h55;rfl
 rw [if_neg h55]
 by_cases h62:b=62
 ·subst h62;rfl
 rw [if_neg h62]
 by_cases h81:b=81
 ·subst h81;rfl
 rw [if_neg h81]
 by_cases h82:b=82
 ·subst h82;rfl
 rw [if_neg h82]
 by_cases h83:b=83
 ·subst h83;rfl
 rw [if_neg h83]
 by_cases h32:b=32
 ·subst h32;rfl
 rw [if_neg h32]
 by_cases h86:b=86
 ·subst h86;rfl
 rw [if_neg h86]
 by_cases h87:b=87
 ·subst h87;rfl
 rw [if_neg h87]
 by_cases h49:b=49
 ·subst h49;rfl
 rw [if_neg h49]
 by_cases h71:b=71
 ·subst h71;rfl
 rw [if_neg h71]
 by_cases h84:b=84
 ·subst h84;rfl
 rw [if_neg h84]
 by_cases h92:b=92
 ·subst h92;rfl
 rw [if_neg h92]
 by_cases h85:b=85
 ·subst h85;rfl
 rw [if_neg h85]
 by_cases h93:b=93
 ·subst h93;rfl
 rw [if_neg h93]
 by_cases h241:b=241
 ·subst h241;rfl
 rw [if_neg h241]
 by_cases h244:b=244
 ·subst h244;rfl
 rw [if_neg h244]
 by_cases h250:b=250
 ·subst h250;rfl
 rw [if_neg h250]
 by_cases h245:b=245
 ·subst h245;rfl
 rw [if_neg h245]
 by_cases h0:b=0
 ·subst h0;rfl
 rw [if_neg h0]
 by_cases h243:b=243
 ·subst h243;rfl
 rw [if_neg h243]
 by_cases h253:b=253
 ·subst h253;rfl
 rw [if_neg h253]
 simp only [doesE,Instr.findNow,Instr.sameNow,if_true,Option.map_none,show ((b:Int) == 21)=false from hk b 21 h21,show ((b:Int) == 25)=false from hk b 25 h25,show ((b:Int) == 52)=false from hk b 52 h52,show ((b:Int) == 53)=false from hk b 53 h53,show ((b:Int) == 55)=false from hk b 55 h55,show ((b:Int) == 62)=false from hk b 62 h62,show ((b:Int) == 81)=false from hk b 81 h81,show ((b:Int) == 82)=false from hk b 82 h82,show ((b:Int) == 83)=false from hk b 83 h83,show ((b:Int) == 32)=false from hk b 32 h32,show ((b:Int) == 86)=false from hk b 86 h86,show ((b:Int) == 87)=false from hk b 87 h87,show ((b:Int) == 49)=false from hk b 49 h49,show ((b:Int) == 71)=false from hk b 71 h71,show ((b:Int) == 84)=false from hk b 84 h84,show ((b:Int) == 92)=false from hk b 92 h92,show ((b:Int) == 85)=false from hk b 85 h85,show ((b:Int) == 93)=false from hk b 93 h93,show ((b:Int) == 241)=false from hk b 241 h241,show ((b:Int) == 244)=false from hk b 244 h244,show ((b:Int) == 250)=false from hk b 250 h250,show ((b:Int) == 245)=false from hk b 245 h245,show ((b:Int) == 0)=false from hk b 0 h0,show ((b:Int) == 243)=false from hk b 243 h243,show ((b:Int) == 253)=false from hk b 253 h253,Bool.false_eq_true,if_false]
section
open CK (dataC)
def FrP (f:FrV) (L:FrL) (gs:Fs):Prop:=∃ g1 g2 g3 g4 g5,(g1++(g2++(g3++(g4++g5)))).Perm gs∧bM L.cl f.code g1∧wP L.ws f.stk g2∧bM L.ms f.mem g3∧bM L.il f.inp g4∧bM L.bl f.back g5
theorem FrP.sl {f:FrV} {L:FrL} {gs:Fs} (h:FrP f L gs):FrSl f:=by
 obtain ⟨g1,g2,g3,g4,g5,_,h1,h2,h3,h4,h5⟩:=h
 unfold bM at h1 h3 h4 h5
 obtain ⟨_,_,h1⟩:=h1.form
 obtain ⟨_,_,h2⟩:=h2.form
 obtain ⟨_,_,h3⟩:=h3.form
 obtain ⟨_,_,h4⟩:=h4.form
 obtain ⟨_,_,h5⟩:=h5.form
 exact ⟨⟨_,_,_,h1⟩,⟨_,_,_,h2⟩,⟨_,_,_,h3⟩,⟨_,_,_,h4⟩,⟨_,_,_,h5⟩⟩
theorem FrP.rows {f:FrV} {L:FrL} {gs:Fs} {w:World} (h:FrP f L gs) (hw:∀ p∈gs,w.heap[p.1]?=some p.2):FrRows w f L:=by
 obtain ⟨g1,g2,g3,g4,g5,hp,h1,h2,h3,h4,h5⟩:=h
 replace hw:∀ p∈g1++(g2++(g3++(g4++g5))),w.heap[p.1]?=some p.2:=fun p h=>hw p (hp.subset h)
 exact ⟨bM_at h1 fun p hp=>hw p (by simp [hp]),h2.at fun p hp=>hw p (by simp [hp]),bM_at h3 fun p hp=>hw p (by simp [hp]),bM_at h4 fun p hp=>hw p (by simp [hp]),bM_at h5 fun p hp=>hw p (by simp [hp])⟩
section wr
variable {P : Program} {T E : TypeId} {fr : Nat × Nat} {m : MaV}
def MaV.setTook (m:MaV) (t:Value):MaV:={ m with took:=t }
def MaV.setOp (m:MaV) (o:Nat):MaV:={ m with op:=o }
def MaV.setAsk (m:MaV) (k:Int) (o:Nat) (u d:Value):MaV:={ m with kind:=k,op:=o,words:=u,data:=d }
theorem ma_wr18 {z:Value} {p:Option Addr} {n c:Nat} [InfoI P T 1 z]:Wr P T (.cells (mca m) E (0,0)) 18 (.slice p n c) (.cells (mca (m.setTook (.slice p n c))) E (0,0)):=Wr.cells (n:=1) (z:=z) rfl rfl (by show 18+1≤23;omega) rfl
theorem ma_wr20 {z:Value} {o:Nat} [InfoI P T 1 z]:Wr P T (.cells (mca m) E (0,0)) 20 (.int .u8 (o:Int)) (.cells (mca (m.setOp o)) E (0,0)):=Wr.cells (n:=1) (z:=z) rfl rfl (by show 20+1≤23;omega) rfl
theorem ma_wr19 {z:Value} {k:Int} {o:Nat} {p1 p2:Option Addr} {n1 n2 c1 c2:Nat} [InfoI P T 4 z]:Wr P T (.cells (mca m) E (0,0)) 19 (.agg (aska k o (.slice p1 n1 c1) (.slice p2 n2 c2))) (.cells (mca (m.setAsk k o (.slice p1 n1 c1) (.slice p2 n2 c2))) E (0,0)):=Wr.cells (n:=4) (z:=z) rfl rfl (by show 19+4≤23;omega) rfl
theorem ma_rd18 [AgI P T false]:Rd P T (.cells (mca m) E fr) 18 m.took:=Rd.one rfl
theorem ma_rd20 [AgI P T false]:Rd P T (.cells (mca m) E fr) 20 (.int .u8 (m.op:Int)):=Rd.one rfl
theorem ma_rd19 [AgI P T false]:Rd P T (.cells (mca m) E fr) 19 (.int .i64 m.kind):=Rd.one rfl
end wr
attribute [local irreducible] SL.inP
theorem asks_calls (w0:World) (S:List Nat) (b:Nat) (m:MaV) (k:Int) (op:Nat) (rest:Fs) (ht:∃ p n c,m.took=.slice p n c) (w:World) (hs:St w0 S ((b,maO m)::rest) w) :
  Calls Tryz.prog 210 #[.pointer (some ⟨b,0,none⟩),.int .i64 k,.int .u8 (op:Int)] w (fun x w'=>∃ fs',(x=.returned (.tuple #[])∧fs'=(b,maO (m.setAsk k op m.took (.slice none 0 0)))::rest)∧St w0 S fs' w'):=by
 obtain ⟨fr,e0,e1,e2,e3,took,kind,aop,awords,adata⟩:=m
 obtain ⟨p,n,c,rfl⟩:=ht
 refine calls_anyO (calls_inlineP (K:=anyO fun x fs'=>x=.returned (.tuple #[])∧fs'=(b,maO (MaV.setAsk ⟨fr,e0,e1,e2,e3,.slice p n c,kind,aop,awords,adata⟩ k op (.slice p n c) (.slice none 0 0)))::rest) (args:=[_,_,_]) Tryz.func210 rfl Tryz.ntmps210 rfl ?_ hs)
 (refine zL<|vMz<|vMz<|vMz<|vMz<|vNz<|vFz<|ldz rfl .head ma_rd18 ?_;apply LW.v0;rfl;rfl;apply zW;infer_instance;infer_instance;apply zA;rfl;apply zA;rfl;apply zA;rfl;exact zB;rfl;simp only [fillP,wrCells,Value.cells,qL,qM,qN,qK,qP,qO,Nat.reduceAdd,qR];rfl;refine vNz<|vFz ?_;refine zR rfl rfl .head ma_wr19 ?_;apply zV)
 refine inPI (.inr rfl) .nil rfl .nil rfl ⟨_,⟨rfl,rfl⟩,_,qQ _,.refl _⟩
theorem state_calls (w0:World) (S:List Nat) (b:Nat) (m:MaV) (rest:Fs) (ht:∃ p n c,m.took=.slice p n c) (w:World) (hs:St w0 S ((b,maO m)::rest) w) :
  Calls Tryz.prog 171 #[.pointer (some ⟨b,0,none⟩)] w (fun x w'=>∃ fs',(x=.returned (.tuple #[])∧fs'=(b,maO (m.setAsk 1 m.op m.took (.slice none 0 0)))::rest)∧St w0 S fs' w'):=by
 refine calls_anyO (calls_inlineP (K:=anyO fun x fs'=>x=.returned (.tuple #[])∧fs'=(b,maO (m.setAsk 1 m.op m.took (.slice none 0 0)))::rest) (args:=[_]) Tryz.func171 rfl Tryz.ntmps171 rfl ?_ hs)
 (refine zL<|vMz<|vMz<|vNz<|vFz<|vFz<|ldz rfl .head ma_rd20 ?_)
 refine LW.callSt (K:=fun v fs'=>v=.tuple #[]∧fs'=(b,maO (m.setAsk 1 m.op m.took (.slice none 0 0)))::rest) rfl rfl inferInstance (by (exact .cons rfl (.cons rfl (.cons rfl .nil)))) (fun w' hst=>Calls.mono (asks_calls w0 S b m 1 m.op rest ht w' hst) fun x w'' ⟨fs',hk,hst⟩=>⟨_,fs',hk.1,⟨rfl,hk.2⟩,hst⟩) ?_
 rintro v fs' ⟨rfl,rfl⟩
 (apply zV)
 refine inPI (.inr rfl) .nil rfl .nil rfl ⟨_,⟨rfl,rfl⟩,_,qQ _,.refl _⟩
end
section
open CK (dataC)
attribute [local irreducible] SL.inP opOf opX gasB
theorem opF_lt (f:FrV) (L:FrL):opF f L < 256:=by
 unfold opF
 split
 ·omega
 ·exact UInt8.toNat_lt _
def StateM (f:FrV) (L:FrL) (e0 e1 e2 e3 op:Nat) (m:MaV) (gs:Fs):Prop:=∃ s k t gF gT,m=(((ma0 ((f.setR (f.gas - gasB op) s k).setPc ((min (f.pc.toNat+1+(opX op).dt) L.cl.length:Nat):Int)) e0 e1 e2 e3).setTook t).setAsk 1 op t (.slice none 0 0))∧FrP m.fr (L.setW (L.ws.take (L.ws.length - (opX op).tk))) gF∧wM (L.ws.drop (L.ws.length - (opX op).tk)).reverse t gT∧gs=gT++gF
theorem step_state (w0:World) (S:List Nat) (b:Nat) (f:FrV) (L:FrL) (e0 e1 e2 e3:Nat) (gs rest:Fs) (op i:Nat) (hF:okF f L) (hop:opF f L=op) (ho:(opOf op).isSome=true) (hi:op ≠ 254) (hr1:op < 96∨159 < op) (hd1:halvesF op=none) (hd2:saysF op=none) (hd3:doesF op=some (i,171)) (hg:gasB op≤f.gas) (ht:(opX op).tk≤L.ws.length) (hf:L.ws.length - (opX op).tk+(opX op).ly≤64) (hfr:FrO f L gs) (w:World) (hs:St w0 S ((b,maO (ma0 f e0 e1 e2 e3))::(gs++rest)) w) :
  Calls Tryz.prog 42 #[.pointer (some ⟨b,0,none⟩)] w (fun x w'=>∃ fs',(x=.returned (.tuple #[])∧∃ m' gs',StateM f L e0 e1 e2 e3 op m' gs'∧fs'=(b,maO m')::(gs'++rest))∧St w0 S fs' w'):=by
 obtain ⟨code,pc,stk,mem,gas,self,frm,val,inp,back,stat⟩:=f
 obtain ⟨g1,g2,g3,g4,g5,hp,r1,r2,r3,r4,r5⟩:=id hfr
 unfold bM at r1 r3
 unfold wM at r2
 dsimp only at r1 r2 r3
 obtain ⟨q1,k1,rfl⟩:=id r1.form
 obtain ⟨q2,k2,rfl⟩:=id r2.form
 obtain ⟨q3,k3,rfl⟩:=id r3.form
 obtain ⟨us2,hbl2,hin2,hrows2⟩:=rowU_own r2
 obtain ⟨us3,hbl3,hin3,hrows3⟩:=rowU_own r3
 replace hs:St w0 S ((b,maO (ma0 _ e0 e1 e2 e3))::(g1++(g2++(g3++(g4++g5)))++rest)) w:=hs.perm (List.Perm.cons _ (hp.append_right rest))
 obtain ⟨f,hfe⟩:∃ f:FrV,f=⟨.slice q1 L.cl.length k1,pc,.slice q2 L.ws.length k2,.slice q3 L.ms.length k3,gas,self,frm,val,inp,back,stat⟩:=⟨_,rfl⟩
 rw [← hfe] at hF hop hg hfr hs ⊢
 have hst1:f.code=.slice q1 L.cl.length k1:=by rw [hfe]
 have hst2:f.stk=.slice q2 L.ws.length k2:=by rw [hfe]
 have hst3:f.mem=.slice q3 L.ms.length k3:=by rw [hfe]
 have hgb5:f.inp=inp∧f.back=back:=by rw [hfe];exact ⟨rfl,rfl⟩
 clear hfe
 have hrdS:∀ {g E fr},Rd Tryz.prog 23 (.cells (mca ((ma0 f e0 e1 e2 e3).setGas g)) E fr) 2 (.slice q2 L.ws.length k2):=fun {g E fr}=>by rw [← hst2];exact ma_rd2s (m:=(ma0 f e0 e1 e2 e3).setGas g)
 have hrdC:∀ {g E fr},Rd Tryz.prog 22 (.cells (mca ((ma0 f e0 e1 e2 e3).setGas g)) E fr) 0 (.slice q1 L.cl.length k1):=fun {g E fr}=>by rw [← hst1];exact ma_rd0 (m:=(ma0 f e0 e1 e2 e3).setGas g)
 obtain ⟨pn,hpn⟩:∃ pn:Nat,f.pc=(pn:Int):=by
  rcases okF_pc hF with h|h
  ·exact ⟨_,h⟩
  ·exact ⟨f.pc.toNat,by omega⟩
 have hpl:pn≤L.cl.length:=by
  rcases okF_pc hF with h|h<;>omega
 have hcl2:L.cl.length≤200:=hF.2.2.1
 have hrdP:∀ {g E fr},Rd Tryz.prog 3 (.cells (mca ((ma0 f e0 e1 e2 e3).setGas g)) E fr) 1 (.int .i64 (pn:Int)):=fun {g E fr}=>by rw [← hpn];exact ma_rd1 (m:=(ma0 f e0 e1 e2 e3).setGas g)
 have hpt:f.pc.toNat=pn:=by rw [hpn];exact Int.toNat_natCast pn
 have hgl:f.gas < 18446744073709551616:=by have:=hF.1.2.2;omega
 have hok:okSc L.ws.length L.ms.length:=hF.2.2.2.1
 have hN:∀ w',(∀ q∈gs,w'.heap[q.1]?=some q.2)→Calls Tryz.prog 82 #[frv f] w' (Ret w' (.int .u8 (op:Int))):=fun w' h=>by
  have h:=next_calls f L (okF_pc hF) w' (hfr.us h)
  rwa [hop] at h
 have hN:∀ w',(∀ q∈g1++(g2++(g3++(g4++g5))),w'.heap[q.1]?=some q.2)→Calls Tryz.prog 82 #[frv f] w' (Ret w' (.int .u8 (op:Int))):=fun w' h=>hN w' fun q hq=>h q (hp.symm.subset hq)
 have hsl:=hfr.sl
 have hop2:op < 256:=by rw [← hop];exact opF_lt f L
 have o5:(opX op).dt≤32:=by rw [opX_dt];exact CK.szOf_le _
 obtain ⟨e,hOf,he⟩:=OfX_calls op (by omega) w
 rw [if_pos ho] at he
 subst he
 obtain ⟨G,hG⟩:∃ G,gasB op=G:=⟨_,rfl⟩
 have hBs:∀ w',Calls Tryz.prog 93 #[.int .u8 (op:Int)] w' (Ret w' (.tuple #[.int .u64 (G:Int),.int .i64 0])):=fun w'=>by
  have h:=Base_calls op (by omega) w'
  obtain ⟨y,hy⟩:=Option.isSome_iff_exists.1 ho
  rw [hy] at h
  rw [← hG]
  exact h
 have hGd:∀ m gs,(∃ s k t gF gT,m=(((ma0 ((f.setR (f.gas - G) s k).setPc ((min (pn+1+(opX op).dt) L.cl.length:Nat):Int)) e0 e1 e2 e3).setTook t).setAsk 1 op t (.slice none 0 0))∧FrP m.fr (L.setW (L.ws.take (L.ws.length - (opX op).tk))) gF∧wM (L.ws.drop (L.ws.length - (opX op).tk)).reverse t gT∧gs=gT++gF)→StateM f L e0 e1 e2 e3 op m gs:=fun m gs h=>by
  unfold StateM
  rw [hG,hpt]
  exact h
 rw [hG] at hg
 obtain ⟨X,hX⟩:∃ X,opX op=X:=⟨_,rfl⟩
 rw [hX] at ht hf o5 hGd hOf
 refine calls_anyO (calls_inlineP (K:=anyO fun x fs'=>x=.returned (.tuple #[])∧∃ m' gs',StateM f L e0 e1 e2 e3 op m' gs'∧fs'=(b,maO m')::(gs'++rest)) (args:=[_]) Tryz.func42 rfl Tryz.ntmps42 rfl ?_ hs)
 (refine sRz<|vMz<|vNz<|vFz<|ldz rfl .head ma_rdF ?_;apply zS;rfl;rfl;infer_instance;exact .cons rfl .nil;intro w _;rename_i hst;(exact hN w (st_ou hst (by (repeat (first|exact qQ _|exact qT _ _|apply qU|apply List.sublist_append_of_sublist_right)))));refine vAz<|nSz<|vMz ?_;apply zS;rfl;rfl;infer_instance;exact .cons rfl .nil;intro w _;exact hOf w;refine vMz ?_;refine vEz ?_;refine vEz ?_;apply zU;rfl;intro _;apply zR;rfl;rfl;apply qA;apply op_wrW;rfl;refine vAz<|nSz<|vMz ?_;refine lvz (.eqT rfl rfl (by omega)) ?_;refine vMz<|gTz<|vMz<|gTz ?_;refine lvz (.neT rfl rfl (by omega)) ?_;refine pTz ?_;apply zS;rfl;rfl;infer_instance;exact .cons rfl .nil;intro w _;exact need_true w;refine nSz<|vMz ?_;apply zS;rfl;rfl;infer_instance;exact .cons rfl .nil;intro w _;exact hBs w;refine vMz ?_;refine vEz ?_;refine vEz ?_;refine vAz<|vAz<|nSz<|vMz<|vMz ?_;apply LW.lay1;rfl;infer_instance;infer_instance;rfl;rfl;rfl;rfl;rfl;rfl;intro _)
 rename_i b3 b39
 have hsp:spendM (ma0 f e0 e1 e2 e3) [G]=some ((ma0 f e0 e1 e2 e3).setGas (f.gas - G)):=if_pos (by show G+0≤f.gas;omega)
 refine LW.perm (fs':=(b,maO (ma0 f e0 e1 e2 e3))::(b39,.cells #[.int .u64 (G:Int)] 26 (0,0))::(b3,.cells (opc X) 86 (0,0))::(g1++(g2++(g3++(g4++g5)))++rest)) (List.perm_middle (l₁:=[_,_])).symm ?_
 refine LW.callP (K:=MaK b (ma0 f e0 e1 e2 e3) (spendM (ma0 f e0 e1 e2 e3) [G]) _) rfl rfl inferInstance (by (exact .cons rfl (.cons rfl .nil))) rfl (fun fs h=>by rw [hsp] at h;cases h.1) (fun w' hst=>spend_calls w0 S b _ [G] hgl _ _ w' hst (fun w2 h2=>row_cells (h2.own (b39,_) (List.Mem.tail _ (List.Mem.head _))).2 rfl rfl (by simp [maxLen]))) ?_ ?_
 rotate_left
 ·rintro ch fs' h
  rw [hsp] at h;cases h.1
 rintro v fs' h
 rw [hsp] at h
 obtain ⟨h,rfl⟩:=h
 cases h
 (refine nSz<|vMz<|vNz<|vFz<|vFz<|vFz<|ldz rfl .head hrdS<|lvz (.lenR rfl inferInstance rfl)<|vAz<|nSz<|vMz<|vFz<|ldz rfl (.tail (.tail .head)) op_rd2 ?_;refine lvz (.geqT rfl rfl (by omega)) ?_;refine vMz<|gTz<|vMz<|gTz<|vFz<|gTz<|ldz rfl (.tail (.tail .head)) op_rd2<|gTz ?_;refine lvz (.subI rfl rfl (by omega) (by omega)) ?_;refine gTz<|vFz<|gTz<|ldz rfl (.tail (.tail .head)) op_rd3<|gTz ?_;refine lvz (.addI rfl rfl (by omega) (by omega)) ?_;refine gTz ?_;refine lvz (.leqT rfl rfl (by omega)) ?_;refine pTz ?_;apply zS;rfl;rfl;infer_instance;exact .cons rfl .nil;intro w _;exact need_true w;refine nNz<|zI ?_)
 apply CW.pre
 (refine AnyW.anyM [] 15 mixed (by decide +kernel) ?_)
 ((try simp only [tsOf_cons,tsOf_nil,tsOf_app]);refine dvz (.move rfl)<|dvz (.nilCheck rfl)<|dvz (.fieldAddr rfl rfl)<|dvz (.fieldAddr rfl rfl) ?_;apply qH;rfl;rfl;rfl;exact zC;rfl;apply zP;exact zN;exact hrdP;refine dvz (.addZL rfl rfl (by decide) (by omega)) ?_;refine dvz (.fieldAddr rfl rfl) ?_;apply qH;rfl;rfl;rfl;exact zC;rfl;apply zO;apply zO;apply zP;exact zN;exact op_rd4;refine dvz (.addZ rfl rfl (by omega)) ?_;refine dvz (.move rfl)<|dvz (.nilCheck rfl)<|dvz (.fieldAddr rfl rfl)<|dvz (.fieldAddr rfl rfl) ?_;apply qH;rfl;rfl;rfl;exact zC;rfl;apply zP;exact zN;exact hrdC;refine dvz (.lenR rfl inferInstance rfl) ?_;apply DW.nil;simp only [fsOf_cons,fsOf_nil,fsOf_app,fsOf_tsOf,fsOf_new])
 try simp only [fsOf_mark,fsOf_cons,fsOf_nil,fsOf_app,fsOf_tsOf,fsOf_new,fsOf_tag,List.append_eq,List.nil_append]
 (refine lvz (.minZ rfl rfl)<|vAz<|nNz<|zI<|sRz<|vMz<|vMz ?_)
 refine LW.callSt (K:=fun v fs'=>v=.bool false∧fs'=(b,maO ((ma0 f e0 e1 e2 e3).setGas (f.gas - G)))::(b39,.cells #[.int .u64 (G:Int)] 26 (0,0))::(b3,.cells (opc X) 86 (0,0))::(g1++(g2++(g3++(g4++g5)))++rest)) rfl rfl inferInstance (by (exact .cons rfl (.cons rfl .nil))) (fun w' hst=>Calls.mono (row_none w0 S b ((ma0 f e0 e1 e2 e3).setGas (f.gas - G)) _ op (by omega) (by omega) (by omega) ⟨_,_,_,hst2⟩ ⟨_,_,_,hst3⟩ w' hst) fun x w'' ⟨fs',hk,hst⟩=>⟨_,fs',hk.1,⟨rfl,hk.2⟩,hst⟩) ?_
 rintro _ _ ⟨rfl,rfl⟩
 (refine nNz<|cFz<|zJ<|thenN<|sRz<|vMz<|vMz<|vNz<|vFz<|vFz ?_;apply zR;rfl;rfl;apply qA;apply ma_wr1 (z:=.int .i64 0);refine nNz<|zI ?_)
 obtain ⟨m1,hm1⟩:∃ m1,(((ma0 f e0 e1 e2 e3).setGas (f.gas - G)).setF (((ma0 f e0 e1 e2 e3).setGas (f.gas - G)).fr.setPc ((min (pn+1+X.dt) L.cl.length:Nat):Int)))=m1:=⟨_,rfl⟩
 rw [hm1]
 have hs1:m1.fr.stk=.slice q2 L.ws.length k2:=by rw [← hm1];exact hst2
 have hs2:m1.fr.mem=.slice q3 L.ms.length k3:=by rw [← hm1];exact hst3
 have hrd2:∀ {E fr},Rd Tryz.prog 25 (.cells (mca m1) E fr) 2 (.agg #[.slice q2 L.ws.length k2,.slice q3 L.ms.length k3]):=fun {E fr}=>by rw [← hs1,← hs2];exact ma_rd2 (z:=.agg #[.slice none 0 0,.slice none 0 0])
 apply CW.pre
 (refine AnyW.anyM [(9,PopR L.ws L.ms X.tk)] 21 mixed (by decide +kernel) ?_)
 ((try simp only [tsOf_cons,tsOf_nil,tsOf_app]);refine dvz (.move rfl)<|dvz (.move rfl)<|dvz (.move rfl)<|dvz (.nilCheck rfl)<|dvz (.fieldAddr rfl rfl)<|dvz (.fieldAddr rfl rfl) ?_;apply qH;rfl;rfl;rfl;exact zC;rfl;apply zP;exact zN;exact hrd2;refine dvz (.fieldAddr rfl rfl) ?_;apply qH;rfl;rfl;rfl;exact zC;rfl;apply zO;apply zO;apply zP;exact zN;exact op_rd2)
 refine DW.manyA (us2++us3) rfl rfl rfl (by (exact zC)) rfl inferInstance (by (exact .cons rfl (.cons rfl .nil))) ?_ (fun p hp=>AncT.lie (by (refine AncT.cons ?_ ?_;exact zN;refine AncT.cons ?_ ?_;exact zN;refine AncT.cons ?_ ?_;exact zN;refine AncT.app ?_ ?_;refine AncT.app ?_ ?_;exact AncT.tsOf;refine AncT.app ?_ ?_;exact AncT.tsOf;refine AncT.app ?_ ?_;exact AncT.tsOf;refine AncT.app ?_ ?_;exact AncT.tsOf;exact AncT.tsOf;exact AncT.tsOf)) ?_) (fun w _ hu=>?_) ?_
 ·rw [List.flatMap_cons,List.flatMap_cons,List.map_append,← hbl2,← hbl3,← blocks_sl ⟨q2,_,k2,rfl⟩,← blocks_sl ⟨q3,_,k3,rfl⟩]
  show ((blocksN 3 _++(blocksN 3 _++[]))++[])=_
  simp only [List.append_nil]
 ·rcases List.mem_append.1 hp with hp|hp
  ·have hp:=hin2 p hp
   simp [fsOf,tsOf,tsNew,tsTag,markAll,Function.comp_def,hp]
  ·have hp:=hin3 p hp
   simp [fsOf,tsOf,tsNew,tsTag,markAll,Function.comp_def,hp]
 ·exact pop_calls L.ws L.ms X.tk _ _ ht w (hrows2 w fun q hq=>hu q (List.mem_append_left _ hq)) (hrows3 w fun q hq=>hu q (List.mem_append_right _ hq)) hok
 rintro vP gP ⟨s1,c1,t1,h1,h2,h3,rfl,rfl,hw1,hb1,ht1⟩
 have hb1':=hb1
 have ht1':=ht1
 unfold wM at ht1'
 unfold bM at hb1'
 obtain ⟨q5,k5,rfl⟩:=hw1.form
 obtain ⟨q6,k6,rfl⟩:=hb1'.form
 obtain ⟨q7,k7,rfl⟩:=ht1'.form
 (try simp only [markAll_cons,markAll_app,markAll_tsOf,markAll_tag,markAll_new,markAll_nil])
 ((try simp only [tsOf_cons,tsOf_nil,tsOf_app]);refine dvz (.move rfl) ?_;refine dvz (.extractN rfl rfl) ?_;refine dvz (.extractN rfl rfl) ?_;refine dvz (.extractN rfl rfl) ?_;refine dvz (.nilCheck rfl)<|dvz (.fieldAddr rfl rfl)<|dvz (.fieldAddr rfl rfl) ?_;apply DW.store;rfl;rfl;exact zC;rfl;rfl;apply TSet.app;apply TSet.head;exact zN;kernel_rfl;exact ma_wr2 rfl rfl rfl rfl;refine dvz (.nilCheck rfl)<|dvz (.fieldAddr rfl rfl) ?_;apply DW.store;rfl;rfl;exact zC;rfl;rfl;apply TSet.app;apply TSet.head;kernel_rfl;kernel_rfl;exact ma_wr18;apply DW.nil;simp only [fsOf_cons,fsOf_nil,fsOf_app,fsOf_tsOf,fsOf_new])
 try simp only [fsOf_mark,fsOf_cons,fsOf_nil,fsOf_app,fsOf_tsOf,fsOf_new,fsOf_tag,List.append_eq,List.nil_append]
 (refine nSz<|vMz<|vMz<|vNz<|vFz<|vFz ?_;refine zR rfl rfl (.app .head) ma_wr20<|nNz<|zI<|sRz ?_)
 have hL1:Instr.findNow (.int .u8) (.int .u8 (op:Int)) halvesE.toList 0=some none:=by rw [halves_find,hd1];rfl
 have hL2:Instr.findNow (.int .u8) (.int .u8 (op:Int)) saysE.toList 0=some none:=by rw [says_find,hd2];rfl
 have hL3:Instr.findNow (.int .u8) (.int .u8 (op:Int)) doesE.toList 0=some (some (i,.func (.func 171) #[] #[])):=by rw [does_find,hd3];rfl
 obtain ⟨m2,hm2⟩:∃ m2,(((m1.setSc (.slice q5 (List.take (L.ws.length - X.tk) L.ws).length k5) (.slice q6 L.ms.length k6)).setTook (.slice q7 (List.drop (L.ws.length - X.tk) L.ws).reverse.length k7)).setOp op)=m2:=⟨_,rfl⟩
 rw [hm2]
 have hm2t:m2.took=.slice q7 (List.drop (L.ws.length - X.tk) L.ws).reverse.length k7:=by rw [← hm2];rfl
 have hm2o:m2.op=op:=by rw [← hm2];rfl
 (apply LW.callR;rfl;rfl;infer_instance;exact ArgsOk.nil;intro w hs)
 exact halves_calls w
 rintro _ _ ⟨bh,rfl,rfl⟩
 simp only [List.cons_append,List.nil_append]
 (refine vMz ?_;apply LW.mapGet;rfl;infer_instance;infer_instance;infer_instance;rfl;rfl;apply qI;apply zY;rfl;assumption;rfl;refine vMz ?_;refine vEz ?_;refine vEz ?_;refine vAz<|vAz<|nSz<|vMz<|nNz<|cFz<|sRz ?_)
 (apply LW.callR;rfl;rfl;infer_instance;exact ArgsOk.nil;intro w hs)
 exact says_calls w
 rintro _ _ ⟨by1,rfl,rfl⟩
 simp only [List.cons_append,List.nil_append]
 (refine vMz ?_;apply LW.mapGet;rfl;infer_instance;infer_instance;infer_instance;rfl;rfl;apply qI;apply zY;rfl;assumption;rfl;refine vMz ?_;refine vEz ?_;refine vEz ?_;refine vAz<|vAz<|nSz<|vMz<|nNz<|cFz<|sRz ?_)
 (apply LW.callR;rfl;rfl;infer_instance;exact ArgsOk.nil;intro w hs)
 exact does_calls w
 rintro _ _ ⟨bd,rfl,rfl⟩
 simp only [List.cons_append,List.nil_append]
 (refine vMz ?_;apply LW.mapGet;rfl;infer_instance;infer_instance;infer_instance;rfl;rfl;apply qI;apply zY;rfl;assumption;rfl;refine vMz ?_;refine vEz ?_;refine vEz ?_;refine vAz<|vAz<|nSz<|vMz<|nNz<|cTz<|zL<|vMz<|vMz ?_)
 refine LW.perm (List.perm_middle (l₁:=_::_::_::(h3++(h2++h1)))).symm ?_
 refine LW.callSt (K:=fun v fs'=>v=.tuple #[]∧fs'=(b,maO (m2.setAsk 1 op m2.took (.slice none 0 0)))::_) rfl rfl inferInstance (by (exact .cons rfl .nil)) (fun w' hst=>Calls.mono (state_calls w0 S b m2 _ ⟨_,_,_,hm2t⟩ w' hst) fun x w'' ⟨fs',hk,hst⟩=>⟨_,fs',hk.1,⟨rfl,by rw [hk.2,hm2o]⟩,hst⟩) ?_
 rintro _ _ ⟨rfl,rfl⟩
 obtain ⟨m3,hm3⟩:∃ m3,m2.setAsk 1 op m2.took (.slice none 0 0)=m3:=⟨_,rfl⟩
 rw [hm3]
 have hk3:m3.kind=((1:Nat):Int):=by rw [← hm3];rfl
 have hrd19:∀ {E fr},Rd Tryz.prog 3 (.cells (mca m3) E fr) 19 (.int .i64 1):=fun {E fr}=>by rw [← show m3.kind=1 from hk3];exact ma_rd19
 (refine nSz<|vMz<|vNz<|vFz<|vFz<|ldz rfl .head hrd19 ?_;refine lvz (.eqF rfl rfl (by omega)) ?_;refine nNz<|cFz<|zJ ?_)
 have hcF:FrP m3.fr (L.setW (L.ws.take (L.ws.length - X.tk))) (g1++(h1++(h2++(g4++g5)))):=by
  have e1:m3.fr.code=f.code:=by rw [← hm3,← hm2,← hm1];rfl
  have e2:m3.fr.stk=.slice q5 (List.take (L.ws.length - X.tk) L.ws).length k5:=by rw [← hm3,← hm2];rfl
  have e3:m3.fr.mem=.slice q6 L.ms.length k6:=by rw [← hm3,← hm2];rfl
  have e4:m3.fr.inp=f.inp:=by rw [← hm3,← hm2,← hm1];rfl
  have e5:m3.fr.back=f.back:=by rw [← hm3,← hm2,← hm1];rfl
  refine ⟨g1,h1,h2,g4,g5,.refl _,?_,?_,?_,?_,?_⟩
  ·rw [e1,hst1];exact r1
  ·rw [e2];exact hw1
  ·rw [e3];exact hb1
  ·rw [e4,hgb5.1];exact r4
  ·rw [e5,hgb5.2];exact r5
 have hmE:m3=(((ma0 ((f.setR (f.gas - G) (.slice q5 (List.take (L.ws.length - X.tk) L.ws).length k5) (.slice q6 L.ms.length k6)).setPc ((min (pn+1+X.dt) L.cl.length:Nat):Int)) e0 e1 e2 e3).setTook (.slice q7 (List.drop (L.ws.length - X.tk) L.ws).reverse.length k7)).setAsk 1 op (.slice q7 (List.drop (L.ws.length - X.tk) L.ws).reverse.length k7) (.slice none 0 0)):=by
  rw [← hm3,← hm2,← hm1]
  rfl
 refine inPI (.inr rfl) .nil rfl .nil rfl ⟨_,⟨rfl,m3,h3++(g1++(h1++(h2++(g4++g5)))),hGd m3 _ ⟨_,_,_,_,_,hmE,hcF,ht1,rfl⟩,rfl⟩,?_⟩
 simp only [List.append_assoc,List.cons_append,List.nil_append]
 exact subp_ix [[_],[_],[_],[_],h3,h2,h1,[_],[_],g1,g2,g3,g4,g5] (xs:=[0,4,9,6,5,12,13]) (ys:=[0,1,2,3,4,5,6,7,8,9,10,11,12,13]) rest rfl
end
section
open CK (dataC)
attribute [local irreducible] SL.inP opOf opX gasB
def LaidM (f:FrV) (L:FrL) (e0 e1 e2 e3 op:Nat) (z:Nat) (m:MaV) (gs:Fs):Prop:=∃ s k t,m=(((ma0 ((f.setR (f.gas - gasB op) s k).setPc ((min (f.pc.toNat+1+(opX op).dt) L.cl.length:Nat):Int)) e0 e1 e2 e3).setTook t).setAsk 0 0 (.slice none 0 0) (.slice none 0 0))∧FrO m.fr (L.setW (L.ws.take (L.ws.length - (opX op).tk)++[z])) gs
theorem step_half (w0:World) (S:List Nat) (b:Nat) (f:FrV) (L:FrL) (e0 e1 e2 e3:Nat) (gs rest:Fs) (op i x y z:Nat) (fid:FuncId) (hFn:FnI Tryz.prog fid) (hz:∀ w',Calls Tryz.prog fid #[wv x,wv y] w' (Ret w' (wv z))) (hxy:(L.ws.drop (L.ws.length - 2)).reverse=[x,y]) (htk:(opX op).tk=2) (hly:(opX op).ly=1) (hF:okF f L) (hop:opF f L=op) (ho:(opOf op).isSome=true) (hi:op ≠ 254) (hr1:op < 96∨159 < op) (hd1:halvesF op=some (i,fid)) (hg:gasB op≤f.gas) (ht:(opX op).tk≤L.ws.length) (hf:L.ws.length - (opX op).tk+(opX op).ly≤64) (hfr:FrO f L gs) (w:World) (hs:St w0 S ((b,maO (ma0 f e0 e1 e2 e3))::(gs++rest)) w) :
  Calls Tryz.prog 42 #[.pointer (some ⟨b,0,none⟩)] w (fun x w'=>∃ fs',(x=.returned (.tuple #[])∧∃ m' gs',LaidM f L e0 e1 e2 e3 op z m' gs'∧fs'=(b,maO m')::(gs'++rest))∧St w0 S fs' w'):=by
 obtain ⟨code,pc,stk,mem,gas,self,frm,val,inp,back,stat⟩:=f
 obtain ⟨g1,g2,g3,g4,g5,hp,r1,r2,r3,r4,r5⟩:=id hfr
 unfold bM at r1 r3
 unfold wM at r2
 dsimp only at r1 r2 r3
 obtain ⟨q1,k1,rfl⟩:=id r1.form
 obtain ⟨q2,k2,rfl⟩:=id r2.form
 obtain ⟨q3,k3,rfl⟩:=id r3.form
 obtain ⟨us2,hbl2,hin2,hrows2⟩:=rowU_own r2
 obtain ⟨us3,hbl3,hin3,hrows3⟩:=rowU_own r3
 replace hs:St w0 S ((b,maO (ma0 _ e0 e1 e2 e3))::(g1++(g2++(g3++(g4++g5)))++rest)) w:=hs.perm (List.Perm.cons _ (hp.append_right rest))
 obtain ⟨f,hfe⟩:∃ f:FrV,f=⟨.slice q1 L.cl.length k1,pc,.slice q2 L.ws.length k2,.slice q3 L.ms.length k3,gas,self,frm,val,inp,back,stat⟩:=⟨_,rfl⟩
 rw [← hfe] at hF hop hg hfr hs ⊢
 have hst1:f.code=.slice q1 L.cl.length k1:=by rw [hfe]
 have hst2:f.stk=.slice q2 L.ws.length k2:=by rw [hfe]
 have hst3:f.mem=.slice q3 L.ms.length k3:=by rw [hfe]
 have hgb5:f.inp=inp∧f.back=back:=by rw [hfe];exact ⟨rfl,rfl⟩
 clear hfe
 have hrdS:∀ {g E fr},Rd Tryz.prog 23 (.cells (mca ((ma0 f e0 e1 e2 e3).setGas g)) E fr) 2 (.slice q2 L.ws.length k2):=fun {g E fr}=>by rw [← hst2];exact ma_rd2s (m:=(ma0 f e0 e1 e2 e3).setGas g)
 have hrdC:∀ {g E fr},Rd Tryz.prog 22 (.cells (mca ((ma0 f e0 e1 e2 e3).setGas g)) E fr) 0 (.slice q1 L.cl.length k1):=fun {g E fr}=>by rw [← hst1];exact ma_rd0 (m:=(ma0 f e0 e1 e2 e3).setGas g)
 obtain ⟨pn,hpn⟩:∃ pn:Nat,f.pc=(pn:Int):=by
  rcases okF_pc hF with h|h
  ·exact ⟨_,h⟩
  ·exact ⟨f.pc.toNat,by omega⟩
 have hpl:pn≤L.cl.length:=by
  rcases okF_pc hF with h|h<;>omega
 have hcl2:L.cl.length≤200:=hF.2.2.1
 have hrdP:∀ {g E fr},Rd Tryz.prog 3 (.cells (mca ((ma0 f e0 e1 e2 e3).setGas g)) E fr) 1 (.int .i64 (pn:Int)):=fun {g E fr}=>by rw [← hpn];exact ma_rd1 (m:=(ma0 f e0 e1 e2 e3).setGas g)
 have hpt:f.pc.toNat=pn:=by rw [hpn];exact Int.toNat_natCast pn
 have hgl:f.gas < 18446744073709551616:=by have:=hF.1.2.2;omega
 have hok:okSc L.ws.length L.ms.length:=hF.2.2.2.1
 have hN:∀ w',(∀ q∈gs,w'.heap[q.1]?=some q.2)→Calls Tryz.prog 82 #[frv f] w' (Ret w' (.int .u8 (op:Int))):=fun w' h=>by
  have h:=next_calls f L (okF_pc hF) w' (hfr.us h)
  rwa [hop] at h
 have hN:∀ w',(∀ q∈g1++(g2++(g3++(g4++g5))),w'.heap[q.1]?=some q.2)→Calls Tryz.prog 82 #[frv f] w' (Ret w' (.int .u8 (op:Int))):=fun w' h=>hN w' fun q hq=>h q (hp.symm.subset hq)
 have hsl:=hfr.sl
 have hop2:op < 256:=by rw [← hop];exact opF_lt f L
 have o5:(opX op).dt≤32:=by rw [opX_dt];exact CK.szOf_le _
 obtain ⟨e,hOf,he⟩:=OfX_calls op (by omega) w
 rw [if_pos ho] at he
 subst he
 obtain ⟨G,hG⟩:∃ G,gasB op=G:=⟨_,rfl⟩
 have hBs:∀ w',Calls Tryz.prog 93 #[.int .u8 (op:Int)] w' (Ret w' (.tuple #[.int .u64 (G:Int),.int .i64 0])):=fun w'=>by
  have h:=Base_calls op (by omega) w'
  obtain ⟨y,hy⟩:=Option.isSome_iff_exists.1 ho
  rw [hy] at h
  rw [← hG]
  exact h
 have hGd:∀ m gs,(∃ s k t,m=(((ma0 ((f.setR (f.gas - G) s k).setPc ((min (pn+1+(opX op).dt) L.cl.length:Nat):Int)) e0 e1 e2 e3).setTook t).setAsk 0 0 (.slice none 0 0) (.slice none 0 0))∧FrO m.fr (L.setW (L.ws.take (L.ws.length - (opX op).tk)++[z])) gs)→LaidM f L e0 e1 e2 e3 op z m gs:=fun m gs h=>by
  unfold LaidM
  rw [hG,hpt]
  exact h
 rw [hG] at hg
 obtain ⟨X,hX⟩:∃ X,opX op=X:=⟨_,rfl⟩
 rw [hX] at ht hf o5 hGd hOf htk hly
 refine calls_anyO (calls_inlineP (K:=anyO fun x fs'=>x=.returned (.tuple #[])∧∃ m' gs',LaidM f L e0 e1 e2 e3 op z m' gs'∧fs'=(b,maO m')::(gs'++rest)) (args:=[_]) Tryz.func42 rfl Tryz.ntmps42 rfl ?_ hs)
 (refine sRz<|vMz<|vNz<|vFz<|ldz rfl .head ma_rdF ?_;apply zS;rfl;rfl;infer_instance;exact .cons rfl .nil;intro w _;rename_i hst;(exact hN w (st_ou hst (by (repeat (first|exact qQ _|exact qT _ _|apply qU|apply List.sublist_append_of_sublist_right)))));refine vAz<|nSz<|vMz ?_;apply zS;rfl;rfl;infer_instance;exact .cons rfl .nil;intro w _;exact hOf w;refine vMz ?_;refine vEz ?_;refine vEz ?_;apply zU;rfl;intro _;apply zR;rfl;rfl;apply qA;apply op_wrW;rfl;refine vAz<|nSz<|vMz ?_;refine lvz (.eqT rfl rfl (by omega)) ?_;refine vMz<|gTz<|vMz<|gTz ?_;refine lvz (.neT rfl rfl (by omega)) ?_;refine pTz ?_;apply zS;rfl;rfl;infer_instance;exact .cons rfl .nil;intro w _;exact need_true w;refine nSz<|vMz ?_;apply zS;rfl;rfl;infer_instance;exact .cons rfl .nil;intro w _;exact hBs w;refine vMz ?_;refine vEz ?_;refine vEz ?_;refine vAz<|vAz<|nSz<|vMz<|vMz ?_;apply LW.lay1;rfl;infer_instance;infer_instance;rfl;rfl;rfl;rfl;rfl;rfl;intro _)
 rename_i b3 b39
 have hsp:spendM (ma0 f e0 e1 e2 e3) [G]=some ((ma0 f e0 e1 e2 e3).setGas (f.gas - G)):=if_pos (by show G+0≤f.gas;omega)
 refine LW.perm (fs':=(b,maO (ma0 f e0 e1 e2 e3))::(b39,.cells #[.int .u64 (G:Int)] 26 (0,0))::(b3,.cells (opc X) 86 (0,0))::(g1++(g2++(g3++(g4++g5)))++rest)) (List.perm_middle (l₁:=[_,_])).symm ?_
 refine LW.callP (K:=MaK b (ma0 f e0 e1 e2 e3) (spendM (ma0 f e0 e1 e2 e3) [G]) _) rfl rfl inferInstance (by (exact .cons rfl (.cons rfl .nil))) rfl (fun fs h=>by rw [hsp] at h;cases h.1) (fun w' hst=>spend_calls w0 S b _ [G] hgl _ _ w' hst (fun w2 h2=>row_cells (h2.own (b39,_) (List.Mem.tail _ (List.Mem.head _))).2 rfl rfl (by simp [maxLen]))) ?_ ?_
 rotate_left
 ·rintro ch fs' h
  rw [hsp] at h;cases h.1
 rintro v fs' h
 rw [hsp] at h
 obtain ⟨h,rfl⟩:=h
 cases h
 (refine nSz<|vMz<|vNz<|vFz<|vFz<|vFz<|ldz rfl .head hrdS<|lvz (.lenR rfl inferInstance rfl)<|vAz<|nSz<|vMz<|vFz<|ldz rfl (.tail (.tail .head)) op_rd2 ?_;refine lvz (.geqT rfl rfl (by omega)) ?_;refine vMz<|gTz<|vMz<|gTz<|vFz<|gTz<|ldz rfl (.tail (.tail .head)) op_rd2<|gTz ?_;refine lvz (.subZ rfl rfl (by omega) (by omega)) ?_;refine gTz<|vFz<|gTz<|ldz rfl (.tail (.tail .head)) op_rd3<|gTz ?_;refine lvz (.addZ rfl rfl (by omega)) ?_;refine gTz ?_;refine lvz (.leqT rfl rfl (by omega)) ?_;refine pTz ?_;apply zS;rfl;rfl;infer_instance;exact .cons rfl .nil;intro w _;exact need_true w;refine nNz<|zI ?_)
 apply CW.pre
 (refine AnyW.anyM [] 15 mixed (by decide +kernel) ?_)
 ((try simp only [tsOf_cons,tsOf_nil,tsOf_app]);refine dvz (.move rfl)<|dvz (.nilCheck rfl)<|dvz (.fieldAddr rfl rfl)<|dvz (.fieldAddr rfl rfl) ?_;apply qH;rfl;rfl;rfl;exact zC;rfl;apply zP;exact zN;exact hrdP;refine dvz (.addZL rfl rfl (by decide) (by omega)) ?_;refine dvz (.fieldAddr rfl rfl) ?_;apply qH;rfl;rfl;rfl;exact zC;rfl;apply zO;apply zO;apply zP;exact zN;exact op_rd4;refine dvz (.addZ rfl rfl (by omega)) ?_;refine dvz (.move rfl)<|dvz (.nilCheck rfl)<|dvz (.fieldAddr rfl rfl)<|dvz (.fieldAddr rfl rfl) ?_;apply qH;rfl;rfl;rfl;exact zC;rfl;apply zP;exact zN;exact hrdC;refine dvz (.lenR rfl inferInstance rfl) ?_;apply DW.nil;simp only [fsOf_cons,fsOf_nil,fsOf_app,fsOf_tsOf,fsOf_new])
 try simp only [fsOf_mark,fsOf_cons,fsOf_nil,fsOf_app,fsOf_tsOf,fsOf_new,fsOf_tag,List.append_eq,List.nil_append]
 (refine lvz (.minZ rfl rfl)<|vAz<|nNz<|zI<|sRz<|vMz<|vMz ?_)
 refine LW.callSt (K:=fun v fs'=>v=.bool false∧fs'=(b,maO ((ma0 f e0 e1 e2 e3).setGas (f.gas - G)))::(b39,.cells #[.int .u64 (G:Int)] 26 (0,0))::(b3,.cells (opc X) 86 (0,0))::(g1++(g2++(g3++(g4++g5)))++rest)) rfl rfl inferInstance (by (exact .cons rfl (.cons rfl .nil))) (fun w' hst=>Calls.mono (row_none w0 S b ((ma0 f e0 e1 e2 e3).setGas (f.gas - G)) _ op (by omega) (by omega) (by omega) ⟨_,_,_,hst2⟩ ⟨_,_,_,hst3⟩ w' hst) fun x w'' ⟨fs',hk,hst⟩=>⟨_,fs',hk.1,⟨rfl,hk.2⟩,hst⟩) ?_
 rintro _ _ ⟨rfl,rfl⟩
 (refine nNz<|cFz<|zJ<|thenN<|sRz<|vMz<|vMz<|vNz<|vFz<|vFz ?_;apply zR;rfl;rfl;apply qA;apply ma_wr1 (z:=.int .i64 0);refine nNz<|zI ?_)
 obtain ⟨m1,hm1⟩:∃ m1,(((ma0 f e0 e1 e2 e3).setGas (f.gas - G)).setF (((ma0 f e0 e1 e2 e3).setGas (f.gas - G)).fr.setPc ((min (pn+1+X.dt) L.cl.length:Nat):Int)))=m1:=⟨_,rfl⟩
 rw [hm1]
 have hs1:m1.fr.stk=.slice q2 L.ws.length k2:=by rw [← hm1];exact hst2
 have hs2:m1.fr.mem=.slice q3 L.ms.length k3:=by rw [← hm1];exact hst3
 have hrd2:∀ {E fr},Rd Tryz.prog 25 (.cells (mca m1) E fr) 2 (.agg #[.slice q2 L.ws.length k2,.slice q3 L.ms.length k3]):=fun {E fr}=>by rw [← hs1,← hs2];exact ma_rd2 (z:=.agg #[.slice none 0 0,.slice none 0 0])
 apply CW.pre
 (refine AnyW.anyM [(9,PopR L.ws L.ms X.tk)] 21 mixed (by decide +kernel) ?_)
 ((try simp only [tsOf_cons,tsOf_nil,tsOf_app]);refine dvz (.move rfl)<|dvz (.move rfl)<|dvz (.move rfl)<|dvz (.nilCheck rfl)<|dvz (.fieldAddr rfl rfl)<|dvz (.fieldAddr rfl rfl) ?_;apply qH;rfl;rfl;rfl;exact zC;rfl;apply zP;exact zN;exact hrd2;refine dvz (.fieldAddr rfl rfl) ?_;apply qH;rfl;rfl;rfl;exact zC;rfl;apply zO;apply zO;apply zP;exact zN;exact op_rd2)
 refine DW.manyA (us2++us3) rfl rfl rfl (by (exact zC)) rfl inferInstance (by (exact .cons rfl (.cons rfl .nil))) ?_ (fun p hp=>AncT.lie (by (refine AncT.cons ?_ ?_;exact zN;refine AncT.cons ?_ ?_;exact zN;refine AncT.cons ?_ ?_;exact zN;refine AncT.app ?_ ?_;refine AncT.app ?_ ?_;exact AncT.tsOf;refine AncT.app ?_ ?_;exact AncT.tsOf;refine AncT.app ?_ ?_;exact AncT.tsOf;refine AncT.app ?_ ?_;exact AncT.tsOf;exact AncT.tsOf;exact AncT.tsOf)) ?_) (fun w _ hu=>?_) ?_
 ·rw [List.flatMap_cons,List.flatMap_cons,List.map_append,← hbl2,← hbl3,← blocks_sl ⟨q2,_,k2,rfl⟩,← blocks_sl ⟨q3,_,k3,rfl⟩]
  show ((blocksN 3 _++(blocksN 3 _++[]))++[])=_
  simp only [List.append_nil]
 ·rcases List.mem_append.1 hp with hp|hp
  ·have hp:=hin2 p hp
   simp [fsOf,tsOf,tsNew,tsTag,markAll,Function.comp_def,hp]
  ·have hp:=hin3 p hp
   simp [fsOf,tsOf,tsNew,tsTag,markAll,Function.comp_def,hp]
 ·exact pop_calls L.ws L.ms X.tk _ _ ht w (hrows2 w fun q hq=>hu q (List.mem_append_left _ hq)) (hrows3 w fun q hq=>hu q (List.mem_append_right _ hq)) hok
 rintro vP gP ⟨s1,c1,t1,h1,h2,h3,rfl,rfl,hw1,hb1,ht1⟩
 have hb1':=hb1
 have ht1':=ht1
 unfold wM at ht1'
 unfold bM at hb1'
 obtain ⟨q5,k5,rfl⟩:=hw1.form
 obtain ⟨q6,k6,rfl⟩:=hb1'.form
 obtain ⟨q7,k7,rfl⟩:=ht1'.form
 (try simp only [markAll_cons,markAll_app,markAll_tsOf,markAll_tag,markAll_new,markAll_nil])
 ((try simp only [tsOf_cons,tsOf_nil,tsOf_app]);refine dvz (.move rfl) ?_;refine dvz (.extractN rfl rfl) ?_;refine dvz (.extractN rfl rfl) ?_;refine dvz (.extractN rfl rfl) ?_;refine dvz (.nilCheck rfl)<|dvz (.fieldAddr rfl rfl)<|dvz (.fieldAddr rfl rfl) ?_;apply DW.store;rfl;rfl;exact zC;rfl;rfl;apply TSet.app;apply TSet.head;exact zN;kernel_rfl;exact ma_wr2 rfl rfl rfl rfl;refine dvz (.nilCheck rfl)<|dvz (.fieldAddr rfl rfl) ?_;apply DW.store;rfl;rfl;exact zC;rfl;rfl;apply TSet.app;apply TSet.head;kernel_rfl;kernel_rfl;exact ma_wr18;apply DW.nil;simp only [fsOf_cons,fsOf_nil,fsOf_app,fsOf_tsOf,fsOf_new])
 try simp only [fsOf_mark,fsOf_cons,fsOf_nil,fsOf_app,fsOf_tsOf,fsOf_new,fsOf_tag,List.append_eq,List.nil_append]
 (refine nSz<|vMz<|vMz<|vNz<|vFz<|vFz ?_;refine zR rfl rfl (.app .head) ma_wr20<|nNz<|zI<|sRz ?_)
 have hL1:Instr.findNow (.int .u8) (.int .u8 (op:Int)) halvesE.toList 0=some (some (i,.func (.func fid) #[] #[])):=by rw [halves_find,hd1];rfl
 obtain ⟨m2,hm2⟩:∃ m2,(((m1.setSc (.slice q5 (List.take (L.ws.length - X.tk) L.ws).length k5) (.slice q6 L.ms.length k6)).setTook (.slice q7 (List.drop (L.ws.length - X.tk) L.ws).reverse.length k7)).setOp op)=m2:=⟨_,rfl⟩
 rw [hm2]
 have hm2t:m2.took=.slice q7 (List.drop (L.ws.length - X.tk) L.ws).reverse.length k7:=by rw [← hm2];rfl
 have hm2o:m2.op=op:=by rw [← hm2];rfl
 (apply LW.callR;rfl;rfl;infer_instance;exact ArgsOk.nil;intro w hs)
 exact halves_calls w
 rintro _ _ ⟨bh,rfl,rfl⟩
 simp only [List.cons_append,List.nil_append]
 (refine vMz ?_;apply LW.mapGet;rfl;infer_instance;infer_instance;infer_instance;rfl;rfl;apply qI;apply zY;rfl;assumption;rfl;refine vMz ?_;refine vEz ?_;refine vEz ?_;refine vAz<|vAz<|nSz<|vMz<|nNz<|cTz ?_)
 have hlen2:(List.drop (L.ws.length - X.tk) L.ws).reverse=[x,y]:=by rw [htk];exact hxy
 rw [hlen2] at hm2t
 have ht2:wM [x,y] (.slice q7 2 k7) h3:=by
  have h:=ht1
  rw [hlen2] at h
  exact h
 unfold wM at ht2
 obtain ⟨gt,cur,rfl,rfl,hn9,hm9,hsz9,htk9⟩:=ht2.pos (by show 0 < 2;omega)
 have hrdT:∀ {E fr},Rd Tryz.prog 23 (.cells (mca m2) E fr) 18 (.slice (some ⟨gt,0,none⟩) 2 k7):=fun {E fr}=>by rw [show Value.slice (some ⟨gt,0,none⟩) 2 k7=m2.took from hm2t.symm];exact ma_rd18
 have hrdX:Rd Tryz.prog 29 (.cells cur 29 (0,0)) (0+0 * 4) (wv x):=word_rd (l:=[x,y]) (by rw [List.drop_zero];exact htk9) 0 (by show 0 < 2;omega)
 have hrdY:Rd Tryz.prog 29 (.cells cur 29 (0,0)) (0+1 * 4) (wv y):=word_rd (l:=[x,y]) (by rw [List.drop_zero];exact htk9) 1 (by show 1 < 2;omega)
 apply CW.pre
 (refine AnyW.anyM [] 16 mixed (by decide +kernel) ?_)
 ((try simp only [tsOf_cons,tsOf_nil,tsOf_app]);refine dvz (.move rfl)<|dvz (.move rfl)<|dvz (.move rfl)<|dvz (.nilCheck rfl)<|dvz (.fieldAddr rfl rfl) ?_;apply qH;rfl;rfl;rfl;exact zC;rfl;apply zO;apply zO;apply zQ;apply zP;exact zN;exact hrdT;refine dvz (.indexAddrSL rfl rfl (by decide) (by omega)) ?_;apply qH;rfl;rfl;rfl;exact zC;rfl;apply zO;apply zP;exact zN;exact hrdX;refine dvz (.move rfl)<|dvz (.nilCheck rfl)<|dvz (.fieldAddr rfl rfl) ?_;apply qH;rfl;rfl;rfl;exact zC;rfl;apply zO;apply zO;apply zQ;apply zP;exact zN;exact hrdT;refine dvz (.indexAddrSL rfl rfl (by decide) (by omega)) ?_;apply qH;rfl;rfl;rfl;exact zC;rfl;apply zO;apply zP;exact zN;exact hrdY)
 refine DW.callA [] (v:=wv z) rfl rfl rfl (by (exact zC)) rfl hFn (by (exact .cons rfl (.cons rfl .nil))) rfl (fun p hp=>absurd hp List.not_mem_nil) (fun w _ hu=>hz w) ?_
 (try simp only [markAll_cons,markAll_app,markAll_tsOf,markAll_tag,markAll_new,markAll_nil])
 ((try simp only [tsOf_cons,tsOf_nil,tsOf_app]);apply DW.layA;rfl;rfl;rfl;exact zC;infer_instance;infer_instance;rfl;rfl;rfl;rfl;rfl;intro _;apply DW.nil;simp only [fsOf_cons,fsOf_nil,fsOf_app,fsOf_tsOf,fsOf_new])
 try simp only [fsOf_mark,fsOf_cons,fsOf_nil,fsOf_app,fsOf_tsOf,fsOf_new,fsOf_tag,List.append_eq,List.nil_append]
 skip
 rename_i bz
 obtain ⟨R,hR⟩:∃ R,((b39,Obj.cells #[.int .u64 (G:Int)] 26 (0,0))::(b3,Obj.cells (opc X) 86 (0,0))::(g1++(g2++(g3++(g4++g5)))++rest))=R:=⟨_,rfl⟩
 rw [hR]
 have hms:m2.fr.stk=.slice q5 (List.take (L.ws.length - X.tk) L.ws).length k5:=by rw [← hm2];rfl
 have hmm:m2.fr.mem=.slice q6 L.ms.length k6:=by rw [← hm2];rfl
 have hwl:(L.ws.take (L.ws.length - X.tk)).length=L.ws.length - X.tk:=by rw [List.length_take];omega
 have hok3:okSc (L.ws.take (L.ws.length - X.tk)).length L.ms.length:=by
  unfold okSc at hok ⊢
  rw [hwl]
  omega
 refine LW.perm (List.perm_middle (l₁:=(bz,.cells (wc z) 29 (0,0))::(bh,.map halvesE 13)::(gt,.cells cur 29 (0,0))::(h2++h1))).symm ?_
 refine LW.callSt (K:=fun v fs'=>v=.tuple #[]∧∃ s k gs c4,ScO (L.ws.take (L.ws.length - X.tk)++[z]) L.ms (.agg #[s,k]) gs∧fs'=c4::(gs++(b,maO (m2.setSc s k))::(((bz,.cells (wc z) 29 (0,0))::(bh,.map halvesE 13)::(gt,.cells cur 29 (0,0))::(h2++h1))++R))) rfl rfl inferInstance (by (exact .cons rfl (.cons rfl .nil))) (fun w' hst=>Calls.mono (lay_ok w0 S b m2 (L.ws.take (L.ws.length - X.tk)) L.ms [z] _ _ w' hst (fun w2 hw2=>⟨?_,?_,?_⟩) hok3 (by show 1≤100000;omega) (by rw [hwl];show _+1≤64;omega)) fun x w'' ⟨fs',hk,hst⟩=>⟨_,fs',hk.1,⟨rfl,hk.2⟩,hst⟩) ?_
 ·rw [hms]
  exact hw1.at fun p hp=>(hw2.own p (by simp [hp])).2
 ·rw [hmm]
  exact bM_at hb1 fun p hp=>(hw2.own p (by simp [hp])).2
 ·exact row_cells (hw2.own (bz,_) (List.Mem.tail _ (List.Mem.head _))).2 rfl rfl (by decide)
 rintro _ _ ⟨rfl,s9,k9,gs9,c4,⟨s',k',gg1,gg2,he,rfl,hw9,hb9⟩,rfl⟩
 cases he
 obtain ⟨m3,hm3⟩:∃ m3,m2.setSc s9 k9=m3:=⟨_,rfl⟩
 rw [hm3]
 have hk3:m3.kind=0:=by rw [← hm3,← hm2,← hm1];rfl
 have hrd19:∀ {E fr},Rd Tryz.prog 3 (.cells (mca m3) E fr) 19 (.int .i64 0):=fun {E fr}=>by rw [← hk3];exact ma_rd19
 (refine nSz<|vMz<|vNz<|vFz<|vFz<|ldz rfl (.tail (.app .head)) hrd19 ?_;refine lvz (.eqT rfl rfl (by omega)) ?_;refine nNz<|cTz<|zL<|vMz ?_;apply LW.v0;rfl;rfl;apply zW;infer_instance;infer_instance;exact zB;rfl;simp only [fillP,wrCells,Value.cells,qL,qM,qN,qK,qP,qO,Nat.reduceAdd,qR];rfl;refine vNz<|vFz ?_;refine zR rfl rfl (.tail (.app .head)) ma_wr19 ?_;apply zV)
 obtain ⟨m4,hm4⟩:∃ m4,m3.setAsk 0 0 (.slice none 0 0) (.slice none 0 0)=m4:=⟨_,rfl⟩
 rw [hm4]
 have hcF:FrO m4.fr (L.setW (L.ws.take (L.ws.length - X.tk)++[z])) (g1++(gg1++(gg2++(g4++g5)))):=by
  have e1:m4.fr.code=f.code:=by rw [← hm4,← hm3,← hm2,← hm1];rfl
  have e2:m4.fr.stk=s9:=by rw [← hm4,← hm3];rfl
  have e3:m4.fr.mem=k9:=by rw [← hm4,← hm3];rfl
  have e4:m4.fr.inp=f.inp:=by rw [← hm4,← hm3,← hm2,← hm1];rfl
  have e5:m4.fr.back=f.back:=by rw [← hm4,← hm3,← hm2,← hm1];rfl
  refine ⟨g1,gg1,gg2,g4,g5,.refl _,?_,?_,?_,?_,?_⟩
  ·rw [e1,hst1];exact r1
  ·rw [e2];exact hw9
  ·rw [e3];exact hb9
  ·rw [e4,hgb5.1];exact r4
  ·rw [e5,hgb5.2];exact r5
 have hmE:m4=(((ma0 ((f.setR (f.gas - G) s9 k9).setPc ((min (pn+1+X.dt) L.cl.length:Nat):Int)) e0 e1 e2 e3).setTook m2.took).setAsk 0 0 (.slice none 0 0) (.slice none 0 0)):=by
  rw [← hm4,← hm3,← hm2,← hm1]
  rfl
 refine inPI (.inr rfl) .nil rfl .nil rfl ⟨_,⟨rfl,m4,g1++(gg1++(gg2++(g4++g5))),hGd m4 _ ⟨_,_,_,hmE,hcF⟩,rfl⟩,?_⟩
 rw [← hR]
 simp only [List.append_assoc,List.cons_append,List.nil_append]
 exact subp_ix [[_],gg2,gg1,[_],[_],[_],[_],h2,h1,[_],[_],g1,g2,g3,g4,g5] (xs:=[3,11,2,1,14,15]) (ys:=[0,1,2,3,4,5,6,7,8,9,10,11,12,13,14,15]) rest rfl
end
section
theorem first1_calls (a:Nat) (t:Bool) (w:World):Calls Tryz.prog 138 #[wv a,.bool t] w (Ret w (wv a)):=by
 refine enter (args:=[_,_]) _ [] [] Tryz.func138 rfl Tryz.ntmps138 rfl (by simp) .nil ?_
 (refine sRz ?_;apply zT;rfl;rfl;intro _;apply LW.allocW;rfl;intro _;refine nSz<|ldz rfl (.tail .head) (qJ rfl) ?_;apply zR;rfl;rfl;apply qA;apply Wr.whole;rfl;rfl;rfl;refine nNz<|zK ?_)
 (apply finR;exact .inl rfl;rfl;rfl;rfl;apply zD;apply zH;rfl;apply qI;apply zY;exact qJ rfl;exact zF)
 rfl
theorem first2_calls (a b:Nat) (w:World):Calls Tryz.prog 142 #[wv a,wv b] w (Ret w (wv a)):=by
 refine enter (args:=[_,_]) _ [] [] Tryz.func142 rfl Tryz.ntmps142 rfl (by simp) .nil ?_
 (refine sRz ?_;apply zT;rfl;rfl;intro _;apply zT;rfl;rfl;intro _;apply LW.allocW;rfl;intro _;refine nSz<|ldz rfl (.tail (.tail .head)) (qJ rfl) ?_;apply zR;rfl;rfl;apply qA;apply Wr.whole;rfl;rfl;rfl;refine nNz<|zK ?_)
 (apply finR;exact .inl rfl;rfl;rfl;rfl;apply zD;apply zH;rfl;apply qI;apply zY;exact qJ rfl;exact zF)
 rfl
theorem truth_calls (t:Bool) (w:World):Calls Tryz.prog 147 #[.bool t] w (Ret w (wv (if t then 1 else 0))):=by
 refine enter (args:=[_]) _ [] [] Tryz.func147 rfl Tryz.ntmps147 rfl (by simp) .nil ?_
 cases t with
 |true =>
  (refine sRz ?_;apply LW.allocW;rfl;intro _;refine nNz<|zI<|sRz<|vMz<|nNz<|cTz<|sRz ?_;apply zS;rfl;rfl;infer_instance;exact .cons rfl .nil;intro w _;exact Of_calls 1 (by decide) w;apply zR;rfl;rfl;apply qA;apply Wr.whole;rfl;rfl;rfl;refine nNz<|zK<|thenR ?_)
  (apply finR;exact .inl rfl;rfl;rfl;rfl;apply zD;apply zH;rfl;apply qI;apply zY;exact qJ rfl;exact zF)
  rfl
 |false =>
  (refine sRz ?_;apply LW.allocW;rfl;intro _;refine nNz<|zI<|sRz<|vMz<|nNz<|cFz<|zJ<|thenN<|sRz ?_;apply zS;rfl;rfl;infer_instance;exact .cons rfl .nil;intro w _;exact Of_calls 0 (by decide) w;apply zR;rfl;rfl;apply qA;apply Wr.whole;rfl;rfl;rfl;refine nNz<|zK ?_)
  (apply finR;exact .inl rfl;rfl;rfl;rfl;apply zD;apply zH;rfl;apply qI;apply zY;exact qJ rfl;exact zF)
  rfl
def halfV (op a b:Nat):Nat :=
 if op=1 then (a+b) % M256 else if op=3 then (a+M256 - b) % M256 else if op=2 then a * b % M256 else if op=4 then (if b=0 then 0 else a / b) else if op=6 then (if b=0 then 0 else a % b) else if op=22 then a &&& b else if op=23 then a |||b else if op=24 then a ^^^ b else if op=27 then b * 2 ^ min a 256 % M256 else if op=28 then b / 2 ^ min a 256 else if op=16 then (if a < b then 1 else 0) else if op=17 then (if b < a then 1 else 0) else (if a=b then 1 else 0)
section
variable (a b : Nat) (ha : a < M256) (hb : b < M256) (w : World)
include ha hb
theorem half1_calls:Calls Tryz.prog 137 #[wv a,wv b] w (Ret w (wv ((a+b) % M256))):=by
 refine enter (args:=[_,_]) _ [] [] Tryz.func137 rfl Tryz.ntmps137 rfl (by simp) .nil ?_
 (refine sRz ?_;apply zT;rfl;rfl;intro _;apply zT;rfl;rfl;intro _;apply LW.allocW;rfl;intro _;refine nSz<|ldz rfl (.tail (.tail .head)) (qJ rfl)<|ldz rfl (.tail .head) (qJ rfl) ?_;apply zS;rfl;rfl;infer_instance;exact .cons rfl (.cons rfl .nil);intro w _;exact Add_calls a b ha hb w;refine vEz ?_;refine vEz ?_;apply zS;rfl;rfl;infer_instance;exact .cons rfl (.cons rfl .nil);intro w _;exact first1_calls _ _ w;apply zR;rfl;rfl;apply qA;apply Wr.whole;rfl;rfl;rfl;refine nNz<|zK ?_)
 (apply finR;exact .inl rfl;rfl;rfl;rfl;apply zD;apply zH;rfl;apply qI;apply zY;exact qJ rfl;exact zF)
 rfl
theorem half2_calls:Calls Tryz.prog 139 #[wv a,wv b] w (Ret w (wv ((a+M256 - b) % M256))):=by
 refine enter (args:=[_,_]) _ [] [] Tryz.func139 rfl Tryz.ntmps139 rfl (by simp) .nil ?_
 (refine sRz ?_;apply zT;rfl;rfl;intro _;apply zT;rfl;rfl;intro _;apply LW.allocW;rfl;intro _;refine nSz<|ldz rfl (.tail (.tail .head)) (qJ rfl)<|ldz rfl (.tail .head) (qJ rfl) ?_;apply zS;rfl;rfl;infer_instance;exact .cons rfl (.cons rfl .nil);intro w _;exact Sub_calls a b ha hb w;refine vEz ?_;refine vEz ?_;apply zS;rfl;rfl;infer_instance;exact .cons rfl (.cons rfl .nil);intro w _;exact first1_calls _ _ w;apply zR;rfl;rfl;apply qA;apply Wr.whole;rfl;rfl;rfl;refine nNz<|zK ?_)
 (apply finR;exact .inl rfl;rfl;rfl;rfl;apply zD;apply zH;rfl;apply qI;apply zY;exact qJ rfl;exact zF)
 rfl
theorem half3_calls:Calls Tryz.prog 140 #[wv a,wv b] w (Ret w (wv (a * b % M256))):=by
 refine enter (args:=[_,_]) _ [] [] Tryz.func140 rfl Tryz.ntmps140 rfl (by simp) .nil ?_
 (refine sRz ?_;apply zT;rfl;rfl;intro _;apply zT;rfl;rfl;intro _;apply LW.allocW;rfl;intro _;refine nSz<|ldz rfl (.tail (.tail .head)) (qJ rfl)<|ldz rfl (.tail .head) (qJ rfl) ?_;apply zS;rfl;rfl;infer_instance;exact .cons rfl (.cons rfl .nil);intro w _;exact Mul_calls a b ha hb w;refine vEz ?_;refine vEz ?_;apply zS;rfl;rfl;infer_instance;exact .cons rfl (.cons rfl .nil);intro w _;exact first1_calls _ _ w;apply zR;rfl;rfl;apply qA;apply Wr.whole;rfl;rfl;rfl;refine nNz<|zK ?_)
 (apply finR;exact .inl rfl;rfl;rfl;rfl;apply zD;apply zH;rfl;apply qI;apply zY;exact qJ rfl;exact zF)
 rfl
theorem half4_calls:Calls Tryz.prog 141 #[wv a,wv b] w (Ret w (wv (if b=0 then 0 else a / b))):=by
 have hD:∀ w,Calls Tryz.prog 20 #[wv a,wv b] w (Ret w (.tuple #[wv (if b=0 then 0 else a / b),wv (if b=0 then 0 else a % b)])):=fun w=>by
  by_cases h0:b=0
  ·subst h0;exact Div_calls0 a w
  ·rw [if_neg h0,if_neg h0];exact Div_calls a b ha hb h0 w
 refine enter (args:=[_,_]) _ [] [] Tryz.func141 rfl Tryz.ntmps141 rfl (by simp) .nil ?_
 (refine sRz ?_;apply zT;rfl;rfl;intro _;apply zT;rfl;rfl;intro _;apply LW.allocW;rfl;intro _;refine nSz<|ldz rfl (.tail (.tail .head)) (qJ rfl)<|ldz rfl (.tail .head) (qJ rfl) ?_;apply zS;rfl;rfl;infer_instance;exact .cons rfl (.cons rfl .nil);intro w _;exact hD w;refine vEz ?_;refine vEz ?_;apply zS;rfl;rfl;infer_instance;exact .cons rfl (.cons rfl .nil);intro w _;exact first2_calls _ _ w;apply zR;rfl;rfl;apply qA;apply Wr.whole;rfl;rfl;rfl;refine nNz<|zK ?_)
 (apply finR;exact .inl rfl;rfl;rfl;rfl;apply zD;apply zH;rfl;apply qI;apply zY;exact qJ rfl;exact zF)
 rfl
theorem half5_calls:Calls Tryz.prog 143 #[wv a,wv b] w (Ret w (wv (if b=0 then 0 else a % b))):=by
 have hD:∀ w,Calls Tryz.prog 20 #[wv a,wv b] w (Ret w (.tuple #[wv (if b=0 then 0 else a / b),wv (if b=0 then 0 else a % b)])):=fun w=>by
  by_cases h0:b=0
  ·subst h0;exact Div_calls0 a w
  ·rw [if_neg h0,if_neg h0];exact Div_calls a b ha hb h0 w
 refine enter (args:=[_,_]) _ [] [] Tryz.func143 rfl Tryz.ntmps143 rfl (by simp) .nil ?_
 (refine sRz ?_;apply zT;rfl;rfl;intro _;apply zT;rfl;rfl;intro _;apply LW.allocW;rfl;intro _;refine nSz<|ldz rfl (.tail (.tail .head)) (qJ rfl)<|ldz rfl (.tail .head) (qJ rfl) ?_;apply zS;rfl;rfl;infer_instance;exact .cons rfl (.cons rfl .nil);intro w _;exact hD w;refine vMz ?_;refine vEz ?_;refine vEz ?_;apply LW.allocW;rfl;intro _;apply LW.allocW;rfl;intro _;apply zR;rfl;rfl;apply qD;apply qA;apply Wr.whole;rfl;rfl;rfl;apply zR;rfl;rfl;apply qA;apply Wr.whole;rfl;rfl;rfl;refine nSz<|ldz rfl .head (qJ rfl) ?_;apply zR;rfl;rfl;apply qD;apply qD;apply qA;apply Wr.whole;rfl;rfl;rfl;refine nNz<|zK ?_)
 (apply finR;exact .inl rfl;rfl;rfl;rfl;apply zD;apply zH;rfl;apply qI;apply zX;apply zX;apply zY;exact qJ rfl;exact zF)
 rfl
theorem half6_calls:Calls Tryz.prog 144 #[wv a,wv b] w (Ret w (wv (b * 2 ^ min a 256 % M256))):=by
 refine enter (args:=[_,_]) _ [] [] Tryz.func144 rfl Tryz.ntmps144 rfl (by simp) .nil ?_
 (refine sRz ?_;apply zT;rfl;rfl;intro _;apply zT;rfl;rfl;intro _;apply LW.allocW;rfl;intro _;refine nSz<|ldz rfl (.tail .head) (qJ rfl)<|ldz rfl (.tail (.tail .head)) (qJ rfl) ?_;apply zS;rfl;rfl;infer_instance;exact .cons rfl (.cons rfl .nil);intro w _;exact Shl_calls b a hb ha w;apply zR;rfl;rfl;apply qA;apply Wr.whole;rfl;rfl;rfl;refine nNz<|zK ?_)
 (apply finR;exact .inl rfl;rfl;rfl;rfl;apply zD;apply zH;rfl;apply qI;apply zY;exact qJ rfl;exact zF)
 rfl
theorem half7_calls:Calls Tryz.prog 145 #[wv a,wv b] w (Ret w (wv (b / 2 ^ min a 256))):=by
 refine enter (args:=[_,_]) _ [] [] Tryz.func145 rfl Tryz.ntmps145 rfl (by simp) .nil ?_
 (refine sRz ?_;apply zT;rfl;rfl;intro _;apply zT;rfl;rfl;intro _;apply LW.allocW;rfl;intro _;refine nSz<|ldz rfl (.tail .head) (qJ rfl)<|ldz rfl (.tail (.tail .head)) (qJ rfl) ?_;apply zS;rfl;rfl;infer_instance;exact .cons rfl (.cons rfl .nil);intro w _;exact Shr_calls b a hb ha w;apply zR;rfl;rfl;apply qA;apply Wr.whole;rfl;rfl;rfl;refine nNz<|zK ?_)
 (apply finR;exact .inl rfl;rfl;rfl;rfl;apply zD;apply zH;rfl;apply qI;apply zY;exact qJ rfl;exact zF)
 rfl
theorem half8_calls:Calls Tryz.prog 146 #[wv a,wv b] w (Ret w (wv (if a < b then 1 else 0))):=by
 refine enter (args:=[_,_]) _ [] [] Tryz.func146 rfl Tryz.ntmps146 rfl (by simp) .nil ?_
 (refine sRz ?_;apply zT;rfl;rfl;intro _;apply zT;rfl;rfl;intro _;apply LW.allocW;rfl;intro _;refine nSz<|ldz rfl (.tail (.tail .head)) (qJ rfl)<|ldz rfl (.tail .head) (qJ rfl) ?_;apply zS;rfl;rfl;infer_instance;exact .cons rfl (.cons rfl .nil);intro w _;exact Cmp_calls a b ha hb w;refine lvz (.lss rfl rfl) ?_;apply zS;rfl;rfl;infer_instance;exact .cons rfl .nil;intro w _;exact truth_calls _ w;apply zR;rfl;rfl;apply qA;apply Wr.whole;rfl;rfl;rfl;refine nNz<|zK ?_)
 (apply finR;exact .inl rfl;rfl;rfl;rfl;apply zD;apply zH;rfl;apply qI;apply zY;exact qJ rfl;exact zF)
 refine congrArg wv ?_
 by_cases h1:a < b<;>by_cases h2:b < a<;>simp [h1,h2]
theorem half9_calls:Calls Tryz.prog 148 #[wv a,wv b] w (Ret w (wv (if b < a then 1 else 0))):=by
 refine enter (args:=[_,_]) _ [] [] Tryz.func148 rfl Tryz.ntmps148 rfl (by simp) .nil ?_
 (refine sRz ?_;apply zT;rfl;rfl;intro _;apply zT;rfl;rfl;intro _;apply LW.allocW;rfl;intro _;refine nSz<|ldz rfl (.tail (.tail .head)) (qJ rfl)<|ldz rfl (.tail .head) (qJ rfl) ?_;apply zS;rfl;rfl;infer_instance;exact .cons rfl (.cons rfl .nil);intro w _;exact Cmp_calls a b ha hb w;refine lvz (.gtr rfl rfl) ?_;apply zS;rfl;rfl;infer_instance;exact .cons rfl .nil;intro w _;exact truth_calls _ w;apply zR;rfl;rfl;apply qA;apply Wr.whole;rfl;rfl;rfl;refine nNz<|zK ?_)
 (apply finR;exact .inl rfl;rfl;rfl;rfl;apply zD;apply zH;rfl;apply qI;apply zY;exact qJ rfl;exact zF)
 refine congrArg wv ?_
 by_cases h1:a < b<;>by_cases h2:b < a<;>simp [h1,h2]<;>omega
theorem half10_calls:Calls Tryz.prog 149 #[wv a,wv b] w (Ret w (wv (if a=b then 1 else 0))):=by
 refine enter (args:=[_,_]) _ [] [] Tryz.func149 rfl Tryz.ntmps149 rfl (by simp) .nil ?_
 (refine sRz ?_;apply zT;rfl;rfl;intro _;apply zT;rfl;rfl;intro _;apply LW.allocW;rfl;intro _;refine nSz<|ldz rfl (.tail (.tail .head)) (qJ rfl)<|ldz rfl (.tail .head) (qJ rfl) ?_;refine lvz (.eqW rfl rfl (by assumption) (by assumption)) ?_;apply zS;rfl;rfl;infer_instance;exact .cons rfl .nil;intro w _;exact truth_calls _ w;apply zR;rfl;rfl;apply qA;apply Wr.whole;rfl;rfl;rfl;refine nNz<|zK ?_)
 (apply finR;exact .inl rfl;rfl;rfl;rfl;apply zD;apply zH;rfl;apply qI;apply zY;exact qJ rfl;exact zF)
 refine congrArg wv ?_
 by_cases h1:a=b<;>simp [h1]
theorem halfs_calls {op i:Nat} {fid:FuncId} (h:halvesF op=some (i,fid)):FnI Tryz.prog fid∧∀ w,Calls Tryz.prog fid #[wv a,wv b] w (Ret w (wv (halfV op a b))):=by
 unfold halvesF at h
 unfold halfV
 by_cases h1:op=1
 ·rw [if_pos h1] at h;rw [if_pos h1]
  obtain ⟨-,rfl⟩:=Prod.mk.inj (Option.some.inj h)
  exact ⟨inferInstance,fun w=>half1_calls a b ha hb w⟩
 rw [if_neg h1] at h
 rw [if_neg h1]
 by_cases h3:op=3
 ·rw [if_pos h3] at h;rw [if_pos h3]
  obtain ⟨-,rfl⟩:=Prod.mk.inj (Option.some.inj h)
  exact ⟨inferInstance,fun w=>half2_calls a b ha hb w⟩
 rw [if_neg h3] at h
 rw [if_neg h3]
 by_cases h2:op=2
 ·rw [if_pos h2] at h;rw [if_pos h2]
  obtain ⟨-,rfl⟩:=Prod.mk.inj (Option.some.inj h)
  exact ⟨inferInstance,fun w=>half3_calls a b ha hb w⟩
 rw [if_neg h2] at h
 rw [if_neg h2]
 by_cases h4:op=4
 ·rw [if_pos h4] at h;rw [if_pos h4]
  obtain ⟨-,rfl⟩:=Prod.mk.inj (Option.some.inj h)
  exact ⟨inferInstance,fun w=>half4_calls a b ha hb w⟩
 rw [if_neg h4] at h
 rw [if_neg h4]
 by_cases h6:op=6
 ·rw [if_pos h6] at h;rw [if_pos h6]
  obtain ⟨-,rfl⟩:=Prod.mk.inj (Option.some.inj h)
  exact ⟨inferInstance,fun w=>half5_calls a b ha hb w⟩
 rw [if_neg h6] at h
 rw [if_neg h6]
 by_cases h22:op=22
 ·rw [if_pos h22] at h;rw [if_pos h22]
  obtain ⟨-,rfl⟩:=Prod.mk.inj (Option.some.inj h)
  exact ⟨inferInstance,fun w=>And_calls a b w⟩
 rw [if_neg h22] at h
 rw [if_neg h22]
 by_cases h23:op=23
 ·rw [if_pos h23] at h;rw [if_pos h23]
  obtain ⟨-,rfl⟩:=Prod.mk.inj (Option.some.inj h)
  exact ⟨inferInstance,fun w=>Or_calls a b w⟩
 rw [if_neg h23] at h
 rw [if_neg h23]
 by_cases h24:op=24
 ·rw [if_pos h24] at h;rw [if_pos h24]
  obtain ⟨-,rfl⟩:=Prod.mk.inj (Option.some.inj h)
  exact ⟨inferInstance,fun w=>Xor_calls a b w⟩
 rw [if_neg h24] at h
 rw [if_neg h24]
 by_cases h27:op=27
 ·rw [if_pos h27] at h;rw [if_pos h27]
  obtain ⟨-,rfl⟩:=Prod.mk.inj (Option.some.inj h)
  exact ⟨inferInstance,fun w=>half6_calls a b ha hb w⟩
 rw [if_neg h27] at h
 rw [if_neg h27]
 by_cases h28:op=28
 ·rw [if_pos h28] at h;rw [if_pos h28]
  obtain ⟨-,rfl⟩:=Prod.mk.inj (Option.some.inj h)
  exact ⟨inferInstance,fun w=>half7_calls a b ha hb w⟩
 rw [if_neg h28] at h
 rw [if_neg h28]
 by_cases h16:op=16
 ·rw [if_pos h16] at h;rw [if_pos h16]
  obtain ⟨-,rfl⟩:=Prod.mk.inj (Option.some.inj h)
  exact ⟨inferInstance,fun w=>half8_calls a b ha hb w⟩
 rw [if_neg h16] at h
 rw [if_neg h16]
 by_cases h17:op=17
 ·rw [if_pos h17] at h;rw [if_pos h17]
  obtain ⟨-,rfl⟩:=Prod.mk.inj (Option.some.inj h)
  exact ⟨inferInstance,fun w=>half9_calls a b ha hb w⟩
 rw [if_neg h17] at h
 rw [if_neg h17]
 by_cases h20:op=20
 ·rw [if_pos h20] at h
  obtain ⟨-,rfl⟩:=Prod.mk.inj (Option.some.inj h)
  exact ⟨inferInstance,fun w=>half10_calls a b ha hb w⟩
 rw [if_neg h20] at h
 cases h
end
theorem halfV_lt (op a b:Nat) (ha:a < M256) (hb:b < M256):halfV op a b < M256:=by
 have h0:0 < M256:=by decide
 have hM1:1 < M256:=by decide
 have hM:M256=2 ^ 256:=by decide
 unfold halfV
 by_cases h1:op=1
 ·rw [if_pos h1]
  exact Nat.mod_lt _ h0
 rw [if_neg h1]
 by_cases h3:op=3
 ·rw [if_pos h3]
  exact Nat.mod_lt _ h0
 rw [if_neg h3]
 by_cases h2:op=2
 ·rw [if_pos h2]
  exact Nat.mod_lt _ h0
 rw [if_neg h2]
 by_cases h4:op=4
 ·rw [if_pos h4]
  by_cases hb0:b=0<;>simp only [hb0,if_true,if_false]
  ·exact h0
  ·exact Nat.lt_of_le_of_lt (Nat.div_le_self _ _) ha
 rw [if_neg h4]
 by_cases h6:op=6
 ·rw [if_pos h6]
  by_cases hb0:b=0<;>simp only [hb0,if_true,if_false]
  ·exact h0
  ·exact Nat.lt_of_le_of_lt (Nat.mod_le _ _) ha
 rw [if_neg h6]
 by_cases h22:op=22
 ·rw [if_pos h22]
  exact Nat.lt_of_le_of_lt Nat.and_le_left ha
 rw [if_neg h22]
 by_cases h23:op=23
 ·rw [if_pos h23]
  rw [hM] at ha hb ⊢;exact Nat.or_lt_two_pow ha hb
 rw [if_neg h23]
 by_cases h24:op=24
 ·rw [if_pos h24]
  rw [hM] at ha hb ⊢;exact Nat.xor_lt_two_pow ha hb
 rw [if_neg h24]
 by_cases h27:op=27
 ·rw [if_pos h27]
  exact Nat.mod_lt _ h0
 rw [if_neg h27]
 by_cases h28:op=28
 ·rw [if_pos h28]
  exact Nat.lt_of_le_of_lt (Nat.div_le_self _ _) hb
 rw [if_neg h28]
 by_cases h16:op=16
 ·rw [if_pos h16]
  by_cases c:a < b
  ·rw [if_pos c];exact hM1
  ·rw [if_neg c];exact h0
 rw [if_neg h16]
 by_cases h17:op=17
 ·rw [if_pos h17]
  by_cases c:b < a
  ·rw [if_pos c];exact hM1
  ·rw [if_neg c];exact h0
 rw [if_neg h17]
 by_cases c:a=b
 ·rw [if_pos c];exact hM1
 ·rw [if_neg c];exact h0
end
end Go.Proofs.YtdeggbkbblfpoaaGreatDoor
namespace Go.Proofs.YtdeggbkbblfpoaaGreatDoor
open Go Go.RowKit SL
open CK (dataC readB)
theorem SL.RetG.to {w w':World} {S:List Nat} {Φ Ψ:Value→Fs→Prop} {e:Ending} (h:RetG w S Φ e w') (f:∀ v gs,Φ v gs→Ψ v gs):RetG w S Ψ e w':=by
 obtain ⟨v,gs,h1,h2,h3⟩:=h
 exact ⟨v,gs,h1,f v gs h2,h3⟩
set_option maxRecDepth 8000
set_option maxHeartbeats 4000000
set_option linter.unusedSimpArgs false
set_option linter.unusedVariables false
attribute [local irreducible] SL.CW SL.LW SL.DW Calls SL.Ret SL.RetG SL.beginQ SL.roundQ SL.rangeQ SL.inQ SL.RW SL.AnyW SL.thenQ SL.thenC SL.thenW SL.blkQ SL.finQ SL.ValP SL.NewP SL.SetP SL.CallP SL.Rd SL.Wr SL.Known
def wkCode:List UInt8:=[96,2,96,5,3,96,7,84]
def wkPc (k:Nat):Int:=match k with
 |0=>0
 |1=>2
 |2=>4
 |3=>5
 |4=>7
 |_=>8
def wkGas (k:Nat):Nat:=match k with
 |0=>300
 |1=>297
 |2=>294
 |3=>291
 |4=>288
 |_=>288
def wkWs (k:Nat):List Nat:=match k with
 |0=>[]
 |1=>[2]
 |2=>[2,5]
 |3=>[3]
 |4=>[3,7]
 |_=>[3]
def wkV (k:Nat) (c s m i b:Value):FrV:=⟨c,wkPc k,s,m,wkGas k,20,0,0,i,b,false⟩
def wkL4 (k:Nat):FrL:=⟨wkCode,wkWs k,[],[],[]⟩
def WkR (k:Nat) (v:Value) (gs:Fs):Prop:=∃ c s m i b,v=.tuple #[frv (wkV k c s m i b),.agg (aska 0 0 (.slice none 0 0) (.slice none 0 0)),.int .i64 0]∧FrO (wkV k c s m i b) (wkL4 k) gs
def WkS (v:Value) (gs:Fs):Prop:=∃ c s m i b t gF gT,v=.tuple #[frv (wkV 5 c s m i b),.agg (aska 1 84 t (.slice none 0 0)),.int .i64 0]∧FrP (wkV 5 c s m i b) (wkL4 5) gF∧wM [7] t gT∧gs=gT++gF
def WkM (k:Nat) (m:MaV) (gs:Fs):Prop:=∃ c s k' i b,m.fr=wkV k c s k' i b∧m.kind=0∧m.op=0∧m.words=.slice none 0 0∧m.data=.slice none 0 0∧FrO m.fr (wkL4 k) gs
theorem WkM.sl {k:Nat} {m:MaV} {gs:Fs} (h:WkM k m gs):FrSl m.fr∧(∃ p n c,m.words=.slice p n c)∧(∃ p n c,m.data=.slice p n c):=by
 obtain ⟨c,s,k',i,b,_,_,_,hw,hd,hf⟩:=h
 exact ⟨hf.sl,⟨_,_,_,hw⟩,⟨_,_,_,hd⟩⟩
theorem WkM.to {k:Nat} {v:Value} {gs:Fs} (h:StepR (WkM k) v gs):WkR k v gs:=by
 obtain ⟨m,⟨c,s,k',i,b,h1,h2,h3,h4,h5,h6⟩,rfl⟩:=h
 rw [h1] at h6 ⊢
 rw [h2,h3,h4,h5]
 exact ⟨c,s,k',i,b,rfl,h6⟩
theorem wk_ok0 (c s m i b:Value):okF (wkV 0 c s m i b) (wkL4 0):=⟨⟨by decide,by decide,by show wkGas 0≤20000;decide⟩,by show ¬ 20=0;decide,by decide,by decide,.inr (by kernel_rfl)⟩
theorem wk_ok1 (c s m i b:Value):okF (wkV 1 c s m i b) (wkL4 1):=⟨⟨by decide,by decide,by show wkGas 1≤20000;decide⟩,by show ¬ 20=0;decide,by decide,by decide,.inr (by kernel_rfl)⟩
theorem wk_ok2 (c s m i b:Value):okF (wkV 2 c s m i b) (wkL4 2):=⟨⟨by decide,by decide,by show wkGas 2≤20000;decide⟩,by show ¬ 20=0;decide,by decide,by decide,.inr (by kernel_rfl)⟩
theorem wk_ok3 (c s m i b:Value):okF (wkV 3 c s m i b) (wkL4 3):=⟨⟨by decide,by decide,by show wkGas 3≤20000;decide⟩,by show ¬ 20=0;decide,by decide,by decide,.inr (by kernel_rfl)⟩
theorem wk_ok4 (c s m i b:Value):okF (wkV 4 c s m i b) (wkL4 4):=⟨⟨by decide,by decide,by show wkGas 4≤20000;decide⟩,by show ¬ 20=0;decide,by decide,by decide,.inr (by kernel_rfl)⟩
theorem wk_ok5 (c s m i b:Value):okF (wkV 5 c s m i b) (wkL4 5):=⟨⟨by decide,by decide,by show wkGas 5≤20000;decide⟩,by show ¬ 20=0;decide,by decide,by decide,.inl (by rfl)⟩
theorem wk_op0 (c s m i b:Value):opF (wkV 0 c s m i b) (wkL4 0)=96:=by kernel_rfl
theorem wk_pc0:((min ((wkPc 0).toNat+1+(opX 96).dt) (wkL4 0).cl.length:Nat):Int)=wkPc 1:=by kernel_rfl
theorem wk_op1 (c s m i b:Value):opF (wkV 1 c s m i b) (wkL4 1)=96:=by kernel_rfl
theorem wk_pc1:((min ((wkPc 1).toNat+1+(opX 96).dt) (wkL4 1).cl.length:Nat):Int)=wkPc 2:=by kernel_rfl
theorem wk_op2 (c s m i b:Value):opF (wkV 2 c s m i b) (wkL4 2)=3:=by kernel_rfl
theorem wk_pc2:((min ((wkPc 2).toNat+1+(opX 3).dt) (wkL4 2).cl.length:Nat):Int)=wkPc 3:=by kernel_rfl
theorem wk_op3 (c s m i b:Value):opF (wkV 3 c s m i b) (wkL4 3)=96:=by kernel_rfl
theorem wk_pc3:((min ((wkPc 3).toNat+1+(opX 96).dt) (wkL4 3).cl.length:Nat):Int)=wkPc 4:=by kernel_rfl
theorem wk_op4 (c s m i b:Value):opF (wkV 4 c s m i b) (wkL4 4)=84:=by kernel_rfl
theorem wk_pc4:((min ((wkPc 4).toNat+1+(opX 84).dt) (wkL4 4).cl.length:Nat):Int)=wkPc 5:=by kernel_rfl
theorem wk_dat0:wkWs 0++[bev (dataC wkCode (wkPc 0))]=wkWs 1:=by kernel_rfl
theorem wk_step0 (c s m i b:Value) (w:World) (h:FrRows w (wkV 0 c s m i b) (wkL4 0)):Calls Tryz.prog 10 #[frv (wkV 0 c s m i b),.agg (enva 0 0 0 0)] w (RetG w [] (WkR 1)):=by
 refine Calls.mono (Step_ok (wkV 0 c s m i b) (wkL4 0) 0 0 0 0 (WkM 1) (wk_ok0 ..) (fun _ _ h=>h.sl) (fun w0 S bb c s m i b gs rest w' hf hs=>?_) w h) fun x w' h=>SL.RetG.to h fun _ _=>WkM.to
 have e:(wkV 0 c s m i b).rows c s m i b=wkV 0 c s m i b:=rfl
 refine Calls.mono (step_push w0 S bb (wkV 0 c s m i b) (wkL4 0) 0 0 0 0 gs rest (wk_ok0 ..) (by rw [wk_op0];omega) (by rw [wk_op0];omega) (by show 3≤wkGas 0;decide) (by show (wkWs 0).length+1≤64;decide) hf w' hs) fun x w2 ⟨fs',⟨h1,s2,k2,gs2,h2,h3⟩,hst⟩=>?_
 rw [wk_op0] at h2 h3
 refine ⟨fs',⟨h1,_,gs2,⟨c,s2,k2,i,b,?_,rfl,rfl,rfl,rfl,?_⟩,h3⟩,hst⟩
 ·show FrV.setPc _ _=_
  rw [show (wkV 0 c s m i b).pc.toNat=(wkPc 0).toNat from rfl,wk_pc0]
  rfl
 ·have hd:(wkL4 0).setW ((wkL4 0).ws++[bev (dataC (wkL4 0).cl (wkV 0 c s m i b).pc)])=wkL4 1:=by
   show FrL.setW _ (wkWs 0++[bev (dataC wkCode (wkPc 0))])=_
   rw [wk_dat0]
   rfl
  rw [hd] at h2
  exact h2
theorem wk_dat1:wkWs 1++[bev (dataC wkCode (wkPc 1))]=wkWs 2:=by kernel_rfl
theorem wk_step1 (c s m i b:Value) (w:World) (h:FrRows w (wkV 1 c s m i b) (wkL4 1)):Calls Tryz.prog 10 #[frv (wkV 1 c s m i b),.agg (enva 0 0 0 0)] w (RetG w [] (WkR 2)):=by
 refine Calls.mono (Step_ok (wkV 1 c s m i b) (wkL4 1) 0 0 0 0 (WkM 2) (wk_ok1 ..) (fun _ _ h=>h.sl) (fun w0 S bb c s m i b gs rest w' hf hs=>?_) w h) fun x w' h=>SL.RetG.to h fun _ _=>WkM.to
 have e:(wkV 1 c s m i b).rows c s m i b=wkV 1 c s m i b:=rfl
 refine Calls.mono (step_push w0 S bb (wkV 1 c s m i b) (wkL4 1) 0 0 0 0 gs rest (wk_ok1 ..) (by rw [wk_op1];omega) (by rw [wk_op1];omega) (by show 3≤wkGas 1;decide) (by show (wkWs 1).length+1≤64;decide) hf w' hs) fun x w2 ⟨fs',⟨h1,s2,k2,gs2,h2,h3⟩,hst⟩=>?_
 rw [wk_op1] at h2 h3
 refine ⟨fs',⟨h1,_,gs2,⟨c,s2,k2,i,b,?_,rfl,rfl,rfl,rfl,?_⟩,h3⟩,hst⟩
 ·show FrV.setPc _ _=_
  rw [show (wkV 1 c s m i b).pc.toNat=(wkPc 1).toNat from rfl,wk_pc1]
  rfl
 ·have hd:(wkL4 1).setW ((wkL4 1).ws++[bev (dataC (wkL4 1).cl (wkV 1 c s m i b).pc)])=wkL4 2:=by
   show FrL.setW _ (wkWs 1++[bev (dataC wkCode (wkPc 1))])=_
   rw [wk_dat1]
   rfl
  rw [hd] at h2
  exact h2
theorem wk_dat3:wkWs 3++[bev (dataC wkCode (wkPc 3))]=wkWs 4:=by kernel_rfl
theorem wk_step3 (c s m i b:Value) (w:World) (h:FrRows w (wkV 3 c s m i b) (wkL4 3)):Calls Tryz.prog 10 #[frv (wkV 3 c s m i b),.agg (enva 0 0 0 0)] w (RetG w [] (WkR 4)):=by
 refine Calls.mono (Step_ok (wkV 3 c s m i b) (wkL4 3) 0 0 0 0 (WkM 4) (wk_ok3 ..) (fun _ _ h=>h.sl) (fun w0 S bb c s m i b gs rest w' hf hs=>?_) w h) fun x w' h=>SL.RetG.to h fun _ _=>WkM.to
 have e:(wkV 3 c s m i b).rows c s m i b=wkV 3 c s m i b:=rfl
 refine Calls.mono (step_push w0 S bb (wkV 3 c s m i b) (wkL4 3) 0 0 0 0 gs rest (wk_ok3 ..) (by rw [wk_op3];omega) (by rw [wk_op3];omega) (by show 3≤wkGas 3;decide) (by show (wkWs 3).length+1≤64;decide) hf w' hs) fun x w2 ⟨fs',⟨h1,s2,k2,gs2,h2,h3⟩,hst⟩=>?_
 rw [wk_op3] at h2 h3
 refine ⟨fs',⟨h1,_,gs2,⟨c,s2,k2,i,b,?_,rfl,rfl,rfl,rfl,?_⟩,h3⟩,hst⟩
 ·show FrV.setPc _ _=_
  rw [show (wkV 3 c s m i b).pc.toNat=(wkPc 3).toNat from rfl,wk_pc3]
  rfl
 ·have hd:(wkL4 3).setW ((wkL4 3).ws++[bev (dataC (wkL4 3).cl (wkV 3 c s m i b).pc)])=wkL4 4:=by
   show FrL.setW _ (wkWs 3++[bev (dataC wkCode (wkPc 3))])=_
   rw [wk_dat3]
   rfl
  rw [hd] at h2
  exact h2
theorem wk_half:halfV 3 5 2=3:=by kernel_rfl
theorem wk_step2 (c s m i b:Value) (w:World) (h:FrRows w (wkV 2 c s m i b) (wkL4 2)):Calls Tryz.prog 10 #[frv (wkV 2 c s m i b),.agg (enva 0 0 0 0)] w (RetG w [] (WkR 3)):=by
 refine Calls.mono (Step_ok (wkV 2 c s m i b) (wkL4 2) 0 0 0 0 (WkM 3) (wk_ok2 ..) (fun _ _ h=>h.sl) (fun w0 S bb c s m i b gs rest w' hf hs=>?_) w h) fun x w' h=>SL.RetG.to h fun _ _=>WkM.to
 have hh:halvesF 3=some (1,139):=rfl
 obtain ⟨hF,hz⟩:=halfs_calls 5 2 (by decide) (by decide) hh
 refine Calls.mono (step_half w0 S bb (wkV 2 c s m i b) (wkL4 2) 0 0 0 0 gs rest 3 1 5 2 (halfV 3 5 2) 139 hF hz rfl (by kernel_rfl) (by kernel_rfl) (wk_ok2 ..) (wk_op2 ..) (by kernel_rfl) (by decide) (by decide) hh (by show gasB 3≤294;decide) (by show (opX 3).tk≤2;decide) (by show 2 - (opX 3).tk+(opX 3).ly≤64;decide) hf w' hs) fun x w2 ⟨fs',⟨h1,m',gs2,⟨s2,k2,t2,h2,h2f⟩,h3⟩,hst⟩=>?_
 have e1:m'.fr=wkV 3 c s2 k2 i b:=by
  rw [h2]
  show FrV.setPc _ _=_
  rw [show (wkV 2 c s m i b).pc.toNat=(wkPc 2).toNat from rfl,wk_pc2]
  rfl
 refine ⟨fs',⟨h1,m',gs2,⟨c,s2,k2,i,b,e1,?_,?_,?_,?_,?_⟩,h3⟩,hst⟩
 ·rw [h2];rfl
 ·rw [h2];rfl
 ·rw [h2];rfl
 ·rw [h2];rfl
 ·rw [wk_half] at h2f
  exact h2f
theorem wk_step4 (c s m i b:Value) (w:World) (h:FrRows w (wkV 4 c s m i b) (wkL4 4)):Calls Tryz.prog 10 #[frv (wkV 4 c s m i b),.agg (enva 0 0 0 0)] w (RetG w [] WkS):=by
 refine Calls.mono (Step_ok (wkV 4 c s m i b) (wkL4 4) 0 0 0 0 (fun m gs=>∃ c s k i b,StateM (wkV 4 c s k i b) (wkL4 4) 0 0 0 0 84 m gs) (wk_ok4 ..) (fun m gs h=>?_) (fun w0 S bb c1 s1 m1 i1 b1 gs rest w' hf hs=>?_) w h) fun x w' h=>?_
 ·obtain ⟨_,_,_,_,_,s2,k2,t2,gF,gT,hm,hF,hT,_⟩:=h
  unfold wM at hT
  obtain ⟨_,_,hT⟩:=hT.form
  exact ⟨hF.sl,⟨_,_,_,by rw [hm];exact hT⟩,⟨none,0,0,by rw [hm];rfl⟩⟩
 ·refine Calls.mono (step_state w0 S bb (wkV 4 c1 s1 m1 i1 b1) (wkL4 4) 0 0 0 0 gs rest 84 14 (wk_ok4 ..) (wk_op4 ..) (by kernel_rfl) (by decide) (by decide) rfl rfl rfl (by show gasB 84≤288;decide) (by show (opX 84).tk≤2;decide) (by show 2 - (opX 84).tk+(opX 84).ly≤64;decide) hf w' hs) fun x w2 ⟨fs',⟨h1,m',gs2,h2,h3⟩,hst⟩=>⟨fs',⟨h1,m',gs2,⟨_,_,_,_,_,h2⟩,h3⟩,hst⟩
 ·refine SL.RetG.to h fun v gs h=>?_
  obtain ⟨m,⟨c,s,k,i,b,s2,k2,t2,gF,gT,hm,hF,hT,hgs⟩,hv⟩:=h
  have e1:m.fr=wkV 5 c s2 k2 i b:=by
   rw [hm]
   show FrV.setPc _ _=_
   rw [show (wkV 4 c s k i b).pc.toNat=(wkPc 4).toNat from rfl,wk_pc4]
   rfl
  have e2:aska m.kind m.op m.words m.data=aska 1 84 t2 (.slice none 0 0):=by rw [hm];rfl
  rw [e1] at hF hv
  rw [e2] at hv
  have hw1:(wkL4 4).setW ((wkL4 4).ws.take ((wkL4 4).ws.length - (opX 84).tk))=wkL4 5:=by kernel_rfl
  have hw2:((wkL4 4).ws.drop ((wkL4 4).ws.length - (opX 84).tk)).reverse=[7]:=by kernel_rfl
  rw [hw1] at hF
  rw [hw2] at hT
  exact ⟨c,s2,k2,i,b,t2,gF,gT,hv,hF,hT,hgs⟩
end Go.Proofs.YtdeggbkbblfpoaaGreatDoor
namespace Go.Proofs.YtdeggbkbblfpoaaGreatDoor
open Go Go.RowKit SL
set_option maxRecDepth 8000
set_option maxHeartbeats 4000000
set_option linter.unusedSimpArgs false
set_option linter.unusedVariables false
attribute [local irreducible] SL.CW SL.LW SL.DW Calls SL.Ret SL.RetG SL.beginQ SL.roundQ SL.rangeQ SL.inQ SL.RW SL.AnyW SL.thenQ SL.thenC SL.thenW SL.blkQ SL.finQ SL.ValP SL.NewP SL.SetP SL.CallP SL.Rd SL.Wr SL.Known
theorem wk_stepk (k:Nat) (hk:k < 4) (c s m i b:Value) (w:World) (h:FrRows w (wkV k c s m i b) (wkL4 k)):Calls Tryz.prog 10 #[frv (wkV k c s m i b),.agg (enva 0 0 0 0)] w (RetG w [] (WkR (k+1))):=by
 rcases (by omega:k=0∨k=1∨k=2∨k=3) with rfl|rfl|rfl|rfl
 ·exact wk_step0 c s m i b w h
 ·exact wk_step1 c s m i b w h
 ·exact wk_step2 c s m i b w h
 ·exact wk_step3 c s m i b w h
def WkF (k:Nat) (f:FrV) (gs:Fs):Prop:=∃ c s m i b,f=wkV k c s m i b∧FrO f (wkL4 k) gs
theorem wk_f0 (g:Nat):WkF 0 (wkV 0 (.slice (some ⟨g,0,none⟩) 8 8) (.slice none 0 0) (.slice none 0 0) (.slice none 0 0) (.slice none 0 0)) [(g,.cells (ucs wkCode).toArray 5 (0,0))] :=
 ⟨_,_,_,_,_,rfl,[(g,.cells (ucs wkCode).toArray 5 (0,0))],[],[],[],[],.refl _,.own (by decide) (by decide) rfl rfl rfl,.nil,.nil,.nil,.nil⟩
theorem wk_c0 (g:Nat):fra (wkV 0 (.slice (some ⟨g,0,none⟩) 8 8) (.slice none 0 0) (.slice none 0 0) (.slice none 0 0) (.slice none 0 0))=#[.slice (some ⟨g,0,none⟩) 8 8,.int .i64 0,.slice none 0 0,.slice none 0 0,.int .u64 300,.int .u64 20,.int .u64 0,.int .u64 0,.int .u64 0,.int .u64 0,.int .u64 0,.slice none 0 0,.slice none 0 0,.bool false]:=by simp [fra,frc,wkV,wkPc,wkGas,wc]
theorem wakes14_calls (w:World):Calls Tryz.prog 8 #[] w (Ret w (.bool true)):=by
 refine enter (args:=[]) _ [] [] Tryz.func8 rfl Tryz.ntmps8 rfl (by simp) .nil ?_
 (refine sRz<|vAz<|nSz ?_)
 refine LW.n0 rfl rfl (NewP.buildSN (vs:=[(0,.int .u8 96),(1,.int .u8 2),(2,.int .u8 96),(3,.int .u8 5),(4,.int .u8 3),(5,.int .u8 96),(6,.int .u8 7),(7,.int .u8 84)]) (c:=(ucs wkCode).toArray) inferInstance inferInstance (by (apply zA;rfl;apply zA;rfl;apply zA;rfl;apply zA;rfl;apply zA;rfl;apply zA;rfl;apply zA;rfl;apply zA;rfl;exact zB)) rfl rfl (by kernel_rfl) (by kernel_rfl)) fun g=>?_
 simp only [Sh.val]
 have hsl0:FrSl (wkV 0 (.slice (some ⟨g,0,none⟩) 8 8) (.slice none 0 0) (.slice none 0 0) (.slice none 0 0) (.slice none 0 0)):=⟨⟨_,_,_,rfl⟩,⟨_,_,_,rfl⟩,⟨_,_,_,rfl⟩,⟨_,_,_,rfl⟩,⟨_,_,_,rfl⟩⟩
 (apply LW.v0;rfl;rfl;apply zW;infer_instance;infer_instance;apply zA;rfl;apply zA;rfl;apply zA;rfl;exact zB;rfl;simp only [fillP,wrCells,Value.cells,qL,qM,qN,qK,qP,qO,Nat.reduceAdd,qR];rfl;apply zU;rfl;intro _;refine zR rfl rfl .head (.whole rfl rfl rfl)<|nNz<|zI<|sRz<|vMz<|nNz<|zM ?_)
 rename_i b1
 refine CW.loop (fun x:Nat × FrV × Fs=>([(11,.int .i64 (x.1:Int)),(1,.pointer (some ⟨b1,0,none⟩)),(0,.bool false)],(b1,.cells (fra x.2.1) 31 (0,0))::x.2.2))
  (fun x=>x.1≤4∧WkF x.1 x.2.1 x.2.2) (fun x=>4 - x.1) (0,wkV 0 (.slice (some ⟨g,0,none⟩) 8 8) (.slice none 0 0) (.slice none 0 0) (.slice none 0 0) (.slice none 0 0),[(g,.cells (ucs wkCode).toArray 5 (0,0))]) ⟨Nat.zero_le _,wk_f0 g⟩ ⟨rfl,rfl,rfl,trivial⟩ (by rw [← wk_c0 g];exact qQ _) ?_
 rintro ⟨k,f,gs⟩ ⟨hk,hf⟩
 dsimp only at hk hf ⊢
 rcases Nat.lt_or_ge k 4 with hlt|hge
 ·obtain ⟨c,s,m,i,b,rfl,hfo⟩:=id hf
  have hsl1:FrSl (wkV k c s m i b):=hfo.sl
  (refine sRz ?_;refine lvz (.lssT rfl rfl (by omega)) ?_;refine nNz<|zI<|cTz<|zJ<|thenN<|zI<|zM<|sRz<|ldz rfl .head fr_rdW ?_;apply LW.v0;rfl;rfl;apply zW;infer_instance;infer_instance;exact zB;rfl;simp only [fillP,wrCells,Value.cells,qL,qM,qN,qK,qP,qO,Nat.reduceAdd,qR];rfl)
  refine LW.callR rfl rfl inferInstance (by (exact .cons rfl (.cons rfl .nil))) (fun w' hst=>wk_stepk k hlt c s m i b w' (hfo.us fun q hq=>(hst.own q (qS _ hq)).2)) ?_
  rintro v gs2 ⟨c2,s2,m2,i2,b2',rfl,hf2⟩
  refine LW.perm (List.perm_middle).symm ?_
  have hsl2:FrSl (wkV (k+1) c2 s2 m2 i2 b2'):=hf2.sl
  (refine vMz ?_;refine vEz ?_;refine vEz ?_;refine vEz ?_;apply zU;rfl;intro _;apply zU;rfl;intro _;apply zR;rfl;rfl;apply qD;apply qA;apply fr_wrW;rfl;assumption;refine zR rfl rfl .head (.whole rfl rfl rfl)<|vAz<|nNz<|zI<|sRz<|vMz ?_;refine lvz (.neF rfl rfl (by omega)) ?_;refine vMz<|gTz<|vFz<|gTz<|ldz rfl .head (Rd.one' rfl)<|gTz ?_;refine lvz (.neF rfl rfl (by omega)) ?_;refine pFz<|nNz<|cFz<|zJ<|thenN<|zL<|ldz rfl (.tail .head) fr_rdW ?_;apply zR;rfl;rfl;apply qD;apply qD;apply qA;apply fr_wrW;rfl;assumption;apply zV;refine blkN<|thenN<|zL ?_;refine lvz (.addZL rfl rfl (by decide) (by omega)) ?_;refine vMz ?_;apply zV)
  apply thenX
  exact ⟨rfl,(k+1,wkV (k+1) c2 s2 m2 i2 b2',gs2),⟨by omega,⟨_,_,_,_,_,rfl,hf2⟩⟩,by show 4 - (k+1) < 4 - k;omega,⟨rfl,rfl,rfl,trivial⟩,qU _ (qU _ (List.Sublist.cons_cons _ (qT _ _)))⟩
 ·obtain rfl:k=4:=by omega
  obtain ⟨c,s,m,i,b,rfl,hfo⟩:=id hf
  have hsl1:FrSl (wkV 4 c s m i b):=hfo.sl
  (refine sRz ?_;refine lvz (.lssF rfl rfl (by omega)) ?_;refine nNz<|zI<|cFz<|CW.exit<|thenE<|thenE<|blkE rfl<|thenN<|sRz<|ldz rfl .head fr_rdW ?_;apply LW.v0;rfl;rfl;apply zW;infer_instance;infer_instance;exact zB;rfl;simp only [fillP,wrCells,Value.cells,qL,qM,qN,qK,qP,qO,Nat.reduceAdd,qR];rfl)
  refine LW.callR rfl rfl inferInstance (by (exact .cons rfl (.cons rfl .nil))) (fun w' hst=>wk_step4 c s m i b w' (hfo.us fun q hq=>(hst.own q (qS _ hq)).2)) ?_
  rintro v gs2 ⟨c2,s2,m2,i2,b2',t2,gF,gT,rfl,hf2,ht2,rfl⟩
  have hsl2:FrSl (wkV 5 c2 s2 m2 i2 b2'):=hf2.sl
  unfold wM at ht2
  obtain ⟨gt,cur,k2,rfl,rfl,htk9⟩:∃ gt cur k2,t2=.slice (some ⟨gt,0,none⟩) 1 k2∧gT=[(gt,.cells cur 29 (0,0))]∧cur.toList.take (([7]:List Nat).length * 4)=wcs [7]:=by
   obtain ⟨q2,k2,rfl⟩:=id ht2.form
   obtain ⟨gt,cur,rfl,rfl,_,_,_,hr⟩:=ht2.pos (by show 0 < 1;omega)
   exact ⟨gt,cur,k2,rfl,rfl,hr⟩
  have hrd7:Rd Tryz.prog 29 (.cells cur 29 (0,0)) (0+0 * 4) (wv 7):=word_rd (l:=[7]) (by rw [List.drop_zero];exact htk9) 0 (by show 0 < 1;omega)
  have hsw:∃ p n c,Value.slice (some ⟨gt,0,none⟩) 1 k2=.slice p n c:=⟨_,_,_,rfl⟩
  have hsd:∃ p n c,Value.slice none 0 0=.slice p n c:=⟨_,_,_,rfl⟩
  refine LW.perm (List.perm_middle (l₁:=[_]++gF)).symm ?_
  (refine vMz ?_;refine vEz ?_;refine vEz ?_;refine vEz ?_;apply zU;rfl;intro _;apply zR;rfl;rfl;apply qD;apply qA;apply fr_wrW;rfl;assumption;refine zR rfl rfl .head (.whole rfl rfl rfl)<|vAz<|nSz<|ldz rfl (.tail .head) fr_rdW ?_;refine lvz (.buildW1L rfl (by decide) rfl) ?_;apply LW.layA;rfl;infer_instance;infer_instance;rfl;rfl;rfl;rfl;rfl;intro _)
  rename_i b5 b38
  refine LW.callR rfl rfl inferInstance (by (exact .cons rfl (.cons rfl (.cons rfl .nil)))) (fun w' hst=>Tell_calls (wkV 5 c2 s2 m2 i2 b2') (wkL4 5) 210 [9] _ (by decide) w' (row_cells (hst.own (b38,_) (List.Mem.head _)).2 rfl rfl (by decide)) (hf2.rows fun q hq=>(hst.own q (by simp [hq])).2)) ?_
  rw [if_pos (wk_ok5 ..),show tellR (wkV 5 c2 s2 m2 i2 b2') (wkL4 5) 210 [9]=some (78,⟨wkCode,[3,9],[],[],[]⟩) from rfl]
  rintro v gs5 ⟨c5,s5,m5,i5,b5',rfl,hf5⟩
  have hsl5:FrSl ((wkV 5 c2 s2 m2 i2 b2').rowsG 78 c5 s5 m5 i5 b5'):=hf5.sl
  obtain ⟨h1,h2,h3,h4,h5,hperm,r1,r2,r3,r4,r5⟩:=hf5
  refine LW.perm (fs':=(h1++(h2++(h3++(h4++h5))))++_) (hperm.append_right _) ?_
  unfold wM at r2
  dsimp only [FrV.rowsG] at r2
  obtain ⟨gm,cur5,k5,rfl,rfl,htk5⟩:∃ gm cur5 k5,s5=.slice (some ⟨gm,0,none⟩) 2 k5∧h2=[(gm,.cells cur5 29 (0,0))]∧cur5.toList.take (([3,9]:List Nat).length * 4)=wcs [3,9]:=by
   obtain ⟨q5,k5,rfl⟩:=id r2.form
   obtain ⟨gm,cur5,rfl,rfl,_,_,_,hr⟩:=r2.pos (by show 0 < 2;omega)
   exact ⟨gm,cur5,k5,rfl,rfl,hr⟩
  have hrd3:Rd Tryz.prog 29 (.cells cur5 29 (0,0)) (0+0 * 4) (wv 3):=word_rd (l:=[3,9]) (by rw [List.drop_zero];exact htk5) 0 (by show 0 < 2;omega)
  simp only [List.append_assoc,List.cons_append,List.nil_append]
  (refine vMz ?_;refine vEz ?_;refine vEz ?_;apply zU;rfl;intro _;apply zR;rfl;rfl;apply qA;apply fr_wrW;rfl;assumption;refine vAz<|nSz<|vMz ?_;refine lvz (.eqT rfl rfl (by omega)) ?_;refine vMz<|gTz<|vMz<|pTz<|vMz<|gTz<|vFz<|gTz<|ldz rfl (.tail (.app (.tail (.app (.app (.app (.tail .head))))))) (Rd.one' rfl)<|gTz ?_;refine lvz (.eqT rfl rfl (by omega)) ?_;refine pTz<|vMz<|gTz<|vFz<|gTz<|ldz rfl (.tail (.app (.tail (.app (.app (.app (.tail .head))))))) (Rd.one' rfl)<|gTz ?_;refine lvz (.eqT rfl rfl (by omega)) ?_;refine pTz<|vMz<|gTz<|vFz<|gTz<|ldz rfl (.tail (.app (.tail (.app (.app (.app (.tail .head))))))) (Rd.one' rfl)<|gTz<|lvz (.lenR rfl inferInstance rfl)<|gTz ?_;refine lvz (.eqT rfl rfl (by omega)) ?_;refine pTz<|vMz<|gTz<|vFz<|gTz<|ldz rfl (.tail (.app (.tail (.app (.app (.app (.tail .head))))))) (Rd.one' rfl)<|gTz ?_;refine lvz (.indexAddrSL rfl rfl (by decide) (by omega)) ?_;refine gTz ?_;refine ldz rfl (.tail (.app (.tail (.app (.app (.app (.tail (.tail (.tail .head))))))))) (by assumption) ?_;refine gTz ?_;refine lvz (.buildW1L rfl (by decide) rfl) ?_;refine gTz ?_;refine lvz (.eqWT rfl rfl (by with_reducible rfl)) ?_;refine pTz<|vMz<|gTz<|vFz<|gTz<|vFz<|gTz<|ldz rfl .head fr_rd2s<|gTz<|lvz (.lenR rfl inferInstance rfl)<|gTz ?_;refine lvz (.eqT rfl rfl (by omega)) ?_;refine pTz<|vMz<|gTz<|vFz<|gTz<|vFz<|gTz<|ldz rfl .head fr_rd2s<|gTz ?_;refine lvz (.indexAddrSL rfl rfl (by decide) (by omega)) ?_;refine gTz ?_;refine ldz rfl (.tail (.app .head)) (by assumption) ?_;refine gTz ?_;refine lvz (.buildW1L rfl (by decide) rfl) ?_;refine gTz ?_;refine lvz (.eqWT rfl rfl (by with_reducible rfl)) ?_;refine pTz<|vMz<|gTz<|vFz<|gTz<|ldz rfl .head fr_rd4<|gTz ?_;refine lvz (.eqT rfl rfl (by omega)) ?_;refine pTz<|vAz<|nNz<|zK ?_)
  (apply finR;exact .inl rfl;rfl;rfl;rfl;apply zD;exact zG rfl;exact zF)
  rfl
theorem row_few1 {w:World} {l:List UInt8} {n k c:Nat} {p:Option Addr} (h:RowAt w 1 (.slice p l.length c) l.length (ucs l)) (hn:n=min l.length k):RowAt w 1 (.slice p n c) (l.take k).length (ucs (l.take k)):=by
 have h1:=h.take (k:=n) (by omega)
 rw [ucs_take] at h1
 have h2:l.take n=l.take k:=by rw [hn,Nat.min_comm,← List.take_take,List.take_length]
 have h3:(l.take k).length=n:=by rw [List.length_take];omega
 rw [h2] at h1
 rw [h3]
 exact h1
theorem few1_calls (l:List UInt8) (v:Value) (k:Nat) (hk:k≤100000) (w:World) (h:RowAt w 1 v l.length (ucs l)):Calls Tryz.prog 39 #[v,.int .i64 (k:Int)] w (RetG w [] (bM (l.take k))):=by
 obtain ⟨p,c,rfl,hle,hm⟩:=id h.form
 simp only [maxLen] at hm
 have hf:=row_few1 h (k:=k) rfl
 have hl:(l.take k).length≤100000:=by rw [List.length_take];omega
 refine enter (args:=[_,_]) _ [] [] Tryz.func39 rfl Tryz.ntmps39 rfl (by simp) .nil ?_
 (repeat (first|(first|refine thenN ?_|refine thenL ?_|refine thenM ?_|(apply beginI;(repeat (first|apply qA|apply qD|apply qE)))|(apply roundN;(repeat (first|apply qA|apply qD|apply qE)))|refine blkN ?_|refine thenR ?_|refine blkR ?_|refine thenE ?_|refine blkE rfl ?_|refine blkO rfl ?_|refine CW.scope ?_|refine scopeQ.n ?_|refine scopeQ.r ?_|refine scopeQ.e ?_|refine zI ?_|refine zM ?_|refine zL ?_|refine zK ?_|refine zJ ?_|refine CW.exit ?_|refine CW.label ?_|(apply CW.condT;rfl;(first|with_reducible rfl|(focus (simp only [Bool.not_true,Bool.not_false];done))|(with_reducible assumption)|(focus (simp only [Bool.not_true,Bool.not_false];with_reducible assumption))))|(apply CW.condF;rfl;(first|with_reducible rfl|(focus (simp only [Bool.not_true,Bool.not_false];done))|(with_reducible assumption)|(focus (simp only [Bool.not_true,Bool.not_false];with_reducible assumption)))))|(first|(apply LW.load;rfl;rfl;(first|(focus (apply qI;(repeat (first|apply zY|apply zX|apply zZ));done))|exact Known.ext (by assumption) (by simp));(first|exact qJ rfl|exact Rd.one' rfl|exact Rd.one rfl|(apply Rd.one';apply nth_wc;omega)|assumption))|(apply zR;rfl;rfl;(repeat (first|apply qA|apply qD|apply qE));(first|assumption|(apply Wr.whole;rfl;rfl;rfl)))|(apply LW.allocW;rfl;intro _)|(apply zU;rfl;intro _)|(apply zT;rfl;rfl;intro _)|(apply LW.alloc1;rfl;rfl;intro _)|(apply LW.box1;rfl;rfl;rfl;intro _)|apply zV|(apply LW.guardT';rfl;rfl;(first|with_reducible rfl|(focus (simp only [Bool.not_true,Bool.not_false];done))|(with_reducible assumption)|(focus (simp only [Bool.not_true,Bool.not_false];with_reducible assumption))))|(apply LW.guardF';rfl;rfl;(first|with_reducible rfl|(focus (simp only [Bool.not_true,Bool.not_false];done))|(with_reducible assumption)|(focus (simp only [Bool.not_true,Bool.not_false];with_reducible assumption)));rfl)|(apply LW.guardU;rfl;rfl;rfl)|((apply zS;rfl;rfl;infer_instance;(repeat (first|exact ArgsOk.nil|(apply ArgsOk.cons;rfl)));intro w _);fail)|(apply LW.makeMap;rfl;intro _)|(apply LW.mapIns;infer_instance;infer_instance;rfl;rfl;rfl;(repeat (first|apply qA|apply qD|apply qE));rfl;rfl)|(apply LW.mapGet;rfl;infer_instance;infer_instance;infer_instance;rfl;rfl;(first|(focus (apply qI;(repeat (first|apply zY|apply zX|apply zZ));done))|exact Known.ext (by assumption) (by simp));rfl;assumption;rfl)|(apply LW.v0;rfl;rfl;(first|(apply ValP.move;rfl)|(apply ValP.nilCheck;rfl)|(apply ValP.assign;rfl)|(apply ValP.extractN;rfl;rfl)|(apply ValP.indexAddrL;rfl;rfl;rfl)|(apply ValP.indexAddrA;rfl;rfl;rfl;omega)|(apply ValP.indexAddrSL;rfl;rfl;decide;omega)|(apply ValP.indexAddrS;rfl;rfl;rfl;omega)|(apply ValP.fieldAddr;rfl;rfl)|(apply ValP.pickT';rfl;(first|with_reducible rfl|(focus (simp only [Bool.not_true,Bool.not_false];done))|(with_reducible assumption)|(focus (simp only [Bool.not_true,Bool.not_false];with_reducible assumption)));rfl)|(apply ValP.pickF';rfl;(first|with_reducible rfl|(focus (simp only [Bool.not_true,Bool.not_false];done))|(with_reducible assumption)|(focus (simp only [Bool.not_true,Bool.not_false];with_reducible assumption)));rfl)|(apply ValP.notT;rfl;(first|with_reducible rfl|(focus (simp only [Bool.not_true,Bool.not_false];done))|(with_reducible assumption)|(focus (simp only [Bool.not_true,Bool.not_false];with_reducible assumption))))|(apply ValP.notF;rfl;(first|with_reducible rfl|(focus (simp only [Bool.not_true,Bool.not_false];done))|(with_reducible assumption)|(focus (simp only [Bool.not_true,Bool.not_false];with_reducible assumption))))|(apply ValP.notB;rfl)|(apply ValP.lenR;rfl;infer_instance;rfl)|(apply ValP.lenStr;rfl;infer_instance;rfl)|(apply ValP.indexSv;infer_instance;rfl;rfl;rfl;(first|assumption|rfl))|(apply ValP.cutStr;infer_instance;rfl;rfl;rfl;omega;(first|omega|(simp;omega)|(simp [hexdigits];omega)))|(apply ValP.cutStrTo;infer_instance;rfl;rfl;(first|omega|(simp;omega)|(simp [hexdigits];omega)))|(apply ValP.cutStrFrom;infer_instance;rfl;rfl;(first|omega|(simp;omega)|(simp [hexdigits];omega)))|(apply ValP.addStr;rfl;rfl;(first|omega|(simp;omega)|(simp [hexdigits];omega)))|(apply ValP.min3;rfl;rfl;rfl)|(apply ValP.max3;rfl;rfl;rfl)|(apply ValP.minZL;rfl;rfl;decide)|(apply ValP.maxZ;rfl;rfl)|(apply ValP.minZ;rfl;rfl)|exact ValP.buildW0|(apply ValP.buildW1L;rfl;decide;rfl)|(apply ValP.buildW1;rfl;(first|omega|(focus ((repeat (first|omega|apply or64|apply xor64|apply and64|apply div64));done))))|(first|(apply ValP.buildA;(repeat (first|exact zB|(apply zA;rfl)));rfl;(simp only [fillC,wc,wrCells,Value.cells,qN,qK,qP,qO,Nat.reduceAdd,Nat.reduceMul,qR,Nat.mul_one];rfl))|(apply zW;infer_instance;infer_instance;(repeat (first|exact zB|(apply zA;rfl)));rfl;(simp only [fillP,wrCells,Value.cells,qL,qM,qN,qK,qP,qO,Nat.reduceAdd,qR];rfl))|(apply ValP.field1;infer_instance;infer_instance;rfl;rfl)|(apply ValP.cutArrAll;infer_instance;infer_instance;rfl))|(apply ValP.indexAL;rfl;rfl;rfl;rfl;rfl)|(apply ValP.indexA;rfl;rfl;rfl;rfl;omega;(first|(apply nth_limb;omega)|(apply nth_wc;omega)))|(apply ValP.cutArr;infer_instance;infer_instance;rfl;rfl;rfl)|(apply ValP.asArr;infer_instance;rfl;rfl)|(apply ValP.convI;rfl;omega;omega)|(apply ValP.convN;rfl;omega;omega)|(apply ValP.convB;rfl)|(apply ValP.makeFunc;(repeat (first|exact ArgsOk.nil|(apply ArgsOk.cons;rfl)));(repeat (first|exact ArgsOk.nil|(apply ArgsOk.cons;rfl))))|(apply ValP.ptrNilT;rfl;rfl)|(apply ValP.ptrNilF;rfl;rfl)|(apply ValP.ptrSame;rfl;rfl)|(apply ValP.sliceDataR;rfl;omega)|fail|first|(apply ValP.quoZL;rfl;rfl;decide;omega;omega)|(apply ValP.quoZK;rfl;rfl;decide;omega;omega)|(apply ValP.quoZ;rfl;rfl;omega;omega)|(apply ValP.remZL;rfl;rfl;decide;omega)|(apply ValP.remZK;rfl;rfl;decide;omega)|(apply ValP.remZ;rfl;rfl;omega)|(apply ValP.addZL;rfl;rfl;decide;omega)|(apply ValP.addZK;rfl;rfl;decide;omega)|(apply ValP.addZ;rfl;rfl;omega)|(apply ValP.mulZL;rfl;rfl;decide;omega)|(apply ValP.mulZK;rfl;rfl;decide;omega)|(apply ValP.mulZ;rfl;rfl;omega)|(apply ValP.subZL;rfl;rfl;decide;omega;omega)|(apply ValP.subZK;rfl;rfl;decide;omega;omega)|(apply ValP.subZ;rfl;rfl;omega;omega)|(apply ValP.quoNL;rfl;rfl;decide;omega;omega)|(apply ValP.quoNK;rfl;rfl;decide;omega;omega)|(apply ValP.quoN;rfl;rfl;omega;omega)|(apply ValP.remNL;rfl;rfl;decide;omega)|(apply ValP.remNK;rfl;rfl;decide;omega)|(apply ValP.remN;rfl;rfl;omega)|(apply ValP.addNL;rfl;rfl;decide)|(apply ValP.addNK;rfl;rfl;decide)|(apply ValP.addN;rfl;rfl)|(apply ValP.mulNL;rfl;rfl;decide)|(apply ValP.mulNK;rfl;rfl;decide)|(apply ValP.mulN;rfl;rfl)|(apply ValP.subNL;rfl;rfl;decide;omega;omega)|(apply ValP.subNK;rfl;rfl;decide;omega;omega)|(apply ValP.subN;rfl;rfl;omega;omega)|(apply ValP.andUL;rfl;rfl;decide;(first|omega|(focus ((repeat (first|omega|apply or64|apply xor64|apply and64|apply div64));done)));(first|omega|(focus ((repeat (first|omega|apply or64|apply xor64|apply and64|apply div64));done))))|(apply ValP.andUK;rfl;rfl;decide;(first|omega|(focus ((repeat (first|omega|apply or64|apply xor64|apply and64|apply div64));done)));(first|omega|(focus ((repeat (first|omega|apply or64|apply xor64|apply and64|apply div64));done))))|(apply ValP.andU;rfl;rfl;(first|omega|(focus ((repeat (first|omega|apply or64|apply xor64|apply and64|apply div64));done)));(first|omega|(focus ((repeat (first|omega|apply or64|apply xor64|apply and64|apply div64));done))))|(apply ValP.orUL;rfl;rfl;decide;(first|omega|(focus ((repeat (first|omega|apply or64|apply xor64|apply and64|apply div64));done)));(first|omega|(focus ((repeat (first|omega|apply or64|apply xor64|apply and64|apply div64));done))))|(apply ValP.orUK;rfl;rfl;decide;(first|omega|(focus ((repeat (first|omega|apply or64|apply xor64|apply and64|apply div64));done)));(first|omega|(focus ((repeat (first|omega|apply or64|apply xor64|apply and64|apply div64));done))))|(apply ValP.orU;rfl;rfl;(first|omega|(focus ((repeat (first|omega|apply or64|apply xor64|apply and64|apply div64));done)));(first|omega|(focus ((repeat (first|omega|apply or64|apply xor64|apply and64|apply div64));done))))|(apply ValP.xorUL;rfl;rfl;decide;(first|omega|(focus ((repeat (first|omega|apply or64|apply xor64|apply and64|apply div64));done)));(first|omega|(focus ((repeat (first|omega|apply or64|apply xor64|apply and64|apply div64));done))))|(apply ValP.xorUK;rfl;rfl;decide;(first|omega|(focus ((repeat (first|omega|apply or64|apply xor64|apply and64|apply div64));done)));(first|omega|(focus ((repeat (first|omega|apply or64|apply xor64|apply and64|apply div64));done))))|(apply ValP.xorU;rfl;rfl;(first|omega|(focus ((repeat (first|omega|apply or64|apply xor64|apply and64|apply div64));done)));(first|omega|(focus ((repeat (first|omega|apply or64|apply xor64|apply and64|apply div64));done))))|(apply ValP.shrUL;rfl;rfl;decide;omega)|(apply ValP.shrU;rfl;rfl;omega)|(apply ValP.shlUL;rfl;rfl;decide;omega)|(apply ValP.shlU;rfl;rfl;omega)|(apply ValP.notU;rfl;(first|omega|(focus ((repeat (first|omega|apply or64|apply xor64|apply and64|apply div64));done))))|(apply ValP.addI;rfl;rfl;omega;omega)|(apply ValP.subI;rfl;rfl;omega;omega)|(apply ValP.mulI;rfl;rfl;omega;omega)|(apply ValP.lssT;rfl;rfl;omega)|(apply ValP.lssF;rfl;rfl;omega)|(apply ValP.leqT;rfl;rfl;omega)|(apply ValP.leqF;rfl;rfl;omega)|(apply ValP.gtrT;rfl;rfl;omega)|(apply ValP.gtrF;rfl;rfl;omega)|(apply ValP.geqT;rfl;rfl;omega)|(apply ValP.geqF;rfl;rfl;omega)|(apply ValP.eqT;rfl;rfl;omega)|(apply ValP.eqF;rfl;rfl;omega)|(apply ValP.neT;rfl;rfl;omega)|(apply ValP.neF;rfl;rfl;omega)|(apply ValP.quoI;rfl;rfl;omega;omega;omega)|(apply ValP.remI;rfl;rfl;omega;omega)|(apply ValP.eqWT;rfl;rfl;(first|assumption|with_reducible rfl))|(apply ValP.neWF;rfl;rfl;(first|assumption|with_reducible rfl))|(apply ValP.eqWF;rfl;rfl;(first|assumption|exact Nat.mod_lt _ (by decide)|omega);(first|assumption|exact Nat.mod_lt _ (by decide)|omega);(first|assumption|omega))|(apply ValP.neWT;rfl;rfl;(first|assumption|exact Nat.mod_lt _ (by decide)|omega);(first|assumption|exact Nat.mod_lt _ (by decide)|omega);(first|assumption|omega))|(apply ValP.eqW;rfl;rfl;(first|assumption|exact Nat.mod_lt _ (by decide)|omega);(first|assumption|exact Nat.mod_lt _ (by decide)|omega))|(apply ValP.neW;rfl;rfl;(first|assumption|exact Nat.mod_lt _ (by decide)|omega);(first|assumption|exact Nat.mod_lt _ (by decide)|omega))|(apply ValP.boolEqT;rfl;rfl;(first|assumption|with_reducible rfl))|(apply ValP.boolNeF;rfl;rfl;(first|assumption|with_reducible rfl))|(apply ValP.strEqT;rfl;rfl;(first|with_reducible rfl|assumption|decide))|(apply ValP.strEqF;rfl;rfl;(first|with_reducible rfl|assumption|decide))|(apply ValP.strNeT;rfl;rfl;(first|with_reducible rfl|assumption|decide))|(apply ValP.strNeF;rfl;rfl;(first|with_reducible rfl|assumption|decide))|(apply ValP.strEq;rfl;rfl)|(apply ValP.strNe;rfl;rfl)|(apply ValP.boolEq;rfl;rfl)|(apply ValP.boolNe;rfl;rfl)|(apply ValP.lss;rfl;rfl)|(apply ValP.leq;rfl;rfl)|(apply ValP.gtr;rfl;rfl)|(apply ValP.geq;rfl;rfl)|(apply ValP.eq;rfl;rfl)|(apply ValP.ne;rfl;rfl)|(apply ValP.cutToL;infer_instance;infer_instance;rfl;rfl;decide;omega)|(apply ValP.cutFromL;infer_instance;infer_instance;rfl;rfl;decide;omega)|(apply ValP.cutTo;infer_instance;infer_instance;rfl;rfl;omega)|(apply ValP.cutFrom;infer_instance;infer_instance;rfl;rfl;omega)|(apply ValP.convU;rfl)))|(apply LW.toUnsafe;rfl;rfl;(first|(focus (apply qI;(repeat (first|apply zY|apply zX|apply zZ));done))|exact Known.ext (by assumption) (by simp));rfl;rfl)|(apply LW.fromUnsafe;rfl;rfl;(first|(focus (apply qI;(repeat (first|apply zY|apply zX|apply zZ));done))|exact Known.ext (by assumption) (by simp));kernel_rfl)|(apply LW.layA;rfl;infer_instance;infer_instance;rfl;rfl;rfl;rfl;rfl;intro _)|(apply LW.lay1;rfl;infer_instance;infer_instance;rfl;rfl;rfl;rfl;rfl;rfl;intro _)|(apply LW.v0;rfl;rfl;apply ValP.callX;rfl;(repeat (first|exact ArgsOk.nil|(apply ArgsOk.cons;rfl)));fail))|((apply CW.pre;first|refine AnyW.any 1 mixed (by decide +kernel) ?_|refine AnyW.any 2 mixed (by decide +kernel) ?_|refine AnyW.any 3 mixed (by decide +kernel) ?_|refine AnyW.any 4 mixed (by decide +kernel) ?_|refine AnyW.any 5 mixed (by decide +kernel) ?_|refine AnyW.any 6 mixed (by decide +kernel) ?_|refine AnyW.any 7 mixed (by decide +kernel) ?_|refine AnyW.any 8 mixed (by decide +kernel) ?_|refine AnyW.any 9 mixed (by decide +kernel) ?_|refine AnyW.any 10 mixed (by decide +kernel) ?_|refine AnyW.any 11 mixed (by decide +kernel) ?_|refine AnyW.any 12 mixed (by decide +kernel) ?_|refine AnyW.any 13 mixed (by decide +kernel) ?_|refine AnyW.any 14 mixed (by decide +kernel) ?_|refine AnyW.any 15 mixed (by decide +kernel) ?_|refine AnyW.any 16 mixed (by decide +kernel) ?_|refine AnyW.any 17 mixed (by decide +kernel) ?_|refine AnyW.any 18 mixed (by decide +kernel) ?_|refine AnyW.any 19 mixed (by decide +kernel) ?_|refine AnyW.any 20 mixed (by decide +kernel) ?_|refine AnyW.any 21 mixed (by decide +kernel) ?_|refine AnyW.any 22 mixed (by decide +kernel) ?_|refine AnyW.any 23 mixed (by decide +kernel) ?_|refine AnyW.any 24 mixed (by decide +kernel) ?_|refine AnyW.any 25 mixed (by decide +kernel) ?_|refine AnyW.any 26 mixed (by decide +kernel) ?_|refine AnyW.any 27 mixed (by decide +kernel) ?_|refine AnyW.any 28 mixed (by decide +kernel) ?_|refine AnyW.any 29 mixed (by decide +kernel) ?_|refine AnyW.any 30 mixed (by decide +kernel) ?_|refine AnyW.any 31 mixed (by decide +kernel) ?_|refine AnyW.any 32 mixed (by decide +kernel) ?_|refine AnyW.any 33 mixed (by decide +kernel) ?_|refine AnyW.any 34 mixed (by decide +kernel) ?_|refine AnyW.any 35 mixed (by decide +kernel) ?_|refine AnyW.any 36 mixed (by decide +kernel) ?_|refine AnyW.any 37 mixed (by decide +kernel) ?_|refine AnyW.any 38 mixed (by decide +kernel) ?_|refine AnyW.any 39 mixed (by decide +kernel) ?_|refine AnyW.any 40 mixed (by decide +kernel) ?_|refine AnyW.any 41 mixed (by decide +kernel) ?_|refine AnyW.any 42 mixed (by decide +kernel) ?_|refine AnyW.any 43 mixed (by decide +kernel) ?_|refine AnyW.any 44 mixed (by decide +kernel) ?_|refine AnyW.any 45 mixed (by decide +kernel) ?_|refine AnyW.any 46 mixed (by decide +kernel) ?_|refine AnyW.any 47 mixed (by decide +kernel) ?_|refine AnyW.any 48 mixed (by decide +kernel) ?_|refine AnyW.any 49 mixed (by decide +kernel) ?_|refine AnyW.any 50 mixed (by decide +kernel) ?_|refine AnyW.any 51 mixed (by decide +kernel) ?_|refine AnyW.any 52 mixed (by decide +kernel) ?_|refine AnyW.any 53 mixed (by decide +kernel) ?_|refine AnyW.any 54 mixed (by decide +kernel) ?_|refine AnyW.any 55 mixed (by decide +kernel) ?_|refine AnyW.any 56 mixed (by decide +kernel) ?_|refine AnyW.any 57 mixed (by decide +kernel) ?_|refine AnyW.any 58 mixed (by decide +kernel) ?_|refine AnyW.any 59 mixed (by decide +kernel) ?_|refine AnyW.any 60 mixed (by decide +kernel) ?_);(try simp only [tsOf_cons,tsOf_nil,tsOf_app]);repeat (first|fail|(apply qH;rfl;rfl;rfl;(first|exact zC|(apply wantYes;rfl;rfl;(first|with_reducible rfl|(focus (simp only [Bool.not_true,Bool.not_false];done))|(with_reducible assumption)|(focus (simp only [Bool.not_true,Bool.not_false];with_reducible assumption)))));rfl;(repeat (first|(apply zP;(first|exact zN|kernel_rfl))|apply zO|apply zQ));(first|exact qJ rfl|exact Rd.one' rfl|exact Rd.one rfl|(apply Rd.one';apply nth_wc;omega)|assumption))|(apply DW.loadX;rfl;rfl;rfl;(first|exact zC|(apply wantYes;rfl;rfl;(first|with_reducible rfl|(focus (simp only [Bool.not_true,Bool.not_false];done))|(with_reducible assumption)|(focus (simp only [Bool.not_true,Bool.not_false];with_reducible assumption)))));rfl;assumption;simp;(first|exact qJ rfl|exact Rd.one' rfl|exact Rd.one rfl|(apply Rd.one';apply nth_wc;omega)|assumption))|(apply DW.store;rfl;rfl;(first|exact zC|(apply wantYes;rfl;rfl;(first|with_reducible rfl|(focus (simp only [Bool.not_true,Bool.not_false];done))|(with_reducible assumption)|(focus (simp only [Bool.not_true,Bool.not_false];with_reducible assumption)))));rfl;rfl;(repeat (first|(apply TSet.head;(first|exact zN|kernel_rfl);(first|exact zN|kernel_rfl))|apply TSet.tail|apply TSet.app));(first|assumption|(apply Wr.whole;rfl;rfl;rfl)))|(apply DW.allocW;rfl;rfl;rfl;(first|exact zC|(apply wantYes;rfl;rfl;(first|with_reducible rfl|(focus (simp only [Bool.not_true,Bool.not_false];done))|(with_reducible assumption)|(focus (simp only [Bool.not_true,Bool.not_false];with_reducible assumption)))));intro _)|(apply DW.allocA;rfl;rfl;rfl;(first|exact zC|(apply wantYes;rfl;rfl;(first|with_reducible rfl|(focus (simp only [Bool.not_true,Bool.not_false];done))|(with_reducible assumption)|(focus (simp only [Bool.not_true,Bool.not_false];with_reducible assumption)))));intro _)|(apply DW.boxA;rfl;rfl;rfl;(first|exact zC|(apply wantYes;rfl;rfl;(first|with_reducible rfl|(focus (simp only [Bool.not_true,Bool.not_false];done))|(with_reducible assumption)|(focus (simp only [Bool.not_true,Bool.not_false];with_reducible assumption)))));rfl;intro _)|(apply DW.alloc1;rfl;rfl;rfl;(first|exact zC|(apply wantYes;rfl;rfl;(first|with_reducible rfl|(focus (simp only [Bool.not_true,Bool.not_false];done))|(with_reducible assumption)|(focus (simp only [Bool.not_true,Bool.not_false];with_reducible assumption)))));rfl;intro _)|(apply DW.box1;rfl;rfl;rfl;(first|exact zC|(apply wantYes;rfl;rfl;(first|with_reducible rfl|(focus (simp only [Bool.not_true,Bool.not_false];done))|(with_reducible assumption)|(focus (simp only [Bool.not_true,Bool.not_false];with_reducible assumption)))));rfl;rfl;intro _)|(apply DW.sliceData;rfl;rfl;rfl;(first|exact zC|(apply wantYes;rfl;rfl;(first|with_reducible rfl|(focus (simp only [Bool.not_true,Bool.not_false];done))|(with_reducible assumption)|(focus (simp only [Bool.not_true,Bool.not_false];with_reducible assumption)))));rfl;omega;(repeat (first|(apply zP;(first|exact zN|kernel_rfl))|apply zO|apply zQ)))|(apply DW.layA;rfl;rfl;rfl;(first|exact zC|(apply wantYes;rfl;rfl;(first|with_reducible rfl|(focus (simp only [Bool.not_true,Bool.not_false];done))|(with_reducible assumption)|(focus (simp only [Bool.not_true,Bool.not_false];with_reducible assumption)))));infer_instance;infer_instance;rfl;rfl;rfl;rfl;rfl;intro _)|(apply DW.lay1;rfl;rfl;rfl;(first|exact zC|(apply wantYes;rfl;rfl;(first|with_reducible rfl|(focus (simp only [Bool.not_true,Bool.not_false];done))|(with_reducible assumption)|(focus (simp only [Bool.not_true,Bool.not_false];with_reducible assumption)))));infer_instance;infer_instance;rfl;rfl;rfl;rfl;rfl;rfl;intro _)|(apply DW.skip';rfl;rfl;rfl;rfl;(first|with_reducible rfl|(focus (simp only [Bool.not_true,Bool.not_false];done))|(with_reducible assumption)|(focus (simp only [Bool.not_true,Bool.not_false];with_reducible assumption))))|(apply DW.skipU;rfl;rfl;rfl;rfl)|(apply DW.nil;simp only [fsOf_cons,fsOf_nil,fsOf_app,fsOf_tsOf,fsOf_new])|((apply DW.callE;rfl;rfl;rfl;(first|exact zC|(apply wantYes;rfl;rfl;(first|with_reducible rfl|(focus (simp only [Bool.not_true,Bool.not_false];done))|(with_reducible assumption)|(focus (simp only [Bool.not_true,Bool.not_false];with_reducible assumption)))));rfl;infer_instance;(repeat (first|exact ArgsOk.nil|(apply ArgsOk.cons;rfl)));rfl;(repeat (first|exact ReadAll.nil|(apply ReadAll.own;(repeat (first|(apply zP;(first|exact zN|kernel_rfl))|apply zO|apply zQ)))));intro w _ _);fail)|((apply DW.callV;rfl;rfl;rfl;(first|exact zC|(apply wantYes;rfl;rfl;(first|with_reducible rfl|(focus (simp only [Bool.not_true,Bool.not_false];done))|(with_reducible assumption)|(focus (simp only [Bool.not_true,Bool.not_false];with_reducible assumption)))));rfl;infer_instance;(repeat (first|exact ArgsOk.nil|(apply ArgsOk.cons;rfl)));(repeat (first|exact RdV.nil|(apply RdV.plain;first|exact blocks_uca _|exact blocks_nca _|rfl)|apply RdV.none|(apply RdV.ptr;(repeat (first|(apply zP;(first|exact zN|kernel_rfl))|apply zO|apply zQ)))|(apply RdV.own;(first|assumption|omega);(repeat (first|(apply zP;(first|exact zN|kernel_rfl))|apply zO|apply zQ)))|(apply RdV.ext;assumption;rfl)));intro w _ _);fail)|(apply DW.v0;rfl;rfl;rfl;(first|exact zC|(apply wantYes;rfl;rfl;(first|with_reducible rfl|(focus (simp only [Bool.not_true,Bool.not_false];done))|(with_reducible assumption)|(focus (simp only [Bool.not_true,Bool.not_false];with_reducible assumption)))));rfl;(first|(apply ValP.move;rfl)|(apply ValP.nilCheck;rfl)|(apply ValP.assign;rfl)|(apply ValP.extractN;rfl;rfl)|(apply ValP.indexAddrL;rfl;rfl;rfl)|(apply ValP.indexAddrA;rfl;rfl;rfl;omega)|(apply ValP.indexAddrSL;rfl;rfl;decide;omega)|(apply ValP.indexAddrS;rfl;rfl;rfl;omega)|(apply ValP.fieldAddr;rfl;rfl)|(apply ValP.pickT';rfl;(first|with_reducible rfl|(focus (simp only [Bool.not_true,Bool.not_false];done))|(with_reducible assumption)|(focus (simp only [Bool.not_true,Bool.not_false];with_reducible assumption)));rfl)|(apply ValP.pickF';rfl;(first|with_reducible rfl|(focus (simp only [Bool.not_true,Bool.not_false];done))|(with_reducible assumption)|(focus (simp only [Bool.not_true,Bool.not_false];with_reducible assumption)));rfl)|(apply ValP.notT;rfl;(first|with_reducible rfl|(focus (simp only [Bool.not_true,Bool.not_false];done))|(with_reducible assumption)|(focus (simp only [Bool.not_true,Bool.not_false];with_reducible assumption))))|(apply ValP.notF;rfl;(first|with_reducible rfl|(focus (simp only [Bool.not_true,Bool.not_false];done))|(with_reducible assumption)|(focus (simp only [Bool.not_true,Bool.not_false];with_reducible assumption))))|(apply ValP.notB;rfl)|(apply ValP.lenR;rfl;infer_instance;rfl)|(apply ValP.lenStr;rfl;infer_instance;rfl)|(apply ValP.indexSv;infer_instance;rfl;rfl;rfl;(first|assumption|rfl))|(apply ValP.cutStr;infer_instance;rfl;rfl;rfl;omega;(first|omega|(simp;omega)|(simp [hexdigits];omega)))|(apply ValP.cutStrTo;infer_instance;rfl;rfl;(first|omega|(simp;omega)|(simp [hexdigits];omega)))|(apply ValP.cutStrFrom;infer_instance;rfl;rfl;(first|omega|(simp;omega)|(simp [hexdigits];omega)))|(apply ValP.addStr;rfl;rfl;(first|omega|(simp;omega)|(simp [hexdigits];omega)))|(apply ValP.min3;rfl;rfl;rfl)|(apply ValP.max3;rfl;rfl;rfl)|(apply ValP.minZL;rfl;rfl;decide)|(apply ValP.maxZ;rfl;rfl)|(apply ValP.minZ;rfl;rfl)|exact ValP.buildW0|(apply ValP.buildW1L;rfl;decide;rfl)|(apply ValP.buildW1;rfl;(first|omega|(focus ((repeat (first|omega|apply or64|apply xor64|apply and64|apply div64));done))))|(first|(apply ValP.buildA;(repeat (first|exact zB|(apply zA;rfl)));rfl;(simp only [fillC,wc,wrCells,Value.cells,qN,qK,qP,qO,Nat.reduceAdd,Nat.reduceMul,qR,Nat.mul_one];rfl))|(apply zW;infer_instance;infer_instance;(repeat (first|exact zB|(apply zA;rfl)));rfl;(simp only [fillP,wrCells,Value.cells,qL,qM,qN,qK,qP,qO,Nat.reduceAdd,qR];rfl))|(apply ValP.field1;infer_instance;infer_instance;rfl;rfl)|(apply ValP.cutArrAll;infer_instance;infer_instance;rfl))|(apply ValP.indexAL;rfl;rfl;rfl;rfl;rfl)|(apply ValP.indexA;rfl;rfl;rfl;rfl;omega;(first|(apply nth_limb;omega)|(apply nth_wc;omega)))|(apply ValP.cutArr;infer_instance;infer_instance;rfl;rfl;rfl)|(apply ValP.asArr;infer_instance;rfl;rfl)|(apply ValP.convI;rfl;omega;omega)|(apply ValP.convN;rfl;omega;omega)|(apply ValP.convB;rfl)|(apply ValP.makeFunc;(repeat (first|exact ArgsOk.nil|(apply ArgsOk.cons;rfl)));(repeat (first|exact ArgsOk.nil|(apply ArgsOk.cons;rfl))))|(apply ValP.ptrNilT;rfl;rfl)|(apply ValP.ptrNilF;rfl;rfl)|(apply ValP.ptrSame;rfl;rfl)|(apply ValP.sliceDataR;rfl;omega)|fail|first|(apply ValP.quoZL;rfl;rfl;decide;omega;omega)|(apply ValP.quoZK;rfl;rfl;decide;omega;omega)|(apply ValP.quoZ;rfl;rfl;omega;omega)|(apply ValP.remZL;rfl;rfl;decide;omega)|(apply ValP.remZK;rfl;rfl;decide;omega)|(apply ValP.remZ;rfl;rfl;omega)|(apply ValP.addZL;rfl;rfl;decide;omega)|(apply ValP.addZK;rfl;rfl;decide;omega)|(apply ValP.addZ;rfl;rfl;omega)|(apply ValP.mulZL;rfl;rfl;decide;omega)|(apply ValP.mulZK;rfl;rfl;decide;omega)|(apply ValP.mulZ;rfl;rfl;omega)|(apply ValP.subZL;rfl;rfl;decide;omega;omega)|(apply ValP.subZK;rfl;rfl;decide;omega;omega)|(apply ValP.subZ;rfl;rfl;omega;omega)|(apply ValP.quoNL;rfl;rfl;decide;omega;omega)|(apply ValP.quoNK;rfl;rfl;decide;omega;omega)|(apply ValP.quoN;rfl;rfl;omega;omega)|(apply ValP.remNL;rfl;rfl;decide;omega)|(apply ValP.remNK;rfl;rfl;decide;omega)|(apply ValP.remN;rfl;rfl;omega)|(apply ValP.addNL;rfl;rfl;decide)|(apply ValP.addNK;rfl;rfl;decide)|(apply ValP.addN;rfl;rfl)|(apply ValP.mulNL;rfl;rfl;decide)|(apply ValP.mulNK;rfl;rfl;decide)|(apply ValP.mulN;rfl;rfl)|(apply ValP.subNL;rfl;rfl;decide;omega;omega)|(apply ValP.subNK;rfl;rfl;decide;omega;omega)|(apply ValP.subN;rfl;rfl;omega;omega)|(apply ValP.andUL;rfl;rfl;decide;(first|omega|(focus ((repeat (first|omega|apply or64|apply xor64|apply and64|apply div64));done)));(first|omega|(focus ((repeat (first|omega|apply or64|apply xor64|apply and64|apply div64));done))))|(apply ValP.andUK;rfl;rfl;decide;(first|omega|(focus ((repeat (first|omega|apply or64|apply xor64|apply and64|apply div64));done)));(first|omega|(focus ((repeat (first|omega|apply or64|apply xor64|apply and64|apply div64));done))))|(apply ValP.andU;rfl;rfl;(first|omega|(focus ((repeat (first|omega|apply or64|apply xor64|apply and64|apply div64));done)));(first|omega|(focus ((repeat (first|omega|apply or64|apply xor64|apply and64|apply div64));done))))|(apply ValP.orUL;rfl;rfl;decide;(first|omega|(focus ((repeat (first|omega|apply or64|apply xor64|apply and64|apply div64));done)));(first|omega|(focus ((repeat (first|omega|apply or64|apply xor64|apply and64|apply div64));done))))|(apply ValP.orUK;rfl;rfl;decide;(first|omega|(focus ((repeat (first|omega|apply or64|apply xor64|apply and64|apply div64));done)));(first|omega|(focus ((repeat (first|omega|apply or64|apply xor64|apply and64|apply div64));done))))|(apply ValP.orU;rfl;rfl;(first|omega|(focus ((repeat (first|omega|apply or64|apply xor64|apply and64|apply div64));done)));(first|omega|(focus ((repeat (first|omega|apply or64|apply xor64|apply and64|apply div64));done))))|(apply ValP.xorUL;rfl;rfl;decide;(first|omega|(focus ((repeat (first|omega|apply or64|apply xor64|apply and64|apply div64));done)));(first|omega|(focus ((repeat (first|omega|apply or64|apply xor64|apply and64|apply div64));done))))|(apply ValP.xorUK;rfl;rfl;decide;(first|omega|(focus ((repeat (first|omega|apply or64|apply xor64|apply and64|apply div64));done)));(first|omega|(focus ((repeat (first|omega|apply or64|apply xor64|apply and64|apply div64));done))))|(apply ValP.xorU;rfl;rfl;(first|omega|(focus ((repeat (first|omega|apply or64|apply xor64|apply and64|apply div64));done)));(first|omega|(focus ((repeat (first|omega|apply or64|apply xor64|apply and64|apply div64));done))))|(apply ValP.shrUL;rfl;rfl;decide;omega)|(apply ValP.shrU;rfl;rfl;omega)|(apply ValP.shlUL;rfl;rfl;decide;omega)|(apply ValP.shlU;rfl;rfl;omega)|(apply ValP.notU;rfl;(first|omega|(focus ((repeat (first|omega|apply or64|apply xor64|apply and64|apply div64));done))))|(apply ValP.addI;rfl;rfl;omega;omega)|(apply ValP.subI;rfl;rfl;omega;omega)|(apply ValP.mulI;rfl;rfl;omega;omega)|(apply ValP.lssT;rfl;rfl;omega)|(apply ValP.lssF;rfl;rfl;omega)|(apply ValP.leqT;rfl;rfl;omega)|(apply ValP.leqF;rfl;rfl;omega)|(apply ValP.gtrT;rfl;rfl;omega)|(apply ValP.gtrF;rfl;rfl;omega)|(apply ValP.geqT;rfl;rfl;omega)|(apply ValP.geqF;rfl;rfl;omega)|(apply ValP.eqT;rfl;rfl;omega)|(apply ValP.eqF;rfl;rfl;omega)|(apply ValP.neT;rfl;rfl;omega)|(apply ValP.neF;rfl;rfl;omega)|(apply ValP.quoI;rfl;rfl;omega;omega;omega)|(apply ValP.remI;rfl;rfl;omega;omega)|(apply ValP.eqWT;rfl;rfl;(first|assumption|with_reducible rfl))|(apply ValP.neWF;rfl;rfl;(first|assumption|with_reducible rfl))|(apply ValP.eqWF;rfl;rfl;(first|assumption|exact Nat.mod_lt _ (by decide)|omega);(first|assumption|exact Nat.mod_lt _ (by decide)|omega);(first|assumption|omega))|(apply ValP.neWT;rfl;rfl;(first|assumption|exact Nat.mod_lt _ (by decide)|omega);(first|assumption|exact Nat.mod_lt _ (by decide)|omega);(first|assumption|omega))|(apply ValP.eqW;rfl;rfl;(first|assumption|exact Nat.mod_lt _ (by decide)|omega);(first|assumption|exact Nat.mod_lt _ (by decide)|omega))|(apply ValP.neW;rfl;rfl;(first|assumption|exact Nat.mod_lt _ (by decide)|omega);(first|assumption|exact Nat.mod_lt _ (by decide)|omega))|(apply ValP.boolEqT;rfl;rfl;(first|assumption|with_reducible rfl))|(apply ValP.boolNeF;rfl;rfl;(first|assumption|with_reducible rfl))|(apply ValP.strEqT;rfl;rfl;(first|with_reducible rfl|assumption|decide))|(apply ValP.strEqF;rfl;rfl;(first|with_reducible rfl|assumption|decide))|(apply ValP.strNeT;rfl;rfl;(first|with_reducible rfl|assumption|decide))|(apply ValP.strNeF;rfl;rfl;(first|with_reducible rfl|assumption|decide))|(apply ValP.strEq;rfl;rfl)|(apply ValP.strNe;rfl;rfl)|(apply ValP.boolEq;rfl;rfl)|(apply ValP.boolNe;rfl;rfl)|(apply ValP.lss;rfl;rfl)|(apply ValP.leq;rfl;rfl)|(apply ValP.gtr;rfl;rfl)|(apply ValP.geq;rfl;rfl)|(apply ValP.eq;rfl;rfl)|(apply ValP.ne;rfl;rfl)|(apply ValP.cutToL;infer_instance;infer_instance;rfl;rfl;decide;omega)|(apply ValP.cutFromL;infer_instance;infer_instance;rfl;rfl;decide;omega)|(apply ValP.cutTo;infer_instance;infer_instance;rfl;rfl;omega)|(apply ValP.cutFrom;infer_instance;infer_instance;rfl;rfl;omega)|(apply ValP.convU;rfl)))|(apply DW.callX;rfl;rfl;rfl;(first|exact zC|(apply wantYes;rfl;rfl;(first|with_reducible rfl|(focus (simp only [Bool.not_true,Bool.not_false];done))|(with_reducible assumption)|(focus (simp only [Bool.not_true,Bool.not_false];with_reducible assumption)))));rfl;(repeat (first|exact ArgsOk.nil|(apply ArgsOk.cons;rfl)));rfl;fail)))))
 (apply LW.callR;rfl;rfl;infer_instance;(repeat (first|exact ArgsOk.nil|(apply ArgsOk.cons;rfl)));intro w hs)
 exact SK.Clone_calls _ _ w (hf.st hs) hl
 intro v1 g1 h1
 have h1':=h1
 unfold bM at h1'
 obtain ⟨q,kk,rfl⟩:=h1'.form
 (repeat (first|(first|refine thenN ?_|refine thenL ?_|refine thenM ?_|(apply beginI;(repeat (first|apply qA|apply qD|apply qE)))|(apply roundN;(repeat (first|apply qA|apply qD|apply qE)))|refine blkN ?_|refine thenR ?_|refine blkR ?_|refine thenE ?_|refine blkE rfl ?_|refine blkO rfl ?_|refine CW.scope ?_|refine scopeQ.n ?_|refine scopeQ.r ?_|refine scopeQ.e ?_|refine zI ?_|refine zM ?_|refine zL ?_|refine zK ?_|refine zJ ?_|refine CW.exit ?_|refine CW.label ?_|(apply CW.condT;rfl;(first|with_reducible rfl|(focus (simp only [Bool.not_true,Bool.not_false];done))|(with_reducible assumption)|(focus (simp only [Bool.not_true,Bool.not_false];with_reducible assumption))))|(apply CW.condF;rfl;(first|with_reducible rfl|(focus (simp only [Bool.not_true,Bool.not_false];done))|(with_reducible assumption)|(focus (simp only [Bool.not_true,Bool.not_false];with_reducible assumption)))))|(first|(apply LW.load;rfl;rfl;(first|(focus (apply qI;(repeat (first|apply zY|apply zX|apply zZ));done))|exact Known.ext (by assumption) (by simp));(first|exact qJ rfl|exact Rd.one' rfl|exact Rd.one rfl|(apply Rd.one';apply nth_wc;omega)|assumption))|(apply zR;rfl;rfl;(repeat (first|apply qA|apply qD|apply qE));(first|assumption|(apply Wr.whole;rfl;rfl;rfl)))|(apply LW.allocW;rfl;intro _)|(apply zU;rfl;intro _)|(apply zT;rfl;rfl;intro _)|(apply LW.alloc1;rfl;rfl;intro _)|(apply LW.box1;rfl;rfl;rfl;intro _)|apply zV|(apply LW.guardT';rfl;rfl;(first|with_reducible rfl|(focus (simp only [Bool.not_true,Bool.not_false];done))|(with_reducible assumption)|(focus (simp only [Bool.not_true,Bool.not_false];with_reducible assumption))))|(apply LW.guardF';rfl;rfl;(first|with_reducible rfl|(focus (simp only [Bool.not_true,Bool.not_false];done))|(with_reducible assumption)|(focus (simp only [Bool.not_true,Bool.not_false];with_reducible assumption)));rfl)|(apply LW.guardU;rfl;rfl;rfl)|((apply zS;rfl;rfl;infer_instance;(repeat (first|exact ArgsOk.nil|(apply ArgsOk.cons;rfl)));intro w _);fail)|(apply LW.makeMap;rfl;intro _)|(apply LW.mapIns;infer_instance;infer_instance;rfl;rfl;rfl;(repeat (first|apply qA|apply qD|apply qE));rfl;rfl)|(apply LW.mapGet;rfl;infer_instance;infer_instance;infer_instance;rfl;rfl;(first|(focus (apply qI;(repeat (first|apply zY|apply zX|apply zZ));done))|exact Known.ext (by assumption) (by simp));rfl;assumption;rfl)|(apply LW.v0;rfl;rfl;(first|(apply ValP.move;rfl)|(apply ValP.nilCheck;rfl)|(apply ValP.assign;rfl)|(apply ValP.extractN;rfl;rfl)|(apply ValP.indexAddrL;rfl;rfl;rfl)|(apply ValP.indexAddrA;rfl;rfl;rfl;omega)|(apply ValP.indexAddrSL;rfl;rfl;decide;omega)|(apply ValP.indexAddrS;rfl;rfl;rfl;omega)|(apply ValP.fieldAddr;rfl;rfl)|(apply ValP.pickT';rfl;(first|with_reducible rfl|(focus (simp only [Bool.not_true,Bool.not_false];done))|(with_reducible assumption)|(focus (simp only [Bool.not_true,Bool.not_false];with_reducible assumption)));rfl)|(apply ValP.pickF';rfl;(first|with_reducible rfl|(focus (simp only [Bool.not_true,Bool.not_false];done))|(with_reducible assumption)|(focus (simp only [Bool.not_true,Bool.not_false];with_reducible assumption)));rfl)|(apply ValP.notT;rfl;(first|with_reducible rfl|(focus (simp only [Bool.not_true,Bool.not_false];done))|(with_reducible assumption)|(focus (simp only [Bool.not_true,Bool.not_false];with_reducible assumption))))|(apply ValP.notF;rfl;(first|with_reducible rfl|(focus (simp only [Bool.not_true,Bool.not_false];done))|(with_reducible assumption)|(focus (simp only [Bool.not_true,Bool.not_false];with_reducible assumption))))|(apply ValP.notB;rfl)|(apply ValP.lenR;rfl;infer_instance;rfl)|(apply ValP.lenStr;rfl;infer_instance;rfl)|(apply ValP.indexSv;infer_instance;rfl;rfl;rfl;(first|assumption|rfl))|(apply ValP.cutStr;infer_instance;rfl;rfl;rfl;omega;(first|omega|(simp;omega)|(simp [hexdigits];omega)))|(apply ValP.cutStrTo;infer_instance;rfl;rfl;(first|omega|(simp;omega)|(simp [hexdigits];omega)))|(apply ValP.cutStrFrom;infer_instance;rfl;rfl;(first|omega|(simp;omega)|(simp [hexdigits];omega)))|(apply ValP.addStr;rfl;rfl;(first|omega|(simp;omega)|(simp [hexdigits];omega)))|(apply ValP.min3;rfl;rfl;rfl)|(apply ValP.max3;rfl;rfl;rfl)|(apply ValP.minZL;rfl;rfl;decide)|(apply ValP.maxZ;rfl;rfl)|(apply ValP.minZ;rfl;rfl)|exact ValP.buildW0|(apply ValP.buildW1L;rfl;decide;rfl)|(apply ValP.buildW1;rfl;(first|omega|(focus ((repeat (first|omega|apply or64|apply xor64|apply and64|apply div64));done))))|(first|(apply ValP.buildA;(repeat (first|exact zB|(apply zA;rfl)));rfl;(simp only [fillC,wc,wrCells,Value.cells,qN,qK,qP,qO,Nat.reduceAdd,Nat.reduceMul,qR,Nat.mul_one];rfl))|(apply zW;infer_instance;infer_instance;(repeat (first|exact zB|(apply zA;rfl)));rfl;(simp only [fillP,wrCells,Value.cells,qL,qM,qN,qK,qP,qO,Nat.reduceAdd,qR];rfl))|(apply ValP.field1;infer_instance;infer_instance;rfl;rfl)|(apply ValP.cutArrAll;infer_instance;infer_instance;rfl))|(apply ValP.indexAL;rfl;rfl;rfl;rfl;rfl)|(apply ValP.indexA;rfl;rfl;rfl;rfl;omega;(first|(apply nth_limb;omega)|(apply nth_wc;omega)))|(apply ValP.cutArr;infer_instance;infer_instance;rfl;rfl;rfl)|(apply ValP.asArr;infer_instance;rfl;rfl)|(apply ValP.convI;rfl;omega;omega)|(apply ValP.convN;rfl;omega;omega)|(apply ValP.convB;rfl)|(apply ValP.makeFunc;(repeat (first|exact ArgsOk.nil|(apply ArgsOk.cons;rfl)));(repeat (first|exact ArgsOk.nil|(apply ArgsOk.cons;rfl))))|(apply ValP.ptrNilT;rfl;rfl)|(apply ValP.ptrNilF;rfl;rfl)|(apply ValP.ptrSame;rfl;rfl)|(apply ValP.sliceDataR;rfl;omega)|fail|first|(apply ValP.quoZL;rfl;rfl;decide;omega;omega)|(apply ValP.quoZK;rfl;rfl;decide;omega;omega)|(apply ValP.quoZ;rfl;rfl;omega;omega)|(apply ValP.remZL;rfl;rfl;decide;omega)|(apply ValP.remZK;rfl;rfl;decide;omega)|(apply ValP.remZ;rfl;rfl;omega)|(apply ValP.addZL;rfl;rfl;decide;omega)|(apply ValP.addZK;rfl;rfl;decide;omega)|(apply ValP.addZ;rfl;rfl;omega)|(apply ValP.mulZL;rfl;rfl;decide;omega)|(apply ValP.mulZK;rfl;rfl;decide;omega)|(apply ValP.mulZ;rfl;rfl;omega)|(apply ValP.subZL;rfl;rfl;decide;omega;omega)|(apply ValP.subZK;rfl;rfl;decide;omega;omega)|(apply ValP.subZ;rfl;rfl;omega;omega)|(apply ValP.quoNL;rfl;rfl;decide;omega;omega)|(apply ValP.quoNK;rfl;rfl;decide;omega;omega)|(apply ValP.quoN;rfl;rfl;omega;omega)|(apply ValP.remNL;rfl;rfl;decide;omega)|(apply ValP.remNK;rfl;rfl;decide;omega)|(apply ValP.remN;rfl;rfl;omega)|(apply ValP.addNL;rfl;rfl;decide)|(apply ValP.addNK;rfl;rfl;decide)|(apply ValP.addN;rfl;rfl)|(apply ValP.mulNL;rfl;rfl;decide)|(apply ValP.mulNK;rfl;rfl;decide)|(apply ValP.mulN;rfl;rfl)|(apply ValP.subNL;rfl;rfl;decide;omega;omega)|(apply ValP.subNK;rfl;rfl;decide;omega;omega)|(apply ValP.subN;rfl;rfl;omega;omega)|(apply ValP.andUL;rfl;rfl;decide;(first|omega|(focus ((repeat (first|omega|apply or64|apply xor64|apply and64|apply div64));done)));(first|omega|(focus ((repeat (first|omega|apply or64|apply xor64|apply and64|apply div64));done))))|(apply ValP.andUK;rfl;rfl;decide;(first|omega|(focus ((repeat (first|omega|apply or64|apply xor64|apply and64|apply div64));done)));(first|omega|(focus ((repeat (first|omega|apply or64|apply xor64|apply and64|apply div64));done))))|(apply ValP.andU;rfl;rfl;(first|omega|(focus ((repeat (first|omega|apply or64|apply xor64|apply and64|apply div64));done)));(first|omega|(focus ((repeat (first|omega|apply or64|apply xor64|apply and64|apply div64));done))))|(apply ValP.orUL;rfl;rfl;decide;(first|omega|(focus ((repeat (first|omega|apply or64|apply xor64|apply and64|apply div64));done)));(first|omega|(focus ((repeat (first|omega|apply or64|apply xor64|apply and64|apply div64));done))))|(apply ValP.orUK;rfl;rfl;decide;(first|omega|(focus ((repeat (first|omega|apply or64|apply xor64|apply and64|apply div64));done)));(first|omega|(focus ((repeat (first|omega|apply or64|apply xor64|apply and64|apply div64));done))))|(apply ValP.orU;rfl;rfl;(first|omega|(focus ((repeat (first|omega|apply or64|apply xor64|apply and64|apply div64));done)));(first|omega|(focus ((repeat (first|omega|apply or64|apply xor64|apply and64|apply div64));done))))|(apply ValP.xorUL;rfl;rfl;decide;(first|omega|(focus ((repeat (first|omega|apply or64|apply xor64|apply and64|apply div64));done)));(first|omega|(focus ((repeat (first|omega|apply or64|apply xor64|apply and64|apply div64));done))))|(apply ValP.xorUK;rfl;rfl;decide;(first|omega|(focus ((repeat (first|omega|apply or64|apply xor64|apply and64|apply div64));done)));(first|omega|(focus ((repeat (first|omega|apply or64|apply xor64|apply and64|apply div64));done))))|(apply ValP.xorU;rfl;rfl;(first|omega|(focus ((repeat (first|omega|apply or64|apply xor64|apply and64|apply div64));done)));(first|omega|(focus ((repeat (first|omega|apply or64|apply xor64|apply and64|apply div64));done))))|(apply ValP.shrUL;rfl;rfl;decide;omega)|(apply ValP.shrU;rfl;rfl;omega)|(apply ValP.shlUL;rfl;rfl;decide;omega)|(apply ValP.shlU;rfl;rfl;omega)|(apply ValP.notU;rfl;(first|omega|(focus ((repeat (first|omega|apply or64|apply xor64|apply and64|apply div64));done))))|(apply ValP.addI;rfl;rfl;omega;omega)|(apply ValP.subI;rfl;rfl;omega;omega)|(apply ValP.mulI;rfl;rfl;omega;omega)|(apply ValP.lssT;rfl;rfl;omega)|(apply ValP.lssF;rfl;rfl;omega)|(apply ValP.leqT;rfl;rfl;omega)|(apply ValP.leqF;rfl;rfl;omega)|(apply ValP.gtrT;rfl;rfl;omega)|(apply ValP.gtrF;rfl;rfl;omega)|(apply ValP.geqT;rfl;rfl;omega)|(apply ValP.geqF;rfl;rfl;omega)|(apply ValP.eqT;rfl;rfl;omega)|(apply ValP.eqF;rfl;rfl;omega)|(apply ValP.neT;rfl;rfl;omega)|(apply ValP.neF;rfl;rfl;omega)|(apply ValP.quoI;rfl;rfl;omega;omega;omega)|(apply ValP.remI;rfl;rfl;omega;omega)|(apply ValP.eqWT;rfl;rfl;(first|assumption|with_reducible rfl))|(apply ValP.neWF;rfl;rfl;(first|assumption|with_reducible rfl))|(apply ValP.eqWF;rfl;rfl;(first|assumption|exact Nat.mod_lt _ (by decide)|omega);(first|assumption|exact Nat.mod_lt _ (by decide)|omega);(first|assumption|omega))|(apply ValP.neWT;rfl;rfl;(first|assumption|exact Nat.mod_lt _ (by decide)|omega);(first|assumption|exact Nat.mod_lt _ (by decide)|omega);(first|assumption|omega))|(apply ValP.eqW;rfl;rfl;(first|assumption|exact Nat.mod_lt _ (by decide)|omega);(first|assumption|exact Nat.mod_lt _ (by decide)|omega))|(apply ValP.neW;rfl;rfl;(first|assumption|exact Nat.mod_lt _ (by decide)|omega);(first|assumption|exact Nat.mod_lt _ (by decide)|omega))|(apply ValP.boolEqT;rfl;rfl;(first|assumption|with_reducible rfl))|(apply ValP.boolNeF;rfl;rfl;(first|assumption|with_reducible rfl))|(apply ValP.strEqT;rfl;rfl;(first|with_reducible rfl|assumption|decide))|(apply ValP.strEqF;rfl;rfl;(first|with_reducible rfl|assumption|decide))|(apply ValP.strNeT;rfl;rfl;(first|with_reducible rfl|assumption|decide))|(apply ValP.strNeF;rfl;rfl;(first|with_reducible rfl|assumption|decide))|(apply ValP.strEq;rfl;rfl)|(apply ValP.strNe;rfl;rfl)|(apply ValP.boolEq;rfl;rfl)|(apply ValP.boolNe;rfl;rfl)|(apply ValP.lss;rfl;rfl)|(apply ValP.leq;rfl;rfl)|(apply ValP.gtr;rfl;rfl)|(apply ValP.geq;rfl;rfl)|(apply ValP.eq;rfl;rfl)|(apply ValP.ne;rfl;rfl)|(apply ValP.cutToL;infer_instance;infer_instance;rfl;rfl;decide;omega)|(apply ValP.cutFromL;infer_instance;infer_instance;rfl;rfl;decide;omega)|(apply ValP.cutTo;infer_instance;infer_instance;rfl;rfl;omega)|(apply ValP.cutFrom;infer_instance;infer_instance;rfl;rfl;omega)|(apply ValP.convU;rfl)))|(apply LW.toUnsafe;rfl;rfl;(first|(focus (apply qI;(repeat (first|apply zY|apply zX|apply zZ));done))|exact Known.ext (by assumption) (by simp));rfl;rfl)|(apply LW.fromUnsafe;rfl;rfl;(first|(focus (apply qI;(repeat (first|apply zY|apply zX|apply zZ));done))|exact Known.ext (by assumption) (by simp));kernel_rfl)|(apply LW.layA;rfl;infer_instance;infer_instance;rfl;rfl;rfl;rfl;rfl;intro _)|(apply LW.lay1;rfl;infer_instance;infer_instance;rfl;rfl;rfl;rfl;rfl;rfl;intro _)|(apply LW.v0;rfl;rfl;apply ValP.callX;rfl;(repeat (first|exact ArgsOk.nil|(apply ArgsOk.cons;rfl)));fail))|((apply CW.pre;first|refine AnyW.any 1 mixed (by decide +kernel) ?_|refine AnyW.any 2 mixed (by decide +kernel) ?_|refine AnyW.any 3 mixed (by decide +kernel) ?_|refine AnyW.any 4 mixed (by decide +kernel) ?_|refine AnyW.any 5 mixed (by decide +kernel) ?_|refine AnyW.any 6 mixed (by decide +kernel) ?_|refine AnyW.any 7 mixed (by decide +kernel) ?_|refine AnyW.any 8 mixed (by decide +kernel) ?_|refine AnyW.any 9 mixed (by decide +kernel) ?_|refine AnyW.any 10 mixed (by decide +kernel) ?_|refine AnyW.any 11 mixed (by decide +kernel) ?_|refine AnyW.any 12 mixed (by decide +kernel) ?_|refine AnyW.any 13 mixed (by decide +kernel) ?_|refine AnyW.any 14 mixed (by decide +kernel) ?_|refine AnyW.any 15 mixed (by decide +kernel) ?_|refine AnyW.any 16 mixed (by decide +kernel) ?_|refine AnyW.any 17 mixed (by decide +kernel) ?_|refine AnyW.any 18 mixed (by decide +kernel) ?_|refine AnyW.any 19 mixed (by decide +kernel) ?_|refine AnyW.any 20 mixed (by decide +kernel) ?_|refine AnyW.any 21 mixed (by decide +kernel) ?_|refine AnyW.any 22 mixed (by decide +kernel) ?_|refine AnyW.any 23 mixed (by decide +kernel) ?_|refine AnyW.any 24 mixed (by decide +kernel) ?_|refine AnyW.any 25 mixed (by decide +kernel) ?_|refine AnyW.any 26 mixed (by decide +kernel) ?_|refine AnyW.any 27 mixed (by decide +kernel) ?_|refine AnyW.any 28 mixed (by decide +kernel) ?_|refine AnyW.any 29 mixed (by decide +kernel) ?_|refine AnyW.any 30 mixed (by decide +kernel) ?_|refine AnyW.any 31 mixed (by decide +kernel) ?_|refine AnyW.any 32 mixed (by decide +kernel) ?_|refine AnyW.any 33 mixed (by decide +kernel) ?_|refine AnyW.any 34 mixed (by decide +kernel) ?_|refine AnyW.any 35 mixed (by decide +kernel) ?_|refine AnyW.any 36 mixed (by decide +kernel) ?_|refine AnyW.any 37 mixed (by decide +kernel) ?_|refine AnyW.any 38 mixed (by decide +kernel) ?_|refine AnyW.any 39 mixed (by decide +kernel) ?_|refine AnyW.any 40 mixed (by decide +kernel) ?_|refine AnyW.any 41 mixed (by decide +kernel) ?_|refine AnyW.any 42 mixed (by decide +kernel) ?_|refine AnyW.any 43 mixed (by decide +kernel) ?_|refine AnyW.any 44 mixed (by decide +kernel) ?_|refine AnyW.any 45 mixed (by decide +kernel) ?_|refine AnyW.any 46 mixed (by decide +kernel) ?_|refine AnyW.any 47 mixed (by decide +kernel) ?_|refine AnyW.any 48 mixed (by decide +kernel) ?_|refine AnyW.any 49 mixed (by decide +kernel) ?_|refine AnyW.any 50 mixed (by decide +kernel) ?_|refine AnyW.any 51 mixed (by decide +kernel) ?_|refine AnyW.any 52 mixed (by decide +kernel) ?_|refine AnyW.any 53 mixed (by decide +kernel) ?_|refine AnyW.any 54 mixed (by decide +kernel) ?_|refine AnyW.any 55 mixed (by decide +kernel) ?_|refine AnyW.any 56 mixed (by decide +kernel) ?_|refine AnyW.any 57 mixed (by decide +kernel) ?_|refine AnyW.any 58 mixed (by decide +kernel) ?_|refine AnyW.any 59 mixed (by decide +kernel) ?_|refine AnyW.any 60 mixed (by decide +kernel) ?_);(try simp only [tsOf_cons,tsOf_nil,tsOf_app]);repeat (first|fail|(apply qH;rfl;rfl;rfl;(first|exact zC|(apply wantYes;rfl;rfl;(first|with_reducible rfl|(focus (simp only [Bool.not_true,Bool.not_false];done))|(with_reducible assumption)|(focus (simp only [Bool.not_true,Bool.not_false];with_reducible assumption)))));rfl;(repeat (first|(apply zP;(first|exact zN|kernel_rfl))|apply zO|apply zQ));(first|exact qJ rfl|exact Rd.one' rfl|exact Rd.one rfl|(apply Rd.one';apply nth_wc;omega)|assumption))|(apply DW.loadX;rfl;rfl;rfl;(first|exact zC|(apply wantYes;rfl;rfl;(first|with_reducible rfl|(focus (simp only [Bool.not_true,Bool.not_false];done))|(with_reducible assumption)|(focus (simp only [Bool.not_true,Bool.not_false];with_reducible assumption)))));rfl;assumption;simp;(first|exact qJ rfl|exact Rd.one' rfl|exact Rd.one rfl|(apply Rd.one';apply nth_wc;omega)|assumption))|(apply DW.store;rfl;rfl;(first|exact zC|(apply wantYes;rfl;rfl;(first|with_reducible rfl|(focus (simp only [Bool.not_true,Bool.not_false];done))|(with_reducible assumption)|(focus (simp only [Bool.not_true,Bool.not_false];with_reducible assumption)))));rfl;rfl;(repeat (first|(apply TSet.head;(first|exact zN|kernel_rfl);(first|exact zN|kernel_rfl))|apply TSet.tail|apply TSet.app));(first|assumption|(apply Wr.whole;rfl;rfl;rfl)))|(apply DW.allocW;rfl;rfl;rfl;(first|exact zC|(apply wantYes;rfl;rfl;(first|with_reducible rfl|(focus (simp only [Bool.not_true,Bool.not_false];done))|(with_reducible assumption)|(focus (simp only [Bool.not_true,Bool.not_false];with_reducible assumption)))));intro _)|(apply DW.allocA;rfl;rfl;rfl;(first|exact zC|(apply wantYes;rfl;rfl;(first|with_reducible rfl|(focus (simp only [Bool.not_true,Bool.not_false];done))|(with_reducible assumption)|(focus (simp only [Bool.not_true,Bool.not_false];with_reducible assumption)))));intro _)|(apply DW.boxA;rfl;rfl;rfl;(first|exact zC|(apply wantYes;rfl;rfl;(first|with_reducible rfl|(focus (simp only [Bool.not_true,Bool.not_false];done))|(with_reducible assumption)|(focus (simp only [Bool.not_true,Bool.not_false];with_reducible assumption)))));rfl;intro _)|(apply DW.alloc1;rfl;rfl;rfl;(first|exact zC|(apply wantYes;rfl;rfl;(first|with_reducible rfl|(focus (simp only [Bool.not_true,Bool.not_false];done))|(with_reducible assumption)|(focus (simp only [Bool.not_true,Bool.not_false];with_reducible assumption)))));rfl;intro _)|(apply DW.box1;rfl;rfl;rfl;(first|exact zC|(apply wantYes;rfl;rfl;(first|with_reducible rfl|(focus (simp only [Bool.not_true,Bool.not_false];done))|(with_reducible assumption)|(focus (simp only [Bool.not_true,Bool.not_false];with_reducible assumption)))));rfl;rfl;intro _)|(apply DW.sliceData;rfl;rfl;rfl;(first|exact zC|(apply wantYes;rfl;rfl;(first|with_reducible rfl|(focus (simp only [Bool.not_true,Bool.not_false];done))|(with_reducible assumption)|(focus (simp only [Bool.not_true,Bool.not_false];with_reducible assumption)))));rfl;omega;(repeat (first|(apply zP;(first|exact zN|kernel_rfl))|apply zO|apply zQ)))|(apply DW.layA;rfl;rfl;rfl;(first|exact zC|(apply wantYes;rfl;rfl;(first|with_reducible rfl|(focus (simp only [Bool.not_true,Bool.not_false];done))|(with_reducible assumption)|(focus (simp only [Bool.not_true,Bool.not_false];with_reducible assumption)))));infer_instance;infer_instance;rfl;rfl;rfl;rfl;rfl;intro _)|(apply DW.lay1;rfl;rfl;rfl;(first|exact zC|(apply wantYes;rfl;rfl;(first|with_reducible rfl|(focus (simp only [Bool.not_true,Bool.not_false];done))|(with_reducible assumption)|(focus (simp only [Bool.not_true,Bool.not_false];with_reducible assumption)))));infer_instance;infer_instance;rfl;rfl;rfl;rfl;rfl;rfl;intro _)|(apply DW.skip';rfl;rfl;rfl;rfl;(first|with_reducible rfl|(focus (simp only [Bool.not_true,Bool.not_false];done))|(with_reducible assumption)|(focus (simp only [Bool.not_true,Bool.not_false];with_reducible assumption))))|(apply DW.skipU;rfl;rfl;rfl;rfl)|(apply DW.nil;simp only [fsOf_cons,fsOf_nil,fsOf_app,fsOf_tsOf,fsOf_new])|((apply DW.callE;rfl;rfl;rfl;(first|exact zC|(apply wantYes;rfl;rfl;(first|with_reducible rfl|(focus (simp only [Bool.not_true,Bool.not_false];done))|(with_reducible assumption)|(focus (simp only [Bool.not_true,Bool.not_false];with_reducible assumption)))));rfl;infer_instance;(repeat (first|exact ArgsOk.nil|(apply ArgsOk.cons;rfl)));rfl;(repeat (first|exact ReadAll.nil|(apply ReadAll.own;(repeat (first|(apply zP;(first|exact zN|kernel_rfl))|apply zO|apply zQ)))));intro w _ _);fail)|((apply DW.callV;rfl;rfl;rfl;(first|exact zC|(apply wantYes;rfl;rfl;(first|with_reducible rfl|(focus (simp only [Bool.not_true,Bool.not_false];done))|(with_reducible assumption)|(focus (simp only [Bool.not_true,Bool.not_false];with_reducible assumption)))));rfl;infer_instance;(repeat (first|exact ArgsOk.nil|(apply ArgsOk.cons;rfl)));(repeat (first|exact RdV.nil|(apply RdV.plain;first|exact blocks_uca _|exact blocks_nca _|rfl)|apply RdV.none|(apply RdV.ptr;(repeat (first|(apply zP;(first|exact zN|kernel_rfl))|apply zO|apply zQ)))|(apply RdV.own;(first|assumption|omega);(repeat (first|(apply zP;(first|exact zN|kernel_rfl))|apply zO|apply zQ)))|(apply RdV.ext;assumption;rfl)));intro w _ _);fail)|(apply DW.v0;rfl;rfl;rfl;(first|exact zC|(apply wantYes;rfl;rfl;(first|with_reducible rfl|(focus (simp only [Bool.not_true,Bool.not_false];done))|(with_reducible assumption)|(focus (simp only [Bool.not_true,Bool.not_false];with_reducible assumption)))));rfl;(first|(apply ValP.move;rfl)|(apply ValP.nilCheck;rfl)|(apply ValP.assign;rfl)|(apply ValP.extractN;rfl;rfl)|(apply ValP.indexAddrL;rfl;rfl;rfl)|(apply ValP.indexAddrA;rfl;rfl;rfl;omega)|(apply ValP.indexAddrSL;rfl;rfl;decide;omega)|(apply ValP.indexAddrS;rfl;rfl;rfl;omega)|(apply ValP.fieldAddr;rfl;rfl)|(apply ValP.pickT';rfl;(first|with_reducible rfl|(focus (simp only [Bool.not_true,Bool.not_false];done))|(with_reducible assumption)|(focus (simp only [Bool.not_true,Bool.not_false];with_reducible assumption)));rfl)|(apply ValP.pickF';rfl;(first|with_reducible rfl|(focus (simp only [Bool.not_true,Bool.not_false];done))|(with_reducible assumption)|(focus (simp only [Bool.not_true,Bool.not_false];with_reducible assumption)));rfl)|(apply ValP.notT;rfl;(first|with_reducible rfl|(focus (simp only [Bool.not_true,Bool.not_false];done))|(with_reducible assumption)|(focus (simp only [Bool.not_true,Bool.not_false];with_reducible assumption))))|(apply ValP.notF;rfl;(first|with_reducible rfl|(focus (simp only [Bool.not_true,Bool.not_false];done))|(with_reducible assumption)|(focus (simp only [Bool.not_true,Bool.not_false];with_reducible assumption))))|(apply ValP.notB;rfl)|(apply ValP.lenR;rfl;infer_instance;rfl)|(apply ValP.lenStr;rfl;infer_instance;rfl)|(apply ValP.indexSv;infer_instance;rfl;rfl;rfl;(first|assumption|rfl))|(apply ValP.cutStr;infer_instance;rfl;rfl;rfl;omega;(first|omega|(simp;omega)|(simp [hexdigits];omega)))|(apply ValP.cutStrTo;infer_instance;rfl;rfl;(first|omega|(simp;omega)|(simp [hexdigits];omega)))|(apply ValP.cutStrFrom;infer_instance;rfl;rfl;(first|omega|(simp;omega)|(simp [hexdigits];omega)))|(apply ValP.addStr;rfl;rfl;(first|omega|(simp;omega)|(simp [hexdigits];omega)))|(apply ValP.min3;rfl;rfl;rfl)|(apply ValP.max3;rfl;rfl;rfl)|(apply ValP.minZL;rfl;rfl;decide)|(apply ValP.maxZ;rfl;rfl)|(apply ValP.minZ;rfl;rfl)|exact ValP.buildW0|(apply ValP.buildW1L;rfl;decide;rfl)|(apply ValP.buildW1;rfl;(first|omega|(focus ((repeat (first|omega|apply or64|apply xor64|apply and64|apply div64));done))))|(first|(apply ValP.buildA;(repeat (first|exact zB|(apply zA;rfl)));rfl;(simp only [fillC,wc,wrCells,Value.cells,qN,qK,qP,qO,Nat.reduceAdd,Nat.reduceMul,qR,Nat.mul_one];rfl))|(apply zW;infer_instance;infer_instance;(repeat (first|exact zB|(apply zA;rfl)));rfl;(simp only [fillP,wrCells,Value.cells,qL,qM,qN,qK,qP,qO,Nat.reduceAdd,qR];rfl))|(apply ValP.field1;infer_instance;infer_instance;rfl;rfl)|(apply ValP.cutArrAll;infer_instance;infer_instance;rfl))|(apply ValP.indexAL;rfl;rfl;rfl;rfl;rfl)|(apply ValP.indexA;rfl;rfl;rfl;rfl;omega;(first|(apply nth_limb;omega)|(apply nth_wc;omega)))|(apply ValP.cutArr;infer_instance;infer_instance;rfl;rfl;rfl)|(apply ValP.asArr;infer_instance;rfl;rfl)|(apply ValP.convI;rfl;omega;omega)|(apply ValP.convN;rfl;omega;omega)|(apply ValP.convB;rfl)|(apply ValP.makeFunc;(repeat (first|exact ArgsOk.nil|(apply ArgsOk.cons;rfl)));(repeat (first|exact ArgsOk.nil|(apply ArgsOk.cons;rfl))))|(apply ValP.ptrNilT;rfl;rfl)|(apply ValP.ptrNilF;rfl;rfl)|(apply ValP.ptrSame;rfl;rfl)|(apply ValP.sliceDataR;rfl;omega)|fail|first|(apply ValP.quoZL;rfl;rfl;decide;omega;omega)|(apply ValP.quoZK;rfl;rfl;decide;omega;omega)|(apply ValP.quoZ;rfl;rfl;omega;omega)|(apply ValP.remZL;rfl;rfl;decide;omega)|(apply ValP.remZK;rfl;rfl;decide;omega)|(apply ValP.remZ;rfl;rfl;omega)|(apply ValP.addZL;rfl;rfl;decide;omega)|(apply ValP.addZK;rfl;rfl;decide;omega)|(apply ValP.addZ;rfl;rfl;omega)|(apply ValP.mulZL;rfl;rfl;decide;omega)|(apply ValP.mulZK;rfl;rfl;decide;omega)|(apply ValP.mulZ;rfl;rfl;omega)|(apply ValP.subZL;rfl;rfl;decide;omega;omega)|(apply ValP.subZK;rfl;rfl;decide;omega;omega)|(apply ValP.subZ;rfl;rfl;omega;omega)|(apply ValP.quoNL;rfl;rfl;decide;omega;omega)|(apply ValP.quoNK;rfl;rfl;decide;omega;omega)|(apply ValP.quoN;rfl;rfl;omega;omega)|(apply ValP.remNL;rfl;rfl;decide;omega)|(apply ValP.remNK;rfl;rfl;decide;omega)|(apply ValP.remN;rfl;rfl;omega)|(apply ValP.addNL;rfl;rfl;decide)|(apply ValP.addNK;rfl;rfl;decide)|(apply ValP.addN;rfl;rfl)|(apply ValP.mulNL;rfl;rfl;decide)|(apply ValP.mulNK;rfl;rfl;decide)|(apply ValP.mulN;rfl;rfl)|(apply ValP.subNL;rfl;rfl;decide;omega;omega)|(apply ValP.subNK;rfl;rfl;decide;omega;omega)|(apply ValP.subN;rfl;rfl;omega;omega)|(apply ValP.andUL;rfl;rfl;decide;(first|omega|(focus ((repeat (first|omega|apply or64|apply xor64|apply and64|apply div64));done)));(first|omega|(focus ((repeat (first|omega|apply or64|apply xor64|apply and64|apply div64));done))))|(apply ValP.andUK;rfl;rfl;decide;(first|omega|(focus ((repeat (first|omega|apply or64|apply xor64|apply and64|apply div64));done)));(first|omega|(focus ((repeat (first|omega|apply or64|apply xor64|apply and64|apply div64));done))))|(apply ValP.andU;rfl;rfl;(first|omega|(focus ((repeat (first|omega|apply or64|apply xor64|apply and64|apply div64));done)));(first|omega|(focus ((repeat (first|omega|apply or64|apply xor64|apply and64|apply div64));done))))|(apply ValP.orUL;rfl;rfl;decide;(first|omega|(focus ((repeat (first|omega|apply or64|apply xor64|apply and64|apply div64));done)));(first|omega|(focus ((repeat (first|omega|apply or64|apply xor64|apply and64|apply div64));done))))|(apply ValP.orUK;rfl;rfl;decide;(first|omega|(focus ((repeat (first|omega|apply or64|apply xor64|apply and64|apply div64));done)));(first|omega|(focus ((repeat (first|omega|apply or64|apply xor64|apply and64|apply div64));done))))|(apply ValP.orU;rfl;rfl;(first|omega|(focus ((repeat (first|omega|apply or64|apply xor64|apply and64|apply div64));done)));(first|omega|(focus ((repeat (first|omega|apply or64|apply xor64|apply and64|apply div64));done))))|(apply ValP.xorUL;rfl;rfl;decide;(first|omega|(focus ((repeat (first|omega|apply or64|apply xor64|apply and64|apply div64));done)));(first|omega|(focus ((repeat (first|omega|apply or64|apply xor64|apply and64|apply div64));done))))|(apply ValP.xorUK;rfl;rfl;decide;(first|omega|(focus ((repeat (first|omega|apply or64|apply xor64|apply and64|apply div64));done)));(first|omega|(focus ((repeat (first|omega|apply or64|apply xor64|apply and64|apply div64));done))))|(apply ValP.xorU;rfl;rfl;(first|omega|(focus ((repeat (first|omega|apply or64|apply xor64|apply and64|apply div64));done)));(first|omega|(focus ((repeat (first|omega|apply or64|apply xor64|apply and64|apply div64));done))))|(apply ValP.shrUL;rfl;rfl;decide;omega)|(apply ValP.shrU;rfl;rfl;omega)|(apply ValP.shlUL;rfl;rfl;decide;omega)|(apply ValP.shlU;rfl;rfl;omega)|(apply ValP.notU;rfl;(first|omega|(focus ((repeat (first|omega|apply or64|apply xor64|apply and64|apply div64));done))))|(apply ValP.addI;rfl;rfl;omega;omega)|(apply ValP.subI;rfl;rfl;omega;omega)|(apply ValP.mulI;rfl;rfl;omega;omega)|(apply ValP.lssT;rfl;rfl;omega)|(apply ValP.lssF;rfl;rfl;omega)|(apply ValP.leqT;rfl;rfl;omega)|(apply ValP.leqF;rfl;rfl;omega)|(apply ValP.gtrT;rfl;rfl;omega)|(apply ValP.gtrF;rfl;rfl;omega)|(apply ValP.geqT;rfl;rfl;omega)|(apply ValP.geqF;rfl;rfl;omega)|(apply ValP.eqT;rfl;rfl;omega)|(apply ValP.eqF;rfl;rfl;omega)|(apply ValP.neT;rfl;rfl;omega)|(apply ValP.neF;rfl;rfl;omega)|(apply ValP.quoI;rfl;rfl;omega;omega;omega)|(apply ValP.remI;rfl;rfl;omega;omega)|(apply ValP.eqWT;rfl;rfl;(first|assumption|with_reducible rfl))|(apply ValP.neWF;rfl;rfl;(first|assumption|with_reducible rfl))|(apply ValP.eqWF;rfl;rfl;(first|assumption|exact Nat.mod_lt _ (by decide)|omega);(first|assumption|exact Nat.mod_lt _ (by decide)|omega);(first|assumption|omega))|(apply ValP.neWT;rfl;rfl;(first|assumption|exact Nat.mod_lt _ (by decide)|omega);(first|assumption|exact Nat.mod_lt _ (by decide)|omega);(first|assumption|omega))|(apply ValP.eqW;rfl;rfl;(first|assumption|exact Nat.mod_lt _ (by decide)|omega);(first|assumption|exact Nat.mod_lt _ (by decide)|omega))|(apply ValP.neW;rfl;rfl;(first|assumption|exact Nat.mod_lt _ (by decide)|omega);(first|assumption|exact Nat.mod_lt _ (by decide)|omega))|(apply ValP.boolEqT;rfl;rfl;(first|assumption|with_reducible rfl))|(apply ValP.boolNeF;rfl;rfl;(first|assumption|with_reducible rfl))|(apply ValP.strEqT;rfl;rfl;(first|with_reducible rfl|assumption|decide))|(apply ValP.strEqF;rfl;rfl;(first|with_reducible rfl|assumption|decide))|(apply ValP.strNeT;rfl;rfl;(first|with_reducible rfl|assumption|decide))|(apply ValP.strNeF;rfl;rfl;(first|with_reducible rfl|assumption|decide))|(apply ValP.strEq;rfl;rfl)|(apply ValP.strNe;rfl;rfl)|(apply ValP.boolEq;rfl;rfl)|(apply ValP.boolNe;rfl;rfl)|(apply ValP.lss;rfl;rfl)|(apply ValP.leq;rfl;rfl)|(apply ValP.gtr;rfl;rfl)|(apply ValP.geq;rfl;rfl)|(apply ValP.eq;rfl;rfl)|(apply ValP.ne;rfl;rfl)|(apply ValP.cutToL;infer_instance;infer_instance;rfl;rfl;decide;omega)|(apply ValP.cutFromL;infer_instance;infer_instance;rfl;rfl;decide;omega)|(apply ValP.cutTo;infer_instance;infer_instance;rfl;rfl;omega)|(apply ValP.cutFrom;infer_instance;infer_instance;rfl;rfl;omega)|(apply ValP.convU;rfl)))|(apply DW.callX;rfl;rfl;rfl;(first|exact zC|(apply wantYes;rfl;rfl;(first|with_reducible rfl|(focus (simp only [Bool.not_true,Bool.not_false];done))|(with_reducible assumption)|(focus (simp only [Bool.not_true,Bool.not_false];with_reducible assumption)))));rfl;(repeat (first|exact ArgsOk.nil|(apply ArgsOk.cons;rfl)));rfl;fail)))))
 exact fin (vs:=[.slice q (l.take k).length kk]) g1 (.inl rfl) rfl rfl (by (repeat (first|exact zF|(apply zD;first|exact zG rfl|(apply zH;rfl;(first|(focus (apply qI;(repeat (first|apply zY|apply zX|apply zZ));done))|exact Known.ext (by assumption) (by simp));(first|exact qJ rfl|exact Rd.one' rfl|exact Rd.one rfl|(apply Rd.one';apply nth_wc;omega)|assumption)))))) (qT _ _) h1
def fewQ (L:FrL):FrL:=⟨L.cl.take 300,L.ws.take 65,L.ms.take 1025,L.il.take 1025,L.bl.take 1025⟩
def FewR (f:FrV) (L:FrL) (v:Value) (gs:Fs):Prop:=∃ c s m i b,v=frv (f.rows c s m i b)∧FrO (f.rows c s m i b) (fewQ L) gs
theorem row_fewW1 {w:World} {l:List Nat} {n k c:Nat} {p:Option Addr} (h:RowAt w 4 (.slice p l.length c) l.length (wcs l)) (hn:n=min l.length k):RowAt w 4 (.slice p n c) (l.take k).length (wcs (l.take k)):=by
 subst hn
 have h2:=h.take (k:=min l.length k) (by omega)
 rw [wcs_take] at h2
 rw [show l.take k=l.take (min l.length k) by rw [Nat.min_comm,← List.take_take,List.take_length]]
 rw [show (l.take (min l.length k)).length=min l.length k by rw [List.length_take];omega]
 exact h2
theorem few14_calls (f:FrV) (L:FrL) (w:World) (h:FrRows w f L):Calls Tryz.prog 9 #[frv f] w (RetG w [] (FewR f L)):=by
 obtain ⟨code,pc,stk,mem,gas,self,frm,val,inp,back,stat⟩:=f
 obtain ⟨h0,h2,h3,h11,h12⟩:=h
 dsimp only at h0 h2 h3 h11 h12
 obtain ⟨p0,c0,rfl,hle0,hm0⟩:=id h0.form
 obtain ⟨p2,c2,rfl,hle2,hm2⟩:=id h2.form
 obtain ⟨p3,c3,rfl,hle3,hm3⟩:=id h3.form
 obtain ⟨p11,c11,rfl,hle11,hm11⟩:=id h11.form
 obtain ⟨p12,c12,rfl,hle12,hm12⟩:=id h12.form
 simp only [maxLen] at hm0 hm2 hm3 hm11 hm12
 have hf2:=row_fewW1 h2 (k:=65) rfl
 have hl2:(L.ws.take 65).length≤100000:=by rw [List.length_take];omega
 refine enter (args:=[_]) _ [] [] Tryz.func9 rfl Tryz.ntmps9 rfl (by simp) .nil ?_
 (refine sRz ?_;apply zT;rfl;rfl;intro _;apply zU;rfl;intro _;refine nNz<|zI ?_)
 apply CW.pre
 (refine AnyW.anyM [(2,bM (L.cl.take 300)),(5,bM (L.il.take 1025)),(8,bM (L.bl.take 1025))] 10 mixed (by decide +kernel) ?_)
 ((try simp only [tsOf_cons,tsOf_nil,tsOf_app]);refine dvz (.fieldAddr rfl rfl) ?_;apply qH;rfl;rfl;rfl;exact zC;rfl;apply zO;apply zP;exact zN;exact fr_rd0)
 (apply DW.manyV;rfl;rfl;rfl;exact zC;rfl;infer_instance;exact .cons rfl (.cons rfl .nil);apply RdV.ext;assumption;rfl;apply RdV.plain;rfl;exact RdV.nil;intro w _ _)
 exact few1_calls _ _ 300 (by omega) w (h0.bel (by assumption))
 intro v1 g1 h1
 ((try simp only [tsOf_cons,tsOf_nil,tsOf_app]);refine dvz (.fieldAddr rfl rfl) ?_;apply qH;rfl;rfl;rfl;exact zC;rfl;apply zQ;apply zO;apply zP;exact zN;exact fr_rd11)
 (apply DW.manyV;rfl;rfl;rfl;exact zC;rfl;infer_instance;exact .cons rfl (.cons rfl .nil);apply RdV.ext;assumption;rfl;apply RdV.plain;rfl;exact RdV.nil;intro w _ _)
 exact few1_calls _ _ 1025 (by omega) w (h11.bel (by assumption))
 intro v4 g4 h4
 ((try simp only [tsOf_cons,tsOf_nil,tsOf_app]);refine dvz (.fieldAddr rfl rfl) ?_;apply qH;rfl;rfl;rfl;exact zC;rfl;apply zQ;apply zQ;apply zO;apply zP;exact zN;exact fr_rd12)
 (apply DW.manyV;rfl;rfl;rfl;exact zC;rfl;infer_instance;exact .cons rfl (.cons rfl .nil);apply RdV.ext;assumption;rfl;apply RdV.plain;rfl;exact RdV.nil;intro w _ _)
 exact few1_calls _ _ 1025 (by omega) w (h12.bel (by assumption))
 intro v5 g5 h5
 have h1':=h1
 have h4':=h4
 have h5':=h5
 unfold bM at h1' h4' h5'
 obtain ⟨q1,k1,rfl⟩:=h1'.form
 obtain ⟨q4,k4,rfl⟩:=h4'.form
 obtain ⟨q5,k5,rfl⟩:=h5'.form
 ((try simp only [tsOf_cons,tsOf_nil,tsOf_app]);refine dvz (.fieldAddr rfl rfl) ?_;apply DW.nil;simp only [fsOf_cons,fsOf_nil,fsOf_app,fsOf_tsOf,fsOf_new,fsOf_tag])
 (refine zR rfl rfl (.app (.app (.app (.tail .head)))) fr_wr0<|vFz ?_;refine zR rfl rfl (.app (.app (.app (.tail .head)))) fr_wr11<|vFz ?_;refine zR rfl rfl (.app (.app (.app (.tail .head)))) fr_wr12<|nSz<|vFz<|vFz<|ldz rfl (.app (.app (.app (.tail .head)))) fr_rd2s<|vFz<|vFz<|ldz rfl (.app (.app (.app (.tail .head)))) fr_rd2s<|lvz (.lenR rfl inferInstance rfl) ?_;refine lvz (.minZL rfl rfl (by decide)) ?_;refine lvz (.cutTo inferInstance inferInstance rfl rfl (by omega)) ?_)
 (apply LW.callR;rfl;rfl;infer_instance;exact .cons rfl .nil;intro w hs)
 exact CloneW_calls _ _ w (hf2.st hs) hl2
 intro v2 g2 hh2
 have h2':=hh2
 unfold wM at h2'
 obtain ⟨q2,k2,rfl⟩:=h2'.form
 (refine vFz<|vFz ?_;refine zR rfl rfl (.app (.app (.app (.app (.tail .head))))) fr_wr2<|nSz<|vFz<|vFz<|ldz rfl (.app (.app (.app (.app (.tail .head))))) fr_rd3 ?_)
 (apply LW.callR;rfl;rfl;infer_instance;exact .cons rfl (.cons rfl .nil);intro w hs)
 exact few1_calls _ _ 1025 (by omega) w (h3.st hs)
 intro v3 g3 hh3
 have h3':=hh3
 unfold bM at h3'
 obtain ⟨q3,k3,rfl⟩:=h3'.form
 have hsl:FrSl ⟨.slice q1 (L.cl.take 300).length k1,pc,.slice q2 (L.ws.take 65).length k2,.slice q3 (L.ms.take 1025).length k3,gas,self,frm,val,.slice q4 (L.il.take 1025).length k4,.slice q5 (L.bl.take 1025).length k5,stat⟩:=⟨⟨_,_,_,rfl⟩,⟨_,_,_,rfl⟩,⟨_,_,_,rfl⟩,⟨_,_,_,rfl⟩,⟨_,_,_,rfl⟩⟩
 (refine vFz<|vFz ?_;refine zR rfl rfl (.app (.app (.app (.app (.app (.tail .head)))))) fr_wr3<|nSz<|ldz rfl (.app (.app (.app (.app (.app (.tail .head)))))) fr_rdW ?_;apply zR;rfl;rfl;apply qE;apply qE;apply qE;apply qE;apply qE;apply qA;apply fr_wrW;rfl;assumption;refine nNz<|zK ?_)
 refine fin (vs:=[frv ⟨.slice q1 (L.cl.take 300).length k1,pc,.slice q2 (L.ws.take 65).length k2,.slice q3 (L.ms.take 1025).length k3,gas,self,frm,val,.slice q4 (L.il.take 1025).length k4,.slice q5 (L.bl.take 1025).length k5,stat⟩]) (g3++(g2++(g5++(g4++g1)))) (.inl rfl) rfl rfl (by (apply zD;apply zH;rfl;apply qI;apply zZ;apply zZ;apply zZ;apply zZ;apply zZ;apply zY;exact fr_rdW;exact zF)) ?_ ⟨_,_,_,_,_,rfl,g1,g2,g3,g4,g5,?_,h1,hh2,hh3,h4,h5⟩
 ·exact List.Sublist.append_left (List.Sublist.append_left (List.Sublist.append_left (List.Sublist.append_left (qT _ _) _) _) _) _
 ·exact perm5 g1 g2 g3 g4 g5
theorem FewR.like {x:FrV} {X:FrL} {v:Value} {gs:Fs} (h:FewR x X v gs):∃ y,v=frv y∧FrO y (fewQ X) gs∧LikeF x y:=by
 obtain ⟨c,s,m,i,b,rfl,h⟩:=h
 exact ⟨_,rfl,h,c,s,m,i,b,rfl⟩
theorem FrNum.few {x:FrV} {X:FrL} (h:FrNum x X):FrNum x (fewQ X):=⟨h.gas,h.self,h.frm,h.val,fun y hy=>h.ws y (List.mem_of_mem_take hy)⟩
end Go.Proofs.YtdeggbkbblfpoaaGreatDoor
namespace Go.Proofs.YtdeggbkbblfpoaaGreatDoor
open Go Go.RowKit SL
open Go.ChangeShapes Go.WideShapes
set_option linter.unusedVariables false
section op
variable {w : World}
theorem pair_is {f r:Ty} {cs:List Value} (h:(Ty.pair f r).is w cs):∃ a b,cs=a++b∧f.is w a∧r.is w b:=⟨_,_,(List.take_append_drop _ cs).symm,h.1,h.2⟩
theorem is_u64 {cs:List Value} (h:(Ty.int .u64).is w cs):∃ n:Nat,n < 18446744073709551616∧cs=[.int .u64 (n:Int)]:=by
 obtain ⟨n,rfl,hn⟩:=h
 obtain ⟨k,rfl,hk⟩:=wf_u64 hn
 exact ⟨k,hk,rfl⟩
def tyBs:Ty:=.sl (.int .u8)
end op
section op
variable {H : Type} {enc : TypeId × Value → H} {P : Program} {w W : World} {held : Bool} {r : Reach} {base : Nat} {T E : TypeId} {v : Value} {d : DataW H} {ps : List MemPlace}
def aggB (P:Program) (T:TypeId):Bool:=match P.underlying T with|some (.struct _)|some (.array _ _)=>true|_=>false
theorem open_agg {α:Type} {g:α→List Value} {Q:α→Prop} {e:Ty} (hs:aggB P T=true) (hT:e.ok P (.inl T)=true) (he:∀ cs',e.is w cs'→∃ x,Q x∧cs'=g x)
  (hv:Value.okWide P W r base T v) (h:DataW.Trod enc P w 0 (fun _=>true) held T v d ps):∃ x:α,Q x∧v=.agg (g x).toArray:=by
 obtain ⟨cs,rfl⟩:∃ cs,v=.agg cs:=by
  unfold aggB at hs
  unfold Value.okWide at hv
  split at hs
  ·rename_i fs hu
   simp only [hu] at hv
   obtain ⟨cs,h1,_⟩:=hv
   exact ⟨cs,h1⟩
  ·rename_i n e hu
   simp only [hu] at hv
   obtain ⟨cs,h1,_⟩:=hv
   exact ⟨cs,h1⟩
  ·cases hs
 obtain ⟨x,hx,he2⟩:=he _ (open_one hT h)
 exact ⟨x,hx,congrArg Value.agg (Array.toList_inj.1 he2)⟩
theorem is_wrow {cs:List Value} (h:(Ty.sl .word).is w cs):∃ x:Value × List Nat,(RowAt w 4 x.1 x.2.length (wcs x.2)∧∀ u∈x.2,u < M256)∧cs=[x.1]:=by
 obtain ⟨v,l,h1,h2,h3⟩:=sl_rows (g:=fun u:Nat=>(wc u).toList) (Q:=fun u=>u < M256) (sz:=4) rfl (by decide) (fun _ h=>is_word h) h
 exact ⟨(v,l),⟨h3,fun u hu=>(h2 u hu).1⟩,h1⟩
theorem is_i64 {cs:List Value} (h:(Ty.int .i64).is w cs):∃ n:Int,cs=[.int .i64 n]:=by
 obtain ⟨n,rfl,_⟩:=h
 exact ⟨n,rfl⟩
def tySc:Ty:=.pair (.sl .word) (.pair tyBs .unit)
def tyFr:Ty:=.pair tyBs (.pair (.int .i64) (.pair tySc (.pair (.int .u64) (.pair (.int .u64) (.pair (.int .u64) (.pair .word (.pair tyBs (.pair tyBs (.pair .bool .unit)))))))))
theorem is_fr {cs:List Value} (h:tyFr.is w cs):∃ p:FrV × FrL,(FrRows w p.1 p.2∧FrNum p.1 p.2)∧cs=frc p.1:=by
 obtain ⟨_,_,rfl,h0,h⟩:=pair_is h
 obtain ⟨_,_,rfl,h1,h⟩:=pair_is h
 obtain ⟨_,_,rfl,h2,h⟩:=pair_is h
 obtain ⟨_,_,rfl,h3,h⟩:=pair_is h
 obtain ⟨_,_,rfl,h4,h⟩:=pair_is h
 obtain ⟨_,_,rfl,h5,h⟩:=pair_is h
 obtain ⟨_,_,rfl,h6,h⟩:=pair_is h
 obtain ⟨_,_,rfl,h7,h⟩:=pair_is h
 obtain ⟨_,_,rfl,h8,h⟩:=pair_is h
 obtain ⟨_,_,rfl,h9,h⟩:=pair_is h
 obtain rfl:_=[]:=h
 obtain ⟨_,_,rfl,ha,h2⟩:=pair_is h2
 obtain ⟨_,_,rfl,hb,h2⟩:=pair_is h2
 obtain rfl:_=[]:=h2
 obtain ⟨⟨v0,l0⟩,b0,rfl⟩:=is_bytes h0
 obtain ⟨n1,rfl⟩:=is_i64 h1
 obtain ⟨⟨va,la⟩,⟨ba,ca⟩,rfl⟩:=is_wrow ha
 obtain ⟨⟨vb,lb⟩,bb,rfl⟩:=is_bytes hb
 obtain ⟨n3,b3,rfl⟩:=is_u64 h3
 obtain ⟨n4,b4,rfl⟩:=is_u64 h4
 obtain ⟨n5,b5,rfl⟩:=is_u64 h5
 obtain ⟨n6,b6,rfl⟩:=is_word h6
 obtain ⟨⟨v7,l7⟩,b7,rfl⟩:=is_bytes h7
 obtain ⟨⟨v8,l8⟩,b8,rfl⟩:=is_bytes h8
 obtain ⟨f9,rfl⟩:=h9
 exact ⟨(⟨v0,n1,va,vb,n3,n4,n5,n6,v7,v8,f9⟩,⟨l0,la,lb,l7,l8⟩),⟨⟨b0,ba,bb,b7,b8⟩,⟨b3,b4,b5,b6,ca⟩⟩,rfl⟩
def tyEn:Ty:=.pair (.int .u64) (.pair (.int .u64) (.pair (.int .u64) (.pair (.int .u64) .unit)))
theorem is_en {cs:List Value} (h:tyEn.is w cs):∃ x:Nat × Nat × Nat × Nat,(x.1 < 18446744073709551616∧x.2.1 < 18446744073709551616∧x.2.2.1 < 18446744073709551616∧x.2.2.2 < 18446744073709551616)∧cs=(enva x.1 x.2.1 x.2.2.1 x.2.2.2).toList:=by
 obtain ⟨_,_,rfl,h0,h⟩:=pair_is h
 obtain ⟨_,_,rfl,h1,h⟩:=pair_is h
 obtain ⟨_,_,rfl,h2,h⟩:=pair_is h
 obtain ⟨_,_,rfl,h3,h⟩:=pair_is h
 obtain rfl:_=[]:=h
 obtain ⟨n0,b0,rfl⟩:=is_u64 h0
 obtain ⟨n1,b1,rfl⟩:=is_u64 h1
 obtain ⟨n2,b2,rfl⟩:=is_u64 h2
 obtain ⟨n3,b3,rfl⟩:=is_u64 h3
 exact ⟨(n0,n1,n2,n3),⟨b0,b1,b2,b3⟩,rfl⟩
end op
end Go.Proofs.YtdeggbkbblfpoaaGreatDoor
namespace Go.Proofs.YtdeggbkbblfpoaaGreatDoor
open Go Go.RowKit SL
set_option maxRecDepth 8000
set_option maxHeartbeats 4000000
set_option linter.unusedSimpArgs false
set_option linter.unusedVariables false
attribute [local irreducible] SL.CW SL.LW SL.DW Calls SL.Ret SL.RetG SL.beginQ SL.roundQ SL.rangeQ SL.inQ SL.RW SL.AnyW SL.thenQ SL.thenC SL.thenW SL.blkQ SL.finQ SL.ValP SL.NewP SL.SetP SL.CallP SL.Rd SL.Wr SL.Known
section
attribute [local irreducible] SL.inP
theorem FrO.toP {f:FrV} {L:FrL} {gs:Fs} (h:FrO f L gs):FrP f L gs:=by
 obtain ⟨g1,g2,g3,g4,g5,hp,h1,h2,h3,h4,h5⟩:=h
 exact ⟨g1,g2,g3,g4,g5,hp,h1,.inl h2,h3,h4,h5⟩
theorem FrP.st {f:FrV} {L:FrL} {gs fs:Fs} {w0 w:World} {S:List Nat} (h:FrP f L gs) (hs:St w0 S fs w) (hg:∀ p∈gs,p∈fs):FrRows w f L:=h.rows fun p hp=>(hs.own p (hg p hp)).2
def LayP (b:Nat) (m:MaV) (L:FrL) (l:List Nat) (rest:Fs):Out:=fun x fs'=>x=.returned (.tuple #[])∧∃ s k gs',FrO (m.fr.setR m.fr.gas s k) (L.setW (L.ws++l)) gs'∧fs'=(b,maO (m.setF (m.fr.setR m.fr.gas s k)))::(gs'++rest)
theorem layP_calls (w0:World) (S:List Nat) (b:Nat) (m:MaV) (L:FrL) (gs:Fs) (l:List Nat) (v:Value) (hok:okSc L.ws.length L.ms.length) (hll:l.length≤100000) (hge:L.ws.length+l.length≤64) (hfr:FrP m.fr L gs) (rest:Fs) (w:World)
  (hv:∀ w',St w0 S ((b,maO m)::(gs++rest)) w'→RowAt w' 4 v l.length (wcs l)) (hs:St w0 S ((b,maO m)::(gs++rest)) w) :
  Calls Tryz.prog 74 #[.pointer (some ⟨b,0,none⟩),v] w (fun x w'=>∃ fs',LayP b m L l rest x fs'∧St w0 S fs' w'):=by
 have h1:∀ w',St w0 S ((b,maO m)::(gs++rest)) w'→RowAt w' 4 m.fr.stk L.ws.length (wcs L.ws)∧RowAt w' 1 m.fr.mem L.ms.length (ucs L.ms)∧RowAt w' 4 v l.length (wcs l):=fun w' h=>by
  have hr:=hfr.st h fun p hp=>qS _ (List.mem_append_left _ hp)
  exact ⟨hr.s,hr.m,hv w' h⟩
 refine Calls.mono (lay_ok w0 S b m L.ws L.ms l v (gs++rest) w hs h1 hok hll hge) ?_
 rintro x w' ⟨fs',⟨rfl,s,k,gs2,c4,⟨s',k',gg1,gg2,he,rfl,hw1,hb1⟩,rfl⟩,hst⟩
 cases he
 obtain ⟨g1,g2,g3,g4,g5,hp,hall⟩:=hfr
 replace hst:=hst.perm (fs':=c4::((gg2++gg1)++(b,maO (m.setSc s k))::((g1++(g2++(g3++(g4++g5))))++rest))) (List.Perm.cons _ (List.Perm.append_left _ (List.Perm.cons _ (hp.append_right rest))))
 refine ⟨_,⟨rfl,s,k,g1++(gg1++(gg2++(g4++g5))),⟨g1,gg1,gg2,g4,g5,.refl _,hall.1,hw1,hb1,hall.2.2.2.1,hall.2.2.2.2⟩,rfl⟩,SubP.st ?_ hst⟩
 simp only [List.append_assoc,List.cons_append,List.nil_append]
 exact subp_ix [[_],gg2,gg1,[_],g1,g2,g3,g4,g5] (xs:=[3,4,2,1,7,8]) (ys:=[0,1,2,3,4,5,6,7,8]) rest rfl
theorem reachP_ok (w0:World) (S:List Nat) (b:Nat) (m:MaV) (L:FrL) (gs:Fs) (a n:Nat) (ha:a < M256) (hn0:0 < n) (hn:n < M256) (hE2:endV a n≤1024) (hok:okSc L.ws.length L.ms.length) (hg:m.fr.gas < 18446744073709551616) (hfr:FrP m.fr L gs) (rest:Fs) (w:World) (hs:St w0 S ((b,maO m)::(gs++rest)) w)
  (hcost:memV L.ms.length (endV a n)≤m.fr.gas) :
  Calls Tryz.prog 77 #[.pointer (some ⟨b,0,none⟩),wv a,wv n] w (fun x w'=>∃ fs',(x=.returned (.tuple #[.int .u64 (a:Int),.int .u64 (n:Int)])∧∃ s k gs',FrO { m.fr with gas:=m.fr.gas - memV L.ms.length (endV a n),stk:=s,mem:=k } (L.setM (L.ms++List.replicate (upW (endV a n) - L.ms.length) 0)) gs'∧fs'=(b,maO ((m.setGas (m.fr.gas - memV L.ms.length (endV a n))).setSc s k))::(gs'++rest))∧St w0 S fs' w'):=by
 have hfrR:=hfr
 obtain ⟨g1,g2,g3,g4,g5,hp,hall⟩:=hfr
 replace hs:St w0 S ((b,maO m)::(g1++(g2++(g3++(g4++g5)))++rest)) w:=hs.perm (List.Perm.cons _ (hp.append_right rest))
 have hfr2:FrP m.fr L (g1++(g2++(g3++(g4++g5)))):=⟨g1,g2,g3,g4,g5,.refl _,hall⟩
 clear hp
 obtain ⟨_,_,hm3,_,_⟩:=id hall
 unfold bM at hm3
 obtain ⟨p2,c2,hmv⟩:=hm3.form
 have hk:L.ms.length≤1024:=hok.2.1
 have hmem:∀ {E fr},Rd Tryz.prog 22 (.cells (mca m) E fr) 3 (.slice p2 L.ms.length c2):=fun {E fr}=>by rw [← hmv];exact ma_rd3
 have hEnd0:=End_calls a n ha hn
 have hMem0:=Memory_calls L.ms.length (endV a n) (by omega) (by omega)
 have hEa:a+n≤endV a n:=by
  unfold endV at hE2 ⊢
  rw [if_neg (by omega)] at hE2 ⊢
  unfold NOG at hE2 ⊢
  omega
 have hSa0:=Small_calls a ha
 have hSn0:=Small_calls n hn
 obtain ⟨E,hE⟩:∃ E,E=endV a n:=⟨_,rfl⟩
 rw [← hE] at hEnd0 hMem0 hE2 hcost hEa ⊢
 clear hE
 obtain ⟨c,hc⟩:∃ c,c=memV L.ms.length E:=⟨_,rfl⟩
 rw [← hc] at hMem0 hcost ⊢
 clear hc
 rw [if_pos (by omega),decide_eq_true (by omega)] at hSa0 hSn0
 have hEnd:∀ w,Calls Tryz.prog 120 #[wv a,wv n] w (Ret w (.int .u64 (E:Int))):=hEnd0
 have hMem:∀ w,Calls Tryz.prog 121 #[.int .u64 (L.ms.length:Int),.int .u64 (E:Int)] w (Ret w (.int .u64 (c:Int))):=hMem0
 have hSa:∀ w,Calls Tryz.prog 116 #[wv a] w (Ret w (.tuple #[.int .u64 (a:Int),.bool true])):=hSa0
 have hSn:∀ w,Calls Tryz.prog 116 #[wv n] w (Ret w (.tuple #[.int .u64 (n:Int),.bool true])):=hSn0
 have hsp:spendM m [c]=some (m.setGas (m.fr.gas - c)):=by unfold spendM;rw [if_pos (by simp;omega)];simp
 refine calls_anyO (calls_inlineP (K:=anyO fun x fs'=>x=.returned (.tuple #[.int .u64 (a:Int),.int .u64 (n:Int)])∧∃ s k gs',FrO { m.fr with gas:=m.fr.gas - c,stk:=s,mem:=k } (L.setM (L.ms++List.replicate (upW E - L.ms.length) 0)) gs'∧fs'=(b,maO ((m.setGas (m.fr.gas - c)).setSc s k))::(gs'++rest)) (args:=[_,_,_]) Tryz.func77 rfl Tryz.ntmps77 rfl ?_ hs)
 (refine sRz ?_;apply zT;rfl;rfl;intro _;apply zT;rfl;rfl;intro _;refine vAz<|vAz<|nSz<|ldz rfl (.tail .head) (qJ rfl)<|ldz rfl .head (qJ rfl) ?_;apply zS;rfl;rfl;infer_instance;exact .cons rfl (.cons rfl .nil);intro w _;exact hEnd w;refine vAz<|nSz<|vMz<|vMz<|vNz<|vFz<|vFz<|vFz<|ldz rfl (.tail (.tail .head)) hmem<|lvz (.lenR rfl inferInstance rfl) ?_;refine lvz (.convN rfl (by omega) (by omega)) ?_;refine vMz ?_;apply zS;rfl;rfl;infer_instance;exact .cons rfl (.cons rfl .nil);intro w _;exact hMem w;apply LW.lay1;rfl;infer_instance;infer_instance;rfl;rfl;rfl;rfl;rfl;rfl;intro _)
 rename_i b4 b5 b29
 refine LW.perm (fs':=(b,maO m)::(b29,.cells #[.int .u64 (c:Int)] 26 (0,0))::(b5,.cells (wc n) 29 (0,0))::(b4,.cells (wc a) 29 (0,0))::(g1++(g2++(g3++(g4++g5)))++rest)) (by exact (List.perm_middle (l₁:=[_,_,_])).symm) ?_
 refine LW.callP (K:=MaK b m (spendM m [c]) _) rfl rfl inferInstance (by (exact .cons rfl (.cons rfl .nil))) rfl (fun fs h=>?_) (fun w' hst=>spend_calls w0 S b m [c] hg _ _ w' hst (fun w2 h2=>row_cells (h2.own (b29,_) (List.Mem.tail _ (List.Mem.head _))).2 rfl rfl (by simp [maxLen]))) ?_ ?_
 ·rw [hsp] at h;cases h.1
 ·rintro v fs' h
  rw [hsp] at h
  obtain ⟨h,rfl⟩:=h
  have hmem:∀ {E fr},Rd Tryz.prog 22 (.cells (mca (m.setGas (m.fr.gas - c))) E fr) 3 (.slice p2 L.ms.length c2):=fun {E fr}=>by rw [← hmv];exact ma_rd3 (m:=m.setGas (m.fr.gas - c))
  (refine nNz<|zI<|sRz<|vMz ?_;refine lvz (.eqF rfl rfl (by omega)) ?_;refine nNz<|cFz<|zJ<|thenN<|sRz<|vMz<|vNz<|vFz<|vFz<|ldz rfl .head ma_rd2<|vMz ?_)
  (apply LW.callR;rfl;rfl;infer_instance;exact .cons rfl (.cons rfl (.cons rfl .nil));intro w hs)
  exact grow_ok L.ws L.ms E _ _ w (hfr2.st hs (fun p hp=>qS _ (by simp only [List.mem_cons,List.mem_append] at hp ⊢;simp [hp]))).s (hfr2.st hs (fun p hp=>qS _ (by simp only [List.mem_cons,List.mem_append] at hp ⊢;simp [hp]))).m hok (by omega) hE2
  rintro vo gso ⟨o,rfl,s1,m1,gg1,gg2,rfl,rfl,hw1,hb1⟩
  have hw1':=hw1
  have hb1':=hb1
  unfold wM at hw1'
  unfold bM at hb1'
  obtain ⟨q1,k1,rfl⟩:=hw1'.form
  obtain ⟨q2,k2,rfl⟩:=hb1'.form
  (refine vMz ?_;refine vEz ?_;refine vEz ?_;apply zU;rfl;intro _;refine zR rfl rfl .head (.whole rfl rfl rfl)<|vAz<|nSz<|vMz ?_;refine lvz (.eqT rfl rfl (by omega)) ?_;apply zS;rfl;rfl;infer_instance;exact .cons rfl .nil;intro w _;exact need_true w;refine nSz<|vMz<|ldz rfl .head (qJ rfl)<|vNz<|vFz<|vFz ?_;refine zR rfl rfl (.tail (.app .head)) (ma_wr2 rfl rfl rfl rfl)<|nSz<|ldz rfl (.tail (.app (.tail (.tail (.tail .head))))) (qJ rfl) ?_;apply zS;rfl;rfl;infer_instance;exact .cons rfl .nil;intro w _;exact hSa w;refine vMz ?_;refine vEz ?_;refine vEz ?_;refine vAz<|vAz<|nSz<|ldz rfl (.tail (.app (.tail (.tail .head)))) (qJ rfl) ?_;apply zS;rfl;rfl;infer_instance;exact .cons rfl .nil;intro w _;exact hSn w;refine vMz ?_;refine vEz ?_;refine vEz ?_;refine vAz<|vAz<|nSz<|vMz<|vMz<|vAz<|vAz<|nNz<|zK ?_)
  refine inPI (.inl rfl) .nil rfl (by (apply zD;exact zG rfl;apply zD;exact zG rfl;exact zF)) rfl ⟨_,⟨rfl,_,_,g1++(gg1++(gg2++(g4++g5))),⟨g1,gg1,gg2,g4,g5,.refl _,hall.1,hw1,hb1,hall.2.2.2.1,hall.2.2.2.2⟩,rfl⟩,?_⟩
  simp only [List.append_assoc,List.cons_append,List.nil_append]
  exact subp_ix [[_],[_],gg2,gg1,[_],[_],[_],g1,g2,g3,g4,g5] (xs:=[4,7,3,2,10,11]) (ys:=[0,2,3,4,1,5,6,7,8,9,10,11]) rest rfl
 ·rintro ch fs' h
  rw [hsp] at h;cases h.1
def ReachP (b:Nat) (m:MaV) (L:FrL) (a n:Nat) (rest:Fs):Out:=fun x fs' =>
 (m.fr.gas < costR L a n∧x=.panicked failC∧fs'=rest) ∨
 (costR L a n≤m.fr.gas∧∃ s k gs',x=.returned (.tuple #[.int .u64 ((if n=0 then 0 else a:Nat):Int),.int .u64 (n:Int)])∧FrP (frR m.fr L a n s k) (memR L a n) gs'∧fs'=(b,maO (m.setF (frR m.fr L a n s k)))::(gs'++rest))
theorem reachP_calls (w0:World) (S:List Nat) (b:Nat) (m:MaV) (L:FrL) (gs:Fs) (a n:Nat) (ha:a < M256) (hn:n < M256) (hok:okSc L.ws.length L.ms.length) (hg:m.fr.gas≤20000) (hfr:FrP m.fr L gs) (rest:Fs) (w:World) (hs:St w0 S ((b,maO m)::(gs++rest)) w) :
  Calls Tryz.prog 77 #[.pointer (some ⟨b,0,none⟩),wv a,wv n] w (fun x w'=>∃ fs',ReachP b m L a n rest x fs'∧St w0 S fs' w'):=by
 have hk:L.ms.length≤1024:=hok.2.1
 have hm:∃ p2 c2,m.fr.mem=.slice p2 L.ms.length c2:=by
  obtain ⟨g1,g2,g3,g4,g5,_,h1,h2,h3,h4,h5⟩:=hfr
  unfold bM at h3
  exact h3.form
 obtain ⟨p2,c2,hm⟩:=hm
 rcases Nat.lt_or_ge m.fr.gas (costR L a n) with hlt|hge
 ·refine Calls.mono (reach_gas w0 S b m a n L.ms.length p2 c2 ha hn (endV_lt a n) hk (by omega) hm (gs++rest) w hs hlt) ?_
  rintro x w' ⟨fs',⟨rfl,ex,rfl⟩,hst⟩
  exact ⟨_,.inl ⟨hlt,rfl,rfl⟩,st_sub hst (qU _ ((List.sublist_append_right _ _).trans (List.sublist_append_right _ _)))⟩
 ·rcases Nat.eq_zero_or_pos n with rfl|hn0
  ·refine Calls.mono (reach_none w0 S b m a 0 L.ms.length rfl p2 c2 ha hk (by omega) hm (gs++rest) w hs) ?_
   rintro x w' ⟨fs',⟨rfl,ex,rfl⟩,hst⟩
   have he:endV a 0=0:=by simp [endV]
   have hc:costR L a 0=0:=by unfold costR;rw [he];simp [memV]
   have hmr:memR L a 0=L:=by unfold memR FrL.setM;rw [he];simp [upW]
   have hfr2:frR m.fr L a 0 m.fr.stk m.fr.mem=m.fr:=by unfold frR;rw [hc];rfl
   refine ⟨_,.inr ⟨hge,m.fr.stk,m.fr.mem,gs,rfl,?_,?_⟩,st_sub hst (List.Sublist.cons_cons _ (List.sublist_append_right ex _))⟩
   ·rw [hmr,hfr2];exact hfr
   ·rw [hfr2];rfl
  ·refine Calls.mono (reachP_ok w0 S b m L gs a n ha hn0 hn (memV_le hk hg hge) hok (by omega) hfr rest w hs hge) ?_
   rintro x w' ⟨fs',⟨rfl,s,k,gs',h1,rfl⟩,hst⟩
   refine ⟨_,.inr ⟨hge,s,k,gs',?_,h1.toP,rfl⟩,hst⟩
   rw [if_neg (by omega)]
theorem reach_in {L:FrL} {a n g:Nat} (hg:g≤20000) (hok:okSc L.ws.length L.ms.length) (h:costR L a n≤g):okSc (memR L a n).ws.length (memR L a n).ms.length∧(0 < n→a+n≤(memR L a n).ms.length):=by
 have hE:endV a n≤1024:=memV_le hok.2.1 hg h
 obtain ⟨h1,h2,h3⟩:=hok
 have hl:(memR L a n).ms.length=L.ms.length+(upW (endV a n) - L.ms.length):=by
  unfold memR FrL.setM
  simp
 have hu:upW (endV a n)≤1024∧endV a n≤upW (endV a n)∧upW (endV a n) % 32=0:=by
  unfold upW
  omega
 refine ⟨⟨h1,by rw [hl];omega,by rw [hl];omega⟩,fun hn=>?_⟩
 have hEa:a+n≤endV a n:=by
  unfold endV at hE ⊢
  rw [if_neg (by omega)] at hE ⊢
  unfold NOG at hE ⊢
  omega
 rw [hl]
 omega
end
section
open CK (LW.copyFull)
def winL (bs:List UInt8) (a n:Nat):List UInt8:=(List.range n).map fun i=>bs.getD (a+i) 0
theorem winL_len (bs:List UInt8) (a n:Nat):(winL bs a n).length=n:=by simp [winL]
theorem winL_eq (bs:List UInt8) (a n:Nat):winL bs a n=(bs.drop a).take n++List.replicate (n - (bs.length - a)) 0:=by
 unfold winL
 refine List.ext_getElem? fun i=>?_
 rw [List.getElem?_map,List.getElem?_append,List.length_take,List.length_drop]
 rcases Nat.lt_or_ge i n with h|h
 ·rw [List.getElem?_range h,Option.map_some,List.getD_eq_getElem?_getD]
  split
  ·rename_i h2
   rw [List.getElem?_take,if_pos h,List.getElem?_drop,List.getElem?_eq_getElem (show a+i < bs.length by omega)];rfl
  ·rename_i h2
   rw [List.getElem?_replicate,if_pos (by omega),List.getElem?_eq_none (show bs.length≤a+i by omega)];rfl
 ·rw [List.getElem?_eq_none (by simp;omega),Option.map_none]
  split
  ·omega
  ·rw [List.getElem?_replicate,if_neg (by omega)]
theorem winL_far {bs:List UInt8} {a n:Nat} (h:bs.length≤a):winL bs a n=List.replicate n 0:=by
 rw [winL_eq,List.drop_eq_nil_of_le h,show n - (bs.length - a)=n by omega]
 simp
def layL (ms:List UInt8) (a:Nat) (l:List UInt8):List UInt8:=ms.take a++l++ms.drop (a+l.length)
theorem layL_nil (ms:List UInt8) (a:Nat):layL ms a []=ms:=by simp [layL]
theorem layL_len {ms:List UInt8} {a:Nat} {l:List UInt8} (h:l=[]∨a+l.length≤ms.length):(layL ms a l).length=ms.length:=by
 rcases h with rfl|h
 ·rw [layL_nil]
 ·simp only [layL,List.length_append,List.length_take,List.length_drop]
  omega
def WinR (l:List UInt8) (r:Value) (gs:Fs):Prop:=∃ o,r=.tuple #[o,.int .i64 0]∧bM l o gs
theorem Window_calls (bs:List UInt8) (a n:Nat) (hn:n≤1024) (ha:a < 18446744073709551616) (hb:bs.length≤100000) (v:Value) (w:World) (hv:RowAt w 1 v bs.length (ucs bs)):Calls Tryz.prog 220 #[v,.int .u64 (a:Int),.int .u64 (n:Int)] w (RetG w [] (WinR (winL bs a n))):=by
 obtain ⟨p,c,rfl,_,_⟩:=id hv.form
 obtain ⟨T,hT⟩:∃ T,winL bs a n=T:=⟨_,rfl⟩
 have hTl:T.length=n:=by rw [← hT];exact winL_len bs a n
 rw [hT]
 have fin:∀ (g:Nat) (cur:Array Value),cur.toList=ucs T→bM T (.slice (some ⟨g,0,none⟩) n n) [(g,.cells cur 5 (0,0))]:=fun g cur hc=>by
  have h1:cur.size=n:=by rw [← Array.length_toList,hc,ucs_len,hTl]
  unfold bM
  rw [hTl]
  exact IsRow.own (Nat.le_refl _) (by simp only [maxLen];omega) (by rw [h1,Nat.mul_one]) (by rw [hc];exact List.take_of_length_le (by rw [ucs_len,hTl,Nat.mul_one];exact Nat.le_refl _)) (by rw [ucs_len,hTl,Nat.mul_one])
 refine enter (args:=[_,_,_]) _ [] [] Tryz.func220 rfl Tryz.ntmps220 rfl (by simp) .nil ?_
 (refine sRz<|vAz<|vAz<|nNz<|zI<|sRz<|vMz ?_;refine lvz (.gtrF rfl rfl (by omega)) ?_;refine nNz<|cFz<|zJ<|thenN<|sRz<|vMz ?_)
 refine LW.makeOwn rfl inferInstance inferInstance inferInstance rfl rfl (by omega) (by simp only [maxLen];omega) fun g=>?_
 have hz0:(List.replicate n (Value.int .u8 0))=ucs (List.replicate n 0):=(ucs_zero _).symm
 rcases Nat.lt_or_ge a bs.length with hlt|hge
 ·have hcut:=RowAt.drop (k:=a) hv (by omega)
  rw [ucs_drop] at hcut
  (refine vAz<|nNz<|zI<|sRz<|vMz<|vMz<|lvz (.lenR rfl inferInstance rfl) ?_;refine lvz (.convN rfl (by omega) (by omega)) ?_;refine lvz (.lssT rfl rfl (by omega)) ?_;refine nNz<|cTz<|zL<|vMz<|vMz<|vMz ?_;refine lvz (.cutFrom inferInstance inferInstance rfl rfl (by omega)) ?_)
  rcases Nat.eq_zero_or_pos n with rfl|hn0
  ·(apply LW.copyNone;rfl;rfl;infer_instance;infer_instance;infer_instance;rfl;rfl;exact Nat.min_zero _)
   (refine nSz<|vMz<|vAz<|vAz<|nNz<|zK ?_)
   have hc:(List.replicate 0 (Value.int .u8 0)).toArray.toList=ucs T:=by
    rw [List.length_eq_zero_iff.1 hTl];rfl
   exact SL.fin (vs:=[.slice (some ⟨g,0,none⟩) 0 0,.int .i64 0]) [(g,.cells (List.replicate 0 (Value.int .u8 0)).toArray 5 (0,0))] (.inl rfl) rfl rfl (by (apply zD;exact zG rfl;apply zD;exact zG rfl;exact zF)) (qQ _) ⟨_,rfl,fin g _ hc⟩
  ·rcases Nat.lt_or_ge (bs.length - a) n with hsh|hfull
   ·refine LW.copyAt (cur:=(List.replicate n (Value.int .u8 0)).toArray) (E':=5) (m:=bs.length - a) (news:=ucs (bs.drop a)) rfl rfl inferInstance inferInstance inferInstance rfl rfl (fun w' hst=>hcut.st hst) (ucs_cells _) (by omega) (by simp;omega) (by (apply qA)) ?_
    have hc:((List.replicate n (Value.int .u8 0)).toArray.toList.take 0++ucs (bs.drop a)++(List.replicate n (Value.int .u8 0)).toArray.toList.drop (0+(bs.length - a))).toArray.toList=ucs T:=by
     rw [← hT,winL_eq,ucs_app,ucs_zero,List.take_of_length_le (show (bs.drop a).length≤n by rw [List.length_drop];omega)]
     simp
    (refine nSz<|vMz<|vAz<|vAz<|nNz<|zK ?_)
    exact SL.fin (vs:=[.slice (some ⟨g,0,none⟩) n n,.int .i64 0]) [(g,_)] (.inl rfl) rfl rfl (by (apply zD;exact zG rfl;apply zD;exact zG rfl;exact zF)) (qQ _) ⟨_,rfl,fin g _ hc⟩
   ·refine LW.copyFull (cur:=(List.replicate n (Value.int .u8 0)).toArray) (E':=5) (m:=bs.length - a) (news:=ucs (bs.drop a)) rfl rfl inferInstance inferInstance inferInstance rfl rfl (fun w' hst=>hcut.st hst) (ucs_cells _) hn0 (by omega) (by simp) (by (apply qA)) ?_
    have hc:((List.replicate n (Value.int .u8 0)).toArray.toList.take 0++(ucs (bs.drop a)).take n++(List.replicate n (Value.int .u8 0)).toArray.toList.drop (0+n)).toArray.toList=ucs T:=by
     rw [← hT,winL_eq,ucs_app,ucs_zero,show n - (bs.length - a)=0 by omega,← ucs_take,Nat.mul_one]
     simp
    (refine nSz<|vMz<|vAz<|vAz<|nNz<|zK ?_)
    exact SL.fin (vs:=[.slice (some ⟨g,0,none⟩) n n,.int .i64 0]) [(g,_)] (.inl rfl) rfl rfl (by (apply zD;exact zG rfl;apply zD;exact zG rfl;exact zF)) (qQ _) ⟨_,rfl,fin g _ hc⟩
 ·(refine vAz<|nNz<|zI<|sRz<|vMz<|vMz<|lvz (.lenR rfl inferInstance rfl) ?_;refine lvz (.convN rfl (by omega) (by omega)) ?_;refine lvz (.lssF rfl rfl (by omega)) ?_;refine nNz<|cFz<|zJ<|thenN<|sRz<|vMz<|vAz<|vAz<|nNz<|zK ?_)
  have hc:(List.replicate n (Value.int .u8 0)).toArray.toList=ucs T:=by
   rw [← hT,winL_far hge,ucs_zero]
  exact SL.fin (vs:=[.slice (some ⟨g,0,none⟩) n n,.int .i64 0]) [(g,.cells (List.replicate n (Value.int .u8 0)).toArray 5 (0,0))] (.inl rfl) rfl rfl (by (apply zD;exact zG rfl;apply zD;exact zG rfl;exact zF)) (qQ _) ⟨_,rfl,fin g _ hc⟩
theorem window_calls (bs:List UInt8) (a n:Nat) (hn:n≤1024) (ha:a < M256) (hb:bs.length≤100000) (v:Value) (w:World) (hv:RowAt w 1 v bs.length (ucs bs)):Calls Tryz.prog 203 #[v,wv a,.int .u64 (n:Int)] w (RetG w [] (bM (winL bs a n))):=by
 obtain ⟨p,c,rfl,_,_⟩:=id hv.form
 have hSm0:=Small_calls a ha
 rcases Nat.lt_or_ge a 18446744073709551616 with hlt|hge
 ·rw [if_pos hlt,decide_eq_true hlt] at hSm0
  have hSm:∀ w,Calls Tryz.prog 116 #[wv a] w (Ret w (.tuple #[.int .u64 (a:Int),.bool true])):=hSm0
  refine enter (args:=[_,_,_]) _ [] [] Tryz.func203 rfl Tryz.ntmps203 rfl (by simp) .nil ?_
  (refine sRz ?_;apply zT;rfl;rfl;intro _;refine vAz<|nSz<|ldz rfl .head (qJ rfl) ?_;apply zS;rfl;rfl;infer_instance;exact .cons rfl .nil;intro w _;exact hSm w;refine vMz ?_;refine vEz ?_;refine vEz ?_;refine vAz<|vAz<|nNz<|zI<|sRz<|vMz ?_;refine lvz (.notT rfl (by with_reducible rfl)) ?_;refine nNz<|cFz<|zJ<|thenN<|sRz<|vMz<|vMz<|vMz ?_)
  (apply LW.callR;rfl;rfl;infer_instance;exact .cons rfl (.cons rfl (.cons rfl .nil));intro w hs)
  exact Window_calls bs a n hn hlt hb _ w (hv.st hs)
  rintro _ g ⟨o,rfl,ho⟩
  have ho':=ho
  unfold bM at ho'
  obtain ⟨q,k,rfl⟩:=ho'.form
  (refine vMz ?_;refine vEz ?_;refine vEz ?_;refine vAz<|vAz<|nSz<|vMz ?_;refine lvz (.eqT rfl rfl (by omega)) ?_;apply zS;rfl;rfl;infer_instance;exact .cons rfl .nil;intro w _;exact need_true w;refine nSz<|vMz<|vAz<|nNz<|zK ?_)
  exact SL.fin (vs:=[.slice q _ k]) g (.inl rfl) rfl rfl (by (apply zD;exact zG rfl;exact zF)) (qT _ _) ho
 ·rw [if_neg (by omega),decide_eq_false (by omega)] at hSm0
  have hSm:∀ w,Calls Tryz.prog 116 #[wv a] w (Ret w (.tuple #[.int .u64 ((0:Nat):Int),.bool false])):=hSm0
  have hw:winL bs a n=winL [] 0 n:=by rw [winL_far (by omega),winL_far (Nat.zero_le _)]
  rw [hw]
  refine enter (args:=[_,_,_]) _ [] [] Tryz.func203 rfl Tryz.ntmps203 rfl (by simp) .nil ?_
  (refine sRz ?_;apply zT;rfl;rfl;intro _;refine vAz<|nSz<|ldz rfl .head (qJ rfl) ?_;apply zS;rfl;rfl;infer_instance;exact .cons rfl .nil;intro w _;exact hSm w;refine vMz ?_;refine vEz ?_;refine vEz ?_;refine vAz<|vAz<|nNz<|zI<|sRz<|vMz ?_;refine lvz (.notF rfl (by with_reducible rfl)) ?_;refine nNz<|cTz<|zL<|vAz<|nSz<|vMz<|vMz<|vMz ?_)
  (apply LW.callR;rfl;rfl;infer_instance;exact .cons rfl (.cons rfl (.cons rfl .nil));intro w hs)
  exact Window_calls [] 0 n hn (by omega) (by simp) _ w .nil
  rintro _ g ⟨o,rfl,ho⟩
  have ho':=ho
  unfold bM at ho'
  obtain ⟨q,k,rfl⟩:=ho'.form
  (refine vMz ?_;refine vEz ?_;refine vEz ?_;refine vAz<|vAz<|nSz<|vMz ?_;refine lvz (.eqT rfl rfl (by omega)) ?_;apply zS;rfl;rfl;infer_instance;exact .cons rfl .nil;intro w _;exact need_true w;refine nSz<|vMz<|vAz<|nNz<|zK ?_)
  exact SL.fin (vs:=[.slice q _ k]) g (.inl rfl) rfl rfl (by (apply zD;exact zG rfl;exact zF)) (qT _ _) ho
end
end Go.Proofs.YtdeggbkbblfpoaaGreatDoor
namespace Go.Proofs.YtdeggbkbblfpoaaGreatDoor.SK
open Go Go.RowKit SL
set_option maxRecDepth 8000
set_option linter.unusedSimpArgs false
set_option linter.unusedVariables false

end Go.Proofs.YtdeggbkbblfpoaaGreatDoor.SK
namespace Go.Proofs.YtdeggbkbblfpoaaGreatDoor.SK
open Go Go.RowKit SL
set_option maxRecDepth 8000
set_option maxHeartbeats 4000000
set_option linter.unusedSimpArgs false
set_option linter.unusedVariables false
attribute [local irreducible] SL.CW SL.LW SL.DW Calls SL.Ret SL.RetG SL.beginQ SL.roundQ SL.rangeQ SL.inQ SL.RW SL.AnyW SL.thenQ SL.thenC SL.thenW SL.blkQ SL.finQ SL.ValP SL.NewP SL.SetP SL.CallP SL.Rd SL.Wr SL.Known


section
attribute [local irreducible] cF mixL rowsL numL
end

section
attribute [local irreducible] mixL rowsL numL roundL permF
end
end Go.Proofs.YtdeggbkbblfpoaaGreatDoor.SK
namespace Go.Proofs.YtdeggbkbblfpoaaGreatDoor.SK
open Go Go.RowKit SL
set_option maxRecDepth 8000
set_option linter.unusedSimpArgs false
set_option linter.unusedVariables false

end Go.Proofs.YtdeggbkbblfpoaaGreatDoor.SK
namespace Go.Proofs.YtdeggbkbblfpoaaGreatDoor.SK
open Go Go.RowKit SL
set_option maxRecDepth 8000
set_option maxHeartbeats 4000000
set_option linter.unusedSimpArgs false
set_option linter.unusedVariables false
attribute [local irreducible] SL.CW SL.LW SL.DW Calls SL.Ret SL.RetG SL.beginQ SL.roundQ SL.rangeQ SL.inQ SL.RW SL.AnyW SL.thenQ SL.thenC SL.thenW SL.blkQ SL.finQ SL.ValP SL.NewP SL.SetP SL.CallP SL.Rd SL.Wr SL.Known
section
attribute [local irreducible] padB sumB permL soakF sumF idF
end
end Go.Proofs.YtdeggbkbblfpoaaGreatDoor.SK
namespace Go.Proofs.YtdeggbkbblfpoaaGreatDoor
open Go Go.RowKit SL
set_option maxRecDepth 8000
set_option maxHeartbeats 4000000
set_option linter.unusedSimpArgs false
set_option linter.unusedVariables false
attribute [local irreducible] SL.CW SL.LW SL.DW Calls SL.Ret SL.RetG SL.beginQ SL.roundQ SL.rangeQ SL.inQ SL.RW SL.AnyW SL.thenQ SL.thenC SL.thenW SL.blkQ SL.finQ SL.ValP SL.NewP SL.SetP SL.CallP SL.Rd SL.Wr SL.Known
section
attribute [local irreducible] SK.padB SK.sumB
theorem sum_len (b:List UInt8):(SK.sumB b).length=32:=by unfold SK.sumB;rw [SK.idF_len]
def digW (b:List UInt8):Nat:=bev (SK.sumB b)
theorem digW_lt (b:List UInt8):digW b < M256:=by
 have:=bev_lt (SK.sumB b)
 rw [sum_len] at this
 exact this
attribute [local irreducible] digW
theorem Digest_calls (b:List UInt8) (v:Value) (w:World) (hv:RowAt w 1 v b.length (ucs b)) (hb:b.length≤100000) (hT:SK.TurnAt w) (hN:SK.NumAt w):Calls Tryz.prog 208 #[v] w (Ret w (wv (digW b))):=by
 have hlen:=sum_len b
 have hdw:digW b=bev (SK.sumB b):=by unfold digW;rfl
 have hSum0:∀ w' {fs},St w [] fs w'→Calls Tryz.prog 225 #[v] w' (Ret w' (.agg (uca (SK.sumB b)))):=fun w' fs hst=>SK.Sum_calls b v w' (hv.st hst) hb (hT.st hst) (hN.st hst)
 obtain ⟨D,hD⟩:∃ D,SK.sumB b=D:=⟨_,rfl⟩
 have hSum:=@hSum0
 rw [hD] at hSum hlen hdw
 have hRead:∀ (g:Nat) (w':World) {fs:Fs},St w [] fs w'→w'.heap[g]?=some (.cells (uca D) 196 (0,0))→Calls Tryz.prog 199 #[.slice (some ⟨g,0,none⟩) 32 32] w' (Ret w' (.tuple #[wv (digW b),.int .i64 0])):=fun g w' fs _ h=>by
  have h2:=own_row (off:=0) (n:=32) (c:=32) h (by omega) (Nat.le_refl _) (by simp only [maxLen];omega)
  rw [List.drop_zero,List.take_of_length_le (by omega)] at h2
  rw [hdw]
  exact Read_calls _ D w' (by rw [hlen];exact h2) (by omega)
 refine enter (args:=[_]) _ [] [] Tryz.func208 rfl Tryz.ntmps208 rfl (by simp) .nil ?_
 (refine zI<|zL ?_;apply LW.allocW;rfl;intro _;apply zV;refine thenN<|zI<|zL ?_;apply LW.v0;rfl;rfl;apply ValP.move;rfl;apply zS;rfl;rfl;infer_instance;apply ArgsOk.cons;rfl;exact ArgsOk.nil;intro w _;rename_i hst;exact hSum w hst;apply zU;rfl;intro _;apply zR;rfl;rfl;apply qA;apply wr_ucaO;rfl;assumption;apply zV;refine thenN<|zI<|zL ?_;apply LW.v0;rfl;rfl;apply ValP.cutArrAll;infer_instance;infer_instance;rfl;apply zS;rfl;rfl;infer_instance;apply ArgsOk.cons;rfl;exact ArgsOk.nil;intro w _;rename_i hst;(exact hRead _ w hst ((hst.own (_,.cells (uca D) 196 (0,0)) (by (repeat (first|exact List.Mem.head _|apply List.Mem.tail)))).2));apply LW.v0;rfl;rfl;apply ValP.move;rfl;apply LW.v0;rfl;rfl;apply ValP.extractN;rfl;rfl;apply LW.v0;rfl;rfl;apply ValP.extractN;rfl;rfl;apply LW.allocW;rfl;intro _;apply zR;rfl;rfl;apply qA;apply Wr.whole;rfl;rfl;rfl;apply LW.v0;rfl;rfl;apply ValP.assign;rfl;apply zV;refine thenN<|zI<|zL ?_;apply LW.load;rfl;rfl;apply qI;apply zY;exact qJ rfl;apply zR;rfl;rfl;apply qD;apply qD;apply qA;apply Wr.whole;rfl;rfl;rfl;apply zV;refine thenN<|zK ?_)
 (apply finR;exact .inl rfl;rfl;rfl;rfl;apply zD;apply zH;rfl;apply qI;apply zX;apply zX;apply zY;exact qJ rfl;exact zF)
 rfl
end
end Go.Proofs.YtdeggbkbblfpoaaGreatDoor
namespace Go.Proofs.YtdeggbkbblfpoaaGreatDoor
open Go Go.RowKit SL
open CK (dataC jumpC readB)
structure SO where
 kind:Int
 op:Nat
 gas:Nat
 pc:Int
 ws:List Nat
 ms:List UInt8
 words:List Nat
 data:List UInt8
def soOn (f:FrV) (ws:List Nat) (ms:List UInt8):SO:=⟨0,0,f.gas,f.pc,ws,ms,[],[]⟩
def FrV.setG (f:FrV) (g:Nat):FrV:={ f with gas:=g }
def reaV (f:FrV) (L:FrL) (a n:Nat):Option (FrV × List UInt8):=if costR L a n≤f.gas then some (f.setG (f.gas - costR L a n),(memR L a n).ms) else none
def spnV (f:FrV) (c:Nat):Option FrV:=if c≤f.gas then some (f.setG (f.gas - c)) else none
def copyV (f:FrV) (L:FrL) (b:List UInt8) (a at_ n:Nat):Option SO:=do
 let (f1,ms) ← reaV f L a n
 let f2 ← spnV f1 (timesV ((n+31) / 32) 3)
 some (soOn f2 L.ws (layL ms a (winL b at_ n)))
def loadV14 (f:FrV) (L:FrL) (a:Nat):Option SO:=do
 let (f1,ms) ← reaV f L a 32
 some (soOn f1 (L.ws++[bev ((ms.drop a).take 32)]) ms)
def storeV (f:FrV) (L:FrL) (a n:Nat) (l:List UInt8):Option SO:=do
 let (f1,ms) ← reaV f L a n
 some (soOn f1 L.ws (layL ms a l))
def hashV (f:FrV) (L:FrL) (a n:Nat):Option SO:=do
 let (f1,ms) ← reaV f L a n
 let f2 ← spnV f1 (timesV ((n+31) / 32) 6)
 some (soOn f2 (L.ws++[digW ((ms.drop a).take n)]) ms)
def jumpV (f:FrV) (L:FrL) (a:Nat):Option SO:=if a < 18446744073709551616∧jumpC L.cl a=true then some (soOn { f with pc:=(a:Int) } L.ws L.ms) else none
def stateV (op:Nat) (f:FrV) (L:FrL) (l:List Nat):SO:=⟨1,op,f.gas,f.pc,L.ws,L.ms,l,[]⟩
def callV14 (op:Nat) (f:FrV) (L:FrL) (l:List Nat):Option SO:=if f.stat=true∧(op=245∨op=241∧¬ l.getD 2 0=0) then none else some ⟨2,op,f.gas,f.pc,L.ws,L.ms,l,[]⟩
def endsV (op:Nat) (f:FrV) (L:FrL) (a n:Nat):Option SO:=do
 let (f1,ms) ← reaV f L a n
 some ⟨if op=253 then 5 else 4,0,f1.gas,f1.pc,L.ws,ms,[],(ms.drop a).take n⟩
def doV (op:Nat) (f:FrV) (L:FrL) (l:List Nat):Option SO :=
 let a:=l.getD 0 0
 let b:=l.getD 1 0
 let c:=l.getD 2 0
 if op=21 then some (soOn f (L.ws++[if a=0 then 1 else 0]) L.ms)
 else if op=25 then some (soOn f (L.ws++[M256 - 1 - a]) L.ms)
 else if op=52 then some (soOn f (L.ws++[f.val]) L.ms)
 else if op=53 then some (soOn f (L.ws++[bev (winL L.il a 32)]) L.ms)
 else if op=55 then copyV f L L.il a b c
 else if op=62 then (if b+c≤L.bl.length then copyV f L L.bl a b c else none)
 else if op=81 then loadV14 f L a
 else if op=82 then storeV f L a 32 (beb 32 b)
 else if op=83 then storeV f L a 1 ((beb 32 b).drop 31)
 else if op=32 then hashV f L a b
 else if op=86 then jumpV f L a
 else if op=87 then (if b=0 then some (soOn f L.ws L.ms) else jumpV f L a)
 else if op=49∨op=71∨op=84∨op=92 then some (stateV op f L l)
 else if op=85∨op=93 then (if f.stat=true then none else some (stateV op f L l))
 else if op=241∨op=244∨op=250∨op=245 then callV14 op f L l
 else if op=0 then some ⟨3,0,f.gas,f.pc,L.ws,L.ms,[],[]⟩
 else if op=243∨op=253 then endsV op f L a b
 else some (soOn f L.ws L.ms)
def sayV (op:Nat) (f:FrV) (L:FrL) (e0 e1 e2 e3:Nat):Nat :=
 if op=48 then f.self else if op=51 then f.frm else if op=50 then e0 else if op=66 then e1 else if op=67 then e2 else if op=72 then e3 else if op=54 then L.il.length else if op=61 then L.bl.length else f.gas
def swapL (ws:List Nat) (n:Nat):List Nat:=(ws.set (ws.length - 1) (ws.getD (ws.length - 1 - n) 0)).set (ws.length - 1 - n) (ws.getD (ws.length - 1) 0)
def stepV (f:FrV) (L:FrL) (e0 e1 e2 e3:Nat):Option SO :=
 let op:=opF f L
 let x:=opX op
 if ¬ (opOf op).isSome∨op=254 then none
 else if f.gas < gasB op then none
 else if L.ws.length < x.tk∨64 < L.ws.length - x.tk+x.ly then none
 else
  let f1:FrV:={ f with gas:=f.gas - gasB op,pc:=((min (f.pc.toNat+1+x.dt) L.cl.length:Nat):Int) }
  if 96≤op∧op≤127 then some (soOn f1 (L.ws++[bev (dataC L.cl f.pc)]) L.ms)
  else if 128≤op∧op≤143 then some (soOn f1 (L.ws++[L.ws.getD (L.ws.length - (op - 127)) 0]) L.ms)
  else if 144≤op∧op≤159 then some (soOn f1 (swapL L.ws (op - 143)) L.ms)
  else
   let l:=(L.ws.drop (L.ws.length - x.tk)).reverse
   let L1:=L.setW (L.ws.take (L.ws.length - x.tk))
   if (halvesF op).isSome then some (soOn f1 (L1.ws++[halfV op (l.getD 0 0) (l.getD 1 0)]) L.ms)
   else if (saysF op).isSome then some (soOn f1 (L1.ws++[sayV op f1 L1 e0 e1 e2 e3]) L.ms)
   else doV op f1 L1 l
def soF (f:FrV) (o:SO) (s k:Value):FrV:={ f with pc:=o.pc,gas:=o.gas,stk:=s,mem:=k }
def soL (L:FrL) (o:SO):FrL:={ L with ws:=o.ws,ms:=o.ms }
def SoD (f:FrV) (L:FrL) (o:SO) (m:MaV) (gs:Fs):Prop:=∃ s k g1 g2 g3,m.fr=soF f o s k∧m.kind=o.kind∧(g1++(g2++g3)).Perm gs∧FrP m.fr (soL L o) g1 ∧
 ((o.kind=0∧o.op=0∧o.words=[]∧o.data=[])∨(o.kind ≠ 0∧m.op=o.op∧wM o.words m.words g2∧bM o.data m.data g3))
def DoK14 (b:Nat) (f:FrV) (L:FrL) (o:Option SO) (rest:Fs):Out:=fun x fs'=>match o with
 |none=>x=.panicked failC∧fs'=rest
 |some o=>x=.returned (.tuple #[])∧∃ m' gs',SoD f L o m' gs'∧fs'=(b,maO m')::(gs'++rest)
structure DoPre (m:MaV) (L:FrL) (l:List Nat):Prop where
 ok:okSc L.ws.length L.ms.length
 gas:m.fr.gas≤20000
 il:L.il.length≤1024
 bl:L.bl.length≤1024
 cl:L.cl.length≤200
 val:m.fr.val < M256
 ls:∀ x∈l,x < M256
 kind:m.kind=0
def DoC (fid:FuncId) (op:Nat) (tk ly:Nat) (V:FrV→FrL→List Nat→Option SO):Prop :=
 ∀ (w0:World) (b:Nat) (m:MaV) (L:FrL) (l:List Nat) (gs gt rest:Fs) (w:World),SK.TurnAt w0→SK.NumAt w0→DoPre m L l→m.op=op→tk≤l.length→L.ws.length+ly≤64→FrP m.fr L gs→wM l m.took gt→St w0 [] ((b,maO m)::(gs++(gt++rest))) w →
  Calls Tryz.prog fid #[.pointer (some ⟨b,0,none⟩)] w (fun x w'=>∃ fs',DoK14 b m.fr L (V m.fr L l) rest x fs'∧St w0 [] fs' w')
end Go.Proofs.YtdeggbkbblfpoaaGreatDoor
namespace Go.Proofs.YtdeggbkbblfpoaaGreatDoor
open Go Go.RowKit SL
set_option maxRecDepth 8000
set_option maxHeartbeats 4000000
set_option linter.unusedSimpArgs false
set_option linter.unusedVariables false
attribute [local irreducible] SL.CW SL.LW SL.DW Calls SL.Ret SL.RetG SL.beginQ SL.roundQ SL.rangeQ SL.inQ SL.RW SL.AnyW SL.thenQ SL.thenC SL.thenW SL.blkQ SL.finQ SL.ValP SL.NewP SL.SetP SL.CallP SL.Rd SL.Wr SL.Known

section
structure AkV where
 kind:Int
 op:Nat
 ws:Value
 dt:Value
 cold:Bool
 vl:Bool
 new:Bool
section rd
variable {P : Program} {T E : TypeId} {fr : Nat × Nat} {A : AkV} {f : FrV} {c : ClV} {code stk mem inp back : Value} {pc : Int} {gas self frm val : Nat} {stat : Bool} {op dst cself cfrm cval cgas pl n : Nat} {cinp ccode : Value} {mv cstat : Bool}
end rd
section wr
variable {P : Program} {T E : TypeId} {A : AkV} {f : FrV} {c : ClV} {z code stk mem inp back : Value} {pc : Int} {gas self frm val x q k : Nat} {stat y : Bool} {p : Option Addr} {op dst cself cfrm cval cgas pl n : Nat} {cinp ccode : Value} {mv cstat : Bool}
end wr
attribute [local irreducible] SL.inP
end
section
theorem grow_in (ws:List Nat) (ms:List UInt8) (p0 n:Nat) (s m:Value) (w:World) (hs:RowAt w 4 s ws.length (wcs ws)) (hm:RowAt w 1 m ms.length (ucs ms)) (hok:okSc ws.length ms.length) (hn:0 < n) (hn2:p0+n≤ms.length) :
  Calls Tryz.prog 122 #[.agg #[s,m],.int .u64 (p0:Int),.int .u64 (n:Int)] w (RetG w [] (fun r gs=>∃ o,r=.tuple #[o,.int .i64 0]∧ScO ws ms o gs)):=by
 have hs0:=hs
 have hm0:=hm
 obtain ⟨p,c,rfl,_,hc⟩:=hs.form
 obtain ⟨p2,c2,rfl,_,hc2⟩:=hm.form
 have hC:∀ w,Calls Tryz.prog 84 #[.agg #[.slice p ws.length c,.slice p2 ms.length c2]] w (Ret w (.int .i64 0)):=fun w=>by
  have h:=scCheck_calls p p2 ws.length c ms.length c2 (by omega) (by omega) w
  rwa [if_pos hok] at h
 have hok2:=hok
 unfold okSc at hok2
 obtain ⟨hn1,hk1,hk2⟩:=hok2
 refine enter (args:=[_,_,_]) _ [] [] Tryz.func122 rfl Tryz.ntmps122 rfl (by simp) .nil ?_
 (refine sRz ?_;apply zT;rfl;rfl;intro _;apply zU;rfl;intro _;refine vAz<|nNz<|zI<|sRz<|ldz rfl (.tail .head) (qJ rfl) ?_;apply zS;rfl;rfl;infer_instance;exact .cons rfl .nil;intro w _;exact hC w;refine vAz<|nSz<|vMz ?_;refine lvz (.neF rfl rfl (by omega)) ?_;refine nNz<|cFz<|zJ<|thenN<|sRz<|ldz rfl (.tail .head) (qJ rfl) ?_)
 (apply LW.callR;rfl;rfl;infer_instance;exact .cons rfl .nil;intro w hs)
 exact copied_calls ws ms _ _ w (hs0.st hs) (hm0.st hs) (by omega) (by omega)
 rintro vo gso ⟨s1,m1,g1,g2,rfl,rfl,h1,h2⟩
 have h1':=h1
 have h2':=h2
 unfold wM at h1'
 unfold bM at h2'
 obtain ⟨q1,k1,rfl⟩:=h1'.form
 obtain ⟨q2,k2,rfl⟩:=h2'.form
 (apply zU;rfl;intro _;refine zR rfl rfl .head (.whole rfl rfl rfl)<|nNz<|zI<|sRz<|vMz ?_;refine lvz (.eqF rfl rfl (by omega)) ?_;refine nNz<|cFz<|zJ<|thenN<|zI<|sRz<|vMz ?_;refine lvz (.gtrF rfl rfl (by omega)) ?_;refine vMz<|gTz<|vMz<|gTz ?_;refine lvz (.gtrF rfl rfl (by omega)) ?_;refine pFz<|vMz<|gTz<|vMz<|gTz<|vMz<|gTz<|lvz (.addN rfl rfl)<|gTz ?_;refine lvz (.gtrF rfl rfl (by omega)) ?_;refine pFz<|nNz<|cFz<|zJ<|thenN<|sRz<|vMz<|vMz<|lvz (.addN rfl rfl) ?_;refine lvz (.convI rfl (by omega) (by omega)) ?_;refine lvz (.addZL rfl rfl (by decide) (by omega)) ?_;refine lvz (.subZL rfl rfl (by decide) (by omega) (by omega)) ?_;refine lvz (.quoZL rfl rfl (by decide) (by omega) (by omega)) ?_;refine lvz (.mulZL rfl rfl (by decide) (by omega)) ?_;refine vAz<|nNz<|zI<|sRz<|vMz<|vFz<|ldz rfl .head sc_rd1<|lvz (.lenR rfl inferInstance rfl) ?_;refine lvz (.subI rfl rfl (by omega) (by omega)) ?_;apply LW.v0;rfl;rfl;apply ValP.maxD;rfl;rfl;refine vMz<|nNz<|zM ?_)
 rename_i b3 b6 b9
 have hD:((p0+n) % 18446744073709551616+32 - 1) / 32 * 32 - ms.length=0:=by omega
 rw [hD]
 refine CW.loop (fun x:Unit=>([(9,.pointer (some ⟨b9,0,none⟩)),(6,.pointer (some ⟨b6,0,none⟩)),(48,.int .i64 ((0:Nat):Int)),(49,.int .i64 ((0:Nat):Int))],(b9,.cells #[.slice q1 ws.length k1,.slice q2 ms.length k2] 25 (0,0))::(g2++(g1++[(b6,.cells #[.slice none 0 0,.slice none 0 0] 25 (0,0))]))))
  (fun x=>True) (fun x=>0) () trivial ⟨rfl,rfl,rfl,rfl,trivial⟩ (by simp) ?_
 intro _ _
 dsimp only
 (refine sRz ?_;refine lvz (.lssF rfl rfl (by omega)) ?_;refine nNz<|zI<|cFz<|CW.exit<|thenE<|thenE<|blkE rfl<|thenN<|sRz<|ldz rfl .head (qJ rfl) ?_;refine zR rfl rfl (.tail (.app (.app .head))) (.whole rfl rfl rfl)<|vAz<|nNz<|zK ?_)
 refine fin (vs:=[.agg #[.slice q1 ws.length k1,.slice q2 ms.length k2],.int .i64 0]) (g2++g1) (.inl rfl) rfl rfl (by (apply zD;apply zH;rfl;apply qI;apply zX;apply zZ;apply zZ;apply zY;exact qJ rfl;apply zD;exact zG rfl;exact zF)) ?_ ⟨_,rfl,_,_,g1,g2,rfl,rfl,h1,h2⟩
 exact qU _ (List.Sublist.append_left (qT _ _) _)
def CutR (ws:List Nat) (ms:List UInt8) (p0 n:Nat) (r:Value) (gs:Fs):Prop:=∃ o v go gv,r=.tuple #[o,v,.int .i64 0]∧gs=gv++go∧ScO ws ms o go∧bM ((ms.drop p0).take n) v gv
theorem RowAt.mid {w:World} {g o N c k n:Nat} {xs:List Value} (h:RowAt w 1 (.slice (some ⟨g,o,none⟩) N c) N xs) (hn:0 < n) (hk:k+n≤N):RowAt w 1 (.slice (some ⟨g,o+k,none⟩) n n) n ((xs.drop (k * 1)).take (n * 1)):=by
 obtain ⟨_,_,he,hle,_⟩:=h.form
 cases he
 have h1:=h.drop (k:=k) (by omega)
 have e1:cutAt (some ⟨g,o,none⟩) k N c 1=.slice (some ⟨g,o+k,none⟩) (N - k) (c - k):=by
  unfold cutAt
  rw [if_neg (by omega)]
  simp [Addr.add]
 rw [e1] at h1
 exact RowAt.cutMax h1 (by omega)
theorem cut_in (ws:List Nat) (ms:List UInt8) (p0 n:Nat) (s m:Value) (w:World) (hs:RowAt w 4 s ws.length (wcs ws)) (hm:RowAt w 1 m ms.length (ucs ms)) (hok:okSc ws.length ms.length) (hn:0 < n) (hn2:p0+n≤ms.length) :
  Calls Tryz.prog 222 #[.agg #[s,m],.int .u64 (p0:Int),.int .u64 (n:Int)] w (RetG w [] (CutR ws ms p0 n)):=by
 have hs0:=hs
 have hm0:=hm
 have hk1:=hok.2.1
 obtain ⟨p,c,rfl,_,hc⟩:=id hs.form
 obtain ⟨p2,c2,rfl,_,hc2⟩:=id hm.form
 refine enter (args:=[_,_,_]) _ [] [] Tryz.func222 rfl Tryz.ntmps222 rfl (by simp) .nil ?_
 (refine sRz ?_;apply zT;rfl;rfl;intro _;apply zU;rfl;intro _;refine vAz<|vAz<|nSz<|ldz rfl (.tail .head) (qJ rfl)<|vMz<|vMz ?_)
 (apply LW.callR;rfl;rfl;infer_instance;exact .cons rfl (.cons rfl (.cons rfl .nil));intro w hs)
 exact grow_in ws ms p0 n _ _ w (hs0.st hs) (hm0.st hs) hok hn hn2
 rintro vo gso ⟨o,rfl,s1,m1,g1,g2,rfl,rfl,h1,h2⟩
 have h1':=h1
 have h2':=h2
 unfold wM at h1'
 unfold bM at h2'
 obtain ⟨q1,k1,rfl⟩:=id h1'.form
 obtain ⟨q2,k2,rfl⟩:=id h2'.form
 have hle2:=IsRow.le h2'
 have hmod:(p0+n) % 18446744073709551616=p0+n:=Nat.mod_eq_of_lt (by omega)
 obtain ⟨gm,cur,rfl,rfl,hn3,hm3,hsz3,htk3⟩:=id (h2'.pos (by omega))
 (refine vMz ?_;refine vEz ?_;refine vEz ?_;apply zU;rfl;intro _;refine zR rfl rfl .head (.whole rfl rfl rfl)<|vAz<|nNz<|zI<|sRz<|vMz ?_;refine lvz (.neF rfl rfl (by omega)) ?_;refine vMz<|gTz<|vMz<|gTz ?_;refine lvz (.eqF rfl rfl (by omega)) ?_;refine pFz<|nNz<|cFz<|zJ<|thenN<|zI ?_)
 apply CW.pre
 (refine AnyW.anyM [(11,bM ((ms.drop p0).take n))] 12 mixed (by decide +kernel) ?_)
 ((try simp only [tsOf_cons,tsOf_nil,tsOf_app]);apply qH;rfl;rfl;rfl;exact zC;rfl;apply zP;exact zN;exact qJ rfl;refine dvz (.fieldAddr rfl rfl) ?_;apply qH;rfl;rfl;rfl;exact zC;rfl;apply zP;exact zN;exact sc_rd1;refine dvz (.move rfl)<|dvz (.move rfl)<|dvz (.move rfl)<|dvz (.addN rfl rfl)<|dvz (.move rfl)<|dvz (.move rfl)<|dvz (.addN rfl rfl) ?_;apply DW.v0;rfl;rfl;rfl;exact zC;rfl;refine SK.ValP.cut3o (m:=n) (o':=0+p0) inferInstance inferInstance rfl rfl rfl rfl ?_ ?_ ?_ ?_ ?_;omega;omega;omega;omega;rfl)
 (apply DW.manyV;rfl;rfl;rfl;exact zC;rfl;infer_instance;exact .cons rfl .nil;apply RdV.own;assumption;apply zO;apply zP;exact zN;exact RdV.nil;intro w _ _)
 ·have hr:=RowAt.mid (k:=p0) (n:=n) (IsRow.us h2' (fun p hp=>by obtain rfl:=List.mem_singleton.1 hp;rename_i hu;exact hu _ List.mem_cons_self) (qQ _)) hn (by omega)
  rw [ucs_drop,ucs_take] at hr
  have hlen:((ms.drop p0).take n).length=n:=by rw [List.length_take,List.length_drop];omega
  have h9:=SK.Clone_calls ((ms.drop p0).take n) _ w (by rw [hlen];exact hr) (by omega)
  exact h9
 intro v3 g3 h3
 have h3':=h3
 unfold bM at h3'
 obtain ⟨q3,k3,rfl⟩:=id h3'.form
 ((try simp only [tsOf_cons,tsOf_nil,tsOf_app]);apply DW.nil;simp only [fsOf_cons,fsOf_nil,fsOf_app,fsOf_tsOf,fsOf_new,fsOf_tag])
 simp only [fsOf_cons,fsOf_nil,fsOf_app,fsOf_tsOf,List.append_eq,List.nil_append]
 (refine zR rfl rfl (.app (.tail (.tail (.app .head)))) (.whole rfl rfl rfl)<|vAz<|vAz<|nNz<|zK ?_)
 refine fin (vs:=[.agg #[.slice q1 ws.length k1,.slice (some ⟨gm,0,none⟩) ms.length k2],.slice q3 ((ms.drop p0).take n).length k3,.int .i64 0]) (g3++((gm,.cells cur 5 (0,0))::g1)) (.inl rfl) rfl rfl (by (apply zD;apply zH;rfl;apply qI;apply zZ;apply zX;apply zX;apply zZ;apply zY;exact qJ rfl;apply zD;exact zG rfl;apply zD;exact zG rfl;exact zF)) ?_ ⟨_,_,_,g3,rfl,rfl,⟨_,_,g1,[(gm,.cells cur 5 (0,0))],rfl,rfl,h1,h2⟩,h3⟩
 exact List.Sublist.append_left (qU _ (List.Sublist.cons_cons _ (qT _ _))) _
attribute [local irreducible] SL.inP
end
theorem grow_zero (ws:List Nat) (ms:List UInt8) (a n:Nat) (h0:n=0) (s m:Value) (w:World) (hs:RowAt w 4 s ws.length (wcs ws)) (hm:RowAt w 1 m ms.length (ucs ms)) (hok:okSc ws.length ms.length) :
  Calls Tryz.prog 122 #[.agg #[s,m],.int .u64 (a:Int),.int .u64 (n:Int)] w (RetG w [] (fun r gs=>∃ o,r=.tuple #[o,.int .i64 0]∧ScO ws ms o gs)):=by
 have hs0:=hs
 have hm0:=hm
 obtain ⟨p,c,rfl,_,hc⟩:=hs.form
 obtain ⟨p2,c2,rfl,_,hc2⟩:=hm.form
 have hC:∀ w,Calls Tryz.prog 84 #[.agg #[.slice p ws.length c,.slice p2 ms.length c2]] w (Ret w (.int .i64 0)):=fun w=>by
  have h:=scCheck_calls p p2 ws.length c ms.length c2 (by omega) (by omega) w
  rwa [if_pos hok] at h
 obtain ⟨hn1,hk1,hk2⟩:=id hok
 refine enter (args:=[_,_,_]) _ [] [] Tryz.func122 rfl Tryz.ntmps122 rfl (by simp) .nil ?_
 (refine sRz ?_;apply zT;rfl;rfl;intro _;apply zU;rfl;intro _;refine vAz<|nNz<|zI<|sRz<|ldz rfl (.tail .head) (qJ rfl) ?_;apply zS;rfl;rfl;infer_instance;exact .cons rfl .nil;intro w _;exact hC w;refine vAz<|nSz<|vMz ?_;refine lvz (.neF rfl rfl (by omega)) ?_;refine nNz<|cFz<|zJ<|thenN<|sRz<|ldz rfl (.tail .head) (qJ rfl) ?_)
 (apply LW.callR;rfl;rfl;infer_instance;exact .cons rfl .nil;intro w hs)
 exact copied_calls ws ms _ _ w (hs0.st hs) (hm0.st hs) (by omega) (by omega)
 rintro vo gso ⟨s1,m1,g1,g2,rfl,rfl,h1,h2⟩
 have h1':=h1
 have h2':=h2
 unfold wM at h1'
 unfold bM at h2'
 obtain ⟨q1,k1,rfl⟩:=h1'.form
 obtain ⟨q2,k2,rfl⟩:=h2'.form
 (apply zU;rfl;intro _;refine zR rfl rfl .head (.whole rfl rfl rfl)<|nNz<|zI<|sRz<|vMz ?_;refine lvz (.eqT rfl rfl (by omega)) ?_;refine nNz<|cTz<|sRz<|ldz rfl .head (qJ rfl) ?_;refine zR rfl rfl (.tail (.app .head)) (.whole rfl rfl rfl)<|vAz<|nNz<|zK<|thenR ?_)
 refine fin (vs:=[.agg #[.slice q1 ws.length k1,.slice q2 ms.length k2],.int .i64 0]) (g2++g1) (.inl rfl) rfl rfl (by (apply zD;apply zH;rfl;apply qI;apply zX;apply zZ;apply zY;exact qJ rfl;apply zD;exact zG rfl;exact zF)) ?_ ⟨_,rfl,_,_,g1,g2,rfl,rfl,h1,h2⟩
 exact qU _ (qT _ _)
theorem growIn_calls (ws:List Nat) (ms:List UInt8) (a n:Nat) (s m:Value) (w:World) (hs:RowAt w 4 s ws.length (wcs ws)) (hm:RowAt w 1 m ms.length (ucs ms)) (hok:okSc ws.length ms.length) (hn:n=0∨a+n≤ms.length) :
  Calls Tryz.prog 122 #[.agg #[s,m],.int .u64 (a:Int),.int .u64 (n:Int)] w (RetG w [] (fun r gs=>∃ o,r=.tuple #[o,.int .i64 0]∧ScO ws ms o gs)):=by
 rcases Nat.eq_zero_or_pos n with h0|h0
 ·exact grow_zero ws ms a n h0 s m w hs hm hok
 ·exact grow_in ws ms a n s m w hs hm hok h0 (by omega)
theorem cut_zero (ws:List Nat) (ms:List UInt8) (a n:Nat) (h0:n=0) (s m:Value) (w:World) (hs:RowAt w 4 s ws.length (wcs ws)) (hm:RowAt w 1 m ms.length (ucs ms)) (hok:okSc ws.length ms.length) :
  Calls Tryz.prog 222 #[.agg #[s,m],.int .u64 (a:Int),.int .u64 (n:Int)] w (RetG w [] (CutR ws ms a n)):=by
 obtain ⟨p,c,rfl,_,hc⟩:=id hs.form
 obtain ⟨p2,c2,rfl,_,hc2⟩:=id hm.form
 have hs0:=hs
 have hm0:=hm
 refine enter (args:=[_,_,_]) _ [] [] Tryz.func222 rfl Tryz.ntmps222 rfl (by simp) .nil ?_
 (refine sRz ?_;apply zT;rfl;rfl;intro _;apply zU;rfl;intro _;refine vAz<|vAz<|nSz<|ldz rfl (.tail .head) (qJ rfl)<|vMz<|vMz ?_)
 (apply LW.callR;rfl;rfl;infer_instance;exact .cons rfl (.cons rfl (.cons rfl .nil));intro w hs)
 exact grow_zero ws ms a n h0 _ _ w (hs0.st hs) (hm0.st hs) hok
 rintro vo gso ⟨o,rfl,s1,m1,g1,g2,rfl,rfl,h1,h2⟩
 have h1':=h1
 have h2':=h2
 unfold wM at h1'
 unfold bM at h2'
 obtain ⟨q1,k1,rfl⟩:=h1'.form
 obtain ⟨q2,k2,rfl⟩:=h2'.form
 subst h0
 (refine vMz ?_;refine vEz ?_;refine vEz ?_;apply zU;rfl;intro _;refine zR rfl rfl .head (.whole rfl rfl rfl)<|vAz<|nNz<|zI<|sRz<|vMz ?_;refine lvz (.neF rfl rfl (by omega)) ?_;refine vMz<|gTz<|vMz<|gTz ?_;refine lvz (.eqT rfl rfl (by omega)) ?_;refine pFz<|nNz<|cTz<|sRz<|ldz rfl .head (qJ rfl)<|vMz ?_;refine zR rfl rfl (.tail (.app .head)) (.whole rfl rfl rfl)<|vAz<|vAz<|nNz<|zK<|thenR ?_)
 refine fin (vs:=[.agg #[.slice q1 ws.length k1,.slice q2 ms.length k2],.slice none 0 0,.int .i64 0]) (g2++g1) (.inl rfl) rfl rfl (by (apply zD;apply zH;rfl;apply qI;apply zX;apply zZ;apply zY;exact qJ rfl;apply zD;exact zG rfl;apply zD;exact zG rfl;exact zF)) ?_ ⟨_,_,g2++g1,[],rfl,rfl,⟨_,_,g1,g2,rfl,rfl,h1,h2⟩,by rw [List.take_zero];exact .nil⟩
 exact qU _ (qT _ _)
theorem cutIn_calls (ws:List Nat) (ms:List UInt8) (a n:Nat) (s m:Value) (w:World) (hs:RowAt w 4 s ws.length (wcs ws)) (hm:RowAt w 1 m ms.length (ucs ms)) (hok:okSc ws.length ms.length) (hn:n=0∨a+n≤ms.length) :
  Calls Tryz.prog 222 #[.agg #[s,m],.int .u64 (a:Int),.int .u64 (n:Int)] w (RetG w [] (CutR ws ms a n)):=by
 rcases Nat.eq_zero_or_pos n with h0|h0
 ·exact cut_zero ws ms a n h0 s m w hs hm hok
 ·exact cut_in ws ms a n s m w hs hm hok h0 (by omega)
theorem layIn_calls (ws:List Nat) (ms:List UInt8) (a:Nat) (l:List UInt8) (s m v:Value) (w:World) (hs:RowAt w 4 s ws.length (wcs ws)) (hm:RowAt w 1 m ms.length (ucs ms)) (hv:RowAt w 1 v l.length (ucs l)) (hok:okSc ws.length ms.length) (hn:l=[]∨a+l.length≤ms.length) :
  Calls Tryz.prog 223 #[.agg #[s,m],.int .u64 (a:Int),v] w (RetG w [] (fun r gs=>∃ o,r=.tuple #[o,.int .i64 0]∧ScO ws (layL ms a l) o gs)):=by
 have hs0:=hs
 have hm0:=hm
 have hk1:=hok.2.1
 obtain ⟨p,c,rfl,_,hc⟩:=id hs.form
 obtain ⟨p2,c2,rfl,_,hc2⟩:=id hm.form
 obtain ⟨p3,c3,rfl,_,hc3⟩:=id hv.form
 have hn':l.length=0∨a+l.length≤ms.length:=by
  rcases hn with rfl|h
  ·exact .inl rfl
  ·exact .inr h
 have hll:l.length≤1024:=by omega
 refine enter (args:=[_,_,_]) _ [] [] Tryz.func223 rfl Tryz.ntmps223 rfl (by simp) .nil ?_
 (refine sRz ?_;apply zT;rfl;rfl;intro _;apply zU;rfl;intro _;refine vAz<|nSz<|ldz rfl (.tail .head) (qJ rfl)<|vMz<|vMz<|lvz (.lenR rfl inferInstance rfl) ?_;refine lvz (.convN rfl (by omega) (by omega)) ?_)
 (apply LW.callR;rfl;rfl;infer_instance;exact .cons rfl (.cons rfl (.cons rfl .nil));intro w hs)
 exact growIn_calls ws ms a l.length _ _ w (hs0.st hs) (hm0.st hs) hok hn'
 rintro vo gso ⟨o,rfl,s1,m1,g1,g2,rfl,rfl,h1,h2⟩
 have h1':=h1
 have h2':=h2
 unfold wM at h1'
 unfold bM at h2'
 obtain ⟨q1,k1,rfl⟩:=id h1'.form
 obtain ⟨q2,k2,rfl⟩:=id h2'.form
 rcases Nat.eq_zero_or_pos l.length with h0|h0
 ·obtain rfl:=List.length_eq_zero_iff.1 h0
  rw [layL_nil]
  (refine vMz ?_;refine vEz ?_;refine vEz ?_;apply zU;rfl;intro _;refine zR rfl rfl .head (.whole rfl rfl rfl)<|vAz<|nNz<|zI<|sRz<|vMz ?_;refine lvz (.neF rfl rfl (by omega)) ?_;refine vMz<|gTz<|vMz<|gTz<|lvz (.lenR rfl inferInstance rfl)<|gTz ?_;refine lvz (.eqT rfl rfl (by omega)) ?_;refine pFz<|nNz<|cTz<|sRz<|ldz rfl .head (qJ rfl)<|vMz ?_;refine zR rfl rfl (.tail (.app .head)) (.whole rfl rfl rfl)<|vAz<|nNz<|zK<|thenR ?_)
  refine fin (vs:=[.agg #[.slice q1 ws.length k1,.slice q2 ms.length k2],.int .i64 0]) (g2++g1) (.inl rfl) rfl rfl (by (apply zD;apply zH;rfl;apply qI;apply zX;apply zZ;apply zY;exact qJ rfl;apply zD;exact zG rfl;exact zF)) ?_ ⟨_,rfl,_,_,g1,g2,rfl,rfl,h1,h2⟩
  exact qU _ (qT _ _)
 ·have hal:a+l.length≤ms.length:=by omega
  obtain ⟨gm,cur,rfl,rfl,hn3,hm3,hsz3,htk3⟩:=id (h2'.pos (by omega))
  simp only [List.cons_append,List.nil_append]
  (refine vMz ?_;refine vEz ?_;refine vEz ?_;apply zU;rfl;intro _;refine zR rfl rfl .head (.whole rfl rfl rfl)<|vAz<|nNz<|zI<|sRz<|vMz ?_;refine lvz (.neF rfl rfl (by omega)) ?_;refine vMz<|gTz<|vMz<|gTz<|lvz (.lenR rfl inferInstance rfl)<|gTz ?_;refine lvz (.eqF rfl rfl (by omega)) ?_;refine pFz<|nNz<|cFz<|zJ<|thenN<|sRz<|vFz<|ldz rfl .head sc_rd1<|vMz ?_;refine lvz (.cutFrom inferInstance inferInstance rfl rfl (by omega)) ?_;refine vMz ?_)
  have e1:cutAt (some ⟨gm,0,none⟩) a ms.length k2 1=.slice (some ⟨gm,a,none⟩) (ms.length - a) (k2 - a):=by
   unfold cutAt
   rw [if_neg (by omega)]
   simp [Addr.add]
   omega
  rw [e1]
  refine LW.copyAt (cur:=cur) (E':=5) (m:=l.length) (news:=ucs l) rfl rfl inferInstance inferInstance inferInstance rfl rfl (fun w' hst=>hv.st hst) (ucs_cells _) (by omega) (by omega) (by (apply qD;apply qA)) ?_
  (refine nSz<|ldz rfl .head (qJ rfl) ?_;refine zR rfl rfl (.tail (.tail (.app .head))) (.whole rfl rfl rfl)<|vAz<|nNz<|zK ?_)
  have hcl:(cur.toList.take a++ucs l++cur.toList.drop (a+l.length)).length=k2:=by
   have hcs:cur.toList.length=k2:=by rw [Array.length_toList,hsz3,Nat.mul_one]
   simp only [List.length_append,List.length_take,List.length_drop,ucs_len,hcs]
   omega
  refine fin (vs:=[.agg #[.slice q1 ws.length k1,.slice (some ⟨gm,0,none⟩) ms.length k2],.int .i64 0]) ([(gm,.cells (cur.toList.take a++ucs l++cur.toList.drop (a+l.length)).toArray 5 (0,0))]++g1) (.inl rfl) rfl rfl (by (apply zD;apply zH;rfl;apply qI;apply zX;apply zX;apply zZ;apply zY;exact qJ rfl;apply zD;exact zG rfl;exact zF)) (qU _ (List.Sublist.cons_cons _ (qT _ _))) ⟨_,rfl,_,_,g1,[(gm,_)],rfl,rfl,h1,?_⟩
  unfold bM
  rw [layL_len hn]
  refine .own hn3 hm3 (by rw [List.size_toArray,hcl,Nat.mul_one]) ?_ (by rw [ucs_len,layL_len hn,Nat.mul_one])
  rw [Nat.mul_one] at htk3 ⊢
  show (cur.toList.take a++ucs l++cur.toList.drop (a+l.length)).take ms.length=_
  have hcs:cur.toList.length=k2:=by rw [Array.length_toList,hsz3,Nat.mul_one]
  have e2:ucs (ms.take a)=cur.toList.take a:=by
   have h:=ucs_take ms a
   rw [Nat.mul_one] at h
   rw [← h,← htk3,List.take_take,Nat.min_eq_left (by omega)]
  have e3:ucs (ms.drop (a+l.length))=(cur.toList.drop (a+l.length)).take (ms.length - (a+l.length)):=by
   have h:=ucs_drop ms (a+l.length)
   rw [Nat.mul_one] at h
   rw [← h,← htk3,List.drop_take]
  have e4:(cur.toList.take a++ucs l).length=a+l.length:=by
   rw [List.length_append,ucs_len,List.length_take,hcs]
   omega
  unfold layL
  rw [ucs_app,ucs_app,e2,e3,List.take_append,e4,List.take_of_length_le (by rw [e4];omega)]
section
attribute [local irreducible] SL.inP
def CutP (b:Nat) (m:MaV) (l:List UInt8) (gs rest:Fs):Out:=fun x fs'=>∃ v g',x=.returned v∧bM l v g'∧fs'=(b,maO m)::(gs++(g'++rest))
theorem cutM_calls (w0:World) (b:Nat) (m:MaV) (L:FrL) (gs:Fs) (a n:Nat) (hok:okSc L.ws.length L.ms.length) (hn:n=0∨a+n≤L.ms.length) (hfr:FrP m.fr L gs) (rest:Fs) (w:World) (hs:St w0 [] ((b,maO m)::(gs++rest)) w) :
  Calls Tryz.prog 205 #[.pointer (some ⟨b,0,none⟩),.int .u64 (a:Int),.int .u64 (n:Int)] w (fun x w'=>∃ fs',CutP b m ((L.ms.drop a).take n) gs rest x fs'∧St w0 [] fs' w'):=by
 have h1:∀ w',St w0 [] ((b,maO m)::(gs++rest)) w'→RowAt w' 4 m.fr.stk L.ws.length (wcs L.ws)∧RowAt w' 1 m.fr.mem L.ms.length (ucs L.ms):=fun w' h=>by
  have hr:=hfr.st h fun p hp=>qS _ (List.mem_append_left _ hp)
  exact ⟨hr.s,hr.m⟩
 refine calls_anyO (calls_inlineP (K:=anyO (CutP b m ((L.ms.drop a).take n) gs rest)) (args:=[_,_,_]) Tryz.func205 rfl Tryz.ntmps205 rfl ?_ hs)
 (refine sRz<|vAz<|nSz<|vMz<|vNz<|vFz<|vFz<|ldz rfl .head ma_rd2<|vMz<|vMz ?_)
 (apply LW.callR;rfl;rfl;infer_instance;exact .cons rfl (.cons rfl (.cons rfl .nil));intro w hs)
 exact cutIn_calls L.ws L.ms a n _ _ w (h1 w hs).1 (h1 w hs).2 hok hn
 rintro vo gso ⟨o,v,go,gv,rfl,rfl,⟨s1,m1,g1,g2,rfl,rfl,hw1,hb1⟩,hv⟩
 have hw1':=hw1
 have hb1':=hb1
 have hv':=hv
 unfold wM at hw1'
 unfold bM at hb1' hv'
 obtain ⟨q1,k1,rfl⟩:=hw1'.form
 obtain ⟨q2,k2,rfl⟩:=hb1'.form
 obtain ⟨q3,k3,rfl⟩:=hv'.form
 (refine vMz ?_;refine vEz ?_;refine vEz ?_;refine vEz ?_;apply zU;rfl;intro _;refine zR rfl rfl .head (.whole rfl rfl rfl)<|vAz<|vAz<|nSz<|vMz ?_;refine lvz (.eqT rfl rfl (by omega)) ?_;apply zS;rfl;rfl;infer_instance;exact .cons rfl .nil;intro w _;exact need_true w;refine nSz<|vMz<|vAz<|nNz<|zK ?_)
 refine inPI (vs:=[.slice q3 (List.take n (List.drop a L.ms)).length k3]) (.inl rfl) .nil rfl (by (apply zD;exact zG rfl;exact zF)) rfl ⟨_,⟨_,gv,rfl,hv,rfl⟩,?_⟩
 simp only [List.append_assoc,List.cons_append,List.nil_append]
 exact subp_ix [[_],gv,g2,g1,[_],gs] (xs:=[4,5,1]) (ys:=[0,1,2,3,4,5]) rest rfl
def PutP (b:Nat) (m:MaV) (L:FrL) (ms:List UInt8) (rest:Fs):Out:=fun x fs'=>x=.returned (.tuple #[])∧∃ s k gs',FrO (m.fr.setR m.fr.gas s k) (L.setM ms) gs'∧fs'=(b,maO (m.setF (m.fr.setR m.fr.gas s k)))::(gs'++rest)
theorem putM_calls (w0:World) (b:Nat) (m:MaV) (L:FrL) (gs:Fs) (a:Nat) (l:List UInt8) (v:Value) (hok:okSc L.ws.length L.ms.length) (hn:l=[]∨a+l.length≤L.ms.length) (hfr:FrP m.fr L gs) (rest:Fs) (w:World)
  (hv:∀ w',St w0 [] ((b,maO m)::(gs++rest)) w'→RowAt w' 1 v l.length (ucs l)) (hs:St w0 [] ((b,maO m)::(gs++rest)) w) :
  Calls Tryz.prog 206 #[.pointer (some ⟨b,0,none⟩),.int .u64 (a:Int),v] w (fun x w'=>∃ fs',PutP b m L (layL L.ms a l) rest x fs'∧St w0 [] fs' w'):=by
 have h1:∀ w',St w0 [] ((b,maO m)::(gs++rest)) w'→RowAt w' 4 m.fr.stk L.ws.length (wcs L.ws)∧RowAt w' 1 m.fr.mem L.ms.length (ucs L.ms):=fun w' h=>by
  have hr:=hfr.st h fun p hp=>qS _ (List.mem_append_left _ hp)
  exact ⟨hr.s,hr.m⟩
 obtain ⟨g1,g2,g3,g4,g5,hp,hall⟩:=hfr
 have hP:List.Perm ((b,maO m)::(g1++(g2++(g3++(g4++g5)))++rest)) ((b,maO m)::(gs++rest)):=List.Perm.cons _ (hp.append_right rest)
 replace hs:=hs.perm hP
 replace h1:=fun w' h=>h1 w' (St.perm h hP.symm)
 replace hv:=fun w' h=>hv w' (St.perm h hP.symm)
 refine calls_anyO (calls_inlineP (K:=anyO (PutP b m L (layL L.ms a l) rest)) (args:=[_,_,_]) Tryz.func206 rfl Tryz.ntmps206 rfl ?_ hs)
 (refine sRz<|vMz<|vNz<|vFz<|vFz<|ldz rfl .head ma_rd2<|vMz<|vMz ?_)
 (apply LW.callR;rfl;rfl;infer_instance;exact .cons rfl (.cons rfl (.cons rfl .nil));intro w hs)
 exact layIn_calls L.ws L.ms a l _ _ v w (h1 w hs).1 (h1 w hs).2 (hv w hs) hok hn
 rintro vo gso ⟨o,rfl,s1,m1,gg1,gg2,rfl,rfl,hw1,hb1⟩
 have hw1':=hw1
 have hb1':=hb1
 unfold wM at hw1'
 unfold bM at hb1'
 obtain ⟨q1,k1,rfl⟩:=hw1'.form
 obtain ⟨q2,k2,rfl⟩:=hb1'.form
 (refine vMz ?_;refine vEz ?_;refine vEz ?_;apply zU;rfl;intro _;refine zR rfl rfl .head (.whole rfl rfl rfl)<|vAz<|nSz<|vMz ?_;refine lvz (.eqT rfl rfl (by omega)) ?_;apply zS;rfl;rfl;infer_instance;exact .cons rfl .nil;intro w _;exact need_true w;refine nNz<|zL<|vMz<|ldz rfl .head (qJ rfl)<|vNz<|vFz<|vFz ?_;refine zR rfl rfl (.tail (.app .head)) (ma_wr2 rfl rfl rfl rfl) ?_;apply zV)
 refine inPI (.inr rfl) .nil rfl .nil rfl ⟨_,⟨rfl,.slice q1 L.ws.length k1,.slice q2 (layL L.ms a l).length k2,g1++(gg1++(gg2++(g4++g5))),⟨g1,gg1,gg2,g4,g5,.refl _,hall.1,hw1,hb1,hall.2.2.2.1,hall.2.2.2.2⟩,rfl⟩,?_⟩
 simp only [List.append_assoc,List.cons_append,List.nil_append]
 exact subp_ix [[_],gg2,gg1,[_],g1,g2,g3,g4,g5] (xs:=[3,4,2,1,7,8]) (ys:=[0,1,2,3,4,5,6,7,8]) rest rfl
end
section
open CK (jumpC)
section rd
variable {P : Program} {T E : TypeId} {fr : Nat × Nat} {m : MaV}
theorem ma_rd11 [AgI P T false]:Rd P T (.cells (mca m) E fr) 11 m.fr.inp:=Rd.one rfl
theorem ma_rd12 [AgI P T false]:Rd P T (.cells (mca m) E fr) 12 m.fr.back:=Rd.one rfl
theorem ma_rd13 [AgI P T false]:Rd P T (.cells (mca m) E fr) 13 (.bool m.fr.stat):=Rd.one rfl
theorem ma_rd7 [AgI P T true] {z:Value} [InfoI P T 4 z]:Rd P T (.cells (mca m) E fr) 7 (wv m.fr.val):=Rd.mid (cs:=(wc m.fr.val).toList) rfl rfl
end rd
theorem took_at {l:List Nat} {t:Value} {gt:Fs} (h:wM l t gt) (h0:0 < l.length):∃ g cur c,t=.slice (some ⟨g,0,none⟩) l.length c∧gt=[(g,.cells cur 29 (0,0))]∧(cur.toList.drop 0).take (l.length * 4)=wcs l:=by
 unfold wM at h
 obtain ⟨q,c,rfl⟩:=id h.form
 obtain ⟨g,cur,rfl,rfl,_,_,_,htk⟩:=h.pos h0
 exact ⟨g,cur,c,rfl,rfl,by rw [List.drop_zero];exact htk⟩
theorem SoD.on {f g:FrV} {L:FrL} {ws:List Nat} {ms:List UInt8} {m:MaV} {gs:Fs} {s k:Value} (hk:m.kind=0) (hf:m.fr=soF f (soOn g ws ms) s k) (h:FrP m.fr (soL L (soOn g ws ms)) gs):SoD f L (soOn g ws ms) m gs :=
 ⟨s,k,gs,[],[],hf,hk,by simp,h,.inl ⟨rfl,rfl,rfl,rfl⟩⟩
attribute [local irreducible] SL.inP
theorem getD_wlt {l:List Nat} {i:Nat} (h:∀ a∈l,a < M256) (hi:i < l.length):l.getD i 0 < M256:=by
 rw [List.getD_eq_getElem?_getD,List.getElem?_eq_getElem hi]
 exact h _ (List.getElem_mem hi)
theorem isZero_do:DoC 159 21 1 1 (fun f L l=>some (soOn f (L.ws++[if l.getD 0 0=0 then 1 else 0]) L.ms)):=by
 intro w0 b m L l gs gt rest w hT hN hp hop hl hly hfr ht hs
 obtain ⟨gt0,cur,ct,htk,rfl,hcur⟩:=took_at ht (by omega)
 have hrdT:∀ {E fr},Rd Tryz.prog 23 (.cells (mca m) E fr) 18 (.slice (some ⟨gt0,0,none⟩) l.length ct):=fun {E fr}=>by rw [show Value.slice (some ⟨gt0,0,none⟩) l.length ct=m.took from htk.symm];exact ma_rd18
 have hrdX:Rd Tryz.prog 29 (.cells cur 29 (0,0)) (0+0 * 4) (wv (l.getD 0 0)):=word_rd hcur 0 (by omega)
 have hx:l.getD 0 0 < M256:=getD_wlt hp.ls (by omega)
 dsimp only
 obtain ⟨x,hxe⟩:∃ x,l.getD 0 0=x:=⟨_,rfl⟩
 rw [hxe] at hrdX hx ⊢
 obtain ⟨Z,hZ⟩:∃ Z,(if x=0 then 1 else 0)=Z:=⟨_,rfl⟩
 have hZ2:(if decide (x=0)=true then 1 else 0)=Z:=by rw [← hZ];by_cases h:x=0<;>simp [h]
 rw [hZ]
 refine calls_anyO (calls_inlineP (K:=anyO (DoK14 b m.fr L (some (soOn m.fr (L.ws++[Z]) L.ms)) rest)) (args:=[_]) Tryz.func159 rfl Tryz.ntmps159 rfl ?_ hs)
 (refine zL<|vMz<|vMz<|vNz<|vFz<|ldz rfl .head hrdT ?_;refine lvz (.indexAddrSL rfl rfl (by decide) (by omega)) ?_;refine ldz rfl (.tail (.app .head)) hrdX ?_;apply LW.v0;rfl;rfl;exact ValP.buildW0;refine lvz (.eqW rfl rfl (by assumption) (by omega)) ?_;apply zS;rfl;rfl;infer_instance;exact .cons rfl .nil;intro w _;exact truth_calls _ w;apply LW.layA;rfl;infer_instance;infer_instance;rfl;rfl;rfl;rfl;rfl;intro _)
 rw [hZ2]
 rename_i bz
 refine LW.perm (fs':=(b,maO m)::(gs++((bz,.cells (wc Z) 29 (0,0))::(gt0,.cells cur 29 (0,0))::rest))) ?_ ?_
 ·exact perm_ix [[_],gs,[_]] (xs:=[0,1,2]) (ys:=[2,0,1]) ((gt0,.cells cur 29 (0,0))::rest) rfl
 refine LW.callSt (K:=fun v fs'=>LayP b m L [Z] ((bz,.cells (wc Z) 29 (0,0))::(gt0,.cells cur 29 (0,0))::rest) (.returned v) fs') rfl rfl inferInstance (by (exact .cons rfl (.cons rfl .nil))) (fun w' hst=>Calls.mono (layP_calls w0 [] b m L gs [Z] _ hp.ok (by show 1≤100000;omega) hly hfr _ w' (fun w2 h2=>row_cells (h2.own (bz,_) (qS _ (List.mem_append_right _ List.mem_cons_self))).2 rfl rfl (by show 1≤maxLen;decide)) hst) fun x w'' ⟨fs',hk,hst⟩=>⟨_,fs',hk.1,by { have h:=hk;rw [hk.1] at h;exact h },hst⟩) ?_
 rintro v fs' ⟨hv,s,k,gs',hfr',rfl⟩
 cases hv
 (apply zV)
 refine inPI (.inr rfl) .nil rfl .nil rfl ⟨_,⟨rfl,_,gs',SoD.on (m:=m.setF (m.fr.setR m.fr.gas s k)) (s:=s) (k:=k) hp.kind rfl hfr'.toP,rfl⟩,_,?_,.refl _⟩
 exact List.Sublist.cons_cons _ (List.Sublist.append_left (.cons _ (.cons _ (.refl _))) gs')
theorem not_do:DoC 160 25 1 1 (fun f L l=>some (soOn f (L.ws++[M256 - 1 - l.getD 0 0]) L.ms)):=by
 intro w0 b m L l gs gt rest w hT hN hp hop hl hly hfr ht hs
 obtain ⟨gt0,cur,ct,htk,rfl,hcur⟩:=took_at ht (by omega)
 have hrdT:∀ {E fr},Rd Tryz.prog 23 (.cells (mca m) E fr) 18 (.slice (some ⟨gt0,0,none⟩) l.length ct):=fun {E fr}=>by rw [show Value.slice (some ⟨gt0,0,none⟩) l.length ct=m.took from htk.symm];exact ma_rd18
 have hrdX:Rd Tryz.prog 29 (.cells cur 29 (0,0)) (0+0 * 4) (wv (l.getD 0 0)):=word_rd hcur 0 (by omega)
 have hx:l.getD 0 0 < M256:=getD_wlt hp.ls (by omega)
 dsimp only
 obtain ⟨x,hxe⟩:∃ x,l.getD 0 0=x:=⟨_,rfl⟩
 rw [hxe] at hrdX hx ⊢
 refine calls_anyO (calls_inlineP (K:=anyO (DoK14 b m.fr L (some (soOn m.fr (L.ws++[M256 - 1 - x]) L.ms)) rest)) (args:=[_]) Tryz.func160 rfl Tryz.ntmps160 rfl ?_ hs)
 (refine zL<|vMz<|vMz<|vNz<|vFz<|ldz rfl .head hrdT ?_;refine lvz (.indexAddrSL rfl rfl (by decide) (by omega)) ?_;refine ldz rfl (.tail (.app .head)) hrdX ?_;apply zS;rfl;rfl;infer_instance;exact .cons rfl .nil;intro w _;exact Not_calls _ (by assumption) w;apply LW.layA;rfl;infer_instance;infer_instance;rfl;rfl;rfl;rfl;rfl;intro _)
 obtain ⟨Z,hZ⟩:∃ Z,M256 - 1 - x=Z:=⟨_,rfl⟩
 rw [hZ]
 rename_i bz
 refine LW.perm (fs':=(b,maO m)::(gs++((bz,.cells (wc Z) 29 (0,0))::(gt0,.cells cur 29 (0,0))::rest))) ?_ ?_
 ·exact perm_ix [[_],gs,[_]] (xs:=[0,1,2]) (ys:=[2,0,1]) ((gt0,.cells cur 29 (0,0))::rest) rfl
 refine LW.callSt (K:=fun v fs'=>LayP b m L [Z] ((bz,.cells (wc Z) 29 (0,0))::(gt0,.cells cur 29 (0,0))::rest) (.returned v) fs') rfl rfl inferInstance (by (exact .cons rfl (.cons rfl .nil))) (fun w' hst=>Calls.mono (layP_calls w0 [] b m L gs [Z] _ hp.ok (by show 1≤100000;omega) hly hfr _ w' (fun w2 h2=>row_cells (h2.own (bz,_) (qS _ (List.mem_append_right _ List.mem_cons_self))).2 rfl rfl (by show 1≤maxLen;decide)) hst) fun x w'' ⟨fs',hk,hst⟩=>⟨_,fs',hk.1,by { have h:=hk;rw [hk.1] at h;exact h },hst⟩) ?_
 rintro v fs' ⟨hv,s,k,gs',hfr',rfl⟩
 cases hv
 (apply zV)
 refine inPI (.inr rfl) .nil rfl .nil rfl ⟨_,⟨rfl,_,gs',SoD.on (m:=m.setF (m.fr.setR m.fr.gas s k)) (s:=s) (k:=k) hp.kind rfl hfr'.toP,rfl⟩,_,?_,.refl _⟩
 exact List.Sublist.cons_cons _ (List.Sublist.append_left (.cons _ (.cons _ (.refl _))) gs')
theorem value_do:DoC 161 52 0 1 (fun f L l=>some (soOn f (L.ws++[f.val]) L.ms)):=by
 intro w0 b m L l gs gt rest w hT hN hp hop hl hly hfr ht hs
 refine calls_anyO (calls_inlineP (K:=anyO (DoK14 b m.fr L (some (soOn m.fr (L.ws++[m.fr.val]) L.ms)) rest)) (args:=[_]) Tryz.func161 rfl Tryz.ntmps161 rfl ?_ hs)
 (refine zL<|vMz<|vMz<|vNz<|vFz<|vFz<|ldz rfl .head ma_rd7 ?_;apply LW.layA;rfl;infer_instance;infer_instance;rfl;rfl;rfl;rfl;rfl;intro _)
 obtain ⟨Z,hZ⟩:∃ Z,m.fr.val=Z:=⟨_,rfl⟩
 rw [hZ]
 rename_i bz
 refine LW.perm (fs':=(b,maO m)::(gs++((bz,.cells (wc Z) 29 (0,0))::gt++rest))) ?_ ?_
 ·exact perm_ix [[_],gs,[_]] (xs:=[0,1,2]) (ys:=[2,0,1]) (gt++rest) rfl
 refine LW.callSt (K:=fun v fs'=>LayP b m L [Z] ((bz,.cells (wc Z) 29 (0,0))::gt++rest) (.returned v) fs') rfl rfl inferInstance (by (exact .cons rfl (.cons rfl .nil))) (fun w' hst=>Calls.mono (layP_calls w0 [] b m L gs [Z] _ hp.ok (by show 1≤100000;omega) hly hfr _ w' (fun w2 h2=>row_cells (h2.own (bz,_) (qS _ (List.mem_append_right _ List.mem_cons_self))).2 rfl rfl (by show 1≤maxLen;decide)) hst) fun x w'' ⟨fs',hk,hst⟩=>⟨_,fs',hk.1,by { have h:=hk;rw [hk.1] at h;exact h },hst⟩) ?_
 rintro v fs' ⟨hv,s,k,gs',hfr',rfl⟩
 cases hv
 (apply zV)
 refine inPI (.inr rfl) .nil rfl .nil rfl ⟨_,⟨rfl,_,gs',SoD.on (m:=m.setF (m.fr.setR m.fr.gas s k)) (s:=s) (k:=k) hp.kind rfl hfr'.toP,rfl⟩,_,?_,.refl _⟩
 exact List.Sublist.cons_cons _ (List.Sublist.append_left (.cons _ (List.sublist_append_right _ _)) gs')
theorem SoD.ask {f:FrV} {L:FrL} {o:SO} {m:MaV} {gs g2 g3:Fs} {s k:Value} (h0:o.kind ≠ 0) (hk:m.kind=o.kind) (ho:m.op=o.op) (hf:m.fr=soF f o s k) (h:FrP m.fr (soL L o) gs) (h2:wM o.words m.words g2) (h3:bM o.data m.data g3):SoD f L o m (gs++(g2++g3)) :=
 ⟨s,k,gs,g2,g3,hf,hk,.refl _,h,.inr ⟨h0,ho,h2,h3⟩⟩
theorem bM_nil:bM [] (.slice none 0 0) []:=.nil
theorem wM_nil:wM [] (.slice none 0 0) []:=.nil
theorem wM_sl {l:List Nat} {t:Value} {gt:Fs} (h:wM l t gt):∃ p n c,t=.slice p n c:=by
 unfold wM at h
 obtain ⟨q,c,rfl⟩:=h.form
 exact ⟨_,_,_,rfl⟩
theorem state_do (op:Nat):DoC 171 op 0 0 (fun f L l=>some (stateV op f L l)):=by
 intro w0 b m L l gs gt rest w hT hN hp hop hl hly hfr ht hs
 refine Calls.mono (state_calls w0 [] b m _ (wM_sl ht) w hs) ?_
 rintro x w' ⟨fs',⟨rfl,rfl⟩,hst⟩
 refine ⟨(b,maO (m.setAsk 1 m.op m.took (.slice none 0 0)))::((gs++(gt++[]))++rest),⟨rfl,m.setAsk 1 m.op m.took (.slice none 0 0),gs++(gt++[]),SoD.ask (by show (1:Int) ≠ 0;decide) rfl hop rfl hfr ht bM_nil,rfl⟩,?_⟩
 rw [List.append_nil,List.append_assoc]
 exact hst
theorem change_do (op:Nat):DoC 172 op 0 0 (fun f L l=>if f.stat=true then none else some (stateV op f L l)):=by
 intro w0 b m L l gs gt rest w hT hN hp hop hl hly hfr ht hs
 dsimp only
 cases hst0:m.fr.stat with
 |true =>
  have hrd13:∀ {E fr},Rd Tryz.prog 4 (.cells (mca m) E fr) 13 (.bool true):=fun {E fr}=>by rw [← hst0];exact ma_rd13
  rw [if_pos rfl]
  refine calls_anyO (calls_inlineP (K:=anyO (DoK14 b m.fr L none rest)) (args:=[_]) Tryz.func172 rfl Tryz.ntmps172 rfl ?_ hs)
  (refine sRz<|vMz<|vNz<|vFz<|vFz<|ldz rfl .head hrd13 ?_;refine lvz (.notT rfl (by with_reducible rfl)) ?_)
  refine LW.callP (K:=NeedK ((b,maO m)::(gs++(gt++rest)))) rfl rfl inferInstance (by (exact .cons rfl .nil)) rfl (fun fs h=>by cases h.1) (fun w' hst=>need_false w0 [] _ w' hst) ?_ ?_
  ·rintro v fs' ⟨h,_⟩
   cases h
  ·rintro ch fs' ⟨h,rfl⟩
   cases h
   refine thenP ?_
   exact inPP .nil ⟨rest,⟨rfl,rfl⟩,_,qU _ ((List.sublist_append_right _ _).trans (List.sublist_append_right _ _)),.refl _⟩
 |false =>
  have hrd13:∀ {E fr},Rd Tryz.prog 4 (.cells (mca m) E fr) 13 (.bool false):=fun {E fr}=>by rw [← hst0];exact ma_rd13
  rw [if_neg (by decide)]
  refine calls_anyO (calls_inlineP (K:=anyO (DoK14 b m.fr L (some (stateV op m.fr L l)) rest)) (args:=[_]) Tryz.func172 rfl Tryz.ntmps172 rfl ?_ hs)
  (refine sRz<|vMz<|vNz<|vFz<|vFz<|ldz rfl .head hrd13 ?_;refine lvz (.notF rfl (by with_reducible rfl)) ?_;apply zS;rfl;rfl;infer_instance;exact .cons rfl .nil;intro w _;exact need_true w;refine nNz<|zL<|vMz ?_)
  refine LW.callSt (K:=fun v fs'=>DoK14 b m.fr L (some (stateV op m.fr L l)) rest (.returned v) fs') rfl rfl inferInstance (by (exact .cons rfl .nil)) (fun w' hst=>Calls.mono (state_do op w0 b m L l gs gt rest w' hT hN hp hop hl hly hfr ht hst) fun x w'' ⟨fs',hk,hst⟩=>⟨_,fs',hk.1,by { have h:=hk;rw [hk.1] at h;exact h },hst⟩) ?_
  rintro v fs' ⟨hv,hk⟩
  cases hv
  (apply zV)
  exact inPI (.inr rfl) .nil rfl .nil rfl ⟨_,⟨rfl,hk⟩,_,.refl _,.refl _⟩
theorem stop_do:DoC 174 0 0 0 (fun f L l=>some ⟨3,0,f.gas,f.pc,L.ws,L.ms,[],[]⟩):=by
 intro w0 b m L l gs gt rest w hT hN hp hop hl hly hfr ht hs
 refine calls_anyO (calls_inlineP (K:=anyO (DoK14 b m.fr L (some ⟨3,0,m.fr.gas,m.fr.pc,L.ws,L.ms,[],[]⟩) rest)) (args:=[_]) Tryz.func174 rfl Tryz.ntmps174 rfl ?_ hs)
 (refine zL<|vMz ?_;apply LW.v0;rfl;rfl;apply zW;infer_instance;infer_instance;apply zA;rfl;exact zB;rfl;simp only [fillP,wrCells,Value.cells,qL,qM,qN,qK,qP,qO,Nat.reduceAdd,qR];rfl;refine vNz<|vFz ?_;refine zR rfl rfl .head ma_wr19 ?_;apply zV)
 refine inPI (.inr rfl) .nil rfl .nil rfl ⟨(b,maO (m.setAsk 3 0 (.slice none 0 0) (.slice none 0 0)))::((gs++([]++[]))++rest),⟨rfl,m.setAsk 3 0 (.slice none 0 0) (.slice none 0 0),gs++([]++[]),SoD.ask (by show (3:Int) ≠ 0;decide) rfl rfl rfl hfr wM_nil bM_nil,rfl⟩,_,?_,.refl _⟩
 refine List.Sublist.cons_cons _ ?_
 rw [List.append_nil,List.append_nil]
 exact List.Sublist.append_left (List.sublist_append_right _ _) gs
end
section
open CK (jumpC)
attribute [local irreducible] SL.inP
theorem dataLoad_do:DoC 162 53 1 1 (fun f L l=>some (soOn f (L.ws++[bev (winL L.il (l.getD 0 0) 32)]) L.ms)):=by
 intro w0 b m L l gs gt rest w hT hN hp hop hl hly hfr ht hs
 obtain ⟨gt0,cur,ct,htk,rfl,hcur⟩:=took_at ht (by omega)
 replace hs:St w0 [] ((b,maO m)::(gs++((gt0,.cells cur 29 (0,0))::rest))) w:=hs
 have hrdT:∀ {E fr},Rd Tryz.prog 23 (.cells (mca m) E fr) 18 (.slice (some ⟨gt0,0,none⟩) l.length ct):=fun {E fr}=>by rw [show Value.slice (some ⟨gt0,0,none⟩) l.length ct=m.took from htk.symm];exact ma_rd18
 have hrdX:Rd Tryz.prog 29 (.cells cur 29 (0,0)) (0+0 * 4) (wv (l.getD 0 0)):=word_rd hcur 0 (by omega)
 have hx:l.getD 0 0 < M256:=getD_wlt hp.ls (by omega)
 dsimp only
 obtain ⟨x,hxe⟩:∃ x,l.getD 0 0=x:=⟨_,rfl⟩
 rw [hxe] at hrdX hx ⊢
 have hwl:(winL L.il x 32).length≤32:=by rw [winL_len];exact Nat.le_refl _
 obtain ⟨Z,hZ⟩:∃ Z,bev (winL L.il x 32)=Z:=⟨_,rfl⟩
 rw [hZ]
 obtain ⟨g1,g2,g3,g4,g5,hpm,hall⟩:=id hfr
 have r4:=hall.2.2.2.1
 unfold bM at r4
 obtain ⟨q4,k4,hi⟩:=id r4.form
 rw [hi] at r4
 have hrdI:∀ {E fr},Rd Tryz.prog 22 (.cells (mca m) E fr) 11 (.slice q4 L.il.length k4):=fun {E fr}=>by rw [← hi];exact ma_rd11
 obtain ⟨us4,hbl4,hin4,hrows4⟩:=rowU_own r4
 have hin4':∀ p∈us4,p∈gs:=fun p h=>hpm.subset (by have h2:=hin4 p h;simp [h2])
 refine calls_anyO (calls_inlineP (K:=anyO (DoK14 b m.fr L (some (soOn m.fr (L.ws++[Z]) L.ms)) rest)) (args:=[_]) Tryz.func162 rfl Tryz.ntmps162 rfl ?_ hs)
 skip
 apply CW.pre
 (refine AnyW.anyM [(12,bM (winL L.il x 32))] 15 mixed (by decide +kernel) ?_)
 ((try simp only [tsOf_cons,tsOf_nil,tsOf_app]);refine dvz (.move rfl)<|dvz (.move rfl)<|dvz (.nilCheck rfl)<|dvz (.fieldAddr rfl rfl)<|dvz (.fieldAddr rfl rfl) ?_;apply qH;rfl;rfl;rfl;exact zC;rfl;apply zP;exact zN;exact hrdI;refine dvz (.move rfl)<|dvz (.nilCheck rfl)<|dvz (.fieldAddr rfl rfl) ?_;apply qH;rfl;rfl;rfl;exact zC;rfl;apply zP;exact zN;exact hrdT;refine dvz (.indexAddrSL rfl rfl (by decide) (by omega)) ?_;apply qH;rfl;rfl;rfl;exact zC;rfl;apply zO;apply zQ;apply zP;exact zN;exact hrdX)
 refine DW.manyA us4 rfl rfl rfl (by (exact zC)) rfl inferInstance (by (exact .cons rfl (.cons rfl (.cons rfl .nil)))) (by rw [List.flatMap_cons,hbl4];exact List.append_nil _) (fun p hp=>AncT.lie (by (refine AncT.cons ?_ ?_;exact zN;refine AncT.app ?_ ?_;exact AncT.tsOf;refine AncT.cons ?_ ?_;exact zN;exact AncT.tsOf)) (by have hp:=hin4' p hp;simp [fsOf,tsOf,tsNew,tsTag,markAll,Function.comp_def,hp])) (fun w _ hu=>window_calls L.il x 32 (by omega) hx (by have:=hp.il;omega) _ w (hrows4 w hu)) ?_
 intro vD gD hD
 have hD':=hD
 obtain ⟨q5,k5,rfl⟩:=id (IsRow.form hD')
 obtain ⟨us5,hbl5,hin5,hrows5⟩:=rowU_own hD'
 (try simp only [markAll_cons,markAll_app,markAll_tsOf,markAll_tag,markAll_new,markAll_nil])
 ((try simp only [tsOf_cons,tsOf_nil,tsOf_app]))
 refine DW.callA us5 (v:=wv Z) rfl rfl rfl (by (exact zC)) rfl inferInstance (by (exact .cons rfl .nil)) (by rw [List.flatMap_cons,hbl5];exact List.append_nil _) (fun p hp=>AncT.lie (by (refine AncT.app ?_ ?_;refine AncT.new ?_;kernel_rfl;refine AncT.cons ?_ ?_;exact zN;refine AncT.app ?_ ?_;refine AncT.tag ?_;exact zN;refine AncT.cons ?_ ?_;exact zN;refine AncT.tag ?_;exact zN)) (by have hp:=hin5 p hp;simp [fsOf,tsOf,tsNew,tsTag,markAll,Function.comp_def,hp])) (fun w _ hu=>by rw [← hZ];exact number_calls _ _ hwl w (hrows5 w hu)) ?_
 (try simp only [markAll_cons,markAll_app,markAll_tsOf,markAll_tag,markAll_new,markAll_nil])
 ((try simp only [tsOf_cons,tsOf_nil,tsOf_app]);apply DW.layA;rfl;rfl;rfl;exact zC;infer_instance;infer_instance;rfl;rfl;rfl;rfl;rfl;intro _;apply DW.nil;simp only [fsOf_cons,fsOf_nil,fsOf_app,fsOf_tsOf,fsOf_new,fsOf_tag,fsOf_mark])
 try simp only [fsOf_mark,fsOf_cons,fsOf_nil,fsOf_app,fsOf_tsOf,fsOf_new,fsOf_tag,List.append_eq,List.nil_append]
 skip
 rename_i bz
 refine LW.perm (fs':=(b,maO m)::(gs++((bz,.cells (wc Z) 29 (0,0))::gD++(gt0,.cells cur 29 (0,0))::rest))) ?_ ?_
 ·exact perm_ix [[_],gs,[_],gD] (xs:=[0,1,2,3]) (ys:=[2,3,0,1]) (_::rest) rfl
 refine LW.callSt (K:=fun v fs'=>LayP b m L [Z] ((bz,.cells (wc Z) 29 (0,0))::gD++(gt0,.cells cur 29 (0,0))::rest) (.returned v) fs') rfl rfl inferInstance (by (exact .cons rfl (.cons rfl .nil))) (fun w' hst=>Calls.mono (layP_calls w0 [] b m L gs [Z] _ hp.ok (by show 1≤100000;omega) hly hfr _ w' (fun w2 h2=>row_cells (h2.own (bz,_) (qS _ (List.mem_append_right _ List.mem_cons_self))).2 rfl rfl (by show 1≤maxLen;decide)) hst) fun x w'' ⟨fs',hk,hst⟩=>⟨_,fs',hk.1,by { have h:=hk;rw [hk.1] at h;exact h },hst⟩) ?_
 rintro v fs' ⟨hv,s,k,gs',hfr',rfl⟩
 cases hv
 (apply zV)
 refine inPI (.inr rfl) .nil rfl .nil rfl ⟨_,⟨rfl,_,gs',SoD.on (m:=m.setF (m.fr.setR m.fr.gas s k)) (s:=s) (k:=k) hp.kind rfl hfr'.toP,rfl⟩,_,?_,.refl _⟩
 exact List.Sublist.cons_cons _ (List.Sublist.append_left (.cons _ ((qU _ (.refl _)).trans (List.sublist_append_right gD _))) gs')
theorem DoK14.ret {b:Nat} {f:FrV} {L:FrL} {o:Option SO} {rest:Fs} {v:Value} {fs:Fs} (h:DoK14 b f L o rest (.returned v) fs):v=.tuple #[]:=by
 cases o with
 |none=>cases h.1
 |some o=>exact Ending.returned.inj h.1
theorem DoK14.pan {b:Nat} {f:FrV} {L:FrL} {o:Option SO} {rest:Fs} {ch:List PanicEntry} {fs:Fs} (h:DoK14 b f L o rest (.panicked ch) fs):ch=failC:=by
 cases o with
 |none=>exact Ending.panicked.inj h.1
 |some o=>cases h.1
theorem DoK14.plain {b:Nat} {f:FrV} {L:FrL} {o:Option SO} {rest:Fs}:(DoK14 b f L o rest).plain:=fun fs h=>by
 cases o<;>cases h.1
theorem SoD.jump {m:MaV} {L:FrL} {gs:Fs} {x:Nat} (hk:m.kind=0) (h:FrP m.fr L gs):SoD m.fr L (soOn { m.fr with pc:=(x:Int) } L.ws L.ms) (m.setF (m.fr.setPc (x:Int))) gs :=
 SoD.on (m:=m.setF (m.fr.setPc (x:Int))) (s:=m.fr.stk) (k:=m.fr.mem) hk rfl h
theorem jumpC_lt {bs:List UInt8} {n:Nat} (h:jumpC bs n=true):n < 200:=by
 unfold CK.jumpC at h
 rw [Bool.and_eq_true] at h
 exact of_decide_eq_true h.1
theorem jump_do (op:Nat):DoC 169 op 1 0 (fun f L l=>jumpV f L (l.getD 0 0)):=by
 intro w0 b m L l gs gt rest w hT hN hp hop hl hly hfr ht hs
 obtain ⟨gt0,cur,ct,htk,rfl,hcur⟩:=took_at ht (by omega)
 replace hs:St w0 [] ((b,maO m)::(gs++((gt0,.cells cur 29 (0,0))::rest))) w:=hs
 have hrdT:∀ {E fr},Rd Tryz.prog 23 (.cells (mca m) E fr) 18 (.slice (some ⟨gt0,0,none⟩) l.length ct):=fun {E fr}=>by rw [show Value.slice (some ⟨gt0,0,none⟩) l.length ct=m.took from htk.symm];exact ma_rd18
 have hrdX:Rd Tryz.prog 29 (.cells cur 29 (0,0)) (0+0 * 4) (wv (l.getD 0 0)):=word_rd hcur 0 (by omega)
 have hx:l.getD 0 0 < M256:=getD_wlt hp.ls (by omega)
 dsimp only
 obtain ⟨x,hxe⟩:∃ x,l.getD 0 0=x:=⟨_,rfl⟩
 rw [hxe] at hrdX hx ⊢
 obtain ⟨g1,g2,g3,g4,g5,hpm,hall⟩:=id hfr
 have r1:=hall.1
 unfold bM at r1
 obtain ⟨q1,k1,hi⟩:=id r1.form
 rw [hi] at r1
 have hrdC:∀ {E fr},Rd Tryz.prog 22 (.cells (mca m) E fr) 0 (.slice q1 L.cl.length k1):=fun {E fr}=>by rw [← hi];exact ma_rd0
 have hSm0:=Small_calls x hx
 unfold jumpV
 by_cases hx64:x < 18446744073709551616
 ·rw [if_pos hx64,decide_eq_true hx64] at hSm0
  have hSm:∀ w,Calls Tryz.prog 116 #[wv x] w (Ret w (.tuple #[.int .u64 (x:Int),.bool true])):=hSm0
  have hJ0:∀ w' {fs:Fs},St w0 [] ((b,maO m)::(gs++fs)) w'→Calls Tryz.prog 209 #[.slice q1 L.cl.length k1,.int .u64 (x:Int)] w' (Ret w' (.bool (jumpC L.cl x))):=fun w' fs hst=>by
   have h:=(hfr.st hst fun p hp=>qS _ (List.mem_append_left _ hp)).c
   rw [hi] at h
   exact CK.Jump_calls L.cl x hx64 _ w' h
  cases hj:jumpC L.cl x with
  |true =>
   have hJ:∀ w' {fs:Fs},St w0 [] ((b,maO m)::(gs++fs)) w'→Calls Tryz.prog 209 #[.slice q1 L.cl.length k1,.int .u64 (x:Int)] w' (Ret w' (.bool true)):=fun w' fs hst=>hj ▸ hJ0 w' hst
   have hx200:=jumpC_lt hj
   rw [if_pos ⟨hx64,rfl⟩]
   refine calls_anyO (calls_inlineP (K:=anyO (DoK14 b m.fr L (some (soOn { m.fr with pc:=(x:Int) } L.ws L.ms)) rest)) (args:=[_]) Tryz.func169 rfl Tryz.ntmps169 rfl ?_ hs)
   (refine sRz<|vMz<|vNz<|vFz<|ldz rfl .head hrdT ?_;refine lvz (.indexAddrSL rfl rfl (by decide) (by omega)) ?_;refine ldz rfl (.tail (.app .head)) hrdX ?_;apply zS;rfl;rfl;infer_instance;exact .cons rfl .nil;intro w _;exact hSm w;refine vMz ?_;refine vEz ?_;refine vEz ?_;refine vAz<|vAz<|nSz<|vMz<|vMz<|gTz<|vMz<|gTz<|vNz<|gTz<|vFz<|gTz<|vFz<|gTz ?_;refine ldz rfl .head hrdC<|gTz<|vMz<|gTz ?_;apply zS;rfl;rfl;infer_instance;exact .cons rfl (.cons rfl .nil);intro w _;rename_i hst;exact hJ w hst;refine pTz ?_;apply zS;rfl;rfl;infer_instance;exact .cons rfl .nil;intro w _;exact need_true w;refine nNz<|zL<|vMz<|vMz ?_;refine lvz (.convI rfl (by omega) (by omega)) ?_;refine vNz<|vFz<|vFz ?_;apply zR;rfl;rfl;apply qA;apply ma_wr1 (z:=.int .i64 0);apply zV)
   refine inPI (.inr rfl) .nil rfl .nil rfl ⟨_,⟨rfl,_,gs,SoD.jump hp.kind hfr,rfl⟩,_,?_,.refl _⟩
   exact List.Sublist.cons_cons _ (List.Sublist.append_left (.cons _ (.refl _)) gs)
  |false =>
   have hJ:∀ w' {fs:Fs},St w0 [] ((b,maO m)::(gs++fs)) w'→Calls Tryz.prog 209 #[.slice q1 L.cl.length k1,.int .u64 (x:Int)] w' (Ret w' (.bool false)):=fun w' fs hst=>hj ▸ hJ0 w' hst
   rw [if_neg (fun h=>by cases h.2)]
   refine calls_anyO (calls_inlineP (K:=anyO (DoK14 b m.fr L none rest)) (args:=[_]) Tryz.func169 rfl Tryz.ntmps169 rfl ?_ hs)
   (refine sRz<|vMz<|vNz<|vFz<|ldz rfl .head hrdT ?_;refine lvz (.indexAddrSL rfl rfl (by decide) (by omega)) ?_;refine ldz rfl (.tail (.app .head)) hrdX ?_;apply zS;rfl;rfl;infer_instance;exact .cons rfl .nil;intro w _;exact hSm w;refine vMz ?_;refine vEz ?_;refine vEz ?_;refine vAz<|vAz<|nSz<|vMz<|vMz<|gTz<|vMz<|gTz<|vNz<|gTz<|vFz<|gTz<|vFz<|gTz ?_;refine ldz rfl .head hrdC<|gTz<|vMz<|gTz ?_;apply zS;rfl;rfl;infer_instance;exact .cons rfl (.cons rfl .nil);intro w _;rename_i hst;exact hJ w hst;refine pTz ?_)
   refine LW.callP (K:=NeedK ((b,maO m)::(gs++((gt0,.cells cur 29 (0,0))::rest)))) rfl rfl inferInstance (by (exact .cons rfl .nil)) rfl (fun fs h=>by cases h.1) (fun w' hst=>need_false w0 [] _ w' hst) ?_ ?_
   ·rintro v fs' ⟨h,_⟩
    cases h
   ·rintro ch fs' ⟨h,rfl⟩
    cases h
    refine thenP ?_
    exact inPP .nil ⟨rest,⟨rfl,rfl⟩,_,qU _ ((qU _ (.refl _)).trans (List.sublist_append_right _ _)),.refl _⟩
 ·rw [if_neg hx64,decide_eq_false hx64] at hSm0
  have hSm:∀ w,Calls Tryz.prog 116 #[wv x] w (Ret w (.tuple #[.int .u64 ((0:Nat):Int),.bool false])):=hSm0
  rw [if_neg (fun h=>hx64 h.1)]
  refine calls_anyO (calls_inlineP (K:=anyO (DoK14 b m.fr L none rest)) (args:=[_]) Tryz.func169 rfl Tryz.ntmps169 rfl ?_ hs)
  (refine sRz<|vMz<|vNz<|vFz<|ldz rfl .head hrdT ?_;refine lvz (.indexAddrSL rfl rfl (by decide) (by omega)) ?_;refine ldz rfl (.tail (.app .head)) hrdX ?_;apply zS;rfl;rfl;infer_instance;exact .cons rfl .nil;intro w _;exact hSm w;refine vMz ?_;refine vEz ?_;refine vEz ?_;refine vAz<|vAz<|nSz<|vMz<|vMz ?_;(iterate 7 refine gFz ?_);refine pFz ?_)
  refine LW.callP (K:=NeedK ((b,maO m)::(gs++((gt0,.cells cur 29 (0,0))::rest)))) rfl rfl inferInstance (by (exact .cons rfl .nil)) rfl (fun fs h=>by cases h.1) (fun w' hst=>need_false w0 [] _ w' hst) ?_ ?_
  ·rintro v fs' ⟨h,_⟩
   cases h
  ·rintro ch fs' ⟨h,rfl⟩
   cases h
   refine thenP ?_
   exact inPP .nil ⟨rest,⟨rfl,rfl⟩,_,qU _ ((qU _ (.refl _)).trans (List.sublist_append_right _ _)),.refl _⟩
theorem jumpIf_do:DoC 170 87 2 0 (fun f L l=>if l.getD 1 0=0 then some (soOn f L.ws L.ms) else jumpV f L (l.getD 0 0)):=by
 intro w0 b m L l gs gt rest w hT hN hp hop hl hly hfr ht hs
 obtain ⟨gt0,cur,ct,htk,hgt,hcur⟩:=took_at ht (by omega)
 have hrdT:∀ {E fr},Rd Tryz.prog 23 (.cells (mca m) E fr) 18 (.slice (some ⟨gt0,0,none⟩) l.length ct):=fun {E fr}=>by rw [show Value.slice (some ⟨gt0,0,none⟩) l.length ct=m.took from htk.symm];exact ma_rd18
 have hrdY:Rd Tryz.prog 29 (.cells cur 29 (0,0)) (0+1 * 4) (wv (l.getD 1 0)):=word_rd hcur 1 (by omega)
 dsimp only
 obtain ⟨y,hye⟩:∃ y,l.getD 1 0=y:=⟨_,rfl⟩
 have hy:y < M256:=hye ▸ getD_wlt hp.ls (by omega)
 rw [hye] at hrdY ⊢
 have hs1:=hs
 rw [hgt] at hs1
 replace hs1:St w0 [] ((b,maO m)::(gs++((gt0,.cells cur 29 (0,0))::rest))) w:=hs1
 by_cases h0:y=0
 ·rw [if_pos h0]
  refine calls_anyO (calls_inlineP (K:=anyO (DoK14 b m.fr L (some (soOn m.fr L.ws L.ms)) rest)) (args:=[_]) Tryz.func170 rfl Tryz.ntmps170 rfl ?_ hs1)
  (refine sRz<|vMz<|vNz<|vFz<|ldz rfl .head hrdT ?_;refine lvz (.indexAddrSL rfl rfl (by decide) (by omega)) ?_;refine ldz rfl (.tail (.app .head)) hrdY ?_;apply LW.v0;rfl;rfl;exact ValP.buildW0;refine lvz (.neWF rfl rfl (by assumption)) ?_;refine nNz<|cFz<|zJ ?_)
  refine inPI (.inr rfl) .nil rfl .nil rfl ⟨_,⟨rfl,m,gs,SoD.on (s:=m.fr.stk) (k:=m.fr.mem) hp.kind rfl hfr,rfl⟩,_,?_,.refl _⟩
  exact List.Sublist.cons_cons _ (List.Sublist.append_left (.cons _ (.refl _)) gs)
 ·rw [if_neg h0]
  refine calls_anyO (calls_inlineP (K:=anyO (DoK14 b m.fr L (jumpV m.fr L (l.getD 0 0)) rest)) (args:=[_]) Tryz.func170 rfl Tryz.ntmps170 rfl ?_ hs1)
  (refine sRz<|vMz<|vNz<|vFz<|ldz rfl .head hrdT ?_;refine lvz (.indexAddrSL rfl rfl (by decide) (by omega)) ?_;refine ldz rfl (.tail (.app .head)) hrdY ?_;apply LW.v0;rfl;rfl;exact ValP.buildW0;refine lvz (.neWT rfl rfl (by assumption) (by omega) (by assumption)) ?_;refine nNz<|cTz<|zL<|vMz ?_)
  refine LW.callP (K:=DoK14 b m.fr L (jumpV m.fr L (l.getD 0 0)) rest) rfl rfl inferInstance (by (exact .cons rfl .nil)) rfl DoK14.plain (fun w' hst=>jump_do 87 w0 b m L l gs gt rest w' hT hN { hp with } hop (by omega) hly hfr ht (by rw [hgt];exact hst)) ?_ ?_
  ·rintro v fs' hk
   obtain rfl:=hk.ret
   (apply zV)
   exact inPI (.inr rfl) .nil rfl .nil rfl ⟨_,hk,_,.refl _,.refl _⟩
  ·rintro ch fs' hk
   obtain rfl:=hk.pan
   exact inPP .nil ⟨_,hk,_,.refl _,.refl _⟩
end
end Go.Proofs.YtdeggbkbblfpoaaGreatDoor
