/-
  Texts that were built apart, put behind one another (4 of 5): NI Sna Q2 NJ NK Q0 Q3 Q5 Q6 Q7 Q4 Q8 Q9 QA QB QC QD Q1 QE QF QG NL NM NN OQ OR QH QL QM.
  Conditions: none.
-/
import Derived.Test.YtdeggbkbblfpoaaGreatDoorZ3
namespace Go.Proofs.YtdeggbkbblfpoaaGreatDoor
open Go Go.RowKit SL
set_option maxRecDepth 8000
set_option maxHeartbeats 4000000
set_option linter.unusedSimpArgs false
set_option linter.unusedVariables false
attribute [local irreducible] SL.CW SL.LW SL.DW Calls SL.Ret SL.RetG SL.beginQ SL.roundQ SL.rangeQ SL.inQ SL.RW SL.AnyW SL.thenQ SL.thenC SL.thenW SL.blkQ SL.finQ SL.ValP SL.NewP SL.SetP SL.CallP SL.Rd SL.Wr SL.Known
section
open CK (readB)
theorem rScRight_calls (p q:Option Addr) (n c k d:Nat) (hn1:n≤maxLen) (hk1:k≤maxLen) (w:World):Calls Tryz.prog 44 #[.agg #[.slice p n c,.slice q k d]] w (Ret w (.bool (decide (okSc n k)))):=by
 obtain ⟨e,he⟩:∃ e:Bool,e=decide (okSc n k):=⟨_,rfl⟩
 have hp:okSc n k→e=true:=fun h=>by rw [he,decide_eq_true h]
 have hn:¬ okSc n k→e=false:=fun h=>by rw [he,decide_eq_false h]
 rw [← he]
 clear he
 unfold okSc at hp hn
 refine enter (args:=[_]) _ [] [] Tryz.func44 rfl Tryz.ntmps44 rfl (by simp) .nil ?_
 by_cases hz:k % 32=0
 ·(refine sRz ?_;apply zT;rfl;rfl;intro _;refine vAz<|nSz<|vFz<|ldz rfl .head sc_rd0<|lvz (.lenR rfl inferInstance rfl)<|lvz (.leq rfl rfl)<|vMz ?_)
  (refine LW.guardDT rfl rfl rfl (fun hsq hsp=>?_) (fun hsq hsp=>?_))
  (refine vFz<|gTaz<|ldz rfl .head sc_rd1<|gTaz<|lvz (.lenR rfl inferInstance rfl)<|gTaz<|lvz (.leq rfl rfl)<|pTaz<|vMz ?_;refine LW.guardDT rfl rfl rfl (fun hsq hsp=>?_) (fun hsq hsp=>?_);refine vFz<|gTaz<|ldz rfl .head sc_rd1<|gTaz<|lvz (.lenR rfl inferInstance rfl)<|gTaz ?_;refine lvz (.remZL rfl rfl (by decide) (by omega)) ?_;refine gTaz ?_;refine lvz (.eqT rfl rfl (by omega)) ?_;refine pTaz<|vAz<|nNz<|zK ?_;apply finR;exact .inl rfl;rfl;rfl;rfl;apply zD;exact zG rfl;exact zF;rw [hp (by omega)];rfl;(iterate 4 refine gFaz ?_);refine pFaz<|vAz<|nNz<|zK ?_;apply finR;exact .inl rfl;rfl;rfl;rfl;apply zD;exact zG rfl;exact zF;rw [hn (by omega)];rfl;(iterate 3 refine gFaz ?_);refine pFaz<|vMz ?_;(iterate 5 refine gFz ?_);refine pFz<|vAz<|nNz<|zK ?_;apply finR;exact .inl rfl;rfl;rfl;rfl;apply zD;exact zG rfl;exact zF;rw [hn (by omega)];rfl)
 ·(refine sRz ?_;apply zT;rfl;rfl;intro _;refine vAz<|nSz<|vFz<|ldz rfl .head sc_rd0<|lvz (.lenR rfl inferInstance rfl)<|lvz (.leq rfl rfl)<|vMz ?_)
  (refine LW.guardDT rfl rfl rfl (fun hsq hsp=>?_) (fun hsq hsp=>?_))
  (refine vFz<|gTaz<|ldz rfl .head sc_rd1<|gTaz<|lvz (.lenR rfl inferInstance rfl)<|gTaz<|lvz (.leq rfl rfl)<|pTaz<|vMz ?_;refine LW.guardDT rfl rfl rfl (fun hsq hsp=>?_) (fun hsq hsp=>?_);refine vFz<|gTaz<|ldz rfl .head sc_rd1<|gTaz<|lvz (.lenR rfl inferInstance rfl)<|gTaz ?_;refine lvz (.remZL rfl rfl (by decide) (by omega)) ?_;refine gTaz ?_;refine lvz (.eqF rfl rfl (by omega)) ?_;refine pTaz<|vAz<|nNz<|zK ?_;apply finR;exact .inl rfl;rfl;rfl;rfl;apply zD;exact zG rfl;exact zF;rw [hn (by omega)];rfl;(iterate 4 refine gFaz ?_);refine pFaz<|vAz<|nNz<|zK ?_;apply finR;exact .inl rfl;rfl;rfl;rfl;apply zD;exact zG rfl;exact zF;rw [hn (by omega)];rfl;(iterate 3 refine gFaz ?_);refine pFaz<|vMz ?_;(iterate 5 refine gFz ?_);refine pFz<|vAz<|nNz<|zK ?_;apply finR;exact .inl rfl;rfl;rfl;rfl;apply zD;exact zG rfl;exact zF;rw [hn (by omega)];rfl)
theorem rfRight_calls (f:FrV) (L:FrL) (w:World) (h:FrRows w f L):Calls Tryz.prog 11 #[frv f] w (Ret w (.bool (decide (okF f L)))):=by
 obtain ⟨e,he⟩:∃ e:Bool,e=decide (okF f L):=⟨_,rfl⟩
 have hp:okF f L→e=true:=fun h=>by rw [he,decide_eq_true h]
 have hn:¬ okF f L→e=false:=fun h=>by rw [he,decide_eq_false h]
 rw [← he]
 clear he
 unfold okF at hp hn
 obtain ⟨code,pc,stk,mem,gas,self,frm,val,inp,back,stat⟩:=f
 obtain ⟨h0,h2,h3,h11,h12⟩:=h
 dsimp only at h0 h2 h3 h11 h12 hp hn
 obtain ⟨p0,c0,rfl,_,hm0⟩:=h0.form
 obtain ⟨p2,c2,rfl,_,hm2⟩:=h2.form
 obtain ⟨p3,c3,rfl,_,hm3⟩:=h3.form
 obtain ⟨p11,c11,rfl,_,hm11⟩:=h11.form
 obtain ⟨p12,c12,rfl,_,hm12⟩:=h12.form
 have hS0:=rScRight_calls p2 p3 L.ws.length c2 L.ms.length c3 (by omega) (by omega)
 have hC0:∀ w' {fs},St w [] fs w'→Calls Tryz.prog 43 #[.slice p0 L.cl.length c0] w' (Ret w' (.bool (decide (L.cl.length≤200)))):=fun w' fs hst=>CK.Right_calls _ _ _ w' (h0.st hst)
 simp only [maxLen] at hm0 hm2 hm3 hm11 hm12
 refine enter (args:=[_]) _ [] [] Tryz.func11 rfl Tryz.ntmps11 rfl (by simp) .nil ?_
 by_cases hc:L.cl.length≤200
 ·have hRd0:∀ w' {fs},St w [] fs w'→Calls Tryz.prog 45 #[.slice p0 L.cl.length c0,.int .i64 pc] w' (Ret w' (.bool (readB L.cl pc))):=fun w' fs hst=>CK.Read_calls _ (by omega) _ _ w' (h0.st hst)
  rw [decide_eq_true hc] at hC0
  have hC:∀ w' {fs},St w [] fs w'→Calls Tryz.prog 43 #[.slice p0 L.cl.length c0] w' (Ret w' (.bool true)):=hC0
  by_cases hs:okSc L.ws.length L.ms.length
  ·rw [decide_eq_true hs] at hS0
   have hS:∀ w',Calls Tryz.prog 44 #[.agg #[.slice p2 L.ws.length c2,.slice p3 L.ms.length c3]] w' (Ret w' (.bool true)):=hS0
   simp only [hs,true_and] at hp hn
   by_cases hpc:pc=(L.cl.length:Int)
   ·simp only [hpc,true_or,and_true] at hp hn
    subst hpc
    (refine sRz ?_;apply zT;rfl;rfl;intro _;refine vAz<|nNz<|zI<|sRz<|vFz<|ldz rfl .head fr_rd0 ?_;apply zS;rfl;rfl;infer_instance;exact .cons rfl .nil;intro w _;exact hC w (by assumption);refine lvz (.notT rfl (by with_reducible rfl)) ?_;refine vMz<|gTz<|vFz<|gTz<|ldz rfl .head fr_rd2<|gTz ?_;apply zS;rfl;rfl;infer_instance;exact .cons rfl .nil;intro w _;exact hS w;refine gTz ?_;refine lvz (.notT rfl (by with_reducible rfl)) ?_;refine pFz<|vMz<|gTz<|vFz<|gTz<|ldz rfl .head fr_rd4<|gTz<|lvz (.gtr rfl rfl)<|pFz<|vMz ?_)
    (refine LW.guardDF rfl rfl rfl (fun hsq hsp=>?_) (fun hsq hsp=>?_))
    (refine vFz<|gTaz<|ldz rfl .head fr_rd5<|gTaz<|lvz (.eq rfl rfl)<|pFaz<|nNz ?_;refine CW.condD rfl (fun hsq hsp=>?_) (fun hsq hsp=>?_);refine sRz<|vAz<|nNz<|zK ?_;refine thenR (finR (.inl rfl) rfl rfl rfl (.cons (.tmp rfl) .nil) ?_);rw [hn (by omega)];rfl;refine zJ<|thenN<|zI<|sRz<|vFz<|ldz rfl .head fr_rd11<|lvz (.lenR rfl inferInstance rfl)<|lvz (.gtr rfl rfl)<|vMz ?_;refine LW.guardDF rfl rfl rfl (fun hsq hsp=>?_) (fun hsq hsp=>?_);refine vFz<|gTaz<|ldz rfl .head fr_rd12<|gTaz<|lvz (.lenR rfl inferInstance rfl)<|gTaz<|lvz (.gtr rfl rfl)<|pFaz<|nNz ?_;refine CW.condD rfl (fun hsq hsp=>?_) (fun hsq hsp=>?_);refine sRz<|vAz<|nNz<|zK ?_;refine thenR (finR (.inl rfl) rfl rfl rfl (.cons (.tmp rfl) .nil) ?_);rw [hn (by omega)];rfl;refine zJ<|thenN<|sRz<|vFz<|ldz rfl .head fr_rd1<|vFz<|ldz rfl .head fr_rd0<|lvz (.lenR rfl inferInstance rfl) ?_;refine lvz (.eqT rfl rfl (by omega)) ?_;refine vMz ?_;(iterate 5 refine gFz ?_);refine pTz<|vAz<|nNz<|zK ?_;apply finR;exact .inl rfl;rfl;rfl;rfl;apply zD;exact zG rfl;exact zF;rw [hp (by omega)];rfl;(iterate 3 refine gFaz ?_);refine pTaz<|nNz<|cTz<|sRz<|vAz<|nNz<|zK ?_;refine thenR (finR (.inl rfl) rfl rfl rfl (.cons (.tmp rfl) .nil) ?_);rw [hn (by omega)];rfl;refine gFaz<|gFaz<|pTaz<|nNz<|cTz<|sRz<|vAz<|nNz<|zK ?_;refine thenR (finR (.inl rfl) rfl rfl rfl (.cons (.tmp rfl) .nil) ?_);rw [hn (by omega)];rfl)
   ·cases hr:readB L.cl pc with
    |true =>
     rw [hr] at hRd0 hp hn
     have hRd:∀ w' {fs},St w [] fs w'→Calls Tryz.prog 45 #[.slice p0 L.cl.length c0,.int .i64 pc] w' (Ret w' (.bool true)):=hRd0
     simp only [or_true,and_true] at hp hn
     (refine sRz ?_;apply zT;rfl;rfl;intro _;refine vAz<|nNz<|zI<|sRz<|vFz<|ldz rfl .head fr_rd0 ?_;apply zS;rfl;rfl;infer_instance;exact .cons rfl .nil;intro w _;exact hC w (by assumption);refine lvz (.notT rfl (by with_reducible rfl)) ?_;refine vMz<|gTz<|vFz<|gTz<|ldz rfl .head fr_rd2<|gTz ?_;apply zS;rfl;rfl;infer_instance;exact .cons rfl .nil;intro w _;exact hS w;refine gTz ?_;refine lvz (.notT rfl (by with_reducible rfl)) ?_;refine pFz<|vMz<|gTz<|vFz<|gTz<|ldz rfl .head fr_rd4<|gTz<|lvz (.gtr rfl rfl)<|pFz<|vMz ?_)
     (refine LW.guardDF rfl rfl rfl (fun hsq hsp=>?_) (fun hsq hsp=>?_))
     (refine vFz<|gTaz<|ldz rfl .head fr_rd5<|gTaz<|lvz (.eq rfl rfl)<|pFaz<|nNz ?_;refine CW.condD rfl (fun hsq hsp=>?_) (fun hsq hsp=>?_);refine sRz<|vAz<|nNz<|zK ?_;refine thenR (finR (.inl rfl) rfl rfl rfl (.cons (.tmp rfl) .nil) ?_);rw [hn (by omega)];rfl;refine zJ<|thenN<|zI<|sRz<|vFz<|ldz rfl .head fr_rd11<|lvz (.lenR rfl inferInstance rfl)<|lvz (.gtr rfl rfl)<|vMz ?_;refine LW.guardDF rfl rfl rfl (fun hsq hsp=>?_) (fun hsq hsp=>?_);refine vFz<|gTaz<|ldz rfl .head fr_rd12<|gTaz<|lvz (.lenR rfl inferInstance rfl)<|gTaz<|lvz (.gtr rfl rfl)<|pFaz<|nNz ?_;refine CW.condD rfl (fun hsq hsp=>?_) (fun hsq hsp=>?_);refine sRz<|vAz<|nNz<|zK ?_;refine thenR (finR (.inl rfl) rfl rfl rfl (.cons (.tmp rfl) .nil) ?_);rw [hn (by omega)];rfl;refine zJ<|thenN<|sRz<|vFz<|ldz rfl .head fr_rd1<|vFz<|ldz rfl .head fr_rd0<|lvz (.lenR rfl inferInstance rfl) ?_;refine lvz (.eqF rfl rfl (by omega)) ?_;refine vMz<|gTz<|vFz<|gTz<|ldz rfl .head fr_rd0<|gTz<|vFz<|gTz<|ldz rfl .head fr_rd1<|gTz ?_;apply zS;rfl;rfl;infer_instance;exact .cons rfl (.cons rfl .nil);intro w _;exact hRd w (by assumption);refine pFz<|vAz<|nNz<|zK ?_;apply finR;exact .inl rfl;rfl;rfl;rfl;apply zD;exact zG rfl;exact zF;rw [hp (by omega)];rfl;(iterate 3 refine gFaz ?_);refine pTaz<|nNz<|cTz<|sRz<|vAz<|nNz<|zK ?_;refine thenR (finR (.inl rfl) rfl rfl rfl (.cons (.tmp rfl) .nil) ?_);rw [hn (by omega)];rfl;refine gFaz<|gFaz<|pTaz<|nNz<|cTz<|sRz<|vAz<|nNz<|zK ?_;refine thenR (finR (.inl rfl) rfl rfl rfl (.cons (.tmp rfl) .nil) ?_);rw [hn (by omega)];rfl)
    |false =>
     rw [hr] at hRd0 hp hn
     have hRd:∀ w' {fs},St w [] fs w'→Calls Tryz.prog 45 #[.slice p0 L.cl.length c0,.int .i64 pc] w' (Ret w' (.bool false)):=hRd0
     simp only [Bool.false_eq_true,or_false] at hp hn
     (refine sRz ?_;apply zT;rfl;rfl;intro _;refine vAz<|nNz<|zI<|sRz<|vFz<|ldz rfl .head fr_rd0 ?_;apply zS;rfl;rfl;infer_instance;exact .cons rfl .nil;intro w _;exact hC w (by assumption);refine lvz (.notT rfl (by with_reducible rfl)) ?_;refine vMz<|gTz<|vFz<|gTz<|ldz rfl .head fr_rd2<|gTz ?_;apply zS;rfl;rfl;infer_instance;exact .cons rfl .nil;intro w _;exact hS w;refine gTz ?_;refine lvz (.notT rfl (by with_reducible rfl)) ?_;refine pFz<|vMz<|gTz<|vFz<|gTz<|ldz rfl .head fr_rd4<|gTz<|lvz (.gtr rfl rfl)<|pFz<|vMz ?_)
     (refine LW.guardDF rfl rfl rfl (fun hsq hsp=>?_) (fun hsq hsp=>?_))
     (refine vFz<|gTaz<|ldz rfl .head fr_rd5<|gTaz<|lvz (.eq rfl rfl)<|pFaz<|nNz ?_;refine CW.condD rfl (fun hsq hsp=>?_) (fun hsq hsp=>?_);refine sRz<|vAz<|nNz<|zK ?_;refine thenR (finR (.inl rfl) rfl rfl rfl (.cons (.tmp rfl) .nil) ?_);rw [hn (by omega)];rfl;refine zJ<|thenN<|zI<|sRz<|vFz<|ldz rfl .head fr_rd11<|lvz (.lenR rfl inferInstance rfl)<|lvz (.gtr rfl rfl)<|vMz ?_;refine LW.guardDF rfl rfl rfl (fun hsq hsp=>?_) (fun hsq hsp=>?_);refine vFz<|gTaz<|ldz rfl .head fr_rd12<|gTaz<|lvz (.lenR rfl inferInstance rfl)<|gTaz<|lvz (.gtr rfl rfl)<|pFaz<|nNz ?_;refine CW.condD rfl (fun hsq hsp=>?_) (fun hsq hsp=>?_);refine sRz<|vAz<|nNz<|zK ?_;refine thenR (finR (.inl rfl) rfl rfl rfl (.cons (.tmp rfl) .nil) ?_);rw [hn (by omega)];rfl;refine zJ<|thenN<|sRz<|vFz<|ldz rfl .head fr_rd1<|vFz<|ldz rfl .head fr_rd0<|lvz (.lenR rfl inferInstance rfl) ?_;refine lvz (.eqF rfl rfl (by omega)) ?_;refine vMz<|gTz<|vFz<|gTz<|ldz rfl .head fr_rd0<|gTz<|vFz<|gTz<|ldz rfl .head fr_rd1<|gTz ?_;apply zS;rfl;rfl;infer_instance;exact .cons rfl (.cons rfl .nil);intro w _;exact hRd w (by assumption);refine pFz<|vAz<|nNz<|zK ?_;apply finR;exact .inl rfl;rfl;rfl;rfl;apply zD;exact zG rfl;exact zF;rw [hn (by omega)];rfl;(iterate 3 refine gFaz ?_);refine pTaz<|nNz<|cTz<|sRz<|vAz<|nNz<|zK ?_;refine thenR (finR (.inl rfl) rfl rfl rfl (.cons (.tmp rfl) .nil) ?_);rw [hn (by omega)];rfl;refine gFaz<|gFaz<|pTaz<|nNz<|cTz<|sRz<|vAz<|nNz<|zK ?_;refine thenR (finR (.inl rfl) rfl rfl rfl (.cons (.tmp rfl) .nil) ?_);rw [hn (by omega)];rfl)
  ·rw [decide_eq_false hs] at hS0
   have hS:∀ w',Calls Tryz.prog 44 #[.agg #[.slice p2 L.ws.length c2,.slice p3 L.ms.length c3]] w' (Ret w' (.bool false)):=hS0
   rw [hn (fun h=>hs h.2.2.2.1)] at *
   clear hp hn
   (refine sRz ?_;apply zT;rfl;rfl;intro _;refine vAz<|nNz<|zI<|sRz<|vFz<|ldz rfl .head fr_rd0 ?_;apply zS;rfl;rfl;infer_instance;exact .cons rfl .nil;intro w _;exact hC w (by assumption);refine lvz (.notT rfl (by with_reducible rfl)) ?_;refine vMz<|gTz<|vFz<|gTz<|ldz rfl .head fr_rd2<|gTz ?_;apply zS;rfl;rfl;infer_instance;exact .cons rfl .nil;intro w _;exact hS w;refine gTz ?_;refine lvz (.notF rfl (by with_reducible rfl)) ?_;refine pFz<|vMz ?_;(iterate 3 refine gFz ?_);refine pTz<|vMz ?_;(iterate 3 refine gFz ?_);refine pTz<|nNz<|cTz<|sRz<|vAz<|nNz<|zK<|thenR ?_)
   (apply finR;exact .inl rfl;rfl;rfl;rfl;apply zD;exact zG rfl;exact zF)
   rfl
 ·rw [decide_eq_false hc] at hC0
  have hC:∀ w' {fs},St w [] fs w'→Calls Tryz.prog 43 #[.slice p0 L.cl.length c0] w' (Ret w' (.bool false)):=hC0
  rw [hn (fun h=>hc h.2.2.1)] at *
  clear hp hn
  (refine sRz ?_;apply zT;rfl;rfl;intro _;refine vAz<|nNz<|zI<|sRz<|vFz<|ldz rfl .head fr_rd0 ?_;apply zS;rfl;rfl;infer_instance;exact .cons rfl .nil;intro w _;exact hC w (by assumption);refine lvz (.notF rfl (by with_reducible rfl)) ?_;refine vMz ?_;(iterate 4 refine gFz ?_);refine pTz<|vMz ?_;(iterate 3 refine gFz ?_);refine pTz<|vMz ?_;(iterate 3 refine gFz ?_);refine pTz<|nNz<|cTz<|sRz<|vAz<|nNz<|zK<|thenR ?_)
  (apply finR;exact .inl rfl;rfl;rfl;rfl;apply zD;exact zG rfl;exact zF)
  rfl
theorem IsRow.le {E:TypeId} {sz n n' c:Nat} {p:Option Addr} {xs:List Value} {seg:Fs} (h:IsRow E sz (.slice p n' c) n xs seg):n'≤c:=by
 cases h with
 |nil=>exact Nat.le_refl _
 |own hn _ _ _ _=>exact hn
theorem rBoth_calls (l:List UInt8) (v:Value) (w:World) (hv:RowAt w 1 v l.length (ucs l)) (hl:l.length≤100000):Calls Tryz.prog 102 #[v,.slice none 0 0] w (RetG w [] (bM l)):=by
 obtain ⟨p,c,rfl,_,_⟩:=id hv.form
 refine enter (args:=[_,_]) _ [] [] Tryz.func102 rfl Tryz.ntmps102 rfl (by simp) .nil ?_
 (refine sRz<|vAz<|nSz<|vMz<|lvz (.lenR rfl inferInstance rfl)<|vMz<|lvz (.lenR rfl inferInstance rfl) ?_;refine lvz (.addZ rfl rfl (by omega)) ?_)
 refine LW.n0 rfl rfl (NewP.make0 (c:=l.length+0) inferInstance inferInstance inferInstance rfl rfl (by omega) (by omega)) fun g=>?_
 simp only [Sh.val]
 (refine vAz<|nSz<|vMz<|vMz ?_)
 have hrow0:IsRow 5 1 (.slice (some ⟨g,0,none⟩) 0 (l.length+0)) 0 [] [(g,.cells (madeCells (Value.int .u8 0).cells ((l.length+0) * 1)) 5 (0,0))]:=.own (by omega) (by simp only [maxLen];omega) (by rw [← Array.length_toList,made_one rfl,List.length_replicate,Nat.mul_one]) rfl rfl
 (apply LW.appendAny;(case hrow=>exact hrow0);rfl;rfl;infer_instance;infer_instance;infer_instance;rfl;rfl;rfl;exact AtSeg.head (seg:=[_]) (post:=[]))
 ·exact fun w hs=>hv.st hs
 ·exact ucs_cells _
 ·simp only [maxLen];omega
 ·omega
 intro v1 seg1 hrow1
 refine ⟨_,AtSeg.head (post:=[]),?_⟩
 simp only [List.nil_append,qO] at hrow1
 obtain ⟨q1,k1,rfl⟩:=hrow1.form
 have hle1:l.length≤k1:=IsRow.le hrow1
 (refine vMz ?_;apply LW.v0;rfl;rfl;apply ValP.append0;rfl;infer_instance;infer_instance;rfl;rfl;assumption;refine vAz<|nNz<|zK ?_)
 exact fin (vs:=[.slice q1 l.length k1]) seg1 (.inl rfl) rfl rfl (by (apply zD;exact zG rfl;exact zF)) (qQ _ _) hrow1
theorem rScCopy_calls (ws:List Nat) (ms:List UInt8) (s m:Value) (w:World) (hs:RowAt w 4 s ws.length (wcs ws)) (hm:RowAt w 1 m ms.length (ucs ms)) (hl:ws.length≤100000) (hl2:ms.length≤100000) :
  Calls Tryz.prog 103 #[.agg #[s,m]] w (RetG w [] (fun v gs=>∃ s m g1 g2,v=.agg #[s,m]∧gs=g2++g1∧wM ws s g1∧bM ms m g2∧(ws.length=0→∃ p,s=.slice p 0 0))):=by
 obtain ⟨p,c,rfl,_,_⟩:=id hs.form
 obtain ⟨p2,c2,rfl,_,_⟩:=id hm.form
 refine enter (args:=[_]) _ [] [] Tryz.func103 rfl Tryz.ntmps103 rfl (by simp) .nil ?_
 (refine sRz ?_;apply zT;rfl;rfl;intro _;apply zU;rfl;intro _;refine nNz<|zI ?_)
 apply CW.pre
 rcases Nat.eq_zero_or_pos ws.length with h0|h0
 ·have hw:ws=[]:=List.length_eq_zero_iff.1 h0
  subst hw
  (refine AnyW.anyS [(3,sameR)] 7 mixed (by decide +kernel) ?_)
  ((try simp only [tsOf_cons,tsOf_nil,tsOf_app]);apply DW.lay0;rfl;rfl;rfl;exact zC;infer_instance;infer_instance;intro _;refine dvz (.fieldAddr rfl rfl) ?_;apply qD;rfl;rfl;rfl;exact zC;rfl;apply zO;apply zO;apply zP;exact zN;exact sc_rd0)
  refine DW.appendN rfl rfl rfl (by (exact zC)) rfl inferInstance inferInstance rfl rfl hs rfl ?_
  ((try simp only [tsOf_cons,tsOf_nil,tsOf_app]);apply DW.lay0;rfl;rfl;rfl;exact zC;infer_instance;infer_instance;intro _;refine dvz (.fieldAddr rfl rfl) ?_;apply qD;rfl;rfl;rfl;exact zC;rfl;apply zO;apply zO;apply zO;apply zP;exact zN;exact sc_rd1;apply DW.nil;simp only [fsOf_cons,fsOf_nil,fsOf_app,fsOf_tsOf,fsOf_new])
  rename_i ba bb bc bd
  have hrow0:IsRow 5 1 (.slice (some ⟨bd,0,none⟩) 0 0) 0 [] [(bd,.cells #[] 5 (0,0))]:=.own (Nat.le_refl 0) (by simp [maxLen]) rfl rfl rfl
  (apply LW.appendAny;(case hrow=>exact hrow0);rfl;rfl;infer_instance;infer_instance;infer_instance;rfl;rfl;rfl;exact AtSeg.head (seg:=[_]) (post:=_::_))
  ·exact fun w hs=>hm.st hs
  ·exact ucs_cells _
  ·simp only [maxLen];omega
  ·omega
  intro v2 g2 h2
  simp only [List.nil_append,qO] at h2
  refine ⟨_,AtSeg.head,?_⟩
  obtain ⟨q2,k2,rfl⟩:=id h2.form
  (apply LW.v0;rfl;rfl;apply zW;infer_instance;infer_instance;apply zA;rfl;apply zA;rfl;exact zB;rfl;simp only [fillP,wrCells,Value.cells,qI,qJ,qK,qH,qM,qL,Nat.reduceAdd,qO];rfl;refine zR rfl rfl (.app (.tail .head)) (.whole rfl rfl rfl)<|nNz<|zK ?_)
  refine fin (vs:=[.agg #[.slice (some ⟨bc,0,none⟩) 0 0,.slice q2 ms.length k2]]) (g2++[(bc,.cells #[] 29 (0,0))]) (.inl rfl) rfl rfl (by (apply zD;apply zH;rfl;apply qE;apply zZ;apply zX;apply zY;exact qF rfl;exact zF)) ?_ ⟨_,_,[(bc,.cells #[] 29 (0,0))],g2,rfl,rfl,.own (Nat.le_refl 0) (by simp [maxLen]) rfl rfl rfl,h2,fun _=>⟨_,rfl⟩⟩
  (apply List.Sublist.append_left;apply List.Sublist.cons_cons;apply qR;apply qR;exact qN _)
 ·(refine AnyW.anyS [(3,cst (wM ws))] 7 mixed (by decide +kernel) ?_)
  ((try simp only [tsOf_cons,tsOf_nil,tsOf_app]);apply DW.lay0;rfl;rfl;rfl;exact zC;infer_instance;infer_instance;intro _;refine dvz (.fieldAddr rfl rfl) ?_;apply qD;rfl;rfl;rfl;exact zC;rfl;apply zO;apply zO;apply zP;exact zN;exact sc_rd0)
  refine DW.appendE rfl rfl rfl (by (exact zC)) rfl inferInstance inferInstance inferInstance rfl rfl rfl hs rfl h0 (by simp only [maxLen];omega) (by omega) (fun v gs h=>h) ?_
  intro v1 g1 h1
  have h1':=h1
  unfold wM at h1'
  obtain ⟨q1,k1,rfl⟩:=h1'.form
  ((try simp only [tsOf_cons,tsOf_nil,tsOf_app]);apply DW.lay0;rfl;rfl;rfl;exact zC;infer_instance;infer_instance;intro _;refine dvz (.fieldAddr rfl rfl) ?_;apply qD;rfl;rfl;rfl;exact zC;rfl;apply zO;apply zQ;apply zO;apply zO;apply zP;exact zN;exact sc_rd1;apply DW.nil;simp only [fsOf_cons,fsOf_nil,fsOf_app,fsOf_tsOf,fsOf_new])
  simp only [fsOf_tag]
  rename_i ba bb bc bd
  have hrow0:IsRow 5 1 (.slice (some ⟨bd,0,none⟩) 0 0) 0 [] [(bd,.cells #[] 5 (0,0))]:=.own (Nat.le_refl 0) (by simp [maxLen]) rfl rfl rfl
  (apply LW.appendAny;(case hrow=>exact hrow0);rfl;rfl;infer_instance;infer_instance;infer_instance;rfl;rfl;rfl;exact AtSeg.head (seg:=[_]) (post:=g1++_))
  ·exact fun w hs=>hm.st hs
  ·exact ucs_cells _
  ·simp only [maxLen];omega
  ·omega
  intro v2 g2 h2
  simp only [List.nil_append,qO] at h2
  refine ⟨_,AtSeg.head,?_⟩
  obtain ⟨q2,k2,rfl⟩:=id h2.form
  (apply LW.v0;rfl;rfl;apply zW;infer_instance;infer_instance;apply zA;rfl;apply zA;rfl;exact zB;rfl;simp only [fillP,wrCells,Value.cells,qI,qJ,qK,qH,qM,qL,Nat.reduceAdd,qO];rfl;refine zR rfl rfl (.app (.app (.tail .head))) (.whole rfl rfl rfl)<|nNz<|zK ?_)
  refine fin (vs:=[.agg #[.slice q1 ws.length k1,.slice q2 ms.length k2]]) (g2++g1) (.inl rfl) rfl rfl (by (apply zD;apply zH;rfl;apply qE;apply zZ;apply zZ;apply zX;apply zY;exact qF rfl;exact zF)) ?_ ⟨_,_,g1,g2,rfl,rfl,h1,h2,fun h=>absurd h0 (by omega)⟩
  exact List.Sublist.append_left (qQ _ _) _
end
end Go.Proofs.YtdeggbkbblfpoaaGreatDoor
namespace Go.Proofs.YtdeggbkbblfpoaaGreatDoor.SL
set_option linter.unusedVariables false
set_option linter.unusedSimpArgs false
open Go Go.RowKit
inductive MoreR:Ts→Ts→Prop
 |nil:MoreR [] []
 |cons {b:Nat} {o:Obj} {ws rs rs':List Nat} {r r':Ts} (h:∀ x∈rs,x∈rs') (t:MoreR r r'):MoreR ((b,o,ws,rs)::r) ((b,o,ws,rs')::r')
def markAll (k:Nat) (ts:Ts):Ts:=ts.map fun p=>(p.1,p.2.1,p.2.2.1,k::p.2.2.2)
theorem MoreR.keys {ts ts':Ts} (h:MoreR ts ts'):ts'.map (·.1)=ts.map (·.1):=by
 induction h with
 |nil=>rfl
 |cons _ _ ih=>simp [ih]
theorem MoreR.mem {ts ts':Ts} (h:MoreR ts ts'):∀ p'∈ts',∃ rs,(p'.1,p'.2.1,p'.2.2.1,rs)∈ts∧∀ x∈rs,x∈p'.2.2.2:=by
 induction h with
 |nil=>intro p hp;cases hp
 |@cons b o ws rs rs' r r' hx _ ih =>
  intro p hp
  rcases List.mem_cons.1 hp with rfl|hp
  ·exact ⟨rs,List.mem_cons_self,hx⟩
  ·obtain ⟨rs,h1,h2⟩:=ih p hp
   exact ⟨rs,qP _ h1,h2⟩
theorem MoreR.refl:∀ ts:Ts,MoreR ts ts
 |[]=>.nil
 |(b,o,ws,rs)::r=>.cons (fun _ h=>h) (MoreR.refl r)
theorem MoreR.mark {k:Nat}:∀ ts:Ts,MoreR ts (markAll k ts)
 |[]=>.nil
 |(b,o,ws,rs)::r=>.cons (fun _ h=>qP _ h) (MoreR.mark r)
theorem more_app:∀ (l:Ts) {ts ts':Ts},MoreR ts ts'→MoreR (l++ts) (l++ts')
 |[],_,_,h=>h
 |(b,o,ws,rs)::l,_,_,h=>.cons (fun _ h=>h) (more_app l h)
theorem fsOf_mark {k:Nat} (ts:Ts):fsOf (markAll k ts)=fsOf ts:=by simp [fsOf,markAll]
theorem DW.moreA {C:Cu} {ops:Array Oper} {μ:Mu} {Q:Post} {tl l:List Oper} {k:Nat} {e:Env} {ts ts':Ts} (hm:MoreR ts ts') (h:DW C ops μ Q tl l k e ts'):DW C ops μ Q tl l k e ts:=fun a φ tw tr ha hr hi=>by
 refine h a φ tw tr ha ⟨fun p hp=>?_,fun p hp j hj=>?_,fun p hp j hj=>?_,hr.old,hr.oldr,?_⟩ hi
 ·obtain ⟨rs,h1,_⟩:=hm.mem p hp
  exact hr.fsome (p.1,p.2.1,p.2.2.1,rs) h1
 ·obtain ⟨rs,h1,_⟩:=hm.mem p hp
  exact hr.ftw (p.1,p.2.1,p.2.2.1,rs) h1 j hj
 ·obtain ⟨rs,h1,h2⟩:=hm.mem p hp
  exact h2 _ (hr.ftr (p.1,p.2.1,p.2.2.1,rs) h1 j hj)
 ·have h1:(ts.map (·.1)).Pairwise (· ≠ ·):=List.pairwise_map.2 hr.nd
  rw [← hm.keys] at h1
  exact List.pairwise_map.1 h1
theorem read_one {ops:Array Oper} {k:Nat} {tsF:Ts}:∀ {ts:Ts},MoreR tsF ts→MoreR ts (markAll k tsF)→∀ {b:Nat} {o:Obj} {ws rs:List Nat},(b,o,ws,rs)∈tsF→ancB ops k ws=true→∃ ts',TRead ops k ts b o ts'∧MoreR tsF ts'∧MoreR ts' (markAll k tsF):=by
 induction tsF with
 |nil=>intro ts _ _ b o ws rs hm;cases hm
 |cons q r ih =>
  intro ts h0 h
  obtain ⟨qb,qo,qw,qr⟩:=q
  rw [show markAll k ((qb,qo,qw,qr)::r)=(qb,qo,qw,k::qr)::markAll k r from rfl] at h ⊢
  cases h with
  |@cons _ _ _ rs1 _ r1 _ hx ht =>
   cases h0 with
   |cons hy hu =>
    intro b o ws rs hm ha
    rcases List.mem_cons.1 hm with he|hm
    ·cases he
     exact ⟨_,.head ha,.cons (fun x hx'=>qP _ (hy x hx')) hu,.cons (fun x hx'=>by
      rcases List.mem_cons.1 hx' with rfl|h'
      ·exact List.mem_cons_self
      ·exact hx x h') ht⟩
    ·obtain ⟨ts',h1,h2,h3⟩:=ih hu ht hm ha
     exact ⟨_,.tail h1,.cons hy h2,.cons hx h3⟩
def Lie (C:Cu) (ops:Array Oper) (k:Nat) (ts:Ts) (p:Nat × Obj):Prop:=(∃ ws rs,(p.1,p.2,ws,rs)∈ts∧ancB ops k ws=true)∨(C.w0.heap[p.1]?=some p.2∧p.1 ∉ C.S)
theorem read_all {C:Cu} {ops:Array Oper} {k:Nat} {tsF:Ts}:∀ (us:Fs) {ts:Ts},MoreR tsF ts→MoreR ts (markAll k tsF)→(∀ p∈us,Lie C ops k tsF p)→∃ ts',ReadAll C ops k (us.map (·.1)) ts us ts'∧MoreR ts' (markAll k tsF)
 |[],ts,_,h,_=>⟨ts,.nil,h⟩
 |(b,o)::us,ts,h0,h,hl=>by
  rcases hl (b,o) List.mem_cons_self with ⟨ws,rs,h1,h2⟩|⟨h1,h2⟩
  ·obtain ⟨ts1,h4,h5,h6⟩:=read_one h0 h h1 h2
   obtain ⟨ts',h7,h8⟩:=read_all us h5 h6 fun p hp=>hl p (qP _ hp)
   exact ⟨ts',.own h4 h7,h8⟩
  ·obtain ⟨ts',h7,h8⟩:=read_all us h0 h fun p hp=>hl p (qP _ hp)
   exact ⟨ts',.ext h1 h2 h7,h8⟩
theorem markAll_nil {k:Nat}:markAll k []=[]:=rfl
theorem markAll_cons {k b:Nat} {o:Obj} {ws rs:List Nat} {r:Ts}:markAll k ((b,o,ws,rs)::r)=(b,o,ws,k::rs)::markAll k r:=rfl
theorem markAll_app {k:Nat} {l r:Ts}:markAll k (l++r)=markAll k l++markAll k r:=by simp [markAll]
theorem markAll_tsOf {k:Nat} {g:Fs}:markAll k (tsOf g)=tsTag [] [k] g:=by simp [markAll,tsOf,tsTag]
section dw
variable {C : Cu} {ops : Array Oper} {Q : Post} {tl rest : List Oper} {e : Env} {ts : Ts} {μ : Mu} {k d : Nat} {t : TypeId} {pos : String} {af : Array Edge} {g : Option (Nat × Bool)} {fo : Operand} {args : Array Operand} {tys : Array TypeId} {f : FuncId} {vs : List Value} (us : Fs)
theorem DW.callA {v:Value} (hk:ops[k]?=some ⟨some d,.call { callee:=.value fo,args:=args,argTypes:=tys },t,pos,af,g⟩) (hm:μ k=none)
  (hd:Nat.blt d C.N=true) (hg:WantT ops e g) (hf:e.ev fo=some (.func (.func f) #[] #[])) (hF:FnI C.P f) (ha:ArgsOk e args.toList vs) (hbl:vs.flatMap (blocksN 4)=us.map (·.1)) (hl:∀ p∈us,Lie C ops k ts p)
  (hc:∀ w,Bel C.w0.heap.size C.S C.w0 w→(∀ p∈us,w.heap[p.1]?=some p.2)→Calls C.P f vs.toArray w (Ret w v)) (kk:DW C ops μ Q tl rest (k+1) ((d,v)::e) (markAll k ts)) :
  DW C ops μ Q tl (⟨some d,.call { callee:=.value fo,args:=args,argTypes:=tys },t,pos,af,g⟩::rest) k e ts:=by
 obtain ⟨ts',h1,h2⟩:=read_all us (MoreR.refl ts) (MoreR.mark ts) hl
 rw [← hbl] at h1
 exact DW.callE hk hm hd hg hf hF ha (show _=vs.flatMap (blocksN 4) from rfl) h1 hc (DW.moreA h2 kk)
theorem DW.manyA {M:Rel1} (hk:ops[k]?=some ⟨some d,.call { callee:=.value fo,args:=args,argTypes:=tys },t,pos,af,g⟩) (hm:μ k=some (cst M,(false:Fl)))
  (hd:Nat.blt d C.N=true) (hg:WantT ops e g) (hf:e.ev fo=some (.func (.func f) #[] #[])) (hF:FnI C.P f) (ha:ArgsOk e args.toList vs) (hbl:vs.flatMap (blocksN 4)=us.map (·.1)) (hl:∀ p∈us,Lie C ops k ts p)
  (hc:∀ w,Bel C.w0.heap.size C.S C.w0 w→(∀ p∈us,w.heap[p.1]?=some p.2)→Calls C.P f vs.toArray w (RetG w [] M)) (kk:∀ v gs,M v gs→DW C ops μ Q tl rest (k+1) ((d,v)::e) (tsNew k gs++markAll k ts)) :
  DW C ops μ Q tl (⟨some d,.call { callee:=.value fo,args:=args,argTypes:=tys },t,pos,af,g⟩::rest) k e ts:=by
 obtain ⟨ts',h1,h2⟩:=read_all us (MoreR.refl ts) (MoreR.mark ts) hl
 rw [← hbl] at h1
 refine DW.manyE hk hm hd hg hf hF ha (show _=vs.flatMap (blocksN 4) from rfl) h1 hc fun v gs hM=>DW.moreA ?_ (kk v gs hM)
 exact (more_app _ h2)
end dw
end Go.Proofs.YtdeggbkbblfpoaaGreatDoor.SL
namespace Go.Proofs.YtdeggbkbblfpoaaGreatDoor
open Go Go.RowKit SL
set_option maxRecDepth 8000
set_option maxHeartbeats 4000000
set_option linter.unusedSimpArgs false
set_option linter.unusedVariables false
attribute [local irreducible] SL.CW SL.LW SL.DW Calls SL.Ret SL.RetG SL.beginQ SL.roundQ SL.rangeQ SL.inQ SL.RW SL.AnyW SL.thenQ SL.thenC SL.thenW SL.blkQ SL.finQ SL.ValP SL.NewP SL.SetP SL.CallP SL.Rd SL.Wr SL.Known
section
section rd
variable {P : Program} {T E : TypeId} {fr : Nat × Nat} {kind : Int} {op : Nat} {u v : Value}
end rd
def opF (f:FrV) (L:FrL):Nat:=if f.pc=(L.cl.length:Int) then 0 else (L.cl.getD f.pc.toNat 0).toNat
theorem next_calls (f:FrV) (L:FrL) (hp:f.pc=(L.cl.length:Int)∨(0≤f.pc∧f.pc < (L.cl.length:Int))) (w:World) (h:FrRows w f L):Calls Tryz.prog 82 #[frv f] w (Ret w (.int .u8 ((opF f L:Nat):Int))):=by
 obtain ⟨code,pc,stk,mem,gas,self,frm,val,inp,back,stat⟩:=f
 obtain ⟨h0,h2,h3,h11,h12⟩:=h
 dsimp only at h0 hp
 unfold opF
 dsimp only
 by_cases he:pc=(L.cl.length:Int)
 ·obtain ⟨p0,c0,rfl,hl0,_⟩:=id h0.form
  rw [if_pos he]
  refine enter (args:=[_]) _ [] [] Tryz.func82 rfl Tryz.ntmps82 rfl (by simp) .nil ?_
  (refine sRz ?_;apply zT;rfl;rfl;intro _;refine vAz<|nNz<|zI<|sRz<|vFz<|ldz rfl .head fr_rd1<|vFz<|ldz rfl .head fr_rd0<|lvz (.lenR rfl inferInstance rfl) ?_;refine lvz (.eqT rfl rfl (by omega)) ?_;refine nNz<|cTz<|sRz<|vAz<|nNz<|zK<|thenR ?_)
  (apply finR;exact .inl rfl;rfl;rfl;rfl;apply zD;exact zG rfl;exact zF)
  rfl
 ·rw [if_neg he]
  obtain ⟨k,rfl⟩:∃ k:Nat,pc=(k:Int):=⟨pc.toNat,by omega⟩
  have hk:k < L.cl.length:=by omega
  obtain ⟨b0,o0,c0,cs,E,fr,rfl,hb,hx⟩:=h0.pos (by omega)
  obtain ⟨bk,hbk⟩:∃ bk,L.cl[k]?=some bk:=⟨_,List.getElem?_eq_getElem hk⟩
  have hrd:Rd Tryz.prog 5 (.cells cs E fr) (o0+k * 1) (.int .u8 (bk.toNat:Int)):=Rd.elem1 hx (ucs_one _) hbk rfl
  rw [Int.toNat_natCast,List.getD_eq_getElem?_getD,hbk]
  refine enter (args:=[_]) _ [] [] Tryz.func82 rfl Tryz.ntmps82 rfl (by simp) .nil ?_
  (refine sRz ?_;apply zT;rfl;rfl;intro _;refine vAz<|nNz<|zI<|sRz<|vFz<|ldz rfl .head fr_rd1<|vFz<|ldz rfl .head fr_rd0<|lvz (.lenR rfl inferInstance rfl) ?_;refine lvz (.eqF rfl rfl (by omega)) ?_;refine nNz<|cFz<|zJ<|thenN<|sRz<|vFz<|ldz rfl .head fr_rd0<|vFz<|ldz rfl .head fr_rd1 ?_;refine lvz (.indexAddrS rfl rfl rfl (by omega)) ?_;apply LW.load;rfl;rfl;exact Known.ext (by assumption) (by simp);exact hrd;refine vAz<|nNz<|zK ?_)
  (apply finR;exact .inl rfl;rfl;rfl;rfl;apply zD;exact zG rfl;exact zF)
  rfl
theorem okF_pc {f:FrV} {L:FrL} (h:okF f L):f.pc=(L.cl.length:Int)∨(0≤f.pc∧f.pc < (L.cl.length:Int)):=by
 rcases h.2.2.2.2 with h|h
 ·exact .inl h
 ·exact .inr (CK.readB_range h)
end
section
open CK (readB readFrom readFrom_hit)
section wr
variable {P : Program} {T E : TypeId} {code stk mem inp back z : Value} {pc : Int} {gas self frm val n c n2 c2 : Nat} {stat : Bool} {p p2 : Option Addr}
theorem fr_wr23 [InfoI P T 2 z]:Wr P T (.cells (fra ⟨code,pc,stk,mem,gas,self,frm,val,inp,back,stat⟩) E (0,0)) (0+2) (.agg #[.slice p n c,.slice p2 n2 c2]) (.cells (fra ⟨code,pc,.slice p n c,.slice p2 n2 c2,gas,self,frm,val,inp,back,stat⟩) E (0,0)):=Wr.cells (n:=2) (z:=z) rfl rfl (by show 0+2+2≤14;omega) rfl
end wr
def rCopyR (f:FrV) (L:FrL) (v:Value) (gs:Fs):Prop:=∃ c s m i b,v=frv (f.rows c s m i b)∧FrO (f.rows c s m i b) L gs∧(L.ws.length=0→∃ p,s=.slice p 0 0)
theorem rfCopy_calls (f:FrV) (L:FrL) (hl:L.short) (w:World) (h:FrRows w f L):Calls Tryz.prog 49 #[frv f] w (RetG w [] (rCopyR f L)):=by
 obtain ⟨code,pc,stk,mem,gas,self,frm,val,inp,back,stat⟩:=f
 obtain ⟨h0,h2,h3,h11,h12⟩:=h
 dsimp only at h0 h2 h3 h11 h12
 obtain ⟨p0,c0,rfl,_,hm0⟩:=id h0.form
 obtain ⟨p2,c2,rfl,_,hm2⟩:=id h2.form
 obtain ⟨p3,c3,rfl,_,hm3⟩:=id h3.form
 obtain ⟨p11,c11,rfl,_,hm11⟩:=id h11.form
 obtain ⟨p12,c12,rfl,_,hm12⟩:=id h12.form
 refine enter (args:=[_]) _ [] [] Tryz.func49 rfl Tryz.ntmps49 rfl (by simp) .nil ?_
 (refine sRz ?_;apply zT;rfl;rfl;intro _;apply zU;rfl;intro _;refine nNz<|zI ?_)
 rename_i b1 b2
 apply CW.pre
 (refine AnyW.anyM [(2,bM L.cl),(5,bM L.il),(8,bM L.bl)] 10 mixed (by decide +kernel) ?_)
 ((try simp only [tsOf_cons,tsOf_nil,tsOf_app]);refine dvz (.fieldAddr rfl rfl) ?_;apply qD;rfl;rfl;rfl;exact zC;rfl;apply zO;apply zP;exact zN;exact fr_rd0)
 (apply DW.manyV;rfl;rfl;rfl;exact zC;rfl;infer_instance;exact .cons rfl (.cons rfl .nil);apply RdV.ext;assumption;rfl;apply RdV.plain;rfl;exact RdV.nil;intro w _ _)
 exact rBoth_calls _ _ w (h0.bel (by assumption)) hl.1
 intro v1 g1 h1
 ((try simp only [tsOf_cons,tsOf_nil,tsOf_app]);refine dvz (.fieldAddr rfl rfl) ?_;apply qD;rfl;rfl;rfl;exact zC;rfl;apply zQ;apply zO;apply zP;exact zN;exact fr_rd11)
 (apply DW.manyV;rfl;rfl;rfl;exact zC;rfl;infer_instance;exact .cons rfl (.cons rfl .nil);apply RdV.ext;assumption;rfl;apply RdV.plain;rfl;exact RdV.nil;intro w _ _)
 exact rBoth_calls _ _ w (h11.bel (by assumption)) hl.2.2.2.1
 intro v4 g4 h4
 ((try simp only [tsOf_cons,tsOf_nil,tsOf_app]);refine dvz (.fieldAddr rfl rfl) ?_;apply qD;rfl;rfl;rfl;exact zC;rfl;apply zQ;apply zQ;apply zO;apply zP;exact zN;exact fr_rd12)
 (apply DW.manyV;rfl;rfl;rfl;exact zC;rfl;infer_instance;exact .cons rfl (.cons rfl .nil);apply RdV.ext;assumption;rfl;apply RdV.plain;rfl;exact RdV.nil;intro w _ _)
 exact rBoth_calls _ _ w (h12.bel (by assumption)) hl.2.2.2.2
 intro v5 g5 h5
 have h1':=h1
 have h4':=h4
 have h5':=h5
 unfold bM at h1' h4' h5'
 obtain ⟨q1,k1,rfl⟩:=h1'.form
 obtain ⟨q4,k4,rfl⟩:=h4'.form
 obtain ⟨q5,k5,rfl⟩:=h5'.form
 ((try simp only [tsOf_cons,tsOf_nil,tsOf_app]);refine dvz (.fieldAddr rfl rfl) ?_;apply DW.nil;simp only [fsOf_cons,fsOf_nil,fsOf_app,fsOf_tsOf,fsOf_new,fsOf_tag])
 (refine zR rfl rfl (.app (.app (.app (.tail .head)))) fr_wr0<|vFz ?_;refine zR rfl rfl (.app (.app (.app (.tail .head)))) fr_wr11<|vFz ?_;refine zR rfl rfl (.app (.app (.app (.tail .head)))) fr_wr12<|nSz<|vFz<|ldz rfl (.app (.app (.app (.tail .head)))) fr_rd2 ?_)
 (apply LW.callR;rfl;rfl;infer_instance;exact .cons rfl .nil;intro w hs)
 exact rScCopy_calls L.ws L.ms _ _ w (h2.st hs) (h3.st hs) hl.2.1 hl.2.2.1
 rintro vo gso ⟨s1,m1,g2,g3,rfl,rfl,hh2,hh3,h00⟩
 have h2':=hh2
 have h3':=hh3
 unfold wM at h2'
 unfold bM at h3'
 obtain ⟨q2,k2,rfl⟩:=h2'.form
 obtain ⟨q3,k3,rfl⟩:=h3'.form
 rw [List.append_assoc]
 have hsl:FrSl ⟨.slice q1 L.cl.length k1,pc,.slice q2 L.ws.length k2,.slice q3 L.ms.length k3,gas,self,frm,val,.slice q4 L.il.length k4,.slice q5 L.bl.length k5,stat⟩:=⟨⟨_,_,_,rfl⟩,⟨_,_,_,rfl⟩,⟨_,_,_,rfl⟩,⟨_,_,_,rfl⟩,⟨_,_,_,rfl⟩⟩
 (refine vFz ?_;refine zR rfl rfl (.app (.app (.app (.app (.app (.tail .head)))))) fr_wr23<|nSz<|ldz rfl (.app (.app (.app (.app (.app (.tail .head)))))) fr_rdW ?_;apply zR;rfl;rfl;apply qC;apply qC;apply qC;apply qC;apply qC;apply qA;apply fr_wrW;rfl;assumption;refine nNz<|zK ?_)
 refine fin (vs:=[frv ⟨.slice q1 L.cl.length k1,pc,.slice q2 L.ws.length k2,.slice q3 L.ms.length k3,gas,self,frm,val,.slice q4 L.il.length k4,.slice q5 L.bl.length k5,stat⟩]) (g3++(g2++(g5++(g4++g1)))) (.inl rfl) rfl rfl (by (apply zD;apply zH;rfl;apply qE;apply zZ;apply zZ;apply zZ;apply zZ;apply zZ;apply zY;exact fr_rdW;exact zF)) ?_ ⟨_,_,_,_,_,rfl,⟨g1,g2,g3,g4,g5,perm5 g1 g2 g3 g4 g5,h1,hh2,hh3,h4,h5⟩,h00⟩
 exact List.Sublist.append_left (List.Sublist.append_left (List.Sublist.append_left (List.Sublist.append_left (qQ _ _) _) _) _) _
end
section
section rd
variable {P : Program} {T E : TypeId} {fr : Nat × Nat} {ok : Bool} {left : Nat} {out : Value}
end rd
theorem blocks_frv {f:FrV} (h:FrSl f):blocksN 4 (frv f)=[f.code,f.stk,f.mem,f.inp,f.back].flatMap (blocksN 4):=by
 show (frc f).flatMap (blocksN 3)=_
 have e:∀ (k:IntKind) (n:Int),blocksN 3 (.int k n)=[]:=fun _ _=>rfl
 have e2:∀ b:Bool,blocksN 3 (.bool b)=[]:=fun _=>rfl
 simp only [frc,wc,List.flatMap_cons,List.flatMap_nil,List.cons_append,List.nil_append,e,e2,List.append_nil,blocks_sl h.c,blocks_sl h.s,blocks_sl h.m,blocks_sl h.i,blocks_sl h.b]
end
section
theorem rowU_own {E:TypeId} {sz n:Nat} {v:Value} {xs:List Value} {seg:Fs} (h:IsRow E sz v n xs seg):∃ us:Fs,blocksN 4 v=us.map (·.1)∧(∀ p∈us,p∈seg)∧∀ w:World,(∀ p∈us,w.heap[p.1]?=some p.2)→RowAt w sz v n xs:=by
 cases h with
 |nil=>exact ⟨[],rfl,(fun p h=>by cases h),fun w _=>.nil⟩
 |@own g _ cap cur _ hn hm hc ht hl =>
  rcases Nat.eq_zero_or_pos cap with h0|h0
  ·subst h0
   obtain rfl:n=0:=by omega
   refine ⟨[],by simp [blocksN],(fun p h=>by cases h),fun w _=>⟨⟨_,_,rfl,Nat.le_refl _,hm⟩,hl,(fun h=>by cases h),fun p n c he=>by cases he;exact .inr (.inl rfl)⟩⟩
  ·exact ⟨[(g,.cells cur E (0,0))],by simp [blocksN,Nat.ne_of_gt h0],fun p h=>h,fun w hw=>IsRow.us (.own hn hm hc ht hl) hw (qN _)⟩
theorem FrO.lie {f:FrV} {L:FrL} {gs:Fs} (h:FrO f L gs):∃ us:Fs,blocksN 4 (frv f)=us.map (·.1)∧(∀ p∈us,p∈gs)∧∀ w:World,(∀ p∈us,w.heap[p.1]?=some p.2)→FrRows w f L:=by
 have hsl:=h.sl
 obtain ⟨g1,g2,g3,g4,g5,hp,h1,h2,h3,h4,h5⟩:=h
 unfold bM at h1 h3 h4 h5
 unfold wM at h2
 obtain ⟨u1,a1,b1,c1⟩:=rowU_own h1
 obtain ⟨u2,a2,b2,c2⟩:=rowU_own h2
 obtain ⟨u3,a3,b3,c3⟩:=rowU_own h3
 obtain ⟨u4,a4,b4,c4⟩:=rowU_own h4
 obtain ⟨u5,a5,b5,c5⟩:=rowU_own h5
 refine ⟨u1++(u2++(u3++(u4++u5))),?_,fun p hq=>hp.subset ?_,fun w hw=>⟨c1 w fun p h=>hw p (by simp [h]),c2 w fun p h=>hw p (by simp [h]),c3 w fun p h=>hw p (by simp [h]),c4 w fun p h=>hw p (by simp [h]),c5 w fun p h=>hw p (by simp [h])⟩⟩
 ·rw [blocks_frv hsl]
  simp [a1,a2,a3,a4,a5]
 ·simp only [List.mem_append] at hq ⊢
  rcases hq with h|h|h|h|h
  ·exact .inl (b1 p h)
  ·exact .inr (.inl (b2 p h))
  ·exact .inr (.inr (.inl (b3 p h)))
  ·exact .inr (.inr (.inr (.inl (b4 p h))))
  ·exact .inr (.inr (.inr (.inr (b5 p h))))
theorem zeroF_num:FrNum zeroF zeroL:=⟨by decide,by decide,by decide,by decide,fun x hx=>by cases hx⟩
theorem FrO.us {f:FrV} {L:FrL} {gs:Fs} {w:World} (h:FrO f L gs) (hw:∀ p∈gs,w.heap[p.1]?=some p.2):FrRows w f L:=h.rows hw
theorem FrRows.blocks {f:FrV} {L:FrL} {w:World} (h:FrRows w f L):[frv f].flatMap (blocksN 4)=[f.code,f.stk,f.mem,f.inp,f.back].flatMap (blocksN 4):=by
 rw [List.flatMap_cons,blocks_frv h.sl]
 exact List.append_nil _
def LikeF (x y:FrV):Prop:=∃ c s m i b,y=x.rows c s m i b
theorem LikeF.num {x y:FrV} {L:FrL} (h:LikeF x y) (hx:FrNum x L):FrNum y L:=by
 obtain ⟨c,s,m,i,b,rfl⟩:=h
 exact ⟨hx.gas,hx.self,hx.frm,hx.val,hx.ws⟩
theorem LikeF.same {x y z:FrV} {L:FrL} (h:LikeF x y) (h2:LikeF x z):sameF y L z L:=by
 obtain ⟨c,s,m,i,b,rfl⟩:=h
 obtain ⟨c2,s2,m2,i2,b2,rfl⟩:=h2
 exact ⟨rfl,rfl,rfl,rfl,rfl,rfl,rfl,rfl,rfl,rfl,rfl⟩
theorem anc_nil {ops:Array Oper} {k:Nat}:ancB ops k []=true:=rfl
theorem st_ou {w0 w:World} {S:List Nat} {fs gs:Fs} (hs:St w0 S fs w) (h:List.Sublist gs fs):∀ p∈gs,w.heap[p.1]?=some p.2:=fun p hp=>(hs.own p (h.subset hp)).2
theorem markAll_tag {k:Nat} {ws rs:List Nat} {g:Fs}:markAll k (tsTag ws rs g)=tsTag ws (k::rs) g:=by simp [markAll,tsTag]
theorem markAll_new {k j:Nat} {g:Fs}:markAll k (tsNew j g)=tsTag [j] [k] g:=by simp [markAll,tsTag,tsNew]
def AncT (ops:Array Oper) (k:Nat) (ts:Ts):Prop:=∀ q∈ts,ancB ops k q.2.2.1=true
section anc
variable {ops : Array Oper} {k j : Nat} {s ts : Ts} {gs : Fs} {b : Nat} {o : Obj} {ws rs : List Nat}
theorem AncT.nil:AncT ops k []:=fun q h=>by cases h
theorem AncT.cons (h:ancB ops k ws=true) (ht:AncT ops k ts):AncT ops k ((b,o,ws,rs)::ts):=fun q hq=>by
 rcases List.mem_cons.1 hq with rfl|hq
 ·exact h
 ·exact ht q hq
theorem AncT.app (h:AncT ops k s) (ht:AncT ops k ts):AncT ops k (s++ts):=fun q hq=>by
 rcases List.mem_append.1 hq with hq|hq
 ·exact h q hq
 ·exact ht q hq
theorem AncT.tsOf:AncT ops k (tsOf gs):=fun q hq=>by
 obtain ⟨p,_,rfl⟩:=List.mem_map.1 (show q∈gs.map _ from hq)
 exact anc_nil
theorem AncT.tag (h:ancB ops k ws=true):AncT ops k (tsTag ws rs gs):=fun q hq=>by
 obtain ⟨p,_,rfl⟩:=List.mem_map.1 (show q∈gs.map _ from hq)
 exact h
theorem AncT.new (h:ancB ops k [j]=true):AncT ops k (tsNew j gs):=fun q hq=>by
 obtain ⟨p,_,rfl⟩:=List.mem_map.1 (show q∈gs.map _ from hq)
 exact h
theorem AncT.lie {C:Cu} {p:Nat × Obj} (h:AncT ops k ts) (hp:p∈fsOf ts):Lie C ops k ts p:=by
 obtain ⟨q,hq,rfl⟩:=List.mem_map.1 (show p∈ts.map _ from hp)
 exact .inl ⟨q.2.2.1,q.2.2.2,hq,h q hq⟩
end anc
end
section
def revS (l L:List Nat) (k:Nat):Prop:=L.length=l.length∧∀ i,i < l.length→L[i]?=if i < k∨l.length - 1 - i < k then l[l.length - 1 - i]? else l[i]?
theorem revS_zero (l:List Nat):revS l l 0:=⟨rfl,fun i hi=>by rw [if_neg (by omega)]⟩
theorem revS_step {l L:List Nat} {k x y:Nat} (h:revS l L k) (hk:2 * k+1 < l.length) (hx:L[l.length - 1 - k]?=some x) (hy:L[k]?=some y):revS l ((L.set k x).set (l.length - 1 - k) y) (k+1):=by
 obtain ⟨h1,h2⟩:=h
 have hx0:=h2 (l.length - 1 - k) (by omega)
 rw [if_neg (by omega),hx] at hx0
 have hy0:=h2 k (by omega)
 rw [if_neg (by omega),hy] at hy0
 refine ⟨by rw [List.length_set,List.length_set,h1],fun i hi=>?_⟩
 by_cases e1:i=l.length - 1 - k
 ·subst e1
  rw [List.getElem?_set_self (by rw [List.length_set];omega),if_pos (by omega),show l.length - 1 - (l.length - 1 - k)=k by omega]
  exact hy0
 ·rw [List.getElem?_set_ne (fun h=>e1 h.symm)]
  by_cases e2:i=k
  ·subst e2
   rw [List.getElem?_set_self (by omega),if_pos (by omega)]
   exact hx0
  ·rw [List.getElem?_set_ne (fun h=>e2 h.symm),h2 i hi]
   by_cases c:i < k∨l.length - 1 - i < k
   ·rw [if_pos c,if_pos (by omega)]
   ·rw [if_neg c,if_neg (by omega)]
theorem revS_end {l L:List Nat} {k:Nat} (h:revS l L k) (hk:l.length≤2 * k+1):L=l.reverse:=by
 obtain ⟨h1,h2⟩:=h
 refine List.ext_getElem? fun i=>?_
 rcases Nat.lt_or_ge i l.length with hi|hi
 ·rw [h2 i hi,List.getElem?_reverse hi]
  by_cases c:i < k∨l.length - 1 - i < k
  ·rw [if_pos c]
  ·rw [if_neg c,show l.length - 1 - i=i by omega]
 ·rw [List.getElem?_eq_none (by omega),List.getElem?_eq_none (by rw [List.length_reverse];exact hi)]
theorem wcs_lenN (L:List Nat):(wcs L).length=L.length * 4:=by
 induction L with
 |nil=>rfl
 |cons x L ih =>
  show ((wc x).toList++wcs L).length=_
  rw [List.length_append,ih,List.length_cons]
  show 4+_=_
  omega
theorem wcs_set (L:List Nat) (i x:Nat) (hi:i < L.length):(wcs L).take (i * 4)++(wc x).toList++(wcs L).drop ((i+1) * 4)=wcs (L.set i x):=by
 rw [wcs_take,wcs_drop,List.set_eq_take_append_cons_drop,if_pos hi,wcs_app]
 show _++_++_=wcs (L.take i)++((wc x).toList++wcs (L.drop (i+1)))
 rw [List.append_assoc]
attribute [local irreducible] SL.inP
theorem reverse_calls (w0:World) (S:List Nat) (l:List Nat) (v:Value) (g rest:Fs) (hr:wM l v g) (hl:l.length≤100000) (w:World) (hs:St w0 S (g++rest) w) :
  Calls Tryz.prog 136 #[v] w (fun x w'=>∃ fs',(x=.returned (.tuple #[])∧∃ g',wM l.reverse v g'∧fs'=g'++rest)∧St w0 S fs' w'):=by
 unfold wM at hr ⊢
 obtain ⟨q,c,rfl⟩:=id hr.form
 refine calls_inlineP (K:=fun x fs'=>x=.returned (.tuple #[])∧∃ g',IsRow 29 4 (.slice q l.length c) l.reverse.length (wcs l.reverse) g'∧fs'=g'++rest) (args:=[_]) Tryz.func136 rfl Tryz.ntmps136 rfl ?_ hs
 (refine sRz<|vMz<|lvz (.lenR rfl inferInstance rfl) ?_;refine lvz (.subI rfl rfl (by omega) (by omega)) ?_;refine vAz<|vAz<|nNz<|zM ?_)
 refine CW.loop (fun x:Nat × List Nat × Fs=>([(3,.int .i64 ((l.length:Int) - 1 - (x.1:Int))),(2,.int .i64 (x.1:Int)),(0,.slice q l.length c)],x.2.2++rest))
  (fun x=>x.1≤l.length∧revS l x.2.1 x.1∧IsRow 29 4 (.slice q l.length c) l.length (wcs x.2.1) x.2.2) (fun x=>l.length - x.1) (0,l,g) ⟨Nat.zero_le _,revS_zero l,hr⟩ ⟨(by have h:(l.length:Int) - 1=(l.length:Int) - 1 - ((0:Nat):Int):=by { omega };exact congrArg (fun z=>some (Value.int .i64 z)) h),rfl,rfl,trivial⟩ (qN _) ?_
 rintro ⟨k,L,seg⟩ ⟨hk,hrev,hrow⟩
 dsimp only at hk hrev hrow ⊢
 rcases Nat.lt_or_ge (2 * k+1) l.length with hlt|hge
 ·obtain ⟨gm,cur,rfl,rfl,hn9,hm9,hsz9,htk9⟩:=hrow.pos (by omega)
  have hLl:L.length=l.length:=hrev.1
  obtain ⟨j,hj⟩:∃ j,l.length - 1 - k=j:=⟨_,rfl⟩
  rw [show (l.length:Int) - 1 - (k:Int)=(j:Int) by omega]
  have hrdK:Rd Tryz.prog 29 (.cells cur 29 (0,0)) (0+k * 4) (wv (L.getD k 0)):=word_rd (by rw [List.drop_zero];exact htk9) k (by omega)
  have hrdJ:Rd Tryz.prog 29 (.cells cur 29 (0,0)) (0+j * 4) (wv (L.getD j 0)):=word_rd (by rw [List.drop_zero];exact htk9) j (by omega)
  have hgk:L[k]?=some (L.getD k 0):=by rw [List.getD_eq_getElem?_getD,List.getElem?_eq_getElem (by omega)];rfl
  have hgj:L[l.length - 1 - k]?=some (L.getD j 0):=by rw [hj,List.getD_eq_getElem?_getD,List.getElem?_eq_getElem (by omega)];rfl
  have hstep:=revS_step hrev hlt hgj hgk
  rw [hj] at hstep
  obtain ⟨x,hx⟩:∃ x,L.getD j 0=x:=⟨_,rfl⟩
  obtain ⟨y,hy⟩:∃ y,L.getD k 0=y:=⟨_,rfl⟩
  rw [hx] at hrdJ hstep
  rw [hy] at hrdK hstep
  obtain ⟨w1,w2⟩:=wr_take (i:=k) (vs:=(wc x).toList) htk9 rfl (by omega) (by omega)
  rw [wcs_set L k x (by omega)] at w1
  obtain ⟨w3,w4⟩:=wr_take (i:=j) (vs:=(wc y).toList) w1 rfl (by omega) (by omega)
  rw [wcs_set _ j y (by rw [List.length_set];omega)] at w3
  have hW1:Wr Tryz.prog 29 (.cells cur 29 (0,0)) (0+k * 4) (wv x) (.cells (wrCells cur (k * 4) (wc x).toList) 29 (0,0)):=Wr.cells (z:=wv 0) (n:=4) rfl rfl (by rw [hsz9];show 0+k * 4+4≤c * 4;omega) (by rw [qO];rfl)
  have hW2:Wr Tryz.prog 29 (.cells (wrCells cur (k * 4) (wc x).toList) 29 (0,0)) (0+j * 4) (wv y) (.cells (wrCells (wrCells cur (k * 4) (wc x).toList) (j * 4) (wc y).toList) 29 (0,0)):=Wr.cells (z:=wv 0) (n:=4) rfl rfl (by rw [w2,hsz9];show 0+j * 4+4≤c * 4;omega) (by rw [qO];rfl)
  (refine zI<|sRz<|vMz<|vMz ?_;refine lvz (.lssT rfl rfl (by omega)) ?_;refine nNz<|cTz<|zJ<|thenN<|zI<|zM ?_)
  apply CW.pre
  (refine AnyW.anyM [] 14 mixed (by decide +kernel) ?_)
  ((try simp only [tsOf_cons,tsOf_nil,tsOf_app]);refine dvz (.move rfl)<|dvz (.move rfl)<|dvz (.move rfl)<|dvz (.move rfl)<|dvz (.move rfl)<|dvz (.move rfl) ?_;refine dvz (.indexAddrS rfl rfl rfl (by omega)) ?_;apply qD;rfl;rfl;rfl;exact zC;rfl;apply zP;exact zN;exact hrdJ;refine dvz (.move rfl)<|dvz (.move rfl) ?_;refine dvz (.indexAddrS rfl rfl rfl (by omega)) ?_;apply qD;rfl;rfl;rfl;exact zC;rfl;apply zP;exact zN;exact hrdK;refine dvz (.indexAddrS rfl rfl rfl (by omega)) ?_;apply DW.store;rfl;rfl;exact zC;rfl;rfl;apply TSet.head;exact zN;kernel_rfl;exact hW1;apply DW.nil;simp only [fsOf_cons,fsOf_nil,fsOf_app,fsOf_tsOf,fsOf_new])
  try simp only [fsOf_mark,fsOf_cons,fsOf_nil,fsOf_app,fsOf_tsOf,fsOf_new,fsOf_tag,List.append_eq,List.nil_append]
  (refine lvz (.indexAddrS rfl rfl rfl (by omega)) ?_;refine zR rfl rfl .head hW2 ?_;apply zV;refine blkN<|thenN<|zL<|vMz ?_;refine lvz (.addZL rfl rfl (by decide) (by omega)) ?_;refine vMz ?_;refine lvz (.subZL rfl rfl (by decide) (by omega) (by omega)) ?_;refine vAz<|vAz ?_;apply zV)
  apply thenX
  exact ⟨rfl,(k+1,_,_),⟨by omega,hstep,.own hn9 hm9 (by rw [w4,w2,hsz9]) w3 (by rw [wcs_lenN,List.length_set,List.length_set,hLl])⟩,by show l.length - (k+1) < l.length - k;omega,⟨(by have h:((j - 1:Nat):Int)=(l.length:Int) - 1 - ((k+1:Nat):Int):=by { omega };exact congrArg (fun z=>some (Value.int .i64 z)) h),rfl,rfl,trivial⟩,qN _⟩
 ·obtain rfl:=revS_end hrev hge
  (refine zI<|sRz<|vMz<|vMz ?_;refine lvz (.lssF rfl rfl (by omega)) ?_;refine nNz<|cFz<|CW.exit<|thenE<|thenE<|blkE rfl ?_)
  exact inPI (.inr rfl) .nil rfl .nil rfl ⟨rfl,seg,by rw [List.length_reverse];exact hrow,rfl⟩
def wP (l:List Nat) (v:Value) (gs:Fs):Prop:=wM l v gs∨∃ g cur,v=.slice (some ⟨g,0,none⟩) l.length l.length∧gs=[(g,.cells cur 29 (0,0))]∧l.length * 4≤cur.size∧cur.toList.take (l.length * 4)=wcs l∧l.length≤maxLen
theorem wP.form {l:List Nat} {v:Value} {gs:Fs} (h:wP l v gs):∃ p c,v=.slice p l.length c:=by
 rcases h with h|⟨g,cur,rfl,_⟩
 ·unfold wM at h
  exact h.form
 ·exact ⟨_,_,rfl⟩
theorem wP.at {l:List Nat} {v:Value} {g:Fs} {w:World} (h:wP l v g) (hw:∀ p∈g,w.heap[p.1]?=some p.2):RowAt w 4 v l.length (wcs l):=by
 rcases h with h|⟨b,cur,rfl,rfl,hsz,htk,hm⟩
 ·exact wM_at h hw
 ·exact RowAt.us (us:=[]) hw (Nat.le_refl _) hm htk (wcs_lenN l)
theorem wM_cut {l:List Nat} {p:Option Addr} {c k:Nat} {gs:Fs} (h:wM l (.slice p l.length c) gs) (hk:k≤l.length):wP (l.take k) (.slice p k k) gs:=by
 unfold wM at h
 have hlk:(l.take k).length=k:=by rw [List.length_take];omega
 rcases Nat.eq_zero_or_pos l.length with h0|h0
 ·have hl0:=List.length_eq_zero_iff.1 h0
  subst hl0
  obtain rfl:k=0:=by simpa using hk
  generalize hn:([]:List Nat).length=n at h
  generalize hx:wcs []=xs at h
  cases h with
  |nil=>exact .inl .nil
  |own hn hm hc ht hl=>exact .inr ⟨_,_,rfl,rfl,Nat.zero_le _,rfl,Nat.zero_le _⟩
 ·obtain ⟨g,cur,rfl,rfl,hn,hm,hsz,htk⟩:=IsRow.pos h h0
  refine .inr ⟨g,cur,by rw [hlk],rfl,by rw [hlk,hsz];omega,?_,by rw [hlk];omega⟩
  rw [hlk,← wcs_take,← htk,List.take_take,Nat.min_eq_left (by omega)]
def PopR (ws:List Nat) (ms:List UInt8) (n:Nat) (v:Value) (gs:Fs):Prop:=∃ s k t g1 g2 g3,v=.tuple #[.agg #[s,k],t,.int .i64 0]∧gs=g3++(g2++g1)∧wP (ws.take (ws.length - n)) s g1∧bM ms k g2∧wM ((ws.drop (ws.length - n)).reverse) t g3
theorem pop_calls (ws:List Nat) (ms:List UInt8) (n:Nat) (s m:Value) (hn:n≤ws.length) (w:World) (hs:RowAt w 4 s ws.length (wcs ws)) (hm:RowAt w 1 m ms.length (ucs ms)) (hok:okSc ws.length ms.length) :
  Calls Tryz.prog 95 #[.agg #[s,m],.int .i64 (n:Int)] w (RetG w [] (PopR ws ms n)):=by
 have hs0:=hs
 have hm0:=hm
 obtain ⟨p,c,rfl,_,hc⟩:=hs.form
 obtain ⟨p2,c2,rfl,_,hc2⟩:=hm.form
 have hC:∀ w,Calls Tryz.prog 84 #[.agg #[.slice p ws.length c,.slice p2 ms.length c2]] w (Ret w (.int .i64 0)):=fun w=>by
  have h:=scCheck_calls p p2 ws.length c ms.length c2 (by omega) (by omega) w
  rwa [if_pos hok] at h
 have hok2:=hok
 unfold okSc at hok2
 obtain ⟨hn1,hk1,hk2⟩:=hok2
 refine enter (args:=[_,_]) _ [] [] Tryz.func95 rfl Tryz.ntmps95 rfl (by simp) .nil ?_
 (refine sRz ?_;apply zT;rfl;rfl;intro _;apply zU;rfl;intro _;refine vAz<|vAz<|nNz<|zI<|sRz<|ldz rfl (.tail .head) (qF rfl) ?_;apply zS;rfl;rfl;infer_instance;exact .cons rfl .nil;intro w _;exact hC w;refine vAz<|nSz<|vMz ?_;refine lvz (.neF rfl rfl (by omega)) ?_;refine nNz<|cFz<|zJ<|thenN<|zI<|zM<|sRz<|vMz ?_;refine lvz (.lssF rfl rfl (by omega)) ?_;refine vAz<|nNz<|cFz<|sRz<|vMz<|vFz<|ldz rfl (.tail .head) sc_rd0<|lvz (.lenR rfl inferInstance rfl) ?_;refine lvz (.gtrF rfl rfl (by omega)) ?_;refine vAz<|nNz<|cFz<|zJ<|blkN<|thenN<|sRz<|ldz rfl (.tail .head) (qF rfl) ?_)
 (apply LW.callR;rfl;rfl;infer_instance;exact .cons rfl .nil;intro w hs)
 exact copied_calls ws ms _ _ w (hs0.st hs) (hm0.st hs) (by omega) (by omega)
 rintro vo gso ⟨s1,m1,g1,g2,rfl,rfl,h1,h2⟩
 have h1':=h1
 have h2':=h2
 unfold wM at h1'
 unfold bM at h2'
 obtain ⟨q1,k1,rfl⟩:=h1'.form
 obtain ⟨q2,k2,rfl⟩:=h2'.form
 rw [List.append_assoc]
 (apply zU;rfl;intro _;refine zR rfl rfl .head (.whole rfl rfl rfl)<|nSz<|vFz<|ldz rfl .head sc_rd0<|lvz (.lenR rfl inferInstance rfl)<|vMz ?_;refine lvz (.subZ rfl rfl (by omega) (by omega)) ?_;refine vAz<|nSz<|vFz<|ldz rfl .head sc_rd0<|vMz ?_;refine lvz (.cutFrom inferInstance inferInstance rfl rfl (by omega)) ?_)
 refine LW.callR rfl rfl inferInstance (by (exact .cons rfl .nil)) (fun w hst=>CloneW_calls (ws.drop (ws.length - n)) _ w (by
  have h:=(h1'.us (fun p hp=>(hst.own p (qP _ (List.mem_append_right _ (List.mem_append_left _ hp)))).2) (qN _)).drop (k:=ws.length - n) (by omega)
  rw [wcs_drop] at h
  rw [List.length_drop]
  exact h) (by rw [List.length_drop];omega)) ?_
 intro v3 g3 h3
 have h3':=h3
 unfold wM at h3'
 obtain ⟨q3,k3,rfl⟩:=id h3'.form
 (refine vAz<|nSz<|vMz ?_)
 rename_i b2 b4 b8
 have hrl:(ws.drop (ws.length - n)).length≤100000:=by rw [List.length_drop];omega
 replace h3:wM (ws.drop (ws.length - n)) (.slice q3 (ws.drop (ws.length - n)).length k3) g3:=h3
 refine LW.callSt (K:=fun v fs'=>v=.tuple #[]∧∃ g',wM (ws.drop (ws.length - n)).reverse (.slice q3 (ws.drop (ws.length - n)).length k3) g'∧fs'=g'++((b8,.cells #[.slice q1 ws.length k1,.slice q2 ms.length k2] 25 (0,0))::(g2++(g1++[(b4,.cells #[.slice none 0 0,.slice none 0 0] 25 (0,0)),(b2,.cells #[.slice p ws.length c,.slice p2 ms.length c2] 25 (0,0))])))) rfl rfl inferInstance (by (exact .cons rfl .nil)) (fun w' hst=>Calls.mono (reverse_calls _ _ _ _ g3 _ h3 hrl w' hst) fun x w'' ⟨fs',⟨h1,h2⟩,hst⟩=>⟨_,_,h1,⟨rfl,h2⟩,hst⟩) ?_
 rintro _ _ ⟨rfl,g4,h4,rfl⟩
 have hroom:ws.length≤k1:=IsRow.le h1'
 (refine nSz<|vFz<|ldz rfl (.app .head) sc_rd0<|vMz<|vMz ?_;apply LW.v0;rfl;rfl;apply ValP.cutMax;infer_instance;infer_instance;rfl;rfl;rfl;omega;omega;refine vFz ?_;refine zR rfl rfl (.app .head) sc_wr0<|nSz<|ldz rfl (.app .head) (qF rfl)<|vMz ?_;refine zR rfl rfl (.app (.tail (.app (.app .head)))) (.whole rfl rfl rfl)<|vAz<|vAz<|nNz<|zK ?_)
 refine fin (vs:=[.agg #[.slice q1 (ws.length - n) (ws.length - n),.slice q2 ms.length k2],.slice q3 (ws.drop (ws.length - n)).length k3,.int .i64 0]) (g4++(g2++g1)) (.inl rfl) rfl rfl (by (apply zD;apply zH;rfl;apply qE;apply zZ;apply zX;apply zZ;apply zZ;apply zY;exact qF rfl;apply zD;exact zG rfl;apply zD;exact zG rfl;exact zF)) ?_ ⟨_,_,_,g1,g2,g4,rfl,rfl,wM_cut h1 (by omega),h2,h4⟩
 exact List.Sublist.append_left (List.Sublist.append_left (qQ _ _) _ |>.cons _) _
end
section
open CK (dataC)
theorem number_calls (l:List UInt8) (v:Value) (hl:l.length≤32) (w:World) (h:RowAt w 1 v l.length (ucs l)):Calls Tryz.prog 131 #[v] w (Ret w (wv (bev l))):=by
 obtain ⟨p,c,rfl,_,_⟩:=id h.form
 have hR:=fun w' {fs:Fs} (hst:St w [] fs w')=>Read_calls _ l w' (h.st hst) hl
 refine enter (args:=[_]) _ [] [] Tryz.func131 rfl Tryz.ntmps131 rfl (by simp) .nil ?_
 (refine sRz ?_;apply LW.allocW;rfl;intro _;refine nSz<|vMz ?_;apply zS;rfl;rfl;infer_instance;exact .cons rfl .nil;intro w _;exact hR w (by assumption);refine vMz ?_;refine vEz ?_;refine vEz ?_;apply LW.allocW;rfl;intro _;refine zR rfl rfl .head (.whole rfl rfl rfl)<|vAz<|nSz<|vMz ?_;refine lvz (.eqT rfl rfl (by omega)) ?_;apply zS;rfl;rfl;infer_instance;exact .cons rfl .nil;intro w _;exact need_true w;refine nSz<|ldz rfl .head (qF rfl) ?_;refine zR rfl rfl (.tail .head) (.whole rfl rfl rfl)<|nNz<|zK ?_)
 (apply finR;exact .inl rfl;rfl;rfl;rfl;apply zD;apply zH;rfl;apply qE;apply zX;apply zY;exact qF rfl;exact zF)
 rfl
theorem dataL_len (bs:List UInt8) (i:Int):(CK.dataL bs i).length≤32:=by
 unfold CK.dataL
 split
 ·rw [CK.datF_len]
  exact CK.szOf_le _
 ·exact Nat.zero_le _
theorem dataC_len (bs:List UInt8) (i:Int):(dataC bs i).length≤32:=by
 unfold CK.dataC
 split
 ·exact dataL_len bs i
 ·exact Nat.zero_le _
section rd
variable {P : Program} {T E : TypeId} {fr : Nat × Nat} {m : MaV}
theorem ma_rd0 [AgI P T false]:Rd P T (.cells (mca m) E fr) 0 m.fr.code:=Rd.one rfl
theorem ma_rd1 [AgI P T false]:Rd P T (.cells (mca m) E fr) 1 (.int .i64 m.fr.pc):=Rd.one rfl
theorem ma_rd2s [AgI P T false]:Rd P T (.cells (mca m) E fr) 2 m.fr.stk:=Rd.one rfl
end rd
attribute [local irreducible] SL.inP
def RowK (b:Nat) (m:MaV) (L:FrL) (ws:List Nat) (rest:Fs):Out:=fun x fs'=>x=.returned (.bool true)∧∃ s k gs',FrO (m.fr.setR m.fr.gas s k) (L.setW ws) gs'∧fs'=(b,maO (m.setF (m.fr.setR m.fr.gas s k)))::(gs'++rest)
theorem row_push (w0:World) (S:List Nat) (b:Nat) (m:MaV) (L:FrL) (gs rest:Fs) (op:Nat) (h1:96≤op) (h2:op≤127) (hok:okSc L.ws.length L.ms.length) (hf:L.ws.length+1≤64) (hfr:FrO m.fr L gs) (w:World) (hs:St w0 S ((b,maO m)::(gs++rest)) w) :
  Calls Tryz.prog 94 #[.pointer (some ⟨b,0,none⟩),.int .u8 (op:Int)] w (fun x w'=>∃ fs',RowK b m L (L.ws++[bev (dataC L.cl m.fr.pc)]) rest x fs'∧St w0 S fs' w'):=by
 obtain ⟨g1,g2,g3,g4,g5,hp,hall⟩:=hfr
 replace hs:St w0 S ((b,maO m)::(g1++(g2++(g3++(g4++g5)))++rest)) w:=hs.perm (List.Perm.cons _ (hp.append_right rest))
 clear hp
 obtain ⟨r1,r2,r3,r4,r5⟩:=id hall
 unfold bM at r1 r3
 unfold wM at r2
 obtain ⟨fr,e0,e1,e2,e3,took,kind,aop,awords,adata⟩:=m
 obtain ⟨code,pc,stk,mem,gas,self,frm,val,inp,back,stat⟩:=fr
 dsimp only at r1 r2 r3
 obtain ⟨q1,k1,rfl⟩:=id r1.form
 obtain ⟨q2,k2,rfl⟩:=id r2.form
 obtain ⟨q3,k3,rfl⟩:=id r3.form
 obtain ⟨us1,hbl1,hin1,hrows1⟩:=rowU_own r1
 obtain ⟨us2,hbl2,hin2,hrows2⟩:=rowU_own r2
 obtain ⟨us3,hbl3,hin3,hrows3⟩:=rowU_own r3
 dsimp only
 obtain ⟨x,hx⟩:∃ x,bev (dataC L.cl pc)=x:=⟨_,rfl⟩
 rw [hx]
 refine calls_anyO (calls_inlineP (K:=anyO (RowK b ⟨⟨.slice q1 L.cl.length k1,pc,.slice q2 L.ws.length k2,.slice q3 L.ms.length k3,gas,self,frm,val,inp,back,stat⟩,e0,e1,e2,e3,took,kind,aop,awords,adata⟩ L (L.ws++[x]) rest)) (args:=[_,_]) Tryz.func94 rfl Tryz.ntmps94 rfl ?_ hs)
 (refine sRz<|vAz<|nSz<|vMz<|vNz<|vFz<|vFz<|ldz rfl .head ma_rd2 ?_;apply zU;rfl;intro _;refine zR rfl rfl .head (.whole rfl rfl rfl)<|vAz<|nNz<|zI<|zM<|sRz<|vMz ?_;refine lvz (.geqT rfl rfl (by omega)) ?_;refine vMz<|gTz<|vMz<|gTz ?_;refine lvz (.leqT rfl rfl (by omega)) ?_;refine pTz<|vAz<|nNz<|cTz ?_)
 apply CW.pre
 (refine AnyW.anyM [(11,bM (dataC L.cl pc)),(14,fun r gs=>∃ o,r=.tuple #[o,.int .i64 0]∧ScO (L.ws++[x]) L.ms o gs)] 19 mixed (by decide +kernel) ?_)
 ((try simp only [tsOf_cons,tsOf_nil,tsOf_app]);apply qD;rfl;rfl;rfl;exact zC;rfl;apply zP;exact zN;exact qF rfl;refine dvz (.move rfl)<|dvz (.nilCheck rfl)<|dvz (.fieldAddr rfl rfl)<|dvz (.fieldAddr rfl rfl) ?_;apply qD;rfl;rfl;rfl;exact zC;rfl;apply zO;apply zP;exact zN;exact ma_rd0;refine dvz (.move rfl)<|dvz (.nilCheck rfl)<|dvz (.fieldAddr rfl rfl)<|dvz (.fieldAddr rfl rfl) ?_;apply qD;rfl;rfl;rfl;exact zC;rfl;apply zO;apply zP;exact zN;exact ma_rd1)
 dsimp only
 refine DW.manyA us1 rfl rfl rfl (by (exact zC)) rfl inferInstance (by (exact .cons rfl (.cons rfl .nil))) (by rw [List.flatMap_cons,hbl1];exact List.append_nil _) (fun p hp=>AncT.lie (by (refine AncT.cons ?_ ?_;exact zN;refine AncT.cons ?_ ?_;exact zN;refine AncT.app ?_ ?_;refine AncT.app ?_ ?_;exact AncT.tsOf;refine AncT.app ?_ ?_;exact AncT.tsOf;refine AncT.app ?_ ?_;exact AncT.tsOf;refine AncT.app ?_ ?_;exact AncT.tsOf;exact AncT.tsOf;exact AncT.tsOf)) (by have hp:=hin1 p hp;simp [fsOf,tsOf,tsNew,tsTag,markAll,Function.comp_def,hp])) (fun w _ hu=>CK.Data_calls L.cl pc _ w (hrows1 w hu)) ?_
 intro vD gD hD
 have hD':=hD
 obtain ⟨q4,k4,rfl⟩:=id (IsRow.form hD')
 obtain ⟨us4,hbl4,hin4,hrows4⟩:=rowU_own hD'
 (try simp only [markAll_cons,markAll_app,markAll_tsOf,markAll_tag,markAll_new,markAll_nil])
 ((try simp only [tsOf_cons,tsOf_nil,tsOf_app]))
 refine DW.callA us4 (v:=wv x) rfl rfl rfl (by (exact zC)) rfl inferInstance (by (exact .cons rfl .nil)) (by rw [List.flatMap_cons,hbl4];exact List.append_nil _) (fun p hp=>AncT.lie (by (refine AncT.app ?_ ?_;refine AncT.new ?_;kernel_rfl;refine AncT.cons ?_ ?_;exact zN;refine AncT.cons ?_ ?_;exact zN;refine AncT.app ?_ ?_;refine AncT.app ?_ ?_;refine AncT.tag ?_;exact zN;refine AncT.app ?_ ?_;refine AncT.tag ?_;exact zN;refine AncT.app ?_ ?_;refine AncT.tag ?_;exact zN;refine AncT.app ?_ ?_;refine AncT.tag ?_;exact zN;refine AncT.tag ?_;exact zN;refine AncT.tag ?_;exact zN)) (by have hp:=hin4 p hp;simp [fsOf,tsOf,tsNew,tsTag,markAll,Function.comp_def,hp])) (fun w _ hu=>by rw [← hx];exact number_calls _ _ (dataC_len _ _) w (hrows4 w hu)) ?_
 (try simp only [markAll_cons,markAll_app,markAll_tsOf,markAll_tag,markAll_new,markAll_nil])
 ((try simp only [tsOf_cons,tsOf_nil,tsOf_app]);apply DW.layA;rfl;rfl;rfl;exact zC;infer_instance;infer_instance;rfl;rfl;rfl;rfl;rfl;intro _)
 rename_i b5 b33
 have hrow33:∀ w':World,w'.heap[b33]?=some (.cells (wc x) 29 (0,0))→RowAt w' 4 (.slice (some ⟨b33,0,none⟩) 1 1) 1 (wcs [x]):=fun w' h=>row_cells h rfl rfl (by decide)
 refine DW.manyA (us2++(us3++[(b33,.cells (wc x) 29 (0,0))])) rfl rfl rfl (by (exact zC)) rfl inferInstance (by (exact .cons rfl (.cons rfl .nil))) ?_ (fun p hp=>AncT.lie (by (refine AncT.cons ?_ ?_;kernel_rfl;refine AncT.app ?_ ?_;refine AncT.tag ?_;kernel_rfl;refine AncT.cons ?_ ?_;exact zN;refine AncT.cons ?_ ?_;exact zN;refine AncT.app ?_ ?_;refine AncT.app ?_ ?_;refine AncT.tag ?_;exact zN;refine AncT.app ?_ ?_;refine AncT.tag ?_;exact zN;refine AncT.app ?_ ?_;refine AncT.tag ?_;exact zN;refine AncT.app ?_ ?_;refine AncT.tag ?_;exact zN;refine AncT.tag ?_;exact zN;refine AncT.tag ?_;exact zN)) ?_) (fun w _ hu=>?_) ?_
 ·rw [List.flatMap_cons,List.flatMap_cons,List.map_append,List.map_append,← hbl2,← hbl3,← blocks_sl ⟨q2,_,k2,rfl⟩,← blocks_sl ⟨q3,_,k3,rfl⟩]
  show ((blocksN 3 _++(blocksN 3 _++[]))++([b33]++[]))=_
  simp only [List.append_nil,List.append_assoc]
  rfl
 ·rcases List.mem_append.1 hp with hp|hp
  ·have hp:=hin2 p hp
   simp [fsOf,tsOf,tsNew,tsTag,markAll,Function.comp_def,hp]
  ·rcases List.mem_append.1 hp with hp|hp
   ·have hp:=hin3 p hp
    simp [fsOf,tsOf,tsNew,tsTag,markAll,Function.comp_def,hp]
   ·obtain rfl:=List.mem_singleton.1 hp
    simp [fsOf,tsOf,tsNew,tsTag,markAll,Function.comp_def]
 ·exact push_ok L.ws L.ms [x] _ _ _ w (hrows2 w fun q hq=>hu q (List.mem_append_left _ hq)) (hrows3 w fun q hq=>hu q (List.mem_append_right _ (List.mem_append_left _ hq))) (hrow33 w (hu _ (List.mem_append_right _ (List.mem_append_right _ List.mem_cons_self)))) hok (by show 1≤100000;omega) hf
 rintro vP gP ⟨o,rfl,s1,m1,gg1,gg2,rfl,rfl,hw1,hb1⟩
 have hw1':=hw1
 have hb1':=hb1
 unfold wM at hw1'
 unfold bM at hb1'
 obtain ⟨q5,k5,rfl⟩:=hw1'.form
 obtain ⟨q6,k6,rfl⟩:=hb1'.form
 (try simp only [markAll_cons,markAll_app,markAll_tsOf,markAll_tag,markAll_new,markAll_nil])
 ((try simp only [tsOf_cons,tsOf_nil,tsOf_app]);refine dvz (.move rfl) ?_;refine dvz (.extractN rfl rfl) ?_;refine dvz (.extractN rfl rfl) ?_;apply DW.store;rfl;rfl;exact zC;rfl;rfl;apply TSet.app;apply TSet.tail;apply TSet.app;apply TSet.head;exact zN;kernel_rfl;apply Wr.whole;rfl;rfl;rfl;apply DW.nil;simp only [fsOf_cons,fsOf_nil,fsOf_app,fsOf_tsOf,fsOf_new])
 try simp only [fsOf_mark,fsOf_cons,fsOf_nil,fsOf_app,fsOf_tsOf,fsOf_new,fsOf_tag,List.append_eq,List.nil_append]
 (refine vAz ?_;apply zV;refine blkN<|thenN<|sRz<|vMz ?_;refine lvz (.eqT rfl rfl (by omega)) ?_;apply zS;rfl;rfl;infer_instance;exact .cons rfl .nil;intro w _;exact need_true w;refine nSz<|vMz<|ldz rfl (.app (.tail (.app .head))) (qF rfl)<|vNz<|vFz<|vFz ?_;refine zR rfl rfl (.app (.tail (.app (.tail .head)))) (ma_wr2 rfl rfl rfl rfl)<|nSz<|vAz<|nNz<|zK ?_)
 refine inPI (.inl rfl) .nil rfl (by (apply zD;exact zG rfl;exact zF)) rfl ⟨_,⟨rfl,.slice q5 (L.ws++[x]).length k5,.slice q6 L.ms.length k6,g1++(gg1++(gg2++(g4++g5))),⟨g1,gg1,gg2,g4,g5,.refl _,hall.1,hw1,hb1,hall.2.2.2.1,hall.2.2.2.2⟩,rfl⟩,?_⟩
 simp only [List.append_assoc,List.cons_append,List.nil_append]
 exact subp_ix [gg2,gg1,[_],gD,[_],[_],g1,g2,g3,g4,g5] (xs:=[5,6,1,0,9,10]) (ys:=[0,1,2,3,4,5,6,7,8,9,10]) rest rfl
theorem row_none (w0:World) (S:List Nat) (b:Nat) (m:MaV) (rest:Fs) (op:Nat) (h1:¬ (96≤op∧op≤127)) (h2:¬ (128≤op∧op≤143)) (h3:¬ (144≤op∧op≤159)) (hsl:∃ p n c,m.fr.stk=.slice p n c) (hml:∃ p n c,m.fr.mem=.slice p n c) (w:World) (hs:St w0 S ((b,maO m)::rest) w) :
  Calls Tryz.prog 94 #[.pointer (some ⟨b,0,none⟩),.int .u8 (op:Int)] w (fun x w'=>∃ fs',(x=.returned (.bool false)∧fs'=(b,maO m)::rest)∧St w0 S fs' w'):=by
 obtain ⟨fr,e0,e1,e2,e3,took,kind,aop,awords,adata⟩:=m
 obtain ⟨code,pc,stk,mem,gas,self,frm,val,inp,back,stat⟩:=fr
 dsimp only at hsl hml
 obtain ⟨q2,n2,k2,rfl⟩:=hsl
 obtain ⟨q3,n3,k3,rfl⟩:=hml
 refine calls_anyO (calls_inlineP (K:=anyO fun x fs'=>x=.returned (.bool false)∧fs'=(b,maO ⟨⟨code,pc,.slice q2 n2 k2,.slice q3 n3 k3,gas,self,frm,val,inp,back,stat⟩,e0,e1,e2,e3,took,kind,aop,awords,adata⟩)::rest) (args:=[_,_]) Tryz.func94 rfl Tryz.ntmps94 rfl ?_ hs)
 rcases (by omega:op < 96∨(96≤op∧127 < op∧128≤op∧143 < op∧144≤op∧159 < op)) with hlt|⟨g1,g2,g3,g4,g5,g6⟩
 ·(refine sRz<|vAz<|nSz<|vMz<|vNz<|vFz<|vFz<|ldz rfl .head ma_rd2 ?_;apply zU;rfl;intro _;refine zR rfl rfl .head (.whole rfl rfl rfl)<|vAz<|nNz<|zI<|zM<|sRz<|vMz ?_;refine lvz (.geqF rfl rfl (by omega)) ?_;refine vMz<|gFz<|gFz<|pFz<|vAz<|nNz<|cFz<|sRz<|vMz ?_;refine lvz (.geqF rfl rfl (by omega)) ?_;refine vMz<|gFz<|gFz<|pFz<|vAz<|nNz<|cFz<|sRz<|vMz ?_;refine lvz (.geqF rfl rfl (by omega)) ?_;refine vMz<|gFz<|gFz<|pFz<|vAz<|nNz<|cFz<|sRz<|vAz<|nNz<|zK<|blkR<|thenR ?_)
  refine inPI (.inl rfl) .nil rfl (by (apply zD;exact zG rfl;exact zF)) rfl ⟨_,⟨rfl,rfl⟩,_,qR _ (qN _),.refl _⟩
 ·(refine sRz<|vAz<|nSz<|vMz<|vNz<|vFz<|vFz<|ldz rfl .head ma_rd2 ?_;apply zU;rfl;intro _;refine zR rfl rfl .head (.whole rfl rfl rfl)<|vAz<|nNz<|zI<|zM<|sRz<|vMz ?_;refine lvz (.geqT rfl rfl (by omega)) ?_;refine vMz<|gTz<|vMz<|gTz ?_;refine lvz (.leqF rfl rfl (by omega)) ?_;refine pTz<|vAz<|nNz<|cFz<|sRz<|vMz ?_;refine lvz (.geqT rfl rfl (by omega)) ?_;refine vMz<|gTz<|vMz<|gTz ?_;refine lvz (.leqF rfl rfl (by omega)) ?_;refine pTz<|vAz<|nNz<|cFz<|sRz<|vMz ?_;refine lvz (.geqT rfl rfl (by omega)) ?_;refine vMz<|gTz<|vMz<|gTz ?_;refine lvz (.leqF rfl rfl (by omega)) ?_;refine pTz<|vAz<|nNz<|cFz<|sRz<|vAz<|nNz<|zK<|blkR<|thenR ?_)
  refine inPI (.inl rfl) .nil rfl (by (apply zD;exact zG rfl;exact zF)) rfl ⟨_,⟨rfl,rfl⟩,_,qR _ (qN _),.refl _⟩
end
section
open CK (dataC)
def FrV.setPc (f:FrV) (p:Int):FrV:={ f with pc:=p }
section wr
variable {P : Program} {T E : TypeId} {fr : Nat × Nat} {m : MaV} {x : OpV}
theorem ma_wr1 {z:Value} {p:Int} [InfoI P T 1 z]:Wr P T (.cells (mca m) E (0,0)) 1 (.int .i64 p) (.cells (mca (m.setF (m.fr.setPc p))) E (0,0)):=Wr.cells (n:=1) (z:=z) rfl rfl (by show 1+1≤23;omega) rfl
theorem op_rd2 [AgI P T false]:Rd P T (.cells (opc x) E fr) 2 (.int .i64 (x.tk:Int)):=Rd.one rfl
theorem op_rd3 [AgI P T false]:Rd P T (.cells (opc x) E fr) 3 (.int .i64 (x.ly:Int)):=Rd.one rfl
theorem op_rd4 [AgI P T false]:Rd P T (.cells (opc x) E fr) 4 (.int .i64 (x.dt:Int)):=Rd.one rfl
end wr
theorem op_wrW {P:Program} {T E:TypeId} {x:OpV} {z:Value} {cs:Array Value} [InfoI P T 5 z] (h:cs.size=5):Wr P T (.cells cs E (0,0)) 0 (.agg (opc x)) (.cells (opc x) E (0,0)):=Wr.whole h rfl rfl
attribute [local irreducible] SL.inP opOf opX gasB
theorem push_op {op:Nat} (h1:96≤op) (h2:op≤127):(opOf op).isSome=true∧(opX op).tk=0∧(opX op).ly=1∧gasB op=3:=by
 have hr:opOf op=some ⟨op,[80,85,83,72]++itoa (op - 95),0,1,op - 95⟩:=by
  unfold opOf rowOp
  rw [if_pos ⟨h1,h2⟩]
 refine ⟨by rw [hr];rfl,by unfold opX;rw [hr];rfl,by unfold opX;rw [hr];rfl,?_⟩
 unfold gasB
 repeat rw [if_neg (by omega)]
theorem step_push (w0:World) (S:List Nat) (b:Nat) (f:FrV) (L:FrL) (e0 e1 e2 e3:Nat) (gs rest:Fs) (hF:okF f L) (h1:96≤opF f L) (h2:opF f L≤127) (hg:3≤f.gas) (hf:L.ws.length+1≤64) (hfr:FrO f L gs) (w:World) (hs:St w0 S ((b,maO (ma0 f e0 e1 e2 e3))::(gs++rest)) w) :
  Calls Tryz.prog 42 #[.pointer (some ⟨b,0,none⟩)] w (fun x w'=>∃ fs',(x=.returned (.tuple #[])∧∃ s k gs',FrO ((f.setR (f.gas - 3) s k).setPc ((min (f.pc.toNat+1+(opX (opF f L)).dt) L.cl.length:Nat):Int)) (L.setW (L.ws++[bev (dataC L.cl f.pc)])) gs'∧fs'=(b,maO (ma0 ((f.setR (f.gas - 3) s k).setPc ((min (f.pc.toNat+1+(opX (opF f L)).dt) L.cl.length:Nat):Int)) e0 e1 e2 e3))::(gs'++rest))∧St w0 S fs' w'):=by
 obtain ⟨code,pc,stk,mem,gas,self,frm,val,inp,back,stat⟩:=f
 obtain ⟨g1,g2,g3,g4,g5,hp,r1,r2,r3,r4,r5⟩:=id hfr
 unfold bM at r1 r3
 unfold wM at r2
 dsimp only at r1 r2 r3
 obtain ⟨q1,k1,rfl⟩:=id r1.form
 obtain ⟨q2,k2,rfl⟩:=id r2.form
 obtain ⟨q3,k3,rfl⟩:=id r3.form
 obtain ⟨f,hfe⟩:∃ f:FrV,f=⟨.slice q1 L.cl.length k1,pc,.slice q2 L.ws.length k2,.slice q3 L.ms.length k3,gas,self,frm,val,inp,back,stat⟩:=⟨_,rfl⟩
 rw [← hfe] at hF h1 h2 hg hfr hs ⊢
 have hst1:f.code=.slice q1 L.cl.length k1:=by rw [hfe]
 have hst2:f.stk=.slice q2 L.ws.length k2:=by rw [hfe]
 clear hfe
 have hrdS:∀ {g E fr},Rd Tryz.prog 23 (.cells (mca ((ma0 f e0 e1 e2 e3).setGas g)) E fr) 2 (.slice q2 L.ws.length k2):=fun {g E fr}=>by rw [← hst2];exact ma_rd2s (m:=(ma0 f e0 e1 e2 e3).setGas g)
 have hrdC:∀ {g E fr},Rd Tryz.prog 22 (.cells (mca ((ma0 f e0 e1 e2 e3).setGas g)) E fr) 0 (.slice q1 L.cl.length k1):=fun {g E fr}=>by rw [← hst1];exact ma_rd0 (m:=(ma0 f e0 e1 e2 e3).setGas g)
 obtain ⟨pn,hpn⟩:∃ pn:Nat,f.pc=(pn:Int):=by
  rcases okF_pc hF with h|h
  ·exact ⟨_,h⟩
  ·exact ⟨f.pc.toNat,by omega⟩
 have hpl:pn≤L.cl.length:=by
  rcases okF_pc hF with h|h<;>omega
 have hcl2:L.cl.length≤200:=hF.2.2.1
 have hrdP:∀ {g E fr},Rd Tryz.prog 3 (.cells (mca ((ma0 f e0 e1 e2 e3).setGas g)) E fr) 1 (.int .i64 (pn:Int)):=fun {g E fr}=>by rw [← hpn];exact ma_rd1 (m:=(ma0 f e0 e1 e2 e3).setGas g)
 have hpt:f.pc.toNat=pn:=by rw [hpn];exact Int.toNat_natCast pn
 rw [hpt]
 have hgl:f.gas < 18446744073709551616:=by have:=hF.1.2.2;omega
 have hok:okSc L.ws.length L.ms.length:=hF.2.2.2.1
 have hrowsF:∀ w',(∀ q∈gs,w'.heap[q.1]?=some q.2)→FrRows w' f L:=fun w' h=>hfr.us h
 have hsl:=hfr.sl
 obtain ⟨op,hop⟩:∃ op,opF f L=op:=⟨_,rfl⟩
 have hN:∀ w',(∀ q∈gs,w'.heap[q.1]?=some q.2)→Calls Tryz.prog 82 #[frv f] w' (Ret w' (.int .u8 (op:Int))):=fun w' h=>by
  have h:=next_calls f L (okF_pc hF) w' (hrowsF w' h)
  rwa [hop] at h
 rw [hop] at h1 h2 ⊢
 obtain ⟨o1,o2,o3,o4⟩:=push_op h1 h2
 have o5:(opX op).dt≤32:=by rw [opX_dt];exact CK.szOf_le _
 obtain ⟨e,hOf,he⟩:=OfX_calls op (by omega) w
 rw [if_pos o1] at he
 subst he
 have hBs:∀ w',Calls Tryz.prog 93 #[.int .u8 (op:Int)] w' (Ret w' (.tuple #[.int .u64 3,.int .i64 0])):=fun w'=>by
  have h:=Base_calls op (by omega) w'
  obtain ⟨y,hy⟩:=Option.isSome_iff_exists.1 o1
  rw [hy,o4] at h
  exact h
 refine calls_anyO (calls_inlineP (K:=anyO fun x fs'=>x=.returned (.tuple #[])∧∃ s k gs',FrO ((f.setR (f.gas - 3) s k).setPc ((min (pn+1+(opX op).dt) L.cl.length:Nat):Int)) (L.setW (L.ws++[bev (dataC L.cl f.pc)])) gs'∧fs'=(b,maO (ma0 ((f.setR (f.gas - 3) s k).setPc ((min (pn+1+(opX op).dt) L.cl.length:Nat):Int)) e0 e1 e2 e3))::(gs'++rest)) (args:=[_]) Tryz.func42 rfl Tryz.ntmps42 rfl ?_ hs)
 (refine sRz<|vMz<|vNz<|vFz<|ldz rfl .head ma_rdF ?_;apply zS;rfl;rfl;infer_instance;exact .cons rfl .nil;intro w _;rename_i hst;(exact hN w (st_ou hst (by (repeat (first|exact qN _|exact qQ _ _|apply qR|apply List.sublist_append_of_sublist_right)))));refine vAz<|nSz<|vMz ?_;apply zS;rfl;rfl;infer_instance;exact .cons rfl .nil;intro w _;exact hOf w;refine vMz ?_;refine vEz ?_;refine vEz ?_;apply zU;rfl;intro _;apply zR;rfl;rfl;apply qA;apply op_wrW;rfl;refine vAz<|nSz<|vMz ?_;refine lvz (.eqT rfl rfl (by omega)) ?_;refine vMz<|gTz<|vMz<|gTz ?_;refine lvz (.neT rfl rfl (by omega)) ?_;refine pTz ?_;apply zS;rfl;rfl;infer_instance;exact .cons rfl .nil;intro w _;exact need_true w;refine nSz<|vMz ?_;apply zS;rfl;rfl;infer_instance;exact .cons rfl .nil;intro w _;exact hBs w;refine vMz ?_;refine vEz ?_;refine vEz ?_;refine vAz<|vAz<|nSz<|vMz<|vMz ?_;apply LW.lay1;rfl;infer_instance;infer_instance;rfl;rfl;rfl;rfl;rfl;rfl;intro _)
 rename_i b3 b39
 have hsp:spendM (ma0 f e0 e1 e2 e3) [3]=some ((ma0 f e0 e1 e2 e3).setGas (f.gas - 3)):=if_pos (by show 3+0≤f.gas;omega)
 refine LW.perm (fs':=(b,maO (ma0 f e0 e1 e2 e3))::(b39,.cells #[.int .u64 3] 26 (0,0))::(b3,.cells (opc (opX op)) 86 (0,0))::(gs++rest)) (List.perm_middle (l₁:=[_,_])).symm ?_
 refine LW.callP (K:=MaK b (ma0 f e0 e1 e2 e3) (spendM (ma0 f e0 e1 e2 e3) [3]) _) rfl rfl inferInstance (by (exact .cons rfl (.cons rfl .nil))) rfl (fun fs h=>by rw [hsp] at h;cases h.1) (fun w' hst=>spend_calls w0 S b _ [3] hgl _ _ w' hst (fun w2 h2=>row_cells (h2.own (b39,_) (List.Mem.tail _ (List.Mem.head _))).2 rfl rfl (by simp [maxLen]))) ?_ ?_
 rotate_left
 ·rintro ch fs' h
  rw [hsp] at h;cases h.1
 rintro v fs' h
 rw [hsp] at h
 obtain ⟨h,rfl⟩:=h
 cases h
 (refine nSz<|vMz<|vNz<|vFz<|vFz<|vFz<|ldz rfl .head hrdS<|lvz (.lenR rfl inferInstance rfl)<|vAz<|nSz<|vMz<|vFz<|ldz rfl (.tail (.tail .head)) op_rd2 ?_;refine lvz (.geqT rfl rfl (by omega)) ?_;refine vMz<|gTz<|vMz<|gTz<|vFz<|gTz<|ldz rfl (.tail (.tail .head)) op_rd2<|gTz ?_;refine lvz (.subZ rfl rfl (by omega) (by omega)) ?_;refine gTz<|vFz<|gTz<|ldz rfl (.tail (.tail .head)) op_rd3<|gTz ?_;refine lvz (.addZ rfl rfl (by omega)) ?_;refine gTz ?_;refine lvz (.leqT rfl rfl (by omega)) ?_;refine pTz ?_;apply zS;rfl;rfl;infer_instance;exact .cons rfl .nil;intro w _;exact need_true w;refine nNz<|zI ?_)
 apply CW.pre
 (refine AnyW.anyM [] 15 mixed (by decide +kernel) ?_)
 ((try simp only [tsOf_cons,tsOf_nil,tsOf_app]);refine dvz (.move rfl)<|dvz (.nilCheck rfl)<|dvz (.fieldAddr rfl rfl)<|dvz (.fieldAddr rfl rfl) ?_;apply qD;rfl;rfl;rfl;exact zC;rfl;apply zP;exact zN;exact hrdP;refine dvz (.addZL rfl rfl (by decide) (by omega)) ?_;refine dvz (.fieldAddr rfl rfl) ?_;apply qD;rfl;rfl;rfl;exact zC;rfl;apply zO;apply zO;apply zP;exact zN;exact op_rd4;refine dvz (.addZ rfl rfl (by omega)) ?_;refine dvz (.move rfl)<|dvz (.nilCheck rfl)<|dvz (.fieldAddr rfl rfl)<|dvz (.fieldAddr rfl rfl) ?_;apply qD;rfl;rfl;rfl;exact zC;rfl;apply zP;exact zN;exact hrdC;refine dvz (.lenR rfl inferInstance rfl) ?_;apply DW.nil;simp only [fsOf_cons,fsOf_nil,fsOf_app,fsOf_tsOf,fsOf_new])
 try simp only [fsOf_mark,fsOf_cons,fsOf_nil,fsOf_app,fsOf_tsOf,fsOf_new,fsOf_tag,List.append_eq,List.nil_append]
 (refine lvz (.minZ rfl rfl)<|vAz<|nNz<|zI<|sRz<|vMz<|vMz ?_)
 refine LW.perm (fs':=(b,maO ((ma0 f e0 e1 e2 e3).setGas (f.gas - 3)))::(gs++([(b39,.cells #[.int .u64 3] 26 (0,0)),(b3,.cells (opc (opX op)) 86 (0,0))]++rest))) (List.Perm.cons _ (List.perm_append_comm_assoc gs [_,_] rest)) ?_
 refine LW.callSt (K:=fun v fs'=>RowK b ((ma0 f e0 e1 e2 e3).setGas (f.gas - 3)) L (L.ws++[bev (dataC L.cl f.pc)]) ([(b39,.cells #[.int .u64 3] 26 (0,0)),(b3,.cells (opc (opX op)) 86 (0,0))]++rest) (.returned v) fs') rfl rfl inferInstance (by (exact .cons rfl (.cons rfl .nil))) (fun w' hst=>Calls.mono (row_push w0 S b ((ma0 f e0 e1 e2 e3).setGas (f.gas - 3)) L gs _ op h1 h2 hok hf hfr w' hst) fun x w'' ⟨fs',hk,hst⟩=>⟨.bool true,fs',hk.1,by { have h:=hk;rw [hk.1] at h;exact h },hst⟩) ?_
 rintro v fs' ⟨hv,s,k,gs',hfr',rfl⟩
 cases hv
 (refine nNz<|cTz<|sRz<|vMz<|vMz<|vNz<|vFz<|vFz ?_;apply zR;rfl;rfl;apply qA;apply ma_wr1 (z:=.int .i64 0);refine nNz<|zK<|thenR ?_)
 refine inPI (.inl rfl) .nil rfl .nil rfl ⟨_,⟨rfl,s,k,gs',hfr',rfl⟩,_,?_,.refl _⟩
 exact List.Sublist.cons_cons _ (List.Sublist.append_left (.cons _ (.cons _ (.refl _))) gs')
end
section
attribute [local irreducible] SL.inP SL.inD SL.outD
theorem tries_bound (w0:World) (S:List Nat) (f:FuncId) (first:Array Value) (K:Out) (hK:TryK K) (hF:FnI Tryz.prog f) (own rest:Fs) (w:World)
  (hc:∀ rest w',St w0 S (own++rest) w'→Calls Tryz.prog f first w' (fun x w''=>∃ fs',(∃ own',K x own'∧fs'=own'++rest)∧St w0 S fs' w'')) (hs:St w0 S (own++rest) w) :
  Calls Tryz.prog 41 #[.func (.func f) first #[]] w (fun x w'=>∃ fs',(∃ ok own',x=.returned (.bool ok)∧K (match ok with|true=>.returned (.tuple #[])|false=>.panicked failC) own'∧fs'=own'++rest)∧St w0 S fs' w'):=by
 refine calls_inlineD (args:=[_]) Tryz.func41 rfl Tryz.ntmps41 rfl ?_ hs
 (refine sRz ?_;apply LW.alloc1;rfl;rfl;intro _;refine nSz ?_;apply LW.v0;rfl;rfl;apply ValP.makeFunc;exact ArgsOk.nil;exact .cons rfl .nil)
 rename_i bok
 apply LW.defer
 rfl
 rfl
 (apply zV;refine thenM<|sRz<|vMz ?_)
 refine LW.perm (fs':=own++(bok,.cells #[.bool false] 4 (0,0))::rest) List.perm_middle ?_
 refine LW.callP (K:=fun x fs'=>∃ own',K x own'∧fs'=own'++(bok,.cells #[.bool false] 4 (0,0))::rest) rfl rfl hF (by (exact ArgsOk.nil)) (aas:=first.toList) (by simp) (fun fs ⟨own',h,_⟩=>by rcases hK _ _ h with h|h<;>cases h) (fun w' hst=>by simpa using hc _ w' hst) ?_ ?_
 ·rintro v fs' ⟨own',hKv,rfl⟩
  obtain rfl:v=.tuple #[]:=by
   rcases hK _ _ hKv with h|h
   ·exact Ending.returned.inj h
   ·cases h
  refine LW.perm (fs':=(bok,.cells #[.bool false] 4 (0,0))::(own'++rest)) List.perm_middle.symm ?_
  (refine nSz ?_;apply zR;rfl;rfl;apply qA;apply Wr.cells;rfl;rfl;simp only [wc,List.size_toArray,List.length_cons,List.length_nil];omega;simp only [fillC,wc,wrCells,Value.cells,qK,qH,qM,qL,Nat.reduceAdd,Nat.reduceMul,qO,Nat.mul_one];rfl;refine nNz<|zK ?_)
  refine outDI (.inl rfl) rfl fun a w2 s2=>?_
  refine leaves_clo (K:=fun e fs'=>e=.returned (.tuple #[])∧fs'=(bok,.cells #[.bool true] 4 (0,0))::(own'++rest)) inferInstance (fun h=>by cases h) (tries1_idle w0 S bok true (own'++rest) w2 s2.st) (fun fs h=>by cases h.1) ?_ ?_
  ·rintro v fs' w' ⟨_,rfl⟩ hst
   refine leaves_end (vs:=[.bool true]) (w:=w') rfl s2.env hst ?_ rfl ?_
   ·(apply zD;apply zH;rfl;apply qE;apply zY;exact Rd.one' rfl;exact zF)
   ·refine ⟨own'++rest,⟨true,own',rfl,hKv,rfl⟩,?_⟩
    exact ⟨hst.bel,fun p hp=>hst.own p (qP _ hp),(List.pairwise_cons.1 hst.nd).2⟩
  ·rintro ch fs' w' ⟨h,_⟩
   cases h
 ·rintro ch fs' ⟨own',hKv,rfl⟩
  obtain rfl:ch=failC:=by
   rcases hK _ _ hKv with h|h
   ·cases h
   ·exact Ending.panicked.inj h
  refine thenP ?_
  refine outDP rfl fun a w2 s2=>?_
  have s3:=s2.st.perm List.perm_middle.symm
  refine leaves_clo (K:=fun e fs'=>e=.returned (.tuple #[])∧∃ b2,fs'=b2::(bok,.cells #[.bool false] 4 (0,0))::(own'++rest)) inferInstance (fun h=>by cases h) (tries1_failed w0 S bok false (own'++rest) w2 s3) (fun fs h=>by cases h.1) ?_ ?_
  ·rintro v fs' w' ⟨_,b2,rfl⟩ hst
   refine leaves_end (vs:=[.bool false]) (w:=w') rfl s2.env hst ?_ rfl ?_
   ·(apply zD;apply zH;rfl;apply qE;apply zX;apply zY;exact Rd.one' rfl;exact zF)
   ·refine ⟨own'++rest,⟨false,own',rfl,hKv,rfl⟩,?_⟩
    exact ⟨hst.bel,fun p hp=>hst.own p (qP _ (qP _ hp)),(List.pairwise_cons.1 (List.pairwise_cons.1 hst.nd).2).2⟩
  ·rintro ch fs' w' ⟨h,_⟩
   cases h
def StepR (R:MaV→Fs→Prop) (v:Value) (gs:Fs):Prop:=∃ m,R m gs∧v=.tuple #[frv m.fr,.agg (aska m.kind m.op m.words m.data),.int .i64 0]
theorem aq_cells {kind:Int} {op:Nat} {u d:Value} (h:∃ p n c,u=.slice p n c) (h2:∃ p n c,d=.slice p n c):(aska kind op u d).toList.all Value.oneCell'=true:=by
 obtain ⟨p,n,c,rfl⟩:=h
 obtain ⟨p,n,c,rfl⟩:=h2
 rfl
theorem aq_wrW {P:Program} {T E:TypeId} {kind:Int} {op:Nat} {u d z:Value} {cs:Array Value} [InfoI P T 4 z] (h:cs.size=4) (h1:∃ p n c,u=.slice p n c) (h2:∃ p n c,d=.slice p n c):Wr P T (.cells cs E (0,0)) 0 (.agg (aska kind op u d)) (.cells (aska kind op u d) E (0,0)):=Wr.whole h rfl (aq_cells h1 h2)
theorem ma_rdA {P:Program} {T E:TypeId} {fr:Nat × Nat} {m:MaV} [AgI P T true] {z:Value} [InfoI P T 4 z]:Rd P T (.cells (mca m) E fr) 19 (.agg (aska m.kind m.op m.words m.data)):=Rd.mid (cs:=[.int .i64 m.kind,.int .u8 (m.op:Int),m.words,m.data]) rfl rfl
theorem Step_ok (f:FrV) (L:FrL) (e0 e1 e2 e3:Nat) (R:MaV→Fs→Prop) (hF:okF f L) (hR:∀ m gs,R m gs→FrSl m.fr∧(∃ p n c,m.words=.slice p n c)∧(∃ p n c,m.data=.slice p n c))
  (hstep:∀ (w0:World) (S:List Nat) (b:Nat) (c s m i b5:Value) (gs rest:Fs) (w':World),FrO (f.rows c s m i b5) L gs→St w0 S ((b,maO (ma0 (f.rows c s m i b5) e0 e1 e2 e3))::(gs++rest)) w' →
   Calls Tryz.prog 42 #[.pointer (some ⟨b,0,none⟩)] w' (fun x w''=>∃ fs',(x=.returned (.tuple #[])∧∃ m' gs',R m' gs'∧fs'=(b,maO m')::(gs'++rest))∧St w0 S fs' w''))
  (w:World) (h:FrRows w f L):Calls Tryz.prog 10 #[frv f,.agg (enva e0 e1 e2 e3)] w (RetG w [] (StepR R)):=by
 have hC:∀ w' {fs:Fs},St w [] fs w'→Calls Tryz.prog 34 #[frv f] w' (Ret w' (.int .i64 0)):=fun w' fs hst=>by
  have h0:=fCheck_calls f L w' (h.st hst)
  rwa [if_pos hF] at h0
 have hs1:=h.sl
 refine enter (args:=[_,_]) _ [] [] Tryz.func10 rfl Tryz.ntmps10 rfl (by simp) .nil ?_
 (refine sRz ?_;apply zT;rfl;rfl;intro _;apply zT;rfl;rfl;intro _;apply zU;rfl;intro _;apply zU;rfl;intro _;refine vAz<|nNz<|zI<|sRz<|ldz rfl (.tail (.tail (.tail .head))) fr_rdW ?_;apply zS;rfl;rfl;infer_instance;exact .cons rfl .nil;intro w _;exact hC w (by assumption);refine vAz<|nSz<|vMz ?_;refine lvz (.neF rfl rfl (by omega)) ?_;refine nNz<|cFz<|zJ<|thenN<|sRz<|ldz rfl (.tail (.tail (.tail .head))) fr_rdW<|ldz rfl (.tail (.tail .head)) (qF rfl) ?_)
 refine LW.callR rfl rfl inferInstance (by (exact .cons rfl (.cons rfl .nil))) (fun w' hst=>fOf_calls f L e0 e1 e2 e3 hF.short w' (h.st hst)) ?_
 rintro v g ⟨bm,c,s,mm,i,b5x,g1,rfl,rfl,hfr⟩
 rename_i b2 b3 b4 b5
 (refine vAz<|nNz<|zI<|sRz<|vMz ?_;apply LW.v0;rfl;rfl;apply ValP.makeFunc;exact .cons rfl .nil;exact ArgsOk.nil)
 refine LW.callSt (K:=fun v fs'=>v=.bool true∧∃ m' gs',R m' gs'∧fs'=(bm,maO m')::(gs'++[(b5,.cells #[.int .i64 0,.int .u8 0,.slice none 0 0,.slice none 0 0] 37 (0,0)),(b4,.cells #[.slice none 0 0,.int .i64 0,.slice none 0 0,.slice none 0 0,.int .u64 0,.int .u64 0,.int .u64 0,.int .u64 0,.int .u64 0,.int .u64 0,.int .u64 0,.slice none 0 0,.slice none 0 0,.bool false] 31 (0,0)),(b3,.cells (enva e0 e1 e2 e3) 33 (0,0)),(b2,.cells (fra f) 31 (0,0))])) rfl rfl inferInstance (by (exact .cons rfl .nil)) (fun w' hst=>Calls.mono (tries_bound w [] 42 #[.pointer (some ⟨bm,0,none⟩)] (fun x fs'=>x=.returned (.tuple #[])∧∃ m' gs',R m' gs'∧fs'=(bm,maO m')::gs') (fun x fs' h=>.inl h.1) inferInstance ((bm,maO (ma0 (f.rows c s mm i b5x) e0 e1 e2 e3))::g1) [(b5,.cells #[.int .i64 0,.int .u8 0,.slice none 0 0,.slice none 0 0] 37 (0,0)),(b4,.cells #[.slice none 0 0,.int .i64 0,.slice none 0 0,.slice none 0 0,.int .u64 0,.int .u64 0,.int .u64 0,.int .u64 0,.int .u64 0,.int .u64 0,.int .u64 0,.slice none 0 0,.slice none 0 0,.bool false] 31 (0,0)),(b3,.cells (enva e0 e1 e2 e3) 33 (0,0)),(b2,.cells (fra f) 31 (0,0))] w' (fun rest w2 h2=>Calls.mono (hstep w [] bm c s mm i b5x g1 rest w2 hfr h2) fun x w3 ⟨fs',⟨h3,m',gs',h4,h5⟩,hst⟩=>⟨fs',⟨_,⟨h3,m',gs',h4,rfl⟩,h5⟩,hst⟩) hst) fun x w3 ⟨fs',⟨ok,own',h3,h4,h5⟩,hst⟩=>?_) ?_
 ·cases ok with
  |false=>obtain ⟨h6,_⟩:=h4;cases h6
  |true =>
   obtain ⟨_,m',gs',h7,h8⟩:=h4
   exact ⟨_,_,h3,⟨rfl,m',gs',h7,by rw [h5,h8];rfl⟩,hst⟩
 rintro _ _ ⟨rfl,m',gs',hRm,rfl⟩
 obtain ⟨hsf,hsw,hsd⟩:=hR _ _ hRm
 (refine lvz (.notT rfl (by with_reducible rfl)) ?_;refine nNz<|cFz<|zJ<|thenN<|zI ?_)
 apply CW.pre
 (refine AnyW.anyM [] 9 mixed (by decide +kernel) ?_)
 ((try simp only [tsOf_cons,tsOf_nil,tsOf_app]);refine dvz (.move rfl)<|dvz (.nilCheck rfl)<|dvz (.fieldAddr rfl rfl) ?_;apply qD;rfl;rfl;rfl;exact zC;rfl;apply zP;exact zN;exact ma_rdF;refine dvz (.move rfl)<|dvz (.nilCheck rfl)<|dvz (.fieldAddr rfl rfl) ?_;apply qD;rfl;rfl;rfl;exact zC;rfl;apply zP;exact zN;exact ma_rdA;apply DW.store;rfl;rfl;exact zC;rfl;rfl;apply TSet.tail;apply TSet.app;apply TSet.tail;apply TSet.head;exact zN;exact zN;apply fr_wrW;rfl;exact hsf;apply DW.nil;simp only [fsOf_cons,fsOf_nil,fsOf_app,fsOf_tsOf,fsOf_new])
 try simp only [fsOf_mark,fsOf_cons,fsOf_nil,fsOf_app,fsOf_tsOf,fsOf_new,fsOf_tag,List.append_eq,List.nil_append]
 (apply zR;rfl;rfl;apply qB;apply qC;apply qA;apply aq_wrW;rfl;exact hsw;exact hsd;refine vAz<|nNz<|zK ?_)
 trace_state
 exact fin (vs:=[frv m'.fr,.agg (aska m'.kind m'.op m'.words m'.data),.int .i64 0]) gs' (.inl rfl) rfl rfl (by (apply zD;apply zH;rfl;apply qE;apply zX;apply zZ;apply zX;apply zY;exact fr_rdW;apply zD;apply zH;rfl;apply qE;apply zX;apply zZ;apply zY;exact qF rfl;apply zD;exact zG rfl;exact zF)) (qR _ (qQ _ _)) ⟨m',hRm,rfl⟩
end
def halvesE:Array MapEntry:=#[⟨.int .u8 1,.func (.func 137) #[] #[],0⟩,⟨.int .u8 3,.func (.func 139) #[] #[],1⟩,⟨.int .u8 2,.func (.func 140) #[] #[],2⟩,⟨.int .u8 4,.func (.func 141) #[] #[],3⟩,⟨.int .u8 6,.func (.func 143) #[] #[],4⟩,⟨.int .u8 22,.func (.func 21) #[] #[],5⟩,⟨.int .u8 23,.func (.func 22) #[] #[],6⟩,⟨.int .u8 24,.func (.func 23) #[] #[],7⟩,⟨.int .u8 27,.func (.func 144) #[] #[],8⟩,⟨.int .u8 28,.func (.func 145) #[] #[],9⟩,⟨.int .u8 16,.func (.func 146) #[] #[],10⟩,⟨.int .u8 17,.func (.func 148) #[] #[],11⟩,⟨.int .u8 20,.func (.func 149) #[] #[],12⟩]
def halvesF (b:Nat):Option (Nat × FuncId):=if b=1 then some (0,137) else if b=3 then some (1,139) else if b=2 then some (2,140) else if b=4 then some (3,141) else if b=6 then some (4,143) else if b=22 then some (5,21) else if b=23 then some (6,22) else if b=24 then some (7,23) else if b=27 then some (8,144) else if b=28 then some (9,145) else if b=16 then some (10,146) else if b=17 then some (11,148) else if b=20 then some (12,149) else none
def halvesM (v:Value) (gs:Fs):Prop:=∃ b,v=.map (some b)∧gs=[(b,.map halvesE 13)]
theorem halves_calls (w:World):Calls Tryz.prog 96 #[] w (RetG w [] halvesM):=by
 refine enter (args:=[]) _ [] [] Tryz.func96 rfl Tryz.ntmps96 rfl (by simp) .nil ?_
 (refine sRz<|vAz<|nSz ?_;apply LW.makeMap;rfl;intro _;apply LW.mapIns;infer_instance;infer_instance;rfl;rfl;rfl;apply qA;rfl;rfl;apply LW.mapIns;infer_instance;infer_instance;rfl;rfl;rfl;apply qA;rfl;rfl;apply LW.mapIns;infer_instance;infer_instance;rfl;rfl;rfl;apply qA;rfl;rfl;apply LW.mapIns;infer_instance;infer_instance;rfl;rfl;rfl;apply qA;rfl;rfl;apply LW.mapIns;infer_instance;infer_instance;rfl;rfl;rfl;apply qA;rfl;rfl;apply LW.mapIns;infer_instance;infer_instance;rfl;rfl;rfl;apply qA;rfl;rfl;apply LW.mapIns;infer_instance;infer_instance;rfl;rfl;rfl;apply qA;rfl;rfl;apply LW.mapIns;infer_instance;infer_instance;rfl;rfl;rfl;apply qA;rfl;rfl;apply LW.mapIns;infer_instance;infer_instance;rfl;rfl;rfl;apply qA;rfl;rfl;apply LW.mapIns;infer_instance;infer_instance;rfl;rfl;rfl;apply qA;rfl;rfl;apply LW.mapIns;infer_instance;infer_instance;rfl;rfl;rfl;apply qA;rfl;rfl;apply LW.mapIns;infer_instance;infer_instance;rfl;rfl;rfl;apply qA;rfl;rfl;apply LW.mapIns;infer_instance;infer_instance;rfl;rfl;rfl;apply qA;rfl;rfl;refine vMz<|vAz<|nNz<|zK ?_)
 rename_i b
 exact fin (vs:=[.map (some b)]) [(b,.map halvesE 13)] (.inl rfl) rfl rfl (by (apply zD;exact zG rfl;exact zF)) (qN _) ⟨b,rfl,rfl⟩
theorem halves_find (b:Nat):Instr.findNow (.int .u8) (.int .u8 (b:Int)) halvesE.toList 0=some ((halvesF b).map fun x=>(x.1,.func (.func x.2) #[] #[])):=by
 have hk:∀ (b k:Nat),¬ b=k→((b:Int) == (k:Int))=false:=fun b k h=>by
  rw [beq_eq_false_iff_ne]
  omega
 unfold halvesF
 by_cases h1:b=1
 ·subst h1;rfl
 rw [if_neg h1]
 by_cases h3:b=3
 ·subst h3;rfl
 rw [if_neg h3]
 by_cases h2:b=2
 ·subst h2;rfl
 rw [if_neg h2]
 by_cases h4:b=4
 ·subst h4;rfl
 rw [if_neg h4]
 by_cases h6:b=6
 ·subst h6;rfl
 rw [if_neg h6]
 by_cases h22:b=22
 ·subst h22;rfl
 rw [if_neg h22]
 by_cases h23:b=23
 ·subst h23;rfl
 rw [if_neg h23]
 by_cases h24:b=24
 ·subst h24;rfl
 rw [if_neg h24]
 by_cases h27:b=27
 ·subst h27;rfl
 rw [if_neg h27]
 by_cases h28:b=28
 ·subst h28;rfl
 rw [if_neg h28]
 by_cases h16:b=16
 ·subst h16;rfl
 rw [if_neg h16]
 by_cases h17:b=17
 ·subst h17;rfl
 rw [if_neg h17]
 by_cases h20:b=20
 ·subst h20;rfl
 rw [if_neg h20]
 simp only [halvesE,Instr.findNow,Instr.sameNow,if_true,Option.map_none,show ((b:Int) == 1)=false from hk b 1 h1,show ((b:Int) == 3)=false from hk b 3 h3,show ((b:Int) == 2)=false from hk b 2 h2,show ((b:Int) == 4)=false from hk b 4 h4,show ((b:Int) == 6)=false from hk b 6 h6,show ((b:Int) == 22)=false from hk b 22 h22,show ((b:Int) == 23)=false from hk b 23 h23,show ((b:Int) == 24)=false from hk b 24 h24,show ((b:Int) == 27)=false from hk b 27 h27,show ((b:Int) == 28)=false from hk b 28 h28,show ((b:Int) == 16)=false from hk b 16 h16,show ((b:Int) == 17)=false from hk b 17 h17,show ((b:Int) == 20)=false from hk b 20 h20,Bool.false_eq_true,if_false]
def saysE:Array MapEntry:=#[⟨.int .u8 48,.func (.func 150) #[] #[],0⟩,⟨.int .u8 51,.func (.func 151) #[] #[],1⟩,⟨.int .u8 50,.func (.func 152) #[] #[],2⟩,⟨.int .u8 66,.func (.func 153) #[] #[],3⟩,⟨.int .u8 67,.func (.func 154) #[] #[],4⟩,⟨.int .u8 72,.func (.func 155) #[] #[],5⟩,⟨.int .u8 54,.func (.func 156) #[] #[],6⟩,⟨.int .u8 61,.func (.func 157) #[] #[],7⟩,⟨.int .u8 90,.func (.func 158) #[] #[],8⟩]
def saysF (b:Nat):Option (Nat × FuncId):=if b=48 then some (0,150) else if b=51 then some (1,151) else if b=50 then some (2,152) else if b=66 then some (3,153) else if b=67 then some (4,154) else if b=72 then some (5,155) else if b=54 then some (6,156) else if b=61 then some (7,157) else if b=90 then some (8,158) else none
def saysM (v:Value) (gs:Fs):Prop:=∃ b,v=.map (some b)∧gs=[(b,.map saysE 9)]
theorem says_calls (w:World):Calls Tryz.prog 97 #[] w (RetG w [] saysM):=by
 refine enter (args:=[]) _ [] [] Tryz.func97 rfl Tryz.ntmps97 rfl (by simp) .nil ?_
 (refine sRz<|vAz<|nSz ?_;apply LW.makeMap;rfl;intro _;apply LW.mapIns;infer_instance;infer_instance;rfl;rfl;rfl;apply qA;rfl;rfl;apply LW.mapIns;infer_instance;infer_instance;rfl;rfl;rfl;apply qA;rfl;rfl;apply LW.mapIns;infer_instance;infer_instance;rfl;rfl;rfl;apply qA;rfl;rfl;apply LW.mapIns;infer_instance;infer_instance;rfl;rfl;rfl;apply qA;rfl;rfl;apply LW.mapIns;infer_instance;infer_instance;rfl;rfl;rfl;apply qA;rfl;rfl;apply LW.mapIns;infer_instance;infer_instance;rfl;rfl;rfl;apply qA;rfl;rfl;apply LW.mapIns;infer_instance;infer_instance;rfl;rfl;rfl;apply qA;rfl;rfl;apply LW.mapIns;infer_instance;infer_instance;rfl;rfl;rfl;apply qA;rfl;rfl;apply LW.mapIns;infer_instance;infer_instance;rfl;rfl;rfl;apply qA;rfl;rfl;refine vMz<|vAz<|nNz<|zK ?_)
 rename_i b
 exact fin (vs:=[.map (some b)]) [(b,.map saysE 9)] (.inl rfl) rfl rfl (by (apply zD;exact zG rfl;exact zF)) (qN _) ⟨b,rfl,rfl⟩
theorem says_find (b:Nat):Instr.findNow (.int .u8) (.int .u8 (b:Int)) saysE.toList 0=some ((saysF b).map fun x=>(x.1,.func (.func x.2) #[] #[])):=by
 have hk:∀ (b k:Nat),¬ b=k→((b:Int) == (k:Int))=false:=fun b k h=>by
  rw [beq_eq_false_iff_ne]
  omega
 unfold saysF
 by_cases h48:b=48
 ·subst h48;rfl
 rw [if_neg h48]
 by_cases h51:b=51
 ·subst h51;rfl
 rw [if_neg h51]
 by_cases h50:b=50
 ·subst h50;rfl
 rw [if_neg h50]
 by_cases h66:b=66
 ·subst h66;rfl
 rw [if_neg h66]
 by_cases h67:b=67
 ·subst h67;rfl
 rw [if_neg h67]
 by_cases h72:b=72
 ·subst h72;rfl
 rw [if_neg h72]
 by_cases h54:b=54
 ·subst h54;rfl
 rw [if_neg h54]
 by_cases h61:b=61
 ·subst h61;rfl
 rw [if_neg h61]
 by_cases h90:b=90
 ·subst h90;rfl
 rw [if_neg h90]
 simp only [saysE,Instr.findNow,Instr.sameNow,if_true,Option.map_none,show ((b:Int) == 48)=false from hk b 48 h48,show ((b:Int) == 51)=false from hk b 51 h51,show ((b:Int) == 50)=false from hk b 50 h50,show ((b:Int) == 66)=false from hk b 66 h66,show ((b:Int) == 67)=false from hk b 67 h67,show ((b:Int) == 72)=false from hk b 72 h72,show ((b:Int) == 54)=false from hk b 54 h54,show ((b:Int) == 61)=false from hk b 61 h61,show ((b:Int) == 90)=false from hk b 90 h90,Bool.false_eq_true,if_false]
def doesE:Array MapEntry:=#[⟨.int .u8 21,.func (.func 159) #[] #[],0⟩,⟨.int .u8 25,.func (.func 160) #[] #[],1⟩,⟨.int .u8 52,.func (.func 161) #[] #[],2⟩,⟨.int .u8 53,.func (.func 162) #[] #[],3⟩,⟨.int .u8 55,.func (.func 163) #[] #[],4⟩,⟨.int .u8 62,.func (.func 164) #[] #[],5⟩,⟨.int .u8 81,.func (.func 165) #[] #[],6⟩,⟨.int .u8 82,.func (.func 166) #[] #[],7⟩,⟨.int .u8 83,.func (.func 167) #[] #[],8⟩,⟨.int .u8 32,.func (.func 168) #[] #[],9⟩,⟨.int .u8 86,.func (.func 169) #[] #[],10⟩,⟨.int .u8 87,.func (.func 170) #[] #[],11⟩,⟨.int .u8 49,.func (.func 171) #[] #[],12⟩,⟨.int .u8 71,.func (.func 171) #[] #[],13⟩,⟨.int .u8 84,.func (.func 171) #[] #[],14⟩,⟨.int .u8 92,.func (.func 171) #[] #[],15⟩,⟨.int .u8 85,.func (.func 172) #[] #[],16⟩,⟨.int .u8 93,.func (.func 172) #[] #[],17⟩,⟨.int .u8 241,.func (.func 173) #[] #[],18⟩,⟨.int .u8 244,.func (.func 173) #[] #[],19⟩,⟨.int .u8 250,.func (.func 173) #[] #[],20⟩,⟨.int .u8 245,.func (.func 173) #[] #[],21⟩,⟨.int .u8 0,.func (.func 174) #[] #[],22⟩,⟨.int .u8 243,.func (.func 175) #[] #[],23⟩,⟨.int .u8 253,.func (.func 175) #[] #[],24⟩]
def doesF (b:Nat):Option (Nat × FuncId):=if b=21 then some (0,159) else if b=25 then some (1,160) else if b=52 then some (2,161) else if b=53 then some (3,162) else if b=55 then some (4,163) else if b=62 then some (5,164) else if b=81 then some (6,165) else if b=82 then some (7,166) else if b=83 then some (8,167) else if b=32 then some (9,168) else if b=86 then some (10,169) else if b=87 then some (11,170) else if b=49 then some (12,171) else if b=71 then some (13,171) else if b=84 then some (14,171) else if b=92 then some (15,171) else if b=85 then some (16,172) else if b=93 then some (17,172) else if b=241 then some (18,173) else if b=244 then some (19,173) else if b=250 then some (20,173) else if b=245 then some (21,173) else if b=0 then some (22,174) else if b=243 then some (23,175) else if b=253 then some (24,175) else none
def doesM (v:Value) (gs:Fs):Prop:=∃ b,v=.map (some b)∧gs=[(b,.map doesE 25)]
theorem does_calls (w:World):Calls Tryz.prog 99 #[] w (RetG w [] doesM):=by
 refine enter (args:=[]) _ [] [] Tryz.func99 rfl Tryz.ntmps99 rfl (by simp) .nil ?_
 (refine sRz<|vAz<|nSz ?_;apply LW.makeMap;rfl;intro _;apply LW.mapIns;infer_instance;infer_instance;rfl;rfl;rfl;apply qA;rfl;rfl;apply LW.mapIns;infer_instance;infer_instance;rfl;rfl;rfl;apply qA;rfl;rfl;apply LW.mapIns;infer_instance;infer_instance;rfl;rfl;rfl;apply qA;rfl;rfl;apply LW.mapIns;infer_instance;infer_instance;rfl;rfl;rfl;apply qA;rfl;rfl;apply LW.mapIns;infer_instance;infer_instance;rfl;rfl;rfl;apply qA;rfl;rfl;apply LW.mapIns;infer_instance;infer_instance;rfl;rfl;rfl;apply qA;rfl;rfl;apply LW.mapIns;infer_instance;infer_instance;rfl;rfl;rfl;apply qA;rfl;rfl;apply LW.mapIns;infer_instance;infer_instance;rfl;rfl;rfl;apply qA;rfl;rfl;apply LW.mapIns;infer_instance;infer_instance;rfl;rfl;rfl;apply qA;rfl;rfl;apply LW.mapIns;infer_instance;infer_instance;rfl;rfl;rfl;apply qA;rfl;rfl;apply LW.mapIns;infer_instance;infer_instance;rfl;rfl;rfl;apply qA;rfl;rfl;apply LW.mapIns;infer_instance;infer_instance;rfl;rfl;rfl;apply qA;rfl;rfl;apply LW.mapIns;infer_instance;infer_instance;rfl;rfl;rfl;apply qA;rfl;rfl;apply LW.mapIns;infer_instance;infer_instance;rfl;rfl;rfl;apply qA;rfl;rfl;apply LW.mapIns;infer_instance;infer_instance;rfl;rfl;rfl;apply qA;rfl;rfl;apply LW.mapIns;infer_instance;infer_instance;rfl;rfl;rfl;apply qA;rfl;rfl;apply LW.mapIns;infer_instance;infer_instance;rfl;rfl;rfl;apply qA;rfl;rfl;apply LW.mapIns;infer_instance;infer_instance;rfl;rfl;rfl;apply qA;rfl;rfl;apply LW.mapIns;infer_instance;infer_instance;rfl;rfl;rfl;apply qA;rfl;rfl;apply LW.mapIns;infer_instance;infer_instance;rfl;rfl;rfl;apply qA;rfl;rfl;apply LW.mapIns;infer_instance;infer_instance;rfl;rfl;rfl;apply qA;rfl;rfl;apply LW.mapIns;infer_instance;infer_instance;rfl;rfl;rfl;apply qA;rfl;rfl;apply LW.mapIns;infer_instance;infer_instance;rfl;rfl;rfl;apply qA;rfl;rfl;apply LW.mapIns;infer_instance;infer_instance;rfl;rfl;rfl;apply qA;rfl;rfl;apply LW.mapIns;infer_instance;infer_instance;rfl;rfl;rfl;apply qA;rfl;rfl;refine vMz<|vAz<|nNz<|zK ?_)
 rename_i b
 exact fin (vs:=[.map (some b)]) [(b,.map doesE 25)] (.inl rfl) rfl rfl (by (apply zD;exact zG rfl;exact zF)) (qN _) ⟨b,rfl,rfl⟩
theorem does_find (b:Nat):Instr.findNow (.int .u8) (.int .u8 (b:Int)) doesE.toList 0=some ((doesF b).map fun x=>(x.1,.func (.func x.2) #[] #[])):=by
 have hk:∀ (b k:Nat),¬ b=k→((b:Int) == (k:Int))=false:=fun b k h=>by
  rw [beq_eq_false_iff_ne]
  omega
 unfold doesF
 by_cases h21:b=21
 ·subst h21;rfl
 rw [if_neg h21]
 by_cases h25:b=25
 ·subst h25;rfl
 rw [if_neg h25]
 by_cases h52:b=52
 ·subst h52;rfl
 rw [if_neg h52]
 by_cases h53:b=53
 ·subst h53;rfl
 rw [if_neg h53]
 by_cases h55:b=55
 ·subst h55;rfl
 rw [if_neg h55]
 by_cases h62:b=62
 ·subst h62;rfl
 rw [if_neg h62]
 by_cases h81:b=81
 ·subst h81;rfl
 rw [if_neg h81]
 by_cases h82:b=82
 ·subst h82;rfl
 rw [if_neg h82]
 by_cases h83:b=83
 ·subst h83;rfl
 rw [if_neg h83]
 by_cases h32:b=32
 ·subst h32;rfl
 rw [if_neg h32]
 by_cases h86:b=86
 ·subst h86;rfl
 rw [if_neg h86]
 by_cases h87:b=87
 ·subst h87;rfl
 rw [if_neg h87]
 by_cases h49:b=49
 ·subst h49;rfl
 rw [if_neg h49]
 by_cases h71:b=71
 ·subst h71;rfl
 rw [if_neg h71]
 by_cases h84:b=84
 ·subst h84;rfl
 rw [if_neg h84]
 by_cases h92:b=92
 ·subst h92;rfl
 rw [if_neg h92]
 by_cases h85:b=85
 ·subst h85;rfl
 rw [if_neg h85]
 by_cases h93:b=93
 ·subst h93;rfl
 rw [if_neg h93]
 by_cases h241:b=241
 ·subst h241;rfl
 rw [if_neg h241]
 by_cases h244:b=244
 ·subst h244;rfl
 rw [if_neg h244]
 by_cases h250:b=250
 ·subst h250;rfl
 rw [if_neg h250]
 by_cases h245:b=245
 ·subst h245;rfl
 rw [if_neg h245]
 by_cases h0:b=0
 ·subst h0;rfl
 rw [if_neg h0]
 by_cases h243:b=243
 ·subst h243;rfl
 rw [if_neg h243]
 by_cases h253:b=253
 ·subst h253;rfl
 rw [if_neg h253]
 simp only [doesE,Instr.findNow,Instr.sameNow,if_true,Option.map_none,show ((b:Int) == 21)=false from hk b 21 h21,show ((b:Int) == 25)=false from hk b 25 h25,show ((b:Int) == 52)=false from hk b 52 h52,show ((b:Int) == 53)=false from hk b 53 h53,show ((b:Int) == 55)=false from hk b 55 h55,show ((b:Int) == 62)=false from hk b 62 h62,show ((b:Int) == 81)=false from hk b 81 h81,show ((b:Int) == 82)=false from hk b 82 h82,show ((b:Int) == 83)=false from hk b 83 h83,show ((b:Int) == 32)=false from hk b 32 h32,show ((b:Int) == 86)=false from hk b 86 h86,show ((b:Int) == 87)=false from hk b 87 h87,show ((b:Int) == 49)=false from hk b 49 h49,show ((b:Int) == 71)=false from hk b 71 h71,show ((b:Int) == 84)=false from hk b 84 h84,show ((b:Int) == 92)=false from hk b 92 h92,show ((b:Int) == 85)=false from hk b 85 h85,show ((b:Int) == 93)=false from hk b 93 h93,show ((b:Int) == 241)=false from hk b 241 h241,show ((b:Int) == 244)=false from hk b 244 h244,show ((b:Int) == 250)=false from hk b 250 h250,show ((b:Int) == 245)=false from hk b 245 h245,show ((b:Int) == 0)=false from hk b 0 h0,show ((b:Int) == 243)=false from hk b 243 h243,show ((b:Int) == 253)=false from hk b 253 h253,Bool.false_eq_true,if_false]
section
open CK (dataC)
def FrP (f:FrV) (L:FrL) (gs:Fs):Prop:=∃ g1 g2 g3 g4 g5,(g1++(g2++(g3++(g4++g5)))).Perm gs∧bM L.cl f.code g1∧wP L.ws f.stk g2∧bM L.ms f.mem g3∧bM L.il f.inp g4∧bM L.bl f.back g5
theorem FrP.sl {f:FrV} {L:FrL} {gs:Fs} (h:FrP f L gs):FrSl f:=by
 obtain ⟨g1,g2,g3,g4,g5,_,h1,h2,h3,h4,h5⟩:=h
 unfold bM at h1 h3 h4 h5
 obtain ⟨_,_,h1⟩:=h1.form
 obtain ⟨_,_,h2⟩:=h2.form
 obtain ⟨_,_,h3⟩:=h3.form
 obtain ⟨_,_,h4⟩:=h4.form
 obtain ⟨_,_,h5⟩:=h5.form
 exact ⟨⟨_,_,_,h1⟩,⟨_,_,_,h2⟩,⟨_,_,_,h3⟩,⟨_,_,_,h4⟩,⟨_,_,_,h5⟩⟩
theorem FrP.rows {f:FrV} {L:FrL} {gs:Fs} {w:World} (h:FrP f L gs) (hw:∀ p∈gs,w.heap[p.1]?=some p.2):FrRows w f L:=by
 obtain ⟨g1,g2,g3,g4,g5,hp,h1,h2,h3,h4,h5⟩:=h
 replace hw:∀ p∈g1++(g2++(g3++(g4++g5))),w.heap[p.1]?=some p.2:=fun p h=>hw p (hp.subset h)
 exact ⟨bM_at h1 fun p hp=>hw p (by simp [hp]),h2.at fun p hp=>hw p (by simp [hp]),bM_at h3 fun p hp=>hw p (by simp [hp]),bM_at h4 fun p hp=>hw p (by simp [hp]),bM_at h5 fun p hp=>hw p (by simp [hp])⟩
section wr
variable {P : Program} {T E : TypeId} {fr : Nat × Nat} {m : MaV}
def MaV.setTook (m:MaV) (t:Value):MaV:={ m with took:=t }
def MaV.setOp (m:MaV) (o:Nat):MaV:={ m with op:=o }
def MaV.setAsk (m:MaV) (k:Int) (o:Nat) (u d:Value):MaV:={ m with kind:=k,op:=o,words:=u,data:=d }
theorem ma_wr18 {z:Value} {p:Option Addr} {n c:Nat} [InfoI P T 1 z]:Wr P T (.cells (mca m) E (0,0)) 18 (.slice p n c) (.cells (mca (m.setTook (.slice p n c))) E (0,0)):=Wr.cells (n:=1) (z:=z) rfl rfl (by show 18+1≤23;omega) rfl
theorem ma_wr20 {z:Value} {o:Nat} [InfoI P T 1 z]:Wr P T (.cells (mca m) E (0,0)) 20 (.int .u8 (o:Int)) (.cells (mca (m.setOp o)) E (0,0)):=Wr.cells (n:=1) (z:=z) rfl rfl (by show 20+1≤23;omega) rfl
theorem ma_wr19 {z:Value} {k:Int} {o:Nat} {p1 p2:Option Addr} {n1 n2 c1 c2:Nat} [InfoI P T 4 z]:Wr P T (.cells (mca m) E (0,0)) 19 (.agg (aska k o (.slice p1 n1 c1) (.slice p2 n2 c2))) (.cells (mca (m.setAsk k o (.slice p1 n1 c1) (.slice p2 n2 c2))) E (0,0)):=Wr.cells (n:=4) (z:=z) rfl rfl (by show 19+4≤23;omega) rfl
theorem ma_rd18 [AgI P T false]:Rd P T (.cells (mca m) E fr) 18 m.took:=Rd.one rfl
theorem ma_rd20 [AgI P T false]:Rd P T (.cells (mca m) E fr) 20 (.int .u8 (m.op:Int)):=Rd.one rfl
theorem ma_rd19 [AgI P T false]:Rd P T (.cells (mca m) E fr) 19 (.int .i64 m.kind):=Rd.one rfl
end wr
attribute [local irreducible] SL.inP
theorem asks_calls (w0:World) (S:List Nat) (b:Nat) (m:MaV) (k:Int) (op:Nat) (rest:Fs) (ht:∃ p n c,m.took=.slice p n c) (w:World) (hs:St w0 S ((b,maO m)::rest) w) :
  Calls Tryz.prog 210 #[.pointer (some ⟨b,0,none⟩),.int .i64 k,.int .u8 (op:Int)] w (fun x w'=>∃ fs',(x=.returned (.tuple #[])∧fs'=(b,maO (m.setAsk k op m.took (.slice none 0 0)))::rest)∧St w0 S fs' w'):=by
 obtain ⟨fr,e0,e1,e2,e3,took,kind,aop,awords,adata⟩:=m
 obtain ⟨p,n,c,rfl⟩:=ht
 refine calls_anyO (calls_inlineP (K:=anyO fun x fs'=>x=.returned (.tuple #[])∧fs'=(b,maO (MaV.setAsk ⟨fr,e0,e1,e2,e3,.slice p n c,kind,aop,awords,adata⟩ k op (.slice p n c) (.slice none 0 0)))::rest) (args:=[_,_,_]) Tryz.func210 rfl Tryz.ntmps210 rfl ?_ hs)
 (refine zL<|vMz<|vMz<|vMz<|vMz<|vNz<|vFz<|ldz rfl .head ma_rd18 ?_;apply LW.v0;rfl;rfl;apply zW;infer_instance;infer_instance;apply zA;rfl;apply zA;rfl;apply zA;rfl;exact zB;rfl;simp only [fillP,wrCells,Value.cells,qI,qJ,qK,qH,qM,qL,Nat.reduceAdd,qO];rfl;refine vNz<|vFz ?_;refine zR rfl rfl .head ma_wr19 ?_;apply zV)
 refine inPI (.inr rfl) .nil rfl .nil rfl ⟨_,⟨rfl,rfl⟩,_,qN _,.refl _⟩
theorem state_calls (w0:World) (S:List Nat) (b:Nat) (m:MaV) (rest:Fs) (ht:∃ p n c,m.took=.slice p n c) (w:World) (hs:St w0 S ((b,maO m)::rest) w) :
  Calls Tryz.prog 171 #[.pointer (some ⟨b,0,none⟩)] w (fun x w'=>∃ fs',(x=.returned (.tuple #[])∧fs'=(b,maO (m.setAsk 1 m.op m.took (.slice none 0 0)))::rest)∧St w0 S fs' w'):=by
 refine calls_anyO (calls_inlineP (K:=anyO fun x fs'=>x=.returned (.tuple #[])∧fs'=(b,maO (m.setAsk 1 m.op m.took (.slice none 0 0)))::rest) (args:=[_]) Tryz.func171 rfl Tryz.ntmps171 rfl ?_ hs)
 (refine zL<|vMz<|vMz<|vNz<|vFz<|vFz<|ldz rfl .head ma_rd20 ?_)
 refine LW.callSt (K:=fun v fs'=>v=.tuple #[]∧fs'=(b,maO (m.setAsk 1 m.op m.took (.slice none 0 0)))::rest) rfl rfl inferInstance (by (exact .cons rfl (.cons rfl (.cons rfl .nil)))) (fun w' hst=>Calls.mono (asks_calls w0 S b m 1 m.op rest ht w' hst) fun x w'' ⟨fs',hk,hst⟩=>⟨_,fs',hk.1,⟨rfl,hk.2⟩,hst⟩) ?_
 rintro v fs' ⟨rfl,rfl⟩
 (apply zV)
 refine inPI (.inr rfl) .nil rfl .nil rfl ⟨_,⟨rfl,rfl⟩,_,qN _,.refl _⟩
end
section
open CK (dataC)
attribute [local irreducible] SL.inP opOf opX gasB
theorem opF_lt (f:FrV) (L:FrL):opF f L < 256:=by
 unfold opF
 split
 ·omega
 ·exact UInt8.toNat_lt _
def StateM (f:FrV) (L:FrL) (e0 e1 e2 e3 op:Nat) (m:MaV) (gs:Fs):Prop:=∃ s k t gF gT,m=(((ma0 ((f.setR (f.gas - gasB op) s k).setPc ((min (f.pc.toNat+1+(opX op).dt) L.cl.length:Nat):Int)) e0 e1 e2 e3).setTook t).setAsk 1 op t (.slice none 0 0))∧FrP m.fr (L.setW (L.ws.take (L.ws.length - (opX op).tk))) gF∧wM (L.ws.drop (L.ws.length - (opX op).tk)).reverse t gT∧gs=gT++gF
theorem step_state (w0:World) (S:List Nat) (b:Nat) (f:FrV) (L:FrL) (e0 e1 e2 e3:Nat) (gs rest:Fs) (op i:Nat) (hF:okF f L) (hop:opF f L=op) (ho:(opOf op).isSome=true) (hi:op ≠ 254) (hr1:op < 96∨159 < op) (hd1:halvesF op=none) (hd2:saysF op=none) (hd3:doesF op=some (i,171)) (hg:gasB op≤f.gas) (ht:(opX op).tk≤L.ws.length) (hf:L.ws.length - (opX op).tk+(opX op).ly≤64) (hfr:FrO f L gs) (w:World) (hs:St w0 S ((b,maO (ma0 f e0 e1 e2 e3))::(gs++rest)) w) :
  Calls Tryz.prog 42 #[.pointer (some ⟨b,0,none⟩)] w (fun x w'=>∃ fs',(x=.returned (.tuple #[])∧∃ m' gs',StateM f L e0 e1 e2 e3 op m' gs'∧fs'=(b,maO m')::(gs'++rest))∧St w0 S fs' w'):=by
 obtain ⟨code,pc,stk,mem,gas,self,frm,val,inp,back,stat⟩:=f
 obtain ⟨g1,g2,g3,g4,g5,hp,r1,r2,r3,r4,r5⟩:=id hfr
 unfold bM at r1 r3
 unfold wM at r2
 dsimp only at r1 r2 r3
 obtain ⟨q1,k1,rfl⟩:=id r1.form
 obtain ⟨q2,k2,rfl⟩:=id r2.form
 obtain ⟨q3,k3,rfl⟩:=id r3.form
 obtain ⟨us2,hbl2,hin2,hrows2⟩:=rowU_own r2
 obtain ⟨us3,hbl3,hin3,hrows3⟩:=rowU_own r3
 replace hs:St w0 S ((b,maO (ma0 _ e0 e1 e2 e3))::(g1++(g2++(g3++(g4++g5)))++rest)) w:=hs.perm (List.Perm.cons _ (hp.append_right rest))
 obtain ⟨f,hfe⟩:∃ f:FrV,f=⟨.slice q1 L.cl.length k1,pc,.slice q2 L.ws.length k2,.slice q3 L.ms.length k3,gas,self,frm,val,inp,back,stat⟩:=⟨_,rfl⟩
 rw [← hfe] at hF hop hg hfr hs ⊢
 have hst1:f.code=.slice q1 L.cl.length k1:=by rw [hfe]
 have hst2:f.stk=.slice q2 L.ws.length k2:=by rw [hfe]
 have hst3:f.mem=.slice q3 L.ms.length k3:=by rw [hfe]
 have hgb5:f.inp=inp∧f.back=back:=by rw [hfe];exact ⟨rfl,rfl⟩
 clear hfe
 have hrdS:∀ {g E fr},Rd Tryz.prog 23 (.cells (mca ((ma0 f e0 e1 e2 e3).setGas g)) E fr) 2 (.slice q2 L.ws.length k2):=fun {g E fr}=>by rw [← hst2];exact ma_rd2s (m:=(ma0 f e0 e1 e2 e3).setGas g)
 have hrdC:∀ {g E fr},Rd Tryz.prog 22 (.cells (mca ((ma0 f e0 e1 e2 e3).setGas g)) E fr) 0 (.slice q1 L.cl.length k1):=fun {g E fr}=>by rw [← hst1];exact ma_rd0 (m:=(ma0 f e0 e1 e2 e3).setGas g)
 obtain ⟨pn,hpn⟩:∃ pn:Nat,f.pc=(pn:Int):=by
  rcases okF_pc hF with h|h
  ·exact ⟨_,h⟩
  ·exact ⟨f.pc.toNat,by omega⟩
 have hpl:pn≤L.cl.length:=by
  rcases okF_pc hF with h|h<;>omega
 have hcl2:L.cl.length≤200:=hF.2.2.1
 have hrdP:∀ {g E fr},Rd Tryz.prog 3 (.cells (mca ((ma0 f e0 e1 e2 e3).setGas g)) E fr) 1 (.int .i64 (pn:Int)):=fun {g E fr}=>by rw [← hpn];exact ma_rd1 (m:=(ma0 f e0 e1 e2 e3).setGas g)
 have hpt:f.pc.toNat=pn:=by rw [hpn];exact Int.toNat_natCast pn
 have hgl:f.gas < 18446744073709551616:=by have:=hF.1.2.2;omega
 have hok:okSc L.ws.length L.ms.length:=hF.2.2.2.1
 have hN:∀ w',(∀ q∈gs,w'.heap[q.1]?=some q.2)→Calls Tryz.prog 82 #[frv f] w' (Ret w' (.int .u8 (op:Int))):=fun w' h=>by
  have h:=next_calls f L (okF_pc hF) w' (hfr.us h)
  rwa [hop] at h
 have hN:∀ w',(∀ q∈g1++(g2++(g3++(g4++g5))),w'.heap[q.1]?=some q.2)→Calls Tryz.prog 82 #[frv f] w' (Ret w' (.int .u8 (op:Int))):=fun w' h=>hN w' fun q hq=>h q (hp.symm.subset hq)
 have hsl:=hfr.sl
 have hop2:op < 256:=by rw [← hop];exact opF_lt f L
 have o5:(opX op).dt≤32:=by rw [opX_dt];exact CK.szOf_le _
 obtain ⟨e,hOf,he⟩:=OfX_calls op (by omega) w
 rw [if_pos ho] at he
 subst he
 obtain ⟨G,hG⟩:∃ G,gasB op=G:=⟨_,rfl⟩
 have hBs:∀ w',Calls Tryz.prog 93 #[.int .u8 (op:Int)] w' (Ret w' (.tuple #[.int .u64 (G:Int),.int .i64 0])):=fun w'=>by
  have h:=Base_calls op (by omega) w'
  obtain ⟨y,hy⟩:=Option.isSome_iff_exists.1 ho
  rw [hy] at h
  rw [← hG]
  exact h
 have hGd:∀ m gs,(∃ s k t gF gT,m=(((ma0 ((f.setR (f.gas - G) s k).setPc ((min (pn+1+(opX op).dt) L.cl.length:Nat):Int)) e0 e1 e2 e3).setTook t).setAsk 1 op t (.slice none 0 0))∧FrP m.fr (L.setW (L.ws.take (L.ws.length - (opX op).tk))) gF∧wM (L.ws.drop (L.ws.length - (opX op).tk)).reverse t gT∧gs=gT++gF)→StateM f L e0 e1 e2 e3 op m gs:=fun m gs h=>by
  unfold StateM
  rw [hG,hpt]
  exact h
 rw [hG] at hg
 obtain ⟨X,hX⟩:∃ X,opX op=X:=⟨_,rfl⟩
 rw [hX] at ht hf o5 hGd hOf
 refine calls_anyO (calls_inlineP (K:=anyO fun x fs'=>x=.returned (.tuple #[])∧∃ m' gs',StateM f L e0 e1 e2 e3 op m' gs'∧fs'=(b,maO m')::(gs'++rest)) (args:=[_]) Tryz.func42 rfl Tryz.ntmps42 rfl ?_ hs)
 (refine sRz<|vMz<|vNz<|vFz<|ldz rfl .head ma_rdF ?_;apply zS;rfl;rfl;infer_instance;exact .cons rfl .nil;intro w _;rename_i hst;(exact hN w (st_ou hst (by (repeat (first|exact qN _|exact qQ _ _|apply qR|apply List.sublist_append_of_sublist_right)))));refine vAz<|nSz<|vMz ?_;apply zS;rfl;rfl;infer_instance;exact .cons rfl .nil;intro w _;exact hOf w;refine vMz ?_;refine vEz ?_;refine vEz ?_;apply zU;rfl;intro _;apply zR;rfl;rfl;apply qA;apply op_wrW;rfl;refine vAz<|nSz<|vMz ?_;refine lvz (.eqT rfl rfl (by omega)) ?_;refine vMz<|gTz<|vMz<|gTz ?_;refine lvz (.neT rfl rfl (by omega)) ?_;refine pTz ?_;apply zS;rfl;rfl;infer_instance;exact .cons rfl .nil;intro w _;exact need_true w;refine nSz<|vMz ?_;apply zS;rfl;rfl;infer_instance;exact .cons rfl .nil;intro w _;exact hBs w;refine vMz ?_;refine vEz ?_;refine vEz ?_;refine vAz<|vAz<|nSz<|vMz<|vMz ?_;apply LW.lay1;rfl;infer_instance;infer_instance;rfl;rfl;rfl;rfl;rfl;rfl;intro _)
 rename_i b3 b39
 have hsp:spendM (ma0 f e0 e1 e2 e3) [G]=some ((ma0 f e0 e1 e2 e3).setGas (f.gas - G)):=if_pos (by show G+0≤f.gas;omega)
 refine LW.perm (fs':=(b,maO (ma0 f e0 e1 e2 e3))::(b39,.cells #[.int .u64 (G:Int)] 26 (0,0))::(b3,.cells (opc X) 86 (0,0))::(g1++(g2++(g3++(g4++g5)))++rest)) (List.perm_middle (l₁:=[_,_])).symm ?_
 refine LW.callP (K:=MaK b (ma0 f e0 e1 e2 e3) (spendM (ma0 f e0 e1 e2 e3) [G]) _) rfl rfl inferInstance (by (exact .cons rfl (.cons rfl .nil))) rfl (fun fs h=>by rw [hsp] at h;cases h.1) (fun w' hst=>spend_calls w0 S b _ [G] hgl _ _ w' hst (fun w2 h2=>row_cells (h2.own (b39,_) (List.Mem.tail _ (List.Mem.head _))).2 rfl rfl (by simp [maxLen]))) ?_ ?_
 rotate_left
 ·rintro ch fs' h
  rw [hsp] at h;cases h.1
 rintro v fs' h
 rw [hsp] at h
 obtain ⟨h,rfl⟩:=h
 cases h
 (refine nSz<|vMz<|vNz<|vFz<|vFz<|vFz<|ldz rfl .head hrdS<|lvz (.lenR rfl inferInstance rfl)<|vAz<|nSz<|vMz<|vFz<|ldz rfl (.tail (.tail .head)) op_rd2 ?_;refine lvz (.geqT rfl rfl (by omega)) ?_;refine vMz<|gTz<|vMz<|gTz<|vFz<|gTz<|ldz rfl (.tail (.tail .head)) op_rd2<|gTz ?_;refine lvz (.subI rfl rfl (by omega) (by omega)) ?_;refine gTz<|vFz<|gTz<|ldz rfl (.tail (.tail .head)) op_rd3<|gTz ?_;refine lvz (.addI rfl rfl (by omega) (by omega)) ?_;refine gTz ?_;refine lvz (.leqT rfl rfl (by omega)) ?_;refine pTz ?_;apply zS;rfl;rfl;infer_instance;exact .cons rfl .nil;intro w _;exact need_true w;refine nNz<|zI ?_)
 apply CW.pre
 (refine AnyW.anyM [] 15 mixed (by decide +kernel) ?_)
 ((try simp only [tsOf_cons,tsOf_nil,tsOf_app]);refine dvz (.move rfl)<|dvz (.nilCheck rfl)<|dvz (.fieldAddr rfl rfl)<|dvz (.fieldAddr rfl rfl) ?_;apply qD;rfl;rfl;rfl;exact zC;rfl;apply zP;exact zN;exact hrdP;refine dvz (.addZL rfl rfl (by decide) (by omega)) ?_;refine dvz (.fieldAddr rfl rfl) ?_;apply qD;rfl;rfl;rfl;exact zC;rfl;apply zO;apply zO;apply zP;exact zN;exact op_rd4;refine dvz (.addZ rfl rfl (by omega)) ?_;refine dvz (.move rfl)<|dvz (.nilCheck rfl)<|dvz (.fieldAddr rfl rfl)<|dvz (.fieldAddr rfl rfl) ?_;apply qD;rfl;rfl;rfl;exact zC;rfl;apply zP;exact zN;exact hrdC;refine dvz (.lenR rfl inferInstance rfl) ?_;apply DW.nil;simp only [fsOf_cons,fsOf_nil,fsOf_app,fsOf_tsOf,fsOf_new])
 try simp only [fsOf_mark,fsOf_cons,fsOf_nil,fsOf_app,fsOf_tsOf,fsOf_new,fsOf_tag,List.append_eq,List.nil_append]
 (refine lvz (.minZ rfl rfl)<|vAz<|nNz<|zI<|sRz<|vMz<|vMz ?_)
 refine LW.callSt (K:=fun v fs'=>v=.bool false∧fs'=(b,maO ((ma0 f e0 e1 e2 e3).setGas (f.gas - G)))::(b39,.cells #[.int .u64 (G:Int)] 26 (0,0))::(b3,.cells (opc X) 86 (0,0))::(g1++(g2++(g3++(g4++g5)))++rest)) rfl rfl inferInstance (by (exact .cons rfl (.cons rfl .nil))) (fun w' hst=>Calls.mono (row_none w0 S b ((ma0 f e0 e1 e2 e3).setGas (f.gas - G)) _ op (by omega) (by omega) (by omega) ⟨_,_,_,hst2⟩ ⟨_,_,_,hst3⟩ w' hst) fun x w'' ⟨fs',hk,hst⟩=>⟨_,fs',hk.1,⟨rfl,hk.2⟩,hst⟩) ?_
 rintro _ _ ⟨rfl,rfl⟩
 (refine nNz<|cFz<|zJ<|thenN<|sRz<|vMz<|vMz<|vNz<|vFz<|vFz ?_;apply zR;rfl;rfl;apply qA;apply ma_wr1 (z:=.int .i64 0);refine nNz<|zI ?_)
 obtain ⟨m1,hm1⟩:∃ m1,(((ma0 f e0 e1 e2 e3).setGas (f.gas - G)).setF (((ma0 f e0 e1 e2 e3).setGas (f.gas - G)).fr.setPc ((min (pn+1+X.dt) L.cl.length:Nat):Int)))=m1:=⟨_,rfl⟩
 rw [hm1]
 have hs1:m1.fr.stk=.slice q2 L.ws.length k2:=by rw [← hm1];exact hst2
 have hs2:m1.fr.mem=.slice q3 L.ms.length k3:=by rw [← hm1];exact hst3
 have hrd2:∀ {E fr},Rd Tryz.prog 25 (.cells (mca m1) E fr) 2 (.agg #[.slice q2 L.ws.length k2,.slice q3 L.ms.length k3]):=fun {E fr}=>by rw [← hs1,← hs2];exact ma_rd2 (z:=.agg #[.slice none 0 0,.slice none 0 0])
 apply CW.pre
 (refine AnyW.anyM [(9,PopR L.ws L.ms X.tk)] 21 mixed (by decide +kernel) ?_)
 ((try simp only [tsOf_cons,tsOf_nil,tsOf_app]);refine dvz (.move rfl)<|dvz (.move rfl)<|dvz (.move rfl)<|dvz (.nilCheck rfl)<|dvz (.fieldAddr rfl rfl)<|dvz (.fieldAddr rfl rfl) ?_;apply qD;rfl;rfl;rfl;exact zC;rfl;apply zP;exact zN;exact hrd2;refine dvz (.fieldAddr rfl rfl) ?_;apply qD;rfl;rfl;rfl;exact zC;rfl;apply zO;apply zO;apply zP;exact zN;exact op_rd2)
 refine DW.manyA (us2++us3) rfl rfl rfl (by (exact zC)) rfl inferInstance (by (exact .cons rfl (.cons rfl .nil))) ?_ (fun p hp=>AncT.lie (by (refine AncT.cons ?_ ?_;exact zN;refine AncT.cons ?_ ?_;exact zN;refine AncT.cons ?_ ?_;exact zN;refine AncT.app ?_ ?_;refine AncT.app ?_ ?_;exact AncT.tsOf;refine AncT.app ?_ ?_;exact AncT.tsOf;refine AncT.app ?_ ?_;exact AncT.tsOf;refine AncT.app ?_ ?_;exact AncT.tsOf;exact AncT.tsOf;exact AncT.tsOf)) ?_) (fun w _ hu=>?_) ?_
 ·rw [List.flatMap_cons,List.flatMap_cons,List.map_append,← hbl2,← hbl3,← blocks_sl ⟨q2,_,k2,rfl⟩,← blocks_sl ⟨q3,_,k3,rfl⟩]
  show ((blocksN 3 _++(blocksN 3 _++[]))++[])=_
  simp only [List.append_nil]
 ·rcases List.mem_append.1 hp with hp|hp
  ·have hp:=hin2 p hp
   simp [fsOf,tsOf,tsNew,tsTag,markAll,Function.comp_def,hp]
  ·have hp:=hin3 p hp
   simp [fsOf,tsOf,tsNew,tsTag,markAll,Function.comp_def,hp]
 ·exact pop_calls L.ws L.ms X.tk _ _ ht w (hrows2 w fun q hq=>hu q (List.mem_append_left _ hq)) (hrows3 w fun q hq=>hu q (List.mem_append_right _ hq)) hok
 rintro vP gP ⟨s1,c1,t1,h1,h2,h3,rfl,rfl,hw1,hb1,ht1⟩
 have hb1':=hb1
 have ht1':=ht1
 unfold wM at ht1'
 unfold bM at hb1'
 obtain ⟨q5,k5,rfl⟩:=hw1.form
 obtain ⟨q6,k6,rfl⟩:=hb1'.form
 obtain ⟨q7,k7,rfl⟩:=ht1'.form
 (try simp only [markAll_cons,markAll_app,markAll_tsOf,markAll_tag,markAll_new,markAll_nil])
 ((try simp only [tsOf_cons,tsOf_nil,tsOf_app]);refine dvz (.move rfl) ?_;refine dvz (.extractN rfl rfl) ?_;refine dvz (.extractN rfl rfl) ?_;refine dvz (.extractN rfl rfl) ?_;refine dvz (.nilCheck rfl)<|dvz (.fieldAddr rfl rfl)<|dvz (.fieldAddr rfl rfl) ?_;apply DW.store;rfl;rfl;exact zC;rfl;rfl;apply TSet.app;apply TSet.head;exact zN;kernel_rfl;exact ma_wr2 rfl rfl rfl rfl;refine dvz (.nilCheck rfl)<|dvz (.fieldAddr rfl rfl) ?_;apply DW.store;rfl;rfl;exact zC;rfl;rfl;apply TSet.app;apply TSet.head;kernel_rfl;kernel_rfl;exact ma_wr18;apply DW.nil;simp only [fsOf_cons,fsOf_nil,fsOf_app,fsOf_tsOf,fsOf_new])
 try simp only [fsOf_mark,fsOf_cons,fsOf_nil,fsOf_app,fsOf_tsOf,fsOf_new,fsOf_tag,List.append_eq,List.nil_append]
 (refine nSz<|vMz<|vMz<|vNz<|vFz<|vFz ?_;refine zR rfl rfl (.app .head) ma_wr20<|nNz<|zI<|sRz ?_)
 have hL1:Instr.findNow (.int .u8) (.int .u8 (op:Int)) halvesE.toList 0=some none:=by rw [halves_find,hd1];rfl
 have hL2:Instr.findNow (.int .u8) (.int .u8 (op:Int)) saysE.toList 0=some none:=by rw [says_find,hd2];rfl
 have hL3:Instr.findNow (.int .u8) (.int .u8 (op:Int)) doesE.toList 0=some (some (i,.func (.func 171) #[] #[])):=by rw [does_find,hd3];rfl
 obtain ⟨m2,hm2⟩:∃ m2,(((m1.setSc (.slice q5 (List.take (L.ws.length - X.tk) L.ws).length k5) (.slice q6 L.ms.length k6)).setTook (.slice q7 (List.drop (L.ws.length - X.tk) L.ws).reverse.length k7)).setOp op)=m2:=⟨_,rfl⟩
 rw [hm2]
 have hm2t:m2.took=.slice q7 (List.drop (L.ws.length - X.tk) L.ws).reverse.length k7:=by rw [← hm2];rfl
 have hm2o:m2.op=op:=by rw [← hm2];rfl
 (apply LW.callR;rfl;rfl;infer_instance;exact ArgsOk.nil;intro w hs)
 exact halves_calls w
 rintro _ _ ⟨bh,rfl,rfl⟩
 simp only [List.cons_append,List.nil_append]
 (refine vMz ?_;apply LW.mapGet;rfl;infer_instance;infer_instance;infer_instance;rfl;rfl;apply qE;apply zY;rfl;assumption;rfl;refine vMz ?_;refine vEz ?_;refine vEz ?_;refine vAz<|vAz<|nSz<|vMz<|nNz<|cFz<|sRz ?_)
 (apply LW.callR;rfl;rfl;infer_instance;exact ArgsOk.nil;intro w hs)
 exact says_calls w
 rintro _ _ ⟨by1,rfl,rfl⟩
 simp only [List.cons_append,List.nil_append]
 (refine vMz ?_;apply LW.mapGet;rfl;infer_instance;infer_instance;infer_instance;rfl;rfl;apply qE;apply zY;rfl;assumption;rfl;refine vMz ?_;refine vEz ?_;refine vEz ?_;refine vAz<|vAz<|nSz<|vMz<|nNz<|cFz<|sRz ?_)
 (apply LW.callR;rfl;rfl;infer_instance;exact ArgsOk.nil;intro w hs)
 exact does_calls w
 rintro _ _ ⟨bd,rfl,rfl⟩
 simp only [List.cons_append,List.nil_append]
 (refine vMz ?_;apply LW.mapGet;rfl;infer_instance;infer_instance;infer_instance;rfl;rfl;apply qE;apply zY;rfl;assumption;rfl;refine vMz ?_;refine vEz ?_;refine vEz ?_;refine vAz<|vAz<|nSz<|vMz<|nNz<|cTz<|zL<|vMz<|vMz ?_)
 refine LW.perm (List.perm_middle (l₁:=_::_::_::(h3++(h2++h1)))).symm ?_
 refine LW.callSt (K:=fun v fs'=>v=.tuple #[]∧fs'=(b,maO (m2.setAsk 1 op m2.took (.slice none 0 0)))::_) rfl rfl inferInstance (by (exact .cons rfl .nil)) (fun w' hst=>Calls.mono (state_calls w0 S b m2 _ ⟨_,_,_,hm2t⟩ w' hst) fun x w'' ⟨fs',hk,hst⟩=>⟨_,fs',hk.1,⟨rfl,by rw [hk.2,hm2o]⟩,hst⟩) ?_
 rintro _ _ ⟨rfl,rfl⟩
 obtain ⟨m3,hm3⟩:∃ m3,m2.setAsk 1 op m2.took (.slice none 0 0)=m3:=⟨_,rfl⟩
 rw [hm3]
 have hk3:m3.kind=((1:Nat):Int):=by rw [← hm3];rfl
 have hrd19:∀ {E fr},Rd Tryz.prog 3 (.cells (mca m3) E fr) 19 (.int .i64 1):=fun {E fr}=>by rw [← show m3.kind=1 from hk3];exact ma_rd19
 (refine nSz<|vMz<|vNz<|vFz<|vFz<|ldz rfl .head hrd19 ?_;refine lvz (.eqF rfl rfl (by omega)) ?_;refine nNz<|cFz<|zJ ?_)
 have hcF:FrP m3.fr (L.setW (L.ws.take (L.ws.length - X.tk))) (g1++(h1++(h2++(g4++g5)))):=by
  have e1:m3.fr.code=f.code:=by rw [← hm3,← hm2,← hm1];rfl
  have e2:m3.fr.stk=.slice q5 (List.take (L.ws.length - X.tk) L.ws).length k5:=by rw [← hm3,← hm2];rfl
  have e3:m3.fr.mem=.slice q6 L.ms.length k6:=by rw [← hm3,← hm2];rfl
  have e4:m3.fr.inp=f.inp:=by rw [← hm3,← hm2,← hm1];rfl
  have e5:m3.fr.back=f.back:=by rw [← hm3,← hm2,← hm1];rfl
  refine ⟨g1,h1,h2,g4,g5,.refl _,?_,?_,?_,?_,?_⟩
  ·rw [e1,hst1];exact r1
  ·rw [e2];exact hw1
  ·rw [e3];exact hb1
  ·rw [e4,hgb5.1];exact r4
  ·rw [e5,hgb5.2];exact r5
 have hmE:m3=(((ma0 ((f.setR (f.gas - G) (.slice q5 (List.take (L.ws.length - X.tk) L.ws).length k5) (.slice q6 L.ms.length k6)).setPc ((min (pn+1+X.dt) L.cl.length:Nat):Int)) e0 e1 e2 e3).setTook (.slice q7 (List.drop (L.ws.length - X.tk) L.ws).reverse.length k7)).setAsk 1 op (.slice q7 (List.drop (L.ws.length - X.tk) L.ws).reverse.length k7) (.slice none 0 0)):=by
  rw [← hm3,← hm2,← hm1]
  rfl
 refine inPI (.inr rfl) .nil rfl .nil rfl ⟨_,⟨rfl,m3,h3++(g1++(h1++(h2++(g4++g5)))),hGd m3 _ ⟨_,_,_,_,_,hmE,hcF,ht1,rfl⟩,rfl⟩,?_⟩
 simp only [List.append_assoc,List.cons_append,List.nil_append]
 exact subp_ix [[_],[_],[_],[_],h3,h2,h1,[_],[_],g1,g2,g3,g4,g5] (xs:=[0,4,9,6,5,12,13]) (ys:=[0,1,2,3,4,5,6,7,8,9,10,11,12,13]) rest rfl
end
section
open CK (dataC)
attribute [local irreducible] SL.inP opOf opX gasB
def LaidM (f:FrV) (L:FrL) (e0 e1 e2 e3 op:Nat) (z:Nat) (m:MaV) (gs:Fs):Prop:=∃ s k t,m=(((ma0 ((f.setR (f.gas - gasB op) s k).setPc ((min (f.pc.toNat+1+(opX op).dt) L.cl.length:Nat):Int)) e0 e1 e2 e3).setTook t).setAsk 0 0 (.slice none 0 0) (.slice none 0 0))∧FrO m.fr (L.setW (L.ws.take (L.ws.length - (opX op).tk)++[z])) gs
theorem step_half (w0:World) (S:List Nat) (b:Nat) (f:FrV) (L:FrL) (e0 e1 e2 e3:Nat) (gs rest:Fs) (op i x y z:Nat) (fid:FuncId) (hFn:FnI Tryz.prog fid) (hz:∀ w',Calls Tryz.prog fid #[wv x,wv y] w' (Ret w' (wv z))) (hxy:(L.ws.drop (L.ws.length - 2)).reverse=[x,y]) (htk:(opX op).tk=2) (hly:(opX op).ly=1) (hF:okF f L) (hop:opF f L=op) (ho:(opOf op).isSome=true) (hi:op ≠ 254) (hr1:op < 96∨159 < op) (hd1:halvesF op=some (i,fid)) (hg:gasB op≤f.gas) (ht:(opX op).tk≤L.ws.length) (hf:L.ws.length - (opX op).tk+(opX op).ly≤64) (hfr:FrO f L gs) (w:World) (hs:St w0 S ((b,maO (ma0 f e0 e1 e2 e3))::(gs++rest)) w) :
  Calls Tryz.prog 42 #[.pointer (some ⟨b,0,none⟩)] w (fun x w'=>∃ fs',(x=.returned (.tuple #[])∧∃ m' gs',LaidM f L e0 e1 e2 e3 op z m' gs'∧fs'=(b,maO m')::(gs'++rest))∧St w0 S fs' w'):=by
 obtain ⟨code,pc,stk,mem,gas,self,frm,val,inp,back,stat⟩:=f
 obtain ⟨g1,g2,g3,g4,g5,hp,r1,r2,r3,r4,r5⟩:=id hfr
 unfold bM at r1 r3
 unfold wM at r2
 dsimp only at r1 r2 r3
 obtain ⟨q1,k1,rfl⟩:=id r1.form
 obtain ⟨q2,k2,rfl⟩:=id r2.form
 obtain ⟨q3,k3,rfl⟩:=id r3.form
 obtain ⟨us2,hbl2,hin2,hrows2⟩:=rowU_own r2
 obtain ⟨us3,hbl3,hin3,hrows3⟩:=rowU_own r3
 replace hs:St w0 S ((b,maO (ma0 _ e0 e1 e2 e3))::(g1++(g2++(g3++(g4++g5)))++rest)) w:=hs.perm (List.Perm.cons _ (hp.append_right rest))
 obtain ⟨f,hfe⟩:∃ f:FrV,f=⟨.slice q1 L.cl.length k1,pc,.slice q2 L.ws.length k2,.slice q3 L.ms.length k3,gas,self,frm,val,inp,back,stat⟩:=⟨_,rfl⟩
 rw [← hfe] at hF hop hg hfr hs ⊢
 have hst1:f.code=.slice q1 L.cl.length k1:=by rw [hfe]
 have hst2:f.stk=.slice q2 L.ws.length k2:=by rw [hfe]
 have hst3:f.mem=.slice q3 L.ms.length k3:=by rw [hfe]
 have hgb5:f.inp=inp∧f.back=back:=by rw [hfe];exact ⟨rfl,rfl⟩
 clear hfe
 have hrdS:∀ {g E fr},Rd Tryz.prog 23 (.cells (mca ((ma0 f e0 e1 e2 e3).setGas g)) E fr) 2 (.slice q2 L.ws.length k2):=fun {g E fr}=>by rw [← hst2];exact ma_rd2s (m:=(ma0 f e0 e1 e2 e3).setGas g)
 have hrdC:∀ {g E fr},Rd Tryz.prog 22 (.cells (mca ((ma0 f e0 e1 e2 e3).setGas g)) E fr) 0 (.slice q1 L.cl.length k1):=fun {g E fr}=>by rw [← hst1];exact ma_rd0 (m:=(ma0 f e0 e1 e2 e3).setGas g)
 obtain ⟨pn,hpn⟩:∃ pn:Nat,f.pc=(pn:Int):=by
  rcases okF_pc hF with h|h
  ·exact ⟨_,h⟩
  ·exact ⟨f.pc.toNat,by omega⟩
 have hpl:pn≤L.cl.length:=by
  rcases okF_pc hF with h|h<;>omega
 have hcl2:L.cl.length≤200:=hF.2.2.1
 have hrdP:∀ {g E fr},Rd Tryz.prog 3 (.cells (mca ((ma0 f e0 e1 e2 e3).setGas g)) E fr) 1 (.int .i64 (pn:Int)):=fun {g E fr}=>by rw [← hpn];exact ma_rd1 (m:=(ma0 f e0 e1 e2 e3).setGas g)
 have hpt:f.pc.toNat=pn:=by rw [hpn];exact Int.toNat_natCast pn
 have hgl:f.gas < 18446744073709551616:=by have:=hF.1.2.2;omega
 have hok:okSc L.ws.length L.ms.length:=hF.2.2.2.1
 have hN:∀ w',(∀ q∈gs,w'.heap[q.1]?=some q.2)→Calls Tryz.prog 82 #[frv f] w' (Ret w' (.int .u8 (op:Int))):=fun w' h=>by
  have h:=next_calls f L (okF_pc hF) w' (hfr.us h)
  rwa [hop] at h
 have hN:∀ w',(∀ q∈g1++(g2++(g3++(g4++g5))),w'.heap[q.1]?=some q.2)→Calls Tryz.prog 82 #[frv f] w' (Ret w' (.int .u8 (op:Int))):=fun w' h=>hN w' fun q hq=>h q (hp.symm.subset hq)
 have hsl:=hfr.sl
 have hop2:op < 256:=by rw [← hop];exact opF_lt f L
 have o5:(opX op).dt≤32:=by rw [opX_dt];exact CK.szOf_le _
 obtain ⟨e,hOf,he⟩:=OfX_calls op (by omega) w
 rw [if_pos ho] at he
 subst he
 obtain ⟨G,hG⟩:∃ G,gasB op=G:=⟨_,rfl⟩
 have hBs:∀ w',Calls Tryz.prog 93 #[.int .u8 (op:Int)] w' (Ret w' (.tuple #[.int .u64 (G:Int),.int .i64 0])):=fun w'=>by
  have h:=Base_calls op (by omega) w'
  obtain ⟨y,hy⟩:=Option.isSome_iff_exists.1 ho
  rw [hy] at h
  rw [← hG]
  exact h
 have hGd:∀ m gs,(∃ s k t,m=(((ma0 ((f.setR (f.gas - G) s k).setPc ((min (pn+1+(opX op).dt) L.cl.length:Nat):Int)) e0 e1 e2 e3).setTook t).setAsk 0 0 (.slice none 0 0) (.slice none 0 0))∧FrO m.fr (L.setW (L.ws.take (L.ws.length - (opX op).tk)++[z])) gs)→LaidM f L e0 e1 e2 e3 op z m gs:=fun m gs h=>by
  unfold LaidM
  rw [hG,hpt]
  exact h
 rw [hG] at hg
 obtain ⟨X,hX⟩:∃ X,opX op=X:=⟨_,rfl⟩
 rw [hX] at ht hf o5 hGd hOf htk hly
 refine calls_anyO (calls_inlineP (K:=anyO fun x fs'=>x=.returned (.tuple #[])∧∃ m' gs',LaidM f L e0 e1 e2 e3 op z m' gs'∧fs'=(b,maO m')::(gs'++rest)) (args:=[_]) Tryz.func42 rfl Tryz.ntmps42 rfl ?_ hs)
 (refine sRz<|vMz<|vNz<|vFz<|ldz rfl .head ma_rdF ?_;apply zS;rfl;rfl;infer_instance;exact .cons rfl .nil;intro w _;rename_i hst;(exact hN w (st_ou hst (by (repeat (first|exact qN _|exact qQ _ _|apply qR|apply List.sublist_append_of_sublist_right)))));refine vAz<|nSz<|vMz ?_;apply zS;rfl;rfl;infer_instance;exact .cons rfl .nil;intro w _;exact hOf w;refine vMz ?_;refine vEz ?_;refine vEz ?_;apply zU;rfl;intro _;apply zR;rfl;rfl;apply qA;apply op_wrW;rfl;refine vAz<|nSz<|vMz ?_;refine lvz (.eqT rfl rfl (by omega)) ?_;refine vMz<|gTz<|vMz<|gTz ?_;refine lvz (.neT rfl rfl (by omega)) ?_;refine pTz ?_;apply zS;rfl;rfl;infer_instance;exact .cons rfl .nil;intro w _;exact need_true w;refine nSz<|vMz ?_;apply zS;rfl;rfl;infer_instance;exact .cons rfl .nil;intro w _;exact hBs w;refine vMz ?_;refine vEz ?_;refine vEz ?_;refine vAz<|vAz<|nSz<|vMz<|vMz ?_;apply LW.lay1;rfl;infer_instance;infer_instance;rfl;rfl;rfl;rfl;rfl;rfl;intro _)
 rename_i b3 b39
 have hsp:spendM (ma0 f e0 e1 e2 e3) [G]=some ((ma0 f e0 e1 e2 e3).setGas (f.gas - G)):=if_pos (by show G+0≤f.gas;omega)
 refine LW.perm (fs':=(b,maO (ma0 f e0 e1 e2 e3))::(b39,.cells #[.int .u64 (G:Int)] 26 (0,0))::(b3,.cells (opc X) 86 (0,0))::(g1++(g2++(g3++(g4++g5)))++rest)) (List.perm_middle (l₁:=[_,_])).symm ?_
 refine LW.callP (K:=MaK b (ma0 f e0 e1 e2 e3) (spendM (ma0 f e0 e1 e2 e3) [G]) _) rfl rfl inferInstance (by (exact .cons rfl (.cons rfl .nil))) rfl (fun fs h=>by rw [hsp] at h;cases h.1) (fun w' hst=>spend_calls w0 S b _ [G] hgl _ _ w' hst (fun w2 h2=>row_cells (h2.own (b39,_) (List.Mem.tail _ (List.Mem.head _))).2 rfl rfl (by simp [maxLen]))) ?_ ?_
 rotate_left
 ·rintro ch fs' h
  rw [hsp] at h;cases h.1
 rintro v fs' h
 rw [hsp] at h
 obtain ⟨h,rfl⟩:=h
 cases h
 (refine nSz<|vMz<|vNz<|vFz<|vFz<|vFz<|ldz rfl .head hrdS<|lvz (.lenR rfl inferInstance rfl)<|vAz<|nSz<|vMz<|vFz<|ldz rfl (.tail (.tail .head)) op_rd2 ?_;refine lvz (.geqT rfl rfl (by omega)) ?_;refine vMz<|gTz<|vMz<|gTz<|vFz<|gTz<|ldz rfl (.tail (.tail .head)) op_rd2<|gTz ?_;refine lvz (.subZ rfl rfl (by omega) (by omega)) ?_;refine gTz<|vFz<|gTz<|ldz rfl (.tail (.tail .head)) op_rd3<|gTz ?_;refine lvz (.addZ rfl rfl (by omega)) ?_;refine gTz ?_;refine lvz (.leqT rfl rfl (by omega)) ?_;refine pTz ?_;apply zS;rfl;rfl;infer_instance;exact .cons rfl .nil;intro w _;exact need_true w;refine nNz<|zI ?_)
 apply CW.pre
 (refine AnyW.anyM [] 15 mixed (by decide +kernel) ?_)
 ((try simp only [tsOf_cons,tsOf_nil,tsOf_app]);refine dvz (.move rfl)<|dvz (.nilCheck rfl)<|dvz (.fieldAddr rfl rfl)<|dvz (.fieldAddr rfl rfl) ?_;apply qD;rfl;rfl;rfl;exact zC;rfl;apply zP;exact zN;exact hrdP;refine dvz (.addZL rfl rfl (by decide) (by omega)) ?_;refine dvz (.fieldAddr rfl rfl) ?_;apply qD;rfl;rfl;rfl;exact zC;rfl;apply zO;apply zO;apply zP;exact zN;exact op_rd4;refine dvz (.addZ rfl rfl (by omega)) ?_;refine dvz (.move rfl)<|dvz (.nilCheck rfl)<|dvz (.fieldAddr rfl rfl)<|dvz (.fieldAddr rfl rfl) ?_;apply qD;rfl;rfl;rfl;exact zC;rfl;apply zP;exact zN;exact hrdC;refine dvz (.lenR rfl inferInstance rfl) ?_;apply DW.nil;simp only [fsOf_cons,fsOf_nil,fsOf_app,fsOf_tsOf,fsOf_new])
 try simp only [fsOf_mark,fsOf_cons,fsOf_nil,fsOf_app,fsOf_tsOf,fsOf_new,fsOf_tag,List.append_eq,List.nil_append]
 (refine lvz (.minZ rfl rfl)<|vAz<|nNz<|zI<|sRz<|vMz<|vMz ?_)
 refine LW.callSt (K:=fun v fs'=>v=.bool false∧fs'=(b,maO ((ma0 f e0 e1 e2 e3).setGas (f.gas - G)))::(b39,.cells #[.int .u64 (G:Int)] 26 (0,0))::(b3,.cells (opc X) 86 (0,0))::(g1++(g2++(g3++(g4++g5)))++rest)) rfl rfl inferInstance (by (exact .cons rfl (.cons rfl .nil))) (fun w' hst=>Calls.mono (row_none w0 S b ((ma0 f e0 e1 e2 e3).setGas (f.gas - G)) _ op (by omega) (by omega) (by omega) ⟨_,_,_,hst2⟩ ⟨_,_,_,hst3⟩ w' hst) fun x w'' ⟨fs',hk,hst⟩=>⟨_,fs',hk.1,⟨rfl,hk.2⟩,hst⟩) ?_
 rintro _ _ ⟨rfl,rfl⟩
 (refine nNz<|cFz<|zJ<|thenN<|sRz<|vMz<|vMz<|vNz<|vFz<|vFz ?_;apply zR;rfl;rfl;apply qA;apply ma_wr1 (z:=.int .i64 0);refine nNz<|zI ?_)
 obtain ⟨m1,hm1⟩:∃ m1,(((ma0 f e0 e1 e2 e3).setGas (f.gas - G)).setF (((ma0 f e0 e1 e2 e3).setGas (f.gas - G)).fr.setPc ((min (pn+1+X.dt) L.cl.length:Nat):Int)))=m1:=⟨_,rfl⟩
 rw [hm1]
 have hs1:m1.fr.stk=.slice q2 L.ws.length k2:=by rw [← hm1];exact hst2
 have hs2:m1.fr.mem=.slice q3 L.ms.length k3:=by rw [← hm1];exact hst3
 have hrd2:∀ {E fr},Rd Tryz.prog 25 (.cells (mca m1) E fr) 2 (.agg #[.slice q2 L.ws.length k2,.slice q3 L.ms.length k3]):=fun {E fr}=>by rw [← hs1,← hs2];exact ma_rd2 (z:=.agg #[.slice none 0 0,.slice none 0 0])
 apply CW.pre
 (refine AnyW.anyM [(9,PopR L.ws L.ms X.tk)] 21 mixed (by decide +kernel) ?_)
 ((try simp only [tsOf_cons,tsOf_nil,tsOf_app]);refine dvz (.move rfl)<|dvz (.move rfl)<|dvz (.move rfl)<|dvz (.nilCheck rfl)<|dvz (.fieldAddr rfl rfl)<|dvz (.fieldAddr rfl rfl) ?_;apply qD;rfl;rfl;rfl;exact zC;rfl;apply zP;exact zN;exact hrd2;refine dvz (.fieldAddr rfl rfl) ?_;apply qD;rfl;rfl;rfl;exact zC;rfl;apply zO;apply zO;apply zP;exact zN;exact op_rd2)
 refine DW.manyA (us2++us3) rfl rfl rfl (by (exact zC)) rfl inferInstance (by (exact .cons rfl (.cons rfl .nil))) ?_ (fun p hp=>AncT.lie (by (refine AncT.cons ?_ ?_;exact zN;refine AncT.cons ?_ ?_;exact zN;refine AncT.cons ?_ ?_;exact zN;refine AncT.app ?_ ?_;refine AncT.app ?_ ?_;exact AncT.tsOf;refine AncT.app ?_ ?_;exact AncT.tsOf;refine AncT.app ?_ ?_;exact AncT.tsOf;refine AncT.app ?_ ?_;exact AncT.tsOf;exact AncT.tsOf;exact AncT.tsOf)) ?_) (fun w _ hu=>?_) ?_
 ·rw [List.flatMap_cons,List.flatMap_cons,List.map_append,← hbl2,← hbl3,← blocks_sl ⟨q2,_,k2,rfl⟩,← blocks_sl ⟨q3,_,k3,rfl⟩]
  show ((blocksN 3 _++(blocksN 3 _++[]))++[])=_
  simp only [List.append_nil]
 ·rcases List.mem_append.1 hp with hp|hp
  ·have hp:=hin2 p hp
   simp [fsOf,tsOf,tsNew,tsTag,markAll,Function.comp_def,hp]
  ·have hp:=hin3 p hp
   simp [fsOf,tsOf,tsNew,tsTag,markAll,Function.comp_def,hp]
 ·exact pop_calls L.ws L.ms X.tk _ _ ht w (hrows2 w fun q hq=>hu q (List.mem_append_left _ hq)) (hrows3 w fun q hq=>hu q (List.mem_append_right _ hq)) hok
 rintro vP gP ⟨s1,c1,t1,h1,h2,h3,rfl,rfl,hw1,hb1,ht1⟩
 have hb1':=hb1
 have ht1':=ht1
 unfold wM at ht1'
 unfold bM at hb1'
 obtain ⟨q5,k5,rfl⟩:=hw1.form
 obtain ⟨q6,k6,rfl⟩:=hb1'.form
 obtain ⟨q7,k7,rfl⟩:=ht1'.form
 (try simp only [markAll_cons,markAll_app,markAll_tsOf,markAll_tag,markAll_new,markAll_nil])
 ((try simp only [tsOf_cons,tsOf_nil,tsOf_app]);refine dvz (.move rfl) ?_;refine dvz (.extractN rfl rfl) ?_;refine dvz (.extractN rfl rfl) ?_;refine dvz (.extractN rfl rfl) ?_;refine dvz (.nilCheck rfl)<|dvz (.fieldAddr rfl rfl)<|dvz (.fieldAddr rfl rfl) ?_;apply DW.store;rfl;rfl;exact zC;rfl;rfl;apply TSet.app;apply TSet.head;exact zN;kernel_rfl;exact ma_wr2 rfl rfl rfl rfl;refine dvz (.nilCheck rfl)<|dvz (.fieldAddr rfl rfl) ?_;apply DW.store;rfl;rfl;exact zC;rfl;rfl;apply TSet.app;apply TSet.head;kernel_rfl;kernel_rfl;exact ma_wr18;apply DW.nil;simp only [fsOf_cons,fsOf_nil,fsOf_app,fsOf_tsOf,fsOf_new])
 try simp only [fsOf_mark,fsOf_cons,fsOf_nil,fsOf_app,fsOf_tsOf,fsOf_new,fsOf_tag,List.append_eq,List.nil_append]
 (refine nSz<|vMz<|vMz<|vNz<|vFz<|vFz ?_;refine zR rfl rfl (.app .head) ma_wr20<|nNz<|zI<|sRz ?_)
 have hL1:Instr.findNow (.int .u8) (.int .u8 (op:Int)) halvesE.toList 0=some (some (i,.func (.func fid) #[] #[])):=by rw [halves_find,hd1];rfl
 obtain ⟨m2,hm2⟩:∃ m2,(((m1.setSc (.slice q5 (List.take (L.ws.length - X.tk) L.ws).length k5) (.slice q6 L.ms.length k6)).setTook (.slice q7 (List.drop (L.ws.length - X.tk) L.ws).reverse.length k7)).setOp op)=m2:=⟨_,rfl⟩
 rw [hm2]
 have hm2t:m2.took=.slice q7 (List.drop (L.ws.length - X.tk) L.ws).reverse.length k7:=by rw [← hm2];rfl
 have hm2o:m2.op=op:=by rw [← hm2];rfl
 (apply LW.callR;rfl;rfl;infer_instance;exact ArgsOk.nil;intro w hs)
 exact halves_calls w
 rintro _ _ ⟨bh,rfl,rfl⟩
 simp only [List.cons_append,List.nil_append]
 (refine vMz ?_;apply LW.mapGet;rfl;infer_instance;infer_instance;infer_instance;rfl;rfl;apply qE;apply zY;rfl;assumption;rfl;refine vMz ?_;refine vEz ?_;refine vEz ?_;refine vAz<|vAz<|nSz<|vMz<|nNz<|cTz ?_)
 have hlen2:(List.drop (L.ws.length - X.tk) L.ws).reverse=[x,y]:=by rw [htk];exact hxy
 rw [hlen2] at hm2t
 have ht2:wM [x,y] (.slice q7 2 k7) h3:=by
  have h:=ht1
  rw [hlen2] at h
  exact h
 unfold wM at ht2
 obtain ⟨gt,cur,rfl,rfl,hn9,hm9,hsz9,htk9⟩:=ht2.pos (by show 0 < 2;omega)
 have hrdT:∀ {E fr},Rd Tryz.prog 23 (.cells (mca m2) E fr) 18 (.slice (some ⟨gt,0,none⟩) 2 k7):=fun {E fr}=>by rw [show Value.slice (some ⟨gt,0,none⟩) 2 k7=m2.took from hm2t.symm];exact ma_rd18
 have hrdX:Rd Tryz.prog 29 (.cells cur 29 (0,0)) (0+0 * 4) (wv x):=word_rd (l:=[x,y]) (by rw [List.drop_zero];exact htk9) 0 (by show 0 < 2;omega)
 have hrdY:Rd Tryz.prog 29 (.cells cur 29 (0,0)) (0+1 * 4) (wv y):=word_rd (l:=[x,y]) (by rw [List.drop_zero];exact htk9) 1 (by show 1 < 2;omega)
 apply CW.pre
 (refine AnyW.anyM [] 16 mixed (by decide +kernel) ?_)
 ((try simp only [tsOf_cons,tsOf_nil,tsOf_app]);refine dvz (.move rfl)<|dvz (.move rfl)<|dvz (.move rfl)<|dvz (.nilCheck rfl)<|dvz (.fieldAddr rfl rfl) ?_;apply qD;rfl;rfl;rfl;exact zC;rfl;apply zO;apply zO;apply zQ;apply zP;exact zN;exact hrdT;refine dvz (.indexAddrSL rfl rfl (by decide) (by omega)) ?_;apply qD;rfl;rfl;rfl;exact zC;rfl;apply zO;apply zP;exact zN;exact hrdX;refine dvz (.move rfl)<|dvz (.nilCheck rfl)<|dvz (.fieldAddr rfl rfl) ?_;apply qD;rfl;rfl;rfl;exact zC;rfl;apply zO;apply zO;apply zQ;apply zP;exact zN;exact hrdT;refine dvz (.indexAddrSL rfl rfl (by decide) (by omega)) ?_;apply qD;rfl;rfl;rfl;exact zC;rfl;apply zO;apply zP;exact zN;exact hrdY)
 refine DW.callA [] (v:=wv z) rfl rfl rfl (by (exact zC)) rfl hFn (by (exact .cons rfl (.cons rfl .nil))) rfl (fun p hp=>absurd hp List.not_mem_nil) (fun w _ hu=>hz w) ?_
 (try simp only [markAll_cons,markAll_app,markAll_tsOf,markAll_tag,markAll_new,markAll_nil])
 ((try simp only [tsOf_cons,tsOf_nil,tsOf_app]);apply DW.layA;rfl;rfl;rfl;exact zC;infer_instance;infer_instance;rfl;rfl;rfl;rfl;rfl;intro _;apply DW.nil;simp only [fsOf_cons,fsOf_nil,fsOf_app,fsOf_tsOf,fsOf_new])
 try simp only [fsOf_mark,fsOf_cons,fsOf_nil,fsOf_app,fsOf_tsOf,fsOf_new,fsOf_tag,List.append_eq,List.nil_append]
 skip
 rename_i bz
 obtain ⟨R,hR⟩:∃ R,((b39,Obj.cells #[.int .u64 (G:Int)] 26 (0,0))::(b3,Obj.cells (opc X) 86 (0,0))::(g1++(g2++(g3++(g4++g5)))++rest))=R:=⟨_,rfl⟩
 rw [hR]
 have hms:m2.fr.stk=.slice q5 (List.take (L.ws.length - X.tk) L.ws).length k5:=by rw [← hm2];rfl
 have hmm:m2.fr.mem=.slice q6 L.ms.length k6:=by rw [← hm2];rfl
 have hwl:(L.ws.take (L.ws.length - X.tk)).length=L.ws.length - X.tk:=by rw [List.length_take];omega
 have hok3:okSc (L.ws.take (L.ws.length - X.tk)).length L.ms.length:=by
  unfold okSc at hok ⊢
  rw [hwl]
  omega
 refine LW.perm (List.perm_middle (l₁:=(bz,.cells (wc z) 29 (0,0))::(bh,.map halvesE 13)::(gt,.cells cur 29 (0,0))::(h2++h1))).symm ?_
 refine LW.callSt (K:=fun v fs'=>v=.tuple #[]∧∃ s k gs c4,ScO (L.ws.take (L.ws.length - X.tk)++[z]) L.ms (.agg #[s,k]) gs∧fs'=c4::(gs++(b,maO (m2.setSc s k))::(((bz,.cells (wc z) 29 (0,0))::(bh,.map halvesE 13)::(gt,.cells cur 29 (0,0))::(h2++h1))++R))) rfl rfl inferInstance (by (exact .cons rfl (.cons rfl .nil))) (fun w' hst=>Calls.mono (lay_ok w0 S b m2 (L.ws.take (L.ws.length - X.tk)) L.ms [z] _ _ w' hst (fun w2 hw2=>⟨?_,?_,?_⟩) hok3 (by show 1≤100000;omega) (by rw [hwl];show _+1≤64;omega)) fun x w'' ⟨fs',hk,hst⟩=>⟨_,fs',hk.1,⟨rfl,hk.2⟩,hst⟩) ?_
 ·rw [hms]
  exact hw1.at fun p hp=>(hw2.own p (by simp [hp])).2
 ·rw [hmm]
  exact bM_at hb1 fun p hp=>(hw2.own p (by simp [hp])).2
 ·exact row_cells (hw2.own (bz,_) (List.Mem.tail _ (List.Mem.head _))).2 rfl rfl (by decide)
 rintro _ _ ⟨rfl,s9,k9,gs9,c4,⟨s',k',gg1,gg2,he,rfl,hw9,hb9⟩,rfl⟩
 cases he
 obtain ⟨m3,hm3⟩:∃ m3,m2.setSc s9 k9=m3:=⟨_,rfl⟩
 rw [hm3]
 have hk3:m3.kind=0:=by rw [← hm3,← hm2,← hm1];rfl
 have hrd19:∀ {E fr},Rd Tryz.prog 3 (.cells (mca m3) E fr) 19 (.int .i64 0):=fun {E fr}=>by rw [← hk3];exact ma_rd19
 (refine nSz<|vMz<|vNz<|vFz<|vFz<|ldz rfl (.tail (.app .head)) hrd19 ?_;refine lvz (.eqT rfl rfl (by omega)) ?_;refine nNz<|cTz<|zL<|vMz ?_;apply LW.v0;rfl;rfl;apply zW;infer_instance;infer_instance;exact zB;rfl;simp only [fillP,wrCells,Value.cells,qI,qJ,qK,qH,qM,qL,Nat.reduceAdd,qO];rfl;refine vNz<|vFz ?_;refine zR rfl rfl (.tail (.app .head)) ma_wr19 ?_;apply zV)
 obtain ⟨m4,hm4⟩:∃ m4,m3.setAsk 0 0 (.slice none 0 0) (.slice none 0 0)=m4:=⟨_,rfl⟩
 rw [hm4]
 have hcF:FrO m4.fr (L.setW (L.ws.take (L.ws.length - X.tk)++[z])) (g1++(gg1++(gg2++(g4++g5)))):=by
  have e1:m4.fr.code=f.code:=by rw [← hm4,← hm3,← hm2,← hm1];rfl
  have e2:m4.fr.stk=s9:=by rw [← hm4,← hm3];rfl
  have e3:m4.fr.mem=k9:=by rw [← hm4,← hm3];rfl
  have e4:m4.fr.inp=f.inp:=by rw [← hm4,← hm3,← hm2,← hm1];rfl
  have e5:m4.fr.back=f.back:=by rw [← hm4,← hm3,← hm2,← hm1];rfl
  refine ⟨g1,gg1,gg2,g4,g5,.refl _,?_,?_,?_,?_,?_⟩
  ·rw [e1,hst1];exact r1
  ·rw [e2];exact hw9
  ·rw [e3];exact hb9
  ·rw [e4,hgb5.1];exact r4
  ·rw [e5,hgb5.2];exact r5
 have hmE:m4=(((ma0 ((f.setR (f.gas - G) s9 k9).setPc ((min (pn+1+X.dt) L.cl.length:Nat):Int)) e0 e1 e2 e3).setTook m2.took).setAsk 0 0 (.slice none 0 0) (.slice none 0 0)):=by
  rw [← hm4,← hm3,← hm2,← hm1]
  rfl
 refine inPI (.inr rfl) .nil rfl .nil rfl ⟨_,⟨rfl,m4,g1++(gg1++(gg2++(g4++g5))),hGd m4 _ ⟨_,_,_,hmE,hcF⟩,rfl⟩,?_⟩
 rw [← hR]
 simp only [List.append_assoc,List.cons_append,List.nil_append]
 exact subp_ix [[_],gg2,gg1,[_],[_],[_],[_],h2,h1,[_],[_],g1,g2,g3,g4,g5] (xs:=[3,11,2,1,14,15]) (ys:=[0,1,2,3,4,5,6,7,8,9,10,11,12,13,14,15]) rest rfl
end
section
theorem first1_calls (a:Nat) (t:Bool) (w:World):Calls Tryz.prog 138 #[wv a,.bool t] w (Ret w (wv a)):=by
 refine enter (args:=[_,_]) _ [] [] Tryz.func138 rfl Tryz.ntmps138 rfl (by simp) .nil ?_
 (refine sRz ?_;apply zT;rfl;rfl;intro _;apply LW.allocW;rfl;intro _;refine nSz<|ldz rfl (.tail .head) (qF rfl) ?_;apply zR;rfl;rfl;apply qA;apply Wr.whole;rfl;rfl;rfl;refine nNz<|zK ?_)
 (apply finR;exact .inl rfl;rfl;rfl;rfl;apply zD;apply zH;rfl;apply qE;apply zY;exact qF rfl;exact zF)
 rfl
theorem first2_calls (a b:Nat) (w:World):Calls Tryz.prog 142 #[wv a,wv b] w (Ret w (wv a)):=by
 refine enter (args:=[_,_]) _ [] [] Tryz.func142 rfl Tryz.ntmps142 rfl (by simp) .nil ?_
 (refine sRz ?_;apply zT;rfl;rfl;intro _;apply zT;rfl;rfl;intro _;apply LW.allocW;rfl;intro _;refine nSz<|ldz rfl (.tail (.tail .head)) (qF rfl) ?_;apply zR;rfl;rfl;apply qA;apply Wr.whole;rfl;rfl;rfl;refine nNz<|zK ?_)
 (apply finR;exact .inl rfl;rfl;rfl;rfl;apply zD;apply zH;rfl;apply qE;apply zY;exact qF rfl;exact zF)
 rfl
theorem truth_calls (t:Bool) (w:World):Calls Tryz.prog 147 #[.bool t] w (Ret w (wv (if t then 1 else 0))):=by
 refine enter (args:=[_]) _ [] [] Tryz.func147 rfl Tryz.ntmps147 rfl (by simp) .nil ?_
 cases t with
 |true =>
  (refine sRz ?_;apply LW.allocW;rfl;intro _;refine nNz<|zI<|sRz<|vMz<|nNz<|cTz<|sRz ?_;apply zS;rfl;rfl;infer_instance;exact .cons rfl .nil;intro w _;exact Of_calls 1 (by decide) w;apply zR;rfl;rfl;apply qA;apply Wr.whole;rfl;rfl;rfl;refine nNz<|zK<|thenR ?_)
  (apply finR;exact .inl rfl;rfl;rfl;rfl;apply zD;apply zH;rfl;apply qE;apply zY;exact qF rfl;exact zF)
  rfl
 |false =>
  (refine sRz ?_;apply LW.allocW;rfl;intro _;refine nNz<|zI<|sRz<|vMz<|nNz<|cFz<|zJ<|thenN<|sRz ?_;apply zS;rfl;rfl;infer_instance;exact .cons rfl .nil;intro w _;exact Of_calls 0 (by decide) w;apply zR;rfl;rfl;apply qA;apply Wr.whole;rfl;rfl;rfl;refine nNz<|zK ?_)
  (apply finR;exact .inl rfl;rfl;rfl;rfl;apply zD;apply zH;rfl;apply qE;apply zY;exact qF rfl;exact zF)
  rfl
def halfV (op a b:Nat):Nat :=
 if op=1 then (a+b) % M256 else if op=3 then (a+M256 - b) % M256 else if op=2 then a * b % M256 else if op=4 then (if b=0 then 0 else a / b) else if op=6 then (if b=0 then 0 else a % b) else if op=22 then a &&& b else if op=23 then a |||b else if op=24 then a ^^^ b else if op=27 then b * 2 ^ min a 256 % M256 else if op=28 then b / 2 ^ min a 256 else if op=16 then (if a < b then 1 else 0) else if op=17 then (if b < a then 1 else 0) else (if a=b then 1 else 0)
section
variable (a b : Nat) (ha : a < M256) (hb : b < M256) (w : World)
include ha hb
theorem half1_calls:Calls Tryz.prog 137 #[wv a,wv b] w (Ret w (wv ((a+b) % M256))):=by
 refine enter (args:=[_,_]) _ [] [] Tryz.func137 rfl Tryz.ntmps137 rfl (by simp) .nil ?_
 (refine sRz ?_;apply zT;rfl;rfl;intro _;apply zT;rfl;rfl;intro _;apply LW.allocW;rfl;intro _;refine nSz<|ldz rfl (.tail (.tail .head)) (qF rfl)<|ldz rfl (.tail .head) (qF rfl) ?_;apply zS;rfl;rfl;infer_instance;exact .cons rfl (.cons rfl .nil);intro w _;exact Add_calls a b ha hb w;refine vEz ?_;refine vEz ?_;apply zS;rfl;rfl;infer_instance;exact .cons rfl (.cons rfl .nil);intro w _;exact first1_calls _ _ w;apply zR;rfl;rfl;apply qA;apply Wr.whole;rfl;rfl;rfl;refine nNz<|zK ?_)
 (apply finR;exact .inl rfl;rfl;rfl;rfl;apply zD;apply zH;rfl;apply qE;apply zY;exact qF rfl;exact zF)
 rfl
theorem half2_calls:Calls Tryz.prog 139 #[wv a,wv b] w (Ret w (wv ((a+M256 - b) % M256))):=by
 refine enter (args:=[_,_]) _ [] [] Tryz.func139 rfl Tryz.ntmps139 rfl (by simp) .nil ?_
 (refine sRz ?_;apply zT;rfl;rfl;intro _;apply zT;rfl;rfl;intro _;apply LW.allocW;rfl;intro _;refine nSz<|ldz rfl (.tail (.tail .head)) (qF rfl)<|ldz rfl (.tail .head) (qF rfl) ?_;apply zS;rfl;rfl;infer_instance;exact .cons rfl (.cons rfl .nil);intro w _;exact Sub_calls a b ha hb w;refine vEz ?_;refine vEz ?_;apply zS;rfl;rfl;infer_instance;exact .cons rfl (.cons rfl .nil);intro w _;exact first1_calls _ _ w;apply zR;rfl;rfl;apply qA;apply Wr.whole;rfl;rfl;rfl;refine nNz<|zK ?_)
 (apply finR;exact .inl rfl;rfl;rfl;rfl;apply zD;apply zH;rfl;apply qE;apply zY;exact qF rfl;exact zF)
 rfl
theorem half3_calls:Calls Tryz.prog 140 #[wv a,wv b] w (Ret w (wv (a * b % M256))):=by
 refine enter (args:=[_,_]) _ [] [] Tryz.func140 rfl Tryz.ntmps140 rfl (by simp) .nil ?_
 (refine sRz ?_;apply zT;rfl;rfl;intro _;apply zT;rfl;rfl;intro _;apply LW.allocW;rfl;intro _;refine nSz<|ldz rfl (.tail (.tail .head)) (qF rfl)<|ldz rfl (.tail .head) (qF rfl) ?_;apply zS;rfl;rfl;infer_instance;exact .cons rfl (.cons rfl .nil);intro w _;exact Mul_calls a b ha hb w;refine vEz ?_;refine vEz ?_;apply zS;rfl;rfl;infer_instance;exact .cons rfl (.cons rfl .nil);intro w _;exact first1_calls _ _ w;apply zR;rfl;rfl;apply qA;apply Wr.whole;rfl;rfl;rfl;refine nNz<|zK ?_)
 (apply finR;exact .inl rfl;rfl;rfl;rfl;apply zD;apply zH;rfl;apply qE;apply zY;exact qF rfl;exact zF)
 rfl
theorem half4_calls:Calls Tryz.prog 141 #[wv a,wv b] w (Ret w (wv (if b=0 then 0 else a / b))):=by
 have hD:∀ w,Calls Tryz.prog 20 #[wv a,wv b] w (Ret w (.tuple #[wv (if b=0 then 0 else a / b),wv (if b=0 then 0 else a % b)])):=fun w=>by
  by_cases h0:b=0
  ·subst h0;exact Div_calls0 a w
  ·rw [if_neg h0,if_neg h0];exact Div_calls a b ha hb h0 w
 refine enter (args:=[_,_]) _ [] [] Tryz.func141 rfl Tryz.ntmps141 rfl (by simp) .nil ?_
 (refine sRz ?_;apply zT;rfl;rfl;intro _;apply zT;rfl;rfl;intro _;apply LW.allocW;rfl;intro _;refine nSz<|ldz rfl (.tail (.tail .head)) (qF rfl)<|ldz rfl (.tail .head) (qF rfl) ?_;apply zS;rfl;rfl;infer_instance;exact .cons rfl (.cons rfl .nil);intro w _;exact hD w;refine vEz ?_;refine vEz ?_;apply zS;rfl;rfl;infer_instance;exact .cons rfl (.cons rfl .nil);intro w _;exact first2_calls _ _ w;apply zR;rfl;rfl;apply qA;apply Wr.whole;rfl;rfl;rfl;refine nNz<|zK ?_)
 (apply finR;exact .inl rfl;rfl;rfl;rfl;apply zD;apply zH;rfl;apply qE;apply zY;exact qF rfl;exact zF)
 rfl
theorem half5_calls:Calls Tryz.prog 143 #[wv a,wv b] w (Ret w (wv (if b=0 then 0 else a % b))):=by
 have hD:∀ w,Calls Tryz.prog 20 #[wv a,wv b] w (Ret w (.tuple #[wv (if b=0 then 0 else a / b),wv (if b=0 then 0 else a % b)])):=fun w=>by
  by_cases h0:b=0
  ·subst h0;exact Div_calls0 a w
  ·rw [if_neg h0,if_neg h0];exact Div_calls a b ha hb h0 w
 refine enter (args:=[_,_]) _ [] [] Tryz.func143 rfl Tryz.ntmps143 rfl (by simp) .nil ?_
 (refine sRz ?_;apply zT;rfl;rfl;intro _;apply zT;rfl;rfl;intro _;apply LW.allocW;rfl;intro _;refine nSz<|ldz rfl (.tail (.tail .head)) (qF rfl)<|ldz rfl (.tail .head) (qF rfl) ?_;apply zS;rfl;rfl;infer_instance;exact .cons rfl (.cons rfl .nil);intro w _;exact hD w;refine vMz ?_;refine vEz ?_;refine vEz ?_;apply LW.allocW;rfl;intro _;apply LW.allocW;rfl;intro _;apply zR;rfl;rfl;apply qB;apply qA;apply Wr.whole;rfl;rfl;rfl;apply zR;rfl;rfl;apply qA;apply Wr.whole;rfl;rfl;rfl;refine nSz<|ldz rfl .head (qF rfl) ?_;apply zR;rfl;rfl;apply qB;apply qB;apply qA;apply Wr.whole;rfl;rfl;rfl;refine nNz<|zK ?_)
 (apply finR;exact .inl rfl;rfl;rfl;rfl;apply zD;apply zH;rfl;apply qE;apply zX;apply zX;apply zY;exact qF rfl;exact zF)
 rfl
theorem half6_calls:Calls Tryz.prog 144 #[wv a,wv b] w (Ret w (wv (b * 2 ^ min a 256 % M256))):=by
 refine enter (args:=[_,_]) _ [] [] Tryz.func144 rfl Tryz.ntmps144 rfl (by simp) .nil ?_
 (refine sRz ?_;apply zT;rfl;rfl;intro _;apply zT;rfl;rfl;intro _;apply LW.allocW;rfl;intro _;refine nSz<|ldz rfl (.tail .head) (qF rfl)<|ldz rfl (.tail (.tail .head)) (qF rfl) ?_;apply zS;rfl;rfl;infer_instance;exact .cons rfl (.cons rfl .nil);intro w _;exact Shl_calls b a hb ha w;apply zR;rfl;rfl;apply qA;apply Wr.whole;rfl;rfl;rfl;refine nNz<|zK ?_)
 (apply finR;exact .inl rfl;rfl;rfl;rfl;apply zD;apply zH;rfl;apply qE;apply zY;exact qF rfl;exact zF)
 rfl
theorem half7_calls:Calls Tryz.prog 145 #[wv a,wv b] w (Ret w (wv (b / 2 ^ min a 256))):=by
 refine enter (args:=[_,_]) _ [] [] Tryz.func145 rfl Tryz.ntmps145 rfl (by simp) .nil ?_
 (refine sRz ?_;apply zT;rfl;rfl;intro _;apply zT;rfl;rfl;intro _;apply LW.allocW;rfl;intro _;refine nSz<|ldz rfl (.tail .head) (qF rfl)<|ldz rfl (.tail (.tail .head)) (qF rfl) ?_;apply zS;rfl;rfl;infer_instance;exact .cons rfl (.cons rfl .nil);intro w _;exact Shr_calls b a hb ha w;apply zR;rfl;rfl;apply qA;apply Wr.whole;rfl;rfl;rfl;refine nNz<|zK ?_)
 (apply finR;exact .inl rfl;rfl;rfl;rfl;apply zD;apply zH;rfl;apply qE;apply zY;exact qF rfl;exact zF)
 rfl
theorem half8_calls:Calls Tryz.prog 146 #[wv a,wv b] w (Ret w (wv (if a < b then 1 else 0))):=by
 refine enter (args:=[_,_]) _ [] [] Tryz.func146 rfl Tryz.ntmps146 rfl (by simp) .nil ?_
 (refine sRz ?_;apply zT;rfl;rfl;intro _;apply zT;rfl;rfl;intro _;apply LW.allocW;rfl;intro _;refine nSz<|ldz rfl (.tail (.tail .head)) (qF rfl)<|ldz rfl (.tail .head) (qF rfl) ?_;apply zS;rfl;rfl;infer_instance;exact .cons rfl (.cons rfl .nil);intro w _;exact Cmp_calls a b ha hb w;refine lvz (.lss rfl rfl) ?_;apply zS;rfl;rfl;infer_instance;exact .cons rfl .nil;intro w _;exact truth_calls _ w;apply zR;rfl;rfl;apply qA;apply Wr.whole;rfl;rfl;rfl;refine nNz<|zK ?_)
 (apply finR;exact .inl rfl;rfl;rfl;rfl;apply zD;apply zH;rfl;apply qE;apply zY;exact qF rfl;exact zF)
 refine congrArg wv ?_
 by_cases h1:a < b<;>by_cases h2:b < a<;>simp [h1,h2]
theorem half9_calls:Calls Tryz.prog 148 #[wv a,wv b] w (Ret w (wv (if b < a then 1 else 0))):=by
 refine enter (args:=[_,_]) _ [] [] Tryz.func148 rfl Tryz.ntmps148 rfl (by simp) .nil ?_
 (refine sRz ?_;apply zT;rfl;rfl;intro _;apply zT;rfl;rfl;intro _;apply LW.allocW;rfl;intro _;refine nSz<|ldz rfl (.tail (.tail .head)) (qF rfl)<|ldz rfl (.tail .head) (qF rfl) ?_;apply zS;rfl;rfl;infer_instance;exact .cons rfl (.cons rfl .nil);intro w _;exact Cmp_calls a b ha hb w;refine lvz (.gtr rfl rfl) ?_;apply zS;rfl;rfl;infer_instance;exact .cons rfl .nil;intro w _;exact truth_calls _ w;apply zR;rfl;rfl;apply qA;apply Wr.whole;rfl;rfl;rfl;refine nNz<|zK ?_)
 (apply finR;exact .inl rfl;rfl;rfl;rfl;apply zD;apply zH;rfl;apply qE;apply zY;exact qF rfl;exact zF)
 refine congrArg wv ?_
 by_cases h1:a < b<;>by_cases h2:b < a<;>simp [h1,h2]<;>omega
theorem half10_calls:Calls Tryz.prog 149 #[wv a,wv b] w (Ret w (wv (if a=b then 1 else 0))):=by
 refine enter (args:=[_,_]) _ [] [] Tryz.func149 rfl Tryz.ntmps149 rfl (by simp) .nil ?_
 (refine sRz ?_;apply zT;rfl;rfl;intro _;apply zT;rfl;rfl;intro _;apply LW.allocW;rfl;intro _;refine nSz<|ldz rfl (.tail (.tail .head)) (qF rfl)<|ldz rfl (.tail .head) (qF rfl) ?_;refine lvz (.eqW rfl rfl (by assumption) (by assumption)) ?_;apply zS;rfl;rfl;infer_instance;exact .cons rfl .nil;intro w _;exact truth_calls _ w;apply zR;rfl;rfl;apply qA;apply Wr.whole;rfl;rfl;rfl;refine nNz<|zK ?_)
 (apply finR;exact .inl rfl;rfl;rfl;rfl;apply zD;apply zH;rfl;apply qE;apply zY;exact qF rfl;exact zF)
 refine congrArg wv ?_
 by_cases h1:a=b<;>simp [h1]
theorem halfs_calls {op i:Nat} {fid:FuncId} (h:halvesF op=some (i,fid)):FnI Tryz.prog fid∧∀ w,Calls Tryz.prog fid #[wv a,wv b] w (Ret w (wv (halfV op a b))):=by
 unfold halvesF at h
 unfold halfV
 by_cases h1:op=1
 ·rw [if_pos h1] at h;rw [if_pos h1]
  obtain ⟨-,rfl⟩:=Prod.mk.inj (Option.some.inj h)
  exact ⟨inferInstance,fun w=>half1_calls a b ha hb w⟩
 rw [if_neg h1] at h
 rw [if_neg h1]
 by_cases h3:op=3
 ·rw [if_pos h3] at h;rw [if_pos h3]
  obtain ⟨-,rfl⟩:=Prod.mk.inj (Option.some.inj h)
  exact ⟨inferInstance,fun w=>half2_calls a b ha hb w⟩
 rw [if_neg h3] at h
 rw [if_neg h3]
 by_cases h2:op=2
 ·rw [if_pos h2] at h;rw [if_pos h2]
  obtain ⟨-,rfl⟩:=Prod.mk.inj (Option.some.inj h)
  exact ⟨inferInstance,fun w=>half3_calls a b ha hb w⟩
 rw [if_neg h2] at h
 rw [if_neg h2]
 by_cases h4:op=4
 ·rw [if_pos h4] at h;rw [if_pos h4]
  obtain ⟨-,rfl⟩:=Prod.mk.inj (Option.some.inj h)
  exact ⟨inferInstance,fun w=>half4_calls a b ha hb w⟩
 rw [if_neg h4] at h
 rw [if_neg h4]
 by_cases h6:op=6
 ·rw [if_pos h6] at h;rw [if_pos h6]
  obtain ⟨-,rfl⟩:=Prod.mk.inj (Option.some.inj h)
  exact ⟨inferInstance,fun w=>half5_calls a b ha hb w⟩
 rw [if_neg h6] at h
 rw [if_neg h6]
 by_cases h22:op=22
 ·rw [if_pos h22] at h;rw [if_pos h22]
  obtain ⟨-,rfl⟩:=Prod.mk.inj (Option.some.inj h)
  exact ⟨inferInstance,fun w=>And_calls a b w⟩
 rw [if_neg h22] at h
 rw [if_neg h22]
 by_cases h23:op=23
 ·rw [if_pos h23] at h;rw [if_pos h23]
  obtain ⟨-,rfl⟩:=Prod.mk.inj (Option.some.inj h)
  exact ⟨inferInstance,fun w=>Or_calls a b w⟩
 rw [if_neg h23] at h
 rw [if_neg h23]
 by_cases h24:op=24
 ·rw [if_pos h24] at h;rw [if_pos h24]
  obtain ⟨-,rfl⟩:=Prod.mk.inj (Option.some.inj h)
  exact ⟨inferInstance,fun w=>Xor_calls a b w⟩
 rw [if_neg h24] at h
 rw [if_neg h24]
 by_cases h27:op=27
 ·rw [if_pos h27] at h;rw [if_pos h27]
  obtain ⟨-,rfl⟩:=Prod.mk.inj (Option.some.inj h)
  exact ⟨inferInstance,fun w=>half6_calls a b ha hb w⟩
 rw [if_neg h27] at h
 rw [if_neg h27]
 by_cases h28:op=28
 ·rw [if_pos h28] at h;rw [if_pos h28]
  obtain ⟨-,rfl⟩:=Prod.mk.inj (Option.some.inj h)
  exact ⟨inferInstance,fun w=>half7_calls a b ha hb w⟩
 rw [if_neg h28] at h
 rw [if_neg h28]
 by_cases h16:op=16
 ·rw [if_pos h16] at h;rw [if_pos h16]
  obtain ⟨-,rfl⟩:=Prod.mk.inj (Option.some.inj h)
  exact ⟨inferInstance,fun w=>half8_calls a b ha hb w⟩
 rw [if_neg h16] at h
 rw [if_neg h16]
 by_cases h17:op=17
 ·rw [if_pos h17] at h;rw [if_pos h17]
  obtain ⟨-,rfl⟩:=Prod.mk.inj (Option.some.inj h)
  exact ⟨inferInstance,fun w=>half9_calls a b ha hb w⟩
 rw [if_neg h17] at h
 rw [if_neg h17]
 by_cases h20:op=20
 ·rw [if_pos h20] at h
  obtain ⟨-,rfl⟩:=Prod.mk.inj (Option.some.inj h)
  exact ⟨inferInstance,fun w=>half10_calls a b ha hb w⟩
 rw [if_neg h20] at h
 cases h
end
end
end Go.Proofs.YtdeggbkbblfpoaaGreatDoor
namespace Go.Proofs.YtdeggbkbblfpoaaGreatDoor
open Go Go.RowKit SL
open CK (dataC readB)
theorem SL.RetG.to {w w':World} {S:List Nat} {Φ Ψ:Value→Fs→Prop} {e:Ending} (h:RetG w S Φ e w') (f:∀ v gs,Φ v gs→Ψ v gs):RetG w S Ψ e w':=by
 obtain ⟨v,gs,h1,h2,h3⟩:=h
 exact ⟨v,gs,h1,f v gs h2,h3⟩
set_option maxRecDepth 8000
set_option maxHeartbeats 4000000
set_option linter.unusedSimpArgs false
set_option linter.unusedVariables false
attribute [local irreducible] SL.CW SL.LW SL.DW Calls SL.Ret SL.RetG SL.beginQ SL.roundQ SL.rangeQ SL.inQ SL.RW SL.AnyW SL.thenQ SL.thenC SL.thenW SL.blkQ SL.finQ SL.ValP SL.NewP SL.SetP SL.CallP SL.Rd SL.Wr SL.Known
def wkCode:List UInt8:=[96,2,96,5,3,96,7,84]
def wkPc (k:Nat):Int:=match k with
 |0=>0
 |1=>2
 |2=>4
 |3=>5
 |4=>7
 |_=>8
def wkGas (k:Nat):Nat:=match k with
 |0=>300
 |1=>297
 |2=>294
 |3=>291
 |4=>288
 |_=>288
def wkWs (k:Nat):List Nat:=match k with
 |0=>[]
 |1=>[2]
 |2=>[2,5]
 |3=>[3]
 |4=>[3,7]
 |_=>[3]
def wkV (k:Nat) (c s m i b:Value):FrV:=⟨c,wkPc k,s,m,wkGas k,20,0,0,i,b,false⟩
def wkL4 (k:Nat):FrL:=⟨wkCode,wkWs k,[],[],[]⟩
def WkR (k:Nat) (v:Value) (gs:Fs):Prop:=∃ c s m i b,v=.tuple #[frv (wkV k c s m i b),.agg (aska 0 0 (.slice none 0 0) (.slice none 0 0)),.int .i64 0]∧FrO (wkV k c s m i b) (wkL4 k) gs
def WkS (v:Value) (gs:Fs):Prop:=∃ c s m i b t gF gT,v=.tuple #[frv (wkV 5 c s m i b),.agg (aska 1 84 t (.slice none 0 0)),.int .i64 0]∧FrP (wkV 5 c s m i b) (wkL4 5) gF∧wM [7] t gT∧gs=gT++gF
def WkM (k:Nat) (m:MaV) (gs:Fs):Prop:=∃ c s k' i b,m.fr=wkV k c s k' i b∧m.kind=0∧m.op=0∧m.words=.slice none 0 0∧m.data=.slice none 0 0∧FrO m.fr (wkL4 k) gs
theorem WkM.sl {k:Nat} {m:MaV} {gs:Fs} (h:WkM k m gs):FrSl m.fr∧(∃ p n c,m.words=.slice p n c)∧(∃ p n c,m.data=.slice p n c):=by
 obtain ⟨c,s,k',i,b,_,_,_,hw,hd,hf⟩:=h
 exact ⟨hf.sl,⟨_,_,_,hw⟩,⟨_,_,_,hd⟩⟩
theorem WkM.to {k:Nat} {v:Value} {gs:Fs} (h:StepR (WkM k) v gs):WkR k v gs:=by
 obtain ⟨m,⟨c,s,k',i,b,h1,h2,h3,h4,h5,h6⟩,rfl⟩:=h
 rw [h1] at h6 ⊢
 rw [h2,h3,h4,h5]
 exact ⟨c,s,k',i,b,rfl,h6⟩
theorem wk_ok0 (c s m i b:Value):okF (wkV 0 c s m i b) (wkL4 0):=⟨⟨by decide,by decide,by show wkGas 0≤20000;decide⟩,by show ¬ 20=0;decide,by decide,by decide,.inr (by kernel_rfl)⟩
theorem wk_ok1 (c s m i b:Value):okF (wkV 1 c s m i b) (wkL4 1):=⟨⟨by decide,by decide,by show wkGas 1≤20000;decide⟩,by show ¬ 20=0;decide,by decide,by decide,.inr (by kernel_rfl)⟩
theorem wk_ok2 (c s m i b:Value):okF (wkV 2 c s m i b) (wkL4 2):=⟨⟨by decide,by decide,by show wkGas 2≤20000;decide⟩,by show ¬ 20=0;decide,by decide,by decide,.inr (by kernel_rfl)⟩
theorem wk_ok3 (c s m i b:Value):okF (wkV 3 c s m i b) (wkL4 3):=⟨⟨by decide,by decide,by show wkGas 3≤20000;decide⟩,by show ¬ 20=0;decide,by decide,by decide,.inr (by kernel_rfl)⟩
theorem wk_ok4 (c s m i b:Value):okF (wkV 4 c s m i b) (wkL4 4):=⟨⟨by decide,by decide,by show wkGas 4≤20000;decide⟩,by show ¬ 20=0;decide,by decide,by decide,.inr (by kernel_rfl)⟩
theorem wk_ok5 (c s m i b:Value):okF (wkV 5 c s m i b) (wkL4 5):=⟨⟨by decide,by decide,by show wkGas 5≤20000;decide⟩,by show ¬ 20=0;decide,by decide,by decide,.inl (by rfl)⟩
theorem wk_op0 (c s m i b:Value):opF (wkV 0 c s m i b) (wkL4 0)=96:=by kernel_rfl
theorem wk_pc0:((min ((wkPc 0).toNat+1+(opX 96).dt) (wkL4 0).cl.length:Nat):Int)=wkPc 1:=by kernel_rfl
theorem wk_op1 (c s m i b:Value):opF (wkV 1 c s m i b) (wkL4 1)=96:=by kernel_rfl
theorem wk_pc1:((min ((wkPc 1).toNat+1+(opX 96).dt) (wkL4 1).cl.length:Nat):Int)=wkPc 2:=by kernel_rfl
theorem wk_op2 (c s m i b:Value):opF (wkV 2 c s m i b) (wkL4 2)=3:=by kernel_rfl
theorem wk_pc2:((min ((wkPc 2).toNat+1+(opX 3).dt) (wkL4 2).cl.length:Nat):Int)=wkPc 3:=by kernel_rfl
theorem wk_op3 (c s m i b:Value):opF (wkV 3 c s m i b) (wkL4 3)=96:=by kernel_rfl
theorem wk_pc3:((min ((wkPc 3).toNat+1+(opX 96).dt) (wkL4 3).cl.length:Nat):Int)=wkPc 4:=by kernel_rfl
theorem wk_op4 (c s m i b:Value):opF (wkV 4 c s m i b) (wkL4 4)=84:=by kernel_rfl
theorem wk_pc4:((min ((wkPc 4).toNat+1+(opX 84).dt) (wkL4 4).cl.length:Nat):Int)=wkPc 5:=by kernel_rfl
theorem wk_dat0:wkWs 0++[bev (dataC wkCode (wkPc 0))]=wkWs 1:=by kernel_rfl
theorem wk_step0 (c s m i b:Value) (w:World) (h:FrRows w (wkV 0 c s m i b) (wkL4 0)):Calls Tryz.prog 10 #[frv (wkV 0 c s m i b),.agg (enva 0 0 0 0)] w (RetG w [] (WkR 1)):=by
 refine Calls.mono (Step_ok (wkV 0 c s m i b) (wkL4 0) 0 0 0 0 (WkM 1) (wk_ok0 ..) (fun _ _ h=>h.sl) (fun w0 S bb c s m i b gs rest w' hf hs=>?_) w h) fun x w' h=>SL.RetG.to h fun _ _=>WkM.to
 have e:(wkV 0 c s m i b).rows c s m i b=wkV 0 c s m i b:=rfl
 refine Calls.mono (step_push w0 S bb (wkV 0 c s m i b) (wkL4 0) 0 0 0 0 gs rest (wk_ok0 ..) (by rw [wk_op0];omega) (by rw [wk_op0];omega) (by show 3≤wkGas 0;decide) (by show (wkWs 0).length+1≤64;decide) hf w' hs) fun x w2 ⟨fs',⟨h1,s2,k2,gs2,h2,h3⟩,hst⟩=>?_
 rw [wk_op0] at h2 h3
 refine ⟨fs',⟨h1,_,gs2,⟨c,s2,k2,i,b,?_,rfl,rfl,rfl,rfl,?_⟩,h3⟩,hst⟩
 ·show FrV.setPc _ _=_
  rw [show (wkV 0 c s m i b).pc.toNat=(wkPc 0).toNat from rfl,wk_pc0]
  rfl
 ·have hd:(wkL4 0).setW ((wkL4 0).ws++[bev (dataC (wkL4 0).cl (wkV 0 c s m i b).pc)])=wkL4 1:=by
   show FrL.setW _ (wkWs 0++[bev (dataC wkCode (wkPc 0))])=_
   rw [wk_dat0]
   rfl
  rw [hd] at h2
  exact h2
theorem wk_dat1:wkWs 1++[bev (dataC wkCode (wkPc 1))]=wkWs 2:=by kernel_rfl
theorem wk_step1 (c s m i b:Value) (w:World) (h:FrRows w (wkV 1 c s m i b) (wkL4 1)):Calls Tryz.prog 10 #[frv (wkV 1 c s m i b),.agg (enva 0 0 0 0)] w (RetG w [] (WkR 2)):=by
 refine Calls.mono (Step_ok (wkV 1 c s m i b) (wkL4 1) 0 0 0 0 (WkM 2) (wk_ok1 ..) (fun _ _ h=>h.sl) (fun w0 S bb c s m i b gs rest w' hf hs=>?_) w h) fun x w' h=>SL.RetG.to h fun _ _=>WkM.to
 have e:(wkV 1 c s m i b).rows c s m i b=wkV 1 c s m i b:=rfl
 refine Calls.mono (step_push w0 S bb (wkV 1 c s m i b) (wkL4 1) 0 0 0 0 gs rest (wk_ok1 ..) (by rw [wk_op1];omega) (by rw [wk_op1];omega) (by show 3≤wkGas 1;decide) (by show (wkWs 1).length+1≤64;decide) hf w' hs) fun x w2 ⟨fs',⟨h1,s2,k2,gs2,h2,h3⟩,hst⟩=>?_
 rw [wk_op1] at h2 h3
 refine ⟨fs',⟨h1,_,gs2,⟨c,s2,k2,i,b,?_,rfl,rfl,rfl,rfl,?_⟩,h3⟩,hst⟩
 ·show FrV.setPc _ _=_
  rw [show (wkV 1 c s m i b).pc.toNat=(wkPc 1).toNat from rfl,wk_pc1]
  rfl
 ·have hd:(wkL4 1).setW ((wkL4 1).ws++[bev (dataC (wkL4 1).cl (wkV 1 c s m i b).pc)])=wkL4 2:=by
   show FrL.setW _ (wkWs 1++[bev (dataC wkCode (wkPc 1))])=_
   rw [wk_dat1]
   rfl
  rw [hd] at h2
  exact h2
theorem wk_dat3:wkWs 3++[bev (dataC wkCode (wkPc 3))]=wkWs 4:=by kernel_rfl
theorem wk_step3 (c s m i b:Value) (w:World) (h:FrRows w (wkV 3 c s m i b) (wkL4 3)):Calls Tryz.prog 10 #[frv (wkV 3 c s m i b),.agg (enva 0 0 0 0)] w (RetG w [] (WkR 4)):=by
 refine Calls.mono (Step_ok (wkV 3 c s m i b) (wkL4 3) 0 0 0 0 (WkM 4) (wk_ok3 ..) (fun _ _ h=>h.sl) (fun w0 S bb c s m i b gs rest w' hf hs=>?_) w h) fun x w' h=>SL.RetG.to h fun _ _=>WkM.to
 have e:(wkV 3 c s m i b).rows c s m i b=wkV 3 c s m i b:=rfl
 refine Calls.mono (step_push w0 S bb (wkV 3 c s m i b) (wkL4 3) 0 0 0 0 gs rest (wk_ok3 ..) (by rw [wk_op3];omega) (by rw [wk_op3];omega) (by show 3≤wkGas 3;decide) (by show (wkWs 3).length+1≤64;decide) hf w' hs) fun x w2 ⟨fs',⟨h1,s2,k2,gs2,h2,h3⟩,hst⟩=>?_
 rw [wk_op3] at h2 h3
 refine ⟨fs',⟨h1,_,gs2,⟨c,s2,k2,i,b,?_,rfl,rfl,rfl,rfl,?_⟩,h3⟩,hst⟩
 ·show FrV.setPc _ _=_
  rw [show (wkV 3 c s m i b).pc.toNat=(wkPc 3).toNat from rfl,wk_pc3]
  rfl
 ·have hd:(wkL4 3).setW ((wkL4 3).ws++[bev (dataC (wkL4 3).cl (wkV 3 c s m i b).pc)])=wkL4 4:=by
   show FrL.setW _ (wkWs 3++[bev (dataC wkCode (wkPc 3))])=_
   rw [wk_dat3]
   rfl
  rw [hd] at h2
  exact h2
theorem wk_half:halfV 3 5 2=3:=by kernel_rfl
theorem wk_step2 (c s m i b:Value) (w:World) (h:FrRows w (wkV 2 c s m i b) (wkL4 2)):Calls Tryz.prog 10 #[frv (wkV 2 c s m i b),.agg (enva 0 0 0 0)] w (RetG w [] (WkR 3)):=by
 refine Calls.mono (Step_ok (wkV 2 c s m i b) (wkL4 2) 0 0 0 0 (WkM 3) (wk_ok2 ..) (fun _ _ h=>h.sl) (fun w0 S bb c s m i b gs rest w' hf hs=>?_) w h) fun x w' h=>SL.RetG.to h fun _ _=>WkM.to
 have hh:halvesF 3=some (1,139):=rfl
 obtain ⟨hF,hz⟩:=halfs_calls 5 2 (by decide) (by decide) hh
 refine Calls.mono (step_half w0 S bb (wkV 2 c s m i b) (wkL4 2) 0 0 0 0 gs rest 3 1 5 2 (halfV 3 5 2) 139 hF hz rfl (by kernel_rfl) (by kernel_rfl) (wk_ok2 ..) (wk_op2 ..) (by kernel_rfl) (by decide) (by decide) hh (by show gasB 3≤294;decide) (by show (opX 3).tk≤2;decide) (by show 2 - (opX 3).tk+(opX 3).ly≤64;decide) hf w' hs) fun x w2 ⟨fs',⟨h1,m',gs2,⟨s2,k2,t2,h2,h2f⟩,h3⟩,hst⟩=>?_
 have e1:m'.fr=wkV 3 c s2 k2 i b:=by
  rw [h2]
  show FrV.setPc _ _=_
  rw [show (wkV 2 c s m i b).pc.toNat=(wkPc 2).toNat from rfl,wk_pc2]
  rfl
 refine ⟨fs',⟨h1,m',gs2,⟨c,s2,k2,i,b,e1,?_,?_,?_,?_,?_⟩,h3⟩,hst⟩
 ·rw [h2];rfl
 ·rw [h2];rfl
 ·rw [h2];rfl
 ·rw [h2];rfl
 ·rw [wk_half] at h2f
  exact h2f
theorem wk_step4 (c s m i b:Value) (w:World) (h:FrRows w (wkV 4 c s m i b) (wkL4 4)):Calls Tryz.prog 10 #[frv (wkV 4 c s m i b),.agg (enva 0 0 0 0)] w (RetG w [] WkS):=by
 refine Calls.mono (Step_ok (wkV 4 c s m i b) (wkL4 4) 0 0 0 0 (fun m gs=>∃ c s k i b,StateM (wkV 4 c s k i b) (wkL4 4) 0 0 0 0 84 m gs) (wk_ok4 ..) (fun m gs h=>?_) (fun w0 S bb c1 s1 m1 i1 b1 gs rest w' hf hs=>?_) w h) fun x w' h=>?_
 ·obtain ⟨_,_,_,_,_,s2,k2,t2,gF,gT,hm,hF,hT,_⟩:=h
  unfold wM at hT
  obtain ⟨_,_,hT⟩:=hT.form
  exact ⟨hF.sl,⟨_,_,_,by rw [hm];exact hT⟩,⟨none,0,0,by rw [hm];rfl⟩⟩
 ·refine Calls.mono (step_state w0 S bb (wkV 4 c1 s1 m1 i1 b1) (wkL4 4) 0 0 0 0 gs rest 84 14 (wk_ok4 ..) (wk_op4 ..) (by kernel_rfl) (by decide) (by decide) rfl rfl rfl (by show gasB 84≤288;decide) (by show (opX 84).tk≤2;decide) (by show 2 - (opX 84).tk+(opX 84).ly≤64;decide) hf w' hs) fun x w2 ⟨fs',⟨h1,m',gs2,h2,h3⟩,hst⟩=>⟨fs',⟨h1,m',gs2,⟨_,_,_,_,_,h2⟩,h3⟩,hst⟩
 ·refine SL.RetG.to h fun v gs h=>?_
  obtain ⟨m,⟨c,s,k,i,b,s2,k2,t2,gF,gT,hm,hF,hT,hgs⟩,hv⟩:=h
  have e1:m.fr=wkV 5 c s2 k2 i b:=by
   rw [hm]
   show FrV.setPc _ _=_
   rw [show (wkV 4 c s k i b).pc.toNat=(wkPc 4).toNat from rfl,wk_pc4]
   rfl
  have e2:aska m.kind m.op m.words m.data=aska 1 84 t2 (.slice none 0 0):=by rw [hm];rfl
  rw [e1] at hF hv
  rw [e2] at hv
  have hw1:(wkL4 4).setW ((wkL4 4).ws.take ((wkL4 4).ws.length - (opX 84).tk))=wkL4 5:=by kernel_rfl
  have hw2:((wkL4 4).ws.drop ((wkL4 4).ws.length - (opX 84).tk)).reverse=[7]:=by kernel_rfl
  rw [hw1] at hF
  rw [hw2] at hT
  exact ⟨c,s2,k2,i,b,t2,gF,gT,hv,hF,hT,hgs⟩
end Go.Proofs.YtdeggbkbblfpoaaGreatDoor
namespace Go.Proofs.YtdeggbkbblfpoaaGreatDoor
open Go Go.RowKit SL
set_option maxRecDepth 8000
set_option maxHeartbeats 4000000
set_option linter.unusedSimpArgs false
set_option linter.unusedVariables false
attribute [local irreducible] SL.CW SL.LW SL.DW Calls SL.Ret SL.RetG SL.beginQ SL.roundQ SL.rangeQ SL.inQ SL.RW SL.AnyW SL.thenQ SL.thenC SL.thenW SL.blkQ SL.finQ SL.ValP SL.NewP SL.SetP SL.CallP SL.Rd SL.Wr SL.Known
theorem wk_stepk (k:Nat) (hk:k < 4) (c s m i b:Value) (w:World) (h:FrRows w (wkV k c s m i b) (wkL4 k)):Calls Tryz.prog 10 #[frv (wkV k c s m i b),.agg (enva 0 0 0 0)] w (RetG w [] (WkR (k+1))):=by
 rcases (by omega:k=0∨k=1∨k=2∨k=3) with rfl|rfl|rfl|rfl
 ·exact wk_step0 c s m i b w h
 ·exact wk_step1 c s m i b w h
 ·exact wk_step2 c s m i b w h
 ·exact wk_step3 c s m i b w h
def WkF (k:Nat) (f:FrV) (gs:Fs):Prop:=∃ c s m i b,f=wkV k c s m i b∧FrO f (wkL4 k) gs
theorem wk_f0 (g:Nat):WkF 0 (wkV 0 (.slice (some ⟨g,0,none⟩) 8 8) (.slice none 0 0) (.slice none 0 0) (.slice none 0 0) (.slice none 0 0)) [(g,.cells (ucs wkCode).toArray 5 (0,0))] :=
 ⟨_,_,_,_,_,rfl,[(g,.cells (ucs wkCode).toArray 5 (0,0))],[],[],[],[],.refl _,.own (by decide) (by decide) rfl rfl rfl,.nil,.nil,.nil,.nil⟩
theorem wk_c0 (g:Nat):fra (wkV 0 (.slice (some ⟨g,0,none⟩) 8 8) (.slice none 0 0) (.slice none 0 0) (.slice none 0 0) (.slice none 0 0))=#[.slice (some ⟨g,0,none⟩) 8 8,.int .i64 0,.slice none 0 0,.slice none 0 0,.int .u64 300,.int .u64 20,.int .u64 0,.int .u64 0,.int .u64 0,.int .u64 0,.int .u64 0,.slice none 0 0,.slice none 0 0,.bool false]:=by simp [fra,frc,wkV,wkPc,wkGas,wc]
theorem wakes14_calls (w:World):Calls Tryz.prog 8 #[] w (Ret w (.bool true)):=by
 refine enter (args:=[]) _ [] [] Tryz.func8 rfl Tryz.ntmps8 rfl (by simp) .nil ?_
 (refine sRz<|vAz<|nSz ?_)
 refine LW.n0 rfl rfl (NewP.buildSN (vs:=[(0,.int .u8 96),(1,.int .u8 2),(2,.int .u8 96),(3,.int .u8 5),(4,.int .u8 3),(5,.int .u8 96),(6,.int .u8 7),(7,.int .u8 84)]) (c:=(ucs wkCode).toArray) inferInstance inferInstance (by (apply zA;rfl;apply zA;rfl;apply zA;rfl;apply zA;rfl;apply zA;rfl;apply zA;rfl;apply zA;rfl;apply zA;rfl;exact zB)) rfl rfl (by kernel_rfl) (by kernel_rfl)) fun g=>?_
 simp only [Sh.val]
 have hsl0:FrSl (wkV 0 (.slice (some ⟨g,0,none⟩) 8 8) (.slice none 0 0) (.slice none 0 0) (.slice none 0 0) (.slice none 0 0)):=⟨⟨_,_,_,rfl⟩,⟨_,_,_,rfl⟩,⟨_,_,_,rfl⟩,⟨_,_,_,rfl⟩,⟨_,_,_,rfl⟩⟩
 (apply LW.v0;rfl;rfl;apply zW;infer_instance;infer_instance;apply zA;rfl;apply zA;rfl;apply zA;rfl;exact zB;rfl;simp only [fillP,wrCells,Value.cells,qI,qJ,qK,qH,qM,qL,Nat.reduceAdd,qO];rfl;apply zU;rfl;intro _;refine zR rfl rfl .head (.whole rfl rfl rfl)<|nNz<|zI<|sRz<|vMz<|nNz<|zM ?_)
 rename_i b1
 refine CW.loop (fun x:Nat × FrV × Fs=>([(11,.int .i64 (x.1:Int)),(1,.pointer (some ⟨b1,0,none⟩)),(0,.bool false)],(b1,.cells (fra x.2.1) 31 (0,0))::x.2.2))
  (fun x=>x.1≤4∧WkF x.1 x.2.1 x.2.2) (fun x=>4 - x.1) (0,wkV 0 (.slice (some ⟨g,0,none⟩) 8 8) (.slice none 0 0) (.slice none 0 0) (.slice none 0 0) (.slice none 0 0),[(g,.cells (ucs wkCode).toArray 5 (0,0))]) ⟨Nat.zero_le _,wk_f0 g⟩ ⟨rfl,rfl,rfl,trivial⟩ (by rw [← wk_c0 g];exact qN _) ?_
 rintro ⟨k,f,gs⟩ ⟨hk,hf⟩
 dsimp only at hk hf ⊢
 rcases Nat.lt_or_ge k 4 with hlt|hge
 ·obtain ⟨c,s,m,i,b,rfl,hfo⟩:=id hf
  have hsl1:FrSl (wkV k c s m i b):=hfo.sl
  (refine sRz ?_;refine lvz (.lssT rfl rfl (by omega)) ?_;refine nNz<|zI<|cTz<|zJ<|thenN<|zI<|zM<|sRz<|ldz rfl .head fr_rdW ?_;apply LW.v0;rfl;rfl;apply zW;infer_instance;infer_instance;exact zB;rfl;simp only [fillP,wrCells,Value.cells,qI,qJ,qK,qH,qM,qL,Nat.reduceAdd,qO];rfl)
  refine LW.callR rfl rfl inferInstance (by (exact .cons rfl (.cons rfl .nil))) (fun w' hst=>wk_stepk k hlt c s m i b w' (hfo.us fun q hq=>(hst.own q (qP _ hq)).2)) ?_
  rintro v gs2 ⟨c2,s2,m2,i2,b2',rfl,hf2⟩
  refine LW.perm (List.perm_middle).symm ?_
  have hsl2:FrSl (wkV (k+1) c2 s2 m2 i2 b2'):=hf2.sl
  (refine vMz ?_;refine vEz ?_;refine vEz ?_;refine vEz ?_;apply zU;rfl;intro _;apply zU;rfl;intro _;apply zR;rfl;rfl;apply qB;apply qA;apply fr_wrW;rfl;assumption;refine zR rfl rfl .head (.whole rfl rfl rfl)<|vAz<|nNz<|zI<|sRz<|vMz ?_;refine lvz (.neF rfl rfl (by omega)) ?_;refine vMz<|gTz<|vFz<|gTz<|ldz rfl .head (Rd.one' rfl)<|gTz ?_;refine lvz (.neF rfl rfl (by omega)) ?_;refine pFz<|nNz<|cFz<|zJ<|thenN<|zL<|ldz rfl (.tail .head) fr_rdW ?_;apply zR;rfl;rfl;apply qB;apply qB;apply qA;apply fr_wrW;rfl;assumption;apply zV;refine blkN<|thenN<|zL ?_;refine lvz (.addZL rfl rfl (by decide) (by omega)) ?_;refine vMz ?_;apply zV)
  apply thenX
  exact ⟨rfl,(k+1,wkV (k+1) c2 s2 m2 i2 b2',gs2),⟨by omega,⟨_,_,_,_,_,rfl,hf2⟩⟩,by show 4 - (k+1) < 4 - k;omega,⟨rfl,rfl,rfl,trivial⟩,qR _ (qR _ (List.Sublist.cons_cons _ (qQ _ _)))⟩
 ·obtain rfl:k=4:=by omega
  obtain ⟨c,s,m,i,b,rfl,hfo⟩:=id hf
  have hsl1:FrSl (wkV 4 c s m i b):=hfo.sl
  (refine sRz ?_;refine lvz (.lssF rfl rfl (by omega)) ?_;refine nNz<|zI<|cFz<|CW.exit<|thenE<|thenE<|blkE rfl<|thenN<|sRz<|ldz rfl .head fr_rdW ?_;apply LW.v0;rfl;rfl;apply zW;infer_instance;infer_instance;exact zB;rfl;simp only [fillP,wrCells,Value.cells,qI,qJ,qK,qH,qM,qL,Nat.reduceAdd,qO];rfl)
  refine LW.callR rfl rfl inferInstance (by (exact .cons rfl (.cons rfl .nil))) (fun w' hst=>wk_step4 c s m i b w' (hfo.us fun q hq=>(hst.own q (qP _ hq)).2)) ?_
  rintro v gs2 ⟨c2,s2,m2,i2,b2',t2,gF,gT,rfl,hf2,ht2,rfl⟩
  have hsl2:FrSl (wkV 5 c2 s2 m2 i2 b2'):=hf2.sl
  unfold wM at ht2
  obtain ⟨gt,cur,k2,rfl,rfl,htk9⟩:∃ gt cur k2,t2=.slice (some ⟨gt,0,none⟩) 1 k2∧gT=[(gt,.cells cur 29 (0,0))]∧cur.toList.take (([7]:List Nat).length * 4)=wcs [7]:=by
   obtain ⟨q2,k2,rfl⟩:=id ht2.form
   obtain ⟨gt,cur,rfl,rfl,_,_,_,hr⟩:=ht2.pos (by show 0 < 1;omega)
   exact ⟨gt,cur,k2,rfl,rfl,hr⟩
  have hrd7:Rd Tryz.prog 29 (.cells cur 29 (0,0)) (0+0 * 4) (wv 7):=word_rd (l:=[7]) (by rw [List.drop_zero];exact htk9) 0 (by show 0 < 1;omega)
  have hsw:∃ p n c,Value.slice (some ⟨gt,0,none⟩) 1 k2=.slice p n c:=⟨_,_,_,rfl⟩
  have hsd:∃ p n c,Value.slice none 0 0=.slice p n c:=⟨_,_,_,rfl⟩
  refine LW.perm (List.perm_middle (l₁:=[_]++gF)).symm ?_
  (refine vMz ?_;refine vEz ?_;refine vEz ?_;refine vEz ?_;apply zU;rfl;intro _;apply zR;rfl;rfl;apply qB;apply qA;apply fr_wrW;rfl;assumption;refine zR rfl rfl .head (.whole rfl rfl rfl)<|vAz<|nSz<|ldz rfl (.tail .head) fr_rdW ?_;refine lvz (.buildW1L rfl (by decide) rfl) ?_;apply LW.layA;rfl;infer_instance;infer_instance;rfl;rfl;rfl;rfl;rfl;intro _)
  rename_i b5 b38
  refine LW.callR rfl rfl inferInstance (by (exact .cons rfl (.cons rfl (.cons rfl .nil)))) (fun w' hst=>Tell_calls (wkV 5 c2 s2 m2 i2 b2') (wkL4 5) 210 [9] _ (by decide) w' (row_cells (hst.own (b38,_) (List.Mem.head _)).2 rfl rfl (by decide)) (hf2.rows fun q hq=>(hst.own q (by simp [hq])).2)) ?_
  rw [if_pos (wk_ok5 ..),show tellR (wkV 5 c2 s2 m2 i2 b2') (wkL4 5) 210 [9]=some (78,⟨wkCode,[3,9],[],[],[]⟩) from rfl]
  rintro v gs5 ⟨c5,s5,m5,i5,b5',rfl,hf5⟩
  have hsl5:FrSl ((wkV 5 c2 s2 m2 i2 b2').rowsG 78 c5 s5 m5 i5 b5'):=hf5.sl
  obtain ⟨h1,h2,h3,h4,h5,hperm,r1,r2,r3,r4,r5⟩:=hf5
  refine LW.perm (fs':=(h1++(h2++(h3++(h4++h5))))++_) (hperm.append_right _) ?_
  unfold wM at r2
  dsimp only [FrV.rowsG] at r2
  obtain ⟨gm,cur5,k5,rfl,rfl,htk5⟩:∃ gm cur5 k5,s5=.slice (some ⟨gm,0,none⟩) 2 k5∧h2=[(gm,.cells cur5 29 (0,0))]∧cur5.toList.take (([3,9]:List Nat).length * 4)=wcs [3,9]:=by
   obtain ⟨q5,k5,rfl⟩:=id r2.form
   obtain ⟨gm,cur5,rfl,rfl,_,_,_,hr⟩:=r2.pos (by show 0 < 2;omega)
   exact ⟨gm,cur5,k5,rfl,rfl,hr⟩
  have hrd3:Rd Tryz.prog 29 (.cells cur5 29 (0,0)) (0+0 * 4) (wv 3):=word_rd (l:=[3,9]) (by rw [List.drop_zero];exact htk5) 0 (by show 0 < 2;omega)
  simp only [List.append_assoc,List.cons_append,List.nil_append]
  (refine vMz ?_;refine vEz ?_;refine vEz ?_;apply zU;rfl;intro _;apply zR;rfl;rfl;apply qA;apply fr_wrW;rfl;assumption;refine vAz<|nSz<|vMz ?_;refine lvz (.eqT rfl rfl (by omega)) ?_;refine vMz<|gTz<|vMz<|pTz<|vMz<|gTz<|vFz<|gTz<|ldz rfl (.tail (.app (.tail (.app (.app (.app (.tail .head))))))) (Rd.one' rfl)<|gTz ?_;refine lvz (.eqT rfl rfl (by omega)) ?_;refine pTz<|vMz<|gTz<|vFz<|gTz<|ldz rfl (.tail (.app (.tail (.app (.app (.app (.tail .head))))))) (Rd.one' rfl)<|gTz ?_;refine lvz (.eqT rfl rfl (by omega)) ?_;refine pTz<|vMz<|gTz<|vFz<|gTz<|ldz rfl (.tail (.app (.tail (.app (.app (.app (.tail .head))))))) (Rd.one' rfl)<|gTz<|lvz (.lenR rfl inferInstance rfl)<|gTz ?_;refine lvz (.eqT rfl rfl (by omega)) ?_;refine pTz<|vMz<|gTz<|vFz<|gTz<|ldz rfl (.tail (.app (.tail (.app (.app (.app (.tail .head))))))) (Rd.one' rfl)<|gTz ?_;refine lvz (.indexAddrSL rfl rfl (by decide) (by omega)) ?_;refine gTz ?_;refine ldz rfl (.tail (.app (.tail (.app (.app (.app (.tail (.tail (.tail .head))))))))) (by assumption) ?_;refine gTz ?_;refine lvz (.buildW1L rfl (by decide) rfl) ?_;refine gTz ?_;refine lvz (.eqWT rfl rfl (by with_reducible rfl)) ?_;refine pTz<|vMz<|gTz<|vFz<|gTz<|vFz<|gTz<|ldz rfl .head fr_rd2s<|gTz<|lvz (.lenR rfl inferInstance rfl)<|gTz ?_;refine lvz (.eqT rfl rfl (by omega)) ?_;refine pTz<|vMz<|gTz<|vFz<|gTz<|vFz<|gTz<|ldz rfl .head fr_rd2s<|gTz ?_;refine lvz (.indexAddrSL rfl rfl (by decide) (by omega)) ?_;refine gTz ?_;refine ldz rfl (.tail (.app .head)) (by assumption) ?_;refine gTz ?_;refine lvz (.buildW1L rfl (by decide) rfl) ?_;refine gTz ?_;refine lvz (.eqWT rfl rfl (by with_reducible rfl)) ?_;refine pTz<|vMz<|gTz<|vFz<|gTz<|ldz rfl .head fr_rd4<|gTz ?_;refine lvz (.eqT rfl rfl (by omega)) ?_;refine pTz<|vAz<|nNz<|zK ?_)
  (apply finR;exact .inl rfl;rfl;rfl;rfl;apply zD;exact zG rfl;exact zF)
  rfl
theorem row_few1 {w:World} {l:List UInt8} {n k c:Nat} {p:Option Addr} (h:RowAt w 1 (.slice p l.length c) l.length (ucs l)) (hn:n=min l.length k):RowAt w 1 (.slice p n c) (l.take k).length (ucs (l.take k)):=by
 have h1:=h.take (k:=n) (by omega)
 rw [ucs_take] at h1
 have h2:l.take n=l.take k:=by rw [hn,Nat.min_comm,← List.take_take,List.take_length]
 have h3:(l.take k).length=n:=by rw [List.length_take];omega
 rw [h2] at h1
 rw [h3]
 exact h1
theorem few1_calls (l:List UInt8) (v:Value) (k:Nat) (hk:k≤100000) (w:World) (h:RowAt w 1 v l.length (ucs l)):Calls Tryz.prog 39 #[v,.int .i64 (k:Int)] w (RetG w [] (bM (l.take k))):=by
 obtain ⟨p,c,rfl,hle,hm⟩:=id h.form
 simp only [maxLen] at hm
 have hf:=row_few1 h (k:=k) rfl
 have hl:(l.take k).length≤100000:=by rw [List.length_take];omega
 refine enter (args:=[_,_]) _ [] [] Tryz.func39 rfl Tryz.ntmps39 rfl (by simp) .nil ?_
 (repeat (first|(first|refine thenN ?_|refine thenL ?_|refine thenM ?_|(apply beginI;(repeat (first|apply qA|apply qB|apply qC)))|(apply roundN;(repeat (first|apply qA|apply qB|apply qC)))|refine blkN ?_|refine thenR ?_|refine blkR ?_|refine thenE ?_|refine blkE rfl ?_|refine blkO rfl ?_|refine CW.scope ?_|refine scopeQ.n ?_|refine scopeQ.r ?_|refine scopeQ.e ?_|refine zI ?_|refine zM ?_|refine zL ?_|refine zK ?_|refine zJ ?_|refine CW.exit ?_|refine CW.label ?_|(apply CW.condT;rfl;(first|with_reducible rfl|(focus (simp only [Bool.not_true,Bool.not_false];done))|(with_reducible assumption)|(focus (simp only [Bool.not_true,Bool.not_false];with_reducible assumption))))|(apply CW.condF;rfl;(first|with_reducible rfl|(focus (simp only [Bool.not_true,Bool.not_false];done))|(with_reducible assumption)|(focus (simp only [Bool.not_true,Bool.not_false];with_reducible assumption)))))|(first|(apply LW.load;rfl;rfl;(first|(focus (apply qE;(repeat (first|apply zY|apply zX|apply zZ));done))|exact Known.ext (by assumption) (by simp));(first|exact qF rfl|exact Rd.one' rfl|exact Rd.one rfl|(apply Rd.one';apply nth_wc;omega)|assumption))|(apply zR;rfl;rfl;(repeat (first|apply qA|apply qB|apply qC));(first|assumption|(apply Wr.whole;rfl;rfl;rfl)))|(apply LW.allocW;rfl;intro _)|(apply zU;rfl;intro _)|(apply zT;rfl;rfl;intro _)|(apply LW.alloc1;rfl;rfl;intro _)|(apply LW.box1;rfl;rfl;rfl;intro _)|apply zV|(apply LW.guardT';rfl;rfl;(first|with_reducible rfl|(focus (simp only [Bool.not_true,Bool.not_false];done))|(with_reducible assumption)|(focus (simp only [Bool.not_true,Bool.not_false];with_reducible assumption))))|(apply LW.guardF';rfl;rfl;(first|with_reducible rfl|(focus (simp only [Bool.not_true,Bool.not_false];done))|(with_reducible assumption)|(focus (simp only [Bool.not_true,Bool.not_false];with_reducible assumption)));rfl)|(apply LW.guardU;rfl;rfl;rfl)|((apply zS;rfl;rfl;infer_instance;(repeat (first|exact ArgsOk.nil|(apply ArgsOk.cons;rfl)));intro w _);fail)|(apply LW.makeMap;rfl;intro _)|(apply LW.mapIns;infer_instance;infer_instance;rfl;rfl;rfl;(repeat (first|apply qA|apply qB|apply qC));rfl;rfl)|(apply LW.mapGet;rfl;infer_instance;infer_instance;infer_instance;rfl;rfl;(first|(focus (apply qE;(repeat (first|apply zY|apply zX|apply zZ));done))|exact Known.ext (by assumption) (by simp));rfl;assumption;rfl)|(apply LW.v0;rfl;rfl;(first|(apply ValP.move;rfl)|(apply ValP.nilCheck;rfl)|(apply ValP.assign;rfl)|(apply ValP.extractN;rfl;rfl)|(apply ValP.indexAddrL;rfl;rfl;rfl)|(apply ValP.indexAddrA;rfl;rfl;rfl;omega)|(apply ValP.indexAddrSL;rfl;rfl;decide;omega)|(apply ValP.indexAddrS;rfl;rfl;rfl;omega)|(apply ValP.fieldAddr;rfl;rfl)|(apply ValP.pickT';rfl;(first|with_reducible rfl|(focus (simp only [Bool.not_true,Bool.not_false];done))|(with_reducible assumption)|(focus (simp only [Bool.not_true,Bool.not_false];with_reducible assumption)));rfl)|(apply ValP.pickF';rfl;(first|with_reducible rfl|(focus (simp only [Bool.not_true,Bool.not_false];done))|(with_reducible assumption)|(focus (simp only [Bool.not_true,Bool.not_false];with_reducible assumption)));rfl)|(apply ValP.notT;rfl;(first|with_reducible rfl|(focus (simp only [Bool.not_true,Bool.not_false];done))|(with_reducible assumption)|(focus (simp only [Bool.not_true,Bool.not_false];with_reducible assumption))))|(apply ValP.notF;rfl;(first|with_reducible rfl|(focus (simp only [Bool.not_true,Bool.not_false];done))|(with_reducible assumption)|(focus (simp only [Bool.not_true,Bool.not_false];with_reducible assumption))))|(apply ValP.notB;rfl)|(apply ValP.lenR;rfl;infer_instance;rfl)|(apply ValP.lenStr;rfl;infer_instance;rfl)|(apply ValP.indexSv;infer_instance;rfl;rfl;rfl;(first|assumption|rfl))|(apply ValP.cutStr;infer_instance;rfl;rfl;rfl;omega;(first|omega|(simp;omega)|(simp [hexdigits];omega)))|(apply ValP.cutStrTo;infer_instance;rfl;rfl;(first|omega|(simp;omega)|(simp [hexdigits];omega)))|(apply ValP.cutStrFrom;infer_instance;rfl;rfl;(first|omega|(simp;omega)|(simp [hexdigits];omega)))|(apply ValP.addStr;rfl;rfl;(first|omega|(simp;omega)|(simp [hexdigits];omega)))|(apply ValP.min3;rfl;rfl;rfl)|(apply ValP.max3;rfl;rfl;rfl)|(apply ValP.minZL;rfl;rfl;decide)|(apply ValP.maxZ;rfl;rfl)|(apply ValP.minZ;rfl;rfl)|exact ValP.buildW0|(apply ValP.buildW1L;rfl;decide;rfl)|(apply ValP.buildW1;rfl;(first|omega|(focus ((repeat (first|omega|apply or64|apply xor64|apply and64|apply div64));done))))|(first|(apply ValP.buildA;(repeat (first|exact zB|(apply zA;rfl)));rfl;(simp only [fillC,wc,wrCells,Value.cells,qK,qH,qM,qL,Nat.reduceAdd,Nat.reduceMul,qO,Nat.mul_one];rfl))|(apply zW;infer_instance;infer_instance;(repeat (first|exact zB|(apply zA;rfl)));rfl;(simp only [fillP,wrCells,Value.cells,qI,qJ,qK,qH,qM,qL,Nat.reduceAdd,qO];rfl))|(apply ValP.field1;infer_instance;infer_instance;rfl;rfl)|(apply ValP.cutArrAll;infer_instance;infer_instance;rfl))|(apply ValP.indexAL;rfl;rfl;rfl;rfl;rfl)|(apply ValP.indexA;rfl;rfl;rfl;rfl;omega;(first|(apply nth_limb;omega)|(apply nth_wc;omega)))|(apply ValP.cutArr;infer_instance;infer_instance;rfl;rfl;rfl)|(apply ValP.asArr;infer_instance;rfl;rfl)|(apply ValP.convI;rfl;omega;omega)|(apply ValP.convN;rfl;omega;omega)|(apply ValP.convB;rfl)|(apply ValP.makeFunc;(repeat (first|exact ArgsOk.nil|(apply ArgsOk.cons;rfl)));(repeat (first|exact ArgsOk.nil|(apply ArgsOk.cons;rfl))))|(apply ValP.ptrNilT;rfl;rfl)|(apply ValP.ptrNilF;rfl;rfl)|(apply ValP.ptrSame;rfl;rfl)|(apply ValP.sliceDataR;rfl;omega)|fail|first|(apply ValP.quoZL;rfl;rfl;decide;omega;omega)|(apply ValP.quoZK;rfl;rfl;decide;omega;omega)|(apply ValP.quoZ;rfl;rfl;omega;omega)|(apply ValP.remZL;rfl;rfl;decide;omega)|(apply ValP.remZK;rfl;rfl;decide;omega)|(apply ValP.remZ;rfl;rfl;omega)|(apply ValP.addZL;rfl;rfl;decide;omega)|(apply ValP.addZK;rfl;rfl;decide;omega)|(apply ValP.addZ;rfl;rfl;omega)|(apply ValP.mulZL;rfl;rfl;decide;omega)|(apply ValP.mulZK;rfl;rfl;decide;omega)|(apply ValP.mulZ;rfl;rfl;omega)|(apply ValP.subZL;rfl;rfl;decide;omega;omega)|(apply ValP.subZK;rfl;rfl;decide;omega;omega)|(apply ValP.subZ;rfl;rfl;omega;omega)|(apply ValP.quoNL;rfl;rfl;decide;omega;omega)|(apply ValP.quoNK;rfl;rfl;decide;omega;omega)|(apply ValP.quoN;rfl;rfl;omega;omega)|(apply ValP.remNL;rfl;rfl;decide;omega)|(apply ValP.remNK;rfl;rfl;decide;omega)|(apply ValP.remN;rfl;rfl;omega)|(apply ValP.addNL;rfl;rfl;decide)|(apply ValP.addNK;rfl;rfl;decide)|(apply ValP.addN;rfl;rfl)|(apply ValP.mulNL;rfl;rfl;decide)|(apply ValP.mulNK;rfl;rfl;decide)|(apply ValP.mulN;rfl;rfl)|(apply ValP.subNL;rfl;rfl;decide;omega;omega)|(apply ValP.subNK;rfl;rfl;decide;omega;omega)|(apply ValP.subN;rfl;rfl;omega;omega)|(apply ValP.andUL;rfl;rfl;decide;(first|omega|(focus ((repeat (first|omega|apply or64|apply xor64|apply and64|apply div64));done)));(first|omega|(focus ((repeat (first|omega|apply or64|apply xor64|apply and64|apply div64));done))))|(apply ValP.andUK;rfl;rfl;decide;(first|omega|(focus ((repeat (first|omega|apply or64|apply xor64|apply and64|apply div64));done)));(first|omega|(focus ((repeat (first|omega|apply or64|apply xor64|apply and64|apply div64));done))))|(apply ValP.andU;rfl;rfl;(first|omega|(focus ((repeat (first|omega|apply or64|apply xor64|apply and64|apply div64));done)));(first|omega|(focus ((repeat (first|omega|apply or64|apply xor64|apply and64|apply div64));done))))|(apply ValP.orUL;rfl;rfl;decide;(first|omega|(focus ((repeat (first|omega|apply or64|apply xor64|apply and64|apply div64));done)));(first|omega|(focus ((repeat (first|omega|apply or64|apply xor64|apply and64|apply div64));done))))|(apply ValP.orUK;rfl;rfl;decide;(first|omega|(focus ((repeat (first|omega|apply or64|apply xor64|apply and64|apply div64));done)));(first|omega|(focus ((repeat (first|omega|apply or64|apply xor64|apply and64|apply div64));done))))|(apply ValP.orU;rfl;rfl;(first|omega|(focus ((repeat (first|omega|apply or64|apply xor64|apply and64|apply div64));done)));(first|omega|(focus ((repeat (first|omega|apply or64|apply xor64|apply and64|apply div64));done))))|(apply ValP.xorUL;rfl;rfl;decide;(first|omega|(focus ((repeat (first|omega|apply or64|apply xor64|apply and64|apply div64));done)));(first|omega|(focus ((repeat (first|omega|apply or64|apply xor64|apply and64|apply div64));done))))|(apply ValP.xorUK;rfl;rfl;decide;(first|omega|(focus ((repeat (first|omega|apply or64|apply xor64|apply and64|apply div64));done)));(first|omega|(focus ((repeat (first|omega|apply or64|apply xor64|apply and64|apply div64));done))))|(apply ValP.xorU;rfl;rfl;(first|omega|(focus ((repeat (first|omega|apply or64|apply xor64|apply and64|apply div64));done)));(first|omega|(focus ((repeat (first|omega|apply or64|apply xor64|apply and64|apply div64));done))))|(apply ValP.shrUL;rfl;rfl;decide;omega)|(apply ValP.shrU;rfl;rfl;omega)|(apply ValP.shlUL;rfl;rfl;decide;omega)|(apply ValP.shlU;rfl;rfl;omega)|(apply ValP.notU;rfl;(first|omega|(focus ((repeat (first|omega|apply or64|apply xor64|apply and64|apply div64));done))))|(apply ValP.addI;rfl;rfl;omega;omega)|(apply ValP.subI;rfl;rfl;omega;omega)|(apply ValP.mulI;rfl;rfl;omega;omega)|(apply ValP.lssT;rfl;rfl;omega)|(apply ValP.lssF;rfl;rfl;omega)|(apply ValP.leqT;rfl;rfl;omega)|(apply ValP.leqF;rfl;rfl;omega)|(apply ValP.gtrT;rfl;rfl;omega)|(apply ValP.gtrF;rfl;rfl;omega)|(apply ValP.geqT;rfl;rfl;omega)|(apply ValP.geqF;rfl;rfl;omega)|(apply ValP.eqT;rfl;rfl;omega)|(apply ValP.eqF;rfl;rfl;omega)|(apply ValP.neT;rfl;rfl;omega)|(apply ValP.neF;rfl;rfl;omega)|(apply ValP.quoI;rfl;rfl;omega;omega;omega)|(apply ValP.remI;rfl;rfl;omega;omega)|(apply ValP.eqWT;rfl;rfl;(first|assumption|with_reducible rfl))|(apply ValP.neWF;rfl;rfl;(first|assumption|with_reducible rfl))|(apply ValP.eqWF;rfl;rfl;(first|assumption|exact Nat.mod_lt _ (by decide)|omega);(first|assumption|exact Nat.mod_lt _ (by decide)|omega);(first|assumption|omega))|(apply ValP.neWT;rfl;rfl;(first|assumption|exact Nat.mod_lt _ (by decide)|omega);(first|assumption|exact Nat.mod_lt _ (by decide)|omega);(first|assumption|omega))|(apply ValP.eqW;rfl;rfl;(first|assumption|exact Nat.mod_lt _ (by decide)|omega);(first|assumption|exact Nat.mod_lt _ (by decide)|omega))|(apply ValP.neW;rfl;rfl;(first|assumption|exact Nat.mod_lt _ (by decide)|omega);(first|assumption|exact Nat.mod_lt _ (by decide)|omega))|(apply ValP.boolEqT;rfl;rfl;(first|assumption|with_reducible rfl))|(apply ValP.boolNeF;rfl;rfl;(first|assumption|with_reducible rfl))|(apply ValP.strEqT;rfl;rfl;(first|with_reducible rfl|assumption|decide))|(apply ValP.strEqF;rfl;rfl;(first|with_reducible rfl|assumption|decide))|(apply ValP.strNeT;rfl;rfl;(first|with_reducible rfl|assumption|decide))|(apply ValP.strNeF;rfl;rfl;(first|with_reducible rfl|assumption|decide))|(apply ValP.strEq;rfl;rfl)|(apply ValP.strNe;rfl;rfl)|(apply ValP.boolEq;rfl;rfl)|(apply ValP.boolNe;rfl;rfl)|(apply ValP.lss;rfl;rfl)|(apply ValP.leq;rfl;rfl)|(apply ValP.gtr;rfl;rfl)|(apply ValP.geq;rfl;rfl)|(apply ValP.eq;rfl;rfl)|(apply ValP.ne;rfl;rfl)|(apply ValP.cutToL;infer_instance;infer_instance;rfl;rfl;decide;omega)|(apply ValP.cutFromL;infer_instance;infer_instance;rfl;rfl;decide;omega)|(apply ValP.cutTo;infer_instance;infer_instance;rfl;rfl;omega)|(apply ValP.cutFrom;infer_instance;infer_instance;rfl;rfl;omega)|(apply ValP.convU;rfl)))|(apply LW.toUnsafe;rfl;rfl;(first|(focus (apply qE;(repeat (first|apply zY|apply zX|apply zZ));done))|exact Known.ext (by assumption) (by simp));rfl;rfl)|(apply LW.fromUnsafe;rfl;rfl;(first|(focus (apply qE;(repeat (first|apply zY|apply zX|apply zZ));done))|exact Known.ext (by assumption) (by simp));kernel_rfl)|(apply LW.layA;rfl;infer_instance;infer_instance;rfl;rfl;rfl;rfl;rfl;intro _)|(apply LW.lay1;rfl;infer_instance;infer_instance;rfl;rfl;rfl;rfl;rfl;rfl;intro _)|(apply LW.v0;rfl;rfl;apply ValP.callX;rfl;(repeat (first|exact ArgsOk.nil|(apply ArgsOk.cons;rfl)));fail))|((apply CW.pre;first|refine AnyW.any 1 mixed (by decide +kernel) ?_|refine AnyW.any 2 mixed (by decide +kernel) ?_|refine AnyW.any 3 mixed (by decide +kernel) ?_|refine AnyW.any 4 mixed (by decide +kernel) ?_|refine AnyW.any 5 mixed (by decide +kernel) ?_|refine AnyW.any 6 mixed (by decide +kernel) ?_|refine AnyW.any 7 mixed (by decide +kernel) ?_|refine AnyW.any 8 mixed (by decide +kernel) ?_|refine AnyW.any 9 mixed (by decide +kernel) ?_|refine AnyW.any 10 mixed (by decide +kernel) ?_|refine AnyW.any 11 mixed (by decide +kernel) ?_|refine AnyW.any 12 mixed (by decide +kernel) ?_|refine AnyW.any 13 mixed (by decide +kernel) ?_|refine AnyW.any 14 mixed (by decide +kernel) ?_|refine AnyW.any 15 mixed (by decide +kernel) ?_|refine AnyW.any 16 mixed (by decide +kernel) ?_|refine AnyW.any 17 mixed (by decide +kernel) ?_|refine AnyW.any 18 mixed (by decide +kernel) ?_|refine AnyW.any 19 mixed (by decide +kernel) ?_|refine AnyW.any 20 mixed (by decide +kernel) ?_|refine AnyW.any 21 mixed (by decide +kernel) ?_|refine AnyW.any 22 mixed (by decide +kernel) ?_|refine AnyW.any 23 mixed (by decide +kernel) ?_|refine AnyW.any 24 mixed (by decide +kernel) ?_|refine AnyW.any 25 mixed (by decide +kernel) ?_|refine AnyW.any 26 mixed (by decide +kernel) ?_|refine AnyW.any 27 mixed (by decide +kernel) ?_|refine AnyW.any 28 mixed (by decide +kernel) ?_|refine AnyW.any 29 mixed (by decide +kernel) ?_|refine AnyW.any 30 mixed (by decide +kernel) ?_|refine AnyW.any 31 mixed (by decide +kernel) ?_|refine AnyW.any 32 mixed (by decide +kernel) ?_|refine AnyW.any 33 mixed (by decide +kernel) ?_|refine AnyW.any 34 mixed (by decide +kernel) ?_|refine AnyW.any 35 mixed (by decide +kernel) ?_|refine AnyW.any 36 mixed (by decide +kernel) ?_|refine AnyW.any 37 mixed (by decide +kernel) ?_|refine AnyW.any 38 mixed (by decide +kernel) ?_|refine AnyW.any 39 mixed (by decide +kernel) ?_|refine AnyW.any 40 mixed (by decide +kernel) ?_|refine AnyW.any 41 mixed (by decide +kernel) ?_|refine AnyW.any 42 mixed (by decide +kernel) ?_|refine AnyW.any 43 mixed (by decide +kernel) ?_|refine AnyW.any 44 mixed (by decide +kernel) ?_|refine AnyW.any 45 mixed (by decide +kernel) ?_|refine AnyW.any 46 mixed (by decide +kernel) ?_|refine AnyW.any 47 mixed (by decide +kernel) ?_|refine AnyW.any 48 mixed (by decide +kernel) ?_|refine AnyW.any 49 mixed (by decide +kernel) ?_|refine AnyW.any 50 mixed (by decide +kernel) ?_|refine AnyW.any 51 mixed (by decide +kernel) ?_|refine AnyW.any 52 mixed (by decide +kernel) ?_|refine AnyW.any 53 mixed (by decide +kernel) ?_|refine AnyW.any 54 mixed (by decide +kernel) ?_|refine AnyW.any 55 mixed (by decide +kernel) ?_|refine AnyW.any 56 mixed (by decide +kernel) ?_|refine AnyW.any 57 mixed (by decide +kernel) ?_|refine AnyW.any 58 mixed (by decide +kernel) ?_|refine AnyW.any 59 mixed (by decide +kernel) ?_|refine AnyW.any 60 mixed (by decide +kernel) ?_);(try simp only [tsOf_cons,tsOf_nil,tsOf_app]);repeat (first|fail|(apply qD;rfl;rfl;rfl;(first|exact zC|(apply wantYes;rfl;rfl;(first|with_reducible rfl|(focus (simp only [Bool.not_true,Bool.not_false];done))|(with_reducible assumption)|(focus (simp only [Bool.not_true,Bool.not_false];with_reducible assumption)))));rfl;(repeat (first|(apply zP;(first|exact zN|kernel_rfl))|apply zO|apply zQ));(first|exact qF rfl|exact Rd.one' rfl|exact Rd.one rfl|(apply Rd.one';apply nth_wc;omega)|assumption))|(apply DW.loadX;rfl;rfl;rfl;(first|exact zC|(apply wantYes;rfl;rfl;(first|with_reducible rfl|(focus (simp only [Bool.not_true,Bool.not_false];done))|(with_reducible assumption)|(focus (simp only [Bool.not_true,Bool.not_false];with_reducible assumption)))));rfl;assumption;simp;(first|exact qF rfl|exact Rd.one' rfl|exact Rd.one rfl|(apply Rd.one';apply nth_wc;omega)|assumption))|(apply DW.store;rfl;rfl;(first|exact zC|(apply wantYes;rfl;rfl;(first|with_reducible rfl|(focus (simp only [Bool.not_true,Bool.not_false];done))|(with_reducible assumption)|(focus (simp only [Bool.not_true,Bool.not_false];with_reducible assumption)))));rfl;rfl;(repeat (first|(apply TSet.head;(first|exact zN|kernel_rfl);(first|exact zN|kernel_rfl))|apply TSet.tail|apply TSet.app));(first|assumption|(apply Wr.whole;rfl;rfl;rfl)))|(apply DW.allocW;rfl;rfl;rfl;(first|exact zC|(apply wantYes;rfl;rfl;(first|with_reducible rfl|(focus (simp only [Bool.not_true,Bool.not_false];done))|(with_reducible assumption)|(focus (simp only [Bool.not_true,Bool.not_false];with_reducible assumption)))));intro _)|(apply DW.allocA;rfl;rfl;rfl;(first|exact zC|(apply wantYes;rfl;rfl;(first|with_reducible rfl|(focus (simp only [Bool.not_true,Bool.not_false];done))|(with_reducible assumption)|(focus (simp only [Bool.not_true,Bool.not_false];with_reducible assumption)))));intro _)|(apply DW.boxA;rfl;rfl;rfl;(first|exact zC|(apply wantYes;rfl;rfl;(first|with_reducible rfl|(focus (simp only [Bool.not_true,Bool.not_false];done))|(with_reducible assumption)|(focus (simp only [Bool.not_true,Bool.not_false];with_reducible assumption)))));rfl;intro _)|(apply DW.alloc1;rfl;rfl;rfl;(first|exact zC|(apply wantYes;rfl;rfl;(first|with_reducible rfl|(focus (simp only [Bool.not_true,Bool.not_false];done))|(with_reducible assumption)|(focus (simp only [Bool.not_true,Bool.not_false];with_reducible assumption)))));rfl;intro _)|(apply DW.box1;rfl;rfl;rfl;(first|exact zC|(apply wantYes;rfl;rfl;(first|with_reducible rfl|(focus (simp only [Bool.not_true,Bool.not_false];done))|(with_reducible assumption)|(focus (simp only [Bool.not_true,Bool.not_false];with_reducible assumption)))));rfl;rfl;intro _)|(apply DW.sliceData;rfl;rfl;rfl;(first|exact zC|(apply wantYes;rfl;rfl;(first|with_reducible rfl|(focus (simp only [Bool.not_true,Bool.not_false];done))|(with_reducible assumption)|(focus (simp only [Bool.not_true,Bool.not_false];with_reducible assumption)))));rfl;omega;(repeat (first|(apply zP;(first|exact zN|kernel_rfl))|apply zO|apply zQ)))|(apply DW.layA;rfl;rfl;rfl;(first|exact zC|(apply wantYes;rfl;rfl;(first|with_reducible rfl|(focus (simp only [Bool.not_true,Bool.not_false];done))|(with_reducible assumption)|(focus (simp only [Bool.not_true,Bool.not_false];with_reducible assumption)))));infer_instance;infer_instance;rfl;rfl;rfl;rfl;rfl;intro _)|(apply DW.lay1;rfl;rfl;rfl;(first|exact zC|(apply wantYes;rfl;rfl;(first|with_reducible rfl|(focus (simp only [Bool.not_true,Bool.not_false];done))|(with_reducible assumption)|(focus (simp only [Bool.not_true,Bool.not_false];with_reducible assumption)))));infer_instance;infer_instance;rfl;rfl;rfl;rfl;rfl;rfl;intro _)|(apply DW.skip';rfl;rfl;rfl;rfl;(first|with_reducible rfl|(focus (simp only [Bool.not_true,Bool.not_false];done))|(with_reducible assumption)|(focus (simp only [Bool.not_true,Bool.not_false];with_reducible assumption))))|(apply DW.skipU;rfl;rfl;rfl;rfl)|(apply DW.nil;simp only [fsOf_cons,fsOf_nil,fsOf_app,fsOf_tsOf,fsOf_new])|((apply DW.callE;rfl;rfl;rfl;(first|exact zC|(apply wantYes;rfl;rfl;(first|with_reducible rfl|(focus (simp only [Bool.not_true,Bool.not_false];done))|(with_reducible assumption)|(focus (simp only [Bool.not_true,Bool.not_false];with_reducible assumption)))));rfl;infer_instance;(repeat (first|exact ArgsOk.nil|(apply ArgsOk.cons;rfl)));rfl;(repeat (first|exact ReadAll.nil|(apply ReadAll.own;(repeat (first|(apply zP;(first|exact zN|kernel_rfl))|apply zO|apply zQ)))));intro w _ _);fail)|((apply DW.callV;rfl;rfl;rfl;(first|exact zC|(apply wantYes;rfl;rfl;(first|with_reducible rfl|(focus (simp only [Bool.not_true,Bool.not_false];done))|(with_reducible assumption)|(focus (simp only [Bool.not_true,Bool.not_false];with_reducible assumption)))));rfl;infer_instance;(repeat (first|exact ArgsOk.nil|(apply ArgsOk.cons;rfl)));(repeat (first|exact RdV.nil|(apply RdV.plain;first|exact blocks_uca _|exact blocks_nca _|rfl)|apply RdV.none|(apply RdV.ptr;(repeat (first|(apply zP;(first|exact zN|kernel_rfl))|apply zO|apply zQ)))|(apply RdV.own;(first|assumption|omega);(repeat (first|(apply zP;(first|exact zN|kernel_rfl))|apply zO|apply zQ)))|(apply RdV.ext;assumption;rfl)));intro w _ _);fail)|(apply DW.v0;rfl;rfl;rfl;(first|exact zC|(apply wantYes;rfl;rfl;(first|with_reducible rfl|(focus (simp only [Bool.not_true,Bool.not_false];done))|(with_reducible assumption)|(focus (simp only [Bool.not_true,Bool.not_false];with_reducible assumption)))));rfl;(first|(apply ValP.move;rfl)|(apply ValP.nilCheck;rfl)|(apply ValP.assign;rfl)|(apply ValP.extractN;rfl;rfl)|(apply ValP.indexAddrL;rfl;rfl;rfl)|(apply ValP.indexAddrA;rfl;rfl;rfl;omega)|(apply ValP.indexAddrSL;rfl;rfl;decide;omega)|(apply ValP.indexAddrS;rfl;rfl;rfl;omega)|(apply ValP.fieldAddr;rfl;rfl)|(apply ValP.pickT';rfl;(first|with_reducible rfl|(focus (simp only [Bool.not_true,Bool.not_false];done))|(with_reducible assumption)|(focus (simp only [Bool.not_true,Bool.not_false];with_reducible assumption)));rfl)|(apply ValP.pickF';rfl;(first|with_reducible rfl|(focus (simp only [Bool.not_true,Bool.not_false];done))|(with_reducible assumption)|(focus (simp only [Bool.not_true,Bool.not_false];with_reducible assumption)));rfl)|(apply ValP.notT;rfl;(first|with_reducible rfl|(focus (simp only [Bool.not_true,Bool.not_false];done))|(with_reducible assumption)|(focus (simp only [Bool.not_true,Bool.not_false];with_reducible assumption))))|(apply ValP.notF;rfl;(first|with_reducible rfl|(focus (simp only [Bool.not_true,Bool.not_false];done))|(with_reducible assumption)|(focus (simp only [Bool.not_true,Bool.not_false];with_reducible assumption))))|(apply ValP.notB;rfl)|(apply ValP.lenR;rfl;infer_instance;rfl)|(apply ValP.lenStr;rfl;infer_instance;rfl)|(apply ValP.indexSv;infer_instance;rfl;rfl;rfl;(first|assumption|rfl))|(apply ValP.cutStr;infer_instance;rfl;rfl;rfl;omega;(first|omega|(simp;omega)|(simp [hexdigits];omega)))|(apply ValP.cutStrTo;infer_instance;rfl;rfl;(first|omega|(simp;omega)|(simp [hexdigits];omega)))|(apply ValP.cutStrFrom;infer_instance;rfl;rfl;(first|omega|(simp;omega)|(simp [hexdigits];omega)))|(apply ValP.addStr;rfl;rfl;(first|omega|(simp;omega)|(simp [hexdigits];omega)))|(apply ValP.min3;rfl;rfl;rfl)|(apply ValP.max3;rfl;rfl;rfl)|(apply ValP.minZL;rfl;rfl;decide)|(apply ValP.maxZ;rfl;rfl)|(apply ValP.minZ;rfl;rfl)|exact ValP.buildW0|(apply ValP.buildW1L;rfl;decide;rfl)|(apply ValP.buildW1;rfl;(first|omega|(focus ((repeat (first|omega|apply or64|apply xor64|apply and64|apply div64));done))))|(first|(apply ValP.buildA;(repeat (first|exact zB|(apply zA;rfl)));rfl;(simp only [fillC,wc,wrCells,Value.cells,qK,qH,qM,qL,Nat.reduceAdd,Nat.reduceMul,qO,Nat.mul_one];rfl))|(apply zW;infer_instance;infer_instance;(repeat (first|exact zB|(apply zA;rfl)));rfl;(simp only [fillP,wrCells,Value.cells,qI,qJ,qK,qH,qM,qL,Nat.reduceAdd,qO];rfl))|(apply ValP.field1;infer_instance;infer_instance;rfl;rfl)|(apply ValP.cutArrAll;infer_instance;infer_instance;rfl))|(apply ValP.indexAL;rfl;rfl;rfl;rfl;rfl)|(apply ValP.indexA;rfl;rfl;rfl;rfl;omega;(first|(apply nth_limb;omega)|(apply nth_wc;omega)))|(apply ValP.cutArr;infer_instance;infer_instance;rfl;rfl;rfl)|(apply ValP.asArr;infer_instance;rfl;rfl)|(apply ValP.convI;rfl;omega;omega)|(apply ValP.convN;rfl;omega;omega)|(apply ValP.convB;rfl)|(apply ValP.makeFunc;(repeat (first|exact ArgsOk.nil|(apply ArgsOk.cons;rfl)));(repeat (first|exact ArgsOk.nil|(apply ArgsOk.cons;rfl))))|(apply ValP.ptrNilT;rfl;rfl)|(apply ValP.ptrNilF;rfl;rfl)|(apply ValP.ptrSame;rfl;rfl)|(apply ValP.sliceDataR;rfl;omega)|fail|first|(apply ValP.quoZL;rfl;rfl;decide;omega;omega)|(apply ValP.quoZK;rfl;rfl;decide;omega;omega)|(apply ValP.quoZ;rfl;rfl;omega;omega)|(apply ValP.remZL;rfl;rfl;decide;omega)|(apply ValP.remZK;rfl;rfl;decide;omega)|(apply ValP.remZ;rfl;rfl;omega)|(apply ValP.addZL;rfl;rfl;decide;omega)|(apply ValP.addZK;rfl;rfl;decide;omega)|(apply ValP.addZ;rfl;rfl;omega)|(apply ValP.mulZL;rfl;rfl;decide;omega)|(apply ValP.mulZK;rfl;rfl;decide;omega)|(apply ValP.mulZ;rfl;rfl;omega)|(apply ValP.subZL;rfl;rfl;decide;omega;omega)|(apply ValP.subZK;rfl;rfl;decide;omega;omega)|(apply ValP.subZ;rfl;rfl;omega;omega)|(apply ValP.quoNL;rfl;rfl;decide;omega;omega)|(apply ValP.quoNK;rfl;rfl;decide;omega;omega)|(apply ValP.quoN;rfl;rfl;omega;omega)|(apply ValP.remNL;rfl;rfl;decide;omega)|(apply ValP.remNK;rfl;rfl;decide;omega)|(apply ValP.remN;rfl;rfl;omega)|(apply ValP.addNL;rfl;rfl;decide)|(apply ValP.addNK;rfl;rfl;decide)|(apply ValP.addN;rfl;rfl)|(apply ValP.mulNL;rfl;rfl;decide)|(apply ValP.mulNK;rfl;rfl;decide)|(apply ValP.mulN;rfl;rfl)|(apply ValP.subNL;rfl;rfl;decide;omega;omega)|(apply ValP.subNK;rfl;rfl;decide;omega;omega)|(apply ValP.subN;rfl;rfl;omega;omega)|(apply ValP.andUL;rfl;rfl;decide;(first|omega|(focus ((repeat (first|omega|apply or64|apply xor64|apply and64|apply div64));done)));(first|omega|(focus ((repeat (first|omega|apply or64|apply xor64|apply and64|apply div64));done))))|(apply ValP.andUK;rfl;rfl;decide;(first|omega|(focus ((repeat (first|omega|apply or64|apply xor64|apply and64|apply div64));done)));(first|omega|(focus ((repeat (first|omega|apply or64|apply xor64|apply and64|apply div64));done))))|(apply ValP.andU;rfl;rfl;(first|omega|(focus ((repeat (first|omega|apply or64|apply xor64|apply and64|apply div64));done)));(first|omega|(focus ((repeat (first|omega|apply or64|apply xor64|apply and64|apply div64));done))))|(apply ValP.orUL;rfl;rfl;decide;(first|omega|(focus ((repeat (first|omega|apply or64|apply xor64|apply and64|apply div64));done)));(first|omega|(focus ((repeat (first|omega|apply or64|apply xor64|apply and64|apply div64));done))))|(apply ValP.orUK;rfl;rfl;decide;(first|omega|(focus ((repeat (first|omega|apply or64|apply xor64|apply and64|apply div64));done)));(first|omega|(focus ((repeat (first|omega|apply or64|apply xor64|apply and64|apply div64));done))))|(apply ValP.orU;rfl;rfl;(first|omega|(focus ((repeat (first|omega|apply or64|apply xor64|apply and64|apply div64));done)));(first|omega|(focus ((repeat (first|omega|apply or64|apply xor64|apply and64|apply div64));done))))|(apply ValP.xorUL;rfl;rfl;decide;(first|omega|(focus ((repeat (first|omega|apply or64|apply xor64|apply and64|apply div64));done)));(first|omega|(focus ((repeat (first|omega|apply or64|apply xor64|apply and64|apply div64));done))))|(apply ValP.xorUK;rfl;rfl;decide;(first|omega|(focus ((repeat (first|omega|apply or64|apply xor64|apply and64|apply div64));done)));(first|omega|(focus ((repeat (first|omega|apply or64|apply xor64|apply and64|apply div64));done))))|(apply ValP.xorU;rfl;rfl;(first|omega|(focus ((repeat (first|omega|apply or64|apply xor64|apply and64|apply div64));done)));(first|omega|(focus ((repeat (first|omega|apply or64|apply xor64|apply and64|apply div64));done))))|(apply ValP.shrUL;rfl;rfl;decide;omega)|(apply ValP.shrU;rfl;rfl;omega)|(apply ValP.shlUL;rfl;rfl;decide;omega)|(apply ValP.shlU;rfl;rfl;omega)|(apply ValP.notU;rfl;(first|omega|(focus ((repeat (first|omega|apply or64|apply xor64|apply and64|apply div64));done))))|(apply ValP.addI;rfl;rfl;omega;omega)|(apply ValP.subI;rfl;rfl;omega;omega)|(apply ValP.mulI;rfl;rfl;omega;omega)|(apply ValP.lssT;rfl;rfl;omega)|(apply ValP.lssF;rfl;rfl;omega)|(apply ValP.leqT;rfl;rfl;omega)|(apply ValP.leqF;rfl;rfl;omega)|(apply ValP.gtrT;rfl;rfl;omega)|(apply ValP.gtrF;rfl;rfl;omega)|(apply ValP.geqT;rfl;rfl;omega)|(apply ValP.geqF;rfl;rfl;omega)|(apply ValP.eqT;rfl;rfl;omega)|(apply ValP.eqF;rfl;rfl;omega)|(apply ValP.neT;rfl;rfl;omega)|(apply ValP.neF;rfl;rfl;omega)|(apply ValP.quoI;rfl;rfl;omega;omega;omega)|(apply ValP.remI;rfl;rfl;omega;omega)|(apply ValP.eqWT;rfl;rfl;(first|assumption|with_reducible rfl))|(apply ValP.neWF;rfl;rfl;(first|assumption|with_reducible rfl))|(apply ValP.eqWF;rfl;rfl;(first|assumption|exact Nat.mod_lt _ (by decide)|omega);(first|assumption|exact Nat.mod_lt _ (by decide)|omega);(first|assumption|omega))|(apply ValP.neWT;rfl;rfl;(first|assumption|exact Nat.mod_lt _ (by decide)|omega);(first|assumption|exact Nat.mod_lt _ (by decide)|omega);(first|assumption|omega))|(apply ValP.eqW;rfl;rfl;(first|assumption|exact Nat.mod_lt _ (by decide)|omega);(first|assumption|exact Nat.mod_lt _ (by decide)|omega))|(apply ValP.neW;rfl;rfl;(first|assumption|exact Nat.mod_lt _ (by decide)|omega);(first|assumption|exact Nat.mod_lt _ (by decide)|omega))|(apply ValP.boolEqT;rfl;rfl;(first|assumption|with_reducible rfl))|(apply ValP.boolNeF;rfl;rfl;(first|assumption|with_reducible rfl))|(apply ValP.strEqT;rfl;rfl;(first|with_reducible rfl|assumption|decide))|(apply ValP.strEqF;rfl;rfl;(first|with_reducible rfl|assumption|decide))|(apply ValP.strNeT;rfl;rfl;(first|with_reducible rfl|assumption|decide))|(apply ValP.strNeF;rfl;rfl;(first|with_reducible rfl|assumption|decide))|(apply ValP.strEq;rfl;rfl)|(apply ValP.strNe;rfl;rfl)|(apply ValP.boolEq;rfl;rfl)|(apply ValP.boolNe;rfl;rfl)|(apply ValP.lss;rfl;rfl)|(apply ValP.leq;rfl;rfl)|(apply ValP.gtr;rfl;rfl)|(apply ValP.geq;rfl;rfl)|(apply ValP.eq;rfl;rfl)|(apply ValP.ne;rfl;rfl)|(apply ValP.cutToL;infer_instance;infer_instance;rfl;rfl;decide;omega)|(apply ValP.cutFromL;infer_instance;infer_instance;rfl;rfl;decide;omega)|(apply ValP.cutTo;infer_instance;infer_instance;rfl;rfl;omega)|(apply ValP.cutFrom;infer_instance;infer_instance;rfl;rfl;omega)|(apply ValP.convU;rfl)))|(apply DW.callX;rfl;rfl;rfl;(first|exact zC|(apply wantYes;rfl;rfl;(first|with_reducible rfl|(focus (simp only [Bool.not_true,Bool.not_false];done))|(with_reducible assumption)|(focus (simp only [Bool.not_true,Bool.not_false];with_reducible assumption)))));rfl;(repeat (first|exact ArgsOk.nil|(apply ArgsOk.cons;rfl)));rfl;fail)))))
 (apply LW.callR;rfl;rfl;infer_instance;(repeat (first|exact ArgsOk.nil|(apply ArgsOk.cons;rfl)));intro w hs)
 exact SK.Clone_calls _ _ w (hf.st hs) hl
 intro v1 g1 h1
 have h1':=h1
 unfold bM at h1'
 obtain ⟨q,kk,rfl⟩:=h1'.form
 (repeat (first|(first|refine thenN ?_|refine thenL ?_|refine thenM ?_|(apply beginI;(repeat (first|apply qA|apply qB|apply qC)))|(apply roundN;(repeat (first|apply qA|apply qB|apply qC)))|refine blkN ?_|refine thenR ?_|refine blkR ?_|refine thenE ?_|refine blkE rfl ?_|refine blkO rfl ?_|refine CW.scope ?_|refine scopeQ.n ?_|refine scopeQ.r ?_|refine scopeQ.e ?_|refine zI ?_|refine zM ?_|refine zL ?_|refine zK ?_|refine zJ ?_|refine CW.exit ?_|refine CW.label ?_|(apply CW.condT;rfl;(first|with_reducible rfl|(focus (simp only [Bool.not_true,Bool.not_false];done))|(with_reducible assumption)|(focus (simp only [Bool.not_true,Bool.not_false];with_reducible assumption))))|(apply CW.condF;rfl;(first|with_reducible rfl|(focus (simp only [Bool.not_true,Bool.not_false];done))|(with_reducible assumption)|(focus (simp only [Bool.not_true,Bool.not_false];with_reducible assumption)))))|(first|(apply LW.load;rfl;rfl;(first|(focus (apply qE;(repeat (first|apply zY|apply zX|apply zZ));done))|exact Known.ext (by assumption) (by simp));(first|exact qF rfl|exact Rd.one' rfl|exact Rd.one rfl|(apply Rd.one';apply nth_wc;omega)|assumption))|(apply zR;rfl;rfl;(repeat (first|apply qA|apply qB|apply qC));(first|assumption|(apply Wr.whole;rfl;rfl;rfl)))|(apply LW.allocW;rfl;intro _)|(apply zU;rfl;intro _)|(apply zT;rfl;rfl;intro _)|(apply LW.alloc1;rfl;rfl;intro _)|(apply LW.box1;rfl;rfl;rfl;intro _)|apply zV|(apply LW.guardT';rfl;rfl;(first|with_reducible rfl|(focus (simp only [Bool.not_true,Bool.not_false];done))|(with_reducible assumption)|(focus (simp only [Bool.not_true,Bool.not_false];with_reducible assumption))))|(apply LW.guardF';rfl;rfl;(first|with_reducible rfl|(focus (simp only [Bool.not_true,Bool.not_false];done))|(with_reducible assumption)|(focus (simp only [Bool.not_true,Bool.not_false];with_reducible assumption)));rfl)|(apply LW.guardU;rfl;rfl;rfl)|((apply zS;rfl;rfl;infer_instance;(repeat (first|exact ArgsOk.nil|(apply ArgsOk.cons;rfl)));intro w _);fail)|(apply LW.makeMap;rfl;intro _)|(apply LW.mapIns;infer_instance;infer_instance;rfl;rfl;rfl;(repeat (first|apply qA|apply qB|apply qC));rfl;rfl)|(apply LW.mapGet;rfl;infer_instance;infer_instance;infer_instance;rfl;rfl;(first|(focus (apply qE;(repeat (first|apply zY|apply zX|apply zZ));done))|exact Known.ext (by assumption) (by simp));rfl;assumption;rfl)|(apply LW.v0;rfl;rfl;(first|(apply ValP.move;rfl)|(apply ValP.nilCheck;rfl)|(apply ValP.assign;rfl)|(apply ValP.extractN;rfl;rfl)|(apply ValP.indexAddrL;rfl;rfl;rfl)|(apply ValP.indexAddrA;rfl;rfl;rfl;omega)|(apply ValP.indexAddrSL;rfl;rfl;decide;omega)|(apply ValP.indexAddrS;rfl;rfl;rfl;omega)|(apply ValP.fieldAddr;rfl;rfl)|(apply ValP.pickT';rfl;(first|with_reducible rfl|(focus (simp only [Bool.not_true,Bool.not_false];done))|(with_reducible assumption)|(focus (simp only [Bool.not_true,Bool.not_false];with_reducible assumption)));rfl)|(apply ValP.pickF';rfl;(first|with_reducible rfl|(focus (simp only [Bool.not_true,Bool.not_false];done))|(with_reducible assumption)|(focus (simp only [Bool.not_true,Bool.not_false];with_reducible assumption)));rfl)|(apply ValP.notT;rfl;(first|with_reducible rfl|(focus (simp only [Bool.not_true,Bool.not_false];done))|(with_reducible assumption)|(focus (simp only [Bool.not_true,Bool.not_false];with_reducible assumption))))|(apply ValP.notF;rfl;(first|with_reducible rfl|(focus (simp only [Bool.not_true,Bool.not_false];done))|(with_reducible assumption)|(focus (simp only [Bool.not_true,Bool.not_false];with_reducible assumption))))|(apply ValP.notB;rfl)|(apply ValP.lenR;rfl;infer_instance;rfl)|(apply ValP.lenStr;rfl;infer_instance;rfl)|(apply ValP.indexSv;infer_instance;rfl;rfl;rfl;(first|assumption|rfl))|(apply ValP.cutStr;infer_instance;rfl;rfl;rfl;omega;(first|omega|(simp;omega)|(simp [hexdigits];omega)))|(apply ValP.cutStrTo;infer_instance;rfl;rfl;(first|omega|(simp;omega)|(simp [hexdigits];omega)))|(apply ValP.cutStrFrom;infer_instance;rfl;rfl;(first|omega|(simp;omega)|(simp [hexdigits];omega)))|(apply ValP.addStr;rfl;rfl;(first|omega|(simp;omega)|(simp [hexdigits];omega)))|(apply ValP.min3;rfl;rfl;rfl)|(apply ValP.max3;rfl;rfl;rfl)|(apply ValP.minZL;rfl;rfl;decide)|(apply ValP.maxZ;rfl;rfl)|(apply ValP.minZ;rfl;rfl)|exact ValP.buildW0|(apply ValP.buildW1L;rfl;decide;rfl)|(apply ValP.buildW1;rfl;(first|omega|(focus ((repeat (first|omega|apply or64|apply xor64|apply and64|apply div64));done))))|(first|(apply ValP.buildA;(repeat (first|exact zB|(apply zA;rfl)));rfl;(simp only [fillC,wc,wrCells,Value.cells,qK,qH,qM,qL,Nat.reduceAdd,Nat.reduceMul,qO,Nat.mul_one];rfl))|(apply zW;infer_instance;infer_instance;(repeat (first|exact zB|(apply zA;rfl)));rfl;(simp only [fillP,wrCells,Value.cells,qI,qJ,qK,qH,qM,qL,Nat.reduceAdd,qO];rfl))|(apply ValP.field1;infer_instance;infer_instance;rfl;rfl)|(apply ValP.cutArrAll;infer_instance;infer_instance;rfl))|(apply ValP.indexAL;rfl;rfl;rfl;rfl;rfl)|(apply ValP.indexA;rfl;rfl;rfl;rfl;omega;(first|(apply nth_limb;omega)|(apply nth_wc;omega)))|(apply ValP.cutArr;infer_instance;infer_instance;rfl;rfl;rfl)|(apply ValP.asArr;infer_instance;rfl;rfl)|(apply ValP.convI;rfl;omega;omega)|(apply ValP.convN;rfl;omega;omega)|(apply ValP.convB;rfl)|(apply ValP.makeFunc;(repeat (first|exact ArgsOk.nil|(apply ArgsOk.cons;rfl)));(repeat (first|exact ArgsOk.nil|(apply ArgsOk.cons;rfl))))|(apply ValP.ptrNilT;rfl;rfl)|(apply ValP.ptrNilF;rfl;rfl)|(apply ValP.ptrSame;rfl;rfl)|(apply ValP.sliceDataR;rfl;omega)|fail|first|(apply ValP.quoZL;rfl;rfl;decide;omega;omega)|(apply ValP.quoZK;rfl;rfl;decide;omega;omega)|(apply ValP.quoZ;rfl;rfl;omega;omega)|(apply ValP.remZL;rfl;rfl;decide;omega)|(apply ValP.remZK;rfl;rfl;decide;omega)|(apply ValP.remZ;rfl;rfl;omega)|(apply ValP.addZL;rfl;rfl;decide;omega)|(apply ValP.addZK;rfl;rfl;decide;omega)|(apply ValP.addZ;rfl;rfl;omega)|(apply ValP.mulZL;rfl;rfl;decide;omega)|(apply ValP.mulZK;rfl;rfl;decide;omega)|(apply ValP.mulZ;rfl;rfl;omega)|(apply ValP.subZL;rfl;rfl;decide;omega;omega)|(apply ValP.subZK;rfl;rfl;decide;omega;omega)|(apply ValP.subZ;rfl;rfl;omega;omega)|(apply ValP.quoNL;rfl;rfl;decide;omega;omega)|(apply ValP.quoNK;rfl;rfl;decide;omega;omega)|(apply ValP.quoN;rfl;rfl;omega;omega)|(apply ValP.remNL;rfl;rfl;decide;omega)|(apply ValP.remNK;rfl;rfl;decide;omega)|(apply ValP.remN;rfl;rfl;omega)|(apply ValP.addNL;rfl;rfl;decide)|(apply ValP.addNK;rfl;rfl;decide)|(apply ValP.addN;rfl;rfl)|(apply ValP.mulNL;rfl;rfl;decide)|(apply ValP.mulNK;rfl;rfl;decide)|(apply ValP.mulN;rfl;rfl)|(apply ValP.subNL;rfl;rfl;decide;omega;omega)|(apply ValP.subNK;rfl;rfl;decide;omega;omega)|(apply ValP.subN;rfl;rfl;omega;omega)|(apply ValP.andUL;rfl;rfl;decide;(first|omega|(focus ((repeat (first|omega|apply or64|apply xor64|apply and64|apply div64));done)));(first|omega|(focus ((repeat (first|omega|apply or64|apply xor64|apply and64|apply div64));done))))|(apply ValP.andUK;rfl;rfl;decide;(first|omega|(focus ((repeat (first|omega|apply or64|apply xor64|apply and64|apply div64));done)));(first|omega|(focus ((repeat (first|omega|apply or64|apply xor64|apply and64|apply div64));done))))|(apply ValP.andU;rfl;rfl;(first|omega|(focus ((repeat (first|omega|apply or64|apply xor64|apply and64|apply div64));done)));(first|omega|(focus ((repeat (first|omega|apply or64|apply xor64|apply and64|apply div64));done))))|(apply ValP.orUL;rfl;rfl;decide;(first|omega|(focus ((repeat (first|omega|apply or64|apply xor64|apply and64|apply div64));done)));(first|omega|(focus ((repeat (first|omega|apply or64|apply xor64|apply and64|apply div64));done))))|(apply ValP.orUK;rfl;rfl;decide;(first|omega|(focus ((repeat (first|omega|apply or64|apply xor64|apply and64|apply div64));done)));(first|omega|(focus ((repeat (first|omega|apply or64|apply xor64|apply and64|apply div64));done))))|(apply ValP.orU;rfl;rfl;(first|omega|(focus ((repeat (first|omega|apply or64|apply xor64|apply and64|apply div64));done)));(first|omega|(focus ((repeat (first|omega|apply or64|apply xor64|apply and64|apply div64));done))))|(apply ValP.xorUL;rfl;rfl;decide;(first|omega|(focus ((repeat (first|omega|apply or64|apply xor64|apply and64|apply div64));done)));(first|omega|(focus ((repeat (first|omega|apply or64|apply xor64|apply and64|apply div64));done))))|(apply ValP.xorUK;rfl;rfl;decide;(first|omega|(focus ((repeat (first|omega|apply or64|apply xor64|apply and64|apply div64));done)));(first|omega|(focus ((repeat (first|omega|apply or64|apply xor64|apply and64|apply div64));done))))|(apply ValP.xorU;rfl;rfl;(first|omega|(focus ((repeat (first|omega|apply or64|apply xor64|apply and64|apply div64));done)));(first|omega|(focus ((repeat (first|omega|apply or64|apply xor64|apply and64|apply div64));done))))|(apply ValP.shrUL;rfl;rfl;decide;omega)|(apply ValP.shrU;rfl;rfl;omega)|(apply ValP.shlUL;rfl;rfl;decide;omega)|(apply ValP.shlU;rfl;rfl;omega)|(apply ValP.notU;rfl;(first|omega|(focus ((repeat (first|omega|apply or64|apply xor64|apply and64|apply div64));done))))|(apply ValP.addI;rfl;rfl;omega;omega)|(apply ValP.subI;rfl;rfl;omega;omega)|(apply ValP.mulI;rfl;rfl;omega;omega)|(apply ValP.lssT;rfl;rfl;omega)|(apply ValP.lssF;rfl;rfl;omega)|(apply ValP.leqT;rfl;rfl;omega)|(apply ValP.leqF;rfl;rfl;omega)|(apply ValP.gtrT;rfl;rfl;omega)|(apply ValP.gtrF;rfl;rfl;omega)|(apply ValP.geqT;rfl;rfl;omega)|(apply ValP.geqF;rfl;rfl;omega)|(apply ValP.eqT;rfl;rfl;omega)|(apply ValP.eqF;rfl;rfl;omega)|(apply ValP.neT;rfl;rfl;omega)|(apply ValP.neF;rfl;rfl;omega)|(apply ValP.quoI;rfl;rfl;omega;omega;omega)|(apply ValP.remI;rfl;rfl;omega;omega)|(apply ValP.eqWT;rfl;rfl;(first|assumption|with_reducible rfl))|(apply ValP.neWF;rfl;rfl;(first|assumption|with_reducible rfl))|(apply ValP.eqWF;rfl;rfl;(first|assumption|exact Nat.mod_lt _ (by decide)|omega);(first|assumption|exact Nat.mod_lt _ (by decide)|omega);(first|assumption|omega))|(apply ValP.neWT;rfl;rfl;(first|assumption|exact Nat.mod_lt _ (by decide)|omega);(first|assumption|exact Nat.mod_lt _ (by decide)|omega);(first|assumption|omega))|(apply ValP.eqW;rfl;rfl;(first|assumption|exact Nat.mod_lt _ (by decide)|omega);(first|assumption|exact Nat.mod_lt _ (by decide)|omega))|(apply ValP.neW;rfl;rfl;(first|assumption|exact Nat.mod_lt _ (by decide)|omega);(first|assumption|exact Nat.mod_lt _ (by decide)|omega))|(apply ValP.boolEqT;rfl;rfl;(first|assumption|with_reducible rfl))|(apply ValP.boolNeF;rfl;rfl;(first|assumption|with_reducible rfl))|(apply ValP.strEqT;rfl;rfl;(first|with_reducible rfl|assumption|decide))|(apply ValP.strEqF;rfl;rfl;(first|with_reducible rfl|assumption|decide))|(apply ValP.strNeT;rfl;rfl;(first|with_reducible rfl|assumption|decide))|(apply ValP.strNeF;rfl;rfl;(first|with_reducible rfl|assumption|decide))|(apply ValP.strEq;rfl;rfl)|(apply ValP.strNe;rfl;rfl)|(apply ValP.boolEq;rfl;rfl)|(apply ValP.boolNe;rfl;rfl)|(apply ValP.lss;rfl;rfl)|(apply ValP.leq;rfl;rfl)|(apply ValP.gtr;rfl;rfl)|(apply ValP.geq;rfl;rfl)|(apply ValP.eq;rfl;rfl)|(apply ValP.ne;rfl;rfl)|(apply ValP.cutToL;infer_instance;infer_instance;rfl;rfl;decide;omega)|(apply ValP.cutFromL;infer_instance;infer_instance;rfl;rfl;decide;omega)|(apply ValP.cutTo;infer_instance;infer_instance;rfl;rfl;omega)|(apply ValP.cutFrom;infer_instance;infer_instance;rfl;rfl;omega)|(apply ValP.convU;rfl)))|(apply LW.toUnsafe;rfl;rfl;(first|(focus (apply qE;(repeat (first|apply zY|apply zX|apply zZ));done))|exact Known.ext (by assumption) (by simp));rfl;rfl)|(apply LW.fromUnsafe;rfl;rfl;(first|(focus (apply qE;(repeat (first|apply zY|apply zX|apply zZ));done))|exact Known.ext (by assumption) (by simp));kernel_rfl)|(apply LW.layA;rfl;infer_instance;infer_instance;rfl;rfl;rfl;rfl;rfl;intro _)|(apply LW.lay1;rfl;infer_instance;infer_instance;rfl;rfl;rfl;rfl;rfl;rfl;intro _)|(apply LW.v0;rfl;rfl;apply ValP.callX;rfl;(repeat (first|exact ArgsOk.nil|(apply ArgsOk.cons;rfl)));fail))|((apply CW.pre;first|refine AnyW.any 1 mixed (by decide +kernel) ?_|refine AnyW.any 2 mixed (by decide +kernel) ?_|refine AnyW.any 3 mixed (by decide +kernel) ?_|refine AnyW.any 4 mixed (by decide +kernel) ?_|refine AnyW.any 5 mixed (by decide +kernel) ?_|refine AnyW.any 6 mixed (by decide +kernel) ?_|refine AnyW.any 7 mixed (by decide +kernel) ?_|refine AnyW.any 8 mixed (by decide +kernel) ?_|refine AnyW.any 9 mixed (by decide +kernel) ?_|refine AnyW.any 10 mixed (by decide +kernel) ?_|refine AnyW.any 11 mixed (by decide +kernel) ?_|refine AnyW.any 12 mixed (by decide +kernel) ?_|refine AnyW.any 13 mixed (by decide +kernel) ?_|refine AnyW.any 14 mixed (by decide +kernel) ?_|refine AnyW.any 15 mixed (by decide +kernel) ?_|refine AnyW.any 16 mixed (by decide +kernel) ?_|refine AnyW.any 17 mixed (by decide +kernel) ?_|refine AnyW.any 18 mixed (by decide +kernel) ?_|refine AnyW.any 19 mixed (by decide +kernel) ?_|refine AnyW.any 20 mixed (by decide +kernel) ?_|refine AnyW.any 21 mixed (by decide +kernel) ?_|refine AnyW.any 22 mixed (by decide +kernel) ?_|refine AnyW.any 23 mixed (by decide +kernel) ?_|refine AnyW.any 24 mixed (by decide +kernel) ?_|refine AnyW.any 25 mixed (by decide +kernel) ?_|refine AnyW.any 26 mixed (by decide +kernel) ?_|refine AnyW.any 27 mixed (by decide +kernel) ?_|refine AnyW.any 28 mixed (by decide +kernel) ?_|refine AnyW.any 29 mixed (by decide +kernel) ?_|refine AnyW.any 30 mixed (by decide +kernel) ?_|refine AnyW.any 31 mixed (by decide +kernel) ?_|refine AnyW.any 32 mixed (by decide +kernel) ?_|refine AnyW.any 33 mixed (by decide +kernel) ?_|refine AnyW.any 34 mixed (by decide +kernel) ?_|refine AnyW.any 35 mixed (by decide +kernel) ?_|refine AnyW.any 36 mixed (by decide +kernel) ?_|refine AnyW.any 37 mixed (by decide +kernel) ?_|refine AnyW.any 38 mixed (by decide +kernel) ?_|refine AnyW.any 39 mixed (by decide +kernel) ?_|refine AnyW.any 40 mixed (by decide +kernel) ?_|refine AnyW.any 41 mixed (by decide +kernel) ?_|refine AnyW.any 42 mixed (by decide +kernel) ?_|refine AnyW.any 43 mixed (by decide +kernel) ?_|refine AnyW.any 44 mixed (by decide +kernel) ?_|refine AnyW.any 45 mixed (by decide +kernel) ?_|refine AnyW.any 46 mixed (by decide +kernel) ?_|refine AnyW.any 47 mixed (by decide +kernel) ?_|refine AnyW.any 48 mixed (by decide +kernel) ?_|refine AnyW.any 49 mixed (by decide +kernel) ?_|refine AnyW.any 50 mixed (by decide +kernel) ?_|refine AnyW.any 51 mixed (by decide +kernel) ?_|refine AnyW.any 52 mixed (by decide +kernel) ?_|refine AnyW.any 53 mixed (by decide +kernel) ?_|refine AnyW.any 54 mixed (by decide +kernel) ?_|refine AnyW.any 55 mixed (by decide +kernel) ?_|refine AnyW.any 56 mixed (by decide +kernel) ?_|refine AnyW.any 57 mixed (by decide +kernel) ?_|refine AnyW.any 58 mixed (by decide +kernel) ?_|refine AnyW.any 59 mixed (by decide +kernel) ?_|refine AnyW.any 60 mixed (by decide +kernel) ?_);(try simp only [tsOf_cons,tsOf_nil,tsOf_app]);repeat (first|fail|(apply qD;rfl;rfl;rfl;(first|exact zC|(apply wantYes;rfl;rfl;(first|with_reducible rfl|(focus (simp only [Bool.not_true,Bool.not_false];done))|(with_reducible assumption)|(focus (simp only [Bool.not_true,Bool.not_false];with_reducible assumption)))));rfl;(repeat (first|(apply zP;(first|exact zN|kernel_rfl))|apply zO|apply zQ));(first|exact qF rfl|exact Rd.one' rfl|exact Rd.one rfl|(apply Rd.one';apply nth_wc;omega)|assumption))|(apply DW.loadX;rfl;rfl;rfl;(first|exact zC|(apply wantYes;rfl;rfl;(first|with_reducible rfl|(focus (simp only [Bool.not_true,Bool.not_false];done))|(with_reducible assumption)|(focus (simp only [Bool.not_true,Bool.not_false];with_reducible assumption)))));rfl;assumption;simp;(first|exact qF rfl|exact Rd.one' rfl|exact Rd.one rfl|(apply Rd.one';apply nth_wc;omega)|assumption))|(apply DW.store;rfl;rfl;(first|exact zC|(apply wantYes;rfl;rfl;(first|with_reducible rfl|(focus (simp only [Bool.not_true,Bool.not_false];done))|(with_reducible assumption)|(focus (simp only [Bool.not_true,Bool.not_false];with_reducible assumption)))));rfl;rfl;(repeat (first|(apply TSet.head;(first|exact zN|kernel_rfl);(first|exact zN|kernel_rfl))|apply TSet.tail|apply TSet.app));(first|assumption|(apply Wr.whole;rfl;rfl;rfl)))|(apply DW.allocW;rfl;rfl;rfl;(first|exact zC|(apply wantYes;rfl;rfl;(first|with_reducible rfl|(focus (simp only [Bool.not_true,Bool.not_false];done))|(with_reducible assumption)|(focus (simp only [Bool.not_true,Bool.not_false];with_reducible assumption)))));intro _)|(apply DW.allocA;rfl;rfl;rfl;(first|exact zC|(apply wantYes;rfl;rfl;(first|with_reducible rfl|(focus (simp only [Bool.not_true,Bool.not_false];done))|(with_reducible assumption)|(focus (simp only [Bool.not_true,Bool.not_false];with_reducible assumption)))));intro _)|(apply DW.boxA;rfl;rfl;rfl;(first|exact zC|(apply wantYes;rfl;rfl;(first|with_reducible rfl|(focus (simp only [Bool.not_true,Bool.not_false];done))|(with_reducible assumption)|(focus (simp only [Bool.not_true,Bool.not_false];with_reducible assumption)))));rfl;intro _)|(apply DW.alloc1;rfl;rfl;rfl;(first|exact zC|(apply wantYes;rfl;rfl;(first|with_reducible rfl|(focus (simp only [Bool.not_true,Bool.not_false];done))|(with_reducible assumption)|(focus (simp only [Bool.not_true,Bool.not_false];with_reducible assumption)))));rfl;intro _)|(apply DW.box1;rfl;rfl;rfl;(first|exact zC|(apply wantYes;rfl;rfl;(first|with_reducible rfl|(focus (simp only [Bool.not_true,Bool.not_false];done))|(with_reducible assumption)|(focus (simp only [Bool.not_true,Bool.not_false];with_reducible assumption)))));rfl;rfl;intro _)|(apply DW.sliceData;rfl;rfl;rfl;(first|exact zC|(apply wantYes;rfl;rfl;(first|with_reducible rfl|(focus (simp only [Bool.not_true,Bool.not_false];done))|(with_reducible assumption)|(focus (simp only [Bool.not_true,Bool.not_false];with_reducible assumption)))));rfl;omega;(repeat (first|(apply zP;(first|exact zN|kernel_rfl))|apply zO|apply zQ)))|(apply DW.layA;rfl;rfl;rfl;(first|exact zC|(apply wantYes;rfl;rfl;(first|with_reducible rfl|(focus (simp only [Bool.not_true,Bool.not_false];done))|(with_reducible assumption)|(focus (simp only [Bool.not_true,Bool.not_false];with_reducible assumption)))));infer_instance;infer_instance;rfl;rfl;rfl;rfl;rfl;intro _)|(apply DW.lay1;rfl;rfl;rfl;(first|exact zC|(apply wantYes;rfl;rfl;(first|with_reducible rfl|(focus (simp only [Bool.not_true,Bool.not_false];done))|(with_reducible assumption)|(focus (simp only [Bool.not_true,Bool.not_false];with_reducible assumption)))));infer_instance;infer_instance;rfl;rfl;rfl;rfl;rfl;rfl;intro _)|(apply DW.skip';rfl;rfl;rfl;rfl;(first|with_reducible rfl|(focus (simp only [Bool.not_true,Bool.not_false];done))|(with_reducible assumption)|(focus (simp only [Bool.not_true,Bool.not_false];with_reducible assumption))))|(apply DW.skipU;rfl;rfl;rfl;rfl)|(apply DW.nil;simp only [fsOf_cons,fsOf_nil,fsOf_app,fsOf_tsOf,fsOf_new])|((apply DW.callE;rfl;rfl;rfl;(first|exact zC|(apply wantYes;rfl;rfl;(first|with_reducible rfl|(focus (simp only [Bool.not_true,Bool.not_false];done))|(with_reducible assumption)|(focus (simp only [Bool.not_true,Bool.not_false];with_reducible assumption)))));rfl;infer_instance;(repeat (first|exact ArgsOk.nil|(apply ArgsOk.cons;rfl)));rfl;(repeat (first|exact ReadAll.nil|(apply ReadAll.own;(repeat (first|(apply zP;(first|exact zN|kernel_rfl))|apply zO|apply zQ)))));intro w _ _);fail)|((apply DW.callV;rfl;rfl;rfl;(first|exact zC|(apply wantYes;rfl;rfl;(first|with_reducible rfl|(focus (simp only [Bool.not_true,Bool.not_false];done))|(with_reducible assumption)|(focus (simp only [Bool.not_true,Bool.not_false];with_reducible assumption)))));rfl;infer_instance;(repeat (first|exact ArgsOk.nil|(apply ArgsOk.cons;rfl)));(repeat (first|exact RdV.nil|(apply RdV.plain;first|exact blocks_uca _|exact blocks_nca _|rfl)|apply RdV.none|(apply RdV.ptr;(repeat (first|(apply zP;(first|exact zN|kernel_rfl))|apply zO|apply zQ)))|(apply RdV.own;(first|assumption|omega);(repeat (first|(apply zP;(first|exact zN|kernel_rfl))|apply zO|apply zQ)))|(apply RdV.ext;assumption;rfl)));intro w _ _);fail)|(apply DW.v0;rfl;rfl;rfl;(first|exact zC|(apply wantYes;rfl;rfl;(first|with_reducible rfl|(focus (simp only [Bool.not_true,Bool.not_false];done))|(with_reducible assumption)|(focus (simp only [Bool.not_true,Bool.not_false];with_reducible assumption)))));rfl;(first|(apply ValP.move;rfl)|(apply ValP.nilCheck;rfl)|(apply ValP.assign;rfl)|(apply ValP.extractN;rfl;rfl)|(apply ValP.indexAddrL;rfl;rfl;rfl)|(apply ValP.indexAddrA;rfl;rfl;rfl;omega)|(apply ValP.indexAddrSL;rfl;rfl;decide;omega)|(apply ValP.indexAddrS;rfl;rfl;rfl;omega)|(apply ValP.fieldAddr;rfl;rfl)|(apply ValP.pickT';rfl;(first|with_reducible rfl|(focus (simp only [Bool.not_true,Bool.not_false];done))|(with_reducible assumption)|(focus (simp only [Bool.not_true,Bool.not_false];with_reducible assumption)));rfl)|(apply ValP.pickF';rfl;(first|with_reducible rfl|(focus (simp only [Bool.not_true,Bool.not_false];done))|(with_reducible assumption)|(focus (simp only [Bool.not_true,Bool.not_false];with_reducible assumption)));rfl)|(apply ValP.notT;rfl;(first|with_reducible rfl|(focus (simp only [Bool.not_true,Bool.not_false];done))|(with_reducible assumption)|(focus (simp only [Bool.not_true,Bool.not_false];with_reducible assumption))))|(apply ValP.notF;rfl;(first|with_reducible rfl|(focus (simp only [Bool.not_true,Bool.not_false];done))|(with_reducible assumption)|(focus (simp only [Bool.not_true,Bool.not_false];with_reducible assumption))))|(apply ValP.notB;rfl)|(apply ValP.lenR;rfl;infer_instance;rfl)|(apply ValP.lenStr;rfl;infer_instance;rfl)|(apply ValP.indexSv;infer_instance;rfl;rfl;rfl;(first|assumption|rfl))|(apply ValP.cutStr;infer_instance;rfl;rfl;rfl;omega;(first|omega|(simp;omega)|(simp [hexdigits];omega)))|(apply ValP.cutStrTo;infer_instance;rfl;rfl;(first|omega|(simp;omega)|(simp [hexdigits];omega)))|(apply ValP.cutStrFrom;infer_instance;rfl;rfl;(first|omega|(simp;omega)|(simp [hexdigits];omega)))|(apply ValP.addStr;rfl;rfl;(first|omega|(simp;omega)|(simp [hexdigits];omega)))|(apply ValP.min3;rfl;rfl;rfl)|(apply ValP.max3;rfl;rfl;rfl)|(apply ValP.minZL;rfl;rfl;decide)|(apply ValP.maxZ;rfl;rfl)|(apply ValP.minZ;rfl;rfl)|exact ValP.buildW0|(apply ValP.buildW1L;rfl;decide;rfl)|(apply ValP.buildW1;rfl;(first|omega|(focus ((repeat (first|omega|apply or64|apply xor64|apply and64|apply div64));done))))|(first|(apply ValP.buildA;(repeat (first|exact zB|(apply zA;rfl)));rfl;(simp only [fillC,wc,wrCells,Value.cells,qK,qH,qM,qL,Nat.reduceAdd,Nat.reduceMul,qO,Nat.mul_one];rfl))|(apply zW;infer_instance;infer_instance;(repeat (first|exact zB|(apply zA;rfl)));rfl;(simp only [fillP,wrCells,Value.cells,qI,qJ,qK,qH,qM,qL,Nat.reduceAdd,qO];rfl))|(apply ValP.field1;infer_instance;infer_instance;rfl;rfl)|(apply ValP.cutArrAll;infer_instance;infer_instance;rfl))|(apply ValP.indexAL;rfl;rfl;rfl;rfl;rfl)|(apply ValP.indexA;rfl;rfl;rfl;rfl;omega;(first|(apply nth_limb;omega)|(apply nth_wc;omega)))|(apply ValP.cutArr;infer_instance;infer_instance;rfl;rfl;rfl)|(apply ValP.asArr;infer_instance;rfl;rfl)|(apply ValP.convI;rfl;omega;omega)|(apply ValP.convN;rfl;omega;omega)|(apply ValP.convB;rfl)|(apply ValP.makeFunc;(repeat (first|exact ArgsOk.nil|(apply ArgsOk.cons;rfl)));(repeat (first|exact ArgsOk.nil|(apply ArgsOk.cons;rfl))))|(apply ValP.ptrNilT;rfl;rfl)|(apply ValP.ptrNilF;rfl;rfl)|(apply ValP.ptrSame;rfl;rfl)|(apply ValP.sliceDataR;rfl;omega)|fail|first|(apply ValP.quoZL;rfl;rfl;decide;omega;omega)|(apply ValP.quoZK;rfl;rfl;decide;omega;omega)|(apply ValP.quoZ;rfl;rfl;omega;omega)|(apply ValP.remZL;rfl;rfl;decide;omega)|(apply ValP.remZK;rfl;rfl;decide;omega)|(apply ValP.remZ;rfl;rfl;omega)|(apply ValP.addZL;rfl;rfl;decide;omega)|(apply ValP.addZK;rfl;rfl;decide;omega)|(apply ValP.addZ;rfl;rfl;omega)|(apply ValP.mulZL;rfl;rfl;decide;omega)|(apply ValP.mulZK;rfl;rfl;decide;omega)|(apply ValP.mulZ;rfl;rfl;omega)|(apply ValP.subZL;rfl;rfl;decide;omega;omega)|(apply ValP.subZK;rfl;rfl;decide;omega;omega)|(apply ValP.subZ;rfl;rfl;omega;omega)|(apply ValP.quoNL;rfl;rfl;decide;omega;omega)|(apply ValP.quoNK;rfl;rfl;decide;omega;omega)|(apply ValP.quoN;rfl;rfl;omega;omega)|(apply ValP.remNL;rfl;rfl;decide;omega)|(apply ValP.remNK;rfl;rfl;decide;omega)|(apply ValP.remN;rfl;rfl;omega)|(apply ValP.addNL;rfl;rfl;decide)|(apply ValP.addNK;rfl;rfl;decide)|(apply ValP.addN;rfl;rfl)|(apply ValP.mulNL;rfl;rfl;decide)|(apply ValP.mulNK;rfl;rfl;decide)|(apply ValP.mulN;rfl;rfl)|(apply ValP.subNL;rfl;rfl;decide;omega;omega)|(apply ValP.subNK;rfl;rfl;decide;omega;omega)|(apply ValP.subN;rfl;rfl;omega;omega)|(apply ValP.andUL;rfl;rfl;decide;(first|omega|(focus ((repeat (first|omega|apply or64|apply xor64|apply and64|apply div64));done)));(first|omega|(focus ((repeat (first|omega|apply or64|apply xor64|apply and64|apply div64));done))))|(apply ValP.andUK;rfl;rfl;decide;(first|omega|(focus ((repeat (first|omega|apply or64|apply xor64|apply and64|apply div64));done)));(first|omega|(focus ((repeat (first|omega|apply or64|apply xor64|apply and64|apply div64));done))))|(apply ValP.andU;rfl;rfl;(first|omega|(focus ((repeat (first|omega|apply or64|apply xor64|apply and64|apply div64));done)));(first|omega|(focus ((repeat (first|omega|apply or64|apply xor64|apply and64|apply div64));done))))|(apply ValP.orUL;rfl;rfl;decide;(first|omega|(focus ((repeat (first|omega|apply or64|apply xor64|apply and64|apply div64));done)));(first|omega|(focus ((repeat (first|omega|apply or64|apply xor64|apply and64|apply div64));done))))|(apply ValP.orUK;rfl;rfl;decide;(first|omega|(focus ((repeat (first|omega|apply or64|apply xor64|apply and64|apply div64));done)));(first|omega|(focus ((repeat (first|omega|apply or64|apply xor64|apply and64|apply div64));done))))|(apply ValP.orU;rfl;rfl;(first|omega|(focus ((repeat (first|omega|apply or64|apply xor64|apply and64|apply div64));done)));(first|omega|(focus ((repeat (first|omega|apply or64|apply xor64|apply and64|apply div64));done))))|(apply ValP.xorUL;rfl;rfl;decide;(first|omega|(focus ((repeat (first|omega|apply or64|apply xor64|apply and64|apply div64));done)));(first|omega|(focus ((repeat (first|omega|apply or64|apply xor64|apply and64|apply div64));done))))|(apply ValP.xorUK;rfl;rfl;decide;(first|omega|(focus ((repeat (first|omega|apply or64|apply xor64|apply and64|apply div64));done)));(first|omega|(focus ((repeat (first|omega|apply or64|apply xor64|apply and64|apply div64));done))))|(apply ValP.xorU;rfl;rfl;(first|omega|(focus ((repeat (first|omega|apply or64|apply xor64|apply and64|apply div64));done)));(first|omega|(focus ((repeat (first|omega|apply or64|apply xor64|apply and64|apply div64));done))))|(apply ValP.shrUL;rfl;rfl;decide;omega)|(apply ValP.shrU;rfl;rfl;omega)|(apply ValP.shlUL;rfl;rfl;decide;omega)|(apply ValP.shlU;rfl;rfl;omega)|(apply ValP.notU;rfl;(first|omega|(focus ((repeat (first|omega|apply or64|apply xor64|apply and64|apply div64));done))))|(apply ValP.addI;rfl;rfl;omega;omega)|(apply ValP.subI;rfl;rfl;omega;omega)|(apply ValP.mulI;rfl;rfl;omega;omega)|(apply ValP.lssT;rfl;rfl;omega)|(apply ValP.lssF;rfl;rfl;omega)|(apply ValP.leqT;rfl;rfl;omega)|(apply ValP.leqF;rfl;rfl;omega)|(apply ValP.gtrT;rfl;rfl;omega)|(apply ValP.gtrF;rfl;rfl;omega)|(apply ValP.geqT;rfl;rfl;omega)|(apply ValP.geqF;rfl;rfl;omega)|(apply ValP.eqT;rfl;rfl;omega)|(apply ValP.eqF;rfl;rfl;omega)|(apply ValP.neT;rfl;rfl;omega)|(apply ValP.neF;rfl;rfl;omega)|(apply ValP.quoI;rfl;rfl;omega;omega;omega)|(apply ValP.remI;rfl;rfl;omega;omega)|(apply ValP.eqWT;rfl;rfl;(first|assumption|with_reducible rfl))|(apply ValP.neWF;rfl;rfl;(first|assumption|with_reducible rfl))|(apply ValP.eqWF;rfl;rfl;(first|assumption|exact Nat.mod_lt _ (by decide)|omega);(first|assumption|exact Nat.mod_lt _ (by decide)|omega);(first|assumption|omega))|(apply ValP.neWT;rfl;rfl;(first|assumption|exact Nat.mod_lt _ (by decide)|omega);(first|assumption|exact Nat.mod_lt _ (by decide)|omega);(first|assumption|omega))|(apply ValP.eqW;rfl;rfl;(first|assumption|exact Nat.mod_lt _ (by decide)|omega);(first|assumption|exact Nat.mod_lt _ (by decide)|omega))|(apply ValP.neW;rfl;rfl;(first|assumption|exact Nat.mod_lt _ (by decide)|omega);(first|assumption|exact Nat.mod_lt _ (by decide)|omega))|(apply ValP.boolEqT;rfl;rfl;(first|assumption|with_reducible rfl))|(apply ValP.boolNeF;rfl;rfl;(first|assumption|with_reducible rfl))|(apply ValP.strEqT;rfl;rfl;(first|with_reducible rfl|assumption|decide))|(apply ValP.strEqF;rfl;rfl;(first|with_reducible rfl|assumption|decide))|(apply ValP.strNeT;rfl;rfl;(first|with_reducible rfl|assumption|decide))|(apply ValP.strNeF;rfl;rfl;(first|with_reducible rfl|assumption|decide))|(apply ValP.strEq;rfl;rfl)|(apply ValP.strNe;rfl;rfl)|(apply ValP.boolEq;rfl;rfl)|(apply ValP.boolNe;rfl;rfl)|(apply ValP.lss;rfl;rfl)|(apply ValP.leq;rfl;rfl)|(apply ValP.gtr;rfl;rfl)|(apply ValP.geq;rfl;rfl)|(apply ValP.eq;rfl;rfl)|(apply ValP.ne;rfl;rfl)|(apply ValP.cutToL;infer_instance;infer_instance;rfl;rfl;decide;omega)|(apply ValP.cutFromL;infer_instance;infer_instance;rfl;rfl;decide;omega)|(apply ValP.cutTo;infer_instance;infer_instance;rfl;rfl;omega)|(apply ValP.cutFrom;infer_instance;infer_instance;rfl;rfl;omega)|(apply ValP.convU;rfl)))|(apply DW.callX;rfl;rfl;rfl;(first|exact zC|(apply wantYes;rfl;rfl;(first|with_reducible rfl|(focus (simp only [Bool.not_true,Bool.not_false];done))|(with_reducible assumption)|(focus (simp only [Bool.not_true,Bool.not_false];with_reducible assumption)))));rfl;(repeat (first|exact ArgsOk.nil|(apply ArgsOk.cons;rfl)));rfl;fail)))))
 exact fin (vs:=[.slice q (l.take k).length kk]) g1 (.inl rfl) rfl rfl (by (repeat (first|exact zF|(apply zD;first|exact zG rfl|(apply zH;rfl;(first|(focus (apply qE;(repeat (first|apply zY|apply zX|apply zZ));done))|exact Known.ext (by assumption) (by simp));(first|exact qF rfl|exact Rd.one' rfl|exact Rd.one rfl|(apply Rd.one';apply nth_wc;omega)|assumption)))))) (qQ _ _) h1
def fewQ (L:FrL):FrL:=⟨L.cl.take 300,L.ws.take 65,L.ms.take 1025,L.il.take 1025,L.bl.take 1025⟩
def FewR (f:FrV) (L:FrL) (v:Value) (gs:Fs):Prop:=∃ c s m i b,v=frv (f.rows c s m i b)∧FrO (f.rows c s m i b) (fewQ L) gs
theorem row_fewW1 {w:World} {l:List Nat} {n k c:Nat} {p:Option Addr} (h:RowAt w 4 (.slice p l.length c) l.length (wcs l)) (hn:n=min l.length k):RowAt w 4 (.slice p n c) (l.take k).length (wcs (l.take k)):=by
 subst hn
 have h2:=h.take (k:=min l.length k) (by omega)
 rw [wcs_take] at h2
 rw [show l.take k=l.take (min l.length k) by rw [Nat.min_comm,← List.take_take,List.take_length]]
 rw [show (l.take (min l.length k)).length=min l.length k by rw [List.length_take];omega]
 exact h2
theorem few14_calls (f:FrV) (L:FrL) (w:World) (h:FrRows w f L):Calls Tryz.prog 9 #[frv f] w (RetG w [] (FewR f L)):=by
 obtain ⟨code,pc,stk,mem,gas,self,frm,val,inp,back,stat⟩:=f
 obtain ⟨h0,h2,h3,h11,h12⟩:=h
 dsimp only at h0 h2 h3 h11 h12
 obtain ⟨p0,c0,rfl,hle0,hm0⟩:=id h0.form
 obtain ⟨p2,c2,rfl,hle2,hm2⟩:=id h2.form
 obtain ⟨p3,c3,rfl,hle3,hm3⟩:=id h3.form
 obtain ⟨p11,c11,rfl,hle11,hm11⟩:=id h11.form
 obtain ⟨p12,c12,rfl,hle12,hm12⟩:=id h12.form
 simp only [maxLen] at hm0 hm2 hm3 hm11 hm12
 have hf2:=row_fewW1 h2 (k:=65) rfl
 have hl2:(L.ws.take 65).length≤100000:=by rw [List.length_take];omega
 refine enter (args:=[_]) _ [] [] Tryz.func9 rfl Tryz.ntmps9 rfl (by simp) .nil ?_
 (refine sRz ?_;apply zT;rfl;rfl;intro _;apply zU;rfl;intro _;refine nNz<|zI ?_)
 apply CW.pre
 (refine AnyW.anyM [(2,bM (L.cl.take 300)),(5,bM (L.il.take 1025)),(8,bM (L.bl.take 1025))] 10 mixed (by decide +kernel) ?_)
 ((try simp only [tsOf_cons,tsOf_nil,tsOf_app]);refine dvz (.fieldAddr rfl rfl) ?_;apply qD;rfl;rfl;rfl;exact zC;rfl;apply zO;apply zP;exact zN;exact fr_rd0)
 (apply DW.manyV;rfl;rfl;rfl;exact zC;rfl;infer_instance;exact .cons rfl (.cons rfl .nil);apply RdV.ext;assumption;rfl;apply RdV.plain;rfl;exact RdV.nil;intro w _ _)
 exact few1_calls _ _ 300 (by omega) w (h0.bel (by assumption))
 intro v1 g1 h1
 ((try simp only [tsOf_cons,tsOf_nil,tsOf_app]);refine dvz (.fieldAddr rfl rfl) ?_;apply qD;rfl;rfl;rfl;exact zC;rfl;apply zQ;apply zO;apply zP;exact zN;exact fr_rd11)
 (apply DW.manyV;rfl;rfl;rfl;exact zC;rfl;infer_instance;exact .cons rfl (.cons rfl .nil);apply RdV.ext;assumption;rfl;apply RdV.plain;rfl;exact RdV.nil;intro w _ _)
 exact few1_calls _ _ 1025 (by omega) w (h11.bel (by assumption))
 intro v4 g4 h4
 ((try simp only [tsOf_cons,tsOf_nil,tsOf_app]);refine dvz (.fieldAddr rfl rfl) ?_;apply qD;rfl;rfl;rfl;exact zC;rfl;apply zQ;apply zQ;apply zO;apply zP;exact zN;exact fr_rd12)
 (apply DW.manyV;rfl;rfl;rfl;exact zC;rfl;infer_instance;exact .cons rfl (.cons rfl .nil);apply RdV.ext;assumption;rfl;apply RdV.plain;rfl;exact RdV.nil;intro w _ _)
 exact few1_calls _ _ 1025 (by omega) w (h12.bel (by assumption))
 intro v5 g5 h5
 have h1':=h1
 have h4':=h4
 have h5':=h5
 unfold bM at h1' h4' h5'
 obtain ⟨q1,k1,rfl⟩:=h1'.form
 obtain ⟨q4,k4,rfl⟩:=h4'.form
 obtain ⟨q5,k5,rfl⟩:=h5'.form
 ((try simp only [tsOf_cons,tsOf_nil,tsOf_app]);refine dvz (.fieldAddr rfl rfl) ?_;apply DW.nil;simp only [fsOf_cons,fsOf_nil,fsOf_app,fsOf_tsOf,fsOf_new,fsOf_tag])
 (refine zR rfl rfl (.app (.app (.app (.tail .head)))) fr_wr0<|vFz ?_;refine zR rfl rfl (.app (.app (.app (.tail .head)))) fr_wr11<|vFz ?_;refine zR rfl rfl (.app (.app (.app (.tail .head)))) fr_wr12<|nSz<|vFz<|vFz<|ldz rfl (.app (.app (.app (.tail .head)))) fr_rd2s<|vFz<|vFz<|ldz rfl (.app (.app (.app (.tail .head)))) fr_rd2s<|lvz (.lenR rfl inferInstance rfl) ?_;refine lvz (.minZL rfl rfl (by decide)) ?_;refine lvz (.cutTo inferInstance inferInstance rfl rfl (by omega)) ?_)
 (apply LW.callR;rfl;rfl;infer_instance;exact .cons rfl .nil;intro w hs)
 exact CloneW_calls _ _ w (hf2.st hs) hl2
 intro v2 g2 hh2
 have h2':=hh2
 unfold wM at h2'
 obtain ⟨q2,k2,rfl⟩:=h2'.form
 (refine vFz<|vFz ?_;refine zR rfl rfl (.app (.app (.app (.app (.tail .head))))) fr_wr2<|nSz<|vFz<|vFz<|ldz rfl (.app (.app (.app (.app (.tail .head))))) fr_rd3 ?_)
 (apply LW.callR;rfl;rfl;infer_instance;exact .cons rfl (.cons rfl .nil);intro w hs)
 exact few1_calls _ _ 1025 (by omega) w (h3.st hs)
 intro v3 g3 hh3
 have h3':=hh3
 unfold bM at h3'
 obtain ⟨q3,k3,rfl⟩:=h3'.form
 have hsl:FrSl ⟨.slice q1 (L.cl.take 300).length k1,pc,.slice q2 (L.ws.take 65).length k2,.slice q3 (L.ms.take 1025).length k3,gas,self,frm,val,.slice q4 (L.il.take 1025).length k4,.slice q5 (L.bl.take 1025).length k5,stat⟩:=⟨⟨_,_,_,rfl⟩,⟨_,_,_,rfl⟩,⟨_,_,_,rfl⟩,⟨_,_,_,rfl⟩,⟨_,_,_,rfl⟩⟩
 (refine vFz<|vFz ?_;refine zR rfl rfl (.app (.app (.app (.app (.app (.tail .head)))))) fr_wr3<|nSz<|ldz rfl (.app (.app (.app (.app (.app (.tail .head)))))) fr_rdW ?_;apply zR;rfl;rfl;apply qC;apply qC;apply qC;apply qC;apply qC;apply qA;apply fr_wrW;rfl;assumption;refine nNz<|zK ?_)
 refine fin (vs:=[frv ⟨.slice q1 (L.cl.take 300).length k1,pc,.slice q2 (L.ws.take 65).length k2,.slice q3 (L.ms.take 1025).length k3,gas,self,frm,val,.slice q4 (L.il.take 1025).length k4,.slice q5 (L.bl.take 1025).length k5,stat⟩]) (g3++(g2++(g5++(g4++g1)))) (.inl rfl) rfl rfl (by (apply zD;apply zH;rfl;apply qE;apply zZ;apply zZ;apply zZ;apply zZ;apply zZ;apply zY;exact fr_rdW;exact zF)) ?_ ⟨_,_,_,_,_,rfl,g1,g2,g3,g4,g5,?_,h1,hh2,hh3,h4,h5⟩
 ·exact List.Sublist.append_left (List.Sublist.append_left (List.Sublist.append_left (List.Sublist.append_left (qQ _ _) _) _) _) _
 ·exact perm5 g1 g2 g3 g4 g5
theorem FewR.like {x:FrV} {X:FrL} {v:Value} {gs:Fs} (h:FewR x X v gs):∃ y,v=frv y∧FrO y (fewQ X) gs∧LikeF x y:=by
 obtain ⟨c,s,m,i,b,rfl,h⟩:=h
 exact ⟨_,rfl,h,c,s,m,i,b,rfl⟩
theorem FrNum.few {x:FrV} {X:FrL} (h:FrNum x X):FrNum x (fewQ X):=⟨h.gas,h.self,h.frm,h.val,fun y hy=>h.ws y (List.mem_of_mem_take hy)⟩
end Go.Proofs.YtdeggbkbblfpoaaGreatDoor
namespace Go.Proofs.YtdeggbkbblfpoaaGreatDoor
open Go Go.RowKit SL
open Go.ChangeShapes Go.WideShapes
set_option linter.unusedVariables false
section op
variable {w : World}
theorem pair_is {f r:Ty} {cs:List Value} (h:(Ty.pair f r).is w cs):∃ a b,cs=a++b∧f.is w a∧r.is w b:=⟨_,_,(List.take_append_drop _ cs).symm,h.1,h.2⟩
theorem is_u64 {cs:List Value} (h:(Ty.int .u64).is w cs):∃ n:Nat,n < 18446744073709551616∧cs=[.int .u64 (n:Int)]:=by
 obtain ⟨n,rfl,hn⟩:=h
 obtain ⟨k,rfl,hk⟩:=wf_u64 hn
 exact ⟨k,hk,rfl⟩
def tyBs:Ty:=.sl (.int .u8)
end op
section op
variable {H : Type} {enc : TypeId × Value → H} {P : Program} {w W : World} {held : Bool} {r : Reach} {base : Nat} {T E : TypeId} {v : Value} {d : DataW H} {ps : List MemPlace}
def aggB (P:Program) (T:TypeId):Bool:=match P.underlying T with|some (.struct _)|some (.array _ _)=>true|_=>false
theorem open_agg {α:Type} {g:α→List Value} {Q:α→Prop} {e:Ty} (hs:aggB P T=true) (hT:e.ok P (.inl T)=true) (he:∀ cs',e.is w cs'→∃ x,Q x∧cs'=g x)
  (hv:Value.okWide P W r base T v) (h:DataW.Trod enc P w 0 (fun _=>true) held T v d ps):∃ x:α,Q x∧v=.agg (g x).toArray:=by
 obtain ⟨cs,rfl⟩:∃ cs,v=.agg cs:=by
  unfold aggB at hs
  unfold Value.okWide at hv
  split at hs
  ·rename_i fs hu
   simp only [hu] at hv
   obtain ⟨cs,h1,_⟩:=hv
   exact ⟨cs,h1⟩
  ·rename_i n e hu
   simp only [hu] at hv
   obtain ⟨cs,h1,_⟩:=hv
   exact ⟨cs,h1⟩
  ·cases hs
 obtain ⟨x,hx,he2⟩:=he _ (open_one hT h)
 exact ⟨x,hx,congrArg Value.agg (Array.toList_inj.1 he2)⟩
theorem is_wrow {cs:List Value} (h:(Ty.sl .word).is w cs):∃ x:Value × List Nat,(RowAt w 4 x.1 x.2.length (wcs x.2)∧∀ u∈x.2,u < M256)∧cs=[x.1]:=by
 obtain ⟨v,l,h1,h2,h3⟩:=sl_rows (g:=fun u:Nat=>(wc u).toList) (Q:=fun u=>u < M256) (sz:=4) rfl (by decide) (fun _ h=>is_word h) h
 exact ⟨(v,l),⟨h3,fun u hu=>(h2 u hu).1⟩,h1⟩
theorem is_i64 {cs:List Value} (h:(Ty.int .i64).is w cs):∃ n:Int,cs=[.int .i64 n]:=by
 obtain ⟨n,rfl,_⟩:=h
 exact ⟨n,rfl⟩
def tySc:Ty:=.pair (.sl .word) (.pair tyBs .unit)
def tyFr:Ty:=.pair tyBs (.pair (.int .i64) (.pair tySc (.pair (.int .u64) (.pair (.int .u64) (.pair (.int .u64) (.pair .word (.pair tyBs (.pair tyBs (.pair .bool .unit)))))))))
theorem is_fr {cs:List Value} (h:tyFr.is w cs):∃ p:FrV × FrL,(FrRows w p.1 p.2∧FrNum p.1 p.2)∧cs=frc p.1:=by
 obtain ⟨_,_,rfl,h0,h⟩:=pair_is h
 obtain ⟨_,_,rfl,h1,h⟩:=pair_is h
 obtain ⟨_,_,rfl,h2,h⟩:=pair_is h
 obtain ⟨_,_,rfl,h3,h⟩:=pair_is h
 obtain ⟨_,_,rfl,h4,h⟩:=pair_is h
 obtain ⟨_,_,rfl,h5,h⟩:=pair_is h
 obtain ⟨_,_,rfl,h6,h⟩:=pair_is h
 obtain ⟨_,_,rfl,h7,h⟩:=pair_is h
 obtain ⟨_,_,rfl,h8,h⟩:=pair_is h
 obtain ⟨_,_,rfl,h9,h⟩:=pair_is h
 obtain rfl:_=[]:=h
 obtain ⟨_,_,rfl,ha,h2⟩:=pair_is h2
 obtain ⟨_,_,rfl,hb,h2⟩:=pair_is h2
 obtain rfl:_=[]:=h2
 obtain ⟨⟨v0,l0⟩,b0,rfl⟩:=is_bytes h0
 obtain ⟨n1,rfl⟩:=is_i64 h1
 obtain ⟨⟨va,la⟩,⟨ba,ca⟩,rfl⟩:=is_wrow ha
 obtain ⟨⟨vb,lb⟩,bb,rfl⟩:=is_bytes hb
 obtain ⟨n3,b3,rfl⟩:=is_u64 h3
 obtain ⟨n4,b4,rfl⟩:=is_u64 h4
 obtain ⟨n5,b5,rfl⟩:=is_u64 h5
 obtain ⟨n6,b6,rfl⟩:=is_word h6
 obtain ⟨⟨v7,l7⟩,b7,rfl⟩:=is_bytes h7
 obtain ⟨⟨v8,l8⟩,b8,rfl⟩:=is_bytes h8
 obtain ⟨f9,rfl⟩:=h9
 exact ⟨(⟨v0,n1,va,vb,n3,n4,n5,n6,v7,v8,f9⟩,⟨l0,la,lb,l7,l8⟩),⟨⟨b0,ba,bb,b7,b8⟩,⟨b3,b4,b5,b6,ca⟩⟩,rfl⟩
end op
end Go.Proofs.YtdeggbkbblfpoaaGreatDoor
namespace Go.Proofs.YtdeggbkbblfpoaaGreatDoor
open Go Go.RowKit SL
set_option maxRecDepth 8000
set_option maxHeartbeats 4000000
set_option linter.unusedSimpArgs false
set_option linter.unusedVariables false
attribute [local irreducible] SL.CW SL.LW SL.DW Calls SL.Ret SL.RetG SL.beginQ SL.roundQ SL.rangeQ SL.inQ SL.RW SL.AnyW SL.thenQ SL.thenC SL.thenW SL.blkQ SL.finQ SL.ValP SL.NewP SL.SetP SL.CallP SL.Rd SL.Wr SL.Known

section
structure AkV where
 kind:Int
 op:Nat
 ws:Value
 dt:Value
 cold:Bool
 vl:Bool
 new:Bool
section rd
variable {P : Program} {T E : TypeId} {fr : Nat × Nat} {A : AkV} {f : FrV} {c : ClV} {code stk mem inp back : Value} {pc : Int} {gas self frm val : Nat} {stat : Bool} {op dst cself cfrm cval cgas pl n : Nat} {cinp ccode : Value} {mv cstat : Bool}
end rd
section wr
variable {P : Program} {T E : TypeId} {A : AkV} {f : FrV} {c : ClV} {z code stk mem inp back : Value} {pc : Int} {gas self frm val x q k : Nat} {stat y : Bool} {p : Option Addr} {op dst cself cfrm cval cgas pl n : Nat} {cinp ccode : Value} {mv cstat : Bool}
end wr
attribute [local irreducible] SL.inP
end
section
attribute [local irreducible] SL.inP
end
def RGrowR (ws:List Nat) (ms:List UInt8) (n:Nat) (v:Value) (gs:Fs):Prop:=∃ s m g1 g2,v=.tuple #[.agg #[s,m],.int .i64 0]∧gs=g2++g1∧wM ws s g1∧bM (ms++List.replicate (upW n - ms.length) 0) m g2
theorem rGrow_calls (ws:List Nat) (ms:List UInt8) (s m:Value) (z n:Nat) (hz:z=0) (h0:0 < n) (hn:n≤1024) (h32:ms.length % 32=0) (w:World) (hrs:RowAt w 4 s ws.length (wcs ws)) (hrm:RowAt w 1 m ms.length (ucs ms)) (hl:ws.length≤100000) (hl2:ms.length≤100000) :
  Calls Tryz.prog 79 #[.agg #[s,m],.int .u64 (z:Int),.int .u64 (n:Int)] w (RetG w [] (RGrowR ws ms n)):=by
 obtain ⟨p,c,rfl,_,_⟩:=id hrs.form
 obtain ⟨p2,c2,rfl,_,_⟩:=id hrm.form
 refine enter (args:=[_,_,_]) _ [] [] Tryz.func79 rfl Tryz.ntmps79 rfl (by simp) .nil ?_
 (refine sRz ?_;apply zT;rfl;rfl;intro _;apply zU;rfl;intro _;refine vAz<|nSz<|ldz rfl (.tail .head) (qF rfl) ?_)
 (apply LW.callR;rfl;rfl;infer_instance;exact .cons rfl .nil;intro w hs)
 exact rScCopy_calls ws ms _ _ w (hrs.st hs) (hrm.st hs) hl hl2
 rintro vo gso ⟨s1,m1,g1,g2,rfl,rfl,h1,h2,h00⟩
 have h1':=h1
 have h2':=h2
 unfold wM at h1'
 unfold bM at h2'
 obtain ⟨q1,k1,rfl⟩:=h1'.form
 obtain ⟨q2,k2,rfl⟩:=h2'.form
 rw [List.append_assoc]
 (apply zU;rfl;intro _;refine zR rfl rfl .head (.whole rfl rfl rfl)<|nNz<|zI<|sRz<|vMz ?_;refine lvz (.eqF rfl rfl (by omega)) ?_;refine nNz<|cFz<|zJ<|thenN<|zI<|sRz<|vMz ?_;refine lvz (.geqF rfl rfl (by omega)) ?_;refine vMz<|gTz<|vMz<|gTz<|vMz<|gTz ?_;refine lvz (.subNK rfl rfl (by decide) (by omega) (by omega)) ?_;refine gTz ?_;refine lvz (.gtrF rfl rfl (by omega)) ?_;refine pFz<|nNz<|cFz<|zJ<|thenN<|zI<|zM ?_)
 rename_i b3 b6 b8
 obtain ⟨D,hD⟩:∃ D,D=upW n - ms.length:=⟨_,rfl⟩
 have hDn:(ms.length+D) % 32=0∧n≤ms.length+D∧∀ k,k < D→ms.length+k < n∨(ms.length+k) % 32 ≠ 0:=by unfold upW at hD;exact ⟨by omega,by omega,fun k hk=>by omega⟩
 obtain ⟨hD1,hD2,hD3⟩:=hDn
 have hD4:D≤1024:=by unfold upW at hD;omega
 refine CW.loop (fun x:Nat × Option Addr × Nat × Fs=>([(8,.pointer (some ⟨b8,0,none⟩)),(6,.pointer (some ⟨b6,0,none⟩)),(1,.int .u64 (z:Int)),(2,.int .u64 (n:Int))],(b8,.cells #[.slice q1 ws.length k1,.slice x.2.1 (ms.length+x.1) x.2.2.1] 25 (0,0))::(x.2.2.2++(g1++[(b6,.cells #[.slice none 0 0,.slice none 0 0] 25 (0,0))]))))
  (fun x=>x.1≤D∧IsRow 5 1 (.slice x.2.1 (ms.length+x.1) x.2.2.1) (ms.length+x.1) (ucs (ms++List.replicate x.1 0)) x.2.2.2) (fun x=>D - x.1) (0,q2,k2,g2) ⟨Nat.zero_le _,by simpa using h2'⟩ ⟨rfl,rfl,rfl,rfl,trivial⟩ (by simp) ?_
 rintro ⟨k,q,kc,seg⟩ ⟨hk,hrow⟩
 dsimp only at hk hrow ⊢
 rcases Nat.lt_or_ge k D with hlt|hge
 ·have e:ucs (ms++List.replicate (k+1) 0)=ucs (ms++List.replicate k 0)++[.int .u8 0]:=by
   rw [List.replicate_succ',← List.append_assoc]
   simp [ucs]
  have hd:=hD3 k hlt
  by_cases h1n:ms.length+k < (z+n) % 18446744073709551616
  ·(refine zI<|sRz<|vFz<|ldz rfl .head (Rd.one' rfl)<|lvz (.lenR rfl inferInstance rfl) ?_;refine lvz (.convN rfl (by omega) (by omega)) ?_;refine vMz<|vMz<|lvz (.addN rfl rfl) ?_;refine lvz (.lssT rfl rfl (by omega)) ?_;refine vMz ?_;(iterate 5 refine gFz ?_);refine pTz<|nNz<|cTz<|zJ<|thenN<|zM<|zL<|vFz<|ldz rfl .head (Rd.one' rfl) ?_;apply LW.lay1;rfl;infer_instance;infer_instance;rfl;rfl;rfl;rfl;rfl;rfl;intro _)
   (apply LW.append;rfl;rfl;infer_instance;infer_instance;infer_instance;rfl;rfl;rfl;(case hrow=>assumption);apply AtSeg.cons;apply AtSeg.cons;exact AtSeg.head;apply qE;apply zY;rfl;rfl;rfl;omega;simp only [maxLen];omega;omega;intro v' seg' hrow';obtain ⟨p',c',rfl⟩:=hrow'.form;(refine ⟨_,(by (repeat (first|exact AtSeg.head|apply AtSeg.cons|apply AtSeg.app))),?_⟩);(try simp only [List.cons_append,List.nil_append]))
   (refine vFz ?_;apply zR;rfl;rfl;apply qB;apply qA;apply Wr.cells;rfl;rfl;simp only [wc,List.size_toArray,List.length_cons,List.length_nil];omega;simp only [fillC,wc,wrCells,Value.cells,qK,qH,qM,qL,Nat.reduceAdd,Nat.reduceMul,qO,Nat.mul_one];rfl;apply zV;refine blkN ?_)
   apply thenX
   refine ⟨rfl,(k+1,p',c',seg'),⟨hlt,?_⟩,by show D - (k+1) < D - k;omega,⟨rfl,rfl,rfl,rfl,trivial⟩,qR _ (qN _)⟩
   dsimp only
   rw [e]
   exact hrow'
  ·have h32k:(ms.length+k) % 32 ≠ 0:=by omega
   (refine zI<|sRz<|vFz<|ldz rfl .head (Rd.one' rfl)<|lvz (.lenR rfl inferInstance rfl) ?_;refine lvz (.convN rfl (by omega) (by omega)) ?_;refine vMz<|vMz<|lvz (.addN rfl rfl) ?_;refine lvz (.lssF rfl rfl (by omega)) ?_;refine vMz<|gTz<|vFz<|gTz<|ldz rfl .head (Rd.one' rfl)<|gTz<|lvz (.lenR rfl inferInstance rfl)<|gTz ?_;refine lvz (.remZL rfl rfl (by decide) (by omega)) ?_;refine gTz ?_;refine lvz (.neT rfl rfl (by omega)) ?_;refine pFz<|nNz<|cTz<|zJ<|thenN<|zM<|zL<|vFz<|ldz rfl .head (Rd.one' rfl) ?_;apply LW.lay1;rfl;infer_instance;infer_instance;rfl;rfl;rfl;rfl;rfl;rfl;intro _)
   (apply LW.append;rfl;rfl;infer_instance;infer_instance;infer_instance;rfl;rfl;rfl;(case hrow=>assumption);apply AtSeg.cons;apply AtSeg.cons;exact AtSeg.head;apply qE;apply zY;rfl;rfl;rfl;omega;simp only [maxLen];omega;omega;intro v' seg' hrow';obtain ⟨p',c',rfl⟩:=hrow'.form;(refine ⟨_,(by (repeat (first|exact AtSeg.head|apply AtSeg.cons|apply AtSeg.app))),?_⟩);(try simp only [List.cons_append,List.nil_append]))
   (refine vFz ?_;apply zR;rfl;rfl;apply qB;apply qA;apply Wr.cells;rfl;rfl;simp only [wc,List.size_toArray,List.length_cons,List.length_nil];omega;simp only [fillC,wc,wrCells,Value.cells,qK,qH,qM,qL,Nat.reduceAdd,Nat.reduceMul,qO,Nat.mul_one];rfl;apply zV;refine blkN ?_)
   apply thenX
   refine ⟨rfl,(k+1,p',c',seg'),⟨hlt,?_⟩,by show D - (k+1) < D - k;omega,⟨rfl,rfl,rfl,rfl,trivial⟩,qR _ (qN _)⟩
   dsimp only
   rw [e]
   exact hrow'
 ·obtain rfl:k=D:=by omega
  (refine zI<|sRz<|vFz<|ldz rfl .head (Rd.one' rfl)<|lvz (.lenR rfl inferInstance rfl) ?_;refine lvz (.convN rfl (by omega) (by omega)) ?_;refine vMz<|vMz<|lvz (.addN rfl rfl) ?_;refine lvz (.lssF rfl rfl (by omega)) ?_;refine vMz<|gTz<|vFz<|gTz<|ldz rfl .head (Rd.one' rfl)<|gTz<|lvz (.lenR rfl inferInstance rfl)<|gTz ?_;refine lvz (.remZL rfl rfl (by decide) (by omega)) ?_;refine gTz ?_;refine lvz (.neF rfl rfl (by omega)) ?_;refine pFz<|nNz<|cFz<|CW.exit<|thenE<|thenE<|blkE rfl<|thenN<|sRz<|ldz rfl .head (qF rfl) ?_;refine zR rfl rfl (.tail (.app (.app .head))) (.whole rfl rfl rfl)<|vAz<|nNz<|zK ?_)
  refine fin (vs:=[.agg #[.slice q1 ws.length k1,.slice q (ms.length+k) kc],.int .i64 0]) (seg++g1) (.inl rfl) rfl rfl (by (apply zD;apply zH;rfl;apply qE;apply zX;apply zZ;apply zZ;apply zY;exact qF rfl;apply zD;exact zG rfl;exact zF)) ?_ ⟨_,_,g1,seg,rfl,rfl,h1,?_⟩
  ·exact qR _ (List.Sublist.append_left (qQ _ _) _)
  ·unfold bM
   rw [← hD,List.length_append,List.length_replicate]
   exact hrow
theorem rReach_calls (f:FrV) (L:FrL) (a n:Nat) (ha:a < M256) (hn:n < M256) (hF:okF f L) (w:World) (h:FrRows w f L):Calls Tryz.prog 31 #[frv f,wv a,wv n] w (RetG w [] (ToldR f (reachR f L a n))):=by
 have hE64:endV a n < 18446744073709551616:=by
  unfold endV
  simp only [NOG]
  split<;>omega
 have hg2:f.gas≤20000:=by obtain ⟨_,hg,_⟩:=hF;omega
 have hms:L.ms.length≤1024:=hF.2.2.2.1.2.1
 have hEnd:∀ w,Calls Tryz.prog 78 #[wv a,wv n] w (Ret w (.int .u64 ((endV a n:Nat):Int))):=rEnd_calls a n ha hn
 have hMem:∀ w,Calls Tryz.prog 32 #[.int .u64 (L.ms.length:Int),.int .u64 (endV a n:Int)] w (Ret w (.int .u64 ((costR L a n:Nat):Int))):=rMemory_calls L.ms.length (endV a n) (by omega) hE64
 have hrows:=h
 have hsh:=hF.short
 have hCopy:∀ w' {fs:Fs},St w [] fs w'→Calls Tryz.prog 49 #[frv f] w' (RetG w' [] (rCopyR f L)):=fun w' fs hst=>rfCopy_calls f L hsh w' (hrows.st hst)
 have hE0:endV a n=0→n=0:=by
  unfold endV
  simp only [NOG]
  split<;>intro h<;>omega
 have hup:endV a n=0→memR L a n=L:=fun h=>by unfold memR upW FrL.setM;rw [h];simp
 have hmR:memR L a n=L.setM (L.ms++List.replicate (upW (endV a n) - L.ms.length) 0):=rfl
 have h1024:costR L a n≤f.gas→endV a n≤1024:=fun h=>memV_le hms hg2 h
 have h32:L.ms.length % 32=0:=hF.2.2.2.1.2.2
 obtain ⟨E,hE⟩:∃ E,E=endV a n:=⟨_,rfl⟩
 rw [← hE] at hEnd hMem hE64 hE0 hup hmR h1024
 obtain ⟨c,hc⟩:∃ c,c=costR L a n:=⟨_,rfl⟩
 rw [← hc] at hMem h1024
 unfold reachR
 rw [← hc]
 obtain ⟨code,pc,stk,mem,gas,self,frm,val,inp,back,stat⟩:=f
 obtain ⟨h0,h2,h3,h11,h12⟩:=h
 dsimp only at h0 h2 h3 h11 h12 hg2 hrows h1024 ⊢
 obtain ⟨p0,c0,rfl,_,hm0⟩:=id h0.form
 obtain ⟨p2,c2,rfl,_,hm2⟩:=id h2.form
 obtain ⟨p3,c3,rfl,_,hm3⟩:=id h3.form
 obtain ⟨p11,c11,rfl,_,hm11⟩:=id h11.form
 obtain ⟨p12,c12,rfl,_,hm12⟩:=id h12.form
 have hzs:=zero_sl
 by_cases hle:c≤gas
 ·rw [if_pos hle]
  refine enter (args:=[_,_,_]) _ [] [] Tryz.func31 rfl Tryz.ntmps31 rfl (by simp) .nil ?_
  (refine sRz ?_;apply zT;rfl;rfl;intro _;apply zT;rfl;rfl;intro _;apply zT;rfl;rfl;intro _;apply zU;rfl;intro _;refine vAz<|nSz<|ldz rfl (.tail (.tail .head)) (qF rfl)<|ldz rfl (.tail .head) (qF rfl) ?_;apply zS;rfl;rfl;infer_instance;exact .cons rfl (.cons rfl .nil);intro w _;exact hEnd w;refine vAz<|nSz<|vFz<|vFz<|ldz rfl (.tail (.tail (.tail .head))) fr_rd3<|lvz (.lenR rfl inferInstance rfl) ?_;refine lvz (.convN rfl (by omega) (by omega)) ?_;refine vMz ?_;apply zS;rfl;rfl;infer_instance;exact .cons rfl (.cons rfl .nil);intro w _;exact hMem w;refine vAz<|nNz<|zI<|sRz<|vMz<|vFz<|ldz rfl (.tail (.tail (.tail .head))) fr_rd4 ?_;refine lvz (.gtrF rfl rfl (by omega)) ?_;refine nNz<|cFz<|zJ<|thenN<|sRz<|ldz rfl (.tail (.tail (.tail .head))) fr_rdW ?_)
  (apply LW.callR;rfl;rfl;infer_instance;exact .cons rfl .nil;intro w hs)
  exact hCopy w hs
  rintro vo gso ⟨d1,d2,d3,d4,d5,rfl,⟨g1,g2,g3,g4,g5,hp,k1,k2,k3,k4,k5⟩,_⟩
  refine LW.perm (hp.append_right _) ?_
  clear hp
  have hk:=And.intro k1 (And.intro k2 (And.intro k3 (And.intro k4 k5)))
  unfold bM at k1 k3 k4 k5
  unfold wM at k2
  obtain ⟨q1,j1,rfl⟩:=k1.form
  obtain ⟨q2,j2,rfl⟩:=k2.form
  obtain ⟨q3,j3,rfl⟩:=k3.form
  obtain ⟨q4,j4,rfl⟩:=k4.form
  obtain ⟨q5,j5,rfl⟩:=k5.form
  have hsl:FrSl (FrV.rows ⟨.slice p0 L.cl.length c0,pc,.slice p2 L.ws.length c2,.slice p3 L.ms.length c3,gas,self,frm,val,.slice p11 L.il.length c11,.slice p12 L.bl.length c12,stat⟩ (.slice q1 L.cl.length j1) (.slice q2 L.ws.length j2) (.slice q3 L.ms.length j3) (.slice q4 L.il.length j4) (.slice q5 L.bl.length j5)):=⟨⟨_,_,_,rfl⟩,⟨_,_,_,rfl⟩,⟨_,_,_,rfl⟩,⟨_,_,_,rfl⟩,⟨_,_,_,rfl⟩⟩
  unfold FrV.rows at hsl ⊢
  dsimp only at hsl ⊢
  by_cases hE1:E=0
  ·rw [hup hE1]
   (apply zU;rfl;intro _;apply zR;rfl;rfl;apply qA;apply fr_wrW;rfl;assumption;refine nSz<|vFz<|ldz rfl .head fr_rd4<|vMz ?_;refine lvz (.subN rfl rfl (by omega) (by omega)) ?_;refine vFz ?_;refine zR rfl rfl .head fr_wr4<|nNz<|zI<|sRz<|vMz ?_;refine lvz (.gtrF rfl rfl (by omega)) ?_;refine nNz<|cFz<|zJ<|thenN<|sRz<|ldz rfl .head fr_rdW ?_;refine zR rfl rfl (.tail (.app .head)) (.whole rfl rfl rfl)<|vAz<|nNz<|zK ?_)
   refine fin (vs:=[frv ⟨.slice q1 L.cl.length j1,pc,.slice q2 L.ws.length j2,.slice q3 L.ms.length j3,gas - c,self,frm,val,.slice q4 L.il.length j4,.slice q5 L.bl.length j5,stat⟩,.bool true]) (g1++(g2++(g3++(g4++g5)))) (.inl rfl) rfl rfl (by (apply zD;apply zH;rfl;apply qE;apply zX;apply zZ;apply zY;exact fr_rdW;apply zD;exact zG rfl;exact zF)) ?_ ⟨_,_,_,_,_,rfl,g1,g2,g3,g4,g5,.refl _,hk⟩
   exact qR _ (qQ _ _)
  ·rw [hmR]
   (apply zU;rfl;intro _;apply zR;rfl;rfl;apply qA;apply fr_wrW;rfl;assumption;refine nSz<|vFz<|ldz rfl .head fr_rd4<|vMz ?_;refine lvz (.subN rfl rfl (by omega) (by omega)) ?_;refine vFz ?_;refine zR rfl rfl .head fr_wr4<|nNz<|zI<|sRz<|vMz ?_;refine lvz (.gtrT rfl rfl (by omega)) ?_;refine nNz<|cTz<|zL<|vFz<|ldz rfl (.tail (.app (.tail (.tail (.tail .head))))) fr_rd2<|vMz ?_)
   (apply LW.callR;rfl;rfl;infer_instance;exact .cons rfl (.cons rfl (.cons rfl .nil));intro w hs)
   exact rGrow_calls L.ws L.ms _ _ 0 E rfl (by omega) (h1024 hle) h32 w (h2.st hs) (h3.st hs) hsh.2.1 hsh.2.2.1
   rintro vo gso ⟨s1,m1,gg1,gg2,rfl,rfl,hw1,hb1⟩
   have hw1':=hw1
   have hb1':=hb1
   unfold wM at hw1'
   unfold bM at hb1'
   obtain ⟨q6,j6,rfl⟩:=hw1'.form
   obtain ⟨q7,j7,rfl⟩:=hb1'.form
   rw [List.append_assoc]
   (refine vMz ?_;refine vEz ?_;refine vEz ?_;refine vFz ?_;refine zR rfl rfl (.app (.app .head)) fr_wr23<|nSz<|ldz rfl (.app (.app .head)) fr_rdW ?_;refine zR rfl rfl (.app (.app (.tail (.app .head)))) (.whole rfl rfl rfl)<|vAz<|nNz<|zK ?_)
   refine fin (vs:=[frv ⟨.slice q1 L.cl.length j1,pc,.slice q6 L.ws.length j6,.slice q7 _ j7,gas - c,self,frm,val,.slice q4 L.il.length j4,.slice q5 L.bl.length j5,stat⟩,.bool true]) (gg2++(gg1++(g1++(g4++g5)))) (.inl rfl) rfl rfl (by (apply zD;apply zH;rfl;apply qE;apply zZ;apply zZ;apply zX;apply zZ;apply zY;exact fr_rdW;apply zD;exact zG rfl;exact zF)) ?_ ⟨_,_,_,_,_,rfl,g1,gg1,gg2,g4,g5,by have h:=perm_ix [g1,gg1,gg2,g4,g5] (xs:=[0,1,2,3,4]) (ys:=[2,1,0,3,4]) [] rfl;simpa [catI] using h,hk.1,hw1,hb1,hk.2.2.2.1,hk.2.2.2.2⟩
   refine List.Sublist.append_left (List.Sublist.append_left (qR _ ?_) _) _
   simp only [List.append_assoc]
   refine List.Sublist.append_left ?_ _
   refine List.Sublist.trans ?_ (List.sublist_append_right g2 _)
   refine List.Sublist.trans ?_ (List.sublist_append_right g3 _)
   exact List.Sublist.append_left (qQ _ _) _
 ·rw [if_neg hle]
  refine enter (args:=[_,_,_]) _ [] [] Tryz.func31 rfl Tryz.ntmps31 rfl (by simp) .nil ?_
  (refine sRz ?_;apply zT;rfl;rfl;intro _;apply zT;rfl;rfl;intro _;apply zT;rfl;rfl;intro _;apply zU;rfl;intro _;refine vAz<|nSz<|ldz rfl (.tail (.tail .head)) (qF rfl)<|ldz rfl (.tail .head) (qF rfl) ?_;apply zS;rfl;rfl;infer_instance;exact .cons rfl (.cons rfl .nil);intro w _;exact hEnd w;refine vAz<|nSz<|vFz<|vFz<|ldz rfl (.tail (.tail (.tail .head))) fr_rd3<|lvz (.lenR rfl inferInstance rfl) ?_;refine lvz (.convN rfl (by omega) (by omega)) ?_;refine vMz ?_;apply zS;rfl;rfl;infer_instance;exact .cons rfl (.cons rfl .nil);intro w _;exact hMem w;refine vAz<|nNz<|zI<|sRz<|vMz<|vFz<|ldz rfl (.tail (.tail (.tail .head))) fr_rd4 ?_;refine lvz (.gtrT rfl rfl (by omega)) ?_;refine nNz<|cTz<|sRz ?_;apply LW.v0;rfl;rfl;apply zW;infer_instance;infer_instance;exact zB;rfl;simp only [fillP,wrCells,Value.cells,qI,qJ,qK,qH,qM,qL,Nat.reduceAdd,qO];rfl;refine zR rfl rfl .head (.whole rfl rfl rfl)<|vAz<|nNz<|zK<|thenR ?_)
  exact fin (vs:=[frv zeroF,.bool false]) [] (.inl rfl) rfl rfl (by (apply zD;apply zH;rfl;apply qE;apply zY;exact qF rfl;apply zD;exact zG rfl;exact zF)) (List.nil_sublist _) ⟨rfl,rfl⟩
section
attribute [local irreducible] SL.inP
theorem FrO.toP {f:FrV} {L:FrL} {gs:Fs} (h:FrO f L gs):FrP f L gs:=by
 obtain ⟨g1,g2,g3,g4,g5,hp,h1,h2,h3,h4,h5⟩:=h
 exact ⟨g1,g2,g3,g4,g5,hp,h1,.inl h2,h3,h4,h5⟩
theorem reach_in {L:FrL} {a n g:Nat} (hg:g≤20000) (hok:okSc L.ws.length L.ms.length) (h:costR L a n≤g):okSc (memR L a n).ws.length (memR L a n).ms.length∧(0 < n→a+n≤(memR L a n).ms.length):=by
 have hE:endV a n≤1024:=memV_le hok.2.1 hg h
 obtain ⟨h1,h2,h3⟩:=hok
 have hl:(memR L a n).ms.length=L.ms.length+(upW (endV a n) - L.ms.length):=by
  unfold memR FrL.setM
  simp
 have hu:upW (endV a n)≤1024∧endV a n≤upW (endV a n)∧upW (endV a n) % 32=0:=by
  unfold upW
  omega
 refine ⟨⟨h1,by rw [hl];omega,by rw [hl];omega⟩,fun hn=>?_⟩
 have hEa:a+n≤endV a n:=by
  unfold endV at hE ⊢
  rw [if_neg (by omega)] at hE ⊢
  unfold NOG at hE ⊢
  omega
 rw [hl]
 omega
end
def RPushR (ws:List Nat) (ms:List UInt8) (l:List Nat) (v:Value) (gs:Fs):Prop:=(ws.length+l.length≤64∧∃ s m g1 g2,v=.tuple #[.agg #[s,m],.int .i64 0]∧gs=g2++g1∧wM (ws++l) s g1∧bM ms m g2)∨(64 < ws.length+l.length∧v=.tuple #[.agg #[.slice none 0 0,.slice none 0 0],.int .i64 6]∧gs=[])
theorem rPush_calls (ws:List Nat) (ms:List UInt8) (l:List Nat) (s m v:Value) (w:World) (hrs:RowAt w 4 s ws.length (wcs ws)) (hrm:RowAt w 1 m ms.length (ucs ms)) (hv:RowAt w 4 v l.length (wcs l)) (hl:ws.length≤100000) (hl2:ms.length≤100000) (hl3:l.length≤100000) :
  Calls Tryz.prog 75 #[.agg #[s,m],v] w (RetG w [] (RPushR ws ms l)):=by
 obtain ⟨p,c,rfl,_,_⟩:=id hrs.form
 obtain ⟨p2,c2,rfl,_,_⟩:=id hrm.form
 obtain ⟨p3,c3,rfl,_,_⟩:=id hv.form
 refine enter (args:=[_,_]) _ [] [] Tryz.func75 rfl Tryz.ntmps75 rfl (by simp) .nil ?_
 (refine sRz ?_;apply zT;rfl;rfl;intro _;apply zU;rfl;intro _;refine vAz<|nSz<|ldz rfl (.tail .head) (qF rfl) ?_)
 (apply LW.callR;rfl;rfl;infer_instance;exact .cons rfl .nil;intro w hs)
 exact rScCopy_calls ws ms _ _ w (hrs.st hs) (hrm.st hs) hl hl2
 rintro vo gso ⟨s1,m1,g1,g2,rfl,rfl,h1,h2,h00⟩
 have h1':=h1
 have h2':=h2
 unfold wM at h1'
 unfold bM at h2'
 obtain ⟨q1,k1,rfl⟩:=h1'.form
 obtain ⟨q2,k2,rfl⟩:=h2'.form
 rw [List.append_assoc]
 (apply zU;rfl;intro _;refine zR rfl rfl .head (.whole rfl rfl rfl)<|nNz<|zI<|sRz<|vAz<|nNz<|zM ?_)
 rename_i b2 b4 b6
 refine CW.loop (fun x:Nat × Option Addr × Nat × Fs=>([(7,.int .i64 (x.1:Int)),(6,.pointer (some ⟨b6,0,none⟩)),(4,.pointer (some ⟨b4,0,none⟩)),(1,.slice p3 l.length c3)],(b6,.cells #[.slice x.2.1 (ws.length+x.1) x.2.2.1,.slice q2 ms.length k2] 25 (0,0))::(g2++(x.2.2.2++[(b4,.cells #[.slice none 0 0,.slice none 0 0] 25 (0,0))]))))
  (fun x=>x.1≤l.length∧IsRow 29 4 (.slice x.2.1 (ws.length+x.1) x.2.2.1) (ws.length+x.1) (wcs (ws++l.take x.1)) x.2.2.2) (fun x=>l.length - x.1) (0,q1,k1,g1) ⟨Nat.zero_le _,by simpa using h1'⟩ ⟨rfl,rfl,rfl,rfl,trivial⟩ (by simp) ?_
 rintro ⟨k,q,kc,seg⟩ ⟨hk,hrow⟩
 dsimp only at hk hrow ⊢
 rcases Nat.lt_or_ge k l.length with hlt|hge
 ·obtain ⟨bb,off,c',cs,E,fr,heq,hb',hx⟩:=hv.pos (by omega)
  cases heq
  have hrd:Rd Tryz.prog 29 (.cells cs E fr) (off+k * 4) (wv (l.getD k 0)):=word_rd hx k hlt
  (refine zI<|sRz<|vMz<|vMz<|lvz (.lenR rfl inferInstance rfl) ?_;refine lvz (.lssT rfl rfl (by omega)) ?_;refine nNz<|cTz<|zJ<|thenN<|zI<|zM ?_;apply CW.pre;refine AnyW.any 7 mixed (by decide +kernel) ?_;(try simp only [tsOf_cons,tsOf_nil,tsOf_app]);refine dvz (.fieldAddr rfl rfl) ?_;apply qD;rfl;rfl;rfl;exact zC;rfl;apply zP;exact zN;exact Rd.one' rfl;refine dvz (.move rfl)<|dvz (.move rfl) ?_;refine dvz (.indexAddrS rfl rfl rfl (by omega)) ?_;apply DW.loadX;rfl;rfl;rfl;exact zC;rfl;assumption;simp;assumption;apply DW.layA;rfl;rfl;rfl;exact zC;infer_instance;infer_instance;rfl;rfl;rfl;rfl;rfl;intro _;apply DW.nil;simp only [fsOf_cons,fsOf_nil,fsOf_app,fsOf_tsOf,fsOf_new])
  (apply LW.append;rfl;rfl;infer_instance;infer_instance;infer_instance;rfl;rfl;rfl;(case hrow=>assumption);apply AtSeg.cons;apply AtSeg.cons;apply AtSeg.app;exact AtSeg.head;apply qE;apply zY;rfl;rfl;rfl;omega;simp only [maxLen];omega;omega;intro v' seg' hrow';obtain ⟨p',c',rfl⟩:=hrow'.form;(refine ⟨_,(by (repeat (first|exact AtSeg.head|apply AtSeg.cons|apply AtSeg.app))),?_⟩);(try simp only [List.cons_append,List.nil_append]))
  (refine vFz ?_;apply zR;rfl;rfl;apply qB;apply qA;apply Wr.cells;rfl;rfl;simp only [wc,List.size_toArray,List.length_cons,List.length_nil];omega;simp only [fillC,wc,wrCells,Value.cells,qK,qH,qM,qL,Nat.reduceAdd,Nat.reduceMul,qO,Nat.mul_one];rfl;apply zV;refine blkN<|thenN<|zL<|vMz ?_;refine lvz (.addZL rfl rfl (by decide) (by omega)) ?_;refine vAz ?_;apply zV)
  apply thenX
  refine ⟨rfl,(k+1,p',c',seg'),⟨hlt,?_⟩,by show l.length - (k+1) < l.length - k;omega,⟨rfl,rfl,rfl,rfl,trivial⟩,?_⟩
  ·have e:wcs (ws++l.take (k+1))=wcs (ws++l.take k)++(wc (l.getD k 0)).toList:=by
    rw [List.take_add_one,List.getElem?_eq_getElem hlt,List.getD_eq_getElem?_getD,List.getElem?_eq_getElem hlt,← List.append_assoc,wcs_app]
    show _=_++(wc l[k]).toList
    show wcs _++((wc l[k]).toList++[])=_
    rw [List.append_nil]
   dsimp only
   rw [e]
   exact hrow'
  ·exact qR _ (qN _)
 ·obtain rfl:k=l.length:=by omega
  rw [List.take_length] at hrow
  by_cases hle:ws.length+l.length≤64
  ·(refine zI<|sRz<|vMz<|vMz<|lvz (.lenR rfl inferInstance rfl) ?_;refine lvz (.lssF rfl rfl (by omega)) ?_;refine nNz<|cFz<|CW.exit<|thenE<|thenE<|blkE rfl<|thenN<|zI<|sRz<|vFz<|ldz rfl .head (Rd.one' rfl)<|lvz (.lenR rfl inferInstance rfl) ?_;refine lvz (.gtrF rfl rfl (by omega)) ?_;refine nNz<|cFz<|zJ<|thenN<|sRz<|ldz rfl .head (qF rfl) ?_;refine zR rfl rfl (.tail (.app (.app .head))) (.whole rfl rfl rfl)<|vAz<|nNz<|zK ?_)
   refine fin (vs:=[.agg #[.slice q (ws.length+l.length) kc,.slice q2 ms.length k2],.int .i64 0]) (g2++seg) (.inl rfl) rfl rfl (by (apply zD;apply zH;rfl;apply qE;apply zX;apply zZ;apply zZ;apply zY;exact qF rfl;apply zD;exact zG rfl;exact zF)) ?_ (.inl ⟨hle,_,_,seg,g2,rfl,rfl,?_,h2⟩)
   ·exact qR _ (List.Sublist.append_left (qQ _ _) _)
   ·unfold wM
    rw [List.length_append]
    exact hrow
  ·(refine zI<|sRz<|vMz<|vMz<|lvz (.lenR rfl inferInstance rfl) ?_;refine lvz (.lssF rfl rfl (by omega)) ?_;refine nNz<|cFz<|CW.exit<|thenE<|thenE<|blkE rfl<|thenN<|zI<|sRz<|vFz<|ldz rfl .head (Rd.one' rfl)<|lvz (.lenR rfl inferInstance rfl) ?_;refine lvz (.gtrT rfl rfl (by omega)) ?_;refine nNz<|cTz<|sRz ?_;apply LW.v0;rfl;rfl;apply zW;infer_instance;infer_instance;exact zB;rfl;simp only [fillP,wrCells,Value.cells,qI,qJ,qK,qH,qM,qL,Nat.reduceAdd,qO];rfl;refine zR rfl rfl (.tail (.app (.app .head))) (.whole rfl rfl rfl)<|vAz<|nNz<|zK<|thenR ?_)
   exact fin (vs:=[.agg #[.slice none 0 0,.slice none 0 0],.int .i64 6]) [] (.inl rfl) rfl rfl (by (apply zD;apply zH;rfl;apply qE;apply zX;apply zZ;apply zZ;apply zY;exact qF rfl;apply zD;exact zG rfl;exact zF)) (List.nil_sublist _) (.inr ⟨by omega,rfl,rfl⟩)
theorem finS {C:Cu} {fn:Func} {e:Env} {fs:Fs} {x:Exit} {rs:List ResultVar} {vs:List Value} (gs:Fs) {Φ:Value→Fs→Prop} (hx:x=.ret∨x=.normal) (hr:fn.results.toList=rs) (hds:C.ds=[]) (h:ResL C e fs rs vs) (hg:SubP gs fs) (hΦ:Φ (tup vs) gs) :
  finQ C fn (RetG C.w0 C.S Φ) x C.ds e fs:=by
 unfold finQ RetG
 refine ⟨hx,fun a w hs=>LeavesInM_nil (by rw [hs.env.dfr];exact hds) ⟨tup vs,ResL.run (by rw [hr];exact h) hs,tup vs,gs,rfl,hΦ,?_⟩⟩
 have h2:=hg.st hs.st
 exact ⟨h2.bel,h2.own,h2.nd⟩
theorem rTell_calls (f:FrV) (L:FrL) (cost:Nat) (l:List Nat) (v:Value) (hsh:L.short) (hg:f.gas < 18446744073709551616) (hl:l.length≤100000) (w:World) (h:FrRows w f L) (hv:RowAt w 4 v l.length (wcs l)) :
  Calls Tryz.prog 29 #[frv f,.int .u64 (cost:Int),v] w (RetG w [] (ToldR f (tellR f L cost l))):=by
 have hrows:=h
 have hCopy:∀ w' {fs:Fs},St w [] fs w'→Calls Tryz.prog 49 #[frv f] w' (RetG w' [] (rCopyR f L)):=fun w' fs hst=>rfCopy_calls f L hsh w' (hrows.st hst)
 unfold tellR
 obtain ⟨code,pc,stk,mem,gas,self,frm,val,inp,back,stat⟩:=f
 obtain ⟨h0,h2,h3,h11,h12⟩:=h
 dsimp only at h0 h2 h3 h11 h12 hrows ⊢
 obtain ⟨p0,c0,rfl,_,hm0⟩:=id h0.form
 obtain ⟨p2,c2,rfl,_,hm2⟩:=id h2.form
 obtain ⟨p3,c3,rfl,_,hm3⟩:=id h3.form
 obtain ⟨p11,c11,rfl,_,hm11⟩:=id h11.form
 obtain ⟨p12,c12,rfl,_,hm12⟩:=id h12.form
 have hzs:=zero_sl
 dsimp only at hg
 refine enter (args:=[_,_,_]) _ [] [] Tryz.func29 rfl Tryz.ntmps29 rfl (by simp) .nil ?_
 (refine sRz ?_;apply zT;rfl;rfl;intro _;apply zU;rfl;intro _;refine vAz<|nSz<|vFz<|ldz rfl (.tail .head) fr_rd2<|vMz ?_)
 (apply LW.callR;rfl;rfl;infer_instance;exact .cons rfl (.cons rfl .nil);intro w hs)
 exact rPush_calls L.ws L.ms l _ _ _ w (h2.st hs) (h3.st hs) (hv.st hs) hsh.2.1 hsh.2.2.1 hl
 rintro vo gso hR
 rcases hR with ⟨hle,s1,m1,gg1,gg2,rfl,rfl,hw1,hb1⟩|⟨hgt,rfl,rfl⟩
 ·have hw1':=hw1
  have hb1':=hb1
  unfold wM at hw1'
  unfold bM at hb1'
  obtain ⟨q6,j6,rfl⟩:=hw1'.form
  obtain ⟨q7,j7,rfl⟩:=hb1'.form
  by_cases hc:cost≤gas
  ·rw [if_pos ⟨hc,hle⟩]
   have hc2:¬ gas < cost:=by omega
   (refine vMz ?_;refine vEz ?_;refine vEz ?_;apply zU;rfl;intro _;refine zR rfl rfl .head (.whole rfl rfl rfl)<|vAz<|nNz<|zI<|sRz<|vMz<|vFz<|ldz rfl (.tail (.app (.tail .head))) fr_rd4 ?_;refine lvz (.gtrF rfl rfl (by omega)) ?_;refine vMz<|gTz<|vMz<|gTz ?_;refine lvz (.neF rfl rfl (by omega)) ?_;refine pFz<|nNz<|cFz<|zJ<|thenN<|sRz<|ldz rfl (.tail (.app (.tail .head))) fr_rdW ?_)
   (apply LW.callR;rfl;rfl;infer_instance;exact .cons rfl .nil;intro w hs)
   exact hCopy w hs
   rintro vo gso ⟨d1,d2,d3,d4,d5,rfl,⟨g1,g2,g3,g4,g5,hp,k1,k2,k3,k4,k5⟩,_⟩
   refine LW.perm (hp.append_right _) ?_
   clear hp
   have hk:=And.intro k1 (And.intro k2 (And.intro k3 (And.intro k4 k5)))
   unfold bM at k1 k3 k4 k5
   unfold wM at k2
   obtain ⟨q1,j1,rfl⟩:=k1.form
   obtain ⟨q2,j2,rfl⟩:=k2.form
   obtain ⟨q3,j3,rfl⟩:=k3.form
   obtain ⟨q4,j4,rfl⟩:=k4.form
   obtain ⟨q5,j5,rfl⟩:=k5.form
   have hsl:FrSl (FrV.rows ⟨.slice p0 L.cl.length c0,pc,.slice p2 L.ws.length c2,.slice p3 L.ms.length c3,gas,self,frm,val,.slice p11 L.il.length c11,.slice p12 L.bl.length c12,stat⟩ (.slice q1 L.cl.length j1) (.slice q2 L.ws.length j2) (.slice q3 L.ms.length j3) (.slice q4 L.il.length j4) (.slice q5 L.bl.length j5)):=⟨⟨_,_,_,rfl⟩,⟨_,_,_,rfl⟩,⟨_,_,_,rfl⟩,⟨_,_,_,rfl⟩,⟨_,_,_,rfl⟩⟩
   unfold FrV.rows at hsl ⊢
   dsimp only at hsl ⊢
   (apply zU;rfl;intro _;apply zR;rfl;rfl;apply qA;apply fr_wrW;rfl;assumption;refine nNz<|zI ?_)
   apply CW.pre
   (refine AnyW.anyM [] 7 mixed (by decide +kernel) ?_)
   ((try simp only [tsOf_cons,tsOf_nil,tsOf_app]);refine dvz (.fieldAddr rfl rfl) ?_;apply qD;rfl;rfl;rfl;exact zC;rfl;apply zO;apply zQ;apply zO;apply zQ;apply zO;apply zP;exact zN;exact fr_rd4;refine dvz (.move rfl) ?_;refine dvz (.subN rfl rfl (by omega) (by omega)) ?_;apply qD;rfl;rfl;rfl;exact zC;rfl;apply zO;apply zQ;apply zP;exact zN;exact qF rfl;refine dvz (.fieldAddr rfl rfl) ?_;apply DW.store;rfl;rfl;exact zC;rfl;rfl;apply TSet.head;exact zN;exact zN;exact fr_wr4;apply DW.nil;simp only [fsOf_cons,fsOf_nil,fsOf_app,fsOf_tsOf,fsOf_new])
   try simp only [fsOf_mark,fsOf_cons,fsOf_nil,fsOf_app,fsOf_tsOf,fsOf_new,fsOf_tag,List.append_eq,List.nil_append]
   (refine vFz ?_;refine zR rfl rfl .head fr_wr23<|nSz<|ldz rfl .head fr_rdW ?_;refine zR rfl rfl (.tail (.app (.tail (.app .head)))) (.whole rfl rfl rfl)<|vAz<|nNz<|zK ?_)
   refine finS (vs:=[frv ⟨.slice q1 L.cl.length j1,pc,.slice q6 _ j6,.slice q7 _ j7,gas - cost,self,frm,val,.slice q4 L.il.length j4,.slice q5 L.bl.length j5,stat⟩,.bool true]) (gg2++(gg1++(g1++(g4++g5)))) (.inl rfl) rfl rfl (by (apply zD;apply zH;rfl;apply qE;apply zX;apply zZ;apply zX;apply zZ;apply zY;exact fr_rdW;apply zD;exact zG rfl;exact zF)) ?_ ⟨_,_,_,_,_,rfl,g1,gg1,gg2,g4,g5,by have h:=perm_ix [g1,gg1,gg2,g4,g5] (xs:=[0,1,2,3,4]) (ys:=[2,1,0,3,4]) [] rfl;simpa [catI] using h,hk.1,hw1,hb1,hk.2.2.2.1,hk.2.2.2.2⟩
   simp only [List.append_assoc,List.cons_append,List.nil_append]
   rw [show gg2++(gg1++(g1++(g4++g5)))=gg2++(gg1++(g1++(g4++(g5++[])))) by rw [List.append_nil]]
   exact subp_ix [[_],g1,g2,g3,g4,g5,[_],gg2,gg1,[_,_]] (xs:=[7,8,1,4,5]) (ys:=[0,1,2,3,4,5,6,7,8,9]) [] rfl
  ·rw [if_neg (fun h=>hc h.1)]
   have hc2:gas < cost:=by omega
   (refine vMz ?_;refine vEz ?_;refine vEz ?_;apply zU;rfl;intro _;refine zR rfl rfl .head (.whole rfl rfl rfl)<|vAz<|nNz<|zI<|sRz<|vMz<|vFz<|ldz rfl (.tail (.app (.tail .head))) fr_rd4 ?_;refine lvz (.gtrT rfl rfl (by omega)) ?_;refine vMz<|gFz<|gFz<|pTz<|nNz<|cTz<|sRz ?_;apply LW.v0;rfl;rfl;apply zW;infer_instance;infer_instance;exact zB;rfl;simp only [fillP,wrCells,Value.cells,qI,qJ,qK,qH,qM,qL,Nat.reduceAdd,qO];rfl;refine zR rfl rfl (.tail (.app .head)) (.whole rfl rfl rfl)<|vAz<|nNz<|zK<|thenR ?_)
   exact fin (vs:=[frv zeroF,.bool false]) [] (.inl rfl) rfl rfl (by (apply zD;apply zH;rfl;apply qE;apply zX;apply zZ;apply zY;exact qF rfl;apply zD;exact zG rfl;exact zF)) (List.nil_sublist _) ⟨rfl,rfl⟩
 ·rw [if_neg (fun h=>absurd h.2 (by omega))]
  by_cases hc:cost≤gas
  ·have hc2:¬ gas < cost:=by omega
   (refine vMz ?_;refine vEz ?_;refine vEz ?_;apply zU;rfl;intro _;refine zR rfl rfl .head (.whole rfl rfl rfl)<|vAz<|nNz<|zI<|sRz<|vMz<|vFz<|ldz rfl (.tail (.tail .head)) fr_rd4 ?_;refine lvz (.gtrF rfl rfl (by omega)) ?_;refine vMz<|gTz<|vMz<|gTz ?_;refine lvz (.neT rfl rfl (by omega)) ?_;refine pFz<|nNz<|cTz<|sRz ?_;apply LW.v0;rfl;rfl;apply zW;infer_instance;infer_instance;exact zB;rfl;simp only [fillP,wrCells,Value.cells,qI,qJ,qK,qH,qM,qL,Nat.reduceAdd,qO];rfl;refine zR rfl rfl (.tail .head) (.whole rfl rfl rfl)<|vAz<|nNz<|zK<|thenR ?_)
   exact fin (vs:=[frv zeroF,.bool false]) [] (.inl rfl) rfl rfl (by (apply zD;apply zH;rfl;apply qE;apply zX;apply zY;exact qF rfl;apply zD;exact zG rfl;exact zF)) (List.nil_sublist _) ⟨rfl,rfl⟩
  ·have hc2:gas < cost:=by omega
   (refine vMz ?_;refine vEz ?_;refine vEz ?_;apply zU;rfl;intro _;refine zR rfl rfl .head (.whole rfl rfl rfl)<|vAz<|nNz<|zI<|sRz<|vMz<|vFz<|ldz rfl (.tail (.tail .head)) fr_rd4 ?_;refine lvz (.gtrT rfl rfl (by omega)) ?_;refine vMz<|gFz<|gFz<|pTz<|nNz<|cTz<|sRz ?_;apply LW.v0;rfl;rfl;apply zW;infer_instance;infer_instance;exact zB;rfl;simp only [fillP,wrCells,Value.cells,qI,qJ,qK,qH,qM,qL,Nat.reduceAdd,qO];rfl;refine zR rfl rfl (.tail .head) (.whole rfl rfl rfl)<|vAz<|nNz<|zK<|thenR ?_)
   exact fin (vs:=[frv zeroF,.bool false]) [] (.inl rfl) rfl rfl (by (apply zD;apply zH;rfl;apply qE;apply zX;apply zY;exact qF rfl;apply zD;exact zG rfl;exact zF)) (List.nil_sublist _) ⟨rfl,rfl⟩
def ShapeSc (v:Value) (gs:Fs):Prop:=∃ p1 n1 c1 p2 n2 c2 e,v=.tuple #[.agg #[.slice p1 n1 c1,.slice p2 n2 c2],.int .i64 e]∧gs=[]
theorem rGrow_any (ws:List Nat) (ms:List UInt8) (s m:Value) (z n:Nat) (hz:z=0) (h0:0 < n) (hn:n < 18446744073709551616) (w:World) (hrs:RowAt w 4 s ws.length (wcs ws)) (hrm:RowAt w 1 m ms.length (ucs ms)) (hl:ws.length≤100000) (hl2:ms.length≤100000) :
  Calls Tryz.prog 79 #[.agg #[s,m],.int .u64 (z:Int),.int .u64 (n:Int)] w (RetG w [] ShapeSc):=by
 obtain ⟨p,c,rfl,_,_⟩:=id hrs.form
 obtain ⟨p2,c2,rfl,_,_⟩:=id hrm.form
 refine enter (args:=[_,_,_]) _ [] [] Tryz.func79 rfl Tryz.ntmps79 rfl (by simp) .nil ?_
 (refine sRz ?_;apply zT;rfl;rfl;intro _;apply zU;rfl;intro _;refine vAz<|nSz<|ldz rfl (.tail .head) (qF rfl) ?_)
 (apply LW.callR;rfl;rfl;infer_instance;exact .cons rfl .nil;intro w hs)
 exact rScCopy_calls ws ms _ _ w (hrs.st hs) (hrm.st hs) hl hl2
 rintro vo gso ⟨s1,m1,g1,g2,rfl,rfl,h1,h2,h00⟩
 have h1':=h1
 have h2':=h2
 unfold wM at h1'
 unfold bM at h2'
 obtain ⟨q1,k1,rfl⟩:=h1'.form
 obtain ⟨q2,k2,rfl⟩:=h2'.form
 rw [List.append_assoc]
 rcases Nat.lt_or_ge 1024 n with hlong|hshort
 ·have hl3:1024 - z < n:=by omega
  (apply zU;rfl;intro _;refine zR rfl rfl .head (.whole rfl rfl rfl)<|nNz<|zI<|sRz<|vMz ?_;refine lvz (.eqF rfl rfl (by omega)) ?_;refine nNz<|cFz<|zJ<|thenN<|zI<|sRz<|vMz ?_;refine lvz (.geqF rfl rfl (by omega)) ?_;refine vMz<|gTz<|vMz<|gTz<|vMz<|gTz ?_;refine lvz (.subNK rfl rfl (by decide) (by omega) (by omega)) ?_;refine gTz ?_;refine lvz (.gtrT rfl rfl (by omega)) ?_;refine pFz<|nNz<|cTz<|sRz ?_;apply LW.v0;rfl;rfl;apply zW;infer_instance;infer_instance;exact zB;rfl;simp only [fillP,wrCells,Value.cells,qI,qJ,qK,qH,qM,qL,Nat.reduceAdd,qO];rfl;refine zR rfl rfl (.tail (.app (.app .head))) (.whole rfl rfl rfl)<|vAz<|nNz<|zK<|thenR ?_)
  exact fin (vs:=[.agg #[.slice none 0 0,.slice none 0 0],.int .i64 3]) [] (.inl rfl) rfl rfl (by (apply zD;apply zH;rfl;apply qE;apply zX;apply zZ;apply zZ;apply zY;exact qF rfl;apply zD;exact zG rfl;exact zF)) (List.nil_sublist _) ⟨_,_,_,_,_,_,_,rfl,rfl⟩
 ·have hl3:¬ 1024 - z < n:=by omega
  (apply zU;rfl;intro _;refine zR rfl rfl .head (.whole rfl rfl rfl)<|nNz<|zI<|sRz<|vMz ?_;refine lvz (.eqF rfl rfl (by omega)) ?_;refine nNz<|cFz<|zJ<|thenN<|zI<|sRz<|vMz ?_;refine lvz (.geqF rfl rfl (by omega)) ?_;refine vMz<|gTz<|vMz<|gTz<|vMz<|gTz ?_;refine lvz (.subNK rfl rfl (by decide) (by omega) (by omega)) ?_;refine gTz ?_;refine lvz (.gtrF rfl rfl (by omega)) ?_;refine pFz<|nNz<|cFz<|zJ<|thenN<|zI<|zM ?_)
  rename_i b3 b6 b8
  obtain ⟨D,hD⟩:∃ D,D=upW (max n ms.length) - ms.length:=⟨_,rfl⟩
  have hDn:(ms.length+D) % 32=0∧n≤ms.length+D∧∀ k,k < D→ms.length+k < n∨(ms.length+k) % 32 ≠ 0:=by
   have e1:upW (max n ms.length)=ms.length+D:=by
    have:ms.length≤upW (max n ms.length):=by unfold upW;omega
    omega
   unfold upW at e1
   exact ⟨by omega,by omega,fun k hk=>by omega⟩
  obtain ⟨hD1,hD2,hD3⟩:=hDn
  have hD4:D≤100000:=by unfold upW at hD;omega
  refine CW.loop (fun x:Nat × Option Addr × Nat × Fs=>([(8,.pointer (some ⟨b8,0,none⟩)),(6,.pointer (some ⟨b6,0,none⟩)),(1,.int .u64 (z:Int)),(2,.int .u64 (n:Int))],(b8,.cells #[.slice q1 ws.length k1,.slice x.2.1 (ms.length+x.1) x.2.2.1] 25 (0,0))::(x.2.2.2++(g1++[(b6,.cells #[.slice none 0 0,.slice none 0 0] 25 (0,0))]))))
   (fun x=>x.1≤D∧IsRow 5 1 (.slice x.2.1 (ms.length+x.1) x.2.2.1) (ms.length+x.1) (ucs (ms++List.replicate x.1 0)) x.2.2.2) (fun x=>D - x.1) (0,q2,k2,g2) ⟨Nat.zero_le _,by simpa using h2'⟩ ⟨rfl,rfl,rfl,rfl,trivial⟩ (by simp) ?_
  rintro ⟨k,q,kc,seg⟩ ⟨hk,hrow⟩
  dsimp only at hk hrow ⊢
  rcases Nat.lt_or_ge k D with hlt|hge
  ·have e:ucs (ms++List.replicate (k+1) 0)=ucs (ms++List.replicate k 0)++[.int .u8 0]:=by
    rw [List.replicate_succ',← List.append_assoc]
    simp [ucs]
   have hd:=hD3 k hlt
   by_cases h1n:ms.length+k < (z+n) % 18446744073709551616
   ·(refine zI<|sRz<|vFz<|ldz rfl .head (Rd.one' rfl)<|lvz (.lenR rfl inferInstance rfl) ?_;refine lvz (.convN rfl (by omega) (by omega)) ?_;refine vMz<|vMz<|lvz (.addN rfl rfl) ?_;refine lvz (.lssT rfl rfl (by omega)) ?_;refine vMz ?_;(iterate 5 refine gFz ?_);refine pTz<|nNz<|cTz<|zJ<|thenN<|zM<|zL<|vFz<|ldz rfl .head (Rd.one' rfl) ?_;apply LW.lay1;rfl;infer_instance;infer_instance;rfl;rfl;rfl;rfl;rfl;rfl;intro _)
    (apply LW.append;rfl;rfl;infer_instance;infer_instance;infer_instance;rfl;rfl;rfl;(case hrow=>assumption);apply AtSeg.cons;apply AtSeg.cons;exact AtSeg.head;apply qE;apply zY;rfl;rfl;rfl;omega;simp only [maxLen];omega;omega;intro v' seg' hrow';obtain ⟨p',c',rfl⟩:=hrow'.form;(refine ⟨_,(by (repeat (first|exact AtSeg.head|apply AtSeg.cons|apply AtSeg.app))),?_⟩);(try simp only [List.cons_append,List.nil_append]))
    (refine vFz ?_;apply zR;rfl;rfl;apply qB;apply qA;apply Wr.cells;rfl;rfl;simp only [wc,List.size_toArray,List.length_cons,List.length_nil];omega;simp only [fillC,wc,wrCells,Value.cells,qK,qH,qM,qL,Nat.reduceAdd,Nat.reduceMul,qO,Nat.mul_one];rfl;apply zV;refine blkN ?_)
    apply thenX
    refine ⟨rfl,(k+1,p',c',seg'),⟨hlt,?_⟩,by show D - (k+1) < D - k;omega,⟨rfl,rfl,rfl,rfl,trivial⟩,qR _ (qN _)⟩
    dsimp only
    rw [e]
    exact hrow'
   ·have h32k:(ms.length+k) % 32 ≠ 0:=by omega
    (refine zI<|sRz<|vFz<|ldz rfl .head (Rd.one' rfl)<|lvz (.lenR rfl inferInstance rfl) ?_;refine lvz (.convN rfl (by omega) (by omega)) ?_;refine vMz<|vMz<|lvz (.addN rfl rfl) ?_;refine lvz (.lssF rfl rfl (by omega)) ?_;refine vMz<|gTz<|vFz<|gTz<|ldz rfl .head (Rd.one' rfl)<|gTz<|lvz (.lenR rfl inferInstance rfl)<|gTz ?_;refine lvz (.remZL rfl rfl (by decide) (by omega)) ?_;refine gTz ?_;refine lvz (.neT rfl rfl (by omega)) ?_;refine pFz<|nNz<|cTz<|zJ<|thenN<|zM<|zL<|vFz<|ldz rfl .head (Rd.one' rfl) ?_;apply LW.lay1;rfl;infer_instance;infer_instance;rfl;rfl;rfl;rfl;rfl;rfl;intro _)
    (apply LW.append;rfl;rfl;infer_instance;infer_instance;infer_instance;rfl;rfl;rfl;(case hrow=>assumption);apply AtSeg.cons;apply AtSeg.cons;exact AtSeg.head;apply qE;apply zY;rfl;rfl;rfl;omega;simp only [maxLen];omega;omega;intro v' seg' hrow';obtain ⟨p',c',rfl⟩:=hrow'.form;(refine ⟨_,(by (repeat (first|exact AtSeg.head|apply AtSeg.cons|apply AtSeg.app))),?_⟩);(try simp only [List.cons_append,List.nil_append]))
    (refine vFz ?_;apply zR;rfl;rfl;apply qB;apply qA;apply Wr.cells;rfl;rfl;simp only [wc,List.size_toArray,List.length_cons,List.length_nil];omega;simp only [fillC,wc,wrCells,Value.cells,qK,qH,qM,qL,Nat.reduceAdd,Nat.reduceMul,qO,Nat.mul_one];rfl;apply zV;refine blkN ?_)
    apply thenX
    refine ⟨rfl,(k+1,p',c',seg'),⟨hlt,?_⟩,by show D - (k+1) < D - k;omega,⟨rfl,rfl,rfl,rfl,trivial⟩,qR _ (qN _)⟩
    dsimp only
    rw [e]
    exact hrow'
  ·obtain rfl:k=D:=by omega
   (refine zI<|sRz<|vFz<|ldz rfl .head (Rd.one' rfl)<|lvz (.lenR rfl inferInstance rfl) ?_;refine lvz (.convN rfl (by omega) (by omega)) ?_;refine vMz<|vMz<|lvz (.addN rfl rfl) ?_;refine lvz (.lssF rfl rfl (by omega)) ?_;refine vMz<|gTz<|vFz<|gTz<|ldz rfl .head (Rd.one' rfl)<|gTz<|lvz (.lenR rfl inferInstance rfl)<|gTz ?_;refine lvz (.remZL rfl rfl (by decide) (by omega)) ?_;refine gTz ?_;refine lvz (.neF rfl rfl (by omega)) ?_;refine pFz<|nNz<|cFz<|CW.exit<|thenE<|thenE<|blkE rfl<|thenN<|sRz<|ldz rfl .head (qF rfl) ?_;refine zR rfl rfl (.tail (.app (.app .head))) (.whole rfl rfl rfl)<|vAz<|nNz<|zK ?_)
   exact fin (vs:=[.agg #[.slice q1 ws.length k1,.slice q (ms.length+k) kc],.int .i64 0]) [] (.inl rfl) rfl rfl (by (apply zD;apply zH;rfl;apply qE;apply zX;apply zZ;apply zZ;apply zY;exact qF rfl;apply zD;exact zG rfl;exact zF)) (List.nil_sublist _) ⟨_,_,_,_,_,_,_,rfl,rfl⟩
def ShapeFr (v:Value) (gs:Fs):Prop:=∃ y t,v=.tuple #[frv y,.bool t]∧FrSl y∧gs=[]
theorem rReach_any (f:FrV) (L:FrL) (a n:Nat) (ha:a < M256) (hn:n < M256) (hsh:L.short) (hg:f.gas < 18446744073709551616) (w:World) (h:FrRows w f L):Calls Tryz.prog 31 #[frv f,wv a,wv n] w (RetG w [] ShapeFr):=by
 have hE64:endV a n < 18446744073709551616:=endV_lt a n
 have hEnd:∀ w,Calls Tryz.prog 78 #[wv a,wv n] w (Ret w (.int .u64 ((endV a n:Nat):Int))):=rEnd_calls a n ha hn
 have hms:L.ms.length≤100000:=hsh.2.2.1
 have hMem:∀ w,Calls Tryz.prog 32 #[.int .u64 (L.ms.length:Int),.int .u64 (endV a n:Int)] w (Ret w (.int .u64 ((costR L a n:Nat):Int))):=rMemory_calls L.ms.length (endV a n) (by omega) hE64
 have hrows:=h
 have hCopy:∀ w' {fs:Fs},St w [] fs w'→Calls Tryz.prog 49 #[frv f] w' (RetG w' [] (rCopyR f L)):=fun w' fs hst=>rfCopy_calls f L hsh w' (hrows.st hst)
 obtain ⟨E,hE⟩:∃ E,E=endV a n:=⟨_,rfl⟩
 rw [← hE] at hEnd hMem hE64
 obtain ⟨c,hc⟩:∃ c,c=costR L a n:=⟨_,rfl⟩
 rw [← hc] at hMem
 clear hE hc
 obtain ⟨code,pc,stk,mem,gas,self,frm,val,inp,back,stat⟩:=f
 obtain ⟨h0,h2,h3,h11,h12⟩:=h
 dsimp only at h0 h2 h3 h11 h12 hrows ⊢
 obtain ⟨p0,c0,rfl,_,hm0⟩:=id h0.form
 obtain ⟨p2,c2,rfl,_,hm2⟩:=id h2.form
 obtain ⟨p3,c3,rfl,_,hm3⟩:=id h3.form
 obtain ⟨p11,c11,rfl,_,hm11⟩:=id h11.form
 obtain ⟨p12,c12,rfl,_,hm12⟩:=id h12.form
 have hzs:=zero_sl
 dsimp only at hg
 by_cases hle:c≤gas
 ·refine enter (args:=[_,_,_]) _ [] [] Tryz.func31 rfl Tryz.ntmps31 rfl (by simp) .nil ?_
  (refine sRz ?_;apply zT;rfl;rfl;intro _;apply zT;rfl;rfl;intro _;apply zT;rfl;rfl;intro _;apply zU;rfl;intro _;refine vAz<|nSz<|ldz rfl (.tail (.tail .head)) (qF rfl)<|ldz rfl (.tail .head) (qF rfl) ?_;apply zS;rfl;rfl;infer_instance;exact .cons rfl (.cons rfl .nil);intro w _;exact hEnd w;refine vAz<|nSz<|vFz<|vFz<|ldz rfl (.tail (.tail (.tail .head))) fr_rd3<|lvz (.lenR rfl inferInstance rfl) ?_;refine lvz (.convN rfl (by omega) (by omega)) ?_;refine vMz ?_;apply zS;rfl;rfl;infer_instance;exact .cons rfl (.cons rfl .nil);intro w _;exact hMem w;refine vAz<|nNz<|zI<|sRz<|vMz<|vFz<|ldz rfl (.tail (.tail (.tail .head))) fr_rd4 ?_;refine lvz (.gtrF rfl rfl (by omega)) ?_;refine nNz<|cFz<|zJ<|thenN<|sRz<|ldz rfl (.tail (.tail (.tail .head))) fr_rdW ?_)
  (apply LW.callR;rfl;rfl;infer_instance;exact .cons rfl .nil;intro w hs)
  exact hCopy w hs
  rintro vo gso ⟨d1,d2,d3,d4,d5,rfl,⟨g1,g2,g3,g4,g5,hp,k1,k2,k3,k4,k5⟩,_⟩
  refine LW.perm (hp.append_right _) ?_
  clear hp
  have hk:=And.intro k1 (And.intro k2 (And.intro k3 (And.intro k4 k5)))
  unfold bM at k1 k3 k4 k5
  unfold wM at k2
  obtain ⟨q1,j1,rfl⟩:=k1.form
  obtain ⟨q2,j2,rfl⟩:=k2.form
  obtain ⟨q3,j3,rfl⟩:=k3.form
  obtain ⟨q4,j4,rfl⟩:=k4.form
  obtain ⟨q5,j5,rfl⟩:=k5.form
  have hsl:FrSl (FrV.rows ⟨.slice p0 L.cl.length c0,pc,.slice p2 L.ws.length c2,.slice p3 L.ms.length c3,gas,self,frm,val,.slice p11 L.il.length c11,.slice p12 L.bl.length c12,stat⟩ (.slice q1 L.cl.length j1) (.slice q2 L.ws.length j2) (.slice q3 L.ms.length j3) (.slice q4 L.il.length j4) (.slice q5 L.bl.length j5)):=⟨⟨_,_,_,rfl⟩,⟨_,_,_,rfl⟩,⟨_,_,_,rfl⟩,⟨_,_,_,rfl⟩,⟨_,_,_,rfl⟩⟩
  unfold FrV.rows at hsl ⊢
  dsimp only at hsl ⊢
  by_cases hE1:E=0
  ·(apply zU;rfl;intro _;apply zR;rfl;rfl;apply qA;apply fr_wrW;rfl;assumption;refine nSz<|vFz<|ldz rfl .head fr_rd4<|vMz ?_;refine lvz (.subN rfl rfl (by omega) (by omega)) ?_;refine vFz ?_;refine zR rfl rfl .head fr_wr4<|nNz<|zI<|sRz<|vMz ?_;refine lvz (.gtrF rfl rfl (by omega)) ?_;refine nNz<|cFz<|zJ<|thenN<|sRz<|ldz rfl .head fr_rdW ?_;refine zR rfl rfl (.tail (.app .head)) (.whole rfl rfl rfl)<|vAz<|nNz<|zK ?_)
   exact fin (vs:=[frv ⟨.slice q1 L.cl.length j1,pc,.slice q2 L.ws.length j2,.slice q3 L.ms.length j3,gas - c,self,frm,val,.slice q4 L.il.length j4,.slice q5 L.bl.length j5,stat⟩,.bool true]) [] (.inl rfl) rfl rfl (by (apply zD;apply zH;rfl;apply qE;apply zX;apply zZ;apply zY;exact fr_rdW;apply zD;exact zG rfl;exact zF)) (List.nil_sublist _) ⟨_,_,rfl,⟨⟨_,_,_,rfl⟩,⟨_,_,_,rfl⟩,⟨_,_,_,rfl⟩,⟨_,_,_,rfl⟩,⟨_,_,_,rfl⟩⟩,rfl⟩
  ·(apply zU;rfl;intro _;apply zR;rfl;rfl;apply qA;apply fr_wrW;rfl;assumption;refine nSz<|vFz<|ldz rfl .head fr_rd4<|vMz ?_;refine lvz (.subN rfl rfl (by omega) (by omega)) ?_;refine vFz ?_;refine zR rfl rfl .head fr_wr4<|nNz<|zI<|sRz<|vMz ?_;refine lvz (.gtrT rfl rfl (by omega)) ?_;refine nNz<|cTz<|zL<|vFz<|ldz rfl (.tail (.app (.tail (.tail (.tail .head))))) fr_rd2<|vMz ?_)
   (apply LW.callR;rfl;rfl;infer_instance;exact .cons rfl (.cons rfl (.cons rfl .nil));intro w hs)
   exact rGrow_any L.ws L.ms _ _ 0 E rfl (by omega) hE64 w (h2.st hs) (h3.st hs) hsh.2.1 hsh.2.2.1
   rintro vo gso ⟨p21,n21,c21,p22,n22,c22,e22,rfl,rfl⟩
   (refine vMz ?_;refine vEz ?_;refine vEz ?_;refine vFz ?_;refine zR rfl rfl .head fr_wr23<|nSz<|ldz rfl .head fr_rdW ?_;refine zR rfl rfl (.tail (.app .head)) (.whole rfl rfl rfl)<|vAz<|nNz<|zK ?_)
   exact fin (vs:=[frv ⟨.slice q1 L.cl.length j1,pc,.slice p21 n21 c21,.slice p22 n22 c22,gas - c,self,frm,val,.slice q4 L.il.length j4,.slice q5 L.bl.length j5,stat⟩,.bool true]) [] (.inl rfl) rfl rfl (by (apply zD;apply zH;rfl;apply qE;apply zX;apply zZ;apply zY;exact fr_rdW;apply zD;exact zG rfl;exact zF)) (List.nil_sublist _) ⟨_,_,rfl,⟨⟨_,_,_,rfl⟩,⟨_,_,_,rfl⟩,⟨_,_,_,rfl⟩,⟨_,_,_,rfl⟩,⟨_,_,_,rfl⟩⟩,rfl⟩
 ·have hlt:gas < c:=by omega
  refine enter (args:=[_,_,_]) _ [] [] Tryz.func31 rfl Tryz.ntmps31 rfl (by simp) .nil ?_
  (refine sRz ?_;apply zT;rfl;rfl;intro _;apply zT;rfl;rfl;intro _;apply zT;rfl;rfl;intro _;apply zU;rfl;intro _;refine vAz<|nSz<|ldz rfl (.tail (.tail .head)) (qF rfl)<|ldz rfl (.tail .head) (qF rfl) ?_;apply zS;rfl;rfl;infer_instance;exact .cons rfl (.cons rfl .nil);intro w _;exact hEnd w;refine vAz<|nSz<|vFz<|vFz<|ldz rfl (.tail (.tail (.tail .head))) fr_rd3<|lvz (.lenR rfl inferInstance rfl) ?_;refine lvz (.convN rfl (by omega) (by omega)) ?_;refine vMz ?_;apply zS;rfl;rfl;infer_instance;exact .cons rfl (.cons rfl .nil);intro w _;exact hMem w;refine vAz<|nNz<|zI<|sRz<|vMz<|vFz<|ldz rfl (.tail (.tail (.tail .head))) fr_rd4 ?_;refine lvz (.gtrT rfl rfl (by omega)) ?_;refine nNz<|cTz<|sRz ?_;apply LW.v0;rfl;rfl;apply zW;infer_instance;infer_instance;exact zB;rfl;simp only [fillP,wrCells,Value.cells,qI,qJ,qK,qH,qM,qL,Nat.reduceAdd,qO];rfl;refine zR rfl rfl .head (.whole rfl rfl rfl)<|vAz<|nNz<|zK<|thenR ?_)
  exact fin (vs:=[frv zeroF,.bool false]) [] (.inl rfl) rfl rfl (by (apply zD;apply zH;rfl;apply qE;apply zY;exact qF rfl;apply zD;exact zG rfl;exact zF)) (List.nil_sublist _) ⟨_,_,rfl,hzs,rfl⟩
end Go.Proofs.YtdeggbkbblfpoaaGreatDoor
