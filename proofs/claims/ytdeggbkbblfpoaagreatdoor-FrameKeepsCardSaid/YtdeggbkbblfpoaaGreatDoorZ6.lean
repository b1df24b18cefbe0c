/-
  Texts that were built apart, put behind one another (6 of 6): Y9 YL.
  Conditions: none.
-/
import Derived.Test.YtdeggbkbblfpoaaGreatDoorZ5
import Derived.Test.YtdeggbkbblfpoaaGreatDoorRows
import Derived.LaidMore
import Derived.Lib.LaidTab
import Derived.Lib.LaidU8
namespace Go.Proofs.YtdeggbkbblfpoaaGreatDoor
open Go Go.RowKit SL
set_option maxRecDepth 8000
set_option maxHeartbeats 4000000
set_option linter.unusedSimpArgs false
set_option linter.unusedVariables false
attribute [local irreducible] SL.CW SL.LW SL.DW Calls SL.Ret SL.RetG SL.beginQ SL.roundQ SL.rangeQ SL.inQ SL.RW SL.AnyW SL.thenQ SL.thenC SL.thenW SL.blkQ SL.finQ SL.ValP SL.NewP SL.SetP SL.CallP SL.Rd SL.Wr SL.Known
theorem okF_keep {f:FrV} {L:FrL} {o:SO} {c s m i b:Value} {op:Nat} (hF:okF f L) (K:KeepO f L op o):okF (f.so o c s m i b) (soL L o) :=
 ⟨⟨hF.1.1,hF.1.2.1,by have:=K.gas;have:=hF.1.2.2;show o.gas≤20000;omega⟩,hF.2.1,hF.2.2.1,⟨K.wsl,K.msl.1,K.msl.2⟩,K.pc⟩
theorem num_keep {f:FrV} {L:FrL} {o:SO} {c s m i b:Value} {op:Nat} (hn:FrNum f L) (K:KeepO f L op o):FrNum (f.so o c s m i b) (soL L o) :=
 ⟨by have:=K.gas;have:=hn.gas;show o.gas < _;omega,hn.self,hn.frm,hn.val,K.wsn⟩
theorem askZ (w:World) (k:Int):AskQAt w ⟨k,0,.slice none 0 0,[],.slice none 0 0,[]⟩:=⟨.nil,.nil,fun x hx=>by cases hx⟩
theorem FrameKeeps_walk (x0:FrV) (X0:FrL) (e0 e1 e2 e3:Nat) (n2:Int) (w:World) (hT:SK.TurnAt w) (hNum:SK.NumAt w) (hr0:FrRows w x0 X0) (hn0:FrNum x0 X0) (he0:e0 < 18446744073709551616) (he1:e1 < 18446744073709551616) (he2:e2 < 18446744073709551616) (he3:e3 < 18446744073709551616):Calls Tryz.prog 7 #[frv x0,.agg (enva e0 e1 e2 e3),.int .i64 n2] w (Ret w (.bool true)):=by
 have hsl:=hr0.sl
 refine enter (args:=[_,_,_]) _ [] [] Tryz.func7 rfl Tryz.ntmps7 rfl (by simp) .nil ?_
 (refine sRz ?_;apply zT;rfl;rfl;intro _;apply zT;rfl;rfl;intro _;refine vAz<|nNz<|zI<|sRz ?_;apply zS;rfl;rfl;infer_instance;exact ArgsOk.nil;intro w _;exact wakes14_calls w;refine lvz (.notT rfl (by with_reducible rfl)) ?_;refine nNz<|cFz<|zJ<|thenN<|sRz<|ldz rfl (.tail .head) fr_rdW ?_)
 refine LW.callR rfl rfl inferInstance (by (exact .cons rfl .nil)) (fun w' hst=>few14_calls x0 X0 w' (hr0.st hst)) ?_
 rename_i b3 b4
 rintro v1 g1 hv1
 obtain ⟨y,rfl,hy,hyx⟩:=hv1.like
 clear hsl
 have hsl:=hy.sl
 obtain ⟨Y,hY⟩:∃ Y,fewQ X0=Y:=⟨_,rfl⟩
 have hyn:FrNum y Y:=hY ▸ hyx.num hn0.few
 rw [hY] at hy
 have hCk:∀ w',(∀ q∈g1,w'.heap[q.1]?=some q.2)→Calls Tryz.prog 34 #[frv y] w' (Ret w' (.int .i64 (if okF y Y then 0 else 240))):=fun w' h=>fCheck_calls y Y w' (hy.us h)
 by_cases hok:okF y Y
 ·rw [if_pos hok] at hCk
  (apply zR;rfl;rfl;apply qE;apply qD;apply qA;apply fr_wrW;rfl;exact hsl;refine nNz<|zI<|sRz<|ldz rfl (.app (.tail .head)) fr_rdW ?_;apply zS;rfl;rfl;infer_instance;exact .cons rfl .nil;intro w _;rename_i hst;(exact hCk w (st_ou hst (by (repeat (first|exact qQ _|exact qT _ _|apply qU|apply List.sublist_append_of_sublist_right)))));refine lvz (.neF rfl rfl (by omega)) ?_;refine nNz<|cFz<|zJ<|thenN<|zI<|sRz<|vMz<|lvz (.convU rfl) ?_;refine lvz (.remNL rfl rfl (by decide) (by omega)) ?_;refine lvz (.convI rfl (by omega) (by omega)) ?_;refine lvz (.addZL rfl rfl (by decide) (by omega)) ?_;refine vMz<|nNz<|zM ?_)
  obtain ⟨m,hm⟩:∃ m,(n2 % 18446744073709551616).toNat % 40+1=m:=⟨_,rfl⟩
  have hm40:m≤40:=by omega
  rw [hm]
  clear hCk hsl
  refine CW.loop (fun x:Nat × FrV × FrL × Fs=>([(46,.int .i64 (x.1:Int)),(45,.int .i64 (m:Int)),(4,.pointer (some ⟨b4,0,none⟩)),(3,.pointer (some ⟨b3,0,none⟩)),(6,.bool false)],x.2.2.2++[(b4,.cells (enva e0 e1 e2 e3) 33 (0,0)),(b3,.cells (fra x.2.1) 31 (0,0))]))
   (fun x=>x.1≤m∧okF x.2.1 x.2.2.1∧FrNum x.2.1 x.2.2.1∧FrP x.2.1 x.2.2.1 x.2.2.2) (fun x=>m - x.1) (0,y,Y,g1) ⟨Nat.zero_le _,hok,hyn,hy.toP⟩ ⟨rfl,rfl,rfl,rfl,rfl,trivial⟩ (qQ _) ?_
  rintro ⟨k,f,L,gs⟩ ⟨hk,hF,hn,hfr⟩
  dsimp only at hk hF hn hfr ⊢
  rcases Nat.lt_or_ge k m with hlt|hge
  ·have hsl:=hfr.sl
   obtain ⟨op,hop⟩:∃ op,opF f L=op:=⟨_,rfl⟩
   have hNx:∀ w',(∀ q∈gs,w'.heap[q.1]?=some q.2)→Calls Tryz.prog 33 #[frv f] w' (Ret w' (.tuple #[.int .u8 (op:Int),.bool true])):=fun w' h=>by
    have h:=Next_calls f L w' (hfr.rows h)
    rwa [if_pos hF,decide_eq_true hF,hop] at h
   obtain ⟨r,hr⟩:∃ r,stepV f L e0 e1 e2 e3=r:=⟨_,rfl⟩
   have hst0:∀ (w':World),SK.TurnAt w'→SK.NumAt w'→FrRows w' f L→Calls Tryz.prog 10 #[frv f,.agg (enva e0 e1 e2 e3)] w' (RetG w' [] (StepRes f L r)):=fun w' h1 h2 h3=>by
    have h:=Step_calls f L e0 e1 e2 e3 he0 he1 he2 he3 hF hn w' h1 h2 h3
    rwa [hr] at h
   (refine sRz ?_;refine lvz (.lssT rfl rfl (by omega)) ?_;refine nNz<|zI<|cTz<|zJ<|thenN<|zI<|zM<|sRz<|ldz rfl (.app (.tail .head)) fr_rdW ?_;apply zS;rfl;rfl;infer_instance;exact .cons rfl .nil;intro w _;rename_i hst;(exact hNx w (st_ou hst (by (repeat (first|exact qQ _|exact qT _ _|apply qU|apply List.sublist_append_of_sublist_right)))));refine vMz ?_;refine vEz ?_;refine vEz ?_;refine vAz<|vAz<|nSz<|ldz rfl (.app (.tail .head)) fr_rdW<|ldz rfl (.app .head) (qJ rfl) ?_)
   cases r with
   |none =>
    refine LW.callR rfl rfl inferInstance (by (exact .cons rfl (.cons rfl .nil))) (fun w' hst=>hst0 w' (hT.st hst) (hNum.st hst) (hfr.rows (st_ou hst (by (exact qT _ _))))) ?_
    rintro v gs2 ⟨c,s,mm,i,bb,rfl,hfo⟩
    obtain ⟨G,hG⟩:∃ G,f.rowsG 0 c s mm i bb=G:=⟨_,rfl⟩
    have hP:FrP G L gs2:=hG ▸ hfo.toP
    have hokG:okF G L:=hG ▸ (⟨⟨hF.1.1,hF.1.2.1,Nat.zero_le _⟩,hF.2⟩:okF (f.rowsG 0 c s mm i bb) L)
    have hnG:FrNum G L:=hG ▸ (⟨(by show (0:Nat) < 18446744073709551616;decide),hn.self,hn.frm,hn.val,hn.ws⟩:FrNum (f.rowsG 0 c s mm i bb) L)
    have hle:G.gas≤f.gas:=by rw [← hG];exact Nat.zero_le _
    have hsame:sameF (plainF f) (plainL L) (plainF G) (plainL L):=by rw [← hG];exact ⟨rfl,rfl,rfl,rfl,rfl,rfl,rfl,rfl,rfl,rfl,rfl⟩
    have hsame2:sameF (f.setG 0) L G L:=by rw [← hG];exact ⟨rfl,rfl,rfl,rfl,rfl,rfl,rfl,rfl,rfl,rfl,rfl⟩
    have hslG:=hP.sl
    obtain ⟨LG,hLG⟩:∃ LG,L=LG:=⟨_,rfl⟩
    have hml:L.ms.length≤LG.ms.length:=by rw [hLG];exact Nat.le_refl _
    rw [show sameF (plainF f) (plainL L) (plainF G) (plainL L)=sameF (plainF f) (plainL L) (plainF G) (plainL LG) by rw [hLG]] at hsame
    rw [show FrP G L gs2=FrP G LG gs2 by rw [hLG]] at hP
    rw [show okF G L=okF G LG by rw [hLG]] at hokG
    rw [show FrNum G L=FrNum G LG by rw [hLG]] at hnG
    rw [hG]
    have hsw:∃ p n c,Value.slice none 0 0=.slice p n c:=⟨_,_,_,rfl⟩
    have hsd:=hsw
    have hsame3:sameF (f.setG 0) L G LG:=by rw [← hLG];exact hsame2
    have hSm:∀ w',(∀ q∈gs,w'.heap[q.1]?=some q.2)→(∀ q∈gs2,w'.heap[q.1]?=some q.2)→Calls Tryz.prog 36 #[frv (f.setG 0),frv G] w' (Ret w' (.bool true)):=fun w' h h3=>by
     have r:=hfr.rows h
     have h:=fSame_calls (f.setG 0) G L LG ⟨(by show (0:Nat) < 18446744073709551616;decide),hn.self,hn.frm,hn.val,hn.ws⟩ hnG w' ⟨r.c,r.s,r.m,r.i,r.b⟩ (hP.rows h3)
     rwa [decide_eq_true hsame3] at h
    have hAz:∀ w,Calls Tryz.prog 37 #[.agg (aska 6 0 (.slice none 0 0) (.slice none 0 0)),.agg (aska 6 0 (.slice none 0 0) (.slice none 0 0))] w (Ret w (.bool true)):=fun w=>by
     have h:=SameAsk_calls ⟨6,0,.slice none 0 0,[],.slice none 0 0,[]⟩ ⟨6,0,.slice none 0 0,[],.slice none 0 0,[]⟩ w (askZ w 6) (askZ w 6)
     rwa [decide_eq_true (show sameA _ _ from ⟨rfl,rfl,rfl,rfl⟩)] at h
    (refine vMz ?_;refine vEz ?_;refine vEz ?_;refine vEz ?_;apply zU;rfl;intro _;apply zU;rfl;intro _;apply zR;rfl;rfl;apply qD;apply qA;apply fr_wrW;rfl;exact hslG;apply zR;rfl;rfl;apply qA;apply aq_wrW;rfl;exact hsw;exact hsd;refine vAz<|nNz<|zI<|zI ?_)
    obtain ⟨qF,kF,hmF⟩:=hfr.memv
    obtain ⟨qG,kG,hmG⟩:=hP.memv
    have hrdF:∀ {E fr},Rd Tryz.prog 22 (.cells (fra f) E fr) 3 (.slice qF L.ms.length kF):=fun {E fr}=>by rw [← hmF];exact fr_rd3
    have hrdG:∀ {E fr},Rd Tryz.prog 22 (.cells (fra G) E fr) 3 (.slice qG LG.ms.length kG):=fun {E fr}=>by rw [← hmG];exact fr_rd3
    obtain ⟨uf,hf1,hf2,hf3⟩:=hfr.lie
    obtain ⟨ug,hg1,hg2,hg3⟩:=hP.lie
    obtain ⟨pf,hp1,hp2,hp3⟩:=hfr.plain
    obtain ⟨pg,hq1,hq2,hq3⟩:=hP.plain
    skip
    apply CW.pre
    (refine AnyW.anyM [] 35 mixed (by decide +kernel) ?_)
    ((try simp only [tsOf_cons,tsOf_nil,tsOf_app]);refine dvz (.move rfl) ?_;refine dvz (.neF rfl rfl (by omega)) ?_;refine dvz (.move rfl)<|dwz (.move rfl) ?_;refine dwz (.notT rfl (by with_reducible rfl)) ?_;refine dvz (.pickF' rfl (by with_reducible rfl) rfl) ?_;refine dvz (.move rfl) ?_;apply qH;rfl;rfl;rfl;apply wantYes;rfl;rfl;(with_reducible rfl);rfl;apply zO;apply zP;exact zN;exact fr_rdW)
    refine DW.callA ug rfl rfl rfl (by (apply wantYes;rfl;rfl;(with_reducible rfl))) rfl inferInstance (by (exact .cons rfl .nil)) (by rw [List.flatMap_cons,hg1];exact List.append_nil _) (fun p hp=>AncT.lie (by (refine AncT.cons ?_ ?_;exact zN;refine AncT.cons ?_ ?_;exact zN;refine AncT.app ?_ ?_;exact AncT.tsOf;refine AncT.app ?_ ?_;exact AncT.tsOf;refine AncT.cons ?_ ?_;exact zN;refine AncT.cons ?_ ?_;exact zN;exact AncT.nil)) (by have hp:=hg2 p hp;simp [fsOf,tsOf,tsNew,tsTag,markAll,Function.comp_def,hp])) (fun w _ hu=>by have h:=fCheck_calls G LG w (hg3 w hu);rwa [if_pos hokG] at h) ?_
    (try simp only [markAll_cons,markAll_app,markAll_tsOf,markAll_tag,markAll_new,markAll_nil])
    ((try simp only [tsOf_cons,tsOf_nil,tsOf_app]);refine dwz (.neF rfl rfl (by omega)) ?_;refine dvz (.pickF' rfl (by with_reducible rfl) rfl) ?_;refine dvz (.move rfl) ?_;apply qH;rfl;rfl;rfl;apply wantYes;rfl;rfl;(with_reducible rfl);rfl;apply zO;apply zO;apply zQ;apply zQ;apply zO;apply zP;exact zN;exact fr_rdW)
    refine DW.callA uf rfl rfl rfl (by (apply wantYes;rfl;rfl;(with_reducible rfl))) rfl inferInstance (by (exact .cons rfl .nil)) (by rw [List.flatMap_cons,hf1];exact List.append_nil _) (fun p hp=>AncT.lie (by (refine AncT.cons ?_ ?_;exact zN;refine AncT.cons ?_ ?_;exact zN;refine AncT.app ?_ ?_;refine AncT.tag ?_;exact zN;refine AncT.app ?_ ?_;refine AncT.tag ?_;exact zN;refine AncT.cons ?_ ?_;exact zN;refine AncT.cons ?_ ?_;exact zN;exact AncT.nil)) (by have hp:=hf2 p hp;simp [fsOf,tsOf,tsNew,tsTag,markAll,Function.comp_def,hp])) (fun w _ hu=>plain_calls14 f hsl w) ?_
    (try simp only [markAll_cons,markAll_app,markAll_tsOf,markAll_tag,markAll_new,markAll_nil])
    ((try simp only [tsOf_cons,tsOf_nil,tsOf_app]);apply qH;rfl;rfl;rfl;apply wantYes;rfl;rfl;(with_reducible rfl);rfl;apply zO;apply zP;exact zN;exact fr_rdW)
    refine DW.callA ug rfl rfl rfl (by (apply wantYes;rfl;rfl;(with_reducible rfl))) rfl inferInstance (by (exact .cons rfl .nil)) (by rw [List.flatMap_cons,hg1];exact List.append_nil _) (fun p hp=>AncT.lie (by (refine AncT.cons ?_ ?_;exact zN;refine AncT.cons ?_ ?_;exact zN;refine AncT.app ?_ ?_;refine AncT.tag ?_;exact zN;refine AncT.app ?_ ?_;refine AncT.tag ?_;exact zN;refine AncT.cons ?_ ?_;exact zN;refine AncT.cons ?_ ?_;exact zN;exact AncT.nil)) (by have hp:=hg2 p hp;simp [fsOf,tsOf,tsNew,tsTag,markAll,Function.comp_def,hp])) (fun w _ hu=>plain_calls14 G hslG w) ?_
    (try simp only [markAll_cons,markAll_app,markAll_tsOf,markAll_tag,markAll_new,markAll_nil])
    ((try simp only [tsOf_cons,tsOf_nil,tsOf_app]))
    refine DW.callA (pf++pg) rfl rfl rfl (by (apply wantYes;rfl;rfl;(with_reducible rfl))) rfl inferInstance (by (exact .cons rfl (.cons rfl .nil))) (by rw [List.flatMap_cons,List.flatMap_cons,hp1,hq1];simp) (fun p hp=>AncT.lie (by (refine AncT.cons ?_ ?_;exact zN;refine AncT.cons ?_ ?_;exact zN;refine AncT.app ?_ ?_;refine AncT.tag ?_;exact zN;refine AncT.app ?_ ?_;refine AncT.tag ?_;exact zN;refine AncT.cons ?_ ?_;exact zN;refine AncT.cons ?_ ?_;exact zN;exact AncT.nil)) (by { rcases List.mem_append.1 hp with hp|hp;(have hp:=hp2 p hp;simp [fsOf,tsOf,tsNew,tsTag,markAll,Function.comp_def,hp]);(have hp:=hq2 p hp;simp [fsOf,tsOf,tsNew,tsTag,markAll,Function.comp_def,hp]) })) (fun w _ hu=>by have h:=fSame_calls (plainF f) (plainF G) (plainL L) (plainL LG) hn.plain hnG.plain w (hp3 w fun p hp=>hu p (List.mem_append_left _ hp)) (hq3 w fun p hp=>hu p (List.mem_append_right _ hp));rwa [decide_eq_true hsame] at h) ?_
    (try simp only [markAll_cons,markAll_app,markAll_tsOf,markAll_tag,markAll_new,markAll_nil])
    ((try simp only [tsOf_cons,tsOf_nil,tsOf_app]);refine dwz (.notT rfl (by with_reducible rfl)) ?_;refine dvz (.pickF' rfl (by with_reducible rfl) rfl) ?_;refine dvz (.move rfl)<|dwz (.fieldAddr rfl rfl) ?_;apply qH;rfl;rfl;rfl;apply wantYes;rfl;rfl;(with_reducible rfl);rfl;apply zO;apply zP;exact zN;exact fr_rd4;refine dwz (.fieldAddr rfl rfl) ?_;apply qH;rfl;rfl;rfl;apply wantYes;rfl;rfl;(with_reducible rfl);rfl;apply zO;apply zO;apply zQ;apply zQ;apply zO;apply zP;exact zN;exact fr_rd4;refine dwz (.gtrF rfl rfl (by omega)) ?_;refine dvz (.pickF' rfl (by with_reducible rfl) rfl) ?_;refine dvz (.move rfl)<|dwz (.fieldAddr rfl rfl)<|dwz (.fieldAddr rfl rfl) ?_;apply qH;rfl;rfl;rfl;apply wantYes;rfl;rfl;(with_reducible rfl);rfl;apply zO;apply zP;exact zN;exact hrdG;refine dwz (.lenR rfl inferInstance rfl)<|dwz (.fieldAddr rfl rfl)<|dwz (.fieldAddr rfl rfl) ?_;apply qH;rfl;rfl;rfl;apply wantYes;rfl;rfl;(with_reducible rfl);rfl;apply zO;apply zO;apply zQ;apply zQ;apply zO;apply zP;exact zN;exact hrdF;refine dwz (.lenR rfl inferInstance rfl) ?_;apply DW.nil;simp only [fsOf_cons,fsOf_nil,fsOf_app,fsOf_tsOf,fsOf_new])
    try simp only [fsOf_mark,fsOf_cons,fsOf_nil,fsOf_app,fsOf_tsOf,fsOf_new,fsOf_tag,List.append_eq,List.nil_append]
    (refine gTz ?_;refine lvz (.lssF rfl rfl (by omega)) ?_;refine pFz<|nNz<|cFz<|zJ<|thenN<|zI<|sRz<|vFz<|ldz rfl .head aq_rd0<|nNz<|zM<|sRz ?_;refine lvz (.eqT rfl rfl (by omega)) ?_;refine vAz<|nNz<|cTz<|sRz<|vFz ?_;refine zR rfl rfl (.tail (.tail (.app (.app (.tail .head))))) fr_wrG<|nSz<|ldz rfl (.tail (.tail (.app (.app (.tail .head))))) fr_rdW<|ldz rfl (.tail .head) fr_rdW ?_;apply zS;rfl;rfl;infer_instance;exact .cons rfl (.cons rfl .nil);intro w _;rename_i hst;(exact hSm w (st_ou hst (by (repeat (first|exact qQ _|exact qT _ _|apply qU|apply List.sublist_append_of_sublist_right)))) (st_ou hst (by (repeat (first|exact qQ _|exact qT _ _|apply qU|apply List.sublist_append_of_sublist_right)))));refine vMz<|gTz<|ldz rfl .head (qJ rfl)<|gTz ?_;apply LW.v0;rfl;rfl;apply zW;infer_instance;infer_instance;apply zA;rfl;exact zB;rfl;simp only [fillP,wrCells,Value.cells,qL,qM,qN,qK,qP,qO,Nat.reduceAdd,qR];rfl;refine gTz ?_;apply zS;rfl;rfl;infer_instance;exact .cons rfl (.cons rfl .nil);intro w _;exact hAz w;refine pTz<|vAz<|nNz<|zK<|blkR<|thenR<|blkR<|thenR<|thenR<|blkR<|thenR ?_)
    skip
    (apply finR;exact .inl rfl;rfl;rfl;rfl;apply zD;exact zG rfl;exact zF)
    rfl
   |some o =>
    have K:=stepV_keep he0 he1 he2 he3 hF hn hr
    rw [hop] at K
    refine LW.callR rfl rfl inferInstance (by (exact .cons rfl (.cons rfl .nil))) (fun w' hst=>hst0 w' (hT.st hst) (hNum.st hst) (hfr.rows (st_ou hst (by (exact qT _ _))))) ?_
    rintro v gs2 ⟨c,s,mm,i,bb,t,d,g1',g2',g3',rfl,hP,hw3,hb3,hpm⟩
    have hokG:okF (f.so o c s mm i bb) (soL L o):=okF_keep hF K
    have hnG:FrNum (f.so o c s mm i bb) (soL L o):=num_keep hn K
    have hsame:sameF (plainF f) (plainL L) (plainF (f.so o c s mm i bb)) (plainL (soL L o)):=⟨rfl,rfl,rfl,rfl,rfl,rfl,rfl,rfl,rfl,rfl,rfl⟩
    have hle:(f.so o c s mm i bb).gas≤f.gas:=K.gas
    have hml:L.ms.length≤(soL L o).ms.length:=K.ms
    have hon:o.kind=0→(f.so o c s mm i bb).gas < f.gas∧((f.so o c s mm i bb).pc ≠ f.pc∨op=86∨op=87):=K.on
    have hcall:=K.call
    have hends:=K.ends
    obtain ⟨G,hG⟩:∃ G,f.so o c s mm i bb=G:=⟨_,rfl⟩
    obtain ⟨LG,hLG⟩:∃ LG,soL L o=LG:=⟨_,rfl⟩
    rw [hG] at hokG hnG hsame hle hon hP ⊢
    rw [hLG] at hokG hnG hsame hml hP
    obtain ⟨qt,kt,rfl⟩:∃ q k,t=.slice q o.words.length k:=by
     unfold wM at hw3
     exact hw3.form
    obtain ⟨qd,kd',rfl⟩:∃ q k,d=.slice q o.data.length k:=by
     unfold bM at hb3
     exact hb3.form
    obtain ⟨kd,hkd⟩:∃ kd,o.kind=kd:=⟨_,rfl⟩
    obtain ⟨oo,hoo⟩:∃ oo,o.op=oo:=⟨_,rfl⟩
    obtain ⟨nw,hnw⟩:∃ nw,o.words.length=nw:=⟨_,rfl⟩
    obtain ⟨nd,hnd⟩:∃ nd,o.data.length=nd:=⟨_,rfl⟩
    rw [hkd,hoo,hnw,hnd]
    rw [hkd] at hon
    rw [hkd,hoo] at hcall hends
    have hcall2:kd=1∨kd=2→oo=op∧nd=0:=fun h=>⟨(hcall h).1,by rw [← hnd,(hcall h).2];rfl⟩
    have hends2:kd ≠ 0→kd ≠ 1→kd ≠ 2→kd ≠ 6∧nw=0∧oo=0∧(kd=3↔op=0):=fun a b c=>by
     obtain ⟨h1,h2,h3,h4⟩:=hends a b c
     exact ⟨h1,by rw [← hnw,h2];rfl,h3,h4⟩
    clear hcall hends
    refine LW.perm (fs':=(g1'++(g2'++g3'))++_) (hpm.append_right _) ?_
    simp only [List.append_assoc]
    have hslG:=hP.sl
    have hsw:∃ p n c,Value.slice qt nw kt=.slice p n c:=⟨_,_,_,rfl⟩
    have hsd:∃ p n c,Value.slice qd nd kd'=.slice p n c:=⟨_,_,_,rfl⟩
    have hsub:∀ (x1 x2:Nat × Obj),([x1,x2]:Fs).Sublist (g2'++(g3'++(gs++[x1,x2]))):=fun x1 x2=>(List.sublist_append_right gs _).trans ((List.sublist_append_right g3' _).trans (List.sublist_append_right g2' _))
    clear hkd hoo hnw hnd hw3 hb3 hpm hG hLG K
    by_cases k0:kd=0
    ·subst k0
     obtain ⟨hlt2,hcs⟩:=hon rfl
     clear hon
     by_cases hpc:G.pc=f.pc
     ·rcases hcs.resolve_left (fun h=>h hpc) with h86|h87
      ·subst h86
       (refine vMz ?_;refine vEz ?_;refine vEz ?_;refine vEz ?_;apply zU;rfl;intro _;apply zU;rfl;intro _;apply zR;rfl;rfl;apply qD;apply qA;apply fr_wrW;rfl;exact hslG;apply zR;rfl;rfl;apply qA;apply aq_wrW;rfl;exact hsw;exact hsd;refine vAz<|nNz<|zI<|zI ?_)
       obtain ⟨qF,kF,hmF⟩:=hfr.memv
       obtain ⟨qG,kG,hmG⟩:=hP.memv
       have hrdF:∀ {E fr},Rd Tryz.prog 22 (.cells (fra f) E fr) 3 (.slice qF L.ms.length kF):=fun {E fr}=>by rw [← hmF];exact fr_rd3
       have hrdG:∀ {E fr},Rd Tryz.prog 22 (.cells (fra G) E fr) 3 (.slice qG LG.ms.length kG):=fun {E fr}=>by rw [← hmG];exact fr_rd3
       obtain ⟨uf,hf1,hf2,hf3⟩:=hfr.lie
       obtain ⟨ug,hg1,hg2,hg3⟩:=hP.lie
       obtain ⟨pf,hp1,hp2,hp3⟩:=hfr.plain
       obtain ⟨pg,hq1,hq2,hq3⟩:=hP.plain
       skip
       apply CW.pre
       (refine AnyW.anyM [] 35 mixed (by decide +kernel) ?_)
       ((try simp only [tsOf_cons,tsOf_nil,tsOf_app]);refine dvz (.move rfl) ?_;refine dvz (.neF rfl rfl (by omega)) ?_;refine dvz (.move rfl)<|dwz (.move rfl) ?_;refine dwz (.notT rfl (by with_reducible rfl)) ?_;refine dvz (.pickF' rfl (by with_reducible rfl) rfl) ?_;refine dvz (.move rfl) ?_;apply qH;rfl;rfl;rfl;apply wantYes;rfl;rfl;(with_reducible rfl);rfl;apply zO;apply zP;exact zN;exact fr_rdW)
       refine DW.callA ug rfl rfl rfl (by (apply wantYes;rfl;rfl;(with_reducible rfl))) rfl inferInstance (by (exact .cons rfl .nil)) (by rw [List.flatMap_cons,hg1];exact List.append_nil _) (fun p hp=>AncT.lie (by (refine AncT.cons ?_ ?_;exact zN;refine AncT.cons ?_ ?_;exact zN;refine AncT.app ?_ ?_;exact AncT.tsOf;refine AncT.app ?_ ?_;exact AncT.tsOf;refine AncT.app ?_ ?_;exact AncT.tsOf;refine AncT.app ?_ ?_;exact AncT.tsOf;refine AncT.cons ?_ ?_;exact zN;refine AncT.cons ?_ ?_;exact zN;exact AncT.nil)) (by have hp:=hg2 p hp;simp [fsOf,tsOf,tsNew,tsTag,markAll,Function.comp_def,hp])) (fun w _ hu=>by have h:=fCheck_calls G LG w (hg3 w hu);rwa [if_pos hokG] at h) ?_
       (try simp only [markAll_cons,markAll_app,markAll_tsOf,markAll_tag,markAll_new,markAll_nil])
       ((try simp only [tsOf_cons,tsOf_nil,tsOf_app]);refine dwz (.neF rfl rfl (by omega)) ?_;refine dvz (.pickF' rfl (by with_reducible rfl) rfl) ?_;refine dvz (.move rfl) ?_;apply qH;rfl;rfl;rfl;apply wantYes;rfl;rfl;(with_reducible rfl);rfl;apply zO;apply zO;apply zQ;apply zQ;apply zQ;apply zQ;apply zO;apply zP;exact zN;exact fr_rdW)
       refine DW.callA uf rfl rfl rfl (by (apply wantYes;rfl;rfl;(with_reducible rfl))) rfl inferInstance (by (exact .cons rfl .nil)) (by rw [List.flatMap_cons,hf1];exact List.append_nil _) (fun p hp=>AncT.lie (by (refine AncT.cons ?_ ?_;exact zN;refine AncT.cons ?_ ?_;exact zN;refine AncT.app ?_ ?_;refine AncT.tag ?_;exact zN;refine AncT.app ?_ ?_;refine AncT.tag ?_;exact zN;refine AncT.app ?_ ?_;refine AncT.tag ?_;exact zN;refine AncT.app ?_ ?_;refine AncT.tag ?_;exact zN;refine AncT.cons ?_ ?_;exact zN;refine AncT.cons ?_ ?_;exact zN;exact AncT.nil)) (by have hp:=hf2 p hp;simp [fsOf,tsOf,tsNew,tsTag,markAll,Function.comp_def,hp])) (fun w _ hu=>plain_calls14 f hsl w) ?_
       (try simp only [markAll_cons,markAll_app,markAll_tsOf,markAll_tag,markAll_new,markAll_nil])
       ((try simp only [tsOf_cons,tsOf_nil,tsOf_app]);apply qH;rfl;rfl;rfl;apply wantYes;rfl;rfl;(with_reducible rfl);rfl;apply zO;apply zP;exact zN;exact fr_rdW)
       refine DW.callA ug rfl rfl rfl (by (apply wantYes;rfl;rfl;(with_reducible rfl))) rfl inferInstance (by (exact .cons rfl .nil)) (by rw [List.flatMap_cons,hg1];exact List.append_nil _) (fun p hp=>AncT.lie (by (refine AncT.cons ?_ ?_;exact zN;refine AncT.cons ?_ ?_;exact zN;refine AncT.app ?_ ?_;refine AncT.tag ?_;exact zN;refine AncT.app ?_ ?_;refine AncT.tag ?_;exact zN;refine AncT.app ?_ ?_;refine AncT.tag ?_;exact zN;refine AncT.app ?_ ?_;refine AncT.tag ?_;exact zN;refine AncT.cons ?_ ?_;exact zN;refine AncT.cons ?_ ?_;exact zN;exact AncT.nil)) (by have hp:=hg2 p hp;simp [fsOf,tsOf,tsNew,tsTag,markAll,Function.comp_def,hp])) (fun w _ hu=>plain_calls14 G hslG w) ?_
       (try simp only [markAll_cons,markAll_app,markAll_tsOf,markAll_tag,markAll_new,markAll_nil])
       ((try simp only [tsOf_cons,tsOf_nil,tsOf_app]))
       refine DW.callA (pf++pg) rfl rfl rfl (by (apply wantYes;rfl;rfl;(with_reducible rfl))) rfl inferInstance (by (exact .cons rfl (.cons rfl .nil))) (by rw [List.flatMap_cons,List.flatMap_cons,hp1,hq1];simp) (fun p hp=>AncT.lie (by (refine AncT.cons ?_ ?_;exact zN;refine AncT.cons ?_ ?_;exact zN;refine AncT.app ?_ ?_;refine AncT.tag ?_;exact zN;refine AncT.app ?_ ?_;refine AncT.tag ?_;exact zN;refine AncT.app ?_ ?_;refine AncT.tag ?_;exact zN;refine AncT.app ?_ ?_;refine AncT.tag ?_;exact zN;refine AncT.cons ?_ ?_;exact zN;refine AncT.cons ?_ ?_;exact zN;exact AncT.nil)) (by { rcases List.mem_append.1 hp with hp|hp;(have hp:=hp2 p hp;simp [fsOf,tsOf,tsNew,tsTag,markAll,Function.comp_def,hp]);(have hp:=hq2 p hp;simp [fsOf,tsOf,tsNew,tsTag,markAll,Function.comp_def,hp]) })) (fun w _ hu=>by have h:=fSame_calls (plainF f) (plainF G) (plainL L) (plainL LG) hn.plain hnG.plain w (hp3 w fun p hp=>hu p (List.mem_append_left _ hp)) (hq3 w fun p hp=>hu p (List.mem_append_right _ hp));rwa [decide_eq_true hsame] at h) ?_
       (try simp only [markAll_cons,markAll_app,markAll_tsOf,markAll_tag,markAll_new,markAll_nil])
       ((try simp only [tsOf_cons,tsOf_nil,tsOf_app]);refine dwz (.notT rfl (by with_reducible rfl)) ?_;refine dvz (.pickF' rfl (by with_reducible rfl) rfl) ?_;refine dvz (.move rfl)<|dwz (.fieldAddr rfl rfl) ?_;apply qH;rfl;rfl;rfl;apply wantYes;rfl;rfl;(with_reducible rfl);rfl;apply zO;apply zP;exact zN;exact fr_rd4;refine dwz (.fieldAddr rfl rfl) ?_;apply qH;rfl;rfl;rfl;apply wantYes;rfl;rfl;(with_reducible rfl);rfl;apply zO;apply zO;apply zQ;apply zQ;apply zQ;apply zQ;apply zO;apply zP;exact zN;exact fr_rd4;refine dwz (.gtrF rfl rfl (by omega)) ?_;refine dvz (.pickF' rfl (by with_reducible rfl) rfl) ?_;refine dvz (.move rfl)<|dwz (.fieldAddr rfl rfl)<|dwz (.fieldAddr rfl rfl) ?_;apply qH;rfl;rfl;rfl;apply wantYes;rfl;rfl;(with_reducible rfl);rfl;apply zO;apply zP;exact zN;exact hrdG;refine dwz (.lenR rfl inferInstance rfl)<|dwz (.fieldAddr rfl rfl)<|dwz (.fieldAddr rfl rfl) ?_;apply qH;rfl;rfl;rfl;apply wantYes;rfl;rfl;(with_reducible rfl);rfl;apply zO;apply zO;apply zQ;apply zQ;apply zQ;apply zQ;apply zO;apply zP;exact zN;exact hrdF;refine dwz (.lenR rfl inferInstance rfl) ?_;apply DW.nil;simp only [fsOf_cons,fsOf_nil,fsOf_app,fsOf_tsOf,fsOf_new])
       try simp only [fsOf_mark,fsOf_cons,fsOf_nil,fsOf_app,fsOf_tsOf,fsOf_new,fsOf_tag,List.append_eq,List.nil_append]
       (refine gTz ?_;refine lvz (.lssF rfl rfl (by omega)) ?_;refine pFz<|nNz<|cFz<|zJ<|thenN<|zI<|sRz<|vFz<|ldz rfl .head aq_rd0<|nNz<|zM<|sRz ?_;refine lvz (.eqF rfl rfl (by omega)) ?_;refine vAz<|nNz<|cFz<|sRz ?_;refine lvz (.eqT rfl rfl (by omega)) ?_;refine vAz<|nNz<|cTz<|sRz<|vFz<|ldz rfl (.tail .head) fr_rd4<|vFz<|ldz rfl (.tail (.tail (.app (.app (.app (.app (.tail .head))))))) fr_rd4 ?_;refine lvz (.eqF rfl rfl (by omega)) ?_;refine vMz<|gTz<|vFz<|gTz<|ldz rfl (.tail .head) fr_rd1<|gTz<|vFz<|gTz<|ldz rfl (.tail (.tail (.app (.app (.app (.app (.tail .head))))))) fr_rd1<|gTz ?_;refine lvz (.eqT rfl rfl (by omega)) ?_;refine gTz<|vMz<|gTz<|vMz<|gTz ?_;refine lvz (.neF rfl rfl (by omega)) ?_;refine gTz<|pTz<|gTz<|vMz<|gFz<|gFz<|gTz<|pFz<|pFz<|nNz<|cFz<|zJ<|blkN<|thenN ?_;refine zL<|ldz rfl (.tail .head) fr_rdW ?_;apply zR;rfl;rfl;apply qD;apply qD;apply qE;apply qE;apply qE;apply qE;apply qD;apply qA;apply fr_wrW;rfl;exact hslG;apply zV;refine blkN<|thenN<|zL ?_;refine lvz (.addZL rfl rfl (by decide) (by omega)) ?_;refine vMz ?_;apply zV)
       skip
       apply thenX
       exact ⟨rfl,(k+1,G,LG,g1'),⟨hlt,hokG,hnG,hP⟩,by show m - (k+1) < m - k;omega,⟨rfl,rfl,rfl,rfl,rfl,trivial⟩,qU _ (qU _ (List.Sublist.append (qQ _) (hsub _ _)))⟩
      ·subst h87
       (refine vMz ?_;refine vEz ?_;refine vEz ?_;refine vEz ?_;apply zU;rfl;intro _;apply zU;rfl;intro _;apply zR;rfl;rfl;apply qD;apply qA;apply fr_wrW;rfl;exact hslG;apply zR;rfl;rfl;apply qA;apply aq_wrW;rfl;exact hsw;exact hsd;refine vAz<|nNz<|zI<|zI ?_)
       obtain ⟨qF,kF,hmF⟩:=hfr.memv
       obtain ⟨qG,kG,hmG⟩:=hP.memv
       have hrdF:∀ {E fr},Rd Tryz.prog 22 (.cells (fra f) E fr) 3 (.slice qF L.ms.length kF):=fun {E fr}=>by rw [← hmF];exact fr_rd3
       have hrdG:∀ {E fr},Rd Tryz.prog 22 (.cells (fra G) E fr) 3 (.slice qG LG.ms.length kG):=fun {E fr}=>by rw [← hmG];exact fr_rd3
       obtain ⟨uf,hf1,hf2,hf3⟩:=hfr.lie
       obtain ⟨ug,hg1,hg2,hg3⟩:=hP.lie
       obtain ⟨pf,hp1,hp2,hp3⟩:=hfr.plain
       obtain ⟨pg,hq1,hq2,hq3⟩:=hP.plain
       skip
       apply CW.pre
       (refine AnyW.anyM [] 35 mixed (by decide +kernel) ?_)
       ((try simp only [tsOf_cons,tsOf_nil,tsOf_app]);refine dvz (.move rfl) ?_;refine dvz (.neF rfl rfl (by omega)) ?_;refine dvz (.move rfl)<|dwz (.move rfl) ?_;refine dwz (.notT rfl (by with_reducible rfl)) ?_;refine dvz (.pickF' rfl (by with_reducible rfl) rfl) ?_;refine dvz (.move rfl) ?_;apply qH;rfl;rfl;rfl;apply wantYes;rfl;rfl;(with_reducible rfl);rfl;apply zO;apply zP;exact zN;exact fr_rdW)
       refine DW.callA ug rfl rfl rfl (by (apply wantYes;rfl;rfl;(with_reducible rfl))) rfl inferInstance (by (exact .cons rfl .nil)) (by rw [List.flatMap_cons,hg1];exact List.append_nil _) (fun p hp=>AncT.lie (by (refine AncT.cons ?_ ?_;exact zN;refine AncT.cons ?_ ?_;exact zN;refine AncT.app ?_ ?_;exact AncT.tsOf;refine AncT.app ?_ ?_;exact AncT.tsOf;refine AncT.app ?_ ?_;exact AncT.tsOf;refine AncT.app ?_ ?_;exact AncT.tsOf;refine AncT.cons ?_ ?_;exact zN;refine AncT.cons ?_ ?_;exact zN;exact AncT.nil)) (by have hp:=hg2 p hp;simp [fsOf,tsOf,tsNew,tsTag,markAll,Function.comp_def,hp])) (fun w _ hu=>by have h:=fCheck_calls G LG w (hg3 w hu);rwa [if_pos hokG] at h) ?_
       (try simp only [markAll_cons,markAll_app,markAll_tsOf,markAll_tag,markAll_new,markAll_nil])
       ((try simp only [tsOf_cons,tsOf_nil,tsOf_app]);refine dwz (.neF rfl rfl (by omega)) ?_;refine dvz (.pickF' rfl (by with_reducible rfl) rfl) ?_;refine dvz (.move rfl) ?_;apply qH;rfl;rfl;rfl;apply wantYes;rfl;rfl;(with_reducible rfl);rfl;apply zO;apply zO;apply zQ;apply zQ;apply zQ;apply zQ;apply zO;apply zP;exact zN;exact fr_rdW)
       refine DW.callA uf rfl rfl rfl (by (apply wantYes;rfl;rfl;(with_reducible rfl))) rfl inferInstance (by (exact .cons rfl .nil)) (by rw [List.flatMap_cons,hf1];exact List.append_nil _) (fun p hp=>AncT.lie (by (refine AncT.cons ?_ ?_;exact zN;refine AncT.cons ?_ ?_;exact zN;refine AncT.app ?_ ?_;refine AncT.tag ?_;exact zN;refine AncT.app ?_ ?_;refine AncT.tag ?_;exact zN;refine AncT.app ?_ ?_;refine AncT.tag ?_;exact zN;refine AncT.app ?_ ?_;refine AncT.tag ?_;exact zN;refine AncT.cons ?_ ?_;exact zN;refine AncT.cons ?_ ?_;exact zN;exact AncT.nil)) (by have hp:=hf2 p hp;simp [fsOf,tsOf,tsNew,tsTag,markAll,Function.comp_def,hp])) (fun w _ hu=>plain_calls14 f hsl w) ?_
       (try simp only [markAll_cons,markAll_app,markAll_tsOf,markAll_tag,markAll_new,markAll_nil])
       ((try simp only [tsOf_cons,tsOf_nil,tsOf_app]);apply qH;rfl;rfl;rfl;apply wantYes;rfl;rfl;(with_reducible rfl);rfl;apply zO;apply zP;exact zN;exact fr_rdW)
       refine DW.callA ug rfl rfl rfl (by (apply wantYes;rfl;rfl;(with_reducible rfl))) rfl inferInstance (by (exact .cons rfl .nil)) (by rw [List.flatMap_cons,hg1];exact List.append_nil _) (fun p hp=>AncT.lie (by (refine AncT.cons ?_ ?_;exact zN;refine AncT.cons ?_ ?_;exact zN;refine AncT.app ?_ ?_;refine AncT.tag ?_;exact zN;refine AncT.app ?_ ?_;refine AncT.tag ?_;exact zN;refine AncT.app ?_ ?_;refine AncT.tag ?_;exact zN;refine AncT.app ?_ ?_;refine AncT.tag ?_;exact zN;refine AncT.cons ?_ ?_;exact zN;refine AncT.cons ?_ ?_;exact zN;exact AncT.nil)) (by have hp:=hg2 p hp;simp [fsOf,tsOf,tsNew,tsTag,markAll,Function.comp_def,hp])) (fun w _ hu=>plain_calls14 G hslG w) ?_
       (try simp only [markAll_cons,markAll_app,markAll_tsOf,markAll_tag,markAll_new,markAll_nil])
       ((try simp only [tsOf_cons,tsOf_nil,tsOf_app]))
       refine DW.callA (pf++pg) rfl rfl rfl (by (apply wantYes;rfl;rfl;(with_reducible rfl))) rfl inferInstance (by (exact .cons rfl (.cons rfl .nil))) (by rw [List.flatMap_cons,List.flatMap_cons,hp1,hq1];simp) (fun p hp=>AncT.lie (by (refine AncT.cons ?_ ?_;exact zN;refine AncT.cons ?_ ?_;exact zN;refine AncT.app ?_ ?_;refine AncT.tag ?_;exact zN;refine AncT.app ?_ ?_;refine AncT.tag ?_;exact zN;refine AncT.app ?_ ?_;refine AncT.tag ?_;exact zN;refine AncT.app ?_ ?_;refine AncT.tag ?_;exact zN;refine AncT.cons ?_ ?_;exact zN;refine AncT.cons ?_ ?_;exact zN;exact AncT.nil)) (by { rcases List.mem_append.1 hp with hp|hp;(have hp:=hp2 p hp;simp [fsOf,tsOf,tsNew,tsTag,markAll,Function.comp_def,hp]);(have hp:=hq2 p hp;simp [fsOf,tsOf,tsNew,tsTag,markAll,Function.comp_def,hp]) })) (fun w _ hu=>by have h:=fSame_calls (plainF f) (plainF G) (plainL L) (plainL LG) hn.plain hnG.plain w (hp3 w fun p hp=>hu p (List.mem_append_left _ hp)) (hq3 w fun p hp=>hu p (List.mem_append_right _ hp));rwa [decide_eq_true hsame] at h) ?_
       (try simp only [markAll_cons,markAll_app,markAll_tsOf,markAll_tag,markAll_new,markAll_nil])
       ((try simp only [tsOf_cons,tsOf_nil,tsOf_app]);refine dwz (.notT rfl (by with_reducible rfl)) ?_;refine dvz (.pickF' rfl (by with_reducible rfl) rfl) ?_;refine dvz (.move rfl)<|dwz (.fieldAddr rfl rfl) ?_;apply qH;rfl;rfl;rfl;apply wantYes;rfl;rfl;(with_reducible rfl);rfl;apply zO;apply zP;exact zN;exact fr_rd4;refine dwz (.fieldAddr rfl rfl) ?_;apply qH;rfl;rfl;rfl;apply wantYes;rfl;rfl;(with_reducible rfl);rfl;apply zO;apply zO;apply zQ;apply zQ;apply zQ;apply zQ;apply zO;apply zP;exact zN;exact fr_rd4;refine dwz (.gtrF rfl rfl (by omega)) ?_;refine dvz (.pickF' rfl (by with_reducible rfl) rfl) ?_;refine dvz (.move rfl)<|dwz (.fieldAddr rfl rfl)<|dwz (.fieldAddr rfl rfl) ?_;apply qH;rfl;rfl;rfl;apply wantYes;rfl;rfl;(with_reducible rfl);rfl;apply zO;apply zP;exact zN;exact hrdG;refine dwz (.lenR rfl inferInstance rfl)<|dwz (.fieldAddr rfl rfl)<|dwz (.fieldAddr rfl rfl) ?_;apply qH;rfl;rfl;rfl;apply wantYes;rfl;rfl;(with_reducible rfl);rfl;apply zO;apply zO;apply zQ;apply zQ;apply zQ;apply zQ;apply zO;apply zP;exact zN;exact hrdF;refine dwz (.lenR rfl inferInstance rfl) ?_;apply DW.nil;simp only [fsOf_cons,fsOf_nil,fsOf_app,fsOf_tsOf,fsOf_new])
       try simp only [fsOf_mark,fsOf_cons,fsOf_nil,fsOf_app,fsOf_tsOf,fsOf_new,fsOf_tag,List.append_eq,List.nil_append]
       (refine gTz ?_;refine lvz (.lssF rfl rfl (by omega)) ?_;refine pFz<|nNz<|cFz<|zJ<|thenN<|zI<|sRz<|vFz<|ldz rfl .head aq_rd0<|nNz<|zM<|sRz ?_;refine lvz (.eqF rfl rfl (by omega)) ?_;refine vAz<|nNz<|cFz<|sRz ?_;refine lvz (.eqT rfl rfl (by omega)) ?_;refine vAz<|nNz<|cTz<|sRz<|vFz<|ldz rfl (.tail .head) fr_rd4<|vFz<|ldz rfl (.tail (.tail (.app (.app (.app (.app (.tail .head))))))) fr_rd4 ?_;refine lvz (.eqF rfl rfl (by omega)) ?_;refine vMz<|gTz<|vFz<|gTz<|ldz rfl (.tail .head) fr_rd1<|gTz<|vFz<|gTz<|ldz rfl (.tail (.tail (.app (.app (.app (.app (.tail .head))))))) fr_rd1<|gTz ?_;refine lvz (.eqT rfl rfl (by omega)) ?_;refine gTz<|vMz<|gTz<|vMz<|gTz ?_;refine lvz (.neT rfl rfl (by omega)) ?_;refine gTz<|pTz<|gTz<|vMz<|gTz<|vMz<|gTz ?_;refine lvz (.neF rfl rfl (by omega)) ?_;refine gTz<|pTz<|pFz<|nNz<|cFz<|zJ<|blkN<|thenN<|zL<|ldz rfl (.tail .head) fr_rdW ?_;apply zR;rfl;rfl;apply qD;apply qD;apply qE;apply qE;apply qE;apply qE;apply qD;apply qA;apply fr_wrW;rfl;exact hslG;apply zV;refine blkN<|thenN<|zL ?_;refine lvz (.addZL rfl rfl (by decide) (by omega)) ?_;refine vMz ?_;apply zV)
       skip
       apply thenX
       exact ⟨rfl,(k+1,G,LG,g1'),⟨hlt,hokG,hnG,hP⟩,by show m - (k+1) < m - k;omega,⟨rfl,rfl,rfl,rfl,rfl,trivial⟩,qU _ (qU _ (List.Sublist.append (qQ _) (hsub _ _)))⟩
     ·clear hcs
      (refine vMz ?_;refine vEz ?_;refine vEz ?_;refine vEz ?_;apply zU;rfl;intro _;apply zU;rfl;intro _;apply zR;rfl;rfl;apply qD;apply qA;apply fr_wrW;rfl;exact hslG;apply zR;rfl;rfl;apply qA;apply aq_wrW;rfl;exact hsw;exact hsd;refine vAz<|nNz<|zI<|zI ?_)
      obtain ⟨qF,kF,hmF⟩:=hfr.memv
      obtain ⟨qG,kG,hmG⟩:=hP.memv
      have hrdF:∀ {E fr},Rd Tryz.prog 22 (.cells (fra f) E fr) 3 (.slice qF L.ms.length kF):=fun {E fr}=>by rw [← hmF];exact fr_rd3
      have hrdG:∀ {E fr},Rd Tryz.prog 22 (.cells (fra G) E fr) 3 (.slice qG LG.ms.length kG):=fun {E fr}=>by rw [← hmG];exact fr_rd3
      obtain ⟨uf,hf1,hf2,hf3⟩:=hfr.lie
      obtain ⟨ug,hg1,hg2,hg3⟩:=hP.lie
      obtain ⟨pf,hp1,hp2,hp3⟩:=hfr.plain
      obtain ⟨pg,hq1,hq2,hq3⟩:=hP.plain
      skip
      apply CW.pre
      (refine AnyW.anyM [] 35 mixed (by decide +kernel) ?_)
      ((try simp only [tsOf_cons,tsOf_nil,tsOf_app]);refine dvz (.move rfl) ?_;refine dvz (.neF rfl rfl (by omega)) ?_;refine dvz (.move rfl)<|dwz (.move rfl) ?_;refine dwz (.notT rfl (by with_reducible rfl)) ?_;refine dvz (.pickF' rfl (by with_reducible rfl) rfl) ?_;refine dvz (.move rfl) ?_;apply qH;rfl;rfl;rfl;apply wantYes;rfl;rfl;(with_reducible rfl);rfl;apply zO;apply zP;exact zN;exact fr_rdW)
      refine DW.callA ug rfl rfl rfl (by (apply wantYes;rfl;rfl;(with_reducible rfl))) rfl inferInstance (by (exact .cons rfl .nil)) (by rw [List.flatMap_cons,hg1];exact List.append_nil _) (fun p hp=>AncT.lie (by (refine AncT.cons ?_ ?_;exact zN;refine AncT.cons ?_ ?_;exact zN;refine AncT.app ?_ ?_;exact AncT.tsOf;refine AncT.app ?_ ?_;exact AncT.tsOf;refine AncT.app ?_ ?_;exact AncT.tsOf;refine AncT.app ?_ ?_;exact AncT.tsOf;refine AncT.cons ?_ ?_;exact zN;refine AncT.cons ?_ ?_;exact zN;exact AncT.nil)) (by have hp:=hg2 p hp;simp [fsOf,tsOf,tsNew,tsTag,markAll,Function.comp_def,hp])) (fun w _ hu=>by have h:=fCheck_calls G LG w (hg3 w hu);rwa [if_pos hokG] at h) ?_
      (try simp only [markAll_cons,markAll_app,markAll_tsOf,markAll_tag,markAll_new,markAll_nil])
      ((try simp only [tsOf_cons,tsOf_nil,tsOf_app]);refine dwz (.neF rfl rfl (by omega)) ?_;refine dvz (.pickF' rfl (by with_reducible rfl) rfl) ?_;refine dvz (.move rfl) ?_;apply qH;rfl;rfl;rfl;apply wantYes;rfl;rfl;(with_reducible rfl);rfl;apply zO;apply zO;apply zQ;apply zQ;apply zQ;apply zQ;apply zO;apply zP;exact zN;exact fr_rdW)
      refine DW.callA uf rfl rfl rfl (by (apply wantYes;rfl;rfl;(with_reducible rfl))) rfl inferInstance (by (exact .cons rfl .nil)) (by rw [List.flatMap_cons,hf1];exact List.append_nil _) (fun p hp=>AncT.lie (by (refine AncT.cons ?_ ?_;exact zN;refine AncT.cons ?_ ?_;exact zN;refine AncT.app ?_ ?_;refine AncT.tag ?_;exact zN;refine AncT.app ?_ ?_;refine AncT.tag ?_;exact zN;refine AncT.app ?_ ?_;refine AncT.tag ?_;exact zN;refine AncT.app ?_ ?_;refine AncT.tag ?_;exact zN;refine AncT.cons ?_ ?_;exact zN;refine AncT.cons ?_ ?_;exact zN;exact AncT.nil)) (by have hp:=hf2 p hp;simp [fsOf,tsOf,tsNew,tsTag,markAll,Function.comp_def,hp])) (fun w _ hu=>plain_calls14 f hsl w) ?_
      (try simp only [markAll_cons,markAll_app,markAll_tsOf,markAll_tag,markAll_new,markAll_nil])
      ((try simp only [tsOf_cons,tsOf_nil,tsOf_app]);apply qH;rfl;rfl;rfl;apply wantYes;rfl;rfl;(with_reducible rfl);rfl;apply zO;apply zP;exact zN;exact fr_rdW)
      refine DW.callA ug rfl rfl rfl (by (apply wantYes;rfl;rfl;(with_reducible rfl))) rfl inferInstance (by (exact .cons rfl .nil)) (by rw [List.flatMap_cons,hg1];exact List.append_nil _) (fun p hp=>AncT.lie (by (refine AncT.cons ?_ ?_;exact zN;refine AncT.cons ?_ ?_;exact zN;refine AncT.app ?_ ?_;refine AncT.tag ?_;exact zN;refine AncT.app ?_ ?_;refine AncT.tag ?_;exact zN;refine AncT.app ?_ ?_;refine AncT.tag ?_;exact zN;refine AncT.app ?_ ?_;refine AncT.tag ?_;exact zN;refine AncT.cons ?_ ?_;exact zN;refine AncT.cons ?_ ?_;exact zN;exact AncT.nil)) (by have hp:=hg2 p hp;simp [fsOf,tsOf,tsNew,tsTag,markAll,Function.comp_def,hp])) (fun w _ hu=>plain_calls14 G hslG w) ?_
      (try simp only [markAll_cons,markAll_app,markAll_tsOf,markAll_tag,markAll_new,markAll_nil])
      ((try simp only [tsOf_cons,tsOf_nil,tsOf_app]))
      refine DW.callA (pf++pg) rfl rfl rfl (by (apply wantYes;rfl;rfl;(with_reducible rfl))) rfl inferInstance (by (exact .cons rfl (.cons rfl .nil))) (by rw [List.flatMap_cons,List.flatMap_cons,hp1,hq1];simp) (fun p hp=>AncT.lie (by (refine AncT.cons ?_ ?_;exact zN;refine AncT.cons ?_ ?_;exact zN;refine AncT.app ?_ ?_;refine AncT.tag ?_;exact zN;refine AncT.app ?_ ?_;refine AncT.tag ?_;exact zN;refine AncT.app ?_ ?_;refine AncT.tag ?_;exact zN;refine AncT.app ?_ ?_;refine AncT.tag ?_;exact zN;refine AncT.cons ?_ ?_;exact zN;refine AncT.cons ?_ ?_;exact zN;exact AncT.nil)) (by { rcases List.mem_append.1 hp with hp|hp;(have hp:=hp2 p hp;simp [fsOf,tsOf,tsNew,tsTag,markAll,Function.comp_def,hp]);(have hp:=hq2 p hp;simp [fsOf,tsOf,tsNew,tsTag,markAll,Function.comp_def,hp]) })) (fun w _ hu=>by have h:=fSame_calls (plainF f) (plainF G) (plainL L) (plainL LG) hn.plain hnG.plain w (hp3 w fun p hp=>hu p (List.mem_append_left _ hp)) (hq3 w fun p hp=>hu p (List.mem_append_right _ hp));rwa [decide_eq_true hsame] at h) ?_
      (try simp only [markAll_cons,markAll_app,markAll_tsOf,markAll_tag,markAll_new,markAll_nil])
      ((try simp only [tsOf_cons,tsOf_nil,tsOf_app]);refine dwz (.notT rfl (by with_reducible rfl)) ?_;refine dvz (.pickF' rfl (by with_reducible rfl) rfl) ?_;refine dvz (.move rfl)<|dwz (.fieldAddr rfl rfl) ?_;apply qH;rfl;rfl;rfl;apply wantYes;rfl;rfl;(with_reducible rfl);rfl;apply zO;apply zP;exact zN;exact fr_rd4;refine dwz (.fieldAddr rfl rfl) ?_;apply qH;rfl;rfl;rfl;apply wantYes;rfl;rfl;(with_reducible rfl);rfl;apply zO;apply zO;apply zQ;apply zQ;apply zQ;apply zQ;apply zO;apply zP;exact zN;exact fr_rd4;refine dwz (.gtrF rfl rfl (by omega)) ?_;refine dvz (.pickF' rfl (by with_reducible rfl) rfl) ?_;refine dvz (.move rfl)<|dwz (.fieldAddr rfl rfl)<|dwz (.fieldAddr rfl rfl) ?_;apply qH;rfl;rfl;rfl;apply wantYes;rfl;rfl;(with_reducible rfl);rfl;apply zO;apply zP;exact zN;exact hrdG;refine dwz (.lenR rfl inferInstance rfl)<|dwz (.fieldAddr rfl rfl)<|dwz (.fieldAddr rfl rfl) ?_;apply qH;rfl;rfl;rfl;apply wantYes;rfl;rfl;(with_reducible rfl);rfl;apply zO;apply zO;apply zQ;apply zQ;apply zQ;apply zQ;apply zO;apply zP;exact zN;exact hrdF;refine dwz (.lenR rfl inferInstance rfl) ?_;apply DW.nil;simp only [fsOf_cons,fsOf_nil,fsOf_app,fsOf_tsOf,fsOf_new])
      try simp only [fsOf_mark,fsOf_cons,fsOf_nil,fsOf_app,fsOf_tsOf,fsOf_new,fsOf_tag,List.append_eq,List.nil_append]
      (refine gTz ?_;refine lvz (.lssF rfl rfl (by omega)) ?_;refine pFz<|nNz<|cFz<|zJ<|thenN<|zI<|sRz<|vFz<|ldz rfl .head aq_rd0<|nNz<|zM<|sRz ?_;refine lvz (.eqF rfl rfl (by omega)) ?_;refine vAz<|nNz<|cFz<|sRz ?_;refine lvz (.eqT rfl rfl (by omega)) ?_;refine vAz<|nNz<|cTz<|sRz<|vFz<|ldz rfl (.tail .head) fr_rd4<|vFz<|ldz rfl (.tail (.tail (.app (.app (.app (.app (.tail .head))))))) fr_rd4 ?_;refine lvz (.eqF rfl rfl (by omega)) ?_;refine vMz<|gTz<|vFz<|gTz<|ldz rfl (.tail .head) fr_rd1<|gTz<|vFz<|gTz<|ldz rfl (.tail (.tail (.app (.app (.app (.app (.tail .head))))))) fr_rd1<|gTz ?_;refine lvz (.eqF rfl rfl (by omega)) ?_;refine gTz<|vMz<|gFz<|gFz<|gTz<|pFz<|gTz<|vMz<|gFz<|gFz<|gTz<|pFz<|pFz<|nNz ?_;refine cFz<|zJ<|blkN<|thenN<|zL<|ldz rfl (.tail .head) fr_rdW ?_;apply zR;rfl;rfl;apply qD;apply qD;apply qE;apply qE;apply qE;apply qE;apply qD;apply qA;apply fr_wrW;rfl;exact hslG;apply zV;refine blkN<|thenN<|zL ?_;refine lvz (.addZL rfl rfl (by decide) (by omega)) ?_;refine vMz ?_;apply zV)
      skip
      apply thenX
      exact ⟨rfl,(k+1,G,LG,g1'),⟨hlt,hokG,hnG,hP⟩,by show m - (k+1) < m - k;omega,⟨rfl,rfl,rfl,rfl,rfl,trivial⟩,qU _ (qU _ (List.Sublist.append (qQ _) (hsub _ _)))⟩
    ·by_cases k1:kd=1
     ·subst k1
      obtain ⟨rfl,rfl⟩:=hcall2 (.inl rfl)
      (refine vMz ?_;refine vEz ?_;refine vEz ?_;refine vEz ?_;apply zU;rfl;intro _;apply zU;rfl;intro _;apply zR;rfl;rfl;apply qD;apply qA;apply fr_wrW;rfl;exact hslG;apply zR;rfl;rfl;apply qA;apply aq_wrW;rfl;exact hsw;exact hsd;refine vAz<|nNz<|zI<|zI ?_)
      obtain ⟨qF,kF,hmF⟩:=hfr.memv
      obtain ⟨qG,kG,hmG⟩:=hP.memv
      have hrdF:∀ {E fr},Rd Tryz.prog 22 (.cells (fra f) E fr) 3 (.slice qF L.ms.length kF):=fun {E fr}=>by rw [← hmF];exact fr_rd3
      have hrdG:∀ {E fr},Rd Tryz.prog 22 (.cells (fra G) E fr) 3 (.slice qG LG.ms.length kG):=fun {E fr}=>by rw [← hmG];exact fr_rd3
      obtain ⟨uf,hf1,hf2,hf3⟩:=hfr.lie
      obtain ⟨ug,hg1,hg2,hg3⟩:=hP.lie
      obtain ⟨pf,hp1,hp2,hp3⟩:=hfr.plain
      obtain ⟨pg,hq1,hq2,hq3⟩:=hP.plain
      skip
      apply CW.pre
      (refine AnyW.anyM [] 35 mixed (by decide +kernel) ?_)
      ((try simp only [tsOf_cons,tsOf_nil,tsOf_app]);refine dvz (.move rfl) ?_;refine dvz (.neF rfl rfl (by omega)) ?_;refine dvz (.move rfl)<|dwz (.move rfl) ?_;refine dwz (.notT rfl (by with_reducible rfl)) ?_;refine dvz (.pickF' rfl (by with_reducible rfl) rfl) ?_;refine dvz (.move rfl) ?_;apply qH;rfl;rfl;rfl;apply wantYes;rfl;rfl;(with_reducible rfl);rfl;apply zO;apply zP;exact zN;exact fr_rdW)
      refine DW.callA ug rfl rfl rfl (by (apply wantYes;rfl;rfl;(with_reducible rfl))) rfl inferInstance (by (exact .cons rfl .nil)) (by rw [List.flatMap_cons,hg1];exact List.append_nil _) (fun p hp=>AncT.lie (by (refine AncT.cons ?_ ?_;exact zN;refine AncT.cons ?_ ?_;exact zN;refine AncT.app ?_ ?_;exact AncT.tsOf;refine AncT.app ?_ ?_;exact AncT.tsOf;refine AncT.app ?_ ?_;exact AncT.tsOf;refine AncT.app ?_ ?_;exact AncT.tsOf;refine AncT.cons ?_ ?_;exact zN;refine AncT.cons ?_ ?_;exact zN;exact AncT.nil)) (by have hp:=hg2 p hp;simp [fsOf,tsOf,tsNew,tsTag,markAll,Function.comp_def,hp])) (fun w _ hu=>by have h:=fCheck_calls G LG w (hg3 w hu);rwa [if_pos hokG] at h) ?_
      (try simp only [markAll_cons,markAll_app,markAll_tsOf,markAll_tag,markAll_new,markAll_nil])
      ((try simp only [tsOf_cons,tsOf_nil,tsOf_app]);refine dwz (.neF rfl rfl (by omega)) ?_;refine dvz (.pickF' rfl (by with_reducible rfl) rfl) ?_;refine dvz (.move rfl) ?_;apply qH;rfl;rfl;rfl;apply wantYes;rfl;rfl;(with_reducible rfl);rfl;apply zO;apply zO;apply zQ;apply zQ;apply zQ;apply zQ;apply zO;apply zP;exact zN;exact fr_rdW)
      refine DW.callA uf rfl rfl rfl (by (apply wantYes;rfl;rfl;(with_reducible rfl))) rfl inferInstance (by (exact .cons rfl .nil)) (by rw [List.flatMap_cons,hf1];exact List.append_nil _) (fun p hp=>AncT.lie (by (refine AncT.cons ?_ ?_;exact zN;refine AncT.cons ?_ ?_;exact zN;refine AncT.app ?_ ?_;refine AncT.tag ?_;exact zN;refine AncT.app ?_ ?_;refine AncT.tag ?_;exact zN;refine AncT.app ?_ ?_;refine AncT.tag ?_;exact zN;refine AncT.app ?_ ?_;refine AncT.tag ?_;exact zN;refine AncT.cons ?_ ?_;exact zN;refine AncT.cons ?_ ?_;exact zN;exact AncT.nil)) (by have hp:=hf2 p hp;simp [fsOf,tsOf,tsNew,tsTag,markAll,Function.comp_def,hp])) (fun w _ hu=>plain_calls14 f hsl w) ?_
      (try simp only [markAll_cons,markAll_app,markAll_tsOf,markAll_tag,markAll_new,markAll_nil])
      ((try simp only [tsOf_cons,tsOf_nil,tsOf_app]);apply qH;rfl;rfl;rfl;apply wantYes;rfl;rfl;(with_reducible rfl);rfl;apply zO;apply zP;exact zN;exact fr_rdW)
      refine DW.callA ug rfl rfl rfl (by (apply wantYes;rfl;rfl;(with_reducible rfl))) rfl inferInstance (by (exact .cons rfl .nil)) (by rw [List.flatMap_cons,hg1];exact List.append_nil _) (fun p hp=>AncT.lie (by (refine AncT.cons ?_ ?_;exact zN;refine AncT.cons ?_ ?_;exact zN;refine AncT.app ?_ ?_;refine AncT.tag ?_;exact zN;refine AncT.app ?_ ?_;refine AncT.tag ?_;exact zN;refine AncT.app ?_ ?_;refine AncT.tag ?_;exact zN;refine AncT.app ?_ ?_;refine AncT.tag ?_;exact zN;refine AncT.cons ?_ ?_;exact zN;refine AncT.cons ?_ ?_;exact zN;exact AncT.nil)) (by have hp:=hg2 p hp;simp [fsOf,tsOf,tsNew,tsTag,markAll,Function.comp_def,hp])) (fun w _ hu=>plain_calls14 G hslG w) ?_
      (try simp only [markAll_cons,markAll_app,markAll_tsOf,markAll_tag,markAll_new,markAll_nil])
      ((try simp only [tsOf_cons,tsOf_nil,tsOf_app]))
      refine DW.callA (pf++pg) rfl rfl rfl (by (apply wantYes;rfl;rfl;(with_reducible rfl))) rfl inferInstance (by (exact .cons rfl (.cons rfl .nil))) (by rw [List.flatMap_cons,List.flatMap_cons,hp1,hq1];simp) (fun p hp=>AncT.lie (by (refine AncT.cons ?_ ?_;exact zN;refine AncT.cons ?_ ?_;exact zN;refine AncT.app ?_ ?_;refine AncT.tag ?_;exact zN;refine AncT.app ?_ ?_;refine AncT.tag ?_;exact zN;refine AncT.app ?_ ?_;refine AncT.tag ?_;exact zN;refine AncT.app ?_ ?_;refine AncT.tag ?_;exact zN;refine AncT.cons ?_ ?_;exact zN;refine AncT.cons ?_ ?_;exact zN;exact AncT.nil)) (by { rcases List.mem_append.1 hp with hp|hp;(have hp:=hp2 p hp;simp [fsOf,tsOf,tsNew,tsTag,markAll,Function.comp_def,hp]);(have hp:=hq2 p hp;simp [fsOf,tsOf,tsNew,tsTag,markAll,Function.comp_def,hp]) })) (fun w _ hu=>by have h:=fSame_calls (plainF f) (plainF G) (plainL L) (plainL LG) hn.plain hnG.plain w (hp3 w fun p hp=>hu p (List.mem_append_left _ hp)) (hq3 w fun p hp=>hu p (List.mem_append_right _ hp));rwa [decide_eq_true hsame] at h) ?_
      (try simp only [markAll_cons,markAll_app,markAll_tsOf,markAll_tag,markAll_new,markAll_nil])
      ((try simp only [tsOf_cons,tsOf_nil,tsOf_app]);refine dwz (.notT rfl (by with_reducible rfl)) ?_;refine dvz (.pickF' rfl (by with_reducible rfl) rfl) ?_;refine dvz (.move rfl)<|dwz (.fieldAddr rfl rfl) ?_;apply qH;rfl;rfl;rfl;apply wantYes;rfl;rfl;(with_reducible rfl);rfl;apply zO;apply zP;exact zN;exact fr_rd4;refine dwz (.fieldAddr rfl rfl) ?_;apply qH;rfl;rfl;rfl;apply wantYes;rfl;rfl;(with_reducible rfl);rfl;apply zO;apply zO;apply zQ;apply zQ;apply zQ;apply zQ;apply zO;apply zP;exact zN;exact fr_rd4;refine dwz (.gtrF rfl rfl (by omega)) ?_;refine dvz (.pickF' rfl (by with_reducible rfl) rfl) ?_;refine dvz (.move rfl)<|dwz (.fieldAddr rfl rfl)<|dwz (.fieldAddr rfl rfl) ?_;apply qH;rfl;rfl;rfl;apply wantYes;rfl;rfl;(with_reducible rfl);rfl;apply zO;apply zP;exact zN;exact hrdG;refine dwz (.lenR rfl inferInstance rfl)<|dwz (.fieldAddr rfl rfl)<|dwz (.fieldAddr rfl rfl) ?_;apply qH;rfl;rfl;rfl;apply wantYes;rfl;rfl;(with_reducible rfl);rfl;apply zO;apply zO;apply zQ;apply zQ;apply zQ;apply zQ;apply zO;apply zP;exact zN;exact hrdF;refine dwz (.lenR rfl inferInstance rfl) ?_;apply DW.nil;simp only [fsOf_cons,fsOf_nil,fsOf_app,fsOf_tsOf,fsOf_new])
      try simp only [fsOf_mark,fsOf_cons,fsOf_nil,fsOf_app,fsOf_tsOf,fsOf_new,fsOf_tag,List.append_eq,List.nil_append]
      (refine gTz ?_;refine lvz (.lssF rfl rfl (by omega)) ?_;refine pFz<|nNz<|cFz<|zJ<|thenN<|zI<|sRz<|vFz<|ldz rfl .head aq_rd0<|nNz<|zM<|sRz ?_;refine lvz (.eqF rfl rfl (by omega)) ?_;refine vAz<|nNz<|cFz<|sRz ?_;refine lvz (.eqF rfl rfl (by omega)) ?_;refine vAz<|nNz<|cFz<|zI<|sRz ?_;refine lvz (.eqT rfl rfl (by omega)) ?_;refine vAz<|nNz<|cTz<|zJ<|thenN<|cTz<|sRz<|vFz<|ldz rfl .head aq_rd1<|vMz ?_;refine lvz (.neF rfl rfl (by omega)) ?_;refine vMz<|gTz<|vFz<|gTz<|ldz rfl .head aq_rd3<|gTz<|lvz (.lenR rfl inferInstance rfl)<|gTz ?_;refine lvz (.neF rfl rfl (by omega)) ?_;refine pFz<|nNz<|cFz<|zJ<|blkN<|thenN<|zL<|ldz rfl (.tail .head) fr_rdW ?_;apply zR;rfl;rfl;apply qD;apply qD;apply qE;apply qE;apply qE;apply qE;apply qD;apply qA;apply fr_wrW;rfl;exact hslG;apply zV;refine blkN<|thenN<|zL ?_;refine lvz (.addZL rfl rfl (by decide) (by omega)) ?_;refine vMz ?_;apply zV)
      skip
      apply thenX
      exact ⟨rfl,(k+1,G,LG,g1'),⟨hlt,hokG,hnG,hP⟩,by show m - (k+1) < m - k;omega,⟨rfl,rfl,rfl,rfl,rfl,trivial⟩,qU _ (qU _ (List.Sublist.append (qQ _) (hsub _ _)))⟩
     ·by_cases k2:kd=2
      ·subst k2
       obtain ⟨rfl,rfl⟩:=hcall2 (.inr rfl)
       (refine vMz ?_;refine vEz ?_;refine vEz ?_;refine vEz ?_;apply zU;rfl;intro _;apply zU;rfl;intro _;apply zR;rfl;rfl;apply qD;apply qA;apply fr_wrW;rfl;exact hslG;apply zR;rfl;rfl;apply qA;apply aq_wrW;rfl;exact hsw;exact hsd;refine vAz<|nNz<|zI<|zI ?_)
       obtain ⟨qF,kF,hmF⟩:=hfr.memv
       obtain ⟨qG,kG,hmG⟩:=hP.memv
       have hrdF:∀ {E fr},Rd Tryz.prog 22 (.cells (fra f) E fr) 3 (.slice qF L.ms.length kF):=fun {E fr}=>by rw [← hmF];exact fr_rd3
       have hrdG:∀ {E fr},Rd Tryz.prog 22 (.cells (fra G) E fr) 3 (.slice qG LG.ms.length kG):=fun {E fr}=>by rw [← hmG];exact fr_rd3
       obtain ⟨uf,hf1,hf2,hf3⟩:=hfr.lie
       obtain ⟨ug,hg1,hg2,hg3⟩:=hP.lie
       obtain ⟨pf,hp1,hp2,hp3⟩:=hfr.plain
       obtain ⟨pg,hq1,hq2,hq3⟩:=hP.plain
       skip
       apply CW.pre
       (refine AnyW.anyM [] 35 mixed (by decide +kernel) ?_)
       ((try simp only [tsOf_cons,tsOf_nil,tsOf_app]);refine dvz (.move rfl) ?_;refine dvz (.neF rfl rfl (by omega)) ?_;refine dvz (.move rfl)<|dwz (.move rfl) ?_;refine dwz (.notT rfl (by with_reducible rfl)) ?_;refine dvz (.pickF' rfl (by with_reducible rfl) rfl) ?_;refine dvz (.move rfl) ?_;apply qH;rfl;rfl;rfl;apply wantYes;rfl;rfl;(with_reducible rfl);rfl;apply zO;apply zP;exact zN;exact fr_rdW)
       refine DW.callA ug rfl rfl rfl (by (apply wantYes;rfl;rfl;(with_reducible rfl))) rfl inferInstance (by (exact .cons rfl .nil)) (by rw [List.flatMap_cons,hg1];exact List.append_nil _) (fun p hp=>AncT.lie (by (refine AncT.cons ?_ ?_;exact zN;refine AncT.cons ?_ ?_;exact zN;refine AncT.app ?_ ?_;exact AncT.tsOf;refine AncT.app ?_ ?_;exact AncT.tsOf;refine AncT.app ?_ ?_;exact AncT.tsOf;refine AncT.app ?_ ?_;exact AncT.tsOf;refine AncT.cons ?_ ?_;exact zN;refine AncT.cons ?_ ?_;exact zN;exact AncT.nil)) (by have hp:=hg2 p hp;simp [fsOf,tsOf,tsNew,tsTag,markAll,Function.comp_def,hp])) (fun w _ hu=>by have h:=fCheck_calls G LG w (hg3 w hu);rwa [if_pos hokG] at h) ?_
       (try simp only [markAll_cons,markAll_app,markAll_tsOf,markAll_tag,markAll_new,markAll_nil])
       ((try simp only [tsOf_cons,tsOf_nil,tsOf_app]);refine dwz (.neF rfl rfl (by omega)) ?_;refine dvz (.pickF' rfl (by with_reducible rfl) rfl) ?_;refine dvz (.move rfl) ?_;apply qH;rfl;rfl;rfl;apply wantYes;rfl;rfl;(with_reducible rfl);rfl;apply zO;apply zO;apply zQ;apply zQ;apply zQ;apply zQ;apply zO;apply zP;exact zN;exact fr_rdW)
       refine DW.callA uf rfl rfl rfl (by (apply wantYes;rfl;rfl;(with_reducible rfl))) rfl inferInstance (by (exact .cons rfl .nil)) (by rw [List.flatMap_cons,hf1];exact List.append_nil _) (fun p hp=>AncT.lie (by (refine AncT.cons ?_ ?_;exact zN;refine AncT.cons ?_ ?_;exact zN;refine AncT.app ?_ ?_;refine AncT.tag ?_;exact zN;refine AncT.app ?_ ?_;refine AncT.tag ?_;exact zN;refine AncT.app ?_ ?_;refine AncT.tag ?_;exact zN;refine AncT.app ?_ ?_;refine AncT.tag ?_;exact zN;refine AncT.cons ?_ ?_;exact zN;refine AncT.cons ?_ ?_;exact zN;exact AncT.nil)) (by have hp:=hf2 p hp;simp [fsOf,tsOf,tsNew,tsTag,markAll,Function.comp_def,hp])) (fun w _ hu=>plain_calls14 f hsl w) ?_
       (try simp only [markAll_cons,markAll_app,markAll_tsOf,markAll_tag,markAll_new,markAll_nil])
       ((try simp only [tsOf_cons,tsOf_nil,tsOf_app]);apply qH;rfl;rfl;rfl;apply wantYes;rfl;rfl;(with_reducible rfl);rfl;apply zO;apply zP;exact zN;exact fr_rdW)
       refine DW.callA ug rfl rfl rfl (by (apply wantYes;rfl;rfl;(with_reducible rfl))) rfl inferInstance (by (exact .cons rfl .nil)) (by rw [List.flatMap_cons,hg1];exact List.append_nil _) (fun p hp=>AncT.lie (by (refine AncT.cons ?_ ?_;exact zN;refine AncT.cons ?_ ?_;exact zN;refine AncT.app ?_ ?_;refine AncT.tag ?_;exact zN;refine AncT.app ?_ ?_;refine AncT.tag ?_;exact zN;refine AncT.app ?_ ?_;refine AncT.tag ?_;exact zN;refine AncT.app ?_ ?_;refine AncT.tag ?_;exact zN;refine AncT.cons ?_ ?_;exact zN;refine AncT.cons ?_ ?_;exact zN;exact AncT.nil)) (by have hp:=hg2 p hp;simp [fsOf,tsOf,tsNew,tsTag,markAll,Function.comp_def,hp])) (fun w _ hu=>plain_calls14 G hslG w) ?_
       (try simp only [markAll_cons,markAll_app,markAll_tsOf,markAll_tag,markAll_new,markAll_nil])
       ((try simp only [tsOf_cons,tsOf_nil,tsOf_app]))
       refine DW.callA (pf++pg) rfl rfl rfl (by (apply wantYes;rfl;rfl;(with_reducible rfl))) rfl inferInstance (by (exact .cons rfl (.cons rfl .nil))) (by rw [List.flatMap_cons,List.flatMap_cons,hp1,hq1];simp) (fun p hp=>AncT.lie (by (refine AncT.cons ?_ ?_;exact zN;refine AncT.cons ?_ ?_;exact zN;refine AncT.app ?_ ?_;refine AncT.tag ?_;exact zN;refine AncT.app ?_ ?_;refine AncT.tag ?_;exact zN;refine AncT.app ?_ ?_;refine AncT.tag ?_;exact zN;refine AncT.app ?_ ?_;refine AncT.tag ?_;exact zN;refine AncT.cons ?_ ?_;exact zN;refine AncT.cons ?_ ?_;exact zN;exact AncT.nil)) (by { rcases List.mem_append.1 hp with hp|hp;(have hp:=hp2 p hp;simp [fsOf,tsOf,tsNew,tsTag,markAll,Function.comp_def,hp]);(have hp:=hq2 p hp;simp [fsOf,tsOf,tsNew,tsTag,markAll,Function.comp_def,hp]) })) (fun w _ hu=>by have h:=fSame_calls (plainF f) (plainF G) (plainL L) (plainL LG) hn.plain hnG.plain w (hp3 w fun p hp=>hu p (List.mem_append_left _ hp)) (hq3 w fun p hp=>hu p (List.mem_append_right _ hp));rwa [decide_eq_true hsame] at h) ?_
       (try simp only [markAll_cons,markAll_app,markAll_tsOf,markAll_tag,markAll_new,markAll_nil])
       ((try simp only [tsOf_cons,tsOf_nil,tsOf_app]);refine dwz (.notT rfl (by with_reducible rfl)) ?_;refine dvz (.pickF' rfl (by with_reducible rfl) rfl) ?_;refine dvz (.move rfl)<|dwz (.fieldAddr rfl rfl) ?_;apply qH;rfl;rfl;rfl;apply wantYes;rfl;rfl;(with_reducible rfl);rfl;apply zO;apply zP;exact zN;exact fr_rd4;refine dwz (.fieldAddr rfl rfl) ?_;apply qH;rfl;rfl;rfl;apply wantYes;rfl;rfl;(with_reducible rfl);rfl;apply zO;apply zO;apply zQ;apply zQ;apply zQ;apply zQ;apply zO;apply zP;exact zN;exact fr_rd4;refine dwz (.gtrF rfl rfl (by omega)) ?_;refine dvz (.pickF' rfl (by with_reducible rfl) rfl) ?_;refine dvz (.move rfl)<|dwz (.fieldAddr rfl rfl)<|dwz (.fieldAddr rfl rfl) ?_;apply qH;rfl;rfl;rfl;apply wantYes;rfl;rfl;(with_reducible rfl);rfl;apply zO;apply zP;exact zN;exact hrdG;refine dwz (.lenR rfl inferInstance rfl)<|dwz (.fieldAddr rfl rfl)<|dwz (.fieldAddr rfl rfl) ?_;apply qH;rfl;rfl;rfl;apply wantYes;rfl;rfl;(with_reducible rfl);rfl;apply zO;apply zO;apply zQ;apply zQ;apply zQ;apply zQ;apply zO;apply zP;exact zN;exact hrdF;refine dwz (.lenR rfl inferInstance rfl) ?_;apply DW.nil;simp only [fsOf_cons,fsOf_nil,fsOf_app,fsOf_tsOf,fsOf_new])
       try simp only [fsOf_mark,fsOf_cons,fsOf_nil,fsOf_app,fsOf_tsOf,fsOf_new,fsOf_tag,List.append_eq,List.nil_append]
       (refine gTz ?_;refine lvz (.lssF rfl rfl (by omega)) ?_;refine pFz<|nNz<|cFz<|zJ<|thenN<|zI<|sRz<|vFz<|ldz rfl .head aq_rd0<|nNz<|zM<|sRz ?_;refine lvz (.eqF rfl rfl (by omega)) ?_;refine vAz<|nNz<|cFz<|sRz ?_;refine lvz (.eqF rfl rfl (by omega)) ?_;refine vAz<|nNz<|cFz<|zI<|sRz ?_;refine lvz (.eqF rfl rfl (by omega)) ?_;refine vAz<|nNz<|cFz<|zL ?_;refine lvz (.eqT rfl rfl (by omega)) ?_;refine vAz<|nNz<|cTz<|sRz<|vFz<|ldz rfl .head aq_rd1<|vMz ?_;refine lvz (.neF rfl rfl (by omega)) ?_;refine vMz<|gTz<|vFz<|gTz<|ldz rfl .head aq_rd3<|gTz<|lvz (.lenR rfl inferInstance rfl)<|gTz ?_;refine lvz (.neF rfl rfl (by omega)) ?_;refine pFz<|nNz<|cFz<|zJ<|blkN<|thenN<|zL<|ldz rfl (.tail .head) fr_rdW ?_;apply zR;rfl;rfl;apply qD;apply qD;apply qE;apply qE;apply qE;apply qE;apply qD;apply qA;apply fr_wrW;rfl;exact hslG;apply zV;refine blkN<|thenN<|zL ?_;refine lvz (.addZL rfl rfl (by decide) (by omega)) ?_;refine vMz ?_;apply zV)
       skip
       apply thenX
       exact ⟨rfl,(k+1,G,LG,g1'),⟨hlt,hokG,hnG,hP⟩,by show m - (k+1) < m - k;omega,⟨rfl,rfl,rfl,rfl,rfl,trivial⟩,qU _ (qU _ (List.Sublist.append (qQ _) (hsub _ _)))⟩
      ·obtain ⟨k6,rfl,rfl,k3⟩:=hends2 k0 k1 k2
       by_cases k4:kd=3
       ·obtain h5:=k3.1 k4
        subst k4
        subst h5
        (refine vMz ?_;refine vEz ?_;refine vEz ?_;refine vEz ?_;apply zU;rfl;intro _;apply zU;rfl;intro _;apply zR;rfl;rfl;apply qD;apply qA;apply fr_wrW;rfl;exact hslG;apply zR;rfl;rfl;apply qA;apply aq_wrW;rfl;exact hsw;exact hsd;refine vAz<|nNz<|zI<|zI ?_)
        obtain ⟨qF,kF,hmF⟩:=hfr.memv
        obtain ⟨qG,kG,hmG⟩:=hP.memv
        have hrdF:∀ {E fr},Rd Tryz.prog 22 (.cells (fra f) E fr) 3 (.slice qF L.ms.length kF):=fun {E fr}=>by rw [← hmF];exact fr_rd3
        have hrdG:∀ {E fr},Rd Tryz.prog 22 (.cells (fra G) E fr) 3 (.slice qG LG.ms.length kG):=fun {E fr}=>by rw [← hmG];exact fr_rd3
        obtain ⟨uf,hf1,hf2,hf3⟩:=hfr.lie
        obtain ⟨ug,hg1,hg2,hg3⟩:=hP.lie
        obtain ⟨pf,hp1,hp2,hp3⟩:=hfr.plain
        obtain ⟨pg,hq1,hq2,hq3⟩:=hP.plain
        skip
        apply CW.pre
        (refine AnyW.anyM [] 35 mixed (by decide +kernel) ?_)
        ((try simp only [tsOf_cons,tsOf_nil,tsOf_app]);refine dvz (.move rfl) ?_;refine dvz (.neF rfl rfl (by omega)) ?_;refine dvz (.move rfl)<|dwz (.move rfl) ?_;refine dwz (.notT rfl (by with_reducible rfl)) ?_;refine dvz (.pickF' rfl (by with_reducible rfl) rfl) ?_;refine dvz (.move rfl) ?_;apply qH;rfl;rfl;rfl;apply wantYes;rfl;rfl;(with_reducible rfl);rfl;apply zO;apply zP;exact zN;exact fr_rdW)
        refine DW.callA ug rfl rfl rfl (by (apply wantYes;rfl;rfl;(with_reducible rfl))) rfl inferInstance (by (exact .cons rfl .nil)) (by rw [List.flatMap_cons,hg1];exact List.append_nil _) (fun p hp=>AncT.lie (by (refine AncT.cons ?_ ?_;exact zN;refine AncT.cons ?_ ?_;exact zN;refine AncT.app ?_ ?_;exact AncT.tsOf;refine AncT.app ?_ ?_;exact AncT.tsOf;refine AncT.app ?_ ?_;exact AncT.tsOf;refine AncT.app ?_ ?_;exact AncT.tsOf;refine AncT.cons ?_ ?_;exact zN;refine AncT.cons ?_ ?_;exact zN;exact AncT.nil)) (by have hp:=hg2 p hp;simp [fsOf,tsOf,tsNew,tsTag,markAll,Function.comp_def,hp])) (fun w _ hu=>by have h:=fCheck_calls G LG w (hg3 w hu);rwa [if_pos hokG] at h) ?_
        (try simp only [markAll_cons,markAll_app,markAll_tsOf,markAll_tag,markAll_new,markAll_nil])
        ((try simp only [tsOf_cons,tsOf_nil,tsOf_app]);refine dwz (.neF rfl rfl (by omega)) ?_;refine dvz (.pickF' rfl (by with_reducible rfl) rfl) ?_;refine dvz (.move rfl) ?_;apply qH;rfl;rfl;rfl;apply wantYes;rfl;rfl;(with_reducible rfl);rfl;apply zO;apply zO;apply zQ;apply zQ;apply zQ;apply zQ;apply zO;apply zP;exact zN;exact fr_rdW)
        refine DW.callA uf rfl rfl rfl (by (apply wantYes;rfl;rfl;(with_reducible rfl))) rfl inferInstance (by (exact .cons rfl .nil)) (by rw [List.flatMap_cons,hf1];exact List.append_nil _) (fun p hp=>AncT.lie (by (refine AncT.cons ?_ ?_;exact zN;refine AncT.cons ?_ ?_;exact zN;refine AncT.app ?_ ?_;refine AncT.tag ?_;exact zN;refine AncT.app ?_ ?_;refine AncT.tag ?_;exact zN;refine AncT.app ?_ ?_;refine AncT.tag ?_;exact zN;refine AncT.app ?_ ?_;refine AncT.tag ?_;exact zN;refine AncT.cons ?_ ?_;exact zN;refine AncT.cons ?_ ?_;exact zN;exact AncT.nil)) (by have hp:=hf2 p hp;simp [fsOf,tsOf,tsNew,tsTag,markAll,Function.comp_def,hp])) (fun w _ hu=>plain_calls14 f hsl w) ?_
        (try simp only [markAll_cons,markAll_app,markAll_tsOf,markAll_tag,markAll_new,markAll_nil])
        ((try simp only [tsOf_cons,tsOf_nil,tsOf_app]);apply qH;rfl;rfl;rfl;apply wantYes;rfl;rfl;(with_reducible rfl);rfl;apply zO;apply zP;exact zN;exact fr_rdW)
        refine DW.callA ug rfl rfl rfl (by (apply wantYes;rfl;rfl;(with_reducible rfl))) rfl inferInstance (by (exact .cons rfl .nil)) (by rw [List.flatMap_cons,hg1];exact List.append_nil _) (fun p hp=>AncT.lie (by (refine AncT.cons ?_ ?_;exact zN;refine AncT.cons ?_ ?_;exact zN;refine AncT.app ?_ ?_;refine AncT.tag ?_;exact zN;refine AncT.app ?_ ?_;refine AncT.tag ?_;exact zN;refine AncT.app ?_ ?_;refine AncT.tag ?_;exact zN;refine AncT.app ?_ ?_;refine AncT.tag ?_;exact zN;refine AncT.cons ?_ ?_;exact zN;refine AncT.cons ?_ ?_;exact zN;exact AncT.nil)) (by have hp:=hg2 p hp;simp [fsOf,tsOf,tsNew,tsTag,markAll,Function.comp_def,hp])) (fun w _ hu=>plain_calls14 G hslG w) ?_
        (try simp only [markAll_cons,markAll_app,markAll_tsOf,markAll_tag,markAll_new,markAll_nil])
        ((try simp only [tsOf_cons,tsOf_nil,tsOf_app]))
        refine DW.callA (pf++pg) rfl rfl rfl (by (apply wantYes;rfl;rfl;(with_reducible rfl))) rfl inferInstance (by (exact .cons rfl (.cons rfl .nil))) (by rw [List.flatMap_cons,List.flatMap_cons,hp1,hq1];simp) (fun p hp=>AncT.lie (by (refine AncT.cons ?_ ?_;exact zN;refine AncT.cons ?_ ?_;exact zN;refine AncT.app ?_ ?_;refine AncT.tag ?_;exact zN;refine AncT.app ?_ ?_;refine AncT.tag ?_;exact zN;refine AncT.app ?_ ?_;refine AncT.tag ?_;exact zN;refine AncT.app ?_ ?_;refine AncT.tag ?_;exact zN;refine AncT.cons ?_ ?_;exact zN;refine AncT.cons ?_ ?_;exact zN;exact AncT.nil)) (by { rcases List.mem_append.1 hp with hp|hp;(have hp:=hp2 p hp;simp [fsOf,tsOf,tsNew,tsTag,markAll,Function.comp_def,hp]);(have hp:=hq2 p hp;simp [fsOf,tsOf,tsNew,tsTag,markAll,Function.comp_def,hp]) })) (fun w _ hu=>by have h:=fSame_calls (plainF f) (plainF G) (plainL L) (plainL LG) hn.plain hnG.plain w (hp3 w fun p hp=>hu p (List.mem_append_left _ hp)) (hq3 w fun p hp=>hu p (List.mem_append_right _ hp));rwa [decide_eq_true hsame] at h) ?_
        (try simp only [markAll_cons,markAll_app,markAll_tsOf,markAll_tag,markAll_new,markAll_nil])
        ((try simp only [tsOf_cons,tsOf_nil,tsOf_app]);refine dwz (.notT rfl (by with_reducible rfl)) ?_;refine dvz (.pickF' rfl (by with_reducible rfl) rfl) ?_;refine dvz (.move rfl)<|dwz (.fieldAddr rfl rfl) ?_;apply qH;rfl;rfl;rfl;apply wantYes;rfl;rfl;(with_reducible rfl);rfl;apply zO;apply zP;exact zN;exact fr_rd4;refine dwz (.fieldAddr rfl rfl) ?_;apply qH;rfl;rfl;rfl;apply wantYes;rfl;rfl;(with_reducible rfl);rfl;apply zO;apply zO;apply zQ;apply zQ;apply zQ;apply zQ;apply zO;apply zP;exact zN;exact fr_rd4;refine dwz (.gtrF rfl rfl (by omega)) ?_;refine dvz (.pickF' rfl (by with_reducible rfl) rfl) ?_;refine dvz (.move rfl)<|dwz (.fieldAddr rfl rfl)<|dwz (.fieldAddr rfl rfl) ?_;apply qH;rfl;rfl;rfl;apply wantYes;rfl;rfl;(with_reducible rfl);rfl;apply zO;apply zP;exact zN;exact hrdG;refine dwz (.lenR rfl inferInstance rfl)<|dwz (.fieldAddr rfl rfl)<|dwz (.fieldAddr rfl rfl) ?_;apply qH;rfl;rfl;rfl;apply wantYes;rfl;rfl;(with_reducible rfl);rfl;apply zO;apply zO;apply zQ;apply zQ;apply zQ;apply zQ;apply zO;apply zP;exact zN;exact hrdF;refine dwz (.lenR rfl inferInstance rfl) ?_;apply DW.nil;simp only [fsOf_cons,fsOf_nil,fsOf_app,fsOf_tsOf,fsOf_new])
        try simp only [fsOf_mark,fsOf_cons,fsOf_nil,fsOf_app,fsOf_tsOf,fsOf_new,fsOf_tag,List.append_eq,List.nil_append]
        (refine gTz ?_;refine lvz (.lssF rfl rfl (by omega)) ?_;refine pFz<|nNz<|cFz<|zJ<|thenN<|zI<|sRz<|vFz<|ldz rfl .head aq_rd0<|nNz<|zM<|sRz ?_;refine lvz (.eqF rfl rfl (by omega)) ?_;refine vAz<|nNz<|cFz<|sRz ?_;refine lvz (.eqF rfl rfl (by omega)) ?_;refine vAz<|nNz<|cFz<|zI<|sRz ?_;refine lvz (.eqF rfl rfl (by omega)) ?_;refine vAz<|nNz<|cFz<|zL ?_;refine lvz (.eqF rfl rfl (by omega)) ?_;refine vAz<|nNz<|cFz<|sRz<|vFz<|ldz rfl .head aq_rd2<|lvz (.lenR rfl inferInstance rfl) ?_;refine lvz (.eqT rfl rfl (by omega)) ?_;refine vMz<|gTz<|vFz<|gTz<|ldz rfl .head aq_rd1<|gTz ?_;refine lvz (.eqT rfl rfl (by omega)) ?_;refine pTz<|vMz<|gTz<|vFz<|gTz<|ldz rfl .head aq_rd0<|gTz ?_;refine lvz (.eqT rfl rfl (by omega)) ?_;refine gTz<|vMz<|gTz ?_;refine lvz (.eqT rfl rfl (by omega)) ?_;refine gTz ?_;refine lvz (.boolEqT rfl rfl (by with_reducible rfl)) ?_;refine pTz<|vAz<|nNz<|zK<|blkR<|thenR<|blkR<|thenR<|thenR<|blkR<|thenR ?_)
        skip
        (apply finR;exact .inl rfl;rfl;rfl;rfl;apply zD;exact zG rfl;exact zF)
        rfl
       ·have h5:op ≠ 0:=fun h=>k4 (k3.2 h)
        (refine vMz ?_;refine vEz ?_;refine vEz ?_;refine vEz ?_;apply zU;rfl;intro _;apply zU;rfl;intro _;apply zR;rfl;rfl;apply qD;apply qA;apply fr_wrW;rfl;exact hslG;apply zR;rfl;rfl;apply qA;apply aq_wrW;rfl;exact hsw;exact hsd;refine vAz<|nNz<|zI<|zI ?_)
        obtain ⟨qF,kF,hmF⟩:=hfr.memv
        obtain ⟨qG,kG,hmG⟩:=hP.memv
        have hrdF:∀ {E fr},Rd Tryz.prog 22 (.cells (fra f) E fr) 3 (.slice qF L.ms.length kF):=fun {E fr}=>by rw [← hmF];exact fr_rd3
        have hrdG:∀ {E fr},Rd Tryz.prog 22 (.cells (fra G) E fr) 3 (.slice qG LG.ms.length kG):=fun {E fr}=>by rw [← hmG];exact fr_rd3
        obtain ⟨uf,hf1,hf2,hf3⟩:=hfr.lie
        obtain ⟨ug,hg1,hg2,hg3⟩:=hP.lie
        obtain ⟨pf,hp1,hp2,hp3⟩:=hfr.plain
        obtain ⟨pg,hq1,hq2,hq3⟩:=hP.plain
        skip
        apply CW.pre
        (refine AnyW.anyM [] 35 mixed (by decide +kernel) ?_)
        ((try simp only [tsOf_cons,tsOf_nil,tsOf_app]);refine dvz (.move rfl) ?_;refine dvz (.neF rfl rfl (by omega)) ?_;refine dvz (.move rfl)<|dwz (.move rfl) ?_;refine dwz (.notT rfl (by with_reducible rfl)) ?_;refine dvz (.pickF' rfl (by with_reducible rfl) rfl) ?_;refine dvz (.move rfl) ?_;apply qH;rfl;rfl;rfl;apply wantYes;rfl;rfl;(with_reducible rfl);rfl;apply zO;apply zP;exact zN;exact fr_rdW)
        refine DW.callA ug rfl rfl rfl (by (apply wantYes;rfl;rfl;(with_reducible rfl))) rfl inferInstance (by (exact .cons rfl .nil)) (by rw [List.flatMap_cons,hg1];exact List.append_nil _) (fun p hp=>AncT.lie (by (refine AncT.cons ?_ ?_;exact zN;refine AncT.cons ?_ ?_;exact zN;refine AncT.app ?_ ?_;exact AncT.tsOf;refine AncT.app ?_ ?_;exact AncT.tsOf;refine AncT.app ?_ ?_;exact AncT.tsOf;refine AncT.app ?_ ?_;exact AncT.tsOf;refine AncT.cons ?_ ?_;exact zN;refine AncT.cons ?_ ?_;exact zN;exact AncT.nil)) (by have hp:=hg2 p hp;simp [fsOf,tsOf,tsNew,tsTag,markAll,Function.comp_def,hp])) (fun w _ hu=>by have h:=fCheck_calls G LG w (hg3 w hu);rwa [if_pos hokG] at h) ?_
        (try simp only [markAll_cons,markAll_app,markAll_tsOf,markAll_tag,markAll_new,markAll_nil])
        ((try simp only [tsOf_cons,tsOf_nil,tsOf_app]);refine dwz (.neF rfl rfl (by omega)) ?_;refine dvz (.pickF' rfl (by with_reducible rfl) rfl) ?_;refine dvz (.move rfl) ?_;apply qH;rfl;rfl;rfl;apply wantYes;rfl;rfl;(with_reducible rfl);rfl;apply zO;apply zO;apply zQ;apply zQ;apply zQ;apply zQ;apply zO;apply zP;exact zN;exact fr_rdW)
        refine DW.callA uf rfl rfl rfl (by (apply wantYes;rfl;rfl;(with_reducible rfl))) rfl inferInstance (by (exact .cons rfl .nil)) (by rw [List.flatMap_cons,hf1];exact List.append_nil _) (fun p hp=>AncT.lie (by (refine AncT.cons ?_ ?_;exact zN;refine AncT.cons ?_ ?_;exact zN;refine AncT.app ?_ ?_;refine AncT.tag ?_;exact zN;refine AncT.app ?_ ?_;refine AncT.tag ?_;exact zN;refine AncT.app ?_ ?_;refine AncT.tag ?_;exact zN;refine AncT.app ?_ ?_;refine AncT.tag ?_;exact zN;refine AncT.cons ?_ ?_;exact zN;refine AncT.cons ?_ ?_;exact zN;exact AncT.nil)) (by have hp:=hf2 p hp;simp [fsOf,tsOf,tsNew,tsTag,markAll,Function.comp_def,hp])) (fun w _ hu=>plain_calls14 f hsl w) ?_
        (try simp only [markAll_cons,markAll_app,markAll_tsOf,markAll_tag,markAll_new,markAll_nil])
        ((try simp only [tsOf_cons,tsOf_nil,tsOf_app]);apply qH;rfl;rfl;rfl;apply wantYes;rfl;rfl;(with_reducible rfl);rfl;apply zO;apply zP;exact zN;exact fr_rdW)
        refine DW.callA ug rfl rfl rfl (by (apply wantYes;rfl;rfl;(with_reducible rfl))) rfl inferInstance (by (exact .cons rfl .nil)) (by rw [List.flatMap_cons,hg1];exact List.append_nil _) (fun p hp=>AncT.lie (by (refine AncT.cons ?_ ?_;exact zN;refine AncT.cons ?_ ?_;exact zN;refine AncT.app ?_ ?_;refine AncT.tag ?_;exact zN;refine AncT.app ?_ ?_;refine AncT.tag ?_;exact zN;refine AncT.app ?_ ?_;refine AncT.tag ?_;exact zN;refine AncT.app ?_ ?_;refine AncT.tag ?_;exact zN;refine AncT.cons ?_ ?_;exact zN;refine AncT.cons ?_ ?_;exact zN;exact AncT.nil)) (by have hp:=hg2 p hp;simp [fsOf,tsOf,tsNew,tsTag,markAll,Function.comp_def,hp])) (fun w _ hu=>plain_calls14 G hslG w) ?_
        (try simp only [markAll_cons,markAll_app,markAll_tsOf,markAll_tag,markAll_new,markAll_nil])
        ((try simp only [tsOf_cons,tsOf_nil,tsOf_app]))
        refine DW.callA (pf++pg) rfl rfl rfl (by (apply wantYes;rfl;rfl;(with_reducible rfl))) rfl inferInstance (by (exact .cons rfl (.cons rfl .nil))) (by rw [List.flatMap_cons,List.flatMap_cons,hp1,hq1];simp) (fun p hp=>AncT.lie (by (refine AncT.cons ?_ ?_;exact zN;refine AncT.cons ?_ ?_;exact zN;refine AncT.app ?_ ?_;refine AncT.tag ?_;exact zN;refine AncT.app ?_ ?_;refine AncT.tag ?_;exact zN;refine AncT.app ?_ ?_;refine AncT.tag ?_;exact zN;refine AncT.app ?_ ?_;refine AncT.tag ?_;exact zN;refine AncT.cons ?_ ?_;exact zN;refine AncT.cons ?_ ?_;exact zN;exact AncT.nil)) (by { rcases List.mem_append.1 hp with hp|hp;(have hp:=hp2 p hp;simp [fsOf,tsOf,tsNew,tsTag,markAll,Function.comp_def,hp]);(have hp:=hq2 p hp;simp [fsOf,tsOf,tsNew,tsTag,markAll,Function.comp_def,hp]) })) (fun w _ hu=>by have h:=fSame_calls (plainF f) (plainF G) (plainL L) (plainL LG) hn.plain hnG.plain w (hp3 w fun p hp=>hu p (List.mem_append_left _ hp)) (hq3 w fun p hp=>hu p (List.mem_append_right _ hp));rwa [decide_eq_true hsame] at h) ?_
        (try simp only [markAll_cons,markAll_app,markAll_tsOf,markAll_tag,markAll_new,markAll_nil])
        ((try simp only [tsOf_cons,tsOf_nil,tsOf_app]);refine dwz (.notT rfl (by with_reducible rfl)) ?_;refine dvz (.pickF' rfl (by with_reducible rfl) rfl) ?_;refine dvz (.move rfl)<|dwz (.fieldAddr rfl rfl) ?_;apply qH;rfl;rfl;rfl;apply wantYes;rfl;rfl;(with_reducible rfl);rfl;apply zO;apply zP;exact zN;exact fr_rd4;refine dwz (.fieldAddr rfl rfl) ?_;apply qH;rfl;rfl;rfl;apply wantYes;rfl;rfl;(with_reducible rfl);rfl;apply zO;apply zO;apply zQ;apply zQ;apply zQ;apply zQ;apply zO;apply zP;exact zN;exact fr_rd4;refine dwz (.gtrF rfl rfl (by omega)) ?_;refine dvz (.pickF' rfl (by with_reducible rfl) rfl) ?_;refine dvz (.move rfl)<|dwz (.fieldAddr rfl rfl)<|dwz (.fieldAddr rfl rfl) ?_;apply qH;rfl;rfl;rfl;apply wantYes;rfl;rfl;(with_reducible rfl);rfl;apply zO;apply zP;exact zN;exact hrdG;refine dwz (.lenR rfl inferInstance rfl)<|dwz (.fieldAddr rfl rfl)<|dwz (.fieldAddr rfl rfl) ?_;apply qH;rfl;rfl;rfl;apply wantYes;rfl;rfl;(with_reducible rfl);rfl;apply zO;apply zO;apply zQ;apply zQ;apply zQ;apply zQ;apply zO;apply zP;exact zN;exact hrdF;refine dwz (.lenR rfl inferInstance rfl) ?_;apply DW.nil;simp only [fsOf_cons,fsOf_nil,fsOf_app,fsOf_tsOf,fsOf_new])
        try simp only [fsOf_mark,fsOf_cons,fsOf_nil,fsOf_app,fsOf_tsOf,fsOf_new,fsOf_tag,List.append_eq,List.nil_append]
        (refine gTz ?_;refine lvz (.lssF rfl rfl (by omega)) ?_;refine pFz<|nNz<|cFz<|zJ<|thenN<|zI<|sRz<|vFz<|ldz rfl .head aq_rd0<|nNz<|zM<|sRz ?_;refine lvz (.eqF rfl rfl (by omega)) ?_;refine vAz<|nNz<|cFz<|sRz ?_;refine lvz (.eqF rfl rfl (by omega)) ?_;refine vAz<|nNz<|cFz<|zI<|sRz ?_;refine lvz (.eqF rfl rfl (by omega)) ?_;refine vAz<|nNz<|cFz<|zL ?_;refine lvz (.eqF rfl rfl (by omega)) ?_;refine vAz<|nNz<|cFz<|sRz<|vFz<|ldz rfl .head aq_rd2<|lvz (.lenR rfl inferInstance rfl) ?_;refine lvz (.eqT rfl rfl (by omega)) ?_;refine vMz<|gTz<|vFz<|gTz<|ldz rfl .head aq_rd1<|gTz ?_;refine lvz (.eqT rfl rfl (by omega)) ?_;refine pTz<|vMz<|gTz<|vFz<|gTz<|ldz rfl .head aq_rd0<|gTz ?_;refine lvz (.eqF rfl rfl (by omega)) ?_;refine gTz<|vMz<|gTz ?_;refine lvz (.eqF rfl rfl (by omega)) ?_;refine gTz ?_;refine lvz (.boolEqT rfl rfl (by with_reducible rfl)) ?_;refine pTz<|vAz<|nNz<|zK<|blkR<|thenR<|blkR<|thenR<|thenR<|blkR<|thenR ?_)
        skip
        (apply finR;exact .inl rfl;rfl;rfl;rfl;apply zD;exact zG rfl;exact zF)
        rfl
  ·obtain rfl:k=m:=by omega
   (refine sRz ?_;refine lvz (.lssF rfl rfl (by omega)) ?_;refine nNz<|zI<|cFz<|CW.exit<|thenE<|thenE<|blkE rfl<|thenN<|sRz<|vAz<|nNz<|zK ?_)
   (apply finR;exact .inl rfl;rfl;rfl;rfl;apply zD;exact zG rfl;exact zF)
   rfl
 ·rw [if_neg hok] at hCk
  have hBad:∀ w',(∀ q∈g1,w'.heap[q.1]?=some q.2)→Calls Tryz.prog 10 #[frv y,.agg (enva e0 e1 e2 e3)] w' (Ret w' (.tuple #[frv zeroF,.agg (aska 0 0 (.slice none 0 0) (.slice none 0 0)),.int .i64 240])):=fun w' h=>Step_bad y Y e0 e1 e2 e3 hok w' (hy.us h)
  have hslG:=zero_sl
  have hsw:∃ p n c,Value.slice none 0 0=.slice p n c:=⟨_,_,_,rfl⟩
  have hsd:=hsw
  have hSz:∀ w,Calls Tryz.prog 36 #[frv zeroF,frv zeroF] w (Ret w (.bool true)):=fun w=>by
   have h:=fSame_calls zeroF zeroF zeroL zeroL zeroF_num zeroF_num w (zero_frO.us fun q hq=>absurd hq List.not_mem_nil) (zero_frO.us fun q hq=>absurd hq List.not_mem_nil)
   rwa [decide_eq_true (LikeF.same (LikeF.refl zeroF) (LikeF.refl zeroF))] at h
  have hAz:∀ w,Calls Tryz.prog 37 #[.agg (aska 0 0 (.slice none 0 0) (.slice none 0 0)),.agg (aska 0 0 (.slice none 0 0) (.slice none 0 0))] w (Ret w (.bool true)):=fun w=>by
   have h:=SameAsk_calls ⟨0,0,.slice none 0 0,[],.slice none 0 0,[]⟩ ⟨0,0,.slice none 0 0,[],.slice none 0 0,[]⟩ w (askZ w 0) (askZ w 0)
   rwa [decide_eq_true (show sameA _ _ from ⟨rfl,rfl,rfl,rfl⟩)] at h
  (apply zR;rfl;rfl;apply qE;apply qD;apply qA;apply fr_wrW;rfl;exact hsl;refine nNz<|zI<|sRz<|ldz rfl (.app (.tail .head)) fr_rdW ?_;apply zS;rfl;rfl;infer_instance;exact .cons rfl .nil;intro w _;rename_i hst;(exact hCk w (st_ou hst (by (repeat (first|exact qQ _|exact qT _ _|apply qU|apply List.sublist_append_of_sublist_right)))));refine lvz (.neT rfl rfl (by omega)) ?_;refine nNz<|cTz<|sRz<|ldz rfl (.app (.tail .head)) fr_rdW<|ldz rfl (.app .head) (qJ rfl) ?_;apply zS;rfl;rfl;infer_instance;exact .cons rfl (.cons rfl .nil);intro w _;rename_i hst;(exact hBad w (st_ou hst (by (repeat (first|exact qQ _|exact qT _ _|apply qU|apply List.sublist_append_of_sublist_right)))));refine vMz ?_;refine vEz ?_;refine vEz ?_;refine vEz ?_;apply zU;rfl;intro _;apply zU;rfl;intro _;apply zR;rfl;rfl;apply qD;apply qA;apply fr_wrW;rfl;exact hslG;apply zR;rfl;rfl;apply qA;apply aq_wrW;rfl;exact hsw;exact hsd;refine vAz<|nSz<|vMz ?_;refine lvz (.eqT rfl rfl (by omega)) ?_;refine vMz<|gTz<|ldz rfl (.tail .head) fr_rdW<|gTz ?_;apply LW.v0;rfl;rfl;apply zW;infer_instance;infer_instance;exact zB;rfl;simp only [fillP,wrCells,Value.cells,qL,qM,qN,qK,qP,qO,Nat.reduceAdd,qR];rfl;refine gTz ?_;apply zS;rfl;rfl;infer_instance;exact .cons rfl (.cons rfl .nil);intro w _;exact hSz w;refine pTz<|vMz<|gTz<|ldz rfl .head (qJ rfl)<|gTz ?_;apply LW.v0;rfl;rfl;apply zW;infer_instance;infer_instance;exact zB;rfl;simp only [fillP,wrCells,Value.cells,qL,qM,qN,qK,qP,qO,Nat.reduceAdd,qR];rfl;refine gTz ?_;apply zS;rfl;rfl;infer_instance;exact .cons rfl (.cons rfl .nil);intro w _;exact hAz w;refine pTz<|vAz<|nNz<|zK<|thenR ?_)
  (apply finR;exact .inl rfl;rfl;rfl;rfl;apply zD;exact zG rfl;exact zF)
  rfl
end Go.Proofs.YtdeggbkbblfpoaaGreatDoor
namespace Go.Proofs.YtdeggbkbblfpoaaGreatDoor
open Go Go.RowKit SL
open Go.ChangeShapes Go.WideShapes
set_option linter.unusedVariables false
theorem var_heap {P:Program} {w:World} {n:String} {g:Nat} {cs:Array Value} (hg:P.globalNamed n=some g) (h:w.var? P n=some cs):∃ E fr,w.heap[g]?=some (.cells cs E fr):=by
 unfold World.var? at h
 rw [hg] at h
 simp only [Option.bind_some] at h
 split at h
 ·rename_i cs' E fr hh
  cases h
  exact ⟨E,fr,hh⟩
 ·cases h
theorem tab_at {P:Program} {W:World} {l:List (String × DataW Unit)} {n:String} {g T E m:Nat} {k:IntKind} {zs:List Int} (h:laidMet P l W) (hm:(n,Lib.tabData k zs)∈l) (hg:P.globalNamed n=some g) (hT:(P.globals[g]?).map (·.type)=some T) (hu:P.underlying T=some (.array m E)) (he:P.underlying E=some (.int k)) (hce:P.cellsOf E=1) (hct:P.cellsOf T=m) :
  ∃ E' fr,W.heap[g]?=some (.cells (zs.map fun z=>Value.int k z).toArray E' fr):=by
 obtain ⟨g',t',cs,fuel,p,h1,h2,h3,h4⟩:=Lib.laidMet.reads h hm
 obtain rfl:g=g':=Option.some.inj (hg.symm.trans h1)
 obtain rfl:T=t':=Option.some.inj (hT.symm.trans h2)
 have hc:=Lib.cells_of_tab hu he hce hct h4
 obtain ⟨E',fr,hh⟩:=var_heap hg h3
 refine ⟨E',fr,?_⟩
 rw [hh,← hc]
theorem laid_at {l : List (String × DataW Unit)} {W : World} (h : laidMetH Tryz.prog l W) (h0 : (l.all fun x => x.2.handleName?.isNone) = true) (h1 : ("sheafer/sponge.turns", Lib.tabData .i64 (SK.turnL.map fun (n : Nat) => (n : Int))) ∈ l) (h2 : ("sheafer/sponge.numbers", Lib.tabData .u64 (SK.numL.map fun (n : Nat) => (n : Int))) ∈ l) : SK.TurnAt W ∧ SK.NumAt W := by
 rw [MakeChecks.laidMetH_plain _ _ _ h0] at h
 exact ⟨tab_at (T:=238) (E:=3) (m:=25) h h1 (by kernel_rfl) (by kernel_rfl) (by kernel_rfl) (by kernel_rfl) (by kernel_rfl) (by kernel_rfl),tab_at (T:=222) (E:=26) (m:=24) h h2 (by kernel_rfl) (by kernel_rfl) (by kernel_rfl) (by kernel_rfl) (by kernel_rfl) (by kernel_rfl)⟩
theorem laid_keeps {W:World} (h:laidMetH Tryz.prog Rows.frameKeepsRow.laid W):SK.TurnAt W∧SK.NumAt W:=laid_at h (by kernel_rfl) (by unfold Rows.frameKeepsRow;simp only [];repeat (first|exact List.Mem.head _|apply List.Mem.tail)) (by unfold Rows.frameKeepsRow;simp only [];repeat (first|exact List.Mem.head _|apply List.Mem.tail))
end Go.Proofs.YtdeggbkbblfpoaaGreatDoor
