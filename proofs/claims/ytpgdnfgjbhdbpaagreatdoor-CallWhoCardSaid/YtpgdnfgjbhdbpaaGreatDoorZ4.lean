/-
  Texts that were built apart, put behind one another (4 of 4): NU NV NW NY OA OB Snb OC OE OF OG OH OI OV KE KO KI KJ KK KM KG KP OP OW OM OZ R1 OY OJ ON R2 R3 NX NZ OL.
  Conditions: none.
-/
import Derived.Test.YtpgdnfgjbhdbpaaGreatDoorZ3
import Derived.Shelf.Bytes.SlIndexWhole
import Derived.Shelf.Vars
import Derived.SevenTiedAt
import Derived.HandedShaped
import Derived.Handed
import Derived.Test.YtpgdnfgjbhdbpaaGreatDoorRows
import Derived.LaidMore
import Derived.Lib.LaidTab
import Derived.Lib.LaidU8
namespace Go.Proofs.YtpgdnfgjbhdbpaaGreatDoor
open Go Go.RowKit SL
set_option maxRecDepth 8000
set_option maxHeartbeats 4000000
set_option linter.unusedSimpArgs false
set_option linter.unusedVariables false
attribute [local irreducible] SL.CW SL.LW SL.DW Calls SL.Ret SL.RetG SL.beginQ SL.roundQ SL.rangeQ SL.RW SL.AnyW SL.thenQ SL.thenC SL.thenW SL.blkQ SL.finQ SL.ValP SL.NewP SL.SetP SL.CallP SL.Rd SL.Wr SL.Known
def fewF (L:FrL):FrL:=⟨L.cl.take 300,L.ws.take 70,L.ms.take 1100,L.il.take 1100,L.bl.take 1100⟩
def FairR (f:FrV) (L:FrL) (v:Value) (gs:Fs):Prop:=∃ c s m i b,v=frv (f.rows c s m i b)∧FrO (f.rows c s m i b) (fewF L) gs
theorem fair_calls (f:FrV) (L:FrL) (w:World) (h:FrRows w f L):Calls Tryz.prog 10 #[frv f] w (RetG w [] (FairR f L)):=by
 obtain ⟨code,pc,stk,mem,gas,self,frm,val,inp,back,stat⟩:=f
 obtain ⟨h0,h2,h3,h11,h12⟩:=h
 dsimp only at h0 h2 h3 h11 h12
 obtain ⟨p0,c0,rfl,hle0,hm0⟩:=id h0.form
 obtain ⟨p2,c2,rfl,hle2,hm2⟩:=id h2.form
 obtain ⟨p3,c3,rfl,hle3,hm3⟩:=id h3.form
 obtain ⟨p11,c11,rfl,hle11,hm11⟩:=id h11.form
 obtain ⟨p12,c12,rfl,hle12,hm12⟩:=id h12.form
 simp only [maxLen] at hm0 hm2 hm3 hm11 hm12
 have hf0:=row_few h0 (k:=300) rfl
 have hf2:=row_fewW h2 (k:=70) rfl
 have hf3:=row_few h3 (k:=1100) rfl
 have hf11:=row_few h11 (k:=1100) rfl
 have hf12:=row_few h12 (k:=1100) rfl
 have hl0:(L.cl.take 300).length≤100000:=by rw [List.length_take];omega
 have hl2:(L.ws.take 70).length≤100000:=by rw [List.length_take];omega
 have hl3:(L.ms.take 1100).length≤100000:=by rw [List.length_take];omega
 have hl11:(L.il.take 1100).length≤100000:=by rw [List.length_take];omega
 have hl12:(L.bl.take 1100).length≤100000:=by rw [List.length_take];omega
 refine enter (args:=[_]) _ [] [] Tryz.func10 rfl Tryz.ntmps10 rfl (by simp) .nil ?_
 (refine sRz ?_;apply zT;rfl;rfl;intro _;apply zU;rfl;intro _;refine nNz<|zI ?_)
 apply CW.pre
 (refine AnyW.anyM [(7,bM (L.cl.take 300)),(15,bM (L.il.take 1100)),(23,bM (L.bl.take 1100))] 25 mixed (by decide +kernel) ?_)
 ((try simp only [tsOf_cons,tsOf_nil,tsOf_app]);refine dvz (.fieldAddr rfl rfl) ?_;apply qD;rfl;rfl;rfl;exact zC;rfl;apply zO;apply zP;exact zN;exact fr_rd0;refine dvz (.fieldAddr rfl rfl) ?_;apply qD;rfl;rfl;rfl;exact zC;rfl;apply zO;apply zP;exact zN;exact fr_rd0;refine dvz (.lenR rfl inferInstance rfl) ?_;refine dvz (.minZL rfl rfl (by decide)) ?_;refine dvz (.cutTo inferInstance inferInstance rfl rfl (by omega)) ?_)
 (apply DW.manyV;rfl;rfl;rfl;exact zC;rfl;infer_instance;exact .cons rfl .nil;apply RdV.ext;assumption;rfl;exact RdV.nil;intro w _ _)
 exact SK.Clone_calls _ _ w (hf0.bel (by assumption)) hl0
 intro v1 g1 h1
 ((try simp only [tsOf_cons,tsOf_nil,tsOf_app]);refine dvz (.fieldAddr rfl rfl) ?_;apply qD;rfl;rfl;rfl;exact zC;rfl;apply zQ;apply zO;apply zP;exact zN;exact fr_rd11;refine dvz (.fieldAddr rfl rfl) ?_;apply qD;rfl;rfl;rfl;exact zC;rfl;apply zQ;apply zO;apply zP;exact zN;exact fr_rd11;refine dvz (.lenR rfl inferInstance rfl) ?_;refine dvz (.minZL rfl rfl (by decide)) ?_;refine dvz (.cutTo inferInstance inferInstance rfl rfl (by omega)) ?_)
 (apply DW.manyV;rfl;rfl;rfl;exact zC;rfl;infer_instance;exact .cons rfl .nil;apply RdV.ext;assumption;rfl;exact RdV.nil;intro w _ _)
 exact SK.Clone_calls _ _ w (hf11.bel (by assumption)) hl11
 intro v4 g4 h4
 ((try simp only [tsOf_cons,tsOf_nil,tsOf_app]);refine dvz (.fieldAddr rfl rfl) ?_;apply qD;rfl;rfl;rfl;exact zC;rfl;apply zQ;apply zQ;apply zO;apply zP;exact zN;exact fr_rd12;refine dvz (.fieldAddr rfl rfl) ?_;apply qD;rfl;rfl;rfl;exact zC;rfl;apply zQ;apply zQ;apply zO;apply zP;exact zN;exact fr_rd12;refine dvz (.lenR rfl inferInstance rfl) ?_;refine dvz (.minZL rfl rfl (by decide)) ?_;refine dvz (.cutTo inferInstance inferInstance rfl rfl (by omega)) ?_)
 (apply DW.manyV;rfl;rfl;rfl;exact zC;rfl;infer_instance;exact .cons rfl .nil;apply RdV.ext;assumption;rfl;exact RdV.nil;intro w _ _)
 exact SK.Clone_calls _ _ w (hf12.bel (by assumption)) hl12
 intro v5 g5 h5
 have h1':=h1
 have h4':=h4
 have h5':=h5
 unfold bM at h1' h4' h5'
 obtain ⟨q1,k1,rfl⟩:=h1'.form
 obtain ⟨q4,k4,rfl⟩:=h4'.form
 obtain ⟨q5,k5,rfl⟩:=h5'.form
 ((try simp only [tsOf_cons,tsOf_nil,tsOf_app]);refine dvz (.fieldAddr rfl rfl) ?_;apply DW.nil;simp only [fsOf_cons,fsOf_nil,fsOf_app,fsOf_tsOf,fsOf_new,fsOf_tag])
 (refine zR rfl rfl (.app (.app (.app (.tail .head)))) fr_wr0<|vFz ?_;refine zR rfl rfl (.app (.app (.app (.tail .head)))) fr_wr11<|vFz ?_;refine zR rfl rfl (.app (.app (.app (.tail .head)))) fr_wr12<|nNz<|zI ?_)
 apply CW.pre
 (refine AnyW.anyM [(9,wM (L.ws.take 70)),(19,bM (L.ms.take 1100))] 22 mixed (by decide +kernel) ?_)
 ((try simp only [tsOf_cons,tsOf_nil,tsOf_app]);refine dvz (.fieldAddr rfl rfl)<|dvz (.fieldAddr rfl rfl) ?_;apply qD;rfl;rfl;rfl;exact zC;rfl;apply zQ;apply zQ;apply zQ;apply zO;apply zP;exact zN;exact fr_rd2s;refine dvz (.fieldAddr rfl rfl)<|dvz (.fieldAddr rfl rfl) ?_;apply qD;rfl;rfl;rfl;exact zC;rfl;apply zQ;apply zQ;apply zQ;apply zO;apply zP;exact zN;exact fr_rd2s;refine dvz (.lenR rfl inferInstance rfl) ?_;refine dvz (.minZL rfl rfl (by decide)) ?_;refine dvz (.cutTo inferInstance inferInstance rfl rfl (by omega)) ?_)
 (apply DW.manyV;rfl;rfl;rfl;exact zC;rfl;infer_instance;exact .cons rfl .nil;apply RdV.ext;assumption;rfl;exact RdV.nil;intro w _ _)
 exact CloneW_calls _ _ w (hf2.bel (by assumption)) hl2
 intro v2 g2 hh2
 ((try simp only [tsOf_cons,tsOf_nil,tsOf_app]);refine dvz (.fieldAddr rfl rfl)<|dvz (.fieldAddr rfl rfl) ?_;apply qD;rfl;rfl;rfl;exact zC;rfl;apply zQ;apply zQ;apply zQ;apply zQ;apply zO;apply zP;exact zN;exact fr_rd3;refine dvz (.fieldAddr rfl rfl)<|dvz (.fieldAddr rfl rfl) ?_;apply qD;rfl;rfl;rfl;exact zC;rfl;apply zQ;apply zQ;apply zQ;apply zQ;apply zO;apply zP;exact zN;exact fr_rd3;refine dvz (.lenR rfl inferInstance rfl) ?_;refine dvz (.minZL rfl rfl (by decide)) ?_;refine dvz (.cutTo inferInstance inferInstance rfl rfl (by omega)) ?_)
 (apply DW.manyV;rfl;rfl;rfl;exact zC;rfl;infer_instance;exact .cons rfl .nil;apply RdV.ext;assumption;rfl;exact RdV.nil;intro w _ _)
 exact SK.Clone_calls _ _ w (hf3.bel (by assumption)) hl3
 intro v3 g3 hh3
 have h2':=hh2
 have h3':=hh3
 unfold wM at h2'
 unfold bM at h3'
 obtain ⟨q2,k2,rfl⟩:=h2'.form
 obtain ⟨q3,k3,rfl⟩:=h3'.form
 ((try simp only [tsOf_cons,tsOf_nil,tsOf_app]);refine dvz (.fieldAddr rfl rfl)<|dvz (.fieldAddr rfl rfl) ?_;apply DW.nil;simp only [fsOf_cons,fsOf_nil,fsOf_app,fsOf_tsOf,fsOf_new,fsOf_tag])
 have hsl:FrSl ⟨.slice q1 (L.cl.take 300).length k1,pc,.slice q2 (L.ws.take 70).length k2,.slice q3 (L.ms.take 1100).length k3,gas,self,frm,val,.slice q4 (L.il.take 1100).length k4,.slice q5 (L.bl.take 1100).length k5,stat⟩:=⟨⟨_,_,_,rfl⟩,⟨_,_,_,rfl⟩,⟨_,_,_,rfl⟩,⟨_,_,_,rfl⟩,⟨_,_,_,rfl⟩⟩
 (refine zR rfl rfl (.app (.app (.app (.app (.app (.tail .head)))))) fr_wr2<|vFz<|vFz ?_;refine zR rfl rfl (.app (.app (.app (.app (.app (.tail .head)))))) fr_wr3<|nSz<|ldz rfl (.app (.app (.app (.app (.app (.tail .head)))))) fr_rdW ?_;apply zR;rfl;rfl;apply qC;apply qC;apply qC;apply qC;apply qC;apply qA;apply fr_wrW;rfl;assumption;refine nNz<|zK ?_)
 refine fin (vs:=[frv ⟨.slice q1 (L.cl.take 300).length k1,pc,.slice q2 (L.ws.take 70).length k2,.slice q3 (L.ms.take 1100).length k3,gas,self,frm,val,.slice q4 (L.il.take 1100).length k4,.slice q5 (L.bl.take 1100).length k5,stat⟩]) (g3++(g2++(g5++(g4++g1)))) (.inl rfl) rfl rfl (by (apply zD;apply zH;rfl;apply qE;apply zZ;apply zZ;apply zZ;apply zZ;apply zZ;apply zY;exact fr_rdW;exact zF)) ?_ ⟨_,_,_,_,_,rfl,g1,g2,g3,g4,g5,?_,h1,hh2,hh3,h4,h5⟩
 ·exact List.Sublist.append_left (List.Sublist.append_left (List.Sublist.append_left (List.Sublist.append_left (qP _ _) _) _) _) _
 ·exact perm5 g1 g2 g3 g4 g5
section
theorem ClO.lie {c:ClV} {L:ClL} {gs:Fs} (h:ClO c L gs):∃ us:Fs,blocksN 4 (clv c)=us.map (·.1)∧(∀ p∈us,p∈gs)∧∀ w:World,(∀ p∈us,w.heap[p.1]?=some p.2)→ClRows w c L:=by
 obtain ⟨g1,g2,rfl,h1,h2⟩:=h
 unfold bM at h1 h2
 obtain ⟨q1,k1,e1⟩:=h1.form
 obtain ⟨q2,k2,e2⟩:=h2.form
 obtain ⟨u1,a1,b1,c1⟩:=rowU_own h1
 obtain ⟨u2,a2,b2,c2⟩:=rowU_own h2
 refine ⟨u1++u2,?_,fun p hp=>?_,fun w hw=>⟨c1 w fun p h=>hw p (by simp [h]),c2 w fun p h=>hw p (by simp [h])⟩⟩
 ·rw [blocks_clv ⟨_,_,_,e1⟩ ⟨_,_,_,e2⟩]
  simp [a1,a2]
 ·rcases List.mem_append.1 hp with h|h
  ·exact List.mem_append_right _ (b1 p h)
  ·exact List.mem_append_left _ (b2 p h)
theorem ClO.us {c:ClV} {L:ClL} {gs:Fs} {w:World} (h:ClO c L gs) (hw:∀ p∈gs,w.heap[p.1]?=some p.2):ClRows w c L:=by
 obtain ⟨us,_,hm,hr⟩:=h.lie
 exact hr w fun p hp=>hw p (hm p hp)
theorem ClO.cells {c:ClV} {L:ClL} {gs:Fs} (h:ClO c L gs):(cla c).toList.all Value.oneCell'=true:=by
 obtain ⟨g1,g2,rfl,h1,h2⟩:=h
 unfold bM at h1 h2
 obtain ⟨q1,k1,e1⟩:=h1.form
 obtain ⟨q2,k2,e2⟩:=h2.form
 exact cl_cells ⟨_,_,_,e1⟩ ⟨_,_,_,e2⟩
theorem st_ou {w0 w:World} {S:List Nat} {fs gs:Fs} (hs:St w0 S fs w) (h:List.Sublist gs fs):∀ p∈gs,w.heap[p.1]?=some p.2:=fun p hp=>(hs.own p (h.subset hp)).2
theorem FrO.us {f:FrV} {L:FrL} {gs:Fs} {w:World} (h:FrO f L gs) (hw:∀ p∈gs,w.heap[p.1]?=some p.2):FrRows w f L:=h.rows hw
theorem zeroC_o:ClO zeroC ⟨[],[]⟩ []:=⟨[],[],rfl,.nil,.nil⟩
theorem markAll_tag {k:Nat} {ws rs:List Nat} {g:Fs}:markAll k (tsTag ws rs g)=tsTag ws (k::rs) g:=by simp [markAll,tsTag]
theorem markAll_new {k j:Nat} {g:Fs}:markAll k (tsNew j g)=tsTag [j] [k] g:=by simp [markAll,tsTag,tsNew]
def AncT (ops:Array Oper) (k:Nat) (ts:Ts):Prop:=∀ q∈ts,ancB ops k q.2.2.1=true
section anc
variable {ops : Array Oper} {k j : Nat} {s ts : Ts} {gs : Fs} {b : Nat} {o : Obj} {ws rs : List Nat}
theorem AncT.nil:AncT ops k []:=fun q h=>by cases h
theorem AncT.cons (h:ancB ops k ws=true) (ht:AncT ops k ts):AncT ops k ((b,o,ws,rs)::ts):=fun q hq=>by
 rcases List.mem_cons.1 hq with rfl|hq
 ·exact h
 ·exact ht q hq
theorem AncT.app (h:AncT ops k s) (ht:AncT ops k ts):AncT ops k (s++ts):=fun q hq=>by
 rcases List.mem_append.1 hq with hq|hq
 ·exact h q hq
 ·exact ht q hq
theorem AncT.tsOf:AncT ops k (tsOf gs):=fun q hq=>by
 obtain ⟨p,_,rfl⟩:=List.mem_map.1 (show q∈gs.map _ from hq)
 exact anc_nil
theorem AncT.tag (h:ancB ops k ws=true):AncT ops k (tsTag ws rs gs):=fun q hq=>by
 obtain ⟨p,_,rfl⟩:=List.mem_map.1 (show q∈gs.map _ from hq)
 exact h
theorem AncT.new (h:ancB ops k [j]=true):AncT ops k (tsNew j gs):=fun q hq=>by
 obtain ⟨p,_,rfl⟩:=List.mem_map.1 (show q∈gs.map _ from hq)
 exact h
theorem AncT.lie {C:Cu} {p:Nat × Obj} (h:AncT ops k ts) (hp:p∈fsOf ts):Lie C ops k ts p:=by
 obtain ⟨q,hq,rfl⟩:=List.mem_map.1 (show p∈ts.map _ from hp)
 exact .inl ⟨q.2.2.1,q.2.2.2,hq,h q hq⟩
end anc
end

theorem FrRows.blocks {f:FrV} {L:FrL} {w:World} (h:FrRows w f L):[frv f].flatMap (blocksN 4)=[f.code,f.stk,f.mem,f.inp,f.back].flatMap (blocksN 4):=by
 rw [List.flatMap_cons,blocks_frv h.sl]
 exact List.append_nil _
def LikeF (x y:FrV):Prop:=∃ c s m i b,y=x.rows c s m i b
theorem FairR.like {x:FrV} {X:FrL} {v:Value} {gs:Fs} (h:FairR x X v gs):∃ y,v=frv y∧FrO y (fewF X) gs∧LikeF x y:=by
 obtain ⟨c,s,m,i,b,rfl,h⟩:=h
 exact ⟨_,rfl,h,c,s,m,i,b,rfl⟩
theorem fewF_num {x:FrV} {X:FrL} (h:FrNum x X):FrNum x (fewF X):=⟨h.gas,h.self,h.frm,h.val,fun u hu=>h.ws u (List.mem_of_mem_take hu)⟩
theorem LikeF.num {x y:FrV} {L:FrL} (h:LikeF x y) (hx:FrNum x L):FrNum y L:=by
 obtain ⟨c,s,m,i,b,rfl⟩:=h
 exact ⟨hx.gas,hx.self,hx.frm,hx.val,hx.ws⟩
theorem Grow_calls (n:Nat) (hn:n≤1000000) (w:World):Calls Tryz.prog 136 #[.slice none 0 0,.int .i64 (n:Int)] w (RetG w [] fun v gs=>IsRow 5 1 v 0 [] gs):=by
 refine enter (args:=[_,_]) _ [] [] Tryz.func136 rfl Tryz.ntmps136 rfl (by simp) .nil ?_
 rcases Nat.eq_zero_or_pos n with h0|h0
 ·subst h0
  (refine sRz<|vAz<|nNz<|zI<|sRz<|vMz ?_;refine lvz (.lssF rfl rfl (by omega)) ?_;refine nNz<|cFz<|zJ<|thenN<|zI<|sRz<|vMz<|vMz ?_;apply LW.v0;rfl;rfl;apply ValP.capS;rfl;infer_instance;rfl;refine vMz<|lvz (.lenR rfl inferInstance rfl) ?_;refine lvz (.subZ rfl rfl (by omega) (by omega)) ?_;refine lvz (.subZ rfl rfl (by omega) (by omega)) ?_;refine vAz<|nSz<|vMz ?_;refine lvz (.gtrF rfl rfl (by omega)) ?_;refine nNz<|cFz<|zJ<|thenN<|sRz<|vMz<|vAz<|nNz<|zK ?_)
  exact fin (vs:=[.slice none 0 0]) [] (.inl rfl) rfl rfl (by (apply zD;exact zG rfl;exact zF)) (List.nil_sublist _) .nil
 ·(refine sRz<|vAz<|nNz<|zI<|sRz<|vMz ?_;refine lvz (.lssF rfl rfl (by omega)) ?_;refine nNz<|cFz<|zJ<|thenN<|zI<|sRz<|vMz<|vMz ?_;apply LW.v0;rfl;rfl;apply ValP.capS;rfl;infer_instance;rfl;refine vMz<|lvz (.lenR rfl inferInstance rfl) ?_;refine lvz (.subZ rfl rfl (by omega) (by omega)) ?_;refine lvz (.subZ rfl rfl (by omega) (by omega)) ?_;refine vAz<|nSz<|vMz ?_;refine lvz (.gtrT rfl rfl (by omega)) ?_;refine nNz<|cTz<|zL<|vMz<|vMz ?_;apply LW.v0;rfl;rfl;apply ValP.capS;rfl;infer_instance;rfl;refine lvz (.cutTo inferInstance inferInstance rfl rfl (by omega)) ?_;refine vMz ?_)
  refine LW.appendZ (m:=n) (n:=0) (xs:=[]) (seg:=[]) (pre:=[]) (v:=.slice none 0 0) rfl rfl inferInstance inferInstance inferInstance inferInstance rfl rfl rfl (congrArg (fun z=>some (Value.int .i64 z)) (by omega)) (AtSeg.head (seg:=[])) .nil (by simp only [maxLen];omega) (by omega) ?_
  intro v' seg' h'
  refine ⟨seg'++_,AtSeg.head,?_⟩
  rw [qN] at h'
  obtain ⟨q',c',rfl⟩:=id h'.form
  obtain ⟨g,cur,rfl,rfl,h1,h2,h3,h4⟩:=h'.pos h0
  (refine vMz<|lvz (.lenR rfl inferInstance rfl) ?_;refine lvz (.cutTo inferInstance inferInstance rfl rfl (by omega)) ?_;refine vAz<|nSz<|vMz<|vAz<|nNz<|zK ?_)
  refine fin (vs:=[.slice (some ⟨g,0,none⟩) 0 _]) [(g,.cells cur 5 (0,0))] (.inl rfl) rfl rfl (by (apply zD;exact zG rfl;exact zF)) (qP _ _) (.own (Nat.zero_le _) h2 h3 (by simp) rfl)
def catL (l:List (Value × List UInt8)):List UInt8:=l.flatMap fun x=>x.2
theorem catL_snoc (l:List (Value × List UInt8)) (k:Nat) (h:k < l.length):catL (l.take (k+1))=catL (l.take k)++l[k].2:=by
 unfold catL
 rw [List.take_succ_eq_append_getElem h,List.flatMap_append]
 simp
theorem catL_le (l:List (Value × List UInt8)) (k:Nat):(catL (l.take k)).length≤(catL l).length:=by
 have h:catL l=catL (l.take k)++catL (l.drop k):=by
  unfold catL
  rw [← List.flatMap_append,List.take_append_drop]
 rw [h,List.length_append]
 omega
structure CX where
 k:Nat
 v:Value
 seg:Fs
theorem Concat_calls (l:List (Value × List UInt8)) (lv:Value) (w:World) (hl:RowAt w 1 lv l.length (vcs l)) (hr:∀ x∈l,RowAt w 1 x.1 x.2.length (ucs x.2)) (hb:(catL l).length≤100000) :
  Calls Tryz.prog 107 #[lv] w (RetG w [] (bM (catL l))):=by
 obtain ⟨p,c,rfl,hc,hm⟩:=id hl.form
 simp only [maxLen] at hm
 refine enter (args:=[_]) _ [] [] Tryz.func107 rfl Tryz.ntmps107 rfl (by simp) .nil ?_
 (refine sRz<|vAz<|nSz<|vAz<|nNz<|zI<|sRz<|vMz<|lvz (.lenR rfl inferInstance rfl)<|vMz<|nNz<|zM ?_)
 refine CW.loop (fun k:Nat=>([(11,.int .i64 (k:Int)),(10,.int .i64 (l.length:Int)),(9,.slice p l.length c),(3,.int .i64 ((catL (l.take k)).length:Int)),(0,.slice p l.length c)],[]))
  (fun k=>k≤l.length) (fun k=>l.length - k) 0 (Nat.zero_le _) ⟨rfl,rfl,rfl,rfl,rfl,trivial⟩ (qM _) ?_
 intro k hk
 dsimp only at hk ⊢
 have hkl:=catL_le l k
 rcases Nat.lt_or_ge k l.length with hlt|hge
 ·obtain ⟨bt,offt,ct',cst,Et,frt,heqt,hbt',hxt⟩:=hl.pos (by omega)
  cases heqt
  have hrdt:Rd Tryz.prog 22 (.cells cst Et frt) (offt+k * 1) l[k].1:=Rd.elem1 hxt (vcs_one l) (List.getElem?_eq_getElem hlt) rfl
  have hx:=hr _ (List.getElem_mem hlt)
  have hsn:=congrArg List.length (catL_snoc l k hlt)
  have hkl2:=catL_le l (k+1)
  rw [List.length_append] at hsn
  obtain ⟨px,cx,hpx,hcx,hmx⟩:=id hx.form
  rw [hpx] at hrdt
  generalize l[k].2=y at *
  (refine sRz ?_;refine lvz (.lssT rfl rfl (by omega)) ?_;refine nNz<|zI<|cTz<|zJ<|thenN<|zI<|zM<|sRz ?_;refine lvz (.indexAddrS rfl rfl rfl (by omega)) ?_;apply LW.load;rfl;rfl;exact Known.ext (by assumption) (by simp);assumption;refine vAz<|nSz<|vMz<|vMz<|lvz (.lenR rfl inferInstance rfl) ?_;refine lvz (.addZ rfl rfl (by omega)) ?_;refine vAz<|nSz<|vMz ?_;refine lvz (.lssF rfl rfl (by omega)) ?_;refine nNz<|cFz<|zJ<|blkN<|thenN<|zL ?_;refine lvz (.addZL rfl rfl (by decide) (by omega)) ?_;refine vMz ?_;apply zV)
  apply thenX
  refine ⟨rfl,k+1,hlt,by omega,⟨rfl,rfl,rfl,?_,rfl,trivial⟩,qM _⟩
  rw [hsn]
  rfl
 ·obtain rfl:k=l.length:=by omega
  rw [List.take_length]
  (refine sRz ?_;refine lvz (.lssF rfl rfl (by omega)) ?_;refine nNz<|zI<|cFz<|CW.exit<|thenE<|thenE<|blkE rfl<|thenN<|sRz<|vMz ?_)
  refine LW.callR rfl rfl inferInstance (by (exact .cons rfl (.cons rfl .nil))) (fun w hst=>Grow_calls (catL l).length (by omega) w) ?_
  rintro v gs hgs
  (refine vAz<|nNz<|zI<|sRz<|vMz<|lvz (.lenR rfl inferInstance rfl)<|vMz<|nNz<|zM ?_)
  clear hkl hk hge
  refine CW.loop (fun x:CX=>([(27,.int .i64 (x.k:Int)),(26,.int .i64 (l.length:Int)),(25,.slice p l.length c),(6,x.v)],x.seg++[]))
   (fun x=>x.k≤l.length∧IsRow 5 1 x.v (catL (l.take x.k)).length (ucs (catL (l.take x.k))) x.seg) (fun x=>l.length - x.k) ⟨0,v,gs⟩
   ⟨Nat.zero_le _,hgs⟩ ⟨rfl,rfl,rfl,rfl,trivial⟩ (qM _) ?_
  rintro ⟨k,v,seg⟩ ⟨hk,hR⟩
  dsimp only at hk hR ⊢
  have hkl:=catL_le l k
  obtain ⟨pv,cv,rfl⟩:=hR.form
  rcases Nat.lt_or_ge k l.length with hlt|hge
  ·obtain ⟨bt,offt,ct',cst,Et,frt,heqt,hbt',hxt⟩:=hl.pos (by omega)
   cases heqt
   have hrdt:Rd Tryz.prog 22 (.cells cst Et frt) (offt+k * 1) l[k].1:=Rd.elem1 hxt (vcs_one l) (List.getElem?_eq_getElem hlt) rfl
   have hx:=hr _ (List.getElem_mem hlt)
   have hsn:=catL_snoc l k hlt
   have hkl2:=catL_le l (k+1)
   obtain ⟨px,cx,hpx,hcx,hmx⟩:=id hx.form
   rw [hpx] at hrdt hx
   generalize l[k].2=y at *
   have hsl:=congrArg List.length hsn
   rw [List.length_append] at hsl
   (refine sRz ?_;refine lvz (.lssT rfl rfl (by omega)) ?_;refine nNz<|zI<|cTz<|zJ<|thenN<|zI<|zM<|sRz ?_;refine lvz (.indexAddrS rfl rfl rfl (by omega)) ?_;apply LW.load;rfl;rfl;exact Known.ext (by assumption) (by simp);assumption;refine vAz<|nNz<|zL<|vMz<|vMz ?_)
   refine LW.appendAny (n:=(catL (l.take k)).length) (m:=y.length) (news:=ucs y) rfl rfl inferInstance inferInstance inferInstance rfl rfl rfl (by (exact AtSeg.head)) hR (fun w hs=>hx.st hs) (ucs_cells _) (by simp only [maxLen];omega) (by omega) ?_
   intro vy segy hrowy
   refine ⟨_,(by (exact AtSeg.head)),?_⟩
   rw [← ucs_app,← hsn,← hsl] at hrowy
   (refine vAz ?_;apply zV;refine blkN<|thenN<|zL ?_;refine lvz (.addZL rfl rfl (by decide) (by omega)) ?_;refine vMz ?_;apply zV)
   apply thenX
   exact ⟨rfl,⟨k+1,vy,segy⟩,⟨hlt,hrowy⟩,by show l.length - (k+1) < l.length - k;omega,⟨rfl,rfl,rfl,rfl,trivial⟩,qM _⟩
  ·obtain rfl:k=l.length:=by omega
   rw [List.take_length] at hR ⊢
   (refine sRz ?_;refine lvz (.lssF rfl rfl (by omega)) ?_;refine nNz<|zI<|cFz<|CW.exit<|thenE<|thenE<|blkE rfl<|thenN<|sRz<|vMz<|vAz<|nNz<|zK ?_)
   refine fin (vs:=[_]) seg (.inl rfl) rfl rfl (by (apply zD;exact zG rfl;exact zF)) (qP _ _) hR
def putL (X j:Nat):List UInt8:=List.replicate (8 - j) 0++(beb 8 X).drop (8 - j)
theorem putL_len (X j:Nat):(putL X j).length=8:=by
 unfold putL
 rw [List.length_append,List.length_replicate,List.length_drop,beb_len]
 omega
theorem putL_get (X j i:Nat) (h:i < 8):(putL X j)[i]?=some (if i < 8 - j then 0 else UInt8.ofNat (X / 256 ^ (7 - i))):=by
 unfold putL
 split
 ·rename_i h2
  rw [List.getElem?_append_left (by simpa using h2),List.getElem?_replicate,if_pos h2]
 ·rename_i h2
  rw [List.getElem?_append_right (by simp;omega),List.length_replicate,List.getElem?_drop,show 8 - j+(i - (8 - j))=i by omega,beb_get _ _ _ h]
theorem putL_step (X j:Nat) (h:j < 8):(putL X j).take (7 - j)++[UInt8.ofNat (X / 256 ^ j)]++(putL X j).drop (7 - j+1)=putL X (j+1):=by
 apply List.ext_getElem?
 intro i
 have hl:=putL_len X j
 rcases Nat.lt_or_ge i 8 with hi|hi
 ·rw [putL_get X (j+1) i hi]
  rcases Nat.lt_trichotomy i (7 - j) with h1|h1|h1
  ·rw [List.append_assoc,List.getElem?_append_left (by rw [List.length_take];omega),List.getElem?_take_of_lt h1,putL_get X j i hi,if_pos (by omega),if_pos (by omega)]
  ·subst h1
   rw [List.append_assoc,List.getElem?_append_right (by rw [List.length_take];omega),List.length_take,show 7 - j - min (7 - j) (putL X j).length=0 by omega,if_neg (by omega),show 7 - (7 - j)=j by omega]
   rfl
  ·rw [List.getElem?_append_right (by rw [List.length_append,List.length_take,List.length_singleton];omega),List.length_append,List.length_take,List.length_singleton,List.getElem?_drop,show 7 - j+1+(i - (min (7 - j) (putL X j).length+1))=i by omega,putL_get X j i hi,if_neg (by omega),if_neg (by omega)]
 ·rw [List.getElem?_eq_none (by rw [List.length_append,List.length_append,List.length_take,List.length_singleton,List.length_drop];omega),List.getElem?_eq_none (by rw [putL_len];omega)]
theorem putL_done (X j:Nat) (h:X / 256 ^ j=0) (hj:j≤8):putL X j=beb 8 X:=by
 apply List.ext_getElem?
 intro i
 rcases Nat.lt_or_ge i 8 with hi|hi
 ·rw [putL_get X j i hi,beb_get _ _ _ hi]
  split
  ·rename_i h2
   have:X / 256 ^ (8 - 1 - i)=0:=by
    have h3:256 ^ j≤256 ^ (8 - 1 - i):=Nat.pow_le_pow_right (by decide) (by omega)
    have h4:X < 256 ^ j:=by
     rcases Nat.lt_or_ge X (256 ^ j) with h|h5
     ·exact h
     ·have:=Nat.div_pos h5 (Nat.pow_pos (by decide))
      omega
    exact Nat.div_eq_of_lt (by omega)
   rw [this]
   rfl
  ·rfl
 ·rw [List.getElem?_eq_none (by rw [putL_len];omega),List.getElem?_eq_none (by rw [beb_len];omega)]
theorem put_zero (X:Nat):putL X 0=List.replicate 8 0:=by
 unfold putL
 rw [List.drop_eq_nil_of_le (by rw [beb_len];omega),List.append_nil]
theorem ucs_zero (n:Nat):ucs (List.replicate n 0)=List.replicate n (Value.int .u8 0):=by
 rw [ucs_map,List.map_replicate]
 rfl
theorem Put64_calls (X:Nat) (hX:X < 18446744073709551616) (w:World):Calls Tryz.prog 108 #[.slice none 0 0,.int .u64 (X:Int)] w (RetG w [] (bM (beb 8 X))):=by
 refine enter (args:=[_,_]) _ [] [] Tryz.func108 rfl Tryz.ntmps108 rfl (by simp) .nil ?_
 (refine sRz<|vAz<|nNz<|CW.scope<|sRz<|vMz<|lvz (.lenR rfl inferInstance rfl) ?_;refine lvz (.addZL rfl rfl (by decide) (by omega)) ?_)
 refine LW.makeRow (n:=8) rfl inferInstance inferInstance inferInstance rfl rfl (by decide) (by decide) ?_
 intro v seg hrow
 obtain ⟨p,c,rfl⟩:=id hrow.form
 (refine vAz<|nSz<|vMz<|vMz ?_)
 (apply LW.copyNone;rfl;rfl;infer_instance;infer_instance;infer_instance;rfl;rfl;exact Nat.zero_min _)
 (refine nSz<|vMz<|lvz (.lenR rfl inferInstance rfl)<|vAz<|nNz<|zI<|CW.label<|thenN<|zI<|zM ?_)
 refine CW.loop (fun x:Nat × Fs=>([(6,.int .i64 ((8 - x.1:Nat):Int)),(1,.int .u64 ((X / 256 ^ x.1:Nat):Int)),(0,.slice none 0 0),(5,.slice p 8 c)],x.2++[]))
  (fun x=>x.1≤8∧IsRow 5 1 (.slice p 8 c) 8 (ucs (putL X x.1)) x.2) (fun x=>8 - x.1) (0,seg)
  ⟨Nat.zero_le _,by dsimp only;rw [put_zero,ucs_zero];exact hrow⟩ ⟨rfl,by show some (Value.int .u64 (X:Int))=_;simp,rfl,rfl,trivial⟩ (qM _) ?_
 rintro ⟨j,sg⟩ ⟨hj,hR⟩
 dsimp only at hj hR ⊢
 have hstep:=putL_step X j
 have hdone:=fun h=>putL_done X j h hj
 have hd8:X / 256 ^ j / 2 ^ 8=X / 256 ^ (j+1):=by show X / 256 ^ j / 256=X / 256 ^ (j+1);rw [Nat.div_div_eq_div_mul,Nat.pow_succ]
 have hj8:j=8→X / 256 ^ j=0:=fun h=>by subst h;exact Nat.div_eq_of_lt (by omega)
 have hxl:X / 256 ^ j < 18446744073709551616:=Nat.lt_of_le_of_lt (Nat.div_le_self _ _) hX
 generalize X / 256 ^ j=x at hstep hdone hd8 hj8 hxl ⊢
 by_cases hx:x=0
 ·rw [hdone hx] at hR
  subst hx
  (refine zM<|zI<|sRz<|vMz ?_;refine lvz (.subI rfl rfl (by omega) (by omega)) ?_;refine vAz<|nSz<|vMz ?_;refine lvz (.eqT rfl rfl (by omega)) ?_;refine vMz ?_;(iterate 4 refine gFz ?_);refine pTz<|nNz<|cTz<|CW.exit<|thenE<|blkO rfl<|thenE<|blkE rfl<|thenN<|sRz<|vMz<|vAz<|nNz<|zK ?_;refine scopeQ.r ?_)
  exact fin (vs:=[.slice p 8 c]) sg (.inl rfl) rfl rfl (by (apply zD;exact zG rfl;exact zF)) (qP _ _) hR
 ·have hj2:j < 8:=by
   rcases Nat.lt_or_ge j 8 with h|h
   ·exact h
   ·exact absurd (hj8 (by omega)) hx
  obtain ⟨g,cur,rfl,rfl,h1,h2,h3,h4⟩:=hR.pos (by omega)
  obtain ⟨w1,w2⟩:=wr_take (i:=8 - j - 1) (vs:=[Value.int .u8 ((UInt8.ofNat x).toNat:Int)]) h4 rfl (by omega) (by omega)
  have e3:(ucs (putL X j)).take ((8 - j - 1) * 1)++[Value.int .u8 ((UInt8.ofNat x).toNat:Int)]++(ucs (putL X j)).drop ((8 - j - 1+1) * 1)=ucs (putL X (j+1)):=by
   rw [ucs_take,ucs_drop,← hstep hj2,ucs_app,ucs_app,show 8 - j - 1=7 - j by omega]
   rfl
  rw [e3] at w1
  have hb:((x % 256:Nat):Int)=((UInt8.ofNat x).toNat:Int):=by rw [UInt8.toNat_ofNat']
  have hW:Wr Tryz.prog 5 (.cells cur 5 (0,0)) (0+(8 - j - 1) * 1) (.int .u8 ((x % 256:Nat):Int)) (.cells (wrCells cur ((8 - j - 1) * 1) [Value.int .u8 ((UInt8.ofNat x).toNat:Int)]) 5 (0,0)):=by
   rw [hb]
   exact Wr.cells rfl rfl (by rw [h3];show 0+(8 - j - 1) * 1+1≤c * 1;omega) (by rw [qN];rfl)
  (refine zM<|zI<|sRz<|vMz ?_;refine lvz (.subZL rfl rfl (by decide) (by omega) (by omega)) ?_;refine vAz<|nSz<|vMz ?_;refine lvz (.eqF rfl rfl (by omega)) ?_;refine vMz<|gTz<|vMz<|gTz<|vMz<|gTz<|lvz (.lenR rfl inferInstance rfl)<|gTz ?_;refine lvz (.lssF rfl rfl (by omega)) ?_;refine pFz<|nNz<|cFz<|zJ<|thenN<|sRz<|vMz<|vMz<|vMz<|lvz (.convB rfl) ?_;refine lvz (.indexAddrS rfl rfl rfl (by omega)) ?_;refine zR rfl rfl .head hW<|nNz<|zL<|vMz ?_;refine lvz (.shrUL rfl rfl (by decide) (by omega)) ?_;refine vAz ?_;apply zV;refine blkN ?_)
  apply thenX
  refine ⟨rfl,(j+1,_),⟨hj2,.own h1 h2 (by rw [w2,h3]) w1 ?_⟩,by show 8 - (j+1) < 8 - j;omega,⟨?_,?_,rfl,rfl,trivial⟩,qM _⟩
  ·rw [ucs_len,putL_len]
  ·rw [show 8 - (j+1)=8 - j - 1 by omega]
   rfl
  ·rw [← hd8]
   rfl
theorem aBytes_calls (X:Nat) (hX:X < 18446744073709551616) (w:World):Calls Tryz.prog 71 #[.int .u64 (X:Int)] w (RetG w [] (bM (beb 8 X))):=by
 refine enter (args:=[_]) _ [] [] Tryz.func71 rfl Tryz.ntmps71 rfl (by simp) .nil ?_
 (refine sRz<|vAz<|nSz<|vMz ?_)
 refine LW.callR rfl rfl inferInstance (by (exact .cons rfl (.cons rfl .nil))) (fun w hst=>Put64_calls X hX w) ?_
 intro v gs h
 have h':=h
 unfold bM at h'
 obtain ⟨p,c,rfl⟩:=h'.form
 (refine vAz<|nNz<|zK ?_)
 exact fin (vs:=[_]) gs (.inl rfl) rfl rfl (by (apply zD;exact zG rfl;exact zF)) (qP _ _) h
theorem joined_calls (l:List (Value × List UInt8)) (lv:Value) (w:World) (hl:RowAt w 1 lv l.length (vcs l)) (hr:∀ x∈l,RowAt w 1 x.1 x.2.length (ucs x.2)) (hb:(catL l).length≤100000) :
  Calls Tryz.prog 70 #[lv] w (RetG w [] (bM (catL l))):=by
 refine enter (args:=[_]) _ [] [] Tryz.func70 rfl Tryz.ntmps70 rfl (by simp) .nil ?_
 (refine sRz<|vAz<|nSz<|vMz ?_)
 refine LW.callR rfl rfl inferInstance (by (exact .cons rfl .nil)) (fun w hst=>Concat_calls l lv w (hl.st hst) (fun x hx=>(hr x hx).st hst) hb) ?_
 intro v gs h
 have h':=h
 unfold bM at h'
 obtain ⟨p,c,rfl⟩:=h'.form
 (refine vAz<|nNz<|zK ?_)
 exact fin (vs:=[_]) gs (.inl rfl) rfl rfl (by (apply zD;exact zG rfl;exact zF)) (qP _ _) h
end Go.Proofs.YtpgdnfgjbhdbpaaGreatDoor
namespace Go.Proofs.YtpgdnfgjbhdbpaaGreatDoor.SL
set_option linter.unusedVariables false
set_option linter.unusedSimpArgs false
open Go Go.RowKit
def muX (l:List (Nat × Rel1 × List Operand)):Mu:=fun k=>(l.find? fun p=>Nat.beq p.1 k).map fun p=>(cst p.2.1,⟨false,p.2.2⟩)
def exOkB (ops:Array Oper) (l:List (Nat × List Operand)):Bool:=l.all fun p=>p.2.all fun x=>match x with
 |.tmp d=>(List.range ops.size).all fun i=>match ops[i]? with
  |some o=>(match o.dst with|some d'=>!Nat.beq d' d ||ancB ops p.1 [i]|none=>true)
  |none=>true
 |_=>true
theorem exOk_of {ops:Array Oper} {l:List (Nat × Rel1 × List Operand)} (h:exOkB ops (l.map fun p=>(p.1,p.2.2))=true):ExOk ops (muX l):=by
 intro j x hx i o d ho hd he
 subst he
 unfold muX at hx
 cases hf:l.find? fun p=>Nat.beq p.1 j with
 |none=>rw [hf] at hx;cases hx
 |some p =>
  rw [hf] at hx
  have hp:=List.mem_of_find?_eq_some hf
  have hj:p.1=j:=Nat.eq_of_beq_eq_true (by have h9:=List.find?_some hf;exact h9)
  unfold exOkB at h
  have h1:=List.all_eq_true.1 h (p.1,p.2.2) (List.mem_map.2 ⟨p,hp,rfl⟩)
  have h2:=List.all_eq_true.1 h1 (.tmp d) hx
  have hi:i < ops.size:=(Array.getElem?_eq_some_iff.1 ho).1
  have h3:=List.all_eq_true.1 h2 i (List.mem_range.2 hi)
  simp only [ho,hd] at h3
  have hb:Nat.beq d d=true:=Nat.beq_refl d
  rw [hb,hj] at h3
  exact ancB_spec (by simpa using h3) i List.mem_cons_self
theorem AnyW.anyX {C:Cu} {id:Nat} {l:List Oper} {Q:Post} {fs:Fs} {e:Env} (ms:List (Nat × Rel1 × List Operand)) (n:Nat) (hm:C.P.follows .mixedOrders=true) (hB:headB l.toArray n=true) (hE:exOkB l.toArray (ms.map fun p=>(p.1,p.2.2))=true) (h:DW C l.toArray (muX ms) Q (l.drop n) (l.take n) 0 e (tsOf fs)) :
  AnyW C id l Q e fs:=CW.any (muX ms) n (exOk_of hE) hm hB h
theorem args_flat {e:Env}:∀ {xs:List Operand} {vs:List Value},ArgsOk e xs vs→∀ ρ,Ev e ρ→xs.flatMap (fun x=>blocksN 4 (ρ x))=vs.flatMap (blocksN 4)
 |_,_,.nil,_,_=>rfl
 |_,_,.cons h hs,ρ,hρ=>by rw [List.flatMap_cons,List.flatMap_cons,args_flat hs ρ hρ,hρ _ _ h]
section dw
variable {C : Cu} {ops : Array Oper} {Q : Post} {tl rest : List Oper} {e : Env} {ts : Ts} {μ : Mu} {k d : Nat} {t : TypeId} {pos : String} {af : Array Edge} {g : Option (Nat × Bool)} {fo : Operand} {args : Array Operand} {tys : Array TypeId} {f : FuncId} {vs : List Value}
theorem DW.manyX {M:Rel1} {xs:List Operand} {xv:List Value} (us:Fs) (hk:ops[k]?=some ⟨some d,.call { callee:=.value fo,args:=args,argTypes:=tys },t,pos,af,g⟩) (hm:μ k=some (cst M,⟨false,xs⟩))
  (hd:Nat.blt d C.N=true) (hg:WantT ops e g) (hf:e.ev fo=some (.func (.func f) #[] #[])) (hF:FnI C.P f) (ha:ArgsOk e args.toList vs) (hxs:ArgsOk e xs xv) (hbl:(xv++vs).flatMap (blocksN 4)=us.map (·.1)) (hl:∀ p∈us,Lie C ops k ts p)
  (hc:∀ w,Bel C.w0.heap.size C.S C.w0 w→(∀ p∈us,w.heap[p.1]?=some p.2)→Calls C.P f vs.toArray w (RetG w [] M)) (kk:∀ v gs,M v gs→DW C ops μ Q tl rest (k+1) ((d,v)::e) (tsNew k gs++markAll k ts)) :
  DW C ops μ Q tl (⟨some d,.call { callee:=.value fo,args:=args,argTypes:=tys },t,pos,af,g⟩::rest) k e ts:=by
 obtain ⟨ts',h1,h2⟩:=read_all us (MoreR.refl ts) (MoreR.mark ts) hl
 rw [← hbl] at h1
 refine DW.many (xs:=xs) (fun _=>rfl) hk hm hd hg (fun ρ hρ=>?_) (.fn hf ha) h1 (fun w h1 h2=>by rw [arr_id];exact hc w h1 h2) fun v gs hM=>DW.moreA (more_app _ h2) (kk v gs hM)
 show xs.flatMap (fun x=>blocksN 4 (ρ x))++_=_
 rw [touch_call hf ha hρ,args_flat hxs ρ hρ,List.flatMap_append,List.flatMap_cons]
 rfl
end dw
end Go.Proofs.YtpgdnfgjbhdbpaaGreatDoor.SL
namespace Go.Proofs.YtpgdnfgjbhdbpaaGreatDoor
open Go Go.RowKit SL
set_option maxRecDepth 8000
set_option maxHeartbeats 4000000
set_option linter.unusedSimpArgs false
set_option linter.unusedVariables false
attribute [local irreducible] SL.CW SL.LW SL.DW Calls SL.Ret SL.RetG SL.beginQ SL.roundQ SL.rangeQ SL.RW SL.AnyW SL.thenQ SL.thenC SL.thenW SL.blkQ SL.finQ SL.ValP SL.NewP SL.SetP SL.CallP SL.Rd SL.Wr SL.Known
section
open SK (sumB Sum_calls TurnAt NumAt)
open UK (adr adr_lt aRead_calls)
attribute [local irreducible] SK.padB SK.sumB
theorem sum_len (b:List UInt8):(sumB b).length=32:=by unfold SK.sumB;rw [SK.idF_len]
def crL (a salt:Nat) (D:List UInt8):List UInt8:=255::(beb 8 a++(beb 32 salt++D))
def createdA (a salt:Nat) (b:List UInt8):Nat:=adr (sumB (crL a salt (sumB b)))
theorem createdA_lt (a salt:Nat) (b:List UInt8):createdA a salt b < 18446744073709551616:=adr_lt _
theorem Created_calls (a salt:Nat) (b:List UInt8) (ha:a < 18446744073709551616) (hs:salt < M256) (v:Value) (w:World) (hv:RowAt w 1 v b.length (ucs b)) (hb:b.length≤100000) (hT:TurnAt w) (hN:NumAt w) :
  Calls Tryz.prog 34 #[.int .u64 (a:Int),wv salt,v] w (Ret w (.int .u64 (createdA a salt b:Int))):=by
 have hlen:=sum_len b
 have hcr:createdA a salt b=adr (sumB (crL a salt (sumB b))):=rfl
 have hSum0:∀ w' {fs},St w [] fs w'→Calls Tryz.prog 69 #[v] w' (Ret w' (.agg (uca (sumB b)))):=fun w' fs hst=>Sum_calls b v w' (hv.st hst) hb (hT.st hst) (hN.st hst)
 obtain ⟨D,hD⟩:∃ D,sumB b=D:=⟨_,rfl⟩
 have hSum:=@hSum0
 rw [hD] at hSum hlen hcr
 rw [hcr]
 have hlen2:=sum_len (crL a salt D)
 obtain ⟨D2,hD2⟩:∃ D2,sumB (crL a salt D)=D2:=⟨_,rfl⟩
 rw [hD2] at hlen2 ⊢
 have hRead:∀ (g:Nat) (w':World) {fs:Fs},St w [] fs w'→w'.heap[g]?=some (.cells (uca D2) 107 (0,0))→Calls Tryz.prog 73 #[.slice (some ⟨g,0,none⟩) 32 32] w' (Ret w' (.tuple #[.int .u64 (adr D2:Int),.int .i64 0])):=fun g w' fs _ h=>by
  have h2:=own_row (off:=0) (n:=32) (c:=32) h (by omega) (Nat.le_refl _) (by simp only [maxLen];omega)
  rw [List.drop_zero,List.take_of_length_le (by omega)] at h2
  exact aRead_calls D2 _ w' (by rw [hlen2];exact h2) (by omega)
 refine enter (args:=[_,_,_]) _ [] [] Tryz.func34 rfl Tryz.ntmps34 rfl (by simp) .nil ?_
 (refine sRz ?_;apply zT;rfl;rfl;intro _;refine vAz<|nSz<|vMz ?_;apply zS;rfl;rfl;infer_instance;exact .cons rfl .nil;intro w _;rename_i hst;exact hSum w hst;apply zU;rfl;intro _;apply zR;rfl;rfl;apply qA;apply wr_ucaO;rfl;assumption;refine nNz<|zI ?_)
 rename_i b4 b7
 apply CW.pre
 refine AnyW.anyX [(2,bM (beb 8 a),[]),(4,(fun v gs=>IsRow 5 1 v 32 (ucs (beb 32 salt)) gs),[]),(7,bM (crL a salt D),[.tmp 13,.tmp 15,.tmp 17,.tmp 18])] 10 mixed (by decide +kernel) (by kernel_rfl) ?_
 ((try simp only [tsOf_cons,tsOf_nil,tsOf_app]);apply DW.lay1;rfl;rfl;rfl;exact zC;infer_instance;infer_instance;rfl;rfl;rfl;rfl;rfl;rfl;intro _;refine dvz (.move rfl) ?_)
 (apply DW.manyE;rfl;rfl;rfl;exact zC;rfl;infer_instance;exact .cons rfl .nil;rfl;exact ReadAll.nil;intro w _ _)
 exact aBytes_calls a ha w
 rintro v15 g15 h15
 have h15':=h15
 unfold bM at h15'
 obtain ⟨q15,k15,rfl⟩:=id h15'.form
 obtain ⟨u15,hbl15,hin15,hrows15⟩:=rowU_own h15'
 ((try simp only [tsOf_cons,tsOf_nil,tsOf_app]);apply qD;rfl;rfl;rfl;exact zC;rfl;apply zQ;apply zO;apply zO;apply zP;exact zN;exact qF rfl)
 (apply DW.manyE;rfl;rfl;rfl;exact zC;rfl;infer_instance;exact .cons rfl .nil;rfl;exact ReadAll.nil;intro w _ _)
 exact Bytes_calls salt hs w
 rintro v17 g17 h17
 obtain ⟨q17,k17,rfl⟩:=id h17.form
 obtain ⟨u17,hbl17,hin17,hrows17⟩:=rowU_own h17
 ((try simp only [tsOf_cons,tsOf_nil,tsOf_app]);refine dvz (.cutArrAll inferInstance inferInstance rfl) ?_)
 rename_i b13
 refine DW.new rfl rfl rfl (by (exact zC)) rfl (NewP.buildSN (vs:=[(0,.slice (some ⟨b13,0,none⟩) 1 1),(1,.slice q15 (beb 8 a).length k15),(2,.slice q17 32 k17),(3,.slice (some ⟨b7,0,none⟩) 32 32)]) (c:=#[.slice (some ⟨b13,0,none⟩) 1 1,.slice q15 (beb 8 a).length k15,.slice q17 32 k17,.slice (some ⟨b7,0,none⟩) 32 32]) inferInstance inferInstance (by (apply zA;rfl;apply zA;rfl;apply zA;rfl;apply zA;rfl;exact zB)) rfl rfl (by kernel_rfl) (by kernel_rfl)) fun b19=>?_
 simp only [Sh.val]
 ((try simp only [tsOf_cons,tsOf_nil,tsOf_app]))
 have hj:crL a salt D=catL [(.slice (some ⟨b13,0,none⟩) 1 1,[255]),(.slice q15 (beb 8 a).length k15,beb 8 a),(.slice q17 32 k17,beb 32 salt),(.slice (some ⟨b7,0,none⟩) 32 32,D)]:=by
  unfold catL crL
  simp
 refine DW.manyX ([(b13,.cells #[.int .u8 255] 5 (0,0))]++(u15++(u17++[(b7,.cells (uca D) 107 (0,0)),(b19,.cells #[.slice (some ⟨b13,0,none⟩) 1 1,.slice q15 (beb 8 a).length k15,.slice q17 32 k17,.slice (some ⟨b7,0,none⟩) 32 32] 22 (0,0))]))) (xv:=[.slice (some ⟨b13,0,none⟩) 1 1,.slice q15 (beb 8 a).length k15,.slice q17 32 k17,.slice (some ⟨b7,0,none⟩) 32 32]) rfl rfl rfl (by (exact zC)) rfl inferInstance (by (exact .cons rfl .nil)) (by (exact .cons rfl (.cons rfl (.cons rfl (.cons rfl .nil))))) ?_ ?_ ?_ ?_
 ·simp only [List.cons_append,List.nil_append,List.flatMap_cons,List.flatMap_nil,hbl15,hbl17,List.map_cons,List.map_append,List.map_nil]
  rfl
 ·intro p hp
  refine AncT.lie (by (refine AncT.cons ?_ ?_;kernel_rfl;refine AncT.app ?_ ?_;refine AncT.new ?_;kernel_rfl;refine AncT.app ?_ ?_;refine AncT.new ?_;kernel_rfl;refine AncT.cons ?_ ?_;kernel_rfl;refine AncT.cons ?_ ?_;exact zN;refine AncT.cons ?_ ?_;exact zN;exact AncT.nil)) ?_
  rcases List.mem_append.1 hp with hp|hp
  ·obtain rfl:=List.mem_singleton.1 hp
   simp [fsOf,tsOf,tsNew,tsTag,markAll,Function.comp_def]
  ·rcases List.mem_append.1 hp with hp|hp
   ·have hp:=hin15 p hp
    simp [fsOf,tsOf,tsNew,tsTag,markAll,Function.comp_def,hp]
   ·rcases List.mem_append.1 hp with hp|hp
    ·have hp:=hin17 p hp
     simp [fsOf,tsOf,tsNew,tsTag,markAll,Function.comp_def,hp]
    ·simp only [List.mem_cons,List.not_mem_nil,or_false] at hp
     rcases hp with rfl|rfl
     ·simp [fsOf,tsOf,tsNew,tsTag,markAll,Function.comp_def]
     ·simp [fsOf,tsOf,tsNew,tsTag,markAll,Function.comp_def]
 ·intro w' _ hu
  have hw13:w'.heap[b13]?=some (.cells #[.int .u8 255] 5 (0,0)):=hu (b13,_) (by simp)
  have hw7:w'.heap[b7]?=some (.cells (uca D) 107 (0,0)):=hu (b7,_) (by simp)
  have hw19:w'.heap[b19]?=some (.cells #[.slice (some ⟨b13,0,none⟩) 1 1,.slice q15 (beb 8 a).length k15,.slice q17 32 k17,.slice (some ⟨b7,0,none⟩) 32 32] 22 (0,0)):=hu (b19,_) (by simp)
  rw [hj]
  refine joined_calls _ _ w' (row_cells (n:=4) hw19 rfl rfl (by simp [maxLen])) (fun x hx=>?_) (by rw [← hj];unfold crL;simp only [List.length_cons,List.length_append,beb_len,hlen];omega)
  simp only [List.mem_cons,List.not_mem_nil,or_false] at hx
  rcases hx with rfl|rfl|rfl|rfl
  ·exact row_cells (n:=1) hw13 rfl rfl (by simp [maxLen])
  ·exact hrows15 w' fun q hq=>hu q (List.mem_append_right _ (List.mem_append_left _ hq))
  ·have h:=hrows17 w' fun q hq=>hu q (List.mem_append_right _ (List.mem_append_right _ (List.mem_append_left _ hq)))
   dsimp only
   rw [beb_len]
   exact h
  ·have h2:=own_row (off:=0) (n:=32) (c:=32) hw7 (by omega) (Nat.le_refl _) (by simp only [maxLen];omega)
   rw [List.drop_zero,List.take_of_length_le (by omega)] at h2
   dsimp only
   rw [hlen]
   exact h2
 rintro v20 g20 h20
 have h20':=h20
 unfold bM at h20'
 obtain ⟨q20,k20,rfl⟩:=id h20'.form
 obtain ⟨u20,hbl20,hin20,hrows20⟩:=rowU_own h20'
 (try simp only [markAll_cons,markAll_app,markAll_tsOf,markAll_tag,markAll_new,markAll_nil])
 ((try simp only [tsOf_cons,tsOf_nil,tsOf_app]))
 refine DW.callA u20 (v:=.agg (uca D2)) rfl rfl rfl (by (exact zC)) rfl inferInstance (by (exact .cons rfl .nil)) (by rw [List.flatMap_cons,hbl20];simp) (fun p hp=>AncT.lie (by (refine AncT.app ?_ ?_;refine AncT.new ?_;kernel_rfl;refine AncT.cons ?_ ?_;kernel_rfl;refine AncT.app ?_ ?_;refine AncT.tag ?_;kernel_rfl;refine AncT.app ?_ ?_;refine AncT.tag ?_;kernel_rfl;refine AncT.cons ?_ ?_;kernel_rfl;refine AncT.cons ?_ ?_;exact zN;refine AncT.cons ?_ ?_;exact zN;exact AncT.nil)) (by have hp:=hin20 p hp;simp [fsOf,tsOf,tsNew,tsTag,markAll,Function.comp_def,hp])) (fun w' hbw hu=>?_) ?_
 ·rw [← hD2]
  exact Sum_calls (crL a salt D) _ w' (hrows20 w' hu) (by unfold crL;simp only [List.length_cons,List.length_append,beb_len,hlen];omega) (hT.st ⟨hbw,(fun p h=>by cases h),.nil⟩) (hN.st ⟨hbw,(fun p h=>by cases h),.nil⟩)
 (try simp only [markAll_cons,markAll_app,markAll_tsOf,markAll_tag,markAll_new,markAll_nil])
 ((try simp only [tsOf_cons,tsOf_nil,tsOf_app]);apply DW.allocA;rfl;rfl;rfl;exact zC;intro _;apply DW.nil;simp only [fsOf_cons,fsOf_nil,fsOf_app,fsOf_tsOf,fsOf_new,fsOf_tag,fsOf_mark])
 (apply zR;rfl;rfl;apply qA;apply wr_ucaO;rfl;assumption;refine nSz<|lvz (.cutArrAll inferInstance inferInstance rfl) ?_;apply zS;rfl;rfl;infer_instance;exact .cons rfl .nil;intro w _;rename_i hst;(exact hRead _ w hst ((hst.own (_,.cells (uca D2) 107 (0,0)) (by (repeat (first|exact List.Mem.head _|apply List.Mem.tail)))).2));refine vMz ?_;refine vEz ?_;refine vEz ?_;refine vAz<|vAz<|nSz<|vMz<|vAz<|nNz<|zK ?_)
 (apply finR;exact .inl rfl;rfl;rfl;rfl;apply zD;exact zG rfl;exact zF)
 rfl
end
section
open SK (TurnAt NumAt)
open CK (CheckC_calls)
attribute [local irreducible] SL.inP wordI shq createdA
def creV (n:Nat):Nat:=min (timesV ((n+31) / 32) 6+3200) NOG
def keepV (g:Nat):Nat:=g - g / 64
def creC (c:ClV) (a g:Nat) (lv:Value):ClV:={ c with code:=lv,inp:=.slice none 0 0,dst:=a,self:=a,gas:=g }
def BCreatesK (b:Nat) (f:FrV) (A:AkV) (c:ClV) (l:List UInt8) (lv:Value) (salt:Nat) (rest:Fs):Out:=fun x fs' =>
 (¬ (l.length≤200∧creV l.length≤f.gas)∧x=.panicked offC∧fs'=rest) ∨
 ((l.length≤200∧creV l.length≤f.gas)∧x=.returned (.tuple #[])∧fs'=(b,bgO (f.setGas (f.gas - creV l.length - keepV (f.gas - creV l.length))) A (creC c (createdA f.self salt l) (keepV (f.gas - creV l.length)) lv))::rest)
theorem bcreates_calls (w0:World) (b:Nat) (f:FrV) (A:AkV) (c:ClV) (ws:List Nat) (hM:∀ x∈ws,x < M256) (h4:ws.length=4) (hg:f.gas≤20000) (hsf:f.self < 18446744073709551616) (l:List UInt8) (gl:Fs) (hlv:bM l c.inp gl) (hll:l.length≤100000) (rest:Fs) (hgl:∀ p∈gl,p∈rest)
  (hT:TurnAt w0) (hN:NumAt w0) (w:World) (hv:RowAt w0 4 A.ws ws.length (wcs ws)) (hs:St w0 [] ((b,bgO f A c)::rest) w) :
  Calls Tryz.prog 56 #[.pointer (some ⟨b,0,none⟩)] w (fun x w'=>∃ fs',BCreatesK b f A c l c.inp (ws.getD 3 0) rest x fs'∧St w0 [] fs' w'):=by
 obtain ⟨code,pc,stk,mem,gas,self,frm,val,inp,back,stat⟩:=f
 obtain ⟨cop,cdst,cself,cfrm,cval,cmv,cgas,cinp,ccode,cpl,cn,cstat⟩:=c
 obtain ⟨kind,op,aws,dt,cold,vl,new⟩:=A
 dsimp only at hg hsf hv hlv
 obtain ⟨bw,off,cc,cs,E,fr,heq,hbw,hx⟩:=hv.pos (by omega)
 subst heq
 have hrd:=word_rd (P:=Tryz.prog) (T:=29) (E:=E) (fr:=fr) hx 3 (by omega)
 have hw3:ws.getD 3 0 < M256:=by rw [List.getD_eq_getElem?_getD,List.getElem?_eq_getElem (by omega:3 < ws.length)];exact hM _ (List.getElem_mem _)
 obtain ⟨x0,hx0⟩:∃ x,ws.getD 3 0=x:=⟨_,rfl⟩
 rw [hx0] at hrd hw3 ⊢
 have hlv':=hlv
 unfold bM at hlv'
 obtain ⟨ql,kl,rfl⟩:=id hlv'.form
 obtain ⟨us,hbl,hin,hrows⟩:=rowU_own hlv'
 have hln:l.length < 18446744073709551616:=by omega
 have hrow:∀ w' {X:Fs},St w0 [] (X++rest) w'→RowAt w' 1 (.slice ql l.length kl) l.length (ucs l):=fun w' X hst=>bM_at hlv fun p hp=>(hst.own p (List.mem_append_right _ (hgl p hp))).2
 have hCk0:∀ w' {X:Fs},St w0 [] (X++rest) w'→Calls Tryz.prog 48 #[.slice ql l.length kl] w' (Ret w' (.int .i64 (if l.length≤200 then 0 else 3))):=fun w' X hst=>CheckC_calls _ _ _ w' (hrow w' hst)
 unfold BCreatesK creC
 dsimp only
 obtain ⟨k,hk⟩:∃ k,creV l.length=k:=⟨_,rfl⟩
 refine calls_anyO (calls_inlineP (K:=anyO fun x fs'=>(¬ (l.length≤200∧creV l.length≤gas)∧x=.panicked offC∧fs'=rest)∨((l.length≤200∧creV l.length≤gas)∧x=.returned (.tuple #[])∧fs'=(b,bgO (FrV.setGas ⟨code,pc,stk,mem,gas,self,frm,val,inp,back,stat⟩ (gas - creV l.length - keepV (gas - creV l.length))) ⟨kind,op,.slice (some ⟨bw,off,none⟩) ws.length cc,dt,cold,vl,new⟩ ⟨cop,createdA self x0 l,createdA self x0 l,cfrm,cval,cmv,keepV (gas - creV l.length),.slice none 0 0,.slice ql l.length kl,cpl,cn,cstat⟩)::rest)) (args:=[_]) Tryz.func56 rfl Tryz.ntmps56 rfl ?_ hs)
 by_cases hc:l.length≤200
 ·have hCk:∀ w' {c E},St w0 [] ([(b,.cells c E (0,0))]++rest) w'→Calls Tryz.prog 48 #[.slice ql l.length kl] w' (Ret w' (.int .i64 0)):=fun w' c E hst=>by have h:=hCk0 w' hst;rwa [if_pos hc] at h
  (refine sRz<|vMz<|vNz<|vFz<|vAz<|nSz<|vMz<|vMz<|vMz<|vNz<|vFz<|ldz rfl .head bg_rd36<|vNz<|vFz ?_;refine zR rfl rfl .head bg_wr37<|vNz<|vFz ?_;refine zR rfl rfl .head bg_wr36<|nNz<|zI<|sRz<|vMz<|vNz<|vFz<|ldz rfl .head bg_rd37 ?_;apply zS;rfl;rfl;infer_instance;exact .cons rfl .nil;intro w _;rename_i hst;exact hCk w hst;refine lvz (.neF rfl rfl (by omega)) ?_;refine nNz<|cFz<|zJ<|thenN<|sRz<|vMz<|vMz<|vNz<|vFz<|ldz rfl .head bg_rd37<|lvz (.lenR rfl inferInstance rfl) ?_;refine lvz (.convN rfl (by omega) (by omega)) ?_;apply zS;rfl;rfl;infer_instance;exact .cons rfl .nil;intro w _;exact Create_calls _ hln w)
  rw [show min (timesV ((l.length+31) / 32) 6+3200) NOG=k from hk]
  rw [hk]
  refine LW.callP (K:=fun x fs'=>(k≤gas∧x=.returned (.tuple #[])∧fs'=(b,bgO (FrV.setGas ⟨code,pc,stk,mem,gas,self,frm,val,inp,back,stat⟩ (gas - k)) ⟨kind,op,.slice (some ⟨bw,off,none⟩) ws.length cc,dt,cold,vl,new⟩ ⟨cop,cdst,cself,cfrm,cval,cmv,cgas,.slice none 0 0,.slice ql l.length kl,cpl,cn,cstat⟩)::rest)∨(gas < k∧x=.panicked offC∧fs'=rest)) rfl rfl inferInstance (by (exact .cons rfl (.cons rfl .nil))) rfl (fun fs h=>by rcases h with ⟨_,h,_⟩|⟨_,h,_⟩<;>cases h) (fun w' hst=>bspend_calls w0 b ⟨code,pc,stk,mem,gas,self,frm,val,inp,back,stat⟩ _ _ k (by dsimp only;omega) rest w' hst) ?_ ?_
  ·rintro v fs' (⟨hkg,h,rfl⟩|⟨_,h,_⟩)
   ·cases h
    change LW _ _ _ _ _ ((b,bgO ⟨code,pc,stk,mem,gas - k,self,frm,val,inp,back,stat⟩ ⟨kind,op,.slice (some ⟨bw,off,none⟩) ws.length cc,dt,cold,vl,new⟩ ⟨cop,cdst,cself,cfrm,cval,cmv,cgas,.slice none 0 0,.slice ql l.length kl,cpl,cn,cstat⟩)::rest)
    have hPart:∀ w,Calls Tryz.prog 33 #[.int .u64 ((gas - k:Nat):Int)] w (Ret w (.int .u64 ((keepV (gas - k):Nat):Int))):=fun w=>Part_calls (gas - k) (by omega) w
    (refine nNz<|zI ?_)
    apply CW.pre
    refine AnyW.any 20 mixed (by decide +kernel) ?_
    ((try simp only [tsOf_cons,tsOf_nil,tsOf_app]);refine dvz (.move rfl)<|dvz (.move rfl)<|dvz (.nilCheck rfl)<|dvz (.fieldAddr rfl rfl)<|dvz (.fieldAddr rfl rfl) ?_;apply qD;rfl;rfl;rfl;exact zC;rfl;apply zP;exact zN;exact bg_rd5;refine dvz (.move rfl)<|dvz (.nilCheck rfl)<|dvz (.fieldAddr rfl rfl)<|dvz (.fieldAddr rfl rfl) ?_;apply qD;rfl;rfl;rfl;exact zC;rfl;apply zP;exact zN;exact bg_rd21;refine dvz (.indexAddrSL rfl rfl (by decide) (by omega)) ?_;apply DW.loadX;rfl;rfl;rfl;exact zC;rfl;assumption;simp;assumption;refine dvz (.move rfl)<|dvz (.nilCheck rfl)<|dvz (.fieldAddr rfl rfl) ?_;apply qD;rfl;rfl;rfl;exact zC;rfl;apply zP;exact zN;exact bg_rd37)
    refine DW.callA us (v:=.int .u64 (createdA self x0 l:Int)) rfl rfl rfl (by (exact zC)) rfl inferInstance (by (exact .cons rfl (.cons rfl (.cons rfl .nil)))) (by rw [List.flatMap_cons,List.flatMap_cons,List.flatMap_cons,hbl];simp [blocksN,wc]) (fun p hp=>AncT.lie (by (refine AncT.cons ?_ ?_;exact zN;exact AncT.tsOf)) (by have hp:=hgl p (hin p hp);simp [fsOf,tsOf,tsNew,tsTag,markAll,Function.comp_def,hp])) (fun w' hbw hu=>Created_calls self x0 l hsf hw3 _ w' (hrows w' hu) hll (hT.st ⟨hbw,(fun p h=>by cases h),.nil⟩) (hN.st ⟨hbw,(fun p h=>by cases h),.nil⟩)) ?_
    (try simp only [markAll_cons,markAll_app,markAll_tsOf,markAll_tag,markAll_new,markAll_nil])
    ((try simp only [tsOf_cons,tsOf_nil,tsOf_app]);refine dvz (.nilCheck rfl)<|dvz (.fieldAddr rfl rfl) ?_;apply DW.nil;simp only [fsOf_cons,fsOf_nil,fsOf_app,fsOf_tsOf,fsOf_new,fsOf_tag,fsOf_mark])
    (apply zR;rfl;rfl;apply qA;apply bg_wr27 (z:=.int .u64 0);refine nNz<|zI ?_;apply CW.pre;refine AnyW.any 15 mixed (by decide +kernel) ?_;(try simp only [tsOf_cons,tsOf_nil,tsOf_app]);refine dvz (.move rfl)<|dvz (.move rfl)<|dvz (.move rfl)<|dvz (.nilCheck rfl)<|dvz (.fieldAddr rfl rfl) ?_;apply qD;rfl;rfl;rfl;exact zC;rfl;apply zP;exact zN;exact bg_rd27;refine dvz (.move rfl)<|dvz (.nilCheck rfl)<|dvz (.fieldAddr rfl rfl)<|dvz (.fieldAddr rfl rfl) ?_;apply qD;rfl;rfl;rfl;exact zC;rfl;apply zP;exact zN;exact bg_rd4;apply DW.callE;rfl;rfl;rfl;exact zC;rfl;infer_instance;exact .cons rfl .nil;rfl;exact ReadAll.nil;intro w _ _;exact hPart w;refine dvz (.nilCheck rfl)<|dvz (.fieldAddr rfl rfl) ?_;apply DW.store;rfl;rfl;exact zC;rfl;rfl;apply TSet.head;exact zN;kernel_rfl;apply bg_wr28 (z:=.int .u64 0);apply DW.nil;simp only [fsOf_cons,fsOf_nil,fsOf_app,fsOf_tsOf,fsOf_new,fsOf_tag,fsOf_mark];refine vNz<|vFz ?_;apply zR;rfl;rfl;apply qA;apply bg_wr35 (z:=.int .u64 0);refine nNz<|zL<|vMz<|vMz<|vNz<|vFz<|ldz rfl .head bg_rd35 ?_)
    refine LW.callP (K:=fun x fs'=>(keepV (gas - k)≤gas - k∧x=.returned (.tuple #[])∧fs'=(b,bgO (FrV.setGas ⟨code,pc,stk,mem,gas - k,self,frm,val,inp,back,stat⟩ (gas - k - keepV (gas - k))) ⟨kind,op,.slice (some ⟨bw,off,none⟩) ws.length cc,dt,cold,vl,new⟩ ⟨cop,createdA self x0 l,createdA self x0 l,cfrm,cval,cmv,keepV (gas - k),.slice none 0 0,.slice ql l.length kl,cpl,cn,cstat⟩)::rest)∨(gas - k < keepV (gas - k)∧x=.panicked offC∧fs'=rest)) rfl rfl inferInstance (by (exact .cons rfl (.cons rfl .nil))) rfl (fun fs h=>by rcases h with ⟨_,h,_⟩|⟨_,h,_⟩<;>cases h) (fun w' hst=>bspend_calls w0 b ⟨code,pc,stk,mem,gas - k,self,frm,val,inp,back,stat⟩ _ _ (keepV (gas - k)) (by dsimp only;omega) rest w' hst) ?_ ?_
    ·rintro v fs' (⟨hkg2,h,rfl⟩|⟨_,h,_⟩)
     ·cases h
      (apply zV)
      exact inPI (.inr rfl) .nil rfl .nil rfl ⟨_,.inr ⟨⟨hc,hkg⟩,rfl,rfl⟩,_,.refl _,.refl _⟩
     ·cases h
    ·rintro ch fs' (⟨_,h,_⟩|⟨hkg2,h,rfl⟩)
     ·cases h
     ·exact absurd hkg2 (by unfold keepV;omega)
   ·cases h
  ·rintro ch fs' (⟨_,h,_⟩|⟨hkg,h,rfl⟩)
   ·cases h
   ·cases h
    refine thenP ?_
    exact inPP .nil ⟨_,.inl ⟨fun h=>by omega,rfl,rfl⟩,_,.refl _,.refl _⟩
 ·have hCk:∀ w' {c E},St w0 [] ([(b,.cells c E (0,0))]++rest) w'→Calls Tryz.prog 48 #[.slice ql l.length kl] w' (Ret w' (.int .i64 3)):=fun w' c E hst=>by have h:=hCk0 w' hst;rwa [if_neg hc] at h
  (refine sRz<|vMz<|vNz<|vFz<|vAz<|nSz<|vMz<|vMz<|vMz<|vNz<|vFz<|ldz rfl .head bg_rd36<|vNz<|vFz ?_;refine zR rfl rfl .head bg_wr37<|vNz<|vFz ?_;refine zR rfl rfl .head bg_wr36<|nNz<|zI<|sRz<|vMz<|vNz<|vFz<|ldz rfl .head bg_rd37 ?_;apply zS;rfl;rfl;infer_instance;exact .cons rfl .nil;intro w _;rename_i hst;exact hCk w hst;refine lvz (.neT rfl rfl (by omega)) ?_;refine nNz<|cTz<|zL ?_;apply LW.v0;rfl;rfl;apply zW;infer_instance;infer_instance;exact zB;rfl;simp only [fillP,wrCells,Value.cells,qH,qI,qJ,qG,qL,qK,Nat.reduceAdd,qN];rfl;apply LW.v0;rfl;rfl;apply ValP.mkIface;kernel_rfl;rfl;apply LW.panic;rfl;refine thenP ?_)
  exact inPP .nil ⟨rest,.inl ⟨fun h=>hc h.1,rfl,rfl⟩,subp_ix [[_]] (xs:=[]) (ys:=[0]) rest rfl⟩
end
section
open SK (TurnAt NumAt)
theorem shq245:shq 245=(4,-1,0,1,-1,true):=rfl
attribute [local irreducible] SL.inP SL.inD SL.outD wordI shq createdA
theorem breachN_calls (b:Nat) (w:World):Calls Tryz.prog 90 #[.pointer (some ⟨b,0,none⟩),.int .i64 (-1)] w (Ret w (.tuple #[.slice none 0 0,.int .u64 0,.int .u64 0])):=by
 refine enter (args:=[_,_]) _ [] [] Tryz.func90 rfl Tryz.ntmps90 rfl (by simp) .nil ?_
 (refine sRz<|vAz<|vAz<|vAz<|nNz<|zI<|sRz<|vMz ?_;refine lvz (.lssT rfl rfl (by omega)) ?_;refine nNz<|cTz<|sRz<|vAz<|vAz<|vAz<|nNz<|zK<|thenR ?_)
 (apply finR;exact .inl rfl;rfl;rfl;rfl;apply zD;exact zG rfl;apply zD;exact zG rfl;apply zD;exact zG rfl;exact zF)
 rfl
def BReachesX (b:Nat) (f:FrV) (L:FrL) (A:AkV) (c:ClV) (a1 n1:Nat) (rest:Fs):Out:=fun x fs' =>
 (reachG f.gas L a1 n1=none∧x=.panicked offC∧fs'=rest)∨∃ g1 L1,reachG f.gas L a1 n1=some (g1,L1)∧∃ cc s m i b5 gs' lv gl,x=.returned (.tuple #[])∧FrO (f.rowsG g1 cc s m i b5) L1 gs'∧bM ((L1.ms.drop a1).take n1) lv gl∧fs'=(b,bgO (f.rowsG g1 cc s m i b5) A { c with inp:=lv,pl:=0,n:=0 })::(gs'++(gl++rest))
theorem breachesX_calls (w0:World) (b:Nat) (f:FrV) (L:FrL) (A:AkV) (c:ClV) (ws:List Nat) (hM:∀ x∈ws,x < M256) (hqi:(shq A.op).2.2.2.1=1) (hqj:(shq A.op).2.2.2.2.1=-1) (hi:2 < ws.length) (hll:ws.length≤100) (hF:okF f L) (gs rest:Fs) (hfr:FrA w0 f L gs) (w:World) (hv:RowAt w0 4 A.ws ws.length (wcs ws)) (hs:St w0 [] ((b,bgO f A c)::(gs++rest)) w) :
  Calls Tryz.prog 58 #[.pointer (some ⟨b,0,none⟩)] w (fun x w'=>∃ fs',BReachesX b f L A c (wordI ws 1) (wordI ws 2) rest x fs'∧St w0 [] fs' w'):=by
 obtain ⟨cop,cdst,cself,cfrm,cval,cmv,cgas,cinp,ccode,cpl,cn,cstat⟩:=c
 have hs17:∀ {f c E fr},Rd Tryz.prog 3 (.cells (bga f A c) E fr) 17 (.int .i64 1):=fun {f c E fr}=>by have h:=bg_rd17 (P:=Tryz.prog) (T:=3) (E:=E) (fr:=fr) (A:=A) (f:=f) (c:=c);rw [hqi] at h;exact h
 have hs18:∀ {f c E fr},Rd Tryz.prog 3 (.cells (bga f A c) E fr) 18 (.int .i64 (-1)):=fun {f c E fr}=>by have h:=bg_rd18 (P:=Tryz.prog) (T:=3) (E:=E) (fr:=fr) (A:=A) (f:=f) (c:=c);rw [hqj] at h;exact h
 refine calls_anyO (calls_inlineP (K:=anyO (BReachesX b f L A ⟨cop,cdst,cself,cfrm,cval,cmv,cgas,cinp,ccode,cpl,cn,cstat⟩ (wordI ws 1) (wordI ws 2) rest)) (args:=[_]) Tryz.func58 rfl Tryz.ntmps58 rfl ?_ hs)
 (refine sRz<|vMz<|vMz<|vMz<|vNz<|vFz<|vFz<|ldz rfl .head hs17 ?_)
 refine LW.callP (K:=BReachK w0 b f L A _ (wordI ws 1) (wordI ws 2) rest) rfl rfl inferInstance (by (exact .cons rfl (.cons rfl .nil))) rfl BReachK.plain (fun w' hst=>breach_calls w0 b f L A _ ws hM 1 (by omega) hll hF gs rest hfr w' hv hst) ?_ ?_
 ·intro v fs' hK
  unfold BReachK at hK
  rw [reachR_G] at hK
  cases hR:reachG f.gas L (wordI ws 1) (wordI ws 2) with
  |none=>rw [hR] at hK;cases hK.1
  |some x =>
   rw [hR] at hK
   obtain ⟨g1,L1⟩:=x
   obtain ⟨cc,s1,m1,i1,b1,gs1,lv,gl,h1,hfr1,hlv,rfl⟩:=hK
   cases h1
   have hlv':=hlv
   unfold bM at hlv'
   obtain ⟨q1,k1,rfl⟩:=hlv'.form
   (refine vMz ?_;refine vEz ?_;refine vEz ?_;refine vEz ?_;refine vNz<|vFz<|vFz ?_;refine zR rfl rfl .head bg_wr36<|nNz<|zL<|vMz<|vMz<|vMz<|vMz<|vNz<|vFz<|vFz<|ldz rfl .head hs18 ?_;apply zS;rfl;rfl;infer_instance;exact .cons rfl (.cons rfl .nil);intro w _;exact breachN_calls b w;refine vMz ?_;refine vEz ?_;refine vEz ?_;refine vEz ?_;refine vNz<|vFz<|vFz ?_;apply zR;rfl;rfl;apply qA;apply bg_wr38 (z:=.int .u64 0);refine vNz<|vFz<|vFz ?_;apply zR;rfl;rfl;apply qA;apply bg_wr39 (z:=.int .u64 0);apply zV)
   exact inPI (.inr rfl) .nil rfl .nil rfl ⟨_,.inr ⟨g1,L1,hR,cc,s1,m1,i1,b1,gs1,_,gl,rfl,hfr1,hlv,rfl⟩,_,.refl _,.refl _⟩
 ·intro ch fs' hK
  unfold BReachK at hK
  rw [reachR_G] at hK
  cases hR:reachG f.gas L (wordI ws 1) (wordI ws 2) with
  |none =>
   rw [hR] at hK
   obtain ⟨h1,rfl⟩:=hK
   cases h1
   refine thenP ?_
   exact inPP .nil ⟨_,.inl ⟨hR,rfl,rfl⟩,_,.refl _,.refl _⟩
  |some x=>rw [hR] at hK;obtain ⟨_,_,_,_,_,_,_,_,h,_⟩:=hK;cases h
end
section
open SK (TurnAt NumAt)
def BegA (f:FrV) (R:Option (Nat × FrL × ClL × ClV)) (v:Value) (gs:Fs):Prop:=match R with
 |none=>v=.tuple #[frv zeroF,clv zeroC,.bool false]∧gs=[]
 |some (g,L',M,c)=>∃ cc s m i b iv kv g1 g2,v=.tuple #[frv (f.rowsG g cc s m i b),clv { c with inp:=iv,code:=kv },.bool true]∧gs=g1++g2∧FrO (f.rowsG g cc s m i b) L' g1∧ClO { c with inp:=iv,code:=kv } M g2
def beginX (f:FrV) (L:FrL) (ws:List Nat):Option (Nat × FrL × ClL × ClV) :=
 match reachG f.gas L (wordI ws 1) (wordI ws 2) with
 |none=>none
 |some (g1,L1) =>
  let l:=(L1.ms.drop (wordI ws 1)).take (wordI ws 2)
  if l.length≤200∧creV l.length≤g1 then some (g1 - creV l.length - keepV (g1 - creV l.length),L1,⟨[],l⟩,creC { whoC f 245 ws with pl:=0,n:=0 } (createdA f.self (ws.getD 3 0) l) (keepV (g1 - creV l.length)) (.slice none 0 0)) else none
def beginA (f:FrV) (L:FrL) (A:AkV) (ws:List Nat):Option (Nat × FrL × ClL × ClV) :=
 if askB A.kind A.op ws.length=true∧okF f L then (if A.op=245 then beginX f L ws else (beginG f L A ws).map fun x=>(x.1,x.2.1,⟨x.2.2.1,[]⟩,x.2.2.2)) else none
theorem beginX_no1 {f:FrV} {L:FrL} {ws:List Nat} (h:reachG f.gas L (wordI ws 1) (wordI ws 2)=none):beginX f L ws=none:=by unfold beginX;rw [h]
theorem beginX_no2 {f:FrV} {L L1:FrL} {ws:List Nat} {g1:Nat} (h:reachG f.gas L (wordI ws 1) (wordI ws 2)=some (g1,L1)) (h2:¬ (((L1.ms.drop (wordI ws 1)).take (wordI ws 2)).length≤200∧creV ((L1.ms.drop (wordI ws 1)).take (wordI ws 2)).length≤g1)):beginX f L ws=none:=by
 unfold beginX;rw [h];exact if_neg h2
theorem beginX_some {f:FrV} {L L1:FrL} {ws:List Nat} {g1:Nat} (h:reachG f.gas L (wordI ws 1) (wordI ws 2)=some (g1,L1)) (h2:((L1.ms.drop (wordI ws 1)).take (wordI ws 2)).length≤200∧creV ((L1.ms.drop (wordI ws 1)).take (wordI ws 2)).length≤g1) :
  beginX f L ws=some (g1 - creV ((L1.ms.drop (wordI ws 1)).take (wordI ws 2)).length - keepV (g1 - creV ((L1.ms.drop (wordI ws 1)).take (wordI ws 2)).length),L1,⟨[],(L1.ms.drop (wordI ws 1)).take (wordI ws 2)⟩,creC { whoC f 245 ws with pl:=0,n:=0 } (createdA f.self (ws.getD 3 0) ((L1.ms.drop (wordI ws 1)).take (wordI ws 2))) (keepV (g1 - creV ((L1.ms.drop (wordI ws 1)).take (wordI ws 2)).length)) (.slice none 0 0)):=by
 unfold beginX;rw [h];exact if_pos h2
theorem whoC_nil (f:FrV) (op:Nat) (ws:List Nat):(whoC f op ws).code=.slice none 0 0∧(whoC f op ws).inp=.slice none 0 0:=by
 unfold whoC
 split<;>exact ⟨rfl,rfl⟩
attribute [local irreducible] SL.inP SL.inD SL.outD wordI shq createdA whoC
theorem BeginX_calls (f:FrV) (L:FrL) (A:AkV) (ws:List Nat) (hM:∀ x∈ws,x < M256) (hd:∃ p n c,A.dt=.slice p n c) (hask:askB A.kind A.op ws.length=true) (he:A.op=245) (hF:okF f L) (hsf:f.self < 18446744073709551616) (w:World) (hf:FrRows w f L) (hv:RowAt w 4 A.ws ws.length (wcs ws)) (hT:TurnAt w) (hN:NumAt w) :
  Calls Tryz.prog 26 #[frv f,.agg (aska A.kind A.op A.ws A.dt),.agg #[.bool A.cold,.bool A.vl,.bool A.new]] w (RetG w [] (BegA f (beginX f L ws))):=by
 have hst0:St w [] [] w:=⟨Bel.refl _ _ _,(fun p h=>by cases h),.nil⟩
 have hv0:=hv
 have hq0:=hask
 unfold askB at hq0
 rw [Bool.and_eq_true,Bool.and_eq_true,decide_eq_true_eq,decide_eq_true_eq] at hq0
 obtain ⟨hq1,hq2,hq3⟩:=hq0
 obtain ⟨kind,op,aws,dt,cold,vl,new⟩:=A
 obtain ⟨q,d,e,hd⟩:=hd
 dsimp only at hd hask he hq1 hq2 hq3 hv ⊢
 subst hd he
 have h4:ws.length=4:=by rw [shq245] at hq3;omega
 obtain ⟨p,c,rfl,_,_⟩:=id hv.form
 have hzs:=zero_sl
 have hsl:=hf.sl
 have hSh:∀ w,Calls Tryz.prog 53 #[.agg (aska kind 245 (.slice p ws.length c) (.slice q d e))] w (Ret w (.tuple #[.agg (shc 245).toArray,.bool true])):=fun w=>by
  have h:=shapeOf_calls kind 245 ws.length c p q d e w
  rwa [hask] at h
 have hFc:∀ w' {fs:Fs},St w [] fs w'→Calls Tryz.prog 31 #[frv f] w' (Ret w' (.int .i64 0)):=fun w' fs hst=>by have h:=fCheck_calls f L w' (hf.st hst);rwa [if_pos hF] at h
 refine calls_inlineD (w0:=w) (S:=[]) (args:=[_,_,_]) (R:=RetG w [] (BegA f (beginX f L ws))) Tryz.func26 rfl Tryz.ntmps26 rfl ?_ hst0
 (refine sRz ?_;apply zT;rfl;rfl;intro _;apply zT;rfl;rfl;intro _;apply zT;rfl;rfl;intro _;apply zU;rfl;intro _;apply zU;rfl;intro _;refine vAz<|nSz<|ldz rfl (.tail (.tail (.tail .head))) ask_rdW ?_;apply zS;rfl;rfl;infer_instance;exact .cons rfl .nil;intro w _;exact hSh w;refine vMz ?_;refine vEz ?_;refine vEz ?_;apply zU;rfl;intro _;refine zR rfl rfl .head (.whole rfl rfl rfl)<|vAz<|nNz<|zI<|sRz<|vMz ?_;refine lvz (.notT rfl (by with_reducible rfl)) ?_;refine vMz<|gTz<|ldz rfl (.tail (.tail (.tail (.tail (.tail .head))))) fr_rdW<|gTz ?_;apply zS;rfl;rfl;infer_instance;exact .cons rfl .nil;intro w _;exact hFc w (by assumption);refine gTz ?_;refine lvz (.neF rfl rfl (by omega)) ?_;refine pFz<|nNz<|cFz<|zJ<|thenN<|sRz<|ldz rfl (.tail (.tail (.tail (.tail (.tail .head))))) fr_rdW<|ldz rfl .head sh_rdW<|ldz rfl (.tail (.tail (.tail (.tail .head)))) ask_rdW<|ldz rfl (.tail (.tail (.tail .head))) (qF rfl) ?_;apply LW.v0;rfl;rfl;apply zW;infer_instance;infer_instance;apply zA;rfl;apply zA;rfl;apply zA;rfl;apply zA;rfl;exact zB;rfl;simp only [fillP,wrCells,fra,frc,bga,bgl,shc,aska,wc,zeroC,clc,Value.cells,qH,qI,qJ,qG,qL,qK,List.cons_append,List.nil_append,Nat.reduceAdd,qN];rfl;apply zT;rfl;rfl;intro _;refine vAz<|nSz ?_)
 rename_i b3 b4 b5 b6 b7 b9 bB
 refine LW.subP (fs':=(bB,bgO f ⟨kind,245,.slice p ws.length c,.slice q d e,cold,vl,new⟩ zeroC)::(b6,.cells (fra zeroF) 31 (0,0))::(b7,.cells (cla zeroC) 33 (0,0))::(b4,.cells (aska kind 245 (.slice p ws.length c) (.slice q d e)) 61 (0,0))::[]) ?_ ?_
 ·exact subp_ix [[_],[_],[_],[_],[_],[_],[_]] (xs:=[0,3,2,5]) (ys:=[0,1,2,3,4,5,6]) [] rfl
 apply LW.defer
 rfl
 rfl
 (apply zV;refine thenM<|sRz<|vMz ?_;apply LW.v0;rfl;rfl;apply ValP.makeFunc;exact .cons rfl .nil;exact ArgsOk.nil;refine vAz<|nNz<|zI<|sRz<|vFz<|ldz rfl (.tail (.tail (.tail .head))) ask_rd1 ?_;refine lvz (.eqT rfl rfl (by omega)) ?_;refine nNz<|cTz<|zL<|vMz ?_;apply LW.v0;rfl;rfl;apply ValP.makeFunc;exact .cons rfl .nil;exact ArgsOk.nil;refine vAz<|nNz<|zI<|sRz<|vMz ?_;apply LW.v0;rfl;rfl;apply ValP.makeFunc;exact .cons rfl .nil;exact ArgsOk.nil;refine vMz ?_;apply LW.v0;rfl;rfl;apply ValP.makeFunc;exact .cons rfl .nil;exact ArgsOk.nil;refine vMz ?_;apply LW.v0;rfl;rfl;apply ValP.buildA;apply zA;rfl;apply zA;rfl;apply zA;rfl;exact zB;rfl;simp only [fillC,wc,wrCells,Value.cells,qJ,qG,qL,qK,Nat.reduceAdd,Nat.reduceMul,qN,Nat.mul_one];rfl;refine vMz<|nNz<|zM ?_)
 apply CW.rounds 4
 apply RW.step
 (refine sRz ?_;refine lvz (.lssT rfl rfl (by omega)) ?_;refine nNz<|zI<|cTz<|zJ<|thenN<|zI<|zM<|sRz<|lvz (.indexAL rfl rfl rfl rfl rfl)<|vAz<|nNz<|zL<|vMz ?_)
 refine LW.callP (K:=fun x fs'=>x=.returned (.tuple #[])∧fs'=(bB,bgO f ⟨kind,245,.slice p ws.length c,.slice q d e,cold,vl,new⟩ (whoC f 245 ws))::((b6,.cells (fra zeroF) 31 (0,0))::(b7,.cells (cla zeroC) 33 (0,0))::(b4,.cells (aska kind 245 (.slice p ws.length c) (.slice q d e)) 61 (0,0))::[])) rfl rfl inferInstance (by (exact ArgsOk.nil)) rfl (fun fs h=>by cases h.1) (fun w' hst=>who_calls w bB f ⟨kind,245,.slice p ws.length c,.slice q d e,cold,vl,new⟩ ws hM hq3.symm hq1 _ w' hv hst) ?_ ?_
 ·rintro v fs' ⟨h,rfl⟩
  cases h
  (apply zV;refine blkN<|thenN<|zL ?_;refine lvz (.addI rfl rfl (by omega) (by omega)) ?_;refine vMz ?_;apply zV;refine thenL ?_)
  apply RW.step
  (refine sRz ?_;refine lvz (.lssT rfl rfl (by omega)) ?_;refine nNz<|zI<|cTz<|zJ<|thenN<|zI<|zM<|sRz<|lvz (.indexAL rfl rfl rfl rfl rfl)<|vAz<|nNz<|zL<|vMz ?_)
  refine LW.callP (K:=BReachesX bB f L ⟨kind,245,.slice p ws.length c,.slice q d e,cold,vl,new⟩ (whoC f 245 ws) (wordI ws 1) (wordI ws 2) ((b6,.cells (fra zeroF) 31 (0,0))::(b7,.cells (cla zeroC) 33 (0,0))::(b4,.cells (aska kind 245 (.slice p ws.length c) (.slice q d e)) 61 (0,0))::[])) rfl rfl inferInstance (by (exact ArgsOk.nil)) rfl (fun fs h=>by rcases h with ⟨_,h,_⟩|⟨_,_,_,_,_,_,_,_,_,_,_,h,_⟩<;>cases h) (fun w' hst=>breachesX_calls w bB f L ⟨kind,245,.slice p ws.length c,.slice q d e,cold,vl,new⟩ _ ws hM (by dsimp only;rw [shq245]) (by dsimp only;rw [shq245]) (by omega) (by omega) hF [] _ (.inl ⟨rfl,hf⟩) w' hv hst) ?_ ?_
  ·rintro v fs' (⟨_,h,_⟩|⟨g1,L1,hR1,cc,s1,m1,i1,x1,gs1,lv,gl,h1,hfr,hlv,rfl⟩)
   ·cases h
   cases h1
   have hF1:=okF_reach (c:=cc) (s:=s1) (m:=m1) (i:=i1) (b:=x1) hF hR1
   (apply zV;refine blkN<|thenN<|zL ?_;refine lvz (.addI rfl rfl (by omega) (by omega)) ?_;refine vMz ?_;apply zV;refine thenL ?_)
   apply RW.step
   (refine sRz ?_;refine lvz (.lssT rfl rfl (by omega)) ?_;refine nNz<|zI<|cTz<|zJ<|thenN<|zI<|zM<|sRz<|lvz (.indexAL rfl rfl rfl rfl rfl)<|vAz<|nNz<|zL<|vMz ?_)
   obtain ⟨l,hl⟩:∃ l,(L1.ms.drop (wordI ws 1)).take (wordI ws 2)=l:=⟨_,rfl⟩
   rw [hl] at hlv
   have hll:l.length≤100000:=by
    have h5:=hF1.2.2.2.1.2.1
    rw [← hl,List.length_take,List.length_drop]
    omega
   refine LW.callP (K:=BCreatesK bB (f.rowsG g1 cc s1 m1 i1 x1) ⟨kind,245,.slice p ws.length c,.slice q d e,cold,vl,new⟩ { whoC f 245 ws with inp:=lv,pl:=0,n:=0 } l lv (ws.getD 3 0) (gs1++(gl++((b6,.cells (fra zeroF) 31 (0,0))::(b7,.cells (cla zeroC) 33 (0,0))::(b4,.cells (aska kind 245 (.slice p ws.length c) (.slice q d e)) 61 (0,0))::[])))) rfl rfl inferInstance (by (exact ArgsOk.nil)) rfl (fun fs h=>by rcases h with ⟨_,h,_⟩|⟨_,h,_⟩<;>cases h) (fun w' hst=>bcreates_calls w bB (f.rowsG g1 cc s1 m1 i1 x1) ⟨kind,245,.slice p ws.length c,.slice q d e,cold,vl,new⟩ { whoC f 245 ws with inp:=lv,pl:=0,n:=0 } ws hM h4 hF1.1.2.2 hsf l gl hlv hll _ (fun p hp=>List.mem_append_right _ (List.mem_append_left _ hp)) hT hN w' hv hst) ?_ ?_
   ·rintro v fs' (⟨_,h,_⟩|⟨hk,h,rfl⟩)
    ·cases h
    ·cases h
     have hBeg:=beginX_some (f:=f) (L:=L) (ws:=ws) hR1 (by rw [hl];exact hk)
     rw [hl] at hBeg
     rw [hBeg]
     (apply zV;refine blkN<|thenN<|zL ?_;refine lvz (.addI rfl rfl (by omega) (by omega)) ?_;refine vMz ?_;apply zV;refine thenL ?_)
     apply RW.step
     (refine sRz ?_;refine lvz (.lssF rfl rfl (by omega)) ?_;refine nNz<|zI<|cFz<|CW.exit<|thenE<|thenE<|blkE rfl<|thenN<|zI ?_)
     have hfr3:FrO ((f.rowsG g1 cc s1 m1 i1 x1).setGas (g1 - creV l.length - keepV (g1 - creV l.length))) L1 gs1:=hfr
     have hfa:FrA w ((f.rowsG g1 cc s1 m1 i1 x1).setGas (g1 - creV l.length - keepV (g1 - creV l.length))) L1 gs1:=.inr hfr3
     obtain ⟨us,hbl,hin,hrows⟩:=hfa.lie
     have hlv':=hlv
     unfold bM at hlv'
     obtain ⟨q4,k4,rfl⟩:=hlv'.form
     apply CW.pre
     (refine AnyW.anyM [(4,CopyR ((f.rowsG g1 cc s1 m1 i1 x1).setGas (g1 - creV l.length - keepV (g1 - creV l.length))) L1)] 10 mixed (by decide +kernel) ?_)
     ((try simp only [tsOf_cons,tsOf_nil,tsOf_app]);refine dvz (.move rfl)<|dvz (.nilCheck rfl)<|dvz (.fieldAddr rfl rfl) ?_;apply qD;rfl;rfl;rfl;exact zC;rfl;apply zP;exact zN;exact bg_rdF)
     refine DW.manyA us rfl rfl rfl (by (exact zC)) rfl inferInstance (by (exact .cons rfl .nil)) (by rw [List.flatMap_cons];exact (List.append_nil _).trans hbl) (fun p hp=>?_) (fun w' hb hu=>callCopied_calls _ L1 hF1.short w' (hrows w' hb hu)) ?_
     ·rcases hin p hp with h|h
      ·exact .inl ⟨[],[],by simp [tsOf,h],anc_nil⟩
      ·exact .inr ⟨h,by simp⟩
     rintro vT gT ⟨c4,s4,m4,i4,x4,rfl,hfr4⟩
     have hsl4:=hfr4.sl
     have hcl4:=cl_cells (c:=creC { whoC f 245 ws with inp:=.slice q4 l.length k4,pl:=0,n:=0 } (createdA f.self (ws.getD 3 0) l) (keepV (g1 - creV l.length)) (.slice q4 l.length k4)) ⟨_,_,_,rfl⟩ ⟨_,_,_,rfl⟩
     simp only [markAll_app,markAll_cons,markAll_tsOf,markAll_nil]
     ((try simp only [tsOf_cons,tsOf_nil,tsOf_app]);refine dvz (.move rfl)<|dvz (.nilCheck rfl)<|dvz (.fieldAddr rfl rfl) ?_;apply qD;rfl;rfl;rfl;exact zC;rfl;apply zQ;apply zP;exact zN;exact bg_rdC;apply DW.store;rfl;rfl;exact zC;rfl;rfl;apply TSet.app;apply TSet.tail;apply TSet.app;apply TSet.app;apply TSet.head;exact zN;kernel_rfl;apply fr_wrW;rfl;assumption;apply DW.nil;simp only [fsOf_cons,fsOf_nil,fsOf_app,fsOf_tsOf,fsOf_new,fsOf_tag])
     try simp only [fsOf_mark,fsOf_cons,fsOf_nil,fsOf_app,fsOf_tsOf,fsOf_new,fsOf_tag,List.append_eq,List.nil_append]
     (apply zR;rfl;rfl;apply qC;apply qB;apply qC;apply qC;apply qB;apply qA;apply cl_wrW;rfl;exact hcl4;refine vAz<|nNz<|zK ?_)
     refine outDI (.inl rfl) rfl fun a w2 s2=>?_
     refine leaves_clo (K:=fun e fs'=>e=.returned (.tuple #[])∧∃ b1,fs'=b1::_) inferInstance (fun h=>by cases h) (begin1_idle w [] _ w2 s2.st) (fun fs h=>by cases h.1) ?_ ?_
     ·rintro v fs' w' ⟨_,b1,rfl⟩ hst
      refine leaves_end (vs:=[frv (f.rowsG (g1 - creV l.length - keepV (g1 - creV l.length)) c4 s4 m4 i4 x4),clv (creC { whoC f 245 ws with inp:=.slice q4 l.length k4,pl:=0,n:=0 } (createdA f.self (ws.getD 3 0) l) (keepV (g1 - creV l.length)) (.slice q4 l.length k4)),.bool true]) (w:=w') rfl s2.env hst ?_ rfl ?_
      ·(apply zD;apply zH;rfl;apply qE;apply zX;apply zZ;apply zX;apply zZ;apply zZ;apply zY;exact fr_rdW;apply zD;apply zH;rfl;apply qE;apply zX;apply zZ;apply zX;apply zZ;apply zZ;apply zX;apply zY;exact cl_rdW;apply zD;exact zG rfl;exact zF)
      ·have h9:=st_sub (gs:=gT++gl) hst (.cons _ (.append_left (.cons _ (List.Sublist.trans (qP gl _) (List.sublist_append_right gs1 _))) _))
       unfold RetG
       exact ⟨_,gT++gl,rfl,⟨c4,s4,m4,i4,x4,.slice none 0 0,.slice q4 l.length k4,gT,gl,rfl,rfl,hfr4,[],gl,(List.append_nil _).symm,.nil,hlv⟩,hst.bel,h9.own,h9.nd⟩
     ·rintro ch fs' w' ⟨h,_⟩
      cases h
   ·rintro ch fs' (⟨hk,h,rfl⟩|⟨_,h,_⟩)
    ·cases h
     rw [beginX_no2 hR1 (by rw [hl];exact hk)]
     (repeat (first|refine thenP ?_|refine blkP ?_))
     refine outDP rfl fun a w2 s2=>?_
     refine leaves_clo (K:=fun e fs'=>e=.returned (.tuple #[])∧∃ b1,fs'=b1::_) inferInstance (fun h=>by cases h) (begin1_off w [] _ w2 s2.st) (fun fs h=>by cases h.1) ?_ ?_
     ·rintro v fs' w' ⟨_,b1,rfl⟩ hst
      refine leaves_end (vs:=[frv zeroF,clv zeroC,.bool false]) (w:=w') rfl s2.env hst ?_ rfl ?_
      ·(apply zD;apply zH;rfl;apply qE;apply zX;apply zZ;apply zZ;apply zY;exact fr_rdW;apply zD;apply zH;rfl;apply qE;apply zX;apply zZ;apply zZ;apply zX;apply zY;exact cl_rdW;apply zD;exact zG rfl;exact zF)
      ·unfold RetG;exact ⟨_,[],rfl,⟨rfl,rfl⟩,hst.bel,(fun p hp=>by cases hp),.nil⟩
     ·rintro ch fs' w' ⟨h,_⟩
      cases h
    ·cases h
  ·rintro ch fs' (⟨hR,h,rfl⟩|⟨_,_,_,_,_,_,_,_,_,_,_,h,_⟩)
   ·cases h
    rw [beginX_no1 hR]
    (repeat (first|refine thenP ?_|refine blkP ?_))
    refine outDP rfl fun a w2 s2=>?_
    refine leaves_clo (K:=fun e fs'=>e=.returned (.tuple #[])∧∃ b1,fs'=b1::_) inferInstance (fun h=>by cases h) (begin1_off w [] _ w2 s2.st) (fun fs h=>by cases h.1) ?_ ?_
    ·rintro v fs' w' ⟨_,b1,rfl⟩ hst
     refine leaves_end (vs:=[frv zeroF,clv zeroC,.bool false]) (w:=w') rfl s2.env hst ?_ rfl ?_
     ·(apply zD;apply zH;rfl;apply qE;apply zX;apply zY;exact fr_rdW;apply zD;apply zH;rfl;apply qE;apply zX;apply zX;apply zY;exact cl_rdW;apply zD;exact zG rfl;exact zF)
     ·unfold RetG;exact ⟨_,[],rfl,⟨rfl,rfl⟩,hst.bel,(fun p hp=>by cases hp),.nil⟩
    ·rintro ch fs' w' ⟨h,_⟩
     cases h
   ·cases h
 ·rintro ch fs' ⟨h,_⟩
  cases h
end
section
open SK (TurnAt NumAt)
theorem RetG.imp {w:World} {S:List Nat} {Φ Ψ:Value→Fs→Prop} {e:Ending} {w':World} (hi:∀ v gs,Φ v gs→Ψ v gs) (h:RetG w S Φ e w'):RetG w S Ψ e w':=by
 unfold RetG at h ⊢
 obtain ⟨v,gs,h1,h2,h3⟩:=h
 exact ⟨v,gs,h1,hi _ _ h2,h3⟩
theorem Begin_calls (f:FrV) (L:FrL) (A:AkV) (ws:List Nat) (hM:∀ x∈ws,x < M256) (hd:∃ p n c,A.dt=.slice p n c) (hsf:f.self < 18446744073709551616) (w:World) (hf:FrRows w f L) (hv:RowAt w 4 A.ws ws.length (wcs ws)) (hT:TurnAt w) (hN:NumAt w) :
  Calls Tryz.prog 26 #[frv f,.agg (aska A.kind A.op A.ws A.dt),.agg #[.bool A.cold,.bool A.vl,.bool A.new]] w (RetG w [] (BegA f (beginA f L A ws))):=by
 by_cases hq:askB A.kind A.op ws.length=true∧okF f L
 ·have hb:beginA f L A ws=if A.op=245 then beginX f L ws else (beginG f L A ws).map fun x=>(x.1,x.2.1,⟨x.2.2.1,[]⟩,x.2.2.2):=if_pos hq
  rw [hb]
  by_cases he:A.op=245
  ·rw [if_pos he]
   exact BeginX_calls f L A ws hM hd hq.1 he hq.2 hsf w hf hv hT hN
  ·rw [if_neg he]
   refine Calls.mono (BeginC_calls f L A ws hM hd hq.1 he hq.2 w hf hv) fun e w' h=>RetG.imp (fun v gs h=>?_) h
   cases hR:beginG f L A ws with
   |none=>rw [hR] at h;exact h
   |some x =>
    obtain ⟨g,L',l,c⟩:=x
    rw [hR] at h
    obtain ⟨cc,s,m,i,b,lv,g1,g2,hv,hg,h1,h2⟩:=h
    have hc:c.code=.slice none 0 0:=by
     unfold beginG at hR
     dsimp only at hR
     split at hR
     ·cases hR
     ·split at hR
      ·cases hR
      ·split at hR
       ·cases hR
        exact (whoC_nil f A.op ws).1
       ·cases hR
    refine ⟨cc,s,m,i,b,lv,.slice none 0 0,g1,g2,?_,hg,h1,g2,[],rfl,h2,.nil⟩
    rw [hv,← hc]
 ·have hb:beginA f L A ws=none:=if_neg hq
  rw [hb]
  refine Calls.mono (Begin_bad f L A ws hd (by
   rcases Decidable.not_and_iff_or_not.1 hq with h|h
   ·exact .inl (by simpa using h)
   ·exact .inr h) w hf hv) fun e w' h=>RetG.imp (fun v gs h=>h) h
end
end Go.Proofs.YtpgdnfgjbhdbpaaGreatDoor
namespace Go.Proofs.YtpgdnfgjbhdbpaaGreatDoor
open Go Go.RowKit SL
set_option linter.unusedVariables false
theorem whoC_op (f:FrV) (op:Nat) (ws:List Nat):(whoC f op ws).op=op:=by
 unfold whoC
 split<;>rfl
theorem whoC_mv {f:FrV} {op:Nat} {ws:List Nat} (h:(shq op).2.2.2.2.2=true) (hm:(whoC f op ws).mv=true):op=241∨op=245:=by
 unfold whoC at hm
 split at hm
 ·cases hm
 ·rename_i h4
  rcases shq_ok h with ⟨ho,hs⟩|⟨ho,hs⟩|⟨ho,hs⟩
  ·exact .inl ho
  ·rw [hs] at hm
   simp [wordI] at hm
  ·exact .inr ho
theorem reach_range {f:FrV} {L L':FrL} {a n g:Nat} (h:okF f L) (hr:reachG f.gas L a n=some (g,L')):g≤f.gas∧L'.ms.length≤1024∧L'.ws=L.ws∧(0 < n→a+n≤1024∧a+n≤L'.ms.length):=by
 have hok:=okF_reach (c:=f.code) (s:=f.stk) (m:=f.mem) (i:=f.inp) (b:=f.back) h hr
 obtain ⟨hc,rfl,rfl⟩:=reachG_some hr
 have hE:=memV_le h.2.2.2.1.2.1 h.1.2.2 hc
 refine ⟨Nat.sub_le _ _,hok.2.2.2.1.2.1,rfl,fun h0=>?_⟩
 obtain ⟨h1,h2,_⟩:=reach_bounds h.2.2.2.1 h0 hE
 exact ⟨h1,h2⟩
structure BegP (f:FrV) (L:FrL) (A:AkV) (g:Nat) (L':FrL) (M:ClL) (c:ClV):Prop where
 fr:∀ cc s m i b,okF (f.rowsG g cc s m i b) L'
 cl:okC c M
 op:c.op=A.op
 mv:c.mv=true→A.op=241∨A.op=245
 stip:A.op=241→c.mv=true→230≤c.gas
 left:g+(if A.op=241∧c.mv=true then c.gas - 230 else c.gas)≤f.gas
 all:g+c.gas≤f.gas
 part:(if A.op=241∧c.mv=true then c.gas - 230 else c.gas)≤keepV (g+(if A.op=241∧c.mv=true then c.gas - 230 else c.gas))
 keep:(g+(if A.op=241∧c.mv=true then c.gas - 230 else c.gas)) / 64≤g
theorem beginG_P {f:FrV} {L:FrL} {A:AkV} {ws:List Nat} {g:Nat} {L':FrL} {l:List UInt8} {c:ClV} (hask:askB A.kind A.op ws.length=true) (hF:okF f L) (hne:¬ A.op=245) (h:beginG f L A ws=some (g,L',l,c)):BegP f L A g L' ⟨l,[]⟩ c:=by
 have hq0:=hask
 unfold askB at hq0
 rw [Bool.and_eq_true,Bool.and_eq_true,decide_eq_true_eq,decide_eq_true_eq] at hq0
 obtain ⟨hq1,hq2,hq3⟩:=hq0
 obtain ⟨hw7,hw0,i,j,hqi,hqj,hi,hj⟩:=shq_ij hne hq1 hq3
 unfold beginG at h
 dsimp only at h
 rw [hqi,hqj] at h
 cases hR1:reachG f.gas L (wordI ws (i:Int)) (wordI ws ((i:Int)+1)) with
 |none=>rw [hR1] at h;cases h
 |some x =>
  obtain ⟨g1,L1⟩:=x
  rw [hR1] at h
  dsimp only at h
  cases hR2:reachG g1 L1 (wordI ws (j:Int)) (wordI ws ((j:Int)+1)) with
  |none=>rw [hR2] at h;cases h
  |some y =>
   obtain ⟨g2,L2⟩:=y
   rw [hR2] at h
   dsimp only at h
   have hF1:=okF_reach (c:=f.code) (s:=f.stk) (m:=f.mem) (i:=f.inp) (b:=f.back) hF hR1
   have hF2:=fun (cc s m i b:Value)=>okF_reach (c:=cc) (s:=s) (m:=m) (i:=i) (b:=b) hF1 hR2
   obtain ⟨r1,r2,r3,r4⟩:=reach_range hF hR1
   obtain ⟨s1,s2,s3,s4⟩:=reach_range hF1 hR2
   have s1':g2≤g1:=s1
   have hg2:g2≤20000:=by have:=hF.1.2.2;omega
   have hmv:=fun h=>whoC_mv (f:=f) (ws:=ws) hq1 h
   have hop:=whoC_op f A.op ws
   have hco:A.op=241∨A.op=244∨A.op=250:=by
    rcases shq_ok hq1 with ⟨ho,_⟩|⟨ho,_⟩|⟨ho,_⟩
    ·exact .inl ho
    ·exact .inr ho
    ·exact absurd ho hne
   generalize whoC f A.op ws=c0 at h hmv hop
   obtain ⟨k,hk⟩:∃ k,callV A.cold c0.mv A.new=k:=⟨_,rfl⟩
   rw [hk] at h
   have hk9:c0.mv=true→910≤k:=fun h=>by
    rw [← hk,h]
    unfold callV
    cases A.cold<;>cases A.new<;>decide
   split at h
   ·rename_i hkg
    cases h
    obtain ⟨q,hq⟩:∃ q,lentG g2 k (ws.getD 0 0)=q:=⟨_,rfl⟩
    have hq':q≤g2 - k - (g2 - k) / 64:=by rw [← hq];exact Nat.min_le_right _ _
    rw [hq]
    refine ⟨?_,?_,hop,hmv,?_,?_,?_,?_,?_⟩
    ·intro cc s m i b
     obtain ⟨⟨h1,h2,h3⟩,h4⟩:=hF2 cc s m i b
     exact ⟨⟨h1,h2,by show g2 - k - q≤20000;omega⟩,h4⟩
    ·refine ⟨?_,⟨?_,?_,?_⟩,⟨?_,?_,?_⟩,?_,?_⟩
     ·show c0.op=241∨_
      rw [hop]
      omega
     ·show q+(if c0.mv then 230 else 0)≤20000
      split
      ·have:=hk9 (by assumption);omega
      ·omega
     ·show ((L1.ms.drop _).take _).length≤1024
      rw [List.length_take,List.length_drop]
      omega
     ·exact Nat.zero_le _
     ·show wordI ws ((j:Int)+1)≤1024
      rcases Nat.eq_zero_or_pos (wordI ws ((j:Int)+1)) with h0|h0
      ·omega
      ·have:=s4 h0;omega
     ·show (if wordI ws ((j:Int)+1)=0 then 0 else wordI ws (j:Int))+wordI ws ((j:Int)+1)≤1024
      rcases Nat.eq_zero_or_pos (wordI ws ((j:Int)+1)) with h0|h0
      ·rw [if_pos h0];omega
      ·rw [if_neg (by omega)];have:=s4 h0;omega
     ·show 0 < wordI ws ((j:Int)+1)∨(if wordI ws ((j:Int)+1)=0 then 0 else wordI ws (j:Int))=0
      rcases Nat.eq_zero_or_pos (wordI ws ((j:Int)+1)) with h0|h0
      ·exact .inr (if_pos h0)
      ·exact .inl h0
     ·intro h5
      exact absurd (hop.symm.trans h5) hne
     ·intro _
      rfl
    all_goals dsimp only
    ·intro _ hm
     rw [hm]
     exact Nat.le_add_left _ _
    all_goals (cases hm:c0.mv with
     |true =>
      have h9:=hk9 hm
      have hop2:=hmv hm
      have h41:A.op=241:=by omega
      simp only [h41,and_self,if_true,keepV]
      omega
     |false =>
      simp only [Bool.false_eq_true,and_false,if_false,keepV]
      omega)
   ·cases h
theorem beginX_P {f:FrV} {L:FrL} {A:AkV} {ws:List Nat} {g:Nat} {L':FrL} {M:ClL} {c:ClV} (hF:okF f L) (he:A.op=245) (h:beginX f L ws=some (g,L',M,c)):BegP f L A g L' M c:=by
 unfold beginX at h
 cases hR1:reachG f.gas L (wordI ws 1) (wordI ws 2) with
 |none=>rw [hR1] at h;cases h
 |some x =>
  obtain ⟨g1,L1⟩:=x
  rw [hR1] at h
  dsimp only at h
  generalize (L1.ms.drop (wordI ws 1)).take (wordI ws 2)=l at h
  obtain ⟨r1,r2,r3,r4⟩:=reach_range hF hR1
  have hF1:=fun (cc s m i b:Value)=>okF_reach (c:=cc) (s:=s) (m:=m) (i:=i) (b:=b) hF hR1
  have hg1:g1≤20000:=by have:=hF.1.2.2;omega
  split at h
  ·rename_i hk
   cases h
   obtain ⟨k,hk2⟩:∃ k,creV l.length=k:=⟨_,rfl⟩
   rw [hk2] at hk ⊢
   have ho:=whoC_op f 245 ws
   refine ⟨?_,?_,?_,fun _=>.inr he,?_,?_,?_,?_,?_⟩
   ·intro cc s m i b
    obtain ⟨⟨h1,h2,h3⟩,h4⟩:=hF1 cc s m i b
    exact ⟨⟨h1,h2,by show g1 - k - _≤20000;omega⟩,h4⟩
   ·refine ⟨.inr (.inr (.inl ho)),⟨?_,Nat.zero_le _,hk.1⟩,⟨Nat.zero_le _,Nat.zero_le _,.inr rfl⟩,fun _=>⟨rfl,rfl⟩,fun h5=>absurd ho h5⟩
    show keepV (g1 - k)≤20000
    unfold keepV
    omega
   ·exact ho.trans he.symm
   ·intro h5
    omega
   all_goals
    first|rw [he]|skip
    try simp only [show ¬ (245:Nat)=241 by decide,false_and,if_false]
    simp only [creC,keepV]
    omega
  ·cases h
theorem beginA_P {f:FrV} {L:FrL} {A:AkV} {ws:List Nat} {g:Nat} {L':FrL} {M:ClL} {c:ClV} (h:beginA f L A ws=some (g,L',M,c)):BegP f L A g L' M c:=by
 unfold beginA at h
 split at h
 ·rename_i hq
  split at h
  ·exact beginX_P hq.2 (by assumption) h
  ·rename_i hne
   cases hG:beginG f L A ws with
   |none=>rw [hG] at h;cases h
   |some x =>
    obtain ⟨g0,L0,l0,c0⟩:=x
    rw [hG] at h
    cases h
    exact beginG_P hq.1 hq.2 hne hG
 ·cases h
end Go.Proofs.YtpgdnfgjbhdbpaaGreatDoor
namespace Go.Proofs.YtpgdnfgjbhdbpaaGreatDoor
open Go Go.RowKit SL
set_option maxRecDepth 8000
set_option maxHeartbeats 4000000
set_option linter.unusedSimpArgs false
set_option linter.unusedVariables false
attribute [local irreducible] SL.CW SL.LW SL.DW Calls SL.Ret SL.RetG SL.beginQ SL.roundQ SL.rangeQ SL.RW SL.AnyW SL.thenQ SL.thenC SL.thenW SL.blkQ SL.finQ SL.ValP SL.NewP SL.SetP SL.CallP SL.Rd SL.Wr SL.Known
section
section bg
variable {f : FrV} {L L1 L2 : FrL} {A : AkV} {ws : List Nat} {i j : Int} {a1 n1 a2 n2 g1 g2 k y : Nat} {c0 : ClV}
end bg
end
end Go.Proofs.YtpgdnfgjbhdbpaaGreatDoor
namespace Go.Proofs.YtpgdnfgjbhdbpaaGreatDoor.SK
open Go Go.RowKit SL
set_option maxRecDepth 8000
set_option linter.unusedSimpArgs false
set_option linter.unusedVariables false

end Go.Proofs.YtpgdnfgjbhdbpaaGreatDoor.SK
namespace Go.Proofs.YtpgdnfgjbhdbpaaGreatDoor.SK
open Go Go.RowKit SL
set_option maxRecDepth 8000
set_option maxHeartbeats 4000000
set_option linter.unusedSimpArgs false
set_option linter.unusedVariables false
attribute [local irreducible] SL.CW SL.LW SL.DW Calls SL.Ret SL.RetG SL.beginQ SL.roundQ SL.rangeQ SL.RW SL.AnyW SL.thenQ SL.thenC SL.thenW SL.blkQ SL.finQ SL.ValP SL.NewP SL.SetP SL.CallP SL.Rd SL.Wr SL.Known


section
attribute [local irreducible] cF mixL rowsL numL
end

section
attribute [local irreducible] mixL rowsL numL roundL permF
end
end Go.Proofs.YtpgdnfgjbhdbpaaGreatDoor.SK
namespace Go.Proofs.YtpgdnfgjbhdbpaaGreatDoor.SK
open Go Go.RowKit SL
set_option maxRecDepth 8000
set_option linter.unusedSimpArgs false
set_option linter.unusedVariables false

end Go.Proofs.YtpgdnfgjbhdbpaaGreatDoor.SK
namespace Go.Proofs.YtpgdnfgjbhdbpaaGreatDoor.SK
open Go Go.RowKit SL
set_option maxRecDepth 8000
set_option maxHeartbeats 4000000
set_option linter.unusedSimpArgs false
set_option linter.unusedVariables false
attribute [local irreducible] SL.CW SL.LW SL.DW Calls SL.Ret SL.RetG SL.beginQ SL.roundQ SL.rangeQ SL.RW SL.AnyW SL.thenQ SL.thenC SL.thenW SL.blkQ SL.finQ SL.ValP SL.NewP SL.SetP SL.CallP SL.Rd SL.Wr SL.Known
section
attribute [local irreducible] padB sumB permL soakF sumF idF
end
end Go.Proofs.YtpgdnfgjbhdbpaaGreatDoor.SK
namespace Go.Proofs.YtpgdnfgjbhdbpaaGreatDoor
open Go Go.RowKit SL
set_option maxRecDepth 8000
set_option maxHeartbeats 4000000
set_option linter.unusedSimpArgs false
set_option linter.unusedVariables false
attribute [local irreducible] SL.CW SL.LW SL.DW Calls SL.Ret SL.RetG SL.beginQ SL.roundQ SL.rangeQ SL.RW SL.AnyW SL.thenQ SL.thenC SL.thenW SL.blkQ SL.finQ SL.ValP SL.NewP SL.SetP SL.CallP SL.Rd SL.Wr SL.Known
section
open SK (sumB)
open UK (adr adr_lt)
attribute [local irreducible] SK.padB SK.sumB
end
section
theorem reach_in {f:FrV} {L L1:FrL} {a n g:Nat} (hF:okF f L) (hR:reachG f.gas L a n=some (g,L1)):L1.ms.length≤100000∧(0 < n→a+n≤L1.ms.length)∧g≤20000:=by
 obtain ⟨h1,h2,_,h3⟩:=reach_range hF hR
 have:=hF.1.2.2
 exact ⟨by omega,fun h=>(h3 h).2,by omega⟩
theorem whoC245 (f:FrV) (ws:List Nat):whoC f 245 ws=⟨245,0,0,f.self,ws.getD 0 0,!decide (ws.getD 0 0=0),0,.slice none 0 0,.slice none 0 0,0,0,f.stat⟩:=by
 have h:f.stat=(f.stat ||decide ((245:Nat)=250)):=by cases f.stat<;>rfl
 conv=>rhs;rw [h]
 rfl
attribute [local irreducible] createdA creV keepV whoC
end
end Go.Proofs.YtpgdnfgjbhdbpaaGreatDoor
namespace Go.Proofs.YtpgdnfgjbhdbpaaGreatDoor
open Go Go.RowKit SL
set_option linter.unusedVariables false
structure BegM (f:FrV) (L:FrL) (L':FrL) (c:ClV):Prop where
 ok:okF f L
 ws:L'.ws=L.ws
 cl:L'.cl=L.cl
 il:L'.il=L.il
 bl:L'.bl=L.bl
 ms:∃ k,L'.ms=L.ms++List.replicate k 0
 at_:c.pl+c.n≤L'.ms.length
theorem reach_mem {L L':FrL} {a n g g':Nat} (hr:reachG g L a n=some (g',L')):L'.ws=L.ws∧L'.cl=L.cl∧L'.il=L.il∧L'.bl=L.bl∧∃ k,L'.ms=L.ms++List.replicate k 0:=by
 obtain ⟨_,_,rfl⟩:=reachG_some hr
 exact ⟨rfl,rfl,rfl,rfl,_,rfl⟩
theorem beginG_M {f:FrV} {L:FrL} {A:AkV} {ws:List Nat} {g:Nat} {L':FrL} {l:List UInt8} {c:ClV} (hask:askB A.kind A.op ws.length=true) (hF:okF f L) (hne:¬ A.op=245) (h:beginG f L A ws=some (g,L',l,c)):BegM f L L' c:=by
 have hq0:=hask
 unfold askB at hq0
 rw [Bool.and_eq_true,Bool.and_eq_true,decide_eq_true_eq,decide_eq_true_eq] at hq0
 obtain ⟨hq1,hq2,hq3⟩:=hq0
 obtain ⟨hw7,hw0,i,j,hqi,hqj,hi,hj⟩:=shq_ij hne hq1 hq3
 unfold beginG at h
 dsimp only at h
 rw [hqi,hqj] at h
 cases hR1:reachG f.gas L (wordI ws (i:Int)) (wordI ws ((i:Int)+1)) with
 |none=>rw [hR1] at h;cases h
 |some x =>
  obtain ⟨g1,L1⟩:=x
  rw [hR1] at h
  dsimp only at h
  cases hR2:reachG g1 L1 (wordI ws (j:Int)) (wordI ws ((j:Int)+1)) with
  |none=>rw [hR2] at h;cases h
  |some y =>
   obtain ⟨g2,L2⟩:=y
   rw [hR2] at h
   dsimp only at h
   have hF1:=okF_reach (c:=f.code) (s:=f.stk) (m:=f.mem) (i:=f.inp) (b:=f.back) hF hR1
   obtain ⟨s1,s2,s3,s4⟩:=reach_range hF1 hR2
   obtain ⟨m1,m2,m3,m4,k1,m5⟩:=reach_mem hR1
   obtain ⟨n1,n2,n3,n4,k2,n5⟩:=reach_mem hR2
   split at h
   ·cases h
    refine ⟨hF,n1.trans m1,n2.trans m2,n3.trans m3,n4.trans m4,⟨k1+k2,?_⟩,?_⟩
    ·rw [n5,m5,List.append_assoc,List.replicate_append_replicate]
    ·show (if wordI ws ((j:Int)+1)=0 then 0 else wordI ws (j:Int))+wordI ws ((j:Int)+1)≤_
     rcases Nat.eq_zero_or_pos (wordI ws ((j:Int)+1)) with h0|h0
     ·rw [if_pos h0];omega
     ·rw [if_neg (by omega)];exact (s4 h0).2
   ·cases h
theorem beginX_M {f:FrV} {L:FrL} {ws:List Nat} {g:Nat} {L':FrL} {M:ClL} {c:ClV} (hF:okF f L) (h:beginX f L ws=some (g,L',M,c)):BegM f L L' c:=by
 unfold beginX at h
 cases hR1:reachG f.gas L (wordI ws 1) (wordI ws 2) with
 |none=>rw [hR1] at h;cases h
 |some x =>
  obtain ⟨g1,L1⟩:=x
  rw [hR1] at h
  dsimp only at h
  obtain ⟨m1,m2,m3,m4,k1,m5⟩:=reach_mem hR1
  split at h
  ·cases h
   exact ⟨hF,m1,m2,m3,m4,⟨k1,m5⟩,Nat.zero_le _⟩
  ·cases h
theorem beginA_M {f:FrV} {L:FrL} {A:AkV} {ws:List Nat} {g:Nat} {L':FrL} {M:ClL} {c:ClV} (h:beginA f L A ws=some (g,L',M,c)):BegM f L L' c:=by
 unfold beginA at h
 split at h
 ·rename_i hq
  split at h
  ·exact beginX_M hq.2 h
  ·rename_i hne
   cases hG:beginG f L A ws with
   |none=>rw [hG] at h;cases h
   |some x =>
    obtain ⟨g0,L0,l0,c0⟩:=x
    rw [hG] at h
    cases h
    exact beginG_M hq.1 hq.2 hne hG
 ·cases h
end Go.Proofs.YtpgdnfgjbhdbpaaGreatDoor
namespace Go.Proofs.YtpgdnfgjbhdbpaaGreatDoor
open Go Go.RowKit SL
set_option maxRecDepth 8000
set_option maxHeartbeats 4000000
set_option linter.unusedSimpArgs false
set_option linter.unusedVariables false
attribute [local irreducible] SL.CW SL.LW SL.DW Calls SL.Ret SL.RetG SL.beginQ SL.roundQ SL.rangeQ SL.RW SL.AnyW SL.thenQ SL.thenC SL.thenW SL.blkQ SL.finQ SL.ValP SL.NewP SL.SetP SL.CallP SL.Rd SL.Wr SL.Known
section
open SK (TurnAt NumAt)
theorem whoC_val {f:FrV} {op:Nat} {ws:List Nat} (hM:∀ x∈ws,x < M256) (hf:f.val < M256):(whoC f op ws).val < M256:=by
 unfold whoC
 split
 ·exact hf
 ·exact wordI_lt hM _
end
end Go.Proofs.YtpgdnfgjbhdbpaaGreatDoor
namespace Go.Proofs.YtpgdnfgjbhdbpaaGreatDoor
open Go Go.RowKit SL
set_option linter.unusedVariables false
structure BegW (f:FrV) (kind:Int) (op:Nat) (ws:List Nat) (L':FrL) (M:ClL) (c:ClV):Prop where
 ops:op=241∨op=244∨op=250∨op=245
 cop:c.op=op
 stat:f.stat=true→c.stat=true
 stat2:op=250→c.stat=true
 mv:c.mv=true→¬ op=250∧¬ op=244∧¬ c.val=0
 tb:targetB kind op ws.length=!decide (op=245)
 tn:¬ op=245→targetN kind op ws=c.dst
 w244:op=244→c.self=f.self∧c.frm=f.frm∧c.val=f.val
 who:¬ op=244→c.self=c.dst∧c.frm=f.self
 made:op=245→c.dst=createdA f.self (ws.getD 3 0) M.cl∧ws.length=4
 sub:op=245→0 < M.cl.length→∃ i,i+M.cl.length≤L'.ms.length∧M.cl=(L'.ms.drop i).take M.cl.length
 val:c.val < M256
theorem not_dec {x:Nat} (h:(!decide (x=0))=true):¬ x=0:=fun h0=>by rw [decide_eq_true h0] at h;cases h
theorem beginG_W {f:FrV} {L:FrL} {kind:Int} {op:Nat} {aws dt:Value} {cold vl new:Bool} {ws:List Nat} {g:Nat} {L':FrL} {l:List UInt8} {c:ClV} (hM:∀ x∈ws,x < M256) (hfv:f.val < M256) (hask:askB kind op ws.length=true) (hne:¬ op=245) (h:beginG f L ⟨kind,op,aws,dt,cold,vl,new⟩ ws=some (g,L',l,c)):BegW f kind op ws L' ⟨l,[]⟩ c:=by
 have hq:=hask
 unfold askB at hq
 rw [Bool.and_eq_true] at hq
 have hval:=whoC_val (f:=f) (op:=op) hM hfv
 have key:∃ pl n gas,c={ whoC f op ws with pl:=pl,n:=n,gas:=gas }:=by
  unfold beginG at h
  dsimp only at h
  generalize whoC f op ws=c1 at h ⊢
  cases hR1:reachG f.gas L (wordI ws (shq op).2.2.2.1) (wordI ws ((shq op).2.2.2.1+1)) with
  |none=>rw [hR1] at h;cases h
  |some x =>
   obtain ⟨g1,L1⟩:=x
   rw [hR1] at h
   dsimp only at h
   cases hR2:reachG g1 L1 (wordI ws (shq op).2.2.2.2.1) (wordI ws ((shq op).2.2.2.2.1+1)) with
   |none=>rw [hR2] at h;cases h
   |some y =>
    obtain ⟨g2,L2⟩:=y
    rw [hR2] at h
    dsimp only at h
    split at h
    ·cases h
     exact ⟨_,_,_,rfl⟩
    ·cases h
 obtain ⟨pl,n,gas,rfl⟩:=key
 have htb:targetB kind op ws.length=true:=by
  unfold targetB
  rw [hask]
  exact decide_eq_true hne
 have htn:targetN kind op ws=ws.getD 1 0 % 18446744073709551616:=if_pos htb
 rcases shq_ok hq.1 with ⟨rfl,_⟩|⟨ho,_⟩|⟨ho,_⟩
 ·exact ⟨.inl rfl,rfl,fun h=>(by show (f.stat ||_)=true;rw [h];rfl),fun h=>by omega,fun h=>⟨by decide,by decide,not_dec h⟩,htb,fun _=>htn,fun h=>by omega,fun _=>⟨rfl,rfl⟩,fun h=>by omega,fun h=>by omega,hval⟩
 ·rcases ho with rfl|rfl
  ·exact ⟨.inr (.inl rfl),rfl,fun h=>h,fun h=>by omega,fun h=>(by cases h),htb,fun _=>htn,fun _=>⟨rfl,rfl,rfl⟩,fun h=>absurd rfl h,fun h=>by omega,fun h=>by omega,hval⟩
  ·exact ⟨.inr (.inr (.inl rfl)),rfl,fun h=>(by show (f.stat ||_)=true;rw [h];rfl),fun _=>(by show (f.stat ||_)=true;cases f.stat<;>rfl),fun h=>absurd rfl (not_dec (x:=0) h),htb,fun _=>htn,fun h=>by omega,fun _=>⟨rfl,rfl⟩,fun h=>by omega,fun h=>by omega,hval⟩
 ·exact absurd ho hne
theorem beginX_W {f:FrV} {L:FrL} {kind:Int} {ws:List Nat} {g:Nat} {L':FrL} {M:ClL} {c:ClV} (hM:∀ x∈ws,x < M256) (hask:askB kind 245 ws.length=true) (hF:okF f L) (h:beginX f L ws=some (g,L',M,c)):BegW f kind 245 ws L' M c:=by
 have hlen:ws.length=4:=by
  have hh:=hask
  unfold askB at hh
  simp only [Bool.and_eq_true,decide_eq_true_eq] at hh
  have h2:=hh.2.2
  have:(shq 245).1=4:=rfl
  omega
 have h0:ws.getD 0 0 < M256:=wordI_lt hM 0
 have htb:targetB kind 245 ws.length=false:=by
  unfold targetB
  rw [hask]
  rfl
 unfold beginX at h
 rw [whoC245] at h
 cases hR1:reachG f.gas L (wordI ws 1) (wordI ws 2) with
 |none=>rw [hR1] at h;cases h
 |some x =>
  obtain ⟨g1,L1⟩:=x
  rw [hR1] at h
  dsimp only at h
  obtain ⟨_,hin,_⟩:=reach_in hF hR1
  obtain ⟨l,hl⟩:∃ l,(L1.ms.drop (wordI ws 1)).take (wordI ws 2)=l:=⟨_,rfl⟩
  rw [hl] at h
  have hsub:0 < l.length→∃ i,i+l.length≤L1.ms.length∧l=(L1.ms.drop i).take l.length:=fun hp=>by
   have hl2:l.length=min (wordI ws 2) (L1.ms.length - wordI ws 1):=by rw [← hl,List.length_take,List.length_drop]
   have h5:=hin (by omega)
   refine ⟨wordI ws 1,by omega,?_⟩
   rw [show l.length=wordI ws 2 by omega]
   exact hl.symm
  obtain ⟨cr,hcr⟩:∃ cr,createdA f.self (ws.getD 3 0) l=cr:=⟨_,rfl⟩
  rw [hcr] at h
  split at h
  ·cases h
   exact ⟨.inr (.inr (.inr rfl)),rfl,fun h=>h,fun h=>by omega,fun h=>⟨by decide,by decide,not_dec h⟩,htb,fun h=>absurd rfl h,fun h=>by omega,fun _=>⟨rfl,rfl⟩,fun _=>⟨hcr.symm,hlen⟩,fun _=>hsub,h0⟩
  ·cases h
theorem beginA_W {f:FrV} {L:FrL} {kind:Int} {op:Nat} {aws dt:Value} {cold vl new:Bool} {ws:List Nat} {g:Nat} {L':FrL} {M:ClL} {c:ClV} (hM:∀ x∈ws,x < M256) (hfv:f.val < M256) (h:beginA f L ⟨kind,op,aws,dt,cold,vl,new⟩ ws=some (g,L',M,c)):BegW f kind op ws L' M c:=by
 unfold beginA at h
 dsimp only at h
 split at h
 ·rename_i hq
  split at h
  ·rename_i he
   subst he
   exact beginX_W hM hq.1 hq.2 h
  ·rename_i hne
   cases hG:beginG f L ⟨kind,op,aws,dt,cold,vl,new⟩ ws with
   |none=>rw [hG] at h;cases h
   |some x =>
    obtain ⟨g0,L0,l0,c0⟩:=x
    rw [hG] at h
    cases h
    exact beginG_W hM hfv hq.1 hne hG
 ·cases h
end Go.Proofs.YtpgdnfgjbhdbpaaGreatDoor
namespace Go.Proofs.YtpgdnfgjbhdbpaaGreatDoor
open Go Go.RowKit SL
set_option linter.unusedVariables false
def renW:Go.Shelf.Ren where
 f:=fun k=>match k with
  |115=>36
  |185=>74
  |186=>35
  |187=>109
  |224=>111
  |253=>110
  |254=>112
  |255=>137
  |291=>138
  |_=>0
 t:=fun k=>match k with
  |3=>3
  |4=>4
  |5=>5
  |9=>9
  |37=>22
  |46=>147
  |51=>177
  |146=>178
  |_=>0
 g:=fun _=>0
theorem lay186:Lays.n186 Tryz.prog renW:={
 mixed:=by kernel_rfl
 f115:=Tryz.func36.trans (by kernel_rfl)
 f185:=Tryz.func74.trans (by kernel_rfl)
 f186:=Tryz.func35.trans (by kernel_rfl)
 f187:=Tryz.func109.trans (by kernel_rfl)
 f224:=Tryz.func111.trans (by kernel_rfl)
 f253:=Tryz.func110.trans (by kernel_rfl)
 f254:=Tryz.func112.trans (by kernel_rfl)
 f255:=Tryz.func137.trans (by kernel_rfl)
 f291:=Tryz.func138.trans (by kernel_rfl)
 t0:=Tryz.underlying0
 a0:=Tryz.isAgg0
 z0:=Tryz.sizeOf0
 v0:=Tryz.zeroValue0
 t3:=Tryz.underlying3
 a3:=Tryz.isAgg3
 z3:=Tryz.sizeOf3
 v3:=Tryz.zeroValue3
 t4:=Tryz.underlying4
 a4:=Tryz.isAgg4
 z4:=Tryz.sizeOf4
 v4:=Tryz.zeroValue4
 t5:=Tryz.underlying5
 a5:=Tryz.isAgg5
 z5:=Tryz.sizeOf5
 v5:=Tryz.zeroValue5
 t9:=Tryz.underlying9
 a9:=Tryz.isAgg9
 z9:=Tryz.sizeOf9
 v9:=Tryz.zeroValue9
 t37:=Tryz.underlying22
 a37:=Tryz.isAgg22
 z37:=Tryz.sizeOf22
 v37:=Tryz.zeroValue22
 t46:=Tryz.underlying147
 a46:=Tryz.isAgg147
 z46:=Tryz.sizeOf147
 v46:=Tryz.zeroValue147
 t51:=Tryz.underlying177
 a51:=Tryz.isAgg177
 z51:=Tryz.sizeOf177
 v51:=Tryz.zeroValue177
 t146:=Tryz.underlying178
 a146:=Tryz.isAgg178
 z146:=Tryz.sizeOf178
 v146:=Tryz.zeroValue178
 g1:=by kernel_rfl }
def LenAt (w:World):Prop:=∃ m:Int,w.cell? ⟨0,0,none⟩=some (.int .i64 m)
theorem lenAt_shaped (w:World) (h:w.ShapedOpen Tryz.prog):LenAt w:=cell_of_shapedOpen_int (zero:=#[.int .i64 0]) (t:=3) h (of_decide_eq_true (by kernel_rfl)) (by kernel_rfl) rfl (by kernel_rfl) (by kernel_rfl) Tryz.underlying3
theorem LenAt.bel {w0 w:World} (h:LenAt w0) (hb:Bel w0.heap.size [] w0 w):LenAt w:=by
 obtain ⟨m,hm⟩:=h
 refine ⟨m,?_⟩
 unfold World.cell? at hm ⊢
 have h0:0 < w0.heap.size:=by
  rcases Nat.eq_zero_or_pos w0.heap.size with h|h
  ·rw [Array.getElem?_eq_none (by omega)] at hm;cases hm
  ·exact h
 rw [hb.block 0 h0 (by simp)]
 exact hm
theorem cells_us {l:List UInt8} {cs:Array Value} {o:Nat} (h:(cs.toList.drop o).take (l.length * 1)=ucs l) {i:Nat} (hi:i < l.length):cs[o+i]?=some (.int .u8 ((l.map fun u=>(u.toNat:Int)).getD i 0)):=by
 have h2:=congrArg (fun x:List Value=>x[i]?) h
 simp only [Nat.mul_one] at h2
 rw [List.getElem?_take_of_lt hi,List.getElem?_drop,ucs_map,List.getElem?_map,List.getElem?_eq_getElem hi] at h2
 rw [← Array.getElem?_toList,h2,List.getD_eq_getElem?_getD,List.getElem?_map,List.getElem?_eq_getElem hi]
 rfl
theorem bytesOf_us (l:List UInt8):Lib.bytesOf (l.map fun u=>(u.toNat:Int))=l:=by
 unfold Lib.bytesOf
 rw [List.map_map]
 conv=>rhs;rw [← List.map_id l]
 refine List.map_congr_left fun u _=>?_
 simp
theorem add_plainW (b o i:Nat):(⟨b,o,none⟩:Addr).add i=⟨b,o+i,none⟩:=by unfold Addr.add;split<;>simp_all
theorem bContains_calls (a b:List UInt8) (va vb:Value) (w:World) (ha:RowAt w 1 va a.length (ucs a)) (hb:RowAt w 1 vb b.length (ucs b)) (ha0:0 < a.length) (hb0:0 < b.length) (hal:a.length≤100000) (hbl:b.length≤100000) (hm:LenAt w) :
  Calls Tryz.prog 35 #[va,vb] w (Ret w (.bool (Lib.contains a b))):=by
 obtain ⟨_,k1,hf1,hk1,_⟩:=ha.form
 obtain ⟨b1,o1,c1,cs1,E1,fr1,rfl,h1,x1⟩:=ha.pos ha0
 obtain ⟨b2,o2,c2,cs2,E2,fr2,rfl,h2,x2⟩:=hb.pos hb0
 cases hf1
 obtain ⟨m,hm⟩:=hm
 have hc:=Any.bytes_Contains_at lay186 ⟨b1,o1,none⟩ ⟨b2,o2,none⟩ a.length k1 b.length c2 (a.map fun u=>(u.toNat:Int)) (b.map fun u=>(u.toNat:Int)) m w (List.length_map _) (List.length_map _)
  (fun x hx=>by
   obtain ⟨u,_,rfl⟩:=List.mem_map.1 hx
   have:=u.toNat_lt
   omega)
  (fun x hx=>by
   obtain ⟨u,_,rfl⟩:=List.mem_map.1 hx
   have:=u.toNat_lt
   omega)
  (fun i hi=>by rw [add_plainW,cell_of h1];exact cells_us x1 hi) (fun i hi=>by rw [add_plainW,cell_of h2];exact cells_us x2 hi) hk1 (by omega) (by omega) hm
 rw [bytesOf_us,bytesOf_us] at hc
 refine hc.mono fun e w' ⟨he,q,hw⟩=>⟨he,?_⟩
 subst hw
 exact ⟨rfl,rfl,rfl,Nat.le_refl _,fun _ _ _=>rfl⟩
theorem contains_sub {s l:List UInt8} {i:Nat} (hi:i+l.length≤s.length) (h:l=(s.drop i).take l.length):Lib.contains s l=true:=by
 have ho:Lib.occAt s l i=true:=by
  rw [Lib.occAt_iff_take s l i hi,beq_iff_eq]
  exact h.symm
 unfold Lib.contains
 rcases Lib.index_spec s l with ⟨h1,h2⟩|⟨j,h1,_⟩
 ·have:=h2 i (by omega)
  rw [ho] at this
  cases this
 ·rw [h1]
  exact decide_eq_true (by omega)
end Go.Proofs.YtpgdnfgjbhdbpaaGreatDoor
namespace Go.Proofs.YtpgdnfgjbhdbpaaGreatDoor
open Go Go.RowKit SL
set_option maxRecDepth 8000
set_option maxHeartbeats 4000000
set_option linter.unusedSimpArgs false
set_option linter.unusedVariables false
attribute [local irreducible] SL.CW SL.LW SL.DW Calls SL.Ret SL.RetG SL.beginQ SL.roundQ SL.rangeQ SL.RW SL.AnyW SL.thenQ SL.thenC SL.thenW SL.blkQ SL.finQ SL.ValP SL.NewP SL.SetP SL.CallP SL.Rd SL.Wr SL.Known
structure AkA where
 kind:Int
 op:Nat
 ws:Value
 l:List Nat
 dt:Value
def akp (a:AkA):List Value:=(aska a.kind a.op a.ws a.dt).toList
structure AkAt (w:World) (a:AkA):Prop where
 row:RowAt w 4 a.ws a.l.length (wcs a.l)
 dt:∃ d:List UInt8,RowAt w 1 a.dt d.length (ucs d)
 lt:∀ x∈a.l,x < M256
theorem AkAt.bel {w0 w:World} {a:AkA} (h:AkAt w0 a) (hb:Bel w0.heap.size [] w0 w):AkAt w a:=⟨h.row.bel hb,h.dt.imp fun _ hd=>hd.bel hb,h.lt⟩
def AskedR (a:AkA) (v:Value) (gs:Fs):Prop:=∃ u,v=.agg (aska a.kind a.op u (.slice none 0 0))∧wM (a.l.take 9) u gs
theorem ask_cells {kind:Int} {op:Nat} {u d:Value} (h:∃ p n c,u=.slice p n c) (h2:∃ p n c,d=.slice p n c):(aska kind op u d).toList.all Value.oneCell'=true:=by
 obtain ⟨p,n,c,rfl⟩:=h
 obtain ⟨p,n,c,rfl⟩:=h2
 rfl
theorem ask_wrW {P:Program} {T E:TypeId} {kind:Int} {op:Nat} {u d z:Value} {cs:Array Value} [InfoI P T 4 z] (h:cs.size=4) (h1:∃ p n c,u=.slice p n c) (h2:∃ p n c,d=.slice p n c):Wr P T (.cells cs E (0,0)) 0 (.agg (aska kind op u d)) (.cells (aska kind op u d) E (0,0)):=Wr.whole h rfl (ask_cells h1 h2)
theorem ask_blocks {w:World} {a:AkA} (h:AkAt w a):[Value.agg (aska a.kind a.op a.ws a.dt)].flatMap (blocksN 4)=[a.ws,a.dt].flatMap (blocksN 4):=by
 obtain ⟨p,c,e1,_,_⟩:=h.row.form
 obtain ⟨dl,hdt⟩:=h.dt
 obtain ⟨p2,c2,e2,_,_⟩:=hdt.form
 rw [e1,e2]
 simp [aska,blocksN]
 rw [blocks_sl ⟨_,_,_,rfl⟩,blocks_sl ⟨_,_,_,rfl⟩]
theorem asked_calls (a:AkA) (w:World) (h:AkAt w a):Calls Tryz.prog 25 #[.agg (aska a.kind a.op a.ws a.dt)] w (RetG w [] (AskedR a)):=by
 obtain ⟨kind,op,u,l,d⟩:=a
 obtain ⟨hr,⟨dl,hdt⟩,hlt⟩:=h
 dsimp only at hr hlt hdt
 obtain ⟨q,kd,rfl,_,_⟩:=hdt.form
 obtain ⟨p,c,rfl,hc,hm⟩:=id hr.form
 simp only [maxLen] at hm
 have hf:=row_fewW hr (k:=9) rfl
 have hl9:(l.take 9).length≤100000:=by rw [List.length_take];omega
 refine enter (args:=[_]) _ [] [] Tryz.func25 rfl Tryz.ntmps25 rfl (by simp) .nil ?_
 (refine sRz ?_;apply zT;rfl;rfl;intro _;apply zU;rfl;intro _;refine nNz<|zI ?_)
 apply CW.pre
 (refine AnyW.anyM [(11,wM (l.take 9))] 12 mixed (by decide +kernel) ?_)
 ((try simp only [tsOf_cons,tsOf_nil,tsOf_app]);refine dvz (.fieldAddr rfl rfl) ?_;apply qD;rfl;rfl;rfl;exact zC;rfl;apply zO;apply zP;exact zN;exact ask_rd0;refine dvz (.fieldAddr rfl rfl) ?_;apply qD;rfl;rfl;rfl;exact zC;rfl;apply zO;apply zP;exact zN;exact ask_rd1;refine dvz (.fieldAddr rfl rfl) ?_;apply qD;rfl;rfl;rfl;exact zC;rfl;apply zO;apply zP;exact zN;exact ask_rd2;refine dvz (.fieldAddr rfl rfl) ?_;apply qD;rfl;rfl;rfl;exact zC;rfl;apply zO;apply zP;exact zN;exact ask_rd2;refine dvz (.lenR rfl inferInstance rfl) ?_;refine dvz (.minZL rfl rfl (by decide)) ?_;refine dvz (.cutTo inferInstance inferInstance rfl rfl (by omega)) ?_)
 (apply DW.manyV;rfl;rfl;rfl;exact zC;rfl;infer_instance;exact .cons rfl .nil;apply RdV.ext;assumption;rfl;exact RdV.nil;intro w _ _)
 exact CloneW_calls _ _ w (hf.bel (by assumption)) hl9
 intro v1 g1 h1
 have h1':=h1
 unfold wM at h1'
 obtain ⟨q1,k1,rfl⟩:=h1'.form
 ((try simp only [tsOf_cons,tsOf_nil,tsOf_app]);apply DW.nil;simp only [fsOf_cons,fsOf_nil,fsOf_app,fsOf_tsOf,fsOf_new,fsOf_tag])
 (apply LW.v0;rfl;rfl;apply zW;infer_instance;infer_instance;apply zA;rfl;apply zA;rfl;apply zA;rfl;exact zB;rfl;simp only [fillP,wrCells,Value.cells,qH,qI,qJ,qG,qL,qK,Nat.reduceAdd,qN];rfl;apply zR;rfl;rfl;apply qC;apply qA;apply ask_wrW;rfl;exact ⟨_,_,_,rfl⟩;exact ⟨_,_,_,rfl⟩;refine nNz<|zK ?_)
 exact fin (vs:=[.agg (aska kind op (.slice q1 (l.take 9).length k1) (.slice none 0 0))]) g1 (.inl rfl) rfl rfl (by (apply zD;apply zH;rfl;apply qE;apply zZ;apply zY;exact ask_rdW;exact zF)) (qP _ _) ⟨_,rfl,h1⟩
section
open SK (TurnAt NumAt)
theorem whoC_dst (f:FrV) (op:Nat) (ws:List Nat):(whoC f op ws).dst < 18446744073709551616:=by
 unfold whoC
 split<;>exact Nat.mod_lt _ (by decide)
section ir
attribute [local irreducible] createdA whoC lentG callV creV keepV reachG
theorem creC_dst {f:FrV} {L L':FrL} {A:AkV} {ws:List Nat} {g:Nat} {M:ClL} {c:ClV} (h:beginA f L A ws=some (g,L',M,c)):c.dst < 18446744073709551616:=by
 unfold beginA at h
 split at h
 ·split at h
  ·unfold beginX at h
   cases hR1:reachG f.gas L (wordI ws 1) (wordI ws 2) with
   |none=>rw [hR1] at h;cases h
   |some x =>
    obtain ⟨g1,L1⟩:=x
    rw [hR1] at h
    dsimp only at h
    generalize (L1.ms.drop (wordI ws 1)).take (wordI ws 2)=l at h
    have hc:=createdA_lt f.self (ws.getD 3 0) l
    generalize createdA f.self (ws.getD 3 0) l=cr at h hc
    split at h
    ·cases h
     exact hc
    ·cases h
  ·cases hG:beginG f L A ws with
   |none=>rw [hG] at h;cases h
   |some x =>
    obtain ⟨g0,L0,l0,c0⟩:=x
    rw [hG] at h
    cases h
    unfold beginG at hG
    dsimp only at hG
    have hw:=whoC_dst f A.op ws
    generalize whoC f A.op ws=c1 at hG hw
    cases hR1:reachG f.gas L (wordI ws (shq A.op).2.2.2.1) (wordI ws ((shq A.op).2.2.2.1+1)) with
    |none=>rw [hR1] at hG;cases hG
    |some x =>
     obtain ⟨g1,L1⟩:=x
     rw [hR1] at hG
     dsimp only at hG
     cases hR2:reachG g1 L1 (wordI ws (shq A.op).2.2.2.2.1) (wordI ws ((shq A.op).2.2.2.2.1+1)) with
     |none=>rw [hR2] at hG;cases hG
     |some y =>
      obtain ⟨g2,L2⟩:=y
      rw [hR2] at hG
      dsimp only at hG
      split at hG
      ·cases hG
       exact hw
      ·cases hG
 ·cases h
end ir
end
section
open SK (TurnAt NumAt)
open CK (readB segsAt)
theorem staF_ok {c:ClV} {L:ClL} {pl:List UInt8} {a b d e f:Value} (h:okS c L pl):okF (staF c a b d e f) (staL L pl):=by
 obtain ⟨hc,h0,hl⟩:=h
 refine ⟨⟨hc.2.1.2.1,Nat.zero_le _,hc.2.1.1⟩,h0,hl,⟨Nat.zero_le _,Nat.zero_le _,rfl⟩,?_⟩
 cases pl with
 |nil=>exact .inl rfl
 |cons x xs =>
  refine .inr ?_
  show readB (x::xs) 0=true
  unfold readB segsAt
  simp
theorem CallWho_walk (x:FrV) (X:FrL) (a:AkA) (v2:Value) (l2:List UInt8) (hxn:FrNum x X) (w:World) (hx:FrRows w x X) (ha:AkAt w a) (hr2:RowAt w 1 v2 l2.length (ucs l2)) (hL:(TurnAt w∧NumAt w)∧LenAt w):Calls Tryz.prog 8 #[frv x,.agg (aska a.kind a.op a.ws a.dt),v2] w (Ret w (.bool true)):=by
 obtain ⟨dl,hdt⟩:=ha.dt
 obtain ⟨p2,c2,rfl,hc2,hm2⟩:=id hr2.form
 simp only [maxLen] at hm2
 have hpl:=row_few hr2 (k:=200) rfl
 obtain ⟨pl,hple⟩:∃ pl,l2.take 200=pl:=⟨_,rfl⟩
 have hpl3:pl.length≤200:=by rw [← hple,List.length_take];omega
 rw [hple] at hpl
 clear hple
 refine enter (args:=[_,_,_]) _ [] [] Tryz.func8 rfl Tryz.ntmps8 rfl (by simp) .nil ?_
 (refine sRz ?_;apply zT;rfl;rfl;intro _;apply zT;rfl;rfl;intro _;refine vAz<|nNz<|zI<|sRz ?_;apply zS;rfl;rfl;infer_instance;exact ArgsOk.nil;intro w _;exact lwakes_calls w;refine lvz (.notT rfl (by with_reducible rfl)) ?_;refine nNz<|cFz<|zJ<|thenN<|zI ?_)
 apply CW.pre
 (refine AnyW.anyM [(1,FairR x X),(3,AskedR a)] 6 mixed (by decide +kernel) ?_)
 ((try simp only [tsOf_cons,tsOf_nil,tsOf_app]);apply qD;rfl;rfl;rfl;exact zC;rfl;apply zO;apply zP;exact zN;exact fr_rdW)
 refine DW.manyW (vs':=[x.code,x.stk,x.mem,x.inp,x.back]) rfl rfl rfl (by (exact zC)) rfl inferInstance (by (exact .cons rfl .nil)) hx.blocks (.ext hx.c rfl (.ext hx.s rfl (.ext hx.m rfl (.ext hx.i rfl (.ext hx.b rfl .nil))))) (fun w hb _=>fair_calls x X w (hx.bel hb)) ?_
 rintro v3 g1 hv3
 obtain ⟨y1,rfl,hy1,hxy1⟩:=hv3.like
 ((try simp only [tsOf_cons,tsOf_nil,tsOf_app]);apply qD;rfl;rfl;rfl;exact zC;rfl;apply zQ;apply zP;exact zN;exact ask_rdW)
 refine DW.manyW (vs':=[a.ws,a.dt]) rfl rfl rfl (by (exact zC)) rfl inferInstance (by (exact .cons rfl .nil)) (ask_blocks ha) (.ext ha.row rfl (.ext hdt rfl .nil)) (fun w hb _=>asked_calls a w (ha.bel hb)) ?_
 rintro v4 g2 ⟨u,rfl,hu⟩
 have hu':=hu
 unfold wM at hu'
 obtain ⟨q2,k2,rfl⟩:=id hu'.form
 ((try simp only [tsOf_cons,tsOf_nil,tsOf_app]);apply DW.allocA;rfl;rfl;rfl;exact zC;intro _;apply DW.allocA;rfl;rfl;rfl;exact zC;intro _;apply DW.nil;simp only [fsOf_cons,fsOf_nil,fsOf_app,fsOf_tsOf,fsOf_new,fsOf_tag,fsOf_mark])
 have hs1:=hy1.sl
 have hyn1:=hxy1.num (fewF_num hxn)
 have hlt:∀ x∈a.l.take 9,x < M256:=fun x hx=>ha.lt x (List.mem_of_mem_take hx)
 obtain ⟨kind,op,aw,al,ad⟩:=a
 dsimp only at hlt hu hu' ha hdt
 obtain ⟨ws,hws⟩:∃ ws,al.take 9=ws:=⟨_,rfl⟩
 have hwl:ws.length≤9:=by rw [← hws,List.length_take];omega
 dsimp only
 rw [hws] at hlt hu hu' ⊢
 (apply zR;rfl;rfl;apply qB;apply qA;apply fr_wrW;rfl;exact hs1;apply zR;rfl;rfl;apply qA;apply ask_wrW;rfl;exact ⟨_,_,_,rfl⟩;exact ⟨_,_,_,rfl⟩;refine nSz<|ldz rfl (.tail .head) fr_rdW<|ldz rfl .head ask_rdW ?_;apply LW.v0;rfl;rfl;apply zW;infer_instance;infer_instance;exact zB;rfl;simp only [fillP,wrCells,Value.cells,qH,qI,qJ,qG,qL,qK,Nat.reduceAdd,qN];rfl)
 refine LW.callR rfl rfl inferInstance (by (exact .cons rfl (.cons rfl (.cons rfl .nil)))) (fun w' hst=>Begin_calls y1 (fewF X) ⟨kind,op,.slice q2 ws.length k2,.slice none 0 0,false,false,false⟩ ws hlt ⟨_,_,_,rfl⟩ hyn1.self w' (hy1.us (st_ou hst (by (apply qQ;apply qQ;apply List.sublist_append_of_sublist_right;exact qP _ _)))) (wM_at hu (st_ou hst (by (apply qQ;apply qQ;exact qP _ _)))) (hL.1.1.st ⟨hst.bel,(fun p h=>by cases h),.nil⟩) (hL.1.2.st ⟨hst.bel,(fun p h=>by cases h),.nil⟩)) ?_
 rintro v5 g5 hB
 rcases hR:beginA y1 (fewF X) ⟨kind,op,.slice q2 ws.length k2,.slice none 0 0,false,false,false⟩ ws with _|r
 ·rw [hR] at hB
  obtain ⟨rfl,rfl⟩:=hB
  have hsl:=zero_sl
  have hcy:=zeroC_o.cells
  (refine vMz ?_;refine vEz ?_;refine vEz ?_;refine vEz ?_;apply zU;rfl;intro _;apply zU;rfl;intro _;apply zR;rfl;rfl;apply qB;apply qA;apply fr_wrW;rfl;exact hsl;apply zR;rfl;rfl;apply qA;apply cl_wrW;rfl;exact hcy;refine vAz<|nNz<|zI<|sRz<|vMz ?_;refine lvz (.notF rfl (by with_reducible rfl)) ?_;refine nNz<|cTz<|sRz<|vAz<|nNz<|zK<|thenR ?_)
  (apply finR;exact .inl rfl;rfl;rfl;rfl;apply zD;exact zG rfl;exact zF)
  rfl
 obtain ⟨g,L',M,c⟩:=r
 have hP:=beginA_P hR
 have hBM:=beginA_M hR
 have hdst:=creC_dst hR
 have hW:=beginA_W hlt hyn1.val hR
 rw [hR] at hB
 obtain ⟨cc,s,m,ii,b,iv,kv,ga,gb,rfl,rfl,hfr,hcl⟩:=hB
 obtain ⟨code,pc,stk,mem,gas,self,frm,val,inp,back,stat⟩:=y1
 obtain ⟨cop,cdst,cself,cfrm,cval,cmv,cgas,cinp,ccode,cpl,cn,cstat⟩:=c
 obtain ⟨w1,w2,w3,w4,w5,w6,w7,w8,w9,w10,w11,w12⟩:=hW
 dsimp only at w2 w3 w4 w5 w7 w8 w9 w10 w11 w12 hdst
 subst w2
 obtain ⟨gi,gk,hgb,ri,rk⟩:=id hcl
 unfold bM at ri rk
 dsimp only at ri rk
 obtain ⟨qi,ki,rfl⟩:=id ri.form
 obtain ⟨qk,kk,rfl⟩:=id rk.form
 obtain ⟨k1,⟨k2,k3,k4⟩,k5,k6,k7⟩:=id hP.cl
 dsimp only at k1 k2 k6 k7
 have hsl:FrSl ⟨cc,pc,s,m,g,self,frm,val,ii,b,stat⟩:=hfr.sl
 have hcy:(cla ⟨cop,cdst,cself,cfrm,cval,cmv,cgas,.slice qi M.il.length ki,.slice qk M.cl.length kk,cpl,cn,cstat⟩).toList.all Value.oneCell'=true:=hcl.cells
 change LW _ _ _ _ ((26,.tuple #[frv ⟨cc,pc,s,m,g,self,frm,val,ii,b,stat⟩,clv ⟨cop,cdst,cself,cfrm,cval,cmv,cgas,.slice qi M.il.length ki,.slice qk M.cl.length kk,cpl,cn,cstat⟩,.bool true])::_) _
 rw [List.append_assoc ga gb]
 (refine vMz ?_;refine vEz ?_;refine vEz ?_;refine vEz ?_;apply zU;rfl;intro _;apply zU;rfl;intro _;apply zR;rfl;rfl;apply qB;apply qA;apply fr_wrW;rfl;exact hsl;apply zR;rfl;rfl;apply qA;apply cl_wrW;rfl;exact hcy;refine vAz<|nNz<|zI<|sRz<|vMz ?_;refine lvz (.notT rfl (by with_reducible rfl)) ?_;refine nNz<|cFz<|zJ<|thenN<|zI<|sRz<|vFz<|ldz rfl .head cl_rd0<|vFz<|ldz rfl (.tail (.tail (.app (.app .head)))) ask_rd1 ?_;refine lvz (.neF rfl rfl (by omega)) ?_;refine vMz<|gTz<|vFz<|gTz<|ldz rfl (.tail (.tail (.app (.app (.tail .head))))) fr_rd13<|gTz<|vMz ?_)
 rename_i b3 b4 b7 b8 b9 b10
 refine LW.joinF 5 ((45,.bool false)::[(2,.slice p2 l2.length c2),(7,.pointer (some ⟨b7,0,none⟩)),(8,.pointer (some ⟨b8,0,none⟩)),(9,.pointer (some ⟨b9,0,none⟩)),(10,.pointer (some ⟨b10,0,none⟩)),(11,.bool true)]) ?_ ?_
 rotate_left
 ·rcases Bool.eq_false_or_eq_true stat with hst|hst
  ·have hcs:=w3 hst
   rw [hst,hcs]
   (refine gTz<|vFz<|gTz<|ldz rfl .head cl_rd14<|gTz ?_;refine lvz (.notT rfl (by with_reducible rfl)) ?_;refine gTz<|pTz<|pFz ?_;apply zV)
   exact joinI ⟨rfl,rfl,rfl,rfl,rfl,rfl,rfl,trivial⟩ (qM _)
  ·rw [hst]
   ((iterate 3 refine gFz ?_);refine gTz<|pFz<|pFz ?_;apply zV)
   exact joinI ⟨rfl,rfl,rfl,rfl,rfl,rfl,rfl,trivial⟩ (qM _)
 simp only [List.drop_succ_cons,List.drop_zero]
 (refine vMz<|gTz<|vFz<|gTz<|ldz rfl (.tail (.tail (.app (.app .head)))) ask_rd1<|gTz<|lvz (.eq rfl rfl)<|gTz<|vMz ?_)
 refine LW.joinF 5 ((55,.bool false)::[(2,.slice p2 l2.length c2),(7,.pointer (some ⟨b7,0,none⟩)),(8,.pointer (some ⟨b8,0,none⟩)),(9,.pointer (some ⟨b9,0,none⟩)),(10,.pointer (some ⟨b10,0,none⟩)),(11,.bool true)]) ?_ ?_
 rotate_left
 ·by_cases h50:cop=250
  ·have hcs:=w4 h50
   rw [hcs,show decide ((cop:Int)=250)=true from decide_eq_true (by omega)]
   (refine gTz<|vFz<|gTz<|ldz rfl .head cl_rd14<|gTz ?_;refine lvz (.notT rfl (by with_reducible rfl)) ?_;refine gTz<|pTz<|pFz ?_;apply zV)
   exact joinI ⟨rfl,rfl,rfl,rfl,rfl,rfl,rfl,trivial⟩ (qM _)
  ·rw [show decide ((cop:Int)=250)=false from decide_eq_false (by omega)]
   ((iterate 3 refine gFz ?_);refine gTz<|pFz<|pFz ?_;apply zV)
   exact joinI ⟨rfl,rfl,rfl,rfl,rfl,rfl,rfl,trivial⟩ (qM _)
 simp only [List.drop_succ_cons,List.drop_zero]
 (refine vMz<|gTz<|vFz<|gTz<|ldz rfl .head cl_rd8<|gTz<|vMz ?_)
 refine LW.joinF 16 ((75,.bool false)::[(2,.slice p2 l2.length c2),(7,.pointer (some ⟨b7,0,none⟩)),(8,.pointer (some ⟨b8,0,none⟩)),(9,.pointer (some ⟨b9,0,none⟩)),(10,.pointer (some ⟨b10,0,none⟩)),(11,.bool true)]) ?_ ?_
 rotate_left
 ·rcases Bool.eq_false_or_eq_true cmv with hmv|hmv
  ·obtain ⟨n1,n2,n3⟩:=w5 hmv
   rw [hmv]
   (refine gTz<|vFz<|gTz<|ldz rfl (.tail (.tail (.app (.app .head)))) ask_rd1<|gTz ?_;refine lvz (.eqF rfl rfl (by omega)) ?_;refine gTz<|vMz<|gTz<|vFz<|gTz<|ldz rfl (.tail (.tail (.app (.app .head)))) ask_rd1<|gTz ?_;refine lvz (.eqF rfl rfl (by omega)) ?_;refine gTz<|pFz<|gTz<|vMz<|gTz<|vFz<|gTz<|ldz rfl .head cl_rd4<|gTz ?_;apply LW.v0;rfl;rfl;exact ValP.buildW0;refine gTz ?_;refine lvz (.eqWF rfl rfl (by assumption) (by omega) (by assumption)) ?_;refine gTz<|pFz<|gTz<|pTz<|pFz ?_;apply zV)
   exact joinI ⟨rfl,rfl,rfl,rfl,rfl,rfl,rfl,trivial⟩ (qM _)
  ·rw [hmv]
   ((iterate 4 refine gFz ?_);(iterate 3 refine gUz ?_);refine gFz<|gFz ?_;(iterate 4 refine gUz ?_);refine gFz<|gTz<|pFz<|pFz ?_;apply zV)
   exact joinI ⟨rfl,rfl,rfl,rfl,rfl,rfl,rfl,trivial⟩ (qM _)
 simp only [List.drop_succ_cons,List.drop_zero]
 have hself:self < 18446744073709551616:=hyn1.self
 have hTg0:=fun (w':World) (h:∀ q∈g2,w'.heap[q.1]?=some q.2)=>Target_calls kind cop ws _ none 0 0 w' (wM_at hu h)
 by_cases h245:cop=245
 ·have htb:targetB kind cop ws.length=false:=w6.trans (by rw [decide_eq_true h245];rfl)
  obtain ⟨tn,htn⟩:∃ tn,targetN kind cop ws=tn:=⟨_,rfl⟩
  rw [htb,htn] at hTg0
  have hTg:=hTg0
  obtain ⟨hmade,hwl4⟩:=w10 h245
  obtain ⟨hsd,hfs⟩:=w9 (by omega)
  obtain ⟨sl,hsle⟩:∃ sl,ws.getD 3 0=sl:=⟨_,rfl⟩
  have lsl:sl < M256:=hsle ▸ wordI_lt hlt 3
  rw [hsle] at hmade
  have hpg:progL ⟨cop,cdst,cself,cfrm,cval,cmv,cgas,.slice qi M.il.length ki,.slice qk M.cl.length kk,cpl,cn,cstat⟩ M pl=M.cl:=if_pos h245
  obtain ⟨usk,hblk,hink,hrowsk⟩:=rowU_own rk
  obtain ⟨z0,z3⟩:∃ z0,bM L'.ms m z0:=by
   obtain ⟨_,_,_,_,_,_,_,_,h3,_,_⟩:=id hfr
   exact ⟨_,h3⟩
  unfold bM at z3
  obtain ⟨pm,km,rfl⟩:=id z3.form
  have hms:=hBM.ok
  have hmsl:=(hP.fr cc s (.slice pm L'.ms.length km) ii b).2.2.2.1.2.1
  have hCd:∀ w',Bel w.heap.size [] w w'→(∀ q∈usk,w'.heap[q.1]?=some q.2)→Calls Tryz.prog 34 #[.int .u64 (self:Int),wv sl,.slice qk M.cl.length kk] w' (Ret w' (.int .u64 (cdst:Int))):=fun w' hb h=>by
   have h:=Created_calls self sl M.cl hself lsl (.slice qk M.cl.length kk) w' (hrowsk w' h) (by omega) (hL.1.1.st ⟨hb,(fun p h=>by cases h),.nil⟩) (hL.1.2.st ⟨hb,(fun p h=>by cases h),.nil⟩)
   rwa [← hmade] at h
  (refine nNz<|cFz<|zJ<|thenN<|sRz<|ldz rfl (.tail (.tail (.app (.app .head)))) ask_rdW ?_;apply zS;rfl;rfl;infer_instance;exact .cons rfl .nil;intro w _;rename_i hst;(exact hTg w (st_ou hst (by (repeat (first|exact qM _|exact qP _ _|apply qQ|apply List.sublist_append_of_sublist_right)))));refine vMz ?_;refine vEz ?_;refine vEz ?_;refine vAz<|vAz<|nNz<|zI<|sRz<|vMz<|vFz<|ldz rfl (.tail (.tail (.app (.app .head)))) ask_rd1 ?_;refine lvz (.neF rfl rfl (by omega)) ?_;refine lvz (.boolNeF rfl rfl (by with_reducible rfl)) ?_;refine vMz<|gTz<|vMz<|gTz<|vMz ?_;(iterate 4 refine gFz ?_);refine gTz<|pFz<|pFz<|nNz<|cFz<|zJ<|thenN<|zI<|zM<|sRz<|vFz<|ldz rfl (.tail (.tail (.app (.app .head)))) ask_rd1 ?_;refine lvz (.eqF rfl rfl (by omega)) ?_;refine vAz<|nNz<|cFz<|sRz<|vMz<|vAz<|nNz<|cFz ?_)
  obtain ⟨gS,curS,rfl,rfl,hS1,hS2,hS3,hS4⟩:=hu'.pos (by omega)
  have hrdS:Rd Tryz.prog 29 (.cells curS 29 (0,0)) (0+3 * 4) (wv (ws.getD 3 0)):=word_rd (by rw [List.drop_zero];exact hS4) 3 (by omega)
  rw [hsle] at hrdS
  simp only [List.cons_append,List.nil_append]
  apply CW.pre
  (refine AnyW.anyM [] 24 mixed (by decide +kernel) ?_)
  ((try simp only [tsOf_cons,tsOf_nil,tsOf_app]);refine dvz (.fieldAddr rfl rfl) ?_;apply qD;rfl;rfl;rfl;exact zC;rfl;apply zP;exact zN;exact cl_rd2;refine dvz (.fieldAddr rfl rfl) ?_;apply qD;rfl;rfl;rfl;exact zC;rfl;apply zP;exact zN;exact cl_rd1;refine dvz (.eqT rfl rfl (by omega)) ?_;refine dvz (.move rfl)<|dwz (.fieldAddr rfl rfl) ?_;apply qD;rfl;rfl;rfl;apply wantYes;rfl;rfl;(with_reducible rfl);rfl;apply zP;exact zN;exact cl_rd3;refine dwz (.fieldAddr rfl rfl) ?_;apply qD;rfl;rfl;rfl;apply wantYes;rfl;rfl;(with_reducible rfl);rfl;apply zO;apply zO;apply zQ;apply zQ;apply zO;apply zP;exact zN;exact fr_rd5;refine dwz (.eqT rfl rfl (by omega)) ?_;refine dvz (.pickT' rfl (by with_reducible rfl) rfl) ?_;refine dvz (.move rfl)<|dwz (.fieldAddr rfl rfl) ?_;apply qD;rfl;rfl;rfl;apply wantYes;rfl;rfl;(with_reducible rfl);rfl;apply zP;exact zN;exact cl_rd1;refine dwz (.fieldAddr rfl rfl) ?_;apply qD;rfl;rfl;rfl;apply wantYes;rfl;rfl;(with_reducible rfl);rfl;apply zO;apply zO;apply zQ;apply zQ;apply zO;apply zP;exact zN;exact fr_rd5;refine dwz (.fieldAddr rfl rfl) ?_;apply qD;rfl;rfl;rfl;apply wantYes;rfl;rfl;(with_reducible rfl);rfl;apply zO;apply zO;apply zQ;apply zQ;apply zP;exact zN;exact ask_rd2;refine dwz (.indexAddrSL rfl rfl (by decide) (by omega)) ?_;apply qD;rfl;rfl;rfl;apply wantYes;rfl;rfl;(with_reducible rfl);rfl;apply zO;apply zO;apply zQ;apply zQ;apply zO;apply zO;apply zP;exact zN;assumption;refine dwz (.fieldAddr rfl rfl) ?_;apply qD;rfl;rfl;rfl;apply wantYes;rfl;rfl;(with_reducible rfl);rfl;apply zP;exact zN;exact cl_rd11)
  refine DW.callA usk (v:=.int .u64 (cdst:Int)) rfl rfl rfl (by (apply wantYes;rfl;rfl;(with_reducible rfl))) rfl inferInstance (by (exact .cons rfl (.cons rfl (.cons rfl .nil)))) (by rw [List.flatMap_cons,List.flatMap_cons,List.flatMap_cons];exact (List.append_nil _).trans hblk) (fun p hp=>AncT.lie (by (refine AncT.cons ?_ ?_;exact zN;refine AncT.cons ?_ ?_;exact zN;refine AncT.app ?_ ?_;exact AncT.tsOf;refine AncT.app ?_ ?_;exact AncT.tsOf;refine AncT.cons ?_ ?_;exact zN;refine AncT.cons ?_ ?_;exact zN;refine AncT.cons ?_ ?_;exact zN;refine AncT.app ?_ ?_;exact AncT.tsOf;refine AncT.cons ?_ ?_;exact zN;refine AncT.cons ?_ ?_;exact zN;exact AncT.nil)) (by have hp:p∈gb:=by { rw [hgb];exact List.mem_append_left _ (hink p hp) };simp [fsOf,tsOf,tsNew,tsTag,markAll,Function.comp_def,hp])) (fun w hb hu=>hCd w hb hu) ?_
  (try simp only [markAll_cons,markAll_app,markAll_tsOf,markAll_tag,markAll_new,markAll_nil])
  ((try simp only [tsOf_cons,tsOf_nil,tsOf_app]);apply DW.nil;simp only [fsOf_cons,fsOf_nil,fsOf_app,fsOf_tsOf,fsOf_new,fsOf_tag,fsOf_mark])
  try simp only [fsOf_mark,fsOf_cons,fsOf_nil,fsOf_app,fsOf_tsOf,fsOf_new,fsOf_tag,List.append_eq,List.nil_append]
  by_cases hz:M.cl.length=0
  ·(refine gTz ?_;refine lvz (.eqT rfl rfl (by omega)) ?_;refine pTz<|vAz ?_;apply zV;refine blkN<|thenN<|zI<|sRz<|vMz ?_;refine lvz (.notT rfl (by with_reducible rfl)) ?_;refine vMz<|gTz<|vMz<|gTz ?_;refine lvz (.notF rfl (by with_reducible rfl)) ?_;refine gTz<|vMz<|gTz<|vFz<|gTz<|ldz rfl .head cl_rd11<|gTz<|lvz (.lenR rfl inferInstance rfl)<|gTz ?_;refine lvz (.gtrF rfl rfl (by omega)) ?_;refine gTz<|pTz<|gTz<|vMz ?_;(iterate 7 refine gFz ?_);refine gTz<|pFz<|pFz<|nNz<|cFz<|zJ<|thenN<|sRz<|vMz<|vMz<|lvz (.lenR rfl inferInstance rfl) ?_;refine lvz (.minZL rfl rfl (by decide)) ?_;refine lvz (.cutTo inferInstance inferInstance rfl rfl (by omega)) ?_;refine vAz<|nSz<|ldz rfl .head cl_rdW<|vMz ?_)
   refine LW.callR rfl rfl inferInstance (by (exact .cons rfl (.cons rfl .nil))) (fun w hst=>Start_calls ⟨cop,cdst,cself,cfrm,cval,cmv,cgas,.slice qi M.il.length ki,.slice qk M.cl.length kk,cpl,cn,cstat⟩ M pl (by omega) (by omega) (by omega) _ w (hpl.st hst) (hcl.us (st_ou hst (by (apply qQ;apply qQ;apply List.sublist_append_of_sublist_right;exact qP _ _))))) ?_
   rintro v6 gf hS
   rw [hpg] at hS
   rcases hS with ⟨ho,va,vs,vm,vi,vb,rfl,hF⟩|⟨hn,rfl,hgf⟩
   ·have hsl2:=hF.sl
    obtain ⟨e1,e2,e3,e4,e5,hpe,t1,t2,t3,t4,t5⟩:=id hF
    unfold bM at t1 t3 t4 t5
    unfold wM at t2
    change IsRow _ 1 va M.cl.length _ _ at t1
    change IsRow _ 4 vs 0 _ _ at t2
    change IsRow _ 1 vm 0 _ _ at t3
    change IsRow _ 1 vi M.il.length _ _ at t4
    change IsRow _ 1 vb 0 _ _ at t5
    obtain ⟨ua,na,rfl⟩:=id t1.form
    obtain ⟨ub,nb,rfl⟩:=id t2.form
    obtain ⟨ud,nd,rfl⟩:=id t3.form
    obtain ⟨ue,ne,rfl⟩:=id t4.form
    obtain ⟨uf,nf,rfl⟩:=id t5.form
    have hFc:∀ w',(∀ q∈gf,w'.heap[q.1]?=some q.2)→Calls Tryz.prog 31 #[frv ⟨.slice ua M.cl.length na,0,.slice ub 0 nb,.slice ud 0 nd,cgas,cself,cfrm,cval,.slice ue M.il.length ne,.slice uf 0 nf,cstat⟩] w' (Ret w' (.int .i64 0)):=fun w' h=>by
     have h:=fCheck_calls _ _ w' (FrO.us hF h)
     rwa [if_pos (staF_ok ho)] at h
    have hE2:∀ w',(∀ q∈gf,w'.heap[q.1]?=some q.2)→(∀ q∈gb,w'.heap[q.1]?=some q.2)→Calls Tryz.prog 36 #[.slice ue M.il.length ne,.slice qi M.il.length ki] w' (Ret w' (.bool true)):=fun w' h h1=>by
     have h:=SK.Equal_calls M.il M.il _ _ w' (FrO.us hF h).i (hcl.us h1).i
     rwa [decide_eq_true rfl] at h
    have hE1:∀ w',(∀ q∈gf,w'.heap[q.1]?=some q.2)→(∀ q∈gb,w'.heap[q.1]?=some q.2)→Calls Tryz.prog 36 #[.slice ua M.cl.length na,.slice qk M.cl.length kk] w' (Ret w' (.bool true)):=fun w' h h1=>by
     have h:=SK.Equal_calls M.cl M.cl _ _ w' (FrO.us hF h).c (hcl.us h1).c
     rwa [decide_eq_true rfl] at h
    replace hsl2:FrSl ⟨.slice ua M.cl.length na,0,.slice ub 0 nb,.slice ud 0 nd,cgas,cself,cfrm,cval,.slice ue M.il.length ne,.slice uf 0 nf,cstat⟩:=hsl2
    change LW _ _ _ _ ((186,.tuple #[frv ⟨.slice ua M.cl.length na,0,.slice ub 0 nb,.slice ud 0 nd,cgas,cself,cfrm,cval,.slice ue M.il.length ne,.slice uf 0 nf,cstat⟩,.int .i64 0])::_) _
    (refine vMz ?_;refine vEz ?_;refine vEz ?_;apply zU;rfl;intro _;apply zR;rfl;rfl;apply qA;apply fr_wrW;rfl;exact hsl2;refine vAz<|nNz<|zI<|sRz<|vMz ?_;refine lvz (.neF rfl rfl (by omega)) ?_;refine nNz<|cFz<|zJ<|thenN<|zI<|sRz<|vMz ?_;refine lvz (.notF rfl (by with_reducible rfl)) ?_;refine nNz<|cTz<|zL<|vFz<|ldz rfl (.tail (.app .head)) cl_rd11<|vAz<|nSz<|ldz rfl .head fr_rdW ?_;apply zS;rfl;rfl;infer_instance;exact .cons rfl .nil;intro w _;rename_i hst;(exact hFc w (st_ou hst (by (repeat (first|exact qM _|exact qP _ _|apply qQ|apply List.sublist_append_of_sublist_right)))));refine lvz (.eqT rfl rfl (by omega)) ?_;refine vMz<|gTz<|vFz<|gTz<|ldz rfl .head fr_rd0<|gTz<|vMz<|gTz ?_;apply zS;rfl;rfl;infer_instance;exact .cons rfl (.cons rfl .nil);intro w _;rename_i hst;(exact hE1 w (st_ou hst (by (repeat (first|exact qM _|exact qP _ _|apply qQ|apply List.sublist_append_of_sublist_right)))) (st_ou hst (by (repeat (first|exact qM _|exact qP _ _|apply qQ|apply List.sublist_append_of_sublist_right)))));refine pTz<|vMz<|gTz<|vFz<|gTz<|ldz rfl .head fr_rd1<|gTz ?_;refine lvz (.eqT rfl rfl (by omega)) ?_;refine pTz<|vMz<|gTz<|vFz<|gTz<|ldz rfl .head fr_rd4<|gTz<|vFz<|gTz<|ldz rfl (.tail (.app .head)) cl_rd9<|gTz ?_;refine lvz (.eqT rfl rfl (by omega)) ?_;refine pTz<|vMz<|gTz<|vFz<|gTz<|ldz rfl .head fr_rd5<|gTz<|vFz<|gTz<|ldz rfl (.tail (.app .head)) cl_rd2<|gTz ?_;refine lvz (.eqT rfl rfl (by omega)) ?_;refine pTz<|vMz<|gTz<|vFz<|gTz<|ldz rfl .head fr_rd6<|gTz<|vFz<|gTz<|ldz rfl (.tail (.app .head)) cl_rd3<|gTz ?_;refine lvz (.eqT rfl rfl (by omega)) ?_;refine pTz<|vMz<|gTz<|vFz<|gTz<|ldz rfl .head fr_rd7<|gTz<|vFz<|gTz<|ldz rfl (.tail (.app .head)) cl_rd4<|gTz ?_;refine lvz (.eqWT rfl rfl (by with_reducible rfl)) ?_;refine pTz<|vMz<|gTz<|vFz<|gTz<|ldz rfl .head fr_rd13<|gTz<|vFz<|gTz<|ldz rfl (.tail (.app .head)) cl_rd14<|gTz ?_;refine lvz (.boolEqT rfl rfl (by with_reducible rfl)) ?_;refine pTz<|vMz<|gTz<|vFz<|gTz<|ldz rfl .head fr_rd11<|gTz<|vFz<|gTz<|ldz rfl (.tail (.app .head)) cl_rd10<|gTz ?_;apply zS;rfl;rfl;infer_instance;exact .cons rfl (.cons rfl .nil);intro w _;rename_i hst;(exact hE2 w (st_ou hst (by (repeat (first|exact qM _|exact qP _ _|apply qQ|apply List.sublist_append_of_sublist_right)))) (st_ou hst (by (repeat (first|exact qM _|exact qP _ _|apply qQ|apply List.sublist_append_of_sublist_right)))));refine pTz<|vMz<|gTz<|vFz<|gTz<|vFz<|gTz<|ldz rfl .head fr_rd2s<|gTz<|lvz (.lenR rfl inferInstance rfl)<|gTz<|vFz<|gTz<|vFz ?_;refine gTz<|ldz rfl .head fr_rd3<|gTz<|lvz (.lenR rfl inferInstance rfl)<|gTz ?_;refine lvz (.addZ rfl rfl (by omega)) ?_;refine gTz<|vFz<|gTz<|ldz rfl .head fr_rd12<|gTz<|lvz (.lenR rfl inferInstance rfl)<|gTz ?_;refine lvz (.addZ rfl rfl (by omega)) ?_;refine gTz ?_;refine lvz (.eqT rfl rfl (by omega)) ?_;refine pTz<|vAz<|nNz<|zK ?_)
    (apply finR;exact .inl rfl;rfl;rfl;rfl;apply zD;exact zG rfl;exact zF)
    rfl
   ·have h0:cself=0:=Decidable.byContradiction fun h=>hn ⟨hP.cl,h,k4⟩
    have hsl2:=zero_sl
    (refine vMz ?_;refine vEz ?_;refine vEz ?_;apply zU;rfl;intro _;apply zR;rfl;rfl;apply qA;apply fr_wrW;rfl;exact hsl2;refine vAz<|nNz<|zI<|sRz<|vMz ?_;refine lvz (.neT rfl rfl (by omega)) ?_;refine nNz<|cTz<|sRz<|vMz ?_;refine lvz (.eqT rfl rfl (by omega)) ?_;refine vMz<|gTz<|vFz<|gTz<|ldz rfl (.tail (.app .head)) cl_rd2<|gTz ?_;refine lvz (.eqT rfl rfl (by omega)) ?_;refine pTz<|vAz<|nNz<|zK<|thenR ?_)
    (apply finR;exact .inl rfl;rfl;rfl;rfl;apply zD;exact zG rfl;exact zF)
    rfl
  ·have hCt:∀ w',Bel w.heap.size [] w w'→(∀ q∈ga,w'.heap[q.1]?=some q.2)→(∀ q∈gb,w'.heap[q.1]?=some q.2)→Calls Tryz.prog 35 #[.slice pm L'.ms.length km,.slice qk M.cl.length kk] w' (Ret w' (.bool true)):=fun w' hb h h2=>by
    obtain ⟨i,hi,hsub⟩:=w11 h245 (by omega)
    have h:=bContains_calls L'.ms M.cl _ _ w' (hfr.us h).m (hcl.us h2).c (by omega) (by omega) (by omega) (by omega) (hL.2.bel hb)
    rwa [contains_sub hi hsub] at h
   (refine gTz ?_;refine lvz (.eqT rfl rfl (by omega)) ?_;refine pTz<|vAz ?_;apply zV;refine blkN<|thenN<|zI<|sRz<|vMz ?_;refine lvz (.notT rfl (by with_reducible rfl)) ?_;refine vMz<|gTz<|vMz<|gTz ?_;refine lvz (.notF rfl (by with_reducible rfl)) ?_;refine gTz<|vMz<|gTz<|vFz<|gTz<|ldz rfl .head cl_rd11<|gTz<|lvz (.lenR rfl inferInstance rfl)<|gTz ?_;refine lvz (.gtrT rfl rfl (by omega)) ?_;refine gTz<|pTz<|gTz<|vMz<|gTz<|vFz<|gTz<|vFz<|gTz<|ldz rfl (.tail .head) fr_rd3<|gTz<|vFz<|gTz<|ldz rfl .head cl_rd11 ?_;refine gTz ?_;apply zS;rfl;rfl;infer_instance;exact .cons rfl (.cons rfl .nil);intro w _;rename_i hst;(exact hCt w hst.bel (st_ou hst (by (repeat (first|exact qM _|exact qP _ _|apply qQ|apply List.sublist_append_of_sublist_right)))) (st_ou hst (by (repeat (first|exact qM _|exact qP _ _|apply qQ|apply List.sublist_append_of_sublist_right)))));refine gTz ?_;refine lvz (.notT rfl (by with_reducible rfl)) ?_;refine gTz<|pTz<|pFz<|nNz<|cFz<|zJ<|thenN<|sRz<|vMz<|vMz<|lvz (.lenR rfl inferInstance rfl) ?_;refine lvz (.minZL rfl rfl (by decide)) ?_;refine lvz (.cutTo inferInstance inferInstance rfl rfl (by omega)) ?_;refine vAz<|nSz<|ldz rfl .head cl_rdW<|vMz ?_)
   refine LW.callR rfl rfl inferInstance (by (exact .cons rfl (.cons rfl .nil))) (fun w hst=>Start_calls ⟨cop,cdst,cself,cfrm,cval,cmv,cgas,.slice qi M.il.length ki,.slice qk M.cl.length kk,cpl,cn,cstat⟩ M pl (by omega) (by omega) (by omega) _ w (hpl.st hst) (hcl.us (st_ou hst (by (apply qQ;apply qQ;apply List.sublist_append_of_sublist_right;exact qP _ _))))) ?_
   rintro v6 gf hS
   rw [hpg] at hS
   rcases hS with ⟨ho,va,vs,vm,vi,vb,rfl,hF⟩|⟨hn,rfl,hgf⟩
   ·have hsl2:=hF.sl
    obtain ⟨e1,e2,e3,e4,e5,hpe,t1,t2,t3,t4,t5⟩:=id hF
    unfold bM at t1 t3 t4 t5
    unfold wM at t2
    change IsRow _ 1 va M.cl.length _ _ at t1
    change IsRow _ 4 vs 0 _ _ at t2
    change IsRow _ 1 vm 0 _ _ at t3
    change IsRow _ 1 vi M.il.length _ _ at t4
    change IsRow _ 1 vb 0 _ _ at t5
    obtain ⟨ua,na,rfl⟩:=id t1.form
    obtain ⟨ub,nb,rfl⟩:=id t2.form
    obtain ⟨ud,nd,rfl⟩:=id t3.form
    obtain ⟨ue,ne,rfl⟩:=id t4.form
    obtain ⟨uf,nf,rfl⟩:=id t5.form
    have hFc:∀ w',(∀ q∈gf,w'.heap[q.1]?=some q.2)→Calls Tryz.prog 31 #[frv ⟨.slice ua M.cl.length na,0,.slice ub 0 nb,.slice ud 0 nd,cgas,cself,cfrm,cval,.slice ue M.il.length ne,.slice uf 0 nf,cstat⟩] w' (Ret w' (.int .i64 0)):=fun w' h=>by
     have h:=fCheck_calls _ _ w' (FrO.us hF h)
     rwa [if_pos (staF_ok ho)] at h
    have hE2:∀ w',(∀ q∈gf,w'.heap[q.1]?=some q.2)→(∀ q∈gb,w'.heap[q.1]?=some q.2)→Calls Tryz.prog 36 #[.slice ue M.il.length ne,.slice qi M.il.length ki] w' (Ret w' (.bool true)):=fun w' h h1=>by
     have h:=SK.Equal_calls M.il M.il _ _ w' (FrO.us hF h).i (hcl.us h1).i
     rwa [decide_eq_true rfl] at h
    have hE1:∀ w',(∀ q∈gf,w'.heap[q.1]?=some q.2)→(∀ q∈gb,w'.heap[q.1]?=some q.2)→Calls Tryz.prog 36 #[.slice ua M.cl.length na,.slice qk M.cl.length kk] w' (Ret w' (.bool true)):=fun w' h h1=>by
     have h:=SK.Equal_calls M.cl M.cl _ _ w' (FrO.us hF h).c (hcl.us h1).c
     rwa [decide_eq_true rfl] at h
    replace hsl2:FrSl ⟨.slice ua M.cl.length na,0,.slice ub 0 nb,.slice ud 0 nd,cgas,cself,cfrm,cval,.slice ue M.il.length ne,.slice uf 0 nf,cstat⟩:=hsl2
    change LW _ _ _ _ ((186,.tuple #[frv ⟨.slice ua M.cl.length na,0,.slice ub 0 nb,.slice ud 0 nd,cgas,cself,cfrm,cval,.slice ue M.il.length ne,.slice uf 0 nf,cstat⟩,.int .i64 0])::_) _
    (refine vMz ?_;refine vEz ?_;refine vEz ?_;apply zU;rfl;intro _;apply zR;rfl;rfl;apply qA;apply fr_wrW;rfl;exact hsl2;refine vAz<|nNz<|zI<|sRz<|vMz ?_;refine lvz (.neF rfl rfl (by omega)) ?_;refine nNz<|cFz<|zJ<|thenN<|zI<|sRz<|vMz ?_;refine lvz (.notF rfl (by with_reducible rfl)) ?_;refine nNz<|cTz<|zL<|vFz<|ldz rfl (.tail (.app .head)) cl_rd11<|vAz<|nSz<|ldz rfl .head fr_rdW ?_;apply zS;rfl;rfl;infer_instance;exact .cons rfl .nil;intro w _;rename_i hst;(exact hFc w (st_ou hst (by (repeat (first|exact qM _|exact qP _ _|apply qQ|apply List.sublist_append_of_sublist_right)))));refine lvz (.eqT rfl rfl (by omega)) ?_;refine vMz<|gTz<|vFz<|gTz<|ldz rfl .head fr_rd0<|gTz<|vMz<|gTz ?_;apply zS;rfl;rfl;infer_instance;exact .cons rfl (.cons rfl .nil);intro w _;rename_i hst;(exact hE1 w (st_ou hst (by (repeat (first|exact qM _|exact qP _ _|apply qQ|apply List.sublist_append_of_sublist_right)))) (st_ou hst (by (repeat (first|exact qM _|exact qP _ _|apply qQ|apply List.sublist_append_of_sublist_right)))));refine pTz<|vMz<|gTz<|vFz<|gTz<|ldz rfl .head fr_rd1<|gTz ?_;refine lvz (.eqT rfl rfl (by omega)) ?_;refine pTz<|vMz<|gTz<|vFz<|gTz<|ldz rfl .head fr_rd4<|gTz<|vFz<|gTz<|ldz rfl (.tail (.app .head)) cl_rd9<|gTz ?_;refine lvz (.eqT rfl rfl (by omega)) ?_;refine pTz<|vMz<|gTz<|vFz<|gTz<|ldz rfl .head fr_rd5<|gTz<|vFz<|gTz<|ldz rfl (.tail (.app .head)) cl_rd2<|gTz ?_;refine lvz (.eqT rfl rfl (by omega)) ?_;refine pTz<|vMz<|gTz<|vFz<|gTz<|ldz rfl .head fr_rd6<|gTz<|vFz<|gTz<|ldz rfl (.tail (.app .head)) cl_rd3<|gTz ?_;refine lvz (.eqT rfl rfl (by omega)) ?_;refine pTz<|vMz<|gTz<|vFz<|gTz<|ldz rfl .head fr_rd7<|gTz<|vFz<|gTz<|ldz rfl (.tail (.app .head)) cl_rd4<|gTz ?_;refine lvz (.eqWT rfl rfl (by with_reducible rfl)) ?_;refine pTz<|vMz<|gTz<|vFz<|gTz<|ldz rfl .head fr_rd13<|gTz<|vFz<|gTz<|ldz rfl (.tail (.app .head)) cl_rd14<|gTz ?_;refine lvz (.boolEqT rfl rfl (by with_reducible rfl)) ?_;refine pTz<|vMz<|gTz<|vFz<|gTz<|ldz rfl .head fr_rd11<|gTz<|vFz<|gTz<|ldz rfl (.tail (.app .head)) cl_rd10<|gTz ?_;apply zS;rfl;rfl;infer_instance;exact .cons rfl (.cons rfl .nil);intro w _;rename_i hst;(exact hE2 w (st_ou hst (by (repeat (first|exact qM _|exact qP _ _|apply qQ|apply List.sublist_append_of_sublist_right)))) (st_ou hst (by (repeat (first|exact qM _|exact qP _ _|apply qQ|apply List.sublist_append_of_sublist_right)))));refine pTz<|vMz<|gTz<|vFz<|gTz<|vFz<|gTz<|ldz rfl .head fr_rd2s<|gTz<|lvz (.lenR rfl inferInstance rfl)<|gTz<|vFz<|gTz<|vFz ?_;refine gTz<|ldz rfl .head fr_rd3<|gTz<|lvz (.lenR rfl inferInstance rfl)<|gTz ?_;refine lvz (.addZ rfl rfl (by omega)) ?_;refine gTz<|vFz<|gTz<|ldz rfl .head fr_rd12<|gTz<|lvz (.lenR rfl inferInstance rfl)<|gTz ?_;refine lvz (.addZ rfl rfl (by omega)) ?_;refine gTz ?_;refine lvz (.eqT rfl rfl (by omega)) ?_;refine pTz<|vAz<|nNz<|zK ?_)
    (apply finR;exact .inl rfl;rfl;rfl;rfl;apply zD;exact zG rfl;exact zF)
    rfl
   ·have h0:cself=0:=Decidable.byContradiction fun h=>hn ⟨hP.cl,h,k4⟩
    have hsl2:=zero_sl
    (refine vMz ?_;refine vEz ?_;refine vEz ?_;apply zU;rfl;intro _;apply zR;rfl;rfl;apply qA;apply fr_wrW;rfl;exact hsl2;refine vAz<|nNz<|zI<|sRz<|vMz ?_;refine lvz (.neT rfl rfl (by omega)) ?_;refine nNz<|cTz<|sRz<|vMz ?_;refine lvz (.eqT rfl rfl (by omega)) ?_;refine vMz<|gTz<|vFz<|gTz<|ldz rfl (.tail (.app .head)) cl_rd2<|gTz ?_;refine lvz (.eqT rfl rfl (by omega)) ?_;refine pTz<|vAz<|nNz<|zK<|thenR ?_)
    (apply finR;exact .inl rfl;rfl;rfl;rfl;apply zD;exact zG rfl;exact zF)
    rfl
 ·have htb:targetB kind cop ws.length=true:=w6.trans (by rw [decide_eq_false h245];rfl)
  rw [htb,w7 h245] at hTg0
  have hTg:=hTg0
  have hpg:progL ⟨cop,cdst,cself,cfrm,cval,cmv,cgas,.slice qi M.il.length ki,.slice qk M.cl.length kk,cpl,cn,cstat⟩ M pl=pl:=if_neg h245
  by_cases h244:cop=244
  ·obtain ⟨hss,hff,rfl⟩:=w8 h244
   (refine nNz<|cFz<|zJ<|thenN<|sRz<|ldz rfl (.tail (.tail (.app (.app .head)))) ask_rdW ?_;apply zS;rfl;rfl;infer_instance;exact .cons rfl .nil;intro w _;rename_i hst;(exact hTg w (st_ou hst (by (repeat (first|exact qM _|exact qP _ _|apply qQ|apply List.sublist_append_of_sublist_right)))));refine vMz ?_;refine vEz ?_;refine vEz ?_;refine vAz<|vAz<|nNz<|zI<|sRz<|vMz<|vFz<|ldz rfl (.tail (.tail (.app (.app .head)))) ask_rd1 ?_;refine lvz (.neT rfl rfl (by omega)) ?_;refine lvz (.boolNeF rfl rfl (by assumption)) ?_;refine vMz<|gTz<|vMz<|gTz<|vMz<|gTz<|vMz<|gTz<|vFz<|gTz<|ldz rfl .head cl_rd1<|gTz ?_;refine lvz (.neF rfl rfl (by omega)) ?_;refine gTz<|pTz<|pFz<|nNz<|cFz<|zJ<|thenN<|zI<|zM<|sRz<|vFz<|ldz rfl (.tail (.tail (.app (.app .head)))) ask_rd1 ?_;refine lvz (.eqT rfl rfl (by omega)) ?_;refine vAz<|nNz<|cTz<|zL<|vFz<|ldz rfl .head cl_rd2<|vFz<|ldz rfl (.tail (.tail (.app (.app (.tail .head))))) fr_rd5 ?_;refine lvz (.eqT rfl rfl (by omega)) ?_;refine vMz<|gTz<|vFz<|gTz<|ldz rfl .head cl_rd3<|gTz<|vFz<|gTz<|ldz rfl (.tail (.tail (.app (.app (.tail .head))))) fr_rd6<|gTz ?_;refine lvz (.eqT rfl rfl (by omega)) ?_;refine pTz<|vMz<|gTz<|vFz<|gTz<|ldz rfl .head cl_rd4<|gTz<|vFz<|gTz<|ldz rfl (.tail (.tail (.app (.app (.tail .head))))) fr_rd7<|gTz ?_;refine lvz (.eqWT rfl rfl (by with_reducible rfl)) ?_;refine pTz<|vAz ?_;apply zV;refine blkN<|thenN<|zI<|sRz<|vMz ?_;refine lvz (.notT rfl (by with_reducible rfl)) ?_;refine vMz<|gTz<|vMz<|gTz ?_;refine lvz (.notT rfl (by with_reducible rfl)) ?_;refine gTz<|vMz ?_;(iterate 4 refine gFz ?_);refine gTz<|pFz<|gTz<|vMz ?_;(iterate 7 refine gFz ?_);refine gTz<|pFz<|pFz<|nNz<|cFz<|zJ<|thenN<|sRz<|vMz<|vMz<|lvz (.lenR rfl inferInstance rfl) ?_;refine lvz (.minZL rfl rfl (by decide)) ?_;refine lvz (.cutTo inferInstance inferInstance rfl rfl (by omega)) ?_;refine vAz<|nSz<|ldz rfl .head cl_rdW<|vMz ?_)
   refine LW.callR rfl rfl inferInstance (by (exact .cons rfl (.cons rfl .nil))) (fun w hst=>Start_calls ⟨cop,cdst,cself,cfrm,cval,cmv,cgas,.slice qi M.il.length ki,.slice qk M.cl.length kk,cpl,cn,cstat⟩ M pl (by omega) (by omega) (by omega) _ w (hpl.st hst) (hcl.us (st_ou hst (by (apply qQ;apply qQ;apply List.sublist_append_of_sublist_right;exact qP _ _))))) ?_
   rintro v6 gf hS
   rw [hpg] at hS
   rcases hS with ⟨ho,va,vs,vm,vi,vb,rfl,hF⟩|⟨hn,rfl,hgf⟩
   ·have hsl2:=hF.sl
    obtain ⟨e1,e2,e3,e4,e5,hpe,t1,t2,t3,t4,t5⟩:=id hF
    unfold bM at t1 t3 t4 t5
    unfold wM at t2
    change IsRow _ 1 va pl.length _ _ at t1
    change IsRow _ 4 vs 0 _ _ at t2
    change IsRow _ 1 vm 0 _ _ at t3
    change IsRow _ 1 vi M.il.length _ _ at t4
    change IsRow _ 1 vb 0 _ _ at t5
    obtain ⟨ua,na,rfl⟩:=id t1.form
    obtain ⟨ub,nb,rfl⟩:=id t2.form
    obtain ⟨ud,nd,rfl⟩:=id t3.form
    obtain ⟨ue,ne,rfl⟩:=id t4.form
    obtain ⟨uf,nf,rfl⟩:=id t5.form
    have hFc:∀ w',(∀ q∈gf,w'.heap[q.1]?=some q.2)→Calls Tryz.prog 31 #[frv ⟨.slice ua pl.length na,0,.slice ub 0 nb,.slice ud 0 nd,cgas,cself,cfrm,cval,.slice ue M.il.length ne,.slice uf 0 nf,cstat⟩] w' (Ret w' (.int .i64 0)):=fun w' h=>by
     have h:=fCheck_calls _ _ w' (FrO.us hF h)
     rwa [if_pos (staF_ok ho)] at h
    have hE2:∀ w',(∀ q∈gf,w'.heap[q.1]?=some q.2)→(∀ q∈gb,w'.heap[q.1]?=some q.2)→Calls Tryz.prog 36 #[.slice ue M.il.length ne,.slice qi M.il.length ki] w' (Ret w' (.bool true)):=fun w' h h1=>by
     have h:=SK.Equal_calls M.il M.il _ _ w' (FrO.us hF h).i (hcl.us h1).i
     rwa [decide_eq_true rfl] at h
    have hE1:∀ w' {fs:Fs},St w [] fs w'→(∀ q∈gf,w'.heap[q.1]?=some q.2)→Calls Tryz.prog 36 #[.slice ua pl.length na,.slice p2 (min l2.length 200) c2] w' (Ret w' (.bool true)):=fun w' fs hst h=>by
     have h:=SK.Equal_calls pl pl _ _ w' (FrO.us hF h).c (hpl.st hst)
     rwa [decide_eq_true rfl] at h
    replace hsl2:FrSl ⟨.slice ua pl.length na,0,.slice ub 0 nb,.slice ud 0 nd,cgas,cself,cfrm,cval,.slice ue M.il.length ne,.slice uf 0 nf,cstat⟩:=hsl2
    change LW _ _ _ _ ((186,.tuple #[frv ⟨.slice ua pl.length na,0,.slice ub 0 nb,.slice ud 0 nd,cgas,cself,cfrm,cval,.slice ue M.il.length ne,.slice uf 0 nf,cstat⟩,.int .i64 0])::_) _
    (refine vMz ?_;refine vEz ?_;refine vEz ?_;apply zU;rfl;intro _;apply zR;rfl;rfl;apply qA;apply fr_wrW;rfl;exact hsl2;refine vAz<|nNz<|zI<|sRz<|vMz ?_;refine lvz (.neF rfl rfl (by omega)) ?_;refine nNz<|cFz<|zJ<|thenN<|zI<|sRz<|vMz ?_;refine lvz (.notT rfl (by with_reducible rfl)) ?_;refine nNz<|cFz<|zJ<|thenN<|sRz<|ldz rfl .head fr_rdW ?_;apply zS;rfl;rfl;infer_instance;exact .cons rfl .nil;intro w _;rename_i hst;(exact hFc w (st_ou hst (by (repeat (first|exact qM _|exact qP _ _|apply qQ|apply List.sublist_append_of_sublist_right)))));refine lvz (.eqT rfl rfl (by omega)) ?_;refine vMz<|gTz<|vFz<|gTz<|ldz rfl .head fr_rd0<|gTz<|vMz<|gTz ?_;apply zS;rfl;rfl;infer_instance;exact .cons rfl (.cons rfl .nil);intro w _;rename_i hst;(exact hE1 w hst (st_ou hst (by (repeat (first|exact qM _|exact qP _ _|apply qQ|apply List.sublist_append_of_sublist_right)))));refine pTz<|vMz<|gTz<|vFz<|gTz<|ldz rfl .head fr_rd1<|gTz ?_;refine lvz (.eqT rfl rfl (by omega)) ?_;refine pTz<|vMz<|gTz<|vFz<|gTz<|ldz rfl .head fr_rd4<|gTz<|vFz<|gTz<|ldz rfl (.tail (.app .head)) cl_rd9<|gTz ?_;refine lvz (.eqT rfl rfl (by omega)) ?_;refine pTz<|vMz<|gTz<|vFz<|gTz<|ldz rfl .head fr_rd5<|gTz<|vFz<|gTz<|ldz rfl (.tail (.app .head)) cl_rd2<|gTz ?_;refine lvz (.eqT rfl rfl (by omega)) ?_;refine pTz<|vMz<|gTz<|vFz<|gTz<|ldz rfl .head fr_rd6<|gTz<|vFz<|gTz<|ldz rfl (.tail (.app .head)) cl_rd3<|gTz ?_;refine lvz (.eqT rfl rfl (by omega)) ?_;refine pTz<|vMz<|gTz<|vFz<|gTz<|ldz rfl .head fr_rd7<|gTz<|vFz<|gTz<|ldz rfl (.tail (.app .head)) cl_rd4<|gTz ?_;refine lvz (.eqWT rfl rfl (by with_reducible rfl)) ?_;refine pTz<|vMz<|gTz<|vFz<|gTz<|ldz rfl .head fr_rd13<|gTz<|vFz<|gTz<|ldz rfl (.tail (.app .head)) cl_rd14<|gTz ?_;refine lvz (.boolEqT rfl rfl (by with_reducible rfl)) ?_;refine pTz<|vMz<|gTz<|vFz<|gTz<|ldz rfl .head fr_rd11<|gTz<|vFz<|gTz<|ldz rfl (.tail (.app .head)) cl_rd10<|gTz ?_;apply zS;rfl;rfl;infer_instance;exact .cons rfl (.cons rfl .nil);intro w _;rename_i hst;(exact hE2 w (st_ou hst (by (repeat (first|exact qM _|exact qP _ _|apply qQ|apply List.sublist_append_of_sublist_right)))) (st_ou hst (by (repeat (first|exact qM _|exact qP _ _|apply qQ|apply List.sublist_append_of_sublist_right)))));refine pTz<|vMz<|gTz<|vFz<|gTz<|vFz<|gTz<|ldz rfl .head fr_rd2s<|gTz<|lvz (.lenR rfl inferInstance rfl)<|gTz<|vFz<|gTz<|vFz ?_;refine gTz<|ldz rfl .head fr_rd3<|gTz<|lvz (.lenR rfl inferInstance rfl)<|gTz ?_;refine lvz (.addZ rfl rfl (by omega)) ?_;refine gTz<|vFz<|gTz<|ldz rfl .head fr_rd12<|gTz<|lvz (.lenR rfl inferInstance rfl)<|gTz ?_;refine lvz (.addZ rfl rfl (by omega)) ?_;refine gTz ?_;refine lvz (.eqT rfl rfl (by omega)) ?_;refine pTz<|vAz<|nNz<|zK ?_)
    (apply finR;exact .inl rfl;rfl;rfl;rfl;apply zD;exact zG rfl;exact zF)
    rfl
   ·have h0:cself=0:=Decidable.byContradiction fun h=>hn ⟨hP.cl,h,hpl3⟩
    have hsl2:=zero_sl
    (refine vMz ?_;refine vEz ?_;refine vEz ?_;apply zU;rfl;intro _;apply zR;rfl;rfl;apply qA;apply fr_wrW;rfl;exact hsl2;refine vAz<|nNz<|zI<|sRz<|vMz ?_;refine lvz (.neT rfl rfl (by omega)) ?_;refine nNz<|cTz<|sRz<|vMz ?_;refine lvz (.eqT rfl rfl (by omega)) ?_;refine vMz<|gTz<|vFz<|gTz<|ldz rfl (.tail (.app .head)) cl_rd2<|gTz ?_;refine lvz (.eqT rfl rfl (by omega)) ?_;refine pTz<|vAz<|nNz<|zK<|thenR ?_)
    (apply finR;exact .inl rfl;rfl;rfl;rfl;apply zD;exact zG rfl;exact zF)
    rfl
  ·obtain ⟨hsd,hfs⟩:=w9 h244
   (refine nNz<|cFz<|zJ<|thenN<|sRz<|ldz rfl (.tail (.tail (.app (.app .head)))) ask_rdW ?_;apply zS;rfl;rfl;infer_instance;exact .cons rfl .nil;intro w _;rename_i hst;(exact hTg w (st_ou hst (by (repeat (first|exact qM _|exact qP _ _|apply qQ|apply List.sublist_append_of_sublist_right)))));refine vMz ?_;refine vEz ?_;refine vEz ?_;refine vAz<|vAz<|nNz<|zI<|sRz<|vMz<|vFz<|ldz rfl (.tail (.tail (.app (.app .head)))) ask_rd1 ?_;refine lvz (.neT rfl rfl (by omega)) ?_;refine lvz (.boolNeF rfl rfl (by assumption)) ?_;refine vMz<|gTz<|vMz<|gTz<|vMz<|gTz<|vMz<|gTz<|vFz<|gTz<|ldz rfl .head cl_rd1<|gTz ?_;refine lvz (.neF rfl rfl (by omega)) ?_;refine gTz<|pTz<|pFz<|nNz<|cFz<|zJ<|thenN<|zI<|zM<|sRz<|vFz<|ldz rfl (.tail (.tail (.app (.app .head)))) ask_rd1 ?_;refine lvz (.eqF rfl rfl (by omega)) ?_;refine vAz<|nNz<|cFz<|sRz<|vMz<|vAz<|nNz<|cTz<|zL<|vFz<|ldz rfl .head cl_rd2<|vMz ?_;refine lvz (.eqT rfl rfl (by omega)) ?_;refine vMz<|gTz<|vFz<|gTz<|ldz rfl .head cl_rd3<|gTz<|vFz<|gTz<|ldz rfl (.tail (.tail (.app (.app (.tail .head))))) fr_rd5<|gTz ?_;refine lvz (.eqT rfl rfl (by omega)) ?_;refine pTz<|vAz ?_;apply zV;refine blkN<|thenN<|zI<|sRz<|vMz ?_;refine lvz (.notT rfl (by with_reducible rfl)) ?_;refine vMz<|gTz<|vMz<|gTz ?_;refine lvz (.notT rfl (by with_reducible rfl)) ?_;refine gTz<|vMz ?_;(iterate 4 refine gFz ?_);refine gTz<|pFz<|gTz<|vMz ?_;(iterate 7 refine gFz ?_);refine gTz<|pFz<|pFz<|nNz<|cFz<|zJ<|thenN<|sRz<|vMz<|vMz<|lvz (.lenR rfl inferInstance rfl) ?_;refine lvz (.minZL rfl rfl (by decide)) ?_;refine lvz (.cutTo inferInstance inferInstance rfl rfl (by omega)) ?_;refine vAz<|nSz<|ldz rfl .head cl_rdW<|vMz ?_)
   refine LW.callR rfl rfl inferInstance (by (exact .cons rfl (.cons rfl .nil))) (fun w hst=>Start_calls ⟨cop,cdst,cself,cfrm,cval,cmv,cgas,.slice qi M.il.length ki,.slice qk M.cl.length kk,cpl,cn,cstat⟩ M pl (by omega) (by omega) (by omega) _ w (hpl.st hst) (hcl.us (st_ou hst (by (apply qQ;apply qQ;apply List.sublist_append_of_sublist_right;exact qP _ _))))) ?_
   rintro v6 gf hS
   rw [hpg] at hS
   rcases hS with ⟨ho,va,vs,vm,vi,vb,rfl,hF⟩|⟨hn,rfl,hgf⟩
   ·have hsl2:=hF.sl
    obtain ⟨e1,e2,e3,e4,e5,hpe,t1,t2,t3,t4,t5⟩:=id hF
    unfold bM at t1 t3 t4 t5
    unfold wM at t2
    change IsRow _ 1 va pl.length _ _ at t1
    change IsRow _ 4 vs 0 _ _ at t2
    change IsRow _ 1 vm 0 _ _ at t3
    change IsRow _ 1 vi M.il.length _ _ at t4
    change IsRow _ 1 vb 0 _ _ at t5
    obtain ⟨ua,na,rfl⟩:=id t1.form
    obtain ⟨ub,nb,rfl⟩:=id t2.form
    obtain ⟨ud,nd,rfl⟩:=id t3.form
    obtain ⟨ue,ne,rfl⟩:=id t4.form
    obtain ⟨uf,nf,rfl⟩:=id t5.form
    have hFc:∀ w',(∀ q∈gf,w'.heap[q.1]?=some q.2)→Calls Tryz.prog 31 #[frv ⟨.slice ua pl.length na,0,.slice ub 0 nb,.slice ud 0 nd,cgas,cself,cfrm,cval,.slice ue M.il.length ne,.slice uf 0 nf,cstat⟩] w' (Ret w' (.int .i64 0)):=fun w' h=>by
     have h:=fCheck_calls _ _ w' (FrO.us hF h)
     rwa [if_pos (staF_ok ho)] at h
    have hE2:∀ w',(∀ q∈gf,w'.heap[q.1]?=some q.2)→(∀ q∈gb,w'.heap[q.1]?=some q.2)→Calls Tryz.prog 36 #[.slice ue M.il.length ne,.slice qi M.il.length ki] w' (Ret w' (.bool true)):=fun w' h h1=>by
     have h:=SK.Equal_calls M.il M.il _ _ w' (FrO.us hF h).i (hcl.us h1).i
     rwa [decide_eq_true rfl] at h
    have hE1:∀ w' {fs:Fs},St w [] fs w'→(∀ q∈gf,w'.heap[q.1]?=some q.2)→Calls Tryz.prog 36 #[.slice ua pl.length na,.slice p2 (min l2.length 200) c2] w' (Ret w' (.bool true)):=fun w' fs hst h=>by
     have h:=SK.Equal_calls pl pl _ _ w' (FrO.us hF h).c (hpl.st hst)
     rwa [decide_eq_true rfl] at h
    replace hsl2:FrSl ⟨.slice ua pl.length na,0,.slice ub 0 nb,.slice ud 0 nd,cgas,cself,cfrm,cval,.slice ue M.il.length ne,.slice uf 0 nf,cstat⟩:=hsl2
    change LW _ _ _ _ ((186,.tuple #[frv ⟨.slice ua pl.length na,0,.slice ub 0 nb,.slice ud 0 nd,cgas,cself,cfrm,cval,.slice ue M.il.length ne,.slice uf 0 nf,cstat⟩,.int .i64 0])::_) _
    (refine vMz ?_;refine vEz ?_;refine vEz ?_;apply zU;rfl;intro _;apply zR;rfl;rfl;apply qA;apply fr_wrW;rfl;exact hsl2;refine vAz<|nNz<|zI<|sRz<|vMz ?_;refine lvz (.neF rfl rfl (by omega)) ?_;refine nNz<|cFz<|zJ<|thenN<|zI<|sRz<|vMz ?_;refine lvz (.notT rfl (by with_reducible rfl)) ?_;refine nNz<|cFz<|zJ<|thenN<|sRz<|ldz rfl .head fr_rdW ?_;apply zS;rfl;rfl;infer_instance;exact .cons rfl .nil;intro w _;rename_i hst;(exact hFc w (st_ou hst (by (repeat (first|exact qM _|exact qP _ _|apply qQ|apply List.sublist_append_of_sublist_right)))));refine lvz (.eqT rfl rfl (by omega)) ?_;refine vMz<|gTz<|vFz<|gTz<|ldz rfl .head fr_rd0<|gTz<|vMz<|gTz ?_;apply zS;rfl;rfl;infer_instance;exact .cons rfl (.cons rfl .nil);intro w _;rename_i hst;(exact hE1 w hst (st_ou hst (by (repeat (first|exact qM _|exact qP _ _|apply qQ|apply List.sublist_append_of_sublist_right)))));refine pTz<|vMz<|gTz<|vFz<|gTz<|ldz rfl .head fr_rd1<|gTz ?_;refine lvz (.eqT rfl rfl (by omega)) ?_;refine pTz<|vMz<|gTz<|vFz<|gTz<|ldz rfl .head fr_rd4<|gTz<|vFz<|gTz<|ldz rfl (.tail (.app .head)) cl_rd9<|gTz ?_;refine lvz (.eqT rfl rfl (by omega)) ?_;refine pTz<|vMz<|gTz<|vFz<|gTz<|ldz rfl .head fr_rd5<|gTz<|vFz<|gTz<|ldz rfl (.tail (.app .head)) cl_rd2<|gTz ?_;refine lvz (.eqT rfl rfl (by omega)) ?_;refine pTz<|vMz<|gTz<|vFz<|gTz<|ldz rfl .head fr_rd6<|gTz<|vFz<|gTz<|ldz rfl (.tail (.app .head)) cl_rd3<|gTz ?_;refine lvz (.eqT rfl rfl (by omega)) ?_;refine pTz<|vMz<|gTz<|vFz<|gTz<|ldz rfl .head fr_rd7<|gTz<|vFz<|gTz<|ldz rfl (.tail (.app .head)) cl_rd4<|gTz ?_;refine lvz (.eqWT rfl rfl (by with_reducible rfl)) ?_;refine pTz<|vMz<|gTz<|vFz<|gTz<|ldz rfl .head fr_rd13<|gTz<|vFz<|gTz<|ldz rfl (.tail (.app .head)) cl_rd14<|gTz ?_;refine lvz (.boolEqT rfl rfl (by with_reducible rfl)) ?_;refine pTz<|vMz<|gTz<|vFz<|gTz<|ldz rfl .head fr_rd11<|gTz<|vFz<|gTz<|ldz rfl (.tail (.app .head)) cl_rd10<|gTz ?_;apply zS;rfl;rfl;infer_instance;exact .cons rfl (.cons rfl .nil);intro w _;rename_i hst;(exact hE2 w (st_ou hst (by (repeat (first|exact qM _|exact qP _ _|apply qQ|apply List.sublist_append_of_sublist_right)))) (st_ou hst (by (repeat (first|exact qM _|exact qP _ _|apply qQ|apply List.sublist_append_of_sublist_right)))));refine pTz<|vMz<|gTz<|vFz<|gTz<|vFz<|gTz<|ldz rfl .head fr_rd2s<|gTz<|lvz (.lenR rfl inferInstance rfl)<|gTz<|vFz<|gTz<|vFz ?_;refine gTz<|ldz rfl .head fr_rd3<|gTz<|lvz (.lenR rfl inferInstance rfl)<|gTz ?_;refine lvz (.addZ rfl rfl (by omega)) ?_;refine gTz<|vFz<|gTz<|ldz rfl .head fr_rd12<|gTz<|lvz (.lenR rfl inferInstance rfl)<|gTz ?_;refine lvz (.addZ rfl rfl (by omega)) ?_;refine gTz ?_;refine lvz (.eqT rfl rfl (by omega)) ?_;refine pTz<|vAz<|nNz<|zK ?_)
    (apply finR;exact .inl rfl;rfl;rfl;rfl;apply zD;exact zG rfl;exact zF)
    rfl
   ·have h0:cself=0:=Decidable.byContradiction fun h=>hn ⟨hP.cl,h,hpl3⟩
    have hsl2:=zero_sl
    (refine vMz ?_;refine vEz ?_;refine vEz ?_;apply zU;rfl;intro _;apply zR;rfl;rfl;apply qA;apply fr_wrW;rfl;exact hsl2;refine vAz<|nNz<|zI<|sRz<|vMz ?_;refine lvz (.neT rfl rfl (by omega)) ?_;refine nNz<|cTz<|sRz<|vMz ?_;refine lvz (.eqT rfl rfl (by omega)) ?_;refine vMz<|gTz<|vFz<|gTz<|ldz rfl (.tail (.app .head)) cl_rd2<|gTz ?_;refine lvz (.eqT rfl rfl (by omega)) ?_;refine pTz<|vAz<|nNz<|zK<|thenR ?_)
    (apply finR;exact .inl rfl;rfl;rfl;rfl;apply zD;exact zG rfl;exact zF)
    rfl
end
end Go.Proofs.YtpgdnfgjbhdbpaaGreatDoor
namespace Go.Proofs.YtpgdnfgjbhdbpaaGreatDoor
open Go Go.RowKit SL
open Go.ChangeShapes Go.WideShapes
theorem handed_shaped {H:Type} {enc:TypeId × Value→H} {a:Assume} {C:Checked} {os:Os} {f:FuncId} {fn:Func} {s:ChangeSpec} {conds:List PathCond} {apart fresh handsOn again:Bool} {X:World→Array Value→Prop}
  (hX:∀ (w w':World) (args:Array Value),w.heap=w'.heap→X w args→X w' args)
  (own:ownKnob C.prog.godebug=none) (started:os.Started) (noInit:C.prog.inits.idxOf? f=none) (hfn:C.prog.funcs[f]?=some fn)
  (witness:∃ (w:World) (tape:Tape) (i:Input),w.os=os∧(w.forCall tape i).Shaped C.prog∧i.vars=[]∧Input.okWide C.prog (w.forCall tape i) .any w.heap.size f i ∧
   ((s.pre enc C.prog fn conds apart (w.forCall tape i).memory i.args∧X (w.forCall tape i).memory i.args)∧sizedMet enc C.prog fn (OpenSpec.ofChange s) apart (w.forCall tape i).memory i.args)∧a.holds C.prog (lone (Frame.enter C.prog f i.args .normal) [] (w.forCall tape i)))
  (contract:∀ (W:World) (base:Nat) (args:Array Value) (ds gs:List (DataW H)) (before:List MemPlace),
   (∀ (j:Nat) t v,fn.params[j]?=some t→args[j]?=some v→Value.okWide C.prog W .any base t v) →
   DataW.Whole enc C.prog fn.params.toList s.vars apart W args.toList ds gs before→X W args→W.ShapedOpen C.prog →
   Calls C.prog f args W fun e W'=>∃ v,e=.returned v∧s.post enc C.prog fn apart fresh handsOn again W args v W') :
  ReturnsInHanded a C os f .any (fun w args=>(s.pre enc C.prog fn conds apart w args∧X w args)∧sizedMet enc C.prog fn (OpenSpec.ofChange s) apart w args) (s.post enc C.prog fn apart fresh handsOn again):=by
 refine returnsInHanded_of_calls own started noInit witness fun w tape i _ hsh _ hok hpre _=>?_
 obtain ⟨_,_,_,fn',hfn',_,_,_,_,hval⟩:=hok
 obtain rfl:fn'=fn:=Option.some.inj (hfn'.symm.trans hfn)
 obtain ⟨⟨⟨ds,gs,before,hw,_⟩,hx⟩,_⟩:=hpre
 refine (contract (w.forCall tape i) w.heap.size i.args ds gs before hval (DataW.Whole.of_heap (w':=w.forCall tape i) (by rfl) hw) (hX _ _ _ (by rfl) hx) hsh).mono fun e W' ⟨v,he,hp⟩=>?_
 subst he
 exact ChangeSpec.post_blind hp
end Go.Proofs.YtpgdnfgjbhdbpaaGreatDoor
namespace Go.Proofs.YtpgdnfgjbhdbpaaGreatDoor
open Go Go.RowKit SL
open Go.ChangeShapes Go.WideShapes
set_option linter.unusedVariables false
section op
variable {w : World}
theorem pair_is {f r:Ty} {cs:List Value} (h:(Ty.pair f r).is w cs):∃ a b,cs=a++b∧f.is w a∧r.is w b:=⟨_,_,(List.take_append_drop _ cs).symm,h.1,h.2⟩
theorem is_u64 {cs:List Value} (h:(Ty.int .u64).is w cs):∃ n:Nat,n < 18446744073709551616∧cs=[.int .u64 (n:Int)]:=by
 obtain ⟨n,rfl,hn⟩:=h
 obtain ⟨k,rfl,hk⟩:=wf_u64 hn
 exact ⟨k,hk,rfl⟩
theorem is_byte {cs:List Value} (h:(Ty.int .u8).is w cs):∃ n:Nat,cs=[.int .u8 (n:Int)]:=by
 obtain ⟨u,_,rfl⟩:=is_u8 h
 exact ⟨u.toNat,rfl⟩
def tyBs:Ty:=.sl (.int .u8)
end op
end Go.Proofs.YtpgdnfgjbhdbpaaGreatDoor
namespace Go.Proofs.YtpgdnfgjbhdbpaaGreatDoor
open Go Go.RowKit SL
open Go.ChangeShapes Go.WideShapes
set_option linter.unusedVariables false
section op
variable {H : Type} {enc : TypeId × Value → H} {P : Program} {w W : World} {held : Bool} {r : Reach} {base : Nat} {T E : TypeId} {v : Value} {d : DataW H} {ps : List MemPlace}
def aggB (P:Program) (T:TypeId):Bool:=match P.underlying T with|some (.struct _)|some (.array _ _)=>true|_=>false
theorem open_agg {α:Type} {g:α→List Value} {Q:α→Prop} {e:Ty} (hs:aggB P T=true) (hT:e.ok P (.inl T)=true) (he:∀ cs',e.is w cs'→∃ x,Q x∧cs'=g x)
  (hv:Value.okWide P W r base T v) (h:DataW.Trod enc P w 0 (fun _=>true) held T v d ps):∃ x:α,Q x∧v=.agg (g x).toArray:=by
 obtain ⟨cs,rfl⟩:∃ cs,v=.agg cs:=by
  unfold aggB at hs
  unfold Value.okWide at hv
  split at hs
  ·rename_i fs hu
   simp only [hu] at hv
   obtain ⟨cs,h1,_⟩:=hv
   exact ⟨cs,h1⟩
  ·rename_i n e hu
   simp only [hu] at hv
   obtain ⟨cs,h1,_⟩:=hv
   exact ⟨cs,h1⟩
  ·cases hs
 obtain ⟨x,hx,he2⟩:=he _ (open_one hT h)
 exact ⟨x,hx,congrArg Value.agg (Array.toList_inj.1 he2)⟩
theorem is_wrow {cs:List Value} (h:(Ty.sl .word).is w cs):∃ x:Value × List Nat,(RowAt w 4 x.1 x.2.length (wcs x.2)∧∀ u∈x.2,u < M256)∧cs=[x.1]:=by
 obtain ⟨v,l,h1,h2,h3⟩:=sl_rows (g:=fun u:Nat=>(wc u).toList) (Q:=fun u=>u < M256) (sz:=4) rfl (by decide) (fun _ h=>is_word h) h
 exact ⟨(v,l),⟨h3,fun u hu=>(h2 u hu).1⟩,h1⟩
theorem is_i64 {cs:List Value} (h:(Ty.int .i64).is w cs):∃ n:Int,cs=[.int .i64 n]:=by
 obtain ⟨n,rfl,_⟩:=h
 exact ⟨n,rfl⟩
def tySc:Ty:=.pair (.sl .word) (.pair tyBs .unit)
def tyFr:Ty:=.pair tyBs (.pair (.int .i64) (.pair tySc (.pair (.int .u64) (.pair (.int .u64) (.pair (.int .u64) (.pair .word (.pair tyBs (.pair tyBs (.pair .bool .unit)))))))))
theorem is_fr {cs:List Value} (h:tyFr.is w cs):∃ p:FrV × FrL,(FrRows w p.1 p.2∧FrNum p.1 p.2)∧cs=frc p.1:=by
 obtain ⟨_,_,rfl,h0,h⟩:=pair_is h
 obtain ⟨_,_,rfl,h1,h⟩:=pair_is h
 obtain ⟨_,_,rfl,h2,h⟩:=pair_is h
 obtain ⟨_,_,rfl,h3,h⟩:=pair_is h
 obtain ⟨_,_,rfl,h4,h⟩:=pair_is h
 obtain ⟨_,_,rfl,h5,h⟩:=pair_is h
 obtain ⟨_,_,rfl,h6,h⟩:=pair_is h
 obtain ⟨_,_,rfl,h7,h⟩:=pair_is h
 obtain ⟨_,_,rfl,h8,h⟩:=pair_is h
 obtain ⟨_,_,rfl,h9,h⟩:=pair_is h
 obtain rfl:_=[]:=h
 obtain ⟨_,_,rfl,ha,h2⟩:=pair_is h2
 obtain ⟨_,_,rfl,hb,h2⟩:=pair_is h2
 obtain rfl:_=[]:=h2
 obtain ⟨⟨v0,l0⟩,b0,rfl⟩:=is_bytes h0
 obtain ⟨n1,rfl⟩:=is_i64 h1
 obtain ⟨⟨va,la⟩,⟨ba,ca⟩,rfl⟩:=is_wrow ha
 obtain ⟨⟨vb,lb⟩,bb,rfl⟩:=is_bytes hb
 obtain ⟨n3,b3,rfl⟩:=is_u64 h3
 obtain ⟨n4,b4,rfl⟩:=is_u64 h4
 obtain ⟨n5,b5,rfl⟩:=is_u64 h5
 obtain ⟨n6,b6,rfl⟩:=is_word h6
 obtain ⟨⟨v7,l7⟩,b7,rfl⟩:=is_bytes h7
 obtain ⟨⟨v8,l8⟩,b8,rfl⟩:=is_bytes h8
 obtain ⟨f9,rfl⟩:=h9
 exact ⟨(⟨v0,n1,va,vb,n3,n4,n5,n6,v7,v8,f9⟩,⟨l0,la,lb,l7,l8⟩),⟨⟨b0,ba,bb,b7,b8⟩,⟨b3,b4,b5,b6,ca⟩⟩,rfl⟩
end op
end Go.Proofs.YtpgdnfgjbhdbpaaGreatDoor
namespace Go.Proofs.YtpgdnfgjbhdbpaaGreatDoor
open Go Go.RowKit SL
open Go.ChangeShapes Go.WideShapes
set_option linter.unusedVariables false
section op
variable {w : World}
def tyAk:Ty:=.pair (.int .i64) (.pair (.int .u8) (.pair (.sl .word) (.pair tyBs .unit)))
theorem is_ak {cs:List Value} (h:tyAk.is w cs):∃ a:AkA,AkAt w a∧cs=akp a:=by
 obtain ⟨_,_,rfl,h0,h⟩:=pair_is h
 obtain ⟨_,_,rfl,h1,h⟩:=pair_is h
 obtain ⟨_,_,rfl,h2,h⟩:=pair_is h
 obtain ⟨_,_,rfl,h3,h⟩:=pair_is h
 obtain rfl:_=[]:=h
 obtain ⟨n0,rfl⟩:=is_i64 h0
 obtain ⟨n1,rfl⟩:=is_byte h1
 obtain ⟨⟨v2,l2⟩,⟨b2,c2⟩,rfl⟩:=is_wrow h2
 obtain ⟨⟨v3,l3⟩,b3,rfl⟩:=is_bytes h3
 exact ⟨⟨n0,n1,v2,l2,v3⟩,⟨b2,⟨l3,b3⟩,c2⟩,rfl⟩
end op
theorem var_heap {P:Program} {w:World} {n:String} {g:Nat} {cs:Array Value} (hg:P.globalNamed n=some g) (h:w.var? P n=some cs):∃ E fr,w.heap[g]?=some (.cells cs E fr):=by
 unfold World.var? at h
 rw [hg] at h
 simp only [Option.bind_some] at h
 split at h
 ·rename_i cs' E fr hh
  cases h
  exact ⟨E,fr,hh⟩
 ·cases h
theorem tab_at {P:Program} {W:World} {l:List (String × DataW Unit)} {n:String} {g T E m:Nat} {k:IntKind} {zs:List Int} (h:laidMet P l W) (hm:(n,Lib.tabData k zs)∈l) (hg:P.globalNamed n=some g) (hT:(P.globals[g]?).map (·.type)=some T) (hu:P.underlying T=some (.array m E)) (he:P.underlying E=some (.int k)) (hce:P.cellsOf E=1) (hct:P.cellsOf T=m) :
  ∃ E' fr,W.heap[g]?=some (.cells (zs.map fun z=>Value.int k z).toArray E' fr):=by
 obtain ⟨g',t',cs,fuel,p,h1,h2,h3,h4⟩:=Lib.laidMet.reads h hm
 obtain rfl:g=g':=Option.some.inj (hg.symm.trans h1)
 obtain rfl:T=t':=Option.some.inj (hT.symm.trans h2)
 have hc:=Lib.cells_of_tab hu he hce hct h4
 obtain ⟨E',fr,hh⟩:=var_heap hg h3
 refine ⟨E',fr,?_⟩
 rw [hh,← hc]
theorem laid_at {l : List (String × DataW Unit)} {W : World} (h : laidMetH Tryz.prog l W) (h0 : (l.all fun x => x.2.handleName?.isNone) = true) (h1 : ("sheafer/sponge.turns", Lib.tabData .i64 (SK.turnL.map fun (n : Nat) => (n : Int))) ∈ l) (h2 : ("sheafer/sponge.numbers", Lib.tabData .u64 (SK.numL.map fun (n : Nat) => (n : Int))) ∈ l) : SK.TurnAt W ∧ SK.NumAt W := by
 rw [MakeChecks.laidMetH_plain _ _ _ h0] at h
 exact ⟨tab_at (T:=199) (E:=3) (m:=25) h h1 (by kernel_rfl) (by kernel_rfl) (by kernel_rfl) (by kernel_rfl) (by kernel_rfl) (by kernel_rfl),tab_at (T:=174) (E:=26) (m:=24) h h2 (by kernel_rfl) (by kernel_rfl) (by kernel_rfl) (by kernel_rfl) (by kernel_rfl) (by kernel_rfl)⟩
theorem laid_who {W:World} (h:laidMetH Tryz.prog Rows.callWhoRow.laid W):SK.TurnAt W∧SK.NumAt W:=laid_at h (by kernel_rfl) (List.Mem.tail _ (List.Mem.tail _ (List.Mem.tail _ (List.Mem.head _)))) (List.Mem.tail _ (List.Mem.tail _ (List.Mem.tail _ (List.Mem.tail _ (List.Mem.head _)))))
end Go.Proofs.YtpgdnfgjbhdbpaaGreatDoor
