/-
  Texts that were built apart, put behind one another (5 of 5): QK QN.
  Conditions: none.
-/
import Derived.Test.YtdeggbkbblfpoaaGreatDoorZ4
namespace Go.Proofs.YtdeggbkbblfpoaaGreatDoor
open Go Go.RowKit SL
set_option maxRecDepth 8000
set_option maxHeartbeats 4000000
set_option linter.unusedSimpArgs false
set_option linter.unusedVariables false
attribute [local irreducible] SL.CW SL.LW SL.DW Calls SL.Ret SL.RetG SL.beginQ SL.roundQ SL.rangeQ SL.inQ SL.RW SL.AnyW SL.thenQ SL.thenC SL.thenW SL.blkQ SL.finQ SL.ValP SL.NewP SL.SetP SL.CallP SL.Rd SL.Wr SL.Known
section
attribute [local irreducible] SL.inP
theorem ucs_ints (l:List UInt8):∀ u∈ucs l,∃ m:Nat,u=.int .u8 (m:Int):=fun u hu=>by
 rw [ucs_map] at hu
 obtain ⟨x,_,rfl⟩:=List.mem_map.1 hu
 exact ⟨x.toNat,rfl⟩
theorem wcs_ints (l:List Nat):∀ u∈wcs l,∃ m:Nat,u=.int .u64 (m:Int):=fun u hu=>by
 obtain ⟨x,_,hx⟩:=List.mem_flatMap.1 hu
 simp only [wc,List.mem_cons,List.not_mem_nil,or_false] at hx
 rcases hx with h|h|h|h<;>exact ⟨_,h⟩
theorem ints_set {xs:List Value} {kd:IntKind} {k j:Nat} {v:Value} (h:∀ u∈xs,∃ m:Nat,u=.int kd (m:Int)) (hj:k≤j) (hv:∃ m:Nat,v=.int kd (m:Int)):∀ u∈xs.take k++[v]++xs.drop j,∃ m:Nat,u=.int kd (m:Int):=fun u hu=>by
 simp only [List.mem_append,List.mem_singleton] at hu
 rcases hu with (hu|rfl)|hu
 ·exact h u (List.mem_of_mem_take hu)
 ·exact hv
 ·exact h u (List.mem_of_mem_drop hu)
def SpW (v:Value) (n:Nat) (seg:Fs):Prop:=n=0∨∃ g cur c,v=.slice (some ⟨g,0,none⟩) n c∧seg=[(g,.cells cur 29 (0,0))]∧n≤maxLen∧n * 4≤cur.size∧∀ i,i < n * 4→∃ m:Nat,cur[i]?=some (.int .u64 (m:Int))
theorem cur_ints {cur:Array Value} {l:List Nat} {n:Nat} (h:cur.toList.take n=wcs l) {i:Nat} (hi:i < n) (hn:n≤cur.size):∃ m:Nat,cur[i]?=some (.int .u64 (m:Int)):=by
 have h1:cur.toList[i]?=(wcs l)[i]?:=by rw [← h,List.getElem?_take,if_pos hi]
 have h2:cur.toList[i]?=some (cur[i]'(by omega)):=by rw [Array.getElem?_toList,Array.getElem?_eq_getElem (by omega)]
 rw [h2] at h1
 obtain ⟨m,hm⟩:=wcs_ints l _ (List.mem_of_getElem? h1.symm)
 exact ⟨m,by rw [Array.getElem?_eq_getElem (by omega),hm]⟩
theorem wP.sp {l:List Nat} {v:Value} {gs:Fs} (h:wP l v gs):SpW v l.length gs:=by
 rcases h with h|⟨g,cur,rfl,rfl,hsz,htk,hm⟩
 ·unfold wM at h
  rcases Nat.eq_zero_or_pos l.length with h0|h0
  ·exact .inl h0
  ·obtain ⟨p,c,rfl⟩:=id h.form
   obtain ⟨g,cur,rfl,rfl,hn,hm,hsz,htk⟩:=h.pos h0
   exact .inr ⟨g,cur,_,rfl,rfl,by omega,by omega,fun i hi=>cur_ints htk hi (by omega)⟩
 ·exact .inr ⟨g,cur,_,rfl,rfl,hm,hsz,fun i hi=>cur_ints htk hi hsz⟩
theorem spoil_calls (w0:World) (S:List Nat) (f:FrV) (L:FrL) (gs rest:Fs) (hf:FrP f L gs) (w:World) (hs:St w0 S (gs++rest) w) :
  Calls Tryz.prog 15 #[frv f,.agg (aska 0 0 (.slice none 0 0) (.slice none 0 0))] w (fun x w'=>∃ fs',(x=.returned (.tuple #[])∧fs'=rest)∧St w0 S fs' w'):=by
 obtain ⟨g1,g2,g3,g4,g5,hp,r1,r2,r3,r4,r5⟩:=hf
 obtain ⟨code,pc,stk,mem,gas,self,frm,val,inp,back,stat⟩:=f
 unfold bM at r1 r3 r4 r5
 dsimp only at r1 r2 r3 r4 r5
 obtain ⟨q1,k1,rfl⟩:=r1.form
 obtain ⟨q2,k2,rfl⟩:=r2.form
 obtain ⟨q3,k3,rfl⟩:=r3.form
 obtain ⟨q4,k4,rfl⟩:=r4.form
 obtain ⟨q5,k5,rfl⟩:=r5.form
 replace r2:=r2.sp
 replace hs:St w0 S (g1++(g4++(g5++(g3++(g2++rest))))) w:=by
  refine SubP.st ?_ (hs.perm (hp.append_right _))
  simp only [List.append_assoc]
  exact subp_ix [g1,g2,g3,g4,g5] (xs:=[0,3,4,2,1]) (ys:=[0,1,2,3,4]) rest rfl
 refine calls_anyO (calls_inlineP (K:=anyO fun x fs'=>x=.returned (.tuple #[])∧fs'=rest) (args:=[_,_]) Tryz.func15 rfl Tryz.ntmps15 rfl ?_ hs)
 (refine sRz ?_;apply zT;rfl;rfl;intro _;apply zT;rfl;rfl;intro _;refine nNz<|zI<|sRz<|vFz<|ldz rfl (.tail .head) fr_rd0<|vFz<|ldz rfl (.tail .head) fr_rd11<|vFz<|ldz rfl (.tail .head) fr_rd12<|vFz<|vFz<|ldz rfl (.tail .head) fr_rd3<|vFz<|ldz rfl .head (Rd.one' rfl) ?_)
 rename_i b2 b3
 refine LW.n0 rfl rfl (NewP.buildSN (vs:=[(0,.slice q1 L.cl.length k1),(1,.slice q4 L.il.length k4),(2,.slice q5 L.bl.length k5),(3,.slice q3 L.ms.length k3),(4,.slice none 0 0)]) (c:=#[.slice q1 L.cl.length k1,.slice q4 L.il.length k4,.slice q5 L.bl.length k5,.slice q3 L.ms.length k3,.slice none 0 0]) inferInstance inferInstance (by (apply zA;rfl;apply zA;rfl;apply zA;rfl;apply zA;rfl;apply zA;rfl;exact zB)) rfl rfl (by kernel_rfl) (by kernel_rfl)) fun b19=>?_
 simp only [Sh.val]
 (refine lvz (.lenR rfl inferInstance rfl)<|vMz<|nNz<|zM ?_)
 apply CW.rounds 6
 apply RW.step
 (refine sRz ?_;refine lvz (.lssT rfl rfl (by omega)) ?_;refine nNz<|zI<|cTz<|zJ<|thenN<|zI<|zM<|sRz ?_;refine lvz (.indexAddrSL rfl rfl (by decide) (by omega)) ?_;refine ldz rfl .head (Rd.one' rfl)<|vAz<|nSz<|vMz<|lvz (.lenR rfl inferInstance rfl)<|vMz<|nNz<|zM ?_)
 refine CW.loop (fun x:Nat × Fs=>([(27,.int .i64 (x.1:Int)),(26,.int .i64 (L.cl.length:Int)),(5,.slice q1 L.cl.length k1),(21,.int .i64 ((0:Nat):Int)),(19,.slice (some ⟨b19,0,none⟩) 5 5),(20,.int .i64 ((5:Nat):Int)),(2,.pointer (some ⟨b2,0,none⟩))],(b19,.cells #[.slice q1 L.cl.length k1,.slice q4 L.il.length k4,.slice q5 L.bl.length k5,.slice q3 L.ms.length k3,.slice none 0 0] 22 (0,0))::(b3,.cells (aska 0 0 (.slice none 0 0) (.slice none 0 0)) 37 (0,0))::(b2,.cells (fra ⟨.slice q1 L.cl.length k1,pc,.slice q2 L.ws.length k2,.slice q3 L.ms.length k3,gas,self,frm,val,.slice q4 L.il.length k4,.slice q5 L.bl.length k5,stat⟩) 31 (0,0))::(x.2++(g4++(g5++(g3++(g2++(rest))))))))
  (fun x=>x.1≤L.cl.length∧∃ xs:List Value,(∀ u∈xs,∃ m:Nat,u=.int .u8 (m:Int))∧IsRow 5 1 (.slice q1 L.cl.length k1) L.cl.length xs x.2) (fun x=>L.cl.length - x.1) (0,g1) ⟨Nat.zero_le _,_,ucs_ints L.cl,r1⟩ ⟨rfl,rfl,rfl,rfl,rfl,rfl,rfl,trivial⟩ (qN _) ?_
 rintro ⟨k,seg⟩ ⟨hk,xs,hall,hrow⟩
 dsimp only at hk hrow ⊢
 rcases Nat.lt_or_ge k L.cl.length with hlt|hge
 ·obtain ⟨gm,cur,rfl,rfl,hn9,hm9,hsz9,htk9⟩:=hrow.pos (by omega)
  have hxl:=hrow.len
  have hmx:maxLen=9223372036854775807:=rfl
  obtain ⟨m9,hm8⟩:=hall (xs[k]'(by omega)) (List.getElem_mem _)
  have hrd9:Rd Tryz.prog 5 (.cells cur 5 (0,0)) (0+k * 1) (.int .u8 (m9:Int)):=by have h:=Rd.one (P:=Tryz.prog) (T:=5) (E:=5) (fr:=(0,0)) (cut_get (off:=0) (by rw [List.drop_zero];exact htk9) (show xs[k]?=some (.int .u8 (m9:Int)) by rw [List.getElem?_eq_getElem (by omega),hm8]));simpa using h
  obtain ⟨w1,w2⟩:=wr_take (i:=k) (vs:=[Value.int .u8 (((m9+1) % 256:Nat):Int)]) htk9 rfl hlt (by omega)
  have hW:Wr Tryz.prog 5 (.cells cur 5 (0,0)) (0+k * 1) (.int .u8 (((m9+1) % 256:Nat):Int)) (.cells (wrCells cur (k * 1) [Value.int .u8 (((m9+1) % 256:Nat):Int)]) 5 (0,0)):=Wr.cells (z:=.int .u8 0) (n:=1) rfl rfl (by rw [hsz9];show 0+k * 1+1≤k1 * 1;omega) (by rw [qO];rfl)
  (refine sRz ?_;refine lvz (.lssT rfl rfl (by omega)) ?_;refine nNz<|zI<|cTz<|zJ<|thenN<|zI<|zM<|sRz<|vMz<|vAz<|nNz<|zL<|vMz<|vMz ?_;refine lvz (.indexAddrS rfl rfl rfl (by omega)) ?_;refine ldz rfl (.tail (.tail (.tail .head))) hrd9 ?_;refine lvz (.addBL rfl rfl (by decide)) ?_;refine lvz (.indexAddrS rfl rfl rfl (by omega)) ?_;refine zR rfl rfl (.tail (.tail (.tail .head))) hW ?_;apply zV;refine blkN<|thenN<|zL ?_;refine lvz (.addZL rfl rfl (by decide) (by omega)) ?_;refine vMz ?_;apply zV)
  apply thenX
  refine ⟨rfl,(k+1,_),⟨hlt,_,ints_set (k:=k * 1) (j:=(k+1) * 1) hall (by omega) ⟨_,rfl⟩,.own hn9 hm9 (by rw [w2,hsz9]) w1 (by simp only [List.length_append,List.length_take,List.length_drop,List.length_cons,List.length_nil];omega)⟩,by show L.cl.length - (k+1) < L.cl.length - k;omega,⟨rfl,rfl,rfl,rfl,rfl,rfl,rfl,trivial⟩,qN _⟩
 ·(refine sRz ?_;refine lvz (.lssF rfl rfl (by omega)) ?_;refine nNz<|zI<|cFz<|CW.exit<|thenE<|thenE<|blkE rfl<|blkN<|thenN<|zL ?_;refine lvz (.addZL rfl rfl (by decide) (by omega)) ?_;refine vMz ?_;apply zV;refine thenL ?_)
  apply RW.step
  (refine sRz ?_;refine lvz (.lssT rfl rfl (by omega)) ?_;refine nNz<|zI<|cTz<|zJ<|thenN<|zI<|zM<|sRz ?_;refine lvz (.indexAddrS rfl rfl rfl (by omega)) ?_;refine ldz rfl .head (Rd.one' rfl)<|vAz<|nSz<|vMz<|lvz (.lenR rfl inferInstance rfl)<|vMz<|nNz<|zM ?_)
  refine CW.loop (fun x:Nat × Fs=>([(27,.int .i64 (x.1:Int)),(26,.int .i64 (L.il.length:Int)),(5,.slice q4 L.il.length k4),(21,.int .i64 ((1:Nat):Int)),(19,.slice (some ⟨b19,0,none⟩) 5 5),(20,.int .i64 ((5:Nat):Int)),(2,.pointer (some ⟨b2,0,none⟩))],(b19,.cells #[.slice q1 L.cl.length k1,.slice q4 L.il.length k4,.slice q5 L.bl.length k5,.slice q3 L.ms.length k3,.slice none 0 0] 22 (0,0))::(b3,.cells (aska 0 0 (.slice none 0 0) (.slice none 0 0)) 37 (0,0))::(b2,.cells (fra ⟨.slice q1 L.cl.length k1,pc,.slice q2 L.ws.length k2,.slice q3 L.ms.length k3,gas,self,frm,val,.slice q4 L.il.length k4,.slice q5 L.bl.length k5,stat⟩) 31 (0,0))::(x.2++(g5++(g3++(g2++(rest)))))))
   (fun x=>x.1≤L.il.length∧∃ xs:List Value,(∀ u∈xs,∃ m:Nat,u=.int .u8 (m:Int))∧IsRow 5 1 (.slice q4 L.il.length k4) L.il.length xs x.2) (fun x=>L.il.length - x.1) (0,g4) ⟨Nat.zero_le _,_,ucs_ints L.il,r4⟩ ⟨rfl,rfl,rfl,rfl,rfl,rfl,rfl,trivial⟩ (List.Sublist.cons_cons _ (List.Sublist.cons_cons _ (List.Sublist.cons_cons _ (List.sublist_append_right _ _)))) ?_
  rintro ⟨k,seg⟩ ⟨hk,xs,hall,hrow⟩
  dsimp only at hk hrow ⊢
  rcases Nat.lt_or_ge k L.il.length with hlt|hge
  ·obtain ⟨gm,cur,rfl,rfl,hn9,hm9,hsz9,htk9⟩:=hrow.pos (by omega)
   have hxl:=hrow.len
   have hmx:maxLen=9223372036854775807:=rfl
   obtain ⟨m9,hm8⟩:=hall (xs[k]'(by omega)) (List.getElem_mem _)
   have hrd9:Rd Tryz.prog 5 (.cells cur 5 (0,0)) (0+k * 1) (.int .u8 (m9:Int)):=by have h:=Rd.one (P:=Tryz.prog) (T:=5) (E:=5) (fr:=(0,0)) (cut_get (off:=0) (by rw [List.drop_zero];exact htk9) (show xs[k]?=some (.int .u8 (m9:Int)) by rw [List.getElem?_eq_getElem (by omega),hm8]));simpa using h
   obtain ⟨w1,w2⟩:=wr_take (i:=k) (vs:=[Value.int .u8 (((m9+1) % 256:Nat):Int)]) htk9 rfl hlt (by omega)
   have hW:Wr Tryz.prog 5 (.cells cur 5 (0,0)) (0+k * 1) (.int .u8 (((m9+1) % 256:Nat):Int)) (.cells (wrCells cur (k * 1) [Value.int .u8 (((m9+1) % 256:Nat):Int)]) 5 (0,0)):=Wr.cells (z:=.int .u8 0) (n:=1) rfl rfl (by rw [hsz9];show 0+k * 1+1≤k4 * 1;omega) (by rw [qO];rfl)
   (refine sRz ?_;refine lvz (.lssT rfl rfl (by omega)) ?_;refine nNz<|zI<|cTz<|zJ<|thenN<|zI<|zM<|sRz<|vMz<|vAz<|nNz<|zL<|vMz<|vMz ?_;refine lvz (.indexAddrS rfl rfl rfl (by omega)) ?_;refine ldz rfl (.tail (.tail (.tail .head))) hrd9 ?_;refine lvz (.addBL rfl rfl (by decide)) ?_;refine lvz (.indexAddrS rfl rfl rfl (by omega)) ?_;refine zR rfl rfl (.tail (.tail (.tail .head))) hW ?_;apply zV;refine blkN<|thenN<|zL ?_;refine lvz (.addZL rfl rfl (by decide) (by omega)) ?_;refine vMz ?_;apply zV)
   apply thenX
   refine ⟨rfl,(k+1,_),⟨hlt,_,ints_set (k:=k * 1) (j:=(k+1) * 1) hall (by omega) ⟨_,rfl⟩,.own hn9 hm9 (by rw [w2,hsz9]) w1 (by simp only [List.length_append,List.length_take,List.length_drop,List.length_cons,List.length_nil];omega)⟩,by show L.il.length - (k+1) < L.il.length - k;omega,⟨rfl,rfl,rfl,rfl,rfl,rfl,rfl,trivial⟩,qN _⟩
  ·(refine sRz ?_;refine lvz (.lssF rfl rfl (by omega)) ?_;refine nNz<|zI<|cFz<|CW.exit<|thenE<|thenE<|blkE rfl<|blkN<|thenN<|zL ?_;refine lvz (.addZL rfl rfl (by decide) (by omega)) ?_;refine vMz ?_;apply zV;refine thenL ?_)
   apply RW.step
   (refine sRz ?_;refine lvz (.lssT rfl rfl (by omega)) ?_;refine nNz<|zI<|cTz<|zJ<|thenN<|zI<|zM<|sRz ?_;refine lvz (.indexAddrS rfl rfl rfl (by omega)) ?_;refine ldz rfl .head (Rd.one' rfl)<|vAz<|nSz<|vMz<|lvz (.lenR rfl inferInstance rfl)<|vMz<|nNz<|zM ?_)
   refine CW.loop (fun x:Nat × Fs=>([(27,.int .i64 (x.1:Int)),(26,.int .i64 (L.bl.length:Int)),(5,.slice q5 L.bl.length k5),(21,.int .i64 ((2:Nat):Int)),(19,.slice (some ⟨b19,0,none⟩) 5 5),(20,.int .i64 ((5:Nat):Int)),(2,.pointer (some ⟨b2,0,none⟩))],(b19,.cells #[.slice q1 L.cl.length k1,.slice q4 L.il.length k4,.slice q5 L.bl.length k5,.slice q3 L.ms.length k3,.slice none 0 0] 22 (0,0))::(b3,.cells (aska 0 0 (.slice none 0 0) (.slice none 0 0)) 37 (0,0))::(b2,.cells (fra ⟨.slice q1 L.cl.length k1,pc,.slice q2 L.ws.length k2,.slice q3 L.ms.length k3,gas,self,frm,val,.slice q4 L.il.length k4,.slice q5 L.bl.length k5,stat⟩) 31 (0,0))::(x.2++(g3++(g2++(rest))))))
    (fun x=>x.1≤L.bl.length∧∃ xs:List Value,(∀ u∈xs,∃ m:Nat,u=.int .u8 (m:Int))∧IsRow 5 1 (.slice q5 L.bl.length k5) L.bl.length xs x.2) (fun x=>L.bl.length - x.1) (0,g5) ⟨Nat.zero_le _,_,ucs_ints L.bl,r5⟩ ⟨rfl,rfl,rfl,rfl,rfl,rfl,rfl,trivial⟩ (List.Sublist.cons_cons _ (List.Sublist.cons_cons _ (List.Sublist.cons_cons _ (List.sublist_append_right _ _)))) ?_
   rintro ⟨k,seg⟩ ⟨hk,xs,hall,hrow⟩
   dsimp only at hk hrow ⊢
   rcases Nat.lt_or_ge k L.bl.length with hlt|hge
   ·obtain ⟨gm,cur,rfl,rfl,hn9,hm9,hsz9,htk9⟩:=hrow.pos (by omega)
    have hxl:=hrow.len
    have hmx:maxLen=9223372036854775807:=rfl
    obtain ⟨m9,hm8⟩:=hall (xs[k]'(by omega)) (List.getElem_mem _)
    have hrd9:Rd Tryz.prog 5 (.cells cur 5 (0,0)) (0+k * 1) (.int .u8 (m9:Int)):=by have h:=Rd.one (P:=Tryz.prog) (T:=5) (E:=5) (fr:=(0,0)) (cut_get (off:=0) (by rw [List.drop_zero];exact htk9) (show xs[k]?=some (.int .u8 (m9:Int)) by rw [List.getElem?_eq_getElem (by omega),hm8]));simpa using h
    obtain ⟨w1,w2⟩:=wr_take (i:=k) (vs:=[Value.int .u8 (((m9+1) % 256:Nat):Int)]) htk9 rfl hlt (by omega)
    have hW:Wr Tryz.prog 5 (.cells cur 5 (0,0)) (0+k * 1) (.int .u8 (((m9+1) % 256:Nat):Int)) (.cells (wrCells cur (k * 1) [Value.int .u8 (((m9+1) % 256:Nat):Int)]) 5 (0,0)):=Wr.cells (z:=.int .u8 0) (n:=1) rfl rfl (by rw [hsz9];show 0+k * 1+1≤k5 * 1;omega) (by rw [qO];rfl)
    (refine sRz ?_;refine lvz (.lssT rfl rfl (by omega)) ?_;refine nNz<|zI<|cTz<|zJ<|thenN<|zI<|zM<|sRz<|vMz<|vAz<|nNz<|zL<|vMz<|vMz ?_;refine lvz (.indexAddrS rfl rfl rfl (by omega)) ?_;refine ldz rfl (.tail (.tail (.tail .head))) hrd9 ?_;refine lvz (.addBL rfl rfl (by decide)) ?_;refine lvz (.indexAddrS rfl rfl rfl (by omega)) ?_;refine zR rfl rfl (.tail (.tail (.tail .head))) hW ?_;apply zV;refine blkN<|thenN<|zL ?_;refine lvz (.addZL rfl rfl (by decide) (by omega)) ?_;refine vMz ?_;apply zV)
    apply thenX
    refine ⟨rfl,(k+1,_),⟨hlt,_,ints_set (k:=k * 1) (j:=(k+1) * 1) hall (by omega) ⟨_,rfl⟩,.own hn9 hm9 (by rw [w2,hsz9]) w1 (by simp only [List.length_append,List.length_take,List.length_drop,List.length_cons,List.length_nil];omega)⟩,by show L.bl.length - (k+1) < L.bl.length - k;omega,⟨rfl,rfl,rfl,rfl,rfl,rfl,rfl,trivial⟩,qN _⟩
   ·(refine sRz ?_;refine lvz (.lssF rfl rfl (by omega)) ?_;refine nNz<|zI<|cFz<|CW.exit<|thenE<|thenE<|blkE rfl<|blkN<|thenN<|zL ?_;refine lvz (.addZL rfl rfl (by decide) (by omega)) ?_;refine vMz ?_;apply zV;refine thenL ?_)
    apply RW.step
    (refine sRz ?_;refine lvz (.lssT rfl rfl (by omega)) ?_;refine nNz<|zI<|cTz<|zJ<|thenN<|zI<|zM<|sRz ?_;refine lvz (.indexAddrS rfl rfl rfl (by omega)) ?_;refine ldz rfl .head (Rd.one' rfl)<|vAz<|nSz<|vMz<|lvz (.lenR rfl inferInstance rfl)<|vMz<|nNz<|zM ?_)
    refine CW.loop (fun x:Nat × Fs=>([(27,.int .i64 (x.1:Int)),(26,.int .i64 (L.ms.length:Int)),(5,.slice q3 L.ms.length k3),(21,.int .i64 ((3:Nat):Int)),(19,.slice (some ⟨b19,0,none⟩) 5 5),(20,.int .i64 ((5:Nat):Int)),(2,.pointer (some ⟨b2,0,none⟩))],(b19,.cells #[.slice q1 L.cl.length k1,.slice q4 L.il.length k4,.slice q5 L.bl.length k5,.slice q3 L.ms.length k3,.slice none 0 0] 22 (0,0))::(b3,.cells (aska 0 0 (.slice none 0 0) (.slice none 0 0)) 37 (0,0))::(b2,.cells (fra ⟨.slice q1 L.cl.length k1,pc,.slice q2 L.ws.length k2,.slice q3 L.ms.length k3,gas,self,frm,val,.slice q4 L.il.length k4,.slice q5 L.bl.length k5,stat⟩) 31 (0,0))::(x.2++(g2++(rest)))))
     (fun x=>x.1≤L.ms.length∧∃ xs:List Value,(∀ u∈xs,∃ m:Nat,u=.int .u8 (m:Int))∧IsRow 5 1 (.slice q3 L.ms.length k3) L.ms.length xs x.2) (fun x=>L.ms.length - x.1) (0,g3) ⟨Nat.zero_le _,_,ucs_ints L.ms,r3⟩ ⟨rfl,rfl,rfl,rfl,rfl,rfl,rfl,trivial⟩ (List.Sublist.cons_cons _ (List.Sublist.cons_cons _ (List.Sublist.cons_cons _ (List.sublist_append_right _ _)))) ?_
    rintro ⟨k,seg⟩ ⟨hk,xs,hall,hrow⟩
    dsimp only at hk hrow ⊢
    rcases Nat.lt_or_ge k L.ms.length with hlt|hge
    ·obtain ⟨gm,cur,rfl,rfl,hn9,hm9,hsz9,htk9⟩:=hrow.pos (by omega)
     have hxl:=hrow.len
     have hmx:maxLen=9223372036854775807:=rfl
     obtain ⟨m9,hm8⟩:=hall (xs[k]'(by omega)) (List.getElem_mem _)
     have hrd9:Rd Tryz.prog 5 (.cells cur 5 (0,0)) (0+k * 1) (.int .u8 (m9:Int)):=by have h:=Rd.one (P:=Tryz.prog) (T:=5) (E:=5) (fr:=(0,0)) (cut_get (off:=0) (by rw [List.drop_zero];exact htk9) (show xs[k]?=some (.int .u8 (m9:Int)) by rw [List.getElem?_eq_getElem (by omega),hm8]));simpa using h
     obtain ⟨w1,w2⟩:=wr_take (i:=k) (vs:=[Value.int .u8 (((m9+1) % 256:Nat):Int)]) htk9 rfl hlt (by omega)
     have hW:Wr Tryz.prog 5 (.cells cur 5 (0,0)) (0+k * 1) (.int .u8 (((m9+1) % 256:Nat):Int)) (.cells (wrCells cur (k * 1) [Value.int .u8 (((m9+1) % 256:Nat):Int)]) 5 (0,0)):=Wr.cells (z:=.int .u8 0) (n:=1) rfl rfl (by rw [hsz9];show 0+k * 1+1≤k3 * 1;omega) (by rw [qO];rfl)
     (refine sRz ?_;refine lvz (.lssT rfl rfl (by omega)) ?_;refine nNz<|zI<|cTz<|zJ<|thenN<|zI<|zM<|sRz<|vMz<|vAz<|nNz<|zL<|vMz<|vMz ?_;refine lvz (.indexAddrS rfl rfl rfl (by omega)) ?_;refine ldz rfl (.tail (.tail (.tail .head))) hrd9 ?_;refine lvz (.addBL rfl rfl (by decide)) ?_;refine lvz (.indexAddrS rfl rfl rfl (by omega)) ?_;refine zR rfl rfl (.tail (.tail (.tail .head))) hW ?_;apply zV;refine blkN<|thenN<|zL ?_;refine lvz (.addZL rfl rfl (by decide) (by omega)) ?_;refine vMz ?_;apply zV)
     apply thenX
     refine ⟨rfl,(k+1,_),⟨hlt,_,ints_set (k:=k * 1) (j:=(k+1) * 1) hall (by omega) ⟨_,rfl⟩,.own hn9 hm9 (by rw [w2,hsz9]) w1 (by simp only [List.length_append,List.length_take,List.length_drop,List.length_cons,List.length_nil];omega)⟩,by show L.ms.length - (k+1) < L.ms.length - k;omega,⟨rfl,rfl,rfl,rfl,rfl,rfl,rfl,trivial⟩,qN _⟩
    ·(refine sRz ?_;refine lvz (.lssF rfl rfl (by omega)) ?_;refine nNz<|zI<|cFz<|CW.exit<|thenE<|thenE<|blkE rfl<|blkN<|thenN<|zL ?_;refine lvz (.addZL rfl rfl (by decide) (by omega)) ?_;refine vMz ?_;apply zV;refine thenL ?_)
     apply RW.step
     (refine sRz ?_;refine lvz (.lssT rfl rfl (by omega)) ?_;refine nNz<|zI<|cTz<|zJ<|thenN<|zI<|zM<|sRz ?_;refine lvz (.indexAddrS rfl rfl rfl (by omega)) ?_;refine ldz rfl .head (Rd.one' rfl)<|vAz<|nSz<|vMz<|lvz (.lenR rfl inferInstance rfl)<|vMz<|nNz<|zM ?_)
     refine CW.loop (fun _:Nat=>([(27,.int .i64 0),(26,.int .i64 0),(5,.slice none 0 0),(21,.int .i64 ((4:Nat):Int)),(19,.slice (some ⟨b19,0,none⟩) 5 5),(20,.int .i64 ((5:Nat):Int)),(2,.pointer (some ⟨b2,0,none⟩))],(b19,.cells #[.slice q1 L.cl.length k1,.slice q4 L.il.length k4,.slice q5 L.bl.length k5,.slice q3 L.ms.length k3,.slice none 0 0] 22 (0,0))::(b3,.cells (aska 0 0 (.slice none 0 0) (.slice none 0 0)) 37 (0,0))::(b2,.cells (fra ⟨.slice q1 L.cl.length k1,pc,.slice q2 L.ws.length k2,.slice q3 L.ms.length k3,gas,self,frm,val,.slice q4 L.il.length k4,.slice q5 L.bl.length k5,stat⟩) 31 (0,0))::(g2++rest)))
      (fun _=>True) (fun _=>0) 0 trivial ⟨rfl,rfl,rfl,rfl,rfl,rfl,rfl,trivial⟩ (List.Sublist.cons_cons _ (List.Sublist.cons_cons _ (List.Sublist.cons_cons _ (List.sublist_append_right _ _)))) ?_
     rintro _ _
     dsimp only
     (refine sRz ?_;refine lvz (.lssF rfl rfl (by omega)) ?_;refine nNz<|zI<|cFz<|CW.exit<|thenE<|thenE<|blkE rfl<|blkN<|thenN<|zL ?_;refine lvz (.addZL rfl rfl (by decide) (by omega)) ?_;refine vMz ?_;apply zV;refine thenL ?_)
     apply RW.step
     (refine sRz ?_;refine lvz (.lssF rfl rfl (by omega)) ?_;refine nNz<|zI<|cFz<|CW.exit<|thenE<|thenE<|blkE rfl<|thenN<|sRz<|vFz<|vFz<|ldz rfl (.tail (.tail .head)) fr_rd2s<|lvz (.lenR rfl inferInstance rfl)<|vMz ?_;refine nNz<|zM ?_)
     refine CW.loop (fun x:Nat × Fs=>([(42,.int .i64 (x.1:Int)),(41,.int .i64 (L.ws.length:Int)),(2,.pointer (some ⟨b2,0,none⟩))],(b19,.cells #[.slice q1 L.cl.length k1,.slice q4 L.il.length k4,.slice q5 L.bl.length k5,.slice q3 L.ms.length k3,.slice none 0 0] 22 (0,0))::(b3,.cells (aska 0 0 (.slice none 0 0) (.slice none 0 0)) 37 (0,0))::(b2,.cells (fra ⟨.slice q1 L.cl.length k1,pc,.slice q2 L.ws.length k2,.slice q3 L.ms.length k3,gas,self,frm,val,.slice q4 L.il.length k4,.slice q5 L.bl.length k5,stat⟩) 31 (0,0))::(x.2++rest)))
      (fun x=>x.1≤L.ws.length∧SpW (.slice q2 L.ws.length k2) L.ws.length x.2) (fun x=>L.ws.length - x.1) (0,g2) ⟨Nat.zero_le _,r2⟩ ⟨rfl,rfl,rfl,trivial⟩ (qN _) ?_
     rintro ⟨k,seg⟩ ⟨hk,hrow⟩
     dsimp only at hk hrow ⊢
     rcases Nat.lt_or_ge k L.ws.length with hlt|hge
     ·rcases hrow with h0|⟨gm,cur,c9,he,rfl,hmx9,hsz9,hm9⟩
      ·omega
      cases he
      have hmx:maxLen=9223372036854775807:=rfl
      obtain ⟨m9,hm8⟩:=hm9 (k * 4) (by omega)
      have hrd9:Rd Tryz.prog 26 (.cells cur 29 (0,0)) (0+k * 4+0 * 1) (.int .u64 (m9:Int)):=Rd.one (by rw [show 0+k * 4+0 * 1=k * 4 by omega];exact hm8)
      have hW:Wr Tryz.prog 26 (.cells cur 29 (0,0)) (0+k * 4+0 * 1) (.int .u64 (((m9+1) % 18446744073709551616:Nat):Int)) (.cells (wrCells cur (k * 4) [Value.int .u64 (((m9+1) % 18446744073709551616:Nat):Int)]) 29 (0,0)):=Wr.cells (z:=.int .u64 0) (n:=1) rfl rfl (by omega) (by rw [show 0+k * 4+0 * 1=k * 4 by omega];rfl)
      (refine sRz ?_;refine lvz (.lssT rfl rfl (by omega)) ?_;refine nNz<|zI<|cTz<|zJ<|thenN<|zI<|zM<|sRz<|vMz<|vAz<|nNz ?_;apply CW.pre;refine AnyW.any 9 mixed (by decide +kernel) ?_;(try simp only [tsOf_cons,tsOf_nil,tsOf_app]);refine dvz (.fieldAddr rfl rfl)<|dvz (.fieldAddr rfl rfl) ?_;apply qD;rfl;rfl;rfl;exact zC;rfl;apply zO;apply zO;apply zP;exact zN;exact fr_rd2s;refine dvz (.move rfl) ?_;refine dvz (.indexAddrS rfl rfl rfl (by omega)) ?_;refine dvz (.indexAddrL rfl rfl rfl) ?_;apply qD;rfl;rfl;rfl;exact zC;rfl;apply zO;apply zO;apply zO;apply zP;exact zN;exact hrd9;refine dvz (.addNL rfl rfl (by decide)) ?_;refine dvz (.indexAddrS rfl rfl rfl (by omega)) ?_;apply DW.nil;simp only [fsOf_cons,fsOf_nil,fsOf_app,fsOf_tsOf,fsOf_new];refine lvz (.indexAddrL rfl rfl rfl) ?_;refine zR rfl rfl (.tail (.tail (.tail .head))) hW ?_;apply zV;refine blkN<|thenN<|zL ?_;refine lvz (.addZL rfl rfl (by decide) (by omega)) ?_;refine vMz ?_;apply zV)
      apply thenX
      refine ⟨rfl,(k+1,[(gm,.cells (wrCells cur (k * 4) [Value.int .u64 (((m9+1) % 18446744073709551616:Nat):Int)]) 29 (0,0))]),⟨hlt,.inr ⟨gm,_,k2,rfl,rfl,hmx9,by show _≤(cur.setIfInBounds _ _).size;rw [Array.size_setIfInBounds];exact hsz9,fun i hi=>?_⟩⟩,by show L.ws.length - (k+1) < L.ws.length - k;omega,⟨rfl,rfl,rfl,trivial⟩,by show List.Sublist _ (_::_::_::_::fsOf (tsOf rest));rw [fsOf_tsOf];exact qN _⟩
      show ∃ m:Nat,(cur.setIfInBounds (k * 4) _)[i]?=_
      rw [Array.getElem?_setIfInBounds]
      split
      ·exact ⟨_,by rw [if_pos (by omega)]⟩
      ·exact hm9 i hi
     ·(refine sRz ?_;refine lvz (.lssF rfl rfl (by omega)) ?_;refine nNz<|zI<|cFz<|CW.exit<|thenE<|thenE<|blkE rfl ?_)
      exact inPI (.inr rfl) .nil rfl .nil rfl ⟨rest,⟨rfl,rfl⟩,_,qR _ (qR _ (qR _ (List.sublist_append_right _ _))),.refl _⟩
end
theorem fewQ_idem (X:FrL):fewQ (fewQ X)=fewQ X:=by unfold fewQ;simp [List.take_take]
theorem LikeF.trans {x y z:FrV} (h:LikeF x y) (h2:LikeF y z):LikeF x z:=by
 obtain ⟨c,s,m,i,b,rfl⟩:=h
 obtain ⟨c2,s2,m2,i2,b2,rfl⟩:=h2
 exact ⟨c2,s2,m2,i2,b2,rfl⟩
theorem LikeF.refl (x:FrV):LikeF x x:=⟨x.code,x.stk,x.mem,x.inp,x.back,rfl⟩
theorem LikeF.ok {x y:FrV} {L:FrL} (h:LikeF x y):okF y L↔okF x L:=by
 obtain ⟨c,s,m,i,b,rfl⟩:=h
 exact Iff.rfl
theorem LikeF.told {x y:FrV} {R:Option (Nat × FrL)} (h:LikeF x y):ToldR y R=ToldR x R:=by
 obtain ⟨c,s,m,i,b,rfl⟩:=h
 cases R<;>rfl
theorem LikeF.tell {x y:FrV} {L:FrL} {c:Nat} {l:List Nat} (h:LikeF x y):tellR y L c l=tellR x L c l:=by
 obtain ⟨c,s,m,i,b,rfl⟩:=h
 rfl
theorem LikeF.reach {x y:FrV} {L:FrL} {a n:Nat} (h:LikeF x y):reachR y L a n=reachR x L a n:=by
 obtain ⟨c,s,m,i,b,rfl⟩:=h
 rfl
theorem FewR.again {y:FrV} {X:FrL} {v:Value} {gs:Fs} (h:FewR y (fewQ X) v gs):∃ z,v=frv z∧FrO z (fewQ X) gs∧LikeF y z:=by
 have h:=h.like
 rwa [fewQ_idem] at h
theorem fewQ_short (X:FrL):(fewQ X).short:=by
 unfold fewQ FrL.short
 simp only [List.length_take]
 omega
theorem FewR.at {y:FrV} {Y:FrL} {v:Value} {gs:Fs} (h:FewR y Y v gs) (hY:fewQ Y=Y):∃ z,v=frv z∧FrO z Y gs∧LikeF y z:=by
 have h:=h.like
 rwa [hY] at h
def ToldD (x:FrV) (R:Option (Nat × FrL)) (G:FrV) (LG:FrL) (ok:Bool):Prop:=(ok=false∧R=none∧G=zeroF∧LG=zeroL)∨(ok=true∧∃ g,R=some (g,LG)∧∃ c s m i b,G=x.rowsG g c s m i b)
theorem told_one {x:FrV} {R:Option (Nat × FrL)} {v:Value} {gs:Fs} (h:ToldR x R v gs):∃ G LG ok,v=.tuple #[frv G,.bool ok]∧FrO G LG gs∧ToldD x R G LG ok:=by
 cases R with
 |none =>
  obtain ⟨rfl,rfl⟩:=h
  exact ⟨_,zeroL,false,rfl,zero_frO,.inl ⟨rfl,rfl,rfl,rfl⟩⟩
 |some p =>
  obtain ⟨g,LG⟩:=p
  obtain ⟨c,s,m,i,b,rfl,k1⟩:=h
  exact ⟨_,LG,true,rfl,k1,.inr ⟨rfl,g,rfl,c,s,m,i,b,rfl⟩⟩
theorem told_like {x G W:FrV} {R:Option (Nat × FrL)} {LG LU:FrL} {ok ok2:Bool} (h:ToldD x R G LG ok) (h2:ToldD x R W LU ok2):ok2=ok∧LU=LG∧LikeF G W:=by
 rcases h with ⟨rfl,hr,rfl,rfl⟩|⟨rfl,g,hr,c,s,m,i,b,rfl⟩
 ·rcases h2 with ⟨rfl,_,rfl,rfl⟩|⟨_,g,hr2,_⟩
  ·exact ⟨rfl,rfl,_,_,_,_,_,rfl⟩
  ·rw [hr] at hr2;cases hr2
 ·rcases h2 with ⟨_,hr2,_⟩|⟨rfl,g2,hr2,c2,s2,m2,i2,b2,rfl⟩
  ·rw [hr] at hr2;cases hr2
  ·rw [hr] at hr2;cases hr2
   exact ⟨rfl,rfl,_,_,_,_,_,rfl⟩
theorem told_none {x G:FrV} {LG:FrL} {ok:Bool} (h:ToldD x none G LG ok):ok=false∧G=zeroF∧LG=zeroL:=by
 rcases h with ⟨h1,_,h2,h3⟩|⟨_,g,h,_⟩
 ·exact ⟨h1,h2,h3⟩
 ·cases h
theorem told_num {x G:FrV} {Y LG:FrL} {R:Option (Nat × FrL)} {ok:Bool} (hx:FrNum x Y) (hR:∀ g L',R=some (g,L')→g < 18446744073709551616∧∀ u∈L'.ws,u < M256) (h:ToldD x R G LG ok):FrNum G LG:=by
 rcases h with ⟨_,_,rfl,rfl⟩|⟨_,g,hr,c,s,m,i,b,rfl⟩
 ·exact zeroF_num
 ·obtain ⟨h1,h2⟩:=hR _ _ hr
  exact ⟨h1,hx.self,hx.frm,hx.val,h2⟩
theorem tellR_num {x:FrV} {Y:FrL} {c:Nat} {l:List Nat} (hx:FrNum x Y) (hl:∀ u∈l,u < M256):∀ g L',tellR x Y c l=some (g,L')→g < 18446744073709551616∧∀ u∈L'.ws,u < M256:=by
 intro g L' h
 unfold tellR at h
 split at h
 ·cases h
  refine ⟨by have:=hx.gas;omega,fun u hu=>?_⟩
  rcases List.mem_append.1 (show u∈Y.ws++l from hu) with h|h
  ·exact hx.ws u h
  ·exact hl u h
 ·cases h
theorem reachR_num {x:FrV} {Y:FrL} {a n:Nat} (hx:FrNum x Y):∀ g L',reachR x Y a n=some (g,L')→g < 18446744073709551616∧∀ u∈L'.ws,u < M256:=by
 intro g L' h
 unfold reachR at h
 split at h
 ·cases h
  exact ⟨by have:=hx.gas;omega,fun u hu=>hx.ws u hu⟩
 ·cases h
theorem reach_cost {L:FrL} {a n g:Nat} (hg:g≤20000) (hok:okSc L.ws.length L.ms.length) (h:costR L a n≤g):costR (memR L a n) a n=0∧memV L.ms.length (memR L a n).ms.length=costR L a n:=by
 have hE:endV a n≤1024:=memV_le hok.2.1 hg h
 obtain ⟨h1,h2,h3⟩:=hok
 have hl:(memR L a n).ms.length=L.ms.length+(upW (endV a n) - L.ms.length):=by
  unfold memR FrL.setM
  simp
 unfold costR at h ⊢
 rw [hl]
 obtain ⟨E,he⟩:∃ E,endV a n=E:=⟨_,rfl⟩
 rw [he] at hE h ⊢
 unfold upW
 constructor
 ·unfold memV
  rw [if_pos (by omega)]
 ·unfold memV
  by_cases hle:E≤L.ms.length
  ·rw [if_pos (by omega),if_pos hle]
  ·rw [if_neg (by omega),if_neg hle,if_neg (by omega),if_neg (by omega),show (L.ms.length+((E+31) / 32 * 32 - L.ms.length)+31) / 32=(E+31) / 32 by omega]
theorem FrO.memv {f:FrV} {L:FrL} {gs:Fs} (h:FrO f L gs):∃ q k,f.mem=.slice q L.ms.length k:=by
 obtain ⟨g1,g2,g3,g4,g5,_,h1,h2,h3,h4,h5⟩:=h
 unfold bM at h3
 exact h3.form
theorem okF_reach {f:FrV} {L:FrL} {a n:Nat} {c s m i b:Value} (h:okF f L) (hc:costR L a n≤f.gas):okF (f.rowsG (f.gas - costR L a n) c s m i b) (memR L a n):=by
 obtain ⟨⟨h1,h2,h3⟩,h4,h5,h6,h7⟩:=h
 exact ⟨⟨h1,h2,by show f.gas - _≤20000;omega⟩,h4,h5,(reach_in h3 h6 hc).1,h7⟩
theorem told_again {y G A:FrV} {Y LG LA:FrL} {a n:Nat} {ok:Bool} (hok:okF y Y) (hG:ToldD y (reachR y Y a n) G LG true) (hA:ToldD G (if okF G LG then reachR G LG a n else none) A LA ok):ok=true∧A.gas=G.gas∧G.gas≤y.gas∧y.gas - G.gas=memV Y.ms.length LG.ms.length∧LG.ms.length≤1024:=by
 rcases hG with ⟨h,_⟩|⟨_,g,hr,c,s,m,i,b,rfl⟩
 ·cases h
 ·unfold reachR at hr
  split at hr
  ·rename_i hc
   cases hr
   have hg:y.gas≤20000:=hok.1.2.2
   have h6:okSc Y.ws.length Y.ms.length:=hok.2.2.2.1
   obtain ⟨e1,e2⟩:=reach_cost hg h6 hc
   rw [if_pos (okF_reach hok hc)] at hA
   have hr2:reachR (y.rowsG (y.gas - costR Y a n) c s m i b) (memR Y a n) a n=some (y.gas - costR Y a n - 0,memR (memR Y a n) a n):=by
    unfold reachR
    rw [e1,if_pos (Nat.zero_le _)]
    rfl
   rw [hr2] at hA
   have hm:(memR Y a n).ms.length≤1024:=(reach_in hg h6 hc).1.2.1
   rcases hA with ⟨_,h,_⟩|⟨rfl,g2,h,c2,s2,m2,i2,b2,rfl⟩
   ·cases h
   ·cases h
    refine ⟨rfl,rfl,by show y.gas - _≤y.gas;omega,?_,hm⟩
    show y.gas - (y.gas - costR Y a n)=_
    rw [e2]
    omega
  ·cases hr
theorem getD_lt {l:List Nat} {i:Nat} (h:∀ a∈l,a < M256) (hi:i < l.length):l.getD i 0 < M256:=by
 rw [List.getD_eq_getElem?_getD,List.getElem?_eq_getElem hi]
 exact h _ (List.getElem_mem hi)
theorem took_pos {l:List Nat} {t:Value} {gt:Fs} (h:wM l t gt) (h0:0 < l.length):∃ g cur c,t=.slice (some ⟨g,0,none⟩) l.length c∧gt=[(g,.cells cur 29 (0,0))]∧(cur.toList.drop 0).take (l.length * 4)=wcs l:=by
 unfold wM at h
 obtain ⟨q,c,rfl⟩:=id h.form
 obtain ⟨g,cur,rfl,rfl,_,_,_,htk⟩:=h.pos h0
 exact ⟨g,cur,c,rfl,rfl,by rw [List.drop_zero];exact htk⟩
theorem FrameTells_walk (x0:FrV) (X0:FrL) (n1:Nat) (v2:Value) (l2:List Nat) (w:World) (hr0:FrRows w x0 X0) (hn0:FrNum x0 X0) (hn1:n1 < 18446744073709551616) (hl2:∀ a∈l2,a < M256) (hr2:RowAt w 4 v2 l2.length (wcs l2)):Calls Tryz.prog 5 #[frv x0,.int .u64 (n1:Int),v2] w (Ret w (.bool true)):=by
 obtain ⟨p2,c2,rfl,hc2,hm2⟩:=id hr2.form
 simp only [maxLen] at hm2
 have hf2:=row_fewW1 hr2 (k:=70) rfl
 have hsl:=hr0.sl
 obtain ⟨l,hl⟩:∃ l,l2.take 70=l:=⟨_,rfl⟩
 have hlm:∀ a∈l,a < M256:=fun a ha=>hl2 a (List.mem_of_mem_take (hl ▸ ha))
 have hll:l.length≤70:=by rw [← hl,List.length_take];omega
 rw [hl] at hf2
 refine enter (args:=[_,_,_]) _ [] [] Tryz.func5 rfl Tryz.ntmps5 rfl (by simp) .nil ?_
 (refine sRz ?_;apply zT;rfl;rfl;intro _;refine vAz<|nNz<|zI<|sRz ?_;apply zS;rfl;rfl;infer_instance;exact ArgsOk.nil;intro w _;exact wakes14_calls w;refine lvz (.notT rfl (by with_reducible rfl)) ?_;refine nNz<|cFz<|zJ<|thenN<|zI ?_)
 rename_i b3
 apply CW.pre
 (refine AnyW.anyM [(1,FewR x0 X0)] 7 mixed (by decide +kernel) ?_)
 ((try simp only [tsOf_cons,tsOf_nil,tsOf_app]);apply qD;rfl;rfl;rfl;exact zC;rfl;apply zP;exact zN;exact fr_rdW)
 refine DW.manyW (vs':=[x0.code,x0.stk,x0.mem,x0.inp,x0.back]) rfl rfl rfl (by (exact zC)) rfl inferInstance (by (exact .cons rfl .nil)) hr0.blocks (.ext hr0.c rfl (.ext hr0.s rfl (.ext hr0.m rfl (.ext hr0.i rfl (.ext hr0.b rfl .nil))))) (fun w hb _=>few14_calls x0 X0 w (hr0.bel hb)) ?_
 rintro v1 g1 hv1
 obtain ⟨y,rfl,hy,hyx⟩:=hv1.like
 ((try simp only [tsOf_cons,tsOf_nil,tsOf_app]);refine dvz (.move rfl)<|dvz (.move rfl)<|dvz (.lenR rfl inferInstance rfl) ?_;refine dvz (.minZL rfl rfl (by decide)) ?_;refine dvz (.cutTo inferInstance inferInstance rfl rfl (by omega)) ?_;apply DW.nil;simp only [fsOf_cons,fsOf_nil,fsOf_app,fsOf_tsOf,fsOf_new,fsOf_tag,fsOf_mark])
 try simp only [fsOf_mark,fsOf_cons,fsOf_nil,fsOf_app,fsOf_tsOf,fsOf_new,fsOf_tag,List.append_eq,List.nil_append]
 refine LW.callR rfl rfl inferInstance (by (exact .cons rfl .nil)) (fun w' hst=>CloneW_calls l _ w' (hf2.st hst) (by omega)) ?_
 rintro vl gl hvl
 obtain ⟨ql,kl,rfl⟩:=id (IsRow.form hvl)
 clear hsl
 have hsl:=hy.sl
 (apply zR;rfl;rfl;apply qC;apply qC;apply qA;apply fr_wrW;rfl;exact hsl;refine vAz<|nSz<|ldz rfl (.app (.app .head)) fr_rdW ?_)
 refine LW.callR rfl rfl inferInstance (by (exact .cons rfl .nil)) (fun w' hst=>few14_calls y (fewQ X0) w' (hy.us (st_ou hst (by (apply List.sublist_append_of_sublist_right;exact qQ _ _))))) ?_
 rintro vz gz hvz
 obtain ⟨z,rfl,hz,hzy⟩:=hvz.again
 have hsl2:=hz.sl
 obtain ⟨Y,hY⟩:∃ Y,fewQ X0=Y:=⟨_,rfl⟩
 have hYs:Y.short:=hY ▸ fewQ_short X0
 have hyn:FrNum y Y:=hY ▸ hyx.num hn0.few
 rw [hY] at hy hz
 have hzn:FrNum z Y:=hzy.num hyn
 have hRt0:∀ w',(∀ q∈gz,w'.heap[q.1]?=some q.2)→Calls Tryz.prog 11 #[frv z] w' (Ret w' (.bool (decide (okF y Y)))):=fun w' h=>by
  have h:=rfRight_calls z Y w' (hz.us h)
  rwa [decide_eq_decide.2 hzy.ok] at h
 have hYY:fewQ Y=Y:=by rw [← hY,fewQ_idem]
 by_cases hok:okF y Y
 ·have hRt:=hRt0
  rw [decide_eq_true hok] at hRt
  (apply zU;rfl;intro _;apply zR;rfl;rfl;apply qA;apply fr_wrW;rfl;exact hsl2;refine nSz<|ldz rfl .head fr_rdW ?_;apply zS;rfl;rfl;infer_instance;exact .cons rfl .nil;intro w _;rename_i hst;(exact hRt w (st_ou hst (by (repeat (first|exact qN _|exact qQ _ _|apply qR|apply List.sublist_append_of_sublist_right)))));refine vAz<|nSz<|ldz rfl (.tail (.app (.app (.app .head)))) fr_rdW<|vMz<|vMz ?_)
  rename_i b7
  refine LW.callR rfl rfl inferInstance (by (exact .cons rfl (.cons rfl (.cons rfl .nil)))) (fun w' hst=>Tell_calls y Y n1 l _ (by omega) w' (hvl.us (st_ou hst (by (apply qR;apply List.sublist_append_of_sublist_right;exact qQ _ _))) (qN _)) (hy.us (st_ou hst (by (apply qR;apply List.sublist_append_of_sublist_right;apply List.sublist_append_of_sublist_right;exact qQ _ _))))) ?_
  rw [if_pos hok]
  rintro vG gG hvG
  obtain ⟨G,LG,ok,rfl,hG,hGd⟩:=told_one hvG
  have hGn:FrNum G LG:=told_num hyn (tellR_num hyn hlm) hGd
  clear hsl
  have hsl:=hG.sl
  (refine vMz ?_;refine vEz ?_;refine vEz ?_;apply zU;rfl;intro _;apply zR;rfl;rfl;apply qA;apply fr_wrW;rfl;exact hsl;refine vAz<|nSz<|ldz rfl (.tail (.app .head)) fr_rdW ?_)
  refine LW.callR rfl rfl inferInstance (by (exact .cons rfl .nil)) (fun w' hst=>few14_calls z Y w' (hz.us (st_ou hst (by (apply qR;apply List.sublist_append_of_sublist_right;apply qR;exact qQ _ _))))) ?_
  rintro vu gu hvu
  obtain ⟨u,rfl,hu,huz⟩:=hvu.at hYY
  have huy:=hzy.trans huz
  (refine vMz<|vMz ?_)
  refine LW.callR rfl rfl inferInstance (by (exact .cons rfl (.cons rfl (.cons rfl .nil)))) (fun w' hst=>rTell_calls u Y n1 l _ hYs (huy.num hyn).gas (by omega) w' (hu.us (st_ou hst (by (exact qQ _ _)))) (hvl.us (st_ou hst (by (apply List.sublist_append_of_sublist_right;apply qR;apply List.sublist_append_of_sublist_right;apply qR;apply List.sublist_append_of_sublist_right;exact qQ _ _))) (qN _))) ?_
  rw [huy.told,huy.tell]
  rintro vW gW hvW
  obtain ⟨W,LU,ok2,rfl,hW,hWd⟩:=told_one hvW
  obtain ⟨rfl,rfl,hGW⟩:=told_like hGd hWd
  have hWn:FrNum W LU:=hGW.num hGn
  have hSm:∀ w',(∀ q∈gG,w'.heap[q.1]?=some q.2)→(∀ q∈gW,w'.heap[q.1]?=some q.2)→Calls Tryz.prog 12 #[frv G,frv W] w' (Ret w' (.bool true)):=fun w' h h3=>by
   have h:=rfSame_calls G W LU LU hGn hWn w' (hG.us h) (hW.us h3)
   rwa [decide_eq_true (LikeF.same (LikeF.refl G) hGW)] at h
  clear hsl2
  have hsl2:=hW.sl
  have hSw:∀ w',(∀ q∈g1,w'.heap[q.1]?=some q.2)→(∀ q∈gz,w'.heap[q.1]?=some q.2)→Calls Tryz.prog 12 #[frv y,frv z] w' (Ret w' (.bool true)):=fun w' h h3=>by
   have h:=rfSame_calls y z Y Y hyn hzn w' (hy.us h) (hz.us h3)
   rwa [decide_eq_true (LikeF.same (LikeF.refl y) hzy)] at h
  (refine vMz ?_;refine vEz ?_;refine vEz ?_;apply zU;rfl;intro _;apply zR;rfl;rfl;apply qA;apply fr_wrW;rfl;exact hsl2;refine vAz<|nNz<|zI<|sRz<|vMz ?_;refine lvz (.notT rfl (by with_reducible rfl)) ?_;refine nNz<|cFz<|zJ<|thenN<|zI<|sRz<|vMz<|vMz<|lvz (.boolNeF rfl rfl rfl)<|vMz<|gTz<|ldz rfl (.tail (.app (.app .head))) fr_rdW<|gTz<|ldz rfl .head fr_rdW ?_;refine gTz ?_;apply zS;rfl;rfl;infer_instance;exact .cons rfl (.cons rfl .nil);intro w _;rename_i hst;(exact hSm w (st_ou hst (by (repeat (first|exact qN _|exact qQ _ _|apply qR|apply List.sublist_append_of_sublist_right)))) (st_ou hst (by (repeat (first|exact qN _|exact qQ _ _|apply qR|apply List.sublist_append_of_sublist_right)))));refine gTz ?_;refine lvz (.notT rfl (by with_reducible rfl)) ?_;refine pFz<|nNz<|cFz<|zJ<|thenN<|sRz<|ldz rfl (.tail (.app (.app .head))) fr_rdW ?_;apply LW.v0;rfl;rfl;apply zW;infer_instance;infer_instance;exact zB;rfl;simp only [fillP,wrCells,Value.cells,qI,qJ,qK,qH,qM,qL,Nat.reduceAdd,qO];rfl)
  refine LW.callSt (K:=fun v fs'=>v=.tuple #[]∧fs'=(b7,.cells (fra z) 31 (0,0))::(g1++(gz++(gl++[(b3,.cells (fra y) 31 (0,0))])))) rfl rfl inferInstance (by (exact .cons rfl (.cons rfl .nil))) (fun w' hst=>?_) ?_
  ·refine Calls.mono (spoil_calls w [] G LU gG ((b7,.cells (fra z) 31 (0,0))::(g1++(gz++(gl++[(b3,.cells (fra y) 31 (0,0))])))) hG.toP w' (SubP.st ?_ hst)) fun x w' ⟨fs',⟨h1,h2⟩,hst⟩=>⟨_,_,h1,⟨rfl,h2⟩,hst⟩
   exact subp_ix [[_],gW,gu,[_],gG,[_],gz,gl,g1] (xs:=[4,5,8,6,7]) (ys:=[0,1,2,3,4,5,6,7,8]) [_] rfl
  rintro _ _ ⟨rfl,rfl⟩
  (refine nNz<|zI<|sRz<|ldz rfl (.tail (.app (.app (.app .head)))) fr_rdW<|ldz rfl .head fr_rdW ?_;apply zS;rfl;rfl;infer_instance;exact .cons rfl (.cons rfl .nil);intro w _;rename_i hst;(exact hSw w (st_ou hst (by (repeat (first|exact qN _|exact qQ _ _|apply qR|apply List.sublist_append_of_sublist_right)))) (st_ou hst (by (repeat (first|exact qN _|exact qQ _ _|apply qR|apply List.sublist_append_of_sublist_right)))));refine lvz (.notT rfl (by with_reducible rfl)) ?_;refine nNz<|cFz<|zJ<|thenN<|zI<|sRz<|vAz<|nNz<|zM ?_)
  refine CW.loop (fun i:Nat=>([(13,.int .i64 (i:Int)),(2,.slice ql l.length kl),(3,.pointer (some ⟨b3,0,none⟩)),(7,.pointer (some ⟨b7,0,none⟩)),(8,.bool true),(6,.bool false)],(b7,.cells (fra z) 31 (0,0))::(g1++(gz++(gl++[(b3,.cells (fra y) 31 (0,0))])))))
   (fun i=>1≤i∧i≤8∧(i≤l.length∨i=1)) (fun i=>8 - i) 1 ⟨Nat.le_refl 1,by omega,.inr rfl⟩ ⟨rfl,rfl,rfl,rfl,rfl,rfl,trivial⟩ (qN _) ?_
  rintro i ⟨h1,h8,hil⟩
  dsimp only
  rcases Nat.lt_or_ge i l.length with hlt|hge
  ·rcases Nat.lt_or_ge i 8 with hl8|hl8
   ·obtain ⟨gm,cur,cc,heq,rfl,hcur⟩:=took_pos hvl (by omega)
    cases heq
    have ha:l.getD (i - 1) 0 < M256:=getD_lt hlm (by omega)
    have hn:l.getD i 0 < M256:=getD_lt hlm hlt
    have hrdA:Rd Tryz.prog 29 (.cells cur 29 (0,0)) (0+(i - 1) * 4) (wv (l.getD (i - 1) 0)):=word_rd hcur (i - 1) (by omega)
    have hrdN:Rd Tryz.prog 29 (.cells cur 29 (0,0)) (0+i * 4) (wv (l.getD i 0)):=word_rd hcur i hlt
    obtain ⟨a,hae⟩:∃ a,l.getD (i - 1) 0=a:=⟨_,rfl⟩
    obtain ⟨n,hne⟩:∃ n,l.getD i 0=n:=⟨_,rfl⟩
    rw [hae] at ha hrdA
    rw [hne] at hn hrdN
    obtain ⟨us1,hbl1,hin1,hrows1⟩:=hy.lie
    obtain ⟨us2,hbl2,hin2,hrows2⟩:=hz.lie
    clear hsl hsl2
    (refine zI<|sRz<|vMz<|vMz<|lvz (.lenR rfl inferInstance rfl) ?_;refine lvz (.lssT rfl rfl (by omega)) ?_;refine vMz<|gTz<|vMz<|gTz ?_;refine lvz (.lssT rfl rfl (by omega)) ?_;refine pTz<|nNz<|cTz<|zJ<|thenN<|zI<|zM<|zI ?_)
    apply CW.pre
    (refine AnyW.anyM [(10,ToldR y (reachR y Y a n))] 16 mixed (by decide +kernel) ?_)
    ((try simp only [tsOf_cons,tsOf_nil,tsOf_app]);apply qD;rfl;rfl;rfl;exact zC;rfl;apply zO;apply zQ;apply zQ;apply zO;apply zP;exact zN;exact fr_rdW;refine dvz (.move rfl)<|dvz (.move rfl) ?_;refine dvz (.subZL rfl rfl (by decide) (by omega) (by omega)) ?_;refine dvz (.indexAddrS rfl rfl rfl (by omega)) ?_;apply qD;rfl;rfl;rfl;exact zC;rfl;apply zO;apply zQ;apply zQ;apply zP;exact zN;assumption;refine dvz (.move rfl)<|dvz (.move rfl) ?_;refine dvz (.indexAddrS rfl rfl rfl (by omega)) ?_;apply qD;rfl;rfl;rfl;exact zC;rfl;apply zO;apply zQ;apply zQ;apply zP;exact zN;assumption)
    refine DW.manyA us1 rfl rfl rfl (by (exact zC)) rfl inferInstance (by (exact .cons rfl (.cons rfl (.cons rfl .nil)))) (by rw [List.flatMap_cons,hbl1];exact List.append_nil _) (fun p hp=>AncT.lie (by (refine AncT.cons ?_ ?_;exact zN;refine AncT.app ?_ ?_;exact AncT.tsOf;refine AncT.app ?_ ?_;exact AncT.tsOf;refine AncT.cons ?_ ?_;exact zN;refine AncT.cons ?_ ?_;exact zN;exact AncT.nil)) (by have hp:=hin1 p hp;simp [fsOf,tsOf,tsNew,tsTag,markAll,Function.comp_def,hp])) (fun w _ hu=>by have h:=Reach_calls y Y a n ha hn w (hrows1 w hu);rwa [if_pos hok] at h) ?_
    rintro vG gG hvG
    obtain ⟨G,LG,ok,rfl,hG,hGd⟩:=told_one hvG
    have hGn:FrNum G LG:=told_num hyn (reachR_num hyn) hGd
    have hsl:=hG.sl
    (try simp only [markAll_cons,markAll_app,markAll_tsOf,markAll_tag,markAll_new,markAll_nil])
    ((try simp only [tsOf_cons,tsOf_nil,tsOf_app]);refine dvz (.move rfl) ?_;refine dvz (.extractN rfl rfl) ?_;refine dvz (.extractN rfl rfl) ?_;apply DW.allocA;rfl;rfl;rfl;exact zC;intro _;apply DW.store;rfl;rfl;exact zC;rfl;rfl;apply TSet.head;kernel_rfl;exact zN;apply fr_wrW;rfl;exact hsl;apply DW.nil;simp only [fsOf_cons,fsOf_nil,fsOf_app,fsOf_tsOf,fsOf_new,fsOf_tag,fsOf_mark])
    try simp only [fsOf_mark,fsOf_cons,fsOf_nil,fsOf_app,fsOf_tsOf,fsOf_new,fsOf_tag,List.append_eq,List.nil_append]
    (refine vAz<|nNz<|zI ?_)
    apply CW.pre
    (refine AnyW.anyM [(1,FewR z Y),(11,ToldR y (reachR y Y a n))] 17 mixed (by decide +kernel) ?_)
    ((try simp only [tsOf_cons,tsOf_nil,tsOf_app]);apply qD;rfl;rfl;rfl;exact zC;rfl;apply zO;apply zQ;apply zP;exact zN;exact fr_rdW)
    refine DW.manyA us2 rfl rfl rfl (by (exact zC)) rfl inferInstance (by (exact .cons rfl .nil)) (by rw [List.flatMap_cons,hbl2];exact List.append_nil _) (fun p hp=>AncT.lie (by (refine AncT.cons ?_ ?_;exact zN;refine AncT.app ?_ ?_;exact AncT.tsOf;refine AncT.cons ?_ ?_;exact zN;refine AncT.app ?_ ?_;exact AncT.tsOf;refine AncT.app ?_ ?_;exact AncT.tsOf;refine AncT.cons ?_ ?_;exact zN;refine AncT.cons ?_ ?_;exact zN;exact AncT.nil)) (by have hp:=hin2 p hp;simp [fsOf,tsOf,tsNew,tsTag,markAll,Function.comp_def,hp])) (fun w _ hu=>few14_calls z Y w (hrows2 w hu)) ?_
    rintro vu gu hvu
    obtain ⟨u,rfl,hu,huz⟩:=hvu.at hYY
    have huy:=hzy.trans huz
    obtain ⟨us3,hbl3,hin3,hrows3⟩:=hu.lie
    (try simp only [markAll_cons,markAll_app,markAll_tsOf,markAll_tag,markAll_new,markAll_nil])
    ((try simp only [tsOf_cons,tsOf_nil,tsOf_app]);refine dvz (.move rfl)<|dvz (.move rfl) ?_;refine dvz (.subZL rfl rfl (by decide) (by omega) (by omega)) ?_;refine dvz (.indexAddrS rfl rfl rfl (by omega)) ?_;apply qD;rfl;rfl;rfl;exact zC;rfl;apply zQ;apply zO;apply zQ;apply zO;apply zQ;apply zQ;apply zP;exact zN;assumption;refine dvz (.move rfl)<|dvz (.move rfl) ?_;refine dvz (.indexAddrS rfl rfl rfl (by omega)) ?_;apply qD;rfl;rfl;rfl;exact zC;rfl;apply zQ;apply zO;apply zQ;apply zO;apply zQ;apply zQ;apply zP;exact zN;assumption)
    refine DW.manyA us3 rfl rfl rfl (by (exact zC)) rfl inferInstance (by (exact .cons rfl (.cons rfl (.cons rfl .nil)))) (by rw [List.flatMap_cons,hbl3];exact List.append_nil _) (fun p hp=>AncT.lie (by (refine AncT.app ?_ ?_;refine AncT.new ?_;kernel_rfl;refine AncT.cons ?_ ?_;exact zN;refine AncT.app ?_ ?_;refine AncT.tag ?_;exact zN;refine AncT.cons ?_ ?_;exact zN;refine AncT.app ?_ ?_;refine AncT.tag ?_;exact zN;refine AncT.app ?_ ?_;refine AncT.tag ?_;exact zN;refine AncT.cons ?_ ?_;exact zN;refine AncT.cons ?_ ?_;exact zN;exact AncT.nil)) (by have hp:=hin3 p hp;simp [fsOf,tsOf,tsNew,tsTag,markAll,Function.comp_def,hp])) (fun w _ hu=>by have h:=rReach_calls u Y a n ha hn (huy.ok.2 hok) w (hrows3 w hu);rwa [huy.told,huy.reach] at h) ?_
    rintro vW gW hvW
    obtain ⟨W,LU,ok2,rfl,hW,hWd⟩:=told_one hvW
    obtain ⟨rfl,rfl,hGW⟩:=told_like hGd hWd
    have hWn:FrNum W LU:=hGW.num hGn
    have hsl2:=hW.sl
    have hSm:∀ w',(∀ q∈gG,w'.heap[q.1]?=some q.2)→(∀ q∈gW,w'.heap[q.1]?=some q.2)→Calls Tryz.prog 12 #[frv G,frv W] w' (Ret w' (.bool true)):=fun w' h h3=>by
     have h:=rfSame_calls G W LU LU hGn hWn w' (hG.us h) (hW.us h3)
     rwa [decide_eq_true (LikeF.same (LikeF.refl G) hGW)] at h
    obtain ⟨usG,hblG,hinG,hrowsG⟩:=hG.lie
    (try simp only [markAll_cons,markAll_app,markAll_tsOf,markAll_tag,markAll_new,markAll_nil])
    ((try simp only [tsOf_cons,tsOf_nil,tsOf_app]);refine dvz (.move rfl) ?_;refine dvz (.extractN rfl rfl) ?_;refine dvz (.extractN rfl rfl) ?_;apply DW.allocA;rfl;rfl;rfl;exact zC;intro _;apply DW.store;rfl;rfl;exact zC;rfl;rfl;apply TSet.head;kernel_rfl;exact zN;apply fr_wrW;rfl;exact hsl2;apply DW.nil;simp only [fsOf_cons,fsOf_nil,fsOf_app,fsOf_tsOf,fsOf_new,fsOf_tag,fsOf_mark])
    try simp only [fsOf_mark,fsOf_cons,fsOf_nil,fsOf_app,fsOf_tsOf,fsOf_new,fsOf_tag,List.append_eq,List.nil_append]
    (refine vAz<|nNz<|zI<|sRz<|vMz ?_;refine lvz (.notT rfl (by with_reducible rfl)) ?_;refine nNz<|cFz<|zJ<|thenN<|zI<|sRz<|vMz<|vMz<|lvz (.boolNeF rfl rfl rfl)<|vMz<|gTz<|ldz rfl (.tail (.app (.app .head))) fr_rdW<|gTz<|ldz rfl .head fr_rdW ?_;refine gTz ?_;apply zS;rfl;rfl;infer_instance;exact .cons rfl (.cons rfl .nil);intro w _;rename_i hst;(exact hSm w (st_ou hst (by (repeat (first|exact qN _|exact qQ _ _|apply qR|apply List.sublist_append_of_sublist_right)))) (st_ou hst (by (repeat (first|exact qN _|exact qQ _ _|apply qR|apply List.sublist_append_of_sublist_right)))));refine gTz ?_;refine lvz (.notT rfl (by with_reducible rfl)) ?_;refine pFz<|nNz<|cFz<|zJ<|thenN<|zI<|zI ?_)
    apply CW.pre
    (refine AnyW.anyM [(10,ToldR G (if okF G LU then reachR G LU a n else none))] 16 mixed (by decide +kernel) ?_)
    ((try simp only [tsOf_cons,tsOf_nil,tsOf_app]);apply qD;rfl;rfl;rfl;exact zC;rfl;apply zO;apply zQ;apply zQ;apply zP;exact zN;exact fr_rdW;refine dvz (.move rfl)<|dvz (.move rfl) ?_;refine dvz (.subZL rfl rfl (by decide) (by omega) (by omega)) ?_;refine dvz (.indexAddrS rfl rfl rfl (by omega)) ?_;apply qD;rfl;rfl;rfl;exact zC;rfl;apply zO;apply zQ;apply zQ;apply zO;apply zQ;apply zO;apply zQ;apply zQ;apply zP;exact zN;assumption;refine dvz (.move rfl)<|dvz (.move rfl) ?_;refine dvz (.indexAddrS rfl rfl rfl (by omega)) ?_;apply qD;rfl;rfl;rfl;exact zC;rfl;apply zO;apply zQ;apply zQ;apply zO;apply zQ;apply zO;apply zQ;apply zQ;apply zP;exact zN;assumption)
    refine DW.manyA usG rfl rfl rfl (by (exact zC)) rfl inferInstance (by (exact .cons rfl (.cons rfl (.cons rfl .nil)))) (by rw [List.flatMap_cons,hblG];exact List.append_nil _) (fun p hp=>AncT.lie (by (refine AncT.cons ?_ ?_;exact zN;refine AncT.app ?_ ?_;exact AncT.tsOf;refine AncT.app ?_ ?_;exact AncT.tsOf;refine AncT.cons ?_ ?_;exact zN;refine AncT.app ?_ ?_;exact AncT.tsOf;refine AncT.cons ?_ ?_;exact zN;refine AncT.app ?_ ?_;exact AncT.tsOf;refine AncT.app ?_ ?_;exact AncT.tsOf;refine AncT.cons ?_ ?_;exact zN;refine AncT.cons ?_ ?_;exact zN;exact AncT.nil)) (by have hp:=hinG p hp;simp [fsOf,tsOf,tsNew,tsTag,markAll,Function.comp_def,hp])) (fun w _ hu=>Reach_calls G LU a n ha hn w (hrowsG w hu)) ?_
    rintro vA gA hvA
    obtain ⟨A,LA,okA,rfl,hA,hAd⟩:=told_one hvA
    have hsl3:=hA.sl
    (try simp only [markAll_cons,markAll_app,markAll_tsOf,markAll_tag,markAll_new,markAll_nil])
    ((try simp only [tsOf_cons,tsOf_nil,tsOf_app]);refine dvz (.move rfl) ?_;refine dvz (.extractN rfl rfl) ?_;refine dvz (.extractN rfl rfl) ?_;apply DW.allocA;rfl;rfl;rfl;exact zC;intro _;apply DW.store;rfl;rfl;exact zC;rfl;rfl;apply TSet.head;kernel_rfl;exact zN;apply fr_wrW;rfl;exact hsl3;apply DW.nil;simp only [fsOf_cons,fsOf_nil,fsOf_app,fsOf_tsOf,fsOf_new,fsOf_tag,fsOf_mark])
    try simp only [fsOf_mark,fsOf_cons,fsOf_nil,fsOf_app,fsOf_tsOf,fsOf_new,fsOf_tag,List.append_eq,List.nil_append]
    (refine vAz<|nNz<|zI ?_)
    cases ok2 with
    |false =>
     (apply CW.pre;refine AnyW.any 28 mixed (by decide +kernel) ?_;(try simp only [tsOf_cons,tsOf_nil,tsOf_app]);refine dvz (.move rfl)<|dvz (.move rfl) ?_;(iterate 3 refine dSz ?_);apply DW.skipU;rfl;rfl;rfl;rfl;apply DW.skipU;rfl;rfl;rfl;rfl;apply DW.skipU;rfl;rfl;rfl;rfl;apply DW.skipU;rfl;rfl;rfl;rfl;apply DW.skipU;rfl;rfl;rfl;rfl;refine dSz<|dSz ?_;apply DW.skipU;rfl;rfl;rfl;rfl;apply DW.skipU;rfl;rfl;rfl;rfl;apply DW.skipU;rfl;rfl;rfl;rfl;apply DW.skipU;rfl;rfl;rfl;rfl;apply DW.skipU;rfl;rfl;rfl;rfl;apply DW.skipU;rfl;rfl;rfl;rfl;apply DW.skipU;rfl;rfl;rfl;rfl;apply DW.skipU;rfl;rfl;rfl;rfl;apply DW.skipU;rfl;rfl;rfl;rfl;apply DW.skipU;rfl;rfl;rfl;rfl;apply DW.skipU;rfl;rfl;rfl;rfl;apply DW.skipU;rfl;rfl;rfl;rfl;apply DW.skipU;rfl;rfl;rfl;rfl;apply DW.skipU;rfl;rfl;rfl;rfl;apply DW.skipU;rfl;rfl;rfl;rfl;apply DW.skipU;rfl;rfl;rfl;rfl;apply DW.nil;simp only [fsOf_cons,fsOf_nil,fsOf_app,fsOf_tsOf,fsOf_new,fsOf_tag,fsOf_mark];refine gUz<|gFz<|pFz<|nNz<|cFz<|zJ<|thenN<|sRz<|ldz rfl (.tail (.app (.tail (.app (.app .head))))) fr_rdW ?_;apply LW.v0;rfl;rfl;apply zW;infer_instance;infer_instance;exact zB;rfl;simp only [fillP,wrCells,Value.cells,qI,qJ,qK,qH,qM,qL,Nat.reduceAdd,qO];rfl)
     refine LW.callSt (K:=fun v fs'=>v=.tuple #[]∧fs'=(b7,.cells (fra z) 31 (0,0))::(g1++(gz++([(gm,.cells cur 29 (0,0)),(b3,.cells (fra y) 31 (0,0))])))) rfl rfl inferInstance (by (exact .cons rfl (.cons rfl .nil))) (fun w' hst=>?_) ?_
     ·refine Calls.mono (spoil_calls w [] G LU gG ((b7,.cells (fra z) 31 (0,0))::(g1++(gz++([(gm,.cells cur 29 (0,0)),(b3,.cells (fra y) 31 (0,0))])))) hG.toP w' (SubP.st ?_ hst)) fun x w' ⟨fs',⟨h1,h2⟩,hst⟩=>⟨_,_,h1,⟨rfl,h2⟩,hst⟩
      exact subp_ix [[_],gA,[_],gW,gu,[_],gG,[_],g1,gz] (xs:=[6,7,8,9]) (ys:=[0,1,2,3,4,5,6,7,8,9]) [_,_] rfl
     rintro _ _ ⟨rfl,rfl⟩
     (refine nSz<|ldz rfl (.tail (.app (.app (.tail .head)))) fr_rdW<|ldz rfl .head fr_rdW ?_;apply zS;rfl;rfl;infer_instance;exact .cons rfl (.cons rfl .nil);intro w _;rename_i hst;(exact hSw w (st_ou hst (by (repeat (first|exact qN _|exact qQ _ _|apply qR|apply List.sublist_append_of_sublist_right)))) (st_ou hst (by (repeat (first|exact qN _|exact qQ _ _|apply qR|apply List.sublist_append_of_sublist_right)))));refine lvz (.notT rfl (by with_reducible rfl)) ?_;refine nNz<|cFz<|zJ<|blkN<|thenN<|zL<|vMz ?_;refine lvz (.addZL rfl rfl (by decide) (by omega)) ?_;refine vAz ?_;apply zV)
     apply thenX
     exact ⟨rfl,i+1,⟨by omega,by omega,.inl (by omega)⟩,by show 8 - (i+1) < 8 - i;omega,⟨rfl,rfl,rfl,rfl,rfl,rfl,trivial⟩,qN _⟩
    |true =>
     obtain ⟨rfl,hA2,hA3,hA4,hA5⟩:=told_again hok hGd hAd
     obtain ⟨qY,kY,hym⟩:=hy.memv
     obtain ⟨qG,kG,hgm⟩:=hG.memv
     have hrdYm:∀ {E fr},Rd Tryz.prog 22 (.cells (fra y) E fr) 3 (.slice qY Y.ms.length kY):=fun {E fr}=>by rw [← hym];exact fr_rd3
     have hrdGm:∀ {E fr},Rd Tryz.prog 22 (.cells (fra G) E fr) 3 (.slice qG LU.ms.length kG):=fun {E fr}=>by rw [← hgm];exact fr_rd3
     have hY3:Y.ms.length≤100000:=hYs.2.2.1
     have hMem:∀ w,Calls Tryz.prog 32 #[.int .u64 (Y.ms.length:Int),.int .u64 (LU.ms.length:Int)] w (Ret w (.int .u64 ((memV Y.ms.length LU.ms.length:Nat):Int))):=rMemory_calls Y.ms.length LU.ms.length (by omega) (by omega)
     obtain ⟨MV,hMV⟩:∃ MV,memV Y.ms.length LU.ms.length=MV:=⟨_,rfl⟩
     rw [hMV] at hMem hA4
     have hyg:y.gas < 18446744073709551616:=hyn.gas
     (apply CW.pre;refine AnyW.any 28 mixed (by decide +kernel) ?_;(try simp only [tsOf_cons,tsOf_nil,tsOf_app]);refine dvz (.move rfl)<|dvz (.move rfl)<|dwz (.move rfl) ?_;refine dwz (.notT rfl (by with_reducible rfl)) ?_;refine dwz (.move rfl)<|dwz (.fieldAddr rfl rfl) ?_;apply qD;rfl;rfl;rfl;apply wantYes;rfl;rfl;(with_reducible rfl);rfl;apply zP;exact zN;exact fr_rd4;refine dwz (.fieldAddr rfl rfl) ?_;apply qD;rfl;rfl;rfl;apply wantYes;rfl;rfl;(with_reducible rfl);rfl;apply zO;apply zQ;apply zO;apply zQ;apply zQ;apply zP;exact zN;exact fr_rd4;refine dwz (.neF rfl rfl (by omega)) ?_;refine dwz (.pickF' rfl (by with_reducible rfl) rfl) ?_;refine dwz (.move rfl)<|dwz (.fieldAddr rfl rfl) ?_;apply qD;rfl;rfl;rfl;apply wantYes;rfl;rfl;(with_reducible rfl);rfl;apply zO;apply zQ;apply zO;apply zQ;apply zQ;apply zO;apply zQ;apply zO;apply zQ;apply zQ;apply zO;apply zP;exact zN;exact fr_rd4;refine dwz (.fieldAddr rfl rfl) ?_;apply qD;rfl;rfl;rfl;apply wantYes;rfl;rfl;(with_reducible rfl);rfl;apply zO;apply zQ;apply zO;apply zQ;apply zQ;apply zP;exact zN;exact fr_rd4;refine dwz (.subN rfl rfl (by omega) (by omega)) ?_;refine dwz (.fieldAddr rfl rfl)<|dwz (.fieldAddr rfl rfl) ?_;apply qD;rfl;rfl;rfl;apply wantYes;rfl;rfl;(with_reducible rfl);rfl;apply zO;apply zQ;apply zO;apply zQ;apply zQ;apply zO;apply zQ;apply zO;apply zQ;apply zQ;apply zO;apply zP;exact zN;exact hrdYm;refine dwz (.lenR rfl inferInstance rfl) ?_;refine dwz (.convN rfl (by omega) (by omega)) ?_;refine dwz (.fieldAddr rfl rfl)<|dwz (.fieldAddr rfl rfl) ?_;apply qD;rfl;rfl;rfl;apply wantYes;rfl;rfl;(with_reducible rfl);rfl;apply zO;apply zQ;apply zO;apply zQ;apply zQ;apply zP;exact zN;exact hrdGm;refine dwz (.lenR rfl inferInstance rfl) ?_;refine dwz (.convN rfl (by omega) (by omega)) ?_;apply DW.callE;rfl;rfl;rfl;apply wantYes;rfl;rfl;(with_reducible rfl);rfl;infer_instance;exact .cons rfl (.cons rfl .nil);rfl;exact ReadAll.nil;intro w _ _;exact hMem w;apply DW.nil;simp only [fsOf_cons,fsOf_nil,fsOf_app,fsOf_tsOf,fsOf_new,fsOf_tag,fsOf_mark];refine gTz ?_;refine lvz (.neF rfl rfl (by omega)) ?_;refine gTz<|pFz<|pTz<|nNz<|cFz<|zJ<|thenN<|sRz<|ldz rfl (.tail (.app (.tail (.app (.app .head))))) fr_rdW ?_;apply LW.v0;rfl;rfl;apply zW;infer_instance;infer_instance;exact zB;rfl;simp only [fillP,wrCells,Value.cells,qI,qJ,qK,qH,qM,qL,Nat.reduceAdd,qO];rfl)
     refine LW.callSt (K:=fun v fs'=>v=.tuple #[]∧fs'=(b7,.cells (fra z) 31 (0,0))::(g1++(gz++([(gm,.cells cur 29 (0,0)),(b3,.cells (fra y) 31 (0,0))])))) rfl rfl inferInstance (by (exact .cons rfl (.cons rfl .nil))) (fun w' hst=>?_) ?_
     ·refine Calls.mono (spoil_calls w [] G LU gG ((b7,.cells (fra z) 31 (0,0))::(g1++(gz++([(gm,.cells cur 29 (0,0)),(b3,.cells (fra y) 31 (0,0))])))) hG.toP w' (SubP.st ?_ hst)) fun x w' ⟨fs',⟨h1,h2⟩,hst⟩=>⟨_,_,h1,⟨rfl,h2⟩,hst⟩
      exact subp_ix [[_],gA,[_],gW,gu,[_],gG,[_],g1,gz] (xs:=[6,7,8,9]) (ys:=[0,1,2,3,4,5,6,7,8,9]) [_,_] rfl
     rintro _ _ ⟨rfl,rfl⟩
     (refine nSz<|ldz rfl (.tail (.app (.app (.tail .head)))) fr_rdW<|ldz rfl .head fr_rdW ?_;apply zS;rfl;rfl;infer_instance;exact .cons rfl (.cons rfl .nil);intro w _;rename_i hst;(exact hSw w (st_ou hst (by (repeat (first|exact qN _|exact qQ _ _|apply qR|apply List.sublist_append_of_sublist_right)))) (st_ou hst (by (repeat (first|exact qN _|exact qQ _ _|apply qR|apply List.sublist_append_of_sublist_right)))));refine lvz (.notT rfl (by with_reducible rfl)) ?_;refine nNz<|cFz<|zJ<|blkN<|thenN<|zL<|vMz ?_;refine lvz (.addZL rfl rfl (by decide) (by omega)) ?_;refine vAz ?_;apply zV)
     apply thenX
     exact ⟨rfl,i+1,⟨by omega,by omega,.inl (by omega)⟩,by show 8 - (i+1) < 8 - i;omega,⟨rfl,rfl,rfl,rfl,rfl,rfl,trivial⟩,qN _⟩
   ·obtain rfl:i=8:=by omega
    (refine zI<|sRz<|vMz<|vMz<|lvz (.lenR rfl inferInstance rfl) ?_;refine lvz (.lssT rfl rfl (by omega)) ?_;refine vMz<|gTz<|vMz<|gTz ?_;refine lvz (.lssF rfl rfl (by omega)) ?_;refine pTz<|nNz<|cFz<|CW.exit<|thenE<|thenE<|blkE rfl<|thenN<|sRz<|vAz<|nNz<|zK ?_)
    (apply finR;exact .inl rfl;rfl;rfl;rfl;apply zD;exact zG rfl;exact zF)
    rfl
  ·(refine zI<|sRz<|vMz<|vMz<|lvz (.lenR rfl inferInstance rfl) ?_;refine lvz (.lssF rfl rfl (by omega)) ?_;refine vMz<|gFz<|gFz<|pFz<|nNz<|cFz<|CW.exit<|thenE<|thenE<|blkE rfl<|thenN<|sRz<|vAz<|nNz ?_;refine zK ?_)
   (apply finR;exact .inl rfl;rfl;rfl;rfl;apply zD;exact zG rfl;exact zF)
   rfl
 ·have hRt:=hRt0
  rw [decide_eq_false hok] at hRt
  (apply zU;rfl;intro _;apply zR;rfl;rfl;apply qA;apply fr_wrW;rfl;exact hsl2;refine nSz<|ldz rfl .head fr_rdW ?_;apply zS;rfl;rfl;infer_instance;exact .cons rfl .nil;intro w _;rename_i hst;(exact hRt w (st_ou hst (by (repeat (first|exact qN _|exact qQ _ _|apply qR|apply List.sublist_append_of_sublist_right)))));refine vAz<|nSz<|ldz rfl (.tail (.app (.app (.app .head)))) fr_rdW<|vMz<|vMz ?_)
  rename_i b7
  refine LW.callR rfl rfl inferInstance (by (exact .cons rfl (.cons rfl (.cons rfl .nil)))) (fun w' hst=>Tell_calls y Y n1 l _ (by omega) w' (hvl.us (st_ou hst (by (apply qR;apply List.sublist_append_of_sublist_right;exact qQ _ _))) (qN _)) (hy.us (st_ou hst (by (apply qR;apply List.sublist_append_of_sublist_right;apply List.sublist_append_of_sublist_right;exact qQ _ _))))) ?_
  rw [if_neg hok]
  rintro vG gG hvG
  obtain ⟨G,LU,ok,rfl,hG,hGd⟩:=told_one hvG
  have hGn:FrNum G LU:=told_num hyn (fun g L' h=>by cases h) hGd
  obtain ⟨rfl,hG0,hL0⟩:=told_none hGd
  clear hsl
  have hsl:=hG.sl
  (refine vMz ?_;refine vEz ?_;refine vEz ?_;apply zU;rfl;intro _;apply zR;rfl;rfl;apply qA;apply fr_wrW;rfl;exact hsl;refine vAz<|nSz<|ldz rfl (.tail (.app .head)) fr_rdW ?_)
  refine LW.callR rfl rfl inferInstance (by (exact .cons rfl .nil)) (fun w' hst=>few14_calls z Y w' (hz.us (st_ou hst (by (apply qR;apply List.sublist_append_of_sublist_right;apply qR;exact qQ _ _))))) ?_
  rintro vu gu hvu
  obtain ⟨u,rfl,hu,huz⟩:=hvu.at hYY
  have huy:=hzy.trans huz
  (refine vMz<|vMz ?_)
  refine LW.callR rfl rfl inferInstance (by (exact .cons rfl (.cons rfl (.cons rfl .nil)))) (fun w' hst=>rTell_calls u Y n1 l _ hYs (huy.num hyn).gas (by omega) w' (hu.us (st_ou hst (by (exact qQ _ _)))) (hvl.us (st_ou hst (by (apply List.sublist_append_of_sublist_right;apply qR;apply List.sublist_append_of_sublist_right;apply qR;apply List.sublist_append_of_sublist_right;exact qQ _ _))) (qN _))) ?_
  rintro vW gW hvW
  obtain ⟨W,LT,ok2,rfl,hW,hWd⟩:=told_one hvW
  clear hsl2
  have hsl2:=hW.sl
  have hzs:=zero_sl
  have hSm:∀ w',(∀ q∈gG,w'.heap[q.1]?=some q.2)→(∀ q∈([]:Fs),w'.heap[q.1]?=some q.2)→Calls Tryz.prog 12 #[frv G,frv zeroF] w' (Ret w' (.bool true)):=fun w' h h3=>by
   have h:=rfSame_calls G zeroF LU zeroL hGn zeroF_num w' (hG.us h) (zero_frO.us h3)
   rwa [decide_eq_true (by rw [hG0,hL0];exact LikeF.same (LikeF.refl zeroF) (LikeF.refl zeroF))] at h
  have hSw:∀ w',(∀ q∈g1,w'.heap[q.1]?=some q.2)→(∀ q∈gz,w'.heap[q.1]?=some q.2)→Calls Tryz.prog 12 #[frv y,frv z] w' (Ret w' (.bool true)):=fun w' h h3=>by
   have h:=rfSame_calls y z Y Y hyn hzn w' (hy.us h) (hz.us h3)
   rwa [decide_eq_true (LikeF.same (LikeF.refl y) hzy)] at h
  (refine vMz ?_;refine vEz ?_;refine vEz ?_;apply zU;rfl;intro _;apply zR;rfl;rfl;apply qA;apply fr_wrW;rfl;exact hsl2;refine vAz<|nNz<|zI<|sRz<|vMz ?_;refine lvz (.notF rfl (by with_reducible rfl)) ?_;refine nNz<|cTz<|zL ?_;apply LW.v0;rfl;rfl;apply zW;infer_instance;infer_instance;exact zB;rfl;simp only [fillP,wrCells,Value.cells,qI,qJ,qK,qH,qM,qL,Nat.reduceAdd,qO];rfl;refine zR rfl rfl .head (.whole rfl rfl rfl)<|vAz<|nNz<|zI<|sRz<|vMz<|vMz<|lvz (.boolNeF rfl rfl rfl)<|vMz<|gTz<|ldz rfl (.tail (.app (.app .head))) fr_rdW<|gTz<|ldz rfl .head (qF rfl)<|gTz ?_;apply zS;rfl;rfl;infer_instance;exact .cons rfl (.cons rfl .nil);intro w _;rename_i hst;(exact hSm w (st_ou hst (by (repeat (first|exact qN _|exact qQ _ _|apply qR|apply List.sublist_append_of_sublist_right)))) (st_ou hst (by (repeat (first|exact qN _|exact qQ _ _|apply qR|apply List.sublist_append_of_sublist_right)))));refine gTz ?_;refine lvz (.notT rfl (by with_reducible rfl)) ?_;refine pFz<|nNz<|cFz<|zJ<|thenN<|sRz<|ldz rfl (.tail (.app (.app .head))) fr_rdW ?_;apply LW.v0;rfl;rfl;apply zW;infer_instance;infer_instance;exact zB;rfl;simp only [fillP,wrCells,Value.cells,qI,qJ,qK,qH,qM,qL,Nat.reduceAdd,qO];rfl)
  refine LW.callSt (K:=fun v fs'=>v=.tuple #[]∧fs'=(b7,.cells (fra z) 31 (0,0))::(g1++(gz++(gl++[(b3,.cells (fra y) 31 (0,0))])))) rfl rfl inferInstance (by (exact .cons rfl (.cons rfl .nil))) (fun w' hst=>?_) ?_
  ·refine Calls.mono (spoil_calls w [] G LU gG ((b7,.cells (fra z) 31 (0,0))::(g1++(gz++(gl++[(b3,.cells (fra y) 31 (0,0))])))) hG.toP w' (SubP.st ?_ hst)) fun x w' ⟨fs',⟨h1,h2⟩,hst⟩=>⟨_,_,h1,⟨rfl,h2⟩,hst⟩
   exact subp_ix [[_],gW,gu,[_],gG,[_],gz,gl,g1] (xs:=[4,5,8,6,7]) (ys:=[0,1,2,3,4,5,6,7,8]) [_] rfl
  rintro _ _ ⟨rfl,rfl⟩
  (refine nNz<|zI<|sRz<|ldz rfl (.tail (.app (.app (.app .head)))) fr_rdW<|ldz rfl .head fr_rdW ?_;apply zS;rfl;rfl;infer_instance;exact .cons rfl (.cons rfl .nil);intro w _;rename_i hst;(exact hSw w (st_ou hst (by (repeat (first|exact qN _|exact qQ _ _|apply qR|apply List.sublist_append_of_sublist_right)))) (st_ou hst (by (repeat (first|exact qN _|exact qQ _ _|apply qR|apply List.sublist_append_of_sublist_right)))));refine lvz (.notT rfl (by with_reducible rfl)) ?_;refine nNz<|cFz<|zJ<|thenN<|zI<|sRz<|vAz<|nNz<|zM ?_)
  refine CW.loop (fun i:Nat=>([(13,.int .i64 (i:Int)),(2,.slice ql l.length kl),(3,.pointer (some ⟨b3,0,none⟩)),(7,.pointer (some ⟨b7,0,none⟩)),(8,.bool false),(6,.bool false)],(b7,.cells (fra z) 31 (0,0))::(g1++(gz++(gl++[(b3,.cells (fra y) 31 (0,0))])))))
   (fun i=>1≤i∧i≤8∧(i≤l.length∨i=1)) (fun i=>8 - i) 1 ⟨Nat.le_refl 1,by omega,.inr rfl⟩ ⟨rfl,rfl,rfl,rfl,rfl,rfl,trivial⟩ (qN _) ?_
  rintro i ⟨h1,h8,hil⟩
  dsimp only
  rcases Nat.lt_or_ge i l.length with hlt|hge
  ·rcases Nat.lt_or_ge i 8 with hl8|hl8
   ·obtain ⟨gm,cur,cc,heq,rfl,hcur⟩:=took_pos hvl (by omega)
    cases heq
    have ha:l.getD (i - 1) 0 < M256:=getD_lt hlm (by omega)
    have hn:l.getD i 0 < M256:=getD_lt hlm hlt
    have hrdA:Rd Tryz.prog 29 (.cells cur 29 (0,0)) (0+(i - 1) * 4) (wv (l.getD (i - 1) 0)):=word_rd hcur (i - 1) (by omega)
    have hrdN:Rd Tryz.prog 29 (.cells cur 29 (0,0)) (0+i * 4) (wv (l.getD i 0)):=word_rd hcur i hlt
    obtain ⟨a,hae⟩:∃ a,l.getD (i - 1) 0=a:=⟨_,rfl⟩
    obtain ⟨n,hne⟩:∃ n,l.getD i 0=n:=⟨_,rfl⟩
    rw [hae] at ha hrdA
    rw [hne] at hn hrdN
    obtain ⟨us1,hbl1,hin1,hrows1⟩:=hy.lie
    obtain ⟨us2,hbl2,hin2,hrows2⟩:=hz.lie
    clear hsl hsl2
    (refine zI<|sRz<|vMz<|vMz<|lvz (.lenR rfl inferInstance rfl) ?_;refine lvz (.lssT rfl rfl (by omega)) ?_;refine vMz<|gTz<|vMz<|gTz ?_;refine lvz (.lssT rfl rfl (by omega)) ?_;refine pTz<|nNz<|cTz<|zJ<|thenN<|zI<|zM<|zI ?_)
    apply CW.pre
    (refine AnyW.anyM [(10,ToldR y none)] 16 mixed (by decide +kernel) ?_)
    ((try simp only [tsOf_cons,tsOf_nil,tsOf_app]);apply qD;rfl;rfl;rfl;exact zC;rfl;apply zO;apply zQ;apply zQ;apply zO;apply zP;exact zN;exact fr_rdW;refine dvz (.move rfl)<|dvz (.move rfl) ?_;refine dvz (.subZL rfl rfl (by decide) (by omega) (by omega)) ?_;refine dvz (.indexAddrS rfl rfl rfl (by omega)) ?_;apply qD;rfl;rfl;rfl;exact zC;rfl;apply zO;apply zQ;apply zQ;apply zP;exact zN;assumption;refine dvz (.move rfl)<|dvz (.move rfl) ?_;refine dvz (.indexAddrS rfl rfl rfl (by omega)) ?_;apply qD;rfl;rfl;rfl;exact zC;rfl;apply zO;apply zQ;apply zQ;apply zP;exact zN;assumption)
    refine DW.manyA us1 rfl rfl rfl (by (exact zC)) rfl inferInstance (by (exact .cons rfl (.cons rfl (.cons rfl .nil)))) (by rw [List.flatMap_cons,hbl1];exact List.append_nil _) (fun p hp=>AncT.lie (by (refine AncT.cons ?_ ?_;exact zN;refine AncT.app ?_ ?_;exact AncT.tsOf;refine AncT.app ?_ ?_;exact AncT.tsOf;refine AncT.cons ?_ ?_;exact zN;refine AncT.cons ?_ ?_;exact zN;exact AncT.nil)) (by have hp:=hin1 p hp;simp [fsOf,tsOf,tsNew,tsTag,markAll,Function.comp_def,hp])) (fun w _ hu=>by have h:=Reach_calls y Y a n ha hn w (hrows1 w hu);rwa [if_neg hok] at h) ?_
    rintro vG gG hvG
    obtain ⟨G,LG,ok,rfl,hG,hGd⟩:=told_one (x:=y) (R:=none) hvG
    have hGn:FrNum G LG:=told_num hyn (fun g L' h=>by cases h) hGd
    have hsl:=hG.sl
    (try simp only [markAll_cons,markAll_app,markAll_tsOf,markAll_tag,markAll_new,markAll_nil])
    ((try simp only [tsOf_cons,tsOf_nil,tsOf_app]);refine dvz (.move rfl) ?_;refine dvz (.extractN rfl rfl) ?_;refine dvz (.extractN rfl rfl) ?_;apply DW.allocA;rfl;rfl;rfl;exact zC;intro _;apply DW.store;rfl;rfl;exact zC;rfl;rfl;apply TSet.head;kernel_rfl;exact zN;apply fr_wrW;rfl;exact hsl;apply DW.nil;simp only [fsOf_cons,fsOf_nil,fsOf_app,fsOf_tsOf,fsOf_new,fsOf_tag,fsOf_mark])
    try simp only [fsOf_mark,fsOf_cons,fsOf_nil,fsOf_app,fsOf_tsOf,fsOf_new,fsOf_tag,List.append_eq,List.nil_append]
    (refine vAz<|nNz<|zI ?_)
    apply CW.pre
    (refine AnyW.anyM [(1,FewR z Y),(11,ShapeFr)] 17 mixed (by decide +kernel) ?_)
    ((try simp only [tsOf_cons,tsOf_nil,tsOf_app]);apply qD;rfl;rfl;rfl;exact zC;rfl;apply zO;apply zQ;apply zP;exact zN;exact fr_rdW)
    refine DW.manyA us2 rfl rfl rfl (by (exact zC)) rfl inferInstance (by (exact .cons rfl .nil)) (by rw [List.flatMap_cons,hbl2];exact List.append_nil _) (fun p hp=>AncT.lie (by (refine AncT.cons ?_ ?_;exact zN;refine AncT.app ?_ ?_;exact AncT.tsOf;refine AncT.cons ?_ ?_;exact zN;refine AncT.app ?_ ?_;exact AncT.tsOf;refine AncT.app ?_ ?_;exact AncT.tsOf;refine AncT.cons ?_ ?_;exact zN;refine AncT.cons ?_ ?_;exact zN;exact AncT.nil)) (by have hp:=hin2 p hp;simp [fsOf,tsOf,tsNew,tsTag,markAll,Function.comp_def,hp])) (fun w _ hu=>few14_calls z Y w (hrows2 w hu)) ?_
    rintro vu gu hvu
    obtain ⟨u,rfl,hu,huz⟩:=hvu.at hYY
    have huy:=hzy.trans huz
    obtain ⟨us3,hbl3,hin3,hrows3⟩:=hu.lie
    (try simp only [markAll_cons,markAll_app,markAll_tsOf,markAll_tag,markAll_new,markAll_nil])
    ((try simp only [tsOf_cons,tsOf_nil,tsOf_app]);refine dvz (.move rfl)<|dvz (.move rfl) ?_;refine dvz (.subZL rfl rfl (by decide) (by omega) (by omega)) ?_;refine dvz (.indexAddrS rfl rfl rfl (by omega)) ?_;apply qD;rfl;rfl;rfl;exact zC;rfl;apply zQ;apply zO;apply zQ;apply zO;apply zQ;apply zQ;apply zP;exact zN;assumption;refine dvz (.move rfl)<|dvz (.move rfl) ?_;refine dvz (.indexAddrS rfl rfl rfl (by omega)) ?_;apply qD;rfl;rfl;rfl;exact zC;rfl;apply zQ;apply zO;apply zQ;apply zO;apply zQ;apply zQ;apply zP;exact zN;assumption)
    refine DW.manyA us3 rfl rfl rfl (by (exact zC)) rfl inferInstance (by (exact .cons rfl (.cons rfl (.cons rfl .nil)))) (by rw [List.flatMap_cons,hbl3];exact List.append_nil _) (fun p hp=>AncT.lie (by (refine AncT.app ?_ ?_;refine AncT.new ?_;kernel_rfl;refine AncT.cons ?_ ?_;exact zN;refine AncT.app ?_ ?_;refine AncT.tag ?_;exact zN;refine AncT.cons ?_ ?_;exact zN;refine AncT.app ?_ ?_;refine AncT.tag ?_;exact zN;refine AncT.app ?_ ?_;refine AncT.tag ?_;exact zN;refine AncT.cons ?_ ?_;exact zN;refine AncT.cons ?_ ?_;exact zN;exact AncT.nil)) (by have hp:=hin3 p hp;simp [fsOf,tsOf,tsNew,tsTag,markAll,Function.comp_def,hp])) (fun w _ hu=>rReach_any u Y a n ha hn hYs (huy.num hyn).gas w (hrows3 w hu)) ?_
    rintro vW gW hvW
    obtain ⟨W,tW,rfl,hsl2,hgW⟩:=hvW
    obtain ⟨rfl,hG0,hL0⟩:=told_none hGd
    obtain ⟨LU,hLU⟩:∃ LU,LG=LU:=⟨_,rfl⟩
    rw [hLU] at hG hGd hGn hL0
    have hzs:=zero_sl
    have hSm:∀ w',(∀ q∈gG,w'.heap[q.1]?=some q.2)→(∀ q∈([]:Fs),w'.heap[q.1]?=some q.2)→Calls Tryz.prog 12 #[frv G,frv zeroF] w' (Ret w' (.bool true)):=fun w' h h3=>by
     have h:=rfSame_calls G zeroF LU zeroL hGn zeroF_num w' (hG.us h) (zero_frO.us h3)
     rwa [decide_eq_true (by rw [hG0,hL0];exact LikeF.same (LikeF.refl zeroF) (LikeF.refl zeroF))] at h
    obtain ⟨usG,hblG,hinG,hrowsG⟩:=hG.lie
    (try simp only [markAll_cons,markAll_app,markAll_tsOf,markAll_tag,markAll_new,markAll_nil])
    ((try simp only [tsOf_cons,tsOf_nil,tsOf_app]);refine dvz (.move rfl) ?_;refine dvz (.extractN rfl rfl) ?_;refine dvz (.extractN rfl rfl) ?_;apply DW.allocA;rfl;rfl;rfl;exact zC;intro _;apply DW.store;rfl;rfl;exact zC;rfl;rfl;apply TSet.head;kernel_rfl;exact zN;apply fr_wrW;rfl;exact hsl2;apply DW.nil;simp only [fsOf_cons,fsOf_nil,fsOf_app,fsOf_tsOf,fsOf_new,fsOf_tag,fsOf_mark])
    try simp only [fsOf_mark,fsOf_cons,fsOf_nil,fsOf_app,fsOf_tsOf,fsOf_new,fsOf_tag,List.append_eq,List.nil_append]
    (refine vAz<|nNz<|zI<|sRz<|vMz ?_;refine lvz (.notF rfl (by with_reducible rfl)) ?_;refine nNz<|cTz<|zL ?_;apply LW.v0;rfl;rfl;apply zW;infer_instance;infer_instance;exact zB;rfl;simp only [fillP,wrCells,Value.cells,qI,qJ,qK,qH,qM,qL,Nat.reduceAdd,qO];rfl;refine zR rfl rfl .head (.whole rfl rfl rfl)<|vAz<|nNz<|zI<|sRz<|vMz<|vMz<|lvz (.boolNeF rfl rfl rfl)<|vMz<|gTz<|ldz rfl (.tail (.app (.app .head))) fr_rdW<|gTz<|ldz rfl .head (qF rfl)<|gTz ?_;apply zS;rfl;rfl;infer_instance;exact .cons rfl (.cons rfl .nil);intro w _;rename_i hst;(exact hSm w (st_ou hst (by (repeat (first|exact qN _|exact qQ _ _|apply qR|apply List.sublist_append_of_sublist_right)))) (st_ou hst (by (repeat (first|exact qN _|exact qQ _ _|apply qR|apply List.sublist_append_of_sublist_right)))));refine gTz ?_;refine lvz (.notT rfl (by with_reducible rfl)) ?_;refine pFz<|nNz<|cFz<|zJ<|thenN<|zI<|zI ?_)
    apply CW.pre
    (refine AnyW.anyM [(10,ToldR G (if okF G LU then reachR G LU a n else none))] 16 mixed (by decide +kernel) ?_)
    ((try simp only [tsOf_cons,tsOf_nil,tsOf_app]);apply qD;rfl;rfl;rfl;exact zC;rfl;apply zO;apply zQ;apply zQ;apply zP;exact zN;exact fr_rdW;refine dvz (.move rfl)<|dvz (.move rfl) ?_;refine dvz (.subZL rfl rfl (by decide) (by omega) (by omega)) ?_;refine dvz (.indexAddrS rfl rfl rfl (by omega)) ?_;apply qD;rfl;rfl;rfl;exact zC;rfl;apply zO;apply zQ;apply zQ;apply zO;apply zQ;apply zO;apply zQ;apply zQ;apply zP;exact zN;assumption;refine dvz (.move rfl)<|dvz (.move rfl) ?_;refine dvz (.indexAddrS rfl rfl rfl (by omega)) ?_;apply qD;rfl;rfl;rfl;exact zC;rfl;apply zO;apply zQ;apply zQ;apply zO;apply zQ;apply zO;apply zQ;apply zQ;apply zP;exact zN;assumption)
    refine DW.manyA usG rfl rfl rfl (by (exact zC)) rfl inferInstance (by (exact .cons rfl (.cons rfl (.cons rfl .nil)))) (by rw [List.flatMap_cons,hblG];exact List.append_nil _) (fun p hp=>AncT.lie (by (refine AncT.cons ?_ ?_;exact zN;refine AncT.app ?_ ?_;exact AncT.tsOf;refine AncT.app ?_ ?_;exact AncT.tsOf;refine AncT.cons ?_ ?_;exact zN;refine AncT.app ?_ ?_;exact AncT.tsOf;refine AncT.cons ?_ ?_;exact zN;refine AncT.app ?_ ?_;exact AncT.tsOf;refine AncT.app ?_ ?_;exact AncT.tsOf;refine AncT.cons ?_ ?_;exact zN;refine AncT.cons ?_ ?_;exact zN;exact AncT.nil)) (by have hp:=hinG p hp;simp [fsOf,tsOf,tsNew,tsTag,markAll,Function.comp_def,hp])) (fun w _ hu=>Reach_calls G LU a n ha hn w (hrowsG w hu)) ?_
    rintro vA gA hvA
    obtain ⟨A,LA,okA,rfl,hA,hAd⟩:=told_one hvA
    have hsl3:=hA.sl
    (try simp only [markAll_cons,markAll_app,markAll_tsOf,markAll_tag,markAll_new,markAll_nil])
    ((try simp only [tsOf_cons,tsOf_nil,tsOf_app]);refine dvz (.move rfl) ?_;refine dvz (.extractN rfl rfl) ?_;refine dvz (.extractN rfl rfl) ?_;apply DW.allocA;rfl;rfl;rfl;exact zC;intro _;apply DW.store;rfl;rfl;exact zC;rfl;rfl;apply TSet.head;kernel_rfl;exact zN;apply fr_wrW;rfl;exact hsl3;apply DW.nil;simp only [fsOf_cons,fsOf_nil,fsOf_app,fsOf_tsOf,fsOf_new,fsOf_tag,fsOf_mark])
    try simp only [fsOf_mark,fsOf_cons,fsOf_nil,fsOf_app,fsOf_tsOf,fsOf_new,fsOf_tag,List.append_eq,List.nil_append]
    (refine vAz<|nNz<|zI ?_)
    (apply CW.pre;refine AnyW.any 28 mixed (by decide +kernel) ?_;(try simp only [tsOf_cons,tsOf_nil,tsOf_app]);refine dvz (.move rfl)<|dvz (.move rfl) ?_;(iterate 3 refine dSz ?_);apply DW.skipU;rfl;rfl;rfl;rfl;apply DW.skipU;rfl;rfl;rfl;rfl;apply DW.skipU;rfl;rfl;rfl;rfl;apply DW.skipU;rfl;rfl;rfl;rfl;apply DW.skipU;rfl;rfl;rfl;rfl;refine dSz<|dSz ?_;apply DW.skipU;rfl;rfl;rfl;rfl;apply DW.skipU;rfl;rfl;rfl;rfl;apply DW.skipU;rfl;rfl;rfl;rfl;apply DW.skipU;rfl;rfl;rfl;rfl;apply DW.skipU;rfl;rfl;rfl;rfl;apply DW.skipU;rfl;rfl;rfl;rfl;apply DW.skipU;rfl;rfl;rfl;rfl;apply DW.skipU;rfl;rfl;rfl;rfl;apply DW.skipU;rfl;rfl;rfl;rfl;apply DW.skipU;rfl;rfl;rfl;rfl;apply DW.skipU;rfl;rfl;rfl;rfl;apply DW.skipU;rfl;rfl;rfl;rfl;apply DW.skipU;rfl;rfl;rfl;rfl;apply DW.skipU;rfl;rfl;rfl;rfl;apply DW.skipU;rfl;rfl;rfl;rfl;apply DW.skipU;rfl;rfl;rfl;rfl;apply DW.nil;simp only [fsOf_cons,fsOf_nil,fsOf_app,fsOf_tsOf,fsOf_new,fsOf_tag,fsOf_mark];refine gUz<|gFz<|pFz<|nNz<|cFz<|zJ<|thenN<|sRz<|ldz rfl (.tail (.app (.tail (.app (.app .head))))) fr_rdW ?_;apply LW.v0;rfl;rfl;apply zW;infer_instance;infer_instance;exact zB;rfl;simp only [fillP,wrCells,Value.cells,qI,qJ,qK,qH,qM,qL,Nat.reduceAdd,qO];rfl)
    refine LW.callSt (K:=fun v fs'=>v=.tuple #[]∧fs'=(b7,.cells (fra z) 31 (0,0))::(g1++(gz++([(gm,.cells cur 29 (0,0)),(b3,.cells (fra y) 31 (0,0))])))) rfl rfl inferInstance (by (exact .cons rfl (.cons rfl .nil))) (fun w' hst=>?_) ?_
    ·refine Calls.mono (spoil_calls w [] G LU gG ((b7,.cells (fra z) 31 (0,0))::(g1++(gz++([(gm,.cells cur 29 (0,0)),(b3,.cells (fra y) 31 (0,0))])))) hG.toP w' (SubP.st ?_ hst)) fun x w' ⟨fs',⟨h1,h2⟩,hst⟩=>⟨_,_,h1,⟨rfl,h2⟩,hst⟩
     exact subp_ix [[_],gA,[_],gW,gu,[_],gG,[_],g1,gz] (xs:=[6,7,8,9]) (ys:=[0,1,2,3,4,5,6,7,8,9]) [_,_] rfl
    rintro _ _ ⟨rfl,rfl⟩
    (refine nSz<|ldz rfl (.tail (.app (.app (.tail .head)))) fr_rdW<|ldz rfl .head fr_rdW ?_;apply zS;rfl;rfl;infer_instance;exact .cons rfl (.cons rfl .nil);intro w _;rename_i hst;(exact hSw w (st_ou hst (by (repeat (first|exact qN _|exact qQ _ _|apply qR|apply List.sublist_append_of_sublist_right)))) (st_ou hst (by (repeat (first|exact qN _|exact qQ _ _|apply qR|apply List.sublist_append_of_sublist_right)))));refine lvz (.notT rfl (by with_reducible rfl)) ?_;refine nNz<|cFz<|zJ<|blkN<|thenN<|zL<|vMz ?_;refine lvz (.addZL rfl rfl (by decide) (by omega)) ?_;refine vAz ?_;apply zV)
    apply thenX
    exact ⟨rfl,i+1,⟨by omega,by omega,.inl (by omega)⟩,by show 8 - (i+1) < 8 - i;omega,⟨rfl,rfl,rfl,rfl,rfl,rfl,trivial⟩,qN _⟩
   ·obtain rfl:i=8:=by omega
    (refine zI<|sRz<|vMz<|vMz<|lvz (.lenR rfl inferInstance rfl) ?_;refine lvz (.lssT rfl rfl (by omega)) ?_;refine vMz<|gTz<|vMz<|gTz ?_;refine lvz (.lssF rfl rfl (by omega)) ?_;refine pTz<|nNz<|cFz<|CW.exit<|thenE<|thenE<|blkE rfl<|thenN<|sRz<|vAz<|nNz<|zK ?_)
    (apply finR;exact .inl rfl;rfl;rfl;rfl;apply zD;exact zG rfl;exact zF)
    rfl
  ·(refine zI<|sRz<|vMz<|vMz<|lvz (.lenR rfl inferInstance rfl) ?_;refine lvz (.lssF rfl rfl (by omega)) ?_;refine vMz<|gFz<|gFz<|pFz<|nNz<|cFz<|CW.exit<|thenE<|thenE<|blkE rfl<|thenN<|sRz<|vAz<|nNz ?_;refine zK ?_)
   (apply finR;exact .inl rfl;rfl;rfl;rfl;apply zD;exact zG rfl;exact zF)
   rfl
end Go.Proofs.YtdeggbkbblfpoaaGreatDoor
